/- Contracts: whether cues are valid, in the reference. -/
import Derived.Test.YtnbpkealigfmjaaCues
import Derived.Test.YtnbpkealigfmjaaQuietB
set_option linter.unusedSimpArgs false
set_option linter.unusedVariables false
namespace Go.Proofs.Ytnbpkealigfmjaa
open Go.RowKit Go.Sort

theorem Below.keepCu {B : Nat} {w w' : World} (hb : Below B w w') {b o : Nat} {u : Value} (h : w.cell? ⟨b, o, none⟩ = some u) (hB : w.heap.size ≤ B) : w'.cell? ⟨b, o, none⟩ = some u := by
  have : b < w.heap.size := World.block_lt_of_cell? w _ h
  exact (hb.cell (p := ⟨b, o, none⟩) (show b < B by omega)).trans h
theorem gxTk {α : Type} (R : Rec α) (l : List α) (k m : Nat) (hm : m < k) : gx R (l.take k) m = gx R l m := by
  unfold gx
  rw [List.getD_eq_getElem?_getD, List.getElem?_take, if_pos hm]; rfl
theorem tkLen {α : Type} {l : List α} {k : Nat} (h : k ≤ l.length) : (l.take k).length = k := by rw [List.length_take]; omega
theorem dupC_yes {l : List Cu} {k m : Nat} (hm : m < k) (hk : k < l.length) (h : ((gx cuRec l m).n.toList == (gx cuRec l k).n.toList) = true) : dupC l k = true := by
  unfold dupC; rw [List.any_eq_true]
  refine ⟨gx cuRec l m, ?_, h⟩
  rw [← gxTk cuRec l k m hm]
  exact gx_mem (by rw [tkLen (by omega)]; exact hm)
theorem dupC_no {l : List Cu} {k : Nat} (hk : k < l.length) (h : ∀ m, m < k → ((gx cuRec l m).n.toList == (gx cuRec l k).n.toList) = false) : dupC l k = false := by
  unfold dupC; rw [List.any_eq_false]
  intro y hy
  obtain ⟨i, hi, rfl⟩ := List.getElem_of_mem hy
  have hik : i < k := by rw [tkLen (by omega)] at hi; exact hi
  rw [← gx_eq (R := cuRec) hi, gxTk cuRec l k i hik, h i hik]; decide
set_option maxRecDepth 100000 in
set_option maxHeartbeats 6400000 in
theorem tiCues_any (v1 v : Value) (m : List Msr) (l : List Cu) (w : World) (hM : RowAt msrRec w v1 m) (h : RowAt cuRec w v l) (hw : WfCues l) (hm : isMus m = true) :
    Calls Try.prog 26 #[v1, v] w fun e w' => e = .returned (.bool (areC (counts m) l)) ∧ Below w.heap.size w w' := by
  obtain ⟨A1, c1, rfl, hn1, hd1⟩ := hM.shape
  obtain ⟨A, c, rfl, hnc, hc63⟩ := h.shape
  have Hw := Lib.hid hw
  clear hw
  obtain ⟨N, hN⟩ : ∃ N, N = counts m := ⟨_, rfl⟩
  have hNb : 1 ≤ N ∧ N ≤ 480 := by rw [hN]; exact counts_bd hm
  obtain ⟨n1, n2⟩ := hNb
  have hMC : ∀ w', RowAt msrRec w' (.slice A1 m.length c1) m → Calls Try.prog 40 #[.slice A1 m.length c1] w' (fun e w'' => e = .returned (.int .i64 N) ∧ Below w'.heap.size w' w'') := fun w' h' => by rw [hN]; exact muCounts_any _ m w' h' hm
  have HMC := Lib.hid hMC
  rw [← hN]
  clear hMC hN hm
  have hw8 : IntKind.i64.wrap (N - 1) = N - 1 := IntWalk.i64_in _ (by omega)
  go_enter Try.func26, Try.ntmps26
  go_wp2_with fail
  go_loopw [11] (fun s wr => ∃ k : Nat, k ≤ l.length ∧ s = .int .i64 k ∧ Hid (cuTo N l k) ∧ Below w.heap.size w wr) (fun s _ => l.length - (intOf s).toNat)
  case atStart => exact ⟨0, Nat.zero_le _, rfl, (fun i hi => absurd hi (by omega)), Below.refl _ _⟩
  case round =>
    obtain ⟨k, hk, rfl, hall, hb⟩ := hrel
    by_cases hlt : k < l.length
    · obtain ⟨b, o, rfl, hc0, hcn⟩ := cu_at (h.below hb (Nat.le_refl _)) k hlt
      have hwz := Hw.out k hlt
      have hbA : Below wr.heap.size wr (wr.alloc (.cells #[.int .i64 (gx cuRec l k).c, .string (gx cuRec l k).n] 61)) := (Below.refl _ _).alloc (Nat.le_refl _) _
      have hy0 : (wr.alloc (.cells #[.int .i64 (gx cuRec l k).c, .string (gx cuRec l k).n] 61)).cell? ⟨wr.heap.size, 0, none⟩ = some (.int .i64 (gx cuRec l k).c) := by go_simp
      have hy1 : (wr.alloc (.cells #[.int .i64 (gx cuRec l k).c, .string (gx cuRec l k).n] 61)).cell? ⟨wr.heap.size, 1, none⟩ = some (.string (gx cuRec l k).n) := by go_simp
      have hbX : Below w.heap.size w (wr.alloc (.cells #[.int .i64 (gx cuRec l k).c, .string (gx cuRec l k).n] 61)) := hb.trans (hbA.mono hb.size)
      have hX1 := hM.below hbX.drew (Nat.le_refl _)
      have hsz : wr.heap.size < (wr.alloc (.cells #[.int .i64 (gx cuRec l k).c, .string (gx cuRec l k).n] 61)).heap.size := by simp
      go_upto_region 4 with fail
      go_cut [43] (fun s wx => s = .bool (!preC N l k) ∧ wx.cell? ⟨wr.heap.size, 1, none⟩ = some (.string (gx cuRec l k).n) ∧ wr.heap.size < wx.heap.size ∧ Below w.heap.size w wx)
      case first =>
        obtain ⟨X, hX⟩ : ∃ X : World, X = (wr.alloc (.cells #[.int .i64 (gx cuRec l k).c, .string (gx cuRec l k).n] 61)) := ⟨_, rfl⟩
        rw [← hX] at hbA hy0 hy1 hbX hsz ⊢
        have hX1 := hM.below hbX (Nat.le_refl _)
        clear hX
        have k0 := cell_regrown hy0
        have k1 := cell_regrown hy1
        have cM : ∀ d os, Calls Try.prog 40 #[.slice A1 m.length c1] (grow (redrawn X d) os) (fun e w'' => e = .returned (.int .i64 N) ∧ ∃ p : Regrown, w'' = grow (redrawn X p.d) p.os) := fun d os => Calls.regrown_of (HMC.out _ (hX1.below (below_regrown X d os) (Nat.le_refl _)))
        rcases Nat.eq_zero_or_pos k with hk0 | hk0
        · have hg9 : (k : Int) ≤ 0 := by omega
          have hg8 : decide (0 < k) = false := decide_eq_false (by omega)
          have hg7 : (0 < k) = False := eq_false (by omega)
          have hkz := Lib.hid hk0
          clear hk0
          cases hs : inR (gx cuRec l k).c 0 (N - 1)
          case false =>
            have cI : ∀ d os, Calls Try.prog 60 #[.int .i64 (gx cuRec l k).c, .int .i64 0, .int .i64 (N - 1)] (grow (redrawn X d) os) (fun e w'' => e = .returned (.bool false) ∧ ∃ p : Regrown, w'' = grow (redrawn X p.d) p.os) := fun d os => rg_same (by rw [← hs]; exact l1In_any _ _ _ _)
            have hr := Lib.hid (preC_1 hs)
            (refine wp_region_quiet_below (by kernel_rfl) (by kernel_rfl) ?_; (repeat (go_big_quiet_step (first | exact cM _ _ | exact cI _ _))); refine wpQuiet_nil ?_; intro _ hw'; obtain ⟨⟨dq, osq⟩, hw''⟩ := hw'; subst hw'')
            go_wp2_with fail
            go_meet
            exact ⟨by rw [hr.out]; first | rfl | (rw [q9.out]; rfl), cell_regrown hy1 dq osq, Nat.lt_of_lt_of_le hsz (RG.size X dq osq), RG.below hbX hbX.size dq osq⟩
          case true =>
          have cI : ∀ d os, Calls Try.prog 60 #[.int .i64 (gx cuRec l k).c, .int .i64 0, .int .i64 (N - 1)] (grow (redrawn X d) os) (fun e w'' => e = .returned (.bool true) ∧ ∃ p : Regrown, w'' = grow (redrawn X p.d) p.os) := fun d os => rg_same (by rw [← hs]; exact l1In_any _ _ _ _)
          cases hn : isNm 8 (gx cuRec l k).n
          case false =>
            have cN : ∀ d os, Calls Try.prog 61 #[.string (gx cuRec l k).n] (grow (redrawn X d) os) (fun e w'' => e = .returned (.bool false) ∧ ∃ p : Regrown, w'' = grow (redrawn X p.d) p.os) := fun d os => rg_same (by rw [← hn]; exact tiName_any _ _ hwz)
            have hr := Lib.hid (preC_2 (N := N) hn)
            (refine wp_region_quiet_below (by kernel_rfl) (by kernel_rfl) ?_; (repeat (go_big_quiet_step (first | exact cM _ _ | exact cI _ _ | exact cN _ _))); refine wpQuiet_nil ?_; intro _ hw'; obtain ⟨⟨dq, osq⟩, hw''⟩ := hw'; subst hw'')
            go_wp2_with fail
            go_meet
            exact ⟨by rw [hr.out]; first | rfl | (rw [q9.out]; rfl), cell_regrown hy1 dq osq, Nat.lt_of_lt_of_le hsz (RG.size X dq osq), RG.below hbX hbX.size dq osq⟩
          case true =>
          have cN : ∀ d os, Calls Try.prog 61 #[.string (gx cuRec l k).n] (grow (redrawn X d) os) (fun e w'' => e = .returned (.bool true) ∧ ∃ p : Regrown, w'' = grow (redrawn X p.d) p.os) := fun d os => rg_same (by rw [← hn]; exact tiName_any _ _ hwz)
          have hr := Lib.hid (preC_t hs hn (by rw [hkz.out]; rfl))
          (refine wp_region_quiet_below (by kernel_rfl) (by kernel_rfl) ?_; (repeat (go_big_quiet_step (first | exact cM _ _ | exact cI _ _ | exact cN _ _))); refine wpQuiet_nil ?_; intro _ hw'; obtain ⟨⟨dq, osq⟩, hw''⟩ := hw'; subst hw'')
          go_wp2_with fail
          go_meet
          exact ⟨by rw [hr.out]; first | rfl | (rw [q9.out]; rfl), cell_regrown hy1 dq osq, Nat.lt_of_lt_of_le hsz (RG.size X dq osq), RG.below hbX hbX.size dq osq⟩
        · obtain ⟨j, hj⟩ : ∃ j, j + 1 = k := ⟨k - 1, by omega⟩
          obtain ⟨b9, o9, he9, hp0, hp1⟩ := cu_at (h.below hb (Nat.le_refl _)) j (by omega)
          injection he9 with he9; injection he9 with e1 e2; subst e1 e2
          clear hp1
          have hp9 := cell_regrown (Below.keepCu hbA hp0 (Nat.le_refl _))
          have hw9 : IntKind.i64.wrap ((k : Int) - 1) = (j : Int) := by rw [IntWalk.i64_in _ (by omega)]; omega
          have hg9 : (0 : Int) < (k : Int) := by omega
          have hj9 : (j : Int) < (l.length : Int) := by omega
          have hj8 : (0 : Int) ≤ (j : Int) := by omega
          have hor := Lib.hid (ordC_s l j)
          rw [hj] at hor
          have Hj := Lib.hid hj
          clear hj
          cases hs : inR (gx cuRec l k).c 0 (N - 1)
          case false =>
            have cI : ∀ d os, Calls Try.prog 60 #[.int .i64 (gx cuRec l k).c, .int .i64 0, .int .i64 (N - 1)] (grow (redrawn X d) os) (fun e w'' => e = .returned (.bool false) ∧ ∃ p : Regrown, w'' = grow (redrawn X p.d) p.os) := fun d os => rg_same (by rw [← hs]; exact l1In_any _ _ _ _)
            have hr := Lib.hid (preC_1 hs)
            (refine wp_region_quiet_below (by kernel_rfl) (by kernel_rfl) ?_; (repeat (go_big_quiet_step (first | exact cM _ _ | exact cI _ _))); refine wpQuiet_nil ?_; intro _ hw'; obtain ⟨⟨dq, osq⟩, hw''⟩ := hw'; subst hw'')
            go_wp2_with fail
            go_meet
            exact ⟨by rw [hr.out]; first | rfl | (rw [q9.out]; rfl), cell_regrown hy1 dq osq, Nat.lt_of_lt_of_le hsz (RG.size X dq osq), RG.below hbX hbX.size dq osq⟩
          case true =>
          have cI : ∀ d os, Calls Try.prog 60 #[.int .i64 (gx cuRec l k).c, .int .i64 0, .int .i64 (N - 1)] (grow (redrawn X d) os) (fun e w'' => e = .returned (.bool true) ∧ ∃ p : Regrown, w'' = grow (redrawn X p.d) p.os) := fun d os => rg_same (by rw [← hs]; exact l1In_any _ _ _ _)
          cases hn : isNm 8 (gx cuRec l k).n
          case false =>
            have cN : ∀ d os, Calls Try.prog 61 #[.string (gx cuRec l k).n] (grow (redrawn X d) os) (fun e w'' => e = .returned (.bool false) ∧ ∃ p : Regrown, w'' = grow (redrawn X p.d) p.os) := fun d os => rg_same (by rw [← hn]; exact tiName_any _ _ hwz)
            have hr := Lib.hid (preC_2 (N := N) hn)
            (refine wp_region_quiet_below (by kernel_rfl) (by kernel_rfl) ?_; (repeat (go_big_quiet_step (first | exact cM _ _ | exact cI _ _ | exact cN _ _))); refine wpQuiet_nil ?_; intro _ hw'; obtain ⟨⟨dq, osq⟩, hw''⟩ := hw'; subst hw'')
            go_wp2_with fail
            go_meet
            exact ⟨by rw [hr.out]; first | rfl | (rw [q9.out]; rfl), cell_regrown hy1 dq osq, Nat.lt_of_lt_of_le hsz (RG.size X dq osq), RG.below hbX hbX.size dq osq⟩
          case true =>
          have cN : ∀ d os, Calls Try.prog 61 #[.string (gx cuRec l k).n] (grow (redrawn X d) os) (fun e w'' => e = .returned (.bool true) ∧ ∃ p : Regrown, w'' = grow (redrawn X p.d) p.os) := fun d os => rg_same (by rw [← hn]; exact tiName_any _ _ hwz)
          rcases Int.lt_or_le (gx cuRec l j).c (gx cuRec l k).c with q | q
          · have q9 := Lib.hid (decide_eq_false (Int.not_le.2 q))
            have hr := Lib.hid (preC_t hs hn (hor.out.trans (decide_eq_true q)))
            (refine wp_region_quiet_below (by kernel_rfl) (by kernel_rfl) ?_; (repeat (go_big_quiet_step (first | exact cM _ _ | exact cI _ _ | exact cN _ _))); refine wpQuiet_nil ?_; intro _ hw'; obtain ⟨⟨dq, osq⟩, hw''⟩ := hw'; subst hw'')
            go_wp2_with fail
            go_meet
            exact ⟨by rw [hr.out]; first | rfl | (rw [q9.out]; rfl), cell_regrown hy1 dq osq, Nat.lt_of_lt_of_le hsz (RG.size X dq osq), RG.below hbX hbX.size dq osq⟩
          · have q9 := Lib.hid (decide_eq_true q)
            have hr := Lib.hid (preC_3 (N := N) (hor.out.trans (decide_eq_false (by omega))))
            (refine wp_region_quiet_below (by kernel_rfl) (by kernel_rfl) ?_; (repeat (go_big_quiet_step (first | exact cM _ _ | exact cI _ _ | exact cN _ _))); refine wpQuiet_nil ?_; intro _ hw'; obtain ⟨⟨dq, osq⟩, hw''⟩ := hw'; subst hw'')
            go_wp2_with fail
            go_meet
            exact ⟨by rw [hr.out]; first | rfl | (rw [q9.out]; rfl), cell_regrown hy1 dq osq, Nat.lt_of_lt_of_le hsz (RG.size X dq osq), RG.below hbX hbX.size dq osq⟩
      case rest =>
        obtain ⟨rfl, hz1, hsz1, hbc⟩ := hcut
        clear hy0 hy1 hX1 hsz hbX hbA hc0 hcn
        cases hok : preC N l k
        · have hr := Lib.hid (areC_no hlt (cuOk_pre hok))
          go_wp2_with fail
          go_ret
          exact ⟨ret_bool hr.out.symm, hbc⟩
        · have Hok := Lib.hid hok
          clear hok
          obtain ⟨wo, rfl⟩ : ∃ wo : World, wo = wr := ⟨_, rfl⟩
          have hcut2 := h.take k hk
          go_wp2_with fail
          go_loopw [48] (fun s wr => ∃ m : Nat, m ≤ k ∧ s = .int .i64 m ∧ Hid (∀ i, i < m → ((gx cuRec l i).n.toList == (gx cuRec l k).n.toList) = false) ∧ wr.cell? ⟨wo.heap.size, 1, none⟩ = some (.string (gx cuRec l k).n) ∧ wo.heap.size < wr.heap.size ∧ Below w.heap.size w wr) (fun s _ => k - (intOf s).toNat)
          case atStart => exact ⟨0, Nat.zero_le _, rfl, (fun i hi => absurd hi (by omega)), hz1, hsz1, hbc⟩
          case round =>
            obtain ⟨m, hmk, rfl, hno, hy1, hsz, hbm⟩ := hrel
            clear hz1 hsz1 hbc
            have hy : ∀ o, Below w.heap.size w (wr.alloc o) := fun o => hbm.alloc hbm.size o
            have Hy := Lib.hid hy
            clear hy
            by_cases hltm : m < k
            · obtain ⟨b', o', he, hd0, hd1⟩ := cu_at (hcut2.below hbm (Nat.le_refl _)) m (by rw [tkLen hk]; exact hltm)
              injection he with he; injection he with e1 e2; subst e1 e2
              rw [gxTk cuRec l k m hltm] at hd0 hd1
              cases e0 : ((gx cuRec l m).n.toList == (gx cuRec l k).n.toList)
              case true =>
                have hr := Lib.hid (areC_no (N := N) hlt (cuOk_dup (dupC_yes hltm hlt e0)))
                go_wp2_with fail
                go_ret
                exact ⟨ret_bool hr.out.symm, Hy.out _⟩
              case false =>
                have hn : Hid (∀ i, i < m + 1 → ((gx cuRec l i).n.toList == (gx cuRec l k).n.toList) = false) := fun i hi => by
                  by_cases e : i = m
                  · subst e; exact e0
                  · exact hno.out i (by omega)
                go_wp2_with fail
                go_roundw
                case rel => exact ⟨m + 1, by omega, by go_num, hn, by go_simp, by simp; omega, Hy.out _⟩
                case measure => simp [intOf]; omega
            · obtain rfl : m = k := by omega
              have hn := Lib.hid (cuTo_succ hall.out (cuOk_yes Hok.out (dupC_no hlt hno.out)))
              go_wp2_with fail
              go_roundw
              case rel => exact ⟨m + 1, by omega, by go_num, hn, hbm⟩
              case measure => simp [intOf]; omega
    · obtain rfl : k = l.length := by omega
      have hr := Lib.hid (areC_to hall.out)
      go_wp2_with fail
      go_ret
      exact ⟨ret_bool (by rw [hr.out]; simp; omega), hb⟩
end Go.Proofs.Ytnbpkealigfmjaa
