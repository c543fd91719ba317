/- Contracts: whether cues are valid, in the program. -/
import Derived.Test.YtnbpkealigfmjaaCuesS
set_option linter.unusedSimpArgs false
set_option linter.unusedVariables false
namespace Go.Proofs.Ytnbpkealigfmjaa
open Go.RowKit Go.Sort

/-- The first cue of which p holds, or -1. -/
def fndC (p : Cu → Bool) : List Cu → Nat → Int
  | [], _ => -1
  | x :: l, k => if p x then (k : Int) else fndC p l (k + 1)
theorem fndC_cases (p : Cu → Bool) (l : List Cu) (k : Nat) : (fndC p l k = -1 ∧ l.any p = false) ∨ (0 ≤ fndC p l k ∧ l.any p = true) := by
  induction l generalizing k with
  | nil => left; exact ⟨rfl, rfl⟩
  | cons x l ih =>
    unfold fndC
    cases h : p x
    · rw [if_neg (by decide)]
      rcases ih (k + 1) with ⟨h1, h2⟩ | ⟨h1, h2⟩
      · left; exact ⟨h1, by rw [List.any_cons, h, h2]; rfl⟩
      · right; exact ⟨h1, by rw [List.any_cons, h2]; simp⟩
    · right; rw [if_pos rfl]; exact ⟨by omega, by rw [List.any_cons, h]; rfl⟩
theorem fndC_hit {p : Cu → Bool} {l : List Cu} {k : Nat} (h : k < l.length) (e : p (gx cuRec l k) = true) : fndC p (l.drop k) k = (k : Int) := by
  rw [drop_gx cuRec l k h]; unfold fndC; rw [if_pos e]
theorem fndC_miss {p : Cu → Bool} {l : List Cu} {k : Nat} (h : k < l.length) (e : p (gx cuRec l k) = false) : fndC p (l.drop k) k = fndC p (l.drop (k + 1)) (k + 1) := by
  rw [drop_gx cuRec l k h]
  conv => lhs; unfold fndC
  rw [if_neg (by rw [e]; decide)]
theorem cuesClosure (x : Cu) (bx : Nat) (s : ByteArray) (w : World) (hc : w.cell? ⟨bx, 1, none⟩ = some (.string s)) :
    Calls Try.prog 64 #[.agg #[.int .i64 x.c, .string x.n], .pointer (some ⟨bx, 0, none⟩)] w fun e w' => e = .returned (.bool (x.n.toList == s.toList)) ∧ Below w.heap.size w w' := by
  have hlt : bx < w.heap.size := World.block_lt_of_cell? w _ hc
  have hb := fun o => (Below.refl w.heap.size w).alloc (Nat.le_refl _) o
  have Hb := Lib.hid hb
  clear hb
  go_enter Try.func64, Try.ntmps64
  go_wp2_with fail
  go_ret
  exact ⟨rfl, Hb.out _⟩
set_option maxHeartbeats 1600000 in
theorem cuIndex (v : Value) (es : List Cu) (bx : Nat) (s : ByteArray) (w : World) (h : RowAt cuRec w v es) (hc : w.cell? ⟨bx, 1, none⟩ = some (.string s)) :
    Calls Try.prog 79 #[v, .func (.func 64) #[] #[.pointer (some ⟨bx, 0, none⟩)]] w
      fun e w' => e = .returned (.int .i64 (fndC (fun x => x.n.toList == s.toList) es 0)) ∧ Below w.heap.size w w' := by
  obtain ⟨A, c, rfl, hnc, hc63⟩ := h.shape
  obtain ⟨p, hp⟩ : ∃ p : Cu → Bool, p = (fun x => x.n.toList == s.toList) := ⟨_, rfl⟩
  have Hp := Lib.hid hp
  rw [← hp]
  clear hp
  go_enter Try.func79, Try.ntmps79
  go_wp2_with fail
  go_loopw [8] (fun s wr => ∃ k : Nat, k ≤ es.length ∧ s = .int .i64 k ∧ Hid (fndC p es 0 = fndC p (es.drop k) k) ∧ Below w.heap.size w wr) (fun s _ => es.length - (intOf s).toNat)
  case atStart => exact ⟨0, Nat.zero_le _, rfl, rfl, Below.refl _ _⟩
  case round =>
    obtain ⟨k, hk, rfl, hfn, hb⟩ := hrel
    by_cases hlt : k < es.length
    · obtain ⟨b, o, rfl, hc0, hc1⟩ := cu_at (h.below hb (Nat.le_refl _)) k hlt
      have hcx := Below.keepCu hb hc (Nat.le_refl _)
      cases hx : p (gx cuRec es k)
      · have hn := Lib.hid (hfn.out.trans (fndC_miss hlt hx))
        have hx2 : ((gx cuRec es k).n.toList == s.toList) = false := by rw [Hp.out] at hx; exact hx
        clear hx
        go_wp2_with (go_at_call 64; refine (cuesClosure (gx cuRec es k) bx s _ hcx).mono ?_; rintro e w1 ⟨rfl, b1⟩)
        go_roundw
        case rel => exact ⟨k + 1, by omega, by go_num, hn, hb.next (Nat.le_refl _) b1⟩
        case measure => simp [intOf]; omega
      · have hn := Lib.hid (hfn.out.trans (fndC_hit hlt hx))
        have hx2 : ((gx cuRec es k).n.toList == s.toList) = true := by rw [Hp.out] at hx; exact hx
        clear hx
        go_wp2_with (go_at_call 64; refine (cuesClosure (gx cuRec es k) bx s _ hcx).mono ?_; rintro e w1 ⟨rfl, b1⟩)
        go_ret
        exact ⟨ret_int hn.out.symm, hb.next (Nat.le_refl _) b1⟩
    · obtain rfl : k = es.length := by omega
      have hn : Hid (fndC p es 0 = -1) := by
        show _ = _
        rw [hfn.out, List.drop_length]; rfl
      go_wp2_with fail
      go_ret
      exact ⟨ret_int hn.out.symm, hb⟩
theorem cuContains (v : Value) (es : List Cu) (bx : Nat) (s : ByteArray) (w : World) (h : RowAt cuRec w v es) (hc : w.cell? ⟨bx, 1, none⟩ = some (.string s)) :
    Calls Try.prog 63 #[v, .func (.func 64) #[] #[.pointer (some ⟨bx, 0, none⟩)]] w
      fun e w' => e = .returned (.bool (es.any (fun x => x.n.toList == s.toList))) ∧ Below w.heap.size w w' := by
  obtain ⟨A, c, rfl, hnc, hc63⟩ := h.shape
  go_enter Try.func63, Try.ntmps63
  go_wp2_with fail
  refine (cuIndex _ es bx s _ h hc).mono ?_; rintro e w1 ⟨rfl, b1⟩
  go_wp2_with fail
  go_ret
  refine ⟨ret_bool ?_, b1⟩
  rcases fndC_cases (fun x => x.n.toList == s.toList) es 0 with ⟨h1, h2⟩ | ⟨h1, h2⟩
  · rw [h1, h2]; rfl
  · rw [h2]; exact decide_eq_true h1
set_option maxRecDepth 100000 in
set_option maxHeartbeats 6400000 in
theorem areCues_any (v1 v : Value) (m : List Msr) (l : List Cu) (w : World) (hM : RowAt msrRec w v1 m) (h : RowAt cuRec w v l) (hw : WfCues l) (hm : isMus m = true) :
    Calls Try.prog 30 #[v1, v] w fun e w' => e = .returned (.bool (areC (counts m) l)) ∧ Below w.heap.size w w' := by
  obtain ⟨A1, c1, rfl, hn1, hd1⟩ := hM.shape
  obtain ⟨A, c, rfl, hnc, hc63⟩ := h.shape
  have Hw := Lib.hid hw
  clear hw
  obtain ⟨N, hN⟩ : ∃ N, N = counts m := ⟨_, rfl⟩
  have hNb : 1 ≤ N ∧ N ≤ 480 := by rw [hN]; exact counts_bd hm
  obtain ⟨n1, n2⟩ := hNb
  have hMC : ∀ w', RowAt msrRec w' (.slice A1 m.length c1) m → Calls Try.prog 37 #[.slice A1 m.length c1] w' (fun e w'' => e = .returned (.int .i64 N) ∧ Below w'.heap.size w' w'') := fun w' h' => by rw [hN]; exact countsOf_any _ m w' h' hm
  have HMC := Lib.hid hMC
  rw [← hN]
  clear hMC hN hm
  have hw8 : IntKind.i64.wrap (N - 1) = N - 1 := IntWalk.i64_in _ (by omega)
  by_cases h30 : 30 < l.length
  · have hr := Lib.hid (areC_len (N := N) h30)
    go_enter Try.func30, Try.ntmps30
    go_wp2_with fail
    go_ret
    exact ⟨ret_bool hr.out.symm, Below.refl _ _⟩
  go_enter Try.func30, Try.ntmps30
  go_wp2_with fail
  refine (HMC.out _ hM).mono ?_; rintro e w9 ⟨rfl, b9⟩
  go_wp2_with fail
  go_loopw [15] (fun s wr => ∃ k : Nat, k ≤ l.length ∧ s = .int .i64 k ∧ Hid (cuTo N l k) ∧ Below w.heap.size w wr) (fun s _ => l.length - (intOf s).toNat)
  case atStart => exact ⟨0, Nat.zero_le _, rfl, (fun i hi => absurd hi (by omega)), b9⟩
  case round =>
    obtain ⟨k, hk, rfl, hall, hb⟩ := hrel
    by_cases hlt : k < l.length
    · obtain ⟨b, o, rfl, hc0, hcn⟩ := cu_at (h.below hb (Nat.le_refl _)) k hlt
      have hwz := Hw.out k hlt
      have hbA : Below wr.heap.size wr (wr.alloc (.cells #[.int .i64 (gx cuRec l k).c, .string (gx cuRec l k).n] 61)) := (Below.refl _ _).alloc (Nat.le_refl _) _
      have hy0 : (wr.alloc (.cells #[.int .i64 (gx cuRec l k).c, .string (gx cuRec l k).n] 61)).cell? ⟨wr.heap.size, 0, none⟩ = some (.int .i64 (gx cuRec l k).c) := by go_simp
      have hy1 : (wr.alloc (.cells #[.int .i64 (gx cuRec l k).c, .string (gx cuRec l k).n] 61)).cell? ⟨wr.heap.size, 1, none⟩ = some (.string (gx cuRec l k).n) := by go_simp
      have hbX : Below w.heap.size w (wr.alloc (.cells #[.int .i64 (gx cuRec l k).c, .string (gx cuRec l k).n] 61)) := hb.trans (hbA.mono hb.size)
      have hsz : wr.heap.size < (wr.alloc (.cells #[.int .i64 (gx cuRec l k).c, .string (gx cuRec l k).n] 61)).heap.size := by simp
      go_upto_region 7 with fail
      go_cut [52] (fun s wx => s = .bool (!preC N l k) ∧ wx.cell? ⟨wr.heap.size, 1, none⟩ = some (.string (gx cuRec l k).n) ∧ wr.heap.size < wx.heap.size ∧ Below w.heap.size w wx)
      case first =>
        obtain ⟨X, hX⟩ : ∃ X : World, X = (wr.alloc (.cells #[.int .i64 (gx cuRec l k).c, .string (gx cuRec l k).n] 61)) := ⟨_, rfl⟩
        rw [← hX] at hbA hy0 hy1 hbX hsz ⊢
        clear hX
        have k0 := cell_regrown hy0
        have k1 := cell_regrown hy1
        rcases Nat.eq_zero_or_pos k with hk0 | hk0
        · have hg9 : (k : Int) ≤ 0 := by omega
          have hg8 : decide (0 < k) = false := decide_eq_false (by omega)
          have hg7 : (0 < k) = False := eq_false (by omega)
          have hkz := Lib.hid hk0
          clear hk0
          cases hs : inR (gx cuRec l k).c 0 (N - 1)
          case false =>
            have cI : ∀ d os, Calls Try.prog 36 #[.int .i64 (gx cuRec l k).c, .int .i64 0, .int .i64 (N - 1)] (grow (redrawn X d) os) (fun e w'' => e = .returned (.bool false) ∧ ∃ p : Regrown, w'' = grow (redrawn X p.d) p.os) := fun d os => rg_same (by rw [← hs]; exact within_any _ _ _ _)
            have hr := Lib.hid (preC_1 hs)
            (refine wp_region_quiet_below (by kernel_rfl) (by kernel_rfl) ?_; (repeat (go_big_quiet_step (first | exact cI _ _))); refine wpQuiet_nil ?_; intro _ hw'; obtain ⟨⟨dq, osq⟩, hw''⟩ := hw'; subst hw'')
            go_wp2_with fail
            go_meet
            exact ⟨by rw [hr.out]; first | rfl | (rw [q9.out]; rfl), cell_regrown hy1 dq osq, Nat.lt_of_lt_of_le hsz (RG.size X dq osq), RG.below hbX hbX.size dq osq⟩
          case true =>
          have cI : ∀ d os, Calls Try.prog 36 #[.int .i64 (gx cuRec l k).c, .int .i64 0, .int .i64 (N - 1)] (grow (redrawn X d) os) (fun e w'' => e = .returned (.bool true) ∧ ∃ p : Regrown, w'' = grow (redrawn X p.d) p.os) := fun d os => rg_same (by rw [← hs]; exact within_any _ _ _ _)
          by_cases h8 : 8 < (gx cuRec l k).n.size
          · have g8 : decide ((8 : Int) < ((gx cuRec l k).n.size : Int)) = true := decide_eq_true (by omega)
            have hr := Lib.hid (preC_2 (N := N) (isNm_long h8))
            (refine wp_region_quiet_below (by kernel_rfl) (by kernel_rfl) ?_; (repeat (go_big_quiet_step (first | exact cI _ _))); refine wpQuiet_nil ?_; intro _ hw'; obtain ⟨⟨dq, osq⟩, hw''⟩ := hw'; subst hw'')
            go_wp2_with fail
            go_meet
            exact ⟨by rw [hr.out]; first | rfl | (rw [q9.out]; rfl), cell_regrown hy1 dq osq, Nat.lt_of_lt_of_le hsz (RG.size X dq osq), RG.below hbX hbX.size dq osq⟩
          have g8 : decide ((8 : Int) < ((gx cuRec l k).n.size : Int)) = false := decide_eq_false (by omega)
          cases hn : isNm 12 (gx cuRec l k).n
          case false =>
            have cN : ∀ d os, Calls Try.prog 62 #[.string (gx cuRec l k).n] (grow (redrawn X d) os) (fun e w'' => e = .returned (.bool false) ∧ ∃ p : Regrown, w'' = grow (redrawn X p.d) p.os) := fun d os => rg_same (by rw [← hn]; exact implIsName _ _ hwz)
            have hr := Lib.hid (preC_2 (N := N) ((isNm_short (by omega)).symm.trans hn))
            (refine wp_region_quiet_below (by kernel_rfl) (by kernel_rfl) ?_; (repeat (go_big_quiet_step (first | exact cI _ _ | exact cN _ _))); refine wpQuiet_nil ?_; intro _ hw'; obtain ⟨⟨dq, osq⟩, hw''⟩ := hw'; subst hw'')
            go_wp2_with fail
            go_meet
            exact ⟨by rw [hr.out]; first | rfl | (rw [q9.out]; rfl), cell_regrown hy1 dq osq, Nat.lt_of_lt_of_le hsz (RG.size X dq osq), RG.below hbX hbX.size dq osq⟩
          case true =>
          have cN : ∀ d os, Calls Try.prog 62 #[.string (gx cuRec l k).n] (grow (redrawn X d) os) (fun e w'' => e = .returned (.bool true) ∧ ∃ p : Regrown, w'' = grow (redrawn X p.d) p.os) := fun d os => rg_same (by rw [← hn]; exact implIsName _ _ hwz)
          have hn8 := (isNm_short (s := (gx cuRec l k).n) (by omega)).symm.trans hn
          have hr := Lib.hid (preC_t hs hn8 (by rw [hkz.out]; rfl))
          (refine wp_region_quiet_below (by kernel_rfl) (by kernel_rfl) ?_; (repeat (go_big_quiet_step (first | exact cI _ _ | exact cN _ _))); refine wpQuiet_nil ?_; intro _ hw'; obtain ⟨⟨dq, osq⟩, hw''⟩ := hw'; subst hw'')
          go_wp2_with fail
          go_meet
          exact ⟨by rw [hr.out]; first | rfl | (rw [q9.out]; rfl), cell_regrown hy1 dq osq, Nat.lt_of_lt_of_le hsz (RG.size X dq osq), RG.below hbX hbX.size dq osq⟩
        · obtain ⟨j, hj⟩ : ∃ j, j + 1 = k := ⟨k - 1, by omega⟩
          obtain ⟨b9, o9, he9, hp0, hp1⟩ := cu_at (h.below hb (Nat.le_refl _)) j (by omega)
          injection he9 with he9; injection he9 with e1 e2; subst e1 e2
          clear hp1
          have hp9 := cell_regrown (Below.keepCu hbA hp0 (Nat.le_refl _))
          have hw9 : IntKind.i64.wrap ((k : Int) - 1) = (j : Int) := by rw [IntWalk.i64_in _ (by omega)]; omega
          have hg9 : (0 : Int) < (k : Int) := by omega
          have hj9 : (j : Int) < (l.length : Int) := by omega
          have hj8 : (0 : Int) ≤ (j : Int) := by omega
          have hor := Lib.hid (ordC_s l j)
          rw [hj] at hor
          have Hj := Lib.hid hj
          clear hj
          cases hs : inR (gx cuRec l k).c 0 (N - 1)
          case false =>
            have cI : ∀ d os, Calls Try.prog 36 #[.int .i64 (gx cuRec l k).c, .int .i64 0, .int .i64 (N - 1)] (grow (redrawn X d) os) (fun e w'' => e = .returned (.bool false) ∧ ∃ p : Regrown, w'' = grow (redrawn X p.d) p.os) := fun d os => rg_same (by rw [← hs]; exact within_any _ _ _ _)
            have hr := Lib.hid (preC_1 hs)
            (refine wp_region_quiet_below (by kernel_rfl) (by kernel_rfl) ?_; (repeat (go_big_quiet_step (first | exact cI _ _))); refine wpQuiet_nil ?_; intro _ hw'; obtain ⟨⟨dq, osq⟩, hw''⟩ := hw'; subst hw'')
            go_wp2_with fail
            go_meet
            exact ⟨by rw [hr.out]; first | rfl | (rw [q9.out]; rfl), cell_regrown hy1 dq osq, Nat.lt_of_lt_of_le hsz (RG.size X dq osq), RG.below hbX hbX.size dq osq⟩
          case true =>
          have cI : ∀ d os, Calls Try.prog 36 #[.int .i64 (gx cuRec l k).c, .int .i64 0, .int .i64 (N - 1)] (grow (redrawn X d) os) (fun e w'' => e = .returned (.bool true) ∧ ∃ p : Regrown, w'' = grow (redrawn X p.d) p.os) := fun d os => rg_same (by rw [← hs]; exact within_any _ _ _ _)
          by_cases h8 : 8 < (gx cuRec l k).n.size
          · have g8 : decide ((8 : Int) < ((gx cuRec l k).n.size : Int)) = true := decide_eq_true (by omega)
            have hr := Lib.hid (preC_2 (N := N) (isNm_long h8))
            (refine wp_region_quiet_below (by kernel_rfl) (by kernel_rfl) ?_; (repeat (go_big_quiet_step (first | exact cI _ _))); refine wpQuiet_nil ?_; intro _ hw'; obtain ⟨⟨dq, osq⟩, hw''⟩ := hw'; subst hw'')
            go_wp2_with fail
            go_meet
            exact ⟨by rw [hr.out]; first | rfl | (rw [q9.out]; rfl), cell_regrown hy1 dq osq, Nat.lt_of_lt_of_le hsz (RG.size X dq osq), RG.below hbX hbX.size dq osq⟩
          have g8 : decide ((8 : Int) < ((gx cuRec l k).n.size : Int)) = false := decide_eq_false (by omega)
          cases hn : isNm 12 (gx cuRec l k).n
          case false =>
            have cN : ∀ d os, Calls Try.prog 62 #[.string (gx cuRec l k).n] (grow (redrawn X d) os) (fun e w'' => e = .returned (.bool false) ∧ ∃ p : Regrown, w'' = grow (redrawn X p.d) p.os) := fun d os => rg_same (by rw [← hn]; exact implIsName _ _ hwz)
            have hr := Lib.hid (preC_2 (N := N) ((isNm_short (by omega)).symm.trans hn))
            (refine wp_region_quiet_below (by kernel_rfl) (by kernel_rfl) ?_; (repeat (go_big_quiet_step (first | exact cI _ _ | exact cN _ _))); refine wpQuiet_nil ?_; intro _ hw'; obtain ⟨⟨dq, osq⟩, hw''⟩ := hw'; subst hw'')
            go_wp2_with fail
            go_meet
            exact ⟨by rw [hr.out]; first | rfl | (rw [q9.out]; rfl), cell_regrown hy1 dq osq, Nat.lt_of_lt_of_le hsz (RG.size X dq osq), RG.below hbX hbX.size dq osq⟩
          case true =>
          have cN : ∀ d os, Calls Try.prog 62 #[.string (gx cuRec l k).n] (grow (redrawn X d) os) (fun e w'' => e = .returned (.bool true) ∧ ∃ p : Regrown, w'' = grow (redrawn X p.d) p.os) := fun d os => rg_same (by rw [← hn]; exact implIsName _ _ hwz)
          have hn8 := (isNm_short (s := (gx cuRec l k).n) (by omega)).symm.trans hn
          rcases Int.lt_or_le (gx cuRec l j).c (gx cuRec l k).c with q | q
          · have q9 := Lib.hid (decide_eq_false (Int.not_le.2 q))
            have hr := Lib.hid (preC_t hs hn8 (hor.out.trans (decide_eq_true q)))
            (refine wp_region_quiet_below (by kernel_rfl) (by kernel_rfl) ?_; (repeat (go_big_quiet_step (first | exact cI _ _ | exact cN _ _))); refine wpQuiet_nil ?_; intro _ hw'; obtain ⟨⟨dq, osq⟩, hw''⟩ := hw'; subst hw'')
            go_wp2_with fail
            go_meet
            exact ⟨by rw [hr.out]; first | rfl | (rw [q9.out]; rfl), cell_regrown hy1 dq osq, Nat.lt_of_lt_of_le hsz (RG.size X dq osq), RG.below hbX hbX.size dq osq⟩
          · have q9 := Lib.hid (decide_eq_true q)
            have hr := Lib.hid (preC_3 (N := N) (hor.out.trans (decide_eq_false (by omega))))
            (refine wp_region_quiet_below (by kernel_rfl) (by kernel_rfl) ?_; (repeat (go_big_quiet_step (first | exact cI _ _ | exact cN _ _))); refine wpQuiet_nil ?_; intro _ hw'; obtain ⟨⟨dq, osq⟩, hw''⟩ := hw'; subst hw'')
            go_wp2_with fail
            go_meet
            exact ⟨by rw [hr.out]; first | rfl | (rw [q9.out]; rfl), cell_regrown hy1 dq osq, Nat.lt_of_lt_of_le hsz (RG.size X dq osq), RG.below hbX hbX.size dq osq⟩
      case rest =>
        obtain ⟨rfl, hz1, hsz1, hbc⟩ := hcut
        clear hy0 hy1 hsz hbX hbA hc0 hcn
        cases hok : preC N l k
        · have hr := Lib.hid (areC_no hlt (cuOk_pre hok))
          go_wp2_with fail
          go_ret
          exact ⟨ret_bool hr.out.symm, hbc⟩
        · have Hok := Lib.hid hok
          clear hok
          obtain ⟨wo, rfl⟩ : ∃ wo : World, wo = wr := ⟨_, rfl⟩
          have hcut2 := (h.take k hk).below hbc (Nat.le_refl _)
          have hwk : k ≤ c := by omega
          cases hd : dupC l k
          case false =>
            have hr := Lib.hid (cuTo_succ hall.out (cuOk_yes Hok.out hd))
            have hd2 : (l.take k).any (fun x => x.n.toList == (gx cuRec l k).n.toList) = false := hd
            have hC : ∀ v9, v9 = Value.slice (some ⟨b, o, none⟩) k c → Calls Try.prog 63 #[v9, .func (.func 64) #[] #[.pointer (some ⟨wo.heap.size, 0, none⟩)]] wc (fun e w' => e = .returned (.bool false) ∧ Below wc.heap.size wc w') := fun v9 e9 => by rw [e9, ← hd2]; exact cuContains _ _ _ _ _ hcut2 hz1
            have HC := Lib.hid hC
            clear hC hd hd2
            go_wp2_with (go_at_call 63; refine (HC.out _ rfl).mono ?_; rintro e w5 ⟨rfl, b5⟩)
            go_roundw
            case rel => exact ⟨k + 1, by omega, by go_num, hr, hbc.next (Nat.le_refl _) b5⟩
            case measure => simp [intOf]; omega
          case true =>
            have hr := Lib.hid (areC_no (N := N) hlt (cuOk_dup hd))
            have hd2 : (l.take k).any (fun x => x.n.toList == (gx cuRec l k).n.toList) = true := hd
            have hC : ∀ v9, v9 = Value.slice (some ⟨b, o, none⟩) k c → Calls Try.prog 63 #[v9, .func (.func 64) #[] #[.pointer (some ⟨wo.heap.size, 0, none⟩)]] wc (fun e w' => e = .returned (.bool true) ∧ Below wc.heap.size wc w') := fun v9 e9 => by rw [e9, ← hd2]; exact cuContains _ _ _ _ _ hcut2 hz1
            have HC := Lib.hid hC
            clear hC hd hd2
            go_wp2_with (go_at_call 63; refine (HC.out _ rfl).mono ?_; rintro e w5 ⟨rfl, b5⟩)
            go_ret
            exact ⟨ret_bool hr.out.symm, hbc.next (Nat.le_refl _) b5⟩
    · obtain rfl : k = l.length := by omega
      have hr := Lib.hid (areC_to hall.out)
      go_wp2_with fail
      go_ret
      exact ⟨ret_bool (by rw [hr.out]; simp; omega), hb⟩
end Go.Proofs.Ytnbpkealigfmjaa
