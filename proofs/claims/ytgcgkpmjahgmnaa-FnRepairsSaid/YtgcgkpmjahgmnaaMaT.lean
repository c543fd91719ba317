/- Contract: the reference's table of least sums lies in memory (of its values nothing is asked). -/
import Derived.Test.YtgcgkpmjahgmnaaMaP
import Derived.Test.YtgcgkpmjahgmnaaIntss
import Derived.Test.YtgcgkpmjahgmnaaMv
import Derived.Test.YtgcgkpmjahgmnaaMark
import Derived.RegionTactic
import Derived.BigRegion
import Derived.StillTailTactics
import Derived.Deep.DeepCutAuto
import Derived.Test.YtgcgkpmjahgmnaaTrS
import Derived.Test.YtgcgkpmjahgmnaaBoxS
set_option linter.unusedSimpArgs false
set_option linter.unusedVariables false
namespace Go.Proofs.Ytgcgkpmjahgmnaa
open Go.RowKit Go.Sort

theorem l1Least_st (a b : Int) (w : World) : Calls Try.prog 66 #[.int .i64 a, .int .i64 b] w fun e w' => e = .returned (.int .i64 (min a b)) ∧ w' = w := (l1Least_min a b w).mono fun _ _ ⟨h1, h2⟩ => ⟨h1, h2.symm⟩
theorem zrow_intsB (w : World) (base n : Nat) (hb : base ≤ w.heap.size) (hn : n ≤ 100000) : OwnInts (w.alloc (.cells (madeCells #[.int .i64 0] n) 3)) base (.slice (some ⟨w.heap.size, 0, none⟩) n n) (List.replicate n 0) := by
  have h := World.ownsRow_lit (base := base) (e := 3) (size := 1) w (madeCells #[.int .i64 0] n) n hb (by simp [maxLen]; omega) (by simp [size_madeCells])
  rw [toList_madeCells_one] at h
  unfold OwnInts
  have e : ints (List.replicate n 0) = List.replicate n (.int .i64 0) := by simp [ints]
  have e2 : (List.replicate n (0 : Int)).length = n := by simp
  rw [e, e2]
  exact h
theorem u64_small (q : Nat) (h : q ≤ 100) : IntKind.u64.wrap (q : Int) = q := by
  have e : ∀ x : Int, IntKind.u64.wrap x = x % 18446744073709551616 := fun x => by unfold IntKind.wrap; rfl
  rw [e]; omega
theorem wrap_powK {k : Nat} (h : k ≤ 16) : IntKind.i64.wrap (2 ^ k) = ((2 ^ k : Nat) : Int) := by
  have h2 : (2 : Nat) ^ k ≤ 2 ^ 16 := Nat.pow_le_pow_right (by omega) h
  have e9 : ((2 : Int) ^ k) = ((2 ^ k : Nat) : Int) := by push_cast; rfl
  rw [e9]
  generalize (2 : Nat) ^ k = Y at h2 ⊢
  exact IntWalk.i64_in (Y : Int) (by omega)
/-- A row of M integers in the block g. -/
def RowM (w : World) (base g M : Nat) : Prop := ∃ l : List Int, l.length = M ∧ OwnInts w base (.slice (some ⟨g, 0, none⟩) M M) l
theorem RowM.cell {w : World} {base g M : Nat} (h : RowM w base g M) (k : Nat) (hk : k < M) : ∃ x : Int, w.cell? ⟨g, k, none⟩ = some (.int .i64 x) ∧ w.frozen? ⟨g, k, none⟩ = false := by
  obtain ⟨l, hl, ho⟩ := h
  subst hl
  have h1 : w.cell? ⟨g, k, none⟩ = (ints l)[k]? := World.ownsRow.cellAt (n := l.length) ho k (by omega)
  refine ⟨gi l k, ?_, World.ownsRow.frozenAt ho k⟩
  rw [h1]
  unfold ints
  rw [List.getElem?_map, List.getElem?_eq_getElem hk, gi_eq hk]
  rfl
theorem RowM.put {w : World} {base g M : Nat} (h : RowM w base g M) (k : Nat) (x : Int) : RowM (w.setCell ⟨g, k, none⟩ (.int .i64 x)) base g M := by
  obtain ⟨l, hl, ho⟩ := h
  subst hl
  refine ⟨l.set k x, by simp, ?_⟩
  have := (World.ownsRow.stored ho k (.int .i64 x)).1
  unfold OwnInts
  rw [List.length_set]
  have e : (ints l).set k (.int .i64 x) = ints (l.set k x) := by unfold ints; rw [List.map_set]
  rw [← e]
  exact this
theorem RowM.drewN {w : World} {base g M : Nat} (h : RowM w base g M) (k : Nat) : RowM (w.drewN k) base g M := h
def TabPost (w : World) (M : Nat) (e : Ending) (w' : World) : Prop := ∃ g : Nat, e = .returned (.slice (some ⟨g, 0, none⟩) M M) ∧ w.heap.size ≤ g ∧ RowM w' w.heap.size g M ∧ Below w.heap.size w w'
set_option maxRecDepth 100000 in
set_option maxHeartbeats 12800000 in
theorem maTable_any (cv : Value) (ls : List (List Int)) (n : Nat) (w : World) (h : IntssAt w cv ls) (hn : ls.length = n) (h1 : 1 ≤ n) (h12 : n ≤ 12) (hr : ∀ i, i < n → (gl ls i).length = n) :
    Calls Try.prog 113 #[cv] w (TabPost w (2 ^ n)) := by
  obtain ⟨A, c, rfl, hnc, hc⟩ := h.shape
  have hM1 : (2 : Nat) ^ n ≤ 2 ^ 12 := Nat.pow_le_pow_right (by omega) h12
  have hM0 : 2 ≤ (2 : Nat) ^ n := by
    have : (2 : Nat) ^ 1 ≤ 2 ^ n := Nat.pow_le_pow_right (by omega) h1
    omega
  have hwp := wrap_pow (k := n) (by omega)
  have hxl := fun s k (hs : s < 2 ^ n) (hk : k < n) => xor_lt (s := s) (k := k) (n := n) hs hk
  have hcp := fun s (hs1 : 1 ≤ s) (hs2 : s < 2 ^ n) => cnt_pos (s := s) (n := n) hs1 hs2
  obtain ⟨M, hM⟩ : ∃ M, M = 2 ^ n := ⟨_, rfl⟩
  rw [← hM] at hM1 hM0 hwp hxl hcp
  rw [← hM]
  rw [hn]
  rw [hn] at h hnc
  have HM := Lib.hid hM
  have HN := Lib.hid hn
  have HR := Lib.hid hr
  have HXL := Lib.hid hxl
  have HCP := Lib.hid hcp
  have hmk := fun W => run_make_row' (P := Try.prog) 23 3 _ 8 Try.underlying23 info_int rfl .i64 .i64 M (by omega) (by omega) W
  clear hM hn hr hxl hcp
  go_enter Try.func113, Try.ntmps113
  go_wp2_with fail
  rw [hwp]
  go_loopw [5] (fun s wr => ∃ S : Nat, 1 ≤ S ∧ S ≤ M ∧ s = .int .i64 S ∧ RowM wr w.heap.size w.heap.size M ∧ Below w.heap.size w wr) (fun s _ => M - (intOf s).toNat)
  case atStart => exact ⟨1, Nat.le_refl _, by omega, rfl, ⟨_, by simp, zrow_intsB w w.heap.size M (Nat.le_refl _) (by omega)⟩, (Below.refl _ _).alloc (Nat.le_refl _) _⟩
  case round =>
    obtain ⟨S, hS1, hSM, rfl, hrow, hb⟩ := hrel
    clear hmk
    obtain ⟨w2, hw2⟩ : ∃ w9, w9 = wr := ⟨_, rfl⟩
    subst hw2
    by_cases hlt : S < M
    · have hlt2 : (S : Int) < (M : Int) := by omega
      go_wp2_with fail
      go_loop [6, 7] (fun z i => ∃ k : Nat, k ≤ n ∧ i = .int .i64 k ∧ z = .int .i64 (cnt S k : Nat)) (fun _ i => n - (intOf i).toNat)
      case atStart => exact ⟨0, Nat.zero_le _, rfl, rfl⟩
      case round =>
        obtain ⟨k, hk, rfl, rfl⟩ := hrel
        have hcl := cnt_le S k
        by_cases hlk : k < n
        · have b1 := bit_of S k (by omega)
          have hcs : cnt S (k + 1) = cnt S k + if S.testBit k then 1 else 0 := rfl
          obtain ⟨Z, hZ⟩ : ∃ Z, Z = cnt S k := ⟨_, rfl⟩
          rw [← hZ] at hcs hcl
          rw [← hZ]
          have HC := Lib.hid hcs
          clear hcs hZ
          cases hbit : S.testBit k
          all_goals
            rw [hbit] at b1 HC
            simp only [if_true, Bool.false_eq_true, if_false, ↓reduceIte] at b1 HC
            have b2 : bits .and .i64 ((S : Int) / 2 ^ k) 1 = _ := b1
            clear b1 hbit
            go_wp2_with fail
            go_round
            case rel => exact ⟨k + 1, by omega, by go_num, by rw [HC.out]; go_num⟩
            case measure => simp [intOf]; omega
        · obtain rfl : k = n := by omega
          have hZ1 := HCP.out S hS1 hlt
          obtain ⟨Z, hZ⟩ : ∃ Z, Z = cnt S k := ⟨_, rfl⟩
          rw [← hZ] at hZ1 hcl
          rw [← hZ]
          have HZ := Lib.hid hZ
          clear hZ
          obtain ⟨x0, hc0, hf0⟩ := hrow.cell S hlt
          have hput := hrow.put S 1000000000
          have hb3 := hb.setCell (p := ⟨w.heap.size, S, none⟩) (Nat.le_refl _) (.int .i64 1000000000)
          obtain ⟨bc, oc, A', c', heqA, hcc, hci⟩ := IntssAt.at_ h (k - Z) (by rw [HN.out]; omega)
          replace hcc := Below.keepC hb3 hcc (Nat.le_refl _)
          subst heqA
          rw [HR.out (k - Z) (by omega)] at hcc hci
          have HCI := Lib.hid hci
          have HB3 := Lib.hid hb3
          have HPUT := Lib.hid hput
          clear hci hb3 hput hrow
          go_wp2_with fail
          go_loopw [45] (fun i wr => ∃ q : Nat, q ≤ k ∧ i = .int .i64 q ∧ RowM wr w.heap.size w.heap.size M ∧ Below w.heap.size w wr) (fun i _ => k - (intOf i).toNat)
          case atStart => exact ⟨0, Nat.zero_le _, rfl, HPUT.out, HB3.out⟩
          case round =>
            obtain ⟨q, hq, rfl, hrow, hb4⟩ := hrel
            have hci := HCI.out.below hb4 (Nat.le_refl _)
            clear hc0 hf0 hcc
            by_cases hlq : q < k
            · obtain ⟨br, or_, heqA', hcr⟩ := IntsAt.at_ hci q (by rw [HR.out (k - Z) (by omega)]; exact hlq)
              subst heqA'
              have b1 := bit_of S q (by omega)
              cases hbit : S.testBit q
              case false =>
                rw [hbit] at b1
                simp only [Bool.false_eq_true, if_false, ↓reduceIte] at b1
                have b2 : bits .and .i64 ((S : Int) / 2 ^ q) 1 = _ := b1
                clear b1 hbit
                go_wp2_with fail
                go_roundw
                case rel => exact ⟨q + 1, by omega, by go_num, hrow, hb4⟩
                case measure => simp [intOf]; omega
              case true =>
                rw [hbit] at b1
                simp only [if_true, ↓reduceIte] at b1
                have b2 : bits .and .i64 ((S : Int) / 2 ^ q) 1 = _ := b1
                clear b1 hbit
                have hX := HXL.out S q hlt hlq
                have hxs := xor_small S (2 ^ q) (by omega) (by have : (2 : Nat) ^ q ≤ 2 ^ 12 := Nat.pow_le_pow_right (by omega) (by omega); omega)
                have hwq := wrap_pow (k := q) (by omega)
                have hwq0 := hwq
                obtain ⟨Y, hY⟩ : ∃ Y, Y = S ^^^ 2 ^ q := ⟨_, rfl⟩
                rw [← hY] at hX hxs
                rw [← hwq] at hxs
                obtain ⟨x1, hc1, hf1⟩ := hrow.cell S hlt
                obtain ⟨x2, hc2, hf2⟩ := hrow.cell Y hX
                obtain ⟨x3, hx3⟩ : ∃ z, z = gi (gl ls (k - Z)) q := ⟨_, rfl⟩
                rw [← hx3] at hcr
                have HROW := Lib.hid hrow
                have HB4 := Lib.hid hb4
                clear hwq hY hx3 hf2 hrow hb4 hci
                have hwi : IntKind.i64.wrap (2 ^ q) = ((2 ^ q : Nat) : Int) := wrap_powK (by omega)
                have hu64 := u64_small q (by omega)
                have hmin : min q 64 = q := by omega
                have hxs2 : bits .xor .i64 (S : Int) (IntKind.i64.wrap (2 ^ q)) = (Y : Int) := by rw [hwi, ← hwq0]; exact hxs
                clear hwi
                have y1 : (0 : Int) ≤ (Y : Int) := by omega
                have y2 : (Y : Int) < (M : Int) := by omega
                have y3 : (0 : Int) ≤ (S : Int) := by omega
                clear hwq0 hxs
                go_upto_region 16 with fail
                refine wp_region_still_tail 17 (by kernel_rfl) (by kernel_rfl) ?_
                simp only [List.take_succ_cons, List.take_zero, List.drop_succ_cons, List.drop_zero]
                repeat (first | still_step | (refine wpStill_step (fun K hK => ?_); go_simp; refine ⟨_, l1Least_st _ _ _, hK _ ?_⟩; clear hK K))
                refine wpStill_nil ?_
                go_wp2_with fail
                go_roundw
                case rel => exact ⟨q + 1, by omega, by go_num, HROW.out.put S _, (HB4.out.setCell (p := ⟨w.heap.size, S, none⟩) (Nat.le_refl _) _).drew⟩
                case measure => simp [intOf]; omega
            · obtain rfl : q = k := by omega
              go_wp2_with fail
              go_roundw
              case rel => exact ⟨S + 1, by omega, by omega, by go_num, hrow, hb4⟩
              case measure => simp [intOf]; omega
    · obtain rfl : S = M := by omega
      go_wp2_with fail
      go_ret
      exact ⟨_, rfl, Nat.le_refl _, hrow, hb⟩
end Go.Proofs.Ytgcgkpmjahgmnaa
/- Contract: the reference's least matching lies in memory (of its values nothing is asked). -/
set_option linter.unusedSimpArgs false
set_option linter.unusedVariables false
namespace Go.Proofs.Ytgcgkpmjahgmnaa
open Go.RowKit Go.Sort

def bestV (n : Nat) (b : Int) : Prop := b = -1 ∨ ∃ k : Nat, b = k ∧ k < n
def LeastPost (w : World) (e : Ending) (w' : World) : Prop := ∃ (v : Value) (l : List Int) (x : Int), e = .returned (.tuple #[v, .int .i64 x]) ∧ OwnInts w' w.heap.size v l ∧ l.length ≤ 12 ∧ Below w.heap.size w w'
theorem RowM.below {w w' : World} {base g M B : Nat} (h : RowM w base g M) (hb : Below B w w') (hB : w.heap.size ≤ B) : RowM w' base g M := by
  obtain ⟨l, hl, ho⟩ := h
  exact ⟨l, hl, ho.below hb hB⟩
theorem wrap_64 : IntKind.i64.wrap (2 ^ 64) = 0 := by decide +kernel
set_option maxRecDepth 100000 in
set_option maxHeartbeats 12800000 in
theorem maLeast_any (cv : Value) (ls : List (List Int)) (n : Nat) (w : World) (h : IntssAt w cv ls) (hn : ls.length = n) (h1 : 1 ≤ n) (h12 : n ≤ 12) (hr : ∀ i, i < n → (gl ls i).length = n) :
    Calls Try.prog 106 #[cv] w (LeastPost w) := by
  have CT := Lib.hid (maTable_any cv ls n w h hn h1 h12 hr)
  obtain ⟨A, c, rfl, hnc, hc⟩ := h.shape
  have hM1 : (2 : Nat) ^ n ≤ 2 ^ 12 := Nat.pow_le_pow_right (by omega) h12
  have hM0 : 2 ≤ (2 : Nat) ^ n := by
    have : (2 : Nat) ^ 1 ≤ 2 ^ n := Nat.pow_le_pow_right (by omega) h1
    omega
  have hxl := fun s k (hs : s < 2 ^ n) (hk : k < n) => xor_lt (s := s) (k := k) (n := n) hs hk
  obtain ⟨M, hM⟩ : ∃ M, M = 2 ^ n := ⟨_, rfl⟩
  rw [← hM] at hM1 hM0 hxl CT
  rw [hn] at h hnc CT
  rw [hn]
  have HN := Lib.hid hn
  have HR := Lib.hid hr
  have HXL := Lib.hid hxl
  clear hM hn hr hxl
  go_enter Try.func106, Try.ntmps106
  go_wp2_with fail
  refine CT.out.mono ?_; rintro e w1 ⟨g, rfl, hbg, hrow, b1⟩
  have hcast : (M : Int) - 1 = ((M - 1 : Nat) : Int) := by omega
  have HCA := Lib.hid hcast
  clear hcast
  have hs1 := b1.size
  have hI := h.below b1 (Nat.le_refl _)
  go_wp2_with fail
  go_loopw [5, 6, 19] (fun s o i wr => ∃ (k S : Nat), k ≤ n ∧ S < M ∧ i = .int .i64 k ∧ s = .int .i64 S ∧ (∃ l : List Int, l.length = k ∧ OwnInts wr w1.heap.size o l) ∧ Below w1.heap.size w1 wr) (fun _ _ i _ => n - (intOf i).toNat)
  case atStart => exact ⟨0, M - 1, Nat.zero_le _, by omega, rfl, by rw [HCA.out], ⟨[], rfl, World.ownsRow_nil w1 _ _ _⟩, Below.refl _ _⟩
  case round =>
    obtain ⟨k, S, hk, hS, rfl, rfl, ho, hb⟩ := hrel
    obtain ⟨w2, hw2⟩ : ∃ w9, w9 = wr := ⟨_, rfl⟩
    subst hw2
    by_cases hlt : k < n
    · obtain ⟨bc, oc, A', c', heqA, hcc, hci⟩ := IntssAt.at_ (hI.below hb (Nat.le_refl _)) k (by rw [HN.out]; exact hlt)
      subst heqA
      rw [HR.out k hlt] at hcc hci
      have HCI := Lib.hid hci
      have HO := Lib.hid ho
      have HB := Lib.hid hb
      have HROW := Lib.hid (hrow.below hb (Nat.le_refl _))
      clear hci ho hb
      go_wp2_with fail
      go_loopw [9, 25] (fun b i wr => ∃ (q : Nat) (bv : Int), q ≤ n ∧ i = .int .i64 q ∧ b = .int .i64 bv ∧ bestV n bv ∧ Below w2.heap.size w2 wr) (fun _ i _ => n - (intOf i).toNat)
      case atStart => exact ⟨0, -1, Nat.zero_le _, rfl, rfl, .inl rfl, Below.refl _ _⟩
      case round =>
        obtain ⟨q, bv, hq, rfl, rfl, hbv, hb3⟩ := hrel
        by_cases hlq : q < n
        · obtain ⟨br, or_, heqA', hcr⟩ := IntsAt.at_ (l := gl ls k) (HCI.out.below hb3 (Nat.le_refl _)) q (by rw [HR.out k hlt]; exact hlq)
          subst heqA'
          have b1' := bit_of S q (by omega)
          have hX := HXL.out S q hS hlq
          have hxs := xor_small S (2 ^ q) (by omega) (by have : (2 : Nat) ^ q ≤ 2 ^ 12 := Nat.pow_le_pow_right (by omega) (by omega); omega)
          have hwi : IntKind.i64.wrap (2 ^ q) = ((2 ^ q : Nat) : Int) := wrap_powK (by omega)
          have hu64 := u64_small q (by omega)
          have hmin : min q 64 = q := by omega
          obtain ⟨Y, hY⟩ : ∃ Y, Y = S ^^^ 2 ^ q := ⟨_, rfl⟩
          rw [← hY] at hX hxs
          rw [← hwi] at hxs
          obtain ⟨x1, hc1, _⟩ := (HROW.out.below hb3 (Nat.le_refl _)).cell S hS
          obtain ⟨x2, hc2, _⟩ := (HROW.out.below hb3 (Nat.le_refl _)).cell Y hX
          obtain ⟨x3, hx3⟩ : ∃ z, z = gi (gl ls k) q := ⟨_, rfl⟩
          rw [← hx3] at hcr
          have HBV := Lib.hid hbv
          clear hY hx3 hwi hbv
          have y1 : (0 : Int) ≤ (Y : Int) := by omega
          have y2 : (Y : Int) < (M : Int) := by omega
          have y3 : (0 : Int) ≤ (S : Int) := by omega
          have y4 : (S : Int) < (M : Int) := by omega
          have y5 : (0 : Int) ≤ (q : Int) := by omega
          have y6 : (q : Int) < (n : Int) := by omega
          have fd : (S : Int).fdiv (2 ^ q) = (S : Int) / 2 ^ q := by
            have e9 : ((2 : Int) ^ q) = ((2 ^ q : Nat) : Int) := by push_cast; rfl
            rw [e9]
            exact Int.fdiv_eq_ediv_of_nonneg _ (Int.natCast_nonneg _)
          rcases HBV.out with hbn | ⟨kb, hkb, hkb2⟩
          · subst hbn
            cases hbit : S.testBit q
            case false =>
              rw [hbit] at b1'
              simp only [Bool.false_eq_true, if_false, ↓reduceIte] at b1'
              have b2 : bits .and .i64 ((S : Int) / 2 ^ q) 1 = _ := b1'
              clear b1' hbit
              go_upto_region 11 with fail
              go_quiet (fail)
              go_wp2_with fail
              go_roundw
              case rel => exact ⟨q + 1, -1, by omega, by go_num, rfl, .inl rfl, hb3.drewN _⟩
              case measure => simp [intOf]; omega
            case true =>
              rw [hbit] at b1'
              simp only [if_true, ↓reduceIte] at b1'
              have b2 : bits .and .i64 ((S : Int) / 2 ^ q) 1 = _ := b1'
              clear b1' hbit
              go_upto_region 11 with fail
              go_quiet (fail)
              go_wp2_with fail
              · go_roundw
                case rel => exact ⟨q + 1, q, by omega, by go_num, rfl, .inr ⟨q, rfl, hlq⟩, hb3.drewN _⟩
                case measure => simp [intOf]; omega
              · go_roundw
                case rel => exact ⟨q + 1, -1, by omega, by go_num, rfl, .inl rfl, hb3.drewN _⟩
                case measure => simp [intOf]; omega
          · subst hkb
            have hkb3 : ¬ ((kb : Int) < 0) := by omega
            clear b1'
            go_upto_region 11 with fail
            go_quiet (fail)
            go_wp2_with fail
            go_roundw
            case rel => exact ⟨q + 1, kb, by omega, by go_num, rfl, .inr ⟨kb, rfl, hkb2⟩, hb3.drewN _⟩
            case measure => simp [intOf]; omega
        · obtain rfl : q = n := by omega
          obtain ⟨l, hl, ho⟩ := HO.out
          have ho3 := ho.below hb3 (Nat.le_refl _)
          have hsz3 : w1.heap.size ≤ wr.heap.size := Nat.le_trans HB.out.size hb3.size
          have h63 : l.length + 1 ≤ 1099511627776 := by omega
          have HL := Lib.hid hl
          clear ho hl
          rcases hbv with rfl | ⟨kb, rfl, hkb2⟩
          · go_wp2_with (at_builtin; refine wp_app_int _ rfl _ _ rfl w1.heap.size _ l rfl ho3 (-1) _ rfl rfl h63 hsz3 ?_; intro v4 w4 o4 g4)
            have e0 : wrap64 (2 ^ min (IntKind.u64.wrap (-1)).toNat 64) = 0 := by decide +kernel
            have e1 : bits .xor .i64 (S : Int) 0 = (S : Int) := by have := xor_small S 0 (by omega) (by omega); rw [Nat.xor_zero] at this; exact this
            go_roundw
            case rel => exact ⟨k + 1, S, by omega, hS, by go_num, by rw [e0, e1], ⟨l ++ [-1], by rw [List.length_append, List.length_singleton, HL.out], o4⟩, ((HB.out.trans (hb3.mono HB.out.size))).trans g4.below⟩
            case measure => simp [intOf]; omega
          · have hxs := xor_small S (2 ^ kb) (by omega) (by have : (2 : Nat) ^ kb ≤ 2 ^ 12 := Nat.pow_le_pow_right (by omega) (by omega); omega)
            have hwi := wrap_pow (k := kb) (by omega)
            have hX := HXL.out S kb hS hkb2
            obtain ⟨Y, hY⟩ : ∃ Y, Y = S ^^^ 2 ^ kb := ⟨_, rfl⟩
            rw [← hY] at hX hxs
            rw [← hwi] at hxs
            have HXS := Lib.hid hxs
            clear hY hwi hxs
            go_wp2_with (at_builtin; refine wp_app_int _ rfl _ _ rfl w1.heap.size _ l rfl ho3 (kb : Int) _ rfl rfl h63 hsz3 ?_; intro v4 w4 o4 g4)
            go_roundw
            case rel => exact ⟨k + 1, Y, by omega, hX, by go_num, by rw [HXS.out], ⟨l ++ [(kb : Int)], by rw [List.length_append, List.length_singleton, HL.out], o4⟩, ((HB.out.trans (hb3.mono HB.out.size))).trans g4.below⟩
            case measure => simp [intOf]; omega
    · obtain rfl : k = n := by omega
      obtain ⟨l, hl, ho⟩ := ho
      have hM1' : M - 1 < M := by omega
      obtain ⟨x1, hc1, _⟩ := (hrow.below hb (Nat.le_refl _)).cell (M - 1) hM1'
      have zM : IntKind.i64.wrap ((M : Int) - 1) = (M : Int) - 1 := IntWalk.i64_in _ (by omega)
      have zN : ((M : Int) - 1).toNat = M - 1 := by omega
      have z1 : (0 : Int) ≤ (M : Int) - 1 := by omega
      have z2 : (M : Int) - 1 < (M : Int) := by omega
      have OL := Lib.hid (ownsRow_lo ho b1.size)
      have HL := Lib.hid hl
      have BF := Lib.hid (b1.trans (hb.mono b1.size))
      obtain ⟨Ao, co, rfl, _, _⟩ := ho.reads.shape
      clear ho hl hM1'
      go_wp2_with fail
      go_quiet (fail)
      go_wp2_with fail
      go_ret2
      exact ⟨_, l, _, rfl, (show OwnInts _ _ _ _ from OL.out), by have := HL.out; omega, BF.out.drewN _⟩
end Go.Proofs.Ytgcgkpmjahgmnaa
/- Contracts: costs of a transition and the transition with the least sum, in the reference: they lie in memory. -/
set_option linter.unusedSimpArgs false
set_option linter.unusedVariables false
namespace Go.Proofs.Ytgcgkpmjahgmnaa
open Go.RowKit Go.Sort

theorem BoxS.keepB {w w' : World} {b B : Nat} {x y : Int} (h : BoxS w b x y) (hb : Below B w w') (hB : b < B) : BoxS w' b x y := (hb.block b hB).trans h
def IntPost (w : World) (e : Ending) (w' : World) : Prop := ∃ x : Int, e = .returned (.int .i64 x) ∧ Below w.heap.size w w'
set_option maxRecDepth 100000 in
set_option maxHeartbeats 3200000 in
theorem stSquare_ex (ax ay bx bY : Int) (w : World) :
    Calls Try.prog 114 #[.agg #[.int .i64 ax, .int .i64 ay], .agg #[.int .i64 bx, .int .i64 bY]] w (IntPost w) := by
  have bb := fun (o o' : Obj) => ((Below.refl w.heap.size w).alloc (Nat.le_refl _) o).alloc (by simp) o'
  have BB := Lib.hid bb
  clear bb
  go_enter Try.func114, Try.ntmps114
  go_wp2_with fail
  go_ret
  exact ⟨_, rfl, BB.out _ _⟩
def CostPost (w : World) (n m : Nat) (e : Ending) (w' : World) : Prop := ∃ (v : Value) (ls : List (List Int)), e = .returned v ∧ OwnIntss w' w.heap.size v ls ∧ ls.length = n ∧ (∀ i, i < n → (gl ls i).length = m) ∧ Below w.heap.size w w'
def AllLen (ls : List (List Int)) (m : Nat) : Prop := ∀ i, i < ls.length → (gl ls i).length = m
theorem AllLen.snoc {ls : List (List Int)} {m : Nat} (h : AllLen ls m) {l : List Int} (hl : l.length = m) : AllLen (ls ++ [l]) m := by
  intro i hi
  rw [List.length_append, List.length_singleton] at hi
  by_cases e : i < ls.length
  · have : gl (ls ++ [l]) i = gl ls i := by unfold gl; rw [List.getD_eq_getElem?_getD, List.getD_eq_getElem?_getD, List.getElem?_append_left e]
    rw [this]; exact h i e
  · have e2 : i = ls.length := by omega
    subst e2
    have : gl (ls ++ [l]) ls.length = l := by unfold gl; rw [List.getD_eq_getElem?_getD, List.getElem?_append_right (Nat.le_refl _), Nat.sub_self]; rfl
    rw [this]; exact hl
set_option maxRecDepth 100000 in
set_option maxHeartbeats 12800000 in
theorem asCosts_any (v1 v2 : Value) (a b : List Spt) (w : World) (h1 : RowAt sptRec w v1 a) (h2 : RowAt sptRec w v2 b) (ha : a.length ≤ 12) (hb2 : b.length ≤ 12) :
    Calls Try.prog 107 #[v1, v2] w (CostPost w a.length b.length) := by
  obtain ⟨A, c, rfl, hnc, hc⟩ := h1.shape
  obtain ⟨B, d, rfl, hnd, hd⟩ := h2.shape
  go_enter Try.func107, Try.ntmps107
  go_wp2_with fail
  go_loopw [5, 13] (fun o i wr => ∃ (k : Nat) (ls : List (List Int)), k ≤ a.length ∧ i = .int .i64 k ∧ ls.length = k ∧ AllLen ls b.length ∧ OwnIntss wr w.heap.size o ls ∧ Below w.heap.size w wr) (fun _ i _ => a.length - (intOf i).toNat)
  case atStart => exact ⟨0, [], Nat.zero_le _, rfl, rfl, (fun i hi => absurd hi (by simp)), OwnIntss.nil_ w _, Below.refl _ _⟩
  case round =>
    obtain ⟨k, ls, hk, rfl, hlk, hall, ho, hb⟩ := hrel
    obtain ⟨w2, hw2⟩ : ∃ w9, w9 = wr := ⟨_, rfl⟩
    subst hw2
    by_cases hlt : k < a.length
    · obtain ⟨ba, oa, heqA, y0, y1⟩ := spt_at (h1.below hb (Nat.le_refl _)) k hlt
      subst heqA
      obtain ⟨px, hpx⟩ : ∃ z, z = (gx sptRec a k).x := ⟨_, rfl⟩
      obtain ⟨py, hpy⟩ : ∃ z, z = (gx sptRec a k).y := ⟨_, rfl⟩
      rw [← hpx] at y0
      rw [← hpy] at y1
      have zB := BoxS.new w2 px py
      have bN := (Below.refl w2.heap.size w2).alloc (Nat.le_refl _) (.cells #[.int .i64 px, .int .i64 py] 69)
      have hsz : (w2.alloc (.cells #[.int .i64 px, .int .i64 py] 69)).heap.size = w2.heap.size + 1 := by simp
      obtain ⟨w3, hw3⟩ : ∃ W9 : World, W9 = w2.alloc (.cells #[.int .i64 px, .int .i64 py] 69) := ⟨_, rfl⟩
      rw [← hw3] at zB bN hsz
      have HW3 := Lib.hid hw3
      have HS := Lib.hid hsz
      have BN := Lib.hid bN
      have HO := Lib.hid ho
      have HL := Lib.hid hlk
      have HA := Lib.hid hall
      have HB := Lib.hid hb
      clear hpx hpy hw3 hsz bN ho hlk hall hb
      go_upto_region 5 with fail
      rw [← HW3.out]
      obtain ⟨X, hX⟩ : ∃ z, z = w2.heap.size := ⟨_, rfl⟩
      rw [← hX] at zB
      rw [← hX]
      have HX := Lib.hid hX
      clear hX y0 y1
      go_wp2_with fail
      go_loopw [8, 19] (fun o i wr => ∃ (q : Nat) (l : List Int), q ≤ b.length ∧ i = .int .i64 q ∧ l.length = q ∧ OwnInts wr w3.heap.size o l ∧ BoxS wr X px py ∧ Below w3.heap.size w3 wr) (fun _ i _ => b.length - (intOf i).toNat)
      case atStart => exact ⟨0, [], Nat.zero_le _, rfl, rfl, World.ownsRow_nil w3 _ _ _, zB, Below.refl _ _⟩
      case round =>
        obtain ⟨q, l, hq, rfl, hll, ho, zb, hb⟩ := hrel
        have hbw : Below w.heap.size w wr := (HB.out.trans (BN.out.mono HB.out.size)).trans (hb.mono (Nat.le_trans HB.out.size BN.out.size))
        by_cases hlq : q < b.length
        · obtain ⟨bb, ob, heqB, x0, x1⟩ := spt_at (h2.below hbw (Nat.le_refl _)) q hlq
          subst heqB
          obtain ⟨qx, hqx⟩ : ∃ z, z = (gx sptRec b q).x := ⟨_, rfl⟩
          obtain ⟨qy, hqy⟩ : ∃ z, z = (gx sptRec b q).y := ⟨_, rfl⟩
          rw [← hqx] at x0
          rw [← hqy] at x1
          obtain ⟨p0, p1, _, _⟩ := zb.cells
          have zb2 := zb.al (.cells #[.int .i64 qx, .int .i64 qy] 69)
          have ho2 := OwnInts.below ho ((Below.refl wr.heap.size wr).alloc (Nat.le_refl _) (.cells #[.int .i64 qx, .int .i64 qy] 69)) (Nat.le_refl _)
          have hb2' := hb.alloc hb.size (.cells #[.int .i64 qx, .int .i64 qy] 69)
          obtain ⟨w4, hw4⟩ : ∃ W9 : World, W9 = wr.alloc (.cells #[.int .i64 qx, .int .i64 qy] 69) := ⟨_, rfl⟩
          have yq := (BoxS.new wr qx qy).cells
          rw [← hw4] at zb2 ho2 hb2' yq
          obtain ⟨t0, t1, _, _⟩ := yq
          have HW4 := Lib.hid hw4
          have h63 : l.length + 1 ≤ 1099511627776 := by omega
          have HLL := Lib.hid hll
          clear hqx hqy hw4 zb ho hb hll
          go_upto_region 9 with fail
          rw [← HW4.out]
          obtain ⟨r0, r1, _, _⟩ := zb2.cells
          clear x0 x1 p0 p1
          go_wp2_with fail
          refine (stSquare_ex px py qx qy w4).mono ?_; rintro e w5 ⟨x, rfl, b5⟩
          have o5 := OwnInts.below ho2 b5 (Nat.le_refl _)
          have z5 := zb2.keep b5 (Nat.le_refl _)
          have bb5 := hb2'.next (Nat.le_refl _) b5
          go_wp2_with (at_builtin; refine wp_app_int _ rfl _ _ rfl w3.heap.size _ l rfl o5 x _ rfl rfl h63 bb5.size ?_; intro v6 w6 o6 g6)
          have z6 := z5.keepB g6.below (by have := HS.out; have := HX.out; omega)
          go_roundw
          case rel => exact ⟨q + 1, l ++ [x], by omega, by go_num, by rw [List.length_append, List.length_singleton, HLL.out], o6, z6, bb5.trans g6.below⟩
          case measure => simp [intOf]; omega
        · obtain rfl : q = b.length := by omega
          obtain ⟨Ar, cr, rfl, _, _⟩ := ho.reads.shape
          have hbl : Below w2.heap.size w2 wr := BN.out.trans (hb.mono BN.out.size)
          have hu : OwnInts wr w2.heap.size (.slice Ar l.length cr) l := ownsRow_lo ho BN.out.size
          have h63 : ls.length + 1 ≤ 1099511627776 := by have := HL.out; omega
          have HHL := Lib.hid hll
          clear hll
          go_wp2_with (at_builtin; refine wp_app_list w2 wr rfl _ _ (by rfl) w.heap.size _ ls (by rfl) HO.out HB.out.size hbl Ar l.length cr l hu _ (by rfl) (by rfl) h63 ?_; intro v6 w6 o6 b6)
          go_roundw
          case rel => exact ⟨k + 1, ls ++ [l], by omega, by go_num, by rw [List.length_append, List.length_singleton, HL.out], HA.out.snoc HHL.out, o6, HB.out.trans b6⟩
          case measure => simp [intOf]; omega
    · obtain rfl : k = a.length := by omega
      have HL := Lib.hid hlk
      clear hlk
      go_wp2_with fail
      go_ret
      exact ⟨_, ls, rfl, ho, HL.out, fun i hi => hall i (by rw [HL.out]; exact hi), hb⟩
end Go.Proofs.Ytgcgkpmjahgmnaa
/- Contracts: which charts a transition may lead between; LeastTransition, in the reference: it lies in memory. -/
set_option linter.unusedSimpArgs false
set_option linter.unusedVariables false
namespace Go.Proofs.Ytgcgkpmjahgmnaa
open Go.RowKit Go.Sort

def asked (a b : List Spt) (c : Int) : Bool := (isChart a && isChart b && (a.length == b.length)) && inR c 1 64
set_option maxRecDepth 100000 in
set_option maxHeartbeats 1600000 in
theorem asAsked_any (v1 v2 : Value) (a b : List Spt) (c : Int) (w : World) (h1 : RowAt sptRec w v1 a) (h2 : RowAt sptRec w v2 b) :
    Calls Try.prog 94 #[v1, v2, .int .i64 c] w fun e w' => e = .returned (.bool (asked a b c)) ∧ Below w.heap.size w w' := by
  have C1 := Lib.hid (chPair_any v1 v2 a b w h1 h2)
  have C2 := Lib.hid (fun W9 => l1In_any c 1 64 W9)
  cases q1 : (isChart a && isChart b && (a.length == b.length))
  · rw [q1] at C1
    have HR : Hid (asked a b c = false) := by show _ = _; unfold asked; rw [q1]; rfl
    go_enter Try.func94, Try.ntmps94
    go_wp2_with fail
    refine C1.out.mono ?_; rintro e w1 ⟨rfl, b1⟩
    go_wp2_with fail
    go_ret
    exact ⟨by rw [HR.out]; rfl, b1⟩
  · rw [q1] at C1
    have HR : Hid (asked a b c = inR c 1 64) := by show _ = _; unfold asked; rw [q1]; rfl
    go_enter Try.func94, Try.ntmps94
    go_wp2_with fail
    refine C1.out.mono ?_; rintro e w1 ⟨rfl, b1⟩
    go_wp2_with fail
    refine (C2.out _).mono ?_; rintro e _ ⟨rfl, rfl⟩
    go_wp2_with fail
    go_ret
    exact ⟨by rw [HR.out]; rfl, b1⟩
def LtPost (w : World) (e : Ending) (w' : World) : Prop := ∃ (f t p : Value) (T : Tr), e = .returned (.tuple #[.agg #[f, t, .int .i64 T.c, p], .bool true]) ∧ OwnT w' w.heap.size f t p T ∧ Below w.heap.size w w'
set_option maxRecDepth 100000 in
set_option maxHeartbeats 6400000 in
theorem leastTr_ok (v1 v2 : Value) (a b : List Spt) (c : Int) (w : World) (h1 : RowAt sptRec w v1 a) (h2 : RowAt sptRec w v2 b) (hq : asked a b c = true) :
    Calls Try.prog 95 #[v1, v2, .int .i64 c] w (LtPost w) := by
  have hq' := hq
  unfold asked at hq'
  rw [Bool.and_eq_true, Bool.and_eq_true, Bool.and_eq_true] at hq'
  obtain ⟨⟨⟨qa, qb⟩, qe⟩, qc⟩ := hq'
  have la := isChart_t qa
  have lb := isChart_t qb
  have qe' : a.length = b.length := by simpa using qe
  have bX := (Below.refl w.heap.size w).alloc (Nat.le_refl _) (.cells #[.slice none 0 0, .slice none 0 0, .int .i64 0, .slice none 0 0] 31)
  have zT := BoxT.new 31 w (.slice none 0 0) (.slice none 0 0) 0 (.slice none 0 0)
  have sX : (w.alloc (.cells #[.slice none 0 0, .slice none 0 0, .int .i64 0, .slice none 0 0] 31)).heap.size = w.heap.size + 1 := by simp
  obtain ⟨W, hW⟩ : ∃ W : World, W = w.alloc (.cells #[.slice none 0 0, .slice none 0 0, .int .i64 0, .slice none 0 0] 31) := ⟨_, rfl⟩
  rw [← hW] at bX zT sX
  have HW := Lib.hid hW
  have ZT := Lib.hid zT
  have HS := Lib.hid sX
  have H1 := Lib.hid (h1.below bX (Nat.le_refl _))
  have H2 := Lib.hid (h2.below bX (Nat.le_refl _))
  have HB := Lib.hid bX
  have C1 := Lib.hid (asAsked_any v1 v2 a b c W H1.out H2.out)
  rw [hq] at C1
  have C2 := Lib.hid (fun W9 B9 (hb : Below B9 W W9) (hB : W.heap.size ≤ B9) => asCosts_any v1 v2 a b W9 (H1.out.below hb hB) (H2.out.below hb hB) la.2.1 lb.2.1)
  rw [← qe'] at C2
  have C3 := Lib.hid (fun W9 cv (ls : List (List Int)) (hc : IntssAt W9 cv ls) (hl : ls.length = a.length) (hr : ∀ i, i < a.length → (gl ls i).length = a.length) => maLeast_any cv ls a.length W9 hc hl la.1 la.2.1 hr)
  have C4 := Lib.hid (fun W9 (p : Value) (l : List Int) B9 (hb : Below B9 W W9) (hB : W.heap.size ≤ B9) (hp : IntsAt W9 p l) (hl : l.length ≤ 12) => asWith_any v1 v2 p ⟨a, b, c, l⟩ c W9 ⟨H1.out.below hb hB, H2.out.below hb hB, hp⟩ (show a.length ≤ 1000 by omega) (show b.length ≤ 1000 by omega) (show l.length ≤ 1000 by omega))
  clear hW zT sX h1 h2 bX hq qa qb qe qc qe' la lb
  go_enter Try.func95, Try.ntmps95
  go_upto_region 1 with fail
  rw [← HW.out]
  go_wp2_with fail
  refine C1.out.mono ?_; rintro e w1 ⟨rfl, b1⟩
  go_wp2_with fail
  refine (C2.out _ _ b1 (Nat.le_refl _)).mono ?_; rintro e w2 ⟨cv, ls, rfl, oc, hl, hr, b2⟩
  have b12 := b1.next (Nat.le_refl _) b2
  have ocr := oc.reads
  have C3' := Lib.hid (C3.out w2 cv ls ocr hl hr)
  clear C2 C3 oc ocr hl hr
  go_wp2_with fail
  refine C3'.out.mono ?_; rintro e w3 ⟨v3, l, x, rfl, o3, hl3, b3⟩
  have b13 := b12.next (Nat.le_refl _) b3
  have C4' := Lib.hid (C4.out w3 v3 l _ b13 (Nat.le_refl _) o3.reads hl3)
  clear C3' C4 o3 hl3
  go_wp2_with fail
  refine C4'.out.mono ?_; rintro e w4 ⟨f4, t4, p4, rfl, o4, b4⟩
  have b14 := b13.next (Nat.le_refl _) b4
  have hS : w.heap.size < W.heap.size := by have := HS.out; omega
  have r7 := ZT.out.keep b14 hS
  obtain ⟨q0, q1, q2, q3⟩ := r7.cells
  obtain ⟨d0, d1, d2, d3⟩ := r7.free
  obtain ⟨A1, x1, rfl, _, _⟩ := o4.rf.reads.shape
  obtain ⟨A2, x2, rfl, _, _⟩ := o4.rt.reads.shape
  obtain ⟨A3, x3, rfl, _, _⟩ := o4.rp.reads.shape
  have o5 := o4.lo (Nat.le_trans b1.size (Nat.le_trans b2.size b3.size))
  have fin := (o5.setHi (.inl hS) (.slice A1 a.length x1) (.slice A2 b.length x2) c (.slice A3 l.length x3)).lo (show w.heap.size ≤ W.heap.size by omega)
  have bfin := below_setT (HB.out.next (Nat.le_refl _) b14) (Nat.le_refl _) (.slice A1 a.length x1) (.slice A2 b.length x2) c (.slice A3 l.length x3)
  have FIN := Lib.hid fin
  have BFIN := Lib.hid bfin
  obtain ⟨p0, p1, p2, p3'⟩ := (r7.set (.slice A1 a.length x1) (.slice A2 b.length x2) c (.slice A3 l.length x3)).cells
  have P9 := Lib.hid (And.intro p0 (And.intro p1 (And.intro p2 p3')))
  clear fin bfin o4 o5 b14 b13 b12 r7 p0 p1 p2 p3' hS
  go_wp2_with fail
  obtain ⟨p0, p1, p2, p3'⟩ := P9.out
  unfold setT at p0 p1 p2 p3'
  exact bodyPost_ret (v := .tuple #[.agg #[.slice A1 a.length x1, .slice A2 b.length x2, .int .i64 c, .slice A3 l.length x3], .bool true]) (by simp [results, Try.results95, go_sem, p0, p1, p2, p3']) rfl ⟨_, _, _, ⟨a, b, c, l⟩, rfl, FIN.out, BFIN.out⟩
end Go.Proofs.Ytgcgkpmjahgmnaa
