/- Contracts: LeastDelays, RepairSwap, IsRepair, SwapPlaces, in the program and in the reference; comparisons of lists. -/
import Derived.Test.YtgcgkpmjahgmnaaRpK
set_option linter.unusedSimpArgs false
set_option linter.unusedVariables false
namespace Go.Proofs.Ytgcgkpmjahgmnaa
open Go.RowKit Go.Sort

def good (T : Tr) (L : Int) : Bool := isRp T && inR L 0 80
def dlR (T : Tr) (L : Int) : Option (List Int) := if good T L then dl T L else none
def swR (T : Tr) (L : Int) : Option (Nat × Nat) := if good T L then swapR T L else none
theorem good_t {T : Tr} {L : Int} (h : good T L = true) : isRp T = true ∧ inR L 0 80 = true := by
  unfold good at h
  rw [Bool.and_eq_true] at h
  exact h
def DelIs (w0 w : World) (st : Option (List Int)) (v : Value) (sm : Int) : Prop := match st with | none => v = .slice none 0 0 ∧ sm = 0 | some l => (∃ g n c, v = .slice (some ⟨g, 0, none⟩) n c) ∧ OwnInts w w0.heap.size v l ∧ sm = sumI l
def LdPost (w : World) (st : Option (List Int)) (e : Ending) (w' : World) : Prop := ∃ (v : Value) (sm : Int), e = .returned (.tuple #[v, .int .i64 sm, .bool st.isSome]) ∧ Below w.heap.size w w' ∧ DelIs w w' st v sm
def SwPost (w : World) (r : Option (Nat × Nat)) (e : Ending) (w' : World) : Prop := e = .returned (swapV3 r) ∧ Below w.heap.size w w'
def IsPost (w : World) (b : Bool) (e : Ending) (w' : World) : Prop := e = .returned (.tuple #[.bool b, .bool true]) ∧ Below w.heap.size w w' 
set_option maxRecDepth 100000 in
set_option maxHeartbeats 6400000 in
theorem implLeastDelays (f t p : Value) (T : Tr) (L : Int) (w : World) (h : TrAt w f t p T) :
    Calls Try.prog 11 #[.agg #[f, t, .int .i64 T.c, p], .int .i64 L] w (LdPost w (dlR T L)) := by
  have bX := (Below.refl w.heap.size w).alloc (Nat.le_refl _) (.cells #[f, t, .int .i64 T.c, p] 31)
  have zT := BoxT.new 31 w f t T.c p
  obtain ⟨W, hW⟩ : ∃ W : World, W = w.alloc (.cells #[f, t, .int .i64 T.c, p] 31) := ⟨_, rfl⟩
  rw [← hW] at bX zT
  have HW := Lib.hid hW
  have ZT := Lib.hid zT
  clear hW zT
  have HX := Lib.hid (h.below bX (Nat.le_refl _))
  have HB := Lib.hid bX
  clear h bX
  have C1 := Lib.hid (isRepaired_any _ _ _ T W HX.out)
  cases q1 : isRp T
  · rw [q1] at C1
    have HR : Hid (dlR T L = none) := by show _ = _; unfold dlR good; rw [q1]; rfl
    go_enter Try.func11, Try.ntmps11
    go_upto_region 1 with fail
    rw [← HW.out]
    obtain ⟨a0, a1, a2, a3⟩ := ZT.out.cells
    go_wp2_with fail
    refine C1.out.mono ?_; rintro e w1 ⟨rfl, b1⟩
    go_wp2_with fail
    go_ret3
    exact ⟨.slice none 0 0, 0, by rw [HR.out]; rfl, HB.out.next (Nat.le_refl _) b1, by rw [HR.out]; exact ⟨rfl, rfl⟩⟩
  rw [q1] at C1
  have C2 := Lib.hid (fun W9 => isLeast_any L W9)
  cases q2 : inR L 0 80
  · rw [q2] at C2
    have HR : Hid (dlR T L = none) := by show _ = _; unfold dlR good; rw [q1, q2]; rfl
    go_enter Try.func11, Try.ntmps11
    go_upto_region 1 with fail
    rw [← HW.out]
    obtain ⟨a0, a1, a2, a3⟩ := ZT.out.cells
    go_wp2_with fail
    refine C1.out.mono ?_; rintro e w1 ⟨rfl, b1⟩
    go_wp2_with fail
    refine (C2.out _).mono ?_; rintro e _ ⟨rfl, rfl⟩
    go_wp2_with fail
    go_ret3
    exact ⟨.slice none 0 0, 0, by rw [HR.out]; rfl, HB.out.next (Nat.le_refl _) b1, by rw [HR.out]; exact ⟨rfl, rfl⟩⟩
  rw [q2] at C2
  have hL := inR_t.1 q2
  have hr0 : dlR T L = dl T L := by unfold dlR good; rw [q1, q2]; rfl
  have C3 := Lib.hid (fun W9 B (hb : Below B W W9) (hB : W.heap.size ≤ B) => leastDelays_any _ _ _ T L W9 (HX.out.below hb hB) q1 hL.1 hL.2)
  clear hL
  cases q3 : dl T L with
  | none =>
    rw [q3] at C3 hr0
    have HR := Lib.hid hr0
    clear hr0
    go_enter Try.func11, Try.ntmps11
    go_upto_region 1 with fail
    rw [← HW.out]
    obtain ⟨a0, a1, a2, a3⟩ := ZT.out.cells
    go_wp2_with fail
    refine C1.out.mono ?_; rintro e w1 ⟨rfl, b1⟩
    go_wp2_with fail
    refine (C2.out _).mono ?_; rintro e _ ⟨rfl, rfl⟩
    have zz := ZT.out.keep b1 ZT.out.lt
    clear a0 a1 a2 a3
    obtain ⟨a0, a1, a2, a3⟩ := zz.cells
    go_wp2_with fail
    refine (C3.out _ _ b1 (Nat.le_refl _)).mono ?_; rintro e w2 ⟨v2, sm2, rfl, b2, hv⟩
    have b12 := b1.next (Nat.le_refl _) b2
    obtain ⟨rfl, rfl⟩ := hv
    go_wp2_with fail
    go_ret3
    exact ⟨.slice none 0 0, 0, by rw [HR.out]; rfl, HB.out.next (Nat.le_refl _) b12, by rw [HR.out]; exact ⟨rfl, rfl⟩⟩
  | some l =>
    rw [q3] at C3 hr0
    have HR := Lib.hid hr0
    have hl0 := dl_pos q1 q3
    have hl1 : (0 : Int) < (l.length : Int) := by omega
    clear hr0
    go_enter Try.func11, Try.ntmps11
    go_upto_region 1 with fail
    rw [← HW.out]
    obtain ⟨a0, a1, a2, a3⟩ := ZT.out.cells
    go_wp2_with fail
    refine C1.out.mono ?_; rintro e w1 ⟨rfl, b1⟩
    go_wp2_with fail
    refine (C2.out _).mono ?_; rintro e _ ⟨rfl, rfl⟩
    have zz := ZT.out.keep b1 ZT.out.lt
    clear a0 a1 a2 a3
    obtain ⟨a0, a1, a2, a3⟩ := zz.cells
    go_wp2_with fail
    refine (C3.out _ _ b1 (Nat.le_refl _)).mono ?_; rintro e w2 ⟨v2, sm2, rfl, b2, hv⟩
    have b12 := b1.next (Nat.le_refl _) b2
    obtain ⟨⟨g9, n9, c9, hg9⟩, ho, rfl⟩ := hv
    subst hg9
    obtain ⟨A8, c8, he8, _, _⟩ := ho.reads.shape
    injection he8 with he1 he2 he3
    subst he1 he2 he3
    have ho2 : OwnInts w2 w.heap.size (.slice (some ⟨g9, 0, none⟩) l.length c9) l := ownsRow_lo ho (Nat.le_trans HB.out.size b1.size)
    have HO := Lib.hid ho2
    clear ho ho2
    go_wp2_with fail
    go_ret3
    exact ⟨.slice (some ⟨g9, 0, none⟩) l.length c9, sumI l, by rw [HR.out]; rfl, HB.out.next (Nat.le_refl _) b12, by rw [HR.out]; exact ⟨⟨_, _, _, rfl⟩, HO.out, rfl⟩⟩
set_option maxRecDepth 100000 in
set_option maxHeartbeats 6400000 in
theorem specLeastDelays (f t p : Value) (T : Tr) (L : Int) (w : World) (h : TrAt w f t p T) :
    Calls Try.prog 12 #[.agg #[f, t, .int .i64 T.c, p], .int .i64 L] w (LdPost w (dlR T L)) := by
  have bX := (Below.refl w.heap.size w).alloc (Nat.le_refl _) (.cells #[f, t, .int .i64 T.c, p] 31)
  have zT := BoxT.new 31 w f t T.c p
  obtain ⟨W, hW⟩ : ∃ W : World, W = w.alloc (.cells #[f, t, .int .i64 T.c, p] 31) := ⟨_, rfl⟩
  rw [← hW] at bX zT
  have HW := Lib.hid hW
  have ZT := Lib.hid zT
  clear hW zT
  have HX := Lib.hid (h.below bX (Nat.le_refl _))
  have HB := Lib.hid bX
  clear h bX
  have C1 := Lib.hid (rpGood_any _ _ _ T W HX.out)
  cases q1 : isRp T
  · rw [q1] at C1
    have HR : Hid (dlR T L = none) := by show _ = _; unfold dlR good; rw [q1]; rfl
    go_enter Try.func12, Try.ntmps12
    go_upto_region 1 with fail
    rw [← HW.out]
    obtain ⟨a0, a1, a2, a3⟩ := ZT.out.cells
    go_wp2_with fail
    refine C1.out.mono ?_; rintro e w1 ⟨rfl, b1⟩
    go_wp2_with fail
    go_ret3
    exact ⟨.slice none 0 0, 0, by rw [HR.out]; rfl, HB.out.next (Nat.le_refl _) b1, by rw [HR.out]; exact ⟨rfl, rfl⟩⟩
  rw [q1] at C1
  have C2 := Lib.hid (fun W9 => apDistance_any L W9)
  cases q2 : inR L 0 80
  · rw [q2] at C2
    have HR : Hid (dlR T L = none) := by show _ = _; unfold dlR good; rw [q1, q2]; rfl
    go_enter Try.func12, Try.ntmps12
    go_upto_region 1 with fail
    rw [← HW.out]
    obtain ⟨a0, a1, a2, a3⟩ := ZT.out.cells
    go_wp2_with fail
    refine C1.out.mono ?_; rintro e w1 ⟨rfl, b1⟩
    go_wp2_with fail
    refine (C2.out _).mono ?_; rintro e _ ⟨rfl, rfl⟩
    go_wp2_with fail
    go_ret3
    exact ⟨.slice none 0 0, 0, by rw [HR.out]; rfl, HB.out.next (Nat.le_refl _) b1, by rw [HR.out]; exact ⟨rfl, rfl⟩⟩
  rw [q2] at C2
  have hL := inR_t.1 q2
  have hr0 : dlR T L = dl T L := by unfold dlR good; rw [q1, q2]; rfl
  have C3 := Lib.hid (fun W9 B (hb : Below B W W9) (hB : W.heap.size ≤ B) => rpDelays_any _ _ _ T L W9 (HX.out.below hb hB) q1 hL.1 hL.2)
  clear hL
  cases q3 : dl T L with
  | none =>
    rw [q3] at C3 hr0
    have HR := Lib.hid hr0
    clear hr0
    go_enter Try.func12, Try.ntmps12
    go_upto_region 1 with fail
    rw [← HW.out]
    obtain ⟨a0, a1, a2, a3⟩ := ZT.out.cells
    go_wp2_with fail
    refine C1.out.mono ?_; rintro e w1 ⟨rfl, b1⟩
    go_wp2_with fail
    refine (C2.out _).mono ?_; rintro e _ ⟨rfl, rfl⟩
    have zz := ZT.out.keep b1 ZT.out.lt
    clear a0 a1 a2 a3
    obtain ⟨a0, a1, a2, a3⟩ := zz.cells
    go_wp2_with fail
    refine (C3.out _ _ b1 (Nat.le_refl _)).mono ?_; rintro e w2 ⟨v2, sm2, rfl, b2, hv⟩
    have b12 := b1.next (Nat.le_refl _) b2
    obtain ⟨rfl, rfl⟩ := hv
    go_wp2_with fail
    go_ret3
    exact ⟨.slice none 0 0, 0, by rw [HR.out]; rfl, HB.out.next (Nat.le_refl _) b12, by rw [HR.out]; exact ⟨rfl, rfl⟩⟩
  | some l =>
    rw [q3] at C3 hr0
    have HR := Lib.hid hr0
    have hl0 := dl_pos q1 q3
    have hl1 : (0 : Int) < (l.length : Int) := by omega
    clear hr0
    go_enter Try.func12, Try.ntmps12
    go_upto_region 1 with fail
    rw [← HW.out]
    obtain ⟨a0, a1, a2, a3⟩ := ZT.out.cells
    go_wp2_with fail
    refine C1.out.mono ?_; rintro e w1 ⟨rfl, b1⟩
    go_wp2_with fail
    refine (C2.out _).mono ?_; rintro e _ ⟨rfl, rfl⟩
    have zz := ZT.out.keep b1 ZT.out.lt
    clear a0 a1 a2 a3
    obtain ⟨a0, a1, a2, a3⟩ := zz.cells
    go_wp2_with fail
    refine (C3.out _ _ b1 (Nat.le_refl _)).mono ?_; rintro e w2 ⟨v2, sm2, rfl, b2, hv⟩
    have b12 := b1.next (Nat.le_refl _) b2
    obtain ⟨⟨g9, n9, c9, hg9⟩, ho, rfl⟩ := hv
    subst hg9
    obtain ⟨A8, c8, he8, _, _⟩ := ho.reads.shape
    injection he8 with he1 he2 he3
    subst he1 he2 he3
    have ho2 : OwnInts w2 w.heap.size (.slice (some ⟨g9, 0, none⟩) l.length c9) l := ownsRow_lo ho (Nat.le_trans HB.out.size b1.size)
    have HO := Lib.hid ho2
    clear ho ho2
    go_wp2_with fail
    go_ret3
    exact ⟨.slice (some ⟨g9, 0, none⟩) l.length c9, sumI l, by rw [HR.out]; rfl, HB.out.next (Nat.le_refl _) b12, by rw [HR.out]; exact ⟨⟨_, _, _, rfl⟩, HO.out, rfl⟩⟩
set_option maxRecDepth 100000 in
set_option maxHeartbeats 6400000 in
theorem implRepairSwap (f t p : Value) (T : Tr) (L : Int) (w : World) (h : TrAt w f t p T) :
    Calls Try.prog 13 #[.agg #[f, t, .int .i64 T.c, p], .int .i64 L] w (SwPost w (swR T L)) := by
  have bX := (Below.refl w.heap.size w).alloc (Nat.le_refl _) (.cells #[f, t, .int .i64 T.c, p] 31)
  have zT := BoxT.new 31 w f t T.c p
  obtain ⟨W, hW⟩ : ∃ W : World, W = w.alloc (.cells #[f, t, .int .i64 T.c, p] 31) := ⟨_, rfl⟩
  rw [← hW] at bX zT
  have HW := Lib.hid hW
  have ZT := Lib.hid zT
  clear hW zT
  have HX := Lib.hid (h.below bX (Nat.le_refl _))
  have HB := Lib.hid bX
  clear h bX
  have C1 := Lib.hid (isRepaired_any _ _ _ T W HX.out)
  cases q1 : isRp T
  · rw [q1] at C1
    have HR : Hid (swR T L = none) := by show _ = _; unfold swR good; rw [q1]; rfl
    go_enter Try.func13, Try.ntmps13
    go_upto_region 1 with fail
    rw [← HW.out]
    obtain ⟨a0, a1, a2, a3⟩ := ZT.out.cells
    go_wp2_with fail
    refine C1.out.mono ?_; rintro e w1 ⟨rfl, b1⟩
    go_wp2_with fail
    go_ret3
    exact ⟨by rw [HR.out]; rfl, HB.out.next (Nat.le_refl _) b1⟩
  rw [q1] at C1
  have C2 := Lib.hid (fun W9 => isLeast_any L W9)
  cases q2 : inR L 0 80
  · rw [q2] at C2
    have HR : Hid (swR T L = none) := by show _ = _; unfold swR good; rw [q1, q2]; rfl
    go_enter Try.func13, Try.ntmps13
    go_upto_region 1 with fail
    rw [← HW.out]
    obtain ⟨a0, a1, a2, a3⟩ := ZT.out.cells
    go_wp2_with fail
    refine C1.out.mono ?_; rintro e w1 ⟨rfl, b1⟩
    go_wp2_with fail
    refine (C2.out _).mono ?_; rintro e _ ⟨rfl, rfl⟩
    go_wp2_with fail
    go_ret3
    exact ⟨by rw [HR.out]; rfl, HB.out.next (Nat.le_refl _) b1⟩
  rw [q2] at C2
  have hL := inR_t.1 q2
  have hr0 : swR T L = swapR T L := by unfold swR good; rw [q1, q2]; rfl
  have C3 := Lib.hid (fun W9 B (hb : Below B W W9) (hB : W.heap.size ≤ B) => repairSwap_any _ _ _ T L W9 (HX.out.below hb hB) q1 hL.1 hL.2)
  clear hL
  cases q3 : swapR T L with
  | none =>
    rw [q3] at C3 hr0
    have HR := Lib.hid hr0
    unfold swapV3 at C3
    clear hr0
    go_enter Try.func13, Try.ntmps13
    go_upto_region 1 with fail
    rw [← HW.out]
    obtain ⟨a0, a1, a2, a3⟩ := ZT.out.cells
    go_wp2_with fail
    refine C1.out.mono ?_; rintro e w1 ⟨rfl, b1⟩
    go_wp2_with fail
    refine (C2.out _).mono ?_; rintro e _ ⟨rfl, rfl⟩
    have zz := ZT.out.keep b1 ZT.out.lt
    clear a0 a1 a2 a3
    obtain ⟨a0, a1, a2, a3⟩ := zz.cells
    go_wp2_with fail
    refine (C3.out _ _ b1 (Nat.le_refl _)).mono ?_; rintro e w2 ⟨rfl, b2⟩
    have b12 := b1.next (Nat.le_refl _) b2
    go_wp2_with fail
    go_ret3
    exact ⟨by rw [HR.out]; rfl, HB.out.next (Nat.le_refl _) b12⟩
  | some ik =>
    rw [q3] at C3 hr0
    have HR := Lib.hid hr0
    unfold swapV3 at C3
    have hik0 : ¬ (ik.1 : Int) < 0 := by omega
    clear hr0
    go_enter Try.func13, Try.ntmps13
    go_upto_region 1 with fail
    rw [← HW.out]
    obtain ⟨a0, a1, a2, a3⟩ := ZT.out.cells
    go_wp2_with fail
    refine C1.out.mono ?_; rintro e w1 ⟨rfl, b1⟩
    go_wp2_with fail
    refine (C2.out _).mono ?_; rintro e _ ⟨rfl, rfl⟩
    have zz := ZT.out.keep b1 ZT.out.lt
    clear a0 a1 a2 a3
    obtain ⟨a0, a1, a2, a3⟩ := zz.cells
    go_wp2_with fail
    refine (C3.out _ _ b1 (Nat.le_refl _)).mono ?_; rintro e w2 ⟨rfl, b2⟩
    have b12 := b1.next (Nat.le_refl _) b2
    go_wp2_with fail
    go_ret3
    exact ⟨by rw [HR.out]; rfl, HB.out.next (Nat.le_refl _) b12⟩
set_option maxRecDepth 100000 in
set_option maxHeartbeats 6400000 in
theorem specRepairSwap (f t p : Value) (T : Tr) (L : Int) (w : World) (h : TrAt w f t p T) :
    Calls Try.prog 14 #[.agg #[f, t, .int .i64 T.c, p], .int .i64 L] w (SwPost w (swR T L)) := by
  have bX := (Below.refl w.heap.size w).alloc (Nat.le_refl _) (.cells #[f, t, .int .i64 T.c, p] 31)
  have zT := BoxT.new 31 w f t T.c p
  obtain ⟨W, hW⟩ : ∃ W : World, W = w.alloc (.cells #[f, t, .int .i64 T.c, p] 31) := ⟨_, rfl⟩
  rw [← hW] at bX zT
  have HW := Lib.hid hW
  have ZT := Lib.hid zT
  clear hW zT
  have HX := Lib.hid (h.below bX (Nat.le_refl _))
  have HB := Lib.hid bX
  clear h bX
  have C1 := Lib.hid (rpGood_any _ _ _ T W HX.out)
  cases q1 : isRp T
  · rw [q1] at C1
    have HR : Hid (swR T L = none) := by show _ = _; unfold swR good; rw [q1]; rfl
    go_enter Try.func14, Try.ntmps14
    go_upto_region 1 with fail
    rw [← HW.out]
    obtain ⟨a0, a1, a2, a3⟩ := ZT.out.cells
    go_wp2_with fail
    refine C1.out.mono ?_; rintro e w1 ⟨rfl, b1⟩
    go_wp2_with fail
    go_ret3
    exact ⟨by rw [HR.out]; rfl, HB.out.next (Nat.le_refl _) b1⟩
  rw [q1] at C1
  have C2 := Lib.hid (fun W9 => apDistance_any L W9)
  cases q2 : inR L 0 80
  · rw [q2] at C2
    have HR : Hid (swR T L = none) := by show _ = _; unfold swR good; rw [q1, q2]; rfl
    go_enter Try.func14, Try.ntmps14
    go_upto_region 1 with fail
    rw [← HW.out]
    obtain ⟨a0, a1, a2, a3⟩ := ZT.out.cells
    go_wp2_with fail
    refine C1.out.mono ?_; rintro e w1 ⟨rfl, b1⟩
    go_wp2_with fail
    refine (C2.out _).mono ?_; rintro e _ ⟨rfl, rfl⟩
    go_wp2_with fail
    go_ret3
    exact ⟨by rw [HR.out]; rfl, HB.out.next (Nat.le_refl _) b1⟩
  rw [q2] at C2
  have hL := inR_t.1 q2
  have hr0 : swR T L = swapR T L := by unfold swR good; rw [q1, q2]; rfl
  have C3 := Lib.hid (fun W9 B (hb : Below B W W9) (hB : W.heap.size ≤ B) => rpSwap_any _ _ _ T L W9 (HX.out.below hb hB) q1 hL.1 hL.2)
  clear hL
  cases q3 : swapR T L with
  | none =>
    rw [q3] at C3 hr0
    have HR := Lib.hid hr0
    unfold swapV2 at C3
    clear hr0
    go_enter Try.func14, Try.ntmps14
    go_upto_region 1 with fail
    rw [← HW.out]
    obtain ⟨a0, a1, a2, a3⟩ := ZT.out.cells
    go_wp2_with fail
    refine C1.out.mono ?_; rintro e w1 ⟨rfl, b1⟩
    go_wp2_with fail
    refine (C2.out _).mono ?_; rintro e _ ⟨rfl, rfl⟩
    have zz := ZT.out.keep b1 ZT.out.lt
    clear a0 a1 a2 a3
    obtain ⟨a0, a1, a2, a3⟩ := zz.cells
    go_wp2_with fail
    refine (C3.out _ _ b1 (Nat.le_refl _)).mono ?_; rintro e w2 ⟨rfl, b2⟩
    have b12 := b1.next (Nat.le_refl _) b2
    go_wp2_with fail
    go_ret3
    exact ⟨by rw [HR.out]; rfl, HB.out.next (Nat.le_refl _) b12⟩
  | some ik =>
    rw [q3] at C3 hr0
    have HR := Lib.hid hr0
    unfold swapV2 at C3
    have hik0 : ¬ (ik.1 : Int) < 0 := by omega
    clear hr0
    go_enter Try.func14, Try.ntmps14
    go_upto_region 1 with fail
    rw [← HW.out]
    obtain ⟨a0, a1, a2, a3⟩ := ZT.out.cells
    go_wp2_with fail
    refine C1.out.mono ?_; rintro e w1 ⟨rfl, b1⟩
    go_wp2_with fail
    refine (C2.out _).mono ?_; rintro e _ ⟨rfl, rfl⟩
    have zz := ZT.out.keep b1 ZT.out.lt
    clear a0 a1 a2 a3
    obtain ⟨a0, a1, a2, a3⟩ := zz.cells
    go_wp2_with fail
    refine (C3.out _ _ b1 (Nat.le_refl _)).mono ?_; rintro e w2 ⟨rfl, b2⟩
    have b12 := b1.next (Nat.le_refl _) b2
    go_wp2_with fail
    go_ret3
    exact ⟨by rw [HR.out]; rfl, HB.out.next (Nat.le_refl _) b12⟩
end Go.Proofs.Ytgcgkpmjahgmnaa
/- Contracts: IsRepair and SwapPlaces for valid arguments, in the program and in the reference; comparisons and sums of lists. -/
set_option linter.unusedSimpArgs false
set_option linter.unusedVariables false
namespace Go.Proofs.Ytgcgkpmjahgmnaa
open Go.RowKit Go.Sort

theorem allIn_of {l : List Int} {lo hi : Int} (h : ∀ i, i < l.length → lo ≤ gi l i ∧ gi l i ≤ hi) : allIn l lo hi = true := by
  unfold allIn
  rw [List.all_eq_true]
  intro x hx
  obtain ⟨i, hi, rfl⟩ := List.getElem_of_mem hx
  have := h i hi
  rw [gi_eq hi] at this
  exact inR_t.2 this
theorem isDelay_any (n : Int) (w : World) : Calls Try.prog 59 #[.int .i64 n] w fun e w' => e = .returned (.bool (inR n 0 4)) ∧ w = w' := by
  go_enter Try.func59, Try.ntmps59
  go_wp2_with fail
  refine (within_any _ _ _ _).mono ?_; rintro e _ ⟨rfl, rfl⟩
  go_wp2_with fail
  go_ret
  exact ⟨rfl, rfl⟩
set_option maxRecDepth 100000 in
set_option maxHeartbeats 6400000 in
theorem areDelays_ok (f t p dv : Value) (T : Tr) (ds : List Int) (w : World) (h : TrAt w f t p T) (hT : isRp T = true) (hd : IntsAt w dv ds) (hdl : ds.length = T.f.length) (hdr : ∀ i, i < T.f.length → 0 ≤ gi ds i ∧ gi ds i ≤ 4) :
    Calls Try.prog 38 #[.agg #[f, t, .int .i64 T.c, p], dv] w fun e w' => e = .returned (.bool true) ∧ Below w.heap.size w w' := by
  have bX := (Below.refl w.heap.size w).alloc (Nat.le_refl _) (.cells #[f, t, .int .i64 T.c, p] 31)
  have zT := BoxT.new 31 w f t T.c p
  obtain ⟨W, hW⟩ : ∃ W : World, W = w.alloc (.cells #[f, t, .int .i64 T.c, p] 31) := ⟨_, rfl⟩
  rw [← hW] at bX zT
  have HW := Lib.hid hW
  have ZT := Lib.hid zT
  clear hW zT
  have HX := Lib.hid (h.below bX (Nat.le_refl _))
  have HB := Lib.hid bX
  obtain ⟨A, c, rfl, gd, hc⟩ := hd.shape
  obtain ⟨A1, c1, e1, g1, hc1⟩ := h.f.shape
  subst e1
  have C1 := Lib.hid (isRepaired_any _ _ _ T W HX.out)
  rw [hT] at C1
  have HD := Lib.hid (hd.below bX (Nat.le_refl _))
  rw [← hdl] at HW ZT C1 HX g1
  rw [← hdl]
  have HR := Lib.hid hdr
  have HL := Lib.hid hdl
  clear bX hdl hdr hd h
  go_enter Try.func38, Try.ntmps38
  go_upto_region 1 with fail
  rw [← HW.out]
  obtain ⟨a0, a1, a2, a3⟩ := ZT.out.cells
  go_wp2_with fail
  refine C1.out.mono ?_; rintro e w1 ⟨rfl, b1⟩
  have zz := ZT.out.keep b1 ZT.out.lt
  clear a0 a1 a2 a3
  obtain ⟨a0, a1, a2, a3⟩ := zz.cells
  have hD := HD.out.below b1 (Nat.le_refl _)
  go_wp2_with fail
  go_loop [20] (fun i => ∃ k : Nat, k ≤ ds.length ∧ i = .int .i64 k) (fun i => ds.length - (intOf i).toNat)
  case atStart => exact ⟨0, Nat.zero_le _, rfl⟩
  case round =>
    obtain ⟨k, hk, rfl⟩ := hrel
    by_cases hlt : k < ds.length
    · obtain ⟨b, o, rfl, hc9⟩ := IntsAt.at_ hD k hlt
      have C2 := Lib.hid (fun W9 => isDelay_any (gi ds k) W9)
      rw [inR_t.2 (HR.out k (by rw [← HL.out]; exact hlt))] at C2
      go_wp2_with fail
      refine (C2.out _).mono ?_; rintro e _ ⟨rfl, rfl⟩
      go_wp2_with fail
      go_round
      case rel => exact ⟨k + 1, by omega, by go_num⟩
      case measure => simp [intOf]; omega
    · go_wp2_with fail
      go_ret
      exact ⟨rfl, HB.out.next (Nat.le_refl _) b1⟩
set_option maxRecDepth 100000 in
set_option maxHeartbeats 6400000 in
theorem rpAsked_ok (f t p dv : Value) (T : Tr) (ds : List Int) (w : World) (h : TrAt w f t p T) (hT : isRp T = true) (hd : IntsAt w dv ds) (hdl : ds.length = T.f.length) (hdr : ∀ i, i < T.f.length → 0 ≤ gi ds i ∧ gi ds i ≤ 4) :
    Calls Try.prog 40 #[.agg #[f, t, .int .i64 T.c, p], dv] w fun e w' => e = .returned (.bool true) ∧ Below w.heap.size w w' := by
  have bX := (Below.refl w.heap.size w).alloc (Nat.le_refl _) (.cells #[f, t, .int .i64 T.c, p] 31)
  have zT := BoxT.new 31 w f t T.c p
  obtain ⟨W, hW⟩ : ∃ W : World, W = w.alloc (.cells #[f, t, .int .i64 T.c, p] 31) := ⟨_, rfl⟩
  rw [← hW] at bX zT
  have HW := Lib.hid hW
  have ZT := Lib.hid zT
  clear hW zT
  have HX := Lib.hid (h.below bX (Nat.le_refl _))
  have HB := Lib.hid bX
  obtain ⟨A, c, rfl, gd, hc⟩ := hd.shape
  obtain ⟨A1, c1, e1, g1, hc1⟩ := h.f.shape
  subst e1
  have C1 := Lib.hid (rpGood_any _ _ _ T W HX.out)
  rw [hT] at C1
  have HD := Lib.hid (hd.below bX (Nat.le_refl _))
  have hall := allIn_of (l := ds) (lo := 0) (hi := 4) (fun i hi => hdr i (by rw [← hdl]; exact hi))
  rw [← hdl] at HW ZT C1 HX g1
  rw [← hdl]
  have HA := Lib.hid hall
  clear bX hdl hdr hd h hall
  go_enter Try.func40, Try.ntmps40
  go_upto_region 1 with fail
  rw [← HW.out]
  obtain ⟨a0, a1, a2, a3⟩ := ZT.out.cells
  go_wp2_with fail
  refine C1.out.mono ?_; rintro e w1 ⟨rfl, b1⟩
  have zz := ZT.out.keep b1 ZT.out.lt
  clear a0 a1 a2 a3
  obtain ⟨a0, a1, a2, a3⟩ := zz.cells
  have C2 := Lib.hid (l1All_any A ds.length c ds 0 4 w1 (HD.out.below b1 (Nat.le_refl _)))
  rw [HA.out] at C2
  go_wp2_with fail
  refine C2.out.mono ?_; rintro e _ ⟨rfl, rfl⟩
  go_wp2_with fail
  go_ret
  exact ⟨rfl, HB.out.next (Nat.le_refl _) b1⟩
set_option maxRecDepth 100000 in
set_option maxHeartbeats 6400000 in
theorem implIsRepair (f t p dv : Value) (T : Tr) (ds : List Int) (L : Int) (w : World) (h : TrAt w f t p T) (hT : isRp T = true) (hd : IntsAt w dv ds) (hdl : ds.length = T.f.length) (hdr : ∀ i, i < T.f.length → 0 ≤ gi ds i ∧ gi ds i ≤ 4) (hL0 : 0 ≤ L) (hL : L ≤ 80) :
    Calls Try.prog 16 #[.agg #[f, t, .int .i64 T.c, p], dv, .int .i64 L] w (IsPost w (decide (closeN T L ds = 0))) := by
  have bX := (Below.refl w.heap.size w).alloc (Nat.le_refl _) (.cells #[f, t, .int .i64 T.c, p] 31)
  have zT := BoxT.new 31 w f t T.c p
  obtain ⟨W, hW⟩ : ∃ W : World, W = w.alloc (.cells #[f, t, .int .i64 T.c, p] 31) := ⟨_, rfl⟩
  rw [← hW] at bX zT
  have HW := Lib.hid hW
  have ZT := Lib.hid zT
  clear hW zT
  have HX := Lib.hid (h.below bX (Nat.le_refl _))
  have HB := Lib.hid bX
  have C1 := Lib.hid (areDelays_ok _ _ _ _ T ds W HX.out hT (hd.below bX (Nat.le_refl _)) hdl hdr)
  have C2 := Lib.hid (fun W9 => isLeast_any L W9)
  rw [inR_t.2 ⟨hL0, hL⟩] at C2
  have C3 := Lib.hid (fun W9 B (hb : Below B W W9) (hB : W.heap.size ≤ B) => delayedPairs_any _ _ _ _ T ds L W9 (HX.out.below hb hB) hT ((hd.below bX (Nat.le_refl _)).below hb hB) hdl hdr hL0 hL)
  obtain ⟨A, c, rfl, gd, hc⟩ := hd.shape
  obtain ⟨M, hM⟩ : ∃ M, M = closeN T L ds := ⟨_, rfl⟩
  rw [← hM] at C3
  rw [← hM]
  clear bX hdl hdr hd h hM
  go_enter Try.func16, Try.ntmps16
  go_upto_region 1 with fail
  rw [← HW.out]
  obtain ⟨a0, a1, a2, a3⟩ := ZT.out.cells
  go_wp2_with fail
  refine C1.out.mono ?_; rintro e w1 ⟨rfl, b1⟩
  go_wp2_with fail
  refine (C2.out _).mono ?_; rintro e _ ⟨rfl, rfl⟩
  have zz := ZT.out.keep b1 ZT.out.lt
  clear a0 a1 a2 a3
  obtain ⟨a0, a1, a2, a3⟩ := zz.cells
  go_wp2_with fail
  refine (C3.out _ _ b1 (Nat.le_refl _)).mono ?_; rintro e w2 ⟨A9, c9, rfl, q1, q2, b2⟩
  have b12 := b1.next (Nat.le_refl _) b2
  go_wp2_with fail
  go_ret2
  exact ⟨by
    have e9 : decide (M = 0) = ((M : Int) == 0) := by rw [Bool.eq_iff_iff]; simp
    rw [e9]; rfl, HB.out.next (Nat.le_refl _) b12⟩
set_option maxRecDepth 100000 in
set_option maxHeartbeats 6400000 in
theorem specIsRepair (f t p dv : Value) (T : Tr) (ds : List Int) (L : Int) (w : World) (h : TrAt w f t p T) (hT : isRp T = true) (hd : IntsAt w dv ds) (hdl : ds.length = T.f.length) (hdr : ∀ i, i < T.f.length → 0 ≤ gi ds i ∧ gi ds i ≤ 4) (hL0 : 0 ≤ L) (hL : L ≤ 80) :
    Calls Try.prog 17 #[.agg #[f, t, .int .i64 T.c, p], dv, .int .i64 L] w (IsPost w (decide (closeN T L ds = 0))) := by
  have bX := (Below.refl w.heap.size w).alloc (Nat.le_refl _) (.cells #[f, t, .int .i64 T.c, p] 31)
  have zT := BoxT.new 31 w f t T.c p
  obtain ⟨W, hW⟩ : ∃ W : World, W = w.alloc (.cells #[f, t, .int .i64 T.c, p] 31) := ⟨_, rfl⟩
  rw [← hW] at bX zT
  have HW := Lib.hid hW
  have ZT := Lib.hid zT
  clear hW zT
  have HX := Lib.hid (h.below bX (Nat.le_refl _))
  have HB := Lib.hid bX
  have C1 := Lib.hid (rpAsked_ok _ _ _ _ T ds W HX.out hT (hd.below bX (Nat.le_refl _)) hdl hdr)
  have C2 := Lib.hid (fun W9 => apDistance_any L W9)
  rw [inR_t.2 ⟨hL0, hL⟩] at C2
  have C3 := Lib.hid (fun W9 B (hb : Below B W W9) (hB : W.heap.size ≤ B) => rpClose_any _ _ _ _ T ds L W9 (HX.out.below hb hB) hT ((hd.below bX (Nat.le_refl _)).below hb hB) hdl hdr hL0 hL)
  obtain ⟨A, c, rfl, gd, hc⟩ := hd.shape
  obtain ⟨M, hM⟩ : ∃ M, M = closeN T L ds := ⟨_, rfl⟩
  rw [← hM] at C3
  rw [← hM]
  clear bX hdl hdr hd h hM
  go_enter Try.func17, Try.ntmps17
  go_upto_region 1 with fail
  rw [← HW.out]
  obtain ⟨a0, a1, a2, a3⟩ := ZT.out.cells
  go_wp2_with fail
  refine C1.out.mono ?_; rintro e w1 ⟨rfl, b1⟩
  go_wp2_with fail
  refine (C2.out _).mono ?_; rintro e _ ⟨rfl, rfl⟩
  have zz := ZT.out.keep b1 ZT.out.lt
  clear a0 a1 a2 a3
  obtain ⟨a0, a1, a2, a3⟩ := zz.cells
  go_wp2_with fail
  refine (C3.out _ _ b1 (Nat.le_refl _)).mono ?_; rintro e w2 ⟨A9, c9, rfl, q1, q2, b2⟩
  have b12 := b1.next (Nat.le_refl _) b2
  go_wp2_with fail
  go_ret2
  exact ⟨by
    have e9 : decide (M = 0) = ((M : Int) == 0) := by rw [Bool.eq_iff_iff]; simp
    rw [e9]; rfl, HB.out.next (Nat.le_refl _) b12⟩
set_option maxRecDepth 100000 in
set_option maxHeartbeats 6400000 in
theorem isPerformer_ok (f t p : Value) (T : Tr) (i : Nat) (w : World) (h : TrAt w f t p T) (hT : isTr T = true) (hi : i < T.f.length) :
    Calls Try.prog 41 #[.agg #[f, t, .int .i64 T.c, p], .int .i64 (i : Int)] w fun e w' => e = .returned (.bool true) ∧ Below w.heap.size w w' := by
  have bX := (Below.refl w.heap.size w).alloc (Nat.le_refl _) (.cells #[f, t, .int .i64 T.c, p] 31)
  have zT := BoxT.new 31 w f t T.c p
  obtain ⟨W, hW⟩ : ∃ W : World, W = w.alloc (.cells #[f, t, .int .i64 T.c, p] 31) := ⟨_, rfl⟩
  rw [← hW] at bX zT
  have HW := Lib.hid hW
  have ZT := Lib.hid zT
  clear hW zT
  have HX := Lib.hid (h.below bX (Nat.le_refl _))
  have HB := Lib.hid bX
  obtain ⟨A1, c1, e1, g1, hc1⟩ := h.f.shape
  subst e1
  have C1 := Lib.hid (implIsTr _ _ _ T W HX.out)
  rw [hT] at C1
  have hlf := (isChart_t (isTr_t hT).1).2.1
  have C2 := Lib.hid (fun W9 => within_any (i : Int) 0 ((T.f.length : Int) - 1) W9)
  rw [inR_t.2 (show (0 : Int) ≤ (i : Int) ∧ (i : Int) ≤ (T.f.length : Int) - 1 by omega)] at C2
  clear bX h
  go_enter Try.func41, Try.ntmps41
  go_upto_region 1 with fail
  rw [← HW.out]
  obtain ⟨a0, a1, a2, a3⟩ := ZT.out.cells
  go_wp2_with fail
  refine C1.out.mono ?_; rintro e w1 ⟨rfl, b1⟩
  have zz := ZT.out.keep b1 ZT.out.lt
  clear a0 a1 a2 a3
  obtain ⟨a0, a1, a2, a3⟩ := zz.cells
  go_wp2_with fail
  refine (C2.out _).mono ?_; rintro e _ ⟨rfl, rfl⟩
  go_wp2_with fail
  go_ret
  exact ⟨rfl, HB.out.next (Nat.le_refl _) b1⟩
set_option maxRecDepth 100000 in
set_option maxHeartbeats 6400000 in
theorem asHas_ok (f t p : Value) (T : Tr) (i : Nat) (w : World) (h : TrAt w f t p T) (hT : isTr T = true) (hi : i < T.f.length) :
    Calls Try.prog 43 #[.agg #[f, t, .int .i64 T.c, p], .int .i64 (i : Int)] w fun e w' => e = .returned (.bool true) ∧ Below w.heap.size w w' := by
  have bX := (Below.refl w.heap.size w).alloc (Nat.le_refl _) (.cells #[f, t, .int .i64 T.c, p] 31)
  have zT := BoxT.new 31 w f t T.c p
  obtain ⟨W, hW⟩ : ∃ W : World, W = w.alloc (.cells #[f, t, .int .i64 T.c, p] 31) := ⟨_, rfl⟩
  rw [← hW] at bX zT
  have HW := Lib.hid hW
  have ZT := Lib.hid zT
  clear hW zT
  have HX := Lib.hid (h.below bX (Nat.le_refl _))
  have HB := Lib.hid bX
  obtain ⟨A1, c1, e1, g1, hc1⟩ := h.f.shape
  subst e1
  have C1 := Lib.hid (asGood_any _ _ _ T W HX.out)
  rw [hT] at C1
  have hlf := (isChart_t (isTr_t hT).1).2.1
  have C2 := Lib.hid (fun W9 => l1In_any (i : Int) 0 ((T.f.length : Int) - 1) W9)
  rw [inR_t.2 (show (0 : Int) ≤ (i : Int) ∧ (i : Int) ≤ (T.f.length : Int) - 1 by omega)] at C2
  clear bX h
  go_enter Try.func43, Try.ntmps43
  go_upto_region 1 with fail
  rw [← HW.out]
  obtain ⟨a0, a1, a2, a3⟩ := ZT.out.cells
  go_wp2_with fail
  refine C1.out.mono ?_; rintro e w1 ⟨rfl, b1⟩
  have zz := ZT.out.keep b1 ZT.out.lt
  clear a0 a1 a2 a3
  obtain ⟨a0, a1, a2, a3⟩ := zz.cells
  go_wp2_with fail
  refine (C2.out _).mono ?_; rintro e _ ⟨rfl, rfl⟩
  go_wp2_with fail
  go_ret
  exact ⟨rfl, HB.out.next (Nat.le_refl _) b1⟩
def SwapPost (w : World) (T : Tr) (c : Int) (e : Ending) (w' : World) : Prop := ∃ f t p : Value, e = .returned (.tuple #[.agg #[f, t, .int .i64 c, p], .bool true]) ∧ OwnT w' w.heap.size f t p T ∧ Below w.heap.size w w' 
set_option maxRecDepth 100000 in
set_option maxHeartbeats 6400000 in
theorem implSwapPlaces (f t p : Value) (T : Tr) (i k : Nat) (w : World) (h : TrAt w f t p T) (hT : isTr T = true) (hi : i < T.f.length) (hk : k < T.f.length) (hik : i < k) :
    Calls Try.prog 19 #[.agg #[f, t, .int .i64 T.c, p], .int .i64 (i : Int), .int .i64 (k : Int)] w (SwapPost w (swapT T i k) T.c) := by
  have bX := ((Below.refl w.heap.size w).alloc (Nat.le_refl _) (.cells #[f, t, .int .i64 T.c, p] 31)).alloc (by simp) (.cells #[.slice none 0 0, .slice none 0 0, .int .i64 0, .slice none 0 0] 31)
  have zT := (BoxT.new 31 w f t T.c p).keep ((Below.refl (w.alloc (.cells #[f, t, .int .i64 T.c, p] 31)).heap.size (w.alloc (.cells #[f, t, .int .i64 T.c, p] 31))).alloc (Nat.le_refl _) (.cells #[.slice none 0 0, .slice none 0 0, .int .i64 0, .slice none 0 0] 31)) (by simp)
  have zR := BoxT.new 31 (w.alloc (.cells #[f, t, .int .i64 T.c, p] 31)) (.slice none 0 0) (.slice none 0 0) 0 (.slice none 0 0)
  have hs1 : (w.alloc (.cells #[f, t, .int .i64 T.c, p] 31)).heap.size = w.heap.size + 1 := by simp
  rw [hs1] at zR
  obtain ⟨W, hW⟩ : ∃ W : World, W = (w.alloc (.cells #[f, t, .int .i64 T.c, p] 31)).alloc (.cells #[.slice none 0 0, .slice none 0 0, .int .i64 0, .slice none 0 0] 31) := ⟨_, rfl⟩
  have hsW : W.heap.size = w.heap.size + 2 := by rw [hW]; simp
  rw [← hW] at bX zT zR
  have HW := Lib.hid hW
  have ZT := Lib.hid zT
  have ZR := Lib.hid zR
  have HS := Lib.hid hsW
  clear hW zT zR hs1 hsW
  have HX := Lib.hid (h.below bX (Nat.le_refl _))
  have HB := Lib.hid bX
  have C1 := Lib.hid (isPerformer_ok f t p T i W HX.out hT hi)
  have C2 := Lib.hid (fun W9 B (hb : Below B W W9) (hB : W.heap.size ≤ B) => isPerformer_ok f t p T k W9 (HX.out.below hb hB) hT hk)
  have C3 := Lib.hid (fun W9 B (hb : Below B W W9) (hB : W.heap.size ≤ B) => swapPlaces_any f t p T i k W9 (HX.out.below hb hB) hT hi hk hik)
  clear h bX hT
  go_enter Try.func19, Try.ntmps19
  go_upto_region 1 with fail
  rw [← HW.out]
  obtain ⟨a0, a1, a2, a3⟩ := ZT.out.cells
  go_wp2_with fail
  refine C1.out.mono ?_; rintro e w1 ⟨rfl, b1⟩
  have zz := ZT.out.keep b1 ZT.out.lt
  clear a0 a1 a2 a3
  obtain ⟨a0, a1, a2, a3⟩ := zz.cells
  go_wp2_with fail
  refine (C2.out _ _ b1 (Nat.le_refl _)).mono ?_; rintro e w2 ⟨rfl, b2⟩
  have b12 := b1.next (Nat.le_refl _) b2
  have zz2 := ZT.out.keep b12 ZT.out.lt
  clear a0 a1 a2 a3 zz
  obtain ⟨a0, a1, a2, a3⟩ := zz2.cells
  go_wp2_with fail
  refine (C3.out _ _ b12 (Nat.le_refl _)).mono ?_; rintro e w3 ⟨f3, t3, p3, rfl, o3, b3⟩
  have b13 := b12.next (Nat.le_refl _) b3
  have hS : w.heap.size + 1 < W.heap.size := by have := HS.out; omega
  have r7 := ZR.out.keep b13 hS
  obtain ⟨q0, q1, q2, q3⟩ := r7.cells
  obtain ⟨d0, d1, d2, d3⟩ := r7.free
  obtain ⟨A1, x1, rfl, _, _⟩ := o3.rf.reads.shape
  obtain ⟨A2, x2, rfl, _, _⟩ := o3.rt.reads.shape
  obtain ⟨A3, x3, rfl, _, _⟩ := o3.rp.reads.shape
  have o4 := o3.lo (Nat.le_trans b1.size b2.size)
  have fin := (o4.setHi (.inl hS) (.slice A1 (swapT T i k).f.length x1) (.slice A2 (swapT T i k).t.length x2) T.c (.slice A3 (swapT T i k).p.length x3)).lo (show w.heap.size ≤ W.heap.size by omega)
  have bfin := below_setT (HB.out.next (Nat.le_refl _) b13) (show w.heap.size ≤ w.heap.size + 1 by omega) (.slice A1 (swapT T i k).f.length x1) (.slice A2 (swapT T i k).t.length x2) T.c (.slice A3 (swapT T i k).p.length x3)
  have FIN := Lib.hid fin
  have BFIN := Lib.hid bfin
  obtain ⟨p0, p1, p2, p3'⟩ := (r7.set (.slice A1 (swapT T i k).f.length x1) (.slice A2 (swapT T i k).t.length x2) T.c (.slice A3 (swapT T i k).p.length x3)).cells
  have P9 := Lib.hid (And.intro p0 (And.intro p1 (And.intro p2 p3')))
  clear fin bfin o3 o4 b13 b12 r7 p0 p1 p2 p3' hS a0 a1 a2 a3 zz2
  go_wp2_with fail
  obtain ⟨p0, p1, p2, p3'⟩ := P9.out
  unfold setT at p0 p1 p2 p3'
  exact bodyPost_ret (v := .tuple #[.agg #[.slice A1 (swapT T i k).f.length x1, .slice A2 (swapT T i k).t.length x2, .int .i64 T.c, .slice A3 (swapT T i k).p.length x3], .bool true]) (by simp [results, Try.results19, go_sem, p0, p1, p2, p3']) rfl ⟨_, _, _, rfl, FIN.out, BFIN.out⟩
set_option maxRecDepth 100000 in
set_option maxHeartbeats 6400000 in
theorem specSwapPlaces (f t p : Value) (T : Tr) (i k : Nat) (w : World) (h : TrAt w f t p T) (hT : isTr T = true) (hi : i < T.f.length) (hk : k < T.f.length) (hik : i < k) :
    Calls Try.prog 20 #[.agg #[f, t, .int .i64 T.c, p], .int .i64 (i : Int), .int .i64 (k : Int)] w (SwapPost w (swapT T i k) T.c) := by
  have bX := ((Below.refl w.heap.size w).alloc (Nat.le_refl _) (.cells #[f, t, .int .i64 T.c, p] 31)).alloc (by simp) (.cells #[.slice none 0 0, .slice none 0 0, .int .i64 0, .slice none 0 0] 31)
  have zT := (BoxT.new 31 w f t T.c p).keep ((Below.refl (w.alloc (.cells #[f, t, .int .i64 T.c, p] 31)).heap.size (w.alloc (.cells #[f, t, .int .i64 T.c, p] 31))).alloc (Nat.le_refl _) (.cells #[.slice none 0 0, .slice none 0 0, .int .i64 0, .slice none 0 0] 31)) (by simp)
  have zR := BoxT.new 31 (w.alloc (.cells #[f, t, .int .i64 T.c, p] 31)) (.slice none 0 0) (.slice none 0 0) 0 (.slice none 0 0)
  have hs1 : (w.alloc (.cells #[f, t, .int .i64 T.c, p] 31)).heap.size = w.heap.size + 1 := by simp
  rw [hs1] at zR
  obtain ⟨W, hW⟩ : ∃ W : World, W = (w.alloc (.cells #[f, t, .int .i64 T.c, p] 31)).alloc (.cells #[.slice none 0 0, .slice none 0 0, .int .i64 0, .slice none 0 0] 31) := ⟨_, rfl⟩
  have hsW : W.heap.size = w.heap.size + 2 := by rw [hW]; simp
  rw [← hW] at bX zT zR
  have HW := Lib.hid hW
  have ZT := Lib.hid zT
  have ZR := Lib.hid zR
  have HS := Lib.hid hsW
  clear hW zT zR hs1 hsW
  have HX := Lib.hid (h.below bX (Nat.le_refl _))
  have HB := Lib.hid bX
  have C1 := Lib.hid (asHas_ok f t p T i W HX.out hT hi)
  have C2 := Lib.hid (fun W9 B (hb : Below B W W9) (hB : W.heap.size ≤ B) => asHas_ok f t p T k W9 (HX.out.below hb hB) hT hk)
  have C3 := Lib.hid (fun W9 B (hb : Below B W W9) (hB : W.heap.size ≤ B) => asSwap_any f t p T i k W9 (HX.out.below hb hB) hT hi hk hik)
  clear h bX hT
  go_enter Try.func20, Try.ntmps20
  go_upto_region 1 with fail
  rw [← HW.out]
  obtain ⟨a0, a1, a2, a3⟩ := ZT.out.cells
  go_wp2_with fail
  refine C1.out.mono ?_; rintro e w1 ⟨rfl, b1⟩
  have zz := ZT.out.keep b1 ZT.out.lt
  clear a0 a1 a2 a3
  obtain ⟨a0, a1, a2, a3⟩ := zz.cells
  go_wp2_with fail
  refine (C2.out _ _ b1 (Nat.le_refl _)).mono ?_; rintro e w2 ⟨rfl, b2⟩
  have b12 := b1.next (Nat.le_refl _) b2
  have zz2 := ZT.out.keep b12 ZT.out.lt
  clear a0 a1 a2 a3 zz
  obtain ⟨a0, a1, a2, a3⟩ := zz2.cells
  go_wp2_with fail
  refine (C3.out _ _ b12 (Nat.le_refl _)).mono ?_; rintro e w3 ⟨f3, t3, p3, rfl, o3, b3⟩
  have b13 := b12.next (Nat.le_refl _) b3
  have hS : w.heap.size + 1 < W.heap.size := by have := HS.out; omega
  have r7 := ZR.out.keep b13 hS
  obtain ⟨q0, q1, q2, q3⟩ := r7.cells
  obtain ⟨d0, d1, d2, d3⟩ := r7.free
  obtain ⟨A1, x1, rfl, _, _⟩ := o3.rf.reads.shape
  obtain ⟨A2, x2, rfl, _, _⟩ := o3.rt.reads.shape
  obtain ⟨A3, x3, rfl, _, _⟩ := o3.rp.reads.shape
  have o4 := o3.lo (Nat.le_trans b1.size b2.size)
  have fin := (o4.setHi (.inl hS) (.slice A1 (swapT T i k).f.length x1) (.slice A2 (swapT T i k).t.length x2) T.c (.slice A3 (swapT T i k).p.length x3)).lo (show w.heap.size ≤ W.heap.size by omega)
  have bfin := below_setT (HB.out.next (Nat.le_refl _) b13) (show w.heap.size ≤ w.heap.size + 1 by omega) (.slice A1 (swapT T i k).f.length x1) (.slice A2 (swapT T i k).t.length x2) T.c (.slice A3 (swapT T i k).p.length x3)
  have FIN := Lib.hid fin
  have BFIN := Lib.hid bfin
  obtain ⟨p0, p1, p2, p3'⟩ := (r7.set (.slice A1 (swapT T i k).f.length x1) (.slice A2 (swapT T i k).t.length x2) T.c (.slice A3 (swapT T i k).p.length x3)).cells
  have P9 := Lib.hid (And.intro p0 (And.intro p1 (And.intro p2 p3')))
  clear fin bfin o3 o4 b13 b12 r7 p0 p1 p2 p3' hS a0 a1 a2 a3 zz2
  go_wp2_with fail
  obtain ⟨p0, p1, p2, p3'⟩ := P9.out
  unfold setT at p0 p1 p2 p3'
  exact bodyPost_ret (v := .tuple #[.agg #[.slice A1 (swapT T i k).f.length x1, .slice A2 (swapT T i k).t.length x2, .int .i64 T.c, .slice A3 (swapT T i k).p.length x3], .bool true]) (by simp [results, Try.results20, go_sem, p0, p1, p2, p3']) rfl ⟨_, _, _, rfl, FIN.out, BFIN.out⟩
set_option maxHeartbeats 800000 in
theorem qInts_same (v1 v2 : Value) (l : List Int) (w : World) (h1 : IntsAt w v1 l) (h2 : IntsAt w v2 l) :
    Calls Try.prog 15 #[v1, v2] w fun e w' => e = .returned (.bool true) ∧ Below w.heap.size w w' := by
  obtain ⟨A, c, rfl, hnc, hc63⟩ := h1.shape
  obtain ⟨B, d, rfl, hnd, hd63⟩ := h2.shape
  go_enter Try.func15, Try.ntmps15
  go_wp2_with fail
  go_loopw [13] (fun i wr => ∃ k : Nat, k ≤ l.length ∧ i = .int .i64 k ∧ Below w.heap.size w wr) (fun i _ => l.length - (intOf i).toNat)
  case atStart => exact ⟨0, Nat.zero_le _, rfl, Below.refl _ _⟩
  case round =>
    obtain ⟨k, hk, rfl, hb⟩ := hrel
    by_cases hlt : k < l.length
    · obtain ⟨b, o, rfl, hc⟩ := IntsAt.at_ (h1.below hb (Nat.le_refl _)) k hlt
      obtain ⟨b', o', rfl, hc'⟩ := IntsAt.at_ (h2.below hb (Nat.le_refl _)) k hlt
      go_wp2_with fail
      go_quiet (fail)
      go_wp2_with fail
      go_roundw
      case rel => exact ⟨k + 1, by omega, by go_num, hb.drewN _⟩
      case measure => simp [intOf]; omega
    · go_wp2_with fail
      go_ret
      exact ⟨rfl, hb⟩
theorem sumI_take_s (l : List Int) (k : Nat) (h : k < l.length) : sumI (l.take (k + 1)) = sumI (l.take k) + gi l k := by
  rw [take_succ_gi l k h, sumI_snoc]
set_option maxHeartbeats 800000 in
theorem qSum_any (v : Value) (l : List Int) (w : World) (h : IntsAt w v l) (hl : l.length ≤ 6) (hr : ∀ i, i < l.length → 0 ≤ gi l i ∧ gi l i ≤ 4) :
    Calls Try.prog 18 #[v] w fun e w' => e = .returned (.int .i64 (sumI l)) ∧ w = w' := by
  obtain ⟨A, c, rfl, hnc, hc63⟩ := h.shape
  go_enter Try.func18, Try.ntmps18
  go_wp2_with fail
  go_loop [3, 8] (fun s i => ∃ k : Nat, k ≤ l.length ∧ i = .int .i64 k ∧ s = .int .i64 (sumI (l.take k)) ∧ 0 ≤ sumI (l.take k) ∧ sumI (l.take k) ≤ 4 * (k : Int)) (fun _ i => l.length - (intOf i).toNat)
  case atStart => exact ⟨0, Nat.zero_le _, rfl, rfl, Int.le_refl _, Int.le_refl _⟩
  case round =>
    obtain ⟨k, hk, rfl, rfl, hs0, hs1⟩ := hrel
    by_cases hlt : k < l.length
    · obtain ⟨b, o, rfl, hc⟩ := IntsAt.at_ h k hlt
      obtain ⟨r1, r2⟩ := hr k hlt
      have hs := sumI_take_s l k hlt
      obtain ⟨S, hS⟩ : ∃ S, S = sumI (l.take k) := ⟨_, rfl⟩
      obtain ⟨x, hx⟩ : ∃ x, x = gi l k := ⟨_, rfl⟩
      rw [← hS] at hs0 hs1 hs
      rw [← hS]
      rw [← hx] at r1 r2 hs hc
      have HH := Lib.hid hs
      have hn0 : 0 ≤ S + x := by omega
      have hn1 : S + x ≤ 4 * ((k : Int) + 1) := by omega
      clear hs hS hx
      go_wp2_with fail
      go_round
      case rel => exact ⟨k + 1, by omega, by go_num, by rw [HH.out], by rw [HH.out]; exact hn0, by rw [HH.out]; omega⟩
      case measure => simp [intOf]; omega
    · obtain rfl : k = l.length := by omega
      have he : Hid (l.take l.length = l) := List.take_length ..
      go_wp2_with fail
      go_ret
      exact ⟨rfl, rfl⟩
end Go.Proofs.Ytgcgkpmjahgmnaa
