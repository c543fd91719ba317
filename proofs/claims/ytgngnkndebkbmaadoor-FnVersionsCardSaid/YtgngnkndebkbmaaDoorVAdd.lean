/- Contracts of AddVersion, in the program and in the reference. -/
import Derived.Test.YtgngnkndebkbmaaDoorVCopy
set_option linter.unusedSimpArgs false
set_option linter.unusedVariables false
namespace Go.Proofs.YtgngnkndebkbmaaDoor
open Go.RowKit

theorem rAdd_yes {l : List Ver} {x : Ver} (h1 : areVers l = true) (h2 : areVers (l ++ [x]) = true) : rAdd l x = (l ++ [x], true) := by unfold rAdd; rw [h1, h2]; rfl
theorem rAdd_no1 {l : List Ver} {x : Ver} (h1 : areVers l = false) : rAdd l x = ([], false) := by unfold rAdd; rw [h1]; rfl
theorem rAdd_no2 {l : List Ver} {x : Ver} (h2 : areVers (l ++ [x]) = false) : rAdd l x = ([], false) := by unfold rAdd; rw [h2]; cases areVers l <;> rfl
/-- The worlds in which l and x are laid one behind the other, in the three orders that Go leaves open. -/
theorem addA (W : World) : OwnRow verRec (W.alloc (.cells #[] 38)).drew W.heap.size (.slice (some ⟨W.heap.size, 0, none⟩) 0 0) [] ∧ Below W.heap.size W (W.alloc (.cells #[] 38)).drew :=
  ⟨OwnRow.empty verRec W _ (Nat.le_refl _), ((Below.refl _ _).alloc (Nat.le_refl _) _).drew⟩
theorem addB (W : World) (x : Ver) : OwnRow verRec ((W.alloc (.cells #[] 38)).alloc (.cells #[.int .i64 x.p, .int .i64 x.k, .int .i64 x.v] 38)).drew W.heap.size (.slice (some ⟨W.heap.size, 0, none⟩) 0 0) [] ∧
    OwnRow verRec ((W.alloc (.cells #[] 38)).alloc (.cells #[.int .i64 x.p, .int .i64 x.k, .int .i64 x.v] 38)).drew W.heap.size (.slice (some ⟨W.heap.size + 1, 0, none⟩) 1 1) [x] ∧
    Below W.heap.size W ((W.alloc (.cells #[] 38)).alloc (.cells #[.int .i64 x.p, .int .i64 x.k, .int .i64 x.v] 38)).drew := by
  refine ⟨World.ownsRow.alloc (OwnRow.empty verRec W _ (Nat.le_refl _)) _, ?_, (((Below.refl _ _).alloc (Nat.le_refl _) _).alloc (by simp) _).drew⟩
  have := World.ownsRow_lit (base := W.heap.size) (e := 38) (size := 3) (W.alloc (.cells #[] 38)) #[.int .i64 x.p, .int .i64 x.k, .int .i64 x.v] 1 (by simp) (by simp [maxLen]) rfl
  rw [World.size_alloc] at this
  exact this
theorem addC (W : World) (x : Ver) : OwnRow verRec ((W.alloc (.cells #[.int .i64 x.p, .int .i64 x.k, .int .i64 x.v] 38)).alloc (.cells #[] 38)).drew W.heap.size (.slice (some ⟨W.heap.size + 1, 0, none⟩) 0 0) [] ∧
    OwnRow verRec ((W.alloc (.cells #[.int .i64 x.p, .int .i64 x.k, .int .i64 x.v] 38)).alloc (.cells #[] 38)).drew W.heap.size (.slice (some ⟨W.heap.size, 0, none⟩) 1 1) [x] ∧
    Below W.heap.size W ((W.alloc (.cells #[.int .i64 x.p, .int .i64 x.k, .int .i64 x.v] 38)).alloc (.cells #[] 38)).drew := by
  refine ⟨?_, World.ownsRow.alloc ?_ _, (((Below.refl _ _).alloc (Nat.le_refl _) _).alloc (by simp) _).drew⟩
  · have := OwnRow.empty verRec (W.alloc (.cells #[.int .i64 x.p, .int .i64 x.k, .int .i64 x.v] 38)) W.heap.size (by simp)
    rw [World.size_alloc] at this
    exact this
  · exact World.ownsRow_lit (base := W.heap.size) (e := 38) (size := 3) W #[.int .i64 x.p, .int .i64 x.k, .int .i64 x.v] 1 (Nat.le_refl _) (by simp [maxLen]) rfl
theorem ne_own {a b n c n' c' : Nat} (h : a ≠ b) : (Value.slice (some ⟨a, 0, none⟩) n c).ownBlock ≠ (Value.slice (some ⟨b, 0, none⟩) n' c').ownBlock := by simp [Value.ownBlock]; exact h
theorem versOf {w : World} {v : Value} {l : List Ver} (h : RowAt verRec w v l) : VersAt w v l := h
theorem addK {w w' : World} {b lo : Nat} {v v' u : Value} {m : List Ver} (h : OwnRow verRec w lo u m) (hg : Grew w w' b v v') (hne : u.ownBlock ≠ v.ownBlock) : RowAt verRec w' u m :=
  OwnRow.reads (World.ownsRow.kept h hg.grown (.inr hne))
/-- What the making of l with x behind it leaves. -/
def AddRel (w : World) (l : List Ver) (x : Ver) (v : Value) (w' : World) : Prop := OwnRow verRec w' (w.heap.size + 1) v (l ++ [x]) ∧ Below w.heap.size w w'
set_option maxHeartbeats 3200000 in
theorem implAdd (v : Value) (l : List Ver) (p k u : Int) (w : World) (h : VersAt w v l) (hl : l.length ≤ 1048576) :
    Calls Tryd.prog 16 #[v, .agg #[.int .i64 p, .int .i64 k, .int .i64 u]] w (FreshVersB w (rAdd l ⟨p, k, u⟩)) := by
  obtain ⟨A, c, rfl, hnc, hc63⟩ := h.shape
  have hB0 : Below w.heap.size w (w.alloc (.cells #[.int .i64 p, .int .i64 k, .int .i64 u] 38)) := (Below.refl _ _).alloc (Nat.le_refl _) _
  have h0 := h.below hB0 (Nat.le_refl _)
  cases hv : areVers l
  · have hr := Lib.hid (rAdd_no1 (x := ⟨p, k, u⟩) hv)
    go_enter Tryd.func16, Tryd.ntmps16
    go_wp2_with fail
    refine (areVersions_any _ l _ h0).mono ?_; rintro e w1 ⟨rfl, b1⟩
    go_wp2_with fail
    go_ret2
    exact ⟨_, by rw [hr.out]; rfl, by rw [hr.out]; exact OwnRow.nil_ verRec _ _, hB0.trans (b1.mono (by simp))⟩
  · go_enter Tryd.func16, Tryd.ntmps16
    go_wp2_with fail
    refine (areVersions_any _ l _ h0).mono ?_; rintro e W ⟨rfl, b1⟩
    have hW := h0.below b1 (Nat.le_refl _)
    have y0 : W.cell? ⟨w.heap.size, 0, none⟩ = some (.int .i64 p) := Below.keepCell b1 (by go_simp) (Nat.le_refl _)
    have y1 : W.cell? ⟨w.heap.size, 1, none⟩ = some (.int .i64 k) := Below.keepCell b1 (by go_simp) (Nat.le_refl _)
    have y2 : W.cell? ⟨w.heap.size, 2, none⟩ = some (.int .i64 u) := Below.keepCell b1 (by go_simp) (Nat.le_refl _)
    have hzW : w.heap.size < W.heap.size := by have := b1.size; simp at this; omega
    have bW : Below w.heap.size w W := hB0.trans (b1.mono (by simp))
    have hk0 : ∀ (w9 : World), Below W.heap.size W w9 → w9.cell? ⟨w.heap.size, 0, none⟩ = some (.int .i64 p) ∧ w9.cell? ⟨w.heap.size, 1, none⟩ = some (.int .i64 k) ∧ w9.cell? ⟨w.heap.size, 2, none⟩ = some (.int .i64 u) := fun w9 hb =>
      ⟨Below.keepCell hb y0 (Nat.le_refl _), Below.keepCell hb y1 (Nat.le_refl _), Below.keepCell hb y2 (Nat.le_refl _)⟩
    have Hk := Lib.hid hk0
    clear hk0
    go_upto_region 3 with fail
    go_cut [6] (fun s wx => OwnRow verRec wx W.heap.size s (l ++ [⟨p, k, u⟩]) ∧ Below W.heap.size W wx)
    case first =>
      have hD : Below W.heap.size W W.drew := (Below.refl _ _).drew
      have h64 : (([] : List Ver) ++ l).length + [(⟨p, k, u⟩ : Ver)].length ≤ 1099511627776 := by simp; omega
      have h63 : ([] : List Ver).length + l.length ≤ 1099511627776 := by simp; omega
      have bA := addA W
      have bB := addB W ⟨p, k, u⟩
      have bC := addC W ⟨p, k, u⟩
      have hneB := ne_own (a := W.heap.size + 1) (b := W.heap.size) (n := 1) (c := 1) (n' := 0) (c' := 0) (by omega)
      have hneC := ne_own (a := W.heap.size) (b := W.heap.size + 1) (n := 1) (c := 1) (n' := 0) (c' := 0) (by omega)
      have lA := RowAt.below (show RowAt verRec W _ l from hW) bA.2 (Nat.le_refl _)
      have lB := RowAt.below (show RowAt verRec W _ l from hW) bB.2.2 (Nat.le_refl _)
      have lC := RowAt.below (show RowAt verRec W _ l from hW) bC.2.2 (Nat.le_refl _)
      go_region_held3 (fun w' => w'.cell? ⟨w.heap.size, 0, none⟩ = some (.int .i64 p) ∧ w'.cell? ⟨w.heap.size, 1, none⟩ = some (.int .i64 k) ∧ w'.cell? ⟨w.heap.size, 2, none⟩ = some (.int .i64 u))
        (first | go_keep | exact Hk.out _ ((bA.2.trans hg1.below).alloc (bA.2.trans hg1.below).size _) | exact Hk.out _ (((bA.2.trans hg1.below).alloc (bA.2.trans hg1.below).size _).trans hg2.below) | exact Hk.out _ ((bB.2.2.trans hg1.below).trans hg2.below) | exact Hk.out _ ((bC.2.2.trans hg1.below).trans hg2.below) | exact Hk.out _ (bA.2.trans hg1.below) | exact Hk.out _ (bB.2.2.trans hg1.below) | exact Hk.out _ (bC.2.2.trans hg1.below))
        (first
          | (refine step_app_row verRec _ (by rfl) _ _ 23 _ _ Tryd.underlying23 info_ver3 rfl (by omega) (by rfl) W.heap.size _ [] (by rfl) ?_ _ l (by rfl) ?_ h63 ?_ ?_; (first | exact bA.1 | exact bB.1 | exact bC.1); (first | exact lA | exact lB | exact lC); (first | exact bA.2.size | exact bB.2.2.size | exact bC.2.2.size); intro x1 w5 ho1 hg1)
          | (refine step_app_row verRec _ (by rfl) _ _ 23 _ _ Tryd.underlying23 info_ver3 rfl (by omega) (by rfl) W.heap.size _ ([] ++ l) (by rfl) ?_ _ [⟨p, k, u⟩] (by rfl) ?_ h64 ?_ ?_; (first | exact ho1 | exact World.ownsRow.alloc ho1 _); (first | exact RowAt.one verRec w5 ⟨p, k, u⟩ _ rfl | exact addK bB.2.1 hg1 hneB | exact addK bC.2.1 hg1 hneC); (have q9 := hg1.below.size; simp at q9 ⊢; omega); intro x2 w6 ho2 hg2))
      all_goals
        go_wp2_with fail
        go_meet
        first
          | exact ⟨ho2, ((bA.2.trans hg1.below).alloc (bA.2.trans hg1.below).size _).trans hg2.below⟩
          | exact ⟨ho2, (bB.2.2.trans hg1.below).trans hg2.below⟩
          | exact ⟨ho2, (bC.2.2.trans hg1.below).trans hg2.below⟩
    case rest =>
      obtain ⟨ho, hb⟩ := hcut
      have hvA := versOf ho.reads
      have hbf := bW.next (Nat.le_refl _) hb
      have hof := OwnRow.lo ho bW.size
      cases hv2 : areVers (l ++ [⟨p, k, u⟩])
      · have hr := Lib.hid (rAdd_no2 hv2)
        go_wp2_with fail
        refine (areVersions_any _ (l ++ [⟨p, k, u⟩]) _ hvA).mono ?_; rintro e w9 ⟨rfl, b9⟩
        go_wp2_with fail
        go_ret2
        exact ⟨_, by rw [hr.out]; rfl, by rw [hr.out]; exact OwnRow.nil_ verRec _ _, hbf.next (Nat.le_refl _) b9⟩
      · have hr := Lib.hid (rAdd_yes hv hv2)
        go_wp2_with fail
        refine (areVersions_any _ (l ++ [⟨p, k, u⟩]) _ hvA).mono ?_; rintro e w9 ⟨rfl, b9⟩
        have hof9 := OwnRow.below hof b9 (Nat.le_refl _)
        go_wp2_with fail
        go_ret2
        exact ⟨_, by rw [hr.out]; rfl, by rw [hr.out]; exact hof9, hbf.next (Nat.le_refl _) b9⟩
set_option maxHeartbeats 3200000 in
theorem specAdd (v : Value) (l : List Ver) (p k u : Int) (w : World) (h : VersAt w v l) (hl : l.length ≤ 1048576) :
    Calls Tryd.prog 17 #[v, .agg #[.int .i64 p, .int .i64 k, .int .i64 u]] w (FreshVersB w (rAdd l ⟨p, k, u⟩)) := by
  obtain ⟨A, c, rfl, hnc, hc63⟩ := h.shape
  have hB0 : Below w.heap.size w (w.alloc (.cells #[.int .i64 p, .int .i64 k, .int .i64 u] 38)) := (Below.refl _ _).alloc (Nat.le_refl _) _
  go_enter Tryd.func17, Tryd.ntmps17
  go_upto_region 0 with fail
  go_cut [3, 4, 5] (fun s3 s4 s5 wx => s3 = .pointer (some ⟨w.heap.size, 0, none⟩) ∧ s4 = .slice none 0 0 ∧ s5 = .bool false ∧ wx.cell? ⟨w.heap.size, 0, none⟩ = some (.int .i64 p) ∧ wx.cell? ⟨w.heap.size, 1, none⟩ = some (.int .i64 k) ∧ wx.cell? ⟨w.heap.size, 2, none⟩ = some (.int .i64 u) ∧ w.heap.size < wx.heap.size ∧ Below w.heap.size w wx)
  case first =>
    go_wp2_with fail
    go_meet
    exact ⟨rfl, rfl, rfl, by go_simp, by go_simp, by go_simp, by simp, hB0⟩
  case rest =>
    obtain ⟨rfl, rfl, rfl, y0, y1, y2, hzW, bW⟩ := hcut
    obtain ⟨W, hWe⟩ : ∃ W : World, W = wc := ⟨_, rfl⟩
    subst hWe
    have hW := h.below bW (Nat.le_refl _)
    have hk0 : ∀ (w9 : World), Below W.heap.size W w9 → w9.cell? ⟨w.heap.size, 0, none⟩ = some (.int .i64 p) ∧ w9.cell? ⟨w.heap.size, 1, none⟩ = some (.int .i64 k) ∧ w9.cell? ⟨w.heap.size, 2, none⟩ = some (.int .i64 u) := fun w9 hb =>
      ⟨Below.keepCell hb y0 (Nat.le_refl _), Below.keepCell hb y1 (Nat.le_refl _), Below.keepCell hb y2 (Nat.le_refl _)⟩
    have Hk := Lib.hid hk0
    clear hk0
    go_upto_region 1 with fail
    go_cut [6] (fun s wx => OwnRow verRec wx W.heap.size s (l ++ [⟨p, k, u⟩]) ∧ Below W.heap.size W wx)
    case first =>
      have hD : Below W.heap.size W W.drew := (Below.refl _ _).drew
      have h64 : (([] : List Ver) ++ l).length + [(⟨p, k, u⟩ : Ver)].length ≤ 1099511627776 := by simp; omega
      have h63 : ([] : List Ver).length + l.length ≤ 1099511627776 := by simp; omega
      have bA := addA W
      have bB := addB W ⟨p, k, u⟩
      have bC := addC W ⟨p, k, u⟩
      have hneB := ne_own (a := W.heap.size + 1) (b := W.heap.size) (n := 1) (c := 1) (n' := 0) (c' := 0) (by omega)
      have hneC := ne_own (a := W.heap.size) (b := W.heap.size + 1) (n := 1) (c := 1) (n' := 0) (c' := 0) (by omega)
      have lA := RowAt.below (show RowAt verRec W _ l from hW) bA.2 (Nat.le_refl _)
      have lB := RowAt.below (show RowAt verRec W _ l from hW) bB.2.2 (Nat.le_refl _)
      have lC := RowAt.below (show RowAt verRec W _ l from hW) bC.2.2 (Nat.le_refl _)
      go_region_held3 (fun w' => w'.cell? ⟨w.heap.size, 0, none⟩ = some (.int .i64 p) ∧ w'.cell? ⟨w.heap.size, 1, none⟩ = some (.int .i64 k) ∧ w'.cell? ⟨w.heap.size, 2, none⟩ = some (.int .i64 u))
        (first | go_keep | exact Hk.out _ ((bA.2.trans hg1.below).alloc (bA.2.trans hg1.below).size _) | exact Hk.out _ (((bA.2.trans hg1.below).alloc (bA.2.trans hg1.below).size _).trans hg2.below) | exact Hk.out _ ((bB.2.2.trans hg1.below).trans hg2.below) | exact Hk.out _ ((bC.2.2.trans hg1.below).trans hg2.below) | exact Hk.out _ (bA.2.trans hg1.below) | exact Hk.out _ (bB.2.2.trans hg1.below) | exact Hk.out _ (bC.2.2.trans hg1.below))
        (first
          | (refine step_app_row verRec _ (by rfl) _ _ 23 _ _ Tryd.underlying23 info_ver3 rfl (by omega) (by rfl) W.heap.size _ [] (by rfl) ?_ _ l (by rfl) ?_ h63 ?_ ?_; (first | exact bA.1 | exact bB.1 | exact bC.1); (first | exact lA | exact lB | exact lC); (first | exact bA.2.size | exact bB.2.2.size | exact bC.2.2.size); intro x1 w5 ho1 hg1)
          | (refine step_app_row verRec _ (by rfl) _ _ 23 _ _ Tryd.underlying23 info_ver3 rfl (by omega) (by rfl) W.heap.size _ ([] ++ l) (by rfl) ?_ _ [⟨p, k, u⟩] (by rfl) ?_ h64 ?_ ?_; (first | exact ho1 | exact World.ownsRow.alloc ho1 _); (first | exact RowAt.one verRec w5 ⟨p, k, u⟩ _ rfl | exact addK bB.2.1 hg1 hneB | exact addK bC.2.1 hg1 hneC); (have q9 := hg1.below.size; simp at q9 ⊢; omega); intro x2 w6 ho2 hg2))
      all_goals
        go_wp2_with fail
        go_meet
        first
          | exact ⟨ho2, ((bA.2.trans hg1.below).alloc (bA.2.trans hg1.below).size _).trans hg2.below⟩
          | exact ⟨ho2, (bB.2.2.trans hg1.below).trans hg2.below⟩
          | exact ⟨ho2, (bC.2.2.trans hg1.below).trans hg2.below⟩
    case rest =>
      obtain ⟨ho, hb⟩ := hcut
      obtain ⟨W2, hWe2⟩ : ∃ W2 : World, W2 = wc := ⟨_, rfl⟩
      subst hWe2
      have hl2 := versOf (RowAt.below (show RowAt verRec W _ l from hW) hb (Nat.le_refl _))
      have hbf := bW.next (Nat.le_refl _) hb
      have hof := OwnRow.lo ho bW.size
      cases hv : areVers l
      · have hr := Lib.hid (rAdd_no1 (x := ⟨p, k, u⟩) hv)
        go_wp2_with fail
        refine (vrGood_any _ l _ hl2).mono ?_; rintro e w8 ⟨rfl, b8⟩
        go_wp2_with fail
        go_ret2
        exact ⟨_, by rw [hr.out]; rfl, by rw [hr.out]; exact OwnRow.nil_ verRec _ _, hbf.next (Nat.le_refl _) b8⟩
      · cases hv2 : areVers (l ++ [⟨p, k, u⟩])
        · have hr := Lib.hid (rAdd_no2 hv2)
          go_wp2_with fail
          refine (vrGood_any _ l _ hl2).mono ?_; rintro e w8 ⟨rfl, b8⟩
          have hof8 := OwnRow.below hof b8 (Nat.le_refl _)
          have hb8 := hbf.next (Nat.le_refl _) b8
          go_wp2_with fail
          refine (vrGood_any _ (l ++ [⟨p, k, u⟩]) _ (versOf hof8.reads)).mono ?_; rintro e w9 ⟨rfl, b9⟩
          go_wp2_with fail
          go_ret2
          exact ⟨_, by rw [hr.out]; rfl, by rw [hr.out]; exact OwnRow.nil_ verRec _ _, hb8.next (Nat.le_refl _) b9⟩
        · have hr := Lib.hid (rAdd_yes hv hv2)
          go_wp2_with fail
          refine (vrGood_any _ l _ hl2).mono ?_; rintro e w8 ⟨rfl, b8⟩
          have hof8 := OwnRow.below hof b8 (Nat.le_refl _)
          have hb8 := hbf.next (Nat.le_refl _) b8
          go_wp2_with fail
          refine (vrGood_any _ (l ++ [⟨p, k, u⟩]) _ (versOf hof8.reads)).mono ?_; rintro e w9 ⟨rfl, b9⟩
          have hof9 := OwnRow.below hof8 b9 (Nat.le_refl _)
          go_wp2_with fail
          go_ret2
          exact ⟨_, by rw [hr.out]; rfl, by rw [hr.out]; exact hof9, hb8.next (Nat.le_refl _) b9⟩
end Go.Proofs.YtgngnkndebkbmaaDoor
