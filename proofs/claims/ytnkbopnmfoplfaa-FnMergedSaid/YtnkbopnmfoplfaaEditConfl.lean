/- Contracts of EditConflicts, in the program and in the reference. -/
import Derived.Test.YtnkbopnmfoplfaaEditMerge
set_option linter.unusedSimpArgs false
set_option linter.unusedVariables false
namespace Go.Proofs.Ytnkbopnmfoplfaa
open Go.RowKit

def FreshIntsC (w : World) (r : List Int × Bool) (e : Ending) (w' : World) : Prop :=
  ∃ v, e = .returned (.tuple #[v, .bool r.2]) ∧ OwnInts w' w.heap.size v r.1 ∧ Below w.heap.size w w'
theorem ints_lo {w : World} {lo lo' : Nat} {v : Value} {l : List Int} (h : OwnInts w lo v l) (hl : lo' ≤ lo) : OwnInts w lo' v l := ownsRow_lo h hl
/-- What EditConflicts returns. -/
def rConfl (l : List Spt) (a b : List Edt) : List Int × Bool := if okBoth l a b then (mgC l (runE l a 0).1 (runE l b 0).1 l.length, true) else ([], false)
theorem rConfl_no {l : List Spt} {a b : List Edt} (h : okBoth l a b = false) : rConfl l a b = ([], false) := by unfold rConfl; rw [h]; rfl
theorem rConfl_yes {l : List Spt} {a b : List Edt} (h : okBoth l a b = true) : rConfl l a b = (mgC l (runE l a 0).1 (runE l b 0).1 l.length, true) := by unfold rConfl; rw [h]; rfl
theorem rConfl_len (l : List Spt) (a b : List Edt) : (rConfl l a b).1.length ≤ 12 := by
  cases h : okBoth l a b
  · rw [rConfl_no h]; simp
  · rw [rConfl_yes h]
    have h1 := mgC_len l (runE l a 0).1 (runE l b 0).1 l.length
    have h2 := chart_pos (okBoth_t h).1
    show (mgC l (runE l a 0).1 (runE l b 0).1 l.length).length ≤ 12
    omega
theorem run_len1 (l : List Spt) (a : List Edt) : l.length = (runE l a 0).1.length := (runE_len a l 0).1.symm
set_option maxHeartbeats 1600000 in
theorem implConfl (v va vb : Value) (l : List Spt) (a b : List Edt) (w : World) (h : RowAt sptRec w v l) (hA : RowAt edtRec w va a) (hB : RowAt edtRec w vb b) :
    Calls Try.prog 7 #[v, va, vb] w (FreshIntsC w (rConfl l a b)) := by
  cases hk : okBoth l a b
  · have hr := Lib.hid (rConfl_no hk)
    go_enter Try.func7, Try.ntmps7
    go_wp2_with fail
    refine (bothResults_any _ _ _ l a b _ h hA hB).mono ?_; rintro e w1 ⟨x, y, rfl, hxy, b1⟩
    clear hxy
    go_wp2_with fail
    go_ret2
    exact ⟨_, by rw [hr.out]; rfl, by rw [hr.out]; exact OwnInts.nil_ _ _, b1⟩
  · have hr := Lib.hid (rConfl_yes hk)
    have hp := chart_pos (okBoth_t hk).1
    obtain ⟨hl0, hl12⟩ := hp
    go_enter Try.func7, Try.ntmps7
    go_wp2_with fail
    refine (bothResults_any _ _ _ l a b _ h hA hB).mono ?_; rintro e w1 ⟨x, y, rfl, hxy, b1⟩
    obtain ⟨ox, oy⟩ := hxy hk
    go_wp2_with fail
    refine (editConflicts_any _ _ _ l _ _ _ (h.below b1 (Nat.le_refl _)) ox.reads oy.reads (run_len1 l a) (run_len1 l b) hl12).mono ?_; rintro e w2 ⟨z, rfl, oz, b2⟩
    have oz2 := Lib.hid (ints_lo oz b1.size)
    clear oz
    go_wp2_with fail
    go_ret2
    exact ⟨_, by rw [hr.out]; rfl, by rw [hr.out]; exact oz2.out, b1.next (Nat.le_refl _) b2⟩
set_option maxHeartbeats 1600000 in
theorem specConfl (v va vb : Value) (l : List Spt) (a b : List Edt) (w : World) (h : RowAt sptRec w v l) (hA : RowAt edtRec w va a) (hB : RowAt edtRec w vb b) :
    Calls Try.prog 8 #[v, va, vb] w (FreshIntsC w (rConfl l a b)) := by
  cases hk : okBoth l a b
  · have hr := Lib.hid (rConfl_no hk)
    go_enter Try.func8, Try.ntmps8
    go_wp2_with fail
    refine (mgBoth_any _ _ _ l a b _ h hA hB).mono ?_; rintro e w1 ⟨x, y, rfl, hxy, b1⟩
    clear hxy
    go_wp2_with fail
    go_ret2
    exact ⟨_, by rw [hr.out]; rfl, by rw [hr.out]; exact OwnInts.nil_ _ _, b1⟩
  · have hr := Lib.hid (rConfl_yes hk)
    have hp := chart_pos (okBoth_t hk).1
    obtain ⟨hl0, hl12⟩ := hp
    go_enter Try.func8, Try.ntmps8
    go_wp2_with fail
    refine (mgBoth_any _ _ _ l a b _ h hA hB).mono ?_; rintro e w1 ⟨x, y, rfl, hxy, b1⟩
    obtain ⟨ox, oy⟩ := hxy hk
    go_wp2_with fail
    refine (mgAll_any _ _ _ l _ _ _ (h.below b1 (Nat.le_refl _)) ox.reads oy.reads (run_len1 l a) (run_len1 l b) hl12).mono ?_; rintro e w2 ⟨z, u, rfl, oz, ou, ap, b2⟩
    have ou2 := Lib.hid (ints_lo ou b1.size)
    clear oz ou
    go_wp2_with fail
    go_ret2
    exact ⟨_, by rw [hr.out]; rfl, by rw [hr.out]; exact ou2.out, b1.next (Nat.le_refl _) b2⟩
end Go.Proofs.Ytnkbopnmfoplfaa
