/- Contracts: runs of edits, in the program and in the reference. -/
import Derived.Test.YtombnhnhbocceaaGreatDoorEditMove
import Derived.Test.YtombnhnhbocceaaGreatDoorPut
set_option linter.unusedSimpArgs false
set_option linter.unusedVariables false
namespace Go.Proofs.YtombnhnhbocceaaGreatDoor
open Go.RowKit

/-- Edits carried out one after the other, until one does not fit. -/
def runE : List Spt → List Edt → Nat → List Spt × Nat
  | s, [], n => (s, n)
  | s, e :: es, n => if fitsB s e.p.toNat e.b e.a then runE (s.set e.p.toNat e.a) es (n + 1) else (s, n)
theorem runE_len (es : List Edt) : ∀ (s : List Spt) (n : Nat), (runE s es n).1.length = s.length ∧ (runE s es n).2 ≤ n + es.length := by
  induction es with
  | nil => intro s n; exact ⟨rfl, by simp [runE]⟩
  | cons e es ih =>
    intro s n
    unfold runE
    split
    · have := ih (s.set e.p.toNat e.a) (n + 1)
      rw [List.length_set] at this
      exact ⟨this.1, by have := this.2; simp; omega⟩
    · exact ⟨rfl, by simp⟩
theorem runE_no {s : List Spt} {es : List Edt} {k n : Nat} (h : k < es.length) (hp : (gx edtRec es k).p = (n : Int)) (hf : fitsB s n ⟨(gx edtRec es k).bx, (gx edtRec es k).bY⟩ ⟨(gx edtRec es k).ax, (gx edtRec es k).aY⟩ = false) :
    runE s (es.drop k) k = (s, k) := by
  rw [drop_gx edtRec es k h]
  unfold runE
  have e1 : (gx edtRec es k).p.toNat = n := by omega
  rw [e1, if_neg]
  intro h9
  have : fitsB s n (gx edtRec es k).b (gx edtRec es k).a = false := hf
  rw [this] at h9; cases h9
theorem runE_yes {s : List Spt} {es : List Edt} {k n : Nat} (h : k < es.length) (hp : (gx edtRec es k).p = (n : Int)) (hf : fitsB s n ⟨(gx edtRec es k).bx, (gx edtRec es k).bY⟩ ⟨(gx edtRec es k).ax, (gx edtRec es k).aY⟩ = true) :
    runE s (es.drop k) k = runE (s.set n ⟨(gx edtRec es k).ax, (gx edtRec es k).aY⟩) (es.drop (k + 1)) (k + 1) := by
  rw [drop_gx edtRec es k h]
  conv => lhs; unfold runE
  have e1 : (gx edtRec es k).p.toNat = n := by omega
  have h9 : fitsB s n (gx edtRec es k).b (gx edtRec es k).a = true := hf
  rw [e1, if_pos h9]
  rfl
theorem fits_lt {l : List Spt} {n : Nat} {b a : Spt} (h : fitsB l n b a = true) : n < l.length := by
  unfold fitsB at h
  simp only [Bool.and_eq_true] at h
  exact of_decide_eq_true h.1.1
def FreshRun (w : World) (r : List Spt × Nat) (e : Ending) (w' : World) : Prop :=
  ∃ x, e = .returned (.tuple #[x, .int .i64 r.2]) ∧ OwnRow sptRec w' w.heap.size x r.1 ∧ Below w.heap.size w w'

end Go.Proofs.YtombnhnhbocceaaGreatDoor
/- Contracts: the results of whole edits of two editors; whether they are the same. -/
set_option linter.unusedSimpArgs false
set_option linter.unusedVariables false
namespace Go.Proofs.YtombnhnhbocceaaGreatDoor
open Go.RowKit

def rWhole (l : List Spt) (es : List Edt) : List Spt × Bool := if isChart l && areEdts es then ((runE l es 0).1, decide ((runE l es 0).2 = es.length)) else ([], false)
def okBoth (l : List Spt) (a b : List Edt) : Bool := (rWhole l a).2 && (rWhole l b).2
theorem rWhole_t {l : List Spt} {es : List Edt} (h : (rWhole l es).2 = true) : isChart l = true ∧ areEdts es = true ∧ (rWhole l es).1 = (runE l es 0).1 := by
  unfold rWhole at h ⊢
  by_cases h9 : (isChart l && areEdts es) = true
  · rw [if_pos h9]
    rw [Bool.and_eq_true] at h9
    exact ⟨h9.1, h9.2, rfl⟩
  · rw [if_neg h9] at h; cases h
theorem rWhole_no1 {l : List Spt} {es : List Edt} (h : isChart l = false) : rWhole l es = ([], false) := by unfold rWhole; rw [h]; rfl
theorem rWhole_no2 {l : List Spt} {es : List Edt} (h : areEdts es = false) : rWhole l es = ([], false) := by unfold rWhole; rw [h]; cases isChart l <;> rfl
theorem rWhole_yes {l : List Spt} {es : List Edt} (h1 : isChart l = true) (h2 : areEdts es = true) : rWhole l es = ((runE l es 0).1, decide ((runE l es 0).2 = es.length)) := by unfold rWhole; rw [h1, h2]; rfl
theorem chart_pos {l : List Spt} (h : isChart l = true) : 0 < l.length ∧ l.length ≤ 12 := by have := isChart_t h; omega
theorem okBoth_t {l : List Spt} {a b : List Edt} (h : okBoth l a b = true) : isChart l = true ∧ (rWhole l a).1 = (runE l a 0).1 ∧ (rWhole l b).1 = (runE l b 0).1 := by
  unfold okBoth at h
  rw [Bool.and_eq_true] at h
  have h1 := rWhole_t h.1
  have h2 := rWhole_t h.2
  exact ⟨h1.1, h1.2.2, h2.2.2⟩
theorem nat_beq (a b : Nat) : ((a : Int) == (b : Int)) = decide (a = b) := by
  rw [Bool.eq_iff_iff, decide_eq_true_iff, beq_iff_eq]; omega
def FreshRes (w : World) (r : List Spt × Bool) (e : Ending) (w' : World) : Prop :=
  ∃ x, e = .returned (.tuple #[x, .bool r.2]) ∧ OwnRow sptRec w' w.heap.size x r.1 ∧ Below w.heap.size w w'
def FreshBoth (w : World) (l : List Spt) (a b : List Edt) (e : Ending) (w' : World) : Prop :=
  ∃ x y, e = .returned (.tuple #[x, y, .bool (okBoth l a b)]) ∧ (okBoth l a b = true → OwnRow sptRec w' w.heap.size x (runE l a 0).1 ∧ OwnRow sptRec w' w.heap.size y (runE l b 0).1) ∧ Below w.heap.size w w'

theorem okBoth_no1 {l : List Spt} {a b : List Edt} (h : isChart l = false) : okBoth l a b = false := by unfold okBoth; rw [rWhole_no1 h]; rfl
theorem okBoth_no2 {l : List Spt} {a b : List Edt} (h : (areEdts a && areEdts b) = false) : okBoth l a b = false := by
  unfold okBoth
  cases h1 : areEdts a
  · rw [rWhole_no2 h1]; rfl
  · rw [h1] at h
    have h2 : areEdts b = false := by simpa using h
    rw [rWhole_no2 h2]; simp
end Go.Proofs.YtombnhnhbocceaaGreatDoor
/- Contracts of SameEffect, in the program and in the reference. -/
set_option linter.unusedSimpArgs false
set_option linter.unusedVariables false
namespace Go.Proofs.YtombnhnhbocceaaGreatDoor
open Go.RowKit

theorem take_eq_succ' {l1 l2 : List Spt} {k : Nat} (h1 : k < l1.length) (h2 : k < l2.length) (ht : l1.take k = l2.take k) (he : gx sptRec l1 k = gx sptRec l2 k) : l1.take (k + 1) = l2.take (k + 1) := by
  rw [take_succ_gx sptRec l1 k h1, take_succ_gx sptRec l2 k h2, ht, he]
theorem gx_ne {l1 l2 : List Spt} {k : Nat} (he : gx sptRec l1 k ≠ gx sptRec l2 k) : l1 ≠ l2 := by rintro rfl; exact he rfl
/-- What SameEffect returns. -/
def rSame (l : List Spt) (a b : List Edt) : Bool × Bool := if okBoth l a b then (decide ((runE l a 0).1 = (runE l b 0).1), true) else (false, false)
theorem rSame_no {l : List Spt} {a b : List Edt} (h : okBoth l a b = false) : rSame l a b = (false, false) := by unfold rSame; rw [h]; rfl
theorem rSame_yes {l : List Spt} {a b : List Edt} (h : okBoth l a b = true) : rSame l a b = (decide ((runE l a 0).1 = (runE l b 0).1), true) := by unfold rSame; rw [h]; rfl
theorem run_lens (l : List Spt) (a b : List Edt) : (runE l a 0).1.length = (runE l b 0).1.length := by rw [(runE_len a l 0).1, (runE_len b l 0).1]
end Go.Proofs.YtombnhnhbocceaaGreatDoor
/- Contracts: the performers in conflict; merged charts. -/
set_option linter.unusedSimpArgs false
set_option linter.unusedVariables false
namespace Go.Proofs.YtombnhnhbocceaaGreatDoor
open Go.RowKit

/-- What a performer's spot becomes, and whether there is a conflict: s before, x and y behind. -/
def mgSpot (s x y : Spt) : Spt := if x = y ∨ y = s then x else if x = s then y else s
def mgConf (s x y : Spt) : Bool := decide (x ≠ s) && decide (y ≠ s) && decide (x ≠ y)
def mgS (l x y : List Spt) : Nat → List Spt
  | 0 => []
  | n + 1 => mgS l x y n ++ [mgSpot (gx sptRec l n) (gx sptRec x n) (gx sptRec y n)]
def mgC (l x y : List Spt) : Nat → List Int
  | 0 => []
  | n + 1 => mgC l x y n ++ if mgConf (gx sptRec l n) (gx sptRec x n) (gx sptRec y n) then [(n : Int)] else []
theorem mgS_len (l x y : List Spt) (n : Nat) : (mgS l x y n).length = n := by
  induction n with
  | zero => rfl
  | succ n ih => unfold mgS; rw [List.length_append, ih]; rfl
theorem mgC_len (l x y : List Spt) (n : Nat) : (mgC l x y n).length ≤ n := by
  induction n with
  | zero => simp [mgC]
  | succ n ih => unfold mgC; rw [List.length_append]; split <;> simp <;> omega
theorem mgC_no {l x y : List Spt} {n : Nat} (h : mgConf (gx sptRec l n) (gx sptRec x n) (gx sptRec y n) = false) : mgC l x y (n + 1) = mgC l x y n := by
  conv => lhs; unfold mgC
  rw [h]; simp
theorem mgC_yes {l x y : List Spt} {n : Nat} (h : mgConf (gx sptRec l n) (gx sptRec x n) (gx sptRec y n) = true) : mgC l x y (n + 1) = mgC l x y n ++ [(n : Int)] := by
  conv => lhs; unfold mgC
  rw [h]; simp
theorem mgS_succ {l x y : List Spt} {n : Nat} {u : Spt} (h : mgSpot (gx sptRec l n) (gx sptRec x n) (gx sptRec y n) = u) : mgS l x y (n + 1) = mgS l x y n ++ [u] := by
  conv => lhs; unfold mgS
  rw [h]
theorem spt_cases (a b : Spt) : (a = b ∧ (a.x == b.x) = true ∧ (a.y == b.y) = true ∧ (a.x != b.x) = false ∧ (a.y != b.y) = false) ∨
    (a ≠ b ∧ (a.x == b.x) = true ∧ (a.y == b.y) = false ∧ (a.x != b.x) = false ∧ (a.y != b.y) = true) ∨
    (a ≠ b ∧ (a.x == b.x) = false ∧ (a.y == b.y) = true ∧ (a.x != b.x) = true ∧ (a.y != b.y) = false) ∨
    (a ≠ b ∧ (a.x == b.x) = false ∧ (a.y == b.y) = false ∧ (a.x != b.x) = true ∧ (a.y != b.y) = true) := by
  cases a; cases b
  rename_i x y z t
  by_cases h1 : x = z <;> by_cases h2 : y = t <;> simp [h1, h2]

end Go.Proofs.YtombnhnhbocceaaGreatDoor
/- Contract of mgAll: the merged spots and the conflicts, in the reference. -/
set_option linter.unusedSimpArgs false
set_option linter.unusedVariables false
namespace Go.Proofs.YtombnhnhbocceaaGreatDoor
open Go.RowKit

theorem mg_A {s x y : Spt} (h : x = y ∨ y = s) : mgSpot s x y = x ∧ mgConf s x y = false := by
  refine ⟨by unfold mgSpot; rw [if_pos h], ?_⟩
  unfold mgConf
  rcases h with h | h <;> simp [h]
theorem mg_C {s x y : Spt} (h1 : ¬ (x = y ∨ y = s)) (h : x = s) : mgSpot s x y = y ∧ mgConf s x y = false :=
  ⟨by unfold mgSpot; rw [if_neg h1, if_pos h], by unfold mgConf; simp [h]⟩
theorem mg_D {s x y : Spt} (h1 : ¬ (x = y ∨ y = s)) (h : x ≠ s) : mgSpot s x y = s ∧ mgConf s x y = true :=
  ⟨by unfold mgSpot; rw [if_neg h1, if_neg h], by unfold mgConf; rw [decide_eq_true h, decide_eq_true (show y ≠ s from fun e => h1 (.inr e)), decide_eq_true (show x ≠ y from fun e => h1 (.inl e))]; rfl⟩
def FreshMg (w : World) (a : List Spt) (b : List Int) (e : Ending) (w' : World) : Prop :=
  ∃ v u, e = .returned (.tuple #[v, u]) ∧ OwnRow sptRec w' w.heap.size v a ∧ OwnInts w' w.heap.size u b ∧ Apt v u ∧ Below w.heap.size w w'

end Go.Proofs.YtombnhnhbocceaaGreatDoor
/- Contracts of EditConflicts, in the program and in the reference. -/
set_option linter.unusedSimpArgs false
set_option linter.unusedVariables false
namespace Go.Proofs.YtombnhnhbocceaaGreatDoor
open Go.RowKit

def FreshIntsC (w : World) (r : List Int × Bool) (e : Ending) (w' : World) : Prop :=
  ∃ v, e = .returned (.tuple #[v, .bool r.2]) ∧ OwnInts w' w.heap.size v r.1 ∧ Below w.heap.size w w'
theorem ints_lo {w : World} {lo lo' : Nat} {v : Value} {l : List Int} (h : OwnInts w lo v l) (hl : lo' ≤ lo) : OwnInts w lo' v l := ownsRow_lo h hl
/-- What EditConflicts returns. -/
def rConfl (l : List Spt) (a b : List Edt) : List Int × Bool := if okBoth l a b then (mgC l (runE l a 0).1 (runE l b 0).1 l.length, true) else ([], false)
theorem rConfl_no {l : List Spt} {a b : List Edt} (h : okBoth l a b = false) : rConfl l a b = ([], false) := by unfold rConfl; rw [h]; rfl
theorem rConfl_yes {l : List Spt} {a b : List Edt} (h : okBoth l a b = true) : rConfl l a b = (mgC l (runE l a 0).1 (runE l b 0).1 l.length, true) := by unfold rConfl; rw [h]; rfl
theorem rConfl_len (l : List Spt) (a b : List Edt) : (rConfl l a b).1.length ≤ 12 := by
  cases h : okBoth l a b
  · rw [rConfl_no h]; simp
  · rw [rConfl_yes h]
    have h1 := mgC_len l (runE l a 0).1 (runE l b 0).1 l.length
    have h2 := chart_pos (okBoth_t h).1
    show (mgC l (runE l a 0).1 (runE l b 0).1 l.length).length ≤ 12
    omega
theorem run_len1 (l : List Spt) (a : List Edt) : l.length = (runE l a 0).1.length := (runE_len a l 0).1.symm
end Go.Proofs.YtombnhnhbocceaaGreatDoor
/- Contracts: the edits that fit, one after the other; in the program and in the reference. -/
set_option linter.unusedSimpArgs false
set_option linter.unusedVariables false
namespace Go.Proofs.YtombnhnhbocceaaGreatDoor
open Go.RowKit

/-- The chart after n edits of which those that fit are carried out, and which do and which do not. -/
def fitSt (l : List Spt) (es : List Edt) : Nat → List Spt × List Int × List Int
  | 0 => (l, [], [])
  | n + 1 => if fitsB (fitSt l es n).1 (gx edtRec es n).p.toNat (gx edtRec es n).b (gx edtRec es n).a then ((fitSt l es n).1.set (gx edtRec es n).p.toNat (gx edtRec es n).a, (fitSt l es n).2.1 ++ [(n : Int)], (fitSt l es n).2.2)
    else ((fitSt l es n).1, (fitSt l es n).2.1, (fitSt l es n).2.2 ++ [(n : Int)])
theorem fitSt_len (l : List Spt) (es : List Edt) (n : Nat) : (fitSt l es n).1.length = l.length ∧ (fitSt l es n).2.1.length + (fitSt l es n).2.2.length = n := by
  induction n with
  | zero => exact ⟨rfl, rfl⟩
  | succ n ih =>
    unfold fitSt
    split
    · exact ⟨by rw [List.length_set]; exact ih.1, by simp only [List.length_append, List.length_cons, List.length_nil]; omega⟩
    · exact ⟨ih.1, by simp only [List.length_append, List.length_cons, List.length_nil]; omega⟩
theorem fitSt_no {l : List Spt} {es : List Edt} {k n : Nat} (hp : (gx edtRec es k).p = (n : Int)) (hf : fitsB (fitSt l es k).1 n ⟨(gx edtRec es k).bx, (gx edtRec es k).bY⟩ ⟨(gx edtRec es k).ax, (gx edtRec es k).aY⟩ = false) :
    fitSt l es (k + 1) = ((fitSt l es k).1, (fitSt l es k).2.1, (fitSt l es k).2.2 ++ [(k : Int)]) := by
  have e1 : (gx edtRec es k).p.toNat = n := by omega
  have h9 : fitsB (fitSt l es k).1 n (gx edtRec es k).b (gx edtRec es k).a = false := hf
  conv => lhs; unfold fitSt
  rw [e1, h9]; rfl
theorem fitSt_yes {l : List Spt} {es : List Edt} {k n : Nat} (hp : (gx edtRec es k).p = (n : Int)) (hf : fitsB (fitSt l es k).1 n ⟨(gx edtRec es k).bx, (gx edtRec es k).bY⟩ ⟨(gx edtRec es k).ax, (gx edtRec es k).aY⟩ = true) :
    fitSt l es (k + 1) = ((fitSt l es k).1.set n ⟨(gx edtRec es k).ax, (gx edtRec es k).aY⟩, (fitSt l es k).2.1 ++ [(k : Int)], (fitSt l es k).2.2) := by
  have e1 : (gx edtRec es k).p.toNat = n := by omega
  have h9 : fitsB (fitSt l es k).1 n (gx edtRec es k).b (gx edtRec es k).a = true := hf
  conv => lhs; unfold fitSt
  rw [e1, h9]; rfl
def FreshFit (w : World) (a : List Spt) (b : List Int) (e : Ending) (w' : World) : Prop :=
  ∃ v u, e = .returned (.tuple #[v, u]) ∧ OwnRow sptRec w' w.heap.size v a ∧ OwnInts w' w.heap.size u b ∧ Apt v u ∧ Below w.heap.size w w'
end Go.Proofs.YtombnhnhbocceaaGreatDoor
/- Contract of mgFit: the edits that fit, in the reference. -/
set_option linter.unusedSimpArgs false
set_option linter.unusedVariables false
namespace Go.Proofs.YtombnhnhbocceaaGreatDoor
open Go.RowKit

def FreshFit3 (w : World) (r : List Spt × List Int × List Int) (e : Ending) (w' : World) : Prop :=
  ∃ t u v, e = .returned (.tuple #[t, u, v]) ∧ OwnRow sptRec w' w.heap.size t r.1 ∧ OwnInts w' w.heap.size u r.2.1 ∧ OwnInts w' w.heap.size v r.2.2 ∧ Apt t u ∧ Apt t v ∧ Apt u v ∧ Below w.heap.size w w'
end Go.Proofs.YtombnhnhbocceaaGreatDoor
/- Contracts of FittingEdits, in the program and in the reference. -/
set_option linter.unusedSimpArgs false
set_option linter.unusedVariables false
namespace Go.Proofs.YtombnhnhbocceaaGreatDoor
open Go.RowKit

/-- What FittingEdits returns. -/
def rFitting (l : List Spt) (es : List Edt) : List Int × Bool := if isChart l && areEdts es then ((fitSt l es es.length).2.1, true) else ([], false)
theorem rFitting_no1 {l : List Spt} {es : List Edt} (h : isChart l = false) : rFitting l es = ([], false) := by unfold rFitting; rw [h]; rfl
theorem rFitting_no2 {l : List Spt} {es : List Edt} (h : areEdts es = false) : rFitting l es = ([], false) := by unfold rFitting; rw [h]; cases isChart l <;> rfl
theorem rFitting_yes {l : List Spt} {es : List Edt} (h1 : isChart l = true) (h2 : areEdts es = true) : rFitting l es = ((fitSt l es es.length).2.1, true) := by unfold rFitting; rw [h1, h2]; rfl
theorem rFitting_len (l : List Spt) (es : List Edt) : (rFitting l es).1.length ≤ 30 := by
  cases h1 : isChart l
  · rw [rFitting_no1 h1]; simp
  · cases h2 : areEdts es
    · rw [rFitting_no2 h2]; simp
    · rw [rFitting_yes h1 h2]
      have h3 := (fitSt_len l es es.length).2
      have h4 := (areEdts_t h2).1
      show (fitSt l es es.length).2.1.length ≤ 30
      omega
end Go.Proofs.YtombnhnhbocceaaGreatDoor
/- Contracts: closures over edits, EditorsOf, in the program and in the reference. -/
set_option linter.unusedSimpArgs false
set_option linter.unusedVariables false
namespace Go.Proofs.YtombnhnhbocceaaGreatDoor
open Go.RowKit

/-- The first edit of which p holds, or -1. -/
def fndE (p : Edt → Bool) : List Edt → Nat → Int
  | [], _ => -1
  | x :: l, k => if p x then (k : Int) else fndE p l (k + 1)
theorem fndE_cases (p : Edt → Bool) (l : List Edt) (k : Nat) : (fndE p l k = -1 ∧ l.any p = false) ∨ (0 ≤ fndE p l k ∧ l.any p = true) := by
  induction l generalizing k with
  | nil => left; exact ⟨rfl, rfl⟩
  | cons x l ih =>
    unfold fndE
    cases h : p x
    · rw [if_neg (by decide)]
      rcases ih (k + 1) with ⟨h1, h2⟩ | ⟨h1, h2⟩
      · left; exact ⟨h1, by rw [List.any_cons, h, h2]; rfl⟩
      · right; exact ⟨h1, by rw [List.any_cons, h2]; simp⟩
    · right; rw [if_pos rfl]; exact ⟨by omega, by rw [List.any_cons, h]; rfl⟩
theorem fndE_hit {p : Edt → Bool} {l : List Edt} {k : Nat} (h : k < l.length) (e : p (gx edtRec l k) = true) : fndE p (l.drop k) k = (k : Int) := by
  rw [drop_gx edtRec l k h]; unfold fndE; rw [if_pos e]
theorem fndE_miss {p : Edt → Bool} {l : List Edt} {k : Nat} (h : k < l.length) (e : p (gx edtRec l k) = false) : fndE p (l.drop k) k = fndE p (l.drop (k + 1)) (k + 1) := by
  rw [drop_gx edtRec l k h]
  conv => lhs; unfold fndE
  rw [if_neg (by rw [e]; decide)]
/-- Of an increasing row those that occur. -/
def occ (R : List Int) (f : Edt → Int) (es : List Edt) : List Int := R.filter fun n => es.any fun x => f x == n
theorem occ_put (R : List Int) (f : Edt → Int) (es : List Edt) (k : Nat) (hs : R.Pairwise (· < ·)) (hk : k < es.length) (hn : f (gx edtRec es k) ∈ R) :
    putI (occ R f (es.take k)) (f (gx edtRec es k)) = occ R f (es.take (k + 1)) := by
  unfold occ
  rw [putI_filter R _ _ hs hn, take_succ_gx edtRec es k hk]
  apply List.filter_congr
  intro x _
  rw [List.any_append]
  simp only [List.any_cons, List.any_nil, Bool.or_false]
  congr 1
  rw [Bool.eq_iff_iff, beq_iff_eq, beq_iff_eq]; exact eq_comm
theorem occ_nil (R : List Int) (f : Edt → Int) : occ R f [] = [] := by simp [occ]
theorem occ_len (R : List Int) (f : Edt → Int) (es : List Edt) : (occ R f es).length ≤ R.length := List.length_filter_le _ _
theorem occ_no {R : List Int} {f : Edt → Int} {es : List Edt} {x : Int} (h : (es.any fun y => f y == x) = false) : occ (R ++ [x]) f es = occ R f es := by
  unfold occ; rw [List.filter_append]; simp only [List.filter_cons, List.filter_nil, h]; simp
theorem occ_yes {R : List Int} {f : Edt → Int} {es : List Edt} {x : Int} (h : (es.any fun y => f y == x) = true) : occ (R ++ [x]) f es = occ R f es ++ [x] := by
  unfold occ; rw [List.filter_append]; simp only [List.filter_cons, List.filter_nil, h]; simp

theorem off_keep {w w5 : World} {t : Value} {b o : Nat} {u : Value} (hg : w.grownBy w5 t.ownBlock) (hne : t.ownBlock ≠ some b) (hc : w.cell? ⟨b, o, none⟩ = some u) : w5.cell? ⟨b, o, none⟩ = some u := by
  have hlt := World.block_lt_of_cell? w ⟨b, o, none⟩ hc
  exact (World.cell?_of_block (w := w) (w' := w5) (hg.block b hlt (fun e => hne e.symm))).trans hc
/-! ### EditorsOf -/
/-- What EditorsOf returns. -/
def rEditors (es : List Edt) : List Int × Bool := if areEdts es then (occ (rng 1 9) Edt.e es, true) else ([], false)
theorem rEditors_no {es : List Edt} (h : areEdts es = false) : rEditors es = ([], false) := by unfold rEditors; rw [h]; rfl
theorem rEditors_yes {es : List Edt} (h : areEdts es = true) : rEditors es = (occ (rng 1 9) Edt.e es, true) := by unfold rEditors; rw [h]; rfl
theorem rEditors_len (es : List Edt) : (rEditors es).1.length ≤ 9 := by
  cases h : areEdts es
  · rw [rEditors_no h]; simp
  · rw [rEditors_yes h]
    have := occ_len (rng 1 9) Edt.e es
    rw [rng_len] at this
    exact this
end Go.Proofs.YtombnhnhbocceaaGreatDoor
/- Contracts of BothTouch, in the program and in the reference. -/
set_option linter.unusedSimpArgs false
set_option linter.unusedVariables false
namespace Go.Proofs.YtombnhnhbocceaaGreatDoor
open Go.RowKit

/-- The index of the last edit of a performer, or -1. -/
def lastE (es : List Edt) (p : Int) : Nat → Int
  | 0 => -1
  | k + 1 => if (gx edtRec es k).p = p then (k : Int) else lastE es p k
theorem lastE_cases (es : List Edt) (p : Int) (k : Nat) (hk : k ≤ es.length) : (lastE es p k = -1 ∧ ((es.take k).any fun x => x.p == p) = false) ∨ (0 ≤ lastE es p k ∧ lastE es p k < k ∧ ((es.take k).any fun x => x.p == p) = true) := by
  induction k with
  | zero => left; exact ⟨rfl, by simp⟩
  | succ k ih =>
    rw [take_succ_gx edtRec es k (by omega), List.any_append]
    unfold lastE
    by_cases h : (gx edtRec es k).p = p
    · right; rw [if_pos h]; exact ⟨by omega, by omega, by simp [h]⟩
    · rw [if_neg h]
      have h2 : ((gx edtRec es k).p == p) = false := by simpa using h
      rcases ih (by omega) with ⟨h3, h4⟩ | ⟨h3, h4, h5⟩
      · left; exact ⟨h3, by rw [h4]; simp [h2]⟩
      · right; exact ⟨h3, by omega, by rw [h5]; rfl⟩
theorem lastE_pos (es : List Edt) (p : Int) : decide (0 ≤ lastE es p es.length) = es.any fun x => x.p == p := by
  have := lastE_cases es p es.length (Nat.le_refl _)
  rw [List.take_length] at this
  rcases this with ⟨h1, h2⟩ | ⟨h1, _, h2⟩
  · rw [h1, h2]; rfl
  · rw [h2]; exact decide_eq_true h1
theorem lastE_t {es : List Edt} {p : Int} {k : Nat} (h : ((gx edtRec es k).p == p) = true) : lastE es p (k + 1) = (k : Int) := by
  unfold lastE; rw [if_pos (by simpa using h)]
theorem lastE_f {es : List Edt} {p : Int} {k : Nat} (h : ((gx edtRec es k).p == p) = false) : lastE es p (k + 1) = lastE es p k := by
  conv => lhs; unfold lastE
  rw [if_neg (by simpa using h)]
set_option maxHeartbeats 3200000 in
theorem edLast_any (ve : Value) (es : List Edt) (p : Int) (w : World) (hE : RowAt edtRec w ve es) :
    Calls Tryz.prog 35 #[ve, .int .i64 p] w fun e w' => e = .returned (.int .i64 (lastE es p es.length)) ∧ Below w.heap.size w w' := by
  obtain ⟨B, d, rfl, hnd, hd63⟩ := hE.shape
  go_enter Tryz.func35, Tryz.ntmps35
  go_wp2_with fail
  go_loopw [5, 10] (fun t s wr => ∃ k : Nat, k ≤ es.length ∧ s = .int .i64 k ∧ t = .int .i64 (lastE es p k) ∧ Below w.heap.size w wr) (fun _ s _ => es.length - (intOf s).toNat)
  case atStart => exact ⟨0, Nat.zero_le _, rfl, rfl, Below.refl _ _⟩
  case round =>
    obtain ⟨k, hk, rfl, rfl, hb⟩ := hrel
    by_cases hlt : k < es.length
    · obtain ⟨b, o, rfl, hc0, hc1, hc2, hc3, hc4, hc5⟩ := edt_at (hE.below hb (Nat.le_refl _)) k hlt
      have hX : Below wr.heap.size wr (wr.alloc (.cells #[.int .i64 (gx edtRec es k).e, .int .i64 (gx edtRec es k).p, .int .i64 (gx edtRec es k).bx, .int .i64 (gx edtRec es k).bY, .int .i64 (gx edtRec es k).ax, .int .i64 (gx edtRec es k).aY] 39)) := (Below.refl _ _).alloc (Nat.le_refl _) _
      have hbX := hb.trans (hX.mono hb.size)
      cases e0 : ((gx edtRec es k).p == p)
      · have hs := Lib.hid (lastE_f e0)
        go_wp2_with fail
        go_roundw
        case rel => exact ⟨k + 1, by omega, by go_num, by rw [hs.out], hbX⟩
        case measure => simp [intOf]; omega
      · have hs := Lib.hid (lastE_t e0)
        go_wp2_with fail
        go_roundw
        case rel => exact ⟨k + 1, by omega, by go_num, by rw [hs.out], hbX⟩
        case measure => simp [intOf]; omega
    · obtain rfl : k = es.length := by omega
      go_wp2_with fail
      go_ret
      exact ⟨rfl, hb⟩

/-- The performers whom both touch. -/
def touchB (a b : List Edt) : List Int := (rng 0 12).filter fun n => (a.any fun x => x.p == n) && (b.any fun x => x.p == n)
def rTouch (a b : List Edt) : List Int × Bool := if areEdts a && areEdts b then (touchB a b, true) else ([], false)
theorem rTouch_no1 {a b : List Edt} (h : areEdts a = false) : rTouch a b = ([], false) := by unfold rTouch; rw [h]; rfl
theorem rTouch_no {a b : List Edt} (h : (areEdts a && areEdts b) = false) : rTouch a b = ([], false) := by unfold rTouch; rw [h]; rfl
theorem rTouch_no2 {a b : List Edt} (h : areEdts b = false) : rTouch a b = ([], false) := rTouch_no (by rw [h]; simp)
theorem rTouch_yes {a b : List Edt} (h : (areEdts a && areEdts b) = true) : rTouch a b = (touchB a b, true) := by unfold rTouch; rw [h]; rfl
theorem touchB_len (a b : List Edt) : (touchB a b).length ≤ 12 := by
  have := List.length_filter_le (fun n => (a.any fun x => x.p == n) && (b.any fun x => x.p == n)) (rng 0 12)
  rw [rng_len] at this
  exact this
theorem rTouch_len (a b : List Edt) : (rTouch a b).1.length ≤ 12 := by
  cases h : (areEdts a && areEdts b)
  · rw [rTouch_no h]; simp
  · rw [rTouch_yes h]; exact touchB_len a b
theorem touchB_put {a b : List Edt} {k : Nat} (hk : k < a.length) (hn : (gx edtRec a k).p ∈ rng 0 12) (h : (b.any fun x => x.p == (gx edtRec a k).p) = true) :
    putI (touchB (a.take k) b) (gx edtRec a k).p = touchB (a.take (k + 1)) b := by
  unfold touchB
  rw [putI_filter _ _ _ (rng_sorted 0 12) hn, take_succ_gx edtRec a k hk]
  apply List.filter_congr
  intro x _
  rw [List.any_append]
  simp only [List.any_cons, List.any_nil, Bool.or_false]
  by_cases e : x = (gx edtRec a k).p
  · subst e; rw [h]; simp
  · have e1 : (x == (gx edtRec a k).p) = false := by simpa using e
    have e2 : ((gx edtRec a k).p == x) = false := by simp; exact fun h9 => e h9.symm
    rw [e1, e2, Bool.or_false, Bool.or_false]
theorem touchB_skip {a b : List Edt} {k : Nat} (hk : k < a.length) (h : (b.any fun x => x.p == (gx edtRec a k).p) = false) : touchB (a.take (k + 1)) b = touchB (a.take k) b := by
  unfold touchB
  rw [take_succ_gx edtRec a k hk]
  apply List.filter_congr
  intro x _
  rw [List.any_append]
  simp only [List.any_cons, List.any_nil, Bool.or_false]
  by_cases e : (gx edtRec a k).p = x
  · subst e; rw [h]; simp
  · have e2 : ((gx edtRec a k).p == x) = false := by simpa using e
    rw [e2, Bool.or_false]
/-- Of the first ones those that the second ones hold. -/
def common2 (A B : List Int) (k : Nat) : List Int := (A.take k).filter fun n => decide (n ∈ B)
theorem common2_yes {A B : List Int} {k : Nat} (hk : k < A.length) (h : decide (gi A k ∈ B) = true) : common2 A B (k + 1) = common2 A B k ++ [gi A k] := by
  unfold common2; rw [take_succ_gi A k hk, List.filter_append]; simp only [List.filter_cons, List.filter_nil, h]; simp
theorem common2_no {A B : List Int} {k : Nat} (hk : k < A.length) (h : decide (gi A k ∈ B) = false) : common2 A B (k + 1) = common2 A B k := by
  unfold common2; rw [take_succ_gi A k hk, List.filter_append]; simp only [List.filter_cons, List.filter_nil, h]; simp
theorem common2_len (A B : List Int) (k : Nat) : (common2 A B k).length ≤ k := by
  have h1 := List.length_filter_le (fun n => decide (n ∈ B)) (A.take k)
  have h2 : (A.take k).length ≤ k := List.length_take_le _ _
  unfold common2; omega
theorem common2_all (a b : List Edt) : common2 (occ (rng 0 12) Edt.p a) (occ (rng 0 12) Edt.p b) (occ (rng 0 12) Edt.p a).length = touchB a b := by
  unfold common2 touchB
  rw [List.take_length]
  unfold occ
  rw [List.filter_filter]
  apply List.filter_congr
  intro x hx
  have : decide (x ∈ (rng 0 12).filter fun n => b.any fun y => y.p == n) = b.any fun y => y.p == x := by
    rw [Bool.eq_iff_iff, decide_eq_true_iff, List.mem_filter]
    exact ⟨fun h => h.2, fun h => ⟨hx, h⟩⟩
  rw [this, Bool.and_comm]
end Go.Proofs.YtombnhnhbocceaaGreatDoor
