/- Draws: a cursor at its start; what a pick or a draw leaves. -/
import Derived.Test.YtmjchkaipbmjkaaPick
set_option linter.unusedSimpArgs false
set_option linter.unusedVariables false
namespace Go.Proofs.Ytmjchkaipbmjkaa
open Go.RowKit Go.Sort

/-- A slice of bytes. -/
def BytesAt (w : World) (v : Value) (code : List Nat) : Prop := Sl w 1 v code.length (u8s code)
theorem BytesAt.below {w w' : World} {v : Value} {l : List Nat} {B : Nat} (h : BytesAt w v l) (hb : Below B w w') (hB : w.heap.size ≤ B) : BytesAt w' v l := Sl.below h hb hB
/-- The world with a new cursor. -/
abbrev curW (w : World) (v : Value) : World := w.alloc (.cells #[v, .int .i64 0, .int .u64 0] 53)
theorem CurAt.start {w : World} {v : Value} {code : List Nat} (h : BytesAt w v code) (hw : WfCode code) : CurAt (curW w v) w.heap.size v code 0 := by
  refine ⟨?_, ⟨w, h, Nat.le_refl _, (Below.refl _ _).alloc (Nat.le_refl _) _⟩, hw⟩
  show (w.heap.push _)[w.heap.size]? = _
  rw [Array.getElem?_push_size]
  rfl
theorem Apart.start {w w' : World} {v : Value} (h : Apg w.heap.size (curW w v) w') : Below w.heap.size w w' :=
  ((Below.refl _ _).alloc (Nat.le_refl _) _).trans (h.below (by simp) (Nat.le_refl _))
theorem start_size (w : World) (v : Value) : (curW w v).heap.size = w.heap.size + 1 := by simp
theorem pick_ex (g : Nat) (v : Value) (code : List Nat) (m : Int) (k : Nat) (w' : World) (h1 : 1 ≤ m) (h2 : k ≤ 4611686018427380000) (h3 : CurAt w' g v code k) :
    Calls Try.prog 53 #[.pointer (some ⟨g, 0, none⟩), .int .i64 m] w' (fun e w'' => ∃ (y : Nat) (k' : Nat), e = .returned (.int .i64 y) ∧ (y : Int) < m ∧ k ≤ k' ∧ k' ≤ k + 2 ∧ CurAt w'' g v code k' ∧ Apg g w' w'') := (pick_any g k v code m w' h3 h2).mono (by
  rintro e w'' ⟨rfl, q, a⟩
  have hb := pkV_bd code k m h1
  have hkk := pkK_le m
  exact ⟨(pkV code k m).toNat, k + pkK m, by rw [Int.toNat_of_nonneg hb.1], by omega, by omega, by omega, q, a⟩)
theorem one_ex (g : Nat) (v : Value) (code : List Nat) (m : Int) (k : Nat) (w' : World) (h2 : k ≤ 4611686018427380000) (h3 : CurAt w' g v code k) :
    Calls Try.prog 59 #[.pointer (some ⟨g, 0, none⟩), .int .i64 m] w' (fun e w'' => ∃ (b : Bool) (k' : Nat), e = .returned (.bool b) ∧ k ≤ k' ∧ k' ≤ k + 2 ∧ CurAt w'' g v code k' ∧ Apg g w' w'') := (one_any g k v code m w' h3 h2).mono (by
  rintro e w'' ⟨rfl, q, a⟩
  have hkk := pkK_le m
  exact ⟨_, k + pkK m, rfl, by omega, by omega, q, a⟩)
theorem OwnInts.al {w : World} {base : Nat} {v : Value} {l : List Int} (h : OwnInts w base v l) (o : Obj) : OwnInts (w.alloc o) base v l := World.ownsRow.alloc h o
theorem pick_ex0 (g : Nat) (v : Value) (code : List Nat) (m : Int) (k : Nat) (w' : World) (h2 : k ≤ 4611686018427380000) (h3 : CurAt w' g v code k) :
    Calls Try.prog 53 #[.pointer (some ⟨g, 0, none⟩), .int .i64 m] w' (fun e w'' => ∃ (y : Nat) (k' : Nat), e = .returned (.int .i64 y) ∧ (y = 0 ∨ (y : Int) < m) ∧ k ≤ k' ∧ k' ≤ k + 2 ∧ CurAt w'' g v code k' ∧ Apg g w' w'') := (pick_any g k v code m w' h3 h2).mono (by
  rintro e w'' ⟨rfl, q, a⟩
  have hn := pkV_nn code k m
  have hkk := pkK_le m
  refine ⟨(pkV code k m).toNat, k + pkK m, by rw [Int.toNat_of_nonneg hn], ?_, by omega, by omega, q, a⟩
  by_cases h1 : 1 ≤ m
  · have := pkV_bd code k m h1; right; omega
  · left; rw [(pk_1 (by omega)).1]; rfl)
theorem BytesAt.shape {w : World} {v : Value} {l : List Nat} (h : BytesAt w v l) : ∃ A c, v = .slice A l.length c ∧ l.length ≤ c ∧ c ≤ 9223372036854775807 := Sl.shape h
end Go.Proofs.Ytmjchkaipbmjkaa
