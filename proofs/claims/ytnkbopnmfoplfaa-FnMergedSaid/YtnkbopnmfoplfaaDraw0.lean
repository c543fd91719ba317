/- Draws: a cursor at its start; what a pick or a draw leaves. -/
import Derived.Test.YtnkbopnmfoplfaaPick
set_option linter.unusedSimpArgs false
set_option linter.unusedVariables false
namespace Go.Proofs.Ytnkbopnmfoplfaa
open Go.RowKit Go.Sort

theorem pk_one {code : List Nat} {n : Nat} {m : Int} (h1 : 2 ≤ m) (h2 : m ≤ 200) : pkV code n m = (byN code n : Int) % m ∧ pkK m = 1 := pk_2 (by omega) h2
/-- What a draw of integers leaves. -/
def FreshC (w : World) (g : Nat) (v : Value) (code : List Nat) (Q : List Int → Nat → Prop) (e : Ending) (w' : World) : Prop :=
  ∃ (u : Value) (l : List Int) (n : Nat), e = .returned u ∧ OwnInts w' w.heap.size u l ∧ CurAt w' g v code n ∧ Apg g w w' ∧ Q l n
theorem lit1 (w : World) (base : Nat) (a : Int) (hb : base ≤ w.heap.size) : OwnInts (w.alloc (.cells #[.int .i64 a] 3)) base (.slice (some ⟨w.heap.size, 0, none⟩) 1 1) [a] := World.ownsRow_lit w _ 1 hb (by simp [maxLen]) rfl
theorem lit2 (w : World) (base : Nat) (a b : Int) (hb : base ≤ w.heap.size) : OwnInts (w.alloc (.cells #[.int .i64 a, .int .i64 b] 3)) base (.slice (some ⟨w.heap.size, 0, none⟩) 2 2) [a, b] := World.ownsRow_lit w _ 2 hb (by simp [maxLen]) rfl
theorem lit3 (w : World) (base : Nat) (a b c : Int) (hb : base ≤ w.heap.size) : OwnInts (w.alloc (.cells #[.int .i64 a, .int .i64 b, .int .i64 c] 3)) base (.slice (some ⟨w.heap.size, 0, none⟩) 3 3) [a, b, c] := World.ownsRow_lit w _ 3 hb (by simp [maxLen]) rfl
theorem lit4 (w : World) (base : Nat) (a b c d : Int) (hb : base ≤ w.heap.size) : OwnInts (w.alloc (.cells #[.int .i64 a, .int .i64 b, .int .i64 c, .int .i64 d] 3)) base (.slice (some ⟨w.heap.size, 0, none⟩) 4 4) [a, b, c, d] := World.ownsRow_lit w _ 4 hb (by simp [maxLen]) rfl
theorem lit5 (w : World) (base : Nat) (a b c d e : Int) (hb : base ≤ w.heap.size) : OwnInts (w.alloc (.cells #[.int .i64 a, .int .i64 b, .int .i64 c, .int .i64 d, .int .i64 e] 3)) base (.slice (some ⟨w.heap.size, 0, none⟩) 5 5) [a, b, c, d, e] := World.ownsRow_lit w _ 5 hb (by simp [maxLen]) rfl
theorem lit6 (w : World) (base : Nat) (a b c d e f : Int) (hb : base ≤ w.heap.size) : OwnInts (w.alloc (.cells #[.int .i64 a, .int .i64 b, .int .i64 c, .int .i64 d, .int .i64 e, .int .i64 f] 3)) base (.slice (some ⟨w.heap.size, 0, none⟩) 6 6) [a, b, c, d, e, f] := World.ownsRow_lit w _ 6 hb (by simp [maxLen]) rfl
theorem lit7 (w : World) (base : Nat) (a b c d e f h : Int) (hb : base ≤ w.heap.size) : OwnInts (w.alloc (.cells #[.int .i64 a, .int .i64 b, .int .i64 c, .int .i64 d, .int .i64 e, .int .i64 f, .int .i64 h] 3)) base (.slice (some ⟨w.heap.size, 0, none⟩) 7 7) [a, b, c, d, e, f, h] := World.ownsRow_lit w _ 7 hb (by simp [maxLen]) rfl
/-- among, at a row that was laid just before: all that the walk wants of it. -/
theorem among_lit (g n : Nat) (v lv : Value) (code : List Nat) (l : List Int) (w : World) (h : CurAt w g v code n) (hn : n ≤ 4611686018427380000) (hl : OwnInts w (g + 1) lv l) (h0 : 1 ≤ l.length) (h1 : l.length ≤ 200) (P : Int → Prop) (hP : ∀ x ∈ l, P x) :
    Calls Try.prog 72 #[.pointer (some ⟨g, 0, none⟩), lv] w
      fun e w' => ∃ (x : Int) (n' : Nat), e = .returned (.int .i64 x) ∧ P x ∧ n ≤ n' ∧ n' ≤ n + 1 ∧ CurAt w' g v code n' ∧ Apg g w w' := by
  refine (among_any g n v lv code l w h hn hl h0).mono ?_
  rintro e w' ⟨rfl, q, a⟩
  have hb := pkV_bd code n l.length (by omega)
  refine ⟨_, _, rfl, hP _ (gi_mem (by omega)), by omega, ?_, q, a⟩
  have : pkK (l.length : Int) ≤ 1 := by unfold pkK; split; · omega
                                        rw [if_pos (by omega)]; exact Nat.le_refl _
  omega
theorem ints_put1 (l : List Int) (k : Nat) (y : Int) : (ints l).set k (.int .i64 y) = ints (l.set k y) := by unfold ints; rw [List.map_set]
/-- A row of the call's own that holds something: where it lies; a store into it. -/
theorem OwnInts.at_own {w : World} {base : Nat} {v : Value} {l : List Int} (h : OwnInts w base v l) (h0 : 0 < l.length) : ∃ b c, v = .slice (some ⟨b, 0, none⟩) l.length c ∧ base ≤ b := by
  obtain ⟨b, cap, hv, hbg, _⟩ := World.ownsRow.form h h0
  exact ⟨b, cap, hv, hbg⟩
theorem OwnInts.cell_own {w : World} {base b c k : Nat} {l : List Int} (h : OwnInts w base (.slice (some ⟨b, 0, none⟩) l.length c) l) (hk : k < l.length) :
    w.cell? ⟨b, k, none⟩ = some (.int .i64 (gi l k)) ∧ w.frozen? ⟨b, k, none⟩ = false := by
  refine ⟨?_, World.ownsRow.frozenAt h k⟩
  obtain ⟨b', o', he, hc⟩ := h.reads.at_ k hk
  injection he with he
  injection he with e1 e2
  subst e1 e2
  rw [Nat.zero_add] at hc
  exact hc
theorem OwnInts.set_own {w : World} {base b c : Nat} {l : List Int} (h : OwnInts w base (.slice (some ⟨b, 0, none⟩) l.length c) l) (k : Nat) (x : Int) :
    OwnInts (w.setCell ⟨b, k, none⟩ (.int .i64 x)) base (.slice (some ⟨b, 0, none⟩) l.length c) (l.set k x) := by
  have := (World.ownsRow.stored h k (.int .i64 x)).1
  unfold OwnInts
  rw [List.length_set, ← ints_put1]
  exact this
/-- A slice of bytes. -/
def BytesAt (w : World) (v : Value) (code : List Nat) : Prop := Sl w 1 v code.length (u8s code)
theorem BytesAt.below {w w' : World} {v : Value} {l : List Nat} {B : Nat} (h : BytesAt w v l) (hb : Below B w w') (hB : w.heap.size ≤ B) : BytesAt w' v l := Sl.below h hb hB
/-- The world with a new cursor. -/
abbrev curW (w : World) (v : Value) : World := w.alloc (.cells #[v, .int .i64 0, .int .u64 0] 67)
theorem CurAt.start {w : World} {v : Value} {code : List Nat} (h : BytesAt w v code) (hw : WfCode code) : CurAt (curW w v) w.heap.size v code 0 := by
  refine ⟨?_, ⟨w, h, Nat.le_refl _, (Below.refl _ _).alloc (Nat.le_refl _) _⟩, hw⟩
  show (w.heap.push _)[w.heap.size]? = _
  rw [Array.getElem?_push_size]
  rfl
theorem Apart.start {w w' : World} {v : Value} (h : Apg w.heap.size (curW w v) w') : Below w.heap.size w w' :=
  ((Below.refl _ _).alloc (Nat.le_refl _) _).trans (h.below (by simp) (Nat.le_refl _))
theorem start_size (w : World) (v : Value) : (curW w v).heap.size = w.heap.size + 1 := by simp
theorem pick_ex (g : Nat) (v : Value) (code : List Nat) (m : Int) (k : Nat) (w' : World) (h1 : 1 ≤ m) (h2 : k ≤ 4611686018427380000) (h3 : CurAt w' g v code k) :
    Calls Try.prog 65 #[.pointer (some ⟨g, 0, none⟩), .int .i64 m] w' (fun e w'' => ∃ (y : Nat) (k' : Nat), e = .returned (.int .i64 y) ∧ (y : Int) < m ∧ k ≤ k' ∧ k' ≤ k + 2 ∧ CurAt w'' g v code k' ∧ Apg g w' w'') := (pick_any g k v code m w' h3 h2).mono (by
  rintro e w'' ⟨rfl, q, a⟩
  have hb := pkV_bd code k m h1
  have hkk := pkK_le m
  exact ⟨(pkV code k m).toNat, k + pkK m, by rw [Int.toNat_of_nonneg hb.1], by omega, by omega, by omega, q, a⟩)
theorem one_ex (g : Nat) (v : Value) (code : List Nat) (m : Int) (k : Nat) (w' : World) (h2 : k ≤ 4611686018427380000) (h3 : CurAt w' g v code k) :
    Calls Try.prog 58 #[.pointer (some ⟨g, 0, none⟩), .int .i64 m] w' (fun e w'' => ∃ (b : Bool) (k' : Nat), e = .returned (.bool b) ∧ k ≤ k' ∧ k' ≤ k + 2 ∧ CurAt w'' g v code k' ∧ Apg g w' w'') := (one_any g k v code m w' h3 h2).mono (by
  rintro e w'' ⟨rfl, q, a⟩
  have hkk := pkK_le m
  exact ⟨_, k + pkK m, rfl, by omega, by omega, q, a⟩)
theorem OwnInts.al {w : World} {base : Nat} {v : Value} {l : List Int} (h : OwnInts w base v l) (o : Obj) : OwnInts (w.alloc o) base v l := World.ownsRow.alloc h o
theorem pick_ex0 (g : Nat) (v : Value) (code : List Nat) (m : Int) (k : Nat) (w' : World) (h2 : k ≤ 4611686018427380000) (h3 : CurAt w' g v code k) :
    Calls Try.prog 65 #[.pointer (some ⟨g, 0, none⟩), .int .i64 m] w' (fun e w'' => ∃ (y : Nat) (k' : Nat), e = .returned (.int .i64 y) ∧ (y = 0 ∨ (y : Int) < m) ∧ k ≤ k' ∧ k' ≤ k + 2 ∧ CurAt w'' g v code k' ∧ Apg g w' w'') := (pick_any g k v code m w' h3 h2).mono (by
  rintro e w'' ⟨rfl, q, a⟩
  have hn := pkV_nn code k m
  have hkk := pkK_le m
  refine ⟨(pkV code k m).toNat, k + pkK m, by rw [Int.toNat_of_nonneg hn], ?_, by omega, by omega, q, a⟩
  by_cases h1 : 1 ≤ m
  · have := pkV_bd code k m h1; right; omega
  · left; rw [(pk_1 (by omega)).1]; rfl)
theorem BytesAt.shape {w : World} {v : Value} {l : List Nat} (h : BytesAt w v l) : ∃ A c, v = .slice A l.length c ∧ l.length ≤ c ∧ c ≤ 9223372036854775807 := Sl.shape h
end Go.Proofs.Ytnkbopnmfoplfaa
