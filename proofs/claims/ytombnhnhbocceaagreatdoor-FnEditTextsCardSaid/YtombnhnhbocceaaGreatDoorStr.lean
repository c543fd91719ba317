/- Words for strings, slices of strings and of bytes; the laws' helpers for slices of strings. -/
import Derived.Test.YtombnhnhbocceaaGreatDoorRec
import Derived.Test.YtombnhnhbocceaaGreatDoorHelp
import Derived.Test.YtombnhnhbocceaaGreatDoorMark
import Derived.Deep.RegionHeld3
import Derived.Deep.DeepCutAuto
import Derived.Deep.QuietTactic
import Derived.BigQuiet
import Derived.Laws.BytesArg
import Derived.Laws.Concat
import Derived.Laws.IdiomStrings
set_option linter.unusedSimpArgs false
set_option linter.unusedVariables false
namespace Go.Proofs.YtombnhnhbocceaaGreatDoor
open Go.RowKit

/-! ### rows of strings -/
def strRec : Rec ByteArray := ⟨1, 9, fun a => [.string a], fun _ => rfl, by omega, fun _ u hu => by simp at hu; subst hu; rfl, ByteArray.empty⟩
theorem info_str : (Tryz.prog.info? 9).map (fun i => (i.zero, i.size, i.bytes)) = some (some (.string ByteArray.empty), 1, 16) := by kernel_rfl
theorem str_at {w : World} {A : Option Addr} {n c : Nat} {l : List ByteArray} (h : RowAt strRec w (.slice A n c) l) (i : Nat) (hi : i < l.length) :
    ∃ b o, A = some ⟨b, o, none⟩ ∧ w.cell? ⟨b, o + i, none⟩ = some (.string (gx strRec l i)) := by
  obtain ⟨b, o, rfl, hc⟩ := RowAt.cells h i hi
  refine ⟨b, o, rfl, ?_⟩
  have := hc 0 _ rfl
  simpa [strRec] using this
theorem str_own {w : World} {lo g n c : Nat} {l : List ByteArray} (h : OwnRow strRec w lo (.slice (some ⟨g, 0, none⟩) n c) l) (i : Nat) (hi : i < l.length) : w.cell? ⟨g, i, none⟩ = some (.string (gx strRec l i)) := by
  have := OwnRow.cell h i hi 0 (by show 0 < 1; omega)
  simpa [strRec] using this
theorem wp_app_str (w : World) {ops : Array Oper} {rest : List Oper} {o : Oper} {a : Act} {Q : Exit → Act → World → Prop} (hgd : o.guard = none) (s x : Operand)
    (ho : o.op = .call { callee := .builtin .append, args := #[s, x], argTypes := #[62, 62] })
    (base : Nat) (v : Value) (l : List ByteArray) (hs : a.eval s = v) (hown : OwnRow strRec w base v l)
    (y : ByteArray) (H : Nat) (hx : a.eval x = .slice (some ⟨H, 0, none⟩) 1 1) (hH : H = w.heap.size)
    (h63 : l.length + 1 ≤ 1099511627776) (hbase : base ≤ w.heap.size)
    (h : ∀ v' w', OwnRow strRec w' base v' (l ++ [y]) → Grew w w' base v v' → wpList Tryz.prog ops Q rest (a.put o.dst v') w') :
    wpList Tryz.prog ops Q (o :: rest) a (w.alloc (.cells #[.string y] 9)) :=
  wp_app_rec strRec w hgd s x 62 _ _ Tryz.underlying62 info_str rfl (by omega) ho base v l hs hown y _ rfl _ H rfl hx hH h63 hbase h
/-- How many bytes in all. -/
def totS (l : List ByteArray) : Nat := (l.map ByteArray.size).sum
def WfStrs (l : List ByteArray) : Prop := ∀ i, i < l.length → (gx strRec l i).size ≤ 9223372036854775807
theorem totS_take (l : List ByteArray) (k : Nat) (h : k < l.length) : totS (l.take (k + 1)) = totS (l.take k) + (gx strRec l k).size := by
  rw [take_succ_gx strRec l k h]; simp [totS]
theorem totS_le (l : List ByteArray) (k : Nat) : totS (l.take k) ≤ totS l := by
  unfold totS
  have h : (l.map ByteArray.size).sum = ((l.take k).map ByteArray.size).sum + ((l.drop k).map ByteArray.size).sum := by
    rw [← List.sum_append, ← List.map_append, List.take_append_drop]
  omega
theorem totS_passes (l : List ByteArray) (n : Int) (h1 : 0 ≤ n) (h2 : n < totS l) : ∃ k, k < l.length ∧ (totS (l.take k) : Int) ≤ n ∧ n < totS (l.take (k + 1)) := by
  suffices H : ∀ m, m ≤ l.length → n < totS (l.take m) → ∃ k, k < l.length ∧ (totS (l.take k) : Int) ≤ n ∧ n < totS (l.take (k + 1)) by
    exact H l.length (Nat.le_refl _) (by rw [List.take_of_length_le (Nat.le_refl _)]; exact h2)
  intro m
  induction m with
  | zero => intro _ h; simp [totS] at h; omega
  | succ m ih =>
    intro hm h
    by_cases hp : n < totS (l.take m)
    · exact ih (by omega) hp
    · exact ⟨m, by omega, by omega, h⟩
theorem bytes_eq {a b : ByteArray} (h : (a.toList == b.toList) = true) : a = b := by
  rw [beq_iff_eq, ByteArray.toList_eq, ByteArray.toList_eq] at h
  cases a; cases b
  simp only at h
  congr 1
  exact Array.toList_inj.1 h
theorem bytes_ne {a b : ByteArray} (h : (a.toList == b.toList) = false) : a ≠ b := by rintro rfl; simp at h

/-! ### bytes -/
def bytRec : Rec Int := ⟨1, 5, fun a => [.int .u8 a], fun _ => rfl, by omega, fun _ u hu => by simp at hu; subst hu; rfl, 0⟩
theorem info_byt : (Tryz.prog.info? 5).map (fun i => (i.zero, i.size, i.bytes)) = some (some (.int .u8 0), 1, 1) := by kernel_rfl
theorem byt_own {w : World} {lo g n c : Nat} {l : List Int} (h : OwnRow bytRec w lo (.slice (some ⟨g, 0, none⟩) n c) l) (i : Nat) (hi : i < l.length) : w.cell? ⟨g, i, none⟩ = some (.int .u8 (gi l i)) := by
  have := OwnRow.cell h i hi 0 (by show 0 < 1; omega)
  rw [show gx bytRec l i = gi l i from rfl] at this
  simpa [bytRec] using this
/-- string(b), b of the call's own. -/
theorem conv_bytes {w : World} {lo g n c : Nat} {l : List Int} (h : OwnRow bytRec w lo (.slice (some ⟨g, 0, none⟩) n c) l) : (convert 22 9 (.slice (some ⟨g, 0, none⟩) n c)).run Tryz.prog w = .ok (.string (strOfNums l)) w := by
  have hn : n = l.length := by
    obtain ⟨A, c', he, _⟩ := Sl.shape (OwnRow.reads h)
    injection he
  subst hn
  refine run_convert_bytes_arg w 22 5 Tryz.underlying22 Tryz.underlying5 g 0 l.length c l rfl (fun i hi => ?_) 9 Tryz.underlying9
  rw [Nat.zero_add, byt_own h i hi]
  rfl
theorem conv_byte1 (w : World) (x : Int) : (convert 22 9 (.slice (some ⟨w.heap.size, 0, none⟩) 1 1)).run Tryz.prog (w.alloc (.cells #[.int .u8 x] 5)) = .ok (.string (strOfNums [x])) (w.alloc (.cells #[.int .u8 x] 5)) := by
  have h := World.ownsRow_lit (base := 0) (e := 5) (size := 1) w #[.int .u8 x] 1 (Nat.zero_le _) (by simp [maxLen]) rfl
  exact conv_bytes (lo := 0) (l := [x]) h
/-! ### marks -/
def mkLoop : Nat → Int → ByteArray → ByteArray
  | 0, _, out => out
  | f + 1, k, out => if 0 < k then mkLoop f (k / 10) (strOfNums [48 + k % 10] ++ out) else out
def mkT (k : Int) : ByteArray := if k ≤ 0 then ⟨#[109, 48]⟩ else ⟨#[109]⟩ ++ mkLoop k.toNat k ⟨#[]⟩
theorem mkd_at {α : Type} (R : Rec α) (f : Int → α) (k0 : Int) (l : List α) (j : Nat) (h : j < l.length) : j < (mkd R f k0 l j).length := by rw [mkd_len R f k0 l j (by omega)]; exact h
end Go.Proofs.YtombnhnhbocceaaGreatDoor
