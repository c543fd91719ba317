/- Plain facts on sets of columns, bit by bit; nothing of the program. -/
import Derived.Test.YtgcgkpmjahgmnaaTrM
set_option linter.unusedSimpArgs false
set_option linter.unusedVariables false
namespace Go.Proofs.Ytgcgkpmjahgmnaa
open Go.RowKit
/-- How many of the first k columns are in a set. -/
def cnt (s : Nat) : Nat → Nat
  | 0 => 0
  | k + 1 => cnt s k + if s.testBit k then 1 else 0
theorem cnt_le (s k : Nat) : cnt s k ≤ k := by
  induction k with
  | zero => exact Nat.le_refl _
  | succ k ih => unfold cnt; split <;> omega
theorem cnt_0 (s k : Nat) (h : cnt s k = 0) : ∀ j, j < k → s.testBit j = false := by
  induction k with
  | zero => intro j hj; omega
  | succ k ih =>
    intro j hj
    unfold cnt at h
    cases hb : s.testBit k
    · by_cases e : j = k
      · subst e; exact hb
      · exact ih (by omega) j (by omega)
    · rw [hb] at h; simp at h
theorem cnt_pos {s n : Nat} (h1 : 1 ≤ s) (h2 : s < 2 ^ n) : 1 ≤ cnt s n := by
  rcases Nat.eq_zero_or_pos (cnt s n) with h | h
  · exfalso
    have h0 : s = 0 := by
      apply Nat.eq_of_testBit_eq
      intro j
      rw [Nat.zero_testBit]
      by_cases hj : j < n
      · exact cnt_0 s n h j hj
      · exact Nat.testBit_lt_two_pow (Nat.lt_of_lt_of_le h2 (Nat.pow_le_pow_right (by omega) (by omega)))
    omega
  · exact h
theorem xor_small (a b : Nat) (ha : a < 65536) (hb : b < 65536) : bits .xor .i64 (a : Int) (b : Int) = ((a ^^^ b : Nat) : Int) := by
  have hx : a ^^^ b < 2 ^ 16 := Nat.xor_lt_two_pow (by omega) (by omega)
  show IntKind.i64.wrap ((BitVec.ofInt 64 (a : Int) ^^^ BitVec.ofInt 64 (b : Int)).toNat : Int) = _
  rw [BitVec.toNat_xor, ofInt_small a ha, ofInt_small b hb]
  exact IntWalk.i64_in _ (by omega)
theorem wrap_pow {k : Nat} (h : k ≤ 16) : wrap64 (2 ^ k) = ((2 ^ k : Nat) : Int) := by
  have h2 : (2 : Nat) ^ k ≤ 2 ^ 16 := Nat.pow_le_pow_right (by omega) h
  have e9 : ((2 : Int) ^ k) = ((2 ^ k : Nat) : Int) := by push_cast; rfl
  rw [e9]
  generalize (2 : Nat) ^ k = Y at h2 ⊢
  unfold wrap64
  omega
theorem xor_lt {s k n : Nat} (hs : s < 2 ^ n) (hk : k < n) : s ^^^ 2 ^ k < 2 ^ n := Nat.xor_lt_two_pow hs (Nat.pow_lt_pow_right (by omega) hk)
end Go.Proofs.Ytgcgkpmjahgmnaa
