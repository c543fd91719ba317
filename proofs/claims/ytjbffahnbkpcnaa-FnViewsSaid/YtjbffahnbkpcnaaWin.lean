/- Windows of the generator: from any step on, a stretch of steps comes whose yields are as wanted. -/
import Derived.Test.YtjbffahnbkpcnaaCur
set_option linter.unusedSimpArgs false
set_option linter.unusedVariables false
namespace Go.Proofs.Ytjbffahnbkpcnaa

theorem sdN_itr (code : List Nat) (n : Nat) (h : code.length ≤ n) : ∀ k, sdN code (n + k) = itr k (sdN code n)
  | 0 => rfl
  | k + 1 => by
    show (sdN code (n + k) * lcA + cb code (n + k) + lcC) % lcM = sdF (itr k (sdN code n))
    rw [sdN_itr code n h k, cb_out (by omega), Nat.add_zero]; rfl
/-- From any step on, the stretch that the state T starts comes up. -/
theorem win (P : Nat → Bool) (T W : Nat) (hT : ∀ i, i < W → P (itl (i + 1) T % 281474976710656 / 1099511627776) = true) (code : List Nat) (n : Nat) :
    ∃ z, n ≤ z ∧ z ≤ n + code.length + 281474976710656 ∧ code.length ≤ z ∧ ∀ i, i < W → P (byN code (z + i)) = true := by
  obtain ⟨k, hk, he⟩ := lcg_reach T 48 (Nat.le_refl _) (sdN code (n + code.length))
  have hp : (2 : Nat) ^ 48 = 281474976710656 := by decide
  rw [hp] at hk he
  refine ⟨n + code.length + k, by omega, by omega, by omega, fun i hi => ?_⟩
  have h1 := hT i hi
  have h2 : byN code (n + code.length + k + i) = itl (i + 1) T % 281474976710656 / 1099511627776 := by
    unfold byN
    rw [if_neg (by omega), by_low, Nat.add_assoc, Nat.add_assoc, sdN_itr code _ (by omega), itr_add]
    rw [itl_eq (i + 1) _ T he]
  rw [h2]; exact h1
end Go.Proofs.Ytjbffahnbkpcnaa
