/- The generator behind the draws: every state of its low 48 bits comes up again and again. Plain numbers; no function of the program. -/
import Derived.Test.YtnkbopnmfoplfaaPlain
set_option linter.unusedSimpArgs false
set_option linter.unusedVariables false
namespace Go.Proofs.Ytnkbopnmfoplfaa

def lcA : Nat := 6364136223846793005
def lcC : Nat := 1442695040888963407
def lcM : Nat := 18446744073709551616
def sdF (x : Nat) : Nat := (x * lcA + lcC) % lcM
def itr : Nat → Nat → Nat
  | 0, x => x
  | k + 1, x => sdF (itr k x)
theorem itr_succ (k x : Nat) : itr (k + 1) x = sdF (itr k x) := rfl
theorem itr_add (a b x : Nat) : itr (a + b) x = itr b (itr a x) := by
  induction b with
  | zero => rfl
  | succ b ih => rw [← Nat.add_assoc, itr_succ, itr_succ, ih]
def acJ : Nat → Nat × Nat
  | 0 => (lcA, lcC)
  | j + 1 => ((acJ j).1 * (acJ j).1 % lcM, ((acJ j).2 * (acJ j).1 + (acJ j).2) % lcM)
theorem itr_pow (j : Nat) (x : Nat) : itr (2 ^ j) x = (x * (acJ j).1 + (acJ j).2) % lcM := by
  induction j generalizing x with
  | zero => rfl
  | succ j ih =>
    rw [Nat.pow_succ, Nat.mul_two, itr_add, ih, ih]
    show _ = (x * ((acJ j).1 * (acJ j).1 % lcM) + ((acJ j).2 * (acJ j).1 + (acJ j).2) % lcM) % lcM
    generalize (acJ j).1 = a
    generalize (acJ j).2 = c
    rw [Nat.add_mod, Nat.mod_mul_mod, ← Nat.add_mod, Nat.add_mod_mod, Nat.add_mod (x * (a * a % lcM)), Nat.mul_mod_mod, ← Nat.add_mod]
    congr 1
    rw [Nat.add_mul, Nat.mul_assoc, Nat.add_assoc]
theorem ac_ok : ∀ j, j < 48 → (acJ j).1 % 2 ^ (j + 1) = 1 ∧ (acJ j).2 % 2 ^ (j + 1) = 2 ^ j := by
  have h : ∀ j : Fin 48, (acJ j.1).1 % 2 ^ (j.1 + 1) = 1 ∧ (acJ j.1).2 % 2 ^ (j.1 + 1) = 2 ^ j.1 := by decide +kernel
  intro j hj
  exact h ⟨j, hj⟩
theorem itr_pow_mod (j : Nat) (hj : j < 48) (x : Nat) : itr (2 ^ j) x % 2 ^ (j + 1) = (x + 2 ^ j) % 2 ^ (j + 1) := by
  obtain ⟨h1, h2⟩ := ac_ok j hj
  have hd : 2 ^ (j + 1) ∣ lcM := by
    show 2 ^ (j + 1) ∣ 2 ^ 64
    exact Nat.pow_dvd_pow 2 (by omega)
  rw [itr_pow, Nat.mod_mod_of_dvd _ hd, Nat.add_mod, Nat.mul_mod, h1, h2, Nat.mul_one, Nat.mod_mod, ← Nat.mod_eq_of_lt (show 2 ^ j < 2 ^ (j + 1) from Nat.pow_lt_pow_right (by omega) (by omega)), ← Nat.add_mod]
  rw [Nat.mod_eq_of_lt (show 2 ^ j < 2 ^ (j + 1) from Nat.pow_lt_pow_right (by omega) (by omega))]
theorem lcg_reach (t : Nat) : ∀ j, j ≤ 48 → ∀ x, ∃ k, k < 2 ^ j ∧ itr k x % 2 ^ j = t % 2 ^ j := by
  intro j
  induction j with
  | zero => intro _ x; exact ⟨0, by decide, by rw [Nat.pow_zero, Nat.mod_one, Nat.mod_one]⟩
  | succ j ih =>
    intro hj x
    obtain ⟨k, hk, he⟩ := ih (by omega) x
    have hp : 2 ^ (j + 1) = 2 * 2 ^ j := by rw [Nat.pow_succ, Nat.mul_comm]
    by_cases hx : itr k x % 2 ^ (j + 1) = t % 2 ^ (j + 1)
    · exact ⟨k, by omega, hx⟩
    · refine ⟨k + 2 ^ j, by omega, ?_⟩
      rw [itr_add, itr_pow_mod j (by omega)]
      generalize itr k x = y at he hx ⊢
      have hpos : 0 < 2 ^ j := Nat.pow_pos (by omega)
      generalize 2 ^ j = p at *
      rw [hp] at hx ⊢
      have hy := Nat.div_add_mod y p
      have ht := Nat.div_add_mod t p
      have hr := Nat.mod_lt y hpos
      have ey : y % (2 * p) = p * (y / p % 2) + y % p := by
        rw [Nat.mul_comm 2 p, Nat.mod_mul]; omega
      have et : t % (2 * p) = p * (t / p % 2) + t % p := by
        rw [Nat.mul_comm 2 p, Nat.mod_mul]; omega
      have eyp : (y + p) % (2 * p) = p * ((y / p + 1) % 2) + y % p := by
        rw [Nat.mul_comm 2 p, Nat.mod_mul, Nat.add_mod_right, Nat.add_div_right _ hpos]; omega
      rw [eyp, et, he]
      rw [ey, et, he] at hx
      rcases Nat.mod_two_eq_zero_or_one (y / p) with h1 | h1 <;> rcases Nat.mod_two_eq_zero_or_one (t / p) with h2 | h2
      · rw [h1, h2] at hx; exact absurd rfl hx
      · rw [h2, show (y / p + 1) % 2 = 1 from by omega]
      · rw [h2, show (y / p + 1) % 2 = 0 from by omega]
      · rw [h1, h2] at hx; exact absurd rfl hx
/-- The state after k steps, in its low bits, is what the low bits go through. -/
def itl : Nat → Nat → Nat
  | 0, x => x
  | k + 1, x => (itl k x * lcA + lcC) % 281474976710656
theorem itl_eq (k x t : Nat) (h : x % 281474976710656 = t % 281474976710656) : itr k x % 281474976710656 = itl k t % 281474976710656 := by
  induction k with
  | zero => exact h
  | succ k ih =>
    show (itr k x * lcA + lcC) % lcM % 281474976710656 = (itl k t * lcA + lcC) % 281474976710656 % 281474976710656
    have hd : 281474976710656 ∣ lcM := ⟨65536, by decide⟩
    rw [Nat.mod_mod_of_dvd _ hd, Nat.mod_mod, Nat.add_mod, Nat.mul_mod, ih, ← Nat.mul_mod, ← Nat.add_mod]
theorem by_low (y : Nat) : y / 1099511627776 % 256 = y % 281474976710656 / 1099511627776 := by
  omega
end Go.Proofs.Ytnkbopnmfoplfaa
