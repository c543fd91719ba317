/- A window of the generator in which a frame's performers are found: whatever the place where it is met, six different spots come, and no other draw. No function of the program. -/
import Derived.Test.YtjbffahnbkpcnaaWin
import Derived.Test.YtjbffahnbkpcnaaPick
import Derived.Test.YtjbffahnbkpcnaaChart
set_option linter.unusedSimpArgs false
set_option linter.unusedVariables false
namespace Go.Proofs.Ytjbffahnbkpcnaa

def wl : List Nat := [6, 165, 114, 171, 91, 60, 97, 180, 151, 51, 226, 101, 57, 90, 54, 45, 140, 229, 131, 26, 55, 69, 180, 103, 33, 105, 83, 237, 158, 242, 186, 50, 34, 108, 155, 179, 219, 77, 211, 181, 22, 19, 116, 107, 189, 154, 252, 102, 179, 39, 189, 156, 127, 115, 20, 193, 126, 37, 151, 35, 130, 242, 190, 231, 163, 139, 142, 159, 6, 140]
def wb (i : Nat) : Nat := wl.getD i 0
theorem win70 : ∀ i, i < 70 → itl (i + 1) 607171 % 281474976710656 / 1099511627776 = wb i := by
  have h : ∀ i : Fin 70, itl (i.1 + 1) 607171 % 281474976710656 / 1099511627776 = wb i.1 := by decide +kernel
  intro i hi
  exact h ⟨i, hi⟩
def Win70 (code : List Nat) (z : Nat) : Prop := ∀ i, i < 70 → byN code (z + i) = wb i
theorem winEq (code : List Nat) (n : Nat) : ∃ z, n ≤ z ∧ z ≤ n + code.length + 281474976710656 ∧ Win70 code z := by
  obtain ⟨k, hk, he⟩ := lcg_reach 607171 48 (Nat.le_refl _) (sdN code (n + code.length))
  have hp : (2 : Nat) ^ 48 = 281474976710656 := by decide
  rw [hp] at hk he
  refine ⟨n + code.length + k, by omega, by omega, fun i hi => ?_⟩
  unfold byN
  rw [if_neg (by omega), by_low, Nat.add_assoc, Nat.add_assoc, sdN_itr code _ (by omega), itr_add, itl_eq (i + 1) _ 607171 he]
  exact win70 i hi
/-- A pick within the window, and how many steps it takes. -/
def pw (q m : Nat) : Nat := if m ≤ 200 then wb q % m else (wb q * 256 + wb (q + 1)) % m
def pk (m : Nat) : Nat := if m ≤ 200 then 1 else 2
def dim (C R : Nat) : Prop := (1 ≤ C ∧ C ≤ 6 ∧ 1 ≤ R ∧ R ≤ 4) ∨ (C = 60 ∧ R = 30)
def stepL (C R : Nat) : Nat := pk (8 * C + 4) + pk (8 * R + 4) + 2
def spW (C R q : Nat) : Nat × Nat := (pw q (8 * C + 4), pw (q + pk (8 * C + 4)) (8 * R + 4))
def chkW (C R a : Nat) : Bool := (List.range 6).all fun j => (List.range j).all fun i => spW C R (a + stepL C R * i) != spW C R (a + stepL C R * j)
theorem chk_small : ∀ C : Fin 6, ∀ R : Fin 4, ∀ a : Fin 30, chkW (C.1 + 1) (R.1 + 1) a.1 = true := by decide +kernel
theorem chk_big : ∀ a : Fin 30, chkW 60 30 a.1 = true := by decide +kernel
theorem chk_all {C R a : Nat} (h : dim C R) (ha : a < 30) : chkW C R a = true := by
  rcases h with ⟨h1, h2, h3, h4⟩ | ⟨rfl, rfl⟩
  · have := chk_small ⟨C - 1, by omega⟩ ⟨R - 1, by omega⟩ ⟨a, ha⟩
    simpa [show C - 1 + 1 = C by omega, show R - 1 + 1 = R by omega] using this
  · exact chk_big ⟨a, ha⟩
theorem chk_ne {C R a : Nat} (h : dim C R) (ha : a < 30) {i j : Nat} (hj : j < 6) (hi : i < j) : spW C R (a + stepL C R * i) ≠ spW C R (a + stepL C R * j) := by
  have h1 := chk_all h ha
  unfold chkW at h1
  rw [List.all_eq_true] at h1
  have h2 := h1 j (by simpa using hj)
  rw [List.all_eq_true] at h2
  have h3 := h2 i (by simpa using hi)
  simpa using h3
theorem wb8 : ∀ i, i < 70 → wb i % 8 ≠ 0 := by
  have h : ∀ i : Fin 70, wb i.1 % 8 ≠ 0 := by decide +kernel
  intro i hi
  exact h ⟨i, hi⟩
theorem pk_le (m : Nat) : 1 ≤ pk m ∧ pk m ≤ 2 := by unfold pk; split <;> omega
theorem stepL_le (C R : Nat) : 4 ≤ stepL C R ∧ stepL C R ≤ 6 := by
  have h1 := pk_le (8 * C + 4)
  have h2 := pk_le (8 * R + 4)
  unfold stepL; omega
theorem pkK_pk (m : Nat) (h : 2 ≤ m) : pkK (m : Int) = pk m := by
  unfold pk
  split
  · exact (pk_2 (code := []) (n := 0) (by omega) (by omega)).2
  · exact (pk_3 (code := []) (n := 0) (by omega) (by omega)).2
theorem pkV_pw {code : List Nat} {z : Nat} (h : Win70 code z) (q m : Nat) (hq : q + 1 < 70) (hm : 2 ≤ m) : pkV code (z + q) (m : Int) = (pw q m : Int) := by
  unfold pw
  have h0 := h q (by omega)
  have h1 := h (q + 1) (by omega)
  rw [← Nat.add_assoc] at h1
  split
  · rw [(pk_2 (by omega) (by omega)).1, h0]; rfl
  · rw [(pk_3 (by omega) (by omega)).1, h0, h1]; rfl
/-- The spot that is drawn at a step, and whether another one is drawn. -/
def spAt (code : List Nat) (fx fy : Int) (C R q : Nat) : Spt := ⟨fx + pkV code q ((8 * C + 4 : Nat) : Int), fy + pkV code (q + pk (8 * C + 4)) ((8 * R + 4 : Nat) : Int)⟩
theorem spAt_win {code : List Nat} {z : Nat} (h : Win70 code z) (fx fy : Int) (C R q : Nat) (hq : q + 4 < 70) : spAt code fx fy C R (z + q) = ⟨fx + ((spW C R q).1 : Int), fy + ((spW C R q).2 : Int)⟩ := by
  have h1 := pk_le (8 * C + 4)
  unfold spAt spW
  rw [pkV_pw h q _ (by omega) (by omega), Nat.add_assoc, pkV_pw h (q + pk (8 * C + 4)) _ (by omega) (by omega)]
theorem spAt_ne {code : List Nat} {z : Nat} (h : Win70 code z) (fx fy : Int) {C R a : Nat} (hd : dim C R) (ha : a < 30) {i j : Nat} (hj : j < 6) (hi : i < j) : spAt code fx fy C R (z + (a + stepL C R * i)) ≠ spAt code fx fy C R (z + (a + stepL C R * j)) := by
  have hL := stepL_le C R
  have e1 : stepL C R * i ≤ 6 * 4 := Nat.mul_le_mul (by omega) (by omega)
  have e2 : stepL C R * j ≤ 6 * 5 := Nat.mul_le_mul (by omega) (by omega)
  rw [spAt_win h fx fy C R _ (by omega), spAt_win h fx fy C R _ (by omega)]
  intro e
  injection e with e3 e4
  exact chk_ne hd ha hj hi (Prod.ext (by omega) (by omega))
theorem six {f : Nat → Spt} (n : Nat) : ∀ l : List Spt, (∀ i, i < n → f i ∈ l) → (∀ j, j < n → ∀ i, i < j → f i ≠ f j) → n ≤ l.length := by
  induction n with
  | zero => intro l _ _; omega
  | succ n ih =>
    intro l hm hd
    have h1 := hm n (by omega)
    have h2 := ih (l.erase (f n)) (fun i hi => (List.mem_erase_of_ne (hd n (by omega) i hi)).2 (hm i (by omega))) (fun j hj i hi => hd j (by omega) i hi)
    rw [List.length_erase_of_mem h1] at h2
    have := List.length_pos_of_mem h1
    omega
/-- Where the loop stands: ahead of the window, or j rounds within it, whose spots are all there. -/
def FrIn (code : List Nat) (fx fy : Int) (C R z k : Nat) (l : List Spt) (gk : Nat) : Prop :=
  (k ≤ z ∧ z - k + 7 ≤ gk) ∨ (∃ a j, a < 30 ∧ j ≤ 6 ∧ k = z + (a + stepL C R * j) ∧ (∀ i, i < j → spAt code fx fy C R (z + (a + stepL C R * i)) ∈ l) ∧ 6 ≤ gk + j)
theorem FrIn.bd {code : List Nat} {fx fy : Int} {C R z k gk : Nat} {l : List Spt} (h : FrIn code fx fy C R z k l gk) : k ≤ z + 70 := by
  rcases h with h | ⟨a, j, h1, h2, h3, _⟩
  · omega
  · have hL := stepL_le C R
    have e2 : stepL C R * j ≤ 6 * 6 := Nat.mul_le_mul (by omega) (by omega)
    omega
/-- With less than six spots there is a round to go. -/
theorem FrIn.pos {code : List Nat} {fx fy : Int} {C R z k gk : Nat} {l : List Spt} (h : FrIn code fx fy C R z k l gk) (hw : Win70 code z) (hd : dim C R) (hl : l.length < 6) : 0 < gk ∧ (k ≤ z ∨ ∃ a j, a < 30 ∧ j < 6 ∧ k = z + (a + stepL C R * j)) := by
  rcases h with h | ⟨a, j, h1, h2, h3, h4, h5⟩
  · exact ⟨by omega, .inl h.1⟩
  · have hj : j < 6 := by
      rcases Nat.lt_or_ge j 6 with h9 | h9
      · exact h9
      · exfalso
        obtain rfl : j = 6 := by omega
        have := six (f := fun i => spAt code fx fy C R (z + (a + stepL C R * i))) 6 l h4 (fun j hj i hi => spAt_ne hw fx fy hd h1 hj hi)
        omega
    exact ⟨by omega, .inr ⟨a, j, h1, hj, h3⟩⟩
/-- Within the window no other spot is drawn. -/
theorem FrIn.one8 {code : List Nat} {C R z k : Nat} (hw : Win70 code z) (h : ∃ a j, a < 30 ∧ j < 6 ∧ k = z + (a + stepL C R * j)) : pkV code (k + pk (8 * C + 4) + pk (8 * R + 4)) 8 ≠ 0 := by
  obtain ⟨a, j, h1, h2, rfl⟩ := h
  have hL := stepL_le C R
  have h3 := pk_le (8 * C + 4)
  have h4 := pk_le (8 * R + 4)
  have e2 : stepL C R * j ≤ 6 * 5 := Nat.mul_le_mul (by omega) (by omega)
  obtain ⟨q, hq⟩ : ∃ q, q = a + stepL C R * j + pk (8 * C + 4) + pk (8 * R + 4) := ⟨_, rfl⟩
  have e : z + (a + stepL C R * j) + pk (8 * C + 4) + pk (8 * R + 4) = z + q := by omega
  have hq2 : q < 70 := by omega
  rw [e, (pk_2 (by omega) (by omega)).1, hw q hq2]
  have := wb8 q hq2
  omega
/-- A round: from k on to k'; its spot is there; within the window it took as many steps as it must. -/
theorem FrIn.step {code : List Nat} {fx fy : Int} {C R z k k' gk : Nat} {l l' : List Spt} (h : FrIn code fx fy C R z k l gk) (hw : Win70 code z) (hd : dim C R) (hl : l.length < 6)
    (h1 : k < k') (h2 : k' ≤ k + 29) (hsub : ∀ x, x ∈ l → x ∈ l')
    (hB : pkV code (k + pk (8 * C + 4) + pk (8 * R + 4)) 8 ≠ 0 → k' = k + stepL C R ∧ spAt code fx fy C R k ∈ l') : FrIn code fx fy C R z k' l' (gk - 1) := by
  have hp := h.pos hw hd hl
  rcases h with h | ⟨a, j, a1, a2, a3, a4, a5⟩
  · rcases Nat.lt_or_ge z k' with h9 | h9
    · exact .inr ⟨k' - z, 0, by omega, by omega, by rw [Nat.mul_zero]; omega, fun i hi => absurd hi (by omega), by omega⟩
    · exact .inl ⟨h9, by omega⟩
  · have hj : j < 6 := by
      rcases Nat.lt_or_ge j 6 with h9 | h9
      · exact h9
      · exfalso
        obtain rfl : j = 6 := by omega
        have := six (f := fun i => spAt code fx fy C R (z + (a + stepL C R * i))) 6 l a4 (fun j hj i hi => spAt_ne hw fx fy hd a1 hj hi)
        omega
    obtain ⟨b1, b2⟩ := hB (FrIn.one8 hw ⟨a, j, a1, hj, a3⟩)
    refine .inr ⟨a, j + 1, a1, by omega, by rw [b1, a3, Nat.mul_succ]; omega, fun i hi => ?_, by omega⟩
    rcases Nat.lt_or_ge i j with h9 | h9
    · exact hsub _ (a4 i h9)
    · obtain rfl : i = j := by omega
      rw [← a3]; exact b2
end Go.Proofs.Ytjbffahnbkpcnaa
