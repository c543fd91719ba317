/- Plain law: the least square of the way between two moves with delays, as the program and as the reference find it. No function of the program. -/
import Derived.Test.YtgcgkpmjahgmnaaFrac
import Derived.Test.YtgcgkpmjahgmnaaSpot
set_option linter.unusedSimpArgs false
set_option linter.unusedVariables false
namespace Go.Proofs.Ytgcgkpmjahgmnaa
open Go.RowKit

structure Mv where
  fx : Int
  fy : Int
  tx : Int
  ty : Int
  c : Int
deriving DecidableEq
def kD (c d n : Int) : Int := min (max (n - d) 0) c
def mvX (m : Mv) (k : Int) : Int := m.fx * m.c + k * (m.tx - m.fx)
def mvY (m : Mv) (k : Int) : Int := m.fy * m.c + k * (m.ty - m.fy)
def goodM (m : Mv) : Prop := isSpot m.fx m.fy = true ∧ isSpot m.tx m.ty = true ∧ 1 ≤ m.c ∧ m.c ≤ 16
theorem kD_bd {c d n : Int} (h : 0 ≤ c) : 0 ≤ kD c d n ∧ kD c d n ≤ c := by unfold kD; omega
theorem line_bd (f t c k M : Int) (h1 : 0 ≤ f) (h2 : f ≤ M) (h3 : 0 ≤ t) (h4 : t ≤ M) (h5 : 0 ≤ k) (h6 : k ≤ c) : 0 ≤ f * c + k * (t - f) ∧ f * c + k * (t - f) ≤ M * c := by
  have e : f * c + k * (t - f) = f * (c - k) + k * t := by grind
  have a1 : 0 ≤ f * (c - k) := Int.mul_nonneg h1 (by omega)
  have a2 : 0 ≤ k * t := Int.mul_nonneg h5 h3
  have a3 : f * (c - k) ≤ M * (c - k) := Int.mul_le_mul_of_nonneg_right h2 (by omega)
  have a4 : k * t ≤ k * M := Int.mul_le_mul_of_nonneg_left h4 h5
  have e2 : M * c = M * (c - k) + k * M := by grind
  omega
theorem mvX_bd {m : Mv} (h : goodM m) {k : Int} (h1 : 0 ≤ k) (h2 : k ≤ m.c) : 0 ≤ mvX m k ∧ mvX m k ≤ 20480 := by
  obtain ⟨a, b, c1, c2⟩ := h
  have a := isSpot_t a
  have b := isSpot_t b
  have := line_bd m.fx m.tx m.c k 1280 (by omega) (by omega) (by omega) (by omega) h1 h2
  unfold mvX
  omega
theorem mvY_bd {m : Mv} (h : goodM m) {k : Int} (h1 : 0 ≤ k) (h2 : k ≤ m.c) : 0 ≤ mvY m k ∧ mvY m k ≤ 10752 := by
  obtain ⟨a, b, c1, c2⟩ := h
  have a := isSpot_t a
  have b := isSpot_t b
  have := line_bd m.fy m.ty m.c k 672 (by omega) (by omega) (by omega) (by omega) h1 h2
  unfold mvY
  omega
/-- The way between two moves with delays, after a count. -/
def wX (a b : Mv) (p q n : Int) : Int := mvX a (kD a.c p n) - mvX b (kD b.c q n)
def wY (a b : Mv) (p q n : Int) : Int := mvY a (kD a.c p n) - mvY b (kD b.c q n)
theorem wX_bd {a b : Mv} (ha : goodM a) (hb : goodM b) (p q n : Int) : -20480 ≤ wX a b p q n ∧ wX a b p q n ≤ 20480 := by
  have k1 := kD_bd (c := a.c) (d := p) (n := n) (by have := ha.2.2.1; omega)
  have k2 := kD_bd (c := b.c) (d := q) (n := n) (by have := hb.2.2.1; omega)
  have := mvX_bd ha k1.1 k1.2
  have := mvX_bd hb k2.1 k2.2
  unfold wX
  omega
theorem wY_bd {a b : Mv} (ha : goodM a) (hb : goodM b) (p q n : Int) : -10752 ≤ wY a b p q n ∧ wY a b p q n ≤ 10752 := by
  have k1 := kD_bd (c := a.c) (d := p) (n := n) (by have := ha.2.2.1; omega)
  have k2 := kD_bd (c := b.c) (d := q) (n := n) (by have := hb.2.2.1; omega)
  have := mvY_bd ha k1.1 k1.2
  have := mvY_bd hb k2.1 k2.2
  unfold wY
  omega
/-! ### A part of the way -/
def sqI (x y : Int) : Int := x * x + y * y
def dotI (px py qx qy : Int) : Int := px * (qx - px) + py * (qy - py)
def sizI (px py qx qy : Int) : Int := (qx - px) * (qx - px) + (qy - py) * (qy - py)
def crI (px py qx qy : Int) : Int := px * qy - py * qx
def inn (px py qx qy : Int) : Bool := decide (dotI px py qx qy < 0) && decide (-dotI px py qx qy < sizI px py qx qy)
theorem sq_nn (x : Int) : 0 ≤ x * x := by
  rcases Int.le_total 0 x with h | h
  · exact Int.mul_nonneg h h
  · exact Int.mul_nonneg_of_nonpos_of_nonpos h h
theorem sqI_nn (x y : Int) : 0 ≤ sqI x y := by unfold sqI; have := sq_nn x; have := sq_nn y; omega
theorem mul_abs_le {x y A B : Int} (h1 : -A ≤ x) (h2 : x ≤ A) (h3 : -B ≤ y) (h4 : y ≤ B) : -(A * B) ≤ x * y ∧ x * y ≤ A * B := by
  have a1 : 0 ≤ (A - x) * (B + y) := Int.mul_nonneg (by omega) (by omega)
  have a2 : 0 ≤ (A + x) * (B - y) := Int.mul_nonneg (by omega) (by omega)
  have a3 : 0 ≤ (A - x) * (B - y) := Int.mul_nonneg (by omega) (by omega)
  have a4 : 0 ≤ (A + x) * (B + y) := Int.mul_nonneg (by omega) (by omega)
  have e1 : (A - x) * (B + y) + (A + x) * (B - y) = 2 * (A * B) - 2 * (x * y) := by grind
  have e2 : (A - x) * (B - y) + (A + x) * (B + y) = 2 * (A * B) + 2 * (x * y) := by grind
  omega
structure Pt where
  x : Int
  y : Int
def okP (p : Pt) : Prop := -20480 ≤ p.x ∧ p.x ≤ 20480 ∧ -10752 ≤ p.y ∧ p.y ≤ 10752
theorem sqI_bd {p : Pt} (h : okP p) : sqI p.x p.y ≤ 535035904 := by
  obtain ⟨a, b, c, d⟩ := h
  have := mul_abs_le a b a b
  have := mul_abs_le c d c d
  unfold sqI
  omega
theorem sizI_bd {p q : Pt} (hp : okP p) (hq : okP q) : 0 ≤ sizI p.x p.y q.x q.y ∧ sizI p.x p.y q.x q.y ≤ 2140143616 := by
  obtain ⟨a, b, c, d⟩ := hp
  obtain ⟨a', b', c', d'⟩ := hq
  have h1 := mul_abs_le (x := q.x - p.x) (y := q.x - p.x) (A := 40960) (B := 40960) (by omega) (by omega) (by omega) (by omega)
  have h2 := mul_abs_le (x := q.y - p.y) (y := q.y - p.y) (A := 21504) (B := 21504) (by omega) (by omega) (by omega) (by omega)
  have h3 := sq_nn (q.x - p.x)
  have h4 := sq_nn (q.y - p.y)
  unfold sizI
  omega
theorem dotI_bd {p q : Pt} (hp : okP p) (hq : okP q) : -2000000000 ≤ dotI p.x p.y q.x q.y ∧ dotI p.x p.y q.x q.y ≤ 2000000000 := by
  obtain ⟨a, b, c, d⟩ := hp
  obtain ⟨a', b', c', d'⟩ := hq
  have h1 := mul_abs_le (x := p.x) (y := q.x - p.x) (A := 20480) (B := 40960) (by omega) (by omega) (by omega) (by omega)
  have h2 := mul_abs_le (x := p.y) (y := q.y - p.y) (A := 10752) (B := 21504) (by omega) (by omega) (by omega) (by omega)
  unfold dotI
  omega
theorem crI_bd {p q : Pt} (hp : okP p) (hq : okP q) : -440401920 ≤ crI p.x p.y q.x q.y ∧ crI p.x p.y q.x q.y ≤ 440401920 := by
  obtain ⟨a, b, c, d⟩ := hp
  obtain ⟨a', b', c', d'⟩ := hq
  have h1 := mul_abs_le (x := p.x) (y := q.y) (A := 20480) (B := 10752) (by omega) (by omega) (by omega) (by omega)
  have h2 := mul_abs_le (x := p.y) (y := q.x) (A := 10752) (B := 20480) (by omega) (by omega) (by omega) (by omega)
  unfold crI
  omega
theorem crsq_bd {p q : Pt} (hp : okP p) (hq : okP q) : 0 ≤ crI p.x p.y q.x q.y * crI p.x p.y q.x q.y ∧ crI p.x p.y q.x q.y * crI p.x p.y q.x q.y ≤ 193953851139686400 := by
  have h := crI_bd hp hq
  have := mul_abs_le h.1 h.2 h.1 h.2
  exact ⟨sq_nn _, by omega⟩
/-- Inside a part the way is at most as long as at its ends. -/
theorem cr_le_p (px py qx qy : Int) : crI px py qx qy * crI px py qx qy ≤ sqI px py * sizI px py qx qy := by
  have e : sqI px py * sizI px py qx qy = dotI px py qx qy * dotI px py qx qy + crI px py qx qy * crI px py qx qy := by
    unfold sqI sizI dotI crI; grind
  have := sq_nn (dotI px py qx qy)
  omega
theorem cr_le_q (px py qx qy : Int) : crI px py qx qy * crI px py qx qy ≤ sqI qx qy * sizI px py qx qy := by
  have e : sqI qx qy * sizI px py qx qy = (dotI px py qx qy + sizI px py qx qy) * (dotI px py qx qy + sizI px py qx qy) + crI px py qx qy * crI px py qx qy := by
    unfold sqI sizI dotI crI; grind
  have := sq_nn (dotI px py qx qy + sizI px py qx qy)
  omega
/-! ### Fractions -/
abbrev Fr := Nat × Nat
def lessF (a b : Fr) : Bool := decide (a.1 * b.2 < b.1 * a.2)
def leF (a b : Fr) : Prop := a.1 * b.2 ≤ b.1 * a.2
def updF (t o : Fr) : Fr := if lessF o t then o else t
theorem leF_refl (a : Fr) : leF a a := Nat.le_refl _
theorem leF_trans {a b c : Fr} (hb : 0 < b.2) (h1 : leF a b) (h2 : leF b c) : leF a c := by
  unfold leF at *
  have e1 : a.1 * b.2 * c.2 ≤ b.1 * a.2 * c.2 := Nat.mul_le_mul_right _ h1
  have e2 : b.1 * c.2 * a.2 ≤ c.1 * b.2 * a.2 := Nat.mul_le_mul_right _ h2
  have e3 : a.1 * c.2 * b.2 ≤ c.1 * a.2 * b.2 := by
    have x1 : a.1 * c.2 * b.2 = a.1 * b.2 * c.2 := Nat.mul_right_comm _ _ _
    have x2 : b.1 * a.2 * c.2 = b.1 * c.2 * a.2 := Nat.mul_right_comm _ _ _
    have x3 : c.1 * b.2 * a.2 = c.1 * a.2 * b.2 := Nat.mul_right_comm _ _ _
    omega
  exact Nat.le_of_mul_le_mul_right e3 hb
theorem updF_le (t o : Fr) : leF (updF t o) t ∧ leF (updF t o) o := by
  unfold updF
  cases h : lessF o t
  · unfold lessF at h
    have := of_decide_eq_false h
    rw [if_neg (by decide)]
    exact ⟨leF_refl _, by unfold leF; omega⟩
  · unfold lessF at h
    have := of_decide_eq_true h
    rw [if_pos rfl]
    exact ⟨by unfold leF; omega, leF_refl _⟩
theorem updF_or (t o : Fr) : updF t o = t ∨ updF t o = o := by unfold updF; split; exact .inr rfl; exact .inl rfl
def segI (p q : Pt) : Fr := if inn p.x p.y q.x q.y then ((crI p.x p.y q.x q.y * crI p.x p.y q.x q.y).toNat, (sizI p.x p.y q.x q.y).toNat) else ((sqI q.x q.y).toNat, 1)
def segS (p q : Pt) : Fr := if inn p.x p.y q.x q.y then ((crI p.x p.y q.x q.y * crI p.x p.y q.x q.y).toNat, (sizI p.x p.y q.x q.y).toNat) else ((min (sqI p.x p.y) (sqI q.x q.y)).toNat, 1)
def iF (P : Nat → Pt) : Nat → Fr
  | 0 => ((sqI (P 0).x (P 0).y).toNat, 1)
  | n + 1 => updF (iF P n) (segI (P n) (P (n + 1)))
def sF (P : Nat → Pt) : Nat → Fr
  | 0 => segS (P 0) (P 1)
  | n + 1 => updF (sF P n) (segS (P (n + 1)) (P (n + 2)))
def okF (f : Fr) : Prop := f.1 ≤ 193953851139686400 ∧ 0 < f.2 ∧ f.2 ≤ 2140143616
theorem inn_t {px py qx qy : Int} (h : inn px py qx qy = true) : dotI px py qx qy < 0 ∧ -dotI px py qx qy < sizI px py qx qy ∧ 0 < sizI px py qx qy := by
  unfold inn at h
  rw [Bool.and_eq_true] at h
  have h1 := of_decide_eq_true h.1
  have h2 := of_decide_eq_true h.2
  exact ⟨h1, h2, by omega⟩
theorem segI_ok {p q : Pt} (hp : okP p) (hq : okP q) : okF (segI p q) := by
  unfold segI
  cases h : inn p.x p.y q.x q.y
  · rw [if_neg (by decide)]
    have := sqI_bd hq
    exact ⟨by show (sqI q.x q.y).toNat ≤ _; omega, Nat.one_pos, by show 1 ≤ _; omega⟩
  · rw [if_pos rfl]
    have h1 := crsq_bd hp hq
    have h2 := sizI_bd hp hq
    have h3 := inn_t h
    exact ⟨by show Int.toNat _ ≤ _; omega, by show 0 < Int.toNat _; omega, by show Int.toNat _ ≤ _; omega⟩
theorem segS_ok {p q : Pt} (hp : okP p) (hq : okP q) : okF (segS p q) := by
  unfold segS
  cases h : inn p.x p.y q.x q.y
  · rw [if_neg (by decide)]
    have := sqI_bd hq
    have := sqI_bd hp
    exact ⟨by show Int.toNat _ ≤ _; omega, Nat.one_pos, by show 1 ≤ _; omega⟩
  · rw [if_pos rfl]
    have h1 := crsq_bd hp hq
    have h2 := sizI_bd hp hq
    have h3 := inn_t h
    exact ⟨by show Int.toNat _ ≤ _; omega, by show 0 < Int.toNat _; omega, by show Int.toNat _ ≤ _; omega⟩
theorem updF_ok {t o : Fr} (h1 : okF t) (h2 : okF o) : okF (updF t o) := by
  rcases updF_or t o with h | h
  · rw [h]; exact h1
  · rw [h]; exact h2
theorem iF_ok {P : Nat → Pt} (h : ∀ n, okP (P n)) (n : Nat) : okF (iF P n) := by
  induction n with
  | zero =>
    have := sqI_bd (h 0)
    exact ⟨by show Int.toNat _ ≤ _; omega, Nat.one_pos, by show 1 ≤ _; omega⟩
  | succ n ih => exact updF_ok ih (segI_ok (h n) (h (n + 1)))
theorem sF_ok {P : Nat → Pt} (h : ∀ n, okP (P n)) (n : Nat) : okF (sF P n) := by
  induction n with
  | zero => exact segS_ok (h 0) (h 1)
  | succ n ih => exact updF_ok ih (segS_ok (h (n + 1)) (h (n + 2)))
theorem toNat_mul_le {a b c : Int} (h : a ≤ b * c) (ha : 0 ≤ a) (hb : 0 ≤ b) (hc : 0 ≤ c) : a.toNat ≤ b.toNat * c.toNat := by
  obtain ⟨x, rfl⟩ := Int.eq_ofNat_of_zero_le ha
  obtain ⟨y, rfl⟩ := Int.eq_ofNat_of_zero_le hb
  obtain ⟨z, rfl⟩ := Int.eq_ofNat_of_zero_le hc
  simp only [Int.toNat_natCast]
  exact_mod_cast h
theorem segI_le_q (p q : Pt) : leF (segI p q) ((sqI q.x q.y).toNat, 1) := by
  unfold segI
  cases h : inn p.x p.y q.x q.y
  · rw [if_neg (by decide)]; exact leF_refl _
  · rw [if_pos rfl]
    have h3 := inn_t h
    have := toNat_mul_le (cr_le_q p.x p.y q.x q.y) (sq_nn _) (sqI_nn _ _) (by omega)
    show _ * 1 ≤ _
    rw [Nat.mul_one]; exact this
theorem segS_le_p (p q : Pt) : leF (segS p q) ((sqI p.x p.y).toNat, 1) := by
  unfold segS
  cases h : inn p.x p.y q.x q.y
  · rw [if_neg (by decide)]
    show _ * 1 ≤ _ * 1
    have := sqI_nn p.x p.y
    have := sqI_nn q.x q.y
    omega
  · rw [if_pos rfl]
    have h3 := inn_t h
    have := toNat_mul_le (cr_le_p p.x p.y q.x q.y) (sq_nn _) (sqI_nn _ _) (by omega)
    show _ * 1 ≤ _
    rw [Nat.mul_one]; exact this
theorem segS_le_I (p q : Pt) : leF (segS p q) (segI p q) := by
  unfold segS segI
  cases h : inn p.x p.y q.x q.y
  · rw [if_neg (by decide), if_neg (by decide)]
    show _ * 1 ≤ _ * 1
    have := sqI_nn p.x p.y
    have := sqI_nn q.x q.y
    omega
  · exact leF_refl _
theorem segS_is (p q : Pt) : segS p q = segI p q ∨ segS p q = ((sqI p.x p.y).toNat, 1) := by
  unfold segS segI
  cases h : inn p.x p.y q.x q.y
  · rw [if_neg (by decide), if_neg (by decide)]
    rcases Int.le_total (sqI p.x p.y) (sqI q.x q.y) with h9 | h9
    · rw [Int.min_eq_left h9]; exact .inr rfl
    · rw [Int.min_eq_right h9]; exact .inl rfl
  · exact .inl rfl
/-- Both find the same least square. -/
theorem both_F {P : Nat → Pt} (h : ∀ n, okP (P n)) (n : Nat) : leF (iF P (n + 1)) (sF P n) ∧ leF (sF P n) (iF P (n + 1)) ∧ leF (iF P (n + 1)) ((sqI (P (n + 1)).x (P (n + 1)).y).toNat, 1) := by
  have last : ∀ n, leF (iF P (n + 1)) ((sqI (P (n + 1)).x (P (n + 1)).y).toNat, 1) := fun n =>
    leF_trans (segI_ok (h n) (h (n + 1))).2.1 (updF_le _ _).2 (segI_le_q _ _)
  induction n with
  | zero =>
    refine ⟨?_, ?_, last 0⟩
    · show leF (iF P 1) (segS (P 0) (P 1))
      rcases segS_is (P 0) (P 1) with h9 | h9
      · rw [h9]; exact (updF_le _ _).2
      · rw [h9]; exact (updF_le _ _).1
    · show leF (segS (P 0) (P 1)) (updF (iF P 0) (segI (P 0) (P 1)))
      rcases updF_or (iF P 0) (segI (P 0) (P 1)) with h9 | h9
      · rw [h9]; exact segS_le_p _ _
      · rw [h9]; exact segS_le_I _ _
  | succ n ih =>
    obtain ⟨h1, h2, h3⟩ := ih
    refine ⟨?_, ?_, last (n + 1)⟩
    · show leF (iF P (n + 2)) (updF (sF P n) (segS (P (n + 1)) (P (n + 2))))
      rcases updF_or (sF P n) (segS (P (n + 1)) (P (n + 2))) with h9 | h9
      · rw [h9]; exact leF_trans (iF_ok h (n + 1)).2.1 (updF_le _ _).1 h1
      · rw [h9]
        rcases segS_is (P (n + 1)) (P (n + 2)) with h8 | h8
        · rw [h8]; exact (updF_le _ _).2
        · rw [h8]; exact leF_trans (iF_ok h (n + 1)).2.1 (updF_le _ _).1 h3
    · show leF (updF (sF P n) (segS (P (n + 1)) (P (n + 2)))) (updF (iF P (n + 1)) (segI (P (n + 1)) (P (n + 2))))
      rcases updF_or (iF P (n + 1)) (segI (P (n + 1)) (P (n + 2))) with h9 | h9
      · rw [h9]; exact leF_trans (sF_ok h n).2.1 (updF_le _ _).1 h2
      · rw [h9]; exact leF_trans (segS_ok (h (n + 1)) (h (n + 2))).2.1 (updF_le _ _).2 (segS_le_I _ _)
/-! ### Too close -/
def ltK (f : Fr) (K : Nat) : Bool := decide (f.1 < K * f.2)
theorem ltK_eq {f g : Fr} {K : Nat} (hf : 0 < f.2) (hg : 0 < g.2) (h1 : leF f g) (h2 : leF g f) : ltK f K = ltK g K := by
  unfold leF at h1 h2
  have e : f.1 * g.2 = g.1 * f.2 := Nat.le_antisymm h1 h2
  unfold ltK
  refine decide_eq_decide.2 ⟨fun h => ?_, fun h => ?_⟩
  · have h3 : f.1 * g.2 < K * f.2 * g.2 := Nat.mul_lt_mul_of_pos_right h hg
    rw [e, Nat.mul_right_comm] at h3
    exact Nat.lt_of_mul_lt_mul_right h3
  · have h3 : g.1 * f.2 < K * g.2 * f.2 := Nat.mul_lt_mul_of_pos_right h hf
    rw [← e, Nat.mul_right_comm] at h3
    exact Nat.lt_of_mul_lt_mul_right h3
theorem ltK_low {a b K : Nat} (hb : 0 < b) : ltK (lowN a b) K = ltK (a, b) K := by
  obtain ⟨g, hg, h1, h2, h3⟩ := lowN_mul (a := a) hb
  generalize lowN a b = l at h1 h2 h3 ⊢
  subst h1 h2
  unfold ltK
  refine decide_eq_decide.2 ⟨fun h => ?_, fun h => ?_⟩
  · show l.1 * g < K * (l.2 * g)
    rw [← Nat.mul_assoc]
    exact Nat.mul_lt_mul_of_pos_right h hg
  · have h : l.1 * g < K * (l.2 * g) := h
    rw [← Nat.mul_assoc] at h
    exact Nat.lt_of_mul_lt_mul_right h
theorem ltK_mul {a b m K : Nat} : ltK (a, b * m) K = ltK (a, b) (K * m) := by
  unfold ltK
  show decide (a < K * (b * m)) = decide (a < K * m * b)
  rw [Nat.mul_assoc, Nat.mul_comm m b]
end Go.Proofs.Ytgcgkpmjahgmnaa
