/- Plain law: squashed edits, the edits of editors. No function of the program. -/
import Derived.Test.YtombnhnhbocceaaGreatDoorEdTb
import Derived.Test.YtombnhnhbocceaaGreatDoorEdT
import Derived.Test.YtombnhnhbocceaaGreatDoorPSame
import Derived.Test.YtombnhnhbocceaaGreatDoorDrawEd
import Derived.Test.YtombnhnhbocceaaGreatDoorEditRuns
import Derived.Test.YtombnhnhbocceaaGreatDoorQuietB
set_option linter.unusedSimpArgs false
set_option linter.unusedVariables false
namespace Go.Proofs.YtombnhnhbocceaaGreatDoor
open Go.RowKit

def nulE : Edt := ⟨0, 0, 0, 0, 0, 0⟩
/-- The squashed edit of a performer, behind the first k edits. -/
def ownE (es : List Edt) (p : Int) : Nat → Edt
  | 0 => nulE
  | k + 1 => if (gx edtRec es k).p = p then
      (if 0 ≤ lastE es p k then ⟨(gx edtRec es k).e, (ownE es p k).p, (ownE es p k).bx, (ownE es p k).bY, (gx edtRec es k).ax, (gx edtRec es k).aY⟩ else gx edtRec es k)
    else ownE es p k
theorem ownE_skip {es : List Edt} {p : Int} {k : Nat} (h : ((gx edtRec es k).p == p) = false) : ownE es p (k + 1) = ownE es p k := by
  conv => lhs; unfold ownE
  rw [if_neg (by simpa using h)]
theorem ownE_new {es : List Edt} {p : Int} {k : Nat} (h : ((gx edtRec es k).p == p) = true) (h2 : lastE es p k < 0) : ownE es p (k + 1) = gx edtRec es k := by
  conv => lhs; unfold ownE
  rw [if_pos (by simpa using h), if_neg (by omega)]
theorem ownE_more {es : List Edt} {p : Int} {k : Nat} (h : ((gx edtRec es k).p == p) = true) (h2 : 0 ≤ lastE es p k) : ownE es p (k + 1) = ⟨(gx edtRec es k).e, (ownE es p k).p, (ownE es p k).bx, (ownE es p k).bY, (gx edtRec es k).ax, (gx edtRec es k).aY⟩ := by
  conv => lhs; unfold ownE
  rw [if_pos (by simpa using h), if_pos h2]
theorem lastE_bd (es : List Edt) (p : Int) (k : Nat) : -1 ≤ lastE es p k ∧ lastE es p k < k := by
  induction k with
  | zero => exact ⟨Int.le_refl _, (by decide : (-1 : Int) < ((0 : Nat) : Int))⟩
  | succ k ih => unfold lastE; split <;> omega
theorem lastE_none {es : List Edt} {p : Int} (k : Nat) (h : ∀ i, i < k → (gx edtRec es i).p ≠ p) : lastE es p k = -1 := by
  induction k with
  | zero => rfl
  | succ k ih =>
    rw [lastE_f (by simpa using h k (by omega))]
    exact ih fun i hi => h i (by omega)
theorem lastE_take (es : List Edt) (p : Int) (k m : Nat) (hm : m ≤ k) (hk : k ≤ es.length) : lastE (es.take k) p m = lastE es p m := by
  induction m with
  | zero => rfl
  | succ m ih =>
    have e : gx edtRec (es.take k) m = gx edtRec es m := by
      rw [gx_eq (by rw [List.length_take]; omega), gx_eq (by omega), List.getElem_take]
    unfold lastE
    rw [e, ih (by omega)]
/-- What the squashed edit of a performer is. -/
theorem ownE_at {es : List Edt} {p : Int} (k : Nat) (h : 0 ≤ lastE es p k) :
    (∃ L : Nat, L < k ∧ lastE es p k = (L : Int) ∧ (gx edtRec es L).p = p ∧ (ownE es p k).e = (gx edtRec es L).e ∧ (ownE es p k).ax = (gx edtRec es L).ax ∧ (ownE es p k).aY = (gx edtRec es L).aY) ∧
    (∃ F : Nat, F < k ∧ (gx edtRec es F).p = p ∧ (∀ j, j < F → (gx edtRec es j).p ≠ p) ∧ (ownE es p k).bx = (gx edtRec es F).bx ∧ (ownE es p k).bY = (gx edtRec es F).bY) ∧ (ownE es p k).p = p := by
  induction k with
  | zero => exact absurd h (by show ¬ ((0 : Int) ≤ -1); decide)
  | succ k ih =>
    cases hx : ((gx edtRec es k).p == p)
    · rw [lastE_f hx] at h ⊢
      rw [ownE_skip hx]
      obtain ⟨⟨L, h1, h2, h3⟩, ⟨F, h4, h5, h6⟩, h7⟩ := ih h
      exact ⟨⟨L, by omega, h2, h3⟩, ⟨F, by omega, h5, h6⟩, h7⟩
    · have hp : (gx edtRec es k).p = p := by simpa using hx
      rw [lastE_t hx]
      rcases Int.lt_or_le (lastE es p k) 0 with h0 | h0
      · rw [ownE_new hx h0]
        have hno : ∀ j, j < k → (gx edtRec es j).p ≠ p := by
          intro j hj he
          have hb : ∀ m, j < m → m ≤ k → 0 ≤ lastE es p m := by
            intro m hm hmk
            induction m with
            | zero => omega
            | succ m ihm =>
              cases hy : ((gx edtRec es m).p == p)
              · rw [lastE_f hy]
                rcases Nat.lt_or_ge j m with h9 | h9
                · exact ihm h9 (by omega)
                · obtain rfl : j = m := by omega
                  rw [he] at hy; simp at hy
              · rw [lastE_t hy]; omega
          have := hb k hj (Nat.le_refl _)
          omega
        exact ⟨⟨k, by omega, rfl, hp, rfl, rfl, rfl⟩, ⟨k, by omega, hp, hno, rfl, rfl⟩, hp⟩
      · rw [ownE_more hx h0]
        obtain ⟨_, ⟨F, h4, h5, h6, h7, h8⟩, h9⟩ := ih h0
        exact ⟨⟨k, by omega, rfl, hp, rfl, rfl, rfl⟩, ⟨F, by omega, h5, h6, h7, h8⟩, h9⟩
/-- An edit that does not go on where the one before ended. -/
def sqBad (es : List Edt) (k : Nat) : Bool :=
  decide (0 ≤ lastE es (gx edtRec es k).p k) && !((gx edtRec es (lastE es (gx edtRec es k).p k).toNat).ax == (gx edtRec es k).bx && (gx edtRec es (lastE es (gx edtRec es k).p k).toNat).aY == (gx edtRec es k).bY)
def sqOk (es : List Edt) : Bool := (List.range es.length).all fun k => !sqBad es k
def sqTo (es : List Edt) (k : Nat) : Prop := ∀ i, i < k → sqBad es i = false
theorem sqOk_yes {es : List Edt} (h : sqTo es es.length) : sqOk es = true := by
  unfold sqOk
  rw [List.all_eq_true]
  intro i hi
  rw [h i (List.mem_range.1 hi)]; rfl
theorem sqOk_no {es : List Edt} {k : Nat} (hk : k < es.length) (h : sqBad es k = true) : sqOk es = false := by
  unfold sqOk
  rw [List.all_eq_false]
  exact ⟨k, List.mem_range.2 hk, by rw [h]; decide⟩
theorem sqTo_succ {es : List Edt} {k : Nat} (h : sqTo es k) (hk : sqBad es k = false) : sqTo es (k + 1) := by
  intro i hi
  by_cases e : i = k
  · subst e; exact hk
  · exact h i (by omega)
/-- Is the squashed edit of a performer kept? -/
def sqIn (es : List Edt) (p : Nat) : Bool :=
  decide (0 ≤ lastE es (p : Int) es.length) && !((ownE es (p : Int) es.length).bx == (ownE es (p : Int) es.length).ax && (ownE es (p : Int) es.length).bY == (ownE es (p : Int) es.length).aY)
def sqL (es : List Edt) : Nat → List Edt
  | 0 => []
  | p + 1 => if sqIn es p then sqL es p ++ [ownE es (p : Int) es.length] else sqL es p
theorem sqL_no {es : List Edt} {p : Nat} (h : sqIn es p = false) : sqL es (p + 1) = sqL es p := by
  conv => lhs; unfold sqL
  rw [if_neg (by rw [h]; decide)]
theorem sqL_yes {es : List Edt} {p : Nat} (h : sqIn es p = true) : sqL es (p + 1) = sqL es p ++ [ownE es (p : Int) es.length] := by
  conv => lhs; unfold sqL
  rw [if_pos h]
theorem sqL_len (es : List Edt) (n : Nat) : (sqL es n).length ≤ n := by
  induction n with
  | zero => exact Nat.le_refl _
  | succ n ih => unfold sqL; split; rw [List.length_append]; simp; omega; omega
/-- What SquashEdits returns. -/
def rSq (es : List Edt) : List Edt × Bool := if areEdts es && sqOk es then (sqL es 12, true) else ([], false)
theorem rSq_no1 {es : List Edt} (h : areEdts es = false) : rSq es = ([], false) := by unfold rSq; rw [h]; rfl
theorem rSq_no2 {es : List Edt} (h : sqOk es = false) : rSq es = ([], false) := by unfold rSq; rw [h]; simp
theorem rSq_yes {es : List Edt} (h : areEdts es = true) (h2 : sqOk es = true) : rSq es = (sqL es 12, true) := by unfold rSq; rw [h, h2]; rfl
theorem rSq_len (es : List Edt) : (rSq es).1.length ≤ 12 := by
  unfold rSq
  split
  · exact sqL_len es 12
  · simp
theorem gx_snoc_l {l : List Edt} {x : Edt} {i : Nat} (h : i < l.length) : gx edtRec (l ++ [x]) i = gx edtRec l i := by
  rw [gx_eq (by rw [List.length_append]; omega), gx_eq h, List.getElem_append_left h]
theorem gx_snoc_r (l : List Edt) (x : Edt) : gx edtRec (l ++ [x]) l.length = x := by
  rw [gx_eq (by rw [List.length_append]; simp)]; simp
/-- Each squashed edit is a performer's, and they rise. -/
theorem sqL_at (es : List Edt) (n : Nat) : (∀ i, i < (sqL es n).length → ∃ q : Nat, q < n ∧ sqIn es q = true ∧ gx edtRec (sqL es n) i = ownE es (q : Int) es.length ∧ (gx edtRec (sqL es n) i).p = (q : Int)) ∧
    (∀ i j, i < j → j < (sqL es n).length → (gx edtRec (sqL es n) i).p < (gx edtRec (sqL es n) j).p) := by
  induction n with
  | zero => exact ⟨fun i h => by exact absurd h (Nat.not_lt_zero _), fun i j _ h => by exact absurd h (Nat.not_lt_zero _)⟩
  | succ n ih =>
    obtain ⟨h1, h2⟩ := ih
    cases hx : sqIn es n
    · rw [sqL_no hx]
      exact ⟨fun i hi => by obtain ⟨q, a, b⟩ := h1 i hi; exact ⟨q, by omega, b⟩, h2⟩
    · rw [sqL_yes hx]
      have hp : (ownE es (n : Int) es.length).p = (n : Int) := by
        have hl : 0 ≤ lastE es (n : Int) es.length := by unfold sqIn at hx; rw [Bool.and_eq_true] at hx; exact of_decide_eq_true hx.1
        exact (ownE_at es.length hl).2.2
      refine ⟨fun i hi => ?_, fun i j hij hj => ?_⟩
      · rcases Nat.lt_or_ge i (sqL es n).length with h9 | h9
        · rw [gx_snoc_l h9]
          obtain ⟨q, a, b⟩ := h1 i h9
          exact ⟨q, by omega, b⟩
        · have e : i = (sqL es n).length := by rw [List.length_append] at hi; simp at hi; omega
          rw [e, gx_snoc_r]
          exact ⟨n, by omega, hx, rfl, hp⟩
      · rcases Nat.lt_or_ge j (sqL es n).length with h9 | h9
        · rw [gx_snoc_l h9, gx_snoc_l (by omega)]
          exact h2 i j hij h9
        · have e : j = (sqL es n).length := by rw [List.length_append] at hj; simp at hj; omega
          rw [e, gx_snoc_r, gx_snoc_l (by omega), hp]
          obtain ⟨q, a, b, c, d⟩ := h1 i (by omega)
          rw [d]; omega
theorem sqIn_t {es : List Edt} {q : Nat} (h : sqIn es q = true) : 0 ≤ lastE es (q : Int) es.length ∧ ¬ ((ownE es (q : Int) es.length).bx = (ownE es (q : Int) es.length).ax ∧ (ownE es (q : Int) es.length).bY = (ownE es (q : Int) es.length).aY) := by
  unfold sqIn at h
  rw [Bool.and_eq_true] at h
  refine ⟨of_decide_eq_true h.1, fun h9 => ?_⟩
  have h2 := h.2
  rw [h9.1, h9.2] at h2
  simp at h2
theorem isEdt_of {x : Edt} (h1 : 1 ≤ x.e ∧ x.e ≤ 9) (h2 : 0 ≤ x.p ∧ x.p ≤ 11) (h3 : isSpot x.bx x.bY = true) (h4 : isSpot x.ax x.aY = true) (h5 : ¬ (x.bx = x.ax ∧ x.bY = x.aY)) : isEdt x = true := by
  unfold isEdt
  rw [inR_t.2 h1, inR_t.2 h2, h3, h4]
  simp
  omega
/-- The squashed edits are edits. -/
theorem sqL_edt {es : List Edt} (h : areEdts es = true) : areEdts (sqL es 12) = true := by
  obtain ⟨hm, h30⟩ := edt_mem h
  have hl := sqL_len es 12
  unfold areEdts
  rw [Bool.and_eq_true, List.all_eq_true]
  refine ⟨fun x hx => ?_, decide_eq_true (by omega)⟩
  obtain ⟨i, hi, rfl⟩ := List.getElem_of_mem hx
  rw [← gx_eq (R := edtRec) hi]
  obtain ⟨q, h1, h2, h3, h4⟩ := (sqL_at es 12).1 i hi
  obtain ⟨h5, h6⟩ := sqIn_t h2
  obtain ⟨⟨L, a1, a2, a3, a4, a5, a6⟩, ⟨F, b1, b2, b3, b4, b5⟩, c1⟩ := ownE_at es.length h5
  have eL := isEdt_t (hm _ (gx_mem (R := edtRec) a1))
  have eF := isEdt_t (hm _ (gx_mem (R := edtRec) b1))
  rw [h3]
  refine isEdt_of (by rw [a4]; exact ⟨eL.1, eL.2.1⟩) (by rw [c1]; omega) (by rw [b4, b5]; exact eF.2.2.2.2.1) (by rw [a5, a6]; exact eL.2.2.2.2.2) h6
theorem lastE_uniq {S : List Edt} {p : Int} {c : Nat} (k : Nat) (hc : c < k) (hp : (gx edtRec S c).p = p) (hu : ∀ i, i < k → i ≠ c → (gx edtRec S i).p ≠ p) : lastE S p k = (c : Int) ∧ ownE S p k = gx edtRec S c := by
  induction k with
  | zero => omega
  | succ k ih =>
    rcases Nat.lt_or_ge c k with h9 | h9
    · have hx : ((gx edtRec S k).p == p) = false := by simpa using hu k (by omega) (by omega)
      rw [lastE_f hx, ownE_skip hx]
      exact ih h9 fun i hi => hu i (by omega)
    · obtain rfl : c = k := by omega
      have hx : ((gx edtRec S c).p == p) = true := by simpa using hp
      have h0 := lastE_none (es := S) (p := p) c fun i hi => hu i (by omega) (by omega)
      rw [lastE_t hx, ownE_new hx (by omega)]
      exact ⟨rfl, rfl⟩
/-- Squashed once more: the same. -/
theorem sqL_twice {S : List Edt} (h1 : ∀ i, i < S.length → 0 ≤ (gx edtRec S i).p ∧ (gx edtRec S i).p < 12) (h2 : ∀ i j, i < j → j < S.length → (gx edtRec S i).p < (gx edtRec S j).p)
    (h3 : ∀ i, i < S.length → ¬ ((gx edtRec S i).bx = (gx edtRec S i).ax ∧ (gx edtRec S i).bY = (gx edtRec S i).aY)) : sqL S 12 = S ∧ sqOk S = true := by
  have key : ∀ n : Nat, ∃ c, c ≤ S.length ∧ sqL S n = S.take c ∧ (∀ i, i < c → (gx edtRec S i).p < (n : Int)) ∧ ∀ i, c ≤ i → i < S.length → (n : Int) ≤ (gx edtRec S i).p := by
    intro n
    induction n with
    | zero => exact ⟨0, Nat.zero_le _, rfl, fun i hi => by omega, fun i _ hi => (h1 i hi).1⟩
    | succ n ih =>
      obtain ⟨c, hc, hs, ha, hb⟩ := ih
      by_cases hx : c < S.length ∧ (gx edtRec S c).p = (n : Int)
      · obtain ⟨hlt, hp⟩ := hx
        have hu : ∀ i, i < S.length → i ≠ c → (gx edtRec S i).p ≠ (n : Int) := by
          intro i hi hne
          rcases Nat.lt_or_ge i c with h9 | h9
          · have := ha i h9; omega
          · have := h2 c i (by omega) hi; omega
        obtain ⟨e1, e2⟩ := lastE_uniq S.length hlt hp hu
        have hin : sqIn S n = true := by
          unfold sqIn
          rw [e1, e2]
          have := h3 c hlt
          simp
          omega
        refine ⟨c + 1, by omega, ?_, fun i hi => ?_, fun i hi hl => ?_⟩
        · rw [sqL_yes hin, hs, e2, take_succ_gx edtRec S c hlt]
        · rcases Nat.lt_or_ge i c with h9 | h9
          · have := ha i h9; omega
          · obtain rfl : i = c := by omega
            omega
        · have := h2 c i (by omega) hl; omega
      · have hge : ∀ i, c ≤ i → i < S.length → ((n + 1 : Nat) : Int) ≤ (gx edtRec S i).p := by
          intro i hi hl
          have h5 := hb c (Nat.le_refl _) (by omega)
          have h6 : (gx edtRec S c).p ≠ (n : Int) := fun h => hx ⟨by omega, h⟩
          rcases Nat.lt_or_ge c i with h9 | h9
          · have := h2 c i h9 hl; omega
          · obtain rfl : i = c := by omega
            omega
        have hno := lastE_none (es := S) (p := (n : Int)) S.length fun i hi => by
          rcases Nat.lt_or_ge i c with h9 | h9
          · have := ha i h9; omega
          · have := hge i h9 hi; omega
        have hin : sqIn S n = false := by unfold sqIn; rw [hno]; rfl
        exact ⟨c, hc, by rw [sqL_no hin, hs], fun i hi => by have := ha i hi; omega, hge⟩
  obtain ⟨c, hc, hs, ha, hb⟩ := key 12
  have e : c = S.length := by
    rcases Nat.lt_or_ge c S.length with h9 | h9
    · have := hb c (Nat.le_refl _) h9
      have := (h1 c h9).2
      omega
    · omega
  refine ⟨by rw [hs, e, List.take_length], sqOk_yes fun k hk => ?_⟩
  unfold sqBad
  rw [lastE_none k fun i hi => by have := h2 i k hi hk; omega]
  rfl
/-! ### The edits of all editors -/
def smE (es : List Edt) : Nat → Int
  | 0 => 0
  | n + 1 => smE es n + ((eof es ((n + 1 : Nat) : Int)).length : Int)
theorem smE_succ (es : List Edt) (n : Nat) : smE es (n + 1) = smE es n + ((eof es ((n + 1 : Nat) : Int)).length : Int) := rfl
theorem smE_is (es : List Edt) (n : Nat) : smE es n = ((es.filter fun x => decide (1 ≤ x.e) && decide (x.e ≤ (n : Int))).length : Int) := by
  induction n with
  | zero =>
    have : (es.filter fun x => decide (1 ≤ x.e) && decide (x.e ≤ ((0 : Nat) : Int))) = [] := by
      rw [List.filter_eq_nil_iff]
      intro x _
      simp
      omega
    rw [this]; rfl
  | succ n ih =>
    rw [smE_succ, ih]
    unfold eof
    clear ih
    induction es with
    | nil => rfl
    | cons x es ih =>
      simp only [List.filter_cons]
      by_cases h1 : x.e = ((n + 1 : Nat) : Int)
      · have a1 : (decide (1 ≤ x.e) && decide (x.e ≤ (n : Int))) = false := by simp; omega
        have a2 : (x.e == ((n + 1 : Nat) : Int)) = true := by simpa using h1
        have a3 : (decide (1 ≤ x.e) && decide (x.e ≤ ((n + 1 : Nat) : Int))) = true := by simp; omega
        rw [a1, a2, a3]
        simp only [if_true, if_false, Bool.false_eq_true, List.length_cons]
        omega
      · have a2 : (x.e == ((n + 1 : Nat) : Int)) = false := by simpa using h1
        have a3 : (decide (1 ≤ x.e) && decide (x.e ≤ ((n + 1 : Nat) : Int))) = (decide (1 ≤ x.e) && decide (x.e ≤ (n : Int))) := by
          congr 1
          exact decide_eq_decide.2 (by omega)
        rw [a2, a3]
        cases (decide (1 ≤ x.e) && decide (x.e ≤ (n : Int)))
        · simpa using ih
        · simp only [if_true, if_false, Bool.false_eq_true, List.length_cons]
          omega
theorem smE_all {es : List Edt} (h : areEdts es = true) : smE es 9 = es.length := by
  obtain ⟨hm, _⟩ := edt_mem h
  rw [smE_is, List.filter_eq_self.2 fun x hx => by have := isEdt_t (hm x hx); simp; omega]
theorem smE_bd (es : List Edt) (n : Nat) (hn : es.length ≤ 30) : 0 ≤ smE es n ∧ smE es n ≤ 30 := by
  rw [smE_is]
  have := List.length_filter_le (fun x : Edt => decide (1 ≤ x.e) && decide (x.e ≤ (n : Int))) es
  omega
/-- An edit of an editor: the editor's, and the performer is told among the touched ones. -/
theorem eof_at {es : List Edt} (h : areEdts es = true) {n : Int} {k : Nat} (hk : k < (eof es n).length) : (gx edtRec (eof es n) k).e = n ∧ pinB (tch (rng 0 12) n es) (gx edtRec (eof es n) k).p = true := by
  obtain ⟨hm, _⟩ := edt_mem h
  have hmem := gx_mem (R := edtRec) hk
  obtain ⟨y, hy⟩ : ∃ y, y = gx edtRec (eof es n) k := ⟨_, rfl⟩
  rw [← hy] at hmem ⊢
  unfold eof at hmem
  rw [List.mem_filter] at hmem
  obtain ⟨h1, h2⟩ := hmem
  have he : y.e = n := by simpa using h2
  refine ⟨he, ?_⟩
  have hb := isEdt_t (hm _ h1)
  unfold pinB
  rw [List.any_eq_true]
  refine ⟨y.p, ?_, by simp⟩
  unfold tch
  rw [List.mem_filter]
  refine ⟨mem_rng.2 (by have := hb.2.2.1; have := hb.2.2.2.1; omega), ?_⟩
  rw [List.any_eq_true]
  exact ⟨_, h1, by simp; exact he⟩
end Go.Proofs.YtombnhnhbocceaaGreatDoor
/- Contract of SquashEdits, in the program. -/
set_option linter.unusedSimpArgs false
set_option linter.unusedVariables false
namespace Go.Proofs.YtombnhnhbocceaaGreatDoor
open Go.RowKit Go.Sort

theorem sqBad_own {es : List Edt} {p : Int} {k : Nat} (hp : ((gx edtRec es k).p == p) = true) (h : 0 ≤ lastE es p k) : sqBad es k = !((ownE es p k).ax == (gx edtRec es k).bx && (ownE es p k).aY == (gx edtRec es k).bY) := by
  have hp2 : (gx edtRec es k).p = p := by simpa using hp
  obtain ⟨⟨L, a1, a2, a3, a4, a5, a6⟩, _⟩ := ownE_at k h
  unfold sqBad
  rw [hp2, a2, a5, a6, decide_eq_true (by omega), Bool.true_and, Int.toNat_natCast]
theorem sqBad_new {es : List Edt} {p : Int} {k : Nat} (hp : ((gx edtRec es k).p == p) = true) (h : lastE es p k < 0) : sqBad es k = false := by
  have hp2 : (gx edtRec es k).p = p := by simpa using hp
  unfold sqBad
  rw [hp2, decide_eq_false (by omega)]; rfl
def sqFor (es : List Edt) (p : Int) (k : Nat) : Prop := ∀ j, j < k → (gx edtRec es j).p = p → sqBad es j = false
theorem sqFor_skip {es : List Edt} {p : Int} {k : Nat} (h : sqFor es p k) (hx : ((gx edtRec es k).p == p) = false) : sqFor es p (k + 1) := by
  intro j hj hp
  rcases Nat.lt_or_ge j k with h9 | h9
  · exact h j h9 hp
  · obtain rfl : j = k := by omega
    rw [hp] at hx; simp at hx
theorem sqFor_succ {es : List Edt} {p : Int} {k : Nat} (h : sqFor es p k) (hx : sqBad es k = false) : sqFor es p (k + 1) := by
  intro j hj hp
  rcases Nat.lt_or_ge j k with h9 | h9
  · exact h j h9 hp
  · obtain rfl : j = k := by omega
    exact hx
def sqBelow (es : List Edt) (i : Nat) : Prop := ∀ k, k < es.length → (gx edtRec es k).p < (i : Int) → sqBad es k = false
theorem sqBelow_succ {es : List Edt} {i : Nat} (h : sqBelow es i) (h2 : sqFor es (i : Int) es.length) : sqBelow es (i + 1) := by
  intro k hk hp
  by_cases e : (gx edtRec es k).p = (i : Int)
  · exact h2 k hk e
  · exact h k hk (by omega)
theorem sqBelow_all {es : List Edt} (h : areEdts es = true) (h2 : sqBelow es 12) : sqOk es = true := by
  obtain ⟨hm, _⟩ := edt_mem h
  refine sqOk_yes fun k hk => h2 k hk ?_
  have := isEdt_t (hm _ (gx_mem (R := edtRec) hk))
  have := this.2.2.2.1
  omega
theorem sqIn_is {es : List Edt} {i : Nat} : sqIn es i = (decide (0 ≤ lastE es (i : Int) es.length) && !((ownE es (i : Int) es.length).bx == (ownE es (i : Int) es.length).ax && (ownE es (i : Int) es.length).bY == (ownE es (i : Int) es.length).aY)) := rfl
set_option maxRecDepth 100000 in
set_option maxHeartbeats 12800000 in
theorem implSq (ve : Value) (es : List Edt) (w : World) (hE : RowAt edtRec w ve es) :
    Calls Tryz.prog 8 #[ve] w (FreshEdtB w (rSq es)) := by
  obtain ⟨B, d, rfl, hnd, hd63⟩ := hE.shape
  have CA := Lib.hid (areEdits_any _ es w hE)
  cases h1 : areEdts es
  · have hr := Lib.hid (rSq_no1 h1)
    rw [h1] at CA
    go_enter Tryz.func8, Tryz.ntmps8
    go_wp2_with fail
    refine CA.out.mono ?_; rintro e w1 ⟨rfl, b1⟩
    go_wp2_with fail
    go_ret2
    exact ⟨_, by rw [hr.out]; rfl, by rw [hr.out]; exact OwnRow.nil_ edtRec _ _, b1⟩
  · rw [h1] at CA
    obtain ⟨h30, _⟩ := areEdts_t h1
    have H1 := Lib.hid h1
    clear h1
    go_enter Tryz.func8, Tryz.ntmps8
    go_wp2_with fail
    refine CA.out.mono ?_; rintro e w1 ⟨rfl, b1⟩
    have hE1 := Lib.hid (hE.below b1 (Nat.le_refl _))
    have oN : OwnRow edtRec (w1.alloc (.cells #[] 39)) w1.heap.size (.slice (some ⟨w1.heap.size, 0, none⟩) 0 0) (sqL es 0) := OwnRow.empty edtRec w1 w1.heap.size (Nat.le_refl _)
    have bN : Below w1.heap.size w1 (w1.alloc (.cells #[] 39)) := (Below.refl _ _).alloc (Nat.le_refl _) _
    clear CA
    go_wp2_with fail
    go_loopw [4, 14] (fun t s wr => ∃ i : Nat, i ≤ 12 ∧ s = .int .i64 i ∧ OwnRow edtRec wr w1.heap.size t (sqL es i) ∧ Below w1.heap.size w1 wr ∧ Hid (sqBelow es i)) (fun _ s _ => 12 - (intOf s).toNat)
    case atStart => exact ⟨0, by omega, rfl, oN, bN, fun k hk hp => by have := isEdt_t ((edt_mem H1.out).1 _ (gx_mem (R := edtRec) hk)); have := this.2.2.1; omega⟩
    case round =>
      obtain ⟨i, hi, rfl, ho, hb, hbel⟩ := hrel
      clear oN bN
      obtain ⟨w2, hw2⟩ : ∃ w9 : World, w9 = wr := ⟨_, rfl⟩
      subst hw2
      by_cases hlt : i < 12
      · have hX : Below w2.heap.size w2 (w2.alloc (.cells #[.int .i64 0, .int .i64 0, .int .i64 0, .int .i64 0, .int .i64 0, .int .i64 0] 39)) := (Below.refl _ _).alloc (Nat.le_refl _) _
        have zO : BoxE (w2.alloc (.cells #[.int .i64 0, .int .i64 0, .int .i64 0, .int .i64 0, .int .i64 0, .int .i64 0] 39)) w2.heap.size 0 0 0 0 0 0 := BoxE.new w2 0 0 0 0 0 0
        obtain ⟨O, hO⟩ : ∃ O, O = w2.heap.size := ⟨_, rfl⟩
        rw [← hO] at zO
        have HO := Lib.hid hO
        have hsl := sqL_len es i
        have hi12 : (i : Int) < 12 := by omega
        go_wp2_with fail
        rw [← hO]
        clear hO
        go_loopw [7, 20] (fun f q w9 => ∃ (k : Nat) (o : Edt) (t9 : Bool), k ≤ es.length ∧ q = .int .i64 k ∧ f = .bool t9 ∧ Hid (t9 = decide (0 ≤ lastE es (i : Int) k)) ∧ Hid (o = ownE es (i : Int) k) ∧ BoxE w9 O o.e o.p o.bx o.bY o.ax o.aY ∧ Below w2.heap.size w2 w9 ∧ Hid (sqFor es (i : Int) k)) (fun _ q _ => es.length - (intOf q).toNat)
        case atStart => exact ⟨0, nulE, false, Nat.zero_le _, rfl, rfl, rfl, rfl, zO, hX, fun j hj => by omega⟩
        case round =>
          obtain ⟨k, o, t9, hk, rfl, rfl, ht9, hown, zr, hb9, hfor⟩ := hrel
          clear zO hX
          have hbb := hb.trans (hb9.mono hb.size)
          have hOlt := zr.lt
          by_cases hkl : k < es.length
          · obtain ⟨b, o_, rfl, hc0, hc1, hc2, hc3, hc4, hc5⟩ := edt_at (hE1.out.below hbb (Nat.le_refl _)) k hkl
            have hk0 : (0 : Int) ≤ (k : Int) := by omega
            have hk1 : (k : Int) < (es.length : Int) := by omega
            obtain ⟨x, hx⟩ : ∃ x, x = gx edtRec es k := ⟨_, rfl⟩
            have zP := zr.al (.cells #[.int .i64 x.e, .int .i64 x.p, .int .i64 x.bx, .int .i64 x.bY, .int .i64 x.ax, .int .i64 x.aY] 39)
            have xP := BoxE.new wr x.e x.p x.bx x.bY x.ax x.aY
            have bP := hb9.alloc hb9.size (.cells #[.int .i64 x.e, .int .i64 x.p, .int .i64 x.bx, .int .i64 x.bY, .int .i64 x.ax, .int .i64 x.aY] 39)
            rw [← hx] at hc0 hc1 hc2 hc3 hc4 hc5
            obtain ⟨X, hX⟩ : ∃ X : World, X = wr.alloc (.cells #[.int .i64 x.e, .int .i64 x.p, .int .i64 x.bx, .int .i64 x.bY, .int .i64 x.ax, .int .i64 x.aY] 39) := ⟨_, rfl⟩
            obtain ⟨P, hP⟩ : ∃ P, P = wr.heap.size := ⟨_, rfl⟩
            have hPO : P ≠ O := by omega
            have hOP : O ≠ P := by omega
            rw [← hX] at zP xP bP
            rw [← hP] at xP
            have HX := Lib.hid hX
            have HP := Lib.hid hP
            have Hx := Lib.hid hx
            clear hX hP hx
            have hwO : w2.heap.size ≤ O := by rw [HO.out]; exact Nat.le_refl _
            go_upto_region 12 with fail
            rw [← HX.out, ← HP.out]
            clear hc0 hc1 hc2 hc3 hc4 hc5
            obtain ⟨c0, c1, c2, c3, c4, c5, f0, f1, f2, f3, f4, f5⟩ := zP.cells
            obtain ⟨d0, d1, d2, d3, d4, d5, _, _, _, _, _, _⟩ := xP.cells
            cases e0 : (x.p == (i : Int))
            · have e0n : (x.p != (i : Int)) = true := by unfold bne; rw [e0]; rfl
              have hr1 := Lib.hid (ownE_skip (es := es) (k := k) (p := (i : Int)) (by rw [← Hx.out]; exact e0))
              have hr2 := Lib.hid (lastE_f (es := es) (k := k) (p := (i : Int)) (by rw [← Hx.out]; exact e0))
              have hr3 := Lib.hid (sqFor_skip hfor.out (by rw [← Hx.out]; exact e0))
              go_wp2_with fail
              go_roundw
              case rel => exact ⟨k + 1, o, t9, by omega, by go_num, rfl, by show _ = _; rw [hr2.out]; exact ht9.out, by show _ = _; rw [hr1.out]; exact hown.out, zP, bP, hr3⟩
              case measure => simp [intOf]; omega
            · have e0n : (x.p != (i : Int)) = false := by unfold bne; rw [e0]; rfl
              have e1 : ((gx edtRec es k).p == (i : Int)) = true := by rw [← Hx.out]; exact e0
              have E1 := Lib.hid e1
              clear e1
              by_cases hneg : lastE es (i : Int) k < 0
              · have ht : t9 = false := by rw [ht9.out]; exact decide_eq_false (by omega)
                subst ht
                have hr1 := Lib.hid (ownE_new E1.out hneg)
                have hr3 := Lib.hid (sqFor_succ hfor.out (sqBad_new E1.out hneg))
                have hr2 := Lib.hid (lastE_t E1.out)
                have zN := Lib.hid (zP.set x.e x.p x.bx x.bY x.ax x.aY)
                have bN := Lib.hid ((((((bP.setCell (p := ⟨O, 0, none⟩) hwO (.int .i64 x.e)).setCell (p := ⟨O, 1, none⟩) hwO (.int .i64 x.p)).setCell (p := ⟨O, 2, none⟩) hwO (.int .i64 x.bx)).setCell (p := ⟨O, 3, none⟩) hwO (.int .i64 x.bY)).setCell (p := ⟨O, 4, none⟩) hwO (.int .i64 x.ax)).setCell (p := ⟨O, 5, none⟩) hwO (.int .i64 x.aY))
                clear hneg zP bP
                go_wp2_with fail
                go_roundw
                case rel => exact ⟨k + 1, x, true, by omega, by go_num, rfl, by show _ = _; rw [hr2.out]; exact (decide_eq_true (by omega)).symm, by show _ = _; rw [hr1.out]; exact Hx.out, zN.out, bN.out, hr3⟩
                case measure => simp [intOf]; omega
              · have ht : t9 = true := by rw [ht9.out]; exact decide_eq_true (by omega)
                subst ht
                have hbad := sqBad_own E1.out (show 0 ≤ lastE es (i : Int) k by omega)
                have hr1 := Lib.hid (ownE_more E1.out (show 0 ≤ lastE es (i : Int) k by omega))
                have hr2 := Lib.hid (lastE_t E1.out)
                rw [← hown.out, ← Hx.out] at hbad
                rw [← hown.out, ← Hx.out] at hr1
                have Hbad := Lib.hid hbad
                clear hneg hbad
                rcases spt_cases ⟨o.ax, o.aY⟩ ⟨x.bx, x.bY⟩ with ⟨_, q1, q2, q3, q4⟩ | ⟨_, q1, q2, q3, q4⟩ | ⟨_, q1, q2, q3, q4⟩ | ⟨_, q1, q2, q3, q4⟩
                · have q1 : (o.ax == x.bx) = true := q1
                  have q2 : (o.aY == x.bY) = true := q2
                  have q3 : (o.ax != x.bx) = false := q3
                  have q4 : (o.aY != x.bY) = false := q4
                  have hr3 := Lib.hid (sqFor_succ hfor.out (by rw [Hbad.out, q1, q2]; rfl))
                  have zD : BoxE X.drew O o.e o.p o.bx o.bY o.ax o.aY := zP
                  have bD := bP.drew
                  have zN := Lib.hid (((zD.set4 x.ax).set5 x.aY).set0 x.e)
                  have zM := Lib.hid (((zD.set0 x.e).set4 x.ax).set5 x.aY)
                  have zL := Lib.hid (((zD.set4 x.ax).set0 x.e).set5 x.aY)
                  have bN := Lib.hid (((bD.setCell (p := ⟨O, 4, none⟩) hwO (.int .i64 x.ax)).setCell (p := ⟨O, 5, none⟩) hwO (.int .i64 x.aY)).setCell (p := ⟨O, 0, none⟩) hwO (.int .i64 x.e))
                  have bM := Lib.hid (((bD.setCell (p := ⟨O, 0, none⟩) hwO (.int .i64 x.e)).setCell (p := ⟨O, 4, none⟩) hwO (.int .i64 x.ax)).setCell (p := ⟨O, 5, none⟩) hwO (.int .i64 x.aY))
                  have hL2 : Hid (true = decide (0 ≤ lastE es (i : Int) (k + 1))) := by show _ = _; rw [hr2.out]; exact (decide_eq_true (by omega)).symm
                  have hL1 : Hid ((⟨x.e, o.p, o.bx, o.bY, x.ax, x.aY⟩ : Edt) = ownE es (i : Int) (k + 1)) := by show _ = _; rw [hr1.out]
                  clear zD bD zP bP xP
                  go_wp2_with fail
                  go_region_law fail
                  all_goals
                    go_wp2_with fail
                    go_roundw
                    case rel =>
                      first
                        | exact ⟨k + 1, ⟨x.e, o.p, o.bx, o.bY, x.ax, x.aY⟩, true, by omega, by go_num, rfl, hL2, hL1, zN.out, bN.out, hr3⟩
                        | exact ⟨k + 1, ⟨x.e, o.p, o.bx, o.bY, x.ax, x.aY⟩, true, by omega, by go_num, rfl, hL2, hL1, zM.out, bM.out, hr3⟩
                    case measure => simp [intOf]; omega
                all_goals
                  have hno := Lib.hid (rSq_no2 (sqOk_no hkl (by rw [Hbad.out]; first | (rw [show (o.ax == x.bx) = true from q1, show (o.aY == x.bY) = false from q2]; rfl) | (rw [show (o.ax == x.bx) = false from q1]; rfl))))
                  have q1' : (o.ax == x.bx) = _ := q1
                  have q2' : (o.aY == x.bY) = _ := q2
                  have q3' : (o.ax != x.bx) = _ := q3
                  have q4' : (o.aY != x.bY) = _ := q4
                  clear q1 q2 q3 q4
                  go_wp2_with fail
                  go_ret2
                  exact ⟨_, by rw [hno.out]; rfl, by rw [hno.out]; exact OwnRow.nil_ edtRec _ _, b1.next (Nat.le_refl _) (hb.trans (bP.mono hb.size))⟩
          · obtain rfl : k = es.length := by omega
            have hr4 := Lib.hid (sqBelow_succ hbel.out hfor.out)
            have hin := sqIn_is (es := es) (i := i)
            rw [← ht9.out, ← hown.out] at hin
            have hoX := OwnRow.below ho hb9 (Nat.le_refl _)
            have h9 : (sqL es i).length + 1 ≤ 1099511627776 := by omega
            have hsX := hbb.size
            obtain ⟨c0, c1, c2, c3, c4, c5, f0, f1, f2, f3, f4, f5⟩ := zr.cells
            cases t9
            · have hs := Lib.hid (sqL_no (es := es) (p := i) (by rw [hin]; rfl))
              clear hin
              go_wp2_with fail
              go_roundw
              case rel => exact ⟨i + 1, by omega, by go_num, by rw [hs.out]; exact hoX, hbb, hr4⟩
              case measure => simp [intOf]; omega
            · rcases spt_cases ⟨o.bx, o.bY⟩ ⟨o.ax, o.aY⟩ with ⟨_, q1, q2, q3, q4⟩ | ⟨_, q1, q2, q3, q4⟩ | ⟨_, q1, q2, q3, q4⟩ | ⟨_, q1, q2, q3, q4⟩
              · have q1' : (o.bx == o.ax) = true := q1
                have q2' : (o.bY == o.aY) = true := q2
                have q3' : (o.bx != o.ax) = false := q3
                have q4' : (o.bY != o.aY) = false := q4
                have hs := Lib.hid (sqL_no (es := es) (p := i) (by rw [hin, q1', q2']; rfl))
                clear hin q1 q2 q3 q4
                go_wp2_with fail
                go_roundw
                case rel => exact ⟨i + 1, by omega, by go_num, by rw [hs.out]; exact hoX, hbb, hr4⟩
                case measure => simp [intOf]; omega
              all_goals
                have q1' : (o.bx == o.ax) = _ := q1
                have q2' : (o.bY == o.aY) = _ := q2
                have q3' : (o.bx != o.ax) = _ := q3
                have q4' : (o.bY != o.aY) = _ := q4
                have hs := sqL_yes (es := es) (p := i) (by rw [hin, q1', q2']; rfl)
                rw [← hown.out] at hs
                have Hs := Lib.hid hs
                clear hin q1 q2 q3 q4 hs
                go_wp2_with (at_builtin; refine wp_app_edt _ rfl _ _ rfl w1.heap.size _ (sqL es i) rfl hoX o _ rfl (by simp) h9 hsX ?_; intro v5 w5 ho5 hg5)
                go_roundw
                case rel => exact ⟨i + 1, by omega, by go_num, by rw [Hs.out]; exact ho5, hbb.trans hg5.below, hr4⟩
                case measure => simp [intOf]; omega
      · obtain rfl : i = 12 := by omega
        have hr := Lib.hid (rSq_yes H1.out (sqBelow_all H1.out hbel.out))
        have ho2 := Lib.hid (OwnRow.lo ho b1.size)
        clear ho
        go_wp2_with fail
        go_ret2
        exact ⟨_, by rw [hr.out]; rfl, by rw [hr.out]; exact ho2.out, b1.next (Nat.le_refl _) hb⟩
end Go.Proofs.YtombnhnhbocceaaGreatDoor
/- Contract of SquashEdits, in the reference. -/
set_option linter.unusedSimpArgs false
set_option linter.unusedVariables false
namespace Go.Proofs.YtombnhnhbocceaaGreatDoor
open Go.RowKit Go.Sort

theorem sqBad_at {es : List Edt} {k : Nat} {L : Nat} (h : lastE es (gx edtRec es k).p k = (L : Int)) : sqBad es k = !((gx edtRec es L).ax == (gx edtRec es k).bx && (gx edtRec es L).aY == (gx edtRec es k).bY) := by
  unfold sqBad
  rw [h, decide_eq_true (by omega), Bool.true_and, Int.toNat_natCast]
theorem sqBad_neg {es : List Edt} {k : Nat} (h : lastE es (gx edtRec es k).p k < 0) : sqBad es k = false := by
  unfold sqBad
  rw [decide_eq_false (by omega)]; rfl
set_option maxRecDepth 100000 in
set_option maxHeartbeats 12800000 in
theorem specSq (ve : Value) (es : List Edt) (w : World) (hE : RowAt edtRec w ve es) :
    Calls Tryz.prog 9 #[ve] w (FreshEdtB w (rSq es)) := by
  obtain ⟨B, d, rfl, hnd, hd63⟩ := hE.shape
  have CA := Lib.hid (edAll_any _ es w hE)
  cases h1 : areEdts es
  · have hr := Lib.hid (rSq_no1 h1)
    rw [h1] at CA
    go_enter Tryz.func9, Tryz.ntmps9
    go_wp2_with fail
    refine CA.out.mono ?_; rintro e w1 ⟨rfl, b1⟩
    go_wp2_with fail
    go_ret2
    exact ⟨_, by rw [hr.out]; rfl, by rw [hr.out]; exact OwnRow.nil_ edtRec _ _, b1⟩
  · rw [h1] at CA
    obtain ⟨h30, _⟩ := areEdts_t h1
    have H1 := Lib.hid h1
    clear h1
    go_enter Tryz.func9, Tryz.ntmps9
    go_wp2_with fail
    refine CA.out.mono ?_; rintro e w1 ⟨rfl, b1⟩
    have hE1 := Lib.hid (hE.below b1 (Nat.le_refl _))
    clear CA
    go_wp2_with fail
    go_loopw [16] (fun s wr => ∃ k : Nat, k ≤ es.length ∧ s = .int .i64 k ∧ Below w1.heap.size w1 wr ∧ Hid (sqTo es k)) (fun s _ => es.length - (intOf s).toNat)
    case atStart => exact ⟨0, Nat.zero_le _, rfl, Below.refl _ _, fun i hi => by omega⟩
    case round =>
      obtain ⟨k, hk, rfl, hb, hto⟩ := hrel
      by_cases hkl : k < es.length
      · obtain ⟨b, o_, rfl, hc0, hc1, hc2, hc3, hc4, hc5⟩ := edt_at (hE1.out.below hb (Nat.le_refl _)) k hkl
        have hk0 : (0 : Int) ≤ (k : Int) := by omega
        have hk1 : (k : Int) < (es.length : Int) := by omega
        have hkd : (k : Int) ≤ (d : Int) := by omega
        obtain ⟨x, hx⟩ : ∃ x, x = gx edtRec es k := ⟨_, rfl⟩
        have xP := BoxE.new wr x.e x.p x.bx x.bY x.ax x.aY
        have bP := hb.alloc hb.size (.cells #[.int .i64 x.e, .int .i64 x.p, .int .i64 x.bx, .int .i64 x.bY, .int .i64 x.ax, .int .i64 x.aY] 39)
        rw [← hx] at hc0 hc1 hc2 hc3 hc4 hc5
        obtain ⟨X, hX⟩ : ∃ X : World, X = wr.alloc (.cells #[.int .i64 x.e, .int .i64 x.p, .int .i64 x.bx, .int .i64 x.bY, .int .i64 x.ax, .int .i64 x.aY] 39) := ⟨_, rfl⟩
        obtain ⟨P, hP⟩ : ∃ P, P = wr.heap.size := ⟨_, rfl⟩
        rw [← hX] at xP bP
        rw [← hP] at xP
        have HX := Lib.hid hX
        have HP := Lib.hid hP
        have Hx := Lib.hid hx
        have hcut : RowAt edtRec X (.slice (some ⟨b, o_, none⟩) k d) (es.take k) := RowAt.take (R := edtRec) (hE1.out.below bP (Nat.le_refl _)) k hk
        have cE : ∀ d9 os, Calls Tryz.prog 35 #[.slice (some ⟨b, o_, none⟩) k d, .int .i64 x.p] (grow (redrawn X d9) os) (fun e w'' => e = .returned (.int .i64 (lastE es x.p k)) ∧ ∃ p : Regrown, w'' = grow (redrawn X p.d) p.os) := fun d9 os => by
          have h9 := edLast_any _ (es.take k) x.p (grow (redrawn X d9) os) (hcut.below (below_regrown X d9 os) (Nat.le_refl _))
          rw [List.length_take, Nat.min_eq_left hk, lastE_take es x.p k k (Nat.le_refl _) hk] at h9
          exact rg_below h9
        have cE9 := Lib.hid cE
        clear hX hP hx cE hcut
        obtain ⟨d0, d1, d2, d3, d4, d5, _, _, _, _, _, _⟩ := xP.cells
        have k1 := cell_regrown d1
        have hLb := lastE_bd es x.p k
        obtain ⟨q, hq⟩ : ∃ q, q = lastE es x.p k := ⟨_, rfl⟩
        rw [← hq] at cE9 hLb
        have Hq := Lib.hid hq
        clear hq
        go_upto_region 6 with fail
        rw [← HX.out, ← HP.out]
        clear hc0 hc1 hc2 hc3 hc4 hc5
        have cE2 := cE9.out
        clear cE9
        (refine wp_region_quiet_below (by kernel_rfl) (by kernel_rfl) ?_; (repeat (go_big_quiet_step (first | with_reducible exact cE2 _ _))); refine wpQuiet_nil ?_; intro _ hw'; obtain ⟨⟨dq, osq⟩, hw''⟩ := hw'; subst hw'')
        have b6 := RG.below bP bP.size dq osq
        have x6 := xP.keep (below_regrown X dq osq) (Nat.le_refl _)
        obtain ⟨w6, hw6⟩ : ∃ W : World, W = grow (redrawn X dq) osq := ⟨_, rfl⟩
        rw [← hw6] at b6 x6
        have H6 := Lib.hid hw6
        clear hw6 d0 d1 d2 d3 d4 d5 k1 cE2 xP bP
        obtain ⟨d0, d1, d2, d3, d4, d5, _, _, _, _, _, _⟩ := x6.cells
        by_cases hneg : q < 0
        · have hr3 := Lib.hid (sqTo_succ hto.out (sqBad_neg (by rw [← Hx.out, ← Hq.out]; exact hneg)))
          have hge : ¬ (0 : Int) ≤ q := by omega
          go_upto_region 7 with fail
          rw [← H6.out]
          go_quiet (fail)
          go_wp2_with fail
          go_roundw
          case rel => exact ⟨k + 1, by omega, by go_num, b6.drewN _, hr3⟩
          case measure => simp [intOf]; omega
        · obtain ⟨L, rfl⟩ := Int.eq_ofNat_of_zero_le (show 0 ≤ q by omega)
          have hLk : L < k := by omega
          obtain ⟨b', o', he, hf0, hf1, hf2, hf3, hf4, hf5⟩ := edt_at (hE1.out.below b6 (Nat.le_refl _)) L (by omega)
          injection he with he; injection he with he1 he2; subst he1 he2
          have hbad := sqBad_at (es := es) (k := k) (L := L) (by rw [← Hx.out, ← Hq.out])
          rw [← Hx.out] at hbad
          obtain ⟨y, hy⟩ : ∃ y, y = gx edtRec es L := ⟨_, rfl⟩
          rw [← hy] at hbad hf0 hf1 hf2 hf3 hf4 hf5
          have Hbad := Lib.hid hbad
          have hL0 : (0 : Int) ≤ (L : Int) := by omega
          have hL1 : (L : Int) < (es.length : Int) := by omega
          clear hbad hy hneg hLb
          rcases spt_cases ⟨y.ax, y.aY⟩ ⟨x.bx, x.bY⟩ with ⟨_, q1, q2, q3, q4⟩ | ⟨_, q1, q2, q3, q4⟩ | ⟨_, q1, q2, q3, q4⟩ | ⟨_, q1, q2, q3, q4⟩
          · have q1' : (y.ax == x.bx) = true := q1
            have q2' : (y.aY == x.bY) = true := q2
            have q3' : (y.ax != x.bx) = false := q3
            have q4' : (y.aY != x.bY) = false := q4
            have hr3 := Lib.hid (sqTo_succ hto.out (by rw [Hbad.out, q1', q2']; rfl))
            clear q1 q2 q3 q4
            go_upto_region 7 with fail
            rw [← H6.out]
            go_quiet (fail)
            go_wp2_with fail
            go_roundw
            case rel => exact ⟨k + 1, by omega, by go_num, b6.drewN _, hr3⟩
            case measure => simp [intOf]; omega
          all_goals
            have q1' : (y.ax == x.bx) = _ := q1
            have q2' : (y.aY == x.bY) = _ := q2
            have q3' : (y.ax != x.bx) = _ := q3
            have q4' : (y.aY != x.bY) = _ := q4
            have hno := Lib.hid (rSq_no2 (sqOk_no hkl (by rw [Hbad.out, q1', q2']; rfl)))
            clear q1 q2 q3 q4
            go_upto_region 7 with fail
            rw [← H6.out]
            go_quiet (fail)
            go_wp2_with fail
            go_ret2
            exact ⟨_, by rw [hno.out]; rfl, by rw [hno.out]; exact OwnRow.nil_ edtRec _ _, (b1.next (Nat.le_refl _) b6).drewN _⟩
      · obtain rfl : k = es.length := by omega
        have hr := Lib.hid (rSq_yes H1.out (sqOk_yes hto.out))
        obtain ⟨w2, hw2⟩ : ∃ w9 : World, w9 = wr := ⟨_, rfl⟩
        subst hw2
        have b12 := b1.next (Nat.le_refl _) hb
        have hE2 := Lib.hid (hE.below b12 (Nat.le_refl _))
        clear hto hb hE1
        go_wp2_with fail
        go_loopw [7, 8] (fun t s wr => ∃ p : Nat, p ≤ 12 ∧ s = .int .i64 p ∧ OwnRow edtRec wr w2.heap.size t (sqL es p) ∧ Below w2.heap.size w2 wr) (fun _ s _ => 12 - (intOf s).toNat)
        case atStart => exact ⟨0, by omega, rfl, OwnRow.nil_ edtRec _ _, Below.refl _ _⟩
        case round =>
          obtain ⟨p, hp, rfl, ho, hb⟩ := hrel
          by_cases hlt : p < 12
          · have hp12 : (p : Int) < 12 := by omega
            have CL := Lib.hid (edLast_any _ es (p : Int) wr (hE2.out.below hb (Nat.le_refl _)))
            have hLb := lastE_bd es (p : Int) es.length
            have hown := fun h => ownE_at (es := es) (p := (p : Int)) es.length h
            have hin := sqIn_is (es := es) (i := p)
            have hsl := sqL_len es p
            obtain ⟨q, hq⟩ : ∃ q, q = lastE es (p : Int) es.length := ⟨_, rfl⟩
            rw [← hq] at CL hLb hown hin
            clear hq
            have Hown := Lib.hid hown
            have Hin := Lib.hid hin
            clear hown hin
            by_cases hneg : q < 0
            · have hs := Lib.hid (sqL_no (es := es) (p := p) (by rw [Hin.out, decide_eq_false (by omega)]; rfl))
              go_wp2_with fail
              refine CL.out.mono ?_; rintro e w3 ⟨rfl, b3⟩
              go_wp2_with fail
              go_roundw
              case rel => exact ⟨p + 1, by omega, by go_num, by rw [hs.out]; exact OwnRow.below ho b3 (Nat.le_refl _), hb.next (Nat.le_refl _) b3⟩
              case measure => simp [intOf]; omega
            · obtain ⟨⟨L, a1, a2, a3, a4, a5, a6⟩, ⟨F, f1, f2, f3, f4, f5⟩, hpp⟩ := Hown.out (by omega)
              subst a2
              go_wp2_with fail
              refine CL.out.mono ?_; rintro e w3 ⟨rfl, b3⟩
              have hb3 := hb.next (Nat.le_refl _) b3
              have ho3 := OwnRow.below ho b3 (Nat.le_refl _)
              have hE3 := hE2.out.below hb3 (Nat.le_refl _)
              obtain ⟨b, o_, rfl, hl0, hl1, hl2, hl3, hl4, hl5⟩ := edt_at hE3 L a1
              obtain ⟨b', o', he, hf0, hf1, hf2, hf3, hf4, hf5⟩ := edt_at hE3 F f1
              injection he with he; injection he with he1 he2; subst he1 he2
              have HF := Lib.hid f3
              have Hpp := Lib.hid hpp
              clear CL ho hb b3 f3 hneg hpp
              obtain ⟨y, hy⟩ : ∃ y, y = gx edtRec es L := ⟨_, rfl⟩
              obtain ⟨z, hz⟩ : ∃ z, z = gx edtRec es F := ⟨_, rfl⟩
              rw [← hy] at hl0 hl1 hl2 hl3 hl4 hl5 a4 a5 a6
              rw [← hz] at hf0 hf1 hf2 hf3 hf4 hf5 f2 f4 f5
              have hO : ownE es (p : Int) es.length = ⟨y.e, (p : Int), z.bx, z.bY, y.ax, y.aY⟩ := Edt.ext_ a4 Hpp.out f4 f5 a5 a6
              have hI := Hin.out
              rw [hO] at hI
              have HI := Lib.hid hI
              have HO := Lib.hid hO
              clear a3 a4 a5 a6 f4 f5 hO hI hy
              have Hz := Lib.hid hz
              clear hz
              go_wp2_with fail
              go_loopw [10] (fun s wr => ∃ f : Nat, f ≤ F ∧ s = .int .i64 f ∧ wr = w3) (fun s _ => F - (intOf s).toNat)
              case atStart => exact ⟨0, Nat.zero_le _, rfl, rfl⟩
              case round =>
                obtain ⟨f, hf, rfl, rfl⟩ := hrel
                obtain ⟨b', o', he, hg0, hg1, hg2, hg3, hg4, hg5⟩ := edt_at hE3 f (by omega)
                injection he with he; injection he with he1 he2; subst he1 he2
                have hfb0 : (0 : Int) ≤ (f : Int) := by omega
                have hfb1 : (f : Int) < (es.length : Int) := by omega
                by_cases hfF : f < F
                · have hne := HF.out f hfF
                  have e0 : ((gx edtRec es f).p != (p : Int)) = true := by simpa using hne
                  clear hne
                  go_wp2_with fail
                  go_roundw
                  case rel => exact ⟨f + 1, by omega, by go_num, trivial⟩
                  case measure => simp [intOf]; omega
                · obtain rfl : f = F := by omega
                  rw [← Hz.out] at hg1
                  have e0 : (z.p != (p : Int)) = false := by rw [f2]; simp
                  have hLL0 : (0 : Int) ≤ (L : Int) := by omega
                  have hLL1 : (L : Int) < (es.length : Int) := by omega
                  clear f2 hg0 hg2 hg3 hg4 hg5
                  have h9 : (sqL es p).length + 1 ≤ 1099511627776 := by omega
                  have hsX := hb3.size
                  rcases spt_cases ⟨z.bx, z.bY⟩ ⟨y.ax, y.aY⟩ with ⟨_, q1, q2, q3, q4⟩ | ⟨_, q1, q2, q3, q4⟩ | ⟨_, q1, q2, q3, q4⟩ | ⟨_, q1, q2, q3, q4⟩
                  · have q1' : (z.bx == y.ax) = true := q1
                    have q2' : (z.bY == y.aY) = true := q2
                    have q3' : (z.bx != y.ax) = false := q3
                    have q4' : (z.bY != y.aY) = false := q4
                    have hs := Lib.hid (sqL_no (es := es) (p := p) (by rw [HI.out]; simp only [q1', q2']; simp))
                    clear q1 q2 q3 q4
                    go_upto_region 19 with fail
                    go_quiet (fail)
                    go_wp2_with fail
                    go_roundw
                    case rel => exact ⟨p + 1, by omega, by go_num, by rw [hs.out]; exact OwnRow.drewN ho3 _, hb3.drewN _⟩
                    case measure => simp [intOf]; omega
                  all_goals
                    have q1' : (z.bx == y.ax) = _ := q1
                    have q2' : (z.bY == y.aY) = _ := q2
                    have q3' : (z.bx != y.ax) = _ := q3
                    have q4' : (z.bY != y.aY) = _ := q4
                    have hs := sqL_yes (es := es) (p := p) (by rw [HI.out]; simp only [q1', q2']; simp)
                    rw [HO.out] at hs
                    have Hs := Lib.hid hs
                    clear q1 q2 q3 q4 hs
                    go_upto_region 19 with fail
                    go_quiet (fail)
                    go_upto_region 20 with fail
                    go_region_law (refine step_app_rec edtRec _ (by rfl) _ _ 24 _ _ Tryz.underlying24 info_edt rfl (by omega) (by rfl) w2.heap.size _ (sqL es p) (by rfl) (OwnRow.drewN (OwnRow.drewN ho3 _) 1) ⟨y.e, (p : Int), z.bx, z.bY, y.ax, y.aY⟩ _ rfl _ _ rfl (by rfl) rfl h9 hsX ?_; intro x1 w5 ho1 hg1)
                    all_goals go_wp2_with fail
                    all_goals go_roundw
                    all_goals (first | exact ⟨p + 1, by omega, by go_num, by rw [Hs.out]; exact ho1, (hb3.drewN _).drew.trans hg1.below⟩ | (simp [intOf]; omega))
          · obtain rfl : p = 12 := by omega
            have ho2 := Lib.hid (OwnRow.lo ho b12.size)
            clear ho
            go_wp2_with fail
            go_ret2
            exact ⟨_, by rw [hr.out]; rfl, by rw [hr.out]; exact ho2.out, b12.next (Nat.le_refl _) hb⟩
end Go.Proofs.YtombnhnhbocceaaGreatDoor
