/- Plain facts for the laws on views: who is shown in a cell, who is hidden, crowded cells; a view that is read is the chart's. No function of the program. -/
import Derived.Test.YtjbffahnbkpcnaaHidden
import Derived.Test.YtjbffahnbkpcnaaCrowd
import Derived.Test.YtjbffahnbkpcnaaViewF
import Derived.Test.YtjbffahnbkpcnaaMirror
import Derived.Test.YtjbffahnbkpcnaaRvP
import Derived.Test.YtjbffahnbkpcnaaRvQ
set_option linter.unusedSimpArgs false
set_option linter.unusedVariables false
namespace Go.Proofs.Ytjbffahnbkpcnaa
open Go.RowKit

/-- Performer i stands in the cell of row r and column c. -/
def inC (fx fy : Int) (C R : Nat) (l : List Spt) (i r c : Nat) : Prop := cellAt fx fy C R (gx sptRec l i).x (gx sptRec l i).y = ((c : Int), (r : Int), true)
theorem inC_fun {fx fy : Int} {C R : Nat} {l : List Spt} {i r c r' c' : Nat} (h : inC fx fy C R l i r c) (h' : inC fx fy C R l i r' c') : r = r' ∧ c = c' := by
  unfold inC at h h'
  rw [h] at h'
  injection h' with e1 e2
  injection e2 with e2 e3
  omega
theorem inC_bd {fx fy : Int} {C R : Nat} {l : List Spt} {i r c : Nat} (h : inC fx fy C R l i r c) : r < R ∧ c < C := by
  have := cellAt_t h
  omega
theorem inC_of {fx fy a b : Int} {C R : Nat} {l : List Spt} {i : Nat} (h : cellAt fx fy C R (gx sptRec l i).x (gx sptRec l i).y = (a, b, true)) : ∃ r c : Nat, a = c ∧ b = r ∧ inC fx fy C R l i r c := by
  have hb := cellAt_t h
  obtain ⟨c, rfl⟩ := Int.eq_ofNat_of_zero_le hb.1
  obtain ⟨r, rfl⟩ := Int.eq_ofNat_of_zero_le hb.2.2.1
  exact ⟨r, c, rfl, rfl, h⟩
theorem inC_no {fx fy a b : Int} {C R : Nat} {l : List Spt} {i r c : Nat} (h : cellAt fx fy C R (gx sptRec l i).x (gx sptRec l i).y = (a, b, false)) : ¬ inC fx fy C R l i r c := by
  intro h2
  unfold inC at h2
  rw [h] at h2
  injection h2 with _ h2
  injection h2 with _ h2
  cases h2
theorem gi_putL (S : List (List Int)) (b a r c : Nat) (x : Int) (hb : b < S.length) (ha : a < (gl S b).length) : gi (gl (putL S b a x) r) c = if r = b ∧ c = a then x else gi (gl S r) c := by
  unfold putL
  rw [gl_set]
  by_cases h : b = r
  · subst h
    rw [if_pos ⟨rfl, hb⟩, gi_setC]
    by_cases h2 : a = c
    · subst h2; rw [if_pos ⟨rfl, ha⟩, if_pos ⟨rfl, rfl⟩]
    · rw [if_neg (fun h9 => h2 h9.1), if_neg (fun h9 => h2 h9.2.symm)]
  · rw [if_neg (fun h9 => h h9.1), if_neg (fun h9 => h h9.1.symm)]
/-- What stands in a cell, behind j performers: the least of them there, or none. -/
def ShwAt (fx fy : Int) (C R : Nat) (l : List Spt) (j r c : Nat) (v : Int) : Prop :=
  (v = -1 ∧ ∀ i, l.length - j ≤ i → i < l.length → ¬ inC fx fy C R l i r c) ∨
  (∃ i : Nat, l.length - j ≤ i ∧ i < l.length ∧ v = (i : Int) ∧ inC fx fy C R l i r c ∧ ∀ k, l.length - j ≤ k → k < i → ¬ inC fx fy C R l k r c)
theorem ShwAt.more {fx fy : Int} {C R : Nat} {l : List Spt} {j r c : Nat} {v : Int} (h : ShwAt fx fy C R l j r c v) (n : Nat) (hj : j + 1 ≤ l.length) (hn : l.length - 1 - j = n) (hnot : ¬ inC fx fy C R l n r c) : ShwAt fx fy C R l (j + 1) r c v := by
  have hno : ∀ i, l.length - (j + 1) ≤ i → i < l.length → i = n ∨ l.length - j ≤ i := by omega
  rcases h with ⟨h1, h2⟩ | ⟨i, h1, h2, h3, h4, h5⟩
  · refine .inl ⟨h1, fun i hi hi2 => ?_⟩
    rcases hno i hi hi2 with h9 | h9
    · rw [h9]; exact hnot
    · exact h2 i h9 hi2
  · refine .inr ⟨i, by omega, h2, h3, h4, fun k hk hk2 => ?_⟩
    rcases hno k hk (by omega) with h9 | h9
    · rw [h9]; exact hnot
    · exact h5 k h9 hk2
theorem shw_at (fx fy : Int) (C R : Nat) (l : List Spt) (j : Nat) (hj : j ≤ l.length) (r c : Nat) (hr : r < R) (hc : c < C) : ShwAt fx fy C R l j r c (gi (gl (shw fx fy C R l j) r) c) := by
  induction j with
  | zero =>
    refine .inl ⟨?_, fun i h1 h2 => by omega⟩
    unfold shw blankL gl gi
    rw [List.getD_eq_getElem?_getD, List.getD_eq_getElem?_getD, List.getElem?_replicate, if_pos hr]
    simp only [Option.getD_some, List.getElem?_replicate]
    rw [if_pos hc]; rfl
  | succ j ih =>
    have ih := ih (by omega)
    obtain ⟨n, hn⟩ : ∃ n, l.length - 1 - j = n := ⟨_, rfl⟩
    have hsh := shw_shape fx fy C R l j
    obtain ⟨a, b, ok, hcl⟩ : ∃ a b ok, cellAt fx fy C R (gx sptRec l n).x (gx sptRec l n).y = (a, b, ok) := ⟨_, _, _, rfl⟩
    cases ok
    · rw [shw_f hn hcl]
      exact ih.more n hj hn (inC_no hcl)
    · obtain ⟨b', a', rfl, rfl, hin⟩ := inC_of hcl
      have hbd := inC_bd hin
      rw [shw_t hn hcl, gi_putL _ _ _ _ _ _ (by rw [hsh.1]; exact hbd.1) (by rw [hsh.2 b' hbd.1]; exact hbd.2)]
      by_cases h : r = b' ∧ c = a'
      · obtain ⟨rfl, rfl⟩ := h
        rw [if_pos ⟨rfl, rfl⟩]
        exact .inr ⟨n, by omega, by omega, rfl, hin, fun k hk hk2 => by omega⟩
      · rw [if_neg h]
        exact ih.more n hj hn (fun hh => h ⟨(inC_fun hh hin).1, (inC_fun hh hin).2⟩)
/-- The chart's own cells. -/
abbrev shF (fx fy : Int) (C R : Nat) (l : List Spt) : List (List Int) := shw fx fy C R l l.length
theorem shF_at {fx fy : Int} {C R : Nat} {l : List Spt} {r c : Nat} (hr : r < R) (hc : c < C) :
    (gi (gl (shF fx fy C R l) r) c = -1 ∧ ∀ i, i < l.length → ¬ inC fx fy C R l i r c) ∨
    (∃ i : Nat, i < l.length ∧ gi (gl (shF fx fy C R l) r) c = (i : Int) ∧ inC fx fy C R l i r c ∧ ∀ k, k < i → ¬ inC fx fy C R l k r c) := by
  rcases shw_at fx fy C R l l.length (Nat.le_refl _) r c hr hc with ⟨h1, h2⟩ | ⟨i, h1, h2, h3, h4, h5⟩
  · exact .inl ⟨h1, fun i hi => h2 i (by omega) hi⟩
  · exact .inr ⟨i, h2, h3, h4, fun k hk => h5 k (by omega) hk⟩
/-- Not hidden: shown in the cell. -/
theorem hid_f {fx fy : Int} {C R : Nat} {l : List Spt} {i : Nat} : hidB fx fy C R l (shF fx fy C R l) i = false ↔ ∃ r c, inC fx fy C R l i r c ∧ gi (gl (shF fx fy C R l) r) c = (i : Int) := by
  obtain ⟨a, b, ok, hcl⟩ : ∃ a b ok, cellAt fx fy C R (gx sptRec l i).x (gx sptRec l i).y = (a, b, ok) := ⟨_, _, _, rfl⟩
  cases ok
  · rw [hidB_no hcl]
    constructor
    · intro h; cases h
    · rintro ⟨r, c, h, _⟩; exact absurd h (inC_no hcl)
  · obtain ⟨r, c, rfl, rfl, hin⟩ := inC_of hcl
    rw [hidB_in hcl]
    constructor
    · intro h; exact ⟨r, c, hin, by simpa using h⟩
    · rintro ⟨r', c', h, h2⟩
      obtain ⟨rfl, rfl⟩ := inC_fun hin h
      simpa using h2
theorem hid_first {fx fy : Int} {C R : Nat} {l : List Spt} {i : Nat} (hi : i < l.length) : hidB fx fy C R l (shF fx fy C R l) i = false ↔ ∃ r c, inC fx fy C R l i r c ∧ ∀ k, k < i → ¬ inC fx fy C R l k r c := by
  rw [hid_f]
  constructor
  · rintro ⟨r, c, h1, h2⟩
    have hb := inC_bd h1
    rcases shF_at (fx := fx) (fy := fy) (l := l) hb.1 hb.2 with ⟨h3, h4⟩ | ⟨j, h3, h4, h5, h6⟩
    · exact absurd h1 (h4 i hi)
    · rw [h2] at h4
      obtain rfl : i = j := by omega
      exact ⟨r, c, h1, h6⟩
  · rintro ⟨r, c, h1, h2⟩
    have hb := inC_bd h1
    rcases shF_at (fx := fx) (fy := fy) (l := l) hb.1 hb.2 with ⟨h3, h4⟩ | ⟨j, h3, h4, h5, h6⟩
    · exact absurd h1 (h4 i hi)
    · rcases Nat.lt_trichotomy i j with h9 | h9 | h9
      · exact absurd h1 (h6 i h9)
      · subst h9; exact ⟨r, c, h1, h4⟩
      · exact absurd h5 (h2 j h9)
theorem hdn_nil {fx fy : Int} {C R : Nat} {l : List Spt} {S : List (List Int)} (n : Nat) : hdn fx fy C R l S n = [] ↔ ∀ i, i < n → hidB fx fy C R l S i = false := by
  induction n with
  | zero => exact ⟨fun _ i h => by omega, fun _ => rfl⟩
  | succ n ih =>
    cases h : hidB fx fy C R l S n
    · rw [hdn_f h, ih]
      constructor
      · intro h1 i hi
        rcases Nat.lt_or_ge i n with h9 | h9
        · exact h1 i h9
        · obtain rfl : i = n := by omega
          exact h
      · intro h1 i hi; exact h1 i (by omega)
    · rw [hdn_t h]
      constructor
      · intro h1; simp at h1
      · intro h1; rw [h1 n (by omega)] at h; cases h
/-! ### Crowded cells of a frame that fits -/
def idx (C r c : Nat) : Nat := r * C + c
theorem idx_inj {C r c r' c' : Nat} (h : c < C) (h' : c' < C) (e : r * C + c = r' * C + c') : r = r' ∧ c = c' := by
  have h1 : (r * C + c) / C = r := by
    rw [Nat.mul_comm, Nat.mul_add_div (by omega), Nat.div_eq_of_lt h]; omega
  have h2 : (r' * C + c') / C = r' := by
    rw [Nat.mul_comm, Nat.mul_add_div (by omega), Nat.div_eq_of_lt h']; omega
  have : r = r' := by rw [← h1, ← h2, e]
  subst this
  exact ⟨rfl, by omega⟩
/-- What the counts say of a cell. -/
def CntAt (fx fy : Int) (C R : Nat) (l : List Spt) (k j : Nat) (v : Int) : Prop :=
  (v = 0 ∧ ∀ i r c, i < k → inC fx fy C R l i r c → r * C + c ≠ j) ∨
  (v = 1 ∧ (∃ i r c, i < k ∧ inC fx fy C R l i r c ∧ r * C + c = j) ∧ ∀ i i' r c r' c', i < k → i' < k → inC fx fy C R l i r c → r * C + c = j → inC fx fy C R l i' r' c' → r' * C + c' = j → i = i') ∨
  (2 ≤ v ∧ ∃ i i' r c, i < i' ∧ i' < k ∧ inC fx fy C R l i r c ∧ inC fx fy C R l i' r c ∧ r * C + c = j)
theorem CntAt.off {fx fy : Int} {C R : Nat} {l : List Spt} {k j : Nat} {v : Int} (h : CntAt fx fy C R l k j v) (hno : ∀ r c, inC fx fy C R l k r c → r * C + c ≠ j) : CntAt fx fy C R l (k + 1) j v := by
  have hlt : ∀ i r c, i < k + 1 → inC fx fy C R l i r c → r * C + c = j → i < k := by
    intro i r c hi h1 h2
    rcases Nat.lt_or_ge i k with h9 | h9
    · exact h9
    · obtain rfl : i = k := by omega
      exact absurd h2 (hno r c h1)
  rcases h with ⟨h1, h2⟩ | ⟨h1, ⟨i, r, c, h2, h3, h4⟩, h5⟩ | ⟨h1, i, i', r, c, h2, h3, h4, h5, h6⟩
  · exact .inl ⟨h1, fun i r c hi hh e => h2 i r c (hlt i r c hi hh e) hh e⟩
  · exact .inr (.inl ⟨h1, ⟨i, r, c, by omega, h3, h4⟩, fun i i' r c r' c' a1 a2 a3 a4 a5 a6 => h5 i i' r c r' c' (hlt i r c a1 a3 a4) (hlt i' r' c' a2 a5 a6) a3 a4 a5 a6⟩)
  · exact .inr (.inr ⟨h1, i, i', r, c, h2, by omega, h4, h5, h6⟩)
theorem cnt_at (fx fy : Int) (C R : Nat) (l : List Spt) (k j : Nat) (hj : j < R * C) : CntAt fx fy C R l k j (gi (cntSt fx fy C R l k) j) := by
  induction k with
  | zero =>
    refine .inl ⟨?_, fun i r c h => by omega⟩
    unfold cntSt gi
    rw [List.getD_eq_getElem?_getD, List.getElem?_replicate, if_pos hj]; rfl
  | succ k ih =>
    obtain ⟨a, b, ok, hcl⟩ : ∃ a b ok, cellAt fx fy C R (gx sptRec l k).x (gx sptRec l k).y = (a, b, ok) := ⟨_, _, _, rfl⟩
    cases ok
    · rw [cntSt_f hcl]
      exact ih.off fun r c h => absurd h (inC_no hcl)
    · obtain ⟨r, c, rfl, rfl, hin⟩ := inC_of hcl
      have hbd := inC_bd hin
      rw [cntSt_t hcl, gi_setC]
      by_cases he : r * C + c = j
      · rw [if_pos ⟨he, by rw [cntSt_len, he]; exact hj⟩, he]
        have hsame : ∀ i r' c', inC fx fy C R l i r' c' → r' * C + c' = j → r' = r ∧ c' = c := by
          intro i r' c' h1 h2
          exact idx_inj (inC_bd h1).2 hbd.2 (by omega)
        rcases ih with ⟨h1, h2⟩ | ⟨h1, ⟨i, r', c', h2, h3, h4⟩, h5⟩ | ⟨h1, i, i', r', c', h2, h3, h4, h5, h6⟩
        · refine .inr (.inl ⟨by omega, ⟨k, r, c, by omega, hin, he⟩, ?_⟩)
          intro i i' r1 c1 r2 c2 a1 a2 a3 a4 a5 a6
          have e1 : i = k := by
            rcases Nat.lt_or_ge i k with h9 | h9
            · exact absurd a4 (h2 i r1 c1 h9 a3)
            · omega
          have e2 : i' = k := by
            rcases Nat.lt_or_ge i' k with h9 | h9
            · exact absurd a6 (h2 i' r2 c2 h9 a5)
            · omega
          omega
        · obtain ⟨e1, e2⟩ := hsame i r' c' h3 h4
          rw [e1, e2] at h3
          exact .inr (.inr ⟨by omega, i, k, r, c, h2, by omega, h3, hin, he⟩)
        · exact .inr (.inr ⟨by omega, i, i', r', c', h2, by omega, h4, h5, h6⟩)
      · rw [if_neg (fun h9 => he h9.1)]
        refine ih.off fun r' c' h e => he ?_
        obtain ⟨rfl, rfl⟩ := inC_fun hin h
        exact e
theorem crow_nil {C : Nat} {s : List Int} (n : Nat) : crow C s n = [] ↔ ∀ j, j < n → gi s j ≤ 1 := by
  induction n with
  | zero => exact ⟨fun _ i h => by omega, fun _ => rfl⟩
  | succ n ih =>
    by_cases h : 1 < gi s n
    · rw [crow_t (decide_eq_true h)]
      constructor
      · intro h1; simp at h1
      · intro h1; have := h1 n (by omega); omega
    · rw [crow_f (decide_eq_false h), ih]
      constructor
      · intro h1 i hi
        rcases Nat.lt_or_ge i n with h9 | h9
        · exact h1 i h9
        · obtain rfl : i = n := by omega
          omega
      · intro h1 i hi; exact h1 i (by omega)
/-- Where all are inside: none is crowded if and only if none is hidden. -/
theorem crowd_hid {fx fy : Int} {C R : Nat} {l : List Spt} (hall : ∀ i, i < l.length → ∃ r c, inC fx fy C R l i r c) :
    crow C (cntSt fx fy C R l l.length) (R * C) = [] ↔ hdn fx fy C R l (shF fx fy C R l) l.length = [] := by
  rw [crow_nil, hdn_nil]
  constructor
  · intro h i hi
    rw [hid_first hi]
    obtain ⟨r, c, hin⟩ := hall i hi
    refine ⟨r, c, hin, fun k hk hk2 => ?_⟩
    have hbd := inC_bd hin
    have hx := idx_lt hbd.2 hbd.1
    have h1 := h (r * C + c) hx
    rcases cnt_at fx fy C R l l.length (r * C + c) hx with ⟨_, h2⟩ | ⟨_, _, h3⟩ | ⟨h4, _⟩
    · exact absurd rfl (h2 i r c hi hin)
    · have := h3 i k r c r c hi (by omega) hin rfl hk2 rfl
      omega
    · omega
  · intro h j hj
    rcases cnt_at fx fy C R l l.length j hj with ⟨h1, _⟩ | ⟨h1, _⟩ | ⟨h1, i, i', r, c, h2, h3, h4, h5, h6⟩
    · omega
    · omega
    · have h7 := h i' h3
      rw [hid_first h3] at h7
      obtain ⟨r', c', h8, h9⟩ := h7
      obtain ⟨rfl, rfl⟩ := inC_fun h5 h8
      exact absurd h4 (h9 i h2)
/-! ### A view that is read -/
/-- The position (k', c') comes before (k, c). -/
def Bef (k c k' c' : Nat) : Prop := k' < k ∨ (k' = k ∧ c' < c)
def RvInv (fx fy : Int) (R : Nat) (L : List ByteArray) (k c : Nat) (st : List Int × List Spt) : Prop :=
  St26 st ∧ ∀ i, i < 26 →
    ((gi st.1 i = 0 ∧ ∀ k' c', Bef k c k' c' → c' < (gx strRec L k').size → bt (gx strRec L k') c' ≠ 65 + i) ∨
    (gi st.1 i = 1 ∧ ∃ k0 c0, Bef k c k0 c0 ∧ c0 < (gx strRec L k0).size ∧ bt (gx strRec L k0) c0 = 65 + i ∧ gx sptRec st.2 i = ⟨fx + 8 * (c0 : Int), fy + 8 * ((R : Int) - 1 - (k0 : Int))⟩ ∧
      ∀ k' c', Bef k c k' c' → c' < (gx strRec L k').size → bt (gx strRec L k') c' = 65 + i → k' = k0 ∧ c' = c0) ∨
    2 ≤ gi st.1 i)
theorem gx_set9 (l : List Spt) (i j : Nat) (a : Spt) (hj : j < l.length) : gx sptRec (l.set i a) j = if i = j then a else gx sptRec l j := by
  rw [gx_eq (by rw [List.length_set]; exact hj), gx_eq hj, List.getElem_set]
theorem RvInv.row {fx fy : Int} {R : Nat} {L : List ByteArray} {k c : Nat} {st : List Int × List Spt} (h : RvInv fx fy R L k c (rvRow fx fy R (gx strRec L k) k st c)) (hc : c < (gx strRec L k).size) (hok : okC (bt (gx strRec L k) c) = true) :
    RvInv fx fy R L k (c + 1) (rvRow fx fy R (gx strRec L k) k st (c + 1)) := by
  obtain ⟨h26, hi26⟩ := h
  have hb : ∀ k' c', Bef k (c + 1) k' c' → Bef k c k' c' ∨ (k' = k ∧ c' = c) := by
    intro k' c' hh; unfold Bef at hh ⊢; omega
  have hb2 : ∀ k' c', Bef k c k' c' → Bef k (c + 1) k' c' := by
    intro k' c' hh; unfold Bef at hh ⊢; omega
  have hself : Bef k (c + 1) k c := by unfold Bef; omega
  have hnot : ¬ Bef k c k c := by unfold Bef; omega
  by_cases hd : bt (gx strRec L k) c = 46
  · rw [rvRow_dot hd]
    refine ⟨h26, fun i hi => ?_⟩
    rcases hi26 i hi with ⟨h1, h2⟩ | ⟨h1, k0, c0, h2, h3, h4, h5, h6⟩ | h1
    · refine .inl ⟨h1, fun k' c' hh hs => ?_⟩
      rcases hb k' c' hh with h9 | ⟨rfl, rfl⟩
      · exact h2 k' c' h9 hs
      · omega
    · refine .inr (.inl ⟨h1, k0, c0, hb2 _ _ h2, h3, h4, h5, fun k' c' hh hs he => ?_⟩)
      rcases hb k' c' hh with h9 | ⟨rfl, rfl⟩
      · exact h6 k' c' h9 hs he
      · omega
    · exact .inr (.inr h1)
  · rw [rvRow_put hd]
    obtain ⟨i1, hi1⟩ : ∃ i1, bt (gx strRec L k) c = 65 + i1 ∧ i1 < 26 := by
      unfold okC at hok
      simp at hok
      exact ⟨bt (gx strRec L k) c - 65, by omega, by omega⟩
    obtain ⟨hi1, hi1b⟩ := hi1
    rw [show bt (gx strRec L k) c - 65 = i1 by omega]
    refine ⟨rvPut_26 h26 _ _, fun i hi => ?_⟩
    rw [gi_put (by rw [h26.1]; exact hi)]
    have hg2 : gx sptRec (rvPut (rvRow fx fy R (gx strRec L k) k st c) i1 ⟨fx + 8 * (c : Int), fy + 8 * ((R : Int) - 1 - (k : Int))⟩).2 i = if i1 = i then ⟨fx + 8 * (c : Int), fy + 8 * ((R : Int) - 1 - (k : Int))⟩ else gx sptRec (rvRow fx fy R (gx strRec L k) k st c).2 i :=
      gx_set9 _ _ _ _ (by rw [h26.2]; exact hi)
    rw [hg2]
    by_cases e : i1 = i
    · subst e
      rw [if_pos rfl, if_pos rfl]
      rcases hi26 i1 hi with ⟨h1, h2⟩ | ⟨h1, k0, c0, h2, h3, h4, h5, h6⟩ | h1
      · refine .inr (.inl ⟨by omega, k, c, hself, hc, hi1, rfl, fun k' c' hh hs he => ?_⟩)
        rcases hb k' c' hh with h9 | h9
        · exact absurd he (h2 k' c' h9 hs)
        · exact h9
      · exact .inr (.inr (by omega))
      · exact .inr (.inr (by omega))
    · rw [if_neg e, if_neg e]
      rcases hi26 i hi with ⟨h1, h2⟩ | ⟨h1, k0, c0, h2, h3, h4, h5, h6⟩ | h1
      · refine .inl ⟨h1, fun k' c' hh hs => ?_⟩
        rcases hb k' c' hh with h9 | ⟨rfl, rfl⟩
        · exact h2 k' c' h9 hs
        · omega
      · refine .inr (.inl ⟨h1, k0, c0, hb2 _ _ h2, h3, h4, h5, fun k' c' hh hs he => ?_⟩)
        rcases hb k' c' hh with h9 | ⟨rfl, rfl⟩
        · exact h6 k' c' h9 hs he
        · omega
      · exact .inr (.inr h1)
theorem RvInv.same {fx fy : Int} {R : Nat} {L : List ByteArray} {k c k2 c2 : Nat} {st : List Int × List Spt} (h : RvInv fx fy R L k c st) (hb : ∀ k' c', c' < (gx strRec L k').size → (Bef k c k' c' ↔ Bef k2 c2 k' c')) : RvInv fx fy R L k2 c2 st := by
  refine ⟨h.1, fun i hi => ?_⟩
  rcases h.2 i hi with ⟨h1, h2⟩ | ⟨h1, k0, c0, h2, h3, h4, h5, h6⟩ | h1
  · exact .inl ⟨h1, fun k' c' hh hs => h2 k' c' ((hb k' c' hs).2 hh) hs⟩
  · exact .inr (.inl ⟨h1, k0, c0, (hb k0 c0 h3).1 h2, h3, h4, h5, fun k' c' hh hs he => h6 k' c' ((hb k' c' hs).2 hh) hs he⟩)
  · exact .inr (.inr h1)
theorem RvInv.rows {fx fy : Int} {R : Nat} {L : List ByteArray} {k : Nat} {st : List Int × List Spt} (h : RvInv fx fy R L k 0 st) (hok : ∀ c, c < (gx strRec L k).size → okC (bt (gx strRec L k) c) = true) (c : Nat) (hc : c ≤ (gx strRec L k).size) :
    RvInv fx fy R L k c (rvRow fx fy R (gx strRec L k) k st c) := by
  induction c with
  | zero => exact h
  | succ c ih => exact (ih (by omega)).row (by omega) (hok c (by omega))
theorem rv_inv {fx fy : Int} {R : Nat} {L : List ByteArray} (hok : ∀ k c, k < L.length → c < (gx strRec L k).size → okC (bt (gx strRec L k) c) = true) (k : Nat) (hk : k ≤ L.length) : RvInv fx fy R L k 0 (rvAll fx fy R L k) := by
  induction k with
  | zero =>
    refine ⟨rvAll_26 fx fy R L 0, fun i hi => .inl ⟨?_, fun k' c' hh => by unfold Bef at hh; omega⟩⟩
    show gi (List.replicate 26 0) i = 0
    unfold gi; rw [List.getD_eq_getElem?_getD, List.getElem?_replicate, if_pos hi]; rfl
  | succ k ih =>
    have h1 := (ih (by omega)).rows (fun c hc => hok k c (by omega) hc) (gx strRec L k).size (Nat.le_refl _)
    refine RvInv.same h1 fun k' c' hs => ?_
    unfold Bef
    constructor
    · intro hh; omega
    · intro hh
      rcases Nat.lt_or_ge k' k with h9 | h9
      · exact .inl h9
      · have e : k' = k := by omega
        subst e
        exact .inr ⟨rfl, hs⟩
theorem okS_all {s : ByteArray} (h : okS s = true) (c : Nat) (hc : c < s.size) : okC (bt s c) = true := by
  unfold okS at h
  rw [List.all_eq_true] at h
  exact h c (List.mem_range.2 hc)
theorem isVw_all {L : List ByteArray} (h : isVw L = true) (k : Nat) (hk : k < L.length) : (gx strRec L k).size = (gx strRec L 0).size ∧ ∀ c, c < (gx strRec L k).size → okC (bt (gx strRec L k) c) = true := by
  have h1 := lnOk_t ((isVw_t h).2.2.2.2 k hk)
  exact ⟨h1.1, fun c hc => okS_all h1.2 c hc⟩
theorem restZero_t {F : List Int} (h : restZero F = true) : ∀ i, ones F ≤ i → i < F.length → gi F i = 0 := by
  intro i hi hl
  rcases Int.decEq (gi F i) 0 with h9 | h9
  · rw [restZero_no hl hi h9] at h; cases h
  · exact h9
/-- What is read: each letter's place. -/
theorem rRV_t {fx fy fc fr : Int} {L : List ByteArray} (h : (rRV fx fy fc fr L).2 = true) : ∃ (C R : Nat) (l : List Spt), fc = C ∧ fr = R ∧ rRV fx fy fc fr L = (l, true) ∧ isFrm fx fy fc fr = true ∧ isVw L = true ∧ L.length = R ∧ (∀ k, k < R → (gx strRec L k).size = C) ∧ isChart l = true ∧
    (∀ i, i < l.length → ∃ k0 c0, k0 < R ∧ c0 < C ∧ bt (gx strRec L k0) c0 = 65 + i ∧ gx sptRec l i = ⟨fx + 8 * (c0 : Int), fy + 8 * ((R : Int) - 1 - (k0 : Int))⟩) ∧
    (∀ k c, k < R → c < C → bt (gx strRec L k) c ≠ 46 → ∃ i, i < l.length ∧ bt (gx strRec L k) c = 65 + i ∧ gx sptRec l i = ⟨fx + 8 * (c : Int), fy + 8 * ((R : Int) - 1 - (k : Int))⟩) := by
  unfold rRV at h ⊢
  split at h
  · rename_i hask
    rw [if_pos hask]
    unfold rvAsk at hask
    simp only [Bool.and_eq_true, decide_eq_true_eq] at hask
    obtain ⟨⟨⟨hf, hv⟩, hr⟩, hc⟩ := hask
    refine ⟨(gx strRec L 0).size, L.length, ?_⟩
    have hall := isVw_all hv
    have inv := rv_inv (fx := fx) (fy := fy) (R := L.length) (fun k c hk hc => (hall k hk).2 c hc) L.length (Nat.le_refl _)
    generalize rvAll fx fy L.length L L.length = st at h inv ⊢
    obtain ⟨⟨h26, h26'⟩, inv⟩ := inv
    unfold rvRes at h ⊢
    split at h
    · rename_i hz
      rw [if_pos hz]
      unfold chartR at h ⊢
      split at h
      · rename_i hch
        rw [if_pos hch]
        have hz1 := restZero_t hz
        have hon := ones_at st.1
        have hol := ones_le st.1
        have hlen : (st.2.take (ones st.1)).length = ones st.1 := by rw [List.length_take]; omega
        refine ⟨_, hc.symm, hr.symm, rfl, hf, hv, rfl, fun k hk => (hall k hk).1, hch, ?_, ?_⟩
        · intro i hi
          rw [hlen] at hi
          have hgx : gx sptRec (st.2.take (ones st.1)) i = gx sptRec st.2 i := by
            rw [gx_eq (by rw [hlen]; exact hi), gx_eq (by omega), List.getElem_take]
          rw [hgx]
          have h1 := hon i hi
          rcases inv i (by omega) with ⟨h2, _⟩ | ⟨h2, k0, c0, h3, h4, h5, h6, _⟩ | h2
          · omega
          · have hk0 : k0 < L.length := by unfold Bef at h3; omega
            exact ⟨k0, c0, hk0, by rw [← (hall k0 hk0).1]; exact h4, h5, h6⟩
          · omega
        · intro k c hk hc2 hd
          have hs := (hall k hk).1
          have hok := (hall k hk).2 c (by omega)
          obtain ⟨i, hi, hib⟩ : ∃ i, bt (gx strRec L k) c = 65 + i ∧ i < 26 := by
            unfold okC at hok
            simp at hok
            exact ⟨bt (gx strRec L k) c - 65, by omega, by omega⟩
          have hbef : Bef L.length 0 k c := .inl hk
          have hin : i < ones st.1 := by
            rcases Nat.lt_or_ge i (ones st.1) with h9 | h9
            · exact h9
            · have h0 := hz1 i h9 (by omega)
              rcases inv i hib with ⟨h2, h3⟩ | ⟨h2, _⟩ | h2
              · exact absurd hi (h3 k c hbef (by omega))
              · omega
              · omega
          refine ⟨i, by rw [hlen]; exact hin, hi, ?_⟩
          have hgx : gx sptRec (st.2.take (ones st.1)) i = gx sptRec st.2 i := by
            rw [gx_eq (by rw [hlen]; exact hin), gx_eq (by omega), List.getElem_take]
          rw [hgx]
          have h1 := hon i hin
          rcases inv i hib with ⟨h2, _⟩ | ⟨h2, k0, c0, h3, h4, h5, h6, h7⟩ | h2
          · omega
          · obtain ⟨rfl, rfl⟩ := h7 k c hbef (by omega) hi
            exact h6
          · omega
      · cases h
    · cases h
  · cases h
theorem gi_ext9 {l m : List Int} (hl : l.length = m.length) (h : ∀ i, i < l.length → gi l i = gi m i) : l = m := by
  apply List.ext_getElem hl
  intro i h1 h2
  have := h i h1
  rwa [gi_eq h1, gi_eq h2] at this
theorem gx_vwL {S : List (List Int)} {R k : Nat} (h : k < R) : gx strRec (vwL S R R) k = lineS (gl S (R - 1 - k)) := by
  rw [gx_eq (by rw [vwL_len]; exact h)]
  simp [vwL]
theorem gi_map_chS (l : List Int) (i : Nat) (h : i < l.length) : gi (l.map chS) i = chS (gi l i) := by
  rw [gi_eq (by simpa using h), gi_eq h, List.getElem_map]
theorem strs_ext {L M : List ByteArray} (hl : L.length = M.length) (h : ∀ i, i < L.length → gx strRec L i = gx strRec M i) : L = M := by
  apply List.ext_getElem hl
  intro i h1 h2
  have := h i h1
  rwa [gx_eq h1, gx_eq h2] at this
theorem rv_cell {fx fy : Int} {C R : Nat} {l : List Spt} {i k0 c0 : Nat} (hk : k0 < R) (hc : c0 < C) (h : gx sptRec l i = ⟨fx + 8 * (c0 : Int), fy + 8 * ((R : Int) - 1 - (k0 : Int))⟩) : inC fx fy C R l i (R - 1 - k0) c0 := by
  unfold inC
  rw [h]
  show cellAt fx fy C R (fx + 8 * (c0 : Int)) (fy + 8 * ((R : Int) - 1 - (k0 : Int))) = _
  have e1 : (fx + 8 * (c0 : Int) - fx) / 8 = c0 := by omega
  have e2 : (fy + 8 * ((R : Int) - 1 - (k0 : Int)) - fy) / 8 = ((R - 1 - k0 : Nat) : Int) := by omega
  unfold cellAt
  rw [e1, e2, inR_t.2 (by omega), inR_t.2 (by omega)]
  rfl
/-- A chart that was read is shown like this, and none is hidden. -/
theorem read_back {fx fy fc fr : Int} {L : List ByteArray} (h : (rRV fx fy fc fr L).2 = true) : ∃ l, rRV fx fy fc fr L = (l, true) ∧ isChart l = true ∧ rView fx fy fc fr l = (L, true) ∧ rHidden fx fy fc fr l = ([], true) := by
  obtain ⟨C, R, l, rfl, rfl, h1, hf, hv, hL, hs, hch, ha, hb⟩ := rRV_t h
  have hask : isAsk fx fy C R l = true := by unfold isAsk; rw [hf, hch]; rfl
  have hin : ∀ i, i < l.length → ∃ k0 c0, k0 < R ∧ c0 < C ∧ bt (gx strRec L k0) c0 = 65 + i ∧ inC fx fy C R l i (R - 1 - k0) c0 := by
    intro i hi
    obtain ⟨k0, c0, h2, h3, h4, h5⟩ := ha i hi
    exact ⟨k0, c0, h2, h3, h4, rv_cell h2 h3 h5⟩
  have hun : ∀ i k c, i < l.length → k < R → c < C → inC fx fy C R l i (R - 1 - k) c → bt (gx strRec L k) c = 65 + i := by
    intro i k c hi hk hc hh
    obtain ⟨k0, c0, h2, h3, h4, h5⟩ := hin i hi
    obtain ⟨e1, e2⟩ := inC_fun hh h5
    obtain rfl : k = k0 := by omega
    subst e2
    exact h4
  refine ⟨l, h1, hch, ?_, ?_⟩
  · unfold rView
    rw [if_pos hask]
    congr 1
    show vwL (shF fx fy C R l) R R = L
    refine strs_ext (by rw [vwL_len, hL]) fun k hk => ?_
    rw [vwL_len] at hk
    rw [gx_vwL hk]
    have hrow := (shw_shape fx fy C R l l.length).2 (R - 1 - k) (by omega)
    rw [← strOfNums_byts (gx strRec L k)]
    unfold lineS
    congr 1
    refine gi_ext9 (by rw [List.length_map, byts_len, hs k hk]; exact hrow) fun c hc => ?_
    rw [List.length_map] at hc
    rw [gi_map_chS _ _ hc]
    have hc2 : c < C := by rw [← hrow]; exact hc
    rw [gi_byts (by rw [hs k hk]; exact hc2)]
    rcases shF_at (fx := fx) (fy := fy) (l := l) (show R - 1 - k < R by omega) hc2 with ⟨h2, h3⟩ | ⟨i, h2, h3, h4, h5⟩
    · have e : gi (gl (shw fx fy C R l l.length) (R - 1 - k)) c = -1 := h2
      rw [e]
      by_cases hd : bt (gx strRec L k) c = 46
      · rw [hd]; rfl
      · obtain ⟨i, h6, h7, h8⟩ := hb k c hk hc2 hd
        exact absurd (rv_cell hk hc2 h8) (h3 i h6)
    · have e : gi (gl (shw fx fy C R l l.length) (R - 1 - k)) c = (i : Int) := h3
      rw [e, hun i k c h2 hk hc2 h4]
      unfold chS
      rw [if_neg (by omega)]
      omega
  · rw [rHidden_yes hask]
    congr 1
    show hdn fx fy C R l (shF fx fy C R l) l.length = []
    rw [hdn_nil]
    intro i hi
    rw [hid_first hi]
    obtain ⟨k0, c0, h2, h3, h4, h5⟩ := hin i hi
    refine ⟨_, _, h5, fun k hk hh => ?_⟩
    have := hun k k0 c0 (by omega) h2 h3 hh
    omega
end Go.Proofs.Ytjbffahnbkpcnaa
