/- Plain facts for the law on views: shown and hidden ones are all, a shown one stands in its cell, a view mirrored twice. No function of the program. -/
import Derived.Test.YtjbffahnbkpcnaaVwP
import Derived.Test.YtjbffahnbkpcnaaViewT
import Derived.Test.YtjbffahnbkpcnaaPSame
set_option linter.unusedSimpArgs false
set_option linter.unusedVariables false
namespace Go.Proofs.Ytjbffahnbkpcnaa
open Go.RowKit

/-! ### Sums -/
def sumN (f : Nat → Int) : Nat → Int
  | 0 => 0
  | n + 1 => sumN f n + f n
theorem sumN_congr {f g : Nat → Int} (n : Nat) (h : ∀ i, i < n → f i = g i) : sumN f n = sumN g n := by
  induction n with
  | zero => rfl
  | succ n ih => unfold sumN; rw [ih fun i hi => h i (by omega), h n (by omega)]
theorem sumN_add (f g : Nat → Int) (n : Nat) : sumN (fun i => f i + g i) n = sumN f n + sumN g n := by
  induction n with
  | zero => rfl
  | succ n ih => unfold sumN; rw [ih]; omega
theorem sumN_left (f : Nat → Int) (n : Nat) : sumN f (n + 1) = f 0 + sumN (fun i => f (i + 1)) n := by
  induction n with
  | zero => show 0 + f 0 = f 0 + 0; omega
  | succ n ih =>
    have e : sumN f (n + 1 + 1) = sumN f (n + 1) + f (n + 1) := rfl
    rw [e, ih]
    show f 0 + sumN (fun i => f (i + 1)) n + f (n + 1) = f 0 + (sumN (fun i => f (i + 1)) n + f (n + 1))
    omega
theorem sumN_rev (f : Nat → Int) (n : Nat) : sumN (fun k => f (n - 1 - k)) n = sumN f n := by
  induction n generalizing f with
  | zero => rfl
  | succ n ih =>
    rw [sumN_left]
    have e : sumN (fun i => f (n + 1 - 1 - (i + 1))) n = sumN (fun k => f (n - 1 - k)) n := sumN_congr n fun i hi => by congr 1; omega
    rw [e, ih]
    show f (n + 1 - 1 - 0) + sumN f n = sumN f n + f n
    rw [show n + 1 - 1 - 0 = n by omega]; omega
theorem sumN_one (a : Nat) (x : Int) (n : Nat) : sumN (fun i => if i = a then x else 0) n = if a < n then x else 0 := by
  induction n with
  | zero => rw [if_neg (by omega)]; rfl
  | succ n ih =>
    show sumN _ n + (if n = a then x else 0) = _
    rw [ih]
    by_cases h : n = a
    · rw [if_pos h, if_neg (by omega), if_pos (by omega)]; omega
    · rw [if_neg h]
      by_cases h2 : a < n
      · rw [if_pos h2, if_pos (by omega)]; omega
      · rw [if_neg h2, if_neg (by omega)]; omega
theorem sumN_zero (n : Nat) : sumN (fun _ => 0) n = 0 := by
  induction n with
  | zero => rfl
  | succ n ih => show sumN _ n + 0 = 0; rw [ih]; rfl
/-- A sum over all cells. -/
def cells (S : List (List Int)) (C R : Nat) (P : Int → Int) : Int := sumN (fun r => sumN (fun c => P (gi (gl S r) c)) C) R
theorem cells_add (S : List (List Int)) (C R : Nat) (P Q : Int → Int) : cells S C R (fun v => P v + Q v) = cells S C R P + cells S C R Q := by
  unfold cells
  rw [← sumN_add]
  exact sumN_congr R fun r _ => sumN_add _ _ C
theorem cells_congr {S : List (List Int)} {C R : Nat} {P Q : Int → Int} (h : ∀ r c, r < R → c < C → P (gi (gl S r) c) = Q (gi (gl S r) c)) : cells S C R P = cells S C R Q := by
  unfold cells
  exact sumN_congr R fun r hr => sumN_congr C fun c hc => h r c hr hc
/-! ### How many are shown -/
/-- How many of the first bytes are no dots. -/
def nd (s : ByteArray) : Nat → Int
  | 0 => 0
  | m + 1 => nd s m + if bt s m = 46 then 0 else 1
theorem nd_dot {s : ByteArray} {m : Nat} (h : bt s m = 46) : nd s (m + 1) = nd s m := by show nd s m + _ = _; rw [if_pos h]; omega
theorem nd_no {s : ByteArray} {m : Nat} (h : bt s m ≠ 46) : nd s (m + 1) = nd s m + 1 := by show nd s m + _ = _; rw [if_neg h]
theorem nd_bd (s : ByteArray) (m : Nat) : 0 ≤ nd s m ∧ nd s m ≤ m := by
  induction m with
  | zero => exact ⟨Int.le_refl _, Int.le_refl _⟩
  | succ m ih => show 0 ≤ nd s m + _ ∧ nd s m + _ ≤ _; split <;> omega
theorem nd_sum (s : ByteArray) (m : Nat) : nd s m = sumN (fun c => if bt s c = 46 then 0 else 1) m := by
  induction m with
  | zero => rfl
  | succ m ih => show nd s m + _ = sumN _ m + _; rw [ih]
def ndL (L : List ByteArray) : Nat → Int
  | 0 => 0
  | k + 1 => ndL L k + nd (gx strRec L k) (gx strRec L k).size
theorem ndL_succ (L : List ByteArray) (k : Nat) : ndL L (k + 1) = ndL L k + nd (gx strRec L k) (gx strRec L k).size := rfl
theorem ndL_sum (L : List ByteArray) (k : Nat) : ndL L k = sumN (fun j => nd (gx strRec L j) (gx strRec L j).size) k := by
  induction k with
  | zero => rfl
  | succ k ih => show ndL L k + _ = sumN _ k + _; rw [ih]
theorem ndL_bd {L : List ByteArray} (hs : ∀ k, k < L.length → (gx strRec L k).size ≤ 60) (k : Nat) (hk : k ≤ L.length) : 0 ≤ ndL L k ∧ ndL L k ≤ 60 * k := by
  induction k with
  | zero => exact ⟨Int.le_refl _, Int.le_refl _⟩
  | succ k ih =>
    have h1 := ih (by omega)
    have h2 := nd_bd (gx strRec L k) (gx strRec L k).size
    have h3 := hs k (by omega)
    rw [ndL_succ]
    omega
theorem byts_str {xs : List Int} (h : ∀ x ∈ xs, 0 ≤ x ∧ x ≤ 255) : byts (strOfNums xs) = xs := by
  unfold byts strOfNums
  rw [List.map_map]
  conv => rhs; rw [← List.map_id xs]
  apply List.map_congr_left
  intro x hx
  have := h x hx
  show (((UInt8.ofNat x.toNat).toNat : Nat) : Int) = x
  rw [UInt8.toNat_ofNat']
  omega
theorem byts_range (s : ByteArray) : ∀ x ∈ byts s, 0 ≤ x ∧ x ≤ 255 := by
  intro x hx
  unfold byts at hx
  rw [List.mem_map] at hx
  obtain ⟨b, _, rfl⟩ := hx
  have := b.toNat_lt
  omega
theorem lineS_byts {fx fy : Int} {C R : Nat} {l : List Spt} (h12 : l.length ≤ 12) (r : Nat) : byts (lineS (gl (shF fx fy C R l) r)) = (gl (shF fx fy C R l) r).map chS := by
  refine byts_str fun x hx => ?_
  rw [List.mem_map] at hx
  obtain ⟨v, hv, rfl⟩ := hx
  obtain ⟨c, hc, rfl⟩ := List.getElem_of_mem hv
  rw [← gi_eq hc]
  exact chS_bd (shw_bd fx fy C R l h12 l.length r c)
theorem bt_line {fx fy : Int} {C R : Nat} {l : List Spt} (h12 : l.length ≤ 12) {k c : Nat} (hk : k < R) (hc : c < C) : (bt (gx strRec (vwL (shF fx fy C R l) R R) k) c : Int) = chS (gi (gl (shF fx fy C R l) (R - 1 - k)) c) := by
  have hrow := (shw_shape fx fy C R l l.length).2 (R - 1 - k) (by omega)
  rw [gx_vwL hk]
  have hsz : (lineS (gl (shF fx fy C R l) (R - 1 - k))).size = C := by unfold lineS; rw [strOfNums_size, List.length_map]; exact hrow
  rw [← gi_byts (by rw [hsz]; exact hc), lineS_byts h12, gi_map_chS _ _ (by rw [hrow]; exact hc)]
theorem hdn_len_succ (fx fy : Int) (C R : Nat) (l : List Spt) (S : List (List Int)) (k : Nat) : ((hdn fx fy C R l S (k + 1)).length : Int) = (hdn fx fy C R l S k).length + if hidB fx fy C R l S k then 1 else 0 := by
  cases h : hidB fx fy C R l S k
  · rw [hdn_f h]; simp
  · rw [hdn_t h]; simp
theorem cells_one {fx fy : Int} {C R : Nat} {l : List Spt} {k : Nat} (hk : k < l.length) : cells (shF fx fy C R l) C R (fun v => if v = (k : Int) then 1 else 0) = if hidB fx fy C R l (shF fx fy C R l) k then 0 else 1 := by
  cases h : hidB fx fy C R l (shF fx fy C R l) k
  · obtain ⟨b, a, h1, h2⟩ := hid_f.1 h
    have hbd := inC_bd h1
    rw [if_neg (by decide)]
    have e : ∀ r, r < R → sumN (fun c => if gi (gl (shF fx fy C R l) r) c = (k : Int) then (1 : Int) else 0) C = if r = b then 1 else 0 := by
      intro r hr
      have e2 : sumN (fun c => if gi (gl (shF fx fy C R l) r) c = (k : Int) then (1 : Int) else 0) C = sumN (fun c => if c = a then (if r = b then 1 else 0) else 0) C := by
        refine sumN_congr C fun c hc => ?_
        by_cases hv : gi (gl (shF fx fy C R l) r) c = (k : Int)
        · rw [if_pos hv]
          rcases shF_at (fx := fx) (fy := fy) (l := l) hr hc with ⟨h3, _⟩ | ⟨i, h3, h4, h5, _⟩
          · rw [hv] at h3; omega
          · rw [hv] at h4
            obtain rfl : k = i := by omega
            obtain ⟨rfl, rfl⟩ := inC_fun h1 h5
            rw [if_pos rfl, if_pos rfl]
        · rw [if_neg hv]
          by_cases hc2 : c = a
          · rw [if_pos hc2]
            by_cases hr2 : r = b
            · rw [hc2, hr2] at hv; exact absurd h2 hv
            · rw [if_neg hr2]
          · rw [if_neg hc2]
      rw [e2, sumN_one, if_pos hbd.2]
    unfold cells
    rw [sumN_congr R e, sumN_one, if_pos hbd.1]
  · rw [if_pos rfl]
    have e : cells (shF fx fy C R l) C R (fun v => if v = (k : Int) then 1 else 0) = cells (shF fx fy C R l) C R (fun _ => 0) := by
      refine cells_congr fun r c hr hc => ?_
      rw [if_neg]
      intro hv
      rcases shF_at (fx := fx) (fy := fy) (l := l) hr hc with ⟨h3, _⟩ | ⟨i, h3, h4, h5, _⟩
      · rw [hv] at h3; omega
      · rw [hv] at h4
        obtain rfl : k = i := by omega
        rw [hid_f.2 ⟨r, c, h5, hv⟩] at h
        cases h
    rw [e]
    unfold cells
    rw [sumN_congr R fun r _ => sumN_zero C, sumN_zero]
theorem shown_to {fx fy : Int} {C R : Nat} {l : List Spt} (k : Nat) (hk : k ≤ l.length) : cells (shF fx fy C R l) C R (fun v => if 0 ≤ v ∧ v < (k : Int) then 1 else 0) + ((hdn fx fy C R l (shF fx fy C R l) k).length : Int) = k := by
  induction k with
  | zero =>
    have e : cells (shF fx fy C R l) C R (fun v => if 0 ≤ v ∧ v < ((0 : Nat) : Int) then 1 else 0) = cells (shF fx fy C R l) C R (fun _ => 0) := cells_congr fun r c _ _ => by rw [if_neg (by omega)]
    rw [e]
    unfold cells
    rw [sumN_congr R fun r _ => sumN_zero C, sumN_zero]
    rfl
  | succ k ih =>
    have e : cells (shF fx fy C R l) C R (fun v => if 0 ≤ v ∧ v < ((k + 1 : Nat) : Int) then 1 else 0) = cells (shF fx fy C R l) C R (fun v => (if 0 ≤ v ∧ v < (k : Int) then 1 else 0) + (if v = (k : Int) then 1 else 0)) := by
      refine cells_congr fun r c _ _ => ?_
      generalize gi (gl (shF fx fy C R l) r) c = v
      by_cases h1 : 0 ≤ v ∧ v < (k : Int)
      · rw [if_pos h1, if_neg (show ¬ v = (k : Int) by omega), if_pos (by omega)]; rfl
      · by_cases h2 : v = (k : Int)
        · rw [if_neg h1, if_pos h2, if_pos (by omega)]; rfl
        · rw [if_neg h1, if_neg h2, if_neg (by omega)]; rfl
    rw [e, cells_add, cells_one (by omega), hdn_len_succ]
    have := ih (by omega)
    cases h : hidB fx fy C R l (shF fx fy C R l) k
    · rw [if_neg (by decide), if_neg (by decide)]; omega
    · rw [if_pos rfl, if_pos rfl]; omega
/-- Shown and hidden ones are all. -/
theorem shown_all {fx fy : Int} {C R : Nat} {l : List Spt} (h12 : l.length ≤ 12) : ndL (vwL (shF fx fy C R l) R R) R + ((hdn fx fy C R l (shF fx fy C R l) l.length).length : Int) = l.length := by
  have h1 := shown_to (fx := fx) (fy := fy) (C := C) (R := R) (l := l) l.length (Nat.le_refl _)
  have e : ndL (vwL (shF fx fy C R l) R R) R = cells (shF fx fy C R l) C R (fun v => if 0 ≤ v ∧ v < (l.length : Int) then 1 else 0) := by
    rw [ndL_sum]
    unfold cells
    rw [← sumN_rev]
    refine sumN_congr R fun k hk => ?_
    have hsz : (gx strRec (vwL (shF fx fy C R l) R R) (R - 1 - k)).size = C := vwL_size fx fy C R l (R - 1 - k) (by rw [vwL_len]; omega)
    rw [hsz, nd_sum]
    refine sumN_congr C fun c hc => ?_
    have hb := bt_line (fx := fx) (fy := fy) (l := l) h12 (show R - 1 - k < R by omega) hc
    rw [show R - 1 - (R - 1 - k) = k by omega] at hb
    rcases shF_at (fx := fx) (fy := fy) (l := l) hk hc with ⟨h2, _⟩ | ⟨i, h2, h3, _⟩
    · rw [h2] at hb ⊢
      have hb2 : bt (gx strRec (vwL (shF fx fy C R l) R R) (R - 1 - k)) c = 46 := by
        have e : chS (-1) = 46 := rfl
        omega
      show _ = if (0 : Int) ≤ -1 ∧ (-1 : Int) < (l.length : Int) then (1 : Int) else 0
      rw [if_pos hb2, if_neg (by omega)]
    · rw [h3] at hb ⊢
      have hb2 : bt (gx strRec (vwL (shF fx fy C R l) R R) (R - 1 - k)) c ≠ 46 := by
        have e : chS (i : Int) = 65 + (i : Int) := by unfold chS; rw [if_neg (by omega)]
        omega
      show _ = if 0 ≤ (i : Int) ∧ (i : Int) < (l.length : Int) then (1 : Int) else 0
      rw [if_neg hb2, if_pos (by omega)]
  omega
theorem pinB_app (l : List Int) (x n : Int) : pinB (l ++ [x]) n = (pinB l n || x == n) := by simp [pinB]
theorem pinB_hdn {fx fy : Int} {C R : Nat} {l : List Spt} {S : List (List Int)} (n i : Nat) : pinB (hdn fx fy C R l S n) (i : Int) = (decide (i < n) && hidB fx fy C R l S i) := by
  induction n with
  | zero => simp [hdn, pinB]
  | succ n ih =>
    have e1 : decide (i < n + 1) = (decide (i < n) || decide (i = n)) := by rw [← Bool.decide_or]; exact decide_eq_decide.2 (by omega)
    have e2 : (((n : Nat) : Int) == (i : Int)) = decide (i = n) := by rw [Bool.eq_iff_iff, beq_iff_eq, decide_eq_true_eq]; omega
    by_cases hin : i = n
    · subst hin
      cases h : hidB fx fy C R l S i
      · rw [hdn_f h, ih, h]; simp
      · rw [hdn_t h, pinB_app, ih, h]; simp
    · cases h : hidB fx fy C R l S n
      · rw [hdn_f h, ih, e1, decide_eq_false hin, Bool.or_false]
      · rw [hdn_t h, pinB_app, ih, e1, e2, decide_eq_false hin, Bool.or_false, Bool.or_false]
/-- A performer outside is hidden; one inside is shown in the cell, or hidden. -/
theorem out_hid {fx fy a b : Int} {C R : Nat} {l : List Spt} {i : Nat} (hi : i < l.length) (h : cellAt fx fy C R (gx sptRec l i).x (gx sptRec l i).y = (a, b, false)) : pinB (hdn fx fy C R l (shF fx fy C R l) l.length) (i : Int) = true := by
  rw [pinB_hdn, hidB_no h, decide_eq_true hi]; rfl
theorem in_hid {fx fy : Int} {C R : Nat} {l : List Spt} {i r c : Nat} (hi : i < l.length) (h12 : l.length ≤ 12) (h : inC fx fy C R l i r c) :
    pinB (hdn fx fy C R l (shF fx fy C R l) l.length) (i : Int) = !((bt (gx strRec (vwL (shF fx fy C R l) R R) (R - 1 - r)) c : Int) == 65 + (i : Int)) := by
  have hb := inC_bd h
  have hl := bt_line (fx := fx) (fy := fy) (l := l) h12 (show R - 1 - r < R by omega) hb.2
  rw [show R - 1 - (R - 1 - r) = r by omega] at hl
  rw [pinB_hdn, decide_eq_true hi, Bool.true_and, hidB_in h, hl]
  show _ = !(_ == _)
  rcases shF_at (fx := fx) (fy := fy) (l := l) hb.1 hb.2 with ⟨h2, h3⟩ | ⟨j, h2, h3, _⟩
  · exact absurd h (h3 i hi)
  · rw [h3]
    have e : chS (j : Int) = 65 + (j : Int) := by unfold chS; rw [if_neg (by omega)]
    rw [e]
    show (!((j : Int) == (i : Int))) = _
    congr 1
    rw [Bool.eq_iff_iff, beq_iff_eq, beq_iff_eq]; omega
/-! ### Mirrored views -/
theorem revS_byts (s : ByteArray) : byts (revS s) = (byts s).reverse := byts_str fun x hx => byts_range s x (List.mem_reverse.1 hx)
theorem revS_revS (s : ByteArray) : revS (revS s) = s := by
  show strOfNums (byts (revS s)).reverse = s
  rw [revS_byts, List.reverse_reverse, strOfNums_byts]
theorem okS_byts (s : ByteArray) : okS s = (byts s).all fun x => okC x.toNat := by
  have e : byts s = (List.range s.size).map fun k => (bt s k : Int) := by
    refine gi_ext9 (by rw [byts_len]; simp) fun i hi => ?_
    rw [byts_len] at hi
    rw [gi_byts hi, gi_eq (by simpa using hi)]
    simp
  rw [e, List.all_map]
  rfl
theorem revS_ok (s : ByteArray) : okS (revS s) = okS s := by rw [okS_byts, okS_byts, revS_byts, List.all_reverse]
theorem mirL_at {L : List ByteArray} {k : Nat} (h : k < L.length) : gx strRec (mirL L L.length) k = revS (gx strRec L k) := by
  unfold mirL
  rw [List.take_length, gx_eq (by simpa using h), gx_eq h, List.getElem_map]
theorem mirL_length (L : List ByteArray) : (mirL L L.length).length = L.length := by unfold mirL; simp
theorem mirL_mirL (L : List ByteArray) : mirL (mirL L L.length) (mirL L L.length).length = L := by
  refine strs_ext (by rw [mirL_length, mirL_length]) fun i hi => ?_
  rw [mirL_length, mirL_length] at hi
  rw [mirL_at (by rw [mirL_length]; exact hi), mirL_at hi, revS_revS]
theorem isVw_mir {L : List ByteArray} (h : isVw L = true) : isVw (mirL L L.length) = true := by
  have ht := isVw_t h
  have hall := isVw_all h
  have h0 : gx strRec (mirL L L.length) 0 = revS (gx strRec L 0) := mirL_at (by omega)
  rw [isVw_to (fun k hk => ?_), mirL_length, h0, revS_size, inR_t.2 (by omega), inR_t.2 (by omega)]
  · rfl
  · rw [mirL_length] at hk
    have h1 := (lnOk_t (ht.2.2.2.2 k hk))
    rw [mirL_at hk, h0]
    unfold lnOk
    rw [revS_size, revS_size, revS_ok, h1.1, h1.2]
    simp
theorem mirror_twice {L : List ByteArray} (h : isVw L = true) : ∃ M, rMirror L = (M, true) ∧ rMirror M = (L, true) ∧ M.length = L.length ∧ ∀ k, k < M.length → (gx strRec M k).size ≤ 60 := by
  refine ⟨mirL L L.length, by unfold rMirror; rw [if_pos h], by unfold rMirror; rw [if_pos (isVw_mir h), mirL_mirL], mirL_length L, fun k hk => ?_⟩
  rw [mirL_length] at hk
  rw [mirL_at hk, revS_size]
  exact (vw_size h k hk).2
/-- The view of a chart is a view. -/
theorem view_isVw {fx fy : Int} {C R : Nat} {l : List Spt} (hf : isFrm fx fy C R = true) (h12 : l.length ≤ 12) : isVw (vwL (shF fx fy C R l) R R) = true := by
  have hb := isFrm_t hf
  have hsz : ∀ k, k < R → (gx strRec (vwL (shF fx fy C R l) R R) k).size = C := fun k hk => vwL_size fx fy C R l k (by rw [vwL_len]; exact hk)
  rw [isVw_to (fun k hk => ?_), vwL_len, hsz 0 (by omega), inR_t.2 (by omega), inR_t.2 (by omega)]
  · rfl
  · rw [vwL_len] at hk
    unfold lnOk
    rw [hsz k hk, hsz 0 (by omega)]
    rw [Bool.and_eq_true]
    refine ⟨by simp, okS_yes fun c hc => ?_⟩
    rw [hsz k hk] at hc
    have hbt := bt_line (fx := fx) (fy := fy) (l := l) h12 hk hc
    have hbd := shw_bd fx fy C R l h12 l.length (R - 1 - k) c
    unfold chS at hbt
    unfold okC
    split at hbt
    · rw [show bt (gx strRec (vwL (shF fx fy C R l) R R) k) c = 46 by omega]; rfl
    · rename_i hneg
      have hv : (gi (gl (shF fx fy C R l) (R - 1 - k)) c) ≤ 11 := hbd.2
      rw [decide_eq_true (show 65 ≤ bt (gx strRec (vwL (shF fx fy C R l) R R) k) c by omega), decide_eq_true (show bt (gx strRec (vwL (shF fx fy C R l) R R) k) c ≤ 90 by omega)]
      simp
end Go.Proofs.Ytjbffahnbkpcnaa
