/- Plain law: the texts of spots, as the program and the reference read them. -/
import Derived.Test.YtombnhnhbocceaaGreatDoorLn
import Derived.Test.YtombnhnhbocceaaGreatDoorSpot
import Derived.Test.YtombnhnhbocceaaGreatDoorRecSpot
set_option linter.unusedSimpArgs false
set_option linter.unusedVariables false
namespace Go.Proofs.YtombnhnhbocceaaGreatDoor
open Go.RowKit

/-- The eighths, as a text. -/
def stpT (n : Nat) : List UInt8 := if n % 8 = 0 then Lib.decDigits (n / 8) else Lib.decDigits (n / 8) ++ 43 :: Lib.decDigits (n % 8)
def spT (a : Spt) : List UInt8 := stpT a.x.toNat ++ 44 :: stpT a.y.toNat
theorem dec_no {c : UInt8} (n : Nat) (hc : isDig c = false) : c ∉ Lib.decDigits n := no_dig (dec_props n).1 hc
theorem stpT_no {c : UInt8} (n : Nat) (hc : isDig c = false) (h43 : c ≠ 43) : c ∉ stpT n := by
  unfold stpT
  split
  · exact dec_no _ hc
  · simp only [List.mem_append, List.mem_cons, not_or]; exact ⟨dec_no _ hc, h43, dec_no _ hc⟩
theorem spT_no {c : UInt8} (a : Spt) (hc : isDig c = false) (h43 : c ≠ 43) (h44 : c ≠ 44) : c ∉ spT a := by
  unfold spT
  simp only [List.mem_append, List.mem_cons, not_or]
  exact ⟨stpT_no _ hc h43, h44, stpT_no _ hc h43⟩
/-- What readSteps yields. -/
def rsR (s : ByteArray) : Nat × Bool :=
  if (natR (cutB 43 s).1).2 then
    if (cutB 43 s).2.2 then
      if (natR (cutB 43 s).2.1).2 && decide (1 ≤ (natR (cutB 43 s).2.1).1) && decide ((natR (cutB 43 s).2.1).1 ≤ 7) then (8 * (natR (cutB 43 s).1).1 + (natR (cutB 43 s).2.1).1, true) else (0, false)
    else (8 * (natR (cutB 43 s).1).1, true)
  else (0, false)
theorem rsR_1 {s : ByteArray} (h : (natR (cutB 43 s).1).2 = false) : rsR s = (0, false) := by unfold rsR; rw [h]; rfl
theorem rsR_2 {s : ByteArray} (h : (natR (cutB 43 s).1).2 = true) (h2 : (cutB 43 s).2.2 = false) : rsR s = (8 * (natR (cutB 43 s).1).1, true) := by unfold rsR; rw [h, h2]; rfl
theorem rsR_3 {s : ByteArray} (h : (natR (cutB 43 s).1).2 = true) (h2 : (cutB 43 s).2.2 = true) (h3 : (natR (cutB 43 s).2.1).2 = false) : rsR s = (0, false) := by unfold rsR; rw [h, h2, h3]; rfl
theorem rsR_4 {s : ByteArray} (h : (natR (cutB 43 s).1).2 = true) (h2 : (cutB 43 s).2.2 = true) (h3 : (natR (cutB 43 s).2.1).2 = true) (h4 : ¬ (1 ≤ (natR (cutB 43 s).2.1).1 ∧ (natR (cutB 43 s).2.1).1 ≤ 7)) : rsR s = (0, false) := by
  unfold rsR; rw [h, h2, h3, if_pos rfl, if_pos rfl, if_neg]
  simp only [Bool.true_and, Bool.and_eq_true, decide_eq_true_eq]; exact h4
theorem rsR_5 {s : ByteArray} (h : (natR (cutB 43 s).1).2 = true) (h2 : (cutB 43 s).2.2 = true) (h3 : (natR (cutB 43 s).2.1).2 = true) (h4 : 1 ≤ (natR (cutB 43 s).2.1).1 ∧ (natR (cutB 43 s).2.1).1 ≤ 7) : rsR s = (8 * (natR (cutB 43 s).1).1 + (natR (cutB 43 s).2.1).1, true) := by
  unfold rsR; rw [h, h2, h3, if_pos rfl, if_pos rfl, if_pos]
  simp only [Bool.true_and, Bool.and_eq_true, decide_eq_true_eq]; exact h4
theorem rsR_bd (s : ByteArray) : (rsR s).1 ≤ 8000000000 := by
  have h1 := natR_bd (cutB 43 s).1
  have h2 := natR_bd (cutB 43 s).2.1
  unfold rsR
  split
  · split
    · split
      · rename_i h; simp only [Bool.and_eq_true, decide_eq_true_eq] at h; omega
      · exact Nat.zero_le _
    · omega
  · exact Nat.zero_le _
theorem rsR_inv {t : List UInt8} (h : (rsR (mkS t)).2 = true) : t = stpT (rsR (mkS t)).1 := by
  cases h1 : (natR (cutB 43 (mkS t)).1).2 with
  | false => rw [rsR_1 h1] at h; cases h
  | true =>
    rcases cut_cases 43 t with ⟨hn, hc, _⟩ | ⟨a, b, hab, hn, hc, _⟩
    · have e1 : (cutB 43 (mkS t)).1 = mkS t := by unfold cutB; rw [mkS_data, hc]
      have e2 : (cutB 43 (mkS t)).2.2 = false := by unfold cutB; rw [mkS_data, hc]
      rw [rsR_2 h1 e2]
      rw [e1] at h1 ⊢
      have hd := natR_dec h1
      unfold stpT
      rw [if_pos (by simp), show 8 * (natR (mkS t)).1 / 8 = (natR (mkS t)).1 by omega, hd]
    · have e1 : (cutB 43 (mkS t)).1 = mkS a := by unfold cutB; rw [mkS_data, hc]
      have e2 : (cutB 43 (mkS t)).2.2 = true := by unfold cutB; rw [mkS_data, hc]
      have e3 : (cutB 43 (mkS t)).2.1 = mkS b := by unfold cutB; rw [mkS_data, hc]
      cases h3 : (natR (cutB 43 (mkS t)).2.1).2 with
      | false => rw [rsR_3 h1 e2 h3] at h; cases h
      | true =>
        by_cases h4 : 1 ≤ (natR (cutB 43 (mkS t)).2.1).1 ∧ (natR (cutB 43 (mkS t)).2.1).1 ≤ 7
        · rw [rsR_5 h1 e2 h3 h4]
          rw [e1] at h1 ⊢
          rw [e3] at h3 h4 ⊢
          have hd1 := natR_dec h1
          have hd2 := natR_dec h3
          unfold stpT
          simp only
          rw [if_neg (by omega), show (8 * (natR (mkS a)).1 + (natR (mkS b)).1) / 8 = (natR (mkS a)).1 by omega, show (8 * (natR (mkS a)).1 + (natR (mkS b)).1) % 8 = (natR (mkS b)).1 by omega, hd1, hd2]
          exact hab
        · rw [rsR_4 h1 e2 h3 h4] at h; cases h
theorem rsR_of (n : Nat) (hn : n ≤ 100000) : rsR (mkS (stpT n)) = (n, true) := by
  unfold stpT
  by_cases h8 : n % 8 = 0
  · rw [if_pos h8]
    have hc : cutB 43 (mkS (Lib.decDigits (n / 8))) = (mkS (Lib.decDigits (n / 8)), mkS [], false) := by unfold cutB; rw [mkS_data, cutC_none (dec_no _ (by decide))]
    have hq := natR_of (n / 8) (by omega)
    rw [rsR_2 (by rw [hc, hq]) (by rw [hc]), hc, hq]
    simp only
    rw [show 8 * (n / 8) = n by omega]
  · rw [if_neg h8]
    have hc : cutB 43 (mkS (Lib.decDigits (n / 8) ++ 43 :: Lib.decDigits (n % 8))) = (mkS (Lib.decDigits (n / 8)), mkS (Lib.decDigits (n % 8)), true) := by unfold cutB; rw [mkS_data, cutC_app _ (dec_no _ (by decide))]
    have hq := natR_of (n / 8) (by omega)
    have hq2 := natR_of (n % 8) (by omega)
    rw [rsR_5 (by rw [hc, hq]) (by rw [hc]) (by rw [hc, hq2]) (by rw [hc, hq2]; simp only; omega), hc, hq, hq2]
    simp only
    rw [show 8 * (n / 8) + n % 8 = n by omega]
/-- What ParseSpot yields. -/
def psR (s : ByteArray) : Spt × Bool :=
  if (cutB 44 s).2.2 && (rsR (cutB 44 s).1).2 && (rsR (cutB 44 s).2.1).2 && isSpot (rsR (cutB 44 s).1).1 (rsR (cutB 44 s).2.1).1 then (⟨(rsR (cutB 44 s).1).1, (rsR (cutB 44 s).2.1).1⟩, true) else (⟨0, 0⟩, false)
theorem psR_1 {s : ByteArray} (h : (cutB 44 s).2.2 = false) : psR s = (⟨0, 0⟩, false) := by unfold psR; rw [h]; rfl
theorem psR_2 {s : ByteArray} (h : (rsR (cutB 44 s).1).2 = false) : psR s = (⟨0, 0⟩, false) := by unfold psR; rw [h]; simp
theorem psR_3 {s : ByteArray} (h : (rsR (cutB 44 s).2.1).2 = false) : psR s = (⟨0, 0⟩, false) := by unfold psR; rw [h]; simp
theorem psR_4 {s : ByteArray} (h : isSpot (rsR (cutB 44 s).1).1 (rsR (cutB 44 s).2.1).1 = false) : psR s = (⟨0, 0⟩, false) := by unfold psR; rw [h]; simp
theorem psR_5 {s : ByteArray} (h1 : (cutB 44 s).2.2 = true) (h2 : (rsR (cutB 44 s).1).2 = true) (h3 : (rsR (cutB 44 s).2.1).2 = true) (h4 : isSpot (rsR (cutB 44 s).1).1 (rsR (cutB 44 s).2.1).1 = true) :
    psR s = (⟨(rsR (cutB 44 s).1).1, (rsR (cutB 44 s).2.1).1⟩, true) := by unfold psR; rw [h1, h2, h3, h4]; rfl
theorem psR_no {s : ByteArray} (h : (psR s).2 = false) : psR s = (⟨0, 0⟩, false) := by
  unfold psR at h ⊢
  split
  · rename_i h1; rw [if_pos h1] at h; cases h
  · rfl
theorem psR_inv {s : ByteArray} (h : (psR s).2 = true) : s = mkS (spT (psR s).1) ∧ isSpot (psR s).1.x (psR s).1.y = true := by
  have hb : ((cutB 44 s).2.2 && (rsR (cutB 44 s).1).2 && (rsR (cutB 44 s).2.1).2 && isSpot (rsR (cutB 44 s).1).1 (rsR (cutB 44 s).2.1).1) = true := by
    cases hb : ((cutB 44 s).2.2 && (rsR (cutB 44 s).1).2 && (rsR (cutB 44 s).2.1).2 && isSpot (rsR (cutB 44 s).1).1 (rsR (cutB 44 s).2.1).1) with
    | true => rfl
    | false => unfold psR at h; rw [hb] at h; cases h
  simp only [Bool.and_eq_true] at hb
  obtain ⟨⟨⟨h1, h2⟩, h3⟩, h4⟩ := hb
  rw [psR_5 h1 h2 h3 h4]
  refine ⟨?_, h4⟩
  rcases cut_cases 44 s.data.toList with ⟨hn, hc, _⟩ | ⟨a, b, hab, hn, hc, _⟩
  · unfold cutB at h1; rw [hc] at h1; cases h1
  · have e1 : (cutB 44 s).1 = mkS a := by unfold cutB; rw [hc]
    have e3 : (cutB 44 s).2.1 = mkS b := by unfold cutB; rw [hc]
    rw [e1] at h2 ⊢
    rw [e3] at h3 ⊢
    refine ba_eq ?_
    rw [mkS_data, hab]
    unfold spT
    simp only [Int.toNat_natCast]
    rw [← rsR_inv h2, ← rsR_inv h3]
theorem psR_of {a : Spt} (h : isSpot a.x a.y = true) : psR (mkS (spT a)) = (a, true) := by
  obtain ⟨x, y⟩ := a
  obtain ⟨x0, x1, y0, y1⟩ := isSpot_t h
  simp only at x0 x1 y0 y1
  obtain ⟨X, rfl⟩ := Int.eq_ofNat_of_zero_le x0
  obtain ⟨Y, rfl⟩ := Int.eq_ofNat_of_zero_le y0
  have hc : cutB 44 (mkS (spT ⟨(X : Int), (Y : Int)⟩)) = (mkS (stpT X), mkS (stpT Y), true) := by
    unfold cutB spT
    simp only [mkS_data, Int.toNat_natCast]
    rw [cutC_app _ (stpT_no _ (by decide) (by decide))]
  have hx := rsR_of X (by omega)
  have hy := rsR_of Y (by omega)
  rw [psR_5 (by rw [hc]) (by rw [hc, hx]) (by rw [hc, hy]) (by rw [hc, hx, hy]; exact h), hc, hx, hy]
/-! ### the reference -/
/-- What stRead yields. -/
def srR (s : ByteArray) : Int :=
  match splB 43 s with
  | [a] => if rdR a < 0 then -1 else 8 * rdR a
  | [a, b] => if rdR a < 0 then -1 else if 1 ≤ rdR b ∧ rdR b ≤ 7 then 8 * rdR a + rdR b else -1
  | _ => -1
theorem rdR_bd (s : ByteArray) : -1 ≤ rdR s ∧ rdR s < 1000000 := by
  unfold rdR
  split
  · rename_i h; have := isNum_lt h; omega
  · decide
theorem rdR_neg {s : ByteArray} (h : rdR s < 0) : rdR s = -1 := by have := rdR_bd s; omega
theorem srR_bd (s : ByteArray) : -1 ≤ srR s ∧ srR s ≤ 8000007 := by
  unfold srR
  split
  · rename_i a _; have := rdR_bd a; split <;> omega
  · rename_i a b _; have := rdR_bd a; have := rdR_bd b; split
    · omega
    · split <;> omega
  · decide
theorem srR_of (n : Nat) (hn : n ≤ 100000) : srR (mkS (stpT n)) = (n : Int) := by
  unfold srR stpT
  rw [splB_mk]
  by_cases h8 : n % 8 = 0
  · rw [if_pos h8, spl_none (dec_no _ (by decide))]
    simp only [List.map_cons, List.map_nil]
    rw [rdR_of (n / 8) (by omega), if_neg (by omega)]; omega
  · rw [if_neg h8, spl_app _ (dec_no _ (by decide)), spl_none (dec_no _ (by decide))]
    simp only [List.map_cons, List.map_nil]
    rw [rdR_of (n / 8) (by omega), rdR_of (n % 8) (by omega), if_neg (by omega), if_pos (by omega)]; omega
/-- A spot's text as the reference writes it. -/
def spB (x y : Int) : ByteArray := mkS (spT ⟨x, y⟩)
/-- What stParse yields. -/
def spR (s : ByteArray) : Spt × Bool :=
  match splB 44 s with
  | [a, b] => if 0 ≤ srR a ∧ 0 ≤ srR b ∧ isSpot (srR a) (srR b) = true ∧ spB (srR a) (srR b) = s then (⟨srR a, srR b⟩, true) else (⟨0, 0⟩, false)
  | _ => (⟨0, 0⟩, false)
theorem spR_of {a : Spt} (h : isSpot a.x a.y = true) : spR (mkS (spT a)) = (a, true) := by
  obtain ⟨x, y⟩ := a
  obtain ⟨x0, x1, y0, y1⟩ := isSpot_t h
  simp only at x0 x1 y0 y1
  obtain ⟨X, rfl⟩ := Int.eq_ofNat_of_zero_le x0
  obtain ⟨Y, rfl⟩ := Int.eq_ofNat_of_zero_le y0
  have hs : splB 44 (mkS (spT ⟨(X : Int), (Y : Int)⟩)) = [mkS (stpT X), mkS (stpT Y)] := by
    rw [splB_mk]
    unfold spT
    simp only [Int.toNat_natCast]
    rw [spl_app _ (stpT_no _ (by decide) (by decide)), spl_none (stpT_no _ (by decide) (by decide))]; rfl
  unfold spR
  rw [hs]
  simp only
  rw [srR_of X (by omega), srR_of Y (by omega), if_pos ⟨by omega, by omega, h, rfl⟩]
theorem spR_inv {s : ByteArray} (h : (spR s).2 = true) : s = mkS (spT (spR s).1) ∧ isSpot (spR s).1.x (spR s).1.y = true := by
  unfold spR at h ⊢
  split
  · rename_i a b hab
    rw [hab] at h
    simp only at h
    split
    · rename_i hc; exact ⟨hc.2.2.2.symm, hc.2.2.1⟩
    · rename_i hc; rw [if_neg hc] at h; cases h
  · rename_i hx
    split at h
    · rename_i a b hab; exact absurd hab (hx a b)
    · cases h
theorem spR_no {s : ByteArray} (h : (spR s).2 = false) : spR s = (⟨0, 0⟩, false) := by
  unfold spR at h ⊢
  split
  · rename_i a b hab
    rw [hab] at h
    simp only at h
    split
    · rename_i hc; rw [if_pos hc] at h; cases h
    · rfl
  · rfl
theorem sp_eq (s : ByteArray) : psR s = spR s := by
  cases h1 : (psR s).2 with
  | true =>
    obtain ⟨a, b⟩ := psR_inv h1
    have h2 := spR_of b
    have h3 := psR_of b
    rw [← a] at h2 h3
    rw [h2]; exact h3
  | false =>
    cases h2 : (spR s).2 with
    | true =>
      obtain ⟨a, b⟩ := spR_inv h2
      have h3 := psR_of b
      rw [← a] at h3
      rw [h3] at h1; cases h1
    | false => rw [psR_no h1, spR_no h2]
end Go.Proofs.YtombnhnhbocceaaGreatDoor
