/- Plain law: what the program's and the reference's ParseEdits yield. -/
import Derived.Test.YtombnhnhbocceaaGreatDoorSpT
import Derived.Test.YtombnhnhbocceaaGreatDoorEdit
set_option linter.unusedSimpArgs false
set_option linter.unusedVariables false
namespace Go.Proofs.YtombnhnhbocceaaGreatDoor
open Go.RowKit

def eLineL (x : Edt) : List UInt8 := Lib.decDigits x.e.toNat ++ 32 :: (Lib.decDigits x.p.toNat ++ 32 :: (spT ⟨x.bx, x.bY⟩ ++ 32 :: spT ⟨x.ax, x.aY⟩))
def eText (L : List Edt) : ByteArray := mkS (joinC 10 (L.map eLineL))
theorem eLineL_spl (x : Edt) : spl 32 (eLineL x) = [Lib.decDigits x.e.toNat, Lib.decDigits x.p.toNat, spT ⟨x.bx, x.bY⟩, spT ⟨x.ax, x.aY⟩] := by
  unfold eLineL
  rw [spl_app _ (dec_no _ (by decide)), spl_app _ (dec_no _ (by decide)), spl_app _ (spT_no _ (by decide) (by decide) (by decide)), spl_none (spT_no _ (by decide) (by decide) (by decide))]
theorem eLineL_no (x : Edt) : (10 : UInt8) ∉ eLineL x := by
  unfold eLineL
  simp only [List.mem_append, List.mem_cons, not_or]
  exact ⟨dec_no _ (by decide), by decide, dec_no _ (by decide), by decide, spT_no _ (by decide) (by decide) (by decide), by decide, spT_no _ (by decide) (by decide) (by decide)⟩
theorem spl_4 {s a b c d : List UInt8} (h : spl 32 s = [a, b, c, d]) : s = a ++ 32 :: (b ++ 32 :: (c ++ 32 :: d)) := by
  have e := (spl_snoc 32 _ s (Nat.le_refl _)).2
  rw [h, joinC_cons, joinC_cons, joinC_cons, joinC_cons] at e
  have e2 : s ++ [32] = (a ++ 32 :: (b ++ 32 :: (c ++ 32 :: d))) ++ [32] := by rw [e]; simp [joinC]
  exact List.append_cancel_right e2
def peLine (s : ByteArray) : Option Edt :=
  match splB 32 s with
  | [a, b, c, d] => if (natR a).2 && (natR b).2 && (psR c).2 && (psR d).2 then some ⟨(natR a).1, (natR b).1, (psR c).1.x, (psR c).1.y, (psR d).1.x, (psR d).1.y⟩ else none
  | _ => none
def seLine (s : ByteArray) : Option Edt :=
  match splB 32 s with
  | [a, b, c, d] => if (spR c).2 && (spR d).2 then some ⟨rdR a, rdR b, (spR c).1.x, (spR c).1.y, (spR d).1.x, (spR d).1.y⟩ else none
  | _ => none
def rPEi (s : ByteArray) : List Edt × Bool :=
  if (lnR s).2 && decide ((lnR s).1.length ≤ 30) then
    match optMap peLine (lnR s).1 with
    | some out => if areEdts out then (out, true) else ([], false)
    | none => ([], false)
  else ([], false)
def rPEs (s : ByteArray) : List Edt × Bool :=
  if (splB 10 s).length ≤ 31 then
    match optMap seLine ((splB 10 s).take ((splB 10 s).length - 1)) with
    | some out => if areEdts out && decide (eText out = s) then (out, true) else ([], false)
    | none => ([], false)
  else ([], false)
theorem peLine_inv (s : ByteArray) (x : Edt) (h : peLine s = some x) : s = mkS (eLineL x) := by
  unfold peLine at h
  split at h
  · rename_i A B C D hs
    by_cases hc : ((natR A).2 && (natR B).2 && (psR C).2 && (psR D).2) = true
    · rw [if_pos hc] at h
      simp only [Bool.and_eq_true] at hc
      obtain ⟨⟨⟨h1, h2⟩, h3⟩, h4⟩ := hc
      obtain rfl := Option.some.inj h
      have hs2 : spl 32 s.data.toList = [A.data.toList, B.data.toList, C.data.toList, D.data.toList] := by
        have := congrArg (List.map (·.data.toList)) hs
        unfold splB at this
        rw [List.map_map] at this
        have e : (fun x : ByteArray => x.data.toList) ∘ mkS = id := funext fun x => mkS_data x
        rw [e, List.map_id] at this
        exact this
      have hA := natR_dec (t := A.data.toList) (by rw [mkS_of]; exact h1)
      have hB := natR_dec (t := B.data.toList) (by rw [mkS_of]; exact h2)
      rw [mkS_of] at hA hB
      have hC := (psR_inv h3).1
      have hD := (psR_inv h4).1
      refine ba_eq ?_
      rw [mkS_data, spl_4 hs2]
      unfold eLineL
      simp only [Int.toNat_natCast]
      have eC : C.data.toList = spT (psR C).1 := by conv => lhs; rw [hC]
                                                    exact mkS_data _
      have eD : D.data.toList = spT (psR D).1 := by conv => lhs; rw [hD]
                                                    exact mkS_data _
      rw [hA, hB, eC, eD]
    · rw [if_neg hc] at h; cases h
  · cases h
theorem eLine_splB (x : Edt) : splB 32 (mkS (eLineL x)) = [mkS (Lib.decDigits x.e.toNat), mkS (Lib.decDigits x.p.toNat), mkS (spT ⟨x.bx, x.bY⟩), mkS (spT ⟨x.ax, x.aY⟩)] := by
  rw [splB_mk, eLineL_spl]; rfl
theorem peLine_of (x : Edt) (h : isEdt x = true) : peLine (mkS (eLineL x)) = some x := by
  obtain ⟨h1, h2, h3, h4, h5, h6⟩ := isEdt_t h
  obtain ⟨E, hE⟩ := Int.eq_ofNat_of_zero_le (show 0 ≤ x.e by omega)
  obtain ⟨P, hP⟩ := Int.eq_ofNat_of_zero_le h3
  unfold peLine
  rw [eLine_splB]
  simp only
  rw [natR_of x.e.toNat (by omega), natR_of x.p.toNat (by omega), psR_of (a := ⟨x.bx, x.bY⟩) h5, psR_of (a := ⟨x.ax, x.aY⟩) h6]
  obtain ⟨e, p, b1, b2, c1, c2⟩ := x
  simp only at hE hP
  subst hE hP
  simp
theorem seLine_of (x : Edt) (h : isEdt x = true) : seLine (mkS (eLineL x)) = some x := by
  obtain ⟨h1, h2, h3, h4, h5, h6⟩ := isEdt_t h
  obtain ⟨E, hE⟩ := Int.eq_ofNat_of_zero_le (show 0 ≤ x.e by omega)
  obtain ⟨P, hP⟩ := Int.eq_ofNat_of_zero_le h3
  unfold seLine
  rw [eLine_splB]
  simp only
  rw [rdR_of x.e.toNat (by omega), rdR_of x.p.toNat (by omega), spR_of (a := ⟨x.bx, x.bY⟩) h5, spR_of (a := ⟨x.ax, x.aY⟩) h6]
  obtain ⟨e, p, b1, b2, c1, c2⟩ := x
  simp only at hE hP
  subst hE hP
  simp
theorem edt_mem {L : List Edt} (h : areEdts L = true) : (∀ x ∈ L, isEdt x = true) ∧ L.length ≤ 30 := by
  unfold areEdts at h
  rw [Bool.and_eq_true, List.all_eq_true] at h
  exact ⟨h.1, by have := of_decide_eq_true h.2; omega⟩
theorem elines_map (L : List Edt) : ((L.map eLineL).map mkS) = L.map fun x => mkS (eLineL x) := by rw [List.map_map]; rfl
theorem elines_no (L : List Edt) : ∀ a ∈ L.map eLineL, (10 : UInt8) ∉ a := fun a ha => by obtain ⟨x, _, rfl⟩ := List.mem_map.1 ha; exact eLineL_no x
theorem rPEs_whole {L : List Edt} (h : areEdts L = true) : rPEs (eText L) = (L, true) := by
  obtain ⟨hm, h30⟩ := edt_mem h
  have hs : splB 10 (eText L) = (L.map fun x => mkS (eLineL x)) ++ [mkS []] := by
    unfold eText
    rw [splB_mk, spl_join 10 _ (elines_no L), List.map_append, elines_map]; rfl
  have hl : (splB 10 (eText L)).length = L.length + 1 := by rw [hs]; simp
  unfold rPEs
  rw [hl, if_pos (by omega), hs, Nat.add_sub_cancel, List.take_left' (by simp), optMap_map (h := id) (fun x hx => seLine_of x (hm x hx)), List.map_id]
  simp [h]
theorem eText_snoc {L : List Edt} (h : 0 < L.length) : ∃ t, eText L = mkS (t ++ [10]) ∧ spl 10 t = L.map eLineL := by
  obtain ⟨t, ht⟩ : ∃ t, joinC 10 (L.map eLineL) = t ++ [10] := by
    obtain ⟨l, x, rfl⟩ : ∃ l x, L = l ++ [x] := ⟨L.dropLast, L.getLast (by intro e; subst e; simp at h), (List.dropLast_concat_getLast _).symm⟩
    exact ⟨joinC 10 (l.map eLineL) ++ eLineL x, by rw [List.map_append, List.map_singleton, joinC_snoc, List.append_assoc]⟩
  refine ⟨t, by unfold eText; rw [ht], ?_⟩
  have h1 := spl_join 10 (L.map eLineL) (elines_no L)
  rw [ht, (spl_snoc 10 _ t (Nat.le_refl _)).1] at h1
  exact List.append_cancel_right h1
theorem rPEi_whole {L : List Edt} (h : areEdts L = true) : rPEi (eText L) = (L, true) := by
  obtain ⟨hm, h30⟩ := edt_mem h
  have hl : lnR (eText L) = (L.map (fun x => mkS (eLineL x)), true) := by
    rcases Nat.eq_zero_or_pos L.length with h0 | h0
    · obtain rfl := List.eq_nil_of_length_eq_zero h0
      exact lnR_empty
    · obtain ⟨t, ht, hs⟩ := eText_snoc h0
      unfold lnR
      rw [ht, if_neg (by rw [mkS_size]; simp), if_pos bN_last, extract_init, splB_mk, hs, elines_map]
  unfold rPEi
  rw [hl]
  simp only [List.length_map, Bool.true_and]
  rw [if_pos (by simpa using h30), optMap_map (h := id) (fun x hx => peLine_of x (hm x hx)), List.map_id]
  simp [h]
theorem rPEi_sound {s : ByteArray} (h : (rPEi s).2 = true) : areEdts (rPEi s).1 = true ∧ eText (rPEi s).1 = s := by
  unfold rPEi at h ⊢
  by_cases hc : ((lnR s).2 && decide ((lnR s).1.length ≤ 30)) = true
  · rw [if_pos hc] at h ⊢
    cases ho : optMap peLine (lnR s).1 with
    | none => rw [ho] at h; cases h
    | some out =>
      rw [ho] at h
      simp only at h ⊢
      cases ha : areEdts out with
      | false => rw [ha] at h; cases h
      | true =>
        simp only [if_true]
        refine ⟨ha, ?_⟩
        have hm := optMap_inv peLine_inv ho
        unfold lnR at hm hc
        by_cases h0 : s.size = 0
        · rw [if_pos h0] at hm
          have := congrArg List.length hm
          obtain rfl : out = [] := List.eq_nil_of_length_eq_zero (by simpa using this.symm)
          rw [empty_of_size h0]; rfl
        · rw [if_neg h0] at hm hc
          by_cases h10 : bN s (s.size - 1) = 10
          · rw [if_pos h10] at hm
            simp only at hm
            have e : s.data.toList = (s.extract 0 (s.size - 1)).data.toList ++ [10] := by
              obtain ⟨x, hx, hxn⟩ := bN_get (s := s) (k := s.size - 1) (by omega)
              have hx10 : x = 10 := u8_inj (by rw [hxn, h10]; rfl)
              rw [extract_list, List.drop_zero]
              have := List.take_add_one (l := s.data.toList) (i := s.size - 1)
              rw [hx, hx10, Nat.sub_add_cancel (by omega), ← len_data, List.take_length] at this
              rw [← len_data]
              exact this
            have hd2 : spl 10 (s.extract 0 (s.size - 1)).data.toList = out.map eLineL := by
              have hd : (splB 10 (s.extract 0 (s.size - 1))).map (·.data.toList) = out.map eLineL := by
                rw [hm, List.map_map]
                exact List.map_congr_left fun x _ => mkS_data _
              rw [← hd]
              unfold splB
              rw [List.map_map]
              conv => lhs; rw [← List.map_id (spl 10 _)]
              exact List.map_congr_left fun x _ => (mkS_data x).symm
            refine ba_eq ?_
            unfold eText
            rw [mkS_data, ← hd2, ← (spl_snoc 10 _ _ (Nat.le_refl _)).2, e]
          · rw [if_neg h10] at hc; cases hc
  · rw [if_neg hc] at h; cases h
theorem rPEs_sound {s : ByteArray} (h : (rPEs s).2 = true) : areEdts (rPEs s).1 = true ∧ eText (rPEs s).1 = s := by
  unfold rPEs at h ⊢
  by_cases hc : (splB 10 s).length ≤ 31
  · rw [if_pos hc] at h ⊢
    cases ho : optMap seLine ((splB 10 s).take ((splB 10 s).length - 1)) with
    | none => rw [ho] at h; cases h
    | some out =>
      rw [ho] at h
      simp only at h ⊢
      by_cases ha : (areEdts out && decide (eText out = s)) = true
      · rw [if_pos ha]
        simpa using ha
      · rw [if_neg ha] at h; cases h
  · rw [if_neg hc] at h; cases h
theorem rPEi_no {s : ByteArray} (h : (rPEi s).2 = false) : rPEi s = ([], false) := by
  unfold rPEi at h ⊢
  split
  · split
    · split
      · rename_i h1 _ _ h2 h3; rw [if_pos h1, h2] at h; simp only at h; rw [if_pos h3] at h; cases h
      · rfl
    · rfl
  · rfl
theorem rPEs_no {s : ByteArray} (h : (rPEs s).2 = false) : rPEs s = ([], false) := by
  unfold rPEs at h ⊢
  split
  · split
    · split
      · rename_i h1 _ _ h2 h3; rw [if_pos h1, h2] at h; simp only at h; rw [if_pos h3] at h; cases h
      · rfl
    · rfl
  · rfl
theorem rPE_eq (s : ByteArray) : rPEi s = rPEs s := by
  cases h1 : (rPEi s).2 with
  | true =>
    obtain ⟨a, b⟩ := rPEi_sound h1
    have h2 := rPEs_whole a
    have h3 := rPEi_whole a
    rw [b] at h2 h3
    rw [h2]; exact h3
  | false =>
    cases h2 : (rPEs s).2 with
    | true =>
      obtain ⟨a, b⟩ := rPEs_sound h2
      have h3 := rPEi_whole a
      rw [b] at h3
      rw [h3] at h1; cases h1
    | false => rw [rPEi_no h1, rPEs_no h2]
theorem rPE_len (s : ByteArray) : (rPEs s).1.length ≤ 30 := by
  cases h : (rPEs s).2 with
  | true => exact (edt_mem (rPEs_sound h).1).2
  | false => rw [rPEs_no h]; exact Nat.zero_le _
end Go.Proofs.YtombnhnhbocceaaGreatDoor
