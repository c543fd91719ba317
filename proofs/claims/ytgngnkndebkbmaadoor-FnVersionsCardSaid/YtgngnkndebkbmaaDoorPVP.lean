/- Plain law: what the program's and the reference's ParseVersions yield. -/
import Derived.Test.YtgngnkndebkbmaaDoorParse
import Derived.Test.YtgngnkndebkbmaaDoorVText
set_option linter.unusedSimpArgs false
set_option linter.unusedVariables false
namespace Go.Proofs.YtgngnkndebkbmaaDoor
open Go.RowKit

def optMap {α β : Type} (f : α → Option β) : List α → Option (List β)
  | [] => some []
  | x :: l => match f x, optMap f l with
    | some y, some m => some (y :: m)
    | _, _ => none
theorem optMap_cons {α β : Type} {f : α → Option β} {x : α} {l : List α} {y : β} {m : List β} (h1 : f x = some y) (h2 : optMap f l = some m) : optMap f (x :: l) = some (y :: m) := by
  show (match f x, optMap f l with | some y, some m => some (y :: m) | _, _ => none) = _
  rw [h1, h2]
theorem optMap_cons_inv {α β : Type} {f : α → Option β} {x : α} {l : List α} {r : List β} (h : optMap f (x :: l) = some r) : ∃ y m, f x = some y ∧ optMap f l = some m ∧ r = y :: m := by
  change (match f x, optMap f l with | some y, some m => some (y :: m) | _, _ => none) = _ at h
  cases h1 : f x with
  | none => rw [h1] at h; cases h
  | some y =>
    cases h2 : optMap f l with
    | none => rw [h1, h2] at h; cases h
    | some m => rw [h1, h2] at h; exact ⟨y, m, rfl, rfl, (Option.some.inj h).symm⟩
theorem optMap_snoc {α β : Type} {f : α → Option β} {x : α} {y : β} : ∀ {l : List α} {m : List β}, optMap f l = some m → f x = some y → optMap f (l ++ [x]) = some (m ++ [y])
  | [], m, h1, h2 => by
    obtain rfl : m = [] := (Option.some.inj h1).symm
    exact optMap_cons h2 rfl
  | z :: l, m, h1, h2 => by
    obtain ⟨a, b, e1, e2, rfl⟩ := optMap_cons_inv h1
    exact optMap_cons e1 (optMap_snoc e2 h2)
theorem optMap_none {α β : Type} {f : α → Option β} : ∀ {l : List α} {x : α}, x ∈ l → f x = none → optMap f l = none
  | y :: l, x, h, hx => by
    cases ho : optMap f (y :: l) with
    | none => rfl
    | some r =>
      obtain ⟨a, b, e1, e2, rfl⟩ := optMap_cons_inv ho
      rcases List.mem_cons.1 h with rfl | h
      · rw [hx] at e1; cases e1
      · rw [optMap_none h hx] at e2; cases e2
theorem optMap_len {α β : Type} {f : α → Option β} : ∀ {l : List α} {m : List β}, optMap f l = some m → m.length = l.length
  | [], m, h => by obtain rfl : m = [] := (Option.some.inj h).symm; rfl
  | x :: l, m, h => by obtain ⟨a, b, e1, e2, rfl⟩ := optMap_cons_inv h; simp [optMap_len e2]
theorem optMap_map {α β γ : Type} {f : α → Option β} {g : γ → α} : ∀ {l : List γ} {h : γ → β}, (∀ x ∈ l, f (g x) = some (h x)) → optMap f (l.map g) = some (l.map h)
  | [], h, _ => rfl
  | x :: l, h, hh => optMap_cons (hh x (by simp)) (optMap_map fun y hy => hh y (by simp [hy]))
theorem optMap_inv {α β : Type} {f : α → Option β} {g : β → α} (hg : ∀ x y, f x = some y → x = g y) : ∀ {l : List α} {m : List β}, optMap f l = some m → l = m.map g
  | [], m, h => by obtain rfl : m = [] := (Option.some.inj h).symm; rfl
  | x :: l, m, h => by obtain ⟨a, b, e1, e2, rfl⟩ := optMap_cons_inv h; rw [hg x a e1, optMap_inv hg e2]; rfl
/-! ### joins -/
def joinC (c : UInt8) (X : List (List UInt8)) : List UInt8 := (X.map (· ++ [c])).flatten
theorem joinC_cons (c : UInt8) (a : List UInt8) (X : List (List UInt8)) : joinC c (a :: X) = a ++ c :: joinC c X := by simp [joinC]
theorem joinC_snoc (c : UInt8) (X : List (List UInt8)) (a : List UInt8) : joinC c (X ++ [a]) = joinC c X ++ (a ++ [c]) := by simp [joinC]
theorem spl_join (c : UInt8) : ∀ X : List (List UInt8), (∀ a ∈ X, c ∉ a) → spl c (joinC c X) = X ++ [[]]
  | [], _ => rfl
  | a :: X, h => by rw [joinC_cons, spl_app _ (h a (by simp)), spl_join c X (fun b hb => h b (by simp [hb]))]; rfl
theorem spl_snoc (c : UInt8) (n : Nat) : ∀ s : List UInt8, s.length ≤ n → spl c (s ++ [c]) = spl c s ++ [[]] ∧ s ++ [c] = joinC c (spl c s) := by
  induction n with
  | zero => intro s hs; obtain rfl := List.eq_nil_of_length_eq_zero (Nat.le_zero.1 hs); exact ⟨by rw [List.nil_append, spl_cons, if_pos rfl]; rfl, rfl⟩
  | succ n ih =>
    intro s hs
    rcases cut_cases c s with ⟨h1, _, h2⟩ | ⟨a, b, rfl, h1, _, h2⟩
    · rw [h2]
      refine ⟨?_, by simp [joinC]⟩
      rw [spl_app [] h1]; rfl
    · obtain ⟨i1, i2⟩ := ih b (by simp at hs; omega)
      rw [h2]
      refine ⟨?_, ?_⟩
      · rw [List.append_assoc, List.cons_append, spl_app _ h1, i1]; rfl
      · rw [joinC_cons, ← i2, List.append_assoc, List.cons_append]
theorem spl_3 {s a b d : List UInt8} (h : spl 32 s = [a, b, d]) : s = a ++ 32 :: (b ++ 32 :: d) ∧ (32 ∉ a ∧ 32 ∉ b ∧ 32 ∉ d) := by
  have e := (spl_snoc 32 _ s (Nat.le_refl _)).2
  rw [h, joinC_cons, joinC_cons, joinC_cons] at e
  have e2 : s ++ [32] = (a ++ 32 :: (b ++ 32 :: d)) ++ [32] := by rw [e]; simp [joinC]
  have hp := spl_part 32 _ s (Nat.le_refl _)
  rw [h] at hp
  exact ⟨List.append_cancel_right e2, (hp a (by simp)).2, (hp b (by simp)).2, (hp d (by simp)).2⟩
theorem spl_2 {s b d : List UInt8} (h : spl 32 s = [b, d]) : s = b ++ 32 :: d ∧ 32 ∉ b ∧ 32 ∉ d := by
  have e := (spl_snoc 32 _ s (Nat.le_refl _)).2
  rw [h, joinC_cons, joinC_cons] at e
  have e2 : s ++ [32] = (b ++ 32 :: d) ++ [32] := by rw [e]; simp [joinC]
  have hp := spl_part 32 _ s (Nat.le_refl _)
  rw [h] at hp
  exact ⟨List.append_cancel_right e2, (hp b (by simp)).2, (hp d (by simp)).2⟩
/-! ### the lines of versions -/
def pT (p : Int) : List UInt8 := if p < 0 then [45] else Lib.decDigits p.toNat
def lineL (x : Ver) : List UInt8 := pT x.p ++ 32 :: (Lib.decDigits x.k.toNat ++ 32 :: Lib.decDigits x.v.toNat)
theorem lineL_data (x : Ver) : (vLine x).data.toList = lineL x ++ [10] := by
  unfold vLine lineL pT
  split <;> simp [ByteArray.data_append, decB]
theorem vText_data (l : List Ver) (n : Nat) (h : n ≤ l.length) : (vText l n).data.toList = joinC 10 ((l.take n).map lineL) := by
  induction n with
  | zero => rfl
  | succ n ih =>
    have e : gv l n = l[n]'(by omega) := gv_eq (by omega)
    show (vText l n ++ vLine (gv l n)).data.toList = _
    rw [ByteArray.data_append, Array.toList_append, ih (by omega), lineL_data, List.take_succ_eq_append_getElem (by omega), List.map_append, List.map_singleton, joinC_snoc, e]
theorem vText_all (l : List Ver) : (vText l l.length).data.toList = joinC 10 (l.map lineL) := by rw [vText_data l _ (Nat.le_refl _), List.take_length]
theorem no_dig {c : UInt8} {t : List UInt8} (h : t.all isDig = true) (hc : isDig c = false) : c ∉ t := fun hm => by
  have := List.all_eq_true.1 h c hm
  rw [hc] at this; cases this
theorem pT_no {c : UInt8} (p : Int) (hc : isDig c = false) (h45 : c ≠ 45) : c ∉ pT p := by
  unfold pT
  split
  · simpa using h45
  · exact no_dig (dec_props _).1 hc
theorem lineL_spl (x : Ver) : spl 32 (lineL x) = [pT x.p, Lib.decDigits x.k.toNat, Lib.decDigits x.v.toNat] := by
  unfold lineL
  rw [spl_app _ (pT_no _ (by decide) (by decide)), spl_app _ (no_dig (dec_props _).1 (by decide)), spl_none (no_dig (dec_props _).1 (by decide))]
theorem lineL_no (x : Ver) : (10 : UInt8) ∉ lineL x := by
  unfold lineL
  simp only [List.mem_append, List.mem_cons, not_or]
  exact ⟨pT_no _ (by decide) (by decide), by decide, no_dig (dec_props _).1 (by decide), by decide, no_dig (dec_props _).1 (by decide)⟩
/-! ### a line, in the program -/
/-- What numbersIn yields. -/
def numR (s : ByteArray) (k : Nat) : List Int × Bool :=
  if (splB 32 s).length = k then
    match optMap (fun p : ByteArray => if (natR p).2 then some ((natR p).1 : Int) else none) (splB 32 s) with
    | some l => (l, true)
    | none => ([], false)
  else ([], false)
def parR (a : ByteArray) : Int × Bool := if a = ⟨#[45]⟩ then (-1, true) else ((natR a).1, (natR a).2)
def cutR (s : ByteArray) : ByteArray × ByteArray × Bool := (mkS (cutC 32 s.data.toList).1, mkS (cutC 32 s.data.toList).2.1, (cutC 32 s.data.toList).2.2)
def pvLine (s : ByteArray) : Option Ver :=
  if (cutR s).2.2 && (parR (cutR s).1).2 && (numR (cutR s).2.1 2).2 then some ⟨(parR (cutR s).1).1, gi (numR (cutR s).2.1 2).1 0, gi (numR (cutR s).2.1 2).1 1⟩ else none
def svLine (s : ByteArray) : Option Ver :=
  match splB 32 s with
  | [a, b, d] => some ⟨rdR a, rdR b, rdR d⟩
  | _ => none
def lnR (s : ByteArray) : List ByteArray × Bool := if s.size = 0 then ([], true) else if bN s (s.size - 1) = 10 then (splB 10 (s.extract 0 (s.size - 1)), true) else ([], false)
def rPVi (s : ByteArray) : List Ver × Bool :=
  if (lnR s).2 && decide ((lnR s).1.length ≤ 60) then
    match optMap pvLine (lnR s).1 with
    | some out => if areVers out then (out, true) else ([], false)
    | none => ([], false)
  else ([], false)
def rPVs (s : ByteArray) : List Ver × Bool :=
  if (splB 10 s).length ≤ 61 then
    match optMap svLine ((splB 10 s).take ((splB 10 s).length - 1)) with
    | some out => if areVers out && decide (vText out out.length = s) then (out, true) else ([], false)
    | none => ([], false)
  else ([], false)
theorem natR_dec {t : List UInt8} (h : (natR (mkS t)).2 = true) : Lib.decDigits (natR (mkS t)).1 = t := by
  cases hb : isNumB 9 (mkS t).data.toList
  · rw [natR_no hb] at h; cases h
  · rw [natR_yes hb]
    show Lib.decDigits (numV (mkS t).data.toList) = t
    rw [isNum_dec hb, mkS_data]
theorem natR_of (n : Nat) (h : n < 10 ^ 9) : natR (mkS (Lib.decDigits n)) = (n, true) := by
  have hl := (dec_len 9 n h (by omega)).1
  have hb : isNumB 9 (mkS (Lib.decDigits n)).data.toList = true := by rw [mkS_data]; exact dec_isNum n 9 hl
  rw [natR_yes hb, mkS_data, (dec_props n).2.1]
theorem rdR_of (n : Nat) (h : n < 10 ^ 6) : rdR (mkS (Lib.decDigits n)) = (n : Int) := by
  have hl := (dec_len 6 n h (by omega)).1
  have hb : isNumB 6 (mkS (Lib.decDigits n)).data.toList = true := by rw [mkS_data]; exact dec_isNum n 6 hl
  rw [rdR_yes hb, mkS_data, (dec_props n).2.1]
theorem splB_mk (c : UInt8) (t : List UInt8) : splB c (mkS t) = (spl c t).map mkS := by unfold splB; rw [mkS_data]
theorem mkS_inj {a b : List UInt8} (h : mkS a = mkS b) : a = b := by rw [← mkS_data a, ← mkS_data b, h]
theorem dec_ne45 (n : Nat) : Lib.decDigits n ≠ [45] := fun h => by
  have := (dec_props n).1
  rw [h] at this
  exact absurd this (by decide)
theorem numR_inv {r : ByteArray} (h : (numR r 2).2 = true) : ∃ B D : Nat, (numR r 2).1 = [(B : Int), (D : Int)] ∧ r.data.toList = Lib.decDigits B ++ 32 :: Lib.decDigits D := by
  unfold numR at h ⊢
  by_cases hl : (splB 32 r).length = 2
  · rw [if_pos hl] at h ⊢
    cases ho : optMap (fun p : ByteArray => if (natR p).2 then some ((natR p).1 : Int) else none) (splB 32 r) with
    | none => rw [ho] at h; cases h
    | some l =>
      unfold splB at ho hl
      rw [List.length_map] at hl
      obtain ⟨b, d, hs⟩ : ∃ b d, spl 32 r.data.toList = [b, d] := by
        cases hs : spl 32 r.data.toList with
        | nil => rw [hs] at hl; cases hl
        | cons b L =>
          cases L with
          | nil => rw [hs] at hl; cases hl
          | cons d L =>
            cases L with
            | nil => exact ⟨b, d, rfl⟩
            | cons e L => rw [hs] at hl; simp at hl
      rw [hs] at ho
      obtain ⟨B, m, h1, h2, rfl⟩ := optMap_cons_inv ho
      obtain ⟨D, m2, h3, h4, rfl⟩ := optMap_cons_inv h2
      obtain rfl : m2 = [] := (Option.some.inj h4).symm
      have key : ∀ (t : List UInt8) (Z : Int), (if (natR (mkS t)).2 then some ((natR (mkS t)).1 : Int) else none) = some Z → ∃ n : Nat, Z = n ∧ Lib.decDigits n = t := by
        intro t Z hz
        by_cases hb : (natR (mkS t)).2 = true
        · rw [if_pos hb] at hz
          exact ⟨(natR (mkS t)).1, (Option.some.inj hz).symm, natR_dec hb⟩
        · rw [if_neg hb] at hz; cases hz
      obtain ⟨B', rfl, e1⟩ := key b B h1
      obtain ⟨D', rfl, e2⟩ := key d D h3
      exact ⟨B', D', rfl, by rw [e1, e2]; exact (spl_2 hs).1⟩
  · rw [if_neg hl] at h; cases h
theorem numR_mk {B D : Nat} (hB : B < 10 ^ 9) (hD : D < 10 ^ 9) : numR (mkS (Lib.decDigits B ++ 32 :: Lib.decDigits D)) 2 = ([(B : Int), (D : Int)], true) := by
  have hs : splB 32 (mkS (Lib.decDigits B ++ 32 :: Lib.decDigits D)) = [mkS (Lib.decDigits B), mkS (Lib.decDigits D)] := by
    rw [splB_mk, spl_app _ (no_dig (dec_props _).1 (by decide)), spl_none (no_dig (dec_props _).1 (by decide))]; rfl
  unfold numR
  rw [hs, if_pos (show [mkS (Lib.decDigits B), mkS (Lib.decDigits D)].length = 2 from rfl)]
  have ho : optMap (fun p : ByteArray => if (natR p).2 then some ((natR p).1 : Int) else none) [mkS (Lib.decDigits B), mkS (Lib.decDigits D)] = some [(B : Int), (D : Int)] :=
    optMap_cons (by rw [natR_of B hB]; rfl) (optMap_cons (by rw [natR_of D hD]; rfl) rfl)
  rw [ho]
theorem pvLine_inv (s : ByteArray) (x : Ver) (h : pvLine s = some x) : s = mkS (lineL x) := by
  unfold pvLine at h
  by_cases hc : ((cutR s).2.2 && (parR (cutR s).1).2 && (numR (cutR s).2.1 2).2) = true
  · rw [if_pos hc] at h
    simp only [Bool.and_eq_true] at hc
    obtain ⟨⟨c1, c2⟩, c3⟩ := hc
    obtain ⟨B, D, e1, e2⟩ := numR_inv c3
    rw [e1] at h
    obtain rfl := Option.some.inj h
    rcases cut_cases 32 s.data.toList with ⟨_, hcut, _⟩ | ⟨a, b, hab, hno, hcut, _⟩
    · unfold cutR at c1; rw [hcut] at c1; cases c1
    · have hb : (cutR s).2.1.data.toList = b := by unfold cutR; rw [hcut]; exact mkS_data b
      have ha : (cutR s).1 = mkS a := by unfold cutR; rw [hcut]
      rw [hb] at e2
      rw [ha] at c2 ⊢
      have hp : pT (parR (mkS a)).1 = a := by
        unfold parR at c2 ⊢
        by_cases h45 : mkS a = ⟨#[45]⟩
        · rw [if_pos h45]
          have : a = [45] := mkS_inj h45
          rw [this]; rfl
        · rw [if_neg h45] at c2 ⊢
          have := natR_dec c2
          unfold pT
          rw [if_neg (by simp), Int.toNat_natCast]
          exact this
      refine ba_eq ?_
      rw [mkS_data, hab]
      show _ = pT (parR (mkS a)).1 ++ 32 :: (Lib.decDigits (Int.toNat (B : Int)) ++ 32 :: Lib.decDigits (Int.toNat (D : Int)))
      rw [hp, Int.toNat_natCast, Int.toNat_natCast, e2]
  · rw [if_neg hc] at h; cases h
/-- A version of small numbers. -/
def smallV (x : Ver) : Prop := (x.p = -1 ∨ ∃ P : Nat, x.p = P ∧ P < 10 ^ 6) ∧ ∃ K V : Nat, x.k = K ∧ x.v = V ∧ K < 10 ^ 6 ∧ V < 10 ^ 6
theorem pvLine_of (x : Ver) (h : smallV x) : pvLine (mkS (lineL x)) = some x := by
  obtain ⟨p, k, v⟩ := x
  obtain ⟨hp, K, V, rfl, rfl, hK, hV⟩ := h
  have hc : cutR (mkS (lineL ⟨p, (K : Int), (V : Int)⟩)) = (mkS (pT p), mkS (Lib.decDigits K ++ 32 :: Lib.decDigits V), true) := by
    unfold cutR lineL
    simp only [mkS_data, Int.toNat_natCast]
    rw [cutC_app _ (pT_no p (by decide) (by decide))]
  have hq : parR (mkS (pT p)) = (p, true) := by
    rcases hp with hp | ⟨P, hp, hP⟩
    · simp only at hp; subst hp; rfl
    · simp only at hp; subst hp
      have e : pT (P : Int) = Lib.decDigits P := by unfold pT; rw [if_neg (by omega), Int.toNat_natCast]
      unfold parR
      rw [e, if_neg (show ¬ mkS (Lib.decDigits P) = ⟨#[45]⟩ from fun h9 => dec_ne45 P (mkS_inj h9)), natR_of P (by omega)]
  unfold pvLine
  rw [hc]
  simp only
  rw [hq, numR_mk (by omega) (by omega)]
  rfl
theorem svLine_of (x : Ver) (h : smallV x) : svLine (mkS (lineL x)) = some x := by
  obtain ⟨p, k, v⟩ := x
  obtain ⟨hp, K, V, rfl, rfl, hK, hV⟩ := h
  unfold svLine
  rw [splB_mk, lineL_spl]
  simp only [List.map_cons, List.map_nil, Int.toNat_natCast]
  rw [rdR_of K hK, rdR_of V hV]
  have hq : rdR (mkS (pT p)) = p := by
    rcases hp with hp | ⟨P, hp, hP⟩
    · simp only at hp; subst hp
      exact rdR_no (by rw [mkS_data]; decide)
    · simp only at hp; subst hp
      have e : pT (P : Int) = Lib.decDigits P := by unfold pT; rw [if_neg (by omega), Int.toNat_natCast]
      rw [e, rdR_of P hP]
  rw [hq]
theorem small_of {L : List Ver} (h : areVers L = true) : ∀ x ∈ L, smallV x := by
  intro x hx
  obtain ⟨i, hi, rfl⟩ := List.getElem_of_mem hx
  obtain ⟨K, V, e1, e2, hK, hV, hp⟩ := ver_nats h i hi
  rw [gv_eq hi] at e1 e2 hp
  have h60 := (areVers_parts h).2.1
  refine ⟨?_, K, V, e1, e2, by omega, by omega⟩
  rcases hp with ⟨_, hp⟩ | ⟨_, P, hp, hP⟩
  · exact .inl hp
  · exact .inr ⟨P, hp, by omega⟩
theorem lines_map (L : List Ver) : ((L.map lineL).map mkS) = L.map fun x => mkS (lineL x) := by rw [List.map_map]; rfl
/-- Whole: the reference. -/
theorem rPVs_whole {L : List Ver} (h : areVers L = true) : rPVs (vText L L.length) = (L, true) := by
  have h60 := (areVers_parts h).2.1
  have hs : splB 10 (vText L L.length) = (L.map fun x => mkS (lineL x)) ++ [mkS []] := by
    unfold splB
    rw [vText_all, spl_join 10 _ (fun a ha => by obtain ⟨x, _, rfl⟩ := List.mem_map.1 ha; exact lineL_no x), List.map_append, lines_map]; rfl
  have hl : (splB 10 (vText L L.length)).length = L.length + 1 := by rw [hs]; simp
  unfold rPVs
  rw [hl, if_pos (by omega), hs, Nat.add_sub_cancel, List.take_left' (by simp), optMap_map (h := id) (fun x hx => svLine_of x (small_of h x hx)), List.map_id]
  simp [h]
theorem bN_last {t : List UInt8} : bN (mkS (t ++ [10])) ((mkS (t ++ [10])).size - 1) = 10 := by
  unfold bN
  rw [mkS_size, mkS_data, List.length_append, List.length_singleton, Nat.add_sub_cancel]
  simp [List.getD]
theorem extract_init (t : List UInt8) : (mkS (t ++ [10])).extract 0 ((mkS (t ++ [10])).size - 1) = mkS t := by
  refine ba_eq ?_
  rw [extract_list, mkS_data, mkS_size, mkS_data]
  simp
theorem vText_snoc {L : List Ver} (h : 0 < L.length) : ∃ t, vText L L.length = mkS (t ++ [10]) ∧ spl 10 t = L.map lineL := by
  have hj : (vText L L.length).data.toList = joinC 10 (L.map lineL) := vText_all L
  obtain ⟨t, ht⟩ : ∃ t, joinC 10 (L.map lineL) = t ++ [10] := by
    obtain ⟨l, x, rfl⟩ : ∃ l x, L = l ++ [x] := ⟨L.dropLast, L.getLast (by intro e; subst e; simp at h), (List.dropLast_concat_getLast _).symm⟩
    exact ⟨joinC 10 (l.map lineL) ++ lineL x, by rw [List.map_append, List.map_singleton, joinC_snoc, List.append_assoc]⟩
  refine ⟨t, ba_eq (by rw [hj, ht, mkS_data]), ?_⟩
  have h1 := spl_join 10 (L.map lineL) (fun a ha => by obtain ⟨x, _, rfl⟩ := List.mem_map.1 ha; exact lineL_no x)
  rw [ht, (spl_snoc 10 _ t (Nat.le_refl _)).1] at h1
  exact List.append_cancel_right h1
theorem rPVi_whole {L : List Ver} (h : areVers L = true) : rPVi (vText L L.length) = (L, true) := by
  obtain ⟨h1, h60, _⟩ := areVers_parts h
  obtain ⟨t, ht, hs⟩ := vText_snoc (L := L) (by omega)
  have hl : lnR (vText L L.length) = (L.map (fun x => mkS (lineL x)), true) := by
    unfold lnR
    rw [ht, if_neg (by rw [mkS_size]; simp), if_pos bN_last, extract_init, splB_mk, hs, lines_map]
  unfold rPVi
  rw [hl]
  simp only [List.length_map, Bool.true_and]
  rw [if_pos (by simpa using h60), optMap_map (h := id) (fun x hx => pvLine_of x (small_of h x hx)), List.map_id]
  simp [h]
theorem rPVi_sound {s : ByteArray} (h : (rPVi s).2 = true) : areVers (rPVi s).1 = true ∧ vText (rPVi s).1 (rPVi s).1.length = s := by
  unfold rPVi at h ⊢
  by_cases hc : ((lnR s).2 && decide ((lnR s).1.length ≤ 60)) = true
  · rw [if_pos hc] at h ⊢
    cases ho : optMap pvLine (lnR s).1 with
    | none => rw [ho] at h; cases h
    | some out =>
      rw [ho] at h
      simp only at h ⊢
      cases ha : areVers out with
      | false => rw [ha] at h; cases h
      | true =>
        simp only [if_true]
        refine ⟨ha, ?_⟩
        have hm := optMap_inv pvLine_inv ho
        have h1 := (areVers_parts ha).1
        unfold lnR at hm hc
        by_cases h0 : s.size = 0
        · rw [if_pos h0] at hm
          have := congrArg List.length hm
          simp at this
          omega
        · rw [if_neg h0] at hm hc
          by_cases h10 : bN s (s.size - 1) = 10
          · rw [if_pos h10] at hm
            simp only at hm
            have e : s.data.toList = (s.extract 0 (s.size - 1)).data.toList ++ [10] := by
              obtain ⟨x, hx, hxn⟩ := bN_get (s := s) (k := s.size - 1) (by omega)
              have hx10 : x = 10 := u8_inj (by rw [hxn, h10]; rfl)
              rw [extract_list, List.drop_zero]
              have := List.take_add_one (l := s.data.toList) (i := s.size - 1)
              rw [hx, hx10, Nat.sub_add_cancel (by omega), ← len_data, List.take_length] at this
              rw [← len_data]
              exact this
            have hd : (splB 10 (s.extract 0 (s.size - 1))).map (·.data.toList) = out.map lineL := by
              rw [hm, List.map_map]
              exact List.map_congr_left fun x _ => mkS_data _
            have hd2 : spl 10 (s.extract 0 (s.size - 1)).data.toList = out.map lineL := by
              rw [← hd]
              unfold splB
              rw [List.map_map]
              conv => lhs; rw [← List.map_id (spl 10 _)]
              exact List.map_congr_left fun x _ => (mkS_data x).symm
            refine ba_eq ?_
            rw [vText_all, ← hd2, ← (spl_snoc 10 _ _ (Nat.le_refl _)).2, e]
          · rw [if_neg h10] at hc; cases hc
  · rw [if_neg hc] at h; cases h
theorem rPVs_sound {s : ByteArray} (h : (rPVs s).2 = true) : areVers (rPVs s).1 = true ∧ vText (rPVs s).1 (rPVs s).1.length = s := by
  unfold rPVs at h ⊢
  by_cases hc : (splB 10 s).length ≤ 61
  · rw [if_pos hc] at h ⊢
    cases ho : optMap svLine ((splB 10 s).take ((splB 10 s).length - 1)) with
    | none => rw [ho] at h; cases h
    | some out =>
      rw [ho] at h
      simp only at h ⊢
      by_cases ha : (areVers out && decide (vText out out.length = s)) = true
      · rw [if_pos ha]
        simpa using ha
      · rw [if_neg ha] at h; cases h
  · rw [if_neg hc] at h; cases h
theorem rPVi_no {s : ByteArray} (h : (rPVi s).2 = false) : rPVi s = ([], false) := by
  unfold rPVi at h ⊢
  split
  · split
    · split
      · rename_i h1 _ _ h2 h3; rw [if_pos h1, h2] at h; simp only at h; rw [if_pos h3] at h; cases h
      · rfl
    · rfl
  · rfl
theorem rPVs_no {s : ByteArray} (h : (rPVs s).2 = false) : rPVs s = ([], false) := by
  unfold rPVs at h ⊢
  split
  · split
    · split
      · rename_i h1 _ _ h2 h3; rw [if_pos h1, h2] at h; simp only at h; rw [if_pos h3] at h; cases h
      · rfl
    · rfl
  · rfl
theorem rPV_eq (s : ByteArray) : rPVi s = rPVs s := by
  cases h1 : (rPVi s).2 with
  | true =>
    obtain ⟨a, b⟩ := rPVi_sound h1
    have h2 := rPVs_whole a
    have h3 := rPVi_whole a
    rw [b] at h2 h3
    rw [h2]; exact h3
  | false =>
    cases h2 : (rPVs s).2 with
    | true =>
      obtain ⟨a, b⟩ := rPVs_sound h2
      have h3 := rPVi_whole a
      rw [b] at h3
      rw [h3] at h1; cases h1
    | false => rw [rPVi_no h1, rPVs_no h2]
theorem rPV_len (s : ByteArray) : (rPVs s).1.length ≤ 60 := by
  cases h : (rPVs s).2 with
  | true => exact (areVers_parts (rPVs_sound h).1).2.1
  | false => rw [rPVs_no h]; exact Nat.zero_le _
end Go.Proofs.YtgngnkndebkbmaaDoor
