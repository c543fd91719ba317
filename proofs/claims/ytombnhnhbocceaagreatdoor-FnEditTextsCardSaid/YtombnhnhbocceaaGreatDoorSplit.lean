/- Plain words: a text cut at a byte; numbers in decimal. No function of the program. -/
import Derived.Test.YtombnhnhbocceaaGreatDoorNum
import Derived.Lib.Split
set_option linter.unusedSimpArgs false
set_option linter.unusedVariables false
namespace Go.Proofs.YtombnhnhbocceaaGreatDoor
open Go.RowKit

def headOn (x : UInt8) : List (List UInt8) → List (List UInt8)
  | [] => [[x]]
  | y :: ys => (x :: y) :: ys
/-- A text cut at each c. -/
def spl (c : UInt8) : List UInt8 → List (List UInt8)
  | [] => [[]]
  | x :: xs => if x = c then [] :: spl c xs else headOn x (spl c xs)
theorem spl_cons (c x : UInt8) (xs : List UInt8) : spl c (x :: xs) = if x = c then [] :: spl c xs else headOn x (spl c xs) := rfl
theorem spl_none {c : UInt8} {a : List UInt8} (h : c ∉ a) : spl c a = [a] := by
  induction a with
  | nil => rfl
  | cons x a ih =>
    have h1 : ¬ x = c := fun e => h (by simp [e])
    rw [spl_cons, if_neg h1, ih (fun h2 => h (by simp [h2]))]
    rfl
theorem spl_app {c : UInt8} {a : List UInt8} (b : List UInt8) (h : c ∉ a) : spl c (a ++ c :: b) = a :: spl c b := by
  induction a with
  | nil => show spl c (c :: b) = _; rw [spl_cons, if_pos rfl]
  | cons x a ih =>
    have h1 : ¬ x = c := fun e => h (by simp [e])
    show spl c (x :: (a ++ c :: b)) = _
    rw [spl_cons, if_neg h1, ih (fun h2 => h (by simp [h2]))]
    rfl
/-- A text either has no c, or is cut at its first one. -/
theorem first_c (c : UInt8) (s : List UInt8) : (c ∉ s ∧ Lib.index s [c] = -1) ∨ ∃ a b, s = a ++ c :: b ∧ c ∉ a ∧ Lib.index s [c] = (a.length : Int) := by
  induction s with
  | nil => exact .inl ⟨by simp, rfl⟩
  | cons x s ih =>
    have hp : List.isPrefixOf [c] (x :: s) = (c == x) := by simp [List.isPrefixOf]
    by_cases hx : c = x
    · subst hx
      refine .inr ⟨[], s, rfl, by simp, ?_⟩
      rw [Lib.index, hp]; simp
    · have hf : (c == x) = false := by simpa using hx
      rcases ih with ⟨h1, h2⟩ | ⟨a, b, rfl, h1, h2⟩
      · refine .inl ⟨by simp [hx, h1], ?_⟩
        rw [Lib.index, hp, hf, h2]; rfl
      · refine .inr ⟨x :: a, b, rfl, by simp [hx, h1], ?_⟩
        rw [Lib.index, hp, hf, h2, if_neg (by simp), if_neg (by first | (simp; done) | (simp; omega))]
        simp
theorem split_eq (c : UInt8) (n : Nat) : ∀ s : List UInt8, s.length ≤ n → Lib.splitK [c] 0 (Lib.count s [c]) s = spl c s := by
  induction n with
  | zero =>
    intro s hs
    obtain rfl := List.eq_nil_of_length_eq_zero (Nat.le_zero.1 hs)
    rw [Lib.count_miss rfl]; rfl
  | succ n ih =>
    intro s hs
    rcases first_c c s with ⟨h1, h2⟩ | ⟨a, b, rfl, h1, h2⟩
    · rw [Lib.count_miss h2, spl_none h1]; rfl
    · have hd : (a ++ c :: b).drop (a.length + 1) = b := by rw [List.drop_append]; simp
      have ht : (a ++ c :: b).take a.length = a := by simp
      have hc := Lib.count_hit (sub := [c]) (by simp) h2
      rw [show [c].length = 1 from rfl, hd] at hc
      rw [hc, Nat.add_comm 1, Lib.splitK, if_neg (by rw [h2]; first | (simp; done) | (simp; omega)), h2, spl_app b h1]
      simp only [Int.toNat_natCast, Nat.add_zero, List.length_singleton]
      rw [hd, ht, ih b (by simp at hs; omega)]
/-- The same over strings. -/
def mkS (l : List UInt8) : ByteArray := ⟨l.toArray⟩
theorem mkS_data (l : List UInt8) : (mkS l).data.toList = l := by simp [mkS]
theorem mkS_of (s : ByteArray) : mkS s.data.toList = s := ba_eq (mkS_data _)
theorem mkS_size (l : List UInt8) : (mkS l).size = l.length := by simp [mkS, ByteArray.size]
def splB (c : UInt8) (s : ByteArray) : List ByteArray := (spl c s.data.toList).map mkS
theorem map_mkS {L : List ByteArray} {X : List (List UInt8)} (h : L.map (·.data.toList) = X) : L = X.map mkS := by
  subst h
  rw [List.map_map]
  conv => lhs; rw [← List.map_id L]
  exact List.map_congr_left fun x _ => (mkS_of x).symm
theorem kitSplit_eq (c : UInt8) (s sep : ByteArray) (h : sep.data.toList = [c]) : Lib.splitB sep 0 (Lib.countB s sep) s = splB c s := by
  refine map_mkS ?_
  rw [Lib.splitB_data, h]
  show Lib.splitK [c] 0 (Lib.count s.data.toList sep.data.toList) _ = _
  rw [h]
  exact split_eq c _ _ (Nat.le_refl _)
/-- A text cut at its first c, or whole. -/
def cutC (c : UInt8) (s : List UInt8) : List UInt8 × List UInt8 × Bool := Lib.cut s [c]
theorem cutC_none {c : UInt8} {s : List UInt8} (h : c ∉ s) : cutC c s = (s, [], false) := by
  rcases first_c c s with ⟨h1, h2⟩ | ⟨a, b, rfl, h1, h2⟩
  · unfold cutC Lib.cut; rw [h2]; rfl
  · exact absurd (by simp) h
theorem app_unique {c : UInt8} : ∀ {a a' b b' : List UInt8}, c ∉ a → c ∉ a' → a ++ c :: b = a' ++ c :: b' → a = a' ∧ b = b'
  | [], [], b, b', _, _, h => by simpa using h
  | [], y :: a', b, b', _, h2, h => by simp at h; exact absurd (by simp [h.1]) h2
  | x :: a, [], b, b', h1, _, h => by simp at h; exact absurd (by simp [h.1]) h1
  | x :: a, y :: a', b, b', h1, h2, h => by
    have he : x = y ∧ a ++ c :: b = a' ++ c :: b' := by simpa using h
    obtain ⟨q1, q2⟩ := app_unique (fun hh => h1 (by simp [hh])) (fun hh => h2 (by simp [hh])) he.2
    exact ⟨by rw [he.1, q1], q2⟩
theorem cutC_app {c : UInt8} {a : List UInt8} (b : List UInt8) (h : c ∉ a) : cutC c (a ++ c :: b) = (a, b, true) := by
  rcases first_c c (a ++ c :: b) with ⟨h1, h2⟩ | ⟨a', b', he, h1, h2⟩
  · exact absurd (by simp) h1
  · obtain ⟨rfl, rfl⟩ := app_unique h h1 he
    unfold cutC Lib.cut
    rw [h2, if_pos (by omega)]
    simp only [Int.toNat_natCast, List.length_singleton]
    rw [show (a ++ c :: b).take a.length = a by simp, show (a ++ c :: b).drop (a.length + 1) = b by rw [List.drop_append]; simp]
/-- A text cut once, with and without c. -/
theorem cut_cases (c : UInt8) (s : List UInt8) : (c ∉ s ∧ cutC c s = (s, [], false) ∧ spl c s = [s]) ∨ ∃ a b, s = a ++ c :: b ∧ c ∉ a ∧ cutC c s = (a, b, true) ∧ spl c s = a :: spl c b := by
  rcases first_c c s with ⟨h1, h2⟩ | ⟨a, b, rfl, h1, h2⟩
  · exact .inl ⟨h1, cutC_none h1, spl_none h1⟩
  · exact .inr ⟨a, b, rfl, h1, cutC_app b h1, spl_app b h1⟩
theorem spl_ne (c : UInt8) (s : List UInt8) : spl c s ≠ [] := by
  rcases cut_cases c s with ⟨_, _, h⟩ | ⟨a, b, _, _, _, h⟩ <;> rw [h] <;> simp
/-! ### the cut as a loop makes it -/
/-- The parts closed behind n bytes, and where the open one begins. -/
structure SplAt (c : UInt8) (s : List UInt8) (n : Nat) (L : List ByteArray) (st : Nat) : Prop where
  le : st ≤ n
  no : c ∉ (s.take n).drop st
  eq : spl c s = L.map (·.data.toList) ++ spl c (s.drop st)
theorem SplAt.zero (c : UInt8) (s : List UInt8) : SplAt c s 0 [] 0 := ⟨Nat.le_refl _, by simp, rfl⟩
theorem take_drop_succ {s : List UInt8} {n st : Nat} {x : UInt8} (h : st ≤ n) (hx : s[n]? = some x) : (s.take (n + 1)).drop st = (s.take n).drop st ++ [x] := by
  have hn := (List.getElem?_eq_some_iff.1 hx).1
  rw [List.take_add_one, hx, List.drop_append_of_le_length (by rw [List.length_take]; omega)]; rfl
theorem SplAt.on {c : UInt8} {s : List UInt8} {n : Nat} {L : List ByteArray} {st : Nat} (h : SplAt c s n L st) {x : UInt8} (hx : s[n]? = some x) (hc : x ≠ c) : SplAt c s (n + 1) L st := by
  refine ⟨by have := h.le; omega, ?_, h.eq⟩
  rw [take_drop_succ h.le hx]
  have := h.no
  simp only [List.mem_append, List.mem_singleton, not_or]
  exact ⟨this, fun e => hc e.symm⟩
theorem SplAt.close {c : UInt8} {s : List UInt8} {n : Nat} {L : List ByteArray} {st : Nat} (h : SplAt c s n L st) (hx : s[n]? = some c) {y : ByteArray} (hy : y.data.toList = (s.take n).drop st) : SplAt c s (n + 1) (L ++ [y]) (n + 1) := by
  refine ⟨Nat.le_refl _, by rw [List.drop_eq_nil_of_le (by rw [List.length_take]; omega)]; simp, ?_⟩
  have hn := (List.getElem?_eq_some_iff.1 hx).1
  have e : s.drop st = (s.take n).drop st ++ c :: s.drop (n + 1) := by
    have e1 : s = s.take n ++ c :: s.drop (n + 1) := by
      have := List.drop_eq_getElem_cons hn
      rw [(List.getElem?_eq_some_iff.1 hx).2] at this
      rw [← this, List.take_append_drop]
    conv => lhs; rw [e1]
    rw [List.drop_append_of_le_length (by rw [List.length_take]; have := h.le; omega)]
  rw [h.eq, e, spl_app _ h.no]
  simp [hy]
theorem SplAt.all {c : UInt8} {s : List UInt8} {L : List ByteArray} {st : Nat} (h : SplAt c s s.length L st) {y : ByteArray} (hy : y.data.toList = s.drop st) : L ++ [y] = (spl c s).map mkS := by
  refine map_mkS ?_
  have hno := h.no
  rw [List.take_length] at hno
  rw [h.eq, spl_none hno]
  simp [hy]
theorem SplAt.len {c : UInt8} {s : List UInt8} {n : Nat} {L : List ByteArray} {st : Nat} (h : SplAt c s n L st) : L.length ≤ n → L.length + 1 ≤ n + 1 := by omega
theorem spl_len (c : UInt8) (n : Nat) : ∀ s : List UInt8, s.length ≤ n → (spl c s).length ≤ s.length + 1 ∧ 1 ≤ (spl c s).length := by
  induction n with
  | zero => intro s hs; obtain rfl := List.eq_nil_of_length_eq_zero (Nat.le_zero.1 hs); exact ⟨Nat.le_refl _, Nat.le_refl _⟩
  | succ n ih =>
    intro s hs
    rcases cut_cases c s with ⟨_, _, h⟩ | ⟨a, b, rfl, _, _, h⟩
    · rw [h]; simp
    · rw [h]; have := ih b (by simp at hs; omega); simp; omega
theorem len_data (s : ByteArray) : s.data.toList.length = s.size := by rw [Array.length_toList]; rfl
theorem splB_len (c : UInt8) (s : ByteArray) : (splB c s).length ≤ s.size + 1 ∧ 1 ≤ (splB c s).length := by
  have := spl_len c _ s.data.toList (Nat.le_refl _)
  unfold splB; rw [List.length_map, ← len_data]
  exact this
/-- Each part is no longer than the whole and holds no c. -/
theorem spl_part (c : UInt8) (n : Nat) : ∀ s : List UInt8, s.length ≤ n → ∀ p ∈ spl c s, p.length ≤ s.length ∧ c ∉ p := by
  induction n with
  | zero => intro s hs; obtain rfl := List.eq_nil_of_length_eq_zero (Nat.le_zero.1 hs); intro p hp; simp [spl] at hp; subst hp; simp
  | succ n ih =>
    intro s hs p hp
    rcases cut_cases c s with ⟨h1, _, h⟩ | ⟨a, b, rfl, h1, _, h⟩
    · rw [h] at hp; simp at hp; subst hp; exact ⟨Nat.le_refl _, h1⟩
    · rw [h] at hp
      rcases List.mem_cons.1 hp with rfl | hp
      · exact ⟨by simp, h1⟩
      · have := ih b (by simp at hs; omega) p hp
        exact ⟨by simp; omega, this.2⟩
theorem splB_part {c : UInt8} {s p : ByteArray} (h : p ∈ splB c s) : p.size ≤ s.size := by
  obtain ⟨q, hq, rfl⟩ := List.mem_map.1 h
  have := (spl_part c _ _ (Nat.le_refl _) q hq).1
  rw [mkS_size, ← len_data]; exact this
/-! ### numbers -/
def isDig (x : UInt8) : Bool := decide (48 ≤ x.toNat) && decide (x.toNat ≤ 57)
def numV (s : List UInt8) : Nat := s.foldl (fun a x => 10 * a + (x.toNat - 48)) 0
def isNumB (m : Nat) (s : List UInt8) : Bool := decide (1 ≤ s.length) && decide (s.length ≤ m) && !(decide (1 < s.length) && s.head? == some 48) && s.all isDig
theorem numV_snoc (s : List UInt8) (x : UInt8) : numV (s ++ [x]) = 10 * numV s + (x.toNat - 48) := by simp [numV]
theorem numV_lt (s : List UInt8) : ∀ {t : List UInt8}, t.reverse = s → t.all isDig = true → numV t < 10 ^ t.length := by
  induction s with
  | nil => intro t h _; obtain rfl : t = [] := by simpa using h
           decide
  | cons x s ih =>
    intro t h hd
    obtain rfl : t = s.reverse ++ [x] := by have := congrArg List.reverse h; simpa using this
    have h1 : (s.reverse).all isDig = true ∧ isDig x = true := by simpa [and_comm] using hd
    have h2 := ih (t := s.reverse) (by simp) h1.1
    have h3 : x.toNat ≤ 57 := by have := h1.2; unfold isDig at this; simp at this; omega
    rw [numV_snoc, List.length_append, List.length_singleton, Nat.pow_succ]
    omega
theorem numV_lt' {t : List UInt8} (h : t.all isDig = true) : numV t < 10 ^ t.length := numV_lt _ rfl h
theorem dig_of (d : Nat) (h : d < 10) : isDig (UInt8.ofNat (48 + d)) = true ∧ (UInt8.ofNat (48 + d)).toNat - 48 = d ∧ (UInt8.ofNat (48 + d)).toNat = 48 + d := by
  have e : (UInt8.ofNat (48 + d)).toNat = 48 + d := by rw [UInt8.toNat_ofNat']; omega
  refine ⟨by unfold isDig; rw [e]; simp; omega, by omega, e⟩
theorem dec_props (n : Nat) : (Lib.decDigits n).all isDig = true ∧ numV (Lib.decDigits n) = n ∧ (1 < (Lib.decDigits n).length → (Lib.decDigits n).head? ≠ some 48) ∧ 1 ≤ (Lib.decDigits n).length ∧ (0 < n → (Lib.decDigits n).head? ≠ some 48) := by
  induction n using Nat.strongRecOn with
  | ind n ih =>
    by_cases h : n < 10
    · obtain ⟨h1, h2, h3⟩ := dig_of n h
      rw [dec_small n h]
      generalize UInt8.ofNat (48 + n) = x at h1 h2 h3
      refine ⟨by simp [h1], by simp [numV, h2], by simp, by simp, fun hp => ?_⟩
      simp only [List.head?_cons, ne_eq, Option.some.injEq]
      intro e
      have := congrArg UInt8.toNat e
      rw [h3] at this
      simp at this; omega
    · obtain ⟨h1, h2, h3⟩ := dig_of (n % 10) (Nat.mod_lt _ (by omega))
      obtain ⟨i1, i2, i3, i4, i5⟩ := ih (n / 10) (by omega)
      rw [dec_big n h]
      generalize UInt8.ofNat (48 + n % 10) = x at h1 h2 h3
      have hh : (Lib.decDigits (n / 10) ++ [x]).head? = (Lib.decDigits (n / 10)).head? := by
        cases hd : Lib.decDigits (n / 10) with
        | nil => rw [hd] at i4; simp at i4
        | cons x l => rfl
      refine ⟨by rw [List.all_append, i1]; simp [h1], by rw [numV_snoc, i2, h2]; omega, fun _ => ?_, by simp, fun _ => ?_⟩
      · rw [hh]; exact i5 (by omega)
      · rw [hh]; exact i5 (by omega)
theorem dec_isNum (n m : Nat) (h : (Lib.decDigits n).length ≤ m) : isNumB m (Lib.decDigits n) = true := by
  obtain ⟨h1, h2, h3, h4, h5⟩ := dec_props n
  unfold isNumB
  simp only [Bool.and_eq_true, decide_eq_true_eq, Bool.not_eq_true', Bool.and_eq_false_iff, decide_eq_false_iff_not, beq_eq_false_iff_ne, ne_eq]
  refine ⟨⟨⟨h4, h⟩, ?_⟩, h1⟩
  by_cases hl : 1 < (Lib.decDigits n).length
  · exact .inr (h3 hl)
  · exact .inl hl
/-- A number's text is the text of that number. -/
theorem dec_numV (s : List UInt8) : ∀ {t : List UInt8}, t.reverse = s → t.all isDig = true → 1 ≤ t.length → (1 < t.length → t.head? ≠ some 48) → Lib.decDigits (numV t) = t ∧ (t.head? ≠ some 48 → 0 < numV t) := by
  induction s with
  | nil => intro t h _ hl; obtain rfl : t = [] := by simpa using h
           simp at hl
  | cons x s ih =>
    intro t h hd hl hz
    obtain rfl : t = s.reverse ++ [x] := by have := congrArg List.reverse h; simpa using this
    have h1 : (s.reverse).all isDig = true ∧ isDig x = true := by simpa [and_comm] using hd
    have h3 : 48 ≤ x.toNat ∧ x.toNat ≤ 57 := by have := h1.2; unfold isDig at this; simpa using this
    have hx : UInt8.ofNat (48 + (x.toNat - 48)) = x := by rw [show 48 + (x.toNat - 48) = x.toNat by omega]; exact UInt8.ofNat_toNat
    rw [numV_snoc]
    cases s with
    | nil =>
      have e : numV [] = 0 := rfl
      simp only [List.reverse_nil, List.nil_append, e, Nat.mul_zero, Nat.zero_add]
      refine ⟨by rw [dec_small _ (by omega), hx], fun hh => ?_⟩
      have : x ≠ 48 := by simpa using hh
      have h4 : x.toNat ≠ 48 := fun e9 => this (by rw [← hx, e9]; rfl)
      omega
    | cons y s =>
      have hne : (y :: s).reverse ≠ [] := by simp
      have hh : ((y :: s).reverse ++ [x]).head? = ((y :: s).reverse).head? := by
        cases hd9 : (y :: s).reverse with
        | nil => exact absurd hd9 hne
        | cons z l => rfl
      have hz2 := hz (by simp)
      rw [hh] at hz2
      have := ih (t := (y :: s).reverse) (by simp) h1.1 (by simp) (fun _ => hz2)
      have hp := this.2 hz2
      refine ⟨?_, fun _ => by omega⟩
      rw [dec_big _ (by omega), show (10 * numV (y :: s).reverse + (x.toNat - 48)) / 10 = numV (y :: s).reverse by omega, show (10 * numV (y :: s).reverse + (x.toNat - 48)) % 10 = x.toNat - 48 by omega, this.1, hx]
theorem isNum_dec {m : Nat} {t : List UInt8} (h : isNumB m t = true) : Lib.decDigits (numV t) = t := by
  unfold isNumB at h
  simp only [Bool.and_eq_true, decide_eq_true_eq, Bool.not_eq_true', Bool.and_eq_false_iff, decide_eq_false_iff_not, beq_eq_false_iff_ne, ne_eq] at h
  obtain ⟨⟨⟨h1, h2⟩, h3⟩, h4⟩ := h
  refine (dec_numV _ rfl h4 h1 (fun hl => ?_)).1
  rcases h3 with h3 | h3
  · exact absurd hl h3
  · exact h3
theorem isNum_lt {m : Nat} {t : List UInt8} (h : isNumB m t = true) : numV t < 10 ^ m := by
  unfold isNumB at h
  simp only [Bool.and_eq_true, decide_eq_true_eq] at h
  exact Nat.lt_of_lt_of_le (numV_lt' h.2) (Nat.pow_le_pow_right (by omega) h.1.1.2)
theorem isNum_mono {m m' : Nat} {t : List UInt8} (h : isNumB m t = true) (hl : t.length ≤ m') : isNumB m' t = true := by
  unfold isNumB at h ⊢
  simp only [Bool.and_eq_true, decide_eq_true_eq] at h ⊢
  exact ⟨⟨⟨h.1.1.1, hl⟩, h.1.2⟩, h.2⟩
end Go.Proofs.YtombnhnhbocceaaGreatDoor
