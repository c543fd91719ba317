/- Plain facts on journals: one changed bit is found, a bit that is flipped twice, common frames. No function of the program. -/
import Derived.Test.YtmjchkaipbmjkaaPlain
import Derived.Test.YtmjchkaipbmjkaaFlip
import Derived.Test.YtmjchkaipbmjkaaCommon
import Derived.Test.YtmjchkaipbmjkaaAppend
set_option linter.unusedSimpArgs false
set_option linter.unusedVariables false
namespace Go.Proofs.Ytmjchkaipbmjkaa
open Go.RowKit

def flp (x : Int) (t : Nat) : Int := bits .xor .i64 x (wrap64 (2 ^ t))
theorem flp_ok (x : Int) (t : Nat) (h0 : 0 ≤ x) (h1 : x ≤ 255) (ht : t ≤ 7) : 0 ≤ flp x t ∧ flp x t ≤ 255 ∧ flp (flp x t) t = x ∧ (flp x t - x) % 251 ≠ 0 := by
  have h : ∀ (a : Fin 256) (b : Fin 8), 0 ≤ flp (a.1 : Int) b.1 ∧ flp (a.1 : Int) b.1 ≤ 255 ∧ flp (flp (a.1 : Int) b.1) b.1 = (a.1 : Int) ∧ (flp (a.1 : Int) b.1 - (a.1 : Int)) % 251 ≠ 0 := by decide +kernel
  have := h ⟨x.toNat, by omega⟩ ⟨t, by omega⟩
  have e : ((x.toNat : Nat) : Int) = x := by omega
  rw [e] at this
  exact this
theorem rFlip_eq (b : List Int) (p q : Int) : rFlip b p q = if isBytes b && inR p 0 ((b.length : Int) - 1) && inR q 0 7 then (b.set p.toNat (flp (gi b p.toNat) q.toNat), true) else ([], false) := rfl
theorem allIn_set {l : List Int} {lo hi y : Int} {j : Nat} (h : allIn l lo hi = true) (hy : lo ≤ y ∧ y ≤ hi) : allIn (l.set j y) lo hi = true := by
  unfold allIn at *
  rw [List.all_eq_true] at *
  intro x hx
  rcases List.mem_or_eq_of_mem_set hx with h1 | h1
  · exact h x h1
  · subst h1; exact inR_t.2 hy
theorem isBytes_set {l : List Int} {y : Int} {j : Nat} (h : isBytes l = true) (hy : 0 ≤ y ∧ y ≤ 255) : isBytes (l.set j y) = true := by
  have h1 := isBytes_len h
  have h2 := isBytes_in h
  unfold isBytes
  rw [List.length_set, allIn_set h2 hy, decide_eq_true h1]; rfl
theorem gi_set_same {l : List Int} {j : Nat} (y : Int) (h : j < l.length) : gi (l.set j y) j = y := by
  unfold gi; rw [List.getD_eq_getElem?_getD, List.getElem?_set_self h]; rfl
theorem gi_set_ne {l : List Int} {j i : Nat} (y : Int) (h : j ≠ i) : gi (l.set j y) i = gi l i := by
  unfold gi; rw [List.getD_eq_getElem?_getD, List.getElem?_set_ne h, ← List.getD_eq_getElem?_getD]
/-- Flipped twice. -/
theorem rFlip_back {b : List Int} {p q : Int} (h : (rFlip b p q).2 = true) : rFlip (rFlip b p q).1 p q = (b, true) := by
  by_cases hc : (isBytes b && inR p 0 ((b.length : Int) - 1) && inR q 0 7) = true
  · have e : rFlip b p q = (b.set p.toNat (flp (gi b p.toNat) q.toNat), true) := by rw [rFlip_eq, if_pos hc]
    simp only [Bool.and_eq_true] at hc
    obtain ⟨⟨h1, h2⟩, h3⟩ := hc
    have h4 := inR_t.1 h2
    have h5 := inR_t.1 h3
    have hp : p.toNat < b.length := by omega
    obtain ⟨x0, x1⟩ := allIn_gi (isBytes_in h1) hp
    obtain ⟨f0, f1, f2, _⟩ := flp_ok (gi b p.toNat) q.toNat x0 x1 (by omega)
    rw [e, rFlip_eq, isBytes_set h1 ⟨f0, f1⟩, List.length_set, h2, h3]
    simp only [Bool.and_self, if_true]
    rw [gi_set_same _ hp, f2, List.set_set]
    congr 1
    apply List.ext_getElem?
    intro i
    by_cases hi : p.toNat = i
    · subst hi; rw [List.getElem?_set_self hp, gi_eq hp, List.getElem?_eq_getElem hp]
    · rw [List.getElem?_set_ne hi]
  · have e : rFlip b p q = ([], false) := by rw [rFlip_eq, if_neg hc]
    rw [e] at h; cases h
theorem chkFrom_ne (l : List Int) : ∀ a b : Int, a % 251 ≠ b % 251 → chkFrom l a % 251 ≠ chkFrom l b % 251 := by
  induction l with
  | nil => intro a b h; exact h
  | cons x l ih =>
    intro a b h
    show chkFrom l ((7 * a + x + 1) % 251) % 251 ≠ chkFrom l ((7 * b + x + 1) % 251) % 251
    exact ih _ _ (by omega)
theorem chkFrom_app (l m : List Int) (a : Int) : chkFrom (l ++ m) a = chkFrom m (chkFrom l a) := by unfold chkFrom; rw [List.foldl_append]
theorem chk_set {l : List Int} {j : Nat} {y : Int} (n : Int) (h : j < l.length) (hd : (y - gi l j) % 251 ≠ 0) : chk (l.set j y) n % 251 ≠ chk l n % 251 := by
  have e1 : l = l.take j ++ gi l j :: l.drop (j + 1) := by
    rw [gi_eq h]; simp
  have e2 : l.set j y = l.take j ++ y :: l.drop (j + 1) := List.set_eq_take_append_cons_drop .. |>.trans (if_pos h)
  unfold chk
  rw [e2]
  conv => rhs; rw [e1]
  rw [chkFrom_app, chkFrom_app]
  generalize chkFrom (l.take j) (17 + 3 * n) = c
  show chkFrom (l.drop (j + 1)) ((7 * c + y + 1) % 251) % 251 ≠ chkFrom (l.drop (j + 1)) ((7 * c + gi l j + 1) % 251) % 251
  exact chkFrom_ne _ _ _ (by omega)
theorem frameB_at0 (l : List Int) (n : Int) : gi (frameB l n) 0 = (l.length : Int) := rfl
theorem frameB_chk (l : List Int) (n : Int) : gi (frameB l n) (l.length + 1) = chk l n := by
  unfold frameB gi
  rw [List.cons_append, List.getD_eq_getElem?_getD, List.getElem?_cons_succ, List.getElem?_append_right (Nat.le_refl _), Nat.sub_self]; rfl
theorem frameB_mid (l : List Int) (n : Int) (j : Nat) (h : j < l.length) : gi (frameB l n) (j + 1) = gi l j := by
  unfold frameB gi
  rw [List.cons_append, List.getD_eq_getElem?_getD, List.getElem?_cons_succ, List.getElem?_append_left h, ← List.getD_eq_getElem?_getD]
theorem frameB_bytes {l : List Int} (n : Int) (h : isFrame l = true) : isBytes (frameB l n) = true := by
  have h1 := isFrame_len h
  unfold isBytes
  rw [frameB_in h, frameB_len, decide_eq_true (by omega)]; rfl
/-- One changed bit in the frame's numbers: nothing is recovered. -/
theorem damage {l : List Int} {j t : Nat} (h : isFrame l = true) (hj : j < l.length) (ht : t ≤ 7) :
    rFlip (frameB l 0) ((j : Int) + 1) t = ((frameB l 0).set (j + 1) (flp (gi l j) t), true) ∧ rRecover ((frameB l 0).set (j + 1) (flp (gi l j) t)) = ([], 0, true) := by
  have hl := isFrame_len h
  have hb := frameB_bytes 0 h
  obtain ⟨x0, x1⟩ := allIn_gi (isFrame_in h) hj
  obtain ⟨f0, f1, _, f3⟩ := flp_ok (gi l j) t x0 x1 ht
  have hfl := frameB_len l 0
  constructor
  · rw [rFlip_eq, hb, inR_t.2 (by omega), inR_t.2 (by omega)]
    simp only [Bool.and_self, if_true]
    rw [show ((j : Int) + 1).toNat = j + 1 from by omega, frameB_mid l 0 j hj, Int.toNat_natCast]
  · have hB := isBytes_set (j := j + 1) hb ⟨f0, f1⟩
    have hrec : recov ((frameB l 0).set (j + 1) (flp (gi l j) t)) = ([], 0) := by
      unfold recov
      refine runR_stop _ _ _ _ (fun ⟨_, hok⟩ => ?_)
      have hg0 : gi ((frameB l 0).set (j + 1) (flp (gi l j) t)) 0 = (l.length : Int) := by rw [gi_set_ne _ (by omega), frameB_at0]
      have hfr : frameAt ((frameB l 0).set (j + 1) (flp (gi l j) t)) 0 = l.set j (flp (gi l j) t) := by
        rw [frameAt_eq hg0]
        unfold frameB
        rw [List.cons_append]
        simp only [List.set_cons_succ, Nat.zero_add, List.drop_succ_cons, List.drop_zero]
        rw [List.set_append_left _ _ hj, List.take_append_of_le_length (by simp), List.take_of_length_le (by simp)]
      have hno := okAt_chk (b := (frameB l 0).set (j + 1) (flp (gi l j) t)) (p := 0) (c := 0) hg0 (by
        rw [hfr, gi_set_ne _ (by omega), show 0 + 1 + l.length = l.length + 1 from by omega, frameB_chk]
        intro he
        have := chk_set (l := l) (j := j) (y := flp (gi l j) t) 0 hj f3
        exact this (by rw [show chk (l.set j (flp (gi l j) t)) 0 = chk l 0 from he]))
      have hok2 : okAt ((frameB l 0).set (j + 1) (flp (gi l j) t)) 0 0 = true := hok
      rw [hno] at hok2
      cases hok2
    unfold rRecover
    rw [hB, hrec]; rfl
theorem comm_sym (x y : List (List Int)) : comm x y = comm y x := by
  induction x generalizing y with
  | nil => rw [comm_nil _ _ (.inl rfl), comm_nil _ _ (.inr rfl)]
  | cons a x ih =>
    cases y with
    | nil => rfl
    | cons b y =>
      show (if a == b then comm x y + 1 else 0) = (if b == a then comm y x + 1 else 0)
      rw [ih y, show (a == b) = (b == a) from by rw [Bool.eq_iff_iff, beq_iff_eq, beq_iff_eq]; exact eq_comm]
theorem rCommon_sym (a b : List Int) : rCommon a b = rCommon b a := by
  unfold rCommon
  rw [comm_sym, Bool.and_comm]
theorem comm_take (x y : List (List Int)) : comm x y ≤ x.length ∧ comm x y ≤ y.length ∧ x.take (comm x y) = y.take (comm x y) := by
  induction x generalizing y with
  | nil => rw [comm_nil _ _ (.inl rfl)]; simp
  | cons a x ih =>
    cases y with
    | nil => rw [comm_nil _ _ (.inr rfl)]; simp
    | cons b y =>
      have e : comm (a :: x) (b :: y) = (if a == b then comm x y + 1 else 0) := rfl
      rw [e]
      cases hab : a == b
      · simp
      · obtain ⟨h1, h2, h3⟩ := ih y
        have hab2 := eq_of_beq hab
        simp only [if_true, List.length_cons, List.take_succ_cons]
        exact ⟨by omega, by omega, by rw [hab2, h3]⟩
theorem rCommon_t {a b : List Int} (h : (rCommon a b).2 = true) : isBytes a = true ∧ isBytes b = true ∧ (rCommon a b).1 = (comm (recov a).1 (recov b).1 : Int) := by
  unfold rCommon at h ⊢
  split at h
  case isTrue hc =>
    rw [if_pos hc]
    rw [Bool.and_eq_true] at hc
    exact ⟨hc.1, hc.2, rfl⟩
  case isFalse => cases h
end Go.Proofs.Ytmjchkaipbmjkaa
