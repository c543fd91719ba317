/- Plain facts of the law on repairs: the delays found, one count less, no delays at all. -/
import Derived.Test.YtgcgkpmjahgmnaaRpK
import Derived.Test.YtgcgkpmjahgmnaaRpG
import Derived.Test.YtgcgkpmjahgmnaaDrawRp
set_option linter.unusedSimpArgs false
set_option linter.unusedVariables false
namespace Go.Proofs.Ytgcgkpmjahgmnaa

theorem gi_take9 {v : List Int} {k j : Nat} (h : j < k) : gi (v.take k) j = gi v j := by
  unfold gi
  rw [List.getD_eq_getElem?_getD, List.getD_eq_getElem?_getD, List.getElem?_take_of_lt h]
theorem okAdd_iff {cl : Cl} {ds : List Int} {d : Int} : okAdd cl ds d = true ↔ ∀ j, j < ds.length → cl j ds.length (gi ds j) d = false := by
  unfold okAdd okTo_
  rw [List.all_eq_true]
  constructor
  · intro h j hj
    have := h j (List.mem_range.2 hj)
    simpa using this
  · intro h j hj
    rw [h j (List.mem_range.1 hj)]; rfl
theorem ext_iff {T : Tr} {L : Int} {v : List Int} (hp : T.p.length = T.f.length) : v ∈ extD (clOf T L) T.f.length [] ↔ v.length = T.f.length ∧ (∀ k, k < T.f.length → 0 ≤ gi v k ∧ gi v k ≤ 4) ∧ closeN T L v = 0 := by
  rw [mem_ext, closeN_0, hp]
  simp only [List.length_nil, Nat.zero_add, List.take_zero, true_and, Nat.zero_le, forall_const]
  constructor
  · rintro ⟨h1, h2⟩
    refine ⟨h1, fun k hk => ⟨(h2 k hk).1, (h2 k hk).2.1⟩, fun i k hik hk => ?_⟩
    have h3 := okAdd_iff.1 (h2 k hk).2.2
    rw [List.length_take, Nat.min_eq_left (by omega)] at h3
    have h4 := h3 i hik
    rw [gi_take9 hik] at h4
    exact h4
  · rintro ⟨h1, h2, h3⟩
    refine ⟨h1, fun k hk => ⟨(h2 k hk).1, (h2 k hk).2, okAdd_iff.2 ?_⟩⟩
    rw [List.length_take, Nat.min_eq_left (by omega)]
    intro i hik
    rw [gi_take9 hik]
    exact h3 i k hik hk
theorem rp_len {T : Tr} (h : isRp T = true) : T.p.length = T.f.length := (isMat_t (isTr_t (isRp_t h).1).2.2.2.2.2).1
theorem dl_some {T : Tr} {L : Int} {d : List Int} (hT : isRp T = true) (h : dl T L = some d) :
    d.length = T.f.length ∧ (∀ k, k < T.f.length → 0 ≤ gi d k ∧ gi d k ≤ 4) ∧ closeN T L d = 0 ∧ ∀ v : List Int, v.length = T.f.length → (∀ k, k < T.f.length → 0 ≤ gi v k ∧ gi v k ≤ 4) → closeN T L v = 0 → sumI d ≤ sumI v := by
  obtain ⟨h1, h2, _⟩ := delR_some h
  obtain ⟨a1, a2, a3⟩ := (ext_iff (rp_len hT)).1 h1
  exact ⟨a1, a2, a3, fun v b1 b2 b3 => h2 v ((ext_iff (rp_len hT)).2 ⟨b1, b2, b3⟩)⟩
theorem sumI_append9 (a b : List Int) : sumI (a ++ b) = sumI a + sumI b := by
  induction a with
  | nil => simp [sumI]
  | cons x a ih => rw [List.cons_append, sumI_cons, sumI_cons, ih]; omega
theorem sumI_set9 {l : List Int} {i : Nat} (x : Int) (h : i < l.length) : sumI (l.set i x) = sumI l - gi l i + x := by
  have e1 : l = l.take i ++ (gi l i :: l.drop (i + 1)) := by
    rw [gi_eq h, List.getElem_cons_drop, List.take_append_drop]
  have e2 : l.set i x = l.take i ++ (x :: l.drop (i + 1)) := by
    rw [List.set_eq_take_append_cons_drop, if_pos h]
  rw [e2]
  conv => rhs; rw [e1]
  have e3 : gi (l.take i ++ (gi l i :: l.drop (i + 1))) i = gi l i := by rw [← e1]
  rw [e3, sumI_append9, sumI_append9, sumI_cons, sumI_cons]
  omega
theorem gi_set9 {l : List Int} {i k : Nat} (x : Int) (hk : k < l.length) : gi (l.set i x) k = if i = k then x else gi l k := by
  unfold gi
  rw [List.getD_eq_getElem?_getD, List.getD_eq_getElem?_getD]
  by_cases e : i = k
  · subst e
    rw [if_pos rfl, List.getElem?_set_self hk]; rfl
  · rw [if_neg e, List.getElem?_set_ne e]
/-- One count less for one performer is no repair. -/
theorem less_bad {T : Tr} {L : Int} {d : List Int} (hT : isRp T = true) (h : dl T L = some d) {i : Nat} (hi : i < T.f.length) (hn : gi d i ≠ 0) :
    (∀ k, k < T.f.length → 0 ≤ gi (d.set i (gi d i - 1)) k ∧ gi (d.set i (gi d i - 1)) k ≤ 4) ∧ decide (closeN T L (d.set i (gi d i - 1)) = 0) = false := by
  obtain ⟨a1, a2, a3, a4⟩ := dl_some hT h
  have hr : ∀ k, k < T.f.length → 0 ≤ gi (d.set i (gi d i - 1)) k ∧ gi (d.set i (gi d i - 1)) k ≤ 4 := by
    intro k hk
    rw [gi_set9 _ (by omega)]
    have h1 := a2 i hi
    split
    · omega
    · exact a2 k hk
  refine ⟨hr, decide_eq_false fun h0 => ?_⟩
  have := a4 _ (by rw [List.length_set]; exact a1) hr h0
  rw [sumI_set9 _ (by omega)] at this
  omega
theorem sumI_zeros (n : Nat) : sumI (zeros n) = 0 := by
  unfold zeros
  induction n with
  | zero => rfl
  | succ n ih => rw [List.replicate_succ, sumI_cons, ih]; rfl
/-- Where no two come too close, the delays found are none. -/
theorem known_some {T : Tr} {L : Int} (hT : isRp T = true) (h : needsNo T L = true) : ∃ d, dl T L = some d ∧ sumI d = 0 := by
  have hz : closeN T L (zeros T.f.length) = 0 := of_decide_eq_true h
  have hm : zeros T.f.length ∈ extD (clOf T L) T.f.length [] := (ext_iff (L := L) (rp_len hT)).2 ⟨List.length_replicate .., fun k hk => by rw [gi_zeros]; omega, hz⟩
  cases hd : dl T L with
  | none =>
    rw [delR_none hd] at hm
    cases hm
  | some d =>
    refine ⟨d, rfl, ?_⟩
    have h1 := (delR_some hd).2.1 _ hm
    have h2 := (delR_bd hd).1
    rw [sumI_zeros] at h1
    omega
/-- What the kind tells. -/
theorem kind_0 {T : Tr} {L : Int} : (kindOf T L == 0) = needsNo T L := by
  unfold kindOf
  cases needsNo T L
  · cases (swapR T L).isSome
    · cases (dl T L).isSome <;> rfl
    · rfl
  · rfl
theorem kind_3 {T : Tr} {L : Int} : (kindOf T L == 3) = (!needsNo T L && !(swapR T L).isSome && !(dl T L).isSome) := by
  unfold kindOf
  cases needsNo T L
  · cases (swapR T L).isSome
    · cases (dl T L).isSome <;> rfl
    · rfl
  · rfl
end Go.Proofs.Ytgcgkpmjahgmnaa
/- What the law on repairs meets: its calls' answers told together, for a transition to repair and for another. -/
set_option linter.unusedSimpArgs false
set_option linter.unusedVariables false
namespace Go.Proofs.Ytgcgkpmjahgmnaa
open Go.RowKit Go.Sort

def LdG (w : World) (one : Bool) (l : List Int) (e : Ending) (w' : World) : Prop := ∃ (A : Option Addr) (c : Nat), e = .returned (.tuple #[.slice A l.length c, .int .i64 (sumI l), .bool one]) ∧ IntsAt w' (.slice A l.length c) l ∧ Below w.heap.size w w'
def SwG (w : World) (three : Bool) (x y : Int) (e : Ending) (w' : World) : Prop := e = .returned (.tuple #[.int .i64 x, .int .i64 y, .bool three]) ∧ Below w.heap.size w w'
theorem ldG_none {w w' : World} {e : Ending} (h : LdPost w none e w') : LdG w false [] e w' := by
  obtain ⟨v, sm, rfl, hb, hv, hs⟩ := h
  subst hv hs
  exact ⟨none, 0, rfl, ⟨rfl, none, 0, rfl, Nat.le_refl _, by simp [maxLen], fun _ => ⟨rfl, rfl⟩, fun h9 => by simp at h9⟩, hb⟩
theorem ldG_some {w w' : World} {e : Ending} {l : List Int} (h : LdPost w (some l) e w') : LdG w true l e w' := by
  obtain ⟨v, sm, rfl, hb, _, ho, hs⟩ := h
  subst hs
  obtain ⟨A, c, rfl, _, _⟩ := ho.reads.shape
  exact ⟨A, c, rfl, ho.reads, hb⟩
theorem repairs_no {T : Tr} {L : Int} (hg : good T L = false) :
    rKind T L = (0, false) ∧ (∀ (w : World) (e : Ending) (w' : World), LdPost w (dlR T L) e w' → LdG w false [] e w') ∧ (∀ (w : World) (e : Ending) (w' : World), SwPost w (swR T L) e w' → SwG w false 0 0 e w') := by
  have h1 : (isRp T && inR L 0 80) = false := hg
  refine ⟨by unfold rKind; rw [if_neg (by rw [h1]; decide)], fun w e w' h => ?_, fun w e w' h => ?_⟩
  · unfold dlR at h
    rw [if_neg (by rw [hg]; decide)] at h
    exact ldG_none h
  · unfold swR at h
    rw [if_neg (by rw [hg]; decide)] at h
    exact h
theorem repairs_ex {T : Tr} {L : Int} (hg : good T L = true) : ∃ (kd : Int) (known one three : Bool) (l : List Int) (x y : Int),
    rKind T L = (kd, true) ∧ (∀ (w : World) (e : Ending) (w' : World), LdPost w (dlR T L) e w' → LdG w one l e w') ∧ (∀ (w : World) (e : Ending) (w' : World), SwPost w (swR T L) e w' → SwG w three x y e w') ∧
    decide (closeN T L (zeros T.f.length) = 0) = known ∧ kd = (if known then 0 else if three then 1 else if one then 2 else 3) ∧ (known = true → one = true ∧ sumI l = 0) ∧
    (one = true → l.length = T.f.length ∧ (∀ i, i < T.f.length → 0 ≤ gi l i ∧ gi l i ≤ 4) ∧ decide (closeN T L l = 0) = true ∧ ∀ i, i < T.f.length → gi l i ≠ 0 → (∀ k, k < T.f.length → 0 ≤ gi (l.set i (gi l i - 1)) k ∧ gi (l.set i (gi l i - 1)) k ≤ 4) ∧ decide (closeN T L (l.set i (gi l i - 1)) = 0) = false) ∧
    (three = true → ∃ i k : Nat, x = (i : Int) ∧ y = (k : Int) ∧ i < k ∧ k < T.f.length ∧ isRp (swapT T i k) = true ∧ decide (closeN (swapT T i k) L (zeros T.f.length) = 0) = true) := by
  have h1 : (isRp T && inR L 0 80) = true := hg
  have hT := (good_t hg).1
  refine ⟨kindOf T L, needsNo T L, (dl T L).isSome, (swapR T L).isSome, (dl T L).getD [], (match swapR T L with | some q => (q.1 : Int) | none => 0), (match swapR T L with | some q => (q.2 : Int) | none => 0), ?_, fun w e w' h => ?_, fun w e w' h => ?_, rfl, rfl, fun h => ?_, fun h => ?_, fun h => ?_⟩
  · unfold rKind
    rw [if_pos h1]
  · unfold dlR at h
    rw [if_pos hg] at h
    cases hd : dl T L with
    | none => rw [hd] at h; exact ldG_none h
    | some d => rw [hd] at h; exact ldG_some h
  · unfold swR at h
    rw [if_pos hg] at h
    cases hd : swapR T L with
    | none => rw [hd] at h; exact h
    | some q => rw [hd] at h; exact h
  · obtain ⟨d, hd, hs⟩ := known_some hT h
    rw [hd]
    exact ⟨rfl, hs⟩
  · cases hd : dl T L with
    | none => rw [hd] at h; cases h
    | some d =>
      obtain ⟨a1, a2, a3, _⟩ := dl_some hT hd
      exact ⟨a1, a2, decide_eq_true a3, fun i hi hn => less_bad hT hd hi hn⟩
  · cases hd : swapR T L with
    | none => rw [hd] at h; cases h
    | some q =>
      obtain ⟨_, a2, a3, a4⟩ := swI_some hd
      exact ⟨q.1, q.2, rfl, rfl, a2, a3, swap_rp hT (by omega) a3, a4⟩
end Go.Proofs.Ytgcgkpmjahgmnaa
/- What the law on repairs meets, a transition to repair or another: one list of facts. -/
set_option linter.unusedSimpArgs false
set_option linter.unusedVariables false
namespace Go.Proofs.Ytgcgkpmjahgmnaa
open Go.RowKit Go.Sort

def KdG (w : World) (k : Int) (ok : Bool) (e : Ending) (w' : World) : Prop := e = .returned (.tuple #[.int .i64 k, .bool ok]) ∧ Below w.heap.size w w'
def LdS (w : World) (one : Bool) (l : List Int) (s : Int) (e : Ending) (w' : World) : Prop := ∃ (A : Option Addr) (c : Nat), e = .returned (.tuple #[.slice A l.length c, .int .i64 s, .bool one]) ∧ IntsAt w' (.slice A l.length c) l ∧ Below w.heap.size w w'
/-- What is known of a transition to repair: of its size, of no delays, of the delays found, of the swap found. -/
structure RpF (T : Tr) (L : Int) (kd : Int) (known one three : Bool) (l : List Int) (s x y : Int) : Prop where
  rp : isRp T = true
  l0 : 0 ≤ L
  l80 : L ≤ 80
  n6 : T.f.length ≤ 6
  kn : decide (closeN T L (zeros T.f.length) = 0) = known
  kk : kd = (if known then 0 else if three then 1 else if one then 2 else 3)
  k1 : known = true → one = true ∧ s = 0
  sm : sumI l = s
  o1 : one = true → l.length = T.f.length ∧ (∀ i, i < T.f.length → 0 ≤ gi l i ∧ gi l i ≤ 4) ∧ decide (closeN T L l = 0) = true ∧ ∀ i, i < T.f.length → gi l i ≠ 0 → (∀ k, k < T.f.length → 0 ≤ gi (l.set i (gi l i - 1)) k ∧ gi (l.set i (gi l i - 1)) k ≤ 4) ∧ decide (closeN T L (l.set i (gi l i - 1)) = 0) = false
  t1 : three = true → ∃ i k : Nat, x = (i : Int) ∧ y = (k : Int) ∧ i < k ∧ k < T.f.length ∧ isRp (swapT T i k) = true ∧ decide (closeN (swapT T i k) L (zeros T.f.length) = 0) = true
theorem repairs_all (T : Tr) (L : Int) : ∃ (kd : Int) (ok known one three : Bool) (l : List Int) (s x y : Int),
    (∀ (w : World) (e : Ending) (w' : World), KindPost w (rKind T L) e w' → KdG w kd ok e w') ∧ (∀ (w : World) (e : Ending) (w' : World), LdPost w (dlR T L) e w' → LdS w one l s e w') ∧ (∀ (w : World) (e : Ending) (w' : World), SwPost w (swR T L) e w' → SwG w three x y e w') ∧
    (ok = false → one = false ∧ three = false) ∧ (ok = true → RpF T L kd known one three l s x y) := by
  cases hg : good T L with
  | false =>
    obtain ⟨h1, h2, h3⟩ := repairs_no hg
    exact ⟨0, false, false, false, false, [], sumI [], 0, 0, fun w e w' h => by rw [h1] at h; exact h, h2, h3, fun _ => ⟨rfl, rfl⟩, fun h => (by cases h)⟩
  | true =>
    obtain ⟨kd, known, one, three, l, x, y, h1, h2, h3, h4, h5, h6, h7, h8⟩ := repairs_ex hg
    obtain ⟨g1, g2⟩ := good_t hg
    have g3 := inR_t.1 g2
    exact ⟨kd, true, known, one, three, l, sumI l, x, y, fun w e w' h => by rw [h1] at h; exact h, h2, h3, fun h => (by cases h), fun _ => ⟨g1, g3.1, g3.2, (isRp_t g1).2.2.1, h4, h5, h6, rfl, h7, h8⟩⟩
end Go.Proofs.Ytgcgkpmjahgmnaa
