/- Words for slices of slices of integers: those that came in, those of the call's own. No function of the program. -/
import Derived.Test.YtgcgkpmjahgmnaaBase
set_option linter.unusedSimpArgs false
set_option linter.unusedVariables false
namespace Go.Proofs.Ytgcgkpmjahgmnaa
open Go.RowKit

theorem IntsAt.drew {w : World} {v : Value} {l : List Int} (h : IntsAt w v l) : IntsAt w.drew v l := h
theorem IntsAt.drewN {w : World} {v : Value} {l : List Int} (h : IntsAt w v l) (n : Nat) : IntsAt (w.drewN n) v l := h

/-- The k-th list. -/
def gl (ls : List (List Int)) (k : Nat) : List Int := ls.getD k []
theorem gl_eq {ls : List (List Int)} {k : Nat} (h : k < ls.length) : ls[k]? = some (gl ls k) := by simp [gl, List.getD, h]
theorem gl_mem {ls : List (List Int)} {k : Nat} (h : k < ls.length) : gl ls k ∈ ls := by simp [gl, List.getD, h]
theorem take_succ_gl (ls : List (List Int)) (k : Nat) (h : k < ls.length) : ls.take (k + 1) = ls.take k ++ [gl ls k] := by
  rw [List.take_succ_eq_append_getElem h]; simp [gl, List.getD, h]

/-- A slice of slices of integers. -/
def IntssAt (w : World) (v : Value) (ls : List (List Int)) : Prop :=
  ∃ vs, Sl w 1 v ls.length vs ∧ ∀ (i : Nat) (u : Value) (l : List Int), vs[i]? = some u → ls[i]? = some l → IntsAt w u l
theorem IntssAt.below {w w' : World} {v : Value} {ls : List (List Int)} {B : Nat} (h : IntssAt w v ls) (hb : Below B w w') (hB : w.heap.size ≤ B) : IntssAt w' v ls := by
  obtain ⟨vs, h1, h2⟩ := h
  exact ⟨vs, h1.below hb hB, fun i u l hu hl => (h2 i u l hu hl).below hb hB⟩
theorem IntssAt.shape {w : World} {v : Value} {ls : List (List Int)} (h : IntssAt w v ls) : ∃ A c, v = .slice A ls.length c ∧ ls.length ≤ c ∧ c ≤ 9223372036854775807 := by
  obtain ⟨vs, h1, _⟩ := h
  exact Sl.shape h1
theorem IntssAt.at_ {w : World} {A : Option Addr} {n c : Nat} {ls : List (List Int)} (h : IntssAt w (.slice A n c) ls) (k : Nat) (hk : k < ls.length) :
    ∃ b o A' c', A = some ⟨b, o, none⟩ ∧ w.cell? ⟨b, o + k, none⟩ = some (.slice A' (gl ls k).length c') ∧ IntsAt w (.slice A' (gl ls k).length c') (gl ls k) := by
  obtain ⟨vs, h1, h2⟩ := h
  have hn : n = ls.length := by
    obtain ⟨_, _, _, he, _⟩ := h1
    injection he
  subst hn
  obtain ⟨b, o, u, rfl, hu, hc⟩ := Sl.at_ h1 hk
  have h3 := h2 k u _ hu (gl_eq hk)
  obtain ⟨A', c', rfl, _⟩ := h3.shape
  exact ⟨b, o, A', c', rfl, hc, h3⟩

/-- A slice of slices of integers that the call has made: v is the outer slice, vs its cells, ls what they hold; no two share memory. -/
structure OwnL (w : World) (lo : Nat) (v : Value) (vs : List Value) (ls : List (List Int)) : Prop where
  row : w.ownsRow lo 23 1 v ls.length vs
  inner : ∀ (i : Nat) (u : Value) (l : List Int), vs[i]? = some u → ls[i]? = some l → OwnInts w lo u l
  sep : ∀ (i j : Nat) (u u' : Value) (g : Nat), vs[i]? = some u → vs[j]? = some u' → u.ownBlock = some g → u'.ownBlock = some g → i = j

theorem OwnL.len {w : World} {lo : Nat} {v : Value} {vs : List Value} {ls : List (List Int)} (h : OwnL w lo v vs ls) : vs.length = ls.length := by
  have := h.row.1; omega
theorem OwnL.get {w : World} {lo : Nat} {v : Value} {vs : List Value} {ls : List (List Int)} (h : OwnL w lo v vs ls) {i : Nat} {u : Value} (hu : vs[i]? = some u) : ls[i]? = some (gl ls i) ∧ OwnInts w lo u (gl ls i) := by
  have hi : i < ls.length := by have := (List.getElem?_eq_some_iff.1 hu).1; have := h.len; omega
  exact ⟨gl_eq hi, h.inner i u _ hu (gl_eq hi)⟩
theorem OwnL.reads {w : World} {lo : Nat} {v : Value} {vs : List Value} {ls : List (List Int)} (h : OwnL w lo v vs ls) : IntssAt w v ls :=
  ⟨vs, Sl.of_own h.row, fun i u l hu hl => (h.inner i u l hu hl).reads⟩

/-- The outer row and an inner one are of other element types. -/
theorem ownsRow_ne {w : World} {lo lo' e e' sz sz' n n' : Nat} {v v' : Value} {xs xs' : List Value} (h : w.ownsRow lo e sz v n xs) (h' : w.ownsRow lo' e' sz' v' n' xs') (hne : e ≠ e') : v'.ownBlock = none ∨ v'.ownBlock ≠ v.ownBlock := by
  rcases h'.2 with ⟨rfl, _⟩ | ⟨g', cap', cur', rfl, _, hg', _⟩
  · exact .inl rfl
  · refine .inr fun he => ?_
    rcases h.2 with ⟨rfl, _⟩ | ⟨g, cap, cur, rfl, _, hg, _⟩
    · simp [Value.ownBlock] at he
    · simp [Value.ownBlock] at he
      subst he
      rw [hg] at hg'
      injection hg' with hg'
      injection hg' with _ h2
      exact hne h2

/-- All blocks of v and of its inner rows lie below hi. -/
def UnderL (hi : Nat) (v : Value) (vs : List Value) : Prop := (∀ g, v.ownBlock = some g → g < hi) ∧ ∀ u ∈ vs, ∀ g, u.ownBlock = some g → g < hi
theorem OwnL.under {w : World} {lo : Nat} {v : Value} {vs : List Value} {ls : List (List Int)} (h : OwnL w lo v vs ls) : UnderL w.heap.size v vs := by
  refine ⟨fun g hg => (World.ownsRow.lt h.row g hg).2, fun u hu g hg => ?_⟩
  obtain ⟨i, hi⟩ := List.getElem?_of_mem hu
  exact (World.ownsRow.lt (h.get hi).2 g hg).2
theorem OwnL.keep {w w' : World} {lo lo' hi : Nat} {v : Value} {vs : List Value} {ls : List (List Int)} (h : OwnL w lo v vs ls) (hk : KeepIn lo' hi w w') (hl : lo' ≤ lo) (hu : UnderL hi v vs) : OwnL w' lo v vs ls :=
  ⟨ownsRow_keep h.row hk hl hu.1, fun i u l hi1 hi2 => ownsRow_keep (h.inner i u l hi1 hi2) hk hl (hu.2 u (List.mem_of_getElem? hi1)), h.sep⟩
theorem OwnL.below {w w' : World} {lo B : Nat} {v : Value} {vs : List Value} {ls : List (List Int)} (h : OwnL w lo v vs ls) (hb : Below B w w') (hB : w.heap.size ≤ B) : OwnL w' lo v vs ls :=
  h.keep (KeepIn.of_below (lo := lo) hb hB) (Nat.le_refl _) h.under

/-- One more list, made after all that stands. -/
theorem OwnL.push {w w1 w2 : World} {lo : Nat} {v v' u : Value} {vs : List Value} {ls : List (List Int)} {l : List Int} (h : OwnL w lo v vs ls) (hlo : lo ≤ w.heap.size) (hb : Below w.heap.size w w1) (hu : OwnInts w1 w.heap.size u l)
    (hrow : w2.ownsRow lo 23 1 v' (ls.length + 1) (vs ++ [u])) (hg : (w1.alloc (.cells #[u] 23)).grownBy w2 v.ownBlock) : OwnL w2 lo v' (vs ++ [u]) (ls ++ [l]) := by
  have h1 := h.below hb (Nat.le_refl _)
  have hvl := h.len
  refine ⟨by rw [List.length_append]; exact hrow, ?_, ?_⟩
  · intro i x y hx hy
    by_cases hi : i < vs.length
    · rw [List.getElem?_append_left hi] at hx
      rw [List.getElem?_append_left (by omega)] at hy
      have h2 := h1.inner i x y hx hy
      exact World.ownsRow.kept (World.ownsRow.alloc h2 _) hg (ownsRow_ne h1.row h2 (by decide))
    · rw [List.getElem?_append_right (by omega)] at hx
      rw [List.getElem?_append_right (by omega)] at hy
      have e1 : i - vs.length = 0 := by
        have := (List.getElem?_eq_some_iff.1 hx).1
        simp at this; omega
      have e2 : i - ls.length = 0 := by omega
      rw [e1] at hx; rw [e2] at hy
      simp at hx hy
      subst hx hy
      have h3 : w2.ownsRow w.heap.size 3 1 u l.length (ints l) := World.ownsRow.kept (World.ownsRow.alloc hu _) hg (ownsRow_ne h1.row hu (by decide))
      refine ⟨h3.1, ?_⟩
      rcases h3.2 with hn | ⟨g, cap, cur, e, hbg, rest⟩
      · exact .inl hn
      · exact .inr ⟨g, cap, cur, e, by omega, rest⟩
  · intro i j x y g hx hy hgx hgy
    have old : ∀ k z, k < vs.length → (vs ++ [u])[k]? = some z → z.ownBlock = some g → g < w.heap.size := by
      intro k z hk hz hgz
      rw [List.getElem?_append_left hk] at hz
      exact (World.ownsRow.lt (h.get hz).2 g hgz).2
    have new : ∀ k z, ¬ k < vs.length → (vs ++ [u])[k]? = some z → z.ownBlock = some g → w.heap.size ≤ g ∧ k = vs.length := by
      intro k z hk hz hgz
      rw [List.getElem?_append_right (by omega)] at hz
      have hk' := (List.getElem?_eq_some_iff.1 hz).1
      simp at hk'
      have e1 : k - vs.length = 0 := by omega
      rw [e1] at hz
      simp at hz
      subst hz
      exact ⟨(World.ownsRow.lt hu g hgz).1, by omega⟩
    by_cases hi : i < vs.length <;> by_cases hj : j < vs.length
    · rw [List.getElem?_append_left hi] at hx
      rw [List.getElem?_append_left hj] at hy
      exact h.sep i j x y g hx hy hgx hgy
    · have := old i x hi hx hgx; have := (new j y hj hy hgy).1; omega
    · have := old j y hj hy hgy; have := (new i x hi hx hgx).1; omega
    · have := (new i x hi hx hgx).2; have := (new j y hj hy hgy).2; omega

/-- An inner row is written. -/
theorem OwnL.setInner {w w' : World} {lo : Nat} {v u : Value} {vs : List Value} {ls : List (List Int)} {l : List Int} {j : Nat} (h : OwnL w lo v vs ls) (hj : vs[j]? = some u) (hg : w.grownBy w' u.ownBlock) (hu : OwnInts w' lo u l) : OwnL w' lo v vs (ls.set j l) := by
  refine ⟨?_, ?_, h.sep⟩
  · rw [List.length_set]
    exact h.row.kept hg (ownsRow_ne (h.get hj).2 h.row (by decide))
  · intro i x y hx hy
    by_cases hij : j = i
    · subst hij
      rw [hj] at hx
      injection hx with hx
      subst hx
      have hlt : j < ls.length := by have := (List.getElem?_eq_some_iff.1 hj).1; have := h.len; omega
      rw [List.getElem?_set_self hlt] at hy
      injection hy with hy
      subst hy
      exact hu
    · rw [List.getElem?_set_ne hij] at hy
      refine World.ownsRow.kept (h.inner i x y hx hy) hg ?_
      cases hb : x.ownBlock with
      | none => exact .inl rfl
      | some g => exact .inr fun e => hij (h.sep j i u x g hj hx e.symm hb)

def OwnIntss (w : World) (lo : Nat) (v : Value) (ls : List (List Int)) : Prop := ∃ vs, OwnL w lo v vs ls
theorem OwnIntss.reads {w : World} {lo : Nat} {v : Value} {ls : List (List Int)} (h : OwnIntss w lo v ls) : IntssAt w v ls := by
  obtain ⟨vs, h⟩ := h; exact h.reads
theorem OwnIntss.below {w w' : World} {lo B : Nat} {v : Value} {ls : List (List Int)} (h : OwnIntss w lo v ls) (hb : Below B w w') (hB : w.heap.size ≤ B) : OwnIntss w' lo v ls := by
  obtain ⟨vs, h⟩ := h; exact ⟨vs, h.below hb hB⟩
theorem OwnIntss.empty (w : World) (base : Nat) (hb : base ≤ w.heap.size) : OwnIntss (w.alloc (.cells #[] 23)) base (.slice (some ⟨w.heap.size, 0, none⟩) 0 0) [] :=
  ⟨[], World.ownsRow_lit w #[] 0 hb (by simp [maxLen]) rfl, fun i u l h => by simp at h, fun i j u u' g h => by simp at h⟩
theorem OwnIntss.nil_ (w : World) (base : Nat) : OwnIntss w base (.slice none 0 0) [] :=
  ⟨[], World.ownsRow_nil w base _ _, fun i u l h => by simp at h, fun i j u u' g h => by simp at h⟩
/-- .. its blocks below hi. -/
def OwnLIn (w : World) (lo hi : Nat) (v : Value) (ls : List (List Int)) : Prop := ∃ vs, OwnL w lo v vs ls ∧ UnderL hi v vs
theorem OwnIntss.in_ {w : World} {lo : Nat} {v : Value} {ls : List (List Int)} (h : OwnIntss w lo v ls) : OwnLIn w lo w.heap.size v ls := by
  obtain ⟨vs, h⟩ := h; exact ⟨vs, h, h.under⟩
theorem OwnLIn.reads {w : World} {lo hi : Nat} {v : Value} {ls : List (List Int)} (h : OwnLIn w lo hi v ls) : IntssAt w v ls := by
  obtain ⟨vs, h, _⟩ := h; exact h.reads
theorem OwnLIn.keep {w w' : World} {lo hi : Nat} {v : Value} {ls : List (List Int)} (h : OwnLIn w lo hi v ls) (hk : KeepIn lo hi w w') : OwnLIn w' lo hi v ls := by
  obtain ⟨vs, h, hu⟩ := h; exact ⟨vs, h.keep hk (Nat.le_refl _) hu, hu⟩

theorem Sl.one (w : World) (u : Value) (e : Nat) : Sl (w.alloc (.cells #[u] e)) 1 (.slice (some ⟨w.heap.size, 0, none⟩) 1 1) 1 [u] :=
  Sl.of_own (base := 0) (e := e) (World.ownsRow_lit w #[u] 1 (Nat.zero_le _) (by simp [maxLen]) rfl)

/-- append of one list: w is the world in which v was known, w1 the one behind the making of u. -/
theorem wp_app_list (w w1 : World) {ops : Array Oper} {rest : List Oper} {o : Oper} {a : Act} {Q : Exit → Act → World → Prop} (hgd : o.guard = none) (s x : Operand)
    (ho : o.op = .call { callee := .builtin .append, args := #[s, x], argTypes := #[53, 53] })
    (lo : Nat) (v : Value) (ls : List (List Int)) (hs : a.eval s = v) (hown : OwnIntss w lo v ls) (hlo : lo ≤ w.heap.size) (hb : Below w.heap.size w w1)
    (A : Option Addr) (n c : Nat) (l : List Int) (hu : OwnInts w1 w.heap.size (.slice A n c) l) (H : Nat) (hx : a.eval x = .slice (some ⟨H, 0, none⟩) 1 1) (hH : H = w1.heap.size)
    (h63 : ls.length + 1 ≤ 1099511627776)
    (h : ∀ v' w', OwnIntss w' lo v' (ls ++ [l]) → Below lo w w' → wpList Try.prog ops Q rest (a.put o.dst v') w') :
    wpList Try.prog ops Q (o :: rest) a (w1.alloc (.cells #[.slice A n c] 23)) := by
  subst hH
  obtain ⟨vs, hL⟩ := hown
  have h1 := (hL.below hb (Nat.le_refl _)).row
  refine wpList_app _ hgd s x 53 ho lo 23 (.slice none 0 0) 1 24 Try.underlying53 info_ints rfl (by omega) v ls.length vs hs (World.ownsRow.alloc h1 _) _ 1 [.slice A n c] hx (Sl.one w1 _ _) (by simp [Value.oneCell']) h63 (by omega) (by have := hb.size; simp; omega) ?_
  intro v' w' r1 r2 _
  refine h v' w' ⟨_, hL.push hlo hb hu r1 r2⟩ ?_
  have b1 : Below lo w w1 := hb.mono hlo
  have hs := hb.size
  exact (b1.alloc (by omega) _).trans (ownsRow_below (World.ownsRow.alloc h1 _) r2 (by simp; omega))
end Go.Proofs.Ytgcgkpmjahgmnaa
