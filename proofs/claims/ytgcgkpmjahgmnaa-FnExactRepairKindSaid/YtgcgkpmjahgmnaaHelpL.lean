/- Contracts of the laws' helpers for slices of slices of integers. -/
import Derived.Test.YtgcgkpmjahgmnaaIntss
import Derived.Test.YtgcgkpmjahgmnaaHelp
import Derived.Deep.RegionWith
set_option linter.unusedSimpArgs false
set_option linter.unusedVariables false
namespace Go.Proofs.Ytgcgkpmjahgmnaa
open Go.RowKit

/-- How many integers in all. -/
def tot (ls : List (List Int)) : Nat := (ls.map List.length).sum
theorem tot_take (ls : List (List Int)) (k : Nat) (h : k < ls.length) : tot (ls.take (k + 1)) = tot (ls.take k) + (gl ls k).length := by
  rw [take_succ_gl ls k h]; simp [tot]
theorem tot_le (ls : List (List Int)) (k : Nat) : tot (ls.take k) ≤ tot ls := by
  unfold tot
  have h : (ls.map List.length).sum = ((ls.take k).map List.length).sum + ((ls.drop k).map List.length).sum := by
    rw [← List.sum_append, ← List.map_append, List.take_append_drop]
  omega
theorem gl_le_tot (ls : List (List Int)) (k : Nat) (h : k < ls.length) : (gl ls k).length ≤ tot ls := by
  have h1 := tot_take ls k h
  have h2 := tot_le ls (k + 1)
  omega

theorem szIntS_yes (v : Value) (l : List Int) (n : Int) (w : World) (h : IntsAt w v l) (hn : 0 ≤ n) (hn2 : n ≤ 1048576) (hl : (l.length : Int) ≤ n) :
    Calls Try.prog 22 #[v, .int .i64 n] w fun e w' => e = .returned (.int .i64 (n - l.length)) ∧ w = w' := by
  obtain ⟨A, c, rfl, hnc, hc63⟩ := h.shape
  go_enter Try.func22, Try.ntmps22
  go_wp2
  go_ret
  exact ⟨rfl, rfl⟩
theorem szIntS_no (v : Value) (l : List Int) (n : Int) (w : World) (h : IntsAt w v l) (hn : 0 ≤ n) (hn2 : n ≤ 1048576) (hl : n < (l.length : Int)) :
    Calls Try.prog 22 #[v, .int .i64 n] w fun e w' => e = .returned (.int .i64 (-1)) ∧ w = w' := by
  obtain ⟨A, c, rfl, hnc, hc63⟩ := h.shape
  go_enter Try.func22, Try.ntmps22
  go_wp2
  go_ret
  exact ⟨rfl, rfl⟩

/-- The first place where the sizes pass n. -/
theorem tot_passes (ls : List (List Int)) (n : Int) (h1 : 0 ≤ n) (h2 : n < tot ls) : ∃ k, k < ls.length ∧ (tot (ls.take k) : Int) ≤ n ∧ n < tot (ls.take (k + 1)) := by
  suffices H : ∀ m, m ≤ ls.length → n < tot (ls.take m) → ∃ k, k < ls.length ∧ (tot (ls.take k) : Int) ≤ n ∧ n < tot (ls.take (k + 1)) by
    exact H ls.length (Nat.le_refl _) (by rw [List.take_of_length_le (Nat.le_refl _)]; exact h2)
  intro m
  induction m with
  | zero => intro _ h; simp [tot] at h; omega
  | succ m ih =>
    intro hm h
    by_cases hp : n < tot (ls.take m)
    · exact ih (by omega) hp
    · exact ⟨m, by omega, by omega, h⟩

theorem gl_ne_f {a b : List (List Int)} {k : Nat} (hk : k < a.length) (h : a.length = b.length) (hx : (!(gl a k == gl b k)) = true) : (a == b) = false := by
  rw [beq_eq_false_iff_ne]
  rintro rfl
  simp at hx
theorem takeL_eq_succ {a b : List (List Int)} {k : Nat} (h : a.length = b.length) (hk : k < a.length) (ht : a.take k = b.take k) (hx : (!(gl a k == gl b k)) = false) : a.take (k + 1) = b.take (k + 1) := by
  rw [take_succ_gl a k hk, take_succ_gl b k (by omega), ht]
  simp at hx
  rw [hx]

def FreshIntss (w : World) (ls : List (List Int)) (e : Ending) (w' : World) : Prop := ∃ v, e = .returned v ∧ OwnIntss w' w.heap.size v ls ∧ Below w.heap.size w w'

/-- Behind k rounds of a copy: the first k lists, then nils. -/
structure CopyL (wr : World) (lo g n : Nat) (vs : List Value) (ls : List (List Int)) (k : Nat) : Prop where
  row : wr.ownsRow lo 23 1 (.slice (some ⟨g, 0, none⟩) n n) n (vs ++ List.replicate (n - k) (.slice none 0 0))
  len : vs.length = k
  inner : ∀ (i : Nat) (u : Value) (l : List Int), vs[i]? = some u → ls[i]? = some l → OwnInts wr lo u l
  sep : ∀ (i j : Nat) (u u' : Value) (g : Nat), vs[i]? = some u → vs[j]? = some u' → u.ownBlock = some g → u'.ownBlock = some g → i = j

theorem CopyL.step {wr w1 : World} {lo g n k : Nat} {vs : List Value} {ls : List (List Int)} {u : Value} (h : CopyL wr lo g n vs ls k) (hk : k < n) (hkl : k < ls.length) (hlo : lo ≤ wr.heap.size) (hb : Below wr.heap.size wr w1) (hu : OwnInts w1 wr.heap.size u (gl ls k)) :
    CopyL (w1.setCell ⟨g, k, none⟩ u) lo g n (vs ++ [u]) ls (k + 1) := by
  have hrow := ownsRow_keep h.row (KeepIn.of_below (lo := lo) hb (Nat.le_refl _)) (Nat.le_refl _) (fun g' hg' => (World.ownsRow.lt h.row g' hg').2)
  have hst := hrow.stored k u
  have hne : ∀ (x : Value) (l : List Int), w1.ownsRow lo 3 1 x l.length (ints l) → x.ownBlock = none ∨ x.ownBlock ≠ some g := fun x l hx => ownsRow_ne hrow hx (by decide)
  have old : ∀ (i : Nat) (x : Value) (l : List Int), vs[i]? = some x → ls[i]? = some l → OwnInts w1 lo x l := fun i x l hx hl => by
    have := h.inner i x l hx hl
    exact OwnInts.below this hb (Nat.le_refl _)
  have hu' : w1.ownsRow lo 3 1 u (gl ls k).length (ints (gl ls k)) := by
    refine ⟨hu.1, ?_⟩
    rcases hu.2 with hn | ⟨g', cap, cur, e, hbg, rest⟩
    · exact .inl hn
    · exact .inr ⟨g', cap, cur, e, by omega, rest⟩
  refine ⟨?_, by simp [h.len], ?_, ?_⟩
  · have e : (vs ++ List.replicate (n - k) (Value.slice none 0 0)).set k u = vs ++ [u] ++ List.replicate (n - (k + 1)) (.slice none 0 0) := by
      rw [List.set_append_right _ _ (by rw [h.len]; exact Nat.le_refl _), h.len, Nat.sub_self]
      obtain ⟨m, hm⟩ : ∃ m, n - k = m + 1 := ⟨n - k - 1, by omega⟩
      have hm' : n - (k + 1) = m := by omega
      rw [hm, hm']
      simp [List.replicate_succ]
    rw [← e]
    exact hst.1
  · intro i x l hx hl
    by_cases hi : i < vs.length
    · rw [List.getElem?_append_left hi] at hx
      exact World.ownsRow.kept (old i x l hx hl) hst.2 (hne x l (old i x l hx hl))
    · rw [List.getElem?_append_right (by omega)] at hx
      have e1 : i - vs.length = 0 := by
        have := (List.getElem?_eq_some_iff.1 hx).1
        simp at this; omega
      rw [e1] at hx
      simp at hx
      subst hx
      have hik : i = k := by have := h.len; omega
      subst hik
      have : gl ls i = l := by simp [gl, List.getD, hl]
      rw [← this]
      exact World.ownsRow.kept hu' hst.2 (hne u _ hu')
  · intro i j x y g' hx hy hgx hgy
    have oldb : ∀ (k' : Nat) (z : Value), k' < vs.length → (vs ++ [u])[k']? = some z → z.ownBlock = some g' → k' < ls.length → g' < wr.heap.size := by
      intro k' z hk' hz hgz hl
      rw [List.getElem?_append_left hk'] at hz
      exact (World.ownsRow.lt (h.inner k' z _ hz (gl_eq hl)) g' hgz).2
    have newb : ∀ (k' : Nat) (z : Value), ¬ k' < vs.length → (vs ++ [u])[k']? = some z → z.ownBlock = some g' → wr.heap.size ≤ g' ∧ k' = vs.length := by
      intro k' z hk' hz hgz
      rw [List.getElem?_append_right (by omega)] at hz
      have h1 := (List.getElem?_eq_some_iff.1 hz).1
      simp at h1
      have e1 : k' - vs.length = 0 := by omega
      rw [e1] at hz
      simp at hz
      subst hz
      exact ⟨(World.ownsRow.lt hu g' hgz).1, by omega⟩
    by_cases hi : i < vs.length <;> by_cases hj : j < vs.length
    · rw [List.getElem?_append_left hi] at hx
      rw [List.getElem?_append_left hj] at hy
      exact h.sep i j x y g' hx hy hgx hgy
    · have := oldb i x hi hx hgx (by have := h.len; omega); have := (newb j y hj hy hgy).1; omega
    · have := oldb j y hj hy hgy (by have := h.len; omega); have := (newb i x hi hx hgx).1; omega
    · have := (newb i x hi hx hgx).2; have := (newb j y hj hy hgy).2; omega

def marksL : Int → List (List Int) → List (List Int)
  | _, [] => []
  | k, l :: ls => marks k l.length :: marksL (k + l.length) ls
theorem marksL_len (k : Int) (ls : List (List Int)) : (marksL k ls).length = ls.length := by
  induction ls generalizing k with
  | nil => rfl
  | cons l ls ih => simp [marksL, ih]
theorem marksL_snoc (k : Int) (ls : List (List Int)) (l : List Int) : marksL k (ls ++ [l]) = marksL k ls ++ [marks (k + tot ls) l.length] := by
  induction ls generalizing k with
  | nil => simp [marksL, tot]
  | cons x ls ih =>
    simp only [List.cons_append, marksL, ih]
    have : k + (x.length : Int) + (tot ls : Int) = k + (tot (x :: ls) : Int) := by simp [tot]; omega
    rw [this]
theorem marksL_tot (k : Int) (ls : List (List Int)) : tot (marksL k ls) = tot ls := by
  induction ls generalizing k with
  | nil => rfl
  | cons l ls ih =>
    have := ih (k + l.length)
    simp only [tot, marksL, List.map_cons, List.sum_cons, marks_len] at this ⊢
    omega
def markedL (k0 : Int) (ls : List (List Int)) (j : Nat) : List (List Int) := marksL k0 (ls.take j) ++ ls.drop j
theorem markedL_len (k0 : Int) (ls : List (List Int)) (j : Nat) (h : j ≤ ls.length) : (markedL k0 ls j).length = ls.length := by simp [markedL, marksL_len]; omega
theorem markedL_at (k0 : Int) (ls : List (List Int)) (j : Nat) (h : j < ls.length) : (markedL k0 ls j)[j]? = some (gl ls j) := by
  unfold markedL
  have hm : (marksL k0 (ls.take j)).length = j := by rw [marksL_len, List.length_take]; omega
  rw [List.getElem?_append_right (by omega), hm, Nat.sub_self, List.getElem?_drop]
  exact gl_eq h
theorem markedL_set (k0 : Int) (ls : List (List Int)) (j : Nat) (h : j < ls.length) : (markedL k0 ls j).set j (marks (k0 + tot (ls.take j)) (gl ls j).length) = markedL k0 ls (j + 1) := by
  unfold markedL
  have hm : (marksL k0 (ls.take j)).length = j := by rw [marksL_len, List.length_take]; omega
  rw [List.set_append_right _ _ (by omega), hm, Nat.sub_self, take_succ_gl ls j h, marksL_snoc, List.drop_eq_getElem_cons h, List.set_cons_zero, List.append_assoc]
  rfl
theorem gl_marksL (k0 : Int) (ls : List (List Int)) (j : Nat) (h : j < ls.length) : gl (marksL k0 ls) j = marks (k0 + tot (ls.take j)) (gl ls j).length := by
  have e : marksL k0 ls = markedL k0 ls ls.length := by simp [markedL]
  have h1 : (markedL k0 ls (j + 1))[j]? = some (marks (k0 + tot (ls.take j)) (gl ls j).length) := by
    rw [← markedL_set k0 ls j h, List.getElem?_set_self (by rw [markedL_len k0 ls j (by omega)]; exact h)]
  have h2 : (marksL k0 ls)[j]? = (marksL k0 (ls.take (j + 1)))[j]? := by
    have e2 : ∀ (xs ys : List (List Int)) (k : Int), marksL k (xs ++ ys) = marksL k xs ++ marksL (k + tot xs) ys := by
      intro xs
      induction xs with
      | nil => intro ys k; simp [marksL, tot]
      | cons x xs ih =>
        intro ys k
        simp only [List.cons_append, marksL, ih]
        have : k + (x.length : Int) + (tot xs : Int) = k + (tot (x :: xs) : Int) := by simp [tot]; omega
        rw [this]
    rw [← List.take_append_drop (j + 1) ls, e2, List.take_append_drop, List.getElem?_append_left (by rw [marksL_len, List.length_take]; omega)]
  have h3 : (markedL k0 ls (j + 1))[j]? = (marksL k0 (ls.take (j + 1)))[j]? := by
    unfold markedL
    rw [List.getElem?_append_left (by rw [marksL_len, List.length_take]; omega)]
  unfold gl
  rw [List.getD, h2, ← h3, h1]
  rfl

def IntssMarked (w : World) (lo hi : Nat) (v : Value) (k0 : Int) (ls : List (List Int)) : Prop := OwnLIn w lo hi v (marksL k0 ls)
def IntssMarkPost (w : World) (lo hi : Nat) (v : Value) (k0 : Int) (ls : List (List Int)) (e : Ending) (w' : World) : Prop :=
  e = .returned (.int .i64 (k0 + tot ls)) ∧ IntssMarked w' lo hi v k0 ls ∧ Apart lo hi w w'
theorem IntssMarked.keep {w w' : World} {lo hi : Nat} {v : Value} {k0 : Int} {ls : List (List Int)} (h : IntssMarked w lo hi v k0 ls) (hk : KeepIn lo hi w w') : IntssMarked w' lo hi v k0 ls := OwnLIn.keep h hk

end Go.Proofs.Ytgcgkpmjahgmnaa
