/- Contracts of the laws' helpers for slices of slices of integers. -/
import Derived.Test.YtnfnpidopifecaaIntss
import Derived.Test.YtnfnpidopifecaaHelp
import Derived.Deep.RegionWith
set_option linter.unusedSimpArgs false
set_option linter.unusedVariables false
namespace Go.Proofs.Ytnfnpidopifecaa
open Go.RowKit

/-- How many integers in all. -/
def tot (ls : List (List Int)) : Nat := (ls.map List.length).sum
theorem tot_take (ls : List (List Int)) (k : Nat) (h : k < ls.length) : tot (ls.take (k + 1)) = tot (ls.take k) + (gl ls k).length := by
  rw [take_succ_gl ls k h]; simp [tot]
theorem tot_le (ls : List (List Int)) (k : Nat) : tot (ls.take k) ≤ tot ls := by
  unfold tot
  have h : (ls.map List.length).sum = ((ls.take k).map List.length).sum + ((ls.drop k).map List.length).sum := by
    rw [← List.sum_append, ← List.map_append, List.take_append_drop]
  omega
theorem gl_le_tot (ls : List (List Int)) (k : Nat) (h : k < ls.length) : (gl ls k).length ≤ tot ls := by
  have h1 := tot_take ls k h
  have h2 := tot_le ls (k + 1)
  omega

/-- The first place where the sizes pass n. -/
theorem tot_passes (ls : List (List Int)) (n : Int) (h1 : 0 ≤ n) (h2 : n < tot ls) : ∃ k, k < ls.length ∧ (tot (ls.take k) : Int) ≤ n ∧ n < tot (ls.take (k + 1)) := by
  suffices H : ∀ m, m ≤ ls.length → n < tot (ls.take m) → ∃ k, k < ls.length ∧ (tot (ls.take k) : Int) ≤ n ∧ n < tot (ls.take (k + 1)) by
    exact H ls.length (Nat.le_refl _) (by rw [List.take_of_length_le (Nat.le_refl _)]; exact h2)
  intro m
  induction m with
  | zero => intro _ h; simp [tot] at h; omega
  | succ m ih =>
    intro hm h
    by_cases hp : n < tot (ls.take m)
    · exact ih (by omega) hp
    · exact ⟨m, by omega, by omega, h⟩

theorem gl_ne_f {a b : List (List Int)} {k : Nat} (hk : k < a.length) (h : a.length = b.length) (hx : (!(gl a k == gl b k)) = true) : (a == b) = false := by
  rw [beq_eq_false_iff_ne]
  rintro rfl
  simp at hx
theorem takeL_eq_succ {a b : List (List Int)} {k : Nat} (h : a.length = b.length) (hk : k < a.length) (ht : a.take k = b.take k) (hx : (!(gl a k == gl b k)) = false) : a.take (k + 1) = b.take (k + 1) := by
  rw [take_succ_gl a k hk, take_succ_gl b k (by omega), ht]
  simp at hx
  rw [hx]

set_option maxHeartbeats 800000 in
theorem eqIntSS_any (v1 v2 : Value) (l1 l2 : List (List Int)) (w : World) (h1 : IntssAt w v1 l1) (h2 : IntssAt w v2 l2) :
    Calls Try.prog 44 #[v1, v2] w fun e w' => e = .returned (.bool (l1 == l2)) ∧ Below w.heap.size w w' := by
  obtain ⟨A, c, rfl, hnc, hc63⟩ := h1.shape
  obtain ⟨B, d, rfl, hnd, hd63⟩ := h2.shape
  by_cases hne : l1.length = l2.length
  · rw [← hne] at h2 hnd ⊢
    have Hne := Lib.hid hne
    clear hne
    go_enter Try.func44, Try.ntmps44
    go_wp2_with fail
    go_loopw [5] (fun i wr => ∃ k : Nat, k ≤ l1.length ∧ i = .int .i64 k ∧ Hid (l1.take k = l2.take k) ∧ Below w.heap.size w wr) (fun i _ => l1.length - (intOf i).toNat)
    case atStart => exact ⟨0, Nat.zero_le _, rfl, rfl, Below.refl _ _⟩
    case round =>
      obtain ⟨k, hk, rfl, hall, hb⟩ := hrel
      by_cases hlt : k < l1.length
      · obtain ⟨b, o, A1, c1, rfl, hc, hr⟩ := IntssAt.at_ (h1.below hb (Nat.le_refl _)) k hlt
        obtain ⟨b', o', A2, c2, rfl, hc', hr'⟩ := IntssAt.at_ (h2.below hb (Nat.le_refl _)) k (by have := Hne.out; omega)
        go_wp2_with fail
        go_region_with (go_at_call 38; refine (eqIntS_any _ _ (gl l1 k) (gl l2 k) _ hr.drew hr'.drew).mono ?_; rintro e w1 ⟨rfl, b1⟩)
        all_goals go_wp2_with fail
        · have hx : (!(gl l1 k == gl l2 k)) = true := by assumption
          go_ret
          exact ⟨ret_bool (gl_ne_f hlt Hne.out hx).symm, hb.drew.next (Nat.le_refl _) b1⟩
        · have hx : (!(gl l1 k == gl l2 k)) = false := by assumption
          go_roundw
          case rel => exact ⟨k + 1, by omega, by go_num, takeL_eq_succ Hne.out hlt hall.out hx, hb.drew.next (Nat.le_refl _) b1⟩
          case measure => simp [intOf]; omega
        · have hx : (!(gl l1 k == gl l2 k)) = true := by assumption
          go_ret
          exact ⟨ret_bool (gl_ne_f hlt Hne.out hx).symm, hb.drew.next (Nat.le_refl _) b1⟩
        · have hx : (!(gl l1 k == gl l2 k)) = false := by assumption
          go_roundw
          case rel => exact ⟨k + 1, by omega, by go_num, takeL_eq_succ Hne.out hlt hall.out hx, hb.drew.next (Nat.le_refl _) b1⟩
          case measure => simp [intOf]; omega
      · have hx : Hid ((l1 == l2) = true) := by
          have h1 : l1.take k = l1 := List.take_of_length_le (by omega)
          have h2 : l2.take k = l2 := List.take_of_length_le (by have := Hne.out; omega)
          have := hall.out
          rw [h1, h2] at this
          rw [this]; simp [Hid]
        go_wp2_with fail
        go_ret
        exact ⟨ret_bool hx.out.symm, hb⟩
  · have hn : ((l1.length : Int) != l2.length) = true := by simp; omega
    have hx : Hid ((l1 == l2) = false) := by
      show (l1 == l2) = false
      rw [beq_eq_false_iff_ne]; rintro rfl; exact hne rfl
    go_enter Try.func44, Try.ntmps44
    go_wp2_with fail
    go_ret
    exact ⟨ret_bool hx.out.symm, Below.refl _ _⟩

def FreshIntss (w : World) (ls : List (List Int)) (e : Ending) (w' : World) : Prop := ∃ v, e = .returned v ∧ OwnIntss w' w.heap.size v ls ∧ Below w.heap.size w w'

/-- Behind k rounds of a copy: the first k lists, then nils. -/
structure CopyL (wr : World) (lo g n : Nat) (vs : List Value) (ls : List (List Int)) (k : Nat) : Prop where
  row : wr.ownsRow lo 55 1 (.slice (some ⟨g, 0, none⟩) n n) n (vs ++ List.replicate (n - k) (.slice none 0 0))
  len : vs.length = k
  inner : ∀ (i : Nat) (u : Value) (l : List Int), vs[i]? = some u → ls[i]? = some l → OwnInts wr lo u l
  sep : ∀ (i j : Nat) (u u' : Value) (g : Nat), vs[i]? = some u → vs[j]? = some u' → u.ownBlock = some g → u'.ownBlock = some g → i = j

theorem CopyL.step {wr w1 : World} {lo g n k : Nat} {vs : List Value} {ls : List (List Int)} {u : Value} (h : CopyL wr lo g n vs ls k) (hk : k < n) (hkl : k < ls.length) (hlo : lo ≤ wr.heap.size) (hb : Below wr.heap.size wr w1) (hu : OwnInts w1 wr.heap.size u (gl ls k)) :
    CopyL (w1.setCell ⟨g, k, none⟩ u) lo g n (vs ++ [u]) ls (k + 1) := by
  have hrow := ownsRow_keep h.row (KeepIn.of_below (lo := lo) hb (Nat.le_refl _)) (Nat.le_refl _) (fun g' hg' => (World.ownsRow.lt h.row g' hg').2)
  have hst := hrow.stored k u
  have hne : ∀ (x : Value) (l : List Int), w1.ownsRow lo 3 1 x l.length (ints l) → x.ownBlock = none ∨ x.ownBlock ≠ some g := fun x l hx => ownsRow_ne hrow hx (by decide)
  have old : ∀ (i : Nat) (x : Value) (l : List Int), vs[i]? = some x → ls[i]? = some l → OwnInts w1 lo x l := fun i x l hx hl => by
    have := h.inner i x l hx hl
    exact OwnInts.below this hb (Nat.le_refl _)
  have hu' : w1.ownsRow lo 3 1 u (gl ls k).length (ints (gl ls k)) := by
    refine ⟨hu.1, ?_⟩
    rcases hu.2 with hn | ⟨g', cap, cur, e, hbg, rest⟩
    · exact .inl hn
    · exact .inr ⟨g', cap, cur, e, by omega, rest⟩
  refine ⟨?_, by simp [h.len], ?_, ?_⟩
  · have e : (vs ++ List.replicate (n - k) (Value.slice none 0 0)).set k u = vs ++ [u] ++ List.replicate (n - (k + 1)) (.slice none 0 0) := by
      rw [List.set_append_right _ _ (by rw [h.len]; exact Nat.le_refl _), h.len, Nat.sub_self]
      obtain ⟨m, hm⟩ : ∃ m, n - k = m + 1 := ⟨n - k - 1, by omega⟩
      have hm' : n - (k + 1) = m := by omega
      rw [hm, hm']
      simp [List.replicate_succ]
    rw [← e]
    exact hst.1
  · intro i x l hx hl
    by_cases hi : i < vs.length
    · rw [List.getElem?_append_left hi] at hx
      exact World.ownsRow.kept (old i x l hx hl) hst.2 (hne x l (old i x l hx hl))
    · rw [List.getElem?_append_right (by omega)] at hx
      have e1 : i - vs.length = 0 := by
        have := (List.getElem?_eq_some_iff.1 hx).1
        simp at this; omega
      rw [e1] at hx
      simp at hx
      subst hx
      have hik : i = k := by have := h.len; omega
      subst hik
      have : gl ls i = l := by simp [gl, List.getD, hl]
      rw [← this]
      exact World.ownsRow.kept hu' hst.2 (hne u _ hu')
  · intro i j x y g' hx hy hgx hgy
    have oldb : ∀ (k' : Nat) (z : Value), k' < vs.length → (vs ++ [u])[k']? = some z → z.ownBlock = some g' → k' < ls.length → g' < wr.heap.size := by
      intro k' z hk' hz hgz hl
      rw [List.getElem?_append_left hk'] at hz
      exact (World.ownsRow.lt (h.inner k' z _ hz (gl_eq hl)) g' hgz).2
    have newb : ∀ (k' : Nat) (z : Value), ¬ k' < vs.length → (vs ++ [u])[k']? = some z → z.ownBlock = some g' → wr.heap.size ≤ g' ∧ k' = vs.length := by
      intro k' z hk' hz hgz
      rw [List.getElem?_append_right (by omega)] at hz
      have h1 := (List.getElem?_eq_some_iff.1 hz).1
      simp at h1
      have e1 : k' - vs.length = 0 := by omega
      rw [e1] at hz
      simp at hz
      subst hz
      exact ⟨(World.ownsRow.lt hu g' hgz).1, by omega⟩
    by_cases hi : i < vs.length <;> by_cases hj : j < vs.length
    · rw [List.getElem?_append_left hi] at hx
      rw [List.getElem?_append_left hj] at hy
      exact h.sep i j x y g' hx hy hgx hgy
    · have := oldb i x hi hx hgx (by have := h.len; omega); have := (newb j y hj hy hgy).1; omega
    · have := oldb j y hj hy hgy (by have := h.len; omega); have := (newb i x hi hx hgx).1; omega
    · have := (newb i x hi hx hgx).2; have := (newb j y hj hy hgy).2; omega

def marksL : Int → List (List Int) → List (List Int)
  | _, [] => []
  | k, l :: ls => marks k l.length :: marksL (k + l.length) ls
theorem marksL_len (k : Int) (ls : List (List Int)) : (marksL k ls).length = ls.length := by
  induction ls generalizing k with
  | nil => rfl
  | cons l ls ih => simp [marksL, ih]
theorem marksL_snoc (k : Int) (ls : List (List Int)) (l : List Int) : marksL k (ls ++ [l]) = marksL k ls ++ [marks (k + tot ls) l.length] := by
  induction ls generalizing k with
  | nil => simp [marksL, tot]
  | cons x ls ih =>
    simp only [List.cons_append, marksL, ih]
    have : k + (x.length : Int) + (tot ls : Int) = k + (tot (x :: ls) : Int) := by simp [tot]; omega
    rw [this]
theorem marksL_tot (k : Int) (ls : List (List Int)) : tot (marksL k ls) = tot ls := by
  induction ls generalizing k with
  | nil => rfl
  | cons l ls ih =>
    have := ih (k + l.length)
    simp only [tot, marksL, List.map_cons, List.sum_cons, marks_len] at this ⊢
    omega
def markedL (k0 : Int) (ls : List (List Int)) (j : Nat) : List (List Int) := marksL k0 (ls.take j) ++ ls.drop j
theorem markedL_len (k0 : Int) (ls : List (List Int)) (j : Nat) (h : j ≤ ls.length) : (markedL k0 ls j).length = ls.length := by simp [markedL, marksL_len]; omega
theorem markedL_at (k0 : Int) (ls : List (List Int)) (j : Nat) (h : j < ls.length) : (markedL k0 ls j)[j]? = some (gl ls j) := by
  unfold markedL
  have hm : (marksL k0 (ls.take j)).length = j := by rw [marksL_len, List.length_take]; omega
  rw [List.getElem?_append_right (by omega), hm, Nat.sub_self, List.getElem?_drop]
  exact gl_eq h
theorem markedL_set (k0 : Int) (ls : List (List Int)) (j : Nat) (h : j < ls.length) : (markedL k0 ls j).set j (marks (k0 + tot (ls.take j)) (gl ls j).length) = markedL k0 ls (j + 1) := by
  unfold markedL
  have hm : (marksL k0 (ls.take j)).length = j := by rw [marksL_len, List.length_take]; omega
  rw [List.set_append_right _ _ (by omega), hm, Nat.sub_self, take_succ_gl ls j h, marksL_snoc, List.drop_eq_getElem_cons h, List.set_cons_zero, List.append_assoc]
  rfl
theorem gl_marksL (k0 : Int) (ls : List (List Int)) (j : Nat) (h : j < ls.length) : gl (marksL k0 ls) j = marks (k0 + tot (ls.take j)) (gl ls j).length := by
  have e : marksL k0 ls = markedL k0 ls ls.length := by simp [markedL]
  have h1 : (markedL k0 ls (j + 1))[j]? = some (marks (k0 + tot (ls.take j)) (gl ls j).length) := by
    rw [← markedL_set k0 ls j h, List.getElem?_set_self (by rw [markedL_len k0 ls j (by omega)]; exact h)]
  have h2 : (marksL k0 ls)[j]? = (marksL k0 (ls.take (j + 1)))[j]? := by
    have e2 : ∀ (xs ys : List (List Int)) (k : Int), marksL k (xs ++ ys) = marksL k xs ++ marksL (k + tot xs) ys := by
      intro xs
      induction xs with
      | nil => intro ys k; simp [marksL, tot]
      | cons x xs ih =>
        intro ys k
        simp only [List.cons_append, marksL, ih]
        have : k + (x.length : Int) + (tot xs : Int) = k + (tot (x :: xs) : Int) := by simp [tot]; omega
        rw [this]
    rw [← List.take_append_drop (j + 1) ls, e2, List.take_append_drop, List.getElem?_append_left (by rw [marksL_len, List.length_take]; omega)]
  have h3 : (markedL k0 ls (j + 1))[j]? = (marksL k0 (ls.take (j + 1)))[j]? := by
    unfold markedL
    rw [List.getElem?_append_left (by rw [marksL_len, List.length_take]; omega)]
  unfold gl
  rw [List.getD, h2, ← h3, h1]
  rfl

def IntssMarked (w : World) (lo hi : Nat) (v : Value) (k0 : Int) (ls : List (List Int)) : Prop := OwnLIn w lo hi v (marksL k0 ls)
def IntssMarkPost (w : World) (lo hi : Nat) (v : Value) (k0 : Int) (ls : List (List Int)) (e : Ending) (w' : World) : Prop :=
  e = .returned (.int .i64 (k0 + tot ls)) ∧ IntssMarked w' lo hi v k0 ls ∧ Apart lo hi w w'
theorem IntssMarked.keep {w w' : World} {lo hi : Nat} {v : Value} {k0 : Int} {ls : List (List Int)} (h : IntssMarked w lo hi v k0 ls) (hk : KeepIn lo hi w w') : IntssMarked w' lo hi v k0 ls := OwnLIn.keep h hk

set_option maxHeartbeats 800000 in
theorem markIntss (v : Value) (ls : List (List Int)) (k0 : Int) (lo hi : Nat) (w : World) (h : OwnLIn w lo hi v ls) (hk0 : 0 ≤ k0) (hk1 : k0 ≤ 1152921504606846976) (hl : ls.length + tot ls ≤ 1152921504606846) :
    Calls Try.prog 45 #[v, .int .i64 k0] w (IntssMarkPost w lo hi v k0 ls) := by
  obtain ⟨vs, hL, hu⟩ := h
  obtain ⟨A, c, rfl, hnc, hc63⟩ := hL.reads.shape
  go_enter Try.func45, Try.ntmps45
  go_wp2_with fail
  go_loopw [1, 5] (fun q i wr => ∃ j : Nat, j ≤ ls.length ∧ i = .int .i64 j ∧ q = .int .i64 (k0 + tot (ls.take j)) ∧ OwnL wr lo (.slice A ls.length c) vs (markedL k0 ls j) ∧ Apart lo hi w wr) (fun _ i _ => ls.length - (intOf i).toNat)
  case atStart => exact ⟨0, Nat.zero_le _, rfl, by simp [tot], by simpa [markedL, marksL] using hL, Apart.refl _ _ _⟩
  case round =>
    obtain ⟨j, hj, rfl, rfl, hown, hg⟩ := hrel
    have htl := tot_le ls j
    by_cases hlt : j < ls.length
    · have hrow := hown.row
      rw [markedL_len k0 ls j hj] at hrow
      obtain ⟨g, cap, hv, _⟩ := hrow.form (by omega)
      injection hv with e1 e2 e3
      subst e1 e3
      have hvl : j < vs.length := by have := hown.len; rw [markedL_len k0 ls j hj] at this; omega
      obtain ⟨u, hvu⟩ : ∃ u, vs[j]? = some u := ⟨_, List.getElem?_eq_getElem hvl⟩
      have hin := hown.inner j u _ hvu (markedL_at k0 ls j hlt)
      obtain ⟨A1, c1, rfl, _⟩ := hin.reads.shape
      have hcell : wr.cell? ⟨g, j, none⟩ = some (.slice A1 (gl ls j).length c1) := (hrow.cellAt j (by omega)).trans hvu
      have hgl := gl_le_tot ls j hlt
      have H1 := Lib.hid (tot_take ls j hlt)
      clear hrow
      go_wp2_with fail
      refine (markIntS_any _ (gl ls j) _ lo _ hin (by omega) (by omega) (by omega)).mono ?_; rintro e w1 ⟨rfl, o1, g1⟩
      have hset := hown.setInner hvu g1 o1
      rw [markedL_set k0 ls j hlt] at hset
      have Hset := Lib.hid hset
      have hap : Apart lo hi wr w1 := OwnIn.apart ⟨hin, hu.2 _ (List.mem_of_getElem? hvu)⟩ g1
      have hap2 := hg.trans hap
      clear hset hap
      go_wp2_with fail
      go_roundw
      case rel => exact ⟨j + 1, by omega, by go_num, by rw [H1.out]; go_num, Hset.out, hap2⟩
      case measure => simp [intOf]; omega
    · have hx : j = ls.length := by omega
      subst hx
      have hfin : Hid (IntssMarked wr lo hi (.slice A ls.length c) k0 ls) := by
        refine ⟨vs, ?_, hu⟩
        simpa [markedL] using hown
      have ht : Hid (tot (ls.take ls.length) = tot ls) := by show tot (ls.take ls.length) = tot ls; rw [List.take_length]
      go_wp2_with fail
      go_ret
      exact ⟨ret_int (by rw [ht.out]), hfin.out, hg⟩

set_option maxHeartbeats 800000 in
theorem heldIntss (v : Value) (ls : List (List Int)) (k0 : Int) (lo hi : Nat) (w : World) (h : IntssMarked w lo hi v k0 ls) (hk0 : 0 ≤ k0) (hk1 : k0 ≤ 1152921504606846976) (hl : ls.length + tot ls ≤ 1152921504606846) :
    Calls Try.prog 46 #[v, .int .i64 k0] w fun e w' => e = .returned (.int .i64 (k0 + tot ls)) ∧ w = w' := by
  have hr := OwnLIn.reads h
  obtain ⟨A, c, rfl, hnc, hc63⟩ := hr.shape
  rw [marksL_len] at hr hnc ⊢
  go_enter Try.func46, Try.ntmps46
  go_wp2_with fail
  go_loop [1, 5] (fun q i => ∃ j : Nat, j ≤ ls.length ∧ i = .int .i64 j ∧ q = .int .i64 (k0 + tot (ls.take j))) (fun _ i => ls.length - (intOf i).toNat)
  case atStart => exact ⟨0, Nat.zero_le _, rfl, by simp [tot]⟩
  case round =>
    obtain ⟨j, hj, rfl, rfl⟩ := hrel
    have htl := tot_le ls j
    by_cases hlt : j < ls.length
    · obtain ⟨b, o, A', c', rfl, hc, hi⟩ := IntssAt.at_ hr j (by rw [marksL_len]; exact hlt)
      rw [gl_marksL k0 ls j hlt] at hc hi
      have hgl := gl_le_tot ls j hlt
      have H1 := Lib.hid (tot_take ls j hlt)
      go_wp2_with fail
      refine (heldIntS_any _ _ (gl ls j).length _ hi (by omega) (by omega) (by omega)).mono ?_; rintro e _ ⟨rfl, rfl⟩
      go_wp2_with fail
      go_round
      case rel => exact ⟨j + 1, by omega, by go_num, by rw [H1.out]; go_num⟩
      case measure => simp [intOf]; omega
    · have hx : j = ls.length := by omega
      subst hx
      have ht : Hid (tot (ls.take ls.length) = tot ls) := by show tot (ls.take ls.length) = tot ls; rw [List.take_length]
      go_wp2_with fail
      go_ret
      exact ⟨ret_int (by first | rfl | rw [ht.out]), rfl⟩
end Go.Proofs.Ytnfnpidopifecaa
