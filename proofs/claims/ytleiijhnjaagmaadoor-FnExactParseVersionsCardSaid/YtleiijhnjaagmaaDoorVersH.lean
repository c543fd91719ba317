/- Contracts of the laws' helpers for slices of versions. -/
import Derived.Test.YtleiijhnjaagmaaDoorVers
import Derived.Deep.RegionWith
set_option linter.unusedSimpArgs false
set_option linter.unusedVariables false
namespace Go.Proofs.YtleiijhnjaagmaaDoor
open Go.RowKit

def Ver.agg (x : Ver) : Value := .agg #[.int .i64 x.p, .int .i64 x.k, .int .i64 x.v]
theorem info_ver : (Tryd.prog.info? 47).map (fun i => (i.zero, i.size, i.bytes)) = some (some (.agg #[.int .i64 0, .int .i64 0, .int .i64 0]), 3, 24) := by kernel_rfl

theorem toVersion_any (p k v : Int) (w : World) :
    Calls Tryd.prog 36 #[.agg #[.int .i64 p, .int .i64 k, .int .i64 v]] w fun e w' => e = .returned (.agg #[.int .i64 p, .int .i64 k, .int .i64 v]) ∧ Below w.heap.size w w' := by
  go_enter Tryd.func36, Tryd.ntmps36
  go_wp2
  exact bodyPost_ret (v := .agg #[.int .i64 p, .int .i64 k, .int .i64 v]) (by simp [results, Tryd.results36, go_sem]) rfl ⟨rfl, (((Below.refl w.heap.size w).alloc (Nat.le_refl _) _).alloc (by simp) _).alloc (by simp; omega) _⟩

theorem szVersionS_yes (v : Value) (l : List Ver) (n : Int) (w : World) (h : VersAt w v l) (hn : 0 ≤ n) (hn2 : n ≤ 1048576) (hl : (l.length : Int) ≤ n) :
    Calls Tryd.prog 6 #[v, .int .i64 n] w fun e w' => e = .returned (.int .i64 (n - l.length)) ∧ w = w' := by
  obtain ⟨A, c, rfl, hnc, hc63⟩ := h.shape
  go_enter Tryd.func6, Tryd.ntmps6
  go_wp2
  go_ret
  exact ⟨rfl, rfl⟩
theorem szVersionS_no (v : Value) (l : List Ver) (n : Int) (w : World) (h : VersAt w v l) (hn : 0 ≤ n) (hn2 : n ≤ 1048576) (hl : n < (l.length : Int)) :
    Calls Tryd.prog 6 #[v, .int .i64 n] w fun e w' => e = .returned (.int .i64 (-1)) ∧ w = w' := by
  obtain ⟨A, c, rfl, hnc, hc63⟩ := h.shape
  go_enter Tryd.func6, Tryd.ntmps6
  go_wp2
  go_ret
  exact ⟨rfl, rfl⟩

/-- Versions of the call's own. -/
def OwnVers (w : World) (lo : Nat) (v : Value) (l : List Ver) : Prop := w.ownsRow lo 47 3 v l.length (vcells l)
theorem OwnVers.reads {w : World} {lo : Nat} {v : Value} {l : List Ver} (h : OwnVers w lo v l) : VersAt w v l := Sl.of_own h
def vflat (l : List Ver) : List Int := l.flatMap fun x => [x.p, x.k, x.v]
theorem vcells_flat (l : List Ver) : vcells l = ints (vflat l) := by
  induction l with
  | nil => rfl
  | cons x l ih => simp only [vcells, vflat, ints, List.flatMap_cons, List.map_append] at ih ⊢; rw [ih]; rfl
theorem vflat_len (l : List Ver) : (vflat l).length = l.length * 3 := by
  have := vcells_len l
  rwa [vcells_flat, ints_len] at this

set_option maxHeartbeats 400000 in
theorem eqVersion_any (x y : Ver) (w : World) :
    Calls Tryd.prog 40 #[.agg #[.int .i64 x.p, .int .i64 x.k, .int .i64 x.v], .agg #[.int .i64 y.p, .int .i64 y.k, .int .i64 y.v]] w fun e w' => e = .returned (.bool (decide (x = y))) ∧ Below w.heap.size w w' := by
  have hb : ∀ (o o' : Obj), Below w.heap.size w ((w.alloc o).alloc o') := fun o o' => ((Below.refl w.heap.size w).alloc (Nat.le_refl _) _).alloc (by simp) _
  have Hb := Lib.hid hb
  clear hb
  cases h1 : (x.p != y.p) <;> cases h2 : (x.k != y.k) <;> cases h3 : (x.v != y.v)
  case false.false.false =>
    have hx : Hid (decide (x = y) = true) := by
      apply decide_eq_true
      cases x; cases y
      simp at h1 h2 h3
      simp [h1, h2, h3]
    go_enter Tryd.func40, Tryd.ntmps40
    go_wp2
    go_ret
    exact ⟨ret_bool hx.out.symm, Hb.out _ _⟩
  all_goals
    have hx : Hid (decide (x = y) = false) := by
      apply decide_eq_false
      rintro rfl
      simp at h1 h2 h3
    go_enter Tryd.func40, Tryd.ntmps40
    go_wp2
    go_ret
    exact ⟨ret_bool hx.out.symm, Hb.out _ _⟩

theorem vflat_take (l : List Ver) (k : Nat) (h : k < l.length) : (vflat l).take ((k + 1) * 3) = (vflat l).take (k * 3) ++ [(gv l k).p, (gv l k).k, (gv l k).v] := by
  induction l generalizing k with
  | nil => simp at h
  | cons x l ih =>
    have e : vflat (x :: l) = x.p :: x.k :: x.v :: vflat l := rfl
    cases k with
    | zero => rw [e]; simp [gv]
    | succ k =>
      have := ih k (by simpa using h)
      rw [e, show (k + 1 + 1) * 3 = (k + 1) * 3 + 1 + 1 + 1 from by omega, show (k + 1) * 3 = k * 3 + 1 + 1 + 1 from by omega]
      simp only [List.take_succ_cons]
      rw [show k * 3 + 1 + 1 + 1 = (k + 1) * 3 from by omega, this]
      simp [gv]
/-- Three stores side by side into a row of the call's own. -/
theorem own3 {w : World} {lo e n c g i : Nat} {xs : List Int} (h : w.ownsRow lo e 3 (.slice (some ⟨g, 0, none⟩) n c) n (ints xs)) (a b d : Int) :
    (((w.setCell ⟨g, i, none⟩ (.int .i64 a)).setCell ⟨g, i + 1, none⟩ (.int .i64 b)).setCell ⟨g, i + 2, none⟩ (.int .i64 d)).ownsRow lo e 3 (.slice (some ⟨g, 0, none⟩) n c) n (ints (((xs.set i a).set (i + 1) b).set (i + 2) d)) ∧
    w.grownBy (((w.setCell ⟨g, i, none⟩ (.int .i64 a)).setCell ⟨g, i + 1, none⟩ (.int .i64 b)).setCell ⟨g, i + 2, none⟩ (.int .i64 d)) (some g) := by
  have h1 := h.stored i (.int .i64 a)
  have h2 := h1.1.stored (i + 1) (.int .i64 b)
  have h3 := h2.1.stored (i + 2) (.int .i64 d)
  refine ⟨?_, h1.2.trans (h2.2.trans h3.2)⟩
  have := h3.1
  unfold ints at this ⊢
  rwa [List.map_set, List.map_set, List.map_set]
theorem set3 (A R : List Int) (x y z a b d : Int) : (((A ++ (x :: y :: z :: R)).set A.length a).set (A.length + 1) b).set (A.length + 2) d = A ++ (a :: b :: d :: R) := by
  rw [List.set_append_right _ _ (Nat.le_refl _), Nat.sub_self, List.set_append_right _ _ (by omega), List.set_append_right _ _ (by omega), Nat.add_sub_cancel_left, Nat.add_sub_cancel_left]
  rfl
def vstate (l : List Ver) (k : Nat) : List Int := (vflat l).take (k * 3) ++ List.replicate ((l.length - k) * 3) 0
theorem vstate_len (l : List Ver) (k : Nat) (h : k ≤ l.length) : (vstate l k).length = l.length * 3 := by
  unfold vstate
  rw [List.length_append, List.length_take, List.length_replicate, vflat_len]
  have : k * 3 ≤ l.length * 3 := Nat.mul_le_mul_right _ h
  rw [Nat.min_eq_left this, Nat.sub_mul]; omega
theorem vstate_set (l : List Ver) (k : Nat) (h : k < l.length) : (((vstate l k).set (k * 3) (gv l k).p).set (k * 3 + 1) (gv l k).k).set (k * 3 + 2) (gv l k).v = vstate l (k + 1) := by
  unfold vstate
  have hA : ((vflat l).take (k * 3)).length = k * 3 := by rw [List.length_take, vflat_len]; omega
  obtain ⟨m, hm⟩ : ∃ m, l.length - k = m + 1 := ⟨l.length - k - 1, by omega⟩
  have hm' : l.length - (k + 1) = m := by omega
  have e : List.replicate ((m + 1) * 3) (0 : Int) = 0 :: 0 :: 0 :: List.replicate (m * 3) 0 := by rw [show (m + 1) * 3 = m * 3 + 1 + 1 + 1 from by omega]; simp [List.replicate_succ]
  rw [hm, hm', e, vflat_take l k h]
  have := set3 ((vflat l).take (k * 3)) (List.replicate (m * 3) 0) 0 0 0 (gv l k).p (gv l k).k (gv l k).v
  rw [hA] at this
  rw [this, List.append_assoc]; rfl
theorem vstate_at (l : List Ver) (k j : Nat) (h : k < l.length) (hj : j < 3) : (ints (vstate l k))[k * 3 + j]? = some (.int .i64 0) := by
  have hA : ((vflat l).take (k * 3)).length = k * 3 := by rw [List.length_take, vflat_len]; omega
  unfold vstate ints
  rw [List.getElem?_map, List.getElem?_append_right (by omega), hA, Nat.add_sub_cancel_left, List.getElem?_replicate, if_pos (by omega)]
  rfl
theorem vstate_all (l : List Ver) : ints (vstate l l.length) = vcells l := by
  rw [vcells_flat]; unfold vstate
  rw [← vflat_len, List.take_length]; simp

def FreshVers (w : World) (l : List Ver) (e : Ending) (w' : World) : Prop := ∃ v, e = .returned v ∧ OwnVers w' w.heap.size v l ∧ Below w.heap.size w w'
set_option maxHeartbeats 800000 in
theorem toVersionS_any (v : Value) (l : List Ver) (w : World) (h : VersAt w v l) (hl : l.length ≤ 1048576) :
    Calls Tryd.prog 8 #[v] w (FreshVers w l) := by
  obtain ⟨A, c, rfl, hnc, hc63⟩ := h.shape
  obtain ⟨i0, hi, hz0, hz1, hz2⟩ := info_parts info_ver
  go_enter Tryd.func8, Tryd.ntmps8
  go_wp2_with (at_make; refine wpList_make_full _ rfl _ _ 26 rfl w.heap.size 47 i0 _ 3 Tryd.underlying26 hi hz0 hz1 _ _ _ _ l.length rfl rfl rfl rfl (by rw [hz2]; omega) (by unfold maxLen; omega) (Nat.le_refl _) ?_; intro w1 hown hgrow)
  have hown2 : w1.ownsRow w.heap.size 47 3 (.slice (some ⟨w.heap.size, 0, none⟩) l.length l.length) l.length (ints (vstate l 0)) := by
    have e : (madeCells #[Value.int .i64 0, .int .i64 0, .int .i64 0] (l.length * 3)).toList = ints (vstate l 0) := by
      unfold vstate ints
      apply List.ext_getElem?
      intro j
      by_cases hj : j < l.length * 3
      · have h3 : j % 3 = 0 ∨ j % 3 = 1 ∨ j % 3 = 2 := by omega
        rcases h3 with h3 | h3 | h3 <;> simp [madeCells, hj, h3]
      · simp [madeCells, hj]
    have e2 : (Value.agg #[Value.int .i64 0, .int .i64 0, .int .i64 0]).cells = #[Value.int .i64 0, .int .i64 0, .int .i64 0] := rfl
    rw [← e, ← e2]
    exact hown
  have hb1 : Below w.heap.size w w1 := (Below.refl _ _).grown hgrow (Nat.le_refl _) (fun k hk => by cases hk)
  clear hown hgrow
  go_loopw [4] (fun i wr => ∃ (k : Nat), k ≤ l.length ∧ i = .int .i64 k ∧ wr.ownsRow w.heap.size 47 3 (.slice (some ⟨w.heap.size, 0, none⟩) l.length l.length) l.length (ints (vstate l k)) ∧ Below w.heap.size w wr) (fun i _ => l.length - (intOf i).toNat)
  case atStart => exact ⟨0, Nat.zero_le _, rfl, hown2, hb1⟩
  case round =>
    obtain ⟨k, hk, rfl, ho, hb⟩ := hrel
    by_cases hlt : k < l.length
    · obtain ⟨b, o, rfl, hc1, hc2, hc3⟩ := VersAt.at_ (h.below hb (Nat.le_refl _)) k hlt
      go_wp2_with fail
      refine (toVersion_any _ _ _ _).mono ?_; rintro e w2 ⟨rfl, b2⟩
      have ho2 := ownsRow_keep ho (KeepIn.of_below (lo := w.heap.size) b2 (Nat.le_refl _)) (Nat.le_refl _) (fun g' hg' => (World.ownsRow.lt ho g' hg').2)
      have hcell : ∀ j, j < 3 → w2.cell? ⟨w.heap.size, k * 3 + j, none⟩ = some (.int .i64 0) := fun j hj => (ho2.cellAt _ (by omega)).trans (vstate_at l k j hlt hj)
      have hc0 := hcell 0 (by omega)
      have hc1 := hcell 1 (by omega)
      have hc2 := hcell 2 (by omega)
      clear hcell
      simp only [Nat.add_zero] at hc0
      have hf0 : w2.frozen? ⟨w.heap.size, k * 3, none⟩ = false := ho2.frozenAt _
      have hf1 : w2.frozen? ⟨w.heap.size, k * 3 + 1, none⟩ = false := ho2.frozenAt _
      have hf2 : w2.frozen? ⟨w.heap.size, k * 3 + 2, none⟩ = false := ho2.frozenAt _
      have h3 := own3 (i := k * 3) ho2 (gv l k).p (gv l k).k (gv l k).v
      rw [vstate_set l k hlt] at h3
      have H3 := Lib.hid h3
      have bb := hb.next (Nat.le_refl _) b2
      have hb3 : Hid (Below w.heap.size w (((w2.setCell ⟨w.heap.size, k * 3, none⟩ (.int .i64 (gv l k).p)).setCell ⟨w.heap.size, k * 3 + 1, none⟩ (.int .i64 (gv l k).k)).setCell ⟨w.heap.size, k * 3 + 2, none⟩ (.int .i64 (gv l k).v))) :=
        ((bb.setCell (by exact Nat.le_refl _) _).setCell (by exact Nat.le_refl _) _).setCell (by exact Nat.le_refl _) _
      clear h3 ho2
      go_wp2_with fail
      go_roundw
      case rel => exact ⟨k + 1, by omega, by go_num, H3.out.1, hb3.out⟩
      case measure => simp [intOf]; omega
    · have hx : k = l.length := by omega
      subst hx
      rw [vstate_all] at ho
      have Ho : Hid (OwnVers wr w.heap.size (.slice (some ⟨w.heap.size, 0, none⟩) l.length l.length) l) := ho
      clear ho
      go_wp2_with fail
      go_ret
      exact ⟨_, rfl, Ho.out, hb⟩

set_option maxHeartbeats 800000 in
theorem eqVersionS_any (v1 v2 : Value) (l1 l2 : List Ver) (w : World) (h1 : VersAt w v1 l1) (h2 : VersAt w v2 l2) :
    Calls Tryd.prog 10 #[v1, v2] w fun e w' => e = .returned (.bool (decide (l1 = l2))) ∧ Below w.heap.size w w' := by
  obtain ⟨A, c, rfl, hnc, hc63⟩ := h1.shape
  obtain ⟨B, d, rfl, hnd, hd63⟩ := h2.shape
  by_cases hne : l1.length = l2.length
  · rw [← hne] at h2 hnd ⊢
    have Hne := Lib.hid hne
    clear hne
    go_enter Tryd.func10, Tryd.ntmps10
    go_wp2_with fail
    go_loopw [5] (fun i wr => ∃ k : Nat, k ≤ l1.length ∧ i = .int .i64 k ∧ Hid (l1.take k = l2.take k) ∧ Below w.heap.size w wr) (fun i _ => l1.length - (intOf i).toNat)
    case atStart => exact ⟨0, Nat.zero_le _, rfl, rfl, Below.refl _ _⟩
    case round =>
      obtain ⟨k, hk, rfl, hall, hb⟩ := hrel
      by_cases hlt : k < l1.length
      · obtain ⟨b, o, rfl, hc1, hc2, hc3⟩ := VersAt.at_ (h1.below hb (Nat.le_refl _)) k hlt
        obtain ⟨b', o', rfl, hd1, hd2, hd3⟩ := VersAt.at_ (h2.below hb (Nat.le_refl _)) k (by have := Hne.out; omega)
        go_wp2_with fail
        go_region_with (go_at_call 40; refine (eqVersion_any (gv l1 k) (gv l2 k) _).mono ?_; rintro e w1 ⟨rfl, b1⟩)
        all_goals go_wp2_with fail
        · have hx : (!decide (gv l1 k = gv l2 k)) = true := by assumption
          have hne : Hid (l1 ≠ l2) := by
            show l1 ≠ l2
            rintro rfl; simp at hx
          go_ret
          exact ⟨ret_bool (decide_eq_false hne.out).symm, hb.drew.next (Nat.le_refl _) b1⟩
        · have hx : (!decide (gv l1 k = gv l2 k)) = false := by assumption
          have htk : Hid (l1.take (k + 1) = l2.take (k + 1)) := by
            show _ = _
            have h1 : gv l1 k = gv l2 k := by simpa using hx
            have hlt2 : k < l2.length := by have := Hne.out; omega
            rw [List.take_succ_eq_append_getElem hlt, List.take_succ_eq_append_getElem hlt2, hall.out, ← gv_eq hlt, ← gv_eq hlt2, h1]
          go_roundw
          case rel => exact ⟨k + 1, by omega, by go_num, htk, hb.drew.next (Nat.le_refl _) b1⟩
          case measure => simp [intOf]; omega
        · have hx : (!decide (gv l1 k = gv l2 k)) = true := by assumption
          have hne : Hid (l1 ≠ l2) := by
            show l1 ≠ l2
            rintro rfl; simp at hx
          go_ret
          exact ⟨ret_bool (decide_eq_false hne.out).symm, hb.drew.next (Nat.le_refl _) b1⟩
        · have hx : (!decide (gv l1 k = gv l2 k)) = false := by assumption
          have htk : Hid (l1.take (k + 1) = l2.take (k + 1)) := by
            show _ = _
            have h1 : gv l1 k = gv l2 k := by simpa using hx
            have hlt2 : k < l2.length := by have := Hne.out; omega
            rw [List.take_succ_eq_append_getElem hlt, List.take_succ_eq_append_getElem hlt2, hall.out, ← gv_eq hlt, ← gv_eq hlt2, h1]
          go_roundw
          case rel => exact ⟨k + 1, by omega, by go_num, htk, hb.drew.next (Nat.le_refl _) b1⟩
          case measure => simp [intOf]; omega
      · have hx : Hid (l1 = l2) := by
          have h1 : l1.take k = l1 := List.take_of_length_le (by omega)
          have h2 : l2.take k = l2 := List.take_of_length_le (by have := Hne.out; omega)
          have := hall.out
          rwa [h1, h2] at this
        go_wp2_with fail
        go_ret
        exact ⟨ret_bool (decide_eq_true hx.out).symm, hb⟩
  · have hn : ((l1.length : Int) != l2.length) = true := by simp; omega
    have hx : Hid (l1 ≠ l2) := by
      show l1 ≠ l2
      rintro rfl; exact hne rfl
    go_enter Tryd.func10, Tryd.ntmps10
    go_wp2_with fail
    go_ret
    exact ⟨ret_bool (decide_eq_false hx.out).symm, Below.refl _ _⟩

theorem set_intsI (l : List Int) (k : Nat) (y : Int) : (ints l).set k (I y) = ints (l.set k y) := by unfold ints; rw [List.map_set]
def OwnVersIn (w : World) (lo hi : Nat) (v : Value) (l : List Ver) : Prop := OwnVers w lo v l ∧ ∀ g, v.ownBlock = some g → g < hi
theorem OwnVers.in_ {w : World} {lo : Nat} {v : Value} {l : List Ver} (h : OwnVers w lo v l) : OwnVersIn w lo w.heap.size v l := ⟨h, fun g hg => (World.ownsRow.lt h g hg).2⟩
theorem OwnVersIn.reads {w : World} {lo hi : Nat} {v : Value} {l : List Ver} (h : OwnVersIn w lo hi v l) : VersAt w v l := h.1.reads
theorem OwnVersIn.keep {w w' : World} {lo hi : Nat} {v : Value} {l : List Ver} (h : OwnVersIn w lo hi v l) (hk : KeepIn lo hi w w') : OwnVersIn w' lo hi v l := ⟨ownsRow_keep h.1 hk (Nat.le_refl _) h.2, h.2⟩
def VersMarked (w : World) (lo hi : Nat) (v : Value) (k0 : Int) (l : List Ver) : Prop := w.ownsRow lo 47 3 v l.length (ints (marks k0 (l.length * 3))) ∧ ∀ g, v.ownBlock = some g → g < hi
theorem VersMarked.keep {w w' : World} {lo hi : Nat} {v : Value} {k0 : Int} {l : List Ver} (h : VersMarked w lo hi v k0 l) (hk : KeepIn lo hi w w') : VersMarked w' lo hi v k0 l := ⟨ownsRow_keep h.1 hk (Nat.le_refl _) h.2, h.2⟩
def VersMarkPost (w : World) (lo hi : Nat) (v : Value) (k0 : Int) (l : List Ver) (e : Ending) (w' : World) : Prop :=
  e = .returned (.int .i64 (k0 + (l.length * 3 : Nat))) ∧ VersMarked w' lo hi v k0 l ∧ Apart lo hi w w'

theorem marked3 (k0 : Int) (xs : List Int) (j : Nat) (h : j + 2 < xs.length) : (((marked k0 xs j).set j (k0 + j)).set (j + 1) (k0 + j + 1)).set (j + 2) (k0 + j + 1 + 1) = marked k0 xs (j + 3) := by
  have inj : ∀ a b : List Int, ints a = ints b → a = b := fun a b hab => by
    unfold ints at hab
    exact (List.map_inj_right (fun x y hxy => by injection hxy)).1 hab
  have e0 := marked_set k0 xs j (by omega)
  have e1 := marked_set k0 xs (j + 1) (by omega)
  have e2 := marked_set k0 xs (j + 2) (by omega)
  rw [set_intsI] at e0 e1 e2
  have f0 := inj _ _ e0
  have f1 := inj _ _ e1
  have f2 := inj _ _ e2
  rw [f0, show k0 + (j : Int) + 1 = k0 + ((j + 1 : Nat) : Int) from by omega, f1, show k0 + ((j + 1 : Nat) : Int) + 1 = k0 + ((j + 2 : Nat) : Int) from by omega, f2]

set_option maxHeartbeats 1600000 in
theorem markVers (v : Value) (l : List Ver) (k0 : Int) (lo hi : Nat) (w : World) (h : OwnVersIn w lo hi v l) (hk0 : 0 ≤ k0) (hk1 : k0 ≤ 1152921504606846976) (hl : l.length ≤ 1152921504606846) :
    Calls Tryd.prog 13 #[v, .int .i64 k0] w (VersMarkPost w lo hi v k0 l) := by
  obtain ⟨hO, hu⟩ := h
  obtain ⟨A, c, rfl, hnc, hc63⟩ := hO.reads.shape
  have hst : w.ownsRow lo 47 3 (.slice A l.length c) l.length (ints (marked k0 (vflat l) 0)) := by
    rw [marked_zero, ← vcells_flat]; exact hO
  go_enter Tryd.func13, Tryd.ntmps13
  go_wp2_with fail
  go_loopw [1, 5] (fun q i wr => ∃ j : Nat, j ≤ l.length ∧ i = .int .i64 j ∧ q = .int .i64 (k0 + (j * 3 : Nat)) ∧ wr.ownsRow lo 47 3 (.slice A l.length c) l.length (ints (marked k0 (vflat l) (j * 3))) ∧ w.grownBy wr (Value.slice A l.length c).ownBlock) (fun _ i _ => l.length - (intOf i).toNat)
  case atStart => exact ⟨0, Nat.zero_le _, rfl, by simp, hst, World.grownBy.refl _ _⟩
  case round =>
    obtain ⟨j, hj, rfl, rfl, ho, hg⟩ := hrel
    by_cases hlt : j < l.length
    · obtain ⟨g, cap, hv, _⟩ := ho.form (by omega)
      injection hv with e1 e2 e3
      subst e1 e3
      have hcell : ∀ t, t < 3 → ∃ u, wr.cell? ⟨g, j * 3 + t, none⟩ = some u := fun t ht => by
        have h1 : j * 3 + t < l.length * 3 := by omega
        have h2 : (ints (marked k0 (vflat l) (j * 3))).length = l.length * 3 := ho.1
        exact ⟨_, (ho.cellAt _ h1).trans (List.getElem?_eq_getElem (by omega))⟩
      obtain ⟨u0, hc0⟩ := hcell 0 (by omega)
      obtain ⟨u1, hc1⟩ := hcell 1 (by omega)
      obtain ⟨u2, hc2⟩ := hcell 2 (by omega)
      clear hcell
      simp only [Nat.add_zero] at hc0
      have hf0 : wr.frozen? ⟨g, j * 3, none⟩ = false := ho.frozenAt _
      have hf1 : wr.frozen? ⟨g, j * 3 + 1, none⟩ = false := ho.frozenAt _
      have hf2 : wr.frozen? ⟨g, j * 3 + 2, none⟩ = false := ho.frozenAt _
      have h3 := own3 (i := j * 3) ho (k0 + (j * 3 : Nat)) (k0 + (j * 3 : Nat) + 1) (k0 + (j * 3 : Nat) + 1 + 1)
      rw [marked3 k0 (vflat l) (j * 3) (by rw [vflat_len]; omega), show j * 3 + 3 = (j + 1) * 3 from by omega, show ((j * 3 : Nat) : Int) = (j : Int) * 3 from by omega] at h3
      have H3 := Lib.hid h3
      clear h3 hst
      go_wp2_with fail
      go_roundw
      case rel => exact ⟨j + 1, by omega, by go_num, by go_num, H3.out.1, hg.trans H3.out.2⟩
      case measure => simp [intOf]; omega
    · have hx : j = l.length := by omega
      subst hx
      have Hf : Hid (VersMarked wr lo hi (.slice A l.length c) k0 l) := by
        refine ⟨?_, hu⟩
        have e : marked k0 (vflat l) (l.length * 3) = marks k0 (l.length * 3) := by rw [← vflat_len, marked_all]
        rw [← e]; exact ho
      have Ha : Hid (Apart lo hi w wr) := ⟨hg.os, hg.tape, hg.output, hg.size, fun k hk ho' => hg.block k hk (fun e => by
        have h1 := (World.ownsRow.lt hO k e.symm).1
        have h2 := hu k e.symm
        omega)⟩
      go_wp2_with fail
      go_ret
      exact ⟨ret_int (by omega), Hf.out, Ha.out⟩

theorem Sl.at3 {w : World} {A : Option Addr} {n c : Nat} {xs : List Int} (h : Sl w 3 (.slice A n c) n (ints xs)) (i : Nat) (hi : i < n) :
    ∃ b o, A = some ⟨b, o, none⟩ ∧ w.cell? ⟨b, o + i * 3, none⟩ = some (.int .i64 (gi xs (i * 3))) ∧ w.cell? ⟨b, o + i * 3 + 1, none⟩ = some (.int .i64 (gi xs (i * 3 + 1))) ∧ w.cell? ⟨b, o + i * 3 + 2, none⟩ = some (.int .i64 (gi xs (i * 3 + 2))) := by
  obtain ⟨hl, A', c', he, h1, h2, h3, h4⟩ := h
  injection he with e1 e2 e3
  subst e1
  obtain ⟨b, o, rfl, hc⟩ := h4 (by omega)
  rw [ints_len] at hl
  have hcell : ∀ j, j < 3 → w.cell? ⟨b, o + i * 3 + j, none⟩ = some (.int .i64 (gi xs (i * 3 + j))) := by
    intro j hj
    have hlt : i * 3 + j < (ints xs).length := by rw [ints_len]; omega
    have := hc (i * 3 + j) _ (List.getElem?_eq_getElem hlt)
    rw [ints_at (List.getElem?_eq_getElem hlt), ← Nat.add_assoc] at this
    exact this
  exact ⟨b, o, rfl, hcell 0 (by omega), hcell 1 (by omega), hcell 2 (by omega)⟩

set_option maxHeartbeats 1600000 in
theorem heldVers (v : Value) (l : List Ver) (k0 : Int) (lo hi : Nat) (w : World) (h : VersMarked w lo hi v k0 l) (hk0 : 0 ≤ k0) (hk1 : k0 ≤ 1152921504606846976) (hl : l.length ≤ 1152921504606846) :
    Calls Tryd.prog 14 #[v, .int .i64 k0] w fun e w' => e = .returned (.int .i64 (k0 + (l.length * 3 : Nat))) ∧ w = w' := by
  have hS := Sl.of_own h.1
  obtain ⟨A, c, rfl, hnc, hc63⟩ := hS.shape
  go_enter Tryd.func14, Tryd.ntmps14
  go_wp2_with fail
  go_loop [1, 5] (fun q i => ∃ j : Nat, j ≤ l.length ∧ i = .int .i64 j ∧ q = .int .i64 (k0 + (j : Int) * 3)) (fun _ i => l.length - (intOf i).toNat)
  case atStart => exact ⟨0, Nat.zero_le _, rfl, by simp⟩
  case round =>
    obtain ⟨j, hj, rfl, rfl⟩ := hrel
    by_cases hlt : j < l.length
    · obtain ⟨b, o, rfl, hc0, hc1, hc2⟩ := Sl.at3 hS j hlt
      rw [gi_marks k0 _ _ (by omega), show k0 + ((j * 3 : Nat) : Int) = k0 + (j : Int) * 3 from by omega] at hc0
      rw [gi_marks k0 _ _ (by omega), show k0 + ((j * 3 + 1 : Nat) : Int) = k0 + (j : Int) * 3 + 1 from by omega] at hc1
      rw [gi_marks k0 _ _ (by omega), show k0 + ((j * 3 + 2 : Nat) : Int) = k0 + (j : Int) * 3 + 1 + 1 from by omega] at hc2
      go_wp2_with fail
      go_round
      case rel => exact ⟨j + 1, by omega, by go_num, by go_num⟩
      case measure => simp [intOf]; omega
    · have hx : j = l.length := by omega
      subst hx
      go_wp2_with fail
      go_ret
      exact ⟨ret_int (by omega), rfl⟩
end Go.Proofs.YtleiijhnjaagmaaDoor
