/- Contracts: charts (lists of spots): validity, the performer on a spot. -/
import Derived.Test.YtnkbopnmfoplfaaRecSpot
import Derived.Test.YtnkbopnmfoplfaaSpot
import Derived.Deep.QuietTactic
import Derived.BigQuiet
import Derived.Deep.RegionHeld3
import Derived.Deep.DeepCutAuto
set_option linter.unusedSimpArgs false
set_option linter.unusedVariables false
namespace Go.Proofs.Ytnkbopnmfoplfaa
open Go.RowKit

theorem Below.keepCell {B : Nat} {w w' : World} (hb : Below B w w') {b o : Nat} {u : Value} (h : w.cell? ⟨b, o, none⟩ = some u) (hB : w.heap.size ≤ B) : w'.cell? ⟨b, o, none⟩ = some u := by
  have : b < w.heap.size := World.block_lt_of_cell? w _ h
  exact (hb.cell (p := ⟨b, o, none⟩) (show b < B by omega)).trans h
/-- The first performer on a spot, or -1. -/
def findFrom (a : Spt) : List Spt → Nat → Int
  | [], _ => -1
  | x :: l, k => if x = a then (k : Int) else findFrom a l (k + 1)
def findS (l : List Spt) (a : Spt) : Int := findFrom a l 0
theorem findFrom_bd (a : Spt) (l : List Spt) (k : Nat) : findFrom a l k = -1 ∨ ((k : Int) ≤ findFrom a l k ∧ findFrom a l k < (k + l.length : Nat)) := by
  induction l generalizing k with
  | nil => exact .inl rfl
  | cons x l ih =>
    unfold findFrom
    split
    · right; simp; omega
    · rcases ih (k + 1) with h | h
      · exact .inl h
      · right; simp at h ⊢; omega
theorem findS_bd (l : List Spt) (a : Spt) : findS l a = -1 ∨ (0 ≤ findS l a ∧ findS l a < (l.length : Int)) := by
  have := findFrom_bd a l 0
  unfold findS
  omega
theorem findFrom_no (a : Spt) (l : List Spt) (k : Nat) : findFrom a l k = -1 ↔ a ∉ l := by
  induction l generalizing k with
  | nil => simp [findFrom]
  | cons x l ih =>
    unfold findFrom
    split
    · rename_i h; subst h
      simp
    · rename_i h
      rw [ih]
      simp [List.mem_cons]
      intro _ h2; exact h h2.symm
theorem findS_no (l : List Spt) (a : Spt) : findS l a = -1 ↔ a ∉ l := findFrom_no a l 0
theorem findFrom_hit {a : Spt} {l : List Spt} {k : Nat} (h : k < l.length) (e : gx sptRec l k = a) : findFrom a (l.drop k) k = (k : Int) := by
  rw [drop_gx sptRec l k h]; unfold findFrom; rw [if_pos e]
theorem findFrom_miss {a : Spt} {l : List Spt} {k : Nat} (h : k < l.length) (e : gx sptRec l k ≠ a) : findFrom a (l.drop k) k = findFrom a (l.drop (k + 1)) (k + 1) := by
  rw [drop_gx sptRec l k h]
  conv => lhs; unfold findFrom
  rw [if_neg e]
/-- A performer's spot is good, and no one before has it. -/
def chOk (l : List Spt) (i : Nat) : Bool := isSpot (gx sptRec l i).x (gx sptRec l i).y && decide (findS (l.take i) (gx sptRec l i) < 0)
def isChart (l : List Spt) : Bool := inR l.length 1 12 && (List.range l.length).all (chOk l)
def chTo (l : List Spt) (k : Nat) : Prop := ∀ i, i < k → chOk l i = true
theorem chTo_succ {l : List Spt} {k : Nat} (h : chTo l k) (hk : chOk l k = true) : chTo l (k + 1) := by
  intro i hi
  by_cases e : i = k
  · subst e; exact hk
  · exact h i (by omega)
theorem isChart_no {l : List Spt} {k : Nat} (hk : k < l.length) (h : chOk l k = false) : isChart l = false := by
  unfold isChart
  have : (List.range l.length).all (chOk l) = false := by
    rw [List.all_eq_false]
    exact ⟨k, by simpa using hk, by rw [h]; decide⟩
  rw [this]; simp
theorem isChart_len {l : List Spt} (h : inR l.length 1 12 = false) : isChart l = false := by unfold isChart; rw [h]; rfl
theorem isChart_to {l : List Spt} (h : chTo l l.length) : isChart l = inR l.length 1 12 := by
  unfold isChart
  have : (List.range l.length).all (chOk l) = true := by
    rw [List.all_eq_true]
    intro i hi
    exact h i (by simpa using hi)
  rw [this]; simp
theorem isChart_t {l : List Spt} (h : isChart l = true) : 1 ≤ l.length ∧ l.length ≤ 12 ∧ chTo l l.length := by
  unfold isChart at h
  rw [Bool.and_eq_true, List.all_eq_true] at h
  have := inR_t.1 h.1
  exact ⟨by omega, by omega, fun i hi => h.2 i (by simpa using hi)⟩
theorem chart_spot {l : List Spt} (h : isChart l = true) (i : Nat) (hi : i < l.length) : isSpot (gx sptRec l i).x (gx sptRec l i).y = true := by
  have := (isChart_t h).2.2 i hi
  unfold chOk at this
  rw [Bool.and_eq_true] at this
  exact this.1

set_option maxHeartbeats 1600000 in
theorem chFind_any (v : Value) (l : List Spt) (a : Spt) (w : World) (h : RowAt sptRec w v l) :
    Calls Try.prog 69 #[v, .agg #[.int .i64 a.x, .int .i64 a.y]] w fun e w' => e = .returned (.int .i64 (findS l a)) ∧ Below w.heap.size w w' := by
  obtain ⟨A, c, rfl, hnc, hc63⟩ := h.shape
  have hb1 : Below w.heap.size w (w.alloc (.cells #[.int .i64 a.x, .int .i64 a.y] 42)) := (Below.refl _ _).alloc (Nat.le_refl _) _
  have hy0 : (w.alloc (.cells #[.int .i64 a.x, .int .i64 a.y] 42)).cell? ⟨w.heap.size, 0, none⟩ = some (.int .i64 a.x) := by go_simp
  have hy1 : (w.alloc (.cells #[.int .i64 a.x, .int .i64 a.y] 42)).cell? ⟨w.heap.size, 1, none⟩ = some (.int .i64 a.y) := by go_simp
  go_enter Try.func69, Try.ntmps69
  go_wp2_with fail
  go_loopw [9] (fun i wr => ∃ k : Nat, k ≤ l.length ∧ i = .int .i64 k ∧ Hid (findS l a = findFrom a (l.drop k) k) ∧ wr.cell? ⟨w.heap.size, 0, none⟩ = some (.int .i64 a.x) ∧ wr.cell? ⟨w.heap.size, 1, none⟩ = some (.int .i64 a.y) ∧ w.heap.size < wr.heap.size ∧ Below w.heap.size w wr) (fun i _ => l.length - (intOf i).toNat)
  case atStart => exact ⟨0, Nat.zero_le _, rfl, rfl, hy0, hy1, by simp, hb1⟩
  case round =>
    obtain ⟨k, hk, rfl, hf, hz0, hz1, hsz, hb⟩ := hrel
    clear hy0 hy1
    by_cases hlt : k < l.length
    · obtain ⟨b, o, rfl, hc0, hc1⟩ := spt_at (h.below hb (Nat.le_refl _)) k hlt
      have hy : ∀ o, Below w.heap.size w (wr.alloc o) := fun o => hb.alloc hb.size o
      have Hy := Lib.hid hy
      clear hy
      cases e0 : ((gx sptRec l k).x == a.x) <;> cases e1 : ((gx sptRec l k).y == a.y)
      case true.true =>
        have hn : Hid (findS l a = (k : Int)) := by
          show _ = _
          rw [hf.out, findFrom_hit hlt (Spt.ext_ (by simpa using e0) (by simpa using e1))]
        go_wp2_with fail
        go_ret
        exact ⟨ret_int hn.out.symm, Hy.out _⟩
      all_goals
        have hn : Hid (findS l a = findFrom a (l.drop (k + 1)) (k + 1)) := by
          show _ = _
          rw [hf.out, findFrom_miss hlt (by rintro rfl; simp at e0 e1)]
        go_wp2_with fail
        go_roundw
        case rel => exact ⟨k + 1, by omega, by go_num, hn, by go_simp, by go_simp, by simp; omega, Hy.out _⟩
        case measure => simp [intOf]; omega
    · obtain rfl : k = l.length := by omega
      have hn : Hid (findS l a = -1) := by
        show _ = _
        rw [hf.out, List.drop_length]; rfl
      go_wp2_with fail
      go_ret
      exact ⟨ret_int hn.out.symm, hb⟩

theorem gx_take {α : Type} (R : Rec α) (l : List α) (k m : Nat) (hm : m < k) (hk : k ≤ l.length) : gx R (l.take k) m = gx R l m := by
  unfold gx
  rw [List.getD_eq_getElem?_getD, List.getElem?_take, if_pos hm]; rfl
theorem take_len {α : Type} {l : List α} {k : Nat} (h : k ≤ l.length) : (l.take k).length = k := by rw [List.length_take]; omega
theorem chOk_bad {l : List Spt} {k : Nat} (h : isSpot (gx sptRec l k).x (gx sptRec l k).y = false) : chOk l k = false := by unfold chOk; rw [h]; rfl
theorem chOk_dup {l : List Spt} {k : Nat} (h : 0 ≤ findS (l.take k) (gx sptRec l k)) : chOk l k = false := by
  unfold chOk
  have : decide (findS (l.take k) (gx sptRec l k) < 0) = false := decide_eq_false (by omega)
  rw [this]; simp
theorem chOk_good {l : List Spt} {k : Nat} (h1 : isSpot (gx sptRec l k).x (gx sptRec l k).y = true) (h2 : findS (l.take k) (gx sptRec l k) = -1) : chOk l k = true := by
  unfold chOk; rw [h1, h2]; rfl
set_option maxHeartbeats 3200000 in
theorem chGood_any (v : Value) (l : List Spt) (w : World) (h : RowAt sptRec w v l) :
    Calls Try.prog 25 #[v] w fun e w' => e = .returned (.bool (isChart l)) ∧ Below w.heap.size w w' := by
  obtain ⟨A, c, rfl, hnc, hc63⟩ := h.shape
  go_enter Try.func25, Try.ntmps25
  go_wp2_with fail
  go_loopw [9] (fun i wr => ∃ k : Nat, k ≤ l.length ∧ i = .int .i64 k ∧ Hid (chTo l k) ∧ Below w.heap.size w wr) (fun i _ => l.length - (intOf i).toNat)
  case atStart => exact ⟨0, Nat.zero_le _, rfl, (fun i hi => absurd hi (by omega)), Below.refl _ _⟩
  case round =>
    obtain ⟨k, hk, rfl, hall, hb⟩ := hrel
    by_cases hlt : k < l.length
    · obtain ⟨b, o, rfl, hc0, hc1⟩ := spt_at (h.below hb (Nat.le_refl _)) k hlt
      have hbA : Below wr.heap.size wr (wr.alloc (.cells #[.int .i64 (gx sptRec l k).x, .int .i64 (gx sptRec l k).y] 42)) := (Below.refl _ _).alloc (Nat.le_refl _) _
      have hy0 : (wr.alloc (.cells #[.int .i64 (gx sptRec l k).x, .int .i64 (gx sptRec l k).y] 42)).cell? ⟨wr.heap.size, 0, none⟩ = some (.int .i64 (gx sptRec l k).x) := by go_simp
      have hy1 : (wr.alloc (.cells #[.int .i64 (gx sptRec l k).x, .int .i64 (gx sptRec l k).y] 42)).cell? ⟨wr.heap.size, 1, none⟩ = some (.int .i64 (gx sptRec l k).y) := by go_simp
      cases hs : isSpot (gx sptRec l k).x (gx sptRec l k).y
      · have hr := Lib.hid (isChart_no hlt (chOk_bad hs))
        clear hy0 hy1
        go_wp2_with fail
        refine (stGood_any _ _ _).mono ?_; rintro e w1 ⟨rfl, b1⟩
        go_wp2_with fail
        go_ret
        exact ⟨ret_bool hr.out.symm, (hb.trans (hbA.mono hb.size)).next (Nat.le_refl _) b1⟩
      · go_wp2_with fail
        refine (stGood_any _ _ _).mono ?_; rintro e w1 ⟨rfl, b1⟩
        have hz0 := Below.keepCell b1 hy0 (Nat.le_refl _)
        have hz1 := Below.keepCell b1 hy1 (Nat.le_refl _)
        have hb1 := (hb.trans (hbA.mono hb.size)).next (Nat.le_refl _) b1
        have hsz1 : wr.heap.size < w1.heap.size := by have := b1.size; simp at this; omega
        obtain ⟨wo, rfl⟩ : ∃ wo : World, wo = wr := ⟨_, rfl⟩
        have hcut := h.take k hk
        have hS := Lib.hid hs
        clear hy0 hy1 hc0 hc1
        go_wp2_with fail
        clear hs
        go_loopw [21] (fun i wr => ∃ m : Nat, m ≤ k ∧ i = .int .i64 m ∧ Hid (findS (l.take k) (gx sptRec l k) = findFrom (gx sptRec l k) ((l.take k).drop m) m) ∧ wr.cell? ⟨wo.heap.size, 0, none⟩ = some (.int .i64 (gx sptRec l k).x) ∧ wr.cell? ⟨wo.heap.size, 1, none⟩ = some (.int .i64 (gx sptRec l k).y) ∧ wo.heap.size < wr.heap.size ∧ Below w.heap.size w wr) (fun i _ => k - (intOf i).toNat)
        case atStart => exact ⟨0, Nat.zero_le _, rfl, rfl, hz0, hz1, hsz1, hb1⟩
        case round =>
          obtain ⟨m, hm, rfl, hf, hy0, hy1, hsz, hbm⟩ := hrel
          clear hz0 hz1 hsz1
          have hy : ∀ o, Below w.heap.size w (wr.alloc o) := fun o => hbm.alloc hbm.size o
          have Hy := Lib.hid hy
          clear hy
          by_cases hltm : m < k
          · obtain ⟨b', o', he, hd0, hd1⟩ := spt_at (hcut.below hbm (Nat.le_refl _)) m (by rw [take_len hk]; exact hltm)
            injection he with he
            injection he with e1 e2
            subst e1 e2
            rw [gx_take sptRec l k m hltm hk] at hd0 hd1
            cases e0 : ((gx sptRec l k).x == (gx sptRec l m).x) <;> cases e1 : ((gx sptRec l k).y == (gx sptRec l m).y)
            case true.true =>
              have hr : Hid (isChart l = false) := by
                refine isChart_no hlt (chOk_dup ?_)
                have hq : gx sptRec (l.take k) m = gx sptRec l k := by rw [gx_take sptRec l k m hltm hk]; exact (Spt.ext_ (by simpa using e0) (by simpa using e1)).symm
                rw [hf.out, findFrom_hit (by rw [take_len hk]; exact hltm) hq]
                omega
              go_wp2_with fail
              go_ret
              exact ⟨ret_bool hr.out.symm, Hy.out _⟩
            all_goals
              have hn : Hid (findS (l.take k) (gx sptRec l k) = findFrom (gx sptRec l k) ((l.take k).drop (m + 1)) (m + 1)) := by
                show _ = _
                rw [hf.out, findFrom_miss (by rw [take_len hk]; exact hltm) (by rw [gx_take sptRec l k m hltm hk]; intro h9; rw [h9] at e0 e1; simp at e0 e1)]
              go_wp2_with fail
              go_roundw
              case rel => exact ⟨m + 1, by omega, by go_num, hn, by go_simp, by go_simp, by simp; omega, Hy.out _⟩
              case measure => simp [intOf]; omega
          · obtain rfl : m = k := by omega
            have hn : Hid (chTo l (m + 1)) := by
              refine chTo_succ hall.out (chOk_good hS.out ?_)
              rw [hf.out, List.drop_of_length_le (by rw [take_len hk]; exact Nat.le_refl _)]; rfl
            go_wp2_with fail
            go_roundw
            case rel => exact ⟨m + 1, by omega, by go_num, hn, hbm⟩
            case measure => simp [intOf]; omega
    · obtain rfl : k = l.length := by omega
      have hr := Lib.hid (isChart_to hall.out)
      cases hn : inR l.length 1 12
      all_goals
        rw [hn] at hr
        go_wp2_with (go_at_call 46; refine (l1In_any _ _ _ _).mono ?_; rintro e w' ⟨rfl, rfl⟩)
        go_ret
        exact ⟨ret_bool hr.out.symm, hb⟩

/-! ### in the program -/
set_option maxHeartbeats 3200000 in
theorem indexS_any (v : Value) (l : List Spt) (a : Spt) (w : World) (h : RowAt sptRec w v l) :
    Calls Try.prog 55 #[v, .agg #[.int .i64 a.x, .int .i64 a.y]] w fun e w' => e = .returned (.int .i64 (findS l a)) ∧ Below w.heap.size w w' := by
  obtain ⟨A, c, rfl, hnc, hc63⟩ := h.shape
  have hb1 : Below w.heap.size w (w.alloc (.cells #[.int .i64 a.x, .int .i64 a.y] 42)) := (Below.refl _ _).alloc (Nat.le_refl _) _
  have hy0 : (w.alloc (.cells #[.int .i64 a.x, .int .i64 a.y] 42)).cell? ⟨w.heap.size, 0, none⟩ = some (.int .i64 a.x) := by go_simp
  have hy1 : (w.alloc (.cells #[.int .i64 a.x, .int .i64 a.y] 42)).cell? ⟨w.heap.size, 1, none⟩ = some (.int .i64 a.y) := by go_simp
  go_enter Try.func55, Try.ntmps55
  go_wp2_with fail
  go_loopw [8] (fun i wr => ∃ k : Nat, k ≤ l.length ∧ i = .int .i64 k ∧ Hid (findS l a = findFrom a (l.drop k) k) ∧ wr.cell? ⟨w.heap.size, 0, none⟩ = some (.int .i64 a.x) ∧ wr.cell? ⟨w.heap.size, 1, none⟩ = some (.int .i64 a.y) ∧ Below w.heap.size w wr) (fun i _ => l.length - (intOf i).toNat)
  case atStart => exact ⟨0, Nat.zero_le _, rfl, rfl, hy0, hy1, hb1⟩
  case round =>
    obtain ⟨k, hk, rfl, hf, hz0, hz1, hb⟩ := hrel
    clear hy0 hy1
    by_cases hlt : k < l.length
    · obtain ⟨b, o, rfl, hc0, hc1⟩ := spt_at (h.below hb (Nat.le_refl _)) k hlt
      have hlt0 : (k : Int) < (l.length : Int) := by omega
      have hge0 : (0 : Int) ≤ (k : Int) := by omega
      cases e0 : (a.x == (gx sptRec l k).x) <;> cases e1 : (a.y == (gx sptRec l k).y)
      case true.true =>
        have hn : Hid (findS l a = (k : Int)) := by
          show _ = _
          rw [hf.out, findFrom_hit hlt (Spt.ext_ (by simpa using e0) (by simpa using e1)).symm]
        go_wp2_with fail
        go_quiet (fail)
        go_wp2_with fail
        go_ret
        exact ⟨ret_int hn.out.symm, hb.drewN _⟩
      all_goals
        have hn : Hid (findS l a = findFrom a (l.drop (k + 1)) (k + 1)) := by
          show _ = _
          rw [hf.out, findFrom_miss hlt (by intro h9; rw [← h9] at e0 e1; simp at e0 e1)]
        go_wp2_with fail
        go_quiet (fail)
        go_wp2_with fail
        go_roundw
        case rel => exact ⟨k + 1, by omega, by go_num, hn, hz0, hz1, hb.drewN _⟩
        case measure => simp [intOf]; omega
    · obtain rfl : k = l.length := by omega
      have hn : Hid (findS l a = -1) := by
        show _ = _
        rw [hf.out, List.drop_length]; rfl
      go_wp2_with fail
      go_ret
      exact ⟨ret_int hn.out.symm, hb⟩
theorem containsS_any (v : Value) (l : List Spt) (a : Spt) (w : World) (h : RowAt sptRec w v l) :
    Calls Try.prog 41 #[v, .agg #[.int .i64 a.x, .int .i64 a.y]] w fun e w' => e = .returned (.bool (decide (0 ≤ findS l a))) ∧ Below w.heap.size w w' := by
  obtain ⟨A, c, rfl, hnc, hc63⟩ := h.shape
  have hb1 : Below w.heap.size w (w.alloc (.cells #[.int .i64 a.x, .int .i64 a.y] 42)) := (Below.refl _ _).alloc (Nat.le_refl _) _
  go_enter Try.func41, Try.ntmps41
  go_wp2_with fail
  refine (indexS_any _ l a _ (h.below hb1 (Nat.le_refl _))).mono ?_; rintro e w1 ⟨rfl, b1⟩
  go_wp2_with fail
  go_ret
  exact ⟨rfl, hb1.trans (b1.mono (by simp))⟩
end Go.Proofs.Ytnkbopnmfoplfaa
