/- Records: Edit; and the contracts of the laws' helpers for slices of them. -/
import Derived.Test.YthimeaobgbcnbaaDoorRec
import Derived.Test.YthimeaobgbcnbaaDoorHelp
import Derived.Deep.RegionWith
import Derived.Test.YthimeaobgbcnbaaDoorRecSpot
import Derived.Test.YthimeaobgbcnbaaDoorSpot
set_option linter.unusedSimpArgs false
set_option linter.unusedVariables false
namespace Go.Proofs.YthimeaobgbcnbaaDoor
open Go.RowKit

structure Edt where
  e : Int
  p : Int
  bx : Int
  bY : Int
  ax : Int
  aY : Int
deriving DecidableEq
theorem Edt.ext_ {a b : Edt} (h0 : a.e = b.e) (h1 : a.p = b.p) (h2 : a.bx = b.bx) (h3 : a.bY = b.bY) (h4 : a.ax = b.ax) (h5 : a.aY = b.aY): a = b := by cases a; cases b; simp_all
def edtRec : Rec Edt := ⟨6, 41, fun a => [.int .i64 a.e, .int .i64 a.p, .int .i64 a.bx, .int .i64 a.bY, .int .i64 a.ax, .int .i64 a.aY], fun _ => rfl, by omega, fun _ u hu => by simp at hu; rcases hu with rfl | rfl | rfl | rfl | rfl | rfl <;> rfl, ⟨0, 0, 0, 0, 0, 0⟩⟩
theorem info_edt : (Tryd.prog.info? 41).map (fun i => (i.zero, i.size, i.bytes)) = some (some (.agg #[.int .i64 0, .int .i64 0, .int .i64 0, .int .i64 0, .int .i64 0, .int .i64 0]), 6, 48) := by kernel_rfl
theorem edt_at {w : World} {A : Option Addr} {n c : Nat} {l : List Edt} (h : RowAt edtRec w (.slice A n c) l) (i : Nat) (hi : i < l.length) :
    ∃ b o, A = some ⟨b, o, none⟩ ∧ w.cell? ⟨b, o + i * 6, none⟩ = some (.int .i64 (gx edtRec l i).e) ∧ w.cell? ⟨b, o + i * 6 + 1, none⟩ = some (.int .i64 (gx edtRec l i).p) ∧ w.cell? ⟨b, o + i * 6 + 2, none⟩ = some (.int .i64 (gx edtRec l i).bx) ∧ w.cell? ⟨b, o + i * 6 + 3, none⟩ = some (.int .i64 (gx edtRec l i).bY) ∧ w.cell? ⟨b, o + i * 6 + 4, none⟩ = some (.int .i64 (gx edtRec l i).ax) ∧ w.cell? ⟨b, o + i * 6 + 5, none⟩ = some (.int .i64 (gx edtRec l i).aY) := by
  obtain ⟨b, o, rfl, hc⟩ := RowAt.cells h i hi
  exact ⟨b, o, rfl, hc 0 _ rfl, hc 1 _ rfl, hc 2 _ rfl, hc 3 _ rfl, hc 4 _ rfl, hc 5 _ rfl⟩
theorem edt_own {w : World} {lo g n c : Nat} {l : List Edt} (h : OwnRow edtRec w lo (.slice (some ⟨g, 0, none⟩) n c) l) (i : Nat) (hi : i < l.length) :
    w.cell? ⟨g, i * 6, none⟩ = some (.int .i64 (gx edtRec l i).e) ∧ w.cell? ⟨g, i * 6 + 1, none⟩ = some (.int .i64 (gx edtRec l i).p) ∧ w.cell? ⟨g, i * 6 + 2, none⟩ = some (.int .i64 (gx edtRec l i).bx) ∧ w.cell? ⟨g, i * 6 + 3, none⟩ = some (.int .i64 (gx edtRec l i).bY) ∧ w.cell? ⟨g, i * 6 + 4, none⟩ = some (.int .i64 (gx edtRec l i).ax) ∧ w.cell? ⟨g, i * 6 + 5, none⟩ = some (.int .i64 (gx edtRec l i).aY) := by
  exact ⟨OwnRow.cell h i hi 0 (by show 0 < 6; omega), OwnRow.cell h i hi 1 (by show 1 < 6; omega), OwnRow.cell h i hi 2 (by show 2 < 6; omega), OwnRow.cell h i hi 3 (by show 3 < 6; omega), OwnRow.cell h i hi 4 (by show 4 < 6; omega), OwnRow.cell h i hi 5 (by show 5 < 6; omega)⟩
theorem wp_app_edts (w : World) {ops : Array Oper} {rest : List Oper} {o : Oper} {a : Act} {Q : Exit → Act → World → Prop} (hgd : o.guard = none) (s x : Operand)
    (ho : o.op = .call { callee := .builtin .append, args := #[s, x], argTypes := #[24, 24] })
    (base : Nat) (v : Value) (l : List Edt) (hs : a.eval s = v) (hown : OwnRow edtRec w base v l)
    (sv : Value) (m : List Edt) (hx : a.eval x = sv) (hsl : RowAt edtRec w sv m)
    (h63 : l.length + m.length ≤ 1099511627776) (hbase : base ≤ w.heap.size)
    (h : ∀ v' w', OwnRow edtRec w' base v' (l ++ m) → Grew w w' base v v' → wpList Tryd.prog ops Q rest (a.put o.dst v') w') :
    wpList Tryd.prog ops Q (o :: rest) a w :=
  wp_app_row edtRec w hgd s x 24 _ _ Tryd.underlying24 info_edt rfl (by omega) ho base v l hs hown sv m hx hsl h63 hbase h
theorem wp_app_edt (w : World) {ops : Array Oper} {rest : List Oper} {o : Oper} {a : Act} {Q : Exit → Act → World → Prop} (hgd : o.guard = none) (s x : Operand)
    (ho : o.op = .call { callee := .builtin .append, args := #[s, x], argTypes := #[24, 24] })
    (base : Nat) (v : Value) (l : List Edt) (hs : a.eval s = v) (hown : OwnRow edtRec w base v l)
    (y : Edt) (H : Nat) (hx : a.eval x = .slice (some ⟨H, 0, none⟩) 1 1) (hH : H = w.heap.size)
    (h63 : l.length + 1 ≤ 1099511627776) (hbase : base ≤ w.heap.size)
    (h : ∀ v' w', OwnRow edtRec w' base v' (l ++ [y]) → Grew w w' base v v' → wpList Tryd.prog ops Q rest (a.put o.dst v') w') :
    wpList Tryd.prog ops Q (o :: rest) a (w.alloc (.cells #[.int .i64 y.e, .int .i64 y.p, .int .i64 y.bx, .int .i64 y.bY, .int .i64 y.ax, .int .i64 y.aY] 41)) :=
  wp_app_rec edtRec w hgd s x 24 _ _ Tryd.underlying24 info_edt rfl (by omega) ho base v l hs hown y _ rfl _ H rfl hx hH h63 hbase h

set_option maxHeartbeats 1600000 in
theorem eqEdit_r (x y : Edt) (w : World) :
    Calls Tryd.prog 76 #[.agg #[.int .i64 x.e, .int .i64 x.p, .int .i64 x.bx, .int .i64 x.bY, .int .i64 x.ax, .int .i64 x.aY], .agg #[.int .i64 y.e, .int .i64 y.p, .int .i64 y.bx, .int .i64 y.bY, .int .i64 y.ax, .int .i64 y.aY]] w fun e w' => e = .returned (.bool (decide (x = y))) ∧ Below w.heap.size w w' := by
  have ex : x = y ↔ x.e = y.e ∧ x.p = y.p ∧ sptEq ⟨x.bx, x.bY⟩ ⟨y.bx, y.bY⟩ = true ∧ sptEq ⟨x.ax, x.aY⟩ ⟨y.ax, y.aY⟩ = true := by
    cases x; cases y; simp [sptEq, and_assoc]
  have Ex := Lib.hid ex
  clear ex
  have hb : ∀ (o o' : Obj), Below w.heap.size w ((w.alloc o).alloc o') := fun o o' => ((Below.refl w.heap.size w).alloc (Nat.le_refl _) _).alloc (by simp) _
  have Hb := Lib.hid hb
  clear hb
  by_cases e0 : x.e = y.e
  · by_cases e1 : x.p = y.p
    · cases e2 : sptEq ⟨x.bx, x.bY⟩ ⟨y.bx, y.bY⟩
      · have hx : Hid (decide (x = y) = false) := decide_eq_false (fun h => by have := (Ex.out.1 h).2.2.1; rw [e2] at this; cases this)
        have q0 : (x.e != y.e) = false := by simpa using e0
        have q1 : (x.p != y.p) = false := by simpa using e1
        clear e0 e1
        go_enter Tryd.func76, Tryd.ntmps76
        go_wp2_with fail
        refine (eqSpot_q ⟨x.bx, x.bY⟩ ⟨y.bx, y.bY⟩ _).mono ?_; rintro e w1 ⟨rfl, b1⟩
        have hbb := (Hb.out _ _).trans (b1.mono (by simp <;> omega))
        go_wp2_with fail
        go_ret
        exact ⟨ret_bool hx.out.symm, hbb⟩
      · cases e3 : sptEq ⟨x.ax, x.aY⟩ ⟨y.ax, y.aY⟩
        all_goals
          have hx : Hid (decide (x = y) = sptEq ⟨x.ax, x.aY⟩ ⟨y.ax, y.aY⟩) := by
            show _ = _
            rw [Bool.eq_iff_iff, decide_eq_true_iff, Ex.out]
            exact ⟨fun h => h.2.2.2, fun h => ⟨e0, e1, e2, h⟩⟩
          rw [e3] at hx
          have q0 : (x.e != y.e) = false := by simpa using e0
          have q1 : (x.p != y.p) = false := by simpa using e1
          clear e0 e1
          go_enter Tryd.func76, Tryd.ntmps76
          go_wp2_with fail
          refine (eqSpot_q ⟨x.bx, x.bY⟩ ⟨y.bx, y.bY⟩ _).mono ?_; rintro e w1 ⟨rfl, b1⟩
          have hcc := cell_of b1
          have hzz := b1.size
          simp at hzz
          go_wp2_with fail
          refine (eqSpot_q ⟨x.ax, x.aY⟩ ⟨y.ax, y.aY⟩ _).mono ?_; rintro e w2 ⟨rfl, b2⟩
          have hbb := (Hb.out _ _).trans ((b1.next (Nat.le_refl _) b2).mono (by simp <;> omega))
          go_wp2_with fail
          go_ret
          exact ⟨ret_bool hx.out.symm, hbb⟩
    · have hx : Hid (decide (x = y) = false) := decide_eq_false (by rintro rfl; exact e1 rfl)
      have q0 : (x.e != y.e) = false := by simpa using e0
      have q1 : (x.p != y.p) = true := by simpa using e1
      clear e0 e1
      go_enter Tryd.func76, Tryd.ntmps76
      go_wp2_with fail
      go_ret
      exact ⟨ret_bool hx.out.symm, Hb.out _ _⟩
  · have hx : Hid (decide (x = y) = false) := decide_eq_false (by rintro rfl; exact e0 rfl)
    have q0 : (x.e != y.e) = true := by simpa using e0
    clear e0
    go_enter Tryd.func76, Tryd.ntmps76
    go_wp2_with fail
    go_ret
    exact ⟨ret_bool hx.out.symm, Hb.out _ _⟩
set_option maxHeartbeats 800000 in
theorem eqEditS_any (v1 v2 : Value) (l1 l2 : List Edt) (w : World) (h1 : RowAt edtRec w v1 l1) (h2 : RowAt edtRec w v2 l2) :
    Calls Tryd.prog 33 #[v1, v2] w fun e w' => e = .returned (.bool (decide (l1 = l2))) ∧ Below w.heap.size w w' := by
  obtain ⟨A, c, rfl, hnc, hc63⟩ := h1.shape
  obtain ⟨B, d, rfl, hnd, hd63⟩ := h2.shape
  by_cases hne : l1.length = l2.length
  · rw [← hne] at h2 hnd ⊢
    have Hne := Lib.hid hne
    clear hne
    go_enter Tryd.func33, Tryd.ntmps33
    go_wp2_with fail
    go_loopw [5] (fun i wr => ∃ k : Nat, k ≤ l1.length ∧ i = .int .i64 k ∧ Hid (l1.take k = l2.take k) ∧ Below w.heap.size w wr) (fun i _ => l1.length - (intOf i).toNat)
    case atStart => exact ⟨0, Nat.zero_le _, rfl, rfl, Below.refl _ _⟩
    case round =>
      obtain ⟨k, hk, rfl, hall, hb⟩ := hrel
      by_cases hlt : k < l1.length
      · obtain ⟨b, o, rfl, hc0, hc1, hc2, hc3, hc4, hc5⟩ := edt_at (h1.below hb (Nat.le_refl _)) k hlt
        obtain ⟨b', o', rfl, hd0, hd1, hd2, hd3, hd4, hd5⟩ := edt_at (h2.below hb (Nat.le_refl _)) k (by have := Hne.out; omega)
        go_wp2_with fail
        go_region_with (go_at_call 76; refine (eqEdit_r (gx edtRec l1 k) (gx edtRec l2 k) _).mono ?_; rintro e w1 ⟨rfl, b1⟩)
        all_goals go_wp2_with fail
        · have hx : (!decide (gx edtRec l1 k = gx edtRec l2 k)) = true := by assumption
          have hne : Hid (l1 ≠ l2) := by
            show l1 ≠ l2
            rintro rfl; simp at hx
          go_ret
          exact ⟨ret_bool (decide_eq_false hne.out).symm, hb.drew.next (Nat.le_refl _) b1⟩
        · have hx : (!decide (gx edtRec l1 k = gx edtRec l2 k)) = false := by assumption
          have htk : Hid (l1.take (k + 1) = l2.take (k + 1)) := by
            show _ = _
            have h1 : gx edtRec l1 k = gx edtRec l2 k := by simpa using hx
            have hlt2 : k < l2.length := by have := Hne.out; omega
            rw [take_succ_gx edtRec l1 k hlt, take_succ_gx edtRec l2 k hlt2, hall.out, h1]
          go_roundw
          case rel => exact ⟨k + 1, by omega, by go_num, htk, hb.drew.next (Nat.le_refl _) b1⟩
          case measure => simp [intOf]; omega
        · have hx : (!decide (gx edtRec l1 k = gx edtRec l2 k)) = true := by assumption
          have hne : Hid (l1 ≠ l2) := by
            show l1 ≠ l2
            rintro rfl; simp at hx
          go_ret
          exact ⟨ret_bool (decide_eq_false hne.out).symm, hb.drew.next (Nat.le_refl _) b1⟩
        · have hx : (!decide (gx edtRec l1 k = gx edtRec l2 k)) = false := by assumption
          have htk : Hid (l1.take (k + 1) = l2.take (k + 1)) := by
            show _ = _
            have h1 : gx edtRec l1 k = gx edtRec l2 k := by simpa using hx
            have hlt2 : k < l2.length := by have := Hne.out; omega
            rw [take_succ_gx edtRec l1 k hlt, take_succ_gx edtRec l2 k hlt2, hall.out, h1]
          go_roundw
          case rel => exact ⟨k + 1, by omega, by go_num, htk, hb.drew.next (Nat.le_refl _) b1⟩
          case measure => simp [intOf]; omega
      · have hx : Hid (l1 = l2) := by
          have h1 : l1.take k = l1 := List.take_of_length_le (by omega)
          have h2 : l2.take k = l2 := List.take_of_length_le (by have := Hne.out; omega)
          have := hall.out
          rwa [h1, h2] at this
        go_wp2_with fail
        go_ret
        exact ⟨ret_bool (decide_eq_true hx.out).symm, hb⟩
  · have hn : ((l1.length : Int) != l2.length) = true := by simp; omega
    have hx : Hid (l1 ≠ l2) := by
      show l1 ≠ l2
      rintro rfl; exact hne rfl
    go_enter Tryd.func33, Tryd.ntmps33
    go_wp2_with fail
    go_ret
    exact ⟨ret_bool (decide_eq_false hx.out).symm, Below.refl _ _⟩
def edtMk (k : Int) : Edt := ⟨k, k + 1, k + 1 + 1, k + 1 + 1 + 1, k + 1 + 1 + 1 + 1, k + 1 + 1 + 1 + 1 + 1⟩
set_option maxHeartbeats 1600000 in
theorem markEditR (v : Value) (l : List Edt) (k0 : Int) (lo hi : Nat) (w : World) (h : OwnRowIn edtRec w lo hi v l) (hk0 : 0 ≤ k0) (hk1 : k0 ≤ 1152921504606846976) (hl : l.length ≤ 115292150460684) :
    Calls Tryd.prog 34 #[v, .int .i64 k0] w (MarkRowPost edtRec edtMk w lo hi v k0 l) := by
  obtain ⟨hO, hu⟩ := h
  obtain ⟨A, c, rfl, hnc, hc63⟩ := hO.reads.shape
  have hst : OwnRow edtRec w lo (.slice A l.length c) (mkd edtRec edtMk k0 l 0) := by rw [mkd_zero]; exact hO
  go_enter Tryd.func34, Tryd.ntmps34
  go_wp2_with fail
  go_loopw [1, 5] (fun q i wr => ∃ j : Nat, j ≤ l.length ∧ i = .int .i64 j ∧ q = .int .i64 (k0 + (j : Int) * 6) ∧ OwnRow edtRec wr lo (.slice A l.length c) (mkd edtRec edtMk k0 l j) ∧ w.grownBy wr (Value.slice A l.length c).ownBlock) (fun _ i _ => l.length - (intOf i).toNat)
  case atStart => exact ⟨0, Nat.zero_le _, rfl, by simp, hst, World.grownBy.refl _ _⟩
  case round =>
    obtain ⟨j, hj, rfl, rfl, ho, hg⟩ := hrel
    have hlen := mkd_len edtRec edtMk k0 l j hj
    by_cases hlt : j < l.length
    · obtain ⟨g, cap, hv, _⟩ := ho.lit (by omega)
      injection hv with e1 e2 e3
      subst e1 e3
      obtain ⟨g0, g1, g2, g3, g4, g5⟩ := edt_own ho j (by omega)
      have fz0 : wr.frozen? ⟨g, j * 6, none⟩ = false := ho.free _
      have fz1 : wr.frozen? ⟨g, j * 6 + 1, none⟩ = false := ho.free _
      have fz2 : wr.frozen? ⟨g, j * 6 + 2, none⟩ = false := ho.free _
      have fz3 : wr.frozen? ⟨g, j * 6 + 3, none⟩ = false := ho.free _
      have fz4 : wr.frozen? ⟨g, j * 6 + 4, none⟩ = false := ho.free _
      have fz5 : wr.frozen? ⟨g, j * 6 + 5, none⟩ = false := ho.free _
      have h3 := ho.set j (edtMk (k0 + ((j * 6 : Nat) : Int))) (by omega)
      have e4 := mkd_set edtRec edtMk k0 l j hlt
      have e5 : (edtRec).sz = 6 := rfl
      rw [e5] at e4
      rw [e4, show ((j * 6 : Nat) : Int) = (j : Int) * 6 from by omega] at h3
      have H3 := Lib.hid h3
      clear h3 hst e4 e5 hlen
      go_wp2_with fail
      go_roundw
      case rel => exact ⟨j + 1, by omega, by go_num, by go_num, H3.out.1, hg.trans H3.out.2⟩
      case measure => simp [intOf]; omega
    · have hx : j = l.length := by omega
      subst hx
      rw [mkd_all] at ho
      have Hf : Hid (MarkedRow edtRec edtMk wr lo hi (.slice A l.length c) k0 l) := ⟨ho, hu⟩
      have Ha : Hid (Apart lo hi w wr) := OwnRowIn.apart ⟨hO, hu⟩ hg
      clear hlen ho
      go_wp2_with fail
      go_ret
      exact ⟨ret_int (by show _ = k0 + ((l.length * 6 : Nat) : Int); omega), Hf.out, hg, Ha.out⟩
set_option maxHeartbeats 1600000 in
theorem heldEditR (v : Value) (l : List Edt) (k0 : Int) (lo hi : Nat) (w : World) (h : MarkedRow edtRec edtMk w lo hi v k0 l) (hk0 : 0 ≤ k0) (hk1 : k0 ≤ 1152921504606846976) (hl : l.length ≤ 115292150460684) :
    Calls Tryd.prog 35 #[v, .int .i64 k0] w fun e w' => e = .returned (.int .i64 (k0 + ((l.length * 6 : Nat) : Int))) ∧ w = w' := by
  have hS := OwnRow.reads h.1
  obtain ⟨A, c, rfl, hnc, hc63⟩ := hS.shape
  rw [mks_len] at hnc ⊢
  go_enter Tryd.func35, Tryd.ntmps35
  go_wp2_with fail
  go_loop [1, 5] (fun q i => ∃ j : Nat, j ≤ l.length ∧ i = .int .i64 j ∧ q = .int .i64 (k0 + (j : Int) * 6)) (fun _ i => l.length - (intOf i).toNat)
  case atStart => exact ⟨0, Nat.zero_le _, rfl, by simp⟩
  case round =>
    obtain ⟨j, hj, rfl, rfl⟩ := hrel
    by_cases hlt : j < l.length
    · obtain ⟨b, o, rfl, hc0, hc1, hc2, hc3, hc4, hc5⟩ := edt_at hS j (by rw [mks_len]; exact hlt)
      have e5 : (edtRec).sz = 6 := rfl
      rw [gx_mks _ _ _ _ _ hlt, e5, show ((j * 6 : Nat) : Int) = (j : Int) * 6 from by omega] at hc0 hc1 hc2 hc3 hc4 hc5
      clear e5
      have hk0 : w.cell? ⟨b, o + j * 6, none⟩ = some (.int .i64 (k0 + (j : Int) * 6)) := hc0
      clear hc0
      have hk1 : w.cell? ⟨b, o + j * 6 + 1, none⟩ = some (.int .i64 (k0 + (j : Int) * 6 + 1)) := hc1
      clear hc1
      have hk2 : w.cell? ⟨b, o + j * 6 + 2, none⟩ = some (.int .i64 (k0 + (j : Int) * 6 + 1 + 1)) := hc2
      clear hc2
      have hk3 : w.cell? ⟨b, o + j * 6 + 3, none⟩ = some (.int .i64 (k0 + (j : Int) * 6 + 1 + 1 + 1)) := hc3
      clear hc3
      have hk4 : w.cell? ⟨b, o + j * 6 + 4, none⟩ = some (.int .i64 (k0 + (j : Int) * 6 + 1 + 1 + 1 + 1)) := hc4
      clear hc4
      have hk5 : w.cell? ⟨b, o + j * 6 + 5, none⟩ = some (.int .i64 (k0 + (j : Int) * 6 + 1 + 1 + 1 + 1 + 1)) := hc5
      clear hc5
      go_wp2_with fail
      go_round
      case rel => exact ⟨j + 1, by omega, by go_num, by go_num⟩
      case measure => simp [intOf]; omega
    · have hx : j = l.length := by omega
      subst hx
      go_wp2_with fail
      go_ret
      exact ⟨ret_int (by omega), rfl⟩
end Go.Proofs.YthimeaobgbcnbaaDoor
