/- Records: Spot; and the contracts of the laws' helpers for slices of them. -/
import Derived.Test.YtiondgflpimdmaaRec
import Derived.Test.YtiondgflpimdmaaHelp
import Derived.Deep.RegionWith
set_option linter.unusedSimpArgs false
set_option linter.unusedVariables false
namespace Go.Proofs.Ytiondgflpimdmaa
open Go.RowKit

structure Spt where
  x : Int
  y : Int
deriving DecidableEq
theorem Spt.ext_ {a b : Spt} (h0 : a.x = b.x) (h1 : a.y = b.y): a = b := by cases a; cases b; simp_all
def sptRec : Rec Spt := ⟨2, 31, fun a => [.int .i64 a.x, .int .i64 a.y], fun _ => rfl, by omega, fun _ u hu => by simp at hu; rcases hu with rfl | rfl <;> rfl, ⟨0, 0⟩⟩
theorem info_spt : (Try.prog.info? 31).map (fun i => (i.zero, i.size, i.bytes)) = some (some (.agg #[.int .i64 0, .int .i64 0]), 2, 16) := by kernel_rfl
theorem spt_at {w : World} {A : Option Addr} {n c : Nat} {l : List Spt} (h : RowAt sptRec w (.slice A n c) l) (i : Nat) (hi : i < l.length) :
    ∃ b o, A = some ⟨b, o, none⟩ ∧ w.cell? ⟨b, o + i * 2, none⟩ = some (.int .i64 (gx sptRec l i).x) ∧ w.cell? ⟨b, o + i * 2 + 1, none⟩ = some (.int .i64 (gx sptRec l i).y) := by
  obtain ⟨b, o, rfl, hc⟩ := RowAt.cells h i hi
  exact ⟨b, o, rfl, hc 0 _ rfl, hc 1 _ rfl⟩
theorem spt_own {w : World} {lo g n c : Nat} {l : List Spt} (h : OwnRow sptRec w lo (.slice (some ⟨g, 0, none⟩) n c) l) (i : Nat) (hi : i < l.length) :
    w.cell? ⟨g, i * 2, none⟩ = some (.int .i64 (gx sptRec l i).x) ∧ w.cell? ⟨g, i * 2 + 1, none⟩ = some (.int .i64 (gx sptRec l i).y) := by
  exact ⟨OwnRow.cell h i hi 0 (by show 0 < 2; omega), OwnRow.cell h i hi 1 (by show 1 < 2; omega)⟩
theorem wp_app_spts (w : World) {ops : Array Oper} {rest : List Oper} {o : Oper} {a : Act} {Q : Exit → Act → World → Prop} (hgd : o.guard = none) (s x : Operand)
    (ho : o.op = .call { callee := .builtin .append, args := #[s, x], argTypes := #[28, 28] })
    (base : Nat) (v : Value) (l : List Spt) (hs : a.eval s = v) (hown : OwnRow sptRec w base v l)
    (sv : Value) (m : List Spt) (hx : a.eval x = sv) (hsl : RowAt sptRec w sv m)
    (h63 : l.length + m.length ≤ 1099511627776) (hbase : base ≤ w.heap.size)
    (h : ∀ v' w', OwnRow sptRec w' base v' (l ++ m) → Grew w w' base v v' → wpList Try.prog ops Q rest (a.put o.dst v') w') :
    wpList Try.prog ops Q (o :: rest) a w :=
  wp_app_row sptRec w hgd s x 28 _ _ Try.underlying28 info_spt rfl (by omega) ho base v l hs hown sv m hx hsl h63 hbase h
theorem wp_app_spt (w : World) {ops : Array Oper} {rest : List Oper} {o : Oper} {a : Act} {Q : Exit → Act → World → Prop} (hgd : o.guard = none) (s x : Operand)
    (ho : o.op = .call { callee := .builtin .append, args := #[s, x], argTypes := #[28, 28] })
    (base : Nat) (v : Value) (l : List Spt) (hs : a.eval s = v) (hown : OwnRow sptRec w base v l)
    (y : Spt) (H : Nat) (hx : a.eval x = .slice (some ⟨H, 0, none⟩) 1 1) (hH : H = w.heap.size)
    (h63 : l.length + 1 ≤ 1099511627776) (hbase : base ≤ w.heap.size)
    (h : ∀ v' w', OwnRow sptRec w' base v' (l ++ [y]) → Grew w w' base v v' → wpList Try.prog ops Q rest (a.put o.dst v') w') :
    wpList Try.prog ops Q (o :: rest) a (w.alloc (.cells #[.int .i64 y.x, .int .i64 y.y] 31)) :=
  wp_app_rec sptRec w hgd s x 28 _ _ Try.underlying28 info_spt rfl (by omega) ho base v l hs hown y _ rfl _ H rfl hx hH h63 hbase h

set_option maxHeartbeats 400000 in
theorem toSpot_r (x : Spt) (w : World) :
    Calls Try.prog 17 #[.agg #[.int .i64 x.x, .int .i64 x.y]] w fun e w' => e = .returned (.agg #[.int .i64 x.x, .int .i64 x.y]) ∧ Below w.heap.size w w' := by
  go_enter Try.func17, Try.ntmps17
  go_wp2
  exact bodyPost_ret (v := .agg #[.int .i64 x.x, .int .i64 x.y]) (by simp [results, Try.results17, go_sem]) rfl ⟨rfl, (((Below.refl w.heap.size w).alloc (Nat.le_refl _) _).alloc (by simp) _).alloc (by simp; omega) _⟩
set_option maxHeartbeats 1600000 in
theorem eqSpot_r (x y : Spt) (w : World) :
    Calls Try.prog 21 #[.agg #[.int .i64 x.x, .int .i64 x.y], .agg #[.int .i64 y.x, .int .i64 y.y]] w fun e w' => e = .returned (.bool (decide (x = y))) ∧ Below w.heap.size w w' := by
  have hb : ∀ (o o' : Obj), Below w.heap.size w ((w.alloc o).alloc o') := fun o o' => ((Below.refl w.heap.size w).alloc (Nat.le_refl _) _).alloc (by simp) _
  have Hb := Lib.hid hb
  clear hb
  by_cases e0 : x.x = y.x
  · by_cases e1 : x.y = y.y
    · have hx : Hid (decide (x = y) = true) := decide_eq_true (Spt.ext_ e0 e1)
      have q0 : (x.x != y.x) = false := by simpa using e0
      have q1 : (x.y != y.y) = false := by simpa using e1
      clear e0 e1
      go_enter Try.func21, Try.ntmps21
      go_wp2
      go_ret
      exact ⟨ret_bool hx.out.symm, Hb.out _ _⟩
    · have hx : Hid (decide (x = y) = false) := decide_eq_false (by rintro rfl; exact e1 rfl)
      have q0 : (x.x != y.x) = false := by simpa using e0
      have q1 : (x.y != y.y) = true := by simpa using e1
      clear e0 e1
      go_enter Try.func21, Try.ntmps21
      go_wp2
      go_ret
      exact ⟨ret_bool hx.out.symm, Hb.out _ _⟩
  · have hx : Hid (decide (x = y) = false) := decide_eq_false (by rintro rfl; exact e0 rfl)
    have q0 : (x.x != y.x) = true := by simpa using e0
    clear e0
    go_enter Try.func21, Try.ntmps21
    go_wp2
    go_ret
    exact ⟨ret_bool hx.out.symm, Hb.out _ _⟩
def sptEq (a b : Spt) : Bool := decide (a = b)
theorem eqSpot_q (x y : Spt) (w : World) : Calls Try.prog 21 #[.agg #[.int .i64 x.x, .int .i64 x.y], .agg #[.int .i64 y.x, .int .i64 y.y]] w fun e w' => e = .returned (.bool (sptEq x y)) ∧ Below w.heap.size w w' := eqSpot_r x y w
set_option maxHeartbeats 800000 in
theorem eqSpotS_any (v1 v2 : Value) (l1 l2 : List Spt) (w : World) (h1 : RowAt sptRec w v1 l1) (h2 : RowAt sptRec w v2 l2) :
    Calls Try.prog 9 #[v1, v2] w fun e w' => e = .returned (.bool (decide (l1 = l2))) ∧ Below w.heap.size w w' := by
  obtain ⟨A, c, rfl, hnc, hc63⟩ := h1.shape
  obtain ⟨B, d, rfl, hnd, hd63⟩ := h2.shape
  by_cases hne : l1.length = l2.length
  · rw [← hne] at h2 hnd ⊢
    have Hne := Lib.hid hne
    clear hne
    go_enter Try.func9, Try.ntmps9
    go_wp2_with fail
    go_loopw [5] (fun i wr => ∃ k : Nat, k ≤ l1.length ∧ i = .int .i64 k ∧ Hid (l1.take k = l2.take k) ∧ Below w.heap.size w wr) (fun i _ => l1.length - (intOf i).toNat)
    case atStart => exact ⟨0, Nat.zero_le _, rfl, rfl, Below.refl _ _⟩
    case round =>
      obtain ⟨k, hk, rfl, hall, hb⟩ := hrel
      by_cases hlt : k < l1.length
      · obtain ⟨b, o, rfl, hc0, hc1⟩ := spt_at (h1.below hb (Nat.le_refl _)) k hlt
        obtain ⟨b', o', rfl, hd0, hd1⟩ := spt_at (h2.below hb (Nat.le_refl _)) k (by have := Hne.out; omega)
        go_wp2_with fail
        go_region_with (go_at_call 21; refine (eqSpot_r (gx sptRec l1 k) (gx sptRec l2 k) _).mono ?_; rintro e w1 ⟨rfl, b1⟩)
        all_goals go_wp2_with fail
        · have hx : (!decide (gx sptRec l1 k = gx sptRec l2 k)) = true := by assumption
          have hne : Hid (l1 ≠ l2) := by
            show l1 ≠ l2
            rintro rfl; simp at hx
          go_ret
          exact ⟨ret_bool (decide_eq_false hne.out).symm, hb.drew.next (Nat.le_refl _) b1⟩
        · have hx : (!decide (gx sptRec l1 k = gx sptRec l2 k)) = false := by assumption
          have htk : Hid (l1.take (k + 1) = l2.take (k + 1)) := by
            show _ = _
            have h1 : gx sptRec l1 k = gx sptRec l2 k := by simpa using hx
            have hlt2 : k < l2.length := by have := Hne.out; omega
            rw [take_succ_gx sptRec l1 k hlt, take_succ_gx sptRec l2 k hlt2, hall.out, h1]
          go_roundw
          case rel => exact ⟨k + 1, by omega, by go_num, htk, hb.drew.next (Nat.le_refl _) b1⟩
          case measure => simp [intOf]; omega
        · have hx : (!decide (gx sptRec l1 k = gx sptRec l2 k)) = true := by assumption
          have hne : Hid (l1 ≠ l2) := by
            show l1 ≠ l2
            rintro rfl; simp at hx
          go_ret
          exact ⟨ret_bool (decide_eq_false hne.out).symm, hb.drew.next (Nat.le_refl _) b1⟩
        · have hx : (!decide (gx sptRec l1 k = gx sptRec l2 k)) = false := by assumption
          have htk : Hid (l1.take (k + 1) = l2.take (k + 1)) := by
            show _ = _
            have h1 : gx sptRec l1 k = gx sptRec l2 k := by simpa using hx
            have hlt2 : k < l2.length := by have := Hne.out; omega
            rw [take_succ_gx sptRec l1 k hlt, take_succ_gx sptRec l2 k hlt2, hall.out, h1]
          go_roundw
          case rel => exact ⟨k + 1, by omega, by go_num, htk, hb.drew.next (Nat.le_refl _) b1⟩
          case measure => simp [intOf]; omega
      · have hx : Hid (l1 = l2) := by
          have h1 : l1.take k = l1 := List.take_of_length_le (by omega)
          have h2 : l2.take k = l2 := List.take_of_length_le (by have := Hne.out; omega)
          have := hall.out
          rwa [h1, h2] at this
        go_wp2_with fail
        go_ret
        exact ⟨ret_bool (decide_eq_true hx.out).symm, hb⟩
  · have hn : ((l1.length : Int) != l2.length) = true := by simp; omega
    have hx : Hid (l1 ≠ l2) := by
      show l1 ≠ l2
      rintro rfl; exact hne rfl
    go_enter Try.func9, Try.ntmps9
    go_wp2_with fail
    go_ret
    exact ⟨ret_bool (decide_eq_false hx.out).symm, Below.refl _ _⟩
def sptMk (k : Int) : Spt := ⟨k, k + 1⟩
set_option maxHeartbeats 1600000 in
theorem markSpotR (v : Value) (l : List Spt) (k0 : Int) (lo hi : Nat) (w : World) (h : OwnRowIn sptRec w lo hi v l) (hk0 : 0 ≤ k0) (hk1 : k0 ≤ 1152921504606846976) (hl : l.length ≤ 115292150460684) :
    Calls Try.prog 12 #[v, .int .i64 k0] w (MarkRowPost sptRec sptMk w lo hi v k0 l) := by
  obtain ⟨hO, hu⟩ := h
  obtain ⟨A, c, rfl, hnc, hc63⟩ := hO.reads.shape
  have hst : OwnRow sptRec w lo (.slice A l.length c) (mkd sptRec sptMk k0 l 0) := by rw [mkd_zero]; exact hO
  go_enter Try.func12, Try.ntmps12
  go_wp2_with fail
  go_loopw [1, 5] (fun q i wr => ∃ j : Nat, j ≤ l.length ∧ i = .int .i64 j ∧ q = .int .i64 (k0 + (j : Int) * 2) ∧ OwnRow sptRec wr lo (.slice A l.length c) (mkd sptRec sptMk k0 l j) ∧ w.grownBy wr (Value.slice A l.length c).ownBlock) (fun _ i _ => l.length - (intOf i).toNat)
  case atStart => exact ⟨0, Nat.zero_le _, rfl, by simp, hst, World.grownBy.refl _ _⟩
  case round =>
    obtain ⟨j, hj, rfl, rfl, ho, hg⟩ := hrel
    have hlen := mkd_len sptRec sptMk k0 l j hj
    by_cases hlt : j < l.length
    · obtain ⟨g, cap, hv, _⟩ := ho.lit (by omega)
      injection hv with e1 e2 e3
      subst e1 e3
      obtain ⟨g0, g1⟩ := spt_own ho j (by omega)
      have fz0 : wr.frozen? ⟨g, j * 2, none⟩ = false := ho.free _
      have fz1 : wr.frozen? ⟨g, j * 2 + 1, none⟩ = false := ho.free _
      have h3 := ho.set j (sptMk (k0 + ((j * 2 : Nat) : Int))) (by omega)
      have e4 := mkd_set sptRec sptMk k0 l j hlt
      have e5 : (sptRec).sz = 2 := rfl
      rw [e5] at e4
      rw [e4, show ((j * 2 : Nat) : Int) = (j : Int) * 2 from by omega] at h3
      have H3 := Lib.hid h3
      clear h3 hst e4 e5 hlen
      go_wp2_with fail
      go_roundw
      case rel => exact ⟨j + 1, by omega, by go_num, by go_num, H3.out.1, hg.trans H3.out.2⟩
      case measure => simp [intOf]; omega
    · have hx : j = l.length := by omega
      subst hx
      rw [mkd_all] at ho
      have Hf : Hid (MarkedRow sptRec sptMk wr lo hi (.slice A l.length c) k0 l) := ⟨ho, hu⟩
      have Ha : Hid (Apart lo hi w wr) := OwnRowIn.apart ⟨hO, hu⟩ hg
      clear hlen ho
      go_wp2_with fail
      go_ret
      exact ⟨ret_int (by show _ = k0 + ((l.length * 2 : Nat) : Int); omega), Hf.out, hg, Ha.out⟩
set_option maxHeartbeats 1600000 in
theorem heldSpotR (v : Value) (l : List Spt) (k0 : Int) (lo hi : Nat) (w : World) (h : MarkedRow sptRec sptMk w lo hi v k0 l) (hk0 : 0 ≤ k0) (hk1 : k0 ≤ 1152921504606846976) (hl : l.length ≤ 115292150460684) :
    Calls Try.prog 13 #[v, .int .i64 k0] w fun e w' => e = .returned (.int .i64 (k0 + ((l.length * 2 : Nat) : Int))) ∧ w = w' := by
  have hS := OwnRow.reads h.1
  obtain ⟨A, c, rfl, hnc, hc63⟩ := hS.shape
  rw [mks_len] at hnc ⊢
  go_enter Try.func13, Try.ntmps13
  go_wp2_with fail
  go_loop [1, 5] (fun q i => ∃ j : Nat, j ≤ l.length ∧ i = .int .i64 j ∧ q = .int .i64 (k0 + (j : Int) * 2)) (fun _ i => l.length - (intOf i).toNat)
  case atStart => exact ⟨0, Nat.zero_le _, rfl, by simp⟩
  case round =>
    obtain ⟨j, hj, rfl, rfl⟩ := hrel
    by_cases hlt : j < l.length
    · obtain ⟨b, o, rfl, hc0, hc1⟩ := spt_at hS j (by rw [mks_len]; exact hlt)
      have e5 : (sptRec).sz = 2 := rfl
      rw [gx_mks _ _ _ _ _ hlt, e5, show ((j * 2 : Nat) : Int) = (j : Int) * 2 from by omega] at hc0 hc1
      clear e5
      have hk0 : w.cell? ⟨b, o + j * 2, none⟩ = some (.int .i64 (k0 + (j : Int) * 2)) := hc0
      clear hc0
      have hk1 : w.cell? ⟨b, o + j * 2 + 1, none⟩ = some (.int .i64 (k0 + (j : Int) * 2 + 1)) := hc1
      clear hc1
      go_wp2_with fail
      go_round
      case rel => exact ⟨j + 1, by omega, by go_num, by go_num⟩
      case measure => simp [intOf]; omega
    · have hx : j = l.length := by omega
      subst hx
      go_wp2_with fail
      go_ret
      exact ⟨ret_int (by omega), rfl⟩
end Go.Proofs.Ytiondgflpimdmaa
