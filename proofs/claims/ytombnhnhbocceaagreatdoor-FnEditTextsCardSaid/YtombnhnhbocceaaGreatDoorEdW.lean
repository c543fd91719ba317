/- The text of edits, in the reference. -/
import Derived.Test.YtombnhnhbocceaaGreatDoorEdP
import Derived.Test.YtombnhnhbocceaaGreatDoorSpX
set_option linter.unusedSimpArgs false
set_option linter.unusedVariables false
namespace Go.Proofs.YtombnhnhbocceaaGreatDoor
open Go.RowKit Go.Sort

theorem eText_succ {l : List Edt} {n E P BX BY AX AY : Nat} (hn : n < l.length) (h1 : (gx edtRec l n).e = E) (h2 : (gx edtRec l n).p = P) (h3 : (gx edtRec l n).bx = BX) (h4 : (gx edtRec l n).bY = BY) (h5 : (gx edtRec l n).ax = AX) (h6 : (gx edtRec l n).aY = AY) :
    eText (l.take n) ++ (decB E ++ ⟨#[32]⟩ ++ decB P ++ ⟨#[32]⟩ ++ spB BX BY ++ ⟨#[32]⟩ ++ spB AX AY ++ ⟨#[10]⟩) = eText (l.take (n + 1)) := by
  refine ba_eq ?_
  unfold eText
  rw [take_succ_gx edtRec l n hn, List.map_append, List.map_singleton, joinC_snoc]
  unfold eLineL spB
  rw [h1, h2, h3, h4, h5, h6]
  simp [ByteArray.data_append, mkS, decB]
theorem eText_size {l : List Edt} (h : areEdts l = true) (n : Nat) (hn : n ≤ l.length) : (eText (l.take n)).size ≤ 100 * n := by
  induction n with
  | zero => exact Nat.le_refl _
  | succ n ih =>
    obtain ⟨hm, h30⟩ := edt_mem h
    obtain ⟨q1, q2, q3, q4, q5, q6⟩ := isEdt_t (hm _ (gx_mem (R := edtRec) (show n < l.length by omega)))
    obtain ⟨a0, a1, a2, a3⟩ := isSpot_t q5
    obtain ⟨c0, c1, c2, c3⟩ := isSpot_t q6
    have := ih (by omega)
    rw [← eText_succ (E := (gx edtRec l n).e.toNat) (P := (gx edtRec l n).p.toNat) (BX := (gx edtRec l n).bx.toNat) (BY := (gx edtRec l n).bY.toNat) (AX := (gx edtRec l n).ax.toNat) (AY := (gx edtRec l n).aY.toNat) (by omega) (by omega) (by omega) (by omega) (by omega) (by omega) (by omega)]
    have d1 := decB_size (gx edtRec l n).e.toNat (by omega)
    have d2 := decB_size (gx edtRec l n).p.toNat (by omega)
    have d3 := spB_size (gx edtRec l n).bx.toNat (gx edtRec l n).bY.toNat (by omega) (by omega)
    have d4 := spB_size (gx edtRec l n).ax.toNat (gx edtRec l n).aY.toNat (by omega) (by omega)
    have s1 : (⟨#[32]⟩ : ByteArray).size = 1 := rfl
    have s2 : (⟨#[10]⟩ : ByteArray).size = 1 := rfl
    simp only [ByteArray.size_append, s1, s2]
    omega
theorem edt_box (w : World) (a b c d e f : Int) : (w.alloc (.cells #[.int .i64 a, .int .i64 b, .int .i64 c, .int .i64 d, .int .i64 e, .int .i64 f] 39)).cell? ⟨w.heap.size, 0, none⟩ = some (.int .i64 a) ∧ (w.alloc (.cells #[.int .i64 a, .int .i64 b, .int .i64 c, .int .i64 d, .int .i64 e, .int .i64 f] 39)).cell? ⟨w.heap.size, 1, none⟩ = some (.int .i64 b) ∧
    (w.alloc (.cells #[.int .i64 a, .int .i64 b, .int .i64 c, .int .i64 d, .int .i64 e, .int .i64 f] 39)).cell? ⟨w.heap.size, 2, none⟩ = some (.int .i64 c) ∧ (w.alloc (.cells #[.int .i64 a, .int .i64 b, .int .i64 c, .int .i64 d, .int .i64 e, .int .i64 f] 39)).cell? ⟨w.heap.size, 3, none⟩ = some (.int .i64 d) ∧
    (w.alloc (.cells #[.int .i64 a, .int .i64 b, .int .i64 c, .int .i64 d, .int .i64 e, .int .i64 f] 39)).cell? ⟨w.heap.size, 4, none⟩ = some (.int .i64 e) ∧ (w.alloc (.cells #[.int .i64 a, .int .i64 b, .int .i64 c, .int .i64 d, .int .i64 e, .int .i64 f] 39)).cell? ⟨w.heap.size, 5, none⟩ = some (.int .i64 f) := ⟨by simp, by simp, by simp, by simp, by simp, by simp⟩
set_option maxRecDepth 100000 in
set_option maxHeartbeats 6400000 in
theorem edText_any (v : Value) (l : List Edt) (w : World) (h : RowAt edtRec w v l) (hv : areEdts l = true) :
    Calls Tryz.prog 34 #[v] w fun e w' => e = .returned (.string (eText l)) ∧ Below w.heap.size w w' := by
  obtain ⟨A, c, rfl, hnc, hc63⟩ := h.shape
  obtain ⟨hm, h30⟩ := edt_mem hv
  have Hv := Lib.hid hv
  have Hm := Lib.hid hm
  clear hv hm
  go_enter Tryz.func34, Tryz.ntmps34
  go_wp2_with fail
  go_loopw [3, 8] (fun s i wr => ∃ n : Nat, n ≤ l.length ∧ s = .string (eText (l.take n)) ∧ i = .int .i64 n ∧ Below w.heap.size w wr) (fun _ i _ => l.length - (intOf i).toNat)
  case atStart => exact ⟨0, Nat.zero_le _, rfl, rfl, Below.refl _ _⟩
  case round =>
    obtain ⟨n, hn, rfl, rfl, hb⟩ := hrel
    have hsz := eText_size Hv.out n hn
    by_cases hlt : n < l.length
    · obtain ⟨b, o, rfl, hc1, hc2, hc3, hc4, hc5, hc6⟩ := edt_at (h.below hb (Nat.le_refl _)) n hlt
      have hE := isEdt_t (Hm.out _ (gx_mem (R := edtRec) hlt))
      obtain ⟨q1, q2, q3, q4, q5, q6⟩ := hE
      obtain ⟨a0, a1, a2, a3⟩ := isSpot_t q5
      obtain ⟨d0, d1, d2, d3⟩ := isSpot_t q6
      obtain ⟨E, e1⟩ := Int.eq_ofNat_of_zero_le (show 0 ≤ (gx edtRec l n).e by omega)
      obtain ⟨P, e2⟩ := Int.eq_ofNat_of_zero_le q3
      obtain ⟨BX, e3⟩ := Int.eq_ofNat_of_zero_le a0
      obtain ⟨BY, e4⟩ := Int.eq_ofNat_of_zero_le a2
      obtain ⟨AX, e5⟩ := Int.eq_ofNat_of_zero_le d0
      obtain ⟨AY, e6⟩ := Int.eq_ofNat_of_zero_le d2
      have HE := Lib.hid (eText_succ hlt e1 e2 e3 e4 e5 e6)
      rw [e1] at hc1 q2
      rw [e2] at hc2 q4
      rw [e3] at hc3 a1
      rw [e4] at hc4 a3
      rw [e5] at hc5 d1
      rw [e6] at hc6 d3
      have hE9 : E ≤ 9 := by omega
      have hP9 : P ≤ 11 := by omega
      have hBX : BX ≤ 1280 := by omega
      have hBY : BY ≤ 672 := by omega
      have hAX : AX ≤ 1280 := by omega
      have hAY : AY ≤ 672 := by omega
      clear e1 e2 e3 e4 e5 e6 q1 q2 q3 q4 q5 q6 a0 a1 a2 a3 d0 d1 d2 d3
      have hi0 : (0 : Int) ≤ (n : Int) := by omega
      have hi1 : (n : Int) < (l.length : Int) := by omega
      obtain ⟨y0, y1, y2, y3, y4, y5⟩ := edt_box wr E P BX BY AX AY
      have hbX : Below w.heap.size w (wr.alloc (.cells #[.int .i64 E, .int .i64 P, .int .i64 BX, .int .i64 BY, .int .i64 AX, .int .i64 AY] 39)) := hb.alloc hb.size _
      obtain ⟨X, hX⟩ : ∃ X : World, X = (wr.alloc (.cells #[.int .i64 E, .int .i64 P, .int .i64 BX, .int .i64 BY, .int .i64 AX, .int .i64 AY] 39)) := ⟨_, rfl⟩
      rw [← hX] at y0 y1 y2 y3 y4 y5 hbX
      have k0 := cell_regrown y0
      have k1 := cell_regrown y1
      have k2 := cell_regrown y2
      have k3 := cell_regrown y3
      have k4 := cell_regrown y4
      have k5 := cell_regrown y5
      have HX := Lib.hid hX
      clear hX
      obtain ⟨z1, _⟩ := decB_size E (by omega)
      obtain ⟨z2, _⟩ := decB_size P (by omega)
      obtain ⟨z3, _⟩ := spB_size BX BY (by omega) (by omega)
      obtain ⟨z4, _⟩ := spB_size AX AY (by omega) (by omega)
      have s1 : (⟨#[32]⟩ : ByteArray).size = 1 := rfl
      have s2 : (⟨#[10]⟩ : ByteArray).size = 1 := rfl
      have cE : ∀ d os, Calls Tryz.prog 62 #[.int .i64 (E : Nat)] (grow (redrawn X d) os) (fun e w'' => e = .returned (.string (decB E)) ∧ ∃ p : Regrown, w'' = grow (redrawn X p.d) p.os) := fun d os => rg_below (l1Num_any E _ (by omega))
      have cP : ∀ d os, Calls Tryz.prog 62 #[.int .i64 (P : Nat)] (grow (redrawn X d) os) (fun e w'' => e = .returned (.string (decB P)) ∧ ∃ p : Regrown, w'' = grow (redrawn X p.d) p.os) := fun d os => rg_below (l1Num_any P _ (by omega))
      have cB : ∀ d os, Calls Tryz.prog 63 #[.agg #[.int .i64 (BX : Nat), .int .i64 (BY : Nat)]] (grow (redrawn X d) os) (fun e w'' => e = .returned (.string (spB BX BY)) ∧ ∃ p : Regrown, w'' = grow (redrawn X p.d) p.os) := fun d os => rg_below (stText_any BX BY _ (by omega) (by omega))
      have cA : ∀ d os, Calls Tryz.prog 63 #[.agg #[.int .i64 (AX : Nat), .int .i64 (AY : Nat)]] (grow (redrawn X d) os) (fun e w'' => e = .returned (.string (spB AX AY)) ∧ ∃ p : Regrown, w'' = grow (redrawn X p.d) p.os) := fun d os => rg_below (stText_any AX AY _ (by omega) (by omega))
      go_upto_region 5 with fail
      rw [← HX.out]
      (refine wp_region_quiet_below (by kernel_rfl) (by kernel_rfl) ?_; (repeat (go_big_quiet_step (first | with_reducible exact cE _ _ | with_reducible exact cP _ _ | with_reducible exact cB _ _ | with_reducible exact cA _ _))); refine wpQuiet_nil ?_; intro _ hw'; obtain ⟨⟨dq, osq⟩, hw''⟩ := hw'; subst hw'')
      go_wp2_with fail
      go_roundw
      case rel => exact ⟨n + 1, by omega, by rw [← HE.out], by go_num, RG.below hbX hbX.size dq osq⟩
      case measure => simp [intOf]; omega
    · obtain rfl : n = l.length := by omega
      go_wp2_with fail
      go_ret
      exact ⟨by rw [List.take_length]; rfl, hb⟩
end Go.Proofs.YtombnhnhbocceaaGreatDoor
