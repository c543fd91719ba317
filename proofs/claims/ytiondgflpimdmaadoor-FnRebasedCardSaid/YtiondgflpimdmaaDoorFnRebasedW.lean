/- The walk of the law FnRebased: whatever the bytes, it returns true and writes nothing that was there. -/
import Derived.Test.YtiondgflpimdmaaDoorRbP
import Derived.Test.YtiondgflpimdmaaDoorDrawMR
import Derived.Test.YtiondgflpimdmaaDoorConfT
import Derived.Test.YtiondgflpimdmaaDoorEditEditors
import Derived.Test.YtiondgflpimdmaaDoorOpen
import Derived.Deep.DeepCutAuto
set_option linter.unusedSimpArgs false
set_option linter.unusedVariables false
namespace Go.Proofs.YtiondgflpimdmaaDoor
open Go.RowKit Go.Sort

set_option maxRecDepth 100000 in
set_option maxHeartbeats 12800000 in
theorem FnRebased_walk (v0 : Value) (code : List Nat) (v1 : Value) (more : List Nat) (w0 : World) (h0 : BytesAt w0 v0 code) (f0 : WfCode code) (h1 : BytesAt w0 v1 more) (f1 : WfCode more) :
    Calls Tryd.prog 3 #[v0, v1] w0 (LawPost w0) := by
  obtain ⟨A0, c0, rfl, hn0, hc0⟩ := h0.shape
  obtain ⟨A1, c1, rfl, hn1, hc1⟩ := h1.shape
  by_cases hbig : (1048576 : Int) < wrap64 ((code.length : Int) + (more.length : Int))
  · go_enter Tryd.func3, Tryd.ntmps3
    go_wp2_with fail
    go_ret
    exact ⟨rfl, Below.refl _ _⟩
  · have hbig2 : wrap64 ((code.length : Int) + (more.length : Int)) ≤ (1048576 : Int) := by omega
    clear hbig
    go_enter Tryd.func3, Tryd.ntmps3
    go_wp2_with fail
    clear hbig2
    have C := Lib.hid (drawRebaseEdits_any _ code w0 h0 f0)
    go_wp2_with fail
    refine C.out.mono ?_; rintro e w1 ⟨u1, va, vb, l, a, b, rfl, o1, oa, ob, b1, hl13, ha31, hb31⟩
    clear C
    obtain ⟨R, L, ok, e1⟩ : ∃ R L ok, rRebase l a b = (R, L, ok) := ⟨_, _, _, rfl⟩
    have hR1 : R.length ≤ 30 := by have := (rRebase_len l a b).1; rw [e1] at this; exact this
    have hL1 : L.length ≤ 30 := by have := (rRebase_len l a b).2; rw [e1] at this; exact this
    have E1 := Lib.hid (e1)
    have HR1 := Lib.hid (hR1)
    have HL1 := Lib.hid (hL1)
    clear e1 hR1 hL1
    have C := Lib.hid (implRebase _ _ _ l a b w1 o1.reads oa.reads ob.reads)
    rw [E1.out] at C
    go_wp2_with fail
    refine C.out.mono ?_; rintro e w2 ⟨u2, v2, rfl, o2, p2, _, b2⟩
    clear C
    have C := Lib.hid (specRebase _ _ _ l a b w2 (o1.reads.below b2 (Nat.le_refl _)) (oa.reads.below b2 (Nat.le_refl _)) (ob.reads.below b2 (Nat.le_refl _)))
    rw [E1.out] at C
    go_wp2_with fail
    refine C.out.mono ?_; rintro e w3 ⟨u3, v3, rfl, o3, p3, _, b3⟩
    clear C
    have C := Lib.hid (drawFittingEdits_any _ more w3 (h1.below ((b1.next (Nat.le_refl _) b2).next (Nat.le_refl _) b3) (Nat.le_refl _)) f1)
    go_wp2_with fail
    refine C.out.mono ?_; rintro e w4 ⟨u4, v4, c, E, rfl, o4, q4, b4, hc13, hE31⟩
    clear C
    obtain ⟨I, one, e2⟩ : ∃ I ok, rFitting c E = (I, ok) := ⟨_, _, rfl⟩
    have E2 := Lib.hid (e2)
    clear e2
    have C := Lib.hid (implFitting _ _ c E w4 o4.reads q4.reads)
    rw [E2.out] at C
    go_wp2_with fail
    refine C.out.mono ?_; rintro e w5 ⟨u5, rfl, o5, b5⟩
    clear C
    have C := Lib.hid (specFitting _ _ c E w5 (o4.reads.below b5 (Nat.le_refl _)) (q4.reads.below b5 (Nat.le_refl _)))
    rw [E2.out] at C
    go_wp2_with fail
    refine C.out.mono ?_; rintro e w6 ⟨u6, rfl, o6, b6⟩
    clear C
    have C := Lib.hid (drawWithoutEditor_any _ more w6 (h1.below (((((b1.next (Nat.le_refl _) b2).next (Nat.le_refl _) b3).next (Nat.le_refl _) b4).next (Nat.le_refl _) b5).next (Nat.le_refl _) b6) (Nat.le_refl _)) f1)
    go_wp2_with fail
    refine C.out.mono ?_; rintro e w7 ⟨u7, v7, d, D, ed, rfl, o7, q7, b7, hd13, hD31⟩
    clear C
    obtain ⟨T, sk, three, e3⟩ : ∃ T s ok, rWithout d D ed = (T, s, ok) := ⟨_, _, _, rfl⟩
    have E3 := Lib.hid (e3)
    clear e3
    have C := Lib.hid (implWithout _ _ d D ed w7 o7.reads q7.reads)
    rw [E3.out] at C
    go_wp2_with fail
    refine C.out.mono ?_; rintro e w8 ⟨u8, rfl, o8, b8⟩
    clear C
    have C := Lib.hid (specWithout _ _ d D ed w8 (o7.reads.below b8 (Nat.le_refl _)) (q7.reads.below b8 (Nat.le_refl _)))
    rw [E3.out] at C
    go_wp2_with fail
    refine C.out.mono ?_; rintro e w9 ⟨u9, rfl, o9, b9⟩
    clear C
    have C := Lib.hid (drawDoCommute_any _ more w9 (h1.below ((((((((b1.next (Nat.le_refl _) b2).next (Nat.le_refl _) b3).next (Nat.le_refl _) b4).next (Nat.le_refl _) b5).next (Nat.le_refl _) b6).next (Nat.le_refl _) b7).next (Nat.le_refl _) b8).next (Nat.le_refl _) b9) (Nat.le_refl _)) f1)
    go_wp2_with fail
    refine C.out.mono ?_; rintro e w10 ⟨u10, kk, x, y, he, o10, b10, hk13⟩
    clear C
    unfold Edt.agg at he
    subst he
    have zx : BoxE ((w10.alloc (.cells #[.int .i64 x.e, .int .i64 x.p, .int .i64 x.bx, .int .i64 x.bY, .int .i64 x.ax, .int .i64 x.aY] 41)).alloc (.cells #[.int .i64 y.e, .int .i64 y.p, .int .i64 y.bx, .int .i64 y.bY, .int .i64 y.ax, .int .i64 y.aY] 41)) w10.heap.size x.e x.p x.bx x.bY x.ax x.aY := (BoxE.new w10 x.e x.p x.bx x.bY x.ax x.aY).al _
    have zy : BoxE ((w10.alloc (.cells #[.int .i64 x.e, .int .i64 x.p, .int .i64 x.bx, .int .i64 x.bY, .int .i64 x.ax, .int .i64 x.aY] 41)).alloc (.cells #[.int .i64 y.e, .int .i64 y.p, .int .i64 y.bx, .int .i64 y.bY, .int .i64 y.ax, .int .i64 y.aY] 41)) (w10.heap.size + 1) y.e y.p y.bx y.bY y.ax y.aY := by
      have h9 := BoxE.new (w10.alloc (.cells #[.int .i64 x.e, .int .i64 x.p, .int .i64 x.bx, .int .i64 x.bY, .int .i64 x.ax, .int .i64 x.aY] 41)) y.e y.p y.bx y.bY y.ax y.aY
      rwa [show (w10.alloc (.cells #[.int .i64 x.e, .int .i64 x.p, .int .i64 x.bx, .int .i64 x.bY, .int .i64 x.ax, .int .i64 x.aY] 41)).heap.size = w10.heap.size + 1 by simp] at h9
    have b11 : Below w10.heap.size w10 ((w10.alloc (.cells #[.int .i64 x.e, .int .i64 x.p, .int .i64 x.bx, .int .i64 x.bY, .int .i64 x.ax, .int .i64 x.aY] 41)).alloc (.cells #[.int .i64 y.e, .int .i64 y.p, .int .i64 y.bx, .int .i64 y.bY, .int .i64 y.ax, .int .i64 y.aY] 41)) := ((Below.refl _ w10).alloc (Nat.le_refl _) (.cells #[.int .i64 x.e, .int .i64 x.p, .int .i64 x.bx, .int .i64 x.bY, .int .i64 x.ax, .int .i64 x.aY] 41)).alloc (by simp) (.cells #[.int .i64 y.e, .int .i64 y.p, .int .i64 y.bx, .int .i64 y.bY, .int .i64 y.ax, .int .i64 y.aY] 41)
    obtain ⟨w11, hw11⟩ : ∃ W, W = ((w10.alloc (.cells #[.int .i64 x.e, .int .i64 x.p, .int .i64 x.bx, .int .i64 x.bY, .int .i64 x.ax, .int .i64 x.aY] 41)).alloc (.cells #[.int .i64 y.e, .int .i64 y.p, .int .i64 y.bx, .int .i64 y.bY, .int .i64 y.ax, .int .i64 y.aY] 41)) := ⟨_, rfl⟩
    obtain ⟨B, hB⟩ : ∃ X, X = w10.heap.size := ⟨_, rfl⟩
    rw [← hw11] at zx zy b11
    rw [← hB] at zx zy
    have HW11 := Lib.hid (hw11)
    have HB := Lib.hid (hB)
    clear hw11 hB
    go_upto_region 13 with fail
    rw [← HW11.out, ← HB.out]
    obtain ⟨cm, five, e4⟩ : ∃ m ok, rComm kk x y = (m, ok) := ⟨_, _, rfl⟩
    have E4 := Lib.hid (e4)
    clear e4
    obtain ⟨c0, c1, c2, c3, c4, c5, _⟩ := zx.cells
    obtain ⟨d0, d1, d2, d3, d4, d5, _⟩ := zy.cells
    have C := Lib.hid (implComm _ kk x y w11 (o10.reads.below b11 (Nat.le_refl _)))
    rw [E4.out] at C
    go_wp2_with fail
    refine C.out.mono ?_; rintro e w12 ⟨rfl, b12⟩
    clear C
    clear c0 c1 c2 c3 c4 c5 d0 d1 d2 d3 d4 d5
    obtain ⟨c0, c1, c2, c3, c4, c5, _⟩ := (zx.keep b12 (Nat.le_refl _)).cells
    obtain ⟨d0, d1, d2, d3, d4, d5, _⟩ := (zy.keep b12 (Nat.le_refl _)).cells
    have C := Lib.hid (specComm _ kk x y w12 (o10.reads.below (b11.next (Nat.le_refl _) b12) (Nat.le_refl _)))
    rw [E4.out] at C
    go_wp2_with fail
    refine C.out.mono ?_; rintro e w13 ⟨rfl, b13⟩
    clear C
    clear c0 c1 c2 c3 c4 c5 d0 d1 d2 d3 d4 d5
    have C := Lib.hid (drawEditorsOf_any _ more w13 (h1.below ((((((((((((b1.next (Nat.le_refl _) b2).next (Nat.le_refl _) b3).next (Nat.le_refl _) b4).next (Nat.le_refl _) b5).next (Nat.le_refl _) b6).next (Nat.le_refl _) b7).next (Nat.le_refl _) b8).next (Nat.le_refl _) b9).next (Nat.le_refl _) b10).next (Nat.le_refl _) b11).next (Nat.le_refl _) b12).next (Nat.le_refl _) b13) (Nat.le_refl _)) f1)
    go_wp2_with fail
    refine C.out.mono ?_; rintro e w14 ⟨u13, G, rfl, q13, b14, hG31⟩
    clear C
    obtain ⟨H, seven, e5⟩ : ∃ H ok, rEditors G = (H, ok) := ⟨_, _, rfl⟩
    have E5 := Lib.hid (e5)
    clear e5
    have C := Lib.hid (implEditors _ G w14 q13.reads)
    rw [E5.out] at C
    go_wp2_with fail
    refine C.out.mono ?_; rintro e w15 ⟨u14, rfl, o14, b15⟩
    clear C
    have C := Lib.hid (specEditors _ G w15 (q13.reads.below b15 (Nat.le_refl _)))
    rw [E5.out] at C
    go_wp2_with fail
    refine C.out.mono ?_; rintro e w16 ⟨u15, rfl, o15, b16⟩
    clear C
    have C := Lib.hid (drawConflictText_any _ more w16 (h1.below (((((((((((((((b1.next (Nat.le_refl _) b2).next (Nat.le_refl _) b3).next (Nat.le_refl _) b4).next (Nat.le_refl _) b5).next (Nat.le_refl _) b6).next (Nat.le_refl _) b7).next (Nat.le_refl _) b8).next (Nat.le_refl _) b9).next (Nat.le_refl _) b10).next (Nat.le_refl _) b11).next (Nat.le_refl _) b12).next (Nat.le_refl _) b13).next (Nat.le_refl _) b14).next (Nat.le_refl _) b15).next (Nat.le_refl _) b16) (Nat.le_refl _)) f1)
    go_wp2_with fail
    refine C.out.mono ?_; rintro e w17 ⟨u16, K, rfl, q16, b17, hK13⟩
    clear C
    obtain ⟨S, nine, e6⟩ : ∃ S ok, cTextR K = (S, ok) := ⟨_, _, rfl⟩
    have E6 := Lib.hid (e6)
    clear e6
    have C := Lib.hid (implConfT _ K w17 q16.reads (by omega))
    rw [E6.out] at C
    go_wp2_with fail
    refine C.out.mono ?_; rintro e w18 ⟨rfl, b18⟩
    clear C
    have C := Lib.hid (specConfT _ K w18 (q16.reads.below b18 (Nat.le_refl _)) (by omega))
    rw [E6.out] at C
    go_wp2_with fail
    refine C.out.mono ?_; rintro e w19 ⟨rfl, b19⟩
    clear C
    have C := Lib.hid (qEdits_yes _ _ R w19 (o2.reads.below ((((((((((((((((b3.next (Nat.le_refl _) b4).next (Nat.le_refl _) b5).next (Nat.le_refl _) b6).next (Nat.le_refl _) b7).next (Nat.le_refl _) b8).next (Nat.le_refl _) b9).next (Nat.le_refl _) b10).next (Nat.le_refl _) b11).next (Nat.le_refl _) b12).next (Nat.le_refl _) b13).next (Nat.le_refl _) b14).next (Nat.le_refl _) b15).next (Nat.le_refl _) b16).next (Nat.le_refl _) b17).next (Nat.le_refl _) b18).next (Nat.le_refl _) b19) (Nat.le_refl _)) (o3.reads.below (((((((((((((((b4.next (Nat.le_refl _) b5).next (Nat.le_refl _) b6).next (Nat.le_refl _) b7).next (Nat.le_refl _) b8).next (Nat.le_refl _) b9).next (Nat.le_refl _) b10).next (Nat.le_refl _) b11).next (Nat.le_refl _) b12).next (Nat.le_refl _) b13).next (Nat.le_refl _) b14).next (Nat.le_refl _) b15).next (Nat.le_refl _) b16).next (Nat.le_refl _) b17).next (Nat.le_refl _) b18).next (Nat.le_refl _) b19) (Nat.le_refl _)))
    go_wp2_with fail
    refine C.out.mono ?_; rintro e w20 ⟨rfl, b20⟩
    clear C
    have C := Lib.hid (qInts_yes _ _ L w20 (p2.reads.below (((((((((((((((((b3.next (Nat.le_refl _) b4).next (Nat.le_refl _) b5).next (Nat.le_refl _) b6).next (Nat.le_refl _) b7).next (Nat.le_refl _) b8).next (Nat.le_refl _) b9).next (Nat.le_refl _) b10).next (Nat.le_refl _) b11).next (Nat.le_refl _) b12).next (Nat.le_refl _) b13).next (Nat.le_refl _) b14).next (Nat.le_refl _) b15).next (Nat.le_refl _) b16).next (Nat.le_refl _) b17).next (Nat.le_refl _) b18).next (Nat.le_refl _) b19).next (Nat.le_refl _) b20) (Nat.le_refl _)) (p3.reads.below ((((((((((((((((b4.next (Nat.le_refl _) b5).next (Nat.le_refl _) b6).next (Nat.le_refl _) b7).next (Nat.le_refl _) b8).next (Nat.le_refl _) b9).next (Nat.le_refl _) b10).next (Nat.le_refl _) b11).next (Nat.le_refl _) b12).next (Nat.le_refl _) b13).next (Nat.le_refl _) b14).next (Nat.le_refl _) b15).next (Nat.le_refl _) b16).next (Nat.le_refl _) b17).next (Nat.le_refl _) b18).next (Nat.le_refl _) b19).next (Nat.le_refl _) b20) (Nat.le_refl _)))
    go_wp2_with fail
    refine C.out.mono ?_; rintro e w21 ⟨rfl, b21⟩
    clear C
    have C := Lib.hid (qInts_yes _ _ I w21 (o5.reads.below (((((((((((((((b6.next (Nat.le_refl _) b7).next (Nat.le_refl _) b8).next (Nat.le_refl _) b9).next (Nat.le_refl _) b10).next (Nat.le_refl _) b11).next (Nat.le_refl _) b12).next (Nat.le_refl _) b13).next (Nat.le_refl _) b14).next (Nat.le_refl _) b15).next (Nat.le_refl _) b16).next (Nat.le_refl _) b17).next (Nat.le_refl _) b18).next (Nat.le_refl _) b19).next (Nat.le_refl _) b20).next (Nat.le_refl _) b21) (Nat.le_refl _)) (o6.reads.below ((((((((((((((b7.next (Nat.le_refl _) b8).next (Nat.le_refl _) b9).next (Nat.le_refl _) b10).next (Nat.le_refl _) b11).next (Nat.le_refl _) b12).next (Nat.le_refl _) b13).next (Nat.le_refl _) b14).next (Nat.le_refl _) b15).next (Nat.le_refl _) b16).next (Nat.le_refl _) b17).next (Nat.le_refl _) b18).next (Nat.le_refl _) b19).next (Nat.le_refl _) b20).next (Nat.le_refl _) b21) (Nat.le_refl _)))
    go_wp2_with fail
    refine C.out.mono ?_; rintro e w22 ⟨rfl, b22⟩
    clear C
    have C := Lib.hid (qSpots_yes _ _ T w22 (o8.reads.below (((((((((((((b9.next (Nat.le_refl _) b10).next (Nat.le_refl _) b11).next (Nat.le_refl _) b12).next (Nat.le_refl _) b13).next (Nat.le_refl _) b14).next (Nat.le_refl _) b15).next (Nat.le_refl _) b16).next (Nat.le_refl _) b17).next (Nat.le_refl _) b18).next (Nat.le_refl _) b19).next (Nat.le_refl _) b20).next (Nat.le_refl _) b21).next (Nat.le_refl _) b22) (Nat.le_refl _)) (o9.reads.below ((((((((((((b10.next (Nat.le_refl _) b11).next (Nat.le_refl _) b12).next (Nat.le_refl _) b13).next (Nat.le_refl _) b14).next (Nat.le_refl _) b15).next (Nat.le_refl _) b16).next (Nat.le_refl _) b17).next (Nat.le_refl _) b18).next (Nat.le_refl _) b19).next (Nat.le_refl _) b20).next (Nat.le_refl _) b21).next (Nat.le_refl _) b22) (Nat.le_refl _)))
    go_wp2_with fail
    refine C.out.mono ?_; rintro e w23 ⟨rfl, b23⟩
    clear C
    have C := Lib.hid (qInts_yes _ _ H w23 (o14.reads.below (((((((b16.next (Nat.le_refl _) b17).next (Nat.le_refl _) b18).next (Nat.le_refl _) b19).next (Nat.le_refl _) b20).next (Nat.le_refl _) b21).next (Nat.le_refl _) b22).next (Nat.le_refl _) b23) (Nat.le_refl _)) (o15.reads.below ((((((b17.next (Nat.le_refl _) b18).next (Nat.le_refl _) b19).next (Nat.le_refl _) b20).next (Nat.le_refl _) b21).next (Nat.le_refl _) b22).next (Nat.le_refl _) b23) (Nat.le_refl _)))
    go_wp2_with fail
    refine C.out.mono ?_; rintro e w24 ⟨rfl, b24⟩
    clear C
    go_upto_if 246 with fail
    go_cut [] from 46 to 260 (fun wx => Below w24.heap.size w24 wx)
    case first =>
      as_aux_lemma =>
        cases five
        case false =>
          go_wp2_with fail
          go_meet
          exact (Below.refl w24.heap.size w24)
        case true =>
          obtain ⟨c0, c1, c2, c3, c4, c5, _⟩ := (zx.keep ((((((((((((b12.next (Nat.le_refl _) b13).next (Nat.le_refl _) b14).next (Nat.le_refl _) b15).next (Nat.le_refl _) b16).next (Nat.le_refl _) b17).next (Nat.le_refl _) b18).next (Nat.le_refl _) b19).next (Nat.le_refl _) b20).next (Nat.le_refl _) b21).next (Nat.le_refl _) b22).next (Nat.le_refl _) b23).next (Nat.le_refl _) b24) (Nat.le_refl _)).cells
          obtain ⟨d0, d1, d2, d3, d4, d5, _⟩ := (zy.keep ((((((((((((b12.next (Nat.le_refl _) b13).next (Nat.le_refl _) b14).next (Nat.le_refl _) b15).next (Nat.le_refl _) b16).next (Nat.le_refl _) b17).next (Nat.le_refl _) b18).next (Nat.le_refl _) b19).next (Nat.le_refl _) b20).next (Nat.le_refl _) b21).next (Nat.le_refl _) b22).next (Nat.le_refl _) b23).next (Nat.le_refl _) b24) (Nat.le_refl _)).cells
          have C := Lib.hid (implComm _ kk y x w24 (o10.reads.below (((((((((((((b11.next (Nat.le_refl _) b12).next (Nat.le_refl _) b13).next (Nat.le_refl _) b14).next (Nat.le_refl _) b15).next (Nat.le_refl _) b16).next (Nat.le_refl _) b17).next (Nat.le_refl _) b18).next (Nat.le_refl _) b19).next (Nat.le_refl _) b20).next (Nat.le_refl _) b21).next (Nat.le_refl _) b22).next (Nat.le_refl _) b23).next (Nat.le_refl _) b24) (Nat.le_refl _)))
          rw [rComm_sym, E4.out] at C
          go_wp2_with fail
          refine C.out.mono ?_; rintro e w25 ⟨rfl, b25⟩
          clear C
          clear c0 c1 c2 c3 c4 c5 d0 d1 d2 d3 d4 d5
          go_wp2_with fail
          go_meet
          exact b25
    case rest =>
      skip
      obtain ⟨w25, hw25⟩ : ∃ w9 : World, w9 = wc := ⟨_, rfl⟩
      subst hw25
      have b25 := hcut
      clear hcut
      go_upto_if 261 with fail
      go_cut [] from 48 to 307 (fun wx => Below w25.heap.size w25 wx)
      case first =>
        skip
        cases one
        case false =>
          go_wp2_with fail
          go_meet
          exact (Below.refl w25.heap.size w25)
        case true =>
          have o6w : OwnInts w6 w5.heap.size u6 I := o6
          obtain ⟨own, tt, J, F⟩ := fit_ex E2.out
          obtain ⟨AI, cI, hvI, hnI, hcI⟩ := o6w.reads.shape
          subst hvI
          obtain ⟨AE, cE, hvE, hnE, hcE⟩ := q4.reads.shape
          subst hvE
          have rI := Lib.hid (((o6w.reads.below ((((((((((((((((((b7.next (Nat.le_refl _) b8).next (Nat.le_refl _) b9).next (Nat.le_refl _) b10).next (Nat.le_refl _) b11).next (Nat.le_refl _) b12).next (Nat.le_refl _) b13).next (Nat.le_refl _) b14).next (Nat.le_refl _) b15).next (Nat.le_refl _) b16).next (Nat.le_refl _) b17).next (Nat.le_refl _) b18).next (Nat.le_refl _) b19).next (Nat.le_refl _) b20).next (Nat.le_refl _) b21).next (Nat.le_refl _) b22).next (Nat.le_refl _) b23).next (Nat.le_refl _) b24).next (Nat.le_refl _) b25) (Nat.le_refl _)) : IntsAt _ _ I))
          have rE := Lib.hid (((q4.reads.below ((((((((((((((((((((b5.next (Nat.le_refl _) b6).next (Nat.le_refl _) b7).next (Nat.le_refl _) b8).next (Nat.le_refl _) b9).next (Nat.le_refl _) b10).next (Nat.le_refl _) b11).next (Nat.le_refl _) b12).next (Nat.le_refl _) b13).next (Nat.le_refl _) b14).next (Nat.le_refl _) b15).next (Nat.le_refl _) b16).next (Nat.le_refl _) b17).next (Nat.le_refl _) b18).next (Nat.le_refl _) b19).next (Nat.le_refl _) b20).next (Nat.le_refl _) b21).next (Nat.le_refl _) b22).next (Nat.le_refl _) b23).next (Nat.le_refl _) b24).next (Nat.le_refl _) b25) (Nat.le_refl _)) : RowAt edtRec _ _ E))
          have rc := Lib.hid (((o4.reads.below ((((((((((((((((((((b5.next (Nat.le_refl _) b6).next (Nat.le_refl _) b7).next (Nat.le_refl _) b8).next (Nat.le_refl _) b9).next (Nat.le_refl _) b10).next (Nat.le_refl _) b11).next (Nat.le_refl _) b12).next (Nat.le_refl _) b13).next (Nat.le_refl _) b14).next (Nat.le_refl _) b15).next (Nat.le_refl _) b16).next (Nat.le_refl _) b17).next (Nat.le_refl _) b18).next (Nat.le_refl _) b19).next (Nat.le_refl _) b20).next (Nat.le_refl _) b21).next (Nat.le_refl _) b22).next (Nat.le_refl _) b23).next (Nat.le_refl _) b24).next (Nat.le_refl _) b25) (Nat.le_refl _)) : RowAt sptRec _ _ c))
          have FF := Lib.hid (F)
          have hZ := Lib.hid (Below.refl w25.heap.size w25)
          clear F o6w
          try clear h0
          try clear h1
          try clear f0
          try clear f1
          try clear o1
          try clear oa
          try clear ob
          try clear o2
          try clear p2
          try clear o3
          try clear p3
          try clear o4
          try clear q4
          try clear o5
          try clear o6
          try clear o7
          try clear q7
          try clear o8
          try clear o9
          try clear o10
          try clear q13
          try clear o14
          try clear o15
          try clear q16
          try clear zx
          try clear zy
          try clear E1
          try clear E2
          try clear E3
          try clear E4
          try clear E5
          try clear E6
          try clear HB
          try clear HR1
          try clear HL1
          try clear hl13
          try clear ha31
          try clear hb31
          try clear hc13
          try clear hE31
          try clear hd13
          try clear hD31
          try clear hk13
          try clear hG31
          try clear hK13
          try clear b1
          try clear b2
          try clear b3
          try clear b4
          try clear b5
          try clear b6
          try clear b7
          try clear b8
          try clear b9
          try clear b10
          try clear b11
          try clear b12
          try clear b13
          try clear b14
          try clear b15
          try clear b16
          try clear b17
          try clear b18
          try clear b19
          try clear b20
          try clear b21
          try clear b22
          try clear b23
          try clear b24
          try clear b25
          try clear HW1
          try clear HW2
          try clear HW3
          try clear HW4
          try clear HW5
          try clear HW6
          try clear HW7
          try clear HW8
          try clear HW9
          try clear HW10
          try clear HW11
          try clear HW12
          try clear HW13
          try clear HW14
          try clear HW15
          try clear HW16
          try clear HW17
          try clear HW18
          try clear HW19
          try clear HW20
          try clear HW21
          try clear HW22
          try clear HW23
          try clear HW24
          try clear HW25
          go_wp2_with fail
          go_loopw [48, 264] (fun t s wr => ∃ j : Nat, j ≤ I.length ∧ s = .int .i64 j ∧ OwnRow edtRec wr w25.heap.size t (outE E (I.take j)) ∧ Below w25.heap.size w25 wr) (fun _ s _ => I.length - (intOf s).toNat)
          case atStart => exact ⟨0, Nat.zero_le _, rfl, OwnRow.nil_ edtRec _ _, Below.refl _ _⟩
          case round =>
            obtain ⟨j, hj, rfl, ho, hb⟩ := hrel
            by_cases hlt : j < I.length
            · obtain ⟨n, hn, hnl⟩ := FF.out.inn j hlt
              have hst := outE_take E I j hlt
              obtain ⟨b9, o9, hh9, hcy0⟩ := IntsAt.at_ (rI.out.below hb (Nat.le_refl _)) j hlt
              subst hh9
              rw [hn] at hst hcy0
              have hn0 : (0 : Int) ≤ (n : Int) := by omega
              have hn1 : (n : Int) < (E.length : Int) := by omega
              have hst1 : outE E (I.take (j + 1)) = outE E (I.take j) ++ [gx edtRec E n] := hst
              have Hst := Lib.hid hst1
              have h30 := FF.out.l30
              have hol : (outE E (I.take j)).length = j := by rw [outE_len, List.length_take]; omega
              have h9 : (outE E (I.take j)).length + 1 ≤ 1099511627776 := by omega
              clear hst hst1 hn hol h30
              obtain ⟨b8, o8, hh8, hc0, hc1, hc2, hc3, hc4, hc5⟩ := edt_at (rE.out.below hb (Nat.le_refl _)) n hnl
              subst hh8
              have hsz := hb.size
              go_wp2_with (at_builtin; refine wp_app_edt _ rfl _ _ rfl w25.heap.size _ (outE E (I.take j)) rfl ho (gx edtRec E n) _ rfl rfl h9 hsz ?_; intro v5 w5 ho5 hg5)
              go_roundw
              case rel => exact ⟨j + 1, by omega, by go_num, by rw [Hst.out]; exact ho5, hb.trans hg5.below⟩
              case measure => simp [intOf]; omega
            · obtain rfl : j = I.length := by omega
              as_aux_lemma =>
                rw [List.take_length, ← FF.out.eo] at ho
                have hlo : own.length = I.length := FF.out.lo
                have h30 := FF.out.l30
                have HLO := Lib.hid hlo
                have h31 : own.length ≤ 30 := by omega
                clear hlo h30
                obtain ⟨w26, hw26⟩ : ∃ w9 : World, w9 = wr := ⟨_, rfl⟩
                subst hw26
                have b26 := hb
                clear hb
                obtain ⟨Ao, co, hvo, hno, hco⟩ := ho.reads.shape
                subst hvo
                have C := Lib.hid (implApply _ _ c own w26 (rc.out.below b26 (Nat.le_refl _)) ho.reads FF.out.ch FF.out.ea tt FF.out.ra)
                go_wp2_with fail
                refine C.out.mono ?_; rintro e w27 ⟨u20, rfl, o20, b27⟩
                clear C
                have C := Lib.hid (implFitting _ _ c own w27 (rc.out.below (b26.next (Nat.le_refl _) b27) (Nat.le_refl _)) (ho.reads.below b27 (Nat.le_refl _)))
                rw [FF.out.fj] at C
                go_wp2_with fail
                refine C.out.mono ?_; rintro e w28 ⟨u21, rfl, o21, b28⟩
                clear C
                have o21w : OwnInts w28 w27.heap.size u21 J := o21
                obtain ⟨AJ, cJ, hvJ, hnJ, hcJ⟩ := o21w.reads.shape
                subst hvJ
                have e9 : ((J.length : Int) != (own.length : Int)) = false := by rw [FF.out.lj]; simp
                go_wp2_with fail
                go_meet
                exact ((b26.next (Nat.le_refl _) b27).next (Nat.le_refl _) b28)
      case rest =>
        skip
        obtain ⟨w26, hw26⟩ : ∃ w9 : World, w9 = wc := ⟨_, rfl⟩
        subst hw26
        have b26 := hcut
        clear hcut
        go_upto_if 308 with fail
        go_cut [] from 56 to 333 (fun wx => Below w26.heap.size w26 wx)
        case first =>
          as_aux_lemma =>
            cases three
            case false =>
              go_wp2_with fail
              go_meet
              exact (Below.refl w26.heap.size w26)
            case true =>
              have F := wo_ex E3.out
              obtain ⟨AD, cD, hvD, hnD, hcD⟩ := q7.reads.shape
              subst hvD
              have rD := Lib.hid (((q7.reads.below ((((((((((((((((((b8.next (Nat.le_refl _) b9).next (Nat.le_refl _) b10).next (Nat.le_refl _) b11).next (Nat.le_refl _) b12).next (Nat.le_refl _) b13).next (Nat.le_refl _) b14).next (Nat.le_refl _) b15).next (Nat.le_refl _) b16).next (Nat.le_refl _) b17).next (Nat.le_refl _) b18).next (Nat.le_refl _) b19).next (Nat.le_refl _) b20).next (Nat.le_refl _) b21).next (Nat.le_refl _) b22).next (Nat.le_refl _) b23).next (Nat.le_refl _) b24).next (Nat.le_refl _) b25).next (Nat.le_refl _) b26) (Nat.le_refl _)) : RowAt edtRec _ _ D))
              have rT := Lib.hid (((o8.reads.below (((((((((((((((((b9.next (Nat.le_refl _) b10).next (Nat.le_refl _) b11).next (Nat.le_refl _) b12).next (Nat.le_refl _) b13).next (Nat.le_refl _) b14).next (Nat.le_refl _) b15).next (Nat.le_refl _) b16).next (Nat.le_refl _) b17).next (Nat.le_refl _) b18).next (Nat.le_refl _) b19).next (Nat.le_refl _) b20).next (Nat.le_refl _) b21).next (Nat.le_refl _) b22).next (Nat.le_refl _) b23).next (Nat.le_refl _) b24).next (Nat.le_refl _) b25).next (Nat.le_refl _) b26) (Nat.le_refl _)) : RowAt sptRec _ _ T))
              have FF := Lib.hid (F)
              clear F
              try clear h0
              try clear h1
              try clear f0
              try clear f1
              try clear o1
              try clear oa
              try clear ob
              try clear o2
              try clear p2
              try clear o3
              try clear p3
              try clear o4
              try clear q4
              try clear o5
              try clear o6
              try clear o7
              try clear q7
              try clear o8
              try clear o9
              try clear o10
              try clear q13
              try clear o14
              try clear o15
              try clear q16
              try clear zx
              try clear zy
              try clear E1
              try clear E2
              try clear E3
              try clear E4
              try clear E5
              try clear E6
              try clear HB
              try clear HR1
              try clear HL1
              try clear hl13
              try clear ha31
              try clear hb31
              try clear hc13
              try clear hE31
              try clear hd13
              try clear hD31
              try clear hk13
              try clear hG31
              try clear hK13
              try clear b1
              try clear b2
              try clear b3
              try clear b4
              try clear b5
              try clear b6
              try clear b7
              try clear b8
              try clear b9
              try clear b10
              try clear b11
              try clear b12
              try clear b13
              try clear b14
              try clear b15
              try clear b16
              try clear b17
              try clear b18
              try clear b19
              try clear b20
              try clear b21
              try clear b22
              try clear b23
              try clear b24
              try clear b25
              try clear b26
              try clear HW1
              try clear HW2
              try clear HW3
              try clear HW4
              try clear HW5
              try clear HW6
              try clear HW7
              try clear HW8
              try clear HW9
              try clear HW10
              try clear HW11
              try clear HW12
              try clear HW13
              try clear HW14
              try clear HW15
              try clear HW16
              try clear HW17
              try clear HW18
              try clear HW19
              try clear HW20
              try clear HW21
              try clear HW22
              try clear HW23
              try clear HW24
              try clear HW25
              try clear HW26
              go_wp2_with fail
              go_loopw [56, 311] (fun t s wr => ∃ j : Nat, j ≤ D.length ∧ s = .int .i64 j ∧ t = .int .i64 ((oth (D.take j) ed).length : Int) ∧ Below w26.heap.size w26 wr) (fun _ s _ => D.length - (intOf s).toNat)
              case atStart => exact ⟨0, Nat.zero_le _, rfl, rfl, Below.refl _ _⟩
              case round =>
                obtain ⟨j, hj, rfl, rfl, hb⟩ := hrel
                have h30 := FF.out.2.2.2
                by_cases hlt : j < D.length
                · obtain ⟨b8, o8, hh8, hc0, hc1, hc2, hc3, hc4, hc5⟩ := edt_at (rD.out.below hb (Nat.le_refl _)) j hlt
                  subst hh8
                  have hol := oth_len (D.take j) ed
                  rw [List.length_take] at hol
                  have h9 : (oth (D.take j) ed).length ≤ 30 := by omega
                  clear hol
                  have hbX := hb.alloc hb.size (.cells #[.int .i64 (gx edtRec D j).e, .int .i64 (gx edtRec D j).p, .int .i64 (gx edtRec D j).bx, .int .i64 (gx edtRec D j).bY, .int .i64 (gx edtRec D j).ax, .int .i64 (gx edtRec D j).aY] 41)
                  obtain ⟨m, hm⟩ : ∃ m, m = (oth (D.take j) ed).length := ⟨_, rfl⟩
                  rw [← hm] at h9 ⊢
                  have Hm := Lib.hid hm
                  clear hm
                  cases e0 : ((gx edtRec D j).e != ed)
                  · have hs := Lib.hid (oth_no hlt e0)
                    go_wp2_with fail
                    go_roundw
                    case rel => exact ⟨j + 1, by omega, by go_num, by rw [hs.out, ← Hm.out], hbX⟩
                    case measure => simp [intOf]; omega
                  · have hs := Lib.hid (oth_yes hlt e0)
                    go_wp2_with fail
                    go_roundw
                    case rel => exact ⟨j + 1, by omega, by go_num, by rw [hs.out, List.length_append, ← Hm.out]; go_num, hbX⟩
                    case measure => simp [intOf]; omega
                · obtain rfl : j = D.length := by omega
                  rw [List.take_length]
                  have s0 := FF.out.2.1
                  have s1 := FF.out.2.2.1
                  have s2 : decide (sk < 0) = false := decide_eq_false (by omega)
                  have s3 : decide (((oth D ed).length : Int) < sk) = false := decide_eq_false (by omega)
                  obtain ⟨w27, hw27⟩ : ∃ w9 : World, w9 = wr := ⟨_, rfl⟩
                  subst hw27
                  have b27 := hb
                  clear hb
                  have C := Lib.hid (implIsChart _ T w27 (rT.out.below b27 (Nat.le_refl _)))
                  rw [FF.out.1] at C
                  go_wp2_with fail
                  refine C.out.mono ?_; rintro e w28 ⟨rfl, b28⟩
                  clear C
                  go_wp2_with fail
                  go_meet
                  exact (b27.next (Nat.le_refl _) b28)
        case rest =>
          skip
          obtain ⟨w27, hw27⟩ : ∃ w9 : World, w9 = wc := ⟨_, rfl⟩
          subst hw27
          have b27 := hcut
          clear hcut
          cases ok
          case false =>
            go_wp2_with fail
            go_ret
            exact ⟨rfl, ((((((((((((((((((((((((((b1.next (Nat.le_refl _) b2).next (Nat.le_refl _) b3).next (Nat.le_refl _) b4).next (Nat.le_refl _) b5).next (Nat.le_refl _) b6).next (Nat.le_refl _) b7).next (Nat.le_refl _) b8).next (Nat.le_refl _) b9).next (Nat.le_refl _) b10).next (Nat.le_refl _) b11).next (Nat.le_refl _) b12).next (Nat.le_refl _) b13).next (Nat.le_refl _) b14).next (Nat.le_refl _) b15).next (Nat.le_refl _) b16).next (Nat.le_refl _) b17).next (Nat.le_refl _) b18).next (Nat.le_refl _) b19).next (Nat.le_refl _) b20).next (Nat.le_refl _) b21).next (Nat.le_refl _) b22).next (Nat.le_refl _) b23).next (Nat.le_refl _) b24).next (Nat.le_refl _) b25).next (Nat.le_refl _) b26).next (Nat.le_refl _) b27)⟩
          case true =>
            have F := reb_ex E1.out
            have o3w : OwnRow edtRec w3 w2.heap.size u3 R := o3
            have p3w : OwnInts w3 w2.heap.size v3 L := p3
            obtain ⟨AR, cR, hvR, hnR, hcR⟩ := o3w.reads.shape
            subst hvR
            obtain ⟨Aa, ca, hva, hna, hca⟩ := oa.reads.shape
            subst hva
            obtain ⟨Ab, cb, hvb, hnb, hcb⟩ := ob.reads.shape
            subst hvb
            obtain ⟨AL, cL, hvL, hnL, hcL⟩ := p3w.reads.shape
            subst hvL
            have rR := Lib.hid (((o3w.reads.below (((((((((((((((((((((((b4.next (Nat.le_refl _) b5).next (Nat.le_refl _) b6).next (Nat.le_refl _) b7).next (Nat.le_refl _) b8).next (Nat.le_refl _) b9).next (Nat.le_refl _) b10).next (Nat.le_refl _) b11).next (Nat.le_refl _) b12).next (Nat.le_refl _) b13).next (Nat.le_refl _) b14).next (Nat.le_refl _) b15).next (Nat.le_refl _) b16).next (Nat.le_refl _) b17).next (Nat.le_refl _) b18).next (Nat.le_refl _) b19).next (Nat.le_refl _) b20).next (Nat.le_refl _) b21).next (Nat.le_refl _) b22).next (Nat.le_refl _) b23).next (Nat.le_refl _) b24).next (Nat.le_refl _) b25).next (Nat.le_refl _) b26).next (Nat.le_refl _) b27) (Nat.le_refl _)) : RowAt edtRec _ _ R))
            have ra := Lib.hid (((oa.reads.below (((((((((((((((((((((((((b2.next (Nat.le_refl _) b3).next (Nat.le_refl _) b4).next (Nat.le_refl _) b5).next (Nat.le_refl _) b6).next (Nat.le_refl _) b7).next (Nat.le_refl _) b8).next (Nat.le_refl _) b9).next (Nat.le_refl _) b10).next (Nat.le_refl _) b11).next (Nat.le_refl _) b12).next (Nat.le_refl _) b13).next (Nat.le_refl _) b14).next (Nat.le_refl _) b15).next (Nat.le_refl _) b16).next (Nat.le_refl _) b17).next (Nat.le_refl _) b18).next (Nat.le_refl _) b19).next (Nat.le_refl _) b20).next (Nat.le_refl _) b21).next (Nat.le_refl _) b22).next (Nat.le_refl _) b23).next (Nat.le_refl _) b24).next (Nat.le_refl _) b25).next (Nat.le_refl _) b26).next (Nat.le_refl _) b27) (Nat.le_refl _)) : RowAt edtRec _ _ a))
            have rl := Lib.hid (((o1.reads.below (((((((((((((((((((((((((b2.next (Nat.le_refl _) b3).next (Nat.le_refl _) b4).next (Nat.le_refl _) b5).next (Nat.le_refl _) b6).next (Nat.le_refl _) b7).next (Nat.le_refl _) b8).next (Nat.le_refl _) b9).next (Nat.le_refl _) b10).next (Nat.le_refl _) b11).next (Nat.le_refl _) b12).next (Nat.le_refl _) b13).next (Nat.le_refl _) b14).next (Nat.le_refl _) b15).next (Nat.le_refl _) b16).next (Nat.le_refl _) b17).next (Nat.le_refl _) b18).next (Nat.le_refl _) b19).next (Nat.le_refl _) b20).next (Nat.le_refl _) b21).next (Nat.le_refl _) b22).next (Nat.le_refl _) b23).next (Nat.le_refl _) b24).next (Nat.le_refl _) b25).next (Nat.le_refl _) b26).next (Nat.le_refl _) b27) (Nat.le_refl _)) : RowAt sptRec _ _ l))
            have FF := Lib.hid (F)
            have hZ := Lib.hid (((((((((((((((((((((((((((b1.next (Nat.le_refl _) b2).next (Nat.le_refl _) b3).next (Nat.le_refl _) b4).next (Nat.le_refl _) b5).next (Nat.le_refl _) b6).next (Nat.le_refl _) b7).next (Nat.le_refl _) b8).next (Nat.le_refl _) b9).next (Nat.le_refl _) b10).next (Nat.le_refl _) b11).next (Nat.le_refl _) b12).next (Nat.le_refl _) b13).next (Nat.le_refl _) b14).next (Nat.le_refl _) b15).next (Nat.le_refl _) b16).next (Nat.le_refl _) b17).next (Nat.le_refl _) b18).next (Nat.le_refl _) b19).next (Nat.le_refl _) b20).next (Nat.le_refl _) b21).next (Nat.le_refl _) b22).next (Nat.le_refl _) b23).next (Nat.le_refl _) b24).next (Nat.le_refl _) b25).next (Nat.le_refl _) b26).next (Nat.le_refl _) b27))
            have hr30 := F.lr
            have hl30 := F.ll
            have ha30 := F.la
            have hlb := F.lb
            clear F o3w p3w
            try clear h0
            try clear h1
            try clear f0
            try clear f1
            try clear o1
            try clear oa
            try clear ob
            try clear o2
            try clear p2
            try clear o3
            try clear p3
            try clear o4
            try clear q4
            try clear o5
            try clear o6
            try clear o7
            try clear q7
            try clear o8
            try clear o9
            try clear o10
            try clear q13
            try clear o14
            try clear o15
            try clear q16
            try clear zx
            try clear zy
            try clear E1
            try clear E2
            try clear E3
            try clear E4
            try clear E5
            try clear E6
            try clear HB
            try clear HR1
            try clear HL1
            try clear hl13
            try clear ha31
            try clear hb31
            try clear hc13
            try clear hE31
            try clear hd13
            try clear hD31
            try clear hk13
            try clear hG31
            try clear hK13
            try clear b1
            try clear b2
            try clear b3
            try clear b4
            try clear b5
            try clear b6
            try clear b7
            try clear b8
            try clear b9
            try clear b10
            try clear b11
            try clear b12
            try clear b13
            try clear b14
            try clear b15
            try clear b16
            try clear b17
            try clear b18
            try clear b19
            try clear b20
            try clear b21
            try clear b22
            try clear b23
            try clear b24
            try clear b25
            try clear b26
            try clear b27
            try clear HW1
            try clear HW2
            try clear HW3
            try clear HW4
            try clear HW5
            try clear HW6
            try clear HW7
            try clear HW8
            try clear HW9
            try clear HW10
            try clear HW11
            try clear HW12
            try clear HW13
            try clear HW14
            try clear HW15
            try clear HW16
            try clear HW17
            try clear HW18
            try clear HW19
            try clear HW20
            try clear HW21
            try clear HW22
            try clear HW23
            try clear HW24
            try clear HW25
            try clear HW26
            try clear HW27
            have hlb1 : (R.length : Int) + (L.length : Int) = (b.length : Int) := by omega
            have hlb2 : ((R.length : Int) + (L.length : Int) != (b.length : Int)) = false := by rw [hlb1]; simp
            clear hlb1
            have Hlb := Lib.hid hlb
            clear hlb
            have hE := OwnRow.empty edtRec w27 w27.heap.size (Nat.le_refl _)
            have hEb : Below w27.heap.size w27 (w27.alloc (.cells #[] 41)) := (Below.refl _ _).alloc (Nat.le_refl _) _
            have ha9 := ra.out.below hEb (Nat.le_refl _)
            have h61 : ([] : List Edt).length + a.length ≤ 1099511627776 := by simp; omega
            have h62 : ([] ++ a : List Edt).length + R.length ≤ 1099511627776 := by simp; omega
            go_wp2_with (at_builtin; first | (refine wp_app_edts _ rfl _ _ rfl w27.heap.size _ [] rfl hE _ a rfl ha9 h61 hEb.size ?_; intro y1 x1 oy1 gy1; have rR1 := rR.out.below (hEb.trans gy1.below) (Nat.le_refl _); have hy1 := (hEb.trans gy1.below).size) | (refine wp_app_edts _ rfl _ _ rfl w27.heap.size _ ([] ++ a) rfl oy1 _ R rfl rR1 h62 hy1 ?_; intro y2 x2 oy2 gy2))
            have bz := (hEb.trans gy1.below).trans gy2.below
            rw [List.nil_append] at oy2
            obtain ⟨AY, cY, hvY, hnY, hcY⟩ := oy2.reads.shape
            subst hvY
            have hl9 : (a ++ R).length = a.length + R.length := List.length_append
            by_cases hs30 : a.length + R.length ≤ 30
            · obtain ⟨t9, hr9⟩ := FF.out.run
              skip
              have C := Lib.hid (implApply _ _ l (a ++ R) x2 (rl.out.below bz (Nat.le_refl _)) oy2.reads FF.out.ch (FF.out.all hs30) t9 hr9)
              have e9 : (((a ++ R).length : Int) == (a.length : Int) + (R.length : Int)) = true := by rw [hl9]; simp
              refine C.out.mono ?_; rintro e x3 ⟨u30, rfl, o30, b30⟩
              clear C
              have hs31 : decide ((30 : Int) < (a.length : Int) + (R.length : Int)) = false := decide_eq_false (by omega)
              have hs32 : (a.length : Int) + (R.length : Int) ≤ 30 := by omega
              go_wp2_with fail
              go_ret
              exact ⟨rfl, hZ.out.next (Nat.le_refl _) (bz.next (Nat.le_refl _) b30)⟩
            · skip
              have C := Lib.hid (implApplyNo _ _ l (a ++ R) x2 (rl.out.below bz (Nat.le_refl _)) oy2.reads FF.out.ch (FF.out.big (by omega)))
              refine C.out.mono ?_; rintro e x3 ⟨rfl, b30⟩
              clear C
              have hs31 : (30 : Int) < (a.length : Int) + (R.length : Int) := by omega
              go_wp2_with fail
              go_ret
              exact ⟨rfl, hZ.out.next (Nat.le_refl _) (bz.next (Nat.le_refl _) b30)⟩
end Go.Proofs.YtiondgflpimdmaaDoor
