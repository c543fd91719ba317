/- The walk of the law FnVersions: whatever the bytes, it returns true and writes nothing that was there. -/
import Derived.Test.YtgngnkndebkbmaaDoorVrQ
import Derived.Test.YtgngnkndebkbmaaDoorDrawVX
import Derived.Test.YtgngnkndebkbmaaDoorVLast
import Derived.Test.YtgngnkndebkbmaaDoorVAdd
import Derived.Test.YtgngnkndebkbmaaDoorVFns
import Derived.Test.YtgngnkndebkbmaaDoorVQ
import Derived.Test.YtgngnkndebkbmaaDoorPVW
import Derived.Test.YtgngnkndebkbmaaDoorPVS
import Derived.Test.YtgngnkndebkbmaaDoorOpen
import Derived.Deep.DeepCutAuto
set_option linter.unusedSimpArgs false
set_option linter.unusedVariables false
namespace Go.Proofs.YtgngnkndebkbmaaDoor
open Go.RowKit Go.Sort

set_option maxRecDepth 100000 in
set_option maxHeartbeats 12800000 in
theorem FnVersions_walk (v0 : Value) (code : List Nat) (v1 : Value) (more : List Nat) (w0 : World) (h0 : BytesAt w0 v0 code) (f0 : WfCode code) (h1 : BytesAt w0 v1 more) (f1 : WfCode more) (hPow : Pow10 w0) {mx : Int} (hMax : MaxW w0 mx) :
    Calls Tryd.prog 3 #[v0, v1] w0 (LawPost w0) := by
  obtain ⟨A0, c0, rfl, hn0, hc0⟩ := h0.shape
  obtain ⟨A1, c1, rfl, hn1, hc1⟩ := h1.shape
  by_cases hbig : (1048576 : Int) < wrap64 ((code.length : Int) + (more.length : Int))
  · go_enter Tryd.func3, Tryd.ntmps3
    go_wp2_with fail
    go_ret
    exact ⟨rfl, Below.refl _ _⟩
  · have hbig2 : wrap64 ((code.length : Int) + (more.length : Int)) ≤ (1048576 : Int) := by omega
    clear hbig
    go_enter Tryd.func3, Tryd.ntmps3
    go_wp2_with fail
    clear hbig2
    have C := Lib.hid (drawVersionsText_any _ code w0 h0 f0)
    go_wp2_with fail
    refine C.out.mono ?_; rintro e w1 ⟨u1, l, rfl, o1, b1, hl62⟩
    clear C
    obtain ⟨S, EE, ok, e1, e2, e3, hS, hEE, e4⟩ := vers_ex l
    have E1 := Lib.hid (e1)
    have E2 := Lib.hid (e2)
    have E3 := Lib.hid (e3)
    have F1 := Lib.hid (e4)
    clear e1 e2 e3 e4
    have C := Lib.hid (implVersionsText _ l w1 o1.reads (hPow.below b1 (Nat.le_refl _)))
    rw [E1.out] at C
    go_wp2_with fail
    refine C.out.mono ?_; rintro e w2 ⟨rfl, b2⟩
    clear C
    have C := Lib.hid (specVersionsText _ l w2 (o1.reads.below b2 (Nat.le_refl _)) (hPow.below (b1.next (Nat.le_refl _) b2) (Nat.le_refl _)))
    rw [E1.out] at C
    go_wp2_with fail
    refine C.out.mono ?_; rintro e w3 ⟨rfl, b3⟩
    clear C
    have C := Lib.hid (implLasts _ l w3 (o1.reads.below (b2.next (Nat.le_refl _) b3) (Nat.le_refl _)))
    rw [E2.out] at C
    go_wp2_with fail
    refine C.out.mono ?_; rintro e w4 ⟨u4, rfl, o4, b4⟩
    clear C
    have C := Lib.hid (specLasts _ l w4 (o1.reads.below ((b2.next (Nat.le_refl _) b3).next (Nat.le_refl _) b4) (Nat.le_refl _)))
    rw [E2.out] at C
    go_wp2_with fail
    refine C.out.mono ?_; rintro e w5 ⟨u5, rfl, o5, b5⟩
    clear C
    have C := Lib.hid (drawCommonVersion_any _ more w5 (h1.below ((((b1.next (Nat.le_refl _) b2).next (Nat.le_refl _) b3).next (Nat.le_refl _) b4).next (Nat.le_refl _) b5) (Nat.le_refl _)) f1)
    go_wp2_with fail
    refine C.out.mono ?_; rintro e w6 ⟨u6, a, i_, k_, rfl, o6, b6, ha62, _, _, _, _⟩
    clear C
    obtain ⟨cc, three, e5, e6⟩ := rCommon_ex a i_ k_
    have E5 := Lib.hid (e5)
    have F3 := Lib.hid (e6)
    clear e5 e6
    have C := Lib.hid (implCommonV _ a i_ k_ w6 o6.reads)
    rw [E5.out] at C
    go_wp2_with fail
    refine C.out.mono ?_; rintro e w7 ⟨rfl, b7⟩
    clear C
    have C := Lib.hid (specCommonV _ a i_ k_ w7 (o6.reads.below b7 (Nat.le_refl _)))
    rw [E5.out] at C
    go_wp2_with fail
    refine C.out.mono ?_; rintro e w8 ⟨rfl, b8⟩
    clear C
    have C := Lib.hid (drawWayTo_any _ more w8 (h1.below (((((((b1.next (Nat.le_refl _) b2).next (Nat.le_refl _) b3).next (Nat.le_refl _) b4).next (Nat.le_refl _) b5).next (Nat.le_refl _) b6).next (Nat.le_refl _) b7).next (Nat.le_refl _) b8) (Nat.le_refl _)) f1)
    go_wp2_with fail
    refine C.out.mono ?_; rintro e w9 ⟨u9, bv, n_, _, rfl, o9, b9, hb62, _, _, _, _⟩
    clear C
    obtain ⟨Wy, five, e7, hWy, e8⟩ := rWay_ex bv n_
    have E7 := Lib.hid (e7)
    have F5 := Lib.hid (e8)
    clear e7 e8
    have C := Lib.hid (implWayTo _ bv n_ w9 o9.reads)
    rw [E7.out] at C
    go_wp2_with fail
    refine C.out.mono ?_; rintro e w10 ⟨u10, rfl, o10, b10⟩
    clear C
    have C := Lib.hid (specWayTo _ bv n_ w10 (o9.reads.below b10 (Nat.le_refl _)))
    rw [E7.out] at C
    go_wp2_with fail
    refine C.out.mono ?_; rintro e w11 ⟨u11, rfl, o11, b11⟩
    clear C
    have C := Lib.hid (drawAddVersion_any _ more w11 (h1.below ((((((((((b1.next (Nat.le_refl _) b2).next (Nat.le_refl _) b3).next (Nat.le_refl _) b4).next (Nat.le_refl _) b5).next (Nat.le_refl _) b6).next (Nat.le_refl _) b7).next (Nat.le_refl _) b8).next (Nat.le_refl _) b9).next (Nat.le_refl _) b10).next (Nat.le_refl _) b11) (Nat.le_refl _)) f1)
    go_wp2_with fail
    refine C.out.mono ?_; rintro e w12 ⟨u12, ul, p_, q_, x_, rfl, o12, b12, hu62⟩
    clear C
    have zx : BoxV (w12.alloc (.cells #[.int .i64 p_, .int .i64 q_, .int .i64 x_] 38)) w12.heap.size p_ q_ x_ := BoxV.new w12 p_ q_ x_
    have b13 : Below w12.heap.size w12 (w12.alloc (.cells #[.int .i64 p_, .int .i64 q_, .int .i64 x_] 38)) := (Below.refl _ w12).alloc (Nat.le_refl _) (.cells #[.int .i64 p_, .int .i64 q_, .int .i64 x_] 38)
    obtain ⟨w13, hw13⟩ : ∃ W, W = (w12.alloc (.cells #[.int .i64 p_, .int .i64 q_, .int .i64 x_] 38)) := ⟨_, rfl⟩
    obtain ⟨B, hB⟩ : ∃ X, X = w12.heap.size := ⟨_, rfl⟩
    rw [← hw13] at zx b13
    rw [← hB] at zx
    have HW13 := Lib.hid (hw13)
    have HB := Lib.hid (hB)
    clear hw13 hB
    go_upto_region 15 with fail
    rw [← HW13.out, ← HB.out]
    obtain ⟨V, seven, e9, hV60, e10⟩ := rAdd_ex ul ⟨p_, q_, x_⟩
    have E9 := Lib.hid (e9)
    have F7 := Lib.hid (e10)
    clear e9 e10
    obtain ⟨c0, c1, c2, _, _⟩ := zx.cells
    have C := Lib.hid (implAdd _ ul p_ q_ x_ w13 (o12.reads.below b13 (Nat.le_refl _)) (by omega))
    rw [E9.out] at C
    go_wp2_with fail
    refine C.out.mono ?_; rintro e w14 ⟨u14, rfl, o14, b14⟩
    clear C
    clear c0 c1 c2
    obtain ⟨c0, c1, c2, _, _⟩ := (zx.keep9 b14 (Nat.le_refl _)).cells
    have C := Lib.hid (specAdd _ ul p_ q_ x_ w14 (o12.reads.below (b13.next (Nat.le_refl _) b14) (Nat.le_refl _)) (by omega))
    rw [E9.out] at C
    go_wp2_with fail
    refine C.out.mono ?_; rintro e w15 ⟨u15, rfl, o15, b15⟩
    clear C
    clear c0 c1 c2
    have C := Lib.hid (drawParseVersions_any _ more w15 (h1.below ((((((((((((((b1.next (Nat.le_refl _) b2).next (Nat.le_refl _) b3).next (Nat.le_refl _) b4).next (Nat.le_refl _) b5).next (Nat.le_refl _) b6).next (Nat.le_refl _) b7).next (Nat.le_refl _) b8).next (Nat.le_refl _) b9).next (Nat.le_refl _) b10).next (Nat.le_refl _) b11).next (Nat.le_refl _) b12).next (Nat.le_refl _) b13).next (Nat.le_refl _) b14).next (Nat.le_refl _) b15) (Nat.le_refl _)) f1)
    go_wp2_with fail
    refine C.out.mono ?_; rintro e w16 ⟨tt, rfl, htt, b16⟩
    clear C
    obtain ⟨P, nine, e11, hP⟩ := rPVs_ex tt
    have E11 := Lib.hid (e11)
    clear e11
    have C := Lib.hid (implParseVersions tt mx w16 (hMax.below (((((((((((((((b1.next (Nat.le_refl _) b2).next (Nat.le_refl _) b3).next (Nat.le_refl _) b4).next (Nat.le_refl _) b5).next (Nat.le_refl _) b6).next (Nat.le_refl _) b7).next (Nat.le_refl _) b8).next (Nat.le_refl _) b9).next (Nat.le_refl _) b10).next (Nat.le_refl _) b11).next (Nat.le_refl _) b12).next (Nat.le_refl _) b13).next (Nat.le_refl _) b14).next (Nat.le_refl _) b15).next (Nat.le_refl _) b16) (Nat.le_refl _)) (by omega))
    rw [E11.out] at C
    go_wp2_with fail
    refine C.out.mono ?_; rintro e w17 ⟨u17, rfl, o17, b17⟩
    clear C
    have C := Lib.hid (specParseVersions tt mx w17 (hMax.below ((((((((((((((((b1.next (Nat.le_refl _) b2).next (Nat.le_refl _) b3).next (Nat.le_refl _) b4).next (Nat.le_refl _) b5).next (Nat.le_refl _) b6).next (Nat.le_refl _) b7).next (Nat.le_refl _) b8).next (Nat.le_refl _) b9).next (Nat.le_refl _) b10).next (Nat.le_refl _) b11).next (Nat.le_refl _) b12).next (Nat.le_refl _) b13).next (Nat.le_refl _) b14).next (Nat.le_refl _) b15).next (Nat.le_refl _) b16).next (Nat.le_refl _) b17) (Nat.le_refl _)) (by omega))
    rw [E11.out] at C
    go_wp2_with fail
    refine C.out.mono ?_; rintro e w18 ⟨u18, rfl, o18, b18⟩
    clear C
    have C := Lib.hid (qInts_yes _ _ EE w18 (o4.reads.below (((((((((((((b5.next (Nat.le_refl _) b6).next (Nat.le_refl _) b7).next (Nat.le_refl _) b8).next (Nat.le_refl _) b9).next (Nat.le_refl _) b10).next (Nat.le_refl _) b11).next (Nat.le_refl _) b12).next (Nat.le_refl _) b13).next (Nat.le_refl _) b14).next (Nat.le_refl _) b15).next (Nat.le_refl _) b16).next (Nat.le_refl _) b17).next (Nat.le_refl _) b18) (Nat.le_refl _)) (o5.reads.below ((((((((((((b6.next (Nat.le_refl _) b7).next (Nat.le_refl _) b8).next (Nat.le_refl _) b9).next (Nat.le_refl _) b10).next (Nat.le_refl _) b11).next (Nat.le_refl _) b12).next (Nat.le_refl _) b13).next (Nat.le_refl _) b14).next (Nat.le_refl _) b15).next (Nat.le_refl _) b16).next (Nat.le_refl _) b17).next (Nat.le_refl _) b18) (Nat.le_refl _)))
    go_wp2_with fail
    refine C.out.mono ?_; rintro e w19 ⟨rfl, b19⟩
    clear C
    have C := Lib.hid (qInts_yes _ _ Wy w19 (o10.reads.below ((((((((b11.next (Nat.le_refl _) b12).next (Nat.le_refl _) b13).next (Nat.le_refl _) b14).next (Nat.le_refl _) b15).next (Nat.le_refl _) b16).next (Nat.le_refl _) b17).next (Nat.le_refl _) b18).next (Nat.le_refl _) b19) (Nat.le_refl _)) (o11.reads.below (((((((b12.next (Nat.le_refl _) b13).next (Nat.le_refl _) b14).next (Nat.le_refl _) b15).next (Nat.le_refl _) b16).next (Nat.le_refl _) b17).next (Nat.le_refl _) b18).next (Nat.le_refl _) b19) (Nat.le_refl _)))
    go_wp2_with fail
    refine C.out.mono ?_; rintro e w20 ⟨rfl, b20⟩
    clear C
    have C := Lib.hid (qVersions_yes _ _ V w20 (o14.reads.below (((((b15.next (Nat.le_refl _) b16).next (Nat.le_refl _) b17).next (Nat.le_refl _) b18).next (Nat.le_refl _) b19).next (Nat.le_refl _) b20) (Nat.le_refl _)) (o15.reads.below ((((b16.next (Nat.le_refl _) b17).next (Nat.le_refl _) b18).next (Nat.le_refl _) b19).next (Nat.le_refl _) b20) (Nat.le_refl _)))
    go_wp2_with fail
    refine C.out.mono ?_; rintro e w21 ⟨rfl, b21⟩
    clear C
    have C := Lib.hid (qVersions_yes _ _ P w21 (o17.reads.below (((b18.next (Nat.le_refl _) b19).next (Nat.le_refl _) b20).next (Nat.le_refl _) b21) (Nat.le_refl _)) (o18.reads.below ((b19.next (Nat.le_refl _) b20).next (Nat.le_refl _) b21) (Nat.le_refl _)))
    go_wp2_with fail
    refine C.out.mono ?_; rintro e w22 ⟨rfl, b22⟩
    clear C
    have C := Lib.hid (areVersions_any _ l w22 (o1.reads.below ((((((((((((((((((((b2.next (Nat.le_refl _) b3).next (Nat.le_refl _) b4).next (Nat.le_refl _) b5).next (Nat.le_refl _) b6).next (Nat.le_refl _) b7).next (Nat.le_refl _) b8).next (Nat.le_refl _) b9).next (Nat.le_refl _) b10).next (Nat.le_refl _) b11).next (Nat.le_refl _) b12).next (Nat.le_refl _) b13).next (Nat.le_refl _) b14).next (Nat.le_refl _) b15).next (Nat.le_refl _) b16).next (Nat.le_refl _) b17).next (Nat.le_refl _) b18).next (Nat.le_refl _) b19).next (Nat.le_refl _) b20).next (Nat.le_refl _) b21).next (Nat.le_refl _) b22) (Nat.le_refl _)))
    rw [E3.out] at C
    go_wp2_with fail
    refine C.out.mono ?_; rintro e w23 ⟨rfl, b23⟩
    clear C
    go_upto_if 226 with fail
    go_cut [] from 38 to 265 (fun wx => Below w23.heap.size w23 wx)
    case first =>
      as_aux_lemma =>
        cases five
        case false =>
          go_wp2_with fail
          go_meet
          exact (Below.refl w23.heap.size w23)
        case true =>
          have o11w : OwnInts w11 w10.heap.size u11 Wy := o11
          have o9w : VersAt w9 u9 bv := o9.reads
          obtain ⟨AW, cW, hvW, hnW, hcW⟩ := o11w.reads.shape
          subst hvW
          obtain ⟨AB, cB, hvB, hnB, hcB⟩ := o9w.shape
          subst hvB
          have rW := Lib.hid (((o11w.reads.below (((((((((((b12.next (Nat.le_refl _) b13).next (Nat.le_refl _) b14).next (Nat.le_refl _) b15).next (Nat.le_refl _) b16).next (Nat.le_refl _) b17).next (Nat.le_refl _) b18).next (Nat.le_refl _) b19).next (Nat.le_refl _) b20).next (Nat.le_refl _) b21).next (Nat.le_refl _) b22).next (Nat.le_refl _) b23) (Nat.le_refl _)) : IntsAt _ _ Wy))
          have rB := Lib.hid (((o9w.below (((((((((((((b10.next (Nat.le_refl _) b11).next (Nat.le_refl _) b12).next (Nat.le_refl _) b13).next (Nat.le_refl _) b14).next (Nat.le_refl _) b15).next (Nat.le_refl _) b16).next (Nat.le_refl _) b17).next (Nat.le_refl _) b18).next (Nat.le_refl _) b19).next (Nat.le_refl _) b20).next (Nat.le_refl _) b21).next (Nat.le_refl _) b22).next (Nat.le_refl _) b23) (Nat.le_refl _)) : VersAt _ _ bv))
          obtain ⟨⟨q1, q2, q3, q4⟩, q5, q6, q7, q8⟩ := F5.out rfl
          have H4 := Lib.hid (q4)
          have H5 := Lib.hid (q5)
          clear q4 q5 q6 q7 q8 o11w o9w
          try clear h0
          try clear h1
          try clear f0
          try clear f1
          try clear o1
          try clear o4
          try clear o5
          try clear o6
          try clear o9
          try clear o10
          try clear o11
          try clear o12
          try clear o14
          try clear o15
          try clear o17
          try clear o18
          try clear zx
          try clear E1
          try clear E2
          try clear E3
          try clear E5
          try clear E7
          try clear E9
          try clear E11
          try clear F1
          try clear F3
          try clear F5
          try clear F7
          try clear HB
          try clear hS
          try clear hEE
          try clear hl62
          try clear ha62
          try clear hb62
          try clear hWy
          try clear hu62
          try clear hV60
          try clear htt
          try clear hP
          try clear hPow
          try clear hMax
          try clear b1
          try clear b2
          try clear b3
          try clear b4
          try clear b5
          try clear b6
          try clear b7
          try clear b8
          try clear b9
          try clear b10
          try clear b11
          try clear b12
          try clear b13
          try clear b14
          try clear b15
          try clear b16
          try clear b17
          try clear b18
          try clear b19
          try clear b20
          try clear b21
          try clear b22
          try clear b23
          try clear HW1
          try clear HW2
          try clear HW3
          try clear HW4
          try clear HW5
          try clear HW6
          try clear HW7
          try clear HW8
          try clear HW9
          try clear HW10
          try clear HW11
          try clear HW12
          try clear HW13
          try clear HW14
          try clear HW15
          try clear HW16
          try clear HW17
          try clear HW18
          try clear HW19
          try clear HW20
          try clear HW21
          try clear HW22
          try clear HW23
          obtain ⟨m, hm⟩ : ∃ m, Wy.length = m + 1 := ⟨Wy.length - 1, by omega⟩
          obtain ⟨bw, ow, hA, hca⟩ := IntsAt.at_ rW.out 0 (by omega)
          subst hA
          rw [q2] at hca
          have hc00 : w23.cell? ⟨bw, ow, none⟩ = some (.int .i64 0) := by simpa using hca
          obtain ⟨bw', ow', hA', hcm⟩ := IntsAt.at_ rW.out m (by omega)
          injection hA' with hA'; injection hA' with e91 e92; subst e91 e92
          rw [show Wy.length - 1 = m by omega] at q3
          rw [q3] at hcm
          have e20 : ((Wy.length : Int) == 0) = false := by rw [beq_eq_false_iff_ne]; omega
          have e21 : (Wy.length : Int) - 1 = (m : Int) := by omega
          have e23 : IntKind.i64.wrap (m : Int) = (m : Int) := IntWalk.i64_in _ (by omega)
          have e24 : (0 : Int) < (Wy.length : Int) := by omega
          have e25 : (m : Int) < (Wy.length : Int) := by omega
          have Hm := Lib.hid hm
          clear hm q2 q3 hca
          go_wp2_with fail
          clear hc00 hcm e20 e21 e23 e24 e25
          go_loopw [38] (fun s wr => ∃ j : Nat, 1 ≤ j ∧ j ≤ Wy.length ∧ s = .int .i64 j ∧ Below w23.heap.size w23 wr) (fun s _ => Wy.length - (intOf s).toNat)
          case atStart => exact ⟨1, Nat.le_refl _, q1, rfl, Below.refl _ _⟩
          case round =>
            obtain ⟨j, hj1, hj, rfl, hb⟩ := hrel
            by_cases hlt : j < Wy.length
            · obtain ⟨i, hi⟩ : ∃ i, i = j - 1 := ⟨_, rfl⟩
              have hin := H5.out j hlt
              have hpar := H4.out j hj1 hlt
              rw [← hi] at hpar
              obtain ⟨bw1, ow1, hA1, hcj⟩ := IntsAt.at_ (rW.out.below hb (Nat.le_refl _)) j hlt
              injection hA1 with hA1; injection hA1 with e91 e92; subst e91 e92
              obtain ⟨bw2, ow2, hA2, hci⟩ := IntsAt.at_ (rW.out.below hb (Nat.le_refl _)) i (by omega)
              injection hA2 with hA2; injection hA2 with e91 e92; subst e91 e92
              obtain ⟨y, hy⟩ := Int.eq_ofNat_of_zero_le hin.1
              have hyl : y < bv.length := by omega
              rw [hy] at hcj hpar
              obtain ⟨bb, ob, hA3, hcy, _, _⟩ := VersAt.at_ (rB.out.below hb (Nat.le_refl _)) y hyl
              subst hA3
              unfold par at hpar
              rw [Int.toNat_natCast] at hpar
              rw [hpar] at hcy
              have e30 : (j : Int) - 1 = (i : Int) := by omega
              have e31 : IntKind.i64.wrap (i : Int) = (i : Int) := IntWalk.i64_in _ (by omega)
              have e32 : (0 : Int) ≤ (y : Int) := by omega
              have e33 : (y : Int) < (bv.length : Int) := by omega
              have e34 : (0 : Int) ≤ (i : Int) := by omega
              have e35 : (i : Int) < (Wy.length : Int) := by omega
              have e36 : (j : Int) < (Wy.length : Int) := by omega
              have e37 : IntKind.i64.wrap ((j : Int) - 1) = (i : Int) := by rw [e30, e31]
              clear hin hpar hi hy
              go_wp2_with fail
              go_region
              clear e30 e31 e37
              go_wp2_with fail
              go_roundw
              case rel => exact ⟨j + 1, by omega, by omega, by go_num, hb.drew⟩
              case measure => simp [intOf]; omega
            · obtain rfl : j = Wy.length := by omega
              go_wp2_with fail
              go_meet
              exact hb
    case rest =>
      skip
      obtain ⟨w24, hw24⟩ : ∃ w9 : World, w9 = wc := ⟨_, rfl⟩
      subst hw24
      have b24 := hcut
      clear hcut
      go_upto_if 266 with fail
      go_cut [] from 39 to 343 (fun wx => Below w24.heap.size w24 wx)
      case first =>
        as_aux_lemma =>
          cases three
          case false =>
            go_wp2_with fail
            go_meet
            exact (Below.refl w24.heap.size w24)
          case true =>
            obtain ⟨X, Y, ex, ey, hx60, hy60, hxc, hyc, hno⟩ := F3.out rfl
            have EX := Lib.hid (ex)
            have EY := Lib.hid (ey)
            have HXC := Lib.hid (hxc)
            have HYC := Lib.hid (hyc)
            have HNO := Lib.hid (hno)
            clear ex ey hxc hyc hno
            have C := Lib.hid (implWayTo _ a i_ w24 (o6.reads.below (((((((((((((((((b7.next (Nat.le_refl _) b8).next (Nat.le_refl _) b9).next (Nat.le_refl _) b10).next (Nat.le_refl _) b11).next (Nat.le_refl _) b12).next (Nat.le_refl _) b13).next (Nat.le_refl _) b14).next (Nat.le_refl _) b15).next (Nat.le_refl _) b16).next (Nat.le_refl _) b17).next (Nat.le_refl _) b18).next (Nat.le_refl _) b19).next (Nat.le_refl _) b20).next (Nat.le_refl _) b21).next (Nat.le_refl _) b22).next (Nat.le_refl _) b23).next (Nat.le_refl _) b24) (Nat.le_refl _)))
            rw [EX.out] at C
            go_wp2_with fail
            refine C.out.mono ?_; rintro e w25 ⟨u31, rfl, o31, b25⟩
            clear C
            have C := Lib.hid (implWayTo _ a k_ w25 (o6.reads.below ((((((((((((((((((b7.next (Nat.le_refl _) b8).next (Nat.le_refl _) b9).next (Nat.le_refl _) b10).next (Nat.le_refl _) b11).next (Nat.le_refl _) b12).next (Nat.le_refl _) b13).next (Nat.le_refl _) b14).next (Nat.le_refl _) b15).next (Nat.le_refl _) b16).next (Nat.le_refl _) b17).next (Nat.le_refl _) b18).next (Nat.le_refl _) b19).next (Nat.le_refl _) b20).next (Nat.le_refl _) b21).next (Nat.le_refl _) b22).next (Nat.le_refl _) b23).next (Nat.le_refl _) b24).next (Nat.le_refl _) b25) (Nat.le_refl _)))
            rw [EY.out] at C
            go_wp2_with fail
            refine C.out.mono ?_; rintro e w26 ⟨u32, rfl, o32, b26⟩
            clear C
            have C := Lib.hid (specWayTo _ a i_ w26 (o6.reads.below (((((((((((((((((((b7.next (Nat.le_refl _) b8).next (Nat.le_refl _) b9).next (Nat.le_refl _) b10).next (Nat.le_refl _) b11).next (Nat.le_refl _) b12).next (Nat.le_refl _) b13).next (Nat.le_refl _) b14).next (Nat.le_refl _) b15).next (Nat.le_refl _) b16).next (Nat.le_refl _) b17).next (Nat.le_refl _) b18).next (Nat.le_refl _) b19).next (Nat.le_refl _) b20).next (Nat.le_refl _) b21).next (Nat.le_refl _) b22).next (Nat.le_refl _) b23).next (Nat.le_refl _) b24).next (Nat.le_refl _) b25).next (Nat.le_refl _) b26) (Nat.le_refl _)))
            rw [EX.out] at C
            go_wp2_with fail
            refine C.out.mono ?_; rintro e w27 ⟨u33, rfl, o33, b27⟩
            clear C
            have C := Lib.hid (specWayTo _ a k_ w27 (o6.reads.below ((((((((((((((((((((b7.next (Nat.le_refl _) b8).next (Nat.le_refl _) b9).next (Nat.le_refl _) b10).next (Nat.le_refl _) b11).next (Nat.le_refl _) b12).next (Nat.le_refl _) b13).next (Nat.le_refl _) b14).next (Nat.le_refl _) b15).next (Nat.le_refl _) b16).next (Nat.le_refl _) b17).next (Nat.le_refl _) b18).next (Nat.le_refl _) b19).next (Nat.le_refl _) b20).next (Nat.le_refl _) b21).next (Nat.le_refl _) b22).next (Nat.le_refl _) b23).next (Nat.le_refl _) b24).next (Nat.le_refl _) b25).next (Nat.le_refl _) b26).next (Nat.le_refl _) b27) (Nat.le_refl _)))
            rw [EY.out] at C
            go_wp2_with fail
            refine C.out.mono ?_; rintro e w28 ⟨u34, rfl, o34, b28⟩
            clear C
            have C := Lib.hid (qInts_yes _ _ X w28 (o31.reads.below ((b26.next (Nat.le_refl _) b27).next (Nat.le_refl _) b28) (Nat.le_refl _)) (o33.reads.below b28 (Nat.le_refl _)))
            go_wp2_with fail
            refine C.out.mono ?_; rintro e w29 ⟨rfl, b29⟩
            clear C
            have C := Lib.hid (qInts_yes _ _ Y w29 (o32.reads.below ((b27.next (Nat.le_refl _) b28).next (Nat.le_refl _) b29) (Nat.le_refl _)) (o34.reads.below b29 (Nat.le_refl _)))
            go_wp2_with fail
            refine C.out.mono ?_; rintro e w30 ⟨rfl, b30⟩
            clear C
            have C := Lib.hid (qHas_any _ X cc w30 (o33.reads.below ((b28.next (Nat.le_refl _) b29).next (Nat.le_refl _) b30) (Nat.le_refl _)))
            rw [HXC.out] at C
            go_wp2_with fail
            refine C.out.mono ?_; rintro e _ ⟨rfl, rfl⟩
            clear C
            have C := Lib.hid (qHas_any _ Y cc w30 (o34.reads.below (b29.next (Nat.le_refl _) b30) (Nat.le_refl _)))
            rw [HYC.out] at C
            go_wp2_with fail
            refine C.out.mono ?_; rintro e _ ⟨rfl, rfl⟩
            clear C
            have o33w : IntsAt w27 u33 X := o33.reads
            have o34w : IntsAt w28 u34 Y := o34.reads
            obtain ⟨AX, cX, hvX, hnX, hcX⟩ := o33w.shape
            subst hvX
            obtain ⟨AY, cY, hvY, hnY, hcY⟩ := o34w.shape
            subst hvY
            have rX := Lib.hid (((o33w.below ((b28.next (Nat.le_refl _) b29).next (Nat.le_refl _) b30) (Nat.le_refl _)) : IntsAt _ _ X))
            have rY := Lib.hid (((o34w.below (b29.next (Nat.le_refl _) b30) (Nat.le_refl _)) : IntsAt _ _ Y))
            have hZ := Lib.hid ((((((b25.next (Nat.le_refl _) b26).next (Nat.le_refl _) b27).next (Nat.le_refl _) b28).next (Nat.le_refl _) b29).next (Nat.le_refl _) b30))
            clear o33w o34w o31 o32 o33 o34
            try clear h0
            try clear h1
            try clear f0
            try clear f1
            try clear o1
            try clear o4
            try clear o5
            try clear o6
            try clear o9
            try clear o10
            try clear o11
            try clear o12
            try clear o14
            try clear o15
            try clear o17
            try clear o18
            try clear zx
            try clear E1
            try clear E2
            try clear E3
            try clear E5
            try clear E7
            try clear E9
            try clear E11
            try clear F1
            try clear F3
            try clear F5
            try clear F7
            try clear HB
            try clear hS
            try clear hEE
            try clear hl62
            try clear ha62
            try clear hb62
            try clear hWy
            try clear hu62
            try clear hV60
            try clear htt
            try clear hP
            try clear hPow
            try clear hMax
            try clear b1
            try clear b2
            try clear b3
            try clear b4
            try clear b5
            try clear b6
            try clear b7
            try clear b8
            try clear b9
            try clear b10
            try clear b11
            try clear b12
            try clear b13
            try clear b14
            try clear b15
            try clear b16
            try clear b17
            try clear b18
            try clear b19
            try clear b20
            try clear b21
            try clear b22
            try clear b23
            try clear b24
            try clear b25
            try clear b26
            try clear b27
            try clear b28
            try clear b29
            try clear b30
            try clear HW1
            try clear HW2
            try clear HW3
            try clear HW4
            try clear HW5
            try clear HW6
            try clear HW7
            try clear HW8
            try clear HW9
            try clear HW10
            try clear HW11
            try clear HW12
            try clear HW13
            try clear HW14
            try clear HW15
            try clear HW16
            try clear HW17
            try clear HW18
            try clear HW19
            try clear HW20
            try clear HW21
            try clear HW22
            try clear HW23
            try clear HW24
            try clear HW25
            try clear HW26
            try clear HW27
            try clear HW28
            try clear HW29
            try clear HW30
            go_wp2_with fail
            go_loopw [331] (fun s wr => ∃ j : Nat, j ≤ X.length ∧ s = .int .i64 j ∧ Below w30.heap.size w30 wr) (fun s _ => X.length - (intOf s).toNat)
            case atStart => exact ⟨0, Nat.zero_le _, rfl, Below.refl _ _⟩
            case round =>
              obtain ⟨j, hj, rfl, hb⟩ := hrel
              by_cases hlt : j < X.length
              · obtain ⟨b9, o9_, hh9, hcj⟩ := IntsAt.at_ (rX.out.below hb (Nat.le_refl _)) j hlt
                subst hh9
                by_cases hgt : cc < gi X j
                · have C := Lib.hid (qHas_any _ Y (gi X j) wr (rY.out.below hb (Nat.le_refl _)))
                  rw [HNO.out j hlt hgt] at C
                  go_wp2_with fail
                  refine C.out.mono ?_; rintro e _ ⟨rfl, rfl⟩
                  clear C
                  go_wp2_with fail
                  go_roundw
                  case rel => exact ⟨j + 1, by omega, by go_num, hb⟩
                  case measure => simp [intOf]; omega
                · have hgt2 : gi X j ≤ cc := by omega
                  clear hgt
                  go_wp2_with fail
                  go_roundw
                  case rel => exact ⟨j + 1, by omega, by go_num, hb⟩
                  case measure => simp [intOf]; omega
              · obtain rfl : j = X.length := by omega
                go_wp2_with fail
                go_meet
                exact hZ.out.next (Nat.le_refl _) hb
      case rest =>
        skip
        obtain ⟨w25, hw25⟩ : ∃ w9 : World, w9 = wc := ⟨_, rfl⟩
        subst hw25
        have b25 := hcut
        clear hcut
        go_upto_if 344 with fail
        go_cut [] from 49 to 389 (fun wx => Below w25.heap.size w25 wx)
        case first =>
          as_aux_lemma =>
            cases seven
            case false =>
              go_wp2_with fail
              go_meet
              exact (Below.refl w25.heap.size w25)
            case true =>
              obtain ⟨S8, es, hs8, hk0, hk7, hkx, htk, hvl⟩ := F7.out rfl
              have hk0 : 0 ≤ q_ := hk0
              have hk7 : q_ ≤ 7 := hk7
              have hkx : gi S8 q_.toNat = x_ := hkx
              obtain ⟨K, rfl⟩ := Int.eq_ofNat_of_zero_le hk0
              rw [Int.toNat_natCast] at hkx
              have ES := Lib.hid (es)
              have HKX := Lib.hid (hkx)
              have HTK := Lib.hid (htk)
              have HVL := Lib.hid (hvl)
              have HS8 := Lib.hid (hs8)
              clear es hkx htk hvl hs8
              have o12w : VersAt w12 u12 ul := o12.reads
              obtain ⟨AU, cU, hvU, hnU, hcU⟩ := o12w.shape
              subst hvU
              have C := Lib.hid (implStateAt _ V (ul.length : Int) w25 (o14.reads.below ((((((((((b15.next (Nat.le_refl _) b16).next (Nat.le_refl _) b17).next (Nat.le_refl _) b18).next (Nat.le_refl _) b19).next (Nat.le_refl _) b20).next (Nat.le_refl _) b21).next (Nat.le_refl _) b22).next (Nat.le_refl _) b23).next (Nat.le_refl _) b24).next (Nat.le_refl _) b25) (Nat.le_refl _)))
              rw [ES.out] at C
              go_wp2_with fail
              refine C.out.mono ?_; rintro e w26 ⟨u41, rfl, o41, b26⟩
              clear C
              have C := Lib.hid (specStateAt _ V (ul.length : Int) w26 (o15.reads.below ((((((((((b16.next (Nat.le_refl _) b17).next (Nat.le_refl _) b18).next (Nat.le_refl _) b19).next (Nat.le_refl _) b20).next (Nat.le_refl _) b21).next (Nat.le_refl _) b22).next (Nat.le_refl _) b23).next (Nat.le_refl _) b24).next (Nat.le_refl _) b25).next (Nat.le_refl _) b26) (Nat.le_refl _)))
              rw [ES.out] at C
              go_wp2_with fail
              refine C.out.mono ?_; rintro e w27 ⟨u42, rfl, o42, b27⟩
              clear C
              have o15w : VersAt w15 u15 V := o15.reads
              have o42w : IntsAt w27 u42 S8 := o42.reads
              obtain ⟨AV, cV, hvV, hnV, hcV⟩ := o15w.shape
              subst hvV
              obtain ⟨AS, cS, hvS, hnS, hcS⟩ := o42w.shape
              subst hvS
              have cI := Lib.hid (fun (d : Nat) (os : Array Obj) => rg_below (w := w27) (d := d) (os := os) (qInts_yes _ _ S8 _ ((o41.reads.below b27 (Nat.le_refl _)).below (below_regrown w27 d os) (Nat.le_refl _)) (o42w.below (below_regrown w27 d os) (Nat.le_refl _))))
              have hcutV : RowAt verRec w27 (.slice AV ul.length cV) (V.take ul.length) := RowAt.take (R := verRec) ((o15w.below (((((((((((b16.next (Nat.le_refl _) b17).next (Nat.le_refl _) b18).next (Nat.le_refl _) b19).next (Nat.le_refl _) b20).next (Nat.le_refl _) b21).next (Nat.le_refl _) b22).next (Nat.le_refl _) b23).next (Nat.le_refl _) b24).next (Nat.le_refl _) b25).next (Nat.le_refl _) b26).next (Nat.le_refl _) b27) (Nat.le_refl _))) ul.length (by rw [HVL.out]; omega)
              rw [HTK.out] at hcutV
              have cQ := Lib.hid (fun (d : Nat) (os : Array Obj) => rg_below (w := w27) (d := d) (os := os) (qVersions_yes _ _ ul _ ((versOf hcutV).below (below_regrown w27 d os) (Nat.le_refl _)) ((o12w.below ((((((((((((((b13.next (Nat.le_refl _) b14).next (Nat.le_refl _) b15).next (Nat.le_refl _) b16).next (Nat.le_refl _) b17).next (Nat.le_refl _) b18).next (Nat.le_refl _) b19).next (Nat.le_refl _) b20).next (Nat.le_refl _) b21).next (Nat.le_refl _) b22).next (Nat.le_refl _) b23).next (Nat.le_refl _) b24).next (Nat.le_refl _) b25).next (Nat.le_refl _) b26).next (Nat.le_refl _) b27) (Nat.le_refl _)).below (below_regrown w27 d os) (Nat.le_refl _))))
              obtain ⟨c0, c1, c2, _, _⟩ := (zx.keep9 (((((((((((((b14.next (Nat.le_refl _) b15).next (Nat.le_refl _) b16).next (Nat.le_refl _) b17).next (Nat.le_refl _) b18).next (Nat.le_refl _) b19).next (Nat.le_refl _) b20).next (Nat.le_refl _) b21).next (Nat.le_refl _) b22).next (Nat.le_refl _) b23).next (Nat.le_refl _) b24).next (Nat.le_refl _) b25).next (Nat.le_refl _) b26).next (Nat.le_refl _) b27) (Nat.le_refl _)).cells
              obtain ⟨bs, os_, hA, hck⟩ := IntsAt.at_ o42w K (by rw [HS8.out]; omega)
              subst hA
              rw [HKX.out] at hck
              have k0 := cell_regrown c0
              have k1 := cell_regrown c1
              have k2 := cell_regrown c2
              have k3 := cell_regrown hck
              have hZ := Lib.hid ((b26.next (Nat.le_refl _) b27))
              have e51 : (ul.length : Int) ≤ (cV : Int) := by have := HVL.out; omega
              have e52 : (0 : Int) ≤ (K : Int) := by omega
              have e53 : (K : Int) < (S8.length : Int) := by rw [HS8.out]; omega
              have e54 : (ul.length : Int) ≤ (V.length : Int) := by have := HVL.out; omega
              clear c0 c1 c2 hck hcutV o15w o12w o42w o41 o42
              try clear h0
              try clear h1
              try clear f0
              try clear f1
              try clear o1
              try clear o4
              try clear o5
              try clear o6
              try clear o9
              try clear o10
              try clear o11
              try clear o12
              try clear o14
              try clear o15
              try clear o17
              try clear o18
              try clear zx
              try clear E1
              try clear E2
              try clear E3
              try clear E5
              try clear E7
              try clear E9
              try clear E11
              try clear F1
              try clear F3
              try clear F5
              try clear F7
              try clear HB
              try clear hS
              try clear hEE
              try clear hl62
              try clear ha62
              try clear hb62
              try clear hWy
              try clear hu62
              try clear hV60
              try clear htt
              try clear hP
              try clear hPow
              try clear hMax
              try clear b1
              try clear b2
              try clear b3
              try clear b4
              try clear b5
              try clear b6
              try clear b7
              try clear b8
              try clear b9
              try clear b10
              try clear b11
              try clear b12
              try clear b13
              try clear b14
              try clear b15
              try clear b16
              try clear b17
              try clear b18
              try clear b19
              try clear b20
              try clear b21
              try clear b22
              try clear b23
              try clear b24
              try clear b25
              try clear b26
              try clear b27
              try clear HW1
              try clear HW2
              try clear HW3
              try clear HW4
              try clear HW5
              try clear HW6
              try clear HW7
              try clear HW8
              try clear HW9
              try clear HW10
              try clear HW11
              try clear HW12
              try clear HW13
              try clear HW14
              try clear HW15
              try clear HW16
              try clear HW17
              try clear HW18
              try clear HW19
              try clear HW20
              try clear HW21
              try clear HW22
              try clear HW23
              try clear HW24
              try clear HW25
              try clear HW26
              try clear HW27
              go_upto_region 46 with fail
              have cI2 := cI.out
              have cQ2 := cQ.out
              clear cI cQ
              (refine wp_region_quiet_below (by kernel_rfl) (by kernel_rfl) ?_; (repeat (go_big_quiet_step (first | with_reducible exact cI2 _ _ | with_reducible exact cQ2 _ _))); refine wpQuiet_nil ?_; intro _ hw'; obtain ⟨⟨dq, osq⟩, hw''⟩ := hw'; subst hw'')
              go_wp2_with fail
              go_meet
              exact RG.below hZ.out hZ.out.size dq osq
        case rest =>
          skip
          obtain ⟨w26, hw26⟩ : ∃ w9 : World, w9 = wc := ⟨_, rfl⟩
          subst hw26
          have b26 := hcut
          clear hcut
          cases ok
          case false =>
            go_wp2_with fail
            go_ret
            exact ⟨rfl, (((((((((((((((((((((((((b1.next (Nat.le_refl _) b2).next (Nat.le_refl _) b3).next (Nat.le_refl _) b4).next (Nat.le_refl _) b5).next (Nat.le_refl _) b6).next (Nat.le_refl _) b7).next (Nat.le_refl _) b8).next (Nat.le_refl _) b9).next (Nat.le_refl _) b10).next (Nat.le_refl _) b11).next (Nat.le_refl _) b12).next (Nat.le_refl _) b13).next (Nat.le_refl _) b14).next (Nat.le_refl _) b15).next (Nat.le_refl _) b16).next (Nat.le_refl _) b17).next (Nat.le_refl _) b18).next (Nat.le_refl _) b19).next (Nat.le_refl _) b20).next (Nat.le_refl _) b21).next (Nat.le_refl _) b22).next (Nat.le_refl _) b23).next (Nat.le_refl _) b24).next (Nat.le_refl _) b25).next (Nat.le_refl _) b26)⟩
          case true =>
            as_aux_lemma =>
              obtain ⟨ep, hl60, hfl⟩ := F1.out rfl
              have EP := Lib.hid (ep)
              have HFL := Lib.hid (hfl)
              clear ep hfl
              have C := Lib.hid (implParseVersions S mx w26 (hMax.below (((((((((((((((((((((((((b1.next (Nat.le_refl _) b2).next (Nat.le_refl _) b3).next (Nat.le_refl _) b4).next (Nat.le_refl _) b5).next (Nat.le_refl _) b6).next (Nat.le_refl _) b7).next (Nat.le_refl _) b8).next (Nat.le_refl _) b9).next (Nat.le_refl _) b10).next (Nat.le_refl _) b11).next (Nat.le_refl _) b12).next (Nat.le_refl _) b13).next (Nat.le_refl _) b14).next (Nat.le_refl _) b15).next (Nat.le_refl _) b16).next (Nat.le_refl _) b17).next (Nat.le_refl _) b18).next (Nat.le_refl _) b19).next (Nat.le_refl _) b20).next (Nat.le_refl _) b21).next (Nat.le_refl _) b22).next (Nat.le_refl _) b23).next (Nat.le_refl _) b24).next (Nat.le_refl _) b25).next (Nat.le_refl _) b26) (Nat.le_refl _)) (by omega))
              rw [EP.out] at C
              go_wp2_with fail
              refine C.out.mono ?_; rintro e w27 ⟨u50, rfl, o50, b27⟩
              clear C
              have C := Lib.hid (qVersions_yes _ _ l w27 o50.reads (o1.reads.below (((((((((((((((((((((((((b2.next (Nat.le_refl _) b3).next (Nat.le_refl _) b4).next (Nat.le_refl _) b5).next (Nat.le_refl _) b6).next (Nat.le_refl _) b7).next (Nat.le_refl _) b8).next (Nat.le_refl _) b9).next (Nat.le_refl _) b10).next (Nat.le_refl _) b11).next (Nat.le_refl _) b12).next (Nat.le_refl _) b13).next (Nat.le_refl _) b14).next (Nat.le_refl _) b15).next (Nat.le_refl _) b16).next (Nat.le_refl _) b17).next (Nat.le_refl _) b18).next (Nat.le_refl _) b19).next (Nat.le_refl _) b20).next (Nat.le_refl _) b21).next (Nat.le_refl _) b22).next (Nat.le_refl _) b23).next (Nat.le_refl _) b24).next (Nat.le_refl _) b25).next (Nat.le_refl _) b26).next (Nat.le_refl _) b27) (Nat.le_refl _)))
              go_wp2_with fail
              refine C.out.mono ?_; rintro e w28 ⟨rfl, b28⟩
              clear C
              have o5w : IntsAt w5 u5 EE := o5.reads
              have o1w : VersAt w1 u1 l := o1.reads
              obtain ⟨AL, cL, hvL, hnL, hcL⟩ := o1w.shape
              subst hvL
              obtain ⟨AE, cE, hvE, hnE, hcE⟩ := o5w.shape
              subst hvE
              have rL := Lib.hid (((o1w.below ((((((((((((((((((((((((((b2.next (Nat.le_refl _) b3).next (Nat.le_refl _) b4).next (Nat.le_refl _) b5).next (Nat.le_refl _) b6).next (Nat.le_refl _) b7).next (Nat.le_refl _) b8).next (Nat.le_refl _) b9).next (Nat.le_refl _) b10).next (Nat.le_refl _) b11).next (Nat.le_refl _) b12).next (Nat.le_refl _) b13).next (Nat.le_refl _) b14).next (Nat.le_refl _) b15).next (Nat.le_refl _) b16).next (Nat.le_refl _) b17).next (Nat.le_refl _) b18).next (Nat.le_refl _) b19).next (Nat.le_refl _) b20).next (Nat.le_refl _) b21).next (Nat.le_refl _) b22).next (Nat.le_refl _) b23).next (Nat.le_refl _) b24).next (Nat.le_refl _) b25).next (Nat.le_refl _) b26).next (Nat.le_refl _) b27).next (Nat.le_refl _) b28) (Nat.le_refl _)) : VersAt _ _ l))
              have rE := Lib.hid (((o5w.below ((((((((((((((((((((((b6.next (Nat.le_refl _) b7).next (Nat.le_refl _) b8).next (Nat.le_refl _) b9).next (Nat.le_refl _) b10).next (Nat.le_refl _) b11).next (Nat.le_refl _) b12).next (Nat.le_refl _) b13).next (Nat.le_refl _) b14).next (Nat.le_refl _) b15).next (Nat.le_refl _) b16).next (Nat.le_refl _) b17).next (Nat.le_refl _) b18).next (Nat.le_refl _) b19).next (Nat.le_refl _) b20).next (Nat.le_refl _) b21).next (Nat.le_refl _) b22).next (Nat.le_refl _) b23).next (Nat.le_refl _) b24).next (Nat.le_refl _) b25).next (Nat.le_refl _) b26).next (Nat.le_refl _) b27).next (Nat.le_refl _) b28) (Nat.le_refl _)) : IntsAt _ _ EE))
              have hZ := Lib.hid ((((((((((((((((((((((((((((b1.next (Nat.le_refl _) b2).next (Nat.le_refl _) b3).next (Nat.le_refl _) b4).next (Nat.le_refl _) b5).next (Nat.le_refl _) b6).next (Nat.le_refl _) b7).next (Nat.le_refl _) b8).next (Nat.le_refl _) b9).next (Nat.le_refl _) b10).next (Nat.le_refl _) b11).next (Nat.le_refl _) b12).next (Nat.le_refl _) b13).next (Nat.le_refl _) b14).next (Nat.le_refl _) b15).next (Nat.le_refl _) b16).next (Nat.le_refl _) b17).next (Nat.le_refl _) b18).next (Nat.le_refl _) b19).next (Nat.le_refl _) b20).next (Nat.le_refl _) b21).next (Nat.le_refl _) b22).next (Nat.le_refl _) b23).next (Nat.le_refl _) b24).next (Nat.le_refl _) b25).next (Nat.le_refl _) b26).next (Nat.le_refl _) b27).next (Nat.le_refl _) b28))
              clear o5w o1w o50
              try clear h0
              try clear h1
              try clear f0
              try clear f1
              try clear o1
              try clear o4
              try clear o5
              try clear o6
              try clear o9
              try clear o10
              try clear o11
              try clear o12
              try clear o14
              try clear o15
              try clear o17
              try clear o18
              try clear zx
              try clear E1
              try clear E2
              try clear E3
              try clear E5
              try clear E7
              try clear E9
              try clear E11
              try clear F1
              try clear F3
              try clear F5
              try clear F7
              try clear HB
              try clear hS
              try clear hEE
              try clear hl62
              try clear ha62
              try clear hb62
              try clear hWy
              try clear hu62
              try clear hV60
              try clear htt
              try clear hP
              try clear hPow
              try clear hMax
              try clear b1
              try clear b2
              try clear b3
              try clear b4
              try clear b5
              try clear b6
              try clear b7
              try clear b8
              try clear b9
              try clear b10
              try clear b11
              try clear b12
              try clear b13
              try clear b14
              try clear b15
              try clear b16
              try clear b17
              try clear b18
              try clear b19
              try clear b20
              try clear b21
              try clear b22
              try clear b23
              try clear b24
              try clear b25
              try clear b26
              try clear b27
              try clear b28
              try clear HW1
              try clear HW2
              try clear HW3
              try clear HW4
              try clear HW5
              try clear HW6
              try clear HW7
              try clear HW8
              try clear HW9
              try clear HW10
              try clear HW11
              try clear HW12
              try clear HW13
              try clear HW14
              try clear HW15
              try clear HW16
              try clear HW17
              try clear HW18
              try clear HW19
              try clear HW20
              try clear HW21
              try clear HW22
              try clear HW23
              try clear HW24
              try clear HW25
              try clear HW26
              try clear HW27
              try clear HW28
              go_wp2_with fail
              go_loopw [407] (fun s wr => ∃ i : Nat, i ≤ l.length ∧ s = .int .i64 i ∧ Below w28.heap.size w28 wr) (fun s _ => l.length - (intOf s).toNat)
              case atStart => exact ⟨0, Nat.zero_le _, rfl, Below.refl _ _⟩
              case round =>
                obtain ⟨i, hi, rfl, hb⟩ := hrel
                by_cases hlt : i < l.length
                · have hfi := Lib.hid (HFL.out i hlt)
                  go_wp2_with fail
                  go_loopw [56, 412] (fun t s wr => ∃ n : Nat, n ≤ l.length ∧ s = .int .i64 n ∧ t = .bool (followsTo l i n) ∧ Below w28.heap.size w28 wr) (fun _ s _ => l.length - (intOf s).toNat)
                  case atStart => exact ⟨0, Nat.zero_le _, rfl, by rw [followsTo_zero], hb⟩
                  case round =>
                    obtain ⟨n, hn, rfl, rfl, hb2⟩ := hrel
                    by_cases hln : n < l.length
                    · obtain ⟨b8, o8, hh8, hd0, hd1, hd2⟩ := VersAt.at_ (rL.out.below hb2 (Nat.le_refl _)) n hln
                      subst hh8
                      have hsu := Lib.hid (followsTo_succ (i := i) hln)
                      have hbX := hb2.alloc hb2.size (.cells #[.int .i64 (gv l n).p, .int .i64 (gv l n).k, .int .i64 (gv l n).v] 38)
                      have HbX := Lib.hid hbX
                      clear hbX
                      cases hf : followsTo l i n <;> cases hp : ((gv l n).p == (i : Int))
                      all_goals
                        have hs2 : Hid (_ = _) := hsu
                        rw [hf, hp] at hs2
                        go_wp2_with fail
                        go_roundw
                        case rel => exact ⟨n + 1, by omega, by go_num, by rw [hs2.out]; rfl, HbX.out⟩
                        case measure => simp [intOf]; omega
                    · obtain rfl : n = l.length := by omega
                      rw [followsTo_all]
                      have C := Lib.hid (qHas_any _ EE (i : Int) wr (rE.out.below hb2 (Nat.le_refl _)))
                      rw [hfi.out] at C
                      cases hf : follows l i
                      all_goals
                        rw [hf] at C
                        go_wp2_with fail
                        refine C.out.mono ?_; rintro e _ ⟨rfl, rfl⟩
                        go_wp2_with fail
                        go_roundw
                        case rel => exact ⟨i + 1, by omega, by go_num, hb2⟩
                        case measure => simp [intOf]; omega
                · obtain rfl : i = l.length := by omega
                  go_wp2_with fail
                  go_ret
                  exact ⟨rfl, hZ.out.next (Nat.le_refl _) hb⟩
end Go.Proofs.YtgngnkndebkbmaaDoor
