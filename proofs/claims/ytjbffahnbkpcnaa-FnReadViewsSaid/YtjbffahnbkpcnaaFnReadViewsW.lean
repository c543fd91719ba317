/- The walk of the law FnReadViews: whatever the bytes, it returns true and writes nothing that was there. -/
import Derived.Test.YtjbffahnbkpcnaaRvU
import Derived.Test.YtjbffahnbkpcnaaDrawRx
import Derived.Test.YtjbffahnbkpcnaaRvI
import Derived.Test.YtjbffahnbkpcnaaRvS
import Derived.Test.YtjbffahnbkpcnaaViewF
import Derived.Test.YtjbffahnbkpcnaaHidden
import Derived.Test.YtjbffahnbkpcnaaCrowd
import Derived.Test.YtjbffahnbkpcnaaFitF
import Derived.Test.YtjbffahnbkpcnaaMoved
import Derived.Test.YtjbffahnbkpcnaaPSame
import Derived.Test.YtjbffahnbkpcnaaSame
import Derived.Test.YtjbffahnbkpcnaaQuietB
import Derived.Test.YtjbffahnbkpcnaaOpen
import Derived.Deep.DeepCutAuto
set_option linter.unusedSimpArgs false
set_option linter.unusedVariables false
namespace Go.Proofs.Ytjbffahnbkpcnaa
open Go.RowKit Go.Sort

set_option maxRecDepth 100000 in
set_option maxHeartbeats 12800000 in
theorem FnReadViews_walk (v0 : Value) (code : List Nat) (v1 : Value) (more : List Nat) (w0 : World) (h0 : BytesAt w0 v0 code) (f0 : WfCode code) (h1 : BytesAt w0 v1 more) (f1 : WfCode more) :
    Calls Try.prog 4 #[v0, v1] w0 (LawPost w0) := by
  obtain ⟨A0, c0, rfl, hn0, hc0⟩ := h0.shape
  obtain ⟨A1, c1, rfl, hn1, hc1⟩ := h1.shape
  cases hbig : bigB code more
  case true =>
    go_enter Try.func4, Try.ntmps4
    go_wp2_with fail
    refine (big_any _ _ code more _ h0 h1).mono ?_; rintro e _ ⟨rfl, rfl⟩
    rw [hbig]
    go_wp2_with fail
    go_ret
    exact ⟨rfl, Below.refl _ _⟩
  case false =>
    have hsz : code.length + more.length ≤ 1048576 := by unfold bigB at hbig; have := of_decide_eq_false hbig; omega
    go_enter Try.func4, Try.ntmps4
    go_wp2_with fail
    refine (big_any _ _ code more _ h0 h1).mono ?_; rintro e _ ⟨rfl, rfl⟩
    rw [hbig]
    clear hbig
    have C := Lib.hid (drawReadView_any _ code w0 h0 f0 (by omega))
    go_wp2_with fail
    refine C.out.mono ?_; rintro e w1 ⟨x, y, c_, r_, u1, L, rfl, o1, b1, hL31, hLs⟩
    clear C
    have HLw := Lib.hid (wfStrs_of (by decide) hLs)
    clear hLs
    have zB : BoxFr (w1.alloc (.cells #[.int .i64 x, .int .i64 y, .int .i64 c_, .int .i64 r_] 27)) w1.heap.size x y c_ r_ := BoxFr.new w1 x y c_ r_
    have b2 : Below w1.heap.size w1 (w1.alloc (.cells #[.int .i64 x, .int .i64 y, .int .i64 c_, .int .i64 r_] 27)) := (Below.refl _ w1).alloc (Nat.le_refl _) (.cells #[.int .i64 x, .int .i64 y, .int .i64 c_, .int .i64 r_] 27)
    obtain ⟨w2, hw2⟩ : ∃ W, W = (w1.alloc (.cells #[.int .i64 x, .int .i64 y, .int .i64 c_, .int .i64 r_] 27)) := ⟨_, rfl⟩
    obtain ⟨B, hB⟩ : ∃ X, X = w1.heap.size := ⟨_, rfl⟩
    rw [← hw2] at zB b2
    rw [← hB] at zB
    have HW2 := Lib.hid (hw2)
    have HB := Lib.hid (hB)
    clear hw2 hB
    go_upto_region 4 with fail
    rw [← HW2.out, ← HB.out]
    obtain ⟨l, ok, e1, hl26, e2⟩ := rRV_ex x y c_ r_ L
    have E1 := Lib.hid (e1)
    have E2 := Lib.hid (e2)
    clear e1 e2
    obtain ⟨c0, c1, c2, c3, _, _, _, _⟩ := zB.cells
    have C := Lib.hid (implRV _ L x y c_ r_ w2 (o1.reads.below b2 (Nat.le_refl _)) HLw.out)
    rw [E1.out] at C
    go_wp2_with fail
    refine C.out.mono ?_; rintro e w3 ⟨u2, rfl, o2, b3⟩
    clear C
    clear c0 c1 c2 c3
    obtain ⟨c0, c1, c2, c3, _, _, _, _⟩ := (zB.keep b3 zB.lt).cells
    have C := Lib.hid (specRV _ L x y c_ r_ w3 (o1.reads.below (b2.next (Nat.le_refl _) b3) (Nat.le_refl _)) HLw.out)
    rw [E1.out] at C
    go_wp2_with fail
    refine C.out.mono ?_; rintro e w4 ⟨u3, rfl, o3, b4⟩
    clear C
    clear c0 c1 c2 c3
    have C := Lib.hid (pSameSpots_yes _ _ l w4 (o2.reads.below b4 (Nat.le_refl _)) o3.reads)
    go_wp2_with fail
    refine C.out.mono ?_; rintro e w5 ⟨rfl, b5⟩
    clear C
    go_upto_if 70 with fail
    go_cut [] from 11 to 104 (fun wx => Below w5.heap.size w5 wx)
    case first =>
      as_aux_lemma =>
        cases ok
        case false =>
          go_wp2_with fail
          go_meet
          exact (Below.refl w5.heap.size w5)
        case true =>
          obtain ⟨hch, e3, e4⟩ := E2.out rfl
          have HCH := Lib.hid (hch)
          have E3 := Lib.hid (e3)
          have E4 := Lib.hid (e4)
          clear hch e3 e4
          obtain ⟨c0, c1, c2, c3, _, _, _, _⟩ := (zB.keep ((b3.next (Nat.le_refl _) b4).next (Nat.le_refl _) b5) zB.lt).cells
          have C := Lib.hid (implViewOf _ l x y c_ r_ w5 (o2.reads.below (b4.next (Nat.le_refl _) b5) (Nat.le_refl _)))
          rw [E3.out] at C
          go_wp2_with fail
          refine C.out.mono ?_; rintro e w6 ⟨u4, rfl, o4, b6⟩
          clear C
          clear c0 c1 c2 c3
          obtain ⟨c0, c1, c2, c3, _, _, _, _⟩ := (zB.keep (((b3.next (Nat.le_refl _) b4).next (Nat.le_refl _) b5).next (Nat.le_refl _) b6) zB.lt).cells
          have C := Lib.hid (implHidden _ l x y c_ r_ w6 (o2.reads.below ((b4.next (Nat.le_refl _) b5).next (Nat.le_refl _) b6) (Nat.le_refl _)))
          rw [E4.out] at C
          go_wp2_with fail
          refine C.out.mono ?_; rintro e w7 ⟨u5, rfl, o5, b7⟩
          clear C
          clear c0 c1 c2 c3
          obtain ⟨AH, cH, hvH, hnH, hcH⟩ := o5.reads.shape
          subst hvH
          have C := Lib.hid (pSameTexts_yes _ _ L w7 (o4.reads.below b7 (Nat.le_refl _)) (o1.reads.below (((((b2.next (Nat.le_refl _) b3).next (Nat.le_refl _) b4).next (Nat.le_refl _) b5).next (Nat.le_refl _) b6).next (Nat.le_refl _) b7) (Nat.le_refl _)))
          go_wp2_with fail
          refine C.out.mono ?_; rintro e w8 ⟨rfl, b8⟩
          clear C
          have C := Lib.hid (implIsChart _ l w8 (o2.reads.below ((((b4.next (Nat.le_refl _) b5).next (Nat.le_refl _) b6).next (Nat.le_refl _) b7).next (Nat.le_refl _) b8) (Nat.le_refl _)))
          rw [HCH.out] at C
          go_wp2_with fail
          refine C.out.mono ?_; rintro e w9 ⟨rfl, b9⟩
          clear C
          go_wp2_with fail
          go_meet
          exact (((b6.next (Nat.le_refl _) b7).next (Nat.le_refl _) b8).next (Nat.le_refl _) b9)
    case rest =>
      skip
      obtain ⟨w6, hw6⟩ : ∃ w9 : World, w9 = wc := ⟨_, rfl⟩
      subst hw6
      have b6 := hcut
      clear hcut
      have C := Lib.hid (drawFitFrame_any _ more w6 (h1.below (((((b1.next (Nat.le_refl _) b2).next (Nat.le_refl _) b3).next (Nat.le_refl _) b4).next (Nat.le_refl _) b5).next (Nat.le_refl _) b6) (Nat.le_refl _)) f1 (by omega))
      go_wp2_with fail
      refine C.out.mono ?_; rintro e w7 ⟨u6, u, rfl, o6, b7, hu13⟩
      clear C
      obtain ⟨X, Y, FC, FR, one, e5, e6, e7⟩ := fit_ex u
      have E5 := Lib.hid (e5)
      have E6 := Lib.hid (e6)
      have E7 := Lib.hid (e7)
      clear e5 e6 e7
      have C := Lib.hid (implFit _ u w7 o6.reads)
      rw [E5.out, E6.out] at C
      go_wp2_with fail
      refine C.out.mono ?_; rintro e w8 ⟨rfl, b8⟩
      clear C
      have zG : BoxFr (w8.alloc (.cells #[.int .i64 X, .int .i64 Y, .int .i64 FC, .int .i64 FR] 27)) w8.heap.size X Y FC FR := BoxFr.new w8 X Y FC FR
      have b9 : Below w8.heap.size w8 (w8.alloc (.cells #[.int .i64 X, .int .i64 Y, .int .i64 FC, .int .i64 FR] 27)) := (Below.refl _ w8).alloc (Nat.le_refl _) (.cells #[.int .i64 X, .int .i64 Y, .int .i64 FC, .int .i64 FR] 27)
      obtain ⟨w9, hw9⟩ : ∃ W, W = (w8.alloc (.cells #[.int .i64 X, .int .i64 Y, .int .i64 FC, .int .i64 FR] 27)) := ⟨_, rfl⟩
      obtain ⟨G, hG⟩ : ∃ X, X = w8.heap.size := ⟨_, rfl⟩
      rw [← hw9] at zG b9
      rw [← hG] at zG
      have HW9 := Lib.hid (hw9)
      have HG := Lib.hid (hG)
      clear hw9 hG
      go_upto_region 15 with fail
      rw [← HW9.out, ← HG.out]
      have C := Lib.hid (specFit _ u w9 (o6.reads.below (b8.next (Nat.le_refl _) b9) (Nat.le_refl _)))
      rw [E5.out, E6.out] at C
      go_wp2_with fail
      refine C.out.mono ?_; rintro e w10 ⟨rfl, b10⟩
      clear C
      have zJ : BoxFr (w10.alloc (.cells #[.int .i64 X, .int .i64 Y, .int .i64 FC, .int .i64 FR] 27)) w10.heap.size X Y FC FR := BoxFr.new w10 X Y FC FR
      have b11 : Below w10.heap.size w10 (w10.alloc (.cells #[.int .i64 X, .int .i64 Y, .int .i64 FC, .int .i64 FR] 27)) := (Below.refl _ w10).alloc (Nat.le_refl _) (.cells #[.int .i64 X, .int .i64 Y, .int .i64 FC, .int .i64 FR] 27)
      obtain ⟨w11, hw11⟩ : ∃ W, W = (w10.alloc (.cells #[.int .i64 X, .int .i64 Y, .int .i64 FC, .int .i64 FR] 27)) := ⟨_, rfl⟩
      obtain ⟨J, hJ⟩ : ∃ X, X = w10.heap.size := ⟨_, rfl⟩
      rw [← hw11] at zJ b11
      rw [← hJ] at zJ
      have HW11 := Lib.hid (hw11)
      have HJ := Lib.hid (hJ)
      clear hw11 hJ
      go_upto_region 16 with fail
      rw [← HW11.out, ← HJ.out]
      obtain ⟨c0, c1, c2, c3, _, _, _, _⟩ := (zG.keep (b10.next (Nat.le_refl _) b11) zG.lt).cells
      obtain ⟨d0, d1, d2, d3, _, _, _, _⟩ := zJ.cells
      go_upto_region 18 with fail
      clear c0 c1 c2 c3 d0 d1 d2 d3
      go_upto_if 125 with fail
      go_cut [] from 20 to 189 (fun wx => Below w11.heap.size w11 wx)
      case first =>
        as_aux_lemma =>
          cases one
          case false =>
            go_wp2_with fail
            go_meet
            exact (Below.refl w11.heap.size w11)
          case true =>
            obtain ⟨hfr, e8, Cr, H, e9, e10, e11⟩ := E7.out rfl
            have HFR := Lib.hid (hfr)
            have E8 := Lib.hid (e8)
            have E9 := Lib.hid (e9)
            have E10 := Lib.hid (e10)
            have E11 := Lib.hid (e11)
            clear hfr e8 e9 e10 e11
            have o6w : RowAt sptRec w7 u6 u := o6.reads
            obtain ⟨AU, cU, hvU, hnU, hcU⟩ := o6w.shape
            subst hvU
            have rU := Lib.hid (((o6w.below (((b8.next (Nat.le_refl _) b9).next (Nat.le_refl _) b10).next (Nat.le_refl _) b11) (Nat.le_refl _)) : RowAt sptRec w11 _ u))
            have zG9 := Lib.hid ((zG.keep (b10.next (Nat.le_refl _) b11) zG.lt))
            go_wp2_with fail
            go_loopw [128] (fun s wr => ∃ i : Nat, i ≤ u.length ∧ s = .int .i64 i ∧ Below w11.heap.size w11 wr) (fun s _ => u.length - (intOf s).toNat)
            case atStart => exact ⟨0, Nat.zero_le _, rfl, Below.refl _ _⟩
            case round =>
              obtain ⟨i, hi, rfl, hb⟩ := hrel
              by_cases hlt : i < u.length
              · obtain ⟨bU, oU, hA9, d0, d1⟩ := spt_at (rU.out.below hb (Nat.le_refl _)) i hlt
                subst hA9
                have hi0 : (0 : Int) ≤ (i : Int) := by omega
                have hi1 : (i : Int) < (u.length : Int) := by omega
                have zr := (zG9.out.keep hb zG9.out.lt).al (.cells #[.int .i64 (gx sptRec u i).x, .int .i64 (gx sptRec u i).y] 25)
                have sr := BoxS.new wr (gx sptRec u i).x (gx sptRec u i).y
                have br := hb.alloc hb.size (.cells #[.int .i64 (gx sptRec u i).x, .int .i64 (gx sptRec u i).y] 25)
                obtain ⟨wq, hwq⟩ : ∃ W, W = wr.alloc (.cells #[.int .i64 (gx sptRec u i).x, .int .i64 (gx sptRec u i).y] 25) := ⟨_, rfl⟩
                obtain ⟨Q, hQ⟩ : ∃ X, X = wr.heap.size := ⟨_, rfl⟩
                rw [← hwq] at zr sr br
                rw [← hQ] at sr
                have HWq := Lib.hid (hwq)
                have HQ := Lib.hid (hQ)
                clear hwq hQ
                go_upto_region 22 with fail
                rw [← HWq.out, ← HQ.out]
                obtain ⟨c0, c1, c2, c3, _, _, _, _⟩ := zr.cells
                obtain ⟨s0, s1, _, _⟩ := sr.cells
                obtain ⟨a, b, e12⟩ := E8.out i hlt
                have C := Lib.hid (implCellOf X Y FC FR (gx sptRec u i).x (gx sptRec u i).y wq)
                rw [e12] at C
                clear e12
                go_wp2_with fail
                refine C.out.mono ?_; rintro e w9 ⟨rfl, b9⟩
                have b99 := br.next (Nat.le_refl _) b9
                clear C c0 c1 c2 c3 s0 s1 zr sr d0 d1
                go_wp2_with fail
                go_roundw
                case rel => exact ⟨i + 1, by omega, by go_num, b99⟩
                case measure => simp [intOf]; omega
              · obtain rfl : i = u.length := by omega
                obtain ⟨w12, hw12⟩ : ∃ w9 : World, w9 = wr := ⟨_, rfl⟩
                subst hw12
                have b12 := hb
                clear hb
                obtain ⟨c0, c1, c2, c3, _, _, _, _⟩ := (zG.keep ((b10.next (Nat.le_refl _) b11).next (Nat.le_refl _) b12) zG.lt).cells
                have C := Lib.hid (implCrowd _ u X Y FC FR w12 (o6w.below ((((b8.next (Nat.le_refl _) b9).next (Nat.le_refl _) b10).next (Nat.le_refl _) b11).next (Nat.le_refl _) b12) (Nat.le_refl _)))
                rw [E9.out] at C
                go_wp2_with fail
                refine C.out.mono ?_; rintro e w13 ⟨u11, rfl, o11, b13⟩
                clear C
                clear c0 c1 c2 c3
                have o11r := o11.reads
                obtain ⟨AR, cR, hvR, hnR, hcR⟩ := o11r.shape
                subst hvR
                obtain ⟨c0, c1, c2, c3, _, _, _, _⟩ := (zG.keep (((b10.next (Nat.le_refl _) b11).next (Nat.le_refl _) b12).next (Nat.le_refl _) b13) zG.lt).cells
                have C := Lib.hid (implHidden _ u X Y FC FR w13 (o6w.below (((((b8.next (Nat.le_refl _) b9).next (Nat.le_refl _) b10).next (Nat.le_refl _) b11).next (Nat.le_refl _) b12).next (Nat.le_refl _) b13) (Nat.le_refl _)))
                rw [E10.out] at C
                go_wp2_with fail
                refine C.out.mono ?_; rintro e w14 ⟨u12, rfl, o12, b14⟩
                clear C
                clear c0 c1 c2 c3
                obtain ⟨c0, c1, c2, c3, _, _, _, _⟩ := (zJ.keep ((b12.next (Nat.le_refl _) b13).next (Nat.le_refl _) b14) zJ.lt).cells
                have C := Lib.hid (specHidden _ u X Y FC FR w14 (o6w.below ((((((b8.next (Nat.le_refl _) b9).next (Nat.le_refl _) b10).next (Nat.le_refl _) b11).next (Nat.le_refl _) b12).next (Nat.le_refl _) b13).next (Nat.le_refl _) b14) (Nat.le_refl _)))
                rw [E10.out] at C
                go_wp2_with fail
                refine C.out.mono ?_; rintro e w15 ⟨u13, rfl, o13, b15⟩
                clear C
                clear c0 c1 c2 c3
                have o13r : IntsAt w15 u13 H := o13.reads
                obtain ⟨AK, cK, hvK, hnK, hcK⟩ := o13r.shape
                subst hvK
                have C := Lib.hid (sameInts_any _ _ H H w15 (o12.reads.below b15 (Nat.le_refl _)) o13r)
                rw [show (H == H) = true from by simp] at C
                go_wp2_with fail
                refine C.out.mono ?_; rintro e w16 ⟨rfl, b16⟩
                clear C
                have e13 := E11.out
                obtain ⟨c0, c1, c2, c3, _, _, _, _⟩ := (zG.keep ((((((b10.next (Nat.le_refl _) b11).next (Nat.le_refl _) b12).next (Nat.le_refl _) b13).next (Nat.le_refl _) b14).next (Nat.le_refl _) b15).next (Nat.le_refl _) b16) zG.lt).cells
                have C := Lib.hid (implIsFrameOf X Y FC FR w16)
                rw [HFR.out] at C
                go_wp2_with fail
                refine C.out.mono ?_; rintro e w17 ⟨rfl, b17⟩
                clear C
                clear c0 c1 c2 c3
                go_wp2_with fail
                go_meet
                exact (((((b12.next (Nat.le_refl _) b13).next (Nat.le_refl _) b14).next (Nat.le_refl _) b15).next (Nat.le_refl _) b16).next (Nat.le_refl _) b17)
      case rest =>
        skip
        obtain ⟨w12, hw12⟩ : ∃ w9 : World, w9 = wc := ⟨_, rfl⟩
        subst hw12
        have b12 := hcut
        clear hcut
        have C := Lib.hid (drawMovedCells_any _ more w12 (h1.below (((((((((((b1.next (Nat.le_refl _) b2).next (Nat.le_refl _) b3).next (Nat.le_refl _) b4).next (Nat.le_refl _) b5).next (Nat.le_refl _) b6).next (Nat.le_refl _) b7).next (Nat.le_refl _) b8).next (Nat.le_refl _) b9).next (Nat.le_refl _) b10).next (Nat.le_refl _) b11).next (Nat.le_refl _) b12) (Nat.le_refl _)) f1 (by omega))
        go_wp2_with fail
        refine C.out.mono ?_; rintro e w13 ⟨mx, my, mc, mr, u21, a, u22, b, rfl, o21, o22, b13, ha13, hb13⟩
        clear C
        have zM : BoxFr (w13.alloc (.cells #[.int .i64 mx, .int .i64 my, .int .i64 mc, .int .i64 mr] 27)) w13.heap.size mx my mc mr := BoxFr.new w13 mx my mc mr
        have b14 : Below w13.heap.size w13 (w13.alloc (.cells #[.int .i64 mx, .int .i64 my, .int .i64 mc, .int .i64 mr] 27)) := (Below.refl _ w13).alloc (Nat.le_refl _) (.cells #[.int .i64 mx, .int .i64 my, .int .i64 mc, .int .i64 mr] 27)
        obtain ⟨w14, hw14⟩ : ∃ W, W = (w13.alloc (.cells #[.int .i64 mx, .int .i64 my, .int .i64 mc, .int .i64 mr] 27)) := ⟨_, rfl⟩
        obtain ⟨M, hM⟩ : ∃ X, X = w13.heap.size := ⟨_, rfl⟩
        rw [← hw14] at zM b14
        rw [← hM] at zM
        have HW14 := Lib.hid (hw14)
        have HM := Lib.hid (hM)
        clear hw14 hM
        go_upto_region 32 with fail
        rw [← HW14.out, ← HM.out]
        obtain ⟨m, three, e14, e15, e16⟩ := moved_ex mx my mc mr a b
        have E14 := Lib.hid (e14)
        have E15 := Lib.hid (e15)
        have E16 := Lib.hid (e16)
        clear e14 e15 e16
        obtain ⟨c0, c1, c2, c3, _, _, _, _⟩ := zM.cells
        have C := Lib.hid (implMoved _ _ a b mx my mc mr w14 (o21.reads.below b14 (Nat.le_refl _)) (o22.reads.below b14 (Nat.le_refl _)))
        rw [E14.out] at C
        go_wp2_with fail
        refine C.out.mono ?_; rintro e w15 ⟨rfl, b15⟩
        clear C
        clear c0 c1 c2 c3
        obtain ⟨c0, c1, c2, c3, _, _, _, _⟩ := (zM.keep b15 zM.lt).cells
        have C := Lib.hid (specMoved _ _ a b mx my mc mr w15 (o21.reads.below (b14.next (Nat.le_refl _) b15) (Nat.le_refl _)) (o22.reads.below (b14.next (Nat.le_refl _) b15) (Nat.le_refl _)))
        rw [E14.out] at C
        go_wp2_with fail
        refine C.out.mono ?_; rintro e w16 ⟨rfl, b16⟩
        clear C
        clear c0 c1 c2 c3
        obtain ⟨c0, c1, c2, c3, _, _, _, _⟩ := (zM.keep (b15.next (Nat.le_refl _) b16) zM.lt).cells
        have C := Lib.hid (implMoved _ _ b a mx my mc mr w16 (o22.reads.below ((b14.next (Nat.le_refl _) b15).next (Nat.le_refl _) b16) (Nat.le_refl _)) (o21.reads.below ((b14.next (Nat.le_refl _) b15).next (Nat.le_refl _) b16) (Nat.le_refl _)))
        rw [E15.out] at C
        go_wp2_with fail
        refine C.out.mono ?_; rintro e w17 ⟨rfl, b17⟩
        clear C
        clear c0 c1 c2 c3
        have C := Lib.hid (drawIsFrameOf_any _ more w17 (h1.below ((((((((((((((((b1.next (Nat.le_refl _) b2).next (Nat.le_refl _) b3).next (Nat.le_refl _) b4).next (Nat.le_refl _) b5).next (Nat.le_refl _) b6).next (Nat.le_refl _) b7).next (Nat.le_refl _) b8).next (Nat.le_refl _) b9).next (Nat.le_refl _) b10).next (Nat.le_refl _) b11).next (Nat.le_refl _) b12).next (Nat.le_refl _) b13).next (Nat.le_refl _) b14).next (Nat.le_refl _) b15).next (Nat.le_refl _) b16).next (Nat.le_refl _) b17) (Nat.le_refl _)) f1 (by omega))
        go_wp2_with fail
        refine C.out.mono ?_; rintro e w18 ⟨fx, fy, fc, fr, rfl, b18⟩
        clear C
        have zY : BoxFr (w18.alloc (.cells #[.int .i64 fx, .int .i64 fy, .int .i64 fc, .int .i64 fr] 27)) w18.heap.size fx fy fc fr := BoxFr.new w18 fx fy fc fr
        have b19 : Below w18.heap.size w18 (w18.alloc (.cells #[.int .i64 fx, .int .i64 fy, .int .i64 fc, .int .i64 fr] 27)) := (Below.refl _ w18).alloc (Nat.le_refl _) (.cells #[.int .i64 fx, .int .i64 fy, .int .i64 fc, .int .i64 fr] 27)
        obtain ⟨w19, hw19⟩ : ∃ W, W = (w18.alloc (.cells #[.int .i64 fx, .int .i64 fy, .int .i64 fc, .int .i64 fr] 27)) := ⟨_, rfl⟩
        obtain ⟨Y, hY⟩ : ∃ X, X = w18.heap.size := ⟨_, rfl⟩
        rw [← hw19] at zY b19
        rw [← hY] at zY
        have HW19 := Lib.hid (hw19)
        have HY := Lib.hid (hY)
        clear hw19 hY
        go_upto_region 36 with fail
        rw [← HW19.out, ← HY.out]
        have o21w : RowAt sptRec w13 u21 a := o21.reads
        obtain ⟨AA, cA, hvA, hnA, hcA⟩ := o21w.shape
        subst hvA
        have cI := Lib.hid (fun (d : Nat) (os : Array Obj) => rg_below (w := w19) (d := d) (os := os) (implIsFrameOf fx fy fc fr _))
        have cS := Lib.hid (fun (d : Nat) (os : Array Obj) => rg_below (w := w19) (d := d) (os := os) (specIsFrameOf fx fy fc fr _))
        obtain ⟨c0, c1, c2, c3, _, _, _, _⟩ := zY.cells
        have k0 := cell_regrown c0
        have k1 := cell_regrown c1
        have k2 := cell_regrown c2
        have k3 := cell_regrown c3
        have hZ := Lib.hid (((((((((((((((((((b1.next (Nat.le_refl _) b2).next (Nat.le_refl _) b3).next (Nat.le_refl _) b4).next (Nat.le_refl _) b5).next (Nat.le_refl _) b6).next (Nat.le_refl _) b7).next (Nat.le_refl _) b8).next (Nat.le_refl _) b9).next (Nat.le_refl _) b10).next (Nat.le_refl _) b11).next (Nat.le_refl _) b12).next (Nat.le_refl _) b13).next (Nat.le_refl _) b14).next (Nat.le_refl _) b15).next (Nat.le_refl _) b16).next (Nat.le_refl _) b17).next (Nat.le_refl _) b18).next (Nat.le_refl _) b19))
        cases three
        all_goals
          have hm := E16.out
          try have hm2 := hm rfl
          clear hm
          go_wp2_with fail
          have cI2 := cI.out
          have cS2 := cS.out
          (refine wp_region_quiet_below (by kernel_rfl) (by kernel_rfl) ?_; (repeat (go_big_quiet_step (first | with_reducible exact cI2 _ _ | with_reducible exact cS2 _ _))); refine wpQuiet_nil ?_; intro _ hw'; obtain ⟨⟨dq, osq⟩, hw''⟩ := hw'; subst hw'')
          go_wp2_with fail
          go_ret
          exact ⟨by simp, RG.below hZ.out hZ.out.size dq osq⟩
end Go.Proofs.Ytjbffahnbkpcnaa
