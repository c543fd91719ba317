/- The walk of the law FnViews: whatever the bytes, it returns true and writes nothing that was there. -/
import Derived.Test.YtjbffahnbkpcnaaVwU
import Derived.Test.YtjbffahnbkpcnaaDrawRx
import Derived.Test.YtjbffahnbkpcnaaViewF
import Derived.Test.YtjbffahnbkpcnaaViewT
import Derived.Test.YtjbffahnbkpcnaaHidden
import Derived.Test.YtjbffahnbkpcnaaCrowd
import Derived.Test.YtjbffahnbkpcnaaMirror
import Derived.Test.YtjbffahnbkpcnaaPSame
import Derived.Test.YtjbffahnbkpcnaaSame
import Derived.Test.YtjbffahnbkpcnaaQuietB
import Derived.Test.YtjbffahnbkpcnaaCell
import Derived.Test.YtjbffahnbkpcnaaOpen
import Derived.Deep.DeepCutAuto
set_option linter.unusedSimpArgs false
set_option linter.unusedVariables false
namespace Go.Proofs.Ytjbffahnbkpcnaa
open Go.RowKit Go.Sort

set_option maxRecDepth 100000 in
set_option maxHeartbeats 12800000 in
theorem FnViews_walk (v0 : Value) (code : List Nat) (v1 : Value) (more : List Nat) (w0 : World) (h0 : BytesAt w0 v0 code) (f0 : WfCode code) (h1 : BytesAt w0 v1 more) (f1 : WfCode more) :
    Calls Try.prog 3 #[v0, v1] w0 (LawPost w0) := by
  obtain ⟨A0, c0, rfl, hn0, hc0⟩ := h0.shape
  obtain ⟨A1, c1, rfl, hn1, hc1⟩ := h1.shape
  cases hbig : bigB code more
  case true =>
    go_enter Try.func3, Try.ntmps3
    go_wp2_with fail
    refine (big_any _ _ code more _ h0 h1).mono ?_; rintro e _ ⟨rfl, rfl⟩
    rw [hbig]
    go_wp2_with fail
    go_ret
    exact ⟨rfl, Below.refl _ _⟩
  case false =>
    have hsz : code.length + more.length ≤ 1048576 := by unfold bigB at hbig; have := of_decide_eq_false hbig; omega
    go_enter Try.func3, Try.ntmps3
    go_wp2_with fail
    refine (big_any _ _ code more _ h0 h1).mono ?_; rintro e _ ⟨rfl, rfl⟩
    rw [hbig]
    clear hbig
    have C := Lib.hid (drawViewOf_any _ code w0 h0 f0 (by omega))
    go_wp2_with fail
    refine C.out.mono ?_; rintro e w1 ⟨x, y, c_, r_, u1, l, rfl, o1, b1, hl13⟩
    clear C
    have zB : BoxFr (w1.alloc (.cells #[.int .i64 x, .int .i64 y, .int .i64 c_, .int .i64 r_] 27)) w1.heap.size x y c_ r_ := BoxFr.new w1 x y c_ r_
    have b2 : Below w1.heap.size w1 (w1.alloc (.cells #[.int .i64 x, .int .i64 y, .int .i64 c_, .int .i64 r_] 27)) := (Below.refl _ w1).alloc (Nat.le_refl _) (.cells #[.int .i64 x, .int .i64 y, .int .i64 c_, .int .i64 r_] 27)
    obtain ⟨w2, hw2⟩ : ∃ W, W = (w1.alloc (.cells #[.int .i64 x, .int .i64 y, .int .i64 c_, .int .i64 r_] 27)) := ⟨_, rfl⟩
    obtain ⟨B, hB⟩ : ∃ X, X = w1.heap.size := ⟨_, rfl⟩
    rw [← hw2] at zB b2
    rw [← hB] at zB
    have HW2 := Lib.hid (hw2)
    have HB := Lib.hid (hB)
    clear hw2 hB
    go_upto_region 4 with fail
    rw [← HW2.out, ← HB.out]
    obtain ⟨V, H, T, Cr, ok, e1, e2, e3, e4, hH12, hV30, e5⟩ := views_ex x y c_ r_ l
    have E1 := Lib.hid (e1)
    have E2 := Lib.hid (e2)
    have E3 := Lib.hid (e3)
    have E4 := Lib.hid (e4)
    have E5 := Lib.hid (e5)
    clear e1 e2 e3 e4 e5
    obtain ⟨c0, c1, c2, c3, _, _, _, _⟩ := zB.cells
    have C := Lib.hid (implViewOf _ l x y c_ r_ w2 (o1.reads.below b2 (Nat.le_refl _)))
    rw [E1.out] at C
    go_wp2_with fail
    refine C.out.mono ?_; rintro e w3 ⟨u3, rfl, o3, b3⟩
    clear C
    clear c0 c1 c2 c3
    obtain ⟨c0, c1, c2, c3, _, _, _, _⟩ := (zB.keep b3 zB.lt).cells
    have C := Lib.hid (specViewOf _ l x y c_ r_ w3 (o1.reads.below (b2.next (Nat.le_refl _) b3) (Nat.le_refl _)))
    rw [E1.out] at C
    go_wp2_with fail
    refine C.out.mono ?_; rintro e w4 ⟨u4, rfl, o4, b4⟩
    clear C
    clear c0 c1 c2 c3
    obtain ⟨c0, c1, c2, c3, _, _, _, _⟩ := (zB.keep (b3.next (Nat.le_refl _) b4) zB.lt).cells
    have C := Lib.hid (implHidden _ l x y c_ r_ w4 (o1.reads.below ((b2.next (Nat.le_refl _) b3).next (Nat.le_refl _) b4) (Nat.le_refl _)))
    rw [E2.out] at C
    go_wp2_with fail
    refine C.out.mono ?_; rintro e w5 ⟨u5, rfl, o5, b5⟩
    clear C
    clear c0 c1 c2 c3
    obtain ⟨c0, c1, c2, c3, _, _, _, _⟩ := (zB.keep ((b3.next (Nat.le_refl _) b4).next (Nat.le_refl _) b5) zB.lt).cells
    have C := Lib.hid (specHidden _ l x y c_ r_ w5 (o1.reads.below (((b2.next (Nat.le_refl _) b3).next (Nat.le_refl _) b4).next (Nat.le_refl _) b5) (Nat.le_refl _)))
    rw [E2.out] at C
    go_wp2_with fail
    refine C.out.mono ?_; rintro e w6 ⟨u6, rfl, o6, b6⟩
    clear C
    clear c0 c1 c2 c3
    obtain ⟨c0, c1, c2, c3, _, _, _, _⟩ := (zB.keep (((b3.next (Nat.le_refl _) b4).next (Nat.le_refl _) b5).next (Nat.le_refl _) b6) zB.lt).cells
    have C := Lib.hid (implViewText _ l x y c_ r_ w6 (o1.reads.below ((((b2.next (Nat.le_refl _) b3).next (Nat.le_refl _) b4).next (Nat.le_refl _) b5).next (Nat.le_refl _) b6) (Nat.le_refl _)))
    rw [E3.out] at C
    go_wp2_with fail
    refine C.out.mono ?_; rintro e w7 ⟨rfl, b7⟩
    clear C
    clear c0 c1 c2 c3
    obtain ⟨c0, c1, c2, c3, _, _, _, _⟩ := (zB.keep ((((b3.next (Nat.le_refl _) b4).next (Nat.le_refl _) b5).next (Nat.le_refl _) b6).next (Nat.le_refl _) b7) zB.lt).cells
    have C := Lib.hid (specViewText _ l x y c_ r_ w7 (o1.reads.below (((((b2.next (Nat.le_refl _) b3).next (Nat.le_refl _) b4).next (Nat.le_refl _) b5).next (Nat.le_refl _) b6).next (Nat.le_refl _) b7) (Nat.le_refl _)))
    rw [E3.out] at C
    go_wp2_with fail
    refine C.out.mono ?_; rintro e w8 ⟨rfl, b8⟩
    clear C
    clear c0 c1 c2 c3
    obtain ⟨c0, c1, c2, c3, _, _, _, _⟩ := (zB.keep (((((b3.next (Nat.le_refl _) b4).next (Nat.le_refl _) b5).next (Nat.le_refl _) b6).next (Nat.le_refl _) b7).next (Nat.le_refl _) b8) zB.lt).cells
    have C := Lib.hid (implCrowd _ l x y c_ r_ w8 (o1.reads.below ((((((b2.next (Nat.le_refl _) b3).next (Nat.le_refl _) b4).next (Nat.le_refl _) b5).next (Nat.le_refl _) b6).next (Nat.le_refl _) b7).next (Nat.le_refl _) b8) (Nat.le_refl _)))
    rw [E4.out] at C
    go_wp2_with fail
    refine C.out.mono ?_; rintro e w9 ⟨u9, rfl, o9, b9⟩
    clear C
    clear c0 c1 c2 c3
    obtain ⟨c0, c1, c2, c3, _, _, _, _⟩ := (zB.keep ((((((b3.next (Nat.le_refl _) b4).next (Nat.le_refl _) b5).next (Nat.le_refl _) b6).next (Nat.le_refl _) b7).next (Nat.le_refl _) b8).next (Nat.le_refl _) b9) zB.lt).cells
    have C := Lib.hid (specCrowd _ l x y c_ r_ w9 (o1.reads.below (((((((b2.next (Nat.le_refl _) b3).next (Nat.le_refl _) b4).next (Nat.le_refl _) b5).next (Nat.le_refl _) b6).next (Nat.le_refl _) b7).next (Nat.le_refl _) b8).next (Nat.le_refl _) b9) (Nat.le_refl _)))
    rw [E4.out] at C
    go_wp2_with fail
    refine C.out.mono ?_; rintro e w10 ⟨u10, rfl, o10, b10⟩
    clear C
    clear c0 c1 c2 c3
    have C := Lib.hid (pSameTexts_yes _ _ V w10 (o3.reads.below ((((((b4.next (Nat.le_refl _) b5).next (Nat.le_refl _) b6).next (Nat.le_refl _) b7).next (Nat.le_refl _) b8).next (Nat.le_refl _) b9).next (Nat.le_refl _) b10) (Nat.le_refl _)) (o4.reads.below (((((b5.next (Nat.le_refl _) b6).next (Nat.le_refl _) b7).next (Nat.le_refl _) b8).next (Nat.le_refl _) b9).next (Nat.le_refl _) b10) (Nat.le_refl _)))
    go_wp2_with fail
    refine C.out.mono ?_; rintro e w11 ⟨rfl, b11⟩
    clear C
    have C := Lib.hid (sameInts_any _ _ H H w11 (o5.reads.below (((((b6.next (Nat.le_refl _) b7).next (Nat.le_refl _) b8).next (Nat.le_refl _) b9).next (Nat.le_refl _) b10).next (Nat.le_refl _) b11) (Nat.le_refl _)) (o6.reads.below ((((b7.next (Nat.le_refl _) b8).next (Nat.le_refl _) b9).next (Nat.le_refl _) b10).next (Nat.le_refl _) b11) (Nat.le_refl _)))
    rw [show (H == H) = true from by simp] at C
    go_wp2_with fail
    refine C.out.mono ?_; rintro e w12 ⟨rfl, b12⟩
    clear C
    have C := Lib.hid (sameLists_any _ _ Cr Cr w12 (o9.below ((b10.next (Nat.le_refl _) b11).next (Nat.le_refl _) b12) (Nat.le_refl _)).reads (o10.below (b11.next (Nat.le_refl _) b12) (Nat.le_refl _)).reads)
    rw [show (Cr == Cr) = true from by simp] at C
    go_wp2_with fail
    refine C.out.mono ?_; rintro e w13 ⟨rfl, b13⟩
    clear C
    go_upto_region 14 with fail
    go_upto_if 165 with fail
    go_cut [] from 23 to 300 (fun wx => Below w13.heap.size w13 wx)
    case first =>
      as_aux_lemma =>
        cases ok
        case false =>
          go_wp2_with fail
          go_meet
          exact (Below.refl w13.heap.size w13)
        case true =>
          obtain ⟨C, R, ⟨hcC, hrR, hb_, hfr, hl12, _, hvl, hvs, htx, hnd, hsays, hwf, M, hm1, hm2, hwm⟩⟩ := E5.out rfl
          subst hcC hrR
          clear E1 E2 E3 E4 E5
          have HFR := Lib.hid (hfr)
          have HVS := Lib.hid (hvs)
          have HTX := Lib.hid (htx)
          have HND := Lib.hid (hnd)
          have SAYS := Lib.hid (hsays)
          have HWF := Lib.hid (hwf)
          have HM1 := Lib.hid (hm1)
          have HM2 := Lib.hid (hm2)
          have HWM := Lib.hid (hwm)
          have HVL := Lib.hid (hvl)
          clear hfr hvs htx hnd hsays hwf hm1 hm2 hwm
          have oVw : RowAt strRec w4 u4 V := o4.reads
          obtain ⟨AV, cV, hvV, hnV, hcV⟩ := oVw.shape
          subst hvV
          have oHw : IntsAt w6 u6 H := o6.reads
          obtain ⟨AH, cH, hvH, hnH, hcH⟩ := oHw.shape
          subst hvH
          have oLw : RowAt sptRec w1 u1 l := o1.reads
          obtain ⟨AL, cL, hvL, hnL, hcL⟩ := oLw.shape
          subst hvL
          have rV := Lib.hid (((oVw.below ((((((((b5.next (Nat.le_refl _) b6).next (Nat.le_refl _) b7).next (Nat.le_refl _) b8).next (Nat.le_refl _) b9).next (Nat.le_refl _) b10).next (Nat.le_refl _) b11).next (Nat.le_refl _) b12).next (Nat.le_refl _) b13) (Nat.le_refl _)) : RowAt strRec w13 _ V))
          have rH := Lib.hid (((oHw.below ((((((b7.next (Nat.le_refl _) b8).next (Nat.le_refl _) b9).next (Nat.le_refl _) b10).next (Nat.le_refl _) b11).next (Nat.le_refl _) b12).next (Nat.le_refl _) b13) (Nat.le_refl _)) : IntsAt w13 _ H))
          have rL := Lib.hid (((oLw.below (((((((((((b2.next (Nat.le_refl _) b3).next (Nat.le_refl _) b4).next (Nat.le_refl _) b5).next (Nat.le_refl _) b6).next (Nat.le_refl _) b7).next (Nat.le_refl _) b8).next (Nat.le_refl _) b9).next (Nat.le_refl _) b10).next (Nat.le_refl _) b11).next (Nat.le_refl _) b12).next (Nat.le_refl _) b13) (Nat.le_refl _)) : RowAt sptRec w13 _ l))
          have zB9 := Lib.hid ((zB.keep ((((((((((b3.next (Nat.le_refl _) b4).next (Nat.le_refl _) b5).next (Nat.le_refl _) b6).next (Nat.le_refl _) b7).next (Nat.le_refl _) b8).next (Nat.le_refl _) b9).next (Nat.le_refl _) b10).next (Nat.le_refl _) b11).next (Nat.le_refl _) b12).next (Nat.le_refl _) b13) zB.lt))
          have rV1 := Lib.hid (((o3.reads.below (((((((((b4.next (Nat.le_refl _) b5).next (Nat.le_refl _) b6).next (Nat.le_refl _) b7).next (Nat.le_refl _) b8).next (Nat.le_refl _) b9).next (Nat.le_refl _) b10).next (Nat.le_refl _) b11).next (Nat.le_refl _) b12).next (Nat.le_refl _) b13) (Nat.le_refl _)) : RowAt strRec w13 _ V))
          have hnl := ndL_bd (L := V) (fun k hk => by have := HVS.out k hk; omega)
          have HNL := Lib.hid (hnl)
          clear hnl
          have hsm := Lib.hid (fun k (hk : k ≤ V.length) => tx_small (k := k) HVS.out hvl (by omega) (by omega) hk)
          clear hvl
          have hnz : (⟨#[10]⟩ : ByteArray).size = 1 := rfl
          go_wp2_with fail
          go_loopw [23, 24, 168] (fun s t q wr => ∃ k : Nat, k ≤ V.length ∧ s = .string (tx V k) ∧ t = .int .i64 (ndL V k) ∧ q = .int .i64 k ∧ Below w13.heap.size w13 wr) (fun _ _ q _ => V.length - (intOf q).toNat)
          case atStart => exact ⟨0, Nat.zero_le _, rfl, rfl, rfl, Below.refl _ _⟩
          case round =>
            obtain ⟨k, hk, rfl, rfl, rfl, hb⟩ := hrel
            by_cases hlt : k < V.length
            · obtain ⟨bV, oV, hA9, hcs⟩ := str_at (rV.out.below hb (Nat.le_refl _)) k hlt
              subst hA9
              have hst := Lib.hid (tx_succ V k)
              have hns := Lib.hid (ndL_succ V k)
              have htz := hsm.out k (by omega)
              have hnz1 := HNL.out k (by omega)
              have hsz := HVS.out k hlt
              obtain ⟨s, hse⟩ : ∃ s, s = gx strRec V k := ⟨_, rfl⟩
              rw [← hse] at hcs hst hns hsz
              clear hse
              have hk0 : (0 : Int) ≤ (k : Int) := by omega
              have hk1 : (k : Int) < (V.length : Int) := by omega
              obtain ⟨z, hz⟩ : ∃ z, z = ndL V k := ⟨_, rfl⟩
              rw [← hz] at hnz1 hns
              rw [← hz]
              clear hz
              have hs60 : s.size ≤ 60 := by omega
              have hz18 : z ≤ 1800 := by omega
              have hz0 := hnz1.1
              clear hnz1
              have Hsz := Lib.hid hsz
              clear hsz
              obtain ⟨X, hX⟩ : ∃ X, X = tx V k := ⟨_, rfl⟩
              rw [← hX] at hst htz
              rw [← hX]
              clear hX
              go_wp2_with fail
              go_loopw [24, 27] (fun p i w9 => ∃ m : Nat, m ≤ s.size ∧ i = .int .i64 m ∧ p = .int .i64 (z + nd s m) ∧ w9 = wr) (fun _ i _ => s.size - (intOf i).toNat)
              case atStart => exact ⟨0, Nat.zero_le _, rfl, congrArg (Value.int .i64) (by show z = z + 0; omega), rfl⟩
              case round =>
                obtain ⟨m, hm, rfl, rfl, rfl⟩ := hrel
                by_cases hlm : m < s.size
                · obtain ⟨n, hn⟩ : ∃ n, n = bt s m := ⟨_, rfl⟩
                  have hb9 : (s[m]).toNat = n := by rw [hn]; exact bt_eq hlm
                  have hnd := nd_bd s m
                  obtain ⟨p, hp⟩ : ∃ p, p = z + nd s m := ⟨_, rfl⟩
                  have hp2 : 0 ≤ p ∧ p ≤ 2000 := by omega
                  rw [← hp]
                  have HN := Lib.hid (hn)
                  have HP := Lib.hid (hp)
                  clear hn hp hnd
                  by_cases hd : n = 46
                  · have y1 : ((n : Int) != 46) = false := by rw [hd]; rfl
                    have HD := Lib.hid (hd)
                    clear hd
                    go_wp2_with fail
                    go_roundw
                    case rel => exact ⟨m + 1, by omega, by go_num, congrArg (Value.int .i64) (by rw [nd_dot (by rw [← HN.out]; exact HD.out)]; exact HP.out), trivial⟩
                    case measure => simp [intOf]; omega
                  · have y1 : ((n : Int) != 46) = true := by simp; omega
                    have HD := Lib.hid (hd)
                    clear hd
                    go_wp2_with fail
                    go_roundw
                    case rel => exact ⟨m + 1, by omega, by go_num, congrArg (Value.int .i64) (by rw [nd_no (by rw [← HN.out]; exact HD.out)]; have := HP.out; omega), trivial⟩
                    case measure => simp [intOf]; omega
                · obtain rfl : m = s.size := by omega
                  go_wp2_with fail
                  go_roundw
                  case rel => exact ⟨k + 1, by omega, by rw [hst.out], congrArg (Value.int .i64) hns.out.symm, by go_num, hb⟩
                  case measure => simp [intOf]; omega
            · obtain rfl : k = V.length := by omega
              obtain ⟨w14, hw14⟩ : ∃ w9 : World, w9 = wr := ⟨_, rfl⟩
              subst hw14
              have b14 := hb
              clear hb
              rw [HTX.out]
              have hnd2 := HND.out
              obtain ⟨z, hz⟩ : ∃ z, z = ndL V V.length := ⟨_, rfl⟩
              rw [← hz] at hnd2
              rw [← hz]
              have hw9 : IntKind.i64.wrap (z + (H.length : Int)) = (l.length : Int) := by rw [hnd2]; exact IntWalk.i64_in _ (by omega)
              have hvR : (V.length : Int) = (R : Int) := by have := HVL.out; omega
              have HND2 := Lib.hid (hnd2)
              have Hz := Lib.hid (hz)
              clear hnd2 hz
              obtain ⟨c0, c1, c2, c3, _, _, _, _⟩ := (zB.keep (((((((((((b3.next (Nat.le_refl _) b4).next (Nat.le_refl _) b5).next (Nat.le_refl _) b6).next (Nat.le_refl _) b7).next (Nat.le_refl _) b8).next (Nat.le_refl _) b9).next (Nat.le_refl _) b10).next (Nat.le_refl _) b11).next (Nat.le_refl _) b12).next (Nat.le_refl _) b13).next (Nat.le_refl _) b14) zB.lt).cells
              have CF := Lib.hid (implIsFrameOf x y (C : Int) (R : Int) w14)
              rw [HFR.out] at CF
              go_wp2_with fail
              refine CF.out.mono ?_; rintro e w15 ⟨rfl, b15⟩
              clear CF hw9 hvR
              clear c0 c1 c2 c3
              have bW := Lib.hid ((b14.next (Nat.le_refl _) b15))
              go_wp2_with fail
              go_loopw [215] (fun s wr => ∃ i : Nat, i ≤ l.length ∧ s = .int .i64 i ∧ Below w13.heap.size w13 wr) (fun s _ => l.length - (intOf s).toNat)
              case atStart => exact ⟨0, Nat.zero_le _, rfl, bW.out⟩
              case round =>
                obtain ⟨i, hi, rfl, hb⟩ := hrel
                by_cases hlt : i < l.length
                · obtain ⟨bU, oU, hA9, d0, d1⟩ := spt_at (rL.out.below hb (Nat.le_refl _)) i hlt
                  subst hA9
                  have hi0 : (0 : Int) ≤ (i : Int) := by omega
                  have hi1 : (i : Int) < (l.length : Int) := by omega
                  have zr := (zB9.out.keep hb zB9.out.lt).al (.cells #[.int .i64 (gx sptRec l i).x, .int .i64 (gx sptRec l i).y] 25)
                  have sr := BoxS.new wr (gx sptRec l i).x (gx sptRec l i).y
                  have br := hb.alloc hb.size (.cells #[.int .i64 (gx sptRec l i).x, .int .i64 (gx sptRec l i).y] 25)
                  obtain ⟨wq, hwq⟩ : ∃ W, W = wr.alloc (.cells #[.int .i64 (gx sptRec l i).x, .int .i64 (gx sptRec l i).y] 25) := ⟨_, rfl⟩
                  obtain ⟨Q, hQ⟩ : ∃ X, X = wr.heap.size := ⟨_, rfl⟩
                  rw [← hwq] at zr sr br
                  rw [← hQ] at sr
                  have HWq := Lib.hid (hwq)
                  have HQ := Lib.hid (hQ)
                  clear hwq hQ
                  have hsay := SAYS.out i hlt
                  unfold CellSays at hsay
                  go_upto_region 32 with fail
                  rw [← HWq.out, ← HQ.out]
                  obtain ⟨c0, c1, c2, c3, _, _, _, _⟩ := zr.cells
                  obtain ⟨s0, s1, _, _⟩ := sr.cells
                  clear d0 d1
                  have C1 := Lib.hid (implCellOf x y C R (gx sptRec l i).x (gx sptRec l i).y wq)
                  have C2 := Lib.hid (fun W => specCellOf x y C R (gx sptRec l i).x (gx sptRec l i).y W)
                  rcases hsay with ⟨a, b, e12, hp⟩ | ⟨a, b, n, nb, ha, hn, hbn, hb30, hbt, hnb, e12, hp⟩
                  · skip
                    rw [e12] at C1
                    have C2h : Hid (∀ W, Calls Try.prog 20 #[.agg #[.int .i64 x, .int .i64 y, .int .i64 (C : Int), .int .i64 (R : Int)], .agg #[.int .i64 (gx sptRec l i).x, .int .i64 (gx sptRec l i).y]] W fun e w' => e = .returned (.tuple #[.int .i64 a, .int .i64 b, .bool false]) ∧ Below W.heap.size W w') := fun W => by have h9 := C2.out W; rw [e12] at h9; exact h9
                    clear e12 C2
                    go_wp2_with fail
                    refine C1.out.mono ?_; rintro e w9 ⟨rfl, b9⟩
                    have zq := zr.keep b9 zr.lt
                    have sq := sr.keep b9 (Nat.le_refl _)
                    have br9 := br.next (Nat.le_refl _) b9
                    clear c0 c1 c2 c3 s0 s1 C1
                    obtain ⟨c0, c1, c2, c3, _, _, _, _⟩ := zq.cells
                    obtain ⟨s0, s1, _, _⟩ := sq.cells
                    go_wp2_with fail
                    refine (C2h.out _).mono ?_; rintro e w10 ⟨rfl, b10⟩
                    have br10 := br9.next (Nat.le_refl _) b10
                    clear c0 c1 c2 c3 s0 s1 C2h
                    have C := Lib.hid (pIn_any _ H (i : Int) w10 (rH.out.below br10 (Nat.le_refl _)))
                    rw [hp] at C
                    go_wp2_with fail
                    refine C.out.mono ?_; rintro e _ ⟨rfl, rfl⟩
                    clear C
                    go_upto_region 36 with fail
                    go_quiet (fail)
                    go_wp2_with fail
                    go_roundw
                    case rel => exact ⟨i + 1, by omega, by go_num, br10.drewN _⟩
                    case measure => simp [intOf]; omega
                  · skip
                    rw [e12] at C1
                    have C2h : Hid (∀ W, Calls Try.prog 20 #[.agg #[.int .i64 x, .int .i64 y, .int .i64 (C : Int), .int .i64 (R : Int)], .agg #[.int .i64 (gx sptRec l i).x, .int .i64 (gx sptRec l i).y]] W fun e w' => e = .returned (.tuple #[.int .i64 (a : Int), .int .i64 (b : Int), .bool true]) ∧ Below W.heap.size W w') := fun W => by have h9 := C2.out W; rw [e12] at h9; exact h9
                    clear e12 C2
                    go_wp2_with fail
                    refine C1.out.mono ?_; rintro e w9 ⟨rfl, b9⟩
                    have zq := zr.keep b9 zr.lt
                    have sq := sr.keep b9 (Nat.le_refl _)
                    have br9 := br.next (Nat.le_refl _) b9
                    clear c0 c1 c2 c3 s0 s1 C1
                    obtain ⟨c0, c1, c2, c3, _, _, _, _⟩ := zq.cells
                    obtain ⟨s0, s1, _, _⟩ := sq.cells
                    go_wp2_with fail
                    refine (C2h.out _).mono ?_; rintro e w10 ⟨rfl, b10⟩
                    have br10 := br9.next (Nat.le_refl _) b10
                    clear c0 c1 c2 c3 s0 s1 C2h
                    have hw1 : IntKind.i64.wrap ((R : Int) - 1) = (R : Int) - 1 := IntWalk.i64_in _ (by omega)
                    have hw2 : IntKind.i64.wrap ((R : Int) - 1 - (b : Int)) = (n : Int) := by rw [hbn]; exact IntWalk.i64_in _ (by omega)
                    have hw3 : IntKind.i64.wrap (65 + (i : Int)) = 65 + (i : Int) := IntWalk.i64_in _ (by omega)
                    have hw4 : IntKind.u8.wrap (65 + (i : Int)) = 65 + (i : Int) := IntWalk.u8_in _ (by omega)
                    have hnV : n < V.length := by have := HVL.out; omega
                    have hsz := HVS.out n hnV
                    obtain ⟨bV, oV, hA9, hcs⟩ := str_at (rV.out.below br10 (Nat.le_refl _)) n hnV
                    subst hA9
                    obtain ⟨sn, hse⟩ : ∃ sn, sn = gx strRec V n := ⟨_, rfl⟩
                    rw [← hse] at hcs hsz hbt
                    clear hse
                    have haz : a < sn.size := by omega
                    have hb9 : (sn[a]).toNat = nb := by rw [bt_eq haz]; exact hbt
                    have ha0 : (0 : Int) ≤ (a : Int) := by omega
                    have ha1 : (a : Int) < (sn.size : Int) := by omega
                    have hn0 : (0 : Int) ≤ (n : Int) := by omega
                    have hn1 : (n : Int) < (V.length : Int) := by omega
                    have hR9 := rH.out.below br10 (Nat.le_refl _)
                    obtain ⟨c0, c1, c2, c3, _, _, _, _⟩ := (zq.keep b10 zq.lt).cells
                    have HBN := Lib.hid hbn
                    have HBT := Lib.hid hbt
                    have Hsz := Lib.hid hsz
                    clear hbn hbt hsz zr sr zq sq
                    cases hq : ((nb : Int) == 65 + (i : Int))
                    all_goals
                      rw [hq] at hp
                      have hp2 : pinB H (i : Int) = _ := hp
                      simp only [Bool.not_true, Bool.not_false] at hp2
                      have CP := Lib.hid (fun n9 => pIn_any _ H (i : Int) (w10.drewN n9) hR9)
                      rw [hp2] at CP
                      have HP2 := Lib.hid hp2
                      clear hp hp2
                      go_upto_region 36 with fail
                      go_quiet ((go_at_call 21; exact Calls.quiet_of_same ((CP.out _).mono fun _ _ ⟨x9, y9⟩ => ⟨x9, y9.symm⟩)))
                      clear hw1 hw2 hw3 hw4
                      go_wp2_with fail
                      go_roundw
                      case rel => exact ⟨i + 1, by omega, by go_num, br10.drewN _⟩
                      case measure => simp [intOf]; omega
                · obtain rfl : i = l.length := by omega
                  obtain ⟨w16, hw16⟩ : ∃ w9 : World, w9 = wr := ⟨_, rfl⟩
                  subst hw16
                  have C := Lib.hid (implMirror _ V w16 (rV1.out.below hb (Nat.le_refl _)) HWF.out)
                  rw [HM1.out] at C
                  go_wp2_with fail
                  refine C.out.mono ?_; rintro e w17 ⟨u17, rfl, o17, b17⟩
                  clear C
                  have oMr := o17.reads
                  have C := Lib.hid (implMirror _ M w17 oMr HWM.out)
                  rw [HM2.out] at C
                  go_wp2_with fail
                  refine C.out.mono ?_; rintro e w18 ⟨u18, rfl, o18, b18⟩
                  clear C
                  have oNr := o18.reads
                  have C := Lib.hid (pSameTexts_yes _ _ V w18 oNr (rV.out.below ((hb.next (Nat.le_refl _) b17).next (Nat.le_refl _) b18) (Nat.le_refl _)))
                  go_wp2_with fail
                  refine C.out.mono ?_; rintro e w19 ⟨rfl, b19⟩
                  clear C
                  go_wp2_with fail
                  go_meet
                  exact (((hb.next (Nat.le_refl _) b17).next (Nat.le_refl _) b18).next (Nat.le_refl _) b19)
    case rest =>
      skip
      obtain ⟨w14, hw14⟩ : ∃ w9 : World, w9 = wc := ⟨_, rfl⟩
      subst hw14
      have b14 := hcut
      clear hcut
      have C := Lib.hid (drawMirrorView_any _ more w14 (h1.below (((((((((((((b1.next (Nat.le_refl _) b2).next (Nat.le_refl _) b3).next (Nat.le_refl _) b4).next (Nat.le_refl _) b5).next (Nat.le_refl _) b6).next (Nat.le_refl _) b7).next (Nat.le_refl _) b8).next (Nat.le_refl _) b9).next (Nat.le_refl _) b10).next (Nat.le_refl _) b11).next (Nat.le_refl _) b12).next (Nat.le_refl _) b13).next (Nat.le_refl _) b14) (Nat.le_refl _)) f1 (by omega))
      go_wp2_with fail
      refine C.out.mono ?_; rintro e w15 ⟨u31, Lm, rfl, o31, b15, _, hLs⟩
      clear C
      have HLw := Lib.hid (wfStrs_of (by decide) hLs)
      clear hLs
      obtain ⟨Mm, okm, e21⟩ : ∃ Mm okm, rMirror Lm = (Mm, okm) := ⟨_, _, rfl⟩
      have E21 := Lib.hid (e21)
      clear e21
      have C := Lib.hid (implMirror _ Lm w15 o31.reads HLw.out)
      rw [E21.out] at C
      go_wp2_with fail
      refine C.out.mono ?_; rintro e w16 ⟨u32, rfl, o32, b16⟩
      clear C
      have C := Lib.hid (specMirror _ Lm w16 (o31.reads.below b16 (Nat.le_refl _)) HLw.out)
      rw [E21.out] at C
      go_wp2_with fail
      refine C.out.mono ?_; rintro e w17 ⟨u33, rfl, o33, b17⟩
      clear C
      have C := Lib.hid (drawCellOf_any _ more w17 (h1.below ((((((((((((((((b1.next (Nat.le_refl _) b2).next (Nat.le_refl _) b3).next (Nat.le_refl _) b4).next (Nat.le_refl _) b5).next (Nat.le_refl _) b6).next (Nat.le_refl _) b7).next (Nat.le_refl _) b8).next (Nat.le_refl _) b9).next (Nat.le_refl _) b10).next (Nat.le_refl _) b11).next (Nat.le_refl _) b12).next (Nat.le_refl _) b13).next (Nat.le_refl _) b14).next (Nat.le_refl _) b15).next (Nat.le_refl _) b16).next (Nat.le_refl _) b17) (Nat.le_refl _)) f1 (by omega))
      go_wp2_with fail
      refine C.out.mono ?_; rintro e w18 ⟨fx, fy, fc, fr, sx, sy, rfl, b18⟩
      clear C
      have zG : BoxFr (w18.alloc (.cells #[.int .i64 fx, .int .i64 fy, .int .i64 fc, .int .i64 fr] 27)) w18.heap.size fx fy fc fr := BoxFr.new w18 fx fy fc fr
      have b19 : Below w18.heap.size w18 (w18.alloc (.cells #[.int .i64 fx, .int .i64 fy, .int .i64 fc, .int .i64 fr] 27)) := (Below.refl _ w18).alloc (Nat.le_refl _) (.cells #[.int .i64 fx, .int .i64 fy, .int .i64 fc, .int .i64 fr] 27)
      obtain ⟨w19, hw19⟩ : ∃ W, W = (w18.alloc (.cells #[.int .i64 fx, .int .i64 fy, .int .i64 fc, .int .i64 fr] 27)) := ⟨_, rfl⟩
      obtain ⟨G, hG⟩ : ∃ X, X = w18.heap.size := ⟨_, rfl⟩
      rw [← hw19] at zG b19
      rw [← hG] at zG
      have HW19 := Lib.hid (hw19)
      have HG := Lib.hid (hG)
      clear hw19 hG
      have zS : BoxS (w19.alloc (.cells #[.int .i64 sx, .int .i64 sy] 25)) w19.heap.size sx sy := BoxS.new w19 sx sy
      have b20 : Below w19.heap.size w19 (w19.alloc (.cells #[.int .i64 sx, .int .i64 sy] 25)) := (Below.refl _ w19).alloc (Nat.le_refl _) (.cells #[.int .i64 sx, .int .i64 sy] 25)
      obtain ⟨w20, hw20⟩ : ∃ W, W = (w19.alloc (.cells #[.int .i64 sx, .int .i64 sy] 25)) := ⟨_, rfl⟩
      obtain ⟨S, hS⟩ : ∃ X, X = w19.heap.size := ⟨_, rfl⟩
      rw [← hw20] at zS b20
      rw [← hS] at zS
      have HW20 := Lib.hid (hw20)
      have HS := Lib.hid (hS)
      clear hw20 hS
      have hSG : S = G + 1 := by rw [HS.out, HW19.out, HG.out]; simp
      have HSG := Lib.hid (hSG)
      clear hSG
      go_upto_region 47 with fail
      rw [← HW19.out, ← HW20.out, ← HG.out, ← HSG.out]
      obtain ⟨ca, cb_, co, e22⟩ : ∃ ca cb_ co, rCell fx fy fc fr sx sy = (ca, cb_, co) := ⟨_, _, _, rfl⟩
      have E22 := Lib.hid (e22)
      clear e22
      obtain ⟨c0, c1, c2, c3, _, _, _, _⟩ := (zG.keep b20 zG.lt).cells
      obtain ⟨s0, s1, _, _⟩ := zS.cells
      have C := Lib.hid (implCellOf fx fy fc fr sx sy w20)
      rw [E22.out] at C
      go_wp2_with fail
      refine C.out.mono ?_; rintro e w21 ⟨rfl, b21⟩
      clear C
      clear c0 c1 c2 c3
      clear s0 s1
      obtain ⟨c0, c1, c2, c3, _, _, _, _⟩ := (zG.keep (b20.next (Nat.le_refl _) b21) zG.lt).cells
      obtain ⟨s0, s1, _, _⟩ := (zS.keep b21 (Nat.le_refl _)).cells
      have C := Lib.hid (specCellOf fx fy fc fr sx sy w21)
      rw [E22.out] at C
      go_wp2_with fail
      refine C.out.mono ?_; rintro e w22 ⟨rfl, b22⟩
      clear C
      clear c0 c1 c2 c3
      clear s0 s1
      have C := Lib.hid (pSameTexts_yes _ _ Mm w22 (o32.reads.below (((((b17.next (Nat.le_refl _) b18).next (Nat.le_refl _) b19).next (Nat.le_refl _) b20).next (Nat.le_refl _) b21).next (Nat.le_refl _) b22) (Nat.le_refl _)) (o33.reads.below ((((b18.next (Nat.le_refl _) b19).next (Nat.le_refl _) b20).next (Nat.le_refl _) b21).next (Nat.le_refl _) b22) (Nat.le_refl _)))
      go_wp2_with fail
      refine C.out.mono ?_; rintro e w23 ⟨rfl, b23⟩
      clear C
      go_wp2_with fail
      go_ret
      exact ⟨by simp, ((((((((((((((((((((((b1.next (Nat.le_refl _) b2).next (Nat.le_refl _) b3).next (Nat.le_refl _) b4).next (Nat.le_refl _) b5).next (Nat.le_refl _) b6).next (Nat.le_refl _) b7).next (Nat.le_refl _) b8).next (Nat.le_refl _) b9).next (Nat.le_refl _) b10).next (Nat.le_refl _) b11).next (Nat.le_refl _) b12).next (Nat.le_refl _) b13).next (Nat.le_refl _) b14).next (Nat.le_refl _) b15).next (Nat.le_refl _) b16).next (Nat.le_refl _) b17).next (Nat.le_refl _) b18).next (Nat.le_refl _) b19).next (Nat.le_refl _) b20).next (Nat.le_refl _) b21).next (Nat.le_refl _) b22).next (Nat.le_refl _) b23)⟩
end Go.Proofs.Ytjbffahnbkpcnaa
