/- The walk of the law FnEditTexts: whatever the bytes, it returns true and writes nothing that was there. -/
import Derived.Test.YtombnhnhbocceaaGreatDoorEtU
import Derived.Test.YtombnhnhbocceaaGreatDoorSqP
import Derived.Test.YtombnhnhbocceaaGreatDoorDrawSpo
import Derived.Test.YtombnhnhbocceaaGreatDoorHelpL
import Derived.Test.YtombnhnhbocceaaGreatDoorQuietB
import Derived.Test.YtombnhnhbocceaaGreatDoorOpen
import Derived.Deep.DeepCutAuto
set_option linter.unusedSimpArgs false
set_option linter.unusedVariables false
namespace Go.Proofs.YtombnhnhbocceaaGreatDoor
open Go.RowKit Go.Sort

set_option maxRecDepth 100000 in
set_option maxHeartbeats 12800000 in
theorem FnEditTexts_walk (v0 : Value) (code : List Nat) (v1 : Value) (more : List Nat) (w0 : World) (h0 : BytesAt w0 v0 code) (f0 : WfCode code) (h1 : BytesAt w0 v1 more) (f1 : WfCode more) (hPow : Pow10 w0) {mx : Int} (hMax : MaxW w0 mx) :
    Calls Tryz.prog 3 #[v0, v1] w0 (LawPost w0) := by
  obtain ⟨A0, c0, rfl, hn0, hc0⟩ := h0.shape
  obtain ⟨A1, c1, rfl, hn1, hc1⟩ := h1.shape
  cases hbig : bigB code more
  case true =>
    go_enter Tryz.func3, Tryz.ntmps3
    go_wp2_with fail
    refine (big_any _ _ code more _ h0 h1).mono ?_; rintro e _ ⟨rfl, rfl⟩
    rw [hbig]
    go_wp2_with fail
    go_ret
    exact ⟨rfl, Below.refl _ _⟩
  case false =>
    have hsz : code.length + more.length ≤ 1048576 := by unfold bigB at hbig; have := of_decide_eq_false hbig; omega
    go_enter Tryz.func3, Tryz.ntmps3
    go_wp2_with fail
    refine (big_any _ _ code more _ h0 h1).mono ?_; rintro e _ ⟨rfl, rfl⟩
    rw [hbig]
    clear hbig
    have C := Lib.hid (drawEditsText_any _ code w0 h0 f0)
    go_wp2_with fail
    refine C.out.mono ?_; rintro e w1 ⟨u1, l, rfl, o1, b1, hl31⟩
    clear C
    obtain ⟨T, ok, Q, one, e1, e2, hT, hQ12, e3, e4, e5⟩ := edits_ex l
    have E1 := Lib.hid (e1)
    have E2 := Lib.hid (e2)
    have E3 := Lib.hid (e3)
    have E4 := Lib.hid (e4)
    have E5 := Lib.hid (e5)
    clear e1 e2 e3 e4 e5
    have C := Lib.hid (implEditsText _ l w1 o1.reads (hPow.below b1 (Nat.le_refl _)))
    rw [E1.out] at C
    go_wp2_with fail
    refine C.out.mono ?_; rintro e w2 ⟨rfl, b2⟩
    clear C
    have C := Lib.hid (specEditsText _ l w2 (o1.reads.below b2 (Nat.le_refl _)))
    rw [E1.out] at C
    go_wp2_with fail
    refine C.out.mono ?_; rintro e w3 ⟨rfl, b3⟩
    clear C
    have C := Lib.hid (implSq _ l w3 (o1.reads.below (b2.next (Nat.le_refl _) b3) (Nat.le_refl _)))
    rw [E2.out] at C
    go_wp2_with fail
    refine C.out.mono ?_; rintro e w4 ⟨u4, rfl, o4, b4⟩
    clear C
    have C := Lib.hid (specSq _ l w4 (o1.reads.below ((b2.next (Nat.le_refl _) b3).next (Nat.le_refl _) b4) (Nat.le_refl _)))
    rw [E2.out] at C
    go_wp2_with fail
    refine C.out.mono ?_; rintro e w5 ⟨u5, rfl, o5, b5⟩
    clear C
    go_upto_region 8 with fail
    go_cut [102] from 77 to 102 (fun s wx => s = .bool false ∧ Below w5.heap.size w5 wx)
    case first =>
      have C := Lib.hid (pSameEdits_yes _ _ Q w5 (o4.reads.below b5 (Nat.le_refl _)) o5.reads)
      cases one
      case false =>
        go_wp2_with fail
        refine C.out.mono ?_; rintro e w9 ⟨rfl, b9⟩
        go_wp2_with fail
        go_meet
        exact ⟨by simp, b9⟩
      case true =>
        obtain rfl := E3.out rfl
        go_wp2_with fail
        refine C.out.mono ?_; rintro e w9 ⟨rfl, b9⟩
        go_wp2_with fail
        go_meet
        exact ⟨by simp, b9⟩
    case rest =>
      obtain ⟨rfl, hb9⟩ := hcut
      obtain ⟨w6, hw6⟩ : ∃ w9 : World, w9 = wc := ⟨_, rfl⟩
      subst hw6
      have b6 := hb9
      clear hb9
      go_upto_region 10 with fail
      go_upto_if 103 with fail
      go_cut [] from 14 to 180 (fun wx => Below w6.heap.size w6 wx)
      case first =>
        as_aux_lemma =>
          cases ok
          case false =>
            go_wp2_with fail
            go_meet
            exact (Below.refl w6.heap.size w6)
          case true =>
            obtain ⟨e6, hl30, hsm, hall⟩ := E4.out rfl
            have E6 := Lib.hid (e6)
            have HSM := Lib.hid (hsm)
            have HALL := Lib.hid (hall)
            clear e6 hsm hall
            have C := Lib.hid (implPE T w6 (hMax.below (((((b1.next (Nat.le_refl _) b2).next (Nat.le_refl _) b3).next (Nat.le_refl _) b4).next (Nat.le_refl _) b5).next (Nat.le_refl _) b6) (Nat.le_refl _)) (by omega))
            rw [E6.out] at C
            go_wp2_with fail
            refine C.out.mono ?_; rintro e w7 ⟨u6, rfl, o6, b7⟩
            clear C
            have C := Lib.hid (pSameEdits_yes _ _ l w7 o6.reads (o1.reads.below (((((b2.next (Nat.le_refl _) b3).next (Nat.le_refl _) b4).next (Nat.le_refl _) b5).next (Nat.le_refl _) b6).next (Nat.le_refl _) b7) (Nat.le_refl _)))
            go_wp2_with fail
            refine C.out.mono ?_; rintro e w8 ⟨rfl, b8⟩
            clear C
            have o1w : RowAt edtRec w1 u1 l := o1.reads
            obtain ⟨AL, cL, hvL, hnL, hcL⟩ := o1w.shape
            subst hvL
            have rL := Lib.hid (((o1w.below ((((((b2.next (Nat.le_refl _) b3).next (Nat.le_refl _) b4).next (Nat.le_refl _) b5).next (Nat.le_refl _) b6).next (Nat.le_refl _) b7).next (Nat.le_refl _) b8) (Nat.le_refl _)) : RowAt edtRec w8 _ l))
            have hsb := fun n => smE_bd l n hl30
            have HSB := Lib.hid (hsb)
            clear hsb
            go_wp2_with fail
            go_loopw [16, 17] (fun s t wr => ∃ n m : Nat, n = m + 1 ∧ n ≤ 10 ∧ t = .int .i64 n ∧ s = .int .i64 (smE l m) ∧ Below w8.heap.size w8 wr) (fun _ t _ => 10 - (intOf t).toNat)
            case atStart => exact ⟨1, 0, rfl, by omega, rfl, rfl, Below.refl _ _⟩
            case round =>
              obtain ⟨n, m, hnm, hn, rfl, rfl, hb⟩ := hrel
              have hsb := HSB.out m
              by_cases hlt : n ≤ 9
              · obtain ⟨e7, e8, hk9⟩ := HALL.out n (by omega) hlt
                have E7 := Lib.hid (e7)
                have E8 := Lib.hid (e8)
                have HK := Lib.hid (hk9)
                clear e7 e8 hk9
                have hle := eof_len l (n : Int)
                have hsu := smE_succ l m
                rw [← hnm] at hsu
                have HSU := Lib.hid (hsu)
                clear hsu
                obtain ⟨F, hF⟩ : ∃ F, F = eof l (n : Int) := ⟨_, rfl⟩
                have E7f := E7.out
                have HKf := HK.out
                have HSf := HSU.out
                rw [← hF] at E7f HKf HSf hle
                have E7g := Lib.hid (E7f)
                have HKg := Lib.hid (HKf)
                have HSg := Lib.hid (HSf)
                clear hF E7f HKf HSf HK E7 HSU
                obtain ⟨D, hD⟩ : ∃ D, D = tch (rng 0 12) (n : Int) l := ⟨_, rfl⟩
                have E8f := E8.out
                have HKf := HKg.out
                rw [← hD] at E8f HKf
                have E8g := Lib.hid (E8f)
                have HKh := Lib.hid (HKf)
                clear hD E8f HKf HKg E8
                obtain ⟨z, hz⟩ : ∃ z, z = smE l m := ⟨_, rfl⟩
                have HSf := HSg.out
                rw [← hz] at HSf hsb
                rw [← hz]
                have HSh := Lib.hid (HSf)
                clear hz HSf HSg
                have hz0 := hsb.1
                have hz1 := hsb.2
                clear hsb hnm
                have hn9 : (n : Int) ≤ 9 := by omega
                have C := Lib.hid (implOf _ l (n : Int) wr (rL.out.below hb (Nat.le_refl _)))
                rw [E7g.out] at C
                go_wp2_with fail
                refine C.out.mono ?_; rintro e x1 ⟨v1, rfl, p1, a1⟩
                clear C
                have hb1 := hb.next (Nat.le_refl _) a1
                have C := Lib.hid (specOf _ l (n : Int) x1 (rL.out.below hb1 (Nat.le_refl _)))
                rw [E7g.out] at C
                go_wp2_with fail
                refine C.out.mono ?_; rintro e x2 ⟨v2, rfl, p2, a2⟩
                clear C
                have hb2 := hb1.next (Nat.le_refl _) a2
                have C := Lib.hid (implTb _ l (n : Int) x2 (rL.out.below hb2 (Nat.le_refl _)))
                rw [E8g.out] at C
                go_wp2_with fail
                refine C.out.mono ?_; rintro e x3 ⟨v3, rfl, p3, a3⟩
                clear C
                have hb3 := hb2.next (Nat.le_refl _) a3
                have r1 : RowAt edtRec x3 v1 F := (p1.reads.below a2 (Nat.le_refl _)).below a3 (Nat.le_refl _)
                have r2 : RowAt edtRec x3 v2 F := p2.reads.below a3 (Nat.le_refl _)
                have r3 : IntsAt x3 v3 D := p3.reads
                have C := Lib.hid (pSameEdits_yes _ _ F x3 r1 r2)
                obtain ⟨AF, cF, hvF, hnF, hcF⟩ := r2.shape
                subst hvF
                obtain ⟨AD, cD, hvD, hnD, hcD⟩ := r3.shape
                subst hvD
                go_wp2_with fail
                refine C.out.mono ?_; rintro e x4 ⟨rfl, a4⟩
                clear C
                have hb4 := hb3.next (Nat.le_refl _) a4
                have R2 := Lib.hid (r2.below a4 (Nat.le_refl _))
                have R3 := Lib.hid (IntsAt.below r3 a4 (Nat.le_refl _))
                have HB4 := Lib.hid (hb4)
                clear r1 r2 r3 p1 p2 p3 a1 a2 a3 a4 hb1 hb2 hb3
                go_wp2_with fail
                go_loopw [157] (fun s wy => ∃ k : Nat, k ≤ F.length ∧ s = .int .i64 k ∧ Below x4.heap.size x4 wy) (fun s _ => F.length - (intOf s).toNat)
                case atStart => exact ⟨0, Nat.zero_le _, rfl, Below.refl _ _⟩
                case round =>
                  obtain ⟨k, hk, rfl, hbb⟩ := hrel
                  by_cases hkl : k < F.length
                  · obtain ⟨bF, oF, hA9, d0, d1, d2, d3, d4, d5⟩ := edt_at (R2.out.below hbb (Nat.le_refl _)) k hkl
                    subst hA9
                    obtain ⟨hke, hkp⟩ := HKh.out k hkl
                    obtain ⟨x, hx⟩ : ∃ x, x = gx edtRec F k := ⟨_, rfl⟩
                    rw [← hx] at hke hkp d0 d1 d2 d3 d4 d5
                    clear hx
                    rw [hke] at d0
                    have hk0 : (0 : Int) ≤ (k : Int) := by omega
                    have hk1 : (k : Int) < (F.length : Int) := by omega
                    have bX := hbb.alloc hbb.size (.cells #[.int .i64 (n : Int), .int .i64 x.p, .int .i64 x.bx, .int .i64 x.bY, .int .i64 x.ax, .int .i64 x.aY] 39)
                    have C := Lib.hid (pIn_any _ D x.p (wr.alloc (.cells #[.int .i64 (n : Int), .int .i64 x.p, .int .i64 x.bx, .int .i64 x.bY, .int .i64 x.ax, .int .i64 x.aY] 39)) (IntsAt.below R3.out bX (Nat.le_refl _)))
                    rw [hkp] at C
                    have BX := Lib.hid (bX)
                    clear hke hkp bX
                    go_wp2_with fail
                    refine C.out.mono ?_; rintro e _ ⟨rfl, rfl⟩
                    clear C
                    go_wp2_with fail
                    go_roundw
                    case rel => exact ⟨k + 1, by omega, by go_num, BX.out⟩
                    case measure => simp [intOf]; omega
                  · obtain rfl : k = F.length := by omega
                    have hFl : (F.length : Int) ≤ 30 := by omega
                    go_wp2_with fail
                    go_roundw
                    case rel => exact ⟨n + 1, n, rfl, by omega, by go_num, congrArg (Value.int .i64) HSh.out.symm, HB4.out.next (Nat.le_refl _) hbb⟩
                    case measure => simp [intOf]; omega
              · obtain rfl : n = 10 := by omega
                obtain rfl : m = 9 := by omega
                rw [HSM.out]
                go_wp2_with fail
                go_meet
                exact (b7.next (Nat.le_refl _) b8).next (Nat.le_refl _) hb
      case rest =>
        skip
        obtain ⟨w7, hw7⟩ : ∃ w9 : World, w9 = wc := ⟨_, rfl⟩
        subst hw7
        have b7 := hcut
        clear hcut
        go_upto_region 32 with fail
        go_upto_if 181 with fail
        go_cut [] from 26 to 262 (fun wx => Below w7.heap.size w7 wx)
        case first =>
          as_aux_lemma =>
            cases one
            case false =>
              go_wp2_with fail
              go_meet
              exact (Below.refl w7.heap.size w7)
            case true =>
              obtain ⟨e9, hsays⟩ := E5.out rfl
              have E9 := Lib.hid (e9)
              have SAYS := Lib.hid (hsays)
              clear e9 hsays
              have o5w : RowAt edtRec w5 u5 Q := o5.reads
              obtain ⟨AQ, cQ, hvQ, hnQ, hcQ⟩ := o5w.shape
              subst hvQ
              have o1w : RowAt edtRec w1 u1 l := o1.reads
              obtain ⟨AL, cL, hvL, hnL, hcL⟩ := o1w.shape
              subst hvL
              have rL := Lib.hid (((o1w.below (((((b2.next (Nat.le_refl _) b3).next (Nat.le_refl _) b4).next (Nat.le_refl _) b5).next (Nat.le_refl _) b6).next (Nat.le_refl _) b7) (Nat.le_refl _)) : RowAt edtRec w7 _ l))
              have rQ := Lib.hid (((o5w.below (b6.next (Nat.le_refl _) b7) (Nat.le_refl _)) : RowAt edtRec w7 _ Q))
              go_wp2_with fail
              go_loopw [184] (fun s wr => ∃ i : Nat, i ≤ Q.length ∧ s = .int .i64 i ∧ Below w7.heap.size w7 wr) (fun s _ => Q.length - (intOf s).toNat)
              case atStart => exact ⟨0, Nat.zero_le _, rfl, Below.refl _ _⟩
              case round =>
                obtain ⟨i, hi, rfl, hb⟩ := hrel
                by_cases hlt : i < Q.length
                · obtain ⟨bU, oU, hA9, d0, d1, d2, d3, d4, d5⟩ := edt_at (rQ.out.below hb (Nat.le_refl _)) i hlt
                  subst hA9
                  obtain ⟨L, hL, e10, s1, s2, s3, s4⟩ := SAYS.out i hlt
                  obtain ⟨x, hx⟩ : ∃ x, x = gx edtRec Q i := ⟨_, rfl⟩
                  rw [← hx] at d0 d1 d2 d3 d4 d5 e10 s1 s2 s3 s4
                  have S1 := Lib.hid (s1)
                  have S2 := Lib.hid (s2)
                  have S3 := Lib.hid (s3)
                  have S4 := Lib.hid (s4)
                  have E10 := Lib.hid (e10)
                  clear hx e10 s1 s2 s3 s4
                  have hi0 : (0 : Int) ≤ (i : Int) := by omega
                  have hi1 : (i : Int) < (Q.length : Int) := by omega
                  have xP := BoxE.new wr x.e x.p x.bx x.bY x.ax x.aY
                  have bX := hb.alloc hb.size (.cells #[.int .i64 x.e, .int .i64 x.p, .int .i64 x.bx, .int .i64 x.bY, .int .i64 x.ax, .int .i64 x.aY] 39)
                  obtain ⟨X, hX⟩ : ∃ X : World, X = wr.alloc (.cells #[.int .i64 x.e, .int .i64 x.p, .int .i64 x.bx, .int .i64 x.bY, .int .i64 x.ax, .int .i64 x.aY] 39) := ⟨_, rfl⟩
                  obtain ⟨P, hP⟩ : ∃ P, P = wr.heap.size := ⟨_, rfl⟩
                  rw [← hX] at xP bX
                  rw [← hP] at xP
                  have HX := Lib.hid (hX)
                  have HP := Lib.hid (hP)
                  clear hX hP
                  go_upto_region 36 with fail
                  rw [← HX.out, ← HP.out]
                  clear d0 d1 d2 d3 d4 d5
                  obtain ⟨d0, d1, d2, d3, d4, d5, _, _, _, _, _, _⟩ := xP.cells
                  have C := Lib.hid (implLt _ l x.p X (rL.out.below bX (Nat.le_refl _)))
                  rw [E10.out] at C
                  go_wp2_with fail
                  refine C.out.mono ?_; rintro e x1 ⟨rfl, a1⟩
                  clear C d0 d1 d2 d3 d4 d5
                  have bX1 := bX.next (Nat.le_refl _) a1
                  have xP1 := xP.keep a1 (Nat.le_refl _)
                  obtain ⟨d0, d1, d2, d3, d4, d5, _, _, _, _, _, _⟩ := xP1.cells
                  have C := Lib.hid (specLt _ l x.p x1 (rL.out.below bX1 (Nat.le_refl _)))
                  rw [E10.out] at C
                  go_wp2_with fail
                  refine C.out.mono ?_; rintro e x2 ⟨rfl, a2⟩
                  clear C d0 d1 d2 d3 d4 d5
                  have bX2 := bX1.next (Nat.le_refl _) a2
                  have xP2 := xP1.keep a2 (Nat.le_refl _)
                  obtain ⟨d0, d1, d2, d3, d4, d5, _, _, _, _, _, _⟩ := xP2.cells
                  obtain ⟨bL, oL, hA9, c0, c1, c2, c3, c4, c5⟩ := edt_at (rL.out.below bX2 (Nat.le_refl _)) L hL
                  subst hA9
                  rw [S1.out] at c4
                  rw [S2.out] at c5
                  rw [S3.out] at c0
                  have hL0 : (0 : Int) ≤ (L : Int) := by omega
                  have hL1 : (L : Int) < (l.length : Int) := by omega
                  clear xP xP1 xP2 a1 a2 bX bX1
                  rcases Nat.eq_zero_or_pos i with hz | hz
                  · subst hz
                    go_upto_region 38 with fail
                    go_quiet (fail)
                    go_wp2_with fail
                    go_roundw
                    case rel => exact ⟨0 + 1, by omega, by go_num, bX2.drewN _⟩
                    case measure => simp [intOf]; omega
                  · obtain ⟨j, hj⟩ : ∃ j, i = j + 1 := ⟨i - 1, by omega⟩
                    have hj1 : IntKind.i64.wrap ((i : Int) - 1) = (j : Int) := by rw [show (i : Int) - 1 = (j : Int) by omega]; exact IntWalk.i64_in _ (by omega)
                    have hjQ : j < Q.length := by omega
                    obtain ⟨bU2, oU2, hA8, e0, e1, e2, e3, e4, e5⟩ := edt_at (rQ.out.below bX2 (Nat.le_refl _)) j hjQ
                    injection hA8 with hA8; injection hA8 with h91 h92; subst h91 h92
                    have s4 := S4.out hz
                    rw [show i - 1 = j by omega] at s4
                    have hj2 : (0 : Int) ≤ (j : Int) := by omega
                    have hj3 : (j : Int) < (Q.length : Int) := by omega
                    have hipos : (0 : Int) < (i : Int) := by omega
                    have s5 : ¬ (x.p ≤ (gx edtRec Q j).p) := by omega
                    have hJ := Lib.hid hj
                    clear hj
                    go_upto_region 38 with fail
                    go_quiet (fail)
                    clear hj1
                    go_wp2_with fail
                    go_roundw
                    case rel => exact ⟨i + 1, by omega, by go_num, bX2.drewN _⟩
                    case measure => simp [intOf]; omega
                · obtain rfl : i = Q.length := by omega
                  obtain ⟨w8, hw8⟩ : ∃ w9 : World, w9 = wr := ⟨_, rfl⟩
                  subst hw8
                  have b8 := hb
                  clear hb
                  have C := Lib.hid (implSq _ Q w8 (o4.reads.below (((b5.next (Nat.le_refl _) b6).next (Nat.le_refl _) b7).next (Nat.le_refl _) b8) (Nat.le_refl _)))
                  rw [E9.out] at C
                  go_wp2_with fail
                  refine C.out.mono ?_; rintro e w9 ⟨u7, rfl, o7, b9⟩
                  clear C
                  have C := Lib.hid (pSameEdits_yes _ _ Q w9 o7.reads (o5w.below (((b6.next (Nat.le_refl _) b7).next (Nat.le_refl _) b8).next (Nat.le_refl _) b9) (Nat.le_refl _)))
                  go_wp2_with fail
                  refine C.out.mono ?_; rintro e w10 ⟨rfl, b10⟩
                  clear C
                  go_wp2_with fail
                  go_meet
                  exact ((b8.next (Nat.le_refl _) b9).next (Nat.le_refl _) b10)
        case rest =>
          skip
          obtain ⟨w8, hw8⟩ : ∃ w9 : World, w9 = wc := ⟨_, rfl⟩
          subst hw8
          have b8 := hcut
          clear hcut
          have C := Lib.hid (drawTouchedBy_any _ more w8 (h1.below (((((((b1.next (Nat.le_refl _) b2).next (Nat.le_refl _) b3).next (Nat.le_refl _) b4).next (Nat.le_refl _) b5).next (Nat.le_refl _) b6).next (Nat.le_refl _) b7).next (Nat.le_refl _) b8) (Nat.le_refl _)) f1)
          go_wp2_with fail
          refine C.out.mono ?_; rintro e w9 ⟨u11, a, n_, rfl, o11, b9, ha31⟩
          clear C
          obtain ⟨S, b1_, e11⟩ : ∃ S b1_, rTb a n_ = (S, b1_) := ⟨_, _, rfl⟩
          have E11 := Lib.hid (e11)
          clear e11
          have C := Lib.hid (implTb _ a n_ w9 o11.reads)
          rw [E11.out] at C
          go_wp2_with fail
          refine C.out.mono ?_; rintro e w10 ⟨u12, rfl, o12, b10⟩
          clear C
          have C := Lib.hid (specTb _ a n_ w10 (o11.reads.below b10 (Nat.le_refl _)))
          rw [E11.out] at C
          go_wp2_with fail
          refine C.out.mono ?_; rintro e w11 ⟨u13, rfl, o13, b11⟩
          clear C
          have C := Lib.hid (drawLastTouch_any _ more w11 (h1.below ((((((((((b1.next (Nat.le_refl _) b2).next (Nat.le_refl _) b3).next (Nat.le_refl _) b4).next (Nat.le_refl _) b5).next (Nat.le_refl _) b6).next (Nat.le_refl _) b7).next (Nat.le_refl _) b8).next (Nat.le_refl _) b9).next (Nat.le_refl _) b10).next (Nat.le_refl _) b11) (Nat.le_refl _)) f1)
          go_wp2_with fail
          refine C.out.mono ?_; rintro e w12 ⟨u14, b, p_, rfl, o14, b12, hb31⟩
          clear C
          obtain ⟨q_, b2_, e12⟩ : ∃ q_ b2_, rLt b p_ = (q_, b2_) := ⟨_, _, rfl⟩
          have E12 := Lib.hid (e12)
          clear e12
          have C := Lib.hid (implLt _ b p_ w12 o14.reads)
          rw [E12.out] at C
          go_wp2_with fail
          refine C.out.mono ?_; rintro e w13 ⟨rfl, b13⟩
          clear C
          have C := Lib.hid (specLt _ b p_ w13 (o14.reads.below b13 (Nat.le_refl _)))
          rw [E12.out] at C
          go_wp2_with fail
          refine C.out.mono ?_; rintro e w14 ⟨rfl, b14⟩
          clear C
          have C := Lib.hid (drawParseEdits_any _ more w14 (h1.below (((((((((((((b1.next (Nat.le_refl _) b2).next (Nat.le_refl _) b3).next (Nat.le_refl _) b4).next (Nat.le_refl _) b5).next (Nat.le_refl _) b6).next (Nat.le_refl _) b7).next (Nat.le_refl _) b8).next (Nat.le_refl _) b9).next (Nat.le_refl _) b10).next (Nat.le_refl _) b11).next (Nat.le_refl _) b12).next (Nat.le_refl _) b13).next (Nat.le_refl _) b14) (Nat.le_refl _)) f1)
          go_wp2_with fail
          refine C.out.mono ?_; rintro e w15 ⟨tt, rfl, htt, b15⟩
          clear C
          obtain ⟨R, b3_, e13, hR30⟩ := rPE_ex tt
          have E13 := Lib.hid (e13)
          clear e13
          have C := Lib.hid (implPE tt w15 (hMax.below ((((((((((((((b1.next (Nat.le_refl _) b2).next (Nat.le_refl _) b3).next (Nat.le_refl _) b4).next (Nat.le_refl _) b5).next (Nat.le_refl _) b6).next (Nat.le_refl _) b7).next (Nat.le_refl _) b8).next (Nat.le_refl _) b9).next (Nat.le_refl _) b10).next (Nat.le_refl _) b11).next (Nat.le_refl _) b12).next (Nat.le_refl _) b13).next (Nat.le_refl _) b14).next (Nat.le_refl _) b15) (Nat.le_refl _)) (by omega))
          rw [E13.out] at C
          go_wp2_with fail
          refine C.out.mono ?_; rintro e w16 ⟨u15, rfl, o15, b16⟩
          clear C
          have C := Lib.hid (specPE tt w16 (hMax.below (((((((((((((((b1.next (Nat.le_refl _) b2).next (Nat.le_refl _) b3).next (Nat.le_refl _) b4).next (Nat.le_refl _) b5).next (Nat.le_refl _) b6).next (Nat.le_refl _) b7).next (Nat.le_refl _) b8).next (Nat.le_refl _) b9).next (Nat.le_refl _) b10).next (Nat.le_refl _) b11).next (Nat.le_refl _) b12).next (Nat.le_refl _) b13).next (Nat.le_refl _) b14).next (Nat.le_refl _) b15).next (Nat.le_refl _) b16) (Nat.le_refl _)) (by omega))
          rw [E13.out] at C
          go_wp2_with fail
          refine C.out.mono ?_; rintro e w17 ⟨u16, rfl, o16, b17⟩
          clear C
          have C := Lib.hid (drawIsEdit_any _ more w17 (h1.below ((((((((((((((((b1.next (Nat.le_refl _) b2).next (Nat.le_refl _) b3).next (Nat.le_refl _) b4).next (Nat.le_refl _) b5).next (Nat.le_refl _) b6).next (Nat.le_refl _) b7).next (Nat.le_refl _) b8).next (Nat.le_refl _) b9).next (Nat.le_refl _) b10).next (Nat.le_refl _) b11).next (Nat.le_refl _) b12).next (Nat.le_refl _) b13).next (Nat.le_refl _) b14).next (Nat.le_refl _) b15).next (Nat.le_refl _) b16).next (Nat.le_refl _) b17) (Nat.le_refl _)) f1)
          go_wp2_with fail
          refine C.out.mono ?_; rintro e w18 ⟨x, rfl, b18⟩
          clear C
          have zP := BoxE.new w18 x.e x.p x.bx x.bY x.ax x.aY
          have b19 : Below w18.heap.size w18 (w18.alloc (.cells #[.int .i64 x.e, .int .i64 x.p, .int .i64 x.bx, .int .i64 x.bY, .int .i64 x.ax, .int .i64 x.aY] 39)) := (Below.refl _ w18).alloc (Nat.le_refl _) (.cells #[.int .i64 x.e, .int .i64 x.p, .int .i64 x.bx, .int .i64 x.bY, .int .i64 x.ax, .int .i64 x.aY] 39)
          obtain ⟨w19, hw19⟩ : ∃ W, W = (w18.alloc (.cells #[.int .i64 x.e, .int .i64 x.p, .int .i64 x.bx, .int .i64 x.bY, .int .i64 x.ax, .int .i64 x.aY] 39)) := ⟨_, rfl⟩
          obtain ⟨P, hP⟩ : ∃ X, X = w18.heap.size := ⟨_, rfl⟩
          rw [← hw19] at zP b19
          rw [← hP] at zP
          have HW19 := Lib.hid (hw19)
          have HP := Lib.hid (hP)
          clear hw19 hP
          go_upto_region 54 with fail
          rw [← HW19.out, ← HP.out]
          have cS := Lib.hid (fun (d : Nat) (os : Array Obj) => rg_below (w := w19) (d := d) (os := os) (by have h9 := sameInts_any _ _ S S _ (IntsAt.below (o12.reads.below ((((((((b11.next (Nat.le_refl _) b12).next (Nat.le_refl _) b13).next (Nat.le_refl _) b14).next (Nat.le_refl _) b15).next (Nat.le_refl _) b16).next (Nat.le_refl _) b17).next (Nat.le_refl _) b18).next (Nat.le_refl _) b19) (Nat.le_refl _)) (below_regrown w19 d os) (Nat.le_refl _)) (IntsAt.below (o13.reads.below (((((((b12.next (Nat.le_refl _) b13).next (Nat.le_refl _) b14).next (Nat.le_refl _) b15).next (Nat.le_refl _) b16).next (Nat.le_refl _) b17).next (Nat.le_refl _) b18).next (Nat.le_refl _) b19) (Nat.le_refl _)) (below_regrown w19 d os) (Nat.le_refl _)); rw [show (S == S) = true from by simp] at h9; exact h9))
          have cP := Lib.hid (fun (d : Nat) (os : Array Obj) => rg_below (w := w19) (d := d) (os := os) (pSameEdits_yes _ _ R _ ((o15.reads.below ((b17.next (Nat.le_refl _) b18).next (Nat.le_refl _) b19) (Nat.le_refl _)).below (below_regrown w19 d os) (Nat.le_refl _)) ((o16.reads.below (b18.next (Nat.le_refl _) b19) (Nat.le_refl _)).below (below_regrown w19 d os) (Nat.le_refl _))))
          have cI := Lib.hid (fun (d : Nat) (os : Array Obj) => rg_below (w := w19) (d := d) (os := os) (implIsEdit x _))
          have cJ := Lib.hid (fun (d : Nat) (os : Array Obj) => rg_below (w := w19) (d := d) (os := os) (specIsEdit x _))
          obtain ⟨c0, c1, c2, c3, c4, c5, _, _, _, _, _, _⟩ := zP.cells
          have k0 := cell_regrown c0
          have k1 := cell_regrown c1
          have k2 := cell_regrown c2
          have k3 := cell_regrown c3
          have k4 := cell_regrown c4
          have k5 := cell_regrown c5
          have hZ := Lib.hid (((((((((((((((((((b1.next (Nat.le_refl _) b2).next (Nat.le_refl _) b3).next (Nat.le_refl _) b4).next (Nat.le_refl _) b5).next (Nat.le_refl _) b6).next (Nat.le_refl _) b7).next (Nat.le_refl _) b8).next (Nat.le_refl _) b9).next (Nat.le_refl _) b10).next (Nat.le_refl _) b11).next (Nat.le_refl _) b12).next (Nat.le_refl _) b13).next (Nat.le_refl _) b14).next (Nat.le_refl _) b15).next (Nat.le_refl _) b16).next (Nat.le_refl _) b17).next (Nat.le_refl _) b18).next (Nat.le_refl _) b19))
          have cS2 := cS.out
          have cP2 := cP.out
          have cI2 := cI.out
          have cJ2 := cJ.out
          (refine wp_region_quiet_below (by kernel_rfl) (by kernel_rfl) ?_; (repeat (go_big_quiet_step (first | with_reducible exact cS2 _ _ | with_reducible exact cP2 _ _ | with_reducible exact cI2 _ _ | with_reducible exact cJ2 _ _))); refine wpQuiet_nil ?_; intro _ hw'; obtain ⟨⟨dq, osq⟩, hw''⟩ := hw'; subst hw'')
          go_wp2_with fail
          go_ret
          exact ⟨by simp, RG.below hZ.out hZ.out.size dq osq⟩
end Go.Proofs.YtombnhnhbocceaaGreatDoor
