/- The walk of the law FnStates: whatever the bytes, it returns true and writes nothing that was there. -/
import Derived.Test.YtleiijhnjaagmaaVQ
import Derived.Test.YtleiijhnjaagmaaStQ
import Derived.Test.YtleiijhnjaagmaaVFns
import Derived.Test.YtleiijhnjaagmaaVMerge
import Derived.Test.YtleiijhnjaagmaaVCopy
import Derived.Test.YtleiijhnjaagmaaOpen
import Derived.Deep.DeepCutAuto
set_option linter.unusedSimpArgs false
set_option linter.unusedVariables false
namespace Go.Proofs.Ytleiijhnjaagmaa
open Go.RowKit Go.Sort

set_option maxRecDepth 100000 in
set_option maxHeartbeats 12800000 in
theorem FnStates_walk (v0 : Value) (code : List Nat) (v1 : Value) (more : List Nat) (w0 : World) (h0 : BytesAt w0 v0 code) (f0 : WfCode code) (h1 : BytesAt w0 v1 more) (f1 : WfCode more) :
    Calls Try.prog 12 #[v0, v1] w0 (LawPost w0) := by
  obtain ⟨A0, c0, rfl, hn0, hc0⟩ := h0.shape
  obtain ⟨A1, c1, rfl, hn1, hc1⟩ := h1.shape
  by_cases hbig : (1048576 : Int) < wrap64 ((code.length : Int) + (more.length : Int))
  · go_enter Try.func12, Try.ntmps12
    go_wp2_with fail
    go_ret
    exact ⟨rfl, Below.refl _ _⟩
  · have hbig2 : wrap64 ((code.length : Int) + (more.length : Int)) ≤ (1048576 : Int) := by omega
    clear hbig
    go_enter Try.func12, Try.ntmps12
    go_wp2_with fail
    clear hbig2
    have C := Lib.hid (drawMergeStates_any _ code w0 h0 f0)
    go_wp2_with fail
    refine C.out.mono ?_; rintro e w1 ⟨u1, l, i, k, rfl, o1, b1, hl62, hi0, hi1, hk0, hk1⟩
    clear C
    obtain ⟨M, Cf, D, ok, e1, e2, e3, e4, hok⟩ := merge_whole l i k
    have E1 := Lib.hid e1
    have E2 := Lib.hid e2
    have E3 := Lib.hid e3
    have E4 := Lib.hid e4
    have Hok := Lib.hid hok
    clear e1 e2 e3 e4 hok
    have C := Lib.hid (implMerge _ l i k w1 o1.reads)
    rw [E1.out] at C
    go_wp2_with fail
    refine C.out.mono ?_; rintro e w2 ⟨u2, v2, rfl, o2, p2, _, b2⟩
    clear C
    have C := Lib.hid (specMerge _ l i k w2 (o1.reads.below b2 (Nat.le_refl _)))
    rw [E1.out] at C
    go_wp2_with fail
    refine C.out.mono ?_; rintro e w3 ⟨u3, v3, rfl, o3, p3, _, b3⟩
    clear C
    have C := Lib.hid (implChangedKeys _ l i k w3 (o1.reads.below (b2.next (Nat.le_refl _) b3) (Nat.le_refl _)))
    rw [E2.out] at C
    go_wp2_with fail
    refine C.out.mono ?_; rintro e w4 ⟨u4, rfl, o4, b4⟩
    clear C
    have C := Lib.hid (specChangedKeys _ l i k w4 (o1.reads.below ((b2.next (Nat.le_refl _) b3).next (Nat.le_refl _) b4) (Nat.le_refl _)))
    rw [E2.out] at C
    go_wp2_with fail
    refine C.out.mono ?_; rintro e w5 ⟨u5, rfl, o5, b5⟩
    clear C
    as_aux_lemma =>
      have C := Lib.hid (drawCopyChanges_any _ more w5 (h1.below ((((b1.next (Nat.le_refl _) b2).next (Nat.le_refl _) b3).next (Nat.le_refl _) b4).next (Nat.le_refl _) b5) (Nat.le_refl _)) f1)
      go_wp2_with fail
      refine C.out.mono ?_; rintro e w6 ⟨u6, a, p, q, rfl, o6, b6, ha62, hp0, hp1, hq0, hq1⟩
      clear C
      obtain ⟨Cs, three, c1⟩ : ∃ Cs b, rCopy a p q = (Cs, b) := ⟨(rCopy a p q).1, (rCopy a p q).2, rfl⟩
      have hc9 : Hid (three = true → rCopy a p q = (Cs, true)) := fun h => by rw [← h]; exact c1
      have E5 := Lib.hid c1
      clear c1
      have C := Lib.hid (implCopy _ a p q w6 o6.reads)
      rw [E5.out] at C
      go_wp2_with fail
      refine C.out.mono ?_; rintro e w7 ⟨u7, rfl, o7, b7⟩
      clear C
      have C := Lib.hid (specCopy _ a p q w7 (o6.reads.below b7 (Nat.le_refl _)))
      rw [E5.out] at C
      go_wp2_with fail
      refine C.out.mono ?_; rintro e w8 ⟨u8, rfl, o8, b8⟩
      clear C
      have C := Lib.hid (drawStateAt_any _ more w8 (h1.below (((((((b1.next (Nat.le_refl _) b2).next (Nat.le_refl _) b3).next (Nat.le_refl _) b4).next (Nat.le_refl _) b5).next (Nat.le_refl _) b6).next (Nat.le_refl _) b7).next (Nat.le_refl _) b8) (Nat.le_refl _)) f1)
      go_wp2_with fail
      refine C.out.mono ?_; rintro e w9 ⟨u9, b_, n_, _, rfl, o9, b9, hb62, hn0, hn1, _, _⟩
      clear C
      as_aux_lemma =>
        obtain ⟨S, five, s1, s2⟩ := rState_ex b_ n_
        have E6 := Lib.hid s1
        have H6 := Lib.hid s2
        clear s1 s2
        have C := Lib.hid (implStateAt _ b_ n_ w9 o9.reads)
        rw [E6.out] at C
        go_wp2_with fail
        refine C.out.mono ?_; rintro e w10 ⟨u10, rfl, o10, b10⟩
        clear C
        have C := Lib.hid (specStateAt _ b_ n_ w10 (o9.reads.below b10 (Nat.le_refl _)))
        rw [E6.out] at C
        go_wp2_with fail
        refine C.out.mono ?_; rintro e w11 ⟨u11, rfl, o11, b11⟩
        clear C
        have C := Lib.hid (drawChangedKeys_any _ more w11 (h1.below ((((((((((b1.next (Nat.le_refl _) b2).next (Nat.le_refl _) b3).next (Nat.le_refl _) b4).next (Nat.le_refl _) b5).next (Nat.le_refl _) b6).next (Nat.le_refl _) b7).next (Nat.le_refl _) b8).next (Nat.le_refl _) b9).next (Nat.le_refl _) b10).next (Nat.le_refl _) b11) (Nat.le_refl _)) f1)
        go_wp2_with fail
        refine C.out.mono ?_; rintro e w12 ⟨u12, u_, x_, y_, rfl, o12, b12, hu62, hx0, hx1, hy0, hy1⟩
        clear C
        obtain ⟨Ek, seven, k1⟩ : ∃ Cs b, rChanged u_ x_ y_ = (Cs, b) := ⟨(rChanged u_ x_ y_).1, (rChanged u_ x_ y_).2, rfl⟩
        have E7 := Lib.hid k1
        clear k1
        have C := Lib.hid (implChangedKeys _ u_ x_ y_ w12 o12.reads)
        rw [E7.out] at C
        go_wp2_with fail
        refine C.out.mono ?_; rintro e w13 ⟨u13, rfl, o13, b13⟩
        clear C
        as_aux_lemma =>
          have C := Lib.hid (specChangedKeys _ u_ x_ y_ w13 (o12.reads.below b13 (Nat.le_refl _)))
          rw [E7.out] at C
          go_wp2_with fail
          refine C.out.mono ?_; rintro e w14 ⟨u14, rfl, o14, b14⟩
          clear C
          have C := Lib.hid (qInts_yes _ _ M w14 (o2.reads.below (((((((((((b3.next (Nat.le_refl _) b4).next (Nat.le_refl _) b5).next (Nat.le_refl _) b6).next (Nat.le_refl _) b7).next (Nat.le_refl _) b8).next (Nat.le_refl _) b9).next (Nat.le_refl _) b10).next (Nat.le_refl _) b11).next (Nat.le_refl _) b12).next (Nat.le_refl _) b13).next (Nat.le_refl _) b14) (Nat.le_refl _)) (o3.reads.below ((((((((((b4.next (Nat.le_refl _) b5).next (Nat.le_refl _) b6).next (Nat.le_refl _) b7).next (Nat.le_refl _) b8).next (Nat.le_refl _) b9).next (Nat.le_refl _) b10).next (Nat.le_refl _) b11).next (Nat.le_refl _) b12).next (Nat.le_refl _) b13).next (Nat.le_refl _) b14) (Nat.le_refl _)))
          go_wp2_with fail
          refine C.out.mono ?_; rintro e w15 ⟨rfl, b15⟩
          clear C
          have C := Lib.hid (qInts_yes _ _ Cf w15 (p2.reads.below ((((((((((((b3.next (Nat.le_refl _) b4).next (Nat.le_refl _) b5).next (Nat.le_refl _) b6).next (Nat.le_refl _) b7).next (Nat.le_refl _) b8).next (Nat.le_refl _) b9).next (Nat.le_refl _) b10).next (Nat.le_refl _) b11).next (Nat.le_refl _) b12).next (Nat.le_refl _) b13).next (Nat.le_refl _) b14).next (Nat.le_refl _) b15) (Nat.le_refl _)) (p3.reads.below (((((((((((b4.next (Nat.le_refl _) b5).next (Nat.le_refl _) b6).next (Nat.le_refl _) b7).next (Nat.le_refl _) b8).next (Nat.le_refl _) b9).next (Nat.le_refl _) b10).next (Nat.le_refl _) b11).next (Nat.le_refl _) b12).next (Nat.le_refl _) b13).next (Nat.le_refl _) b14).next (Nat.le_refl _) b15) (Nat.le_refl _)))
          go_wp2_with fail
          refine C.out.mono ?_; rintro e w16 ⟨rfl, b16⟩
          clear C
          have C := Lib.hid (qInts_yes _ _ D w16 (o4.reads.below (((((((((((b5.next (Nat.le_refl _) b6).next (Nat.le_refl _) b7).next (Nat.le_refl _) b8).next (Nat.le_refl _) b9).next (Nat.le_refl _) b10).next (Nat.le_refl _) b11).next (Nat.le_refl _) b12).next (Nat.le_refl _) b13).next (Nat.le_refl _) b14).next (Nat.le_refl _) b15).next (Nat.le_refl _) b16) (Nat.le_refl _)) (o5.reads.below ((((((((((b6.next (Nat.le_refl _) b7).next (Nat.le_refl _) b8).next (Nat.le_refl _) b9).next (Nat.le_refl _) b10).next (Nat.le_refl _) b11).next (Nat.le_refl _) b12).next (Nat.le_refl _) b13).next (Nat.le_refl _) b14).next (Nat.le_refl _) b15).next (Nat.le_refl _) b16) (Nat.le_refl _)))
          go_wp2_with fail
          refine C.out.mono ?_; rintro e w17 ⟨rfl, b17⟩
          clear C
          as_aux_lemma =>
            have C := Lib.hid (qVersions_yes _ _ Cs w17 (o7.reads.below (((((((((b8.next (Nat.le_refl _) b9).next (Nat.le_refl _) b10).next (Nat.le_refl _) b11).next (Nat.le_refl _) b12).next (Nat.le_refl _) b13).next (Nat.le_refl _) b14).next (Nat.le_refl _) b15).next (Nat.le_refl _) b16).next (Nat.le_refl _) b17) (Nat.le_refl _)) (o8.reads.below ((((((((b9.next (Nat.le_refl _) b10).next (Nat.le_refl _) b11).next (Nat.le_refl _) b12).next (Nat.le_refl _) b13).next (Nat.le_refl _) b14).next (Nat.le_refl _) b15).next (Nat.le_refl _) b16).next (Nat.le_refl _) b17) (Nat.le_refl _)))
            go_wp2_with fail
            refine C.out.mono ?_; rintro e w18 ⟨rfl, b18⟩
            clear C
            have C := Lib.hid (qInts_yes _ _ S w18 (o10.reads.below (((((((b11.next (Nat.le_refl _) b12).next (Nat.le_refl _) b13).next (Nat.le_refl _) b14).next (Nat.le_refl _) b15).next (Nat.le_refl _) b16).next (Nat.le_refl _) b17).next (Nat.le_refl _) b18) (Nat.le_refl _)) (o11.reads.below ((((((b12.next (Nat.le_refl _) b13).next (Nat.le_refl _) b14).next (Nat.le_refl _) b15).next (Nat.le_refl _) b16).next (Nat.le_refl _) b17).next (Nat.le_refl _) b18) (Nat.le_refl _)))
            go_wp2_with fail
            refine C.out.mono ?_; rintro e w19 ⟨rfl, b19⟩
            clear C
            have C := Lib.hid (qInts_yes _ _ Ek w19 (o13.reads.below (((((b14.next (Nat.le_refl _) b15).next (Nat.le_refl _) b16).next (Nat.le_refl _) b17).next (Nat.le_refl _) b18).next (Nat.le_refl _) b19) (Nat.le_refl _)) (o14.reads.below ((((b15.next (Nat.le_refl _) b16).next (Nat.le_refl _) b17).next (Nat.le_refl _) b18).next (Nat.le_refl _) b19) (Nat.le_refl _)))
            go_wp2_with fail
            refine C.out.mono ?_; rintro e w20 ⟨rfl, b20⟩
            clear C
            obtain ⟨AS, cS, hvS, hnS, hcS⟩ := o11.reads.shape
            subst hvS
            go_upto_region 19 with fail
            go_cut [236] from 231 to 236 (fun s wx => s = .bool false ∧ Below w20.heap.size w20 wx)
            case first =>
              as_aux_lemma =>
                cases five
                case false =>
                  go_wp2_with fail
                  go_meet
                  exact ⟨rfl, (Below.refl w20.heap.size w20)⟩
                case true =>
                  have hS8 := H6.out rfl
                  have hS9 : ((S.length : Int) != 8) = false := by rw [hS8]; rfl
                  clear hS8
                  go_wp2_with fail
                  go_meet
                  exact ⟨rfl, (Below.refl w20.heap.size w20)⟩
            case rest =>
              as_aux_lemma =>
                obtain ⟨w21, hw21⟩ : ∃ w9 : World, w9 = wc := ⟨_, rfl⟩
                subst hw21
                obtain ⟨rfl, b21⟩ := hcut
                go_upto_if 237 with fail
                go_cut [] from 237 to 237 (fun wx => Below w21.heap.size w21 wx)
                case first =>
                  as_aux_lemma =>
                    cases three
                    case false =>
                      go_wp2_with fail
                      go_meet
                      exact (Below.refl w21.heap.size w21)
                    case true =>
                      obtain ⟨ca, p0_, p1_, q0_, q1_, hav, cav, ctk, cle, clen, clast⟩ := copy_whole (hc9.out rfl)
                      obtain ⟨cm, hcm⟩ : ∃ cm, cm = common a p q := ⟨_, rfl⟩
                      obtain ⟨wy, hwy⟩ : ∃ wy, wy = wayTo a q := ⟨_, rfl⟩
                      have r1 : rCommonV a p q = (cm, true) := by unfold rCommonV; rw [if_pos hav, hcm]
                      have r2 : rWay a q = (wy, true) := by unfold rWay; rw [if_pos (hasV1_of ca q0_ q1_), hwy]
                      have r3 : ∀ x ∈ wy, 0 ≤ x ∧ x ≤ q := by rw [hwy]; exact wayTo_in ca q1_
                      have r4 : wy.length ≤ a.length := by rw [hwy]; exact wayTo_len ca q1_
                      rw [← hcm, ← hwy] at clen clast
                      have r5 : Cs.length ≤ 60 := (areVers_parts cav).2.1
                      have r6 : 1 ≤ a.length := (areVers_parts ca).1
                      have R1 := Lib.hid r1
                      have R2 := Lib.hid r2
                      have R3 := Lib.hid r3
                      have CA := Lib.hid ca
                      have CV := Lib.hid cav
                      have CT := Lib.hid ctk
                      have CL := Lib.hid clen
                      have CZ := Lib.hid clast
                      clear r1 r2 r3 ca cav ctk clen clast hav hcm hwy hc9
                      obtain ⟨AV, cV, hvV, hnV, hcV⟩ := o8.reads.shape
                      subst hvV
                      obtain ⟨Aa, ca, hva, hna, hca⟩ := o6.reads.shape
                      subst hva
                      have C := Lib.hid (specCommonV _ a p q w21 (o6.reads.below ((((((((((((((b7.next (Nat.le_refl _) b8).next (Nat.le_refl _) b9).next (Nat.le_refl _) b10).next (Nat.le_refl _) b11).next (Nat.le_refl _) b12).next (Nat.le_refl _) b13).next (Nat.le_refl _) b14).next (Nat.le_refl _) b15).next (Nat.le_refl _) b16).next (Nat.le_refl _) b17).next (Nat.le_refl _) b18).next (Nat.le_refl _) b19).next (Nat.le_refl _) b20).next (Nat.le_refl _) b21) (Nat.le_refl _)))
                      rw [R1.out] at C
                      go_wp2_with fail
                      refine C.out.mono ?_; rintro e w22 ⟨rfl, b22⟩
                      clear C
                      as_aux_lemma =>
                        have C := Lib.hid (specWayTo _ a q w22 (o6.reads.below (((((((((((((((b7.next (Nat.le_refl _) b8).next (Nat.le_refl _) b9).next (Nat.le_refl _) b10).next (Nat.le_refl _) b11).next (Nat.le_refl _) b12).next (Nat.le_refl _) b13).next (Nat.le_refl _) b14).next (Nat.le_refl _) b15).next (Nat.le_refl _) b16).next (Nat.le_refl _) b17).next (Nat.le_refl _) b18).next (Nat.le_refl _) b19).next (Nat.le_refl _) b20).next (Nat.le_refl _) b21).next (Nat.le_refl _) b22) (Nat.le_refl _)))
                        rw [R2.out] at C
                        go_wp2_with fail
                        refine C.out.mono ?_; rintro e w23 ⟨u15, rfl, o15, b23⟩
                        clear C
                        have o15w : OwnInts w23 w22.heap.size u15 wy := o15
                        have C := Lib.hid (areVersions_any _ Cs w23 (o7.reads.below (((((((((((((((b8.next (Nat.le_refl _) b9).next (Nat.le_refl _) b10).next (Nat.le_refl _) b11).next (Nat.le_refl _) b12).next (Nat.le_refl _) b13).next (Nat.le_refl _) b14).next (Nat.le_refl _) b15).next (Nat.le_refl _) b16).next (Nat.le_refl _) b17).next (Nat.le_refl _) b18).next (Nat.le_refl _) b19).next (Nat.le_refl _) b20).next (Nat.le_refl _) b21).next (Nat.le_refl _) b22).next (Nat.le_refl _) b23) (Nat.le_refl _)))
                        rw [CV.out] at C
                        go_wp2_with fail
                        refine C.out.mono ?_; rintro e w24 ⟨rfl, b24⟩
                        clear C
                        have tk := RowAt.take (R := verRec) ((o8.reads.below (((((((((((((((b9.next (Nat.le_refl _) b10).next (Nat.le_refl _) b11).next (Nat.le_refl _) b12).next (Nat.le_refl _) b13).next (Nat.le_refl _) b14).next (Nat.le_refl _) b15).next (Nat.le_refl _) b16).next (Nat.le_refl _) b17).next (Nat.le_refl _) b18).next (Nat.le_refl _) b19).next (Nat.le_refl _) b20).next (Nat.le_refl _) b21).next (Nat.le_refl _) b22).next (Nat.le_refl _) b23).next (Nat.le_refl _) b24) (Nat.le_refl _))) a.length cle
                        rw [CT.out] at tk
                        have z1 : a.length ≤ cV := by omega
                        have z2 : (a.length : Int) ≤ (cV : Int) := by omega
                        have C := Lib.hid (qVersions_yes _ _ a w24 tk (o6.reads.below (((((((((((((((((b7.next (Nat.le_refl _) b8).next (Nat.le_refl _) b9).next (Nat.le_refl _) b10).next (Nat.le_refl _) b11).next (Nat.le_refl _) b12).next (Nat.le_refl _) b13).next (Nat.le_refl _) b14).next (Nat.le_refl _) b15).next (Nat.le_refl _) b16).next (Nat.le_refl _) b17).next (Nat.le_refl _) b18).next (Nat.le_refl _) b19).next (Nat.le_refl _) b20).next (Nat.le_refl _) b21).next (Nat.le_refl _) b22).next (Nat.le_refl _) b23).next (Nat.le_refl _) b24) (Nat.le_refl _)))
                        go_wp2_with fail
                        refine C.out.mono ?_; rintro e w25 ⟨rfl, b25⟩
                        clear C
                        obtain ⟨Aw, cw, hvw, hnw, hcw⟩ := o15w.reads.shape
                        subst hvw
                        have hw := Lib.hid ((o15w.reads.below (b24.next (Nat.le_refl _) b25) (Nat.le_refl _)) : IntsAt _ _ wy)
                        go_wp2_with fail
                        go_loop [42, 273] (fun sm si => ∃ n : Nat, n ≤ wy.length ∧ si = .int .i64 n ∧ sm = .int .i64 (behind cm (wy.take n) : Nat)) (fun _ si => wy.length - (intOf si).toNat)
                        case atStart => exact ⟨0, Nat.zero_le _, rfl, by rw [behind_zero]; rfl⟩
                        case round =>
                          obtain ⟨n, hn, rfl, rfl⟩ := hrel
                          have hbl := behind_le cm (wy.take n)
                          have htl : (wy.take n).length ≤ wy.length := by rw [List.length_take]; omega
                          by_cases hlt : n < wy.length
                          · obtain ⟨bb, oo, hAA, hcc⟩ := hw.out.at_ n hlt
                            subst hAA
                            have hs := Lib.hid (behind_succ cm wy n hlt)
                            by_cases hj : cm < gi wy n
                            · have hs2 : Hid ((behind cm (wy.take (n + 1)) : Nat) = behind cm (wy.take n) + 1) := by have := hs.out; rw [if_pos hj] at this; exact this
                              go_wp2_with fail
                              go_round
                              case rel => exact ⟨n + 1, by omega, by go_num, by rw [hs2.out]; go_num⟩
                              case measure => simp [intOf]; omega
                            · have hs2 : Hid ((behind cm (wy.take (n + 1)) : Nat) = behind cm (wy.take n) + 0) := by have := hs.out; rw [if_neg hj] at this; exact this
                              go_wp2_with fail
                              go_round
                              case rel => exact ⟨n + 1, by omega, by go_num, by rw [hs2.out]; go_num⟩
                              case measure => simp [intOf]; omega
                          · obtain rfl : n = wy.length := by omega
                            obtain ⟨bh, hbh⟩ : ∃ m : Nat, m = behind cm (wy.take wy.length) := ⟨_, rfl⟩
                            have hbh2 : bh = behind cm wy := by rw [hbh, List.take_length]
                            rw [← hbh]
                            rw [← hbh] at hbl
                            have CL2 : Hid (Cs.length = a.length + bh) := by rw [hbh2]; exact CL.out
                            have hpos9 : Hid (0 < bh → 0 < behind cm wy) := fun h => by rw [hbh2] at h; exact h
                            clear hbh hbh2
                            have y1 : (((Cs.length : Nat) : Int) != (a.length : Int) + (bh : Int)) = false := by rw [CL2.out]; simp
                            have y2 : IntKind.i64.wrap ((a.length : Int) + (bh : Int)) = (a.length : Int) + (bh : Int) := IntWalk.i64_in _ (by omega)
                            by_cases hpos : 0 < bh
                            · have CZ2 := Lib.hid (CZ.out (hpos9.out hpos))
                              have y3 : IntKind.i64.wrap ((Cs.length : Int) - 1) = (Cs.length : Int) - 1 := IntWalk.i64_in _ (by omega)
                              obtain ⟨Ls, hLs⟩ : ∃ Ls, Ls = stateAt Cs ((Cs.length : Int) - 1) := ⟨_, rfl⟩
                              obtain ⟨Tg, hTg⟩ : ∃ Ls, Ls = stateAt a q := ⟨_, rfl⟩
                              have x1 : rState Cs ((Cs.length : Int) - 1) = (Ls, true) := by rw [hLs]; exact rState_of CV.out (by have := CL2.out; omega) (by omega)
                              have x2 : rState a q = (Tg, true) := by rw [hTg]; exact rState_of CA.out q0_ q1_
                              have x3 : Ls.length = 8 := by rw [hLs]; exact stateAt_len _ _
                              have x4 : Tg.length = 8 := by rw [hTg]; exact stateAt_len _ _
                              rw [← hLs, ← hTg] at CZ2
                              have X1 := Lib.hid x1
                              have X2 := Lib.hid x2
                              have X3 := Lib.hid x3
                              have X4 := Lib.hid x4
                              clear x1 x2 x3 x4 hLs hTg
                              have C := Lib.hid (implStateAt _ Cs ((Cs.length : Int) - 1) w25 (o7.reads.below (((((((((((((((((b8.next (Nat.le_refl _) b9).next (Nat.le_refl _) b10).next (Nat.le_refl _) b11).next (Nat.le_refl _) b12).next (Nat.le_refl _) b13).next (Nat.le_refl _) b14).next (Nat.le_refl _) b15).next (Nat.le_refl _) b16).next (Nat.le_refl _) b17).next (Nat.le_refl _) b18).next (Nat.le_refl _) b19).next (Nat.le_refl _) b20).next (Nat.le_refl _) b21).next (Nat.le_refl _) b22).next (Nat.le_refl _) b23).next (Nat.le_refl _) b24).next (Nat.le_refl _) b25) (Nat.le_refl _)))
                              rw [X1.out] at C
                              go_wp2_with fail
                              refine C.out.mono ?_; rintro e w26 ⟨u16, rfl, o16, b26⟩
                              clear C
                              as_aux_lemma =>
                                have C := Lib.hid (specStateAt _ Cs ((Cs.length : Int) - 1) w26 (o8.reads.below (((((((((((((((((b9.next (Nat.le_refl _) b10).next (Nat.le_refl _) b11).next (Nat.le_refl _) b12).next (Nat.le_refl _) b13).next (Nat.le_refl _) b14).next (Nat.le_refl _) b15).next (Nat.le_refl _) b16).next (Nat.le_refl _) b17).next (Nat.le_refl _) b18).next (Nat.le_refl _) b19).next (Nat.le_refl _) b20).next (Nat.le_refl _) b21).next (Nat.le_refl _) b22).next (Nat.le_refl _) b23).next (Nat.le_refl _) b24).next (Nat.le_refl _) b25).next (Nat.le_refl _) b26) (Nat.le_refl _)))
                                rw [X1.out] at C
                                go_wp2_with fail
                                refine C.out.mono ?_; rintro e w27 ⟨u17, rfl, o17, b27⟩
                                clear C
                                have o17w : OwnInts w27 w26.heap.size u17 Ls := o17
                                have C := Lib.hid (specStateAt _ a q w27 (o6.reads.below ((((((((((((((((((((b7.next (Nat.le_refl _) b8).next (Nat.le_refl _) b9).next (Nat.le_refl _) b10).next (Nat.le_refl _) b11).next (Nat.le_refl _) b12).next (Nat.le_refl _) b13).next (Nat.le_refl _) b14).next (Nat.le_refl _) b15).next (Nat.le_refl _) b16).next (Nat.le_refl _) b17).next (Nat.le_refl _) b18).next (Nat.le_refl _) b19).next (Nat.le_refl _) b20).next (Nat.le_refl _) b21).next (Nat.le_refl _) b22).next (Nat.le_refl _) b23).next (Nat.le_refl _) b24).next (Nat.le_refl _) b25).next (Nat.le_refl _) b26).next (Nat.le_refl _) b27) (Nat.le_refl _)))
                                rw [X2.out] at C
                                go_wp2_with fail
                                refine C.out.mono ?_; rintro e w28 ⟨u18, rfl, o18, b28⟩
                                clear C
                                have o18w : OwnInts w28 w27.heap.size u18 Tg := o18
                                obtain ⟨AL, cL, hvL, hnL, hcL⟩ := o17w.reads.shape
                                subst hvL
                                obtain ⟨AT, cT, hvT, hnT, hcT⟩ := o18w.reads.shape
                                subst hvT
                                have C := Lib.hid (qInts_yes _ _ Ls w28 (o16.reads.below (b27.next (Nat.le_refl _) b28) (Nat.le_refl _)) (o17w.reads.below b28 (Nat.le_refl _)))
                                go_wp2_with fail
                                refine C.out.mono ?_; rintro e w29 ⟨rfl, b29⟩
                                clear C
                                have rw_ := Lib.hid ((o15w.reads.below (((((b24.next (Nat.le_refl _) b25).next (Nat.le_refl _) b26).next (Nat.le_refl _) b27).next (Nat.le_refl _) b28).next (Nat.le_refl _) b29) (Nat.le_refl _)) : IntsAt _ _ wy)
                                have rL := Lib.hid ((o17w.reads.below (b28.next (Nat.le_refl _) b29) (Nat.le_refl _)) : IntsAt _ _ Ls)
                                have rT := Lib.hid ((o18w.reads.below b29 (Nat.le_refl _)) : IntsAt _ _ Tg)
                                have ra := Lib.hid ((o6.reads.below ((((((((((((((((((((((b7.next (Nat.le_refl _) b8).next (Nat.le_refl _) b9).next (Nat.le_refl _) b10).next (Nat.le_refl _) b11).next (Nat.le_refl _) b12).next (Nat.le_refl _) b13).next (Nat.le_refl _) b14).next (Nat.le_refl _) b15).next (Nat.le_refl _) b16).next (Nat.le_refl _) b17).next (Nat.le_refl _) b18).next (Nat.le_refl _) b19).next (Nat.le_refl _) b20).next (Nat.le_refl _) b21).next (Nat.le_refl _) b22).next (Nat.le_refl _) b23).next (Nat.le_refl _) b24).next (Nat.le_refl _) b25).next (Nat.le_refl _) b26).next (Nat.le_refl _) b27).next (Nat.le_refl _) b28).next (Nat.le_refl _) b29) (Nat.le_refl _)) : VersAt _ _ a)
                                have hZ := (((((((b22.next (Nat.le_refl _) b23).next (Nat.le_refl _) b24).next (Nat.le_refl _) b25).next (Nat.le_refl _) b26).next (Nat.le_refl _) b27).next (Nat.le_refl _) b28).next (Nat.le_refl _) b29)
                                go_wp2_with fail
                                go_loopw [332] (fun si wr => ∃ n : Nat, n ≤ wy.length ∧ si = .int .i64 n ∧ Below w29.heap.size w29 wr) (fun si _ => wy.length - (intOf si).toNat)
                                case atStart => exact ⟨0, Nat.zero_le _, rfl, Below.refl _ _⟩
                                case round =>
                                  obtain ⟨n, hn, rfl, hb⟩ := hrel
                                  by_cases hlt : n < wy.length
                                  · obtain ⟨bb, oo, hAA, hcc⟩ := IntsAt.at_ (rw_.out.below hb (Nat.le_refl _)) n hlt
                                    subst hAA
                                    by_cases hj : cm < gi wy n
                                    · obtain ⟨j0, j1⟩ := R3.out _ (gi_mem hlt)
                                      have hz := CZ2.out _ (gi_mem hlt) hj
                                      obtain ⟨m, hm⟩ := Int.eq_ofNat_of_zero_le j0
                                      have hma : m < a.length := by omega
                                      rw [hm, Int.toNat_natCast] at hz
                                      rw [hm] at hcc hj
                                      obtain ⟨ba, oa, hBB, _, hk1, _⟩ := VersAt.at_ (ra.out.below hb (Nat.le_refl _)) m hma
                                      subst hBB
                                      obtain ⟨q0, q1⟩ := key_at CA.out m hma
                                      obtain ⟨y, hy⟩ := Int.eq_ofNat_of_zero_le q0
                                      rw [hy] at hk1 hz
                                      rw [Int.toNat_natCast] at hz
                                      have hy8 : y < 8 := by omega
                                      obtain ⟨bL, oL, hLL, hl1⟩ := IntsAt.at_ (rL.out.below hb (Nat.le_refl _)) y (by rw [X3.out]; exact hy8)
                                      subst hLL
                                      obtain ⟨bT, oT, hTT, ht1⟩ := IntsAt.at_ (rT.out.below hb (Nat.le_refl _)) y (by rw [X4.out]; exact hy8)
                                      subst hTT
                                      rw [hz] at hl1
                                      have v1 : (y : Int) < (Ls.length : Int) := by have := X3.out; omega
                                      have v2 : (y : Int) < (Tg.length : Int) := by have := X4.out; omega
                                      have v0 : (0 : Int) ≤ (y : Int) := by omega
                                      have v3 : (m : Int) < (a.length : Int) := by omega
                                      have v4 : (0 : Int) ≤ (m : Int) := by omega
                                      have v5 : decide (cm < (m : Int)) = true := decide_eq_true hj
                                      clear hz hm hy j0 j1 q0 q1
                                      go_wp2_with fail
                                      go_quiet (fail)
                                      go_wp2_with fail
                                      go_roundw
                                      case rel => exact ⟨n + 1, by omega, by go_num, hb.drewN _⟩
                                      case measure => simp [intOf]; omega
                                    · have v5 : decide (cm < gi wy n) = false := decide_eq_false hj
                                      go_wp2_with fail
                                      go_quiet (fail)
                                      go_wp2_with fail
                                      go_roundw
                                      case rel => exact ⟨n + 1, by omega, by go_num, hb.drewN _⟩
                                      case measure => simp [intOf]; omega
                                  · obtain rfl : n = wy.length := by omega
                                    go_wp2_with fail
                                    go_meet
                                    exact hZ.next (Nat.le_refl _) hb
                            · obtain rfl : bh = 0 := by omega
                              go_wp2_with fail
                              go_meet
                              exact (((b22.next (Nat.le_refl _) b23).next (Nat.le_refl _) b24).next (Nat.le_refl _) b25)
                case rest =>
                  as_aux_lemma =>
                    obtain ⟨w22, hw22⟩ : ∃ w9 : World, w9 = wc := ⟨_, rfl⟩
                    subst hw22
                    have b22 := hcut
                    clear hcut
                    cases ok
                    case false =>
                      go_wp2_with fail
                      go_ret
                      exact ⟨rfl, (((((((((((((((((((((b1.next (Nat.le_refl _) b2).next (Nat.le_refl _) b3).next (Nat.le_refl _) b4).next (Nat.le_refl _) b5).next (Nat.le_refl _) b6).next (Nat.le_refl _) b7).next (Nat.le_refl _) b8).next (Nat.le_refl _) b9).next (Nat.le_refl _) b10).next (Nat.le_refl _) b11).next (Nat.le_refl _) b12).next (Nat.le_refl _) b13).next (Nat.le_refl _) b14).next (Nat.le_refl _) b15).next (Nat.le_refl _) b16).next (Nat.le_refl _) b17).next (Nat.le_refl _) b18).next (Nat.le_refl _) b19).next (Nat.le_refl _) b20).next (Nat.le_refl _) b21).next (Nat.le_refl _) b22)⟩
                    case true =>
                      obtain ⟨c_, B, X, Y, r1, r2, r3, r4, lB, lX, lY, lM, kk⟩ := Hok.out rfl
                      have R1 := Lib.hid r1
                      have R2 := Lib.hid r2
                      have R3 := Lib.hid r3
                      have R4 := Lib.hid r4
                      have LB := Lib.hid lB
                      have LX := Lib.hid lX
                      have LY := Lib.hid lY
                      have LM := Lib.hid lM
                      have KK := Lib.hid kk
                      clear r1 r2 r3 r4 lB lX lY lM kk
                      have C := Lib.hid (implMerge _ l k i w22 (o1.reads.below ((((((((((((((((((((b2.next (Nat.le_refl _) b3).next (Nat.le_refl _) b4).next (Nat.le_refl _) b5).next (Nat.le_refl _) b6).next (Nat.le_refl _) b7).next (Nat.le_refl _) b8).next (Nat.le_refl _) b9).next (Nat.le_refl _) b10).next (Nat.le_refl _) b11).next (Nat.le_refl _) b12).next (Nat.le_refl _) b13).next (Nat.le_refl _) b14).next (Nat.le_refl _) b15).next (Nat.le_refl _) b16).next (Nat.le_refl _) b17).next (Nat.le_refl _) b18).next (Nat.le_refl _) b19).next (Nat.le_refl _) b20).next (Nat.le_refl _) b21).next (Nat.le_refl _) b22) (Nat.le_refl _)))
                      rw [E3.out] at C
                      go_wp2_with fail
                      refine C.out.mono ?_; rintro e w23 ⟨u19, v19, rfl, o19, p19, _, b23⟩
                      clear C
                      as_aux_lemma =>
                        have C := Lib.hid (implChangedKeys _ l k i w23 (o1.reads.below (((((((((((((((((((((b2.next (Nat.le_refl _) b3).next (Nat.le_refl _) b4).next (Nat.le_refl _) b5).next (Nat.le_refl _) b6).next (Nat.le_refl _) b7).next (Nat.le_refl _) b8).next (Nat.le_refl _) b9).next (Nat.le_refl _) b10).next (Nat.le_refl _) b11).next (Nat.le_refl _) b12).next (Nat.le_refl _) b13).next (Nat.le_refl _) b14).next (Nat.le_refl _) b15).next (Nat.le_refl _) b16).next (Nat.le_refl _) b17).next (Nat.le_refl _) b18).next (Nat.le_refl _) b19).next (Nat.le_refl _) b20).next (Nat.le_refl _) b21).next (Nat.le_refl _) b22).next (Nat.le_refl _) b23) (Nat.le_refl _)))
                        rw [E4.out] at C
                        go_wp2_with fail
                        refine C.out.mono ?_; rintro e w24 ⟨u20, rfl, o20, b24⟩
                        clear C
                        have C := Lib.hid (specCommonV _ l i k w24 (o1.reads.below ((((((((((((((((((((((b2.next (Nat.le_refl _) b3).next (Nat.le_refl _) b4).next (Nat.le_refl _) b5).next (Nat.le_refl _) b6).next (Nat.le_refl _) b7).next (Nat.le_refl _) b8).next (Nat.le_refl _) b9).next (Nat.le_refl _) b10).next (Nat.le_refl _) b11).next (Nat.le_refl _) b12).next (Nat.le_refl _) b13).next (Nat.le_refl _) b14).next (Nat.le_refl _) b15).next (Nat.le_refl _) b16).next (Nat.le_refl _) b17).next (Nat.le_refl _) b18).next (Nat.le_refl _) b19).next (Nat.le_refl _) b20).next (Nat.le_refl _) b21).next (Nat.le_refl _) b22).next (Nat.le_refl _) b23).next (Nat.le_refl _) b24) (Nat.le_refl _)))
                        rw [R1.out] at C
                        go_wp2_with fail
                        refine C.out.mono ?_; rintro e w25 ⟨rfl, b25⟩
                        clear C
                        have C := Lib.hid (specStateAt _ l c_ w25 (o1.reads.below (((((((((((((((((((((((b2.next (Nat.le_refl _) b3).next (Nat.le_refl _) b4).next (Nat.le_refl _) b5).next (Nat.le_refl _) b6).next (Nat.le_refl _) b7).next (Nat.le_refl _) b8).next (Nat.le_refl _) b9).next (Nat.le_refl _) b10).next (Nat.le_refl _) b11).next (Nat.le_refl _) b12).next (Nat.le_refl _) b13).next (Nat.le_refl _) b14).next (Nat.le_refl _) b15).next (Nat.le_refl _) b16).next (Nat.le_refl _) b17).next (Nat.le_refl _) b18).next (Nat.le_refl _) b19).next (Nat.le_refl _) b20).next (Nat.le_refl _) b21).next (Nat.le_refl _) b22).next (Nat.le_refl _) b23).next (Nat.le_refl _) b24).next (Nat.le_refl _) b25) (Nat.le_refl _)))
                        rw [R2.out] at C
                        go_wp2_with fail
                        refine C.out.mono ?_; rintro e w26 ⟨u21, rfl, o21, b26⟩
                        clear C
                        have o21w : OwnInts w26 w25.heap.size u21 B := o21
                        have C := Lib.hid (specStateAt _ l i w26 (o1.reads.below ((((((((((((((((((((((((b2.next (Nat.le_refl _) b3).next (Nat.le_refl _) b4).next (Nat.le_refl _) b5).next (Nat.le_refl _) b6).next (Nat.le_refl _) b7).next (Nat.le_refl _) b8).next (Nat.le_refl _) b9).next (Nat.le_refl _) b10).next (Nat.le_refl _) b11).next (Nat.le_refl _) b12).next (Nat.le_refl _) b13).next (Nat.le_refl _) b14).next (Nat.le_refl _) b15).next (Nat.le_refl _) b16).next (Nat.le_refl _) b17).next (Nat.le_refl _) b18).next (Nat.le_refl _) b19).next (Nat.le_refl _) b20).next (Nat.le_refl _) b21).next (Nat.le_refl _) b22).next (Nat.le_refl _) b23).next (Nat.le_refl _) b24).next (Nat.le_refl _) b25).next (Nat.le_refl _) b26) (Nat.le_refl _)))
                        rw [R3.out] at C
                        go_wp2_with fail
                        refine C.out.mono ?_; rintro e w27 ⟨u22, rfl, o22, b27⟩
                        clear C
                        as_aux_lemma =>
                          have o22w : OwnInts w27 w26.heap.size u22 X := o22
                          have C := Lib.hid (specStateAt _ l k w27 (o1.reads.below (((((((((((((((((((((((((b2.next (Nat.le_refl _) b3).next (Nat.le_refl _) b4).next (Nat.le_refl _) b5).next (Nat.le_refl _) b6).next (Nat.le_refl _) b7).next (Nat.le_refl _) b8).next (Nat.le_refl _) b9).next (Nat.le_refl _) b10).next (Nat.le_refl _) b11).next (Nat.le_refl _) b12).next (Nat.le_refl _) b13).next (Nat.le_refl _) b14).next (Nat.le_refl _) b15).next (Nat.le_refl _) b16).next (Nat.le_refl _) b17).next (Nat.le_refl _) b18).next (Nat.le_refl _) b19).next (Nat.le_refl _) b20).next (Nat.le_refl _) b21).next (Nat.le_refl _) b22).next (Nat.le_refl _) b23).next (Nat.le_refl _) b24).next (Nat.le_refl _) b25).next (Nat.le_refl _) b26).next (Nat.le_refl _) b27) (Nat.le_refl _)))
                          rw [R4.out] at C
                          go_wp2_with fail
                          refine C.out.mono ?_; rintro e w28 ⟨u23, rfl, o23, b28⟩
                          clear C
                          have o23w : OwnInts w28 w27.heap.size u23 Y := o23
                          have C := Lib.hid (qInts_yes _ _ M w28 (o19.reads.below ((((b24.next (Nat.le_refl _) b25).next (Nat.le_refl _) b26).next (Nat.le_refl _) b27).next (Nat.le_refl _) b28) (Nat.le_refl _)) (o3.reads.below ((((((((((((((((((((((((b4.next (Nat.le_refl _) b5).next (Nat.le_refl _) b6).next (Nat.le_refl _) b7).next (Nat.le_refl _) b8).next (Nat.le_refl _) b9).next (Nat.le_refl _) b10).next (Nat.le_refl _) b11).next (Nat.le_refl _) b12).next (Nat.le_refl _) b13).next (Nat.le_refl _) b14).next (Nat.le_refl _) b15).next (Nat.le_refl _) b16).next (Nat.le_refl _) b17).next (Nat.le_refl _) b18).next (Nat.le_refl _) b19).next (Nat.le_refl _) b20).next (Nat.le_refl _) b21).next (Nat.le_refl _) b22).next (Nat.le_refl _) b23).next (Nat.le_refl _) b24).next (Nat.le_refl _) b25).next (Nat.le_refl _) b26).next (Nat.le_refl _) b27).next (Nat.le_refl _) b28) (Nat.le_refl _)))
                          go_wp2_with fail
                          refine C.out.mono ?_; rintro e w29 ⟨rfl, b29⟩
                          clear C
                          have C := Lib.hid (qInts_yes _ _ Cf w29 (p19.reads.below (((((b24.next (Nat.le_refl _) b25).next (Nat.le_refl _) b26).next (Nat.le_refl _) b27).next (Nat.le_refl _) b28).next (Nat.le_refl _) b29) (Nat.le_refl _)) (p3.reads.below (((((((((((((((((((((((((b4.next (Nat.le_refl _) b5).next (Nat.le_refl _) b6).next (Nat.le_refl _) b7).next (Nat.le_refl _) b8).next (Nat.le_refl _) b9).next (Nat.le_refl _) b10).next (Nat.le_refl _) b11).next (Nat.le_refl _) b12).next (Nat.le_refl _) b13).next (Nat.le_refl _) b14).next (Nat.le_refl _) b15).next (Nat.le_refl _) b16).next (Nat.le_refl _) b17).next (Nat.le_refl _) b18).next (Nat.le_refl _) b19).next (Nat.le_refl _) b20).next (Nat.le_refl _) b21).next (Nat.le_refl _) b22).next (Nat.le_refl _) b23).next (Nat.le_refl _) b24).next (Nat.le_refl _) b25).next (Nat.le_refl _) b26).next (Nat.le_refl _) b27).next (Nat.le_refl _) b28).next (Nat.le_refl _) b29) (Nat.le_refl _)))
                          go_wp2_with fail
                          refine C.out.mono ?_; rintro e w30 ⟨rfl, b30⟩
                          clear C
                          have C := Lib.hid (qInts_yes _ _ D w30 (o20.reads.below (((((b25.next (Nat.le_refl _) b26).next (Nat.le_refl _) b27).next (Nat.le_refl _) b28).next (Nat.le_refl _) b29).next (Nat.le_refl _) b30) (Nat.le_refl _)) (o5.reads.below ((((((((((((((((((((((((b6.next (Nat.le_refl _) b7).next (Nat.le_refl _) b8).next (Nat.le_refl _) b9).next (Nat.le_refl _) b10).next (Nat.le_refl _) b11).next (Nat.le_refl _) b12).next (Nat.le_refl _) b13).next (Nat.le_refl _) b14).next (Nat.le_refl _) b15).next (Nat.le_refl _) b16).next (Nat.le_refl _) b17).next (Nat.le_refl _) b18).next (Nat.le_refl _) b19).next (Nat.le_refl _) b20).next (Nat.le_refl _) b21).next (Nat.le_refl _) b22).next (Nat.le_refl _) b23).next (Nat.le_refl _) b24).next (Nat.le_refl _) b25).next (Nat.le_refl _) b26).next (Nat.le_refl _) b27).next (Nat.le_refl _) b28).next (Nat.le_refl _) b29).next (Nat.le_refl _) b30) (Nat.le_refl _)))
                          go_wp2_with fail
                          refine C.out.mono ?_; rintro e w31 ⟨rfl, b31⟩
                          clear C
                          as_aux_lemma =>
                            have o3w : OwnInts w3 w2.heap.size u3 M := o3
                            have p3w : OwnInts w3 w2.heap.size v3 Cf := p3
                            have o5w : OwnInts w5 w4.heap.size u5 D := o5
                            obtain ⟨AB, cB, hvB, hnB, hcB⟩ := o21w.reads.shape
                            subst hvB
                            obtain ⟨AX, cX, hvX, hnX, hcX⟩ := o22w.reads.shape
                            subst hvX
                            obtain ⟨AY, cY, hvY, hnY, hcY⟩ := o23w.reads.shape
                            subst hvY
                            obtain ⟨AM, cM, hvM, hnM, hcM⟩ := o3w.reads.shape
                            subst hvM
                            obtain ⟨AC, cC, hvC, hnC, hcC⟩ := p3w.reads.shape
                            subst hvC
                            obtain ⟨AD, cD, hvD, hnD, hcD⟩ := o5w.reads.shape
                            subst hvD
                            have rB := Lib.hid ((o21w.reads.below ((((b27.next (Nat.le_refl _) b28).next (Nat.le_refl _) b29).next (Nat.le_refl _) b30).next (Nat.le_refl _) b31) (Nat.le_refl _)) : IntsAt _ _ B)
                            have rX := Lib.hid ((o22w.reads.below (((b28.next (Nat.le_refl _) b29).next (Nat.le_refl _) b30).next (Nat.le_refl _) b31) (Nat.le_refl _)) : IntsAt _ _ X)
                            have rY := Lib.hid ((o23w.reads.below ((b29.next (Nat.le_refl _) b30).next (Nat.le_refl _) b31) (Nat.le_refl _)) : IntsAt _ _ Y)
                            have rM2 := Lib.hid ((o3w.reads.below (((((((((((((((((((((((((((b4.next (Nat.le_refl _) b5).next (Nat.le_refl _) b6).next (Nat.le_refl _) b7).next (Nat.le_refl _) b8).next (Nat.le_refl _) b9).next (Nat.le_refl _) b10).next (Nat.le_refl _) b11).next (Nat.le_refl _) b12).next (Nat.le_refl _) b13).next (Nat.le_refl _) b14).next (Nat.le_refl _) b15).next (Nat.le_refl _) b16).next (Nat.le_refl _) b17).next (Nat.le_refl _) b18).next (Nat.le_refl _) b19).next (Nat.le_refl _) b20).next (Nat.le_refl _) b21).next (Nat.le_refl _) b22).next (Nat.le_refl _) b23).next (Nat.le_refl _) b24).next (Nat.le_refl _) b25).next (Nat.le_refl _) b26).next (Nat.le_refl _) b27).next (Nat.le_refl _) b28).next (Nat.le_refl _) b29).next (Nat.le_refl _) b30).next (Nat.le_refl _) b31) (Nat.le_refl _)) : IntsAt _ _ M)
                            have rC2 := Lib.hid ((p3w.reads.below (((((((((((((((((((((((((((b4.next (Nat.le_refl _) b5).next (Nat.le_refl _) b6).next (Nat.le_refl _) b7).next (Nat.le_refl _) b8).next (Nat.le_refl _) b9).next (Nat.le_refl _) b10).next (Nat.le_refl _) b11).next (Nat.le_refl _) b12).next (Nat.le_refl _) b13).next (Nat.le_refl _) b14).next (Nat.le_refl _) b15).next (Nat.le_refl _) b16).next (Nat.le_refl _) b17).next (Nat.le_refl _) b18).next (Nat.le_refl _) b19).next (Nat.le_refl _) b20).next (Nat.le_refl _) b21).next (Nat.le_refl _) b22).next (Nat.le_refl _) b23).next (Nat.le_refl _) b24).next (Nat.le_refl _) b25).next (Nat.le_refl _) b26).next (Nat.le_refl _) b27).next (Nat.le_refl _) b28).next (Nat.le_refl _) b29).next (Nat.le_refl _) b30).next (Nat.le_refl _) b31) (Nat.le_refl _)) : IntsAt _ _ Cf)
                            have rD2 := Lib.hid ((o5w.reads.below (((((((((((((((((((((((((b6.next (Nat.le_refl _) b7).next (Nat.le_refl _) b8).next (Nat.le_refl _) b9).next (Nat.le_refl _) b10).next (Nat.le_refl _) b11).next (Nat.le_refl _) b12).next (Nat.le_refl _) b13).next (Nat.le_refl _) b14).next (Nat.le_refl _) b15).next (Nat.le_refl _) b16).next (Nat.le_refl _) b17).next (Nat.le_refl _) b18).next (Nat.le_refl _) b19).next (Nat.le_refl _) b20).next (Nat.le_refl _) b21).next (Nat.le_refl _) b22).next (Nat.le_refl _) b23).next (Nat.le_refl _) b24).next (Nat.le_refl _) b25).next (Nat.le_refl _) b26).next (Nat.le_refl _) b27).next (Nat.le_refl _) b28).next (Nat.le_refl _) b29).next (Nat.le_refl _) b30).next (Nat.le_refl _) b31) (Nat.le_refl _)) : IntsAt _ _ D)
                            obtain ⟨bB, sB, hB, _⟩ := rB.out.at_ 0 (by have := LB.out; omega)
                            subst hB
                            obtain ⟨bX, sX, hX, _⟩ := rX.out.at_ 0 (by have := LX.out; omega)
                            subst hX
                            obtain ⟨bY, sY, hY, _⟩ := rY.out.at_ 0 (by have := LY.out; omega)
                            subst hY
                            obtain ⟨bM, sM, hM, _⟩ := rM2.out.at_ 0 (by have := LM.out; omega)
                            subst hM
                            have hZ := ((((((((((((((((((((((((((((((b1.next (Nat.le_refl _) b2).next (Nat.le_refl _) b3).next (Nat.le_refl _) b4).next (Nat.le_refl _) b5).next (Nat.le_refl _) b6).next (Nat.le_refl _) b7).next (Nat.le_refl _) b8).next (Nat.le_refl _) b9).next (Nat.le_refl _) b10).next (Nat.le_refl _) b11).next (Nat.le_refl _) b12).next (Nat.le_refl _) b13).next (Nat.le_refl _) b14).next (Nat.le_refl _) b15).next (Nat.le_refl _) b16).next (Nat.le_refl _) b17).next (Nat.le_refl _) b18).next (Nat.le_refl _) b19).next (Nat.le_refl _) b20).next (Nat.le_refl _) b21).next (Nat.le_refl _) b22).next (Nat.le_refl _) b23).next (Nat.le_refl _) b24).next (Nat.le_refl _) b25).next (Nat.le_refl _) b26).next (Nat.le_refl _) b27).next (Nat.le_refl _) b28).next (Nat.le_refl _) b29).next (Nat.le_refl _) b30).next (Nat.le_refl _) b31)
                            try clear f0
                            try clear f1
                            try clear h0
                            try clear h1
                            try clear hc0
                            try clear hc1
                            try clear hl62
                            try clear hi0
                            try clear hi1
                            try clear hk0
                            try clear hk1
                            try clear o1
                            try clear o2
                            try clear p2
                            try clear o4
                            try clear o6
                            try clear ha62
                            try clear hp0
                            try clear hp1
                            try clear hq0
                            try clear hq1
                            try clear hc9
                            try clear E5
                            try clear o7
                            try clear o8
                            try clear o9
                            try clear hb62
                            try clear hn0
                            try clear hn1
                            try clear E6
                            try clear H6
                            try clear o10
                            try clear o12
                            try clear hu62
                            try clear hx0
                            try clear hx1
                            try clear hy0
                            try clear hy1
                            try clear E7
                            try clear o13
                            try clear o14
                            try clear hnS
                            try clear hcS
                            try clear o11
                            try clear E1
                            try clear E2
                            try clear E3
                            try clear E4
                            try clear R1
                            try clear R2
                            try clear R3
                            try clear R4
                            try clear Hok
                            try clear o19
                            try clear p19
                            try clear o20
                            try clear o3w
                            try clear p3w
                            try clear o5w
                            try clear o21w
                            try clear o22w
                            try clear o23w
                            try clear o3
                            try clear p3
                            try clear o5
                            try clear o21
                            try clear o22
                            try clear o23
                            try clear b1
                            try clear b2
                            try clear b3
                            try clear b4
                            try clear b5
                            try clear b6
                            try clear b7
                            try clear b8
                            try clear b9
                            try clear b10
                            try clear b11
                            try clear b12
                            try clear b13
                            try clear b14
                            try clear b15
                            try clear b16
                            try clear b17
                            try clear b18
                            try clear b19
                            try clear b20
                            try clear b21
                            try clear b22
                            try clear b23
                            try clear b24
                            try clear b25
                            try clear b26
                            try clear b27
                            try clear b28
                            try clear b29
                            try clear b30
                            try clear b31
                            go_wp2_with fail
                            go_loopw [443] (fun si wr => ∃ n : Nat, n ≤ B.length ∧ si = .int .i64 n ∧ Below w31.heap.size w31 wr) (fun si _ => B.length - (intOf si).toNat)
                            case atStart => exact ⟨0, Nat.zero_le _, rfl, Below.refl _ _⟩
                            case round =>
                              obtain ⟨n, hn, rfl, hb⟩ := hrel
                              by_cases hlt : n < B.length
                              · have n8 : n < 8 := by have := LB.out; omega
                                obtain ⟨k1, k2, k3⟩ := KK.out n n8
                                obtain ⟨x, hx⟩ : ∃ x, x = gi X n := ⟨_, rfl⟩
                                obtain ⟨y, hy⟩ : ∃ x, x = gi Y n := ⟨_, rfl⟩
                                obtain ⟨z, hz⟩ : ∃ x, x = gi B n := ⟨_, rfl⟩
                                obtain ⟨mm, hm⟩ : ∃ x, x = gi M n := ⟨_, rfl⟩
                                rw [← hx, ← hy] at k1
                                rw [← hx, ← hy, ← hz] at k2
                                rw [← hx, ← hy, ← hz, ← hm] at k3
                                have F : ∀ W, Below w31.heap.size w31 W → W.cell? ⟨bB, sB + n, none⟩ = some (.int .i64 z) ∧ W.cell? ⟨bX, sX + n, none⟩ = some (.int .i64 x) ∧ W.cell? ⟨bY, sY + n, none⟩ = some (.int .i64 y) ∧ W.cell? ⟨bM, sM + n, none⟩ = some (.int .i64 mm) ∧ (∀ dd, Calls Try.prog 46 #[.slice AC Cf.length cC, .int .i64 n] (W.drewN dd) (fun e w'' => e = .returned (.bool (conflictKey z x y)) ∧ ∃ m, w'' = W.drewN m)) ∧ (∀ dd, Calls Try.prog 46 #[.slice AD D.length cD, .int .i64 n] (W.drewN dd) (fun e w'' => e = .returned (.bool (!decide (x = y))) ∧ ∃ m, w'' = W.drewN m)) := fun W hW => by
                                  refine ⟨?_, ?_, ?_, ?_, fun dd => ?_, fun dd => ?_⟩
                                  · rw [hz]; exact IntsAt.cell (rB.out.below hW (Nat.le_refl _)) n (by have := LB.out; omega)
                                  · rw [hx]; exact IntsAt.cell (rX.out.below hW (Nat.le_refl _)) n (by have := LX.out; omega)
                                  · rw [hy]; exact IntsAt.cell (rY.out.below hW (Nat.le_refl _)) n (by have := LY.out; omega)
                                  · rw [hm]; exact IntsAt.cell (rM2.out.below hW (Nat.le_refl _)) n (by have := LM.out; omega)
                                  · rw [← k2]; exact Calls.quiet_of_same ((qHas_any _ Cf n _ ((rC2.out.below hW (Nat.le_refl _)).below ((Below.refl _ W).drewN dd) (Nat.le_refl _))).mono fun _ _ ⟨a, b⟩ => ⟨a, b.symm⟩)
                                  · rw [← k1]; exact Calls.quiet_of_same ((qHas_any _ D n _ ((rD2.out.below hW (Nat.le_refl _)).below ((Below.refl _ W).drewN dd) (Nat.le_refl _))).mono fun _ _ ⟨a, b⟩ => ⟨a, b.symm⟩)
                                have iB : (n : Int) < (B.length : Int) := by have := LB.out; omega
                                have iX : (n : Int) < (X.length : Int) := by have := LX.out; omega
                                have iY : (n : Int) < (Y.length : Int) := by have := LY.out; omega
                                have iM : (n : Int) < (M.length : Int) := by have := LM.out; omega
                                have i0 : (0 : Int) ≤ (n : Int) := by omega
                                have kc := key_cases x y z mm k3
                                have HF := Lib.hid F
                                clear k1 k2 k3 hx hy hz hm F
                                obtain ⟨cB9, cX9, cY9, cM9, qC, qD⟩ := HF.out wr hb
                                rcases kc with ⟨h1, h2, h3, h4, h5, h6, h7, h8⟩ | ⟨h1, h2, h3, h4, h5, h6, h7, h8⟩ | ⟨h1, h2, h3, h4, h5, h6, h7, h8⟩ | ⟨h1, h2, h3, h4, h5, h6, h7, h8⟩ | ⟨h1, h2, h3, h4, h5, h6, h7, h8⟩ | ⟨h1, h2, h3, h4, h5, h6, h7, h8⟩ | ⟨h1, h2, h3, h4, h5, h6, h7, h8⟩ | ⟨h1, h2, h3, h4, h5, h6, h7, h8⟩ | ⟨b5, b6, h1, h2, h3, h4, h5, h6, h7, h8⟩
                                · as_aux_lemma =>
                                      rw [h7] at qC
                                      rw [h8] at qD
                                      go_wp2_with fail
                                      go_quiet ((first | with_reducible exact qD _ | with_reducible exact qC _))
                                      clear cB9 cX9 cY9 cM9 qC qD
                                      obtain ⟨w_, hw_⟩ : ∃ w9, w9 = wr.drewN nq := ⟨_, rfl⟩
                                      rw [← hw_]
                                      have hb2 : Below w31.heap.size w31 w_ := by rw [hw_]; exact hb.drewN _
                                      have HW_ := Lib.hid hw_
                                      clear hw_
                                      obtain ⟨cB9, cX9, cY9, cM9, qC, qD⟩ := HF.out w_ hb2
                                      rw [h7] at qC
                                      rw [h8] at qD
                                      clear h7 h8
                                      go_wp2_with fail
                                      go_quiet ((first | with_reducible exact qD _ | with_reducible exact qC _))
                                      have hb3 := hb2.drewN nq
                                      go_wp2_with fail
                                      go_roundw
                                      case rel => exact ⟨n + 1, by omega, by go_num, hb3⟩
                                      case measure => simp [intOf]; omega
                                · as_aux_lemma =>
                                      rw [h7] at qC
                                      rw [h8] at qD
                                      go_wp2_with fail
                                      go_quiet ((first | with_reducible exact qD _ | with_reducible exact qC _))
                                      clear cB9 cX9 cY9 cM9 qC qD
                                      obtain ⟨w_, hw_⟩ : ∃ w9, w9 = wr.drewN nq := ⟨_, rfl⟩
                                      rw [← hw_]
                                      have hb2 : Below w31.heap.size w31 w_ := by rw [hw_]; exact hb.drewN _
                                      have HW_ := Lib.hid hw_
                                      clear hw_
                                      obtain ⟨cB9, cX9, cY9, cM9, qC, qD⟩ := HF.out w_ hb2
                                      rw [h7] at qC
                                      rw [h8] at qD
                                      clear h7 h8
                                      go_wp2_with fail
                                      go_quiet ((first | with_reducible exact qD _ | with_reducible exact qC _))
                                      have hb3 := hb2.drewN nq
                                      go_wp2_with fail
                                      go_roundw
                                      case rel => exact ⟨n + 1, by omega, by go_num, hb3⟩
                                      case measure => simp [intOf]; omega
                                · as_aux_lemma =>
                                      rw [h7] at qC
                                      rw [h8] at qD
                                      go_wp2_with fail
                                      go_quiet ((first | with_reducible exact qD _ | with_reducible exact qC _))
                                      clear cB9 cX9 cY9 cM9 qC qD
                                      obtain ⟨w_, hw_⟩ : ∃ w9, w9 = wr.drewN nq := ⟨_, rfl⟩
                                      rw [← hw_]
                                      have hb2 : Below w31.heap.size w31 w_ := by rw [hw_]; exact hb.drewN _
                                      have HW_ := Lib.hid hw_
                                      clear hw_
                                      obtain ⟨cB9, cX9, cY9, cM9, qC, qD⟩ := HF.out w_ hb2
                                      rw [h7] at qC
                                      rw [h8] at qD
                                      clear h7 h8
                                      go_wp2_with fail
                                      go_quiet ((first | with_reducible exact qD _ | with_reducible exact qC _))
                                      have hb3 := hb2.drewN nq
                                      go_wp2_with fail
                                      go_roundw
                                      case rel => exact ⟨n + 1, by omega, by go_num, hb3⟩
                                      case measure => simp [intOf]; omega
                                · as_aux_lemma =>
                                      rw [h7] at qC
                                      rw [h8] at qD
                                      go_wp2_with fail
                                      go_quiet ((first | with_reducible exact qD _ | with_reducible exact qC _))
                                      clear cB9 cX9 cY9 cM9 qC qD
                                      obtain ⟨w_, hw_⟩ : ∃ w9, w9 = wr.drewN nq := ⟨_, rfl⟩
                                      rw [← hw_]
                                      have hb2 : Below w31.heap.size w31 w_ := by rw [hw_]; exact hb.drewN _
                                      have HW_ := Lib.hid hw_
                                      clear hw_
                                      obtain ⟨cB9, cX9, cY9, cM9, qC, qD⟩ := HF.out w_ hb2
                                      rw [h7] at qC
                                      rw [h8] at qD
                                      clear h7 h8
                                      go_wp2_with fail
                                      go_quiet ((first | with_reducible exact qD _ | with_reducible exact qC _))
                                      have hb3 := hb2.drewN nq
                                      go_wp2_with fail
                                      go_roundw
                                      case rel => exact ⟨n + 1, by omega, by go_num, hb3⟩
                                      case measure => simp [intOf]; omega
                                · as_aux_lemma =>
                                      rw [h7] at qC
                                      rw [h8] at qD
                                      go_wp2_with fail
                                      go_quiet ((first | with_reducible exact qD _ | with_reducible exact qC _))
                                      clear cB9 cX9 cY9 cM9 qC qD
                                      obtain ⟨w_, hw_⟩ : ∃ w9, w9 = wr.drewN nq := ⟨_, rfl⟩
                                      rw [← hw_]
                                      have hb2 : Below w31.heap.size w31 w_ := by rw [hw_]; exact hb.drewN _
                                      have HW_ := Lib.hid hw_
                                      clear hw_
                                      obtain ⟨cB9, cX9, cY9, cM9, qC, qD⟩ := HF.out w_ hb2
                                      rw [h7] at qC
                                      rw [h8] at qD
                                      clear h7 h8
                                      go_wp2_with fail
                                      go_quiet ((first | with_reducible exact qD _ | with_reducible exact qC _))
                                      have hb3 := hb2.drewN nq
                                      go_wp2_with fail
                                      go_roundw
                                      case rel => exact ⟨n + 1, by omega, by go_num, hb3⟩
                                      case measure => simp [intOf]; omega
                                · as_aux_lemma =>
                                      rw [h7] at qC
                                      rw [h8] at qD
                                      go_wp2_with fail
                                      go_quiet ((first | with_reducible exact qD _ | with_reducible exact qC _))
                                      clear cB9 cX9 cY9 cM9 qC qD
                                      obtain ⟨w_, hw_⟩ : ∃ w9, w9 = wr.drewN nq := ⟨_, rfl⟩
                                      rw [← hw_]
                                      have hb2 : Below w31.heap.size w31 w_ := by rw [hw_]; exact hb.drewN _
                                      have HW_ := Lib.hid hw_
                                      clear hw_
                                      obtain ⟨cB9, cX9, cY9, cM9, qC, qD⟩ := HF.out w_ hb2
                                      rw [h7] at qC
                                      rw [h8] at qD
                                      clear h7 h8
                                      go_wp2_with fail
                                      go_quiet ((first | with_reducible exact qD _ | with_reducible exact qC _))
                                      have hb3 := hb2.drewN nq
                                      go_wp2_with fail
                                      go_roundw
                                      case rel => exact ⟨n + 1, by omega, by go_num, hb3⟩
                                      case measure => simp [intOf]; omega
                                · as_aux_lemma =>
                                      rw [h7] at qC
                                      rw [h8] at qD
                                      go_wp2_with fail
                                      go_quiet ((first | with_reducible exact qD _ | with_reducible exact qC _))
                                      clear cB9 cX9 cY9 cM9 qC qD
                                      obtain ⟨w_, hw_⟩ : ∃ w9, w9 = wr.drewN nq := ⟨_, rfl⟩
                                      rw [← hw_]
                                      have hb2 : Below w31.heap.size w31 w_ := by rw [hw_]; exact hb.drewN _
                                      have HW_ := Lib.hid hw_
                                      clear hw_
                                      obtain ⟨cB9, cX9, cY9, cM9, qC, qD⟩ := HF.out w_ hb2
                                      rw [h7] at qC
                                      rw [h8] at qD
                                      clear h7 h8
                                      go_wp2_with fail
                                      go_quiet ((first | with_reducible exact qD _ | with_reducible exact qC _))
                                      have hb3 := hb2.drewN nq
                                      go_wp2_with fail
                                      go_roundw
                                      case rel => exact ⟨n + 1, by omega, by go_num, hb3⟩
                                      case measure => simp [intOf]; omega
                                · as_aux_lemma =>
                                      rw [h7] at qC
                                      rw [h8] at qD
                                      go_wp2_with fail
                                      go_quiet ((first | with_reducible exact qD _ | with_reducible exact qC _))
                                      clear cB9 cX9 cY9 cM9 qC qD
                                      obtain ⟨w_, hw_⟩ : ∃ w9, w9 = wr.drewN nq := ⟨_, rfl⟩
                                      rw [← hw_]
                                      have hb2 : Below w31.heap.size w31 w_ := by rw [hw_]; exact hb.drewN _
                                      have HW_ := Lib.hid hw_
                                      clear hw_
                                      obtain ⟨cB9, cX9, cY9, cM9, qC, qD⟩ := HF.out w_ hb2
                                      rw [h7] at qC
                                      rw [h8] at qD
                                      clear h7 h8
                                      go_wp2_with fail
                                      go_quiet ((first | with_reducible exact qD _ | with_reducible exact qC _))
                                      have hb3 := hb2.drewN nq
                                      go_wp2_with fail
                                      go_roundw
                                      case rel => exact ⟨n + 1, by omega, by go_num, hb3⟩
                                      case measure => simp [intOf]; omega
                                · as_aux_lemma =>
                                      rw [h7] at qC
                                      rw [h8] at qD
                                      go_wp2_with fail
                                      go_quiet ((first | with_reducible exact qD _ | with_reducible exact qC _))
                                      clear cB9 cX9 cY9 cM9 qC qD
                                      obtain ⟨w_, hw_⟩ : ∃ w9, w9 = wr.drewN nq := ⟨_, rfl⟩
                                      rw [← hw_]
                                      have hb2 : Below w31.heap.size w31 w_ := by rw [hw_]; exact hb.drewN _
                                      have HW_ := Lib.hid hw_
                                      clear hw_
                                      obtain ⟨cB9, cX9, cY9, cM9, qC, qD⟩ := HF.out w_ hb2
                                      rw [h7] at qC
                                      rw [h8] at qD
                                      clear h7 h8
                                      go_wp2_with fail
                                      go_quiet ((first | with_reducible exact qD _ | with_reducible exact qC _))
                                      have hb3 := hb2.drewN nq
                                      go_wp2_with fail
                                      go_roundw
                                      case rel => exact ⟨n + 1, by omega, by go_num, hb3⟩
                                      case measure => simp [intOf]; omega
                              · obtain rfl : n = B.length := by omega
                                go_wp2_with fail
                                go_ret
                                exact ⟨rfl, hZ.next (Nat.le_refl _) hb⟩
end Go.Proofs.Ytleiijhnjaagmaa
