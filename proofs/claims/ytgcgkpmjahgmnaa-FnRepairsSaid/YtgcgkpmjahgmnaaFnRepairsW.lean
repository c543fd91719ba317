/- The walk of the law FnRepairs: whatever the bytes, it returns true and writes nothing that was there. -/
import Derived.Test.YtgcgkpmjahgmnaaRpL
import Derived.Test.YtgcgkpmjahgmnaaOpen
import Derived.Deep.DeepCutAuto
set_option linter.unusedSimpArgs false
set_option linter.unusedVariables false
namespace Go.Proofs.Ytgcgkpmjahgmnaa
open Go.RowKit Go.Sort

set_option maxRecDepth 100000 in
set_option maxHeartbeats 12800000 in
theorem FnRepairs_walk (v0 : Value) (code : List Nat) (v1 : Value) (more : List Nat) (w0 : World) (h0 : BytesAt w0 v0 code) (f0 : WfCode code) (h1 : BytesAt w0 v1 more) (f1 : WfCode more) :
    Calls Try.prog 4 #[v0, v1] w0 (LawPost w0) := by
  obtain ⟨A0, c0, rfl, hn0, hc0⟩ := h0.shape
  obtain ⟨A1, c1, rfl, hn1, hc1⟩ := h1.shape
  by_cases hbig : (1048576 : Int) < wrap64 ((code.length : Int) + (more.length : Int))
  · go_enter Try.func4, Try.ntmps4
    go_wp2_with fail
    go_ret
    exact ⟨rfl, Below.refl _ _⟩
  · have hbig2 : wrap64 ((code.length : Int) + (more.length : Int)) ≤ (1048576 : Int) := by omega
    clear hbig
    go_enter Try.func4, Try.ntmps4
    go_wp2_with fail
    clear hbig2
    have C := Lib.hid (drawRepairKind_any _ code w0 h0 f0)
    go_wp2_with fail
    refine C.out.mono ?_; rintro e w1 ⟨vf, vt, vp, T, L, rfl, o1, b1⟩
    clear C
    obtain ⟨Af, df, hvf, hnf, hcf⟩ := o1.rf.reads.shape
    subst hvf
    obtain ⟨At, dt, hvt, hnt, hct⟩ := o1.rt.reads.shape
    subst hvt
    obtain ⟨Ap, dp, hvp, hnp, hcp⟩ := o1.rp.reads.shape
    subst hvp
    have oT : TrAt w1 _ _ _ T := o1.reads
    clear o1
    have zB := BoxT.new 31 w1 (.slice Af T.f.length df) (.slice At T.t.length dt) (T.c) (.slice Ap T.p.length dp)
    have b2 : Below w1.heap.size w1 (w1.alloc (.cells #[.slice Af T.f.length df, .slice At T.t.length dt, .int .i64 T.c, .slice Ap T.p.length dp] 31)) := (Below.refl _ w1).alloc (Nat.le_refl _) (.cells #[.slice Af T.f.length df, .slice At T.t.length dt, .int .i64 T.c, .slice Ap T.p.length dp] 31)
    obtain ⟨w2, hw2⟩ : ∃ W, W = (w1.alloc (.cells #[.slice Af T.f.length df, .slice At T.t.length dt, .int .i64 T.c, .slice Ap T.p.length dp] 31)) := ⟨_, rfl⟩
    obtain ⟨B, hB⟩ : ∃ X, X = w1.heap.size := ⟨_, rfl⟩
    rw [← hw2] at zB b2
    rw [← hB] at zB
    have HW2 := Lib.hid (hw2)
    have HB := Lib.hid (hB)
    clear hw2 hB
    go_upto_region 4 with fail
    rw [← HW2.out, ← HB.out]
    obtain ⟨kd, ok, known, one, three, l, S, x, y, e1, e2, e3, e4, e5⟩ := repairs_all T L
    have E1 := Lib.hid (e1)
    have E2 := Lib.hid (e2)
    have E3 := Lib.hid (e3)
    have E4 := Lib.hid (e4)
    have E5 := Lib.hid (e5)
    clear e1 e2 e3 e4 e5
    obtain ⟨c0, c1, c2, c3⟩ := zB.cells
    have C := Lib.hid ((implRepairKind _ _ _ T L w2 (oT.below b2 (Nat.le_refl _))).mono fun _ _ h9 => E1.out _ _ _ h9)
    go_wp2_with fail
    refine C.out.mono ?_; rintro e w3 ⟨rfl, b3⟩
    clear C
    clear c0 c1 c2 c3
    obtain ⟨c0, c1, c2, c3⟩ := (zB.keep b3 zB.lt).cells
    have C := Lib.hid ((specRepairKind _ _ _ T L w3 (oT.below (b2.next (Nat.le_refl _) b3) (Nat.le_refl _))).mono fun _ _ h9 => E1.out _ _ _ h9)
    go_wp2_with fail
    refine C.out.mono ?_; rintro e w4 ⟨rfl, b4⟩
    clear C
    clear c0 c1 c2 c3
    obtain ⟨c0, c1, c2, c3⟩ := (zB.keep (b3.next (Nat.le_refl _) b4) zB.lt).cells
    have C := Lib.hid ((implLeastDelays _ _ _ T L w4 (oT.below ((b2.next (Nat.le_refl _) b3).next (Nat.le_refl _) b4) (Nat.le_refl _))).mono fun _ _ h9 => E2.out _ _ _ h9)
    go_wp2_with fail
    refine C.out.mono ?_; rintro e w5 ⟨A1, q1, rfl, i1, b5⟩
    clear C
    clear c0 c1 c2 c3
    obtain ⟨c0, c1, c2, c3⟩ := (zB.keep ((b3.next (Nat.le_refl _) b4).next (Nat.le_refl _) b5) zB.lt).cells
    have C := Lib.hid ((specLeastDelays _ _ _ T L w5 (oT.below (((b2.next (Nat.le_refl _) b3).next (Nat.le_refl _) b4).next (Nat.le_refl _) b5) (Nat.le_refl _))).mono fun _ _ h9 => E2.out _ _ _ h9)
    go_wp2_with fail
    refine C.out.mono ?_; rintro e w6 ⟨A2, q2, rfl, i2, b6⟩
    clear C
    clear c0 c1 c2 c3
    obtain ⟨c0, c1, c2, c3⟩ := (zB.keep (((b3.next (Nat.le_refl _) b4).next (Nat.le_refl _) b5).next (Nat.le_refl _) b6) zB.lt).cells
    have C := Lib.hid ((implRepairSwap _ _ _ T L w6 (oT.below ((((b2.next (Nat.le_refl _) b3).next (Nat.le_refl _) b4).next (Nat.le_refl _) b5).next (Nat.le_refl _) b6) (Nat.le_refl _))).mono fun _ _ h9 => E3.out _ _ _ h9)
    go_wp2_with fail
    refine C.out.mono ?_; rintro e w7 ⟨rfl, b7⟩
    clear C
    clear c0 c1 c2 c3
    obtain ⟨c0, c1, c2, c3⟩ := (zB.keep ((((b3.next (Nat.le_refl _) b4).next (Nat.le_refl _) b5).next (Nat.le_refl _) b6).next (Nat.le_refl _) b7) zB.lt).cells
    have C := Lib.hid ((specRepairSwap _ _ _ T L w7 (oT.below (((((b2.next (Nat.le_refl _) b3).next (Nat.le_refl _) b4).next (Nat.le_refl _) b5).next (Nat.le_refl _) b6).next (Nat.le_refl _) b7) (Nat.le_refl _))).mono fun _ _ h9 => E3.out _ _ _ h9)
    go_wp2_with fail
    refine C.out.mono ?_; rintro e w8 ⟨rfl, b8⟩
    clear C
    clear c0 c1 c2 c3
    have hk9 : (kd != kd) = false := by simp
    have hs9 : (S != S) = false := by simp
    have hx9 : (x != x) = false := by simp
    have hy9 : (y != y) = false := by simp
    go_upto_region 10 with fail
    go_cut [144] from 92 to 144 (fun s wx => s = .bool false ∧ Below w8.heap.size w8 wx)
    case first =>
      as_aux_lemma =>
        cases ok
        case false =>
          obtain ⟨o_, t_⟩ := E4.out rfl
          subst o_ t_
          have C := Lib.hid (qInts_same _ _ l w8 (i1.below ((b6.next (Nat.le_refl _) b7).next (Nat.le_refl _) b8) (Nat.le_refl _)) (i2.below (b7.next (Nat.le_refl _) b8) (Nat.le_refl _)))
          go_wp2_with fail
          refine C.out.mono ?_; rintro e w9 ⟨rfl, b9⟩
          clear C
          go_wp2_with fail
          go_meet
          exact ⟨rfl, b9⟩
        case true =>
          cases one
          case false =>
            cases three
            case false =>
              have C := Lib.hid (qInts_same _ _ l w8 (i1.below ((b6.next (Nat.le_refl _) b7).next (Nat.le_refl _) b8) (Nat.le_refl _)) (i2.below (b7.next (Nat.le_refl _) b8) (Nat.le_refl _)))
              go_wp2_with fail
              refine C.out.mono ?_; rintro e w9 ⟨rfl, b9⟩
              clear C
              go_wp2_with fail
              go_meet
              exact ⟨rfl, b9⟩
            case true =>
              have C := Lib.hid (qInts_same _ _ l w8 (i1.below ((b6.next (Nat.le_refl _) b7).next (Nat.le_refl _) b8) (Nat.le_refl _)) (i2.below (b7.next (Nat.le_refl _) b8) (Nat.le_refl _)))
              go_wp2_with fail
              refine C.out.mono ?_; rintro e w9 ⟨rfl, b9⟩
              clear C
              go_wp2_with fail
              go_meet
              exact ⟨rfl, b9⟩
          case true =>
            cases three
            case false =>
              have C := Lib.hid (qInts_same _ _ l w8 (i1.below ((b6.next (Nat.le_refl _) b7).next (Nat.le_refl _) b8) (Nat.le_refl _)) (i2.below (b7.next (Nat.le_refl _) b8) (Nat.le_refl _)))
              go_wp2_with fail
              refine C.out.mono ?_; rintro e w9 ⟨rfl, b9⟩
              clear C
              go_wp2_with fail
              go_meet
              exact ⟨rfl, b9⟩
            case true =>
              have C := Lib.hid (qInts_same _ _ l w8 (i1.below ((b6.next (Nat.le_refl _) b7).next (Nat.le_refl _) b8) (Nat.le_refl _)) (i2.below (b7.next (Nat.le_refl _) b8) (Nat.le_refl _)))
              go_wp2_with fail
              refine C.out.mono ?_; rintro e w9 ⟨rfl, b9⟩
              clear C
              go_wp2_with fail
              go_meet
              exact ⟨rfl, b9⟩
    case rest =>
      skip
      obtain ⟨w9, hw9⟩ : ∃ w9 : World, w9 = wc := ⟨_, rfl⟩
      subst hw9
      obtain ⟨rfl, b9⟩ := hcut
      clear hk9 hs9 hx9 hy9
      cases ok
      case false =>
        go_wp2_with fail
        go_ret
        exact ⟨rfl, ((((((((b1.next (Nat.le_refl _) b2).next (Nat.le_refl _) b3).next (Nat.le_refl _) b4).next (Nat.le_refl _) b5).next (Nat.le_refl _) b6).next (Nat.le_refl _) b7).next (Nat.le_refl _) b8).next (Nat.le_refl _) b9)⟩
      case true =>
        as_aux_lemma =>
          have F := E5.out rfl
          clear E1 E2 E3 E4 E5
          have HF := Lib.hid (F)
          have hn6 := F.n6
          have kn := F.kn
          have KN := Lib.hid kn
          clear kn F
          have hmk := fun W => run_make_row' (P := Try.prog) 23 3 _ 8 Try.underlying23 info_int rfl .i64 .i64 T.f.length (by omega) (by omega) W
          have hz := (zrow_ints w9 w9.heap.size T.f.length (Nat.le_refl _) (by omega)).reads
          obtain ⟨c0, c1, c2, c3⟩ := (zB.keep ((((((b3.next (Nat.le_refl _) b4).next (Nat.le_refl _) b5).next (Nat.le_refl _) b6).next (Nat.le_refl _) b7).next (Nat.le_refl _) b8).next (Nat.le_refl _) b9) zB.lt).cells
          go_upto_region 15 with fail
          clear c0 c1 c2 c3
          have b10 : Below w9.heap.size w9 (w9.alloc (.cells (madeCells #[.int .i64 0] T.f.length) 3)) := (Below.refl _ w9).alloc (Nat.le_refl _) _
          obtain ⟨w10, hw10⟩ : ∃ W, W = (w9.alloc (.cells (madeCells #[.int .i64 0] T.f.length) 3)) := ⟨_, rfl⟩
          obtain ⟨Z, hZ⟩ : ∃ X, X = w9.heap.size := ⟨_, rfl⟩
          rw [← hw10] at hz b10
          rw [← hZ] at hz
          have HW10 := Lib.hid (hw10)
          have HZ := Lib.hid (hZ)
          clear hw10 hZ hmk
          rw [← HW10.out, ← HZ.out]
          obtain ⟨c0, c1, c2, c3⟩ := (zB.keep (((((((b3.next (Nat.le_refl _) b4).next (Nat.le_refl _) b5).next (Nat.le_refl _) b6).next (Nat.le_refl _) b7).next (Nat.le_refl _) b8).next (Nat.le_refl _) b9).next (Nat.le_refl _) b10) zB.lt).cells
          have C := Lib.hid (implIsRepair _ _ _ _ T (zeros T.f.length) L w10 (oT.below ((((((((b2.next (Nat.le_refl _) b3).next (Nat.le_refl _) b4).next (Nat.le_refl _) b5).next (Nat.le_refl _) b6).next (Nat.le_refl _) b7).next (Nat.le_refl _) b8).next (Nat.le_refl _) b9).next (Nat.le_refl _) b10) (Nat.le_refl _)) HF.out.rp hz (zeros_len _) (fun i _ => by rw [gi_zeros]; omega) HF.out.l0 HF.out.l80)
          rw [KN.out] at C
          go_wp2_with fail
          refine C.out.mono ?_; rintro e w11 ⟨rfl, b11⟩
          clear C
          clear c0 c1 c2 c3
          obtain ⟨c0, c1, c2, c3⟩ := (zB.keep ((((((((b3.next (Nat.le_refl _) b4).next (Nat.le_refl _) b5).next (Nat.le_refl _) b6).next (Nat.le_refl _) b7).next (Nat.le_refl _) b8).next (Nat.le_refl _) b9).next (Nat.le_refl _) b10).next (Nat.le_refl _) b11) zB.lt).cells
          have C := Lib.hid (specIsRepair _ _ _ _ T (zeros T.f.length) L w11 (oT.below (((((((((b2.next (Nat.le_refl _) b3).next (Nat.le_refl _) b4).next (Nat.le_refl _) b5).next (Nat.le_refl _) b6).next (Nat.le_refl _) b7).next (Nat.le_refl _) b8).next (Nat.le_refl _) b9).next (Nat.le_refl _) b10).next (Nat.le_refl _) b11) (Nat.le_refl _)) HF.out.rp (hz.below b11 (Nat.le_refl _)) (zeros_len _) (fun i _ => by rw [gi_zeros]; omega) HF.out.l0 HF.out.l80)
          rw [KN.out] at C
          go_wp2_with fail
          refine C.out.mono ?_; rintro e w12 ⟨rfl, b12⟩
          clear C
          clear c0 c1 c2 c3
          go_upto_region 17 with fail
          go_cut [226] from 165 to 226 (fun s wx => s = .bool false ∧ Below w12.heap.size w12 wx)
          case first =>
            as_aux_lemma =>
              cases known
              case true =>
                obtain ⟨k_, s_⟩ := HF.out.k1 rfl
                subst k_ s_
                cases three
                case false =>
                  have hkd := HF.out.kk
                  simp only [if_true, if_false, Bool.false_eq_true] at hkd
                  subst hkd
                  go_wp2_with fail
                  go_meet
                  exact ⟨rfl, (Below.refl w12.heap.size w12)⟩
                case true =>
                  have hkd := HF.out.kk
                  simp only [if_true, if_false, Bool.false_eq_true] at hkd
                  subst hkd
                  go_wp2_with fail
                  go_meet
                  exact ⟨rfl, (Below.refl w12.heap.size w12)⟩
              case false =>
                cases one
                case false =>
                  cases three
                  case false =>
                    have hkd := HF.out.kk
                    simp only [if_true, if_false, Bool.false_eq_true] at hkd
                    subst hkd
                    go_wp2_with fail
                    go_meet
                    exact ⟨rfl, (Below.refl w12.heap.size w12)⟩
                  case true =>
                    have hkd := HF.out.kk
                    simp only [if_true, if_false, Bool.false_eq_true] at hkd
                    subst hkd
                    go_wp2_with fail
                    go_meet
                    exact ⟨rfl, (Below.refl w12.heap.size w12)⟩
                case true =>
                  cases three
                  case false =>
                    have hkd := HF.out.kk
                    simp only [if_true, if_false, Bool.false_eq_true] at hkd
                    subst hkd
                    go_wp2_with fail
                    go_meet
                    exact ⟨rfl, (Below.refl w12.heap.size w12)⟩
                  case true =>
                    have hkd := HF.out.kk
                    simp only [if_true, if_false, Bool.false_eq_true] at hkd
                    subst hkd
                    go_wp2_with fail
                    go_meet
                    exact ⟨rfl, (Below.refl w12.heap.size w12)⟩
          case rest =>
            skip
            obtain ⟨w13, hw13⟩ : ∃ w9 : World, w9 = wc := ⟨_, rfl⟩
            subst hw13
            obtain ⟨rfl, b13⟩ := hcut
            go_upto_if 227 with fail
            go_cut [] from 28 to 285 (fun wx => Below w13.heap.size w13 wx)
            case first =>
              as_aux_lemma =>
                cases one
                case false =>
                  go_wp2_with fail
                  go_meet
                  exact (Below.refl w13.heap.size w13)
                case true =>
                  obtain ⟨hl, hr, hk, hless⟩ := HF.out.o1 rfl
                  have hln : ((l.length : Int) != (T.f.length : Int)) = false := by rw [hl]; simp
                  have hl6 : l.length ≤ 6 := by omega
                  have hS9 : (S != S) = false := by simp
                  have HL := Lib.hid (hl)
                  have HR := Lib.hid (hr)
                  have HK := Lib.hid (hk)
                  have HLESS := Lib.hid (hless)
                  clear hl hr hk hless
                  obtain ⟨c0, c1, c2, c3⟩ := (zB.keep ((((((((((b3.next (Nat.le_refl _) b4).next (Nat.le_refl _) b5).next (Nat.le_refl _) b6).next (Nat.le_refl _) b7).next (Nat.le_refl _) b8).next (Nat.le_refl _) b9).next (Nat.le_refl _) b10).next (Nat.le_refl _) b11).next (Nat.le_refl _) b12).next (Nat.le_refl _) b13) zB.lt).cells
                  have C := Lib.hid (implIsRepair _ _ _ _ T l L w13 (oT.below (((((((((((b2.next (Nat.le_refl _) b3).next (Nat.le_refl _) b4).next (Nat.le_refl _) b5).next (Nat.le_refl _) b6).next (Nat.le_refl _) b7).next (Nat.le_refl _) b8).next (Nat.le_refl _) b9).next (Nat.le_refl _) b10).next (Nat.le_refl _) b11).next (Nat.le_refl _) b12).next (Nat.le_refl _) b13) (Nat.le_refl _)) HF.out.rp (i1.below (((((((b6.next (Nat.le_refl _) b7).next (Nat.le_refl _) b8).next (Nat.le_refl _) b9).next (Nat.le_refl _) b10).next (Nat.le_refl _) b11).next (Nat.le_refl _) b12).next (Nat.le_refl _) b13) (Nat.le_refl _)) HL.out HR.out HF.out.l0 HF.out.l80)
                  rw [HK.out] at C
                  go_wp2_with fail
                  refine C.out.mono ?_; rintro e w14 ⟨rfl, b14⟩
                  clear C
                  clear c0 c1 c2 c3
                  obtain ⟨c0, c1, c2, c3⟩ := (zB.keep (((((((((((b3.next (Nat.le_refl _) b4).next (Nat.le_refl _) b5).next (Nat.le_refl _) b6).next (Nat.le_refl _) b7).next (Nat.le_refl _) b8).next (Nat.le_refl _) b9).next (Nat.le_refl _) b10).next (Nat.le_refl _) b11).next (Nat.le_refl _) b12).next (Nat.le_refl _) b13).next (Nat.le_refl _) b14) zB.lt).cells
                  have C := Lib.hid (qSum_any _ l w14 (i2.below (((((((b7.next (Nat.le_refl _) b8).next (Nat.le_refl _) b9).next (Nat.le_refl _) b10).next (Nat.le_refl _) b11).next (Nat.le_refl _) b12).next (Nat.le_refl _) b13).next (Nat.le_refl _) b14) (Nat.le_refl _)) hl6 (fun i hi => HR.out i (by rw [← HL.out]; exact hi)))
                  rw [HF.out.sm] at C
                  go_wp2_with fail
                  refine C.out.mono ?_; rintro e _ ⟨rfl, rfl⟩
                  clear C
                  skip
                  have rl := Lib.hid ((i2.below (((((((b7.next (Nat.le_refl _) b8).next (Nat.le_refl _) b9).next (Nat.le_refl _) b10).next (Nat.le_refl _) b11).next (Nat.le_refl _) b12).next (Nat.le_refl _) b13).next (Nat.le_refl _) b14) (Nat.le_refl _)))
                  have rT := Lib.hid ((oT.below ((((((((((((b2.next (Nat.le_refl _) b3).next (Nat.le_refl _) b4).next (Nat.le_refl _) b5).next (Nat.le_refl _) b6).next (Nat.le_refl _) b7).next (Nat.le_refl _) b8).next (Nat.le_refl _) b9).next (Nat.le_refl _) b10).next (Nat.le_refl _) b11).next (Nat.le_refl _) b12).next (Nat.le_refl _) b13).next (Nat.le_refl _) b14) (Nat.le_refl _)))
                  have rB := Lib.hid (zB.keep (((((((((((b3.next (Nat.le_refl _) b4).next (Nat.le_refl _) b5).next (Nat.le_refl _) b6).next (Nat.le_refl _) b7).next (Nat.le_refl _) b8).next (Nat.le_refl _) b9).next (Nat.le_refl _) b10).next (Nat.le_refl _) b11).next (Nat.le_refl _) b12).next (Nat.le_refl _) b13).next (Nat.le_refl _) b14) zB.lt)
                  have hX := b14
                  have HX := Lib.hid hX
                  clear hX
                  go_wp2_with fail
                  clear c0 c1 c2 c3
                  go_loopw [257] (fun si wr => ∃ n : Nat, n ≤ l.length ∧ si = .int .i64 n ∧ Below w14.heap.size w14 wr) (fun si _ => l.length - (intOf si).toNat)
                  case atStart => exact ⟨0, Nat.zero_le _, rfl, Below.refl _ _⟩
                  case round =>
                    obtain ⟨n, hn, rfl, hb⟩ := hrel
                    by_cases hlt : n < l.length
                    · obtain ⟨bb, oo, hAA, hcc⟩ := IntsAt.at_ (rl.out.below hb (Nat.le_refl _)) n hlt
                      subst hAA
                      obtain ⟨dn, hdn⟩ : ∃ z, z = gi l n := ⟨_, rfl⟩
                      rw [← hdn] at hcc
                      by_cases h0 : dn = 0
                      · subst h0
                        clear hdn
                        go_wp2_with fail
                        go_roundw
                        case rel => exact ⟨n + 1, by omega, by go_num, hb⟩
                        case measure => simp [intOf]; omega
                      · have hd0 : (dn == 0) = false := by simp [h0]
                        have hr := HR.out n (by rw [← HL.out]; exact hlt)
                        rw [← hdn] at hr
                        obtain ⟨r1, r2⟩ := hr
                        obtain ⟨x1, x2⟩ := HLESS.out n (by rw [← HL.out]; exact hlt) (by rw [← hdn]; exact h0)
                        rw [← hdn] at x1 x2
                        have hwr : IntKind.i64.wrap (dn - 1) = dn - 1 := IntWalk.i64_in _ (by omega)
                        have X1 := Lib.hid (x1)
                        have X2 := Lib.hid (x2)
                        have HB := Lib.hid (hb)
                        have HDN := Lib.hid (hdn)
                        clear x1 x2 hb hdn
                        have zr := rB.out.keep HB.out rB.out.lt
                        obtain ⟨c0, c1, c2, c3⟩ := zr.cells
                        have h9 : ([] : List Int).length + l.length ≤ 1099511627776 := by simp; omega
                        have hE := OwnInts.empty wr w14.heap.size HB.out.size
                        have hEb : Below w14.heap.size w14 (wr.alloc (.cells #[] 3)) := HB.out.alloc HB.out.size _
                        have hE2 := rl.out.below hEb (Nat.le_refl _)
                        have HE := Lib.hid hE
                        have HEB := Lib.hid hEb
                        have HE2 := Lib.hid hE2
                        clear hE hEb hE2 zr
                        go_upto_region 28 with (at_builtin; refine wp_app_ints _ rfl _ _ rfl w14.heap.size _ [] rfl HE.out _ l rfl HE2.out h9 HEB.out.size ?_; intro v4 w4 ho4 hg4)
                        have ho5 : OwnInts w4 w14.heap.size v4 l := ho4
                        clear ho4
                        have b4 : Below w14.heap.size w14 w4 := HEB.out.trans hg4.below
                        obtain ⟨gg, x3, hp3, hbg, _⟩ := World.ownsRow.form ho5 (by omega)
                        subst hp3
                        obtain ⟨hci, hfi⟩ := OwnInts.lit ho5 n hlt
                        rw [← HDN.out] at hci
                        have o6 := (ho5.put n (dn - 1)).reads
                        have b6 := b4.setCell (p := ⟨gg, n, none⟩) hbg (.int .i64 (dn - 1))
                        have hx6 : (l.set n (dn - 1)).length = T.f.length := by rw [List.length_set]; exact HL.out
                        have O6 := Lib.hid (o6)
                        have B6 := Lib.hid (b6)
                        have HX6 := Lib.hid (hx6)
                        have HG4 := Lib.hid (hg4)
                        have B4 := Lib.hid (b4)
                        have HBG := Lib.hid (hbg)
                        clear o6 b6 hg4 b4 hbg ho5 hx6 c0 c1 c2 c3
                        have z6 := rB.out.keep B6.out rB.out.lt
                        obtain ⟨c0, c1, c2, c3⟩ := z6.cells
                        clear z6
                        obtain ⟨w6, hw6⟩ : ∃ W, W = w4.setCell ⟨gg, n, none⟩ (.int .i64 (dn - 1)) := ⟨_, rfl⟩
                        rw [← hw6] at O6 B6 c0 c1 c2 c3
                        have HW6 := Lib.hid hw6
                        clear hw6
                        have C := Lib.hid (implIsRepair _ _ _ _ T (l.set n (dn - 1)) L w6 (rT.out.below B6.out (Nat.le_refl _)) HF.out.rp O6.out HX6.out X1.out HF.out.l0 HF.out.l80)
                        rw [X2.out] at C
                        go_upto_region 29 with fail
                        rw [← HW6.out]
                        go_wp2_with fail
                        refine C.out.mono ?_; rintro e w7 ⟨rfl, b7⟩
                        clear C
                        go_wp2_with fail
                        go_roundw
                        case rel => exact ⟨n + 1, by omega, by go_num, B6.out.next (Nat.le_refl _) b7⟩
                        case measure => simp [intOf]; omega
                    · obtain rfl : n = l.length := by omega
                      go_wp2_with fail
                      go_meet
                      exact HX.out.next (Nat.le_refl _) hb
            case rest =>
              skip
              obtain ⟨w14, hw14⟩ : ∃ w9 : World, w9 = wc := ⟨_, rfl⟩
              subst hw14
              have b14 := hcut
              clear hcut
              cases three
              case false =>
                go_wp2_with fail
                go_ret
                exact ⟨rfl, (((((((((((((b1.next (Nat.le_refl _) b2).next (Nat.le_refl _) b3).next (Nat.le_refl _) b4).next (Nat.le_refl _) b5).next (Nat.le_refl _) b6).next (Nat.le_refl _) b7).next (Nat.le_refl _) b8).next (Nat.le_refl _) b9).next (Nat.le_refl _) b10).next (Nat.le_refl _) b11).next (Nat.le_refl _) b12).next (Nat.le_refl _) b13).next (Nat.le_refl _) b14)⟩
              case true =>
                obtain ⟨i, k, hxi, hyk, hik, hkn, hrs, hks⟩ := HF.out.t1 rfl
                subst hxi hyk
                have hik2 : (i : Int) < (k : Int) := by omega
                have HRS := Lib.hid (hrs)
                have HKS := Lib.hid (hks)
                clear hrs hks
                obtain ⟨hT, _, _, _⟩ := isRp_t HF.out.rp
                have HT := Lib.hid hT
                clear hT
                obtain ⟨c0, c1, c2, c3⟩ := (zB.keep (((((((((((b3.next (Nat.le_refl _) b4).next (Nat.le_refl _) b5).next (Nat.le_refl _) b6).next (Nat.le_refl _) b7).next (Nat.le_refl _) b8).next (Nat.le_refl _) b9).next (Nat.le_refl _) b10).next (Nat.le_refl _) b11).next (Nat.le_refl _) b12).next (Nat.le_refl _) b13).next (Nat.le_refl _) b14) zB.lt).cells
                have C := Lib.hid (implSwapPlaces _ _ _ T i k w14 (oT.below ((((((((((((b2.next (Nat.le_refl _) b3).next (Nat.le_refl _) b4).next (Nat.le_refl _) b5).next (Nat.le_refl _) b6).next (Nat.le_refl _) b7).next (Nat.le_refl _) b8).next (Nat.le_refl _) b9).next (Nat.le_refl _) b10).next (Nat.le_refl _) b11).next (Nat.le_refl _) b12).next (Nat.le_refl _) b13).next (Nat.le_refl _) b14) (Nat.le_refl _)) HT.out (by omega) hkn hik)
                go_wp2_with fail
                refine C.out.mono ?_; rintro e w15 ⟨fX, tX, pX, rfl, oX, b15⟩
                clear C
                clear c0 c1 c2 c3
                obtain ⟨AfX, dfX, hv, _, _⟩ := oX.rf.reads.shape
                subst hv
                obtain ⟨AtX, dtX, hv, _, _⟩ := oX.rt.reads.shape
                subst hv
                obtain ⟨ApX, dpX, hv, _, _⟩ := oX.rp.reads.shape
                subst hv
                have oXr := oX.reads
                clear oX
                have zX := BoxT.new 31 w15 (.slice AfX (swapT T i k).f.length dfX) (.slice AtX (swapT T i k).t.length dtX) (T.c) (.slice ApX (swapT T i k).p.length dpX)
                have b16 : Below w15.heap.size w15 (w15.alloc (.cells #[.slice AfX (swapT T i k).f.length dfX, .slice AtX (swapT T i k).t.length dtX, .int .i64 T.c, .slice ApX (swapT T i k).p.length dpX] 31)) := (Below.refl _ w15).alloc (Nat.le_refl _) (.cells #[.slice AfX (swapT T i k).f.length dfX, .slice AtX (swapT T i k).t.length dtX, .int .i64 T.c, .slice ApX (swapT T i k).p.length dpX] 31)
                obtain ⟨w16, hw16⟩ : ∃ W, W = (w15.alloc (.cells #[.slice AfX (swapT T i k).f.length dfX, .slice AtX (swapT T i k).t.length dtX, .int .i64 T.c, .slice ApX (swapT T i k).p.length dpX] 31)) := ⟨_, rfl⟩
                obtain ⟨X, hX⟩ : ∃ X, X = w15.heap.size := ⟨_, rfl⟩
                rw [← hw16] at zX b16
                rw [← hX] at zX
                have HW16 := Lib.hid (hw16)
                have HX := Lib.hid (hX)
                clear hw16 hX
                go_upto_region 35 with fail
                rw [← HW16.out, ← HX.out]
                obtain ⟨c0, c1, c2, c3⟩ := (zB.keep (((((((((((((b3.next (Nat.le_refl _) b4).next (Nat.le_refl _) b5).next (Nat.le_refl _) b6).next (Nat.le_refl _) b7).next (Nat.le_refl _) b8).next (Nat.le_refl _) b9).next (Nat.le_refl _) b10).next (Nat.le_refl _) b11).next (Nat.le_refl _) b12).next (Nat.le_refl _) b13).next (Nat.le_refl _) b14).next (Nat.le_refl _) b15).next (Nat.le_refl _) b16) zB.lt).cells
                have C := Lib.hid (specSwapPlaces _ _ _ T i k w16 (oT.below ((((((((((((((b2.next (Nat.le_refl _) b3).next (Nat.le_refl _) b4).next (Nat.le_refl _) b5).next (Nat.le_refl _) b6).next (Nat.le_refl _) b7).next (Nat.le_refl _) b8).next (Nat.le_refl _) b9).next (Nat.le_refl _) b10).next (Nat.le_refl _) b11).next (Nat.le_refl _) b12).next (Nat.le_refl _) b13).next (Nat.le_refl _) b14).next (Nat.le_refl _) b15).next (Nat.le_refl _) b16) (Nat.le_refl _)) HT.out (by omega) hkn hik)
                go_wp2_with fail
                refine C.out.mono ?_; rintro e w17 ⟨fY, tY, pY, rfl, oY, b17⟩
                clear C
                clear c0 c1 c2 c3
                obtain ⟨AfY, dfY, hv, _, _⟩ := oY.rf.reads.shape
                subst hv
                obtain ⟨AtY, dtY, hv, _, _⟩ := oY.rt.reads.shape
                subst hv
                obtain ⟨ApY, dpY, hv, _, _⟩ := oY.rp.reads.shape
                subst hv
                have oYr := oY.reads
                clear oY
                have zY := BoxT.new 31 w17 (.slice AfY (swapT T i k).f.length dfY) (.slice AtY (swapT T i k).t.length dtY) (T.c) (.slice ApY (swapT T i k).p.length dpY)
                have b18 : Below w17.heap.size w17 (w17.alloc (.cells #[.slice AfY (swapT T i k).f.length dfY, .slice AtY (swapT T i k).t.length dtY, .int .i64 T.c, .slice ApY (swapT T i k).p.length dpY] 31)) := (Below.refl _ w17).alloc (Nat.le_refl _) (.cells #[.slice AfY (swapT T i k).f.length dfY, .slice AtY (swapT T i k).t.length dtY, .int .i64 T.c, .slice ApY (swapT T i k).p.length dpY] 31)
                obtain ⟨w18, hw18⟩ : ∃ W, W = (w17.alloc (.cells #[.slice AfY (swapT T i k).f.length dfY, .slice AtY (swapT T i k).t.length dtY, .int .i64 T.c, .slice ApY (swapT T i k).p.length dpY] 31)) := ⟨_, rfl⟩
                obtain ⟨Y, hY⟩ : ∃ X, X = w17.heap.size := ⟨_, rfl⟩
                rw [← hw18] at zY b18
                rw [← hY] at zY
                have HW18 := Lib.hid (hw18)
                have HY := Lib.hid (hY)
                clear hw18 hY
                go_upto_region 36 with fail
                rw [← HW18.out, ← HY.out]
                obtain ⟨c0, c1, c2, c3⟩ := (zX.keep (b17.next (Nat.le_refl _) b18) zX.lt).cells
                obtain ⟨d0, d1, d2, d3⟩ := zY.cells
                have C := Lib.hid (implIsRepair _ _ _ _ (swapT T i k) (zeros T.f.length) L w18 (oYr.below b18 (Nat.le_refl _)) HRS.out (hz.below (((((((b11.next (Nat.le_refl _) b12).next (Nat.le_refl _) b13).next (Nat.le_refl _) b14).next (Nat.le_refl _) b15).next (Nat.le_refl _) b16).next (Nat.le_refl _) b17).next (Nat.le_refl _) b18) (Nat.le_refl _)) (zeros_len _) (fun i _ => by rw [gi_zeros]; omega) HF.out.l0 HF.out.l80)
                rw [HKS.out] at C
                go_wp2_with fail
                refine C.out.mono ?_; rintro e w19 ⟨rfl, b19⟩
                clear C
                clear c0 c1 c2 c3
                clear d0 d1 d2 d3
                obtain ⟨c0, c1, c2, c3⟩ := (zX.keep ((b17.next (Nat.le_refl _) b18).next (Nat.le_refl _) b19) zX.lt).cells
                obtain ⟨d0, d1, d2, d3⟩ := (zY.keep b19 zY.lt).cells
                have C := Lib.hid (qInts_same _ _ (swapT T i k).p w19 (oXr.below (((b16.next (Nat.le_refl _) b17).next (Nat.le_refl _) b18).next (Nat.le_refl _) b19) (Nat.le_refl _)).p (oYr.below (b18.next (Nat.le_refl _) b19) (Nat.le_refl _)).p)
                go_wp2_with fail
                refine C.out.mono ?_; rintro e w20 ⟨rfl, b20⟩
                clear C
                clear c0 c1 c2 c3
                clear d0 d1 d2 d3
                go_wp2_with fail
                go_ret
                exact ⟨rfl, (((((((((((((((((((b1.next (Nat.le_refl _) b2).next (Nat.le_refl _) b3).next (Nat.le_refl _) b4).next (Nat.le_refl _) b5).next (Nat.le_refl _) b6).next (Nat.le_refl _) b7).next (Nat.le_refl _) b8).next (Nat.le_refl _) b9).next (Nat.le_refl _) b10).next (Nat.le_refl _) b11).next (Nat.le_refl _) b12).next (Nat.le_refl _) b13).next (Nat.le_refl _) b14).next (Nat.le_refl _) b15).next (Nat.le_refl _) b16).next (Nat.le_refl _) b17).next (Nat.le_refl _) b18).next (Nat.le_refl _) b19).next (Nat.le_refl _) b20)⟩
end Go.Proofs.Ytgcgkpmjahgmnaa
