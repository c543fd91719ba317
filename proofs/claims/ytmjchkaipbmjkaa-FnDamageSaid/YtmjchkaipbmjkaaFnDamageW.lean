/- The walk of the law FnDamage: whatever the bytes, it returns true and writes nothing that was there. -/
import Derived.Test.YtmjchkaipbmjkaaSame
import Derived.Test.YtmjchkaipbmjkaaDamP
import Derived.Test.YtmjchkaipbmjkaaOpen
import Derived.Deep.DeepCutAuto
set_option linter.unusedSimpArgs false
set_option linter.unusedVariables false
namespace Go.Proofs.Ytmjchkaipbmjkaa
open Go.RowKit Go.Sort

theorem sameInts_yes (v1 v2 : Value) (l : List Int) (w : World) (h1 : IntsAt w v1 l) (h2 : IntsAt w v2 l) :
    Calls Try.prog 9 #[v1, v2] w fun e w' => e = .returned (.bool true) ∧ Below w.heap.size w w' := by
  have := sameInts_any v1 v2 l l w h1 h2
  rwa [beq_self_eq_true] at this
theorem sameLists_yes (v1 v2 : Value) (l : List (List Int)) (w : World) (h1 : IntssAt w v1 l) (h2 : IntssAt w v2 l) :
    Calls Try.prog 11 #[v1, v2] w fun e w' => e = .returned (.bool true) ∧ Below w.heap.size w w' := by
  have := sameLists_any v1 v2 l l w h1 h2
  rwa [beq_self_eq_true] at this
theorem IntssAt.take {w : World} {A : Option Addr} {c : Nat} {ls : List (List Int)} (h : IntssAt w (.slice A ls.length c) ls) (k : Nat) (hk : k ≤ ls.length) : IntssAt w (.slice A k c) (ls.take k) := by
  obtain ⟨vs, h1, h2⟩ := h
  have hl : (ls.take k).length = k := by rw [List.length_take]; omega
  refine ⟨vs.take k, ?_, fun i u l hu hl2 => ?_⟩
  · have := Sl.take h1 k hk
    rw [hl]
    rwa [Nat.mul_one] at this
  · rw [List.getElem?_take] at hu hl2
    split at hu
    · rename_i hik
      rw [if_pos hik] at hl2
      exact h2 i u l hu hl2
    · cases hu

set_option maxRecDepth 100000 in
set_option maxHeartbeats 12800000 in
theorem FnDamage_walk (v0 : Value) (code : List Nat) (v1 : Value) (more : List Nat) (w0 : World) (h0 : BytesAt w0 v0 code) (f0 : WfCode code) (h1 : BytesAt w0 v1 more) (f1 : WfCode more) :
    Calls Try.prog 4 #[v0, v1] w0 (LawPost w0) := by
  obtain ⟨A0, c0, rfl, hn0, hc0⟩ := h0.shape
  obtain ⟨A1, c1, rfl, hn1, hc1⟩ := h1.shape
  cases hbig : bigB code more
  case true =>
    go_enter Try.func4, Try.ntmps4
    go_wp2_with fail
    refine (big_any _ _ code more _ h0 h1).mono ?_; rintro e _ ⟨rfl, rfl⟩
    rw [hbig]
    go_wp2_with fail
    go_ret
    exact ⟨rfl, Below.refl _ _⟩
  case false =>
    have hsz : code.length + more.length ≤ 1048576 := by unfold bigB at hbig; have := of_decide_eq_false hbig; omega
    go_enter Try.func4, Try.ntmps4
    go_wp2_with fail
    refine (big_any _ _ code more _ h0 h1).mono ?_; rintro e _ ⟨rfl, rfl⟩
    rw [hbig]
    clear hbig
    have C := Lib.hid (drawFrameBytes_any _ code w0 h0 f0 (by omega))
    go_wp2_with fail
    refine C.out.mono ?_; rintro e w1 ⟨u1, l, x, rfl, o1, b1, hll, hx0, hx1⟩
    clear C
    obtain ⟨B, ok, hB⟩ : ∃ B ok, rFrameB l x = (B, ok) := ⟨_, _, rfl⟩
    obtain ⟨c, ok2, hC⟩ : ∃ c ok, rCheck l x = (c, ok) := ⟨_, _, rfl⟩
    have hok : Hid (ok2 = ok ∧ (ok = true → isFrame l = true ∧ B = frameB l x ∧ c = chk l x)) := by
      unfold rFrameB at hB
      unfold rCheck at hC
      show _ ∧ _
      by_cases hc : (isFrame l && inR x 0 19) = true
      · rw [if_pos hc] at hB hC
        injection hB with e1 e2
        injection hC with e3 e4
        rw [Bool.and_eq_true] at hc
        exact ⟨e4.symm.trans e2, fun _ => ⟨hc.1, e1.symm, e3.symm⟩⟩
      · rw [if_neg hc] at hB hC
        injection hB with e1 e2
        injection hC with e3 e4
        exact ⟨e4.symm.trans e2, fun h => by rw [← e2] at h; cases h⟩
    obtain rfl := hok.out.1
    have HB := Lib.hid hB
    have HC := Lib.hid hC
    clear hB hC
    have C := Lib.hid (implFrameBytes _ l x w1 o1.reads)
    rw [HB.out] at C
    go_wp2_with fail
    refine C.out.mono ?_; rintro e w2 ⟨u2, rfl, o2, b2⟩
    clear C
    have C := Lib.hid (specFrameBytes _ l x w2 (o1.reads.below b2 (Nat.le_refl _)))
    rw [HB.out] at C
    go_wp2_with fail
    refine C.out.mono ?_; rintro e w3 ⟨u3, rfl, o3, b3⟩
    clear C
    have C := Lib.hid (implFrameCheck _ l x w3 (o1.reads.below (b2.next (Nat.le_refl _) b3) (Nat.le_refl _)))
    rw [HC.out] at C
    go_wp2_with fail
    refine C.out.mono ?_; rintro e _ ⟨rfl, rfl⟩
    clear C
    have C := Lib.hid (specFrameCheck _ l x w3 (o1.reads.below (b2.next (Nat.le_refl _) b3) (Nat.le_refl _)))
    rw [HC.out] at C
    go_wp2_with fail
    refine C.out.mono ?_; rintro e _ ⟨rfl, rfl⟩
    clear C
    have C := Lib.hid (sameInts_yes _ _ B w3 (o2.reads.below b3 (Nat.le_refl _)) o3.reads)
    go_wp2_with fail
    refine C.out.mono ?_; rintro e w4 ⟨rfl, b4⟩
    clear C
    go_upto_if 121 with fail
    go_cut [] (fun wx => Below w0.heap.size w0 wx)
    case first =>
      as_aux_lemma =>
        cases ok2
        case false =>
          go_wp2_with fail
          go_meet
          exact (((b1.next (Nat.le_refl _) b2).next (Nat.le_refl _) b3).next (Nat.le_refl _) b4)
        case true =>
          obtain ⟨hfr, hBe, hce⟩ := hok.out.2 rfl
          have hfl := isFrame_len hfr
          obtain ⟨hl1, hl2⟩ := hfl
          have hBl : B.length = l.length + 2 := by rw [hBe, frameB_len]
          have g0 : gi B 0 = (l.length : Int) := by rw [hBe, frameB_at0]
          have g1 : gi B (l.length + 1) = c := by rw [hBe, frameB_chk, hce]
          have hcb : 0 ≤ c ∧ c ≤ 250 := by rw [hce]; exact chk_in (by rintro rfl; simp at hl1)
          obtain ⟨cb0, cb1⟩ := hcb
          obtain ⟨F, hF⟩ : ∃ F, F = frameB l 0 := ⟨_, rfl⟩
          have hF1 : rFrameB l 0 = (F, true) := by unfold rFrameB; rw [hfr, hF]; rfl
          obtain ⟨j, hj⟩ : ∃ j, j = code.length % l.length := ⟨_, rfl⟩
          obtain ⟨tt, ht⟩ : ∃ t, t = more.length % 8 := ⟨_, rfl⟩
          have hjl : j < l.length := by rw [hj]; exact Nat.mod_lt _ (by omega)
          have htl : tt ≤ 7 := by omega
          have hdm := damage hfr hjl htl
          rw [← hF] at hdm
          obtain ⟨hd1, hd2⟩ := hdm
          obtain ⟨G, hG⟩ : ∃ G, G = F.set (j + 1) (flp (gi l j) tt) := ⟨_, rfl⟩
          rw [← hG] at hd1 hd2
          have hd3 : rFlip F (1 + (j : Int)) (tt : Int) = (G, true) := by rw [Int.add_comm]; exact hd1
          have m1 : Int.tmod (code.length : Int) (l.length : Int) = (j : Int) := by rw [Int.tmod_eq_emod_of_nonneg (by omega), hj]; rfl
          have m2 : Int.tmod (more.length : Int) 8 = (tt : Int) := by rw [Int.tmod_eq_emod_of_nonneg (by omega)]; omega
          have m3 : IntKind.i64.wrap (Int.tmod (code.length : Int) (l.length : Int)) = (j : Int) := by rw [m1]; exact IntWalk.i64_in _ (by omega)
          have m4 : IntKind.i64.wrap (Int.tmod (more.length : Int) 8) = (tt : Int) := by rw [m2]; exact IntWalk.i64_in _ (by omega)
          have z0 : (l.length : Int) ≠ 0 := by omega
          have z1 : (l.length : Int) ≠ -1 := by omega
          have e1 : ((B.length : Int) != (l.length : Int) + 2) = false := by simp; omega
          have e2 : (gi B 0 != (l.length : Int)) = false := by rw [g0]; simp
          have e3 : (gi B (l.length + 1) != c) = false := by rw [g1]; simp
          have e4 : decide (c < 0) = false := decide_eq_false (by omega)
          have e5 : decide ((250 : Int) < c) = false := decide_eq_false (by omega)
          have i0 : (0 : Int) < (B.length : Int) := by omega
          have i1 : (l.length : Int) + 1 < (B.length : Int) := by omega
          obtain ⟨bb, c9, hv9, _⟩ := o3.at_own (by omega)
          subst hv9
          obtain ⟨hq0, _⟩ := (OwnInts.below o3 b4 (Nat.le_refl _)).cell_own (k := 0) (by omega)
          obtain ⟨hq1, _⟩ := (OwnInts.below o3 b4 (Nat.le_refl _)).cell_own (k := l.length + 1) (by omega)
          have hFl : F.length ≤ 20 := by rw [hF, frameB_len]; omega
          obtain ⟨AL, cL, hvL, hnL, hcL⟩ := o1.reads.shape
          subst hvL
          have HFR := Lib.hid hfr
          have HF1 := Lib.hid hF1
          have HD3 := Lib.hid hd3
          have HD2 := Lib.hid hd2
          clear hBe hce hF hF1 hj ht hd1 hd2 hd3 hG hBl g0 g1 hok HB HC hfr
          have C := Lib.hid (implIsFrame_any _ l w4 (o1.reads.below ((b2.next (Nat.le_refl _) b3).next (Nat.le_refl _) b4) (Nat.le_refl _)))
          go_wp2_with fail
          refine C.out.mono ?_; rintro e _ ⟨rfl, rfl⟩
          clear C
          rw [HFR.out]
          have C := Lib.hid (implFrameBytes _ l 0 w4 (o1.reads.below ((b2.next (Nat.le_refl _) b3).next (Nat.le_refl _) b4) (Nat.le_refl _)))
          rw [HF1.out] at C
          go_wp2_with fail
          refine C.out.mono ?_; rintro e w5 ⟨u6, rfl, o6, b5⟩
          clear C
          have C := Lib.hid (specFrameBytes _ l 0 w5 (o1.reads.below (((b2.next (Nat.le_refl _) b3).next (Nat.le_refl _) b4).next (Nat.le_refl _) b5) (Nat.le_refl _)))
          rw [HF1.out] at C
          go_wp2_with fail
          refine C.out.mono ?_; rintro e w6 ⟨u7, rfl, o7, b6⟩
          clear C
          have C := Lib.hid (sameInts_yes _ _ F w6 (o6.reads.below b6 (Nat.le_refl _)) o7.reads)
          go_wp2_with fail
          refine C.out.mono ?_; rintro e w7 ⟨rfl, b7⟩
          clear C
          have C := Lib.hid (implFlip _ F (1 + (j : Int)) tt w7 (o6.reads.below (b6.next (Nat.le_refl _) b7) (Nat.le_refl _)))
          rw [HD3.out] at C
          go_wp2_with fail
          refine C.out.mono ?_; rintro e w8 ⟨u8, rfl, o8, b8⟩
          clear C
          have C := Lib.hid (specFlip _ F (1 + (j : Int)) tt w8 (o7.reads.below (b7.next (Nat.le_refl _) b8) (Nat.le_refl _)))
          rw [HD3.out] at C
          go_wp2_with fail
          refine C.out.mono ?_; rintro e w9 ⟨u9, rfl, o9, b9⟩
          clear C
          have C := Lib.hid (implRecover _ G w9 (o8.reads.below b9 (Nat.le_refl _)))
          rw [HD2.out] at C
          go_wp2_with fail
          refine C.out.mono ?_; rintro e w10 ⟨u10, rfl, o10, b10⟩
          clear C
          obtain ⟨AR, cR, hvR, hnR, hcR⟩ := o10.reads.shape
          rw [List.length_nil] at hvR hnR
          subst hvR
          have C := Lib.hid (sameInts_yes _ _ G w10 (o8.reads.below (b9.next (Nat.le_refl _) b10) (Nat.le_refl _)) (o9.reads.below b10 (Nat.le_refl _)))
          go_wp2_with fail
          refine C.out.mono ?_; rintro e w11 ⟨rfl, b11⟩
          clear C
          go_wp2_with fail
          go_meet
          exact ((((((((((b1.next (Nat.le_refl _) b2).next (Nat.le_refl _) b3).next (Nat.le_refl _) b4).next (Nat.le_refl _) b5).next (Nat.le_refl _) b6).next (Nat.le_refl _) b7).next (Nat.le_refl _) b8).next (Nat.le_refl _) b9).next (Nat.le_refl _) b10).next (Nat.le_refl _) b11)
    case rest =>
      as_aux_lemma =>
        clear b1 b2 b3 b4
        obtain ⟨w12, hw12⟩ : ∃ w9 : World, w9 = wc := ⟨_, rfl⟩
        subst hw12
        have Z1 := hcut
        clear hcut
        have C := Lib.hid (drawFlipBit_any _ more w12 (h1.below Z1 (Nat.le_refl _)) f1 (by omega))
        go_wp2_with fail
        refine C.out.mono ?_; rintro e w13 ⟨u1, l, i, k, rfl, o1, b13, hll, hi0, hi1, hk0, hk1⟩
        clear C
        obtain ⟨f, three, hf⟩ : ∃ f b, rFlip l i k = (f, b) := ⟨_, _, rfl⟩
        have hfb : Hid (three = true → rFlip f i k = (l, true)) := fun h => by have h9 := rFlip_back (b := l) (p := i) (q := k) (by rw [hf]; exact h); rw [hf] at h9; exact h9
        have HF := Lib.hid hf
        clear hf
        have C := Lib.hid (implFlip _ l i k w13 o1.reads)
        rw [HF.out] at C
        go_wp2_with fail
        refine C.out.mono ?_; rintro e w14 ⟨u2, rfl, o2, b14⟩
        clear C
        have C := Lib.hid (specFlip _ l i k w14 (o1.reads.below b14 (Nat.le_refl _)))
        rw [HF.out] at C
        go_wp2_with fail
        refine C.out.mono ?_; rintro e w15 ⟨u3, rfl, o3, b15⟩
        clear C
        have C := Lib.hid (sameInts_yes _ _ f w15 (o2.reads.below b15 (Nat.le_refl _)) o3.reads)
        go_wp2_with fail
        refine C.out.mono ?_; rintro e w16 ⟨rfl, b16⟩
        clear C
        go_upto_if 264 with fail
        go_cut [] (fun wx => Below w0.heap.size w0 wx)
        case first =>
          as_aux_lemma =>
            cases three
            case false =>
              go_wp2_with fail
              go_meet
              exact ((((Z1.next (Nat.le_refl _) b13).next (Nat.le_refl _) b14).next (Nat.le_refl _) b15).next (Nat.le_refl _) b16)
            case true =>
              have hback := Lib.hid (hfb.out rfl)
              have C := Lib.hid (implFlip _ f i k w16 (o2.reads.below (b15.next (Nat.le_refl _) b16) (Nat.le_refl _)))
              rw [hback.out] at C
              go_wp2_with fail
              refine C.out.mono ?_; rintro e w17 ⟨u4, rfl, o4, b17⟩
              clear C
              have C := Lib.hid (sameInts_yes _ _ l w17 o4.reads (o1.reads.below (((b14.next (Nat.le_refl _) b15).next (Nat.le_refl _) b16).next (Nat.le_refl _) b17) (Nat.le_refl _)))
              go_wp2_with fail
              refine C.out.mono ?_; rintro e w18 ⟨rfl, b18⟩
              clear C
              go_wp2_with fail
              go_meet
              exact ((((((Z1.next (Nat.le_refl _) b13).next (Nat.le_refl _) b14).next (Nat.le_refl _) b15).next (Nat.le_refl _) b16).next (Nat.le_refl _) b17).next (Nat.le_refl _) b18)
        case rest =>
          as_aux_lemma =>
            obtain ⟨w19, hw19⟩ : ∃ w9 : World, w9 = wc := ⟨_, rfl⟩
            subst hw19
            have Z2 := hcut
            clear hcut
            have C := Lib.hid (drawCommonFrames_any _ more w19 (h1.below Z2 (Nat.le_refl _)) f1 (by omega))
            go_wp2_with fail
            refine C.out.mono ?_; rintro e w20 ⟨u1, u2, a, d, rfl, o1, o2, b20, hal, hdl⟩
            clear C
            obtain ⟨m, five, hm⟩ : ∃ m b, rCommon a d = (m, b) := ⟨_, _, rfl⟩
            have hm2 : rCommon d a = (m, five) := by rw [rCommon_sym]; exact hm
            have hft : Hid (five = true → isBytes a = true ∧ isBytes d = true ∧ m = (comm (recov a).1 (recov d).1 : Int)) := fun h => by have h9 := rCommon_t (a := a) (b := d) (by rw [hm]; exact h); rw [hm] at h9; exact h9
            have HM := Lib.hid hm
            have HM2 := Lib.hid hm2
            clear hm hm2
            have C := Lib.hid (implCommon _ _ a d w20 o1.reads o2.reads)
            rw [HM.out] at C
            go_wp2_with fail
            refine C.out.mono ?_; rintro e w21 ⟨rfl, b21⟩
            clear C
            have C := Lib.hid (specCommon _ _ a d w21 (o1.reads.below b21 (Nat.le_refl _)) (o2.reads.below b21 (Nat.le_refl _)))
            rw [HM.out] at C
            go_wp2_with fail
            refine C.out.mono ?_; rintro e w22 ⟨rfl, b22⟩
            clear C
            have C := Lib.hid (implCommon _ _ d a w22 (o2.reads.below (b21.next (Nat.le_refl _) b22) (Nat.le_refl _)) (o1.reads.below (b21.next (Nat.le_refl _) b22) (Nat.le_refl _)))
            rw [HM2.out] at C
            go_wp2_with fail
            refine C.out.mono ?_; rintro e w23 ⟨rfl, b23⟩
            clear C
            go_upto_if 321 with fail
            go_cut [] (fun wx => Below w0.heap.size w0 wx)
            case first =>
              as_aux_lemma =>
                cases five
                case false =>
                  go_wp2_with fail
                  go_meet
                  exact ((((Z2.next (Nat.le_refl _) b20).next (Nat.le_refl _) b21).next (Nat.le_refl _) b22).next (Nat.le_refl _) b23)
                case true =>
                  obtain ⟨ha, hd, hme⟩ := hft.out rfl
                  obtain ⟨X, nx, hX⟩ : ∃ X n, recov a = (X, n) := ⟨_, _, rfl⟩
                  obtain ⟨Y, ny, hY⟩ : ∃ Y n, recov d = (Y, n) := ⟨_, _, rfl⟩
                  have hrX : rRecover a = (X, (nx : Int), true) := by unfold rRecover; rw [ha, hX]; rfl
                  have hrY : rRecover d = (Y, (ny : Int), true) := by unfold rRecover; rw [hd, hY]; rfl
                  rw [hX, hY] at hme
                  obtain ⟨cm, hcm⟩ : ∃ cm, cm = comm X Y := ⟨_, rfl⟩
                  have hct := comm_take X Y
                  rw [← hcm] at hct
                  obtain ⟨hc1, hc2, hc3⟩ := hct
                  have hme2 : m = (cm : Int) := by rw [hme, hcm]
                  subst hme2
                  have HX := Lib.hid hrX
                  have HY := Lib.hid hrY
                  have HC3 := Lib.hid hc3
                  clear hX hY hrX hrY hcm hme ha hd hc3 hft HM HM2
                  have C := Lib.hid (specRecover _ a w23 (o1.reads.below ((b21.next (Nat.le_refl _) b22).next (Nat.le_refl _) b23) (Nat.le_refl _)))
                  rw [HX.out] at C
                  go_wp2_with fail
                  refine C.out.mono ?_; rintro e w24 ⟨u5, rfl, o5, b24⟩
                  clear C
                  have C := Lib.hid (specRecover _ d w24 (o2.reads.below (((b21.next (Nat.le_refl _) b22).next (Nat.le_refl _) b23).next (Nat.le_refl _) b24) (Nat.le_refl _)))
                  rw [HY.out] at C
                  go_wp2_with fail
                  refine C.out.mono ?_; rintro e w25 ⟨u6, rfl, o6, b25⟩
                  clear C
                  have o5X : OwnIntss w24 w23.heap.size u5 X := o5
                  have o6Y : OwnIntss w25 w24.heap.size u6 Y := o6
                  clear o5 o6
                  obtain ⟨AX, cX, hvX, hnX, hcX⟩ := o5X.reads.shape
                  subst hvX
                  obtain ⟨AY, cY, hvY, hnY, hcY⟩ := o6Y.reads.shape
                  subst hvY
                  have rX := (o5X.reads.below b25 (Nat.le_refl _))
                  have rY := o6Y.reads
                  have tX := rX.take cm hc1
                  have tY := rY.take cm hc2
                  rw [← HC3.out] at tY
                  have p1 : decide ((X.length : Int) < (cm : Int)) = false := decide_eq_false (by omega)
                  have p2 : decide ((Y.length : Int) < (cm : Int)) = false := decide_eq_false (by omega)
                  have p1n : decide (X.length < cm) = false := decide_eq_false (by omega)
                  have p2n : decide (Y.length < cm) = false := decide_eq_false (by omega)
                  have p3 : cm ≤ cX := by omega
                  have p4 : cm ≤ cY := by omega
                  have p5 : (cm : Int) ≤ (cX : Int) := by omega
                  have p6 : (cm : Int) ≤ (cY : Int) := by omega
                  have cS : ∀ dd os, Calls Try.prog 11 #[.slice AX cm cX, .slice AY cm cY] (grow (redrawn w25 dd) os) (fun e w'' => e = .returned (.bool true) ∧ ∃ p : Regrown, w'' = grow (redrawn w25 p.d) p.os) := fun dd os => Calls.regrown_of (sameLists_yes _ _ (X.take cm) _ (tX.below (below_regrown w25 dd os) (Nat.le_refl _)) (tY.below (below_regrown w25 dd os) (Nat.le_refl _)))
                  have hZ := ((((((Z2.next (Nat.le_refl _) b20).next (Nat.le_refl _) b21).next (Nat.le_refl _) b22).next (Nat.le_refl _) b23).next (Nat.le_refl _) b24).next (Nat.le_refl _) b25)
                  go_wp2_with fail
                  (refine wp_region_quiet_below (by kernel_rfl) (by kernel_rfl) ?_; (repeat (go_big_quiet_step (exact cS _ _))); refine wpQuiet_nil ?_; intro _ hw'; obtain ⟨⟨dq, osq⟩, hw''⟩ := hw'; subst hw'')
                  have hZ2 := RG.below hZ hZ.size dq osq
                  go_wp2_with fail
                  go_meet
                  exact hZ2
            case rest =>
              as_aux_lemma =>
                obtain ⟨w26, hw26⟩ : ∃ w9 : World, w9 = wc := ⟨_, rfl⟩
                subst hw26
                have Z3 := hcut
                clear hcut
                have C := Lib.hid (drawSurvivingFrames_any _ more w26 (h1.below Z3 (Nat.le_refl _)) f1 (by omega))
                go_wp2_with fail
                refine C.out.mono ?_; rintro e w27 ⟨u1, ws, cut, rfl, o1, b27, hws, hwl, hc0, hc1⟩
                clear C
                obtain ⟨s, eight, hs⟩ : ∃ m b, rSurvive ws cut = (m, b) := ⟨_, _, rfl⟩
                have HS := Lib.hid hs
                clear hs
                have C := Lib.hid (implSurvive _ ws cut w27 o1.reads (by omega))
                rw [HS.out] at C
                go_wp2_with fail
                refine C.out.mono ?_; rintro e w28 ⟨rfl, b28⟩
                clear C
                have C := Lib.hid (specSurvive _ ws cut w28 (o1.reads.below b28 (Nat.le_refl _)) (by omega))
                rw [HS.out] at C
                go_wp2_with fail
                refine C.out.mono ?_; rintro e w29 ⟨rfl, b29⟩
                clear C
                have C := Lib.hid (drawIsFrame_any _ more w29 (h1.below (((Z3.next (Nat.le_refl _) b27).next (Nat.le_refl _) b28).next (Nat.le_refl _) b29) (Nat.le_refl _)) f1 (by omega))
                go_wp2_with fail
                refine C.out.mono ?_; rintro e w30 ⟨u2, l2, rfl, o2, b30, hl2⟩
                clear C
                have C := Lib.hid (drawRecoverFrames_any _ more w30 (h1.below ((((Z3.next (Nat.le_refl _) b27).next (Nat.le_refl _) b28).next (Nat.le_refl _) b29).next (Nat.le_refl _) b30) (Nat.le_refl _)) f1 (by omega))
                go_wp2_with fail
                refine C.out.mono ?_; rintro e w31 ⟨u3, r, rfl, o3, b31, hr⟩
                clear C
                obtain ⟨p, q, ten, hp⟩ : ∃ p q b, rRecover r = (p, q, b) := ⟨_, _, _, rfl⟩
                have HP := Lib.hid hp
                clear hp
                have C := Lib.hid (implRecover _ r w31 o3.reads)
                rw [HP.out] at C
                go_wp2_with fail
                refine C.out.mono ?_; rintro e w32 ⟨u4, rfl, o4, b32⟩
                clear C
                have C := Lib.hid (specRecover _ r w32 (o3.reads.below b32 (Nat.le_refl _)))
                rw [HP.out] at C
                go_wp2_with fail
                refine C.out.mono ?_; rintro e w33 ⟨u5, rfl, o5, b33⟩
                clear C
                have C := Lib.hid (implIsFrame_any _ l2 w33 (o2.reads.below ((b31.next (Nat.le_refl _) b32).next (Nat.le_refl _) b33) (Nat.le_refl _)))
                go_wp2_with fail
                refine C.out.mono ?_; rintro e _ ⟨rfl, rfl⟩
                clear C
                have C := Lib.hid (specIsFrame_any _ l2 w33 (o2.reads.below ((b31.next (Nat.le_refl _) b32).next (Nat.le_refl _) b33) (Nat.le_refl _)))
                go_wp2_with fail
                refine C.out.mono ?_; rintro e _ ⟨rfl, rfl⟩
                clear C
                have C := Lib.hid (sameLists_yes _ _ p w33 (o4.reads.below b33 (Nat.le_refl _)) o5.reads)
                go_wp2_with fail
                refine C.out.mono ?_; rintro e w34 ⟨rfl, b34⟩
                clear C
                go_wp2_with fail
                go_ret
                exact ⟨rfl, ((((((((Z3.next (Nat.le_refl _) b27).next (Nat.le_refl _) b28).next (Nat.le_refl _) b29).next (Nat.le_refl _) b30).next (Nat.le_refl _) b31).next (Nat.le_refl _) b32).next (Nat.le_refl _) b33).next (Nat.le_refl _) b34)⟩
end Go.Proofs.Ytmjchkaipbmjkaa
