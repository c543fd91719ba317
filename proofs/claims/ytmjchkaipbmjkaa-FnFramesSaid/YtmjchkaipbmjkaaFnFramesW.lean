/- The walk of the law FnFrames: whatever the bytes, it returns true and writes nothing that was there. -/
import Derived.Test.YtmjchkaipbmjkaaSame
import Derived.Test.YtmjchkaipbmjkaaFrP
import Derived.Test.YtmjchkaipbmjkaaFrH
import Derived.Test.YtmjchkaipbmjkaaOpen
import Derived.Deep.DeepCutAuto
set_option linter.unusedSimpArgs false
set_option linter.unusedVariables false
namespace Go.Proofs.Ytmjchkaipbmjkaa
open Go.RowKit Go.Sort

set_option maxRecDepth 100000 in
set_option maxHeartbeats 12800000 in
theorem FnFrames_walk (v0 : Value) (code : List Nat) (v1 : Value) (more : List Nat) (w0 : World) (h0 : BytesAt w0 v0 code) (f0 : WfCode code) (h1 : BytesAt w0 v1 more) (f1 : WfCode more) :
    Calls Try.prog 3 #[v0, v1] w0 (LawPost w0) := by
  obtain ⟨A0, c0, rfl, hn0, hc0⟩ := h0.shape
  obtain ⟨A1, c1, rfl, hn1, hc1⟩ := h1.shape
  cases hbig : bigB code more
  case true =>
    go_enter Try.func3, Try.ntmps3
    go_wp2_with fail
    refine (big_any _ _ code more _ h0 h1).mono ?_; rintro e _ ⟨rfl, rfl⟩
    rw [hbig]
    go_wp2_with fail
    go_ret
    exact ⟨rfl, Below.refl _ _⟩
  case false =>
    have hsz : code.length + more.length ≤ 1048576 := by unfold bigB at hbig; have := of_decide_eq_false hbig; omega
    go_enter Try.func3, Try.ntmps3
    go_wp2_with fail
    refine (big_any _ _ code more _ h0 h1).mono ?_; rintro e _ ⟨rfl, rfl⟩
    rw [hbig]
    clear hbig
    have C := Lib.hid (drawJournalBytes_any _ code w0 h0 f0 (by omega))
    go_wp2_with fail
    refine C.out.mono ?_; rintro e w1 ⟨u1, ls, rfl, o1, b1, hls, hll⟩
    clear C
    obtain ⟨B, ok, hB⟩ : ∃ B ok, rJournal ls = (B, ok) := ⟨_, _, rfl⟩
    have HB := Lib.hid hB
    clear hB
    have C := Lib.hid (implJournal _ ls w1 o1.reads (by omega))
    rw [HB.out] at C
    go_wp2_with fail
    refine C.out.mono ?_; rintro e w2 ⟨u2, rfl, o2, b2⟩
    clear C
    have C := Lib.hid (specJournal _ ls w2 (o1.reads.below b2 (Nat.le_refl _)) (by omega))
    rw [HB.out] at C
    go_wp2_with fail
    refine C.out.mono ?_; rintro e w3 ⟨u3, rfl, o3, b3⟩
    clear C
    have C := Lib.hid (sameInts_yes _ _ B w3 (o2.reads.below b3 (Nat.le_refl _)) o3.reads)
    go_wp2_with fail
    refine C.out.mono ?_; rintro e w4 ⟨rfl, b4⟩
    clear C
    go_upto_if 81 with fail
    go_cut [] (fun wx => Below w0.heap.size w0 wx)
    case first =>
      as_aux_lemma =>
        cases ok
        case false =>
          go_wp2_with fail
          go_meet
          exact (((b1.next (Nat.le_refl _) b2).next (Nat.le_refl _) b3).next (Nat.le_refl _) b4)
        case true =>
          obtain ⟨hBe, hall, hl20, hb240, hrec⟩ := journal_whole HB.out
          have HR := Lib.hid hrec
          have HAll := Lib.hid hall
          clear hBe hrec hall
          have C := Lib.hid (implRecover _ B w4 (o2.reads.below (b3.next (Nat.le_refl _) b4) (Nat.le_refl _)))
          rw [HR.out] at C
          go_wp2_with fail
          refine C.out.mono ?_; rintro e w5 ⟨u4, rfl, o4, b5⟩
          clear C
          obtain ⟨AB, cB, hvB, hnB, hcB⟩ := o3.reads.shape
          subst hvB
          have C := Lib.hid (sameLists_yes _ _ ls w5 o4.reads (o1.reads.below (((b2.next (Nat.le_refl _) b3).next (Nat.le_refl _) b4).next (Nat.le_refl _) b5) (Nat.le_refl _)))
          go_wp2_with fail
          refine C.out.mono ?_; rintro e w6 ⟨rfl, b6⟩
          clear C
          obtain ⟨AL, cL, hvL, hnL, hcL⟩ := o1.reads.shape
          subst hvL
          have hLs := Lib.hid ((o1.reads.below ((((b2.next (Nat.le_refl _) b3).next (Nat.le_refl _) b4).next (Nat.le_refl _) b5).next (Nat.le_refl _) b6) (Nat.le_refl _)) : IntssAt _ _ ls)
          have hZ := (((((b1.next (Nat.le_refl _) b2).next (Nat.le_refl _) b3).next (Nat.le_refl _) b4).next (Nat.le_refl _) b5).next (Nat.le_refl _) b6)
          go_wp2_with fail
          go_loopw [13, 104] (fun sa si wr => ∃ k : Nat, k ≤ ls.length ∧ si = .int .i64 k ∧ sa = .int .i64 ((flatB 0 (ls.take k)).length : Nat) ∧ Below w6.heap.size w6 wr) (fun _ si _ => ls.length - (intOf si).toNat)
          case atStart => exact ⟨0, Nat.zero_le _, rfl, rfl, Below.refl _ _⟩
          case round =>
            obtain ⟨k, hk, rfl, rfl, hb⟩ := hrel
            by_cases hlt : k < ls.length
            · obtain ⟨bb, oo, A9, c9, rfl, hc, hr⟩ := IntssAt.at_ (hLs.out.below hb (Nat.le_refl _)) k hlt
              obtain ⟨f, hf⟩ : ∃ f, f = gl ls k := ⟨_, rfl⟩
              have hfr : isFrame f = true := by rw [hf]; have h9 := HAll.out; rw [List.all_eq_true] at h9; exact h9 _ (gl_mem hlt)
              obtain ⟨FB, hFB⟩ : ∃ FB, FB = frameB f (k : Nat) := ⟨_, rfl⟩
              have hF1 : rFrameB f (k : Nat) = (FB, true) := by unfold rFrameB; rw [hfr, inR_t.2 (by omega), hFB]; rfl
              obtain ⟨s1, s2⟩ := survive_at HB.out k hlt
              obtain ⟨p, hp⟩ : ∃ p : Nat, p = (flatB 0 (ls.take k)).length := ⟨_, rfl⟩
              have hq : (flatB 0 (ls.take (k + 1))).length = p + FB.length := by rw [take_succ_gl ls k hlt, flatB_snoc, Nat.zero_add, List.length_append, ← hp, hFB, hf, List.length_take, Nat.min_eq_left hk]
              have hp240 : p + FB.length ≤ 240 := by rw [← hq]; exact flat_take_le HB.out (by omega)
              have hFp : 1 ≤ FB.length := by rw [hFB, frameB_len]; omega
              rw [hq] at s1 s2
              have e1 : ((p + FB.length : Nat) : Int) = (p : Int) + (FB.length : Int) := by omega
              rw [e1] at s1 s2
              rw [← hf] at hr hc
              rw [← hp]
              have HF1 := Lib.hid hF1
              have HS1 := Lib.hid s1
              have HS2 := Lib.hid s2
              have HQ := Lib.hid hq
              have hw1 : IntKind.i64.wrap ((p : Int) + (FB.length : Int)) = (p : Int) + (FB.length : Int) := IntWalk.i64_in _ (by omega)
              have hw2 : IntKind.i64.wrap ((p : Int) + (FB.length : Int) - 1) = (p : Int) + (FB.length : Int) - 1 := IntWalk.i64_in _ (by omega)
              have e3 : ((((k + 1 : Nat) : Int)) != (k : Int) + 1) = false := by simp
              have hrl := hLs.out.below hb (Nat.le_refl _)
              clear hf hfr hFB hF1 s1 s2 hp hq e1
              have C := Lib.hid (implFrameBytes _ f (k : Nat) wr hr)
              rw [HF1.out] at C
              go_wp2_with fail
              refine C.out.mono ?_; rintro e x1 ⟨y1, rfl, p1, d1⟩
              clear C
              have C := Lib.hid (specFrameBytes _ f (k : Nat) x1 (hr.below d1 (Nat.le_refl _)))
              rw [HF1.out] at C
              go_wp2_with fail
              refine C.out.mono ?_; rintro e x2 ⟨y2, rfl, p2, d2⟩
              clear C
              obtain ⟨AF, cF, hvF, hnF, hcF⟩ := (show OwnInts x2 x1.heap.size y2 FB from p2).reads.shape
              subst hvF
              have C := Lib.hid (sameInts_yes _ _ FB x2 (p1.reads.below d2 (Nat.le_refl _)) p2.reads)
              go_wp2_with fail
              refine C.out.mono ?_; rintro e x3 ⟨rfl, d3⟩
              clear C
              have C := Lib.hid (implSurvive _ ls ((p : Int) + (FB.length : Int)) x3 (hrl.below ((d1.next (Nat.le_refl _) d2).next (Nat.le_refl _) d3) (Nat.le_refl _)) (by omega))
              rw [HS1.out] at C
              go_wp2_with fail
              refine C.out.mono ?_; rintro e x4 ⟨rfl, d4⟩
              clear C
              have C := Lib.hid (implSurvive _ ls ((p : Int) + (FB.length : Int) - 1) x4 (hrl.below (((d1.next (Nat.le_refl _) d2).next (Nat.le_refl _) d3).next (Nat.le_refl _) d4) (Nat.le_refl _)) (by omega))
              rw [HS2.out] at C
              go_wp2_with fail
              refine C.out.mono ?_; rintro e x5 ⟨rfl, d5⟩
              clear C
              go_wp2_with fail
              go_roundw
              case rel => exact ⟨k + 1, by omega, by go_num, by rw [HQ.out]; go_num, hb.trans (((((d1.next (Nat.le_refl _) d2).next (Nat.le_refl _) d3).next (Nat.le_refl _) d4).next (Nat.le_refl _) d5).mono hb.size)⟩
              case measure => simp [intOf]; omega
            · obtain rfl : k = ls.length := by omega
              go_wp2_with fail
              go_meet
              exact hZ.next (Nat.le_refl _) hb
    case rest =>
      as_aux_lemma =>
        obtain ⟨w7, hw7⟩ : ∃ w9 : World, w9 = wc := ⟨_, rfl⟩
        subst hw7
        have Z1 := hcut
        clear hcut
        have C := Lib.hid (drawAppendFrame_any _ more w7 (h1.below Z1 (Nat.le_refl _)) f1 (by omega))
        go_wp2_with fail
        refine C.out.mono ?_; rintro e w8 ⟨u1, u2, J, f, rfl, o1, o2, b8, hjl, hfl⟩
        clear C
        obtain ⟨a, one, ha⟩ : ∃ a b, rAppend J f = (a, b) := ⟨_, _, rfl⟩
        obtain ⟨R, n, three, hR⟩ : ∃ x y z, rRecover J = (x, y, z) := ⟨_, _, _, rfl⟩
        have h13 : Hid (one = true → three = true ∧ R = (recov J).1 ∧ n = ((recov J).2 : Int)) := fun h => by
          have h9 := append_whole (b := J) (l := f) (a := a) (by rw [ha, h])
          unfold rRecover at hR
          rw [h9.1] at hR
          injection hR with e1 e2
          injection e2 with e2 e3
          exact ⟨e3.symm, e1.symm, e2.symm⟩
        have HA := Lib.hid ha
        have HR := Lib.hid hR
        clear ha hR
        have C := Lib.hid (implAppend _ _ J f w8 o1.reads o2.reads)
        rw [HA.out] at C
        go_wp2_with fail
        refine C.out.mono ?_; rintro e w9 ⟨u3, rfl, o3, b9⟩
        clear C
        have C := Lib.hid (specAppend _ _ J f w9 (o1.reads.below b9 (Nat.le_refl _)) (o2.reads.below b9 (Nat.le_refl _)))
        rw [HA.out] at C
        go_wp2_with fail
        refine C.out.mono ?_; rintro e w10 ⟨u4, rfl, o4, b10⟩
        clear C
        have C := Lib.hid (implRecover _ J w10 (o1.reads.below (b9.next (Nat.le_refl _) b10) (Nat.le_refl _)))
        rw [HR.out] at C
        go_wp2_with fail
        refine C.out.mono ?_; rintro e w11 ⟨u5, rfl, o5, b11⟩
        clear C
        have C := Lib.hid (specRecover _ J w11 (o1.reads.below ((b9.next (Nat.le_refl _) b10).next (Nat.le_refl _) b11) (Nat.le_refl _)))
        rw [HR.out] at C
        go_wp2_with fail
        refine C.out.mono ?_; rintro e w12 ⟨u6, rfl, o6, b12⟩
        clear C
        go_upto_region 31 with fail
        go_cut [228] (fun s wx => s = .bool false ∧ Below w12.heap.size w12 wx)
        case first =>
          as_aux_lemma =>
            cases one
            case false =>
              have C := Lib.hid (sameInts_yes _ _ a w12 (o3.reads.below ((b10.next (Nat.le_refl _) b11).next (Nat.le_refl _) b12) (Nat.le_refl _)) (o4.reads.below (b11.next (Nat.le_refl _) b12) (Nat.le_refl _)))
              go_wp2_with fail
              refine C.out.mono ?_; rintro e w13 ⟨rfl, b13⟩
              clear C
              have C := Lib.hid (sameLists_yes _ _ R w13 (o5.reads.below (b12.next (Nat.le_refl _) b13) (Nat.le_refl _)) (o6.reads.below b13 (Nat.le_refl _)))
              go_wp2_with fail
              refine C.out.mono ?_; rintro e w14 ⟨rfl, b14⟩
              clear C
              go_wp2_with fail
              go_meet
              exact ⟨rfl, (b13.next (Nat.le_refl _) b14)⟩
            case true =>
              obtain rfl := (h13.out rfl).1
              have C := Lib.hid (sameInts_yes _ _ a w12 (o3.reads.below ((b10.next (Nat.le_refl _) b11).next (Nat.le_refl _) b12) (Nat.le_refl _)) (o4.reads.below (b11.next (Nat.le_refl _) b12) (Nat.le_refl _)))
              go_wp2_with fail
              refine C.out.mono ?_; rintro e w13 ⟨rfl, b13⟩
              clear C
              have C := Lib.hid (sameLists_yes _ _ R w13 (o5.reads.below (b12.next (Nat.le_refl _) b13) (Nat.le_refl _)) (o6.reads.below b13 (Nat.le_refl _)))
              go_wp2_with fail
              refine C.out.mono ?_; rintro e w14 ⟨rfl, b14⟩
              clear C
              go_wp2_with fail
              go_meet
              exact ⟨rfl, (b13.next (Nat.le_refl _) b14)⟩
        case rest =>
          as_aux_lemma =>
            obtain ⟨w13, hw13⟩ : ∃ w9 : World, w9 = wc := ⟨_, rfl⟩
            subst hw13
            obtain ⟨rfl, b13⟩ := hcut
            go_upto_if 229 with fail
            go_cut [] (fun wx => Below w0.heap.size w0 wx)
            case first =>
              as_aux_lemma =>
                cases one
                case false =>
                  go_wp2_with fail
                  go_meet
                  exact ((((((Z1.next (Nat.le_refl _) b8).next (Nat.le_refl _) b9).next (Nat.le_refl _) b10).next (Nat.le_refl _) b11).next (Nat.le_refl _) b12).next (Nat.le_refl _) b13)
                case true =>
                  obtain ⟨rfl, hRe, hne⟩ := h13.out rfl
                  obtain ⟨w1_, w2_, w3_, w4_, w5_⟩ := append_whole HA.out
                  obtain ⟨Kn, hKn⟩ : ∃ Kn, Kn = R ++ [f] := ⟨_, rfl⟩
                  have hra : rRecover a = (Kn, (a.length : Int), true) := by rw [w2_, hKn, hRe]
                  have hKl : Kn.length = R.length + 1 := by rw [hKn]; simp
                  have hKt : Kn.take R.length = R := by rw [hKn, List.take_append_of_le_length (Nat.le_refl _), List.take_length]
                  have hKg : gl Kn R.length = f := by rw [hKn]; unfold gl; rw [List.getD_eq_getElem?_getD, List.getElem?_append_right (Nat.le_refl _), Nat.sub_self]; rfl
                  obtain ⟨nn, hnn⟩ : ∃ nn : Nat, n = (nn : Int) := ⟨_, hne⟩
                  have hnn2 : nn = (recov J).2 := by omega
                  have hat : a.take nn = J.take nn := by rw [hnn2]; exact w3_
                  have hna : nn ≤ a.length := by omega
                  have hnj : nn ≤ J.length := by omega
                  subst hnn
                  have HRA := Lib.hid hra
                  have HKt := Lib.hid hKt
                  have HKg := Lib.hid hKg
                  have HAt := Lib.hid hat
                  have HKl := Lib.hid hKl
                  have hRl : R.length ≤ 20 := by rw [hRe]; exact (recov_bd J).1
                  have e1 : ((Kn.length : Int) != (R.length : Int) + 1) = false := by rw [hKl]; simp
                  have e2 : (R.length : Int) < (Kn.length : Int) := by omega
                  have e3 : R.length < Kn.length := by omega
                  have e4 : IntKind.i64.wrap ((R.length : Int) + 1) = (R.length : Int) + 1 := IntWalk.i64_in _ (by omega)
                  clear w1_ w2_ w3_ w4_ w5_ hKn hra hKl hKt hKg hat hRe hne hnn2
                  have C := Lib.hid (implRecover _ a w13 (o3.reads.below (((b10.next (Nat.le_refl _) b11).next (Nat.le_refl _) b12).next (Nat.le_refl _) b13) (Nat.le_refl _)))
                  rw [HRA.out] at C
                  go_wp2_with fail
                  refine C.out.mono ?_; rintro e w14 ⟨u7, rfl, o7, b14⟩
                  clear C
                  have C := Lib.hid (specRecover _ a w14 (o4.reads.below (((b11.next (Nat.le_refl _) b12).next (Nat.le_refl _) b13).next (Nat.le_refl _) b14) (Nat.le_refl _)))
                  rw [HRA.out] at C
                  go_wp2_with fail
                  refine C.out.mono ?_; rintro e w15 ⟨u8, rfl, o8, b15⟩
                  clear C
                  have o8K : OwnIntss w15 w14.heap.size u8 Kn := o8
                  have o6R : OwnIntss w12 w11.heap.size u6 R := o6
                  have o4a : OwnInts w10 w9.heap.size u4 a := o4
                  have rK1 := (o7.reads.below b15 (Nat.le_refl _))
                  have rK := o8K.reads
                  have rR := (o6R.reads.below ((b13.next (Nat.le_refl _) b14).next (Nat.le_refl _) b15) (Nat.le_refl _))
                  have ra := (o4a.reads.below ((((b11.next (Nat.le_refl _) b12).next (Nat.le_refl _) b13).next (Nat.le_refl _) b14).next (Nat.le_refl _) b15) (Nat.le_refl _))
                  have rJ := (o1.reads.below ((((((b9.next (Nat.le_refl _) b10).next (Nat.le_refl _) b11).next (Nat.le_refl _) b12).next (Nat.le_refl _) b13).next (Nat.le_refl _) b14).next (Nat.le_refl _) b15) (Nat.le_refl _))
                  have rf := (o2.reads.below ((((((b9.next (Nat.le_refl _) b10).next (Nat.le_refl _) b11).next (Nat.le_refl _) b12).next (Nat.le_refl _) b13).next (Nat.le_refl _) b14).next (Nat.le_refl _) b15) (Nat.le_refl _))
                  obtain ⟨AK, cK, hvK, hnK, hcK⟩ := o8K.reads.shape
                  subst hvK
                  obtain ⟨AR, cR, hvR, hnR, hcR⟩ := o6R.reads.shape
                  subst hvR
                  obtain ⟨Aa, ca, hva, hna2, hca⟩ := o4a.reads.shape
                  subst hva
                  obtain ⟨AJ, cJ, hvJ, hnJ, hcJ⟩ := o1.reads.shape
                  subst hvJ
                  have tK := rK.take R.length (by omega)
                  rw [HKt.out] at tK
                  obtain ⟨bk, ok9, Ax, cx, hAK, hck, hrk⟩ := IntssAt.at_ rK R.length e3
                  subst hAK
                  rw [HKg.out] at hrk hck
                  have ta := ra.take nn hna
                  have tJ := rJ.take nn hnj
                  rw [← HAt.out] at tJ
                  have k0 := cell_regrown hck
                  have q1 : R.length ≤ cK := by omega
                  have q2 : (R.length : Int) ≤ (cK : Int) := by omega
                  have q3 : nn ≤ ca := by omega
                  have q4 : (nn : Int) ≤ (ca : Int) := by omega
                  have q5 : nn ≤ cJ := by omega
                  have q6 : (nn : Int) ≤ (cJ : Int) := by omega
                  have c1_ : ∀ dd os, Calls Try.prog 11 #[u7, .slice (some ⟨bk, ok9, none⟩) Kn.length cK] (grow (redrawn w15 dd) os) (fun e w'' => e = .returned (.bool true) ∧ ∃ p : Regrown, w'' = grow (redrawn w15 p.d) p.os) := fun dd os => Calls.regrown_of (sameLists_yes _ _ Kn _ (rK1.below (below_regrown w15 dd os) (Nat.le_refl _)) (rK.below (below_regrown w15 dd os) (Nat.le_refl _)))
                  have c2_ : ∀ dd os, Calls Try.prog 11 #[.slice (some ⟨bk, ok9, none⟩) R.length cK, .slice AR R.length cR] (grow (redrawn w15 dd) os) (fun e w'' => e = .returned (.bool true) ∧ ∃ p : Regrown, w'' = grow (redrawn w15 p.d) p.os) := fun dd os => Calls.regrown_of (sameLists_yes _ _ R _ (tK.below (below_regrown w15 dd os) (Nat.le_refl _)) (rR.below (below_regrown w15 dd os) (Nat.le_refl _)))
                  have c3_ : ∀ dd os, Calls Try.prog 9 #[.slice Ax f.length cx, u2] (grow (redrawn w15 dd) os) (fun e w'' => e = .returned (.bool true) ∧ ∃ p : Regrown, w'' = grow (redrawn w15 p.d) p.os) := fun dd os => Calls.regrown_of (sameInts_yes _ _ f _ (hrk.below (below_regrown w15 dd os) (Nat.le_refl _)) (rf.below (below_regrown w15 dd os) (Nat.le_refl _)))
                  have c4_ : ∀ dd os, Calls Try.prog 9 #[.slice Aa nn ca, .slice AJ nn cJ] (grow (redrawn w15 dd) os) (fun e w'' => e = .returned (.bool true) ∧ ∃ p : Regrown, w'' = grow (redrawn w15 p.d) p.os) := fun dd os => Calls.regrown_of (sameInts_yes _ _ (a.take nn) _ (ta.below (below_regrown w15 dd os) (Nat.le_refl _)) (tJ.below (below_regrown w15 dd os) (Nat.le_refl _)))
                  have hZ := ((((((((Z1.next (Nat.le_refl _) b8).next (Nat.le_refl _) b9).next (Nat.le_refl _) b10).next (Nat.le_refl _) b11).next (Nat.le_refl _) b12).next (Nat.le_refl _) b13).next (Nat.le_refl _) b14).next (Nat.le_refl _) b15)
                  go_wp2_with fail
                  (refine wp_region_quiet_below (by kernel_rfl) (by kernel_rfl) ?_; (repeat (go_big_quiet_step (first | with_reducible exact c1_ _ _ | with_reducible exact c2_ _ _ | with_reducible exact c3_ _ _ | with_reducible exact c4_ _ _))); refine wpQuiet_nil ?_; intro _ hw'; obtain ⟨⟨dq, osq⟩, hw''⟩ := hw'; subst hw'')
                  have hZ2 := RG.below hZ hZ.size dq osq
                  go_wp2_with fail
                  go_meet
                  exact hZ2
            case rest =>
              as_aux_lemma =>
                obtain ⟨w16, hw16⟩ : ∃ w9 : World, w9 = wc := ⟨_, rfl⟩
                subst hw16
                have Z2 := hcut
                clear hcut
                have C := Lib.hid (drawCutBytes_any _ more w16 (h1.below Z2 (Nat.le_refl _)) f1 (by omega))
                go_wp2_with fail
                refine C.out.mono ?_; rintro e w17 ⟨u1, X, y, rfl, o1, b17, hXl, hy0, hy1⟩
                clear C
                obtain ⟨c, five, hc⟩ : ∃ a b, rCut X y = (a, b) := ⟨_, _, rfl⟩
                have h5 : Hid (five = true → isBytes X = true ∧ isBytes c = true ∧ c = X.take y.toNat) := fun h => by
                  unfold rCut at hc
                  split at hc
                  · rename_i h9
                    rw [Bool.and_eq_true] at h9
                    injection hc with e1 _
                    exact ⟨h9.1, by rw [← e1]; exact isBytes_take h9.1 _, e1.symm⟩
                  · injection hc with _ e2; rw [← e2] at h; cases h
                have HC := Lib.hid hc
                clear hc
                have C := Lib.hid (implCut _ X y w17 o1.reads)
                rw [HC.out] at C
                go_wp2_with fail
                refine C.out.mono ?_; rintro e w18 ⟨u2, rfl, o2, b18⟩
                clear C
                have C := Lib.hid (specCut _ X y w18 (o1.reads.below b18 (Nat.le_refl _)))
                rw [HC.out] at C
                go_wp2_with fail
                refine C.out.mono ?_; rintro e w19 ⟨u3, rfl, o3, b19⟩
                clear C
                have C := Lib.hid (sameInts_yes _ _ c w19 (o2.reads.below b19 (Nat.le_refl _)) o3.reads)
                go_wp2_with fail
                refine C.out.mono ?_; rintro e w20 ⟨rfl, b20⟩
                clear C
                go_upto_if 328 with fail
                go_cut [] (fun wx => Below w0.heap.size w0 wx)
                case first =>
                  as_aux_lemma =>
                    cases five
                    case false =>
                      go_wp2_with fail
                      go_meet
                      exact ((((Z2.next (Nat.le_refl _) b17).next (Nat.le_refl _) b18).next (Nat.le_refl _) b19).next (Nat.le_refl _) b20)
                    case true =>
                      obtain ⟨hX, hcb, hce⟩ := h5.out rfl
                      have htk := recov_take X y.toNat
                      rw [← hce] at htk
                      obtain ⟨S, ns, hS⟩ : ∃ a b, recov c = (a, b) := ⟨_, _, rfl⟩
                      obtain ⟨Wh, nw, hW⟩ : ∃ a b, recov X = (a, b) := ⟨_, _, rfl⟩
                      rw [hS, hW] at htk
                      obtain ⟨hle, htake⟩ := htk
                      have hle2 : S.length ≤ Wh.length := hle
                      have htake2 : Wh.take S.length = S := htake
                      have hrS : rRecover c = (S, (ns : Int), true) := by unfold rRecover; rw [hcb, hS]; rfl
                      have hrW : rRecover X = (Wh, (nw : Int), true) := by unfold rRecover; rw [hX, hW]; rfl
                      have HS := Lib.hid hrS
                      have HW := Lib.hid hrW
                      have HT := Lib.hid htake2
                      clear hX hcb hce hS hW hle htake htake2 hrS hrW h5 HC
                      have C := Lib.hid (implRecover _ c w20 (o2.reads.below (b19.next (Nat.le_refl _) b20) (Nat.le_refl _)))
                      rw [HS.out] at C
                      go_wp2_with fail
                      refine C.out.mono ?_; rintro e w21 ⟨u4, rfl, o4, b21⟩
                      clear C
                      have C := Lib.hid (specRecover _ c w21 (o3.reads.below (b20.next (Nat.le_refl _) b21) (Nat.le_refl _)))
                      rw [HS.out] at C
                      go_wp2_with fail
                      refine C.out.mono ?_; rintro e w22 ⟨u5, rfl, o5, b22⟩
                      clear C
                      have o5S : OwnIntss w22 w21.heap.size u5 S := o5
                      have C := Lib.hid (specRecover _ X w22 (o1.reads.below ((((b18.next (Nat.le_refl _) b19).next (Nat.le_refl _) b20).next (Nat.le_refl _) b21).next (Nat.le_refl _) b22) (Nat.le_refl _)))
                      rw [HW.out] at C
                      go_wp2_with fail
                      refine C.out.mono ?_; rintro e w23 ⟨u6, rfl, o6, b23⟩
                      clear C
                      have o6W : OwnIntss w23 w22.heap.size u6 Wh := o6
                      obtain ⟨AS, cS, hvS, hnS, hcS⟩ := o5S.reads.shape
                      subst hvS
                      obtain ⟨AW, cW, hvW, hnW, hcW⟩ := o6W.reads.shape
                      subst hvW
                      have e1 : decide ((Wh.length : Int) < (S.length : Int)) = false := decide_eq_false (by omega)
                      have e1n : decide (Wh.length < S.length) = false := decide_eq_false (by omega)
                      have q1 : S.length ≤ cW := by omega
                      have q2 : (S.length : Int) ≤ (cW : Int) := by omega
                      have C := Lib.hid (sameLists_yes _ _ S w23 (o4.reads.below (b22.next (Nat.le_refl _) b23) (Nat.le_refl _)) (o5S.reads.below b23 (Nat.le_refl _)))
                      go_wp2_with fail
                      refine C.out.mono ?_; rintro e w24 ⟨rfl, b24⟩
                      clear C
                      have tW := ((o6W.reads.below b24 (Nat.le_refl _))).take S.length hle2
                      rw [HT.out] at tW
                      have C := Lib.hid (sameLists_yes _ _ S w24 tW (o5S.reads.below (b23.next (Nat.le_refl _) b24) (Nat.le_refl _)))
                      go_wp2_with fail
                      refine C.out.mono ?_; rintro e w25 ⟨rfl, b25⟩
                      clear C
                      go_wp2_with fail
                      go_meet
                      exact (((((((((Z2.next (Nat.le_refl _) b17).next (Nat.le_refl _) b18).next (Nat.le_refl _) b19).next (Nat.le_refl _) b20).next (Nat.le_refl _) b21).next (Nat.le_refl _) b22).next (Nat.le_refl _) b23).next (Nat.le_refl _) b24).next (Nat.le_refl _) b25)
                case rest =>
                  as_aux_lemma =>
                    obtain ⟨w26, hw26⟩ : ∃ w9 : World, w9 = wc := ⟨_, rfl⟩
                    subst hw26
                    have Z3 := hcut
                    clear hcut
                    go_wp2_with fail
                    go_ret
                    exact ⟨rfl, Z3⟩
end Go.Proofs.Ytmjchkaipbmjkaa
