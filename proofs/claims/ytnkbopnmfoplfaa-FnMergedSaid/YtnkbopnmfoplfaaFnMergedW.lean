/- The walk of the law FnMerged: whatever the bytes, it returns true and writes nothing that was there. -/
import Derived.Test.YtnkbopnmfoplfaaMgP
import Derived.Test.YtnkbopnmfoplfaaMQ
import Derived.Test.YtnkbopnmfoplfaaDrawML
import Derived.Test.YtnkbopnmfoplfaaOpen
import Derived.Deep.DeepCutAuto
set_option linter.unusedSimpArgs false
set_option linter.unusedVariables false
namespace Go.Proofs.Ytnkbopnmfoplfaa
open Go.RowKit Go.Sort

/-- Two spots that differ: the comparison of their parts, as the walk writes it, decided. -/
theorem spt_ne_if {a b : Spt} (h : a ≠ b) : ∀ u v : Result Next, (if a.x = b.x then if a.y = b.y then u else v else v) = v := by
  intro u v
  by_cases h1 : a.x = b.x
  · rw [if_pos h1]
    by_cases h2 : a.y = b.y
    · exact absurd (by cases a; cases b; simp_all) h
    · rw [if_neg h2]
  · rw [if_neg h1]
theorem spt_eq4 {a b : Spt} (h : a = b) : (a.x == b.x) = true ∧ (a.y == b.y) = true ∧ (a.x != b.x) = false ∧ (a.y != b.y) = false := by
  subst h
  simp
set_option maxRecDepth 100000 in
set_option maxHeartbeats 12800000 in
theorem FnMerged_walk (v0 : Value) (code : List Nat) (v1 : Value) (more : List Nat) (w0 : World) (h0 : BytesAt w0 v0 code) (f0 : WfCode code) (h1 : BytesAt w0 v1 more) (f1 : WfCode more) :
    Calls Try.prog 3 #[v0, v1] w0 (LawPost w0) := by
  obtain ⟨A0, c0, rfl, hn0, hc0⟩ := h0.shape
  obtain ⟨A1, c1, rfl, hn1, hc1⟩ := h1.shape
  by_cases hbig : (1048576 : Int) < wrap64 ((code.length : Int) + (more.length : Int))
  · go_enter Try.func3, Try.ntmps3
    go_wp2_with fail
    go_ret
    exact ⟨rfl, Below.refl _ _⟩
  · have hbig2 : wrap64 ((code.length : Int) + (more.length : Int)) ≤ (1048576 : Int) := by omega
    clear hbig
    go_enter Try.func3, Try.ntmps3
    go_wp2_with fail
    clear hbig2
    have C := Lib.hid (drawMergedChart_any _ code w0 h0 f0)
    go_wp2_with fail
    refine C.out.mono ?_; rintro e w1 ⟨u1, va, vb, l, a, b, rfl, o1, oa, ob, b1, hl13, ha31, hb31⟩
    clear C
    cases hk : okBoth l a b
    case false =>
      as_aux_lemma =>
        obtain ⟨e1, e2, e3⟩ := no_all hk
        have E1 := Lib.hid e1
        have E2 := Lib.hid e2
        have E3 := Lib.hid e3
        clear e1 e2 e3 hk
        have C := Lib.hid (implMerged _ _ _ l a b w1 o1.reads oa.reads ob.reads)
        rw [E1.out] at C
        go_wp2_with fail
        refine C.out.mono ?_; rintro e w2 ⟨u2, v2, rfl, o2, p2, _, b2⟩
        clear C
        have C := Lib.hid (specMerged _ _ _ l a b w2 (o1.reads.below b2 (Nat.le_refl _)) (oa.reads.below b2 (Nat.le_refl _)) (ob.reads.below b2 (Nat.le_refl _)))
        rw [E1.out] at C
        go_wp2_with fail
        refine C.out.mono ?_; rintro e w3 ⟨u3, v3, rfl, o3, p3, _, b3⟩
        clear C
        have C := Lib.hid (implConfl _ _ _ l a b w3 (o1.reads.below (b2.next (Nat.le_refl _) b3) (Nat.le_refl _)) (oa.reads.below (b2.next (Nat.le_refl _) b3) (Nat.le_refl _)) (ob.reads.below (b2.next (Nat.le_refl _) b3) (Nat.le_refl _)))
        rw [E2.out] at C
        go_wp2_with fail
        refine C.out.mono ?_; rintro e w4 ⟨u4, rfl, o4, b4⟩
        clear C
        have C := Lib.hid (specConfl _ _ _ l a b w4 (o1.reads.below ((b2.next (Nat.le_refl _) b3).next (Nat.le_refl _) b4) (Nat.le_refl _)) (oa.reads.below ((b2.next (Nat.le_refl _) b3).next (Nat.le_refl _) b4) (Nat.le_refl _)) (ob.reads.below ((b2.next (Nat.le_refl _) b3).next (Nat.le_refl _) b4) (Nat.le_refl _)))
        rw [E2.out] at C
        go_wp2_with fail
        refine C.out.mono ?_; rintro e w5 ⟨u5, rfl, o5, b5⟩
        clear C
        as_aux_lemma =>
          have C := Lib.hid (implSame _ _ _ l a b w5 (o1.reads.below (((b2.next (Nat.le_refl _) b3).next (Nat.le_refl _) b4).next (Nat.le_refl _) b5) (Nat.le_refl _)) (oa.reads.below (((b2.next (Nat.le_refl _) b3).next (Nat.le_refl _) b4).next (Nat.le_refl _) b5) (Nat.le_refl _)) (ob.reads.below (((b2.next (Nat.le_refl _) b3).next (Nat.le_refl _) b4).next (Nat.le_refl _) b5) (Nat.le_refl _)))
          rw [E3.out] at C
          go_wp2_with fail
          refine C.out.mono ?_; rintro e w6 ⟨rfl, b6⟩
          clear C
          have C := Lib.hid (specSame _ _ _ l a b w6 (o1.reads.below ((((b2.next (Nat.le_refl _) b3).next (Nat.le_refl _) b4).next (Nat.le_refl _) b5).next (Nat.le_refl _) b6) (Nat.le_refl _)) (oa.reads.below ((((b2.next (Nat.le_refl _) b3).next (Nat.le_refl _) b4).next (Nat.le_refl _) b5).next (Nat.le_refl _) b6) (Nat.le_refl _)) (ob.reads.below ((((b2.next (Nat.le_refl _) b3).next (Nat.le_refl _) b4).next (Nat.le_refl _) b5).next (Nat.le_refl _) b6) (Nat.le_refl _)))
          rw [E3.out] at C
          go_wp2_with fail
          refine C.out.mono ?_; rintro e w7 ⟨rfl, b7⟩
          clear C
          have C := Lib.hid (drawBothTouch_any _ more w7 (h1.below ((((((b1.next (Nat.le_refl _) b2).next (Nat.le_refl _) b3).next (Nat.le_refl _) b4).next (Nat.le_refl _) b5).next (Nat.le_refl _) b6).next (Nat.le_refl _) b7) (Nat.le_refl _)) f1)
          go_wp2_with fail
          refine C.out.mono ?_; rintro e w8 ⟨vp, vq, p, q, rfl, op, oq, b8, hp31, hq31⟩
          clear C
          obtain ⟨T, five, t1, t2⟩ := touch_ex p q
          have T1 := Lib.hid t1
          have T2 := Lib.hid t2
          clear t1 t2
          have C := Lib.hid (implTouch _ _ p q w8 op.reads oq.reads)
          rw [T1.out] at C
          go_wp2_with fail
          refine C.out.mono ?_; rintro e w9 ⟨u6, rfl, o6, b9⟩
          clear C
          as_aux_lemma =>
            have C := Lib.hid (specTouch _ _ p q w9 (op.reads.below b9 (Nat.le_refl _)) (oq.reads.below b9 (Nat.le_refl _)))
            rw [T1.out] at C
            go_wp2_with fail
            refine C.out.mono ?_; rintro e w10 ⟨u7, rfl, o7, b10⟩
            clear C
            have C := Lib.hid (qSpots_yes _ _ ([] : List Spt) w10 (o2.reads.below (((((((b3.next (Nat.le_refl _) b4).next (Nat.le_refl _) b5).next (Nat.le_refl _) b6).next (Nat.le_refl _) b7).next (Nat.le_refl _) b8).next (Nat.le_refl _) b9).next (Nat.le_refl _) b10) (Nat.le_refl _)) (o3.reads.below ((((((b4.next (Nat.le_refl _) b5).next (Nat.le_refl _) b6).next (Nat.le_refl _) b7).next (Nat.le_refl _) b8).next (Nat.le_refl _) b9).next (Nat.le_refl _) b10) (Nat.le_refl _)))
            go_wp2_with fail
            refine C.out.mono ?_; rintro e w11 ⟨rfl, b11⟩
            clear C
            have C := Lib.hid (qInts_yes _ _ ([] : List Int) w11 (p2.reads.below ((((((((b3.next (Nat.le_refl _) b4).next (Nat.le_refl _) b5).next (Nat.le_refl _) b6).next (Nat.le_refl _) b7).next (Nat.le_refl _) b8).next (Nat.le_refl _) b9).next (Nat.le_refl _) b10).next (Nat.le_refl _) b11) (Nat.le_refl _)) (p3.reads.below (((((((b4.next (Nat.le_refl _) b5).next (Nat.le_refl _) b6).next (Nat.le_refl _) b7).next (Nat.le_refl _) b8).next (Nat.le_refl _) b9).next (Nat.le_refl _) b10).next (Nat.le_refl _) b11) (Nat.le_refl _)))
            go_wp2_with fail
            refine C.out.mono ?_; rintro e w12 ⟨rfl, b12⟩
            clear C
            have C := Lib.hid (qInts_yes _ _ ([] : List Int) w12 (o4.reads.below (((((((b5.next (Nat.le_refl _) b6).next (Nat.le_refl _) b7).next (Nat.le_refl _) b8).next (Nat.le_refl _) b9).next (Nat.le_refl _) b10).next (Nat.le_refl _) b11).next (Nat.le_refl _) b12) (Nat.le_refl _)) (o5.reads.below ((((((b6.next (Nat.le_refl _) b7).next (Nat.le_refl _) b8).next (Nat.le_refl _) b9).next (Nat.le_refl _) b10).next (Nat.le_refl _) b11).next (Nat.le_refl _) b12) (Nat.le_refl _)))
            go_wp2_with fail
            refine C.out.mono ?_; rintro e w13 ⟨rfl, b13⟩
            clear C
            as_aux_lemma =>
              have C := Lib.hid (qInts_yes _ _ T w13 (o6.reads.below (((b10.next (Nat.le_refl _) b11).next (Nat.le_refl _) b12).next (Nat.le_refl _) b13) (Nat.le_refl _)) (o7.reads.below ((b11.next (Nat.le_refl _) b12).next (Nat.le_refl _) b13) (Nat.le_refl _)))
              go_wp2_with fail
              refine C.out.mono ?_; rintro e w14 ⟨rfl, b14⟩
              clear C
              go_upto_if 188 with fail
              all_goals try (rename_i hu9 hb9 K9 a9; exact absurd hu9 (by intro h; cases h))
              go_cut [] from 28 to 202 (fun wx => Below w14.heap.size w14 wx)
              case first =>
                as_aux_lemma =>
                  cases five
                  case false =>
                    go_wp2_with fail
                    go_meet
                    exact (Below.refl w14.heap.size w14)
                  case true =>
                    have C := Lib.hid (implTouch _ _ q p w14 (oq.reads.below (((((b9.next (Nat.le_refl _) b10).next (Nat.le_refl _) b11).next (Nat.le_refl _) b12).next (Nat.le_refl _) b13).next (Nat.le_refl _) b14) (Nat.le_refl _)) (op.reads.below (((((b9.next (Nat.le_refl _) b10).next (Nat.le_refl _) b11).next (Nat.le_refl _) b12).next (Nat.le_refl _) b13).next (Nat.le_refl _) b14) (Nat.le_refl _)))
                    rw [T2.out] at C
                    go_wp2_with fail
                    refine C.out.mono ?_; rintro e w15 ⟨u8, rfl, o8, b15⟩
                    clear C
                    have C := Lib.hid (qInts_yes _ _ T w15 o8.reads (o7.reads.below ((((b11.next (Nat.le_refl _) b12).next (Nat.le_refl _) b13).next (Nat.le_refl _) b14).next (Nat.le_refl _) b15) (Nat.le_refl _)))
                    go_wp2_with fail
                    refine C.out.mono ?_; rintro e w16 ⟨rfl, b16⟩
                    clear C
                    go_wp2_with fail
                    go_meet
                    exact (b15.next (Nat.le_refl _) b16)
              case rest =>
                as_aux_lemma =>
                  obtain ⟨w15, hw15⟩ : ∃ w9 : World, w9 = wc := ⟨_, rfl⟩
                  subst hw15
                  have b15 := hcut
                  clear hcut
                  go_wp2_with fail
                  go_ret
                  exact ⟨rfl, ((((((((((((((b1.next (Nat.le_refl _) b2).next (Nat.le_refl _) b3).next (Nat.le_refl _) b4).next (Nat.le_refl _) b5).next (Nat.le_refl _) b6).next (Nat.le_refl _) b7).next (Nat.le_refl _) b8).next (Nat.le_refl _) b9).next (Nat.le_refl _) b10).next (Nat.le_refl _) b11).next (Nat.le_refl _) b12).next (Nat.le_refl _) b13).next (Nat.le_refl _) b14).next (Nat.le_refl _) b15)⟩
    case true =>
      as_aux_lemma =>
        have F0 := okF hk
        obtain ⟨M, C9, okk, e1, ho⟩ := mg_ex2 hk
        obtain ⟨x, hx⟩ : ∃ x, x = (runE l a 0).1 := ⟨_, rfl⟩
        obtain ⟨y, hy⟩ : ∃ x, x = (runE l b 0).1 := ⟨_, rfl⟩
        rw [← hx, ← hy] at F0 ho
        obtain ⟨C, hC⟩ : ∃ C, C = mgC l x y l.length := ⟨_, rfl⟩
        rw [← hC] at F0 ho
        obtain ⟨dd, hdd⟩ : ∃ d, d = decide (x = y) := ⟨_, rfl⟩
        have e3 := F0.sm
        rw [← hdd] at e3
        have E1 := Lib.hid (e1)
        have E2 := Lib.hid (F0.c1)
        have E3 := Lib.hid (e3)
        have E4 := Lib.hid (F0.c2)
        have E5 := Lib.hid (F0.ma)
        have LX := Lib.hid (F0.lx)
        have LY := Lib.hid (F0.ly)
        have HC := Lib.hid (F0.hc)
        have HD := Lib.hid (hdd.symm)
        have HO := Lib.hid (ho)
        have F := F0
        clear e1 e3 hdd hC hx hy hk F0 ho
        have C := Lib.hid (implMerged _ _ _ l a b w1 o1.reads oa.reads ob.reads)
        rw [E1.out] at C
        go_wp2_with fail
        refine C.out.mono ?_; rintro e w2 ⟨u2, v2, rfl, o2, p2, _, b2⟩
        clear C
        as_aux_lemma =>
          have C := Lib.hid (specMerged _ _ _ l a b w2 (o1.reads.below b2 (Nat.le_refl _)) (oa.reads.below b2 (Nat.le_refl _)) (ob.reads.below b2 (Nat.le_refl _)))
          rw [E1.out] at C
          go_wp2_with fail
          refine C.out.mono ?_; rintro e w3 ⟨u3, v3, rfl, o3, p3, _, b3⟩
          clear C
          have C := Lib.hid (implConfl _ _ _ l a b w3 (o1.reads.below (b2.next (Nat.le_refl _) b3) (Nat.le_refl _)) (oa.reads.below (b2.next (Nat.le_refl _) b3) (Nat.le_refl _)) (ob.reads.below (b2.next (Nat.le_refl _) b3) (Nat.le_refl _)))
          rw [E2.out] at C
          go_wp2_with fail
          refine C.out.mono ?_; rintro e w4 ⟨u4, rfl, o4, b4⟩
          clear C
          have C := Lib.hid (specConfl _ _ _ l a b w4 (o1.reads.below ((b2.next (Nat.le_refl _) b3).next (Nat.le_refl _) b4) (Nat.le_refl _)) (oa.reads.below ((b2.next (Nat.le_refl _) b3).next (Nat.le_refl _) b4) (Nat.le_refl _)) (ob.reads.below ((b2.next (Nat.le_refl _) b3).next (Nat.le_refl _) b4) (Nat.le_refl _)))
          rw [E2.out] at C
          go_wp2_with fail
          refine C.out.mono ?_; rintro e w5 ⟨u5, rfl, o5, b5⟩
          clear C
          have C := Lib.hid (implSame _ _ _ l a b w5 (o1.reads.below (((b2.next (Nat.le_refl _) b3).next (Nat.le_refl _) b4).next (Nat.le_refl _) b5) (Nat.le_refl _)) (oa.reads.below (((b2.next (Nat.le_refl _) b3).next (Nat.le_refl _) b4).next (Nat.le_refl _) b5) (Nat.le_refl _)) (ob.reads.below (((b2.next (Nat.le_refl _) b3).next (Nat.le_refl _) b4).next (Nat.le_refl _) b5) (Nat.le_refl _)))
          rw [E3.out] at C
          go_wp2_with fail
          refine C.out.mono ?_; rintro e w6 ⟨rfl, b6⟩
          clear C
          as_aux_lemma =>
            have C := Lib.hid (specSame _ _ _ l a b w6 (o1.reads.below ((((b2.next (Nat.le_refl _) b3).next (Nat.le_refl _) b4).next (Nat.le_refl _) b5).next (Nat.le_refl _) b6) (Nat.le_refl _)) (oa.reads.below ((((b2.next (Nat.le_refl _) b3).next (Nat.le_refl _) b4).next (Nat.le_refl _) b5).next (Nat.le_refl _) b6) (Nat.le_refl _)) (ob.reads.below ((((b2.next (Nat.le_refl _) b3).next (Nat.le_refl _) b4).next (Nat.le_refl _) b5).next (Nat.le_refl _) b6) (Nat.le_refl _)))
            rw [E3.out] at C
            go_wp2_with fail
            refine C.out.mono ?_; rintro e w7 ⟨rfl, b7⟩
            clear C
            have C := Lib.hid (drawBothTouch_any _ more w7 (h1.below ((((((b1.next (Nat.le_refl _) b2).next (Nat.le_refl _) b3).next (Nat.le_refl _) b4).next (Nat.le_refl _) b5).next (Nat.le_refl _) b6).next (Nat.le_refl _) b7) (Nat.le_refl _)) f1)
            go_wp2_with fail
            refine C.out.mono ?_; rintro e w8 ⟨vp, vq, p, q, rfl, op, oq, b8, hp31, hq31⟩
            clear C
            obtain ⟨T, five, t1, t2⟩ := touch_ex p q
            have T1 := Lib.hid t1
            have T2 := Lib.hid t2
            clear t1 t2
            have C := Lib.hid (implTouch _ _ p q w8 op.reads oq.reads)
            rw [T1.out] at C
            go_wp2_with fail
            refine C.out.mono ?_; rintro e w9 ⟨u6, rfl, o6, b9⟩
            clear C
            have C := Lib.hid (specTouch _ _ p q w9 (op.reads.below b9 (Nat.le_refl _)) (oq.reads.below b9 (Nat.le_refl _)))
            rw [T1.out] at C
            go_wp2_with fail
            refine C.out.mono ?_; rintro e w10 ⟨u7, rfl, o7, b10⟩
            clear C
            as_aux_lemma =>
              have o7w : OwnInts w10 w9.heap.size u7 T := o7
              go_upto_region 13 with fail
              go_cut [187] from 123 to 187 (fun s wx => s = .bool false ∧ Below w10.heap.size w10 wx)
              case first =>
                as_aux_lemma =>
                  cases okk
                  case false =>
                    have C := Lib.hid (qSpots_yes _ _ M w10 (o2.reads.below (((((((b3.next (Nat.le_refl _) b4).next (Nat.le_refl _) b5).next (Nat.le_refl _) b6).next (Nat.le_refl _) b7).next (Nat.le_refl _) b8).next (Nat.le_refl _) b9).next (Nat.le_refl _) b10) (Nat.le_refl _)) (o3.reads.below ((((((b4.next (Nat.le_refl _) b5).next (Nat.le_refl _) b6).next (Nat.le_refl _) b7).next (Nat.le_refl _) b8).next (Nat.le_refl _) b9).next (Nat.le_refl _) b10) (Nat.le_refl _)))
                    go_wp2_with fail
                    refine C.out.mono ?_; rintro e w11 ⟨rfl, b11⟩
                    clear C
                    have C := Lib.hid (qInts_yes _ _ C9 w11 (p2.reads.below ((((((((b3.next (Nat.le_refl _) b4).next (Nat.le_refl _) b5).next (Nat.le_refl _) b6).next (Nat.le_refl _) b7).next (Nat.le_refl _) b8).next (Nat.le_refl _) b9).next (Nat.le_refl _) b10).next (Nat.le_refl _) b11) (Nat.le_refl _)) (p3.reads.below (((((((b4.next (Nat.le_refl _) b5).next (Nat.le_refl _) b6).next (Nat.le_refl _) b7).next (Nat.le_refl _) b8).next (Nat.le_refl _) b9).next (Nat.le_refl _) b10).next (Nat.le_refl _) b11) (Nat.le_refl _)))
                    go_wp2_with fail
                    refine C.out.mono ?_; rintro e w12 ⟨rfl, b12⟩
                    clear C
                    have C := Lib.hid (qInts_yes _ _ C w12 (o4.reads.below (((((((b5.next (Nat.le_refl _) b6).next (Nat.le_refl _) b7).next (Nat.le_refl _) b8).next (Nat.le_refl _) b9).next (Nat.le_refl _) b10).next (Nat.le_refl _) b11).next (Nat.le_refl _) b12) (Nat.le_refl _)) (o5.reads.below ((((((b6.next (Nat.le_refl _) b7).next (Nat.le_refl _) b8).next (Nat.le_refl _) b9).next (Nat.le_refl _) b10).next (Nat.le_refl _) b11).next (Nat.le_refl _) b12) (Nat.le_refl _)))
                    go_wp2_with fail
                    refine C.out.mono ?_; rintro e w13 ⟨rfl, b13⟩
                    clear C
                    have C := Lib.hid (qInts_yes _ _ T w13 (o6.reads.below (((b10.next (Nat.le_refl _) b11).next (Nat.le_refl _) b12).next (Nat.le_refl _) b13) (Nat.le_refl _)) (o7.reads.below ((b11.next (Nat.le_refl _) b12).next (Nat.le_refl _) b13) (Nat.le_refl _)))
                    go_wp2_with fail
                    refine C.out.mono ?_; rintro e w14 ⟨rfl, b14⟩
                    clear C
                    as_aux_lemma =>
                      go_wp2_with fail
                      all_goals try (first | (rename_i hu9 hb9 K9 a9; exact absurd hu9 (by intro h; cases h)) | (rename_i hu9 hb9 K9; exact absurd hu9 (by intro h; cases h)) | (rename_i hu9 hb9; exact absurd hu9 (by intro h; cases h)))
                      go_meet
                      exact ⟨rfl, (((b11.next (Nat.le_refl _) b12).next (Nat.le_refl _) b13).next (Nat.le_refl _) b14)⟩
                  case true =>
                    have C := Lib.hid (qSpots_yes _ _ M w10 (o2.reads.below (((((((b3.next (Nat.le_refl _) b4).next (Nat.le_refl _) b5).next (Nat.le_refl _) b6).next (Nat.le_refl _) b7).next (Nat.le_refl _) b8).next (Nat.le_refl _) b9).next (Nat.le_refl _) b10) (Nat.le_refl _)) (o3.reads.below ((((((b4.next (Nat.le_refl _) b5).next (Nat.le_refl _) b6).next (Nat.le_refl _) b7).next (Nat.le_refl _) b8).next (Nat.le_refl _) b9).next (Nat.le_refl _) b10) (Nat.le_refl _)))
                    go_wp2_with fail
                    refine C.out.mono ?_; rintro e w11 ⟨rfl, b11⟩
                    clear C
                    have C := Lib.hid (qInts_yes _ _ C9 w11 (p2.reads.below ((((((((b3.next (Nat.le_refl _) b4).next (Nat.le_refl _) b5).next (Nat.le_refl _) b6).next (Nat.le_refl _) b7).next (Nat.le_refl _) b8).next (Nat.le_refl _) b9).next (Nat.le_refl _) b10).next (Nat.le_refl _) b11) (Nat.le_refl _)) (p3.reads.below (((((((b4.next (Nat.le_refl _) b5).next (Nat.le_refl _) b6).next (Nat.le_refl _) b7).next (Nat.le_refl _) b8).next (Nat.le_refl _) b9).next (Nat.le_refl _) b10).next (Nat.le_refl _) b11) (Nat.le_refl _)))
                    go_wp2_with fail
                    refine C.out.mono ?_; rintro e w12 ⟨rfl, b12⟩
                    clear C
                    have C := Lib.hid (qInts_yes _ _ C w12 (o4.reads.below (((((((b5.next (Nat.le_refl _) b6).next (Nat.le_refl _) b7).next (Nat.le_refl _) b8).next (Nat.le_refl _) b9).next (Nat.le_refl _) b10).next (Nat.le_refl _) b11).next (Nat.le_refl _) b12) (Nat.le_refl _)) (o5.reads.below ((((((b6.next (Nat.le_refl _) b7).next (Nat.le_refl _) b8).next (Nat.le_refl _) b9).next (Nat.le_refl _) b10).next (Nat.le_refl _) b11).next (Nat.le_refl _) b12) (Nat.le_refl _)))
                    go_wp2_with fail
                    refine C.out.mono ?_; rintro e w13 ⟨rfl, b13⟩
                    clear C
                    have C := Lib.hid (qInts_yes _ _ T w13 (o6.reads.below (((b10.next (Nat.le_refl _) b11).next (Nat.le_refl _) b12).next (Nat.le_refl _) b13) (Nat.le_refl _)) (o7.reads.below ((b11.next (Nat.le_refl _) b12).next (Nat.le_refl _) b13) (Nat.le_refl _)))
                    go_wp2_with fail
                    refine C.out.mono ?_; rintro e w14 ⟨rfl, b14⟩
                    clear C
                    as_aux_lemma =>
                      obtain rfl := (HO.out (by trivial)).1
                      have C := Lib.hid (qInts_yes _ _ C9 w14 (p3.reads.below ((((((((((b4.next (Nat.le_refl _) b5).next (Nat.le_refl _) b6).next (Nat.le_refl _) b7).next (Nat.le_refl _) b8).next (Nat.le_refl _) b9).next (Nat.le_refl _) b10).next (Nat.le_refl _) b11).next (Nat.le_refl _) b12).next (Nat.le_refl _) b13).next (Nat.le_refl _) b14) (Nat.le_refl _)) (o5.reads.below ((((((((b6.next (Nat.le_refl _) b7).next (Nat.le_refl _) b8).next (Nat.le_refl _) b9).next (Nat.le_refl _) b10).next (Nat.le_refl _) b11).next (Nat.le_refl _) b12).next (Nat.le_refl _) b13).next (Nat.le_refl _) b14) (Nat.le_refl _)))
                      go_wp2_with fail
                      refine C.out.mono ?_; rintro e w15 ⟨rfl, b15⟩
                      clear C
                      go_wp2_with fail
                      all_goals try (first | (rename_i hu9 hb9 K9 a9; exact absurd hu9 (by intro h; cases h)) | (rename_i hu9 hb9 K9; exact absurd hu9 (by intro h; cases h)) | (rename_i hu9 hb9; exact absurd hu9 (by intro h; cases h)))
                      go_meet
                      exact ⟨rfl, ((((b11.next (Nat.le_refl _) b12).next (Nat.le_refl _) b13).next (Nat.le_refl _) b14).next (Nat.le_refl _) b15)⟩
              case rest =>
                as_aux_lemma =>
                  obtain ⟨w11, hw11⟩ : ∃ w9 : World, w9 = wc := ⟨_, rfl⟩
                  subst hw11
                  obtain ⟨rfl, b11⟩ := hcut
                  go_upto_if 188 with fail
                  all_goals try (rename_i hu9 hb9 K9 a9; exact absurd hu9 (by intro h; cases h))
                  go_cut [] from 28 to 202 (fun wx => Below w11.heap.size w11 wx)
                  case first =>
                    as_aux_lemma =>
                      cases five
                      case false =>
                        go_wp2_with fail
                        go_meet
                        exact (Below.refl w11.heap.size w11)
                      case true =>
                        have C := Lib.hid (implTouch _ _ q p w11 (oq.reads.below ((b9.next (Nat.le_refl _) b10).next (Nat.le_refl _) b11) (Nat.le_refl _)) (op.reads.below ((b9.next (Nat.le_refl _) b10).next (Nat.le_refl _) b11) (Nat.le_refl _)))
                        rw [T2.out] at C
                        go_wp2_with fail
                        refine C.out.mono ?_; rintro e w12 ⟨u8, rfl, o8, b12⟩
                        clear C
                        have C := Lib.hid (qInts_yes _ _ T w12 o8.reads (o7.reads.below (b11.next (Nat.le_refl _) b12) (Nat.le_refl _)))
                        go_wp2_with fail
                        refine C.out.mono ?_; rintro e w13 ⟨rfl, b13⟩
                        clear C
                        go_wp2_with fail
                        go_meet
                        exact (b12.next (Nat.le_refl _) b13)
                  case rest =>
                    as_aux_lemma =>
                      obtain ⟨w12, hw12⟩ : ∃ w9 : World, w9 = wc := ⟨_, rfl⟩
                      subst hw12
                      have b12 := hcut
                      clear hcut
                      obtain ⟨Al, cl, hvl, hnl, hcl⟩ := o1.reads.shape
                      subst hvl
                      obtain ⟨Aa, ca, hva, hna, hca⟩ := oa.reads.shape
                      subst hva
                      obtain ⟨Ab, cb, hvb, hnb, hcb⟩ := ob.reads.shape
                      subst hvb
                      go_upto_if 203 with fail
                      go_cut [] from 28 to 401 (fun wx => Below w12.heap.size w12 wx)
                      case first =>
                        as_aux_lemma =>
                          have C := Lib.hid (implApply _ _ l a w12 (o1.reads.below ((((((((((b2.next (Nat.le_refl _) b3).next (Nat.le_refl _) b4).next (Nat.le_refl _) b5).next (Nat.le_refl _) b6).next (Nat.le_refl _) b7).next (Nat.le_refl _) b8).next (Nat.le_refl _) b9).next (Nat.le_refl _) b10).next (Nat.le_refl _) b11).next (Nat.le_refl _) b12) (Nat.le_refl _)) (oa.reads.below ((((((((((b2.next (Nat.le_refl _) b3).next (Nat.le_refl _) b4).next (Nat.le_refl _) b5).next (Nat.le_refl _) b6).next (Nat.le_refl _) b7).next (Nat.le_refl _) b8).next (Nat.le_refl _) b9).next (Nat.le_refl _) b10).next (Nat.le_refl _) b11).next (Nat.le_refl _) b12) (Nat.le_refl _)) F.ch F.ea x F.ra)
                          go_wp2_with fail
                          refine C.out.mono ?_; rintro e w13 ⟨u9, rfl, o9, b13⟩
                          clear C
                          have C := Lib.hid (specApply _ _ l a w13 (o1.reads.below (((((((((((b2.next (Nat.le_refl _) b3).next (Nat.le_refl _) b4).next (Nat.le_refl _) b5).next (Nat.le_refl _) b6).next (Nat.le_refl _) b7).next (Nat.le_refl _) b8).next (Nat.le_refl _) b9).next (Nat.le_refl _) b10).next (Nat.le_refl _) b11).next (Nat.le_refl _) b12).next (Nat.le_refl _) b13) (Nat.le_refl _)) (oa.reads.below (((((((((((b2.next (Nat.le_refl _) b3).next (Nat.le_refl _) b4).next (Nat.le_refl _) b5).next (Nat.le_refl _) b6).next (Nat.le_refl _) b7).next (Nat.le_refl _) b8).next (Nat.le_refl _) b9).next (Nat.le_refl _) b10).next (Nat.le_refl _) b11).next (Nat.le_refl _) b12).next (Nat.le_refl _) b13) (Nat.le_refl _)) F.ch F.ea x F.ra)
                          go_wp2_with fail
                          refine C.out.mono ?_; rintro e w14 ⟨u10, rfl, o10, b14⟩
                          clear C
                          as_aux_lemma =>
                            have C := Lib.hid (implApply _ _ l b w14 (o1.reads.below ((((((((((((b2.next (Nat.le_refl _) b3).next (Nat.le_refl _) b4).next (Nat.le_refl _) b5).next (Nat.le_refl _) b6).next (Nat.le_refl _) b7).next (Nat.le_refl _) b8).next (Nat.le_refl _) b9).next (Nat.le_refl _) b10).next (Nat.le_refl _) b11).next (Nat.le_refl _) b12).next (Nat.le_refl _) b13).next (Nat.le_refl _) b14) (Nat.le_refl _)) (ob.reads.below ((((((((((((b2.next (Nat.le_refl _) b3).next (Nat.le_refl _) b4).next (Nat.le_refl _) b5).next (Nat.le_refl _) b6).next (Nat.le_refl _) b7).next (Nat.le_refl _) b8).next (Nat.le_refl _) b9).next (Nat.le_refl _) b10).next (Nat.le_refl _) b11).next (Nat.le_refl _) b12).next (Nat.le_refl _) b13).next (Nat.le_refl _) b14) (Nat.le_refl _)) F.ch F.eb y F.rb)
                            go_wp2_with fail
                            refine C.out.mono ?_; rintro e w15 ⟨u11, rfl, o11, b15⟩
                            clear C
                            have C := Lib.hid (specApply _ _ l b w15 (o1.reads.below (((((((((((((b2.next (Nat.le_refl _) b3).next (Nat.le_refl _) b4).next (Nat.le_refl _) b5).next (Nat.le_refl _) b6).next (Nat.le_refl _) b7).next (Nat.le_refl _) b8).next (Nat.le_refl _) b9).next (Nat.le_refl _) b10).next (Nat.le_refl _) b11).next (Nat.le_refl _) b12).next (Nat.le_refl _) b13).next (Nat.le_refl _) b14).next (Nat.le_refl _) b15) (Nat.le_refl _)) (ob.reads.below (((((((((((((b2.next (Nat.le_refl _) b3).next (Nat.le_refl _) b4).next (Nat.le_refl _) b5).next (Nat.le_refl _) b6).next (Nat.le_refl _) b7).next (Nat.le_refl _) b8).next (Nat.le_refl _) b9).next (Nat.le_refl _) b10).next (Nat.le_refl _) b11).next (Nat.le_refl _) b12).next (Nat.le_refl _) b13).next (Nat.le_refl _) b14).next (Nat.le_refl _) b15) (Nat.le_refl _)) F.ch F.eb y F.rb)
                            go_wp2_with fail
                            refine C.out.mono ?_; rintro e w16 ⟨u12, rfl, o12, b16⟩
                            clear C
                            have C := Lib.hid (implConfl _ _ _ l b a w16 (o1.reads.below ((((((((((((((b2.next (Nat.le_refl _) b3).next (Nat.le_refl _) b4).next (Nat.le_refl _) b5).next (Nat.le_refl _) b6).next (Nat.le_refl _) b7).next (Nat.le_refl _) b8).next (Nat.le_refl _) b9).next (Nat.le_refl _) b10).next (Nat.le_refl _) b11).next (Nat.le_refl _) b12).next (Nat.le_refl _) b13).next (Nat.le_refl _) b14).next (Nat.le_refl _) b15).next (Nat.le_refl _) b16) (Nat.le_refl _)) (ob.reads.below ((((((((((((((b2.next (Nat.le_refl _) b3).next (Nat.le_refl _) b4).next (Nat.le_refl _) b5).next (Nat.le_refl _) b6).next (Nat.le_refl _) b7).next (Nat.le_refl _) b8).next (Nat.le_refl _) b9).next (Nat.le_refl _) b10).next (Nat.le_refl _) b11).next (Nat.le_refl _) b12).next (Nat.le_refl _) b13).next (Nat.le_refl _) b14).next (Nat.le_refl _) b15).next (Nat.le_refl _) b16) (Nat.le_refl _)) (oa.reads.below ((((((((((((((b2.next (Nat.le_refl _) b3).next (Nat.le_refl _) b4).next (Nat.le_refl _) b5).next (Nat.le_refl _) b6).next (Nat.le_refl _) b7).next (Nat.le_refl _) b8).next (Nat.le_refl _) b9).next (Nat.le_refl _) b10).next (Nat.le_refl _) b11).next (Nat.le_refl _) b12).next (Nat.le_refl _) b13).next (Nat.le_refl _) b14).next (Nat.le_refl _) b15).next (Nat.le_refl _) b16) (Nat.le_refl _)))
                            rw [E4.out] at C
                            go_wp2_with fail
                            refine C.out.mono ?_; rintro e w17 ⟨u13, rfl, o13, b17⟩
                            clear C
                            have C := Lib.hid (qSpots_yes _ _ x w17 (o9.reads.below (((b14.next (Nat.le_refl _) b15).next (Nat.le_refl _) b16).next (Nat.le_refl _) b17) (Nat.le_refl _)) (o10.reads.below ((b15.next (Nat.le_refl _) b16).next (Nat.le_refl _) b17) (Nat.le_refl _)))
                            go_wp2_with fail
                            refine C.out.mono ?_; rintro e w18 ⟨rfl, b18⟩
                            clear C
                            as_aux_lemma =>
                              have C := Lib.hid (qSpots_yes _ _ y w18 (o11.reads.below ((b16.next (Nat.le_refl _) b17).next (Nat.le_refl _) b18) (Nat.le_refl _)) (o12.reads.below (b17.next (Nat.le_refl _) b18) (Nat.le_refl _)))
                              go_wp2_with fail
                              refine C.out.mono ?_; rintro e w19 ⟨rfl, b19⟩
                              clear C
                              have C := Lib.hid (qInts_yes _ _ C w19 (o13.reads.below (b18.next (Nat.le_refl _) b19) (Nat.le_refl _)) (o5.reads.below (((((((((((((b6.next (Nat.le_refl _) b7).next (Nat.le_refl _) b8).next (Nat.le_refl _) b9).next (Nat.le_refl _) b10).next (Nat.le_refl _) b11).next (Nat.le_refl _) b12).next (Nat.le_refl _) b13).next (Nat.le_refl _) b14).next (Nat.le_refl _) b15).next (Nat.le_refl _) b16).next (Nat.le_refl _) b17).next (Nat.le_refl _) b18).next (Nat.le_refl _) b19) (Nat.le_refl _)))
                              go_wp2_with fail
                              refine C.out.mono ?_; rintro e w20 ⟨rfl, b20⟩
                              clear C
                              have C := Lib.hid (qSpots_any _ _ x y w20 (o10.reads.below (((((b15.next (Nat.le_refl _) b16).next (Nat.le_refl _) b17).next (Nat.le_refl _) b18).next (Nat.le_refl _) b19).next (Nat.le_refl _) b20) (Nat.le_refl _)) (o12.reads.below (((b17.next (Nat.le_refl _) b18).next (Nat.le_refl _) b19).next (Nat.le_refl _) b20) (Nat.le_refl _)))
                              rw [HD.out] at C
                              go_wp2_with fail
                              refine C.out.mono ?_; rintro e w21 ⟨rfl, b21⟩
                              clear C
                              have o10w : OwnRow sptRec w14 w13.heap.size u10 x := o10
                              have o12w : OwnRow sptRec w16 w15.heap.size u12 y := o12
                              have o5w : OwnInts w5 w4.heap.size u5 C := o5
                              obtain ⟨AX, cX, hvX, hnX, hcX⟩ := o10w.reads.shape
                              subst hvX
                              obtain ⟨AY, cY, hvY, hnY, hcY⟩ := o12w.reads.shape
                              subst hvY
                              obtain ⟨AD, cD, hvD, hnD, hcD⟩ := o5w.reads.shape
                              subst hvD
                              have o3w : OwnRow sptRec w3 w2.heap.size u3 M := o3
                              obtain ⟨AM, cM, hvM, hnM, hcM⟩ := o3w.reads.shape
                              subst hvM
                              rw [LX.out] at hnX
                              rw [LY.out] at hnY
                              have rl := Lib.hid ((o1.reads.below (((((((((((((((((((b2.next (Nat.le_refl _) b3).next (Nat.le_refl _) b4).next (Nat.le_refl _) b5).next (Nat.le_refl _) b6).next (Nat.le_refl _) b7).next (Nat.le_refl _) b8).next (Nat.le_refl _) b9).next (Nat.le_refl _) b10).next (Nat.le_refl _) b11).next (Nat.le_refl _) b12).next (Nat.le_refl _) b13).next (Nat.le_refl _) b14).next (Nat.le_refl _) b15).next (Nat.le_refl _) b16).next (Nat.le_refl _) b17).next (Nat.le_refl _) b18).next (Nat.le_refl _) b19).next (Nat.le_refl _) b20).next (Nat.le_refl _) b21) (Nat.le_refl _)) : RowAt sptRec _ _ l)
                              have rX := Lib.hid ((o10w.reads.below ((((((b15.next (Nat.le_refl _) b16).next (Nat.le_refl _) b17).next (Nat.le_refl _) b18).next (Nat.le_refl _) b19).next (Nat.le_refl _) b20).next (Nat.le_refl _) b21) (Nat.le_refl _)) : RowAt sptRec _ _ x)
                              have rY := Lib.hid ((o12w.reads.below ((((b17.next (Nat.le_refl _) b18).next (Nat.le_refl _) b19).next (Nat.le_refl _) b20).next (Nat.le_refl _) b21) (Nat.le_refl _)) : RowAt sptRec _ _ y)
                              have rM := Lib.hid ((o3w.reads.below (((((((((((((((((b4.next (Nat.le_refl _) b5).next (Nat.le_refl _) b6).next (Nat.le_refl _) b7).next (Nat.le_refl _) b8).next (Nat.le_refl _) b9).next (Nat.le_refl _) b10).next (Nat.le_refl _) b11).next (Nat.le_refl _) b12).next (Nat.le_refl _) b13).next (Nat.le_refl _) b14).next (Nat.le_refl _) b15).next (Nat.le_refl _) b16).next (Nat.le_refl _) b17).next (Nat.le_refl _) b18).next (Nat.le_refl _) b19).next (Nat.le_refl _) b20).next (Nat.le_refl _) b21) (Nat.le_refl _)) : RowAt sptRec _ _ M)
                              have rD := Lib.hid ((o5w.reads.below (((((((((((((((b6.next (Nat.le_refl _) b7).next (Nat.le_refl _) b8).next (Nat.le_refl _) b9).next (Nat.le_refl _) b10).next (Nat.le_refl _) b11).next (Nat.le_refl _) b12).next (Nat.le_refl _) b13).next (Nat.le_refl _) b14).next (Nat.le_refl _) b15).next (Nat.le_refl _) b16).next (Nat.le_refl _) b17).next (Nat.le_refl _) b18).next (Nat.le_refl _) b19).next (Nat.le_refl _) b20).next (Nat.le_refl _) b21) (Nat.le_refl _)) : IntsAt _ _ C)
                              have ra := Lib.hid ((oa.reads.below (((((((((((((((((((b2.next (Nat.le_refl _) b3).next (Nat.le_refl _) b4).next (Nat.le_refl _) b5).next (Nat.le_refl _) b6).next (Nat.le_refl _) b7).next (Nat.le_refl _) b8).next (Nat.le_refl _) b9).next (Nat.le_refl _) b10).next (Nat.le_refl _) b11).next (Nat.le_refl _) b12).next (Nat.le_refl _) b13).next (Nat.le_refl _) b14).next (Nat.le_refl _) b15).next (Nat.le_refl _) b16).next (Nat.le_refl _) b17).next (Nat.le_refl _) b18).next (Nat.le_refl _) b19).next (Nat.le_refl _) b20).next (Nat.le_refl _) b21) (Nat.le_refl _)) : RowAt edtRec _ _ a)
                              have hZ := Lib.hid (((((((((b13.next (Nat.le_refl _) b14).next (Nat.le_refl _) b15).next (Nat.le_refl _) b16).next (Nat.le_refl _) b17).next (Nat.le_refl _) b18).next (Nat.le_refl _) b19).next (Nat.le_refl _) b20).next (Nat.le_refl _) b21))
                              have h12 : l.length ≤ 12 := (chart_pos F.ch).2
                              try clear h0
                              try clear h1
                              try clear f0
                              try clear f1
                              try clear o1
                              try clear oa
                              try clear ob
                              try clear o2
                              try clear p2
                              try clear o3
                              try clear p3
                              try clear o4
                              try clear o5
                              try clear op
                              try clear oq
                              try clear o6
                              try clear o7
                              try clear o9
                              try clear o10
                              try clear o11
                              try clear o12
                              try clear o13
                              try clear o10w
                              try clear o12w
                              try clear o5w
                              try clear o3w
                              try clear E1
                              try clear E2
                              try clear E3
                              try clear E4
                              try clear HD
                              try clear ha31
                              try clear hb31
                              try clear hp31
                              try clear hq31
                              try clear hl13
                              try clear T1
                              try clear T2
                              try clear F
                              try clear b1
                              try clear b2
                              try clear b3
                              try clear b4
                              try clear b5
                              try clear b6
                              try clear b7
                              try clear b8
                              try clear b9
                              try clear b10
                              try clear b11
                              try clear b12
                              try clear b13
                              try clear b14
                              try clear b15
                              try clear b16
                              try clear b17
                              try clear b18
                              try clear b19
                              try clear b20
                              try clear b21
                              go_wp2_with fail
                              go_loopw [306] (fun si wr => ∃ n : Nat, n ≤ l.length ∧ si = .int .i64 n ∧ Below w21.heap.size w21 wr) (fun si _ => l.length - (intOf si).toNat)
                              case atStart => exact ⟨0, Nat.zero_le _, rfl, Below.refl _ _⟩
                              case round =>
                                obtain ⟨n, hn, rfl, hb⟩ := hrel
                                by_cases hlt : n < l.length
                                · have hx9 : n < x.length := by have := LX.out; omega
                                  have hy9 : n < y.length := by have := LY.out; omega
                                  have kcf := HC.out n hlt
                                  obtain ⟨bl, sl, hhl, -, -⟩ := spt_at (rl.out.below hb (Nat.le_refl _)) n hlt
                                  subst hhl
                                  obtain ⟨bX, sX, hhX, -, -⟩ := spt_at (rX.out.below hb (Nat.le_refl _)) n hx9
                                  subst hhX
                                  obtain ⟨bY, sY, hhY, -, -⟩ := spt_at (rY.out.below hb (Nat.le_refl _)) n hy9
                                  subst hhY
                                  obtain ⟨Ps, hPs⟩ : ∃ z, z = gx sptRec l n := ⟨_, rfl⟩
                                  obtain ⟨Px, hPx⟩ : ∃ z, z = gx sptRec x n := ⟨_, rfl⟩
                                  obtain ⟨Py, hPy⟩ : ∃ z, z = gx sptRec y n := ⟨_, rfl⟩
                                  rw [← hPs, ← hPx, ← hPy] at kcf
                                  have Fm : ∀ W, Below w21.heap.size w21 W → W.cell? ⟨bl, sl + n * 2, none⟩ = some (.int .i64 Ps.x) ∧ W.cell? ⟨bl, sl + n * 2 + 1, none⟩ = some (.int .i64 Ps.y) ∧ W.cell? ⟨bX, sX + n * 2, none⟩ = some (.int .i64 Px.x) ∧ W.cell? ⟨bX, sX + n * 2 + 1, none⟩ = some (.int .i64 Px.y) ∧ W.cell? ⟨bY, sY + n * 2, none⟩ = some (.int .i64 Py.x) ∧ W.cell? ⟨bY, sY + n * 2 + 1, none⟩ = some (.int .i64 Py.y) ∧ (∀ dd, Calls Try.prog 18 #[.slice AD C.length cD, .int .i64 n] (W.drewN dd) (fun e w'' => e = .returned (.bool (mgConf Ps Px Py)) ∧ ∃ m, w'' = W.drewN m)) := fun W hW => by
                                    obtain ⟨bl9, sl9, hhl, k0l, k1l⟩ := spt_at (rl.out.below hW (Nat.le_refl _)) n hlt
                                    injection hhl with hhl
                                    injection hhl with hh1l hh2l
                                    subst hh1l hh2l
                                    rw [← hPs] at k0l k1l
                                    obtain ⟨bX9, sX9, hhX, k0X, k1X⟩ := spt_at (rX.out.below hW (Nat.le_refl _)) n hx9
                                    injection hhX with hhX
                                    injection hhX with hh1X hh2X
                                    subst hh1X hh2X
                                    rw [← hPx] at k0X k1X
                                    obtain ⟨bY9, sY9, hhY, k0Y, k1Y⟩ := spt_at (rY.out.below hW (Nat.le_refl _)) n hy9
                                    injection hhY with hhY
                                    injection hhY with hh1Y hh2Y
                                    subst hh1Y hh2Y
                                    rw [← hPy] at k0Y k1Y
                                    refine ⟨k0l, k1l, k0X, k1X, k0Y, k1Y, fun dd => ?_⟩
                                    rw [← kcf]
                                    exact Calls.quiet_of_same ((qHas_any _ C n _ ((rD.out.below hW (Nat.le_refl _)).below ((Below.refl _ W).drewN dd) (Nat.le_refl _))).mono fun _ _ ⟨a, b⟩ => ⟨a, b.symm⟩)
                                  have HF := Lib.hid Fm
                                  clear Fm kcf
                                  have HPs := Lib.hid hPs
                                  have HPx := Lib.hid hPx
                                  have HPy := Lib.hid hPy
                                  clear hPs hPx hPy
                                  have i0 : (0 : Int) ≤ (n : Int) := by omega
                                  have i1 : (n : Int) < (l.length : Int) := by omega
                                  have ix : (n : Int) < (x.length : Int) := by omega
                                  have iy : (n : Int) < (y.length : Int) := by omega
                                  obtain ⟨q0, q1, q2, q3, q4, q5, qh⟩ := HF.out wr hb
                                  clear qh
                                  go_upto_region 30 with fail
                                  clear q0 q1 q2 q3 q4 q5
                                  have hbX := hb.alloc hb.size (.cells #[.int .i64 Ps.x, .int .i64 Ps.y] 42)
                                  have zb := BoxS.new wr Ps.x Ps.y
                                  obtain ⟨X_, hX_⟩ : ∃ X, X = wr.alloc (.cells #[.int .i64 Ps.x, .int .i64 Ps.y] 42) := ⟨_, rfl⟩
                                  obtain ⟨B_, hB_⟩ : ∃ X, X = wr.heap.size := ⟨_, rfl⟩
                                  have hBK : w21.heap.size ≤ B_ := by rw [hB_]; exact hb.size
                                  have HX_ := Lib.hid hX_
                                  have HB_ := Lib.hid hB_
                                  rw [← hX_] at hbX zb
                                  rw [← hB_] at zb
                                  clear hX_ hB_ hb
                                  rw [← HX_.out, ← HB_.out]
                                  obtain ⟨q0, q1, q2, q3, q4, q5, qh⟩ := HF.out X_ hbX
                                  obtain ⟨z0, z1, g0, g1⟩ := zb.cells
                                  go_cut [339] (fun s wx => s = .bool false ∧ BoxS wx B_ Ps.x Ps.y ∧ Below w21.heap.size w21 wx)
                                  case first =>
                                    have hcf : Hid (mgConf Ps Px Py = (decide (Px ≠ Ps) && decide (Py ≠ Ps) && decide (Px ≠ Py))) := rfl
                                    by_cases k1 : Px = Py
                                    · skip
                                      as_aux_lemma =>
                                        obtain ⟨a1, a2, a3, a4⟩ := spt_eq4 k1
                                        have hf : mgConf Ps Px Py = false := by rw [hcf.out, k1]; simp
                                        rw [hf] at qh
                                        clear hf hcf k1
                                        go_quiet ((with_reducible exact qh _))
                                        go_wp2_with fail
                                        go_meet
                                        exact ⟨rfl, zb.drwN _, hbX.drewN _⟩
                                    · have a1 := spt_ne_if k1
                                      by_cases k2 : Px = Ps
                                      · skip
                                        as_aux_lemma =>
                                          obtain ⟨d1, d2, d3, d4⟩ := spt_eq4 k2
                                          have hf : mgConf Ps Px Py = false := by rw [hcf.out, k2]; simp
                                          rw [hf] at qh
                                          clear hf hcf k1 k2
                                          go_quiet ((with_reducible exact qh _))
                                          go_wp2_with fail
                                          go_meet
                                          exact ⟨rfl, zb.drwN _, hbX.drewN _⟩
                                      · have d1 := spt_ne_if k2
                                        by_cases k3 : Py = Ps
                                        · skip
                                          as_aux_lemma =>
                                            obtain ⟨e1, e2, e3, e4⟩ := spt_eq4 k3
                                            have hf : mgConf Ps Px Py = false := by rw [hcf.out, k3]; simp
                                            rw [hf] at qh
                                            clear hf hcf k1 k2 k3
                                            go_quiet ((with_reducible exact qh _))
                                            go_wp2_with fail
                                            go_meet
                                            exact ⟨rfl, zb.drwN _, hbX.drewN _⟩
                                        · skip
                                          as_aux_lemma =>
                                            have e1 := spt_ne_if k3
                                            have hf : mgConf Ps Px Py = true := by rw [hcf.out, decide_eq_true k1, decide_eq_true k2, decide_eq_true k3]; simp
                                            rw [hf] at qh
                                            clear hf hcf k1 k2 k3
                                            go_quiet ((with_reducible exact qh _))
                                            go_wp2_with fail
                                            go_meet
                                            exact ⟨rfl, zb.drwN _, hbX.drewN _⟩
                                  case rest =>
                                    obtain ⟨rfl, zb2, hb2⟩ := hcut
                                    clear zb hbX q0 q1 q2 q3 q4 q5 qh z0 z1 g0 g1
                                    obtain ⟨Y_, hY_⟩ : ∃ W : World, W = wc := ⟨_, rfl⟩
                                    subst hY_
                                    cases okk
                                    case false =>
                                      as_aux_lemma =>
                                        go_wp2_with fail
                                        go_roundw
                                        case rel => exact ⟨n + 1, by omega, by go_num, hb2⟩
                                        case measure => simp [intOf]; omega
                                    case true =>
                                      as_aux_lemma =>
                                        obtain ⟨-, -, hlM, hmg⟩ := HO.out (by trivial)
                                        have hm9 : n < M.length := by omega
                                        have i2 : (n : Int) < (M.length : Int) := by omega
                                        have kmg := hmg n hlt
                                        clear hmg hlM
                                        rw [← HPs.out, ← HPx.out, ← HPy.out] at kmg
                                        obtain ⟨bM, sM, hhM, -, -⟩ := spt_at (rM.out.below hb2 (Nat.le_refl _)) n hm9
                                        subst hhM
                                        obtain ⟨Pm, hPm⟩ : ∃ z, z = gx sptRec M n := ⟨_, rfl⟩
                                        rw [← hPm] at kmg
                                        have KM := Lib.hid kmg
                                        clear kmg
                                        have Fm2 : ∀ W, Below w21.heap.size w21 W → W.cell? ⟨bM, sM + n * 2, none⟩ = some (.int .i64 Pm.x) ∧ W.cell? ⟨bM, sM + n * 2 + 1, none⟩ = some (.int .i64 Pm.y) := fun W hW => by
                                          obtain ⟨bM9, sM9, hhM, k0M, k1M⟩ := spt_at (rM.out.below hW (Nat.le_refl _)) n hm9
                                          injection hhM with hhM
                                          injection hhM with hh1M hh2M
                                          subst hh1M hh2M
                                          rw [← hPm] at k0M k1M
                                          exact ⟨k0M, k1M⟩
                                        have FM := Lib.hid Fm2
                                        clear Fm2 hPm hm9
                                        obtain ⟨z0, z1, g0, g1⟩ := zb2.cells
                                        have hs2 := hb2.size
                                        go_upto_region 34 with fail
                                        have hb3 := hb2.alloc hb2.size (.cells #[.int .i64 Ps.x, .int .i64 Ps.y] 42)
                                        have ze := BoxS.new Y_ Ps.x Ps.y
                                        have zd := zb2.al (.cells #[.int .i64 Ps.x, .int .i64 Ps.y] 42)
                                        obtain ⟨X2, hX2⟩ : ∃ X, X = Y_.alloc (.cells #[.int .i64 Ps.x, .int .i64 Ps.y] 42) := ⟨_, rfl⟩
                                        obtain ⟨B2, hB2⟩ : ∃ X, X = Y_.heap.size := ⟨_, rfl⟩
                                        have hBK2 : w21.heap.size ≤ B2 := by rw [hB2]; exact hb2.size
                                        have hne2 : B_ ≠ B2 := by have := zb2.lt; omega
                                        have hne3 : B2 ≠ B_ := fun h => hne2 h.symm
                                        have HX2 := Lib.hid hX2
                                        have HB2 := Lib.hid hB2
                                        rw [← hX2] at hb3 ze zd
                                        rw [← hB2] at ze
                                        clear hX2 hB2 hb2 zb2 z0 z1 g0 g1 hs2
                                        rw [← HX2.out, ← HB2.out]
                                        obtain ⟨q0, q1, q2, q3, q4, q5, qh⟩ := HF.out X2 hb3
                                        clear qh
                                        obtain ⟨z0, z1, g0, g1⟩ := zd.cells
                                        obtain ⟨y0, y1, f0, f1⟩ := ze.cells
                                        go_cut [359] (fun s wx => s = .bool (decide (Py = Ps ∨ Px = Py)) ∧ BoxS wx B_ Ps.x Ps.y ∧ BoxS wx B2 Ps.x Ps.y ∧ Below w21.heap.size w21 wx)
                                        case first =>
                                          by_cases k1 : Py = Ps
                                          · skip
                                            as_aux_lemma =>
                                              obtain ⟨a1, a2, a3, a4⟩ := spt_eq4 k1
                                              have hf := Lib.hid (decide_eq_true (p := (Py = Ps ∨ Px = Py)) (.inl k1))
                                              clear k1
                                              go_quiet (fail)
                                              go_wp2_with fail
                                              go_meet
                                              exact ⟨by rw [hf.out], zd.drwN _, ze.drwN _, hb3.drewN _⟩
                                          · have a1 := spt_ne_if k1
                                            by_cases k2 : Px = Py
                                            · skip
                                              as_aux_lemma =>
                                                obtain ⟨d1, d2, d3, d4⟩ := spt_eq4 k2
                                                have hf := Lib.hid (decide_eq_true (p := (Py = Ps ∨ Px = Py)) (.inr k2))
                                                clear k1 k2
                                                go_quiet (fail)
                                                go_wp2_with fail
                                                go_meet
                                                exact ⟨by rw [hf.out], zd.drwN _, ze.drwN _, hb3.drewN _⟩
                                            · skip
                                              as_aux_lemma =>
                                                have d1 := spt_ne_if k2
                                                have hf := Lib.hid (decide_eq_false (p := (Py = Ps ∨ Px = Py)) (by rintro (h7 | h7); exact k1 h7; exact k2 h7))
                                                clear k1 k2
                                                go_quiet (fail)
                                                go_wp2_with fail
                                                go_meet
                                                exact ⟨by rw [hf.out], zd.drwN _, ze.drwN _, hb3.drewN _⟩
                                        case rest =>
                                          obtain ⟨rfl, zd5, ze5, hb5⟩ := hcut
                                          clear zd ze hb3 q0 q1 q2 q3 q4 q5 z0 z1 g0 g1 y0 y1 f0 f1
                                          obtain ⟨X5, hX5⟩ : ∃ W : World, W = wc := ⟨_, rfl⟩
                                          subst hX5
                                          cases hc : decide (Py = Ps ∨ Px = Py)
                                          case true =>
                                            have hm : Pm = Px := by rw [KM.out]; unfold mgSpot; exact if_pos (by rcases of_decide_eq_true hc with h | h; exact .inr h; exact .inl h)
                                            clear hc
                                            obtain ⟨q0, q1, q2, q3, q4, q5, qh⟩ := HF.out X5 hb5
                                            clear qh
                                            obtain ⟨y0, y1, f0, f1⟩ := ze5.cells
                                            have hb7 := (hb5.setCell (p := ⟨B2, 0, none⟩) hBK2 (.int .i64 Px.x)).setCell (p := ⟨B2, 1, none⟩) hBK2 (.int .i64 Px.y)
                                            have ze7 := ze5.set Px.x Px.y
                                            obtain ⟨X7, hX7⟩ : ∃ X, X = (X5.setCell ⟨B2, 0, none⟩ (.int .i64 Px.x)).setCell ⟨B2, 1, none⟩ (.int .i64 Px.y) := ⟨_, rfl⟩
                                            have HX7 := Lib.hid hX7
                                            rw [← hX7] at hb7 ze7
                                            clear hX7
                                            go_upto_region 38 with fail
                                            rw [← HX7.out]
                                            clear q0 q1 q2 q3 q4 q5 y0 y1 f0 f1 ze5 zd5
                                            obtain ⟨q0, q1, q2, q3, q4, q5, qh⟩ := HF.out X7 hb7
                                            clear qh
                                            obtain ⟨y0, y1, f0, f1⟩ := ze7.cells
                                            obtain ⟨p0, p1⟩ := FM.out X7 hb7
                                            rw [hm] at p0 p1
                                            clear hm
                                            go_quiet (fail)
                                            go_wp2_with fail
                                            go_roundw
                                            case rel => exact ⟨n + 1, by omega, by go_num, hb7.drewN _⟩
                                            case measure => simp [intOf]; omega
                                          case false =>
                                            have hnc := Lib.hid (of_decide_eq_false hc)
                                            clear hc
                                            obtain ⟨q0, q1, q2, q3, q4, q5, qh⟩ := HF.out X5 hb5
                                            clear qh
                                            obtain ⟨z0, z1, g0, g1⟩ := zd5.cells
                                            go_upto_region 36 with fail
                                            go_cut [369] (fun s wx => s = .bool (decide (Px = Ps)) ∧ BoxS wx B_ Ps.x Ps.y ∧ BoxS wx B2 Ps.x Ps.y ∧ Below w21.heap.size w21 wx)
                                            case first =>
                                              by_cases k1 : Px = Ps
                                              · skip
                                                as_aux_lemma =>
                                                  obtain ⟨a1, a2, a3, a4⟩ := spt_eq4 k1
                                                  have hf := Lib.hid (decide_eq_true (p := (Px = Ps)) k1)
                                                  clear k1
                                                  go_quiet (fail)
                                                  go_wp2_with fail
                                                  go_meet
                                                  exact ⟨by rw [hf.out], zd5.drwN _, ze5.drwN _, hb5.drewN _⟩
                                              · skip
                                                as_aux_lemma =>
                                                  have a1 := spt_ne_if k1
                                                  have hf := Lib.hid (decide_eq_false (p := (Px = Ps)) k1)
                                                  clear k1
                                                  go_quiet (fail)
                                                  go_wp2_with fail
                                                  go_meet
                                                  exact ⟨by rw [hf.out], zd5.drwN _, ze5.drwN _, hb5.drewN _⟩
                                            case rest =>
                                              obtain ⟨rfl, zd6, ze6, hb6⟩ := hcut
                                              clear zd5 ze5 hb5 q0 q1 q2 q3 q4 q5 z0 z1 g0 g1
                                              obtain ⟨X6, hX6⟩ : ∃ W : World, W = wc := ⟨_, rfl⟩
                                              subst hX6
                                              cases hc : decide (Px = Ps)
                                              case true =>
                                                have hm : Pm = Py := by rw [KM.out]; unfold mgSpot; rw [if_neg (fun h => hnc.out (h.symm)), if_pos (of_decide_eq_true hc)]
                                                clear hc
                                                obtain ⟨q0, q1, q2, q3, q4, q5, qh⟩ := HF.out X6 hb6
                                                clear qh
                                                obtain ⟨y0, y1, f0, f1⟩ := ze6.cells
                                                have hb7 := (hb6.setCell (p := ⟨B2, 0, none⟩) hBK2 (.int .i64 Py.x)).setCell (p := ⟨B2, 1, none⟩) hBK2 (.int .i64 Py.y)
                                                have ze7 := ze6.set Py.x Py.y
                                                obtain ⟨X7, hX7⟩ : ∃ X, X = (X6.setCell ⟨B2, 0, none⟩ (.int .i64 Py.x)).setCell ⟨B2, 1, none⟩ (.int .i64 Py.y) := ⟨_, rfl⟩
                                                have HX7 := Lib.hid hX7
                                                rw [← hX7] at hb7 ze7
                                                clear hX7
                                                go_upto_region 38 with fail
                                                rw [← HX7.out]
                                                clear q0 q1 q2 q3 q4 q5 y0 y1 f0 f1 ze6 zd6
                                                obtain ⟨q0, q1, q2, q3, q4, q5, qh⟩ := HF.out X7 hb7
                                                clear qh
                                                obtain ⟨y0, y1, f0, f1⟩ := ze7.cells
                                                obtain ⟨p0, p1⟩ := FM.out X7 hb7
                                                rw [hm] at p0 p1
                                                clear hm
                                                go_quiet (fail)
                                                go_wp2_with fail
                                                go_roundw
                                                case rel => exact ⟨n + 1, by omega, by go_num, hb7.drewN _⟩
                                                case measure => simp [intOf]; omega
                                              case false =>
                                                have hm : Pm = Ps := by rw [KM.out]; unfold mgSpot; rw [if_neg (fun h => hnc.out (h.symm)), if_neg (of_decide_eq_false hc)]
                                                clear hc
                                                go_upto_region 38 with fail
                                                obtain ⟨q0, q1, q2, q3, q4, q5, qh⟩ := HF.out X6 hb6
                                                clear qh
                                                obtain ⟨y0, y1, f0, f1⟩ := ze6.cells
                                                obtain ⟨p0, p1⟩ := FM.out X6 hb6
                                                rw [hm] at p0 p1
                                                clear hm
                                                go_quiet (fail)
                                                go_wp2_with fail
                                                go_roundw
                                                case rel => exact ⟨n + 1, by omega, by go_num, hb6.drewN _⟩
                                                case measure => simp [intOf]; omega
                                · obtain rfl : n = l.length := by omega
                                  obtain ⟨w22, hw22⟩ : ∃ w9 : World, w9 = wr := ⟨_, rfl⟩
                                  subst hw22
                                  have b22 := hb
                                  clear hb
                                  have C := Lib.hid (implMerged _ _ _ l a a w22 (rl.out.below b22 (Nat.le_refl _)) (ra.out.below b22 (Nat.le_refl _)) (ra.out.below b22 (Nat.le_refl _)))
                                  rw [E5.out] at C
                                  go_wp2_with fail
                                  refine C.out.mono ?_; rintro e w23 ⟨u14, v14, rfl, o14, p14, _, b23⟩
                                  clear C
                                  as_aux_lemma =>
                                    have o14w : OwnRow sptRec w23 w22.heap.size u14 x := o14
                                    have p14w : OwnInts w23 w22.heap.size v14 [] := p14
                                    obtain ⟨AN, cN, hvN, hnN, hcN⟩ := p14w.reads.shape
                                    subst hvN
                                    have C := Lib.hid (qSpots_yes _ _ x w23 o14w.reads (rX.out.below (b22.next (Nat.le_refl _) b23) (Nat.le_refl _)))
                                    go_wp2_with fail
                                    refine C.out.mono ?_; rintro e w24 ⟨rfl, b24⟩
                                    clear C
                                    go_wp2_with fail
                                    go_meet
                                    exact hZ.out.next (Nat.le_refl _) ((b22.next (Nat.le_refl _) b23).next (Nat.le_refl _) b24)
                      case rest =>
                        as_aux_lemma =>
                          obtain ⟨w13, hw13⟩ : ∃ w9 : World, w9 = wc := ⟨_, rfl⟩
                          subst hw13
                          have b13 := hcut
                          clear hcut
                          cases okk
                          case false =>
                            go_wp2_with fail
                            go_ret
                            exact ⟨rfl, ((((((((((((b1.next (Nat.le_refl _) b2).next (Nat.le_refl _) b3).next (Nat.le_refl _) b4).next (Nat.le_refl _) b5).next (Nat.le_refl _) b6).next (Nat.le_refl _) b7).next (Nat.le_refl _) b8).next (Nat.le_refl _) b9).next (Nat.le_refl _) b10).next (Nat.le_refl _) b11).next (Nat.le_refl _) b12).next (Nat.le_refl _) b13)⟩
                          case true =>
                            have CM := Lib.hid (HO.out (by trivial)).2.1
                            have C := Lib.hid (implIsChart _ M w13 (o2.reads.below ((((((((((b3.next (Nat.le_refl _) b4).next (Nat.le_refl _) b5).next (Nat.le_refl _) b6).next (Nat.le_refl _) b7).next (Nat.le_refl _) b8).next (Nat.le_refl _) b9).next (Nat.le_refl _) b10).next (Nat.le_refl _) b11).next (Nat.le_refl _) b12).next (Nat.le_refl _) b13) (Nat.le_refl _)))
                            rw [CM.out] at C
                            go_wp2_with fail
                            refine C.out.mono ?_; rintro e w14 ⟨rfl, b14⟩
                            clear C
                            go_wp2_with fail
                            go_ret
                            exact ⟨rfl, (((((((((((((b1.next (Nat.le_refl _) b2).next (Nat.le_refl _) b3).next (Nat.le_refl _) b4).next (Nat.le_refl _) b5).next (Nat.le_refl _) b6).next (Nat.le_refl _) b7).next (Nat.le_refl _) b8).next (Nat.le_refl _) b9).next (Nat.le_refl _) b10).next (Nat.le_refl _) b11).next (Nat.le_refl _) b12).next (Nat.le_refl _) b13).next (Nat.le_refl _) b14)⟩
end Go.Proofs.Ytnkbopnmfoplfaa
