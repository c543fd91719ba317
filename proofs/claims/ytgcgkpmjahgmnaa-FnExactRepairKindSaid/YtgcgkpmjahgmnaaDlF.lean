/- Contract: the delays with the least sum, in the program. -/
import Derived.Test.YtgcgkpmjahgmnaaDlG
set_option linter.unusedSimpArgs false
set_option linter.unusedVariables false
namespace Go.Proofs.Ytgcgkpmjahgmnaa
open Go.RowKit Go.Sort

/-- Who comes too close to whom, by delays. -/
def clOf (T : Tr) (L : Int) : Cl := fun i k a b => closeB (mvOf T i) (mvOf T k) a b L
def dl (T : Tr) (L : Int) : Option (List Int) := delR (clOf T L) T.f.length
/-- What leastDelays returns. -/
def DelPost (w : World) (st : Option (List Int)) (e : Ending) (w' : World) : Prop := ∃ (v : Value) (sm : Int), e = .returned (.tuple #[v, .int .i64 sm]) ∧ Below w.heap.size w w' ∧
  (match st with | none => v = .slice none 0 0 ∧ sm = 0 | some l => (∃ g n c, v = .slice (some ⟨g, 0, none⟩) n c) ∧ OwnInts w' w.heap.size v l ∧ sm = sumI l)
set_option maxRecDepth 100000 in
set_option maxHeartbeats 12800000 in
theorem leastDelays_any (f t p : Value) (T : Tr) (L : Int) (w : World) (h : TrAt w f t p T) (hT : isRp T = true) (hL0 : 0 ≤ L) (hL : L ≤ 80) :
    Calls Try.prog 34 #[.agg #[f, t, .int .i64 T.c, p], .int .i64 L] w (DelPost w (dl T L)) := by
  obtain ⟨i1, i2, i3, i4⟩ := isRp_t hT
  have hpl := (isMat_t (isTr_t i1).2.2.2.2.2).1
  have bX := (Below.refl w.heap.size w).alloc (Nat.le_refl _) (.cells #[f, t, .int .i64 T.c, p] 31)
  have zT := BoxT.new 31 w f t T.c p
  obtain ⟨W, hW⟩ : ∃ W : World, W = w.alloc (.cells #[f, t, .int .i64 T.c, p] 31) := ⟨_, rfl⟩
  rw [← hW] at bX zT
  have HW := Lib.hid hW
  have ZT := Lib.hid zT
  clear hW zT
  have CM := Lib.hid (movesOf_any f t p T W (h.below bX (Nat.le_refl _)) i1)
  have HG := Lib.hid (fun i (hi : i < T.p.length) => mvOf_good i1 i2 (i := i) (by rw [← hpl]; exact hi))
  obtain ⟨N, hN⟩ : ∃ N, N = T.p.length := ⟨_, rfl⟩
  have h1 : T.f.length = N := by rw [hN]; exact hpl.symm
  have hml : (mvsOf T).length = N := by rw [mvsOf_len]; exact hN.symm
  have hgx : ∀ i, i < N → gx mvRec (mvsOf T) i = mvOf T i := fun i hi => gx_mvsOf (by rw [← hN]; exact hi)
  have hdl : Hid (dl T L = goOnP (clOf T L) N [] none) := by show _ = _; unfold dl delR; rw [h1]
  rw [h1] at i3 i4
  have HB := Lib.hid bX
  have HL := Lib.hid hml
  have HX := Lib.hid hgx
  have HN := Lib.hid hN
  clear hN h1 hml hgx hpl bX h i1 i2 hT
  go_enter Try.func34, Try.ntmps34
  go_upto_region 1 with fail
  rw [← HW.out]
  obtain ⟨a0, a1, a2, a3⟩ := ZT.out.cells
  go_wp2_with fail
  refine CM.out.mono ?_; rintro e w1 ⟨mv, rfl, om, b1⟩
  have bb1 := HB.out.next (Nat.le_refl _) b1
  have om1 := om.reads
  clear a0 a1 a2 a3 om
  obtain ⟨Am, cm, rfl, gm, hcm⟩ := om1.shape
  rw [HL.out] at om1 gm
  rw [HL.out]
  have zD := DsAt.new w1 (tbOf (clOf T L)) N
  have bD := (Below.refl w1.heap.size w1).alloc (Nat.le_refl _) (.cells (Try.zeroCells90.setIfInBounds 900 (.int .i64 (N : Int))) 90)
  obtain ⟨B, hB⟩ : ∃ B, B = w1.heap.size := ⟨_, rfl⟩
  obtain ⟨W1, hW1⟩ : ∃ W9 : World, W9 = w1.alloc (.cells (Try.zeroCells90.setIfInBounds 900 (.int .i64 (N : Int))) 90) := ⟨_, rfl⟩
  rw [← hW1, ← hB] at zD
  rw [← hW1] at bD
  have HW1 := Lib.hid hW1
  go_upto_region 3 with fail
  rw [← HW1.out]
  rw [← hB]
  have HOM := Lib.hid om1
  have HBB := Lib.hid bb1
  have HSB := Lib.hid hB
  have ZD := Lib.hid zD
  have BD := Lib.hid bD
  clear hB hW1 om1 b1 bb1 CM HB ZT HW HL zD bD
  go_wp2_with fail
  go_loopw [20] (fun i wr => ∃ n : Nat, n ≤ N ∧ i = .int .i64 n ∧ DsAt wr B (tbOf (clOf T L)) N (ix n 0 0 0) (.slice none 0 0) 0 ∧ Below w1.heap.size w1 wr) (fun i _ => N - (intOf i).toNat)
  case atStart => exact ⟨0, Nat.zero_le _, rfl, ZD.out, BD.out⟩
  case round =>
    obtain ⟨n, hn, rfl, hd, hb⟩ := hrel
    obtain ⟨w2, hw2⟩ : ∃ w9, w9 = wr := ⟨_, rfl⟩
    subst hw2
    by_cases hlt : n < N
    · have gn := HG.out n (by rw [← HN.out]; exact hlt)
      have hmn := HX.out n hlt
      obtain ⟨fx, hfx⟩ : ∃ z, z = (mvOf T n).fx := ⟨_, rfl⟩
      obtain ⟨fy, hfy⟩ : ∃ z, z = (mvOf T n).fy := ⟨_, rfl⟩
      obtain ⟨tx, htx⟩ : ∃ z, z = (mvOf T n).tx := ⟨_, rfl⟩
      obtain ⟨ty, hty⟩ : ∃ z, z = (mvOf T n).ty := ⟨_, rfl⟩
      have en : mvOf T n = ⟨fx, fy, tx, ty, T.c⟩ := by rw [hfx, hfy, htx, hty]; rfl
      rw [en] at hmn gn
      have HMN := Lib.hid hmn
      have GN := Lib.hid gn
      have EN := Lib.hid en
      clear hmn gn en hfx hfy htx hty
      have hn6 : n < 6 := by omega
      have hd1 := hd.to (c' := ix n (n + 1) 0 0) (fun i k p q a1 a2 a3 a4 a5 => by unfold ix at a5 ⊢; omega)
      clear hd
      go_wp2_with fail
      go_loopw [9] (fun i wr => ∃ k : Nat, n + 1 ≤ k ∧ k ≤ N ∧ i = .int .i64 k ∧ DsAt wr B (tbOf (clOf T L)) N (ix n k 0 0) (.slice none 0 0) 0 ∧ Below w1.heap.size w1 wr) (fun i _ => N - (intOf i).toNat)
      case atStart => exact ⟨n + 1, Nat.le_refl _, hlt, by go_num, hd1, hb⟩
      case round =>
        obtain ⟨k, hnk, hk, rfl, hdk, hbk⟩ := hrel
        clear hb hd1
        obtain ⟨w3, hw3⟩ : ∃ w9, w9 = wr := ⟨_, rfl⟩
        subst hw3
        by_cases hlk : k < N
        · have gk := HG.out k (by rw [← HN.out]; exact hlk)
          have hmk := HX.out k hlk
          obtain ⟨gxx, hgx⟩ : ∃ z, z = (mvOf T k).fx := ⟨_, rfl⟩
          obtain ⟨gy, hgy⟩ : ∃ z, z = (mvOf T k).fy := ⟨_, rfl⟩
          obtain ⟨ux, hux⟩ : ∃ z, z = (mvOf T k).tx := ⟨_, rfl⟩
          obtain ⟨uy, huy⟩ : ∃ z, z = (mvOf T k).ty := ⟨_, rfl⟩
          have ek : mvOf T k = ⟨gxx, gy, ux, uy, T.c⟩ := by rw [hgx, hgy, hux, huy]; rfl
          rw [ek] at hmk gk
          have HMK := Lib.hid hmk
          have GK := Lib.hid gk
          have EK := Lib.hid ek
          clear hmk gk ek hgx hgy hux huy
          have hk6 : k < 6 := by omega
          go_wp2_with fail
          go_loopw [10] (fun i wr => ∃ x : Nat, x ≤ 5 ∧ i = .int .i64 x ∧ DsAt wr B (tbOf (clOf T L)) N (ix n k x 0) (.slice none 0 0) 0 ∧ Below w1.heap.size w1 wr) (fun i _ => 5 - (intOf i).toNat)
          case atStart => exact ⟨0, Nat.zero_le _, rfl, hdk, hbk⟩
          case round =>
            obtain ⟨x, hx, rfl, hdx, hbx⟩ := hrel
            clear hdk hbk
            obtain ⟨w4, hw4⟩ : ∃ w9, w9 = wr := ⟨_, rfl⟩
            subst hw4
            by_cases hlx : x < 5
            · have hx4 : (x : Int) ≤ 4 := by omega
              go_wp2_with fail
              go_loopw [11] (fun i wr => ∃ y : Nat, y ≤ 5 ∧ i = .int .i64 y ∧ DsAt wr B (tbOf (clOf T L)) N (ix n k x y) (.slice none 0 0) 0 ∧ Below w1.heap.size w1 wr) (fun i _ => 5 - (intOf i).toNat)
              case atStart => exact ⟨0, Nat.zero_le _, rfl, hdx, hbx⟩
              case round =>
                obtain ⟨y, hy, rfl, hdy, hby⟩ := hrel
                clear hdx hbx
                by_cases hly : y < 5
                · have hy4 : (y : Int) ≤ 4 := by omega
                  have hpc : tbOf (clOf T L) n k x y = closeB ⟨fx, fy, tx, ty, T.c⟩ ⟨gxx, gy, ux, uy, T.c⟩ (x : Int) (y : Int) L := by
                    show closeB (mvOf T n) (mvOf T k) (x : Int) (y : Int) L = _
                    rw [EN.out, EK.out]
                  have CC := Lib.hid (fun W9 => closeDelayed_any fx fy tx ty gxx gy ux uy T.c (x : Int) (y : Int) L W9 GN.out GK.out (by omega) hx4 (by omega) hy4 hL0 hL)
                  rw [← hpc] at CC
                  obtain ⟨R, hR⟩ : ∃ R, R = tbOf (clOf T L) n k x y := ⟨_, rfl⟩
                  rw [← hR] at CC
                  have HRR := Lib.hid hR
                  clear hpc hR
                  obtain ⟨bm, om_, rfl, m0, m1, m2, m3, m4⟩ := mv_at (n := N) HOM.out n (by rw [mvsOf_len, ← HN.out]; exact hlt)
                  obtain ⟨bm', om_', heq, l0, l1, l2, l3, l4⟩ := mv_at (n := N) HOM.out k (by rw [mvsOf_len, ← HN.out]; exact hlk)
                  injection heq with heq
                  injection heq with e1 e2
                  subst e1 e2
                  rw [HMN.out] at m0 m1 m2 m3 m4
                  rw [HMK.out] at l0 l1 l2 l3 l4
                  simp only at m0 m1 m2 m3 m4 l0 l1 l2 l3 l4
                  have Hm0 := Lib.hid m0
                  replace m0 := Below.keepCell hby Hm0.out (Nat.le_refl _)
                  have Hm1 := Lib.hid m1
                  replace m1 := Below.keepCell hby Hm1.out (Nat.le_refl _)
                  have Hm2 := Lib.hid m2
                  replace m2 := Below.keepCell hby Hm2.out (Nat.le_refl _)
                  have Hm3 := Lib.hid m3
                  replace m3 := Below.keepCell hby Hm3.out (Nat.le_refl _)
                  have Hm4 := Lib.hid m4
                  replace m4 := Below.keepCell hby Hm4.out (Nat.le_refl _)
                  have Hl0 := Lib.hid l0
                  replace l0 := Below.keepCell hby Hl0.out (Nat.le_refl _)
                  have Hl1 := Lib.hid l1
                  replace l1 := Below.keepCell hby Hl1.out (Nat.le_refl _)
                  have Hl2 := Lib.hid l2
                  replace l2 := Below.keepCell hby Hl2.out (Nat.le_refl _)
                  have Hl3 := Lib.hid l3
                  replace l3 := Below.keepCell hby Hl3.out (Nat.le_refl _)
                  have Hl4 := Lib.hid l4
                  replace l4 := Below.keepCell hby Hl4.out (Nat.le_refl _)
                  have hBB : w1.heap.size ≤ B := Nat.le_of_eq HSB.out.symm
                  go_upto_region 15 with fail
                  have D0 := (Below.refl wr.heap.size wr).drew
                  have hoff : ix n k x y = n * 150 + k * 25 + x * 5 + y := rfl
                  have HO := Lib.hid hoff
                  have hlt9 : ix n k x y < 900 := by unfold ix; omega
                  have HD9 := Lib.hid hdy
                  have v1 : (0 : Int) ≤ (n : Int) := by omega
                  have v2 : (0 : Int) ≤ (k : Int) := by omega
                  have v3 : (0 : Int) ≤ (x : Int) := by omega
                  have v4 : (0 : Int) ≤ (y : Int) := by omega
                  have v5 : (n : Int) < 6 := by omega
                  have v6 : (k : Int) < 6 := by omega
                  have v7 : (x : Int) < 5 := by omega
                  have v8 : (y : Int) < 5 := by omega
                  have v9 : (n : Int) < (N : Int) := by omega
                  have v10 : (k : Int) < (N : Int) := by omega
                  clear hoff hdy
                  (first | (go_region_held3 (fun w' => w'.cell? ⟨bm, om_ + n * 5, none⟩ = some (.int .i64 fx) ∧ w'.cell? ⟨bm, om_ + n * 5 + 1, none⟩ = some (.int .i64 fy) ∧ w'.cell? ⟨bm, om_ + n * 5 + 2, none⟩ = some (.int .i64 tx) ∧ w'.cell? ⟨bm, om_ + n * 5 + 3, none⟩ = some (.int .i64 ty) ∧ w'.cell? ⟨bm, om_ + n * 5 + 4, none⟩ = some (.int .i64 T.c) ∧ w'.cell? ⟨bm, om_ + k * 5, none⟩ = some (.int .i64 gxx) ∧ w'.cell? ⟨bm, om_ + k * 5 + 1, none⟩ = some (.int .i64 gy) ∧ w'.cell? ⟨bm, om_ + k * 5 + 2, none⟩ = some (.int .i64 ux) ∧ w'.cell? ⟨bm, om_ + k * 5 + 3, none⟩ = some (.int .i64 uy) ∧ w'.cell? ⟨bm, om_ + k * 5 + 4, none⟩ = some (.int .i64 T.c))
                    (first | go_keep | exact ⟨Below.keepCell dA Hm0.out (Nat.le_refl _), Below.keepCell dA Hm1.out (Nat.le_refl _), Below.keepCell dA Hm2.out (Nat.le_refl _), Below.keepCell dA Hm3.out (Nat.le_refl _), Below.keepCell dA Hm4.out (Nat.le_refl _), Below.keepCell dA Hl0.out (Nat.le_refl _), Below.keepCell dA Hl1.out (Nat.le_refl _), Below.keepCell dA Hl2.out (Nat.le_refl _), Below.keepCell dA Hl3.out (Nat.le_refl _), Below.keepCell dA Hl4.out (Nat.le_refl _)⟩ | exact ⟨Below.keepCell (dA.setCell (p := ⟨B, n * 150 + k * 25 + x * 5 + y, none⟩) hBB _) Hm0.out (Nat.le_refl _), Below.keepCell (dA.setCell (p := ⟨B, n * 150 + k * 25 + x * 5 + y, none⟩) hBB _) Hm1.out (Nat.le_refl _), Below.keepCell (dA.setCell (p := ⟨B, n * 150 + k * 25 + x * 5 + y, none⟩) hBB _) Hm2.out (Nat.le_refl _), Below.keepCell (dA.setCell (p := ⟨B, n * 150 + k * 25 + x * 5 + y, none⟩) hBB _) Hm3.out (Nat.le_refl _), Below.keepCell (dA.setCell (p := ⟨B, n * 150 + k * 25 + x * 5 + y, none⟩) hBB _) Hm4.out (Nat.le_refl _), Below.keepCell (dA.setCell (p := ⟨B, n * 150 + k * 25 + x * 5 + y, none⟩) hBB _) Hl0.out (Nat.le_refl _), Below.keepCell (dA.setCell (p := ⟨B, n * 150 + k * 25 + x * 5 + y, none⟩) hBB _) Hl1.out (Nat.le_refl _), Below.keepCell (dA.setCell (p := ⟨B, n * 150 + k * 25 + x * 5 + y, none⟩) hBB _) Hl2.out (Nat.le_refl _), Below.keepCell (dA.setCell (p := ⟨B, n * 150 + k * 25 + x * 5 + y, none⟩) hBB _) Hl3.out (Nat.le_refl _), Below.keepCell (dA.setCell (p := ⟨B, n * 150 + k * 25 + x * 5 + y, none⟩) hBB _) Hl4.out (Nat.le_refl _)⟩)
                    ((go_at_call 54; (with_reducible refine (CC.out _).mono ?_); rintro e w9 ⟨rfl, b9⟩; have dA := hby.drew.next (Nat.le_refl _) b9; have z9 := HD9.out.keep (D0.next (Nat.le_refl _) b9) HD9.out.lt; have y9 := z9.slot (ix n k x y) hlt9; rw [HO.out] at y9; obtain ⟨⟨u9, c9⟩, f9⟩ := y9))) | fail)
                  all_goals
                    go_wp2_with fail
                    go_roundw
                    case rel =>
                      have hp9 := z9.put (by omega) hlk i3 hlx hly
                      rw [← HRR.out] at hp9
                      exact ⟨y + 1, by omega, by go_num, hp9, dA.setCell (p := ⟨B, n * 150 + k * 25 + x * 5 + y, none⟩) hBB _⟩
                    case measure => simp [intOf]; omega
                · obtain rfl : y = 5 := by omega
                  have hd9 := hdy.to (c' := ix n k (x + 1) 0) (fun i k p q a1 a2 a3 a4 a5 => by unfold ix at a5 ⊢; omega)
                  clear hdy
                  go_wp2_with fail
                  go_roundw
                  case rel => exact ⟨x + 1, by omega, by go_num, hd9, hby⟩
                  case measure => simp [intOf]; omega
            · obtain rfl : x = 5 := by omega
              have hd9 := hdx.to (c' := ix n (k + 1) 0 0) (fun i k p q a1 a2 a3 a4 a5 => by unfold ix at a5 ⊢; omega)
              clear hdx
              go_wp2_with fail
              go_roundw
              case rel => exact ⟨k + 1, by omega, by omega, by go_num, hd9, hbx⟩
              case measure => simp [intOf]; omega
        · obtain rfl : k = N := by omega
          have hd9 := hdk.to (c' := ix (n + 1) 0 0 0) (fun i k' p q a1 a2 a3 a4 a5 => by unfold ix at a5 ⊢; omega)
          clear hdk
          go_wp2_with fail
          go_roundw
          case rel => exact ⟨n + 1, by omega, by go_num, hd9, hbk⟩
          case measure => simp [intOf]; omega
    · obtain rfl : n = N := by omega
      have hd9 := hd.to (c' := 900) (fun i k p q a1 a2 a3 a4 a5 => by unfold ix at a5 ⊢; omega)
      have hBl := hd.lt
      have be := (Below.refl w2.heap.size w2).alloc (Nat.le_refl _) (.cells #[] 3)
      have C : Hid (Calls Try.prog 55 #[.pointer (some ⟨B, 0, none⟩), .slice (some ⟨w2.heap.size, 0, none⟩) 0 0, .int .i64 0] (w2.alloc (.cells #[] 3)) (GoPost (w2.alloc (.cells #[] 3)) B (clOf T L) n (goOnP (clOf T L) n [] none))) :=
        goOn_any (clOf T L) n B i3 i4 n [] none (.slice none 0 0) _ 0 _ (by simp) (fun i hi => absurd hi (by simp)) ⟨hd9.keep be hBl, rfl, rfl⟩ (OwnInts.empty w2 (B + 1) hBl)
      have hb2 : Below w.heap.size w (w2.alloc (.cells #[] 3)) := (HBB.out.next (Nat.le_refl _) hb).trans (be.mono (Nat.le_trans HBB.out.size hb.size))
      have hwB : w.heap.size ≤ B := by rw [HSB.out]; exact HBB.out.size
      have HB2 := Lib.hid hb2
      clear hd hd9 hb be hb2
      go_wp2_with fail
      refine C.out.mono ?_; rintro e w5 ⟨rfl, a5, bv, sm, g5⟩
      have b5 : Below w.heap.size w w5 := HB2.out.trans (a5.below HB2.out.size hwB)
      obtain ⟨c0, c1, c2, c3, c4⟩ := g5.ds.cells
      have hbest := g5.best
      rw [← hdl.out] at hbest
      have HBE := Lib.hid hbest
      clear hbest g5 a5 c0 c3 c4 C
      cases hst : dl T L with
      | none =>
        rw [hst] at HBE
        obtain ⟨rfl, rfl⟩ := HBE.out
        go_wp2_with fail
        go_quiet (fail)
        go_wp2_with fail
        go_ret2
        exact ⟨_, _, rfl, b5.drewN _, by rw [hst]; exact ⟨rfl, rfl⟩⟩
      | some l =>
        rw [hst] at HBE
        obtain ⟨⟨g9, n9, c9, rfl⟩, ho9, rfl⟩ := HBE.out
        have HO9 := Lib.hid (ownsRow_lo ho9 (show w.heap.size ≤ B + 1 by omega))
        clear ho9 HBE
        go_wp2_with fail
        go_quiet (fail)
        go_wp2_with fail
        go_ret2
        exact ⟨_, _, rfl, b5.drewN _, by rw [hst]; exact ⟨⟨_, _, _, rfl⟩, HO9.out, rfl⟩⟩
end Go.Proofs.Ytgcgkpmjahgmnaa
