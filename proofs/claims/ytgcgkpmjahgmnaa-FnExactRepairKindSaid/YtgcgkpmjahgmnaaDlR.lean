/- Contracts: the delays with the least sum, in the reference. -/
import Derived.Test.YtgcgkpmjahgmnaaDlS
set_option linter.unusedSimpArgs false
set_option linter.unusedVariables false
namespace Go.Proofs.Ytgcgkpmjahgmnaa
open Go.RowKit Go.Sort

def FindPost (w : World) (B : Nat) (C : Tb) (N : Nat) (mv : Value) (L : Int) (r : Option (List Int)) (e : Ending) (w' : World) : Prop := ∃ v : Value, e = .returned v ∧ Apg B w w' ∧ RsAt w' B C N mv L ∧
  (match r with | none => v = .slice none 0 0 | some l => OwnInts w' (B + 1) v l ∧ l.length = N)
def gF (cl : Cl) (F : Nat) (ds : List Int) (s : Nat) (d : Nat) : Option (List Int) := if okAdd cl ds d then findP cl F (ds ++ [(d : Int)]) (s - d) else none
theorem findP_gF (cl : Cl) (F : Nat) (ds : List Int) (s : Nat) : findP cl (F + 1) ds s = findL (gF cl F ds s) (min s 4 + 1 - 0) 0 := rfl
theorem gF_no {cl : Cl} {F : Nat} {ds : List Int} {s d : Nat} (h : okTo_ cl ds d ds.length = false) : gF cl F ds s d = none := by
  unfold gF okAdd
  rw [h]; rfl
theorem gF_yes {cl : Cl} {F : Nat} {ds : List Int} {s d : Nat} (h : okTo_ cl ds d ds.length = true) : gF cl F ds s d = findP cl F (ds ++ [(d : Int)]) (s - d) := by
  unfold gF okAdd
  rw [h]; rfl
theorem findL_go' {g : Nat → Option (List Int)} {M j : Nat} (hj : j < M) (h : g j = none) : findL g (M - j) j = findL g (M - (j + 1)) (j + 1) := by
  rw [show M - j = (M - (j + 1)) + 1 from by omega]; exact findL_go h
theorem findL_hit' {g : Nat → Option (List Int)} {M j : Nat} {v : List Int} (hj : j < M) (h : g j = some v) : findL g (M - j) j = some v := by
  rw [show M - j = (M - (j + 1)) + 1 from by omega]; exact findL_hit h
theorem findL_0 {g : Nat → Option (List Int)} {m j : Nat} (h : m = 0) : findL g m j = none := by subst h; rfl
theorem findP_len {cl : Cl} {F : Nat} {ds v : List Int} {s : Nat} (h : findP cl F ds s = some v) : v.length = ds.length + F := by
  rw [findP_ext] at h
  exact (extD_sum cl _ _ _ (List.mem_of_find?_eq_some h)).2.1
set_option maxRecDepth 100000 in
set_option maxHeartbeats 12800000 in
theorem find_any (T : Tr) (L : Int) (hT : isRp T = true) (hL0 : 0 ≤ L) (hL : L ≤ 80) (N B : Nat) (hNT : N = T.f.length) (w1 : World) (mv : Value) (hm : RowAt mvRec w1 mv (mvsOf T)) (hwB : w1.heap.size ≤ B) (F : Nat) :
    ∀ (ds : List Int) (s : Nat) (dv : Value) (w : World), ds.length + F = N → s ≤ 24 → (∀ i, i < ds.length → 0 ≤ gi ds i ∧ gi ds i ≤ 4) → RsAt w B (tbOf (clOf T L)) N mv L → OwnInts w (B + 1) dv ds → Below w1.heap.size w1 w →
    Calls Try.prog 49 #[.pointer (some ⟨B, 0, none⟩), dv, .int .i64 (s : Int)] w (FindPost w B (tbOf (clOf T L)) N mv L (findP (clOf T L) F ds s)) := by
  have HFIT := Lib.hid (fits_any T L hT hL0 hL N B hNT w1 mv hm hwB)
  obtain ⟨i1, i2, i3, i4⟩ := isRp_t hT
  have hpl := (isMat_t (isTr_t i1).2.2.2.2.2).1
  rw [← hNT] at i3 i4 hpl
  obtain ⟨Am, cm, rfl, gm, hcm⟩ := hm.shape
  have hml : (mvsOf T).length = N := by rw [mvsOf_len]; exact hpl
  rw [hml] at HFIT gm
  rw [hml]
  clear hml hpl hm i1 i2 hT hNT
  induction F with
  | zero =>
    intro ds s dv w hF hs24 hdr hR hD hb
    obtain ⟨A, c, rfl, gd, hc⟩ := hD.reads.shape
    obtain ⟨z0, z1⟩ := hR.cells
    have HR := Lib.hid hR
    have HD := Lib.hid hD
    have hds : ds.length = N := by omega
    have HF := Lib.hid hds
    have heq : ((ds.length : Int) == (N : Int)) = true := by rw [beq_iff_eq]; omega
    clear hR hD hdr hds hF
    by_cases h0 : 0 < s
    · have HP : Hid (findP (clOf T L) 0 ds s = none) := by show _ = _; unfold findP; rw [if_pos h0]
      have h0' : (0 : Int) < (s : Int) := by omega
      go_enter Try.func49, Try.ntmps49
      go_wp2_with fail
      go_ret
      exact ⟨_, rfl, Apart.refl _ _ _, HR.out, by rw [HP.out]; rfl⟩
    · have HP : Hid (findP (clOf T L) 0 ds s = some ds) := by show _ = _; unfold findP; rw [if_neg h0]
      have h0' : ¬ (0 : Int) < (s : Int) := by omega
      go_enter Try.func49, Try.ntmps49
      go_wp2_with fail
      go_ret
      exact ⟨_, rfl, Apart.refl _ _ _, HR.out, by rw [HP.out]; exact ⟨HD.out, HF.out⟩⟩
  | succ F ih =>
    intro ds s dv w hF hs24 hdr hR hD hb
    obtain ⟨A, c, rfl, gd, hc⟩ := hD.reads.shape
    obtain ⟨z0, z1⟩ := hR.cells
    have HR := Lib.hid hR
    have HD := Lib.hid hD
    have HDR := Lib.hid hdr
    have HF := Lib.hid hF
    have hlN : ds.length < N := by omega
    have heq : ((ds.length : Int) == (N : Int)) = false := by rw [beq_eq_false_iff_ne]; omega
    have HP := Lib.hid (findP_gF (clOf T L) F ds s)
    have HBW := Lib.hid hb
    have CL := Lib.hid (fun W => l1Least_min (s : Int) 4 W)
    obtain ⟨M, hM⟩ : ∃ M, M = min s 4 := ⟨_, rfl⟩
    have hM2 : min (s : Int) 4 = (M : Int) := by omega
    rw [hM2] at CL
    have hMs : M ≤ s ∧ M ≤ 4 := by omega
    rw [← hM] at HP
    clear hR hD hdr hF hM hM2 hb
    go_enter Try.func49, Try.ntmps49
    go_wp2_with fail
    go_loopw [8] (fun i wr => ∃ j : Nat, j ≤ M + 1 ∧ i = .int .i64 j ∧ Apg B w wr ∧ RsAt wr B (tbOf (clOf T L)) N (.slice Am N cm) L ∧ Hid (findP (clOf T L) (F + 1) ds s = findL (gF (clOf T L) F ds s) (M + 1 - j) j)) (fun i _ => M + 1 - (intOf i).toNat)
    case atStart => exact ⟨0, Nat.zero_le _, rfl, Apart.refl _ _ _, HR.out, HP.out⟩
    case round =>
      obtain ⟨j, hj, rfl, ha, hr, hf⟩ := hrel
      clear z0 z1
      obtain ⟨w2, hw2⟩ : ∃ w9, w9 = wr := ⟨_, rfl⟩
      subst hw2
      by_cases hlt : j ≤ M
      · have hlt2 : (j : Int) ≤ (M : Int) := by omega
        have HR2 := Lib.hid hr
        have HA := Lib.hid ha
        clear hr ha
        go_wp2_with fail
        refine (CL.out _).mono ?_; rintro e _ ⟨rfl, rfl⟩
        go_wp2_with fail
        go_loopw [9, 33] (fun g i wr => ∃ m : Nat, m ≤ ds.length ∧ i = .int .i64 m ∧ g = .bool (okTo_ (clOf T L) ds j m) ∧ Apg B w2 wr ∧ RsAt wr B (tbOf (clOf T L)) N (.slice Am N cm) L) (fun _ i _ => ds.length - (intOf i).toNat)
        case atStart => exact ⟨0, Nat.zero_le _, rfl, rfl, Apart.refl _ _ _, HR2.out⟩
        case round =>
          obtain ⟨m, hm, rfl, rfl, ha3, hr3⟩ := hrel
          by_cases hlm : m < ds.length
          · have hD3 := (HD.out.apt (HA.out.trans ha3) (Nat.le_refl _)).reads
            obtain ⟨b0, o0, heqA, hcm'⟩ := IntsAt.at_ hD3 m hlm
            subst heqA
            obtain ⟨r1, r2⟩ := HDR.out m hlm
            obtain ⟨x, hx⟩ := Int.eq_ofNat_of_zero_le r1
            rw [hx] at hcm' r2
            have hx5 : x < 5 := by omega
            have hs := okTo_s (clOf T L) ds j m
            rw [hx] at hs
            have HS := Lib.hid hs
            have b3 : Below w1.heap.size w1 wr := HBW.out.trans ((HA.out.trans ha3).below HBW.out.size hwB)
            have CF := Lib.hid (HFIT.out m ds.length x j hlm hlN hx5 (by omega) wr hr3 b3)
            have HA3 := Lib.hid ha3
            have HR3 := Lib.hid hr3
            clear hs hx hD3 r1 b3 ha3 hr3
            cases hok : okTo_ (clOf T L) ds j m
            · rw [hok] at HS
              go_wp2_with fail
              go_roundw
              case rel => exact ⟨m + 1, by omega, by go_num, by rw [HS.out]; rfl, HA3.out, HR3.out⟩
              case measure => simp [intOf]; omega
            · rw [hok] at HS
              go_wp2_with fail
              refine CF.out.mono ?_; rintro e w4 ⟨rfl, a4, r4⟩
              go_wp2_with fail
              go_roundw
              case rel => exact ⟨m + 1, by omega, by go_num, by rw [HS.out]; rfl, HA3.out.trans a4, r4⟩
              case measure => simp [intOf]; omega
          · obtain rfl : m = ds.length := by omega
            have HR3 := Lib.hid hr3
            have HA3 := Lib.hid ha3
            clear hr3 ha3
            obtain ⟨w3, hw3⟩ : ∃ w9, w9 = wr := ⟨_, rfl⟩
            subst hw3
            cases hok : okTo_ (clOf T L) ds j ds.length
            · have HG := Lib.hid (findL_go' (show j < M + 1 by omega) (gF_no (F := F) (s := s) hok))
              clear hok
              go_wp2_with fail
              go_roundw
              case rel => exact ⟨j + 1, by omega, by go_num, HA.out.trans HA3.out, HR3.out, hf.out.trans HG.out⟩
              case measure => simp [intOf]; omega
            · have HG := Lib.hid (gF_yes (F := F) (s := s) hok)
              clear hok
              have hD3 := HD.out.apt (HA.out.trans HA3.out) (Nat.le_refl _)
              have C := Lib.hid (l1Own_any _ ds w3 hD3.reads (by omega))
              have hdn : ∀ i, i < (ds ++ [(j : Int)]).length → 0 ≤ gi (ds ++ [(j : Int)]) i ∧ gi (ds ++ [(j : Int)]) i ≤ 4 := by
                intro i hi
                rw [List.length_append, List.length_singleton] at hi
                rw [gi_snoc]
                split
                · omega
                · exact HDR.out i (by omega)
              have HI := Lib.hid (fun dv' W hg hd hb9 => ih (ds ++ [(j : Int)]) (s - j) dv' W (by rw [List.length_append, List.length_singleton]; have := HF.out; omega) (by omega) hdn hg hd hb9)
              have hcast : ((s - j : Nat) : Int) = (s : Int) - (j : Int) := by omega
              rw [hcast] at HI
              have h63 : ds.length + 1 ≤ 1099511627776 := by omega
              have hB2 := HR3.out.lt
              have b3 : Below w1.heap.size w1 w3 := HBW.out.trans ((HA.out.trans HA3.out).below HBW.out.size hwB)
              have HB3 := Lib.hid b3
              clear hdn hcast hD3 b3
              go_wp2_with fail
              refine C.out.mono ?_; rintro e w4 ⟨v4, rfl, o4, b4⟩
              go_wp2_with (at_builtin; refine wp_app_int _ rfl _ _ rfl w3.heap.size _ ds rfl o4 (j : Int) _ rfl rfl h63 b4.size ?_; intro v5 w5 o5 g5)
              have b35 := b4.trans g5.below
              have r5 := HR3.out.keep b35 hB2
              have b5 : Below w1.heap.size w1 w5 := HB3.out.trans (b35.mono HB3.out.size)
              refine (HI.out _ _ r5 (ownsRow_lo o5 hB2) b5).mono ?_; rintro e w6 ⟨v6, rfl, a6, r6, hv⟩
              have a5 : Apg B w3 w5 := Apart.of_below b35 (Nat.le_refl _)
              have A6 := Lib.hid ((((HA.out.trans HA3.out).trans a5).trans a6))
              have R6 := Lib.hid r6
              have HV := Lib.hid hv
              clear hv r6 a6 a5 b5 r5 b35 b4 o4 o5 g5
              cases hres : findP (clOf T L) F (ds ++ [(j : Int)]) (s - j) with
              | none =>
                rw [hres] at HV HG
                have HG2 := Lib.hid (findL_go' (show j < M + 1 by omega) HG.out)
                obtain rfl := HV.out
                clear hres
                go_wp2_with fail
                go_roundw
                case rel => exact ⟨j + 1, by omega, by go_num, A6.out, R6.out, hf.out.trans HG2.out⟩
                case measure => simp [intOf]; omega
              | some l =>
                rw [hres] at HV HG
                have HG2 := Lib.hid (findL_hit' (show j < M + 1 by omega) HG.out)
                obtain ⟨hv1, hv2⟩ := HV.out
                obtain ⟨A9, c9, rfl, q1, q2⟩ := hv1.reads.shape
                rw [hv2] at q1
                have hl0 : 0 < l.length := by omega
                have hl1 : (0 : Int) < (l.length : Int) := by omega
                have HFI := Lib.hid (And.intro hv1 hv2)
                clear hres hv1 hv2 HV
                go_wp2_with fail
                go_ret
                exact ⟨_, rfl, A6.out, R6.out, by rw [hf.out, HG2.out]; exact HFI.out⟩
      · obtain rfl : j = M + 1 := by omega
        have hlt2 : ¬ (((M + 1 : Nat) : Int) ≤ (M : Int)) := by omega
        have HE : Hid (findP (clOf T L) (F + 1) ds s = none) := hf.out.trans (findL_0 (by omega))
        go_wp2_with fail
        refine (CL.out _).mono ?_; rintro e _ ⟨rfl, rfl⟩
        go_wp2_with fail
        go_ret
        exact ⟨_, rfl, ha, hr, by rw [HE.out]; rfl⟩
/-- Where the sums stand: the least one is not passed. -/
def NotPast (r : Option (List Int)) (s : Nat) : Prop := match r with | none => True | some b => (s : Int) ≤ sumI b
set_option maxRecDepth 100000 in
set_option maxHeartbeats 12800000 in
theorem rpDelays_any (f t p : Value) (T : Tr) (L : Int) (w : World) (h : TrAt w f t p T) (hT : isRp T = true) (hL0 : 0 ≤ L) (hL : L ≤ 80) :
    Calls Try.prog 27 #[.agg #[f, t, .int .i64 T.c, p], .int .i64 L] w (DelPost w (dl T L)) := by
  obtain ⟨i1, i2, i3, i4⟩ := isRp_t hT
  have hpl := (isMat_t (isTr_t i1).2.2.2.2.2).1
  have bX := (Below.refl w.heap.size w).alloc (Nat.le_refl _) (.cells #[f, t, .int .i64 T.c, p] 31)
  have zT := BoxT.new 31 w f t T.c p
  obtain ⟨W, hW⟩ : ∃ W : World, W = w.alloc (.cells #[f, t, .int .i64 T.c, p] 31) := ⟨_, rfl⟩
  rw [← hW] at bX zT
  have HW := Lib.hid hW
  have ZT := Lib.hid zT
  clear hW zT
  have CM := Lib.hid (asMoves_any f t p T W (h.below bX (Nat.le_refl _)) i1)
  obtain ⟨A1, c1, e1, g1, hc1⟩ := h.f.shape
  subst e1
  obtain ⟨N, hN⟩ : ∃ N, N = T.f.length := ⟨_, rfl⟩
  have hml : (mvsOf T).length = N := by rw [mvsOf_len, hN]; exact hpl
  have hdl : Hid (dl T L = delR (clOf T L) N) := by show _ = _; rw [hN]; rfl
  rw [← hN] at i3 i4 g1
  have HB := Lib.hid bX
  have HL := Lib.hid hml
  have HN := Lib.hid hN
  have HTT := Lib.hid hT
  rw [← hN] at ZT HW CM
  rw [← hN]
  clear hN hml hpl bX h i1 i2 hT
  go_enter Try.func27, Try.ntmps27
  go_upto_region 1 with fail
  rw [← HW.out]
  obtain ⟨a0, a1, a2, a3⟩ := ZT.out.cells
  go_wp2_with fail
  refine CM.out.mono ?_; rintro e w1 ⟨mv, rfl, om, b1⟩
  have bb1 := HB.out.next (Nat.le_refl _) b1
  have om1 := om.reads
  have zz1 := ZT.out.keep b1 ZT.out.lt
  clear a0 a1 a2 a3 om
  obtain ⟨Am, cm, rfl, gm, hcm⟩ := om1.shape
  rw [HL.out] at om1 gm
  rw [HL.out]
  have zD := RsAt.new w1 (tbOf (clOf T L)) N i3 (.slice Am N cm) L
  have bD := (Below.refl w1.heap.size w1).alloc (Nat.le_refl _) (.cells ((Try.zeroCells80.setIfInBounds 0 (.slice Am N cm)).setIfInBounds 1 (.int .i64 L)) 80)
  obtain ⟨B, hB⟩ : ∃ B, B = w1.heap.size := ⟨_, rfl⟩
  obtain ⟨W1, hW1⟩ : ∃ W9 : World, W9 = w1.alloc (.cells ((Try.zeroCells80.setIfInBounds 0 (.slice Am N cm)).setIfInBounds 1 (.int .i64 L)) 80) := ⟨_, rfl⟩
  rw [← hW1, ← hB] at zD
  rw [← hW1] at bD
  have HW1 := Lib.hid hW1
  go_upto_region 2 with fail
  rw [← HW1.out]
  rw [← hB]
  have HFI := Lib.hid (find_any T L HTT.out hL0 hL N B HN.out w1 _ om1 (Nat.le_of_eq hB.symm) N)
  have HBB := Lib.hid bb1
  have HSB := Lib.hid hB
  have ZD := Lib.hid zD
  have BD := Lib.hid bD
  have Z1 := Lib.hid zz1
  have hz1 := Z1.out.lt
  have HZL := Lib.hid hz1
  clear hB hW1 om1 b1 bb1 CM HB HW HL zD bD zz1 hz1
  go_wp2_with fail
  go_loopw [7] (fun i wr => ∃ s : Nat, s ≤ 4 * N + 1 ∧ i = .int .i64 s ∧ Apg B W1 wr ∧ RsAt wr B (tbOf (clOf T L)) N (.slice Am N cm) L ∧ Hid (NotPast (dl T L) s)) (fun i _ => 4 * N + 1 - (intOf i).toNat)
  case atStart => exact ⟨0, Nat.zero_le _, rfl, Apart.refl _ _ _, ZD.out, by
    show NotPast (dl T L) 0
    unfold NotPast
    cases hd : dl T L with
    | none => trivial
    | some b => rw [hdl.out] at hd; exact (delR_bd hd).1⟩
  case round =>
    obtain ⟨s, hs, rfl, ha, hr, hp⟩ := hrel
    have b1r : Below w1.heap.size w1 wr := BD.out.trans (ha.below BD.out.size (Nat.le_of_eq HSB.out.symm))
    obtain ⟨a0, a1, a2, a3⟩ := (Z1.out.keep b1r HZL.out).cells
    by_cases hlt : s ≤ 4 * N
    · have hlt2 : (s : Int) ≤ 4 * (N : Int) := by omega
      have C := Lib.hid (HFI.out [] s (.slice none 0 0) wr (by simp) (by omega) (fun i hi => absurd hi (by simp)) hr (World.ownsRow_nil wr _ _ _) b1r)
      have HB1 := Lib.hid b1r
      have HA := Lib.hid ha
      clear b1r ha hr
      cases hd : dl T L with
      | none =>
        rw [hdl.out] at hd
        have hf := find_none hd s
        rw [hf] at C
        have HD9 := Lib.hid hd
        clear hd hf
        go_wp2_with fail
        refine C.out.mono ?_; rintro e w3 ⟨v3, rfl, a3', r3, rfl⟩
        go_wp2_with fail
        go_roundw
        case rel => exact ⟨s + 1, by omega, by go_num, HA.out.trans a3', r3, trivial⟩
        case measure => simp [intOf]; omega
      | some b =>
        have hp9 := hp.out
        rw [hd] at hp9
        replace hp9 : (s : Int) ≤ sumI b := hp9
        have HDD := Lib.hid hd
        rw [hdl.out] at hd
        by_cases hlast : (s : Int) = sumI b
        · have hf := find_at hd s hlast
          have hbl := (delR_bd hd).2.2
          rw [hf] at C
          have HLA := Lib.hid hlast
          have HBL := Lib.hid hbl
          clear hd hf hlast hp9 hbl
          go_wp2_with fail
          refine C.out.mono ?_; rintro e w3 ⟨v3, rfl, a3', r3, o3, hl3⟩
          have b3 : Below w.heap.size w w3 := HBB.out.trans ((HB1.out.trans (a3'.below HB1.out.size (Nat.le_of_eq HSB.out.symm))).mono HBB.out.size)
          obtain ⟨g9, c9, rfl, _, _⟩ := World.ownsRow.form o3 (by omega)
          have o4 : OwnInts w3 w.heap.size (.slice (some ⟨g9, 0, none⟩) b.length c9) b := ownsRow_lo o3 (by have := HBB.out.size; have := HSB.out; omega)
          have O4 := Lib.hid o4
          have hb0 : (0 : Int) < (b.length : Int) := by omega
          clear o3 o4 r3 hl3
          go_wp2_with fail
          go_ret2
          exact ⟨.slice (some ⟨g9, 0, none⟩) b.length c9, (s : Int), rfl, b3, ⟨⟨_, _, _, rfl⟩, O4.out, HLA.out⟩⟩
        · have hf := find_less hd s (by omega)
          rw [hf] at C
          have HD9 := Lib.hid hd
          have hp10 : (s : Int) + 1 ≤ sumI b := by omega
          have HP10 := Lib.hid hp10
          clear hd hf hlast hp9 hp10
          go_wp2_with fail
          refine C.out.mono ?_; rintro e w3 ⟨v3, rfl, a3', r3, rfl⟩
          go_wp2_with fail
          go_roundw
          case rel => exact ⟨s + 1, by omega, by go_num, HA.out.trans a3', r3, HP10.out⟩
          case measure => simp [intOf]; omega
    · obtain rfl : s = 4 * N + 1 := by omega
      have hnone : Hid (dl T L = none) := by
        show dl T L = none
        cases hd : dl T L with
        | none => rfl
        | some b =>
          have hp9 := hp.out
          rw [hd] at hp9
          replace hp9 : ((4 * N + 1 : Nat) : Int) ≤ sumI b := hp9
          rw [hdl.out] at hd
          have := delR_bd hd
          omega
      have hlt2 : ¬ (((4 * N + 1 : Nat) : Int) ≤ 4 * (N : Int)) := by omega
      have b3 : Below w.heap.size w wr := HBB.out.trans (b1r.mono HBB.out.size)
      clear b1r ha hr hp
      go_wp2_with fail
      go_ret2
      exact ⟨_, _, rfl, b3, by rw [hnone.out]; exact ⟨rfl, rfl⟩⟩
end Go.Proofs.Ytgcgkpmjahgmnaa
