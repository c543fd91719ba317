/- Contract: the search for delays goes on, in the program. -/
import Derived.Test.YtgcgkpmjahgmnaaDlW
import Derived.Test.YtgcgkpmjahgmnaaCur
import Derived.Test.YtgcgkpmjahgmnaaHelpC
set_option linter.unusedSimpArgs false
set_option linter.unusedVariables false
namespace Go.Proofs.Ytgcgkpmjahgmnaa
open Go.RowKit Go.Sort

def tbOf (cl : Cl) : Tb := fun i k p q => cl i k (p : Int) (q : Int)
/-- The best delays so far. -/
def Best (w : World) (B : Nat) (bv : Value) (sm : Int) (st : Option (List Int)) : Prop := match st with
  | none => bv = .slice none 0 0 ∧ sm = 0
  | some l => (∃ g n c, bv = .slice (some ⟨g, 0, none⟩) n c) ∧ OwnInts w (B + 1) bv l ∧ sm = sumI l
theorem Best.apt {w w' : World} {B : Nat} {bv : Value} {sm : Int} {st : Option (List Int)} (h : Best w B bv sm st) (ha : Apg B w w') : Best w' B bv sm st := by
  cases st with
  | none => exact h
  | some l => exact ⟨h.1, h.2.1.apt ha (Nat.le_refl _), h.2.2⟩
/-- All that the search has in memory. -/
structure Go_ (w : World) (B : Nat) (cl : Cl) (N : Nat) (st : Option (List Int)) (bv : Value) (sm : Int) : Prop where
  ds : DsAt w B (tbOf cl) N 900 bv sm
  best : Best w B bv sm st
theorem Go_.apt {w w' : World} {B : Nat} {cl : Cl} {N : Nat} {st : Option (List Int)} {bv : Value} {sm : Int} (h : Go_ w B cl N st bv sm) (ha : Below w.heap.size w w') : Go_ w' B cl N st bv sm :=
  ⟨h.ds.keep ha h.ds.lt, h.best.apt (Apart.of_below ha (Nat.le_refl _))⟩
def ExGo (w : World) (B : Nat) (cl : Cl) (N : Nat) (st : Option (List Int)) : Prop := ∃ bv sm, Go_ w B cl N st bv sm
def GoPost (w : World) (B : Nat) (cl : Cl) (N : Nat) (st : Option (List Int)) (e : Ending) (w' : World) : Prop := e = .returned (.tuple #[]) ∧ Apg B w w' ∧ ExGo w' B cl N st
theorem sumI_take (l : List Int) (h : ∀ i, i < l.length → 0 ≤ gi l i ∧ gi l i ≤ 4) : 0 ≤ sumI l ∧ sumI l ≤ 4 * (l.length : Int) := by
  suffices H : ∀ k, k ≤ l.length → 0 ≤ sumI (l.take k) ∧ sumI (l.take k) ≤ 4 * (k : Int) by
    have := H l.length (Nat.le_refl _)
    rwa [List.take_length] at this
  intro k
  induction k with
  | zero => intro _; exact ⟨Int.le_refl _, Int.le_refl _⟩
  | succ k ih =>
    intro hk
    rw [take_succ_gi l k (by omega), sumI_snoc]
    have h1 := ih (by omega)
    have h2 := h k (by omega)
    omega
theorem gi_snoc (l : List Int) (x : Int) (i : Nat) : gi (l ++ [x]) i = if i = l.length then x else gi l i := by
  unfold gi
  rw [List.getD_eq_getElem?_getD, List.getD_eq_getElem?_getD]
  by_cases h : i < l.length
  · rw [List.getElem?_append_left h, if_neg (by omega)]
  · rw [List.getElem?_append_right (by omega)]
    by_cases e : i = l.length
    · subst e; rw [if_pos rfl, Nat.sub_self]; rfl
    · rw [if_neg e, List.getElem?_eq_none (by simp; omega), List.getElem?_eq_none (by omega)]
set_option maxRecDepth 100000 in
set_option maxHeartbeats 12800000 in
theorem goOn_any (cl : Cl) (N B : Nat) (hN : N ≤ 6) (hN1 : 1 ≤ N) (F : Nat) : ∀ (ds : List Int) (st : Option (List Int)) (bv dv : Value) (sm : Int) (w : World), ds.length + F = N → (∀ i, i < ds.length → 0 ≤ gi ds i ∧ gi ds i ≤ 4) → Go_ w B cl N st bv sm → OwnInts w (B + 1) dv ds →
    Calls Try.prog 55 #[.pointer (some ⟨B, 0, none⟩), dv, .int .i64 (sumI ds)] w (GoPost w B cl N (goOnP cl F ds st)) := by
  induction F with
  | zero =>
    intro ds st bv dv sm w hF hdr hG hD
    have hsb := sumI_take ds hdr
    obtain ⟨A, c, rfl, gd, hc⟩ := hD.reads.shape
    obtain ⟨z0, z1, z2, z3, z4⟩ := hG.ds.cells
    have hBl := hG.ds.lt
    have HG := Lib.hid hG
    have HD := Lib.hid hD
    have HR := Lib.hid hdr
    have HF := Lib.hid hF
    have hnF : (ds.length : Int) = (N : Int) := by omega
    clear hG hdr hD hF
    go_enter Try.func55, Try.ntmps55
    go_upto_region 1 with fail
    go_cut [25] (fun s wx => s = .bool (cutD ds st) ∧ wx = w)
    case first =>
      cases st with
      | none =>
        obtain ⟨rfl, rfl⟩ := HG.out.best
        go_wp2_with fail
        go_meet
        exact ⟨rfl, rfl⟩
      | some l =>
        obtain ⟨⟨g9, n9, c9, rfl⟩, ho9, rfl⟩ := HG.out.best
        clear ho9
        go_wp2_with fail
        go_meet
        exact ⟨rfl, rfl⟩
    case rest =>
      obtain ⟨rfl, rfl⟩ := hcut
      cases hcD : cutD ds st
      case true =>
        have HP := Lib.hid (goOnP_cut (cl := cl) (f := 0) hcD)
        clear hcD
        go_wp2_with fail
        ((try simp only [Exit.inBlock, Exit.then]); (first | (refine bodyPost_ret (results_none rfl _ _ _) rfl ?_) | (refine bodyPost_end (results_none rfl _ _ _) rfl ?_)))
        exact ⟨rfl, Apart.refl _ _ _, bv, sm, by rw [HP.out]; exact HG.out⟩
      case false =>
        have HP := Lib.hid (goOnP_0 (cl := cl) hcD)
        clear hcD
        have heq : ((ds.length : Int) == (N : Int)) = true := by rw [beq_iff_eq]; exact hnF
        have C := Lib.hid (copyInts_any _ ds wc HD.out.reads (by omega))
        go_wp2_with fail
        refine C.out.mono ?_; rintro e w1 ⟨v1, rfl, o1, b1⟩
        have g1 := HG.out.apt b1
        obtain ⟨gg, cc, rfl, hgb, _⟩ := World.ownsRow.form o1 (by omega)
        obtain ⟨y0, y1, y2, y3, y4⟩ := g1.ds.cells
        have o2 : OwnInts w1 (B + 1) (.slice (some ⟨gg, 0, none⟩) ds.length cc) ds := ownsRow_lo o1 (by omega)
        have a1 : Apg B wc w1 := Apart.of_below b1 (Nat.le_refl _)
        have a2 : Apg B w1 ((w1.setCell ⟨B, 901, none⟩ (.slice (some ⟨gg, 0, none⟩) ds.length cc)).setCell ⟨B, 902, none⟩ (.int .i64 (sumI ds))) :=
          ((Apart.refl _ _ _).setCell (p := ⟨B, 901, none⟩) (Nat.le_refl _) (Nat.lt_succ_self _) _).setCell (p := ⟨B, 902, none⟩) (Nat.le_refl _) (Nat.lt_succ_self _) _
        have fin : Go_ ((w1.setCell ⟨B, 901, none⟩ (.slice (some ⟨gg, 0, none⟩) ds.length cc)).setCell ⟨B, 902, none⟩ (.int .i64 (sumI ds))) B cl N (some ds) (.slice (some ⟨gg, 0, none⟩) ds.length cc) (sumI ds) :=
          ⟨g1.ds.best hN _ _, ⟨_, _, _, rfl⟩, o2.apt a2 (Nat.le_refl _), rfl⟩
        have FIN := Lib.hid fin
        have A12 := Lib.hid (Apart.trans a1 a2)
        clear fin a1 a2 o1 o2 g1 b1 C heq
        go_wp2_with fail
        ((try simp only [Exit.inBlock, Exit.then]); (first | (refine bodyPost_ret (results_none rfl _ _ _) rfl ?_) | (refine bodyPost_end (results_none rfl _ _ _) rfl ?_)))
        exact ⟨rfl, A12.out, _, _, by rw [HP.out]; exact FIN.out⟩
  | succ F ih =>
    intro ds st bv dv sm w hF hdr hG hD
    have hsb := sumI_take ds hdr
    obtain ⟨A, c, rfl, gd, hc⟩ := hD.reads.shape
    obtain ⟨z0, z1, z2, z3, z4⟩ := hG.ds.cells
    have hBl := hG.ds.lt
    have HG := Lib.hid hG
    have HD := Lib.hid hD
    have HR := Lib.hid hdr
    have HF := Lib.hid hF
    have hnF : (ds.length : Int) < (N : Int) := by omega
    clear hG hdr hD hF
    go_enter Try.func55, Try.ntmps55
    go_upto_region 1 with fail
    go_cut [25] (fun s wx => s = .bool (cutD ds st) ∧ wx = w)
    case first =>
      cases st with
      | none =>
        obtain ⟨rfl, rfl⟩ := HG.out.best
        go_wp2_with fail
        go_meet
        exact ⟨rfl, rfl⟩
      | some l =>
        obtain ⟨⟨g9, n9, c9, rfl⟩, ho9, rfl⟩ := HG.out.best
        clear ho9
        go_wp2_with fail
        go_meet
        exact ⟨rfl, rfl⟩
    case rest =>
      obtain ⟨rfl, rfl⟩ := hcut
      cases hcD : cutD ds st
      case true =>
        have HP := Lib.hid (goOnP_cut (cl := cl) (f := F + 1) hcD)
        clear hcD
        go_wp2_with fail
        ((try simp only [Exit.inBlock, Exit.then]); (first | (refine bodyPost_ret (results_none rfl _ _ _) rfl ?_) | (refine bodyPost_end (results_none rfl _ _ _) rfl ?_)))
        exact ⟨rfl, Apart.refl _ _ _, bv, sm, by rw [HP.out]; exact HG.out⟩
      case false =>
        have HP := Lib.hid (goOnP_s (cl := cl) (f := F) hcD)
        clear hcD
        have heq : ((ds.length : Int) == (N : Int)) = false := by rw [beq_eq_false_iff_ne]; omega
        have hi6 : ds.length < 6 := by omega
        clear z1 z2 z3 z4
        go_wp2_with fail
        go_loopw [7] (fun i wr => ∃ j : Nat, j ≤ 5 ∧ i = .int .i64 j ∧ Apg B wc wr ∧ ExGo wr B cl N (stepD cl F ds st j)) (fun i _ => 5 - (intOf i).toNat)
        case atStart => exact ⟨0, Nat.zero_le _, rfl, Apart.refl _ _ _, bv, sm, HG.out⟩
        case round =>
          obtain ⟨j, hj, rfl, ha, hx⟩ := hrel
          clear z0
          obtain ⟨w2, hw2⟩ : ∃ w9, w9 = wr := ⟨_, rfl⟩
          subst hw2
          by_cases hlt : j < 5
          · have hd2 := HD.out.apt ha (Nat.le_refl _)
            obtain ⟨bv2, sm2, hg2⟩ := hx
            have HG2 := Lib.hid hg2
            have HD2 := Lib.hid hd2
            have HA := Lib.hid ha
            clear hg2 hd2 ha
            have hj4 : (j : Int) ≤ 4 := by omega
            go_wp2_with fail
            go_loop [8, 47] (fun g i => ∃ m : Nat, m ≤ ds.length ∧ i = .int .i64 m ∧ g = .bool (okTo_ cl ds j m)) (fun _ i => ds.length - (intOf i).toNat)
            case atStart => exact ⟨0, Nat.zero_le _, rfl, rfl⟩
            case round =>
              obtain ⟨m, hm, rfl, rfl⟩ := hrel
              by_cases hlm : m < ds.length
              · obtain ⟨b0, o0, heqA, hcm⟩ := IntsAt.at_ HD2.out.reads m hlm
                subst heqA
                obtain ⟨r1, r2⟩ := HR.out m hlm
                obtain ⟨x, hx⟩ := Int.eq_ofNat_of_zero_le r1
                rw [hx] at hcm r2
                have hx5 : x < 5 := by omega
                have hcell := HG2.out.ds.at_ (i := m) (k := ds.length) (p := x) (q := j) hlm (by omega) hx5 hlt (by unfold ix; omega)
                have hcell2 : w2.cell? ⟨B, ix m ds.length x j, none⟩ = some (.bool (cl m ds.length (x : Int) (j : Int))) := hcell
                unfold ix at hcell2
                have hs := okTo_s cl ds j m
                rw [hx] at hs
                have HS := Lib.hid hs
                clear hs hx hcell r1
                cases hok : okTo_ cl ds j m
                · rw [hok] at HS
                  go_wp2_with fail
                  go_round
                  case rel => exact ⟨m + 1, by omega, by go_num, by rw [HS.out]; rfl⟩
                  case measure => simp [intOf]; omega
                · rw [hok] at HS
                  go_wp2_with fail
                  go_round
                  case rel => exact ⟨m + 1, by omega, by go_num, by rw [HS.out]; rfl⟩
                  case measure => simp [intOf]; omega
              · obtain rfl : m = ds.length := by omega
                have hst := stepD_s cl F ds st j
                have hokA : okAdd cl ds j = okTo_ cl ds j ds.length := rfl
                cases hok : okTo_ cl ds j ds.length
                · rw [hokA, hok, if_neg (by decide)] at hst
                  have HST := Lib.hid hst
                  clear hst hokA hok
                  go_wp2_with fail
                  go_roundw
                  case rel => exact ⟨j + 1, by omega, by go_num, HA.out, by rw [HST.out]; exact ⟨bv2, sm2, HG2.out⟩⟩
                  case measure => simp [intOf]; omega
                · rw [hokA, hok, if_pos rfl] at hst
                  have HST := Lib.hid hst
                  clear hst hokA hok
                  have C := Lib.hid (copyInts_any _ ds w2 HD2.out.reads (by omega))
                  have hsm := sumI_snoc ds (j : Int)
                  have hdn : ∀ i, i < (ds ++ [(j : Int)]).length → 0 ≤ gi (ds ++ [(j : Int)]) i ∧ gi (ds ++ [(j : Int)]) i ≤ 4 := by
                    intro i hi
                    rw [List.length_append, List.length_singleton] at hi
                    rw [gi_snoc]
                    split
                    · omega
                    · exact HR.out i (by omega)
                  have HI := Lib.hid (fun dv' W hg hd => ih (ds ++ [(j : Int)]) (stepD cl F ds st j) bv2 dv' sm2 W (by rw [List.length_append, List.length_singleton]; have := HF.out; omega) hdn hg hd)
                  rw [hsm] at HI
                  clear hsm hdn
                  have h63 : ds.length + 1 ≤ 1099511627776 := by omega
                  have hB2 := HG2.out.ds.lt
                  go_wp2_with fail
                  refine C.out.mono ?_; rintro e w3 ⟨v3, rfl, o3, b3⟩
                  go_wp2_with (at_builtin; refine wp_app_int _ rfl _ _ rfl w2.heap.size _ ds rfl o3 (j : Int) _ rfl rfl h63 b3.size ?_; intro v4 w4 o4 g4)
                  have b34 := b3.trans g4.below
                  have k4 : Go_ w4 B cl N (stepD cl F ds st j) bv2 sm2 := HG2.out.apt b34
                  refine (HI.out _ _ k4 (ownsRow_lo o4 hB2)).mono ?_; rintro e w5 ⟨rfl, a5, hx5⟩
                  have a4 : Apg B w2 w4 := Apart.of_below b34 (Nat.le_refl _)
                  go_wp2_with fail
                  go_roundw
                  case rel => exact ⟨j + 1, by omega, by go_num, (HA.out.trans a4).trans a5, by rw [HST.out]; exact hx5⟩
                  case measure => simp [intOf]; omega
          · obtain rfl : j = 5 := by omega
            go_wp2_with fail
            ((try simp only [Exit.inBlock, Exit.then]); (first | (refine bodyPost_ret (results_none rfl _ _ _) rfl ?_) | (refine bodyPost_end (results_none rfl _ _ _) rfl ?_)))
            exact ⟨rfl, ha, by rw [HP.out]; exact hx⟩
end Go.Proofs.Ytgcgkpmjahgmnaa
/- Contract: the delays with the least sum, in the program. -/
set_option linter.unusedSimpArgs false
set_option linter.unusedVariables false
namespace Go.Proofs.Ytgcgkpmjahgmnaa
open Go.RowKit Go.Sort

/-- Who comes too close to whom, by delays. -/
def clOf (T : Tr) (L : Int) : Cl := fun i k a b => closeB (mvOf T i) (mvOf T k) a b L
def dl (T : Tr) (L : Int) : Option (List Int) := delR (clOf T L) T.f.length
/-- What leastDelays returns. -/
def DelPost (w : World) (st : Option (List Int)) (e : Ending) (w' : World) : Prop := ∃ (v : Value) (sm : Int), e = .returned (.tuple #[v, .int .i64 sm]) ∧ Below w.heap.size w w' ∧
  (match st with | none => v = .slice none 0 0 ∧ sm = 0 | some l => (∃ g n c, v = .slice (some ⟨g, 0, none⟩) n c) ∧ OwnInts w' w.heap.size v l ∧ sm = sumI l)
set_option maxRecDepth 100000 in
set_option maxHeartbeats 12800000 in
theorem leastDelays_any (f t p : Value) (T : Tr) (L : Int) (w : World) (h : TrAt w f t p T) (hT : isRp T = true) (hL0 : 0 ≤ L) (hL : L ≤ 80) :
    Calls Try.prog 34 #[.agg #[f, t, .int .i64 T.c, p], .int .i64 L] w (DelPost w (dl T L)) := by
  obtain ⟨i1, i2, i3, i4⟩ := isRp_t hT
  have hpl := (isMat_t (isTr_t i1).2.2.2.2.2).1
  have bX := (Below.refl w.heap.size w).alloc (Nat.le_refl _) (.cells #[f, t, .int .i64 T.c, p] 31)
  have zT := BoxT.new 31 w f t T.c p
  obtain ⟨W, hW⟩ : ∃ W : World, W = w.alloc (.cells #[f, t, .int .i64 T.c, p] 31) := ⟨_, rfl⟩
  rw [← hW] at bX zT
  have HW := Lib.hid hW
  have ZT := Lib.hid zT
  clear hW zT
  have CM := Lib.hid (movesOf_any f t p T W (h.below bX (Nat.le_refl _)) i1)
  have HG := Lib.hid (fun i (hi : i < T.p.length) => mvOf_good i1 i2 (i := i) (by rw [← hpl]; exact hi))
  obtain ⟨N, hN⟩ : ∃ N, N = T.p.length := ⟨_, rfl⟩
  have h1 : T.f.length = N := by rw [hN]; exact hpl.symm
  have hml : (mvsOf T).length = N := by rw [mvsOf_len]; exact hN.symm
  have hgx : ∀ i, i < N → gx mvRec (mvsOf T) i = mvOf T i := fun i hi => gx_mvsOf (by rw [← hN]; exact hi)
  have hdl : Hid (dl T L = goOnP (clOf T L) N [] none) := by show _ = _; unfold dl delR; rw [h1]
  rw [h1] at i3 i4
  have HB := Lib.hid bX
  have HL := Lib.hid hml
  have HX := Lib.hid hgx
  have HN := Lib.hid hN
  clear hN h1 hml hgx hpl bX h i1 i2 hT
  go_enter Try.func34, Try.ntmps34
  go_upto_region 1 with fail
  rw [← HW.out]
  obtain ⟨a0, a1, a2, a3⟩ := ZT.out.cells
  go_wp2_with fail
  refine CM.out.mono ?_; rintro e w1 ⟨mv, rfl, om, b1⟩
  have bb1 := HB.out.next (Nat.le_refl _) b1
  have om1 := om.reads
  clear a0 a1 a2 a3 om
  obtain ⟨Am, cm, rfl, gm, hcm⟩ := om1.shape
  rw [HL.out] at om1 gm
  rw [HL.out]
  have zD := DsAt.new w1 (tbOf (clOf T L)) N
  have bD := (Below.refl w1.heap.size w1).alloc (Nat.le_refl _) (.cells (Try.zeroCells90.setIfInBounds 900 (.int .i64 (N : Int))) 90)
  obtain ⟨B, hB⟩ : ∃ B, B = w1.heap.size := ⟨_, rfl⟩
  obtain ⟨W1, hW1⟩ : ∃ W9 : World, W9 = w1.alloc (.cells (Try.zeroCells90.setIfInBounds 900 (.int .i64 (N : Int))) 90) := ⟨_, rfl⟩
  rw [← hW1, ← hB] at zD
  rw [← hW1] at bD
  have HW1 := Lib.hid hW1
  go_upto_region 3 with fail
  rw [← HW1.out]
  rw [← hB]
  have HOM := Lib.hid om1
  have HBB := Lib.hid bb1
  have HSB := Lib.hid hB
  have ZD := Lib.hid zD
  have BD := Lib.hid bD
  clear hB hW1 om1 b1 bb1 CM HB ZT HW HL zD bD
  go_wp2_with fail
  go_loopw [20] (fun i wr => ∃ n : Nat, n ≤ N ∧ i = .int .i64 n ∧ DsAt wr B (tbOf (clOf T L)) N (ix n 0 0 0) (.slice none 0 0) 0 ∧ Below w1.heap.size w1 wr) (fun i _ => N - (intOf i).toNat)
  case atStart => exact ⟨0, Nat.zero_le _, rfl, ZD.out, BD.out⟩
  case round =>
    obtain ⟨n, hn, rfl, hd, hb⟩ := hrel
    obtain ⟨w2, hw2⟩ : ∃ w9, w9 = wr := ⟨_, rfl⟩
    subst hw2
    by_cases hlt : n < N
    · have gn := HG.out n (by rw [← HN.out]; exact hlt)
      have hmn := HX.out n hlt
      obtain ⟨fx, hfx⟩ : ∃ z, z = (mvOf T n).fx := ⟨_, rfl⟩
      obtain ⟨fy, hfy⟩ : ∃ z, z = (mvOf T n).fy := ⟨_, rfl⟩
      obtain ⟨tx, htx⟩ : ∃ z, z = (mvOf T n).tx := ⟨_, rfl⟩
      obtain ⟨ty, hty⟩ : ∃ z, z = (mvOf T n).ty := ⟨_, rfl⟩
      have en : mvOf T n = ⟨fx, fy, tx, ty, T.c⟩ := by rw [hfx, hfy, htx, hty]; rfl
      rw [en] at hmn gn
      have HMN := Lib.hid hmn
      have GN := Lib.hid gn
      have EN := Lib.hid en
      clear hmn gn en hfx hfy htx hty
      have hn6 : n < 6 := by omega
      have hd1 := hd.to (c' := ix n (n + 1) 0 0) (fun i k p q a1 a2 a3 a4 a5 => by unfold ix at a5 ⊢; omega)
      clear hd
      go_wp2_with fail
      go_loopw [9] (fun i wr => ∃ k : Nat, n + 1 ≤ k ∧ k ≤ N ∧ i = .int .i64 k ∧ DsAt wr B (tbOf (clOf T L)) N (ix n k 0 0) (.slice none 0 0) 0 ∧ Below w1.heap.size w1 wr) (fun i _ => N - (intOf i).toNat)
      case atStart => exact ⟨n + 1, Nat.le_refl _, hlt, by go_num, hd1, hb⟩
      case round =>
        obtain ⟨k, hnk, hk, rfl, hdk, hbk⟩ := hrel
        clear hb hd1
        obtain ⟨w3, hw3⟩ : ∃ w9, w9 = wr := ⟨_, rfl⟩
        subst hw3
        by_cases hlk : k < N
        · have gk := HG.out k (by rw [← HN.out]; exact hlk)
          have hmk := HX.out k hlk
          obtain ⟨gxx, hgx⟩ : ∃ z, z = (mvOf T k).fx := ⟨_, rfl⟩
          obtain ⟨gy, hgy⟩ : ∃ z, z = (mvOf T k).fy := ⟨_, rfl⟩
          obtain ⟨ux, hux⟩ : ∃ z, z = (mvOf T k).tx := ⟨_, rfl⟩
          obtain ⟨uy, huy⟩ : ∃ z, z = (mvOf T k).ty := ⟨_, rfl⟩
          have ek : mvOf T k = ⟨gxx, gy, ux, uy, T.c⟩ := by rw [hgx, hgy, hux, huy]; rfl
          rw [ek] at hmk gk
          have HMK := Lib.hid hmk
          have GK := Lib.hid gk
          have EK := Lib.hid ek
          clear hmk gk ek hgx hgy hux huy
          have hk6 : k < 6 := by omega
          go_wp2_with fail
          go_loopw [10] (fun i wr => ∃ x : Nat, x ≤ 5 ∧ i = .int .i64 x ∧ DsAt wr B (tbOf (clOf T L)) N (ix n k x 0) (.slice none 0 0) 0 ∧ Below w1.heap.size w1 wr) (fun i _ => 5 - (intOf i).toNat)
          case atStart => exact ⟨0, Nat.zero_le _, rfl, hdk, hbk⟩
          case round =>
            obtain ⟨x, hx, rfl, hdx, hbx⟩ := hrel
            clear hdk hbk
            obtain ⟨w4, hw4⟩ : ∃ w9, w9 = wr := ⟨_, rfl⟩
            subst hw4
            by_cases hlx : x < 5
            · have hx4 : (x : Int) ≤ 4 := by omega
              go_wp2_with fail
              go_loopw [11] (fun i wr => ∃ y : Nat, y ≤ 5 ∧ i = .int .i64 y ∧ DsAt wr B (tbOf (clOf T L)) N (ix n k x y) (.slice none 0 0) 0 ∧ Below w1.heap.size w1 wr) (fun i _ => 5 - (intOf i).toNat)
              case atStart => exact ⟨0, Nat.zero_le _, rfl, hdx, hbx⟩
              case round =>
                obtain ⟨y, hy, rfl, hdy, hby⟩ := hrel
                clear hdx hbx
                by_cases hly : y < 5
                · have hy4 : (y : Int) ≤ 4 := by omega
                  have hpc : tbOf (clOf T L) n k x y = closeB ⟨fx, fy, tx, ty, T.c⟩ ⟨gxx, gy, ux, uy, T.c⟩ (x : Int) (y : Int) L := by
                    show closeB (mvOf T n) (mvOf T k) (x : Int) (y : Int) L = _
                    rw [EN.out, EK.out]
                  have CC := Lib.hid (fun W9 => closeDelayed_any fx fy tx ty gxx gy ux uy T.c (x : Int) (y : Int) L W9 GN.out GK.out (by omega) hx4 (by omega) hy4 hL0 hL)
                  rw [← hpc] at CC
                  obtain ⟨R, hR⟩ : ∃ R, R = tbOf (clOf T L) n k x y := ⟨_, rfl⟩
                  rw [← hR] at CC
                  have HRR := Lib.hid hR
                  clear hpc hR
                  obtain ⟨bm, om_, rfl, m0, m1, m2, m3, m4⟩ := mv_at (n := N) HOM.out n (by rw [mvsOf_len, ← HN.out]; exact hlt)
                  obtain ⟨bm', om_', heq, l0, l1, l2, l3, l4⟩ := mv_at (n := N) HOM.out k (by rw [mvsOf_len, ← HN.out]; exact hlk)
                  injection heq with heq
                  injection heq with e1 e2
                  subst e1 e2
                  rw [HMN.out] at m0 m1 m2 m3 m4
                  rw [HMK.out] at l0 l1 l2 l3 l4
                  simp only at m0 m1 m2 m3 m4 l0 l1 l2 l3 l4
                  have Hm0 := Lib.hid m0
                  replace m0 := Below.keepCell hby Hm0.out (Nat.le_refl _)
                  have Hm1 := Lib.hid m1
                  replace m1 := Below.keepCell hby Hm1.out (Nat.le_refl _)
                  have Hm2 := Lib.hid m2
                  replace m2 := Below.keepCell hby Hm2.out (Nat.le_refl _)
                  have Hm3 := Lib.hid m3
                  replace m3 := Below.keepCell hby Hm3.out (Nat.le_refl _)
                  have Hm4 := Lib.hid m4
                  replace m4 := Below.keepCell hby Hm4.out (Nat.le_refl _)
                  have Hl0 := Lib.hid l0
                  replace l0 := Below.keepCell hby Hl0.out (Nat.le_refl _)
                  have Hl1 := Lib.hid l1
                  replace l1 := Below.keepCell hby Hl1.out (Nat.le_refl _)
                  have Hl2 := Lib.hid l2
                  replace l2 := Below.keepCell hby Hl2.out (Nat.le_refl _)
                  have Hl3 := Lib.hid l3
                  replace l3 := Below.keepCell hby Hl3.out (Nat.le_refl _)
                  have Hl4 := Lib.hid l4
                  replace l4 := Below.keepCell hby Hl4.out (Nat.le_refl _)
                  have hBB : w1.heap.size ≤ B := Nat.le_of_eq HSB.out.symm
                  go_upto_region 15 with fail
                  have D0 := (Below.refl wr.heap.size wr).drew
                  have hoff : ix n k x y = n * 150 + k * 25 + x * 5 + y := rfl
                  have HO := Lib.hid hoff
                  have hlt9 : ix n k x y < 900 := by unfold ix; omega
                  have HD9 := Lib.hid hdy
                  have v1 : (0 : Int) ≤ (n : Int) := by omega
                  have v2 : (0 : Int) ≤ (k : Int) := by omega
                  have v3 : (0 : Int) ≤ (x : Int) := by omega
                  have v4 : (0 : Int) ≤ (y : Int) := by omega
                  have v5 : (n : Int) < 6 := by omega
                  have v6 : (k : Int) < 6 := by omega
                  have v7 : (x : Int) < 5 := by omega
                  have v8 : (y : Int) < 5 := by omega
                  have v9 : (n : Int) < (N : Int) := by omega
                  have v10 : (k : Int) < (N : Int) := by omega
                  clear hoff hdy
                  (first | (go_region_held3 (fun w' => w'.cell? ⟨bm, om_ + n * 5, none⟩ = some (.int .i64 fx) ∧ w'.cell? ⟨bm, om_ + n * 5 + 1, none⟩ = some (.int .i64 fy) ∧ w'.cell? ⟨bm, om_ + n * 5 + 2, none⟩ = some (.int .i64 tx) ∧ w'.cell? ⟨bm, om_ + n * 5 + 3, none⟩ = some (.int .i64 ty) ∧ w'.cell? ⟨bm, om_ + n * 5 + 4, none⟩ = some (.int .i64 T.c) ∧ w'.cell? ⟨bm, om_ + k * 5, none⟩ = some (.int .i64 gxx) ∧ w'.cell? ⟨bm, om_ + k * 5 + 1, none⟩ = some (.int .i64 gy) ∧ w'.cell? ⟨bm, om_ + k * 5 + 2, none⟩ = some (.int .i64 ux) ∧ w'.cell? ⟨bm, om_ + k * 5 + 3, none⟩ = some (.int .i64 uy) ∧ w'.cell? ⟨bm, om_ + k * 5 + 4, none⟩ = some (.int .i64 T.c))
                    (first | go_keep | exact ⟨Below.keepCell dA Hm0.out (Nat.le_refl _), Below.keepCell dA Hm1.out (Nat.le_refl _), Below.keepCell dA Hm2.out (Nat.le_refl _), Below.keepCell dA Hm3.out (Nat.le_refl _), Below.keepCell dA Hm4.out (Nat.le_refl _), Below.keepCell dA Hl0.out (Nat.le_refl _), Below.keepCell dA Hl1.out (Nat.le_refl _), Below.keepCell dA Hl2.out (Nat.le_refl _), Below.keepCell dA Hl3.out (Nat.le_refl _), Below.keepCell dA Hl4.out (Nat.le_refl _)⟩ | exact ⟨Below.keepCell (dA.setCell (p := ⟨B, n * 150 + k * 25 + x * 5 + y, none⟩) hBB _) Hm0.out (Nat.le_refl _), Below.keepCell (dA.setCell (p := ⟨B, n * 150 + k * 25 + x * 5 + y, none⟩) hBB _) Hm1.out (Nat.le_refl _), Below.keepCell (dA.setCell (p := ⟨B, n * 150 + k * 25 + x * 5 + y, none⟩) hBB _) Hm2.out (Nat.le_refl _), Below.keepCell (dA.setCell (p := ⟨B, n * 150 + k * 25 + x * 5 + y, none⟩) hBB _) Hm3.out (Nat.le_refl _), Below.keepCell (dA.setCell (p := ⟨B, n * 150 + k * 25 + x * 5 + y, none⟩) hBB _) Hm4.out (Nat.le_refl _), Below.keepCell (dA.setCell (p := ⟨B, n * 150 + k * 25 + x * 5 + y, none⟩) hBB _) Hl0.out (Nat.le_refl _), Below.keepCell (dA.setCell (p := ⟨B, n * 150 + k * 25 + x * 5 + y, none⟩) hBB _) Hl1.out (Nat.le_refl _), Below.keepCell (dA.setCell (p := ⟨B, n * 150 + k * 25 + x * 5 + y, none⟩) hBB _) Hl2.out (Nat.le_refl _), Below.keepCell (dA.setCell (p := ⟨B, n * 150 + k * 25 + x * 5 + y, none⟩) hBB _) Hl3.out (Nat.le_refl _), Below.keepCell (dA.setCell (p := ⟨B, n * 150 + k * 25 + x * 5 + y, none⟩) hBB _) Hl4.out (Nat.le_refl _)⟩)
                    ((go_at_call 54; (with_reducible refine (CC.out _).mono ?_); rintro e w9 ⟨rfl, b9⟩; have dA := hby.drew.next (Nat.le_refl _) b9; have z9 := HD9.out.keep (D0.next (Nat.le_refl _) b9) HD9.out.lt; have y9 := z9.slot (ix n k x y) hlt9; rw [HO.out] at y9; obtain ⟨⟨u9, c9⟩, f9⟩ := y9))) | fail)
                  all_goals
                    go_wp2_with fail
                    go_roundw
                    case rel =>
                      have hp9 := z9.put (by omega) hlk i3 hlx hly
                      rw [← HRR.out] at hp9
                      exact ⟨y + 1, by omega, by go_num, hp9, dA.setCell (p := ⟨B, n * 150 + k * 25 + x * 5 + y, none⟩) hBB _⟩
                    case measure => simp [intOf]; omega
                · obtain rfl : y = 5 := by omega
                  have hd9 := hdy.to (c' := ix n k (x + 1) 0) (fun i k p q a1 a2 a3 a4 a5 => by unfold ix at a5 ⊢; omega)
                  clear hdy
                  go_wp2_with fail
                  go_roundw
                  case rel => exact ⟨x + 1, by omega, by go_num, hd9, hby⟩
                  case measure => simp [intOf]; omega
            · obtain rfl : x = 5 := by omega
              have hd9 := hdx.to (c' := ix n (k + 1) 0 0) (fun i k p q a1 a2 a3 a4 a5 => by unfold ix at a5 ⊢; omega)
              clear hdx
              go_wp2_with fail
              go_roundw
              case rel => exact ⟨k + 1, by omega, by omega, by go_num, hd9, hbx⟩
              case measure => simp [intOf]; omega
        · obtain rfl : k = N := by omega
          have hd9 := hdk.to (c' := ix (n + 1) 0 0 0) (fun i k' p q a1 a2 a3 a4 a5 => by unfold ix at a5 ⊢; omega)
          clear hdk
          go_wp2_with fail
          go_roundw
          case rel => exact ⟨n + 1, by omega, by go_num, hd9, hbk⟩
          case measure => simp [intOf]; omega
    · obtain rfl : n = N := by omega
      have hd9 := hd.to (c' := 900) (fun i k p q a1 a2 a3 a4 a5 => by unfold ix at a5 ⊢; omega)
      have hBl := hd.lt
      have be := (Below.refl w2.heap.size w2).alloc (Nat.le_refl _) (.cells #[] 3)
      have C : Hid (Calls Try.prog 55 #[.pointer (some ⟨B, 0, none⟩), .slice (some ⟨w2.heap.size, 0, none⟩) 0 0, .int .i64 0] (w2.alloc (.cells #[] 3)) (GoPost (w2.alloc (.cells #[] 3)) B (clOf T L) n (goOnP (clOf T L) n [] none))) :=
        goOn_any (clOf T L) n B i3 i4 n [] none (.slice none 0 0) _ 0 _ (by simp) (fun i hi => absurd hi (by simp)) ⟨hd9.keep be hBl, rfl, rfl⟩ (OwnInts.empty w2 (B + 1) hBl)
      have hb2 : Below w.heap.size w (w2.alloc (.cells #[] 3)) := (HBB.out.next (Nat.le_refl _) hb).trans (be.mono (Nat.le_trans HBB.out.size hb.size))
      have hwB : w.heap.size ≤ B := by rw [HSB.out]; exact HBB.out.size
      have HB2 := Lib.hid hb2
      clear hd hd9 hb be hb2
      go_wp2_with fail
      refine C.out.mono ?_; rintro e w5 ⟨rfl, a5, bv, sm, g5⟩
      have b5 : Below w.heap.size w w5 := HB2.out.trans (a5.below HB2.out.size hwB)
      obtain ⟨c0, c1, c2, c3, c4⟩ := g5.ds.cells
      have hbest := g5.best
      rw [← hdl.out] at hbest
      have HBE := Lib.hid hbest
      clear hbest g5 a5 c0 c3 c4 C
      cases hst : dl T L with
      | none =>
        rw [hst] at HBE
        obtain ⟨rfl, rfl⟩ := HBE.out
        go_wp2_with fail
        go_quiet (fail)
        go_wp2_with fail
        go_ret2
        exact ⟨_, _, rfl, b5.drewN _, by rw [hst]; exact ⟨rfl, rfl⟩⟩
      | some l =>
        rw [hst] at HBE
        obtain ⟨⟨g9, n9, c9, rfl⟩, ho9, rfl⟩ := HBE.out
        have HO9 := Lib.hid (ownsRow_lo ho9 (show w.heap.size ≤ B + 1 by omega))
        clear ho9 HBE
        go_wp2_with fail
        go_quiet (fail)
        go_wp2_with fail
        go_ret2
        exact ⟨_, _, rfl, b5.drewN _, by rw [hst]; exact ⟨⟨_, _, _, rfl⟩, HO9.out, rfl⟩⟩
end Go.Proofs.Ytgcgkpmjahgmnaa
/- Contract: who stays apart, in the reference: a table that is filled when asked. -/
set_option linter.unusedSimpArgs false
set_option linter.unusedVariables false
namespace Go.Proofs.Ytgcgkpmjahgmnaa
open Go.RowKit Go.Sort

def knV (b : Bool) : Int := if b then 2 else 1
def Known (C : Tb) (N : Nat) (cur : Array Value) : Prop := ∀ i k p q, i < k → k < N → p < 5 → q < 5 → ∃ v : Int, cur[2 + ix i k p q]? = some (.int .i64 v) ∧ (v = 0 ∨ v = knV (C i k p q))
/-- The block of the reference's search. -/
def RsAt (w : World) (b : Nat) (C : Tb) (N : Nat) (mv : Value) (L : Int) : Prop := ∃ cur : Array Value, w.heap[b]? = some (.cells cur 80 (0, 0)) ∧ cur.size = 902 ∧ Known C N cur ∧ cur[0]? = some mv ∧ cur[1]? = some (.int .i64 L)
theorem zero80 : Try.zeroCells80.toList = .slice none 0 0 :: List.replicate 901 (Value.int .i64 0) := by kernel_rfl
theorem z80_at (j : Nat) (hj : j < 901) : Try.zeroCells80[1 + j]? = some (.int .i64 0) := by
  rw [← Array.getElem?_toList, zero80, Nat.add_comm, List.getElem?_cons_succ, List.getElem?_replicate, if_pos hj]
theorem z80_size : Try.zeroCells80.size = 902 := by
  rw [← Array.length_toList, zero80, List.length_cons, List.length_replicate]
theorem RsAt.new (w : World) (C : Tb) (N : Nat) (hN : N ≤ 6) (mv : Value) (L : Int) : RsAt (w.alloc (.cells ((Try.zeroCells80.setIfInBounds 0 mv).setIfInBounds 1 (.int .i64 L)) 80)) w.heap.size C N mv L := by
  refine ⟨(Try.zeroCells80.setIfInBounds 0 mv).setIfInBounds 1 (.int .i64 L), by show (w.heap.push _)[w.heap.size]? = _; rw [Array.getElem?_push_size], by rw [Array.size_setIfInBounds, Array.size_setIfInBounds, z80_size], fun i k p q h1 h2 h3 h4 => ⟨0, ?_, .inl rfl⟩, ?_, ?_⟩
  · have hx : ix i k p q < 900 := by unfold ix; omega
    rw [Array.getElem?_setIfInBounds_ne (by omega), Array.getElem?_setIfInBounds_ne (by omega)]
    have := z80_at (1 + ix i k p q) (by omega)
    rw [show 1 + (1 + ix i k p q) = 2 + ix i k p q from by omega] at this
    exact this
  · rw [Array.getElem?_setIfInBounds_ne (by omega), Array.getElem?_setIfInBounds_self_of_lt (by rw [z80_size]; omega)]
  · rw [Array.getElem?_setIfInBounds_self_of_lt (by rw [Array.size_setIfInBounds, z80_size]; omega)]
theorem RsAt.lt {w : World} {b : Nat} {C : Tb} {N : Nat} {mv : Value} {L : Int} (h : RsAt w b C N mv L) : b < w.heap.size := by
  obtain ⟨cur, h1, _⟩ := h
  exact (Array.getElem?_eq_some_iff.1 h1).1
theorem RsAt.keep {w w' : World} {b B : Nat} {C : Tb} {N : Nat} {mv : Value} {L : Int} (h : RsAt w b C N mv L) (hb : Below B w w') (hB : b < B) : RsAt w' b C N mv L := by
  obtain ⟨cur, h1, h2⟩ := h
  exact ⟨cur, (hb.block b hB).trans h1, h2⟩
theorem RsAt.cells {w : World} {b : Nat} {C : Tb} {N : Nat} {mv : Value} {L : Int} (h : RsAt w b C N mv L) : w.cell? ⟨b, 0, none⟩ = some mv ∧ w.cell? ⟨b, 1, none⟩ = some (.int .i64 L) := by
  obtain ⟨cur, h1, h2, h3, h4, h5⟩ := h
  exact ⟨by rw [cell_of_row w b 0 _ _ _ h1]; exact h4, by rw [cell_of_row w b 1 _ _ _ h1]; exact h5⟩
theorem RsAt.at_ {w : World} {b : Nat} {C : Tb} {N : Nat} {mv : Value} {L : Int} (h : RsAt w b C N mv L) {i k p q : Nat} (hik : i < k) (hk : k < N) (hp : p < 5) (hq : q < 5) : w.frozen? ⟨b, 2 + ix i k p q, none⟩ = false ∧ ∃ v : Int, w.cell? ⟨b, 2 + ix i k p q, none⟩ = some (.int .i64 v) ∧ (v = 0 ∨ v = knV (C i k p q)) := by
  obtain ⟨cur, h1, h2, h3, _⟩ := h
  obtain ⟨v, hv, hc⟩ := h3 i k p q hik hk hp hq
  exact ⟨frozen_of_row w b _ _ _ h1, v, by rw [cell_of_row w b _ _ _ _ h1]; exact hv, hc⟩
theorem RsAt.put {w : World} {b : Nat} {C : Tb} {N i k p q : Nat} {mv : Value} {L : Int} (h : RsAt w b C N mv L) (hik : i < k) (hk : k < N) (hN : N ≤ 6) (hp : p < 5) (hq : q < 5) : RsAt (w.setCell ⟨b, 2 + ix i k p q, none⟩ (.int .i64 (knV (C i k p q)))) b C N mv L := by
  obtain ⟨cur, h1, h2, h3, h4, h5⟩ := h
  have hx : ix i k p q < 900 := by unfold ix; omega
  refine ⟨_, heap_setCell_same w b _ _ _ _ h1, by rw [Array.size_setIfInBounds]; exact h2, fun i' k' p' q' a1 a2 a3 a4 => ?_, ?_, ?_⟩
  · by_cases e : ix i k p q = ix i' k' p' q'
    · obtain ⟨rfl, rfl, rfl, rfl⟩ := ix_inj (by omega) hp hq (by omega) a3 a4 e
      exact ⟨_, Array.getElem?_setIfInBounds_self_of_lt (by omega), .inr rfl⟩
    · rw [Array.getElem?_setIfInBounds_ne (by omega)]; exact h3 i' k' p' q' a1 a2 a3 a4
  · rw [Array.getElem?_setIfInBounds_ne (by omega)]; exact h4
  · rw [Array.getElem?_setIfInBounds_ne (by omega)]; exact h5
def FitPost (w : World) (B : Nat) (C : Tb) (N : Nat) (mv : Value) (L : Int) (r : Bool) (e : Ending) (w' : World) : Prop := e = .returned (.bool r) ∧ Apg B w w' ∧ RsAt w' B C N mv L
set_option maxRecDepth 100000 in
set_option maxHeartbeats 12800000 in
theorem fits_any (T : Tr) (L : Int) (hT : isRp T = true) (hL0 : 0 ≤ L) (hL : L ≤ 80) (N B : Nat) (hNT : N = T.f.length) (w1 : World) (mv : Value) (hm : RowAt mvRec w1 mv (mvsOf T)) (hwB : w1.heap.size ≤ B)
    (i k p q : Nat) (hik : i < k) (hk : k < N) (hp : p < 5) (hq : q < 5) (w : World) (hR : RsAt w B (tbOf (clOf T L)) N mv L) (hb : Below w1.heap.size w1 w) :
    Calls Try.prog 67 #[.pointer (some ⟨B, 0, none⟩), .int .i64 (i : Int), .int .i64 (k : Int), .int .i64 (p : Int), .int .i64 (q : Int)] w (FitPost w B (tbOf (clOf T L)) N mv L (!tbOf (clOf T L) i k p q)) := by
  obtain ⟨i1, i2, i3, i4⟩ := isRp_t hT
  have hpl := (isMat_t (isTr_t i1).2.2.2.2.2).1
  rw [← hNT] at i3 i4 hpl
  have gi' := mvOf_good i1 i2 (i := i) (by omega)
  have gk' := mvOf_good i1 i2 (i := k) (by omega)
  have hmi : gx mvRec (mvsOf T) i = mvOf T i := gx_mvsOf (by omega)
  have hmk : gx mvRec (mvsOf T) k = mvOf T k := gx_mvsOf (by omega)
  have hml : (mvsOf T).length = N := by rw [mvsOf_len]; exact hpl
  obtain ⟨Am, cm, rfl, gm, hcm⟩ := hm.shape
  rw [hml] at hm gm hR
  rw [hml]
  obtain ⟨bm, om_, rfl, m0, m1, m2, m3, m4⟩ := mv_at (n := N) hm i (by omega)
  obtain ⟨bm', om_', heq, l0, l1, l2, l3, l4⟩ := mv_at (n := N) hm k (by omega)
  injection heq with heq
  injection heq with e1 e2
  subst e1 e2
  rw [hmi] at m0 m1 m2 m3 m4
  rw [hmk] at l0 l1 l2 l3 l4
  obtain ⟨fx, hfx⟩ : ∃ z, z = (mvOf T i).fx := ⟨_, rfl⟩
  obtain ⟨fy, hfy⟩ : ∃ z, z = (mvOf T i).fy := ⟨_, rfl⟩
  obtain ⟨tx, htx⟩ : ∃ z, z = (mvOf T i).tx := ⟨_, rfl⟩
  obtain ⟨ty, hty⟩ : ∃ z, z = (mvOf T i).ty := ⟨_, rfl⟩
  have en : mvOf T i = ⟨fx, fy, tx, ty, T.c⟩ := by rw [hfx, hfy, htx, hty]; rfl
  obtain ⟨gxx, hgx⟩ : ∃ z, z = (mvOf T k).fx := ⟨_, rfl⟩
  obtain ⟨gy, hgy⟩ : ∃ z, z = (mvOf T k).fy := ⟨_, rfl⟩
  obtain ⟨ux, hux⟩ : ∃ z, z = (mvOf T k).tx := ⟨_, rfl⟩
  obtain ⟨uy, huy⟩ : ∃ z, z = (mvOf T k).ty := ⟨_, rfl⟩
  have ek : mvOf T k = ⟨gxx, gy, ux, uy, T.c⟩ := by rw [hgx, hgy, hux, huy]; rfl
  rw [en] at gi' m0 m1 m2 m3 m4
  rw [ek] at gk' l0 l1 l2 l3 l4
  simp only at m0 m1 m2 m3 m4 l0 l1 l2 l3 l4
  have hpc : tbOf (clOf T L) i k p q = closeB ⟨fx, fy, tx, ty, T.c⟩ ⟨gxx, gy, ux, uy, T.c⟩ (p : Int) (q : Int) L := by
    show closeB (mvOf T i) (mvOf T k) (p : Int) (q : Int) L = _
    rw [en, ek]
  have CC := Lib.hid (fun W9 => rpFits_any fx fy tx ty gxx gy ux uy T.c (p : Int) (q : Int) L W9 gi' gk' (by omega) (by omega) (by omega) (by omega) hL0 hL)
  rw [← hpc] at CC
  obtain ⟨ff, x, hx, hv⟩ := hR.at_ hik hk hp hq
  have hput := fun (W : World) (h : RsAt W B (tbOf (clOf T L)) N (.slice (some ⟨bm, om_, none⟩) N cm) L) => h.put (i := i) (k := k) (p := p) (q := q) hik hk i3 hp hq
  have hat := fun (W : World) (h : RsAt W B (tbOf (clOf T L)) N (.slice (some ⟨bm, om_, none⟩) N cm) L) => h.at_ (i := i) (k := k) (p := p) (q := q) hik hk hp hq
  obtain ⟨R, hRR⟩ : ∃ R, R = tbOf (clOf T L) i k p q := ⟨_, rfl⟩
  rw [← hRR] at CC hv hput hat
  rw [← hRR]
  have HPUT := Lib.hid hput
  have HAT := Lib.hid hat
  obtain ⟨z0, z1⟩ := hR.cells
  have HRS := Lib.hid hR
  have hi6 : i < 6 := by omega
  have hk6 : k < 6 := by omega
  replace m0 := Below.keepCell hb m0 (Nat.le_refl _)
  replace m1 := Below.keepCell hb m1 (Nat.le_refl _)
  replace m2 := Below.keepCell hb m2 (Nat.le_refl _)
  replace m3 := Below.keepCell hb m3 (Nat.le_refl _)
  replace m4 := Below.keepCell hb m4 (Nat.le_refl _)
  replace l0 := Below.keepCell hb l0 (Nat.le_refl _)
  replace l1 := Below.keepCell hb l1 (Nat.le_refl _)
  replace l2 := Below.keepCell hb l2 (Nat.le_refl _)
  replace l3 := Below.keepCell hb l3 (Nat.le_refl _)
  replace l4 := Below.keepCell hb l4 (Nat.le_refl _)
  have hiN : i < N := by omega
  have hO : 2 + ix i k p q = 2 + i * 150 + k * 25 + p * 5 + q := by unfold ix; omega
  have HO := Lib.hid hO
  have hfr := ff
  rw [hO] at hx hfr
  have hxx : ∀ (W : World) (h : RsAt W B (tbOf (clOf T L)) N (.slice (some ⟨bm, om_, none⟩) N cm) L), W.frozen? ⟨B, 2 + i * 150 + k * 25 + p * 5 + q, none⟩ = false ∧ ∃ v : Int, W.cell? ⟨B, 2 + i * 150 + k * 25 + p * 5 + q, none⟩ = some (.int .i64 v) := by
    intro W h
    obtain ⟨f1, v, f2, _⟩ := hat W h
    rw [hO] at f1 f2
    exact ⟨f1, v, f2⟩
  have HXX := Lib.hid hxx
  clear hO ff hxx hput hat hR hpc hRR en ek gi' gk' hmi hmk hml hm hpl hNT hT i1 i2 hfx hfy htx hty hgx hgy hux huy hb hwB
  by_cases hx0 : x = 0
  · subst hx0
    clear hv hfr
    cases R
    case false =>
      have cC := fun (d9 : Nat) (os : Array Obj) => rg_below (w := w) (d := d9) (os := os) (CC.out _)
      have k0 := cell_regrown m0
      have k1 := cell_regrown m1
      have k2 := cell_regrown m2
      have k3 := cell_regrown m3
      have k4 := cell_regrown m4
      have k5 := cell_regrown l0
      have k6 := cell_regrown l1
      have k7 := cell_regrown l2
      have k8 := cell_regrown l3
      have k9 := cell_regrown l4
      have k10 := cell_regrown z0
      have k11 := cell_regrown z1
      clear m0 m1 m2 m3 m4 l0 l1 l2 l3 l4 z0 z1
      go_enter Try.func67, Try.ntmps67
      go_upto_region 3 with fail
      (refine wp_region_quiet_below (by kernel_rfl) (by kernel_rfl) ?_; (repeat (go_big_quiet_step (first | with_reducible exact cC _ _))); refine wpQuiet_nil ?_; intro _ hw'; obtain ⟨⟨dq, osq⟩, hw''⟩ := hw'; subst hw'')
      have bb3 := below_regrown w dq osq
      obtain ⟨w3, hw3⟩ : ∃ W9 : World, W9 = grow (redrawn w dq) osq := ⟨_, rfl⟩
      rw [← hw3] at bb3
      rw [← hw3]
      have r3 := HRS.out.keep bb3 HRS.out.lt
      obtain ⟨fz, x9, hc9⟩ := HXX.out w3 r3
      have a3 : Apg B w w3 := Apart.of_below bb3 (Nat.le_refl _)
      have FIN := Lib.hid (HPUT.out w3 r3)
      rw [HO.out] at FIN
      have A3 := Lib.hid (a3.setCell (p := ⟨B, 2 + i * 150 + k * 25 + p * 5 + q, none⟩) (Nat.le_refl _) (Nat.lt_succ_self _) (.int .i64 (knV false)))
      clear hw3 k0 k1 k2 k3 k4 k5 k6 k7 k8 k9 k10 k11 cC bb3 a3 r3
      go_wp2_with fail
      go_ret
      exact ⟨rfl, A3.out, FIN.out⟩
    case true =>
      have cC := fun (d9 : Nat) (os : Array Obj) => rg_below (w := w) (d := d9) (os := os) (CC.out _)
      have k0 := cell_regrown m0
      have k1 := cell_regrown m1
      have k2 := cell_regrown m2
      have k3 := cell_regrown m3
      have k4 := cell_regrown m4
      have k5 := cell_regrown l0
      have k6 := cell_regrown l1
      have k7 := cell_regrown l2
      have k8 := cell_regrown l3
      have k9 := cell_regrown l4
      have k10 := cell_regrown z0
      have k11 := cell_regrown z1
      clear m0 m1 m2 m3 m4 l0 l1 l2 l3 l4 z0 z1
      go_enter Try.func67, Try.ntmps67
      go_upto_region 3 with fail
      (refine wp_region_quiet_below (by kernel_rfl) (by kernel_rfl) ?_; (repeat (go_big_quiet_step (first | with_reducible exact cC _ _))); refine wpQuiet_nil ?_; intro _ hw'; obtain ⟨⟨dq, osq⟩, hw''⟩ := hw'; subst hw'')
      have bb3 := below_regrown w dq osq
      obtain ⟨w3, hw3⟩ : ∃ W9 : World, W9 = grow (redrawn w dq) osq := ⟨_, rfl⟩
      rw [← hw3] at bb3
      rw [← hw3]
      have r3 := HRS.out.keep bb3 HRS.out.lt
      obtain ⟨fz, x9, hc9⟩ := HXX.out w3 r3
      have a3 : Apg B w w3 := Apart.of_below bb3 (Nat.le_refl _)
      have FIN := Lib.hid (HPUT.out w3 r3)
      rw [HO.out] at FIN
      have A3 := Lib.hid (a3.setCell (p := ⟨B, 2 + i * 150 + k * 25 + p * 5 + q, none⟩) (Nat.le_refl _) (Nat.lt_succ_self _) (.int .i64 (knV true)))
      clear hw3 k0 k1 k2 k3 k4 k5 k6 k7 k8 k9 k10 k11 cC bb3 a3 r3
      go_wp2_with fail
      go_ret
      exact ⟨rfl, A3.out, FIN.out⟩
  · have hxv : x = knV R := by rcases hv with h | h; exact absurd h hx0; exact h
    clear hv hfr m0 m1 m2 m3 m4 l0 l1 l2 l3 l4 z0 z1 CC HXX HPUT HAT HO hx0
    subst hxv
    cases R
    all_goals
      go_enter Try.func67, Try.ntmps67
      unfold knV at hx
      simp only [if_true, Bool.false_eq_true, if_false, ↓reduceIte] at hx
      go_wp2_with fail
      go_ret
      exact ⟨rfl, Apart.refl _ _ _, HRS.out⟩
end Go.Proofs.Ytgcgkpmjahgmnaa
/- Contracts: the delays with the least sum, in the reference. -/
set_option linter.unusedSimpArgs false
set_option linter.unusedVariables false
namespace Go.Proofs.Ytgcgkpmjahgmnaa
open Go.RowKit Go.Sort

def FindPost (w : World) (B : Nat) (C : Tb) (N : Nat) (mv : Value) (L : Int) (r : Option (List Int)) (e : Ending) (w' : World) : Prop := ∃ v : Value, e = .returned v ∧ Apg B w w' ∧ RsAt w' B C N mv L ∧
  (match r with | none => v = .slice none 0 0 | some l => OwnInts w' (B + 1) v l ∧ l.length = N)
def gF (cl : Cl) (F : Nat) (ds : List Int) (s : Nat) (d : Nat) : Option (List Int) := if okAdd cl ds d then findP cl F (ds ++ [(d : Int)]) (s - d) else none
theorem findP_gF (cl : Cl) (F : Nat) (ds : List Int) (s : Nat) : findP cl (F + 1) ds s = findL (gF cl F ds s) (min s 4 + 1 - 0) 0 := rfl
theorem gF_no {cl : Cl} {F : Nat} {ds : List Int} {s d : Nat} (h : okTo_ cl ds d ds.length = false) : gF cl F ds s d = none := by
  unfold gF okAdd
  rw [h]; rfl
theorem gF_yes {cl : Cl} {F : Nat} {ds : List Int} {s d : Nat} (h : okTo_ cl ds d ds.length = true) : gF cl F ds s d = findP cl F (ds ++ [(d : Int)]) (s - d) := by
  unfold gF okAdd
  rw [h]; rfl
theorem findL_go' {g : Nat → Option (List Int)} {M j : Nat} (hj : j < M) (h : g j = none) : findL g (M - j) j = findL g (M - (j + 1)) (j + 1) := by
  rw [show M - j = (M - (j + 1)) + 1 from by omega]; exact findL_go h
theorem findL_hit' {g : Nat → Option (List Int)} {M j : Nat} {v : List Int} (hj : j < M) (h : g j = some v) : findL g (M - j) j = some v := by
  rw [show M - j = (M - (j + 1)) + 1 from by omega]; exact findL_hit h
theorem findL_0 {g : Nat → Option (List Int)} {m j : Nat} (h : m = 0) : findL g m j = none := by subst h; rfl
theorem findP_len {cl : Cl} {F : Nat} {ds v : List Int} {s : Nat} (h : findP cl F ds s = some v) : v.length = ds.length + F := by
  rw [findP_ext] at h
  exact (extD_sum cl _ _ _ (List.mem_of_find?_eq_some h)).2.1
set_option maxRecDepth 100000 in
set_option maxHeartbeats 12800000 in
theorem find_any (T : Tr) (L : Int) (hT : isRp T = true) (hL0 : 0 ≤ L) (hL : L ≤ 80) (N B : Nat) (hNT : N = T.f.length) (w1 : World) (mv : Value) (hm : RowAt mvRec w1 mv (mvsOf T)) (hwB : w1.heap.size ≤ B) (F : Nat) :
    ∀ (ds : List Int) (s : Nat) (dv : Value) (w : World), ds.length + F = N → s ≤ 24 → (∀ i, i < ds.length → 0 ≤ gi ds i ∧ gi ds i ≤ 4) → RsAt w B (tbOf (clOf T L)) N mv L → OwnInts w (B + 1) dv ds → Below w1.heap.size w1 w →
    Calls Try.prog 49 #[.pointer (some ⟨B, 0, none⟩), dv, .int .i64 (s : Int)] w (FindPost w B (tbOf (clOf T L)) N mv L (findP (clOf T L) F ds s)) := by
  have HFIT := Lib.hid (fits_any T L hT hL0 hL N B hNT w1 mv hm hwB)
  obtain ⟨i1, i2, i3, i4⟩ := isRp_t hT
  have hpl := (isMat_t (isTr_t i1).2.2.2.2.2).1
  rw [← hNT] at i3 i4 hpl
  obtain ⟨Am, cm, rfl, gm, hcm⟩ := hm.shape
  have hml : (mvsOf T).length = N := by rw [mvsOf_len]; exact hpl
  rw [hml] at HFIT gm
  rw [hml]
  clear hml hpl hm i1 i2 hT hNT
  induction F with
  | zero =>
    intro ds s dv w hF hs24 hdr hR hD hb
    obtain ⟨A, c, rfl, gd, hc⟩ := hD.reads.shape
    obtain ⟨z0, z1⟩ := hR.cells
    have HR := Lib.hid hR
    have HD := Lib.hid hD
    have hds : ds.length = N := by omega
    have HF := Lib.hid hds
    have heq : ((ds.length : Int) == (N : Int)) = true := by rw [beq_iff_eq]; omega
    clear hR hD hdr hds hF
    by_cases h0 : 0 < s
    · have HP : Hid (findP (clOf T L) 0 ds s = none) := by show _ = _; unfold findP; rw [if_pos h0]
      have h0' : (0 : Int) < (s : Int) := by omega
      go_enter Try.func49, Try.ntmps49
      go_wp2_with fail
      go_ret
      exact ⟨_, rfl, Apart.refl _ _ _, HR.out, by rw [HP.out]; rfl⟩
    · have HP : Hid (findP (clOf T L) 0 ds s = some ds) := by show _ = _; unfold findP; rw [if_neg h0]
      have h0' : ¬ (0 : Int) < (s : Int) := by omega
      go_enter Try.func49, Try.ntmps49
      go_wp2_with fail
      go_ret
      exact ⟨_, rfl, Apart.refl _ _ _, HR.out, by rw [HP.out]; exact ⟨HD.out, HF.out⟩⟩
  | succ F ih =>
    intro ds s dv w hF hs24 hdr hR hD hb
    obtain ⟨A, c, rfl, gd, hc⟩ := hD.reads.shape
    obtain ⟨z0, z1⟩ := hR.cells
    have HR := Lib.hid hR
    have HD := Lib.hid hD
    have HDR := Lib.hid hdr
    have HF := Lib.hid hF
    have hlN : ds.length < N := by omega
    have heq : ((ds.length : Int) == (N : Int)) = false := by rw [beq_eq_false_iff_ne]; omega
    have HP := Lib.hid (findP_gF (clOf T L) F ds s)
    have HBW := Lib.hid hb
    have CL := Lib.hid (fun W => l1Least_min (s : Int) 4 W)
    obtain ⟨M, hM⟩ : ∃ M, M = min s 4 := ⟨_, rfl⟩
    have hM2 : min (s : Int) 4 = (M : Int) := by omega
    rw [hM2] at CL
    have hMs : M ≤ s ∧ M ≤ 4 := by omega
    rw [← hM] at HP
    clear hR hD hdr hF hM hM2 hb
    go_enter Try.func49, Try.ntmps49
    go_wp2_with fail
    go_loopw [8] (fun i wr => ∃ j : Nat, j ≤ M + 1 ∧ i = .int .i64 j ∧ Apg B w wr ∧ RsAt wr B (tbOf (clOf T L)) N (.slice Am N cm) L ∧ Hid (findP (clOf T L) (F + 1) ds s = findL (gF (clOf T L) F ds s) (M + 1 - j) j)) (fun i _ => M + 1 - (intOf i).toNat)
    case atStart => exact ⟨0, Nat.zero_le _, rfl, Apart.refl _ _ _, HR.out, HP.out⟩
    case round =>
      obtain ⟨j, hj, rfl, ha, hr, hf⟩ := hrel
      clear z0 z1
      obtain ⟨w2, hw2⟩ : ∃ w9, w9 = wr := ⟨_, rfl⟩
      subst hw2
      by_cases hlt : j ≤ M
      · have hlt2 : (j : Int) ≤ (M : Int) := by omega
        have HR2 := Lib.hid hr
        have HA := Lib.hid ha
        clear hr ha
        go_wp2_with fail
        refine (CL.out _).mono ?_; rintro e _ ⟨rfl, rfl⟩
        go_wp2_with fail
        go_loopw [9, 33] (fun g i wr => ∃ m : Nat, m ≤ ds.length ∧ i = .int .i64 m ∧ g = .bool (okTo_ (clOf T L) ds j m) ∧ Apg B w2 wr ∧ RsAt wr B (tbOf (clOf T L)) N (.slice Am N cm) L) (fun _ i _ => ds.length - (intOf i).toNat)
        case atStart => exact ⟨0, Nat.zero_le _, rfl, rfl, Apart.refl _ _ _, HR2.out⟩
        case round =>
          obtain ⟨m, hm, rfl, rfl, ha3, hr3⟩ := hrel
          by_cases hlm : m < ds.length
          · have hD3 := (HD.out.apt (HA.out.trans ha3) (Nat.le_refl _)).reads
            obtain ⟨b0, o0, heqA, hcm'⟩ := IntsAt.at_ hD3 m hlm
            subst heqA
            obtain ⟨r1, r2⟩ := HDR.out m hlm
            obtain ⟨x, hx⟩ := Int.eq_ofNat_of_zero_le r1
            rw [hx] at hcm' r2
            have hx5 : x < 5 := by omega
            have hs := okTo_s (clOf T L) ds j m
            rw [hx] at hs
            have HS := Lib.hid hs
            have b3 : Below w1.heap.size w1 wr := HBW.out.trans ((HA.out.trans ha3).below HBW.out.size hwB)
            have CF := Lib.hid (HFIT.out m ds.length x j hlm hlN hx5 (by omega) wr hr3 b3)
            have HA3 := Lib.hid ha3
            have HR3 := Lib.hid hr3
            clear hs hx hD3 r1 b3 ha3 hr3
            cases hok : okTo_ (clOf T L) ds j m
            · rw [hok] at HS
              go_wp2_with fail
              go_roundw
              case rel => exact ⟨m + 1, by omega, by go_num, by rw [HS.out]; rfl, HA3.out, HR3.out⟩
              case measure => simp [intOf]; omega
            · rw [hok] at HS
              go_wp2_with fail
              refine CF.out.mono ?_; rintro e w4 ⟨rfl, a4, r4⟩
              go_wp2_with fail
              go_roundw
              case rel => exact ⟨m + 1, by omega, by go_num, by rw [HS.out]; rfl, HA3.out.trans a4, r4⟩
              case measure => simp [intOf]; omega
          · obtain rfl : m = ds.length := by omega
            have HR3 := Lib.hid hr3
            have HA3 := Lib.hid ha3
            clear hr3 ha3
            obtain ⟨w3, hw3⟩ : ∃ w9, w9 = wr := ⟨_, rfl⟩
            subst hw3
            cases hok : okTo_ (clOf T L) ds j ds.length
            · have HG := Lib.hid (findL_go' (show j < M + 1 by omega) (gF_no (F := F) (s := s) hok))
              clear hok
              go_wp2_with fail
              go_roundw
              case rel => exact ⟨j + 1, by omega, by go_num, HA.out.trans HA3.out, HR3.out, hf.out.trans HG.out⟩
              case measure => simp [intOf]; omega
            · have HG := Lib.hid (gF_yes (F := F) (s := s) hok)
              clear hok
              have hD3 := HD.out.apt (HA.out.trans HA3.out) (Nat.le_refl _)
              have C := Lib.hid (l1Own_any _ ds w3 hD3.reads (by omega))
              have hdn : ∀ i, i < (ds ++ [(j : Int)]).length → 0 ≤ gi (ds ++ [(j : Int)]) i ∧ gi (ds ++ [(j : Int)]) i ≤ 4 := by
                intro i hi
                rw [List.length_append, List.length_singleton] at hi
                rw [gi_snoc]
                split
                · omega
                · exact HDR.out i (by omega)
              have HI := Lib.hid (fun dv' W hg hd hb9 => ih (ds ++ [(j : Int)]) (s - j) dv' W (by rw [List.length_append, List.length_singleton]; have := HF.out; omega) (by omega) hdn hg hd hb9)
              have hcast : ((s - j : Nat) : Int) = (s : Int) - (j : Int) := by omega
              rw [hcast] at HI
              have h63 : ds.length + 1 ≤ 1099511627776 := by omega
              have hB2 := HR3.out.lt
              have b3 : Below w1.heap.size w1 w3 := HBW.out.trans ((HA.out.trans HA3.out).below HBW.out.size hwB)
              have HB3 := Lib.hid b3
              clear hdn hcast hD3 b3
              go_wp2_with fail
              refine C.out.mono ?_; rintro e w4 ⟨v4, rfl, o4, b4⟩
              go_wp2_with (at_builtin; refine wp_app_int _ rfl _ _ rfl w3.heap.size _ ds rfl o4 (j : Int) _ rfl rfl h63 b4.size ?_; intro v5 w5 o5 g5)
              have b35 := b4.trans g5.below
              have r5 := HR3.out.keep b35 hB2
              have b5 : Below w1.heap.size w1 w5 := HB3.out.trans (b35.mono HB3.out.size)
              refine (HI.out _ _ r5 (ownsRow_lo o5 hB2) b5).mono ?_; rintro e w6 ⟨v6, rfl, a6, r6, hv⟩
              have a5 : Apg B w3 w5 := Apart.of_below b35 (Nat.le_refl _)
              have A6 := Lib.hid ((((HA.out.trans HA3.out).trans a5).trans a6))
              have R6 := Lib.hid r6
              have HV := Lib.hid hv
              clear hv r6 a6 a5 b5 r5 b35 b4 o4 o5 g5
              cases hres : findP (clOf T L) F (ds ++ [(j : Int)]) (s - j) with
              | none =>
                rw [hres] at HV HG
                have HG2 := Lib.hid (findL_go' (show j < M + 1 by omega) HG.out)
                obtain rfl := HV.out
                clear hres
                go_wp2_with fail
                go_roundw
                case rel => exact ⟨j + 1, by omega, by go_num, A6.out, R6.out, hf.out.trans HG2.out⟩
                case measure => simp [intOf]; omega
              | some l =>
                rw [hres] at HV HG
                have HG2 := Lib.hid (findL_hit' (show j < M + 1 by omega) HG.out)
                obtain ⟨hv1, hv2⟩ := HV.out
                obtain ⟨A9, c9, rfl, q1, q2⟩ := hv1.reads.shape
                rw [hv2] at q1
                have hl0 : 0 < l.length := by omega
                have hl1 : (0 : Int) < (l.length : Int) := by omega
                have HFI := Lib.hid (And.intro hv1 hv2)
                clear hres hv1 hv2 HV
                go_wp2_with fail
                go_ret
                exact ⟨_, rfl, A6.out, R6.out, by rw [hf.out, HG2.out]; exact HFI.out⟩
      · obtain rfl : j = M + 1 := by omega
        have hlt2 : ¬ (((M + 1 : Nat) : Int) ≤ (M : Int)) := by omega
        have HE : Hid (findP (clOf T L) (F + 1) ds s = none) := hf.out.trans (findL_0 (by omega))
        go_wp2_with fail
        refine (CL.out _).mono ?_; rintro e _ ⟨rfl, rfl⟩
        go_wp2_with fail
        go_ret
        exact ⟨_, rfl, ha, hr, by rw [HE.out]; rfl⟩
/-- Where the sums stand: the least one is not passed. -/
def NotPast (r : Option (List Int)) (s : Nat) : Prop := match r with | none => True | some b => (s : Int) ≤ sumI b
set_option maxRecDepth 100000 in
set_option maxHeartbeats 12800000 in
theorem rpDelays_any (f t p : Value) (T : Tr) (L : Int) (w : World) (h : TrAt w f t p T) (hT : isRp T = true) (hL0 : 0 ≤ L) (hL : L ≤ 80) :
    Calls Try.prog 27 #[.agg #[f, t, .int .i64 T.c, p], .int .i64 L] w (DelPost w (dl T L)) := by
  obtain ⟨i1, i2, i3, i4⟩ := isRp_t hT
  have hpl := (isMat_t (isTr_t i1).2.2.2.2.2).1
  have bX := (Below.refl w.heap.size w).alloc (Nat.le_refl _) (.cells #[f, t, .int .i64 T.c, p] 31)
  have zT := BoxT.new 31 w f t T.c p
  obtain ⟨W, hW⟩ : ∃ W : World, W = w.alloc (.cells #[f, t, .int .i64 T.c, p] 31) := ⟨_, rfl⟩
  rw [← hW] at bX zT
  have HW := Lib.hid hW
  have ZT := Lib.hid zT
  clear hW zT
  have CM := Lib.hid (asMoves_any f t p T W (h.below bX (Nat.le_refl _)) i1)
  obtain ⟨A1, c1, e1, g1, hc1⟩ := h.f.shape
  subst e1
  obtain ⟨N, hN⟩ : ∃ N, N = T.f.length := ⟨_, rfl⟩
  have hml : (mvsOf T).length = N := by rw [mvsOf_len, hN]; exact hpl
  have hdl : Hid (dl T L = delR (clOf T L) N) := by show _ = _; rw [hN]; rfl
  rw [← hN] at i3 i4 g1
  have HB := Lib.hid bX
  have HL := Lib.hid hml
  have HN := Lib.hid hN
  have HTT := Lib.hid hT
  rw [← hN] at ZT HW CM
  rw [← hN]
  clear hN hml hpl bX h i1 i2 hT
  go_enter Try.func27, Try.ntmps27
  go_upto_region 1 with fail
  rw [← HW.out]
  obtain ⟨a0, a1, a2, a3⟩ := ZT.out.cells
  go_wp2_with fail
  refine CM.out.mono ?_; rintro e w1 ⟨mv, rfl, om, b1⟩
  have bb1 := HB.out.next (Nat.le_refl _) b1
  have om1 := om.reads
  have zz1 := ZT.out.keep b1 ZT.out.lt
  clear a0 a1 a2 a3 om
  obtain ⟨Am, cm, rfl, gm, hcm⟩ := om1.shape
  rw [HL.out] at om1 gm
  rw [HL.out]
  have zD := RsAt.new w1 (tbOf (clOf T L)) N i3 (.slice Am N cm) L
  have bD := (Below.refl w1.heap.size w1).alloc (Nat.le_refl _) (.cells ((Try.zeroCells80.setIfInBounds 0 (.slice Am N cm)).setIfInBounds 1 (.int .i64 L)) 80)
  obtain ⟨B, hB⟩ : ∃ B, B = w1.heap.size := ⟨_, rfl⟩
  obtain ⟨W1, hW1⟩ : ∃ W9 : World, W9 = w1.alloc (.cells ((Try.zeroCells80.setIfInBounds 0 (.slice Am N cm)).setIfInBounds 1 (.int .i64 L)) 80) := ⟨_, rfl⟩
  rw [← hW1, ← hB] at zD
  rw [← hW1] at bD
  have HW1 := Lib.hid hW1
  go_upto_region 2 with fail
  rw [← HW1.out]
  rw [← hB]
  have HFI := Lib.hid (find_any T L HTT.out hL0 hL N B HN.out w1 _ om1 (Nat.le_of_eq hB.symm) N)
  have HBB := Lib.hid bb1
  have HSB := Lib.hid hB
  have ZD := Lib.hid zD
  have BD := Lib.hid bD
  have Z1 := Lib.hid zz1
  have hz1 := Z1.out.lt
  have HZL := Lib.hid hz1
  clear hB hW1 om1 b1 bb1 CM HB HW HL zD bD zz1 hz1
  go_wp2_with fail
  go_loopw [7] (fun i wr => ∃ s : Nat, s ≤ 4 * N + 1 ∧ i = .int .i64 s ∧ Apg B W1 wr ∧ RsAt wr B (tbOf (clOf T L)) N (.slice Am N cm) L ∧ Hid (NotPast (dl T L) s)) (fun i _ => 4 * N + 1 - (intOf i).toNat)
  case atStart => exact ⟨0, Nat.zero_le _, rfl, Apart.refl _ _ _, ZD.out, by
    show NotPast (dl T L) 0
    unfold NotPast
    cases hd : dl T L with
    | none => trivial
    | some b => rw [hdl.out] at hd; exact (delR_bd hd).1⟩
  case round =>
    obtain ⟨s, hs, rfl, ha, hr, hp⟩ := hrel
    have b1r : Below w1.heap.size w1 wr := BD.out.trans (ha.below BD.out.size (Nat.le_of_eq HSB.out.symm))
    obtain ⟨a0, a1, a2, a3⟩ := (Z1.out.keep b1r HZL.out).cells
    by_cases hlt : s ≤ 4 * N
    · have hlt2 : (s : Int) ≤ 4 * (N : Int) := by omega
      have C := Lib.hid (HFI.out [] s (.slice none 0 0) wr (by simp) (by omega) (fun i hi => absurd hi (by simp)) hr (World.ownsRow_nil wr _ _ _) b1r)
      have HB1 := Lib.hid b1r
      have HA := Lib.hid ha
      clear b1r ha hr
      cases hd : dl T L with
      | none =>
        rw [hdl.out] at hd
        have hf := find_none hd s
        rw [hf] at C
        have HD9 := Lib.hid hd
        clear hd hf
        go_wp2_with fail
        refine C.out.mono ?_; rintro e w3 ⟨v3, rfl, a3', r3, rfl⟩
        go_wp2_with fail
        go_roundw
        case rel => exact ⟨s + 1, by omega, by go_num, HA.out.trans a3', r3, trivial⟩
        case measure => simp [intOf]; omega
      | some b =>
        have hp9 := hp.out
        rw [hd] at hp9
        replace hp9 : (s : Int) ≤ sumI b := hp9
        have HDD := Lib.hid hd
        rw [hdl.out] at hd
        by_cases hlast : (s : Int) = sumI b
        · have hf := find_at hd s hlast
          have hbl := (delR_bd hd).2.2
          rw [hf] at C
          have HLA := Lib.hid hlast
          have HBL := Lib.hid hbl
          clear hd hf hlast hp9 hbl
          go_wp2_with fail
          refine C.out.mono ?_; rintro e w3 ⟨v3, rfl, a3', r3, o3, hl3⟩
          have b3 : Below w.heap.size w w3 := HBB.out.trans ((HB1.out.trans (a3'.below HB1.out.size (Nat.le_of_eq HSB.out.symm))).mono HBB.out.size)
          obtain ⟨g9, c9, rfl, _, _⟩ := World.ownsRow.form o3 (by omega)
          have o4 : OwnInts w3 w.heap.size (.slice (some ⟨g9, 0, none⟩) b.length c9) b := ownsRow_lo o3 (by have := HBB.out.size; have := HSB.out; omega)
          have O4 := Lib.hid o4
          have hb0 : (0 : Int) < (b.length : Int) := by omega
          clear o3 o4 r3 hl3
          go_wp2_with fail
          go_ret2
          exact ⟨.slice (some ⟨g9, 0, none⟩) b.length c9, (s : Int), rfl, b3, ⟨⟨_, _, _, rfl⟩, O4.out, HLA.out⟩⟩
        · have hf := find_less hd s (by omega)
          rw [hf] at C
          have HD9 := Lib.hid hd
          have hp10 : (s : Int) + 1 ≤ sumI b := by omega
          have HP10 := Lib.hid hp10
          clear hd hf hlast hp9 hp10
          go_wp2_with fail
          refine C.out.mono ?_; rintro e w3 ⟨v3, rfl, a3', r3, rfl⟩
          go_wp2_with fail
          go_roundw
          case rel => exact ⟨s + 1, by omega, by go_num, HA.out.trans a3', r3, HP10.out⟩
          case measure => simp [intOf]; omega
    · obtain rfl : s = 4 * N + 1 := by omega
      have hnone : Hid (dl T L = none) := by
        show dl T L = none
        cases hd : dl T L with
        | none => rfl
        | some b =>
          have hp9 := hp.out
          rw [hd] at hp9
          replace hp9 : ((4 * N + 1 : Nat) : Int) ≤ sumI b := hp9
          rw [hdl.out] at hd
          have := delR_bd hd
          omega
      have hlt2 : ¬ (((4 * N + 1 : Nat) : Int) ≤ 4 * (N : Int)) := by omega
      have b3 : Below w.heap.size w wr := HBB.out.trans (b1r.mono HBB.out.size)
      clear b1r ha hr hp
      go_wp2_with fail
      go_ret2
      exact ⟨_, _, rfl, b3, by rw [hnone.out]; exact ⟨rfl, rfl⟩⟩
end Go.Proofs.Ytgcgkpmjahgmnaa
