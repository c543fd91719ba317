/- Contract of ReadView in the reference. -/
import Derived.Test.YtjbffahnbkpcnaaRvM
import Derived.Test.YtjbffahnbkpcnaaMoved
import Derived.Test.YtjbffahnbkpcnaaQuietB

set_option linter.unusedSimpArgs false
set_option linter.unusedVariables false
namespace Go.Proofs.Ytjbffahnbkpcnaa
open Go.RowKit Go.Sort


theorem OwnRow.cutTo {α : Type} {R : Rec α} {w : World} {lo c k : Nat} {A : Option Addr} {l : List α} (h : OwnRow R w lo (.slice A l.length c) l) (hk : k ≤ l.length) : OwnRow R w lo (.slice A k c) (l.take k) := by
  have hl : (l.take k).length = k := by rw [List.length_take]; omega
  unfold OwnRow
  rw [hl]
  refine ⟨by rw [rcells_len, hl], ?_⟩
  rcases h.2 with ⟨h1, h2⟩ | ⟨g, cap, cur, h1, hb, hg, hnc, hcm, hcs, ht⟩
  · injection h1 with e1 e2 e3
    subst e1 e3
    have hk0 : k = 0 := by omega
    subst hk0
    exact .inl ⟨rfl, rfl⟩
  · injection h1 with e1 e2 e3
    subst e1 e3
    refine .inr ⟨g, c, cur, rfl, hb, hg, by omega, hcm, hcs, ?_⟩
    have e4 : cur.toList.take (k * R.sz) = (cur.toList.take (l.length * R.sz)).take (k * R.sz) := by rw [List.take_take, Nat.min_eq_left (Nat.mul_le_mul_right _ hk)]
    rw [e4, ht, rcells_take]
/-- Two rows of the call's own: counts, spots. -/
def TwoSt (w : World) (g1 g2 : Nat) (F : List Int) (S : List Spt) : Prop := OwnInts w g1 (.slice (some ⟨g1, 0, none⟩) 26 26) F ∧ OwnRow sptRec w g2 (.slice (some ⟨g2, 0, none⟩) 26 26) S ∧ g1 < g2
theorem TwoSt.put1 {w : World} {g1 g2 : Nat} {F : List Int} {S : List Spt} (h : TwoSt w g1 g2 F S) (i : Nat) (x : Int) : TwoSt (w.setCell ⟨g1, i, none⟩ (.int .i64 x)) g1 g2 (F.set i x) S := by
  have h1 := h.1.setAt i x
  exact ⟨h1.1, World.ownsRow.kept h.2.1 h1.2 (.inr (by intro e; have e2 : g2 = g1 := (by simpa [Value.ownBlock] using e); have := h.2.2; omega)), h.2.2⟩
theorem TwoSt.put2 {w : World} {g1 g2 : Nat} {F : List Int} {S : List Spt} (h : TwoSt w g1 g2 F S) (i : Nat) (a : Spt) (hi : i < S.length) :
    TwoSt ((w.setCell ⟨g2, i * 2, none⟩ (.int .i64 a.x)).setCell ⟨g2, i * 2 + 1, none⟩ (.int .i64 a.y)) g1 g2 F (S.set i a) := by
  have h1 := h.2.1.set i a hi
  exact ⟨OwnInts.kept h.1 h1.2 (.inr (by intro e; have e2 : g1 = g2 := (by simpa [Value.ownBlock] using e); have := h.2.2; omega)), h1.1, h.2.2⟩
theorem TwoSt.below {w w' : World} {B g1 g2 : Nat} {F : List Int} {S : List Spt} (h : TwoSt w g1 g2 F S) (hb : Below B w w') (hB : w.heap.size ≤ B) : TwoSt w' g1 g2 F S :=
  ⟨OwnInts.below h.1 hb hB, OwnRow.below h.2.1 hb hB, h.2.2⟩
theorem TwoSt.zero {w w1 w2 : World} (h1 : w1.ownsRow w.heap.size 3 1 (.slice (some ⟨w.heap.size, 0, none⟩) 26 26) 26 (madeCells (Value.int .i64 0).cells (26 * 1)).toList)
    (h2 : w2.ownsRow w1.heap.size 25 2 (.slice (some ⟨w1.heap.size, 0, none⟩) 26 26) 26 (madeCells (spV ⟨0, 0⟩).cells (26 * 2)).toList) (hg : w1.grownBy w2 none) :
    TwoSt w2 w.heap.size w1.heap.size (List.replicate 26 0) (List.replicate 26 ⟨0, 0⟩) := by
  have o1 : OwnInts w1 w.heap.size (.slice (some ⟨w.heap.size, 0, none⟩) 26 26) (List.replicate 26 0) := by
    unfold OwnInts
    rw [List.length_replicate]
    have e : (madeCells (Value.int .i64 0).cells (26 * 1)).toList = ints (List.replicate 26 0) := by
      show (madeCells #[.int .i64 0] 26).toList = _
      rw [toList_madeCells_one]
      simp [ints]
    rw [← e]
    exact h1
  have o2 : OwnRow sptRec w2 w1.heap.size (.slice (some ⟨w1.heap.size, 0, none⟩) 26 26) (List.replicate 26 ⟨0, 0⟩) := by
    have e := made_rcells sptRec (spV ⟨0, 0⟩).cells rfl 26
    unfold OwnRow
    rw [List.length_replicate]
    have e2 : (List.replicate 26 (⟨0, 0⟩ : Spt)) = List.replicate 26 sptRec.d := rfl
    rw [e2, ← e]
    exact h2
  exact ⟨OwnInts.kept o1 hg (.inr (by simp [Value.ownBlock])), o2, (World.ownsRow.lt h1 _ rfl).2⟩
theorem chIf_any (v : Value) (l : List Spt) (w : World) (h : RowAt sptRec w v l) :
    Calls Try.prog 60 #[v] w fun e w' => e = .returned (.tuple #[if isChart l then v else .slice none 0 0, .bool (isChart l)]) ∧ Below w.heap.size w w' := by
  cases hc : isChart l
  all_goals
    go_enter Try.func60, Try.ntmps60
    go_wp2_with fail
    refine (chGood_any _ l _ h).mono ?_; rintro e w1 ⟨rfl, b1⟩
    go_wp2_with fail
    go_ret2
    exact ⟨rfl, b1⟩
set_option maxRecDepth 100000 in
set_option maxHeartbeats 12800000 in
theorem specRV (v : Value) (l : List ByteArray) (fx fy fc fr : Int) (w : World) (h : RowAt strRec w v l) (hw : WfStrs l) :
    Calls Try.prog 28 #[.agg #[.int .i64 fx, .int .i64 fy, .int .i64 fc, .int .i64 fr], v] w (FreshSpB w (rRV fx fy fc fr l)) := by
  obtain ⟨A, ca, rfl, hnA, hcA⟩ := h.shape
  have hb0 := fun o => (Below.refl w.heap.size w).alloc (Nat.le_refl _) o
  have Hb0 := Lib.hid hb0
  clear hb0
  go_enter Try.func28, Try.ntmps28
  go_upto_region 0 with fail
  go_cut [2, 4, 5] (fun b2 r4 r5 wx => b2 = .pointer (some ⟨w.heap.size, 0, none⟩) ∧ r4 = .slice none 0 0 ∧ r5 = .bool false ∧ Box4 wx w.heap.size fx fy fc fr ∧ Below w.heap.size w wx)
  case first =>
    go_wp2_with fail
    go_meet
    exact ⟨rfl, rfl, rfl, ⟨by go_simp, by go_simp, by go_simp, by go_simp⟩, Hb0.out _⟩
  case rest =>
    obtain ⟨rfl, rfl, rfl, bx0, B0⟩ := hcut
    obtain ⟨w0, hw0⟩ : ∃ w0 : World, w0 = wc := ⟨_, rfl⟩
    subst hw0
    have hc := bx0.out
    obtain ⟨c0, c1, c2, c3⟩ := hc
    have h00 := h.below B0 (Nat.le_refl _)
    have k0 := cell_regrown c0
    have k1 := cell_regrown c1
    have k2 := cell_regrown c2
    have k3 := cell_regrown c3
    clear c0 c1 c2 c3
    cases hf : isFrm fx fy fc fr
    case false =>
      have hr := Lib.hid (rRV_no1 (l := l) hf)
      have cF : ∀ d os, Calls Try.prog 50 #[.agg #[.int .i64 fx, .int .i64 fy, .int .i64 fc, .int .i64 fr]] (grow (redrawn w0 d) os) (fun e w'' => e = .returned (.bool false) ∧ ∃ p : Regrown, w'' = grow (redrawn w0 p.d) p.os) := fun d os => rg_below (by rw [← hf]; exact vwFrame_any _ _ _ _ _)
      go_upto_region 1 with fail
      (refine wp_region_quiet_below (by kernel_rfl) (by kernel_rfl) ?_; (repeat (go_big_quiet_step (first | with_reducible exact cF _ _ | with_reducible exact cV _ _))); refine wpQuiet_nil ?_; intro _ hw'; obtain ⟨⟨dq, osq⟩, hw''⟩ := hw'; subst hw'')
      go_wp2_with fail
      go_ret2
      exact ⟨_, by rw [hr.out]; rfl, by rw [hr.out]; exact OwnRow.nil_ sptRec _ _, RG.below B0 B0.size dq osq⟩
    case true =>
    have cF : ∀ d os, Calls Try.prog 50 #[.agg #[.int .i64 fx, .int .i64 fy, .int .i64 fc, .int .i64 fr]] (grow (redrawn w0 d) os) (fun e w'' => e = .returned (.bool true) ∧ ∃ p : Regrown, w'' = grow (redrawn w0 p.d) p.os) := fun d os => rg_below (by rw [← hf]; exact vwFrame_any _ _ _ _ _)
    cases hv : isVw l
    case false =>
      have hr := Lib.hid (rRV_no2 (fx := fx) (fy := fy) (fc := fc) (fr := fr) hv)
      have cV : ∀ d os, Calls Try.prog 54 #[.slice A l.length ca] (grow (redrawn w0 d) os) (fun e w'' => e = .returned (.bool false) ∧ ∃ p : Regrown, w'' = grow (redrawn w0 p.d) p.os) := fun d os => rg_same (by rw [← hv]; exact vwGood_any _ l _ (h00.below (below_regrown w0 d os) (Nat.le_refl _)) hw)
      go_upto_region 1 with fail
      (refine wp_region_quiet_below (by kernel_rfl) (by kernel_rfl) ?_; (repeat (go_big_quiet_step (first | with_reducible exact cF _ _ | with_reducible exact cV _ _))); refine wpQuiet_nil ?_; intro _ hw'; obtain ⟨⟨dq, osq⟩, hw''⟩ := hw'; subst hw'')
      go_wp2_with fail
      go_ret2
      exact ⟨_, by rw [hr.out]; rfl, by rw [hr.out]; exact OwnRow.nil_ sptRec _ _, RG.below B0 B0.size dq osq⟩
    case true =>
    have hvt := isVw_t hv
    obtain ⟨v1, v2, v3, v4, hvl⟩ := hvt
    obtain ⟨b0, o0, rfl, hc0⟩ := str_at h00 0 (by omega)
    have hc00 : w0.cell? ⟨b0, o0, none⟩ = some (.string (gx strRec l 0)) := by simpa using hc0
    clear hc0
    have k4 := cell_regrown hc00
    have hi00 : (0 : Int) < (l.length : Int) := by omega
    have cV : ∀ d os, Calls Try.prog 54 #[.slice (some ⟨b0, o0, none⟩) l.length ca] (grow (redrawn w0 d) os) (fun e w'' => e = .returned (.bool true) ∧ ∃ p : Regrown, w'' = grow (redrawn w0 p.d) p.os) := fun d os => rg_same (by rw [← hv]; exact vwGood_any _ l _ (h00.below (below_regrown w0 d os) (Nat.le_refl _)) hw)
    by_cases h3 : (l.length : Int) = fr
    case neg =>
      have hr := Lib.hid (rRV_no3 (fx := fx) (fy := fy) (fc := fc) h3)
      have q3 : ((l.length : Int) != fr) = true := by simpa using h3
      clear h3
      go_upto_region 1 with fail
      (refine wp_region_quiet_below (by kernel_rfl) (by kernel_rfl) ?_; (repeat (go_big_quiet_step (first | with_reducible exact cF _ _ | with_reducible exact cV _ _))); refine wpQuiet_nil ?_; intro _ hw'; obtain ⟨⟨dq, osq⟩, hw''⟩ := hw'; subst hw'')
      go_wp2_with fail
      go_ret2
      exact ⟨_, by rw [hr.out]; rfl, by rw [hr.out]; exact OwnRow.nil_ sptRec _ _, RG.below B0 B0.size dq osq⟩
    case pos =>
    by_cases h4 : ((gx strRec l 0).size : Int) = fc
    case neg =>
      have hr := Lib.hid (rRV_no4 (fx := fx) (fy := fy) (fr := fr) h4)
      have q3 : ((l.length : Int) != fr) = false := by simpa using h3
      have q4 : (((gx strRec l 0).size : Int) != fc) = true := by simpa using h4
      clear h3 h4
      go_upto_region 1 with fail
      (refine wp_region_quiet_below (by kernel_rfl) (by kernel_rfl) ?_; (repeat (go_big_quiet_step (first | with_reducible exact cF _ _ | with_reducible exact cV _ _))); refine wpQuiet_nil ?_; intro _ hw'; obtain ⟨⟨dq, osq⟩, hw''⟩ := hw'; subst hw'')
      go_wp2_with fail
      go_ret2
      exact ⟨_, by rw [hr.out]; rfl, by rw [hr.out]; exact OwnRow.nil_ sptRec _ _, RG.below B0 B0.size dq osq⟩
    case pos =>
    have hr := Lib.hid (rRV_yes hf hv h3 h4)
    have q3 : ((l.length : Int) != fr) = false := by simpa using h3
    have q4 : (((gx strRec l 0).size : Int) != fc) = false := by simpa using h4
    have hfs := isFrm_s hf
    obtain ⟨p1, p2, p3, p4⟩ := hfs
    have Hvl : Hid (∀ i, i < l.length → (gx strRec l i).size ≤ 60 ∧ okS (gx strRec l i) = true) := fun i hi => ⟨by have := (lnOk_t (hvl i hi)).1; omega, (lnOk_t (hvl i hi)).2⟩
    have H3 := Lib.hid h3
    clear h3 h4 hvl
    go_upto_region 1 with fail
    (refine wp_region_quiet_below (by kernel_rfl) (by kernel_rfl) ?_; (repeat (go_big_quiet_step (first | with_reducible exact cF _ _ | with_reducible exact cV _ _))); refine wpQuiet_nil ?_; intro _ hw'; obtain ⟨⟨dq, osq⟩, hw''⟩ := hw'; subst hw'')
    have B1 := RG.below B0 B0.size dq osq
    have bx1 := bx0.keep (below_regrown w0 dq osq) (Nat.le_refl _)
    have h01 := h00.below (below_regrown w0 dq osq) (Nat.le_refl _)
    obtain ⟨W, hW⟩ : ∃ W : World, W = grow (redrawn w0 dq) osq := ⟨_, rfl⟩
    rw [← hW] at B1 bx1 h01
    have cF2 := cF
    clear cF cF2 cV k0 k1 k2 k3 k4 hf hv
    rw [← hW]
    clear hW hc00 h00 bx0 q3 q4
    have hR := H3.out
    subst hR
    have hwl := bx1.lt
    obtain ⟨i1, hi1, hx0, hx1, hx2⟩ := info_parts info_int
    obtain ⟨i2, hi2, hy0, hy1, hy2⟩ := info_parts info_spt
    go_upto_region 3 with fail
    go_cut [6] (fun s6 wx => s6 = .slice (some ⟨W.heap.size, 0, none⟩) 26 26 ∧ wx.ownsRow W.heap.size 3 1 (.slice (some ⟨W.heap.size, 0, none⟩) 26 26) 26 (madeCells (Value.int .i64 0).cells (26 * 1)).toList ∧ Below W.heap.size W wx)
    case first =>
      go_wp2_with (at_make; refine wpList_make_full _ rfl _ _ 34 rfl W.heap.size 3 i1 _ 1 Try.underlying34 hi1 hx0 hx1 _ _ _ _ 26 rfl rfl rfl rfl (by rw [hx2]; omega) (by unfold maxLen; omega) (Nat.le_refl _) ?_; intro w1 hown1 hg1)
      go_meet
      exact ⟨rfl, hown1, (Below.refl _ _).grown hg1 (Nat.le_refl _) (fun k hk => by cases hk)⟩
    case rest =>
    obtain ⟨rfl, own1, b1⟩ := hcut
    obtain ⟨W1, hW1⟩ : ∃ W1 : World, W1 = wc := ⟨_, rfl⟩
    subst hW1
    have hs1 := b1.size
    go_upto_region 4 with fail
    go_cut [7] (fun s7 wx => s7 = .slice (some ⟨W1.heap.size, 0, none⟩) 26 26 ∧ TwoSt wx W.heap.size W1.heap.size (rvAll fx fy l.length l 0).1 (rvAll fx fy l.length l 0).2 ∧ Below W.heap.size W wx)
    case first =>
      go_wp2_with (at_make; refine wpList_make_full _ rfl _ _ 28 rfl W1.heap.size 25 i2 _ 2 Try.underlying28 hi2 hy0 hy1 _ _ _ _ 26 rfl rfl rfl rfl (by rw [hy2]; omega) (by unfold maxLen; omega) (Nat.le_refl _) ?_; intro w2 hown2 hg2)
      have hts := TwoSt.zero own1 hown2 hg2
      go_meet
      exact ⟨rfl, hts, b1.grown hg2 b1.size (fun k hk => by cases hk)⟩
    case rest =>
    obtain ⟨rfl, TS, b2⟩ := hcut
    obtain ⟨W2, hW2⟩ : ∃ W2 : World, W2 = wc := ⟨_, rfl⟩
    subst hW2
    clear own1
    have hgg := TS.2.2
    go_wp2_with fail
    go_loopw [43] (fun s wr => ∃ k : Nat, k ≤ l.length ∧ s = .int .i64 k ∧ TwoSt wr W.heap.size W1.heap.size (rvAll fx fy l.length l k).1 (rvAll fx fy l.length l k).2 ∧ Below W.heap.size W wr) (fun s _ => l.length - (intOf s).toNat)
    case atStart => exact ⟨0, Nat.zero_le _, rfl, TS, b2⟩
    case round =>
      obtain ⟨k, hk, rfl, T2, b3⟩ := hrel
      by_cases hlt : k < l.length
      · obtain ⟨b', o', he, hck⟩ := str_at (h01.below b3 (Nat.le_refl _)) k hlt
        injection he with he; injection he with e1 e2; subst e1 e2
        have hvk := Hvl.out k hlt
        obtain ⟨s, hs⟩ : ∃ s, s = gx strRec l k := ⟨_, rfl⟩
        have Hle := Lib.hid (fun (i : Nat) (hi : i < 26) => And.intro (rvAll_ge (fx := fx) (fy := fy) (R := l.length) (l := l) hi k) (rvAll_le (fx := fx) (fy := fy) (R := l.length) (l := l) (m := 60) hi k (fun j hj => (Hvl.out j (by omega)).1)))
        have Hs26 := Lib.hid (rvAll_26 fx fy l.length l k)
        obtain ⟨st, hst⟩ : ∃ st, st = rvAll fx fy l.length l k := ⟨_, rfl⟩
        have Hst : Hid (rvAll fx fy l.length l (k + 1) = rvRow fx fy l.length s k st s.size) := by show _ = _; rw [hs, hst]; rfl
        rw [← hs] at hck hvk
        rw [← hst] at T2 Hle Hs26
        obtain ⟨hz1, hz2⟩ := hvk
        have Hok := Lib.hid hz2
        clear hs hz2 hst
        go_wp2_with fail
        go_loopw [10] (fun t wr => ∃ c : Nat, c ≤ s.size ∧ t = .int .i64 c ∧ TwoSt wr W.heap.size W1.heap.size (rvRow fx fy l.length s k st c).1 (rvRow fx fy l.length s k st c).2 ∧ Below W.heap.size W wr) (fun t _ => s.size - (intOf t).toNat)
        case atStart => exact ⟨0, Nat.zero_le _, rfl, T2, b3⟩
        case round =>
          obtain ⟨c, hcs, rfl, T3, b4⟩ := hrel
          by_cases hlc : c < s.size
          · obtain ⟨n, hn⟩ : ∃ n, n = bt s c := ⟨_, rfl⟩
            have hb9 : (s[c]).toNat = n := by rw [hn]; exact bt_eq hlc
            have hokc : okC n = true := by rw [hn]; exact okS_at Hok.out hlc
            by_cases hd : n = 46
            · have Hd : Hid (rvRow fx fy l.length s k st (c + 1) = rvRow fx fy l.length s k st c) := rvRow_dot (by rw [← hn]; exact hd)
              have y1 : ((n : Int) == 46) = true := by simp; omega
              clear hn hokc
              go_wp2_with fail
              go_roundw
              case rel => exact ⟨c + 1, by omega, by go_num, by rw [Hd.out]; exact T3, b4⟩
              case measure => simp [intOf]; omega
            · obtain ⟨x3, x4⟩ := okC_let hokc hd
              have Hp := Lib.hid (rvRow_put (fx := fx) (fy := fy) (R := l.length) (s := s) (k := k) (st := st) (c := c) (by rw [← hn]; exact hd))
              rw [← hn] at Hp
              obtain ⟨i, hin⟩ : ∃ i, i = n - 65 := ⟨_, rfl⟩
              rw [← hin] at Hp x4
              have y1 : ((n : Int) == 46) = false := by simp; omega
              have y2 : ((n : Int) - 65) = (i : Int) := by omega
              have y3 : IntKind.u8.wrap (i : Int) = (i : Int) := by rw [show IntKind.u8.wrap (i : Int) = (i : Int) % 256 from rfl]; omega
              have y4 : IntKind.u8.wrap ((n : Int) - 65) = (i : Int) := by rw [y2, y3]
              clear hn hin hokc hd
              have h26 := rvRow_26 (fx := fx) (fy := fy) (R := l.length) (k := k) (s := s) Hs26.out c
              have q1 := Hle.out i x4
              have q2 := rvRow_le (fx := fx) (fy := fy) (R := l.length) (k := k) (s := s) Hs26.out x4 c
              have q3 := rvRow_mono (fx := fx) (fy := fy) (R := l.length) (k := k) (s := s) Hs26.out x4 0 c (Nat.zero_le _)
              have q4 : gi st.1 i ≤ gi (rvRow fx fy l.length s k st c).1 i := q3
              have hcell := OwnInts.cellOf T3.1 i (by rw [h26.1]; exact x4)
              have hfr := OwnInts.freeAt T3.1 i
              obtain ⟨fi, hfi⟩ : ∃ fi, fi = gi (rvRow fx fy l.length s k st c).1 i := ⟨_, rfl⟩
              have T4 := T3.put1 i (gi (rvRow fx fy l.length s k st c).1 i + 1)
              obtain ⟨st2, hst2⟩ : ∃ st2, st2 = rvRow fx fy l.length s k st c := ⟨_, rfl⟩
              rw [← hfi] at hcell q2 q4 T4
              rw [← hst2] at hfi h26 T4 T3
              have Hp2 : Hid (rvRow fx fy l.length s k st (c + 1) = (st2.1.set i (fi + 1), st2.2.set i ⟨fx + 8 * (c : Int), fy + 8 * ((l.length : Int) - 1 - (k : Int))⟩)) := by show _ = _; rw [Hp.out, ← hst2, hfi]; rfl
              have f0 : 0 ≤ fi := by omega
              have f1 : fi ≤ 3000 := by omega
              clear q1 q2 q3 q4 hfi hst2 Hp
              have b5 : Below W.heap.size W (wr.setCell ⟨W.heap.size, i, none⟩ (.int .i64 (fi + 1))) := b4.setCell (Nat.le_refl _) _
              have HT4 := Lib.hid T4
              have HB5 := Lib.hid b5
              clear T4 b5
              go_upto_region 13 with fail
              go_cut [] (fun wx => TwoSt wx W.heap.size W1.heap.size (st2.1.set i (fi + 1)) st2.2 ∧ Below W.heap.size W wx)
              case first =>
                go_wp2_with fail
                go_meet
                exact ⟨HT4.out, HB5.out⟩
              case rest =>
              obtain ⟨T5, b6⟩ := hcut
              obtain ⟨X, hX⟩ : ∃ X : World, X = wc := ⟨_, rfl⟩
              subst hX
              have h27 := h26.2
              obtain ⟨z0, z1⟩ := spt_own T5.2.1 i (by omega)
              have fz0 : X.frozen? ⟨W1.heap.size, i * 2, none⟩ = false := T5.2.1.free _
              have fz1 : X.frozen? ⟨W1.heap.size, i * 2 + 1, none⟩ = false := T5.2.1.free _
              have HT6 := Lib.hid (T5.put2 i ⟨fx + 8 * (c : Int), fy + 8 * ((l.length : Int) - 1 - (k : Int))⟩ (by omega))
              have HB6 := Lib.hid ((b6.setCell (p := ⟨W1.heap.size, i * 2, none⟩) (by exact hs1) (.int .i64 (fx + 8 * (c : Int)))).setCell (p := ⟨W1.heap.size, i * 2 + 1, none⟩) (by exact hs1) (.int .i64 (fy + 8 * ((l.length : Int) - 1 - (k : Int)))))
              have bx5 := (bx1.keep b6 (Nat.le_refl _)).out
              obtain ⟨c0, c1, c2, c3⟩ := bx5
              clear T5 T3 hcell hfr
              go_wp2_with fail
              go_roundw
              case rel => exact ⟨c + 1, by omega, by go_num, by rw [Hp2.out]; exact HT6.out, HB6.out⟩
              case measure => simp [intOf]; omega
          · obtain rfl : c = s.size := by omega
            have M9 : TwoSt wr W.heap.size W1.heap.size (rvAll fx fy l.length l (k + 1)).1 (rvAll fx fy l.length l (k + 1)).2 := by rw [Hst.out]; exact T3
            go_wp2_with fail
            go_roundw
            case rel => exact ⟨k + 1, by omega, by go_num, M9, b4⟩
            case measure => simp [intOf]; omega
      · obtain rfl : k = l.length := by omega
        have H26 := Lib.hid (rvAll_26 fx fy l.length l l.length)
        have Hge := Lib.hid (fun (i : Nat) (hi : i < 26) => rvAll_ge (fx := fx) (fy := fy) (R := l.length) (l := l) hi l.length)
        obtain ⟨st, hst⟩ : ∃ st, st = rvAll fx fy l.length l l.length := ⟨_, rfl⟩
        rw [← hst] at T2 hr H26 Hge
        clear hst
        obtain ⟨W3, hW3⟩ : ∃ W3 : World, W3 = wr := ⟨_, rfl⟩
        subst hW3
        have HB := Lib.hid (B1.trans (b3.mono B1.size))
        go_wp2_with fail
        go_loopw [12] (fun s wr => ∃ n : Nat, n ≤ 26 ∧ s = .int .i64 n ∧ Hid (∀ j, j < n → gi st.1 j = 1) ∧ wr = W3) (fun s _ => 26 - (intOf s).toNat)
        case atStart => exact ⟨0, Nat.zero_le _, rfl, fun j hj => absurd hj (by omega), rfl⟩
        case round =>
          obtain ⟨n, hn26, rfl, hone, rfl⟩ := hrel
          by_cases hlt : n < 26
          · have hcell := OwnInts.cellOf T2.1 n (by rw [H26.out.1]; exact hlt)
            by_cases hq : gi st.1 n = 1
            · have hone2 : Hid (∀ j, j < n + 1 → gi st.1 j = 1) := fun j hj => by rcases Nat.lt_or_ge j n with q9 | q9; exact hone.out j q9; (obtain rfl : j = n := by omega); exact hq
              rw [hq] at hcell
              clear hq
              go_wp2_with fail
              go_roundw
              case rel => exact ⟨n + 1, by omega, by go_num, hone2, trivial⟩
              case measure => simp [intOf]; omega
            · have HN : Hid (n < st.1.length → gi st.1 n ≠ 1) := fun _ => hq
              have y9 : (gi st.1 n == 1) = false := by simpa using hq
              clear hq
              have HO := Lib.hid (ones_is hone.out (by rw [H26.out.1]; omega) HN.out)
              obtain ⟨m, hm⟩ : ∃ m, m = 26 - n := ⟨_, rfl⟩
              have hcut := IntsAt.cut (c := 26) (A := some ⟨W.heap.size, 0, none⟩) (l := st.1) (w := wr) (by rw [H26.out.1]; exact T2.1.reads) n (26 - n) (by rw [H26.out.1]; omega)
              rw [List.take_of_length_le (by rw [List.length_drop, H26.out.1]; exact Nat.le_refl _)] at hcut
              rw [if_neg (by omega)] at hcut
              have hd26 : (st.1.drop n).length = m := by rw [List.length_drop, H26.out.1, hm]
              have Hz : Hid (∀ j, j < m → gi (st.1.drop n) j = gi st.1 (n + j)) := fun j hj => gi_drop (by rw [H26.out.1]; omega)
              have hm2 : ((26 : Int) - (n : Int)) = (m : Int) := by omega
              have HD := Lib.hid hd26
              clear hd26 hm2
              go_upto_region 19 with fail
              go_cut [103, 104, 105] (fun a b c wx => (∃ A9 c9, a = .slice A9 m c9 ∧ IntsAt wr (.slice A9 m c9) (st.1.drop n)) ∧ b = .int .i64 m ∧ c = .int .i64 0 ∧ wx = wr)
              case first =>
                go_wp2_with fail
                go_meet
                exact ⟨⟨_, _, by subst hm; first | rfl | simp, by subst hm; first | exact hcut | simpa [Addr.add_lit] using hcut⟩, by subst hm; first | rfl | (simp; omega), rfl, rfl⟩
              case rest =>
              obtain ⟨⟨A9, c9, rfl, hC⟩, rfl, rfl, hWc⟩ := hcut
              subst hWc
              go_wp2_with fail
              go_loopw [105] (fun s w9 => ∃ j : Nat, j ≤ m ∧ s = .int .i64 j ∧ Hid (∀ i, n ≤ i → i < n + j → gi st.1 i = 0) ∧ w9 = wc) (fun s _ => m - (intOf s).toNat)
              case atStart => exact ⟨0, Nat.zero_le _, rfl, fun i h1 h2 => absurd h2 (by omega), rfl⟩
              case round =>
                obtain ⟨j, hj, rfl, hzz, rfl⟩ := hrel
                by_cases hj2 : j < m
                · obtain ⟨b9, o9, rfl, hcj⟩ := IntsAt.at_ hC j (by rw [HD.out]; exact hj2)
                  rw [Hz.out j hj2] at hcj
                  have hge := Hge.out (n + j) (by omega)
                  rcases Int.lt_or_le 0 (gi st.1 (n + j)) with q | q
                  · have hfin : Hid (rRV fx fy fc l.length l = ([], false)) := by show _ = _; rw [hr.out]; exact rvRes_no (restZero_no (i := n + j) (by rw [H26.out.1]; omega) (by rw [HO.out]; omega) (by omega))
                    go_wp2_with fail
                    go_ret2
                    exact ⟨_, by rw [hfin.out]; rfl, by rw [hfin.out]; exact OwnRow.nil_ sptRec _ _, HB.out⟩
                  · have hz2 : Hid (∀ i, n ≤ i → i < n + (j + 1) → gi st.1 i = 0) := fun i h1 h2 => by rcases Nat.lt_or_ge i (n + j) with q9 | q9; exact hzz.out i h1 q9; (obtain rfl : i = n + j := by omega); omega
                    go_wp2_with fail
                    go_roundw
                    case rel => exact ⟨j + 1, by omega, by go_num, hz2, trivial⟩
                    case measure => simp [intOf]; omega
                · obtain rfl : j = m := by omega
                  have hrz : restZero st.1 = true := restZero_yes fun i h1 h2 => hzz.out i (by rw [HO.out] at h1; exact h1) (by rw [H26.out.1] at h2; omega)
                  have hres := rvRes_yes hrz
                  rw [HO.out] at hres
                  have Hres := Lib.hid hres
                  clear hrz hres
                  have hO : OwnRow sptRec wr W1.heap.size (.slice (some ⟨W1.heap.size, 0, none⟩) n 26) (st.2.take n) := OwnRow.cutTo (by rw [H26.out.2]; exact T2.2.1) (by rw [H26.out.2]; omega)
                  go_wp2_with fail
                  refine (chIf_any _ (st.2.take n) _ hO.reads).mono ?_; rintro e w9 ⟨rfl, b10⟩
                  cases hc : isChart (st.2.take n)
                  case false =>
                    have hfin : Hid (rRV fx fy fc l.length l = ([], false)) := by show _ = _; rw [hr.out, Hres.out]; exact chartR_no hc
                    clear hc
                    go_wp2_with fail
                    go_ret2
                    exact ⟨_, by rw [hfin.out]; rfl, by rw [hfin.out]; exact OwnRow.nil_ sptRec _ _, HB.out.trans (b10.mono HB.out.size)⟩
                  case true =>
                    have hfin : Hid (rRV fx fy fc l.length l = (st.2.take n, true)) := by show _ = _; rw [hr.out, Hres.out]; exact chartR_yes hc
                    clear hc
                    go_wp2_with fail
                    go_ret2
                    exact ⟨_, by rw [hfin.out]; rfl, by rw [hfin.out]; exact OwnRow.lo (OwnRow.below hO b10 (Nat.le_refl _)) (by have := B1.size; omega), HB.out.trans (b10.mono HB.out.size)⟩
          · obtain rfl : n = 26 := by omega
            have HN : Hid (26 < st.1.length → gi st.1 26 ≠ 1) := fun h9 => absurd h9 (by rw [H26.out.1]; omega)
            have HO := Lib.hid (ones_is hone.out (by rw [H26.out.1]; omega) HN.out)
            obtain ⟨m, hm⟩ : ∃ m, m = 26 - 26 := ⟨_, rfl⟩
            have hcut := IntsAt.cut (c := 26) (A := some ⟨W.heap.size, 0, none⟩) (l := st.1) (w := wr) (by rw [H26.out.1]; exact T2.1.reads) 26 (26 - 26) (by rw [H26.out.1]; omega)
            rw [List.take_of_length_le (by rw [List.length_drop, H26.out.1]; exact Nat.le_refl _)] at hcut
            have hd26 : (st.1.drop 26).length = m := by rw [List.length_drop, H26.out.1, hm]
            have Hz : Hid (∀ j, j < m → gi (st.1.drop 26) j = gi st.1 (26 + j)) := fun j hj => gi_drop (by rw [H26.out.1]; omega)
            have hm2 : ((26 : Int) - (26 : Int)) = (m : Int) := by omega
            have HD := Lib.hid hd26
            clear hd26 hm2
            go_upto_region 19 with fail
            go_cut [103, 104, 105] (fun a b c wx => (∃ A9 c9, a = .slice A9 m c9 ∧ IntsAt wr (.slice A9 m c9) (st.1.drop 26)) ∧ b = .int .i64 m ∧ c = .int .i64 0 ∧ wx = wr)
            case first =>
              go_wp2_with fail
              go_meet
              exact ⟨⟨_, _, by subst hm; first | rfl | simp, by subst hm; first | exact hcut | simpa [Addr.add_lit] using hcut⟩, by subst hm; first | rfl | (simp; omega), rfl, rfl⟩
            case rest =>
            obtain ⟨⟨A9, c9, rfl, hC⟩, rfl, rfl, hWc⟩ := hcut
            subst hWc
            go_wp2_with fail
            go_loopw [105] (fun s w9 => ∃ j : Nat, j ≤ m ∧ s = .int .i64 j ∧ Hid (∀ i, 26 ≤ i → i < 26 + j → gi st.1 i = 0) ∧ w9 = wc) (fun s _ => m - (intOf s).toNat)
            case atStart => exact ⟨0, Nat.zero_le _, rfl, fun i h1 h2 => absurd h2 (by omega), rfl⟩
            case round =>
              obtain ⟨j, hj, rfl, hzz, rfl⟩ := hrel
              by_cases hj2 : j < m
              · exfalso; omega
              · obtain rfl : j = m := by omega
                have hrz : restZero st.1 = true := restZero_yes fun i h1 h2 => hzz.out i (by rw [HO.out] at h1; exact h1) (by rw [H26.out.1] at h2; omega)
                have hres := rvRes_yes hrz
                rw [HO.out] at hres
                have Hres := Lib.hid hres
                clear hrz hres
                have hO : OwnRow sptRec wr W1.heap.size (.slice (some ⟨W1.heap.size, 0, none⟩) 26 26) (st.2.take 26) := OwnRow.cutTo (by rw [H26.out.2]; exact T2.2.1) (by rw [H26.out.2]; omega)
                go_wp2_with fail
                refine (chIf_any _ (st.2.take 26) _ hO.reads).mono ?_; rintro e w9 ⟨rfl, b10⟩
                cases hc : isChart (st.2.take 26)
                case false =>
                  have hfin : Hid (rRV fx fy fc l.length l = ([], false)) := by show _ = _; rw [hr.out, Hres.out]; exact chartR_no hc
                  clear hc
                  go_wp2_with fail
                  go_ret2
                  exact ⟨_, by rw [hfin.out]; rfl, by rw [hfin.out]; exact OwnRow.nil_ sptRec _ _, HB.out.trans (b10.mono HB.out.size)⟩
                case true =>
                  have hfin : Hid (rRV fx fy fc l.length l = (st.2.take 26, true)) := by show _ = _; rw [hr.out, Hres.out]; exact chartR_yes hc
                  clear hc
                  go_wp2_with fail
                  go_ret2
                  exact ⟨_, by rw [hfin.out]; rfl, by rw [hfin.out]; exact OwnRow.lo (OwnRow.below hO b10 (Nat.le_refl _)) (by have := B1.size; omega), HB.out.trans (b10.mono HB.out.size)⟩
end Go.Proofs.Ytjbffahnbkpcnaa
