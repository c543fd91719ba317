/- Contract of ReadView in the program. -/
import Derived.Test.YtjbffahnbkpcnaaRvM
import Derived.Test.YtjbffahnbkpcnaaMoved
import Derived.Test.YtjbffahnbkpcnaaQuietB
import Derived.Test.YtjbffahnbkpcnaaChartI
import Derived.WideMake
set_option linter.unusedSimpArgs false
set_option linter.unusedVariables false
namespace Go.Proofs.Ytjbffahnbkpcnaa
open Go.RowKit Go.Sort


/-- A store into the map at a letter that lacks. -/
theorem wp_put {P9 : Unit} (w : World) {ops : Array Oper} {rest : List Oper} {o : Oper} {a : Act} {Q : Exit → Act → World → Prop}
    (hg : o.guard = none) (m x v : Operand) (t : TypeId) (hop : o.op = Op.mapUpdate t m x v) (ht : t = 84) (b : Nat) (st : List Int × List Spt) (i : Nat) (y : Spt)
    (hm : a.eval m = .map (some b)) (h : MapSp w b st) (hi : i < 26) (h0 : gi st.1 i = 0) (hx : a.eval x = .int .i64 i) (hv : a.eval v = spV y)
    (hK : ∀ w', MapSp w' b (rvPut st i y) → w.grownBy w' (some b) → wpList Try.prog ops Q rest (a.put o.dst undef) w') :
    wpList Try.prog ops Q (o :: rest) a w := by
  subst ht
  refine wpList_plain hg fun K' hK' => ?_
  obtain ⟨w', hrun, r1, r2⟩ := h.put i hi h0 y
  unfold Oper.wp
  simp [execOp, hop, hm, hx, hv, hrun, Result.andThen]
  exact hK' _ _ (hK w' r1 r2)
theorem asForm_any (v : Value) (l : List Spt) (w : World) (h : RowAt sptRec w v l) :
    Calls Try.prog 59 #[v] w fun e w' => e = .returned (.tuple #[if isChart l then v else .slice none 0 0, .bool (isChart l)]) ∧ Below w.heap.size w w' := by
  cases hc : isChart l
  all_goals
    go_enter Try.func59, Try.ntmps59
    go_wp2_with fail
    refine (implIsChart _ l _ h).mono ?_; rintro e w1 ⟨rfl, b1⟩
    go_wp2_with fail
    go_ret2
    exact ⟨rfl, b1⟩
theorem grown_below9 {w w' : World} {b B : Nat} (h : w.grownBy w' (some b)) (hB : B ≤ b) (hw : B ≤ w.heap.size) : Below B w w' :=
  ⟨h.os, h.tape, h.output, h.size, fun k hk => h.block k (by omega) (by intro e; injection e; omega)⟩
set_option maxRecDepth 100000 in
set_option maxHeartbeats 12800000 in
theorem implRV (v : Value) (l : List ByteArray) (fx fy fc fr : Int) (w : World) (h : RowAt strRec w v l) (hw : WfStrs l) :
    Calls Try.prog 27 #[.agg #[.int .i64 fx, .int .i64 fy, .int .i64 fc, .int .i64 fr], v] w (FreshSpB w (rRV fx fy fc fr l)) := by
  obtain ⟨A, ca, rfl, hnA, hcA⟩ := h.shape
  have hb0 := fun o => (Below.refl w.heap.size w).alloc (Nat.le_refl _) o
  have Hb0 := Lib.hid hb0
  clear hb0
  go_enter Try.func27, Try.ntmps27
  go_upto_region 0 with fail
  go_cut [2, 4, 5] (fun b2 r4 r5 wx => b2 = .pointer (some ⟨w.heap.size, 0, none⟩) ∧ r4 = .slice none 0 0 ∧ r5 = .bool false ∧ Box4 wx w.heap.size fx fy fc fr ∧ Below w.heap.size w wx)
  case first =>
    go_wp2_with fail
    go_meet
    exact ⟨rfl, rfl, rfl, ⟨by go_simp, by go_simp, by go_simp, by go_simp⟩, Hb0.out _⟩
  case rest =>
    obtain ⟨rfl, rfl, rfl, bx0, B0⟩ := hcut
    obtain ⟨w0, hw0⟩ : ∃ w0 : World, w0 = wc := ⟨_, rfl⟩
    subst hw0
    have hc := bx0.out
    obtain ⟨c0, c1, c2, c3⟩ := hc
    have h00 := h.below B0 (Nat.le_refl _)
    have k0 := cell_regrown c0
    have k1 := cell_regrown c1
    have k2 := cell_regrown c2
    have k3 := cell_regrown c3
    clear c0 c1 c2 c3
    cases hf : isFrm fx fy fc fr
    case false =>
      have hr := Lib.hid (rRV_no1 (l := l) hf)
      have cF : ∀ d os, Calls Try.prog 18 #[.agg #[.int .i64 fx, .int .i64 fy, .int .i64 fc, .int .i64 fr]] (grow (redrawn w0 d) os) (fun e w'' => e = .returned (.bool false) ∧ ∃ p : Regrown, w'' = grow (redrawn w0 p.d) p.os) := fun d os => rg_below (by rw [← hf]; exact implIsFrameOf _ _ _ _ _)
      go_upto_region 1 with fail
      (refine wp_region_quiet_below (by kernel_rfl) (by kernel_rfl) ?_; (repeat (go_big_quiet_step (first | with_reducible exact cF _ _ | with_reducible exact cV _ _))); refine wpQuiet_nil ?_; intro _ hw'; obtain ⟨⟨dq, osq⟩, hw''⟩ := hw'; subst hw'')
      go_wp2_with fail
      go_ret2
      exact ⟨_, by rw [hr.out]; rfl, by rw [hr.out]; exact OwnRow.nil_ sptRec _ _, RG.below B0 B0.size dq osq⟩
    case true =>
    have cF : ∀ d os, Calls Try.prog 18 #[.agg #[.int .i64 fx, .int .i64 fy, .int .i64 fc, .int .i64 fr]] (grow (redrawn w0 d) os) (fun e w'' => e = .returned (.bool true) ∧ ∃ p : Regrown, w'' = grow (redrawn w0 p.d) p.os) := fun d os => rg_below (by rw [← hf]; exact implIsFrameOf _ _ _ _ _)
    cases hv : isVw l
    case false =>
      have hr := Lib.hid (rRV_no2 (fx := fx) (fy := fy) (fc := fc) (fr := fr) hv)
      have cV : ∀ d os, Calls Try.prog 52 #[.slice A l.length ca] (grow (redrawn w0 d) os) (fun e w'' => e = .returned (.bool false) ∧ ∃ p : Regrown, w'' = grow (redrawn w0 p.d) p.os) := fun d os => rg_same (by rw [← hv]; exact isView_any _ l _ (h00.below (below_regrown w0 d os) (Nat.le_refl _)) hw)
      go_upto_region 1 with fail
      (refine wp_region_quiet_below (by kernel_rfl) (by kernel_rfl) ?_; (repeat (go_big_quiet_step (first | with_reducible exact cF _ _ | with_reducible exact cV _ _))); refine wpQuiet_nil ?_; intro _ hw'; obtain ⟨⟨dq, osq⟩, hw''⟩ := hw'; subst hw'')
      go_wp2_with fail
      go_ret2
      exact ⟨_, by rw [hr.out]; rfl, by rw [hr.out]; exact OwnRow.nil_ sptRec _ _, RG.below B0 B0.size dq osq⟩
    case true =>
    have hvt := isVw_t hv
    obtain ⟨v1, v2, v3, v4, hvl⟩ := hvt
    obtain ⟨b0, o0, rfl, hc0⟩ := str_at h00 0 (by omega)
    have hc00 : w0.cell? ⟨b0, o0, none⟩ = some (.string (gx strRec l 0)) := by simpa using hc0
    clear hc0
    have k4 := cell_regrown hc00
    have hi00 : (0 : Int) < (l.length : Int) := by omega
    have cV : ∀ d os, Calls Try.prog 52 #[.slice (some ⟨b0, o0, none⟩) l.length ca] (grow (redrawn w0 d) os) (fun e w'' => e = .returned (.bool true) ∧ ∃ p : Regrown, w'' = grow (redrawn w0 p.d) p.os) := fun d os => rg_same (by rw [← hv]; exact isView_any _ l _ (h00.below (below_regrown w0 d os) (Nat.le_refl _)) hw)
    by_cases h3 : (l.length : Int) = fr
    case neg =>
      have hr := Lib.hid (rRV_no3 (fx := fx) (fy := fy) (fc := fc) h3)
      have q3 : ((l.length : Int) != fr) = true := by simpa using h3
      clear h3
      go_upto_region 1 with fail
      (refine wp_region_quiet_below (by kernel_rfl) (by kernel_rfl) ?_; (repeat (go_big_quiet_step (first | with_reducible exact cF _ _ | with_reducible exact cV _ _))); refine wpQuiet_nil ?_; intro _ hw'; obtain ⟨⟨dq, osq⟩, hw''⟩ := hw'; subst hw'')
      go_wp2_with fail
      go_ret2
      exact ⟨_, by rw [hr.out]; rfl, by rw [hr.out]; exact OwnRow.nil_ sptRec _ _, RG.below B0 B0.size dq osq⟩
    case pos =>
    by_cases h4 : ((gx strRec l 0).size : Int) = fc
    case neg =>
      have hr := Lib.hid (rRV_no4 (fx := fx) (fy := fy) (fr := fr) h4)
      have q3 : ((l.length : Int) != fr) = false := by simpa using h3
      have q4 : (((gx strRec l 0).size : Int) != fc) = true := by simpa using h4
      clear h3 h4
      go_upto_region 1 with fail
      (refine wp_region_quiet_below (by kernel_rfl) (by kernel_rfl) ?_; (repeat (go_big_quiet_step (first | with_reducible exact cF _ _ | with_reducible exact cV _ _))); refine wpQuiet_nil ?_; intro _ hw'; obtain ⟨⟨dq, osq⟩, hw''⟩ := hw'; subst hw'')
      go_wp2_with fail
      go_ret2
      exact ⟨_, by rw [hr.out]; rfl, by rw [hr.out]; exact OwnRow.nil_ sptRec _ _, RG.below B0 B0.size dq osq⟩
    case pos =>
    have hr := Lib.hid (rRV_yes hf hv h3 h4)
    have q3 : ((l.length : Int) != fr) = false := by simpa using h3
    have q4 : (((gx strRec l 0).size : Int) != fc) = false := by simpa using h4
    have hfs := isFrm_s hf
    obtain ⟨p1, p2, p3, p4⟩ := hfs
    have Hvl : Hid (∀ i, i < l.length → (gx strRec l i).size ≤ 60 ∧ okS (gx strRec l i) = true) := fun i hi => ⟨by have := (lnOk_t (hvl i hi)).1; omega, (lnOk_t (hvl i hi)).2⟩
    have H3 := Lib.hid h3
    clear h3 h4 hvl
    go_upto_region 1 with fail
    (refine wp_region_quiet_below (by kernel_rfl) (by kernel_rfl) ?_; (repeat (go_big_quiet_step (first | with_reducible exact cF _ _ | with_reducible exact cV _ _))); refine wpQuiet_nil ?_; intro _ hw'; obtain ⟨⟨dq, osq⟩, hw''⟩ := hw'; subst hw'')
    have B1 := RG.below B0 B0.size dq osq
    have bx1 := bx0.keep (below_regrown w0 dq osq) (Nat.le_refl _)
    have h01 := h00.below (below_regrown w0 dq osq) (Nat.le_refl _)
    obtain ⟨W, hW⟩ : ∃ W : World, W = grow (redrawn w0 dq) osq := ⟨_, rfl⟩
    rw [← hW] at B1 bx1 h01
    have cF2 := cF
    clear cF cF2 cV k0 k1 k2 k3 k4 hf hv
    rw [← hW]
    clear hW hc00 h00 bx0 q3 q4
    have hR := H3.out
    subst hR
    have hwl := bx1.lt
    go_upto_region 3 with fail
    go_cut [6] (fun s6 wx => s6 = .map (some W.heap.size) ∧ MapSp wx W.heap.size (rvAll fx fy l.length l 0) ∧ W.heap.size < wx.heap.size ∧ Below W.heap.size W wx)
    case first =>
      have hmm := MapSp.made W
      have hBm : Below W.heap.size W (W.alloc (.map #[] 0)) := (Below.refl _ _).alloc (Nat.le_refl _) _
      have hmk := run_makeMap_plain (P := Try.prog) (w := W) 84
      go_wp2_with fail
      go_meet
      exact ⟨rfl, hmm, by simp, hBm⟩
    case rest =>
    obtain ⟨rfl, M1, hs1, b1⟩ := hcut
    obtain ⟨W1, hW1⟩ : ∃ W1 : World, W1 = wc := ⟨_, rfl⟩
    subst hW1
    go_wp2_with fail
    go_loopw [44] (fun s wr => ∃ k : Nat, k ≤ l.length ∧ s = .int .i64 k ∧ MapSp wr W.heap.size (rvAll fx fy l.length l k) ∧ W.heap.size < wr.heap.size ∧ Below W.heap.size W wr) (fun s _ => l.length - (intOf s).toNat)
    case atStart => exact ⟨0, Nat.zero_le _, rfl, M1, hs1, b1⟩
    case round =>
      obtain ⟨k, hk, rfl, M2, hs2, b2⟩ := hrel
      by_cases hlt : k < l.length
      · obtain ⟨b', o', he, hck⟩ := str_at (h01.below b2 (Nat.le_refl _)) k hlt
        injection he with he; injection he with e1 e2; subst e1 e2
        have hvk := Hvl.out k hlt
        obtain ⟨s, hs⟩ : ∃ s, s = gx strRec l k := ⟨_, rfl⟩
        obtain ⟨st, hst⟩ : ∃ st, st = rvAll fx fy l.length l k := ⟨_, rfl⟩
        have Hst : Hid (rvAll fx fy l.length l (k + 1) = rvRow fx fy l.length s k st s.size) := by show _ = _; rw [hs, hst]; rfl
        rw [← hs] at hck hvk
        rw [← hst] at M2
        obtain ⟨hz1, hz2⟩ := hvk
        have Hok := Lib.hid hz2
        clear hs hz2
        have HSt := Lib.hid hst
        clear hst
        go_wp2_with fail
        go_loopw [9] (fun t wr => ∃ c : Nat, c ≤ s.size ∧ t = .int .i64 c ∧ MapSp wr W.heap.size (rvRow fx fy l.length s k st c) ∧ W.heap.size < wr.heap.size ∧ Below W.heap.size W wr) (fun t _ => s.size - (intOf t).toNat)
        case atStart => exact ⟨0, Nat.zero_le _, rfl, M2, hs2, b2⟩
        case round =>
          obtain ⟨c, hcs, rfl, M3, hs3, b3⟩ := hrel
          by_cases hlc : c < s.size
          · obtain ⟨n, hn⟩ : ∃ n, n = bt s c := ⟨_, rfl⟩
            have hb9 : (s[c]).toNat = n := by rw [hn]; exact bt_eq hlc
            have hokc : okC n = true := by rw [hn]; exact okS_at Hok.out hlc
            by_cases hd : n = 46
            · have Hd : Hid (rvRow fx fy l.length s k st (c + 1) = rvRow fx fy l.length s k st c) := rvRow_dot (by rw [← hn]; exact hd)
              have y1 : ((n : Int) == 46) = true := by simp; omega
              clear hn hokc
              go_wp2_with fail
              go_roundw
              case rel => exact ⟨c + 1, by omega, by go_num, by rw [Hd.out]; exact M3, hs3, b3⟩
              case measure => simp [intOf]; omega
            · obtain ⟨x3, x4⟩ := okC_let hokc hd
              have Hp := Lib.hid (rvRow_put (fx := fx) (fy := fy) (R := l.length) (s := s) (k := k) (st := st) (c := c) (by rw [← hn]; exact hd))
              rw [← hn] at Hp
              obtain ⟨i, hin⟩ : ∃ i, i = n - 65 := ⟨_, rfl⟩
              rw [← hin] at Hp x4
              have y1 : ((n : Int) == 46) = false := by simp; omega
              have y2 : ((n : Int) - 65) = (i : Int) := by omega
              have y3 : IntKind.u8.wrap (i : Int) = (i : Int) := by rw [show IntKind.u8.wrap (i : Int) = (i : Int) % 256 from rfl]; omega
              have y4 : IntKind.u8.wrap ((n : Int) - 65) = (i : Int) := by rw [y2, y3]
              have HN := Lib.hid hn
              clear hn hin hokc hd
              obtain ⟨vz, hlook, hl1, hl0⟩ := M3.look i x4
              obtain ⟨hbit, h26⟩ := M3.bits
              have hbi := hbit i (by have := h26.1; omega)
              obtain ⟨fi, hfi⟩ : ∃ fi, fi = gi (rvRow fx fy l.length s k st c).1 i := ⟨_, rfl⟩
              rw [← hfi] at hlook hl1 hl0 hbi
              obtain ⟨sp, hvz⟩ : ∃ sp : Spt, vz = spV sp := by rcases hbi with q | q; exact ⟨_, hl0 (by omega)⟩; exact ⟨_, hl1 q⟩
              subst hvz
              clear hl1 hl0
              unfold spV at hlook
              rcases hbi with q | q
              · rw [q] at hlook
                have hlook2 : (Instr.lookup 84 (.map (some W.heap.size)) (.int .i64 i) true).run Try.prog wr = .ok (.tuple #[.agg #[.int .i64 sp.x, .int .i64 sp.y], .bool false]) wr := hlook
                clear hlook
                have h0 : gi (rvRow fx fy l.length s k st c).1 i = 0 := by rw [← hfi]; exact q
                have H0 := Lib.hid h0
                clear h0 hfi q
                go_upto_region 12 with fail
                go_cut [12] (fun s12 wx => s12 = .bool false ∧ Below wr.heap.size wr wx)
                case first =>
                  go_wp2_with fail
                  go_meet
                  exact ⟨rfl, (Below.refl _ _).alloc (Nat.le_refl _) _⟩
                case rest =>
                obtain ⟨rfl, b4⟩ := hcut
                obtain ⟨X, hX⟩ : ∃ X : World, X = wc := ⟨_, rfl⟩
                subst hX
                have M4 := M3.below b4 (Nat.le_refl _)
                have b5 := b3.next (Nat.le_refl _) b4
                have bx5 := (bx1.keep b5 (Nat.le_refl _)).out
                obtain ⟨c0, c1, c2, c3⟩ := bx5
                have hs4 := b4.size
                go_wp2_with (first | (at_mapUpdate; refine wp_put (P9 := ()) _ rfl _ _ _ _ rfl rfl W.heap.size (rvRow fx fy l.length s k st c) i ⟨fx + 8 * (c : Int), fy + 8 * ((l.length : Int) - 1 - (k : Int))⟩ rfl M4 x4 H0.out rfl rfl ?_; intro w6 M6 g6) | fail)
                have b6 : Below W.heap.size W w6 := b5.trans (grown_below9 g6 (Nat.le_refl _) b5.size)
                have hs6 := g6.size
                go_roundw
                case rel => exact ⟨c + 1, by omega, by go_num, by rw [Hp.out]; exact M6, by omega, b6⟩
                case measure => simp [intOf]; omega
              · rw [q] at hlook
                have hlook2 : (Instr.lookup 84 (.map (some W.heap.size)) (.int .i64 i) true).run Try.prog wr = .ok (.tuple #[.agg #[.int .i64 sp.x, .int .i64 sp.y], .bool true]) wr := hlook
                clear hlook
                have hfin : Hid (rRV fx fy fc l.length l = ([], false)) := by
                  show _ = _
                  rw [hr.out]
                  have s26 := rvAll_26 fx fy l.length l k
                  rw [← HSt.out] at s26
                  refine rvRes_twice (i := i) (by rw [(rvAll_26 fx fy l.length l l.length).1]; exact x4) ?_
                  have a1 : gi (rvRow fx fy l.length s k st (c + 1)).1 i = 2 := by rw [Hp.out, gi_put (by rw [(rvRow_26 s26 c).1]; exact x4), if_pos rfl, ← hfi, q]; rfl
                  have a2 := rvRow_mono (fx := fx) (fy := fy) (R := l.length) (k := k) (s := s) s26 x4 (c + 1) s.size (by omega)
                  have a3 := rvAll_mono (fx := fx) (fy := fy) (R := l.length) (l := l) x4 (k + 1) l.length (by omega)
                  rw [Hst.out] at a3
                  omega
                clear hfi q
                go_upto_region 12 with fail
                go_cut [12] (fun s12 wx => s12 = .bool true ∧ Below wr.heap.size wr wx)
                case first =>
                  go_wp2_with fail
                  go_meet
                  exact ⟨rfl, (Below.refl _ _).alloc (Nat.le_refl _) _⟩
                case rest =>
                obtain ⟨rfl, b4⟩ := hcut
                have b5 := B1.trans ((b3.next (Nat.le_refl _) b4).mono B1.size)
                go_wp2_with fail
                go_ret2
                exact ⟨_, by rw [hfin.out]; rfl, by rw [hfin.out]; exact OwnRow.nil_ sptRec _ _, b5⟩
          · obtain rfl : c = s.size := by omega
            have M9 : MapSp wr W.heap.size (rvAll fx fy l.length l (k + 1)) := by rw [Hst.out]; exact M3
            go_wp2_with fail
            go_roundw
            case rel => exact ⟨k + 1, by omega, by go_num, M9, hs3, b3⟩
            case measure => simp [intOf]; omega
      · obtain rfl : k = l.length := by omega
        obtain ⟨st, hst⟩ : ∃ st, st = rvAll fx fy l.length l l.length := ⟨_, rfl⟩
        rw [← hst] at M2 hr
        clear hst
        obtain ⟨hbit, h26⟩ := M2.bits
        have hsb := sumI_bd _ hbit
        obtain ⟨m, hm⟩ := Int.eq_ofNat_of_zero_le hsb.1
        have hm26 : m ≤ 26 := by have := h26.1; omega
        have hlen := fun (w9 : World) (h9 : MapSp w9 W.heap.size st) => h9.len 3
        rw [hm] at hlen
        obtain ⟨W2, hW2⟩ : ∃ W2 : World, W2 = wr := ⟨_, rfl⟩
        subst hW2
        have hl2 := hlen (W2.alloc (.cells #[] 25)) (M2.below ((Below.refl _ _).alloc (Nat.le_refl _) _) (Nat.le_refl _))
        have Hm := Lib.hid hm
        have Hbit := Lib.hid hbit
        have H26 := Lib.hid h26
        clear hm hbit h26 hsb hlen
        go_wp2_with fail
        go_loopw [13, 94] (fun t s wr => ∃ i : Nat, i ≤ m ∧ s = .int .i64 i ∧ OwnRow sptRec wr W2.heap.size t (st.2.take i) ∧ Hid (∀ j, j < i → gi st.1 j = 1) ∧ Below W2.heap.size W2 wr) (fun _ s _ => m - (intOf s).toNat)
        case atStart => exact ⟨0, Nat.zero_le _, rfl, OwnRow.empty sptRec W2 _ (Nat.le_refl _), fun j hj => absurd hj (by omega), (Below.refl _ _).alloc (Nat.le_refl _) _⟩
        case round =>
          obtain ⟨i, hi, rfl, ho, hone, b7⟩ := hrel
          have M7 := M2.below b7 (Nat.le_refl _)
          have hs7 := b7.size
          by_cases hlm : i < m
          · obtain ⟨vz, hlook, hl1, hl0⟩ := M7.look i (by omega)
            have hbi := Hbit.out i (by have := H26.out.1; omega)
            obtain ⟨fi, hfi⟩ : ∃ fi, fi = gi st.1 i := ⟨_, rfl⟩
            rw [← hfi] at hlook hl1 hl0 hbi
            rcases hbi with q | q
            · have hvz := hl0 (by omega)
              subst hvz
              clear hl1 hl0
              rw [q] at hlook
              have hlook2 : (Instr.lookup 84 (.map (some W.heap.size)) (.int .i64 i) true).run Try.prog wr = .ok (.tuple #[.agg #[.int .i64 0, .int .i64 0], .bool false]) wr := hlook
              clear hlook
              have hfin : Hid (rRV fx fy fc l.length l = ([], false)) := by show _ = _; rw [hr.out]; exact rvRes_lack Hbit.out (by rw [Hm.out]; omega) hone.out (by rw [← hfi]; exact q)
              clear hfi q
              go_upto_region 21 with fail
              go_cut [16] (fun s12 wx => s12 = .bool false ∧ Below wr.heap.size wr wx)
              case first =>
                go_wp2_with fail
                go_meet
                exact ⟨rfl, (Below.refl _ _).alloc (Nat.le_refl _) _⟩
              case rest =>
              obtain ⟨rfl, b8⟩ := hcut
              have b9 := B1.trans (((b2.next (Nat.le_refl _) b7).next (Nat.le_refl _) b8).mono B1.size)
              go_wp2_with fail
              go_ret2
              exact ⟨_, by rw [hfin.out]; rfl, by rw [hfin.out]; exact OwnRow.nil_ sptRec _ _, b9⟩
            · have hvz := hl1 q
              subst hvz
              clear hl1 hl0
              rw [q] at hlook
              have hlook2 : (Instr.lookup 84 (.map (some W.heap.size)) (.int .i64 i) true).run Try.prog wr = .ok (.tuple #[.agg #[.int .i64 (gx sptRec st.2 i).x, .int .i64 (gx sptRec st.2 i).y], .bool true]) wr := hlook
              clear hlook
              have hone2 : Hid (∀ j, j < i + 1 → gi st.1 j = 1) := fun j hj => by rcases Nat.lt_or_ge j i with q9 | q9; exact hone.out j q9; (obtain rfl : j = i := by omega); rw [← hfi]; exact q
              clear hfi q
              have htk := Lib.hid (take_succ_gx sptRec st.2 i (by have := H26.out.2; omega))
              have h9 : (st.2.take i).length + 1 ≤ 1099511627776 := by rw [List.length_take]; have := H26.out.2; omega
              obtain ⟨sp, hsp⟩ : ∃ sp, sp = gx sptRec st.2 i := ⟨_, rfl⟩
              rw [← hsp] at hlook2 htk
              clear hsp
              go_upto_region 21 with fail
              go_cut [15, 16] (fun s15 s16 wx => s15 = .pointer (some ⟨wr.heap.size, 0, none⟩) ∧ s16 = .bool true ∧ wx.cell? ⟨wr.heap.size, 0, none⟩ = some (.int .i64 sp.x) ∧ wx.cell? ⟨wr.heap.size, 1, none⟩ = some (.int .i64 sp.y) ∧ Below wr.heap.size wr wx)
              case first =>
                go_wp2_with fail
                go_meet
                exact ⟨rfl, rfl, by go_simp, by go_simp, (Below.refl _ _).alloc (Nat.le_refl _) _⟩
              case rest =>
              obtain ⟨rfl, rfl, z0, z1, b8⟩ := hcut
              obtain ⟨X, hX⟩ : ∃ X : World, X = wc := ⟨_, rfl⟩
              subst hX
              have ho8 := OwnRow.below ho b8 (Nat.le_refl _)
              have b9 := b7.next (Nat.le_refl _) b8
              have hs9 := b9.size
              go_wp2_with (at_builtin; refine wp_app_rec sptRec _ rfl _ _ 28 _ _ Try.underlying28 info_spt rfl (by omega) (by rfl) W2.heap.size _ (st.2.take i) (by rfl) ho8 sp _ rfl _ _ rfl (by rfl) (by rfl) h9 hs9 ?_; intro v19 w19 ho19 hg19)
              go_roundw
              case rel => exact ⟨i + 1, by omega, by go_num, by rw [htk.out]; exact ho19, hone2, b9.trans hg19.below⟩
              case measure => simp [intOf]; omega
          · obtain rfl : i = m := by omega
            have hfull := rvRes_full Hbit.out Hm.out hone.out
            have b9 := B1.trans ((b2.next (Nat.le_refl _) b7).mono B1.size)
            have hbs := Nat.le_trans B1.size (Nat.le_trans b2.size (Nat.le_refl _))
            go_wp2_with fail
            refine (asForm_any _ (st.2.take i) _ ho.reads).mono ?_; rintro e w9 ⟨rfl, b10⟩
            cases hc : isChart (st.2.take i)
            case false =>
              have hfin : Hid (rRV fx fy fc l.length l = ([], false)) := by show _ = _; rw [hr.out, hfull]; exact chartR_no hc
              clear hc hfull
              go_wp2_with fail
              go_ret2
              exact ⟨_, by rw [hfin.out]; rfl, by rw [hfin.out]; exact OwnRow.nil_ sptRec _ _, b9.trans (b10.mono (by have := b9.size; omega))⟩
            case true =>
              have hfin : Hid (rRV fx fy fc l.length l = (st.2.take i, true)) := by show _ = _; rw [hr.out, hfull]; exact chartR_yes hc
              clear hc hfull
              go_wp2_with fail
              go_ret2
              exact ⟨_, by rw [hfin.out]; rfl, by rw [hfin.out]; exact OwnRow.lo (OwnRow.below ho b10 (Nat.le_refl _)) (by have := b2.size; have := B1.size; omega), b9.trans (b10.mono (by have := b9.size; omega))⟩
end Go.Proofs.Ytjbffahnbkpcnaa
