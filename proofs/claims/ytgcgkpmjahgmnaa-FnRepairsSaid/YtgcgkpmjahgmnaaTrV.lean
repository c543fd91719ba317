/- Contracts: rows of moves; the moves of a transition, in the program and in the reference. -/
import Derived.Test.YtgcgkpmjahgmnaaTrW
import Derived.Deep.RegionLaw
set_option linter.unusedSimpArgs false
set_option linter.unusedVariables false
namespace Go.Proofs.Ytgcgkpmjahgmnaa
open Go.RowKit Go.Sort

def mvRec : Rec Mv := ⟨5, 71, fun a => [.int .i64 a.fx, .int .i64 a.fy, .int .i64 a.tx, .int .i64 a.ty, .int .i64 a.c], fun _ => rfl, by omega, fun _ u hu => by simp at hu; rcases hu with rfl | rfl | rfl | rfl | rfl <;> rfl, ⟨0, 0, 0, 0, 0⟩⟩
theorem info_mv : (Try.prog.info? 71).map (fun i => (i.zero, i.size, i.bytes)) = some (some (.agg #[.int .i64 0, .int .i64 0, .int .i64 0, .int .i64 0, .int .i64 0]), 5, 40) := by kernel_rfl
theorem mv_at {w : World} {A : Option Addr} {n c : Nat} {l : List Mv} (h : RowAt mvRec w (.slice A n c) l) (i : Nat) (hi : i < l.length) :
    ∃ b o, A = some ⟨b, o, none⟩ ∧ w.cell? ⟨b, o + i * 5, none⟩ = some (.int .i64 (gx mvRec l i).fx) ∧ w.cell? ⟨b, o + i * 5 + 1, none⟩ = some (.int .i64 (gx mvRec l i).fy) ∧ w.cell? ⟨b, o + i * 5 + 2, none⟩ = some (.int .i64 (gx mvRec l i).tx) ∧ w.cell? ⟨b, o + i * 5 + 3, none⟩ = some (.int .i64 (gx mvRec l i).ty) ∧ w.cell? ⟨b, o + i * 5 + 4, none⟩ = some (.int .i64 (gx mvRec l i).c) := by
  obtain ⟨b, o, rfl, hc⟩ := RowAt.cells h i hi
  exact ⟨b, o, rfl, hc 0 _ rfl, hc 1 _ rfl, hc 2 _ rfl, hc 3 _ rfl, hc 4 _ rfl⟩
theorem gx_mvsOf {T : Tr} {i : Nat} (hi : i < T.p.length) : gx mvRec (mvsOf T) i = mvOf T i := by
  rw [gx_eq (by rw [mvsOf_len]; exact hi)]
  unfold mvsOf
  simp
set_option maxRecDepth 100000 in
set_option maxHeartbeats 3200000 in
theorem movesOf_any (f t p : Value) (T : Tr) (w : World) (h : TrAt w f t p T) (hT : isTr T = true) :
    Calls Try.prog 53 #[.agg #[f, t, .int .i64 T.c, p]] w (FreshRow mvRec w (mvsOf T)) := by
  obtain ⟨i1, i2, i3, i4, i5, i6⟩ := isTr_t hT
  have hlf := isChart_t i1
  have hpl := (isMat_t i6).1
  have hmi := fun i (hi : i < T.f.length) => mat_in i6 hi
  have bX := (Below.refl w.heap.size w).alloc (Nat.le_refl _) (.cells #[f, t, .int .i64 T.c, p] 31)
  have zT := BoxT.new 31 w f t T.c p
  have sX : (w.alloc (.cells #[f, t, .int .i64 T.c, p] 31)).heap.size = w.heap.size + 1 := by simp
  obtain ⟨W, hW⟩ : ∃ W : World, W = w.alloc (.cells #[f, t, .int .i64 T.c, p] 31) := ⟨_, rfl⟩
  rw [← hW] at bX zT sX
  have HW := Lib.hid hW
  have ZT := Lib.hid zT
  clear hW zT
  have hX := h.below bX (Nat.le_refl _)
  obtain ⟨A1, c1, e1, g1, hc1⟩ := h.f.shape
  obtain ⟨A2, c2, e2, g2, hc2⟩ := h.t.shape
  obtain ⟨A3, c3, e3, g3, hc3⟩ := h.p.shape
  subst e1 e2 e3
  obtain ⟨N, hN⟩ : ∃ N, N = T.f.length := ⟨_, rfl⟩
  have h1 : T.f.length = N := hN.symm
  have h2 : T.t.length = N := by rw [hN]; exact i3.symm
  have h3 : T.p.length = N := by rw [hN]; exact hpl
  rw [h1] at hlf hmi
  obtain ⟨hN1, hN12, _⟩ := hlf
  rw [h1] at ZT HW g1
  rw [h2] at ZT HW g2
  rw [h3] at ZT HW g3
  rw [h1, h2, h3]
  have HX := Lib.hid hX
  have HB := Lib.hid bX
  have H1 := Lib.hid h1
  have H2 := Lib.hid h2
  have H3 := Lib.hid h3
  have HS := Lib.hid sX
  clear hX h bX i1 i2 i3 i4 i5 i6 hpl hN h1 h2 h3 sX hT
  go_enter Try.func53, Try.ntmps53
  go_upto_region 1 with fail
  rw [← HW.out]
  obtain ⟨a0, a1, a2, a3⟩ := ZT.out.cells
  have zz0 := ZT.out.keep ((Below.refl W.heap.size W).alloc (Nat.le_refl _) (.cells #[] 71)) ZT.out.lt
  obtain ⟨e0, e1, e2, e3⟩ := zz0.cells
  go_wp2_with fail
  go_loopw [3, 10] (fun s i wr => ∃ k : Nat, k ≤ N ∧ i = .int .i64 k ∧ OwnRow mvRec wr W.heap.size s ((mvsOf T).take k) ∧ Below W.heap.size W wr) (fun _ i _ => N - (intOf i).toNat)
  case atStart => exact ⟨0, Nat.zero_le _, rfl, OwnRow.empty mvRec _ _ (Nat.le_refl _), (Below.refl _ _).alloc (Nat.le_refl _) _⟩
  case round =>
    obtain ⟨k, hk, rfl, ho, hb⟩ := hrel
    clear a0 a1 a2 a3 zz0 e0 e1 e2 e3
    have hml : (mvsOf T).length = N := by rw [mvsOf_len]; exact H3.out
    by_cases hlt : k < N
    · have zz := ZT.out.keep hb ZT.out.lt
      obtain ⟨a0, a1, a2, a3⟩ := zz.cells
      have hXr := HX.out.below hb (Nat.le_refl _)
      have hp3 := hXr.p
      have hp1 := hXr.f
      have hp2 := hXr.t
      obtain ⟨b3, o3, rfl, hc⟩ := IntsAt.at_ hp3 k (by rw [H3.out]; exact hlt)
      obtain ⟨b1, o1, rfl, hf0, hf1⟩ := spt_at hp1 k (by rw [H1.out]; exact hlt)
      obtain ⟨m1, m2⟩ := hmi k hlt
      obtain ⟨X, hX⟩ := Int.eq_ofNat_of_zero_le m1
      have hXn : X < N := by omega
      obtain ⟨b2, o2, rfl, ht0, ht1⟩ := spt_at hp2 X (by rw [H2.out]; exact hXn)
      rw [hX] at hc
      have hq : Hid ((mvsOf T).take (k + 1) = (mvsOf T).take k ++ [⟨(gx sptRec T.f k).x, (gx sptRec T.f k).y, (gx sptRec T.t X).x, (gx sptRec T.t X).y, T.c⟩]) := by
        show _ = _
        rw [take_succ_gx mvRec _ k (by rw [hml]; exact hlt), gx_mvsOf (by rw [H3.out]; exact hlt)]
        unfold mvOf
        rw [hX, Int.toNat_natCast]
      have hln : ((mvsOf T).take k).length + 1 ≤ 1099511627776 := by rw [List.length_take, hml]; omega
      obtain ⟨L, hL⟩ : ∃ L, L = (mvsOf T).take k := ⟨_, rfl⟩
      rw [← hL] at ho hq hln
      clear hX hp1 hp2 hp3 hXr zz hL hml m1 m2 hmi
      have hsz := hb.size
      obtain ⟨fx, hfx⟩ : ∃ z, z = (gx sptRec T.f k).x := ⟨_, rfl⟩
      obtain ⟨fy, hfy⟩ : ∃ z, z = (gx sptRec T.f k).y := ⟨_, rfl⟩
      obtain ⟨tx, htx⟩ : ∃ z, z = (gx sptRec T.t X).x := ⟨_, rfl⟩
      obtain ⟨ty, hty⟩ : ∃ z, z = (gx sptRec T.t X).y := ⟨_, rfl⟩
      rw [← hfx] at hf0 hq
      rw [← hfy] at hf1 hq
      rw [← htx] at ht0 hq
      rw [← hty] at ht1 hq
      clear hfx hfy htx hty
      go_upto_region 5 with fail
      go_region_law (refine step_app_rec mvRec _ (by rfl) _ _ 66 _ _ Try.underlying66 info_mv rfl (by omega) (by rfl) W.heap.size _ L (by rfl) (OwnRow.drewN ho 1) ⟨fx, fy, tx, ty, T.c⟩ _ rfl _ _ rfl (by rfl) rfl hln hsz ?_; intro x1 w5 ho1 hg1)
      all_goals go_wp2_with fail
      all_goals go_roundw
      all_goals (first | exact ⟨k + 1, by omega, by go_num, by rw [hq.out]; exact ho1, hb.drew.trans hg1.below⟩ | (simp [intOf]; omega))
    · obtain rfl : k = N := by omega
      rw [List.take_of_length_le (by rw [hml]; exact Nat.le_refl _)] at ho
      have ho2 := Lib.hid (OwnRow.lo ho HB.out.size)
      clear ho
      go_wp2_with fail
      go_ret
      exact ⟨_, rfl, ho2.out, HB.out.next (Nat.le_refl _) hb⟩
set_option maxRecDepth 100000 in
set_option maxHeartbeats 3200000 in
theorem asMoves_any (f t p : Value) (T : Tr) (w : World) (h : TrAt w f t p T) (hT : isTr T = true) :
    Calls Try.prog 47 #[.agg #[f, t, .int .i64 T.c, p]] w (FreshRow mvRec w (mvsOf T)) := by
  obtain ⟨i1, i2, i3, i4, i5, i6⟩ := isTr_t hT
  have hlf := isChart_t i1
  have hpl := (isMat_t i6).1
  have hmi := fun i (hi : i < T.f.length) => mat_in i6 hi
  have bX := (Below.refl w.heap.size w).alloc (Nat.le_refl _) (.cells #[f, t, .int .i64 T.c, p] 31)
  have zT := BoxT.new 31 w f t T.c p
  have sX : (w.alloc (.cells #[f, t, .int .i64 T.c, p] 31)).heap.size = w.heap.size + 1 := by simp
  obtain ⟨W, hW⟩ : ∃ W : World, W = w.alloc (.cells #[f, t, .int .i64 T.c, p] 31) := ⟨_, rfl⟩
  rw [← hW] at bX zT sX
  have HW := Lib.hid hW
  have ZT := Lib.hid zT
  clear hW zT
  have hX := h.below bX (Nat.le_refl _)
  obtain ⟨A1, c1, e1, g1, hc1⟩ := h.f.shape
  obtain ⟨A2, c2, e2, g2, hc2⟩ := h.t.shape
  obtain ⟨A3, c3, e3, g3, hc3⟩ := h.p.shape
  subst e1 e2 e3
  obtain ⟨N, hN⟩ : ∃ N, N = T.f.length := ⟨_, rfl⟩
  have h1 : T.f.length = N := hN.symm
  have h2 : T.t.length = N := by rw [hN]; exact i3.symm
  have h3 : T.p.length = N := by rw [hN]; exact hpl
  rw [h1] at hlf hmi
  obtain ⟨hN1, hN12, _⟩ := hlf
  rw [h1] at ZT HW g1
  rw [h2] at ZT HW g2
  rw [h3] at ZT HW g3
  rw [h1, h2, h3]
  have HX := Lib.hid hX
  have HB := Lib.hid bX
  have H1 := Lib.hid h1
  have H2 := Lib.hid h2
  have H3 := Lib.hid h3
  have HS := Lib.hid sX
  clear hX h bX i1 i2 i3 i4 i5 i6 hpl hN h1 h2 h3 sX hT
  go_enter Try.func47, Try.ntmps47
  go_upto_region 1 with fail
  rw [← HW.out]
  obtain ⟨a0, a1, a2, a3⟩ := ZT.out.cells
  go_wp2_with fail
  go_loopw [3, 9] (fun s i wr => ∃ k : Nat, k ≤ N ∧ i = .int .i64 k ∧ OwnRow mvRec wr W.heap.size s ((mvsOf T).take k) ∧ Below W.heap.size W wr) (fun _ i _ => N - (intOf i).toNat)
  case atStart => exact ⟨0, Nat.zero_le _, rfl, OwnRow.nil_ mvRec _ _, Below.refl _ _⟩
  case round =>
    obtain ⟨k, hk, rfl, ho, hb⟩ := hrel
    clear a0 a1 a2 a3
    have hml : (mvsOf T).length = N := by rw [mvsOf_len]; exact H3.out
    by_cases hlt : k < N
    · have zz := ZT.out.keep hb ZT.out.lt
      obtain ⟨a0, a1, a2, a3⟩ := zz.cells
      have hXr := HX.out.below hb (Nat.le_refl _)
      have hp3 := hXr.p
      have hp1 := hXr.f
      have hp2 := hXr.t
      obtain ⟨b3, o3, rfl, hc⟩ := IntsAt.at_ hp3 k (by rw [H3.out]; exact hlt)
      obtain ⟨b1, o1, rfl, hf0, hf1⟩ := spt_at hp1 k (by rw [H1.out]; exact hlt)
      obtain ⟨m1, m2⟩ := hmi k hlt
      obtain ⟨X, hX⟩ := Int.eq_ofNat_of_zero_le m1
      have hXn : X < N := by omega
      obtain ⟨b2, o2, rfl, ht0, ht1⟩ := spt_at hp2 X (by rw [H2.out]; exact hXn)
      rw [hX] at hc
      have hq : Hid ((mvsOf T).take (k + 1) = (mvsOf T).take k ++ [⟨(gx sptRec T.f k).x, (gx sptRec T.f k).y, (gx sptRec T.t X).x, (gx sptRec T.t X).y, T.c⟩]) := by
        show _ = _
        rw [take_succ_gx mvRec _ k (by rw [hml]; exact hlt), gx_mvsOf (by rw [H3.out]; exact hlt)]
        unfold mvOf
        rw [hX, Int.toNat_natCast]
      have hln : ((mvsOf T).take k).length + 1 ≤ 1099511627776 := by rw [List.length_take, hml]; omega
      obtain ⟨L, hL⟩ : ∃ L, L = (mvsOf T).take k := ⟨_, rfl⟩
      rw [← hL] at ho hq hln
      clear hX hp1 hp2 hp3 hXr zz hL hml m1 m2 hmi
      have hsz := hb.size
      obtain ⟨fx, hfx⟩ : ∃ z, z = (gx sptRec T.f k).x := ⟨_, rfl⟩
      obtain ⟨fy, hfy⟩ : ∃ z, z = (gx sptRec T.f k).y := ⟨_, rfl⟩
      obtain ⟨tx, htx⟩ : ∃ z, z = (gx sptRec T.t X).x := ⟨_, rfl⟩
      obtain ⟨ty, hty⟩ : ∃ z, z = (gx sptRec T.t X).y := ⟨_, rfl⟩
      rw [← hfx] at hf0 hq
      rw [← hfy] at hf1 hq
      rw [← htx] at ht0 hq
      rw [← hty] at ht1 hq
      clear hfx hfy htx hty
      go_upto_region 5 with fail
      go_region_law (refine step_app_rec mvRec _ (by rfl) _ _ 66 _ _ Try.underlying66 info_mv rfl (by omega) (by rfl) W.heap.size _ L (by rfl) (OwnRow.drewN ho 1) ⟨fx, fy, tx, ty, T.c⟩ _ rfl _ _ rfl (by rfl) rfl hln hsz ?_; intro x1 w5 ho1 hg1)
      all_goals go_wp2_with fail
      all_goals go_roundw
      all_goals (first | exact ⟨k + 1, by omega, by go_num, by rw [hq.out]; exact ho1, hb.drew.trans hg1.below⟩ | (simp [intOf]; omega))
    · obtain rfl : k = N := by omega
      rw [List.take_of_length_le (by rw [hml]; exact Nat.le_refl _)] at ho
      have ho2 := Lib.hid (OwnRow.lo ho HB.out.size)
      clear ho
      go_wp2_with fail
      go_ret
      exact ⟨_, rfl, ho2.out, HB.out.next (Nat.le_refl _) hb⟩
end Go.Proofs.Ytgcgkpmjahgmnaa
