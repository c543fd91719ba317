/- Contracts: the first swap that repairs a transition, in the program and in the reference. -/
import Derived.Test.YtgcgkpmjahgmnaaTrR
set_option linter.unusedSimpArgs false
set_option linter.unusedVariables false
namespace Go.Proofs.Ytgcgkpmjahgmnaa
open Go.RowKit Go.Sort

def swapV3 (r : Option (Nat × Nat)) : Value := match r with | some q => .tuple #[.int .i64 (q.1 : Int), .int .i64 (q.2 : Int), .bool true] | none => .tuple #[.int .i64 0, .int .i64 0, .bool false]
def swapV2 (r : Option (Nat × Nat)) : Value := match r with | some q => .tuple #[.int .i64 (q.1 : Int), .int .i64 (q.2 : Int)] | none => .tuple #[.int .i64 (-1), .int .i64 (-1)]
theorem swK_0 {T : Tr} {L : Int} {i k f : Nat} (h : f = 0) : swK T L i f k = none := by subst h; rfl
theorem swI_0 {T : Tr} {L : Int} {i f : Nat} (h : f = 0) : swI T L f i = none := by subst h; rfl
theorem swK_go' {T : Tr} {L : Int} {i k N : Nat} (hk : k < N) (h : needsNo (swapT T i k) L = false) : swK T L i (N - k) k = swK T L i (N - (k + 1)) (k + 1) := by
  rw [show N - k = (N - (k + 1)) + 1 from by omega]; exact swK_go h
theorem swK_hit' {T : Tr} {L : Int} {i k N : Nat} (hk : k < N) (h : needsNo (swapT T i k) L = true) : swK T L i (N - k) k = some k := by
  rw [show N - k = (N - (k + 1)) + 1 from by omega]; exact swK_hit h
theorem swI_go' {T : Tr} {L : Int} {i N : Nat} (hN : N = T.f.length) (hi : i < N) (h : swK T L i (N - (i + 1)) (i + 1) = none) : swI T L (N - i) i = swI T L (N - (i + 1)) (i + 1) := by
  subst hN
  rw [show T.f.length - i = (T.f.length - (i + 1)) + 1 from by omega]; exact swI_go h
theorem swI_hit' {T : Tr} {L : Int} {i k N : Nat} (hN : N = T.f.length) (hi : i < N) (h : swK T L i (N - (i + 1)) (i + 1) = some k) : swI T L (N - i) i = some (i, k) := by
  subst hN
  rw [show T.f.length - i = (T.f.length - (i + 1)) + 1 from by omega]; exact swI_hit h
set_option maxRecDepth 100000 in
set_option maxHeartbeats 6400000 in
theorem repairSwap_any (f t p : Value) (T : Tr) (L : Int) (w : World) (h : TrAt w f t p T) (hT : isRp T = true) (hL0 : 0 ≤ L) (hL : L ≤ 80) :
    Calls Try.prog 33 #[.agg #[f, t, .int .i64 T.c, p], .int .i64 L] w fun e w' => e = .returned (swapV3 (swapR T L)) ∧ Below w.heap.size w w' := by
  obtain ⟨i1, i2, i3, i4⟩ := isRp_t hT
  have bX := (Below.refl w.heap.size w).alloc (Nat.le_refl _) (.cells #[f, t, .int .i64 T.c, p] 31)
  have zT := BoxT.new 31 w f t T.c p
  obtain ⟨W, hW⟩ : ∃ W : World, W = w.alloc (.cells #[f, t, .int .i64 T.c, p] 31) := ⟨_, rfl⟩
  rw [← hW] at bX zT
  have HW := Lib.hid hW
  have ZT := Lib.hid zT
  clear hW zT
  have HX := Lib.hid (h.below bX (Nat.le_refl _))
  obtain ⟨A1, c1, e1, g1, hc1⟩ := h.f.shape
  subst e1
  have HSW := Lib.hid (fun W9 (hb : Below W.heap.size W W9) (i k : Nat) (hi : i < T.f.length) (hk : k < T.f.length) (hik : i < k) => swapPlaces_any _ t p T i k W9 (HX.out.below hb (Nat.le_refl _)) i1 hi hk hik)
  have HND := Lib.hid (fun (i k : Nat) (hi : i < T.f.length) (hk : k < T.f.length) (hik : i < k) W9 f' t' p' (h9 : TrAt W9 f' t' p' (swapT T i k)) =>
    (needsNothing_any f' t' p' (swapT T i k) L W9 h9 (swap_rp hT hi hk) hL0 hL : Calls Try.prog 32 #[.agg #[f', t', .int .i64 T.c, p'], .int .i64 L] W9 (fun e w' => e = .returned (.bool (needsNo (swapT T i k) L)) ∧ Below W9.heap.size W9 w')))
  obtain ⟨N, hN⟩ : ∃ N, N = T.f.length := ⟨_, rfl⟩
  have hsr : Hid (swapR T L = swI T L (N - 0) 0) := by show _ = _; rw [hN]; rfl
  rw [← hN] at HSW HND ZT HW g1 i3 i4
  rw [← hN]
  have HN := Lib.hid hN
  have HB := Lib.hid bX
  clear hN h bX i1 i2 hT
  go_enter Try.func33, Try.ntmps33
  go_upto_region 1 with fail
  rw [← HW.out]
  obtain ⟨a0, a1, a2, a3⟩ := ZT.out.cells
  obtain ⟨W1, hW1⟩ : ∃ W9 : World, W9 = W := ⟨_, rfl⟩
  have HB1 : Hid (Below W.heap.size W W1) := by rw [hW1]; exact Below.refl _ _
  have HS1 : Hid (W.heap.size ≤ W1.heap.size) := by rw [hW1]; exact Nat.le_refl _
  rw [← hW1] at a0 a1 a2 a3
  rw [show W = W1 from hW1.symm]
  have HW1 := Lib.hid hW1
  clear hW1
  go_wp2_with fail
  go_loopw [12] (fun i wr => ∃ n : Nat, n ≤ N ∧ i = .int .i64 n ∧ Hid (swapR T L = swI T L (N - n) n) ∧ Below W1.heap.size W1 wr) (fun i _ => N - (intOf i).toNat)
  case atStart => exact ⟨0, Nat.zero_le _, rfl, hsr, Below.refl _ _⟩
  case round =>
    obtain ⟨n, hn, rfl, hs, hb⟩ := hrel
    clear a0 a1 a2 a3
    obtain ⟨w2, hw2⟩ : ∃ w9, w9 = wr := ⟨_, rfl⟩
    subst hw2
    by_cases hlt : n < N
    · go_wp2_with fail
      go_loopw [8] (fun i wr => ∃ k : Nat, n + 1 ≤ k ∧ k ≤ N ∧ i = .int .i64 k ∧ Hid (swK T L n (N - (n + 1)) (n + 1) = swK T L n (N - k) k) ∧ Below W1.heap.size W1 wr) (fun i _ => N - (intOf i).toNat)
      case atStart => exact ⟨n + 1, Nat.le_refl _, hlt, by go_num, rfl, hb⟩
      case round =>
        obtain ⟨k, hnk, hk, rfl, hsk, hb2⟩ := hrel
        clear hb
        have bW := HB1.out.trans (hb2.mono HS1.out)
        obtain ⟨a0, a1, a2, a3⟩ := (ZT.out.keep bW ZT.out.lt).cells
        by_cases hlk : k < N
        · have C1 := Lib.hid (HSW.out wr bW n k hlt hlk (by omega))
          cases hq : needsNo (swapT T n k) L
          case false =>
            have HK := Lib.hid (swK_go' hlk hq)
            have C2 := Lib.hid (HND.out n k hlt hlk (by omega))
            rw [hq] at C2
            clear hq
            go_wp2_with fail
            refine C1.out.mono ?_; rintro e w4 ⟨f', t', p', rfl, o4, b4⟩
            have r4 := o4.reads
            go_wp2_with fail
            refine (C2.out w4 _ _ _ r4).mono ?_; rintro e w5 ⟨rfl, b5⟩
            go_wp2_with fail
            go_roundw
            case rel => exact ⟨k + 1, by omega, by omega, by go_num, hsk.out.trans HK.out, (hb2.next (Nat.le_refl _) b4).next (Nat.le_refl _) b5⟩
            case measure => simp [intOf]; omega
          case true =>
            have HK := Lib.hid (swK_hit' hlk hq)
            have C2 := Lib.hid (HND.out n k hlt hlk (by omega))
            have HR : Hid (swapR T L = some (n, k)) := hs.out.trans (swI_hit' HN.out hlt (hsk.out.trans HK.out))
            rw [hq] at C2
            clear hq
            go_wp2_with fail
            refine C1.out.mono ?_; rintro e w4 ⟨f', t', p', rfl, o4, b4⟩
            have r4 := o4.reads
            go_wp2_with fail
            refine (C2.out w4 _ _ _ r4).mono ?_; rintro e w5 ⟨rfl, b5⟩
            go_wp2_with fail
            go_ret3
            exact ⟨by rw [HR.out]; rfl, HB.out.next (Nat.le_refl _) ((bW.next (Nat.le_refl _) b4).next (Nat.le_refl _) b5)⟩
        · obtain rfl : k = N := by omega
          have HK : Hid (swI T L (k - n) n = swI T L (k - (n + 1)) (n + 1)) := swI_go' HN.out hlt (hsk.out.trans (swK_0 (by omega)))
          go_wp2_with fail
          go_roundw
          case rel => exact ⟨n + 1, by omega, by go_num, hs.out.trans HK.out, hb2⟩
          case measure => simp [intOf]; omega
    · obtain rfl : n = N := by omega
      have HR : Hid (swapR T L = none) := hs.out.trans (swI_0 (by omega))
      have bW := HB1.out.trans (hb.mono HS1.out)
      obtain ⟨a0, a1, a2, a3⟩ := (ZT.out.keep bW ZT.out.lt).cells
      go_wp2_with fail
      go_ret3
      exact ⟨by rw [HR.out]; rfl, HB.out.next (Nat.le_refl _) bW⟩
set_option maxRecDepth 100000 in
set_option maxHeartbeats 6400000 in
theorem rpSwap_any (f t p : Value) (T : Tr) (L : Int) (w : World) (h : TrAt w f t p T) (hT : isRp T = true) (hL0 : 0 ≤ L) (hL : L ≤ 80) :
    Calls Try.prog 26 #[.agg #[f, t, .int .i64 T.c, p], .int .i64 L] w fun e w' => e = .returned (swapV2 (swapR T L)) ∧ Below w.heap.size w w' := by
  obtain ⟨i1, i2, i3, i4⟩ := isRp_t hT
  have bX := (Below.refl w.heap.size w).alloc (Nat.le_refl _) (.cells #[f, t, .int .i64 T.c, p] 31)
  have zT := BoxT.new 31 w f t T.c p
  obtain ⟨W, hW⟩ : ∃ W : World, W = w.alloc (.cells #[f, t, .int .i64 T.c, p] 31) := ⟨_, rfl⟩
  rw [← hW] at bX zT
  have HW := Lib.hid hW
  have ZT := Lib.hid zT
  clear hW zT
  have HX := Lib.hid (h.below bX (Nat.le_refl _))
  obtain ⟨A1, c1, e1, g1, hc1⟩ := h.f.shape
  subst e1
  have HSW := Lib.hid (fun W9 (hb : Below W.heap.size W W9) (i k : Nat) (hi : i < T.f.length) (hk : k < T.f.length) (hik : i < k) => asSwap_any _ t p T i k W9 (HX.out.below hb (Nat.le_refl _)) i1 hi hk hik)
  have HND := Lib.hid (fun (i k : Nat) (hi : i < T.f.length) (hk : k < T.f.length) (hik : i < k) W9 f' t' p' dv (h9 : TrAt W9 f' t' p' (swapT T i k)) (hd : IntsAt W9 dv (zeros T.f.length)) =>
    (rpClose_any f' t' p' dv (swapT T i k) (zeros T.f.length) L W9 h9 (swap_rp hT hi hk) hd (zeros_len _) (fun j _ => by rw [gi_zeros]; omega) hL0 hL : Calls Try.prog 25 #[.agg #[f', t', .int .i64 T.c, p'], dv, .int .i64 L] W9 (LenPost W9 (closeN (swapT T i k) L (zeros T.f.length)))))
  have HNN : Hid (∀ (i k : Nat), needsNo (swapT T i k) L = decide (closeN (swapT T i k) L (zeros T.f.length) = 0)) := fun i k => rfl
  obtain ⟨N, hN⟩ : ∃ N, N = T.f.length := ⟨_, rfl⟩
  have hsr : Hid (swapR T L = swI T L (N - 0) 0) := by show _ = _; rw [hN]; rfl
  rw [← hN] at HSW HND HNN ZT HW g1 i3 i4
  rw [← hN]
  have HN := Lib.hid hN
  have HB := Lib.hid bX
  clear hN h bX i1 i2 hT
  have hmk := fun W => run_make_row' (P := Try.prog) 23 3 _ 8 Try.underlying23 info_int rfl .i64 .i64 N (by omega) (by omega) W
  have b01 := (Below.refl W.heap.size W).alloc (Nat.le_refl _) (.cells (madeCells #[.int .i64 0] N) 3)
  have hz := (zrow_ints W W.heap.size N (Nat.le_refl _) (by omega)).reads
  obtain ⟨x0, x1, x2, x3⟩ := (ZT.out.keep b01 ZT.out.lt).cells
  obtain ⟨W1, hW1⟩ : ∃ W9 : World, W9 = W.alloc (.cells (madeCells #[.int .i64 0] N) 3) := ⟨_, rfl⟩
  rw [← hW1] at b01 hz x0 x1 x2 x3
  have HW1 := Lib.hid hW1
  have HZ := Lib.hid hz
  have HB1 := Lib.hid b01
  have HS1 : Hid (W.heap.size ≤ W1.heap.size) := b01.size
  clear hW1 hz b01
  go_enter Try.func26, Try.ntmps26
  go_upto_region 1 with fail
  rw [← HW.out]
  obtain ⟨a0, a1, a2, a3⟩ := ZT.out.cells
  go_upto_region 2 with fail
  rw [← HW1.out]
  clear hmk a0 a1 a2 a3
  go_wp2_with fail
  go_loopw [16] (fun i wr => ∃ n : Nat, n ≤ N ∧ i = .int .i64 n ∧ Hid (swapR T L = swI T L (N - n) n) ∧ Below W1.heap.size W1 wr) (fun i _ => N - (intOf i).toNat)
  case atStart => exact ⟨0, Nat.zero_le _, rfl, hsr, Below.refl _ _⟩
  case round =>
    obtain ⟨n, hn, rfl, hs, hb⟩ := hrel
    clear x0 x1 x2 x3
    obtain ⟨w2, hw2⟩ : ∃ w9, w9 = wr := ⟨_, rfl⟩
    subst hw2
    by_cases hlt : n < N
    · go_wp2_with fail
      go_loopw [8] (fun i wr => ∃ k : Nat, n + 1 ≤ k ∧ k ≤ N ∧ i = .int .i64 k ∧ Hid (swK T L n (N - (n + 1)) (n + 1) = swK T L n (N - k) k) ∧ Below W1.heap.size W1 wr) (fun i _ => N - (intOf i).toNat)
      case atStart => exact ⟨n + 1, Nat.le_refl _, hlt, by go_num, rfl, hb⟩
      case round =>
        obtain ⟨k, hnk, hk, rfl, hsk, hb2⟩ := hrel
        clear hb
        have bW := HB1.out.trans (hb2.mono HS1.out)
        obtain ⟨a0, a1, a2, a3⟩ := (ZT.out.keep bW ZT.out.lt).cells
        by_cases hlk : k < N
        · have C1 := Lib.hid (HSW.out wr bW n k hlt hlk (by omega))
          cases hq : needsNo (swapT T n k) L
          case false =>
            have HK := Lib.hid (swK_go' hlk hq)
            have C2 := Lib.hid (HND.out n k hlt hlk (by omega))
            have hM : 0 < closeN (swapT T n k) L (zeros N) := by
              have h9 := HNN.out n k
              rw [hq] at h9
              have := of_decide_eq_false h9.symm
              omega
            obtain ⟨M, hM9⟩ : ∃ M, M = closeN (swapT T n k) L (zeros N) := ⟨_, rfl⟩
            rw [← hM9] at C2 hM
            have hM0 : ((M : Int) == 0) = false := by rw [beq_eq_false_iff_ne]; omega
            clear hM9
            clear hq
            go_wp2_with fail
            refine C1.out.mono ?_; rintro e w4 ⟨f', t', p', rfl, o4, b4⟩
            have r4 := o4.reads
            go_wp2_with fail
            refine (C2.out w4 _ _ _ _ r4 (HZ.out.below (hb2.next (Nat.le_refl _) b4) (Nat.le_refl _))).mono ?_; rintro e w5 ⟨A9, c9, rfl, q1, q2, b5⟩
            go_wp2_with fail
            go_roundw
            case rel => exact ⟨k + 1, by omega, by omega, by go_num, hsk.out.trans HK.out, (hb2.next (Nat.le_refl _) b4).next (Nat.le_refl _) b5⟩
            case measure => simp [intOf]; omega
          case true =>
            have HK := Lib.hid (swK_hit' hlk hq)
            have C2 := Lib.hid (HND.out n k hlt hlk (by omega))
            have HR : Hid (swapR T L = some (n, k)) := hs.out.trans (swI_hit' HN.out hlt (hsk.out.trans HK.out))
            have hM : closeN (swapT T n k) L (zeros N) = 0 := by
              have h9 := HNN.out n k
              rw [hq] at h9
              exact of_decide_eq_true h9.symm
            rw [hM] at C2
            clear hM
            clear hq
            go_wp2_with fail
            refine C1.out.mono ?_; rintro e w4 ⟨f', t', p', rfl, o4, b4⟩
            have r4 := o4.reads
            go_wp2_with fail
            refine (C2.out w4 _ _ _ _ r4 (HZ.out.below (hb2.next (Nat.le_refl _) b4) (Nat.le_refl _))).mono ?_; rintro e w5 ⟨A9, c9, rfl, q1, q2, b5⟩
            go_wp2_with fail
            go_ret2
            exact ⟨by rw [HR.out]; rfl, HB.out.next (Nat.le_refl _) ((bW.next (Nat.le_refl _) b4).next (Nat.le_refl _) b5)⟩
        · obtain rfl : k = N := by omega
          have HK : Hid (swI T L (k - n) n = swI T L (k - (n + 1)) (n + 1)) := swI_go' HN.out hlt (hsk.out.trans (swK_0 (by omega)))
          go_wp2_with fail
          go_roundw
          case rel => exact ⟨n + 1, by omega, by go_num, hs.out.trans HK.out, hb2⟩
          case measure => simp [intOf]; omega
    · obtain rfl : n = N := by omega
      have HR : Hid (swapR T L = none) := hs.out.trans (swI_0 (by omega))
      have bW := HB1.out.trans (hb.mono HS1.out)
      obtain ⟨a0, a1, a2, a3⟩ := (ZT.out.keep bW ZT.out.lt).cells
      go_wp2_with fail
      go_ret2
      exact ⟨by rw [HR.out]; rfl, HB.out.next (Nat.le_refl _) bW⟩
end Go.Proofs.Ytgcgkpmjahgmnaa
