/- Contracts: times of counts and of cues; LongestGap, in the program and in the reference. -/
import Derived.Test.YtnbpkealigfmjaaCuesF
set_option linter.unusedSimpArgs false
set_option linter.unusedVariables false
namespace Go.Proofs.Ytnbpkealigfmjaa
open Go.RowKit Go.Sort

def tmsC (m : List Msr) (l : List Cu) : List Int := l.map fun x => tmOf m x.c
theorem tmsC_len (m : List Msr) (l : List Cu) : (tmsC m l).length = l.length := by simp [tmsC]
theorem tmsC_succ (m : List Msr) (l : List Cu) (k : Nat) (h : k < l.length) : tmsC m (l.take k) ++ [tmOf m (gx cuRec l k).c] = tmsC m (l.take (k + 1)) := by
  rw [take_succ_gx cuRec l k h]; simp [tmsC]
/-- The gap behind a time, and the index of the longest of the first k. -/
def gapT (T : List Int) (i : Nat) : Int := gi T (i + 1) - gi T i
def bstT (T : List Int) : Nat → Nat
  | 0 => 0
  | k + 1 => if gapT T (bstT T k) < gapT T k then k else bstT T k
theorem bstT_y {T : List Int} {k : Nat} (h : gapT T (bstT T k) < gapT T k) : bstT T (k + 1) = k := by show (if _ then _ else _) = _; rw [if_pos h]
theorem bstT_n {T : List Int} {k : Nat} (h : ¬ gapT T (bstT T k) < gapT T k) : bstT T (k + 1) = bstT T k := by show (if _ then _ else _) = _; rw [if_neg h]
theorem bstT_le (T : List Int) (k : Nat) : bstT T k ≤ k - 1 := by
  induction k with
  | zero => exact Nat.le_refl _
  | succ k ih => by_cases h : gapT T (bstT T k) < gapT T k
                 · rw [bstT_y h]; omega
                 · rw [bstT_n h]; omega
def allT (m : List Msr) (l : List Cu) : List Int := tmsC m l ++ [tmOf m (counts m)]
theorem allT_len (m : List Msr) (l : List Cu) : (allT m l).length = l.length + 1 := by simp [allT, tmsC]
def rGap (m : List Msr) (l : List Cu) : Int × Int × Bool := if goodC m l && !l.isEmpty then ((bstT (allT m l) l.length : Int), gapT (allT m l) (bstT (allT m l) l.length), true) else (0, 0, false)
theorem rGap_1 {m : List Msr} {l : List Cu} (h : goodC m l = false) : rGap m l = (0, 0, false) := by unfold rGap; rw [h]; rfl
theorem rGap_2 {m : List Msr} {l : List Cu} (h : l.length = 0) : rGap m l = (0, 0, false) := by
  obtain rfl := List.eq_nil_of_length_eq_zero h
  unfold rGap; simp
theorem rGap_3 {m : List Msr} {l : List Cu} (h : goodC m l = true) (h2 : 0 < l.length) : rGap m l = ((bstT (allT m l) l.length : Int), gapT (allT m l) (bstT (allT m l) l.length), true) := by
  unfold rGap
  cases l with
  | nil => simp at h2
  | cons x r => rw [h]; rfl
theorem preC_c {N : Int} {l : List Cu} {k : Nat} (h : preC N l k = true) : 0 ≤ (gx cuRec l k).c ∧ (gx cuRec l k).c ≤ N - 1 := by
  unfold preC at h
  simp only [Bool.and_eq_true] at h
  exact inR_t.1 h.1.1
theorem areC_c {N : Int} {l : List Cu} (h : areC N l = true) {k : Nat} (hk : k < l.length) : 0 ≤ (gx cuRec l k).c ∧ (gx cuRec l k).c ≤ N - 1 := by
  have := (areC_t h).2 k hk
  unfold cuOk at this
  rw [Bool.and_eq_true] at this
  exact preC_c this.1
theorem allT_bd {m : List Msr} {l : List Cu} (hm : isMus m = true) (hl : areC (counts m) l = true) (k : Nat) : 0 ≤ gi (allT m l) k ∧ gi (allT m l) k ≤ 720000 := by
  by_cases hk : k < (allT m l).length
  · have hx : gi (allT m l) k ∈ allT m l := by
      unfold gi
      rw [List.getD_eq_getElem?_getD, List.getElem?_eq_getElem hk]; exact List.getElem_mem hk
    generalize gi (allT m l) k = y at hx ⊢
    unfold allT tmsC at hx
    rw [List.mem_append, List.mem_map, List.mem_singleton] at hx
    rcases hx with ⟨x, hx, e⟩ | e
    · obtain ⟨i, hi, rfl⟩ := List.getElem_of_mem hx
      rw [← e, ← gx_eq (R := cuRec) hi]
      exact tmOf_bd hm (areC_c hl hi).1
    · rw [e]; exact tmOf_bd hm (by have := counts_bd hm; omega)
  · have : gi (allT m l) k = 0 := by
      unfold gi
      rw [List.getD_eq_getElem?_getD, List.getElem?_eq_none (by omega)]; rfl
    omega
set_option maxHeartbeats 3200000 in
theorem timeOf_any (v : Value) (m : List Msr) (n : Int) (w : World) (h : RowAt msrRec w v m) (hm : isMus m = true) (h0 : 0 ≤ n) (h1 : n ≤ 480) :
    Calls Try.prog 42 #[v, .int .i64 n] w fun e w' => e = .returned (.int .i64 (tmOf m n)) ∧ Below w.heap.size w w' := by
  obtain ⟨A, c, rfl, hnc, hc63⟩ := h.shape
  have hmt := isMus_t hm
  obtain ⟨_, hl40, ht⟩ := hmt
  have Ht := Lib.hid ht
  clear ht hm
  go_enter Try.func42, Try.ntmps42
  go_wp2_with fail
  go_loopw [1, 5, 10] (fun q s i wr => ∃ (k : Nat) (n1 s1 : Int), k ≤ m.length ∧ i = .int .i64 k ∧ q = .int .i64 n1 ∧ s = .int .i64 s1 ∧ 0 ≤ n1 ∧ n1 ≤ 480 ∧ 0 ≤ s1 ∧ s1 ≤ 18000 * (k : Int) ∧ Hid (tmFrom (m.drop k) n1 s1 = tmOf m n) ∧ Below w.heap.size w wr) (fun _ _ i _ => m.length - (intOf i).toNat)
  case atStart => exact ⟨0, n, 0, Nat.zero_le _, rfl, rfl, rfl, h0, h1, by omega, by omega, rfl, Below.refl _ _⟩
  case round =>
    obtain ⟨k, n1, s1, hk, rfl, rfl, rfl, p1, p2, p3, p4, htm, hb⟩ := hrel
    by_cases hlt : k < m.length
    · obtain ⟨b, o, rfl, hc0, hc1⟩ := msr_at (h.below hb (Nat.le_refl _)) k hlt
      have hy : ∀ o, Below w.heap.size w (wr.alloc o) := fun o => hb.alloc hb.size o
      have Hy := Lib.hid hy
      clear hy
      have hx := muOk_t (Ht.out k hlt)
      obtain ⟨x1, x2, x3, x4⟩ := hx
      have t0 : (gx msrRec m k).t ≠ 0 := by omega
      have t1 : (gx msrRec m k).t ≠ -1 := by omega
      by_cases hlc : n1 < (gx msrRec m k).c
      · have hr := Lib.hid ((tmFrom_in hlt hlc).symm.trans htm.out)
        have hd := tdiv_bd (a := 60000 * n1) (b := (gx msrRec m k).t) (by omega) (by omega) x3
        obtain ⟨d1, d2⟩ := hd
        have hm8 : IntKind.i64.wrap (60000 * n1) = 60000 * n1 := IntWalk.i64_in _ (by omega)
        have hq8 : IntKind.i64.wrap (Int.tdiv (60000 * n1) (gx msrRec m k).t) = Int.tdiv (60000 * n1) (gx msrRec m k).t := IntWalk.i64_in _ (by omega)
        have hs8 : IntKind.i64.wrap (s1 + Int.tdiv (60000 * n1) (gx msrRec m k).t) = s1 + Int.tdiv (60000 * n1) (gx msrRec m k).t := IntWalk.i64_in _ (by omega)
        go_wp2_with fail
        go_ret
        exact ⟨ret_int hr.out, Hy.out _⟩
      · have hr := Lib.hid ((tmFrom_on hlt hlc).symm.trans htm.out)
        have hd := tdiv_bd (a := 60000 * (gx msrRec m k).c) (b := (gx msrRec m k).t) (by omega) (by omega) x3
        obtain ⟨d1, d2⟩ := hd
        have hm8 : IntKind.i64.wrap (60000 * (gx msrRec m k).c) = 60000 * (gx msrRec m k).c := IntWalk.i64_in _ (by omega)
        have hq8 : IntKind.i64.wrap (Int.tdiv (60000 * (gx msrRec m k).c) (gx msrRec m k).t) = Int.tdiv (60000 * (gx msrRec m k).c) (gx msrRec m k).t := IntWalk.i64_in _ (by omega)
        have hs8 : IntKind.i64.wrap (s1 + Int.tdiv (60000 * (gx msrRec m k).c) (gx msrRec m k).t) = s1 + Int.tdiv (60000 * (gx msrRec m k).c) (gx msrRec m k).t := IntWalk.i64_in _ (by omega)
        go_wp2_with fail
        go_roundw
        case rel => exact ⟨k + 1, _, _, by omega, by go_num, rfl, rfl, by omega, by omega, by omega, by omega, hr, Hy.out _⟩
        case measure => simp [intOf]; omega
    · obtain rfl : k = m.length := by omega
      have hr : Hid (s1 = tmOf m n) := by
        have := htm.out
        rw [List.drop_length] at this
        exact this
      go_wp2_with fail
      go_ret
      exact ⟨ret_int hr.out, hb⟩
set_option maxHeartbeats 3200000 in
theorem cueTimes_any (v1 v : Value) (m : List Msr) (l : List Cu) (w : World) (hM : RowAt msrRec w v1 m) (h : RowAt cuRec w v l) (hm : isMus m = true) (hl : areC (counts m) l = true) :
    Calls Try.prog 41 #[v1, v] w fun e w' => ∃ v', e = .returned v' ∧ OwnInts w' w.heap.size v' (tmsC m l) ∧ Below w.heap.size w w' := by
  obtain ⟨A, c, rfl, hnc, hc63⟩ := h.shape
  have hcb := counts_bd hm
  have h30 := (areC_t hl).1
  have hT : ∀ k w', k < l.length → RowAt msrRec w' v1 m → Calls Try.prog 42 #[v1, .int .i64 (gx cuRec l k).c] w' (fun e w'' => e = .returned (.int .i64 (tmOf m (gx cuRec l k).c)) ∧ Below w'.heap.size w' w'') := fun k w' hk h' => timeOf_any _ m _ w' h' hm (areC_c hl hk).1 (by have := (areC_c hl hk).2; omega)
  have HT := Lib.hid hT
  clear hT hcb hm hl
  go_enter Try.func41, Try.ntmps41
  go_wp2_with fail
  go_loopw [5, 11] (fun s i wr => ∃ k : Nat, k ≤ l.length ∧ i = .int .i64 k ∧ OwnInts wr w.heap.size s (tmsC m (l.take k)) ∧ Below w.heap.size w wr) (fun _ i _ => l.length - (intOf i).toNat)
  case atStart => exact ⟨0, Nat.zero_le _, rfl, OwnInts.empty w w.heap.size (Nat.le_refl _), (Below.refl _ _).alloc (Nat.le_refl _) _⟩
  case round =>
    obtain ⟨k, hk, rfl, ho, hb⟩ := hrel
    by_cases hlt : k < l.length
    · obtain ⟨b, o, rfl, hc0, hc1⟩ := cu_at (h.below hb (Nat.le_refl _)) k hlt
      have hy : ∀ o, Below w.heap.size w (wr.alloc o) := fun o => hb.alloc hb.size o
      have Hy := Lib.hid hy
      clear hy
      have hX : ∀ o, RowAt msrRec (wr.alloc o) v1 m := fun o => hM.below (Hy.out o) (Nat.le_refl _)
      have HX := Lib.hid hX
      clear hX
      have hoA : ∀ o, OwnInts (wr.alloc o) w.heap.size u5 (tmsC m (l.take k)) := fun o => World.ownsRow.alloc ho o
      have HoA := Lib.hid hoA
      clear hoA
      have hs := Lib.hid (tmsC_succ m l k hlt)
      have h9 : (tmsC m (l.take k)).length + 1 ≤ 1099511627776 := by rw [tmsC_len, List.length_take]; omega
      go_wp2_with fail
      refine (HT.out k _ hlt (HX.out _)).mono ?_; rintro e w1 ⟨rfl, b1⟩
      have ho1 := OwnInts.below (HoA.out _) b1 (Nat.le_refl _)
      have hb1 := (Hy.out _).next (Nat.le_refl _) b1
      clear ho
      go_wp2_with (at_builtin; refine wp_app_int _ rfl _ _ rfl w.heap.size _ (tmsC m (l.take k)) rfl ho1 (tmOf m (gx cuRec l k).c) _ rfl rfl h9 hb1.size ?_; intro v5 w5 ho5 hg5)
      go_roundw
      case rel => exact ⟨k + 1, by omega, by go_num, hs.out ▸ ho5, hb1.trans hg5.below⟩
      case measure => simp [intOf]; omega
    · obtain rfl : k = l.length := by omega
      have hx : Hid (l.take l.length = l) := List.take_length
      go_wp2_with fail
      go_ret
      exact ⟨_, rfl, hx.out ▸ ho, hb⟩
set_option maxRecDepth 100000 in
set_option maxHeartbeats 6400000 in
theorem implGap (v1 v : Value) (m : List Msr) (l : List Cu) (w : World) (hM : RowAt msrRec w v1 m) (h : RowAt cuRec w v l) (hw : WfCues l) :
    Calls Try.prog 18 #[v1, v] w fun e w' => e = .returned (.tuple #[.int .i64 (rGap m l).1, .int .i64 (rGap m l).2.1, .bool (rGap m l).2.2]) ∧ Below w.heap.size w w' := by
  obtain ⟨A, c, rfl, hnc, hc63⟩ := h.shape
  cases hg : goodC m l
  · have hr := Lib.hid (rGap_1 hg)
    go_enter Try.func18, Try.ntmps18
    go_wp2_with fail
    refine (haveCues_any _ _ m l _ hM h hw).mono ?_; rintro e w1 ⟨rfl, b1⟩
    go_wp2_with fail
    go_ret3
    exact ⟨by rw [hr.out]; rfl, b1⟩
  rcases Nat.eq_zero_or_pos l.length with hl0 | hl0
  · have hr := Lib.hid (rGap_2 (m := m) hl0)
    obtain rfl := List.eq_nil_of_length_eq_zero hl0
    clear hl0
    rw [List.length_nil] at h hnc ⊢
    go_enter Try.func18, Try.ntmps18
    go_wp2_with fail
    refine (haveCues_any _ _ m [] _ hM h hw).mono ?_; rintro e w1 ⟨rfl, b1⟩
    go_wp2_with fail
    go_ret3
    exact ⟨by rw [hr.out]; rfl, b1⟩
  have hr := Lib.hid (rGap_3 hg hl0)
  have hgt := goodC_t hg
  obtain ⟨hm, hl⟩ := hgt
  have hcb := counts_bd hm
  have h30 := (areC_t hl).1
  have hC : ∀ w', RowAt msrRec w' v1 m → Calls Try.prog 37 #[v1] w' (fun e w'' => e = .returned (.int .i64 (counts m)) ∧ Below w'.heap.size w' w'') := fun w' h' => countsOf_any _ m w' h' hm
  have hTm : ∀ w', RowAt msrRec w' v1 m → Calls Try.prog 42 #[v1, .int .i64 (counts m)] w' (fun e w'' => e = .returned (.int .i64 (tmOf m (counts m))) ∧ Below w'.heap.size w' w'') := fun w' h' => timeOf_any _ m _ w' h' hm (by omega) (by omega)
  have hTs : ∀ w', RowAt msrRec w' v1 m → RowAt cuRec w' (.slice A l.length c) l → Calls Try.prog 41 #[v1, .slice A l.length c] w' (fun e w'' => ∃ v', e = .returned v' ∧ OwnInts w'' w'.heap.size v' (tmsC m l) ∧ Below w'.heap.size w' w'') := fun w' h1 h2 => cueTimes_any _ _ m l w' h1 h2 hm hl
  have HC := Lib.hid hC
  have HTm := Lib.hid hTm
  have HTs := Lib.hid hTs
  obtain ⟨T, hT⟩ : ∃ T, T = allT m l := ⟨_, rfl⟩
  have hTl : T.length = l.length + 1 := by rw [hT]; exact allT_len m l
  have hTb := Lib.hid (fun k => by have := allT_bd hm hl k; rwa [← hT] at this : ∀ k, 0 ≤ gi T k ∧ gi T k ≤ 720000)
  rw [← hT] at hr
  have HT := Lib.hid hT
  have HTl := Lib.hid hTl
  clear hC hTm hTs hcb hT hTl
  have h9 : (tmsC m l).length + 1 ≤ 1099511627776 := by rw [tmsC_len]; omega
  go_enter Try.func18, Try.ntmps18
  go_wp2_with fail
  refine (haveCues_any _ _ m l _ hM h hw).mono ?_; rintro e w1 ⟨rfl, b1⟩
  clear hm hl
  have hM1 := hM.below b1 (Nat.le_refl _)
  have hL1 := h.below b1 (Nat.le_refl _)
  go_wp2_with fail
  refine (HTs.out _ hM1 hL1).mono ?_; rintro e w2 ⟨vt, rfl, o2, b2⟩
  have hM2 := hM1.below b2 (Nat.le_refl _)
  go_wp2_with fail
  refine (HC.out _ hM2).mono ?_; rintro e w3 ⟨rfl, b3⟩
  go_wp2_with fail
  refine (HTm.out _ (hM2.below b3 (Nat.le_refl _))).mono ?_; rintro e w4 ⟨rfl, b4⟩
  have o4 := (o2.below b3 (Nat.le_refl _)).below b4 (Nat.le_refl _)
  have hB4 := (((b1.next (Nat.le_refl _) b2).next (by have := b1.size; omega) b3).next (by have := b1.size; have := b2.size; omega) b4)
  have hs4 : w1.heap.size ≤ w4.heap.size := by have := b2.size; have := b3.size; have := b4.size; omega
  go_upto_region 4 with (at_builtin; refine wp_app_int _ rfl _ _ rfl w1.heap.size _ (tmsC m l) rfl o4 (tmOf m (counts m)) _ rfl rfl h9 hs4 ?_; intro v5 w5 ho5 hg5)
  have hT5 : IntsAt w5 v5 T := by rw [HT.out]; exact ho5.reads
  obtain ⟨A5, c5, rfl, hn5, hc5⟩ := hT5.shape
  have hB5 := hB4.trans (hg5.below.mono (by have := b1.size; omega))
  clear o4 o2 ho5
  go_wp2_with fail
  go_loopw [8, 30] (fun q i wr => ∃ k : Nat, k ≤ l.length ∧ i = .int .i64 k ∧ q = .int .i64 (bstT T k : Int) ∧ (∃ d, wr = w5.drewN d)) (fun _ i _ => l.length - (intOf i).toNat)
  case atStart => exact ⟨0, Nat.zero_le _, rfl, rfl, 0, rfl⟩
  case round =>
    obtain ⟨k, hk, rfl, rfl, d, rfl⟩ := hrel
    have hbl := bstT_le T k
    obtain ⟨j, hj⟩ : ∃ j, j = bstT T k := ⟨_, rfl⟩
    rw [← hj] at hbl ⊢
    have HJ := Lib.hid hj
    clear hj
    have hTl := HTl.out
    obtain ⟨b5, o5, rfl, q1⟩ := hT5.at_ (j + 1) (by omega)
    obtain ⟨b9, o9, he9, q2⟩ := hT5.at_ j (by omega)
    injection he9 with he9; injection he9 with e1 e2; subst e1 e2
    have bd1 := hTb.out (j + 1)
    have bd2 := hTb.out j
    obtain ⟨a1, a2⟩ := bd1
    obtain ⟨a3, a4⟩ := bd2
    have hj1 : ((j : Int) + 1) < (T.length : Int) := by omega
    have hj2 : ((j : Int)) < (T.length : Int) := by omega
    have hwj : IntKind.i64.wrap ((j : Int) + 1) = (j : Int) + 1 := IntWalk.i64_in _ (by omega)
    by_cases hlt : k < l.length
    · obtain ⟨b9, o9, he9, q3⟩ := hT5.at_ (k + 1) (by omega)
      injection he9 with he9; injection he9 with e1 e2; subst e1 e2
      obtain ⟨b9, o9, he9, q4⟩ := hT5.at_ k (by omega)
      injection he9 with he9; injection he9 with e1 e2; subst e1 e2
      have bd3 := hTb.out (k + 1)
      have bd4 := hTb.out k
      obtain ⟨a5, a6⟩ := bd3
      obtain ⟨a7, a8⟩ := bd4
      have hk1 : ((k : Int) + 1) < (T.length : Int) := by omega
      have hk2 : ((k : Int)) < (T.length : Int) := by omega
      have hwk : IntKind.i64.wrap ((k : Int) + 1) = (k : Int) + 1 := IntWalk.i64_in _ (by omega)
      have hd1 : IntKind.i64.wrap (gi T (k + 1) - gi T k) = gi T (k + 1) - gi T k := IntWalk.i64_in _ (by omega)
      have hd2 : IntKind.i64.wrap (gi T (j + 1) - gi T j) = gi T (j + 1) - gi T j := IntWalk.i64_in _ (by omega)
      clear hTl
      by_cases hx : gi T (j + 1) - gi T j < gi T (k + 1) - gi T k
      · have hn := Lib.hid (bstT_y (T := T) (k := k) (by rw [← HJ.out]; exact hx))
        go_wp2_with fail
        go_quiet (fail)
        go_wp2_with fail
        go_roundw
        case rel => exact ⟨k + 1, by omega, by go_num, by rw [hn.out], _, rfl⟩
        case measure => simp [intOf]; omega
      · have hn := Lib.hid (bstT_n (T := T) (k := k) (by rw [← HJ.out]; exact hx))
        rw [← HJ.out] at hn
        go_wp2_with fail
        go_quiet (fail)
        go_wp2_with fail
        go_roundw
        case rel => exact ⟨k + 1, by omega, by go_num, by rw [hn.out], _, rfl⟩
        case measure => simp [intOf]; omega
    · obtain rfl : k = l.length := by omega
      have hd2 : IntKind.i64.wrap (gi T (j + 1) - gi T j) = gi T (j + 1) - gi T j := IntWalk.i64_in _ (by omega)
      clear hTl
      have hn : Hid (rGap m l = ((j : Int), gi T (j + 1) - gi T j, true)) := by
        show _ = _
        rw [hr.out, HJ.out]; rfl
      go_wp2_with fail
      go_quiet (fail)
      go_wp2_with fail
      go_ret3
      exact ⟨by rw [hn.out]; rfl, (hB5.drewN _).drewN _⟩
theorem muLasts_any (n t : Int) (w : World) (h1 : 0 ≤ n) (h2 : n ≤ 480) (h3 : 40 ≤ t) (h4 : t ≤ 220) :
    Calls Try.prog 65 #[.int .i64 n, .int .i64 t] w fun e w' => e = .returned (.int .i64 (Int.tdiv (60000 * n) t)) ∧ w = w' := by
  obtain ⟨q1, q2⟩ := tm_div h1 h2 h3
  have hm : IntKind.i64.wrap (60000 * n) = 60000 * n := IntWalk.i64_in _ (by omega)
  have hq : IntKind.i64.wrap (Int.tdiv (60000 * n) t) = Int.tdiv (60000 * n) t := IntWalk.i64_in _ (by omega)
  have t0 : t ≠ 0 := by omega
  have t1 : t ≠ -1 := by omega
  go_enter Try.func65, Try.ntmps65
  go_wp2_with fail
  go_ret
  exact ⟨rfl, rfl⟩
set_option maxHeartbeats 3200000 in
theorem muTime_any (v : Value) (m : List Msr) (n : Int) (w : World) (h : RowAt msrRec w v m) (hm : isMus m = true) (h0 : 0 ≤ n) (h1 : n ≤ 480) :
    Calls Try.prog 39 #[v, .int .i64 n] w fun e w' => e = .returned (.int .i64 (tmOf m n)) ∧ Below w.heap.size w w' := by
  obtain ⟨A, c, rfl, hnc, hc63⟩ := h.shape
  have hmt := isMus_t hm
  obtain ⟨_, hl40, ht⟩ := hmt
  have Ht := Lib.hid ht
  clear ht hm
  go_enter Try.func39, Try.ntmps39
  go_wp2_with fail
  go_loopw [1, 5, 10] (fun q s i wr => ∃ (k : Nat) (n1 s1 : Int), k ≤ m.length ∧ i = .int .i64 k ∧ q = .int .i64 n1 ∧ s = .int .i64 s1 ∧ 0 ≤ n1 ∧ n1 ≤ 480 ∧ 0 ≤ s1 ∧ s1 ≤ 18000 * (k : Int) ∧ Hid (tmFrom (m.drop k) n1 s1 = tmOf m n) ∧ Below w.heap.size w wr) (fun _ _ i _ => m.length - (intOf i).toNat)
  case atStart => exact ⟨0, n, 0, Nat.zero_le _, rfl, rfl, rfl, h0, h1, by omega, by omega, rfl, Below.refl _ _⟩
  case round =>
    obtain ⟨k, n1, s1, hk, rfl, rfl, rfl, p1, p2, p3, p4, htm, hb⟩ := hrel
    by_cases hlt : k < m.length
    · obtain ⟨b, o, rfl, hc0, hc1⟩ := msr_at (h.below hb (Nat.le_refl _)) k hlt
      have hy : ∀ o, Below w.heap.size w (wr.alloc o) := fun o => hb.alloc hb.size o
      have Hy := Lib.hid hy
      clear hy
      have hx := muOk_t (Ht.out k hlt)
      obtain ⟨x1, x2, x3, x4⟩ := hx
      have t0 : (gx msrRec m k).t ≠ 0 := by omega
      have t1 : (gx msrRec m k).t ≠ -1 := by omega
      by_cases hlc : n1 < (gx msrRec m k).c
      · have hr := Lib.hid ((tmFrom_in hlt hlc).symm.trans htm.out)
        have hd := tdiv_bd (a := 60000 * n1) (b := (gx msrRec m k).t) (by omega) (by omega) x3
        obtain ⟨d1, d2⟩ := hd
        have hm8 : IntKind.i64.wrap (60000 * n1) = 60000 * n1 := IntWalk.i64_in _ (by omega)
        have hq8 : IntKind.i64.wrap (Int.tdiv (60000 * n1) (gx msrRec m k).t) = Int.tdiv (60000 * n1) (gx msrRec m k).t := IntWalk.i64_in _ (by omega)
        have hs8 : IntKind.i64.wrap (s1 + Int.tdiv (60000 * n1) (gx msrRec m k).t) = s1 + Int.tdiv (60000 * n1) (gx msrRec m k).t := IntWalk.i64_in _ (by omega)
        go_wp2_with (go_at_call 65; refine (muLasts_any _ _ _ (by omega) (by omega) (by omega) (by omega)).mono ?_; rintro e w3 ⟨rfl, rfl⟩)
        go_ret
        exact ⟨ret_int hr.out, Hy.out _⟩
      · have hr := Lib.hid ((tmFrom_on hlt hlc).symm.trans htm.out)
        have hd := tdiv_bd (a := 60000 * (gx msrRec m k).c) (b := (gx msrRec m k).t) (by omega) (by omega) x3
        obtain ⟨d1, d2⟩ := hd
        have hm8 : IntKind.i64.wrap (60000 * (gx msrRec m k).c) = 60000 * (gx msrRec m k).c := IntWalk.i64_in _ (by omega)
        have hq8 : IntKind.i64.wrap (Int.tdiv (60000 * (gx msrRec m k).c) (gx msrRec m k).t) = Int.tdiv (60000 * (gx msrRec m k).c) (gx msrRec m k).t := IntWalk.i64_in _ (by omega)
        have hs8 : IntKind.i64.wrap (s1 + Int.tdiv (60000 * (gx msrRec m k).c) (gx msrRec m k).t) = s1 + Int.tdiv (60000 * (gx msrRec m k).c) (gx msrRec m k).t := IntWalk.i64_in _ (by omega)
        go_wp2_with (go_at_call 65; refine (muLasts_any _ _ _ (by omega) (by omega) (by omega) (by omega)).mono ?_; rintro e w3 ⟨rfl, rfl⟩)
        go_roundw
        case rel => exact ⟨k + 1, _, _, by omega, by go_num, rfl, rfl, by omega, by omega, by omega, by omega, hr, Hy.out _⟩
        case measure => simp [intOf]; omega
    · obtain rfl : k = m.length := by omega
      have hr : Hid (s1 = tmOf m n) := by
        have := htm.out
        rw [List.drop_length] at this
        exact this
      go_wp2_with fail
      go_ret
      exact ⟨ret_int hr.out, hb⟩
set_option maxHeartbeats 3200000 in
theorem tiTimes_any (v1 v : Value) (m : List Msr) (l : List Cu) (w : World) (hM : RowAt msrRec w v1 m) (h : RowAt cuRec w v l) (hm : isMus m = true) (hl : areC (counts m) l = true) :
    Calls Try.prog 38 #[v1, v] w fun e w' => ∃ v', e = .returned v' ∧ OwnInts w' w.heap.size v' (tmsC m l) ∧ Below w.heap.size w w' := by
  obtain ⟨A, c, rfl, hnc, hc63⟩ := h.shape
  have hcb := counts_bd hm
  have h30 := (areC_t hl).1
  have hT : ∀ k w', k < l.length → RowAt msrRec w' v1 m → Calls Try.prog 39 #[v1, .int .i64 (gx cuRec l k).c] w' (fun e w'' => e = .returned (.int .i64 (tmOf m (gx cuRec l k).c)) ∧ Below w'.heap.size w' w'') := fun k w' hk h' => muTime_any _ m _ w' h' hm (areC_c hl hk).1 (by have := (areC_c hl hk).2; omega)
  have HT := Lib.hid hT
  clear hT hcb hm hl
  go_enter Try.func38, Try.ntmps38
  go_wp2_with fail
  go_loopw [5, 10] (fun s i wr => ∃ k : Nat, k ≤ l.length ∧ i = .int .i64 k ∧ OwnInts wr w.heap.size s (tmsC m (l.take k)) ∧ Below w.heap.size w wr) (fun _ i _ => l.length - (intOf i).toNat)
  case atStart => exact ⟨0, Nat.zero_le _, rfl, OwnInts.nil_ _ _, Below.refl _ _⟩
  case round =>
    obtain ⟨k, hk, rfl, ho, hb⟩ := hrel
    by_cases hlt : k < l.length
    · obtain ⟨b, o, rfl, hc0, hc1⟩ := cu_at (h.below hb (Nat.le_refl _)) k hlt
      have hy : ∀ o, Below w.heap.size w (wr.alloc o) := fun o => hb.alloc hb.size o
      have Hy := Lib.hid hy
      clear hy
      have hX : ∀ o, RowAt msrRec (wr.alloc o) v1 m := fun o => hM.below (Hy.out o) (Nat.le_refl _)
      have HX := Lib.hid hX
      clear hX
      have hoA : ∀ o, OwnInts (wr.alloc o) w.heap.size u5 (tmsC m (l.take k)) := fun o => World.ownsRow.alloc ho o
      have HoA := Lib.hid hoA
      clear hoA
      have hs := Lib.hid (tmsC_succ m l k hlt)
      have h9 : (tmsC m (l.take k)).length + 1 ≤ 1099511627776 := by rw [tmsC_len, List.length_take]; omega
      go_wp2_with fail
      refine (HT.out k _ hlt (HX.out _)).mono ?_; rintro e w1 ⟨rfl, b1⟩
      have ho1 := OwnInts.below (HoA.out _) b1 (Nat.le_refl _)
      have hb1 := (Hy.out _).next (Nat.le_refl _) b1
      clear ho
      go_wp2_with (at_builtin; refine wp_app_int _ rfl _ _ rfl w.heap.size _ (tmsC m (l.take k)) rfl ho1 (tmOf m (gx cuRec l k).c) _ rfl rfl h9 hb1.size ?_; intro v5 w5 ho5 hg5)
      go_roundw
      case rel => exact ⟨k + 1, by omega, by go_num, hs.out ▸ ho5, hb1.trans hg5.below⟩
      case measure => simp [intOf]; omega
    · obtain rfl : k = l.length := by omega
      have hx : Hid (l.take l.length = l) := List.take_length
      go_wp2_with fail
      go_ret
      exact ⟨_, rfl, hx.out ▸ ho, hb⟩
set_option maxRecDepth 100000 in
set_option maxHeartbeats 6400000 in
theorem specGap (v1 v : Value) (m : List Msr) (l : List Cu) (w : World) (hM : RowAt msrRec w v1 m) (h : RowAt cuRec w v l) (hw : WfCues l) :
    Calls Try.prog 17 #[v1, v] w fun e w' => e = .returned (.tuple #[.int .i64 (rGap m l).1, .int .i64 (rGap m l).2.1, .bool (rGap m l).2.2]) ∧ Below w.heap.size w w' := by
  obtain ⟨A, c, rfl, hnc, hc63⟩ := h.shape
  cases hg : goodC m l
  · have hr := Lib.hid (rGap_1 hg)
    go_enter Try.func17, Try.ntmps17
    go_wp2_with fail
    refine (tiGood_any _ _ m l _ hM h hw).mono ?_; rintro e w1 ⟨rfl, b1⟩
    go_wp2_with fail
    go_ret3
    exact ⟨by rw [hr.out]; rfl, b1⟩
  rcases Nat.eq_zero_or_pos l.length with hl0 | hl0
  · have hr := Lib.hid (rGap_2 (m := m) hl0)
    obtain rfl := List.eq_nil_of_length_eq_zero hl0
    clear hl0
    rw [List.length_nil] at h hnc ⊢
    go_enter Try.func17, Try.ntmps17
    go_wp2_with fail
    refine (tiGood_any _ _ m [] _ hM h hw).mono ?_; rintro e w1 ⟨rfl, b1⟩
    go_wp2_with fail
    go_ret3
    exact ⟨by rw [hr.out]; rfl, b1⟩
  have hr := Lib.hid (rGap_3 hg hl0)
  have hgt := goodC_t hg
  obtain ⟨hm, hl⟩ := hgt
  have hcb := counts_bd hm
  have h30 := (areC_t hl).1
  have hC : ∀ w', RowAt msrRec w' v1 m → Calls Try.prog 40 #[v1] w' (fun e w'' => e = .returned (.int .i64 (counts m)) ∧ Below w'.heap.size w' w'') := fun w' h' => muCounts_any _ m w' h' hm
  have hTm : ∀ w', RowAt msrRec w' v1 m → Calls Try.prog 39 #[v1, .int .i64 (counts m)] w' (fun e w'' => e = .returned (.int .i64 (tmOf m (counts m))) ∧ Below w'.heap.size w' w'') := fun w' h' => muTime_any _ m _ w' h' hm (by omega) (by omega)
  have hTs : ∀ w', RowAt msrRec w' v1 m → RowAt cuRec w' (.slice A l.length c) l → Calls Try.prog 38 #[v1, .slice A l.length c] w' (fun e w'' => ∃ v', e = .returned v' ∧ OwnInts w'' w'.heap.size v' (tmsC m l) ∧ Below w'.heap.size w' w'') := fun w' h1 h2 => tiTimes_any _ _ m l w' h1 h2 hm hl
  have HC := Lib.hid hC
  have HTm := Lib.hid hTm
  have HTs := Lib.hid hTs
  obtain ⟨T, hT⟩ : ∃ T, T = allT m l := ⟨_, rfl⟩
  have hTl : T.length = l.length + 1 := by rw [hT]; exact allT_len m l
  have hTb := Lib.hid (fun k => by have := allT_bd hm hl k; rwa [← hT] at this : ∀ k, 0 ≤ gi T k ∧ gi T k ≤ 720000)
  rw [← hT] at hr
  have HT := Lib.hid hT
  have HTl := Lib.hid hTl
  clear hC hTm hTs hcb hT hTl
  have h9 : (tmsC m l).length + 1 ≤ 1099511627776 := by rw [tmsC_len]; omega
  go_enter Try.func17, Try.ntmps17
  go_wp2_with fail
  refine (tiGood_any _ _ m l _ hM h hw).mono ?_; rintro e w1 ⟨rfl, b1⟩
  clear hm hl
  have hM1 := hM.below b1 (Nat.le_refl _)
  have hL1 := h.below b1 (Nat.le_refl _)
  go_wp2_with fail
  refine (HTs.out _ hM1 hL1).mono ?_; rintro e w2 ⟨vt, rfl, o2, b2⟩
  have hM2 := hM1.below b2 (Nat.le_refl _)
  go_wp2_with fail
  refine (HC.out _ hM2).mono ?_; rintro e w3 ⟨rfl, b3⟩
  go_wp2_with fail
  refine (HTm.out _ (hM2.below b3 (Nat.le_refl _))).mono ?_; rintro e w4 ⟨rfl, b4⟩
  have o4 := (o2.below b3 (Nat.le_refl _)).below b4 (Nat.le_refl _)
  have hB4 := (((b1.next (Nat.le_refl _) b2).next (by have := b1.size; omega) b3).next (by have := b1.size; have := b2.size; omega) b4)
  have hs4 : w1.heap.size ≤ w4.heap.size := by have := b2.size; have := b3.size; have := b4.size; omega
  go_upto_region 4 with (at_builtin; refine wp_app_int _ rfl _ _ rfl w1.heap.size _ (tmsC m l) rfl o4 (tmOf m (counts m)) _ rfl rfl h9 hs4 ?_; intro v5 w5 ho5 hg5)
  have hT5 : IntsAt w5 v5 T := by rw [HT.out]; exact ho5.reads
  obtain ⟨A5, c5, rfl, hn5, hc5⟩ := hT5.shape
  have hB5 := hB4.trans (hg5.below.mono (by have := b1.size; omega))
  clear o4 o2 ho5
  go_wp2_with fail
  go_loopw [8, 30] (fun q i wr => ∃ k : Nat, k ≤ l.length ∧ i = .int .i64 k ∧ q = .int .i64 (bstT T k : Int) ∧ (∃ d, wr = w5.drewN d)) (fun _ i _ => l.length - (intOf i).toNat)
  case atStart => exact ⟨0, Nat.zero_le _, rfl, rfl, 0, rfl⟩
  case round =>
    obtain ⟨k, hk, rfl, rfl, d, rfl⟩ := hrel
    have hbl := bstT_le T k
    obtain ⟨j, hj⟩ : ∃ j, j = bstT T k := ⟨_, rfl⟩
    rw [← hj] at hbl ⊢
    have HJ := Lib.hid hj
    clear hj
    have hTl := HTl.out
    obtain ⟨b5, o5, rfl, q1⟩ := hT5.at_ (j + 1) (by omega)
    obtain ⟨b9, o9, he9, q2⟩ := hT5.at_ j (by omega)
    injection he9 with he9; injection he9 with e1 e2; subst e1 e2
    have bd1 := hTb.out (j + 1)
    have bd2 := hTb.out j
    obtain ⟨a1, a2⟩ := bd1
    obtain ⟨a3, a4⟩ := bd2
    have hj1 : ((j : Int) + 1) < (T.length : Int) := by omega
    have hj2 : ((j : Int)) < (T.length : Int) := by omega
    have hwj : IntKind.i64.wrap ((j : Int) + 1) = (j : Int) + 1 := IntWalk.i64_in _ (by omega)
    by_cases hlt : k < l.length
    · obtain ⟨b9, o9, he9, q3⟩ := hT5.at_ (k + 1) (by omega)
      injection he9 with he9; injection he9 with e1 e2; subst e1 e2
      obtain ⟨b9, o9, he9, q4⟩ := hT5.at_ k (by omega)
      injection he9 with he9; injection he9 with e1 e2; subst e1 e2
      have bd3 := hTb.out (k + 1)
      have bd4 := hTb.out k
      obtain ⟨a5, a6⟩ := bd3
      obtain ⟨a7, a8⟩ := bd4
      have hk1 : ((k : Int) + 1) < (T.length : Int) := by omega
      have hk2 : ((k : Int)) < (T.length : Int) := by omega
      have hwk : IntKind.i64.wrap ((k : Int) + 1) = (k : Int) + 1 := IntWalk.i64_in _ (by omega)
      have hd1 : IntKind.i64.wrap (gi T (k + 1) - gi T k) = gi T (k + 1) - gi T k := IntWalk.i64_in _ (by omega)
      have hd2 : IntKind.i64.wrap (gi T (j + 1) - gi T j) = gi T (j + 1) - gi T j := IntWalk.i64_in _ (by omega)
      clear hTl
      by_cases hx : gi T (j + 1) - gi T j < gi T (k + 1) - gi T k
      · have hn := Lib.hid (bstT_y (T := T) (k := k) (by rw [← HJ.out]; exact hx))
        go_wp2_with fail
        go_quiet (fail)
        go_wp2_with fail
        go_roundw
        case rel => exact ⟨k + 1, by omega, by go_num, by rw [hn.out], _, rfl⟩
        case measure => simp [intOf]; omega
      · have hn := Lib.hid (bstT_n (T := T) (k := k) (by rw [← HJ.out]; exact hx))
        rw [← HJ.out] at hn
        go_wp2_with fail
        go_quiet (fail)
        go_wp2_with fail
        go_roundw
        case rel => exact ⟨k + 1, by omega, by go_num, by rw [hn.out], _, rfl⟩
        case measure => simp [intOf]; omega
    · obtain rfl : k = l.length := by omega
      have hd2 : IntKind.i64.wrap (gi T (j + 1) - gi T j) = gi T (j + 1) - gi T j := IntWalk.i64_in _ (by omega)
      clear hTl
      have hn : Hid (rGap m l = ((j : Int), gi T (j + 1) - gi T j, true)) := by
        show _ = _
        rw [hr.out, HJ.out]; rfl
      go_wp2_with fail
      go_quiet (fail)
      go_wp2_with fail
      go_ret3
      exact ⟨by rw [hn.out]; rfl, (hB5.drewN _).drewN _⟩
end Go.Proofs.Ytnbpkealigfmjaa
