/- The draws of charts: chartOf. -/
import Derived.Test.YtnkbopnmfoplfaaDrawAs
import Derived.Test.YtnkbopnmfoplfaaChart
import Derived.Deep.LoopGhost
import Derived.Deep.RegionHeld3
set_option linter.unusedSimpArgs false
set_option linter.unusedVariables false
namespace Go.Proofs.Ytnkbopnmfoplfaa
open Go.RowKit Go.Sort

theorem OwnRow.aptS {α : Type} {R : Rec α} {w w' : World} {base g : Nat} {v : Value} {l : List α} (h : OwnRow R w base v l) (ha : Apg g w w') (hb : g + 1 ≤ base) : OwnRow R w' base v l := ownsRow_apt h ha hb
theorem OwnRow.alS {α : Type} {R : Rec α} {w : World} {base : Nat} {v : Value} {l : List α} (h : OwnRow R w base v l) (o : Obj) : OwnRow R (w.alloc o) base v l := World.ownsRow.alloc h o
/-- What a draw of a row leaves. -/
def FreshRC {α : Type} (R : Rec α) (w : World) (g : Nat) (v : Value) (code : List Nat) (Q : List α → Nat → Prop) (e : Ending) (w' : World) : Prop :=
  ∃ (u : Value) (l : List α) (n : Nat), e = .returned u ∧ OwnRow R w' w.heap.size u l ∧ CurAt w' g v code n ∧ Apg g w w' ∧ Q l n
def spOk (T : Nat) (l : List Spt) : Prop := ∀ s ∈ l, 0 ≤ s.x ∧ s.x ≤ 1280 ∧ 0 ≤ s.y ∧ (s.y ≤ 672 ∨ s.y ≤ 6 + (T : Int))
theorem spOk.up {T : Nat} {l : List Spt} (h : spOk T l) : spOk (T + 1) l := fun s hs => by
  obtain ⟨a, b, c, d⟩ := h s hs
  exact ⟨a, b, c, by rcases d with d | d <;> omega⟩
theorem spOk.snoc {T : Nat} {l : List Spt} (h : spOk T l) {x y : Int} (hx : 0 ≤ x ∧ x ≤ 1280) (hy : 0 ≤ y ∧ (y ≤ 672 ∨ y ≤ 7 + (T : Int))) : spOk (T + 1) (l ++ [⟨x, y⟩]) := fun s hs => by
  rcases List.mem_append.1 hs with h1 | h1
  · exact h.up s h1
  · simp only [List.mem_singleton] at h1
    subst h1
    refine ⟨hx.1, hx.2, hy.1, ?_⟩
    rcases hy.2 with d | d
    · exact .inl d
    · exact .inr (by simp only; omega)
theorem spOk.fresh {T : Nat} {l : List Spt} (h : spOk T l) (hT : 680 ≤ T) (x : Int) : findS l ⟨x, 7 + (T : Int)⟩ = -1 := by
  rw [findS_no]
  intro hm
  obtain ⟨_, _, _, d⟩ := h _ hm
  simp only at d
  rcases d with d | d <;> omega
theorem OwnInts.drD {w : World} {lo : Nat} {v : Value} {l : List Int} (h : OwnInts w lo v l) (n : Nat) : OwnInts (w.drewN n) lo v l := h
theorem grown_set9 (w : World) (b o : Nat) (x : Value) : w.grownBy (w.setCell ⟨b, o, none⟩ x) (some b) :=
  ⟨rfl, rfl, rfl, by rw [World.size_setCell]; exact Nat.le_refl _, fun k _ hne => heap_setCell_other w _ k x (fun e => hne (by rw [e]))⟩
theorem OwnRow.set2 {α : Type} {R : Rec α} {w : World} {lo b : Nat} {v : Value} {l : List α} (h : OwnRow R w lo v l) (hne : ∀ gb, v.ownBlock = some gb → gb < b) (x y : Value) : OwnRow R ((w.setCell ⟨b, 0, none⟩ x).setCell ⟨b, 1, none⟩ y) lo v l := by
  have hn : v.ownBlock = none ∨ v.ownBlock ≠ some b := by
    right; intro e; have := hne b e; omega
  exact World.ownsRow.kept (World.ownsRow.kept h (grown_set9 w b 0 x) hn) (grown_set9 _ b 1 y) hn
theorem l1Least_q (a b : Int) (w : World) : Calls Try.prog 73 #[.int .i64 a, .int .i64 b] w fun e w' => e = .returned (.int .i64 (min a b)) ∧ w = w' := by
  rcases Int.lt_or_le a b with h | h
  · have e : Hid (min a b = a) := by show _ = _; omega
    go_enter Try.func73, Try.ntmps73
    go_wp2_with fail
    go_ret
    exact ⟨ret_int e.out.symm, rfl⟩
  · have e : Hid (min a b = b) := by show _ = _; omega
    go_enter Try.func73, Try.ntmps73
    go_wp2_with fail
    go_ret
    exact ⟨ret_int e.out.symm, rfl⟩
set_option maxRecDepth 100000 in
set_option maxHeartbeats 12800000 in
theorem chartOf_any (g n : Nat) (v : Value) (code : List Nat) (N : Nat) (hN : N ≤ 13) (w : World) (h : CurAt w g v code n) (hn : n ≤ 4611686018420000000) :
    Calls Try.prog 67 #[.pointer (some ⟨g, 0, none⟩), .int .i64 N] w
      (FreshRC sptRec w g v code fun l n' => l.length = N ∧ n ≤ n' ∧ n' ≤ n + 40000) := by
  have hg := h.lt
  go_enter Try.func67, Try.ntmps67
  go_wp2_with fail
  go_loopg [5, 6] (N + 680) (fun gk t i wr => ∃ (l : List Spt) (T k : Nat), l.length ≤ N ∧ T ≤ 680 + l.length ∧ (N - l.length) + (680 - T) ≤ gk ∧ i = .int .i64 T ∧ Hid (spOk T l) ∧ n ≤ k ∧ k ≤ n + 40 * T ∧ OwnRow sptRec wr w.heap.size t l ∧ CurAt wr g v code k ∧ Apg g w wr)
  case atStart => exact ⟨[], 0, n, Nat.zero_le _, by simp, by simp, rfl, (fun s hs => by cases hs), Nat.le_refl _, by omega, OwnRow.nil_ sptRec _ _, h, Apart.refl _ _ _⟩
  case round =>
    obtain ⟨l, T, k, hl, hT, hgk, rfl, hok, hk1, hk2, ho, qr, ar⟩ := hrel
    obtain ⟨A, c, rfl, hnc, hc63⟩ := ho.reads.shape
    by_cases hlt : l.length < N
    · have hsr := ar.size
      have hgr := qr.lt
      have C1 := Lib.hid (spot_any g k v code wr qr (by omega))
      have hlo : Hid (∀ gb, (Value.slice A l.length c).ownBlock = some gb → gb < wr.heap.size) := fun gb h9 => (World.ownsRow.lt ho gb h9).2
      go_upto_region 6 with (go_at_call 71; refine C1.out.mono ?_; rintro e w1 ⟨x, y, k1, rfl, q1, a1, x0, x1, y0, y1, hk3, hk4⟩)
      have o1 := ho.aptS a1 (by omega)
      have ar1 := ar.trans a1
      have hg1 := q1.lt
      have hs1 := ar1.size
      have z7 := BoxS.new w1 x y
      have o2 := o1.alS (.cells #[.int .i64 x, .int .i64 y] 42)
      have a2 := apg_al ar1 (.cells #[.int .i64 x, .int .i64 y] 42)
      have q2 := q1.belowG ((Below.refl _ w1).alloc (Nat.le_refl _) (.cells #[.int .i64 x, .int .i64 y] 42)) hg1
      obtain ⟨w2, hw2⟩ : ∃ w2, w2 = w1.alloc (.cells #[.int .i64 x, .int .i64 y] 42) := ⟨_, rfl⟩
      obtain ⟨B, hB⟩ : ∃ B, B = w1.heap.size := ⟨_, rfl⟩
      rw [← hB] at z7
      rw [← hw2] at z7 o2 a2 q2
      have hs2 : w2.heap.size = B + 1 := by rw [hw2, hB]; simp
      have hgB : g < B := by omega
      have hwB : w.heap.size ≤ B := by omega
      have hrB : wr.heap.size ≤ B := by rw [hB]; exact a1.size
      have HW2 := Lib.hid hw2
      have HB := Lib.hid hB
      have HS2 := Lib.hid hs2
      clear hw2 hB hs2 C1 qr ho o1 ar1 q1 a1 hsr hgr ar hs1 hg1
      rw [← HW2.out, ← HB.out]
      have hlB : Hid (∀ gb, (Value.slice A l.length c).ownBlock = some gb → gb < B) := fun gb h9 => Nat.lt_of_lt_of_le (hlo.out gb h9) hrB
      clear hlo
      go_cut [23] (fun s wx => ∃ (bq : Bool) (k' : Nat), s = .bool bq ∧ (bq = true → 0 < l.length) ∧ n ≤ k' ∧ k' ≤ k + 22 ∧ BoxS wx B x y ∧ OwnRow sptRec wx w.heap.size (.slice A l.length c) l ∧ CurAt wx g v code k' ∧ Apg g w wx)
      case first =>
        rcases Nat.eq_zero_or_pos l.length with h0 | h0
        · have h0f : decide ((0 : Int) < (l.length : Int)) = false := decide_eq_false (by omega)
          go_wp2_with fail
          go_meet
          exact ⟨false, k1, rfl, (fun h9 => by cases h9), by omega, by omega, z7, o2, q2, a2⟩
        · have h0f : (0 : Int) < (l.length : Int) := by omega
          have C3 := Lib.hid (one_ex g v code 2 k1 w2 (by omega) q2)
          go_wp2_with fail
          refine C3.out.mono ?_; rintro e w3 ⟨b3, k3, rfl, hk5, hk6, q3, a3⟩
          go_wp2_with fail
          go_meet
          exact ⟨b3, k3, rfl, (fun _ => h0), by omega, by omega, z7.apt a3 hgB, o2.aptS a3 (by omega), q3, a2.trans a3⟩
      case rest =>
        obtain ⟨bq, k4, rfl, hbq, hk7, hk8, z4, o4, q4, a4⟩ := hcut
        clear z7 o2 q2 a2 hk3 hk4
        obtain ⟨w4, hw4⟩ : ∃ w9 : World, w9 = wc := ⟨_, rfl⟩
        subst hw4
        go_upto_if 23 with fail
        go_cut [] (fun wx => ∃ (x' y' : Int) (k' : Nat), 0 ≤ x' ∧ x' ≤ 1280 ∧ 0 ≤ y' ∧ y' ≤ 672 ∧ n ≤ k' ∧ k' ≤ k + 30 ∧ BoxS wx B x' y' ∧ OwnRow sptRec wx w.heap.size (.slice A l.length c) l ∧ CurAt wx g v code k' ∧ Apg g w wx)
        case first =>
          cases bq
          case false =>
            go_wp2_with fail
            go_meet
            exact ⟨x, y, k4, x0, x1, y0, y1, hk7, by omega, z4, o4, q4, a4⟩
          case true =>
            have h0 : 0 < l.length := hbq rfl
            have C5 := Lib.hid (pick_ex g v code l.length k4 w4 (by omega) (by omega) q4)
            go_wp2_with fail
            refine C5.out.mono ?_; rintro e w5 ⟨i5, k5, rfl, hi5, hk9, hk10, q5, a5⟩
            have z5 := z4.apt a5 hgB
            have o5 := o4.aptS a5 (by omega)
            have a55 := a4.trans a5
            have hs5 := a55.size
            have hg5 := q5.lt
            have hi5l : i5 < l.length := by omega
            obtain ⟨bb, ob, rfl, c0, c1⟩ := spt_at o5.reads i5 hi5l
            obtain ⟨e0, e1, e2, e3⟩ := hok.out _ (gx_mem (R := sptRec) hi5l)
            obtain ⟨bx, hbx⟩ : ∃ z, z = (gx sptRec l i5).x := ⟨_, rfl⟩
            obtain ⟨bY, hbY⟩ : ∃ z, z = (gx sptRec l i5).y := ⟨_, rfl⟩
            rw [← hbx] at c0 e0 e1
            rw [← hbY] at c1 e2 e3
            clear hbx hbY C5 z4 o4 a4 a5
            have hi0 : (0 : Int) ≤ (i5 : Int) := by omega
            have hT7 : T ≤ 700 := by omega
            have z8 := z5.al (.cells #[.int .i64 bx, .int .i64 bY] 42)
            have n8 := BoxS.new w5 bx bY
            have o8 := o5.alS (.cells #[.int .i64 bx, .int .i64 bY] 42)
            have a8 := apg_al a55 (.cells #[.int .i64 bx, .int .i64 bY] 42)
            have q8 := q5.belowG ((Below.refl _ w5).alloc (Nat.le_refl _) (.cells #[.int .i64 bx, .int .i64 bY] 42)) hg5
            obtain ⟨X, hX⟩ : ∃ X, X = w5.alloc (.cells #[.int .i64 bx, .int .i64 bY] 42) := ⟨_, rfl⟩
            obtain ⟨B8, hB8⟩ : ∃ B, B = w5.heap.size := ⟨_, rfl⟩
            rw [← hB8] at n8
            rw [← hX] at z8 n8 o8 a8 q8
            have hz5 := z5.lt
            have hBB : B < B8 := by omega
            have hXs : X.heap.size = B8 + 1 := by rw [hX, hB8]; simp
            have HX := Lib.hid hX
            have HB8 := Lib.hid hB8
            have HXs := Lib.hid hXs
            have hgX : g < X.heap.size := q8.lt
            clear hX hB8 z5 o5 a55 q5 hz5 hg5
            go_upto_region 8 with fail
            clear c0 c1
            rw [← HX.out, ← HB8.out]
            have aD : Apg g X X.drew := (Apart.refl _ _ _).drewN 1
            have hgX1 : g + 1 ≤ X.heap.size := hgX
            have M5 : Hid (∀ (W : World) (lv : Value) (kk : Nat), CurAt W g v code kk → kk ≤ n + 40 * T + 30 → OwnInts W (g + 1) lv [0, 8, 16, 24, 5] → Calls Try.prog 72 #[.pointer (some ⟨g, 0, none⟩), lv] W fun e w' => ∃ (x : Int) (n' : Nat), e = .returned (.int .i64 x) ∧ (0 ≤ x ∧ x ≤ 24) ∧ kk ≤ n' ∧ n' ≤ kk + 1 ∧ CurAt w' g v code n' ∧ Apg g W w') := fun W lv kk hq hkk hl9 => among_lit g kk v lv code [0, 8, 16, 24, 5] W hq (by omega) hl9 (by decide) (by decide) _ (by intro z hz; simp only [List.mem_cons, List.not_mem_nil, or_false] at hz; omega)
            have M4 : Hid (∀ (W : World) (lv : Value) (kk : Nat), CurAt W g v code kk → kk ≤ n + 40 * T + 30 → OwnInts W (g + 1) lv [0, 8, 16, 3] → Calls Try.prog 72 #[.pointer (some ⟨g, 0, none⟩), lv] W fun e w' => ∃ (x : Int) (n' : Nat), e = .returned (.int .i64 x) ∧ (0 ≤ x ∧ x ≤ 24) ∧ kk ≤ n' ∧ n' ≤ kk + 1 ∧ CurAt w' g v code n' ∧ Apg g W w') := fun W lv kk hq hkk hl9 => among_lit g kk v lv code [0, 8, 16, 3] W hq (by omega) hl9 (by decide) (by decide) _ (by intro z hz; simp only [List.mem_cons, List.not_mem_nil, or_false] at hz; omega)
            have qD : ∀ W, Below X.heap.size X W → CurAt W g v code k5 := fun W hW => q8.belowG hW hgX
            have b1_ : Below X.heap.size X ((X.alloc (.cells #[.int .i64 0, .int .i64 8, .int .i64 16, .int .i64 24, .int .i64 5] 3)).drew) := ((Below.refl _ _).alloc (Nat.le_refl _) _).drew
            have b2_ : Below X.heap.size X (((X.alloc (.cells #[.int .i64 0, .int .i64 8, .int .i64 16, .int .i64 24, .int .i64 5] 3)).alloc (.cells #[.int .i64 0, .int .i64 8, .int .i64 16, .int .i64 3] 3)).drew) := (((Below.refl _ _).alloc (Nat.le_refl _) _).alloc (by simp) _).drew
            have b3_ : Below X.heap.size X (((X.alloc (.cells #[.int .i64 0, .int .i64 8, .int .i64 16, .int .i64 3] 3)).alloc (.cells #[.int .i64 0, .int .i64 8, .int .i64 16, .int .i64 24, .int .i64 5] 3)).drew) := (((Below.refl _ _).alloc (Nat.le_refl _) _).alloc (by simp) _).drew
            have F1 : Calls Try.prog 72 #[.pointer (some ⟨g, 0, none⟩), .slice (some ⟨X.heap.size, 0, none⟩) 5 5] ((X.alloc (.cells #[.int .i64 0, .int .i64 8, .int .i64 16, .int .i64 24, .int .i64 5] 3)).drew) (fun e w' => ∃ (x : Int) (n' : Nat), e = .returned (.int .i64 x) ∧ (0 ≤ x ∧ x ≤ 24) ∧ k5 ≤ n' ∧ n' ≤ k5 + 1 ∧ CurAt w' g v code n' ∧ Apg g ((X.alloc (.cells #[.int .i64 0, .int .i64 8, .int .i64 16, .int .i64 24, .int .i64 5] 3)).drew) w') := M5.out _ _ k5 (qD _ b1_) (by omega) ((lit5 X (g + 1) 0 8 16 24 5 hgX1).drD 1)
            have F2 : Calls Try.prog 72 #[.pointer (some ⟨g, 0, none⟩), .slice (some ⟨X.heap.size, 0, none⟩) 5 5] (((X.alloc (.cells #[.int .i64 0, .int .i64 8, .int .i64 16, .int .i64 24, .int .i64 5] 3)).alloc (.cells #[.int .i64 0, .int .i64 8, .int .i64 16, .int .i64 3] 3)).drew) (fun e w' => ∃ (x : Int) (n' : Nat), e = .returned (.int .i64 x) ∧ (0 ≤ x ∧ x ≤ 24) ∧ k5 ≤ n' ∧ n' ≤ k5 + 1 ∧ CurAt w' g v code n' ∧ Apg g (((X.alloc (.cells #[.int .i64 0, .int .i64 8, .int .i64 16, .int .i64 24, .int .i64 5] 3)).alloc (.cells #[.int .i64 0, .int .i64 8, .int .i64 16, .int .i64 3] 3)).drew) w') := M5.out _ _ k5 (qD _ b2_) (by omega) (((lit5 X (g + 1) 0 8 16 24 5 hgX1).al _).drD 1)
            have l5' := lit5 (X.alloc (.cells #[.int .i64 0, .int .i64 8, .int .i64 16, .int .i64 3] 3)) (g + 1) 0 8 16 24 5 (by simp; omega)
            have l4' := lit4 (X.alloc (.cells #[.int .i64 0, .int .i64 8, .int .i64 16, .int .i64 24, .int .i64 5] 3)) (g + 1) 0 8 16 3 (by simp; omega)
            have e5 : (X.alloc (.cells #[.int .i64 0, .int .i64 8, .int .i64 16, .int .i64 3] 3)).heap.size = X.heap.size + 1 := by simp
            have e4 : (X.alloc (.cells #[.int .i64 0, .int .i64 8, .int .i64 16, .int .i64 24, .int .i64 5] 3)).heap.size = X.heap.size + 1 := by simp
            rw [e5] at l5'
            rw [e4] at l4'
            have l4 := (lit4 X (g + 1) 0 8 16 3 hgX1).al (.cells #[.int .i64 0, .int .i64 8, .int .i64 16, .int .i64 24, .int .i64 5] 3)
            have F3 : Calls Try.prog 72 #[.pointer (some ⟨g, 0, none⟩), .slice (some ⟨X.heap.size + 1, 0, none⟩) 5 5] (((X.alloc (.cells #[.int .i64 0, .int .i64 8, .int .i64 16, .int .i64 3] 3)).alloc (.cells #[.int .i64 0, .int .i64 8, .int .i64 16, .int .i64 24, .int .i64 5] 3)).drew) (fun e w' => ∃ (x : Int) (n' : Nat), e = .returned (.int .i64 x) ∧ (0 ≤ x ∧ x ≤ 24) ∧ k5 ≤ n' ∧ n' ≤ k5 + 1 ∧ CurAt w' g v code n' ∧ Apg g (((X.alloc (.cells #[.int .i64 0, .int .i64 8, .int .i64 16, .int .i64 3] 3)).alloc (.cells #[.int .i64 0, .int .i64 8, .int .i64 16, .int .i64 24, .int .i64 5] 3)).drew) w') := M5.out _ _ k5 (qD _ b3_) (by omega) (l5'.drD 1)
            have G1 := Lib.hid F1
            have G2 := Lib.hid F2
            have G3 := Lib.hid F3
            have P4 := Lib.hid l4
            have P4' := Lib.hid l4'
            have hg8 : g < B8 := by omega
            have hne8 : B ≠ B8 := by omega
            have a1_ : Apg g X ((X.alloc (.cells #[.int .i64 0, .int .i64 8, .int .i64 16, .int .i64 24, .int .i64 5] 3)).drew) := (Apart.refl _ _ _).next b1_
            have a2_ : Apg g X (((X.alloc (.cells #[.int .i64 0, .int .i64 8, .int .i64 16, .int .i64 24, .int .i64 5] 3)).alloc (.cells #[.int .i64 0, .int .i64 8, .int .i64 16, .int .i64 3] 3)).drew) := (Apart.refl _ _ _).next b2_
            have a3_ : Apg g X (((X.alloc (.cells #[.int .i64 0, .int .i64 8, .int .i64 16, .int .i64 3] 3)).alloc (.cells #[.int .i64 0, .int .i64 8, .int .i64 16, .int .i64 24, .int .i64 5] 3)).drew) := (Apart.refl _ _ _).next b3_
            have A1 := Lib.hid a1_
            have A2 := Lib.hid a2_
            have A3 := Lib.hid a3_
            clear F1 F2 F3 l5' l4' l4 e5 e4 b1_ b2_ b3_ qD aD M5 a1_ a2_ a3_ hXs
            obtain ⟨m0, m1, _, _⟩ := n8.cells
            (first | (go_region_held3 (fun w' => w'.cell? ⟨B8, 0, none⟩ = some (.int .i64 bx) ∧ w'.cell? ⟨B8, 1, none⟩ = some (.int .i64 bY))
              (first | go_keep | exact ⟨((n10.off (p := ⟨B, 0, none⟩) hne8 _).off (p := ⟨B, 1, none⟩) hne8 _).cells.1, ((n10.off (p := ⟨B, 0, none⟩) hne8 _).off (p := ⟨B, 1, none⟩) hne8 _).cells.2.1⟩ | exact ⟨(n8.apt a10 hg8).cells.1, (n8.apt a10 hg8).cells.2.1⟩ | exact ⟨(n8.apt a9 hg8).cells.1, (n8.apt a9 hg8).cells.2.1⟩)
              (first
                | (go_at_call 72; (first | ((with_reducible refine G1.out.mono ?_); rintro e w9 ⟨c9, k9, rfl, hc9, hk19, hj19, q9, d9⟩; have a9 : Apg g X w9 := A1.out.trans d9) | ((with_reducible refine G2.out.mono ?_); rintro e w9 ⟨c9, k9, rfl, hc9, hk19, hj19, q9, d9⟩; have a9 : Apg g X w9 := A2.out.trans d9; have o49 : OwnInts w9 (g + 1) (.slice (some ⟨X.heap.size + 1, 0, none⟩) 4 4) [0, 8, 16, 3] := (P4'.out.drD 1).apt d9 (Nat.le_refl _)) | ((with_reducible refine G3.out.mono ?_); rintro e w9 ⟨c9, k9, rfl, hc9, hk19, hj19, q9, d9⟩; have a9 : Apg g X w9 := A3.out.trans d9; have o49 : OwnInts w9 (g + 1) (.slice (some ⟨X.heap.size, 0, none⟩) 4 4) [0, 8, 16, 3] := (P4.out.drD 1).apt d9 (Nat.le_refl _)) | ((with_reducible refine (M4.out w9 _ k9 q9 (by omega) o49).mono ?_); rintro e w10 ⟨c10, k10, rfl, hc10, hk20, hj20, q10, d10⟩; have a10 : Apg g X w10 := a9.trans d10; have n10 := n8.apt a10 hg8; have z10 := z8.apt a10 hgB; have z11 := z10.cells; obtain ⟨y0_, y1_, y2_, y3_⟩ := z11) | ((refine (M4.out (w9.alloc (.cells #[.int .i64 0, .int .i64 8, .int .i64 16, .int .i64 3] 3)) (.slice (some ⟨w9.heap.size, 0, none⟩) 4 4) k9 (q9.belowG ((Below.refl _ w9).alloc (Nat.le_refl _) _) q9.lt) (by omega) (lit4 w9 (g + 1) 0 8 16 3 q9.lt)).mono ?_); rintro e w10 ⟨c10, k10, rfl, hc10, hk20, hj20, q10, d10⟩; have a10 : Apg g X w10 := (apg_al a9 _).trans d10; have n10 := n8.apt a10 hg8; have z10 := z8.apt a10 hgB; have z11 := z10.cells; obtain ⟨y0_, y1_, y2_, y3_⟩ := z11)))
                | (go_at_call 73; refine (l1Least_q _ _ _).mono ?_; rintro e _ ⟨rfl, rfl⟩))) | fail)
            all_goals
              have o10 := o8.aptS a10 (by omega)
              have a11 := a8.trans a10
              have hbS := below_set2 (Below.refl w.heap.size w10) hwB (.int .i64 (min 1280 (bx + c9))) (.int .i64 (min 672 (bY + c10)))
              have wx9 : IntKind.i64.wrap (bx + c9) = bx + c9 := IntWalk.i64_in _ (by omega)
              have wy9 : IntKind.i64.wrap (bY + c10) = bY + c10 := IntWalk.i64_in _ (by omega)
              go_wp2_with fail
              go_meet
              rw [wx9, wy9]
              exact ⟨min 1280 (bx + c9), min 672 (bY + c10), k10, by omega, by omega, by omega, by omega, by omega, by omega, z10.set _ _, o10.set2 hlB.out _ _, q10.belowG hbS hg, a11.trans2 hbS (Nat.le_refl _)⟩
        case rest =>
          obtain ⟨x', y', k5, x0', x1', y0', y1', hk9, hk10, z5, o5, q5, a5⟩ := hcut
          clear z4 o4 q4 a4 hk7 hk8 hbq
          obtain ⟨w6, hw6⟩ : ∃ w9 : World, w9 = wc := ⟨_, rfl⟩
          subst hw6
          go_upto_if 47 with fail
          go_cut [] (fun wx => ∃ x6 y6 : Int, 0 ≤ x6 ∧ x6 ≤ 1280 ∧ 0 ≤ y6 ∧ (y6 ≤ 672 ∨ y6 ≤ 7 + (T : Int)) ∧ (60 < T → y6 = 7 + (T : Int)) ∧ BoxS wx B x6 y6 ∧ OwnRow sptRec wx w.heap.size (.slice A l.length c) l ∧ CurAt wx g v code k5 ∧ Apg g w wx)
          case first =>
            obtain ⟨c0, c1, f0, f1⟩ := z5.cells
            by_cases hT6 : (60 : Int) < (T : Int)
            · have hm1 : IntKind.i64.wrap (3 * (l.length : Int)) = 3 * (l.length : Int) := IntWalk.i64_in _ (by omega)
              have hm2 : IntKind.i64.wrap (7 + (T : Int)) = 7 + (T : Int) := IntWalk.i64_in _ (by omega)
              have hbS := below_set2 (Below.refl w.heap.size w6) hwB (.int .i64 (3 * (l.length : Int))) (.int .i64 (7 + (T : Int)))
              go_wp2_with fail
              go_meet
              exact ⟨3 * (l.length : Int), 7 + (T : Int), by omega, by omega, by omega, .inr (by omega), (fun _ => rfl), z5.set _ _, o5.set2 hlB.out _ _, q5.belowG hbS hg, a5.trans2 hbS (Nat.le_refl _)⟩
            · go_wp2_with fail
              go_meet
              exact ⟨x', y', by omega, by omega, by omega, .inl (by omega), (fun h9 => absurd h9 (by omega)), z5, o5, q5, a5⟩
          case rest =>
            obtain ⟨x6, y6, x60, x61, y60, y61, hy6, z6, o6, q6, a6⟩ := hcut
            clear z5 o5 q5 a5
            obtain ⟨c0, c1, f0, f1⟩ := z6.cells
            have hs6 := a6.size
            have hg6 := q6.lt
            have R6 := o6.reads
            by_cases hin : (⟨x6, y6⟩ : Spt) ∈ l
            · have hT : T < 680 := by
                rcases Nat.lt_or_ge T 680 with h9 | h9
                · exact h9
                · have h8 := hok.out.fresh h9 x6
                  rw [← hy6 (by omega), findS_no] at h8
                  exact absurd hin h8
              have hf : ¬ (findS l ⟨x6, y6⟩ < 0) := by
                have h8 := findS_no l ⟨x6, y6⟩
                have h7 := findS_bd l ⟨x6, y6⟩
                intro h9
                exact (h8.1 (by rcases h7 with h6 | h6 <;> omega)) hin
              have hf2 : decide (findS l ⟨x6, y6⟩ < 0) = false := decide_eq_false hf
              have C5 := Lib.hid (chFind_any (.slice A l.length c) l ⟨x6, y6⟩ _ R6)
              clear R6
              go_wp2_with fail
              refine C5.out.mono ?_; rintro e w7 ⟨rfl, b7⟩
              go_wp2_with fail
              go_roundg (gk - 1)
              case measure => omega
              case rel => exact ⟨l, T + 1, k5, by omega, by omega, by omega, by simp, hok.out.up, by omega, by omega, OwnRow.below o6 b7 (Nat.le_refl _), q6.belowG b7 hg6, a6.next b7⟩
            · have hf : findS l ⟨x6, y6⟩ < 0 := by
                have h8 := (findS_no l ⟨x6, y6⟩).2 hin
                omega
              have hf2 : decide (findS l ⟨x6, y6⟩ < 0) = true := decide_eq_true hf
              have C5 := Lib.hid (chFind_any (.slice A l.length c) l ⟨x6, y6⟩ _ R6)
              clear R6
              have z6' := Lib.hid z6
              go_wp2_with fail
              refine C5.out.mono ?_; rintro e w7 ⟨rfl, b7⟩
              have z7 := z6'.out.keep b7 (Nat.le_refl _)
              have o7 := OwnRow.below o6 b7 (Nat.le_refl _)
              have q7 := q6.belowG b7 hg6
              have a7 := a6.next b7
              have hs7 := a7.size
              clear z6 z6' o6 q6 a6 c0 c1 f0 f1
              obtain ⟨c0, c1, f0, f1⟩ := z7.cells
              have h9 : l.length + 1 ≤ 1099511627776 := by omega
              go_wp2_with (at_builtin; refine wp_app_rec sptRec _ rfl _ _ 23 _ _ Try.underlying23 info_spt rfl (by omega) (by rfl) w.heap.size _ l (by rfl) o7 ⟨x6, y6⟩ _ rfl _ _ rfl (by rfl) (by rfl) h9 hs7 ?_; intro v19 w19 ho19 hg19)
              go_roundg (gk - 1)
              case measure => omega
              case rel => exact ⟨l ++ [⟨x6, y6⟩], T + 1, k5, by simp; omega, by simp; omega, by simp; omega, by simp, Lib.hid (hok.out.snoc ⟨x60, x61⟩ ⟨y60, y61⟩), by omega, by omega, ho19, q7.belowG hg19.below hg, a7.trans2 hg19.below (Nat.le_refl _)⟩
    · have hx : l.length = N := by omega
      go_wp2_with fail
      go_ret
      exact ⟨_, l, k, rfl, ho, qr, ar, hx, hk1, by omega⟩
end Go.Proofs.Ytnkbopnmfoplfaa
