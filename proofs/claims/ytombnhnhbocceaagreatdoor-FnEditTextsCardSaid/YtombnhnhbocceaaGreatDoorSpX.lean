/- Contracts of stIf and stParse, in the reference. -/
import Derived.Test.YtombnhnhbocceaaGreatDoorSpV
import Derived.Deep.RegionHeld3
set_option linter.unusedSimpArgs false
set_option linter.unusedVariables false
namespace Go.Proofs.YtombnhnhbocceaaGreatDoor
open Go.RowKit Go.Sort

def ifR (x y : Int) : Spt × Bool := if isSpot x y then (⟨x, y⟩, true) else (⟨0, 0⟩, false)
theorem ifR_n {x y : Int} (h : isSpot x y = false) : ifR x y = (⟨0, 0⟩, false) := by unfold ifR; rw [h]; rfl
theorem ifR_y {x y : Int} (h : isSpot x y = true) : ifR x y = (⟨x, y⟩, true) := by unfold ifR; rw [h]; rfl
set_option maxRecDepth 100000 in
set_option maxHeartbeats 3200000 in
theorem stIf_any (x y : Int) (w : World) : Calls Tryz.prog 74 #[.int .i64 x, .int .i64 y] w (SpotPost w (ifR x y)) := by
  have hfin : ∀ (W' : World) (x y : Int) (k : Bool), Below w.heap.size w W' → BoxS W' w.heap.size x y →
      ∀ tm : Array Value, tm[4]? = some (.pointer (some ⟨w.heap.size, 0, none⟩)) → tm[5]? = some (.bool k) →
      bodyPost Tryz.prog Tryz.f74 (fun e w' => e = .returned (.tuple #[.agg #[.int .i64 x, .int .i64 y], .bool k]) ∧ Below w.heap.size w w') Exit.ret ⟨tm, []⟩ W' := by
    intro W' x y k hW hp tm t2 t3
    obtain ⟨p0, p1, _, _⟩ := hp.cells
    exact bodyPost_ret (v := .tuple #[.agg #[.int .i64 x, .int .i64 y], .bool k]) (by simp [results, Tryz.results74, go_sem, p0, p1, t2, t3]) rfl ⟨rfl, hW⟩
  have Hfin := Lib.hid hfin
  clear hfin
  have hb0 := (Below.refl w.heap.size w).alloc (Nat.le_refl _) (.cells #[.int .i64 0, .int .i64 0] 37)
  have z0 := BoxS.new w 0 0
  obtain ⟨w0, hw0⟩ : ∃ w0, w0 = w.alloc (.cells #[.int .i64 0, .int .i64 0] 37) := ⟨_, rfl⟩
  rw [← hw0] at hb0 z0
  have HW := Lib.hid hw0
  clear hw0
  have hb1 := hb0.alloc hb0.size (.cells #[.int .i64 x, .int .i64 y] 37)
  have z1 := z0.al (.cells #[.int .i64 x, .int .i64 y] 37)
  have n1 := BoxS.new w0 x y
  obtain ⟨w1, hw1⟩ : ∃ w1, w1 = w0.alloc (.cells #[.int .i64 x, .int .i64 y] 37) := ⟨_, rfl⟩
  rw [← hw1] at hb1 z1 n1
  have HW1 : Hid (w1 = (w.alloc (.cells #[.int .i64 0, .int .i64 0] 37)).alloc (.cells #[.int .i64 x, .int .i64 y] 37)) := by show _ = _; rw [hw1, HW.out]
  have hsz : w0.heap.size = w.heap.size + 1 := by rw [HW.out]; simp
  rw [hsz] at n1
  clear hw1 hsz hb0 z0 HW
  have CG := Lib.hid (fun W => stGood_any x y W)
  cases hg : isSpot x y
  all_goals
    rw [hg] at CG
    go_enter Tryz.func74, Tryz.ntmps74
    go_upto_region 2 with fail
    rw [← HW1.out]
    obtain ⟨m0, m1, _, _⟩ := n1.cells
    go_wp2_with fail
    refine (CG.out _).mono ?_; rintro e w2 ⟨rfl, b2⟩
    have hb2 := hb1.next (Nat.le_refl _) b2
    have z2 := z1.keep b2 (Nat.le_refl _)
    have n2 := n1.keep b2 (Nat.le_refl _)
    obtain ⟨q0, q1, q2, q3⟩ := z2.cells
    obtain ⟨r0, r1, _, _⟩ := n2.cells
    go_wp2_with fail
    unfold SpotPost
  · rw [ifR_n hg]
    refine Hfin.out _ 0 0 false ?_ (z2.set 0 0) _ ?_ ?_
    · exact below_set2 hb2 (Nat.le_refl _) _ _
    · rfl
    · rfl
  · rw [ifR_y hg]
    refine Hfin.out _ x y true ?_ (z2.set x y) _ ?_ ?_
    · exact below_set2 hb2 (Nat.le_refl _) _ _
    · rfl
    · rfl
theorem spR_len {s : ByteArray} (h : (splB 44 s).length ≠ 2) : spR s = (⟨0, 0⟩, false) := by
  unfold spR
  split
  · rename_i h2; rw [h2] at h; exact absurd rfl h
  · rfl
theorem spR_1 {s a b : ByteArray} (h : splB 44 s = [a, b]) (h2 : ¬ (0 ≤ srR a ∧ 0 ≤ srR b)) : spR s = (⟨0, 0⟩, false) := by
  unfold spR; rw [h]; simp only; rw [if_neg (fun hh => h2 ⟨hh.1, hh.2.1⟩)]
theorem spR_2 {s a b : ByteArray} (h : splB 44 s = [a, b]) (h2 : isSpot (srR a) (srR b) = false) : spR s = (⟨0, 0⟩, false) := by
  unfold spR; rw [h]; simp only; rw [if_neg (fun hh => by rw [h2] at hh; exact absurd hh.2.2.1 (by decide))]
theorem spR_3 {s a b : ByteArray} (h : splB 44 s = [a, b]) (h2 : spB (srR a) (srR b) ≠ s) : spR s = (⟨0, 0⟩, false) := by
  unfold spR; rw [h]; simp only; rw [if_neg (fun hh => h2 hh.2.2.2)]
theorem spR_4 {s a b : ByteArray} (h : splB 44 s = [a, b]) (h1 : 0 ≤ srR a ∧ 0 ≤ srR b) (h2 : isSpot (srR a) (srR b) = true) (h3 : spB (srR a) (srR b) = s) : spR s = (⟨srR a, srR b⟩, true) := by
  unfold spR; rw [h]; simp only; rw [if_pos ⟨h1.1, h1.2, h2, h3⟩]
theorem boxk2 {w3 V w9 : World} (h : Below w3.heap.size w3 V) (f : Below (V.alloc (.cells #[.int .i64 0, .int .i64 0] 37)).heap.size (V.alloc (.cells #[.int .i64 0, .int .i64 0] 37)) w9) : w3.heap.size ≤ V.heap.size ∧ BoxS w9 V.heap.size 0 0 := ⟨h.size, (BoxS.new V 0 0).keep f (Nat.le_refl _)⟩
theorem boxk {V w9 : World} (h : Below (V.alloc (.cells #[.int .i64 0, .int .i64 0] 37)).heap.size (V.alloc (.cells #[.int .i64 0, .int .i64 0] 37)) w9) : BoxS w9 V.heap.size 0 0 := (BoxS.new V 0 0).keep h (Nat.le_refl _)

set_option maxRecDepth 100000 in
set_option maxHeartbeats 12800000 in
theorem stParse_any (s : ByteArray) (w : World) (hs : s.size ≤ 4194304) :
    Calls Tryz.prog 54 #[.string s] w (SpotPost w (spR s)) := by
  have hfin : ∀ (W' : World) (x y : Int) (k : Bool), Below w.heap.size w W' → BoxS W' w.heap.size x y →
      ∀ tm : Array Value, tm[2]? = some (.pointer (some ⟨w.heap.size, 0, none⟩)) → tm[3]? = some (.bool k) →
      bodyPost Tryz.prog Tryz.f54 (fun e w' => e = .returned (.tuple #[.agg #[.int .i64 x, .int .i64 y], .bool k]) ∧ Below w.heap.size w w') Exit.ret ⟨tm, []⟩ W' := by
    intro W' x y k hW hp tm t2 t3
    obtain ⟨p0, p1, _, _⟩ := hp.cells
    exact bodyPost_ret (v := .tuple #[.agg #[.int .i64 x, .int .i64 y], .bool k]) (by simp [results, Tryz.results54, go_sem, p0, p1, t2, t3]) rfl ⟨rfl, hW⟩
  have Hfin := Lib.hid hfin
  clear hfin
  have hb0 := (Below.refl w.heap.size w).alloc (Nat.le_refl _) (.cells #[.int .i64 0, .int .i64 0] 37)
  have z0 := BoxS.new w 0 0
  obtain ⟨w0, hw0⟩ : ∃ w0, w0 = w.alloc (.cells #[.int .i64 0, .int .i64 0] 37) := ⟨_, rfl⟩
  rw [← hw0] at hb0 z0
  have HW := Lib.hid hw0
  have CS := Lib.hid (l1Split_any s 44 44 rfl w0 hs)
  rw [HW.out] at CS
  clear hw0
  have hwl := splB_len 44 s
  obtain ⟨hwl1, hwl2⟩ := hwl
  have hwg := Lib.hid (fun i (h : i < (splB 44 s).length) => gx_size h)
  have g0 := Lib.hid (fun h => spR_len (s := s) h)
  have g1 := Lib.hid (fun a b h => spR_1 (s := s) (a := a) (b := b) h)
  have g2 := Lib.hid (fun a b h => spR_2 (s := s) (a := a) (b := b) h)
  have g3 := Lib.hid (fun a b h => spR_3 (s := s) (a := a) (b := b) h)
  have g4 := Lib.hid (fun a b h => spR_4 (s := s) (a := a) (b := b) h)
  obtain ⟨P, hP⟩ : ∃ P, P = splB 44 s := ⟨_, rfl⟩
  rw [← hP] at CS hwl1 hwl2 hwg g0 g1 g2 g3 g4
  clear hP
  by_cases h2 : P.length = 2
  case neg =>
    have hx := Lib.hid (g0.out h2)
    have hb2 : ((P.length : Int) != 2) = true := by simp; omega
    clear g1 g2 g3 g4 g0
    go_enter Tryz.func54, Tryz.ntmps54
    go_wp2_with fail
    refine CS.out.mono ?_; rw [← HW.out]; rintro e w1 ⟨v, rfl, o1, b1⟩
    obtain ⟨A, c, rfl, hnc, hcc⟩ := o1.reads.shape
    have z1 := z0.keep b1 (Nat.le_refl _)
    obtain ⟨q0, q1, q2, q3⟩ := z1.cells
    go_wp2_with fail
    unfold SpotPost
    rw [hx.out]
    refine Hfin.out _ 0 0 false ?_ (z1.set 0 0) _ ?_ ?_
    · exact below_set2 (hb0.trans (b1.mono hb0.size)) (Nat.le_refl _) _ _
    · rfl
    · rfl
  case pos =>
  obtain ⟨a, b, rfl⟩ : ∃ a b, P = [a, b] := by
    match P, h2 with
    | [a, b], _ => exact ⟨a, b, rfl⟩
  have za := hwg.out 0 (by simp)
  have zb := hwg.out 1 (by simp)
  have CA := Lib.hid (fun W => stRead_any a W (by have : (gx strRec [a, b] 0) = a := rfl; rw [this] at za; omega))
  have CB := Lib.hid (fun W => stRead_any b W (by have : (gx strRec [a, b] 1) = b := rfl; rw [this] at zb; omega))
  replace g1 := Lib.hid (g1.out a b rfl)
  replace g2 := Lib.hid (g2.out a b rfl)
  replace g3 := Lib.hid (g3.out a b rfl)
  replace g4 := Lib.hid (g4.out a b rfl)
  have bdx := srR_bd a
  have bdy := srR_bd b
  obtain ⟨x, hx⟩ : ∃ z, z = srR a := ⟨_, rfl⟩
  obtain ⟨y, hy⟩ : ∃ z, z = srR b := ⟨_, rfl⟩
  rw [← hx] at CA g1 g2 g3 g4 bdx
  rw [← hy] at CB g1 g2 g3 g4 bdy
  clear hx hy g0 hwg za zb hwl1 hwl2 h2
  go_enter Tryz.func54, Tryz.ntmps54
  go_wp2_with fail
  refine CS.out.mono ?_; rw [← HW.out]; rintro e w1 ⟨v, rfl, o1, b1⟩
  obtain ⟨A, c, rfl, hnc, hcc⟩ := o1.reads.shape
  obtain ⟨bb, q, rfl, hc0⟩ := str_at o1.reads 0 (by simp)
  obtain ⟨_, _, he1, hc1⟩ := str_at o1.reads 1 (by simp)
  injection he1 with he1; injection he1 with e1 e2; subst e1 e2
  replace hc0 : w1.cell? ⟨bb, q, none⟩ = some (.string a) := hc0
  replace hc1 : w1.cell? ⟨bb, q + 1, none⟩ = some (.string b) := hc1
  simp only [List.length_cons, List.length_nil, Nat.zero_add] at hnc ⊢
  have z1 := z0.keep b1 (Nat.le_refl _)
  have hb1 := hb0.trans (b1.mono hb0.size)
  clear CS o1 b1 z0 hb0 HW
  by_cases hx0 : x < 0
  · have hr := Lib.hid (g1.out (by omega))
    clear g1 g2 g3 g4 CB
    go_wp2_with fail
    refine (CA.out _).mono ?_; rintro e w2 ⟨rfl, b2⟩
    have z2 := z1.keep b2 (Nat.le_refl _)
    obtain ⟨q0, q1, q2, q3⟩ := z2.cells
    go_wp2_with fail
    unfold SpotPost
    rw [hr.out]
    refine Hfin.out _ 0 0 false ?_ (z2.set 0 0) _ ?_ ?_
    · exact below_set2 (hb1.next (Nat.le_refl _) b2) (Nat.le_refl _) _ _
    · rfl
    · rfl
  have hx9 : ¬ x < 0 := hx0
  go_wp2_with fail
  refine (CA.out _).mono ?_; rintro e w2 ⟨rfl, b2⟩
  replace hc0 := Below.keepC b2 hc0 (Nat.le_refl _)
  replace hc1 := Below.keepC b2 hc1 (Nat.le_refl _)
  have z2 := z1.keep b2 (Nat.le_refl _)
  have hb2 := hb1.next (Nat.le_refl _) b2
  clear z1 hb1 b2
  by_cases hy0 : y < 0
  · have hr := Lib.hid (g1.out (by omega))
    clear g1 g2 g3 g4 CA
    go_wp2_with fail
    refine (CB.out _).mono ?_; rintro e w3 ⟨rfl, b3⟩
    have z3 := z2.keep b3 (Nat.le_refl _)
    obtain ⟨q0, q1, q2, q3⟩ := z3.cells
    go_wp2_with fail
    unfold SpotPost
    rw [hr.out]
    refine Hfin.out _ 0 0 false ?_ (z3.set 0 0) _ ?_ ?_
    · exact below_set2 (hb2.next (Nat.le_refl _) b3) (Nat.le_refl _) _ _
    · rfl
    · rfl
  obtain ⟨X, hX⟩ := Int.eq_ofNat_of_zero_le (show 0 ≤ x by omega)
  obtain ⟨Y, hY⟩ := Int.eq_ofNat_of_zero_le (show 0 ≤ y by omega)
  subst hX hY
  replace g4 := Lib.hid (fun h => g4.out (by omega) h)
  clear g1
  go_wp2_with fail
  refine (CB.out _).mono ?_; rintro e w3 ⟨rfl, b3⟩
  replace hc0 := Below.keepC b3 hc0 (Nat.le_refl _)
  replace hc1 := Below.keepC b3 hc1 (Nat.le_refl _)
  have z3 := z2.keep b3 (Nat.le_refl _)
  have hb3 := hb2.next (Nat.le_refl _) b3
  have hX9 : X ≤ 1000000000 := by omega
  have hY9 : Y ≤ 1000000000 := by omega
  clear z2 hb2 b3 bdx bdy hx0 hy0 hx9
  have CI : Hid (∀ W, Calls Tryz.prog 74 #[.int .i64 (X : Nat), .int .i64 (Y : Nat)] W fun e w' => e = .returned (.tuple #[.agg #[.int .i64 (ifR X Y).1.x, .int .i64 (ifR X Y).1.y], .bool (ifR X Y).2]) ∧ Below W.heap.size W w') := fun W => stIf_any X Y W
  obtain ⟨px, hpx⟩ : ∃ z, z = (ifR X Y).1.x := ⟨_, rfl⟩
  obtain ⟨py, hpy⟩ : ∃ z, z = (ifR X Y).1.y := ⟨_, rfl⟩
  obtain ⟨pb, hpb⟩ : ∃ z, z = (ifR X Y).2 := ⟨_, rfl⟩
  rw [← hpx, ← hpy, ← hpb] at CI
  have E1 := Lib.hid hpx
  have E2 := Lib.hid hpy
  have E3 := Lib.hid hpb
  clear hpx hpy hpb
  have D0 := (Below.refl w3.heap.size w3).drew
  go_upto_region 4 with fail
  go_cut [5, 6] (fun s5 s6 wx => ∃ bx : Nat, s5 = .pointer (some ⟨bx, 0, none⟩) ∧ s6 = .bool pb ∧ wx.cell? ⟨bx, 0, none⟩ = some (.int .i64 px) ∧ wx.cell? ⟨bx, 1, none⟩ = some (.int .i64 py) ∧ Below w3.heap.size w3 wx)
  case first =>
    (first | (go_region_held3 (fun w' => w'.cell? ⟨bb, q, none⟩ = some (.string a) ∧ w'.cell? ⟨bb, q + 1, none⟩ = some (.string b))
      (first | go_keep | exact ⟨Below.keepC d9 hc0 (Nat.le_refl _), Below.keepC d9 hc1 (Nat.le_refl _)⟩ | exact ⟨Below.keepC (below_set2 (d9.alloc d9.size _) d9.size _ _) hc0 (Nat.le_refl _), Below.keepC (below_set2 (d9.alloc d9.size _) d9.size _ _) hc1 (Nat.le_refl _)⟩ | exact ⟨Below.keepC (d9.alloc d9.size _) hc0 (Nat.le_refl _), Below.keepC (d9.alloc d9.size _) hc1 (Nat.le_refl _)⟩ | exact ⟨Below.keepC (below_set2 d9 kbl _ _) hc0 (Nat.le_refl _), Below.keepC (below_set2 d9 kbl _ _) hc1 (Nat.le_refl _)⟩)
      (first
        | (go_at_call 73; (first | (with_reducible refine (CA.out _).mono ?_) | (with_reducible refine (CB.out _).mono ?_)); rintro e w9 ⟨rfl, f9⟩; (first | (have q9 := boxk2 d9 f9; have kbl := q9.1; have kb := q9.2; have k9 := kb.cells; obtain ⟨k0, k1, k2, k3⟩ := k9) | (have q9 := boxk2 D0 f9; have kbl : w3.heap.size ≤ w3.heap.size := q9.1; have kb : BoxS w9 w3.heap.size 0 0 := q9.2; have k9 := kb.cells; obtain ⟨k0, k1, k2, k3⟩ := k9) | (have kb := kb.keep f9 (Nat.le_refl _); have k9 := kb.cells; obtain ⟨k0, k1, k2, k3⟩ := k9) | skip); have d9 : Below w3.heap.size w3 w9 := (by first | exact d9.next (Nat.le_refl _) f9 | exact (d9.alloc d9.size _).next (Nat.le_refl _) f9 | exact D0.next (Nat.le_refl _) f9 | exact (D0.alloc D0.size _).next (Nat.le_refl _) f9))
        | (go_at_call 74; (with_reducible refine (CI.out _).mono ?_); rintro e w9 ⟨rfl, f9⟩; (first | (have q9 := boxk2 d9 f9; have kbl := q9.1; have kb := q9.2; have k9 := kb.cells; obtain ⟨k0, k1, k2, k3⟩ := k9) | (have q9 := boxk2 D0 f9; have kbl : w3.heap.size ≤ w3.heap.size := q9.1; have kb : BoxS w9 w3.heap.size 0 0 := q9.2; have k9 := kb.cells; obtain ⟨k0, k1, k2, k3⟩ := k9) | (have kb := kb.keep f9 (Nat.le_refl _); have k9 := kb.cells; obtain ⟨k0, k1, k2, k3⟩ := k9) | skip); have d9 : Below w3.heap.size w3 w9 := (by first | exact d9.next (Nat.le_refl _) f9 | exact (d9.alloc d9.size _).next (Nat.le_refl _) f9 | exact D0.next (Nat.le_refl _) f9 | exact (D0.alloc D0.size _).next (Nat.le_refl _) f9)))) | fail)
    all_goals
      go_wp2_with fail
      go_meet
      first
        | exact ⟨_, rfl, rfl, (BoxS.new w9 px py).cells.1, (BoxS.new w9 px py).cells.2.1, d9.alloc d9.size _⟩
        | exact ⟨_, rfl, rfl, (kb.set px py).cells.1, (kb.set px py).cells.2.1, below_set2 d9 kbl _ _⟩
        | exact ⟨_, rfl, rfl, ((BoxS.new w9 0 0).set px py).cells.1, ((BoxS.new w9 0 0).set px py).cells.2.1, below_set2 (d9.alloc d9.size _) d9.size _ _⟩
  case rest =>
    obtain ⟨bx, rfl, rfl, m0, m1, b4⟩ := hcut
    obtain ⟨w4, hw4⟩ : ∃ w9 : World, w9 = wc := ⟨_, rfl⟩
    subst hw4
    have z4 := z3.keep b4 (Nat.le_refl _)
    have hb4 := hb3.next (Nat.le_refl _) b4
    clear z3 hb3 b4 hc0 hc1 CA CB CI D0
    cases hg : isSpot X Y
    · have hr := Lib.hid (g2.out hg)
      have hi := ifR_n hg
      rw [hi] at E1 E2 E3
      obtain rfl : pb = false := E3.out
      obtain ⟨q0, q1, q2, q3⟩ := z4.cells
      go_wp2_with fail
      unfold SpotPost
      rw [hr.out]
      refine Hfin.out _ 0 0 false ?_ (z4.set 0 0) _ ?_ ?_
      · exact below_set2 hb4 (Nat.le_refl _) _ _
      · rfl
      · rfl
    · have hi := ifR_y hg
      rw [hi] at E1 E2 E3
      obtain rfl : pb = true := E3.out
      have e1 : px = (X : Int) := E1.out
      have e2 : py = (Y : Int) := E2.out
      subst e1 e2
      obtain ⟨x0, x1, y0, y1⟩ := isSpot_t hg
      have CT := Lib.hid (fun W => stText_any X Y W (by omega) (by omega))
      by_cases heq : spB X Y = s
      · have hr := Lib.hid (g4.out hg heq)
        rw [heq] at CT
        have hbe : (s.toList == s.toList) = true := by simp
        clear heq hi x0 x1 y0 y1 g2 g3 g4
        go_wp2_with fail
        refine (CT.out _).mono ?_; rintro e w5 ⟨rfl, b5⟩
        have z5 := z4.keep b5 (Nat.le_refl _)
        have m5 := Below.keepC b5 m0 (Nat.le_refl _)
        have m6 := Below.keepC b5 m1 (Nat.le_refl _)
        obtain ⟨q0, q1, q2, q3⟩ := z5.cells
        go_wp2_with fail
        unfold SpotPost
        rw [hr.out]
        refine Hfin.out _ X Y true ?_ (z5.set X Y) _ ?_ ?_
        · exact below_set2 (hb4.next (Nat.le_refl _) b5) (Nat.le_refl _) _ _
        · rfl
        · rfl
      · have hr := Lib.hid (g3.out heq)
        have hbe := ba_beq_f heq
        obtain ⟨T, hT⟩ : ∃ T, T = spB X Y := ⟨_, rfl⟩
        rw [← hT] at CT hbe
        clear heq hi x0 x1 y0 y1 g2 g3 g4 hT
        go_wp2_with fail
        refine (CT.out _).mono ?_; rintro e w5 ⟨rfl, b5⟩
        have z5 := z4.keep b5 (Nat.le_refl _)
        obtain ⟨q0, q1, q2, q3⟩ := z5.cells
        go_wp2_with fail
        unfold SpotPost
        rw [hr.out]
        refine Hfin.out _ 0 0 false ?_ (z5.set 0 0) _ ?_ ?_
        · exact below_set2 (hb4.next (Nat.le_refl _) b5) (Nat.le_refl _) _ _
        · rfl
        · rfl
end Go.Proofs.YtombnhnhbocceaaGreatDoor
