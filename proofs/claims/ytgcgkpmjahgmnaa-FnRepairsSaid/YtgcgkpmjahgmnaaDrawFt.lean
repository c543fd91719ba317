/- The draw of two charts: they lie in memory of the call's own, the cursor goes on. -/
import Derived.Test.YtgcgkpmjahgmnaaDrawCa
import Derived.Test.YtgcgkpmjahgmnaaSwP
import Derived.Test.YtgcgkpmjahgmnaaMv
import Derived.Deep.RegionLaw
set_option linter.unusedSimpArgs false
set_option linter.unusedVariables false
namespace Go.Proofs.Ytgcgkpmjahgmnaa
open Go.RowKit Go.Sort

theorem OwnRow.setO9 {α : Type} {R : Rec α} {w : World} {lo b : Nat} {v : Value} {l : List α} (h : OwnRow R w lo v l) (hne : ∀ gb, v.ownBlock = some gb → gb < b) (o : Nat) (x : Value) : OwnRow R (w.setCell ⟨b, o, none⟩ x) lo v l := by
  have hn : v.ownBlock = none ∨ v.ownBlock ≠ some b := by
    right; intro e; have := hne b e; omega
  exact World.ownsRow.kept h (grown_set8 w b o x) hn
theorem set_same9 {xs : List Value} {j : Nat} {u : Value} (h : xs[j]? = some u) : xs.set j u = xs := by
  apply List.ext_getElem?
  intro i
  by_cases e : j = i
  · subst e; rw [List.getElem?_set_self (List.getElem?_eq_some_iff.1 h).1, h]
  · rw [List.getElem?_set_ne e]
theorem OwnRow.setX9 {w : World} {lo g n c : Nat} {l : List Spt} (h : OwnRow sptRec w lo (.slice (some ⟨g, 0, none⟩) n c) l) (i : Nat) (x : Int) (hi : i < l.length) :
    OwnRow sptRec (w.setCell ⟨g, i * 2, none⟩ (.int .i64 x)) lo (.slice (some ⟨g, 0, none⟩) n c) (l.set i ⟨x, (gx sptRec l i).y⟩) := by
  have hn : n = l.length := by
    obtain ⟨A, c', he, _⟩ := Sl.shape (OwnRow.reads h)
    injection he
  subst hn
  have e1 : (rcells sptRec l)[i * 2 + 1]? = some (I (gx sptRec l i).y) := rcells_at sptRec l i 1 hi (by decide)
  have hst := (World.ownsRow.stored h (i * 2) (.int .i64 x)).1
  unfold OwnRow
  rw [List.length_set, ← rcells_set sptRec l i _ hi]
  show World.ownsRow _ lo _ _ _ _ (((rcells sptRec l).set (i * 2) (I x)).set (i * 2 + 1) (I (gx sptRec l i).y))
  rw [set_same9 (j := i * 2 + 1) (by rw [List.getElem?_set_ne (by omega)]; exact e1)]
  exact hst
theorem spt_cellX {w : World} {lo g n c : Nat} {l : List Spt} (h : OwnRow sptRec w lo (.slice (some ⟨g, 0, none⟩) n c) l) (i : Nat) (hi : i < l.length) : w.cell? ⟨g, i * 2, none⟩ = some (.int .i64 (gx sptRec l i).x) ∧ w.frozen? ⟨g, i * 2, none⟩ = false :=
  ⟨OwnRow.cell h i hi 0 (by decide), OwnRow.free h _⟩
def FtPost (w : World) (g : Nat) (v : Value) (code : List Nat) (n : Nat) (e : Ending) (w' : World) : Prop :=
  ∃ (u1 u2 : Value) (a b : List Spt) (n' : Nat), e = .returned (.tuple #[u1, u2]) ∧ OwnRow sptRec w' w.heap.size u1 a ∧ OwnRow sptRec w' w.heap.size u2 b ∧ a.length ≤ 13 ∧ b.length ≤ 13 ∧ CurAt w' g v code n' ∧ Apg g w w' ∧ n ≤ n' ∧ n' ≤ n + 400000
set_option maxRecDepth 100000 in
set_option maxHeartbeats 12800000 in
theorem formsTwo_any (g n : Nat) (v : Value) (code : List Nat) (w : World) (h : CurAt w g v code n) (hn : n ≤ 4611686018390000000) :
    Calls Try.prog 93 #[.pointer (some ⟨g, 0, none⟩)] w (FtPost w g v code n) := by
  have hg := h.lt
  have C1 := Lib.hid (anyChart_any g n v code w h (by omega))
  clear h
  go_enter Try.func93, Try.ntmps93
  go_wp2_with fail
  refine C1.out.mono ?_; rintro e w1 ⟨u1, a, k1, rfl, o1, q1, a1, hla, hk1, hj1⟩
  have hs1 := a1.size
  obtain ⟨A1, c1, rfl, ha1, hac⟩ := o1.reads.shape
  have CM := Lib.hid (l1Most_max 1 (a.length : Int) w1)
  obtain ⟨M, hM⟩ : ∃ M, M = max 1 a.length := ⟨_, rfl⟩
  have hMz : max (1 : Int) (a.length : Int) = (M : Int) := by omega
  rw [hMz] at CM
  have hM13 : M ≤ 13 := by omega
  have hM1 : 1 ≤ M := by omega
  have HM := Lib.hid hM
  have C2 := Lib.hid (chartOf_any g k1 v code M hM13 w1 q1 (by omega))
  clear hM hMz q1 C1
  go_wp2_with fail
  refine CM.out.mono ?_; rintro e _ ⟨rfl, rfl⟩
  go_wp2_with fail
  refine C2.out.mono ?_; rintro e w2 ⟨u2, b, k2, rfl, o2, q2, a2, hlb, hk2, hj2⟩
  have C3 := Lib.hid (pick_ex g v code 8 k2 w2 (by omega) (by omega) q2)
  go_wp2_with fail
  refine C3.out.mono ?_; rintro e w3 ⟨y, k3, rfl, hy, hk3, hj3, q3, a3⟩
  have hs2 := a2.size
  have hs3 := a3.size
  have p1 := (OwnRow.aptS o1 a2 (by omega)).aptS a3 (by omega)
  have p2 := (OwnRow.aptS o2 a3 (by omega)).lo (show w.heap.size ≤ w1.heap.size by omega)
  have aa3 := (a1.trans a2).trans a3
  have hg3 := q3.lt
  have hlt1 : ∀ gb, (Value.slice A1 a.length c1).ownBlock = some gb → gb < w3.heap.size := fun gb h9 => (World.ownsRow.lt p1 gb h9).2
  have HLT := Lib.hid hlt1
  clear C2 C3 CM o1 o2 a1 a2 a3 q2 hlt1
  have hy5 : y = 0 ∨ y = 1 ∨ y = 2 ∨ 3 ≤ y := by omega
  rcases hy5 with rfl | rfl | rfl | hy5
  · have C4 := Lib.hid (chartOf_any g k3 v code M hM13 w3 q3 (by omega))
    have P1 := Lib.hid p1
    have A3 := Lib.hid aa3
    clear p1 p2 aa3 q3
    go_wp2_with fail
    refine C4.out.mono ?_; rintro e w4 ⟨u4, b4, k4, rfl, o4, q4, a4, hl4, hk4, hj4⟩
    have hs4 := a4.size
    obtain ⟨gb, cb, rfl, hgb⟩ := o4.lit (by omega)
    have p4 := P1.out.aptS a4 (by omega)
    have aa4 := A3.out.trans a4
    clear C4 a4
    rw [hl4]
    rw [hl4] at o4
    have HL4 := Lib.hid hl4
    go_wp2_with fail
    go_loopw [25] (fun s wr => ∃ (j : Nat) (m : List Spt) (k : Nat), j ≤ M ∧ s = .int .i64 j ∧ m.length = M ∧ k4 ≤ k ∧ k ≤ k4 + 4 * j ∧ OwnRow sptRec wr w3.heap.size (.slice (some ⟨gb, 0, none⟩) M cb) m ∧ OwnRow sptRec wr w.heap.size (.slice A1 a.length c1) a ∧ CurAt wr g v code k ∧ Apg g w wr) (fun s _ => M - (intOf s).toNat)
    case atStart => exact ⟨0, b4, k4, Nat.zero_le _, rfl, HL4.out, by omega, by omega, o4, p4, q4, aa4⟩
    case round =>
      obtain ⟨j, m, k, hj, rfl, hm, hk0, hk1', pr, or_, qr, ar⟩ := hrel
      clear o4 p4 q4 aa4 hl4
      by_cases hlt : j < M
      · have HMM := Lib.hid hm
        have P6 := Lib.hid (pick_ex g v code 2 k wr.drew (by omega) (by omega) (qr.drewN 1))
        obtain ⟨c0, f0⟩ := spt_cellX pr j (by rw [hm]; exact hlt)
        have hjm : (j : Int) < (M : Int) := by omega
        have hj0 : (0 : Int) ≤ (j : Int) := by omega
        have hsr := ar.size
        obtain ⟨X, hX⟩ : ∃ z, z = (gx sptRec m j).x := ⟨_, rfl⟩
        rw [← hX] at c0
        have HX := Lib.hid hX
        clear hm hX
        go_upto_region 10 with fail
        go_region_law (first
          | (go_simp; go_at_call 75; (with_reducible refine P6.out.mono ?_); rintro e w6 ⟨yy, k6, rfl, hyy, hk6, hj6, q6, a6⟩; have p6 := OwnRow.aptS (OwnRow.drewN pr 1) a6 (by omega); have c6 := spt_cellX p6 j (by rw [HMM.out]; omega); obtain ⟨d0, d1⟩ := c6; rw [← HX.out] at d0)
          | (go_simp; go_at_call 66; refine (l1Least_min _ _ _).mono ?_; rintro e _ ⟨rfl, rfl⟩))
        all_goals
          have o6 := OwnRow.aptS (OwnRow.drewN or_ 1) a6 (by omega)
          have aa6 := (ar.drewN 1).trans a6
          have hs6 : wr.heap.size ≤ w6.heap.size := a6.size
          go_wp2_with fail
          go_roundw
          case rel =>
            exact ⟨j + 1, m.set j ⟨_, (gx sptRec m j).y⟩, k6, by omega, by go_num, by simp [HMM.out], by omega, by omega, OwnRow.setX9 p6 j _ (by rw [HMM.out]; omega), OwnRow.setO9 o6 (fun gb9 h9 => by have := HLT.out gb9 h9; omega) _ _, q6.belowG ((Below.refl w3.heap.size w6).setCell (p := ⟨gb, j * 2, none⟩) hgb _) (by omega), aa6.trans2 ((Below.refl w3.heap.size w6).setCell (p := ⟨gb, j * 2, none⟩) hgb _) (by omega)⟩
          case measure => simp [intOf]; omega
      · obtain rfl : j = M := by omega
        have OF := Lib.hid (pr.lo (show w.heap.size ≤ w3.heap.size by omega))
        have HMM := Lib.hid hm
        clear pr hm
        go_wp2_with fail
        go_ret2
        exact ⟨_, _, a, m, k, rfl, or_, OF.out, hla, by rw [HMM.out]; exact hM13, qr, ar, by omega, by omega⟩
  · have CG := Lib.hid (chGood_any _ a w3 p1.reads)
    have P1 := Lib.hid p1
    have P2 := Lib.hid p2
    have A3 := Lib.hid aa3
    have Q3 := Lib.hid q3
    clear p1 p2 aa3 q3
    cases hgood : isChart a
    case false =>
      rw [hgood] at CG
      go_wp2_with fail
      refine CG.out.mono ?_; rintro e w4 ⟨rfl, b4⟩
      have hx4 := P1.out.below b4 (Nat.le_refl _)
      have hy4 := P2.out.below b4 (Nat.le_refl _)
      have q4 := Q3.out.below b4 (Nat.le_refl _)
      have a4 := A3.out.next b4
      go_wp2_with fail
      go_ret2
      exact ⟨_, _, a, b, k3, rfl, hx4, hy4, hla, by omega, q4, a4, by omega, by omega⟩
    case true =>
      rw [hgood] at CG
      have hl := isChart_t hgood
      have HMa : Hid (M = a.length) := by show _ = _; have := HM.out; omega
      go_wp2_with fail
      refine CG.out.mono ?_; rintro e w4 ⟨rfl, b4⟩
      have CO := Lib.hid (chOwnT _ a w4 (P1.out.below b4 (Nat.le_refl _)).reads (by omega))
      go_wp2_with fail
      refine CO.out.mono ?_; rintro e w5 ⟨u5, rfl, o5, b5⟩
      have b45 := b4.next (Nat.le_refl _) b5
      have hx5 := Lib.hid (P1.out.below b45 (Nat.le_refl _))
      have q5 := Lib.hid (Q3.out.below b45 (Nat.le_refl _))
      have a5 := Lib.hid (A3.out.next b45)
      have ho5 := o5.lo (show w.heap.size ≤ w4.heap.size by have := b4.size; omega)
      by_cases hM2 : 1 < M
      · have hM2' : (1 : Int) < (M : Int) := by omega
        have hc9 : ((M : Int) - 1) = ((M - 1 : Nat) : Int) := by omega
        have CS := Lib.hid (swapPerf_ok _ a 0 (M - 1) w5 o5.reads hgood (by omega) (by have := HMa.out; omega))
        rw [← hc9] at CS
        have e00 : ((0 : Nat) : Int) = 0 := rfl
        rw [e00] at CS
        clear e00
        have hsz5 := a5.out.size
        clear hgood CG CO ho5 o5 b45 b5 b4 hc9
        go_wp2_with fail
        refine CS.out.mono ?_; rintro e w6 ⟨u6, l6, rfl, o6, hl6, b6⟩
        have hx6 := Lib.hid (hx5.out.below b6 (Nat.le_refl _))
        have q6 := Lib.hid (q5.out.below b6 (Nat.le_refl _))
        have a6 := Lib.hid (a5.out.next b6)
        have o6' := Lib.hid (o6.lo hsz5)
        have HL6 := Lib.hid hl6
        clear CS o6 hl6 b6
        go_wp2_with fail
        go_ret2
        exact ⟨_, _, a, l6, k3, rfl, hx6.out, o6'.out, hla, by rw [HL6.out]; exact hla, q6.out, a6.out, by omega, by omega⟩
      · have hM2' : ¬ (1 : Int) < (M : Int) := by omega
        have O5 := Lib.hid ho5
        clear hgood CG CO ho5 o5 b45 b5 b4
        go_wp2_with fail
        go_ret2
        exact ⟨_, _, a, a, k3, rfl, hx5.out, O5.out, hla, hla, q5.out, a5.out, by omega, by omega⟩
  · have CO := Lib.hid (one_ex g v code 4 k3 w3 (by omega) q3)
    have P1 := Lib.hid p1
    have P2 := Lib.hid p2
    have A3 := Lib.hid aa3
    clear p1 p2 aa3 q3
    go_wp2_with fail
    refine CO.out.mono ?_; rintro e w4 ⟨bb, k4, rfl, hk4, hj4, q4, a4⟩
    have p4 := P1.out.aptS a4 (by omega)
    have r4 := P2.out.aptS a4 (by omega)
    have aa4 := A3.out.trans a4
    have hsz4 := aa4.size
    cases bb
    case false =>
      have PF := Lib.hid p4
      have RF := Lib.hid r4
      clear p4 r4 CO
      go_wp2_with fail
      go_ret2
      exact ⟨_, _, a, b, k4, rfl, PF.out, RF.out, hla, by omega, q4, aa4, by omega, by omega⟩
    case true =>
      have CA := Lib.hid (anyChart_any g k4 v code w4 q4 (by omega))
      have PF := Lib.hid p4
      have AF := Lib.hid aa4
      clear p4 r4 CO aa4 q4 a4
      go_wp2_with fail
      refine CA.out.mono ?_; rintro e w5 ⟨u5, b5, k5, rfl, o5, q5, a5, hl5, hk5, hj5⟩
      have p5 := Lib.hid (PF.out.aptS a5 (by omega))
      have o5' := Lib.hid (o5.lo hsz4)
      have a5' := Lib.hid (AF.out.trans a5)
      have q5' := Lib.hid q5
      clear CA o5 a5 q5
      go_wp2_with fail
      go_ret2
      exact ⟨_, _, a, b5, k5, rfl, p5.out, o5'.out, hla, hl5, q5'.out, a5'.out, by omega, by omega⟩
  · have b0 : ((y : Int) == 0) = false := by rw [beq_eq_false_iff_ne]; omega
    have b1 : ((y : Int) == 1) = false := by rw [beq_eq_false_iff_ne]; omega
    have b2 : ((y : Int) == 2) = false := by rw [beq_eq_false_iff_ne]; omega
    have PF := Lib.hid p1
    have RF := Lib.hid p2
    clear p1 p2
    go_wp2_with fail
    go_ret2
    exact ⟨_, _, a, b, k3, rfl, PF.out, RF.out, hla, by omega, q3, aa3, by omega, by omega⟩
end Go.Proofs.Ytgcgkpmjahgmnaa
