/- Contracts of the functions that read and write spots' texts. -/
import Derived.Test.YtombnhnhbocceaaGreatDoorSpT
import Derived.Test.YtombnhnhbocceaaGreatDoorQuietB
import Derived.Test.YtombnhnhbocceaaGreatDoorBoxS
import Derived.Deep.DeepCutAuto
set_option linter.unusedSimpArgs false
set_option linter.unusedVariables false
namespace Go.Proofs.YtombnhnhbocceaaGreatDoor
open Go.RowKit Go.Sort

set_option maxRecDepth 100000 in
set_option maxHeartbeats 3200000 in
theorem readSteps_any (s : ByteArray) (m : Int) (w : World) (hm : MaxW w m) (hs : s.size ≤ 4194304) :
    Calls Tryz.prog 66 #[.string s] w fun e w' => e = .returned (.tuple #[.int .i64 ((rsR s).1 : Nat), .bool (rsR s).2]) ∧ Below w.heap.size w w' := by
  have CC := Lib.hid (cutB_any 43 s ⟨#[43]⟩ m rfl w hm (by omega))
  obtain ⟨hc1, hc2⟩ := cutB_size 43 s
  obtain ⟨a, ha⟩ : ∃ a, a = (cutB 43 s).1 := ⟨_, rfl⟩
  obtain ⟨r, hr⟩ : ∃ a, a = (cutB 43 s).2.1 := ⟨_, rfl⟩
  obtain ⟨f, hf⟩ : ∃ a, a = (cutB 43 s).2.2 := ⟨_, rfl⟩
  have HA := Lib.hid ha
  have HR := Lib.hid hr
  have HF := Lib.hid hf
  rw [← ha, ← hr, ← hf] at CC
  rw [← ha] at hc1
  rw [← hr] at hc2
  clear ha hr hf
  have CA : Hid (∀ W, Calls Tryz.prog 38 #[.string a] W fun e w' => e = .returned (.tuple #[.int .i64 ((natR a).1 : Nat), .bool (natR a).2]) ∧ W = w') := fun W => natural_any a W (by omega)
  have CR : Hid (∀ W, Calls Tryz.prog 38 #[.string r] W fun e w' => e = .returned (.tuple #[.int .i64 ((natR r).1 : Nat), .bool (natR r).2]) ∧ W = w') := fun W => natural_any r W (by omega)
  have ba := natR_bd a
  have br := natR_bd r
  obtain ⟨A, hA⟩ : ∃ z, z = (natR a).1 := ⟨_, rfl⟩
  obtain ⟨A2, hA2⟩ : ∃ z, z = (natR a).2 := ⟨_, rfl⟩
  obtain ⟨R, hR⟩ : ∃ z, z = (natR r).1 := ⟨_, rfl⟩
  obtain ⟨R2, hR2⟩ : ∃ z, z = (natR r).2 := ⟨_, rfl⟩
  rw [← hA, ← hA2] at CA
  rw [← hR, ← hR2] at CR
  rw [← hA] at ba
  rw [← hR] at br
  have E1 := Lib.hid hA
  have E2 := Lib.hid hA2
  have E3 := Lib.hid hR
  have E4 := Lib.hid hR2
  clear hA hA2 hR hR2
  cases A2
  case false =>
    have hx := Lib.hid (rsR_1 (s := s) (by rw [← HA.out]; exact E2.out.symm))
    go_enter Tryz.func66, Tryz.ntmps66
    go_wp2_with fail
    refine CC.out.mono ?_; rintro e w1 ⟨rfl, b1⟩
    go_wp2_with fail
    refine (CA.out _).mono ?_; rintro e _ ⟨rfl, rfl⟩
    go_wp2_with fail
    go_ret2
    exact ⟨by rw [hx.out]; rfl, b1⟩
  case true =>
  cases f
  case false =>
    have hx := Lib.hid (rsR_2 (s := s) (by rw [← HA.out]; exact E2.out.symm) HF.out.symm)
    rw [← HA.out, ← E1.out] at hx
    go_enter Tryz.func66, Tryz.ntmps66
    go_wp2_with fail
    refine CC.out.mono ?_; rintro e w1 ⟨rfl, b1⟩
    go_wp2_with fail
    refine (CA.out _).mono ?_; rintro e _ ⟨rfl, rfl⟩
    go_wp2_with fail
    go_ret2
    exact ⟨by rw [hx.out]; go_num, b1⟩
  case true =>
  cases R2
  case false =>
    have hx := Lib.hid (rsR_3 (s := s) (by rw [← HA.out]; exact E2.out.symm) HF.out.symm (by rw [← HR.out]; exact E4.out.symm))
    go_enter Tryz.func66, Tryz.ntmps66
    go_wp2_with fail
    refine CC.out.mono ?_; rintro e w1 ⟨rfl, b1⟩
    go_wp2_with fail
    refine (CA.out _).mono ?_; rintro e _ ⟨rfl, rfl⟩
    go_wp2_with fail
    refine (CR.out _).mono ?_; rintro e _ ⟨rfl, rfl⟩
    go_wp2_with fail
    go_ret2
    exact ⟨by rw [hx.out]; rfl, b1⟩
  case true =>
  by_cases h17 : 1 ≤ R ∧ R ≤ 7
  · have hx := Lib.hid (rsR_5 (s := s) (by rw [← HA.out]; exact E2.out.symm) HF.out.symm (by rw [← HR.out]; exact E4.out.symm) (by rw [← HR.out, ← E3.out]; exact h17))
    rw [← HA.out, ← E1.out, ← HR.out, ← E3.out] at hx
    have hin : inR (R : Int) 1 7 = true := by rw [inR_t]; omega
    go_enter Tryz.func66, Tryz.ntmps66
    go_wp2_with fail
    refine CC.out.mono ?_; rintro e w1 ⟨rfl, b1⟩
    go_wp2_with fail
    refine (CA.out _).mono ?_; rintro e _ ⟨rfl, rfl⟩
    go_wp2_with fail
    refine (CR.out _).mono ?_; rintro e _ ⟨rfl, rfl⟩
    go_wp2_with (go_at_call 44; refine (within_any _ _ _ _).mono ?_; rintro e w' ⟨rfl, rfl⟩)
    go_ret2
    exact ⟨by rw [hx.out]; go_num, b1⟩
  · have hx := Lib.hid (rsR_4 (s := s) (by rw [← HA.out]; exact E2.out.symm) HF.out.symm (by rw [← HR.out]; exact E4.out.symm) (by rw [← HR.out, ← E3.out]; exact h17))
    have hin : inR (R : Int) 1 7 = false := by rw [inR_f]; omega
    go_enter Tryz.func66, Tryz.ntmps66
    go_wp2_with fail
    refine CC.out.mono ?_; rintro e w1 ⟨rfl, b1⟩
    go_wp2_with fail
    refine (CA.out _).mono ?_; rintro e _ ⟨rfl, rfl⟩
    go_wp2_with fail
    refine (CR.out _).mono ?_; rintro e _ ⟨rfl, rfl⟩
    go_wp2_with (go_at_call 44; refine (within_any _ _ _ _).mono ?_; rintro e w' ⟨rfl, rfl⟩)
    go_ret2
    exact ⟨by rw [hx.out]; rfl, b1⟩
def SpotPost (w : World) (r : Spt × Bool) (e : Ending) (w' : World) : Prop := e = .returned (.tuple #[.agg #[.int .i64 r.1.x, .int .i64 r.1.y], .bool r.2]) ∧ Below w.heap.size w w'

set_option maxRecDepth 100000 in
set_option maxHeartbeats 6400000 in
theorem parseSpot_any (s : ByteArray) (m : Int) (w : World) (hm : MaxW w m) (hs : s.size ≤ 4194304) :
    Calls Tryz.prog 39 #[.string s] w (SpotPost w (psR s)) := by
  have hfin : ∀ (W' : World) (x y : Int) (k : Bool), Below w.heap.size w W' → BoxS W' w.heap.size x y →
      ∀ tm : Array Value, tm[2]? = some (.pointer (some ⟨w.heap.size, 0, none⟩)) → tm[3]? = some (.bool k) →
      bodyPost Tryz.prog Tryz.f39 (fun e w' => e = .returned (.tuple #[.agg #[.int .i64 x, .int .i64 y], .bool k]) ∧ Below w.heap.size w w') Exit.ret ⟨tm, []⟩ W' := by
    intro W' x y k hW hp tm t2 t3
    obtain ⟨p0, p1, _, _⟩ := hp.cells
    exact bodyPost_ret (v := .tuple #[.agg #[.int .i64 x, .int .i64 y], .bool k]) (by simp [results, Tryz.results39, go_sem, p0, p1, t2, t3]) rfl ⟨rfl, hW⟩
  have Hfin := Lib.hid hfin
  clear hfin
  have hb0 := (Below.refl w.heap.size w).alloc (Nat.le_refl _) (.cells #[.int .i64 0, .int .i64 0] 37)
  have z0 := BoxS.new w 0 0
  obtain ⟨w0, hw0⟩ : ∃ w0, w0 = w.alloc (.cells #[.int .i64 0, .int .i64 0] 37) := ⟨_, rfl⟩
  rw [← hw0] at hb0 z0
  have HW := Lib.hid hw0
  clear hw0
  have hm0 := hm.below hb0 (Nat.le_refl _)
  have CC := Lib.hid (cutB_any 44 s ⟨#[44]⟩ m rfl w0 hm0 (by omega))
  obtain ⟨hc1, hc2⟩ := cutB_size 44 s
  obtain ⟨a, ha⟩ : ∃ a, a = (cutB 44 s).1 := ⟨_, rfl⟩
  obtain ⟨r, hr⟩ : ∃ a, a = (cutB 44 s).2.1 := ⟨_, rfl⟩
  obtain ⟨f, hf⟩ : ∃ a, a = (cutB 44 s).2.2 := ⟨_, rfl⟩
  have HA := Lib.hid ha
  have HR := Lib.hid hr
  have HF := Lib.hid hf
  rw [← ha, ← hr, ← hf, HW.out] at CC
  rw [← ha] at hc1
  rw [← hr] at hc2
  clear ha hr hf
  have CA : Hid (∀ W, Below w0.heap.size w0 W → Calls Tryz.prog 66 #[.string a] W fun e w' => e = .returned (.tuple #[.int .i64 ((rsR a).1 : Nat), .bool (rsR a).2]) ∧ Below w0.heap.size w0 w') := fun W hW => (readSteps_any a m W (hm0.below hW (Nat.le_refl _)) (by omega)).mono fun _ _ ⟨x, y⟩ => ⟨x, hW.next (Nat.le_refl _) y⟩
  have CR : Hid (∀ W, Below w0.heap.size w0 W → Calls Tryz.prog 66 #[.string r] W fun e w' => e = .returned (.tuple #[.int .i64 ((rsR r).1 : Nat), .bool (rsR r).2]) ∧ Below w0.heap.size w0 w') := fun W hW => (readSteps_any r m W (hm0.below hW (Nat.le_refl _)) (by omega)).mono fun _ _ ⟨x, y⟩ => ⟨x, hW.next (Nat.le_refl _) y⟩
  obtain ⟨A, hA⟩ : ∃ z, z = (rsR a).1 := ⟨_, rfl⟩
  obtain ⟨A2, hA2⟩ : ∃ z, z = (rsR a).2 := ⟨_, rfl⟩
  obtain ⟨R, hR⟩ : ∃ z, z = (rsR r).1 := ⟨_, rfl⟩
  obtain ⟨R2, hR2⟩ : ∃ z, z = (rsR r).2 := ⟨_, rfl⟩
  rw [← hA, ← hA2] at CA
  rw [← hR, ← hR2] at CR
  have E1 := Lib.hid hA
  have E2 := Lib.hid hA2
  have E3 := Lib.hid hR
  have E4 := Lib.hid hR2
  clear hA hA2 hR hR2 hm hm0
  cases f
  case false =>
    have hx := Lib.hid (psR_1 (s := s) HF.out.symm)
    go_enter Tryz.func39, Tryz.ntmps39
    go_wp2_with fail
    refine CC.out.mono ?_; rw [← HW.out]; rintro e w1 ⟨rfl, b1⟩
    have z1 := z0.keep b1 (Nat.le_refl _)
    obtain ⟨q0, q1, q2, q3⟩ := z1.cells
    go_wp2_with fail
    unfold SpotPost
    rw [hx.out]
    refine Hfin.out _ 0 0 false ?_ (z1.set 0 0) _ ?_ ?_
    · exact below_set2 (hb0.trans (b1.mono hb0.size)) (Nat.le_refl _) _ _
    · rfl
    · rfl
  case true =>
  go_enter Tryz.func39, Tryz.ntmps39
  go_wp2_with fail
  refine CC.out.mono ?_; rw [← HW.out]; rintro e w1 ⟨rfl, b1⟩
  have CA1 := Lib.hid (CA.out w1 b1)
  clear CA
  go_wp2_with fail
  refine CA1.out.mono ?_; rintro e w2 ⟨rfl, b2⟩
  have CR1 := Lib.hid (CR.out w2 b2)
  clear CR CA1
  go_wp2_with fail
  refine CR1.out.mono ?_; rintro e w3 ⟨rfl, b3⟩
  clear CR1 CC
  have z3 := z0.keep b3 (Nat.le_refl _)
  have hb3 := hb0.trans (b3.mono hb0.size)
  have CI := Lib.hid (fun W => implIsSpot (A : Int) (R : Int) W)
  obtain ⟨b, hbb⟩ : ∃ b, b = isSpot (A : Int) (R : Int) := ⟨_, rfl⟩
  rw [← hbb] at CI
  have E5 := Lib.hid hbb
  clear hbb
  have zA := Lib.hid (z3.al (.cells #[.int .i64 A, .int .i64 R] 37))
  have hbA := Lib.hid (hb3.alloc hb3.size (.cells #[.int .i64 A, .int .i64 R] 37))
  have zN := Lib.hid (BoxS.new w3 (A : Int) (R : Int))
  have out0 : Hid (A2 = false ∨ R2 = false ∨ b = false → psR s = (⟨0, 0⟩, false)) := by
    intro h9
    rcases h9 with h9 | h9 | h9
    · exact psR_2 (by rw [← HA.out, ← E2.out]; exact h9)
    · exact psR_3 (by rw [← HR.out, ← E4.out]; exact h9)
    · exact psR_4 (by rw [← HA.out, ← HR.out, ← E1.out, ← E3.out, ← E5.out]; exact h9)
  have out1 : Hid (A2 = true → R2 = true → b = true → psR s = (⟨(A : Int), (R : Int)⟩, true)) := by
    intro h1 h2 h3
    have h9 := psR_5 (s := s) HF.out.symm (by rw [← HA.out, ← E2.out]; exact h1) (by rw [← HR.out, ← E4.out]; exact h2) (by rw [← HA.out, ← HR.out, ← E1.out, ← E3.out, ← E5.out]; exact h3)
    rw [← HA.out, ← HR.out, ← E1.out, ← E3.out] at h9
    exact h9
  obtain ⟨W, hW⟩ : ∃ W, W = w3.alloc (.cells #[.int .i64 A, .int .i64 R] 37) := ⟨_, rfl⟩
  rw [← hW] at zA hbA zN
  have HWW := Lib.hid hW
  clear hW z3 hb3 HA HR HF E1 E2 E3 E4 E5
  go_upto_region 7 with fail
  rw [← HWW.out]
  obtain ⟨n0, n1, _, _⟩ := zN.out.cells
  obtain ⟨q0, q1, q2, q3⟩ := zA.out.cells
  cases A2
  case false =>
    go_wp2_with fail
    unfold SpotPost
    rw [out0.out (by simp)]
    refine Hfin.out _ 0 0 false ?_ (zA.out.set 0 0) _ ?_ ?_
    · exact below_set2 hbA.out (Nat.le_refl _) _ _
    · rfl
    · rfl
  case true =>
  cases R2
  case false =>
    go_wp2_with fail
    unfold SpotPost
    rw [out0.out (by simp)]
    refine Hfin.out _ 0 0 false ?_ (zA.out.set 0 0) _ ?_ ?_
    · exact below_set2 hbA.out (Nat.le_refl _) _ _
    · rfl
    · rfl
  case true =>
  go_wp2_with fail
  refine (CI.out _).mono ?_; rintro e w5 ⟨rfl, b5⟩
  have z5 := zA.out.keep b5 (Nat.le_refl _)
  have hb5 := hbA.out.next (Nat.le_refl _) b5
  have n5 := zN.out.keep b5 (Nat.le_refl _)
  obtain ⟨m0, m1, _, _⟩ := n5.cells
  obtain ⟨r0, r1, r2, r3⟩ := z5.cells
  cases b
  case false =>
    go_wp2_with fail
    unfold SpotPost
    rw [out0.out (by simp)]
    refine Hfin.out _ 0 0 false ?_ (z5.set 0 0) _ ?_ ?_
    · exact below_set2 hb5 (Nat.le_refl _) _ _
    · rfl
    · rfl
  case true =>
    go_wp2_with fail
    unfold SpotPost
    rw [out1.out (by simp) (by simp) (by simp)]
    refine Hfin.out _ A R true ?_ (z5.set A R) _ ?_ ?_
    · exact below_set2 hb5 (Nat.le_refl _) _ _
    · rfl
    · rfl
end Go.Proofs.YtombnhnhbocceaaGreatDoor
