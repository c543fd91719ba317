/- The text of a time, in the program and in the reference. -/
import Derived.Test.YtiondgflpimdmaaDoorItoa
import Derived.Test.YtiondgflpimdmaaDoorPlain
import Derived.Test.YtiondgflpimdmaaDoorHelp
import Derived.Deep.LoopGhost
set_option linter.unusedSimpArgs false
set_option linter.unusedVariables false
namespace Go.Proofs.YtiondgflpimdmaaDoor
open Go.RowKit Go.Sort

/-- Zeros ahead of a text. -/
def zpad : Nat → ByteArray → ByteArray
  | 0, s => s
  | k + 1, s => ⟨#[48]⟩ ++ zpad k s
theorem zpad_size (k : Nat) (s : ByteArray) : (zpad k s).size = k + s.size := by
  induction k with
  | zero => simp [zpad]
  | succ k ih =>
    have e : (⟨#[48]⟩ : ByteArray).size = 1 := rfl
    show (⟨#[48]⟩ ++ zpad k s).size = _
    rw [ByteArray.size_append, ih, e]; omega
def padB (n d : Nat) : ByteArray := zpad (d - (decB n).size) (decB n)
theorem padB_size (n d : Nat) (h : n ≤ 9223372036854775807) : (padB n d).size ≤ d + 19 := by
  have := decB_size n h
  unfold padB; rw [zpad_size]; omega
def tiB (t : Nat) : ByteArray := decB (t / 60000) ++ ⟨#[58]⟩ ++ padB (t / 1000 % 60) 2 ++ ⟨#[46]⟩ ++ padB (t % 1000) 3
def tiR (x : Int) : ByteArray × Bool := if inR x 0 1000000 then (tiB x.toNat, true) else (⟨#[]⟩, false)
theorem tiR_no {x : Int} (h : inR x 0 1000000 = false) : tiR x = (⟨#[]⟩, false) := by unfold tiR; rw [h]; rfl
theorem tiR_yes {x : Int} (h : inR x 0 1000000 = true) : tiR x = (tiB x.toNat, true) := by unfold tiR; rw [h]; rfl
def TextPost3 (w : World) (r : ByteArray × Bool) (e : Ending) (w' : World) : Prop := e = .returned (.tuple #[.string r.1, .bool r.2]) ∧ Below w.heap.size w w'
set_option maxHeartbeats 1600000 in
theorem padded_any (n d : Nat) (w : World) (hp : Pow10 w) (hn : n ≤ 1000000) (hd : d ≤ 3) :
    Calls Tryd.prog 84 #[.int .i64 n, .int .i64 d] w fun e w' => e = .returned (.string (padB n d)) ∧ Below w.heap.size w w' := by
  have C := Lib.hid (itoa_any n w hp (by omega))
  have hs := decB_size n (by omega)
  obtain ⟨s0, hs0⟩ : ∃ s, s = decB n := ⟨_, rfl⟩
  have hr : Hid (padB n d = zpad (d - s0.size) s0) := by rw [hs0]; rfl
  rw [← hs0] at C hs
  clear hs0
  go_enter Tryd.func84, Tryd.ntmps84
  go_wp2_with fail
  refine C.out.mono ?_; rintro e w1 ⟨rfl, b1⟩
  go_wp2_with fail
  go_loopg [5] d (fun gk t wr => ∃ k : Nat, k ≤ d - s0.size ∧ d ≤ k + gk + s0.size ∧ t = .string (zpad k s0) ∧ Below w.heap.size w wr)
  case atStart => exact ⟨0, by omega, by omega, rfl, b1⟩
  case round =>
    obtain ⟨k, hk, hg, rfl, hb⟩ := hrel
    have hz := zpad_size k s0
    have e1 : (⟨#[48]⟩ : ByteArray).size = 1 := rfl
    by_cases hlt : ((zpad k s0).size : Int) < (d : Int)
    · have hst : Hid (⟨#[48]⟩ ++ zpad k s0 = zpad (k + 1) s0) := rfl
      go_wp2_with fail
      go_roundg (gk - 1)
      case measure => omega
      case rel => exact ⟨k + 1, by omega, by omega, by rw [← hst.out], hb⟩
    · obtain rfl : k = d - s0.size := by omega
      go_wp2_with fail
      go_ret
      exact ⟨by rw [hr.out]; rfl, hb⟩
set_option maxHeartbeats 1600000 in
theorem tiPadded_any (n d : Nat) (w : World) (hn : n ≤ 1000000) (hd : d ≤ 3) :
    Calls Tryd.prog 83 #[.int .i64 n, .int .i64 d] w fun e w' => e = .returned (.string (padB n d)) ∧ Below w.heap.size w w' := by
  have C := Lib.hid (l1Num_any n w (by omega))
  have hs := decB_size n (by omega)
  obtain ⟨s0, hs0⟩ : ∃ s, s = decB n := ⟨_, rfl⟩
  have hr : Hid (padB n d = zpad (d - s0.size) s0) := by rw [hs0]; rfl
  rw [← hs0] at C hs
  clear hs0
  go_enter Tryd.func83, Tryd.ntmps83
  go_wp2_with fail
  refine C.out.mono ?_; rintro e w1 ⟨rfl, b1⟩
  go_wp2_with fail
  go_loopg [5] d (fun gk t wr => ∃ k : Nat, k ≤ d - s0.size ∧ d ≤ k + gk + s0.size ∧ t = .string (zpad k s0) ∧ Below w.heap.size w wr)
  case atStart => exact ⟨0, by omega, by omega, rfl, b1⟩
  case round =>
    obtain ⟨k, hk, hg, rfl, hb⟩ := hrel
    have hz := zpad_size k s0
    have e1 : (⟨#[48]⟩ : ByteArray).size = 1 := rfl
    by_cases hlt : ((zpad k s0).size : Int) < (d : Int)
    · have hst : Hid (⟨#[48]⟩ ++ zpad k s0 = zpad (k + 1) s0) := rfl
      go_wp2_with fail
      go_roundg (gk - 1)
      case measure => omega
      case rel => exact ⟨k + 1, by omega, by omega, by rw [← hst.out], hb⟩
    · obtain rfl : k = d - s0.size := by omega
      go_wp2_with fail
      go_ret
      exact ⟨by rw [hr.out]; rfl, hb⟩
set_option maxHeartbeats 1600000 in
theorem timeText_any (x : Nat) (w : World) (hp : Pow10 w) (hx : x ≤ 1000000) :
    Calls Tryd.prog 65 #[.int .i64 x] w fun e w' => e = .returned (.string (tiB x)) ∧ Below w.heap.size w w' := by
  have E1 : Hid (tiB x = decB (x / 60000) ++ ⟨#[58]⟩ ++ padB (x / 1000 % 60) 2 ++ ⟨#[46]⟩ ++ padB (x % 1000) 3) := rfl
  obtain ⟨a, ha⟩ : ∃ a, a = x / 60000 := ⟨_, rfl⟩
  obtain ⟨b, hb⟩ : ∃ b, b = x / 1000 := ⟨_, rfl⟩
  obtain ⟨s, hs⟩ : ∃ s, s = x / 1000 % 60 := ⟨_, rfl⟩
  obtain ⟨m, hm⟩ : ∃ m, m = x % 1000 := ⟨_, rfl⟩
  have q1 : (x : Int).tdiv 60000 = (a : Int) := by rw [Int.tdiv_eq_ediv_of_nonneg (by omega)]; omega
  have q2 : (x : Int).tdiv 1000 = (b : Int) := by rw [Int.tdiv_eq_ediv_of_nonneg (by omega)]; omega
  have q3 : (b : Int).tmod 60 = (s : Int) := by rw [Int.tmod_eq_emod_of_nonneg (by omega)]; omega
  have q4 : (x : Int).tmod 1000 = (m : Int) := by rw [Int.tmod_eq_emod_of_nonneg (by omega)]; omega
  have q1' : (x : Int) / 60000 = (a : Int) := by omega
  have q2' : (x : Int) / 1000 = (b : Int) := by omega
  have q3' : (b : Int) % 60 = (s : Int) := by omega
  have q4' : (x : Int) % 1000 = (m : Int) := by omega
  have z1 : a ≤ 16 := by omega
  have z2 : b ≤ 1000 := by omega
  have z3 : s < 60 := by omega
  have z4 : m < 1000 := by omega
  rw [← ha, ← hs, ← hm] at E1
  clear ha hs hm hb
  obtain ⟨A, hA⟩ : ∃ A, A = decB a := ⟨_, rfl⟩
  obtain ⟨S, hS⟩ : ∃ S, S = padB s 2 := ⟨_, rfl⟩
  obtain ⟨M, hM⟩ : ∃ M, M = padB m 3 := ⟨_, rfl⟩
  have C1 := fun (w : World) (hp : Pow10 w) => Lib.hid (itoa_any a w hp (by omega))
  have C2 := fun (w : World) (hp : Pow10 w) => Lib.hid (padded_any s 2 w hp (by omega) (by omega))
  have C3 := fun (w : World) (hp : Pow10 w) => Lib.hid (padded_any m 3 w hp (by omega) (by omega))
  have y1 : A.size ≤ 19 := by rw [hA]; exact (decB_size a (by omega)).1
  have y2 : S.size ≤ 21 := by rw [hS]; exact padB_size s 2 (by omega)
  have y3 : M.size ≤ 22 := by rw [hM]; exact padB_size m 3 (by omega)
  simp only [← hA, ← hS, ← hM] at C1 C2 C3 E1
  clear hA hS hM
  have e1 : (⟨#[58]⟩ : ByteArray).size = 1 := rfl
  have e2 : (⟨#[46]⟩ : ByteArray).size = 1 := rfl
  go_enter Tryd.func65, Tryd.ntmps65
  go_wp2_with fail
  refine (C1 _ hp).out.mono ?_; rintro e w1 ⟨rfl, b1⟩
  have B1 := b1
  go_wp2_with fail
  refine (C2 _ (hp.below B1 (Nat.le_refl _))).out.mono ?_; rintro e w2 ⟨rfl, b2⟩
  have B2 := B1.next (Nat.le_refl _) b2
  go_wp2_with fail
  refine (C3 _ (hp.below B2 (Nat.le_refl _))).out.mono ?_; rintro e w3 ⟨rfl, b3⟩
  have B3 := B2.next (Nat.le_refl _) b3
  go_wp2_with fail
  go_ret
  exact ⟨by rw [E1.out]; rfl, B3⟩
set_option maxHeartbeats 1600000 in
theorem tiText_any (x : Nat) (w : World) (hp : Pow10 w) (hx : x ≤ 1000000) :
    Calls Tryd.prog 63 #[.int .i64 x] w fun e w' => e = .returned (.string (tiB x)) ∧ Below w.heap.size w w' := by
  have E1 : Hid (tiB x = decB (x / 60000) ++ ⟨#[58]⟩ ++ padB (x / 1000 % 60) 2 ++ ⟨#[46]⟩ ++ padB (x % 1000) 3) := rfl
  obtain ⟨a, ha⟩ : ∃ a, a = x / 60000 := ⟨_, rfl⟩
  obtain ⟨b, hb⟩ : ∃ b, b = x / 1000 := ⟨_, rfl⟩
  obtain ⟨s, hs⟩ : ∃ s, s = x / 1000 % 60 := ⟨_, rfl⟩
  obtain ⟨m, hm⟩ : ∃ m, m = x % 1000 := ⟨_, rfl⟩
  have q1 : (x : Int).tdiv 60000 = (a : Int) := by rw [Int.tdiv_eq_ediv_of_nonneg (by omega)]; omega
  have q2 : (x : Int).tdiv 1000 = (b : Int) := by rw [Int.tdiv_eq_ediv_of_nonneg (by omega)]; omega
  have q3 : (b : Int).tmod 60 = (s : Int) := by rw [Int.tmod_eq_emod_of_nonneg (by omega)]; omega
  have q4 : (x : Int).tmod 1000 = (m : Int) := by rw [Int.tmod_eq_emod_of_nonneg (by omega)]; omega
  have q1' : (x : Int) / 60000 = (a : Int) := by omega
  have q2' : (x : Int) / 1000 = (b : Int) := by omega
  have q3' : (b : Int) % 60 = (s : Int) := by omega
  have q4' : (x : Int) % 1000 = (m : Int) := by omega
  have z1 : a ≤ 16 := by omega
  have z2 : b ≤ 1000 := by omega
  have z3 : s < 60 := by omega
  have z4 : m < 1000 := by omega
  rw [← ha, ← hs, ← hm] at E1
  clear ha hs hm hb
  obtain ⟨A, hA⟩ : ∃ A, A = decB a := ⟨_, rfl⟩
  obtain ⟨S, hS⟩ : ∃ S, S = padB s 2 := ⟨_, rfl⟩
  obtain ⟨M, hM⟩ : ∃ M, M = padB m 3 := ⟨_, rfl⟩
  have C1 := fun (w : World) (hp : Pow10 w) => Lib.hid (l1Num_any a w (by omega))
  have C2 := fun (w : World) (hp : Pow10 w) => Lib.hid (tiPadded_any s 2 w (by omega) (by omega))
  have C3 := fun (w : World) (hp : Pow10 w) => Lib.hid (tiPadded_any m 3 w (by omega) (by omega))
  have y1 : A.size ≤ 19 := by rw [hA]; exact (decB_size a (by omega)).1
  have y2 : S.size ≤ 21 := by rw [hS]; exact padB_size s 2 (by omega)
  have y3 : M.size ≤ 22 := by rw [hM]; exact padB_size m 3 (by omega)
  simp only [← hA, ← hS, ← hM] at C1 C2 C3 E1
  clear hA hS hM
  have e1 : (⟨#[58]⟩ : ByteArray).size = 1 := rfl
  have e2 : (⟨#[46]⟩ : ByteArray).size = 1 := rfl
  go_enter Tryd.func63, Tryd.ntmps63
  go_wp2_with fail
  refine (C1 _ hp).out.mono ?_; rintro e w1 ⟨rfl, b1⟩
  have B1 := b1
  go_wp2_with fail
  refine (C2 _ (hp.below B1 (Nat.le_refl _))).out.mono ?_; rintro e w2 ⟨rfl, b2⟩
  have B2 := B1.next (Nat.le_refl _) b2
  go_wp2_with fail
  refine (C3 _ (hp.below B2 (Nat.le_refl _))).out.mono ?_; rintro e w3 ⟨rfl, b3⟩
  have B3 := B2.next (Nat.le_refl _) b3
  go_wp2_with fail
  go_ret
  exact ⟨by rw [E1.out]; rfl, B3⟩
theorem isTime_any (x : Int) (w : World) : Calls Tryd.prog 64 #[.int .i64 x] w fun e w' => e = .returned (.bool (inR x 0 1000000)) ∧ Below w.heap.size w w' := by
  go_enter Tryd.func64, Tryd.ntmps64
  go_wp2_with (go_at_call 59; refine (within_any _ _ _ _).mono ?_; rintro e w' ⟨rfl, rfl⟩)
  go_ret
  exact ⟨rfl, Below.refl _ _⟩
theorem tiTime_any (x : Int) (w : World) : Calls Tryd.prog 62 #[.int .i64 x] w fun e w' => e = .returned (.bool (inR x 0 1000000)) ∧ Below w.heap.size w w' := by
  go_enter Tryd.func62, Tryd.ntmps62
  go_wp2_with (go_at_call 70; refine (l1In_any _ _ _ _).mono ?_; rintro e w' ⟨rfl, rfl⟩)
  go_ret
  exact ⟨rfl, Below.refl _ _⟩
set_option maxHeartbeats 1600000 in
theorem implTi (x : Int) (w : World) (hp : Pow10 w) : Calls Tryd.prog 29 #[.int .i64 x] w (TextPost3 w (tiR x)) := by
  have hpB : ∀ w2, Below w.heap.size w w2 → Pow10 w2 := fun w2 hb => hp.below hb (Nat.le_refl _)
  cases h : inR x 0 1000000
  · have hr := Lib.hid (tiR_no h)
    go_enter Tryd.func29, Tryd.ntmps29
    go_wp2_with fail
    refine (isTime_any _ _).mono ?_; rintro e w1 ⟨rfl, b1⟩
    have B1 := b1
    go_wp2_with fail
    go_ret2
    exact ⟨by rw [hr.out]; rfl, B1⟩
  · have hr := Lib.hid (tiR_yes h)
    have hb := inR_t.1 h
    have Hh := Lib.hid h
    clear h
    obtain ⟨n, rfl⟩ := Int.eq_ofNat_of_zero_le (show 0 ≤ x by omega)
    rw [Int.toNat_natCast] at hr
    go_enter Tryd.func29, Tryd.ntmps29
    go_wp2_with fail
    refine (isTime_any _ _).mono ?_; rintro e w1 ⟨rfl, b1⟩
    have hh := Hh.out
    have B1 := b1
    go_wp2_with fail
    refine (timeText_any _ _ (hpB _ B1) (by omega)).mono ?_; rintro e w2 ⟨rfl, b2⟩
    have B2 := B1.next (Nat.le_refl _) b2
    go_wp2_with fail
    go_ret2
    exact ⟨by rw [hr.out]; rfl, B2⟩
set_option maxHeartbeats 1600000 in
theorem specTi (x : Int) (w : World) (hp : Pow10 w) : Calls Tryd.prog 28 #[.int .i64 x] w (TextPost3 w (tiR x)) := by
  have hpB : ∀ w2, Below w.heap.size w w2 → Pow10 w2 := fun w2 hb => hp.below hb (Nat.le_refl _)
  cases h : inR x 0 1000000
  · have hr := Lib.hid (tiR_no h)
    go_enter Tryd.func28, Tryd.ntmps28
    go_wp2_with fail
    refine (tiTime_any _ _).mono ?_; rintro e w1 ⟨rfl, b1⟩
    have B1 := b1
    go_wp2_with fail
    go_ret2
    exact ⟨by rw [hr.out]; rfl, B1⟩
  · have hr := Lib.hid (tiR_yes h)
    have hb := inR_t.1 h
    have Hh := Lib.hid h
    clear h
    obtain ⟨n, rfl⟩ := Int.eq_ofNat_of_zero_le (show 0 ≤ x by omega)
    rw [Int.toNat_natCast] at hr
    go_enter Tryd.func28, Tryd.ntmps28
    go_wp2_with fail
    refine (tiTime_any _ _).mono ?_; rintro e w1 ⟨rfl, b1⟩
    have hh := Hh.out
    have B1 := b1
    go_wp2_with fail
    refine (tiText_any _ _ (hpB _ B1) (by omega)).mono ?_; rintro e w2 ⟨rfl, b2⟩
    have B2 := B1.next (Nat.le_refl _) b2
    go_wp2_with fail
    go_ret2
    exact ⟨by rw [hr.out]; rfl, B2⟩
end Go.Proofs.YtiondgflpimdmaaDoor
