/- Contracts: matchings, in the program and in the reference. -/
import Derived.Test.YtgcgkpmjahgmnaaTrP
import Derived.Test.YtgcgkpmjahgmnaaHelp
import Derived.Test.YtgcgkpmjahgmnaaMark
import Derived.Deep.RegionWith
set_option linter.unusedSimpArgs false
set_option linter.unusedVariables false
namespace Go.Proofs.Ytgcgkpmjahgmnaa
open Go.RowKit

theorem ofInt_small (a : Nat) (ha : a < 65536) : (BitVec.ofInt 64 (a : Int)).toNat = a := by
  rw [BitVec.ofInt_natCast, BitVec.toNat_ofNat]; exact Nat.mod_eq_of_lt (by omega)
theorem and_small (a b : Nat) (ha : a < 65536) (hb : b < 65536) : bits .and .i64 (a : Int) (b : Int) = ((a &&& b : Nat) : Int) := by
  have hx : a &&& b < 2 ^ 16 := Nat.and_lt_two_pow _ (by omega)
  show IntKind.i64.wrap ((BitVec.ofInt 64 (a : Int) &&& BitVec.ofInt 64 (b : Int)).toNat : Int) = _
  rw [BitVec.toNat_and, ofInt_small a ha, ofInt_small b hb]
  exact IntWalk.i64_in _ (by omega)
theorem or_small (a b : Nat) (ha : a < 65536) (hb : b < 65536) : bits .or .i64 (a : Int) (b : Int) = ((a ||| b : Nat) : Int) := by
  have hx : a ||| b < 2 ^ 16 := Nat.or_lt_two_pow (by omega) (by omega)
  show IntKind.i64.wrap ((BitVec.ofInt 64 (a : Int) ||| BitVec.ofInt 64 (b : Int)).toNat : Int) = _
  rw [BitVec.toNat_or, ofInt_small a ha, ofInt_small b hb]
  exact IntWalk.i64_in _ (by omega)
theorem bit_of (u m : Nat) (hu : u < 65536) : bits .and .i64 (((u / 2 ^ m : Nat)) : Int) 1 = if u.testBit m then 1 else 0 := by
  have h1 : u / 2 ^ m ≤ u := Nat.div_le_self _ _
  have e := and_small (u / 2 ^ m) 1 (by omega) (by omega)
  have e2 : ((1 : Nat) : Int) = 1 := rfl
  rw [e2] at e
  rw [e, Nat.and_one_is_mod]
  have h3 := Nat.testBit_eq_decide_div_mod_eq (x := u) (i := m)
  rw [h3]
  have : u / 2 ^ m % 2 < 2 := Nat.mod_lt _ (by omega)
  by_cases h : u / 2 ^ m % 2 = 1
  · rw [if_pos (decide_eq_true h), h]; rfl
  · rw [if_neg (by rw [decide_eq_false h]; decide)]; omega

set_option maxRecDepth 100000 in
set_option maxHeartbeats 1600000 in
theorem isMatching_any (v : Value) (p : List Int) (n : Nat) (w : World) (h : IntsAt w v p) (hn1 : 1 ≤ n) (hn : n ≤ 12) :
    Calls Try.prog 70 #[v, .int .i64 (n : Int)] w fun e w' => e = .returned (.bool (isMat p n)) ∧ w = w' := by
  obtain ⟨A, c, rfl, hnc, hc63⟩ := h.shape
  go_enter Try.func70, Try.ntmps70
  go_wp2_with fail
  go_loop [5, 10] (fun u i => ∃ k : Nat, k ≤ p.length ∧ i = .int .i64 k ∧ u = .int .i64 (bitsOf (p.take k) : Nat) ∧ Hid (mTo p n k)) (fun _ i => p.length - (intOf i).toNat)
  case atStart => exact ⟨0, Nat.zero_le _, rfl, rfl, fun i hi => absurd hi (by omega)⟩
  case round =>
    obtain ⟨k, hk, rfl, rfl, hall⟩ := hrel
    by_cases hlt : k < p.length
    · obtain ⟨b, o, rfl, hc⟩ := IntsAt.at_ h k hlt
      have hmem := mTo_mem hall.out hk
      have hu0 : bitsOf (p.take k) < 2 ^ n := bitsOf_lt (fun x hx => (hmem x hx).2) hn1
      have hu1 : (2 : Nat) ^ n ≤ 2 ^ 12 := Nat.pow_le_pow_right (by omega) hn
      have htb := fun m => testBit_bitsOf (l := p.take k) (m := m) (fun x hx => (hmem x hx).1)
      have hs := bitsOf_succ p k hlt
      have hok : Hid (mOk p n k = (inR (gi p k) 0 ((n : Int) - 1) && !hasN (p.take k) (gi p k))) := rfl
      obtain ⟨U, hU⟩ : ∃ U, U = bitsOf (p.take k) := ⟨_, rfl⟩
      rw [← hU] at hu0 htb hs
      rw [← hU]
      have HS := Lib.hid hs
      clear hU hmem hs
      cases hin : inR (gi p k) 0 ((n : Int) - 1)
      · have hr := Lib.hid (isMat_no hlt (show mOk p n k = false by rw [hok.out, hin]; rfl))
        clear hu0 hu1 htb
        go_wp2_with (go_at_call 52; refine (within_any _ _ _ _).mono ?_; rintro e w' ⟨rfl, rfl⟩)
        go_ret
        exact ⟨ret_bool hr.out.symm, rfl⟩
      · obtain ⟨g1, g2⟩ := inR_t.1 hin
        obtain ⟨X, hX⟩ := Int.eq_ofNat_of_zero_le g1
        have hX := hX
        rw [hX] at hin hok hc g2 HS
        have hXn : X < n := by omega
        have C := Lib.hid (fun W => within_any (X : Int) 0 ((n : Int) - 1) W)
        rw [hin] at C
        have b1 := bit_of U X (by omega)
        rw [htb X] at b1
        have hu2 : U < 65536 := by omega
        have hX2 : (2 : Nat) ^ X ≤ 2 ^ 12 := Nat.pow_le_pow_right (by omega) (by omega)
        have o1 := or_small U (2 ^ X) hu2 (by omega)
        have hH := Lib.hid hX
        have HI := Lib.hid hin
        clear htb hu1 hu0 hX hin g1 g2
        cases hh : hasN (p.take k) (X : Int)
        all_goals
          rw [hh] at b1
          simp only [if_true, Bool.false_eq_true, if_false, ↓reduceIte] at b1
          have b2 : bits .and .i64 ((U : Int) / 2 ^ X) 1 = _ := b1
          clear b1
          have HO : Hid (bits .or .i64 (U : Int) (wrap64 (2 ^ X)) = ((U ||| 2 ^ X : Nat) : Int)) := by
            show _ = _
            rw [← o1]
            congr 1
            have e9 : ((2 : Int) ^ X) = ((2 ^ X : Nat) : Int) := by push_cast; rfl
            rw [e9]
            clear e9
            generalize (2 : Nat) ^ X = Y at hX2 ⊢
            unfold wrap64
            omega
          clear o1
          go_wp2_with (go_at_call 52; refine (C.out _).mono ?_; rintro e w' ⟨rfl, rfl⟩)
        · have hn2 : Hid (mTo p n (k + 1)) := mTo_succ hall.out (by rw [hok.out, HI.out, hh]; rfl)
          go_round
          case rel => exact ⟨k + 1, by omega, by go_num, by rw [HO.out, HS.out]; rfl, hn2⟩
          case measure => simp [intOf]; omega
        · have hr := Lib.hid (isMat_no hlt (show mOk p n k = false by rw [hok.out, HI.out, hh]; rfl))
          go_ret
          exact ⟨ret_bool hr.out.symm, rfl⟩
    · obtain rfl : k = p.length := by omega
      have hr : Hid (isMat p n = (p.length == n)) := isMat_to hall.out
      go_wp2_with fail
      go_ret
      exact ⟨ret_bool (by rw [hr.out, Bool.eq_iff_iff]; simp; omega), rfl⟩

theorem l1HasN_any (v : Value) (l : List Int) (x : Int) (w : World) (h : IntsAt w v l) :
    Calls Try.prog 81 #[v, .int .i64 x] w fun e w' => e = .returned (.bool (hasN l x)) ∧ w = w' := by
  obtain ⟨A, c, rfl, hnc, hc63⟩ := h.shape
  go_enter Try.func81, Try.ntmps81
  go_wp2_with fail
  go_loop [9] (fun i => ∃ k : Nat, k ≤ l.length ∧ i = .int .i64 k ∧ Hid (hasN (l.take k) x = false)) (fun i => l.length - (intOf i).toNat)
  case atStart => exact ⟨0, Nat.zero_le _, rfl, rfl⟩
  case round =>
    obtain ⟨k, hk, rfl, hall⟩ := hrel
    by_cases hlt : k < l.length
    · obtain ⟨b, o, rfl, hc⟩ := IntsAt.at_ h k hlt
      have hs := Lib.hid (hasN_succ l x k hlt)
      cases he : (gi l k == x)
      · have hn : Hid (hasN (l.take (k + 1)) x = false) := by show _ = _; rw [hs.out, hall.out, he]; rfl
        go_wp2_with fail
        go_round
        case rel => exact ⟨k + 1, by omega, by go_num, hn⟩
        case measure => simp [intOf]; omega
      · have hn : Hid (hasN l x = true) := hasN_t.2 (by have e9 : gi l k = x := by simpa using he
                                                        rw [← e9]; exact gi_mem hlt)
        go_wp2_with fail
        go_ret
        exact ⟨ret_bool hn.out.symm, rfl⟩
    · obtain rfl : k = l.length := by omega
      rw [List.take_length] at hall
      go_wp2_with fail
      go_ret
      exact ⟨ret_bool hall.out.symm, rfl⟩
set_option maxRecDepth 100000 in
set_option maxHeartbeats 1600000 in
theorem maPlaces_any (v : Value) (p : List Int) (n : Nat) (w : World) (h : IntsAt w v p) (hn1 : 1 ≤ n) (hn : n ≤ 12) :
    Calls Try.prog 64 #[v, .int .i64 (n : Int)] w fun e w' => e = .returned (.bool (isMat p n)) ∧ w = w' := by
  obtain ⟨A, c, rfl, hnc, hc63⟩ := h.shape
  go_enter Try.func64, Try.ntmps64
  go_wp2_with fail
  go_loop [9] (fun i => ∃ k : Nat, k ≤ p.length ∧ i = .int .i64 k ∧ Hid (mTo p n k)) (fun i => p.length - (intOf i).toNat)
  case atStart => exact ⟨0, Nat.zero_le _, rfl, fun i hi => absurd hi (by omega)⟩
  case round =>
    obtain ⟨k, hk, rfl, hall⟩ := hrel
    by_cases hlt : k < p.length
    · obtain ⟨b, o, rfl, hc⟩ := IntsAt.at_ h k hlt
      have hok : Hid (mOk p n k = (inR (gi p k) 0 ((n : Int) - 1) && !hasN (p.take k) (gi p k))) := rfl
      have C1 := Lib.hid (fun W => l1In_any (gi p k) 0 ((n : Int) - 1) W)
      cases hin : inR (gi p k) 0 ((n : Int) - 1)
      · have hr := Lib.hid (isMat_no hlt (show mOk p n k = false by rw [hok.out, hin]; rfl))
        rw [hin] at C1
        go_wp2_with (go_at_call 46; refine (C1.out _).mono ?_; rintro e w' ⟨rfl, rfl⟩)
        go_ret
        exact ⟨ret_bool hr.out.symm, rfl⟩
      · have hcut := IntsAt.take h k hk
        have C2 := Lib.hid (l1HasN_any _ (p.take k) (gi p k) w hcut)
        rw [hin] at C1
        have HI := Lib.hid hin
        clear hin
        have i0 : (0 : Int) ≤ (k : Int) := by omega
        have i1 : (k : Int) ≤ (c : Int) := by omega
        cases hh : hasN (p.take k) (gi p k)
        all_goals
          rw [hh] at C2
          have HH := Lib.hid hh
          clear hh
          go_wp2_with (first | (go_at_call 46; refine (C1.out _).mono ?_; rintro e w' ⟨rfl, rfl⟩) | (go_at_call 81; refine C2.out.mono ?_; rintro e w' ⟨rfl, rfl⟩))
        · have hn2 : Hid (mTo p n (k + 1)) := mTo_succ hall.out (by rw [hok.out, HI.out, HH.out]; rfl)
          go_round
          case rel => exact ⟨k + 1, by omega, by go_num, hn2⟩
          case measure => simp [intOf]; omega
        · have hr := Lib.hid (isMat_no hlt (show mOk p n k = false by rw [hok.out, HI.out, HH.out]; rfl))
          go_ret
          exact ⟨ret_bool hr.out.symm, rfl⟩
    · obtain rfl : k = p.length := by omega
      have hr : Hid (isMat p n = (p.length == n)) := isMat_to hall.out
      go_wp2_with fail
      go_ret
      exact ⟨ret_bool (by rw [hr.out, Bool.eq_iff_iff]; simp; omega), rfl⟩
end Go.Proofs.Ytgcgkpmjahgmnaa
