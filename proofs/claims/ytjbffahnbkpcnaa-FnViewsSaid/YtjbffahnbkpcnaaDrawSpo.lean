/- The draw that spoils a string with one or two edits. -/
import Derived.Test.YtjbffahnbkpcnaaDraw0
import Derived.Test.YtjbffahnbkpcnaaStr
import Derived.Deep.LoopGhost
import Derived.Deep.DeepCutAuto
import Derived.RegionTactic
set_option linter.unusedSimpArgs false
set_option linter.unusedVariables false
namespace Go.Proofs.Ytjbffahnbkpcnaa
open Go.RowKit Go.Sort

theorem sl_h (s : ByteArray) (i : Nat) (hi : i ≤ s.size) (w : World) : (Instr.slice 9 (.string s) none (some (.int .i64 i)) none).run Try.prog w = .ok (.string (s.extract 0 i)) w := by
  have h9 := run_slice_string_h (P := Try.prog) (w := w) (t := 9) (s := s) Try.underlying9 .i64 (i : Int) (by omega) (by omega)
  rw [show ((i : Int)).toNat = i from by omega] at h9
  exact h9
theorem sl_l (s : ByteArray) (i : Nat) (hi : i ≤ s.size) (w : World) : (Instr.slice 9 (.string s) (some (.int .i64 i)) none none).run Try.prog w = .ok (.string (s.extract i s.size)) w := by
  have h9 := run_slice_string_l (P := Try.prog) (w := w) (t := 9) (s := s) Try.underlying9 .i64 (i : Int) (by omega) (by omega)
  rw [show ((i : Int)).toNat = i from by omega] at h9
  exact h9
theorem CurAt.drew9 {w : World} {g n : Nat} {v : Value} {code : List Nat} (h : CurAt w g v code n) : CurAt w.drew g v code n := h.belowG ((Below.refl _ w).drew) h.lt
theorem ex_sz (s : ByteArray) (i j : Nat) (hj : j ≤ s.size) (hi : i ≤ j) : (s.extract i j).size = j - i := by
  rw [ByteArray.size_extract]; omega
set_option maxRecDepth 100000 in
set_option maxHeartbeats 6400000 in
theorem spoilt_any (g n : Nat) (v : Value) (code : List Nat) (s a : ByteArray) (w : World) (h : CurAt w g v code n) (hn : n ≤ 4611686018420000000) (hs : s.size ≤ 1000000) (ha : 1 ≤ a.size) (ha2 : a.size ≤ 100) :
    Calls Try.prog 58 #[.pointer (some ⟨g, 0, none⟩), .string s, .string a] w
      fun e w' => ∃ (r : ByteArray) (n' : Nat), e = .returned (.string r) ∧ r.size ≤ s.size + 2 ∧ n ≤ n' ∧ n' ≤ n + 30 ∧ CurAt w' g v code n' ∧ Apg g w w' := by
  have hg := h.lt
  have C1 := Lib.hid (pick_ex g v code 2 n w (by omega) (by omega) h)
  go_enter Try.func58, Try.ntmps58
  go_wp2_with fail
  refine C1.out.mono ?_; rintro e w1 ⟨y1, k1, rfl, hy1, hk1, hj1, q1, a1⟩
  clear C1
  go_wp2_with fail
  go_loopg [1, 7] 3 (fun gk t1 t7 wr => ∃ (r : ByteArray) (m k : Nat), t1 = .string r ∧ t7 = .int .i64 m ∧ m ≤ 2 ∧ m < gk ∧ r.size + m ≤ s.size + 2 ∧ n ≤ k ∧ k + 10 * m ≤ n + 30 ∧ CurAt wr g v code k ∧ Apg g w wr)
  case atStart => exact ⟨s, 1 + y1, k1, rfl, by go_num, by omega, by omega, by omega, by omega, by omega, q1, a1⟩
  case round =>
    obtain ⟨r, m, k, rfl, rfl, hm2, hmg, hrs, hk2, hk3, qr, ar⟩ := hrel
    clear q1 a1
    rcases Nat.eq_zero_or_pos m with hm0 | hm0
    · subst hm0
      go_wp2_with fail
      go_ret
      exact ⟨_, k, rfl, by omega, by omega, by omega, qr, ar⟩
    · rcases Nat.eq_zero_or_pos r.size with hr0 | hr0
      · have e0 : (r.size : Int) = 0 := by omega
        go_wp2_with fail
        go_ret
        exact ⟨_, k, rfl, by omega, by omega, by omega, qr, ar⟩
      · have C2 := Lib.hid (pick_ex g v code r.size k wr (by omega) (by omega) qr)
        have hm9 : (0 : Int) < (m : Int) := by omega
        have hr9 : (0 : Int) < (r.size : Int) := by omega
        go_wp2_with fail
        refine C2.out.mono ?_; rintro e w2 ⟨i, k4, rfl, hi, hk4, hj4, q4, a4⟩
        have b4 := ar.trans a4
        have C5 := Lib.hid (pick_ex g v code a.size k4 w2 (by omega) (by omega) q4)
        clear C2 a4 ar
        go_wp2_with fail
        refine C5.out.mono ?_; rintro e w5 ⟨j, k5, rfl, hj, hk5, hj5, q5, a5⟩
        have b5 := b4.trans a5
        have hjl : j < a.size := by omega
        obtain ⟨x, hx⟩ : ∃ x : Nat, x = (a[j]).toNat := ⟨_, rfl⟩
        have hb9 : (a[j]).toNat = x := hx.symm
        have hcv := conv_byte1 w5 (x : Int)
        have hg5 := q5.lt
        have qc := Lib.hid (q5.belowG ((Below.refl _ w5).alloc (Nat.le_refl _) (.cells #[.int .u8 (x : Int)] 5)) hg5)
        have bc := Lib.hid (b5.next ((Below.refl _ w5).alloc (Nat.le_refl _) (.cells #[.int .u8 (x : Int)] 5)))
        have C6 := Lib.hid (fun (h9 : True) => pick_ex g v code 3 k5 (w5.alloc (.cells #[.int .u8 (x : Int)] 5)) (by omega) (by omega) qc.out)
        clear C5 a5 b4 hx
        go_wp2_with fail
        refine (C6.out trivial).mono ?_; rintro e w6 ⟨y, k6, rfl, hy, hk6, hj6, q6, a6⟩
        have b6 := bc.out.trans a6
        clear hcv qc bc C6 b5 q5
        have hw1 : (strOfNums [(x : Int)]).size = 1 := rfl
        have hil : i < r.size := by omega
        have s1 := sl_h r i (by omega)
        have s2 := sl_l r i (by omega)
        obtain ⟨i1, hi1e⟩ : ∃ i1, i1 = i + 1 := ⟨_, rfl⟩
        have s3 := sl_l r i1 (by omega)
        have z1 := ex_sz r 0 i (by omega) (by omega)
        have z2 := ex_sz r i r.size (by omega) (by omega)
        have z3 := ex_sz r i1 r.size (by omega) (by omega)
        have hi1 : IntKind.i64.wrap ((i : Int) + 1) = (i1 : Int) := by rw [IntWalk.i64_in _ (by omega)]; omega
        have hi2 : ((i : Int) + 1) = (i1 : Int) := by omega
        have hi3 : i1 ≤ r.size := by omega
        have hi4 : i + 1 ≤ i1 := by omega
        clear hi1e
        have hy3 : y = 0 ∨ y = 1 ∨ y = 2 := by omega
        clear hm9 hr9 hb9 hi
        rcases hy3 with rfl | rfl | rfl
        · go_upto_region 9 with fail
          go_region
          go_wp2_with fail
          go_roundg (gk - 1)
          case measure => omega
          case rel => exact ⟨_, m - 1, k6, rfl, by go_num, by omega, by omega, by rw [ByteArray.size_append, ByteArray.size_append]; omega, by omega, by omega, q6.drew9, b6.next ((Below.refl _ _).drew)⟩
        · go_upto_region 11 with fail
          go_region
          go_wp2_with fail
          go_roundg (gk - 1)
          case measure => omega
          case rel => exact ⟨_, m - 1, k6, rfl, by go_num, by omega, by omega, by rw [ByteArray.size_append, ByteArray.size_append]; omega, by omega, by omega, q6.drew9, b6.next ((Below.refl _ _).drew)⟩
        · go_upto_region 7 with fail
          go_region
          go_wp2_with fail
          go_roundg (gk - 1)
          case measure => omega
          case rel => exact ⟨_, m - 1, k6, rfl, by go_num, by omega, by omega, by rw [ByteArray.size_append]; omega, by omega, by omega, q6.drew9, b6.next ((Below.refl _ _).drew)⟩
end Go.Proofs.Ytjbffahnbkpcnaa
