/- Numbers in decimal: the reference's l1Num; plain words on digits. -/
import Derived.Test.YtombnhnhbocceaaGreatDoorStr
import Derived.Deep.RegionWith
import Derived.Lib.ItoaNum
set_option linter.unusedSimpArgs false
set_option linter.unusedVariables false
namespace Go.Proofs.YtombnhnhbocceaaGreatDoor
open Go.RowKit

/-- A number in decimal, as a string. -/
def decB (n : Nat) : ByteArray := ⟨(Lib.decDigits n).toArray⟩
theorem dec_small (n : Nat) (h : n < 10) : Lib.decDigits n = [UInt8.ofNat (48 + n)] := by rw [Lib.decDigits, dif_pos h]
theorem dec_big (n : Nat) (h : ¬ n < 10) : Lib.decDigits n = Lib.decDigits (n / 10) ++ [UInt8.ofNat (48 + n % 10)] := by rw [Lib.decDigits, dif_neg h]
theorem digit_str : ∀ d : Fin 10, strOfNums [48 + ((d.val : Nat) : Int)] = ⟨#[UInt8.ofNat (48 + d.val)]⟩ := by decide
theorem digit_str' (d : Nat) (h : d < 10) : strOfNums [48 + (d : Int)] = ⟨#[UInt8.ofNat (48 + d)]⟩ := digit_str ⟨d, h⟩
theorem ba_eq {a b : ByteArray} (h : a.data.toList = b.data.toList) : a = b := by
  cases a; cases b
  simp only at h
  congr 1
  exact Array.toList_inj.1 h
theorem ba_append (a b : List UInt8) : (⟨a.toArray⟩ : ByteArray) ++ ⟨b.toArray⟩ = ⟨(a ++ b).toArray⟩ := ba_eq (by simp [ByteArray.data_append])
theorem decB_small (n : Nat) (h : n < 10) : strOfNums [48 + (n : Int)] = decB n := by rw [digit_str' n h, decB, dec_small n h]
theorem decB_big (n : Nat) (h : ¬ n < 10) : decB (n / 10) ++ strOfNums [48 + (n : Int) % 10] = decB n := by
  have e : (n : Int) % 10 = ((n % 10 : Nat) : Int) := rfl
  rw [e, digit_str' (n % 10) (Nat.mod_lt _ (by omega)), decB, decB, dec_big n h]
  exact ba_append _ [_]
theorem dec_len (k : Nat) : ∀ n, n < 10 ^ k → 1 ≤ k → (Lib.decDigits n).length ≤ k ∧ 1 ≤ (Lib.decDigits n).length := by
  induction k with
  | zero => intro n _ h; omega
  | succ k ih =>
    intro n h _
    by_cases h10 : n < 10
    · rw [dec_small n h10]; simp
    · rw [dec_big n h10]
      have hk : 1 ≤ k := by
        cases k with
        | zero => simp at h; omega
        | succ k => omega
      have := ih (n / 10) (by rw [Nat.pow_succ] at h; omega) hk
      simp; omega
theorem decB_size (n : Nat) (h : n ≤ 9223372036854775807) : (decB n).size ≤ 19 ∧ 1 ≤ (decB n).size := by
  have := dec_len 19 n (by omega) (by omega)
  simpa [decB, ByteArray.size] using this
/-- One byte in a row of its own, turned into a string, behind a call. -/
theorem conv_byte1' {w w1 : World} (x : Int) (h : Below (w.alloc (.cells #[.int .u8 x] 5)).heap.size (w.alloc (.cells #[.int .u8 x] 5)) w1) : (convert 22 9 (.slice (some ⟨w.heap.size, 0, none⟩) 1 1)).run Tryz.prog w1 = .ok (.string (strOfNums [x])) w1 := by
  have h1 := World.ownsRow_lit (base := 0) (e := 5) (size := 1) w #[.int .u8 x] 1 (Nat.zero_le _) (by simp [maxLen]) rfl
  have h2 : OwnRow bytRec (w.alloc (.cells #[.int .u8 x] 5)) 0 (.slice (some ⟨w.heap.size, 0, none⟩) 1 1) [x] := h1
  exact conv_bytes (lo := 0) (l := [x]) (OwnRow.below h2 h (Nat.le_refl _))
set_option maxRecDepth 100000 in
set_option maxHeartbeats 1600000 in
theorem l1Num_any (n : Nat) : ∀ w : World, n ≤ 9223372036854775807 →
    Calls Tryz.prog 62 #[.int .i64 n] w fun e w' => e = .returned (.string (decB n)) ∧ Below w.heap.size w w' := by
  induction n using Nat.strongRecOn with
  | ind n ih =>
    intro w hn
    by_cases h : n < 10
    · have hr := Lib.hid (decB_small n h)
      have hcv := conv_byte1 w (48 + (n : Int))
      have hX : Below w.heap.size w (w.alloc (.cells #[.int .u8 (48 + (n : Int))] 5)) := (Below.refl _ _).alloc (Nat.le_refl _) _
      clear ih
      go_enter Tryz.func62, Tryz.ntmps62
      go_wp2_with fail
      go_ret
      exact ⟨by rw [hr.out]; rfl, hX⟩
    · have hr := Lib.hid (decB_big n h)
      have IH : ∀ w : World, Calls Tryz.prog 62 #[.int .i64 ((n : Int) / 10)] w fun e w' => e = .returned (.string (decB (n / 10))) ∧ Below w.heap.size w w' := fun w => ih (n / 10) (by omega) w (by omega)
      have C := Lib.hid IH
      clear ih IH
      have hsz := decB_size (n / 10) (by omega)
      have hs1 : (strOfNums [48 + (n : Int) % 10]).size = 1 := rfl
      have hcv := fun w => conv_byte1 w (48 + (n : Int) % 10)
      have hcd : ∀ w : World, (convert 22 9 (.slice (some ⟨w.heap.size, 0, none⟩) 1 1)).run Tryz.prog (w.alloc (.cells #[.int .u8 (48 + (n : Int) % 10)] 5)).drew = .ok (.string (strOfNums [48 + (n : Int) % 10])) (w.alloc (.cells #[.int .u8 (48 + (n : Int) % 10)] 5)).drew := fun w => conv_byte1' (w := w) (48 + (n : Int) % 10) (Below.refl _ _).drew
      have e1 : IntKind.i64.wrap ((n : Int) / 10) = (n : Int) / 10 := IntWalk.i64_in _ (by omega)
      have e2 : (n : Int).tmod 10 = (n : Int) % 10 := Int.tmod_eq_emod_of_nonneg (by omega)
      have e3 : IntKind.i64.wrap (48 + (n : Int) % 10) = 48 + (n : Int) % 10 := IntWalk.i64_in _ (by omega)
      have e4 : IntKind.u8.wrap (48 + (n : Int) % 10) = 48 + (n : Int) % 10 := by rw [show IntKind.u8.wrap (48 + (n : Int) % 10) = (48 + (n : Int) % 10) % 256 from rfl]; omega
      go_enter Tryz.func62, Tryz.ntmps62
      go_upto_region 3 with fail
      go_region_with (go_at_call 62; refine (C.out _).mono ?_; rintro e w1 ⟨rfl, b1⟩; first | (have hcv1 : (convert 22 9 (.slice (some ⟨w.heap.size, 0, none⟩) 1 1)).run Tryz.prog w1 = .ok (.string (strOfNums [48 + (n : Int) % 10])) w1 := conv_byte1' (w := w) (48 + (n : Int) % 10) (((Below.refl _ _).drew).trans b1)) | skip)
      all_goals
        go_wp2_with fail
        go_ret
        refine ⟨by rw [hr.out]; rfl, ?_⟩
        first
          | exact ((Below.refl w.heap.size w).drew.trans b1).alloc b1.size _
          | exact (((Below.refl w.heap.size w).alloc (Nat.le_refl _) _).drew).next (by simp) b1
          | exact (((Below.refl w.heap.size w).alloc (Nat.le_refl _) _).drew).trans b1
end Go.Proofs.YtombnhnhbocceaaGreatDoor
