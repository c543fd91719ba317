/- ConflictText: rising lists; the text; contracts. -/
import Derived.Test.YtiondgflpimdmaaDoorNum
import Derived.Test.YtiondgflpimdmaaDoorHelp
import Derived.Test.YtiondgflpimdmaaDoorShelf
import Derived.Deep.DeepCutAuto
set_option linter.unusedSimpArgs false
set_option linter.unusedVariables false
namespace Go.Proofs.YtiondgflpimdmaaDoor
open Go.RowKit

def risOk (hi : Int) (l : List Int) (i : Nat) : Bool := inR (gi l i) 0 hi && ((i == 0) || decide (gi l (i - 1) < gi l i))
def isRis (hi : Int) (l : List Int) : Bool := (List.range l.length).all (risOk hi l)
theorem isRis_no {hi : Int} {l : List Int} {k : Nat} (hk : k < l.length) (h : risOk hi l k = false) : isRis hi l = false := by
  unfold isRis; rw [List.all_eq_false]; exact ⟨k, by simpa using hk, by rw [h]; decide⟩
def risTo (hi : Int) (l : List Int) (k : Nat) : Prop := ∀ i, i < k → risOk hi l i = true
theorem risTo_succ {hi : Int} {l : List Int} {k : Nat} (h : risTo hi l k) (hk : risOk hi l k = true) : risTo hi l (k + 1) := by
  intro i hi2
  rcases Nat.lt_succ_iff_lt_or_eq.1 hi2 with h1 | rfl
  · exact h i h1
  · exact hk
theorem isRis_yes {hi : Int} {l : List Int} (h : risTo hi l l.length) : isRis hi l = true := by
  unfold isRis; rw [List.all_eq_true]; intro i hi2; exact h i (by simpa using hi2)
theorem isRis_at {hi : Int} {l : List Int} (h : isRis hi l = true) (k : Nat) (hk : k < l.length) : 0 ≤ gi l k ∧ gi l k ≤ hi := by
  unfold isRis at h
  rw [List.all_eq_true] at h
  have := h k (by simpa using hk)
  unfold risOk at this
  simp only [Bool.and_eq_true] at this
  exact inR_t.1 this.1
theorem ris_1 {hi : Int} {l : List Int} {k : Nat} (h : inR (gi l k) 0 hi = false) : risOk hi l k = false := by unfold risOk; rw [h]; rfl
theorem ris_2 {hi : Int} {l : List Int} {k : Nat} (hk : 0 < k) (h : gi l k ≤ gi l (k - 1)) : risOk hi l k = false := by
  unfold risOk; rw [decide_eq_false (show ¬ gi l (k - 1) < gi l k by omega), show (k == 0) = false by simp; omega]; simp
theorem ris_3 {hi : Int} {l : List Int} (h : inR (gi l 0) 0 hi = true) : risOk hi l 0 = true := by unfold risOk; rw [h]; rfl
theorem ris_4 {hi : Int} {l : List Int} {k : Nat} (h : inR (gi l k) 0 hi = true) (h2 : gi l (k - 1) < gi l k) : risOk hi l k = true := by
  unfold risOk; rw [h, decide_eq_true h2]; simp
set_option maxRecDepth 100000 in
set_option maxHeartbeats 1600000 in
theorem arePer_any (v : Value) (l : List Int) (w : World) (h : IntsAt w v l) :
    Calls Tryd.prog 55 #[v, .int .i64 12] w fun e w' => e = .returned (.bool (isRis 11 l)) ∧ w = w' := by
  obtain ⟨A, c, rfl, hnc, hc63⟩ := h.shape
  go_enter Tryd.func55, Tryd.ntmps55
  go_wp2_with (go_at_call 59; refine (within_any _ _ _ _).mono ?_; rintro e w' ⟨rfl, rfl⟩)
  go_loop [9] (fun i => ∃ k : Nat, k ≤ l.length ∧ i = .int .i64 k ∧ risTo 11 l k) (fun i => l.length - (intOf i).toNat)
  case atStart => exact ⟨0, Nat.zero_le _, rfl, fun i hi => absurd hi (by omega)⟩
  case round =>
    obtain ⟨k, hk, rfl, hd⟩ := hrel
    by_cases hlt : k < l.length
    · obtain ⟨b, o, rfl, hc⟩ := h.at_ k hlt
      have hi0 : (0 : Int) ≤ (k : Int) := by omega
      have hi1 : (k : Int) < (l.length : Int) := by omega
      obtain ⟨x, hx⟩ : ∃ x, x = gi l k := ⟨_, rfl⟩
      rw [← hx] at hc
      have HX := Lib.hid hx
      clear hx
      have HD := Lib.hid hd
      clear hd
      rcases Nat.eq_zero_or_pos k with h0 | h0
      · subst h0
        simp at hc
        cases hin : inR x 0 11
        · have hr := Lib.hid (isRis_no hlt (ris_1 (hi := 11) (by rw [← HX.out]; exact hin)))
          go_wp2_with (go_at_call 59; refine (within_any _ _ _ _).mono ?_; rintro e w' ⟨rfl, rfl⟩)
          go_ret
          exact ⟨ret_bool hr.out.symm, rfl⟩
        · have hr := Lib.hid (risTo_succ HD.out (ris_3 (hi := 11) (by rw [← HX.out]; exact hin)))
          go_wp2_with (go_at_call 59; refine (within_any _ _ _ _).mono ?_; rintro e w' ⟨rfl, rfl⟩)
          go_round
          case rel => exact ⟨1, by omega, by go_num, hr.out⟩
          case measure => simp [intOf]; omega
      · obtain ⟨j, rfl⟩ : ∃ j, k = j + 1 := ⟨k - 1, by omega⟩
        obtain ⟨b2, o2, he, hc2⟩ := h.at_ j (by omega)
        injection he with he; injection he with e1 e2; subst e1 e2
        obtain ⟨y, hy⟩ : ∃ y, y = gi l j := ⟨_, rfl⟩
        rw [← hy] at hc2
        have HY := Lib.hid hy
        clear hy
        have hw1 : IntKind.i64.wrap (((j + 1 : Nat) : Int) - 1) = (j : Int) := (IntWalk.i64_in _ (by omega)).trans (by omega)
        have hw2 : ((j + 1 : Nat) : Int) - 1 = (j : Int) := by omega
        have hgt : (0 : Int) < ((j + 1 : Nat) : Int) := by omega
        have hj0 : (0 : Int) ≤ (j : Int) := by omega
        have hj1 : (j : Int) < (l.length : Int) := by omega
        obtain ⟨K, hK⟩ : ∃ K, K = j + 1 := ⟨_, rfl⟩
        have hKi : ((j + 1 : Nat) : Int) = (K : Int) := by rw [hK]
        have hKi2 : (j : Int) + 1 = (K : Int) := by omega
        cases hin : inR x 0 11
        · have hr := Lib.hid (isRis_no hlt (ris_1 (hi := 11) (by rw [← HX.out]; exact hin)))
          clear hw1 hw2
          go_wp2_with (go_at_call 59; refine (within_any _ _ _ _).mono ?_; rintro e w' ⟨rfl, rfl⟩)
          go_ret
          exact ⟨ret_bool hr.out.symm, rfl⟩
        · by_cases hge : x ≤ y
          · have hr := Lib.hid (isRis_no hlt (ris_2 (hi := 11) (by omega) (by rw [Nat.add_sub_cancel, ← HX.out, ← HY.out]; exact hge)))
            clear hKi hKi2 hK
            go_wp2_with (go_at_call 59; refine (within_any _ _ _ _).mono ?_; rintro e w' ⟨rfl, rfl⟩)
            go_ret
            exact ⟨ret_bool hr.out.symm, rfl⟩
          · have hr := Lib.hid (risTo_succ HD.out (ris_4 (hi := 11) (by rw [← HX.out]; exact hin) (by rw [Nat.add_sub_cancel, ← HX.out, ← HY.out]; omega)))
            clear hKi hKi2 hK
            go_wp2_with (go_at_call 59; refine (within_any _ _ _ _).mono ?_; rintro e w' ⟨rfl, rfl⟩)
            go_round
            case rel => exact ⟨j + 1 + 1, by omega, by go_num, hr.out⟩
            case measure => simp [intOf]; omega
    · obtain rfl : k = l.length := by omega
      have hr := Lib.hid (isRis_yes hd)
      go_wp2_with fail
      go_ret
      exact ⟨ret_bool hr.out.symm, rfl⟩
set_option maxRecDepth 100000 in
set_option maxHeartbeats 1600000 in
theorem l1Rising_any (v : Value) (l : List Int) (w : World) (h : IntsAt w v l) :
    Calls Tryd.prog 57 #[v, .int .i64 0, .int .i64 11] w fun e w' => e = .returned (.bool (isRis 11 l)) ∧ w = w' := by
  obtain ⟨A, c, rfl, hnc, hc63⟩ := h.shape
  go_enter Tryd.func57, Tryd.ntmps57
  go_wp2_with (go_at_call 70; refine (l1In_any _ _ _ _).mono ?_; rintro e w' ⟨rfl, rfl⟩)
  go_loop [11] (fun i => ∃ k : Nat, k ≤ l.length ∧ i = .int .i64 k ∧ risTo 11 l k) (fun i => l.length - (intOf i).toNat)
  case atStart => exact ⟨0, Nat.zero_le _, rfl, fun i hi => absurd hi (by omega)⟩
  case round =>
    obtain ⟨k, hk, rfl, hd⟩ := hrel
    by_cases hlt : k < l.length
    · obtain ⟨b, o, rfl, hc⟩ := h.at_ k hlt
      have hi0 : (0 : Int) ≤ (k : Int) := by omega
      have hi1 : (k : Int) < (l.length : Int) := by omega
      obtain ⟨x, hx⟩ : ∃ x, x = gi l k := ⟨_, rfl⟩
      rw [← hx] at hc
      have HX := Lib.hid hx
      clear hx
      have HD := Lib.hid hd
      clear hd
      rcases Nat.eq_zero_or_pos k with h0 | h0
      · subst h0
        simp at hc
        cases hin : inR x 0 11
        · have hr := Lib.hid (isRis_no hlt (ris_1 (hi := 11) (by rw [← HX.out]; exact hin)))
          go_wp2_with (go_at_call 70; refine (l1In_any _ _ _ _).mono ?_; rintro e w' ⟨rfl, rfl⟩)
          go_ret
          exact ⟨ret_bool hr.out.symm, rfl⟩
        · have hr := Lib.hid (risTo_succ HD.out (ris_3 (hi := 11) (by rw [← HX.out]; exact hin)))
          go_wp2_with (go_at_call 70; refine (l1In_any _ _ _ _).mono ?_; rintro e w' ⟨rfl, rfl⟩)
          go_round
          case rel => exact ⟨1, by omega, by go_num, hr.out⟩
          case measure => simp [intOf]; omega
      · obtain ⟨j, rfl⟩ : ∃ j, k = j + 1 := ⟨k - 1, by omega⟩
        obtain ⟨b2, o2, he, hc2⟩ := h.at_ j (by omega)
        injection he with he; injection he with e1 e2; subst e1 e2
        obtain ⟨y, hy⟩ : ∃ y, y = gi l j := ⟨_, rfl⟩
        rw [← hy] at hc2
        have HY := Lib.hid hy
        clear hy
        have hw1 : IntKind.i64.wrap (((j + 1 : Nat) : Int) - 1) = (j : Int) := (IntWalk.i64_in _ (by omega)).trans (by omega)
        have hw2 : ((j + 1 : Nat) : Int) - 1 = (j : Int) := by omega
        have hgt : (0 : Int) < ((j + 1 : Nat) : Int) := by omega
        have hj0 : (0 : Int) ≤ (j : Int) := by omega
        have hj1 : (j : Int) < (l.length : Int) := by omega
        obtain ⟨K, hK⟩ : ∃ K, K = j + 1 := ⟨_, rfl⟩
        have hKi : ((j + 1 : Nat) : Int) = (K : Int) := by rw [hK]
        have hKi2 : (j : Int) + 1 = (K : Int) := by omega
        cases hin : inR x 0 11
        · have hr := Lib.hid (isRis_no hlt (ris_1 (hi := 11) (by rw [← HX.out]; exact hin)))
          clear hw1 hw2
          go_wp2_with (go_at_call 70; refine (l1In_any _ _ _ _).mono ?_; rintro e w' ⟨rfl, rfl⟩)
          go_ret
          exact ⟨ret_bool hr.out.symm, rfl⟩
        · by_cases hge : x ≤ y
          · have hr := Lib.hid (isRis_no hlt (ris_2 (hi := 11) (by omega) (by rw [Nat.add_sub_cancel, ← HX.out, ← HY.out]; exact hge)))
            clear hKi hKi2 hK
            go_wp2_with (go_at_call 70; refine (l1In_any _ _ _ _).mono ?_; rintro e w' ⟨rfl, rfl⟩)
            go_ret
            exact ⟨ret_bool hr.out.symm, rfl⟩
          · have hr := Lib.hid (risTo_succ HD.out (ris_4 (hi := 11) (by rw [← HX.out]; exact hin) (by rw [Nat.add_sub_cancel, ← HX.out, ← HY.out]; omega)))
            clear hKi hKi2 hK
            go_wp2_with (go_at_call 70; refine (l1In_any _ _ _ _).mono ?_; rintro e w' ⟨rfl, rfl⟩)
            go_round
            case rel => exact ⟨j + 1 + 1, by omega, by go_num, hr.out⟩
            case measure => simp [intOf]; omega
    · obtain rfl : k = l.length := by omega
      have hr := Lib.hid (isRis_yes hd)
      go_wp2_with fail
      go_ret
      exact ⟨ret_bool hr.out.symm, rfl⟩
def noConfB : ByteArray := ⟨#[110, 111, 32, 99, 111, 110, 102, 108, 105, 99, 116]⟩
def confB : ByteArray := ⟨#[99, 111, 110, 102, 108, 105, 99, 116, 32, 97, 116]⟩
def cStr (l : List Int) : Nat → ByteArray
  | 0 => confB
  | n + 1 => cStr l n ++ (if n = 0 then ⟨#[32]⟩ else ⟨#[44, 32]⟩) ++ decB (gi l n).toNat
def TextPost2 (w : World) (r : ByteArray × Bool) (e : Ending) (w' : World) : Prop := e = .returned (.tuple #[.string r.1, .bool r.2]) ∧ Below w.heap.size w w'
def cTextR (l : List Int) : ByteArray × Bool := if isRis 11 l then (if l.length = 0 then noConfB else cStr l l.length, true) else (⟨#[]⟩, false)
theorem cTextR_no {l : List Int} (h : isRis 11 l = false) : cTextR l = (⟨#[]⟩, false) := by unfold cTextR; rw [h]; rfl
theorem cTextR_0 {l : List Int} (h : l.length = 0) : cTextR l = (noConfB, true) := by
  obtain rfl := List.eq_nil_of_length_eq_zero h; rfl
theorem cTextR_yes {l : List Int} (h : isRis 11 l = true) (h0 : l.length ≠ 0) : cTextR l = (cStr l l.length, true) := by unfold cTextR; rw [h, if_pos rfl, if_neg h0]
theorem cStr_size {l : List Int} (h : isRis 11 l = true) (n : Nat) (hn : n ≤ l.length) : (cStr l n).size ≤ 20 + 21 * n ∧ 11 ≤ (cStr l n).size := by
  induction n with
  | zero => exact ⟨by show confB.size ≤ 20; decide, by show 11 ≤ confB.size; decide⟩
  | succ n ih =>
    have i := ih (by omega)
    have hb := isRis_at h n (by omega)
    have hd := decB_size (gi l n).toNat (by omega)
    have e1 : (⟨#[32]⟩ : ByteArray).size = 1 := rfl
    have e2 : (⟨#[44, 32]⟩ : ByteArray).size = 2 := rfl
    show (cStr l n ++ _ ++ _).size ≤ _ ∧ _ ≤ (cStr l n ++ _ ++ _).size
    simp only [ByteArray.size_append]
    split <;> omega
theorem cStr_1 {l : List Int} {K : Nat} (h : gi l 0 = K) : (⟨#[99, 111, 110, 102, 108, 105, 99, 116, 32, 97, 116, 32]⟩ : ByteArray) ++ decB K = cStr l 1 := by
  show _ = confB ++ (if 0 = 0 then (⟨#[32]⟩ : ByteArray) else ⟨#[44, 32]⟩) ++ decB (gi l 0).toNat
  rw [h, Int.toNat_natCast, if_pos rfl]; rfl
theorem cStr_2 {l : List Int} {n K : Nat} (h0 : 0 < n) (h : gi l n = K) : cStr l n ++ ⟨#[44, 32]⟩ ++ decB K = cStr l (n + 1) := by
  show _ = cStr l n ++ (if n = 0 then (⟨#[32]⟩ : ByteArray) else ⟨#[44, 32]⟩) ++ decB (gi l n).toNat
  rw [h, Int.toNat_natCast, if_neg (by omega)]
theorem cStr_3 {l : List Int} {K : Nat} (h : gi l 0 = K) : confB ++ ((⟨#[32]⟩ : ByteArray) ++ decB K) = cStr l 1 := by
  rw [← cStr_1 h]; exact ba_eq (by simp [ByteArray.data_append, confB])
theorem cStr_4 {l : List Int} {n K : Nat} (h0 : 0 < n) (h : gi l n = K) : cStr l n ++ ⟨#[44]⟩ ++ ((⟨#[32]⟩ : ByteArray) ++ decB K) = cStr l (n + 1) := by
  rw [← cStr_2 h0 h]; exact ba_eq (by simp [ByteArray.data_append])
def cIm (l : List Int) (n : Nat) : ByteArray := if n = 0 then ⟨#[99, 111, 110, 102, 108, 105, 99, 116, 32, 97, 116, 32]⟩ else cStr l n
theorem cIm_0 (l : List Int) : cIm l 0 = ⟨#[99, 111, 110, 102, 108, 105, 99, 116, 32, 97, 116, 32]⟩ := rfl
theorem cIm_s (l : List Int) (n : Nat) (h : 0 < n) : cIm l n = cStr l n := by unfold cIm; rw [if_neg (by omega)]
set_option maxRecDepth 100000 in
set_option maxHeartbeats 3200000 in
theorem implConfT (v : Value) (l : List Int) (w : World) (h : IntsAt w v l) (hl : l.length ≤ 1048576) :
    Calls Tryd.prog 21 #[v] w (TextPost2 w (cTextR l)) := by
  obtain ⟨A, c, rfl, hnc, hc63⟩ := h.shape
  have CR := Lib.hid (arePer_any _ l w h)
  cases hv : isRis 11 l
  · have hr := Lib.hid (cTextR_no hv)
    rw [hv] at CR
    go_enter Tryd.func21, Tryd.ntmps21
    go_wp2_with fail
    refine CR.out.mono ?_; rintro e _ ⟨rfl, rfl⟩
    go_wp2_with fail
    go_ret2
    exact ⟨by rw [hr.out]; rfl, Below.refl _ _⟩
  rw [hv] at CR
  have Hv := Lib.hid hv
  clear hv
  rcases Nat.eq_zero_or_pos l.length with h0 | h0
  · have hr := Lib.hid (cTextR_0 h0)
    obtain rfl := List.eq_nil_of_length_eq_zero h0
    simp only [List.length_nil] at CR ⊢
    clear h0 hnc h
    go_enter Tryd.func21, Tryd.ntmps21
    go_wp2_with fail
    refine CR.out.mono ?_; rintro e _ ⟨rfl, rfl⟩
    go_wp2_with fail
    go_ret2
    exact ⟨by rw [hr.out]; rfl, Below.refl _ _⟩
  have hr := Lib.hid (cTextR_yes Hv.out (by omega))
  have hnz : ((l.length : Int) == 0) = false := by rw [beq_eq_false_iff_ne]; omega
  go_enter Tryd.func21, Tryd.ntmps21
  go_wp2_with fail
  refine CR.out.mono ?_; rintro e _ ⟨rfl, rfl⟩
  go_wp2_with fail
  go_loopw [4, 15] (fun s i wr => ∃ n : Nat, n ≤ l.length ∧ s = .string (cIm l n) ∧ i = .int .i64 n ∧ Below w.heap.size w wr) (fun _ i _ => l.length - (intOf i).toNat)
  case atStart => exact ⟨0, Nat.zero_le _, rfl, rfl, Below.refl _ _⟩
  case round =>
    obtain ⟨n, hn, rfl, rfl, hb⟩ := hrel
    obtain ⟨sz, sz0⟩ := cStr_size Hv.out n hn
    by_cases hlt : n < l.length
    · obtain ⟨b, o, rfl, hc⟩ := IntsAt.at_ (h.below hb (Nat.le_refl _)) n hlt
      obtain ⟨x0, x1⟩ := isRis_at Hv.out n hlt
      obtain ⟨K, hK⟩ := Int.eq_ofNat_of_zero_le x0
      rw [hK] at hc x1
      have hK11 : K ≤ 11 := by omega
      obtain ⟨szK, szK0⟩ := decB_size K (by omega)
      have HK := Lib.hid hK
      clear hK x0
      have hi0 : (0 : Int) ≤ (n : Int) := by omega
      have hi1 : (n : Int) < (l.length : Int) := by omega
      have CN : Hid (∀ W, Calls Tryd.prog 56 #[.int .i64 (K : Nat)] W fun e w' => e = .returned (.string (decB K)) ∧ Below W.heap.size W w') := fun W => (Tryd.strconv_Itoa_small K (by omega) W).mono (fun _ _ ⟨a, b⟩ => ⟨a, by rw [b]; exact Below.refl _ _⟩)
      have s1 : (⟨#[32]⟩ : ByteArray).size = 1 := rfl
      have s2 : (⟨#[44]⟩ : ByteArray).size = 1 := rfl
      have s3 : (⟨#[44, 32]⟩ : ByteArray).size = 2 := rfl
      have s4 : (⟨#[99, 111, 110, 102, 108, 105, 99, 116, 32, 97, 116, 32]⟩ : ByteArray).size = 12 := rfl
      have s5 : confB.size = 11 := rfl
      rcases Nat.eq_zero_or_pos n with hn0 | hn0
      · subst hn0
        simp at hc
        have HE := Lib.hid (cStr_1 HK.out)
        rw [cIm_0]
        go_wp2_with fail
        refine (CN.out _).mono ?_; rintro e w2 ⟨rfl, b2⟩
        go_wp2_with fail
        go_roundw
        case rel => exact ⟨0 + 1, by omega, by rw [cIm_s l _ (Nat.succ_pos _), ← HE.out], by go_num, hb.next (Nat.le_refl _) b2⟩
        case measure => simp [intOf]; omega
      · have hgt : (0 : Int) < (n : Int) := by omega
        have HE := Lib.hid (cStr_2 hn0 HK.out)
        rw [cIm_s l n hn0]
        go_wp2_with fail
        refine (CN.out _).mono ?_; rintro e w2 ⟨rfl, b2⟩
        go_wp2_with fail
        go_roundw
        case rel => exact ⟨n + 1, by omega, by rw [cIm_s l _ (Nat.succ_pos _), ← HE.out], by go_num, hb.next (Nat.le_refl _) b2⟩
        case measure => simp [intOf]; omega
    · obtain rfl : n = l.length := by omega
      go_wp2_with fail
      go_ret2
      exact ⟨by rw [hr.out, ← cIm_s l l.length h0]; rfl, hb⟩
set_option maxRecDepth 100000 in
set_option maxHeartbeats 3200000 in
theorem specConfT (v : Value) (l : List Int) (w : World) (h : IntsAt w v l) (hl : l.length ≤ 1048576) :
    Calls Tryd.prog 22 #[v] w (TextPost2 w (cTextR l)) := by
  obtain ⟨A, c, rfl, hnc, hc63⟩ := h.shape
  have CR := Lib.hid (l1Rising_any _ l w h)
  cases hv : isRis 11 l
  · have hr := Lib.hid (cTextR_no hv)
    rw [hv] at CR
    go_enter Tryd.func22, Tryd.ntmps22
    go_wp2_with fail
    refine CR.out.mono ?_; rintro e _ ⟨rfl, rfl⟩
    go_wp2_with fail
    go_ret2
    exact ⟨by rw [hr.out]; rfl, Below.refl _ _⟩
  rw [hv] at CR
  have Hv := Lib.hid hv
  clear hv
  rcases Nat.eq_zero_or_pos l.length with h0 | h0
  · have hr := Lib.hid (cTextR_0 h0)
    obtain rfl := List.eq_nil_of_length_eq_zero h0
    simp only [List.length_nil] at CR ⊢
    clear h0 hnc h
    go_enter Tryd.func22, Tryd.ntmps22
    go_wp2_with fail
    refine CR.out.mono ?_; rintro e _ ⟨rfl, rfl⟩
    go_wp2_with fail
    go_ret2
    exact ⟨by rw [hr.out]; rfl, Below.refl _ _⟩
  have hr := Lib.hid (cTextR_yes Hv.out (by omega))
  have hnz : ((l.length : Int) == 0) = false := by rw [beq_eq_false_iff_ne]; omega
  go_enter Tryd.func22, Tryd.ntmps22
  go_wp2_with fail
  refine CR.out.mono ?_; rintro e _ ⟨rfl, rfl⟩
  go_wp2_with fail
  go_loopw [4, 15] (fun s i wr => ∃ n : Nat, n ≤ l.length ∧ s = .string (cStr l n) ∧ i = .int .i64 n ∧ Below w.heap.size w wr) (fun _ i _ => l.length - (intOf i).toNat)
  case atStart => exact ⟨0, Nat.zero_le _, rfl, rfl, Below.refl _ _⟩
  case round =>
    obtain ⟨n, hn, rfl, rfl, hb⟩ := hrel
    obtain ⟨sz, sz0⟩ := cStr_size Hv.out n hn
    by_cases hlt : n < l.length
    · obtain ⟨b, o, rfl, hc⟩ := IntsAt.at_ (h.below hb (Nat.le_refl _)) n hlt
      obtain ⟨x0, x1⟩ := isRis_at Hv.out n hlt
      obtain ⟨K, hK⟩ := Int.eq_ofNat_of_zero_le x0
      rw [hK] at hc x1
      have hK11 : K ≤ 11 := by omega
      obtain ⟨szK, szK0⟩ := decB_size K (by omega)
      have HK := Lib.hid hK
      clear hK x0
      have hi0 : (0 : Int) ≤ (n : Int) := by omega
      have hi1 : (n : Int) < (l.length : Int) := by omega
      have CN : Hid (∀ W, Calls Tryd.prog 58 #[.int .i64 (K : Nat)] W fun e w' => e = .returned (.string (decB K)) ∧ Below W.heap.size W w') := fun W => l1Num_any K W (by omega)
      have s1 : (⟨#[32]⟩ : ByteArray).size = 1 := rfl
      have s2 : (⟨#[44]⟩ : ByteArray).size = 1 := rfl
      have s3 : (⟨#[44, 32]⟩ : ByteArray).size = 2 := rfl
      have s4 : (⟨#[99, 111, 110, 102, 108, 105, 99, 116, 32, 97, 116, 32]⟩ : ByteArray).size = 12 := rfl
      have s5 : confB.size = 11 := rfl
      rcases Nat.eq_zero_or_pos n with hn0 | hn0
      · subst hn0
        simp at hc
        have HE := Lib.hid (cStr_3 HK.out)
        rw [show cStr l 0 = confB from rfl]
        go_wp2_with fail
        refine (CN.out _).mono ?_; rintro e w2 ⟨rfl, b2⟩
        go_wp2_with fail
        go_roundw
        case rel => exact ⟨0 + 1, by omega, by rw [← HE.out], by go_num, hb.next (Nat.le_refl _) b2⟩
        case measure => simp [intOf]; omega
      · have hgt : (0 : Int) < (n : Int) := by omega
        have HE := Lib.hid (cStr_4 hn0 HK.out)
        go_wp2_with fail
        refine (CN.out _).mono ?_; rintro e w2 ⟨rfl, b2⟩
        go_wp2_with fail
        go_roundw
        case rel => exact ⟨n + 1, by omega, by rw [← HE.out], by go_num, hb.next (Nat.le_refl _) b2⟩
        case measure => simp [intOf]; omega
    · obtain rfl : n = l.length := by omega
      go_wp2_with fail
      go_ret2
      exact ⟨by rw [hr.out]; rfl, hb⟩
end Go.Proofs.YtiondgflpimdmaaDoor
