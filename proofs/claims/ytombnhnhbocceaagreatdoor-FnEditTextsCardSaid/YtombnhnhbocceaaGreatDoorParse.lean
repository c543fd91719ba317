/- Contracts of the functions that read texts: l1Split, natural, l1Read. -/
import Derived.Test.YtombnhnhbocceaaGreatDoorSplit
import Derived.Deep.DeepCutAuto
set_option linter.unusedSimpArgs false
set_option linter.unusedVariables false
namespace Go.Proofs.YtombnhnhbocceaaGreatDoor
open Go.RowKit

def bN (s : ByteArray) (k : Nat) : Nat := (s.data.toList.getD k 0).toNat
theorem bN_eq {s : ByteArray} {k : Nat} (h : k < s.size) : (s[k]).toNat = bN s k := by
  unfold bN
  rw [List.getD_eq_getElem?_getD, List.getElem?_eq_getElem (by simpa using h)]
  rfl
theorem bN_get {s : ByteArray} {k : Nat} (h : k < s.size) : ∃ x : UInt8, s.data.toList[k]? = some x ∧ x.toNat = bN s k := by
  have h2 : k < s.data.toList.length := by rw [len_data]; exact h
  refine ⟨s.data.toList[k], List.getElem?_eq_getElem h2, ?_⟩
  unfold bN
  rw [List.getD_eq_getElem?_getD, List.getElem?_eq_getElem h2]; rfl
theorem extract_list (s : ByteArray) (a b : Nat) : (s.extract a b).data.toList = (s.data.toList.take b).drop a := by
  rw [Lib.extract_data, List.drop_take]
theorem u8_inj {x y : UInt8} (h : x.toNat = y.toNat) : x = y := by
  rw [← UInt8.ofNat_toNat (x := x), ← UInt8.ofNat_toNat (x := y), h]
set_option maxRecDepth 100000 in
set_option maxHeartbeats 3200000 in
theorem l1Split_any (s : ByteArray) (c : UInt8) (k : Int) (hk : (c.toNat : Int) = k) (w : World) (hs : s.size ≤ 4194304) :
    Calls Tryz.prog 53 #[.string s, .int .u8 k] w (FreshRow strRec w (splB c s)) := by
  subst hk
  have hc255 : c.toNat < 256 := c.toNat_lt
  obtain ⟨cn, hcn⟩ : ∃ n, n = c.toNat := ⟨_, rfl⟩
  have HC := Lib.hid hcn
  rw [← hcn] at hc255 ⊢
  clear hcn
  go_enter Tryz.func53, Tryz.ntmps53
  go_wp2_with fail
  go_loopg [5, 6, 7] s.size (fun g t a b wr => ∃ (n st : Nat) (L : List ByteArray), n ≤ s.size ∧ s.size ≤ n + g ∧ st ≤ n ∧ L.length ≤ n ∧ a = .int .i64 st ∧ b = .int .i64 n ∧ Hid (SplAt c s.data.toList n L st) ∧ OwnRow strRec wr w.heap.size t L ∧ Below w.heap.size w wr)
  case atStart => exact ⟨0, 0, [], Nat.zero_le _, by omega, Nat.le_refl _, Nat.le_refl _, rfl, rfl, SplAt.zero _ _, OwnRow.nil_ strRec w _, Below.refl _ _⟩
  case round =>
    obtain ⟨n, st, L, hn, hng, hst, hL, rfl, rfl, hi, ho, hb⟩ := hrel
    by_cases hlt : n < s.size
    · obtain ⟨x, hx, hxn⟩ := bN_get hlt
      obtain ⟨m, hm⟩ : ∃ m, m = bN s n := ⟨_, rfl⟩
      have hb9 : (s[n]).toNat = m := by rw [hm]; exact bN_eq hlt
      rw [← hm] at hxn
      clear hm
      have Hx := Lib.hid hx
      have Hxn := Lib.hid hxn
      clear hx hxn
      by_cases he : m = cn
      · have hxc : x = c := u8_inj (by rw [Hxn.out, he, HC.out])
        subst he
        have hi2 := Lib.hid (SplAt.close hi.out (by rw [Hx.out, hxc]) (extract_list s st n))
        have hsl : (Instr.slice 9 (.string s) (some (.int .i64 st)) (some (.int .i64 n)) none).run Tryz.prog wr = .ok (.string (s.extract st n)) wr := by
          have h9 := run_slice_string (P := Tryz.prog) wr 9 s .i64 .i64 (st : Int) (n : Int) Tryz.underlying9 (by omega) (by omega) (by omega)
          rw [show ((st : Int)).toNat = st from by omega, show ((n : Int)).toNat = n from by omega] at h9
          exact h9
        have h9 : L.length + 1 ≤ 1099511627776 := by omega
        have hsz := hb.size
        clear hxc
        go_wp2_with (at_builtin; refine wp_app_str _ rfl _ _ rfl w.heap.size _ L rfl ho (s.extract st n) _ rfl rfl h9 hsz ?_; intro v5 w5 ho5 hg5)
        go_roundg (gk - 1)
        case measure => omega
        case rel => exact ⟨n + 1, n + 1, L ++ [s.extract st n], by omega, by omega, Nat.le_refl _, by simp; omega, by go_num, by go_num, hi2, ho5, hb.trans hg5.below⟩
      · have hi2 := Lib.hid (SplAt.on hi.out Hx.out (fun e => he (by rw [← Hxn.out, e, HC.out])))
        have hne : ((m : Int) == (cn : Int)) = false := by simp; omega
        go_wp2_with fail
        go_roundg (gk - 1)
        case measure => omega
        case rel => exact ⟨n + 1, st, L, by omega, by omega, by omega, by omega, rfl, by go_num, hi2, ho, hb⟩
    · obtain rfl : n = s.size := by omega
      have hsl : (Instr.slice 9 (.string s) (some (.int .i64 st)) none none).run Tryz.prog wr = .ok (.string (s.extract st s.size)) wr := by
        have h9 := run_slice_string_l (P := Tryz.prog) (w := wr) (t := 9) (s := s) Tryz.underlying9 .i64 (st : Int) (by omega) (by omega)
        rw [show ((st : Int)).toNat = st from by omega] at h9
        exact h9
      have hfin : Hid (L ++ [s.extract st s.size] = splB c s) := SplAt.all (by rw [len_data]; exact hi.out) (by rw [extract_list, ← len_data, List.take_length])
      have h9 : L.length + 1 ≤ 1099511627776 := by omega
      have hsz := hb.size
      go_wp2_with (at_builtin; refine wp_app_str _ rfl _ _ rfl w.heap.size _ L rfl ho (s.extract st s.size) _ rfl rfl h9 hsz ?_; intro v5 w5 ho5 hg5)
      go_ret
      exact ⟨_, rfl, by rw [← hfin.out]; exact ho5, hb.trans hg5.below⟩
theorem head_bN {s : ByteArray} (h : 0 < s.size) : (s.data.toList.head? == some 48) = decide (bN s 0 = 48) := by
  obtain ⟨x, hx, hn⟩ := bN_get h
  have e : s.data.toList.head? = some x := by rw [List.head?_eq_getElem?]; exact hx
  rw [e, ← hn]
  by_cases h9 : x = 48
  · subst h9; rfl
  · have : x.toNat ≠ 48 := fun e9 => h9 (u8_inj e9)
    simp [h9, this]
/-- All digits ahead of an index. -/
def digTo (s : ByteArray) (m : Nat) : Prop := (s.data.toList.take m).all isDig = true
theorem digTo_succ {s : ByteArray} {m : Nat} (h : digTo s m) (hm : m < s.size) (h1 : 48 ≤ bN s m) (h2 : bN s m ≤ 57) : digTo s (m + 1) ∧ numV (s.data.toList.take (m + 1)) = 10 * numV (s.data.toList.take m) + (bN s m - 48) := by
  obtain ⟨x, hx, hn⟩ := bN_get hm
  have e : s.data.toList.take (m + 1) = s.data.toList.take m ++ [x] := by rw [List.take_add_one, hx]; rfl
  rw [digTo, e, numV_snoc, List.all_append, h, hn]
  refine ⟨?_, rfl⟩
  unfold isDig
  simp [hn, h1, h2]
theorem notDig {s : ByteArray} {m : Nat} (hm : m < s.size) (h : bN s m < 48 ∨ 57 < bN s m) (k : Nat) : isNumB k s.data.toList = false := by
  obtain ⟨x, hx, hn⟩ := bN_get hm
  have : s.data.toList.all isDig = false := by
    rw [List.all_eq_false]
    refine ⟨x, List.mem_of_getElem? hx, ?_⟩
    unfold isDig
    rw [hn]; simp; omega
  unfold isNumB
  rw [this]; simp
theorem num_head {s : ByteArray} (k : Nat) (h1 : 1 < s.size) (h : bN s 0 = 48) : isNumB k s.data.toList = false := by
  unfold isNumB
  rw [head_bN (by omega), h, len_data, decide_eq_true h1]; simp
theorem num_len {s : ByteArray} (k : Nat) (h : ¬ (1 ≤ s.size ∧ s.size ≤ k)) : isNumB k s.data.toList = false := by
  unfold isNumB
  rw [len_data]
  by_cases h1 : 1 ≤ s.size
  · have : ¬ s.size ≤ k := fun e => h ⟨h1, e⟩
    simp [this]
  · simp [h1]
theorem num_yes {s : ByteArray} (k : Nat) (h1 : 1 ≤ s.size) (h2 : s.size ≤ k) (h3 : s.size = 1 ∨ bN s 0 ≠ 48) (h4 : digTo s s.size) : isNumB k s.data.toList = true := by
  have h5 : s.data.toList.all isDig = true := by
    have := h4
    unfold digTo at this
    rwa [← len_data, List.take_length] at this
  unfold isNumB
  rw [len_data, head_bN (by omega), h5]
  rcases h3 with h3 | h3
  · simp [h3]; omega
  · simp [h1, h2, h3]
/-- What natural yields. -/
def natR (s : ByteArray) : Nat × Bool := if isNumB 9 s.data.toList then (numV s.data.toList, true) else (0, false)
theorem natR_no {s : ByteArray} (h : isNumB 9 s.data.toList = false) : natR s = (0, false) := by unfold natR; rw [h]; rfl
theorem natR_yes {s : ByteArray} (h : isNumB 9 s.data.toList = true) : natR s = (numV s.data.toList, true) := by unfold natR; rw [h]; rfl
def rdR (s : ByteArray) : Int := if isNumB 6 s.data.toList then (numV s.data.toList : Nat) else -1
theorem rdR_no {s : ByteArray} (h : isNumB 6 s.data.toList = false) : rdR s = -1 := by unfold rdR; rw [h]; rfl
theorem rdR_yes {s : ByteArray} (h : isNumB 6 s.data.toList = true) : rdR s = (numV s.data.toList : Nat) := by unfold rdR; rw [h]; rfl
theorem empty_of_size {s : ByteArray} (h : s.size = 0) : s = ⟨#[]⟩ := ba_eq (List.eq_nil_of_length_eq_zero (by rw [len_data]; exact h))
theorem ne_empty {s : ByteArray} (h : 0 < s.size) : (s.toList == (⟨#[]⟩ : ByteArray).toList) = false := by
  rw [ByteArray.toList_eq, ByteArray.toList_eq]
  cases hs : s.data.toList with
  | nil => have := len_data s; rw [hs] at this; simp at this; omega
  | cons x l => rfl
theorem ne_empty2 {s : ByteArray} (h : 0 < s.size) : s.toList.isEmpty = false := by
  rw [ByteArray.toList_eq]
  cases hs : s.data.toList with
  | nil => have := len_data s; rw [hs] at this; simp at this; omega
  | cons x l => rfl
theorem pow_bd {a m k : Nat} (h : a < 10 ^ m) (hm : m ≤ k) : a < 10 ^ k := Nat.lt_of_lt_of_le h (Nat.pow_le_pow_right (by omega) hm)
set_option maxRecDepth 100000 in
set_option maxHeartbeats 3200000 in
theorem natural_any (s : ByteArray) (w : World) (hs : s.size ≤ 9223372036854775807) :
    Calls Tryz.prog 38 #[.string s] w fun e w' => e = .returned (.tuple #[.int .i64 ((natR s).1 : Nat), .bool (natR s).2]) ∧ w = w' := by
  rcases Nat.eq_zero_or_pos s.size with h0 | h0
  · obtain rfl := empty_of_size h0
    have hr := Lib.hid (natR_no (s := ⟨#[]⟩) (num_len 9 (by intro h; exact absurd h.1 (by decide))))
    clear h0 hs
    go_enter Tryz.func38, Tryz.ntmps38
    go_wp2_with (fail)
    go_ret2
    exact ⟨by rw [hr.out]; rfl, rfl⟩
  have hne := ne_empty2 h0
  by_cases hl : 9 < s.size
  · have hr := Lib.hid (natR_no (num_len (s := s) 9 (by omega)))
    go_enter Tryz.func38, Tryz.ntmps38
    go_wp2_with (fail)
    go_ret2
    exact ⟨by rw [hr.out]; rfl, rfl⟩
  obtain ⟨z, hz⟩ : ∃ z, z = bN s 0 := ⟨_, rfl⟩
  have hz9 : (s[0]).toNat = z := by rw [hz]; exact bN_eq h0
  have HZ := Lib.hid hz
  clear hz
  have hz255 : z < 256 := by rw [← hz9]; exact UInt8.toNat_lt _
  by_cases h1 : 1 < s.size ∧ z = 48
  · obtain ⟨h1, rfl⟩ := h1
    have hr := Lib.hid (natR_no (num_head (s := s) 9 h1 HZ.out.symm))
    go_enter Tryz.func38, Tryz.ntmps38
    go_wp2_with (fail)
    go_ret2
    exact ⟨by rw [hr.out]; rfl, rfl⟩
  have h3 : Hid (s.size = 1 ∨ bN s 0 ≠ 48) := by show _ ∨ _; rw [← HZ.out]; omega
  have loop : True → Calls Tryz.prog 38 #[.string s] w fun e w' => e = .returned (.tuple #[.int .i64 ((natR s).1 : Nat), .bool (natR s).2]) ∧ w = w' := by
    intro _
    have hcase : (¬ 1 < s.size) ∨ (1 < s.size ∧ z ≠ 48) := by omega
    rcases hcase with hq | ⟨hq, hq2⟩
    · skip
      go_enter Tryz.func38, Tryz.ntmps38
      go_wp2_with (fail)
      go_loop [4, 5] (fun a b => ∃ m : Nat, m ≤ s.size ∧ b = .int .i64 m ∧ a = .int .i64 (numV (s.data.toList.take m) : Nat) ∧ Hid (digTo s m)) (fun _ b => s.size - (intOf b).toNat)
      case atStart => exact ⟨0, Nat.zero_le _, rfl, rfl, rfl⟩
      case round =>
        obtain ⟨m, hm, rfl, rfl, hd⟩ := hrel
        have hv0 := pow_bd (numV_lt' hd.out) (show (s.data.toList.take m).length ≤ 9 by rw [List.length_take, len_data]; omega)
        obtain ⟨V, hV⟩ : ∃ V, V = numV (s.data.toList.take m) := ⟨_, rfl⟩
        rw [← hV] at hv0 ⊢
        have hv : V < 1000000000 := hv0
        have HV := Lib.hid hV
        clear hv0 hV
        by_cases hlt : m < s.size
        · obtain ⟨N, hN⟩ : ∃ n, n = bN s m := ⟨_, rfl⟩
          have hb9 : (s[m]).toNat = N := by rw [hN]; exact bN_eq hlt
          have hN255 : N < 256 := by rw [← hb9]; exact UInt8.toNat_lt _
          have HN := Lib.hid hN
          clear hN
          by_cases hA : N < 48 ∨ 57 < N
          · have hr := Lib.hid (natR_no (notDig hlt (by rw [← HN.out]; exact hA) 9))
            rcases hA with hA | hA
            all_goals
              go_wp2_with fail
              go_ret2
              exact ⟨by rw [hr.out]; rfl, rfl⟩
          · have hA1 : 48 ≤ N := by omega
            have hA2 : N ≤ 57 := by omega
            obtain ⟨d1, d2⟩ := digTo_succ hd.out hlt (by rw [← HN.out]; exact hA1) (by rw [← HN.out]; exact hA2)
            rw [← HN.out, ← HV.out] at d2
            have D1 := Lib.hid d1
            have D2 := Lib.hid d2
            clear d1 d2 hA
            have hw1 : IntKind.u8.wrap ((N : Int) - 48) = (N : Int) - 48 := by rw [show IntKind.u8.wrap ((N : Int) - 48) = ((N : Int) - 48) % 256 from rfl]; omega
            go_wp2_with fail
            go_round
            case rel => exact ⟨m + 1, by omega, by go_num, by rw [D2.out]; go_num, D1⟩
            case measure => simp [intOf]; omega
        · obtain rfl : m = s.size := by omega
          have hr := Lib.hid (natR_yes (num_yes 9 h0 (by omega) h3.out hd.out))
          have hV2 : Hid (V = numV s.data.toList) := by show _ = _; rw [HV.out, ← len_data, List.take_length]
          go_wp2_with fail
          go_ret2
          exact ⟨by rw [hr.out, ← hV2.out]; rfl, rfl⟩
    · have hq3 : ((z : Int) == 48) = false := by simp; omega
      go_enter Tryz.func38, Tryz.ntmps38
      go_wp2_with (fail)
      go_loop [4, 5] (fun a b => ∃ m : Nat, m ≤ s.size ∧ b = .int .i64 m ∧ a = .int .i64 (numV (s.data.toList.take m) : Nat) ∧ Hid (digTo s m)) (fun _ b => s.size - (intOf b).toNat)
      case atStart => exact ⟨0, Nat.zero_le _, rfl, rfl, rfl⟩
      case round =>
        obtain ⟨m, hm, rfl, rfl, hd⟩ := hrel
        have hv0 := pow_bd (numV_lt' hd.out) (show (s.data.toList.take m).length ≤ 9 by rw [List.length_take, len_data]; omega)
        obtain ⟨V, hV⟩ : ∃ V, V = numV (s.data.toList.take m) := ⟨_, rfl⟩
        rw [← hV] at hv0 ⊢
        have hv : V < 1000000000 := hv0
        have HV := Lib.hid hV
        clear hv0 hV
        by_cases hlt : m < s.size
        · obtain ⟨N, hN⟩ : ∃ n, n = bN s m := ⟨_, rfl⟩
          have hb9 : (s[m]).toNat = N := by rw [hN]; exact bN_eq hlt
          have hN255 : N < 256 := by rw [← hb9]; exact UInt8.toNat_lt _
          have HN := Lib.hid hN
          clear hN
          by_cases hA : N < 48 ∨ 57 < N
          · have hr := Lib.hid (natR_no (notDig hlt (by rw [← HN.out]; exact hA) 9))
            rcases hA with hA | hA
            all_goals
              go_wp2_with fail
              go_ret2
              exact ⟨by rw [hr.out]; rfl, rfl⟩
          · have hA1 : 48 ≤ N := by omega
            have hA2 : N ≤ 57 := by omega
            obtain ⟨d1, d2⟩ := digTo_succ hd.out hlt (by rw [← HN.out]; exact hA1) (by rw [← HN.out]; exact hA2)
            rw [← HN.out, ← HV.out] at d2
            have D1 := Lib.hid d1
            have D2 := Lib.hid d2
            clear d1 d2 hA
            have hw1 : IntKind.u8.wrap ((N : Int) - 48) = (N : Int) - 48 := by rw [show IntKind.u8.wrap ((N : Int) - 48) = ((N : Int) - 48) % 256 from rfl]; omega
            go_wp2_with fail
            go_round
            case rel => exact ⟨m + 1, by omega, by go_num, by rw [D2.out]; go_num, D1⟩
            case measure => simp [intOf]; omega
        · obtain rfl : m = s.size := by omega
          have hr := Lib.hid (natR_yes (num_yes 9 h0 (by omega) h3.out hd.out))
          have hV2 : Hid (V = numV s.data.toList) := by show _ = _; rw [HV.out, ← len_data, List.take_length]
          go_wp2_with fail
          go_ret2
          exact ⟨by rw [hr.out, ← hV2.out]; rfl, rfl⟩
  exact loop trivial
set_option maxRecDepth 100000 in
set_option maxHeartbeats 3200000 in
theorem l1Read_any (s : ByteArray) (w : World) (hs : s.size ≤ 9223372036854775807) :
    Calls Tryz.prog 55 #[.string s] w fun e w' => e = .returned (.int .i64 (rdR s)) ∧ w = w' := by
  rcases Nat.eq_zero_or_pos s.size with h0 | h0
  · obtain rfl := empty_of_size h0
    have hr := Lib.hid (rdR_no (s := ⟨#[]⟩) (num_len 6 (by intro h; exact absurd h.1 (by decide))))
    clear h0 hs
    go_enter Tryz.func55, Tryz.ntmps55
    go_wp2_with (go_at_call 45; refine (l1In_any _ _ _ _).mono ?_; rintro e w' ⟨rfl, rfl⟩)
    go_ret
    exact ⟨by rw [hr.out]; rfl, rfl⟩
  have hne := ne_empty2 h0
  by_cases hl : 6 < s.size
  · have hr := Lib.hid (rdR_no (num_len (s := s) 6 (by omega)))
    have hin : inR (s.size : Int) 1 6 = false := by rw [inR_f]; omega
    go_enter Tryz.func55, Tryz.ntmps55
    go_wp2_with (go_at_call 45; refine (l1In_any _ _ _ _).mono ?_; rintro e w' ⟨rfl, rfl⟩)
    go_ret
    exact ⟨by rw [hr.out]; rfl, rfl⟩
  have hin : inR (s.size : Int) 1 6 = true := by rw [inR_t]; omega
  obtain ⟨z, hz⟩ : ∃ z, z = bN s 0 := ⟨_, rfl⟩
  have hz9 : (s[0]).toNat = z := by rw [hz]; exact bN_eq h0
  have HZ := Lib.hid hz
  clear hz
  have hz255 : z < 256 := by rw [← hz9]; exact UInt8.toNat_lt _
  by_cases h1 : 1 < s.size ∧ z = 48
  · obtain ⟨h1, rfl⟩ := h1
    have hr := Lib.hid (rdR_no (num_head (s := s) 6 h1 HZ.out.symm))
    go_enter Tryz.func55, Tryz.ntmps55
    go_wp2_with (go_at_call 45; refine (l1In_any _ _ _ _).mono ?_; rintro e w' ⟨rfl, rfl⟩)
    go_ret
    exact ⟨by rw [hr.out]; rfl, rfl⟩
  have h3 : Hid (s.size = 1 ∨ bN s 0 ≠ 48) := by show _ ∨ _; rw [← HZ.out]; omega
  have loop : True → Calls Tryz.prog 55 #[.string s] w fun e w' => e = .returned (.int .i64 (rdR s)) ∧ w = w' := by
    intro _
    have hcase : (z = 48 ∧ ¬ 1 < s.size) ∨ z ≠ 48 := by omega
    rcases hcase with ⟨rfl, hq⟩ | hq2
    · skip
      go_enter Tryz.func55, Tryz.ntmps55
      go_wp2_with (go_at_call 45; refine (l1In_any _ _ _ _).mono ?_; rintro e w' ⟨rfl, rfl⟩)
      go_loop [3, 4] (fun a b => ∃ m : Nat, m ≤ s.size ∧ b = .int .i64 m ∧ a = .int .i64 (numV (s.data.toList.take m) : Nat) ∧ Hid (digTo s m)) (fun _ b => s.size - (intOf b).toNat)
      case atStart => exact ⟨0, Nat.zero_le _, rfl, rfl, rfl⟩
      case round =>
        obtain ⟨m, hm, rfl, rfl, hd⟩ := hrel
        have hv0 := pow_bd (numV_lt' hd.out) (show (s.data.toList.take m).length ≤ 6 by rw [List.length_take, len_data]; omega)
        obtain ⟨V, hV⟩ : ∃ V, V = numV (s.data.toList.take m) := ⟨_, rfl⟩
        rw [← hV] at hv0 ⊢
        have hv : V < 1000000 := hv0
        have HV := Lib.hid hV
        clear hv0 hV
        by_cases hlt : m < s.size
        · obtain ⟨N, hN⟩ : ∃ n, n = bN s m := ⟨_, rfl⟩
          have hb9 : (s[m]).toNat = N := by rw [hN]; exact bN_eq hlt
          have hN255 : N < 256 := by rw [← hb9]; exact UInt8.toNat_lt _
          have HN := Lib.hid hN
          clear hN
          by_cases hA : N < 48 ∨ 57 < N
          · have hr := Lib.hid (rdR_no (notDig hlt (by rw [← HN.out]; exact hA) 6))
            rcases hA with hA | hA
            all_goals
              go_wp2_with fail
              go_ret
              exact ⟨by rw [hr.out]; rfl, rfl⟩
          · have hA1 : 48 ≤ N := by omega
            have hA2 : N ≤ 57 := by omega
            obtain ⟨d1, d2⟩ := digTo_succ hd.out hlt (by rw [← HN.out]; exact hA1) (by rw [← HN.out]; exact hA2)
            rw [← HN.out, ← HV.out] at d2
            have D1 := Lib.hid d1
            have D2 := Lib.hid d2
            clear d1 d2 hA
            have hw1 : IntKind.u8.wrap ((N : Int) - 48) = (N : Int) - 48 := by rw [show IntKind.u8.wrap ((N : Int) - 48) = ((N : Int) - 48) % 256 from rfl]; omega
            go_wp2_with fail
            go_round
            case rel => exact ⟨m + 1, by omega, by go_num, by rw [D2.out]; go_num, D1⟩
            case measure => simp [intOf]; omega
        · obtain rfl : m = s.size := by omega
          have hr := Lib.hid (rdR_yes (num_yes 6 h0 (by omega) h3.out hd.out))
          have hV2 : Hid (V = numV s.data.toList) := by show _ = _; rw [HV.out, ← len_data, List.take_length]
          go_wp2_with fail
          go_ret
          exact ⟨by rw [hr.out, ← hV2.out]; rfl, rfl⟩
    · have hq3 : ((z : Int) == 48) = false := by simp; omega
      go_enter Tryz.func55, Tryz.ntmps55
      go_wp2_with (go_at_call 45; refine (l1In_any _ _ _ _).mono ?_; rintro e w' ⟨rfl, rfl⟩)
      go_loop [3, 4] (fun a b => ∃ m : Nat, m ≤ s.size ∧ b = .int .i64 m ∧ a = .int .i64 (numV (s.data.toList.take m) : Nat) ∧ Hid (digTo s m)) (fun _ b => s.size - (intOf b).toNat)
      case atStart => exact ⟨0, Nat.zero_le _, rfl, rfl, rfl⟩
      case round =>
        obtain ⟨m, hm, rfl, rfl, hd⟩ := hrel
        have hv0 := pow_bd (numV_lt' hd.out) (show (s.data.toList.take m).length ≤ 6 by rw [List.length_take, len_data]; omega)
        obtain ⟨V, hV⟩ : ∃ V, V = numV (s.data.toList.take m) := ⟨_, rfl⟩
        rw [← hV] at hv0 ⊢
        have hv : V < 1000000 := hv0
        have HV := Lib.hid hV
        clear hv0 hV
        by_cases hlt : m < s.size
        · obtain ⟨N, hN⟩ : ∃ n, n = bN s m := ⟨_, rfl⟩
          have hb9 : (s[m]).toNat = N := by rw [hN]; exact bN_eq hlt
          have hN255 : N < 256 := by rw [← hb9]; exact UInt8.toNat_lt _
          have HN := Lib.hid hN
          clear hN
          by_cases hA : N < 48 ∨ 57 < N
          · have hr := Lib.hid (rdR_no (notDig hlt (by rw [← HN.out]; exact hA) 6))
            rcases hA with hA | hA
            all_goals
              go_wp2_with fail
              go_ret
              exact ⟨by rw [hr.out]; rfl, rfl⟩
          · have hA1 : 48 ≤ N := by omega
            have hA2 : N ≤ 57 := by omega
            obtain ⟨d1, d2⟩ := digTo_succ hd.out hlt (by rw [← HN.out]; exact hA1) (by rw [← HN.out]; exact hA2)
            rw [← HN.out, ← HV.out] at d2
            have D1 := Lib.hid d1
            have D2 := Lib.hid d2
            clear d1 d2 hA
            have hw1 : IntKind.u8.wrap ((N : Int) - 48) = (N : Int) - 48 := by rw [show IntKind.u8.wrap ((N : Int) - 48) = ((N : Int) - 48) % 256 from rfl]; omega
            go_wp2_with fail
            go_round
            case rel => exact ⟨m + 1, by omega, by go_num, by rw [D2.out]; go_num, D1⟩
            case measure => simp [intOf]; omega
        · obtain rfl : m = s.size := by omega
          have hr := Lib.hid (rdR_yes (num_yes 6 h0 (by omega) h3.out hd.out))
          have hV2 : Hid (V = numV s.data.toList) := by show _ = _; rw [HV.out, ← len_data, List.take_length]
          go_wp2_with fail
          go_ret
          exact ⟨by rw [hr.out, ← hV2.out]; rfl, rfl⟩
  exact loop trivial
end Go.Proofs.YtombnhnhbocceaaGreatDoor
