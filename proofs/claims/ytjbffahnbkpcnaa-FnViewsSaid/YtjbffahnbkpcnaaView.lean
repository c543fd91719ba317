/- Contracts: whether strings are a view, in the program and in the reference. -/
import Derived.Test.YtjbffahnbkpcnaaStr
set_option linter.unusedSimpArgs false
set_option linter.unusedVariables false
namespace Go.Proofs.Ytjbffahnbkpcnaa
open Go.RowKit

def okC (n : Nat) : Bool := (n == 46) || (decide (65 ≤ n) && decide (n ≤ 90))
/-- The byte at an index. -/
def bt (s : ByteArray) (k : Nat) : Nat := (s.data.toList.getD k 0).toNat
theorem bt_eq {s : ByteArray} {k : Nat} (h : k < s.size) : (s[k]).toNat = bt s k := by
  unfold bt
  rw [List.getD_eq_getElem?_getD, List.getElem?_eq_getElem (by simpa using h)]
  rfl
def okS (s : ByteArray) : Bool := (List.range s.size).all fun k => okC (bt s k)
theorem okS_no {s : ByteArray} {k : Nat} (h : k < s.size) (hx : okC (bt s k) = false) : okS s = false := by
  unfold okS; rw [List.all_eq_false]; exact ⟨k, by simpa using h, by rw [hx]; decide⟩
def okTo (s : ByteArray) (k : Nat) : Prop := ∀ i, i < k → okC (bt s i) = true
theorem okS_yes {s : ByteArray} (h : okTo s s.size) : okS s = true := by
  unfold okS; rw [List.all_eq_true]; intro i hi; exact h i (by simpa using hi)
theorem okTo_succ {s : ByteArray} {k : Nat} (h : okTo s k) (hk : okC (bt s k) = true) : okTo s (k + 1) := by
  intro i hi
  by_cases e : i = k
  · subst e; exact hk
  · exact h i (by omega)
theorem okC_t {n : Nat} (h : okC n = true) : n = 46 ∨ (65 ≤ n ∧ n ≤ 90) := by unfold okC at h; simpa using h
theorem okC_f {n : Nat} (h : okC n = false) : n ≠ 46 ∧ (n < 65 ∨ 90 < n) := by
  unfold okC at h; simp at h; omega
/-- A line is good, as wide as the first one. -/
def lnOk (m : Nat) (s : ByteArray) : Bool := (s.size == m) && okS s
def isVw (l : List ByteArray) : Bool := inR l.length 1 30 && inR (gx strRec l 0).size 1 60 && l.all (lnOk (gx strRec l 0).size)
def vwTo (l : List ByteArray) (k : Nat) : Prop := ∀ i, i < k → lnOk (gx strRec l 0).size (gx strRec l i) = true
theorem vwTo_succ {l : List ByteArray} {k : Nat} (h : vwTo l k) (hk : lnOk (gx strRec l 0).size (gx strRec l k) = true) : vwTo l (k + 1) := by
  intro i hi
  by_cases e : i = k
  · subst e; exact hk
  · exact h i (by omega)
theorem isVw_no {l : List ByteArray} {k : Nat} (hk : k < l.length) (h : lnOk (gx strRec l 0).size (gx strRec l k) = false) : isVw l = false := by
  unfold isVw
  have : l.all (lnOk (gx strRec l 0).size) = false := by
    rw [List.all_eq_false]; exact ⟨gx strRec l k, gx_mem hk, by rw [h]; decide⟩
  rw [this]; simp
theorem isVw_len {l : List ByteArray} (h : inR l.length 1 30 = false) : isVw l = false := by unfold isVw; rw [h]; rfl
theorem isVw_len2 {l : List ByteArray} (h : inR (gx strRec l 0).size 1 60 = false) : isVw l = false := by unfold isVw; rw [h]; simp
theorem isVw_to {l : List ByteArray} (h : vwTo l l.length) : isVw l = (inR l.length 1 30 && inR (gx strRec l 0).size 1 60) := by
  unfold isVw
  have : l.all (lnOk (gx strRec l 0).size) = true := by
    rw [List.all_eq_true]; intro s hs
    obtain ⟨i, hi, rfl⟩ := List.getElem_of_mem hs
    rw [← gx_eq (R := strRec) hi]; exact h i hi
  rw [this, Bool.and_true]
theorem isVw_t {l : List ByteArray} (h : isVw l = true) : 1 ≤ l.length ∧ l.length ≤ 30 ∧ 1 ≤ (gx strRec l 0).size ∧ (gx strRec l 0).size ≤ 60 ∧ vwTo l l.length := by
  unfold isVw at h
  rw [Bool.and_eq_true, Bool.and_eq_true, List.all_eq_true] at h
  have h1 := inR_t.1 h.1.1
  have h2 := inR_t.1 h.1.2
  exact ⟨by omega, by omega, by omega, by omega, fun i hi => h.2 _ (gx_mem hi)⟩
theorem lnOk_t {m : Nat} {s : ByteArray} (h : lnOk m s = true) : s.size = m ∧ okS s = true := by
  unfold lnOk at h; rw [Bool.and_eq_true, beq_iff_eq] at h; exact h
theorem lnOk_no1 {m : Nat} {s : ByteArray} (h : s.size ≠ m) : lnOk m s = false := by unfold lnOk; rw [beq_eq_false_iff_ne.2 h]; rfl
theorem lnOk_no2 {m : Nat} {s : ByteArray} (h : okS s = false) : lnOk m s = false := by unfold lnOk; rw [h]; simp
theorem lnOk_yes {m : Nat} {s : ByteArray} (h : s.size = m) (h2 : okS s = true) : lnOk m s = true := by unfold lnOk; rw [h2, h]; simp
set_option maxHeartbeats 3200000 in
theorem isView_any (v : Value) (l : List ByteArray) (w : World) (h : RowAt strRec w v l) (hw : WfStrs l) :
    Calls Try.prog 52 #[v] w fun e w' => e = .returned (.bool (isVw l)) ∧ w = w' := by
  obtain ⟨A, c, rfl, hnc, hc63⟩ := h.shape
  have Hw := Lib.hid hw
  clear hw
  cases h1 : inR l.length 1 30
  · have hr := Lib.hid (isVw_len h1)
    go_enter Try.func52, Try.ntmps52
    go_wp2_with (go_at_call 49; refine (within_any _ _ _ _).mono ?_; rintro e w' ⟨rfl, rfl⟩)
    go_ret
    exact ⟨ret_bool hr.out.symm, rfl⟩
  have hb := inR_t.1 h1
  obtain ⟨b, o, rfl, hc0⟩ := str_at h 0 (by omega)
  have hc00 : w.cell? ⟨b, o, none⟩ = some (.string (gx strRec l 0)) := by simpa using hc0
  have hi00 : (0 : Int) < (l.length : Int) := by omega
  clear hc0
  cases h2 : inR (gx strRec l 0).size 1 60
  · have hr := Lib.hid (isVw_len2 h2)
    go_enter Try.func52, Try.ntmps52
    go_wp2_with (go_at_call 49; refine (within_any _ _ _ _).mono ?_; rintro e w' ⟨rfl, rfl⟩)
    go_ret
    exact ⟨ret_bool hr.out.symm, rfl⟩
  have hb2 := inR_t.1 h2
  have H12 : Hid (vwTo l l.length → isVw l = true) := fun hv => by rw [isVw_to hv, h1, h2]; rfl
  go_enter Try.func52, Try.ntmps52
  go_wp2_with (go_at_call 49; refine (within_any _ _ _ _).mono ?_; rintro e w' ⟨rfl, rfl⟩)
  clear h1 h2
  go_loop [20] (fun s => ∃ k : Nat, k ≤ l.length ∧ s = .int .i64 k ∧ Hid (vwTo l k)) (fun s => l.length - (intOf s).toNat)
  case atStart => exact ⟨0, Nat.zero_le _, rfl, fun i hi => absurd hi (by omega)⟩
  case round =>
    obtain ⟨k, hk, rfl, hv⟩ := hrel
    by_cases hlt : k < l.length
    · obtain ⟨b', o', he, hck⟩ := str_at h k hlt
      injection he with he; injection he with e1 e2; subst e1 e2
      obtain ⟨s, hs⟩ : ∃ s, s = gx strRec l k := ⟨_, rfl⟩
      have hsz := Hw.out k hlt
      rw [← hs] at hck hsz
      by_cases hm : s.size = (gx strRec l 0).size
      · have Hm := Lib.hid hm
        have HS := Lib.hid hs
        have hm2 : ((s.size : Int) != ((gx strRec l 0).size : Int)) = false := by rw [hm]; simp
        clear hm hs
        go_wp2_with fail
        go_loop [5] (fun t => ∃ m : Nat, m ≤ s.size ∧ t = .int .i64 m ∧ Hid (okTo s m)) (fun t => s.size - (intOf t).toNat)
        case atStart => exact ⟨0, Nat.zero_le _, rfl, fun i hi => absurd hi (by omega)⟩
        case round =>
          obtain ⟨m, hmm, rfl, hok⟩ := hrel
          by_cases hlm : m < s.size
          · obtain ⟨n, hn⟩ : ∃ n, n = bt s m := ⟨_, rfl⟩
            have hb9 : (s[m]).toNat = n := by rw [hn]; exact bt_eq hlm
            have HN := Lib.hid hn
            clear hn hm2
            cases hx : okC n
            · have hfin : Hid (isVw l = false) := isVw_no hlt (by rw [← HS.out]; exact lnOk_no2 (okS_no hlm (by rw [← HN.out]; exact hx)))
              obtain ⟨x1, x2⟩ := okC_f hx
              have y1 : ((n : Int) != 46) = true := by simp; omega
              clear hx
              rcases x2 with x3 | x3
              all_goals
                go_wp2_with fail
                go_ret
                exact ⟨ret_bool hfin.out.symm, rfl⟩
            · have hok2 : Hid (okTo s (m + 1)) := okTo_succ hok.out (by rw [← HN.out]; exact hx)
              have hxt := okC_t hx
              clear hx
              rcases Nat.lt_or_ge n 65 with x3 | x3
              · have y1 : ((n : Int) != 46) = false := by simp; omega
                clear hxt
                go_wp2_with fail
                go_round
                case rel => exact ⟨m + 1, by omega, by go_num, hok2⟩
                case measure => simp [intOf]; omega
              · have y1 : ((n : Int) != 46) = true := by simp; omega
                have y2 : n ≤ 90 := by omega
                clear hxt
                go_wp2_with fail
                go_round
                case rel => exact ⟨m + 1, by omega, by go_num, hok2⟩
                case measure => simp [intOf]; omega
          · obtain rfl : m = s.size := by omega
            have hv2 : Hid (vwTo l (k + 1)) := vwTo_succ hv.out (by rw [← HS.out]; exact lnOk_yes Hm.out (okS_yes hok.out))
            clear hm2
            go_wp2_with fail
            go_round
            case rel => exact ⟨k + 1, by omega, by go_num, hv2⟩
            case measure => simp [intOf]; omega
      · have hfin : Hid (isVw l = false) := isVw_no hlt (by rw [← hs]; exact lnOk_no1 hm)
        have hm2 : ((s.size : Int) != ((gx strRec l 0).size : Int)) = true := by simp; omega
        clear hm hs
        go_wp2_with fail
        go_ret
        exact ⟨ret_bool hfin.out.symm, rfl⟩
    · obtain rfl : k = l.length := by omega
      have hfin := Lib.hid (H12.out hv.out)
      go_wp2_with fail
      go_ret
      exact ⟨ret_bool hfin.out.symm, rfl⟩
set_option maxHeartbeats 3200000 in
theorem vwGood_any (v : Value) (l : List ByteArray) (w : World) (h : RowAt strRec w v l) (hw : WfStrs l) :
    Calls Try.prog 54 #[v] w fun e w' => e = .returned (.bool (isVw l)) ∧ w = w' := by
  obtain ⟨A, c, rfl, hnc, hc63⟩ := h.shape
  have Hw := Lib.hid hw
  clear hw
  by_cases hpos : 0 < l.length
  · obtain ⟨b, o, rfl, hc0⟩ := str_at h 0 (by omega)
    have hc00 : w.cell? ⟨b, o, none⟩ = some (.string (gx strRec l 0)) := by simpa using hc0
    have hi00 : (0 : Int) < (l.length : Int) := by omega
    have hz0 := Hw.out 0 hpos
    clear hc0
    go_enter Try.func54, Try.ntmps54
    go_wp2_with fail
    go_loop [8] (fun s => ∃ k : Nat, k ≤ l.length ∧ s = .int .i64 k ∧ Hid (vwTo l k)) (fun s => l.length - (intOf s).toNat)
    case atStart => exact ⟨0, Nat.zero_le _, rfl, fun i hi => absurd hi (by omega)⟩
    case round =>
      obtain ⟨k, hk, rfl, hv⟩ := hrel
      by_cases hlt : k < l.length
      · obtain ⟨b', o', he, hck⟩ := str_at h k hlt
        injection he with he; injection he with e1 e2; subst e1 e2
        obtain ⟨s, hs⟩ : ∃ s, s = gx strRec l k := ⟨_, rfl⟩
        have hsz := Hw.out k hlt
        rw [← hs] at hck hsz
        by_cases hm : s.size = (gx strRec l 0).size
        · have Hm := Lib.hid hm
          have HS := Lib.hid hs
          have hm2 : ((s.size : Int) != ((gx strRec l 0).size : Int)) = false := by rw [hm]; simp
          clear hm hs
          go_wp2_with fail
          go_loop [5] (fun t => ∃ m : Nat, m ≤ s.size ∧ t = .int .i64 m ∧ Hid (okTo s m)) (fun t => s.size - (intOf t).toNat)
          case atStart => exact ⟨0, Nat.zero_le _, rfl, fun i hi => absurd hi (by omega)⟩
          case round =>
            obtain ⟨m, hmm, rfl, hok⟩ := hrel
            by_cases hlm : m < s.size
            · obtain ⟨n, hn⟩ : ∃ n, n = bt s m := ⟨_, rfl⟩
              have hb9 : (s[m]).toNat = n := by rw [hn]; exact bt_eq hlm
              have HN := Lib.hid hn
              clear hn hm2
              cases hx : okC n
              · have hfin : Hid (isVw l = false) := isVw_no hlt (by rw [← HS.out]; exact lnOk_no2 (okS_no hlm (by rw [← HN.out]; exact hx)))
                obtain ⟨x1, x2⟩ := okC_f hx
                have y1 : ((n : Int) != 46) = true := by simp; omega
                clear hx
                rcases x2 with x3 | x3
                all_goals
                  go_wp2_with fail
                  go_ret
                  exact ⟨ret_bool hfin.out.symm, rfl⟩
              · have hok2 : Hid (okTo s (m + 1)) := okTo_succ hok.out (by rw [← HN.out]; exact hx)
                have hxt := okC_t hx
                clear hx
                rcases Nat.lt_or_ge n 65 with x3 | x3
                · have y1 : ((n : Int) != 46) = false := by simp; omega
                  clear hxt
                  go_wp2_with fail
                  go_round
                  case rel => exact ⟨m + 1, by omega, by go_num, hok2⟩
                  case measure => simp [intOf]; omega
                · have y1 : ((n : Int) != 46) = true := by simp; omega
                  have y2 : n ≤ 90 := by omega
                  clear hxt
                  go_wp2_with fail
                  go_round
                  case rel => exact ⟨m + 1, by omega, by go_num, hok2⟩
                  case measure => simp [intOf]; omega
            · obtain rfl : m = s.size := by omega
              have hv2 : Hid (vwTo l (k + 1)) := vwTo_succ hv.out (by rw [← HS.out]; exact lnOk_yes Hm.out (okS_yes hok.out))
              clear hm2
              go_wp2_with fail
              go_round
              case rel => exact ⟨k + 1, by omega, by go_num, hv2⟩
              case measure => simp [intOf]; omega
        · have hfin : Hid (isVw l = false) := isVw_no hlt (by rw [← hs]; exact lnOk_no1 hm)
          have hm2 : ((s.size : Int) != ((gx strRec l 0).size : Int)) = true := by simp; omega
          clear hm hs
          go_wp2_with fail
          go_ret
          exact ⟨ret_bool hfin.out.symm, rfl⟩
      · obtain rfl : k = l.length := by omega
        have hfin := Lib.hid (isVw_to hv.out)
        cases h1 : inR l.length 1 30 <;> cases h2 : inR (gx strRec l 0).size 1 60
        all_goals
          rw [h1, h2] at hfin
          simp only [Bool.and_true, Bool.and_false, Bool.true_and, Bool.false_and] at hfin
          go_wp2_with (go_at_call 75; refine (l1In_any _ _ _ _).mono ?_; rintro e w' ⟨rfl, rfl⟩)
          go_ret
          exact ⟨ret_bool hfin.out.symm, rfl⟩
  · have hl0 : l.length = 0 := by omega
    have hr := Lib.hid (isVw_len (l := l) (by rw [hl0]; rfl))
    obtain rfl : l = [] := List.eq_nil_of_length_eq_zero hl0
    clear hl0
    have h1 : inR (0 : Int) 1 30 = false := rfl
    go_enter Try.func54, Try.ntmps54
    go_wp2_with fail
    go_loop [8] (fun s => s = .int .i64 0) (fun s => 0)
    case atStart => rfl
    case round =>
      obtain rfl := hrel
      go_wp2_with (go_at_call 75; refine (l1In_any _ _ _ _).mono ?_; rintro e w' ⟨rfl, rfl⟩)
      go_ret
      exact ⟨ret_bool hr.out.symm, rfl⟩
end Go.Proofs.Ytjbffahnbkpcnaa
