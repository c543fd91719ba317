/- Contracts: cues: names, validity. -/
import Derived.Test.YtnbpkealigfmjaaRecCue
import Derived.Test.YtnbpkealigfmjaaMusic
set_option linter.unusedSimpArgs false
set_option linter.unusedVariables false
namespace Go.Proofs.Ytnbpkealigfmjaa
open Go.RowKit

def okL (n : Nat) : Bool := decide (97 ≤ n) && decide (n ≤ 122)
/-- The byte at an index. -/
def btN (s : ByteArray) (k : Nat) : Nat := (s.data.toList.getD k 0).toNat
theorem btN_eq {s : ByteArray} {k : Nat} (h : k < s.size) : (s[k]).toNat = btN s k := by
  unfold btN
  rw [List.getD_eq_getElem?_getD, List.getElem?_eq_getElem (by simpa using h)]
  rfl
def okN (s : ByteArray) : Bool := (List.range s.size).all fun k => okL (btN s k)
theorem okN_no {s : ByteArray} {k : Nat} (h : k < s.size) (hx : okL (btN s k) = false) : okN s = false := by
  unfold okN; rw [List.all_eq_false]; exact ⟨k, by simpa using h, by rw [hx]; decide⟩
def okNTo (s : ByteArray) (k : Nat) : Prop := ∀ i, i < k → okL (btN s i) = true
theorem okN_yes {s : ByteArray} (h : okNTo s s.size) : okN s = true := by
  unfold okN; rw [List.all_eq_true]; intro i hi; exact h i (by simpa using hi)
theorem okNTo_succ {s : ByteArray} {k : Nat} (h : okNTo s k) (hk : okL (btN s k) = true) : okNTo s (k + 1) := by
  intro i hi
  by_cases e : i = k
  · subst e; exact hk
  · exact h i (by omega)
theorem okL_t {n : Nat} (h : okL n = true) : 97 ≤ n ∧ n ≤ 122 := by unfold okL at h; simpa using h
theorem okL_f {n : Nat} (h : okL n = false) : n < 97 ∨ 122 < n := by unfold okL at h; simp at h; omega
/-- A name of at most m letters. -/
def isNm (m : Int) (s : ByteArray) : Bool := okN s && inR s.size 1 m
theorem isNm_no {m : Int} {s : ByteArray} (h : okN s = false) : isNm m s = false := by unfold isNm; rw [h]; rfl
theorem isNm_yes {m : Int} {s : ByteArray} (h : okN s = true) : isNm m s = inR s.size 1 m := by unfold isNm; rw [h]; rfl
theorem isNm_short {s : ByteArray} (h : s.size ≤ 8) : isNm 12 s = isNm 8 s := by
  unfold isNm
  have : inR s.size 1 12 = inR s.size 1 8 := by
    unfold inR
    have e1 : decide ((s.size : Int) ≤ 12) = true := decide_eq_true (by omega)
    have e2 : decide ((s.size : Int) ≤ 8) = true := decide_eq_true (by omega)
    rw [e1, e2]
  rw [this]
theorem isNm_long {s : ByteArray} (h : 8 < s.size) : isNm 8 s = false := by
  unfold isNm
  have : inR s.size 1 8 = false := by
    cases h9 : inR s.size 1 8
    · rfl
    · have := inR_t.1 h9; omega
  rw [this]; simp
set_option maxHeartbeats 1600000 in
theorem implIsName (s : ByteArray) (w : World) (hs : s.size ≤ 9223372036854775807) :
    Calls Try.prog 62 #[.string s] w fun e w' => e = .returned (.bool (isNm 12 s)) ∧ w = w' := by
  go_enter Try.func62, Try.ntmps62
  go_wp2_with fail
  go_loop [3] (fun t => ∃ m : Nat, m ≤ s.size ∧ t = .int .i64 m ∧ Hid (okNTo s m)) (fun t => s.size - (intOf t).toNat)
  case atStart => exact ⟨0, Nat.zero_le _, rfl, fun i hi => absurd hi (by omega)⟩
  case round =>
    obtain ⟨m, hmm, rfl, hok⟩ := hrel
    by_cases hlm : m < s.size
    · obtain ⟨n, hn⟩ : ∃ n, n = btN s m := ⟨_, rfl⟩
      have hb9 : (s[m]).toNat = n := by rw [hn]; exact btN_eq hlm
      have HN := Lib.hid hn
      clear hn
      cases hx : okL n
      · have hfin : Hid (isNm 12 s = false) := isNm_no (okN_no hlm (by rw [← HN.out]; exact hx))
        have x2 := okL_f hx
        clear hx
        rcases x2 with x3 | x3
        all_goals
          go_wp2_with fail
          go_ret
          exact ⟨ret_bool hfin.out.symm, rfl⟩
      · have hok2 : Hid (okNTo s (m + 1)) := okNTo_succ hok.out (by rw [← HN.out]; exact hx)
        obtain ⟨x3, x4⟩ := okL_t hx
        clear hx
        go_wp2_with fail
        go_round
        case rel => exact ⟨m + 1, by omega, by go_num, hok2⟩
        case measure => simp [intOf]; omega
    · obtain rfl : m = s.size := by omega
      have hfin := Lib.hid (isNm_yes (m := 12) (okN_yes hok.out))
      go_wp2_with (go_at_call 36; refine (within_any _ _ _ _).mono ?_; rintro e w' ⟨rfl, rfl⟩)
      go_ret
      exact ⟨ret_bool hfin.out.symm, rfl⟩
set_option maxHeartbeats 1600000 in
theorem tiName_any (s : ByteArray) (w : World) (hs : s.size ≤ 9223372036854775807) :
    Calls Try.prog 61 #[.string s] w fun e w' => e = .returned (.bool (isNm 8 s)) ∧ w = w' := by
  go_enter Try.func61, Try.ntmps61
  go_wp2_with fail
  go_loop [3] (fun t => ∃ m : Nat, m ≤ s.size ∧ t = .int .i64 m ∧ Hid (okNTo s m)) (fun t => s.size - (intOf t).toNat)
  case atStart => exact ⟨0, Nat.zero_le _, rfl, fun i hi => absurd hi (by omega)⟩
  case round =>
    obtain ⟨m, hmm, rfl, hok⟩ := hrel
    by_cases hlm : m < s.size
    · obtain ⟨n, hn⟩ : ∃ n, n = btN s m := ⟨_, rfl⟩
      have hb9 : (s[m]).toNat = n := by rw [hn]; exact btN_eq hlm
      have HN := Lib.hid hn
      clear hn
      cases hx : okL n
      · have hfin : Hid (isNm 8 s = false) := isNm_no (okN_no hlm (by rw [← HN.out]; exact hx))
        have x2 := okL_f hx
        clear hx
        rcases x2 with x3 | x3
        all_goals
          go_wp2_with fail
          go_ret
          exact ⟨ret_bool hfin.out.symm, rfl⟩
      · have hok2 : Hid (okNTo s (m + 1)) := okNTo_succ hok.out (by rw [← HN.out]; exact hx)
        obtain ⟨x3, x4⟩ := okL_t hx
        clear hx
        go_wp2_with fail
        go_round
        case rel => exact ⟨m + 1, by omega, by go_num, hok2⟩
        case measure => simp [intOf]; omega
    · obtain rfl : m = s.size := by omega
      have hfin := Lib.hid (isNm_yes (m := 8) (okN_yes hok.out))
      go_wp2_with (go_at_call 60; refine (l1In_any _ _ _ _).mono ?_; rintro e w' ⟨rfl, rfl⟩)
      go_ret
      exact ⟨ret_bool hfin.out.symm, rfl⟩
/-- A cue is good after the one before. -/
def ordC (l : List Cu) (k : Nat) : Bool := (k == 0) || decide ((gx cuRec l (k - 1)).c < (gx cuRec l k).c)
def preC (N : Int) (l : List Cu) (k : Nat) : Bool := inR (gx cuRec l k).c 0 (N - 1) && isNm 8 (gx cuRec l k).n && ordC l k
/-- No cue before has the name. -/
def dupC (l : List Cu) (k : Nat) : Bool := (l.take k).any (fun y => y.n.toList == (gx cuRec l k).n.toList)
def cuOk (N : Int) (l : List Cu) (k : Nat) : Bool := preC N l k && !dupC l k
def areC (N : Int) (l : List Cu) : Bool := decide (l.length ≤ 30) && (List.range l.length).all (cuOk N l)
def cuTo (N : Int) (l : List Cu) (k : Nat) : Prop := ∀ i, i < k → cuOk N l i = true
theorem cuTo_succ {N : Int} {l : List Cu} {k : Nat} (h : cuTo N l k) (hk : cuOk N l k = true) : cuTo N l (k + 1) := by
  intro i hi
  by_cases e : i = k
  · subst e; exact hk
  · exact h i (by omega)
theorem areC_no {N : Int} {l : List Cu} {k : Nat} (hk : k < l.length) (h : cuOk N l k = false) : areC N l = false := by
  unfold areC
  have : (List.range l.length).all (cuOk N l) = false := by
    rw [List.all_eq_false]; exact ⟨k, by simpa using hk, by rw [h]; decide⟩
  rw [this]; simp
theorem areC_len {N : Int} {l : List Cu} (h : 30 < l.length) : areC N l = false := by
  unfold areC; rw [decide_eq_false (by omega)]; rfl
theorem areC_to {N : Int} {l : List Cu} (h : cuTo N l l.length) : areC N l = decide (l.length ≤ 30) := by
  unfold areC
  have : (List.range l.length).all (cuOk N l) = true := by
    rw [List.all_eq_true]; intro i hi; exact h i (by simpa using hi)
  rw [this]; simp
theorem areC_t {N : Int} {l : List Cu} (h : areC N l = true) : l.length ≤ 30 ∧ cuTo N l l.length := by
  unfold areC at h
  rw [Bool.and_eq_true, List.all_eq_true] at h
  exact ⟨of_decide_eq_true h.1, fun i hi => h.2 i (by simpa using hi)⟩
theorem cuOk_pre {N : Int} {l : List Cu} {k : Nat} (h : preC N l k = false) : cuOk N l k = false := by unfold cuOk; rw [h]; rfl
theorem cuOk_dup {N : Int} {l : List Cu} {k : Nat} (h : dupC l k = true) : cuOk N l k = false := by unfold cuOk; rw [h]; simp
theorem cuOk_yes {N : Int} {l : List Cu} {k : Nat} (h : preC N l k = true) (h2 : dupC l k = false) : cuOk N l k = true := by unfold cuOk; rw [h, h2]; rfl
theorem preC_1 {N : Int} {l : List Cu} {k : Nat} (h : inR (gx cuRec l k).c 0 (N - 1) = false) : preC N l k = false := by unfold preC; rw [h]; rfl
theorem preC_2 {N : Int} {l : List Cu} {k : Nat} (h : isNm 8 (gx cuRec l k).n = false) : preC N l k = false := by unfold preC; rw [h]; simp
theorem preC_3 {N : Int} {l : List Cu} {k : Nat} (h : ordC l k = false) : preC N l k = false := by unfold preC; rw [h]; simp
theorem preC_t {N : Int} {l : List Cu} {k : Nat} (h1 : inR (gx cuRec l k).c 0 (N - 1) = true) (h2 : isNm 8 (gx cuRec l k).n = true) (h3 : ordC l k = true) : preC N l k = true := by unfold preC; rw [h1, h2, h3]; rfl
theorem ordC_0 (l : List Cu) : ordC l 0 = true := rfl
theorem ordC_s (l : List Cu) (j : Nat) : ordC l (j + 1) = decide ((gx cuRec l j).c < (gx cuRec l (j + 1)).c) := by unfold ordC; simp
end Go.Proofs.Ytnbpkealigfmjaa
