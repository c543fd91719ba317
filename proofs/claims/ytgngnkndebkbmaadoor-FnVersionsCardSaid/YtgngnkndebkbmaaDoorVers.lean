/- Words for slices of versions (structs of three integers). -/
import Derived.Test.YtgngnkndebkbmaaDoorHelp
set_option linter.unusedSimpArgs false
set_option linter.unusedVariables false
namespace Go.Proofs.YtgngnkndebkbmaaDoor
open Go.RowKit

structure Ver where
  p : Int
  k : Int
  v : Int
deriving DecidableEq
def Ver.cells (x : Ver) : List Value := [I x.p, I x.k, I x.v]
def vcells (l : List Ver) : List Value := l.flatMap Ver.cells
/-- The version at an index. -/
def gv (l : List Ver) (i : Nat) : Ver := l.getD i ⟨0, 0, 0⟩
theorem gv_eq {l : List Ver} {i : Nat} (h : i < l.length) : gv l i = l[i] := by simp [gv, List.getD, h]
theorem vcells_len (l : List Ver) : (vcells l).length = l.length * 3 := by
  induction l with
  | nil => rfl
  | cons x l ih => simp only [vcells, List.flatMap_cons, List.length_append, List.length_cons] at ih ⊢; simp only [Ver.cells, List.length_cons, List.length_nil]; omega
theorem vcells_at (l : List Ver) (i j : Nat) (h : i < l.length) (hj : j < 3) : (vcells l)[i * 3 + j]? = (gv l i).cells[j]? := by
  induction l generalizing i with
  | nil => simp at h
  | cons x l ih =>
    have e : vcells (x :: l) = x.cells ++ vcells l := rfl
    have hx : x.cells.length = 3 := rfl
    cases i with
    | zero =>
      rw [e, List.getElem?_append_left (by omega)]
      simp [gv]
    | succ i =>
      rw [e, List.getElem?_append_right (by omega), hx, show (i + 1) * 3 + j - 3 = i * 3 + j from by omega, ih i (by simpa using h)]
      simp [gv]
def VersAt (w : World) (v : Value) (l : List Ver) : Prop := Sl w 3 v l.length (vcells l)
theorem VersAt.below {w w' : World} {v : Value} {l : List Ver} {B : Nat} (h : VersAt w v l) (hb : Below B w w') (hB : w.heap.size ≤ B) : VersAt w' v l := Sl.below h hb hB
theorem VersAt.shape {w : World} {v : Value} {l : List Ver} (h : VersAt w v l) : ∃ A c, v = .slice A l.length c ∧ l.length ≤ c ∧ c ≤ 9223372036854775807 := Sl.shape h
theorem VersAt.at_ {w : World} {A : Option Addr} {n c : Nat} {l : List Ver} (h : VersAt w (.slice A n c) l) (i : Nat) (hi : i < l.length) :
    ∃ b o, A = some ⟨b, o, none⟩ ∧ w.cell? ⟨b, o + i * 3, none⟩ = some (.int .i64 (gv l i).p) ∧ w.cell? ⟨b, o + i * 3 + 1, none⟩ = some (.int .i64 (gv l i).k) ∧ w.cell? ⟨b, o + i * 3 + 2, none⟩ = some (.int .i64 (gv l i).v) := by
  obtain ⟨hl, A', c', he, h1, h2, h3, h4⟩ := h
  injection he with e1 e2 e3
  subst e1
  obtain ⟨b, o, rfl, hc⟩ := h4 (by omega)
  have hcell : ∀ j, j < 3 → ∀ u, (gv l i).cells[j]? = some u → w.cell? ⟨b, o + i * 3 + j, none⟩ = some u := by
    intro j hj u hu
    have := hc (i * 3 + j) u (by rw [vcells_at l i j hi hj]; exact hu)
    rw [← Nat.add_assoc] at this
    exact this
  exact ⟨b, o, rfl, hcell 0 (by omega) _ rfl, hcell 1 (by omega) _ rfl, hcell 2 (by omega) _ rfl⟩

/-- A version is in range, at index i. -/
def verOk (x : Ver) (i : Nat) : Bool := (i == 0 || inR x.p 0 ((i : Int) - 1)) && inR x.k 0 7 && inR x.v 0 999
def areVers (l : List Ver) : Bool := inR l.length 1 60 && ((gv l 0).p == -1) && (List.range l.length).all fun i => verOk (gv l i) i

/-- All versions below k are in range. -/
def okTo (l : List Ver) (k : Nat) : Prop := ∀ i, i < k → verOk (gv l i) i = true
theorem okTo_succ {l : List Ver} {k : Nat} (h : okTo l k) (hk : Hid (verOk (gv l k) k = true)) : okTo l (k + 1) := by
  intro i hi
  by_cases e : i = k
  · subst e; exact hk.out
  · exact h i (by omega)
theorem areVers_no {l : List Ver} {k : Nat} (hk : k < l.length) (h : verOk (gv l k) k = false) : areVers l = false := by
  unfold areVers
  have : (List.range l.length).all (fun i => verOk (gv l i) i) = false := by
    rw [List.all_eq_false]
    exact ⟨k, by simpa using hk, by rw [h]; decide⟩
  rw [this]; simp
theorem areVers_yes {l : List Ver} (h1 : inR l.length 1 60 = true) (h2 : (gv l 0).p = -1) (h : okTo l l.length) : areVers l = true := by
  unfold areVers
  have : (List.range l.length).all (fun i => verOk (gv l i) i) = true := by
    rw [List.all_eq_true]
    intro i hi
    exact h i (by simpa using hi)
  rw [this, h1, h2]; rfl

set_option maxRecDepth 100000 in
set_option maxHeartbeats 3200000 in
theorem areVersions_any (v : Value) (l : List Ver) (w : World) (h : VersAt w v l) :
    Calls Tryd.prog 23 #[v] w fun e w' => e = .returned (.bool (areVers l)) ∧ Below w.heap.size w w' := by
  obtain ⟨A, c, rfl, hnc, hc63⟩ := h.shape
  cases hn : inR l.length 1 60
  · have hr : Hid (areVers l = false) := by show areVers l = false; unfold areVers; rw [hn]; rfl
    go_enter Tryd.func23, Tryd.ntmps23
    go_wp2_with (go_at_call 54; refine (within_any _ _ _ _).mono ?_; rintro e w' ⟨rfl, rfl⟩)
    go_ret
    exact ⟨ret_bool hr.out.symm, Below.refl _ _⟩
  · obtain ⟨hn0, hn1⟩ := inR_t.1 hn
    obtain ⟨b, o, rfl, hc0, _, _⟩ := h.at_ 0 (by omega)
    simp at hc0
    cases hp : ((gv l 0).p != -1)
    case true =>
      have hr : Hid (areVers l = false) := by
        show areVers l = false
        unfold areVers
        have : ((gv l 0).p == -1) = false := by simpa using hp
        rw [this]; simp
      go_enter Tryd.func23, Tryd.ntmps23
      go_wp2_with (go_at_call 54; refine (within_any _ _ _ _).mono ?_; rintro e w' ⟨rfl, rfl⟩)
      go_ret
      exact ⟨ret_bool hr.out.symm, Below.refl _ _⟩
    have Hn := Lib.hid hn
    have hp' : Hid ((gv l 0).p = -1) := by show _ = _; simpa using hp
    go_enter Tryd.func23, Tryd.ntmps23
    go_wp2_with (go_at_call 54; refine (within_any _ _ _ _).mono ?_; rintro e w' ⟨rfl, rfl⟩)
    clear hp hn
    go_loopw [18] (fun i wr => ∃ k : Nat, k ≤ l.length ∧ i = .int .i64 k ∧ Below w.heap.size w wr ∧ okTo l k) (fun i _ => l.length - (intOf i).toNat)
    case atStart => exact ⟨0, Nat.zero_le _, rfl, Below.refl _ _, fun i hi => absurd hi (by omega)⟩
    case round =>
      obtain ⟨k, hk, rfl, hb, hall⟩ := hrel
      by_cases hlt : k < l.length
      · obtain ⟨b', o', he, hc1, hc2, hc3⟩ := VersAt.at_ (h.below hb (Nat.le_refl _)) k hlt
        injection he with he
        injection he with e1 e2
        subst e1 e2
        have hsub : decide ((0 : Int) < (k : Int)) = decide (0 < k) := by rw [decide_eq_decide]; omega
        clear hsub
        by_cases hk0 : 0 < k
        · cases hA : inR (gv l k).p 0 ((k : Int) - 1) <;> cases hB : inR (gv l k).k 0 7 <;> cases hC : inR (gv l k).v 0 999
          case true.true.true =>
            have hok : Hid (verOk (gv l k) k = true) := by show verOk _ _ = _; unfold verOk; rw [hA, hB, hC]; simp
            go_wp2_with (go_at_call 54; refine (within_any _ _ _ _).mono ?_; rintro e w' ⟨rfl, rfl⟩)
            go_roundw
            case rel => exact ⟨k + 1, by omega, by go_num, hb.alloc hb.size _, okTo_succ hall hok⟩
            case measure => simp [intOf]; omega
          all_goals
            have hok : Hid (verOk (gv l k) k = false) := by show verOk _ _ = _; unfold verOk; rw [hA, hB, hC]; simp; try omega
            go_wp2_with (go_at_call 54; refine (within_any _ _ _ _).mono ?_; rintro e w' ⟨rfl, rfl⟩)
            go_ret
            exact ⟨ret_bool (areVers_no hlt hok.out).symm, hb.alloc hb.size _⟩
        · cases hB : inR (gv l k).k 0 7 <;> cases hC : inR (gv l k).v 0 999
          case true.true =>
            have hok : Hid (verOk (gv l k) k = true) := by show verOk _ _ = _; unfold verOk; rw [hB, hC]; simp; omega
            go_wp2_with (go_at_call 54; refine (within_any _ _ _ _).mono ?_; rintro e w' ⟨rfl, rfl⟩)
            go_roundw
            case rel => exact ⟨k + 1, by omega, by go_num, hb.alloc hb.size _, okTo_succ hall hok⟩
            case measure => simp [intOf]; omega
          all_goals
            have hok : Hid (verOk (gv l k) k = false) := by show verOk _ _ = _; unfold verOk; rw [hB, hC]; simp
            go_wp2_with (go_at_call 54; refine (within_any _ _ _ _).mono ?_; rintro e w' ⟨rfl, rfl⟩)
            go_ret
            exact ⟨ret_bool (areVers_no hlt hok.out).symm, hb.alloc hb.size _⟩
      · have hx : k = l.length := by omega
        subst hx
        have hr : Hid (areVers l = true) := areVers_yes Hn.out hp'.out hall
        go_wp2_with fail
        go_ret
        exact ⟨ret_bool hr.out.symm, hb⟩

theorem areVers_p {l : List Ver} (h0 : 0 < l.length) (h : (gv l 0).p ≠ -1) : areVers l = false := by
  unfold areVers
  have : ((gv l 0).p == -1) = false := beq_eq_false_iff_ne.2 h
  rw [this]; simp
theorem areVers_len {l : List Ver} (h1 : inR l.length 1 60 = false) : areVers l = false := by
  unfold areVers; rw [h1]; rfl
theorem verOk_no {x : Ver} {k : Nat} (h : (0 < k ∧ inR x.p 0 ((k : Int) - 1) = false) ∨ inR x.k 0 7 = false ∨ inR x.v 0 999 = false) : verOk x k = false := by
  unfold verOk
  rcases h with ⟨h0, h⟩ | h | h
  · rw [h]; simp; omega
  · rw [h]; simp
  · rw [h]; simp
theorem verOk_yes {x : Ver} {k : Nat} (h : k = 0 ∨ inR x.p 0 ((k : Int) - 1) = true) (h1 : inR x.k 0 7 = true) (h2 : inR x.v 0 999 = true) : verOk x k = true := by
  unfold verOk
  rw [h1, h2]
  rcases h with rfl | h
  · simp
  · rw [h]; simp

set_option maxRecDepth 100000 in
set_option maxHeartbeats 3200000 in
theorem vrGood_any (v : Value) (l : List Ver) (w : World) (h : VersAt w v l) :
    Calls Tryd.prog 31 #[v] w fun e w' => e = .returned (.bool (areVers l)) ∧ Below w.heap.size w w' := by
  obtain ⟨A, c, rfl, hnc, hc63⟩ := h.shape
  go_enter Tryd.func31, Tryd.ntmps31
  go_wp2_with fail
  go_loopw [7] (fun i wr => ∃ k : Nat, k ≤ l.length ∧ i = .int .i64 k ∧ Below w.heap.size w wr ∧ okTo l k ∧ Hid (0 < k → (gv l 0).p = -1)) (fun i _ => l.length - (intOf i).toNat)
  case atStart => exact ⟨0, Nat.zero_le _, rfl, Below.refl _ _, (fun i hi => absurd hi (by omega)), fun h => absurd h (by omega)⟩
  case round =>
    obtain ⟨k, hk, rfl, hb, hall, hfst⟩ := hrel
    by_cases hlt : k < l.length
    · obtain ⟨b, o, rfl, hc1, hc2, hc3⟩ := VersAt.at_ (h.below hb (Nat.le_refl _)) k hlt
      by_cases hk0 : 0 < k
      · have hfst2 : Hid (0 < k + 1 → (gv l 0).p = -1) := fun _ => hfst.out hk0
        cases hA : inR (gv l k).p 0 ((k : Int) - 1) <;> cases hB : inR (gv l k).k 0 7 <;> cases hC : inR (gv l k).v 0 999
        case true.true.true =>
          have hok : Hid (verOk (gv l k) k = true) := verOk_yes (.inr hA) hB hC
          go_wp2_with (go_at_call 59; refine (l1In_any _ _ _ _).mono ?_; rintro e w' ⟨rfl, rfl⟩)
          go_roundw
          case rel => exact ⟨k + 1, by omega, by go_num, hb.alloc hb.size _, okTo_succ hall hok, hfst2⟩
          case measure => simp [intOf]; omega
        all_goals
          have hok : Hid (verOk (gv l k) k = false) := verOk_no (by first | exact .inl ⟨hk0, hA⟩ | exact .inr (.inl hB) | exact .inr (.inr hC))
          go_wp2_with (go_at_call 59; refine (l1In_any _ _ _ _).mono ?_; rintro e w' ⟨rfl, rfl⟩)
          go_ret
          exact ⟨ret_bool (areVers_no hlt hok.out).symm, hb.alloc hb.size _⟩
      · obtain rfl : k = 0 := by omega
        have hA : inR (gv l 0).p 0 (-1) = false := by rw [inR_f]; omega
        have hA2 : inR (gv l 0).p 0 ((0 : Int) - 1) = false := by rw [inR_f]; omega
        simp at hc1 hc2 hc3
        cases hP : ((gv l 0).p != -1) <;> cases hB : inR (gv l 0).k 0 7 <;> cases hC : inR (gv l 0).v 0 999
        case false.true.true =>
          have hok : Hid (verOk (gv l 0) 0 = true) := verOk_yes (.inl rfl) hB hC
          have hfst2 : Hid (0 < 0 + 1 → (gv l 0).p = -1) := fun _ => by simpa using hP
          go_wp2_with (go_at_call 59; refine (l1In_any _ _ _ _).mono ?_; rintro e w' ⟨rfl, rfl⟩)
          go_roundw
          case rel => exact ⟨1, by omega, by go_num, hb.alloc hb.size _, okTo_succ hall hok, hfst2⟩
          case measure => simp [intOf]; omega
        all_goals
          have hok : Hid (areVers l = false) := by first | exact areVers_p hlt (by simpa using hP) | exact areVers_no hlt (verOk_no (.inr (.inl hB))) | exact areVers_no hlt (verOk_no (.inr (.inr hC)))
          go_wp2_with (go_at_call 59; refine (l1In_any _ _ _ _).mono ?_; rintro e w' ⟨rfl, rfl⟩)
          go_ret
          exact ⟨ret_bool hok.out.symm, hb.alloc hb.size _⟩
    · have hx : k = l.length := by omega
      subst hx
      cases hn : inR l.length 1 60
      · have hr : Hid (areVers l = false) := areVers_len hn
        go_wp2_with (go_at_call 59; refine (l1In_any _ _ _ _).mono ?_; rintro e w' ⟨rfl, rfl⟩)
        go_ret
        exact ⟨ret_bool hr.out.symm, hb⟩
      · have h1 := (inR_t.1 hn).1
        have hr : Hid (areVers l = true) := areVers_yes hn (hfst.out (by omega)) hall
        clear h1
        go_wp2_with (go_at_call 59; refine (l1In_any _ _ _ _).mono ?_; rintro e w' ⟨rfl, rfl⟩)
        go_ret
        exact ⟨ret_bool hr.out.symm, hb⟩
end Go.Proofs.YtgngnkndebkbmaaDoor
