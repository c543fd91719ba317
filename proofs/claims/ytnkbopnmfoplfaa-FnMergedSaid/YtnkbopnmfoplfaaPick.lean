/- The cursor of the draws: pick, one, among. -/
import Derived.Test.YtnkbopnmfoplfaaCur
set_option linter.unusedSimpArgs false
set_option linter.unusedVariables false
namespace Go.Proofs.Ytnkbopnmfoplfaa
open Go.RowKit Go.Sort

/-- What pick yields, and how many steps it goes. -/
def pkV (code : List Nat) (n : Nat) (m : Int) : Int := if m ≤ 1 then 0 else if m ≤ 200 then (byN code n : Int) % m else ((byN code n : Int) * 256 + (byN code (n + 1) : Int)) % m
def pkK (m : Int) : Nat := if m ≤ 1 then 0 else if m ≤ 200 then 1 else 2
theorem pk_1 {code : List Nat} {n : Nat} {m : Int} (h : m ≤ 1) : pkV code n m = 0 ∧ pkK m = 0 := by unfold pkV pkK; rw [if_pos h, if_pos h]; exact ⟨rfl, rfl⟩
theorem pk_2 {code : List Nat} {n : Nat} {m : Int} (h : ¬ m ≤ 1) (h2 : m ≤ 200) : pkV code n m = (byN code n : Int) % m ∧ pkK m = 1 := by unfold pkV pkK; rw [if_neg h, if_neg h, if_pos h2, if_pos h2]; exact ⟨rfl, rfl⟩
theorem pk_3 {code : List Nat} {n : Nat} {m : Int} (h : ¬ m ≤ 1) (h2 : ¬ m ≤ 200) : pkV code n m = ((byN code n : Int) * 256 + (byN code (n + 1) : Int)) % m ∧ pkK m = 2 := by unfold pkV pkK; rw [if_neg h, if_neg h, if_neg h2, if_neg h2]; exact ⟨rfl, rfl⟩
theorem pkV_bd (code : List Nat) (n : Nat) (m : Int) (h : 1 ≤ m) : 0 ≤ pkV code n m ∧ pkV code n m < m := by
  unfold pkV
  split
  · omega
  · split
    · exact ⟨Int.emod_nonneg _ (by omega), Int.emod_lt_of_pos _ (by omega)⟩
    · exact ⟨Int.emod_nonneg _ (by omega), Int.emod_lt_of_pos _ (by omega)⟩
theorem pkV_nn (code : List Nat) (n : Nat) (m : Int) : 0 ≤ pkV code n m := by
  by_cases h : m ≤ 1
  · rw [(pk_1 h).1]; exact Int.le_refl _
  · exact (pkV_bd code n m (by omega)).1
theorem pkK_le (m : Int) : pkK m ≤ 2 := by unfold pkK; split; · omega
                                           split <;> omega
theorem rem_in (x m : Int) (h0 : 0 ≤ x) (h1 : x ≤ 65535) (hm : 2 ≤ m) : Int.tmod x m = x % m ∧ IntKind.i64.wrap (Int.tmod x m) = x % m := by
  have h := Int.emod_nonneg x (show m ≠ 0 by omega)
  have h3 : 0 ≤ m * (x / m) := Int.mul_nonneg (by omega) (Int.ediv_nonneg h0 (by omega))
  have h4 := Int.mul_ediv_add_emod x m
  have h2 : x % m ≤ x := by omega
  rw [Int.tmod_eq_emod_of_nonneg h0]
  exact ⟨rfl, IntWalk.i64_in _ (by omega)⟩
set_option maxRecDepth 100000 in
set_option maxHeartbeats 1600000 in
theorem pick_any (g n : Nat) (v : Value) (code : List Nat) (m : Int) (w : World) (h : CurAt w g v code n) (hn : n ≤ 4611686018427380000) :
    Calls Try.prog 65 #[.pointer (some ⟨g, 0, none⟩), .int .i64 m] w
      fun e w' => e = .returned (.int .i64 (pkV code n m)) ∧ CurAt w' g v code (n + pkK m) ∧ Apg g w w' := by
  have b0 := byN_lt h.wf n
  have b1 := byN_lt h.wf (n + 1)
  obtain ⟨x, hx⟩ : ∃ x : Int, x = (byN code n : Nat) := ⟨_, rfl⟩
  obtain ⟨y, hy⟩ : ∃ y : Int, y = (byN code (n + 1) : Nat) := ⟨_, rfl⟩
  have HN : ∀ w', CurAt w' g v code n → Calls Try.prog 70 #[.pointer (some ⟨g, 0, none⟩)] w' (fun e w'' => e = .returned (.int .i64 x) ∧ CurAt w'' g v code (n + 1) ∧ Apg g w' w'') := fun w' h' => by rw [hx]; exact next_any g n v code w' h' (by omega)
  have HN2 : ∀ w', CurAt w' g v code (n + 1) → Calls Try.prog 70 #[.pointer (some ⟨g, 0, none⟩)] w' (fun e w'' => e = .returned (.int .i64 y) ∧ CurAt w'' g v code (n + 1 + 1) ∧ Apg g w' w'') := fun w' h' => by rw [hy]; exact next_any g (n + 1) v code w' h' (by omega)
  have H1 := Lib.hid HN
  have H2 := Lib.hid HN2
  have x0 : 0 ≤ x := by omega
  have x1 : x < 256 := by omega
  have y0 : 0 ≤ y := by omega
  have y1 : y < 256 := by omega
  by_cases h1 : m ≤ 1
  · obtain ⟨e1, e2⟩ := pk_1 (code := code) (n := n) h1
    have E1 := Lib.hid e1
    have E2 := Lib.hid e2
    clear e1 e2 HN HN2 hx hy
    have H := Lib.hid h
    clear h
    go_enter Try.func65, Try.ntmps65
    go_wp2_with fail
    go_ret
    exact ⟨ret_int E1.out.symm, by rw [E2.out]; exact H.out, Apart.refl _ _ _⟩
  by_cases h2 : m ≤ 200
  · obtain ⟨e1, e2⟩ := pk_2 (code := code) (n := n) h1 h2
    rw [← hx] at e1
    obtain ⟨r1, r2⟩ := rem_in x m x0 (by omega) (by omega)
    have hm0 : m ≠ 0 := by omega
    have hm1 : m ≠ -1 := by omega
    have E1 := Lib.hid e1
    have E2 := Lib.hid e2
    clear e1 e2 HN HN2 hx hy
    go_enter Try.func65, Try.ntmps65
    go_wp2_with fail
    refine (H1.out _ h).mono ?_; rintro e w1 ⟨rfl, q1, a1⟩
    go_wp2_with fail
    go_ret
    exact ⟨ret_int E1.out.symm, by rw [E2.out]; exact q1, a1⟩
  · obtain ⟨e1, e2⟩ := pk_3 (code := code) (n := n) h1 h2
    rw [← hx, ← hy] at e1
    obtain ⟨r1, r2⟩ := rem_in (x * 256 + y) m (by omega) (by omega) (by omega)
    have hm0 : m ≠ 0 := by omega
    have hm1 : m ≠ -1 := by omega
    have E1 := Lib.hid e1
    have E2 := Lib.hid e2
    clear e1 e2 HN HN2 hx hy
    go_enter Try.func65, Try.ntmps65
    go_wp2_with fail
    refine (H1.out _ h).mono ?_; rintro e w1 ⟨rfl, q1, a1⟩
    go_wp2_with fail
    refine (H2.out _ q1).mono ?_; rintro e w2 ⟨rfl, q2, a2⟩
    go_wp2_with fail
    go_ret
    exact ⟨ret_int E1.out.symm, by rw [E2.out]; exact q2, a1.trans a2⟩
theorem one_any (g n : Nat) (v : Value) (code : List Nat) (m : Int) (w : World) (h : CurAt w g v code n) (hn : n ≤ 4611686018427380000) :
    Calls Try.prog 58 #[.pointer (some ⟨g, 0, none⟩), .int .i64 m] w
      fun e w' => e = .returned (.bool (decide (pkV code n m = 0))) ∧ CurAt w' g v code (n + pkK m) ∧ Apg g w w' := by
  go_enter Try.func58, Try.ntmps58
  go_wp2_with fail
  refine (pick_any g n v code m _ h hn).mono ?_; rintro e w1 ⟨rfl, q1, a1⟩
  go_wp2_with fail
  go_ret
  exact ⟨rfl, q1, a1⟩
set_option maxHeartbeats 1600000 in
theorem among_any (g n : Nat) (v lv : Value) (code : List Nat) (l : List Int) (w : World) (h : CurAt w g v code n) (hn : n ≤ 4611686018427380000) (hl : OwnInts w (g + 1) lv l) (h0 : 1 ≤ l.length) :
    Calls Try.prog 72 #[.pointer (some ⟨g, 0, none⟩), lv] w
      fun e w' => e = .returned (.int .i64 (gi l (pkV code n l.length).toNat)) ∧ CurAt w' g v code (n + pkK l.length) ∧ Apg g w w' := by
  obtain ⟨A, c, rfl, hnc, hc63⟩ := hl.reads.shape
  obtain ⟨p0, p1⟩ := pkV_bd code n l.length (by omega)
  have HP : ∀ w', CurAt w' g v code n → Calls Try.prog 65 #[.pointer (some ⟨g, 0, none⟩), .int .i64 l.length] w' (fun e w'' => e = .returned (.int .i64 (pkV code n l.length)) ∧ CurAt w'' g v code (n + pkK l.length) ∧ Apg g w' w'') := fun w' h' => pick_any g n v code _ w' h' hn
  obtain ⟨p, hp⟩ : ∃ p : Int, p = pkV code n l.length := ⟨_, rfl⟩
  rw [← hp] at HP p0 p1 ⊢
  have H1 := Lib.hid HP
  obtain ⟨q, hq⟩ : ∃ q : Nat, p = q := ⟨p.toNat, by omega⟩
  subst hq
  have HP2 := Lib.hid hp
  clear HP hp
  go_enter Try.func72, Try.ntmps72
  go_wp2_with fail
  refine (H1.out _ h).mono ?_; rintro e w1 ⟨rfl, q1, a1⟩
  obtain ⟨b, o, rfl, hc⟩ := (hl.apt a1 (Nat.le_refl _)).reads.at_ q (by omega)
  go_wp2_with fail
  go_ret
  exact ⟨rfl, q1, a1⟩
end Go.Proofs.Ytnkbopnmfoplfaa
