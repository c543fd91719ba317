/- Contracts: the performers in conflict; merged charts. -/
import Derived.Test.YtnkbopnmfoplfaaEditSame
set_option linter.unusedSimpArgs false
set_option linter.unusedVariables false
namespace Go.Proofs.Ytnkbopnmfoplfaa
open Go.RowKit

/-- What a performer's spot becomes, and whether there is a conflict: s before, x and y behind. -/
def mgSpot (s x y : Spt) : Spt := if x = y ∨ y = s then x else if x = s then y else s
def mgConf (s x y : Spt) : Bool := decide (x ≠ s) && decide (y ≠ s) && decide (x ≠ y)
def mgS (l x y : List Spt) : Nat → List Spt
  | 0 => []
  | n + 1 => mgS l x y n ++ [mgSpot (gx sptRec l n) (gx sptRec x n) (gx sptRec y n)]
def mgC (l x y : List Spt) : Nat → List Int
  | 0 => []
  | n + 1 => mgC l x y n ++ if mgConf (gx sptRec l n) (gx sptRec x n) (gx sptRec y n) then [(n : Int)] else []
theorem mgS_len (l x y : List Spt) (n : Nat) : (mgS l x y n).length = n := by
  induction n with
  | zero => rfl
  | succ n ih => unfold mgS; rw [List.length_append, ih]; rfl
theorem mgC_len (l x y : List Spt) (n : Nat) : (mgC l x y n).length ≤ n := by
  induction n with
  | zero => simp [mgC]
  | succ n ih => unfold mgC; rw [List.length_append]; split <;> simp <;> omega
theorem mgC_no {l x y : List Spt} {n : Nat} (h : mgConf (gx sptRec l n) (gx sptRec x n) (gx sptRec y n) = false) : mgC l x y (n + 1) = mgC l x y n := by
  conv => lhs; unfold mgC
  rw [h]; simp
theorem mgC_yes {l x y : List Spt} {n : Nat} (h : mgConf (gx sptRec l n) (gx sptRec x n) (gx sptRec y n) = true) : mgC l x y (n + 1) = mgC l x y n ++ [(n : Int)] := by
  conv => lhs; unfold mgC
  rw [h]; simp
theorem mgS_succ {l x y : List Spt} {n : Nat} {u : Spt} (h : mgSpot (gx sptRec l n) (gx sptRec x n) (gx sptRec y n) = u) : mgS l x y (n + 1) = mgS l x y n ++ [u] := by
  conv => lhs; unfold mgS
  rw [h]
theorem spt_cases (a b : Spt) : (a = b ∧ (a.x == b.x) = true ∧ (a.y == b.y) = true ∧ (a.x != b.x) = false ∧ (a.y != b.y) = false) ∨
    (a ≠ b ∧ (a.x == b.x) = true ∧ (a.y == b.y) = false ∧ (a.x != b.x) = false ∧ (a.y != b.y) = true) ∨
    (a ≠ b ∧ (a.x == b.x) = false ∧ (a.y == b.y) = true ∧ (a.x != b.x) = true ∧ (a.y != b.y) = false) ∨
    (a ≠ b ∧ (a.x == b.x) = false ∧ (a.y == b.y) = false ∧ (a.x != b.x) = true ∧ (a.y != b.y) = true) := by
  cases a; cases b
  rename_i x y z t
  by_cases h1 : x = z <;> by_cases h2 : y = t <;> simp [h1, h2]

set_option maxHeartbeats 6400000 in
theorem editConflicts_any (v vx vy : Value) (l x y : List Spt) (w : World) (h : RowAt sptRec w v l) (hx : RowAt sptRec w vx x) (hy : RowAt sptRec w vy y) (hlx : l.length = x.length) (hly : l.length = y.length) (h12 : l.length ≤ 12) :
    Calls Try.prog 22 #[v, vx, vy] w (FreshInts w (mgC l x y l.length)) := by
  obtain ⟨A, c, rfl, hnc, hc63⟩ := h.shape
  obtain ⟨X, cx, rfl, hnx, hcx⟩ := hx.shape
  obtain ⟨Y, cy, rfl, hny, hcy⟩ := hy.shape
  rw [← hlx] at hnx hx ⊢
  rw [← hly] at hny hy ⊢
  have Hlx := Lib.hid hlx
  have Hly := Lib.hid hly
  clear hlx hly
  go_enter Try.func22, Try.ntmps22
  go_wp2_with fail
  go_loopg [7, 13] l.length (fun g t s wr => ∃ n : Nat, n ≤ l.length ∧ l.length ≤ n + g ∧ s = .int .i64 n ∧ OwnInts wr w.heap.size t (mgC l x y n) ∧ Below w.heap.size w wr)
  case atStart => exact ⟨0, Nat.zero_le _, by omega, rfl, OwnInts.empty w _ (Nat.le_refl _), (Below.refl _ _).alloc (Nat.le_refl _) _⟩
  case round =>
    obtain ⟨n, hn, hng, rfl, ho, hb⟩ := hrel
    by_cases hlt : n < l.length
    · obtain ⟨b, q, rfl, hc0, hc1⟩ := spt_at (h.below hb (Nat.le_refl _)) n hlt
      obtain ⟨bx, qx, rfl, hx0, hx1⟩ := spt_at (hx.below hb (Nat.le_refl _)) n (by have := Hlx.out; omega)
      obtain ⟨by_, qy, rfl, hy0, hy1⟩ := spt_at (hy.below hb (Nat.le_refl _)) n (by have := Hly.out; omega)
      have lx : bx < wr.heap.size := World.block_lt_of_cell? wr _ hx0
      have ly : by_ < wr.heap.size := World.block_lt_of_cell? wr _ hy0
      have hi0 : (0 : Int) ≤ (n : Int) := by omega
      have hi1 : (n : Int) < (l.length : Int) := by omega
      have hbA : Below w.heap.size w (wr.alloc (.cells #[.int .i64 (gx sptRec l n).x, .int .i64 (gx sptRec l n).y] 42)) := hb.alloc hb.size _
      have hoA : OwnInts (wr.alloc (.cells #[.int .i64 (gx sptRec l n).x, .int .i64 (gx sptRec l n).y] 42)) w.heap.size u7 (mgC l x y n) := World.ownsRow.alloc ho _
      have hml := mgC_len l x y n
      have h9 : (mgC l x y n).length + 1 ≤ 1099511627776 := by omega
      go_upto_region 5 with fail
      go_cut [42] (fun s wx => s = .bool (mgConf (gx sptRec l n) (gx sptRec x n) (gx sptRec y n)) ∧ OwnInts wx w.heap.size u7 (mgC l x y n) ∧ Below w.heap.size w wx)
      case first =>
        have hcf : Hid (mgConf (gx sptRec l n) (gx sptRec x n) (gx sptRec y n) = (decide (gx sptRec x n ≠ gx sptRec l n) && decide (gx sptRec y n ≠ gx sptRec l n) && decide (gx sptRec x n ≠ gx sptRec y n))) := rfl
        rcases spt_cases (gx sptRec x n) (gx sptRec l n) with ⟨k1, a1, a2, a3, a4⟩ | ⟨k1, a1, a2, a3, a4⟩ | ⟨k1, a1, a2, a3, a4⟩ | ⟨k1, a1, a2, a3, a4⟩
        case inl =>
          have hf : Hid (mgConf (gx sptRec l n) (gx sptRec x n) (gx sptRec y n) = false) := by show _ = _; rw [hcf.out, k1]; simp
          clear k1
          go_quiet (fail)
          go_wp2_with fail
          go_meet
          exact ⟨by rw [hf.out], hoA, hbA.drewN _⟩
        all_goals
          rcases spt_cases (gx sptRec y n) (gx sptRec l n) with ⟨k2, c1, c2, c3, c4⟩ | ⟨k2, c1, c2, c3, c4⟩ | ⟨k2, c1, c2, c3, c4⟩ | ⟨k2, c1, c2, c3, c4⟩
          · have hf : Hid (mgConf (gx sptRec l n) (gx sptRec x n) (gx sptRec y n) = false) := by show _ = _; rw [hcf.out, k2]; simp
            clear k1 k2
            go_quiet (fail)
            go_wp2_with fail
            go_meet
            exact ⟨by rw [hf.out], hoA, hbA.drewN _⟩
          all_goals
            rcases spt_cases (gx sptRec x n) (gx sptRec y n) with ⟨k3, d1, d2, d3, d4⟩ | ⟨k3, d1, d2, d3, d4⟩ | ⟨k3, d1, d2, d3, d4⟩ | ⟨k3, d1, d2, d3, d4⟩
            · have hf : Hid (mgConf (gx sptRec l n) (gx sptRec x n) (gx sptRec y n) = false) := by show _ = _; rw [hcf.out, k3]; simp
              clear k1 k2 k3
              go_quiet (fail)
              go_wp2_with fail
              go_meet
              exact ⟨by rw [hf.out], hoA, hbA.drewN _⟩
            all_goals
              have hf : Hid (mgConf (gx sptRec l n) (gx sptRec x n) (gx sptRec y n) = true) := by show _ = _; rw [hcf.out, decide_eq_true k1, decide_eq_true k2, decide_eq_true k3]; rfl
              clear k1 k2 k3
              go_quiet (fail)
              go_wp2_with fail
              go_meet
              exact ⟨by rw [hf.out], hoA, hbA.drewN _⟩
      case rest =>
        obtain ⟨rfl, ho1, hb1⟩ := hcut
        cases hcf : mgConf (gx sptRec l n) (gx sptRec x n) (gx sptRec y n)
        · have he := Lib.hid (mgC_no hcf)
          go_wp2_with fail
          go_roundg (gk - 1)
          case measure => omega
          case rel => exact ⟨n + 1, by omega, by omega, by go_num, he.out ▸ ho1, hb1⟩
        · have he := Lib.hid (mgC_yes hcf)
          go_wp2_with (at_builtin; refine wp_app_int _ rfl _ _ rfl w.heap.size _ (mgC l x y n) rfl ho1 (n : Int) _ rfl rfl h9 hb1.size ?_; intro v1 w4 ho4 hg4)
          go_roundg (gk - 1)
          case measure => omega
          case rel => exact ⟨n + 1, by omega, by omega, by go_num, he.out ▸ ho4, hb1.trans hg4.below⟩
    · obtain rfl : n = l.length := by omega
      go_wp2_with fail
      go_ret
      exact ⟨_, rfl, ho, hb⟩

end Go.Proofs.Ytnkbopnmfoplfaa
