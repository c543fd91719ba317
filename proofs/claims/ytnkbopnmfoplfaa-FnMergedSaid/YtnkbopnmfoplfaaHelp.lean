/- Contracts of the small helpers: ranges, copies of lists of integers, their comparison, their marks. -/
import Derived.Test.YtnkbopnmfoplfaaBase
import Derived.Test.YtnkbopnmfoplfaaPlain
import Derived.Deep.QuietTactic
import Derived.BigQuiet
import Derived.Outline
set_option linter.unusedSimpArgs false
set_option linter.unusedVariables false
namespace Go.Proofs.Ytnkbopnmfoplfaa
open Go.RowKit

theorem within_any (n lo hi : Int) (w : World) :
    Calls Try.prog 39 #[.int .i64 n, .int .i64 lo, .int .i64 hi] w fun e w' => e = .returned (.bool (inR n lo hi)) ∧ w = w' := by
  go_enter Try.func39, Try.ntmps39
  go_wp2
  all_goals
    go_ret
    exact ⟨by simp [inR, *] <;> omega, rfl⟩

theorem l1In_any (n lo hi : Int) (w : World) :
    Calls Try.prog 46 #[.int .i64 n, .int .i64 lo, .int .i64 hi] w fun e w' => e = .returned (.bool (inR n lo hi)) ∧ w = w' := by
  go_enter Try.func46, Try.ntmps46
  go_wp2
  all_goals
    go_ret
    exact ⟨by simp [inR, *] <;> omega, rfl⟩

theorem gi_ne_f {a b : List Int} {k : Nat} (h : a.length = b.length) (hk : k < a.length) (hx : (gi a k != gi b k) = true) : (a == b) = false := by
  rw [beq_eq_false_iff_ne]
  rintro rfl
  simp at hx
theorem take_eq_succ {a b : List Int} {k : Nat} (h : a.length = b.length) (hk : k < a.length) (ht : a.take k = b.take k) (hx : (gi a k != gi b k) = false) : a.take (k + 1) = b.take (k + 1) := by
  rw [take_succ_gi a k hk, take_succ_gi b k (by omega), ht]
  simp at hx
  rw [hx]


def FreshInts (w : World) (l : List Int) (e : Ending) (w' : World) : Prop := ∃ v, e = .returned v ∧ OwnInts w' w.heap.size v l ∧ Below w.heap.size w w'


def MarkPost (w : World) (base : Nat) (v : Value) (k0 : Int) (n : Nat) (e : Ending) (w' : World) : Prop :=
  e = .returned (.int .i64 (k0 + n)) ∧ OwnInts w' base v (marks k0 n) ∧ w.grownBy w' v.ownBlock



/-! ### The four helpers of a law, for integers -/
def IntsMarked (w : World) (lo hi : Nat) (v : Value) (k0 : Int) (l : List Int) : Prop := OwnIn w lo hi v (marks k0 l.length)
def IntsMarkPost (w : World) (lo hi : Nat) (v : Value) (k0 : Int) (l : List Int) (e : Ending) (w' : World) : Prop :=
  e = .returned (.int .i64 (k0 + l.length)) ∧ IntsMarked w' lo hi v k0 l ∧ Apart lo hi w w'
theorem IntsMarked.keep {w w' : World} {lo hi : Nat} {v : Value} {k0 : Int} {l : List Int} (h : IntsMarked w lo hi v k0 l) (hk : KeepIn lo hi w w') : IntsMarked w' lo hi v k0 l := OwnIn.keep h hk

end Go.Proofs.Ytnkbopnmfoplfaa
