/- The walk of the law FnExactIsFrame. -/
import Derived.Test.YtkkiihcldjappaaJrnl
import Derived.Test.YtkkiihcldjappaaOpen
set_option linter.unusedSimpArgs false
set_option linter.unusedVariables false
namespace Go.Proofs.Ytkkiihcldjappaa
open Go.RowKit
theorem FnExactIsFrame_walk (v0 : Value) (l0 : List Int) (w : World) (h0 : IntsAt w v0 l0) (_ : WfInts l0) :
    Calls Try.prog 3 #[v0] w (LawPost w) := by
  obtain ⟨A, c, rfl, hnc, hc63⟩ := h0.shape
  by_cases hl : l0.length ≤ 1048576
  · go_enter Try.func3, Try.ntmps3
    go_wp2_with fail
    refine (toIntS_any _ l0 _ h0 hl).mono ?_; rintro e w1 ⟨v1, rfl, o1, b1⟩
    go_wp2_with fail
    refine (specIsFrame_any _ l0 _ o1.reads).mono ?_; rintro e _ ⟨rfl, rfl⟩
    go_wp2_with fail
    have h1 := h0.below b1 (Nat.le_refl _)
    refine (toIntS_any _ l0 _ h1 hl).mono ?_; rintro e w2 ⟨v2, rfl, o2, b2⟩
    go_wp2_with fail
    refine (implIsFrame_any _ l0 _ o2.reads).mono ?_; rintro e _ ⟨rfl, rfl⟩
    go_wp2_with fail
    have h2 := h1.below b2 (Nat.le_refl _)
    refine (toIntS_any _ l0 _ h2 hl).mono ?_; rintro e w3 ⟨v3, rfl, o3, b3⟩
    go_wp2_with fail
    refine (eqIntS_any _ _ l0 l0 _ (o2.below b3 (Nat.le_refl _)).reads o3.reads).mono ?_; rintro e w4 ⟨rfl, b4⟩
    go_wp2_with fail
    go_ret
    exact ⟨rfl, ((b1.next (Nat.le_refl _) b2).next (Nat.le_refl _) b3).next (Nat.le_refl _) b4⟩
  · go_enter Try.func3, Try.ntmps3
    go_wp2_with fail
    go_ret
    exact ⟨rfl, Below.refl _ _⟩
end Go.Proofs.Ytkkiihcldjappaa
