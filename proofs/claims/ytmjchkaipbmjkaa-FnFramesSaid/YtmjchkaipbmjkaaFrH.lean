/- Helpers of the drawn laws on journals. -/
import Derived.Test.YtmjchkaipbmjkaaSame
import Derived.Test.YtmjchkaipbmjkaaFrP
set_option linter.unusedSimpArgs false
set_option linter.unusedVariables false
namespace Go.Proofs.Ytmjchkaipbmjkaa
open Go.RowKit Go.Sort
theorem flat_take_le {ls : List (List Int)} {b : List Int} (h : rJournal ls = (b, true)) {i : Nat} (hi : i ≤ ls.length) : (flatB 0 (ls.take i)).length ≤ 240 := by
  obtain ⟨hbe, _, _, hb240, _⟩ := journal_whole h
  have h9 := flatB_app 0 (ls.take i) (ls.drop i)
  rw [List.take_append_drop] at h9
  rw [hbe, h9, List.length_append] at hb240
  omega
theorem sameInts_yes (v1 v2 : Value) (l : List Int) (w : World) (h1 : IntsAt w v1 l) (h2 : IntsAt w v2 l) :
    Calls Try.prog 9 #[v1, v2] w fun e w' => e = .returned (.bool true) ∧ Below w.heap.size w w' := by
  have := sameInts_any v1 v2 l l w h1 h2
  rwa [beq_self_eq_true] at this
theorem sameLists_yes (v1 v2 : Value) (l : List (List Int)) (w : World) (h1 : IntssAt w v1 l) (h2 : IntssAt w v2 l) :
    Calls Try.prog 11 #[v1, v2] w fun e w' => e = .returned (.bool true) ∧ Below w.heap.size w w' := by
  have := sameLists_any v1 v2 l l w h1 h2
  rwa [beq_self_eq_true] at this
theorem IntssAt.take {w : World} {A : Option Addr} {c : Nat} {ls : List (List Int)} (h : IntssAt w (.slice A ls.length c) ls) (k : Nat) (hk : k ≤ ls.length) : IntssAt w (.slice A k c) (ls.take k) := by
  obtain ⟨vs, h1, h2⟩ := h
  have hl : (ls.take k).length = k := by rw [List.length_take]; omega
  refine ⟨vs.take k, ?_, fun i u l hu hl2 => ?_⟩
  · have := Sl.take h1 k hk
    rw [hl]
    rwa [Nat.mul_one] at this
  · rw [List.getElem?_take] at hu hl2
    split at hu
    · rename_i hik
      rw [if_pos hik] at hl2
      exact h2 i u l hu hl2
    · cases hu
end Go.Proofs.Ytmjchkaipbmjkaa
