/- Contracts: the search for delays, in the program: who comes too close is laid in a table. -/
import Derived.Test.YtgcgkpmjahgmnaaTrC
import Derived.Test.YtgcgkpmjahgmnaaDlP
import Derived.StillTailTactics
set_option linter.unusedSimpArgs false
set_option linter.unusedVariables false
namespace Go.Proofs.Ytgcgkpmjahgmnaa
open Go.RowKit Go.Sort

def ix (i k p q : Nat) : Nat := i * 150 + k * 25 + p * 5 + q
theorem ix_inj {i k p q i' k' p' q' : Nat} (hk : k < 6) (hp : p < 5) (hq : q < 5) (hk' : k' < 6) (hp' : p' < 5) (hq' : q' < 5) (h : ix i k p q = ix i' k' p' q') : i = i' ∧ k = k' ∧ p = p' ∧ q = q' := by
  unfold ix at h; omega
abbrev Tb := Nat → Nat → Nat → Nat → Bool
def FillTo (C : Tb) (N c : Nat) (cur : Array Value) : Prop := ∀ i k p q, i < k → k < N → p < 5 → q < 5 → ix i k p q < c → cur[ix i k p q]? = some (.bool (C i k p q))
/-- The block of a search for delays: the table is filled so far. -/
def DsAt (w : World) (b : Nat) (C : Tb) (N c : Nat) (bv : Value) (sm : Int) : Prop := ∃ cur : Array Value, w.heap[b]? = some (.cells cur 90 (0, 0)) ∧ cur.size = 903 ∧ (∀ j, j < 900 → ∃ x : Bool, cur[j]? = some (.bool x)) ∧ FillTo C N c cur ∧ cur[900]? = some (.int .i64 (N : Int)) ∧ cur[901]? = some bv ∧ cur[902]? = some (.int .i64 sm)
theorem zero90 : Try.zeroCells90.toList = List.replicate 900 (Value.bool false) ++ [.int .i64 0, .slice none 0 0, .int .i64 0] := by kernel_rfl
theorem z90_at (j : Nat) : Try.zeroCells90[j]? = (List.replicate 900 (Value.bool false) ++ [.int .i64 0, .slice none 0 0, .int .i64 0])[j]? := by
  rw [← zero90, Array.getElem?_toList]
theorem z90_lo (j : Nat) (h : j < 900) : Try.zeroCells90[j]? = some (.bool false) := by
  rw [z90_at, List.getElem?_append_left (by rw [List.length_replicate]; exact h), List.getElem?_replicate, if_pos h]
theorem z90_hi (j : Nat) : Try.zeroCells90[900 + j]? = [Value.int .i64 0, .slice none 0 0, .int .i64 0][j]? := by
  rw [z90_at, List.getElem?_append_right (by rw [List.length_replicate]; omega), List.length_replicate, Nat.add_sub_cancel_left]
theorem z90_size : Try.zeroCells90.size = 903 := by
  rw [← Array.length_toList, zero90, List.length_append, List.length_replicate]; rfl
theorem DsAt.new (w : World) (C : Tb) (N : Nat) : DsAt (w.alloc (.cells (Try.zeroCells90.setIfInBounds 900 (.int .i64 (N : Int))) 90)) w.heap.size C N 0 (.slice none 0 0) 0 := by
  refine ⟨Try.zeroCells90.setIfInBounds 900 (.int .i64 (N : Int)), by show (w.heap.push _)[w.heap.size]? = _; rw [Array.getElem?_push_size], by rw [Array.size_setIfInBounds, z90_size], fun j hj => ⟨false, ?_⟩, fun i k p q _ _ _ _ h => absurd h (by omega), ?_, ?_, ?_⟩
  · rw [Array.getElem?_setIfInBounds_ne (by omega), z90_lo j hj]
  · rw [Array.getElem?_setIfInBounds_self_of_lt (by rw [z90_size]; omega)]
  · rw [Array.getElem?_setIfInBounds_ne (by omega)]; exact z90_hi 1
  · rw [Array.getElem?_setIfInBounds_ne (by omega)]; exact z90_hi 2
theorem DsAt.lt {w : World} {b : Nat} {C : Tb} {N c : Nat} {bv : Value} {sm : Int} (h : DsAt w b C N c bv sm) : b < w.heap.size := by
  obtain ⟨cur, h1, _⟩ := h
  exact (Array.getElem?_eq_some_iff.1 h1).1
theorem DsAt.keep {w w' : World} {b B : Nat} {C : Tb} {N c : Nat} {bv : Value} {sm : Int} (h : DsAt w b C N c bv sm) (hb : Below B w w') (hB : b < B) : DsAt w' b C N c bv sm := by
  obtain ⟨cur, h1, h2⟩ := h
  exact ⟨cur, (hb.block b hB).trans h1, h2⟩
theorem DsAt.cells {w : World} {b : Nat} {C : Tb} {N c : Nat} {bv : Value} {sm : Int} (h : DsAt w b C N c bv sm) : w.cell? ⟨b, 900, none⟩ = some (.int .i64 (N : Int)) ∧ w.cell? ⟨b, 901, none⟩ = some bv ∧ w.cell? ⟨b, 902, none⟩ = some (.int .i64 sm) ∧ w.frozen? ⟨b, 901, none⟩ = false ∧ w.frozen? ⟨b, 902, none⟩ = false := by
  obtain ⟨cur, h1, h2, h3, h4, h5, h6, h7⟩ := h
  exact ⟨by rw [cell_of_row w b 900 _ _ _ h1]; exact h5, by rw [cell_of_row w b 901 _ _ _ h1]; exact h6, by rw [cell_of_row w b 902 _ _ _ h1]; exact h7, frozen_of_row w b 901 _ _ h1, frozen_of_row w b 902 _ _ h1⟩
theorem DsAt.slot {w : World} {b : Nat} {C : Tb} {N c : Nat} {bv : Value} {sm : Int} (h : DsAt w b C N c bv sm) (j : Nat) (hj : j < 900) : (∃ x : Bool, w.cell? ⟨b, j, none⟩ = some (.bool x)) ∧ w.frozen? ⟨b, j, none⟩ = false := by
  obtain ⟨cur, h1, h2, h3, _⟩ := h
  obtain ⟨x, hx⟩ := h3 j hj
  exact ⟨⟨x, by rw [cell_of_row w b j _ _ _ h1]; exact hx⟩, frozen_of_row w b j _ _ h1⟩
theorem DsAt.at_ {w : World} {b : Nat} {C : Tb} {N c : Nat} {bv : Value} {sm : Int} (h : DsAt w b C N c bv sm) {i k p q : Nat} (hik : i < k) (hk : k < N) (hp : p < 5) (hq : q < 5) (hc : ix i k p q < c) : w.cell? ⟨b, ix i k p q, none⟩ = some (.bool (C i k p q)) := by
  obtain ⟨cur, h1, h2, h3, h4, _⟩ := h
  rw [cell_of_row w b _ _ _ _ h1]
  exact h4 i k p q hik hk hp hq hc
theorem DsAt.put {w : World} {b : Nat} {C : Tb} {N i k p q : Nat} {bv : Value} {sm : Int} (h : DsAt w b C N (ix i k p q) bv sm) (hik : i < k) (hk : k < N) (hN : N ≤ 6) (hp : p < 5) (hq : q < 5) : DsAt (w.setCell ⟨b, ix i k p q, none⟩ (.bool (C i k p q))) b C N (ix i k p q + 1) bv sm := by
  obtain ⟨cur, h1, h2, h3, h4, h5, h6, h7⟩ := h
  have hx : ix i k p q < 900 := by unfold ix; omega
  refine ⟨_, heap_setCell_same w b _ _ _ _ h1, by rw [Array.size_setIfInBounds]; exact h2, fun j hj => ?_, fun i' k' p' q' a1 a2 a3 a4 a5 => ?_, ?_, ?_, ?_⟩
  · by_cases e : ix i k p q = j
    · subst e; exact ⟨_, Array.getElem?_setIfInBounds_self_of_lt (by omega)⟩
    · rw [Array.getElem?_setIfInBounds_ne e]; exact h3 j hj
  · by_cases e : ix i k p q = ix i' k' p' q'
    · obtain ⟨rfl, rfl, rfl, rfl⟩ := ix_inj (by omega) hp hq (by omega) a3 a4 e
      exact Array.getElem?_setIfInBounds_self_of_lt (by omega)
    · rw [Array.getElem?_setIfInBounds_ne e]; exact h4 i' k' p' q' a1 a2 a3 a4 (by omega)
  · rw [Array.getElem?_setIfInBounds_ne (by omega)]; exact h5
  · rw [Array.getElem?_setIfInBounds_ne (by omega)]; exact h6
  · rw [Array.getElem?_setIfInBounds_ne (by omega)]; exact h7
theorem DsAt.to {w : World} {b : Nat} {C : Tb} {N c c' : Nat} {bv : Value} {sm : Int} (h : DsAt w b C N c bv sm) (hc : ∀ i k p q, i < k → k < N → p < 5 → q < 5 → ix i k p q < c' → ix i k p q < c) : DsAt w b C N c' bv sm := by
  obtain ⟨cur, h1, h2, h3, h4, h5⟩ := h
  exact ⟨cur, h1, h2, h3, fun i k p q a1 a2 a3 a4 a5 => h4 i k p q a1 a2 a3 a4 (hc i k p q a1 a2 a3 a4 a5), h5⟩
/-- New best delays and their sum. -/
theorem DsAt.best {w : World} {b : Nat} {C : Tb} {N c : Nat} {bv : Value} {sm : Int} (h : DsAt w b C N c bv sm) (hN : N ≤ 6) (bv' : Value) (sm' : Int) : DsAt ((w.setCell ⟨b, 901, none⟩ bv').setCell ⟨b, 902, none⟩ (.int .i64 sm')) b C N c bv' sm' := by
  obtain ⟨cur, h1, h2, h3, h4, h5, h6, h7⟩ := h
  have g1 := heap_setCell_same w b 901 _ _ bv' h1
  refine ⟨_, heap_setCell_same _ b 902 _ _ (.int .i64 sm') g1, by rw [Array.size_setIfInBounds, Array.size_setIfInBounds]; exact h2, fun j hj => ?_, fun i' k' p' q' a1 a2 a3 a4 a5 => ?_, ?_, ?_, ?_⟩
  · rw [Array.getElem?_setIfInBounds_ne (by omega), Array.getElem?_setIfInBounds_ne (by omega)]; exact h3 j hj
  · have := h4 i' k' p' q' a1 a2 a3 a4 a5
    have hlow : ix i' k' p' q' < 900 := by unfold ix; omega
    rw [Array.getElem?_setIfInBounds_ne (by omega), Array.getElem?_setIfInBounds_ne (by omega)]; exact this
  · rw [Array.getElem?_setIfInBounds_ne (by omega), Array.getElem?_setIfInBounds_ne (by omega)]; exact h5
  · rw [Array.getElem?_setIfInBounds_ne (by omega), Array.getElem?_setIfInBounds_self_of_lt (by omega)]
  · rw [Array.getElem?_setIfInBounds_self_of_lt (by rw [Array.size_setIfInBounds]; omega)]
end Go.Proofs.Ytgcgkpmjahgmnaa
