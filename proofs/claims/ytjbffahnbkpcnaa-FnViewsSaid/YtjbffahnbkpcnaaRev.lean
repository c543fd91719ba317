/- The contract of slices.Reverse at integers of the call's own. -/
import Derived.Test.YtjbffahnbkpcnaaHelp
import Derived.BigRegion
set_option linter.unusedSimpArgs false
set_option linter.unusedVariables false
namespace Go.Proofs.Ytjbffahnbkpcnaa
open Go.RowKit

theorem ext_gi {a b : List Int} (h : a.length = b.length) (h2 : ∀ t, t < a.length → gi a t = gi b t) : a = b := by
  apply List.ext_getElem h
  intro t h3 h4
  have := h2 t h3
  rwa [gi_eq h3, gi_eq h4] at this
theorem gi_set {l : List Int} {i t : Nat} (x : Int) (h : t < l.length) : gi (l.set i x) t = if i = t then x else gi l t := by
  rw [gi_eq (by rw [List.length_set]; exact h), List.getElem_set, gi_eq h]
theorem gi_rev {l : List Int} {t : Nat} (h : t < l.length) : gi l.reverse t = gi l (l.length - 1 - t) := by
  rw [gi_eq (by rw [List.length_reverse]; exact h), List.getElem_reverse, gi_eq (by omega)]
/-- A list whose first and last i have changed places. -/
def revd (l : List Int) (i : Nat) : List Int := (List.range l.length).map fun t => if t < i ∨ l.length - i ≤ t then gi l (l.length - 1 - t) else gi l t
theorem revd_len (l : List Int) (i : Nat) : (revd l i).length = l.length := by simp [revd]
theorem gi_revd {l : List Int} {i t : Nat} (h : t < l.length) : gi (revd l i) t = if t < i ∨ l.length - i ≤ t then gi l (l.length - 1 - t) else gi l t := by
  rw [gi_eq (by rw [revd_len]; exact h)]
  simp [revd]
theorem revd_zero (l : List Int) : revd l 0 = l := by
  apply ext_gi (revd_len l 0)
  intro t ht
  rw [revd_len] at ht
  rw [gi_revd ht, if_neg (by omega)]
theorem revd_end (l : List Int) (i : Nat) (h : l.length ≤ 2 * i + 1) : revd l i = l.reverse := by
  apply ext_gi (by rw [revd_len, List.length_reverse])
  intro t ht
  rw [revd_len] at ht
  rw [gi_revd ht, gi_rev ht]
  split
  · rfl
  · congr 1; omega
theorem revd_step (l : List Int) (i j : Nat) (h : i + j + 1 = l.length) (hij : i < j) : ((revd l i).set i (gi l j)).set j (gi l i) = revd l (i + 1) := by
  apply ext_gi (by rw [List.length_set, List.length_set, revd_len, revd_len])
  intro t ht
  rw [List.length_set, List.length_set, revd_len] at ht
  rw [gi_set _ (by rw [List.length_set, revd_len]; exact ht), gi_set _ (by rw [revd_len]; exact ht), gi_revd ht, gi_revd ht]
  by_cases e1 : j = t
  · subst e1
    rw [if_pos rfl, if_pos (by omega)]; congr 1; omega
  · rw [if_neg e1]
    by_cases e2 : i = t
    · subst e2
      rw [if_pos rfl, if_pos (by omega)]; congr 1; omega
    · rw [if_neg e2]
      by_cases e3 : t < i ∨ l.length - i ≤ t
      · rw [if_pos e3, if_pos (by omega)]
      · rw [if_neg e3, if_neg (by omega)]
theorem gi_revd_lo {l : List Int} {i j : Nat} (h : i + j + 1 = l.length) (hij : i < j) : gi (revd l i) i = gi l i := by rw [gi_revd (by omega), if_neg (by omega)]
theorem gi_revd_hi {l : List Int} {i j : Nat} (h : i + j + 1 = l.length) (hij : i < j) : gi (revd l i) j = gi l j := by rw [gi_revd (by omega), if_neg (by omega)]
theorem ints_set (l : List Int) (k : Nat) (y : Int) : (ints l).set k (I y) = ints (l.set k y) := by unfold ints; rw [List.map_set]
theorem OwnInts.form {w : World} {lo : Nat} {v : Value} {l : List Int} (h : OwnInts w lo v l) (hn : 0 < l.length) : ∃ g c, v = .slice (some ⟨g, 0, none⟩) l.length c ∧ lo ≤ g := by
  rcases h.2 with ⟨_, h0⟩ | ⟨g, cap, cur, rfl, hbg, _⟩
  · have := ints_len l
    rw [h0] at this
    simp at this
    omega
  · exact ⟨g, cap, rfl, hbg⟩
theorem OwnInts.cellOf {w : World} {lo g n c : Nat} {l : List Int} (h : OwnInts w lo (.slice (some ⟨g, 0, none⟩) n c) l) (i : Nat) (hi : i < l.length) : w.cell? ⟨g, i, none⟩ = some (.int .i64 (gi l i)) := by
  have hn : n = l.length := by
    obtain ⟨A, c', he, _⟩ := IntsAt.shape (OwnInts.reads h)
    injection he
  subst hn
  have h1 := World.ownsRow.cellAt h i (by omega)
  rw [h1]
  unfold ints
  rw [List.getElem?_map, List.getElem?_eq_getElem hi, gi_eq hi]; rfl
theorem OwnInts.freeAt {w : World} {lo g n c : Nat} {l : List Int} (h : OwnInts w lo (.slice (some ⟨g, 0, none⟩) n c) l) (i : Nat) : w.frozen? ⟨g, i, none⟩ = false := by
  obtain ⟨A, c', he, _⟩ := IntsAt.shape (OwnInts.reads h)
  injection he with _ e2 _
  subst e2
  exact World.ownsRow.frozenAt h i
theorem OwnInts.setAt {w : World} {lo g n c : Nat} {l : List Int} (h : OwnInts w lo (.slice (some ⟨g, 0, none⟩) n c) l) (i : Nat) (x : Int) :
    OwnInts (w.setCell ⟨g, i, none⟩ (.int .i64 x)) lo (.slice (some ⟨g, 0, none⟩) n c) (l.set i x) ∧ w.grownBy (w.setCell ⟨g, i, none⟩ (.int .i64 x)) (some g) := by
  obtain ⟨A, c', he, _⟩ := IntsAt.shape (OwnInts.reads h)
  injection he with _ e2 _
  subst e2
  have := World.ownsRow.stored h i (.int .i64 x)
  refine ⟨?_, this.2⟩
  unfold OwnInts
  rw [List.length_set, ← ints_set]
  exact this.1
theorem OwnInts.drewN {w : World} {lo : Nat} {v : Value} {l : List Int} (h : OwnInts w lo v l) (n : Nat) : OwnInts (w.drewN n) lo v l := h

theorem grown_drew {w w' : World} {row : Option Nat} (h : w.grownBy w' row) : w.grownBy w'.drew row := ⟨h.os, h.tape, h.output, h.size, h.block⟩
theorem grown_drewN {w w' : World} {row : Option Nat} (h : w.grownBy w' row) (n : Nat) : w.grownBy (w'.drewN n) row := ⟨h.os, h.tape, h.output, h.size, h.block⟩
def RevPost (w : World) (lo : Nat) (v : Value) (l : List Int) (e : Ending) (w' : World) : Prop := e = .returned (.tuple #[]) ∧ OwnInts w' lo v l.reverse ∧ w.grownBy w' v.ownBlock
end Go.Proofs.Ytjbffahnbkpcnaa
