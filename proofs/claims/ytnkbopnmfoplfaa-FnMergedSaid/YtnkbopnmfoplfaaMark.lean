/- Values that own no block together; marks of integers that leave such a value alone. -/
import Derived.Test.YtnkbopnmfoplfaaRec
import Derived.Test.YtnkbopnmfoplfaaHelp
set_option linter.unusedSimpArgs false
set_option linter.unusedVariables false
namespace Go.Proofs.Ytnkbopnmfoplfaa
open Go.RowKit

/-- Two values own no block together. -/
def Apt (v u : Value) : Prop := ∀ g, v.ownBlock = some g → u.ownBlock = some g → False
theorem Apt.symm {v u : Value} (h : Apt v u) : Apt u v := fun g h1 h2 => h g h2 h1
theorem Apt.grew {w w' : World} {v v' u : Value} {b lo e sz n : Nat} {xs : List Value} (h : Apt v u) (hu : w.ownsRow lo e sz u n xs) (hg : Grew w w' b v v') : Apt v' u := fun g h1 h2 => by
  rcases hg.at_ g h1 with h3 | h3
  · exact h g h3 h2
  · have := (World.ownsRow.lt hu g h2).2
    omega
theorem Apt.keep {w w' : World} {v v' u : Value} {b lo e sz n : Nat} {xs : List Value} (h : Apt v u) (hu : w.ownsRow lo e sz u n xs) (hg : Grew w w' b v v') : w'.ownsRow lo e sz u n xs := by
  refine World.ownsRow.kept hu hg.grown ?_
  cases hb : u.ownBlock with
  | none => exact .inl rfl
  | some g => exact .inr fun e => h g e.symm hb
theorem Apt.keepI {w w' : World} {v v' u : Value} {b lo : Nat} {l : List Int} (h : Apt v u) (hu : OwnInts w lo u l) (hg : Grew w w' b v v') : OwnInts w' lo u l := h.keep hu hg
theorem Apt.keepR {α : Type} {R : Rec α} {w w' : World} {v v' u : Value} {b lo : Nat} {l : List α} (h : Apt v u) (hu : OwnRow R w lo u l) (hg : Grew w w' b v v') : OwnRow R w' lo u l := h.keep hu hg
theorem Apt.hne {v u : Value} (h : Apt v u) : u.ownBlock = none ∨ u.ownBlock ≠ v.ownBlock := by
  cases hb : u.ownBlock with
  | none => exact .inl rfl
  | some g => exact .inr fun e => h g e.symm hb
theorem OwnIn.apt {w w' : World} {lo hi : Nat} {v u : Value} {l : List Int} (h : OwnIn w lo hi u l) (ha : Apt v u) (hg : w.grownBy w' v.ownBlock) : OwnIn w' lo hi u l := ⟨World.ownsRow.kept h.1 hg ha.hne, h.2⟩
theorem OwnRowIn.apt {α : Type} {R : Rec α} {w w' : World} {lo hi : Nat} {v u : Value} {l : List α} (h : OwnRowIn R w lo hi u l) (ha : Apt v u) (hg : w.grownBy w' v.ownBlock) : OwnRowIn R w' lo hi u l := ⟨World.ownsRow.kept h.1 hg ha.hne, h.2⟩
theorem IntsMarked.apt {w w' : World} {lo hi : Nat} {v u : Value} {k0 : Int} {l : List Int} (h : IntsMarked w lo hi u k0 l) (ha : Apt v u) (hg : w.grownBy w' v.ownBlock) : IntsMarked w' lo hi u k0 l := OwnIn.apt h ha hg
theorem MarkedRow.apt {α : Type} {R : Rec α} {f : Int → α} {w w' : World} {lo hi : Nat} {v u : Value} {k0 : Int} {l : List α} (h : MarkedRow R f w lo hi u k0 l) (ha : Apt v u) (hg : w.grownBy w' v.ownBlock) : MarkedRow R f w' lo hi u k0 l := OwnRowIn.apt h ha hg
def IntsMarkPostG (w : World) (lo hi : Nat) (v : Value) (k0 : Int) (l : List Int) (e : Ending) (w' : World) : Prop :=
  e = .returned (.int .i64 (k0 + l.length)) ∧ IntsMarked w' lo hi v k0 l ∧ w.grownBy w' v.ownBlock ∧ Apart lo hi w w'
theorem ownsRow_lo {w : World} {lo lo' e sz n : Nat} {v : Value} {xs : List Value} (h : w.ownsRow lo e sz v n xs) (hl : lo' ≤ lo) : w.ownsRow lo' e sz v n xs := by
  refine ⟨h.1, ?_⟩
  rcases h.2 with hn | ⟨g, cap, cur, rfl, hbg, rest⟩
  · exact .inl hn
  · exact .inr ⟨g, cap, cur, rfl, by omega, rest⟩
theorem Below.keepC {B : Nat} {w w' : World} (hb : Below B w w') {b o : Nat} {u : Value} (h : w.cell? ⟨b, o, none⟩ = some u) (hB : w.heap.size ≤ B) : w'.cell? ⟨b, o, none⟩ = some u := by
  have : b < w.heap.size := World.block_lt_of_cell? w _ h
  exact (hb.cell (p := ⟨b, o, none⟩) (show b < B by omega)).trans h
end Go.Proofs.Ytnkbopnmfoplfaa
