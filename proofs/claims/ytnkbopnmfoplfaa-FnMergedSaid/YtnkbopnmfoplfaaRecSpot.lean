/- Records: Spot; and the contracts of the laws' helpers for slices of them. -/
import Derived.Test.YtnkbopnmfoplfaaRec
import Derived.Test.YtnkbopnmfoplfaaHelp
import Derived.Deep.RegionWith
set_option linter.unusedSimpArgs false
set_option linter.unusedVariables false
namespace Go.Proofs.Ytnkbopnmfoplfaa
open Go.RowKit

structure Spt where
  x : Int
  y : Int
deriving DecidableEq
theorem Spt.ext_ {a b : Spt} (h0 : a.x = b.x) (h1 : a.y = b.y): a = b := by cases a; cases b; simp_all
def sptRec : Rec Spt := ⟨2, 42, fun a => [.int .i64 a.x, .int .i64 a.y], fun _ => rfl, by omega, fun _ u hu => by simp at hu; rcases hu with rfl | rfl <;> rfl, ⟨0, 0⟩⟩
theorem info_spt : (Try.prog.info? 42).map (fun i => (i.zero, i.size, i.bytes)) = some (some (.agg #[.int .i64 0, .int .i64 0]), 2, 16) := by kernel_rfl
theorem spt_at {w : World} {A : Option Addr} {n c : Nat} {l : List Spt} (h : RowAt sptRec w (.slice A n c) l) (i : Nat) (hi : i < l.length) :
    ∃ b o, A = some ⟨b, o, none⟩ ∧ w.cell? ⟨b, o + i * 2, none⟩ = some (.int .i64 (gx sptRec l i).x) ∧ w.cell? ⟨b, o + i * 2 + 1, none⟩ = some (.int .i64 (gx sptRec l i).y) := by
  obtain ⟨b, o, rfl, hc⟩ := RowAt.cells h i hi
  exact ⟨b, o, rfl, hc 0 _ rfl, hc 1 _ rfl⟩
theorem spt_own {w : World} {lo g n c : Nat} {l : List Spt} (h : OwnRow sptRec w lo (.slice (some ⟨g, 0, none⟩) n c) l) (i : Nat) (hi : i < l.length) :
    w.cell? ⟨g, i * 2, none⟩ = some (.int .i64 (gx sptRec l i).x) ∧ w.cell? ⟨g, i * 2 + 1, none⟩ = some (.int .i64 (gx sptRec l i).y) := by
  exact ⟨OwnRow.cell h i hi 0 (by show 0 < 2; omega), OwnRow.cell h i hi 1 (by show 1 < 2; omega)⟩
theorem wp_app_spts (w : World) {ops : Array Oper} {rest : List Oper} {o : Oper} {a : Act} {Q : Exit → Act → World → Prop} (hgd : o.guard = none) (s x : Operand)
    (ho : o.op = .call { callee := .builtin .append, args := #[s, x], argTypes := #[23, 23] })
    (base : Nat) (v : Value) (l : List Spt) (hs : a.eval s = v) (hown : OwnRow sptRec w base v l)
    (sv : Value) (m : List Spt) (hx : a.eval x = sv) (hsl : RowAt sptRec w sv m)
    (h63 : l.length + m.length ≤ 1099511627776) (hbase : base ≤ w.heap.size)
    (h : ∀ v' w', OwnRow sptRec w' base v' (l ++ m) → Grew w w' base v v' → wpList Try.prog ops Q rest (a.put o.dst v') w') :
    wpList Try.prog ops Q (o :: rest) a w :=
  wp_app_row sptRec w hgd s x 23 _ _ Try.underlying23 info_spt rfl (by omega) ho base v l hs hown sv m hx hsl h63 hbase h
theorem wp_app_spt (w : World) {ops : Array Oper} {rest : List Oper} {o : Oper} {a : Act} {Q : Exit → Act → World → Prop} (hgd : o.guard = none) (s x : Operand)
    (ho : o.op = .call { callee := .builtin .append, args := #[s, x], argTypes := #[23, 23] })
    (base : Nat) (v : Value) (l : List Spt) (hs : a.eval s = v) (hown : OwnRow sptRec w base v l)
    (y : Spt) (H : Nat) (hx : a.eval x = .slice (some ⟨H, 0, none⟩) 1 1) (hH : H = w.heap.size)
    (h63 : l.length + 1 ≤ 1099511627776) (hbase : base ≤ w.heap.size)
    (h : ∀ v' w', OwnRow sptRec w' base v' (l ++ [y]) → Grew w w' base v v' → wpList Try.prog ops Q rest (a.put o.dst v') w') :
    wpList Try.prog ops Q (o :: rest) a (w.alloc (.cells #[.int .i64 y.x, .int .i64 y.y] 42)) :=
  wp_app_rec sptRec w hgd s x 23 _ _ Try.underlying23 info_spt rfl (by omega) ho base v l hs hown y _ rfl _ H rfl hx hH h63 hbase h

def sptMk (k : Int) : Spt := ⟨k, k + 1⟩
end Go.Proofs.Ytnkbopnmfoplfaa
