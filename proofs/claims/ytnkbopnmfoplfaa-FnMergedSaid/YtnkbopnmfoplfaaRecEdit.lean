/- Records: Edit; and the contracts of the laws' helpers for slices of them. -/
import Derived.Test.YtnkbopnmfoplfaaRec
import Derived.Test.YtnkbopnmfoplfaaHelp
import Derived.Deep.RegionWith
import Derived.Test.YtnkbopnmfoplfaaRecSpot
import Derived.Test.YtnkbopnmfoplfaaSpot
set_option linter.unusedSimpArgs false
set_option linter.unusedVariables false
namespace Go.Proofs.Ytnkbopnmfoplfaa
open Go.RowKit

structure Edt where
  e : Int
  p : Int
  bx : Int
  bY : Int
  ax : Int
  aY : Int
deriving DecidableEq
theorem Edt.ext_ {a b : Edt} (h0 : a.e = b.e) (h1 : a.p = b.p) (h2 : a.bx = b.bx) (h3 : a.bY = b.bY) (h4 : a.ax = b.ax) (h5 : a.aY = b.aY): a = b := by cases a; cases b; simp_all
def edtRec : Rec Edt := ⟨6, 54, fun a => [.int .i64 a.e, .int .i64 a.p, .int .i64 a.bx, .int .i64 a.bY, .int .i64 a.ax, .int .i64 a.aY], fun _ => rfl, by omega, fun _ u hu => by simp at hu; rcases hu with rfl | rfl | rfl | rfl | rfl | rfl <;> rfl, ⟨0, 0, 0, 0, 0, 0⟩⟩
theorem info_edt : (Try.prog.info? 54).map (fun i => (i.zero, i.size, i.bytes)) = some (some (.agg #[.int .i64 0, .int .i64 0, .int .i64 0, .int .i64 0, .int .i64 0, .int .i64 0]), 6, 48) := by kernel_rfl
theorem edt_at {w : World} {A : Option Addr} {n c : Nat} {l : List Edt} (h : RowAt edtRec w (.slice A n c) l) (i : Nat) (hi : i < l.length) :
    ∃ b o, A = some ⟨b, o, none⟩ ∧ w.cell? ⟨b, o + i * 6, none⟩ = some (.int .i64 (gx edtRec l i).e) ∧ w.cell? ⟨b, o + i * 6 + 1, none⟩ = some (.int .i64 (gx edtRec l i).p) ∧ w.cell? ⟨b, o + i * 6 + 2, none⟩ = some (.int .i64 (gx edtRec l i).bx) ∧ w.cell? ⟨b, o + i * 6 + 3, none⟩ = some (.int .i64 (gx edtRec l i).bY) ∧ w.cell? ⟨b, o + i * 6 + 4, none⟩ = some (.int .i64 (gx edtRec l i).ax) ∧ w.cell? ⟨b, o + i * 6 + 5, none⟩ = some (.int .i64 (gx edtRec l i).aY) := by
  obtain ⟨b, o, rfl, hc⟩ := RowAt.cells h i hi
  exact ⟨b, o, rfl, hc 0 _ rfl, hc 1 _ rfl, hc 2 _ rfl, hc 3 _ rfl, hc 4 _ rfl, hc 5 _ rfl⟩
theorem edt_own {w : World} {lo g n c : Nat} {l : List Edt} (h : OwnRow edtRec w lo (.slice (some ⟨g, 0, none⟩) n c) l) (i : Nat) (hi : i < l.length) :
    w.cell? ⟨g, i * 6, none⟩ = some (.int .i64 (gx edtRec l i).e) ∧ w.cell? ⟨g, i * 6 + 1, none⟩ = some (.int .i64 (gx edtRec l i).p) ∧ w.cell? ⟨g, i * 6 + 2, none⟩ = some (.int .i64 (gx edtRec l i).bx) ∧ w.cell? ⟨g, i * 6 + 3, none⟩ = some (.int .i64 (gx edtRec l i).bY) ∧ w.cell? ⟨g, i * 6 + 4, none⟩ = some (.int .i64 (gx edtRec l i).ax) ∧ w.cell? ⟨g, i * 6 + 5, none⟩ = some (.int .i64 (gx edtRec l i).aY) := by
  exact ⟨OwnRow.cell h i hi 0 (by show 0 < 6; omega), OwnRow.cell h i hi 1 (by show 1 < 6; omega), OwnRow.cell h i hi 2 (by show 2 < 6; omega), OwnRow.cell h i hi 3 (by show 3 < 6; omega), OwnRow.cell h i hi 4 (by show 4 < 6; omega), OwnRow.cell h i hi 5 (by show 5 < 6; omega)⟩
theorem wp_app_edts (w : World) {ops : Array Oper} {rest : List Oper} {o : Oper} {a : Act} {Q : Exit → Act → World → Prop} (hgd : o.guard = none) (s x : Operand)
    (ho : o.op = .call { callee := .builtin .append, args := #[s, x], argTypes := #[24, 24] })
    (base : Nat) (v : Value) (l : List Edt) (hs : a.eval s = v) (hown : OwnRow edtRec w base v l)
    (sv : Value) (m : List Edt) (hx : a.eval x = sv) (hsl : RowAt edtRec w sv m)
    (h63 : l.length + m.length ≤ 1099511627776) (hbase : base ≤ w.heap.size)
    (h : ∀ v' w', OwnRow edtRec w' base v' (l ++ m) → Grew w w' base v v' → wpList Try.prog ops Q rest (a.put o.dst v') w') :
    wpList Try.prog ops Q (o :: rest) a w :=
  wp_app_row edtRec w hgd s x 24 _ _ Try.underlying24 info_edt rfl (by omega) ho base v l hs hown sv m hx hsl h63 hbase h
theorem wp_app_edt (w : World) {ops : Array Oper} {rest : List Oper} {o : Oper} {a : Act} {Q : Exit → Act → World → Prop} (hgd : o.guard = none) (s x : Operand)
    (ho : o.op = .call { callee := .builtin .append, args := #[s, x], argTypes := #[24, 24] })
    (base : Nat) (v : Value) (l : List Edt) (hs : a.eval s = v) (hown : OwnRow edtRec w base v l)
    (y : Edt) (H : Nat) (hx : a.eval x = .slice (some ⟨H, 0, none⟩) 1 1) (hH : H = w.heap.size)
    (h63 : l.length + 1 ≤ 1099511627776) (hbase : base ≤ w.heap.size)
    (h : ∀ v' w', OwnRow edtRec w' base v' (l ++ [y]) → Grew w w' base v v' → wpList Try.prog ops Q rest (a.put o.dst v') w') :
    wpList Try.prog ops Q (o :: rest) a (w.alloc (.cells #[.int .i64 y.e, .int .i64 y.p, .int .i64 y.bx, .int .i64 y.bY, .int .i64 y.ax, .int .i64 y.aY] 54)) :=
  wp_app_rec edtRec w hgd s x 24 _ _ Try.underlying24 info_edt rfl (by omega) ho base v l hs hown y _ rfl _ H rfl hx hH h63 hbase h

def edtMk (k : Int) : Edt := ⟨k, k + 1, k + 1 + 1, k + 1 + 1 + 1, k + 1 + 1 + 1 + 1, k + 1 + 1 + 1 + 1 + 1⟩
end Go.Proofs.Ytnkbopnmfoplfaa
