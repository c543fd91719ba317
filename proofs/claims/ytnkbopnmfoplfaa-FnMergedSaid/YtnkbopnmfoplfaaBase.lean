/- Words for memory: a slice that reads as a list of cells; what a call of its own has made. Plain lemmas; no function of the program. -/
import Derived.Test.YtnkbopnmfoplfaaProg
import Derived.Test.YtnkbopnmfoplfaaPlain
import Derived.WalkKit
import Derived.WalkLawsBesides
import Derived.Lib.Hide
import Derived.Laws.CopyOwn
import Derived.Deep.Draws
import Derived.Deep.LoopGhost
import Derived.Deep.OwnRows
import Derived.Maps.AppendAt
import Derived.Deep.AppendLies
import Derived.OwnWalk
set_option linter.unusedSimpArgs false
set_option linter.unusedVariables false
namespace Go.Proofs.Ytnkbopnmfoplfaa
open Go.RowKit

theorem ret_int {k : IntKind} {a b : Int} (h : a = b) : Ending.returned (.int k a) = .returned (.int k b) := by rw [h]
theorem ret_bool {a b : Bool} (h : a = b) : Ending.returned (.bool a) = .returned (.bool b) := by rw [h]
theorem not_t {b : Bool} (h : (!b) = true) : b = false := by simpa using h
theorem not_f {b : Bool} (h : (!b) = false) : b = true := by simpa using h

/-- The value v is a slice of n elements of sz cells each; its cells read as xs in w. -/
def Sl (w : World) (sz : Nat) (v : Value) (n : Nat) (xs : List Value) : Prop :=
  xs.length = n * sz ∧ ∃ A c, v = .slice A n c ∧ n ≤ c ∧ c ≤ maxLen ∧ (A = none → n = 0 ∧ c = 0) ∧
    (0 < n * sz → ∃ b o, A = some ⟨b, o, none⟩ ∧ ∀ j u, xs[j]? = some u → w.cell? ⟨b, o + j, none⟩ = some u)

theorem Sl.len {w : World} {sz : Nat} {v : Value} {n : Nat} {xs : List Value} (h : Sl w sz v n xs) : xs.length = n * sz := h.1

/-- What stands below B stays: a slice whose cells exist in w. -/
theorem Sl.keep {w w' : World} {sz : Nat} {v : Value} {n : Nat} {xs : List Value} (h : Sl w sz v n xs)
    (hk : ∀ b, b < w.heap.size → w'.heap[b]? = w.heap[b]?) : Sl w' sz v n xs := by
  obtain ⟨hl, A, c, rfl, h1, h2, h3, h4⟩ := h
  refine ⟨hl, A, c, rfl, h1, h2, h3, fun hn => ?_⟩
  obtain ⟨b, o, rfl, hc⟩ := h4 hn
  refine ⟨b, o, rfl, fun j u hu => ?_⟩
  have := hc j u hu
  have hlt := World.block_lt_of_cell? w ⟨b, o + j, none⟩ this
  exact (World.cell?_of_block (w := w) (w' := w') (hk b hlt)).trans this

theorem Sl.below {w w' : World} {sz : Nat} {v : Value} {n : Nat} {xs : List Value} {B : Nat} (h : Sl w sz v n xs) (hb : Below B w w') (hB : w.heap.size ≤ B) : Sl w' sz v n xs :=
  h.keep fun b hlt => hb.block b (by omega)

theorem Sl.of_own {w : World} {base e sz n : Nat} {v : Value} {xs : List Value} (h : w.ownsRow base e sz v n xs) : Sl w sz v n xs := by
  refine ⟨h.1, ?_⟩
  rcases h.2 with ⟨rfl, rfl⟩ | ⟨g, cap, cur, rfl, hb, hg, hnc, hcm, hcs, ht⟩
  · exact ⟨none, 0, rfl, Nat.le_refl _, by simp [maxLen], fun _ => ⟨rfl, rfl⟩, fun h => by simp at h⟩
  · refine ⟨_, cap, rfl, hnc, hcm, (fun h => by cases h), fun _ => ⟨g, 0, rfl, fun j u hu => ?_⟩⟩
    rw [cell_of_row w g (0 + j) cur e (0, 0) hg]
    rw [← ht, List.getElem?_take] at hu
    split at hu
    · simpa using hu
    · cases hu

/-- One-cell elements: the cell at index k. -/
theorem Sl.at_ {w : World} {A : Option Addr} {n c k : Nat} {xs : List Value} (h : Sl w 1 (.slice A n c) n xs) (hk : k < n) :
    ∃ b o u, A = some ⟨b, o, none⟩ ∧ xs[k]? = some u ∧ w.cell? ⟨b, o + k, none⟩ = some u := by
  obtain ⟨hl, A', c', he, h1, h2, h3, h4⟩ := h
  injection he with e1 e2 e3
  subst e1
  obtain ⟨b, o, rfl, hc⟩ := h4 (by omega)
  have : k < xs.length := by omega
  exact ⟨b, o, xs[k], rfl, List.getElem?_eq_getElem this, hc k _ (List.getElem?_eq_getElem this)⟩

theorem Sl.shape {w : World} {sz : Nat} {v : Value} {n : Nat} {xs : List Value} (h : Sl w sz v n xs) : ∃ A c, v = .slice A n c ∧ n ≤ c ∧ c ≤ 9223372036854775807 := by
  obtain ⟨_, A, c, rfl, h1, h2, _⟩ := h
  exact ⟨A, c, rfl, h1, by unfold maxLen at h2; omega⟩

theorem _root_.Go.RowKit.Below.drewN {B : Nat} {a w : World} (h : Below B a w) (n : Nat) : Below B a (w.drewN n) := ⟨h.os, h.tape, h.output, h.size, h.block⟩

/-- Integers as cells. -/
abbrev I (x : Int) : Value := .int .i64 x
def ints (l : List Int) : List Value := l.map I
theorem ints_len (l : List Int) : (ints l).length = l.length := by simp [ints]
theorem ints_at {l : List Int} {k : Nat} {u : Value} (h : (ints l)[k]? = some u) : u = I (gi l k) := by
  unfold ints at h
  rw [List.getElem?_map] at h
  cases hx : l[k]? with
  | none => rw [hx] at h; cases h
  | some x => rw [hx] at h; simp at h; subst h; simp [gi, List.getD, hx]

/-- A slice of integers. -/
def IntsAt (w : World) (v : Value) (l : List Int) : Prop := Sl w 1 v l.length (ints l)

theorem IntsAt.at_ {w : World} {A : Option Addr} {n c : Nat} {l : List Int} (h : IntsAt w (.slice A n c) l) (k : Nat) (hk : k < l.length) :
    ∃ b o, A = some ⟨b, o, none⟩ ∧ w.cell? ⟨b, o + k, none⟩ = some (.int .i64 (gi l k)) := by
  have hn : n = l.length := by
    obtain ⟨_, _, _, he, _⟩ := h
    injection he
  subst hn
  obtain ⟨b, o, u, rfl, hu, hc⟩ := Sl.at_ h hk
  exact ⟨b, o, rfl, by rw [hc, ints_at hu]⟩
theorem IntsAt.below {w w' : World} {v : Value} {l : List Int} {B : Nat} (h : IntsAt w v l) (hb : Below B w w') (hB : w.heap.size ≤ B) : IntsAt w' v l := Sl.below h hb hB
theorem IntsAt.shape {w : World} {v : Value} {l : List Int} (h : IntsAt w v l) : ∃ A c, v = .slice A l.length c ∧ l.length ≤ c ∧ c ≤ 9223372036854775807 := Sl.shape h

/-- A slice of integers of the call's own: it lies in a block from base on (or is nil). -/
def OwnInts (w : World) (base : Nat) (v : Value) (l : List Int) : Prop := w.ownsRow base 3 1 v l.length (ints l)
theorem OwnInts.below {w w' : World} {base B : Nat} {v : Value} {l : List Int} (h : OwnInts w base v l) (hb : Below B w w') (hB : w.heap.size ≤ B) : OwnInts w' base v l := by
  refine ⟨h.1, ?_⟩
  rcases h.2 with hn | ⟨g, cap, cur, rfl, hbg, hg, rest⟩
  · exact .inl hn
  · refine .inr ⟨g, cap, cur, rfl, hbg, ?_, rest⟩
    rw [hb.block g (by have := (Array.getElem?_eq_some_iff.1 hg).1; omega)]
    exact hg
/-- The state of a copy after k rounds: the first k elements, then zeros. -/
def copied (l : List Int) (k : Nat) : List Value := ints (l.take k) ++ List.replicate (l.length - k) (I 0)
theorem copied_zero (l : List Int) : copied l 0 = List.replicate l.length (I 0) := by simp [copied, ints]
theorem copied_all (l : List Int) : copied l l.length = ints l := by simp [copied]
theorem copied_len (l : List Int) (k : Nat) (h : k ≤ l.length) : (copied l k).length = l.length := by
  simp [copied, ints]; omega
theorem copied_at (l : List Int) (k : Nat) (h : k < l.length) : (copied l k)[k]? = some (I 0) := by
  unfold copied
  have hl : (ints (l.take k)).length = k := by simp [ints]; omega
  rw [List.getElem?_append_right (by omega), hl, Nat.sub_self, List.getElem?_replicate, if_pos (by omega)]
theorem copied_set (l : List Int) (k : Nat) (h : k < l.length) : (copied l k).set k (I (gi l k)) = copied l (k + 1) := by
  unfold copied
  have hl : (ints (l.take k)).length = k := by simp [ints]; omega
  rw [List.set_append_right _ _ (by omega), hl, Nat.sub_self, take_succ_gi l k h]
  obtain ⟨m, hm⟩ : ∃ m, l.length - k = m + 1 := ⟨l.length - k - 1, by omega⟩
  have hm' : l.length - (k + 1) = m := by omega
  rw [hm, hm']
  simp [ints, List.replicate_succ]
theorem OwnInts.kept {w w' : World} {base : Nat} {v : Value} {l : List Int} {row : Option Nat} (h : OwnInts w base v l) (hg : w.grownBy w' row) (hne : v.ownBlock = none ∨ v.ownBlock ≠ row) : OwnInts w' base v l := World.ownsRow.kept h hg hne
theorem OwnInts.ne {w w1 : World} {base base' : Nat} {v v' : Value} {l l' : List Int} (h : OwnInts w base v l) (h' : OwnInts w1 base' v' l') (hB : w.heap.size ≤ base') : v'.ownBlock = none ∨ v'.ownBlock ≠ v.ownBlock := by
  cases hv : v'.ownBlock with
  | none => exact .inl rfl
  | some g =>
    refine .inr fun e => ?_
    have h1 := World.ownsRow.lt h' g hv
    have h2 := World.ownsRow.lt h g e.symm
    omega
/-- The marks that markIntS writes: k0, k0 + 1, .. -/
def marks (k0 : Int) (n : Nat) : List Int := (List.range n).map fun (j : Nat) => k0 + (j : Int)
theorem marks_len (k0 : Int) (n : Nat) : (marks k0 n).length = n := by simp [marks]
theorem gi_marks (k0 : Int) (n j : Nat) (h : j < n) : gi (marks k0 n) j = k0 + j := by simp [gi, marks, List.getD, h]
def marked (k0 : Int) (l : List Int) (j : Nat) : List Int := marks k0 j ++ l.drop j
theorem marked_zero (k0 : Int) (l : List Int) : marked k0 l 0 = l := by simp [marked, marks]
theorem marked_all (k0 : Int) (l : List Int) : marked k0 l l.length = marks k0 l.length := by simp [marked]
theorem marked_len (k0 : Int) (l : List Int) (j : Nat) (h : j ≤ l.length) : (marked k0 l j).length = l.length := by simp [marked, marks]; omega
theorem marked_set (k0 : Int) (l : List Int) (j : Nat) (h : j < l.length) : (ints (marked k0 l j)).set j (I (k0 + j)) = ints (marked k0 l (j + 1)) := by
  have hm : (marks k0 j).length = j := marks_len _ _
  have e : marks k0 (j + 1) = marks k0 j ++ [k0 + (j : Int)] := by simp [marks, List.range_succ]
  have e2 : (marked k0 l j).set j (k0 + j) = marked k0 l (j + 1) := by
    unfold marked
    rw [List.set_append_right _ _ (by omega), hm, Nat.sub_self, List.drop_eq_getElem_cons h, e, List.set_cons_zero, List.append_assoc]
    rfl
  rw [← e2]
  unfold ints
  rw [List.map_set]
theorem OwnInts.reads {w : World} {base : Nat} {v : Value} {l : List Int} (h : OwnInts w base v l) : IntsAt w v l := Sl.of_own h


/-- append onto a row of the call's own, whatever the source: nil, empty or not. -/
theorem wpList_app {P : Program} (w : World) {ops : Array Oper} {rest : List Oper} {o : Oper} {a : Act} {Q : Exit → Act → World → Prop} (hgd : o.guard = none) (s x : Operand) (t : TypeId)
    (ho : o.op = .call { callee := .builtin .append, args := #[s, x], argTypes := #[t, t] })
    (base e : Nat) (z : Value) (size bytes : Nat) (ht : P.underlying t = some (.slice e)) (hinfo : (P.info? e).map (fun i => (i.zero, i.size, i.bytes)) = some (some z, size, bytes))
    (hzs : z.cells.size = size) (hsz : 0 < size)
    (v : Value) (n : Nat) (xs : List Value) (hs : a.eval s = v) (hown : w.ownsRow base e size v n xs)
    (sv : Value) (m : Nat) (news : List Value) (hx : a.eval x = sv) (hsl : Sl w size sv m news) (h1 : ∀ u ∈ news, u.oneCell' = true)
    (h63 : n + m ≤ 1099511627776) (hby : bytes ≤ 64) (hbase : base ≤ w.heap.size)
    (h : ∀ v' w', w'.ownsRow base e size v' (n + m) (xs ++ news) → w.grownBy w' v.ownBlock → (v'.ownBlock = v.ownBlock ∨ v'.ownBlock = some w.heap.size) → wpList P ops Q rest (a.put o.dst v') w') :
    wpList P ops Q (o :: rest) a w := by
  obtain ⟨i, hi, hz, hsize, hbyt⟩ := info_parts hinfo
  obtain ⟨hl, A, c, rfl, hmc, hcm, hnone, hcell⟩ := hsl
  have key : ∃ v' w', (Builtin.append_ #[t, t] o.type #[v, .slice A m c]).run P w = .ok v' w' ∧ w'.ownsRow base e size v' (n + m) (xs ++ news) ∧ w.grownBy w' v.ownBlock ∧
      (v'.ownBlock = v.ownBlock ∨ v'.ownBlock = some w.heap.size) := by
    cases A with
    | none =>
      obtain ⟨rfl, rfl⟩ := hnone rfl
      have hn : news = [] := List.eq_nil_of_length_eq_zero (by simpa using hl)
      subst hn
      exact ⟨v, w, run_append_owned_none w base t o.type e i size ht hi v n xs hown, by simpa using hown, World.grownBy.refl w _, .inl rfl⟩
    | some ad =>
      have hc : ∀ j u, news[j]? = some u → w.cell? (ad.add j) = some u := by
        intro j u hu
        have hlt := (List.getElem?_eq_some_iff.1 hu).1
        obtain ⟨b, off, he, hcc⟩ := hcell (by omega)
        injection he with he
        subst he
        have := hcc j u hu
        rw [Addr.add_lit]
        exact this
      have hb2 : (n + m) * bytes ≤ 140737488355328 := by
        have : (n + m) * bytes ≤ 1099511627776 * 64 := Nat.mul_le_mul h63 hby
        omega
      obtain ⟨v', w', hrun, r2, r3, _, r5⟩ := run_append_own_at (P := P) w base t o.type e i z size bytes ht hi hz hsize hbyt hzs hsz v n xs hown ad m c news hl hc h1 (by unfold maxLen; omega) hb2 hbase
      exact ⟨v', w', hrun, r2, r3, r5⟩
  obtain ⟨v', w', hrun, r2, r3, r4⟩ := key
  refine wpList_plain hgd fun K hK => ?_
  unfold Oper.wp execOp
  simp only [ho, resolve, invoke, builtin, Sem.run_bind, Sem.run_pure, Result.andThen_ok, List.map_toArray, List.map_cons, List.map_nil, hs, hx, hrun]
  exact hK _ _ (h v' w' r2 r3 r4)

theorem ownsRow_below {w w1 : World} {base e sz n : Nat} {v : Value} {xs : List Value} (h : w.ownsRow base e sz v n xs) (hg : w.grownBy w1 v.ownBlock) (hbase : base ≤ w.heap.size) : Below base w w1 :=
  (Below.refl _ _).grown hg hbase fun k hk => (h.lt k hk).1

/-- What an append onto integers leaves. -/
structure Grew (w w1 : World) (base : Nat) (v v' : Value) : Prop where
  below : Below base w w1
  grown : w.grownBy w1 v.ownBlock
  at_ : ∀ g, v'.ownBlock = some g → v.ownBlock = some g ∨ w.heap.size ≤ g

theorem ints_one (l : List Int) : ∀ u ∈ ints l, u.oneCell' = true := ints_oneCell _ _
theorem ints_append (l m : List Int) : ints l ++ ints m = ints (l ++ m) := by simp [ints]

/-- int's row of the type table. -/
theorem info_int : (Try.prog.info? 3).map (fun i => (i.zero, i.size, i.bytes)) = some (some (.int .i64 0), 1, 8) := by kernel_rfl
theorem info_ints : (Try.prog.info? 27).map (fun i => (i.zero, i.size, i.bytes)) = some (some (.slice none 0 0), 1, 24) := by kernel_rfl

/-- append of integers onto integers of the call's own. -/
theorem wp_app_ints (w : World) {ops : Array Oper} {rest : List Oper} {o : Oper} {a : Act} {Q : Exit → Act → World → Prop} (hgd : o.guard = none) (s x : Operand)
    (ho : o.op = .call { callee := .builtin .append, args := #[s, x], argTypes := #[27, 27] })
    (base : Nat) (v : Value) (l : List Int) (hs : a.eval s = v) (hown : OwnInts w base v l)
    (sv : Value) (m : List Int) (hx : a.eval x = sv) (hsl : IntsAt w sv m)
    (h63 : l.length + m.length ≤ 1099511627776) (hbase : base ≤ w.heap.size)
    (h : ∀ v' w', OwnInts w' base v' (l ++ m) → Grew w w' base v v' → wpList Try.prog ops Q rest (a.put o.dst v') w') :
    wpList Try.prog ops Q (o :: rest) a w := by
  refine wpList_app w hgd s x 27 ho base 3 (.int .i64 0) 1 8 Try.underlying27 info_int rfl (by omega) v l.length (ints l) hs hown sv m.length (ints m) hx hsl (ints_one _) h63 (by omega) hbase ?_
  intro v' w' h1 h2 h3
  refine h v' w' ?_ ⟨ownsRow_below hown h2 hbase, h2, fun g hg => ?_⟩
  · unfold OwnInts
    rw [List.length_append, ← ints_append]
    exact h1
  · rcases h3 with h3 | h3
    · exact .inl (h3.symm.trans hg)
    · rw [h3] at hg
      injection hg with hg
      exact .inr (by omega)

theorem IntsAt.one (w : World) (x : Int) : IntsAt (w.alloc (.cells #[.int .i64 x] 3)) (.slice (some ⟨w.heap.size, 0, none⟩) 1 1) [x] :=
  Sl.of_own (base := 0) (e := 3) (World.ownsRow_lit w #[.int .i64 x] 1 (Nat.zero_le _) (by simp [maxLen]) rfl)

/-- append of one integer: it is laid in a block of its own first. -/
theorem wp_app_int (w : World) {ops : Array Oper} {rest : List Oper} {o : Oper} {a : Act} {Q : Exit → Act → World → Prop} (hgd : o.guard = none) (s x : Operand)
    (ho : o.op = .call { callee := .builtin .append, args := #[s, x], argTypes := #[27, 27] })
    (base : Nat) (v : Value) (l : List Int) (hs : a.eval s = v) (hown : OwnInts w base v l)
    (n : Int) (H : Nat) (hx : a.eval x = .slice (some ⟨H, 0, none⟩) 1 1) (hH : H = w.heap.size)
    (h63 : l.length + 1 ≤ 1099511627776) (hbase : base ≤ w.heap.size)
    (h : ∀ v' w', OwnInts w' base v' (l ++ [n]) → Grew w w' base v v' → wpList Try.prog ops Q rest (a.put o.dst v') w') :
    wpList Try.prog ops Q (o :: rest) a (w.alloc (.cells #[.int .i64 n] 3)) := by
  subst hH
  refine wp_app_ints _ hgd s x ho base v l hs (World.ownsRow.alloc hown _) _ [n] hx (IntsAt.one w n) h63 (by simp; omega) fun v' w' h1 h2 => h v' w' h1 ⟨?_, ?_, ?_⟩
  · exact ((Below.refl _ _).alloc hbase _).trans h2.below
  · exact (World.grownBy_alloc w _ _).trans h2.grown
  · intro g hg
    rcases h2.at_ g hg with h3 | h3
    · exact .inl h3
    · exact .inr (by simp at h3; omega)

/-- An empty slice literal owns nothing. -/
theorem OwnInts.empty (w : World) (base : Nat) (hb : base ≤ w.heap.size) : OwnInts (w.alloc (.cells #[] 3)) base (.slice (some ⟨w.heap.size, 0, none⟩) 0 0) [] :=
  World.ownsRow_lit w #[] 0 hb (by simp [maxLen]) rfl
theorem OwnInts.lit1 (w : World) (base : Nat) (x : Int) (hb : base ≤ w.heap.size) : OwnInts (w.alloc (.cells #[.int .i64 x] 3)) base (.slice (some ⟨w.heap.size, 0, none⟩) 1 1) [x] :=
  World.ownsRow_lit w #[.int .i64 x] 1 hb (by simp [maxLen]) rfl
theorem OwnInts.nil_ (w : World) (base : Nat) : OwnInts w base (.slice none 0 0) [] := World.ownsRow_nil w base _ _

theorem _root_.Go.RowKit.Below.next {w w1 w2 : World} {B : Nat} (b1 : Below B w w1) (hB : B ≤ w.heap.size) (b2 : Below w1.heap.size w1 w2) : Below B w w2 := b1.trans (b2.mono (by have := b1.size; omega))

/-! ### What stands in the blocks from lo on, below hi -/
def KeepIn (lo hi : Nat) (w w' : World) : Prop := ∀ k, lo ≤ k → k < hi → w'.heap[k]? = w.heap[k]?
theorem KeepIn.of_below {w w' : World} {B lo hi : Nat} (h : Below B w w') (hh : hi ≤ B) : KeepIn lo hi w w' := fun k _ hk => h.block k (by omega)

/-- w' is w but for the blocks from lo on, below hi; and new blocks. -/
structure Apart (lo hi : Nat) (w w' : World) : Prop where
  os : w'.os = w.os
  tape : w'.tape = w.tape
  output : w'.output = w.output
  size : w.heap.size ≤ w'.heap.size
  block : ∀ k, k < w.heap.size → (k < lo ∨ hi ≤ k) → w'.heap[k]? = w.heap[k]?
theorem Apart.refl (lo hi : Nat) (w : World) : Apart lo hi w w := ⟨rfl, rfl, rfl, Nat.le_refl _, fun _ _ _ => rfl⟩
theorem Apart.trans {lo hi : Nat} {a b c : World} (h : Apart lo hi a b) (k : Apart lo hi b c) : Apart lo hi a c :=
  ⟨k.os.trans h.os, k.tape.trans h.tape, k.output.trans h.output, Nat.le_trans h.size k.size, fun i hi ho => (k.block i (Nat.lt_of_lt_of_le hi h.size) ho).trans (h.block i hi ho)⟩
theorem Apart.keepIn {lo hi lo' hi' : Nat} {w w' : World} (h : Apart lo hi w w') (hs : hi' ≤ w.heap.size) (hd : hi' ≤ lo ∨ hi ≤ lo') : KeepIn lo' hi' w w' :=
  fun k h1 h2 => h.block k (by omega) (by omega)
theorem Apart.below {lo hi B : Nat} {w w' : World} (h : Apart lo hi w w') (hB : B ≤ w.heap.size) (hl : B ≤ lo) : Below B w w' :=
  ⟨h.os, h.tape, h.output, h.size, fun k hk => h.block k (by omega) (.inl (by omega))⟩

/-- Integers of the call's own, in a block from lo on, below hi. -/
def OwnIn (w : World) (lo hi : Nat) (v : Value) (l : List Int) : Prop := OwnInts w lo v l ∧ ∀ g, v.ownBlock = some g → g < hi
theorem OwnInts.in_ {w : World} {lo : Nat} {v : Value} {l : List Int} (h : OwnInts w lo v l) : OwnIn w lo w.heap.size v l := ⟨h, fun g hg => (World.ownsRow.lt h g hg).2⟩
theorem OwnIn.reads {w : World} {lo hi : Nat} {v : Value} {l : List Int} (h : OwnIn w lo hi v l) : IntsAt w v l := h.1.reads
theorem ownsRow_keep {w w' : World} {base e sz n lo hi : Nat} {v : Value} {xs : List Value} (h : w.ownsRow base e sz v n xs) (hk : KeepIn lo hi w w') (hl : lo ≤ base) (hh : ∀ g, v.ownBlock = some g → g < hi) : w'.ownsRow base e sz v n xs := by
  refine ⟨h.1, ?_⟩
  rcases h.2 with hn | ⟨g, cap, cur, rfl, hbg, hg, rest⟩
  · exact .inl hn
  · refine .inr ⟨g, cap, cur, rfl, hbg, ?_, rest⟩
    rw [hk g (by omega) (hh g rfl)]
    exact hg
theorem OwnIn.keep {w w' : World} {lo hi : Nat} {v : Value} {l : List Int} (h : OwnIn w lo hi v l) (hk : KeepIn lo hi w w') : OwnIn w' lo hi v l :=
  ⟨ownsRow_keep h.1 hk (Nat.le_refl _) h.2, h.2⟩
theorem OwnIn.apart {w w' : World} {lo hi : Nat} {v : Value} {l : List Int} (h : OwnIn w lo hi v l) (hg : w.grownBy w' v.ownBlock) : Apart lo hi w w' :=
  ⟨hg.os, hg.tape, hg.output, hg.size, fun k hk ho => hg.block k hk (fun e => by
    have h1 := (World.ownsRow.lt h.1 k e.symm).1
    have h2 := h.2 k e.symm
    omega)⟩

/-- s[:k]. -/
theorem Sl.take {w : World} {sz : Nat} {A : Option Addr} {n c : Nat} {xs : List Value} (h : Sl w sz (.slice A n c) n xs) (k : Nat) (hk : k ≤ n) : Sl w sz (.slice A k c) k (xs.take (k * sz)) := by
  obtain ⟨hl, A', c', he, h1, h2, h3, h4⟩ := h
  injection he with e1 e2 e3
  subst e1 e3
  have hks : k * sz ≤ n * sz := Nat.mul_le_mul_right _ hk
  refine ⟨by rw [List.length_take]; omega, A, c, rfl, by omega, h2, fun h => ⟨by have := h3 h; omega, (h3 h).2⟩, fun hn => ?_⟩
  obtain ⟨b, o, rfl, hc⟩ := h4 (by omega)
  refine ⟨b, o, rfl, fun j u hu => ?_⟩
  rw [List.getElem?_take] at hu
  split at hu
  · exact hc j u hu
  · cases hu
/-- s[a:b], b beyond a. -/
theorem Sl.cut {w : World} {sz : Nat} {A : Option Addr} {n c : Nat} {xs : List Value} (h : Sl w sz (.slice A n c) n xs) (a k : Nat) (hk : a + k ≤ n) :
    Sl w sz (.slice (if c = a then A else A.map (·.add (a * sz))) k (c - a)) k ((xs.drop (a * sz)).take (k * sz)) := by
  obtain ⟨hl, A', c', he, h1, h2, h3, h4⟩ := h
  injection he with e1 e2 e3
  subst e1 e3
  have hks : a * sz + k * sz ≤ n * sz := by rw [← Nat.add_mul]; exact Nat.mul_le_mul_right _ hk
  refine ⟨by rw [List.length_take, List.length_drop]; omega, _, _, rfl, by omega, by omega, fun h => ?_, fun hn => ?_⟩
  · split at h
    · have := h3 h; omega
    · cases A with
      | none => have := h3 rfl; omega
      | some x => cases h
  · obtain ⟨b, o, rfl, hc⟩ := h4 (by omega)
    have hk0 : 0 < k := by
      rcases Nat.eq_zero_or_pos k with h | h
      · subst h; simp at hn
      · exact h
    rw [if_neg (by omega)]
    refine ⟨b, o + a * sz, by simp [Addr.add_lit], fun j u hu => ?_⟩
    rw [List.getElem?_take] at hu
    split at hu
    · rw [List.getElem?_drop] at hu
      rw [Nat.add_assoc]
      exact hc _ u hu
    · cases hu
theorem IntsAt.take {w : World} {A : Option Addr} {c : Nat} {l : List Int} (h : IntsAt w (.slice A l.length c) l) (k : Nat) (hk : k ≤ l.length) : IntsAt w (.slice A k c) (l.take k) := by
  have := Sl.take h k hk
  unfold IntsAt
  rw [List.length_take, Nat.min_eq_left hk]
  simpa [ints, List.map_take] using this
theorem IntsAt.cut {w : World} {A : Option Addr} {c : Nat} {l : List Int} (h : IntsAt w (.slice A l.length c) l) (a k : Nat) (hk : a + k ≤ l.length) :
    IntsAt w (.slice (if c = a then A else A.map (·.add (a * 1))) k (c - a)) ((l.drop a).take k) := by
  have := Sl.cut h a k hk
  unfold IntsAt
  rw [List.length_take, List.length_drop, Nat.min_eq_left (by omega)]
  simpa [ints, List.map_take, List.map_drop] using this

end Go.Proofs.Ytnkbopnmfoplfaa
