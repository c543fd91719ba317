/- Words for slices of records (structs of plain cells): those that came in, those of the call's own; append, cut, one element stored. No function of the program. -/
import Derived.Test.YtnkbopnmfoplfaaBase
import Derived.Deep.RegionHeld3
set_option linter.unusedSimpArgs false
set_option linter.unusedVariables false
namespace Go.Proofs.Ytnkbopnmfoplfaa
open Go.RowKit

/-- A kind of records: how many cells one has, its type in the program, and its cells. -/
structure Rec (α : Type) where
  sz : Nat
  ty : Nat
  cells : α → List Value
  clen : ∀ x, (cells x).length = sz
  pos : 0 < sz
  one : ∀ x, ∀ u ∈ cells x, u.oneCell' = true
  d : α

variable {α : Type}
def rcells (R : Rec α) (l : List α) : List Value := l.flatMap R.cells
/-- The record at an index. -/
def gx (R : Rec α) (l : List α) (i : Nat) : α := l.getD i R.d
theorem gx_eq {R : Rec α} {l : List α} {i : Nat} (h : i < l.length) : gx R l i = l[i] := by simp [gx, List.getD, h]
theorem gx_get {R : Rec α} {l : List α} {i : Nat} (h : i < l.length) : l[i]? = some (gx R l i) := by simp [gx, List.getD, h]
theorem gx_mem {R : Rec α} {l : List α} {i : Nat} (h : i < l.length) : gx R l i ∈ l := by rw [gx_eq h]; exact List.getElem_mem h
theorem take_succ_gx (R : Rec α) (l : List α) (k : Nat) (h : k < l.length) : l.take (k + 1) = l.take k ++ [gx R l k] := by
  rw [List.take_succ_eq_append_getElem h, gx_eq h]
theorem drop_gx (R : Rec α) (l : List α) (k : Nat) (h : k < l.length) : l.drop k = gx R l k :: l.drop (k + 1) := by
  rw [gx_eq h]; exact List.drop_eq_getElem_cons h
theorem rcells_len (R : Rec α) (l : List α) : (rcells R l).length = l.length * R.sz := by
  induction l with
  | nil => simp [rcells]
  | cons x l ih => simp only [rcells, List.flatMap_cons, List.length_append, List.length_cons] at ih ⊢; rw [ih, R.clen, Nat.add_mul]; omega
theorem rcells_append (R : Rec α) (l m : List α) : rcells R (l ++ m) = rcells R l ++ rcells R m := by simp [rcells]
theorem rcells_one (R : Rec α) (l : List α) : ∀ u ∈ rcells R l, u.oneCell' = true := by
  intro u hu
  simp only [rcells, List.mem_flatMap] at hu
  obtain ⟨x, _, hx⟩ := hu
  exact R.one x u hx
theorem rcells_at (R : Rec α) (l : List α) (i j : Nat) (h : i < l.length) (hj : j < R.sz) : (rcells R l)[i * R.sz + j]? = (R.cells (gx R l i))[j]? := by
  induction l generalizing i with
  | nil => simp at h
  | cons x l ih =>
    have e : rcells R (x :: l) = R.cells x ++ rcells R l := rfl
    have hx := R.clen x
    cases i with
    | zero =>
      rw [e, List.getElem?_append_left (by omega)]
      simp [gx]
    | succ i =>
      rw [e, List.getElem?_append_right (by rw [hx, Nat.add_mul]; omega), hx, show (i + 1) * R.sz + j - R.sz = i * R.sz + j from by rw [Nat.add_mul]; omega, ih i (by simpa using h)]
      simp [gx]
theorem rcells_take (R : Rec α) (l : List α) (k : Nat) : (rcells R l).take (k * R.sz) = rcells R (l.take k) := by
  induction l generalizing k with
  | nil => simp [rcells]
  | cons x l ih =>
    have e : rcells R (x :: l) = R.cells x ++ rcells R l := rfl
    have hx := R.clen x
    cases k with
    | zero => simp [rcells]
    | succ k =>
      rw [e, List.take_append, hx, show (k + 1) * R.sz - R.sz = k * R.sz from by rw [Nat.add_mul]; omega, ih, List.take_of_length_le (by rw [hx, Nat.add_mul]; omega)]
      rfl
theorem rcells_drop (R : Rec α) (l : List α) (k : Nat) : (rcells R l).drop (k * R.sz) = rcells R (l.drop k) := by
  induction l generalizing k with
  | nil => simp [rcells]
  | cons x l ih =>
    have e : rcells R (x :: l) = R.cells x ++ rcells R l := rfl
    have hx := R.clen x
    cases k with
    | zero => simp
    | succ k =>
      rw [e, List.drop_append, hx, show (k + 1) * R.sz - R.sz = k * R.sz from by rw [Nat.add_mul]; omega, ih, List.drop_of_length_le (by rw [hx, Nat.add_mul]; omega)]
      rfl

/-- A slice of records. -/
def RowAt (R : Rec α) (w : World) (v : Value) (l : List α) : Prop := Sl w R.sz v l.length (rcells R l)
theorem RowAt.below {R : Rec α} {w w' : World} {v : Value} {l : List α} {B : Nat} (h : RowAt R w v l) (hb : Below B w w') (hB : w.heap.size ≤ B) : RowAt R w' v l := Sl.below h hb hB
theorem RowAt.shape {R : Rec α} {w : World} {v : Value} {l : List α} (h : RowAt R w v l) : ∃ A c, v = .slice A l.length c ∧ l.length ≤ c ∧ c ≤ 9223372036854775807 := Sl.shape h
theorem RowAt.drewN {R : Rec α} {w : World} {v : Value} {l : List α} (h : RowAt R w v l) (n : Nat) : RowAt R (w.drewN n) v l := h
theorem RowAt.cells {R : Rec α} {w : World} {A : Option Addr} {n c : Nat} {l : List α} (h : RowAt R w (.slice A n c) l) (i : Nat) (hi : i < l.length) :
    ∃ b o, A = some ⟨b, o, none⟩ ∧ ∀ j u, (R.cells (gx R l i))[j]? = some u → w.cell? ⟨b, o + i * R.sz + j, none⟩ = some u := by
  obtain ⟨hl, A', c', he, h1, h2, h3, h4⟩ := h
  injection he with e1 e2 e3
  subst e1
  have hp := R.pos
  obtain ⟨b, o, rfl, hc⟩ := h4 (Nat.mul_pos (by omega) hp)
  refine ⟨b, o, rfl, fun j u hu => ?_⟩
  have hj : j < R.sz := by have := (List.getElem?_eq_some_iff.1 hu).1; rw [R.clen] at this; exact this
  have := hc (i * R.sz + j) u (by rw [rcells_at R l i j hi hj]; exact hu)
  rw [← Nat.add_assoc] at this
  exact this
theorem RowAt.take {R : Rec α} {w : World} {A : Option Addr} {c : Nat} {l : List α} (h : RowAt R w (.slice A l.length c) l) (k : Nat) (hk : k ≤ l.length) : RowAt R w (.slice A k c) (l.take k) := by
  have := Sl.take h k hk
  rw [rcells_take] at this
  unfold RowAt
  rw [List.length_take, Nat.min_eq_left hk]
  exact this
theorem RowAt.cut {R : Rec α} {w : World} {A : Option Addr} {c : Nat} {l : List α} (h : RowAt R w (.slice A l.length c) l) (a k : Nat) (hk : a + k ≤ l.length) :
    RowAt R w (.slice (if c = a then A else A.map (·.add (a * R.sz))) k (c - a)) ((l.drop a).take k) := by
  have := Sl.cut h a k hk
  rw [rcells_drop, rcells_take] at this
  unfold RowAt
  rw [List.length_take, List.length_drop, Nat.min_eq_left (by omega)]
  exact this

/-- Records of the call's own. -/
def OwnRow (R : Rec α) (w : World) (lo : Nat) (v : Value) (l : List α) : Prop := w.ownsRow lo R.ty R.sz v l.length (rcells R l)
theorem OwnRow.reads {R : Rec α} {w : World} {lo : Nat} {v : Value} {l : List α} (h : OwnRow R w lo v l) : RowAt R w v l := Sl.of_own h
theorem OwnRow.lo {R : Rec α} {w : World} {lo lo' : Nat} {v : Value} {l : List α} (h : OwnRow R w lo v l) (hl : lo' ≤ lo) : OwnRow R w lo' v l := by
  refine ⟨h.1, ?_⟩
  rcases h.2 with hn | ⟨g, cap, cur, rfl, hbg, rest⟩
  · exact .inl hn
  · exact .inr ⟨g, cap, cur, rfl, by omega, rest⟩
theorem OwnRow.below {R : Rec α} {w w' : World} {lo B : Nat} {v : Value} {l : List α} (h : OwnRow R w lo v l) (hb : Below B w w') (hB : w.heap.size ≤ B) : OwnRow R w' lo v l := by
  refine ⟨h.1, ?_⟩
  rcases h.2 with hn | ⟨g, cap, cur, rfl, hbg, hg, rest⟩
  · exact .inl hn
  · refine .inr ⟨g, cap, cur, rfl, hbg, ?_, rest⟩
    rw [hb.block g (by have := (Array.getElem?_eq_some_iff.1 hg).1; omega)]
    exact hg
theorem OwnRow.drewN {R : Rec α} {w : World} {lo : Nat} {v : Value} {l : List α} (h : OwnRow R w lo v l) (n : Nat) : OwnRow R (w.drewN n) lo v l := h
theorem OwnRow.empty (R : Rec α) (w : World) (base : Nat) (hb : base ≤ w.heap.size) : OwnRow R (w.alloc (.cells #[] R.ty)) base (.slice (some ⟨w.heap.size, 0, none⟩) 0 0) [] :=
  World.ownsRow_lit w #[] 0 hb (by simp [maxLen]) (by simp)
theorem OwnRow.nil_ (R : Rec α) (w : World) (base : Nat) : OwnRow R w base (.slice none 0 0) [] := World.ownsRow_nil w base _ _
theorem RowAt.nil_ (R : Rec α) (w : World) : RowAt R w (.slice none 0 0) [] := (OwnRow.nil_ R w 0).reads
def OwnRowIn (R : Rec α) (w : World) (lo hi : Nat) (v : Value) (l : List α) : Prop := OwnRow R w lo v l ∧ ∀ g, v.ownBlock = some g → g < hi
theorem OwnRow.in_ {R : Rec α} {w : World} {lo : Nat} {v : Value} {l : List α} (h : OwnRow R w lo v l) : OwnRowIn R w lo w.heap.size v l := ⟨h, fun g hg => (World.ownsRow.lt h g hg).2⟩
theorem OwnRowIn.reads {R : Rec α} {w : World} {lo hi : Nat} {v : Value} {l : List α} (h : OwnRowIn R w lo hi v l) : RowAt R w v l := h.1.reads
theorem OwnRowIn.keep {R : Rec α} {w w' : World} {lo hi : Nat} {v : Value} {l : List α} (h : OwnRowIn R w lo hi v l) (hk : KeepIn lo hi w w') : OwnRowIn R w' lo hi v l :=
  ⟨ownsRow_keep h.1 hk (Nat.le_refl _) h.2, h.2⟩

/-- What an append leaves: the new row, what was below stays, and where the new row lies. -/
theorem wp_app_row (R : Rec α) (w : World) {ops : Array Oper} {rest : List Oper} {o : Oper} {a : Act} {Q : Exit → Act → World → Prop} (hgd : o.guard = none) (s x : Operand) (T : Nat) (z : Value) (bytes : Nat)
    (hT : Try.prog.underlying T = some (.slice R.ty)) (hinfo : (Try.prog.info? R.ty).map (fun i => (i.zero, i.size, i.bytes)) = some (some z, R.sz, bytes)) (hzs : z.cells.size = R.sz) (hby : bytes ≤ 64)
    (ho : o.op = .call { callee := .builtin .append, args := #[s, x], argTypes := #[T, T] })
    (base : Nat) (v : Value) (l : List α) (hs : a.eval s = v) (hown : OwnRow R w base v l)
    (sv : Value) (m : List α) (hx : a.eval x = sv) (hsl : RowAt R w sv m)
    (h63 : l.length + m.length ≤ 1099511627776) (hbase : base ≤ w.heap.size)
    (h : ∀ v' w', OwnRow R w' base v' (l ++ m) → Grew w w' base v v' → wpList Try.prog ops Q rest (a.put o.dst v') w') :
    wpList Try.prog ops Q (o :: rest) a w := by
  refine wpList_app w hgd s x T ho base R.ty z R.sz bytes hT hinfo hzs R.pos v l.length (rcells R l) hs hown sv m.length (rcells R m) hx hsl (rcells_one R _) h63 hby hbase ?_
  intro v' w' h1 h2 h3
  refine h v' w' ?_ ⟨ownsRow_below hown h2 hbase, h2, fun g hg => ?_⟩
  · unfold OwnRow
    rw [List.length_append, rcells_append]
    exact h1
  · rcases h3 with h3 | h3
    · exact .inl (h3.symm.trans hg)
    · rw [h3] at hg
      injection hg with hg
      exact .inr (by omega)

theorem RowAt.one (R : Rec α) (w : World) (x : α) (cs : Array Value) (hcs : cs.toList = R.cells x) : RowAt R (w.alloc (.cells cs R.ty)) (.slice (some ⟨w.heap.size, 0, none⟩) 1 1) [x] := by
  have h := World.ownsRow_lit (base := 0) (e := R.ty) (size := R.sz) w cs 1 (Nat.zero_le _) (by simp [maxLen]) (by have := R.clen x; rw [← hcs] at this; simp at this; omega)
  have h2 := Sl.of_own h
  rw [hcs] at h2
  unfold RowAt
  have e : rcells R [x] = R.cells x := by simp [rcells]
  rw [e]
  exact h2

/-- append of one record: it is laid in a block of its own first. -/
theorem wp_app_rec (R : Rec α) (w : World) {ops : Array Oper} {rest : List Oper} {o : Oper} {a : Act} {Q : Exit → Act → World → Prop} (hgd : o.guard = none) (s x : Operand) (T : Nat) (z : Value) (bytes : Nat)
    (hT : Try.prog.underlying T = some (.slice R.ty)) (hinfo : (Try.prog.info? R.ty).map (fun i => (i.zero, i.size, i.bytes)) = some (some z, R.sz, bytes)) (hzs : z.cells.size = R.sz) (hby : bytes ≤ 64)
    (ho : o.op = .call { callee := .builtin .append, args := #[s, x], argTypes := #[T, T] })
    (base : Nat) (v : Value) (l : List α) (hs : a.eval s = v) (hown : OwnRow R w base v l)
    (y : α) (cs : Array Value) (hcs : cs.toList = R.cells y) (E H : Nat) (hE : E = R.ty) (hx : a.eval x = .slice (some ⟨H, 0, none⟩) 1 1) (hH : H = w.heap.size)
    (h63 : l.length + 1 ≤ 1099511627776) (hbase : base ≤ w.heap.size)
    (h : ∀ v' w', OwnRow R w' base v' (l ++ [y]) → Grew w w' base v v' → wpList Try.prog ops Q rest (a.put o.dst v') w') :
    wpList Try.prog ops Q (o :: rest) a (w.alloc (.cells cs E)) := by
  subst hH hE
  refine wp_app_row R _ hgd s x T z bytes hT hinfo hzs hby ho base v l hs (World.ownsRow.alloc hown _) _ [y] hx (RowAt.one R w y cs hcs) h63 (by simp; omega) fun v' w' h1 h2 => h v' w' h1 ⟨?_, ?_, ?_⟩
  · exact ((Below.refl _ _).alloc hbase _).trans h2.below
  · exact (World.grownBy_alloc w _ _).trans h2.grown
  · intro g hg
    rcases h2.at_ g hg with h3 | h3
    · exact .inl h3
    · exact .inr (by simp at h3; omega)

/-- Cells stored one behind the other. -/
def setCells (w : World) (g i : Nat) : List Value → World
  | [] => w
  | u :: us => setCells (w.setCell ⟨g, i, none⟩ u) g (i + 1) us
def setFrom (xs : List Value) (i : Nat) : List Value → List Value
  | [] => xs
  | u :: us => setFrom (xs.set i u) (i + 1) us
theorem ownsRow_setCells {w : World} {lo e sz n c g : Nat} {xs : List Value} (us : List Value) (i : Nat) (h : w.ownsRow lo e sz (.slice (some ⟨g, 0, none⟩) n c) n xs) :
    (setCells w g i us).ownsRow lo e sz (.slice (some ⟨g, 0, none⟩) n c) n (setFrom xs i us) ∧ w.grownBy (setCells w g i us) (some g) := by
  induction us generalizing w xs i with
  | nil => exact ⟨h, World.grownBy.refl _ _⟩
  | cons u us ih =>
    have h1 := h.stored i u
    have h2 := ih (i + 1) h1.1
    exact ⟨h2.1, h1.2.trans h2.2⟩
theorem setFrom_mid (A B us xs : List Value) (i : Nat) (hA : A.length = i) (hB : B.length = us.length) (he : xs = A ++ B) (R : List Value) : setFrom (xs ++ R) i us = A ++ us ++ R := by
  subst he
  induction us generalizing A B i with
  | nil =>
    have : B = [] := List.eq_nil_of_length_eq_zero hB
    subst this; simp [setFrom]
  | cons u us ih =>
    match B, hB with
    | b :: B, hB =>
      have e : ((A ++ b :: B) ++ R).set i u = ((A ++ [u]) ++ B) ++ R := by
        rw [List.append_assoc, List.append_assoc, List.append_assoc]
        rw [List.set_append_right _ _ (by omega), hA, Nat.sub_self]
        rfl
      show setFrom (((A ++ b :: B) ++ R).set i u) (i + 1) us = _
      rw [e, ih (A ++ [u]) B (i + 1) (by simp [hA]) (by simpa using hB)]
      simp
theorem rcells_set (R : Rec α) (l : List α) (i : Nat) (x : α) (h : i < l.length) : setFrom (rcells R l) (i * R.sz) (R.cells x) = rcells R (l.set i x) := by
  have e1 : l = l.take i ++ gx R l i :: l.drop (i + 1) := by rw [← drop_gx R l i h, List.take_append_drop]
  have hl : (l.take i).length = i := by rw [List.length_take]; omega
  have e2 : l.set i x = l.take i ++ x :: l.drop (i + 1) := by
    conv => lhs; rw [e1]
    rw [List.set_append_right _ _ (by omega), hl, Nat.sub_self]; rfl
  have e3 : rcells R l = (rcells R (l.take i) ++ R.cells (gx R l i)) ++ rcells R (l.drop (i + 1)) := by
    conv => lhs; rw [e1]
    rw [rcells_append]
    show _ ++ (R.cells _ ++ rcells R _) = _
    rw [List.append_assoc]
  rw [e2, rcells_append, e3, setFrom_mid (rcells R (l.take i)) (R.cells (gx R l i)) (R.cells x) _ (i * R.sz) (by rw [rcells_len, hl]) (by rw [R.clen, R.clen]) rfl, List.append_assoc]
  rfl
/-- One record stored into a row of the call's own. -/
theorem OwnRow.set {R : Rec α} {w : World} {lo g n c : Nat} {l : List α} (h : OwnRow R w lo (.slice (some ⟨g, 0, none⟩) n c) l) (i : Nat) (x : α) (hi : i < l.length) :
    OwnRow R (setCells w g (i * R.sz) (R.cells x)) lo (.slice (some ⟨g, 0, none⟩) n c) (l.set i x) ∧ w.grownBy (setCells w g (i * R.sz) (R.cells x)) (some g) := by
  have hn : n = l.length := by
    have := Sl.shape (OwnRow.reads h)
    obtain ⟨A, c', he, _⟩ := this
    injection he
  subst hn
  have := ownsRow_setCells (R.cells x) (i * R.sz) h
  refine ⟨?_, this.2⟩
  unfold OwnRow
  rw [List.length_set, ← rcells_set R l i x hi]
  exact this.1
theorem OwnRow.lit {R : Rec α} {w : World} {lo : Nat} {v : Value} {l : List α} (h : OwnRow R w lo v l) (hn : 0 < l.length) : ∃ g c, v = .slice (some ⟨g, 0, none⟩) l.length c ∧ lo ≤ g := by
  rcases h.2 with ⟨_, h0⟩ | ⟨g, cap, cur, rfl, hbg, _⟩
  · have := rcells_len R l
    rw [h0] at this
    have hp := Nat.mul_pos hn R.pos
    simp at this
    omega
  · exact ⟨g, cap, rfl, hbg⟩
/-! ### Filling, marking -/
/-- A row while it is filled: the first k records, then empty ones. -/
def filled (R : Rec α) (l : List α) (k : Nat) : List α := l.take k ++ List.replicate (l.length - k) R.d
theorem filled_len (R : Rec α) (l : List α) (k : Nat) (h : k ≤ l.length) : (filled R l k).length = l.length := by
  unfold filled; rw [List.length_append, List.length_take, List.length_replicate]; omega
theorem filled_zero (R : Rec α) (l : List α) : filled R l 0 = List.replicate l.length R.d := by simp [filled]
theorem filled_all (R : Rec α) (l : List α) : filled R l l.length = l := by simp [filled]
theorem filled_at (R : Rec α) (l : List α) (k : Nat) (h : k < l.length) : gx R (filled R l k) k = R.d := by
  have hl : (l.take k).length = k := by rw [List.length_take]; omega
  unfold gx filled
  rw [List.getD_eq_getElem?_getD, List.getElem?_append_right (by omega), hl, Nat.sub_self, List.getElem?_replicate, if_pos (by omega)]; rfl
theorem filled_set (R : Rec α) (l : List α) (k : Nat) (h : k < l.length) : (filled R l k).set k (gx R l k) = filled R l (k + 1) := by
  have hl : (l.take k).length = k := by rw [List.length_take]; omega
  unfold filled
  obtain ⟨m, hm⟩ : ∃ m, l.length - k = m + 1 := ⟨l.length - k - 1, by omega⟩
  have hm' : l.length - (k + 1) = m := by omega
  rw [List.set_append_right _ _ (by omega), hl, Nat.sub_self, take_succ_gx R l k h, hm, hm', List.replicate_succ, List.set_cons_zero, List.append_assoc]
  rfl
theorem made_rcells (R : Rec α) (z : Array Value) (hz : z.toList = R.cells R.d) (n : Nat) : (madeCells z (n * R.sz)).toList = rcells R (List.replicate n R.d) := by
  have hzs : z.size = R.sz := by have := R.clen R.d; rw [← hz] at this; simpa using this
  apply List.ext_getElem?
  intro t
  by_cases ht : t < n * R.sz
  · have hp := R.pos
    have hi : t / R.sz < n := (Nat.div_lt_iff_lt_mul hp).2 ht
    have hj : t % R.sz < R.sz := Nat.mod_lt _ hp
    have e : t = t / R.sz * R.sz + t % R.sz := by rw [Nat.mul_comm]; exact (Nat.div_add_mod t R.sz).symm
    have e2 : gx R (List.replicate n R.d) (t / R.sz) = R.d := by
      unfold gx; rw [List.getD_eq_getElem?_getD, List.getElem?_replicate, if_pos hi]; rfl
    have e3 := rcells_at R (List.replicate n R.d) (t / R.sz) (t % R.sz) (by rw [List.length_replicate]; exact hi) hj
    rw [← e, e2] at e3
    rw [e3, ← hz]
    have hj2 : t % R.sz < z.size := by omega
    simp [madeCells, ht, hzs]
    rw [getElem!_pos z _ hj2, Array.getElem?_eq_getElem hj2]
  · have e1 : (madeCells z (n * R.sz)).toList.length ≤ t := by simp [madeCells]; omega
    have e2 : (rcells R (List.replicate n R.d)).length ≤ t := by rw [rcells_len, List.length_replicate]; omega
    rw [List.getElem?_eq_none e1, List.getElem?_eq_none e2]
theorem OwnRow.cell {R : Rec α} {w : World} {lo g n c : Nat} {l : List α} (h : OwnRow R w lo (.slice (some ⟨g, 0, none⟩) n c) l) (i : Nat) (hi : i < l.length) (j : Nat) (hj : j < R.sz) :
    w.cell? ⟨g, i * R.sz + j, none⟩ = (R.cells (gx R l i))[j]? := by
  have hlt : i * R.sz + j < l.length * R.sz := by
    have : (i + 1) * R.sz ≤ l.length * R.sz := Nat.mul_le_mul_right _ hi
    rw [Nat.add_mul] at this; omega
  have h1 : w.cell? ⟨g, i * R.sz + j, none⟩ = (rcells R l)[i * R.sz + j]? := World.ownsRow.cellAt (n := l.length) (by
    have := (Sl.shape (OwnRow.reads h))
    obtain ⟨A, c', he, _⟩ := this
    injection he with _ e2 _
    subst e2
    exact h) _ hlt
  rw [h1, rcells_at R l i j hi hj]
theorem OwnRow.free {R : Rec α} {w : World} {lo g n c : Nat} {l : List α} (h : OwnRow R w lo (.slice (some ⟨g, 0, none⟩) n c) l) (j : Nat) : w.frozen? ⟨g, j, none⟩ = false := by
  obtain ⟨A, c', he, _⟩ := Sl.shape (OwnRow.reads h)
  injection he with _ e2 _
  subst e2
  exact World.ownsRow.frozenAt h j
/-- The marks: record i is f at k0 + i * size. -/
def mks (R : Rec α) (f : Int → α) (k0 : Int) (n : Nat) : List α := (List.range n).map fun (i : Nat) => f (k0 + ((i * R.sz : Nat) : Int))
theorem mks_len (R : Rec α) (f : Int → α) (k0 : Int) (n : Nat) : (mks R f k0 n).length = n := by simp [mks]
theorem gx_mks (R : Rec α) (f : Int → α) (k0 : Int) (n i : Nat) (h : i < n) : gx R (mks R f k0 n) i = f (k0 + ((i * R.sz : Nat) : Int)) := by simp [gx, mks, List.getD, h]
def mkd (R : Rec α) (f : Int → α) (k0 : Int) (l : List α) (j : Nat) : List α := mks R f k0 j ++ l.drop j
theorem mkd_zero (R : Rec α) (f : Int → α) (k0 : Int) (l : List α) : mkd R f k0 l 0 = l := by simp [mkd, mks]
theorem mkd_all (R : Rec α) (f : Int → α) (k0 : Int) (l : List α) : mkd R f k0 l l.length = mks R f k0 l.length := by simp [mkd]
theorem mkd_len (R : Rec α) (f : Int → α) (k0 : Int) (l : List α) (j : Nat) (h : j ≤ l.length) : (mkd R f k0 l j).length = l.length := by
  unfold mkd; rw [List.length_append, mks_len, List.length_drop]; omega
theorem mkd_set (R : Rec α) (f : Int → α) (k0 : Int) (l : List α) (j : Nat) (h : j < l.length) : (mkd R f k0 l j).set j (f (k0 + ((j * R.sz : Nat) : Int))) = mkd R f k0 l (j + 1) := by
  have hm : (mks R f k0 j).length = j := mks_len _ _ _ _
  have e : mks R f k0 (j + 1) = mks R f k0 j ++ [f (k0 + ((j * R.sz : Nat) : Int))] := by simp [mks, List.range_succ]
  unfold mkd
  rw [List.set_append_right _ _ (by omega), hm, Nat.sub_self, List.drop_eq_getElem_cons h, e, List.set_cons_zero, List.append_assoc]
  rfl
def MarkedRow (R : Rec α) (f : Int → α) (w : World) (lo hi : Nat) (v : Value) (k0 : Int) (l : List α) : Prop := OwnRowIn R w lo hi v (mks R f k0 l.length)
theorem MarkedRow.keep {R : Rec α} {f : Int → α} {w w' : World} {lo hi : Nat} {v : Value} {k0 : Int} {l : List α} (h : MarkedRow R f w lo hi v k0 l) (hk : KeepIn lo hi w w') : MarkedRow R f w' lo hi v k0 l := OwnRowIn.keep h hk
def MarkRowPost (R : Rec α) (f : Int → α) (w : World) (lo hi : Nat) (v : Value) (k0 : Int) (l : List α) (e : Ending) (w' : World) : Prop :=
  e = .returned (.int .i64 (k0 + ((l.length * R.sz : Nat) : Int))) ∧ MarkedRow R f w' lo hi v k0 l ∧ w.grownBy w' v.ownBlock ∧ Apart lo hi w w'
def FreshRow (R : Rec α) (w : World) (l : List α) (e : Ending) (w' : World) : Prop := ∃ v, e = .returned v ∧ OwnRow R w' w.heap.size v l ∧ Below w.heap.size w w'
theorem OwnRowIn.apart {R : Rec α} {w w' : World} {lo hi : Nat} {v : Value} {l : List α} (h : OwnRowIn R w lo hi v l) (hg : w.grownBy w' v.ownBlock) : Apart lo hi w w' :=
  ⟨hg.os, hg.tape, hg.output, hg.size, fun k hk ho => hg.block k hk (fun e => by
    have h1 := (World.ownsRow.lt h.1 k e.symm).1
    have h2 := h.2 k e.symm
    omega)⟩
/-! ### append inside a region that draws its order -/
theorem wpOp_app {P : Program} (w : World) {o : Oper} {a : Act} {K : Act → World → Prop} {Q : Exit → Act → World → Prop} (s x : Operand) (t : TypeId)
    (ho : o.op = .call { callee := .builtin .append, args := #[s, x], argTypes := #[t, t] })
    (base e : Nat) (z : Value) (size bytes : Nat) (ht : P.underlying t = some (.slice e)) (hinfo : (P.info? e).map (fun i => (i.zero, i.size, i.bytes)) = some (some z, size, bytes))
    (hzs : z.cells.size = size) (hsz : 0 < size)
    (v : Value) (n : Nat) (xs : List Value) (hs : a.eval s = v) (hown : w.ownsRow base e size v n xs)
    (sv : Value) (m : Nat) (news : List Value) (hx : a.eval x = sv) (hsl : Sl w size sv m news) (h1 : ∀ u ∈ news, u.oneCell' = true)
    (h63 : n + m ≤ 1099511627776) (hby : bytes ≤ 64) (hbase : base ≤ w.heap.size)
    (h : ∀ v' w', w'.ownsRow base e size v' (n + m) (xs ++ news) → w.grownBy w' v.ownBlock → (v'.ownBlock = v.ownBlock ∨ v'.ownBlock = some w.heap.size) → K (a.put o.dst v') w') :
    Oper.wp P o a w K Q := by
  obtain ⟨i, hi, hz, hsize, hbyt⟩ := info_parts hinfo
  obtain ⟨hl, A, c, rfl, hmc, hcm, hnone, hcell⟩ := hsl
  have key : ∃ v' w', (Builtin.append_ #[t, t] o.type #[v, .slice A m c]).run P w = .ok v' w' ∧ w'.ownsRow base e size v' (n + m) (xs ++ news) ∧ w.grownBy w' v.ownBlock ∧
      (v'.ownBlock = v.ownBlock ∨ v'.ownBlock = some w.heap.size) := by
    cases A with
    | none =>
      obtain ⟨rfl, rfl⟩ := hnone rfl
      have hn : news = [] := List.eq_nil_of_length_eq_zero (by simpa using hl)
      subst hn
      exact ⟨v, w, run_append_owned_none w base t o.type e i size ht hi v n xs hown, by simpa using hown, World.grownBy.refl w _, .inl rfl⟩
    | some ad =>
      have hc : ∀ j u, news[j]? = some u → w.cell? (ad.add j) = some u := by
        intro j u hu
        have hlt := (List.getElem?_eq_some_iff.1 hu).1
        obtain ⟨b, off, he, hcc⟩ := hcell (by omega)
        injection he with he
        subst he
        have := hcc j u hu
        rw [Addr.add_lit]
        exact this
      have hb2 : (n + m) * bytes ≤ 140737488355328 := by
        have : (n + m) * bytes ≤ 1099511627776 * 64 := Nat.mul_le_mul h63 hby
        omega
      obtain ⟨v', w', hrun, r2, r3, _, r5⟩ := run_append_own_at (P := P) w base t o.type e i z size bytes ht hi hz hsize hbyt hzs hsz v n xs hown ad m c news hl hc h1 (by unfold maxLen; omega) hb2 hbase
      exact ⟨v', w', hrun, r2, r3, r5⟩
  obtain ⟨v', w', hrun, r2, r3, r4⟩ := key
  unfold Oper.wp execOp
  simp only [ho, resolve, invoke, builtin, Sem.run_bind, Sem.run_pure, Result.andThen_ok, List.map_toArray, List.map_cons, List.map_nil, hs, hx, hrun]
  exact h v' w' r2 r3 r4
theorem step_of {P : Program} {ops : Array Oper} {o : Oper} {a : Act} {w : World} {K : Act → World → Prop} {Q : Exit → Act → World → Prop} {E : Prop} (hgd : o.guard = none) (h : Oper.wp P o a w K Q) :
    if Region.wanted o (yielded ops a.tmps) = true then Oper.wp P o a w K Q else E := by
  have hw : Region.wanted o (yielded ops a.tmps) = true := by simp [Region.wanted, hgd]
  rw [if_pos hw]
  exact h
theorem grew_of {w w' : World} {base e sz n : Nat} {v v' : Value} {xs : List Value} (hown : w.ownsRow base e sz v n xs) (h2 : w.grownBy w' v.ownBlock) (h3 : v'.ownBlock = v.ownBlock ∨ v'.ownBlock = some w.heap.size) (hbase : base ≤ w.heap.size) : Grew w w' base v v' := by
  refine ⟨ownsRow_below hown h2 hbase, h2, fun g hg => ?_⟩
  rcases h3 with h3 | h3
  · exact .inl (h3.symm.trans hg)
  · rw [h3] at hg
    injection hg with hg
    exact .inr (by omega)
theorem step_app_ints (w : World) {ops : Array Oper} {o : Oper} {a : Act} {K : Act → World → Prop} {Q : Exit → Act → World → Prop} {E : Prop} (hgd : o.guard = none) (s x : Operand)
    (ho : o.op = .call { callee := .builtin .append, args := #[s, x], argTypes := #[27, 27] })
    (base : Nat) (v : Value) (l : List Int) (hs : a.eval s = v) (hown : OwnInts w base v l)
    (sv : Value) (m : List Int) (hx : a.eval x = sv) (hsl : IntsAt w sv m)
    (h63 : l.length + m.length ≤ 1099511627776) (hbase : base ≤ w.heap.size)
    (h : ∀ v' w', OwnInts w' base v' (l ++ m) → Grew w w' base v v' → K (a.put o.dst v') w') :
    if Region.wanted o (yielded ops a.tmps) = true then Oper.wp Try.prog o a w K Q else E := by
  refine step_of hgd (wpOp_app w s x 27 ho base 3 (.int .i64 0) 1 8 Try.underlying27 info_int rfl (by omega) v l.length (ints l) hs hown sv m.length (ints m) hx hsl (ints_one _) h63 (by omega) hbase ?_)
  intro v' w' h1 h2 h3
  refine h v' w' ?_ (grew_of hown h2 h3 hbase)
  unfold OwnInts
  rw [List.length_append, ← ints_append]
  exact h1
theorem step_app_row (R : Rec α) (w : World) {ops : Array Oper} {o : Oper} {a : Act} {K : Act → World → Prop} {Q : Exit → Act → World → Prop} {E : Prop} (hgd : o.guard = none) (s x : Operand) (T : Nat) (z : Value) (bytes : Nat)
    (hT : Try.prog.underlying T = some (.slice R.ty)) (hinfo : (Try.prog.info? R.ty).map (fun i => (i.zero, i.size, i.bytes)) = some (some z, R.sz, bytes)) (hzs : z.cells.size = R.sz) (hby : bytes ≤ 64)
    (ho : o.op = .call { callee := .builtin .append, args := #[s, x], argTypes := #[T, T] })
    (base : Nat) (v : Value) (l : List α) (hs : a.eval s = v) (hown : OwnRow R w base v l)
    (sv : Value) (m : List α) (hx : a.eval x = sv) (hsl : RowAt R w sv m)
    (h63 : l.length + m.length ≤ 1099511627776) (hbase : base ≤ w.heap.size)
    (h : ∀ v' w', OwnRow R w' base v' (l ++ m) → Grew w w' base v v' → K (a.put o.dst v') w') :
    if Region.wanted o (yielded ops a.tmps) = true then Oper.wp Try.prog o a w K Q else E := by
  refine step_of hgd (wpOp_app w s x T ho base R.ty z R.sz bytes hT hinfo hzs R.pos v l.length (rcells R l) hs hown sv m.length (rcells R m) hx hsl (rcells_one R _) h63 hby hbase ?_)
  intro v' w' h1 h2 h3
  refine h v' w' ?_ (grew_of hown h2 h3 hbase)
  unfold OwnRow
  rw [List.length_append, rcells_append]
  exact h1
theorem step_app_rec (R : Rec α) (w : World) {ops : Array Oper} {o : Oper} {a : Act} {K : Act → World → Prop} {Q : Exit → Act → World → Prop} {E' : Prop} (hgd : o.guard = none) (s x : Operand) (T : Nat) (z : Value) (bytes : Nat)
    (hT : Try.prog.underlying T = some (.slice R.ty)) (hinfo : (Try.prog.info? R.ty).map (fun i => (i.zero, i.size, i.bytes)) = some (some z, R.sz, bytes)) (hzs : z.cells.size = R.sz) (hby : bytes ≤ 64)
    (ho : o.op = .call { callee := .builtin .append, args := #[s, x], argTypes := #[T, T] })
    (base : Nat) (v : Value) (l : List α) (hs : a.eval s = v) (hown : OwnRow R w base v l)
    (y : α) (cs : Array Value) (hcs : cs.toList = R.cells y) (E H : Nat) (hE : E = R.ty) (hx : a.eval x = .slice (some ⟨H, 0, none⟩) 1 1) (hH : H = w.heap.size)
    (h63 : l.length + 1 ≤ 1099511627776) (hbase : base ≤ w.heap.size)
    (h : ∀ v' w', OwnRow R w' base v' (l ++ [y]) → Grew w w' base v v' → K (a.put o.dst v') w') :
    if Region.wanted o (yielded ops a.tmps) = true then Oper.wp Try.prog o a (w.alloc (.cells cs E)) K Q else E' := by
  subst hH hE
  refine step_app_row R _ hgd s x T z bytes hT hinfo hzs hby ho base v l hs (World.ownsRow.alloc hown _) _ [y] hx (RowAt.one R w y cs hcs) h63 (by simp; omega) fun v' w' h1 h2 => h v' w' h1 ⟨?_, ?_, ?_⟩
  · exact ((Below.refl _ _).alloc hbase _).trans h2.below
  · exact (World.grownBy_alloc w _ _).trans h2.grown
  · intro g hg
    rcases h2.at_ g hg with h3 | h3
    · exact .inl h3
    · exact .inr (by simp at h3; omega)
end Go.Proofs.Ytnkbopnmfoplfaa
