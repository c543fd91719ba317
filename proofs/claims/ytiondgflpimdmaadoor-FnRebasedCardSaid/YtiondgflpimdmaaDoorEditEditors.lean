/- Contracts: closures over edits, EditorsOf, in the program and in the reference. -/
import Derived.Test.YtiondgflpimdmaaDoorEditFit
import Derived.Test.YtiondgflpimdmaaDoorPut
set_option linter.unusedSimpArgs false
set_option linter.unusedVariables false
namespace Go.Proofs.YtiondgflpimdmaaDoor
open Go.RowKit

/-- The first edit of which p holds, or -1. -/
def fndE (p : Edt → Bool) : List Edt → Nat → Int
  | [], _ => -1
  | x :: l, k => if p x then (k : Int) else fndE p l (k + 1)
theorem fndE_cases (p : Edt → Bool) (l : List Edt) (k : Nat) : (fndE p l k = -1 ∧ l.any p = false) ∨ (0 ≤ fndE p l k ∧ l.any p = true) := by
  induction l generalizing k with
  | nil => left; exact ⟨rfl, rfl⟩
  | cons x l ih =>
    unfold fndE
    cases h : p x
    · rw [if_neg (by decide)]
      rcases ih (k + 1) with ⟨h1, h2⟩ | ⟨h1, h2⟩
      · left; exact ⟨h1, by rw [List.any_cons, h, h2]; rfl⟩
      · right; exact ⟨h1, by rw [List.any_cons, h2]; simp⟩
    · right; rw [if_pos rfl]; exact ⟨by omega, by rw [List.any_cons, h]; rfl⟩
theorem fndE_hit {p : Edt → Bool} {l : List Edt} {k : Nat} (h : k < l.length) (e : p (gx edtRec l k) = true) : fndE p (l.drop k) k = (k : Int) := by
  rw [drop_gx edtRec l k h]; unfold fndE; rw [if_pos e]
theorem fndE_miss {p : Edt → Bool} {l : List Edt} {k : Nat} (h : k < l.length) (e : p (gx edtRec l k) = false) : fndE p (l.drop k) k = fndE p (l.drop (k + 1)) (k + 1) := by
  rw [drop_gx edtRec l k h]
  conv => lhs; unfold fndE
  rw [if_neg (by rw [e]; decide)]
/-- Of an increasing row those that occur. -/
def occ (R : List Int) (f : Edt → Int) (es : List Edt) : List Int := R.filter fun n => es.any fun x => f x == n
theorem occ_put (R : List Int) (f : Edt → Int) (es : List Edt) (k : Nat) (hs : R.Pairwise (· < ·)) (hk : k < es.length) (hn : f (gx edtRec es k) ∈ R) :
    putI (occ R f (es.take k)) (f (gx edtRec es k)) = occ R f (es.take (k + 1)) := by
  unfold occ
  rw [putI_filter R _ _ hs hn, take_succ_gx edtRec es k hk]
  apply List.filter_congr
  intro x _
  rw [List.any_append]
  simp only [List.any_cons, List.any_nil, Bool.or_false]
  congr 1
  rw [Bool.eq_iff_iff, beq_iff_eq, beq_iff_eq]; exact eq_comm
theorem occ_nil (R : List Int) (f : Edt → Int) : occ R f [] = [] := by simp [occ]
theorem occ_len (R : List Int) (f : Edt → Int) (es : List Edt) : (occ R f es).length ≤ R.length := List.length_filter_le _ _
theorem occ_no {R : List Int} {f : Edt → Int} {es : List Edt} {x : Int} (h : (es.any fun y => f y == x) = false) : occ (R ++ [x]) f es = occ R f es := by
  unfold occ; rw [List.filter_append]; simp only [List.filter_cons, List.filter_nil, h]; simp
theorem occ_yes {R : List Int} {f : Edt → Int} {es : List Edt} {x : Int} (h : (es.any fun y => f y == x) = true) : occ (R ++ [x]) f es = occ R f es ++ [x] := by
  unfold occ; rw [List.filter_append]; simp only [List.filter_cons, List.filter_nil, h]; simp

theorem off_keep {w w5 : World} {t : Value} {b o : Nat} {u : Value} (hg : w.grownBy w5 t.ownBlock) (hne : t.ownBlock ≠ some b) (hc : w.cell? ⟨b, o, none⟩ = some u) : w5.cell? ⟨b, o, none⟩ = some u := by
  have hlt := World.block_lt_of_cell? w ⟨b, o, none⟩ hc
  exact (World.cell?_of_block (w := w) (w' := w5) (hg.block b hlt (fun e => hne e.symm))).trans hc
/-! ### EditorsOf -/
theorem editorsClosure (x : Edt) (bx : Nat) (i : Int) (w : World) (hc : w.cell? ⟨bx, 0, none⟩ = some (.int .i64 i)) :
    Calls Tryd.prog 53 #[.agg #[.int .i64 x.e, .int .i64 x.p, .int .i64 x.bx, .int .i64 x.bY, .int .i64 x.ax, .int .i64 x.aY], .pointer (some ⟨bx, 0, none⟩)] w fun e w' => e = .returned (.bool (x.e == i)) ∧ Below w.heap.size w w' := by
  have hlt : bx < w.heap.size := World.block_lt_of_cell? w _ hc
  have hb := fun o => (Below.refl w.heap.size w).alloc (Nat.le_refl _) o
  have Hb := Lib.hid hb
  clear hb
  go_enter Tryd.func53, Tryd.ntmps53
  go_wp2_with fail
  go_ret
  exact ⟨rfl, Hb.out _⟩
set_option maxHeartbeats 1600000 in
theorem edrIndex (v : Value) (es : List Edt) (bx : Nat) (i : Int) (w : World) (h : RowAt edtRec w v es) (hc : w.cell? ⟨bx, 0, none⟩ = some (.int .i64 i)) :
    Calls Tryd.prog 80 #[v, .func (.func 53) #[] #[.pointer (some ⟨bx, 0, none⟩)]] w
      fun e w' => e = .returned (.int .i64 (fndE (fun x => x.e == i) es 0)) ∧ Below w.heap.size w w' := by
  obtain ⟨A, c, rfl, hnc, hc63⟩ := h.shape
  obtain ⟨p, hp⟩ : ∃ p : Edt → Bool, p = (fun x => x.e == i) := ⟨_, rfl⟩
  have Hp := Lib.hid hp
  rw [← hp]
  clear hp
  go_enter Tryd.func80, Tryd.ntmps80
  go_wp2_with fail
  go_loopw [8] (fun s wr => ∃ k : Nat, k ≤ es.length ∧ s = .int .i64 k ∧ Hid (fndE p es 0 = fndE p (es.drop k) k) ∧ Below w.heap.size w wr) (fun s _ => es.length - (intOf s).toNat)
  case atStart => exact ⟨0, Nat.zero_le _, rfl, rfl, Below.refl _ _⟩
  case round =>
    obtain ⟨k, hk, rfl, hfn, hb⟩ := hrel
    by_cases hlt : k < es.length
    · obtain ⟨b, o, rfl, hc0, hc1, hc2, hc3, hc4, hc5⟩ := edt_at (h.below hb (Nat.le_refl _)) k hlt
      have hcx := Below.keepC hb hc (Nat.le_refl _)
      cases hx : p (gx edtRec es k)
      · have hn := Lib.hid (hfn.out.trans (fndE_miss hlt hx))
        have hx2 : ((gx edtRec es k).e == i) = false := by rw [Hp.out] at hx; exact hx
        clear hx
        go_wp2_with (go_at_call 53; refine (editorsClosure (gx edtRec es k) bx i _ hcx).mono ?_; rintro e w1 ⟨rfl, b1⟩)
        go_roundw
        case rel => exact ⟨k + 1, by omega, by go_num, hn, hb.next (Nat.le_refl _) b1⟩
        case measure => simp [intOf]; omega
      · have hn := Lib.hid (hfn.out.trans (fndE_hit hlt hx))
        have hx2 : ((gx edtRec es k).e == i) = true := by rw [Hp.out] at hx; exact hx
        clear hx
        go_wp2_with (go_at_call 53; refine (editorsClosure (gx edtRec es k) bx i _ hcx).mono ?_; rintro e w1 ⟨rfl, b1⟩)
        go_ret
        exact ⟨ret_int hn.out.symm, hb.next (Nat.le_refl _) b1⟩
    · obtain rfl : k = es.length := by omega
      have hn : Hid (fndE p es 0 = -1) := by
        show _ = _
        rw [hfn.out, List.drop_length]; rfl
      go_wp2_with fail
      go_ret
      exact ⟨ret_int hn.out.symm, hb⟩
theorem edrContains (v : Value) (es : List Edt) (bx : Nat) (i : Int) (w : World) (h : RowAt edtRec w v es) (hc : w.cell? ⟨bx, 0, none⟩ = some (.int .i64 i)) :
    Calls Tryd.prog 52 #[v, .func (.func 53) #[] #[.pointer (some ⟨bx, 0, none⟩)]] w
      fun e w' => e = .returned (.bool (es.any (fun x => x.e == i))) ∧ Below w.heap.size w w' := by
  obtain ⟨A, c, rfl, hnc, hc63⟩ := h.shape
  go_enter Tryd.func52, Tryd.ntmps52
  go_wp2_with fail
  refine (edrIndex _ es bx i _ h hc).mono ?_; rintro e w1 ⟨rfl, b1⟩
  go_wp2_with fail
  go_ret
  refine ⟨ret_bool ?_, b1⟩
  rcases fndE_cases (fun x => x.e == i) es 0 with ⟨h1, h2⟩ | ⟨h1, h2⟩
  · rw [h1, h2]; rfl
  · rw [h2]; exact decide_eq_true h1

/-- What EditorsOf returns. -/
def rEditors (es : List Edt) : List Int × Bool := if areEdts es then (occ (rng 1 9) Edt.e es, true) else ([], false)
theorem rEditors_no {es : List Edt} (h : areEdts es = false) : rEditors es = ([], false) := by unfold rEditors; rw [h]; rfl
theorem rEditors_yes {es : List Edt} (h : areEdts es = true) : rEditors es = (occ (rng 1 9) Edt.e es, true) := by unfold rEditors; rw [h]; rfl
theorem rEditors_len (es : List Edt) : (rEditors es).1.length ≤ 9 := by
  cases h : areEdts es
  · rw [rEditors_no h]; simp
  · rw [rEditors_yes h]
    have := occ_len (rng 1 9) Edt.e es
    rw [rng_len] at this
    exact this
set_option maxHeartbeats 3200000 in
theorem specEditors (ve : Value) (es : List Edt) (w : World) (hE : RowAt edtRec w ve es) :
    Calls Tryd.prog 19 #[ve] w (FreshIntsC w (rEditors es)) := by
  obtain ⟨B, d, rfl, hnd, hd63⟩ := hE.shape
  cases h1 : areEdts es
  · have hr := Lib.hid (rEditors_no h1)
    go_enter Tryd.func19, Tryd.ntmps19
    go_wp2_with fail
    refine (edAll_any _ es _ hE).mono ?_; rintro e w1 ⟨rfl, b1⟩
    go_wp2_with fail
    go_ret2
    exact ⟨_, by rw [hr.out]; rfl, by rw [hr.out]; exact OwnInts.nil_ _ _, b1⟩
  · have hr := Lib.hid (rEditors_yes h1)
    have hg0 := areEdts_t h1
    obtain ⟨h30, hg1⟩ := hg0
    have hg := Lib.hid hg1
    clear hg1
    go_enter Tryd.func19, Tryd.ntmps19
    go_wp2_with fail
    refine (edAll_any _ es _ hE).mono ?_; rintro e w1 ⟨rfl, b1⟩
    have hE1 := hE.below b1 (Nat.le_refl _)
    go_wp2_with fail
    clear h1
    go_loopw [4, 12] (fun t s wr => ∃ k : Nat, k ≤ es.length ∧ s = .int .i64 k ∧ OwnInts wr w1.heap.size t (occ (rng 1 9) Edt.e (es.take k)) ∧ Below w1.heap.size w1 wr) (fun _ s _ => es.length - (intOf s).toNat)
    case atStart => exact ⟨0, Nat.zero_le _, rfl, by rw [List.take_zero, occ_nil]; exact OwnInts.nil_ _ _, Below.refl _ _⟩
    case round =>
      obtain ⟨k, hk, rfl, ho, hb⟩ := hrel
      by_cases hlt : k < es.length
      · obtain ⟨b, o, rfl, hc0, hc1, hc2, hc3, hc4, hc5⟩ := edt_at (hE1.below hb (Nat.le_refl _)) k hlt
        have hgk := isEdt_t (hg.out k hlt)
        obtain ⟨p1, p9, _, _, _, _⟩ := hgk
        have hst := Lib.hid (occ_put (rng 1 9) Edt.e es k (rng_sorted 1 9) hlt (mem_rng.2 (by omega)))
        have hol := occ_len (rng 1 9) Edt.e (es.take k)
        rw [rng_len] at hol
        have hX : Below wr.heap.size wr (wr.alloc (.cells #[.int .i64 (gx edtRec es k).e, .int .i64 (gx edtRec es k).p, .int .i64 (gx edtRec es k).bx, .int .i64 (gx edtRec es k).bY, .int .i64 (gx edtRec es k).ax, .int .i64 (gx edtRec es k).aY] 41)) := (Below.refl _ _).alloc (Nat.le_refl _) _
        have hoX := OwnInts.below ho hX (Nat.le_refl _)
        have hbX := hb.trans (hX.mono hb.size)
        have hsX := hbX.size
        clear p1 p9
        go_wp2_with fail
        refine (l1Put_any _ _ (gx edtRec es k).e w1.heap.size _ hoX hsX (by omega)).mono ?_; rintro e w3 ⟨v3, rfl, ho3, b3⟩
        go_wp2_with fail
        go_roundw
        case rel => exact ⟨k + 1, by omega, by go_num, by rw [← hst.out]; exact ho3, hbX.next (Nat.le_refl _) b3⟩
        case measure => simp [intOf]; omega
      · obtain rfl : k = es.length := by omega
        rw [List.take_length] at ho
        have ho2 := Lib.hid (ints_lo ho b1.size)
        clear ho
        go_wp2_with fail
        go_ret2
        exact ⟨_, by rw [hr.out]; rfl, by rw [hr.out]; exact ho2.out, b1.next (Nat.le_refl _) hb⟩
set_option maxHeartbeats 3200000 in
theorem implEditors (ve : Value) (es : List Edt) (w : World) (hE : RowAt edtRec w ve es) :
    Calls Tryd.prog 18 #[ve] w (FreshIntsC w (rEditors es)) := by
  obtain ⟨B, d, rfl, hnd, hd63⟩ := hE.shape
  cases h1 : areEdts es
  · have hr := Lib.hid (rEditors_no h1)
    go_enter Tryd.func18, Tryd.ntmps18
    go_wp2_with fail
    refine (areEdits_any _ es _ hE).mono ?_; rintro e w1 ⟨rfl, b1⟩
    go_wp2_with fail
    go_ret2
    exact ⟨_, by rw [hr.out]; rfl, by rw [hr.out]; exact OwnInts.nil_ _ _, b1⟩
  · have hr := Lib.hid (rEditors_yes h1)
    go_enter Tryd.func18, Tryd.ntmps18
    go_wp2_with fail
    refine (areEdits_any _ es _ hE).mono ?_; rintro e w1 ⟨rfl, b1⟩
    have hE1 := hE.below b1 (Nat.le_refl _)
    go_wp2_with fail
    clear h1
    have e0 : Below w1.heap.size w1 (w1.alloc (.cells #[] 3)) := (Below.refl _ _).alloc (Nat.le_refl _) _
    have e1 : Below w1.heap.size w1 ((w1.alloc (.cells #[] 3)).alloc (.cells #[.int .i64 1] 3)) := e0.alloc (by simp) _
    have q0 : OwnInts (w1.alloc (.cells #[] 3)) w1.heap.size (.slice (some ⟨w1.heap.size, 0, none⟩) 0 0) [] := OwnInts.empty w1 _ (Nat.le_refl _)
    have q1 : OwnInts ((w1.alloc (.cells #[] 3)).alloc (.cells #[.int .i64 1] 3)) w1.heap.size (.slice (some ⟨w1.heap.size, 0, none⟩) 0 0) [] := World.ownsRow.alloc q0 _
    clear q0 e0
    go_loopg [4, 5] 9 (fun g t s wr => ∃ (k bx : Nat), k ≤ 9 ∧ 9 ≤ k + g ∧ s = .pointer (some ⟨bx, 0, none⟩) ∧ wr.cell? ⟨bx, 0, none⟩ = some (.int .i64 (1 + (k : Int))) ∧ Hid (t.ownBlock ≠ some bx) ∧ OwnInts wr w1.heap.size t (occ (rng 1 k) Edt.e es) ∧ Below w1.heap.size w1 wr)
    case atStart => exact ⟨0, w1.heap.size + 1, by omega, by omega, rfl, by go_simp, (by show _ ≠ _; simp [Value.ownBlock]), q1, e1⟩
    case round =>
      obtain ⟨k, bx, hk, hkg, rfl, hc, hof, ho, hb⟩ := hrel
      clear q1 e1
      have hol := occ_len (rng 1 k) Edt.e es
      rw [rng_len] at hol
      have h9 : (occ (rng 1 k) Edt.e es).length + 1 ≤ 1099511627776 := by omega
      clear hol
      by_cases hlt : k < 9
      · have hl1 : 1 + (k : Int) ≤ 9 := by omega
        cases hx : es.any (fun x => x.e == (1 + (k : Int)))
        · have hs := Lib.hid (occ_no (R := rng 1 k) (f := Edt.e) hx)
          go_wp2_with fail
          refine (edrContains _ es bx (1 + (k : Int)) _ (hE1.below hb (Nat.le_refl _)) hc).mono ?_; rintro e w2 ⟨he, b2⟩
          rw [hx] at he
          subst he
          have ho2 := OwnInts.below ho b2 (Nat.le_refl _)
          have hb2 := hb.next (Nat.le_refl _) b2
          have hcx := Below.keepC b2 hc (Nat.le_refl _)
          go_wp2_with fail
          go_roundg (gk - 1)
          case measure => omega
          case rel => exact ⟨k + 1, w2.heap.size, by omega, by omega, rfl, by rw [show (1 : Int) + ((k + 1 : Nat) : Int) = 1 + k + 1 from by omega]; go_simp, (fun h9 => by have := (World.ownsRow.lt ho2 _ h9).2; omega), by rw [rng_succ, show ((1 + k : Nat) : Int) = 1 + (k : Int) from by omega, hs.out]; exact World.ownsRow.alloc ho2 _, hb2.alloc hb2.size _⟩
        · have hs := Lib.hid (occ_yes (R := rng 1 k) (f := Edt.e) hx)
          go_wp2_with fail
          refine (edrContains _ es bx (1 + (k : Int)) _ (hE1.below hb (Nat.le_refl _)) hc).mono ?_; rintro e w2 ⟨he, b2⟩
          rw [hx] at he
          subst he
          have ho2 := OwnInts.below ho b2 (Nat.le_refl _)
          have hb2 := hb.next (Nat.le_refl _) b2
          have hcx := Below.keepC b2 hc (Nat.le_refl _)
          have hlx : bx < w2.heap.size := World.block_lt_of_cell? w2 _ hcx
          go_wp2_with (at_builtin; refine wp_app_int _ rfl _ _ rfl w1.heap.size _ (occ (rng 1 k) Edt.e es) rfl ho2 (1 + (k : Int)) _ rfl rfl h9 hb2.size ?_; intro v5 w5 ho5 hg5; have hc5 := off_keep hg5.grown hof.out hcx)
          have hb5 := hb2.trans hg5.below
          go_roundg (gk - 1)
          case measure => omega
          case rel => exact ⟨k + 1, w5.heap.size, by omega, by omega, rfl, by rw [show (1 : Int) + ((k + 1 : Nat) : Int) = 1 + k + 1 from by omega]; go_simp, (fun h9 => by have := (World.ownsRow.lt ho5 _ h9).2; omega), by rw [rng_succ, show ((1 + k : Nat) : Int) = 1 + (k : Int) from by omega, hs.out]; exact World.ownsRow.alloc ho5 _, hb5.alloc hb5.size _⟩
      · obtain rfl : k = 9 := by omega
        have ho2 := Lib.hid (ints_lo ho b1.size)
        clear ho
        go_wp2_with fail
        go_ret2
        exact ⟨_, by rw [hr.out]; rfl, by rw [hr.out]; exact ho2.out, b1.next (Nat.le_refl _) hb⟩
end Go.Proofs.YtiondgflpimdmaaDoor
