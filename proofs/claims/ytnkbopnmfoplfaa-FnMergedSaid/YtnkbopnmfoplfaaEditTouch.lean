/- Contracts of BothTouch, in the program and in the reference. -/
import Derived.Test.YtnkbopnmfoplfaaEditEditors
import Derived.Test.YtnkbopnmfoplfaaEditBoth
set_option linter.unusedSimpArgs false
set_option linter.unusedVariables false
namespace Go.Proofs.Ytnkbopnmfoplfaa
open Go.RowKit

theorem allOf1 (x : Edt) (w : World) : Calls Try.prog 30 #[.agg #[.int .i64 x.e, .int .i64 x.p, .int .i64 x.bx, .int .i64 x.bY, .int .i64 x.ax, .int .i64 x.aY]] w fun e w' => e = .returned (.bool true) ∧ Below w.heap.size w w' := by
  have hb := fun o => (Below.refl w.heap.size w).alloc (Nat.le_refl _) o
  have Hb := Lib.hid hb
  clear hb
  go_enter Try.func30, Try.ntmps30
  go_wp2_with fail
  go_ret
  exact ⟨rfl, Hb.out _⟩
theorem touchClosure1 (x : Edt) (bi bf : Nat) (i : Int) (w : World) (hc : w.cell? ⟨bi, 0, none⟩ = some (.int .i64 i)) (hf : w.cell? ⟨bf, 0, none⟩ = some (.func (.func 30) #[] #[])) :
    Calls Try.prog 49 #[.agg #[.int .i64 x.e, .int .i64 x.p, .int .i64 x.bx, .int .i64 x.bY, .int .i64 x.ax, .int .i64 x.aY], .pointer (some ⟨bi, 0, none⟩), .pointer (some ⟨bf, 0, none⟩)] w fun e w' => e = .returned (.bool (x.p == i)) ∧ Below w.heap.size w w' := by
  have hlt : bi < w.heap.size := World.block_lt_of_cell? w _ hc
  have hlf : bf < w.heap.size := World.block_lt_of_cell? w _ hf
  have hb := fun o => (Below.refl w.heap.size w).alloc (Nat.le_refl _) o
  have Hb := Lib.hid hb
  clear hb
  cases e0 : (x.p == i)
  · go_enter Try.func49, Try.ntmps49
    go_wp2_with fail
    go_ret
    exact ⟨rfl, Hb.out _⟩
  · go_enter Try.func49, Try.ntmps49
    go_wp2_with (go_at_call 30; refine (allOf1 x _).mono ?_; rintro e w1 ⟨rfl, b1⟩)
    go_ret
    exact ⟨rfl, (Hb.out _).trans (b1.mono (by simp))⟩
set_option maxHeartbeats 1600000 in
theorem tch1Index (v : Value) (es : List Edt) (bi bf : Nat) (i : Int) (w : World) (h : RowAt edtRec w v es) (hc : w.cell? ⟨bi, 0, none⟩ = some (.int .i64 i)) (hf : w.cell? ⟨bf, 0, none⟩ = some (.func (.func 30) #[] #[])) :
    Calls Try.prog 61 #[v, .func (.func 49) #[] #[.pointer (some ⟨bi, 0, none⟩), .pointer (some ⟨bf, 0, none⟩)]] w
      fun e w' => e = .returned (.int .i64 (fndE (fun x => x.p == i) es 0)) ∧ Below w.heap.size w w' := by
  obtain ⟨A, c, rfl, hnc, hc63⟩ := h.shape
  obtain ⟨p, hp⟩ : ∃ p : Edt → Bool, p = (fun x => x.p == i) := ⟨_, rfl⟩
  have Hp := Lib.hid hp
  rw [← hp]
  clear hp
  go_enter Try.func61, Try.ntmps61
  go_wp2_with fail
  go_loopw [8] (fun s wr => ∃ k : Nat, k ≤ es.length ∧ s = .int .i64 k ∧ Hid (fndE p es 0 = fndE p (es.drop k) k) ∧ Below w.heap.size w wr) (fun s _ => es.length - (intOf s).toNat)
  case atStart => exact ⟨0, Nat.zero_le _, rfl, rfl, Below.refl _ _⟩
  case round =>
    obtain ⟨k, hk, rfl, hfn, hb⟩ := hrel
    by_cases hlt : k < es.length
    · obtain ⟨b, o, rfl, hc0, hc1, hc2, hc3, hc4, hc5⟩ := edt_at (h.below hb (Nat.le_refl _)) k hlt
      have hcx := Below.keepC hb hc (Nat.le_refl _)
      have hfx := Below.keepC hb hf (Nat.le_refl _)
      cases hx : p (gx edtRec es k)
      · have hn := Lib.hid (hfn.out.trans (fndE_miss hlt hx))
        have hx2 : ((gx edtRec es k).p == i) = false := by rw [Hp.out] at hx; exact hx
        clear hx
        go_wp2_with (go_at_call 49; refine (touchClosure1 (gx edtRec es k) bi bf i _ hcx hfx).mono ?_; rintro e w1 ⟨rfl, b1⟩)
        go_roundw
        case rel => exact ⟨k + 1, by omega, by go_num, hn, hb.next (Nat.le_refl _) b1⟩
        case measure => simp [intOf]; omega
      · have hn := Lib.hid (hfn.out.trans (fndE_hit hlt hx))
        have hx2 : ((gx edtRec es k).p == i) = true := by rw [Hp.out] at hx; exact hx
        clear hx
        go_wp2_with (go_at_call 49; refine (touchClosure1 (gx edtRec es k) bi bf i _ hcx hfx).mono ?_; rintro e w1 ⟨rfl, b1⟩)
        go_ret
        exact ⟨ret_int hn.out.symm, hb.next (Nat.le_refl _) b1⟩
    · obtain rfl : k = es.length := by omega
      have hn : Hid (fndE p es 0 = -1) := by
        show _ = _
        rw [hfn.out, List.drop_length]; rfl
      go_wp2_with fail
      go_ret
      exact ⟨ret_int hn.out.symm, hb⟩
theorem tch1Contains (v : Value) (es : List Edt) (bi bf : Nat) (i : Int) (w : World) (h : RowAt edtRec w v es) (hc : w.cell? ⟨bi, 0, none⟩ = some (.int .i64 i)) (hf : w.cell? ⟨bf, 0, none⟩ = some (.func (.func 30) #[] #[])) :
    Calls Try.prog 48 #[v, .func (.func 49) #[] #[.pointer (some ⟨bi, 0, none⟩), .pointer (some ⟨bf, 0, none⟩)]] w
      fun e w' => e = .returned (.bool (es.any (fun x => x.p == i))) ∧ Below w.heap.size w w' := by
  obtain ⟨A, c, rfl, hnc, hc63⟩ := h.shape
  go_enter Try.func48, Try.ntmps48
  go_wp2_with fail
  refine (tch1Index _ es bi bf i _ h hc hf).mono ?_; rintro e w1 ⟨rfl, b1⟩
  go_wp2_with fail
  go_ret
  refine ⟨ret_bool ?_, b1⟩
  rcases fndE_cases (fun x => x.p == i) es 0 with ⟨h1, h2⟩ | ⟨h1, h2⟩
  · rw [h1, h2]; rfl
  · rw [h2]; exact decide_eq_true h1
set_option maxHeartbeats 3200000 in
theorem touched1_any (ve : Value) (es : List Edt) (w : World) (hE : RowAt edtRec w ve es) :
    Calls Try.prog 29 #[ve, .func (.func 30) #[] #[]] w (FreshInts w (occ (rng 0 12) Edt.p es)) := by
  obtain ⟨B, d, rfl, hnd, hd63⟩ := hE.shape
  have e0 : Below w.heap.size w (w.alloc (.cells #[.func (.func 30) #[] #[]] 55)) := (Below.refl _ _).alloc (Nat.le_refl _) _
  have e1 : Below w.heap.size w ((w.alloc (.cells #[.func (.func 30) #[] #[]] 55)).alloc (.cells #[] 3)) := e0.alloc (by simp) _
  have q1 : OwnInts ((w.alloc (.cells #[.func (.func 30) #[] #[]] 55)).alloc (.cells #[] 3)) w.heap.size (.slice (some ⟨w.heap.size + 1, 0, none⟩) 0 0) [] := by
    have := OwnInts.empty (w.alloc (.cells #[.func (.func 30) #[] #[]] 55)) w.heap.size (by simp)
    simpa using this
  have q2 : ((w.alloc (.cells #[.func (.func 30) #[] #[]] 55)).alloc (.cells #[] 3)).cell? ⟨w.heap.size, 0, none⟩ = some (.func (.func 30) #[] #[]) := by go_simp
  go_enter Try.func29, Try.ntmps29
  go_wp2_with fail
  go_loopw [5, 8] (fun t s wr => ∃ k : Nat, k ≤ 12 ∧ s = .int .i64 k ∧ wr.cell? ⟨w.heap.size, 0, none⟩ = some (.func (.func 30) #[] #[]) ∧ Hid (t.ownBlock ≠ some w.heap.size) ∧ OwnInts wr w.heap.size t (occ (rng 0 k) Edt.p es) ∧ Below w.heap.size w wr) (fun _ s _ => 12 - (intOf s).toNat)
  case atStart => exact ⟨0, by omega, rfl, q2, (by show _ ≠ _; simp [Value.ownBlock]), q1, e1⟩
  case round =>
    obtain ⟨k, hk, rfl, hf, hof, ho, hb⟩ := hrel
    clear e0 e1 q1 q2
    have hol := occ_len (rng 0 k) Edt.p es
    rw [rng_len] at hol
    have h9 : (occ (rng 0 k) Edt.p es).length + 1 ≤ 1099511627776 := by omega
    clear hol
    by_cases hlt : k < 12
    · have hX : Below wr.heap.size wr (wr.alloc (.cells #[.int .i64 k] 3)) := (Below.refl _ _).alloc (Nat.le_refl _) _
      have hcX : (wr.alloc (.cells #[.int .i64 k] 3)).cell? ⟨wr.heap.size, 0, none⟩ = some (.int .i64 k) := by go_simp
      have hfX := Below.keepC hX hf (Nat.le_refl _)
      have hoX := OwnInts.below ho hX (Nat.le_refl _)
      have hbX := hb.trans (hX.mono hb.size)
      have hlf : w.heap.size < wr.heap.size := World.block_lt_of_cell? wr _ hf
      cases hx : es.any (fun x => x.p == (k : Int))
      · have hs := Lib.hid (occ_no (R := rng 0 k) (f := Edt.p) hx)
        go_wp2_with fail
        refine (tch1Contains _ es wr.heap.size w.heap.size (k : Int) _ (hE.below hbX (Nat.le_refl _)) hcX hfX).mono ?_; rintro e w2 ⟨he, b2⟩
        rw [hx] at he
        subst he
        have ho2 := OwnInts.below hoX b2 (Nat.le_refl _)
        have hb2 := hbX.next (Nat.le_refl _) b2
        have hf2 := Below.keepC b2 hfX (Nat.le_refl _)
        clear hcX hfX
        go_wp2_with fail
        go_roundw
        case rel => exact ⟨k + 1, by omega, by go_num, hf2, hof, by rw [rng_succ, show ((0 + k : Nat) : Int) = (k : Int) from by omega, hs.out]; exact ho2, hb2⟩
        case measure => simp [intOf]; omega
      · have hs := Lib.hid (occ_yes (R := rng 0 k) (f := Edt.p) hx)
        go_wp2_with fail
        refine (tch1Contains _ es wr.heap.size w.heap.size (k : Int) _ (hE.below hbX (Nat.le_refl _)) hcX hfX).mono ?_; rintro e w2 ⟨he, b2⟩
        rw [hx] at he
        subst he
        have ho2 := OwnInts.below hoX b2 (Nat.le_refl _)
        have hb2 := hbX.next (Nat.le_refl _) b2
        have hf2 := Below.keepC b2 hfX (Nat.le_refl _)
        have hc2 := Below.keepC b2 hcX (Nat.le_refl _)
        have hl2 : w.heap.size < w2.heap.size := by have := b2.size; simp at this; omega
        clear hcX hfX
        go_wp2_with (at_builtin; refine wp_app_int _ rfl _ _ rfl w.heap.size _ (occ (rng 0 k) Edt.p es) rfl ho2 (k : Int) _ rfl rfl h9 hb2.size ?_; intro v5 w5 ho5 hg5)
        have hf5 := off_keep hg5.grown hof.out hf2
        have hof5 : Hid (v5.ownBlock ≠ some w.heap.size) := fun h8 => by
          rcases hg5.at_ _ h8 with h7 | h7
          · exact hof.out h7
          · omega
        go_roundw
        case rel => exact ⟨k + 1, by omega, by go_num, hf5, hof5, by rw [rng_succ, show ((0 + k : Nat) : Int) = (k : Int) from by omega, hs.out]; exact ho5, hb2.trans hg5.below⟩
        case measure => simp [intOf]; omega
    · obtain rfl : k = 12 := by omega
      go_wp2_with fail
      go_ret
      exact ⟨_, rfl, ho, hb⟩
theorem allOf2 (x : Edt) (w : World) : Calls Try.prog 31 #[.agg #[.int .i64 x.e, .int .i64 x.p, .int .i64 x.bx, .int .i64 x.bY, .int .i64 x.ax, .int .i64 x.aY]] w fun e w' => e = .returned (.bool true) ∧ Below w.heap.size w w' := by
  have hb := fun o => (Below.refl w.heap.size w).alloc (Nat.le_refl _) o
  have Hb := Lib.hid hb
  clear hb
  go_enter Try.func31, Try.ntmps31
  go_wp2_with fail
  go_ret
  exact ⟨rfl, Hb.out _⟩
theorem touchClosure2 (x : Edt) (bi bf : Nat) (i : Int) (w : World) (hc : w.cell? ⟨bi, 0, none⟩ = some (.int .i64 i)) (hf : w.cell? ⟨bf, 0, none⟩ = some (.func (.func 31) #[] #[])) :
    Calls Try.prog 49 #[.agg #[.int .i64 x.e, .int .i64 x.p, .int .i64 x.bx, .int .i64 x.bY, .int .i64 x.ax, .int .i64 x.aY], .pointer (some ⟨bi, 0, none⟩), .pointer (some ⟨bf, 0, none⟩)] w fun e w' => e = .returned (.bool (x.p == i)) ∧ Below w.heap.size w w' := by
  have hlt : bi < w.heap.size := World.block_lt_of_cell? w _ hc
  have hlf : bf < w.heap.size := World.block_lt_of_cell? w _ hf
  have hb := fun o => (Below.refl w.heap.size w).alloc (Nat.le_refl _) o
  have Hb := Lib.hid hb
  clear hb
  cases e0 : (x.p == i)
  · go_enter Try.func49, Try.ntmps49
    go_wp2_with fail
    go_ret
    exact ⟨rfl, Hb.out _⟩
  · go_enter Try.func49, Try.ntmps49
    go_wp2_with (go_at_call 31; refine (allOf2 x _).mono ?_; rintro e w1 ⟨rfl, b1⟩)
    go_ret
    exact ⟨rfl, (Hb.out _).trans (b1.mono (by simp))⟩
set_option maxHeartbeats 1600000 in
theorem tch2Index (v : Value) (es : List Edt) (bi bf : Nat) (i : Int) (w : World) (h : RowAt edtRec w v es) (hc : w.cell? ⟨bi, 0, none⟩ = some (.int .i64 i)) (hf : w.cell? ⟨bf, 0, none⟩ = some (.func (.func 31) #[] #[])) :
    Calls Try.prog 61 #[v, .func (.func 49) #[] #[.pointer (some ⟨bi, 0, none⟩), .pointer (some ⟨bf, 0, none⟩)]] w
      fun e w' => e = .returned (.int .i64 (fndE (fun x => x.p == i) es 0)) ∧ Below w.heap.size w w' := by
  obtain ⟨A, c, rfl, hnc, hc63⟩ := h.shape
  obtain ⟨p, hp⟩ : ∃ p : Edt → Bool, p = (fun x => x.p == i) := ⟨_, rfl⟩
  have Hp := Lib.hid hp
  rw [← hp]
  clear hp
  go_enter Try.func61, Try.ntmps61
  go_wp2_with fail
  go_loopw [8] (fun s wr => ∃ k : Nat, k ≤ es.length ∧ s = .int .i64 k ∧ Hid (fndE p es 0 = fndE p (es.drop k) k) ∧ Below w.heap.size w wr) (fun s _ => es.length - (intOf s).toNat)
  case atStart => exact ⟨0, Nat.zero_le _, rfl, rfl, Below.refl _ _⟩
  case round =>
    obtain ⟨k, hk, rfl, hfn, hb⟩ := hrel
    by_cases hlt : k < es.length
    · obtain ⟨b, o, rfl, hc0, hc1, hc2, hc3, hc4, hc5⟩ := edt_at (h.below hb (Nat.le_refl _)) k hlt
      have hcx := Below.keepC hb hc (Nat.le_refl _)
      have hfx := Below.keepC hb hf (Nat.le_refl _)
      cases hx : p (gx edtRec es k)
      · have hn := Lib.hid (hfn.out.trans (fndE_miss hlt hx))
        have hx2 : ((gx edtRec es k).p == i) = false := by rw [Hp.out] at hx; exact hx
        clear hx
        go_wp2_with (go_at_call 49; refine (touchClosure2 (gx edtRec es k) bi bf i _ hcx hfx).mono ?_; rintro e w1 ⟨rfl, b1⟩)
        go_roundw
        case rel => exact ⟨k + 1, by omega, by go_num, hn, hb.next (Nat.le_refl _) b1⟩
        case measure => simp [intOf]; omega
      · have hn := Lib.hid (hfn.out.trans (fndE_hit hlt hx))
        have hx2 : ((gx edtRec es k).p == i) = true := by rw [Hp.out] at hx; exact hx
        clear hx
        go_wp2_with (go_at_call 49; refine (touchClosure2 (gx edtRec es k) bi bf i _ hcx hfx).mono ?_; rintro e w1 ⟨rfl, b1⟩)
        go_ret
        exact ⟨ret_int hn.out.symm, hb.next (Nat.le_refl _) b1⟩
    · obtain rfl : k = es.length := by omega
      have hn : Hid (fndE p es 0 = -1) := by
        show _ = _
        rw [hfn.out, List.drop_length]; rfl
      go_wp2_with fail
      go_ret
      exact ⟨ret_int hn.out.symm, hb⟩
theorem tch2Contains (v : Value) (es : List Edt) (bi bf : Nat) (i : Int) (w : World) (h : RowAt edtRec w v es) (hc : w.cell? ⟨bi, 0, none⟩ = some (.int .i64 i)) (hf : w.cell? ⟨bf, 0, none⟩ = some (.func (.func 31) #[] #[])) :
    Calls Try.prog 48 #[v, .func (.func 49) #[] #[.pointer (some ⟨bi, 0, none⟩), .pointer (some ⟨bf, 0, none⟩)]] w
      fun e w' => e = .returned (.bool (es.any (fun x => x.p == i))) ∧ Below w.heap.size w w' := by
  obtain ⟨A, c, rfl, hnc, hc63⟩ := h.shape
  go_enter Try.func48, Try.ntmps48
  go_wp2_with fail
  refine (tch2Index _ es bi bf i _ h hc hf).mono ?_; rintro e w1 ⟨rfl, b1⟩
  go_wp2_with fail
  go_ret
  refine ⟨ret_bool ?_, b1⟩
  rcases fndE_cases (fun x => x.p == i) es 0 with ⟨h1, h2⟩ | ⟨h1, h2⟩
  · rw [h1, h2]; rfl
  · rw [h2]; exact decide_eq_true h1
set_option maxHeartbeats 3200000 in
theorem touched2_any (ve : Value) (es : List Edt) (w : World) (hE : RowAt edtRec w ve es) :
    Calls Try.prog 29 #[ve, .func (.func 31) #[] #[]] w (FreshInts w (occ (rng 0 12) Edt.p es)) := by
  obtain ⟨B, d, rfl, hnd, hd63⟩ := hE.shape
  have e0 : Below w.heap.size w (w.alloc (.cells #[.func (.func 31) #[] #[]] 55)) := (Below.refl _ _).alloc (Nat.le_refl _) _
  have e1 : Below w.heap.size w ((w.alloc (.cells #[.func (.func 31) #[] #[]] 55)).alloc (.cells #[] 3)) := e0.alloc (by simp) _
  have q1 : OwnInts ((w.alloc (.cells #[.func (.func 31) #[] #[]] 55)).alloc (.cells #[] 3)) w.heap.size (.slice (some ⟨w.heap.size + 1, 0, none⟩) 0 0) [] := by
    have := OwnInts.empty (w.alloc (.cells #[.func (.func 31) #[] #[]] 55)) w.heap.size (by simp)
    simpa using this
  have q2 : ((w.alloc (.cells #[.func (.func 31) #[] #[]] 55)).alloc (.cells #[] 3)).cell? ⟨w.heap.size, 0, none⟩ = some (.func (.func 31) #[] #[]) := by go_simp
  go_enter Try.func29, Try.ntmps29
  go_wp2_with fail
  go_loopw [5, 8] (fun t s wr => ∃ k : Nat, k ≤ 12 ∧ s = .int .i64 k ∧ wr.cell? ⟨w.heap.size, 0, none⟩ = some (.func (.func 31) #[] #[]) ∧ Hid (t.ownBlock ≠ some w.heap.size) ∧ OwnInts wr w.heap.size t (occ (rng 0 k) Edt.p es) ∧ Below w.heap.size w wr) (fun _ s _ => 12 - (intOf s).toNat)
  case atStart => exact ⟨0, by omega, rfl, q2, (by show _ ≠ _; simp [Value.ownBlock]), q1, e1⟩
  case round =>
    obtain ⟨k, hk, rfl, hf, hof, ho, hb⟩ := hrel
    clear e0 e1 q1 q2
    have hol := occ_len (rng 0 k) Edt.p es
    rw [rng_len] at hol
    have h9 : (occ (rng 0 k) Edt.p es).length + 1 ≤ 1099511627776 := by omega
    clear hol
    by_cases hlt : k < 12
    · have hX : Below wr.heap.size wr (wr.alloc (.cells #[.int .i64 k] 3)) := (Below.refl _ _).alloc (Nat.le_refl _) _
      have hcX : (wr.alloc (.cells #[.int .i64 k] 3)).cell? ⟨wr.heap.size, 0, none⟩ = some (.int .i64 k) := by go_simp
      have hfX := Below.keepC hX hf (Nat.le_refl _)
      have hoX := OwnInts.below ho hX (Nat.le_refl _)
      have hbX := hb.trans (hX.mono hb.size)
      have hlf : w.heap.size < wr.heap.size := World.block_lt_of_cell? wr _ hf
      cases hx : es.any (fun x => x.p == (k : Int))
      · have hs := Lib.hid (occ_no (R := rng 0 k) (f := Edt.p) hx)
        go_wp2_with fail
        refine (tch2Contains _ es wr.heap.size w.heap.size (k : Int) _ (hE.below hbX (Nat.le_refl _)) hcX hfX).mono ?_; rintro e w2 ⟨he, b2⟩
        rw [hx] at he
        subst he
        have ho2 := OwnInts.below hoX b2 (Nat.le_refl _)
        have hb2 := hbX.next (Nat.le_refl _) b2
        have hf2 := Below.keepC b2 hfX (Nat.le_refl _)
        clear hcX hfX
        go_wp2_with fail
        go_roundw
        case rel => exact ⟨k + 1, by omega, by go_num, hf2, hof, by rw [rng_succ, show ((0 + k : Nat) : Int) = (k : Int) from by omega, hs.out]; exact ho2, hb2⟩
        case measure => simp [intOf]; omega
      · have hs := Lib.hid (occ_yes (R := rng 0 k) (f := Edt.p) hx)
        go_wp2_with fail
        refine (tch2Contains _ es wr.heap.size w.heap.size (k : Int) _ (hE.below hbX (Nat.le_refl _)) hcX hfX).mono ?_; rintro e w2 ⟨he, b2⟩
        rw [hx] at he
        subst he
        have ho2 := OwnInts.below hoX b2 (Nat.le_refl _)
        have hb2 := hbX.next (Nat.le_refl _) b2
        have hf2 := Below.keepC b2 hfX (Nat.le_refl _)
        have hc2 := Below.keepC b2 hcX (Nat.le_refl _)
        have hl2 : w.heap.size < w2.heap.size := by have := b2.size; simp at this; omega
        clear hcX hfX
        go_wp2_with (at_builtin; refine wp_app_int _ rfl _ _ rfl w.heap.size _ (occ (rng 0 k) Edt.p es) rfl ho2 (k : Int) _ rfl rfl h9 hb2.size ?_; intro v5 w5 ho5 hg5)
        have hf5 := off_keep hg5.grown hof.out hf2
        have hof5 : Hid (v5.ownBlock ≠ some w.heap.size) := fun h8 => by
          rcases hg5.at_ _ h8 with h7 | h7
          · exact hof.out h7
          · omega
        go_roundw
        case rel => exact ⟨k + 1, by omega, by go_num, hf5, hof5, by rw [rng_succ, show ((0 + k : Nat) : Int) = (k : Int) from by omega, hs.out]; exact ho5, hb2.trans hg5.below⟩
        case measure => simp [intOf]; omega
    · obtain rfl : k = 12 := by omega
      go_wp2_with fail
      go_ret
      exact ⟨_, rfl, ho, hb⟩

/-- The index of the last edit of a performer, or -1. -/
def lastE (es : List Edt) (p : Int) : Nat → Int
  | 0 => -1
  | k + 1 => if (gx edtRec es k).p = p then (k : Int) else lastE es p k
theorem lastE_cases (es : List Edt) (p : Int) (k : Nat) (hk : k ≤ es.length) : (lastE es p k = -1 ∧ ((es.take k).any fun x => x.p == p) = false) ∨ (0 ≤ lastE es p k ∧ lastE es p k < k ∧ ((es.take k).any fun x => x.p == p) = true) := by
  induction k with
  | zero => left; exact ⟨rfl, by simp⟩
  | succ k ih =>
    rw [take_succ_gx edtRec es k (by omega), List.any_append]
    unfold lastE
    by_cases h : (gx edtRec es k).p = p
    · right; rw [if_pos h]; exact ⟨by omega, by omega, by simp [h]⟩
    · rw [if_neg h]
      have h2 : ((gx edtRec es k).p == p) = false := by simpa using h
      rcases ih (by omega) with ⟨h3, h4⟩ | ⟨h3, h4, h5⟩
      · left; exact ⟨h3, by rw [h4]; simp [h2]⟩
      · right; exact ⟨h3, by omega, by rw [h5]; rfl⟩
theorem lastE_pos (es : List Edt) (p : Int) : decide (0 ≤ lastE es p es.length) = es.any fun x => x.p == p := by
  have := lastE_cases es p es.length (Nat.le_refl _)
  rw [List.take_length] at this
  rcases this with ⟨h1, h2⟩ | ⟨h1, _, h2⟩
  · rw [h1, h2]; rfl
  · rw [h2]; exact decide_eq_true h1
theorem lastE_t {es : List Edt} {p : Int} {k : Nat} (h : ((gx edtRec es k).p == p) = true) : lastE es p (k + 1) = (k : Int) := by
  unfold lastE; rw [if_pos (by simpa using h)]
theorem lastE_f {es : List Edt} {p : Int} {k : Nat} (h : ((gx edtRec es k).p == p) = false) : lastE es p (k + 1) = lastE es p k := by
  conv => lhs; unfold lastE
  rw [if_neg (by simpa using h)]
set_option maxHeartbeats 3200000 in
theorem edLast_any (ve : Value) (es : List Edt) (p : Int) (w : World) (hE : RowAt edtRec w ve es) :
    Calls Try.prog 34 #[ve, .int .i64 p] w fun e w' => e = .returned (.int .i64 (lastE es p es.length)) ∧ Below w.heap.size w w' := by
  obtain ⟨B, d, rfl, hnd, hd63⟩ := hE.shape
  go_enter Try.func34, Try.ntmps34
  go_wp2_with fail
  go_loopw [5, 10] (fun t s wr => ∃ k : Nat, k ≤ es.length ∧ s = .int .i64 k ∧ t = .int .i64 (lastE es p k) ∧ Below w.heap.size w wr) (fun _ s _ => es.length - (intOf s).toNat)
  case atStart => exact ⟨0, Nat.zero_le _, rfl, rfl, Below.refl _ _⟩
  case round =>
    obtain ⟨k, hk, rfl, rfl, hb⟩ := hrel
    by_cases hlt : k < es.length
    · obtain ⟨b, o, rfl, hc0, hc1, hc2, hc3, hc4, hc5⟩ := edt_at (hE.below hb (Nat.le_refl _)) k hlt
      have hX : Below wr.heap.size wr (wr.alloc (.cells #[.int .i64 (gx edtRec es k).e, .int .i64 (gx edtRec es k).p, .int .i64 (gx edtRec es k).bx, .int .i64 (gx edtRec es k).bY, .int .i64 (gx edtRec es k).ax, .int .i64 (gx edtRec es k).aY] 54)) := (Below.refl _ _).alloc (Nat.le_refl _) _
      have hbX := hb.trans (hX.mono hb.size)
      cases e0 : ((gx edtRec es k).p == p)
      · have hs := Lib.hid (lastE_f e0)
        go_wp2_with fail
        go_roundw
        case rel => exact ⟨k + 1, by omega, by go_num, by rw [hs.out], hbX⟩
        case measure => simp [intOf]; omega
      · have hs := Lib.hid (lastE_t e0)
        go_wp2_with fail
        go_roundw
        case rel => exact ⟨k + 1, by omega, by go_num, by rw [hs.out], hbX⟩
        case measure => simp [intOf]; omega
    · obtain rfl : k = es.length := by omega
      go_wp2_with fail
      go_ret
      exact ⟨rfl, hb⟩

/-- The performers whom both touch. -/
def touchB (a b : List Edt) : List Int := (rng 0 12).filter fun n => (a.any fun x => x.p == n) && (b.any fun x => x.p == n)
def rTouch (a b : List Edt) : List Int × Bool := if areEdts a && areEdts b then (touchB a b, true) else ([], false)
theorem rTouch_no1 {a b : List Edt} (h : areEdts a = false) : rTouch a b = ([], false) := by unfold rTouch; rw [h]; rfl
theorem rTouch_no {a b : List Edt} (h : (areEdts a && areEdts b) = false) : rTouch a b = ([], false) := by unfold rTouch; rw [h]; rfl
theorem rTouch_no2 {a b : List Edt} (h : areEdts b = false) : rTouch a b = ([], false) := rTouch_no (by rw [h]; simp)
theorem rTouch_yes {a b : List Edt} (h : (areEdts a && areEdts b) = true) : rTouch a b = (touchB a b, true) := by unfold rTouch; rw [h]; rfl
theorem touchB_len (a b : List Edt) : (touchB a b).length ≤ 12 := by
  have := List.length_filter_le (fun n => (a.any fun x => x.p == n) && (b.any fun x => x.p == n)) (rng 0 12)
  rw [rng_len] at this
  exact this
theorem rTouch_len (a b : List Edt) : (rTouch a b).1.length ≤ 12 := by
  cases h : (areEdts a && areEdts b)
  · rw [rTouch_no h]; simp
  · rw [rTouch_yes h]; exact touchB_len a b
theorem touchB_put {a b : List Edt} {k : Nat} (hk : k < a.length) (hn : (gx edtRec a k).p ∈ rng 0 12) (h : (b.any fun x => x.p == (gx edtRec a k).p) = true) :
    putI (touchB (a.take k) b) (gx edtRec a k).p = touchB (a.take (k + 1)) b := by
  unfold touchB
  rw [putI_filter _ _ _ (rng_sorted 0 12) hn, take_succ_gx edtRec a k hk]
  apply List.filter_congr
  intro x _
  rw [List.any_append]
  simp only [List.any_cons, List.any_nil, Bool.or_false]
  by_cases e : x = (gx edtRec a k).p
  · subst e; rw [h]; simp
  · have e1 : (x == (gx edtRec a k).p) = false := by simpa using e
    have e2 : ((gx edtRec a k).p == x) = false := by simp; exact fun h9 => e h9.symm
    rw [e1, e2, Bool.or_false, Bool.or_false]
theorem touchB_skip {a b : List Edt} {k : Nat} (hk : k < a.length) (h : (b.any fun x => x.p == (gx edtRec a k).p) = false) : touchB (a.take (k + 1)) b = touchB (a.take k) b := by
  unfold touchB
  rw [take_succ_gx edtRec a k hk]
  apply List.filter_congr
  intro x _
  rw [List.any_append]
  simp only [List.any_cons, List.any_nil, Bool.or_false]
  by_cases e : (gx edtRec a k).p = x
  · subst e; rw [h]; simp
  · have e2 : ((gx edtRec a k).p == x) = false := by simpa using e
    rw [e2, Bool.or_false]
/-- Of the first ones those that the second ones hold. -/
def common2 (A B : List Int) (k : Nat) : List Int := (A.take k).filter fun n => decide (n ∈ B)
theorem common2_yes {A B : List Int} {k : Nat} (hk : k < A.length) (h : decide (gi A k ∈ B) = true) : common2 A B (k + 1) = common2 A B k ++ [gi A k] := by
  unfold common2; rw [take_succ_gi A k hk, List.filter_append]; simp only [List.filter_cons, List.filter_nil, h]; simp
theorem common2_no {A B : List Int} {k : Nat} (hk : k < A.length) (h : decide (gi A k ∈ B) = false) : common2 A B (k + 1) = common2 A B k := by
  unfold common2; rw [take_succ_gi A k hk, List.filter_append]; simp only [List.filter_cons, List.filter_nil, h]; simp
theorem common2_len (A B : List Int) (k : Nat) : (common2 A B k).length ≤ k := by
  have h1 := List.length_filter_le (fun n => decide (n ∈ B)) (A.take k)
  have h2 : (A.take k).length ≤ k := List.length_take_le _ _
  unfold common2; omega
theorem common2_all (a b : List Edt) : common2 (occ (rng 0 12) Edt.p a) (occ (rng 0 12) Edt.p b) (occ (rng 0 12) Edt.p a).length = touchB a b := by
  unfold common2 touchB
  rw [List.take_length]
  unfold occ
  rw [List.filter_filter]
  apply List.filter_congr
  intro x hx
  have : decide (x ∈ (rng 0 12).filter fun n => b.any fun y => y.p == n) = b.any fun y => y.p == x := by
    rw [Bool.eq_iff_iff, decide_eq_true_iff, List.mem_filter]
    exact ⟨fun h => h.2, fun h => ⟨hx, h⟩⟩
  rw [this, Bool.and_comm]
set_option maxHeartbeats 3200000 in
theorem implTouch (va vb : Value) (a b : List Edt) (w : World) (hA : RowAt edtRec w va a) (hB : RowAt edtRec w vb b) :
    Calls Try.prog 12 #[va, vb] w (FreshIntsC w (rTouch a b)) := by
  cases h1 : areEdts a
  · have hr := Lib.hid (rTouch_no1 (b := b) h1)
    go_enter Try.func12, Try.ntmps12
    go_wp2_with fail
    refine (areEdits_any _ a _ hA).mono ?_; rintro e w1 ⟨rfl, b1⟩
    go_wp2_with fail
    go_ret2
    exact ⟨_, by rw [hr.out]; rfl, by rw [hr.out]; exact OwnInts.nil_ _ _, b1⟩
  cases h2 : areEdts b
  · have hr := Lib.hid (rTouch_no2 (a := a) h2)
    go_enter Try.func12, Try.ntmps12
    go_wp2_with fail
    refine (areEdits_any _ a _ hA).mono ?_; rintro e w1 ⟨rfl, b1⟩
    have hB1 := hB.below b1 (Nat.le_refl _)
    go_wp2_with fail
    refine (areEdits_any _ b _ hB1).mono ?_; rintro e w2 ⟨rfl, b2⟩
    go_wp2_with fail
    go_ret2
    exact ⟨_, by rw [hr.out]; rfl, by rw [hr.out]; exact OwnInts.nil_ _ _, b1.next (Nat.le_refl _) b2⟩
  have hr := Lib.hid (rTouch_yes (show (areEdts a && areEdts b) = true by rw [h1, h2]; rfl))
  have hal := Lib.hid (common2_all a b)
  have hAl := occ_len (rng 0 12) Edt.p a
  rw [rng_len] at hAl
  go_enter Try.func12, Try.ntmps12
  go_wp2_with fail
  refine (areEdits_any _ a _ hA).mono ?_; rintro e w1 ⟨rfl, b1⟩
  have hB1 := hB.below b1 (Nat.le_refl _)
  go_wp2_with fail
  refine (areEdits_any _ b _ hB1).mono ?_; rintro e w2 ⟨rfl, b2⟩
  have b12 := b1.next (Nat.le_refl _) b2
  have e0 : Below w2.heap.size w2 (w2.alloc (.cells #[] 3)) := (Below.refl _ _).alloc (Nat.le_refl _) _
  have q0 : OwnInts (w2.alloc (.cells #[] 3)) w2.heap.size (.slice (some ⟨w2.heap.size, 0, none⟩) 0 0) [] := OwnInts.empty w2 _ (Nat.le_refl _)
  have b2e := b12.trans (e0.mono b12.size)
  go_wp2_with fail
  refine (touched1_any _ b _ (hB.below b2e (Nat.le_refl _))).mono ?_; rintro e w3 ⟨y, rfl, oy, b3⟩
  have b13 := b2e.next (Nat.le_refl _) b3
  have q3 := OwnInts.below q0 b3 (Nat.le_refl _)
  go_wp2_with fail
  refine (touched2_any _ a _ (hA.below b13 (Nat.le_refl _))).mono ?_; rintro e w4 ⟨x, rfl, ox, b4⟩
  have b14 := b13.next (Nat.le_refl _) b4
  have hy4 := (OwnInts.below oy b4 (Nat.le_refl _)).reads
  have hx4 := ox.reads
  have q4 := OwnInts.below q3 b4 (Nat.le_refl _)
  have e4 : Below w2.heap.size w2 w4 := (e0.next (by omega) b3).next (by omega) b4
  have lx : ∀ g, x.ownBlock = some g → w2.heap.size < g := fun g h9 => by have := (World.ownsRow.lt ox g h9).1; have := b3.size; simp at *; omega
  have ly : ∀ g, y.ownBlock = some g → w2.heap.size < g := fun g h9 => by have := (World.ownsRow.lt oy g h9).1; simp at *; omega
  have apx : Apt (.slice (some ⟨w2.heap.size, 0, none⟩) 0 0) x := fun g g1 g2 => by simp [Value.ownBlock] at g1; have := lx g g2; omega
  have apy : Apt (.slice (some ⟨w2.heap.size, 0, none⟩) 0 0) y := fun g g1 g2 => by simp [Value.ownBlock] at g1; have := ly g g2; omega
  have ox4 : OwnInts w4 w2.heap.size x (occ (rng 0 12) Edt.p a) := ints_lo ox (by have := b3.size; simp at this; omega)
  have oy4 : OwnInts w4 w2.heap.size y (occ (rng 0 12) Edt.p b) := ints_lo (OwnInts.below oy b4 (Nat.le_refl _)) (by simp)
  obtain ⟨X, cx, rfl, hnx, hcx⟩ := hx4.shape
  clear q0 q3 e0 ox oy hx4 hy4 lx ly
  go_wp2_with fail
  clear h1 h2
  go_loopw [6, 24] (fun t s wr => ∃ k : Nat, k ≤ (occ (rng 0 12) Edt.p a).length ∧ s = .int .i64 k ∧ OwnInts wr w2.heap.size t (common2 (occ (rng 0 12) Edt.p a) (occ (rng 0 12) Edt.p b) k) ∧ OwnInts wr w2.heap.size (.slice X (occ (rng 0 12) Edt.p a).length cx) (occ (rng 0 12) Edt.p a) ∧ OwnInts wr w2.heap.size y (occ (rng 0 12) Edt.p b) ∧ Apt t (.slice X (occ (rng 0 12) Edt.p a).length cx) ∧ Apt t y ∧ Below w2.heap.size w2 wr) (fun _ s _ => (occ (rng 0 12) Edt.p a).length - (intOf s).toNat)
  case atStart => exact ⟨0, Nat.zero_le _, rfl, q4, ox4, oy4, apx, apy, e4⟩
  case round =>
    obtain ⟨k, hk, rfl, ho, hx, hy, ax, ay, hb⟩ := hrel
    clear q4 ox4 oy4 apx apy e4
    have hcl := common2_len (occ (rng 0 12) Edt.p a) (occ (rng 0 12) Edt.p b) k
    have h9 : (common2 (occ (rng 0 12) Edt.p a) (occ (rng 0 12) Edt.p b) k).length + 1 ≤ 1099511627776 := by omega
    clear hcl
    by_cases hlt : k < (occ (rng 0 12) Edt.p a).length
    · obtain ⟨b', o, rfl, hc⟩ := IntsAt.at_ hx.reads k hlt
      cases hm : decide (gi (occ (rng 0 12) Edt.p a) k ∈ occ (rng 0 12) Edt.p b)
      · have hs := Lib.hid (common2_no hlt hm)
        have Hm := Lib.hid hm
        clear hm
        go_wp2_with fail
        refine (containsI_any _ (occ (rng 0 12) Edt.p b) _ _ hy.reads).mono ?_; rintro e w5 ⟨he, b5⟩
        rw [Hm.out] at he
        subst he
        go_wp2_with fail
        go_roundw
        case rel => exact ⟨k + 1, by omega, by go_num, by rw [hs.out]; exact OwnInts.below ho b5 (Nat.le_refl _), OwnInts.below hx b5 (Nat.le_refl _), OwnInts.below hy b5 (Nat.le_refl _), ax, ay, hb.next (Nat.le_refl _) b5⟩
        case measure => simp [intOf]; omega
      · have hs := Lib.hid (common2_yes hlt hm)
        have Hm := Lib.hid hm
        clear hm
        go_wp2_with fail
        refine (containsI_any _ (occ (rng 0 12) Edt.p b) _ _ hy.reads).mono ?_; rintro e w5 ⟨he, b5⟩
        rw [Hm.out] at he
        subst he
        have ho5 := OwnInts.below ho b5 (Nat.le_refl _)
        have hx5 := OwnInts.below hx b5 (Nat.le_refl _)
        have hy5 := OwnInts.below hy b5 (Nat.le_refl _)
        have hb5 := hb.next (Nat.le_refl _) b5
        go_wp2_with (at_builtin; refine wp_app_int _ rfl _ _ rfl w2.heap.size _ (common2 (occ (rng 0 12) Edt.p a) (occ (rng 0 12) Edt.p b) k) rfl ho5 (gi (occ (rng 0 12) Edt.p a) k) _ rfl rfl h9 hb5.size ?_; intro v6 w6 ho6 hg6)
        have hx6 := ax.keepI hx5 hg6
        have hy6 := ay.keepI hy5 hg6
        have ax6 := ax.grew hx5 hg6
        have ay6 := ay.grew hy5 hg6
        go_roundw
        case rel => exact ⟨k + 1, by omega, by go_num, by rw [hs.out]; exact ho6, hx6, hy6, ax6, ay6, hb5.trans hg6.below⟩
        case measure => simp [intOf]; omega
    · obtain rfl : k = (occ (rng 0 12) Edt.p a).length := by omega
      rw [hal.out] at ho
      have ho2 := Lib.hid (ints_lo ho b12.size)
      clear ho
      go_wp2_with fail
      go_ret2
      exact ⟨_, by rw [hr.out]; rfl, by rw [hr.out]; exact ho2.out, b12.next (Nat.le_refl _) hb⟩
set_option maxHeartbeats 3200000 in
theorem specTouch (va vb : Value) (a b : List Edt) (w : World) (hA : RowAt edtRec w va a) (hB : RowAt edtRec w vb b) :
    Calls Try.prog 13 #[va, vb] w (FreshIntsC w (rTouch a b)) := by
  obtain ⟨A, c, rfl, hnc, hc63⟩ := hA.shape
  cases hab : (areEdts a && areEdts b)
  · have hr := Lib.hid (rTouch_no hab)
    go_enter Try.func13, Try.ntmps13
    go_wp2_with fail
    refine (mgTwo_lit _ _ a b false _ hA hB hab).mono ?_; rintro e w2 ⟨rfl, b2⟩
    go_wp2_with fail
    go_ret2
    exact ⟨_, by rw [hr.out]; rfl, by rw [hr.out]; exact OwnInts.nil_ _ _, b2⟩
  have hr := Lib.hid (rTouch_yes hab)
  have hab2 := hab
  rw [Bool.and_eq_true] at hab2
  have hg0 := areEdts_t hab2.1
  obtain ⟨h30, hg1⟩ := hg0
  have hg := Lib.hid hg1
  have Hab := Lib.hid hab
  clear hg1 hab hab2
  go_enter Try.func13, Try.ntmps13
  go_wp2_with fail
  refine (mgTwo_lit _ _ a b true _ hA hB Hab.out).mono ?_; rintro e w2 ⟨rfl, b2⟩
  have hA2 := hA.below b2 (Nat.le_refl _)
  have hB2 := hB.below b2 (Nat.le_refl _)
  go_wp2_with fail
  go_loopw [6, 15] (fun t s wr => ∃ k : Nat, k ≤ a.length ∧ s = .int .i64 k ∧ OwnInts wr w2.heap.size t (touchB (a.take k) b) ∧ Below w2.heap.size w2 wr) (fun _ s _ => a.length - (intOf s).toNat)
  case atStart => exact ⟨0, Nat.zero_le _, rfl, by rw [List.take_zero, show touchB [] b = [] from by simp [touchB]]; exact OwnInts.nil_ _ _, Below.refl _ _⟩
  case round =>
    obtain ⟨k, hk, rfl, ho, hb⟩ := hrel
    have htl := touchB_len (a.take k) b
    by_cases hlt : k < a.length
    · obtain ⟨b', o, rfl, hc0, hc1, hc2, hc3, hc4, hc5⟩ := edt_at (hA2.below hb (Nat.le_refl _)) k hlt
      have hgk := isEdt_t (hg.out k hlt)
      obtain ⟨_, _, p0, p11, _, _⟩ := hgk
      have hmem := Lib.hid (mem_rng.2 (show ((0 : Nat) : Int) ≤ (gx edtRec a k).p ∧ (gx edtRec a k).p < ((0 + 12 : Nat) : Int) by omega))
      clear p0 p11
      have hX : Below wr.heap.size wr (wr.alloc (.cells #[.int .i64 (gx edtRec a k).e, .int .i64 (gx edtRec a k).p, .int .i64 (gx edtRec a k).bx, .int .i64 (gx edtRec a k).bY, .int .i64 (gx edtRec a k).ax, .int .i64 (gx edtRec a k).aY] 54)) := (Below.refl _ _).alloc (Nat.le_refl _) _
      have hoX := OwnInts.below ho hX (Nat.le_refl _)
      have hbX := hb.trans (hX.mono hb.size)
      have hpos := Lib.hid (lastE_pos b (gx edtRec a k).p)
      cases hx : b.any (fun x => x.p == (gx edtRec a k).p)
      · have hs := Lib.hid (touchB_skip hlt hx)
        have hneg : lastE b (gx edtRec a k).p b.length < 0 := by
          have := hpos.out
          rw [hx] at this
          have := of_decide_eq_false this
          omega
        clear hx
        go_wp2_with fail
        refine (edLast_any _ b _ _ (hB2.below hbX (Nat.le_refl _))).mono ?_; rintro e w5 ⟨rfl, b5⟩
        have ho5 := OwnInts.below hoX b5 (Nat.le_refl _)
        go_wp2_with fail
        go_roundw
        case rel => exact ⟨k + 1, by omega, by go_num, by rw [hs.out]; exact ho5, hbX.next (Nat.le_refl _) b5⟩
        case measure => simp [intOf]; omega
      · have hs := Lib.hid (touchB_put hlt hmem.out hx)
        have hneg : 0 ≤ lastE b (gx edtRec a k).p b.length := by
          have := hpos.out
          rw [hx] at this
          exact of_decide_eq_true this
        clear hx
        go_wp2_with fail
        refine (edLast_any _ b _ _ (hB2.below hbX (Nat.le_refl _))).mono ?_; rintro e w5 ⟨rfl, b5⟩
        have ho5 := OwnInts.below hoX b5 (Nat.le_refl _)
        have hb5 := hbX.next (Nat.le_refl _) b5
        have y1 : w5.cell? ⟨wr.heap.size, 1, none⟩ = some (.int .i64 (gx edtRec a k).p) := Below.keepC b5 (by go_simp) (Nat.le_refl _)
        go_wp2_with fail
        refine (l1Put_any _ _ (gx edtRec a k).p w2.heap.size _ ho5 hb5.size (by omega)).mono ?_; rintro e w6 ⟨v6, rfl, ho6, b6⟩
        go_wp2_with fail
        go_roundw
        case rel => exact ⟨k + 1, by omega, by go_num, by rw [← hs.out]; exact ho6, hb5.next (Nat.le_refl _) b6⟩
        case measure => simp [intOf]; omega
    · obtain rfl : k = a.length := by omega
      rw [List.take_length] at ho
      have ho2 := Lib.hid (ints_lo ho b2.size)
      clear ho
      go_wp2_with fail
      go_ret2
      exact ⟨_, by rw [hr.out]; rfl, by rw [hr.out]; exact ho2.out, b2.next (Nat.le_refl _) hb⟩
end Go.Proofs.Ytnkbopnmfoplfaa
