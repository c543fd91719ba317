/- Contracts of TouchedBy, in the program and in the reference. -/
import Derived.Test.YtombnhnhbocceaaGreatDoorEditRuns
import Derived.Test.YtombnhnhbocceaaGreatDoorPE
set_option linter.unusedSimpArgs false
set_option linter.unusedVariables false
namespace Go.Proofs.YtombnhnhbocceaaGreatDoor
open Go.RowKit

/-- Of an increasing row those performers whom an editor touches. -/
def tch (R : List Int) (ed : Int) (es : List Edt) : List Int := R.filter fun n => es.any fun x => x.p == n && x.e == ed
theorem tch_len (R : List Int) (ed : Int) (es : List Edt) : (tch R ed es).length ≤ R.length := List.length_filter_le _ _
theorem tch_nil (R : List Int) (ed : Int) : tch R ed [] = [] := by simp [tch]
theorem tch_no {R : List Int} {ed : Int} {es : List Edt} {x : Int} (h : (es.any fun y => y.p == x && y.e == ed) = false) : tch (R ++ [x]) ed es = tch R ed es := by
  unfold tch; rw [List.filter_append]; simp only [List.filter_cons, List.filter_nil, h]; simp
theorem tch_yes {R : List Int} {ed : Int} {es : List Edt} {x : Int} (h : (es.any fun y => y.p == x && y.e == ed) = true) : tch (R ++ [x]) ed es = tch R ed es ++ [x] := by
  unfold tch; rw [List.filter_append]; simp only [List.filter_cons, List.filter_nil, h]; simp
theorem tch_put (R : List Int) (ed : Int) (es : List Edt) (k : Nat) (hs : R.Pairwise (· < ·)) (hk : k < es.length) (he : ((gx edtRec es k).e == ed) = true) (hn : (gx edtRec es k).p ∈ R) :
    putI (tch R ed (es.take k)) (gx edtRec es k).p = tch R ed (es.take (k + 1)) := by
  unfold tch
  rw [putI_filter R _ _ hs hn, take_succ_gx edtRec es k hk]
  apply List.filter_congr
  intro x _
  rw [List.any_append]
  simp only [List.any_cons, List.any_nil, Bool.or_false, he, Bool.and_true]
  congr 1
  rw [Bool.eq_iff_iff, beq_iff_eq, beq_iff_eq]; exact eq_comm
theorem tch_skip (R : List Int) (ed : Int) (es : List Edt) (k : Nat) (hk : k < es.length) (he : ((gx edtRec es k).e == ed) = false) : tch R ed (es.take (k + 1)) = tch R ed (es.take k) := by
  unfold tch
  rw [take_succ_gx edtRec es k hk]
  apply List.filter_congr
  intro x _
  rw [List.any_append]
  simp only [List.any_cons, List.any_nil, Bool.or_false, he, Bool.and_false]
/-- What TouchedBy returns. -/
def rTb (es : List Edt) (ed : Int) : List Int × Bool := if areEdts es && inR ed 1 9 then (tch (rng 0 12) ed es, true) else ([], false)
theorem rTb_no1 {es : List Edt} {ed : Int} (h : areEdts es = false) : rTb es ed = ([], false) := by unfold rTb; rw [h]; rfl
theorem rTb_no2 {es : List Edt} {ed : Int} (h : inR ed 1 9 = false) : rTb es ed = ([], false) := by unfold rTb; rw [h]; simp
theorem rTb_yes {es : List Edt} {ed : Int} (h : areEdts es = true) (h2 : inR ed 1 9 = true) : rTb es ed = (tch (rng 0 12) ed es, true) := by unfold rTb; rw [h, h2]; rfl
theorem rTb_len (es : List Edt) (ed : Int) : (rTb es ed).1.length ≤ 12 := by
  unfold rTb
  split
  · have := tch_len (rng 0 12) ed es
    rw [rng_len] at this
    exact this
  · simp
def edPt (x : Edt) : Value := .agg #[.int .i64 x.e, .int .i64 x.p, .int .i64 x.bx, .int .i64 x.bY, .int .i64 x.ax, .int .i64 x.aY]
theorem tbClosure (x : Edt) (be : Nat) (ed : Int) (w : World) (hc : w.cell? ⟨be, 0, none⟩ = some (.int .i64 ed)) :
    Calls Tryz.prog 43 #[.agg #[.int .i64 x.e, .int .i64 x.p, .int .i64 x.bx, .int .i64 x.bY, .int .i64 x.ax, .int .i64 x.aY], .pointer (some ⟨be, 0, none⟩)] w fun e w' => e = .returned (.bool (x.e == ed)) ∧ Below w.heap.size w w' := by
  have hlt : be < w.heap.size := World.block_lt_of_cell? w _ hc
  have hb := fun o => (Below.refl w.heap.size w).alloc (Nat.le_refl _) o
  have Hb := Lib.hid hb
  clear hb
  go_enter Tryz.func43, Tryz.ntmps43
  go_wp2_with fail
  go_ret
  exact ⟨rfl, Hb.out _⟩
theorem touchClosureT (x : Edt) (bi bf be : Nat) (i ed : Int) (w : World) (hc : w.cell? ⟨bi, 0, none⟩ = some (.int .i64 i)) (hf : w.cell? ⟨bf, 0, none⟩ = some (.func (.func 43) #[] #[.pointer (some ⟨be, 0, none⟩)])) (he : w.cell? ⟨be, 0, none⟩ = some (.int .i64 ed)) :
    Calls Tryz.prog 68 #[.agg #[.int .i64 x.e, .int .i64 x.p, .int .i64 x.bx, .int .i64 x.bY, .int .i64 x.ax, .int .i64 x.aY], .pointer (some ⟨bi, 0, none⟩), .pointer (some ⟨bf, 0, none⟩)] w fun e w' => e = .returned (.bool (x.p == i && x.e == ed)) ∧ Below w.heap.size w w' := by
  have hlt : bi < w.heap.size := World.block_lt_of_cell? w _ hc
  have hlf : bf < w.heap.size := World.block_lt_of_cell? w _ hf
  have hle : be < w.heap.size := World.block_lt_of_cell? w _ he
  have hb := fun o => (Below.refl w.heap.size w).alloc (Nat.le_refl _) o
  have hex := fun o => Below.keepC (hb o) he (Nat.le_refl _)
  have Hex := Lib.hid hex
  have Hb := Lib.hid hb
  clear hb hex
  cases e0 : (x.p == i)
  · go_enter Tryz.func68, Tryz.ntmps68
    go_wp2_with fail
    go_ret
    exact ⟨rfl, Hb.out _⟩
  · go_enter Tryz.func68, Tryz.ntmps68
    go_wp2_with (go_at_call 43; refine (tbClosure x be ed _ (Hex.out _)).mono ?_; rintro e w1 ⟨rfl, b1⟩)
    go_ret
    exact ⟨rfl, (Hb.out _).trans (b1.mono (by simp))⟩
set_option maxHeartbeats 1600000 in
theorem tbIndex (v : Value) (es : List Edt) (bi bf be : Nat) (i ed : Int) (w : World) (h : RowAt edtRec w v es) (hc : w.cell? ⟨bi, 0, none⟩ = some (.int .i64 i)) (hf : w.cell? ⟨bf, 0, none⟩ = some (.func (.func 43) #[] #[.pointer (some ⟨be, 0, none⟩)])) (he : w.cell? ⟨be, 0, none⟩ = some (.int .i64 ed)) :
    Calls Tryz.prog 85 #[v, .func (.func 68) #[] #[.pointer (some ⟨bi, 0, none⟩), .pointer (some ⟨bf, 0, none⟩)]] w
      fun e w' => e = .returned (.int .i64 (fndE (fun x => x.p == i && x.e == ed) es 0)) ∧ Below w.heap.size w w' := by
  obtain ⟨A, c, rfl, hnc, hc63⟩ := h.shape
  obtain ⟨p, hp⟩ : ∃ p : Edt → Bool, p = (fun x => x.p == i && x.e == ed) := ⟨_, rfl⟩
  have Hp := Lib.hid hp
  rw [← hp]
  clear hp
  go_enter Tryz.func85, Tryz.ntmps85
  go_wp2_with fail
  go_loopw [8] (fun s wr => ∃ k : Nat, k ≤ es.length ∧ s = .int .i64 k ∧ Hid (fndE p es 0 = fndE p (es.drop k) k) ∧ Below w.heap.size w wr) (fun s _ => es.length - (intOf s).toNat)
  case atStart => exact ⟨0, Nat.zero_le _, rfl, rfl, Below.refl _ _⟩
  case round =>
    obtain ⟨k, hk, rfl, hfn, hb⟩ := hrel
    by_cases hlt : k < es.length
    · obtain ⟨b, o, rfl, hc0, hc1, hc2, hc3, hc4, hc5⟩ := edt_at (h.below hb (Nat.le_refl _)) k hlt
      have hcx := Below.keepC hb hc (Nat.le_refl _)
      have hfx := Below.keepC hb hf (Nat.le_refl _)
      have hex := Below.keepC hb he (Nat.le_refl _)
      cases hx : p (gx edtRec es k)
      · have hn := Lib.hid (hfn.out.trans (fndE_miss hlt hx))
        have hx2 : ((gx edtRec es k).p == i && (gx edtRec es k).e == ed) = false := by rw [Hp.out] at hx; exact hx
        clear hx
        have CT := Lib.hid (touchClosureT (gx edtRec es k) bi bf be i ed _ hcx hfx hex)
        rw [hx2] at CT
        clear hx2
        go_wp2_with (go_at_call 68; refine CT.out.mono ?_; rintro e w1 ⟨rfl, b1⟩)
        go_roundw
        case rel => exact ⟨k + 1, by omega, by go_num, hn, hb.next (Nat.le_refl _) b1⟩
        case measure => simp [intOf]; omega
      · have hn := Lib.hid (hfn.out.trans (fndE_hit hlt hx))
        have hx2 : ((gx edtRec es k).p == i && (gx edtRec es k).e == ed) = true := by rw [Hp.out] at hx; exact hx
        clear hx
        have CT := Lib.hid (touchClosureT (gx edtRec es k) bi bf be i ed _ hcx hfx hex)
        rw [hx2] at CT
        clear hx2
        go_wp2_with (go_at_call 68; refine CT.out.mono ?_; rintro e w1 ⟨rfl, b1⟩)
        go_ret
        exact ⟨ret_int hn.out.symm, hb.next (Nat.le_refl _) b1⟩
    · obtain rfl : k = es.length := by omega
      have hn : Hid (fndE p es 0 = -1) := by
        show _ = _
        rw [hfn.out, List.drop_length]; rfl
      go_wp2_with fail
      go_ret
      exact ⟨ret_int hn.out.symm, hb⟩
theorem tbContains (v : Value) (es : List Edt) (bi bf be : Nat) (i ed : Int) (w : World) (h : RowAt edtRec w v es) (hc : w.cell? ⟨bi, 0, none⟩ = some (.int .i64 i)) (hf : w.cell? ⟨bf, 0, none⟩ = some (.func (.func 43) #[] #[.pointer (some ⟨be, 0, none⟩)])) (he : w.cell? ⟨be, 0, none⟩ = some (.int .i64 ed)) :
    Calls Tryz.prog 67 #[v, .func (.func 68) #[] #[.pointer (some ⟨bi, 0, none⟩), .pointer (some ⟨bf, 0, none⟩)]] w
      fun e w' => e = .returned (.bool (es.any (fun x => x.p == i && x.e == ed))) ∧ Below w.heap.size w w' := by
  obtain ⟨A, c, rfl, hnc, hc63⟩ := h.shape
  go_enter Tryz.func67, Tryz.ntmps67
  go_wp2_with fail
  refine (tbIndex _ es bi bf be i ed _ h hc hf he).mono ?_; rintro e w1 ⟨rfl, b1⟩
  go_wp2_with fail
  go_ret
  refine ⟨ret_bool ?_, b1⟩
  rcases fndE_cases (fun x => x.p == i && x.e == ed) es 0 with ⟨h1, h2⟩ | ⟨h1, h2⟩
  · rw [h1, h2]; rfl
  · rw [h2]; exact decide_eq_true h1
set_option maxHeartbeats 3200000 in
theorem touchedT_any (ve : Value) (es : List Edt) (be : Nat) (ed : Int) (w : World) (hE : RowAt edtRec w ve es) (he : w.cell? ⟨be, 0, none⟩ = some (.int .i64 ed)) :
    Calls Tryz.prog 42 #[ve, .func (.func 43) #[] #[.pointer (some ⟨be, 0, none⟩)]] w (FreshInts w (tch (rng 0 12) ed es)) := by
  obtain ⟨B, d, rfl, hnd, hd63⟩ := hE.shape
  have e0 : Below w.heap.size w (w.alloc (.cells #[.func (.func 43) #[] #[.pointer (some ⟨be, 0, none⟩)]] 48)) := (Below.refl _ _).alloc (Nat.le_refl _) _
  have e1 : Below w.heap.size w ((w.alloc (.cells #[.func (.func 43) #[] #[.pointer (some ⟨be, 0, none⟩)]] 48)).alloc (.cells #[] 3)) := e0.alloc (by simp) _
  have q1 : OwnInts ((w.alloc (.cells #[.func (.func 43) #[] #[.pointer (some ⟨be, 0, none⟩)]] 48)).alloc (.cells #[] 3)) w.heap.size (.slice (some ⟨w.heap.size + 1, 0, none⟩) 0 0) [] := by
    have := OwnInts.empty (w.alloc (.cells #[.func (.func 43) #[] #[.pointer (some ⟨be, 0, none⟩)]] 48)) w.heap.size (by simp)
    simpa using this
  have q2 : ((w.alloc (.cells #[.func (.func 43) #[] #[.pointer (some ⟨be, 0, none⟩)]] 48)).alloc (.cells #[] 3)).cell? ⟨w.heap.size, 0, none⟩ = some (.func (.func 43) #[] #[.pointer (some ⟨be, 0, none⟩)]) := by go_simp
  have HE := Lib.hid he
  clear he
  go_enter Tryz.func42, Tryz.ntmps42
  go_wp2_with fail
  go_loopw [5, 8] (fun t s wr => ∃ k : Nat, k ≤ 12 ∧ s = .int .i64 k ∧ wr.cell? ⟨w.heap.size, 0, none⟩ = some (.func (.func 43) #[] #[.pointer (some ⟨be, 0, none⟩)]) ∧ Hid (t.ownBlock ≠ some w.heap.size) ∧ OwnInts wr w.heap.size t (tch (rng 0 k) ed es) ∧ Below w.heap.size w wr) (fun _ s _ => 12 - (intOf s).toNat)
  case atStart => exact ⟨0, by omega, rfl, q2, (by show _ ≠ _; simp [Value.ownBlock]), q1, e1⟩
  case round =>
    obtain ⟨k, hk, rfl, hf, hof, ho, hb⟩ := hrel
    clear e0 e1 q1 q2
    have hol := tch_len (rng 0 k) ed es
    rw [rng_len] at hol
    have h9 : (tch (rng 0 k) ed es).length + 1 ≤ 1099511627776 := by omega
    clear hol
    by_cases hlt : k < 12
    · have hX : Below wr.heap.size wr (wr.alloc (.cells #[.int .i64 k] 3)) := (Below.refl _ _).alloc (Nat.le_refl _) _
      have hcX : (wr.alloc (.cells #[.int .i64 k] 3)).cell? ⟨wr.heap.size, 0, none⟩ = some (.int .i64 k) := by go_simp
      have hfX := Below.keepC hX hf (Nat.le_refl _)
      have hoX := OwnInts.below ho hX (Nat.le_refl _)
      have hbX := hb.trans (hX.mono hb.size)
      have heX := Lib.hid (Below.keepC hbX HE.out (Nat.le_refl _))
      have hlf : w.heap.size < wr.heap.size := World.block_lt_of_cell? wr _ hf
      cases hx : es.any (fun x => x.p == (k : Int) && x.e == ed)
      · have hs := Lib.hid (tch_no (R := rng 0 k) (ed := ed) hx)
        have CT := Lib.hid (tbContains _ es wr.heap.size w.heap.size be (k : Int) ed _ (hE.below hbX (Nat.le_refl _)) hcX hfX heX.out)
        rw [hx] at CT
        clear hx
        go_wp2_with fail
        refine CT.out.mono ?_; rintro e w2 ⟨rfl, b2⟩
        have ho2 := OwnInts.below hoX b2 (Nat.le_refl _)
        have hb2 := hbX.next (Nat.le_refl _) b2
        have hf2 := Below.keepC b2 hfX (Nat.le_refl _)
        clear hcX hfX CT
        go_wp2_with fail
        go_roundw
        case rel => exact ⟨k + 1, by omega, by go_num, hf2, hof, by rw [rng_succ, show ((0 + k : Nat) : Int) = (k : Int) from by omega, hs.out]; exact ho2, hb2⟩
        case measure => simp [intOf]; omega
      · have hs := Lib.hid (tch_yes (R := rng 0 k) (ed := ed) hx)
        have CT := Lib.hid (tbContains _ es wr.heap.size w.heap.size be (k : Int) ed _ (hE.below hbX (Nat.le_refl _)) hcX hfX heX.out)
        rw [hx] at CT
        clear hx
        go_wp2_with fail
        refine CT.out.mono ?_; rintro e w2 ⟨rfl, b2⟩
        have ho2 := OwnInts.below hoX b2 (Nat.le_refl _)
        have hb2 := hbX.next (Nat.le_refl _) b2
        have hf2 := Below.keepC b2 hfX (Nat.le_refl _)
        have hc2 := Below.keepC b2 hcX (Nat.le_refl _)
        have hl2 : w.heap.size < w2.heap.size := by have := b2.size; simp at this; omega
        clear hcX hfX CT
        go_wp2_with (at_builtin; refine wp_app_int _ rfl _ _ rfl w.heap.size _ (tch (rng 0 k) ed es) rfl ho2 (k : Int) _ rfl rfl h9 hb2.size ?_; intro v5 w5 ho5 hg5)
        have hf5 := off_keep hg5.grown hof.out hf2
        have hof5 : Hid (v5.ownBlock ≠ some w.heap.size) := fun h8 => by
          rcases hg5.at_ _ h8 with h7 | h7
          · exact hof.out h7
          · omega
        go_roundw
        case rel => exact ⟨k + 1, by omega, by go_num, hf5, hof5, by rw [rng_succ, show ((0 + k : Nat) : Int) = (k : Int) from by omega, hs.out]; exact ho5, hb2.trans hg5.below⟩
        case measure => simp [intOf]; omega
    · obtain rfl : k = 12 := by omega
      go_wp2_with fail
      go_ret
      exact ⟨_, rfl, ho, hb⟩
set_option maxHeartbeats 3200000 in
theorem implTb (ve : Value) (es : List Edt) (ed : Int) (w : World) (hE : RowAt edtRec w ve es) :
    Calls Tryz.prog 14 #[ve, .int .i64 ed] w (FreshIntsC w (rTb es ed)) := by
  obtain ⟨B, d, rfl, hnd, hd63⟩ := hE.shape
  have bX : Below w.heap.size w (w.alloc (.cells #[.int .i64 ed] 3)) := (Below.refl _ _).alloc (Nat.le_refl _) _
  have hcX : (w.alloc (.cells #[.int .i64 ed] 3)).cell? ⟨w.heap.size, 0, none⟩ = some (.int .i64 ed) := by go_simp
  obtain ⟨X, hX⟩ : ∃ X : World, X = w.alloc (.cells #[.int .i64 ed] 3) := ⟨_, rfl⟩
  rw [← hX] at bX hcX
  have HX := Lib.hid hX
  clear hX
  have hEX := hE.below bX (Nat.le_refl _)
  have CA := Lib.hid (areEdits_any _ es X hEX)
  cases h1 : areEdts es
  · have hr := Lib.hid (rTb_no1 (ed := ed) h1)
    rw [h1] at CA
    go_enter Tryz.func14, Tryz.ntmps14
    go_upto_region 1 with fail
    rw [← HX.out]
    go_wp2_with fail
    refine CA.out.mono ?_; rintro e w1 ⟨rfl, b1⟩
    go_wp2_with fail
    go_ret2
    exact ⟨_, by rw [hr.out]; rfl, by rw [hr.out]; exact OwnInts.nil_ _ _, bX.next (Nat.le_refl _) b1⟩
  · rw [h1] at CA
    cases h2 : inR ed 1 9
    · have hr := Lib.hid (rTb_no2 (es := es) h2)
      go_enter Tryz.func14, Tryz.ntmps14
      go_upto_region 1 with fail
      rw [← HX.out]
      go_wp2_with fail
      refine CA.out.mono ?_; rintro e w1 ⟨rfl, b1⟩
      have hc1 := Below.keepC b1 hcX (Nat.le_refl _)
      have CB := Lib.hid (isEditor_any ed w1)
      rw [h2] at CB
      clear hcX
      go_wp2_with fail
      refine CB.out.mono ?_; rintro e _ ⟨rfl, rfl⟩
      go_wp2_with fail
      go_ret2
      exact ⟨_, by rw [hr.out]; rfl, by rw [hr.out]; exact OwnInts.nil_ _ _, bX.next (Nat.le_refl _) b1⟩
    · have hr := Lib.hid (rTb_yes h1 h2)
      go_enter Tryz.func14, Tryz.ntmps14
      go_upto_region 1 with fail
      rw [← HX.out]
      go_wp2_with fail
      refine CA.out.mono ?_; rintro e w1 ⟨rfl, b1⟩
      have hc1 := Below.keepC b1 hcX (Nat.le_refl _)
      have CB := Lib.hid (isEditor_any ed w1)
      rw [h2] at CB
      clear hcX
      have bb := bX.next (Nat.le_refl _) b1
      have CT := Lib.hid (touchedT_any _ es w.heap.size ed w1 (hE.below bb (Nat.le_refl _)) hc1)
      go_wp2_with fail
      refine CB.out.mono ?_; rintro e _ ⟨rfl, rfl⟩
      go_wp2_with fail
      refine CT.out.mono ?_; rintro e w2 ⟨v2, rfl, o2, b2⟩
      have hlo := bb.size
      go_wp2_with fail
      go_ret2
      exact ⟨_, by rw [hr.out]; rfl, by rw [hr.out]; exact ints_lo o2 hlo, bb.next (Nat.le_refl _) b2⟩
set_option maxHeartbeats 3200000 in
theorem specTb (ve : Value) (es : List Edt) (ed : Int) (w : World) (hE : RowAt edtRec w ve es) :
    Calls Tryz.prog 19 #[ve, .int .i64 ed] w (FreshIntsC w (rTb es ed)) := by
  obtain ⟨B, d, rfl, hnd, hd63⟩ := hE.shape
  have CA := Lib.hid (edAll_any _ es w hE)
  cases h1 : areEdts es
  · have hr := Lib.hid (rTb_no1 (ed := ed) h1)
    rw [h1] at CA
    go_enter Tryz.func19, Tryz.ntmps19
    go_wp2_with fail
    refine CA.out.mono ?_; rintro e w1 ⟨rfl, b1⟩
    go_wp2_with fail
    go_ret2
    exact ⟨_, by rw [hr.out]; rfl, by rw [hr.out]; exact OwnInts.nil_ _ _, b1⟩
  · rw [h1] at CA
    cases h2 : inR ed 1 9
    · have hr := Lib.hid (rTb_no2 (es := es) h2)
      go_enter Tryz.func19, Tryz.ntmps19
      go_wp2_with fail
      refine CA.out.mono ?_; rintro e w1 ⟨rfl, b1⟩
      have CB := Lib.hid (edEditor_any ed w1)
      rw [h2] at CB
      go_wp2_with fail
      refine CB.out.mono ?_; rintro e _ ⟨rfl, rfl⟩
      go_wp2_with fail
      go_ret2
      exact ⟨_, by rw [hr.out]; rfl, by rw [hr.out]; exact OwnInts.nil_ _ _, b1⟩
    · have hr := Lib.hid (rTb_yes h1 h2)
      obtain ⟨h30, hg1⟩ := areEdts_t h1
      have hg := Lib.hid hg1
      clear hg1 h1
      go_enter Tryz.func19, Tryz.ntmps19
      go_wp2_with fail
      refine CA.out.mono ?_; rintro e w1 ⟨rfl, b1⟩
      have hE1 := hE.below b1 (Nat.le_refl _)
      have CB := Lib.hid (edEditor_any ed w1)
      rw [h2] at CB
      go_wp2_with fail
      refine CB.out.mono ?_; rintro e _ ⟨rfl, rfl⟩
      clear h2 CA CB
      go_wp2_with fail
      go_loopw [6, 19] (fun t s wr => ∃ k : Nat, k ≤ es.length ∧ s = .int .i64 k ∧ OwnInts wr w1.heap.size t (tch (rng 0 12) ed (es.take k)) ∧ Below w1.heap.size w1 wr) (fun _ s _ => es.length - (intOf s).toNat)
      case atStart => exact ⟨0, Nat.zero_le _, rfl, by rw [List.take_zero, tch_nil]; exact OwnInts.nil_ _ _, Below.refl _ _⟩
      case round =>
        obtain ⟨k, hk, rfl, ho, hb⟩ := hrel
        by_cases hlt : k < es.length
        · obtain ⟨b, o, rfl, hc0, hc1, hc2, hc3, hc4, hc5⟩ := edt_at (hE1.below hb (Nat.le_refl _)) k hlt
          have hgk := isEdt_t (hg.out k hlt)
          obtain ⟨_, _, p1, p9, _, _⟩ := hgk
          have hmem := mem_rng (a := 0) (n := 12) (x := (gx edtRec es k).p) |>.2 (by omega)
          have hol := tch_len (rng 0 12) ed (es.take k)
          rw [rng_len] at hol
          have hX : Below wr.heap.size wr (wr.alloc (.cells #[.int .i64 (gx edtRec es k).e, .int .i64 (gx edtRec es k).p, .int .i64 (gx edtRec es k).bx, .int .i64 (gx edtRec es k).bY, .int .i64 (gx edtRec es k).ax, .int .i64 (gx edtRec es k).aY] 39)) := (Below.refl _ _).alloc (Nat.le_refl _) _
          have hoX := OwnInts.below ho hX (Nat.le_refl _)
          have hbX := hb.trans (hX.mono hb.size)
          have hsX := hbX.size
          clear p1 p9
          cases e0 : ((gx edtRec es k).e == ed)
          · have hst := Lib.hid (tch_skip (rng 0 12) ed es k hlt e0)
            clear hmem
            go_wp2_with fail
            go_roundw
            case rel => exact ⟨k + 1, by omega, by go_num, by rw [hst.out]; exact hoX, hbX⟩
            case measure => simp [intOf]; omega
          · have hst := Lib.hid (tch_put (rng 0 12) ed es k (rng_sorted 0 12) hlt e0 hmem)
            clear hmem
            go_wp2_with fail
            refine (l1Put_any _ _ (gx edtRec es k).p w1.heap.size _ hoX hsX (by omega)).mono ?_; rintro e w3 ⟨v3, rfl, ho3, b3⟩
            go_wp2_with fail
            go_roundw
            case rel => exact ⟨k + 1, by omega, by go_num, by rw [← hst.out]; exact ho3, hbX.next (Nat.le_refl _) b3⟩
            case measure => simp [intOf]; omega
        · obtain rfl : k = es.length := by omega
          rw [List.take_length] at ho
          have ho2 := Lib.hid (ints_lo ho b1.size)
          clear ho
          go_wp2_with fail
          go_ret2
          exact ⟨_, by rw [hr.out]; rfl, by rw [hr.out]; exact ho2.out, b1.next (Nat.le_refl _) hb⟩
end Go.Proofs.YtombnhnhbocceaaGreatDoor
/- Contracts of EditsOf and LastTouch, in the program and in the reference. -/
set_option linter.unusedSimpArgs false
set_option linter.unusedVariables false
namespace Go.Proofs.YtombnhnhbocceaaGreatDoor
open Go.RowKit

/-- The edits of an editor. -/
def eof (es : List Edt) (n : Int) : List Edt := es.filter fun x => x.e == n
theorem eof_no {es : List Edt} {n : Int} {k : Nat} (h : k < es.length) (e : ((gx edtRec es k).e == n) = false) : eof (es.take (k + 1)) n = eof (es.take k) n := by
  unfold eof; rw [take_succ_gx edtRec es k h, List.filter_append]; simp [e]
theorem eof_yes {es : List Edt} {n : Int} {k : Nat} (h : k < es.length) (e : ((gx edtRec es k).e == n) = true) : eof (es.take (k + 1)) n = eof (es.take k) n ++ [gx edtRec es k] := by
  unfold eof; rw [take_succ_gx edtRec es k h, List.filter_append]; simp [e]
theorem eof_len (es : List Edt) (n : Int) : (eof es n).length ≤ es.length := List.length_filter_le _ _
/-- What EditsOf returns. -/
def rOf (es : List Edt) (n : Int) : List Edt × Bool := if areEdts es && inR n 1 9 then (eof es n, true) else ([], false)
theorem rOf_no1 {es : List Edt} {n : Int} (h : areEdts es = false) : rOf es n = ([], false) := by unfold rOf; rw [h]; rfl
theorem rOf_no2 {es : List Edt} {n : Int} (h : inR n 1 9 = false) : rOf es n = ([], false) := by unfold rOf; rw [h]; simp
theorem rOf_yes {es : List Edt} {n : Int} (h : areEdts es = true) (h2 : inR n 1 9 = true) : rOf es n = (eof es n, true) := by unfold rOf; rw [h, h2]; rfl
/-- What LastTouch returns. -/
def rLt (es : List Edt) (p : Int) : Int × Bool := if areEdts es && inR p 0 11 && decide (0 ≤ lastE es p es.length) then (lastE es p es.length, true) else (0, false)
theorem rLt_no1 {es : List Edt} {p : Int} (h : areEdts es = false) : rLt es p = (0, false) := by unfold rLt; rw [h]; rfl
theorem rLt_no2 {es : List Edt} {p : Int} (h : inR p 0 11 = false) : rLt es p = (0, false) := by unfold rLt; rw [h]; simp
theorem rLt_no3 {es : List Edt} {p : Int} (h : lastE es p es.length < 0) : rLt es p = (0, false) := by unfold rLt; rw [decide_eq_false (by omega)]; simp
theorem rLt_yes {es : List Edt} {p : Int} (h : areEdts es = true) (h2 : inR p 0 11 = true) (h3 : 0 ≤ lastE es p es.length) : rLt es p = (lastE es p es.length, true) := by unfold rLt; rw [h, h2, decide_eq_true h3]; rfl

set_option maxHeartbeats 3200000 in
theorem implOf (ve : Value) (es : List Edt) (n : Int) (w : World) (hE : RowAt edtRec w ve es) :
    Calls Tryz.prog 12 #[ve, .int .i64 n] w (FreshEdtB w (rOf es n)) := by
  obtain ⟨B, d, rfl, hnd, hd63⟩ := hE.shape
  have CA := Lib.hid (areEdits_any _ es w hE)
  cases h1 : areEdts es
  · have hr := Lib.hid (rOf_no1 (n := n) h1)
    rw [h1] at CA
    go_enter Tryz.func12, Tryz.ntmps12
    go_wp2_with fail
    refine CA.out.mono ?_; rintro e w1 ⟨rfl, b1⟩
    go_wp2_with fail
    go_ret2
    exact ⟨_, by rw [hr.out]; rfl, by rw [hr.out]; exact OwnRow.nil_ edtRec _ _, b1⟩
  · rw [h1] at CA
    cases h2 : inR n 1 9
    · have hr := Lib.hid (rOf_no2 (es := es) h2)
      go_enter Tryz.func12, Tryz.ntmps12
      go_wp2_with fail
      refine CA.out.mono ?_; rintro e w1 ⟨rfl, b1⟩
      have CB := Lib.hid (isEditor_any n w1)
      rw [h2] at CB
      go_wp2_with fail
      refine CB.out.mono ?_; rintro e _ ⟨rfl, rfl⟩
      go_wp2_with fail
      go_ret2
      exact ⟨_, by rw [hr.out]; rfl, by rw [hr.out]; exact OwnRow.nil_ edtRec _ _, b1⟩
    · have hr := Lib.hid (rOf_yes h1 h2)
      obtain ⟨h30, _⟩ := areEdts_t h1
      clear h1
      go_enter Tryz.func12, Tryz.ntmps12
      go_wp2_with fail
      refine CA.out.mono ?_; rintro e w1 ⟨rfl, b1⟩
      have hE1 := hE.below b1 (Nat.le_refl _)
      have CB := Lib.hid (isEditor_any n w1)
      rw [h2] at CB
      go_wp2_with fail
      refine CB.out.mono ?_; rintro e _ ⟨rfl, rfl⟩
      clear h2 CA CB
      have oN : OwnRow edtRec (w1.alloc (.cells #[] 39)) w1.heap.size (.slice (some ⟨w1.heap.size, 0, none⟩) 0 0) (eof (es.take 0) n) := OwnRow.empty edtRec w1 w1.heap.size (Nat.le_refl _)
      have bN : Below w1.heap.size w1 (w1.alloc (.cells #[] 39)) := (Below.refl _ _).alloc (Nat.le_refl _) _
      go_wp2_with fail
      go_loopw [6, 20] (fun t s wr => ∃ k : Nat, k ≤ es.length ∧ s = .int .i64 k ∧ OwnRow edtRec wr w1.heap.size t (eof (es.take k) n) ∧ Below w1.heap.size w1 wr) (fun _ s _ => es.length - (intOf s).toNat)
      case atStart => exact ⟨0, Nat.zero_le _, rfl, oN, bN⟩
      case round =>
        obtain ⟨k, hk, rfl, ho, hb⟩ := hrel
        by_cases hlt : k < es.length
        · obtain ⟨b, o, rfl, hc0, hc1, hc2, hc3, hc4, hc5⟩ := edt_at (hE1.below hb (Nat.le_refl _)) k hlt
          have hX : Below wr.heap.size wr (wr.alloc (.cells #[.int .i64 (gx edtRec es k).e, .int .i64 (gx edtRec es k).p, .int .i64 (gx edtRec es k).bx, .int .i64 (gx edtRec es k).bY, .int .i64 (gx edtRec es k).ax, .int .i64 (gx edtRec es k).aY] 39)) := (Below.refl _ _).alloc (Nat.le_refl _) _
          have hoX := OwnRow.below ho hX (Nat.le_refl _)
          have hbX := hb.trans (hX.mono hb.size)
          have hsX := hbX.size
          have hok := eof_len (es.take k) n
          have h9 : (eof (es.take k) n).length + 1 ≤ 1099511627776 := by rw [List.length_take] at hok; omega
          clear hok
          cases e0 : ((gx edtRec es k).e == n)
          · have hs := Lib.hid (eof_no hlt e0)
            go_wp2_with fail
            go_roundw
            case rel => exact ⟨k + 1, by omega, by go_num, by rw [hs.out]; exact hoX, hbX⟩
            case measure => simp [intOf]; omega
          · have hs := Lib.hid (eof_yes hlt e0)
            go_wp2_with (at_builtin; refine wp_app_edt _ rfl _ _ rfl w1.heap.size _ (eof (es.take k) n) rfl hoX (gx edtRec es k) _ rfl (by simp) h9 hsX ?_; intro v5 w5 ho5 hg5)
            go_roundw
            case rel => exact ⟨k + 1, by omega, by go_num, by rw [hs.out]; exact ho5, hbX.trans hg5.below⟩
            case measure => simp [intOf]; omega
        · obtain rfl : k = es.length := by omega
          rw [List.take_length] at ho
          have ho2 := Lib.hid (OwnRow.lo ho b1.size)
          clear ho
          go_wp2_with fail
          go_ret2
          exact ⟨_, by rw [hr.out]; rfl, by rw [hr.out]; exact ho2.out, b1.next (Nat.le_refl _) hb⟩
set_option maxHeartbeats 3200000 in
theorem specOf (ve : Value) (es : List Edt) (n : Int) (w : World) (hE : RowAt edtRec w ve es) :
    Calls Tryz.prog 13 #[ve, .int .i64 n] w (FreshEdtB w (rOf es n)) := by
  obtain ⟨B, d, rfl, hnd, hd63⟩ := hE.shape
  have CA := Lib.hid (edAll_any _ es w hE)
  cases h1 : areEdts es
  · have hr := Lib.hid (rOf_no1 (n := n) h1)
    rw [h1] at CA
    go_enter Tryz.func13, Tryz.ntmps13
    go_wp2_with fail
    refine CA.out.mono ?_; rintro e w1 ⟨rfl, b1⟩
    go_wp2_with fail
    go_ret2
    exact ⟨_, by rw [hr.out]; rfl, by rw [hr.out]; exact OwnRow.nil_ edtRec _ _, b1⟩
  · rw [h1] at CA
    cases h2 : inR n 1 9
    · have hr := Lib.hid (rOf_no2 (es := es) h2)
      go_enter Tryz.func13, Tryz.ntmps13
      go_wp2_with fail
      refine CA.out.mono ?_; rintro e w1 ⟨rfl, b1⟩
      have CB := Lib.hid (edEditor_any n w1)
      rw [h2] at CB
      go_wp2_with fail
      refine CB.out.mono ?_; rintro e _ ⟨rfl, rfl⟩
      go_wp2_with fail
      go_ret2
      exact ⟨_, by rw [hr.out]; rfl, by rw [hr.out]; exact OwnRow.nil_ edtRec _ _, b1⟩
    · have hr := Lib.hid (rOf_yes h1 h2)
      obtain ⟨h30, _⟩ := areEdts_t h1
      clear h1
      go_enter Tryz.func13, Tryz.ntmps13
      go_wp2_with fail
      refine CA.out.mono ?_; rintro e w1 ⟨rfl, b1⟩
      have hE1 := hE.below b1 (Nat.le_refl _)
      have CB := Lib.hid (edEditor_any n w1)
      rw [h2] at CB
      go_wp2_with fail
      refine CB.out.mono ?_; rintro e _ ⟨rfl, rfl⟩
      clear h2 CA CB
      go_wp2_with fail
      go_loopw [6, 19] (fun t s wr => ∃ k : Nat, k ≤ es.length ∧ s = .int .i64 k ∧ OwnRow edtRec wr w1.heap.size t (eof (es.take k) n) ∧ Below w1.heap.size w1 wr) (fun _ s _ => es.length - (intOf s).toNat)
      case atStart => exact ⟨0, Nat.zero_le _, rfl, OwnRow.nil_ edtRec _ _, Below.refl _ _⟩
      case round =>
        obtain ⟨k, hk, rfl, ho, hb⟩ := hrel
        by_cases hlt : k < es.length
        · obtain ⟨b, o, rfl, hc0, hc1, hc2, hc3, hc4, hc5⟩ := edt_at (hE1.below hb (Nat.le_refl _)) k hlt
          have hX : Below wr.heap.size wr (wr.alloc (.cells #[.int .i64 (gx edtRec es k).e, .int .i64 (gx edtRec es k).p, .int .i64 (gx edtRec es k).bx, .int .i64 (gx edtRec es k).bY, .int .i64 (gx edtRec es k).ax, .int .i64 (gx edtRec es k).aY] 39)) := (Below.refl _ _).alloc (Nat.le_refl _) _
          have hoX := OwnRow.below ho hX (Nat.le_refl _)
          have hbX := hb.trans (hX.mono hb.size)
          have hsX := hbX.size
          have hok := eof_len (es.take k) n
          have h9 : (eof (es.take k) n).length + 1 ≤ 1099511627776 := by rw [List.length_take] at hok; omega
          clear hok
          cases e0 : ((gx edtRec es k).e == n)
          · have hs := Lib.hid (eof_no hlt e0)
            go_wp2_with fail
            go_roundw
            case rel => exact ⟨k + 1, by omega, by go_num, by rw [hs.out]; exact hoX, hbX⟩
            case measure => simp [intOf]; omega
          · have hs := Lib.hid (eof_yes hlt e0)
            go_wp2_with (at_builtin; refine wp_app_edt _ rfl _ _ rfl w1.heap.size _ (eof (es.take k) n) rfl hoX (gx edtRec es k) _ rfl (by simp) h9 hsX ?_; intro v5 w5 ho5 hg5)
            go_roundw
            case rel => exact ⟨k + 1, by omega, by go_num, by rw [hs.out]; exact ho5, hbX.trans hg5.below⟩
            case measure => simp [intOf]; omega
        · obtain rfl : k = es.length := by omega
          rw [List.take_length] at ho
          have ho2 := Lib.hid (OwnRow.lo ho b1.size)
          clear ho
          go_wp2_with fail
          go_ret2
          exact ⟨_, by rw [hr.out]; rfl, by rw [hr.out]; exact ho2.out, b1.next (Nat.le_refl _) hb⟩
set_option maxHeartbeats 3200000 in
theorem implLt (ve : Value) (es : List Edt) (p : Int) (w : World) (hE : RowAt edtRec w ve es) :
    Calls Tryz.prog 16 #[ve, .int .i64 p] w fun e w' => e = .returned (.tuple #[.int .i64 (rLt es p).1, .bool (rLt es p).2]) ∧ Below w.heap.size w w' := by
  obtain ⟨B, d, rfl, hnd, hd63⟩ := hE.shape
  have CA := Lib.hid (areEdits_any _ es w hE)
  cases h1 : areEdts es
  · have hr := Lib.hid (rLt_no1 (p := p) h1)
    rw [h1] at CA
    go_enter Tryz.func16, Tryz.ntmps16
    go_wp2_with fail
    refine CA.out.mono ?_; rintro e w1 ⟨rfl, b1⟩
    go_wp2_with fail
    go_ret2
    exact ⟨by rw [hr.out]; rfl, b1⟩
  · rw [h1] at CA
    cases h2 : inR p 0 11
    · have hr := Lib.hid (rLt_no2 (es := es) h2)
      go_enter Tryz.func16, Tryz.ntmps16
      go_wp2_with fail
      refine CA.out.mono ?_; rintro e w1 ⟨rfl, b1⟩
      have CB := Lib.hid (within_any p 0 11 w1)
      rw [h2] at CB
      go_wp2_with fail
      refine CB.out.mono ?_; rintro e _ ⟨rfl, rfl⟩
      go_wp2_with fail
      go_ret2
      exact ⟨by rw [hr.out]; rfl, b1⟩
    · have hr3 := Lib.hid (fun h => rLt_no3 (es := es) (p := p) h)
      have hr := Lib.hid (fun h => rLt_yes (es := es) (p := p) h1 h2 h)
      obtain ⟨h30, _⟩ := areEdts_t h1
      clear h1
      go_enter Tryz.func16, Tryz.ntmps16
      go_wp2_with fail
      refine CA.out.mono ?_; rintro e w1 ⟨rfl, b1⟩
      have hE1 := hE.below b1 (Nat.le_refl _)
      have CB := Lib.hid (within_any p 0 11 w1)
      rw [h2] at CB
      have e9 : IntKind.i64.wrap ((es.length : Int) - 1) = (es.length : Int) - 1 := IntWalk.i64_in _ (by omega)
      go_wp2_with fail
      refine CB.out.mono ?_; rintro e _ ⟨rfl, rfl⟩
      clear h2 CA CB
      go_wp2_with fail
      clear e9
      go_loopw [6] (fun s wr => ∃ k : Nat, k ≤ es.length ∧ (∃ i : Int, s = .int .i64 i ∧ Hid (i = (k : Int) - 1)) ∧ Hid (lastE es p es.length = lastE es p k) ∧ wr = w1) (fun s _ => (intOf s + 1).toNat)
      case atStart => exact ⟨es.length, Nat.le_refl _, ⟨_, rfl, by show _ = _; omega⟩, rfl, rfl⟩
      case round =>
        obtain ⟨k, hk, ⟨i, rfl, hi⟩, hl, rfl⟩ := hrel
        rcases Nat.eq_zero_or_pos k with h0 | h0
        · have hi2 : i = -1 := by have := hi.out; omega
          subst h0 hi2
          have hneg := hr3.out (by rw [hl.out]; exact (by decide : (-1 : Int) < 0))
          have Hn := Lib.hid hneg
          clear hneg
          go_wp2_with fail
          go_ret2
          exact ⟨by rw [Hn.out]; rfl, b1⟩
        · obtain ⟨m, rfl⟩ : ∃ m, k = m + 1 := ⟨k - 1, by omega⟩
          have hi2 : i = (m : Int) := by have := hi.out; omega
          subst hi2
          have hlt : m < es.length := by omega
          obtain ⟨b, o, rfl, hc0, hc1, hc2, hc3, hc4, hc5⟩ := edt_at hE1 m hlt
          have hm0 : (0 : Int) ≤ (m : Int) := by omega
          have hm1 : (m : Int) < (es.length : Int) := by omega
          cases e0 : ((gx edtRec es m).p == p)
          · have hl2 := Lib.hid (hl.out.trans (lastE_f e0))
            have e8 : IntKind.i64.wrap ((m : Int) - 1) = (m : Int) - 1 := IntWalk.i64_in _ (by omega)
            go_wp2_with fail
            go_roundw
            case rel => exact ⟨m, by omega, ⟨_, rfl, rfl⟩, hl2, trivial⟩
            case measure => simp [intOf]
          · have hl2 := hl.out.trans (lastE_t e0)
            have hy := hr.out (by rw [hl2]; omega)
            rw [hl2] at hy
            have Hy := Lib.hid hy
            clear hy hl2
            go_wp2_with fail
            go_ret2
            exact ⟨by rw [Hy.out]; rfl, b1⟩
set_option maxHeartbeats 3200000 in
theorem specLt (ve : Value) (es : List Edt) (p : Int) (w : World) (hE : RowAt edtRec w ve es) :
    Calls Tryz.prog 17 #[ve, .int .i64 p] w fun e w' => e = .returned (.tuple #[.int .i64 (rLt es p).1, .bool (rLt es p).2]) ∧ Below w.heap.size w w' := by
  obtain ⟨B, d, rfl, hnd, hd63⟩ := hE.shape
  have CA := Lib.hid (edAll_any _ es w hE)
  cases h1 : areEdts es
  · have hr := Lib.hid (rLt_no1 (p := p) h1)
    rw [h1] at CA
    go_enter Tryz.func17, Tryz.ntmps17
    go_wp2_with fail
    refine CA.out.mono ?_; rintro e w1 ⟨rfl, b1⟩
    go_wp2_with fail
    go_ret2
    exact ⟨by rw [hr.out]; rfl, b1⟩
  · rw [h1] at CA
    cases h2 : inR p 0 11
    · have hr := Lib.hid (rLt_no2 (es := es) h2)
      go_enter Tryz.func17, Tryz.ntmps17
      go_wp2_with fail
      refine CA.out.mono ?_; rintro e w1 ⟨rfl, b1⟩
      have CB := Lib.hid (l1In_any p 0 11 w1)
      rw [h2] at CB
      go_wp2_with fail
      refine CB.out.mono ?_; rintro e _ ⟨rfl, rfl⟩
      go_wp2_with fail
      go_ret2
      exact ⟨by rw [hr.out]; rfl, b1⟩
    · have hr3 := Lib.hid (fun h => rLt_no3 (es := es) (p := p) h)
      have hr := Lib.hid (fun h => rLt_yes (es := es) (p := p) h1 h2 h)
      have CL := Lib.hid (fun W (h : RowAt edtRec W (.slice B es.length d) es) => edLast_any _ es p W h)
      obtain ⟨q, hq⟩ : ∃ q, q = lastE es p es.length := ⟨_, rfl⟩
      rw [← hq] at hr3 hr CL
      clear h1 hq
      go_enter Tryz.func17, Tryz.ntmps17
      go_wp2_with fail
      refine CA.out.mono ?_; rintro e w1 ⟨rfl, b1⟩
      have hE1 := hE.below b1 (Nat.le_refl _)
      have CB := Lib.hid (l1In_any p 0 11 w1)
      rw [h2] at CB
      go_wp2_with fail
      refine CB.out.mono ?_; rintro e _ ⟨rfl, rfl⟩
      clear h2 CA CB
      by_cases hq0 : q < 0
      · have Hr := Lib.hid (hr3.out hq0)
        go_wp2_with fail
        refine (CL.out _ hE1).mono ?_; rintro e w2 ⟨rfl, b2⟩
        go_wp2_with fail
        go_ret2
        exact ⟨by rw [Hr.out]; rfl, b1.next (Nat.le_refl _) b2⟩
      · have Hr := Lib.hid (hr.out (by omega))
        go_wp2_with fail
        refine (CL.out _ hE1).mono ?_; rintro e w2 ⟨rfl, b2⟩
        have b12 := b1.next (Nat.le_refl _) b2
        have hE2 := hE.below b12 (Nat.le_refl _)
        go_wp2_with fail
        refine (CL.out _ hE2).mono ?_; rintro e w3 ⟨rfl, b3⟩
        go_wp2_with fail
        go_ret2
        exact ⟨by rw [Hr.out]; rfl, b12.next (Nat.le_refl _) b3⟩
end Go.Proofs.YtombnhnhbocceaaGreatDoor
