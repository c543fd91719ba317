/- The draw that spoils a string with one or two edits. -/
import Derived.Test.YtombnhnhbocceaaGreatDoorDraw0
import Derived.Test.YtombnhnhbocceaaGreatDoorStr
import Derived.Deep.LoopGhost
import Derived.Deep.DeepCutAuto
import Derived.RegionTactic
import Derived.Test.YtombnhnhbocceaaGreatDoorDrawEd
import Derived.Test.YtombnhnhbocceaaGreatDoorEdW
set_option linter.unusedSimpArgs false
set_option linter.unusedVariables false
namespace Go.Proofs.YtombnhnhbocceaaGreatDoor
open Go.RowKit Go.Sort

theorem sl_h (s : ByteArray) (i : Nat) (hi : i ≤ s.size) (w : World) : (Instr.slice 9 (.string s) none (some (.int .i64 i)) none).run Tryz.prog w = .ok (.string (s.extract 0 i)) w := by
  have h9 := run_slice_string_h (P := Tryz.prog) (w := w) (t := 9) (s := s) Tryz.underlying9 .i64 (i : Int) (by omega) (by omega)
  rw [show ((i : Int)).toNat = i from by omega] at h9
  exact h9
theorem sl_l (s : ByteArray) (i : Nat) (hi : i ≤ s.size) (w : World) : (Instr.slice 9 (.string s) (some (.int .i64 i)) none none).run Tryz.prog w = .ok (.string (s.extract i s.size)) w := by
  have h9 := run_slice_string_l (P := Tryz.prog) (w := w) (t := 9) (s := s) Tryz.underlying9 .i64 (i : Int) (by omega) (by omega)
  rw [show ((i : Int)).toNat = i from by omega] at h9
  exact h9
theorem CurAt.drew9 {w : World} {g n : Nat} {v : Value} {code : List Nat} (h : CurAt w g v code n) : CurAt w.drew g v code n := h.belowG ((Below.refl _ w).drew) h.lt
theorem ex_sz (s : ByteArray) (i j : Nat) (hj : j ≤ s.size) (hi : i ≤ j) : (s.extract i j).size = j - i := by
  rw [ByteArray.size_extract]; omega
set_option maxRecDepth 100000 in
set_option maxHeartbeats 6400000 in
theorem spoilt_any (g n : Nat) (v : Value) (code : List Nat) (s a : ByteArray) (w : World) (h : CurAt w g v code n) (hn : n ≤ 4611686018420000000) (hs : s.size ≤ 1000000) (ha : 1 ≤ a.size) (ha2 : a.size ≤ 100) :
    Calls Tryz.prog 52 #[.pointer (some ⟨g, 0, none⟩), .string s, .string a] w
      fun e w' => ∃ (r : ByteArray) (n' : Nat), e = .returned (.string r) ∧ r.size ≤ s.size + 2 ∧ n ≤ n' ∧ n' ≤ n + 30 ∧ CurAt w' g v code n' ∧ Apg g w w' := by
  have hg := h.lt
  have C1 := Lib.hid (pick_ex g v code 2 n w (by omega) (by omega) h)
  go_enter Tryz.func52, Tryz.ntmps52
  go_wp2_with fail
  refine C1.out.mono ?_; rintro e w1 ⟨y1, k1, rfl, hy1, hk1, hj1, q1, a1⟩
  clear C1
  go_wp2_with fail
  go_loopg [1, 7] 3 (fun gk t1 t7 wr => ∃ (r : ByteArray) (m k : Nat), t1 = .string r ∧ t7 = .int .i64 m ∧ m ≤ 2 ∧ m < gk ∧ r.size + m ≤ s.size + 2 ∧ n ≤ k ∧ k + 10 * m ≤ n + 30 ∧ CurAt wr g v code k ∧ Apg g w wr)
  case atStart => exact ⟨s, 1 + y1, k1, rfl, by go_num, by omega, by omega, by omega, by omega, by omega, q1, a1⟩
  case round =>
    obtain ⟨r, m, k, rfl, rfl, hm2, hmg, hrs, hk2, hk3, qr, ar⟩ := hrel
    clear q1 a1
    rcases Nat.eq_zero_or_pos m with hm0 | hm0
    · subst hm0
      go_wp2_with fail
      go_ret
      exact ⟨_, k, rfl, by omega, by omega, by omega, qr, ar⟩
    · rcases Nat.eq_zero_or_pos r.size with hr0 | hr0
      · have e0 : (r.size : Int) = 0 := by omega
        go_wp2_with fail
        go_ret
        exact ⟨_, k, rfl, by omega, by omega, by omega, qr, ar⟩
      · have C2 := Lib.hid (pick_ex g v code r.size k wr (by omega) (by omega) qr)
        have hm9 : (0 : Int) < (m : Int) := by omega
        have hr9 : (0 : Int) < (r.size : Int) := by omega
        go_wp2_with fail
        refine C2.out.mono ?_; rintro e w2 ⟨i, k4, rfl, hi, hk4, hj4, q4, a4⟩
        have b4 := ar.trans a4
        have C5 := Lib.hid (pick_ex g v code a.size k4 w2 (by omega) (by omega) q4)
        clear C2 a4 ar
        go_wp2_with fail
        refine C5.out.mono ?_; rintro e w5 ⟨j, k5, rfl, hj, hk5, hj5, q5, a5⟩
        have b5 := b4.trans a5
        have hjl : j < a.size := by omega
        obtain ⟨x, hx⟩ : ∃ x : Nat, x = (a[j]).toNat := ⟨_, rfl⟩
        have hb9 : (a[j]).toNat = x := hx.symm
        have hcv := conv_byte1 w5 (x : Int)
        have hg5 := q5.lt
        have qc := Lib.hid (q5.belowG ((Below.refl _ w5).alloc (Nat.le_refl _) (.cells #[.int .u8 (x : Int)] 5)) hg5)
        have bc := Lib.hid (b5.next ((Below.refl _ w5).alloc (Nat.le_refl _) (.cells #[.int .u8 (x : Int)] 5)))
        have C6 := Lib.hid (fun (h9 : True) => pick_ex g v code 3 k5 (w5.alloc (.cells #[.int .u8 (x : Int)] 5)) (by omega) (by omega) qc.out)
        clear C5 a5 b4 hx
        go_wp2_with fail
        refine (C6.out trivial).mono ?_; rintro e w6 ⟨y, k6, rfl, hy, hk6, hj6, q6, a6⟩
        have b6 := bc.out.trans a6
        clear hcv qc bc C6 b5 q5
        have hw1 : (strOfNums [(x : Int)]).size = 1 := rfl
        have hil : i < r.size := by omega
        have s1 := sl_h r i (by omega)
        have s2 := sl_l r i (by omega)
        obtain ⟨i1, hi1e⟩ : ∃ i1, i1 = i + 1 := ⟨_, rfl⟩
        have s3 := sl_l r i1 (by omega)
        have z1 := ex_sz r 0 i (by omega) (by omega)
        have z2 := ex_sz r i r.size (by omega) (by omega)
        have z3 := ex_sz r i1 r.size (by omega) (by omega)
        have hi1 : IntKind.i64.wrap ((i : Int) + 1) = (i1 : Int) := by rw [IntWalk.i64_in _ (by omega)]; omega
        have hi2 : ((i : Int) + 1) = (i1 : Int) := by omega
        have hi3 : i1 ≤ r.size := by omega
        have hi4 : i + 1 ≤ i1 := by omega
        clear hi1e
        have hy3 : y = 0 ∨ y = 1 ∨ y = 2 := by omega
        clear hm9 hr9 hb9 hi
        rcases hy3 with rfl | rfl | rfl
        · go_upto_region 9 with fail
          go_region
          go_wp2_with fail
          go_roundg (gk - 1)
          case measure => omega
          case rel => exact ⟨_, m - 1, k6, rfl, by go_num, by omega, by omega, by rw [ByteArray.size_append, ByteArray.size_append]; omega, by omega, by omega, q6.drew9, b6.next ((Below.refl _ _).drew)⟩
        · go_upto_region 11 with fail
          go_region
          go_wp2_with fail
          go_roundg (gk - 1)
          case measure => omega
          case rel => exact ⟨_, m - 1, k6, rfl, by go_num, by omega, by omega, by rw [ByteArray.size_append, ByteArray.size_append]; omega, by omega, by omega, q6.drew9, b6.next ((Below.refl _ _).drew)⟩
        · go_upto_region 7 with fail
          go_region
          go_wp2_with fail
          go_roundg (gk - 1)
          case measure => omega
          case rel => exact ⟨_, m - 1, k6, rfl, by go_num, by omega, by omega, by rw [ByteArray.size_append]; omega, by omega, by omega, q6.drew9, b6.next ((Below.refl _ _).drew)⟩
end Go.Proofs.YtombnhnhbocceaaGreatDoor
/- The draws of the law on edits' texts. -/
set_option linter.unusedSimpArgs false
set_option linter.unusedVariables false
namespace Go.Proofs.YtombnhnhbocceaaGreatDoor
open Go.RowKit Go.Sort

def DrawnEL (w : World) (e : Ending) (w' : World) : Prop := ∃ (a : Value) (x : List Edt), e = .returned a ∧ OwnRow edtRec w' w.heap.size a x ∧ Below w.heap.size w w' ∧ x.length ≤ 31
def DrawnEI (w : World) (e : Ending) (w' : World) : Prop := ∃ (a : Value) (x : List Edt) (n : Int), e = .returned (.tuple #[a, .int .i64 n]) ∧ OwnRow edtRec w' w.heap.size a x ∧ Below w.heap.size w w' ∧ x.length ≤ 31
def DrawnTS (w : World) (e : Ending) (w' : World) : Prop := ∃ t : ByteArray, e = .returned (.string t) ∧ t.size ≤ 4000 ∧ Below w.heap.size w w'
def DrawnIE (w : World) (e : Ending) (w' : World) : Prop := ∃ x : Edt, e = .returned (.agg #[.int .i64 x.e, .int .i64 x.p, .int .i64 x.bx, .int .i64 x.bY, .int .i64 x.ax, .int .i64 x.aY]) ∧ Below w.heap.size w w'
theorem BoxE.apl9 {w w' : World} {b g : Nat} {a0 a1 a2 a3 a4 a5 : Int} (h : BoxE w b a0 a1 a2 a3 a4 a5) (ha : Apg g w w') (hb : b < g) : BoxE w' b a0 a1 a2 a3 a4 a5 := (ha.block b h.lt (.inl hb)).trans h
theorem of_any (g n : Nat) (v lv : Value) (code : List Nat) (L : List ByteArray) (w : World) (h : CurAt w g v code n) (hn : n ≤ 4611686018427380000) (hL : OwnRow strRec w (g + 1) lv L) (h0 : 1 ≤ L.length) (h1 : L.length ≤ 200) (m : Nat) (hs : ∀ i, i < L.length → (gx strRec L i).size ≤ m) :
    Calls Tryz.prog 50 #[.pointer (some ⟨g, 0, none⟩), lv] w fun e w' => ∃ (r : ByteArray) (n' : Nat), e = .returned (.string r) ∧ r.size ≤ m ∧ n ≤ n' ∧ n' ≤ n + 2 ∧ CurAt w' g v code n' ∧ Apg g w w' := by
  obtain ⟨gb, c, rfl, hgb⟩ := hL.lit (by omega)
  have P0 := Lib.hid (pick_ex g v code (L.length : Int) n w (by omega) (by omega) h)
  have Hs := Lib.hid hs
  clear hs
  go_enter Tryz.func50, Tryz.ntmps50
  go_wp2_with fail
  refine P0.out.mono ?_; rintro e w1 ⟨y, k, rfl, hy, hk, hj, q1, a1⟩
  have hy0 : y < L.length := by omega
  have o1 := hL.aptS a1 (Nat.le_refl _)
  have c1 := str_own o1 y hy0
  have hi0 : (0 : Int) ≤ (y : Int) := by omega
  have hi1 : (y : Int) < (L.length : Int) := by omega
  go_wp2_with fail
  go_ret
  exact ⟨_, k, rfl, Hs.out y hy0, hk, hj, q1, a1⟩

set_option maxRecDepth 100000 in
set_option maxHeartbeats 3200000 in
theorem drawSquashEdits_any (v : Value) (code : List Nat) (w : World) (h : BytesAt w v code) (hw : WfCode code) :
    Calls Tryz.prog 27 #[v] w (DrawnEL w) := by
  obtain ⟨A, c, rfl, hnc, hc63⟩ := Sl.shape h
  obtain ⟨g, hgg⟩ : ∃ g, g = w.heap.size := ⟨_, rfl⟩
  have q0 := CurAt.start h hw
  have hs0 := start_size w (.slice A code.length c)
  obtain ⟨w0, hw0⟩ : ∃ w0, w0 = curW w (.slice A code.length c) := ⟨_, rfl⟩
  have hfin : ∀ w', Apg g w0 w' → Below w.heap.size w w' := fun w' a => by rw [hgg, hw0] at a; exact Apart.start a
  have Hfin := Lib.hid hfin
  have HW0 := Lib.hid hw0
  rw [← hgg, ← hw0] at q0
  rw [← hw0, ← hgg] at hs0
  have HG := Lib.hid hgg
  clear hfin hgg hw0
  have hlo : w.heap.size ≤ w0.heap.size := by have := HG.out; omega
  have C1 := Lib.hid (chart_any g 0 _ code w0 q0 (by omega))
  rw [HW0.out, HG.out] at C1
  go_enter Tryz.func27, Tryz.ntmps27
  go_wp2_with fail
  refine C1.out.mono ?_; rw [← HG.out, ← HW0.out]; rintro e w1 ⟨u1, l, k1, rfl, o1, q1, a1, hl1, hl12, hk1, hj1⟩
  have hs1 := a1.size
  clear C1
  have C2 := Lib.hid (edits_any g k1 _ code u1 l w1 q1 (OwnRow.lo o1 (by omega)) (by omega) (by omega))
  go_wp2_with fail
  refine C2.out.mono ?_; rintro e w2 ⟨u2, es, k2, rfl, o2, q2, a2, he31, hk2, hj2⟩
  have aa2 := a1.trans a2
  have hs2 := aa2.size
  have hlo2 : g + 1 ≤ w1.heap.size := by omega
  have o2w := OwnRow.lo o2 hlo2
  have hgw : w.heap.size ≤ g + 1 := by have := HG.out; omega
  clear C2
  have bF := Lib.hid (Hfin.out _ aa2)
  go_wp2_with fail
  go_ret
  exact ⟨_, es, rfl, OwnRow.lo o2w hgw, bF.out, he31⟩
theorem drawEditsText_any (v : Value) (code : List Nat) (w : World) (h : BytesAt w v code) (hw : WfCode code) :
    Calls Tryz.prog 5 #[v] w (DrawnEL w) := by
  have C := Lib.hid (drawSquashEdits_any v code w h hw)
  go_enter Tryz.func5, Tryz.ntmps5
  go_wp2_with fail
  refine C.out.mono ?_; rintro e w1 ⟨a, x, rfl, ox, bx, hx⟩
  go_wp2_with fail
  go_ret
  exact ⟨_, x, rfl, ox, bx, hx⟩
set_option maxRecDepth 100000 in
set_option maxHeartbeats 3200000 in
theorem drawTouchedBy_any (v : Value) (code : List Nat) (w : World) (h : BytesAt w v code) (hw : WfCode code) :
    Calls Tryz.prog 18 #[v] w (DrawnEI w) := by
  obtain ⟨A, c, rfl, hnc, hc63⟩ := Sl.shape h
  obtain ⟨g, hgg⟩ : ∃ g, g = w.heap.size := ⟨_, rfl⟩
  have q0 := CurAt.start h hw
  have hs0 := start_size w (.slice A code.length c)
  obtain ⟨w0, hw0⟩ : ∃ w0, w0 = curW w (.slice A code.length c) := ⟨_, rfl⟩
  have hfin : ∀ w', Apg g w0 w' → Below w.heap.size w w' := fun w' a => by rw [hgg, hw0] at a; exact Apart.start a
  have Hfin := Lib.hid hfin
  have HW0 := Lib.hid hw0
  rw [← hgg, ← hw0] at q0
  rw [← hw0, ← hgg] at hs0
  have HG := Lib.hid hgg
  clear hfin hgg hw0
  have hlo : w.heap.size ≤ w0.heap.size := by have := HG.out; omega
  have C1 := Lib.hid (chart_any g 0 _ code w0 q0 (by omega))
  rw [HW0.out, HG.out] at C1
  go_enter Tryz.func18, Tryz.ntmps18
  go_wp2_with fail
  refine C1.out.mono ?_; rw [← HG.out, ← HW0.out]; rintro e w1 ⟨u1, l, k1, rfl, o1, q1, a1, hl1, hl12, hk1, hj1⟩
  have hs1 := a1.size
  clear C1
  have C2 := Lib.hid (edits_any g k1 _ code u1 l w1 q1 (OwnRow.lo o1 (by omega)) (by omega) (by omega))
  go_wp2_with fail
  refine C2.out.mono ?_; rintro e w2 ⟨u2, es, k2, rfl, o2, q2, a2, he31, hk2, hj2⟩
  have aa2 := a1.trans a2
  have hs2 := aa2.size
  have hlo2 : g + 1 ≤ w1.heap.size := by omega
  have o2w := OwnRow.lo o2 hlo2
  have hgw : w.heap.size ≤ g + 1 := by have := HG.out; omega
  clear C2
  have bA := (Below.refl w2.heap.size w2).alloc (Nat.le_refl _) (.cells #[.int .i64 0, .int .i64 10] 3)
  have C3 := Lib.hid (among_lit g k2 _ _ code [0, 10] (w2.alloc (.cells #[.int .i64 0, .int .i64 10] 3)) (q2.belowG bA q2.lt) (by omega) (lit2 w2 (g + 1) 0 10 (by have := q2.lt; omega)) (by simp) (by simp) (fun _ => True) (fun _ _ => trivial))
  go_wp2_with fail
  refine C3.out.mono ?_; rintro e w3 ⟨x3, k3, rfl, _, hk3, hj3, q3, a3⟩
  have aa3 : Apg g w0 w3 := (apg_al aa2 (.cells #[.int .i64 0, .int .i64 10] 3)).trans a3
  have o3 := (o2w.alS (.cells #[.int .i64 0, .int .i64 10] 3)).aptS a3 (Nat.le_refl _)
  clear C3 bA
  have bB := (Below.refl w3.heap.size w3).alloc (Nat.le_refl _) (.cells #[.int .i64 1, .int .i64 2, .int .i64 3, .int .i64 9, .int .i64 x3] 3)
  have C4 := Lib.hid (among_lit g k3 _ _ code [1, 2, 3, 9, x3] (w3.alloc (.cells #[.int .i64 1, .int .i64 2, .int .i64 3, .int .i64 9, .int .i64 x3] 3)) (q3.belowG bB q3.lt) (by omega) (lit5 w3 (g + 1) 1 2 3 9 x3 (by have := q3.lt; omega)) (by simp) (by simp) (fun _ => True) (fun _ _ => trivial))
  go_wp2_with fail
  refine C4.out.mono ?_; rintro e w4 ⟨x4, k4, rfl, _, hk4, hj4, q4, a4⟩
  have aa4 : Apg g w0 w4 := (apg_al aa3 (.cells #[.int .i64 1, .int .i64 2, .int .i64 3, .int .i64 9, .int .i64 x3] 3)).trans a4
  have o4 := (o3.alS (.cells #[.int .i64 1, .int .i64 2, .int .i64 3, .int .i64 9, .int .i64 x3] 3)).aptS a4 (Nat.le_refl _)
  have bF := Lib.hid (Hfin.out _ aa4)
  clear C4 bB
  go_wp2_with fail
  go_ret2
  exact ⟨_, es, x4, rfl, OwnRow.lo o4 hgw, bF.out, he31⟩
set_option maxRecDepth 100000 in
set_option maxHeartbeats 3200000 in
theorem drawLastTouch_any (v : Value) (code : List Nat) (w : World) (h : BytesAt w v code) (hw : WfCode code) :
    Calls Tryz.prog 20 #[v] w (DrawnEI w) := by
  obtain ⟨A, c, rfl, hnc, hc63⟩ := Sl.shape h
  obtain ⟨g, hgg⟩ : ∃ g, g = w.heap.size := ⟨_, rfl⟩
  have q0 := CurAt.start h hw
  have hs0 := start_size w (.slice A code.length c)
  obtain ⟨w0, hw0⟩ : ∃ w0, w0 = curW w (.slice A code.length c) := ⟨_, rfl⟩
  have hfin : ∀ w', Apg g w0 w' → Below w.heap.size w w' := fun w' a => by rw [hgg, hw0] at a; exact Apart.start a
  have Hfin := Lib.hid hfin
  have HW0 := Lib.hid hw0
  rw [← hgg, ← hw0] at q0
  rw [← hw0, ← hgg] at hs0
  have HG := Lib.hid hgg
  clear hfin hgg hw0
  have hlo : w.heap.size ≤ w0.heap.size := by have := HG.out; omega
  have C1 := Lib.hid (chart_any g 0 _ code w0 q0 (by omega))
  rw [HW0.out, HG.out] at C1
  go_enter Tryz.func20, Tryz.ntmps20
  go_wp2_with fail
  refine C1.out.mono ?_; rw [← HG.out, ← HW0.out]; rintro e w1 ⟨u1, l, k1, rfl, o1, q1, a1, hl1, hl12, hk1, hj1⟩
  have hs1 := a1.size
  clear C1
  have C2 := Lib.hid (edits_any g k1 _ code u1 l w1 q1 (OwnRow.lo o1 (by omega)) (by omega) (by omega))
  go_wp2_with fail
  refine C2.out.mono ?_; rintro e w2 ⟨u2, es, k2, rfl, o2, q2, a2, he31, hk2, hj2⟩
  have aa2 := a1.trans a2
  have hs2 := aa2.size
  have hlo2 : g + 1 ≤ w1.heap.size := by omega
  have o2w := OwnRow.lo o2 hlo2
  have hgw : w.heap.size ≤ g + 1 := by have := HG.out; omega
  clear C2
  have bA := (Below.refl w2.heap.size w2).alloc (Nat.le_refl _) (.cells #[.int .i64 12, .int .i64 (-1)] 3)
  have C3 := Lib.hid (among_lit g k2 _ _ code [12, (-1)] (w2.alloc (.cells #[.int .i64 12, .int .i64 (-1)] 3)) (q2.belowG bA q2.lt) (by omega) (lit2 w2 (g + 1) 12 (-1) (by have := q2.lt; omega)) (by simp) (by simp) (fun _ => True) (fun _ _ => trivial))
  go_wp2_with fail
  refine C3.out.mono ?_; rintro e w3 ⟨x3, k3, rfl, _, hk3, hj3, q3, a3⟩
  have aa3 : Apg g w0 w3 := (apg_al aa2 (.cells #[.int .i64 12, .int .i64 (-1)] 3)).trans a3
  have o3 := (o2w.alS (.cells #[.int .i64 12, .int .i64 (-1)] 3)).aptS a3 (Nat.le_refl _)
  clear C3 bA
  have bB := (Below.refl w3.heap.size w3).alloc (Nat.le_refl _) (.cells #[.int .i64 0, .int .i64 1, .int .i64 2, .int .i64 3, .int .i64 11, .int .i64 x3] 3)
  have C4 := Lib.hid (among_lit g k3 _ _ code [0, 1, 2, 3, 11, x3] (w3.alloc (.cells #[.int .i64 0, .int .i64 1, .int .i64 2, .int .i64 3, .int .i64 11, .int .i64 x3] 3)) (q3.belowG bB q3.lt) (by omega) (lit6 w3 (g + 1) 0 1 2 3 11 x3 (by have := q3.lt; omega)) (by simp) (by simp) (fun _ => True) (fun _ _ => trivial))
  go_wp2_with fail
  refine C4.out.mono ?_; rintro e w4 ⟨x4, k4, rfl, _, hk4, hj4, q4, a4⟩
  have aa4 : Apg g w0 w4 := (apg_al aa3 (.cells #[.int .i64 0, .int .i64 1, .int .i64 2, .int .i64 3, .int .i64 11, .int .i64 x3] 3)).trans a4
  have o4 := (o3.alS (.cells #[.int .i64 0, .int .i64 1, .int .i64 2, .int .i64 3, .int .i64 11, .int .i64 x3] 3)).aptS a4 (Nat.le_refl _)
  have bF := Lib.hid (Hfin.out _ aa4)
  clear C4 bB
  go_wp2_with fail
  go_ret2
  exact ⟨_, es, x4, rfl, OwnRow.lo o4 hgw, bF.out, he31⟩
set_option maxRecDepth 100000 in
set_option maxHeartbeats 3200000 in
theorem drawParseEdits_any (v : Value) (code : List Nat) (w : World) (h : BytesAt w v code) (hw : WfCode code) :
    Calls Tryz.prog 21 #[v] w (DrawnTS w) := by
  obtain ⟨A, c, rfl, hnc, hc63⟩ := Sl.shape h
  obtain ⟨g, hgg⟩ : ∃ g, g = w.heap.size := ⟨_, rfl⟩
  have q0 := CurAt.start h hw
  have hs0 := start_size w (.slice A code.length c)
  obtain ⟨w0, hw0⟩ : ∃ w0, w0 = curW w (.slice A code.length c) := ⟨_, rfl⟩
  have hfin : ∀ w', Apg g w0 w' → Below w.heap.size w w' := fun w' a => by rw [hgg, hw0] at a; exact Apart.start a
  have Hfin := Lib.hid hfin
  have HW0 := Lib.hid hw0
  rw [← hgg, ← hw0] at q0
  rw [← hw0, ← hgg] at hs0
  have HG := Lib.hid hgg
  clear hfin hgg hw0
  have hlo : w.heap.size ≤ w0.heap.size := by have := HG.out; omega
  have C1 := Lib.hid (chart_any g 0 _ code w0 q0 (by omega))
  rw [HW0.out, HG.out] at C1
  go_enter Tryz.func21, Tryz.ntmps21
  go_wp2_with fail
  refine C1.out.mono ?_; rw [← HG.out, ← HW0.out]; rintro e w1 ⟨u1, l, k1, rfl, o1, q1, a1, hl1, hl12, hk1, hj1⟩
  have hs1 := a1.size
  clear C1
  have C2 := Lib.hid (edits_any g k1 _ code u1 l w1 q1 (OwnRow.lo o1 (by omega)) (by omega) (by omega))
  go_wp2_with fail
  refine C2.out.mono ?_; rintro e w2 ⟨u2, es, k2, rfl, o2, q2, a2, he31, hk2, hj2⟩
  have aa2 := a1.trans a2
  have hs2 := aa2.size
  have hlo2 : g + 1 ≤ w1.heap.size := by omega
  have o2w := OwnRow.lo o2 hlo2
  have hgw : w.heap.size ≤ g + 1 := by have := HG.out; omega
  clear C2
  have C3 := Lib.hid (edAll_any u2 es w2 o2w.reads)
  go_wp2_with fail
  refine C3.out.mono ?_; rintro e w3 ⟨rfl, b3⟩
  have o3 := OwnRow.below o2w b3 (Nat.le_refl _)
  have q3 := q2.belowG b3 q2.lt
  have aa3 := aa2.next b3
  clear C3
  cases hv : areEdts es
  case false =>
    have bA := (Below.refl w3.heap.size w3).alloc (Nat.le_refl _) (.cells #[.string ⟨#[]⟩, .string ⟨#[49, 32, 48, 32, 48, 44, 48, 32, 49, 44, 48]⟩, .string ⟨#[49, 32, 48, 32, 48, 44, 48, 32, 48, 44, 48, 10]⟩, .string ⟨#[48, 32, 48, 32, 48, 44, 48, 32, 49, 44, 48, 10]⟩, .string ⟨#[49, 32, 49, 50, 32, 48, 44, 48, 32, 49, 44, 48, 10]⟩, .string ⟨#[48, 49, 32, 48, 32, 48, 44, 48, 32, 49, 44, 48, 10]⟩, .string ⟨#[49, 32, 48, 32, 48, 44, 48, 10]⟩] 9)
    have hRow : OwnRow strRec (w3.alloc (.cells #[.string ⟨#[]⟩, .string ⟨#[49, 32, 48, 32, 48, 44, 48, 32, 49, 44, 48]⟩, .string ⟨#[49, 32, 48, 32, 48, 44, 48, 32, 48, 44, 48, 10]⟩, .string ⟨#[48, 32, 48, 32, 48, 44, 48, 32, 49, 44, 48, 10]⟩, .string ⟨#[49, 32, 49, 50, 32, 48, 44, 48, 32, 49, 44, 48, 10]⟩, .string ⟨#[48, 49, 32, 48, 32, 48, 44, 48, 32, 49, 44, 48, 10]⟩, .string ⟨#[49, 32, 48, 32, 48, 44, 48, 10]⟩] 9)) (g + 1) (.slice (some ⟨w3.heap.size, 0, none⟩) 7 7) ([⟨#[]⟩, ⟨#[49, 32, 48, 32, 48, 44, 48, 32, 49, 44, 48]⟩, ⟨#[49, 32, 48, 32, 48, 44, 48, 32, 48, 44, 48, 10]⟩, ⟨#[48, 32, 48, 32, 48, 44, 48, 32, 49, 44, 48, 10]⟩, ⟨#[49, 32, 49, 50, 32, 48, 44, 48, 32, 49, 44, 48, 10]⟩, ⟨#[48, 49, 32, 48, 32, 48, 44, 48, 32, 49, 44, 48, 10]⟩, ⟨#[49, 32, 48, 32, 48, 44, 48, 10]⟩] : List ByteArray) := World.ownsRow_lit w3 _ 7 (by have := q3.lt; omega) (by simp [maxLen]) rfl
    have hs7 : ∀ i, i < ([⟨#[]⟩, ⟨#[49, 32, 48, 32, 48, 44, 48, 32, 49, 44, 48]⟩, ⟨#[49, 32, 48, 32, 48, 44, 48, 32, 48, 44, 48, 10]⟩, ⟨#[48, 32, 48, 32, 48, 44, 48, 32, 49, 44, 48, 10]⟩, ⟨#[49, 32, 49, 50, 32, 48, 44, 48, 32, 49, 44, 48, 10]⟩, ⟨#[48, 49, 32, 48, 32, 48, 44, 48, 32, 49, 44, 48, 10]⟩, ⟨#[49, 32, 48, 32, 48, 44, 48, 10]⟩] : List ByteArray).length → (gx strRec ([⟨#[]⟩, ⟨#[49, 32, 48, 32, 48, 44, 48, 32, 49, 44, 48]⟩, ⟨#[49, 32, 48, 32, 48, 44, 48, 32, 48, 44, 48, 10]⟩, ⟨#[48, 32, 48, 32, 48, 44, 48, 32, 49, 44, 48, 10]⟩, ⟨#[49, 32, 49, 50, 32, 48, 44, 48, 32, 49, 44, 48, 10]⟩, ⟨#[48, 49, 32, 48, 32, 48, 44, 48, 32, 49, 44, 48, 10]⟩, ⟨#[49, 32, 48, 32, 48, 44, 48, 10]⟩] : List ByteArray) i).size ≤ 20 := by
      intro i hi
      match i, hi with
      | 0, _ => decide
      | 1, _ => decide
      | 2, _ => decide
      | 3, _ => decide
      | 4, _ => decide
      | 5, _ => decide
      | 6, _ => decide
    have C4 := Lib.hid (of_any g k2 _ _ code _ (w3.alloc (.cells #[.string ⟨#[]⟩, .string ⟨#[49, 32, 48, 32, 48, 44, 48, 32, 49, 44, 48]⟩, .string ⟨#[49, 32, 48, 32, 48, 44, 48, 32, 48, 44, 48, 10]⟩, .string ⟨#[48, 32, 48, 32, 48, 44, 48, 32, 49, 44, 48, 10]⟩, .string ⟨#[49, 32, 49, 50, 32, 48, 44, 48, 32, 49, 44, 48, 10]⟩, .string ⟨#[48, 49, 32, 48, 32, 48, 44, 48, 32, 49, 44, 48, 10]⟩, .string ⟨#[49, 32, 48, 32, 48, 44, 48, 10]⟩] 9)) (q3.belowG bA q3.lt) (by omega) hRow (by decide) (by decide) 20 hs7)
    clear hs7 hRow
    go_wp2_with fail
    refine C4.out.mono ?_; rintro e w4 ⟨r, k4, rfl, hr, _, _, q4, a4⟩
    have bF := Lib.hid (Hfin.out _ ((apg_al aa3 (.cells #[.string ⟨#[]⟩, .string ⟨#[49, 32, 48, 32, 48, 44, 48, 32, 49, 44, 48]⟩, .string ⟨#[49, 32, 48, 32, 48, 44, 48, 32, 48, 44, 48, 10]⟩, .string ⟨#[48, 32, 48, 32, 48, 44, 48, 32, 49, 44, 48, 10]⟩, .string ⟨#[49, 32, 49, 50, 32, 48, 44, 48, 32, 49, 44, 48, 10]⟩, .string ⟨#[48, 49, 32, 48, 32, 48, 44, 48, 32, 49, 44, 48, 10]⟩, .string ⟨#[49, 32, 48, 32, 48, 44, 48, 10]⟩] 9)).trans a4))
    go_wp2_with fail
    go_ret
    exact ⟨_, rfl, by omega, bF.out⟩
  case true =>
    have hsz := eText_size hv es.length (Nat.le_refl _)
    rw [List.take_length] at hsz
    have C4 := Lib.hid (edText_any u2 es w3 o3.reads hv)
    obtain ⟨t, ht⟩ : ∃ t, t = eText es := ⟨_, rfl⟩
    rw [← ht] at C4 hsz
    clear ht hv
    go_wp2_with fail
    refine C4.out.mono ?_; rintro e w4 ⟨rfl, b4⟩
    have q4 := q3.belowG b4 q3.lt
    have aa4 := aa3.next b4
    clear C4
    have C5 := Lib.hid (one_ex g _ code 3 k2 w4 (by omega) q4)
    go_wp2_with fail
    refine C5.out.mono ?_; rintro e w5 ⟨t5, k5, rfl, hk5, hj5, q5, a5⟩
    have aa5 := aa4.trans a5
    clear C5
    cases t5
    case true =>
      have C6 := Lib.hid (spoilt_any g k5 _ code t ⟨#[48, 49, 56, 43, 44, 32, 10]⟩ w5 q5 (by omega) (by omega) (by decide) (by decide))
      go_wp2_with fail
      refine C6.out.mono ?_; rintro e w6 ⟨r, k6, rfl, hr, _, _, q6, a6⟩
      have bF := Lib.hid (Hfin.out _ (aa5.trans a6))
      go_wp2_with fail
      go_ret
      exact ⟨_, rfl, by omega, bF.out⟩
    case false =>
      have bF := Lib.hid (Hfin.out _ aa5)
      go_wp2_with fail
      go_ret
      exact ⟨_, rfl, by omega, bF.out⟩
set_option maxRecDepth 100000 in
set_option maxHeartbeats 3200000 in
theorem drawIsEdit_any (v : Value) (code : List Nat) (w : World) (h : BytesAt w v code) (hw : WfCode code) :
    Calls Tryz.prog 23 #[v] w (DrawnIE w) := by
  obtain ⟨A, c, rfl, hnc, hc63⟩ := Sl.shape h
  have z0 := BoxE.new w 0 0 0 0 0 0
  have bw := (Below.refl w.heap.size w).alloc (Nat.le_refl _) (.cells #[.int .i64 0, .int .i64 0, .int .i64 0, .int .i64 0, .int .i64 0, .int .i64 0] 39)
  have hszv : (w.alloc (.cells #[.int .i64 0, .int .i64 0, .int .i64 0, .int .i64 0, .int .i64 0, .int .i64 0] 39)).heap.size = w.heap.size + 1 := by simp
  obtain ⟨wv, hwv⟩ : ∃ wv, wv = w.alloc (.cells #[.int .i64 0, .int .i64 0, .int .i64 0, .int .i64 0, .int .i64 0, .int .i64 0] 39) := ⟨_, rfl⟩
  rw [← hwv] at z0 bw hszv
  have HWV := Lib.hid hwv
  clear hwv
  have hv : BytesAt wv (.slice A code.length c) code := h.below bw (Nat.le_refl _)
  obtain ⟨g, hgg⟩ : ∃ g, g = wv.heap.size := ⟨_, rfl⟩
  obtain ⟨B, hBB⟩ : ∃ B, B = w.heap.size := ⟨_, rfl⟩
  have q0 := CurAt.start hv hw
  have hs0 := start_size wv (.slice A code.length c)
  have z1 := z0.al (.cells #[.slice A code.length c, .int .i64 0, .int .u64 0] 75)
  obtain ⟨w0, hw0⟩ : ∃ w0, w0 = curW wv (.slice A code.length c) := ⟨_, rfl⟩
  have hfin : ∀ w', Apg g w0 w' → Below w.heap.size w w' := fun w' a => by rw [hgg, hw0] at a; exact bw.next (Nat.le_refl _) (Apart.start a)
  have Hfin := Lib.hid hfin
  have HW9 : Hid (w0 = wv.alloc (.cells #[.slice A code.length c, .int .i64 0, .int .u64 0] 75)) := hw0
  have hw9 := HW9.out
  rw [← hgg, ← hw0] at q0
  rw [← hw0, ← hgg] at hs0
  rw [← hw9] at z1
  rw [← hgg] at hszv
  rw [← hBB] at z1 hszv
  have HG := Lib.hid hgg
  have HB := Lib.hid hBB
  have hwB : w.heap.size ≤ B := by omega
  clear hfin hgg hw0 hw9 hBB z0 hv bw h
  have hBg : B < g := by omega
  have HS9 := Lib.hid hszv
  clear hszv
  have C1 := Lib.hid (chart_any g 0 _ code w0 q0 (by omega))
  go_enter Tryz.func23, Tryz.ntmps23
  go_upto_region 1 with fail
  rw [← HWV.out]
  go_upto_region 2 with fail
  rw [← HW9.out, ← HG.out]
  go_wp2_with fail
  refine C1.out.mono ?_; rintro e w1 ⟨u1, l, k1, rfl, o1, q1, a1, hl1, hl12, hk1, hj1⟩
  have hs1 := a1.size
  have C2 := Lib.hid (editOf_any g k1 _ code u1 l w1 q1 (OwnRow.lo o1 (by omega)) (by omega) (by omega))
  have z2 := z1.apl9 a1 hBg
  clear C1 z1 q0
  go_wp2_with fail
  refine C2.out.mono ?_; rintro e w2 ⟨a0', a1', a2', a3', a4', a5', k2, rfl, q2, a2, _⟩
  have aa2 := a1.trans a2
  have z3 := z2.apl9 a2 hBg
  obtain ⟨c0, c1, c2, c3, c4, c5, f0, f1, f2, f3, f4, f5⟩ := z3.cells
  have zf := Lib.hid (z3.set a0' a1' a2' a3' a4' a5')
  have bf := Lib.hid (below_set6 (Hfin.out _ aa2) hwB a0' a1' a2' a3' a4' a5')
  clear z3 z2 o1 q1 q2 a1 a2 aa2 C2
  rw [← HB.out]
  go_wp2_with fail
  obtain ⟨r0, r1, r2, r3, r4, r5, _, _, _, _, _, _⟩ := zf.out.cells
  exact bodyPost_ret (v := .agg #[.int .i64 a0', .int .i64 a1', .int .i64 a2', .int .i64 a3', .int .i64 a4', .int .i64 a5']) (by simp [results, Tryz.results23, go_sem, r0, r1, r2, r3, r4, r5]) rfl ⟨⟨a0', a1', a2', a3', a4', a5'⟩, rfl, bf.out⟩
end Go.Proofs.YtombnhnhbocceaaGreatDoor
