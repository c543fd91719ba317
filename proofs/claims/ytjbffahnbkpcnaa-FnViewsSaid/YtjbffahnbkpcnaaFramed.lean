/- The draw of a frame and a chart. -/
import Derived.Test.YtjbffahnbkpcnaaFrWin
import Derived.Test.YtjbffahnbkpcnaaDrawCa
import Derived.Deep.LoopGhost
import Derived.Deep.RegionHeld3
import Derived.Deep.DeepCutAuto
set_option linter.unusedSimpArgs false
set_option linter.unusedVariables false
namespace Go.Proofs.Ytjbffahnbkpcnaa
open Go.RowKit Go.Sort

/-- A frame in a box of its own. -/
def BoxFr (w : World) (b : Nat) (x y c r : Int) : Prop := w.heap[b]? = some (.cells #[.int .i64 x, .int .i64 y, .int .i64 c, .int .i64 r] 27 (0, 0))
theorem BoxFr.new (w : World) (x y c r : Int) : BoxFr (w.alloc (.cells #[.int .i64 x, .int .i64 y, .int .i64 c, .int .i64 r] 27)) w.heap.size x y c r := by
  show (w.heap.push _)[w.heap.size]? = _
  rw [Array.getElem?_push_size]
theorem BoxFr.lt {w : World} {b : Nat} {x y c r : Int} (h : BoxFr w b x y c r) : b < w.heap.size := (Array.getElem?_eq_some_iff.1 h).1
theorem BoxFr.al {w : World} {b : Nat} {x y c r : Int} (h : BoxFr w b x y c r) (o : Obj) : BoxFr (w.alloc o) b x y c r := (heap_alloc_old' w o h.lt).trans h
theorem BoxFr.apt {w w' : World} {b g : Nat} {x y c r : Int} (h : BoxFr w b x y c r) (ha : Apg g w w') (hb : g < b) : BoxFr w' b x y c r := (ha.block b h.lt (.inr hb)).trans h
theorem BoxFr.keep {w w' : World} {b B : Nat} {x y c r : Int} (h : BoxFr w b x y c r) (hb : Below B w w') (hB : b < B) : BoxFr w' b x y c r := (hb.block b hB).trans h
theorem BoxFr.cells {w : World} {b : Nat} {x y c r : Int} (h : BoxFr w b x y c r) : w.cell? ⟨b, 0, none⟩ = some (.int .i64 x) ∧ w.cell? ⟨b, 1, none⟩ = some (.int .i64 y) ∧ w.cell? ⟨b, 2, none⟩ = some (.int .i64 c) ∧ w.cell? ⟨b, 3, none⟩ = some (.int .i64 r) ∧
    w.frozen? ⟨b, 0, none⟩ = false ∧ w.frozen? ⟨b, 1, none⟩ = false ∧ w.frozen? ⟨b, 2, none⟩ = false ∧ w.frozen? ⟨b, 3, none⟩ = false :=
  ⟨by rw [cell_of_row w b 0 _ _ _ h]; rfl, by rw [cell_of_row w b 1 _ _ _ h]; rfl, by rw [cell_of_row w b 2 _ _ _ h]; rfl, by rw [cell_of_row w b 3 _ _ _ h]; rfl, frozen_of_row w b 0 _ _ h, frozen_of_row w b 1 _ _ h, frozen_of_row w b 2 _ _ h, frozen_of_row w b 3 _ _ h⟩
theorem BoxFr.set0 {w : World} {b : Nat} {x y c r : Int} (h : BoxFr w b x y c r) (z : Int) : BoxFr (w.setCell ⟨b, 0, none⟩ (.int .i64 z)) b z y c r := heap_setCell_same w b 0 _ _ _ h
theorem BoxFr.set1 {w : World} {b : Nat} {x y c r : Int} (h : BoxFr w b x y c r) (z : Int) : BoxFr (w.setCell ⟨b, 1, none⟩ (.int .i64 z)) b x z c r := heap_setCell_same w b 1 _ _ _ h
theorem BoxFr.set2 {w : World} {b : Nat} {x y c r : Int} (h : BoxFr w b x y c r) (z : Int) : BoxFr (w.setCell ⟨b, 2, none⟩ (.int .i64 z)) b x y z r := heap_setCell_same w b 2 _ _ _ h
theorem BoxFr.set3 {w : World} {b : Nat} {x y c r : Int} (h : BoxFr w b x y c r) (z : Int) : BoxFr (w.setCell ⟨b, 3, none⟩ (.int .i64 z)) b x y c z := heap_setCell_same w b 3 _ _ _ h
theorem BoxFr.off {w : World} {b : Nat} {x y c r : Int} (h : BoxFr w b x y c r) {p : Addr} (hp : p.block ≠ b) (u : Value) : BoxFr (w.setCell p u) b x y c r := (heap_setCell_other w p b u (fun e => hp e.symm)).trans h
def DrawnF (w : World) (g : Nat) (v : Value) (code : List Nat) (Q : Int → Int → Int → Int → List Spt → Nat → Prop) (e : Ending) (w' : World) : Prop :=
  ∃ (x y c r : Int) (u : Value) (l : List Spt) (n : Nat), e = .returned (.tuple #[.agg #[.int .i64 x, .int .i64 y, .int .i64 c, .int .i64 r], u]) ∧ OwnRow sptRec w' w.heap.size u l ∧ CurAt w' g v code n ∧ Apg g w w' ∧ Q x y c r l n
theorem apg_set {g B : Nat} {w w' : World} (h : Apg g w w') (hB : w.heap.size ≤ B) (o : Nat) (x : Value) : Apg g w (w'.setCell ⟨B, o, none⟩ x) := h.trans2 ((Below.refl w.heap.size w').setCell (p := ⟨B, o, none⟩) hB x) (Nat.le_refl _)
theorem CurAt.dr {w : World} {g n : Nat} {v : Value} {code : List Nat} (h : CurAt w g v code n) : CurAt w.drew g v code n := h.belowG ((Below.refl _ w).drew) h.lt
theorem OwnRow.setL9 {α : Type} {R : Rec α} {w : World} {lo b : Nat} {v : Value} {l : List α} (h : OwnRow R w lo v l) (hb : b < lo) (o : Nat) (x : Value) : OwnRow R (w.setCell ⟨b, o, none⟩ x) lo v l := by
  have hg := grown_set9 w b o x
  refine World.ownsRow.kept h hg ?_
  right
  intro e
  have := (World.ownsRow.lt h b e).1
  omega
theorem boxk9 {g : Nat} {W w' : World} (hg : g < W.heap.size) (d : Apg g ((W.alloc (.cells #[.int .i64 0, .int .i64 0] 25)).drew) w') : BoxS w' W.heap.size 0 0 :=
  BoxS.apt (w := (W.alloc (.cells #[.int .i64 0, .int .i64 0] 25)).drew) (BoxS.new W 0 0) d hg
theorem boxk8 {g : Nat} {W w' : World} (hg : g < W.heap.size) (d : Apg g (W.alloc (.cells #[.int .i64 0, .int .i64 0] 25)) w') : BoxS w' W.heap.size 0 0 := (BoxS.new W 0 0).apt d hg
set_option maxRecDepth 100000 in
set_option maxHeartbeats 12800000 in
theorem framed_any (g n : Nat) (v : Value) (code : List Nat) (w : World) (h : CurAt w g v code n) (hn : n ≤ 4600000000000000000) (hcl : code.length ≤ 1099511627776) :
    Calls Try.prog 39 #[.pointer (some ⟨g, 0, none⟩)] w
      (DrawnF w g v code fun x y c r l n' => l.length ≤ 13 ∧ n ≤ n' ∧ n' ≤ n + 300000000000000) := by
  have hg := h.lt
  have z0 := BoxFr.new w 0 0 0 0
  have a0 : Apg g w (w.alloc (.cells #[.int .i64 0, .int .i64 0, .int .i64 0, .int .i64 0] 27)) := apg_al (Apart.refl _ _ _) _
  have q0 := h.belowG ((Below.refl _ w).alloc (Nat.le_refl _) (.cells #[.int .i64 0, .int .i64 0, .int .i64 0, .int .i64 0] 27)) hg
  obtain ⟨w0, hw0⟩ : ∃ w0, w0 = w.alloc (.cells #[.int .i64 0, .int .i64 0, .int .i64 0, .int .i64 0] 27) := ⟨_, rfl⟩
  obtain ⟨B, hB⟩ : ∃ B, B = w.heap.size := ⟨_, rfl⟩
  have hs0 : w0.heap.size = B + 1 := by rw [hw0, hB]; simp
  rw [← hw0] at z0 a0 q0
  rw [← hB] at z0
  have HW := Lib.hid hw0
  have HB := Lib.hid hB
  have hgB : g < B := by omega
  clear hw0 hB
  have C1 := Lib.hid (pick_ex g v code 100 n w0 (by omega) (by omega) q0)
  go_enter Try.func39, Try.ntmps39
  go_upto_region 1 with fail
  rw [← HW.out, ← HB.out]
  go_wp2_with fail
  refine C1.out.mono ?_; rintro e w1 ⟨y1, k1, rfl, hy1, hk1, hj1, q1, a1⟩
  have C2 := Lib.hid (pick_ex g v code 60 k1 w1 (by omega) (by omega) q1)
  go_wp2_with fail
  refine C2.out.mono ?_; rintro e w2 ⟨y2, k2, rfl, hy2, hk2, hj2, q2, a2⟩
  have C3 := Lib.hid (pick_ex g v code 6 k2 w2 (by omega) (by omega) q2)
  go_wp2_with fail
  refine C3.out.mono ?_; rintro e w3 ⟨y3, k3, rfl, hy3, hk3, hj3, q3, a3⟩
  have C4 := Lib.hid (pick_ex g v code 4 k3 w3 (by omega) (by omega) q3)
  go_wp2_with fail
  refine C4.out.mono ?_; rintro e w4 ⟨y4, k4, rfl, hy4, hk4, hj4, q4, a4⟩
  have z4 := (((z0.apt a1 hgB).apt a2 hgB).apt a3 hgB).apt a4 hgB
  have a44 := (((a0.trans a1).trans a2).trans a3).trans a4
  have hs4 : w0.heap.size ≤ w4.heap.size := (((a1.trans a2).trans a3).trans a4).size
  have hg4 := q4.lt
  clear C1 C2 C3 C4 z0 a0 q0 a1 a2 a3 a4 q1 q2 q3
  have f5 := BoxFr.new w4 (8 * (y1 : Int)) (8 * (y2 : Int)) (1 + (y3 : Int)) (1 + (y4 : Int))
  have z5 := z4.al (.cells #[.int .i64 (8 * (y1 : Int)), .int .i64 (8 * (y2 : Int)), .int .i64 (1 + (y3 : Int)), .int .i64 (1 + (y4 : Int))] 27)
  have a5 := apg_al a44 (.cells #[.int .i64 (8 * (y1 : Int)), .int .i64 (8 * (y2 : Int)), .int .i64 (1 + (y3 : Int)), .int .i64 (1 + (y4 : Int))] 27)
  have q5 := q4.belowG ((Below.refl _ w4).alloc (Nat.le_refl _) (.cells #[.int .i64 (8 * (y1 : Int)), .int .i64 (8 * (y2 : Int)), .int .i64 (1 + (y3 : Int)), .int .i64 (1 + (y4 : Int))] 27)) hg4
  obtain ⟨w5, hw5⟩ : ∃ W, W = w4.alloc (.cells #[.int .i64 (8 * (y1 : Int)), .int .i64 (8 * (y2 : Int)), .int .i64 (1 + (y3 : Int)), .int .i64 (1 + (y4 : Int))] 27) := ⟨_, rfl⟩
  obtain ⟨F, hF⟩ : ∃ F, F = w4.heap.size := ⟨_, rfl⟩
  have hs5 : w5.heap.size = F + 1 := by rw [hw5, hF]; simp
  have hFB : B < F := by omega
  rw [← hw5] at f5 z5 a5 q5
  rw [← hF] at f5
  have HW5 := Lib.hid hw5
  have HF := Lib.hid hF
  clear hw5 hF z4 a44 q4 hs4 hg4
  have C5 := Lib.hid (one_ex g v code 16 k4 w5 (by omega) q5)
  go_upto_region 2 with fail
  rw [← HW5.out, ← HF.out]
  go_wp2_with fail
  refine C5.out.mono ?_; rintro e w6 ⟨t6, k6, rfl, hk6, hj6, q6, a6⟩
  have f6 := f5.apt a6 (by omega)
  have z6 := z5.apt a6 hgB
  have a66 := a5.trans a6
  have hs6 := a6.size
  have hwB : w.heap.size ≤ F := by have := HB.out; omega
  clear C5 f5 z5 a5 q5 a6
  go_upto_if 23 with fail
  go_cut [] (fun wx => ∃ C R : Nat, dim C R ∧ BoxFr wx F (8 * (y1 : Int)) (8 * (y2 : Int)) C R ∧ BoxFr wx B 0 0 0 0 ∧ CurAt wx g v code k6 ∧ Apg g w wx)
  case first =>
    cases t6
    case false =>
      go_wp2_with fail
      go_meet
      exact ⟨1 + y3, 1 + y4, .inl ⟨by omega, by omega, by omega, by omega⟩, f6, z6, q6, a66⟩
    case true =>
      obtain ⟨c0, c1, c2, c3, d0, d1, d2, d3⟩ := f6.cells
      have f7 := Lib.hid ((f6.set2 60).set3 30)
      have z7 := Lib.hid ((z6.off (p := ⟨F, 2, none⟩) (by show F ≠ B; omega) (.int .i64 60)).off (p := ⟨F, 3, none⟩) (by show F ≠ B; omega) (.int .i64 30))
      have a7 := Lib.hid (apg_set (apg_set a66 hwB 2 (.int .i64 60)) hwB 3 (.int .i64 30))
      have bq := (((Below.refl F w6).setCell (p := ⟨F, 2, none⟩) (Nat.le_refl _) (.int .i64 60)).setCell (p := ⟨F, 3, none⟩) (Nat.le_refl _) (.int .i64 30))
      have q7 := Lib.hid (q6.belowG bq (by omega))
      clear bq
      go_wp2_with fail
      go_meet
      exact ⟨60, 30, .inr ⟨rfl, rfl⟩, f7.out, z7.out, q7.out, a7.out⟩
  case rest =>
    obtain ⟨C, R, hd, f8, z8, q8, a8⟩ := hcut
    clear f6 z6 q6 a66
    obtain ⟨w8, hw8⟩ : ∃ w9 : World, w9 = wc := ⟨_, rfl⟩
    subst hw8
    have hs8 : F < w8.heap.size := f8.lt
    have hga := a8.size
    have C9 := Lib.hid (pick_ex g v code 6 k6 w8 (by omega) (by omega) q8)
    go_wp2_with fail
    refine C9.out.mono ?_; rintro e w9 ⟨y9, k9, rfl, hy9, hk9, hj9, q9, a9⟩
    have f9 := f8.apt a9 (by omega)
    have z9 := z8.apt a9 hgB
    have a99 := a8.trans a9
    have hs9 := f9.lt
    obtain ⟨z, hz1, hz2, hW⟩ := winEq code k9
    have HWn := Lib.hid hW
    have HD := Lib.hid hd
    clear C9 f8 z8 q8 a8 a9 hW hd
    obtain ⟨X, hX⟩ : ∃ X : Int, X = 8 * (y1 : Int) := ⟨_, rfl⟩
    obtain ⟨Y, hY⟩ : ∃ Y : Int, Y = 8 * (y2 : Int) := ⟨_, rfl⟩
    have hX2 : 0 ≤ X ∧ X ≤ 800 := by omega
    have hY2 : 0 ≤ Y ∧ Y ≤ 480 := by omega
    rw [← hX, ← hY] at f9
    have HX := Lib.hid hX
    have HY := Lib.hid hY
    clear hX hY
    go_wp2_with fail
    go_loopg [5] (z - k9 + 8) (fun gk t wr => ∃ (l : List Spt) (k : Nat), l.length ≤ 6 ∧ k9 ≤ k ∧ k ≤ z + 70 ∧ OwnRow sptRec wr w9.heap.size t l ∧ CurAt wr g v code k ∧ Apg g w9 wr ∧ BoxFr wr F X Y C R ∧ BoxFr wr B 0 0 0 0 ∧ Hid (FrIn code X Y C R z k l gk))
    case atStart => exact ⟨[], k9, by simp, Nat.le_refl _, by omega, OwnRow.nil_ sptRec _ _, q9, Apart.refl _ _ _, f9, z9, Lib.hid (Or.inl ⟨hz1, by omega⟩)⟩
    case round =>
      obtain ⟨l, k, hl, hk1, hk2, ho, qr, ar, fr, zr, hin⟩ := hrel
      clear f9 z9 q9
      obtain ⟨A, c, rfl, hnc, hc63⟩ := ho.reads.shape
      have hsr := ar.size
      have hgr := qr.lt
      by_cases hlt : l.length < 1 + y9
      · have hl6 : l.length < 6 := by omega
        have hCR : 1 ≤ C ∧ C ≤ 60 ∧ 1 ≤ R ∧ R ≤ 30 := by rcases HD.out with h9 | h9 <;> omega
        have e1 : (8 : Int) * (C : Int) + 4 = ((8 * C + 4 : Nat) : Int) := by omega
        have e2 : (8 : Int) * (R : Int) + 4 = ((8 * R + 4 : Nat) : Int) := by omega
        have v1 : IntKind.i64.wrap (8 * (C : Int)) = 8 * (C : Int) := IntWalk.i64_in _ (by omega)
        have v2 : IntKind.i64.wrap (8 * (C : Int) + 4) = 8 * (C : Int) + 4 := IntWalk.i64_in _ (by omega)
        have v3 : IntKind.i64.wrap (8 * (R : Int)) = 8 * (R : Int) := IntWalk.i64_in _ (by omega)
        have v4 : IntKind.i64.wrap (8 * (R : Int) + 4) = 8 * (R : Int) + 4 := IntWalk.i64_in _ (by omega)
        have P1 := Lib.hid (fun W (q : CurAt W g v code k) => pick_any g k v code (8 * (C : Int) + 4) W q (by omega))
        have P2 := Lib.hid (fun W (q : CurAt W g v code (k + pk (8 * C + 4))) => pick_any g (k + pk (8 * C + 4)) v code (8 * (R : Int) + 4) W q (by have := (pk_le (8 * C + 4)).2; omega))
        rw [e1, pkK_pk _ (by omega)] at P1
        rw [e2, pkK_pk _ (by omega)] at P2
        rw [← e1] at P1
        rw [← e2] at P2
        obtain ⟨p1, hp1⟩ : ∃ p, p = pkV code k (8 * (C : Int) + 4) := ⟨_, rfl⟩
        obtain ⟨p2, hp2⟩ : ∃ p, p = pkV code (k + pk (8 * C + 4)) (8 * (R : Int) + 4) := ⟨_, rfl⟩
        have hb1 := pkV_bd code k (8 * (C : Int) + 4) (by omega)
        have hb2 := pkV_bd code (k + pk (8 * C + 4)) (8 * (R : Int) + 4) (by omega)
        rw [← hp1] at P1 hb1
        rw [← hp2] at P2 hb2
        have hsp : Hid (spAt code X Y C R k = ⟨X + p1, Y + p2⟩) := by show _ = _; rw [hp1, hp2, e1, e2]; rfl
        clear hp1 hp2 e1 e2
        have v5 : IntKind.i64.wrap (X + p1) = X + p1 := IntWalk.i64_in _ (by omega)
        have v6 : IntKind.i64.wrap (Y + p2) = Y + p2 := IntWalk.i64_in _ (by omega)
        go_upto_region 8 with fail
        go_cut [7] (fun s wx => ∃ D : Nat, s = .pointer (some ⟨D, 0, none⟩) ∧ BoxS wx D (X + p1) (Y + p2) ∧ w9.heap.size ≤ D ∧ (∀ gb, (Value.slice A l.length c).ownBlock = some gb → gb < D) ∧ OwnRow sptRec wx w9.heap.size (.slice A l.length c) l ∧ CurAt wx g v code (k + pk (8 * C + 4) + pk (8 * R + 4)) ∧ Apg g w9 wx ∧ BoxFr wx F X Y C R ∧ BoxFr wx B 0 0 0 0)
        case first =>
          have qD : CurAt wr.drew g v code k := qr.dr
          have OZ : Hid (∀ W, CurAt W g v code k → CurAt (W.alloc (.cells #[.int .i64 0, .int .i64 0] 25)) g v code k) := fun W q => q.belowG ((Below.refl _ W).alloc (Nat.le_refl _) _) q.lt
          have hgF : g < F := by omega
          have hFr := fr.lt
          have hD0 : wr.heap.size ≠ F := by omega
          have HA : Hid (∀ gb, (Value.slice A l.length c).ownBlock = some gb → gb < wr.heap.size) := fun gb h9 => (World.ownsRow.lt ho gb h9).2
          have QQ : Hid (∀ W, CurAt W g v code k → CurAt W.drew g v code k) := fun W q => q.dr
          obtain ⟨c0, c1, c2, c3, _, _, _, _⟩ := fr.cells
          clear qD
          (first | (go_region_held3 (fun w' => w'.cell? ⟨F, 0, none⟩ = some (.int .i64 X) ∧ w'.cell? ⟨F, 1, none⟩ = some (.int .i64 Y) ∧ w'.cell? ⟨F, 2, none⟩ = some (.int .i64 C) ∧ w'.cell? ⟨F, 3, none⟩ = some (.int .i64 R))
            (first | go_keep | with_reducible exact ⟨(fr.apt a11 hgF).cells.1, (fr.apt a11 hgF).cells.2.1, (fr.apt a11 hgF).cells.2.2.1, (fr.apt a11 hgF).cells.2.2.2.1⟩ | with_reducible exact ⟨((fr.apt a11 hgF).al _).cells.1, ((fr.apt a11 hgF).al _).cells.2.1, ((fr.apt a11 hgF).al _).cells.2.2.1, ((fr.apt a11 hgF).al _).cells.2.2.2.1⟩ | with_reducible exact ⟨(((fr.apt a11 hgF).off (p := ⟨w10.heap.size, 0, none⟩) hD1 _).off (p := ⟨w10.heap.size, 1, none⟩) hD1 _).cells.1, (((fr.apt a11 hgF).off (p := ⟨w10.heap.size, 0, none⟩) hD1 _).off (p := ⟨w10.heap.size, 1, none⟩) hD1 _).cells.2.1, (((fr.apt a11 hgF).off (p := ⟨w10.heap.size, 0, none⟩) hD1 _).off (p := ⟨w10.heap.size, 1, none⟩) hD1 _).cells.2.2.1, (((fr.apt a11 hgF).off (p := ⟨w10.heap.size, 0, none⟩) hD1 _).off (p := ⟨w10.heap.size, 1, none⟩) hD1 _).cells.2.2.2.1⟩ | with_reducible exact ⟨(((fr.apt a11 hgF).off (p := ⟨wr.heap.size, 0, none⟩) hD0 _).off (p := ⟨wr.heap.size, 1, none⟩) hD0 _).cells.1, (((fr.apt a11 hgF).off (p := ⟨wr.heap.size, 0, none⟩) hD0 _).off (p := ⟨wr.heap.size, 1, none⟩) hD0 _).cells.2.1, (((fr.apt a11 hgF).off (p := ⟨wr.heap.size, 0, none⟩) hD0 _).off (p := ⟨wr.heap.size, 1, none⟩) hD0 _).cells.2.2.1, (((fr.apt a11 hgF).off (p := ⟨wr.heap.size, 0, none⟩) hD0 _).off (p := ⟨wr.heap.size, 1, none⟩) hD0 _).cells.2.2.2.1⟩ | with_reducible exact ⟨((((fr.apt a11 hgF).al _).off (p := ⟨w11.heap.size, 0, none⟩) hD2 _).off (p := ⟨w11.heap.size, 1, none⟩) hD2 _).cells.1, ((((fr.apt a11 hgF).al _).off (p := ⟨w11.heap.size, 0, none⟩) hD2 _).off (p := ⟨w11.heap.size, 1, none⟩) hD2 _).cells.2.1, ((((fr.apt a11 hgF).al _).off (p := ⟨w11.heap.size, 0, none⟩) hD2 _).off (p := ⟨w11.heap.size, 1, none⟩) hD2 _).cells.2.2.1, ((((fr.apt a11 hgF).al _).off (p := ⟨w11.heap.size, 0, none⟩) hD2 _).off (p := ⟨w11.heap.size, 1, none⟩) hD2 _).cells.2.2.2.1⟩ | with_reducible exact ⟨(fr.apt a10 hgF).cells.1, (fr.apt a10 hgF).cells.2.1, (fr.apt a10 hgF).cells.2.2.1, (fr.apt a10 hgF).cells.2.2.2.1⟩ | with_reducible exact ⟨((fr.apt a10 hgF).al _).cells.1, ((fr.apt a10 hgF).al _).cells.2.1, ((fr.apt a10 hgF).al _).cells.2.2.1, ((fr.apt a10 hgF).al _).cells.2.2.2.1⟩)
            (first | (go_at_call 57; (first
              | ((with_reducible refine (P1.out _ (by first | exact QQ.out _ qr | exact QQ.out _ (OZ.out _ qr))).mono ?_); rintro e w10 ⟨rfl, q10, d10⟩; (first | (have kb : BoxS w10 wr.heap.size 0 0 := boxk9 hgr d10; have hkb : g < wr.heap.size := hgr; have k9 := kb.cells; obtain ⟨m0, m1, m2, m3⟩ := k9) | skip); have a10 : Apg g wr w10 := (by first | exact ((Apart.refl _ _ _).next ((Below.refl _ _).drew)).trans d10 | exact ((Apart.refl _ _ _).next (((Below.refl _ _).alloc (Nat.le_refl _) _).drew)).trans d10); have hD1 : w10.heap.size ≠ F := (by have h92 := a10.size; omega))
              | ((with_reducible refine (P2.out _ (by first | exact q10 | exact q10.belowG ((Below.refl _ _).alloc (Nat.le_refl _) _) q10.lt)).mono ?_); rintro e w11 ⟨rfl, q11, d11⟩; (first | (have kb : BoxS w11 w10.heap.size 0 0 := boxk8 q10.lt d11; have k9 := kb.cells; obtain ⟨m0, m1, m2, m3⟩ := k9) | (have kb := kb.apt d11 hkb; have k9 := kb.cells; obtain ⟨m0, m1, m2, m3⟩ := k9) | skip); have a11 : Apg g wr w11 := (by first | exact a10.trans d11 | exact (apg_al a10 _).trans d11); have hD2 : w11.heap.size ≠ F := (by have h92 := a11.size; omega)))))) | fail)
          all_goals
            have h10s := a10.size
            have h11s := a11.size
            have o11 := ho.aptS a11 (by omega)
            have aa := ar.trans a11
            have ff := fr.apt a11 hgF
            have zz := zr.apt a11 hgB
            have hg9 : g < w9.heap.size := by omega
            go_wp2_with fail
            go_meet
            first
              | exact ⟨w11.heap.size, rfl, BoxS.new w11 _ _, by omega, fun gb h9 => by have := HA.out gb h9; omega, o11.alS _, q11.belowG ((Below.refl _ w11).alloc (Nat.le_refl _) _) q11.lt, apg_al aa _, ff.al _, zz.al _⟩
              | exact ⟨wr.heap.size, rfl, (kb).set _ _, by omega, fun gb h9 => by have := HA.out gb h9; omega, (o11).set2 (fun gb h9 => by have := HA.out gb h9; omega) _ _, q11.belowG (below_set2 (Below.refl w9.heap.size _) (by omega) _ _) hg9, (aa).trans2 (below_set2 (Below.refl w9.heap.size _) (by omega) _ _) (Nat.le_refl _), ((ff).off (p := ⟨wr.heap.size, 0, none⟩) (by show wr.heap.size ≠ F; omega) _).off (p := ⟨wr.heap.size, 1, none⟩) (by show wr.heap.size ≠ F; omega) _, ((zz).off (p := ⟨wr.heap.size, 0, none⟩) (by show wr.heap.size ≠ B; omega) _).off (p := ⟨wr.heap.size, 1, none⟩) (by show wr.heap.size ≠ B; omega) _⟩
              | exact ⟨w10.heap.size, rfl, (kb).set _ _, by omega, fun gb h9 => by have := HA.out gb h9; omega, (o11).set2 (fun gb h9 => by have := HA.out gb h9; omega) _ _, q11.belowG (below_set2 (Below.refl w9.heap.size _) (by omega) _ _) hg9, (aa).trans2 (below_set2 (Below.refl w9.heap.size _) (by omega) _ _) (Nat.le_refl _), ((ff).off (p := ⟨w10.heap.size, 0, none⟩) (by show w10.heap.size ≠ F; omega) _).off (p := ⟨w10.heap.size, 1, none⟩) (by show w10.heap.size ≠ F; omega) _, ((zz).off (p := ⟨w10.heap.size, 0, none⟩) (by show w10.heap.size ≠ B; omega) _).off (p := ⟨w10.heap.size, 1, none⟩) (by show w10.heap.size ≠ B; omega) _⟩
              | exact ⟨w11.heap.size, rfl, (BoxS.new w11 0 0).set _ _, by omega, fun gb h9 => by have := HA.out gb h9; omega, (o11.alS _).set2 (fun gb h9 => by have := HA.out gb h9; omega) _ _, (q11.belowG ((Below.refl _ w11).alloc (Nat.le_refl _) _) q11.lt).belowG (below_set2 (Below.refl w9.heap.size _) (by omega) _ _) hg9, (apg_al aa _).trans2 (below_set2 (Below.refl w9.heap.size _) (by omega) _ _) (Nat.le_refl _), ((ff.al _).off (p := ⟨w11.heap.size, 0, none⟩) (by show w11.heap.size ≠ F; omega) _).off (p := ⟨w11.heap.size, 1, none⟩) (by show w11.heap.size ≠ F; omega) _, ((zz.al _).off (p := ⟨w11.heap.size, 0, none⟩) (by show w11.heap.size ≠ B; omega) _).off (p := ⟨w11.heap.size, 1, none⟩) (by show w11.heap.size ≠ B; omega) _⟩
        case rest =>
          obtain ⟨D, rfl, bD, hD9, hAD, o12, q12, a12, f12, z12⟩ := hcut
          obtain ⟨w12, hw12⟩ : ∃ w9_ : World, w9_ = wc := ⟨_, rfl⟩
          subst hw12
          obtain ⟨k12, hk12⟩ : ∃ k12, k12 = k + pk (8 * C + 4) + pk (8 * R + 4) := ⟨_, rfl⟩
          rw [← hk12] at q12
          have hpa := pk_le (8 * C + 4)
          have hpb := pk_le (8 * R + 4)
          have HAD := Lib.hid hAD
          clear hAD ho fr zr P1 P2 v1 v2 v3 v4 v5 v6 qr ar
          have hgD : g < D := by omega
          have HK := Lib.hid hk12
          have hkb : k12 ≤ z + 74 := by omega
          have hkb2 : k + 2 ≤ k12 := by omega
          have hkb3 : k12 ≤ k + 4 := by omega
          clear hk12
          have C13 := Lib.hid (one_any g k12 v code 8 w12 q12 (by omega))
          rw [(pk_2 (code := code) (n := k12) (m := 8) (by omega) (by omega)).2] at C13
          go_wp2_with fail
          refine C13.out.mono ?_; rintro e w13 ⟨rfl, q13, a13⟩
          have b13 := bD.apt a13 hgD
          have o13 := o12.aptS a13 (by omega)
          have f13 := f12.apt a13 (by omega)
          have z13 := z12.apt a13 hgB
          have aa13 := a12.trans a13
          have hs13 := aa13.size
          clear C13 bD o12 q12 a12 f12 z12
          go_upto_if 55 with fail
          go_cut [] (fun wx => ∃ (sx sy : Int) (k1 : Nat), BoxS wx D sx sy ∧ k12 < k1 ∧ k1 ≤ k12 + 21 ∧ (pkV code k12 8 ≠ 0 → k1 = k12 + 1 ∧ sx = X + p1 ∧ sy = Y + p2) ∧ OwnRow sptRec wx w9.heap.size (.slice A l.length c) l ∧ CurAt wx g v code k1 ∧ Apg g w9 wx ∧ BoxFr wx F X Y C R ∧ BoxFr wx B 0 0 0 0)
          case first =>
            by_cases h8 : pkV code k12 8 = 0
            case neg =>
              have h9 : decide (pkV code k12 8 = 0) = false := decide_eq_false h8
              rw [h9]
              go_wp2_with fail
              go_meet
              exact ⟨_, _, k12 + 1, b13, by omega, by omega, fun _ => ⟨rfl, rfl, rfl⟩, o13, q13, aa13, f13, z13⟩
            case pos =>
              have h9 : decide (pkV code k12 8 = 0) = true := decide_eq_true h8
              rw [h9]
              have C14 := Lib.hid (spot_any g (k12 + 1) v code w13 q13 (by omega))
              go_wp2_with fail
              refine C14.out.mono ?_; rintro e w14 ⟨sx, sy, k14, rfl, q14, a14, _, _, _, _, hk14, hj14⟩
              have b14 := b13.apt a14 hgD
              have o14 := o13.aptS a14 (by omega)
              have f14 := f13.apt a14 (by omega)
              have z14 := z13.apt a14 hgB
              have aa14 := aa13.trans a14
              have hs14 := aa14.size
              obtain ⟨m0, m1, m2, m3⟩ := b14.cells
              have bS := Lib.hid (b14.set sx sy)
              have oS := Lib.hid (o14.set2 HAD.out (.int .i64 sx) (.int .i64 sy))
              have bw14 := below_set2 (Below.refl w9.heap.size w14) hD9 (.int .i64 sx) (.int .i64 sy)
              have qS := Lib.hid (q14.belowG bw14 (by omega))
              have aS := Lib.hid (aa14.trans2 bw14 (Nat.le_refl _))
              have fS := Lib.hid ((f14.off (p := ⟨D, 0, none⟩) (by show D ≠ F; omega) (.int .i64 sx)).off (p := ⟨D, 1, none⟩) (by show D ≠ F; omega) (.int .i64 sy))
              have zS := Lib.hid ((z14.off (p := ⟨D, 0, none⟩) (by show D ≠ B; omega) (.int .i64 sx)).off (p := ⟨D, 1, none⟩) (by show D ≠ B; omega) (.int .i64 sy))
              clear bw14 C14
              go_wp2_with fail
              go_meet
              exact ⟨sx, sy, k14, bS.out, by omega, by omega, fun h7 => absurd h8 h7, oS.out, qS.out, aS.out, fS.out, zS.out⟩
          case rest =>
          obtain ⟨sx, sy, k1_, b14, hk14, hj14, hsxy, o14, q14, a14, f14, z14⟩ := hcut
          obtain ⟨w14, hw14⟩ : ∃ w9_ : World, w9_ = wc := ⟨_, rfl⟩
          subst hw14
          clear b13 o13 q13 aa13 f13 z13 a13
          have hs14 := a14.size
          have HSXY := Lib.hid hsxy
          clear hsxy
          obtain ⟨m0, m1, m2, m3⟩ := b14.cells
          have C15 := Lib.hid (chFind_any (.slice A l.length c) l ⟨sx, sy⟩ w14 o14.reads)
          go_wp2_with fail
          refine C15.out.mono ?_; rintro e w15 ⟨rfl, b15⟩
          have z15 := z14.keep b15 (by omega)
          have f15 := f14.keep b15 (by omega)
          have bb15 := b14.keep b15 (Nat.le_refl _)
          have o15 := OwnRow.below o14 b15 (Nat.le_refl _)
          have q15 := q14.belowG b15 (by omega)
          have a15 := a14.next b15
          have hs15 := a15.size
          clear C15 b14 o14 q14 a14 f14 z14 m0 m1 m2 m3 b15
          go_upto_if 61 with fail
          go_cut [5] (fun s wx => ∃ l1 : List Spt, l1.length ≤ l.length + 1 ∧ (∀ x, x ∈ l → x ∈ l1) ∧ (⟨sx, sy⟩ : Spt) ∈ l1 ∧ OwnRow sptRec wx w9.heap.size s l1 ∧ CurAt wx g v code k1_ ∧ Apg g w9 wx ∧ BoxFr wx F X Y C R ∧ BoxFr wx B 0 0 0 0)
          case first =>
            obtain ⟨m0, m1, m2, m3⟩ := bb15.cells
            by_cases hf : findS l ⟨sx, sy⟩ < 0
            case pos =>
              have h9 : l.length + 1 ≤ 1099511627776 := by omega
              go_wp2_with (at_builtin; refine wp_app_rec sptRec _ rfl _ _ 28 _ _ Try.underlying28 info_spt rfl (by omega) (by rfl) w9.heap.size _ l (by rfl) o15 ⟨sx, sy⟩ _ rfl _ _ rfl (by rfl) (by rfl) h9 hs15 ?_; intro v19 w19 ho19 hg19)
              go_meet
              exact ⟨l ++ [⟨sx, sy⟩], by simp, fun x hx => List.mem_append_left _ hx, by simp, ho19, q15.belowG hg19.below (by omega), a15.trans2 hg19.below (Nat.le_refl _), f15.keep hg19.below (by omega), z15.keep hg19.below (by omega)⟩
            case neg =>
              have hf2 : ¬ findS l ⟨sx, sy⟩ < 0 := hf
              have hmem : (⟨sx, sy⟩ : Spt) ∈ l := by
                have h7 := findS_no l ⟨sx, sy⟩
                by_cases h6 : (⟨sx, sy⟩ : Spt) ∈ l
                · exact h6
                · have := h7.2 h6; omega
              have hf3 : 0 ≤ findS l ⟨sx, sy⟩ := by omega
              go_wp2_with fail
              go_meet
              exact ⟨l, by omega, fun x hx => hx, hmem, o15, q15, a15, f15, z15⟩
          case rest =>
          obtain ⟨l1, hl1, hsub, hmem, o16, q16, a16, f16, z16⟩ := hcut
          obtain ⟨w16, hw16⟩ : ∃ w9_ : World, w9_ = wc := ⟨_, rfl⟩
          subst hw16
          clear bb15 o15 q15 a15 f15 z15
          have hstep : Hid (FrIn code X Y C R z (k1_ + 1) l1 (gk - 1)) := FrIn.step hin.out HWn.out HD.out hl6 (by omega) (by omega) hsub (fun h7 => by
            rw [← HK.out] at h7
            obtain ⟨e7, e8, e9⟩ := HSXY.out h7
            refine ⟨by rw [e7, HK.out]; unfold stepL; omega, ?_⟩
            rw [hsp.out, ← e8, ← e9]; exact hmem)
          have hbd := hstep.out.bd
          have hgk0 := (hin.out.pos HWn.out HD.out hl6).1
          have HM := Lib.hid hsub
          clear hsub hmem
          obtain ⟨A1, c1_, hv1, hn1, hc1⟩ := o16.reads.shape
          subst hv1
          have C17 := Lib.hid (one_any g k1_ v code 30 w16 q16 (by omega))
          rw [(pk_2 (code := code) (n := k1_) (m := 30) (by omega) (by omega)).2] at C17
          go_wp2_with fail
          refine C17.out.mono ?_; rintro e w17 ⟨rfl, q17, a17⟩
          have o17 := o16.aptS a17 (by omega)
          have f17 := f16.apt a17 (by omega)
          have z17 := z16.apt a17 hgB
          have aa17 := a16.trans a17
          clear C17 o16 q16 a16 f16 z16 a17
          have hgF9 : g < F := by omega
          have hF9 : F < w9.heap.size := hs9
          have hB9 : B < w9.heap.size := by omega
          have hFB2 : F ≠ B := by omega
          have hwB2 : w.heap.size ≤ B := by rw [HB.out]; exact Nat.le_refl _
          have hlo9 : w.heap.size ≤ w9.heap.size := a99.size
          by_cases hbr : pkV code k1_ 30 = 0
          case pos =>
            have h9 : decide (pkV code k1_ 30 = 0) = true := decide_eq_true hbr
            rw [h9]
            have hkk : (k1_ + 1) ≤ z + 80 := by omega
            have Ct := Lib.hid (pick_ex g v code 30 (k1_ + 1) w17 (by omega) (by omega) q17)
            go_wp2_with fail
            refine Ct.out.mono ?_; rintro e wt ⟨yy, kt, rfl, hyy, hkt, hjt, qt, at_⟩
            have ot := (o17).aptS at_ (by omega)
            have ft := (f17).apt at_ hgF9
            have zt := (z17).apt at_ hgB
            have aat := (aa17).trans at_
            have hst := aat.size
            clear Ct
            have hy5 : yy = 0 ∨ yy = 1 ∨ yy = 2 ∨ yy = 3 ∨ 4 ≤ yy := by omega
            rcases hy5 with rfl | rfl | rfl | rfl | hy5
            · have hT : True := trivial
              have C0 := Lib.hid (anySpot_any g kt v code wt qt (by omega))
              go_wp2_with fail
              refine C0.out.mono ?_; rintro e wu ⟨ax, ay, ku, rfl, qu, au, hku, hju⟩
              have ou := ot.aptS au (by omega)
              have fu := ft.apt au hgF9
              have zu := zt.apt au hgB
              have aau := aat.trans au
              have hsu := aau.size
              clear C0
              have zf := Lib.hid (((((((zu).off (p := ⟨F, 0, none⟩) hFB2 (.int .i64 ax)).off (p := ⟨F, 1, none⟩) hFB2 (.int .i64 ay)).set0 ax).set1 ay).set2 (C : Int)).set3 (R : Int))
              have of := Lib.hid (((((((ou).setL9 hF9 0 (.int .i64 ax)).setL9 hF9 1 (.int .i64 ay)).setL9 hB9 0 (.int .i64 ax)).setL9 hB9 1 (.int .i64 ay)).setL9 hB9 2 (.int .i64 (C : Int))).setL9 hB9 3 (.int .i64 (R : Int)))
              have af := Lib.hid (apg_set (apg_set (apg_set (apg_set (apg_set (apg_set ((a99.trans (aau))) hwB 0 (.int .i64 ax)) hwB 1 (.int .i64 ay)) hwB2 0 (.int .i64 ax)) hwB2 1 (.int .i64 ay)) hwB2 2 (.int .i64 (C : Int))) hwB2 3 (.int .i64 (R : Int)))
              have bf := (((((((Below.refl w.heap.size wu)).setCell (p := ⟨F, 0, none⟩) hwB (.int .i64 ax)).setCell (p := ⟨F, 1, none⟩) hwB (.int .i64 ay)).setCell (p := ⟨B, 0, none⟩) hwB2 (.int .i64 ax)).setCell (p := ⟨B, 1, none⟩) hwB2 (.int .i64 ay)).setCell (p := ⟨B, 2, none⟩) hwB2 (.int .i64 (C : Int))).setCell (p := ⟨B, 3, none⟩) hwB2 (.int .i64 (R : Int))
              have qf := Lib.hid ((qu).belowG bf hg)
              clear bf
              obtain ⟨c0, c1, c2, c3, d0, d1, d2, d3⟩ := (fu).cells
              obtain ⟨b0, b1, b2, b3, g0, g1, g2, g3⟩ := (zu).cells
              go_wp2_with fail
              obtain ⟨r0, r1, r2, r3, _, _, _, _⟩ := zf.out.cells
              exact bodyPost_ret (v := .tuple #[.agg #[.int .i64 ax, .int .i64 ay, .int .i64 (C : Int), .int .i64 (R : Int)], (.slice A1 l1.length c1_)]) (by simp [results, Try.results39, go_sem, r0, r1, r2, r3]) rfl ⟨ax, ay, (C : Int), (R : Int), _, l1, ku, rfl, OwnRow.lo of.out hlo9, qf.out, af.out, by omega, by omega, by omega⟩
            · have hT : True := trivial
              have hgt := qt.lt
              have qA := qt.belowG ((Below.refl _ wt).alloc (Nat.le_refl _) (.cells #[.int .i64 0, .int .i64 60, .int .i64 61] 3)) hgt
              have C0 := Lib.hid (among_lit g kt v (.slice (some ⟨wt.heap.size, 0, none⟩) 3 3) code [0, 60, 61] _ qA (by omega) (lit3 wt (g + 1) 0 60 61 (by omega)) (by simp) (by simp) (fun _ => True) (fun _ _ => trivial))
              have oA := Lib.hid (ot.alS (.cells #[.int .i64 0, .int .i64 60, .int .i64 61] 3))
              have fA := Lib.hid (ft.al (.cells #[.int .i64 0, .int .i64 60, .int .i64 61] 3))
              have zA := Lib.hid (zt.al (.cells #[.int .i64 0, .int .i64 60, .int .i64 61] 3))
              have aA := Lib.hid (apg_al aat (.cells #[.int .i64 0, .int .i64 60, .int .i64 61] 3))
              clear qA
              go_wp2_with fail
              refine C0.out.mono ?_; rintro e wu ⟨ax, ku, rfl, _, hku, hju, qu, au⟩
              have ou := oA.out.aptS au (by omega)
              have fu := fA.out.apt au hgF9
              have zu := zA.out.apt au hgB
              have aau := aA.out.trans au
              have hsu := aau.size
              clear C0 oA fA zA aA
              have zf := Lib.hid ((((((zu).off (p := ⟨F, 2, none⟩) hFB2 (.int .i64 ax)).set0 X).set1 Y).set2 ax).set3 (R : Int))
              have of := Lib.hid ((((((ou).setL9 hF9 2 (.int .i64 ax)).setL9 hB9 0 (.int .i64 X)).setL9 hB9 1 (.int .i64 Y)).setL9 hB9 2 (.int .i64 ax)).setL9 hB9 3 (.int .i64 (R : Int)))
              have af := Lib.hid (apg_set (apg_set (apg_set (apg_set (apg_set ((a99.trans (aau))) hwB 2 (.int .i64 ax)) hwB2 0 (.int .i64 X)) hwB2 1 (.int .i64 Y)) hwB2 2 (.int .i64 ax)) hwB2 3 (.int .i64 (R : Int)))
              have bf := ((((((Below.refl w.heap.size wu)).setCell (p := ⟨F, 2, none⟩) hwB (.int .i64 ax)).setCell (p := ⟨B, 0, none⟩) hwB2 (.int .i64 X)).setCell (p := ⟨B, 1, none⟩) hwB2 (.int .i64 Y)).setCell (p := ⟨B, 2, none⟩) hwB2 (.int .i64 ax)).setCell (p := ⟨B, 3, none⟩) hwB2 (.int .i64 (R : Int))
              have qf := Lib.hid ((qu).belowG bf hg)
              clear bf
              obtain ⟨c0, c1, c2, c3, d0, d1, d2, d3⟩ := (fu).cells
              obtain ⟨b0, b1, b2, b3, g0, g1, g2, g3⟩ := (zu).cells
              go_wp2_with fail
              obtain ⟨r0, r1, r2, r3, _, _, _, _⟩ := zf.out.cells
              exact bodyPost_ret (v := .tuple #[.agg #[.int .i64 X, .int .i64 Y, .int .i64 ax, .int .i64 (R : Int)], (.slice A1 l1.length c1_)]) (by simp [results, Try.results39, go_sem, r0, r1, r2, r3]) rfl ⟨X, Y, ax, (R : Int), _, l1, ku, rfl, OwnRow.lo of.out hlo9, qf.out, af.out, by omega, by omega, by omega⟩
            · have hT : True := trivial
              have hgt := qt.lt
              have qA := qt.belowG ((Below.refl _ wt).alloc (Nat.le_refl _) (.cells #[.int .i64 0, .int .i64 30, .int .i64 31] 3)) hgt
              have C0 := Lib.hid (among_lit g kt v (.slice (some ⟨wt.heap.size, 0, none⟩) 3 3) code [0, 30, 31] _ qA (by omega) (lit3 wt (g + 1) 0 30 31 (by omega)) (by simp) (by simp) (fun _ => True) (fun _ _ => trivial))
              have oA := Lib.hid (ot.alS (.cells #[.int .i64 0, .int .i64 30, .int .i64 31] 3))
              have fA := Lib.hid (ft.al (.cells #[.int .i64 0, .int .i64 30, .int .i64 31] 3))
              have zA := Lib.hid (zt.al (.cells #[.int .i64 0, .int .i64 30, .int .i64 31] 3))
              have aA := Lib.hid (apg_al aat (.cells #[.int .i64 0, .int .i64 30, .int .i64 31] 3))
              clear qA
              go_wp2_with fail
              refine C0.out.mono ?_; rintro e wu ⟨ax, ku, rfl, _, hku, hju, qu, au⟩
              have ou := oA.out.aptS au (by omega)
              have fu := fA.out.apt au hgF9
              have zu := zA.out.apt au hgB
              have aau := aA.out.trans au
              have hsu := aau.size
              clear C0 oA fA zA aA
              have zf := Lib.hid ((((((zu).off (p := ⟨F, 3, none⟩) hFB2 (.int .i64 ax)).set0 X).set1 Y).set2 (C : Int)).set3 ax)
              have of := Lib.hid ((((((ou).setL9 hF9 3 (.int .i64 ax)).setL9 hB9 0 (.int .i64 X)).setL9 hB9 1 (.int .i64 Y)).setL9 hB9 2 (.int .i64 (C : Int))).setL9 hB9 3 (.int .i64 ax))
              have af := Lib.hid (apg_set (apg_set (apg_set (apg_set (apg_set ((a99.trans (aau))) hwB 3 (.int .i64 ax)) hwB2 0 (.int .i64 X)) hwB2 1 (.int .i64 Y)) hwB2 2 (.int .i64 (C : Int))) hwB2 3 (.int .i64 ax))
              have bf := ((((((Below.refl w.heap.size wu)).setCell (p := ⟨F, 3, none⟩) hwB (.int .i64 ax)).setCell (p := ⟨B, 0, none⟩) hwB2 (.int .i64 X)).setCell (p := ⟨B, 1, none⟩) hwB2 (.int .i64 Y)).setCell (p := ⟨B, 2, none⟩) hwB2 (.int .i64 (C : Int))).setCell (p := ⟨B, 3, none⟩) hwB2 (.int .i64 ax)
              have qf := Lib.hid ((qu).belowG bf hg)
              clear bf
              obtain ⟨c0, c1, c2, c3, d0, d1, d2, d3⟩ := (fu).cells
              obtain ⟨b0, b1, b2, b3, g0, g1, g2, g3⟩ := (zu).cells
              go_wp2_with fail
              obtain ⟨r0, r1, r2, r3, _, _, _, _⟩ := zf.out.cells
              exact bodyPost_ret (v := .tuple #[.agg #[.int .i64 X, .int .i64 Y, .int .i64 (C : Int), .int .i64 ax], (.slice A1 l1.length c1_)]) (by simp [results, Try.results39, go_sem, r0, r1, r2, r3]) rfl ⟨X, Y, (C : Int), ax, _, l1, ku, rfl, OwnRow.lo of.out hlo9, qf.out, af.out, by omega, by omega, by omega⟩
            · have C0 := Lib.hid (anyChart_any g kt v code wt qt (by omega))
              go_wp2_with fail
              refine C0.out.mono ?_; rintro e wu ⟨u9, l9, ku, rfl, on, qu, au, hl13, hku, hju⟩
              have fu := ft.apt au hgF9
              have zu := zt.apt au hgB
              have aau := aat.trans au
              have hsu := aau.size
              have ou : OwnRow sptRec wu w9.heap.size u9 l9 := OwnRow.lo on hst
              obtain ⟨A9, c9, hv9, _, _⟩ := ou.reads.shape
              subst hv9
              clear C0 on
              have zf := Lib.hid (((((zu).set0 X).set1 Y).set2 (C : Int)).set3 (R : Int))
              have of := Lib.hid (((((ou).setL9 hB9 0 (.int .i64 X)).setL9 hB9 1 (.int .i64 Y)).setL9 hB9 2 (.int .i64 (C : Int))).setL9 hB9 3 (.int .i64 (R : Int)))
              have af := Lib.hid (apg_set (apg_set (apg_set (apg_set ((a99.trans (aau))) hwB2 0 (.int .i64 X)) hwB2 1 (.int .i64 Y)) hwB2 2 (.int .i64 (C : Int))) hwB2 3 (.int .i64 (R : Int)))
              have bf := (((((Below.refl w.heap.size wu)).setCell (p := ⟨B, 0, none⟩) hwB2 (.int .i64 X)).setCell (p := ⟨B, 1, none⟩) hwB2 (.int .i64 Y)).setCell (p := ⟨B, 2, none⟩) hwB2 (.int .i64 (C : Int))).setCell (p := ⟨B, 3, none⟩) hwB2 (.int .i64 (R : Int))
              have qf := Lib.hid ((qu).belowG bf hg)
              clear bf
              obtain ⟨c0, c1, c2, c3, d0, d1, d2, d3⟩ := (fu).cells
              obtain ⟨b0, b1, b2, b3, g0, g1, g2, g3⟩ := (zu).cells
              go_wp2_with fail
              obtain ⟨r0, r1, r2, r3, _, _, _, _⟩ := zf.out.cells
              exact bodyPost_ret (v := .tuple #[.agg #[.int .i64 X, .int .i64 Y, .int .i64 (C : Int), .int .i64 (R : Int)], (.slice A9 l9.length c9)]) (by simp [results, Try.results39, go_sem, r0, r1, r2, r3]) rfl ⟨X, Y, (C : Int), (R : Int), _, l9, ku, rfl, OwnRow.lo of.out hlo9, qf.out, af.out, hl13, by omega, by omega⟩
            · have hT : True := trivial
              have i0 : ((yy : Int) == 0) = false := by simp; omega
              have i1 : ((yy : Int) == 1) = false := by simp; omega
              have i2 : ((yy : Int) == 2) = false := by simp; omega
              have i3 : ((yy : Int) == 3) = false := by simp; omega
              have zf := Lib.hid (((((zt).set0 X).set1 Y).set2 (C : Int)).set3 (R : Int))
              have of := Lib.hid (((((ot).setL9 hB9 0 (.int .i64 X)).setL9 hB9 1 (.int .i64 Y)).setL9 hB9 2 (.int .i64 (C : Int))).setL9 hB9 3 (.int .i64 (R : Int)))
              have af := Lib.hid (apg_set (apg_set (apg_set (apg_set ((a99.trans (aat))) hwB2 0 (.int .i64 X)) hwB2 1 (.int .i64 Y)) hwB2 2 (.int .i64 (C : Int))) hwB2 3 (.int .i64 (R : Int)))
              have bf := (((((Below.refl w.heap.size wt)).setCell (p := ⟨B, 0, none⟩) hwB2 (.int .i64 X)).setCell (p := ⟨B, 1, none⟩) hwB2 (.int .i64 Y)).setCell (p := ⟨B, 2, none⟩) hwB2 (.int .i64 (C : Int))).setCell (p := ⟨B, 3, none⟩) hwB2 (.int .i64 (R : Int))
              have qf := Lib.hid ((qt).belowG bf hg)
              clear bf
              obtain ⟨c0, c1, c2, c3, d0, d1, d2, d3⟩ := (ft).cells
              obtain ⟨b0, b1, b2, b3, g0, g1, g2, g3⟩ := (zt).cells
              go_wp2_with fail
              obtain ⟨r0, r1, r2, r3, _, _, _, _⟩ := zf.out.cells
              exact bodyPost_ret (v := .tuple #[.agg #[.int .i64 X, .int .i64 Y, .int .i64 (C : Int), .int .i64 (R : Int)], (.slice A1 l1.length c1_)]) (by simp [results, Try.results39, go_sem, r0, r1, r2, r3]) rfl ⟨X, Y, (C : Int), (R : Int), _, l1, kt, rfl, OwnRow.lo of.out hlo9, qf.out, af.out, by omega, by omega, by omega⟩
          case neg =>
            have h9 : decide (pkV code k1_ 30 = 0) = false := decide_eq_false hbr
            rw [h9]
            go_wp2_with fail
            go_roundg (gk - 1)
            case measure => omega
            case rel => exact ⟨l1, k1_ + 1, by omega, by omega, by omega, o17, q17, aa17, f17, z17, hstep⟩
      · have hkk9 : ¬ l.length < 1 + y9 := hlt
        have hgF9 : g < F := by omega
        have hF9 : F < w9.heap.size := hs9
        have hB9 : B < w9.heap.size := by omega
        have hFB2 : F ≠ B := by omega
        have hwB2 : w.heap.size ≤ B := by rw [HB.out]; exact Nat.le_refl _
        have hlo9 : w.heap.size ≤ w9.heap.size := a99.size
        have hkk : k ≤ z + 80 := by omega
        have Ct := Lib.hid (pick_ex g v code 30 k wr (by omega) (by omega) qr)
        go_wp2_with fail
        refine Ct.out.mono ?_; rintro e wt ⟨yy, kt, rfl, hyy, hkt, hjt, qt, at_⟩
        have ot := (ho).aptS at_ (by omega)
        have ft := (fr).apt at_ hgF9
        have zt := (zr).apt at_ hgB
        have aat := (ar).trans at_
        have hst := aat.size
        clear Ct
        have hy5 : yy = 0 ∨ yy = 1 ∨ yy = 2 ∨ yy = 3 ∨ 4 ≤ yy := by omega
        rcases hy5 with rfl | rfl | rfl | rfl | hy5
        · have hT : True := trivial
          have C0 := Lib.hid (anySpot_any g kt v code wt qt (by omega))
          go_wp2_with fail
          refine C0.out.mono ?_; rintro e wu ⟨ax, ay, ku, rfl, qu, au, hku, hju⟩
          have ou := ot.aptS au (by omega)
          have fu := ft.apt au hgF9
          have zu := zt.apt au hgB
          have aau := aat.trans au
          have hsu := aau.size
          clear C0
          have zf := Lib.hid (((((((zu).off (p := ⟨F, 0, none⟩) hFB2 (.int .i64 ax)).off (p := ⟨F, 1, none⟩) hFB2 (.int .i64 ay)).set0 ax).set1 ay).set2 (C : Int)).set3 (R : Int))
          have of := Lib.hid (((((((ou).setL9 hF9 0 (.int .i64 ax)).setL9 hF9 1 (.int .i64 ay)).setL9 hB9 0 (.int .i64 ax)).setL9 hB9 1 (.int .i64 ay)).setL9 hB9 2 (.int .i64 (C : Int))).setL9 hB9 3 (.int .i64 (R : Int)))
          have af := Lib.hid (apg_set (apg_set (apg_set (apg_set (apg_set (apg_set ((a99.trans (aau))) hwB 0 (.int .i64 ax)) hwB 1 (.int .i64 ay)) hwB2 0 (.int .i64 ax)) hwB2 1 (.int .i64 ay)) hwB2 2 (.int .i64 (C : Int))) hwB2 3 (.int .i64 (R : Int)))
          have bf := (((((((Below.refl w.heap.size wu)).setCell (p := ⟨F, 0, none⟩) hwB (.int .i64 ax)).setCell (p := ⟨F, 1, none⟩) hwB (.int .i64 ay)).setCell (p := ⟨B, 0, none⟩) hwB2 (.int .i64 ax)).setCell (p := ⟨B, 1, none⟩) hwB2 (.int .i64 ay)).setCell (p := ⟨B, 2, none⟩) hwB2 (.int .i64 (C : Int))).setCell (p := ⟨B, 3, none⟩) hwB2 (.int .i64 (R : Int))
          have qf := Lib.hid ((qu).belowG bf hg)
          clear bf
          obtain ⟨c0, c1, c2, c3, d0, d1, d2, d3⟩ := (fu).cells
          obtain ⟨b0, b1, b2, b3, g0, g1, g2, g3⟩ := (zu).cells
          go_wp2_with fail
          obtain ⟨r0, r1, r2, r3, _, _, _, _⟩ := zf.out.cells
          exact bodyPost_ret (v := .tuple #[.agg #[.int .i64 ax, .int .i64 ay, .int .i64 (C : Int), .int .i64 (R : Int)], (.slice A l.length c)]) (by simp [results, Try.results39, go_sem, r0, r1, r2, r3]) rfl ⟨ax, ay, (C : Int), (R : Int), _, l, ku, rfl, OwnRow.lo of.out hlo9, qf.out, af.out, by omega, by omega, by omega⟩
        · have hT : True := trivial
          have hgt := qt.lt
          have qA := qt.belowG ((Below.refl _ wt).alloc (Nat.le_refl _) (.cells #[.int .i64 0, .int .i64 60, .int .i64 61] 3)) hgt
          have C0 := Lib.hid (among_lit g kt v (.slice (some ⟨wt.heap.size, 0, none⟩) 3 3) code [0, 60, 61] _ qA (by omega) (lit3 wt (g + 1) 0 60 61 (by omega)) (by simp) (by simp) (fun _ => True) (fun _ _ => trivial))
          have oA := Lib.hid (ot.alS (.cells #[.int .i64 0, .int .i64 60, .int .i64 61] 3))
          have fA := Lib.hid (ft.al (.cells #[.int .i64 0, .int .i64 60, .int .i64 61] 3))
          have zA := Lib.hid (zt.al (.cells #[.int .i64 0, .int .i64 60, .int .i64 61] 3))
          have aA := Lib.hid (apg_al aat (.cells #[.int .i64 0, .int .i64 60, .int .i64 61] 3))
          clear qA
          go_wp2_with fail
          refine C0.out.mono ?_; rintro e wu ⟨ax, ku, rfl, _, hku, hju, qu, au⟩
          have ou := oA.out.aptS au (by omega)
          have fu := fA.out.apt au hgF9
          have zu := zA.out.apt au hgB
          have aau := aA.out.trans au
          have hsu := aau.size
          clear C0 oA fA zA aA
          have zf := Lib.hid ((((((zu).off (p := ⟨F, 2, none⟩) hFB2 (.int .i64 ax)).set0 X).set1 Y).set2 ax).set3 (R : Int))
          have of := Lib.hid ((((((ou).setL9 hF9 2 (.int .i64 ax)).setL9 hB9 0 (.int .i64 X)).setL9 hB9 1 (.int .i64 Y)).setL9 hB9 2 (.int .i64 ax)).setL9 hB9 3 (.int .i64 (R : Int)))
          have af := Lib.hid (apg_set (apg_set (apg_set (apg_set (apg_set ((a99.trans (aau))) hwB 2 (.int .i64 ax)) hwB2 0 (.int .i64 X)) hwB2 1 (.int .i64 Y)) hwB2 2 (.int .i64 ax)) hwB2 3 (.int .i64 (R : Int)))
          have bf := ((((((Below.refl w.heap.size wu)).setCell (p := ⟨F, 2, none⟩) hwB (.int .i64 ax)).setCell (p := ⟨B, 0, none⟩) hwB2 (.int .i64 X)).setCell (p := ⟨B, 1, none⟩) hwB2 (.int .i64 Y)).setCell (p := ⟨B, 2, none⟩) hwB2 (.int .i64 ax)).setCell (p := ⟨B, 3, none⟩) hwB2 (.int .i64 (R : Int))
          have qf := Lib.hid ((qu).belowG bf hg)
          clear bf
          obtain ⟨c0, c1, c2, c3, d0, d1, d2, d3⟩ := (fu).cells
          obtain ⟨b0, b1, b2, b3, g0, g1, g2, g3⟩ := (zu).cells
          go_wp2_with fail
          obtain ⟨r0, r1, r2, r3, _, _, _, _⟩ := zf.out.cells
          exact bodyPost_ret (v := .tuple #[.agg #[.int .i64 X, .int .i64 Y, .int .i64 ax, .int .i64 (R : Int)], (.slice A l.length c)]) (by simp [results, Try.results39, go_sem, r0, r1, r2, r3]) rfl ⟨X, Y, ax, (R : Int), _, l, ku, rfl, OwnRow.lo of.out hlo9, qf.out, af.out, by omega, by omega, by omega⟩
        · have hT : True := trivial
          have hgt := qt.lt
          have qA := qt.belowG ((Below.refl _ wt).alloc (Nat.le_refl _) (.cells #[.int .i64 0, .int .i64 30, .int .i64 31] 3)) hgt
          have C0 := Lib.hid (among_lit g kt v (.slice (some ⟨wt.heap.size, 0, none⟩) 3 3) code [0, 30, 31] _ qA (by omega) (lit3 wt (g + 1) 0 30 31 (by omega)) (by simp) (by simp) (fun _ => True) (fun _ _ => trivial))
          have oA := Lib.hid (ot.alS (.cells #[.int .i64 0, .int .i64 30, .int .i64 31] 3))
          have fA := Lib.hid (ft.al (.cells #[.int .i64 0, .int .i64 30, .int .i64 31] 3))
          have zA := Lib.hid (zt.al (.cells #[.int .i64 0, .int .i64 30, .int .i64 31] 3))
          have aA := Lib.hid (apg_al aat (.cells #[.int .i64 0, .int .i64 30, .int .i64 31] 3))
          clear qA
          go_wp2_with fail
          refine C0.out.mono ?_; rintro e wu ⟨ax, ku, rfl, _, hku, hju, qu, au⟩
          have ou := oA.out.aptS au (by omega)
          have fu := fA.out.apt au hgF9
          have zu := zA.out.apt au hgB
          have aau := aA.out.trans au
          have hsu := aau.size
          clear C0 oA fA zA aA
          have zf := Lib.hid ((((((zu).off (p := ⟨F, 3, none⟩) hFB2 (.int .i64 ax)).set0 X).set1 Y).set2 (C : Int)).set3 ax)
          have of := Lib.hid ((((((ou).setL9 hF9 3 (.int .i64 ax)).setL9 hB9 0 (.int .i64 X)).setL9 hB9 1 (.int .i64 Y)).setL9 hB9 2 (.int .i64 (C : Int))).setL9 hB9 3 (.int .i64 ax))
          have af := Lib.hid (apg_set (apg_set (apg_set (apg_set (apg_set ((a99.trans (aau))) hwB 3 (.int .i64 ax)) hwB2 0 (.int .i64 X)) hwB2 1 (.int .i64 Y)) hwB2 2 (.int .i64 (C : Int))) hwB2 3 (.int .i64 ax))
          have bf := ((((((Below.refl w.heap.size wu)).setCell (p := ⟨F, 3, none⟩) hwB (.int .i64 ax)).setCell (p := ⟨B, 0, none⟩) hwB2 (.int .i64 X)).setCell (p := ⟨B, 1, none⟩) hwB2 (.int .i64 Y)).setCell (p := ⟨B, 2, none⟩) hwB2 (.int .i64 (C : Int))).setCell (p := ⟨B, 3, none⟩) hwB2 (.int .i64 ax)
          have qf := Lib.hid ((qu).belowG bf hg)
          clear bf
          obtain ⟨c0, c1, c2, c3, d0, d1, d2, d3⟩ := (fu).cells
          obtain ⟨b0, b1, b2, b3, g0, g1, g2, g3⟩ := (zu).cells
          go_wp2_with fail
          obtain ⟨r0, r1, r2, r3, _, _, _, _⟩ := zf.out.cells
          exact bodyPost_ret (v := .tuple #[.agg #[.int .i64 X, .int .i64 Y, .int .i64 (C : Int), .int .i64 ax], (.slice A l.length c)]) (by simp [results, Try.results39, go_sem, r0, r1, r2, r3]) rfl ⟨X, Y, (C : Int), ax, _, l, ku, rfl, OwnRow.lo of.out hlo9, qf.out, af.out, by omega, by omega, by omega⟩
        · have C0 := Lib.hid (anyChart_any g kt v code wt qt (by omega))
          go_wp2_with fail
          refine C0.out.mono ?_; rintro e wu ⟨u9, l9, ku, rfl, on, qu, au, hl13, hku, hju⟩
          have fu := ft.apt au hgF9
          have zu := zt.apt au hgB
          have aau := aat.trans au
          have hsu := aau.size
          have ou : OwnRow sptRec wu w9.heap.size u9 l9 := OwnRow.lo on hst
          obtain ⟨A9, c9, hv9, _, _⟩ := ou.reads.shape
          subst hv9
          clear C0 on
          have zf := Lib.hid (((((zu).set0 X).set1 Y).set2 (C : Int)).set3 (R : Int))
          have of := Lib.hid (((((ou).setL9 hB9 0 (.int .i64 X)).setL9 hB9 1 (.int .i64 Y)).setL9 hB9 2 (.int .i64 (C : Int))).setL9 hB9 3 (.int .i64 (R : Int)))
          have af := Lib.hid (apg_set (apg_set (apg_set (apg_set ((a99.trans (aau))) hwB2 0 (.int .i64 X)) hwB2 1 (.int .i64 Y)) hwB2 2 (.int .i64 (C : Int))) hwB2 3 (.int .i64 (R : Int)))
          have bf := (((((Below.refl w.heap.size wu)).setCell (p := ⟨B, 0, none⟩) hwB2 (.int .i64 X)).setCell (p := ⟨B, 1, none⟩) hwB2 (.int .i64 Y)).setCell (p := ⟨B, 2, none⟩) hwB2 (.int .i64 (C : Int))).setCell (p := ⟨B, 3, none⟩) hwB2 (.int .i64 (R : Int))
          have qf := Lib.hid ((qu).belowG bf hg)
          clear bf
          obtain ⟨c0, c1, c2, c3, d0, d1, d2, d3⟩ := (fu).cells
          obtain ⟨b0, b1, b2, b3, g0, g1, g2, g3⟩ := (zu).cells
          go_wp2_with fail
          obtain ⟨r0, r1, r2, r3, _, _, _, _⟩ := zf.out.cells
          exact bodyPost_ret (v := .tuple #[.agg #[.int .i64 X, .int .i64 Y, .int .i64 (C : Int), .int .i64 (R : Int)], (.slice A9 l9.length c9)]) (by simp [results, Try.results39, go_sem, r0, r1, r2, r3]) rfl ⟨X, Y, (C : Int), (R : Int), _, l9, ku, rfl, OwnRow.lo of.out hlo9, qf.out, af.out, hl13, by omega, by omega⟩
        · have hT : True := trivial
          have i0 : ((yy : Int) == 0) = false := by simp; omega
          have i1 : ((yy : Int) == 1) = false := by simp; omega
          have i2 : ((yy : Int) == 2) = false := by simp; omega
          have i3 : ((yy : Int) == 3) = false := by simp; omega
          have zf := Lib.hid (((((zt).set0 X).set1 Y).set2 (C : Int)).set3 (R : Int))
          have of := Lib.hid (((((ot).setL9 hB9 0 (.int .i64 X)).setL9 hB9 1 (.int .i64 Y)).setL9 hB9 2 (.int .i64 (C : Int))).setL9 hB9 3 (.int .i64 (R : Int)))
          have af := Lib.hid (apg_set (apg_set (apg_set (apg_set ((a99.trans (aat))) hwB2 0 (.int .i64 X)) hwB2 1 (.int .i64 Y)) hwB2 2 (.int .i64 (C : Int))) hwB2 3 (.int .i64 (R : Int)))
          have bf := (((((Below.refl w.heap.size wt)).setCell (p := ⟨B, 0, none⟩) hwB2 (.int .i64 X)).setCell (p := ⟨B, 1, none⟩) hwB2 (.int .i64 Y)).setCell (p := ⟨B, 2, none⟩) hwB2 (.int .i64 (C : Int))).setCell (p := ⟨B, 3, none⟩) hwB2 (.int .i64 (R : Int))
          have qf := Lib.hid ((qt).belowG bf hg)
          clear bf
          obtain ⟨c0, c1, c2, c3, d0, d1, d2, d3⟩ := (ft).cells
          obtain ⟨b0, b1, b2, b3, g0, g1, g2, g3⟩ := (zt).cells
          go_wp2_with fail
          obtain ⟨r0, r1, r2, r3, _, _, _, _⟩ := zf.out.cells
          exact bodyPost_ret (v := .tuple #[.agg #[.int .i64 X, .int .i64 Y, .int .i64 (C : Int), .int .i64 (R : Int)], (.slice A l.length c)]) (by simp [results, Try.results39, go_sem, r0, r1, r2, r3]) rfl ⟨X, Y, (C : Int), (R : Int), _, l, kt, rfl, OwnRow.lo of.out hlo9, qf.out, af.out, by omega, by omega, by omega⟩
end Go.Proofs.Ytjbffahnbkpcnaa
