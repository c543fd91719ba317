/- The draws of a view alone, of two charts in a frame, of a spot in a frame. -/
import Derived.Test.YtjbffahnbkpcnaaDrawRw
set_option linter.unusedSimpArgs false
set_option linter.unusedVariables false
namespace Go.Proofs.Ytjbffahnbkpcnaa
open Go.RowKit Go.Sort

def DrawnTx (w : World) (e : Ending) (w' : World) : Prop := ∃ (u : Value) (L : List ByteArray), e = .returned u ∧ OwnRow strRec w' w.heap.size u L ∧ Below w.heap.size w w' ∧ L.length ≤ 31 ∧ ∀ i, i < L.length → (gx strRec L i).size ≤ 100
def DrawnMv (w : World) (e : Ending) (w' : World) : Prop := ∃ (x y c r : Int) (u1 : Value) (l : List Spt) (u2 : Value) (m : List Spt), e = .returned (.tuple #[.agg #[.int .i64 x, .int .i64 y, .int .i64 c, .int .i64 r], u1, u2]) ∧ OwnRow sptRec w' w.heap.size u1 l ∧ OwnRow sptRec w' w.heap.size u2 m ∧ Below w.heap.size w w' ∧ l.length ≤ 13 ∧ m.length ≤ 13
def DrawnCl (w : World) (e : Ending) (w' : World) : Prop := ∃ (x y c r sx sy : Int), e = .returned (.tuple #[.agg #[.int .i64 x, .int .i64 y, .int .i64 c, .int .i64 r], .agg #[.int .i64 sx, .int .i64 sy]]) ∧ Below w.heap.size w w'
theorem chOwn_rx (v : Value) (l : List Spt) (w : World) (h : RowAt sptRec w v l) (hl : l.length ≤ 1000) :
    Calls Try.prog 66 #[v] w (FreshRow sptRec w l) := by
  have hE := OwnRow.empty sptRec w w.heap.size (Nat.le_refl _)
  have hEb : Below w.heap.size w (w.alloc (.cells #[] 25)) := (Below.refl _ _).alloc (Nat.le_refl _) _
  have hE2 := h.below hEb (Nat.le_refl _)
  have h63 : ([] : List Spt).length + l.length ≤ 1099511627776 := by simp; omega
  go_enter Try.func66, Try.ntmps66
  go_wp2_with (at_builtin; refine wp_app_spts _ rfl _ _ rfl w.heap.size _ [] rfl hE _ l rfl hE2 h63 hEb.size ?_; intro x w2 ox hgx)
  go_ret
  exact ⟨_, rfl, ox, hEb.trans hgx.below⟩
theorem OwnRow.setO {α : Type} {R : Rec α} {w : World} {lo b : Nat} {v : Value} {l : List α} (h : OwnRow R w lo v l) (hne : ∀ gb, v.ownBlock = some gb → gb < b) (o : Nat) (x : Value) : OwnRow R (w.setCell ⟨b, o, none⟩ x) lo v l := by
  have hg := grown_set9 w b o x
  refine World.ownsRow.kept h hg ?_
  cases hv : v.ownBlock with
  | none => exact .inl rfl
  | some gb =>
    right
    intro e
    injection e with e
    have := hne gb hv
    omega
theorem set_same9 {xs : List Value} {j : Nat} {u : Value} (h : xs[j]? = some u) : xs.set j u = xs := by
  apply List.ext_getElem?
  intro i
  by_cases e : j = i
  · subst e; rw [List.getElem?_set_self (List.getElem?_eq_some_iff.1 h).1, h]
  · rw [List.getElem?_set_ne e]
theorem OwnRow.setX {w : World} {lo g n c : Nat} {l : List Spt} (h : OwnRow sptRec w lo (.slice (some ⟨g, 0, none⟩) n c) l) (i : Nat) (x : Int) (hi : i < l.length) :
    OwnRow sptRec (w.setCell ⟨g, i * 2, none⟩ (.int .i64 x)) lo (.slice (some ⟨g, 0, none⟩) n c) (l.set i ⟨x, (gx sptRec l i).y⟩) := by
  have hn : n = l.length := by
    obtain ⟨A, c', he, _⟩ := Sl.shape (OwnRow.reads h)
    injection he
  subst hn
  have e1 : (rcells sptRec l)[i * 2 + 1]? = some (I (gx sptRec l i).y) := rcells_at sptRec l i 1 hi (by decide)
  have hst := (World.ownsRow.stored h (i * 2) (.int .i64 x)).1
  unfold OwnRow
  rw [List.length_set, ← rcells_set sptRec l i _ hi]
  show World.ownsRow _ lo _ _ _ _ (((rcells sptRec l).set (i * 2) (I x)).set (i * 2 + 1) (I (gx sptRec l i).y))
  rw [set_same9 (j := i * 2 + 1) (by rw [List.getElem?_set_ne (by omega)]; exact e1)]
  exact hst
theorem spt_cell9 {w : World} {lo g n c : Nat} {l : List Spt} (h : OwnRow sptRec w lo (.slice (some ⟨g, 0, none⟩) n c) l) (i : Nat) (hi : i < l.length) : w.cell? ⟨g, i * 2, none⟩ = some (.int .i64 (gx sptRec l i).x) ∧ w.frozen? ⟨g, i * 2, none⟩ = false :=
  ⟨OwnRow.cell h i hi 0 (by decide), OwnRow.free h _⟩
set_option maxRecDepth 100000 in
set_option maxHeartbeats 3200000 in
theorem drawMirrorView_any (v : Value) (code : List Nat) (w : World) (h : BytesAt w v code) (hw : WfCode code) (hcl : code.length ≤ 1099511627776) :
    Calls Try.prog 23 #[v] w (DrawnTx w) := by
  obtain ⟨A, c, rfl, hnc, hc63⟩ := Sl.shape h
  have C1 := Lib.hid (drawReadView_any _ code w h hw hcl)
  go_enter Try.func23, Try.ntmps23
  go_wp2_with fail
  refine C1.out.mono ?_; rintro e w1 ⟨x, y, cc, rr, u1, L, rfl, o1, b1, hl, hs⟩
  have oF := Lib.hid (OwnRow.alS o1 (.cells #[.int .i64 x, .int .i64 y, .int .i64 cc, .int .i64 rr] 27))
  have bF := Lib.hid (b1.alloc b1.size (.cells #[.int .i64 x, .int .i64 y, .int .i64 cc, .int .i64 rr] 27))
  have HS := Lib.hid hs
  clear C1 hs
  go_wp2_with fail
  go_ret
  exact ⟨_, L, rfl, oF.out, bF.out, hl, HS.out⟩
set_option maxRecDepth 100000 in
set_option maxHeartbeats 3200000 in
theorem drawMovedCells_any (v : Value) (code : List Nat) (w : World) (h : BytesAt w v code) (hw : WfCode code) (hcl : code.length ≤ 1099511627776) :
    Calls Try.prog 34 #[v] w (DrawnMv w) := by
  obtain ⟨A, c, rfl, hnc, hc63⟩ := Sl.shape h
  have z0 := BoxFr.new w 0 0 0 0
  have bw := (Below.refl w.heap.size w).alloc (Nat.le_refl _) (.cells #[.int .i64 0, .int .i64 0, .int .i64 0, .int .i64 0] 27)
  have hszv : (w.alloc (.cells #[.int .i64 0, .int .i64 0, .int .i64 0, .int .i64 0] 27)).heap.size = w.heap.size + 1 := by simp
  obtain ⟨wv, hwv⟩ : ∃ wv, wv = w.alloc (.cells #[.int .i64 0, .int .i64 0, .int .i64 0, .int .i64 0] 27) := ⟨_, rfl⟩
  rw [← hwv] at z0 bw hszv
  have HWV := Lib.hid hwv
  clear hwv
  have hv : BytesAt wv (.slice A code.length c) code := h.below bw (Nat.le_refl _)
  obtain ⟨g, hgg⟩ : ∃ g, g = wv.heap.size := ⟨_, rfl⟩
  obtain ⟨B, hBB⟩ : ∃ B, B = w.heap.size := ⟨_, rfl⟩
  have q0 := CurAt.start hv hw
  have hs0 := start_size wv (.slice A code.length c)
  have z1 := z0.al (.cells #[.slice A code.length c, .int .i64 0, .int .u64 0] 70)
  obtain ⟨w0, hw0⟩ : ∃ w0, w0 = curW wv (.slice A code.length c) := ⟨_, rfl⟩
  have hfin : ∀ w', Apg g w0 w' → Below w.heap.size w w' := fun w' a => by rw [hgg, hw0] at a; exact bw.next (Nat.le_refl _) (Apart.start a)
  have Hfin := Lib.hid hfin
  have HW9 : Hid (w0 = wv.alloc (.cells #[.slice A code.length c, .int .i64 0, .int .u64 0] 70)) := hw0
  have hw9 := HW9.out
  rw [← hgg, ← hw0] at q0
  rw [← hw0, ← hgg] at hs0
  rw [← hw9] at z1
  rw [← hgg] at hszv
  rw [← hBB] at z1 hszv
  have HG := Lib.hid hgg
  have HB := Lib.hid hBB
  clear hfin hgg hw0 hw9 hBB z0 hv bw h
  have hBg : B < g := by omega
  have HSZ := Lib.hid hszv
  clear hszv
  have C1 := Lib.hid (framed_any g 0 _ code w0 q0 (by omega) hcl)
  go_enter Try.func34, Try.ntmps34
  go_upto_region 1 with fail
  rw [← HWV.out]
  go_upto_region 2 with fail
  rw [← HW9.out, ← HG.out]
  go_wp2_with fail
  refine C1.out.mono ?_; rintro e w1 ⟨x, y, cc, rr, u1, l, k1, rfl, o1, q1, a1, hl13, hk1, hj1⟩
  have z2 := z1.apl a1 hBg
  have hs1 := a1.size
  have hwB : w.heap.size ≤ B := by rw [HB.out]; exact Nat.le_refl _
  have hlo : w.heap.size ≤ w0.heap.size := by have := HB.out; omega
  clear C1 z1 q0
  have z3 := z2.al (.cells #[.int .i64 x, .int .i64 y, .int .i64 cc, .int .i64 rr] 27)
  have f3 := BoxFr.new w1 x y cc rr
  have o3 := o1.alS (.cells #[.int .i64 x, .int .i64 y, .int .i64 cc, .int .i64 rr] 27)
  have a3 := apg_al a1 (.cells #[.int .i64 x, .int .i64 y, .int .i64 cc, .int .i64 rr] 27)
  have q3 := q1.belowG ((Below.refl _ w1).alloc (Nat.le_refl _) (.cells #[.int .i64 x, .int .i64 y, .int .i64 cc, .int .i64 rr] 27)) q1.lt
  have hA3 : Hid (∀ gb, u1.ownBlock = some gb → gb < w1.heap.size) := fun gb h9 => (World.ownsRow.lt o1 gb h9).2
  have hs3 : (w1.alloc (.cells #[.int .i64 x, .int .i64 y, .int .i64 cc, .int .i64 rr] 27)).heap.size = w1.heap.size + 1 := by simp
  obtain ⟨w3, hw3⟩ : ∃ W, W = w1.alloc (.cells #[.int .i64 x, .int .i64 y, .int .i64 cc, .int .i64 rr] 27) := ⟨_, rfl⟩
  obtain ⟨F, hF⟩ : ∃ F, F = w1.heap.size := ⟨_, rfl⟩
  have hBF : F ≠ B := by omega
  have hBF2 : B ≠ F := by omega
  have hF0 : w0.heap.size ≤ F := by omega
  rw [← hw3] at z3 f3 o3 a3 q3 hs3
  rw [← hF] at f3 hA3 hs3
  have HW3 := Lib.hid hw3
  have HF := Lib.hid hF
  have hB0 : B < w0.heap.size := by omega
  have hgB0 : g < F := by omega
  clear z2 o1 q1 a1 hw3 hF hs1
  have C3 := Lib.hid (chOwn_rx u1 l w3 o3.reads (by omega))
  go_upto_region 3 with fail
  rw [← HW3.out]
  go_wp2_with fail
  refine C3.out.mono ?_; rintro e w4 ⟨u4, rfl, p4, b4⟩
  have z4 := z3.keep b4 z3.lt
  have f4 := f3.keep b4 f3.lt
  have o4 := OwnRow.below o3 b4 (Nat.le_refl _)
  have q4 := q3.belowG b4 q3.lt
  have a4 := a3.next b4
  have hs4 := b4.size
  have hF3 : F < w3.heap.size := by omega
  clear C3 z3 f3 o3 q3 a3 b4 hs3
  rw [← HF.out]
  obtain ⟨A4, c4, hu4, hn4, hc4⟩ := p4.reads.shape
  subst hu4
  go_wp2_with fail
  go_loopw [22] (fun s wr => ∃ (j : Nat) (m : List Spt) (k : Nat), j ≤ l.length ∧ s = .int .i64 j ∧ m.length = l.length ∧ k ≤ k1 + 4 * j ∧ OwnRow sptRec wr w3.heap.size (.slice A4 l.length c4) m ∧ OwnRow sptRec wr w0.heap.size u1 l ∧ CurAt wr g (.slice A code.length c) code k ∧ Apg g w0 wr ∧ BoxFr wr B 0 0 0 0 ∧ BoxFr wr F x y cc rr ∧ w4.heap.size ≤ wr.heap.size) (fun s _ => l.length - (intOf s).toNat)
  case atStart => exact ⟨0, l, k1, Nat.zero_le _, rfl, rfl, by omega, p4, o4, q4, a4, z4, f4, Nat.le_refl _⟩
  case round =>
    obtain ⟨j, m, k, hj, rfl, hm, hk, pr, or_, qr, ar, zr, fr, hsr⟩ := hrel
    clear p4 o4 q4 a4 z4 f4
    by_cases hlt : j < l.length
    · have C5 := Lib.hid (one_ex g _ code 2 k wr (by omega) qr)
      obtain ⟨gb, cb, he, hgb⟩ := pr.lit (by omega)
      injection he with e1 e2 e3
      subst e1
      clear e2 e3
      have hjm : (j : Int) < (l.length : Int) := by omega
      have hj0 : (0 : Int) ≤ (j : Int) := by omega
      go_wp2_with fail
      refine C5.out.mono ?_; rintro e w5 ⟨t, k5, rfl, hk5, hj5, q5, a5⟩
      have p5 := pr.aptS a5 (by omega)
      have o5 := or_.aptS a5 (by omega)
      have aa5 := ar.trans a5
      have z5 := zr.apl a5 hBg
      have f5 := fr.apt a5 hgB0
      have hs5 := a5.size
      clear C5 pr or_ qr ar zr fr a5
      cases t
      case false =>
        go_wp2_with fail
        go_roundw
        case rel => exact ⟨j + 1, m, k5, by omega, by go_num, hm, by omega, p5, o5, q5, aa5, z5, f5, by omega⟩
        case measure => simp [intOf]; omega
      case true =>
        have P6 := Lib.hid (pick_ex g _ code 10 k5 w5.drew (by omega) (by omega) q5.dr)
        obtain ⟨c0, c1⟩ := spt_cell9 p5 j (by omega)
        go_upto_region 8 with fail
        go_region_law (first | (go_simp; go_at_call 57; (with_reducible refine P6.out.mono ?_); rintro e w6 ⟨yy, k6, rfl, hyy, hk6, hj6, q6, a6⟩; have p6 := OwnRow.aptS (OwnRow.drewN p5 1) a6 (by omega); have c6 := spt_cell9 p6 j (by omega); obtain ⟨d0, d1⟩ := c6))
        all_goals
          have o6 := OwnRow.aptS (OwnRow.drewN o5 1) a6 (by omega)
          have aa6 := (aa5.next (Below.refl _ _).drew).trans a6
          have z6 := BoxFr.apl (w := w5.drew) z5 a6 hBg
          have f6 := BoxFr.apt (w := w5.drew) f5 a6 hgB0
          have hs6 : w5.heap.size ≤ w6.heap.size := a6.size
          go_wp2_with fail
          go_roundw
          case rel =>
            refine ⟨j + 1, m.set j ⟨_, (gx sptRec m j).y⟩, k6, by omega, by go_num, by simp [hm], by omega, OwnRow.setX p6 j _ (by omega), OwnRow.setO o6 (fun gb h9 => by have := hA3.out gb h9; omega) _ _, q6.belowG ((Below.refl w3.heap.size w6).setCell (p := ⟨gb, j * 2, none⟩) hgb _) (by omega), aa6.trans2 ((Below.refl w3.heap.size w6).setCell (p := ⟨gb, j * 2, none⟩) hgb _) (by omega), z6.off (p := ⟨gb, j * 2, none⟩) (by show gb ≠ B; omega) _, f6.off (p := ⟨gb, j * 2, none⟩) (by show gb ≠ F; omega) _, by simp; omega⟩
          case measure => simp [intOf]; omega
    · obtain rfl : j = l.length := by omega
      obtain ⟨c0, c1, c2, c3, f0, f1, f2, f3⟩ := zr.cells
      obtain ⟨d0, d1, d2, d3, _, _, _, _⟩ := fr.cells
      have zf := Lib.hid (zr.set x y cc rr)
      have of := Lib.hid (or_.set4L (b := B) (by omega) x y cc rr)
      have pf := Lib.hid (pr.set4L (b := B) (by omega) x y cc rr)
      have bf := Lib.hid (below_set4 (Hfin.out _ ar) hwB x y cc rr)
      clear zr fr or_ pr qr ar
      rw [← HB.out]
      go_wp2_with fail
      obtain ⟨r0, r1, r2, r3, _, _, _, _⟩ := zf.out.cells
      exact bodyPost_ret (v := .tuple #[.agg #[.int .i64 x, .int .i64 y, .int .i64 cc, .int .i64 rr], u1, .slice A4 l.length c4]) (by simp [results, Try.results34, go_sem, r0, r1, r2, r3]) rfl ⟨x, y, cc, rr, u1, l, _, m, rfl, OwnRow.lo of.out hlo, OwnRow.lo pf.out (by omega), bf.out, hl13, by omega⟩
theorem spt_cell8 {w : World} {lo g n c : Nat} {l : List Spt} (h : OwnRow sptRec w lo (.slice (some ⟨g, 0, none⟩) n c) l) (i : Nat) (hi : i < l.length) : w.cell? ⟨g, i * 2 + 1, none⟩ = some (.int .i64 (gx sptRec l i).y) := OwnRow.cell h i hi 1 (by decide)
theorem BoxS.apl {w w' : World} {b g : Nat} {x y : Int} (h : BoxS w b x y) (ha : Apg g w w') (hb : b < g) : BoxS w' b x y := (ha.block b h.lt (.inl hb)).trans h
theorem CurAt.off9 {w W W' : World} {g n : Nat} {v : Value} {code : List Nat} (q : CurAt W g v code n) (h : BytesAt w v code) (hg : w.heap.size ≤ g) (hb : Below w.heap.size w W') (hblk : W'.heap[g]? = W.heap[g]?) : CurAt W' g v code n := ⟨hblk.trans q.heap, ⟨w, h, hg, hb⟩, q.wf⟩
set_option maxRecDepth 100000 in
set_option maxHeartbeats 3200000 in
theorem drawCellOf_any (v : Value) (code : List Nat) (w : World) (h : BytesAt w v code) (hw : WfCode code) (hcl : code.length ≤ 1099511627776) :
    Calls Try.prog 25 #[v] w (DrawnCl w) := by
  obtain ⟨A, c, rfl, hnc, hc63⟩ := Sl.shape h
  have z0 := (BoxFr.new w 0 0 0 0).al (.cells #[.int .i64 0, .int .i64 0] 25)
  have s0 := BoxS.new (w.alloc (.cells #[.int .i64 0, .int .i64 0, .int .i64 0, .int .i64 0] 27)) 0 0
  have bw := ((Below.refl w.heap.size w).alloc (Nat.le_refl _) (.cells #[.int .i64 0, .int .i64 0, .int .i64 0, .int .i64 0] 27)).alloc (by simp) (.cells #[.int .i64 0, .int .i64 0] 25)
  have hszv : ((w.alloc (.cells #[.int .i64 0, .int .i64 0, .int .i64 0, .int .i64 0] 27)).alloc (.cells #[.int .i64 0, .int .i64 0] 25)).heap.size = w.heap.size + 2 := by simp
  have hsz1 : (w.alloc (.cells #[.int .i64 0, .int .i64 0, .int .i64 0, .int .i64 0] 27)).heap.size = w.heap.size + 1 := by simp
  rw [hsz1] at s0
  obtain ⟨wv, hwv⟩ : ∃ wv, wv = (w.alloc (.cells #[.int .i64 0, .int .i64 0, .int .i64 0, .int .i64 0] 27)).alloc (.cells #[.int .i64 0, .int .i64 0] 25) := ⟨_, rfl⟩
  rw [← hwv] at z0 s0 bw hszv
  have HWV := Lib.hid hwv
  clear hwv hsz1
  have hv : BytesAt wv (.slice A code.length c) code := h.below bw (Nat.le_refl _)
  obtain ⟨g, hgg⟩ : ∃ g, g = wv.heap.size := ⟨_, rfl⟩
  obtain ⟨B, hBB⟩ : ∃ B, B = w.heap.size := ⟨_, rfl⟩
  obtain ⟨D, hDD⟩ : ∃ D, D = w.heap.size + 1 := ⟨_, rfl⟩
  have q0 := CurAt.start hv hw
  have hs0 := start_size wv (.slice A code.length c)
  have z1 := z0.al (.cells #[.slice A code.length c, .int .i64 0, .int .u64 0] 70)
  have s1 := s0.al (.cells #[.slice A code.length c, .int .i64 0, .int .u64 0] 70)
  obtain ⟨w0, hw0⟩ : ∃ w0, w0 = curW wv (.slice A code.length c) := ⟨_, rfl⟩
  have hfin : ∀ w', Apg g w0 w' → Below w.heap.size w w' := fun w' a => by rw [hgg, hw0] at a; exact bw.next (Nat.le_refl _) (Apart.start a)
  have Hfin := Lib.hid hfin
  have HW9 : Hid (w0 = wv.alloc (.cells #[.slice A code.length c, .int .i64 0, .int .u64 0] 70)) := hw0
  have hw9 := HW9.out
  rw [← hgg, ← hw0] at q0
  rw [← hw0, ← hgg] at hs0
  rw [← hw9] at z1 s1
  rw [← hgg] at hszv
  rw [← hBB] at z1 hszv
  rw [← hDD] at s1
  have HG := Lib.hid hgg
  have HB := Lib.hid hBB
  have HD := Lib.hid hDD
  have hwB : w.heap.size ≤ B := by omega
  have hwD : w.heap.size ≤ D := by omega
  have hDB : D = B + 1 := by omega
  have hwg : w.heap.size ≤ g := by omega
  have HBy := Lib.hid h
  clear hfin hgg hw0 hw9 hBB hDD z0 s0 hv bw h
  have hBg : B < g := by omega
  have hDg : D < g := by omega
  have hDB2 : D ≠ B := by omega
  have hBD2 : B ≠ D := by omega
  have HS_Z := Lib.hid hszv
  have HDB := Lib.hid hDB
  clear hszv hDB
  have C1 := Lib.hid (framed_any g 0 _ code w0 q0 (by omega) hcl)
  go_enter Try.func25, Try.ntmps25
  go_upto_region 1 with fail
  rw [← HWV.out]
  go_upto_region 2 with fail
  rw [← HW9.out, ← HG.out]
  go_wp2_with fail
  refine C1.out.mono ?_; rintro e w1 ⟨x, y, cc, rr, u1, l, k1, rfl, o1, q1, a1, hl13, hk1, hj1⟩
  have z2 := z1.apl a1 hBg
  have s2 := s1.apl a1 hDg
  have hs1 := a1.size
  clear C1 z1 s1 q0
  have z3 := z2.al (.cells #[.int .i64 x, .int .i64 y, .int .i64 cc, .int .i64 rr] 27)
  have s3 := s2.al (.cells #[.int .i64 x, .int .i64 y, .int .i64 cc, .int .i64 rr] 27)
  have f3 := BoxFr.new w1 x y cc rr
  have o3 := o1.alS (.cells #[.int .i64 x, .int .i64 y, .int .i64 cc, .int .i64 rr] 27)
  have a3 := apg_al a1 (.cells #[.int .i64 x, .int .i64 y, .int .i64 cc, .int .i64 rr] 27)
  have q3 := q1.belowG ((Below.refl _ w1).alloc (Nat.le_refl _) (.cells #[.int .i64 x, .int .i64 y, .int .i64 cc, .int .i64 rr] 27)) q1.lt
  obtain ⟨w3, hw3⟩ : ∃ W, W = w1.alloc (.cells #[.int .i64 x, .int .i64 y, .int .i64 cc, .int .i64 rr] 27) := ⟨_, rfl⟩
  obtain ⟨F, hF⟩ : ∃ F, F = w1.heap.size := ⟨_, rfl⟩
  have hBF : F ≠ B := by omega
  have hBF2 : B ≠ F := by omega
  have hDF : F ≠ D := by omega
  have hDF2 : D ≠ F := by omega
  have hgF : g < F := by omega
  rw [← hw3] at z3 s3 f3 o3 a3 q3
  rw [← hF] at f3
  have HW3 := Lib.hid hw3
  have HF := Lib.hid hF
  clear z2 s2 o1 q1 a1 hw3 hF hs1
  have hFIN : Hid (∀ W (sx sy : Int), BoxFr W B x y cc rr → BoxS W D sx sy → Below w.heap.size w W → ∀ tm : Array Value, tm[2]? = some (.pointer (some ⟨B, 0, none⟩)) → tm[3]? = some (.pointer (some ⟨D, 0, none⟩)) → bodyPost Try.prog Try.f25 (DrawnCl w) Exit.ret ⟨tm, []⟩ W) := by
    intro W sx sy hz hs hb tm t2 t3
    obtain ⟨r0, r1, r2, r3, _, _, _, _⟩ := hz.cells
    obtain ⟨y0, y1, _, _⟩ := hs.cells
    exact bodyPost_ret (v := .tuple #[.agg #[.int .i64 x, .int .i64 y, .int .i64 cc, .int .i64 rr], .agg #[.int .i64 sx, .int .i64 sy]]) (by simp [results, Try.results25, go_sem, r0, r1, r2, r3, y0, y1, t2, t3]) rfl ⟨x, y, cc, rr, sx, sy, rfl, hb⟩
  go_upto_region 3 with fail
  rw [← HW3.out, ← HF.out, ← HB.out]
  rw [← HDB.out]
  obtain ⟨A1, c1_, hu1, hn1, hc1_⟩ := o3.reads.shape
  subst hu1
  by_cases hl0 : l.length = 0
  · have hl0i : ((l.length : Int) == 0) = true := by rw [hl0]; rfl
    go_upto_region 4 with fail
    have P := Lib.hid (fun W9 (q9 : CurAt W9 g (.slice A code.length c) code k1) => anySpot_any g k1 _ code W9 q9 (by omega))
    obtain ⟨c0, c1, c2, c3, m0, m1, m2, m3⟩ := z3.cells
    obtain ⟨e0, e1, e2, e3, _, _, _, _⟩ := f3.cells
    obtain ⟨d0, d1, n0, n1⟩ := s3.cells
    go_region_law (first | (go_simp; go_at_call 56; (with_reducible refine (P.out _ q3.dr).mono ?_); rintro e w6 ⟨sx, sy, k6, rfl, q6, a6, _⟩; have z6 := BoxFr.apl (w := w3.drew) z3 a6 hBg; have s6 := BoxS.apl (w := w3.drew) s3 a6 hDg; have f6 := BoxFr.apt (w := w3.drew) f3 a6 hgF; obtain ⟨c0', c1', c2', c3', m0', m1', m2', m3'⟩ := z6.cells; obtain ⟨e0', e1', e2', e3', _, _, _, _⟩ := f6.cells; obtain ⟨d0', d1', n0', n1'⟩ := s6.cells))
    all_goals
      have aa6 := (a3.next (Below.refl _ _).drew).trans a6
      go_wp2_with fail
      exact hFIN.out _ sx sy (((z6.set x y cc rr).off (p := ⟨D, 0, none⟩) hDB2 _).off (p := ⟨D, 1, none⟩) hDB2 _) (((((s6.off (p := ⟨B, 0, none⟩) hBD2 _).off (p := ⟨B, 1, none⟩) hBD2 _).off (p := ⟨B, 2, none⟩) hBD2 _).off (p := ⟨B, 3, none⟩) hBD2 _).set sx sy) (below_set2 (below_set4 (Hfin.out _ aa6) hwB x y cc rr) hwD (.int .i64 sx) (.int .i64 sy)) _ rfl rfl
  · have hl0i : ((l.length : Int) == 0) = false := by rw [beq_eq_false_iff_ne]; omega
    have C4 := Lib.hid (one_ex g _ code 6 k1 w3 (by omega) q3)
    go_wp2_with fail
    refine C4.out.mono ?_; rintro e w4 ⟨t4, k4, rfl, hk4, hj4, q4, a4⟩
    have z4 := z3.apl a4 hBg
    have s4 := s3.apl a4 hDg
    have f4 := f3.apt a4 hgF
    have o4 := o3.aptS a4 (by omega)
    have aa4 := a3.trans a4
    clear C4 z3 s3 f3 q3 a3 o3 a4
    cases t4
    case true =>
      go_upto_region 4 with fail
      have P := Lib.hid (fun W9 (q9 : CurAt W9 g (.slice A code.length c) code k4) => anySpot_any g k4 _ code W9 q9 (by omega))
      obtain ⟨c0, c1, c2, c3, m0, m1, m2, m3⟩ := z4.cells
      obtain ⟨e0, e1, e2, e3, _, _, _, _⟩ := f4.cells
      obtain ⟨d0, d1, n0, n1⟩ := s4.cells
      go_region_law (first | (go_simp; go_at_call 56; (with_reducible refine (P.out _ q4.dr).mono ?_); rintro e w6 ⟨sx, sy, k6, rfl, q6, a6, _⟩; have z6 := BoxFr.apl (w := w4.drew) z4 a6 hBg; have s6 := BoxS.apl (w := w4.drew) s4 a6 hDg; have f6 := BoxFr.apt (w := w4.drew) f4 a6 hgF; obtain ⟨c0', c1', c2', c3', m0', m1', m2', m3'⟩ := z6.cells; obtain ⟨e0', e1', e2', e3', _, _, _, _⟩ := f6.cells; obtain ⟨d0', d1', n0', n1'⟩ := s6.cells))
      all_goals
        have aa6 := (aa4.next (Below.refl _ _).drew).trans a6
        go_wp2_with fail
        exact hFIN.out _ sx sy (((z6.set x y cc rr).off (p := ⟨D, 0, none⟩) hDB2 _).off (p := ⟨D, 1, none⟩) hDB2 _) (((((s6.off (p := ⟨B, 0, none⟩) hBD2 _).off (p := ⟨B, 1, none⟩) hBD2 _).off (p := ⟨B, 2, none⟩) hBD2 _).off (p := ⟨B, 3, none⟩) hBD2 _).set sx sy) (below_set2 (below_set4 (Hfin.out _ aa6) hwB x y cc rr) hwD (.int .i64 sx) (.int .i64 sy)) _ rfl rfl
    case false =>
      obtain ⟨gl_, cl_, he, hgl⟩ := o4.lit (by omega)
      injection he with e1 e2 e3
      subst e1
      clear e2 e3
      have P := Lib.hid (pick_ex g _ code (l.length : Int) k4 w4.drew (by omega) (by omega) q4.dr)
      obtain ⟨c0, c1, c2, c3, m0, m1, m2, m3⟩ := z4.cells
      obtain ⟨e0, e1, e2, e3, _, _, _, _⟩ := f4.cells
      obtain ⟨d0, d1, n0, n1⟩ := s4.cells
      go_upto_region 5 with fail
      go_region_law (first | (go_simp; go_at_call 57; (with_reducible refine P.out.mono ?_); rintro e w6 ⟨yy, k6, rfl, hyy, hk6, hj6, q6, a6⟩; have z6 := BoxFr.apl (w := w4.drew) z4 a6 hBg; have s6 := BoxS.apl (w := w4.drew) s4 a6 hDg; have f6 := BoxFr.apt (w := w4.drew) f4 a6 hgF; have o6 := OwnRow.aptS (OwnRow.drewN o4 1) a6 (by omega); have hy0 : yy < l.length := (by omega); have y1' := (spt_cell9 o6 yy hy0).1; have y2' := spt_cell8 o6 yy hy0; have hyn : (0 : Int) ≤ (yy : Int) := (by omega); obtain ⟨c0', c1', c2', c3', m0', m1', m2', m3'⟩ := z6.cells; obtain ⟨e0', e1', e2', e3', _, _, _, _⟩ := f6.cells; obtain ⟨d0', d1', n0', n1'⟩ := s6.cells))
      all_goals
        have aa6 := (aa4.next (Below.refl _ _).drew).trans a6
        go_wp2_with fail
        exact hFIN.out _ (gx sptRec l yy).x (gx sptRec l yy).y (((z6.set x y cc rr).off (p := ⟨D, 0, none⟩) hDB2 _).off (p := ⟨D, 1, none⟩) hDB2 _) (((((s6.off (p := ⟨B, 0, none⟩) hBD2 _).off (p := ⟨B, 1, none⟩) hBD2 _).off (p := ⟨B, 2, none⟩) hBD2 _).off (p := ⟨B, 3, none⟩) hBD2 _).set (gx sptRec l yy).x (gx sptRec l yy).y) (below_set2 (below_set4 (Hfin.out _ aa6) hwB x y cc rr) hwD (.int .i64 (gx sptRec l yy).x) (.int .i64 (gx sptRec l yy).y)) _ rfl rfl

end Go.Proofs.Ytjbffahnbkpcnaa
