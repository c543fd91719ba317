/- The draw of a frame and a view. -/
import Derived.Test.YtjbffahnbkpcnaaDrawRv
import Derived.Test.YtjbffahnbkpcnaaDrawSpo
import Derived.Test.YtjbffahnbkpcnaaViewT
set_option linter.unusedSimpArgs false
set_option linter.unusedVariables false
namespace Go.Proofs.Ytjbffahnbkpcnaa
open Go.RowKit Go.Sort

def DrawnRv (w : World) (e : Ending) (w' : World) : Prop := ∃ (x y c r : Int) (u : Value) (L : List ByteArray), e = .returned (.tuple #[.agg #[.int .i64 x, .int .i64 y, .int .i64 c, .int .i64 r], u]) ∧ OwnRow strRec w' w.heap.size u L ∧ Below w.heap.size w w' ∧ L.length ≤ 31 ∧ ∀ i, i < L.length → (gx strRec L i).size ≤ 100
theorem set_one {w : World} {lo g n c : Nat} {l : List ByteArray} (h : OwnRow strRec w lo (.slice (some ⟨g, 0, none⟩) n c) l) (i : Nat) (x : ByteArray) (hi : i < l.length) : OwnRow strRec (w.setCell ⟨g, i, none⟩ (.string x)) lo (.slice (some ⟨g, 0, none⟩) n c) (l.set i x) := by
  have h1 := (h.set i x hi).1
  have e : setCells w g (i * strRec.sz) (strRec.cells x) = w.setCell ⟨g, i, none⟩ (.string x) := by
    show w.setCell ⟨g, i * 1, none⟩ (.string x) = _
    rw [Nat.mul_one]
  rwa [e] at h1
theorem sz_set {L : List ByteArray} {k : Nat} {r : ByteArray} (h : ∀ i, i < L.length → (gx strRec L i).size ≤ 100) (hr : r.size ≤ 100) : ∀ i, i < (L.set k r).length → (gx strRec (L.set k r) i).size ≤ 100 := by
  intro i hi
  rw [List.length_set] at hi
  rw [gx_eq (by rw [List.length_set]; exact hi), List.getElem_set]
  split
  · exact hr
  · have := h i hi; rwa [gx_eq hi] at this
theorem sz_snoc {L : List ByteArray} {r : ByteArray} (h : ∀ i, i < L.length → (gx strRec L i).size ≤ 100) (hr : r.size ≤ 100) : ∀ i, i < (L ++ [r]).length → (gx strRec (L ++ [r]) i).size ≤ 100 := by
  intro i hi
  rw [gx_eq hi]
  rcases Nat.lt_or_ge i L.length with h9 | h9
  · rw [List.getElem_append_left h9]; have := h i h9; rwa [gx_eq h9] at this
  · have e : i = L.length := by simp at hi; omega
    subst e
    simp; exact hr

set_option maxRecDepth 100000 in
set_option maxHeartbeats 3200000 in
theorem drawReadView_any (v : Value) (code : List Nat) (w : World) (h : BytesAt w v code) (hw : WfCode code) (hcl : code.length ≤ 1099511627776) :
    Calls Try.prog 26 #[v] w (DrawnRv w) := by
  obtain ⟨A, c, rfl, hnc, hc63⟩ := Sl.shape h
  have z0 := BoxFr.new w 0 0 0 0
  have bw := (Below.refl w.heap.size w).alloc (Nat.le_refl _) (.cells #[.int .i64 0, .int .i64 0, .int .i64 0, .int .i64 0] 27)
  have hszv : (w.alloc (.cells #[.int .i64 0, .int .i64 0, .int .i64 0, .int .i64 0] 27)).heap.size = w.heap.size + 1 := by simp
  obtain ⟨wv, hwv⟩ : ∃ wv, wv = w.alloc (.cells #[.int .i64 0, .int .i64 0, .int .i64 0, .int .i64 0] 27) := ⟨_, rfl⟩
  rw [← hwv] at z0 bw hszv
  have HWV := Lib.hid hwv
  clear hwv
  have hv : BytesAt wv (.slice A code.length c) code := h.below bw (Nat.le_refl _)
  obtain ⟨g, hgg⟩ : ∃ g, g = wv.heap.size := ⟨_, rfl⟩
  obtain ⟨B, hBB⟩ : ∃ B, B = w.heap.size := ⟨_, rfl⟩
  have q0 := CurAt.start hv hw
  have hs0 := start_size wv (.slice A code.length c)
  have z1 := z0.al (.cells #[.slice A code.length c, .int .i64 0, .int .u64 0] 70)
  obtain ⟨w0, hw0⟩ : ∃ w0, w0 = curW wv (.slice A code.length c) := ⟨_, rfl⟩
  have hfin : ∀ w', Apg g w0 w' → Below w.heap.size w w' := fun w' a => by rw [hgg, hw0] at a; exact bw.next (Nat.le_refl _) (Apart.start a)
  have Hfin := Lib.hid hfin
  have HW9 : Hid (w0 = wv.alloc (.cells #[.slice A code.length c, .int .i64 0, .int .u64 0] 70)) := hw0
  have hw9 := HW9.out
  rw [← hgg, ← hw0] at q0
  rw [← hw0, ← hgg] at hs0
  rw [← hw9] at z1
  rw [← hgg] at hszv
  rw [← hBB] at z1 hszv
  have HG := Lib.hid hgg
  have HB := Lib.hid hBB
  clear hfin hgg hw0 hw9 hBB z0 hv bw h
  have hBg : B < g := by omega
  have HSZ := Lib.hid hszv
  clear hszv
  have C1 := Lib.hid (framed_any g 0 _ code w0 q0 (by omega) hcl)
  go_enter Try.func26, Try.ntmps26
  go_upto_region 1 with fail
  rw [← HWV.out]
  go_upto_region 2 with fail
  rw [← HW9.out, ← HG.out]
  go_wp2_with fail
  refine C1.out.mono ?_; rintro e w1 ⟨x, y, cc, rr, u1, l, k1, rfl, o1, q1, a1, hl13, hk1, hj1⟩
  have z2 := z1.apl a1 hBg
  have hs1 := a1.size
  have hwB : w.heap.size ≤ B := by rw [HB.out]; exact Nat.le_refl _
  have hlo : w.heap.size ≤ w0.heap.size := by have := HB.out; omega
  clear C1 z1 q0
  have z3 := z2.al (.cells #[.int .i64 x, .int .i64 y, .int .i64 cc, .int .i64 rr] 27)
  have f3 := BoxFr.new w1 x y cc rr
  have o3 := o1.alS (.cells #[.int .i64 x, .int .i64 y, .int .i64 cc, .int .i64 rr] 27)
  have a3 := apg_al a1 (.cells #[.int .i64 x, .int .i64 y, .int .i64 cc, .int .i64 rr] 27)
  have q3 := q1.belowG ((Below.refl _ w1).alloc (Nat.le_refl _) (.cells #[.int .i64 x, .int .i64 y, .int .i64 cc, .int .i64 rr] 27)) q1.lt
  obtain ⟨w3, hw3⟩ : ∃ W, W = w1.alloc (.cells #[.int .i64 x, .int .i64 y, .int .i64 cc, .int .i64 rr] 27) := ⟨_, rfl⟩
  obtain ⟨F, hF⟩ : ∃ F, F = w1.heap.size := ⟨_, rfl⟩
  have hBF : F ≠ B := by omega
  have hBF2 : B ≠ F := by omega
  have hF0 : w0.heap.size ≤ F := by omega
  rw [← hw3] at z3 f3 o3 a3 q3
  rw [← hF] at f3
  have HW3 := Lib.hid hw3
  have HF := Lib.hid hF
  have hB0 : B < w0.heap.size := by omega
  have hgB0 : g < F := by omega
  clear z2 o1 q1 a1 hw3 hF hs1
  obtain ⟨d0, d1, d2, d3, _, _, _, _⟩ := f3.cells
  have C3 := Lib.hid (vwAsked_any u1 l x y cc rr w3 o3.reads)
  go_upto_region 3 with fail
  rw [← HW3.out, ← HF.out]
  go_wp2_with fail
  refine C3.out.mono ?_; rintro e w4 ⟨rfl, b4⟩
  have z4 := z3.keep b4 z3.lt
  have f4 := f3.keep b4 f3.lt
  have o4 := OwnRow.below o3 b4 (Nat.le_refl _)
  have q4 := q3.belowG b4 q3.lt
  have a4 := a3.next b4
  have hs4 := a4.size
  clear C3 z3 f3 o3 q3 a3 b4 d0 d1 d2 d3
  cases hA : isAsk x y cc rr l
  case false =>
    have hsz4 : ((((w4.setCell ⟨B, 0, none⟩ (.int .i64 x)).setCell ⟨B, 1, none⟩ (.int .i64 y)).setCell ⟨B, 2, none⟩ (.int .i64 cc)).setCell ⟨B, 3, none⟩ (.int .i64 rr)).heap.size = w4.heap.size := by simp
    obtain ⟨d0, d1, d2, d3, _, _, _, _⟩ := f4.cells
    obtain ⟨c0, c1, c2, c3, g0, g1, g2, g3⟩ := z4.cells
    obtain ⟨e0, e1, e2, e3, k0, k1x, k2, k3⟩ := (z4.al (.cells #[.string ⟨#[65]⟩] 9)).cells
    have hB4 : B < w4.heap.size := by omega
    have hF4 : F < w4.heap.size := f4.lt
    have hB5 : B ≠ w4.heap.size := by omega
    have hF5 : F ≠ w4.heap.size := by omega
    have Z4 := Lib.hid z4
    have HS4 := Lib.hid hsz4
    have A4 := Lib.hid a4
    clear z4 hsz4 a4
    rw [← HB.out]
    go_wp2_with fail
    have zf := Lib.hid ((Z4.out.set x y cc rr).al (.cells #[.string ⟨#[65]⟩] 9))
    have bs := below_set4 (Hfin.out _ A4.out) hwB x y cc rr
    have hw4 : w.heap.size ≤ w4.heap.size := (Hfin.out _ A4.out).size
    have of : OwnRow strRec (((((w4.setCell ⟨B, 0, none⟩ (.int .i64 x)).setCell ⟨B, 1, none⟩ (.int .i64 y)).setCell ⟨B, 2, none⟩ (.int .i64 cc)).setCell ⟨B, 3, none⟩ (.int .i64 rr)).alloc (.cells #[.string ⟨#[65]⟩] 9)) w.heap.size (.slice (some ⟨w4.heap.size, 0, none⟩) 1 1) [⟨#[65]⟩] := by have h9 : OwnRow strRec (((((w4.setCell ⟨B, 0, none⟩ (.int .i64 x)).setCell ⟨B, 1, none⟩ (.int .i64 y)).setCell ⟨B, 2, none⟩ (.int .i64 cc)).setCell ⟨B, 3, none⟩ (.int .i64 rr)).alloc (.cells #[.string ⟨#[65]⟩] 9)) w.heap.size (.slice (some ⟨((((w4.setCell ⟨B, 0, none⟩ (.int .i64 x)).setCell ⟨B, 1, none⟩ (.int .i64 y)).setCell ⟨B, 2, none⟩ (.int .i64 cc)).setCell ⟨B, 3, none⟩ (.int .i64 rr)).heap.size, 0, none⟩) 1 1) [⟨#[65]⟩] := World.ownsRow_lit _ _ 1 (by rw [HS4.out]; exact hw4) (by simp [maxLen]) rfl; rwa [HS4.out] at h9
    have bf := Lib.hid (bs.alloc (by rw [HS4.out]; exact hw4) (.cells #[.string ⟨#[65]⟩] 9))
    obtain ⟨r0, r1, r2, r3, _, _, _, _⟩ := zf.out.cells
    exact bodyPost_ret (v := .tuple #[.agg #[.int .i64 x, .int .i64 y, .int .i64 cc, .int .i64 rr], .slice (some ⟨w4.heap.size, 0, none⟩) 1 1]) (by simp [results, Try.results26, go_sem, r0, r1, r2, r3]) rfl ⟨x, y, cc, rr, _, [⟨#[65]⟩], rfl, of, bf.out, by simp, (fun i hi => by have h7 : i = 0 := (by simpa using hi); subst h7; decide)⟩
  case true =>
    obtain ⟨hf, hc⟩ := isAsk_t hA
    have hft := isFrm_t hf
    have h12 := (isChart_t hc).2.1
    have Hs := Lib.hid (chart_spot hc)
    obtain ⟨C, rfl⟩ := Int.eq_ofNat_of_zero_le (show 0 ≤ cc by omega)
    obtain ⟨R, rfl⟩ := Int.eq_ofNat_of_zero_le (show 0 ≤ rr by omega)
    have hC1 : 1 ≤ C ∧ C ≤ 60 ∧ 1 ≤ R ∧ R ≤ 30 := by omega
    have C5 := Lib.hid (vwView_any u1 l x y C R w4 o4.reads hf Hs h12)
    have hLs := vwL_size x y C R l
    have hLl := vwL_len (shw x y C R l l.length) R R
    obtain ⟨L, hL⟩ : ∃ L, L = vwL (shw x y C R l l.length) R R := ⟨_, rfl⟩
    rw [← hL] at C5 hLs hLl
    have HLl := Lib.hid hLl
    have HLs : Hid (∀ i, i < L.length → (gx strRec L i).size ≤ 60) := fun i hi => by rw [hLs i hi]; omega
    clear hL hLs hLl hft hf hc
    obtain ⟨d0, d1, d2, d3, _, _, _, _⟩ := f4.cells
    go_wp2_with fail
    refine C5.out.mono ?_; rintro e w5 ⟨v5, rfl, o5, b5⟩
    have hFl : F < w4.heap.size := f4.lt
    have z5 := z4.keep b5 z4.lt
    have f5 := f4.keep b5 f4.lt
    have q5 := q4.belowG b5 q4.lt
    have a5 := a4.next b5
    have hs5 := a5.size
    clear C5 z4 f4 q4 a4 b5 o4 d0 d1 d2 d3
    obtain ⟨gg, c5, rfl, hgg⟩ := o5.lit (by rw [HLl.out]; omega)
    have hL0 : 1 ≤ L.length ∧ L.length ≤ 30 := by rw [HLl.out]; omega
    have C6 := Lib.hid (pick_ex g _ code L.length k1 w5 (by omega) (by omega) q5)
    go_wp2_with fail
    refine C6.out.mono ?_; rintro e w6 ⟨ix, k6, rfl, hix, hk6, hj6, q6, a6⟩
    have C7 := Lib.hid (pick_ex g _ code 8 k6 w6 (by omega) (by omega) q6)
    go_wp2_with fail
    refine C7.out.mono ?_; rintro e w7 ⟨yy, k7, rfl, hyy, hk7, hj7, q7, a7⟩
    have o7 := (o5.aptS a6 (by omega)).aptS a7 (by omega)
    have z7 := (z5.apl a6 hBg).apl a7 hBg
    have f7 := (f5.apt a6 hgB0).apt a7 hgB0
    have aa7 := (a5.trans a6).trans a7
    have hs7 := aa7.size
    clear C6 C7 o5 z5 f5 q5 a5 q6 a6 a7
    have hi7 : ix < L.length := by omega
    have o8 := OwnRow.lo o7 (show w0.heap.size ≤ w4.heap.size by omega)
    have hcx := str_own o8 ix hi7
    have hfx : w7.frozen? ⟨gg, ix, none⟩ = false := OwnRow.free o8 _
    have hsx := HLs.out ix hi7
    have hwf : ∀ i, i < L.length → (gx strRec L i).size ≤ 100 := fun i hi => by have := HLs.out i hi; omega
    have HWF := Lib.hid hwf
    clear hwf
    have hFg : F ≠ gg := by omega
    have hBg9 : B ≠ gg := by omega
    have hy5 : yy = 0 ∨ yy = 1 ∨ yy = 2 ∨ 3 ≤ yy := by omega
    rcases hy5 with rfl | rfl | rfl | hy5
    · have C8 := Lib.hid (spoilt_any g k7 _ code (gx strRec L ix) ⟨#[46, 65, 66, 67]⟩ w7 q7 (by omega) (by omega) (by decide) (by decide))
      go_wp2_with fail
      refine C8.out.mono ?_; rintro e w8 ⟨r, k8, rfl, hr, hk8, hj8, q8, a8⟩
      have o9 := o8.aptS a8 (by omega)
      have z9 := z7.apl a8 hBg
      have f9 := f7.apt a8 hgB0
      have aa8 := aa7.trans a8
      have hcx8 := str_own o9 ix hi7
      have hfx8 : w8.frozen? ⟨gg, ix, none⟩ = false := OwnRow.free o9 _
      clear C8 hcx hfx
      have bb9 := (Below.refl w0.heap.size w8).setCell (p := ⟨gg, ix, none⟩) (by show w0.heap.size ≤ gg; omega) (.string r)
      obtain ⟨d0, d1, d2, d3, _, _, _, _⟩ := (f9).cells
      obtain ⟨c0, c1, c2, c3, g0, g1, g2, g3⟩ := (z9.keep bb9 hB0).cells
      rw [← HB.out]
      go_wp2_with fail
      have zf := Lib.hid ((z9.keep bb9 hB0).set x y (C : Int) (R : Int))
      have of := Lib.hid ((set_one o9 ix r hi7).set4L (b := B) (by omega) x y (C : Int) (R : Int))
      have bf := Lib.hid (below_set4 (Hfin.out _ (aa8.trans2 bb9 (Nat.le_refl _))) hwB x y (C : Int) (R : Int))
      obtain ⟨r0, r1, r2, r3, _, _, _, _⟩ := zf.out.cells
      exact bodyPost_ret (v := .tuple #[.agg #[.int .i64 x, .int .i64 y, .int .i64 (C : Int), .int .i64 (R : Int)], .slice (some ⟨gg, 0, none⟩) L.length c5]) (by simp [results, Try.results26, go_sem, r0, r1, r2, r3]) rfl ⟨x, y, (C : Int), (R : Int), _, (L.set ix r), rfl, OwnRow.lo of.out hlo, bf.out, by rw [List.length_set]; omega, sz_set HWF.out (by omega)⟩
    · have h9 : L.length + 1 ≤ 1099511627776 := by omega
      go_upto_region 14 with (at_builtin; refine wp_app_str _ rfl _ _ rfl w0.heap.size _ L rfl o8 (gx strRec L ix) _ rfl rfl h9 hs7 ?_; intro v9 w9 o9 hg9)
      have z9 := z7.keep hg9.below hB0
      have aa9 := aa7.trans2 hg9.below (Nat.le_refl _)
      have f9 : BoxFr w9 F x y C R := (hg9.grown.block F f7.lt (by intro e; have e9 : some F = some gg := e; injection e9 with e9; omega)).trans f7
      obtain ⟨d0, d1, d2, d3, _, _, _, _⟩ := (f9).cells
      obtain ⟨c0, c1, c2, c3, g0, g1, g2, g3⟩ := (z9).cells
      rw [← HB.out]
      go_wp2_with fail
      have zf := Lib.hid ((z9).set x y (C : Int) (R : Int))
      have of := Lib.hid ((o9).set4L (b := B) (by omega) x y (C : Int) (R : Int))
      have bf := Lib.hid (below_set4 (Hfin.out _ (aa9)) hwB x y (C : Int) (R : Int))
      obtain ⟨r0, r1, r2, r3, _, _, _, _⟩ := zf.out.cells
      exact bodyPost_ret (v := .tuple #[.agg #[.int .i64 x, .int .i64 y, .int .i64 (C : Int), .int .i64 (R : Int)], v9]) (by simp [results, Try.results26, go_sem, r0, r1, r2, r3]) rfl ⟨x, y, (C : Int), (R : Int), _, (L ++ [gx strRec L ix]), rfl, OwnRow.lo of.out hlo, bf.out, by simp; omega, sz_snoc HWF.out (by omega)⟩
    · have C8 := Lib.hid (spoilt_any g k7 _ code (gx strRec L ix) ⟨#[46, 97, 77, 49]⟩ w7 q7 (by omega) (by omega) (by decide) (by decide))
      go_wp2_with fail
      refine C8.out.mono ?_; rintro e w8 ⟨r, k8, rfl, hr, hk8, hj8, q8, a8⟩
      have o9 := o8.aptS a8 (by omega)
      have z9 := z7.apl a8 hBg
      have f9 := f7.apt a8 hgB0
      have aa8 := aa7.trans a8
      have hcx8 := str_own o9 ix hi7
      have hfx8 : w8.frozen? ⟨gg, ix, none⟩ = false := OwnRow.free o9 _
      clear C8 hcx hfx
      have bb9 := (Below.refl w0.heap.size w8).setCell (p := ⟨gg, ix, none⟩) (by show w0.heap.size ≤ gg; omega) (.string r)
      obtain ⟨d0, d1, d2, d3, _, _, _, _⟩ := (f9).cells
      obtain ⟨c0, c1, c2, c3, g0, g1, g2, g3⟩ := (z9.keep bb9 hB0).cells
      rw [← HB.out]
      go_wp2_with fail
      have zf := Lib.hid ((z9.keep bb9 hB0).set x y (C : Int) (R : Int))
      have of := Lib.hid ((set_one o9 ix r hi7).set4L (b := B) (by omega) x y (C : Int) (R : Int))
      have bf := Lib.hid (below_set4 (Hfin.out _ (aa8.trans2 bb9 (Nat.le_refl _))) hwB x y (C : Int) (R : Int))
      obtain ⟨r0, r1, r2, r3, _, _, _, _⟩ := zf.out.cells
      exact bodyPost_ret (v := .tuple #[.agg #[.int .i64 x, .int .i64 y, .int .i64 (C : Int), .int .i64 (R : Int)], .slice (some ⟨gg, 0, none⟩) L.length c5]) (by simp [results, Try.results26, go_sem, r0, r1, r2, r3]) rfl ⟨x, y, (C : Int), (R : Int), _, (L.set ix r), rfl, OwnRow.lo of.out hlo, bf.out, by rw [List.length_set]; omega, sz_set HWF.out (by omega)⟩
    · have i0 : ((yy : Int) == 0) = false := by simp; omega
      have i1 : ((yy : Int) == 1) = false := by simp; omega
      have i2 : ((yy : Int) == 2) = false := by simp; omega
      obtain ⟨d0, d1, d2, d3, _, _, _, _⟩ := (f7).cells
      obtain ⟨c0, c1, c2, c3, g0, g1, g2, g3⟩ := (z7).cells
      rw [← HB.out]
      go_wp2_with fail
      have zf := Lib.hid ((z7).set x y (C : Int) (R : Int))
      have of := Lib.hid ((o8).set4L (b := B) (by omega) x y (C : Int) (R : Int))
      have bf := Lib.hid (below_set4 (Hfin.out _ (aa7)) hwB x y (C : Int) (R : Int))
      obtain ⟨r0, r1, r2, r3, _, _, _, _⟩ := zf.out.cells
      exact bodyPost_ret (v := .tuple #[.agg #[.int .i64 x, .int .i64 y, .int .i64 (C : Int), .int .i64 (R : Int)], .slice (some ⟨gg, 0, none⟩) L.length c5]) (by simp [results, Try.results26, go_sem, r0, r1, r2, r3]) rfl ⟨x, y, (C : Int), (R : Int), _, L, rfl, OwnRow.lo of.out hlo, bf.out, by omega, HWF.out⟩
end Go.Proofs.Ytjbffahnbkpcnaa
