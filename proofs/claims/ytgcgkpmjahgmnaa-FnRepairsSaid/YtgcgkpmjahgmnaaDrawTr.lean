/- The draw of a transition: it lies in memory of the call's own, the cursor goes on. -/
import Derived.Test.YtgcgkpmjahgmnaaDrawFt
import Derived.Test.YtgcgkpmjahgmnaaDrawMt
import Derived.Test.YtgcgkpmjahgmnaaMaT
set_option linter.unusedSimpArgs false
set_option linter.unusedVariables false
namespace Go.Proofs.Ytgcgkpmjahgmnaa
open Go.RowKit Go.Sort

structure Own3 (w : World) (base : Nat) (f t p : Value) (T : Tr) : Prop where
  rf : OwnRow sptRec w base f T.f
  rt : OwnRow sptRec w base t T.t
  rp : OwnInts w base p T.p
theorem Own3.reads {w : World} {base : Nat} {f t p : Value} {T : Tr} (h : Own3 w base f t p T) : TrAt w f t p T := ⟨h.rf.reads, h.rt.reads, h.rp.reads⟩
theorem Own3.lo {w : World} {base base' : Nat} {f t p : Value} {T : Tr} (h : Own3 w base f t p T) (hl : base' ≤ base) : Own3 w base' f t p T := ⟨h.rf.lo hl, h.rt.lo hl, ownsRow_lo h.rp hl⟩
theorem Own3.below {w w' : World} {base B : Nat} {f t p : Value} {T : Tr} (h : Own3 w base f t p T) (hb : Below B w w') (hB : w.heap.size ≤ B) : Own3 w' base f t p T := ⟨h.rf.below hb hB, h.rt.below hb hB, OwnInts.below h.rp hb hB⟩
theorem Own3.apt {w w' : World} {base g : Nat} {f t p : Value} {T : Tr} (h : Own3 w base f t p T) (ha : Apg g w w') (hb : g + 1 ≤ base) : Own3 w' base f t p T := ⟨OwnRow.aptS h.rf ha hb, OwnRow.aptS h.rt ha hb, OwnInts.apt h.rp ha hb⟩
theorem Own3.setLo {w : World} {base : Nat} {f t p : Value} {T : Tr} (h : Own3 w base f t p T) {b : Nat} (hb : b < base) (f' t' : Value) (c' : Int) (p' : Value) : Own3 (setT w b f' t' c' p') base f t p T :=
  ⟨ownsRow_setT h.rf (ne_of_lo h.rf hb) f' t' c' p', ownsRow_setT h.rt (ne_of_lo h.rt hb) f' t' c' p', ownsRow_setT h.rp (ne_of_lo h.rp hb) f' t' c' p'⟩
theorem Own3.setHi {w : World} {base : Nat} {f t p : Value} {T : Tr} (h : Own3 w base f t p T) {b : Nat} (hb : w.heap.size ≤ b) (f' t' : Value) (c' : Int) (p' : Value) : Own3 (setT w b f' t' c' p') base f t p T :=
  ⟨ownsRow_setT h.rf (ne_of_hi h.rf hb) f' t' c' p', ownsRow_setT h.rt (ne_of_hi h.rt hb) f' t' c' p', ownsRow_setT h.rp (ne_of_hi h.rp hb) f' t' c' p'⟩
theorem BoxT.apg {ty : Nat} {w w' : World} {b g : Nat} {f t : Value} {c : Int} {p : Value} (h : BoxT ty w b f t c p) (ha : Apg g w w') (hb : g < b) : BoxT ty w' b f t c p := (ha.block b h.lt (.inr hb)).trans h
/-- A transition is drawn. -/
def TrPost (w : World) (g : Nat) (v : Value) (code : List Nat) (n d : Nat) (e : Ending) (w' : World) : Prop :=
  ∃ (f t p : Value) (T : Tr) (n' : Nat), e = .returned (.agg #[f, t, .int .i64 T.c, p]) ∧ Own3 w' w.heap.size f t p T ∧ CurAt w' g v code n' ∧ Apg g w w' ∧ n ≤ n' ∧ n' ≤ n + d
theorem litI (w : World) (base n : Nat) (cs : Array Value) (l : List Int) (hb : base ≤ w.heap.size) (hn : cs.size = n) (h2 : cs.toList = ints l) (h3 : l.length = n) (h4 : n ≤ 100) : OwnInts (w.alloc (.cells cs 3)) base (.slice (some ⟨w.heap.size, 0, none⟩) n n) l := by
  have h := World.ownsRow_lit (base := base) (e := 3) (size := 1) w cs n hb (by simp [maxLen]; omega) (by rw [hn, Nat.mul_one])
  rw [h2] at h
  unfold OwnInts
  rw [h3]
  exact h
set_option maxRecDepth 100000 in
set_option maxHeartbeats 12800000 in
theorem transition_any (g n : Nat) (v : Value) (code : List Nat) (w : World) (h : CurAt w g v code n) (hn : n ≤ 4611686018380000000) :
    Calls Try.prog 73 #[.pointer (some ⟨g, 0, none⟩)] w (TrPost w g v code n 500000) := by
  have hg := h.lt
  have bX := (Below.refl w.heap.size w).alloc (Nat.le_refl _) (.cells #[.slice none 0 0, .slice none 0 0, .int .i64 0, .slice none 0 0] 31)
  have zR := BoxT.new 31 w (.slice none 0 0) (.slice none 0 0) 0 (.slice none 0 0)
  have sX : (w.alloc (.cells #[.slice none 0 0, .slice none 0 0, .int .i64 0, .slice none 0 0] 31)).heap.size = w.heap.size + 1 := by simp
  obtain ⟨W, hW⟩ : ∃ W : World, W = w.alloc (.cells #[.slice none 0 0, .slice none 0 0, .int .i64 0, .slice none 0 0] 31) := ⟨_, rfl⟩
  rw [← hW] at bX zR sX
  have qW := h.belowG bX hg
  have HW := Lib.hid hW
  have ZR := Lib.hid zR
  have HS := Lib.hid sX
  have HB := Lib.hid bX
  have C1 := Lib.hid (formsTwo_any g n v code W qW (by omega))
  have hgW : g < W.heap.size := qW.lt
  clear hW zR sX bX qW h
  go_enter Try.func73, Try.ntmps73
  go_upto_region 1 with fail
  rw [← HW.out]
  go_wp2_with fail
  refine C1.out.mono ?_; rintro e w1 ⟨u1, u2, a, b, k1, rfl, o1, o2, hla, hlb, q1, a1, hk1, hj1⟩
  have hs1 := a1.size
  have hg1 := q1.lt
  obtain ⟨A1, c1, rfl, ha1, hac⟩ := o1.reads.shape
  obtain ⟨A2, c2, rfl, hb1, hbc⟩ := o2.reads.shape
  -- the first list
  have bL := (Below.refl w1.heap.size w1).alloc (Nat.le_refl _) (.cells #[.int .i64 0, .int .i64 65] 3)
  have oL := litI w1 (g + 1) 2 #[.int .i64 0, .int .i64 65] [0, 65] hg1 rfl rfl rfl (by omega)
  have CA := Lib.hid (among_lit g k1 v _ code [0, 65] _ (q1.belowG bL hg1) (by omega) oL (by simp) (by simp) (fun _ => True) (fun _ _ => trivial))
  have o1b := o1.below bL (Nat.le_refl _)
  have o2b := o2.below bL (Nat.le_refl _)
  have a1b := a1.next bL
  clear bL oL o1 o2 a1 q1 C1
  go_wp2_with fail
  refine CA.out.mono ?_; rintro e w2 ⟨x1, k2, rfl, _, hk2, hj2, q2, a2⟩
  have o1 := OwnRow.aptS o1b a2 (by omega)
  have o2 := OwnRow.aptS o2b a2 (by omega)
  have aa := a1b.trans a2
  have hs2 := aa.size
  have hg2 := q2.lt
  clear o1b o2b a1b a2 CA
  have bL := (Below.refl w2.heap.size w2).alloc (Nat.le_refl _) (.cells #[.int .i64 1, .int .i64 4, .int .i64 8, .int .i64 8, .int .i64 16, .int .i64 32, .int .i64 64, .int .i64 x1] 3)
  have oL := litI w2 (g + 1) 8 #[.int .i64 1, .int .i64 4, .int .i64 8, .int .i64 8, .int .i64 16, .int .i64 32, .int .i64 64, .int .i64 x1] [1, 4, 8, 8, 16, 32, 64, x1] hg2 rfl rfl rfl (by omega)
  have CA := Lib.hid (among_lit g k2 v _ code [1, 4, 8, 8, 16, 32, 64, x1] _ (q2.belowG bL hg2) (by omega) oL (by simp) (by simp) (fun _ => True) (fun _ _ => trivial))
  have o1b := o1.below bL (Nat.le_refl _)
  have o2b := o2.below bL (Nat.le_refl _)
  have aab := aa.next bL
  clear bL oL o1 o2 aa q2
  go_wp2_with fail
  refine CA.out.mono ?_; rintro e w3 ⟨x2, k3, rfl, _, hk3, hj3, q3, a3⟩
  have o1 := OwnRow.aptS o1b a3 (by omega)
  have o2 := OwnRow.aptS o2b a3 (by omega)
  have aa := aab.trans a3
  have hs3 := aa.size
  clear o1b o2b aab a3 CA
  have CM := Lib.hid (matching_any g k3 v code a.length hla w3 q3 (by omega))
  clear q3
  go_wp2_with fail
  refine CM.out.mono ?_; rintro e w4 ⟨u4, l4, k4, rfl, o4, q4, a4, hl4, hk4, hj4⟩
  have o1b := OwnRow.aptS o1 a4 (by omega)
  have o2b := OwnRow.aptS o2 a4 (by omega)
  have aab := aa.trans a4
  have hs4 := aab.size
  have hg4 := q4.lt
  obtain ⟨A4, c4, rfl, _, _⟩ := o4.reads.shape
  have O3 : Own3 w4 W.heap.size (.slice A1 a.length c1) (.slice A2 b.length c2) (.slice A4 l4.length c4) ⟨a, b, x2, l4⟩ := ⟨o1b, o2b, ownsRow_lo o4 (by omega)⟩
  have zB := BoxT.new 31 w4 (.slice A1 a.length c1) (.slice A2 b.length c2) x2 (.slice A4 l4.length c4)
  have bN := (Below.refl w4.heap.size w4).alloc (Nat.le_refl _) (.cells #[.slice A1 a.length c1, .slice A2 b.length c2, .int .i64 x2, .slice A4 l4.length c4] 31)
  have O5 := O3.below bN (Nat.le_refl _)
  have q5 := q4.belowG bN hg4
  have a5 := aab.next bN
  obtain ⟨w5, hw5⟩ : ∃ W9 : World, W9 = w4.alloc (.cells #[.slice A1 a.length c1, .slice A2 b.length c2, .int .i64 x2, .slice A4 l4.length c4] 31) := ⟨_, rfl⟩
  rw [← hw5] at zB O5 q5 a5
  have HW5 := Lib.hid hw5
  have HL4 := Lib.hid hl4
  obtain ⟨X, hX⟩ : ∃ z, z = w4.heap.size := ⟨_, rfl⟩
  clear hw5 o1 o2 aa o1b o2b aab a4 o4 O3 q4 CM hl4 bN
  go_upto_region 3 with fail
  rw [← HW5.out]
  rw [← hX] at zB
  rw [← hX]
  have hXW : W.heap.size ≤ X := by omega
  have hgX : g < X := by omega
  clear hX HW5
  have ZB := Lib.hid zB
  have OO5 := Lib.hid O5
  have Q5 := Lib.hid q5
  have A5 := Lib.hid a5
  obtain ⟨y0, y1, y2, y3⟩ := zB.cells
  have CK := Lib.hid (asAsked_any _ _ a b x2 w5 O5.rf.reads O5.rt.reads)
  clear zB O5 q5 a5
  -- the end: the transition in the box X is handed back
  have hfin : ∀ (w9 : World) (f9 t9 p9 : Value) (T9 : Tr) (k9 : Nat), Own3 w9 W.heap.size f9 t9 p9 T9 → BoxT 31 w9 X f9 t9 T9.c p9 → CurAt w9 g v code k9 → Apg g W w9 → n ≤ k9 → k9 ≤ n + 500000 →
      ∃ A9 x9 B9 y9 D9 z9, f9 = .slice A9 T9.f.length x9 ∧ t9 = .slice B9 T9.t.length y9 ∧ p9 = .slice D9 T9.p.length z9 ∧
      BoxT 31 w9 w.heap.size (.slice none 0 0) (.slice none 0 0) 0 (.slice none 0 0) ∧
      TrPost w g v code n 500000 (.returned (.agg #[f9, t9, .int .i64 T9.c, p9])) (setT w9 w.heap.size f9 t9 T9.c p9) := by
    intro w9 f9 t9 p9 T9 k9 h1 h2 h3 h4 h5 h6
    obtain ⟨A9, x9, e1, _, _⟩ := h1.rf.reads.shape
    obtain ⟨B9, y9, e2, _, _⟩ := h1.rt.reads.shape
    obtain ⟨D9, z9, e3, _, _⟩ := h1.rp.reads.shape
    have hS := HS.out
    have r9 := ZR.out.apg h4 hg
    have bs := below_setT (Below.refl w.heap.size w9) (Nat.le_refl _) f9 t9 T9.c p9
    have a9 : Apg g w w9 := (Apart.of_below HB.out (Nat.le_refl _)).trans h4
    exact ⟨A9, x9, B9, y9, D9, z9, e1, e2, e3, r9, f9, t9, p9, T9, k9, rfl, (h1.setLo (by omega) f9 t9 T9.c p9).lo (by omega), h3.belowG bs hg, a9.trans2 bs (Nat.le_refl _), h5, h6⟩
  have HFIN := Lib.hid hfin
  clear hfin
  cases hask : asked a b x2
  case false =>
    rw [hask] at CK
    go_wp2_with fail
    refine CK.out.mono ?_; rintro e w6 ⟨rfl, b6⟩
    have o6 := OO5.out.below b6 (Nat.le_refl _)
    have z6 := ZB.out.keep b6 ZB.out.lt
    have q6 := Q5.out.below b6 (Nat.le_refl _)
    have a6 := A5.out.next b6
    obtain ⟨A9, x9, B9, y9, D9, z9, e1, e2, e3, r9, hpost⟩ := HFIN.out w6 _ _ _ ⟨a, b, x2, l4⟩ k4 o6 z6 q6 a6 (by omega) (by omega)
    obtain ⟨m0, m1, m2, m3⟩ := z6.cells
    obtain ⟨s0, s1, s2, s3⟩ := r9.cells
    obtain ⟨d0, d1, d2, d3⟩ := r9.free
    have HPO := Lib.hid hpost
    have rs := (r9.set (.slice A1 a.length c1) (.slice A2 b.length c2) x2 (.slice A4 l4.length c4)).cells
    have P9 := Lib.hid rs
    clear hpost r9 rs e1 e2 e3 o6 z6 q6 a6
    go_wp2_with fail
    obtain ⟨p0, p1, p2, p3⟩ := P9.out
    unfold setT at p0 p1 p2 p3
    exact bodyPost_ret (v := .agg #[.slice A1 a.length c1, .slice A2 b.length c2, .int .i64 x2, .slice A4 l4.length c4]) (by simp [results, Try.results73, go_sem, p0, p1, p2, p3]) rfl HPO.out
  case true =>
    rw [hask] at CK
    go_wp2_with fail
    refine CK.out.mono ?_; rintro e w6 ⟨rfl, b6⟩
    have o6 := OO5.out.below b6 (Nat.le_refl _)
    have z6 := ZB.out.keep b6 ZB.out.lt
    have q6 := Q5.out.below b6 (Nat.le_refl _)
    have a6 := A5.out.next b6
    have CO := Lib.hid (one_ex g v code 3 k4 w6 (by omega) q6)
    clear y0 y1 y2 y3 q6 CK
    go_wp2_with fail
    refine CO.out.mono ?_; rintro e w7 ⟨bb, k7, rfl, hk7, hj7, q7, a7⟩
    have o7 := o6.apt a7 (by omega)
    have z7 := z6.apg a7 hgX
    have aa7 := a6.trans a7
    have hs7 := aa7.size
    clear o6 z6 a6 a7 CO
    cases bb
    case false =>
      obtain ⟨A9, x9, B9, y9, D9, z9, e1, e2, e3, r9, hpost⟩ := HFIN.out w7 _ _ _ ⟨a, b, x2, l4⟩ k7 o7 z7 q7 aa7 (by omega) (by omega)
      obtain ⟨m0, m1, m2, m3⟩ := z7.cells
      obtain ⟨s0, s1, s2, s3⟩ := r9.cells
      obtain ⟨d0, d1, d2, d3⟩ := r9.free
      have HPO := Lib.hid hpost
      have rs := (r9.set (.slice A1 a.length c1) (.slice A2 b.length c2) x2 (.slice A4 l4.length c4)).cells
      have P9 := Lib.hid rs
      clear hpost r9 rs e1 e2 e3 o7 z7 q7 aa7
      go_wp2_with fail
      obtain ⟨p0, p1, p2, p3⟩ := P9.out
      unfold setT at p0 p1 p2 p3
      exact bodyPost_ret (v := .agg #[.slice A1 a.length c1, .slice A2 b.length c2, .int .i64 x2, .slice A4 l4.length c4]) (by simp [results, Try.results73, go_sem, p0, p1, p2, p3]) rfl HPO.out
    case true =>
      have CL := Lib.hid (leastTr_ok _ _ a b x2 w7 o7.rf.reads o7.rt.reads hask)
      obtain ⟨m0, m1, m2, m3⟩ := z7.cells
      have Z7 := Lib.hid z7
      have Q7 := Lib.hid q7
      have AA7 := Lib.hid aa7
      clear o7 z7 q7 aa7 hask
      go_wp2_with fail
      refine CL.out.mono ?_; rintro e w8 ⟨f8, t8, p8, T8, rfl, o8, b8⟩
      obtain ⟨A9, x9, rfl, _, _⟩ := o8.rf.reads.shape
      obtain ⟨B9, y9, rfl, _, _⟩ := o8.rt.reads.shape
      obtain ⟨D9, z9, rfl, _, _⟩ := o8.rp.reads.shape
      have z8 := Z7.out.keep b8 Z7.out.lt
      have hX7 := Z7.out.lt
      have O8 : Own3 w8 w7.heap.size (.slice A9 T8.f.length x9) (.slice B9 T8.t.length y9) (.slice D9 T8.p.length z9) T8 := ⟨o8.rf, o8.rt, o8.rp⟩
      have O9 := (O8.setLo hX7 (.slice A9 T8.f.length x9) (.slice B9 T8.t.length y9) T8.c (.slice D9 T8.p.length z9)).lo (show W.heap.size ≤ w7.heap.size by omega)
      have z9' := z8.set (.slice A9 T8.f.length x9) (.slice B9 T8.t.length y9) T8.c (.slice D9 T8.p.length z9)
      have bS := below_setT (Below.refl X w8) (Nat.le_refl _) (.slice A9 T8.f.length x9) (.slice B9 T8.t.length y9) T8.c (.slice D9 T8.p.length z9)
      have q9 := (Q7.out.below b8 (Nat.le_refl _)).belowG bS hgX
      have a9 := (AA7.out.next b8).trans2 bS (by omega)
      obtain ⟨s0, s1, s2, s3⟩ := z8.cells
      obtain ⟨d0, d1, d2, d3⟩ := z8.free
      clear m0 m1 m2 m3 o8 O8 CL
      go_upto_region 5 with fail
      unfold setT at O9 z9' q9 a9 bS
      obtain ⟨w9, hw9⟩ : ∃ W9 : World, W9 = (((w8.setCell ⟨X, 0, none⟩ (.slice A9 T8.f.length x9)).setCell ⟨X, 1, none⟩ (.slice B9 T8.t.length y9)).setCell ⟨X, 2, none⟩ (.int .i64 T8.c)).setCell ⟨X, 3, none⟩ (.slice D9 T8.p.length z9) := ⟨_, rfl⟩
      rw [← hw9] at O9 z9' q9 a9 bS
      rw [← hw9]
      clear hw9 s0 s1 s2 s3 d0 d1 d2 d3 z8 bS
      obtain ⟨A9', x9', B9', y9', D9', z9'', e1, e2, e3, r9, hpost⟩ := HFIN.out w9 _ _ _ T8 k7 O9 z9' q9 a9 (by omega) (by omega)
      obtain ⟨m0, m1, m2, m3⟩ := z9'.cells
      obtain ⟨s0, s1, s2, s3⟩ := r9.cells
      obtain ⟨d0, d1, d2, d3⟩ := r9.free
      have HPO := Lib.hid hpost
      have rs := (r9.set (.slice A9 T8.f.length x9) (.slice B9 T8.t.length y9) T8.c (.slice D9 T8.p.length z9)).cells
      have P9 := Lib.hid rs
      clear hpost r9 rs e1 e2 e3 O9 z9' q9 a9
      go_wp2_with fail
      obtain ⟨p0, p1, p2, p3⟩ := P9.out
      unfold setT at p0 p1 p2 p3
      exact bodyPost_ret (v := .agg #[.slice A9 T8.f.length x9, .slice B9 T8.t.length y9, .int .i64 T8.c, .slice D9 T8.p.length z9]) (by simp [results, Try.results73, go_sem, p0, p1, p2, p3]) rfl HPO.out
end Go.Proofs.Ytgcgkpmjahgmnaa
