/- Contracts: copies of transitions; two performers' places swapped, in the program and in the reference. -/
import Derived.Test.YtgcgkpmjahgmnaaTrW
import Derived.Test.YtgcgkpmjahgmnaaHelpC
import Derived.Deep.RegionLaw
set_option linter.unusedSimpArgs false
set_option linter.unusedVariables false
namespace Go.Proofs.Ytgcgkpmjahgmnaa
open Go.RowKit Go.Sort

theorem grown_set8 (w : World) (b o : Nat) (x : Value) : w.grownBy (w.setCell ⟨b, o, none⟩ x) (some b) :=
  ⟨rfl, rfl, rfl, by rw [World.size_setCell]; exact Nat.le_refl _, fun k _ hne => heap_setCell_other w _ k x (fun e => hne (by rw [e]))⟩
theorem BoxT.free {ty : Nat} {w : World} {b : Nat} {f t : Value} {c : Int} {p : Value} (h : BoxT ty w b f t c p) : w.frozen? ⟨b, 0, none⟩ = false ∧ w.frozen? ⟨b, 1, none⟩ = false ∧ w.frozen? ⟨b, 2, none⟩ = false ∧ w.frozen? ⟨b, 3, none⟩ = false :=
  ⟨frozen_of_row w b 0 _ _ h, frozen_of_row w b 1 _ _ h, frozen_of_row w b 2 _ _ h, frozen_of_row w b 3 _ _ h⟩
def setT (w : World) (b : Nat) (f t : Value) (c : Int) (p : Value) : World := (((w.setCell ⟨b, 0, none⟩ f).setCell ⟨b, 1, none⟩ t).setCell ⟨b, 2, none⟩ (.int .i64 c)).setCell ⟨b, 3, none⟩ p
theorem BoxT.set {ty : Nat} {w : World} {b : Nat} {f t : Value} {c : Int} {p : Value} (h : BoxT ty w b f t c p) (f' t' : Value) (c' : Int) (p' : Value) : BoxT ty (setT w b f' t' c' p') b f' t' c' p' := by
  have h1 : (w.setCell ⟨b, 0, none⟩ f').heap[b]? = some (.cells #[f', t, .int .i64 c, p] ty (0, 0)) := heap_setCell_same w b 0 _ _ _ h
  have h2 : ((w.setCell ⟨b, 0, none⟩ f').setCell ⟨b, 1, none⟩ t').heap[b]? = some (.cells #[f', t', .int .i64 c, p] ty (0, 0)) := heap_setCell_same _ b 1 _ _ _ h1
  have h3 : (((w.setCell ⟨b, 0, none⟩ f').setCell ⟨b, 1, none⟩ t').setCell ⟨b, 2, none⟩ (.int .i64 c')).heap[b]? = some (.cells #[f', t', .int .i64 c', p] ty (0, 0)) := heap_setCell_same _ b 2 _ _ _ h2
  exact heap_setCell_same _ b 3 _ _ _ h3
theorem below_setT {B : Nat} {w0 w : World} (h : Below B w0 w) {b : Nat} (hb : B ≤ b) (f t : Value) (c : Int) (p : Value) : Below B w0 (setT w b f t c p) :=
  (((h.setCell (p := ⟨b, 0, none⟩) hb f).setCell (p := ⟨b, 1, none⟩) hb t).setCell (p := ⟨b, 2, none⟩) hb (.int .i64 c)).setCell (p := ⟨b, 3, none⟩) hb p
theorem ownsRow_setT {w : World} {base e sz n : Nat} {v : Value} {xs : List Value} (h : w.ownsRow base e sz v n xs) {b : Nat} (hb : v.ownBlock = none ∨ v.ownBlock ≠ some b) (f t : Value) (c : Int) (p : Value) : (setT w b f t c p).ownsRow base e sz v n xs :=
  World.ownsRow.kept (World.ownsRow.kept (World.ownsRow.kept (World.ownsRow.kept h (grown_set8 w b 0 f) hb) (grown_set8 _ b 1 t) hb) (grown_set8 _ b 2 (.int .i64 c)) hb) (grown_set8 _ b 3 p) hb
theorem ne_of_lo {w : World} {base e sz n : Nat} {v : Value} {xs : List Value} (h : w.ownsRow base e sz v n xs) {b : Nat} (hb : b < base) : v.ownBlock = none ∨ v.ownBlock ≠ some b := by
  right; intro e; have := (World.ownsRow.lt h b e).1; omega
theorem ne_of_hi {w : World} {base e sz n : Nat} {v : Value} {xs : List Value} (h : w.ownsRow base e sz v n xs) {b : Nat} (hb : w.heap.size ≤ b) : v.ownBlock = none ∨ v.ownBlock ≠ some b := by
  right; intro e; have := (World.ownsRow.lt h b e).2; omega
theorem ne_of_hi2 {w : World} {base e sz n : Nat} {v : Value} {xs : List Value} (h : w.ownsRow base e sz v n xs) : v.ownBlock = none ∨ v.ownBlock ≠ some w.heap.size := ne_of_hi h (Nat.le_refl _)
theorem ne_of_two {w w' : World} {base e sz n base' e' sz' n' : Nat} {v v' : Value} {xs xs' : List Value} (h : w.ownsRow base e sz v n xs) (h' : w'.ownsRow base' e' sz' v' n' xs') (hb : w.heap.size ≤ base' := by first | exact Nat.le_refl _ | omega) : v.ownBlock = none ∨ v.ownBlock ≠ v'.ownBlock := by
  cases hv : v.ownBlock with
  | none => exact .inl rfl
  | some g =>
    refine .inr fun e9 => ?_
    have h1 := (World.ownsRow.lt h g hv).2
    have h2 := (World.ownsRow.lt h' g e9.symm).1
    omega
/-- A transition in rows of its own. -/
structure OwnT (w : World) (base : Nat) (f t p : Value) (T : Tr) : Prop where
  rf : OwnRow sptRec w base f T.f
  rt : OwnRow sptRec w base t T.t
  rp : OwnInts w base p T.p
  pf : f.ownBlock = none ∨ f.ownBlock ≠ p.ownBlock
  pt : t.ownBlock = none ∨ t.ownBlock ≠ p.ownBlock
theorem OwnT.reads {w : World} {base : Nat} {f t p : Value} {T : Tr} (h : OwnT w base f t p T) : TrAt w f t p T := ⟨h.rf.reads, h.rt.reads, h.rp.reads⟩
theorem OwnT.lo {w : World} {base base' : Nat} {f t p : Value} {T : Tr} (h : OwnT w base f t p T) (hl : base' ≤ base) : OwnT w base' f t p T := ⟨h.rf.lo hl, h.rt.lo hl, ownsRow_lo h.rp hl, h.pf, h.pt⟩
theorem OwnT.keep {w w' : World} {base B : Nat} {f t p : Value} {T : Tr} (h : OwnT w base f t p T) (hb : Below B w w') (hB : w.heap.size ≤ B) : OwnT w' base f t p T := ⟨h.rf.below hb hB, h.rt.below hb hB, OwnInts.below h.rp hb hB, h.pf, h.pt⟩
theorem OwnT.setHi {w : World} {base : Nat} {f t p : Value} {T : Tr} (h : OwnT w base f t p T) {b : Nat} (hb : b < base ∨ w.heap.size ≤ b) (f' t' : Value) (c' : Int) (p' : Value) : OwnT (setT w b f' t' c' p') base f t p T := by
  rcases hb with hb | hb
  · exact ⟨ownsRow_setT h.rf (ne_of_lo h.rf hb) f' t' c' p', ownsRow_setT h.rt (ne_of_lo h.rt hb) f' t' c' p', ownsRow_setT h.rp (ne_of_lo h.rp hb) f' t' c' p', h.pf, h.pt⟩
  · exact ⟨ownsRow_setT h.rf (ne_of_hi h.rf hb) f' t' c' p', ownsRow_setT h.rt (ne_of_hi h.rt hb) f' t' c' p', ownsRow_setT h.rp (ne_of_hi h.rp hb) f' t' c' p', h.pf, h.pt⟩
def CopyT (w : World) (T : Tr) (c : Int) (e : Ending) (w' : World) : Prop := ∃ f t p : Value, e = .returned (.agg #[f, t, .int .i64 c, p]) ∧ OwnT w' w.heap.size f t p T ∧ Below w.heap.size w w'
theorem chOwnT (v : Value) (l : List Spt) (w : World) (h : RowAt sptRec w v l) (hl : l.length ≤ 1000) :
    Calls Try.prog 79 #[v] w (FreshRow sptRec w l) := by
  have hE := OwnRow.empty sptRec w w.heap.size (Nat.le_refl _)
  have hEb : Below w.heap.size w (w.alloc (.cells #[] 69)) := (Below.refl _ _).alloc (Nat.le_refl _) _
  have hE2 := h.below hEb (Nat.le_refl _)
  have h63 : ([] : List Spt).length + l.length ≤ 1099511627776 := by simp; omega
  go_enter Try.func79, Try.ntmps79
  go_wp2_with (at_builtin; refine wp_app_spts _ rfl _ _ rfl w.heap.size _ [] rfl hE _ l rfl hE2 h63 hEb.size ?_; intro x w2 ox hgx)
  go_ret
  exact ⟨_, rfl, ox, hEb.trans hgx.below⟩
set_option maxRecDepth 100000 in
set_option maxHeartbeats 6400000 in
theorem newTr_any (f t p : Value) (T : Tr) (c : Int) (w : World) (h : TrAt w f t p T) (h1 : T.f.length ≤ 1000) (h2 : T.t.length ≤ 1000) (h3 : T.p.length ≤ 1000) :
    Calls Try.prog 61 #[f, t, .int .i64 c, p] w (CopyT w T c) := by
  have bX := (Below.refl w.heap.size w).alloc (Nat.le_refl _) (.cells #[.slice none 0 0, .slice none 0 0, .int .i64 0, .slice none 0 0] 31)
  have zT := BoxT.new 31 w (.slice none 0 0) (.slice none 0 0) 0 (.slice none 0 0)
  have sX : (w.alloc (.cells #[.slice none 0 0, .slice none 0 0, .int .i64 0, .slice none 0 0] 31)).heap.size = w.heap.size + 1 := by simp
  obtain ⟨W, hW⟩ : ∃ W : World, W = w.alloc (.cells #[.slice none 0 0, .slice none 0 0, .int .i64 0, .slice none 0 0] 31) := ⟨_, rfl⟩
  rw [← hW] at bX zT sX
  have HW := Lib.hid hW
  have ZT := Lib.hid zT
  have HS := Lib.hid sX
  have HX := Lib.hid (h.below bX (Nat.le_refl _))
  have HB := Lib.hid bX
  clear hW zT sX h bX
  have e1 := OwnRow.empty sptRec W W.heap.size (Nat.le_refl _)
  have be1 : Below W.heap.size W (W.alloc (.cells #[] 69)) := (Below.refl _ _).alloc (Nat.le_refl _) _
  have r1 := HX.out.f.below be1 (Nat.le_refl _)
  have l1 : ([] : List Spt).length + T.f.length ≤ 1099511627776 := by simp; omega
  have l2 : ([] : List Spt).length + T.t.length ≤ 1099511627776 := by simp; omega
  go_enter Try.func61, Try.ntmps61
  go_upto_region 1 with fail
  rw [← HW.out]
  go_wp2_with (at_builtin; refine wp_app_spts _ rfl _ _ rfl W.heap.size _ [] rfl e1 _ T.f rfl r1 l1 be1.size ?_; intro v1 w1 o1 g1; have o1 : OwnRow sptRec w1 W.heap.size v1 T.f := o1; have b1 := be1.trans g1.below; have e2 := OwnRow.empty sptRec w1 W.heap.size b1.size; have be2 := b1.alloc b1.size (.cells #[] 69); have r2 := HX.out.t.below be2 (Nat.le_refl _); have k1 := OwnRow.below o1 ((Below.refl w1.heap.size w1).alloc (Nat.le_refl _) (.cells #[] 69)) (Nat.le_refl _); go_wp2_with (at_builtin; refine wp_app_spts _ rfl _ _ rfl W.heap.size _ [] rfl e2 _ T.t rfl r2 l2 be2.size ?_; intro v2 w2 o2 g2))
  have o2 : OwnRow sptRec w2 W.heap.size v2 T.t := o2
  have b2 := be2.trans g2.below
  have k2 : OwnRow sptRec w2 W.heap.size v1 T.f := World.ownsRow.kept k1 g2.grown (ne_of_hi2 o1)
  refine (copyInts_any _ T.p _ (HX.out.p.below b2 (Nat.le_refl _)) (by omega)).mono ?_; rintro e w3 ⟨v3, rfl, o3, b3⟩
  have b23 := b2.next (Nat.le_refl _) b3
  have z3 := ZT.out.keep b23 ZT.out.lt
  obtain ⟨c0, c1, c2, c3⟩ := z3.cells
  obtain ⟨d0, d1, d2, d3⟩ := z3.free
  have hown : OwnT w3 W.heap.size v1 v2 v3 T := ⟨k2.below b3 (Nat.le_refl _), o2.below b3 (Nat.le_refl _), ownsRow_lo o3 b2.size, ne_of_two k2 o3, ne_of_two o2 o3⟩
  obtain ⟨A1, x1, rfl, _, _⟩ := hown.rf.reads.shape
  obtain ⟨A2, x2, rfl, _, _⟩ := hown.rt.reads.shape
  obtain ⟨A3, x3, rfl, _, _⟩ := hown.rp.reads.shape
  have hS : w.heap.size < W.heap.size := by have := HS.out; omega
  have fin := (hown.setHi (.inl hS) (.slice A1 T.f.length x1) (.slice A2 T.t.length x2) c (.slice A3 T.p.length x3)).lo (show w.heap.size ≤ W.heap.size by omega)
  have bfin := below_setT (HB.out.next (Nat.le_refl _) b23) (Nat.le_refl _) (.slice A1 T.f.length x1) (.slice A2 T.t.length x2) c (.slice A3 T.p.length x3)
  have FIN := Lib.hid fin
  have BFIN := Lib.hid bfin
  obtain ⟨p0, p1, p2, p3⟩ := (z3.set (.slice A1 T.f.length x1) (.slice A2 T.t.length x2) c (.slice A3 T.p.length x3)).cells
  have P := Lib.hid (And.intro p0 (And.intro p1 (And.intro p2 p3)))
  clear hown fin bfin b1 b2 b23 b3 be1 be2 r1 r2 e1 e2 l1 l2 o1 o2 k1 k2 o3 g1 g2 hS p0 p1 p2 p3 z3
  go_wp2_with fail
  obtain ⟨p0, p1, p2, p3⟩ := P.out
  unfold setT at p0 p1 p2 p3
  exact bodyPost_ret (v := .agg #[.slice A1 T.f.length x1, .slice A2 T.t.length x2, .int .i64 c, .slice A3 T.p.length x3]) (by simp [results, Try.results61, go_sem, p0, p1, p2, p3]) rfl ⟨_, _, _, rfl, FIN.out, BFIN.out⟩
set_option maxRecDepth 100000 in
set_option maxHeartbeats 6400000 in
theorem asWith_any (f t p : Value) (T : Tr) (c : Int) (w : World) (h : TrAt w f t p T) (h1 : T.f.length ≤ 1000) (h2 : T.t.length ≤ 1000) (h3 : T.p.length ≤ 1000) :
    Calls Try.prog 62 #[f, t, .int .i64 c, p] w (CopyT w T c) := by
  have bX := (Below.refl w.heap.size w).alloc (Nat.le_refl _) (.cells #[.slice none 0 0, .slice none 0 0, .int .i64 0, .slice none 0 0] 31)
  have zT := BoxT.new 31 w (.slice none 0 0) (.slice none 0 0) 0 (.slice none 0 0)
  have sX : (w.alloc (.cells #[.slice none 0 0, .slice none 0 0, .int .i64 0, .slice none 0 0] 31)).heap.size = w.heap.size + 1 := by simp
  obtain ⟨W, hW⟩ : ∃ W : World, W = w.alloc (.cells #[.slice none 0 0, .slice none 0 0, .int .i64 0, .slice none 0 0] 31) := ⟨_, rfl⟩
  rw [← hW] at bX zT sX
  have HW := Lib.hid hW
  have ZT := Lib.hid zT
  have HS := Lib.hid sX
  have HX := Lib.hid (h.below bX (Nat.le_refl _))
  have HB := Lib.hid bX
  clear hW zT sX h bX
  go_enter Try.func62, Try.ntmps62
  go_upto_region 1 with fail
  rw [← HW.out]
  go_wp2_with fail
  refine (chOwnT _ T.f W HX.out.f h1).mono ?_; rintro e w1 ⟨v1, rfl, o1, b1⟩
  go_wp2_with fail
  refine (chOwnT _ T.t w1 (HX.out.t.below b1 (Nat.le_refl _)) h2).mono ?_; rintro e w2 ⟨v2, rfl, o2, b2⟩
  have b12 := b1.next (Nat.le_refl _) b2
  go_wp2_with fail
  refine (l1Own_any _ T.p _ (HX.out.p.below b12 (Nat.le_refl _)) (by omega)).mono ?_; rintro e w3 ⟨v3, rfl, o3, b3⟩
  have b23 := b12.next (Nat.le_refl _) b3
  have z3 := ZT.out.keep b23 ZT.out.lt
  obtain ⟨c0, c1, c2, c3⟩ := z3.cells
  obtain ⟨d0, d1, d2, d3⟩ := z3.free
  have k2 := o1.below b2 (Nat.le_refl _)
  have o2' := o2.lo b1.size
  have hown : OwnT w3 W.heap.size v1 v2 v3 T := ⟨k2.below b3 (Nat.le_refl _), o2'.below b3 (Nat.le_refl _), ownsRow_lo o3 b12.size, ne_of_two k2 o3, ne_of_two o2' o3⟩
  obtain ⟨A1, x1, rfl, _, _⟩ := hown.rf.reads.shape
  obtain ⟨A2, x2, rfl, _, _⟩ := hown.rt.reads.shape
  obtain ⟨A3, x3, rfl, _, _⟩ := hown.rp.reads.shape
  have hS : w.heap.size < W.heap.size := by have := HS.out; omega
  have fin := (hown.setHi (.inl hS) (.slice A1 T.f.length x1) (.slice A2 T.t.length x2) c (.slice A3 T.p.length x3)).lo (show w.heap.size ≤ W.heap.size by omega)
  have bfin := below_setT (HB.out.next (Nat.le_refl _) b23) (Nat.le_refl _) (.slice A1 T.f.length x1) (.slice A2 T.t.length x2) c (.slice A3 T.p.length x3)
  have FIN := Lib.hid fin
  have BFIN := Lib.hid bfin
  obtain ⟨p0, p1, p2, p3⟩ := (z3.set (.slice A1 T.f.length x1) (.slice A2 T.t.length x2) c (.slice A3 T.p.length x3)).cells
  have P := Lib.hid (And.intro p0 (And.intro p1 (And.intro p2 p3)))
  clear hown fin bfin b1 b2 b12 b23 b3 o1 o2 o2' k2 o3 hS p0 p1 p2 p3 z3
  go_wp2_with fail
  obtain ⟨p0, p1, p2, p3⟩ := P.out
  unfold setT at p0 p1 p2 p3
  exact bodyPost_ret (v := .agg #[.slice A1 T.f.length x1, .slice A2 T.t.length x2, .int .i64 c, .slice A3 T.p.length x3]) (by simp [results, Try.results62, go_sem, p0, p1, p2, p3]) rfl ⟨_, _, _, rfl, FIN.out, BFIN.out⟩
end Go.Proofs.Ytgcgkpmjahgmnaa
