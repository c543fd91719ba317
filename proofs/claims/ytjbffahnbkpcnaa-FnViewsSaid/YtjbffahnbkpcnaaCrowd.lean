/- Contracts: who asks for a view; CrowdedCells, in the program and in the reference. -/
import Derived.Test.YtjbffahnbkpcnaaMoved
import Derived.Test.YtjbffahnbkpcnaaHelpL
import Derived.Deep.RegionHeld3
set_option linter.unusedSimpArgs false
set_option linter.unusedVariables false
namespace Go.Proofs.Ytjbffahnbkpcnaa
open Go.RowKit

def isAsk (fx fy fc fr : Int) (l : List Spt) : Bool := isFrm fx fy fc fr && isChart l
theorem isAsk_no1 {fx fy fc fr : Int} {l : List Spt} (h : isFrm fx fy fc fr = false) : isAsk fx fy fc fr l = false := by unfold isAsk; rw [h]; rfl
theorem isAsk_no2 {fx fy fc fr : Int} {l : List Spt} (h : isChart l = false) : isAsk fx fy fc fr l = false := by unfold isAsk; rw [h]; simp
theorem isAsk_yes {fx fy fc fr : Int} {l : List Spt} (h1 : isFrm fx fy fc fr = true) (h : isChart l = true) : isAsk fx fy fc fr l = true := by unfold isAsk; rw [h1, h]; rfl
theorem isAsk_t {fx fy fc fr : Int} {l : List Spt} (h : isAsk fx fy fc fr l = true) : isFrm fx fy fc fr = true ∧ isChart l = true := by
  unfold isAsk at h; rw [Bool.and_eq_true] at h; exact h
theorem isFrm_t {fx fy fc fr : Int} (h : isFrm fx fy fc fr = true) : 1 ≤ fc ∧ fc ≤ 60 ∧ 1 ≤ fr ∧ fr ≤ 30 ∧ isSpot fx fy = true := by
  unfold isFrm at h
  simp only [Bool.and_eq_true] at h
  obtain ⟨⟨⟨⟨g1, _⟩, _⟩, g2⟩, g3⟩ := h
  have h2 := inR_t.1 g2
  have h3 := inR_t.1 g3
  exact ⟨h2.1, h2.2, h3.1, h3.2, g1⟩
theorem cellAt_t {fx fy fc fr x y a b : Int} (h : cellAt fx fy fc fr x y = (a, b, true)) : 0 ≤ a ∧ a ≤ fc - 1 ∧ 0 ≤ b ∧ b ≤ fr - 1 := by
  unfold cellAt at h
  split at h
  · rename_i hc
    rw [Bool.and_eq_true] at hc
    have h1 := inR_t.1 hc.1
    have h2 := inR_t.1 hc.2
    injection h with e1 e2
    injection e2 with e2 _
    omega
  · injection h with _ e2
    injection e2 with _ e3
    cases e3
set_option maxHeartbeats 1600000 in
theorem vwAsked_any (v : Value) (l : List Spt) (fx fy fc fr : Int) (w : World) (h : RowAt sptRec w v l) :
    Calls Try.prog 41 #[.agg #[.int .i64 fx, .int .i64 fy, .int .i64 fc, .int .i64 fr], v] w fun e w' => e = .returned (.bool (isAsk fx fy fc fr l)) ∧ Below w.heap.size w w' := by
  have hb0 := fun o => (Below.refl w.heap.size w).alloc (Nat.le_refl _) o
  have Hb0 := Lib.hid hb0
  clear hb0
  cases hf : isFrm fx fy fc fr
  · have hr := Lib.hid (isAsk_no1 (l := l) hf)
    go_enter Try.func41, Try.ntmps41
    go_wp2_with fail
    refine (vwFrame_any _ _ _ _ _).mono ?_; rintro e w1 ⟨rfl, b1⟩
    have B1 := (Hb0.out _).trans (b1.mono (Hb0.out _).size)
    go_wp2_with fail
    go_ret
    exact ⟨ret_bool hr.out.symm, B1⟩
  · cases hc : isChart l
    all_goals
      have hr : Hid (isAsk fx fy fc fr l = isChart l) := by show _ = _; unfold isAsk; rw [hf]; rfl
      rw [hc] at hr
      go_enter Try.func41, Try.ntmps41
      go_wp2_with fail
      refine (vwFrame_any _ _ _ _ _).mono ?_; rintro e w1 ⟨rfl, b1⟩
      have B1 := (Hb0.out _).trans (b1.mono (Hb0.out _).size)
      have h1 := h.below B1 (Nat.le_refl _)
      go_wp2_with fail
      refine (chGood_any _ l _ h1).mono ?_; rintro e w2 ⟨rfl, b2⟩
      go_wp2_with fail
      go_ret
      exact ⟨ret_bool hr.out.symm, B1.trans (b2.mono B1.size)⟩
/-! ### CrowdedCells -/
def cntSt (fx fy : Int) (C R : Nat) (l : List Spt) : Nat → List Int
  | 0 => List.replicate (R * C) 0
  | k + 1 => if (cellAt fx fy C R (gx sptRec l k).x (gx sptRec l k).y).2.2 then
      (cntSt fx fy C R l k).set ((cellAt fx fy C R (gx sptRec l k).x (gx sptRec l k).y).2.1.toNat * C + (cellAt fx fy C R (gx sptRec l k).x (gx sptRec l k).y).1.toNat)
        (gi (cntSt fx fy C R l k) ((cellAt fx fy C R (gx sptRec l k).x (gx sptRec l k).y).2.1.toNat * C + (cellAt fx fy C R (gx sptRec l k).x (gx sptRec l k).y).1.toNat) + 1)
    else cntSt fx fy C R l k
theorem cntSt_len (fx fy : Int) (C R : Nat) (l : List Spt) (k : Nat) : (cntSt fx fy C R l k).length = R * C := by
  induction k with
  | zero => simp [cntSt]
  | succ k ih => unfold cntSt; split <;> simp [ih]
theorem cntSt_f {fx fy a b : Int} {C R : Nat} {l : List Spt} {k : Nat} (h : cellAt fx fy C R (gx sptRec l k).x (gx sptRec l k).y = (a, b, false)) : cntSt fx fy C R l (k + 1) = cntSt fx fy C R l k := by
  conv => lhs; unfold cntSt
  rw [h]; rfl
theorem cntSt_t {fx fy : Int} {a b C R : Nat} {l : List Spt} {k : Nat} (h : cellAt fx fy C R (gx sptRec l k).x (gx sptRec l k).y = ((a : Int), (b : Int), true)) :
    cntSt fx fy C R l (k + 1) = (cntSt fx fy C R l k).set (b * C + a) (gi (cntSt fx fy C R l k) (b * C + a) + 1) := by
  conv => lhs; unfold cntSt
  rw [h]; simp
theorem gi_setC (l : List Int) (i j : Nat) (x : Int) : gi (l.set i x) j = if i = j ∧ i < l.length then x else gi l j := by
  unfold gi
  rw [List.getD_eq_getElem?_getD, List.getD_eq_getElem?_getD, List.getElem?_set]
  by_cases h : i = j
  · subst h
    by_cases h2 : i < l.length
    · simp [h2]
    · simp [h2]
  · simp [h]
theorem cntSt_bd (fx fy : Int) (C R : Nat) (l : List Spt) (k j : Nat) : 0 ≤ gi (cntSt fx fy C R l k) j ∧ gi (cntSt fx fy C R l k) j ≤ k := by
  induction k generalizing j with
  | zero =>
    have : gi (cntSt fx fy C R l 0) j = 0 := by
      unfold cntSt gi
      rw [List.getD_eq_getElem?_getD, List.getElem?_replicate]
      split <;> rfl
    rw [this]; exact ⟨Int.le_refl _, Int.le_refl _⟩
  | succ k ih =>
    unfold cntSt
    split
    · rw [gi_setC]
      split
      · have := ih ((cellAt fx fy C R (gx sptRec l k).x (gx sptRec l k).y).2.1.toNat * C + (cellAt fx fy C R (gx sptRec l k).x (gx sptRec l k).y).1.toNat)
        omega
      · have := ih j; omega
    · have := ih j; omega
def crow (C : Nat) (s : List Int) : Nat → List (List Int)
  | 0 => []
  | j + 1 => if 1 < gi s j then crow C s j ++ [[((j % C : Nat) : Int), ((j / C : Nat) : Int)]] else crow C s j
theorem crow_len (C : Nat) (s : List Int) (j : Nat) : (crow C s j).length ≤ j := by
  induction j with
  | zero => simp [crow]
  | succ j ih =>
    unfold crow
    split
    · rw [List.length_append]; simp; omega
    · omega
theorem crow_tot (C : Nat) (s : List Int) (j : Nat) : tot (crow C s j) ≤ 2 * j := by
  induction j with
  | zero => simp [crow, tot]
  | succ j ih =>
    unfold crow
    split
    · unfold tot at *; simp; omega
    · omega
theorem crow_t {C j : Nat} {s : List Int} (h : decide (1 < gi s j) = true) : crow C s (j + 1) = crow C s j ++ [[((j % C : Nat) : Int), ((j / C : Nat) : Int)]] := by
  conv => lhs; unfold crow
  rw [if_pos (of_decide_eq_true h)]
theorem crow_f {C j : Nat} {s : List Int} (h : decide (1 < gi s j) = false) : crow C s (j + 1) = crow C s j := by
  conv => lhs; unfold crow
  rw [if_neg (of_decide_eq_false h)]
/-- What CrowdedCells returns. -/
def rCrowd (fx fy fc fr : Int) (l : List Spt) : List (List Int) × Bool :=
  if isAsk fx fy fc fr l then (crow fc.toNat (cntSt fx fy fc.toNat fr.toNat l l.length) (fr.toNat * fc.toNat), true) else ([], false)
theorem rCrowd_no {fx fy fc fr : Int} {l : List Spt} (h : isAsk fx fy fc fr l = false) : rCrowd fx fy fc fr l = ([], false) := by unfold rCrowd; rw [h]; rfl
theorem rCrowd_yes {fx fy : Int} {C R : Nat} {l : List Spt} (h : isAsk fx fy C R l = true) : rCrowd fx fy C R l = (crow C (cntSt fx fy C R l l.length) (R * C), true) := by unfold rCrowd; rw [h]; simp
theorem mul_bd {C R : Nat} (h1 : C ≤ 60) (h2 : R ≤ 30) : R * C ≤ 1800 := by
  have : R * C ≤ 30 * 60 := Nat.mul_le_mul h2 h1
  omega
theorem idx_lt {a b C R : Nat} (h1 : a < C) (h2 : b < R) : b * C + a < R * C := by
  have : (b + 1) * C ≤ R * C := Nat.mul_le_mul_right _ h2
  rw [Nat.add_mul] at this
  omega
theorem rCrowd_len (fx fy fc fr : Int) (l : List Spt) : (rCrowd fx fy fc fr l).1.length ≤ 1800 ∧ tot (rCrowd fx fy fc fr l).1 ≤ 3600 := by
  cases h : isAsk fx fy fc fr l
  · rw [rCrowd_no h]; exact ⟨by simp, by simp [tot]⟩
  · have hf := isFrm_t (isAsk_t h).1
    obtain ⟨C, rfl⟩ := Int.eq_ofNat_of_zero_le (show 0 ≤ fc by omega)
    obtain ⟨R, rfl⟩ := Int.eq_ofNat_of_zero_le (show 0 ≤ fr by omega)
    rw [rCrowd_yes h]
    have hm := mul_bd (C := C) (R := R) (by omega) (by omega)
    have h1 := crow_len C (cntSt fx fy C R l l.length) (R * C)
    have h2 := crow_tot C (cntSt fx fy C R l l.length) (R * C)
    refine ⟨?_, ?_⟩
    · show (crow C (cntSt fx fy C R l l.length) (R * C)).length ≤ 1800
      omega
    · show tot (crow C (cntSt fx fy C R l l.length) (R * C)) ≤ 3600
      omega
def FreshIntssB (w : World) (r : List (List Int) × Bool) (e : Ending) (w' : World) : Prop :=
  ∃ v, e = .returned (.tuple #[v, .bool r.2]) ∧ OwnIntss w' w.heap.size v r.1 ∧ Below w.heap.size w w'
theorem OwnIntss.lo {w : World} {lo lo' : Nat} {v : Value} {ls : List (List Int)} (h : OwnIntss w lo v ls) (hl : lo' ≤ lo) : OwnIntss w lo' v ls := by
  obtain ⟨vs, h1, h2, h3⟩ := h
  exact ⟨vs, ownsRow_lo h1 hl, fun i u l hu hl2 => ownsRow_lo (h2 i u l hu hl2) hl, h3⟩
theorem OwnIntss.drew {w : World} {lo : Nat} {v : Value} {ls : List (List Int)} (h : OwnIntss w lo v ls) : OwnIntss w.drew lo v ls := by
  obtain ⟨vs, h1, h2, h3⟩ := h
  exact ⟨vs, h1, h2, h3⟩
/-- append of one list inside a region that draws: w is the world in which v was known, w1 the one behind the making of u. -/
theorem step_app_list (w w1 : World) {ops : Array Oper} {o : Oper} {a : Act} {K : Act → World → Prop} {Q : Exit → Act → World → Prop} {E' : Prop} (hgd : o.guard = none) (s x : Operand)
    (ho : o.op = .call { callee := .builtin .append, args := #[s, x], argTypes := #[39, 39] })
    (lo : Nat) (v : Value) (ls : List (List Int)) (hs : a.eval s = v) (hown : OwnIntss w lo v ls) (hlo : lo ≤ w.heap.size) (hb : Below w.heap.size w w1)
    (A : Option Addr) (n c : Nat) (l : List Int) (hu : OwnInts w1 w.heap.size (.slice A n c) l) (H : Nat) (hx : a.eval x = .slice (some ⟨H, 0, none⟩) 1 1) (hH : H = w1.heap.size)
    (h63 : ls.length + 1 ≤ 1099511627776)
    (h : ∀ v' w', OwnIntss w' lo v' (ls ++ [l]) → Below lo w w' → K (a.put o.dst v') w') :
    if Region.wanted o (yielded ops a.tmps) = true then Oper.wp Try.prog o a (w1.alloc (.cells #[.slice A n c] 34)) K Q else E' := by
  subst hH
  obtain ⟨vs, hL⟩ := hown
  have h1 := (hL.below hb (Nat.le_refl _)).row
  refine step_of hgd (wpOp_app _ s x 39 ho lo 34 (.slice none 0 0) 1 24 Try.underlying39 info_ints rfl (by omega) v ls.length vs hs (World.ownsRow.alloc h1 _) _ 1 [.slice A n c] hx (Sl.one w1 _ _) (by simp [Value.oneCell']) h63 (by omega) (by have := hb.size; simp; omega) ?_)
  intro v' w' r1 r2 _
  refine h v' w' ⟨_, hL.push hlo hb hu r1 r2⟩ ?_
  have b1 : Below lo w w1 := hb.mono hlo
  have hs := hb.size
  exact (b1.alloc (by omega) _).trans (ownsRow_below (World.ownsRow.alloc h1 _) r2 (by simp; omega))
theorem OwnInts.lit2 (w : World) (base : Nat) (x y : Int) (hb : base ≤ w.heap.size) : OwnInts (w.alloc (.cells #[.int .i64 x, .int .i64 y] 3)) base (.slice (some ⟨w.heap.size, 0, none⟩) 2 2) [x, y] :=
  World.ownsRow_lit w #[.int .i64 x, .int .i64 y] 2 hb (by simp [maxLen]) rfl
set_option maxRecDepth 100000 in
set_option maxHeartbeats 12800000 in
theorem implCrowd (v : Value) (l : List Spt) (fx fy fc fr : Int) (w : World) (h : RowAt sptRec w v l) :
    Calls Try.prog 13 #[.agg #[.int .i64 fx, .int .i64 fy, .int .i64 fc, .int .i64 fr], v] w (FreshIntssB w (rCrowd fx fy fc fr l)) := by
  obtain ⟨A, ca, rfl, hnA, hcA⟩ := h.shape
  obtain ⟨i0, hi, hz0, hz1, hz2⟩ := info_parts info_int
  have hb0 := fun o => (Below.refl w.heap.size w).alloc (Nat.le_refl _) o
  have Hb0 := Lib.hid hb0
  clear hb0
  go_enter Try.func13, Try.ntmps13
  go_upto_region 0 with fail
  go_cut [2, 4, 5] (fun b2 r4 r5 wx => b2 = .pointer (some ⟨w.heap.size, 0, none⟩) ∧ r4 = .slice none 0 0 ∧ r5 = .bool false ∧ Box4 wx w.heap.size fx fy fc fr ∧ Below w.heap.size w wx)
  case first =>
    go_wp2_with fail
    go_meet
    exact ⟨rfl, rfl, rfl, ⟨by go_simp, by go_simp, by go_simp, by go_simp⟩, Hb0.out _⟩
  case rest =>
    obtain ⟨rfl, rfl, rfl, bx0, B0⟩ := hcut
    obtain ⟨w0, hw0⟩ : ∃ w0 : World, w0 = wc := ⟨_, rfl⟩
    subst hw0
    have hc := bx0.out
    obtain ⟨c0, c1, c2, c3⟩ := hc
    have h00 := h.below B0 (Nat.le_refl _)
    cases hf : isFrm fx fy fc fr
    case false =>
      have hr := Lib.hid (rCrowd_no (isAsk_no1 (l := l) hf))
      go_wp2_with fail
      refine (implIsFrameOf _ _ _ _ _).mono ?_; rintro e w1 ⟨rfl, b1⟩
      have B1 := B0.trans (b1.mono B0.size)
      go_wp2_with fail
      go_ret2
      exact ⟨_, by rw [hr.out]; rfl, by rw [hr.out]; exact OwnIntss.nil_ _ _, B1⟩
    case true =>
    cases hg : isChart l
    case false =>
      have hr := Lib.hid (rCrowd_no (isAsk_no2 (fx := fx) (fy := fy) (fc := fc) (fr := fr) hg))
      go_wp2_with fail
      refine (implIsFrameOf _ _ _ _ _).mono ?_; rintro e w1 ⟨rfl, b1⟩
      have B1 := B0.trans (b1.mono B0.size)
      have h01 := h.below B1 (Nat.le_refl _)
      go_wp2_with fail
      refine (implIsChart _ l _ h01).mono ?_; rintro e w2 ⟨rfl, b2⟩
      have B2 := B1.trans (b2.mono B1.size)
      go_wp2_with fail
      go_ret2
      exact ⟨_, by rw [hr.out]; rfl, by rw [hr.out]; exact OwnIntss.nil_ _ _, B2⟩
    case true =>
    have hk := isAsk_yes hf hg
    have hft := isFrm_t hf
    obtain ⟨p1, p2, p3, p4, _⟩ := hft
    obtain ⟨C, rfl⟩ := Int.eq_ofNat_of_zero_le (show 0 ≤ fc by omega)
    obtain ⟨R, rfl⟩ := Int.eq_ofNat_of_zero_le (show 0 ≤ fr by omega)
    have hr := Lib.hid (rCrowd_yes hk)
    have Hf := Lib.hid hf
    have Hs := Lib.hid (chart_spot hg)
    have h12 := (isChart_t hg).2.1
    have hm := mul_bd (C := C) (R := R) (by omega) (by omega)
    obtain ⟨N, hN⟩ : ∃ N : Nat, N = R * C := ⟨_, rfl⟩
    have HN := Lib.hid hN
    have hmul : (R : Int) * (C : Int) = (N : Int) := by rw [hN, Int.natCast_mul]
    have hN1 : N ≤ 1800 := by omega
    have hlen : ∀ k, (cntSt fx fy C R l k).length = N := fun k => by rw [cntSt_len, hN]
    have Hlen := Lib.hid hlen
    have HM := Lib.hid hmul
    clear hN hlen hm hmul
    go_wp2_with fail
    refine (implIsFrameOf _ _ _ _ _).mono ?_; rintro e w1 ⟨rfl, b1⟩
    have B1 := B0.trans (b1.mono B0.size)
    have h01 := h.below B1 (Nat.le_refl _)
    go_wp2_with fail
    refine (implIsChart _ l _ h01).mono ?_; rintro e w2 ⟨rfl, b2⟩
    have B2 := B1.trans (b2.mono B1.size)
    have bx1 := (bx0.keep b1 (Nat.le_refl _)).keep b2 (Nat.le_refl _)
    clear c0 c1 c2 c3
    have hc := bx1.out
    obtain ⟨c0, c1, c2, c3⟩ := hc
    have h02 := h.below B2 (Nat.le_refl _)
    have hmul := HM.out
    go_upto_region 4 with (at_make; refine wpList_make_full _ rfl _ _ 34 rfl w2.heap.size 3 i0 _ 1 Try.underlying34 hi hz0 hz1 _ _ _ _ N rfl rfl (by rfl) (by rfl) (by rw [hz2]; omega) (by unfold maxLen; omega) (Nat.le_refl _) ?_; intro w5 hown hgrow)
    clear hk hf hg hmul
    have hcnt : OwnInts w5 w2.heap.size (.slice (some ⟨w2.heap.size, 0, none⟩) N N) (cntSt fx fy C R l 0) := by
      unfold OwnInts
      rw [Hlen.out]
      have e : ints (cntSt fx fy C R l 0) = (madeCells #[.int .i64 0] (N * 1)).toList := by rw [Nat.mul_one, toList_madeCells_one, HN.out]; simp [cntSt, ints]
      rw [e]
      exact hown
    have hb5 : Below w2.heap.size w2 w5 := (Below.refl _ _).grown hgrow (Nat.le_refl _) (fun k hk => by cases hk)
    have bx5 := bx1.keep hb5 (Nat.le_refl _)
    clear hown hgrow c0 c1 c2 c3
    have hGl := bx1.lt
    go_wp2_with fail
    go_loopw [31] (fun s wr => ∃ k : Nat, k ≤ l.length ∧ s = .int .i64 k ∧ OwnInts wr w2.heap.size (.slice (some ⟨w2.heap.size, 0, none⟩) N N) (cntSt fx fy C R l k) ∧ Below w2.heap.size w2 wr) (fun s _ => l.length - (intOf s).toNat)
    case atStart => exact ⟨0, Nat.zero_le _, rfl, hcnt, hb5⟩
    case round =>
      obtain ⟨k, hk, rfl, ho, hb⟩ := hrel
      by_cases hlt : k < l.length
      · obtain ⟨ba, oa, rfl, ha0, ha1⟩ := spt_at (h02.below hb (Nat.le_refl _)) k hlt
        have hc := (bx1.keep hb (Nat.le_refl _)).out
        obtain ⟨c0, c1, c2, c3⟩ := hc
        have hwl : w.heap.size < wr.heap.size := by have := hb.size; omega
        go_upto_region 7 with fail
        go_cut [9, 10, 11] (fun s t u wx => CellRel fx fy C R (gx sptRec l k) s t u ∧ Below wr.heap.size wr wx)
        case first =>
          have hA : Below wr.heap.size wr (wr.alloc (.cells #[.int .i64 (gx sptRec l k).x, .int .i64 (gx sptRec l k).y] 25)) := (Below.refl _ _).alloc (Nat.le_refl _) _
          go_wp2_with fail
          refine (cellOf_any _ _ _ _ _ _ _ Hf.out (Hs.out k hlt)).mono ?_; rintro e w9 ⟨rfl, d9⟩
          go_wp2_with fail
          go_meet
          exact ⟨⟨_, _, _, rfl, rfl, rfl, rfl⟩, hA.next (Nat.le_refl _) d9⟩
        case rest =>
        obtain ⟨hcr, d1⟩ := hcut
        have hcr2 := hcr.out
        obtain ⟨x1, y1, o1, rfl, rfl, rfl, e1⟩ := hcr2
        obtain ⟨W1, hW1⟩ : ∃ W1 : World, W1 = wc := ⟨_, rfl⟩
        subst hW1
        have hc2 := ((bx1.keep hb (Nat.le_refl _)).keep d1 (Nat.le_refl _)).out
        clear c0 c1 c2 c3 hcr
        obtain ⟨c0, c1, c2, c3⟩ := hc2
        have ho1 := OwnInts.below ho d1 (Nat.le_refl _)
        have hb1 := hb.next (Nat.le_refl _) d1
        cases o1
        case false =>
          have hs := Lib.hid (cntSt_f e1)
          clear e1
          go_wp2_with fail
          go_roundw
          case rel => exact ⟨k + 1, by omega, by go_num, by rw [hs.out]; exact ho1, hb1⟩
          case measure => simp [intOf]; omega
        case true =>
          have hct := cellAt_t e1
          obtain ⟨t1, t2, t3, t4⟩ := hct
          obtain ⟨a, rfl⟩ := Int.eq_ofNat_of_zero_le t1
          obtain ⟨b, rfl⟩ := Int.eq_ofNat_of_zero_le t3
          have hs := Lib.hid (cntSt_t e1)
          clear e1
          have hix := idx_lt (a := a) (b := b) (C := C) (R := R) (by omega) (by omega)
          obtain ⟨M, hM⟩ : ∃ M : Nat, M = b * C := ⟨_, rfl⟩
          have hmul : (b : Int) * (C : Int) = (M : Int) := by rw [hM, Int.natCast_mul]
          rw [← hM] at hix hs
          rw [← HN.out] at hix
          clear hM
          have hbd := cntSt_bd fx fy C R l k (M + a)
          obtain ⟨v1, v2⟩ := hbd
          have ho2 : W1.ownsRow w2.heap.size 3 1 (.slice (some ⟨w2.heap.size, 0, none⟩) N N) N (ints (cntSt fx fy C R l k)) := by have h9 := ho1; unfold OwnInts at h9; rw [Hlen.out] at h9; exact h9
          have hcell : W1.cell? ⟨w2.heap.size, M + a, none⟩ = some (.int .i64 (gi (cntSt fx fy C R l k) (M + a))) := by
            rw [World.ownsRow.cellAt ho2 (M + a) (by omega)]
            unfold ints; rw [List.getElem?_map, List.getElem?_eq_getElem (by rw [Hlen.out]; exact hix), gi_eq (by rw [Hlen.out]; exact hix)]; rfl
          have hfr : W1.frozen? ⟨w2.heap.size, M + a, none⟩ = false := World.ownsRow.frozenAt ho2 _
          have hst := World.ownsRow.stored ho2 (M + a) (.int .i64 (gi (cntSt fx fy C R l k) (M + a) + 1))
          have hst2 : Hid (OwnInts (W1.setCell ⟨w2.heap.size, M + a, none⟩ (.int .i64 (gi (cntSt fx fy C R l k) (M + a) + 1))) w2.heap.size (.slice (some ⟨w2.heap.size, 0, none⟩) N N) (cntSt fx fy C R l (k + 1))) := by
            show OwnInts _ _ _ _
            rw [hs.out]
            have h9 := hst.1
            unfold OwnInts
            rw [List.length_set, Hlen.out]
            unfold ints at h9 ⊢
            rw [List.map_set]
            exact h9
          clear hst ho2
          go_wp2_with fail
          go_roundw
          case rel => exact ⟨k + 1, by omega, by go_num, hst2.out, hb1.setCell (by exact Nat.le_refl _) _⟩
          case measure => simp [intOf]; omega
      · obtain rfl : k = l.length := by omega
        obtain ⟨wo, hwo⟩ : ∃ wo : World, wo = wr := ⟨_, rfl⟩
        subst hwo
        have hwl : w.heap.size < wo.heap.size := by have := hb.size; omega
        have bxo := bx1.keep hb (Nat.le_refl _)
        obtain ⟨S, hS⟩ : ∃ S : List Int, S = cntSt fx fy C R l l.length := ⟨_, rfl⟩
        have hSl : S.length = N := by rw [hS]; exact Hlen.out _
        have HSl := Lib.hid hSl
        have hSr : IntsAt wo (.slice (some ⟨w2.heap.size, 0, none⟩) N N) S := by rw [hS]; exact ho.reads
        rw [← hS, ← HN.out] at hr
        have hSb : ∀ j, gi S j ≤ 12 := fun j => by have := cntSt_bd fx fy C R l l.length j; rw [hS]; omega
        have HSb := Lib.hid hSb
        have HS := Lib.hid hS
        clear hS hSl hSb ho hcnt hb5 bx5
        go_wp2_with fail
        go_loopw [12, 58] (fun t s wr => ∃ j : Nat, j ≤ N ∧ s = .int .i64 j ∧ OwnIntss wr wo.heap.size t (crow C S j) ∧ Below wo.heap.size wo wr) (fun _ s _ => N - (intOf s).toNat)
        case atStart => exact ⟨0, Nat.zero_le _, rfl, OwnIntss.empty wo _ (Nat.le_refl _), (Below.refl _ _).alloc (Nat.le_refl _) _⟩
        case round =>
          obtain ⟨j, hj, rfl, ho, hbj⟩ := hrel
          by_cases hlt : j < N
          · obtain ⟨b9, o9, he9, hcj⟩ := IntsAt.at_ (hSr.below hbj (Nat.le_refl _)) j (by have := HSl.out; omega)
            injection he9 with he9
            injection he9 with e1 e2
            subst e1 e2
            have hcj2 : wr.cell? ⟨w2.heap.size, j, none⟩ = some (.int .i64 (gi S j)) := by simpa using hcj
            clear hcj
            have hgb := HSb.out j
            cases hx : decide (1 < gi S j)
            case false =>
              have hs := Lib.hid (crow_f (C := C) hx)
              have hx2 : gi S j ≤ 1 := by have := of_decide_eq_false hx; omega
              clear hx
              go_wp2_with fail
              go_roundw
              case rel => exact ⟨j + 1, by omega, by go_num, by rw [hs.out]; exact ho, hbj⟩
              case measure => simp [intOf]; omega
            case true =>
              have hs := Lib.hid (crow_t (C := C) hx)
              have hx2 : 1 < gi S j := of_decide_eq_true hx
              clear hx
              have hcl := crow_len C S j
              have h9 : (crow C S j).length + 1 ≤ 1099511627776 := by omega
              clear hcl
              have hbx := (bxo.keep hbj (Nat.le_refl _)).out
              obtain ⟨c0, c1, c2, c3⟩ := hbx
              have hdiv : j / C ≤ j := Nat.div_le_self _ _
              have hm1 : (j : Int).tmod (C : Int) = ((j % C : Nat) : Int) := by rw [Int.tmod_eq_emod_of_nonneg (by omega)]; rfl
              have hm2 : (j : Int).tdiv (C : Int) = ((j / C : Nat) : Int) := by rw [Int.tdiv_eq_ediv_of_nonneg (by omega)]; rfl
              have hC0 : ((C : Int) == 0) = false := by simp; omega
              have hC1 : (C : Int) ≠ 0 := by omega
              have hC2 : ¬ C = 0 := by omega
              have hC3 : (C : Int) ≠ -1 := by omega
              obtain ⟨qa, hqa⟩ : ∃ q : Nat, q = j % C := ⟨_, rfl⟩
              obtain ⟨qb, hqb⟩ : ∃ q : Nat, q = j / C := ⟨_, rfl⟩
              rw [← hqa] at hm1 hs
              rw [← hqb] at hm2 hs hdiv
              clear hqa hqb
              have hm3 : IntKind.i64.wrap (qb : Int) = (qb : Int) := IntWalk.i64_in _ (by omega)
              go_upto_region 16 with fail
              ((go_region_held3 (fun w' => w'.cell? ⟨w.heap.size, 2, none⟩ = some (.int .i64 C))
                (first | go_keep | exact (hb5.cell (p := ⟨w.heap.size, 2, none⟩) hwl).trans c2)
                ((refine step_app_list wr.drew _ (by rfl) _ _ (by rfl) wo.heap.size _ (crow C S j) (by rfl) (OwnIntss.drew ho) hbj.size ((Below.refl _ _).alloc (Nat.le_refl _) _) _ _ _ [(qa : Int), (qb : Int)] (OwnInts.lit2 wr.drew _ _ _ (Nat.le_refl _)) _ (by rfl) (by simp) h9 ?_; intro v5 w5 ho5 hb5))))
              all_goals
                clear hm1 hm2 hm3 hC0
                go_wp2_with fail
                go_roundw
                case rel => exact ⟨j + 1, by omega, by go_num, by rw [hs.out]; exact ho5, hbj.drew.trans hb5⟩
                case measure => simp [intOf]; omega
          · obtain rfl : j = N := by omega
            have ho2 := Lib.hid (OwnIntss.lo ho (show w.heap.size ≤ wo.heap.size by omega))
            clear ho
            go_wp2_with fail
            go_ret2
            exact ⟨_, by rw [hr.out]; rfl, by rw [hr.out]; exact ho2.out, (B2.trans (hb.mono B2.size)).trans (hbj.mono (by omega))⟩
set_option maxRecDepth 100000 in
set_option maxHeartbeats 12800000 in
theorem specCrowd (v : Value) (l : List Spt) (fx fy fc fr : Int) (w : World) (h : RowAt sptRec w v l) :
    Calls Try.prog 14 #[.agg #[.int .i64 fx, .int .i64 fy, .int .i64 fc, .int .i64 fr], v] w (FreshIntssB w (rCrowd fx fy fc fr l)) := by
  obtain ⟨A, ca, rfl, hnA, hcA⟩ := h.shape
  obtain ⟨i0, hi, hz0, hz1, hz2⟩ := info_parts info_int
  have hb0 := fun o => (Below.refl w.heap.size w).alloc (Nat.le_refl _) o
  have Hb0 := Lib.hid hb0
  clear hb0
  go_enter Try.func14, Try.ntmps14
  go_upto_region 0 with fail
  go_cut [2, 4, 5] (fun b2 r4 r5 wx => b2 = .pointer (some ⟨w.heap.size, 0, none⟩) ∧ r4 = .slice none 0 0 ∧ r5 = .bool false ∧ Box4 wx w.heap.size fx fy fc fr ∧ Below w.heap.size w wx)
  case first =>
    go_wp2_with fail
    go_meet
    exact ⟨rfl, rfl, rfl, ⟨by go_simp, by go_simp, by go_simp, by go_simp⟩, Hb0.out _⟩
  case rest =>
    obtain ⟨rfl, rfl, rfl, bx0, B0⟩ := hcut
    obtain ⟨w0, hw0⟩ : ∃ w0 : World, w0 = wc := ⟨_, rfl⟩
    subst hw0
    have hc := bx0.out
    obtain ⟨c0, c1, c2, c3⟩ := hc
    have h00 := h.below B0 (Nat.le_refl _)
    cases hk : isAsk fx fy fc fr l
    case false =>
      have hr := Lib.hid (rCrowd_no hk)
      go_wp2_with fail
      refine (vwAsked_any _ l _ _ _ _ _ h00).mono ?_; rintro e w1 ⟨rfl, b1⟩
      have B1 := B0.trans (b1.mono B0.size)
      go_wp2_with fail
      go_ret2
      exact ⟨_, by rw [hr.out]; rfl, by rw [hr.out]; exact OwnIntss.nil_ _ _, B1⟩
    case true =>
    have hk2 := isAsk_t hk
    obtain ⟨hf, hg⟩ := hk2
    have hft := isFrm_t hf
    obtain ⟨p1, p2, p3, p4, _⟩ := hft
    obtain ⟨C, rfl⟩ := Int.eq_ofNat_of_zero_le (show 0 ≤ fc by omega)
    obtain ⟨R, rfl⟩ := Int.eq_ofNat_of_zero_le (show 0 ≤ fr by omega)
    have hr := Lib.hid (rCrowd_yes hk)
    have Hf := Lib.hid hf
    have Hs := Lib.hid (chart_spot hg)
    have h12 := (isChart_t hg).2.1
    have hm := mul_bd (C := C) (R := R) (by omega) (by omega)
    obtain ⟨N, hN⟩ : ∃ N : Nat, N = R * C := ⟨_, rfl⟩
    have HN := Lib.hid hN
    have hmul : (R : Int) * (C : Int) = (N : Int) := by rw [hN, Int.natCast_mul]
    have hN1 : N ≤ 1800 := by omega
    have hlen : ∀ k, (cntSt fx fy C R l k).length = N := fun k => by rw [cntSt_len, hN]
    have Hlen := Lib.hid hlen
    have HM := Lib.hid hmul
    clear hN hlen hm hmul
    go_wp2_with fail
    refine (vwAsked_any _ l _ _ _ _ _ h00).mono ?_; rintro e w1 ⟨rfl, b1⟩
    have B1 := B0.trans (b1.mono B0.size)
    have bx1 := bx0.keep b1 (Nat.le_refl _)
    clear c0 c1 c2 c3
    have hc := bx1.out
    obtain ⟨c0, c1, c2, c3⟩ := hc
    have h02 := h.below B1 (Nat.le_refl _)
    have hmul := HM.out
    go_upto_region 4 with (at_make; refine wpList_make_full _ rfl _ _ 34 rfl w1.heap.size 3 i0 _ 1 Try.underlying34 hi hz0 hz1 _ _ _ _ N rfl rfl (by rfl) (by rfl) (by rw [hz2]; omega) (by unfold maxLen; omega) (Nat.le_refl _) ?_; intro w5 hown hgrow)
    clear hk hf hg hmul
    have hcnt : OwnInts w5 w1.heap.size (.slice (some ⟨w1.heap.size, 0, none⟩) N N) (cntSt fx fy C R l 0) := by
      unfold OwnInts
      rw [Hlen.out]
      have e : ints (cntSt fx fy C R l 0) = (madeCells #[.int .i64 0] (N * 1)).toList := by rw [Nat.mul_one, toList_madeCells_one, HN.out]; simp [cntSt, ints]
      rw [e]
      exact hown
    have hb5 : Below w1.heap.size w1 w5 := (Below.refl _ _).grown hgrow (Nat.le_refl _) (fun k hk => by cases hk)
    have bx5 := bx1.keep hb5 (Nat.le_refl _)
    clear hown hgrow c0 c1 c2 c3
    have hGl := bx1.lt
    go_wp2_with fail
    go_loopw [27] (fun s wr => ∃ k : Nat, k ≤ l.length ∧ s = .int .i64 k ∧ OwnInts wr w1.heap.size (.slice (some ⟨w1.heap.size, 0, none⟩) N N) (cntSt fx fy C R l k) ∧ Below w1.heap.size w1 wr) (fun s _ => l.length - (intOf s).toNat)
    case atStart => exact ⟨0, Nat.zero_le _, rfl, hcnt, hb5⟩
    case round =>
      obtain ⟨k, hk, rfl, ho, hb⟩ := hrel
      by_cases hlt : k < l.length
      · obtain ⟨ba, oa, rfl, ha0, ha1⟩ := spt_at (h02.below hb (Nat.le_refl _)) k hlt
        have hc := (bx1.keep hb (Nat.le_refl _)).out
        obtain ⟨c0, c1, c2, c3⟩ := hc
        have hwl : w.heap.size < wr.heap.size := by have := hb.size; omega
        go_upto_region 7 with fail
        go_cut [9, 10, 11] (fun s t u wx => CellRel fx fy C R (gx sptRec l k) s t u ∧ Below wr.heap.size wr wx)
        case first =>
          have hA : Below wr.heap.size wr (wr.alloc (.cells #[.int .i64 (gx sptRec l k).x, .int .i64 (gx sptRec l k).y] 25)) := (Below.refl _ _).alloc (Nat.le_refl _) _
          go_wp2_with fail
          refine (vwCell_any _ _ _ _ _ _ _ Hf.out (Hs.out k hlt)).mono ?_; rintro e w9 ⟨rfl, d9⟩
          go_wp2_with fail
          go_meet
          exact ⟨⟨_, _, _, rfl, rfl, rfl, rfl⟩, hA.next (Nat.le_refl _) d9⟩
        case rest =>
        obtain ⟨hcr, d1⟩ := hcut
        have hcr2 := hcr.out
        obtain ⟨x1, y1, o1, rfl, rfl, rfl, e1⟩ := hcr2
        obtain ⟨W1, hW1⟩ : ∃ W1 : World, W1 = wc := ⟨_, rfl⟩
        subst hW1
        have hc2 := ((bx1.keep hb (Nat.le_refl _)).keep d1 (Nat.le_refl _)).out
        clear c0 c1 c2 c3 hcr
        obtain ⟨c0, c1, c2, c3⟩ := hc2
        have ho1 := OwnInts.below ho d1 (Nat.le_refl _)
        have hb1 := hb.next (Nat.le_refl _) d1
        cases o1
        case false =>
          have hs := Lib.hid (cntSt_f e1)
          clear e1
          go_wp2_with fail
          go_roundw
          case rel => exact ⟨k + 1, by omega, by go_num, by rw [hs.out]; exact ho1, hb1⟩
          case measure => simp [intOf]; omega
        case true =>
          have hct := cellAt_t e1
          obtain ⟨t1, t2, t3, t4⟩ := hct
          obtain ⟨a, rfl⟩ := Int.eq_ofNat_of_zero_le t1
          obtain ⟨b, rfl⟩ := Int.eq_ofNat_of_zero_le t3
          have hs := Lib.hid (cntSt_t e1)
          clear e1
          have hix := idx_lt (a := a) (b := b) (C := C) (R := R) (by omega) (by omega)
          obtain ⟨M, hM⟩ : ∃ M : Nat, M = b * C := ⟨_, rfl⟩
          have hmul : (b : Int) * (C : Int) = (M : Int) := by rw [hM, Int.natCast_mul]
          rw [← hM] at hix hs
          rw [← HN.out] at hix
          clear hM
          have hbd := cntSt_bd fx fy C R l k (M + a)
          obtain ⟨v1, v2⟩ := hbd
          have ho2 : W1.ownsRow w1.heap.size 3 1 (.slice (some ⟨w1.heap.size, 0, none⟩) N N) N (ints (cntSt fx fy C R l k)) := by have h9 := ho1; unfold OwnInts at h9; rw [Hlen.out] at h9; exact h9
          have hcell : W1.cell? ⟨w1.heap.size, M + a, none⟩ = some (.int .i64 (gi (cntSt fx fy C R l k) (M + a))) := by
            rw [World.ownsRow.cellAt ho2 (M + a) (by omega)]
            unfold ints; rw [List.getElem?_map, List.getElem?_eq_getElem (by rw [Hlen.out]; exact hix), gi_eq (by rw [Hlen.out]; exact hix)]; rfl
          have hfr : W1.frozen? ⟨w1.heap.size, M + a, none⟩ = false := World.ownsRow.frozenAt ho2 _
          have hst := World.ownsRow.stored ho2 (M + a) (.int .i64 (gi (cntSt fx fy C R l k) (M + a) + 1))
          have hst2 : Hid (OwnInts (W1.setCell ⟨w1.heap.size, M + a, none⟩ (.int .i64 (gi (cntSt fx fy C R l k) (M + a) + 1))) w1.heap.size (.slice (some ⟨w1.heap.size, 0, none⟩) N N) (cntSt fx fy C R l (k + 1))) := by
            show OwnInts _ _ _ _
            rw [hs.out]
            have h9 := hst.1
            unfold OwnInts
            rw [List.length_set, Hlen.out]
            unfold ints at h9 ⊢
            rw [List.map_set]
            exact h9
          clear hst ho2
          go_wp2_with fail
          go_roundw
          case rel => exact ⟨k + 1, by omega, by go_num, hst2.out, hb1.setCell (by exact Nat.le_refl _) _⟩
          case measure => simp [intOf]; omega
      · obtain rfl : k = l.length := by omega
        obtain ⟨wo, hwo⟩ : ∃ wo : World, wo = wr := ⟨_, rfl⟩
        subst hwo
        have hwl : w.heap.size < wo.heap.size := by have := hb.size; omega
        have bxo := bx1.keep hb (Nat.le_refl _)
        obtain ⟨S, hS⟩ : ∃ S : List Int, S = cntSt fx fy C R l l.length := ⟨_, rfl⟩
        have hSl : S.length = N := by rw [hS]; exact Hlen.out _
        have HSl := Lib.hid hSl
        have hSr : IntsAt wo (.slice (some ⟨w1.heap.size, 0, none⟩) N N) S := by rw [hS]; exact ho.reads
        rw [← hS, ← HN.out] at hr
        have hSb : ∀ j, gi S j ≤ 12 := fun j => by have := cntSt_bd fx fy C R l l.length j; rw [hS]; omega
        have HSb := Lib.hid hSb
        have HS := Lib.hid hS
        clear hS hSl hSb ho hcnt hb5 bx5
        go_wp2_with fail
        go_loopw [12, 53] (fun t s wr => ∃ j : Nat, j ≤ N ∧ s = .int .i64 j ∧ OwnIntss wr wo.heap.size t (crow C S j) ∧ Below wo.heap.size wo wr) (fun _ s _ => N - (intOf s).toNat)
        case atStart => exact ⟨0, Nat.zero_le _, rfl, OwnIntss.nil_ wo _, Below.refl _ _⟩
        case round =>
          obtain ⟨j, hj, rfl, ho, hbj⟩ := hrel
          by_cases hlt : j < N
          · obtain ⟨b9, o9, he9, hcj⟩ := IntsAt.at_ (hSr.below hbj (Nat.le_refl _)) j (by have := HSl.out; omega)
            injection he9 with he9
            injection he9 with e1 e2
            subst e1 e2
            have hcj2 : wr.cell? ⟨w1.heap.size, j, none⟩ = some (.int .i64 (gi S j)) := by simpa using hcj
            clear hcj
            have hgb := HSb.out j
            cases hx : decide (1 < gi S j)
            case false =>
              have hs := Lib.hid (crow_f (C := C) hx)
              have hx2 : gi S j ≤ 1 := by have := of_decide_eq_false hx; omega
              clear hx
              go_wp2_with fail
              go_roundw
              case rel => exact ⟨j + 1, by omega, by go_num, by rw [hs.out]; exact ho, hbj⟩
              case measure => simp [intOf]; omega
            case true =>
              have hs := Lib.hid (crow_t (C := C) hx)
              have hx2 : 1 < gi S j := of_decide_eq_true hx
              clear hx
              have hcl := crow_len C S j
              have h9 : (crow C S j).length + 1 ≤ 1099511627776 := by omega
              clear hcl
              have hbx := (bxo.keep hbj (Nat.le_refl _)).out
              obtain ⟨c0, c1, c2, c3⟩ := hbx
              have hdiv : j / C ≤ j := Nat.div_le_self _ _
              have hm1 : (j : Int).tmod (C : Int) = ((j % C : Nat) : Int) := by rw [Int.tmod_eq_emod_of_nonneg (by omega)]; rfl
              have hm2 : (j : Int).tdiv (C : Int) = ((j / C : Nat) : Int) := by rw [Int.tdiv_eq_ediv_of_nonneg (by omega)]; rfl
              have hC0 : ((C : Int) == 0) = false := by simp; omega
              have hC1 : (C : Int) ≠ 0 := by omega
              have hC2 : ¬ C = 0 := by omega
              have hC3 : (C : Int) ≠ -1 := by omega
              obtain ⟨qa, hqa⟩ : ∃ q : Nat, q = j % C := ⟨_, rfl⟩
              obtain ⟨qb, hqb⟩ : ∃ q : Nat, q = j / C := ⟨_, rfl⟩
              rw [← hqa] at hm1 hs
              rw [← hqb] at hm2 hs hdiv
              clear hqa hqb
              have hm3 : IntKind.i64.wrap (qb : Int) = (qb : Int) := IntWalk.i64_in _ (by omega)
              go_upto_region 16 with fail
              ((go_region_held3 (fun w' => w'.cell? ⟨w.heap.size, 2, none⟩ = some (.int .i64 C))
                (first | go_keep | exact (hb5.cell (p := ⟨w.heap.size, 2, none⟩) hwl).trans c2)
                ((refine step_app_list wr.drew _ (by rfl) _ _ (by rfl) wo.heap.size _ (crow C S j) (by rfl) (OwnIntss.drew ho) hbj.size ((Below.refl _ _).alloc (Nat.le_refl _) _) _ _ _ [(qa : Int), (qb : Int)] (OwnInts.lit2 wr.drew _ _ _ (Nat.le_refl _)) _ (by rfl) (by simp) h9 ?_; intro v5 w5 ho5 hb5))))
              all_goals
                clear hm1 hm2 hm3 hC0
                go_wp2_with fail
                go_roundw
                case rel => exact ⟨j + 1, by omega, by go_num, by rw [hs.out]; exact ho5, hbj.drew.trans hb5⟩
                case measure => simp [intOf]; omega
          · obtain rfl : j = N := by omega
            have ho2 := Lib.hid (OwnIntss.lo ho (show w.heap.size ≤ wo.heap.size by omega))
            clear ho
            go_wp2_with fail
            go_ret2
            exact ⟨_, by rw [hr.out]; rfl, by rw [hr.out]; exact ho2.out, (B1.trans (hb.mono B1.size)).trans (hbj.mono (by omega))⟩
end Go.Proofs.Ytjbffahnbkpcnaa
