/- Contracts of HiddenIn, in the program and in the reference. -/
import Derived.Test.YtjbffahnbkpcnaaShown
set_option linter.unusedSimpArgs false
set_option linter.unusedVariables false
namespace Go.Proofs.Ytjbffahnbkpcnaa
open Go.RowKit

/-- Is a performer hidden? -/
def hidB (fx fy : Int) (C R : Nat) (l : List Spt) (S : List (List Int)) (i : Nat) : Bool :=
  !(cellAt fx fy C R (gx sptRec l i).x (gx sptRec l i).y).2.2 || (gi (gl S (cellAt fx fy C R (gx sptRec l i).x (gx sptRec l i).y).2.1.toNat) (cellAt fx fy C R (gx sptRec l i).x (gx sptRec l i).y).1.toNat != (i : Int))
def hdn (fx fy : Int) (C R : Nat) (l : List Spt) (S : List (List Int)) : Nat → List Int
  | 0 => []
  | k + 1 => if hidB fx fy C R l S k then hdn fx fy C R l S k ++ [(k : Int)] else hdn fx fy C R l S k
theorem hdn_t {fx fy : Int} {C R k : Nat} {l : List Spt} {S : List (List Int)} (h : hidB fx fy C R l S k = true) : hdn fx fy C R l S (k + 1) = hdn fx fy C R l S k ++ [(k : Int)] := by
  conv => lhs; unfold hdn
  rw [if_pos h]
theorem hdn_f {fx fy : Int} {C R k : Nat} {l : List Spt} {S : List (List Int)} (h : hidB fx fy C R l S k = false) : hdn fx fy C R l S (k + 1) = hdn fx fy C R l S k := by
  conv => lhs; unfold hdn
  rw [if_neg (by rw [h]; decide)]
theorem hdn_len (fx fy : Int) (C R : Nat) (l : List Spt) (S : List (List Int)) (k : Nat) : (hdn fx fy C R l S k).length ≤ k := by
  induction k with
  | zero => simp [hdn]
  | succ k ih => 
    unfold hdn
    split
    · rw [List.length_append]; simp; omega
    · omega
theorem hidB_no {fx fy a b : Int} {C R k : Nat} {l : List Spt} {S : List (List Int)} (h : cellAt fx fy C R (gx sptRec l k).x (gx sptRec l k).y = (a, b, false)) : hidB fx fy C R l S k = true := by
  unfold hidB; rw [h]; rfl
theorem hidB_in {fx fy : Int} {a b C R k : Nat} {l : List Spt} {S : List (List Int)} (h : cellAt fx fy C R (gx sptRec l k).x (gx sptRec l k).y = ((a : Int), (b : Int), true)) : hidB fx fy C R l S k = (gi (gl S b) a != (k : Int)) := by
  unfold hidB; rw [h]; simp
/-- What HiddenIn returns. -/
def rHidden (fx fy fc fr : Int) (l : List Spt) : List Int × Bool :=
  if isAsk fx fy fc fr l then (hdn fx fy fc.toNat fr.toNat l (shw fx fy fc.toNat fr.toNat l l.length) l.length, true) else ([], false)
theorem rHidden_no {fx fy fc fr : Int} {l : List Spt} (h : isAsk fx fy fc fr l = false) : rHidden fx fy fc fr l = ([], false) := by unfold rHidden; rw [h]; rfl
theorem rHidden_yes {fx fy : Int} {C R : Nat} {l : List Spt} (h : isAsk fx fy C R l = true) : rHidden fx fy C R l = (hdn fx fy C R l (shw fx fy C R l l.length) l.length, true) := by unfold rHidden; rw [h]; simp
theorem rHidden_len (fx fy fc fr : Int) (l : List Spt) : (rHidden fx fy fc fr l).1.length ≤ 12 := by
  cases h : isAsk fx fy fc fr l
  · rw [rHidden_no h]; simp
  · have hf := isFrm_t (isAsk_t h).1
    have hl := (isChart_t (isAsk_t h).2).2.1
    obtain ⟨C, rfl⟩ := Int.eq_ofNat_of_zero_le (show 0 ≤ fc by omega)
    obtain ⟨R, rfl⟩ := Int.eq_ofNat_of_zero_le (show 0 ≤ fr by omega)
    rw [rHidden_yes h]
    have h1 := hdn_len fx fy C R l (shw fx fy C R l l.length) l.length
    show (hdn fx fy C R l (shw fx fy C R l l.length) l.length).length ≤ 12
    omega
def FreshIntsV (w : World) (r : List Int × Bool) (e : Ending) (w' : World) : Prop :=
  ∃ v, e = .returned (.tuple #[v, .bool r.2]) ∧ OwnInts w' w.heap.size v r.1 ∧ Below w.heap.size w w'
set_option maxRecDepth 100000 in
set_option maxHeartbeats 12800000 in
theorem implHidden (v : Value) (l : List Spt) (fx fy fc fr : Int) (w : World) (h : RowAt sptRec w v l) :
    Calls Try.prog 9 #[.agg #[.int .i64 fx, .int .i64 fy, .int .i64 fc, .int .i64 fr], v] w (FreshIntsV w (rHidden fx fy fc fr l)) := by
  obtain ⟨A, ca, rfl, hnA, hcA⟩ := h.shape
  have hb0 := fun o => (Below.refl w.heap.size w).alloc (Nat.le_refl _) o
  have Hb0 := Lib.hid hb0
  clear hb0
  go_enter Try.func9, Try.ntmps9
  go_upto_region 0 with fail
  go_cut [2, 4, 5] (fun b2 r4 r5 wx => b2 = .pointer (some ⟨w.heap.size, 0, none⟩) ∧ r4 = .slice none 0 0 ∧ r5 = .bool false ∧ Box4 wx w.heap.size fx fy fc fr ∧ Below w.heap.size w wx)
  case first =>
    go_wp2_with fail
    go_meet
    exact ⟨rfl, rfl, rfl, ⟨by go_simp, by go_simp, by go_simp, by go_simp⟩, Hb0.out _⟩
  case rest =>
    obtain ⟨rfl, rfl, rfl, bx0, B0⟩ := hcut
    obtain ⟨w0, hw0⟩ : ∃ w0 : World, w0 = wc := ⟨_, rfl⟩
    subst hw0
    have hc := bx0.out
    obtain ⟨c0, c1, c2, c3⟩ := hc
    have h00 := h.below B0 (Nat.le_refl _)
    cases hf : isFrm fx fy fc fr
    case false =>
      have hr := Lib.hid (rHidden_no (isAsk_no1 (l := l) hf))
      go_wp2_with fail
      refine (implIsFrameOf _ _ _ _ _).mono ?_; rintro e w1 ⟨rfl, b1⟩
      have B1 := B0.trans (b1.mono B0.size)
      go_wp2_with fail
      go_ret2
      exact ⟨_, by rw [hr.out]; rfl, by rw [hr.out]; exact OwnInts.nil_ _ _, B1⟩
    case true =>
    cases hg : isChart l
    case false =>
      have hr := Lib.hid (rHidden_no (isAsk_no2 (fx := fx) (fy := fy) (fc := fc) (fr := fr) hg))
      go_wp2_with fail
      refine (implIsFrameOf _ _ _ _ _).mono ?_; rintro e w1 ⟨rfl, b1⟩
      have B1 := B0.trans (b1.mono B0.size)
      have h01 := h.below B1 (Nat.le_refl _)
      go_wp2_with fail
      refine (implIsChart _ l _ h01).mono ?_; rintro e w2 ⟨rfl, b2⟩
      have B2 := B1.trans (b2.mono B1.size)
      go_wp2_with fail
      go_ret2
      exact ⟨_, by rw [hr.out]; rfl, by rw [hr.out]; exact OwnInts.nil_ _ _, B2⟩
    case true =>
    have hk := isAsk_yes hf hg
    have hft := isFrm_t hf
    obtain ⟨p1, p2, p3, p4, _⟩ := hft
    obtain ⟨C, rfl⟩ := Int.eq_ofNat_of_zero_le (show 0 ≤ fc by omega)
    obtain ⟨R, rfl⟩ := Int.eq_ofNat_of_zero_le (show 0 ≤ fr by omega)
    have hr := Lib.hid (rHidden_yes hk)
    have Hf := Lib.hid hf
    have Hs := Lib.hid (chart_spot hg)
    have h12 := (isChart_t hg).2.1
    go_wp2_with fail
    refine (implIsFrameOf _ _ _ _ _).mono ?_; rintro e w1 ⟨rfl, b1⟩
    have B1 := B0.trans (b1.mono B0.size)
    have h01 := h.below B1 (Nat.le_refl _)
    go_wp2_with fail
    refine (implIsChart _ l _ h01).mono ?_; rintro e w2 ⟨rfl, b2⟩
    have B2 := B1.trans (b2.mono B1.size)
    have bx1 := (bx0.keep b1 (Nat.le_refl _)).keep b2 (Nat.le_refl _)
    clear c0 c1 c2 c3
    have hc := bx1.out
    obtain ⟨c0, c1, c2, c3⟩ := hc
    have h02 := h.below B2 (Nat.le_refl _)
    go_wp2_with fail
    refine (shownIn_any _ l fx fy C R _ h02 Hf.out Hs h12).mono ?_; rintro e w5 ⟨vS, rfl, oS, b5⟩
    clear hk hf hg c0 c1 c2 c3
    have B5 := B2.trans (b5.mono B2.size)
    have bx5 := bx1.keep b5 (Nat.le_refl _)
    have h05 := h02.below b5 (Nat.le_refl _)
    obtain ⟨S, hS⟩ : ∃ S : List (List Int), S = shw fx fy C R l l.length := ⟨_, rfl⟩
    have Hsh := Lib.hid (hS ▸ shw_shape fx fy C R l l.length)
    rw [← hS] at hr oS
    clear hS
    have hlit := OwnIntss.lit oS (by have := Hsh.out.1; omega)
    obtain ⟨gg, cg, rfl, hgg⟩ := hlit
    have hR := Hsh.out.1
    rw [hR] at oS
    rw [hR]
    clear hR
    go_wp2_with fail
    go_loopw [7, 27] (fun t s wr => ∃ k : Nat, k ≤ l.length ∧ s = .int .i64 k ∧ OwnInts wr w5.heap.size t (hdn fx fy C R l S k) ∧ Below w5.heap.size w5 wr) (fun _ s _ => l.length - (intOf s).toNat)
    case atStart => exact ⟨0, Nat.zero_le _, rfl, OwnInts.empty w5 _ (Nat.le_refl _), (Below.refl _ _).alloc (Nat.le_refl _) _⟩
    case round =>
      obtain ⟨k, hk, rfl, ho, hb⟩ := hrel
      have hll := hdn_len fx fy C R l S k
      have h9 : (hdn fx fy C R l S k).length + 1 ≤ 1099511627776 := by omega
      clear hll
      by_cases hlt : k < l.length
      · obtain ⟨ba, oa, rfl, ha0, ha1⟩ := spt_at (h05.below hb (Nat.le_refl _)) k hlt
        have hc := (bx5.keep hb (Nat.le_refl _)).out
        obtain ⟨c0, c1, c2, c3⟩ := hc
        have hwl : w.heap.size < wr.heap.size := by have := bx5.lt; have := hb.size; omega
        have hA : Below wr.heap.size wr (wr.alloc (.cells #[.int .i64 (gx sptRec l k).x, .int .i64 (gx sptRec l k).y] 25)) := (Below.refl _ _).alloc (Nat.le_refl _) _
        have hoA := OwnInts.below ho hA (Nat.le_refl _)
        have hbA := hb.trans (hA.mono hb.size)
        go_wp2_with fail
        obtain ⟨cv, hcv⟩ : ∃ c : Int × Int × Bool, c = cellAt fx fy C R (gx sptRec l k).x (gx sptRec l k).y := ⟨_, rfl⟩
        refine (cellOf_any _ _ _ _ _ _ _ Hf.out (Hs.out k hlt)).mono ?_; rintro e w9 ⟨rfl, d9⟩
        rw [← hcv]
        obtain ⟨x1, y1, o1⟩ := cv
        have ho9 := OwnInts.below hoA d9 (Nat.le_refl _)
        have hb9 := hbA.next (Nat.le_refl _) d9
        have oS9 := OwnIntss.below oS hb9 (Nat.le_refl _)
        cases o1
        case false =>
          have hs := Lib.hid (hdn_t (hidB_no (S := S) hcv.symm))
          clear hcv
          go_wp2_with (at_builtin; refine wp_app_int _ rfl _ _ rfl w5.heap.size _ (hdn fx fy C R l S k) rfl ho9 (k : Int) _ rfl rfl h9 hb9.size ?_; intro v6 w6 ho6 hg6)
          go_roundw
          case rel => exact ⟨k + 1, by omega, by go_num, by rw [hs.out]; exact ho6, hb9.trans hg6.below⟩
          case measure => simp [intOf]; omega
        case true =>
          have hct := cellAt_t hcv.symm
          obtain ⟨t1, t2, t3, t4⟩ := hct
          obtain ⟨a, rfl⟩ := Int.eq_ofNat_of_zero_le t1
          obtain ⟨b, rfl⟩ := Int.eq_ofNat_of_zero_le t3
          have hhb := hidB_in (S := S) hcv.symm
          clear hcv
          have hat := OwnIntss.at2 oS9 b a (by have := Hsh.out.1; omega) (by have := Hsh.out.2 b (by omega); omega)
          rw [Hsh.out.2 b (by omega)] at hat
          obtain ⟨g2, cg2, k1, k2, k3, k4, k5⟩ := hat
          clear k5 k3
          have ha9 : (a : Int) < (C : Int) := by omega
          have hb8 : (b : Int) < (R : Int) := by omega
          cases hx : (gi (gl S b) a != (k : Int))
          case false =>
            have hs := Lib.hid (hdn_f (hhb.trans hx))
            clear hhb
            go_wp2_with fail
            go_roundw
            case rel => exact ⟨k + 1, by omega, by go_num, by rw [hs.out]; exact ho9, hb9⟩
            case measure => simp [intOf]; omega
          case true =>
            have hs := Lib.hid (hdn_t (hhb.trans hx))
            clear hhb
            go_wp2_with (at_builtin; refine wp_app_int _ rfl _ _ rfl w5.heap.size _ (hdn fx fy C R l S k) rfl ho9 (k : Int) _ rfl rfl h9 hb9.size ?_; intro v6 w6 ho6 hg6)
            go_roundw
            case rel => exact ⟨k + 1, by omega, by go_num, by rw [hs.out]; exact ho6, hb9.trans hg6.below⟩
            case measure => simp [intOf]; omega
      · obtain rfl : k = l.length := by omega
        have ho2 := Lib.hid (ownsRow_lo ho B5.size)
        clear ho
        go_wp2_with fail
        go_ret2
        exact ⟨_, by rw [hr.out]; rfl, by rw [hr.out]; exact ho2.out, B5.trans (hb.mono B5.size)⟩
set_option maxRecDepth 100000 in
set_option maxHeartbeats 12800000 in
theorem specHidden (v : Value) (l : List Spt) (fx fy fc fr : Int) (w : World) (h : RowAt sptRec w v l) :
    Calls Try.prog 10 #[.agg #[.int .i64 fx, .int .i64 fy, .int .i64 fc, .int .i64 fr], v] w (FreshIntsV w (rHidden fx fy fc fr l)) := by
  obtain ⟨A, ca, rfl, hnA, hcA⟩ := h.shape
  have hb0 := fun o => (Below.refl w.heap.size w).alloc (Nat.le_refl _) o
  have Hb0 := Lib.hid hb0
  clear hb0
  go_enter Try.func10, Try.ntmps10
  go_upto_region 0 with fail
  go_cut [2, 4, 5] (fun b2 r4 r5 wx => b2 = .pointer (some ⟨w.heap.size, 0, none⟩) ∧ r4 = .slice none 0 0 ∧ r5 = .bool false ∧ Box4 wx w.heap.size fx fy fc fr ∧ Below w.heap.size w wx)
  case first =>
    go_wp2_with fail
    go_meet
    exact ⟨rfl, rfl, rfl, ⟨by go_simp, by go_simp, by go_simp, by go_simp⟩, Hb0.out _⟩
  case rest =>
    obtain ⟨rfl, rfl, rfl, bx0, B0⟩ := hcut
    obtain ⟨w0, hw0⟩ : ∃ w0 : World, w0 = wc := ⟨_, rfl⟩
    subst hw0
    have hc := bx0.out
    obtain ⟨c0, c1, c2, c3⟩ := hc
    have h00 := h.below B0 (Nat.le_refl _)
    cases hk : isAsk fx fy fc fr l
    case false =>
      have hr := Lib.hid (rHidden_no hk)
      go_wp2_with fail
      refine (vwAsked_any _ l _ _ _ _ _ h00).mono ?_; rintro e w1 ⟨rfl, b1⟩
      have B1 := B0.trans (b1.mono B0.size)
      go_wp2_with fail
      go_ret2
      exact ⟨_, by rw [hr.out]; rfl, by rw [hr.out]; exact OwnInts.nil_ _ _, B1⟩
    case true =>
    have hk2 := isAsk_t hk
    obtain ⟨hf, hg⟩ := hk2
    have hft := isFrm_t hf
    obtain ⟨p1, p2, p3, p4, _⟩ := hft
    obtain ⟨C, rfl⟩ := Int.eq_ofNat_of_zero_le (show 0 ≤ fc by omega)
    obtain ⟨R, rfl⟩ := Int.eq_ofNat_of_zero_le (show 0 ≤ fr by omega)
    have hr := Lib.hid (rHidden_yes hk)
    have Hf := Lib.hid hf
    have Hs := Lib.hid (chart_spot hg)
    have h12 := (isChart_t hg).2.1
    go_wp2_with fail
    refine (vwAsked_any _ l _ _ _ _ _ h00).mono ?_; rintro e w1 ⟨rfl, b1⟩
    have B1 := B0.trans (b1.mono B0.size)
    have bx1 := bx0.keep b1 (Nat.le_refl _)
    clear c0 c1 c2 c3
    have hc := bx1.out
    obtain ⟨c0, c1, c2, c3⟩ := hc
    have h02 := h.below B1 (Nat.le_refl _)
    go_wp2_with fail
    refine (vwShown_any _ l fx fy C R _ h02 Hf.out Hs h12).mono ?_; rintro e w5 ⟨vS, rfl, oS, b5⟩
    clear hk hf hg c0 c1 c2 c3
    have B5 := B1.trans (b5.mono B1.size)
    have bx5 := bx1.keep b5 (Nat.le_refl _)
    have h05 := h02.below b5 (Nat.le_refl _)
    obtain ⟨S, hS⟩ : ∃ S : List (List Int), S = shw fx fy C R l l.length := ⟨_, rfl⟩
    have Hsh := Lib.hid (hS ▸ shw_shape fx fy C R l l.length)
    rw [← hS] at hr oS
    clear hS
    have hlit := OwnIntss.lit oS (by have := Hsh.out.1; omega)
    obtain ⟨gg, cg, rfl, hgg⟩ := hlit
    have hR := Hsh.out.1
    rw [hR] at oS
    rw [hR]
    clear hR
    go_wp2_with fail
    go_loopw [7, 22] (fun t s wr => ∃ k : Nat, k ≤ l.length ∧ s = .int .i64 k ∧ OwnInts wr w5.heap.size t (hdn fx fy C R l S k) ∧ Below w5.heap.size w5 wr) (fun _ s _ => l.length - (intOf s).toNat)
    case atStart => exact ⟨0, Nat.zero_le _, rfl, OwnInts.nil_ _ _, Below.refl _ _⟩
    case round =>
      obtain ⟨k, hk, rfl, ho, hb⟩ := hrel
      have hll := hdn_len fx fy C R l S k
      have h9 : (hdn fx fy C R l S k).length + 1 ≤ 1099511627776 := by omega
      clear hll
      by_cases hlt : k < l.length
      · obtain ⟨ba, oa, rfl, ha0, ha1⟩ := spt_at (h05.below hb (Nat.le_refl _)) k hlt
        have hc := (bx5.keep hb (Nat.le_refl _)).out
        obtain ⟨c0, c1, c2, c3⟩ := hc
        have hwl : w.heap.size < wr.heap.size := by have := bx5.lt; have := hb.size; omega
        have hA : Below wr.heap.size wr (wr.alloc (.cells #[.int .i64 (gx sptRec l k).x, .int .i64 (gx sptRec l k).y] 25)) := (Below.refl _ _).alloc (Nat.le_refl _) _
        have hoA := OwnInts.below ho hA (Nat.le_refl _)
        have hbA := hb.trans (hA.mono hb.size)
        go_wp2_with fail
        obtain ⟨cv, hcv⟩ : ∃ c : Int × Int × Bool, c = cellAt fx fy C R (gx sptRec l k).x (gx sptRec l k).y := ⟨_, rfl⟩
        refine (vwCell_any _ _ _ _ _ _ _ Hf.out (Hs.out k hlt)).mono ?_; rintro e w9 ⟨rfl, d9⟩
        rw [← hcv]
        obtain ⟨x1, y1, o1⟩ := cv
        have ho9 := OwnInts.below hoA d9 (Nat.le_refl _)
        have hb9 := hbA.next (Nat.le_refl _) d9
        have oS9 := OwnIntss.below oS hb9 (Nat.le_refl _)
        cases o1
        case false =>
          have hs := Lib.hid (hdn_t (hidB_no (S := S) hcv.symm))
          clear hcv
          go_wp2_with (at_builtin; refine wp_app_int _ rfl _ _ rfl w5.heap.size _ (hdn fx fy C R l S k) rfl ho9 (k : Int) _ rfl rfl h9 hb9.size ?_; intro v6 w6 ho6 hg6)
          go_roundw
          case rel => exact ⟨k + 1, by omega, by go_num, by rw [hs.out]; exact ho6, hb9.trans hg6.below⟩
          case measure => simp [intOf]; omega
        case true =>
          have hct := cellAt_t hcv.symm
          obtain ⟨t1, t2, t3, t4⟩ := hct
          obtain ⟨a, rfl⟩ := Int.eq_ofNat_of_zero_le t1
          obtain ⟨b, rfl⟩ := Int.eq_ofNat_of_zero_le t3
          have hhb := hidB_in (S := S) hcv.symm
          clear hcv
          have hat := OwnIntss.at2 oS9 b a (by have := Hsh.out.1; omega) (by have := Hsh.out.2 b (by omega); omega)
          rw [Hsh.out.2 b (by omega)] at hat
          obtain ⟨g2, cg2, k1, k2, k3, k4, k5⟩ := hat
          clear k5 k3
          have ha9 : (a : Int) < (C : Int) := by omega
          have hb8 : (b : Int) < (R : Int) := by omega
          cases hx : (gi (gl S b) a != (k : Int))
          case false =>
            have hs := Lib.hid (hdn_f (hhb.trans hx))
            clear hhb
            go_wp2_with fail
            go_roundw
            case rel => exact ⟨k + 1, by omega, by go_num, by rw [hs.out]; exact ho9, hb9⟩
            case measure => simp [intOf]; omega
          case true =>
            have hs := Lib.hid (hdn_t (hhb.trans hx))
            clear hhb
            go_wp2_with (at_builtin; refine wp_app_int _ rfl _ _ rfl w5.heap.size _ (hdn fx fy C R l S k) rfl ho9 (k : Int) _ rfl rfl h9 hb9.size ?_; intro v6 w6 ho6 hg6)
            go_roundw
            case rel => exact ⟨k + 1, by omega, by go_num, by rw [hs.out]; exact ho6, hb9.trans hg6.below⟩
            case measure => simp [intOf]; omega
      · obtain rfl : k = l.length := by omega
        have ho2 := Lib.hid (ownsRow_lo ho B5.size)
        clear ho
        go_wp2_with fail
        go_ret2
        exact ⟨_, by rw [hr.out]; rfl, by rw [hr.out]; exact ho2.out, B5.trans (hb.mono B5.size)⟩
end Go.Proofs.Ytjbffahnbkpcnaa
