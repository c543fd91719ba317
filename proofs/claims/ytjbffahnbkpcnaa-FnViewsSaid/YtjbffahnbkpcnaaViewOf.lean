/- Contracts: views of charts, in the program and in the reference. -/
import Derived.Test.YtjbffahnbkpcnaaShown
import Derived.Test.YtjbffahnbkpcnaaStr
set_option linter.unusedSimpArgs false
set_option linter.unusedVariables false
namespace Go.Proofs.Ytjbffahnbkpcnaa
open Go.RowKit

def chS (i : Int) : Int := if i < 0 then 46 else 65 + i
/-- The line of a row. -/
def lineS (row : List Int) : ByteArray := strOfNums (row.map chS)
/-- The lines from the last row on. -/
def vwL (S : List (List Int)) (R k : Nat) : List ByteArray := (List.range k).map fun j => lineS (gl S (R - 1 - j))
theorem vwL_len (S : List (List Int)) (R k : Nat) : (vwL S R k).length = k := by simp [vwL]
theorem vwL_succ {S : List (List Int)} {R k n : Nat} (h : R - 1 - k = n) : vwL S R (k + 1) = vwL S R k ++ [lineS (gl S n)] := by
  subst h; simp [vwL, List.range_succ]
theorem gi_setC' (l : List Int) (i j : Nat) (x : Int) : gi (l.set i x) j = if i = j ∧ i < l.length then x else gi l j := gi_setC l i j x
theorem shw_bd (fx fy : Int) (C R : Nat) (l : List Spt) (h12 : l.length ≤ 12) (j r c : Nat) : -1 ≤ gi (gl (shw fx fy C R l j) r) c ∧ gi (gl (shw fx fy C R l j) r) c ≤ 11 := by
  induction j generalizing r c with
  | zero =>
    unfold shw blankL gl gi
    rw [List.getD_eq_getElem?_getD, List.getD_eq_getElem?_getD, List.getElem?_replicate]
    split
    · simp only [Option.getD_some, List.getElem?_replicate]
      split <;> simp
    · simp
  | succ j ih =>
    unfold shw
    split
    · unfold putL
      rw [gl_set]
      split
      · rw [gi_setC]
        split
        · omega
        · exact ih _ _
      · exact ih _ _
    · exact ih _ _
theorem chS_bd {i : Int} (h : -1 ≤ i ∧ i ≤ 11) : 0 ≤ chS i ∧ chS i ≤ 255 := by unfold chS; split <;> omega
def bline (row : List Int) (m : Nat) : List Int := (row.take m).map chS
theorem bline_len {row : List Int} {m : Nat} (h : m ≤ row.length) : (bline row m).length = m := by simp [bline]; omega
theorem bline_succ {row : List Int} {m : Nat} (h : m < row.length) : bline row (m + 1) = bline row m ++ [chS (gi row m)] := by
  unfold bline; rw [take_succ_gi row m h, List.map_append]; rfl
theorem bline_all (row : List Int) : strOfNums (bline row row.length) = lineS row := by unfold bline lineS; rw [List.take_length]
theorem strOfNums_app (a b : List Int) : strOfNums a ++ strOfNums b = strOfNums (a ++ b) := by
  unfold strOfNums
  rw [ByteArray.mk_append_mk, List.map_append]
set_option maxRecDepth 100000 in
set_option maxHeartbeats 12800000 in
theorem viewOf_any (v : Value) (l : List Spt) (fx fy : Int) (C R : Nat) (w : World) (h : RowAt sptRec w v l) (hf : isFrm fx fy C R = true) (Hs : Hid (∀ i, i < l.length → isSpot (gx sptRec l i).x (gx sptRec l i).y = true)) (h12 : l.length ≤ 12) :
    Calls Try.prog 40 #[.agg #[.int .i64 fx, .int .i64 fy, .int .i64 C, .int .i64 R], v] w (FreshRow strRec w (vwL (shw fx fy C R l l.length) R R)) := by
  obtain ⟨A, ca, rfl, hnA, hcA⟩ := h.shape
  have hft := isFrm_t hf
  obtain ⟨p1, p2, p3, p4, _⟩ := hft
  have Hf := Lib.hid hf
  clear hf
  have hb0 := fun o => (Below.refl w.heap.size w).alloc (Nat.le_refl _) o
  have Hb0 := Lib.hid hb0
  clear hb0
  go_enter Try.func40, Try.ntmps40
  go_upto_region 0 with fail
  go_cut [2, 4] (fun b2 r4 wx => b2 = .pointer (some ⟨w.heap.size, 0, none⟩) ∧ r4 = .slice none 0 0 ∧ Box4 wx w.heap.size fx fy C R ∧ Below w.heap.size w wx)
  case first =>
    go_wp2_with fail
    go_meet
    exact ⟨rfl, rfl, ⟨by go_simp, by go_simp, by go_simp, by go_simp⟩, Hb0.out _⟩
  case rest =>
  obtain ⟨rfl, rfl, bx0, B0⟩ := hcut
  obtain ⟨w0, hw0⟩ : ∃ w0 : World, w0 = wc := ⟨_, rfl⟩
  subst hw0
  have hl0 := bx0.lt
  have h00 := h.below B0 (Nat.le_refl _)
  have hc := bx0.out
  obtain ⟨c0, c1, c2, c3⟩ := hc
  have Hbd := Lib.hid (shw_bd fx fy C R l h12 l.length)
  go_wp2_with fail
  refine (shownIn_any _ l fx fy C R _ h00 Hf.out Hs h12).mono ?_; rintro e w5 ⟨vS, rfl, oS, b5⟩
  have B5 := B0.trans (b5.mono B0.size)
  have bx5 := bx0.keep b5 (Nat.le_refl _)
  clear c0 c1 c2 c3
  obtain ⟨S, hS⟩ : ∃ S : List (List Int), S = shw fx fy C R l l.length := ⟨_, rfl⟩
  have Hsh := Lib.hid (hS ▸ shw_shape fx fy C R l l.length)
  rw [← hS] at oS Hbd
  have HS := Lib.hid hS
  clear hS
  have hlit := OwnIntss.lit oS (by have := Hsh.out.1; omega)
  obtain ⟨gg, cg, rfl, hgg⟩ := hlit
  have hR := Hsh.out.1
  rw [hR] at oS
  rw [hR]
  clear hR
  have hc := bx5.out
  obtain ⟨c0, c1, c2, c3⟩ := hc
  have hwl5 := bx5.lt
  go_wp2_with fail
  clear c0 c1 c2 c3
  go_loopg [6, 7] R (fun g t s wr => ∃ (j : Nat) (i : Int), j ≤ R ∧ R ≤ j + g ∧ s = .int .i64 i ∧ Hid (i = (R : Int) - 1 - j) ∧ OwnRow strRec wr w5.heap.size t (vwL S R j) ∧ Below w5.heap.size w5 wr)
  case atStart => exact ⟨0, _, Nat.zero_le _, by omega, rfl, by show _ = _; omega, OwnRow.empty strRec w5 _ (Nat.le_refl _), (Below.refl _ _).alloc (Nat.le_refl _) _⟩
  case round =>
    obtain ⟨j, i, hj, hjg, rfl, hi, ho, hb⟩ := hrel
    rcases Int.lt_or_le i 0 with hneg | hpos
    · obtain rfl : j = R := by have := hi.out; omega
      have ho9 := Lib.hid (OwnRow.lo ho B5.size)
      clear ho
      go_wp2_with fail
      go_ret
      exact ⟨_, rfl, by rw [← HS.out]; exact ho9.out, B5.trans (hb.mono B5.size)⟩
    · obtain ⟨n, rfl⟩ := Int.eq_ofNat_of_zero_le hpos
      have hjn : R - 1 - j = n := by have := hi.out; omega
      have hst := Lib.hid (vwL_succ (S := S) hjn)
      have hnR : n < R := by have := hi.out; omega
      have hjR : j < R := by have := hi.out; omega
      have hn1 : Hid ((n : Int) - 1 = (R : Int) - 1 - ((j + 1 : Nat) : Int)) := by show _ = _; have := hi.out; omega
      clear hjn
      have hvl := vwL_len S R j
      have h9 : (vwL S R j).length + 1 ≤ 1099511627776 := by omega
      clear hvl
      have hrl : (gl S n).length = C := Hsh.out.2 n hnR
      have hrS := (OwnIntss.below oS hb (Nat.le_refl _)).reads
      obtain ⟨b9, o9, A9, c9, he9, hcell, hrow⟩ := IntssAt.at_ hrS n (by rw [Hsh.out.1]; exact hnR)
      injection he9 with he9
      injection he9 with e1 e2
      subst e1 e2
      rw [hrl] at hcell hrow
      rw [Nat.zero_add] at hcell
      have hgl := World.block_lt_of_cell? wr _ hcell
      simp only at hgl
      obtain ⟨row, hrowe⟩ : ∃ row, row = gl S n := ⟨_, rfl⟩
      have Hrb := Lib.hid (show ∀ c, -1 ≤ gi row c ∧ gi row c ≤ 11 from fun c => by rw [hrowe]; exact Hbd.out n c)
      rw [← hrowe] at hrow hst hrl
      have Hrl := Lib.hid hrl
      clear hrowe hrl
      have hn0 : (n : Int) < (R : Int) := by omega
      obtain ⟨wi, hwi⟩ : ∃ wi : World, wi = wr := ⟨_, rfl⟩
      subst hwi
      go_wp2_with fail
      go_loopw [8, 28] (fun t s wr => ∃ m : Nat, m ≤ C ∧ s = .int .i64 m ∧ OwnRow bytRec wr wi.heap.size t (bline row m) ∧ Below wi.heap.size wi wr) (fun _ s _ => C - (intOf s).toNat)
      case atStart => exact ⟨0, Nat.zero_le _, rfl, OwnRow.empty bytRec wi _ (Nat.le_refl _), (Below.refl _ _).alloc (Nat.le_refl _) _⟩
      case round =>
        obtain ⟨m, hm, rfl, hl, hbi⟩ := hrel
        have hbl := bline_len (row := row) (m := m) (by rw [Hrl.out]; exact hm)
        by_cases hlm : m < C
        · obtain ⟨bq, oq, rfl, hcq⟩ := IntsAt.at_ (hrow.below hbi (Nat.le_refl _)) m (by rw [Hrl.out]; exact hlm)
          have hbs := Lib.hid (bline_succ (row := row) (m := m) (by rw [Hrl.out]; exact hlm))
          have hrb := Hrb.out m
          obtain ⟨r1, r2⟩ := hrb
          have hbsz := hbi.size
          have h8 : (bline row m).length + 1 ≤ 1099511627776 := by omega
          clear hbl
          rcases Int.lt_or_le (gi row m) 0 with q | q
          · have hq9 : True := trivial
            have hch : Hid (chS (gi row m) = 46) := by show _ = _; unfold chS; rw [if_pos q]
            go_wp2_with (at_builtin; refine wp_app_rec bytRec _ rfl _ _ 22 _ _ Try.underlying22 info_byt rfl (by omega) rfl wi.heap.size _ (bline row m) rfl hl (46) _ rfl _ _ rfl rfl rfl h8 hbsz ?_; intro v6 w6 hl6 hg6)
            go_roundw
            case rel => exact ⟨m + 1, by omega, by go_num, by rw [hbs.out, hch.out]; exact hl6, hbi.trans hg6.below⟩
            case measure => simp [intOf]; omega
          · have hq9 : True := trivial
            have hch : Hid (chS (gi row m) = 65 + gi row m) := by show _ = _; unfold chS; rw [if_neg (by omega)]
            go_wp2_with (at_builtin; refine wp_app_rec bytRec _ rfl _ _ 22 _ _ Try.underlying22 info_byt rfl (by omega) rfl wi.heap.size _ (bline row m) rfl hl (65 + gi row m) _ rfl _ _ rfl rfl rfl h8 hbsz ?_; intro v6 w6 hl6 hg6)
            go_roundw
            case rel => exact ⟨m + 1, by omega, by go_num, by rw [hbs.out, hch.out]; exact hl6, hbi.trans hg6.below⟩
            case measure => simp [intOf]; omega
        · obtain rfl : m = C := by omega
          have hall := bline_all row
          rw [Hrl.out] at hall
          have Hall := Lib.hid hall
          clear hall
          have hbw := hb.trans (hbi.mono hb.size)
          have ho2 := OwnRow.below ho hbi (Nat.le_refl _)
          have hsz2 := hbw.size
          have hlt9 := OwnRow.lit hl (by omega)
          obtain ⟨gb, cb, rfl, hgb⟩ := hlt9
          have hcv := conv_bytes hl
          rw [Hall.out] at hcv
          rw [hbl] at hcv
          rw [hbl]
          clear hbl
          go_wp2_with (at_builtin; refine wp_app_str _ rfl _ _ rfl w5.heap.size _ (vwL S R j) rfl ho2 (lineS row) _ rfl rfl h9 hsz2 ?_; intro v7 w7 ho7 hg7)
          go_roundg (gk - 1)
          case measure => omega
          case rel => exact ⟨j + 1, (n : Int) - 1, by omega, by omega, rfl, hn1, by rw [hst.out]; exact ho7, hbw.trans hg7.below⟩
set_option maxRecDepth 100000 in
set_option maxHeartbeats 12800000 in
theorem vwView_any (v : Value) (l : List Spt) (fx fy : Int) (C R : Nat) (w : World) (h : RowAt sptRec w v l) (hf : isFrm fx fy C R = true) (Hs : Hid (∀ i, i < l.length → isSpot (gx sptRec l i).x (gx sptRec l i).y = true)) (h12 : l.length ≤ 12) :
    Calls Try.prog 42 #[.agg #[.int .i64 fx, .int .i64 fy, .int .i64 C, .int .i64 R], v] w (FreshRow strRec w (vwL (shw fx fy C R l l.length) R R)) := by
  obtain ⟨A, ca, rfl, hnA, hcA⟩ := h.shape
  have hft := isFrm_t hf
  obtain ⟨p1, p2, p3, p4, _⟩ := hft
  have Hf := Lib.hid hf
  clear hf
  have hb0 := fun o => (Below.refl w.heap.size w).alloc (Nat.le_refl _) o
  have Hb0 := Lib.hid hb0
  clear hb0
  go_enter Try.func42, Try.ntmps42
  go_upto_region 0 with fail
  go_cut [2, 4] (fun b2 r4 wx => b2 = .pointer (some ⟨w.heap.size, 0, none⟩) ∧ r4 = .slice none 0 0 ∧ Box4 wx w.heap.size fx fy C R ∧ Below w.heap.size w wx)
  case first =>
    go_wp2_with fail
    go_meet
    exact ⟨rfl, rfl, ⟨by go_simp, by go_simp, by go_simp, by go_simp⟩, Hb0.out _⟩
  case rest =>
  obtain ⟨rfl, rfl, bx0, B0⟩ := hcut
  obtain ⟨w0, hw0⟩ : ∃ w0 : World, w0 = wc := ⟨_, rfl⟩
  subst hw0
  have hl0 := bx0.lt
  have h00 := h.below B0 (Nat.le_refl _)
  have hc := bx0.out
  obtain ⟨c0, c1, c2, c3⟩ := hc
  have Hbd := Lib.hid (shw_bd fx fy C R l h12 l.length)
  go_wp2_with fail
  refine (vwShown_any _ l fx fy C R _ h00 Hf.out Hs h12).mono ?_; rintro e w5 ⟨vS, rfl, oS, b5⟩
  have B5 := B0.trans (b5.mono B0.size)
  have bx5 := bx0.keep b5 (Nat.le_refl _)
  clear c0 c1 c2 c3
  obtain ⟨S, hS⟩ : ∃ S : List (List Int), S = shw fx fy C R l l.length := ⟨_, rfl⟩
  have Hsh := Lib.hid (hS ▸ shw_shape fx fy C R l l.length)
  rw [← hS] at oS Hbd
  have HS := Lib.hid hS
  clear hS
  have hlit := OwnIntss.lit oS (by have := Hsh.out.1; omega)
  obtain ⟨gg, cg, rfl, hgg⟩ := hlit
  have hR := Hsh.out.1
  rw [hR] at oS
  rw [hR]
  clear hR
  have hc := bx5.out
  obtain ⟨c0, c1, c2, c3⟩ := hc
  have hwl5 := bx5.lt
  go_wp2_with fail
  clear c0 c1 c2 c3
  go_loopg [6, 7] R (fun g t s wr => ∃ (j : Nat) (i : Int), j ≤ R ∧ R ≤ j + g ∧ s = .int .i64 i ∧ Hid (i = (R : Int) - 1 - j) ∧ OwnRow strRec wr w5.heap.size t (vwL S R j) ∧ Below w5.heap.size w5 wr)
  case atStart => exact ⟨0, _, Nat.zero_le _, by omega, rfl, by show _ = _; omega, OwnRow.nil_ strRec w5 _, Below.refl _ _⟩
  case round =>
    obtain ⟨j, i, hj, hjg, rfl, hi, ho, hb⟩ := hrel
    rcases Int.lt_or_le i 0 with hneg | hpos
    · obtain rfl : j = R := by have := hi.out; omega
      have ho9 := Lib.hid (OwnRow.lo ho B5.size)
      clear ho
      go_wp2_with fail
      go_ret
      exact ⟨_, rfl, by rw [← HS.out]; exact ho9.out, B5.trans (hb.mono B5.size)⟩
    · obtain ⟨n, rfl⟩ := Int.eq_ofNat_of_zero_le hpos
      have hjn : R - 1 - j = n := by have := hi.out; omega
      have hst := Lib.hid (vwL_succ (S := S) hjn)
      have hnR : n < R := by have := hi.out; omega
      have hjR : j < R := by have := hi.out; omega
      have hn1 : Hid ((n : Int) - 1 = (R : Int) - 1 - ((j + 1 : Nat) : Int)) := by show _ = _; have := hi.out; omega
      clear hjn
      have hvl := vwL_len S R j
      have h9 : (vwL S R j).length + 1 ≤ 1099511627776 := by omega
      clear hvl
      have hrl : (gl S n).length = C := Hsh.out.2 n hnR
      have hrS := (OwnIntss.below oS hb (Nat.le_refl _)).reads
      obtain ⟨b9, o9, A9, c9, he9, hcell, hrow⟩ := IntssAt.at_ hrS n (by rw [Hsh.out.1]; exact hnR)
      injection he9 with he9
      injection he9 with e1 e2
      subst e1 e2
      rw [hrl] at hcell hrow
      rw [Nat.zero_add] at hcell
      have hgl := World.block_lt_of_cell? wr _ hcell
      simp only at hgl
      obtain ⟨row, hrowe⟩ : ∃ row, row = gl S n := ⟨_, rfl⟩
      have Hrb := Lib.hid (show ∀ c, -1 ≤ gi row c ∧ gi row c ≤ 11 from fun c => by rw [hrowe]; exact Hbd.out n c)
      rw [← hrowe] at hrow hst hrl
      have Hrl := Lib.hid hrl
      clear hrowe hrl
      have hn0 : (n : Int) < (R : Int) := by omega
      obtain ⟨wi, hwi⟩ : ∃ wi : World, wi = wr := ⟨_, rfl⟩
      subst hwi
      go_wp2_with fail
      go_loopw [8, 26] (fun t s wr => ∃ m : Nat, m ≤ C ∧ s = .int .i64 m ∧ t = .string (strOfNums (bline row m)) ∧ Below wi.heap.size wi wr) (fun _ s _ => C - (intOf s).toNat)
      case atStart => exact ⟨0, Nat.zero_le _, rfl, by simp [bline, strOfNums], Below.refl _ _⟩
      case round =>
        obtain ⟨m, hm, rfl, rfl, hbi⟩ := hrel
        have hbl := bline_len (row := row) (m := m) (by rw [Hrl.out]; exact hm)
        by_cases hlm : m < C
        · obtain ⟨bq, oq, rfl, hcq⟩ := IntsAt.at_ (hrow.below hbi (Nat.le_refl _)) m (by rw [Hrl.out]; exact hlm)
          have hbs := Lib.hid (bline_succ (row := row) (m := m) (by rw [Hrl.out]; exact hlm))
          have hrb := Hrb.out m
          obtain ⟨r1, r2⟩ := hrb
          have hbsz := hbi.size
          have hss : (strOfNums (bline row m)).size ≤ 60 := by rw [strOfNums_size]; omega
          clear hbl
          rcases Int.lt_or_le (gi row m) 0 with q | q
          · have hq9 : True := trivial
            have hch : Hid (chS (gi row m) = 46) := by show _ = _; unfold chS; rw [if_pos q]
            have hnx : Hid (strOfNums (bline row m) ++ (⟨#[46]⟩ : ByteArray) = strOfNums (bline row (m + 1))) := by show _ = _; rw [hbs.out, hch.out, ← strOfNums_app]; rfl
            have hs1 : (⟨#[46]⟩ : ByteArray).size = 1 := rfl
            go_wp2_with fail
            go_roundw
            case rel => exact ⟨m + 1, by omega, by go_num, by rw [← hnx.out], hbi⟩
            case measure => simp [intOf]; omega
          · have hq9 : True := trivial
            have hch : Hid (chS (gi row m) = 65 + gi row m) := by show _ = _; unfold chS; rw [if_neg (by omega)]
            have hnx : Hid (strOfNums (bline row m) ++ strOfNums [65 + gi row m] = strOfNums (bline row (m + 1))) := by show _ = _; rw [hbs.out, hch.out, ← strOfNums_app]
            have hcv := conv_byte1 wr (65 + gi row m)
            have hs1 : (strOfNums [65 + gi row m]).size = 1 := rfl
            go_wp2_with fail
            go_roundw
            case rel => exact ⟨m + 1, by omega, by go_num, by rw [← hnx.out], hbi.alloc hbsz _⟩
            case measure => simp [intOf]; omega
        · obtain rfl : m = C := by omega
          have hall := bline_all row
          rw [Hrl.out] at hall
          have Hall := Lib.hid hall
          clear hall
          have hbw := hb.trans (hbi.mono hb.size)
          have ho2 := OwnRow.below ho hbi (Nat.le_refl _)
          have hsz2 := hbw.size
          rw [Hall.out]
          clear hbl
          go_wp2_with (at_builtin; refine wp_app_str _ rfl _ _ rfl w5.heap.size _ (vwL S R j) rfl ho2 (lineS row) _ rfl rfl h9 hsz2 ?_; intro v7 w7 ho7 hg7)
          go_roundg (gk - 1)
          case measure => omega
          case rel => exact ⟨j + 1, (n : Int) - 1, by omega, by omega, rfl, hn1, by rw [hst.out]; exact ho7, hbw.trans hg7.below⟩
end Go.Proofs.Ytjbffahnbkpcnaa
