/- Contracts of ViewText, in the program and in the reference. -/
import Derived.Test.YtjbffahnbkpcnaaViewOf
import Derived.Test.YtjbffahnbkpcnaaShelf
set_option linter.unusedSimpArgs false
set_option linter.unusedVariables false
namespace Go.Proofs.Ytjbffahnbkpcnaa
open Go.RowKit

/-- The text of the first lines. -/
def tx (L : List ByteArray) : Nat → ByteArray
  | 0 => ⟨#[]⟩
  | k + 1 => tx L k ++ (gx strRec L k ++ (ByteArray.mk #[10]))
theorem tx_succ (L : List ByteArray) (k : Nat) : tx L (k + 1) = tx L k ++ (gx strRec L k ++ (ByteArray.mk #[10])) := rfl
theorem tx_list (L : List ByteArray) (k : Nat) (h : k ≤ L.length) : (tx L k).data.toList = ((L.take k).map (fun x => x.data.toList ++ [10])).flatten := by
  induction k with
  | zero => simp [tx]
  | succ k ih =>
    rw [tx_succ, take_succ_gx strRec L k (by omega), List.map_append, List.flatten_append, ← ih (by omega)]
    simp
theorem tail_list (r : List (List UInt8)) : Lib.joinTail [10] r ++ [10] = 10 :: (r.map (fun x => x ++ [10])).flatten := by
  induction r with
  | nil => simp [Lib.joinTail]
  | cons y r ih =>
    have : Lib.joinTail [10] (y :: r) = 10 :: (y ++ Lib.joinTail [10] r) := by simp [Lib.joinTail]
    rw [this, List.cons_append, List.append_assoc, ih]
    simp
theorem join_list {L : List (List UInt8)} (h : 0 < L.length) : Lib.join L [10] ++ [10] = (L.map (fun x => x ++ [10])).flatten := by
  cases L with
  | nil => simp at h
  | cons x r =>
    rw [Lib.join_cons, List.append_assoc, tail_list]
    simp
theorem join_tx {L : List ByteArray} (h : 0 < L.length) : (⟨(Lib.join (L.map (·.data.toList)) (ByteArray.mk #[10]).data.toList).toArray⟩ : ByteArray) ++ (ByteArray.mk #[10]) = tx L L.length := by
  apply ByteArray.ext
  apply Array.ext'
  rw [tx_list L L.length (Nat.le_refl _), List.take_length, ByteArray.data_append, Array.toList_append]
  show Lib.join (L.map (·.data.toList)) [10] ++ [10] = _
  rw [join_list (by simpa using h), List.map_map]
  rfl
theorem tx_size {L : List ByteArray} {C : Nat} (hs : ∀ k, k < L.length → (gx strRec L k).size = C) (k : Nat) (h : k ≤ L.length) : (tx L k).size = k * (C + 1) := by
  induction k with
  | zero => rw [Nat.zero_mul]; rfl
  | succ k ih =>
    rw [tx_succ, ByteArray.size_append, ByteArray.size_append, ih (by omega), hs k (by omega), Nat.succ_mul]
    rfl
theorem vwL_size (fx fy : Int) (C R : Nat) (l : List Spt) (k : Nat) (h : k < (vwL (shw fx fy C R l l.length) R R).length) : (gx strRec (vwL (shw fx fy C R l l.length) R R) k).size = C := by
  rw [vwL_len] at h
  have : gx strRec (vwL (shw fx fy C R l l.length) R R) k = lineS (gl (shw fx fy C R l l.length) (R - 1 - k)) := by
    rw [gx_eq (by rw [vwL_len]; exact h)]
    simp [vwL]
  rw [this]
  unfold lineS
  rw [strOfNums_size, List.length_map]
  exact (shw_shape fx fy C R l l.length).2 _ (by omega)
theorem tx_small {L : List ByteArray} {C R k : Nat} (hs : ∀ k, k < L.length → (gx strRec L k).size = C) (hL : L.length = R) (hC : C ≤ 60) (hR : R ≤ 30) (h : k ≤ L.length) : (tx L k).size ≤ 1830 := by
  rw [tx_size hs k h]
  have := Nat.mul_le_mul (show k ≤ 30 by omega) (show C + 1 ≤ 61 by omega)
  omega
/-- What ViewText returns. -/
def rViewT (fx fy fc fr : Int) (l : List Spt) : ByteArray × Bool :=
  if isAsk fx fy fc fr l then (tx (vwL (shw fx fy fc.toNat fr.toNat l l.length) fr.toNat fr.toNat) fr.toNat, true) else (⟨#[]⟩, false)
theorem rViewT_no {fx fy fc fr : Int} {l : List Spt} (h : isAsk fx fy fc fr l = false) : rViewT fx fy fc fr l = (⟨#[]⟩, false) := by unfold rViewT; rw [h]; rfl
theorem rViewT_yes {fx fy : Int} {C R : Nat} {l : List Spt} (h : isAsk fx fy C R l = true) : rViewT fx fy C R l = (tx (vwL (shw fx fy C R l l.length) R R) R, true) := by unfold rViewT; rw [h]; simp
def StrV (w : World) (r : ByteArray × Bool) (e : Ending) (w' : World) : Prop :=
  e = .returned (.tuple #[.string r.1, .bool r.2]) ∧ Below w.heap.size w w'
set_option maxRecDepth 100000 in
set_option maxHeartbeats 12800000 in
theorem implViewText (v : Value) (l : List Spt) (fx fy fc fr : Int) (w : World) (h : RowAt sptRec w v l) :
    Calls Try.prog 11 #[.agg #[.int .i64 fx, .int .i64 fy, .int .i64 fc, .int .i64 fr], v] w (StrV w (rViewT fx fy fc fr l)) := by
  obtain ⟨A, ca, rfl, hnA, hcA⟩ := h.shape
  have hb0 := fun o => (Below.refl w.heap.size w).alloc (Nat.le_refl _) o
  have Hb0 := Lib.hid hb0
  clear hb0
  go_enter Try.func11, Try.ntmps11
  go_upto_region 0 with fail
  go_cut [2, 4, 5] (fun b2 r4 r5 wx => b2 = .pointer (some ⟨w.heap.size, 0, none⟩) ∧ r4 = .string ⟨#[]⟩ ∧ r5 = .bool false ∧ Box4 wx w.heap.size fx fy fc fr ∧ Below w.heap.size w wx)
  case first =>
    go_wp2_with fail
    go_meet
    exact ⟨rfl, rfl, rfl, ⟨by go_simp, by go_simp, by go_simp, by go_simp⟩, Hb0.out _⟩
  case rest =>
    obtain ⟨rfl, rfl, rfl, bx0, B0⟩ := hcut
    obtain ⟨w0, hw0⟩ : ∃ w0 : World, w0 = wc := ⟨_, rfl⟩
    subst hw0
    have hc := bx0.out
    obtain ⟨c0, c1, c2, c3⟩ := hc
    have h00 := h.below B0 (Nat.le_refl _)
    cases hf : isFrm fx fy fc fr
    case false =>
      have hr := Lib.hid (rViewT_no (isAsk_no1 (l := l) hf))
      go_wp2_with fail
      refine (implIsFrameOf _ _ _ _ _).mono ?_; rintro e w1 ⟨rfl, b1⟩
      have B1 := B0.trans (b1.mono B0.size)
      go_wp2_with fail
      go_ret2
      exact ⟨by rw [hr.out]; rfl, B1⟩
    case true =>
    cases hg : isChart l
    case false =>
      have hr := Lib.hid (rViewT_no (isAsk_no2 (fx := fx) (fy := fy) (fc := fc) (fr := fr) hg))
      go_wp2_with fail
      refine (implIsFrameOf _ _ _ _ _).mono ?_; rintro e w1 ⟨rfl, b1⟩
      have B1 := B0.trans (b1.mono B0.size)
      have h01 := h.below B1 (Nat.le_refl _)
      go_wp2_with fail
      refine (implIsChart _ l _ h01).mono ?_; rintro e w2 ⟨rfl, b2⟩
      have B2 := B1.trans (b2.mono B1.size)
      go_wp2_with fail
      go_ret2
      exact ⟨by rw [hr.out]; rfl, B2⟩
    case true =>
    have hk := isAsk_yes hf hg
    have hft := isFrm_t hf
    obtain ⟨p1, p2, p3, p4, _⟩ := hft
    obtain ⟨C, rfl⟩ := Int.eq_ofNat_of_zero_le (show 0 ≤ fc by omega)
    obtain ⟨R, rfl⟩ := Int.eq_ofNat_of_zero_le (show 0 ≤ fr by omega)
    have hr := Lib.hid (rViewT_yes hk)
    have Hf := Lib.hid hf
    have Hs := Lib.hid (chart_spot hg)
    have h12 := (isChart_t hg).2.1
    go_wp2_with fail
    refine (implIsFrameOf _ _ _ _ _).mono ?_; rintro e w1 ⟨rfl, b1⟩
    have B1 := B0.trans (b1.mono B0.size)
    have h01 := h.below B1 (Nat.le_refl _)
    go_wp2_with fail
    refine (implIsChart _ l _ h01).mono ?_; rintro e w2 ⟨rfl, b2⟩
    have B2 := B1.trans (b2.mono B1.size)
    have bx1 := (bx0.keep b1 (Nat.le_refl _)).keep b2 (Nat.le_refl _)
    clear c0 c1 c2 c3
    have hc := bx1.out
    obtain ⟨c0, c1, c2, c3⟩ := hc
    have h02 := h.below B2 (Nat.le_refl _)
    go_wp2_with fail
    refine (viewOf_any _ l fx fy C R _ h02 Hf.out Hs h12).mono ?_; rintro e w5 ⟨vS, rfl, oS, b5⟩
    have B5 := B2.trans (b5.mono B2.size)
    have hsz := vwL_size fx fy C R l
    have hlen := vwL_len (shw fx fy C R l l.length) R R
    obtain ⟨L, hL⟩ : ∃ L, L = vwL (shw fx fy C R l l.length) R R := ⟨_, rfl⟩
    rw [← hL] at hr oS hsz hlen
    clear hL
    clear hk hf hg c0 c1 c2 c3
    have hsm := Lib.hid (fun k (hk : k ≤ L.length) => tx_small (k := k) hsz hlen (by omega) (by omega) hk)
    have Hsz := Lib.hid hsz
    clear hsz
    have hlit := OwnRow.lit oS (by omega)
    obtain ⟨gg, cg, rfl, hgg⟩ := hlit
    obtain ⟨A9, c9, he9, hn9, hc9⟩ := oS.reads.shape
    injection he9 with he9 _ he8
    subst he8
    clear he9
    have hjt := join_tx (L := L) (by omega)
    rw [hlen] at hjt
    have hjs : (Lib.join (L.map (·.data.toList)) (ByteArray.mk #[10]).data.toList).length ≤ 1830 := by have h1 := hsm.out R (by omega); rw [← hjt, ByteArray.size_append] at h1; have h2 : (⟨(Lib.join (L.map (·.data.toList)) (ByteArray.mk #[10]).data.toList).toArray⟩ : ByteArray).size = (Lib.join (L.map (·.data.toList)) (ByteArray.mk #[10]).data.toList).length := List.size_toArray; omega
    have hbk : gg < w5.heap.size := World.block_lt_of_cell? w5 _ (str_own oS 0 (by omega))
    have hJ := Lib.hid (Try.strings_Join gg 0 cg L (ByteArray.mk #[10]) w5 (fun j x hx => by obtain ⟨hj, rfl⟩ := List.getElem?_eq_some_iff.1 hx; rw [Nat.zero_add, str_own oS j hj, gx_eq hj]) hbk (by omega) hn9 (by omega))
    obtain ⟨J, hJe⟩ : ∃ J, J = Lib.join (L.map (·.data.toList)) (ByteArray.mk #[10]).data.toList := ⟨_, rfl⟩
    rw [← hJe] at hjt hjs hJ
    rw [hlen] at hJ
    have Hjt := Lib.hid hjt
    clear hjt hJe
    obtain ⟨jb, hjb⟩ : ∃ jb : ByteArray, jb = ⟨J.toArray⟩ := ⟨_, rfl⟩
    have hjz : jb.size ≤ 1830 := by subst hjb; show J.toArray.size ≤ _; simpa using hjs
    rw [← hjb] at Hjt hJ
    clear hjb hjs
    have hnz : (⟨#[10]⟩ : ByteArray).size = 1 := rfl
    go_wp2_with fail
    refine hJ.out.mono ?_; rintro e w6 ⟨rfl, b6⟩
    go_wp2_with fail
    go_ret2
    exact ⟨by rw [hr.out, ← Hjt.out]; rfl, B5.trans (b6.mono B5.size)⟩
set_option maxRecDepth 100000 in
set_option maxHeartbeats 12800000 in
theorem specViewText (v : Value) (l : List Spt) (fx fy fc fr : Int) (w : World) (h : RowAt sptRec w v l) :
    Calls Try.prog 12 #[.agg #[.int .i64 fx, .int .i64 fy, .int .i64 fc, .int .i64 fr], v] w (StrV w (rViewT fx fy fc fr l)) := by
  obtain ⟨A, ca, rfl, hnA, hcA⟩ := h.shape
  have hb0 := fun o => (Below.refl w.heap.size w).alloc (Nat.le_refl _) o
  have Hb0 := Lib.hid hb0
  clear hb0
  go_enter Try.func12, Try.ntmps12
  go_upto_region 0 with fail
  go_cut [2, 4, 5] (fun b2 r4 r5 wx => b2 = .pointer (some ⟨w.heap.size, 0, none⟩) ∧ r4 = .string ⟨#[]⟩ ∧ r5 = .bool false ∧ Box4 wx w.heap.size fx fy fc fr ∧ Below w.heap.size w wx)
  case first =>
    go_wp2_with fail
    go_meet
    exact ⟨rfl, rfl, rfl, ⟨by go_simp, by go_simp, by go_simp, by go_simp⟩, Hb0.out _⟩
  case rest =>
    obtain ⟨rfl, rfl, rfl, bx0, B0⟩ := hcut
    obtain ⟨w0, hw0⟩ : ∃ w0 : World, w0 = wc := ⟨_, rfl⟩
    subst hw0
    have hc := bx0.out
    obtain ⟨c0, c1, c2, c3⟩ := hc
    have h00 := h.below B0 (Nat.le_refl _)
    cases hk : isAsk fx fy fc fr l
    case false =>
      have hr := Lib.hid (rViewT_no hk)
      go_wp2_with fail
      refine (vwAsked_any _ l _ _ _ _ _ h00).mono ?_; rintro e w1 ⟨rfl, b1⟩
      have B1 := B0.trans (b1.mono B0.size)
      go_wp2_with fail
      go_ret2
      exact ⟨by rw [hr.out]; rfl, B1⟩
    case true =>
    have hk2 := isAsk_t hk
    obtain ⟨hf, hg⟩ := hk2
    have hft := isFrm_t hf
    obtain ⟨p1, p2, p3, p4, _⟩ := hft
    obtain ⟨C, rfl⟩ := Int.eq_ofNat_of_zero_le (show 0 ≤ fc by omega)
    obtain ⟨R, rfl⟩ := Int.eq_ofNat_of_zero_le (show 0 ≤ fr by omega)
    have hr := Lib.hid (rViewT_yes hk)
    have Hf := Lib.hid hf
    have Hs := Lib.hid (chart_spot hg)
    have h12 := (isChart_t hg).2.1
    go_wp2_with fail
    refine (vwAsked_any _ l _ _ _ _ _ h00).mono ?_; rintro e w1 ⟨rfl, b1⟩
    have B1 := B0.trans (b1.mono B0.size)
    have bx1 := bx0.keep b1 (Nat.le_refl _)
    clear c0 c1 c2 c3
    have hc := bx1.out
    obtain ⟨c0, c1, c2, c3⟩ := hc
    have h02 := h.below B1 (Nat.le_refl _)
    go_wp2_with fail
    refine (vwView_any _ l fx fy C R _ h02 Hf.out Hs h12).mono ?_; rintro e w5 ⟨vS, rfl, oS, b5⟩
    have B5 := B1.trans (b5.mono B1.size)
    have hsz := vwL_size fx fy C R l
    have hlen := vwL_len (shw fx fy C R l l.length) R R
    obtain ⟨L, hL⟩ : ∃ L, L = vwL (shw fx fy C R l l.length) R R := ⟨_, rfl⟩
    rw [← hL] at hr oS hsz hlen
    clear hL
    clear hk hf hg c0 c1 c2 c3
    have hsm := Lib.hid (fun k (hk : k ≤ L.length) => tx_small (k := k) hsz hlen (by omega) (by omega) hk)
    have Hsz := Lib.hid hsz
    clear hsz
    have hlit := OwnRow.lit oS (by omega)
    obtain ⟨gg, cg, rfl, hgg⟩ := hlit
    have hsr := Lib.hid oS.reads
    rw [hlen]
    have hnz : (⟨#[10]⟩ : ByteArray).size = 1 := rfl
    go_wp2_with fail
    go_loopw [6, 17] (fun t s wr => ∃ k : Nat, k ≤ R ∧ s = .int .i64 k ∧ t = .string (tx L k) ∧ wr = w5) (fun _ s _ => R - (intOf s).toNat)
    case atStart => exact ⟨0, Nat.zero_le _, rfl, rfl, rfl⟩
    case round =>
      obtain ⟨k, hk, rfl, rfl, rfl⟩ := hrel
      have htz := hsm.out k (by omega)
      by_cases hlt : k < R
      · have hst := Lib.hid (tx_succ L k)
        have hc := str_own oS k (by omega)
        have hs := Hsz.out k (by omega)
        obtain ⟨s, hse⟩ : ∃ s, s = gx strRec L k := ⟨_, rfl⟩
        rw [← hse] at hc hst hs
        clear hse
        go_wp2_with fail
        go_roundw
        case rel => exact ⟨k + 1, by omega, by go_num, by rw [hst.out], trivial⟩
        case measure => simp [intOf]; omega
      · obtain rfl : k = R := by omega
        go_wp2_with fail
        go_ret2
        exact ⟨by rw [hr.out]; rfl, B5⟩
end Go.Proofs.Ytjbffahnbkpcnaa
