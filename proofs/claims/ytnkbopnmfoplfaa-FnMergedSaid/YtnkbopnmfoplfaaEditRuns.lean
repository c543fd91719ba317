/- Contracts: runs of edits, in the program and in the reference. -/
import Derived.Test.YtnkbopnmfoplfaaEditMove
set_option linter.unusedSimpArgs false
set_option linter.unusedVariables false
namespace Go.Proofs.Ytnkbopnmfoplfaa
open Go.RowKit

/-- Edits carried out one after the other, until one does not fit. -/
def runE : List Spt → List Edt → Nat → List Spt × Nat
  | s, [], n => (s, n)
  | s, e :: es, n => if fitsB s e.p.toNat e.b e.a then runE (s.set e.p.toNat e.a) es (n + 1) else (s, n)
theorem runE_len (es : List Edt) : ∀ (s : List Spt) (n : Nat), (runE s es n).1.length = s.length ∧ (runE s es n).2 ≤ n + es.length := by
  induction es with
  | nil => intro s n; exact ⟨rfl, by simp [runE]⟩
  | cons e es ih =>
    intro s n
    unfold runE
    split
    · have := ih (s.set e.p.toNat e.a) (n + 1)
      rw [List.length_set] at this
      exact ⟨this.1, by have := this.2; simp; omega⟩
    · exact ⟨rfl, by simp⟩
theorem runE_no {s : List Spt} {es : List Edt} {k n : Nat} (h : k < es.length) (hp : (gx edtRec es k).p = (n : Int)) (hf : fitsB s n ⟨(gx edtRec es k).bx, (gx edtRec es k).bY⟩ ⟨(gx edtRec es k).ax, (gx edtRec es k).aY⟩ = false) :
    runE s (es.drop k) k = (s, k) := by
  rw [drop_gx edtRec es k h]
  unfold runE
  have e1 : (gx edtRec es k).p.toNat = n := by omega
  rw [e1, if_neg]
  intro h9
  have : fitsB s n (gx edtRec es k).b (gx edtRec es k).a = false := hf
  rw [this] at h9; cases h9
theorem runE_yes {s : List Spt} {es : List Edt} {k n : Nat} (h : k < es.length) (hp : (gx edtRec es k).p = (n : Int)) (hf : fitsB s n ⟨(gx edtRec es k).bx, (gx edtRec es k).bY⟩ ⟨(gx edtRec es k).ax, (gx edtRec es k).aY⟩ = true) :
    runE s (es.drop k) k = runE (s.set n ⟨(gx edtRec es k).ax, (gx edtRec es k).aY⟩) (es.drop (k + 1)) (k + 1) := by
  rw [drop_gx edtRec es k h]
  conv => lhs; unfold runE
  have e1 : (gx edtRec es k).p.toNat = n := by omega
  have h9 : fitsB s n (gx edtRec es k).b (gx edtRec es k).a = true := hf
  rw [e1, if_pos h9]
  rfl
theorem fits_lt {l : List Spt} {n : Nat} {b a : Spt} (h : fitsB l n b a = true) : n < l.length := by
  unfold fitsB at h
  simp only [Bool.and_eq_true] at h
  exact of_decide_eq_true h.1.1
def FreshRun (w : World) (r : List Spt × Nat) (e : Ending) (w' : World) : Prop :=
  ∃ x, e = .returned (.tuple #[x, .int .i64 r.2]) ∧ OwnRow sptRec w' w.heap.size x r.1 ∧ Below w.heap.size w w'

set_option maxHeartbeats 6400000 in
theorem applyEdits_any (v ve : Value) (l : List Spt) (es : List Edt) (w : World) (h : RowAt sptRec w v l) (hE : RowAt edtRec w ve es) (hl : l.length ≤ 12) (hl0 : 0 < l.length) (hes : es.length ≤ 60) (hg : Hid (edTo es es.length)) :
    Calls Try.prog 36 #[v, ve] w (FreshRun w (runE l es 0)) := by
  obtain ⟨A, c, rfl, hnc, hc63⟩ := h.shape
  obtain ⟨B, d, rfl, hnd, hd63⟩ := hE.shape
  have hO := OwnRow.empty sptRec w w.heap.size (Nat.le_refl _)
  have hEb : Below w.heap.size w (w.alloc (.cells #[] 42)) := (Below.refl _ _).alloc (Nat.le_refl _) _
  have hE2 := h.below hEb (Nat.le_refl _)
  have h63 : ([] : List Spt).length + l.length ≤ 1099511627776 := by simp; omega
  go_enter Try.func36, Try.ntmps36
  go_upto_region 2 with (at_builtin; refine wp_app_spts _ rfl _ _ rfl w.heap.size _ [] rfl hO _ l rfl hE2 h63 hEb.size ?_; intro x w2 ox hgx)
  have hb2 := hEb.trans hgx.below
  have ox2 : OwnRow sptRec w2 w.heap.size x l := ox
  obtain ⟨g, cg, rfl, hg0⟩ := ox2.lit hl0
  clear ox hO hE2 hEb
  go_wp2_with fail
  go_loopw [14] (fun s wr => ∃ (k : Nat) (cur : List Spt), k ≤ es.length ∧ s = .int .i64 k ∧ cur.length ≤ 12 ∧ Hid (cur.length = l.length) ∧ OwnRow sptRec wr w.heap.size (.slice (some ⟨g, 0, none⟩) l.length cg) cur ∧ Hid (runE l es 0 = runE cur (es.drop k) k) ∧ Below w.heap.size w wr) (fun s _ => es.length - (intOf s).toNat)
  case atStart => exact ⟨0, l, Nat.zero_le _, rfl, hl, rfl, ox2, rfl, hb2⟩
  case round =>
    obtain ⟨k, cur, hk, rfl, hcl, hce, ho, hr, hb⟩ := hrel
    clear ox2
    by_cases hlt : k < es.length
    · obtain ⟨b, o, rfl, hc0, hc1, hc2, hc3, hc4, hc5⟩ := edt_at (hE.below hb (Nat.le_refl _)) k hlt
      have hgk := isEdt_t (hg.out k hlt)
      obtain ⟨_, _, p0, p11, _, _⟩ := hgk
      obtain ⟨n, hn⟩ := Int.eq_ofNat_of_zero_le p0
      have hn11 : n ≤ 11 := by omega
      rw [hn] at hc1
      have hX : Below wr.heap.size wr (wr.alloc (.cells #[.int .i64 (gx edtRec es k).e, .int .i64 n, .int .i64 (gx edtRec es k).bx, .int .i64 (gx edtRec es k).bY, .int .i64 (gx edtRec es k).ax, .int .i64 (gx edtRec es k).aY] 54)) := (Below.refl _ _).alloc (Nat.le_refl _) _
      have hoX := OwnRow.below ho hX (Nat.le_refl _)
      have hbX := hb.trans (hX.mono hb.size)
      cases hf : fitsB cur n ⟨(gx edtRec es k).bx, (gx edtRec es k).bY⟩ ⟨(gx edtRec es k).ax, (gx edtRec es k).aY⟩
      · have hr2 := Lib.hid (hr.out.trans (runE_no hlt hn hf))
        clear hn p0 p11
        go_wp2_with fail
        refine (fits_any _ cur (gx edtRec es k).e n (gx edtRec es k).bx (gx edtRec es k).bY (gx edtRec es k).ax (gx edtRec es k).aY _ hoX.reads (by omega) (by omega)).mono ?_; rintro e w3 ⟨rfl, b3⟩
        have ho3 := OwnRow.below hoX b3 (Nat.le_refl _)
        go_wp2_with fail
        go_ret2
        exact ⟨_, by rw [hr2.out]; rfl, by rw [hr2.out]; exact ho3, hbX.next (Nat.le_refl _) b3⟩
      · have hr2 := Lib.hid (hr.out.trans (runE_yes hlt hn hf))
        have hnl := fits_lt hf
        clear hn p0 p11
        go_wp2_with fail
        refine (fits_any _ cur (gx edtRec es k).e n (gx edtRec es k).bx (gx edtRec es k).bY (gx edtRec es k).ax (gx edtRec es k).aY _ hoX.reads (by omega) (by omega)).mono ?_; rintro e w3 ⟨rfl, b3⟩
        have ho3 := OwnRow.below hoX b3 (Nat.le_refl _)
        have hb3 := hbX.next (Nat.le_refl _) b3
        have y1 : w3.cell? ⟨wr.heap.size, 1, none⟩ = some (.int .i64 n) := Below.keepC b3 (by go_simp) (Nat.le_refl _)
        have y4 : w3.cell? ⟨wr.heap.size, 4, none⟩ = some (.int .i64 (gx edtRec es k).ax) := Below.keepC b3 (by go_simp) (Nat.le_refl _)
        have y5 : w3.cell? ⟨wr.heap.size, 5, none⟩ = some (.int .i64 (gx edtRec es k).aY) := Below.keepC b3 (by go_simp) (Nat.le_refl _)
        obtain ⟨q0, q1⟩ := spt_own ho3 n hnl
        have fz0 : w3.frozen? ⟨g, n * 2, none⟩ = false := ho3.free _
        have fz1 : w3.frozen? ⟨g, n * 2 + 1, none⟩ = false := ho3.free _
        have hst := ho3.set n ⟨(gx edtRec es k).ax, (gx edtRec es k).aY⟩ hnl
        have Hst := Lib.hid hst.1
        have hls : Hid ((cur.set n ⟨(gx edtRec es k).ax, (gx edtRec es k).aY⟩).length = l.length) := by show _ = _; rw [List.length_set, hce.out]
        have hls2 : (cur.set n ⟨(gx edtRec es k).ax, (gx edtRec es k).aY⟩).length ≤ 12 := by rw [List.length_set]; exact hcl
        have Hb := Lib.hid ((hb3.setCell (p := ⟨g, n * 2, none⟩) (by exact hg0) (.int .i64 (gx edtRec es k).ax)).setCell (p := ⟨g, n * 2 + 1, none⟩) (by exact hg0) (.int .i64 (gx edtRec es k).aY))
        have hi0 : (0 : Int) ≤ (n : Int) := by omega
        have hi1 : (n : Int) < (l.length : Int) := by have := hce.out; omega
        have hi2 : n < l.length := by have := hce.out; omega
        clear hst ho3 hoX ho
        go_wp2_with fail
        go_roundw
        case rel => exact ⟨k + 1, cur.set n ⟨(gx edtRec es k).ax, (gx edtRec es k).aY⟩, by omega, by go_num, hls2, hls, Hst.out, hr2, Hb.out⟩
        case measure => simp [intOf]; omega
    · obtain rfl : k = es.length := by omega
      have hr2 : Hid (runE l es 0 = (cur, es.length)) := by
        show _ = _
        rw [hr.out, List.drop_length]; rfl
      go_wp2_with fail
      go_ret2
      exact ⟨_, by rw [hr2.out]; rfl, by rw [hr2.out]; exact ho, hb⟩

set_option maxHeartbeats 6400000 in
theorem edRun_any (v ve : Value) (l : List Spt) (es : List Edt) (w : World) (h : RowAt sptRec w v l) (hE : RowAt edtRec w ve es) (hl : l.length ≤ 12) (hl0 : 0 < l.length) (hes : es.length ≤ 60) (hg : Hid (edTo es es.length)) :
    Calls Try.prog 38 #[v, ve] w (FreshRun w (runE l es 0)) := by
  obtain ⟨A, c, rfl, hnc, hc63⟩ := h.shape
  obtain ⟨B, d, rfl, hnd, hd63⟩ := hE.shape
  go_enter Try.func38, Try.ntmps38
  go_wp2_with fail
  refine (chOwn_any _ l _ h (by omega)).mono ?_; rintro e w2 ⟨x, rfl, ox, hb2⟩
  go_wp2_with fail
  go_loopw [6, 15] (fun t s wr => ∃ (k : Nat) (cur : List Spt), k ≤ es.length ∧ s = .int .i64 k ∧ cur.length ≤ 12 ∧ OwnRow sptRec wr w.heap.size t cur ∧ Hid (runE l es 0 = runE cur (es.drop k) k) ∧ Below w.heap.size w wr) (fun _ s _ => es.length - (intOf s).toNat)
  case atStart => exact ⟨0, l, Nat.zero_le _, rfl, hl, ox, rfl, hb2⟩
  case round =>
    obtain ⟨k, cur, hk, rfl, hcl, ho, hr, hb⟩ := hrel
    by_cases hlt : k < es.length
    · obtain ⟨b, o, rfl, hc0, hc1, hc2, hc3, hc4, hc5⟩ := edt_at (hE.below hb (Nat.le_refl _)) k hlt
      have hgk := isEdt_t (hg.out k hlt)
      obtain ⟨_, _, p0, p11, _, _⟩ := hgk
      obtain ⟨n, hn⟩ := Int.eq_ofNat_of_zero_le p0
      have hn11 : n ≤ 11 := by omega
      rw [hn] at hc1
      have hX : Below wr.heap.size wr (wr.alloc (.cells #[.int .i64 (gx edtRec es k).e, .int .i64 n, .int .i64 (gx edtRec es k).bx, .int .i64 (gx edtRec es k).bY, .int .i64 (gx edtRec es k).ax, .int .i64 (gx edtRec es k).aY] 54)) := (Below.refl _ _).alloc (Nat.le_refl _) _
      have hoX := OwnRow.below ho hX (Nat.le_refl _)
      have hbX := hb.trans (hX.mono hb.size)
      cases hf : fitsB cur n ⟨(gx edtRec es k).bx, (gx edtRec es k).bY⟩ ⟨(gx edtRec es k).ax, (gx edtRec es k).aY⟩
      · have hr2 := Lib.hid (hr.out.trans (runE_no hlt hn hf))
        have hm := rMove_no hf
        clear hn p0 p11
        go_wp2_with fail
        refine (edApply_any _ cur (gx edtRec es k).e n (gx edtRec es k).bx (gx edtRec es k).bY (gx edtRec es k).ax (gx edtRec es k).aY _ hoX.reads (by omega) (by omega)).mono ?_; rintro e w3 ⟨x3, he3, ox3, b3⟩
        rw [hm] at he3
        subst he3
        have ho3 := OwnRow.below hoX b3 (Nat.le_refl _)
        clear hm
        go_wp2_with fail
        go_ret2
        exact ⟨_, by rw [hr2.out]; rfl, by rw [hr2.out]; exact ho3, hbX.next (Nat.le_refl _) b3⟩
      · have hr2 := Lib.hid (hr.out.trans (runE_yes hlt hn hf))
        have hnl := fits_lt hf
        have hm := rMove_yes hf
        have hls2 : (cur.set n ⟨(gx edtRec es k).ax, (gx edtRec es k).aY⟩).length ≤ 12 := by rw [List.length_set]; exact hcl
        clear hn p0 p11
        go_wp2_with fail
        refine (edApply_any _ cur (gx edtRec es k).e n (gx edtRec es k).bx (gx edtRec es k).bY (gx edtRec es k).ax (gx edtRec es k).aY _ hoX.reads (by omega) (by omega)).mono ?_; rintro e w3 ⟨x3, he3, ox3, b3⟩
        rw [hm] at he3 ox3
        subst he3
        have ox4 := Lib.hid (OwnRow.lo ox3 hbX.size)
        clear hm ox3
        go_wp2_with fail
        go_roundw
        case rel => exact ⟨k + 1, cur.set n ⟨(gx edtRec es k).ax, (gx edtRec es k).aY⟩, by omega, by go_num, hls2, ox4.out, hr2, hbX.next (Nat.le_refl _) b3⟩
        case measure => simp [intOf]; omega
    · obtain rfl : k = es.length := by omega
      have hr2 : Hid (runE l es 0 = (cur, es.length)) := by
        show _ = _
        rw [hr.out, List.drop_length]; rfl
      go_wp2_with fail
      go_ret2
      exact ⟨_, by rw [hr2.out]; rfl, by rw [hr2.out]; exact ho, hb⟩
end Go.Proofs.Ytnkbopnmfoplfaa
