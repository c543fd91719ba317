/- Contracts: the edits that fit, one after the other; in the program and in the reference. -/
import Derived.Test.YtiondgflpimdmaaDoorEditConf
set_option linter.unusedSimpArgs false
set_option linter.unusedVariables false
namespace Go.Proofs.YtiondgflpimdmaaDoor
open Go.RowKit

/-- The chart after n edits of which those that fit are carried out, and which do and which do not. -/
def fitSt (l : List Spt) (es : List Edt) : Nat → List Spt × List Int × List Int
  | 0 => (l, [], [])
  | n + 1 => if fitsB (fitSt l es n).1 (gx edtRec es n).p.toNat (gx edtRec es n).b (gx edtRec es n).a then ((fitSt l es n).1.set (gx edtRec es n).p.toNat (gx edtRec es n).a, (fitSt l es n).2.1 ++ [(n : Int)], (fitSt l es n).2.2)
    else ((fitSt l es n).1, (fitSt l es n).2.1, (fitSt l es n).2.2 ++ [(n : Int)])
theorem fitSt_len (l : List Spt) (es : List Edt) (n : Nat) : (fitSt l es n).1.length = l.length ∧ (fitSt l es n).2.1.length + (fitSt l es n).2.2.length = n := by
  induction n with
  | zero => exact ⟨rfl, rfl⟩
  | succ n ih =>
    unfold fitSt
    split
    · exact ⟨by rw [List.length_set]; exact ih.1, by simp only [List.length_append, List.length_cons, List.length_nil]; omega⟩
    · exact ⟨ih.1, by simp only [List.length_append, List.length_cons, List.length_nil]; omega⟩
theorem fitSt_no {l : List Spt} {es : List Edt} {k n : Nat} (hp : (gx edtRec es k).p = (n : Int)) (hf : fitsB (fitSt l es k).1 n ⟨(gx edtRec es k).bx, (gx edtRec es k).bY⟩ ⟨(gx edtRec es k).ax, (gx edtRec es k).aY⟩ = false) :
    fitSt l es (k + 1) = ((fitSt l es k).1, (fitSt l es k).2.1, (fitSt l es k).2.2 ++ [(k : Int)]) := by
  have e1 : (gx edtRec es k).p.toNat = n := by omega
  have h9 : fitsB (fitSt l es k).1 n (gx edtRec es k).b (gx edtRec es k).a = false := hf
  conv => lhs; unfold fitSt
  rw [e1, h9]; rfl
theorem fitSt_yes {l : List Spt} {es : List Edt} {k n : Nat} (hp : (gx edtRec es k).p = (n : Int)) (hf : fitsB (fitSt l es k).1 n ⟨(gx edtRec es k).bx, (gx edtRec es k).bY⟩ ⟨(gx edtRec es k).ax, (gx edtRec es k).aY⟩ = true) :
    fitSt l es (k + 1) = ((fitSt l es k).1.set n ⟨(gx edtRec es k).ax, (gx edtRec es k).aY⟩, (fitSt l es k).2.1 ++ [(k : Int)], (fitSt l es k).2.2) := by
  have e1 : (gx edtRec es k).p.toNat = n := by omega
  have h9 : fitsB (fitSt l es k).1 n (gx edtRec es k).b (gx edtRec es k).a = true := hf
  conv => lhs; unfold fitSt
  rw [e1, h9]; rfl
def FreshFit (w : World) (a : List Spt) (b : List Int) (e : Ending) (w' : World) : Prop :=
  ∃ v u, e = .returned (.tuple #[v, u]) ∧ OwnRow sptRec w' w.heap.size v a ∧ OwnInts w' w.heap.size u b ∧ Apt v u ∧ Below w.heap.size w w'
set_option maxHeartbeats 6400000 in
theorem fittingEdits_any (v ve : Value) (l : List Spt) (es : List Edt) (w : World) (h : RowAt sptRec w v l) (hE : RowAt edtRec w ve es) (hl : l.length ≤ 12) (hl0 : 0 < l.length) (hes : es.length ≤ 60) (hg : Hid (edTo es es.length)) :
    Calls Tryd.prog 33 #[v, ve] w (FreshFit w (fitSt l es es.length).1 (fitSt l es es.length).2.1) := by
  obtain ⟨A, c, rfl, hnc, hc63⟩ := h.shape
  obtain ⟨B, d, rfl, hnd, hd63⟩ := hE.shape
  have hO := OwnRow.empty sptRec w w.heap.size (Nat.le_refl _)
  have hEb : Below w.heap.size w (w.alloc (.cells #[] 39)) := (Below.refl _ _).alloc (Nat.le_refl _) _
  have hE2 := h.below hEb (Nat.le_refl _)
  have h63 : ([] : List Spt).length + l.length ≤ 1099511627776 := by simp; omega
  go_enter Tryd.func33, Tryd.ntmps33
  go_upto_region 2 with (at_builtin; refine wp_app_spts _ rfl _ _ rfl w.heap.size _ [] rfl hO _ l rfl hE2 h63 hEb.size ?_; intro x w2 ox hgx)
  have hb2 := hEb.trans hgx.below
  have ox2 : OwnRow sptRec w2 w.heap.size x l := ox
  obtain ⟨g, cg, rfl, hg0⟩ := ox2.lit hl0
  clear ox hO hE2 hEb
  go_wp2_with fail
  have hu2 : OwnInts (w2.alloc (.cells #[] 3)) w.heap.size (.slice (some ⟨w2.heap.size, 0, none⟩) 0 0) [] := OwnInts.empty w2 _ hb2.size
  have ox3 : OwnRow sptRec (w2.alloc (.cells #[] 3)) w.heap.size (.slice (some ⟨g, 0, none⟩) l.length cg) l := World.ownsRow.alloc ox2 _
  have hgl : g < w2.heap.size := (World.ownsRow.lt ox2 g rfl).2
  have hap2 : Apt (.slice (some ⟨g, 0, none⟩) l.length cg) (.slice (some ⟨w2.heap.size, 0, none⟩) 0 0) := fun g9 q1 q2 => by simp [Value.ownBlock] at q1 q2; omega
  have hb3' : Below w.heap.size w (w2.alloc (.cells #[] 3)) := hb2.alloc hb2.size _
  clear ox2
  go_loopw [7, 16] (fun u s wr => ∃ k : Nat, k ≤ es.length ∧ s = .int .i64 k ∧ OwnRow sptRec wr w.heap.size (.slice (some ⟨g, 0, none⟩) l.length cg) (fitSt l es k).1 ∧ OwnInts wr w.heap.size u (fitSt l es k).2.1 ∧ Apt (.slice (some ⟨g, 0, none⟩) l.length cg) u ∧ Below w.heap.size w wr) (fun _ s _ => es.length - (intOf s).toNat)
  case atStart => exact ⟨0, Nat.zero_le _, rfl, ox3, hu2, hap2, hb3'⟩
  case round =>
    obtain ⟨k, hk, rfl, ho, hu, hap, hb⟩ := hrel
    clear ox3 hu2 hap2 hb3'
    have hfl := (fitSt_len l es k).1
    have hfi := (fitSt_len l es k).2
    have hce := Lib.hid hfl
    have hcl : (fitSt l es k).1.length ≤ 12 := by omega
    have h9 : (fitSt l es k).2.1.length + 1 ≤ 1099511627776 := by omega
    clear hfl hfi
    by_cases hlt : k < es.length
    · obtain ⟨b, o, rfl, hc0, hc1, hc2, hc3, hc4, hc5⟩ := edt_at (hE.below hb (Nat.le_refl _)) k hlt
      have hgk := isEdt_t (hg.out k hlt)
      obtain ⟨_, _, p0, p11, _, _⟩ := hgk
      obtain ⟨n, hn⟩ := Int.eq_ofNat_of_zero_le p0
      have hn11 : n ≤ 11 := by omega
      rw [hn] at hc1
      have hX : Below wr.heap.size wr (wr.alloc (.cells #[.int .i64 (gx edtRec es k).e, .int .i64 n, .int .i64 (gx edtRec es k).bx, .int .i64 (gx edtRec es k).bY, .int .i64 (gx edtRec es k).ax, .int .i64 (gx edtRec es k).aY] 41)) := (Below.refl _ _).alloc (Nat.le_refl _) _
      have hoX := OwnRow.below ho hX (Nat.le_refl _)
      have hbX := hb.trans (hX.mono hb.size)
      cases hf : fitsB (fitSt l es k).1 n ⟨(gx edtRec es k).bx, (gx edtRec es k).bY⟩ ⟨(gx edtRec es k).ax, (gx edtRec es k).aY⟩
      · have hr2 := Lib.hid (fitSt_no hn hf)
        clear hn p0 p11
        go_wp2_with fail
        refine (fits_any _ (fitSt l es k).1 (gx edtRec es k).e n (gx edtRec es k).bx (gx edtRec es k).bY (gx edtRec es k).ax (gx edtRec es k).aY _ hoX.reads (by omega) (by omega)).mono ?_; rintro e w3 ⟨rfl, b3⟩
        have ho3 := OwnRow.below hoX b3 (Nat.le_refl _)
        have hu3 := OwnInts.below (OwnInts.below hu hX (Nat.le_refl _)) b3 (Nat.le_refl _)
        go_wp2_with fail
        go_roundw
        case rel => exact ⟨k + 1, by omega, by go_num, by rw [hr2.out]; exact ho3, by rw [hr2.out]; exact hu3, hap, hbX.next (Nat.le_refl _) b3⟩
        case measure => simp [intOf]; omega
      · have hr2 := Lib.hid (fitSt_yes hn hf)
        have hnl := fits_lt hf
        clear hn p0 p11
        go_wp2_with fail
        refine (fits_any _ (fitSt l es k).1 (gx edtRec es k).e n (gx edtRec es k).bx (gx edtRec es k).bY (gx edtRec es k).ax (gx edtRec es k).aY _ hoX.reads (by omega) (by omega)).mono ?_; rintro e w3 ⟨rfl, b3⟩
        have ho3 := OwnRow.below hoX b3 (Nat.le_refl _)
        have hb3 := hbX.next (Nat.le_refl _) b3
        have y1 : w3.cell? ⟨wr.heap.size, 1, none⟩ = some (.int .i64 n) := Below.keepC b3 (by go_simp) (Nat.le_refl _)
        have y4 : w3.cell? ⟨wr.heap.size, 4, none⟩ = some (.int .i64 (gx edtRec es k).ax) := Below.keepC b3 (by go_simp) (Nat.le_refl _)
        have y5 : w3.cell? ⟨wr.heap.size, 5, none⟩ = some (.int .i64 (gx edtRec es k).aY) := Below.keepC b3 (by go_simp) (Nat.le_refl _)
        obtain ⟨q0, q1⟩ := spt_own ho3 n hnl
        have fz0 : w3.frozen? ⟨g, n * 2, none⟩ = false := ho3.free _
        have fz1 : w3.frozen? ⟨g, n * 2 + 1, none⟩ = false := ho3.free _
        have hst := ho3.set n ⟨(gx edtRec es k).ax, (gx edtRec es k).aY⟩ hnl
        have Hst := Lib.hid hst.1
        have hls : Hid (((fitSt l es k).1.set n ⟨(gx edtRec es k).ax, (gx edtRec es k).aY⟩).length = l.length) := by show _ = _; rw [List.length_set, hce.out]
        have hls2 : ((fitSt l es k).1.set n ⟨(gx edtRec es k).ax, (gx edtRec es k).aY⟩).length ≤ 12 := by rw [List.length_set]; exact hcl
        have Hb := Lib.hid ((hb3.setCell (p := ⟨g, n * 2, none⟩) (by exact hg0) (.int .i64 (gx edtRec es k).ax)).setCell (p := ⟨g, n * 2 + 1, none⟩) (by exact hg0) (.int .i64 (gx edtRec es k).aY))
        have hi0 : (0 : Int) ≤ (n : Int) := by omega
        have hi1 : (n : Int) < (l.length : Int) := by have := hce.out; omega
        have hi2 : n < l.length := by have := hce.out; omega
        have hu3 := OwnInts.below (OwnInts.below hu hX (Nat.le_refl _)) b3 (Nat.le_refl _)
        have hu4 : OwnInts ((w3.setCell ⟨g, n * 2, none⟩ (.int .i64 (gx edtRec es k).ax)).setCell ⟨g, n * 2 + 1, none⟩ (.int .i64 (gx edtRec es k).aY)) w.heap.size u7 (fitSt l es k).2.1 := World.ownsRow.kept hu3 hst.2 hap.hne
        have hsz4 := Hb.out.size
        clear hst ho3 hoX ho hu hu3
        go_wp2_with (at_builtin; refine wp_app_int _ rfl _ _ rfl w.heap.size _ (fitSt l es k).2.1 rfl hu4 (k : Int) _ rfl (by simp) h9 hsz4 ?_; intro v5 w5 hu5 hg5)
        have ho5 := hap.symm.keepR Hst.out hg5
        have ap5 := (hap.symm.grew Hst.out hg5).symm
        go_roundw
        case rel => exact ⟨k + 1, by omega, by go_num, by rw [hr2.out]; exact ho5, by rw [hr2.out]; exact hu5, ap5, Hb.out.trans hg5.below⟩
        case measure => simp [intOf]; omega
    · obtain rfl : k = es.length := by omega
      go_wp2_with fail
      go_ret2
      exact ⟨_, _, rfl, ho, hu, hap, hb⟩
end Go.Proofs.YtiondgflpimdmaaDoor
/- Contract of mgFit: the edits that fit, in the reference. -/
set_option linter.unusedSimpArgs false
set_option linter.unusedVariables false
namespace Go.Proofs.YtiondgflpimdmaaDoor
open Go.RowKit

def FreshFit3 (w : World) (r : List Spt × List Int × List Int) (e : Ending) (w' : World) : Prop :=
  ∃ t u v, e = .returned (.tuple #[t, u, v]) ∧ OwnRow sptRec w' w.heap.size t r.1 ∧ OwnInts w' w.heap.size u r.2.1 ∧ OwnInts w' w.heap.size v r.2.2 ∧ Apt t u ∧ Apt t v ∧ Apt u v ∧ Below w.heap.size w w'
set_option maxHeartbeats 6400000 in
theorem mgFit_any (v ve : Value) (l : List Spt) (es : List Edt) (w : World) (h : RowAt sptRec w v l) (hE : RowAt edtRec w ve es) (hl : l.length ≤ 12) (hl0 : 0 < l.length) (hes : es.length ≤ 60) (hg : Hid (edTo es es.length)) :
    Calls Tryd.prog 38 #[v, ve] w (FreshFit3 w (fitSt l es es.length)) := by
  obtain ⟨A, c, rfl, hnc, hc63⟩ := h.shape
  obtain ⟨B, d, rfl, hnd, hd63⟩ := hE.shape
  go_enter Tryd.func38, Tryd.ntmps38
  go_wp2_with fail
  refine (chOwn_any _ l _ h (by omega)).mono ?_; rintro e w2 ⟨x, rfl, ox, hb2⟩
  go_wp2_with fail
  go_loopw [7, 8, 9, 18] (fun t u v s wr => ∃ k : Nat, k ≤ es.length ∧ s = .int .i64 k ∧ OwnRow sptRec wr w.heap.size t (fitSt l es k).1 ∧ OwnInts wr w.heap.size u (fitSt l es k).2.1 ∧ OwnInts wr w.heap.size v (fitSt l es k).2.2 ∧ Apt t u ∧ Apt t v ∧ Apt u v ∧ Below w.heap.size w wr) (fun _ _ _ s _ => es.length - (intOf s).toNat)
  case atStart => exact ⟨0, Nat.zero_le _, rfl, ox, OwnInts.nil_ _ _, OwnInts.nil_ _ _, (fun g h1 h2 => by cases h2), (fun g h1 h2 => by cases h2), (fun g h1 h2 => by cases h2), hb2⟩
  case round =>
    obtain ⟨k, hk, rfl, ho, hu, hv, atu, atv, auv, hb⟩ := hrel
    have hfl := (fitSt_len l es k).1
    have hfi := (fitSt_len l es k).2
    have hcl : (fitSt l es k).1.length ≤ 12 := by omega
    have h9 : (fitSt l es k).2.1.length + 1 ≤ 1099511627776 := by omega
    have h8 : (fitSt l es k).2.2.length + 1 ≤ 1099511627776 := by omega
    clear hfl hfi
    by_cases hlt : k < es.length
    · obtain ⟨b, o, rfl, hc0, hc1, hc2, hc3, hc4, hc5⟩ := edt_at (hE.below hb (Nat.le_refl _)) k hlt
      have hgk := isEdt_t (hg.out k hlt)
      obtain ⟨_, _, p0, p11, _, _⟩ := hgk
      obtain ⟨n, hn⟩ := Int.eq_ofNat_of_zero_le p0
      have hn11 : n ≤ 11 := by omega
      rw [hn] at hc1
      have hX : Below wr.heap.size wr (wr.alloc (.cells #[.int .i64 (gx edtRec es k).e, .int .i64 n, .int .i64 (gx edtRec es k).bx, .int .i64 (gx edtRec es k).bY, .int .i64 (gx edtRec es k).ax, .int .i64 (gx edtRec es k).aY] 41)) := (Below.refl _ _).alloc (Nat.le_refl _) _
      have hoX := OwnRow.below ho hX (Nat.le_refl _)
      have hbX := hb.trans (hX.mono hb.size)
      cases hf : fitsB (fitSt l es k).1 n ⟨(gx edtRec es k).bx, (gx edtRec es k).bY⟩ ⟨(gx edtRec es k).ax, (gx edtRec es k).aY⟩
      · have hr2 := Lib.hid (fitSt_no hn hf)
        have hm := rMove_no hf
        clear hn p0 p11
        go_wp2_with fail
        refine (edApply_any _ (fitSt l es k).1 (gx edtRec es k).e n (gx edtRec es k).bx (gx edtRec es k).bY (gx edtRec es k).ax (gx edtRec es k).aY _ hoX.reads (by omega) (by omega)).mono ?_; rintro e w3 ⟨x3, he3, ox3, b3⟩
        rw [hm] at he3
        subst he3
        have ho3 := OwnRow.below hoX b3 (Nat.le_refl _)
        clear hm
        have hu3 := OwnInts.below (OwnInts.below hu hX (Nat.le_refl _)) b3 (Nat.le_refl _)
        have hv3 := OwnInts.below (OwnInts.below hv hX (Nat.le_refl _)) b3 (Nat.le_refl _)
        have hb3 := hbX.next (Nat.le_refl _) b3
        go_wp2_with (at_builtin; refine wp_app_int _ rfl _ _ rfl w.heap.size _ (fitSt l es k).2.2 rfl hv3 (k : Int) _ rfl rfl h8 hb3.size ?_; intro v5 w5 hv5 hg5)
        have ho5 := atv.symm.keepR ho3 hg5
        have hu5 := auv.symm.keepI hu3 hg5
        have atv5 := (atv.symm.grew ho3 hg5).symm
        have auv5 := (auv.symm.grew hu3 hg5).symm
        go_roundw
        case rel => exact ⟨k + 1, by omega, by go_num, by rw [hr2.out]; exact ho5, by rw [hr2.out]; exact hu5, by rw [hr2.out]; exact hv5, atu, atv5, auv5, hb3.trans hg5.below⟩
        case measure => simp [intOf]; omega
      · have hr2 := Lib.hid (fitSt_yes hn hf)
        have hnl := fits_lt hf
        have hm := rMove_yes hf
        have hls2 : ((fitSt l es k).1.set n ⟨(gx edtRec es k).ax, (gx edtRec es k).aY⟩).length ≤ 12 := by rw [List.length_set]; exact hcl
        clear hn p0 p11
        go_wp2_with fail
        refine (edApply_any _ (fitSt l es k).1 (gx edtRec es k).e n (gx edtRec es k).bx (gx edtRec es k).bY (gx edtRec es k).ax (gx edtRec es k).aY _ hoX.reads (by omega) (by omega)).mono ?_; rintro e w3 ⟨x3, he3, ox3, b3⟩
        rw [hm] at he3 ox3
        subst he3
        have ox4 := Lib.hid (OwnRow.lo ox3 hbX.size)
        have hu3 := OwnInts.below (OwnInts.below hu hX (Nat.le_refl _)) b3 (Nat.le_refl _)
        have hv3 := OwnInts.below (OwnInts.below hv hX (Nat.le_refl _)) b3 (Nat.le_refl _)
        have hb3 := hbX.next (Nat.le_refl _) b3
        have nu : Apt x3 u8 := fun g g1 g2 => by have q1 := (World.ownsRow.lt ox3 g g1).1; have q2 := (World.ownsRow.lt (OwnInts.below hu hX (Nat.le_refl _)) g g2).2; omega
        have nv : Apt x3 u9 := fun g g1 g2 => by have q1 := (World.ownsRow.lt ox3 g g1).1; have q2 := (World.ownsRow.lt (OwnInts.below hv hX (Nat.le_refl _)) g g2).2; omega
        clear hm ox3
        go_wp2_with (at_builtin; refine wp_app_int _ rfl _ _ rfl w.heap.size _ (fitSt l es k).2.1 rfl hu3 (k : Int) _ rfl rfl h9 hb3.size ?_; intro v5 w5 hu5 hg5)
        have ho5 := nu.symm.keepR ox4.out hg5
        have hv5 := auv.keepI hv3 hg5
        have nu5 := (nu.symm.grew ox4.out hg5).symm
        have auv5 := auv.grew hv3 hg5
        go_roundw
        case rel => exact ⟨k + 1, by omega, by go_num, by rw [hr2.out]; exact ho5, by rw [hr2.out]; exact hu5, by rw [hr2.out]; exact hv5, nu5, nv, auv5, hb3.trans hg5.below⟩
        case measure => simp [intOf]; omega
    · obtain rfl : k = es.length := by omega
      go_wp2_with fail
      go_ret3
      exact ⟨_, _, _, rfl, ho, hu, hv, atu, atv, auv, hb⟩
end Go.Proofs.YtiondgflpimdmaaDoor
/- Contracts of FittingEdits, in the program and in the reference. -/
set_option linter.unusedSimpArgs false
set_option linter.unusedVariables false
namespace Go.Proofs.YtiondgflpimdmaaDoor
open Go.RowKit

/-- What FittingEdits returns. -/
def rFitting (l : List Spt) (es : List Edt) : List Int × Bool := if isChart l && areEdts es then ((fitSt l es es.length).2.1, true) else ([], false)
theorem rFitting_no1 {l : List Spt} {es : List Edt} (h : isChart l = false) : rFitting l es = ([], false) := by unfold rFitting; rw [h]; rfl
theorem rFitting_no2 {l : List Spt} {es : List Edt} (h : areEdts es = false) : rFitting l es = ([], false) := by unfold rFitting; rw [h]; cases isChart l <;> rfl
theorem rFitting_yes {l : List Spt} {es : List Edt} (h1 : isChart l = true) (h2 : areEdts es = true) : rFitting l es = ((fitSt l es es.length).2.1, true) := by unfold rFitting; rw [h1, h2]; rfl
theorem rFitting_len (l : List Spt) (es : List Edt) : (rFitting l es).1.length ≤ 30 := by
  cases h1 : isChart l
  · rw [rFitting_no1 h1]; simp
  · cases h2 : areEdts es
    · rw [rFitting_no2 h2]; simp
    · rw [rFitting_yes h1 h2]
      have h3 := (fitSt_len l es es.length).2
      have h4 := (areEdts_t h2).1
      show (fitSt l es es.length).2.1.length ≤ 30
      omega
set_option maxHeartbeats 1600000 in
theorem implFitting (v ve : Value) (l : List Spt) (es : List Edt) (w : World) (h : RowAt sptRec w v l) (hE : RowAt edtRec w ve es) :
    Calls Tryd.prog 9 #[v, ve] w (FreshIntsC w (rFitting l es)) := by
  obtain ⟨B, d, rfl, hnd, hd63⟩ := hE.shape
  cases h1 : isChart l
  · have hr := Lib.hid (rFitting_no1 (es := es) h1)
    go_enter Tryd.func9, Tryd.ntmps9
    go_wp2_with fail
    refine (implIsChart _ l _ h).mono ?_; rintro e w1 ⟨rfl, b1⟩
    go_wp2_with fail
    go_ret2
    exact ⟨_, by rw [hr.out]; rfl, by rw [hr.out]; exact OwnInts.nil_ _ _, b1⟩
  · cases h2 : areEdts es
    · have hr := Lib.hid (rFitting_no2 (l := l) h2)
      go_enter Tryd.func9, Tryd.ntmps9
      go_wp2_with fail
      refine (implIsChart _ l _ h).mono ?_; rintro e w1 ⟨rfl, b1⟩
      have hE1 := hE.below b1 (Nat.le_refl _)
      go_wp2_with fail
      refine (areEdits_any _ es _ hE1).mono ?_; rintro e w2 ⟨rfl, b2⟩
      go_wp2_with fail
      go_ret2
      exact ⟨_, by rw [hr.out]; rfl, by rw [hr.out]; exact OwnInts.nil_ _ _, b1.next (Nat.le_refl _) b2⟩
    · have hr := Lib.hid (rFitting_yes h1 h2)
      have hp := chart_pos h1
      obtain ⟨hl0, hl12⟩ := hp
      have hg0 := areEdts_t h2
      obtain ⟨h30, hg1⟩ := hg0
      have hg := Lib.hid hg1
      clear hg1
      go_enter Tryd.func9, Tryd.ntmps9
      go_wp2_with fail
      refine (implIsChart _ l _ h).mono ?_; rintro e w1 ⟨rfl, b1⟩
      have hE1 := hE.below b1 (Nat.le_refl _)
      go_wp2_with fail
      refine (areEdits_any _ es _ hE1).mono ?_; rintro e w2 ⟨rfl, b2⟩
      have b12 := b1.next (Nat.le_refl _) b2
      go_wp2_with fail
      refine (fittingEdits_any _ _ l es _ (h.below b12 (Nat.le_refl _)) (hE.below b12 (Nat.le_refl _)) hl12 hl0 (by omega) hg).mono ?_; rintro e w3 ⟨x, y, rfl, ox, ou, ap, b3⟩
      have ou2 := Lib.hid (ints_lo ou b12.size)
      clear ou
      go_wp2_with fail
      go_ret2
      exact ⟨_, by rw [hr.out]; rfl, by rw [hr.out]; exact ou2.out, b12.next (Nat.le_refl _) b3⟩
set_option maxHeartbeats 1600000 in
theorem specFitting (v ve : Value) (l : List Spt) (es : List Edt) (w : World) (h : RowAt sptRec w v l) (hE : RowAt edtRec w ve es) :
    Calls Tryd.prog 10 #[v, ve] w (FreshIntsC w (rFitting l es)) := by
  obtain ⟨B, d, rfl, hnd, hd63⟩ := hE.shape
  cases h1 : isChart l
  · have hr := Lib.hid (rFitting_no1 (es := es) h1)
    go_enter Tryd.func10, Tryd.ntmps10
    go_wp2_with fail
    refine (chGood_any _ l _ h).mono ?_; rintro e w1 ⟨rfl, b1⟩
    go_wp2_with fail
    go_ret2
    exact ⟨_, by rw [hr.out]; rfl, by rw [hr.out]; exact OwnInts.nil_ _ _, b1⟩
  · cases h2 : areEdts es
    · have hr := Lib.hid (rFitting_no2 (l := l) h2)
      go_enter Tryd.func10, Tryd.ntmps10
      go_wp2_with fail
      refine (chGood_any _ l _ h).mono ?_; rintro e w1 ⟨rfl, b1⟩
      have hE1 := hE.below b1 (Nat.le_refl _)
      go_wp2_with fail
      refine (edAll_any _ es _ hE1).mono ?_; rintro e w2 ⟨rfl, b2⟩
      go_wp2_with fail
      go_ret2
      exact ⟨_, by rw [hr.out]; rfl, by rw [hr.out]; exact OwnInts.nil_ _ _, b1.next (Nat.le_refl _) b2⟩
    · have hr := Lib.hid (rFitting_yes h1 h2)
      have hp := chart_pos h1
      obtain ⟨hl0, hl12⟩ := hp
      have hg0 := areEdts_t h2
      obtain ⟨h30, hg1⟩ := hg0
      have hg := Lib.hid hg1
      clear hg1
      go_enter Tryd.func10, Tryd.ntmps10
      go_wp2_with fail
      refine (chGood_any _ l _ h).mono ?_; rintro e w1 ⟨rfl, b1⟩
      have hE1 := hE.below b1 (Nat.le_refl _)
      go_wp2_with fail
      refine (edAll_any _ es _ hE1).mono ?_; rintro e w2 ⟨rfl, b2⟩
      have b12 := b1.next (Nat.le_refl _) b2
      go_wp2_with fail
      refine (mgFit_any _ _ l es _ (h.below b12 (Nat.le_refl _)) (hE.below b12 (Nat.le_refl _)) hl12 hl0 (by omega) hg).mono ?_; rintro e w3 ⟨x, y, z, rfl, ox, ou, oz, ap1, ap2, ap3, b3⟩
      have ou2 := Lib.hid (ints_lo ou b12.size)
      clear ou
      go_wp2_with fail
      go_ret2
      exact ⟨_, by rw [hr.out]; rfl, by rw [hr.out]; exact ou2.out, b12.next (Nat.le_refl _) b3⟩
end Go.Proofs.YtiondgflpimdmaaDoor
