/- Contract of mgFit: the edits that fit, in the reference. -/
import Derived.Test.YtnkbopnmfoplfaaEditFit
set_option linter.unusedSimpArgs false
set_option linter.unusedVariables false
namespace Go.Proofs.Ytnkbopnmfoplfaa
open Go.RowKit

def FreshFit3 (w : World) (r : List Spt × List Int × List Int) (e : Ending) (w' : World) : Prop :=
  ∃ t u v, e = .returned (.tuple #[t, u, v]) ∧ OwnRow sptRec w' w.heap.size t r.1 ∧ OwnInts w' w.heap.size u r.2.1 ∧ OwnInts w' w.heap.size v r.2.2 ∧ Apt t u ∧ Apt t v ∧ Apt u v ∧ Below w.heap.size w w'
set_option maxHeartbeats 6400000 in
theorem mgFit_any (v ve : Value) (l : List Spt) (es : List Edt) (w : World) (h : RowAt sptRec w v l) (hE : RowAt edtRec w ve es) (hl : l.length ≤ 12) (hl0 : 0 < l.length) (hes : es.length ≤ 60) (hg : Hid (edTo es es.length)) :
    Calls Try.prog 59 #[v, ve] w (FreshFit3 w (fitSt l es es.length)) := by
  obtain ⟨A, c, rfl, hnc, hc63⟩ := h.shape
  obtain ⟨B, d, rfl, hnd, hd63⟩ := hE.shape
  go_enter Try.func59, Try.ntmps59
  go_wp2_with fail
  refine (chOwn_any _ l _ h (by omega)).mono ?_; rintro e w2 ⟨x, rfl, ox, hb2⟩
  go_wp2_with fail
  go_loopw [7, 8, 9, 18] (fun t u v s wr => ∃ k : Nat, k ≤ es.length ∧ s = .int .i64 k ∧ OwnRow sptRec wr w.heap.size t (fitSt l es k).1 ∧ OwnInts wr w.heap.size u (fitSt l es k).2.1 ∧ OwnInts wr w.heap.size v (fitSt l es k).2.2 ∧ Apt t u ∧ Apt t v ∧ Apt u v ∧ Below w.heap.size w wr) (fun _ _ _ s _ => es.length - (intOf s).toNat)
  case atStart => exact ⟨0, Nat.zero_le _, rfl, ox, OwnInts.nil_ _ _, OwnInts.nil_ _ _, (fun g h1 h2 => by cases h2), (fun g h1 h2 => by cases h2), (fun g h1 h2 => by cases h2), hb2⟩
  case round =>
    obtain ⟨k, hk, rfl, ho, hu, hv, atu, atv, auv, hb⟩ := hrel
    have hfl := (fitSt_len l es k).1
    have hfi := (fitSt_len l es k).2
    have hcl : (fitSt l es k).1.length ≤ 12 := by omega
    have h9 : (fitSt l es k).2.1.length + 1 ≤ 1099511627776 := by omega
    have h8 : (fitSt l es k).2.2.length + 1 ≤ 1099511627776 := by omega
    clear hfl hfi
    by_cases hlt : k < es.length
    · obtain ⟨b, o, rfl, hc0, hc1, hc2, hc3, hc4, hc5⟩ := edt_at (hE.below hb (Nat.le_refl _)) k hlt
      have hgk := isEdt_t (hg.out k hlt)
      obtain ⟨_, _, p0, p11, _, _⟩ := hgk
      obtain ⟨n, hn⟩ := Int.eq_ofNat_of_zero_le p0
      have hn11 : n ≤ 11 := by omega
      rw [hn] at hc1
      have hX : Below wr.heap.size wr (wr.alloc (.cells #[.int .i64 (gx edtRec es k).e, .int .i64 n, .int .i64 (gx edtRec es k).bx, .int .i64 (gx edtRec es k).bY, .int .i64 (gx edtRec es k).ax, .int .i64 (gx edtRec es k).aY] 54)) := (Below.refl _ _).alloc (Nat.le_refl _) _
      have hoX := OwnRow.below ho hX (Nat.le_refl _)
      have hbX := hb.trans (hX.mono hb.size)
      cases hf : fitsB (fitSt l es k).1 n ⟨(gx edtRec es k).bx, (gx edtRec es k).bY⟩ ⟨(gx edtRec es k).ax, (gx edtRec es k).aY⟩
      · have hr2 := Lib.hid (fitSt_no hn hf)
        have hm := rMove_no hf
        clear hn p0 p11
        go_wp2_with fail
        refine (edApply_any _ (fitSt l es k).1 (gx edtRec es k).e n (gx edtRec es k).bx (gx edtRec es k).bY (gx edtRec es k).ax (gx edtRec es k).aY _ hoX.reads (by omega) (by omega)).mono ?_; rintro e w3 ⟨x3, he3, ox3, b3⟩
        rw [hm] at he3
        subst he3
        have ho3 := OwnRow.below hoX b3 (Nat.le_refl _)
        clear hm
        have hu3 := OwnInts.below (OwnInts.below hu hX (Nat.le_refl _)) b3 (Nat.le_refl _)
        have hv3 := OwnInts.below (OwnInts.below hv hX (Nat.le_refl _)) b3 (Nat.le_refl _)
        have hb3 := hbX.next (Nat.le_refl _) b3
        go_wp2_with (at_builtin; refine wp_app_int _ rfl _ _ rfl w.heap.size _ (fitSt l es k).2.2 rfl hv3 (k : Int) _ rfl rfl h8 hb3.size ?_; intro v5 w5 hv5 hg5)
        have ho5 := atv.symm.keepR ho3 hg5
        have hu5 := auv.symm.keepI hu3 hg5
        have atv5 := (atv.symm.grew ho3 hg5).symm
        have auv5 := (auv.symm.grew hu3 hg5).symm
        go_roundw
        case rel => exact ⟨k + 1, by omega, by go_num, by rw [hr2.out]; exact ho5, by rw [hr2.out]; exact hu5, by rw [hr2.out]; exact hv5, atu, atv5, auv5, hb3.trans hg5.below⟩
        case measure => simp [intOf]; omega
      · have hr2 := Lib.hid (fitSt_yes hn hf)
        have hnl := fits_lt hf
        have hm := rMove_yes hf
        have hls2 : ((fitSt l es k).1.set n ⟨(gx edtRec es k).ax, (gx edtRec es k).aY⟩).length ≤ 12 := by rw [List.length_set]; exact hcl
        clear hn p0 p11
        go_wp2_with fail
        refine (edApply_any _ (fitSt l es k).1 (gx edtRec es k).e n (gx edtRec es k).bx (gx edtRec es k).bY (gx edtRec es k).ax (gx edtRec es k).aY _ hoX.reads (by omega) (by omega)).mono ?_; rintro e w3 ⟨x3, he3, ox3, b3⟩
        rw [hm] at he3 ox3
        subst he3
        have ox4 := Lib.hid (OwnRow.lo ox3 hbX.size)
        have hu3 := OwnInts.below (OwnInts.below hu hX (Nat.le_refl _)) b3 (Nat.le_refl _)
        have hv3 := OwnInts.below (OwnInts.below hv hX (Nat.le_refl _)) b3 (Nat.le_refl _)
        have hb3 := hbX.next (Nat.le_refl _) b3
        have nu : Apt x3 u8 := fun g g1 g2 => by have q1 := (World.ownsRow.lt ox3 g g1).1; have q2 := (World.ownsRow.lt (OwnInts.below hu hX (Nat.le_refl _)) g g2).2; omega
        have nv : Apt x3 u9 := fun g g1 g2 => by have q1 := (World.ownsRow.lt ox3 g g1).1; have q2 := (World.ownsRow.lt (OwnInts.below hv hX (Nat.le_refl _)) g g2).2; omega
        clear hm ox3
        go_wp2_with (at_builtin; refine wp_app_int _ rfl _ _ rfl w.heap.size _ (fitSt l es k).2.1 rfl hu3 (k : Int) _ rfl rfl h9 hb3.size ?_; intro v5 w5 hu5 hg5)
        have ho5 := nu.symm.keepR ox4.out hg5
        have hv5 := auv.keepI hv3 hg5
        have nu5 := (nu.symm.grew ox4.out hg5).symm
        have auv5 := auv.grew hv3 hg5
        go_roundw
        case rel => exact ⟨k + 1, by omega, by go_num, by rw [hr2.out]; exact ho5, by rw [hr2.out]; exact hu5, by rw [hr2.out]; exact hv5, nu5, nv, auv5, hb3.trans hg5.below⟩
        case measure => simp [intOf]; omega
    · obtain rfl : k = es.length := by omega
      go_wp2_with fail
      go_ret3
      exact ⟨_, _, _, rfl, ho, hu, hv, atu, atv, auv, hb⟩
end Go.Proofs.Ytnkbopnmfoplfaa
