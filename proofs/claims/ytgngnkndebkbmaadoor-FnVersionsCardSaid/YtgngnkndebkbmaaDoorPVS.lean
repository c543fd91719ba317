/- Contract of ParseVersions in the reference. -/
import Derived.Test.YtgngnkndebkbmaaDoorPVW
import Derived.Test.YtgngnkndebkbmaaDoorVText
set_option linter.unusedSimpArgs false
set_option linter.unusedVariables false
namespace Go.Proofs.YtgngnkndebkbmaaDoor
open Go.RowKit

theorem rPVs_no1 {s : ByteArray} (h : 61 < (splB 10 s).length) : rPVs s = ([], false) := by unfold rPVs; rw [if_neg (by omega)]
theorem rPVs_no2 {s : ByteArray} {L : List ByteArray} (hL : L = (splB 10 s).take ((splB 10 s).length - 1)) (h : optMap svLine L = none) : rPVs s = ([], false) := by
  unfold rPVs
  rw [← hL, h]; split <;> rfl
theorem rPVs_at {s : ByteArray} {L : List ByteArray} {out : List Ver} (h1 : (splB 10 s).length ≤ 61) (hL : L = (splB 10 s).take ((splB 10 s).length - 1)) (h : optMap svLine L = some out) :
    rPVs s = if areVers out && decide (vText out out.length = s) then (out, true) else ([], false) := by
  unfold rPVs
  rw [if_pos h1, ← hL, h]
theorem svLine_no {x : ByteArray} (h : (splB 32 x).length ≠ 3) : svLine x = none := by
  unfold svLine
  split
  · rename_i h2; rw [h2] at h; exact absurd rfl h
  · rfl
theorem svLine_yes {x : ByteArray} {W : List ByteArray} (hW : W = splB 32 x) (h : W.length = 3) : svLine x = some ⟨rdR (gx strRec W 0), rdR (gx strRec W 1), rdR (gx strRec W 2)⟩ := by
  unfold svLine
  rw [← hW]
  match W, h with
  | [a, b, d], _ => rfl
set_option maxRecDepth 100000 in
set_option maxHeartbeats 6400000 in
theorem specParseVersions (s : ByteArray) (m : Int) (w : World) (hm : MaxW w m) (hs : s.size ≤ 4194304) :
    Calls Tryd.prog 20 #[.string s] w (FreshVersB w (rPVs s)) := by
  have CS := Lib.hid (l1Split_any s 10 10 rfl w hs)
  have hlen := splB_len 10 s
  obtain ⟨hlen1, hlen2⟩ := hlen
  have hgs := Lib.hid (fun i (h : i < (splB 10 s).length) => gx_size h)
  obtain ⟨P, hP⟩ : ∃ P, P = splB 10 s := ⟨_, rfl⟩
  rw [← hP] at CS hlen1 hlen2 hgs
  have HP := Lib.hid hP
  clear hP
  by_cases hbig : 61 < P.length
  · have hr := Lib.hid (rPVs_no1 (s := s) (by rw [← HP.out]; exact hbig))
    go_enter Tryd.func20, Tryd.ntmps20
    go_wp2_with fail
    refine CS.out.mono ?_; rintro e w1 ⟨v, rfl, o1, b1⟩
    obtain ⟨A, c, rfl, hnc, hcc⟩ := o1.reads.shape
    go_wp2_with fail
    go_ret2
    exact ⟨_, by rw [hr.out]; rfl, by rw [hr.out]; exact OwnRow.nil_ verRec _ _, b1⟩
  · obtain ⟨j, hj⟩ : ∃ j, P.length = j + 1 := ⟨P.length - 1, by omega⟩
    have hj1 : IntKind.i64.wrap ((P.length : Int) - 1) = (j : Int) := by rw [hj]; exact (IntWalk.i64_in _ (by omega)).trans (by omega)
    have hj2 : (P.length : Int) - 1 = (j : Int) := by omega
    obtain ⟨L, hL⟩ : ∃ L, L = P.take j := ⟨_, rfl⟩
    have hLl : L.length = j := by rw [hL, List.length_take]; omega
    have HL : Hid (L = (splB 10 s).take ((splB 10 s).length - 1)) := by show _ = _; rw [hL, ← HP.out, hj, Nat.add_sub_cancel]
    have hgL := Lib.hid (fun i (h : i < L.length) => (show (gx strRec L i).size ≤ s.size from by
      have h9 : gx strRec L i = gx strRec P i := by rw [gx_eq h, gx_eq (by omega)]; simp [hL]
      rw [h9]; exact hgs.out i (by omega)))
    have h61 : P.length ≤ 61 := by omega
    have Hj := Lib.hid hj
    have HLP := Lib.hid hL
    clear hj hL hgs
    go_enter Tryd.func20, Tryd.ntmps20
    go_wp2_with fail
    refine CS.out.mono ?_; rintro e w1 ⟨v, rfl, o1, b1⟩
    obtain ⟨A, c, rfl, hnc, hcc⟩ := o1.reads.shape
    have hjP : j ≤ P.length := by have := Hj.out; omega
    have hr1 := RowAt.take o1.reads j hjP
    rw [← HLP.out] at hr1
    have hjc : j ≤ c := by omega
    clear CS
    go_wp2_with fail
    go_loopg [5, 20] j (fun g t i wr => ∃ (n : Nat) (out : List Ver), n ≤ j ∧ j ≤ n + g ∧ i = .int .i64 n ∧ Hid (optMap svLine (L.take n) = some out) ∧ out.length ≤ n ∧ OwnRow verRec wr w1.heap.size t out ∧ Below w1.heap.size w1 wr)
    case atStart => exact ⟨0, [], Nat.zero_le _, by omega, rfl, rfl, Nat.le_refl _, OwnRow.nil_ verRec _ _, Below.refl _ _⟩
    case round =>
      obtain ⟨n, out, hn, hng, rfl, hi, hl, ho, hb⟩ := hrel
      by_cases hlt : n < j
      · have hltL : n < L.length := by omega
        obtain ⟨b, q, rfl, hc⟩ := str_at (hr1.below hb (Nat.le_refl _)) n hltL
        have hi0 : (0 : Int) ≤ (n : Int) := by omega
        have hi1 : (n : Int) < (j : Int) := by omega
        have hq := Lib.hid (take_succ_gx strRec L n hltL)
        have hmem := Lib.hid (gx_mem (R := strRec) hltL)
        have hsz := hgL.out n hltL
        obtain ⟨x, hx⟩ : ∃ x, x = gx strRec L n := ⟨_, rfl⟩
        rw [← hx] at hc hq hmem hsz
        clear hx
        have CW := Lib.hid (l1Split_any x 32 32 rfl wr (by omega))
        have hwl := splB_len 32 x
        obtain ⟨hwl1, hwl2⟩ := hwl
        have hwg := Lib.hid (fun i (h : i < (splB 32 x).length) => gx_size h)
        obtain ⟨W, hW⟩ : ∃ W, W = splB 32 x := ⟨_, rfl⟩
        rw [← hW] at CW hwl1 hwl2 hwg
        have HW := Lib.hid hW
        clear hW
        have hbk := b1.next (Nat.le_refl _) hb
        by_cases hne : W.length = 3
        · have hy : Hid (optMap svLine (L.take (n + 1)) = some (out ++ [⟨rdR (gx strRec W 0), rdR (gx strRec W 1), rdR (gx strRec W 2)⟩])) := by
            show _ = _
            rw [hq.out]
            exact optMap_snoc hi.out (svLine_yes HW.out hne)
          have z0 := hwg.out 0 (by omega)
          have z1 := hwg.out 1 (by omega)
          have z2 := hwg.out 2 (by omega)
          obtain ⟨x0, hx0⟩ : ∃ z, z = gx strRec W 0 := ⟨_, rfl⟩
          obtain ⟨x1, hx1⟩ : ∃ z, z = gx strRec W 1 := ⟨_, rfl⟩
          obtain ⟨x2, hx2⟩ : ∃ z, z = gx strRec W 2 := ⟨_, rfl⟩
          rw [← hx0, ← hx1, ← hx2] at hy
          rw [← hx0] at z0
          rw [← hx1] at z1
          rw [← hx2] at z2
          have Hx0 := Lib.hid hx0
          have Hx1 := Lib.hid hx1
          have Hx2 := Lib.hid hx2
          clear hx0 hx1 hx2 hwg hmem
          have CR : Hid (∀ (z : ByteArray) W, z.size ≤ x.size → Calls Tryd.prog 53 #[.string z] W fun e w' => e = .returned (.int .i64 (rdR z)) ∧ W = w') := fun z W hz => l1Read_any z W (by omega)
          go_wp2_with fail
          refine CW.out.mono ?_; rintro e w2 ⟨v2, rfl, o2, b2⟩
          obtain ⟨B, d, rfl, hnd, hdd⟩ := o2.reads.shape
          obtain ⟨bb, q2, rfl, hs0⟩ := str_at o2.reads 0 (by omega)
          obtain ⟨_, _, he1, hs1⟩ := str_at o2.reads 1 (by omega)
          injection he1 with he1; injection he1 with e1 e2; subst e1 e2
          obtain ⟨_, _, he1, hs2⟩ := str_at o2.reads 2 (by omega)
          injection he1 with he1; injection he1 with e1 e2; subst e1 e2
          rw [← Hx0.out] at hs0
          rw [← Hx1.out] at hs1
          rw [← Hx2.out] at hs2
          replace hs0 : w2.cell? ⟨bb, q2, none⟩ = some (.string x0) := hs0
          have hw0 : (0 : Int) < (W.length : Int) := by omega
          have hw1 : (1 : Int) < (W.length : Int) := by omega
          have hw2 : (2 : Int) < (W.length : Int) := by omega
          have hw3 : (W.length : Int) = 3 := by omega
          have ho3 := ho.below b2 (Nat.le_refl _)
          have h9 : out.length + 1 ≤ 1099511627776 := by omega
          have hb3 := hb.next (Nat.le_refl _) b2
          have hsz3 := hb3.size
          clear CW hq hi
          go_upto_region 11 with fail
          go_region_law (first
            | (refine step_app_rec verRec w2.drew (by rfl) _ _ 23 _ _ Tryd.underlying23 info_ver3 rfl (by omega) (by rfl) w1.heap.size _ out (by rfl) (OwnRow.drewN ho3 1) ⟨rdR x0, rdR x1, rdR x2⟩ _ rfl _ _ rfl (by rfl) rfl h9 hsz3 ?_; intro x9 w5 ho1 hg1)
            | (go_simp; go_at_call 53; refine (CR.out _ _ (by assumption)).mono ?_; rintro e _ ⟨rfl, rfl⟩))
          all_goals go_wp2_with fail
          all_goals go_roundg (gk - 1)
          all_goals (first | (refine ⟨n + 1, _, ?_, ?_, ?_, hy, ?_, ho1, hb3.drew.trans hg1.below⟩ <;> (first | omega | go_num | (simp; omega))) | omega)
        · have hr9 := Lib.hid (rPVs_no2 (s := s) HL.out (optMap_none hmem.out (svLine_no (by rw [← HW.out]; exact hne))))
          have hb9 : ((W.length : Int) != 3) = true := by simp; omega
          go_wp2_with fail
          refine CW.out.mono ?_; rintro e w2 ⟨v2, rfl, o2, b2⟩
          obtain ⟨B, d, rfl, hnd, hdd⟩ := o2.reads.shape
          go_wp2_with fail
          go_ret2
          exact ⟨_, by rw [hr9.out]; rfl, by rw [hr9.out]; exact OwnRow.nil_ verRec _ _, hbk.next (Nat.le_refl _) b2⟩
      · obtain rfl : n = j := by omega
        have hfin := Lib.hid (rPVs_at (s := s) (by rw [← HP.out]; exact h61) HL.out (by have := hi.out; rw [← hLl, List.take_length] at this; exact this))
        have CA := Lib.hid (vrGood_any _ out wr ho.reads)
        have hbk := b1.next (Nat.le_refl _) hb
        cases hv : areVers out
        · rw [hv] at CA hfin
          go_wp2_with fail
          refine CA.out.mono ?_; rintro e w4 ⟨rfl, b4⟩
          go_wp2_with fail
          go_ret2
          exact ⟨_, by rw [hfin.out]; rfl, by rw [hfin.out]; exact OwnRow.nil_ verRec _ _, hbk.next (Nat.le_refl _) b4⟩
        · rw [hv] at CA hfin
          have hvs := vText_size hv out.length (Nat.le_refl _)
          have h60 := (areVers_parts hv).2.1
          have Hv := Lib.hid hv
          clear hv
          go_wp2_with fail
          refine CA.out.mono ?_; rintro e w4 ⟨rfl, b4⟩
          have CT := Lib.hid (vrText_any _ out w4 (ho.below b4 (Nat.le_refl _)).reads Hv.out)
          have hfb := hbk.next (Nat.le_refl _) b4
          have ho4 := ho.below b4 (Nat.le_refl _)
          by_cases heq : vText out out.length = s
          · rw [heq] at CT
            have hbe : (s.toList == s.toList) = true := by simp
            rw [decide_eq_true heq] at hfin
            clear heq
            go_wp2_with fail
            refine CT.out.mono ?_; rintro e w5 ⟨rfl, b5⟩
            go_wp2_with fail
            go_ret2
            exact ⟨_, by rw [hfin.out]; rfl, by rw [hfin.out]; exact OwnRow.lo (ho4.below b5 (Nat.le_refl _)) b1.size, hfb.next (Nat.le_refl _) b5⟩
          · have hbe := ba_beq_f heq
            rw [decide_eq_false heq] at hfin
            obtain ⟨T, hT⟩ : ∃ T, T = vText out out.length := ⟨_, rfl⟩
            rw [← hT] at CT hbe
            clear heq hT
            go_wp2_with fail
            refine CT.out.mono ?_; rintro e w5 ⟨rfl, b5⟩
            go_wp2_with fail
            go_ret2
            exact ⟨_, by rw [hfin.out]; rfl, by rw [hfin.out]; exact OwnRow.nil_ verRec _ _, hfb.next (Nat.le_refl _) b5⟩
end Go.Proofs.YtgngnkndebkbmaaDoor
