/- Contracts of ParseVersions, in the program and in the reference. -/
import Derived.Test.YtgngnkndebkbmaaDoorPV
import Derived.Deep.RegionLaw
set_option linter.unusedSimpArgs false
set_option linter.unusedVariables false
namespace Go.Proofs.YtgngnkndebkbmaaDoor
open Go.RowKit

theorem rPVi_no1 {s : ByteArray} (h : (lnR s).2 = false) : rPVi s = ([], false) := by unfold rPVi; rw [h]; rfl
theorem rPVi_no2 {s : ByteArray} (h : 60 < (lnR s).1.length) : rPVi s = ([], false) := by
  unfold rPVi
  rw [decide_eq_false (by omega)]; simp
theorem rPVi_no3 {s : ByteArray} (h : optMap pvLine (lnR s).1 = none) : rPVi s = ([], false) := by
  unfold rPVi
  rw [h]; split <;> rfl
theorem rPVi_at {s : ByteArray} {out : List Ver} (h1 : (lnR s).2 = true) (h2 : (lnR s).1.length ≤ 60) (h : optMap pvLine (lnR s).1 = some out) : rPVi s = if areVers out then (out, true) else ([], false) := by
  unfold rPVi
  rw [h, h1, decide_eq_true h2]; rfl
theorem pvLine_1 {s : ByteArray} (h : (cutR s).2.2 = false) : pvLine s = none := by unfold pvLine; rw [h]; rfl
theorem pvLine_2 {s : ByteArray} (h : (parR (cutR s).1).2 = false) : pvLine s = none := by unfold pvLine; rw [h]; simp
theorem pvLine_3 {s : ByteArray} (h : (numR (cutR s).2.1 2).2 = false) : pvLine s = none := by unfold pvLine; rw [h]; simp
theorem pvLine_y {s : ByteArray} {B D : Nat} (h1 : (cutR s).2.2 = true) (h2 : (parR (cutR s).1).2 = true) (h3 : (numR (cutR s).2.1 2).2 = true) (h4 : (numR (cutR s).2.1 2).1 = [(B : Int), (D : Int)]) : pvLine s = some ⟨(parR (cutR s).1).1, B, D⟩ := by
  unfold pvLine; rw [h1, h2, h3, h4]; rfl
theorem parR_dash : parR ⟨#[45]⟩ = (-1, true) := by unfold parR; rw [if_pos rfl]
theorem parR_num {a : ByteArray} (h : a ≠ ⟨#[45]⟩) : parR a = (((natR a).1 : Int), (natR a).2) := by unfold parR; rw [if_neg h]
theorem lnR_part {s : ByteArray} {i : Nat} (h : i < (lnR s).1.length) : (gx strRec (lnR s).1 i).size ≤ s.size := by
  unfold lnR at h ⊢
  split at h
  · simp at h
  · split at h
    · rename_i h0 h1
      rw [if_neg h0, if_pos h1]
      exact Nat.le_trans (gx_size h) (extract_size s _)
    · simp at h
theorem ba_dash {a : ByteArray} (h : a ≠ ⟨#[45]⟩) : (a.toList == [45]) = false := by
  cases hc : (a.toList == [45]) with
  | false => rfl
  | true => exact absurd (ba_eq (by rw [ByteArray.toList_eq, beq_iff_eq] at hc; exact hc)) h
theorem ba_beq_f {a b : ByteArray} (h : a ≠ b) : (a.toList == b.toList) = false := by
  cases hc : (a.toList == b.toList) with
  | false => rfl
  | true => exact absurd (bytes_eq hc) h
set_option maxRecDepth 100000 in
set_option maxHeartbeats 6400000 in
theorem implParseVersions (s : ByteArray) (m : Int) (w : World) (hm : MaxW w m) (hs : s.size ≤ 4194304) :
    Calls Tryd.prog 19 #[.string s] w (FreshVersB w (rPVs s)) := by
  have HE := Lib.hid (rPV_eq s)
  have CL := Lib.hid (linesOf_any s m w hm hs)
  have hgs := Lib.hid (fun i (h : i < (lnR s).1.length) => lnR_part h)
  obtain ⟨L, hL⟩ : ∃ L, L = (lnR s).1 := ⟨_, rfl⟩
  unfold FreshStrsB9 at CL
  rw [← hL] at CL hgs
  have HL := Lib.hid hL
  clear hL
  cases h2 : (lnR s).2
  · have hr := Lib.hid (rPVi_no1 h2)
    rw [h2] at CL
    go_enter Tryd.func19, Tryd.ntmps19
    go_wp2_with fail
    refine CL.out.mono ?_; rintro e w1 ⟨v, rfl, o1, b1⟩
    go_wp2_with fail
    go_ret2
    exact ⟨_, by rw [← HE.out, hr.out]; rfl, by rw [← HE.out, hr.out]; exact OwnRow.nil_ verRec _ _, b1⟩
  · rw [h2] at CL
    have H2 := Lib.hid h2
    clear h2
    by_cases hbig : 60 < L.length
    · have hr := Lib.hid (rPVi_no2 (s := s) (by rw [← HL.out]; exact hbig))
      go_enter Tryd.func19, Tryd.ntmps19
      go_wp2_with fail
      refine CL.out.mono ?_; rintro e w1 ⟨v, rfl, o1, b1⟩
      obtain ⟨A, c, rfl, hnc, hcc⟩ := o1.reads.shape
      go_wp2_with fail
      go_ret2
      exact ⟨_, by rw [← HE.out, hr.out]; rfl, by rw [← HE.out, hr.out]; exact OwnRow.nil_ verRec _ _, b1⟩
    · have h60 : L.length ≤ 60 := by omega
      go_enter Tryd.func19, Tryd.ntmps19
      go_wp2_with fail
      refine CL.out.mono ?_; rintro e w1 ⟨v, rfl, o1, b1⟩
      obtain ⟨A, c, rfl, hnc, hcc⟩ := o1.reads.shape
      have hr1 := o1.reads
      have hm1 := hm.below b1 (Nat.le_refl _)
      have hE := OwnRow.empty verRec w1 w1.heap.size (Nat.le_refl _)
      have hbE := (Below.refl w1.heap.size w1).alloc (Nat.le_refl _) (.cells #[] 38)
      clear CL hm
      go_wp2_with fail
      go_loopg [6, 31] L.length (fun g t i wr => ∃ (n : Nat) (out : List Ver), n ≤ L.length ∧ L.length ≤ n + g ∧ i = .int .i64 n ∧ Hid (optMap pvLine (L.take n) = some out) ∧ out.length ≤ n ∧ OwnRow verRec wr w1.heap.size t out ∧ Below w1.heap.size w1 wr)
      case atStart => exact ⟨0, [], Nat.zero_le _, by omega, rfl, rfl, Nat.le_refl _, hE, hbE⟩
      case round =>
        obtain ⟨n, out, hn, hng, rfl, hi, hl, ho, hb⟩ := hrel
        by_cases hlt : n < L.length
        · obtain ⟨b, q, rfl, hc⟩ := str_at (hr1.below hb (Nat.le_refl _)) n hlt
          have hi0 : (0 : Int) ≤ (n : Int) := by omega
          have hi1 : (n : Int) < (L.length : Int) := by omega
          have hq := Lib.hid (take_succ_gx strRec L n hlt)
          have hmem := Lib.hid (gx_mem (R := strRec) hlt)
          have hsz := hgs.out n hlt
          obtain ⟨x, hx⟩ : ∃ x, x = gx strRec L n := ⟨_, rfl⟩
          rw [← hx] at hc hq hmem hsz
          clear hx
          have hmr := hm1.below hb (Nat.le_refl _)
          have CC := Lib.hid (cut_any x m wr hmr (by omega))
          have hcs := cutR_size x
          obtain ⟨hc1, hc2⟩ := hcs
          obtain ⟨a, ha⟩ : ∃ a, a = (cutR x).1 := ⟨_, rfl⟩
          obtain ⟨r, hr⟩ : ∃ a, a = (cutR x).2.1 := ⟨_, rfl⟩
          obtain ⟨f, hf⟩ : ∃ a, a = (cutR x).2.2 := ⟨_, rfl⟩
          have HA := Lib.hid ha
          have HR := Lib.hid hr
          have HF := Lib.hid hf
          rw [← ha, ← hr, ← hf] at CC
          rw [← ha] at hc1
          rw [← hr] at hc2
          clear ha hr hf
          have hbk := b1.next (Nat.le_refl _) hb
          have none_of : pvLine x = none → rPVi s = ([], false) := fun h9 => rPVi_no3 (by rw [← HL.out]; exact optMap_none hmem.out h9)
          have NO := Lib.hid none_of
          clear none_of hgs hmem
          have hmW := Lib.hid (fun W (hW : Below wr.heap.size wr W) => hmr.below hW (Nat.le_refl _))
          clear hmr
          have CP : Hid (∀ W, Below wr.heap.size wr W → a ≠ ⟨#[45]⟩ → Calls Tryd.prog 50 #[.string a] W fun e w' => e = .returned (.tuple #[.int .i64 ((natR a).1 : Nat), .bool (natR a).2]) ∧ W = w') := fun W _ _ => natural_any a W (by omega)
          have CNm : Hid (∀ W, Below wr.heap.size wr W → Calls Tryd.prog 51 #[.string r, .int .i64 2] W (FreshIntsB W (numR r 2))) := fun W hW => numbersIn_any r 2 m W (hmW.out W hW) (by omega) (by omega)
          by_cases hd : a = ⟨#[45]⟩
          · subst hd
            have hpr := Lib.hid parR_dash
            clear CP
            go_wp2_with fail
            refine CC.out.mono ?_; rintro e w2 ⟨rfl, b2⟩
            have CNb := Lib.hid (CNm.out w2 b2)
            clear CNm CC
            obtain ⟨ns, hns⟩ : ∃ z, z = (numR r 2).1 := ⟨_, rfl⟩
            obtain ⟨fine, hfine⟩ : ∃ z, z = (numR r 2).2 := ⟨_, rfl⟩
            unfold FreshIntsB at CNb
            rw [← hns, ← hfine] at CNb
            have HN := Lib.hid hns
            have HFi := Lib.hid hfine
            clear hns hfine
            go_wp2_with fail
            refine CNb.out.mono ?_; rintro e w3 ⟨vn, rfl, on, b3⟩
            clear CNb
            have b23 := b2.next (Nat.le_refl _) b3
            have bk3 := hbk.next (Nat.le_refl _) b23
            cases f
            case false =>
              have hr9 := Lib.hid (NO.out (pvLine_1 HF.out.symm))
              go_wp2_with fail
              go_ret2
              exact ⟨_, by rw [← HE.out, hr9.out]; rfl, by rw [← HE.out, hr9.out]; exact OwnRow.nil_ verRec _ _, bk3⟩
            case true =>
            cases fine
            case false =>
              have hr9 := Lib.hid (NO.out (pvLine_3 (by rw [← HR.out]; exact HFi.out.symm)))
              go_wp2_with fail
              go_ret2
              exact ⟨_, by rw [← HE.out, hr9.out]; rfl, by rw [← HE.out, hr9.out]; exact OwnRow.nil_ verRec _ _, bk3⟩
            case true =>
            obtain ⟨B, D, hBD, _⟩ := numR_inv (r := r) HFi.out.symm
            rw [← HN.out] at hBD
            subst hBD
            have hy : Hid (optMap pvLine (L.take (n + 1)) = some (out ++ [⟨-1, B, D⟩])) := by
              show _ = _
              rw [hq.out]
              have h9 := pvLine_y (s := x) HF.out.symm (by rw [← HA.out, hpr.out]) (by rw [← HR.out]; exact HFi.out.symm) (by rw [← HR.out]; exact HN.out.symm)
              rw [← HA.out, hpr.out] at h9
              exact optMap_snoc hi.out h9
            obtain ⟨An, cn, rfl, _, _⟩ := on.reads.shape
            obtain ⟨bn, on_, rfl, hn0⟩ := on.reads.at_ 0 (by show 0 < 2; omega)
            obtain ⟨bn2, on2_, he2, hn1⟩ := on.reads.at_ 1 (by show 1 < 2; omega)
            injection he2 with he2; injection he2 with he2 he3; subst he2 he3
            replace hn0 : w3.cell? ⟨bn, on_, none⟩ = some (.int .i64 (B : Nat)) := hn0
            replace hn1 : w3.cell? ⟨bn, on_ + 1, none⟩ = some (.int .i64 (D : Nat)) := hn1
            have ho3 := ho.below b23 (Nat.le_refl _)
            have h9 : out.length + 1 ≤ 1099511627776 := by omega
            have hb3 := hb.next (Nat.le_refl _) b23
            have hsz3 := hb3.size
            clear NO HF HA HR HFi HN hpr hq
            go_upto_region 15 with fail
            go_region_law (refine step_app_rec verRec w3.drew (by rfl) _ _ 23 _ _ Tryd.underlying23 info_ver3 rfl (by omega) (by rfl) w1.heap.size _ out (by rfl) (OwnRow.drewN ho3 1) ⟨-1, B, D⟩ _ rfl _ _ rfl (by rfl) rfl h9 hsz3 ?_; intro x1 w5 ho1 hg1)
            all_goals go_wp2_with fail
            all_goals go_roundg (gk - 1)
            all_goals (first | (refine ⟨n + 1, _, ?_, ?_, ?_, hy, ?_, ho1, hb3.drew.trans hg1.below⟩ <;> (first | omega | go_num | (simp; omega))) | omega)
          · have hne := ba_dash hd
            have hpr := Lib.hid (parR_num hd)
            have CPa := Lib.hid (fun W (hW : Below wr.heap.size wr W) => CP.out W hW hd)
            have hzb := natR_bd a
            obtain ⟨Z, hZ⟩ : ∃ Z, Z = (natR a).1 := ⟨_, rfl⟩
            obtain ⟨gd, hgd⟩ : ∃ Z, Z = (natR a).2 := ⟨_, rfl⟩
            rw [← hZ, ← hgd] at CPa hpr
            rw [← hZ] at hzb
            clear hZ hgd CP
            go_wp2_with fail
            refine CC.out.mono ?_; rintro e w2 ⟨rfl, b2⟩
            have CPb := Lib.hid (CPa.out w2 b2)
            clear CPa
            go_wp2_with fail
            refine CPb.out.mono ?_; rintro e _ ⟨rfl, rfl⟩
            have CNb := Lib.hid (CNm.out w2 b2)
            clear CNm CC
            obtain ⟨ns, hns⟩ : ∃ z, z = (numR r 2).1 := ⟨_, rfl⟩
            obtain ⟨fine, hfine⟩ : ∃ z, z = (numR r 2).2 := ⟨_, rfl⟩
            unfold FreshIntsB at CNb
            rw [← hns, ← hfine] at CNb
            have HN := Lib.hid hns
            have HFi := Lib.hid hfine
            clear hns hfine
            go_wp2_with fail
            refine CNb.out.mono ?_; rintro e w3 ⟨vn, rfl, on, b3⟩
            clear CNb
            have b23 := b2.next (Nat.le_refl _) b3
            have bk3 := hbk.next (Nat.le_refl _) b23
            cases f
            case false =>
              have hr9 := Lib.hid (NO.out (pvLine_1 HF.out.symm))
              go_wp2_with fail
              go_ret2
              exact ⟨_, by rw [← HE.out, hr9.out]; rfl, by rw [← HE.out, hr9.out]; exact OwnRow.nil_ verRec _ _, bk3⟩
            case true =>
            cases gd
            case false =>
              have hr9 := Lib.hid (NO.out (pvLine_2 (by rw [← HA.out, hpr.out])))
              go_wp2_with fail
              go_ret2
              exact ⟨_, by rw [← HE.out, hr9.out]; rfl, by rw [← HE.out, hr9.out]; exact OwnRow.nil_ verRec _ _, bk3⟩
            case true =>
            cases fine
            case false =>
              have hr9 := Lib.hid (NO.out (pvLine_3 (by rw [← HR.out]; exact HFi.out.symm)))
              go_wp2_with fail
              go_ret2
              exact ⟨_, by rw [← HE.out, hr9.out]; rfl, by rw [← HE.out, hr9.out]; exact OwnRow.nil_ verRec _ _, bk3⟩
            case true =>
            obtain ⟨B, D, hBD, _⟩ := numR_inv (r := r) HFi.out.symm
            rw [← HN.out] at hBD
            subst hBD
            have hy : Hid (optMap pvLine (L.take (n + 1)) = some (out ++ [⟨(Z : Int), B, D⟩])) := by
              show _ = _
              rw [hq.out]
              have h9 := pvLine_y (s := x) HF.out.symm (by rw [← HA.out, hpr.out]) (by rw [← HR.out]; exact HFi.out.symm) (by rw [← HR.out]; exact HN.out.symm)
              rw [← HA.out, hpr.out] at h9
              exact optMap_snoc hi.out h9
            obtain ⟨An, cn, rfl, _, _⟩ := on.reads.shape
            obtain ⟨bn, on_, rfl, hn0⟩ := on.reads.at_ 0 (by show 0 < 2; omega)
            obtain ⟨bn2, on2_, he2, hn1⟩ := on.reads.at_ 1 (by show 1 < 2; omega)
            injection he2 with he2; injection he2 with he2 he3; subst he2 he3
            replace hn0 : w3.cell? ⟨bn, on_, none⟩ = some (.int .i64 (B : Nat)) := hn0
            replace hn1 : w3.cell? ⟨bn, on_ + 1, none⟩ = some (.int .i64 (D : Nat)) := hn1
            have ho3 := ho.below b23 (Nat.le_refl _)
            have h9 : out.length + 1 ≤ 1099511627776 := by omega
            have hb3 := hb.next (Nat.le_refl _) b23
            have hsz3 := hb3.size
            clear NO HF HA HR HFi HN hpr hq
            go_upto_region 15 with fail
            go_region_law (refine step_app_rec verRec w3.drew (by rfl) _ _ 23 _ _ Tryd.underlying23 info_ver3 rfl (by omega) (by rfl) w1.heap.size _ out (by rfl) (OwnRow.drewN ho3 1) ⟨(Z : Int), B, D⟩ _ rfl _ _ rfl (by rfl) rfl h9 hsz3 ?_; intro x1 w5 ho1 hg1)
            all_goals go_wp2_with fail
            all_goals go_roundg (gk - 1)
            all_goals (first | (refine ⟨n + 1, _, ?_, ?_, ?_, hy, ?_, ho1, hb3.drew.trans hg1.below⟩ <;> (first | omega | go_num | (simp; omega))) | omega)
        · obtain rfl : n = L.length := by omega
          have hfin := Lib.hid (rPVi_at (s := s) H2.out (by rw [← HL.out]; exact h60) (by have := hi.out; rw [List.take_length] at this; rw [← HL.out]; exact this))
          have CA := Lib.hid (areVersions_any _ out wr ho.reads)
          cases hv : areVers out
          all_goals
            rw [hv] at CA hfin
            go_wp2_with fail
            refine CA.out.mono ?_; rintro e w4 ⟨rfl, b4⟩
            go_wp2_with fail
            go_ret2
          · exact ⟨_, by rw [← HE.out, hfin.out]; rfl, by rw [← HE.out, hfin.out]; exact OwnRow.nil_ verRec _ _, (b1.next (Nat.le_refl _) hb).next (Nat.le_refl _) b4⟩
          · exact ⟨_, by rw [← HE.out, hfin.out]; rfl, by rw [← HE.out, hfin.out]; exact OwnRow.lo (ho.below b4 (Nat.le_refl _)) b1.size, (b1.next (Nat.le_refl _) hb).next (Nat.le_refl _) b4⟩
end Go.Proofs.YtgngnkndebkbmaaDoor
