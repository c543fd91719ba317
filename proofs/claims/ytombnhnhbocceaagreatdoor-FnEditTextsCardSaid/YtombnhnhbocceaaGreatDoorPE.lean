/- Contract of ParseEdits, in the program. -/
import Derived.Test.YtombnhnhbocceaaGreatDoorEdW
import Derived.Deep.RegionHeld3
set_option linter.unusedSimpArgs false
set_option linter.unusedVariables false
namespace Go.Proofs.YtombnhnhbocceaaGreatDoor
open Go.RowKit

def FreshEdtB (w : World) (r : List Edt × Bool) (e : Ending) (w' : World) : Prop :=
  ∃ v, e = .returned (.tuple #[v, .bool r.2]) ∧ OwnRow edtRec w' w.heap.size v r.1 ∧ Below w.heap.size w w'
theorem rPEi_no1 {s : ByteArray} (h : (lnR s).2 = false) : rPEi s = ([], false) := by unfold rPEi; rw [h]; rfl
theorem rPEi_no2 {s : ByteArray} (h : 30 < (lnR s).1.length) : rPEi s = ([], false) := by
  unfold rPEi
  rw [decide_eq_false (by omega)]; simp
theorem rPEi_no3 {s : ByteArray} (h : optMap peLine (lnR s).1 = none) : rPEi s = ([], false) := by
  unfold rPEi
  rw [h]; split <;> rfl
theorem rPEi_at {s : ByteArray} {out : List Edt} (h1 : (lnR s).2 = true) (h2 : (lnR s).1.length ≤ 30) (h : optMap peLine (lnR s).1 = some out) : rPEi s = if areEdts out then (out, true) else ([], false) := by
  unfold rPEi
  rw [h, h1, decide_eq_true h2]; rfl
theorem peLine_len {x : ByteArray} (h : (splB 32 x).length ≠ 4) : peLine x = none := by
  unfold peLine
  split
  · rename_i h2; rw [h2] at h; exact absurd rfl h
  · rfl
theorem peLine_at {x a b c d : ByteArray} (h : splB 32 x = [a, b, c, d]) : peLine x = if (natR a).2 && (natR b).2 && (psR c).2 && (psR d).2 then some ⟨(natR a).1, (natR b).1, (psR c).1.x, (psR c).1.y, (psR d).1.x, (psR d).1.y⟩ else none := by
  unfold peLine; rw [h]
set_option maxRecDepth 100000 in
set_option maxHeartbeats 6400000 in
theorem implParseEdits (s : ByteArray) (m : Int) (w : World) (hm : MaxW w m) (hs : s.size ≤ 4194304) :
    Calls Tryz.prog 11 #[.string s] w (FreshEdtB w (rPEs s)) := by
  have HE := Lib.hid (rPE_eq s)
  have CL := Lib.hid (linesOf_any s m w hm hs)
  have hgs := Lib.hid (fun i (h : i < (lnR s).1.length) => lnR_part h)
  obtain ⟨L, hL⟩ : ∃ L, L = (lnR s).1 := ⟨_, rfl⟩
  unfold FreshStrsB9 at CL
  rw [← hL] at CL hgs
  have HL := Lib.hid hL
  clear hL
  cases h2 : (lnR s).2
  · have hr := Lib.hid (rPEi_no1 h2)
    rw [h2] at CL
    go_enter Tryz.func11, Tryz.ntmps11
    go_wp2_with fail
    refine CL.out.mono ?_; rintro e w1 ⟨v, rfl, o1, b1⟩
    go_wp2_with fail
    go_ret2
    exact ⟨_, by rw [← HE.out, hr.out]; rfl, by rw [← HE.out, hr.out]; exact OwnRow.nil_ edtRec _ _, b1⟩
  · rw [h2] at CL
    have H2 := Lib.hid h2
    clear h2
    by_cases hbig : 30 < L.length
    · have hr := Lib.hid (rPEi_no2 (s := s) (by rw [← HL.out]; exact hbig))
      go_enter Tryz.func11, Tryz.ntmps11
      go_wp2_with fail
      refine CL.out.mono ?_; rintro e w1 ⟨v, rfl, o1, b1⟩
      obtain ⟨A, c, rfl, hnc, hcc⟩ := o1.reads.shape
      go_wp2_with fail
      go_ret2
      exact ⟨_, by rw [← HE.out, hr.out]; rfl, by rw [← HE.out, hr.out]; exact OwnRow.nil_ edtRec _ _, b1⟩
    · have h30 : L.length ≤ 30 := by omega
      go_enter Tryz.func11, Tryz.ntmps11
      go_wp2_with fail
      refine CL.out.mono ?_; rintro e w1 ⟨v, rfl, o1, b1⟩
      obtain ⟨A, c, rfl, hnc, hcc⟩ := o1.reads.shape
      have hr1 := o1.reads
      have hm1 := hm.below b1 (Nat.le_refl _)
      have hE := OwnRow.empty edtRec w1 w1.heap.size (Nat.le_refl _)
      have hbE := (Below.refl w1.heap.size w1).alloc (Nat.le_refl _) (.cells #[] 39)
      clear CL hm
      go_wp2_with fail
      go_loopg [6, 33] L.length (fun g t i wr => ∃ (n : Nat) (out : List Edt), n ≤ L.length ∧ L.length ≤ n + g ∧ i = .int .i64 n ∧ Hid (optMap peLine (L.take n) = some out) ∧ out.length ≤ n ∧ OwnRow edtRec wr w1.heap.size t out ∧ Below w1.heap.size w1 wr)
      case atStart => exact ⟨0, [], Nat.zero_le _, by omega, rfl, rfl, Nat.le_refl _, hE, hbE⟩
      case round =>
        obtain ⟨n, out, hn, hng, rfl, hi, hl, ho, hb⟩ := hrel
        by_cases hlt : n < L.length
        · obtain ⟨b, q, rfl, hc⟩ := str_at (hr1.below hb (Nat.le_refl _)) n hlt
          have hi0 : (0 : Int) ≤ (n : Int) := by omega
          have hi1 : (n : Int) < (L.length : Int) := by omega
          have hq := Lib.hid (take_succ_gx strRec L n hlt)
          have hmem := Lib.hid (gx_mem (R := strRec) hlt)
          have hsz := hgs.out n hlt
          obtain ⟨x, hx⟩ : ∃ x, x = gx strRec L n := ⟨_, rfl⟩
          rw [← hx] at hc hq hmem hsz
          clear hx
          have hmr := hm1.below hb (Nat.le_refl _)
          have CS := Lib.hid (kSplit_any x ⟨#[32]⟩ 32 m rfl wr hmr (by omega))
          have hwl := splB_len 32 x
          obtain ⟨hwl1, hwl2⟩ := hwl
          have hwg := Lib.hid (fun i (h : i < (splB 32 x).length) => gx_size h)
          have none_of : peLine x = none → rPEi s = ([], false) := fun h9 => rPEi_no3 (by rw [← HL.out]; exact optMap_none hmem.out h9)
          have NO := Lib.hid none_of
          have NL := Lib.hid (fun h => none_of (peLine_len h))
          have PA := Lib.hid (fun a b c d h => peLine_at (x := x) (a := a) (b := b) (c := c) (d := d) h)
          obtain ⟨W, hW⟩ : ∃ W, W = splB 32 x := ⟨_, rfl⟩
          rw [← hW] at CS hwl1 hwl2 hwg NL PA
          clear hW none_of hgs hmem
          have hbk := b1.next (Nat.le_refl _) hb
          by_cases h4 : W.length = 4
          · obtain ⟨x0, x1, x2, x3, rfl⟩ : ∃ a b c d, W = [a, b, c, d] := by
              match W, h4 with
              | [a, b, c, d], _ => exact ⟨a, b, c, d, rfl⟩
            have z0 := hwg.out 0 (by simp)
            have z1 := hwg.out 1 (by simp)
            have z2 := hwg.out 2 (by simp)
            have z3 := hwg.out 3 (by simp)
            replace z0 : x0.size ≤ x.size := z0
            replace z1 : x1.size ≤ x.size := z1
            replace z2 : x2.size ≤ x.size := z2
            replace z3 : x3.size ≤ x.size := z3
            have PB := Lib.hid (PA.out x0 x1 x2 x3 rfl)
            have CA := Lib.hid (fun W => natural_any x0 W (by omega))
            have CB := Lib.hid (fun W => natural_any x1 W (by omega))
            have CC : Hid (∀ W, Below wr.heap.size wr W → Calls Tryz.prog 39 #[.string x2] W (SpotPost W (psR x2))) := fun W hW => parseSpot_any x2 m W (hmr.below hW (Nat.le_refl _)) (by omega)
            have CD : Hid (∀ W, Below wr.heap.size wr W → Calls Tryz.prog 39 #[.string x3] W (SpotPost W (psR x3))) := fun W hW => parseSpot_any x3 m W (hmr.below hW (Nat.le_refl _)) (by omega)
            unfold SpotPost at CC CD
            obtain ⟨n0, hn0⟩ : ∃ z, z = (natR x0).1 := ⟨_, rfl⟩
            obtain ⟨t0, ht0⟩ : ∃ z, z = (natR x0).2 := ⟨_, rfl⟩
            obtain ⟨n1, hn1⟩ : ∃ z, z = (natR x1).1 := ⟨_, rfl⟩
            obtain ⟨t1, ht1⟩ : ∃ z, z = (natR x1).2 := ⟨_, rfl⟩
            obtain ⟨p2, hp2⟩ : ∃ z, z = (psR x2).1.x := ⟨_, rfl⟩
            obtain ⟨q2, hq2⟩ : ∃ z, z = (psR x2).1.y := ⟨_, rfl⟩
            obtain ⟨t2, ht2⟩ : ∃ z, z = (psR x2).2 := ⟨_, rfl⟩
            obtain ⟨p3, hp3⟩ : ∃ z, z = (psR x3).1.x := ⟨_, rfl⟩
            obtain ⟨q3, hq3⟩ : ∃ z, z = (psR x3).1.y := ⟨_, rfl⟩
            obtain ⟨t3, ht3⟩ : ∃ z, z = (psR x3).2 := ⟨_, rfl⟩
            rw [← hn0, ← ht0, ← hn1, ← ht1, ← hp2, ← hq2, ← ht2, ← hp3, ← hq3, ← ht3] at PB
            rw [← hn0, ← ht0] at CA
            rw [← hn1, ← ht1] at CB
            rw [← hp2, ← hq2, ← ht2] at CC
            rw [← hp3, ← hq3, ← ht3] at CD
            clear hn0 ht0 hn1 ht1 hp2 hq2 ht2 hp3 hq3 ht3 PA NL hwg h4
            go_wp2_with fail
            refine CS.out.mono ?_; rintro e w2 ⟨v2, rfl, o2, b2⟩
            obtain ⟨A2, c2, rfl, hnc2, hcc2⟩ := o2.reads.shape
            obtain ⟨bb, qq, rfl, s0⟩ := str_at o2.reads 0 (by simp)
            obtain ⟨_, _, he1, s1⟩ := str_at o2.reads 1 (by simp)
            injection he1 with he1; injection he1 with e1 e2; subst e1 e2
            obtain ⟨_, _, he1, s2⟩ := str_at o2.reads 2 (by simp)
            injection he1 with he1; injection he1 with e1 e2; subst e1 e2
            obtain ⟨_, _, he1, s3⟩ := str_at o2.reads 3 (by simp)
            injection he1 with he1; injection he1 with e1 e2; subst e1 e2
            replace s0 : w2.cell? ⟨bb, qq, none⟩ = some (.string x0) := s0
            replace s1 : w2.cell? ⟨bb, qq + 1, none⟩ = some (.string x1) := s1
            replace s2 : w2.cell? ⟨bb, qq + 2, none⟩ = some (.string x2) := s2
            replace s3 : w2.cell? ⟨bb, qq + 3, none⟩ = some (.string x3) := s3
            simp only [List.length_cons, List.length_nil, Nat.zero_add] at hnc2 ⊢
            clear CS o2 hmr
            go_wp2_with fail
            refine (CA.out _).mono ?_; rintro e _ ⟨rfl, rfl⟩
            go_wp2_with fail
            refine (CB.out _).mono ?_; rintro e _ ⟨rfl, rfl⟩
            have CC2 := Lib.hid (CC.out w2 b2)
            clear CA CB CC
            go_wp2_with fail
            refine CC2.out.mono ?_; rintro e w3 ⟨rfl, b3⟩
            have b23 := b2.next (Nat.le_refl _) b3
            have s33 := Below.keepC b3 s3 (Nat.le_refl _)
            have zN := BoxS.new w3 p2 q2
            have b24 := b23.alloc b23.size (.cells #[.int .i64 p2, .int .i64 q2] 37)
            obtain ⟨w4, hw4⟩ : ∃ W, W = w3.alloc (.cells #[.int .i64 p2, .int .i64 q2] 37) := ⟨_, rfl⟩
            have s34 : w4.cell? ⟨bb, qq + 3, none⟩ = some (.string x3) := by rw [hw4]; exact Below.keepC ((Below.refl w3.heap.size w3).alloc (Nat.le_refl _) _) s33 (Nat.le_refl _)
            rw [← hw4] at zN b24
            have CD2 := Lib.hid (CD.out w4 b24)
            have HW4 := Lib.hid hw4
            clear hw4 s33 CD CC2 s0 s1 s2 s3
            go_upto_region 14 with fail
            rw [← HW4.out]
            go_wp2_with fail
            refine CD2.out.mono ?_; rintro e w5 ⟨rfl, b5⟩
            have b25 := b24.next (Nat.le_refl _) b5
            have zN5 := zN.keep b5 (Nat.le_refl _)
            have zM := BoxS.new w5 p3 q3
            have zN6 := zN5.al (.cells #[.int .i64 p3, .int .i64 q3] 37)
            have b26 := b25.alloc b25.size (.cells #[.int .i64 p3, .int .i64 q3] 37)
            obtain ⟨w6, hw6⟩ : ∃ W, W = w5.alloc (.cells #[.int .i64 p3, .int .i64 q3] 37) := ⟨_, rfl⟩
            rw [← hw6] at zM b26 zN6
            have HW6 := Lib.hid hw6
            clear hw6 CD2 zN zN5 s34
            go_upto_region 15 with fail
            rw [← HW6.out]
            obtain ⟨k0, k1, _, _⟩ := zN6.cells
            obtain ⟨k2, k3, _, _⟩ := zM.cells
            have ho6 := ho.below b26 (Nat.le_refl _)
            have hb6 := hb.next (Nat.le_refl _) b26
            have hbk6 := hbk.next (Nat.le_refl _) b26
            clear ho b2 b3 b23 b24 b5 b25 HW4 HW6
            cases t0
            case false =>
              have hr9 := Lib.hid (NO.out (by rw [PB.out]; simp))
              go_wp2_with fail
              go_ret2
              exact ⟨_, by rw [← HE.out, hr9.out]; rfl, by rw [← HE.out, hr9.out]; exact OwnRow.nil_ edtRec _ _, hbk6⟩
            case true =>
            cases t1
            case false =>
              have hr9 := Lib.hid (NO.out (by rw [PB.out]; simp))
              go_wp2_with fail
              go_ret2
              exact ⟨_, by rw [← HE.out, hr9.out]; rfl, by rw [← HE.out, hr9.out]; exact OwnRow.nil_ edtRec _ _, hbk6⟩
            case true =>
            cases t2
            case false =>
              have hr9 := Lib.hid (NO.out (by rw [PB.out]; simp))
              go_wp2_with fail
              go_ret2
              exact ⟨_, by rw [← HE.out, hr9.out]; rfl, by rw [← HE.out, hr9.out]; exact OwnRow.nil_ edtRec _ _, hbk6⟩
            case true =>
            cases t3
            case false =>
              have hr9 := Lib.hid (NO.out (by rw [PB.out]; simp))
              go_wp2_with fail
              go_ret2
              exact ⟨_, by rw [← HE.out, hr9.out]; rfl, by rw [← HE.out, hr9.out]; exact OwnRow.nil_ edtRec _ _, hbk6⟩
            case true =>
            have hy : Hid (optMap peLine (L.take (n + 1)) = some (out ++ [⟨n0, n1, p2, q2, p3, q3⟩])) := by
              show _ = _
              rw [hq.out]
              exact optMap_snoc hi.out PB.out
            have h9 : out.length + 1 ≤ 1099511627776 := by omega
            have hsz6 := hb6.size
            clear NO PB hq hi
            go_wp2_with (at_builtin; refine wp_app_rec edtRec _ rfl _ _ 24 _ _ Tryz.underlying24 info_edt rfl (by omega) (by rfl) w1.heap.size _ out (by rfl) ho6 ⟨n0, n1, p2, q2, p3, q3⟩ _ rfl _ _ rfl (by rfl) (by rfl) h9 hsz6 ?_; intro v19 w19 ho19 hg19)
            go_roundg (gk - 1)
            case measure => omega
            case rel => exact ⟨n + 1, _, by omega, by omega, by go_num, hy, by simp; omega, ho19, hb6.trans hg19.below⟩
          · have hr9 := Lib.hid (NL.out h4)
            have hb9 : ((W.length : Int) != 4) = true := by simp; omega
            go_wp2_with fail
            refine CS.out.mono ?_; rintro e w2 ⟨v2, rfl, o2, b2⟩
            obtain ⟨A2, c2, rfl, hnc2, hcc2⟩ := o2.reads.shape
            go_wp2_with fail
            go_ret2
            exact ⟨_, by rw [← HE.out, hr9.out]; rfl, by rw [← HE.out, hr9.out]; exact OwnRow.nil_ edtRec _ _, hbk.next (Nat.le_refl _) b2⟩
        · obtain rfl : n = L.length := by omega
          have hfin := Lib.hid (rPEi_at (s := s) H2.out (by rw [← HL.out]; exact h30) (by have := hi.out; rw [List.take_length] at this; rw [← HL.out]; exact this))
          have CA := Lib.hid (areEdits_any _ out wr ho.reads)
          cases hv : areEdts out
          all_goals
            rw [hv] at CA hfin
            go_wp2_with fail
            refine CA.out.mono ?_; rintro e w4 ⟨rfl, b4⟩
            go_wp2_with fail
            go_ret2
          · exact ⟨_, by rw [← HE.out, hfin.out]; rfl, by rw [← HE.out, hfin.out]; exact OwnRow.nil_ edtRec _ _, (b1.next (Nat.le_refl _) hb).next (Nat.le_refl _) b4⟩
          · exact ⟨_, by rw [← HE.out, hfin.out]; rfl, by rw [← HE.out, hfin.out]; exact OwnRow.lo (ho.below b4 (Nat.le_refl _)) b1.size, (b1.next (Nat.le_refl _) hb).next (Nat.le_refl _) b4⟩
end Go.Proofs.YtombnhnhbocceaaGreatDoor
/- Contract of ParseEdits, in the reference. -/
set_option linter.unusedSimpArgs false
set_option linter.unusedVariables false
namespace Go.Proofs.YtombnhnhbocceaaGreatDoor
open Go.RowKit

theorem Grew.cellAt {w w' : World} {base : Nat} {v v' : Value} (h : Grew w w' base v v') {p : Addr} {u : Value} (hc : w.cell? p = some u) (hne : v.ownBlock ≠ some p.block) : w'.cell? p = some u := by
  have hlt := World.block_lt_of_cell? w p hc
  unfold World.cell? at hc ⊢
  rw [h.grown.block p.block hlt (fun e => hne e.symm)]
  exact hc
theorem rPEs_no1 {s : ByteArray} (h : 31 < (splB 10 s).length) : rPEs s = ([], false) := by unfold rPEs; rw [if_neg (by omega)]
theorem rPEs_no2 {s : ByteArray} {L : List ByteArray} (hL : L = (splB 10 s).take ((splB 10 s).length - 1)) (h : optMap seLine L = none) : rPEs s = ([], false) := by
  unfold rPEs
  rw [← hL, h]; split <;> rfl
theorem rPEs_at {s : ByteArray} {L : List ByteArray} {out : List Edt} (h1 : (splB 10 s).length ≤ 31) (hL : L = (splB 10 s).take ((splB 10 s).length - 1)) (h : optMap seLine L = some out) :
    rPEs s = if areEdts out && decide (eText out = s) then (out, true) else ([], false) := by
  unfold rPEs
  rw [if_pos h1, ← hL, h]
theorem seLine_len {x : ByteArray} (h : (splB 32 x).length ≠ 4) : seLine x = none := by
  unfold seLine
  split
  · rename_i h2; rw [h2] at h; exact absurd rfl h
  · rfl
theorem seLine_at {x a b c d : ByteArray} (h : splB 32 x = [a, b, c, d]) : seLine x = if (spR c).2 && (spR d).2 then some ⟨rdR a, rdR b, (spR c).1.x, (spR c).1.y, (spR d).1.x, (spR d).1.y⟩ else none := by
  unfold seLine; rw [h]
set_option maxRecDepth 100000 in
set_option maxHeartbeats 12800000 in
theorem specParseEdits (s : ByteArray) (w : World) (hs : s.size ≤ 4194304) :
    Calls Tryz.prog 22 #[.string s] w (FreshEdtB w (rPEs s)) := by
  have CS := Lib.hid (l1Split_any s 10 10 rfl w hs)
  have hlen := splB_len 10 s
  obtain ⟨hlen1, hlen2⟩ := hlen
  have hgs := Lib.hid (fun i (h : i < (splB 10 s).length) => gx_size h)
  obtain ⟨P, hP⟩ : ∃ P, P = splB 10 s := ⟨_, rfl⟩
  rw [← hP] at CS hlen1 hlen2 hgs
  have HP := Lib.hid hP
  clear hP
  by_cases hbig : 31 < P.length
  · have hr := Lib.hid (rPEs_no1 (s := s) (by rw [← HP.out]; exact hbig))
    go_enter Tryz.func22, Tryz.ntmps22
    go_wp2_with fail
    refine CS.out.mono ?_; rintro e w1 ⟨v, rfl, o1, b1⟩
    obtain ⟨A, c, rfl, hnc, hcc⟩ := o1.reads.shape
    go_wp2_with fail
    go_ret2
    exact ⟨_, by rw [hr.out]; rfl, by rw [hr.out]; exact OwnRow.nil_ edtRec _ _, b1⟩
  · obtain ⟨j, hj⟩ : ∃ j, P.length = j + 1 := ⟨P.length - 1, by omega⟩
    have hj1 : IntKind.i64.wrap ((P.length : Int) - 1) = (j : Int) := by rw [hj]; exact (IntWalk.i64_in _ (by omega)).trans (by omega)
    have hj2 : (P.length : Int) - 1 = (j : Int) := by omega
    obtain ⟨L, hL⟩ : ∃ L, L = P.take j := ⟨_, rfl⟩
    have hLl : L.length = j := by rw [hL, List.length_take]; omega
    have HL : Hid (L = (splB 10 s).take ((splB 10 s).length - 1)) := by show _ = _; rw [hL, ← HP.out, hj, Nat.add_sub_cancel]
    have hgL := Lib.hid (fun i (h : i < L.length) => (show (gx strRec L i).size ≤ s.size from by
      have h9 : gx strRec L i = gx strRec P i := by rw [gx_eq h, gx_eq (by omega)]; simp [hL]
      rw [h9]; exact hgs.out i (by omega)))
    have h31 : P.length ≤ 31 := by omega
    have Hj := Lib.hid hj
    have HLP := Lib.hid hL
    clear hj hL hgs
    go_enter Tryz.func22, Tryz.ntmps22
    go_wp2_with fail
    refine CS.out.mono ?_; rintro e w1 ⟨v, rfl, o1, b1⟩
    obtain ⟨A, c, rfl, hnc, hcc⟩ := o1.reads.shape
    have hjP : j ≤ P.length := by have := Hj.out; omega
    have hr1 := RowAt.take o1.reads j hjP
    rw [← HLP.out] at hr1
    have hjc : j ≤ c := by omega
    clear CS
    go_wp2_with fail
    go_loopg [5, 24] j (fun g t i wr => ∃ (n : Nat) (out : List Edt), n ≤ j ∧ j ≤ n + g ∧ i = .int .i64 n ∧ Hid (optMap seLine (L.take n) = some out) ∧ out.length ≤ n ∧ OwnRow edtRec wr w1.heap.size t out ∧ Below w1.heap.size w1 wr)
    case atStart => exact ⟨0, [], Nat.zero_le _, by omega, rfl, rfl, Nat.le_refl _, OwnRow.nil_ edtRec _ _, Below.refl _ _⟩
    case round =>
      obtain ⟨n, out, hn, hng, rfl, hi, hl, ho, hb⟩ := hrel
      by_cases hlt : n < j
      · have hltL : n < L.length := by omega
        obtain ⟨b, q, rfl, hc⟩ := str_at (hr1.below hb (Nat.le_refl _)) n hltL
        have hi0 : (0 : Int) ≤ (n : Int) := by omega
        have hi1 : (n : Int) < (j : Int) := by omega
        have hq := Lib.hid (take_succ_gx strRec L n hltL)
        have hmem := Lib.hid (gx_mem (R := strRec) hltL)
        have hsz := hgL.out n hltL
        obtain ⟨x, hx⟩ : ∃ x, x = gx strRec L n := ⟨_, rfl⟩
        rw [← hx] at hc hq hmem hsz
        clear hx
        have CW := Lib.hid (l1Split_any x 32 32 rfl wr (by omega))
        have hwl := splB_len 32 x
        obtain ⟨hwl1, hwl2⟩ := hwl
        have hwg := Lib.hid (fun i (h : i < (splB 32 x).length) => gx_size h)
        have none_of : seLine x = none → rPEs s = ([], false) := fun h9 => rPEs_no2 (s := s) HL.out (optMap_none hmem.out h9)
        have NO := Lib.hid none_of
        have NL := Lib.hid (fun h => none_of (seLine_len h))
        have PA := Lib.hid (fun a b c d h => seLine_at (x := x) (a := a) (b := b) (c := c) (d := d) h)
        obtain ⟨W, hW⟩ : ∃ W, W = splB 32 x := ⟨_, rfl⟩
        rw [← hW] at CW hwl1 hwl2 hwg NL PA
        clear hW none_of hmem
        have hbk := b1.next (Nat.le_refl _) hb
        by_cases h4 : W.length = 4
        · obtain ⟨x0, x1, x2, x3, rfl⟩ : ∃ a b c d, W = [a, b, c, d] := by
            match W, h4 with
            | [a, b, c, d], _ => exact ⟨a, b, c, d, rfl⟩
          have z0 := hwg.out 0 (by simp)
          have z1 := hwg.out 1 (by simp)
          have z2 := hwg.out 2 (by simp)
          have z3 := hwg.out 3 (by simp)
          replace z0 : x0.size ≤ x.size := z0
          replace z1 : x1.size ≤ x.size := z1
          replace z2 : x2.size ≤ x.size := z2
          replace z3 : x3.size ≤ x.size := z3
          have PB := Lib.hid (PA.out x0 x1 x2 x3 rfl)
          have CR : Hid (∀ (z : ByteArray) W, z.size ≤ x.size → Calls Tryz.prog 55 #[.string z] W fun e w' => e = .returned (.int .i64 (rdR z)) ∧ W = w') := fun z W hz => l1Read_any z W (by omega)
          have CC : Hid (∀ W, Calls Tryz.prog 54 #[.string x2] W (SpotPost W (spR x2))) := fun W => stParse_any x2 W (by omega)
          have CD : Hid (∀ W, Calls Tryz.prog 54 #[.string x3] W (SpotPost W (spR x3))) := fun W => stParse_any x3 W (by omega)
          unfold SpotPost at CC CD
          obtain ⟨p2, hp2⟩ : ∃ z, z = (spR x2).1.x := ⟨_, rfl⟩
          obtain ⟨q2, hq2⟩ : ∃ z, z = (spR x2).1.y := ⟨_, rfl⟩
          obtain ⟨t2, ht2⟩ : ∃ z, z = (spR x2).2 := ⟨_, rfl⟩
          obtain ⟨p3, hp3⟩ : ∃ z, z = (spR x3).1.x := ⟨_, rfl⟩
          obtain ⟨q3, hq3⟩ : ∃ z, z = (spR x3).1.y := ⟨_, rfl⟩
          obtain ⟨t3, ht3⟩ : ∃ z, z = (spR x3).2 := ⟨_, rfl⟩
          rw [← hp2, ← hq2, ← ht2, ← hp3, ← hq3, ← ht3] at PB
          rw [← hp2, ← hq2, ← ht2] at CC
          rw [← hp3, ← hq3, ← ht3] at CD
          clear hp2 hq2 ht2 hp3 hq3 ht3 PA NL hwg h4
          go_wp2_with fail
          refine CW.out.mono ?_; rintro e w2 ⟨v2, rfl, o2, b2⟩
          obtain ⟨A2, c2, rfl, hnc2, hcc2⟩ := o2.reads.shape
          obtain ⟨bb, qq, rfl, s0⟩ := str_at o2.reads 0 (by simp)
          have hbb : wr.heap.size ≤ bb := (World.ownsRow.lt o2 bb rfl).1
          obtain ⟨_, _, he1, s1⟩ := str_at o2.reads 1 (by simp)
          injection he1 with he1; injection he1 with e1 e2; subst e1 e2
          obtain ⟨_, _, he1, s2⟩ := str_at o2.reads 2 (by simp)
          injection he1 with he1; injection he1 with e1 e2; subst e1 e2
          obtain ⟨_, _, he1, s3⟩ := str_at o2.reads 3 (by simp)
          injection he1 with he1; injection he1 with e1 e2; subst e1 e2
          replace s0 : w2.cell? ⟨bb, qq, none⟩ = some (.string x0) := s0
          replace s1 : w2.cell? ⟨bb, qq + 1, none⟩ = some (.string x1) := s1
          replace s2 : w2.cell? ⟨bb, qq + 2, none⟩ = some (.string x2) := s2
          replace s3 : w2.cell? ⟨bb, qq + 3, none⟩ = some (.string x3) := s3
          simp only [List.length_cons, List.length_nil, Nat.zero_add] at hnc2 ⊢
          clear CW o2
          go_wp2_with fail
          refine (CC.out _).mono ?_; rintro e w3 ⟨rfl, b3⟩
          have b23 := b2.next (Nat.le_refl _) b3
          have zN := BoxS.new w3 p2 q2
          have b24 := b23.alloc b23.size (.cells #[.int .i64 p2, .int .i64 q2] 37)
          obtain ⟨w4, hw4⟩ : ∃ W, W = w3.alloc (.cells #[.int .i64 p2, .int .i64 q2] 37) := ⟨_, rfl⟩
          have c34 : Below w3.heap.size w3 w4 := by rw [hw4]; exact (Below.refl w3.heap.size w3).alloc (Nat.le_refl _) _
          have b34 := b3.next (Nat.le_refl _) c34
          have y0 := Below.keepC b34 s0 (Nat.le_refl _)
          have y1 := Below.keepC b34 s1 (Nat.le_refl _)
          have y3 := Below.keepC b34 s3 (Nat.le_refl _)
          rw [← hw4] at zN b24
          have hl3 : wr.heap.size ≤ w3.heap.size := b23.size
          have CD2 := Lib.hid (CD.out w4)
          have HW4 := Lib.hid hw4
          clear hw4 CD CC s0 s1 s2 s3
          go_upto_region 12 with fail
          rw [← HW4.out]
          go_wp2_with fail
          refine CD2.out.mono ?_; rintro e w5 ⟨rfl, b5⟩
          have b25 := b24.next (Nat.le_refl _) b5
          have zN5 := zN.keep b5 (Nat.le_refl _)
          have zM := BoxS.new w5 p3 q3
          have zN6 := zN5.al (.cells #[.int .i64 p3, .int .i64 q3] 37)
          have b26 := b25.alloc b25.size (.cells #[.int .i64 p3, .int .i64 q3] 37)
          have hl5 : wr.heap.size ≤ w5.heap.size := b25.size
          obtain ⟨w6, hw6⟩ : ∃ W, W = w5.alloc (.cells #[.int .i64 p3, .int .i64 q3] 37) := ⟨_, rfl⟩
          have c56 : Below w5.heap.size w5 w6 := by rw [hw6]; exact (Below.refl w5.heap.size w5).alloc (Nat.le_refl _) _
          have b46 := b5.next (Nat.le_refl _) c56
          replace y0 := Below.keepC b46 y0 (Nat.le_refl _)
          replace y1 := Below.keepC b46 y1 (Nat.le_refl _)
          rw [← hw6] at zM b26 zN6
          have HW6 := Lib.hid hw6
          clear hw6 CD2 zN zN5 y3
          go_upto_region 13 with fail
          rw [← HW6.out]
          obtain ⟨k0, k1, _, _⟩ := zN6.cells
          obtain ⟨k2, k3, _, _⟩ := zM.cells
          have ho6 := ho.below b26 (Nat.le_refl _)
          have hb6 := hb.next (Nat.le_refl _) b26
          have hbk6 := hbk.next (Nat.le_refl _) b26
          have hne := fun (g : Nat) (hg : wr.heap.size ≤ g) (h9 : _ = some g) => (show False from absurd (World.ownsRow.lt ho g h9).2 (by omega))
          have HNE := Lib.hid hne
          obtain ⟨B2, hB2⟩ : ∃ B, B = w3.heap.size := ⟨_, rfl⟩
          obtain ⟨B3, hB3⟩ : ∃ B, B = w5.heap.size := ⟨_, rfl⟩
          rw [← hB2] at k0 k1 hl3
          rw [← hB3] at k2 k3 hl5
          rw [← hB2, ← hB3]
          clear ho b2 b3 b23 b24 b5 b25 HW4 HW6 hne zN6 zM c34 b34 c56 b46 hB2 hB3
          cases t2
          case false =>
            have hr9 := Lib.hid (NO.out (by rw [PB.out]; simp))
            go_wp2_with fail
            go_ret2
            exact ⟨_, by rw [hr9.out]; rfl, by rw [hr9.out]; exact OwnRow.nil_ edtRec _ _, hbk6⟩
          case true =>
          cases t3
          case false =>
            have hr9 := Lib.hid (NO.out (by rw [PB.out]; simp))
            go_wp2_with fail
            go_ret2
            exact ⟨_, by rw [hr9.out]; rfl, by rw [hr9.out]; exact OwnRow.nil_ edtRec _ _, hbk6⟩
          case true =>
          have hy : Hid (optMap seLine (L.take (n + 1)) = some (out ++ [⟨rdR x0, rdR x1, p2, q2, p3, q3⟩])) := by
            show _ = _
            rw [hq.out]
            exact optMap_snoc hi.out PB.out
          have h9 : out.length + 1 ≤ 1099511627776 := by omega
          have hsz6 := hb6.size
          clear NO PB hq hi
          go_upto_region 15 with fail
          (first | (go_region_held3 (fun w' => w'.cell? ⟨bb, qq, none⟩ = some (.string x0) ∧ w'.cell? ⟨bb, qq + 1, none⟩ = some (.string x1) ∧ w'.cell? ⟨B2, 0, none⟩ = some (.int .i64 p2) ∧ w'.cell? ⟨B2, 1, none⟩ = some (.int .i64 q2) ∧ w'.cell? ⟨B3, 0, none⟩ = some (.int .i64 p3) ∧ w'.cell? ⟨B3, 1, none⟩ = some (.int .i64 q3))
            (first | go_keep | exact ⟨Grew.cellAt hg1 y0 (HNE.out _ hbb), Grew.cellAt hg1 y1 (HNE.out _ hbb), Grew.cellAt hg1 k0 (HNE.out _ hl3), Grew.cellAt hg1 k1 (HNE.out _ hl3), Grew.cellAt hg1 k2 (HNE.out _ hl5), Grew.cellAt hg1 k3 (HNE.out _ hl5)⟩)
            (first | (go_at_call 55; refine (CR.out _ _ (by assumption)).mono ?_; rintro e _ ⟨rfl, rfl⟩) | (refine step_app_rec edtRec w6.drew (by rfl) _ _ 24 _ _ Tryz.underlying24 info_edt rfl (by omega) (by rfl) w1.heap.size _ out (by rfl) (OwnRow.drewN ho6 1) ⟨rdR x0, rdR x1, p2, q2, p3, q3⟩ _ rfl _ _ rfl (by rfl) rfl h9 hsz6 ?_; intro x9 w9 ho1 hg1))) | fail)
          all_goals go_wp2_with fail
          all_goals go_roundg (gk - 1)
          all_goals (first | (refine ⟨n + 1, _, ?_, ?_, ?_, hy, ?_, ho1, hb6.drew.trans hg1.below⟩ <;> (first | omega | go_num | (simp; omega))) | omega)
        · have hr9 := Lib.hid (NL.out h4)
          have hb9 : ((W.length : Int) != 4) = true := by simp; omega
          go_wp2_with fail
          refine CW.out.mono ?_; rintro e w2 ⟨v2, rfl, o2, b2⟩
          obtain ⟨A2, c2, rfl, hnc2, hcc2⟩ := o2.reads.shape
          go_wp2_with fail
          go_ret2
          exact ⟨_, by rw [hr9.out]; rfl, by rw [hr9.out]; exact OwnRow.nil_ edtRec _ _, hbk.next (Nat.le_refl _) b2⟩
      · obtain rfl : n = j := by omega
        have hfin := Lib.hid (rPEs_at (s := s) (by rw [← HP.out]; exact h31) HL.out (by have := hi.out; rw [← hLl, List.take_length] at this; exact this))
        have CA := Lib.hid (edAll_any _ out wr ho.reads)
        have hbk := b1.next (Nat.le_refl _) hb
        cases hv : areEdts out
        · rw [hv] at CA hfin
          go_wp2_with fail
          refine CA.out.mono ?_; rintro e w4 ⟨rfl, b4⟩
          go_wp2_with fail
          go_ret2
          exact ⟨_, by rw [hfin.out]; rfl, by rw [hfin.out]; exact OwnRow.nil_ edtRec _ _, hbk.next (Nat.le_refl _) b4⟩
        · rw [hv] at CA hfin
          have Hv := Lib.hid hv
          clear hv
          go_wp2_with fail
          refine CA.out.mono ?_; rintro e w4 ⟨rfl, b4⟩
          have CT := Lib.hid (edText_any _ out w4 (ho.below b4 (Nat.le_refl _)).reads Hv.out)
          have hfb := hbk.next (Nat.le_refl _) b4
          have ho4 := ho.below b4 (Nat.le_refl _)
          by_cases heq : eText out = s
          · rw [heq] at CT
            have hbe : (s.toList == s.toList) = true := by simp
            rw [decide_eq_true heq] at hfin
            clear heq
            go_wp2_with fail
            refine CT.out.mono ?_; rintro e w5 ⟨rfl, b5⟩
            go_wp2_with fail
            go_ret2
            exact ⟨_, by rw [hfin.out]; rfl, by rw [hfin.out]; exact OwnRow.lo (ho4.below b5 (Nat.le_refl _)) b1.size, hfb.next (Nat.le_refl _) b5⟩
          · have hbe := ba_beq_f heq
            rw [decide_eq_false heq] at hfin
            obtain ⟨T, hT⟩ : ∃ T, T = eText out := ⟨_, rfl⟩
            rw [← hT] at CT hbe
            clear heq hT
            go_wp2_with fail
            refine CT.out.mono ?_; rintro e w5 ⟨rfl, b5⟩
            go_wp2_with fail
            go_ret2
            exact ⟨_, by rw [hfin.out]; rfl, by rw [hfin.out]; exact OwnRow.nil_ edtRec _ _, hfb.next (Nat.le_refl _) b5⟩
/-! ### as the laws call them -/
theorem specPE (s : ByteArray) (w : World) {m : Int} (hm : MaxW w m) (hs : s.size ≤ 4194304) : Calls Tryz.prog 22 #[.string s] w (FreshEdtB w (rPEs s)) := specParseEdits s w hs
theorem implPE (s : ByteArray) (w : World) {m : Int} (hm : MaxW w m) (hs : s.size ≤ 4194304) : Calls Tryz.prog 11 #[.string s] w (FreshEdtB w (rPEs s)) := implParseEdits s m w hm hs
end Go.Proofs.YtombnhnhbocceaaGreatDoor
