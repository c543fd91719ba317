/- Contracts of WithoutEditor, in the program and in the reference. -/
import Derived.Test.YtiondgflpimdmaaDoorEditFit
set_option linter.unusedSimpArgs false
set_option linter.unusedVariables false
namespace Go.Proofs.YtiondgflpimdmaaDoor
open Go.RowKit

/-- The edits of the others. -/
def oth (es : List Edt) (n : Int) : List Edt := es.filter fun x => x.e != n
theorem oth_no {es : List Edt} {n : Int} {k : Nat} (h : k < es.length) (e : ((gx edtRec es k).e != n) = false) : oth (es.take (k + 1)) n = oth (es.take k) n := by
  unfold oth; rw [take_succ_gx edtRec es k h, List.filter_append]; simp only [List.filter_cons, List.filter_nil, e]; simp
theorem oth_yes {es : List Edt} {n : Int} {k : Nat} (h : k < es.length) (e : ((gx edtRec es k).e != n) = true) : oth (es.take (k + 1)) n = oth (es.take k) n ++ [gx edtRec es k] := by
  unfold oth; rw [take_succ_gx edtRec es k h, List.filter_append]; simp only [List.filter_cons, List.filter_nil, e]; simp
theorem oth_len (es : List Edt) (n : Int) : (oth es n).length ≤ es.length := List.length_filter_le _ _
theorem oth_to {es : List Edt} {n : Int} (h : edTo es es.length) : edTo (oth es n) (oth es n).length := by
  intro i hi
  have h1 : gx edtRec (oth es n) i ∈ oth es n := gx_mem hi
  have h2 : gx edtRec (oth es n) i ∈ es := (List.mem_filter.1 h1).1
  obtain ⟨j, hj, he⟩ := List.getElem_of_mem h2
  have := h j hj
  rw [gx_eq hj, he] at this
  exact this
/-- What WithoutEditor returns. -/
def woSt (l : List Spt) (es : List Edt) (n : Int) : List Spt × List Int × List Int := fitSt l (oth es n) (oth es n).length
def rWithout (l : List Spt) (es : List Edt) (n : Int) : List Spt × Int × Bool := if isChart l && areEdts es && inR n 1 9 then ((woSt l es n).1, ((woSt l es n).2.2.length : Int), true) else ([], 0, false)
theorem rWithout_no1 {l : List Spt} {es : List Edt} {n : Int} (h : isChart l = false) : rWithout l es n = ([], 0, false) := by unfold rWithout; rw [h]; rfl
theorem rWithout_no2 {l : List Spt} {es : List Edt} {n : Int} (h : areEdts es = false) : rWithout l es n = ([], 0, false) := by unfold rWithout; rw [h]; cases isChart l <;> rfl
theorem rWithout_no3 {l : List Spt} {es : List Edt} {n : Int} (h : inR n 1 9 = false) : rWithout l es n = ([], 0, false) := by unfold rWithout; rw [h]; cases isChart l <;> cases areEdts es <;> rfl
theorem rWithout_yes {l : List Spt} {es : List Edt} {n : Int} (h1 : isChart l = true) (h2 : areEdts es = true) (h3 : inR n 1 9 = true) : rWithout l es n = ((woSt l es n).1, ((woSt l es n).2.2.length : Int), true) := by unfold rWithout; rw [h1, h2, h3]; rfl
theorem woSt_len (l : List Spt) (es : List Edt) (n : Int) : (woSt l es n).1.length = l.length ∧ (woSt l es n).2.1.length + (woSt l es n).2.2.length = (oth es n).length := fitSt_len _ _ _
theorem rWithout_len (l : List Spt) (es : List Edt) (n : Int) : (rWithout l es n).1.length ≤ 12 ∧ 0 ≤ (rWithout l es n).2.1 ∧ (rWithout l es n).2.1 ≤ 30 := by
  cases h1 : isChart l
  · rw [rWithout_no1 h1]; simp
  · cases h2 : areEdts es
    · rw [rWithout_no2 h2]; simp
    · cases h3 : inR n 1 9
      · rw [rWithout_no3 h3]; simp
      · rw [rWithout_yes h1 h2 h3]
        have q1 := woSt_len l es n
        have q2 := (chart_pos h1).2
        have q3 := (areEdts_t h2).1
        have q4 := oth_len es n
        refine ⟨?_, ?_, ?_⟩
        · show (woSt l es n).1.length ≤ 12
          omega
        · show (0 : Int) ≤ ((woSt l es n).2.2.length : Int)
          omega
        · show ((woSt l es n).2.2.length : Int) ≤ 30
          omega
def FreshWo (w : World) (r : List Spt × Int × Bool) (e : Ending) (w' : World) : Prop :=
  ∃ v, e = .returned (.tuple #[v, .int .i64 r.2.1, .bool r.2.2]) ∧ OwnRow sptRec w' w.heap.size v r.1 ∧ Below w.heap.size w w'
set_option maxHeartbeats 6400000 in
theorem implWithout (v ve : Value) (l : List Spt) (es : List Edt) (n : Int) (w : World) (h : RowAt sptRec w v l) (hE : RowAt edtRec w ve es) :
    Calls Tryd.prog 12 #[v, ve, .int .i64 n] w (FreshWo w (rWithout l es n)) := by
  obtain ⟨B, d, rfl, hnd, hd63⟩ := hE.shape
  cases h1 : isChart l
  · have hr := Lib.hid (rWithout_no1 (es := es) (n := n) h1)
    go_enter Tryd.func12, Tryd.ntmps12
    go_wp2_with fail
    refine (implIsChart _ l _ h).mono ?_; rintro e w1 ⟨rfl, b1⟩
    go_wp2_with fail
    go_ret3
    exact ⟨_, by rw [hr.out]; rfl, by rw [hr.out]; exact OwnRow.nil_ sptRec _ _, b1⟩
  · cases h2 : areEdts es
    · have hr := Lib.hid (rWithout_no2 (l := l) (n := n) h2)
      go_enter Tryd.func12, Tryd.ntmps12
      go_wp2_with fail
      refine (implIsChart _ l _ h).mono ?_; rintro e w1 ⟨rfl, b1⟩
      have hE1 := hE.below b1 (Nat.le_refl _)
      go_wp2_with fail
      refine (areEdits_any _ es _ hE1).mono ?_; rintro e w2 ⟨rfl, b2⟩
      go_wp2_with fail
      go_ret3
      exact ⟨_, by rw [hr.out]; rfl, by rw [hr.out]; exact OwnRow.nil_ sptRec _ _, b1.next (Nat.le_refl _) b2⟩
    · cases h3 : inR n 1 9
      · have hr := Lib.hid (rWithout_no3 (l := l) (es := es) h3)
        go_enter Tryd.func12, Tryd.ntmps12
        go_wp2_with fail
        refine (implIsChart _ l _ h).mono ?_; rintro e w1 ⟨rfl, b1⟩
        have hE1 := hE.below b1 (Nat.le_refl _)
        go_wp2_with fail
        refine (areEdits_any _ es _ hE1).mono ?_; rintro e w2 ⟨rfl, b2⟩
        go_wp2_with fail
        refine (isEditor_any n _).mono ?_; rintro e w' ⟨rfl, rfl⟩
        go_wp2_with fail
        go_ret3
        exact ⟨_, by rw [hr.out]; rfl, by rw [hr.out]; exact OwnRow.nil_ sptRec _ _, b1.next (Nat.le_refl _) b2⟩
      · have hr := Lib.hid (rWithout_yes h1 h2 h3)
        have hp := chart_pos h1
        obtain ⟨hl0, hl12⟩ := hp
        have hg0 := areEdts_t h2
        obtain ⟨h30, hg1⟩ := hg0
        have hg := Lib.hid (oth_to (n := n) hg1)
        have hol := oth_len es n
        have hwl := woSt_len l es n
        obtain ⟨_, hw2⟩ := hwl
        have hw3 : (woSt l es n).2.1.length ≤ (oth es n).length := by omega
        have Hw2 := Lib.hid hw2
        clear hg1 hw2
        go_enter Tryd.func12, Tryd.ntmps12
        go_wp2_with fail
        refine (implIsChart _ l _ h).mono ?_; rintro e w1 ⟨rfl, b1⟩
        have hE1 := hE.below b1 (Nat.le_refl _)
        go_wp2_with fail
        refine (areEdits_any _ es _ hE1).mono ?_; rintro e w2 ⟨rfl, b2⟩
        have b12 := b1.next (Nat.le_refl _) b2
        have hE2 := hE.below b12 (Nat.le_refl _)
        go_wp2_with fail
        refine (isEditor_any n _).mono ?_; rintro e w' ⟨rfl, rfl⟩
        go_wp2_with fail
        clear h1 h2 h3
        go_loopw [9, 30] (fun t s wr => ∃ k : Nat, k ≤ es.length ∧ s = .int .i64 k ∧ OwnRow edtRec wr w2.heap.size t (oth (es.take k) n) ∧ Below w2.heap.size w2 wr) (fun _ s _ => es.length - (intOf s).toNat)
        case atStart => exact ⟨0, Nat.zero_le _, rfl, OwnRow.empty edtRec w2 _ (Nat.le_refl _), (Below.refl _ _).alloc (Nat.le_refl _) _⟩
        case round =>
          obtain ⟨k, hk, rfl, ho, hb⟩ := hrel
          by_cases hlt : k < es.length
          · obtain ⟨b, o, rfl, hc0, hc1, hc2, hc3, hc4, hc5⟩ := edt_at (hE2.below hb (Nat.le_refl _)) k hlt
            have hX : Below wr.heap.size wr (wr.alloc (.cells #[.int .i64 (gx edtRec es k).e, .int .i64 (gx edtRec es k).p, .int .i64 (gx edtRec es k).bx, .int .i64 (gx edtRec es k).bY, .int .i64 (gx edtRec es k).ax, .int .i64 (gx edtRec es k).aY] 41)) := (Below.refl _ _).alloc (Nat.le_refl _) _
            have hoX := OwnRow.below ho hX (Nat.le_refl _)
            have hbX := hb.trans (hX.mono hb.size)
            have hsX := hbX.size
            have hok := oth_len (es.take k) n
            have h9 : (oth (es.take k) n).length + 1 ≤ 1099511627776 := by rw [List.length_take] at hok; omega
            clear hok
            cases e0 : ((gx edtRec es k).e != n)
            · have hs := Lib.hid (oth_no hlt e0)
              go_wp2_with fail
              go_roundw
              case rel => exact ⟨k + 1, by omega, by go_num, by rw [hs.out]; exact hoX, hbX⟩
              case measure => simp [intOf]; omega
            · have hs := Lib.hid (oth_yes hlt e0)
              go_wp2_with (at_builtin; refine wp_app_edt _ rfl _ _ rfl w2.heap.size _ (oth (es.take k) n) rfl hoX (gx edtRec es k) _ rfl (by simp) h9 hsX ?_; intro v5 w5 ho5 hg5)
              go_roundw
              case rel => exact ⟨k + 1, by omega, by go_num, by rw [hs.out]; exact ho5, hbX.trans hg5.below⟩
              case measure => simp [intOf]; omega
          · obtain rfl : k = es.length := by omega
            rw [List.take_length] at ho
            have b2r := b12.next (Nat.le_refl _) hb
            obtain ⟨T, ct, rfl, hnt, hct⟩ := ho.reads.shape
            go_wp2_with fail
            refine (fittingEdits_any _ _ l (oth es n) _ (h.below b2r (Nat.le_refl _)) ho.reads hl12 hl0 (by omega) hg).mono ?_; rintro e w3 ⟨x, y, rfl, ox, ou, ap, b3⟩
            have ox2 : Hid (OwnRow sptRec w3 w.heap.size x (woSt l es n).1) := OwnRow.lo ox b2r.size
            have ou2 : OwnInts w3 wr.heap.size y (woSt l es n).2.1 := ou
            obtain ⟨Y, cy, rfl, hny, hcy⟩ := ou2.reads.shape
            have e9 : Hid (((oth es n).length : Int) - ((woSt l es n).2.1.length : Int) = ((woSt l es n).2.2.length : Int)) := by show _ = _; have := Hw2.out; omega
            clear ou ou2
            clear ox ho
            go_wp2_with fail
            go_ret3
            exact ⟨_, by rw [hr.out]; show _ = Ending.returned (.tuple #[_, .int .i64 ((woSt l es n).2.2.length : Int), .bool true]); rw [← e9.out]; rfl, by rw [hr.out]; exact ox2.out, b2r.next (Nat.le_refl _) b3⟩
set_option maxHeartbeats 6400000 in
theorem specWithout (v ve : Value) (l : List Spt) (es : List Edt) (n : Int) (w : World) (h : RowAt sptRec w v l) (hE : RowAt edtRec w ve es) :
    Calls Tryd.prog 13 #[v, ve, .int .i64 n] w (FreshWo w (rWithout l es n)) := by
  obtain ⟨B, d, rfl, hnd, hd63⟩ := hE.shape
  cases h1 : isChart l
  · have hr := Lib.hid (rWithout_no1 (es := es) (n := n) h1)
    go_enter Tryd.func13, Tryd.ntmps13
    go_wp2_with fail
    refine (chGood_any _ l _ h).mono ?_; rintro e w1 ⟨rfl, b1⟩
    go_wp2_with fail
    go_ret3
    exact ⟨_, by rw [hr.out]; rfl, by rw [hr.out]; exact OwnRow.nil_ sptRec _ _, b1⟩
  · cases h2 : areEdts es
    · have hr := Lib.hid (rWithout_no2 (l := l) (n := n) h2)
      go_enter Tryd.func13, Tryd.ntmps13
      go_wp2_with fail
      refine (chGood_any _ l _ h).mono ?_; rintro e w1 ⟨rfl, b1⟩
      have hE1 := hE.below b1 (Nat.le_refl _)
      go_wp2_with fail
      refine (edAll_any _ es _ hE1).mono ?_; rintro e w2 ⟨rfl, b2⟩
      go_wp2_with fail
      go_ret3
      exact ⟨_, by rw [hr.out]; rfl, by rw [hr.out]; exact OwnRow.nil_ sptRec _ _, b1.next (Nat.le_refl _) b2⟩
    · cases h3 : inR n 1 9
      · have hr := Lib.hid (rWithout_no3 (l := l) (es := es) h3)
        go_enter Tryd.func13, Tryd.ntmps13
        go_wp2_with fail
        refine (chGood_any _ l _ h).mono ?_; rintro e w1 ⟨rfl, b1⟩
        have hE1 := hE.below b1 (Nat.le_refl _)
        go_wp2_with fail
        refine (edAll_any _ es _ hE1).mono ?_; rintro e w2 ⟨rfl, b2⟩
        go_wp2_with fail
        refine (edEditor_any n _).mono ?_; rintro e w' ⟨rfl, rfl⟩
        go_wp2_with fail
        go_ret3
        exact ⟨_, by rw [hr.out]; rfl, by rw [hr.out]; exact OwnRow.nil_ sptRec _ _, b1.next (Nat.le_refl _) b2⟩
      · have hr := Lib.hid (rWithout_yes h1 h2 h3)
        have hp := chart_pos h1
        obtain ⟨hl0, hl12⟩ := hp
        have hg0 := areEdts_t h2
        obtain ⟨h30, hg1⟩ := hg0
        have hg := Lib.hid (oth_to (n := n) hg1)
        have hol := oth_len es n
        have hwl := woSt_len l es n
        obtain ⟨_, hw2⟩ := hwl
        have hw3 : (woSt l es n).2.1.length ≤ (oth es n).length := by omega
        have Hw2 := Lib.hid hw2
        clear hg1 hw2
        go_enter Tryd.func13, Tryd.ntmps13
        go_wp2_with fail
        refine (chGood_any _ l _ h).mono ?_; rintro e w1 ⟨rfl, b1⟩
        have hE1 := hE.below b1 (Nat.le_refl _)
        go_wp2_with fail
        refine (edAll_any _ es _ hE1).mono ?_; rintro e w2 ⟨rfl, b2⟩
        have b12 := b1.next (Nat.le_refl _) b2
        have hE2 := hE.below b12 (Nat.le_refl _)
        go_wp2_with fail
        refine (edEditor_any n _).mono ?_; rintro e w' ⟨rfl, rfl⟩
        go_wp2_with fail
        clear h1 h2 h3
        go_loopw [9, 30] (fun t s wr => ∃ k : Nat, k ≤ es.length ∧ s = .int .i64 k ∧ OwnRow edtRec wr w2.heap.size t (oth (es.take k) n) ∧ Below w2.heap.size w2 wr) (fun _ s _ => es.length - (intOf s).toNat)
        case atStart => exact ⟨0, Nat.zero_le _, rfl, OwnRow.nil_ edtRec _ _, Below.refl _ _⟩
        case round =>
          obtain ⟨k, hk, rfl, ho, hb⟩ := hrel
          by_cases hlt : k < es.length
          · obtain ⟨b, o, rfl, hc0, hc1, hc2, hc3, hc4, hc5⟩ := edt_at (hE2.below hb (Nat.le_refl _)) k hlt
            have hX : Below wr.heap.size wr (wr.alloc (.cells #[.int .i64 (gx edtRec es k).e, .int .i64 (gx edtRec es k).p, .int .i64 (gx edtRec es k).bx, .int .i64 (gx edtRec es k).bY, .int .i64 (gx edtRec es k).ax, .int .i64 (gx edtRec es k).aY] 41)) := (Below.refl _ _).alloc (Nat.le_refl _) _
            have hoX := OwnRow.below ho hX (Nat.le_refl _)
            have hbX := hb.trans (hX.mono hb.size)
            have hsX := hbX.size
            have hok := oth_len (es.take k) n
            have h9 : (oth (es.take k) n).length + 1 ≤ 1099511627776 := by rw [List.length_take] at hok; omega
            clear hok
            cases e0 : ((gx edtRec es k).e != n)
            · have hs := Lib.hid (oth_no hlt e0)
              go_wp2_with fail
              go_roundw
              case rel => exact ⟨k + 1, by omega, by go_num, by rw [hs.out]; exact hoX, hbX⟩
              case measure => simp [intOf]; omega
            · have hs := Lib.hid (oth_yes hlt e0)
              go_wp2_with (at_builtin; refine wp_app_edt _ rfl _ _ rfl w2.heap.size _ (oth (es.take k) n) rfl hoX (gx edtRec es k) _ rfl (by simp) h9 hsX ?_; intro v5 w5 ho5 hg5)
              go_roundw
              case rel => exact ⟨k + 1, by omega, by go_num, by rw [hs.out]; exact ho5, hbX.trans hg5.below⟩
              case measure => simp [intOf]; omega
          · obtain rfl : k = es.length := by omega
            rw [List.take_length] at ho
            have b2r := b12.next (Nat.le_refl _) hb
            obtain ⟨T, ct, rfl, hnt, hct⟩ := ho.reads.shape
            go_wp2_with fail
            refine (mgFit_any _ _ l (oth es n) _ (h.below b2r (Nat.le_refl _)) ho.reads hl12 hl0 (by omega) hg).mono ?_; rintro e w3 ⟨x, y, z, rfl, ox, ou, oz, ap1, ap2, ap3, b3⟩
            have ox2 : Hid (OwnRow sptRec w3 w.heap.size x (woSt l es n).1) := OwnRow.lo ox b2r.size
            have oz2 : OwnInts w3 wr.heap.size z (woSt l es n).2.2 := oz
            obtain ⟨Y, cy, rfl, hny, hcy⟩ := oz2.reads.shape
            clear ou oz oz2
            clear ox ho
            go_wp2_with fail
            go_ret3
            exact ⟨_, by rw [hr.out]; rfl, by rw [hr.out]; exact ox2.out, b2r.next (Nat.le_refl _) b3⟩
end Go.Proofs.YtiondgflpimdmaaDoor
