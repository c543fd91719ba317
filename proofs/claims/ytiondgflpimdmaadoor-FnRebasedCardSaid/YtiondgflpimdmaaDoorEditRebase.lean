/- Contracts of RebaseEdits, in the program and in the reference. -/
import Derived.Test.YtiondgflpimdmaaDoorEditFit
import Derived.Test.YtiondgflpimdmaaDoorIdxI
set_option linter.unusedSimpArgs false
set_option linter.unusedVariables false
namespace Go.Proofs.YtiondgflpimdmaaDoor
open Go.RowKit

theorem fitSt_in (l : List Spt) (es : List Edt) (n : Nat) : ∀ i ∈ (fitSt l es n).2.1, 0 ≤ i ∧ i < (n : Int) := by
  induction n with
  | zero => intro i hi; cases hi
  | succ n ih =>
    intro i hi
    unfold fitSt at hi
    split at hi
    · rw [List.mem_append] at hi
      rcases hi with hi | hi
      · have := ih i hi; omega
      · simp at hi; omega
    · have := ih i hi; omega
def fitAt (l : List Spt) (es : List Edt) (k : Nat) : Bool := fitsB (fitSt l es k).1 (gx edtRec es k).p.toNat (gx edtRec es k).b (gx edtRec es k).a
theorem fitSt_t {l : List Spt} {es : List Edt} {k : Nat} (h : fitAt l es k = true) : (fitSt l es (k + 1)).2.1 = (fitSt l es k).2.1 ++ [(k : Int)] ∧ (fitSt l es (k + 1)).2.2 = (fitSt l es k).2.2 := by
  unfold fitAt at h
  conv => lhs; lhs; unfold fitSt
  conv => rhs; lhs; unfold fitSt
  rw [if_pos h]; exact ⟨rfl, rfl⟩
theorem fitSt_f {l : List Spt} {es : List Edt} {k : Nat} (h : fitAt l es k = false) : (fitSt l es (k + 1)).2.1 = (fitSt l es k).2.1 ∧ (fitSt l es (k + 1)).2.2 = (fitSt l es k).2.2 ++ [(k : Int)] := by
  unfold fitAt at h
  conv => lhs; lhs; unfold fitSt
  conv => rhs; lhs; unfold fitSt
  rw [if_neg (by rw [h]; decide)]; exact ⟨rfl, rfl⟩
theorem fitSt_mem (l : List Spt) (es : List Edt) (n k : Nat) (hk : k < n) : (k : Int) ∈ (fitSt l es n).2.1 ↔ fitAt l es k = true := by
  induction n with
  | zero => omega
  | succ n ih =>
    by_cases e : k = n
    · subst e
      have hno : (k : Int) ∉ (fitSt l es k).2.1 := fun h9 => by have := fitSt_in l es k _ h9; omega
      cases h : fitAt l es k
      · rw [(fitSt_f h).1]; simp [hno]
      · rw [(fitSt_t h).1]; simp
    · have := ih (by omega)
      cases h : fitAt l es n
      · rw [(fitSt_f h).1]; exact this
      · rw [(fitSt_t h).1, List.mem_append]
        rw [this]
        constructor
        · rintro (h1 | h1)
          · exact h1
          · simp at h1; omega
        · exact .inl
/-- The edits that fit. -/
def outE (es : List Edt) (I : List Int) : List Edt := I.map fun i => gx edtRec es i.toNat
theorem outE_len (es : List Edt) (I : List Int) : (outE es I).length = I.length := by simp [outE]
theorem outE_take (es : List Edt) (I : List Int) (j : Nat) (h : j < I.length) : outE es (I.take (j + 1)) = outE es (I.take j) ++ [gx edtRec es (gi I j).toNat] := by
  rw [take_succ_gi I j h]; simp [outE]
theorem outE_snoc (es : List Edt) (I : List Int) (k : Nat) : outE es (I ++ [(k : Int)]) = outE es I ++ [gx edtRec es k] := by simp [outE]
def rebO (l : List Spt) (es : List Edt) (n : Nat) : List Edt := outE es (fitSt l es n).2.1
def rebL (l : List Spt) (es : List Edt) (n : Nat) : List Int := (fitSt l es n).2.2
theorem reb_len (l : List Spt) (es : List Edt) (n : Nat) : (rebO l es n).length ≤ n ∧ (rebL l es n).length ≤ n := by
  have := (fitSt_len l es n).2
  unfold rebO rebL
  rw [outE_len]; omega
theorem reb_t {l : List Spt} {es : List Edt} {n k : Nat} (hk : k < n) (h : decide ((k : Int) ∈ (fitSt l es n).2.1) = true) : rebO l es (k + 1) = rebO l es k ++ [gx edtRec es k] ∧ rebL l es (k + 1) = rebL l es k := by
  have h1 := fitSt_t ((fitSt_mem l es n k hk).1 (of_decide_eq_true h))
  unfold rebO rebL
  rw [h1.1, h1.2, outE_snoc]; exact ⟨rfl, rfl⟩
theorem reb_f {l : List Spt} {es : List Edt} {n k : Nat} (hk : k < n) (h : decide ((k : Int) ∈ (fitSt l es n).2.1) = false) : rebO l es (k + 1) = rebO l es k ∧ rebL l es (k + 1) = rebL l es k ++ [(k : Int)] := by
  have h0 : fitAt l es k = false := by
    cases h9 : fitAt l es k
    · rfl
    · exact absurd ((fitSt_mem l es n k hk).2 h9) (of_decide_eq_false h)
  have h1 := fitSt_f h0
  unfold rebO rebL
  rw [h1.1, h1.2]; exact ⟨rfl, rfl⟩
/-- What RebaseEdits returns. -/
def rRebase (l : List Spt) (a b : List Edt) : List Edt × List Int × Bool :=
  if (rWhole l a).2 && areEdts b then (rebO (runE l a 0).1 b b.length, rebL (runE l a 0).1 b b.length, true) else ([], [], false)
theorem rRebase_no1 {l : List Spt} {a b : List Edt} (h : (rWhole l a).2 = false) : rRebase l a b = ([], [], false) := by unfold rRebase; rw [h]; rfl
theorem rRebase_no2 {l : List Spt} {a b : List Edt} (h : areEdts b = false) : rRebase l a b = ([], [], false) := by unfold rRebase; rw [h]; cases (rWhole l a).2 <;> rfl
theorem rRebase_no0 {l : List Spt} {a b : List Edt} (h : (areEdts a && areEdts b) = false) : rRebase l a b = ([], [], false) := by
  cases h1 : areEdts a
  · exact rRebase_no1 (by rw [rWhole_no2 h1])
  · rw [h1] at h
    exact rRebase_no2 (by simpa using h)
theorem rRebase_yes {l : List Spt} {a b : List Edt} (h1 : (rWhole l a).2 = true) (h2 : areEdts b = true) : rRebase l a b = (rebO (runE l a 0).1 b b.length, rebL (runE l a 0).1 b b.length, true) := by unfold rRebase; rw [h1, h2]; rfl
theorem rRebase_len (l : List Spt) (a b : List Edt) : (rRebase l a b).1.length ≤ 30 ∧ (rRebase l a b).2.1.length ≤ 30 := by
  cases h1 : (rWhole l a).2
  · rw [rRebase_no1 h1]; simp
  · cases h2 : areEdts b
    · rw [rRebase_no2 h2]; simp
    · rw [rRebase_yes h1 h2]
      have h3 := reb_len (runE l a 0).1 b b.length
      have h4 := (areEdts_t h2).1
      refine ⟨?_, ?_⟩
      · show (rebO (runE l a 0).1 b b.length).length ≤ 30
        omega
      · show (rebL (runE l a 0).1 b b.length).length ≤ 30
        omega
def FreshRebase (w : World) (r : List Edt × List Int × Bool) (e : Ending) (w' : World) : Prop :=
  ∃ v u, e = .returned (.tuple #[v, u, .bool r.2.2]) ∧ OwnRow edtRec w' w.heap.size v r.1 ∧ OwnInts w' w.heap.size u r.2.1 ∧ Apt v u ∧ Below w.heap.size w w'
set_option maxHeartbeats 6400000 in
theorem implRebase (v va vb : Value) (l : List Spt) (a b : List Edt) (w : World) (h : RowAt sptRec w v l) (hA : RowAt edtRec w va a) (hB : RowAt edtRec w vb b) :
    Calls Tryd.prog 6 #[v, va, vb] w (FreshRebase w (rRebase l a b)) := by
  obtain ⟨B, d, rfl, hnd, hd63⟩ := hB.shape
  cases h1 : (rWhole l a).2
  · have hr := Lib.hid (rRebase_no1 (b := b) h1)
    go_enter Tryd.func6, Tryd.ntmps6
    go_wp2_with fail
    refine (resultOf_any _ _ l a _ h hA).mono ?_; rintro e w1 ⟨x, rfl, ox, b1⟩
    clear ox
    go_wp2_with fail
    go_ret3
    exact ⟨_, _, by rw [hr.out]; rfl, by rw [hr.out]; exact OwnRow.nil_ edtRec _ _, by rw [hr.out]; exact OwnInts.nil_ _ _, (fun g h1 h2 => by cases h1), b1⟩
  · cases h2 : areEdts b
    · have hr := Lib.hid (rRebase_no2 (l := l) (a := a) h2)
      go_enter Tryd.func6, Tryd.ntmps6
      go_wp2_with fail
      refine (resultOf_any _ _ l a _ h hA).mono ?_; rintro e w1 ⟨x, rfl, ox, b1⟩
      clear ox
      go_wp2_with fail
      refine (areEdits_any _ b _ (hB.below b1 (Nat.le_refl _))).mono ?_; rintro e w2 ⟨rfl, b2⟩
      go_wp2_with fail
      go_ret3
      exact ⟨_, _, by rw [hr.out]; rfl, by rw [hr.out]; exact OwnRow.nil_ edtRec _ _, by rw [hr.out]; exact OwnInts.nil_ _ _, (fun g h1 h2 => by cases h1), b1.next (Nat.le_refl _) b2⟩
    · have hr := Lib.hid (rRebase_yes h1 h2)
      have hw := rWhole_t h1
      obtain ⟨hc, _, hx⟩ := hw
      have hp := chart_pos hc
      obtain ⟨hl0, hl12⟩ := hp
      have Hxl := Lib.hid (run_len1 l a)
      have hg0 := areEdts_t h2
      obtain ⟨h30, hg1⟩ := hg0
      have hg := Lib.hid hg1
      have Hx := Lib.hid hx
      clear hg1 hx
      go_enter Tryd.func6, Tryd.ntmps6
      go_wp2_with fail
      refine (resultOf_any _ _ l a _ h hA).mono ?_; rintro e w1 ⟨x, rfl, ox, b1⟩
      rw [Hx.out] at ox
      go_wp2_with fail
      refine (areEdits_any _ b _ (hB.below b1 (Nat.le_refl _))).mono ?_; rintro e w2 ⟨rfl, b2⟩
      have b12 := b1.next (Nat.le_refl _) b2
      have ox2 := OwnRow.below ox b2 (Nat.le_refl _)
      go_wp2_with fail
      refine (fittingEdits_any _ _ (runE l a 0).1 b _ ox2.reads (hB.below b12 (Nat.le_refl _)) (by have := Hxl.out; omega) (by have := Hxl.out; omega) (by omega) hg).mono ?_; rintro e w3 ⟨y, z, rfl, oy, oz, ap, b3⟩
      have b13 := b12.next (Nat.le_refl _) b3
      have hB3 := hB.below b13 (Nat.le_refl _)
      have hz3 := oz.reads
      clear ox ox2 oy oz ap h1 h2
      go_wp2_with fail
      have e0 : Below w3.heap.size w3 (w3.alloc (.cells #[] 41)) := (Below.refl _ _).alloc (Nat.le_refl _) _
      have e1 : Below w3.heap.size w3 ((w3.alloc (.cells #[] 41)).alloc (.cells #[] 3)) := e0.alloc (by simp) _
      have q0 : OwnRow edtRec (w3.alloc (.cells #[] 41)) w3.heap.size (.slice (some ⟨w3.heap.size, 0, none⟩) 0 0) [] := OwnRow.empty edtRec w3 _ (Nat.le_refl _)
      have q1 : OwnRow edtRec ((w3.alloc (.cells #[] 41)).alloc (.cells #[] 3)) w3.heap.size (.slice (some ⟨w3.heap.size, 0, none⟩) 0 0) [] := World.ownsRow.alloc q0 _
      have q2 : OwnInts ((w3.alloc (.cells #[] 41)).alloc (.cells #[] 3)) w3.heap.size (.slice (some ⟨w3.heap.size + 1, 0, none⟩) 0 0) [] := by
        have := OwnInts.empty (w3.alloc (.cells #[] 41)) w3.heap.size (by simp)
        simpa using this
      clear e0 q0
      go_loopw [13, 14, 40] (fun t u s wr => ∃ k : Nat, k ≤ b.length ∧ s = .int .i64 k ∧ OwnRow edtRec wr w3.heap.size t (rebO (runE l a 0).1 b k) ∧ OwnInts wr w3.heap.size u (rebL (runE l a 0).1 b k) ∧ Apt t u ∧ Below w3.heap.size w3 wr) (fun _ _ s _ => b.length - (intOf s).toNat)
      case atStart => exact ⟨0, Nat.zero_le _, rfl, q1, q2, (fun g h1 h2 => by simp [Value.ownBlock] at h1 h2; omega), e1⟩
      case round =>
        obtain ⟨k, hk, rfl, ho, hu, hap, hb⟩ := hrel
        clear q1 q2 e1
        have hlen := reb_len (runE l a 0).1 b k
        obtain ⟨hl1, hl2⟩ := hlen
        have h9 : (rebO (runE l a 0).1 b k).length + 1 ≤ 1099511627776 := by omega
        have h8 : (rebL (runE l a 0).1 b k).length + 1 ≤ 1099511627776 := by omega
        clear hl1 hl2
        by_cases hlt : k < b.length
        · obtain ⟨b', o, rfl, hc0, hc1, hc2, hc3, hc4, hc5⟩ := edt_at (hB3.below hb (Nat.le_refl _)) k hlt
          have hX : Below wr.heap.size wr (wr.alloc (.cells #[.int .i64 (gx edtRec b k).e, .int .i64 (gx edtRec b k).p, .int .i64 (gx edtRec b k).bx, .int .i64 (gx edtRec b k).bY, .int .i64 (gx edtRec b k).ax, .int .i64 (gx edtRec b k).aY] 41)) := (Below.refl _ _).alloc (Nat.le_refl _) _
          have hbX := hb.trans (hX.mono hb.size)
          have hzX := (hz3.below hb (Nat.le_refl _)).below hX (Nat.le_refl _)
          have hoX := OwnRow.below ho hX (Nat.le_refl _)
          have huX := OwnInts.below hu hX (Nat.le_refl _)
          cases hm : decide ((k : Int) ∈ (fitSt (runE l a 0).1 b b.length).2.1)
          · have hs := reb_f hlt hm
            have s1 := Lib.hid hs.1
            have s2 := Lib.hid hs.2
            clear hs
            have Hm := Lib.hid hm
            clear hm
            go_wp2_with fail
            refine (containsI_any _ (fitSt (runE l a 0).1 b b.length).2.1 (k : Int) _ hzX).mono ?_; rintro e w4 ⟨he, b4⟩
            rw [Hm.out] at he
            subst he
            have ho4 := OwnRow.below hoX b4 (Nat.le_refl _)
            have hu4 := OwnInts.below huX b4 (Nat.le_refl _)
            have hb4 := hbX.next (Nat.le_refl _) b4
            go_wp2_with (at_builtin; refine wp_app_int _ rfl _ _ rfl w3.heap.size _ (rebL (runE l a 0).1 b k) rfl hu4 (k : Int) _ rfl rfl h8 hb4.size ?_; intro v5 w5 hu5 hg5)
            have ho5 := hap.symm.keepR ho4 hg5
            have ap5 := (hap.symm.grew ho4 hg5).symm
            go_roundw
            case rel => exact ⟨k + 1, by omega, by go_num, by rw [s1.out]; exact ho5, by rw [s2.out]; exact hu5, ap5, hb4.trans hg5.below⟩
            case measure => simp [intOf]; omega
          · have hs := reb_t hlt hm
            have s1 := Lib.hid hs.1
            have s2 := Lib.hid hs.2
            clear hs
            have Hm := Lib.hid hm
            clear hm
            go_wp2_with fail
            refine (containsI_any _ (fitSt (runE l a 0).1 b b.length).2.1 (k : Int) _ hzX).mono ?_; rintro e w4 ⟨he, b4⟩
            rw [Hm.out] at he
            subst he
            have ho4 := OwnRow.below hoX b4 (Nat.le_refl _)
            have hu4 := OwnInts.below huX b4 (Nat.le_refl _)
            have hb4 := hbX.next (Nat.le_refl _) b4
            have y0 : w4.cell? ⟨wr.heap.size, 0, none⟩ = some (.int .i64 (gx edtRec b k).e) := Below.keepC b4 (by go_simp) (Nat.le_refl _)
            have y1 : w4.cell? ⟨wr.heap.size, 1, none⟩ = some (.int .i64 (gx edtRec b k).p) := Below.keepC b4 (by go_simp) (Nat.le_refl _)
            have y2 : w4.cell? ⟨wr.heap.size, 2, none⟩ = some (.int .i64 (gx edtRec b k).bx) := Below.keepC b4 (by go_simp) (Nat.le_refl _)
            have y3 : w4.cell? ⟨wr.heap.size, 3, none⟩ = some (.int .i64 (gx edtRec b k).bY) := Below.keepC b4 (by go_simp) (Nat.le_refl _)
            have y4 : w4.cell? ⟨wr.heap.size, 4, none⟩ = some (.int .i64 (gx edtRec b k).ax) := Below.keepC b4 (by go_simp) (Nat.le_refl _)
            have y5 : w4.cell? ⟨wr.heap.size, 5, none⟩ = some (.int .i64 (gx edtRec b k).aY) := Below.keepC b4 (by go_simp) (Nat.le_refl _)
            go_wp2_with (at_builtin; refine wp_app_edt _ rfl _ _ rfl w3.heap.size _ (rebO (runE l a 0).1 b k) rfl ho4 (gx edtRec b k) _ rfl rfl h9 hb4.size ?_; intro v5 w5 ho5 hg5)
            have hu5 := hap.keepI hu4 hg5
            have ap5 := hap.grew hu4 hg5
            go_roundw
            case rel => exact ⟨k + 1, by omega, by go_num, by rw [s1.out]; exact ho5, by rw [s2.out]; exact hu5, ap5, hb4.trans hg5.below⟩
            case measure => simp [intOf]; omega
        · obtain rfl : k = b.length := by omega
          have ho2 := Lib.hid (OwnRow.lo ho b13.size)
          have hu2 := Lib.hid (ints_lo hu b13.size)
          clear ho hu
          go_wp2_with fail
          go_ret3
          exact ⟨_, _, by rw [hr.out]; rfl, by rw [hr.out]; exact ho2.out, by rw [hr.out]; exact hu2.out, hap, b13.next (Nat.le_refl _) hb⟩
set_option maxHeartbeats 6400000 in
theorem specRebase (v va vb : Value) (l : List Spt) (a b : List Edt) (w : World) (h : RowAt sptRec w v l) (hA : RowAt edtRec w va a) (hB : RowAt edtRec w vb b) :
    Calls Tryd.prog 7 #[v, va, vb] w (FreshRebase w (rRebase l a b)) := by
  obtain ⟨B, d, rfl, hnd, hd63⟩ := hB.shape
  cases h0 : isChart l
  · have hr := Lib.hid (rRebase_no1 (b := b) (show (rWhole l a).2 = false by rw [rWhole_no1 h0]))
    go_enter Tryd.func7, Tryd.ntmps7
    go_wp2_with fail
    refine (chGood_any _ l _ h).mono ?_; rintro e w1 ⟨rfl, b1⟩
    go_wp2_with fail
    go_ret3
    exact ⟨_, _, by rw [hr.out]; rfl, by rw [hr.out]; exact OwnRow.nil_ edtRec _ _, by rw [hr.out]; exact OwnInts.nil_ _ _, (fun g h1 h2 => by cases h1), b1⟩
  cases hab : (areEdts a && areEdts b)
  · have hr := Lib.hid (rRebase_no0 (l := l) hab)
    go_enter Tryd.func7, Tryd.ntmps7
    go_wp2_with fail
    refine (chGood_any _ l _ h).mono ?_; rintro e w1 ⟨rfl, b1⟩
    have hA1 := hA.below b1 (Nat.le_refl _)
    have hB1 := hB.below b1 (Nat.le_refl _)
    go_wp2_with fail
    refine (mgTwo_lit _ _ a b false _ hA1 hB1 hab).mono ?_; rintro e w2 ⟨rfl, b2⟩
    go_wp2_with fail
    go_ret3
    exact ⟨_, _, by rw [hr.out]; rfl, by rw [hr.out]; exact OwnRow.nil_ edtRec _ _, by rw [hr.out]; exact OwnInts.nil_ _ _, (fun g h1 h2 => by cases h1), b1.next (Nat.le_refl _) b2⟩
  have hab2 := hab
  rw [Bool.and_eq_true] at hab2
  obtain ⟨ha, h2⟩ := hab2
  have Hc := Lib.hid h0
  have Ha := Lib.hid ha
  have Hab := Lib.hid hab
  clear ha hab
  cases h1 : (rWhole l a).2
  · have hr := Lib.hid (rRebase_no1 (b := b) h1)
    go_enter Tryd.func7, Tryd.ntmps7
    go_wp2_with fail
    refine (chGood_any _ l _ h).mono ?_; rintro e w1 ⟨rfl, b1⟩
    have hA1 := hA.below b1 (Nat.le_refl _)
    have hB1 := hB.below b1 (Nat.le_refl _)
    go_wp2_with fail
    refine (mgTwo_lit _ _ a b true _ hA1 hB1 Hab.out).mono ?_; rintro e w2 ⟨rfl, b2⟩
    have b12 := b1.next (Nat.le_refl _) b2
    go_wp2_with fail
    refine (mgWhole_any _ _ l a _ (h.below b12 (Nat.le_refl _)) (hA.below b12 (Nat.le_refl _)) Hc Ha).mono ?_; rintro e w3 ⟨x, rfl, ox, b3⟩
    have b13 := b12.next (Nat.le_refl _) b3
    clear ox
    go_wp2_with fail
    go_ret3
    exact ⟨_, _, by rw [hr.out]; rfl, by rw [hr.out]; exact OwnRow.nil_ edtRec _ _, by rw [hr.out]; exact OwnInts.nil_ _ _, (fun g h1 h2 => by cases h1), b13⟩
  · have hr := Lib.hid (rRebase_yes h1 h2)
    have hw := rWhole_t h1
    obtain ⟨hc, _, hx⟩ := hw
    have hp := chart_pos hc
    obtain ⟨hl0, hl12⟩ := hp
    have Hxl := Lib.hid (run_len1 l a)
    have hg0 := areEdts_t h2
    obtain ⟨h30, hg1⟩ := hg0
    have hg := Lib.hid hg1
    have Hx := Lib.hid hx
    have hIl := (fitSt_len (runE l a 0).1 b b.length).2
    have hI30 : (fitSt (runE l a 0).1 b b.length).2.1.length ≤ 30 := by omega
    clear hg1 hx hIl
    go_enter Tryd.func7, Tryd.ntmps7
    go_wp2_with fail
    refine (chGood_any _ l _ h).mono ?_; rintro e w1 ⟨rfl, b1⟩
    have hA1 := hA.below b1 (Nat.le_refl _)
    have hB1 := hB.below b1 (Nat.le_refl _)
    go_wp2_with fail
    refine (mgTwo_lit _ _ a b true _ hA1 hB1 Hab.out).mono ?_; rintro e w2 ⟨rfl, b2⟩
    have b12 := b1.next (Nat.le_refl _) b2
    go_wp2_with fail
    refine (mgWhole_any _ _ l a _ (h.below b12 (Nat.le_refl _)) (hA.below b12 (Nat.le_refl _)) Hc Ha).mono ?_; rintro e w3 ⟨x, rfl, ox, b3⟩
    rw [Hx.out] at ox
    have b13 := b12.next (Nat.le_refl _) b3
    go_wp2_with fail
    refine (mgFit_any _ _ (runE l a 0).1 b _ ox.reads (hB.below b13 (Nat.le_refl _)) (by have := Hxl.out; omega) (by have := Hxl.out; omega) (by omega) hg).mono ?_; rintro e w4 ⟨t, y, z, rfl, ot, oy, oz, ap1, ap2, ap3, b4⟩
    have b14 := b13.next (Nat.le_refl _) b4
    have hB4 := hB.below b14 (Nat.le_refl _)
    have hy4 := oy.reads
    obtain ⟨Y, cy, rfl, hny, hcy⟩ := hy4.shape
    have oz4 := ints_lo oz b13.size
    clear ox ot oy oz ap1 ap2 ap3 h1 h2
    go_wp2_with fail
    go_loopw [14, 43] (fun t s wr => ∃ j : Nat, j ≤ (fitSt (runE l a 0).1 b b.length).2.1.length ∧ s = .int .i64 j ∧ OwnRow edtRec wr w4.heap.size t (outE b ((fitSt (runE l a 0).1 b b.length).2.1.take j)) ∧ Below w4.heap.size w4 wr) (fun _ s _ => (fitSt (runE l a 0).1 b b.length).2.1.length - (intOf s).toNat)
    case atStart => exact ⟨0, Nat.zero_le _, rfl, OwnRow.nil_ edtRec _ _, Below.refl _ _⟩
    case round =>
      obtain ⟨j, hj, rfl, ho, hb⟩ := hrel
      by_cases hlt : j < (fitSt (runE l a 0).1 b b.length).2.1.length
      · have hin := fitSt_in (runE l a 0).1 b b.length (gi (fitSt (runE l a 0).1 b b.length).2.1 j) (gi_mem hlt)
        have hst := outE_take b (fitSt (runE l a 0).1 b b.length).2.1 j hlt
        obtain ⟨b', o, rfl, hcy0⟩ := IntsAt.at_ (hy4.below hb (Nat.le_refl _)) j hlt
        obtain ⟨n, hn⟩ := Int.eq_ofNat_of_zero_le hin.1
        rw [hn] at hst hcy0 hin
        have hnl : n < b.length := by omega
        have hn0 : (0 : Int) ≤ (n : Int) := by omega
        have hn1 : (n : Int) < (b.length : Int) := by omega
        have Hst := Lib.hid hst
        have hol : (outE b ((fitSt (runE l a 0).1 b b.length).2.1.take j)).length = j := by rw [outE_len, List.length_take]; omega
        have h9 : (outE b ((fitSt (runE l a 0).1 b b.length).2.1.take j)).length + 1 ≤ 1099511627776 := by omega
        clear hst hn hin hol
        obtain ⟨b'', o', rfl, hc0, hc1, hc2, hc3, hc4, hc5⟩ := edt_at (hB4.below hb (Nat.le_refl _)) n hnl
        have hsz := hb.size
        go_wp2_with (at_builtin; refine wp_app_edt _ rfl _ _ rfl w4.heap.size _ (outE b ((fitSt (runE l a 0).1 b b.length).2.1.take j)) rfl ho (gx edtRec b n) _ rfl rfl h9 hsz ?_; intro v5 w5 ho5 hg5)
        go_roundw
        case rel => exact ⟨j + 1, by omega, by go_num, by rw [Hst.out]; exact ho5, hb.trans hg5.below⟩
        case measure => simp [intOf]; omega
      · obtain rfl : j = (fitSt (runE l a 0).1 b b.length).2.1.length := by omega
        rw [List.take_length] at ho
        have ap : Apt u14 z := fun g g1 g2 => by have q1 := (World.ownsRow.lt ho g g1).1; have q2 := (World.ownsRow.lt oz4 g g2).2; omega
        have ho2 : Hid (OwnRow edtRec wr w.heap.size u14 (rebO (runE l a 0).1 b b.length)) := OwnRow.lo ho b14.size
        have oz5 : Hid (OwnInts wr w.heap.size z (rebL (runE l a 0).1 b b.length)) := OwnInts.below oz4 hb (Nat.le_refl _)
        clear ho oz4
        go_wp2_with fail
        go_ret3
        exact ⟨_, _, by rw [hr.out]; rfl, by rw [hr.out]; exact ho2.out, by rw [hr.out]; exact oz5.out, ap, b14.next (Nat.le_refl _) hb⟩
end Go.Proofs.YtiondgflpimdmaaDoor
