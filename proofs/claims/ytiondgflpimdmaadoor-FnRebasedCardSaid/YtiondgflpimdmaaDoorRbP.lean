/- Plain facts for the law on rebased edits. No function of the program. -/
import Derived.Test.YtiondgflpimdmaaDoorMgP
import Derived.Test.YtiondgflpimdmaaDoorEditRebase
import Derived.Test.YtiondgflpimdmaaDoorEditWithout
import Derived.Test.YtiondgflpimdmaaDoorEditCommute
import Derived.Test.YtiondgflpimdmaaDoorMQ
set_option linter.unusedSimpArgs false
set_option linter.unusedVariables false
namespace Go.Proofs.YtiondgflpimdmaaDoor
open Go.RowKit

theorem rComm_sym (l : List Spt) (x y : Edt) : rComm l x y = rComm l y x := by
  cases h1 : isChart l
  · rw [rComm_no1 h1, rComm_no1 h1]
  · cases h2 : isEdt x
    · rw [rComm_no2 h2, rComm_no3 h2]
    · cases h3 : isEdt y
      · rw [rComm_no3 h3, rComm_no2 h3]
      · rw [rComm_yes h1 h2 h3, rComm_yes h1 h3 h2]
        have e1 : decide (sTwo l x y = sTwo l y x) = decide (sTwo l y x = sTwo l x y) := by
          rw [Bool.eq_iff_iff, decide_eq_true_iff, decide_eq_true_iff]; exact ⟨Eq.symm, Eq.symm⟩
        rw [e1, Bool.and_comm (nTwo l x y)]
theorem runE_append (a b : List Edt) : ∀ (s : List Spt) (n : Nat), runE s (a ++ b) n = if (runE s a n).2 = n + a.length then runE (runE s a n).1 b (n + a.length) else runE s a n := by
  induction a with
  | nil => intro s n; simp [runE]
  | cons e a ih =>
    intro s n
    rw [List.cons_append]
    conv => lhs; unfold runE
    have e1 : runE s (e :: a) n = if fitsB s e.p.toNat e.b e.a then runE (s.set e.p.toNat e.a) a (n + 1) else (s, n) := by rw [runE]
    rw [e1]
    by_cases hf : fitsB s e.p.toNat e.b e.a = true
    · rw [if_pos hf, if_pos hf, ih]
      have e2 : n + 1 + a.length = n + (e :: a).length := by simp; omega
      rw [e2]
    · rw [if_neg hf, if_neg hf, if_neg (by simp)]
theorem runE_one (s : List Spt) (e : Edt) (n : Nat) : runE s [e] n = if fitsB s e.p.toNat e.b e.a then (s.set e.p.toNat e.a, n + 1) else (s, n) := by
  unfold runE; split
  · rfl
  · rfl
theorem rebO_t {l : List Spt} {es : List Edt} {k : Nat} (h : fitAt l es k = true) : rebO l es (k + 1) = rebO l es k ++ [gx edtRec es k] := by
  unfold rebO; rw [(fitSt_t h).1, outE_snoc]
theorem rebO_f {l : List Spt} {es : List Edt} {k : Nat} (h : fitAt l es k = false) : rebO l es (k + 1) = rebO l es k := by
  unfold rebO; rw [(fitSt_f h).1]
theorem fitSt_t1 {l : List Spt} {es : List Edt} {k : Nat} (h : fitAt l es k = true) : (fitSt l es (k + 1)).1 = (fitSt l es k).1.set (gx edtRec es k).p.toNat (gx edtRec es k).a := by
  unfold fitAt at h
  conv => lhs; unfold fitSt
  rw [if_pos h]
theorem fitSt_f1 {l : List Spt} {es : List Edt} {k : Nat} (h : fitAt l es k = false) : (fitSt l es (k + 1)).1 = (fitSt l es k).1 := by
  unfold fitAt at h
  conv => lhs; unfold fitSt
  rw [if_neg (by rw [h]; decide)]
/-- What fits is whole. -/
theorem run_fit (l : List Spt) (es : List Edt) (n k : Nat) : runE l (rebO l es k) n = ((fitSt l es k).1, n + (rebO l es k).length) := by
  induction k with
  | zero => rfl
  | succ k ih =>
    cases h : fitAt l es k
    · rw [rebO_f h, fitSt_f1 h]; exact ih
    · rw [rebO_t h, fitSt_t1 h, runE_append, ih, if_pos rfl, runE_one, List.length_append]
      have h9 : fitsB (fitSt l es k).1 (gx edtRec es k).p.toNat (gx edtRec es k).b (gx edtRec es k).a = true := h
      rw [if_pos h9]
      rfl
theorem rebO_all {l : List Spt} {es : List Edt} {k : Nat} (hk : k ≤ es.length) (h : ∀ e ∈ es, isEdt e = true) : ∀ e ∈ rebO l es k, isEdt e = true := by
  intro e he
  unfold rebO outE at he
  rw [List.mem_map] at he
  obtain ⟨i, hi, rfl⟩ := he
  have h1 := fitSt_in l es k i hi
  exact h _ (gx_mem (by omega))
theorem areEdts_of {es : List Edt} (h : ∀ e ∈ es, isEdt e = true) (hl : es.length ≤ 30) : areEdts es = true := by
  unfold areEdts
  rw [Bool.and_eq_true, List.all_eq_true]
  exact ⟨h, decide_eq_true (by omega)⟩
theorem areEdts_big {es : List Edt} (hl : 30 < es.length) : areEdts es = false := by
  unfold areEdts
  rw [decide_eq_false (by omega)]; simp
/-- Whole edits all fit. -/
theorem fit_whole (l : List Spt) (es : List Edt) (t : List Spt) (h : runE l es 0 = (t, es.length)) (k : Nat) (hk : k ≤ es.length) :
    runE l (es.take k) 0 = ((fitSt l es k).1, k) ∧ (fitSt l es k).2.1.length = k := by
  induction k with
  | zero => exact ⟨rfl, rfl⟩
  | succ k ih =>
    obtain ⟨h1, h2⟩ := ih (by omega)
    have ht : es.take (k + 1) = es.take k ++ [gx edtRec es k] := take_succ_gx edtRec es k (by omega)
    have hlk : (es.take k).length = k := by rw [List.length_take]; omega
    have hr : runE l (es.take (k + 1)) 0 = runE (fitSt l es k).1 [gx edtRec es k] k := by
      rw [ht, runE_append, h1, hlk, if_pos (by omega), Nat.zero_add]
    cases hf : fitAt l es k
    · exfalso
      have h9 : fitsB (fitSt l es k).1 (gx edtRec es k).p.toNat (gx edtRec es k).b (gx edtRec es k).a = false := hf
      rw [runE_one, h9] at hr
      have hs : es = es.take (k + 1) ++ es.drop (k + 1) := (List.take_append_drop _ _).symm
      have hlk1 : (es.take (k + 1)).length = k + 1 := by rw [List.length_take]; omega
      have h5 : runE l es 0 = runE l (es.take (k + 1)) 0 := by
        conv => lhs; rw [hs]
        rw [runE_append, hlk1, hr, if_neg (by show ¬ k = 0 + (k + 1); omega)]
      rw [h, hr] at h5
      injection h5 with _ h6
      omega
    · have h9 : fitsB (fitSt l es k).1 (gx edtRec es k).p.toNat (gx edtRec es k).b (gx edtRec es k).a = true := hf
      rw [runE_one, h9] at hr
      refine ⟨by rw [hr, fitSt_t1 hf]; rfl, ?_⟩
      rw [(fitSt_t hf).1, List.length_append, h2]; rfl
theorem fitSt_chart {l : List Spt} {es : List Edt} (h : isChart l = true) (he : ∀ e ∈ es, isEdt e = true) (k : Nat) (hk : k ≤ es.length) : isChart (fitSt l es k).1 = true := by
  induction k with
  | zero => exact h
  | succ k ih =>
    cases hf : fitAt l es k
    · rw [fitSt_f1 hf]; exact ih (by omega)
    · rw [fitSt_t1 hf]
      have h9 : fitsB (fitSt l es k).1 (gx edtRec es k).p.toNat (gx edtRec es k).b (gx edtRec es k).a = true := hf
      exact chart_set (ih (by omega)) (edt_spot (he _ (gx_mem (by omega)))) (fits_t h9)
/-- What FittingEdits finds: whole, and found whole again. -/
structure FitF (l : List Spt) (es : List Edt) (I : List Int) (own : List Edt) (t : List Spt) (J : List Int) : Prop where
  ch : isChart l = true
  eo : own = outE es I
  ea : areEdts own = true
  ra : runE l own 0 = (t, own.length)
  lo : own.length = I.length
  l30 : I.length ≤ 30
  inn : ∀ j, j < I.length → ∃ n : Nat, gi I j = (n : Int) ∧ n < es.length
  fj : rFitting l own = (J, true)
  lj : J.length = own.length
theorem fit_ex {l : List Spt} {es : List Edt} {I : List Int} (h : rFitting l es = (I, true)) : ∃ own t J, FitF l es I own t J := by
  cases h1 : isChart l
  · rw [rFitting_no1 h1] at h; injection h with _ h; cases h
  cases h2 : areEdts es
  · rw [rFitting_no2 h2] at h; injection h with _ h; cases h
  rw [rFitting_yes h1 h2] at h
  injection h with h _
  subst h
  have q3 := (areEdts_t h2).1
  have q4 := (reb_len l es es.length).1
  have hr := run_fit l es 0 es.length
  rw [Nat.zero_add] at hr
  have ha : areEdts (rebO l es es.length) = true := areEdts_of (rebO_all (Nat.le_refl _) (edts_all h2)) (by omega)
  have hlen : (rebO l es es.length).length = (fitSt l es es.length).2.1.length := by unfold rebO; rw [outE_len]
  refine ⟨rebO l es es.length, (fitSt l es es.length).1, (fitSt l (rebO l es es.length) (rebO l es es.length).length).2.1, h1, rfl, ha, hr, hlen, by omega, ?_, rFitting_yes h1 ha, (fit_whole l _ _ hr _ (Nat.le_refl _)).2⟩
  intro j hj
  have h5 := fitSt_in l es es.length _ (gi_mem hj)
  exact ⟨(gi (fitSt l es es.length).2.1 j).toNat, by omega, by omega⟩
/-- What WithoutEditor returns. -/
theorem wo_ex {l : List Spt} {es : List Edt} {n : Int} {t : List Spt} {s : Int} (h : rWithout l es n = (t, s, true)) : isChart t = true ∧ 0 ≤ s ∧ s ≤ ((oth es n).length : Int) ∧ es.length ≤ 30 := by
  cases h1 : isChart l
  · rw [rWithout_no1 h1] at h; injection h with _ h; injection h with _ h; cases h
  cases h2 : areEdts es
  · rw [rWithout_no2 h2] at h; injection h with _ h; injection h with _ h; cases h
  cases h3 : inR n 1 9
  · rw [rWithout_no3 h3] at h; injection h with _ h; injection h with _ h; cases h
  rw [rWithout_yes h1 h2 h3] at h
  injection h with e1 h
  injection h with e2 _
  subst e1 e2
  have h5 := (woSt_len l es n).2
  refine ⟨?_, by omega, by omega, (areEdts_t h2).1⟩
  unfold woSt
  exact fitSt_chart h1 (fun e he => edts_all h2 e (List.mem_filter.1 he).1) _ (Nat.le_refl _)
/-- What RebaseEdits returns. -/
structure RebF (l : List Spt) (a b R : List Edt) (L : List Int) : Prop where
  ch : isChart l = true
  la : a.length ≤ 30
  lr : R.length ≤ 30
  ll : L.length ≤ 30
  lb : R.length + L.length = b.length
  all : a.length + R.length ≤ 30 → areEdts (a ++ R) = true
  big : 30 < a.length + R.length → areEdts (a ++ R) = false
  run : ∃ t, runE l (a ++ R) 0 = (t, (a ++ R).length)
theorem reb_ex {l : List Spt} {a b R : List Edt} {L : List Int} (h : rRebase l a b = (R, L, true)) : RebF l a b R L := by
  cases h1 : (rWhole l a).2
  · rw [rRebase_no1 h1] at h; injection h with _ h; injection h with _ h; cases h
  cases h2 : areEdts b
  · rw [rRebase_no2 h2] at h; injection h with _ h; injection h with _ h; cases h
  rw [rRebase_yes h1 h2] at h
  injection h with e1 h
  injection h with e2 _
  subst e1 e2
  obtain ⟨t1, t2, _⟩ := rWhole_t h1
  have hw := rWhole_n h1
  have q1 := reb_len (runE l a 0).1 b b.length
  have q2 := (areEdts_t h2).1
  have q3 := (areEdts_t t2).1
  have q4 := (fitSt_len (runE l a 0).1 b b.length).2
  refine ⟨t1, q3, by omega, by omega, ?_, ?_, ?_, ?_⟩
  · unfold rebO rebL; rw [outE_len]; exact q4
  · intro h9
    refine areEdts_of ?_ (by rw [List.length_append]; omega)
    intro e he
    rcases List.mem_append.1 he with he | he
    · exact edts_all t2 e he
    · exact rebO_all (Nat.le_refl _) (edts_all h2) e he
  · intro h9
    exact areEdts_big (by rw [List.length_append]; omega)
  · refine ⟨(fitSt (runE l a 0).1 b b.length).1, ?_⟩
    rw [runE_append, if_pos (by rw [hw]; omega), run_fit, List.length_append]
    simp
end Go.Proofs.YtiondgflpimdmaaDoor
/- Contracts of the helpers of the law on rebased edits. -/
set_option linter.unusedSimpArgs false
set_option linter.unusedVariables false
namespace Go.Proofs.YtiondgflpimdmaaDoor
open Go.RowKit Go.Sort
set_option maxHeartbeats 1600000 in
theorem qEdits_yes (v1 v2 : Value) (l : List Edt) (w : World) (h1 : RowAt edtRec w v1 l) (h2 : RowAt edtRec w v2 l) :
    Calls Tryd.prog 23 #[v1, v2] w fun e w' => e = .returned (.bool true) ∧ Below w.heap.size w w' := by
  obtain ⟨A, c, rfl, hnc, hc63⟩ := h1.shape
  obtain ⟨B, d, rfl, hnd, hd63⟩ := h2.shape
  go_enter Tryd.func23, Tryd.ntmps23
  go_wp2_with fail
  go_loopw [13] (fun i wr => ∃ k : Nat, k ≤ l.length ∧ i = .int .i64 k ∧ Below w.heap.size w wr) (fun i _ => l.length - (intOf i).toNat)
  case atStart => exact ⟨0, Nat.zero_le _, rfl, Below.refl _ _⟩
  case round =>
    obtain ⟨k, hk, rfl, hb⟩ := hrel
    by_cases hlt : k < l.length
    · obtain ⟨b, o, rfl, c0, c1, c2, c3, c4, c5⟩ := edt_at (h1.below hb (Nat.le_refl _)) k hlt
      obtain ⟨b', o', rfl, d0, d1, d2, d3, d4, d5⟩ := edt_at (h2.below hb (Nat.le_refl _)) k hlt
      have hi0 : (0 : Int) ≤ (k : Int) := by omega
      have hi1 : (k : Int) < (l.length : Int) := by omega
      go_wp2_with fail
      go_quiet (fail)
      go_wp2_with fail
      go_roundw
      case rel => exact ⟨k + 1, by omega, by go_num, hb.drewN _⟩
      case measure => simp [intOf]; omega
    · go_wp2_with fail
      go_ret
      exact ⟨rfl, hb⟩
set_option maxHeartbeats 1600000 in
theorem implApplyNo (v ve : Value) (l : List Spt) (es : List Edt) (w : World) (h : RowAt sptRec w v l) (hE : RowAt edtRec w ve es) (h1 : isChart l = true) (h2 : areEdts es = false) :
    Calls Tryd.prog 26 #[v, ve] w fun e w' => e = .returned (.tuple #[.slice none 0 0, .int .i64 0, .bool false]) ∧ Below w.heap.size w w' := by
  have C1 := Lib.hid (implIsChart v l w h)
  rw [h1] at C1
  go_enter Tryd.func26, Tryd.ntmps26
  go_wp2_with fail
  refine C1.out.mono ?_; rintro e w1 ⟨rfl, b1⟩
  have hE1 := hE.below b1 (Nat.le_refl _)
  have C2 := Lib.hid (areEdits_any ve es w1 hE1)
  rw [h2] at C2
  go_wp2_with fail
  refine C2.out.mono ?_; rintro e w2 ⟨rfl, b2⟩
  have b12 := b1.next (Nat.le_refl _) b2
  go_wp2_with fail
  go_ret3
  exact ⟨rfl, b12⟩
end Go.Proofs.YtiondgflpimdmaaDoor
