/- Contracts of the reference's functions that read and write spots' texts. -/
import Derived.Test.YtombnhnhbocceaaGreatDoorSpW
set_option linter.unusedSimpArgs false
set_option linter.unusedVariables false
namespace Go.Proofs.YtombnhnhbocceaaGreatDoor
open Go.RowKit Go.Sort

theorem stpT_len (n : Nat) (h : n ≤ 1000000) : (stpT n).length ≤ 8 ∧ 1 ≤ (stpT n).length := by
  have h1 := dec_len 6 (n / 8) (by omega) (by omega)
  have h2 := dec_len 1 (n % 8) (by omega) (by omega)
  unfold stpT
  split
  · omega
  · simp only [List.length_append, List.length_cons]; omega
set_option maxRecDepth 100000 in
set_option maxHeartbeats 1600000 in
theorem stPart_any (n : Nat) (w : World) (hn : n ≤ 1000000) :
    Calls Tryz.prog 80 #[.int .i64 n] w fun e w' => e = .returned (.string (mkS (stpT n))) ∧ Below w.heap.size w w' := by
  have e2 : (n : Int).tmod 8 = ((n % 8 : Nat) : Int) := Int.tmod_eq_emod_of_nonneg (by omega)
  have e3 : (n : Int).tdiv 8 = ((n / 8 : Nat) : Int) := Int.tdiv_eq_ediv_of_nonneg (by omega)
  have e4 : (n : Int) / 8 = ((n / 8 : Nat) : Int) := rfl
  have e5 : (n : Int) % 8 = ((n % 8 : Nat) : Int) := rfl
  have C1 := Lib.hid (fun W => l1Num_any (n / 8) W (by omega))
  have C2 := Lib.hid (fun W => l1Num_any (n % 8) W (by omega))
  obtain ⟨z1, _⟩ := decB_size (n / 8) (by omega)
  obtain ⟨z2, _⟩ := decB_size (n % 8) (by omega)
  have s1 : (⟨#[43]⟩ : ByteArray).size = 1 := rfl
  have hr : Hid (mkS (stpT n) = if n % 8 = 0 then decB (n / 8) else decB (n / 8) ++ ⟨#[43]⟩ ++ decB (n % 8)) := by
    show _ = _
    unfold stpT
    split
    · rfl
    · refine ba_eq ?_
      rw [mkS_data]
      simp [ByteArray.data_append, decB]
  obtain ⟨q, hq⟩ : ∃ q, q = n / 8 := ⟨_, rfl⟩
  obtain ⟨r, hr8⟩ : ∃ r, r = n % 8 := ⟨_, rfl⟩
  rw [← hq] at e3 e4 C1 z1 hr
  rw [← hr8] at e2 e5 C2 z2 hr
  have hq1 : q ≤ 1000000 := by omega
  have hr1 : r ≤ 7 := by omega
  have w1 : IntKind.i64.wrap (q : Int) = (q : Int) := IntWalk.i64_in _ (by omega)
  have w2 : IntKind.i64.wrap (r : Int) = (r : Int) := IntWalk.i64_in _ (by omega)
  clear hq hr8
  by_cases h0 : r = 0
  · subst h0
    go_enter Tryz.func80, Tryz.ntmps80
    go_wp2_with fail
    refine (C1.out _).mono ?_; rintro e w1 ⟨rfl, b1⟩
    go_wp2_with fail
    go_ret
    exact ⟨by rw [hr.out]; simp, b1⟩
  · have hb : ((r : Int) == 0) = false := by rw [beq_eq_false_iff_ne]; omega
    go_enter Tryz.func80, Tryz.ntmps80
    go_wp2_with fail
    refine (C1.out _).mono ?_; rintro e w1 ⟨rfl, b1⟩
    go_wp2_with fail
    refine (C2.out _).mono ?_; rintro e w2 ⟨rfl, b2⟩
    go_wp2_with fail
    go_ret
    exact ⟨by rw [hr.out, if_neg h0]; rfl, b1.next (Nat.le_refl _) b2⟩
theorem spB_eq (X Y : Nat) : mkS (stpT X) ++ ⟨#[44]⟩ ++ mkS (stpT Y) = spB X Y := by
  unfold spB spT
  refine ba_eq ?_
  rw [mkS_data]
  simp [ByteArray.data_append, mkS]
theorem spB_size (X Y : Nat) (hX : X ≤ 1000000) (hY : Y ≤ 1000000) : (spB X Y).size ≤ 17 ∧ 3 ≤ (spB X Y).size := by
  have h1 := stpT_len X hX
  have h2 := stpT_len Y hY
  rw [← spB_eq]
  simp only [ByteArray.size_append, mkS_size]
  have : (⟨#[44]⟩ : ByteArray).size = 1 := rfl
  omega
set_option maxRecDepth 100000 in
set_option maxHeartbeats 1600000 in
theorem stText_any (X Y : Nat) (w : World) (hX : X ≤ 1000000) (hY : Y ≤ 1000000) :
    Calls Tryz.prog 63 #[.agg #[.int .i64 X, .int .i64 Y]] w fun e w' => e = .returned (.string (spB X Y)) ∧ Below w.heap.size w w' := by
  obtain ⟨V, hV⟩ : ∃ V, V = w.alloc (.cells #[.int .i64 X, .int .i64 Y] 37) := ⟨_, rfl⟩
  have bV : Below w.heap.size w V := by rw [hV]; exact (Below.refl _ _).alloc (Nat.le_refl _) _
  have zV : BoxS V w.heap.size X Y := by rw [hV]; exact BoxS.new w X Y
  obtain ⟨c0, c1, _, _⟩ := zV.cells
  have k0 := cell_regrown c0
  have k1 := cell_regrown c1
  have hr := Lib.hid (spB_eq X Y)
  obtain ⟨z1, _⟩ := stpT_len X hX
  obtain ⟨z2, _⟩ := stpT_len Y hY
  have y1 : (mkS (stpT X)).size ≤ 8 := by rw [mkS_size]; exact z1
  have y2 : (mkS (stpT Y)).size ≤ 8 := by rw [mkS_size]; exact z2
  have s1 : (⟨#[44]⟩ : ByteArray).size = 1 := rfl
  have cX : ∀ d os, Calls Tryz.prog 80 #[.int .i64 (X : Nat)] (grow (redrawn V d) os) (fun e w'' => e = .returned (.string (mkS (stpT X))) ∧ ∃ p : Regrown, w'' = grow (redrawn V p.d) p.os) := fun d os => rg_below (stPart_any X _ hX)
  have cY : ∀ d os, Calls Tryz.prog 80 #[.int .i64 (Y : Nat)] (grow (redrawn V d) os) (fun e w'' => e = .returned (.string (mkS (stpT Y))) ∧ ∃ p : Regrown, w'' = grow (redrawn V p.d) p.os) := fun d os => rg_below (stPart_any Y _ hY)
  have HV := Lib.hid hV
  clear hV zV
  go_enter Tryz.func63, Tryz.ntmps63
  go_upto_region 1 with fail
  rw [← HV.out]
  (refine wp_region_quiet_below (by kernel_rfl) (by kernel_rfl) ?_; (repeat (go_big_quiet_step (first | with_reducible exact cX _ _ | with_reducible exact cY _ _))); refine wpQuiet_nil ?_; intro _ hw'; obtain ⟨⟨dq, osq⟩, hw''⟩ := hw'; subst hw'')
  go_wp2_with fail
  go_ret
  exact ⟨by rw [← hr.out]; rfl, RG.below bV bV.size dq osq⟩
theorem srR_1 {s a : ByteArray} (h : splB 43 s = [a]) (h2 : rdR a < 0) : srR s = -1 := by unfold srR; rw [h]; simp only; rw [if_pos h2]
theorem srR_2 {s a : ByteArray} (h : splB 43 s = [a]) (h2 : ¬ rdR a < 0) : srR s = 8 * rdR a := by unfold srR; rw [h]; simp only; rw [if_neg h2]
theorem srR_3 {s a b : ByteArray} (h : splB 43 s = [a, b]) (h2 : rdR a < 0) : srR s = -1 := by unfold srR; rw [h]; simp only; rw [if_pos h2]
theorem srR_4 {s a b : ByteArray} (h : splB 43 s = [a, b]) (h2 : ¬ rdR a < 0) (h3 : inR (rdR b) 1 7 = false) : srR s = -1 := by unfold srR; rw [h]; simp only; rw [if_neg h2, if_neg (by rw [inR_f] at h3; omega)]
theorem srR_5 {s a b : ByteArray} (h : splB 43 s = [a, b]) (h2 : ¬ rdR a < 0) (h3 : inR (rdR b) 1 7 = true) : srR s = 8 * rdR a + rdR b := by unfold srR; rw [h]; simp only; rw [if_neg h2, if_pos (by rw [inR_t] at h3; omega)]
theorem srR_6 {s : ByteArray} (h : 2 < (splB 43 s).length) : srR s = -1 := by
  unfold srR
  split
  · rename_i h2; rw [h2] at h; simp at h
  · rename_i h2; rw [h2] at h; simp at h
  · rfl
set_option maxRecDepth 100000 in
set_option maxHeartbeats 3200000 in
theorem stRead_any (s : ByteArray) (w : World) (hs : s.size ≤ 4194304) :
    Calls Tryz.prog 73 #[.string s] w fun e w' => e = .returned (.int .i64 (srR s)) ∧ Below w.heap.size w w' := by
  have CS := Lib.hid (l1Split_any s 43 43 rfl w hs)
  have hwl := splB_len 43 s
  obtain ⟨hwl1, hwl2⟩ := hwl
  have hwg := Lib.hid (fun i (h : i < (splB 43 s).length) => gx_size h)
  have h6 := Lib.hid (fun h => srR_6 (s := s) h)
  have h1 := Lib.hid (fun a h => srR_1 (s := s) (a := a) h)
  have h2 := Lib.hid (fun a h => srR_2 (s := s) (a := a) h)
  have h3 := Lib.hid (fun a b h => srR_3 (s := s) (a := a) (b := b) h)
  have h4 := Lib.hid (fun a b h => srR_4 (s := s) (a := a) (b := b) h)
  have h5 := Lib.hid (fun a b h => srR_5 (s := s) (a := a) (b := b) h)
  obtain ⟨P, hP⟩ : ∃ P, P = splB 43 s := ⟨_, rfl⟩
  rw [← hP] at CS hwl1 hwl2 hwg h6 h1 h2 h3 h4 h5
  clear hP
  match P with
  | [] => simp at hwl2
  | [a] =>
    have za := hwg.out 0 (by simp)
    have CA := Lib.hid (fun W => l1Read_any a W (by have : (gx strRec [a] 0) = a := rfl; rw [this] at za; omega))
    have bd := rdR_bd a
    have g1 := Lib.hid (h1.out a rfl)
    have g2 := Lib.hid (h2.out a rfl)
    obtain ⟨z, hz⟩ : ∃ z, z = rdR a := ⟨_, rfl⟩
    rw [← hz] at CA bd g1 g2
    clear hz h1 h2 h3 h4 h5 h6 hwg za
    go_enter Tryz.func73, Tryz.ntmps73
    go_wp2_with fail
    refine CS.out.mono ?_; rintro e w1 ⟨v, rfl, o1, b1⟩
    obtain ⟨A, c, rfl, hnc, hcc⟩ := o1.reads.shape
    obtain ⟨b, q, rfl, hc0⟩ := str_at o1.reads 0 (by simp)
    replace hc0 : w1.cell? ⟨b, q, none⟩ = some (.string a) := hc0
    simp only [List.length_singleton] at hnc ⊢
    clear CS
    by_cases hn : z < 0
    · have hx := Lib.hid (g1.out hn)
      go_wp2_with fail
      refine (CA.out _).mono ?_; rintro e _ ⟨rfl, rfl⟩
      go_wp2_with fail
      go_ret
      exact ⟨ret_int (by rw [hx.out]), b1⟩
    · have hx := Lib.hid (g2.out (by omega))
      go_wp2_with fail
      refine (CA.out _).mono ?_; rintro e _ ⟨rfl, rfl⟩
      go_wp2_with fail
      go_ret
      exact ⟨ret_int (by rw [hx.out]), b1⟩
  | [a, a2] =>
    have za := hwg.out 0 (by simp)
    have za2 := hwg.out 1 (by simp)
    have CA := Lib.hid (fun W => l1Read_any a W (by have : (gx strRec [a, a2] 0) = a := rfl; rw [this] at za; omega))
    have CB := Lib.hid (fun W => l1Read_any a2 W (by have : (gx strRec [a, a2] 1) = a2 := rfl; rw [this] at za2; omega))
    have bd := rdR_bd a
    have bd2 := rdR_bd a2
    have g1 := Lib.hid (h3.out a a2 rfl)
    have g2 := Lib.hid (h4.out a a2 rfl)
    have g3 := Lib.hid (h5.out a a2 rfl)
    obtain ⟨z, hz⟩ : ∃ z, z = rdR a := ⟨_, rfl⟩
    obtain ⟨y, hy⟩ : ∃ z, z = rdR a2 := ⟨_, rfl⟩
    rw [← hz] at CA bd g1 g2 g3
    rw [← hy] at CB bd2 g2 g3
    clear hz hy h1 h2 h3 h4 h5 h6 hwg za za2
    go_enter Tryz.func73, Tryz.ntmps73
    go_wp2_with fail
    refine CS.out.mono ?_; rintro e w1 ⟨v, rfl, o1, b1⟩
    obtain ⟨A, c, rfl, hnc, hcc⟩ := o1.reads.shape
    obtain ⟨b, q, rfl, hc0⟩ := str_at o1.reads 0 (by simp)
    obtain ⟨_, _, he1, hc1⟩ := str_at o1.reads 1 (by simp)
    injection he1 with he1; injection he1 with e1 e2; subst e1 e2
    replace hc0 : w1.cell? ⟨b, q, none⟩ = some (.string a) := hc0
    replace hc1 : w1.cell? ⟨b, q + 1, none⟩ = some (.string a2) := hc1
    simp only [List.length_cons, List.length_nil, Nat.zero_add] at hnc ⊢
    clear CS
    by_cases hn : z < 0
    · have hx := Lib.hid (g1.out hn)
      go_wp2_with fail
      refine (CA.out _).mono ?_; rintro e _ ⟨rfl, rfl⟩
      go_wp2_with fail
      go_ret
      exact ⟨ret_int (by rw [hx.out]), b1⟩
    · cases hin : inR y 1 7
      · have hx := Lib.hid (g2.out (by omega) hin)
        go_wp2_with fail
        refine (CA.out _).mono ?_; rintro e _ ⟨rfl, rfl⟩
        go_wp2_with fail
        refine (CB.out _).mono ?_; rintro e _ ⟨rfl, rfl⟩
        go_wp2_with (go_at_call 45; refine (l1In_any _ _ _ _).mono ?_; rintro e w' ⟨rfl, rfl⟩)
        go_ret
        exact ⟨ret_int (by rw [hx.out]), b1⟩
      · have hx := Lib.hid (g3.out (by omega) hin)
        go_wp2_with fail
        refine (CA.out _).mono ?_; rintro e _ ⟨rfl, rfl⟩
        go_wp2_with fail
        refine (CB.out _).mono ?_; rintro e _ ⟨rfl, rfl⟩
        go_wp2_with (go_at_call 45; refine (l1In_any _ _ _ _).mono ?_; rintro e w' ⟨rfl, rfl⟩)
        go_ret
        exact ⟨ret_int (by rw [hx.out]), b1⟩
  | a :: a2 :: a3 :: P =>
    have hx := Lib.hid (h6.out (by simp))
    have za := hwg.out 0 (by simp)
    have CA := Lib.hid (fun W => l1Read_any a W (by have : (gx strRec (a :: a2 :: a3 :: P) 0) = a := rfl; rw [this] at za; omega))
    obtain ⟨N, hN⟩ : ∃ N, N = (a :: a2 :: a3 :: P).length := ⟨_, rfl⟩
    have hN3 : 2 < N := by rw [hN]; simp
    clear h1 h2 h3 h4 h5 h6 hwg za
    go_enter Tryz.func73, Tryz.ntmps73
    go_wp2_with fail
    refine CS.out.mono ?_; rintro e w1 ⟨v, rfl, o1, b1⟩
    obtain ⟨A, c, rfl, hnc, hcc⟩ := o1.reads.shape
    obtain ⟨b, q, rfl, hc0⟩ := str_at o1.reads 0 (by simp)
    replace hc0 : w1.cell? ⟨b, q, none⟩ = some (.string a) := hc0
    rw [← hN] at hwl1 hwl2 hnc ⊢
    clear CS o1 hN
    go_wp2_with fail
    refine (CA.out _).mono ?_; rintro e _ ⟨rfl, rfl⟩
    go_wp2_with fail
    go_ret
    exact ⟨ret_int (by rw [hx.out]), b1⟩
end Go.Proofs.YtombnhnhbocceaaGreatDoor
