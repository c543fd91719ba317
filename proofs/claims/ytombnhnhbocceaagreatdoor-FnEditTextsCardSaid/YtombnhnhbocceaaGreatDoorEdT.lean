/- The text of edits, in the program (a strings.Builder, strconv.Itoa) and in the reference. -/
import Derived.Test.YtombnhnhbocceaaGreatDoorEdW
import Derived.Test.YtombnhnhbocceaaGreatDoorItoa
set_option linter.unusedSimpArgs false
set_option linter.unusedVariables false
namespace Go.Proofs.YtombnhnhbocceaaGreatDoor
open Go.RowKit Go.Sort

theorem isB_below {T e : TypeId} {B b : Nat} {bs : List Value} {w w' : World} (h : Lib.IsBuilder T e B b bs w) (hb : Below w.heap.size w w') : Lib.IsBuilder T e B b bs w' := by
  have key : ∀ p, Lib.BuilderAt T e B b p bs w → Lib.BuilderAt T e B b p bs w' := by
    rintro p ⟨h1, v, h2, h3, h4⟩
    refine ⟨h1, v, ?_, ?_, h4⟩
    · rw [hb.block b (Array.getElem?_eq_some_iff.1 h2).1]; exact h2
    · refine ⟨h3.1, ?_⟩
      rcases h3.2 with hn | ⟨g, cap, cur, rfl, hbg, hg, rest⟩
      · exact .inl hn
      · refine .inr ⟨g, cap, cur, rfl, hbg, ?_, rest⟩
        rw [hb.block g (Array.getElem?_eq_some_iff.1 hg).1]
        exact hg
  rcases h with h | h
  · exact .inl (key _ h)
  · exact .inr (key _ h)
theorem strCells_app (a b : ByteArray) : Lib.strCells (a ++ b) = Lib.strCells a ++ Lib.strCells b := by simp [Lib.strCells, ByteArray.data_append]
set_option maxRecDepth 100000 in
set_option maxHeartbeats 1600000 in
theorem stepsText_any (n : Nat) (w : World) (hp : Pow10 w) (hn : n ≤ 1000000) :
    Calls Tryz.prog 59 #[.int .i64 n] w fun e w' => e = .returned (.string (mkS (stpT n))) ∧ Below w.heap.size w w' := by
  have e2 : (n : Int).tmod 8 = ((n % 8 : Nat) : Int) := Int.tmod_eq_emod_of_nonneg (by omega)
  have e3 : (n : Int).tdiv 8 = ((n / 8 : Nat) : Int) := Int.tdiv_eq_ediv_of_nonneg (by omega)
  have e4 : (n : Int) / 8 = ((n / 8 : Nat) : Int) := rfl
  have e5 : (n : Int) % 8 = ((n % 8 : Nat) : Int) := rfl
  have C1 := Lib.hid (itoa_any (n / 8) w hp (by omega))
  have C2 := Lib.hid (fun W (h : Below w.heap.size w W) => itoa_any (n % 8) W (hp.below h (Nat.le_refl _)) (by omega))
  obtain ⟨z1, _⟩ := decB_size (n / 8) (by omega)
  obtain ⟨z2, _⟩ := decB_size (n % 8) (by omega)
  have s1 : (⟨#[43]⟩ : ByteArray).size = 1 := rfl
  have hr : Hid (mkS (stpT n) = if n % 8 = 0 then decB (n / 8) else decB (n / 8) ++ (⟨#[43]⟩ ++ decB (n % 8))) := by
    show _ = _
    unfold stpT
    split
    · rfl
    · refine ba_eq ?_
      rw [mkS_data]
      simp [ByteArray.data_append, decB]
  obtain ⟨q, hq⟩ : ∃ q, q = n / 8 := ⟨_, rfl⟩
  obtain ⟨r, hr8⟩ : ∃ r, r = n % 8 := ⟨_, rfl⟩
  rw [← hq] at e3 e4 C1 z1 hr
  rw [← hr8] at e2 e5 C2 z2 hr
  have hq1 : q ≤ 1000000 := by omega
  have hr1 : r ≤ 7 := by omega
  have w1 : IntKind.i64.wrap (q : Int) = (q : Int) := IntWalk.i64_in _ (by omega)
  have w2 : IntKind.i64.wrap (r : Int) = (r : Int) := IntWalk.i64_in _ (by omega)
  clear hq hr8
  by_cases h0 : r = 0
  · subst h0
    go_enter Tryz.func59, Tryz.ntmps59
    go_wp2_with fail
    refine C1.out.mono ?_; rintro e w1 ⟨rfl, b1⟩
    go_wp2_with fail
    go_ret
    exact ⟨by rw [hr.out]; simp, b1⟩
  · have hb : (0 : Int) < (r : Int) := by omega
    go_enter Tryz.func59, Tryz.ntmps59
    go_wp2_with fail
    refine C1.out.mono ?_; rintro e w1 ⟨rfl, b1⟩
    go_wp2_with fail
    refine (C2.out _ b1).mono ?_; rintro e w2 ⟨rfl, b2⟩
    go_wp2_with fail
    go_ret
    exact ⟨by rw [hr.out, if_neg h0]; rfl, b1.next (Nat.le_refl _) b2⟩
set_option maxRecDepth 100000 in
set_option maxHeartbeats 1600000 in
theorem spotText_any (X Y : Nat) (w : World) (hp : Pow10 w) (hs : isSpot X Y = true) :
    Calls Tryz.prog 29 #[.agg #[.int .i64 X, .int .i64 Y]] w fun e w' => e = .returned (.tuple #[.string (spB X Y), .bool true]) ∧ Below w.heap.size w w' := by
  have hb := isSpot_t hs
  have bX := (Below.refl w.heap.size w).alloc (Nat.le_refl _) (.cells #[.int .i64 X, .int .i64 Y] 37)
  obtain ⟨y0, y1⟩ : (w.alloc (.cells #[.int .i64 X, .int .i64 Y] 37)).cell? ⟨w.heap.size, 0, none⟩ = some (.int .i64 X) ∧ (w.alloc (.cells #[.int .i64 X, .int .i64 Y] 37)).cell? ⟨w.heap.size, 1, none⟩ = some (.int .i64 Y) := ⟨by simp, by simp⟩
  obtain ⟨W, hW⟩ : ∃ W : World, W = w.alloc (.cells #[.int .i64 X, .int .i64 Y] 37) := ⟨_, rfl⟩
  rw [← hW] at bX y0 y1
  have HW := Lib.hid hW
  clear hW
  have hE := Lib.hid (spB_eq X Y)
  have C0 := Lib.hid (implIsSpot X Y W)
  rw [hs] at C0
  obtain ⟨z1, _⟩ := stpT_len X (by omega)
  obtain ⟨z2, _⟩ := stpT_len Y (by omega)
  have s1 : (⟨#[44]⟩ : ByteArray).size = 1 := rfl
  obtain ⟨tX, htX⟩ : ∃ t, t = mkS (stpT X) := ⟨_, rfl⟩
  obtain ⟨tY, htY⟩ : ∃ t, t = mkS (stpT Y) := ⟨_, rfl⟩
  have zX : tX.size ≤ 8 := by rw [htX, mkS_size]; omega
  have zY : tY.size ≤ 8 := by rw [htY, mkS_size]; omega
  have CX := Lib.hid (fun V (h : Pow10 V) => stepsText_any X V h (by omega))
  have CY := Lib.hid (fun V (h : Pow10 V) => stepsText_any Y V h (by omega))
  rw [← htX] at CX hE
  rw [← htY] at CY hE
  clear htX htY
  go_enter Tryz.func29, Tryz.ntmps29
  go_upto_region 1 with fail
  rw [← HW.out]
  go_wp2_with fail
  refine C0.out.mono ?_; rintro e w1 ⟨rfl, b1⟩
  have bb := bX.next (Nat.le_refl _) b1
  have hp1 := hp.below bb (Nat.le_refl _)
  have y0' := Below.keepC b1 y0 (Nat.le_refl _)
  have y1' := Below.keepC b1 y1 (Nat.le_refl _)
  clear C0 y0 y1 b1 bX
  have k0 := cell_regrown y0'
  have k1 := cell_regrown y1'
  have cX : ∀ d os, Calls Tryz.prog 59 #[.int .i64 (X : Nat)] (grow (redrawn w1 d) os) (fun e w'' => e = .returned (.string tX) ∧ ∃ p : Regrown, w'' = grow (redrawn w1 p.d) p.os) := fun d os => rg_below (CX.out _ (hp1.below (below_regrown w1 d os) (Nat.le_refl _)))
  have cY : ∀ d os, Calls Tryz.prog 59 #[.int .i64 (Y : Nat)] (grow (redrawn w1 d) os) (fun e w'' => e = .returned (.string tY) ∧ ∃ p : Regrown, w'' = grow (redrawn w1 p.d) p.os) := fun d os => rg_below (CY.out _ (hp1.below (below_regrown w1 d os) (Nat.le_refl _)))
  have hb0 : w.heap.size ≤ w1.heap.size := bb.size
  go_upto_region 3 with fail
  (refine wp_region_quiet_below (by kernel_rfl) (by kernel_rfl) ?_; (repeat (go_big_quiet_step (first | with_reducible exact cX _ _ | with_reducible exact cY _ _))); refine wpQuiet_nil ?_; intro _ hw'; obtain ⟨⟨dq, osq⟩, hw''⟩ := hw'; subst hw'')
  go_wp2_with fail
  go_ret2
  exact ⟨by rw [← hE.out]; rfl, RG.below bb bb.size dq osq⟩
def TextPostE (w : World) (r : ByteArray × Bool) (e : Ending) (w' : World) : Prop := e = .returned (.tuple #[.string r.1, .bool r.2]) ∧ Below w.heap.size w w'
/-- What EditsText returns. -/
def eTextR (l : List Edt) : ByteArray × Bool := if areEdts l then (eText l, true) else (⟨#[]⟩, false)
theorem eTextR_no {l : List Edt} (h : areEdts l = false) : eTextR l = (⟨#[]⟩, false) := by unfold eTextR; rw [h]; rfl
theorem eTextR_yes {l : List Edt} (h : areEdts l = true) : eTextR l = (eText l, true) := by unfold eTextR; rw [h]; rfl
theorem specEditsText (v : Value) (l : List Edt) (w : World) (h : RowAt edtRec w v l) :
    Calls Tryz.prog 7 #[v] w (TextPostE w (eTextR l)) := by
  have HA := Lib.hid (edAll_any _ l w h)
  cases hv : areEdts l
  · have HR := Lib.hid (eTextR_no hv)
    rw [hv] at HA
    go_enter Tryz.func7, Tryz.ntmps7
    go_wp2_with fail
    refine HA.out.mono ?_; rintro e w1 ⟨rfl, b1⟩
    go_wp2_with fail
    go_ret2
    exact ⟨by rw [HR.out]; rfl, b1⟩
  · rw [hv] at HA
    have Hv := Lib.hid hv
    have HR := Lib.hid (eTextR_yes hv)
    clear hv
    go_enter Tryz.func7, Tryz.ntmps7
    go_wp2_with fail
    refine HA.out.mono ?_; rintro e w1 ⟨rfl, b1⟩
    have CS := Lib.hid (edText_any _ l w1 (h.below b1 (Nat.le_refl _)) Hv.out)
    go_wp2_with fail
    refine CS.out.mono ?_; rintro e w2 ⟨rfl, b2⟩
    go_wp2_with fail
    go_ret2
    exact ⟨by rw [HR.out]; rfl, b1.next (Nat.le_refl _) b2⟩
theorem eText_cells {l : List Edt} {n E P BX BY AX AY : Nat} (hn : n < l.length) (h1 : (gx edtRec l n).e = E) (h2 : (gx edtRec l n).p = P) (h3 : (gx edtRec l n).bx = BX) (h4 : (gx edtRec l n).bY = BY) (h5 : (gx edtRec l n).ax = AX) (h6 : (gx edtRec l n).aY = AY) :
    Lib.strCells (eText (l.take n)) ++ Lib.strCells (decB E ++ ⟨#[32]⟩ ++ decB P ++ ⟨#[32]⟩ ++ spB BX BY ++ ⟨#[32]⟩ ++ spB AX AY ++ ⟨#[10]⟩) = Lib.strCells (eText (l.take (n + 1))) := by
  rw [← strCells_app, eText_succ hn h1 h2 h3 h4 h5 h6]
set_option maxRecDepth 100000 in
set_option maxHeartbeats 6400000 in
theorem implEditsText (v : Value) (l : List Edt) (w : World) (h : RowAt edtRec w v l) (hp : Pow10 w) :
    Calls Tryz.prog 6 #[v] w (TextPostE w (eTextR l)) := by
  obtain ⟨A, c, rfl, hnc, hc63⟩ := h.shape
  have HA := Lib.hid (areEdits_any _ l w h)
  cases hv : areEdts l
  · have HR := Lib.hid (eTextR_no hv)
    rw [hv] at HA
    go_enter Tryz.func6, Tryz.ntmps6
    go_wp2_with fail
    refine HA.out.mono ?_; rintro e w1 ⟨rfl, b1⟩
    go_wp2_with fail
    go_ret2
    exact ⟨by rw [HR.out]; rfl, b1⟩
  · obtain ⟨hm, h30⟩ := edt_mem hv
    rw [hv] at HA
    have Hv := Lib.hid hv
    have Hm := Lib.hid hm
    have HR := Lib.hid (eTextR_yes hv)
    clear hv hm
    go_enter Tryz.func6, Tryz.ntmps6
    go_wp2_with fail
    refine HA.out.mono ?_; rintro e w1 ⟨rfl, b1⟩
    obtain ⟨B, hB⟩ : ∃ B, B = w1.heap.size := ⟨_, rfl⟩
    have HB0 := Lib.fresh_isBuilder 52 5 w1
    rw [← hB] at HB0
    have HB := Lib.hid hB
    have bA := b1.alloc b1.size (.cells #[.pointer none, .slice none 0 0] 52)
    go_wp2_with fail
    rw [← hB]
    clear hB
    go_loopw [16] (fun i wr => ∃ n : Nat, n ≤ l.length ∧ i = .int .i64 n ∧ Lib.IsBuilder 52 5 B B (Lib.strCells (eText (l.take n))) wr ∧ Below w.heap.size w wr ∧ B ≤ wr.heap.size) (fun i _ => l.length - (intOf i).toNat)
    case atStart => exact ⟨0, Nat.zero_le _, rfl, HB0, bA, by rw [HB.out]; simp⟩
    case round =>
      obtain ⟨n, hn, rfl, hI, hb, hBs⟩ := hrel
      have hsz := eText_size Hv.out n hn
      by_cases hlt : n < l.length
      · obtain ⟨b, o, rfl, hc1, hc2, hc3, hc4, hc5, hc6⟩ := edt_at (h.below hb (Nat.le_refl _)) n hlt
        have hE := isEdt_t (Hm.out _ (gx_mem (R := edtRec) hlt))
        obtain ⟨q1, q2, q3, q4, q5, q6⟩ := hE
        obtain ⟨a0, a1, a2, a3⟩ := isSpot_t q5
        obtain ⟨d0, d1, d2, d3⟩ := isSpot_t q6
        obtain ⟨E, e1⟩ := Int.eq_ofNat_of_zero_le (show 0 ≤ (gx edtRec l n).e by omega)
        obtain ⟨P, e2⟩ := Int.eq_ofNat_of_zero_le q3
        obtain ⟨BX, e3⟩ := Int.eq_ofNat_of_zero_le a0
        obtain ⟨BY, e4⟩ := Int.eq_ofNat_of_zero_le a2
        obtain ⟨AX, e5⟩ := Int.eq_ofNat_of_zero_le d0
        obtain ⟨AY, e6⟩ := Int.eq_ofNat_of_zero_le d2
        have HE := Lib.hid (eText_cells hlt e1 e2 e3 e4 e5 e6)
        rw [e1] at hc1 q2
        rw [e2] at hc2 q4
        rw [e3] at hc3 a1 q5
        rw [e4] at hc4 a3 q5
        rw [e5] at hc5 d1 q6
        rw [e6] at hc6 d3 q6
        have hE9 : E ≤ 9 := by omega
        have hP9 : P ≤ 11 := by omega
        have hBX1 : BX ≤ 1280 := by omega
        have hBY1 : BY ≤ 672 := by omega
        have hAX1 : AX ≤ 1280 := by omega
        have hAY1 : AY ≤ 672 := by omega
        have Q5 := Lib.hid q5
        have Q6 := Lib.hid q6
        clear e1 e2 e3 e4 e5 e6 q1 q2 q3 q4 q5 q6 a0 a1 a2 a3 d0 d1 d2 d3
        have hi0 : (0 : Int) ≤ (n : Int) := by omega
        have hi1 : (n : Int) < (l.length : Int) := by omega
        obtain ⟨y0, y1, y2, y3, y4, y5⟩ := edt_box wr E P BX BY AX AY
        have bX : Below wr.heap.size wr (wr.alloc (.cells #[.int .i64 E, .int .i64 P, .int .i64 BX, .int .i64 BY, .int .i64 AX, .int .i64 AY] 39)) := (Below.refl _ _).alloc (Nat.le_refl _) _
        obtain ⟨X, hX⟩ : ∃ X : World, X = (wr.alloc (.cells #[.int .i64 E, .int .i64 P, .int .i64 BX, .int .i64 BY, .int .i64 AX, .int .i64 AY] 39)) := ⟨_, rfl⟩
        rw [← hX] at y0 y1 y2 y3 y4 y5 bX
        have IX := isB_below hI bX
        have hBX := Nat.le_trans hBs bX.size
        have hbX := hb.next (Nat.le_refl _) bX
        have HX := Lib.hid hX
        have hPX := hp.below hbX (Nat.le_refl _)
        clear hX bX hI
        go_upto_region 7 with fail
        rw [← HX.out]
        have C7 := Lib.hid (spotText_any BX BY X hPX Q5.out)
        go_wp2_with fail
        refine C7.out.mono ?_; rintro e X1 ⟨rfl, x1⟩
        replace y0 := Below.keepC x1 y0 (Nat.le_refl _)
        replace y1 := Below.keepC x1 y1 (Nat.le_refl _)
        replace y4 := Below.keepC x1 y4 (Nat.le_refl _)
        replace y5 := Below.keepC x1 y5 (Nat.le_refl _)
        replace IX := isB_below IX x1
        replace hBX := Nat.le_trans hBX x1.size
        replace hPX := hPX.below x1 (Nat.le_refl _)
        replace hbX := hbX.next (Nat.le_refl _) x1
        clear C7 x1 y2 y3
        have C8 := Lib.hid (spotText_any AX AY X1 hPX Q6.out)
        go_wp2_with fail
        refine C8.out.mono ?_; rintro e X2 ⟨rfl, x2⟩
        replace y0 := Below.keepC x2 y0 (Nat.le_refl _)
        replace y1 := Below.keepC x2 y1 (Nat.le_refl _)
        replace IX := isB_below IX x2
        replace hBX := Nat.le_trans hBX x2.size
        replace hPX := hPX.below x2 (Nat.le_refl _)
        replace hbX := hbX.next (Nat.le_refl _) x2
        clear C8 x2 y4 y5
        obtain ⟨z1, z1'⟩ := decB_size E (by omega)
        obtain ⟨z2, z2'⟩ := decB_size P (by omega)
        obtain ⟨z3, z3'⟩ := spB_size BX BY (by omega) (by omega)
        obtain ⟨z4, z4'⟩ := spB_size AX AY (by omega) (by omega)
        have s1 : (⟨#[32]⟩ : ByteArray).size = 1 := rfl
        have s2 : (⟨#[10]⟩ : ByteArray).size = 1 := rfl
        have CI : Hid (∀ (m : Nat) (W : World), m ≤ 999 → Below X2.heap.size X2 W → Calls Tryz.prog 31 #[.int .i64 m] W fun e w' => e = .returned (.string (decB m)) ∧ Below X2.heap.size X2 w') := fun m W hm hW => (itoa_any m W (hPX.below hW (Nat.le_refl _)) (by omega)).mono (fun _ _ ⟨h1, h2⟩ => ⟨h1, hW.next (Nat.le_refl _) h2⟩)
        have CW : Hid (∀ (s : ByteArray) (W : World), s.size ≤ 200 → Below X2.heap.size X2 W → Calls Tryz.prog 30 #[.pointer (some ⟨B, 0, none⟩), .string s] W fun e w' => e = .returned (.tuple #[.int .i64 s.size, .nilIface]) ∧ Lib.IsBuilder 52 5 B B (Lib.strCells (eText (l.take n)) ++ Lib.strCells s) w' ∧ Below w.heap.size w w' ∧ B ≤ w'.heap.size) := fun s W hs hW => (Tryz.Builder_WriteString B B _ s W (isB_below IX hW) (by rw [Lib.strCells_length]; omega) (Nat.le_trans hBX hW.size)).mono (fun _ _ ⟨h1, h2, h3⟩ => ⟨h1, .inr h2, (hbX.next (Nat.le_refl _) hW).trans (h3.mono (by rw [HB.out]; exact b1.size)), Nat.le_trans (Nat.le_trans hBX hW.size) h3.size⟩)
        have D0 := (Below.refl X2.heap.size X2).drew
        have f1 : ¬ 9223372036854775807 < (decB E).size + 1 := by omega
        have f2 : ¬ 9223372036854775807 < (decB E).size + 1 + (decB P).size := by omega
        have f3 : ¬ 9223372036854775807 < (decB E).size + 1 + (decB P).size + 1 := by omega
        have f4 : ¬ 9223372036854775807 < (decB E).size + 1 + (decB P).size + 1 + (spB BX BY).size := by omega
        have f5 : ¬ 9223372036854775807 < (decB E).size + 1 + (decB P).size + 1 + (spB BX BY).size + 1 := by omega
        have f6 : ¬ 9223372036854775807 < (decB E).size + 1 + (decB P).size + 1 + (spB BX BY).size + 1 + (spB AX AY).size := by omega
        have f7 : ¬ 9223372036854775807 < (decB E).size + 1 + (decB P).size + 1 + (spB BX BY).size + 1 + (spB AX AY).size + 1 := by omega
        go_upto_region 9 with fail
        (first | (go_region_with (first | (go_at_call 31; refine (CI.out _ _ (by omega) (by first | exact d9 | exact D0)).mono ?_; rintro e w9 ⟨rfl, d9⟩; have hz1 := Below.keepC d9 y0 (Nat.le_refl _); have hz2 := Below.keepC d9 y1 (Nat.le_refl _)) | (go_at_call 30; refine (CW.out _ _ (by simp only [ByteArray.size_append, s1, s2]; omega) d9).mono ?_; rintro e w8 ⟨rfl, I8, b8, s8⟩))) | fail)
        all_goals rw [HE.out] at I8
        all_goals go_wp2_with fail
        all_goals go_roundw
        all_goals (first | (refine ⟨_, ?_, ?_, I8, b8, s8⟩; omega; go_num) | (simp [intOf]; omega))
      · obtain rfl : n = l.length := by omega
        have CS := Lib.hid (Tryz.Builder_String_any B B (eText (l.take l.length)).data.toList wr hI hBs)
        go_wp2_with fail
        refine CS.out.mono ?_; rintro e w9 ⟨rfl, b9⟩
        go_wp2_with fail
        go_ret2
        exact ⟨by rw [HR.out]; rfl, hb.trans (b9.mono (by rw [HB.out]; exact b1.size))⟩
end Go.Proofs.YtombnhnhbocceaaGreatDoor
