/- The text of versions, in the program: a strings.Builder, strconv.Itoa. -/
import Derived.Test.YtgngnkndebkbmaaDoorVText
import Derived.Test.YtgngnkndebkbmaaDoorShelf
set_option linter.unusedSimpArgs false
set_option linter.unusedVariables false
namespace Go.Proofs.YtgngnkndebkbmaaDoor
open Go.RowKit Go.Sort

theorem isB_below {T e : TypeId} {B b : Nat} {bs : List Value} {w w' : World} (h : Lib.IsBuilder T e B b bs w) (hb : Below w.heap.size w w') : Lib.IsBuilder T e B b bs w' := by
  have key : ∀ p, Lib.BuilderAt T e B b p bs w → Lib.BuilderAt T e B b p bs w' := by
    rintro p ⟨h1, v, h2, h3, h4⟩
    refine ⟨h1, v, ?_, ?_, h4⟩
    · rw [hb.block b (Array.getElem?_eq_some_iff.1 h2).1]; exact h2
    · refine ⟨h3.1, ?_⟩
      rcases h3.2 with hn | ⟨g, cap, cur, rfl, hbg, hg, rest⟩
      · exact .inl hn
      · refine .inr ⟨g, cap, cur, rfl, hbg, ?_, rest⟩
        rw [hb.block g (Array.getElem?_eq_some_iff.1 hg).1]
        exact hg
  rcases h with h | h
  · exact .inl (key _ h)
  · exact .inr (key _ h)
theorem strCells_app (a b : ByteArray) : Lib.strCells (a ++ b) = Lib.strCells a ++ Lib.strCells b := by simp [Lib.strCells, ByteArray.data_append]
theorem grow_below (w : World) (k : Nat) (os : Array Obj) : Below w.heap.size w (grow (w.drewN k) os) :=
  ⟨rfl, rfl, rfl, by simp [grow], fun k hk => by simp [grow, Array.getElem?_append, hk]⟩
/-- The library's table of powers of ten. -/
def Pow10 (w : World) : Prop := Lib.TabIs Tryd.prog w "internal/strconv.uint64pow10" .u64 Lib.pow10Tab
theorem Pow10.below {w w' : World} {B : Nat} (h : Pow10 w) (hb : Below B w w') (hB : w.heap.size ≤ B) : Pow10 w' := by
  unfold Pow10 Lib.TabIs World.var? at h ⊢
  cases hg : Tryd.prog.globalNamed "internal/strconv.uint64pow10" with
  | none => rw [hg] at h; cases h
  | some g =>
    rw [hg] at h
    simp only [Option.bind_some] at h ⊢
    have hlt : g < w.heap.size := by
      rcases Nat.lt_or_ge g w.heap.size with h' | h'
      · exact h'
      · rw [Array.getElem?_eq_none h'] at h; cases h
    rw [hb.block g (by omega)]
    exact h
theorem itoa_any (n : Nat) (w : World) (h : Pow10 w) (hn : n ≤ 9223372036854775807) :
    Calls Tryd.prog 28 #[.int .i64 n] w fun e w' => e = .returned (.string (decB n)) ∧ Below w.heap.size w w' := by
  refine (Tryd.strconv_Itoa n (by omega) (by omega) w h).mono ?_
  rintro e w' ⟨rfl, k, os, rfl⟩
  refine ⟨?_, grow_below w k os⟩
  rw [Lib.itoa, if_neg (by omega), Int.toNat_natCast]
  rfl
/-- What a function leaves that returns a text and whether it is one. -/
def TextPost (w : World) (r : ByteArray × Bool) (e : Ending) (w' : World) : Prop := e = .returned (.tuple #[.string r.1, .bool r.2]) ∧ Below w.heap.size w w'
def vTextR (l : List Ver) : ByteArray × Bool := if areVers l then (vText l l.length, true) else (⟨#[]⟩, false)
theorem vTextR_no {l : List Ver} (h : areVers l = false) : vTextR l = (⟨#[]⟩, false) := by unfold vTextR; rw [h]; rfl
theorem vTextR_yes {l : List Ver} (h : areVers l = true) : vTextR l = (vText l l.length, true) := by unfold vTextR; rw [h]; rfl
theorem vText_line {l : List Ver} {n : Nat} {K V : Nat} (hk : (gv l n).k = K) (hv : (gv l n).v = V) (s : ByteArray) (hs : s = (if (gv l n).p < 0 then ⟨#[45]⟩ else decB (gv l n).p.toNat)) :
    Lib.strCells (vText l n) ++ Lib.strCells (s ++ ⟨#[32]⟩ ++ decB K ++ ⟨#[32]⟩ ++ decB V ++ ⟨#[10]⟩) = Lib.strCells (vText l (n + 1)) := by
  subst hs
  rw [← strCells_app]
  show _ = Lib.strCells (vText l n ++ vLine (gv l n))
  unfold vLine
  rw [hk, hv, Int.toNat_natCast, Int.toNat_natCast]
set_option maxRecDepth 100000 in
set_option maxHeartbeats 6400000 in
theorem implVersionsText (v : Value) (l : List Ver) (w : World) (h : VersAt w v l) (hp : Pow10 w) :
    Calls Tryd.prog 5 #[v] w (TextPost w (vTextR l)) := by
  obtain ⟨A, c, rfl, hnc, hc63⟩ := h.shape
  have HA := Lib.hid (areVersions_any _ l w h)
  cases hv : areVers l
  · have HR := Lib.hid (vTextR_no hv)
    rw [hv] at HA
    go_enter Tryd.func5, Tryd.ntmps5
    go_wp2_with fail
    refine HA.out.mono ?_; rintro e w1 ⟨rfl, b1⟩
    go_wp2_with fail
    go_ret2
    exact ⟨by rw [HR.out]; rfl, b1⟩
  · have h60 := (areVers_parts hv).2.1
    rw [hv] at HA
    have Hv := Lib.hid hv
    have HR := Lib.hid (vTextR_yes hv)
    clear hv
    go_enter Tryd.func5, Tryd.ntmps5
    go_wp2_with fail
    refine HA.out.mono ?_; rintro e w1 ⟨rfl, b1⟩
    obtain ⟨B, hB⟩ : ∃ B, B = w1.heap.size := ⟨_, rfl⟩
    have HB0 := Lib.fresh_isBuilder 52 5 w1
    rw [← hB] at HB0
    have HB := Lib.hid hB
    have bA := b1.alloc b1.size (.cells #[.pointer none, .slice none 0 0] 52)
    go_wp2_with fail
    rw [← hB]
    clear hB
    go_loopw [13] (fun i wr => ∃ n : Nat, n ≤ l.length ∧ i = .int .i64 n ∧ Lib.IsBuilder 52 5 B B (Lib.strCells (vText l n)) wr ∧ Below w.heap.size w wr ∧ B ≤ wr.heap.size) (fun i _ => l.length - (intOf i).toNat)
    case atStart => exact ⟨0, Nat.zero_le _, rfl, HB0, bA, by rw [HB.out]; simp⟩
    case round =>
      obtain ⟨n, hn, rfl, hI, hb, hBs⟩ := hrel
      have hsz := vText_size Hv.out n hn
      by_cases hlt : n < l.length
      · obtain ⟨b, o, rfl, hc1, hc2, hc3⟩ := VersAt.at_ (h.below hb (Nat.le_refl _)) n hlt
        obtain ⟨K, V, ek, ev, hK, hV, hpp⟩ := ver_nats Hv.out n hlt
        have hi0 : (0 : Int) ≤ (n : Int) := by omega
        have hi1 : (n : Int) < (l.length : Int) := by omega
        obtain ⟨szK, szK0⟩ := decB_size K (by omega)
        obtain ⟨szV, szV0⟩ := decB_size V (by omega)
        have s1 : (⟨#[32]⟩ : ByteArray).size = 1 := rfl
        have s2 : (⟨#[10]⟩ : ByteArray).size = 1 := rfl
        have s3 : (⟨#[45]⟩ : ByteArray).size = 1 := rfl
        rw [ek] at hc2
        rw [ev] at hc3
        have hP := hp.below hb (Nat.le_refl _)
        rcases hpp with ⟨hn0, ep⟩ | ⟨hn0, P, ep, hPn⟩
        · have HE := Lib.hid (vText_line ek ev ⟨#[45]⟩ (by rw [if_pos (by omega)]))
          rw [ep] at hc1
          subst hn0
          simp at hc1 hc2 hc3
          clear ek ev ep
          have hlt0 : ¬ (0 : Int) ≤ -1 := by omega
          obtain ⟨X, hX⟩ : ∃ X : World, X = (wr.alloc (.cells #[.int .i64 (-1), .int .i64 K, .int .i64 V] 38)) := ⟨_, rfl⟩
          have bX : Below wr.heap.size wr X := by rw [hX]; exact (Below.refl _ _).alloc (Nat.le_refl _) _
          have IX := isB_below hI bX
          have hBX : B ≤ X.heap.size := Nat.le_trans hBs bX.size
          have hbX := hb.next (Nat.le_refl _) bX
          obtain ⟨hy0, hy1, hy2⟩ := ver_box wr (-1) K V
          rw [← hX] at hy0 hy1 hy2
          have hPX := hP.below bX (Nat.le_refl _)
          go_upto_region 10 with fail
          rw [← hX]
          clear hX bX hI hy0
          have CI : Hid (∀ (m : Nat) (W : World), m ≤ 999 → Below X.heap.size X W → Calls Tryd.prog 28 #[.int .i64 m] W fun e w' => e = .returned (.string (decB m)) ∧ Below X.heap.size X w') := fun m W hm hW => (itoa_any m W (hPX.below hW (Nat.le_refl _)) (by omega)).mono (fun _ _ ⟨h1, h2⟩ => ⟨h1, hW.next (Nat.le_refl _) h2⟩)
          have CW : Hid (∀ (s : ByteArray) (W : World), s.size ≤ 100 → Below X.heap.size X W → Calls Tryd.prog 29 #[.pointer (some ⟨B, 0, none⟩), .string s] W fun e w' => e = .returned (.tuple #[.int .i64 s.size, .nilIface]) ∧ Lib.IsBuilder 52 5 B B (Lib.strCells (vText l 0) ++ Lib.strCells s) w' ∧ Below w.heap.size w w' ∧ B ≤ w'.heap.size) := fun s W hs hW => (Tryd.Builder_WriteString B B _ s W (isB_below IX hW) (by rw [Lib.strCells_length]; omega) (Nat.le_trans hBX hW.size)).mono (fun _ _ ⟨h1, h2, h3⟩ => ⟨h1, .inr h2, (hbX.next (Nat.le_refl _) hW).trans (h3.mono (by rw [HB.out]; exact b1.size)), Nat.le_trans (Nat.le_trans hBX hW.size) h3.size⟩)
          have D0 := (Below.refl X.heap.size X).drew
          have f0 : ¬ 9223372036854775807 < 2 + (decB K).size := by omega
          have f1 : ¬ 9223372036854775807 < 2 + (decB K).size + 1 := by omega
          have f2 : ¬ 9223372036854775807 < 2 + (decB K).size + 1 + (decB V).size := by omega
          have f3 : ¬ 9223372036854775807 < 2 + (decB K).size + 1 + (decB V).size + 1 := by omega
          (first | (go_region_with (first | (go_at_call 28; refine (CI.out _ _ (by omega) (by first | exact d9 | exact D0)).mono ?_; rintro e w9 ⟨rfl, d9⟩; have hz1 := Below.keepC d9 hy1 (Nat.le_refl _); have hz2 := Below.keepC d9 hy2 (Nat.le_refl _)) | (go_at_call 29; refine (CW.out _ _ (by simp only [ByteArray.size_append, s1, s2, s3]; omega) d9).mono ?_; rintro e w8 ⟨rfl, I8, b8, s8⟩))) | fail)
          all_goals rw [HE.out] at I8
          all_goals go_wp2_with fail
          all_goals go_roundw
          all_goals (first | (refine ⟨_, ?_, ?_, I8, b8, s8⟩; omega; go_num) | (simp [intOf]; omega))
        · have HE := Lib.hid (vText_line ek ev (decB P) (by rw [if_neg (by omega), ep]; rfl))
          obtain ⟨szP, szP0⟩ := decB_size P (by omega)
          have hge : (0 : Int) ≤ (P : Nat) := by omega
          rw [ep] at hc1
          clear ek ev ep
          obtain ⟨X, hX⟩ : ∃ X : World, X = (wr.alloc (.cells #[.int .i64 (P : Nat), .int .i64 K, .int .i64 V] 38)) := ⟨_, rfl⟩
          have bX : Below wr.heap.size wr X := by rw [hX]; exact (Below.refl _ _).alloc (Nat.le_refl _) _
          have IX := isB_below hI bX
          have hBX : B ≤ X.heap.size := Nat.le_trans hBs bX.size
          have hbX := hb.next (Nat.le_refl _) bX
          obtain ⟨hy0, hy1, hy2⟩ := ver_box wr (P : Nat) K V
          rw [← hX] at hy0 hy1 hy2
          have hPX := hP.below bX (Nat.le_refl _)
          have CP := Lib.hid (itoa_any P X hPX (by omega))
          go_upto_region 10 with (go_at_call 28; rw [← hX]; refine CP.out.mono ?_; rintro e X2 ⟨rfl, bX2⟩)
          replace hy1 := Below.keepC bX2 hy1 (Nat.le_refl _)
          replace hy2 := Below.keepC bX2 hy2 (Nat.le_refl _)
          replace hPX := hPX.below bX2 (Nat.le_refl _)
          replace IX := isB_below IX bX2
          replace hbX := hbX.next (Nat.le_refl _) bX2
          replace hBX := Nat.le_trans hBX bX2.size
          clear CP bX2 hX bX hI hy0
          have CI : Hid (∀ (m : Nat) (W : World), m ≤ 999 → Below X2.heap.size X2 W → Calls Tryd.prog 28 #[.int .i64 m] W fun e w' => e = .returned (.string (decB m)) ∧ Below X2.heap.size X2 w') := fun m W hm hW => (itoa_any m W (hPX.below hW (Nat.le_refl _)) (by omega)).mono (fun _ _ ⟨h1, h2⟩ => ⟨h1, hW.next (Nat.le_refl _) h2⟩)
          have CW : Hid (∀ (s : ByteArray) (W : World), s.size ≤ 100 → Below X2.heap.size X2 W → Calls Tryd.prog 29 #[.pointer (some ⟨B, 0, none⟩), .string s] W fun e w' => e = .returned (.tuple #[.int .i64 s.size, .nilIface]) ∧ Lib.IsBuilder 52 5 B B (Lib.strCells (vText l n) ++ Lib.strCells s) w' ∧ Below w.heap.size w w' ∧ B ≤ w'.heap.size) := fun s W hs hW => (Tryd.Builder_WriteString B B _ s W (isB_below IX hW) (by rw [Lib.strCells_length]; omega) (Nat.le_trans hBX hW.size)).mono (fun _ _ ⟨h1, h2, h3⟩ => ⟨h1, .inr h2, (hbX.next (Nat.le_refl _) hW).trans (h3.mono (by rw [HB.out]; exact b1.size)), Nat.le_trans (Nat.le_trans hBX hW.size) h3.size⟩)
          have D0 := (Below.refl X2.heap.size X2).drew
          have f0 : ¬ 9223372036854775807 < (decB P).size + 1 := by omega
          have f1 : ¬ 9223372036854775807 < (decB P).size + 1 + (decB K).size := by omega
          have f2 : ¬ 9223372036854775807 < (decB P).size + 1 + (decB K).size + 1 := by omega
          have f3 : ¬ 9223372036854775807 < (decB P).size + 1 + (decB K).size + 1 + (decB V).size := by omega
          have f4 : ¬ 9223372036854775807 < (decB P).size + 1 + (decB K).size + 1 + (decB V).size + 1 := by omega
          (first | (go_region_with (first | (go_at_call 28; refine (CI.out _ _ (by omega) (by first | exact d9 | exact D0)).mono ?_; rintro e w9 ⟨rfl, d9⟩; have hz1 := Below.keepC d9 hy1 (Nat.le_refl _); have hz2 := Below.keepC d9 hy2 (Nat.le_refl _)) | (go_at_call 29; refine (CW.out _ _ (by simp only [ByteArray.size_append, s1, s2, s3]; omega) d9).mono ?_; rintro e w8 ⟨rfl, I8, b8, s8⟩))) | fail)
          all_goals rw [HE.out] at I8
          all_goals go_wp2_with fail
          all_goals go_roundw
          all_goals (first | (refine ⟨_, ?_, ?_, I8, b8, s8⟩; omega; go_num) | (simp [intOf]; omega))
      · obtain rfl : n = l.length := by omega
        have CS := Lib.hid (Tryd.Builder_String_any B B (vText l l.length).data.toList wr hI hBs)
        go_wp2_with fail
        refine CS.out.mono ?_; rintro e w9 ⟨rfl, b9⟩
        go_wp2_with fail
        go_ret2
        exact ⟨by rw [HR.out]; rfl, hb.trans (b9.mono (by rw [HB.out]; exact b1.size))⟩
theorem specVersionsText (v : Value) (l : List Ver) (w : World) (h : VersAt w v l) (hp : Pow10 w) :
    Calls Tryd.prog 6 #[v] w (TextPost w (vTextR l)) := by
  have HA := Lib.hid (vrGood_any _ l w h)
  cases hv : areVers l
  · have HR := Lib.hid (vTextR_no hv)
    rw [hv] at HA
    go_enter Tryd.func6, Tryd.ntmps6
    go_wp2_with fail
    refine HA.out.mono ?_; rintro e w1 ⟨rfl, b1⟩
    go_wp2_with fail
    go_ret2
    exact ⟨by rw [HR.out]; rfl, b1⟩
  · rw [hv] at HA
    have Hv := Lib.hid hv
    have HR := Lib.hid (vTextR_yes hv)
    clear hv
    go_enter Tryd.func6, Tryd.ntmps6
    go_wp2_with fail
    refine HA.out.mono ?_; rintro e w1 ⟨rfl, b1⟩
    have CS := Lib.hid (vrText_any _ l w1 (h.below b1 (Nat.le_refl _)) Hv.out)
    go_wp2_with fail
    refine CS.out.mono ?_; rintro e w2 ⟨rfl, b2⟩
    go_wp2_with fail
    go_ret2
    exact ⟨by rw [HR.out]; rfl, b1.next (Nat.le_refl _) b2⟩
end Go.Proofs.YtgngnkndebkbmaaDoor
