/- The text of versions: plain words; the reference's vrText and VersionsText. -/
import Derived.Test.YtgngnkndebkbmaaDoorNum
import Derived.Test.YtgngnkndebkbmaaDoorVersF
import Derived.Test.YtgngnkndebkbmaaDoorVPlain
import Derived.Test.YtgngnkndebkbmaaDoorQuietB
import Derived.Deep.DeepCutAuto
set_option linter.unusedSimpArgs false
set_option linter.unusedVariables false
namespace Go.Proofs.YtgngnkndebkbmaaDoor
open Go.RowKit Go.Sort

def vLine (x : Ver) : ByteArray := (if x.p < 0 then ⟨#[45]⟩ else decB x.p.toNat) ++ ⟨#[32]⟩ ++ decB x.k.toNat ++ ⟨#[32]⟩ ++ decB x.v.toNat ++ ⟨#[10]⟩
def vText (l : List Ver) : Nat → ByteArray
  | 0 => ⟨#[]⟩
  | n + 1 => vText l n ++ vLine (gv l n)
theorem vText_neg {l : List Ver} {n : Nat} {K V : Nat} (hp : (gv l n).p = -1) (hk : (gv l n).k = K) (hv : (gv l n).v = V) :
    vText l n ++ ⟨#[45]⟩ ++ (⟨#[32]⟩ ++ decB K ++ ⟨#[32]⟩ ++ decB V ++ ⟨#[10]⟩) = vText l (n + 1) := by
  show _ = vText l n ++ vLine (gv l n)
  unfold vLine
  rw [if_pos (by omega), hk, hv, Int.toNat_natCast, Int.toNat_natCast]
  exact ba_eq (by simp [ByteArray.data_append])
theorem vText_pos {l : List Ver} {n : Nat} {P K V : Nat} (hp : (gv l n).p = P) (hk : (gv l n).k = K) (hv : (gv l n).v = V) :
    vText l n ++ decB P ++ (⟨#[32]⟩ ++ decB K ++ ⟨#[32]⟩ ++ decB V ++ ⟨#[10]⟩) = vText l (n + 1) := by
  show _ = vText l n ++ vLine (gv l n)
  unfold vLine
  rw [if_neg (by omega), hp, hk, hv, Int.toNat_natCast, Int.toNat_natCast, Int.toNat_natCast]
  exact ba_eq (by simp [ByteArray.data_append])
/-- What a version of a valid list holds. -/
theorem ver_nats {l : List Ver} (h : areVers l = true) (n : Nat) (hn : n < l.length) :
    ∃ K V : Nat, (gv l n).k = K ∧ (gv l n).v = V ∧ K ≤ 7 ∧ V ≤ 999 ∧ ((n = 0 ∧ (gv l n).p = -1) ∨ (0 < n ∧ ∃ P : Nat, (gv l n).p = P ∧ P < n)) := by
  obtain ⟨h1, h2, h3, hok⟩ := areVers_parts h
  have hv := hok n hn
  unfold verOk at hv
  simp only [Bool.and_eq_true, Bool.or_eq_true, beq_iff_eq] at hv
  obtain ⟨⟨hp, hk⟩, hv⟩ := hv
  rw [inR_t] at hk hv
  refine ⟨(gv l n).k.toNat, (gv l n).v.toNat, by omega, by omega, by omega, by omega, ?_⟩
  rcases Nat.eq_zero_or_pos n with h0 | h0
  · subst h0; exact .inl ⟨rfl, h3⟩
  · rcases hp with hp | hp
    · omega
    · rw [inR_t] at hp
      exact .inr ⟨h0, (gv l n).p.toNat, by omega, by omega⟩
theorem vLine_size {x : Ver} (hp : x.p ≤ 59) (hk : x.k ≤ 7) (hv : x.v ≤ 999) : (vLine x).size ≤ 60 ∧ 1 ≤ (vLine x).size := by
  have h1 := decB_size x.p.toNat (by omega)
  have h2 := decB_size x.k.toNat (by omega)
  have h3 := decB_size x.v.toNat (by omega)
  have e1 : (⟨#[32]⟩ : ByteArray).size = 1 := rfl
  have e2 : (⟨#[10]⟩ : ByteArray).size = 1 := rfl
  have e3 : (⟨#[45]⟩ : ByteArray).size = 1 := rfl
  unfold vLine
  simp only [ByteArray.size_append, e1, e2]
  split <;> omega
theorem vText_size {l : List Ver} (h : areVers l = true) (n : Nat) (hn : n ≤ l.length) : (vText l n).size ≤ 60 * n := by
  induction n with
  | zero => exact Nat.le_refl _
  | succ n ih =>
    have := ih (by omega)
    obtain ⟨K, V, hk, hv, hK, hV, hp⟩ := ver_nats h n (by omega)
    have hl := (areVers_parts h).2.1
    have h9 := vLine_size (x := gv l n) (by rcases hp with ⟨_, hp⟩ | ⟨_, P, hp, _⟩ <;> omega) (by omega) (by omega)
    show (vText l n ++ vLine (gv l n)).size ≤ _
    rw [ByteArray.size_append]; omega
theorem ver_box (w : World) (p k v : Int) : (w.alloc (.cells #[.int .i64 p, .int .i64 k, .int .i64 v] 38)).cell? ⟨w.heap.size, 0, none⟩ = some (.int .i64 p) ∧ (w.alloc (.cells #[.int .i64 p, .int .i64 k, .int .i64 v] 38)).cell? ⟨w.heap.size, 1, none⟩ = some (.int .i64 k) ∧ (w.alloc (.cells #[.int .i64 p, .int .i64 k, .int .i64 v] 38)).cell? ⟨w.heap.size, 2, none⟩ = some (.int .i64 v) := ⟨by simp, by simp, by simp⟩
set_option maxRecDepth 100000 in
set_option maxHeartbeats 6400000 in
theorem vrText_any (v : Value) (l : List Ver) (w : World) (h : VersAt w v l) (hv : areVers l = true) :
    Calls Tryd.prog 32 #[v] w fun e w' => e = .returned (.string (vText l l.length)) ∧ Below w.heap.size w w' := by
  obtain ⟨A, c, rfl, hnc, hc63⟩ := h.shape
  have h60 := (areVers_parts hv).2.1
  have Hv := Lib.hid hv
  clear hv
  go_enter Tryd.func32, Tryd.ntmps32
  go_wp2_with fail
  go_loopw [3, 8] (fun s i wr => ∃ n : Nat, n ≤ l.length ∧ s = .string (vText l n) ∧ i = .int .i64 n ∧ Below w.heap.size w wr) (fun _ i _ => l.length - (intOf i).toNat)
  case atStart => exact ⟨0, Nat.zero_le _, rfl, rfl, Below.refl _ _⟩
  case round =>
    obtain ⟨n, hn, rfl, rfl, hb⟩ := hrel
    have hsz := vText_size Hv.out n hn
    by_cases hlt : n < l.length
    · obtain ⟨b, o, rfl, hc1, hc2, hc3⟩ := VersAt.at_ (h.below hb (Nat.le_refl _)) n hlt
      obtain ⟨K, V, ek, ev, hK, hV, hp⟩ := ver_nats Hv.out n hlt
      have hi0 : (0 : Int) ≤ (n : Int) := by omega
      have hi1 : (n : Int) < (l.length : Int) := by omega
      have szK := decB_size K (by omega)
      have szV := decB_size V (by omega)
      have s1 : (⟨#[32]⟩ : ByteArray).size = 1 := rfl
      have s2 : (⟨#[10]⟩ : ByteArray).size = 1 := rfl
      have s3 : (⟨#[45]⟩ : ByteArray).size = 1 := rfl
      rw [ek] at hc2
      rw [ev] at hc3
      rcases hp with ⟨hn0, ep⟩ | ⟨hn0, P, ep, hP⟩
      · have HE := Lib.hid (vText_neg ep ek ev)
        rw [ep] at hc1
        subst hn0
        simp at hc1 hc2 hc3
        clear ek ev ep
        have hbX : Below w.heap.size w (wr.alloc (.cells #[.int .i64 (-1), .int .i64 K, .int .i64 V] 38)) := hb.alloc hb.size _
        obtain ⟨hy0, hy1, hy2⟩ := ver_box wr (-1) K V
        go_upto_region 8 with (fail)
        obtain ⟨X, hX⟩ : ∃ X : World, X = (wr.alloc (.cells #[.int .i64 (-1), .int .i64 K, .int .i64 V] 38)) := ⟨_, rfl⟩
        rw [← hX] at hbX hy1 hy2 ⊢
        clear hX hy0 hc1 hc2 hc3
        have k1 := cell_regrown hy1
        have k2 := cell_regrown hy2
        have cK : ∀ d os, Calls Tryd.prog 60 #[.int .i64 (K : Nat)] (grow (redrawn X d) os) (fun e w'' => e = .returned (.string (decB K)) ∧ ∃ p : Regrown, w'' = grow (redrawn X p.d) p.os) := fun d os => rg_below (l1Num_any K _ (by omega))
        have cV : ∀ d os, Calls Tryd.prog 60 #[.int .i64 (V : Nat)] (grow (redrawn X d) os) (fun e w'' => e = .returned (.string (decB V)) ∧ ∃ p : Regrown, w'' = grow (redrawn X p.d) p.os) := fun d os => rg_below (l1Num_any V _ (by omega))
        (refine wp_region_quiet_below (by kernel_rfl) (by kernel_rfl) ?_; (repeat (go_big_quiet_step (first | with_reducible exact cK _ _ | with_reducible exact cV _ _))); refine wpQuiet_nil ?_; intro _ hw'; obtain ⟨⟨dq, osq⟩, hw''⟩ := hw'; subst hw'')
        go_wp2_with fail
        go_roundw
        case rel => exact ⟨0 + 1, by omega, by first | rfl | rw [← HE.out] , by go_num, RG.below hbX hbX.size dq osq⟩
        case measure => simp [intOf]; omega
      · have HE := Lib.hid (vText_pos ep ek ev)
        rw [ep] at hc1
        have szP := decB_size P (by omega)
        have CP := Lib.hid (fun W => l1Num_any P W (by omega))
        have hnz : ((n : Int) == 0) = false := by simp; omega
        clear ek ev ep
        have hbX : Below w.heap.size w (wr.alloc (.cells #[.int .i64 (P : Nat), .int .i64 K, .int .i64 V] 38)) := hb.alloc hb.size _
        obtain ⟨hy0, hy1, hy2⟩ := ver_box wr (P : Nat) K V
        go_upto_region 8 with (go_at_call 60; refine (CP.out _).mono ?_; rintro e wy ⟨rfl, bY⟩)
        obtain ⟨X, hX⟩ : ∃ X : World, X = wy := ⟨_, rfl⟩
        have hbX2 : Below w.heap.size w X := by rw [hX]; exact hbX.next (Nat.le_refl _) bY
        have hz1 : X.cell? ⟨wr.heap.size, 1, none⟩ = some (.int .i64 (K : Nat)) := by rw [hX]; exact Below.keepC bY hy1 (Nat.le_refl _)
        have hz2 : X.cell? ⟨wr.heap.size, 2, none⟩ = some (.int .i64 (V : Nat)) := by rw [hX]; exact Below.keepC bY hy2 (Nat.le_refl _)
        rw [← hX]
        clear hX hy0 hy1 hy2 hbX bY hc1 hc2 hc3 CP
        have k1 := cell_regrown hz1
        have k2 := cell_regrown hz2
        have cK : ∀ d os, Calls Tryd.prog 60 #[.int .i64 (K : Nat)] (grow (redrawn X d) os) (fun e w'' => e = .returned (.string (decB K)) ∧ ∃ p : Regrown, w'' = grow (redrawn X p.d) p.os) := fun d os => rg_below (l1Num_any K _ (by omega))
        have cV : ∀ d os, Calls Tryd.prog 60 #[.int .i64 (V : Nat)] (grow (redrawn X d) os) (fun e w'' => e = .returned (.string (decB V)) ∧ ∃ p : Regrown, w'' = grow (redrawn X p.d) p.os) := fun d os => rg_below (l1Num_any V _ (by omega))
        (refine wp_region_quiet_below (by kernel_rfl) (by kernel_rfl) ?_; (repeat (go_big_quiet_step (first | with_reducible exact cK _ _ | with_reducible exact cV _ _))); refine wpQuiet_nil ?_; intro _ hw'; obtain ⟨⟨dq, osq⟩, hw''⟩ := hw'; subst hw'')
        go_wp2_with fail
        go_roundw
        case rel => exact ⟨n + 1, by omega, by first | rfl | rw [← HE.out] , by go_num, RG.below hbX2 hbX2.size dq osq⟩
        case measure => simp [intOf]; omega
    · obtain rfl : n = l.length := by omega
      go_wp2_with fail
      go_ret
      exact ⟨rfl, hb⟩
end Go.Proofs.YtgngnkndebkbmaaDoor
