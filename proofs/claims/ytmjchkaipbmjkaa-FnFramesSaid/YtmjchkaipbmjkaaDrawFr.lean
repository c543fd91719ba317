/- The draws of the journal: a frame. -/
import Derived.Test.YtmjchkaipbmjkaaPick
import Derived.Test.YtmjchkaipbmjkaaWin
import Derived.Deep.LoopGhost
import Derived.Deep.DeepCutAuto
set_option linter.unusedSimpArgs false
set_option linter.unusedVariables false
namespace Go.Proofs.Ytmjchkaipbmjkaa
open Go.RowKit Go.Sort

/-- A yield at which neither one in twenty nor one in twenty-four is drawn. -/
def gdB (b : Nat) : Bool := b % 20 != 0 && b % 24 != 0
theorem gdB_t {b : Nat} (h : gdB b = true) : b % 20 ≠ 0 ∧ b % 24 ≠ 0 := by unfold gdB at h; simpa using h
theorem pk_one {code : List Nat} {n : Nat} {m : Int} (h1 : 2 ≤ m) (h2 : m ≤ 200) : pkV code n m = (byN code n : Int) % m ∧ pkK m = 1 := pk_2 (by omega) h2
/-- What a draw of integers leaves. -/
def FreshC (w : World) (g : Nat) (v : Value) (code : List Nat) (Q : List Int → Nat → Prop) (e : Ending) (w' : World) : Prop :=
  ∃ (u : Value) (l : List Int) (n : Nat), e = .returned u ∧ OwnInts w' w.heap.size u l ∧ CurAt w' g v code n ∧ Apg g w w' ∧ Q l n
theorem lit1 (w : World) (base : Nat) (a : Int) (hb : base ≤ w.heap.size) : OwnInts (w.alloc (.cells #[.int .i64 a] 3)) base (.slice (some ⟨w.heap.size, 0, none⟩) 1 1) [a] := World.ownsRow_lit w _ 1 hb (by simp [maxLen]) rfl
theorem lit2 (w : World) (base : Nat) (a b : Int) (hb : base ≤ w.heap.size) : OwnInts (w.alloc (.cells #[.int .i64 a, .int .i64 b] 3)) base (.slice (some ⟨w.heap.size, 0, none⟩) 2 2) [a, b] := World.ownsRow_lit w _ 2 hb (by simp [maxLen]) rfl
theorem lit3 (w : World) (base : Nat) (a b c : Int) (hb : base ≤ w.heap.size) : OwnInts (w.alloc (.cells #[.int .i64 a, .int .i64 b, .int .i64 c] 3)) base (.slice (some ⟨w.heap.size, 0, none⟩) 3 3) [a, b, c] := World.ownsRow_lit w _ 3 hb (by simp [maxLen]) rfl
theorem lit4 (w : World) (base : Nat) (a b c d : Int) (hb : base ≤ w.heap.size) : OwnInts (w.alloc (.cells #[.int .i64 a, .int .i64 b, .int .i64 c, .int .i64 d] 3)) base (.slice (some ⟨w.heap.size, 0, none⟩) 4 4) [a, b, c, d] := World.ownsRow_lit w _ 4 hb (by simp [maxLen]) rfl
theorem lit5 (w : World) (base : Nat) (a b c d e : Int) (hb : base ≤ w.heap.size) : OwnInts (w.alloc (.cells #[.int .i64 a, .int .i64 b, .int .i64 c, .int .i64 d, .int .i64 e] 3)) base (.slice (some ⟨w.heap.size, 0, none⟩) 5 5) [a, b, c, d, e] := World.ownsRow_lit w _ 5 hb (by simp [maxLen]) rfl
theorem lit6 (w : World) (base : Nat) (a b c d e f : Int) (hb : base ≤ w.heap.size) : OwnInts (w.alloc (.cells #[.int .i64 a, .int .i64 b, .int .i64 c, .int .i64 d, .int .i64 e, .int .i64 f] 3)) base (.slice (some ⟨w.heap.size, 0, none⟩) 6 6) [a, b, c, d, e, f] := World.ownsRow_lit w _ 6 hb (by simp [maxLen]) rfl
theorem lit7 (w : World) (base : Nat) (a b c d e f h : Int) (hb : base ≤ w.heap.size) : OwnInts (w.alloc (.cells #[.int .i64 a, .int .i64 b, .int .i64 c, .int .i64 d, .int .i64 e, .int .i64 f, .int .i64 h] 3)) base (.slice (some ⟨w.heap.size, 0, none⟩) 7 7) [a, b, c, d, e, f, h] := World.ownsRow_lit w _ 7 hb (by simp [maxLen]) rfl
/-- among, at a row that was laid just before: all that the walk wants of it. -/
theorem among_lit (g n : Nat) (v lv : Value) (code : List Nat) (l : List Int) (w : World) (h : CurAt w g v code n) (hn : n ≤ 4611686018427380000) (hl : OwnInts w (g + 1) lv l) (h0 : 1 ≤ l.length) (h1 : l.length ≤ 200) (P : Int → Prop) (hP : ∀ x ∈ l, P x) :
    Calls Try.prog 52 #[.pointer (some ⟨g, 0, none⟩), lv] w
      fun e w' => ∃ (x : Int) (n' : Nat), e = .returned (.int .i64 x) ∧ P x ∧ n ≤ n' ∧ n' ≤ n + 1 ∧ CurAt w' g v code n' ∧ Apg g w w' := by
  refine (among_any g n v lv code l w h hn hl h0).mono ?_
  rintro e w' ⟨rfl, q, a⟩
  have hb := pkV_bd code n l.length (by omega)
  refine ⟨_, _, rfl, hP _ (gi_mem (by omega)), by omega, ?_, q, a⟩
  have : pkK (l.length : Int) ≤ 1 := by unfold pkK; split; · omega
                                        rw [if_pos (by omega)]; exact Nat.le_refl _
  omega
theorem ints_set (l : List Int) (k : Nat) (y : Int) : (ints l).set k (.int .i64 y) = ints (l.set k y) := by unfold ints; rw [List.map_set]
/-- A row of the call's own that holds something: where it lies; a store into it. -/
theorem OwnInts.at_own {w : World} {base : Nat} {v : Value} {l : List Int} (h : OwnInts w base v l) (h0 : 0 < l.length) : ∃ b c, v = .slice (some ⟨b, 0, none⟩) l.length c ∧ base ≤ b := by
  obtain ⟨b, cap, hv, hbg, _⟩ := World.ownsRow.form h h0
  exact ⟨b, cap, hv, hbg⟩
theorem OwnInts.cell_own {w : World} {base b c k : Nat} {l : List Int} (h : OwnInts w base (.slice (some ⟨b, 0, none⟩) l.length c) l) (hk : k < l.length) :
    w.cell? ⟨b, k, none⟩ = some (.int .i64 (gi l k)) ∧ w.frozen? ⟨b, k, none⟩ = false := by
  refine ⟨?_, World.ownsRow.frozenAt h k⟩
  obtain ⟨b', o', he, hc⟩ := h.reads.at_ k hk
  injection he with he
  injection he with e1 e2
  subst e1 e2
  rw [Nat.zero_add] at hc
  exact hc
theorem OwnInts.set_own {w : World} {base b c : Nat} {l : List Int} (h : OwnInts w base (.slice (some ⟨b, 0, none⟩) l.length c) l) (k : Nat) (x : Int) :
    OwnInts (w.setCell ⟨b, k, none⟩ (.int .i64 x)) base (.slice (some ⟨b, 0, none⟩) l.length c) (l.set k x) := by
  have := (World.ownsRow.stored h k (.int .i64 x)).1
  unfold OwnInts
  rw [List.length_set, ← ints_set]
  exact this
set_option maxRecDepth 100000 in
set_option maxHeartbeats 3200000 in
theorem frame_any (g n : Nat) (v : Value) (code : List Nat) (w : World) (h : CurAt w g v code n) (hn : n ≤ 4611686018427370000) :
    Calls Try.prog 47 #[.pointer (some ⟨g, 0, none⟩)] w
      (FreshC w g v code fun l n' => l.length ≤ 13 ∧ n < n' ∧ n' ≤ n + 45 ∧ ((∀ i, n ≤ i → i < n' → gdB (byN code i) = true) → isFrame l = true)) := by
  have hg := h.lt
  obtain ⟨p1, p2⟩ := pk_one (code := code) (n := n) (m := 5) (by omega) (by omega)
  obtain ⟨p3, p4⟩ := pk_one (code := code) (n := n + 1) (m := 20) (by omega) (by omega)
  obtain ⟨N0, hN0⟩ : ∃ N0 : Nat, (N0 : Int) = 1 + pkV code n 5 ∧ 1 ≤ N0 ∧ N0 ≤ 5 := by
    have := pkV_bd code n 5 (by omega)
    exact ⟨(1 + pkV code n 5).toNat, by omega, by omega, by omega⟩
  obtain ⟨hN0, N1, N2⟩ := hN0
  have hpk : ∀ w', CurAt w' g v code n → Calls Try.prog 53 #[.pointer (some ⟨g, 0, none⟩), .int .i64 5] w' (fun e w'' => ∃ x : Int, e = .returned (.int .i64 x) ∧ 1 + x = (N0 : Int) ∧ CurAt w'' g v code (n + 1) ∧ Apg g w' w'') := fun w' h' => (pick_any g n v code 5 w' h' (by omega)).mono (by rintro e w'' ⟨rfl, q, a⟩; rw [p2] at q; exact ⟨_, rfl, hN0.symm, q, a⟩)
  have HP := Lib.hid hpk
  have hon : ∀ w', CurAt w' g v code (n + 1) → Calls Try.prog 59 #[.pointer (some ⟨g, 0, none⟩), .int .i64 20] w' (fun e w'' => ∃ b, e = .returned (.bool b) ∧ (b = true → byN code (n + 1) % 20 = 0) ∧ CurAt w'' g v code (n + 2) ∧ Apg g w' w'') := fun w' h' => (one_any g (n + 1) v code 20 w' h' (by omega)).mono (by
    rintro e w'' ⟨rfl, q, a⟩; rw [p4] at q
    exact ⟨_, rfl, fun hb => by have := of_decide_eq_true hb; rw [p3] at this; omega, q, a⟩)
  have HO := Lib.hid hon
  clear hpk hon p1 p2 p3 p4 hN0
  go_enter Try.func47, Try.ntmps47
  go_wp2_with fail
  refine (HP.out _ h).mono ?_; rintro e w1 ⟨x, rfl, hx, q1, a1⟩
  go_wp2_with fail
  refine (HO.out _ q1).mono ?_; rintro e w2 ⟨b20, rfl, hb20, q2, a2⟩
  have a12 := a1.trans a2
  have HB20 := Lib.hid hb20
  clear hb20 a1 a2 q1
  go_upto_if 9 with fail
  go_cut [4] (fun s4 wx => ∃ (M k : Nat), s4 = .int .i64 M ∧ M ≤ 13 ∧ n + 2 ≤ k ∧ k ≤ n + 3 ∧ Hid (byN code (n + 1) % 20 ≠ 0 → 1 ≤ M ∧ M ≤ 5) ∧ CurAt wx g v code k ∧ Apg g w wx)
  case first =>
    cases b20
    case false =>
      go_wp2_with fail
      go_meet
      exact ⟨N0, n + 2, rfl, by omega, by omega, by omega, fun _ => ⟨N1, N2⟩, q2, a12⟩
    case true =>
      have hz := Lib.hid (HB20.out rfl)
      have hs2 := q2.lt
      have q3 : ∀ o, CurAt (w2.alloc o) g v code (n + 2) := fun o => q2.belowG ((Below.refl _ _).alloc (Nat.le_refl _) o) hs2
      have Q3 := Lib.hid q3
      have a3 : ∀ o, Apg g w (w2.alloc o) := fun o => a12.next ((Below.refl _ _).alloc (Nat.le_refl _) o)
      have A3 := Lib.hid a3
      clear q3 a3
      go_wp2_with fail
      refine (among_lit g (n + 2) v _ code [0, 12, 13] _ (Q3.out _) (by omega) (lit3 w2 (g + 1) 0 12 13 (by omega)) (by decide) (by decide) (fun x => ∃ M : Nat, x = M ∧ M ≤ 13) (by
        intro x hx
        simp only [List.mem_cons, List.not_mem_nil, or_false] at hx
        rcases hx with rfl | rfl | rfl
        · exact ⟨0, rfl, by omega⟩
        · exact ⟨12, rfl, by omega⟩
        · exact ⟨13, rfl, by omega⟩)).mono ?_
      rintro e w4 ⟨x4, k4, rfl, ⟨M, rfl, hM⟩, hk1, hk2, q4, a4⟩
      have a5 := (A3.out _).trans a4
      go_wp2_with fail
      go_meet
      exact ⟨M, k4, rfl, hM, by omega, by omega, fun h => absurd hz.out h, q4, a5⟩
  case rest =>
    obtain ⟨M, k2, rfl, hM, hk1, hk2, hMok, qc, ac⟩ := hcut
    clear HB20 q2 a12 HP HO
    go_wp2_with fail
    go_loopg [3] M (fun gk t wr => ∃ (l : List Int) (k : Nat), l.length ≤ M ∧ M ≤ l.length + gk ∧ Hid (allIn l 0 255 = true) ∧ n + 2 ≤ k ∧ k ≤ n + 3 + 3 * l.length ∧ OwnInts wr w.heap.size t l ∧ CurAt wr g v code k ∧ Apg g w wr)
    case atStart => exact ⟨[], k2, Nat.zero_le _, Nat.le_add_left _ _, rfl, hk1, by simp; omega, OwnInts.nil_ _ _, qc, ac⟩
    case round =>
      obtain ⟨l, k, hl1, hl2, hin, hk3, hk4, ho, qr, ar⟩ := hrel
      clear qc ac
      obtain ⟨A, c, rfl, hnc, hc63⟩ := ho.reads.shape
      by_cases hlt : l.length < M
      · have hpk := pick_any g k v code 256 wr qr (by omega)
        have pb := pkV_bd code k 256 (by omega)
        obtain ⟨x, hx⟩ : ∃ x : Int, x = pkV code k 256 := ⟨_, rfl⟩
        have hpk2 : pkK 256 = 2 := rfl
        rw [hpk2, ← hx] at hpk
        rw [← hx] at pb
        obtain ⟨x0, x1⟩ := pb
        have HPK := Lib.hid hpk
        have hsr := ar.size
        have h9 : l.length + 1 ≤ 1099511627776 := by omega
        clear hpk hx
        go_wp2_with fail
        refine HPK.out.mono ?_; rintro e w3 ⟨rfl, q3, a3⟩
        have hs3 := q3.lt
        have hs3' := a3.size
        have ho3 := ho.apt a3 (by omega)
        have q4 : ∀ o, CurAt (w3.alloc o) g v code (k + 2) := fun o => q3.belowG ((Below.refl _ _).alloc (Nat.le_refl _) o) hs3
        have Q4 := Lib.hid q4
        have a4 : ∀ o, Apg g w (w3.alloc o) := fun o => (ar.trans a3).next ((Below.refl _ _).alloc (Nat.le_refl _) o)
        have A4 := Lib.hid a4
        have o4 : ∀ o, OwnInts (w3.alloc o) w.heap.size (.slice A l.length c) l := fun o => World.ownsRow.alloc ho3 o
        have O4 := Lib.hid o4
        clear q4 a4 o4 ho3
        go_wp2_with fail
        refine (among_lit g (k + 2) v _ code [0, 5, 6, 250, 251, 255, x] _ (Q4.out _) (by omega) (lit7 w3 (g + 1) 0 5 6 250 251 255 x (by omega)) (by simp) (by simp) (fun y => 0 ≤ y ∧ y ≤ 255) (by
          intro y hy
          simp only [List.mem_cons, List.not_mem_nil, or_false] at hy
          omega)).mono ?_
        rintro e w5 ⟨y, k5, rfl, ⟨y0, y1⟩, hk5, hk6, q5, a5⟩
        have a6 := (A4.out _).trans a5
        have ho5 := (O4.out _).apt a5 (by omega)
        have hs6 := a6.size
        have hn2 : Hid (allIn (l ++ [y]) 0 255 = true) := allIn_append hin.out (by unfold allIn; simp [inR]; omega)
        clear Q4 A4 O4
        go_wp2_with (at_builtin; refine wp_app_int _ rfl _ _ rfl w.heap.size _ l rfl ho5 y _ rfl rfl h9 hs6 ?_; intro v7 w7 ho7 hg7)
        go_roundg (gk - 1)
        case measure => omega
        case rel => exact ⟨l ++ [y], k5, by simp; omega, by simp; omega, hn2, by omega, by simp; omega, ho7, q5.belowG hg7.below hg, a6.trans2 hg7.below (Nat.le_refl _)⟩
      · obtain rfl : M = l.length := by omega
        have hok : Hid (byN code (n + 1) % 20 ≠ 0 → isFrame l = true) := fun h => by
          have := hMok.out h
          unfold isFrame
          rw [hin.out, inR_t.2 (by omega)]; rfl
        have hgd : Hid ((∀ i, n ≤ i → i < n + 2 → gdB (byN code i) = true) → byN code (n + 1) % 20 ≠ 0) := fun h => (gdB_t (h (n + 1) (by omega) (by omega))).1
        clear hMok hl1 hl2 hlt
        have hk6 : k ≤ n + 42 := by omega
        rcases Nat.eq_zero_or_pos l.length with hz | hz
        · have hz2 : Hid (isFrame l = false) := by
            show _ = _
            unfold isFrame; rw [inR_f.2 (by omega)]; rfl
          have hz0 : Hid (l.length ≤ 13) := hM
          obtain ⟨L, hL⟩ : ∃ L : Nat, L = l.length := ⟨_, rfl⟩
          rw [← hL] at hz ho hnc ⊢
          subst hz
          clear hL hM hk4
          go_wp2_with fail
          go_ret
          exact ⟨_, l, k, rfl, ho, qr, ar, hz0.out, by omega, by omega, fun h => hok.out (hgd.out fun i h1 h2 => h i h1 (by omega))⟩
        · obtain ⟨p1, p2⟩ := pk_one (code := code) (n := k) (m := 24) (by omega) (by omega)
          have hon : Calls Try.prog 59 #[.pointer (some ⟨g, 0, none⟩), .int .i64 24] wr (fun e w'' => ∃ b, e = .returned (.bool b) ∧ (b = true → byN code k % 24 = 0) ∧ CurAt w'' g v code (k + 1) ∧ Apg g wr w'') := (one_any g k v code 24 wr qr (by omega)).mono (by
            rintro e w'' ⟨rfl, q, a⟩; rw [p2] at q
            exact ⟨_, rfl, fun hb => by have := of_decide_eq_true hb; rw [p1] at this; omega, q, a⟩)
          have HO2 := Lib.hid hon
          clear hon p1 p2
          have hz3 : (0 : Int) < (l.length : Int) := by omega
          have hsr := ar.size
          go_wp2_with fail
          refine HO2.out.mono ?_; rintro e w3 ⟨b24, rfl, hb24, q3, a3⟩
          have HB := Lib.hid hb24
          have ho3 := ho.apt a3 (by omega)
          have hs3 := q3.lt
          have hs3' := a3.size
          have a4 := ar.trans a3
          clear hb24
          cases b24
          case false =>
            go_wp2_with fail
            go_ret
            exact ⟨_, l, k + 1, rfl, ho3, q3, a4, hM, by omega, by omega, fun h => hok.out (hgd.out fun i h1 h2 => h i h1 (by omega))⟩
          case true =>
            have hbad := Lib.hid (HB.out rfl)
            obtain ⟨i0, i1⟩ := pkV_bd code (k + 1) l.length (by omega)
            have hpk := pick_any g (k + 1) v code l.length w3 q3 (by omega)
            have hkk := pkK_le (l.length : Int)
            obtain ⟨x, hx⟩ : ∃ x : Int, x = pkV code (k + 1) l.length := ⟨_, rfl⟩
            obtain ⟨kk, hkk2⟩ : ∃ kk : Nat, kk = pkK (l.length : Int) := ⟨_, rfl⟩
            rw [← hx] at hpk i0 i1
            rw [← hkk2] at hpk hkk
            have hkk3 : kk ≤ 1 := by
              have : pkK (l.length : Int) ≤ 1 := by unfold pkK; split; · omega
                                                    rw [if_pos (by omega)]; exact Nat.le_refl _
              omega
            obtain ⟨j, hj⟩ : ∃ j : Nat, x = j := ⟨x.toNat, by omega⟩
            subst hj
            have HPK := Lib.hid hpk
            clear hpk hx hkk2
            go_wp2_with fail
            refine HPK.out.mono ?_; rintro e w5 ⟨rfl, q5, a5⟩
            have ho5 := ho3.apt a5 (by omega)
            have hs5 := q5.lt
            have hs5' := a5.size
            have q6 : ∀ o, CurAt (w5.alloc o) g v code (k + 1 + kk) := fun o => q5.belowG ((Below.refl _ _).alloc (Nat.le_refl _) o) hs5
            have Q6 := Lib.hid q6
            have a6 : ∀ o, Apg g w (w5.alloc o) := fun o => (a4.trans a5).next ((Below.refl _ _).alloc (Nat.le_refl _) o)
            have A6 := Lib.hid a6
            have o6 : ∀ o, OwnInts (w5.alloc o) w.heap.size (.slice A l.length c) l := fun o => World.ownsRow.alloc ho5 o
            have O6 := Lib.hid o6
            clear q6 a6 o6 ho3 ho5 ho
            go_wp2_with fail
            refine (among_lit g (k + 1 + kk) v _ code [-1, 256] _ (Q6.out _) (by omega) (lit2 w5 (g + 1) (-1) 256 (by omega)) (by decide) (by decide) (fun _ => True) (fun _ _ => trivial)).mono ?_
            rintro e w7 ⟨y, k7, rfl, _, hk7, hk8, q7, a7⟩
            have a8 := (A6.out _).trans a7
            have ho7 := (O6.out _).apt a7 (by omega)
            clear Q6 A6 O6
            obtain ⟨b, c9, hv9, hbg⟩ := ho7.at_own hz
            injection hv9 with e1 e2 e3
            subst e1 e3
            obtain ⟨hc7, hf7⟩ := ho7.cell_own (k := j) (by omega)
            have hst := Lib.hid (ho7.set_own j y)
            have hbb := Lib.hid ((Below.refl w.heap.size w7).setCell (p := ⟨b, j, none⟩) hbg (.int .i64 y))
            go_wp2_with fail
            go_ret
            refine ⟨_, l.set j y, k7, rfl, hst.out, q7.belowG hbb.out hg, a8.trans2 hbb.out (Nat.le_refl _), by rw [List.length_set]; exact hM, by omega, by omega, fun h => absurd hbad.out (gdB_t (h k (by omega) (by omega))).2⟩
end Go.Proofs.Ytmjchkaipbmjkaa
