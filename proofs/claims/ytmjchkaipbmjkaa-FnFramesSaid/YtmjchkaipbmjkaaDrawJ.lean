/- The draws of the journal: journal, and the laws' own draws. -/
import Derived.Test.YtmjchkaipbmjkaaDrawFs
import Derived.Test.YtmjchkaipbmjkaaJournal
set_option linter.unusedSimpArgs false
set_option linter.unusedVariables false
namespace Go.Proofs.Ytmjchkaipbmjkaa
open Go.RowKit Go.Sort

theorem OwnInts.cutTo {w : World} {base c k : Nat} {A : Option Addr} {l : List Int} (h : OwnInts w base (.slice A l.length c) l) (hk : k ≤ l.length) : OwnInts w base (.slice A k c) (l.take k) := by
  have hl : (l.take k).length = k := by rw [List.length_take]; omega
  unfold OwnInts
  rw [hl]
  refine ⟨by rw [ints_len, hl, Nat.mul_one], ?_⟩
  rcases h.2 with ⟨h1, h2⟩ | ⟨g, cap, cur, h1, hb, hg, hnc, hcm, hcs, ht⟩
  · injection h1 with e1 e2 e3
    subst e1 e3
    have hk0 : k = 0 := by omega
    subst hk0
    exact .inl ⟨rfl, rfl⟩
  · injection h1 with e1 e2 e3
    subst e1 e3
    refine .inr ⟨g, c, cur, rfl, hb, hg, by omega, hcm, hcs, ?_⟩
    rw [Nat.mul_one] at ht ⊢
    have : cur.toList.take k = (cur.toList.take l.length).take k := by rw [List.take_take, Nat.min_eq_left hk]
    rw [this, ht]
    unfold ints
    rw [List.map_take]
set_option maxRecDepth 100000 in
set_option maxHeartbeats 6400000 in
theorem journal_any (g n : Nat) (v : Value) (code : List Nat) (w : World) (h : CurAt w g v code n) (hn : n ≤ 4400000000000000000) (hcl : code.length ≤ 1099511627776) :
    Calls Try.prog 46 #[.pointer (some ⟨g, 0, none⟩)] w
      (FreshC w g v code fun l n' => l.length ≤ 242 ∧ n ≤ n' ∧ n' ≤ n + 18014398509483000) := by
  have hg := h.lt
  have hfr := Lib.hid (frames_any g n v code w h (by omega) hcl)
  go_enter Try.func46, Try.ntmps46
  go_wp2_with fail
  refine hfr.out.mono ?_; rintro e w1 ⟨u1, ls, k1, rfl, o1, q1, a1, hls, hll, hk1, hk2⟩
  have hja := Lib.hid (jrAll_any _ ls w1 o1.reads (by omega))
  have hjl := rJournal_len ls
  obtain ⟨l1, b1, hl1⟩ : ∃ l b, rJournal ls = (l, b) := ⟨_, _, rfl⟩
  rw [hl1] at hja hjl
  clear hl1 hll
  have hs1 := a1.size
  go_wp2_with fail
  refine hja.out.mono ?_; rintro e w2 ⟨u2, rfl, o2, b2⟩
  have o3 : OwnInts w2 w.heap.size u2 l1 := ownsRow_lo o2 hs1
  have q3 := q1.below b2 (Nat.le_refl _)
  have a3 := a1.next b2
  have hg2 := q3.lt
  have hs2 := a3.size
  clear o2 b2 o1 q1 a1 hja hfr
  go_upto_if 13 with fail
  go_cut [3] (fun t wx => ∃ l : List Int, l.length ≤ 240 ∧ OwnInts wx w.heap.size t l ∧ CurAt wx g v code k1 ∧ Apg g w wx)
  case first =>
    cases b1
    case true =>
      go_wp2_with fail
      go_meet
      exact ⟨l1, hjl, o3, q3, a3⟩
    case false =>
      have q4 : ∀ o, CurAt (w2.alloc o) g v code k1 := fun o => q3.belowG ((Below.refl _ _).alloc (Nat.le_refl _) o) hg2
      have a4 : ∀ o, Apg g w (w2.alloc o) := fun o => a3.next ((Below.refl _ _).alloc (Nat.le_refl _) o)
      have Q4 := Lib.hid q4
      have A4 := Lib.hid a4
      clear q4 a4
      go_wp2_with fail
      go_meet
      exact ⟨[2, 5, 6, 129], by decide, lit4 w2 w.heap.size 2 5 6 129 hs2, Q4.out _, A4.out _⟩
  case rest =>
    obtain ⟨l, hl, ho, q, a⟩ := hcut
    clear o3 q3 a3 hg2 hs2 hjl hs1
    have hgw := q.lt
    have hs := a.size
    obtain ⟨A, c, rfl, hnc, hc63⟩ := ho.reads.shape
    have hpv : ∃ x : Int, pkV code k1 6 = x ∧ (x = 0 ∨ x = 1 ∨ x = 2 ∨ x = 3 ∨ x = 4 ∨ x = 5) := ⟨_, rfl, by have := pkV_bd code k1 6 (by omega); omega⟩
    obtain ⟨x, hx, hx6⟩ := hpv
    have hpk : Calls Try.prog 53 #[.pointer (some ⟨g, 0, none⟩), .int .i64 6] wc (fun e w'' => e = .returned (.int .i64 x) ∧ CurAt w'' g v code (k1 + 1) ∧ Apg g wc w'') := (pick_any g k1 v code 6 wc q (by omega)).mono (by rintro e w'' ⟨rfl, q, a⟩; rw [(pk_one (code := code) (n := k1) (m := 6) (by omega) (by omega)).2] at q; exact ⟨by rw [hx], q, a⟩)
    have HPK := Lib.hid hpk
    clear hpk hx
    go_wp2_with fail
    refine HPK.out.mono ?_; rintro e w3 ⟨rfl, q3, a3⟩
    have o3 := ho.apt a3 (by omega)
    have a4 := a.trans a3
    have hg3 := q3.lt
    have hs3 := a4.size
    clear q a ho HPK
    -- a pick at the cursor, its value a variable
    have hp : ∀ (m : Int) (k : Nat) (w' : World), 1 ≤ m → k ≤ n + 18014398509482500 → CurAt w' g v code k → Calls Try.prog 53 #[.pointer (some ⟨g, 0, none⟩), .int .i64 m] w' (fun e w'' => ∃ (y : Nat) (k' : Nat), e = .returned (.int .i64 y) ∧ (y : Int) < m ∧ k ≤ k' ∧ k' ≤ k + 2 ∧ CurAt w'' g v code k' ∧ Apg g w' w'') := fun m k w' h1 h2 h3 => (pick_any g k v code m w' h3 (by omega)).mono (by
      rintro e w'' ⟨rfl, q, a⟩
      have hb := pkV_bd code k m h1
      have hkk := pkK_le m
      exact ⟨(pkV code k m).toNat, k + pkK m, by rw [Int.toNat_of_nonneg hb.1], by omega, by omega, by omega, q, a⟩)
    have HP := Lib.hid hp
    have ho1 : ∀ (m : Int) (k : Nat) (w' : World), k ≤ n + 18014398509482500 → CurAt w' g v code k → Calls Try.prog 59 #[.pointer (some ⟨g, 0, none⟩), .int .i64 m] w' (fun e w'' => ∃ (b : Bool) (k' : Nat), e = .returned (.bool b) ∧ k ≤ k' ∧ k' ≤ k + 2 ∧ CurAt w'' g v code k' ∧ Apg g w' w'') := fun m k w' h2 h3 => (one_any g k v code m w' h3 (by omega)).mono (by
      rintro e w'' ⟨rfl, q, a⟩
      have hkk := pkK_le m
      exact ⟨_, k + pkK m, rfl, by omega, by omega, q, a⟩)
    have HO := Lib.hid ho1
    clear hp ho1
    have hl63 : IntKind.i64.wrap ((l.length : Int) + 1) = (l.length : Int) + 1 := IntWalk.i64_in _ (by omega)
    rcases hx6 with rfl | rfl | rfl | rfl | rfl | rfl
    · go_wp2_with fail
      refine (HP.out _ _ _ (by omega) (by omega) q3).mono ?_; rintro e w5 ⟨y, k5, rfl, hy, hk5, hk6, q5, a5⟩
      have o5 := o3.apt a5 (by omega)
      have hy2 : (y : Int) ≤ (l.length : Int) := by omega
      have hyc : (y : Int) ≤ (c : Int) := by omega
      go_wp2_with fail
      go_ret
      exact ⟨_, l.take y, k5, rfl, o5.cutTo (by omega), q5, a4.trans a5, by rw [List.length_take]; omega, by omega, by omega⟩
    · go_wp2_with fail
      refine (HP.out _ _ _ (by omega) (by omega) q3).mono ?_; rintro e w5 ⟨y, k5, rfl, hy, hk5, hk6, q5, a5⟩
      have o5 := o3.apt a5 (by omega)
      have hy2 : (y : Int) ≤ (l.length : Int) := by omega
      have hyc : (y : Int) ≤ (c : Int) := by omega
      go_wp2_with fail
      go_ret
      exact ⟨_, l.take y, k5, rfl, o5.cutTo (by omega), q5, a4.trans a5, by rw [List.length_take]; omega, by omega, by omega⟩
    · rcases Nat.eq_zero_or_pos l.length with hz | hz
      · obtain rfl := List.eq_nil_of_length_eq_zero hz
        clear hz
        rw [List.length_nil] at o3 hnc ⊢
        go_wp2_with fail
        go_ret
        exact ⟨_, [], k1 + 1, rfl, o3, q3, a4, by simp, by omega, by omega⟩
      · have hz3 : (0 : Int) < (l.length : Int) := by omega
        go_wp2_with fail
        refine (HP.out _ _ _ (by omega) (by omega) q3).mono ?_; rintro e w5 ⟨y, k5, rfl, hy, hk5, hk6, q5, a5⟩
        have o5 := o3.apt a5 (by omega)
        go_wp2_with fail
        refine (HP.out _ _ _ (by omega) (by omega) q5).mono ?_; rintro e w6 ⟨z, k6, rfl, hz4, hk7, hk8, q6, a6⟩
        have o6 := o5.apt a6 (by omega)
        obtain ⟨b, c9, hv9, hbg⟩ := o6.at_own hz
        injection hv9 with e1 e2 e3
        subst e1 e3
        have hyl : y < l.length := by omega
        obtain ⟨hc7, hf7⟩ := o6.cell_own hyl
        have hst := Lib.hid (o6.set_own y z)
        have hbb := Lib.hid ((Below.refl w.heap.size w6).setCell (p := ⟨b, y, none⟩) hbg (.int .i64 z))
        go_wp2_with fail
        go_ret
        exact ⟨_, l.set y z, k6, rfl, hst.out, q6.belowG hbb.out hg, ((a4.trans a5).trans a6).trans2 hbb.out (Nat.le_refl _), by rw [List.length_set]; omega, by omega, by omega⟩
    · have h9 : l.length + 2 ≤ 1099511627776 := by omega
      go_wp2_with fail
      refine (HP.out _ _ _ (by omega) (by omega) q3).mono ?_; rintro e w5 ⟨y, k5, rfl, hy, hk5, hk6, q5, a5⟩
      have o5 := o3.apt a5 (by omega)
      go_wp2_with fail
      refine (HP.out _ _ _ (by omega) (by omega) q5).mono ?_; rintro e w6 ⟨z, k6, rfl, hz4, hk7, hk8, q6, a6⟩
      have o6 := o5.apt a6 (by omega)
      have hg6 := q6.lt
      have a7 := (a4.trans a5).trans a6
      have hs6 := a7.size
      have q7 : ∀ o, CurAt (w6.alloc o) g v code k6 := fun o => q6.belowG ((Below.refl _ _).alloc (Nat.le_refl _) o) hg6
      have Q7 := Lib.hid q7
      have a8 : ∀ o, Apg g w (w6.alloc o) := fun o => a7.next ((Below.refl _ _).alloc (Nat.le_refl _) o)
      have A8 := Lib.hid a8
      have o7 : ∀ o, OwnInts (w6.alloc o) w.heap.size (.slice A l.length c) l := fun o => World.ownsRow.alloc o6 o
      have O7 := Lib.hid o7
      clear q7 a8 o7 o6 o5 o3
      go_wp2_with (at_builtin; refine wp_app_ints _ rfl _ _ (by rfl) w.heap.size _ l (by rfl) (O7.out _) _ [(y : Int), (z : Int)] (by rfl) (lit2 w6 (g + 1) y z (by omega)).reads (by simp; omega) (by simp; omega) ?_; intro v8 w8 ho8 hg8)
      go_ret
      exact ⟨_, l ++ [(y : Int), (z : Int)], k6, rfl, ho8, (Q7.out _).belowG hg8.below hg, (A8.out _).trans2 hg8.below (Nat.le_refl _), by simp; omega, by omega, by omega⟩
    · go_wp2_with fail
      refine (HO.out _ _ _ (by omega) q3).mono ?_; rintro e w5 ⟨b4, k5, rfl, hk5, hk6, q5, a5⟩
      have o5 := o3.apt a5 (by omega)
      have a6 := a4.trans a5
      have hs5 := a6.size
      clear o3 q3 a3 a4 a5 hs3 hg3
      go_upto_if 52 with fail
      go_cut [3, 5] (fun t s5 wx => ∃ (l6 : List Int) (k6 : Nat), l6.length ≤ 241 ∧ k5 ≤ k6 ∧ k6 ≤ k5 + 2 ∧ OwnInts wx w.heap.size t l6 ∧ CurAt wx g v code k6 ∧ Apg g w wx)
      case first =>
        cases b4
        case false =>
          go_wp2_with fail
          go_meet
          exact ⟨l, k5, by omega, by omega, by omega, o5, q5, a6⟩
        case true =>
          go_wp2_with fail
          refine (HP.out _ _ _ (by omega) (by omega) q5).mono ?_; rintro e w6 ⟨y, k6, rfl, hy, hk7, hk8, q6, a7⟩
          have o6 := o5.apt a7 (by omega)
          have a8 := a6.trans a7
          clear o5 q5 a6 a7
          go_wp2_with fail
          go_loopg [3] 242 (fun gk t wr => ∃ l6 : List Int, l6.length ≤ 241 ∧ 242 ≤ l6.length + gk ∧ OwnInts wr w.heap.size t l6 ∧ CurAt wr g v code k6 ∧ Apg g w wr)
          case atStart => exact ⟨l, by omega, by omega, o6, q6, a8⟩
          case round =>
            obtain ⟨l6, hl6, hl7, ho, qr, ar⟩ := hrel
            clear o6 q6 a8
            obtain ⟨A6, c6, rfl, hn6, hc6⟩ := ho.reads.shape
            have hsr := ar.size
            by_cases hlt : (l6.length : Int) < 240 + y
            · have h9 : l6.length + 1 ≤ 1099511627776 := by omega
              go_wp2_with (at_builtin; refine wp_app_int _ rfl _ _ rfl w.heap.size _ l6 rfl ho 1 _ rfl rfl h9 hsr ?_; intro v7 w7 ho7 hg7)
              go_roundg (gk - 1)
              case measure => omega
              case rel => exact ⟨l6 ++ [1], by simp; omega, by simp; omega, ho7, qr.belowG hg7.below hg, ar.trans2 hg7.below (Nat.le_refl _)⟩
            · go_wp2_with fail
              go_meet
              exact ⟨l6, k6, hl6, by omega, by omega, ho, qr, ar⟩
      case rest =>
        obtain ⟨l6, k6, hl6, hk7, hk8, o6, q6, a7⟩ := hcut
        clear o5 q5 a6 hs5
        have hs6 := a7.size
        have hg6 := q6.lt
        obtain ⟨A6, c6, rfl, hn6, hc6⟩ := o6.reads.shape
        rcases Nat.eq_zero_or_pos l6.length with hz | hz
        · obtain rfl := List.eq_nil_of_length_eq_zero hz
          clear hz
          rw [List.length_nil] at o6 hn6 ⊢
          go_wp2_with fail
          go_ret
          exact ⟨_, [], k6, rfl, o6, q6, a7, by simp, by omega, by omega⟩
        · have hz3 : (0 : Int) < (l6.length : Int) := by omega
          go_wp2_with fail
          refine (HO.out _ _ _ (by omega) q6).mono ?_; rintro e w8 ⟨b8, k8, rfl, hk9, hk10, q8, a8⟩
          have o8 := o6.apt a8 (by omega)
          have a9 := a7.trans a8
          have hs8 := a9.size
          have hg8 := q8.lt
          cases b8
          case false =>
            go_wp2_with fail
            go_ret
            exact ⟨_, l6, k8, rfl, o8, q8, a9, by omega, by omega, by omega⟩
          case true =>
            have q10 : ∀ o, CurAt (w8.alloc o) g v code k8 := fun o => q8.belowG ((Below.refl _ _).alloc (Nat.le_refl _) o) hg8
            have Q10 := Lib.hid q10
            have a10 : ∀ o, Apg g w (w8.alloc o) := fun o => a9.next ((Below.refl _ _).alloc (Nat.le_refl _) o)
            have A10 := Lib.hid a10
            have o10 : ∀ o, OwnInts (w8.alloc o) w.heap.size (.slice A6 l6.length c6) l6 := fun o => World.ownsRow.alloc o8 o
            have O10 := Lib.hid o10
            clear q10 a10 o10 o8 o6
            go_wp2_with fail
            refine (among_lit g k8 v _ code [-1, 256] _ (Q10.out _) (by omega) (lit2 w8 (g + 1) (-1) 256 (by omega)) (by decide) (by decide) (fun _ => True) (fun _ _ => trivial)).mono ?_
            rintro e w11 ⟨z, k11, rfl, _, hk11, hk12, q11, a11⟩
            have a12 := (A10.out _).trans a11
            have o11 := (O10.out _).apt a11 (by omega)
            clear Q10 A10 O10
            obtain ⟨b, c9, hv9, hbg⟩ := o11.at_own hz
            injection hv9 with e1 e2 e3
            subst e1 e3
            obtain ⟨y, hy⟩ : ∃ y, l6.length = y + 1 := ⟨l6.length - 1, by omega⟩
            have hyl : y < l6.length := by omega
            obtain ⟨hc7, hf7⟩ := o11.cell_own hyl
            have hw9 : IntKind.i64.wrap ((l6.length : Int) - 1) = (y : Int) := by rw [IntWalk.i64_in _ (by omega)]; omega
            have hw8 : (l6.length : Int) - 1 = (y : Int) := by omega
            have hst := Lib.hid (o11.set_own y z)
            have hbb := Lib.hid ((Below.refl w.heap.size w11).setCell (p := ⟨b, y, none⟩) hbg (.int .i64 z))
            have hyi : (y : Int) < (l6.length : Int) := by omega
            have HY := Lib.hid hy
            clear hy
            go_wp2_with fail
            go_ret
            exact ⟨_, l6.set y z, k11, rfl, hst.out, q11.belowG hbb.out hg, a12.trans2 hbb.out (Nat.le_refl _), by rw [List.length_set]; omega, by omega, by omega⟩
    · go_wp2_with fail
      go_ret
      exact ⟨_, l, k1 + 1, rfl, o3, q3, a4, by omega, by omega, by omega⟩
end Go.Proofs.Ytmjchkaipbmjkaa
