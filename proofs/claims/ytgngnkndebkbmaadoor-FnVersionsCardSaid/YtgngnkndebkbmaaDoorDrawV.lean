/- The draws of versions. -/
import Derived.Test.YtgngnkndebkbmaaDoorDraw0
import Derived.Test.YtgngnkndebkbmaaDoorVCopy
import Derived.Deep.LoopGhost
import Derived.Deep.DeepCutAuto
set_option linter.unusedSimpArgs false
set_option linter.unusedVariables false
namespace Go.Proofs.YtgngnkndebkbmaaDoor
open Go.RowKit Go.Sort

set_option maxHeartbeats 1600000 in
/-- An index of a version, mostly. -/
theorem versionOf_any (g n : Nat) (v lv : Value) (code : List Nat) (l : List Ver) (w : World) (h : CurAt w g v code n) (hn : n ≤ 4611686018427300000) (hl : VersAt w lv l) (h61 : l.length ≤ 100) :
    Calls Tryd.prog 36 #[.pointer (some ⟨g, 0, none⟩), lv] w
      fun e w' => ∃ (x : Int) (n' : Nat), e = .returned (.int .i64 x) ∧ -1 ≤ x ∧ x ≤ 101 ∧ n ≤ n' ∧ n' ≤ n + 6 ∧ CurAt w' g v code n' ∧ Apg g w w' := by
  obtain ⟨A, c, rfl, hnc, hc63⟩ := hl.shape
  have C1 := Lib.hid (pick_ex g v code 16 n w (by omega) (by omega) h)
  go_enter Tryd.func36, Tryd.ntmps36
  go_wp2_with fail
  refine C1.out.mono ?_; rintro e w1 ⟨y1, k1, rfl, hy1, hk1, hj1, q1, a1⟩
  have C2 := Lib.hid (fun m => pick_ex0 g v code m k1 w1 (by omega) q1)
  go_wp2_with fail
  refine (C2.out _).mono ?_; rintro e w2 ⟨y2, k2, rfl, hy2, hk2, hj2, q2, a2⟩
  have C3 := Lib.hid (pick_ex g v code 24 k2 w2 (by omega) (by omega) q2)
  go_wp2_with fail
  refine C3.out.mono ?_; rintro e w3 ⟨y3, k3, rfl, hy3, hk3, hj3, q3, a3⟩
  go_wp2_with fail
  go_ret
  exact ⟨_, k3, rfl, by omega, by omega, by omega, by omega, q3, (a1.trans a2).trans a3⟩
def FreshVC (w : World) (g : Nat) (v : Value) (code : List Nat) (Q : List Ver → Nat → Prop) (e : Ending) (w' : World) : Prop :=
  ∃ (u : Value) (l : List Ver) (n : Nat), e = .returned u ∧ OwnRow verRec w' w.heap.size u l ∧ CurAt w' g v code n ∧ Apg g w w' ∧ Q l n
theorem OwnRow.apt {α : Type} {R : Rec α} {w w' : World} {base g : Nat} {v : Value} {l : List α} (h : OwnRow R w base v l) (ha : Apg g w w') (hb : g + 1 ≤ base) : OwnRow R w' base v l := ownsRow_apt h ha hb
theorem OwnRow.al {α : Type} {R : Rec α} {w : World} {base : Nat} {v : Value} {l : List α} (h : OwnRow R w base v l) (o : Obj) : OwnRow R (w.alloc o) base v l := World.ownsRow.alloc h o
/-- A version in a box of its own. -/
def BoxV (w : World) (b : Nat) (p k u : Int) : Prop := w.heap[b]? = some (.cells #[.int .i64 p, .int .i64 k, .int .i64 u] 38 (0, 0))
theorem BoxV.apt {w w' : World} {b g : Nat} {p k u : Int} (h : BoxV w b p k u) (ha : Apg g w w') (hb : g < b) : BoxV w' b p k u :=
  (ha.block b (Array.getElem?_eq_some_iff.1 h).1 (.inr hb)).trans h
theorem BoxV.set0 {w : World} {b : Nat} {p k u : Int} (h : BoxV w b p k u) (x : Int) : BoxV (w.setCell ⟨b, 0, none⟩ (.int .i64 x)) b x k u := heap_setCell_same w b 0 _ _ _ h
theorem BoxV.set1 {w : World} {b : Nat} {p k u : Int} (h : BoxV w b p k u) (x : Int) : BoxV (w.setCell ⟨b, 1, none⟩ (.int .i64 x)) b p x u := heap_setCell_same w b 1 _ _ _ h
theorem BoxV.cells {w : World} {b : Nat} {p k u : Int} (h : BoxV w b p k u) : w.cell? ⟨b, 0, none⟩ = some (.int .i64 p) ∧ w.cell? ⟨b, 1, none⟩ = some (.int .i64 k) ∧ w.cell? ⟨b, 2, none⟩ = some (.int .i64 u) ∧ w.frozen? ⟨b, 0, none⟩ = false ∧ w.frozen? ⟨b, 1, none⟩ = false :=
  ⟨by rw [cell_of_row w b 0 _ _ _ h]; rfl, by rw [cell_of_row w b 1 _ _ _ h]; rfl, by rw [cell_of_row w b 2 _ _ _ h]; rfl, frozen_of_row w b 0 _ _ h, frozen_of_row w b 1 _ _ h⟩
theorem grown_set (w : World) (b o : Nat) (x : Value) : w.grownBy (w.setCell ⟨b, o, none⟩ x) (some b) :=
  ⟨rfl, rfl, rfl, by rw [World.size_setCell]; exact Nat.le_refl _, fun k _ hne => heap_setCell_other w _ k x (fun e => hne (by rw [e]))⟩
theorem areVers_one {k v : Nat} (hk : k ≤ 7) (hv : v ≤ 999) : areVers [⟨-1, (k : Int), (v : Int)⟩] = true := by
  refine areVers_yes (inR_t.2 ⟨by simp, by simp⟩) (by simp [gv]) fun i hi => ?_
  obtain rfl : i = 0 := by simpa using hi
  unfold verOk
  have h1 : inR ((k : Int)) 0 7 = true := inR_t.2 ⟨by omega, by omega⟩
  have h2 : inR ((v : Int)) 0 999 = true := inR_t.2 ⟨by omega, by omega⟩
  simp [gv, h1, h2]
set_option maxRecDepth 100000 in
set_option maxHeartbeats 6400000 in
theorem versions_any (g n : Nat) (v : Value) (code : List Nat) (w : World) (h : CurAt w g v code n) (hn : n ≤ 4611686018427000000) :
    Calls Tryd.prog 45 #[.pointer (some ⟨g, 0, none⟩)] w
      (FreshVC w g v code fun l n' => 1 ≤ l.length ∧ l.length ≤ 60 ∧ n ≤ n' ∧ n' ≤ n + 1000 ∧ areVers l = true) := by
  have hg := h.lt
  have C1 := Lib.hid (pick_ex g v code 4 n w (by omega) (by omega) h)
  go_enter Tryd.func45, Tryd.ntmps45
  go_wp2_with fail
  refine C1.out.mono ?_; rintro e w1 ⟨y1, k1, rfl, hy1, hk1, hj1, q1, a1⟩
  have C2 := Lib.hid (pick_ex g v code 5 k1 w1 (by omega) (by omega) q1)
  go_wp2_with fail
  refine C2.out.mono ?_; rintro e w2 ⟨y2, k2, rfl, hy2, hk2, hj2, q2, a2⟩
  have a12 := a1.trans a2
  have hs2 := a12.size
  have hg2 := q2.lt
  have q3 := Lib.hid (fun o => q2.belowG ((Below.refl _ w2).alloc (Nat.le_refl _) o) hg2)
  have a3 := Lib.hid (fun o => a12.next ((Below.refl _ w2).alloc (Nat.le_refl _) o))
  have C3 := Lib.hid (fun o => pick_ex g v code 12 k2 (w2.alloc o) (by omega) (by omega) (q3.out o))
  go_wp2_with fail
  refine (C3.out _).mono ?_; rintro e w4 ⟨y4, k4, rfl, hy4, hk4, hj4, q4, b4⟩
  have o4 : OwnRow verRec (w2.alloc (.cells #[.int .i64 (-1), .int .i64 y1, .int .i64 y2] 38)) w.heap.size (.slice (some ⟨w2.heap.size, 0, none⟩) 1 1) [⟨-1, y1, y2⟩] :=
    World.ownsRow_lit w2 _ 1 hs2 (by simp [maxLen]) rfl
  have o5 := OwnRow.apt o4 b4 (by omega)
  have a4 := (a3.out _).trans b4
  clear a3 q3 o4 C1 C2 C3 a1 a2 b4
  have C5 := Lib.hid (one_ex g v code 20 k4 w4 (by omega) q4)
  go_wp2_with fail
  refine C5.out.mono ?_; rintro e w5 ⟨t5, k5, rfl, hk5, hj5, q5, a5⟩
  have o6 := OwnRow.apt o5 a5 (by omega)
  have a6 := a4.trans a5
  clear o5 a4 a5 C5 q4
  go_upto_if 16 with fail
  go_cut [4] (fun s4 wx => ∃ (M k : Nat), s4 = .int .i64 M ∧ 1 ≤ M ∧ M ≤ 60 ∧ n ≤ k ∧ k ≤ n + 20 ∧ OwnRow verRec wx w.heap.size (.slice (some ⟨w2.heap.size, 0, none⟩) 1 1) [⟨-1, y1, y2⟩] ∧ CurAt wx g v code k ∧ Apg g w wx)
  case first =>
    cases t5
    case false =>
      go_wp2_with fail
      go_meet
      exact ⟨1 + y4, k5, by go_num, by omega, by omega, by omega, by omega, o6, q5, a6⟩
    case true =>
      have C6 := Lib.hid (pick_ex g v code 2 k5 w5 (by omega) (by omega) q5)
      go_wp2_with fail
      refine C6.out.mono ?_; rintro e w6 ⟨y6, k6, rfl, hy6, hk6, hj6, q6, a7⟩
      go_wp2_with fail
      go_meet
      exact ⟨60 - y6, k6, by go_num, by omega, by omega, by omega, by omega, OwnRow.apt o6 a7 (by omega), q6, a6.trans a7⟩
  case rest =>
    obtain ⟨M, k0, rfl, hM1, hM60, hk01, hk02, oc, qc, ac⟩ := hcut
    clear o6 q5 a6
    go_wp2_with fail
    go_loopg [3] 60 (fun gk t wr => ∃ (l : List Ver) (k : Nat), 1 ≤ l.length ∧ l.length ≤ 60 ∧ (l.length ≤ M) ∧ M ≤ l.length + gk ∧ n ≤ k ∧ k ≤ n + 20 + 12 * l.length ∧ Hid (areVers l = true) ∧ OwnRow verRec wr w.heap.size t l ∧ CurAt wr g v code k ∧ Apg g w wr)
    case atStart => exact ⟨_, k0, by simp, by simp, by simp; omega, by simp; omega, hk01, by simp; omega, areVers_one (by omega) (by omega), oc, qc, ac⟩
    case round =>
      obtain ⟨l, k, hl1, hl60, hlM, hMg, hk1, hk2, hav, ho, qr, ar⟩ := hrel
      clear oc qc ac
      obtain ⟨A, c, rfl, hnc, hc63⟩ := ho.reads.shape
      by_cases hlt : l.length < M
      · have C7 := Lib.hid (pick_ex g v code 4 k wr (by omega) (by omega) qr)
        have hsr := ar.size
        go_wp2_with fail
        refine C7.out.mono ?_; rintro e w7 ⟨y7, k7, rfl, hy7, hk7, hj7, q7, a7⟩
        have o7 := ho.apt a7 (by omega)
        have b7 := ar.trans a7
        have hg7 := q7.lt
        have hs7 := b7.size
        have hq8 := q7.belowG ((Below.refl _ w7).alloc (Nat.le_refl _) (.cells #[.int .i64 0, .int .i64 1, .int .i64 2, .int .i64 3, .int .i64 999] 3)) hg7
        have C8 := Lib.hid (among_lit g k7 v (.slice (some ⟨w7.heap.size, 0, none⟩) 5 5) code [0, 1, 2, 3, 999] _ hq8 (by omega) (lit5 w7 (g + 1) 0 1 2 3 999 (by omega)) (by decide) (by decide) (fun x => 0 ≤ x ∧ x ≤ 999) (by
          intro x hx
          simp only [List.mem_cons, List.not_mem_nil, or_false] at hx
          omega))
        have o8 := Lib.hid (fun o => OwnRow.al o7 o)
        have a8 := Lib.hid (fun o => b7.next ((Below.refl _ w7).alloc (Nat.le_refl _) o))
        clear hq8 C7 a7 ho
        go_wp2_with fail
        refine C8.out.mono ?_; rintro e w9 ⟨x9, k9, rfl, ⟨x90, x91⟩, hk9, hj9, q9, d9⟩
        have o9 := OwnRow.apt (o8.out _) d9 (by omega)
        have a9 := (a8.out _).trans d9
        have hg9 := q9.lt
        have hs9 := a9.size
        clear o8 a8 d9 C8 q7 b7 o7
        have hqa := Lib.hid (fun o => q9.belowG ((Below.refl _ w9).alloc (Nat.le_refl _) o) hg9)
        have C9 := Lib.hid (fun o => one_ex g v code 3 k9 (w9.alloc o) (by omega) (hqa.out o))
        have o10 := Lib.hid (fun o => OwnRow.al o9 o)
        have a10 := Lib.hid (fun o => a9.next ((Below.refl _ w9).alloc (Nat.le_refl _) o))
        go_wp2_with fail
        refine (C9.out _).mono ?_; rintro e w11 ⟨t11, k11, rfl, hk11, hj11, q11, d11⟩
        have o11 := OwnRow.apt (o10.out _) d11 (by omega)
        have a11 := (a10.out _).trans d11
        obtain ⟨bx, hbx⟩ : ∃ bx, bx = w9.heap.size := ⟨_, rfl⟩
        have hbox : BoxV w11 bx ((l.length : Int) - 1) y7 x9 := by
          rw [hbx]
          refine BoxV.apt (w := w9.alloc (.cells #[.int .i64 ((l.length : Int) - 1), .int .i64 y7, .int .i64 x9] 38)) ?_ d11 hg9
          show (w9.heap.push _)[w9.heap.size]? = _
          rw [Array.getElem?_push_size]
        have hlo : Hid (∀ gb, (Value.slice A l.length c).ownBlock = some gb → gb < bx) := fun gb h9 => by rw [hbx]; exact (World.ownsRow.lt o9 gb h9).2
        have hbw : w.heap.size ≤ bx := by omega
        have hgb : g < bx := by omega
        have HBX := Lib.hid hbx
        rw [← hbx]
        clear hqa C9 o10 a10 d11 q9 o9 a9 hbx
        go_upto_if 34 with fail
        go_cut [] (fun wx => ∃ (p : Int) (k' : Nat), 0 ≤ p ∧ p < (l.length : Int) ∧ k9 ≤ k' ∧ k' ≤ k9 + 4 ∧ BoxV wx bx p y7 x9 ∧ OwnRow verRec wx w.heap.size (.slice A l.length c) l ∧ CurAt wx g v code k' ∧ Apg g w wx)
        case first =>
          cases t11
          case false =>
            go_wp2_with fail
            go_meet
            exact ⟨_, k11, by omega, by omega, by omega, by omega, hbox, o11, q11, a11⟩
          case true =>
            have C12 := Lib.hid (pick_ex g v code l.length k11 w11 (by omega) (by omega) q11)
            go_wp2_with fail
            refine C12.out.mono ?_; rintro e w12 ⟨y12, k12, rfl, hy12, hk12, hj12, q12, d12⟩
            have hbox2 := hbox.apt d12 hgb
            have o12 := OwnRow.apt o11 d12 (by omega)
            have a12_ := a11.trans d12
            obtain ⟨c0_, c1_, c2_, f0_, f1_⟩ := hbox2.cells
            have hb13 := Lib.hid ((Below.refl w.heap.size w12).setCell (p := ⟨bx, 0, none⟩) hbw (.int .i64 y12))
            have o13 := Lib.hid (World.ownsRow.kept o12 (grown_set w12 bx 0 (.int .i64 y12)) (Or.inr (fun e9 => absurd (hlo.out bx e9) (by omega))))
            have hbox3 := Lib.hid (hbox2.set0 y12)
            have q13 := Lib.hid (q12.belowG hb13.out hg)
            have a13 := Lib.hid (a12_.trans2 hb13.out (Nat.le_refl _))
            clear C12 hbox2 o12 q12 a12_ hbox o11 q11 a11
            go_wp2_with fail
            go_meet
            exact ⟨_, k12, by omega, by omega, by omega, by omega, hbox3.out, o13.out, q13.out, a13.out⟩
        case rest =>
          obtain ⟨p, k14, hp0, hp1, hk14, hj14, hbox4, o14, q14, a14⟩ := hcut
          clear hbox o11 q11 a11
          have C15 := Lib.hid (one_ex g v code 8 k14 wc (by omega) q14)
          go_wp2_with fail
          refine C15.out.mono ?_; rintro e w15 ⟨t15, k15, rfl, hk15, hj15, q15, d15⟩
          have hbox5 := hbox4.apt d15 hgb
          have o15 := OwnRow.apt o14 d15 (by omega)
          have a15 := a14.trans d15
          clear C15 hbox4 o14 q14 a14 d15
          go_upto_if 41 with fail
          go_cut [] (fun wx => ∃ (kk : Int) (k' : Nat), 0 ≤ kk ∧ kk ≤ 7 ∧ k9 ≤ k' ∧ k' ≤ k9 + 8 ∧ BoxV wx bx p kk x9 ∧ OwnRow verRec wx w.heap.size (.slice A l.length c) l ∧ CurAt wx g v code k' ∧ Apg g w wx)
          case first =>
            cases t15
            case false =>
              go_wp2_with fail
              go_meet
              exact ⟨_, k15, by omega, by omega, by omega, by omega, hbox5, o15, q15, a15⟩
            case true =>
              have C16 := Lib.hid (pick_ex g v code 8 k15 w15 (by omega) (by omega) q15)
              go_wp2_with fail
              refine C16.out.mono ?_; rintro e w16 ⟨y16, k16, rfl, hy16, hk16, hj16, q16, d16⟩
              have hbox6 := hbox5.apt d16 hgb
              have o16 := OwnRow.apt o15 d16 (by omega)
              have a16 := a15.trans d16
              obtain ⟨c0_, c1_, c2_, f0_, f1_⟩ := hbox6.cells
              have hb17 := Lib.hid ((Below.refl w.heap.size w16).setCell (p := ⟨bx, 1, none⟩) hbw (.int .i64 y16))
              have o17 := Lib.hid (World.ownsRow.kept o16 (grown_set w16 bx 1 (.int .i64 y16)) (Or.inr (fun e9 => absurd (hlo.out bx e9) (by omega))))
              have hbox7 := Lib.hid (hbox6.set1 y16)
              have q17 := Lib.hid (q16.belowG hb17.out hg)
              have a17 := Lib.hid (a16.trans2 hb17.out (Nat.le_refl _))
              clear C16 hbox6 o16 q16 a16 hbox5 o15 q15 a15
              go_wp2_with fail
              go_meet
              exact ⟨_, k16, by omega, by omega, by omega, by omega, hbox7.out, o17.out, q17.out, a17.out⟩
          case rest =>
            obtain ⟨kk, k18, hkk0, hkk7, hk18, hj18, hbox8, o18, q18, a18⟩ := hcut
            clear hbox5 o15 q15 a15
            obtain ⟨c0_, c1_, c2_, f0_, f1_⟩ := hbox8.cells
            have hs18 := a18.size
            have h9 : l.length + 1 ≤ 1099511627776 := by omega
            go_wp2_with (at_builtin; refine wp_app_rec verRec _ rfl _ _ 23 _ _ Tryd.underlying23 info_ver3 rfl (by omega) (by rfl) w.heap.size _ l (by rfl) o18 ⟨p, kk, x9⟩ _ rfl _ _ rfl (by rfl) (by rfl) h9 hs18 ?_; intro v19 w19 ho19 hg19)
            go_roundg (gk - 1)
            case measure => omega
            case rel => exact ⟨l ++ [⟨p, kk, x9⟩], k18, by simp, by simp; omega, by simp; omega, by simp; omega, by omega, by simp; omega, Lib.hid (areVers_snoc (x := ⟨p, kk, x9⟩) hav.out (by omega) ⟨hp0, hp1⟩ ⟨hkk0, hkk7⟩ ⟨x90, x91⟩), ho19, q18.belowG hg19.below hg, a18.trans2 hg19.below (Nat.le_refl _)⟩
      · obtain rfl : M = l.length := by omega
        go_wp2_with fail
        go_ret
        exact ⟨_, l, k, rfl, ho, qr, ar, hl1, hl60, hk1, by omega, hav.out⟩
end Go.Proofs.YtgngnkndebkbmaaDoor
