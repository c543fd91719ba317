/- The draws of versions: anyVersions. -/
import Derived.Test.YtgngnkndebkbmaaDoorVField
set_option linter.unusedSimpArgs false
set_option linter.unusedVariables false
namespace Go.Proofs.YtgngnkndebkbmaaDoor
open Go.RowKit Go.Sort
theorem OwnRow.at_own {α : Type} {R : Rec α} {w : World} {base : Nat} {v : Value} {l : List α} (h : OwnRow R w base v l) (h0 : 0 < l.length) : ∃ b c, v = .slice (some ⟨b, 0, none⟩) l.length c ∧ base ≤ b := by
  obtain ⟨b, cap, hv, hbg, _⟩ := World.ownsRow.form h h0
  exact ⟨b, cap, hv, hbg⟩
set_option maxRecDepth 100000 in
set_option maxHeartbeats 6400000 in
theorem anyVersions_any (g n : Nat) (v : Value) (code : List Nat) (w : World) (h : CurAt w g v code n) (hn : n ≤ 4611686018420000000) :
    Calls Tryd.prog 35 #[.pointer (some ⟨g, 0, none⟩)] w
      (FreshVC w g v code fun l n' => l.length ≤ 62 ∧ n ≤ n' ∧ n' ≤ n + 2000) := by
  have hg := h.lt
  have C1 := Lib.hid (versions_any g n v code w h (by omega))
  go_enter Tryd.func35, Tryd.ntmps35
  go_wp2_with fail
  refine C1.out.mono ?_; rintro e w1 ⟨u1, l, k1, rfl, o1, q1, a1, hl1, hl60, hk1, hj1, _⟩
  have hs1 := a1.size
  obtain ⟨b, c, rfl, hbg⟩ := o1.at_own (by omega)
  have C2 := Lib.hid (pick_ex g v code l.length k1 w1 (by omega) (by omega) q1)
  go_wp2_with fail
  refine C2.out.mono ?_; rintro e w2 ⟨i, k2, rfl, hi, hk2, hj2, q2, a2⟩
  have C3 := Lib.hid (pick_ex g v code 30 k2 w2 (by omega) (by omega) q2)
  go_wp2_with fail
  refine C3.out.mono ?_; rintro e w3 ⟨y, k3, rfl, hy, hk3, hj3, q3, a3⟩
  have o3 := (o1.apt a2 (by omega)).apt a3 (by omega)
  have a4 := (a1.trans a2).trans a3
  have hg3 := q3.lt
  have hs3 := a4.size
  have hil : i < l.length := by omega
  clear C1 C2 C3 o1 a1 q1 q2 a2 a3
  have hy5 : y = 0 ∨ y = 1 ∨ y = 2 ∨ y = 3 ∨ y = 4 ∨ 5 ≤ y := by omega
  rcases hy5 with rfl | rfl | rfl | rfl | rfl | hy5
  · have q4 := q3.belowG ((Below.refl _ w3).alloc (Nat.le_refl _) (.cells #[.int .i64 (-1), .int .i64 (-2), .int .i64 ((i : Int)), .int .i64 ((i : Int) + 1)] 3)) hg3
    have C4 := Lib.hid (among_lit g k3 v (.slice (some ⟨w3.heap.size, 0, none⟩) 4 4) code [-1, -2, (i : Int), (i : Int) + 1] _ q4 (by omega) (lit4 w3 (g + 1) (-1) (-2) ((i : Int)) ((i : Int) + 1) (by omega)) (by simp) (by simp) (fun _ => True) (fun _ _ => trivial))
    have o4 := OwnRow.al o3 (.cells #[.int .i64 (-1), .int .i64 (-2), .int .i64 ((i : Int)), .int .i64 ((i : Int) + 1)] 3)
    have a5 := a4.next ((Below.refl _ w3).alloc (Nat.le_refl _) (.cells #[.int .i64 (-1), .int .i64 (-2), .int .i64 ((i : Int)), .int .i64 ((i : Int) + 1)] 3))
    go_wp2_with fail
    refine C4.out.mono ?_; rintro e w5 ⟨x, k5, rfl, _, hk5, hj5, q5, d5⟩
    have o5 := OwnRow.apt o4 d5 (by omega)
    have a6 := a5.trans d5
    have hc0 := OwnRow.cell o5 i hil 0 (by decide)
    have hc : w5.cell? ⟨b, i * 3, none⟩ = some (.int .i64 (gx verRec l i).p) := hc0
    have hf : w5.frozen? ⟨b, i * 3, none⟩ = false := OwnRow.free o5 _
    obtain ⟨l', hl', o7⟩ := o5.setF i 0 (by omega) x hil
    have O7 := Lib.hid o7
    have hbb := Lib.hid ((Below.refl w.heap.size w5).setCell (p := ⟨b, i * 3 + 0, none⟩) (by show _ ≤ b; omega) (.int .i64 x))
    clear o7 o4 C4 q4 a5 o3 hc0
    go_wp2_with fail
    go_ret
    exact ⟨_, l', k5, rfl, O7.out, q5.belowG hbb.out hg, a6.trans2 hbb.out (Nat.le_refl _), by omega, by omega, by omega⟩
  · have q4 := q3.belowG ((Below.refl _ w3).alloc (Nat.le_refl _) (.cells #[.int .i64 (-1), .int .i64 (7), .int .i64 (8)] 3)) hg3
    have C4 := Lib.hid (among_lit g k3 v (.slice (some ⟨w3.heap.size, 0, none⟩) 3 3) code [-1, 7, 8] _ q4 (by omega) (lit3 w3 (g + 1) (-1) (7) (8) (by omega)) (by simp) (by simp) (fun _ => True) (fun _ _ => trivial))
    have o4 := OwnRow.al o3 (.cells #[.int .i64 (-1), .int .i64 (7), .int .i64 (8)] 3)
    have a5 := a4.next ((Below.refl _ w3).alloc (Nat.le_refl _) (.cells #[.int .i64 (-1), .int .i64 (7), .int .i64 (8)] 3))
    go_wp2_with fail
    refine C4.out.mono ?_; rintro e w5 ⟨x, k5, rfl, _, hk5, hj5, q5, d5⟩
    have o5 := OwnRow.apt o4 d5 (by omega)
    have a6 := a5.trans d5
    have hc0 := OwnRow.cell o5 i hil 1 (by decide)
    have hc : w5.cell? ⟨b, i * 3 + 1, none⟩ = some (.int .i64 (gx verRec l i).k) := hc0
    have hf : w5.frozen? ⟨b, i * 3 + 1, none⟩ = false := OwnRow.free o5 _
    obtain ⟨l', hl', o7⟩ := o5.setF i 1 (by omega) x hil
    have O7 := Lib.hid o7
    have hbb := Lib.hid ((Below.refl w.heap.size w5).setCell (p := ⟨b, i * 3 + 1, none⟩) (by show _ ≤ b; omega) (.int .i64 x))
    clear o7 o4 C4 q4 a5 o3 hc0
    go_wp2_with fail
    go_ret
    exact ⟨_, l', k5, rfl, O7.out, q5.belowG hbb.out hg, a6.trans2 hbb.out (Nat.le_refl _), by omega, by omega, by omega⟩
  · have q4 := q3.belowG ((Below.refl _ w3).alloc (Nat.le_refl _) (.cells #[.int .i64 (-1), .int .i64 (999), .int .i64 (1000)] 3)) hg3
    have C4 := Lib.hid (among_lit g k3 v (.slice (some ⟨w3.heap.size, 0, none⟩) 3 3) code [-1, 999, 1000] _ q4 (by omega) (lit3 w3 (g + 1) (-1) (999) (1000) (by omega)) (by simp) (by simp) (fun _ => True) (fun _ _ => trivial))
    have o4 := OwnRow.al o3 (.cells #[.int .i64 (-1), .int .i64 (999), .int .i64 (1000)] 3)
    have a5 := a4.next ((Below.refl _ w3).alloc (Nat.le_refl _) (.cells #[.int .i64 (-1), .int .i64 (999), .int .i64 (1000)] 3))
    go_wp2_with fail
    refine C4.out.mono ?_; rintro e w5 ⟨x, k5, rfl, _, hk5, hj5, q5, d5⟩
    have o5 := OwnRow.apt o4 d5 (by omega)
    have a6 := a5.trans d5
    have hc0 := OwnRow.cell o5 i hil 2 (by decide)
    have hc : w5.cell? ⟨b, i * 3 + 2, none⟩ = some (.int .i64 (gx verRec l i).v) := hc0
    have hf : w5.frozen? ⟨b, i * 3 + 2, none⟩ = false := OwnRow.free o5 _
    obtain ⟨l', hl', o7⟩ := o5.setF i 2 (by omega) x hil
    have O7 := Lib.hid o7
    have hbb := Lib.hid ((Below.refl w.heap.size w5).setCell (p := ⟨b, i * 3 + 2, none⟩) (by show _ ≤ b; omega) (.int .i64 x))
    clear o7 o4 C4 q4 a5 o3 hc0
    go_wp2_with fail
    go_ret
    exact ⟨_, l', k5, rfl, O7.out, q5.belowG hbb.out hg, a6.trans2 hbb.out (Nat.le_refl _), by omega, by omega, by omega⟩
  · have C4 := Lib.hid (pick_ex g v code 2 k3 w3 (by omega) (by omega) q3)
    go_wp2_with fail
    refine C4.out.mono ?_; rintro e w5 ⟨z, k5, rfl, hz, hk5, hj5, q5, d5⟩
    have o5 := o3.apt d5 (by omega)
    have a6 := a4.trans d5
    clear o3 q3 a4 d5 C4
    go_wp2_with fail
    go_loopg [3] 62 (fun gk t wr => ∃ l9 : List Ver, l9.length ≤ 62 ∧ 62 ≤ l9.length + gk ∧ OwnRow verRec wr w.heap.size t l9 ∧ CurAt wr g v code k5 ∧ Apg g w wr)
    case atStart => exact ⟨l, by omega, by omega, o5, q5, a6⟩
    case round =>
      obtain ⟨l9, hl9, hg9, ho, qr, ar⟩ := hrel
      clear o5 q5 a6
      obtain ⟨A9, c9, rfl, hn9, hc9⟩ := ho.reads.shape
      have hsr := ar.size
      by_cases hlt : (l9.length : Int) < 60 + z
      · have h9 : l9.length + 1 ≤ 1099511627776 := by omega
        go_wp2_with (at_builtin; refine wp_app_rec verRec _ rfl _ _ 23 _ _ Tryd.underlying23 info_ver3 rfl (by omega) (by rfl) w.heap.size _ l9 (by rfl) ho ⟨0, 1, l9.length⟩ _ rfl _ _ rfl (by rfl) (by rfl) h9 hsr ?_; intro v19 w19 ho19 hg19)
        go_roundg (gk - 1)
        case measure => omega
        case rel => exact ⟨l9 ++ [⟨0, 1, l9.length⟩], by simp; omega, by simp; omega, ho19, qr.belowG hg19.below hg, ar.trans2 hg19.below (Nat.le_refl _)⟩
      · go_wp2_with fail
        go_ret
        exact ⟨_, l9, k5, rfl, ho, qr, ar, by omega, by omega, by omega⟩
  · go_wp2_with fail
    go_ret
    exact ⟨_, [], k3, rfl, OwnRow.nil_ _ _ _, q3, a4, by simp, by omega, by omega⟩
  · have b0 : ((y : Int) == 0) = false := by simp; omega
    have b1 : ((y : Int) == 1) = false := by simp; omega
    have b2 : ((y : Int) == 2) = false := by simp; omega
    have b3 : ((y : Int) == 3) = false := by simp; omega
    have b4 : ((y : Int) == 4) = false := by simp; omega
    go_wp2_with fail
    go_ret
    exact ⟨_, l, k3, rfl, o3, q3, a4, by omega, by omega, by omega⟩
end Go.Proofs.YtgngnkndebkbmaaDoor
