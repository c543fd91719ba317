/- The cursor of the draws: its state in memory; next, pick, one, among. -/
import Derived.Test.YtnkbopnmfoplfaaBase
import Derived.Test.YtnkbopnmfoplfaaHelp
import Derived.Test.YtnkbopnmfoplfaaLcg
import Derived.Test.YtnkbopnmfoplfaaQuietB
set_option linter.unusedSimpArgs false
set_option linter.unusedVariables false
namespace Go.Proofs.Ytnkbopnmfoplfaa
open Go.RowKit Go.Sort

/-- The byte at an index. -/
def cb (code : List Nat) (n : Nat) : Nat := code.getD n 0
/-- The seed after n steps over the bytes. -/
def sdN (code : List Nat) : Nat → Nat
  | 0 => 0
  | n + 1 => (sdN code n * lcA + cb code n + lcC) % lcM
/-- What the step number n yields. -/
def byN (code : List Nat) (n : Nat) : Nat := if n < code.length then cb code n else sdN code (n + 1) / 1099511627776 % 256
def WfCode (code : List Nat) : Prop := ∀ i, cb code i < 256
theorem byN_lt {code : List Nat} (h : WfCode code) (n : Nat) : byN code n < 256 := by
  unfold byN; split
  · exact h n
  · omega
theorem sdN_lt (code : List Nat) (n : Nat) : sdN code n < 18446744073709551616 := by
  cases n with
  | zero => exact Nat.zero_lt_succ _
  | succ n => exact Nat.mod_lt _ (by decide)
/-- Bytes as cells. -/
def u8s (code : List Nat) : List Value := code.map fun (b : Nat) => Value.int .u8 (b : Int)
/-- The bytes lie below g, and nothing has turned there. -/
def CodeLo (w : World) (g : Nat) (v : Value) (code : List Nat) : Prop := ∃ w0 : World, Sl w0 1 v code.length (u8s code) ∧ w0.heap.size ≤ g ∧ Below w0.heap.size w0 w
theorem CodeLo.sl {w : World} {g : Nat} {v : Value} {code : List Nat} (h : CodeLo w g v code) : Sl w 1 v code.length (u8s code) := by
  obtain ⟨w0, h1, h2, h3⟩ := h
  exact h1.below h3 (Nat.le_refl _)
theorem CodeLo.at_ {w : World} {g : Nat} {A : Option Addr} {m c : Nat} {code : List Nat} (h : CodeLo w g (.slice A m c) code) (k : Nat) (hk : k < code.length) :
    ∃ b o, A = some ⟨b, o, none⟩ ∧ w.cell? ⟨b, o + k, none⟩ = some (.int .u8 (cb code k : Nat)) := by
  have hn : m = code.length := by
    obtain ⟨_, _, _, he, _⟩ := h.sl
    injection he
  subst hn
  obtain ⟨b, o, u, rfl, hu, hc⟩ := Sl.at_ h.sl hk
  refine ⟨b, o, rfl, ?_⟩
  rw [hc]
  unfold u8s at hu
  rw [List.getElem?_map] at hu
  unfold cb
  rw [List.getD_eq_getElem?_getD]
  cases hx : code[k]? with
  | none => rw [hx] at hu; cases hu
  | some x => rw [hx] at hu; simp at hu; rw [← hu]; rfl
/-- What a call of the cursor's leaves alone: all but the cursor's own block. -/
abbrev Apg (g : Nat) (w w' : World) : Prop := Apart g (g + 1) w w'
theorem Apart.setCell {lo hi : Nat} {a w : World} (h : Apart lo hi a w) {p : Addr} (h1 : lo ≤ p.block) (h2 : p.block < hi) (u : Value) : Apart lo hi a (w.setCell p u) :=
  ⟨h.os, h.tape, h.output, by rw [World.size_setCell]; exact h.size, fun k hk ho => (heap_setCell_other w p k u (by omega)).trans (h.block k hk ho)⟩
theorem Apart.drewN {lo hi : Nat} {a w : World} (h : Apart lo hi a w) (n : Nat) : Apart lo hi a (w.drewN n) := ⟨h.os, h.tape, h.output, h.size, h.block⟩
theorem Apart.of_below {lo hi B : Nat} {a w : World} (h : Below B a w) (hB : a.heap.size ≤ B) : Apart lo hi a w := ⟨h.os, h.tape, h.output, h.size, fun k hk _ => h.block k (by omega)⟩
theorem Apart.next {lo hi : Nat} {a w w' : World} (h : Apart lo hi a w) (h2 : Below w.heap.size w w') : Apart lo hi a w' := h.trans (Apart.of_below h2 (Nat.le_refl _))
theorem Apart.trans2 {lo hi B : Nat} {a w w' : World} (h : Apart lo hi a w) (h2 : Below B w w') (hB : a.heap.size ≤ B) : Apart lo hi a w' :=
  ⟨h2.os.trans h.os, h2.tape.trans h.tape, h2.output.trans h.output, Nat.le_trans h.size h2.size, fun k hk ho => (h2.block k (by omega)).trans (h.block k hk ho)⟩
theorem CodeLo.apart {w w' : World} {g : Nat} {v : Value} {code : List Nat} (h : CodeLo w g v code) (ha : Apg g w w') : CodeLo w' g v code := by
  obtain ⟨w0, h1, h2, h3⟩ := h
  exact ⟨w0, h1, h2, h3.trans (ha.below h3.size h2)⟩
/-- The cursor at block g, after n steps. -/
structure CurAt (w : World) (g : Nat) (v : Value) (code : List Nat) (n : Nat) : Prop where
  heap : w.heap[g]? = some (.cells #[v, .int .i64 n, .int .u64 (sdN code n : Nat)] 67 (0, 0))
  row : CodeLo w g v code
  wf : WfCode code
theorem CurAt.lt {w : World} {g : Nat} {v : Value} {code : List Nat} {n : Nat} (h : CurAt w g v code n) : g < w.heap.size := (Array.getElem?_eq_some_iff.1 h.heap).1
theorem CurAt.below {w w' : World} {g : Nat} {v : Value} {code : List Nat} {n B : Nat} (h : CurAt w g v code n) (hb : Below B w w') (hB : w.heap.size ≤ B) : CurAt w' g v code n := by
  have hg := h.lt
  refine ⟨(hb.block g (by omega)).trans h.heap, ?_, h.wf⟩
  obtain ⟨w0, h1, h2, h3⟩ := h.row
  exact ⟨w0, h1, h2, h3.trans (hb.mono (by omega))⟩
theorem CurAt.drewN {w : World} {g : Nat} {v : Value} {code : List Nat} {n : Nat} (h : CurAt w g v code n) (d : Nat) : CurAt (w.drewN d) g v code n := by
  refine ⟨h.heap, ?_, h.wf⟩
  obtain ⟨w0, h1, h2, h3⟩ := h.row
  exact ⟨w0, h1, h2, h3.drewN d⟩
theorem CurAt.belowG {w w' : World} {g : Nat} {v : Value} {code : List Nat} {n B : Nat} (h : CurAt w g v code n) (hb : Below B w w') (hB : g < B) : CurAt w' g v code n := by
  refine ⟨(hb.block g hB).trans h.heap, ?_, h.wf⟩
  obtain ⟨w0, h1, h2, h3⟩ := h.row
  exact ⟨w0, h1, h2, h3.trans (hb.mono (by omega))⟩
theorem Apart.nextB {lo hi B : Nat} {a w w' : World} (h : Apart lo hi a w) (h2 : Below B w w') (hB : a.heap.size ≤ B) : Apart lo hi a w' := h.trans2 h2 hB
/-- Between two worlds that part in the cursor's block (and in new blocks) one that parts from the second in new blocks alone. -/
theorem Apart.mid {lo hi : Nat} {w w1 : World} (h : Apart lo hi w w1) : ∃ wm : World, wm.heap.size = w.heap.size ∧ Apart lo hi w wm ∧ Below w.heap.size wm w1 := by
  have hs := h.size
  refine ⟨{ w1 with heap := w1.heap.extract 0 w.heap.size }, by simp; omega, ⟨h.os, h.tape, h.output, by simp; omega, fun k hk ho => ?_⟩, ⟨rfl, rfl, rfl, by simp; omega, fun k hk => ?_⟩⟩
  · show (w1.heap.extract 0 w.heap.size)[k]? = _
    rw [Array.getElem?_extract, if_pos (by omega), Nat.zero_add]
    exact h.block k hk ho
  · show w1.heap[k]? = (w1.heap.extract 0 w.heap.size)[k]?
    rw [Array.getElem?_extract, if_pos (by omega), Nat.zero_add]
theorem CurAt.mid {w wm w1 : World} {g n : Nat} {v : Value} {code : List Nat} (h : CurAt w1 g v code n) (h0 : CodeLo w g v code) (hw : g < w.heap.size) (ha : Apg g w wm) (hb : Below w.heap.size wm w1) : CurAt wm g v code n :=
  ⟨(hb.block g hw).symm.trans h.heap, h0.apart ha, h.wf⟩
/-- What is the call's own and lies behind the cursor, or below it, stays. -/
theorem ownsRow_apt {w w' : World} {base e sz n g : Nat} {v : Value} {xs : List Value} (h : w.ownsRow base e sz v n xs) (ha : Apg g w w') (hb : g + 1 ≤ base) : w'.ownsRow base e sz v n xs :=
  ownsRow_keep h (lo := g + 1) (hi := w.heap.size) (fun k h1 h2 => ha.block k h2 (.inr h1)) hb (fun k hk => (World.ownsRow.lt h k hk).2)
theorem OwnInts.apt {w w' : World} {base g : Nat} {v : Value} {l : List Int} (h : OwnInts w base v l) (ha : Apg g w w') (hb : g + 1 ≤ base) : OwnInts w' base v l := ownsRow_apt h ha hb
theorem u64_mod (x : Int) : IntKind.u64.wrap x = x % 18446744073709551616 := by unfold IntKind.wrap; rfl
theorem sd_step (code : List Nat) (n : Nat) : IntKind.u64.wrap (IntKind.u64.wrap (IntKind.u64.wrap ((sdN code n : Int) * 6364136223846793005) + ((cb code n : Nat) : Int)) + 1442695040888963407) = (sdN code (n + 1) : Nat) := by
  rw [u64_mod, u64_mod, u64_mod]
  show _ = (((sdN code n * 6364136223846793005 + cb code n + 1442695040888963407) % 18446744073709551616 : Nat) : Int)
  generalize sdN code n = a
  generalize cb code n = b
  omega
theorem and255 (y : Nat) (h : y < 18446744073709551616) : bits .and .u64 (y : Int) 255 = ((y % 256 : Nat) : Int) := by
  have e : (BitVec.ofInt 64 (y : Int) &&& BitVec.ofInt 64 255).toNat = y % 256 := by
    rw [BitVec.toNat_and, BitVec.ofInt_natCast, BitVec.toNat_ofNat, Nat.mod_eq_of_lt h]
    show y &&& 255 = y % 256
    exact Nat.and_two_pow_sub_one_eq_mod y 8
  show IntKind.u64.wrap (((BitVec.ofInt 64 (y : Int) &&& BitVec.ofInt 64 255).toNat : Nat) : Int) = _
  rw [e]
  exact IntWalk.u64_in _ (by omega)
theorem by_out {code : List Nat} {n : Nat} (h : code.length ≤ n) (s1 : Int) (hs : s1 = (sdN code (n + 1) : Nat)) : wrap64 (bits .and .u64 (s1 / 1099511627776) 255) = (byN code n : Nat) := by
  have hb : byN code n = sdN code (n + 1) / 1099511627776 % 256 := by unfold byN; rw [if_neg (by omega)]
  have hl := sdN_lt code (n + 1)
  rw [hb, hs]
  generalize sdN code (n + 1) = y at hl ⊢
  have e : ((y : Int) / 1099511627776) = ((y / 1099511627776 : Nat) : Int) := by omega
  rw [e, and255 _ (by omega)]
  unfold wrap64; omega
theorem cb_out {code : List Nat} {n : Nat} (h : code.length ≤ n) : cb code n = 0 := by
  unfold cb; rw [List.getD_eq_getElem?_getD, List.getElem?_eq_none h]; rfl
set_option maxRecDepth 100000 in
set_option maxHeartbeats 1600000 in
theorem next_any (g n : Nat) (v : Value) (code : List Nat) (w : World) (h : CurAt w g v code n) (hn : n ≤ 4611686018427387904) :
    Calls Try.prog 70 #[.pointer (some ⟨g, 0, none⟩)] w
      fun e w' => e = .returned (.int .i64 (byN code n : Nat)) ∧ CurAt w' g v code (n + 1) ∧ Apg g w w' := by
  obtain ⟨A, c, rfl, hnc, hc63⟩ := h.row.sl.shape
  have hg := h.lt
  have c0 : w.cell? ⟨g, 0, none⟩ = some (.slice A code.length c) := by rw [cell_of_row w g 0 _ _ _ h.heap]; rfl
  have c1 : w.cell? ⟨g, 1, none⟩ = some (.int .i64 n) := by rw [cell_of_row w g 1 _ _ _ h.heap]; rfl
  have c2 : w.cell? ⟨g, 2, none⟩ = some (.int .u64 (sdN code n : Nat)) := by rw [cell_of_row w g 2 _ _ _ h.heap]; rfl
  have f1 : w.frozen? ⟨g, 1, none⟩ = false := frozen_of_row w g 1 _ _ h.heap
  have f2 : w.frozen? ⟨g, 2, none⟩ = false := frozen_of_row w g 2 _ _ h.heap
  have hS := sd_step code n
  have hb := h.wf n
  obtain ⟨s0, hs0⟩ : ∃ s0 : Int, s0 = (sdN code n : Nat) := ⟨_, rfl⟩
  obtain ⟨s1, hs1⟩ : ∃ s1 : Int, s1 = (sdN code (n + 1) : Nat) := ⟨_, rfl⟩
  obtain ⟨x, hx⟩ : ∃ x : Int, x = (cb code n : Nat) := ⟨_, rfl⟩
  rw [← hs0, ← hs1, ← hx] at hS
  rw [← hs0] at c2
  have hx0 : 0 ≤ x ∧ x < 256 := by omega
  obtain ⟨x0, x1⟩ := hx0
  have hw1 : IntKind.i64.wrap x = x := IntWalk.i64_in _ (by omega)
  have hw1' : wrap64 x = x := by unfold wrap64; omega
  have hw2 : IntKind.u64.wrap x = x := IntWalk.u64_in _ (by omega)
  have hfin : ∀ d, CurAt (((w.drewN d).setCell ⟨g, 1, none⟩ (.int .i64 ((n : Int) + 1))).setCell ⟨g, 2, none⟩ (.int .u64 s1)) g (.slice A code.length c) code (n + 1) ∧ Apg g w (((w.drewN d).setCell ⟨g, 1, none⟩ (.int .i64 ((n : Int) + 1))).setCell ⟨g, 2, none⟩ (.int .u64 s1)) := by
    intro d
    have ha : Apg g w (((w.drewN d).setCell ⟨g, 1, none⟩ (.int .i64 ((n : Int) + 1))).setCell ⟨g, 2, none⟩ (.int .u64 s1)) :=
      (((Apart.refl g (g + 1) w).drewN d).setCell (p := ⟨g, 1, none⟩) (Nat.le_refl _) (Nat.lt_succ_self _) _).setCell (p := ⟨g, 2, none⟩) (Nat.le_refl _) (Nat.lt_succ_self _) _
    refine ⟨⟨?_, h.row.apart ha, h.wf⟩, ha⟩
    rw [heap_setCell_same _ g 2 _ _ _ (heap_setCell_same (w.drewN d) g 1 _ _ _ h.heap), hs1]
    rfl
  have Hfin := Lib.hid hfin
  have Hrow := Lib.hid (fun k hk => h.row.at_ k hk)
  have Hs0 := Lib.hid hs0
  have Hs1 := Lib.hid hs1
  have Hx := Lib.hid hx
  clear hfin h hs0 hs1 hb hx
  by_cases hlt : n < code.length
  · obtain ⟨b, o, rfl, hc⟩ := Hrow.out n hlt
    rw [← Hx.out] at hc
    have hq : decide ((n : Int) < (code.length : Int)) = true := decide_eq_true (by omega)
    have hl0 : (0 : Int) ≤ (n : Int) := by omega
    have hl1 : (n : Int) < (code.length : Int) := by omega
    have hl2 : (n : Int) + 1 ≤ (code.length : Int) := by omega
    have hr : Hid (((byN code n : Nat) : Int) = x) := by show _ = _; unfold byN; rw [if_pos hlt, Hx.out]
    go_enter Try.func70, Try.ntmps70
    go_wp2_with fail
    go_quiet (fail)
    go_wp2_with fail
    go_quiet (fail)
    go_wp2_with fail
    go_quiet (fail)
    go_wp2_with fail
    go_ret
    exact ⟨ret_int hr.out.symm, (Hfin.out _).1.drewN _, (Hfin.out _).2.drewN _⟩
  · have h0 : x = 0 := by rw [Hx.out, cb_out (by omega)]; rfl
    have hq : decide ((n : Int) < (code.length : Int)) = false := decide_eq_false (by omega)
    have hl2 : ¬ (n : Int) + 1 ≤ (code.length : Int) := by omega
    rw [h0, Int.add_zero] at hS
    have hn8 := Lib.hid (by_out (by omega) s1 Hs1.out : wrap64 (bits .and .u64 (s1 / 1099511627776) 255) = (byN code n : Nat))
    clear hw1 hw1' hw2 x0 x1
    go_enter Try.func70, Try.ntmps70
    go_wp2_with fail
    go_quiet (fail)
    go_wp2_with fail
    go_quiet (fail)
    go_wp2_with fail
    go_ret
    exact ⟨ret_int hn8.out, (Hfin.out _).1.drewN _, (Hfin.out _).2.drewN _⟩
end Go.Proofs.Ytnkbopnmfoplfaa
