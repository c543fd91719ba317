/- Records: Spot; and the contracts of the laws' helpers for slices of them. -/
import Derived.Test.YtgcgkpmjahgmnaaRec
import Derived.Test.YtgcgkpmjahgmnaaHelp
import Derived.Deep.RegionWith
set_option linter.unusedSimpArgs false
set_option linter.unusedVariables false
namespace Go.Proofs.Ytgcgkpmjahgmnaa
open Go.RowKit

structure Spt where
  x : Int
  y : Int
deriving DecidableEq
theorem Spt.ext_ {a b : Spt} (h0 : a.x = b.x) (h1 : a.y = b.y): a = b := by cases a; cases b; simp_all
def sptRec : Rec Spt := ⟨2, 69, fun a => [.int .i64 a.x, .int .i64 a.y], fun _ => rfl, by omega, fun _ u hu => by simp at hu; rcases hu with rfl | rfl <;> rfl, ⟨0, 0⟩⟩
theorem info_spt : (Try.prog.info? 69).map (fun i => (i.zero, i.size, i.bytes)) = some (some (.agg #[.int .i64 0, .int .i64 0]), 2, 16) := by kernel_rfl
theorem spt_at {w : World} {A : Option Addr} {n c : Nat} {l : List Spt} (h : RowAt sptRec w (.slice A n c) l) (i : Nat) (hi : i < l.length) :
    ∃ b o, A = some ⟨b, o, none⟩ ∧ w.cell? ⟨b, o + i * 2, none⟩ = some (.int .i64 (gx sptRec l i).x) ∧ w.cell? ⟨b, o + i * 2 + 1, none⟩ = some (.int .i64 (gx sptRec l i).y) := by
  obtain ⟨b, o, rfl, hc⟩ := RowAt.cells h i hi
  exact ⟨b, o, rfl, hc 0 _ rfl, hc 1 _ rfl⟩
theorem spt_own {w : World} {lo g n c : Nat} {l : List Spt} (h : OwnRow sptRec w lo (.slice (some ⟨g, 0, none⟩) n c) l) (i : Nat) (hi : i < l.length) :
    w.cell? ⟨g, i * 2, none⟩ = some (.int .i64 (gx sptRec l i).x) ∧ w.cell? ⟨g, i * 2 + 1, none⟩ = some (.int .i64 (gx sptRec l i).y) := by
  exact ⟨OwnRow.cell h i hi 0 (by show 0 < 2; omega), OwnRow.cell h i hi 1 (by show 1 < 2; omega)⟩
theorem wp_app_spts (w : World) {ops : Array Oper} {rest : List Oper} {o : Oper} {a : Act} {Q : Exit → Act → World → Prop} (hgd : o.guard = none) (s x : Operand)
    (ho : o.op = .call { callee := .builtin .append, args := #[s, x], argTypes := #[29, 29] })
    (base : Nat) (v : Value) (l : List Spt) (hs : a.eval s = v) (hown : OwnRow sptRec w base v l)
    (sv : Value) (m : List Spt) (hx : a.eval x = sv) (hsl : RowAt sptRec w sv m)
    (h63 : l.length + m.length ≤ 1099511627776) (hbase : base ≤ w.heap.size)
    (h : ∀ v' w', OwnRow sptRec w' base v' (l ++ m) → Grew w w' base v v' → wpList Try.prog ops Q rest (a.put o.dst v') w') :
    wpList Try.prog ops Q (o :: rest) a w :=
  wp_app_row sptRec w hgd s x 29 _ _ Try.underlying29 info_spt rfl (by omega) ho base v l hs hown sv m hx hsl h63 hbase h
theorem wp_app_spt (w : World) {ops : Array Oper} {rest : List Oper} {o : Oper} {a : Act} {Q : Exit → Act → World → Prop} (hgd : o.guard = none) (s x : Operand)
    (ho : o.op = .call { callee := .builtin .append, args := #[s, x], argTypes := #[29, 29] })
    (base : Nat) (v : Value) (l : List Spt) (hs : a.eval s = v) (hown : OwnRow sptRec w base v l)
    (y : Spt) (H : Nat) (hx : a.eval x = .slice (some ⟨H, 0, none⟩) 1 1) (hH : H = w.heap.size)
    (h63 : l.length + 1 ≤ 1099511627776) (hbase : base ≤ w.heap.size)
    (h : ∀ v' w', OwnRow sptRec w' base v' (l ++ [y]) → Grew w w' base v v' → wpList Try.prog ops Q rest (a.put o.dst v') w') :
    wpList Try.prog ops Q (o :: rest) a (w.alloc (.cells #[.int .i64 y.x, .int .i64 y.y] 69)) :=
  wp_app_rec sptRec w hgd s x 29 _ _ Try.underlying29 info_spt rfl (by omega) ho base v l hs hown y _ rfl _ H rfl hx hH h63 hbase h

set_option maxHeartbeats 400000 in
theorem toSpot_r (x : Spt) (w : World) :
    Calls Try.prog 50 #[.agg #[.int .i64 x.x, .int .i64 x.y]] w fun e w' => e = .returned (.agg #[.int .i64 x.x, .int .i64 x.y]) ∧ Below w.heap.size w w' := by
  go_enter Try.func50, Try.ntmps50
  go_wp2
  exact bodyPost_ret (v := .agg #[.int .i64 x.x, .int .i64 x.y]) (by simp [results, Try.results50, go_sem]) rfl ⟨rfl, (((Below.refl w.heap.size w).alloc (Nat.le_refl _) _).alloc (by simp) _).alloc (by simp; omega) _⟩
set_option maxHeartbeats 1600000 in
theorem eqSpot_r (x y : Spt) (w : World) :
    Calls Try.prog 56 #[.agg #[.int .i64 x.x, .int .i64 x.y], .agg #[.int .i64 y.x, .int .i64 y.y]] w fun e w' => e = .returned (.bool (decide (x = y))) ∧ Below w.heap.size w w' := by
  have hb : ∀ (o o' : Obj), Below w.heap.size w ((w.alloc o).alloc o') := fun o o' => ((Below.refl w.heap.size w).alloc (Nat.le_refl _) _).alloc (by simp) _
  have Hb := Lib.hid hb
  clear hb
  by_cases e0 : x.x = y.x
  · by_cases e1 : x.y = y.y
    · have hx : Hid (decide (x = y) = true) := decide_eq_true (Spt.ext_ e0 e1)
      have q0 : (x.x != y.x) = false := by simpa using e0
      have q1 : (x.y != y.y) = false := by simpa using e1
      clear e0 e1
      go_enter Try.func56, Try.ntmps56
      go_wp2
      go_ret
      exact ⟨ret_bool hx.out.symm, Hb.out _ _⟩
    · have hx : Hid (decide (x = y) = false) := decide_eq_false (by rintro rfl; exact e1 rfl)
      have q0 : (x.x != y.x) = false := by simpa using e0
      have q1 : (x.y != y.y) = true := by simpa using e1
      clear e0 e1
      go_enter Try.func56, Try.ntmps56
      go_wp2
      go_ret
      exact ⟨ret_bool hx.out.symm, Hb.out _ _⟩
  · have hx : Hid (decide (x = y) = false) := decide_eq_false (by rintro rfl; exact e0 rfl)
    have q0 : (x.x != y.x) = true := by simpa using e0
    clear e0
    go_enter Try.func56, Try.ntmps56
    go_wp2
    go_ret
    exact ⟨ret_bool hx.out.symm, Hb.out _ _⟩
def sptEq (a b : Spt) : Bool := decide (a = b)
theorem eqSpot_q (x y : Spt) (w : World) : Calls Try.prog 56 #[.agg #[.int .i64 x.x, .int .i64 x.y], .agg #[.int .i64 y.x, .int .i64 y.y]] w fun e w' => e = .returned (.bool (sptEq x y)) ∧ Below w.heap.size w w' := eqSpot_r x y w
theorem szSpotS_yes (v : Value) (l : List Spt) (n : Int) (w : World) (h : RowAt sptRec w v l) (hn : 0 ≤ n) (hn2 : n ≤ 1048576) (hl : (l.length : Int) ≤ n) :
    Calls Try.prog 21 #[v, .int .i64 n] w fun e w' => e = .returned (.int .i64 (n - l.length)) ∧ w = w' := by
  obtain ⟨A, c, rfl, hnc, hc63⟩ := h.shape
  go_enter Try.func21, Try.ntmps21
  go_wp2
  go_ret
  exact ⟨rfl, rfl⟩
theorem szSpotS_no (v : Value) (l : List Spt) (n : Int) (w : World) (h : RowAt sptRec w v l) (hn : 0 ≤ n) (hn2 : n ≤ 1048576) (hl : n < (l.length : Int)) :
    Calls Try.prog 21 #[v, .int .i64 n] w fun e w' => e = .returned (.int .i64 (-1)) ∧ w = w' := by
  obtain ⟨A, c, rfl, hnc, hc63⟩ := h.shape
  go_enter Try.func21, Try.ntmps21
  go_wp2
  go_ret
  exact ⟨rfl, rfl⟩
set_option maxHeartbeats 800000 in
theorem toSpotS_any (v : Value) (l : List Spt) (w : World) (h : RowAt sptRec w v l) (hl : l.length ≤ 1048576) :
    Calls Try.prog 28 #[v] w (FreshRow sptRec w l) := by
  obtain ⟨A, c, rfl, hnc, hc63⟩ := h.shape
  obtain ⟨i0, hi, hz0, hz1, hz2⟩ := info_parts info_spt
  go_enter Try.func28, Try.ntmps28
  go_wp2_with (at_make; refine wpList_make_full _ rfl _ _ 29 rfl w.heap.size 69 i0 _ 2 Try.underlying29 hi hz0 hz1 _ _ _ _ l.length rfl rfl rfl rfl (by rw [hz2]; omega) (by unfold maxLen; omega) (Nat.le_refl _) ?_; intro w1 hown hgrow)
  have hown2 : OwnRow sptRec w1 w.heap.size (.slice (some ⟨w.heap.size, 0, none⟩) l.length l.length) (filled sptRec l 0) := by
    have e := made_rcells sptRec _ rfl l.length
    unfold OwnRow
    rw [filled_len _ _ _ (Nat.zero_le _), filled_zero, ← e]
    exact hown
  have hb1 : Below w.heap.size w w1 := (Below.refl _ _).grown hgrow (Nat.le_refl _) (fun k hk => by cases hk)
  clear hown hgrow
  go_loopw [4] (fun i wr => ∃ (k : Nat), k ≤ l.length ∧ i = .int .i64 k ∧ OwnRow sptRec wr w.heap.size (.slice (some ⟨w.heap.size, 0, none⟩) l.length l.length) (filled sptRec l k) ∧ Below w.heap.size w wr) (fun i _ => l.length - (intOf i).toNat)
  case atStart => exact ⟨0, Nat.zero_le _, rfl, hown2, hb1⟩
  case round =>
    obtain ⟨k, hk, rfl, ho, hb⟩ := hrel
    by_cases hlt : k < l.length
    · obtain ⟨b, o, rfl, hc0, hc1⟩ := spt_at (h.below hb (Nat.le_refl _)) k hlt
      go_wp2_with fail
      refine (toSpot_r (gx sptRec l k) _).mono ?_; rintro e w2 ⟨rfl, b2⟩
      have ho2 : OwnRow sptRec w2 w.heap.size (.slice (some ⟨w.heap.size, 0, none⟩) l.length l.length) (filled sptRec l k) := ho.below b2 (Nat.le_refl _)
      obtain ⟨g0, g1⟩ := spt_own ho2 k (by rw [filled_len _ _ _ hk]; exact hlt)
      rw [filled_at _ _ _ hlt] at g0 g1
      have fz0 : w2.frozen? ⟨w.heap.size, k * 2, none⟩ = false := ho2.free _
      have fz1 : w2.frozen? ⟨w.heap.size, k * 2 + 1, none⟩ = false := ho2.free _
      have h3 := ho2.set k (gx sptRec l k) (by rw [filled_len _ _ _ hk]; exact hlt)
      rw [filled_set _ _ _ hlt] at h3
      have H3 := Lib.hid h3.1
      have bb := hb.next (Nat.le_refl _) b2
      have hb3 : Hid (Below w.heap.size w ((w2.setCell ⟨w.heap.size, k * 2, none⟩ (.int .i64 (gx sptRec l k).x)).setCell ⟨w.heap.size, k * 2 + 1, none⟩ (.int .i64 (gx sptRec l k).y))) := ((bb.setCell (by exact Nat.le_refl _) _).setCell (by exact Nat.le_refl _) _)
      clear h3 ho2
      go_wp2_with fail
      go_roundw
      case rel => exact ⟨k + 1, by omega, by go_num, H3.out, hb3.out⟩
      case measure => simp [intOf]; omega
    · have hx : k = l.length := by omega
      subst hx
      rw [filled_all] at ho
      have Ho := Lib.hid ho
      clear ho
      go_wp2_with fail
      go_ret
      exact ⟨_, rfl, Ho.out, hb⟩
set_option maxHeartbeats 800000 in
theorem eqSpotS_any (v1 v2 : Value) (l1 l2 : List Spt) (w : World) (h1 : RowAt sptRec w v1 l1) (h2 : RowAt sptRec w v2 l2) :
    Calls Try.prog 35 #[v1, v2] w fun e w' => e = .returned (.bool (decide (l1 = l2))) ∧ Below w.heap.size w w' := by
  obtain ⟨A, c, rfl, hnc, hc63⟩ := h1.shape
  obtain ⟨B, d, rfl, hnd, hd63⟩ := h2.shape
  by_cases hne : l1.length = l2.length
  · rw [← hne] at h2 hnd ⊢
    have Hne := Lib.hid hne
    clear hne
    go_enter Try.func35, Try.ntmps35
    go_wp2_with fail
    go_loopw [5] (fun i wr => ∃ k : Nat, k ≤ l1.length ∧ i = .int .i64 k ∧ Hid (l1.take k = l2.take k) ∧ Below w.heap.size w wr) (fun i _ => l1.length - (intOf i).toNat)
    case atStart => exact ⟨0, Nat.zero_le _, rfl, rfl, Below.refl _ _⟩
    case round =>
      obtain ⟨k, hk, rfl, hall, hb⟩ := hrel
      by_cases hlt : k < l1.length
      · obtain ⟨b, o, rfl, hc0, hc1⟩ := spt_at (h1.below hb (Nat.le_refl _)) k hlt
        obtain ⟨b', o', rfl, hd0, hd1⟩ := spt_at (h2.below hb (Nat.le_refl _)) k (by have := Hne.out; omega)
        go_wp2_with fail
        go_region_with (go_at_call 56; refine (eqSpot_r (gx sptRec l1 k) (gx sptRec l2 k) _).mono ?_; rintro e w1 ⟨rfl, b1⟩)
        all_goals go_wp2_with fail
        · have hx : (!decide (gx sptRec l1 k = gx sptRec l2 k)) = true := by assumption
          have hne : Hid (l1 ≠ l2) := by
            show l1 ≠ l2
            rintro rfl; simp at hx
          go_ret
          exact ⟨ret_bool (decide_eq_false hne.out).symm, hb.drew.next (Nat.le_refl _) b1⟩
        · have hx : (!decide (gx sptRec l1 k = gx sptRec l2 k)) = false := by assumption
          have htk : Hid (l1.take (k + 1) = l2.take (k + 1)) := by
            show _ = _
            have h1 : gx sptRec l1 k = gx sptRec l2 k := by simpa using hx
            have hlt2 : k < l2.length := by have := Hne.out; omega
            rw [take_succ_gx sptRec l1 k hlt, take_succ_gx sptRec l2 k hlt2, hall.out, h1]
          go_roundw
          case rel => exact ⟨k + 1, by omega, by go_num, htk, hb.drew.next (Nat.le_refl _) b1⟩
          case measure => simp [intOf]; omega
        · have hx : (!decide (gx sptRec l1 k = gx sptRec l2 k)) = true := by assumption
          have hne : Hid (l1 ≠ l2) := by
            show l1 ≠ l2
            rintro rfl; simp at hx
          go_ret
          exact ⟨ret_bool (decide_eq_false hne.out).symm, hb.drew.next (Nat.le_refl _) b1⟩
        · have hx : (!decide (gx sptRec l1 k = gx sptRec l2 k)) = false := by assumption
          have htk : Hid (l1.take (k + 1) = l2.take (k + 1)) := by
            show _ = _
            have h1 : gx sptRec l1 k = gx sptRec l2 k := by simpa using hx
            have hlt2 : k < l2.length := by have := Hne.out; omega
            rw [take_succ_gx sptRec l1 k hlt, take_succ_gx sptRec l2 k hlt2, hall.out, h1]
          go_roundw
          case rel => exact ⟨k + 1, by omega, by go_num, htk, hb.drew.next (Nat.le_refl _) b1⟩
          case measure => simp [intOf]; omega
      · have hx : Hid (l1 = l2) := by
          have h1 : l1.take k = l1 := List.take_of_length_le (by omega)
          have h2 : l2.take k = l2 := List.take_of_length_le (by have := Hne.out; omega)
          have := hall.out
          rwa [h1, h2] at this
        go_wp2_with fail
        go_ret
        exact ⟨ret_bool (decide_eq_true hx.out).symm, hb⟩
  · have hn : ((l1.length : Int) != l2.length) = true := by simp; omega
    have hx : Hid (l1 ≠ l2) := by
      show l1 ≠ l2
      rintro rfl; exact hne rfl
    go_enter Try.func35, Try.ntmps35
    go_wp2_with fail
    go_ret
    exact ⟨ret_bool (decide_eq_false hx.out).symm, Below.refl _ _⟩
def sptMk (k : Int) : Spt := ⟨k, k + 1⟩
end Go.Proofs.Ytgcgkpmjahgmnaa
