/- Records: Cue; and the contracts of the laws' helpers for slices of them. -/
import Derived.Test.YtnbpkealigfmjaaRec
import Derived.Test.YtnbpkealigfmjaaHelp
import Derived.Deep.RegionWith
set_option linter.unusedSimpArgs false
set_option linter.unusedVariables false
namespace Go.Proofs.Ytnbpkealigfmjaa
open Go.RowKit

structure Cu where
  c : Int
  n : ByteArray
deriving DecidableEq
theorem Cu.ext_ {a b : Cu} (h0 : a.c = b.c) (h1 : a.n = b.n): a = b := by cases a; cases b; simp_all
def cuRec : Rec Cu := ⟨2, 61, fun a => [.int .i64 a.c, .string a.n], fun _ => rfl, by omega, fun _ u hu => by simp at hu; rcases hu with rfl | rfl <;> rfl, ⟨0, ByteArray.empty⟩⟩
theorem info_cu : (Try.prog.info? 61).map (fun i => (i.zero, i.size, i.bytes)) = some (some (.agg #[.int .i64 0, .string ByteArray.empty]), 2, 24) := by kernel_rfl
theorem cu_at {w : World} {A : Option Addr} {n c : Nat} {l : List Cu} (h : RowAt cuRec w (.slice A n c) l) (i : Nat) (hi : i < l.length) :
    ∃ b o, A = some ⟨b, o, none⟩ ∧ w.cell? ⟨b, o + i * 2, none⟩ = some (.int .i64 (gx cuRec l i).c) ∧ w.cell? ⟨b, o + i * 2 + 1, none⟩ = some (.string (gx cuRec l i).n) := by
  obtain ⟨b, o, rfl, hc⟩ := RowAt.cells h i hi
  exact ⟨b, o, rfl, hc 0 _ rfl, hc 1 _ rfl⟩
theorem cu_own {w : World} {lo g n c : Nat} {l : List Cu} (h : OwnRow cuRec w lo (.slice (some ⟨g, 0, none⟩) n c) l) (i : Nat) (hi : i < l.length) :
    w.cell? ⟨g, i * 2, none⟩ = some (.int .i64 (gx cuRec l i).c) ∧ w.cell? ⟨g, i * 2 + 1, none⟩ = some (.string (gx cuRec l i).n) := by
  exact ⟨OwnRow.cell h i hi 0 (by show 0 < 2; omega), OwnRow.cell h i hi 1 (by show 1 < 2; omega)⟩
theorem wp_app_cus (w : World) {ops : Array Oper} {rest : List Oper} {o : Oper} {a : Act} {Q : Exit → Act → World → Prop} (hgd : o.guard = none) (s x : Operand)
    (ho : o.op = .call { callee := .builtin .append, args := #[s, x], argTypes := #[30, 30] })
    (base : Nat) (v : Value) (l : List Cu) (hs : a.eval s = v) (hown : OwnRow cuRec w base v l)
    (sv : Value) (m : List Cu) (hx : a.eval x = sv) (hsl : RowAt cuRec w sv m)
    (h63 : l.length + m.length ≤ 1099511627776) (hbase : base ≤ w.heap.size)
    (h : ∀ v' w', OwnRow cuRec w' base v' (l ++ m) → Grew w w' base v v' → wpList Try.prog ops Q rest (a.put o.dst v') w') :
    wpList Try.prog ops Q (o :: rest) a w :=
  wp_app_row cuRec w hgd s x 30 _ _ Try.underlying30 info_cu rfl (by omega) ho base v l hs hown sv m hx hsl h63 hbase h
theorem wp_app_cu (w : World) {ops : Array Oper} {rest : List Oper} {o : Oper} {a : Act} {Q : Exit → Act → World → Prop} (hgd : o.guard = none) (s x : Operand)
    (ho : o.op = .call { callee := .builtin .append, args := #[s, x], argTypes := #[30, 30] })
    (base : Nat) (v : Value) (l : List Cu) (hs : a.eval s = v) (hown : OwnRow cuRec w base v l)
    (y : Cu) (H : Nat) (hx : a.eval x = .slice (some ⟨H, 0, none⟩) 1 1) (hH : H = w.heap.size)
    (h63 : l.length + 1 ≤ 1099511627776) (hbase : base ≤ w.heap.size)
    (h : ∀ v' w', OwnRow cuRec w' base v' (l ++ [y]) → Grew w w' base v v' → wpList Try.prog ops Q rest (a.put o.dst v') w') :
    wpList Try.prog ops Q (o :: rest) a (w.alloc (.cells #[.int .i64 y.c, .string y.n] 61)) :=
  wp_app_rec cuRec w hgd s x 30 _ _ Try.underlying30 info_cu rfl (by omega) ho base v l hs hown y _ rfl _ H rfl hx hH h63 hbase h

theorem cu_eq {a b : ByteArray} (h : (a.toList == b.toList) = true) : a = b := by
  rw [beq_iff_eq, ByteArray.toList_eq, ByteArray.toList_eq] at h
  cases a; cases b
  simp only at h
  congr 1
  exact Array.toList_inj.1 h
theorem cu_ne {a b : ByteArray} (h : (a.toList == b.toList) = false) : a ≠ b := by rintro rfl; simp at h
/-- How many bytes the names have in all. -/
def totC (l : List Cu) : Nat := (l.map (fun x => x.n.size)).sum
def WfCues (l : List Cu) : Prop := ∀ i, i < l.length → (gx cuRec l i).n.size ≤ 9223372036854775807
theorem totC_take (l : List Cu) (k : Nat) (h : k < l.length) : totC (l.take (k + 1)) = totC (l.take k) + (gx cuRec l k).n.size := by
  rw [take_succ_gx cuRec l k h]; simp [totC]
theorem totC_le (l : List Cu) (k : Nat) : totC (l.take k) ≤ totC l := by
  unfold totC
  have h : (l.map (fun x => x.n.size)).sum = ((l.take k).map (fun x => x.n.size)).sum + ((l.drop k).map (fun x => x.n.size)).sum := by
    rw [← List.sum_append, ← List.map_append, List.take_append_drop]
  omega
theorem totC_passes (l : List Cu) (n : Int) (h1 : 0 ≤ n) (h2 : n < totC l) : ∃ k, k < l.length ∧ (totC (l.take k) : Int) ≤ n ∧ n < totC (l.take (k + 1)) := by
  suffices H : ∀ m, m ≤ l.length → n < totC (l.take m) → ∃ k, k < l.length ∧ (totC (l.take k) : Int) ≤ n ∧ n < totC (l.take (k + 1)) by
    exact H l.length (Nat.le_refl _) (by rw [List.take_of_length_le (Nat.le_refl _)]; exact h2)
  intro m
  induction m with
  | zero => intro _ h; simp [totC] at h; omega
  | succ m ih =>
    intro hm h
    by_cases hp : n < totC (l.take m)
    · exact ih (by omega) hp
    · exact ⟨m, by omega, by omega, h⟩
set_option maxHeartbeats 400000 in
theorem toCue_r (x : Cu) (w : World) :
    Calls Try.prog 28 #[.agg #[.int .i64 x.c, .string x.n]] w fun e w' => e = .returned (.agg #[.int .i64 x.c, .string x.n]) ∧ Below w.heap.size w w' := by
  go_enter Try.func28, Try.ntmps28
  go_wp2
  exact bodyPost_ret (v := .agg #[.int .i64 x.c, .string x.n]) (by simp [results, Try.results28, go_sem]) rfl ⟨rfl, (((Below.refl w.heap.size w).alloc (Nat.le_refl _) _).alloc (by simp) _).alloc (by simp; omega) _⟩
set_option maxHeartbeats 1600000 in
theorem eqCue_r (x y : Cu) (w : World) :
    Calls Try.prog 32 #[.agg #[.int .i64 x.c, .string x.n], .agg #[.int .i64 y.c, .string y.n]] w fun e w' => e = .returned (.bool (decide (x = y))) ∧ Below w.heap.size w w' := by
  have hb : ∀ (o o' : Obj), Below w.heap.size w ((w.alloc o).alloc o') := fun o o' => ((Below.refl w.heap.size w).alloc (Nat.le_refl _) _).alloc (by simp) _
  have Hb := Lib.hid hb
  clear hb
  by_cases e0 : x.c = y.c
  · cases e1 : (x.n.toList == y.n.toList)
    · have hx : Hid (decide (x = y) = false) := decide_eq_false (by rintro rfl; simp at e1)
      have q0 : (x.c != y.c) = false := by simpa using e0
      clear e0
      go_enter Try.func32, Try.ntmps32
      go_wp2
      go_ret
      exact ⟨ret_bool hx.out.symm, Hb.out _ _⟩
    · have hx : Hid (decide (x = y) = true) := decide_eq_true (Cu.ext_ e0 (cu_eq e1))
      have q0 : (x.c != y.c) = false := by simpa using e0
      clear e0
      go_enter Try.func32, Try.ntmps32
      go_wp2
      go_ret
      exact ⟨ret_bool hx.out.symm, Hb.out _ _⟩
  · have hx : Hid (decide (x = y) = false) := decide_eq_false (by rintro rfl; exact e0 rfl)
    have q0 : (x.c != y.c) = true := by simpa using e0
    clear e0
    go_enter Try.func32, Try.ntmps32
    go_wp2
    go_ret
    exact ⟨ret_bool hx.out.symm, Hb.out _ _⟩
theorem szCue_yes (x : Cu) (n : Int) (w : World) (hn : 0 ≤ n) (hn2 : n ≤ 1048576) (hl : (x.n.size : Int) ≤ n) :
    Calls Try.prog 24 #[.agg #[.int .i64 x.c, .string x.n], .int .i64 n] w fun e w' => e = .returned (.int .i64 (n - x.n.size)) ∧ Below w.heap.size w w' := by
  have Hb := Lib.hid (fun o => (Below.refl w.heap.size w).alloc (Nat.le_refl _) o)
  go_enter Try.func24, Try.ntmps24
  go_wp2
  go_ret
  exact ⟨rfl, Hb.out _⟩
theorem szCue_no (x : Cu) (n : Int) (w : World) (hn : 0 ≤ n) (hn2 : n ≤ 1048576) (hs : x.n.size ≤ 9223372036854775807) (hl : n < (x.n.size : Int)) :
    Calls Try.prog 24 #[.agg #[.int .i64 x.c, .string x.n], .int .i64 n] w fun e w' => e = .returned (.int .i64 (-1)) ∧ Below w.heap.size w w' := by
  have Hb := Lib.hid (fun o => (Below.refl w.heap.size w).alloc (Nat.le_refl _) o)
  go_enter Try.func24, Try.ntmps24
  go_wp2
  go_ret
  exact ⟨rfl, Hb.out _⟩
set_option maxHeartbeats 800000 in
theorem szCueS_yes (v : Value) (l : List Cu) (n : Int) (w : World) (h : RowAt cuRec w v l) (hn : 0 ≤ n) (hn2 : n ≤ 1048576) (hl : (l.length : Int) + totC l ≤ n) :
    Calls Try.prog 8 #[v, .int .i64 n] w fun e w' => e = .returned (.int .i64 (n - ((l.length : Int) + totC l))) ∧ Below w.heap.size w w' := by
  obtain ⟨A, c, rfl, hnc, hc63⟩ := h.shape
  go_enter Try.func8, Try.ntmps8
  go_wp2_with fail
  go_loopw [1, 5] (fun q i wr => ∃ k : Nat, k ≤ l.length ∧ i = .int .i64 k ∧ q = .int .i64 (n - l.length - totC (l.take k)) ∧ Below w.heap.size w wr) (fun _ i _ => l.length - (intOf i).toNat)
  case atStart => exact ⟨0, Nat.zero_le _, rfl, by simp [totC], Below.refl _ _⟩
  case round =>
    obtain ⟨k, hk, rfl, rfl, hb⟩ := hrel
    have ht := totC_le l k
    by_cases hlt : k < l.length
    · obtain ⟨b, o, rfl, hc0, hc1⟩ := cu_at (h.below hb (Nat.le_refl _)) k hlt
      have h1 := totC_take l k hlt
      have h2 := totC_le l (k + 1)
      have h3 : totC (l.take k) + (gx cuRec l k).n.size ≤ totC l := by omega
      have H1 := Lib.hid h1
      clear h1 h2
      go_wp2_with fail
      refine (szCue_yes (gx cuRec l k) _ _ (by omega) (by omega) (by omega)).mono ?_; rintro e w2 ⟨rfl, b2⟩
      go_wp2_with fail
      go_roundw
      case rel => exact ⟨k + 1, by omega, by go_num, by rw [H1.out]; go_num, hb.next (Nat.le_refl _) b2⟩
      case measure => simp [intOf]; omega
    · have hx : Hid (l.take k = l) := List.take_of_length_le (by omega)
      go_wp2_with fail
      go_ret
      exact ⟨ret_int (by rw [hx.out]; omega), hb⟩
set_option maxHeartbeats 800000 in
theorem szCueS_no (v : Value) (l : List Cu) (n : Int) (w : World) (h : RowAt cuRec w v l) (hw : WfCues l) (hn : 0 ≤ n) (hn2 : n ≤ 1048576) (hl : n < (l.length : Int) + totC l) :
    Calls Try.prog 8 #[v, .int .i64 n] w fun e w' => e = .returned (.int .i64 (-1)) ∧ Below w.heap.size w w' := by
  obtain ⟨A, c, rfl, hnc, hc63⟩ := h.shape
  have Hw := Lib.hid hw
  clear hw
  by_cases h0 : n < l.length
  · go_enter Try.func8, Try.ntmps8
    go_wp2_with fail
    go_ret
    exact ⟨rfl, Below.refl _ _⟩
  · obtain ⟨m, hm, hm1, hm2⟩ := totC_passes l (n - l.length) (by omega) (by omega)
    have Hm2 := Lib.hid hm2
    clear hm2
    go_enter Try.func8, Try.ntmps8
    go_wp2_with fail
    go_loopw [1, 5] (fun q i wr => ∃ k : Nat, k ≤ m ∧ i = .int .i64 k ∧ q = .int .i64 (n - l.length - totC (l.take k)) ∧ totC (l.take k) ≤ totC (l.take m) ∧ Below w.heap.size w wr) (fun _ i _ => l.length - (intOf i).toNat)
    case atStart => exact ⟨0, Nat.zero_le _, rfl, by simp [totC], by simp [totC], Below.refl _ _⟩
    case round =>
      obtain ⟨k, hk, rfl, rfl, hkm, hb⟩ := hrel
      have hlt : k < l.length := by omega
      obtain ⟨b, o, rfl, hc0, hc1⟩ := cu_at (h.below hb (Nat.le_refl _)) k hlt
      have h1 := totC_take l k hlt
      have hsz := Hw.out k hlt
      by_cases hkm2 : k = m
      · subst hkm2
        have h3 : n - l.length - totC (l.take k) < (gx cuRec l k).n.size := by have := Hm2.out; omega
        clear h1
        go_wp2_with fail
        refine (szCue_no (gx cuRec l k) _ _ (by omega) (by omega) hsz (by omega)).mono ?_; rintro e w2 ⟨rfl, b2⟩
        go_wp2_with fail
        go_ret
        exact ⟨rfl, hb.next (Nat.le_refl _) b2⟩
      · have h4 : totC (l.take (k + 1)) ≤ totC (l.take m) := by
          have := totC_le (l.take m) (k + 1)
          rw [List.take_take, Nat.min_eq_left (by omega)] at this
          exact this
        have h3 : totC (l.take k) + (gx cuRec l k).n.size ≤ totC (l.take m) := by omega
        have H1 := Lib.hid h1
        have H4 := Lib.hid h4
        clear h1 h4
        go_wp2_with fail
        refine (szCue_yes (gx cuRec l k) _ _ (by omega) (by omega) (by omega)).mono ?_; rintro e w2 ⟨rfl, b2⟩
        go_wp2_with fail
        go_roundw
        case rel => exact ⟨k + 1, by omega, by go_num, by rw [H1.out]; go_num, H4.out, hb.next (Nat.le_refl _) b2⟩
        case measure => simp [intOf]; omega
set_option maxHeartbeats 800000 in
theorem toCueS_any (v : Value) (l : List Cu) (w : World) (h : RowAt cuRec w v l) (hl : l.length ≤ 1048576) :
    Calls Try.prog 11 #[v] w (FreshRow cuRec w l) := by
  obtain ⟨A, c, rfl, hnc, hc63⟩ := h.shape
  obtain ⟨i0, hi, hz0, hz1, hz2⟩ := info_parts info_cu
  go_enter Try.func11, Try.ntmps11
  go_wp2_with (at_make; refine wpList_make_full _ rfl _ _ 30 rfl w.heap.size 61 i0 _ 2 Try.underlying30 hi hz0 hz1 _ _ _ _ l.length rfl rfl rfl rfl (by rw [hz2]; omega) (by unfold maxLen; omega) (Nat.le_refl _) ?_; intro w1 hown hgrow)
  have hown2 : OwnRow cuRec w1 w.heap.size (.slice (some ⟨w.heap.size, 0, none⟩) l.length l.length) (filled cuRec l 0) := by
    have e := made_rcells cuRec _ rfl l.length
    unfold OwnRow
    rw [filled_len _ _ _ (Nat.zero_le _), filled_zero, ← e]
    exact hown
  have hb1 : Below w.heap.size w w1 := (Below.refl _ _).grown hgrow (Nat.le_refl _) (fun k hk => by cases hk)
  clear hown hgrow
  go_loopw [4] (fun i wr => ∃ (k : Nat), k ≤ l.length ∧ i = .int .i64 k ∧ OwnRow cuRec wr w.heap.size (.slice (some ⟨w.heap.size, 0, none⟩) l.length l.length) (filled cuRec l k) ∧ Below w.heap.size w wr) (fun i _ => l.length - (intOf i).toNat)
  case atStart => exact ⟨0, Nat.zero_le _, rfl, hown2, hb1⟩
  case round =>
    obtain ⟨k, hk, rfl, ho, hb⟩ := hrel
    by_cases hlt : k < l.length
    · obtain ⟨b, o, rfl, hc0, hc1⟩ := cu_at (h.below hb (Nat.le_refl _)) k hlt
      go_wp2_with fail
      refine (toCue_r (gx cuRec l k) _).mono ?_; rintro e w2 ⟨rfl, b2⟩
      have ho2 : OwnRow cuRec w2 w.heap.size (.slice (some ⟨w.heap.size, 0, none⟩) l.length l.length) (filled cuRec l k) := ho.below b2 (Nat.le_refl _)
      obtain ⟨g0, g1⟩ := cu_own ho2 k (by rw [filled_len _ _ _ hk]; exact hlt)
      rw [filled_at _ _ _ hlt] at g0 g1
      have fz0 : w2.frozen? ⟨w.heap.size, k * 2, none⟩ = false := ho2.free _
      have fz1 : w2.frozen? ⟨w.heap.size, k * 2 + 1, none⟩ = false := ho2.free _
      have h3 := ho2.set k (gx cuRec l k) (by rw [filled_len _ _ _ hk]; exact hlt)
      rw [filled_set _ _ _ hlt] at h3
      have H3 := Lib.hid h3.1
      have bb := hb.next (Nat.le_refl _) b2
      have hb3 : Hid (Below w.heap.size w ((w2.setCell ⟨w.heap.size, k * 2, none⟩ (.int .i64 (gx cuRec l k).c)).setCell ⟨w.heap.size, k * 2 + 1, none⟩ (.string (gx cuRec l k).n))) := ((bb.setCell (by exact Nat.le_refl _) _).setCell (by exact Nat.le_refl _) _)
      clear h3 ho2
      go_wp2_with fail
      go_roundw
      case rel => exact ⟨k + 1, by omega, by go_num, H3.out, hb3.out⟩
      case measure => simp [intOf]; omega
    · have hx : k = l.length := by omega
      subst hx
      rw [filled_all] at ho
      have Ho := Lib.hid ho
      clear ho
      go_wp2_with fail
      go_ret
      exact ⟨_, rfl, Ho.out, hb⟩
set_option maxHeartbeats 800000 in
theorem eqCueS_any (v1 v2 : Value) (l1 l2 : List Cu) (w : World) (h1 : RowAt cuRec w v1 l1) (h2 : RowAt cuRec w v2 l2) :
    Calls Try.prog 14 #[v1, v2] w fun e w' => e = .returned (.bool (decide (l1 = l2))) ∧ Below w.heap.size w w' := by
  obtain ⟨A, c, rfl, hnc, hc63⟩ := h1.shape
  obtain ⟨B, d, rfl, hnd, hd63⟩ := h2.shape
  by_cases hne : l1.length = l2.length
  · rw [← hne] at h2 hnd ⊢
    have Hne := Lib.hid hne
    clear hne
    go_enter Try.func14, Try.ntmps14
    go_wp2_with fail
    go_loopw [5] (fun i wr => ∃ k : Nat, k ≤ l1.length ∧ i = .int .i64 k ∧ Hid (l1.take k = l2.take k) ∧ Below w.heap.size w wr) (fun i _ => l1.length - (intOf i).toNat)
    case atStart => exact ⟨0, Nat.zero_le _, rfl, rfl, Below.refl _ _⟩
    case round =>
      obtain ⟨k, hk, rfl, hall, hb⟩ := hrel
      by_cases hlt : k < l1.length
      · obtain ⟨b, o, rfl, hc0, hc1⟩ := cu_at (h1.below hb (Nat.le_refl _)) k hlt
        obtain ⟨b', o', rfl, hd0, hd1⟩ := cu_at (h2.below hb (Nat.le_refl _)) k (by have := Hne.out; omega)
        go_wp2_with fail
        go_region_with (go_at_call 32; refine (eqCue_r (gx cuRec l1 k) (gx cuRec l2 k) _).mono ?_; rintro e w1 ⟨rfl, b1⟩)
        all_goals go_wp2_with fail
        · have hx : (!decide (gx cuRec l1 k = gx cuRec l2 k)) = true := by assumption
          have hne : Hid (l1 ≠ l2) := by
            show l1 ≠ l2
            rintro rfl; simp at hx
          go_ret
          exact ⟨ret_bool (decide_eq_false hne.out).symm, hb.drew.next (Nat.le_refl _) b1⟩
        · have hx : (!decide (gx cuRec l1 k = gx cuRec l2 k)) = false := by assumption
          have htk : Hid (l1.take (k + 1) = l2.take (k + 1)) := by
            show _ = _
            have h1 : gx cuRec l1 k = gx cuRec l2 k := by simpa using hx
            have hlt2 : k < l2.length := by have := Hne.out; omega
            rw [take_succ_gx cuRec l1 k hlt, take_succ_gx cuRec l2 k hlt2, hall.out, h1]
          go_roundw
          case rel => exact ⟨k + 1, by omega, by go_num, htk, hb.drew.next (Nat.le_refl _) b1⟩
          case measure => simp [intOf]; omega
        · have hx : (!decide (gx cuRec l1 k = gx cuRec l2 k)) = true := by assumption
          have hne : Hid (l1 ≠ l2) := by
            show l1 ≠ l2
            rintro rfl; simp at hx
          go_ret
          exact ⟨ret_bool (decide_eq_false hne.out).symm, hb.drew.next (Nat.le_refl _) b1⟩
        · have hx : (!decide (gx cuRec l1 k = gx cuRec l2 k)) = false := by assumption
          have htk : Hid (l1.take (k + 1) = l2.take (k + 1)) := by
            show _ = _
            have h1 : gx cuRec l1 k = gx cuRec l2 k := by simpa using hx
            have hlt2 : k < l2.length := by have := Hne.out; omega
            rw [take_succ_gx cuRec l1 k hlt, take_succ_gx cuRec l2 k hlt2, hall.out, h1]
          go_roundw
          case rel => exact ⟨k + 1, by omega, by go_num, htk, hb.drew.next (Nat.le_refl _) b1⟩
          case measure => simp [intOf]; omega
      · have hx : Hid (l1 = l2) := by
          have h1 : l1.take k = l1 := List.take_of_length_le (by omega)
          have h2 : l2.take k = l2 := List.take_of_length_le (by have := Hne.out; omega)
          have := hall.out
          rwa [h1, h2] at this
        go_wp2_with fail
        go_ret
        exact ⟨ret_bool (decide_eq_true hx.out).symm, hb⟩
  · have hn : ((l1.length : Int) != l2.length) = true := by simp; omega
    have hx : Hid (l1 ≠ l2) := by
      show l1 ≠ l2
      rintro rfl; exact hne rfl
    go_enter Try.func14, Try.ntmps14
    go_wp2_with fail
    go_ret
    exact ⟨ret_bool (decide_eq_false hx.out).symm, Below.refl _ _⟩
end Go.Proofs.Ytnbpkealigfmjaa
