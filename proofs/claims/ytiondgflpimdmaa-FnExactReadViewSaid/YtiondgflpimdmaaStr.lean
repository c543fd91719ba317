/- Words for strings, slices of strings and of bytes; the laws' helpers for slices of strings. -/
import Derived.Test.YtiondgflpimdmaaRec
import Derived.Test.YtiondgflpimdmaaHelp
import Derived.Test.YtiondgflpimdmaaMark
import Derived.Deep.RegionHeld3
import Derived.Deep.DeepCutAuto
import Derived.Deep.QuietTactic
import Derived.BigQuiet
import Derived.Laws.BytesArg
import Derived.Laws.Concat
import Derived.Laws.IdiomStrings
set_option linter.unusedSimpArgs false
set_option linter.unusedVariables false
namespace Go.Proofs.Ytiondgflpimdmaa
open Go.RowKit

/-! ### rows of strings -/
def strRec : Rec ByteArray := ⟨1, 9, fun a => [.string a], fun _ => rfl, by omega, fun _ u hu => by simp at hu; subst hu; rfl, ByteArray.empty⟩
theorem info_str : (Try.prog.info? 9).map (fun i => (i.zero, i.size, i.bytes)) = some (some (.string ByteArray.empty), 1, 16) := by kernel_rfl
theorem str_at {w : World} {A : Option Addr} {n c : Nat} {l : List ByteArray} (h : RowAt strRec w (.slice A n c) l) (i : Nat) (hi : i < l.length) :
    ∃ b o, A = some ⟨b, o, none⟩ ∧ w.cell? ⟨b, o + i, none⟩ = some (.string (gx strRec l i)) := by
  obtain ⟨b, o, rfl, hc⟩ := RowAt.cells h i hi
  refine ⟨b, o, rfl, ?_⟩
  have := hc 0 _ rfl
  simpa [strRec] using this
theorem str_own {w : World} {lo g n c : Nat} {l : List ByteArray} (h : OwnRow strRec w lo (.slice (some ⟨g, 0, none⟩) n c) l) (i : Nat) (hi : i < l.length) : w.cell? ⟨g, i, none⟩ = some (.string (gx strRec l i)) := by
  have := OwnRow.cell h i hi 0 (by show 0 < 1; omega)
  simpa [strRec] using this
theorem wp_app_str (w : World) {ops : Array Oper} {rest : List Oper} {o : Oper} {a : Act} {Q : Exit → Act → World → Prop} (hgd : o.guard = none) (s x : Operand)
    (ho : o.op = .call { callee := .builtin .append, args := #[s, x], argTypes := #[26, 26] })
    (base : Nat) (v : Value) (l : List ByteArray) (hs : a.eval s = v) (hown : OwnRow strRec w base v l)
    (y : ByteArray) (H : Nat) (hx : a.eval x = .slice (some ⟨H, 0, none⟩) 1 1) (hH : H = w.heap.size)
    (h63 : l.length + 1 ≤ 1099511627776) (hbase : base ≤ w.heap.size)
    (h : ∀ v' w', OwnRow strRec w' base v' (l ++ [y]) → Grew w w' base v v' → wpList Try.prog ops Q rest (a.put o.dst v') w') :
    wpList Try.prog ops Q (o :: rest) a (w.alloc (.cells #[.string y] 9)) :=
  wp_app_rec strRec w hgd s x 26 _ _ Try.underlying26 info_str rfl (by omega) ho base v l hs hown y _ rfl _ H rfl hx hH h63 hbase h
/-- How many bytes in all. -/
def totS (l : List ByteArray) : Nat := (l.map ByteArray.size).sum
def WfStrs (l : List ByteArray) : Prop := ∀ i, i < l.length → (gx strRec l i).size ≤ 9223372036854775807
theorem totS_take (l : List ByteArray) (k : Nat) (h : k < l.length) : totS (l.take (k + 1)) = totS (l.take k) + (gx strRec l k).size := by
  rw [take_succ_gx strRec l k h]; simp [totS]
theorem totS_le (l : List ByteArray) (k : Nat) : totS (l.take k) ≤ totS l := by
  unfold totS
  have h : (l.map ByteArray.size).sum = ((l.take k).map ByteArray.size).sum + ((l.drop k).map ByteArray.size).sum := by
    rw [← List.sum_append, ← List.map_append, List.take_append_drop]
  omega
theorem totS_passes (l : List ByteArray) (n : Int) (h1 : 0 ≤ n) (h2 : n < totS l) : ∃ k, k < l.length ∧ (totS (l.take k) : Int) ≤ n ∧ n < totS (l.take (k + 1)) := by
  suffices H : ∀ m, m ≤ l.length → n < totS (l.take m) → ∃ k, k < l.length ∧ (totS (l.take k) : Int) ≤ n ∧ n < totS (l.take (k + 1)) by
    exact H l.length (Nat.le_refl _) (by rw [List.take_of_length_le (Nat.le_refl _)]; exact h2)
  intro m
  induction m with
  | zero => intro _ h; simp [totS] at h; omega
  | succ m ih =>
    intro hm h
    by_cases hp : n < totS (l.take m)
    · exact ih (by omega) hp
    · exact ⟨m, by omega, by omega, h⟩
theorem bytes_eq {a b : ByteArray} (h : (a.toList == b.toList) = true) : a = b := by
  rw [beq_iff_eq, ByteArray.toList_eq, ByteArray.toList_eq] at h
  cases a; cases b
  simp only at h
  congr 1
  exact Array.toList_inj.1 h
theorem bytes_ne {a b : ByteArray} (h : (a.toList == b.toList) = false) : a ≠ b := by rintro rfl; simp at h

set_option maxHeartbeats 800000 in
theorem szStringS_yes (v : Value) (l : List ByteArray) (n : Int) (w : World) (h : RowAt strRec w v l) (hn : 0 ≤ n) (hn2 : n ≤ 1048576) (hl : (l.length : Int) + totS l ≤ n) :
    Calls Try.prog 4 #[v, .int .i64 n] w fun e w' => e = .returned (.int .i64 (n - ((l.length : Int) + totS l))) ∧ w = w' := by
  obtain ⟨A, c, rfl, hnc, hc63⟩ := h.shape
  go_enter Try.func4, Try.ntmps4
  go_wp2_with fail
  go_loop [1, 5] (fun q i => ∃ k : Nat, k ≤ l.length ∧ i = .int .i64 k ∧ q = .int .i64 (n - l.length - totS (l.take k))) (fun _ i => l.length - (intOf i).toNat)
  case atStart => exact ⟨0, Nat.zero_le _, rfl, by simp [totS]⟩
  case round =>
    obtain ⟨k, hk, rfl, rfl⟩ := hrel
    have ht := totS_le l k
    by_cases hlt : k < l.length
    · obtain ⟨b, o, rfl, hc⟩ := str_at h k hlt
      have h1 := totS_take l k hlt
      have h2 := totS_le l (k + 1)
      have h3 : totS (l.take k) + (gx strRec l k).size ≤ totS l := by omega
      have H1 := Lib.hid h1
      clear h1 h2
      go_wp2_with fail
      go_round
      case rel => exact ⟨k + 1, by omega, by go_num, by rw [H1.out]; go_num⟩
      case measure => simp [intOf]; omega
    · have hx : Hid (l.take k = l) := List.take_of_length_le (by omega)
      go_wp2_with fail
      go_ret
      exact ⟨ret_int (by rw [hx.out]; omega), rfl⟩
set_option maxHeartbeats 800000 in
theorem szStringS_no (v : Value) (l : List ByteArray) (n : Int) (w : World) (h : RowAt strRec w v l) (hw : WfStrs l) (hn : 0 ≤ n) (hn2 : n ≤ 1048576) (hl : n < (l.length : Int) + totS l) :
    Calls Try.prog 4 #[v, .int .i64 n] w fun e w' => e = .returned (.int .i64 (-1)) ∧ w = w' := by
  obtain ⟨A, c, rfl, hnc, hc63⟩ := h.shape
  have Hw := Lib.hid hw
  clear hw
  by_cases h0 : n < l.length
  · go_enter Try.func4, Try.ntmps4
    go_wp2_with fail
    go_ret
    exact ⟨rfl, rfl⟩
  · obtain ⟨m, hm, hm1, hm2⟩ := totS_passes l (n - l.length) (by omega) (by omega)
    have Hm2 := Lib.hid hm2
    clear hm2
    go_enter Try.func4, Try.ntmps4
    go_wp2_with fail
    go_loop [1, 5] (fun q i => ∃ k : Nat, k ≤ m ∧ i = .int .i64 k ∧ q = .int .i64 (n - l.length - totS (l.take k)) ∧ totS (l.take k) ≤ totS (l.take m)) (fun _ i => l.length - (intOf i).toNat)
    case atStart => exact ⟨0, Nat.zero_le _, rfl, by simp [totS], by simp [totS]⟩
    case round =>
      obtain ⟨k, hk, rfl, rfl, hkm⟩ := hrel
      have hlt : k < l.length := by omega
      obtain ⟨b, o, rfl, hc⟩ := str_at h k hlt
      have h1 := totS_take l k hlt
      have hsz := Hw.out k hlt
      by_cases hkm2 : k = m
      · subst hkm2
        have h3 : n - l.length - totS (l.take k) < (gx strRec l k).size := by have := Hm2.out; omega
        clear h1
        go_wp2_with fail
        go_ret
        exact ⟨rfl, rfl⟩
      · have h4 : totS (l.take (k + 1)) ≤ totS (l.take m) := by
          have := totS_le (l.take m) (k + 1)
          rw [List.take_take, Nat.min_eq_left (by omega)] at this
          exact this
        have h3 : totS (l.take k) + (gx strRec l k).size ≤ totS (l.take m) := by omega
        have H1 := Lib.hid h1
        have H4 := Lib.hid h4
        clear h1 h4
        go_wp2_with fail
        go_round
        case rel => exact ⟨k + 1, by omega, by go_num, by rw [H1.out]; go_num, H4.out⟩
        case measure => simp [intOf]; omega
set_option maxHeartbeats 800000 in
theorem toStringS_any (v : Value) (l : List ByteArray) (w : World) (h : RowAt strRec w v l) (hl : l.length ≤ 1048576) :
    Calls Try.prog 7 #[v] w (FreshRow strRec w l) := by
  obtain ⟨A, c, rfl, hnc, hc63⟩ := h.shape
  obtain ⟨i0, hi, hz0, hz1, hz2⟩ := info_parts info_str
  go_enter Try.func7, Try.ntmps7
  go_wp2_with (at_make; refine wpList_make_full _ rfl _ _ 26 rfl w.heap.size 9 i0 _ 1 Try.underlying26 hi hz0 hz1 _ _ _ _ l.length rfl rfl rfl rfl (by rw [hz2]; omega) (by unfold maxLen; omega) (Nat.le_refl _) ?_; intro w1 hown hgrow)
  have hown2 : OwnRow strRec w1 w.heap.size (.slice (some ⟨w.heap.size, 0, none⟩) l.length l.length) (filled strRec l 0) := by
    have e := made_rcells strRec _ rfl l.length
    unfold OwnRow
    rw [filled_len _ _ _ (Nat.zero_le _), filled_zero, ← e]
    exact hown
  have hb1 : Below w.heap.size w w1 := (Below.refl _ _).grown hgrow (Nat.le_refl _) (fun k hk => by cases hk)
  clear hown hgrow
  go_loopw [4] (fun i wr => ∃ (k : Nat), k ≤ l.length ∧ i = .int .i64 k ∧ OwnRow strRec wr w.heap.size (.slice (some ⟨w.heap.size, 0, none⟩) l.length l.length) (filled strRec l k) ∧ Below w.heap.size w wr) (fun i _ => l.length - (intOf i).toNat)
  case atStart => exact ⟨0, Nat.zero_le _, rfl, hown2, hb1⟩
  case round =>
    obtain ⟨k, hk, rfl, ho, hb⟩ := hrel
    by_cases hlt : k < l.length
    · obtain ⟨b, o, rfl, hc⟩ := str_at (h.below hb (Nat.le_refl _)) k hlt
      have g0 := str_own ho k (by rw [filled_len _ _ _ hk]; exact hlt)
      rw [filled_at _ _ _ hlt] at g0
      have fz : wr.frozen? ⟨w.heap.size, k, none⟩ = false := ho.free _
      have h3 := (ho.set k (gx strRec l k) (by rw [filled_len _ _ _ hk]; exact hlt)).1
      rw [filled_set _ _ _ hlt] at h3
      have h4 : OwnRow strRec (wr.setCell ⟨w.heap.size, k, none⟩ (.string (gx strRec l k))) w.heap.size (.slice (some ⟨w.heap.size, 0, none⟩) l.length l.length) (filled strRec l (k + 1)) := by
        have e1 : k * strRec.sz = k := Nat.mul_one k
        rw [e1] at h3
        exact h3
      have H3 := Lib.hid h4
      clear h3 h4
      go_wp2_with fail
      go_roundw
      case rel => exact ⟨k + 1, by omega, by go_num, H3.out, hb.setCell (by exact Nat.le_refl _) _⟩
      case measure => simp [intOf]; omega
    · have hx : k = l.length := by omega
      subst hx
      rw [filled_all] at ho
      have Ho := Lib.hid ho
      clear ho
      go_wp2_with fail
      go_ret
      exact ⟨_, rfl, Ho.out, hb⟩
set_option maxHeartbeats 800000 in
theorem eqStringS_any (v1 v2 : Value) (l1 l2 : List ByteArray) (w : World) (h1 : RowAt strRec w v1 l1) (h2 : RowAt strRec w v2 l2) :
    Calls Try.prog 10 #[v1, v2] w fun e w' => e = .returned (.bool (decide (l1 = l2))) ∧ Below w.heap.size w w' := by
  obtain ⟨A, c, rfl, hnc, hc63⟩ := h1.shape
  obtain ⟨B, d, rfl, hnd, hd63⟩ := h2.shape
  by_cases hne : l1.length = l2.length
  · rw [← hne] at h2 hnd ⊢
    have Hne := Lib.hid hne
    clear hne
    go_enter Try.func10, Try.ntmps10
    go_wp2_with fail
    go_loopw [5] (fun i wr => ∃ k : Nat, k ≤ l1.length ∧ i = .int .i64 k ∧ Hid (l1.take k = l2.take k) ∧ Below w.heap.size w wr) (fun i _ => l1.length - (intOf i).toNat)
    case atStart => exact ⟨0, Nat.zero_le _, rfl, rfl, Below.refl _ _⟩
    case round =>
      obtain ⟨k, hk, rfl, hall, hb⟩ := hrel
      by_cases hlt : k < l1.length
      · obtain ⟨b, o, rfl, hc⟩ := str_at (h1.below hb (Nat.le_refl _)) k hlt
        obtain ⟨b', o', rfl, hc'⟩ := str_at (h2.below hb (Nat.le_refl _)) k (by have := Hne.out; omega)
        have hi0 : (0 : Int) ≤ (k : Int) := by omega
        have hi1 : (k : Int) < (l1.length : Int) := by omega
        cases e0 : ((gx strRec l1 k).toList == (gx strRec l2 k).toList)
        · have hx : Hid (l1 ≠ l2) := by
            have := bytes_ne e0
            show l1 ≠ l2
            rintro rfl; exact this rfl
          go_wp2_with fail
          go_quiet (fail)
          go_wp2_with fail
          go_ret
          exact ⟨ret_bool (decide_eq_false hx.out).symm, hb.drewN _⟩
        · have hn : Hid (l1.take (k + 1) = l2.take (k + 1)) := by
            show _ = _
            rw [take_succ_gx strRec l1 k hlt, take_succ_gx strRec l2 k (by have := Hne.out; omega), hall.out, bytes_eq e0]
          go_wp2_with fail
          go_quiet (fail)
          go_wp2_with fail
          go_roundw
          case rel => exact ⟨k + 1, by omega, by go_num, hn, hb.drewN _⟩
          case measure => simp [intOf]; omega
      · have hx : Hid (l1 = l2) := by
          have h1 : l1.take k = l1 := List.take_of_length_le (by omega)
          have h2 : l2.take k = l2 := List.take_of_length_le (by have := Hne.out; omega)
          have := hall.out
          rwa [h1, h2] at this
        go_wp2_with fail
        go_ret
        exact ⟨ret_bool (decide_eq_true hx.out).symm, hb⟩
  · have hn : ((l1.length : Int) != l2.length) = true := by simp; omega
    have hx : Hid (l1 ≠ l2) := by show l1 ≠ l2; rintro rfl; exact hne rfl
    go_enter Try.func10, Try.ntmps10
    go_wp2_with fail
    go_ret
    exact ⟨ret_bool (decide_eq_false hx.out).symm, Below.refl _ _⟩
/-! ### bytes -/
def bytRec : Rec Int := ⟨1, 5, fun a => [.int .u8 a], fun _ => rfl, by omega, fun _ u hu => by simp at hu; subst hu; rfl, 0⟩
theorem info_byt : (Try.prog.info? 5).map (fun i => (i.zero, i.size, i.bytes)) = some (some (.int .u8 0), 1, 1) := by kernel_rfl
theorem byt_own {w : World} {lo g n c : Nat} {l : List Int} (h : OwnRow bytRec w lo (.slice (some ⟨g, 0, none⟩) n c) l) (i : Nat) (hi : i < l.length) : w.cell? ⟨g, i, none⟩ = some (.int .u8 (gi l i)) := by
  have := OwnRow.cell h i hi 0 (by show 0 < 1; omega)
  rw [show gx bytRec l i = gi l i from rfl] at this
  simpa [bytRec] using this
/-- string(b), b of the call's own. -/
theorem conv_bytes {w : World} {lo g n c : Nat} {l : List Int} (h : OwnRow bytRec w lo (.slice (some ⟨g, 0, none⟩) n c) l) : (convert 52 9 (.slice (some ⟨g, 0, none⟩) n c)).run Try.prog w = .ok (.string (strOfNums l)) w := by
  have hn : n = l.length := by
    obtain ⟨A, c', he, _⟩ := Sl.shape (OwnRow.reads h)
    injection he
  subst hn
  refine run_convert_bytes_arg w 52 5 Try.underlying52 Try.underlying5 g 0 l.length c l rfl (fun i hi => ?_) 9 Try.underlying9
  rw [Nat.zero_add, byt_own h i hi]
  rfl
theorem conv_byte1 (w : World) (x : Int) : (convert 52 9 (.slice (some ⟨w.heap.size, 0, none⟩) 1 1)).run Try.prog (w.alloc (.cells #[.int .u8 x] 5)) = .ok (.string (strOfNums [x])) (w.alloc (.cells #[.int .u8 x] 5)) := by
  have h := World.ownsRow_lit (base := 0) (e := 5) (size := 1) w #[.int .u8 x] 1 (Nat.zero_le _) (by simp [maxLen]) rfl
  exact conv_bytes (lo := 0) (l := [x]) h
/-! ### marks -/
def mkLoop : Nat → Int → ByteArray → ByteArray
  | 0, _, out => out
  | f + 1, k, out => if 0 < k then mkLoop f (k / 10) (strOfNums [48 + k % 10] ++ out) else out
def mkT (k : Int) : ByteArray := if k ≤ 0 then ⟨#[109, 48]⟩ else ⟨#[109]⟩ ++ mkLoop k.toNat k ⟨#[]⟩
set_option maxHeartbeats 1600000 in
theorem markText_any (k0 : Int) (w : World) (h0 : 0 ≤ k0) (h1 : k0 ≤ 1152921504606846976) :
    Calls Try.prog 22 #[.int .i64 k0] w fun e w' => e = .returned (.string (mkT k0)) ∧ Below w.heap.size w w' := by
  by_cases hz : k0 ≤ 0
  · have hr : Hid (mkT k0 = ⟨#[109, 48]⟩) := by show _ = _; unfold mkT; rw [if_pos hz]
    go_enter Try.func22, Try.ntmps22
    go_wp2_with fail
    go_ret
    exact ⟨by rw [hr.out]; rfl, Below.refl _ _⟩
  · have hr : Hid (mkT k0 = ⟨#[109]⟩ ++ mkLoop k0.toNat k0 ⟨#[]⟩) := by show _ = _; unfold mkT; rw [if_neg hz]
    go_enter Try.func22, Try.ntmps22
    go_wp2_with fail
    go_loopg [0, 3] k0.toNat (fun g t s wr => ∃ (k : Int) (out : ByteArray), 0 ≤ k ∧ k ≤ 1152921504606846976 ∧ k ≤ g ∧ t = .int .i64 k ∧ s = .string out ∧ (out.size : Int) + k ≤ 1152921504606846976 ∧ Hid (mkLoop k0.toNat k0 ⟨#[]⟩ = mkLoop g k out) ∧ Below w.heap.size w wr)
    case atStart => exact ⟨k0, ⟨#[]⟩, h0, h1, by omega, rfl, rfl, by simp [ByteArray.size]; omega, rfl, Below.refl _ _⟩
    case round =>
      obtain ⟨k, out, q0, q1, q2, rfl, rfl, q3, hm, hb⟩ := hrel
      by_cases hk : 0 < k
      · obtain ⟨g', rfl⟩ : ∃ g', gk = g' + 1 := ⟨gk - 1, by omega⟩
        have hm2 : Hid (mkLoop k0.toNat k0 ⟨#[]⟩ = mkLoop g' (k / 10) (strOfNums [48 + k % 10] ++ out)) := by
          show _ = _
          rw [hm.out]
          conv => lhs; unfold mkLoop
          rw [if_pos hk]
        have hcv := conv_byte1 wr (48 + k % 10)
        have hs1 : (strOfNums [48 + k % 10]).size = 1 := rfl
        have hd0 : 0 ≤ k % 10 := by omega
        have hd1 : k % 10 < 10 := by omega
        have hX : Below wr.heap.size wr (wr.alloc (.cells #[.int .u8 (48 + k % 10)] 5)) := (Below.refl _ _).alloc (Nat.le_refl _) _
        have hbX := hb.trans (hX.mono hb.size)
        clear hm
        go_wp2_with fail
        go_roundg g'
        case measure => omega
        case rel => exact ⟨k / 10, strOfNums [48 + k % 10] ++ out, by omega, by omega, by omega, rfl, rfl, by rw [ByteArray.size_append, hs1]; omega, hm2, hbX⟩
      · have hm2 : Hid (mkLoop k0.toNat k0 ⟨#[]⟩ = out) := by
          show _ = _
          rw [hm.out]
          cases gk with
          | zero => rfl
          | succ g => unfold mkLoop; rw [if_neg hk]
        clear hm
        have hs1 : (⟨#[109]⟩ : ByteArray).size = 1 := rfl
        go_wp2_with fail
        go_ret
        exact ⟨by rw [hr.out, hm2.out]; rfl, hb⟩
theorem mkd_at {α : Type} (R : Rec α) (f : Int → α) (k0 : Int) (l : List α) (j : Nat) (h : j < l.length) : j < (mkd R f k0 l j).length := by rw [mkd_len R f k0 l j (by omega)]; exact h
def StrsMarked (w : World) (lo hi : Nat) (v : Value) (k0 : Int) (l : List ByteArray) : Prop := MarkedRow strRec mkT w lo hi v k0 l
theorem StrsMarked.keep {w w' : World} {lo hi : Nat} {v : Value} {k0 : Int} {l : List ByteArray} (h : StrsMarked w lo hi v k0 l) (hk : KeepIn lo hi w w') : StrsMarked w' lo hi v k0 l := MarkedRow.keep h hk
def MarkStrPost (w : World) (lo hi : Nat) (v : Value) (k0 : Int) (l : List ByteArray) (e : Ending) (w' : World) : Prop := e = .returned (.int .i64 (k0 + l.length)) ∧ StrsMarked w' lo hi v k0 l ∧ Apart lo hi w w'
set_option maxHeartbeats 1600000 in
theorem markStringN (v : Value) (l : List ByteArray) (k0 : Int) (lo hi : Nat) (w : World) (h : OwnRowIn strRec w lo hi v l) (hk0 : 0 ≤ k0) (hk1 : k0 ≤ 576460752303423488) (hl : l.length ≤ 115292150460684) :
    Calls Try.prog 11 #[v, .int .i64 k0] w (MarkStrPost w lo hi v k0 l) := by
  obtain ⟨A, c, rfl, hnc, hc63⟩ := h.reads.shape
  have hlo : lo ≤ lo := Nat.le_refl _
  have hin := h.2
  have h0 := h.1
  go_enter Try.func11, Try.ntmps11
  go_wp2_with fail
  go_loopw [1, 5] (fun q i wr => ∃ j : Nat, j ≤ l.length ∧ i = .int .i64 j ∧ q = .int .i64 (k0 + j) ∧ OwnRow strRec wr lo (.slice A l.length c) (mkd strRec mkT k0 l j) ∧ Apart lo hi w wr) (fun _ i _ => l.length - (intOf i).toNat)
  case atStart => exact ⟨0, Nat.zero_le _, rfl, by simp, by rw [mkd_zero]; exact h0, Apart.refl _ _ _⟩
  case round =>
    obtain ⟨j, hj, rfl, rfl, ho, hb⟩ := hrel
    by_cases hlt : j < l.length
    · have hlen := mkd_len strRec mkT k0 l j hj
      obtain ⟨g, cg, hv, hgl⟩ := ho.lit (by omega)
      injection hv with e1 e2 e3
      subst e1 e3
      have hg2 : g < hi := hin g rfl
      have Hlen := Lib.hid hlen
      clear e2 hlen
      go_wp2_with fail
      refine (markText_any _ _ (by omega) (by omega)).mono ?_; rintro e w2 ⟨rfl, b2⟩
      have ho2 := OwnRow.below ho b2 (Nat.le_refl _)
      have hlen := Hlen.out
      have g0 := str_own ho2 j (by omega)
      have fz : w2.frozen? ⟨g, j, none⟩ = false := ho2.free _
      have h3 := ho2.set j (mkT (k0 + (j : Int))) (by omega)
      have e9 : (mkd strRec mkT k0 l j).set j (mkT (k0 + (j : Int))) = mkd strRec mkT k0 l (j + 1) := by
        have := mkd_set strRec mkT k0 l j hlt
        rwa [show j * strRec.sz = j from Nat.mul_one j] at this
      rw [e9] at h3
      have h4 : OwnRow strRec (w2.setCell ⟨g, j, none⟩ (.string (mkT (k0 + (j : Int))))) lo (.slice (some ⟨g, 0, none⟩) l.length c) (mkd strRec mkT k0 l (j + 1)) := by
        have e1 : j * strRec.sz = j := Nat.mul_one j
        rw [e1] at h3
        exact h3.1
      have h5 : w2.grownBy (w2.setCell ⟨g, j, none⟩ (.string (mkT (k0 + (j : Int))))) (some g) := by
        have e1 : j * strRec.sz = j := Nat.mul_one j
        rw [e1] at h3
        exact h3.2
      have b2a : Apart lo hi wr w2 := ⟨b2.os, b2.tape, b2.output, b2.size, fun k hk _ => b2.block k hk⟩
      have b5 : Apart lo hi w2 (w2.setCell ⟨g, j, none⟩ (.string (mkT (k0 + (j : Int))))) := ⟨h5.os, h5.tape, h5.output, h5.size, fun k hk ho9 => h5.block k hk (fun e => by injection e with e; omega)⟩
      have H4 := Lib.hid h4
      have H5 := Lib.hid ((hb.trans b2a).trans b5)
      clear h3 h4 h5 b5 b2a e9 hlen
      go_wp2_with fail
      go_roundw
      case rel => exact ⟨j + 1, by omega, by go_num, by go_num, H4.out, H5.out⟩
      case measure => simp [intOf]; omega
    · have hx : j = l.length := by omega
      subst hx
      rw [mkd_all] at ho
      have hm : Hid (MarkedRow strRec mkT wr lo hi (.slice A l.length c) k0 l) := ⟨ho, hin⟩
      clear ho
      go_wp2_with fail
      go_ret
      exact ⟨rfl, hm.out, hb⟩
end Go.Proofs.Ytiondgflpimdmaa
