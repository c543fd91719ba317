/- Words for functions that read lines: lists of parts, joins; strings.Split, strings.Cut, linesOf. -/
import Derived.Test.YtombnhnhbocceaaGreatDoorParse
import Derived.Test.YtombnhnhbocceaaGreatDoorShelf
import Derived.Lib.SplitLaws
import Derived.Shelf.LaysM
import Derived.KernelRfl
set_option linter.unusedSimpArgs false
set_option linter.unusedVariables false
namespace Go.Proofs.YtombnhnhbocceaaGreatDoor
open Go.RowKit

def optMap {α β : Type} (f : α → Option β) : List α → Option (List β)
  | [] => some []
  | x :: l => match f x, optMap f l with
    | some y, some m => some (y :: m)
    | _, _ => none
theorem optMap_cons {α β : Type} {f : α → Option β} {x : α} {l : List α} {y : β} {m : List β} (h1 : f x = some y) (h2 : optMap f l = some m) : optMap f (x :: l) = some (y :: m) := by
  show (match f x, optMap f l with | some y, some m => some (y :: m) | _, _ => none) = _
  rw [h1, h2]
theorem optMap_cons_inv {α β : Type} {f : α → Option β} {x : α} {l : List α} {r : List β} (h : optMap f (x :: l) = some r) : ∃ y m, f x = some y ∧ optMap f l = some m ∧ r = y :: m := by
  change (match f x, optMap f l with | some y, some m => some (y :: m) | _, _ => none) = _ at h
  cases h1 : f x with
  | none => rw [h1] at h; cases h
  | some y =>
    cases h2 : optMap f l with
    | none => rw [h1, h2] at h; cases h
    | some m => rw [h1, h2] at h; exact ⟨y, m, rfl, rfl, (Option.some.inj h).symm⟩
theorem optMap_snoc {α β : Type} {f : α → Option β} {x : α} {y : β} : ∀ {l : List α} {m : List β}, optMap f l = some m → f x = some y → optMap f (l ++ [x]) = some (m ++ [y])
  | [], m, h1, h2 => by
    obtain rfl : m = [] := (Option.some.inj h1).symm
    exact optMap_cons h2 rfl
  | z :: l, m, h1, h2 => by
    obtain ⟨a, b, e1, e2, rfl⟩ := optMap_cons_inv h1
    exact optMap_cons e1 (optMap_snoc e2 h2)
theorem optMap_none {α β : Type} {f : α → Option β} : ∀ {l : List α} {x : α}, x ∈ l → f x = none → optMap f l = none
  | y :: l, x, h, hx => by
    cases ho : optMap f (y :: l) with
    | none => rfl
    | some r =>
      obtain ⟨a, b, e1, e2, rfl⟩ := optMap_cons_inv ho
      rcases List.mem_cons.1 h with rfl | h
      · rw [hx] at e1; cases e1
      · rw [optMap_none h hx] at e2; cases e2
theorem optMap_len {α β : Type} {f : α → Option β} : ∀ {l : List α} {m : List β}, optMap f l = some m → m.length = l.length
  | [], m, h => by obtain rfl : m = [] := (Option.some.inj h).symm; rfl
  | x :: l, m, h => by obtain ⟨a, b, e1, e2, rfl⟩ := optMap_cons_inv h; simp [optMap_len e2]
theorem optMap_map {α β γ : Type} {f : α → Option β} {g : γ → α} : ∀ {l : List γ} {h : γ → β}, (∀ x ∈ l, f (g x) = some (h x)) → optMap f (l.map g) = some (l.map h)
  | [], h, _ => rfl
  | x :: l, h, hh => optMap_cons (hh x (by simp)) (optMap_map fun y hy => hh y (by simp [hy]))
theorem optMap_inv {α β : Type} {f : α → Option β} {g : β → α} (hg : ∀ x y, f x = some y → x = g y) : ∀ {l : List α} {m : List β}, optMap f l = some m → l = m.map g
  | [], m, h => by obtain rfl : m = [] := (Option.some.inj h).symm; rfl
  | x :: l, m, h => by obtain ⟨a, b, e1, e2, rfl⟩ := optMap_cons_inv h; rw [hg x a e1, optMap_inv hg e2]; rfl
def joinC (c : UInt8) (X : List (List UInt8)) : List UInt8 := (X.map (· ++ [c])).flatten
theorem joinC_cons (c : UInt8) (a : List UInt8) (X : List (List UInt8)) : joinC c (a :: X) = a ++ c :: joinC c X := by simp [joinC]
theorem joinC_snoc (c : UInt8) (X : List (List UInt8)) (a : List UInt8) : joinC c (X ++ [a]) = joinC c X ++ (a ++ [c]) := by simp [joinC]
theorem spl_join (c : UInt8) : ∀ X : List (List UInt8), (∀ a ∈ X, c ∉ a) → spl c (joinC c X) = X ++ [[]]
  | [], _ => rfl
  | a :: X, h => by rw [joinC_cons, spl_app _ (h a (by simp)), spl_join c X (fun b hb => h b (by simp [hb]))]; rfl
theorem spl_snoc (c : UInt8) (n : Nat) : ∀ s : List UInt8, s.length ≤ n → spl c (s ++ [c]) = spl c s ++ [[]] ∧ s ++ [c] = joinC c (spl c s) := by
  induction n with
  | zero => intro s hs; obtain rfl := List.eq_nil_of_length_eq_zero (Nat.le_zero.1 hs); exact ⟨by rw [List.nil_append, spl_cons, if_pos rfl]; rfl, rfl⟩
  | succ n ih =>
    intro s hs
    rcases cut_cases c s with ⟨h1, _, h2⟩ | ⟨a, b, rfl, h1, _, h2⟩
    · rw [h2]
      refine ⟨?_, by simp [joinC]⟩
      rw [spl_app [] h1]; rfl
    · obtain ⟨i1, i2⟩ := ih b (by simp at hs; omega)
      rw [h2]
      refine ⟨?_, ?_⟩
      · rw [List.append_assoc, List.cons_append, spl_app _ h1, i1]; rfl
      · rw [joinC_cons, ← i2, List.append_assoc, List.cons_append]
theorem no_dig {c : UInt8} {t : List UInt8} (h : t.all isDig = true) (hc : isDig c = false) : c ∉ t := fun hm => by
  have := List.all_eq_true.1 h c hm
  rw [hc] at this; cases this
def lnR (s : ByteArray) : List ByteArray × Bool := if s.size = 0 then ([], true) else if bN s (s.size - 1) = 10 then (splB 10 (s.extract 0 (s.size - 1)), true) else ([], false)
theorem natR_dec {t : List UInt8} (h : (natR (mkS t)).2 = true) : Lib.decDigits (natR (mkS t)).1 = t := by
  cases hb : isNumB 9 (mkS t).data.toList
  · rw [natR_no hb] at h; cases h
  · rw [natR_yes hb]
    show Lib.decDigits (numV (mkS t).data.toList) = t
    rw [isNum_dec hb, mkS_data]
theorem natR_of (n : Nat) (h : n < 10 ^ 9) : natR (mkS (Lib.decDigits n)) = (n, true) := by
  have hl := (dec_len 9 n h (by omega)).1
  have hb : isNumB 9 (mkS (Lib.decDigits n)).data.toList = true := by rw [mkS_data]; exact dec_isNum n 9 hl
  rw [natR_yes hb, mkS_data, (dec_props n).2.1]
theorem rdR_of (n : Nat) (h : n < 10 ^ 6) : rdR (mkS (Lib.decDigits n)) = (n : Int) := by
  have hl := (dec_len 6 n h (by omega)).1
  have hb : isNumB 6 (mkS (Lib.decDigits n)).data.toList = true := by rw [mkS_data]; exact dec_isNum n 6 hl
  rw [rdR_yes hb, mkS_data, (dec_props n).2.1]
theorem splB_mk (c : UInt8) (t : List UInt8) : splB c (mkS t) = (spl c t).map mkS := by unfold splB; rw [mkS_data]
theorem mkS_inj {a b : List UInt8} (h : mkS a = mkS b) : a = b := by rw [← mkS_data a, ← mkS_data b, h]
theorem bN_last {t : List UInt8} : bN (mkS (t ++ [10])) ((mkS (t ++ [10])).size - 1) = 10 := by
  unfold bN
  rw [mkS_size, mkS_data, List.length_append, List.length_singleton, Nat.add_sub_cancel]
  simp [List.getD]
theorem extract_init (t : List UInt8) : (mkS (t ++ [10])).extract 0 ((mkS (t ++ [10])).size - 1) = mkS t := by
  refine ba_eq ?_
  rw [extract_list, mkS_data, mkS_size, mkS_data]
  simp
/-- The library's variable MaxLen holds an integer. -/
def MaxW (w : World) (m : Int) : Prop := w.cell? ⟨1, 0, none⟩ = some (.int .i64 m)
theorem MaxW.below {w w' : World} {m : Int} {B : Nat} (h : MaxW w m) (hb : Below B w w') (hB : w.heap.size ≤ B) : MaxW w' m := Below.keepC hb h hB
theorem kSplit_any (s sep : ByteArray) (c : UInt8) (m : Int) (hsep : sep.data.toList = [c]) (w : World) (hm : MaxW w m) (hs : s.size < 4294967281) :
    Calls Tryz.prog 37 #[.string s, .string sep] w (FreshRow strRec w (splB c s)) := by
  have h1 : sep.size = 1 := by rw [← len_data, hsep]; rfl
  have hl := Lib.splitB_all sep (by omega) 0 _ s rfl
  rw [kitSplit_eq c s sep hsep] at hl
  refine (Tryz.strings_Split s sep m w hs hm (by omega)).mono ?_
  rintro e w' ⟨rfl, rfl⟩
  rw [kitSplit_eq c s sep hsep]
  refine ⟨_, rfl, ?_, (Below.refl _ _).alloc (Nat.le_refl _) _⟩
  have hln := (splB_len c s).1
  have := World.ownsRow_lit (base := w.heap.size) (e := 9) (size := 1) w ((splB c s).map Value.string).toArray (Lib.countB s sep + 1) (Nat.le_refl _) (by rw [← hl]; simp only [maxLen]; omega) (by simp [hl])
  unfold OwnRow
  rw [hl]
  have e : rcells strRec (splB c s) = ((splB c s).map Value.string).toArray.toList := by
    simp only [rcells]
    induction splB c s with
    | nil => rfl
    | cons x l ih => simpa [strRec] using ih
  rw [e]
  exact this
theorem nat_beq' (a b : Nat) : ((a : Int) != (b : Int)) = !decide (a = b) := by
  by_cases h : a = b
  · simp [h]
  · have : (a : Int) ≠ b := by omega
    simp [h, this]
theorem natR_bd (s : ByteArray) : (natR s).1 < 1000000000 := by
  unfold natR
  split
  · rename_i h; exact isNum_lt h
  · decide
theorem gx_size {s : ByteArray} {c : UInt8} {i : Nat} (h : i < (splB c s).length) : (gx strRec (splB c s) i).size ≤ s.size := splB_part (gx_mem h)
def FreshStrsB9 (w : World) (r : List ByteArray × Bool) (e : Ending) (w' : World) : Prop :=
  ∃ v, e = .returned (.tuple #[v, .bool r.2]) ∧ OwnRow strRec w' w.heap.size v r.1 ∧ Below w.heap.size w w'
theorem lnR_empty : lnR ⟨#[]⟩ = ([], true) := by unfold lnR; rw [if_pos (show (⟨#[]⟩ : ByteArray).size = 0 from rfl)]
theorem lnR_no {s : ByteArray} (h0 : 0 < s.size) (h : bN s (s.size - 1) ≠ 10) : lnR s = ([], false) := by unfold lnR; rw [if_neg (by omega), if_neg h]
theorem lnR_yes {s : ByteArray} (h0 : 0 < s.size) (h : bN s (s.size - 1) = 10) : lnR s = (splB 10 (s.extract 0 (s.size - 1)), true) := by unfold lnR; rw [if_neg (by omega), if_pos h]
theorem extract_size (s : ByteArray) (a : Nat) : (s.extract 0 a).size ≤ s.size := by rw [← len_data, extract_list, ← len_data]; simp; omega
set_option maxRecDepth 100000 in
set_option maxHeartbeats 3200000 in
theorem linesOf_any (s : ByteArray) (m : Int) (w : World) (hm : MaxW w m) (hs : s.size ≤ 4194304) :
    Calls Tryz.prog 36 #[.string s] w (FreshStrsB9 w (lnR s)) := by
  rcases Nat.eq_zero_or_pos s.size with h0 | h0
  · obtain rfl := empty_of_size h0
    clear h0 hs
    go_enter Tryz.func36, Tryz.ntmps36
    go_wp2_with fail
    go_ret2
    exact ⟨_, by rw [lnR_empty]; rfl, by rw [lnR_empty]; exact OwnRow.empty strRec w _ (Nat.le_refl _), (Below.refl _ _).alloc (Nat.le_refl _) _⟩
  have hne := ne_empty2 h0
  obtain ⟨j, hj⟩ : ∃ j, s.size = j + 1 := ⟨s.size - 1, by omega⟩
  have hj1 : IntKind.i64.wrap ((s.size : Int) - 1) = (j : Int) := by rw [hj]; exact (IntWalk.i64_in _ (by omega)).trans (by omega)
  have hj2 : (s.size : Int) - 1 = (j : Int) := by omega
  have hjl : j < s.size := by omega
  obtain ⟨z, hz⟩ : ∃ z, z = bN s j := ⟨_, rfl⟩
  have hz9 : (s[j]).toNat = z := by rw [hz]; exact bN_eq hjl
  have HZ := Lib.hid hz
  clear hz
  have hjj : s.size - 1 = j := by omega
  by_cases h10 : z = 10
  · subst h10
    have hr := Lib.hid (lnR_yes h0 (by rw [hjj]; exact HZ.out.symm))
    rw [hjj] at hr
    have hsl : (Instr.slice 9 (.string s) none (some (.int .i64 j)) none).run Tryz.prog w = .ok (.string (s.extract 0 j)) w := by
      have h9 := run_slice_string_h (P := Tryz.prog) (w := w) (t := 9) (s := s) Tryz.underlying9 .i64 (j : Int) (by omega) (by omega)
      rw [show ((j : Int)).toNat = j from by omega] at h9
      exact h9
    have CS := Lib.hid (kSplit_any (s.extract 0 j) ⟨#[10]⟩ 10 m rfl w hm (by have := extract_size s j; omega))
    have Hj := Lib.hid hj
    clear hj hjj
    go_enter Tryz.func36, Tryz.ntmps36
    go_wp2_with fail
    refine CS.out.mono ?_; rintro e w1 ⟨v, rfl, o1, b1⟩
    go_wp2_with fail
    go_ret2
    exact ⟨_, by rw [hr.out]; rfl, by rw [hr.out]; exact o1, b1⟩
  · have hr := Lib.hid (lnR_no h0 (by rw [hjj, ← HZ.out]; exact h10))
    have hzz : ((z : Int) != 10) = true := by simp; omega
    have Hj := Lib.hid hj
    clear hj hjj
    go_enter Tryz.func36, Tryz.ntmps36
    go_wp2_with fail
    go_ret2
    exact ⟨_, by rw [hr.out]; rfl, by rw [hr.out]; exact OwnRow.nil_ strRec _ _, Below.refl _ _⟩
theorem lnR_part {s : ByteArray} {i : Nat} (h : i < (lnR s).1.length) : (gx strRec (lnR s).1 i).size ≤ s.size := by
  unfold lnR at h ⊢
  split at h
  · simp at h
  · split at h
    · rename_i h0 h1
      rw [if_neg h0, if_pos h1]
      exact Nat.le_trans (gx_size h) (extract_size s _)
    · simp at h
theorem ba_beq_f {a b : ByteArray} (h : a ≠ b) : (a.toList == b.toList) = false := by
  cases hc : (a.toList == b.toList) with
  | false => rfl
  | true => exact absurd (bytes_eq hc) h
/-- A text cut at its first c, as strings. -/
def cutB (c : UInt8) (s : ByteArray) : ByteArray × ByteArray × Bool := (mkS (cutC c s.data.toList).1, mkS (cutC c s.data.toList).2.1, (cutC c s.data.toList).2.2)
theorem cutB_any (c : UInt8) (s sep : ByteArray) (m : Int) (hsep : sep.data.toList = [c]) (w : World) (hm : MaxW w m) (hs : s.size < 4294967281) :
    Calls Tryz.prog 65 #[.string s, .string sep] w fun e w' => e = .returned (.tuple #[.string (cutB c s).1, .string (cutB c s).2.1, .bool (cutB c s).2.2]) ∧ Below w.heap.size w w' := by
  refine (Tryz.strings_Cut s sep m w hs hm).mono ?_
  rintro e w' ⟨rfl, n, rfl⟩
  rw [hsep]
  exact ⟨rfl, (Below.refl _ _).drewN n⟩
theorem cutB_size (c : UInt8) (s : ByteArray) : (cutB c s).1.size ≤ s.size ∧ (cutB c s).2.1.size ≤ s.size := by
  unfold cutB
  simp only [mkS_size]
  rcases cut_cases c s.data.toList with ⟨_, h, _⟩ | ⟨a, b, hab, _, h, _⟩
  · rw [h, ← len_data]; simp
  · rw [h, ← len_data, hab]; simp; omega
theorem maxLen_of {W : World} (h : W.ShapedOpen Tryz.prog) : ∃ m, MaxW W m :=
  Go.Proofs.cell_of_shapedOpen_int (zero := #[.int .i64 0]) (t := 3) h (of_decide_eq_true (by kernel_rfl)) (by kernel_rfl) rfl (by kernel_rfl) (by kernel_rfl) Tryz.underlying3
end Go.Proofs.YtombnhnhbocceaaGreatDoor
