/- Contracts of ParseVersions and of what it calls: strings.Split, strings.Cut, linesOf, numbersIn. -/
import Derived.Test.YtgngnkndebkbmaaDoorPVP
import Derived.Test.YtgngnkndebkbmaaDoorVCopy
import Derived.Test.YtgngnkndebkbmaaDoorShelf
import Derived.Lib.SplitLaws
set_option linter.unusedSimpArgs false
set_option linter.unusedVariables false
namespace Go.Proofs.YtgngnkndebkbmaaDoor
open Go.RowKit

/-- The library's variable MaxLen holds an integer. -/
def MaxW (w : World) (m : Int) : Prop := w.cell? ⟨0, 0, none⟩ = some (.int .i64 m)
theorem MaxW.below {w w' : World} {m : Int} {B : Nat} (h : MaxW w m) (hb : Below B w w') (hB : w.heap.size ≤ B) : MaxW w' m := Below.keepC hb h hB
theorem kSplit_any (s sep : ByteArray) (c : UInt8) (m : Int) (hsep : sep.data.toList = [c]) (w : World) (hm : MaxW w m) (hs : s.size < 4294967281) :
    Calls Tryd.prog 64 #[.string s, .string sep] w (FreshRow strRec w (splB c s)) := by
  have h1 : sep.size = 1 := by rw [← len_data, hsep]; rfl
  have hl := Lib.splitB_all sep (by omega) 0 _ s rfl
  rw [kitSplit_eq c s sep hsep] at hl
  refine (Tryd.strings_Split s sep m w hs hm (by omega)).mono ?_
  rintro e w' ⟨rfl, rfl⟩
  rw [kitSplit_eq c s sep hsep]
  refine ⟨_, rfl, ?_, (Below.refl _ _).alloc (Nat.le_refl _) _⟩
  have hln := (splB_len c s).1
  have := World.ownsRow_lit (base := w.heap.size) (e := 9) (size := 1) w ((splB c s).map Value.string).toArray (Lib.countB s sep + 1) (Nat.le_refl _) (by rw [← hl]; simp only [maxLen]; omega) (by simp [hl])
  unfold OwnRow
  rw [hl]
  have e : rcells strRec (splB c s) = ((splB c s).map Value.string).toArray.toList := by
    simp only [rcells]
    induction splB c s with
    | nil => rfl
    | cons x l ih => simpa [strRec] using ih
  rw [e]
  exact this
theorem cut_any (s : ByteArray) (m : Int) (w : World) (hm : MaxW w m) (hs : s.size < 4294967281) :
    Calls Tryd.prog 49 #[.string s, .string ⟨#[32]⟩] w fun e w' => e = .returned (.tuple #[.string (cutR s).1, .string (cutR s).2.1, .bool (cutR s).2.2]) ∧ Below w.heap.size w w' := by
  refine (Tryd.strings_Cut s ⟨#[32]⟩ m w hs hm).mono ?_
  rintro e w' ⟨rfl, n, rfl⟩
  exact ⟨rfl, (Below.refl _ _).drewN n⟩
theorem cutR_size (s : ByteArray) : (cutR s).1.size ≤ s.size ∧ (cutR s).2.1.size ≤ s.size := by
  unfold cutR
  simp only [mkS_size]
  rcases cut_cases 32 s.data.toList with ⟨_, h, _⟩ | ⟨a, b, hab, _, h, _⟩
  · rw [h, ← len_data]; simp
  · rw [h, ← len_data, hab]; simp; omega
def nFld (p : ByteArray) : Option Int := if (natR p).2 then some ((natR p).1 : Int) else none
theorem nFld_yes {p : ByteArray} (h : (natR p).2 = true) : nFld p = some ((natR p).1 : Int) := by unfold nFld; rw [if_pos h]
theorem nFld_no {p : ByteArray} (h : (natR p).2 = false) : nFld p = none := by unfold nFld; rw [h]; rfl
theorem numR_len {s : ByteArray} {k : Nat} (h : (splB 32 s).length ≠ k) : numR s k = ([], false) := by unfold numR; rw [if_neg h]
theorem numR_no {s : ByteArray} {k : Nat} (h : optMap nFld (splB 32 s) = none) : numR s k = ([], false) := by
  unfold numR
  split
  · change (match optMap nFld (splB 32 s) with | some l => (l, true) | none => ([], false)) = _
    rw [h]
  · rfl
theorem numR_yes {s : ByteArray} {k : Nat} {l : List Int} (hk : (splB 32 s).length = k) (h : optMap nFld (splB 32 s) = some l) : numR s k = (l, true) := by
  unfold numR
  rw [if_pos hk]
  change (match optMap nFld (splB 32 s) with | some l => (l, true) | none => ([], false)) = _
  rw [h]
theorem nat_beq' (a b : Nat) : ((a : Int) != (b : Int)) = !decide (a = b) := by
  by_cases h : a = b
  · simp [h]
  · have : (a : Int) ≠ b := by omega
    simp [h, this]
theorem natR_bd (s : ByteArray) : (natR s).1 < 1000000000 := by
  unfold natR
  split
  · rename_i h; exact isNum_lt h
  · decide
theorem gx_size {s : ByteArray} {c : UInt8} {i : Nat} (h : i < (splB c s).length) : (gx strRec (splB c s) i).size ≤ s.size := splB_part (gx_mem h)
set_option maxRecDepth 100000 in
set_option maxHeartbeats 3200000 in
theorem numbersIn_any (s : ByteArray) (k : Nat) (m : Int) (w : World) (hm : MaxW w m) (hs : s.size ≤ 4194304) (hk : k ≤ 1000) :
    Calls Tryd.prog 51 #[.string s, .int .i64 k] w (FreshIntsB w (numR s k)) := by
  have CS := Lib.hid (kSplit_any s ⟨#[32]⟩ 32 m rfl w hm (by omega))
  have hlen := splB_len 32 s
  obtain ⟨hlen1, hlen2⟩ := hlen
  have hgs := Lib.hid (fun i (h : i < (splB 32 s).length) => gx_size h)
  obtain ⟨P, hP⟩ : ∃ P, P = splB 32 s := ⟨_, rfl⟩
  rw [← hP] at CS hlen1 hlen2 hgs
  have HP := Lib.hid hP
  clear hP
  by_cases hne : P.length ≠ k
  · have hr := Lib.hid (numR_len (s := s) (k := k) (by rw [← HP.out]; exact hne))
    have hb : ((P.length : Int) != (k : Int)) = true := by rw [nat_beq']; simpa using hne
    go_enter Tryd.func51, Tryd.ntmps51
    go_wp2_with fail
    refine CS.out.mono ?_; rintro e w1 ⟨v, rfl, o1, b1⟩
    obtain ⟨A, c, rfl, hnc, hcc⟩ := o1.reads.shape
    go_wp2_with fail
    go_ret2
    exact ⟨_, by rw [hr.out]; rfl, by rw [hr.out]; exact OwnInts.nil_ _ _, b1⟩
  · obtain rfl : P.length = k := by omega
    clear hne
    go_enter Tryd.func51, Tryd.ntmps51
    go_wp2_with fail
    refine CS.out.mono ?_; rintro e w1 ⟨v, rfl, o1, b1⟩
    obtain ⟨A, c, rfl, hnc, hcc⟩ := o1.reads.shape
    have hr1 := o1.reads
    have hE := OwnInts.empty w1 w1.heap.size (Nat.le_refl _)
    have hbE := (Below.refl w1.heap.size w1).alloc (Nat.le_refl _) (.cells #[] 3)
    go_wp2_with fail
    go_loopg [7, 21] P.length (fun g t i wr => ∃ (n : Nat) (out : List Int), n ≤ P.length ∧ P.length ≤ n + g ∧ i = .int .i64 n ∧ Hid (optMap nFld (P.take n) = some out) ∧ out.length ≤ n ∧ OwnInts wr w1.heap.size t out ∧ Below w1.heap.size w1 wr)
    case atStart => exact ⟨0, [], Nat.zero_le _, by omega, rfl, rfl, Nat.le_refl _, hE, hbE⟩
    case round =>
      obtain ⟨n, out, hn, hng, rfl, hi, hl, ho, hb⟩ := hrel
      by_cases hlt : n < P.length
      · obtain ⟨b, q, rfl, hc⟩ := str_at (hr1.below hb (Nat.le_refl _)) n hlt
        have hi0 : (0 : Int) ≤ (n : Int) := by omega
        have hi1 : (n : Int) < (P.length : Int) := by omega
        have CN := Lib.hid (natural_any (gx strRec P n) (wr) (by have := hgs.out n hlt; omega))
        have hbd := natR_bd (gx strRec P n)
        cases hf : (natR (gx strRec P n)).2
        · have hr := Lib.hid (numR_no (s := s) (k := P.length) (by rw [← HP.out]; exact optMap_none (gx_mem hlt) (nFld_no hf)))
          rw [hf] at CN
          clear hbd
          go_wp2_with fail
          refine CN.out.mono ?_; rintro e _ ⟨rfl, rfl⟩
          go_wp2_with fail
          go_ret2
          exact ⟨_, by rw [hr.out]; rfl, by rw [hr.out]; exact OwnInts.nil_ _ _, b1.next (Nat.le_refl _) hb⟩
        · have hi2 : Hid (optMap nFld (P.take (n + 1)) = some (out ++ [((natR (gx strRec P n)).1 : Int)])) := by
            show _ = _
            rw [take_succ_gx strRec P n hlt]
            exact optMap_snoc hi.out (nFld_yes hf)
          rw [hf] at CN
          obtain ⟨Z, hZ⟩ : ∃ Z, Z = (natR (gx strRec P n)).1 := ⟨_, rfl⟩
          rw [← hZ] at CN hi2 hbd
          clear hZ hf
          have h9 : out.length + 1 ≤ 1099511627776 := by omega
          have hsz := hb.size
          go_wp2_with fail
          refine CN.out.mono ?_; rintro e _ ⟨rfl, rfl⟩
          go_wp2_with (at_builtin; refine wp_app_int _ rfl _ _ rfl w1.heap.size _ out rfl ho (Z : Int) _ rfl rfl h9 hsz ?_; intro v5 w5 ho5 hg5)
          go_roundg (gk - 1)
          case measure => omega
          case rel => exact ⟨n + 1, _, by omega, by omega, by go_num, hi2, by simp; omega, ho5, hb.trans hg5.below⟩
      · obtain rfl : n = P.length := by omega
        have hr := Lib.hid (numR_yes (s := s) (k := P.length) (by rw [← HP.out]) (by have := hi.out; rw [List.take_length] at this; rw [← HP.out]; exact this))
        go_wp2_with fail
        go_ret2
        exact ⟨_, by rw [hr.out]; rfl, by rw [hr.out]; exact ownsRow_lo ho b1.size, b1.next (Nat.le_refl _) hb⟩
def FreshStrsB9 (w : World) (r : List ByteArray × Bool) (e : Ending) (w' : World) : Prop :=
  ∃ v, e = .returned (.tuple #[v, .bool r.2]) ∧ OwnRow strRec w' w.heap.size v r.1 ∧ Below w.heap.size w w'
theorem lnR_empty : lnR ⟨#[]⟩ = ([], true) := by unfold lnR; rw [if_pos (show (⟨#[]⟩ : ByteArray).size = 0 from rfl)]
theorem lnR_no {s : ByteArray} (h0 : 0 < s.size) (h : bN s (s.size - 1) ≠ 10) : lnR s = ([], false) := by unfold lnR; rw [if_neg (by omega), if_neg h]
theorem lnR_yes {s : ByteArray} (h0 : 0 < s.size) (h : bN s (s.size - 1) = 10) : lnR s = (splB 10 (s.extract 0 (s.size - 1)), true) := by unfold lnR; rw [if_neg (by omega), if_pos h]
theorem extract_size (s : ByteArray) (a : Nat) : (s.extract 0 a).size ≤ s.size := by rw [← len_data, extract_list, ← len_data]; simp; omega
set_option maxRecDepth 100000 in
set_option maxHeartbeats 3200000 in
theorem linesOf_any (s : ByteArray) (m : Int) (w : World) (hm : MaxW w m) (hs : s.size ≤ 4194304) :
    Calls Tryd.prog 48 #[.string s] w (FreshStrsB9 w (lnR s)) := by
  rcases Nat.eq_zero_or_pos s.size with h0 | h0
  · obtain rfl := empty_of_size h0
    clear h0 hs
    go_enter Tryd.func48, Tryd.ntmps48
    go_wp2_with fail
    go_ret2
    exact ⟨_, by rw [lnR_empty]; rfl, by rw [lnR_empty]; exact OwnRow.empty strRec w _ (Nat.le_refl _), (Below.refl _ _).alloc (Nat.le_refl _) _⟩
  have hne := ne_empty2 h0
  obtain ⟨j, hj⟩ : ∃ j, s.size = j + 1 := ⟨s.size - 1, by omega⟩
  have hj1 : IntKind.i64.wrap ((s.size : Int) - 1) = (j : Int) := by rw [hj]; exact (IntWalk.i64_in _ (by omega)).trans (by omega)
  have hj2 : (s.size : Int) - 1 = (j : Int) := by omega
  have hjl : j < s.size := by omega
  obtain ⟨z, hz⟩ : ∃ z, z = bN s j := ⟨_, rfl⟩
  have hz9 : (s[j]).toNat = z := by rw [hz]; exact bN_eq hjl
  have HZ := Lib.hid hz
  clear hz
  have hjj : s.size - 1 = j := by omega
  by_cases h10 : z = 10
  · subst h10
    have hr := Lib.hid (lnR_yes h0 (by rw [hjj]; exact HZ.out.symm))
    rw [hjj] at hr
    have hsl : (Instr.slice 9 (.string s) none (some (.int .i64 j)) none).run Tryd.prog w = .ok (.string (s.extract 0 j)) w := by
      have h9 := run_slice_string_h (P := Tryd.prog) (w := w) (t := 9) (s := s) Tryd.underlying9 .i64 (j : Int) (by omega) (by omega)
      rw [show ((j : Int)).toNat = j from by omega] at h9
      exact h9
    have CS := Lib.hid (kSplit_any (s.extract 0 j) ⟨#[10]⟩ 10 m rfl w hm (by have := extract_size s j; omega))
    have Hj := Lib.hid hj
    clear hj hjj
    go_enter Tryd.func48, Tryd.ntmps48
    go_wp2_with fail
    refine CS.out.mono ?_; rintro e w1 ⟨v, rfl, o1, b1⟩
    go_wp2_with fail
    go_ret2
    exact ⟨_, by rw [hr.out]; rfl, by rw [hr.out]; exact o1, b1⟩
  · have hr := Lib.hid (lnR_no h0 (by rw [hjj, ← HZ.out]; exact h10))
    have hzz : ((z : Int) != 10) = true := by simp; omega
    have Hj := Lib.hid hj
    clear hj hjj
    go_enter Tryd.func48, Tryd.ntmps48
    go_wp2_with fail
    go_ret2
    exact ⟨_, by rw [hr.out]; rfl, by rw [hr.out]; exact OwnRow.nil_ strRec _ _, Below.refl _ _⟩
end Go.Proofs.YtgngnkndebkbmaaDoor
