/- A map from letters to spots that the call makes: what it holds, as counts and spots. -/
import Derived.Test.YtjbffahnbkpcnaaRvP
import Derived.Test.YtjbffahnbkpcnaaRecSpot
import Derived.Maps.OwnSet
import Derived.Maps.Views
set_option linter.unusedSimpArgs false
set_option linter.unusedVariables false
namespace Go.Proofs.Ytjbffahnbkpcnaa
open Go.RowKit

def spV (a : Spt) : Value := .agg #[.int .i64 a.x, .int .i64 a.y]
/-- An element of the map reads as itself. -/
def rdV (v : Value) : Option (DataW Value × List MemPlace) := some (.held v, [])
theorem kInt : Maps.Keyed Try.prog 3 := Maps.int_keyed Try.underlying3
theorem kOf (i : Nat) (hi : i < 1000) : keyOf Try.prog 3 (.int .i64 i) = some (.int .i64 i) := Maps.keyOf_int_mk Try.underlying3 (by simp [Lit.wf, IntKind.min, IntKind.max, IntKind.bits, IntKind.signed]; omega)
theorem kLit (i : Nat) (hi : i < 1000) : WideAt.IsKeyLit (.int .i64 i) := kInt.key (kOf i hi)
/-- What the map holds: the letters that stood once, each with its spot. -/
def MapSp (w : World) (b : Nat) (st : List Int × List Spt) : Prop :=
  ∃ D : DataW Value, w.ownsMap Try.prog 3 rdV b (Maps.size D) D ∧ Maps.Tidy D ∧ (Maps.size D : Int) = sumI st.1 ∧ Bits st.1 ∧ St26 st ∧
    ∀ i : Nat, i < 26 → Maps.has D (.int .i64 i) = (gi st.1 i == 1) ∧ (gi st.1 i = 1 → ∀ z, D.atKey (.int .i64 i) z = .held (spV (gx sptRec st.2 i)))
theorem zeroSpot (w : World) : (zeroValue 25).run Try.prog w = .ok (spV ⟨0, 0⟩) w := Try.zeroValue25 w
theorem MapSp.made (w : World) : MapSp (w.alloc (.map #[] 0)) w.heap.size (List.replicate 26 0, List.replicate 26 ⟨0, 0⟩) := by
  refine ⟨.map [], World.ownsMap_made w _ _ _, Maps.tidy_empty, ?_, ?_, ⟨by simp, by simp⟩, ?_⟩
  · decide
  · intro i hi
    rw [List.length_replicate] at hi
    exact .inl (gi_zeros hi)
  · intro i hi
    have e : gi (List.replicate 26 0) i = 0 := gi_zeros hi
    show _ = (gi (List.replicate 26 0) i == 1) ∧ (gi (List.replicate 26 0) i = 1 → _)
    rw [e]
    exact ⟨rfl, fun h => by cases h⟩
theorem MapSp.kept {w w' : World} {b : Nat} {st : List Int × List Spt} {row : Option Nat} (h : MapSp w b st) (hg : w.grownBy w' row) (hne : some b ≠ row) : MapSp w' b st := by
  obtain ⟨D, h1, h2⟩ := h
  exact ⟨D, h1.kept hg hne, h2⟩
theorem MapSp.lt {w : World} {b : Nat} {st : List Int × List Spt} (h : MapSp w b st) : b < w.heap.size := by
  obtain ⟨D, h1, h2⟩ := h
  exact h1.lt
theorem MapSp.below {w w' : World} {B b : Nat} {st : List Int × List Spt} (h : MapSp w b st) (hb : Below B w w') (hB : w.heap.size ≤ B) : MapSp w' b st := by
  have hl := h.lt
  obtain ⟨D, ⟨es, clock, q1, q2⟩, h2⟩ := h
  exact ⟨D, ⟨es, clock, (hb.block b (by omega)).trans q1, q2⟩, h2⟩
set_option maxRecDepth 100000 in
theorem MapSp.look {w : World} {b : Nat} {st : List Int × List Spt} (h : MapSp w b st) (i : Nat) (hi : i < 26) :
    ∃ v, (Instr.lookup 84 (.map (some b)) (.int .i64 i) true).run Try.prog w = .ok (.tuple #[v, .bool (gi st.1 i == 1)]) w ∧ (gi st.1 i = 1 → v = spV (gx sptRec st.2 i)) ∧ (gi st.1 i ≠ 1 → v = spV ⟨0, 0⟩) := by
  obtain ⟨D, h1, h2, h3, h4, h5, h6⟩ := h
  obtain ⟨v, ps, hrun, hR⟩ := h1.look_ok kInt Try.underlying84 (zeroSpot w) (zd := .held (spV ⟨0, 0⟩)) (zp := []) rfl (kOf i (by omega))
  obtain ⟨a1, a2⟩ := h6 i hi
  rw [a1] at hrun
  refine ⟨v, hrun, fun h => ?_, fun h => ?_⟩
  · rw [a2 h] at hR
    unfold rdV at hR
    injection hR with hR; injection hR with hR _; injection hR
  · have h9 : Maps.has D (.int .i64 i) = false := by rw [a1]; simpa using h
    rw [Maps.atKey_of_not_has h9] at hR
    unfold rdV at hR
    injection hR with hR; injection hR with hR _; injection hR
theorem MapSp.len {w : World} {b : Nat} {st : List Int × List Spt} (h : MapSp w b st) (ty : TypeId) : (Builtin.len_ #[84] ty #[.map (some b)]).run Try.prog w = .ok (.int .i64 (sumI st.1)) w := by
  obtain ⟨D, h1, h2, h3, _⟩ := h
  rw [← h3]
  exact h1.len Try.underlying84 ty
theorem MapSp.bits {w : World} {b : Nat} {st : List Int × List Spt} (h : MapSp w b st) : Bits st.1 ∧ St26 st := by
  obtain ⟨D, h1, h2, h3, h4, h5, _⟩ := h
  exact ⟨h4, h5⟩
theorem gx_set {l : List Spt} {i j : Nat} (a : Spt) (h : i < l.length) : gx sptRec (l.set j a) i = if j = i then a else gx sptRec l i := by
  rw [gx_eq (by rw [List.length_set]; exact h), gx_eq h, List.getElem_set]
theorem MapSp.put {w : World} {b : Nat} {st : List Int × List Spt} (h : MapSp w b st) (i : Nat) (hi : i < 26) (h0 : gi st.1 i = 0) (a : Spt) :
    ∃ w', (Instr.mapUpdate 84 (.map (some b)) (.int .i64 i) (spV a)).run Try.prog w = .ok () w' ∧ MapSp w' b (rvPut st i a) ∧ w.grownBy w' (some b) := by
  obtain ⟨D, h1, h2, h3, h4, h5, h6⟩ := h
  have hs := (sumI_bd _ h4).2
  have h50 := h5.1
  have h51 := h5.2
  obtain ⟨w', hrun, hown, hgrow⟩ := h1.update kInt Try.underlying84 (by unfold maxLen; omega) (kOf i (by omega)) (val := spV a) (d := .held (spV a)) (ps := []) rfl
  have hno : Maps.has D (.int .i64 i) = false := by rw [(h6 i hi).1, h0]; rfl
  have hsz : Maps.size (D.put (.int .i64 i) (.held (spV a))) = Maps.size D + 1 := by rw [Maps.size_put h2, hno]; rfl
  refine ⟨w', hrun, ⟨D.put (.int .i64 i) (.held (spV a)), by rw [hsz]; exact hown, h2.put (kLit i (by omega)) _, ?_, ?_, rvPut_26 h5 _ _, ?_⟩, hgrow⟩
  · rw [hsz]
    show _ = sumI (st.1.set i (gi st.1 i + 1))
    rw [sumI_set _ _ (by omega)]
    omega
  · intro j hj
    have hj2 : j < st.1.length := by simpa [rvPut] using hj
    rw [gi_put hj2]
    split
    · exact .inr (by omega)
    · exact h4 j hj2
  · intro j hj
    rw [gi_put (by omega)]
    have hg : gx sptRec (rvPut st i a).2 j = if i = j then a else gx sptRec st.2 j := gx_set a (by omega)
    rw [hg]
    by_cases e : i = j
    · subst e
      rw [if_pos rfl, if_pos rfl, h0]
      exact ⟨Maps.has_put_same h2.isMap (kLit i (by omega)) _, fun _ z => Maps.atKey_put_same h2.isMap (kLit i (by omega)) _ z⟩
    · have hne : (Lit.int .i64 (j : Int)) ≠ .int .i64 (i : Int) := by intro h9; injection h9 with _ h9; omega
      rw [if_neg e, if_neg e, Maps.has_put_other hne]
      exact ⟨(h6 j hj).1, fun h z => by rw [Maps.atKey_put_other hne]; exact (h6 j hj).2 h z⟩
def FreshSpB (w : World) (r : List Spt × Bool) (e : Ending) (w' : World) : Prop :=
  ∃ v, e = .returned (.tuple #[v, .bool r.2]) ∧ OwnRow sptRec w' w.heap.size v r.1 ∧ Below w.heap.size w w'
theorem isFrm_s {x y c r : Int} (h : isFrm x y c r = true) : 0 ≤ x ∧ x ≤ 1280 ∧ 0 ≤ y ∧ y ≤ 672 := by
  unfold isFrm at h
  simp only [Bool.and_eq_true] at h
  have := isSpot_t h.1.1.1.1
  omega
theorem okS_at {s : ByteArray} {m : Nat} (h : okS s = true) (hm : m < s.size) : okC (bt s m) = true := by
  unfold okS at h
  rw [List.all_eq_true] at h
  exact h m (by simpa using hm)
/-- The letter at a place, a number below 26. -/
theorem okC_let {n : Nat} (h : okC n = true) (h2 : n ≠ 46) : 65 ≤ n ∧ n - 65 < 26 := by
  have := okC_t h
  omega
end Go.Proofs.Ytjbffahnbkpcnaa
