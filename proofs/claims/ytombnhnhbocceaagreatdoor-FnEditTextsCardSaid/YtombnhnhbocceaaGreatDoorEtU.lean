/- What the law on edits' texts asks of texts, squashed edits and editors; the comparison of edits. -/
import Derived.Test.YtombnhnhbocceaaGreatDoorSqP
import Derived.Test.YtombnhnhbocceaaGreatDoorPE
set_option linter.unusedSimpArgs false
set_option linter.unusedVariables false
namespace Go.Proofs.YtombnhnhbocceaaGreatDoor
open Go.RowKit

set_option maxHeartbeats 800000 in
theorem pSameEdits_yes (v1 v2 : Value) (l : List Edt) (w : World) (h1 : RowAt edtRec w v1 l) (h2 : RowAt edtRec w v2 l) :
    Calls Tryz.prog 10 #[v1, v2] w fun e w' => e = .returned (.bool true) ∧ Below w.heap.size w w' := by
  obtain ⟨A, c, rfl, hnc, hc63⟩ := h1.shape
  obtain ⟨B, d, rfl, hnd, hd63⟩ := h2.shape
  go_enter Tryz.func10, Tryz.ntmps10
  go_wp2_with fail
  go_loopw [13] (fun i wr => ∃ k : Nat, k ≤ l.length ∧ i = .int .i64 k ∧ Below w.heap.size w wr) (fun i _ => l.length - (intOf i).toNat)
  case atStart => exact ⟨0, Nat.zero_le _, rfl, Below.refl _ _⟩
  case round =>
    obtain ⟨k, hk, rfl, hb⟩ := hrel
    by_cases hlt : k < l.length
    · obtain ⟨b, o, rfl, hc0, hc1, hc2, hc3, hc4, hc5⟩ := edt_at (h1.below hb (Nat.le_refl _)) k hlt
      obtain ⟨b', o', rfl, hd0, hd1, hd2, hd3, hd4, hd5⟩ := edt_at (h2.below hb (Nat.le_refl _)) k hlt
      go_wp2
      go_quiet (fail)
      go_wp2
      go_roundw
      case rel => exact ⟨k + 1, by omega, by go_num, hb.drewN _⟩
      case measure => simp [intOf]; omega
    · go_wp2
      go_ret
      exact ⟨rfl, hb⟩
theorem specIsEdit (x : Edt) (w : World) : Calls Tryz.prog 26 #[.agg #[.int .i64 x.e, .int .i64 x.p, .int .i64 x.bx, .int .i64 x.bY, .int .i64 x.ax, .int .i64 x.aY]] w fun e w' => e = .returned (.bool (isEdt x)) ∧ Below w.heap.size w w' := by
  have bX := (Below.refl w.heap.size w).alloc (Nat.le_refl _) (.cells #[.int .i64 x.e, .int .i64 x.p, .int .i64 x.bx, .int .i64 x.bY, .int .i64 x.ax, .int .i64 x.aY] 39)
  have C := Lib.hid (fun W => edGood_any x W)
  go_enter Tryz.func26, Tryz.ntmps26
  go_wp2_with fail
  refine (C.out _).mono ?_; rintro e w1 ⟨rfl, b1⟩
  go_wp2_with fail
  go_ret
  exact ⟨rfl, bX.next (Nat.le_refl _) b1⟩
theorem lastE_last {es : List Edt} {p : Int} {k : Nat} (hk : k < es.length) (hp : (gx edtRec es k).p = p) : 0 ≤ lastE es p es.length := by
  have := lastE_cases es p es.length (Nat.le_refl _)
  rw [List.take_length] at this
  rcases this with ⟨_, h⟩ | ⟨h, _⟩
  · rw [List.any_eq_false] at h
    exact absurd hp (by simpa using h _ (gx_mem (R := edtRec) hk))
  · exact h
/-- What the law asks of a squashed edit. -/
def SqSays (l Q : List Edt) (i : Nat) : Prop := ∃ L : Nat, L < l.length ∧ rLt l (gx edtRec Q i).p = ((L : Int), true) ∧ (gx edtRec l L).ax = (gx edtRec Q i).ax ∧ (gx edtRec l L).aY = (gx edtRec Q i).aY ∧ (gx edtRec l L).e = (gx edtRec Q i).e ∧ (0 < i → (gx edtRec Q (i - 1)).p < (gx edtRec Q i).p)
theorem edits_ex (l : List Edt) : ∃ T ok Q one, eTextR l = (T, ok) ∧ rSq l = (Q, one) ∧ T.size ≤ 4000 ∧ Q.length ≤ 12 ∧ (one = true → ok = true) ∧
    (ok = true → rPEs T = (l, true) ∧ l.length ≤ 30 ∧ smE l 9 = l.length ∧ ∀ n : Nat, 1 ≤ n → n ≤ 9 → rOf l (n : Int) = (eof l (n : Int), true) ∧ rTb l (n : Int) = (tch (rng 0 12) (n : Int) l, true) ∧
      ∀ k, k < (eof l (n : Int)).length → (gx edtRec (eof l (n : Int)) k).e = (n : Int) ∧ pinB (tch (rng 0 12) (n : Int) l) (gx edtRec (eof l (n : Int)) k).p = true) ∧
    (one = true → rSq Q = (Q, true) ∧ ∀ i, i < Q.length → SqSays l Q i) := by
  have hq := rSq_len l
  cases ha : areEdts l
  · exact ⟨⟨#[]⟩, false, [], false, eTextR_no ha, rSq_no1 ha, by decide, by simp, (fun h => by cases h), (fun h => by cases h), (fun h => by cases h)⟩
  · have hsz := eText_size ha l.length (Nat.le_refl _)
    rw [List.take_length] at hsz
    obtain ⟨hm, h30⟩ := edt_mem ha
    have hok : rPEs (eText l) = (l, true) ∧ l.length ≤ 30 ∧ smE l 9 = l.length ∧ ∀ n : Nat, 1 ≤ n → n ≤ 9 → rOf l (n : Int) = (eof l (n : Int), true) ∧ rTb l (n : Int) = (tch (rng 0 12) (n : Int) l, true) ∧
        ∀ k, k < (eof l (n : Int)).length → (gx edtRec (eof l (n : Int)) k).e = (n : Int) ∧ pinB (tch (rng 0 12) (n : Int) l) (gx edtRec (eof l (n : Int)) k).p = true :=
      ⟨rPEs_whole ha, h30, smE_all ha, fun n h1 h2 => ⟨rOf_yes ha (inR_t.2 (by omega)), rTb_yes ha (inR_t.2 (by omega)), fun k hk => eof_at ha hk⟩⟩
    cases hs : sqOk l
    · exact ⟨eText l, true, [], false, eTextR_yes ha, rSq_no2 hs, by omega, by simp, (fun _ => rfl), (fun _ => hok), (fun h => by cases h)⟩
    · have hy := rSq_yes ha hs
      rw [hy] at hq
      refine ⟨eText l, true, sqL l 12, true, eTextR_yes ha, hy, by omega, hq, (fun _ => rfl), (fun _ => hok), fun _ => ?_⟩
      obtain ⟨s1, s2⟩ := sqL_at l 12
      have htw := sqL_twice (S := sqL l 12) (fun i hi => by obtain ⟨q, a, _, _, d⟩ := s1 i hi; omega) s2 (fun i hi => by obtain ⟨q, _, b, c, _⟩ := s1 i hi; rw [c]; exact (sqIn_t b).2)
      refine ⟨by rw [rSq_yes (sqL_edt ha) htw.2, htw.1], fun i hi => ?_⟩
      obtain ⟨q, a, b, c, d⟩ := s1 i hi
      obtain ⟨hl, _⟩ := sqIn_t b
      obtain ⟨⟨L, b1, b2, b3, b4, b5, b6⟩, _⟩ := ownE_at l.length hl
      refine ⟨L, b1, ?_, by rw [c, b5], by rw [c, b6], by rw [c, b4], fun h0 => s2 (i - 1) i (by omega) hi⟩
      rw [d]
      have := rLt_yes ha (inR_t.2 (by omega : (0 : Int) ≤ (q : Int) ∧ (q : Int) ≤ 11)) hl
      rw [this, b2]
theorem rPE_ex (t : ByteArray) : ∃ P ok, rPEs t = (P, ok) ∧ P.length ≤ 30 := ⟨(rPEs t).1, (rPEs t).2, rfl, rPE_len t⟩
end Go.Proofs.YtombnhnhbocceaaGreatDoor
