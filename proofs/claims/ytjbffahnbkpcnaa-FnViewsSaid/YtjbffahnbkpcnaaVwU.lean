/- What the law on views asks of a view, its text, hidden ones and cells. No function of the program. -/
import Derived.Test.YtjbffahnbkpcnaaVwQ
import Derived.Test.YtjbffahnbkpcnaaRvU
set_option linter.unusedSimpArgs false
set_option linter.unusedVariables false
namespace Go.Proofs.Ytjbffahnbkpcnaa
open Go.RowKit

/-- What the law asks of a performer: outside and hidden, or inside, and hidden if the view has another letter there. -/
def CellSays (x y : Int) (C R : Nat) (l : List Spt) (V : List ByteArray) (H : List Int) (i : Nat) : Prop :=
  (∃ a b : Int, rCell x y C R (gx sptRec l i).x (gx sptRec l i).y = (a, b, false) ∧ pinB H i = true) ∨
  (∃ a b n nb : Nat, a < C ∧ n < R ∧ (R : Int) - 1 - (b : Int) = (n : Int) ∧ b ≤ 30 ∧ bt (gx strRec V n) a = nb ∧ nb < 256 ∧ rCell x y C R (gx sptRec l i).x (gx sptRec l i).y = ((a : Int), (b : Int), true) ∧ pinB H i = !((nb : Int) == 65 + (i : Int)))
structure ViewFacts (x y c r : Int) (l : List Spt) (V : List ByteArray) (H : List Int) (T : ByteArray) (C R : Nat) : Prop where
  hc : c = C
  hr : r = R
  hb : 1 ≤ C ∧ C ≤ 60 ∧ 1 ≤ R ∧ R ≤ 30
  frm : isFrm x y C R = true
  l12 : l.length ≤ 12
  h12 : H.length ≤ 12
  vl : V.length = R
  vs : ∀ k, k < V.length → (gx strRec V k).size = C
  tx : tx V V.length = T
  nd : ndL V V.length + (H.length : Int) = l.length
  says : ∀ i, i < l.length → CellSays x y C R l V H i
  wf : WfStrs V
  mir : ∃ M, rMirror V = (M, true) ∧ rMirror M = (V, true) ∧ WfStrs M
theorem bt_lt (s : ByteArray) (k : Nat) : bt s k < 256 := by unfold bt; exact UInt8.toNat_lt _
theorem views_ex (x y c r : Int) (l : List Spt) : ∃ V H T Cr ok, rView x y c r l = (V, ok) ∧ rHidden x y c r l = (H, ok) ∧ rViewT x y c r l = (T, ok) ∧ rCrowd x y c r l = (Cr, ok) ∧ H.length ≤ 12 ∧ V.length ≤ 30 ∧ (ok = true → ∃ C R : Nat, ViewFacts x y c r l V H T C R) := by
  have hv30 := rView_len x y c r l
  have hh12 := rHidden_len x y c r l
  cases hask : isAsk x y c r l
  · exact ⟨[], [], ⟨#[]⟩, [], false, by unfold rView; rw [hask]; rfl, rHidden_no hask, by unfold rViewT; rw [hask]; rfl, by unfold rCrowd; rw [hask]; rfl, by simp, by simp, fun h => by cases h⟩
  · obtain ⟨hf, hch⟩ := isAsk_t hask
    have hb := isFrm_t hf
    have h12 := (isChart_t hch).2.1
    have hsp := chart_spot hch
    obtain ⟨C, rfl⟩ := Int.eq_ofNat_of_zero_le (show 0 ≤ c by omega)
    obtain ⟨R, rfl⟩ := Int.eq_ofNat_of_zero_le (show 0 ≤ r by omega)
    have eV : rView x y C R l = (vwL (shF x y C R l) R R, true) := by unfold rView; rw [if_pos hask]; rfl
    have eH : rHidden x y C R l = (hdn x y C R l (shF x y C R l) l.length, true) := rHidden_yes hask
    rw [eV] at hv30
    rw [eH] at hh12
    have hvl : (vwL (shF x y C R l) R R).length = R := vwL_len _ _ _
    have hvs : ∀ k, k < (vwL (shF x y C R l) R R).length → (gx strRec (vwL (shF x y C R l) R R) k).size = C := fun k hk => vwL_size x y C R l k hk
    refine ⟨vwL (shF x y C R l) R R, hdn x y C R l (shF x y C R l) l.length, tx (vwL (shF x y C R l) R R) R, _, true, eV, eH, by unfold rViewT; rw [if_pos hask]; rfl, by unfold rCrowd; rw [if_pos hask], hh12, hv30, fun _ => ⟨C, R, ?_⟩⟩
    have hvw := view_isVw (l := l) hf h12
    obtain ⟨M, m1, m2, m3, m4⟩ := mirror_twice hvw
    refine ⟨rfl, rfl, by omega, hf, h12, hh12, hvl, hvs, by rw [hvl], ?_, fun i hi => ?_, fun i hi => by rw [hvs i hi]; omega, ⟨M, m1, m2, fun i hi => by have := m4 i hi; omega⟩⟩
    · rw [hvl]; exact shown_all h12
    · have ec : rCell x y C R (gx sptRec l i).x (gx sptRec l i).y = cellAt x y C R (gx sptRec l i).x (gx sptRec l i).y := by unfold rCell; rw [hf, hsp i hi]; rfl
      unfold CellSays
      rw [ec]
      obtain ⟨a, b, o, hcl⟩ : ∃ a b o, cellAt x y C R (gx sptRec l i).x (gx sptRec l i).y = (a, b, o) := ⟨_, _, _, rfl⟩
      cases o
      · exact .inl ⟨a, b, hcl, out_hid hi hcl⟩
      · obtain ⟨rr, cc, rfl, rfl, hin⟩ := inC_of hcl
        have hbd := inC_bd hin
        exact .inr ⟨cc, rr, R - 1 - rr, _, hbd.2, by omega, by omega, by omega, rfl, bt_lt _ _, hcl, in_hid hi h12 hin⟩
end Go.Proofs.Ytjbffahnbkpcnaa
