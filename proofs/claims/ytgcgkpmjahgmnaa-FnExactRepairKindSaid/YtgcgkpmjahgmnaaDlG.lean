/- Contract: the search for delays goes on, in the program. -/
import Derived.Test.YtgcgkpmjahgmnaaDlW
import Derived.Test.YtgcgkpmjahgmnaaCur
import Derived.Test.YtgcgkpmjahgmnaaHelpC
set_option linter.unusedSimpArgs false
set_option linter.unusedVariables false
namespace Go.Proofs.Ytgcgkpmjahgmnaa
open Go.RowKit Go.Sort

def tbOf (cl : Cl) : Tb := fun i k p q => cl i k (p : Int) (q : Int)
/-- The best delays so far. -/
def Best (w : World) (B : Nat) (bv : Value) (sm : Int) (st : Option (List Int)) : Prop := match st with
  | none => bv = .slice none 0 0 ∧ sm = 0
  | some l => (∃ g n c, bv = .slice (some ⟨g, 0, none⟩) n c) ∧ OwnInts w (B + 1) bv l ∧ sm = sumI l
theorem Best.apt {w w' : World} {B : Nat} {bv : Value} {sm : Int} {st : Option (List Int)} (h : Best w B bv sm st) (ha : Apg B w w') : Best w' B bv sm st := by
  cases st with
  | none => exact h
  | some l => exact ⟨h.1, h.2.1.apt ha (Nat.le_refl _), h.2.2⟩
/-- All that the search has in memory. -/
structure Go_ (w : World) (B : Nat) (cl : Cl) (N : Nat) (st : Option (List Int)) (bv : Value) (sm : Int) : Prop where
  ds : DsAt w B (tbOf cl) N 900 bv sm
  best : Best w B bv sm st
theorem Go_.apt {w w' : World} {B : Nat} {cl : Cl} {N : Nat} {st : Option (List Int)} {bv : Value} {sm : Int} (h : Go_ w B cl N st bv sm) (ha : Below w.heap.size w w') : Go_ w' B cl N st bv sm :=
  ⟨h.ds.keep ha h.ds.lt, h.best.apt (Apart.of_below ha (Nat.le_refl _))⟩
def ExGo (w : World) (B : Nat) (cl : Cl) (N : Nat) (st : Option (List Int)) : Prop := ∃ bv sm, Go_ w B cl N st bv sm
def GoPost (w : World) (B : Nat) (cl : Cl) (N : Nat) (st : Option (List Int)) (e : Ending) (w' : World) : Prop := e = .returned (.tuple #[]) ∧ Apg B w w' ∧ ExGo w' B cl N st
theorem sumI_take (l : List Int) (h : ∀ i, i < l.length → 0 ≤ gi l i ∧ gi l i ≤ 4) : 0 ≤ sumI l ∧ sumI l ≤ 4 * (l.length : Int) := by
  suffices H : ∀ k, k ≤ l.length → 0 ≤ sumI (l.take k) ∧ sumI (l.take k) ≤ 4 * (k : Int) by
    have := H l.length (Nat.le_refl _)
    rwa [List.take_length] at this
  intro k
  induction k with
  | zero => intro _; exact ⟨Int.le_refl _, Int.le_refl _⟩
  | succ k ih =>
    intro hk
    rw [take_succ_gi l k (by omega), sumI_snoc]
    have h1 := ih (by omega)
    have h2 := h k (by omega)
    omega
theorem gi_snoc (l : List Int) (x : Int) (i : Nat) : gi (l ++ [x]) i = if i = l.length then x else gi l i := by
  unfold gi
  rw [List.getD_eq_getElem?_getD, List.getD_eq_getElem?_getD]
  by_cases h : i < l.length
  · rw [List.getElem?_append_left h, if_neg (by omega)]
  · rw [List.getElem?_append_right (by omega)]
    by_cases e : i = l.length
    · subst e; rw [if_pos rfl, Nat.sub_self]; rfl
    · rw [if_neg e, List.getElem?_eq_none (by simp; omega), List.getElem?_eq_none (by omega)]
set_option maxRecDepth 100000 in
set_option maxHeartbeats 12800000 in
theorem goOn_any (cl : Cl) (N B : Nat) (hN : N ≤ 6) (hN1 : 1 ≤ N) (F : Nat) : ∀ (ds : List Int) (st : Option (List Int)) (bv dv : Value) (sm : Int) (w : World), ds.length + F = N → (∀ i, i < ds.length → 0 ≤ gi ds i ∧ gi ds i ≤ 4) → Go_ w B cl N st bv sm → OwnInts w (B + 1) dv ds →
    Calls Try.prog 55 #[.pointer (some ⟨B, 0, none⟩), dv, .int .i64 (sumI ds)] w (GoPost w B cl N (goOnP cl F ds st)) := by
  induction F with
  | zero =>
    intro ds st bv dv sm w hF hdr hG hD
    have hsb := sumI_take ds hdr
    obtain ⟨A, c, rfl, gd, hc⟩ := hD.reads.shape
    obtain ⟨z0, z1, z2, z3, z4⟩ := hG.ds.cells
    have hBl := hG.ds.lt
    have HG := Lib.hid hG
    have HD := Lib.hid hD
    have HR := Lib.hid hdr
    have HF := Lib.hid hF
    have hnF : (ds.length : Int) = (N : Int) := by omega
    clear hG hdr hD hF
    go_enter Try.func55, Try.ntmps55
    go_upto_region 1 with fail
    go_cut [25] (fun s wx => s = .bool (cutD ds st) ∧ wx = w)
    case first =>
      cases st with
      | none =>
        obtain ⟨rfl, rfl⟩ := HG.out.best
        go_wp2_with fail
        go_meet
        exact ⟨rfl, rfl⟩
      | some l =>
        obtain ⟨⟨g9, n9, c9, rfl⟩, ho9, rfl⟩ := HG.out.best
        clear ho9
        go_wp2_with fail
        go_meet
        exact ⟨rfl, rfl⟩
    case rest =>
      obtain ⟨rfl, rfl⟩ := hcut
      cases hcD : cutD ds st
      case true =>
        have HP := Lib.hid (goOnP_cut (cl := cl) (f := 0) hcD)
        clear hcD
        go_wp2_with fail
        ((try simp only [Exit.inBlock, Exit.then]); (first | (refine bodyPost_ret (results_none rfl _ _ _) rfl ?_) | (refine bodyPost_end (results_none rfl _ _ _) rfl ?_)))
        exact ⟨rfl, Apart.refl _ _ _, bv, sm, by rw [HP.out]; exact HG.out⟩
      case false =>
        have HP := Lib.hid (goOnP_0 (cl := cl) hcD)
        clear hcD
        have heq : ((ds.length : Int) == (N : Int)) = true := by rw [beq_iff_eq]; exact hnF
        have C := Lib.hid (copyInts_any _ ds wc HD.out.reads (by omega))
        go_wp2_with fail
        refine C.out.mono ?_; rintro e w1 ⟨v1, rfl, o1, b1⟩
        have g1 := HG.out.apt b1
        obtain ⟨gg, cc, rfl, hgb, _⟩ := World.ownsRow.form o1 (by omega)
        obtain ⟨y0, y1, y2, y3, y4⟩ := g1.ds.cells
        have o2 : OwnInts w1 (B + 1) (.slice (some ⟨gg, 0, none⟩) ds.length cc) ds := ownsRow_lo o1 (by omega)
        have a1 : Apg B wc w1 := Apart.of_below b1 (Nat.le_refl _)
        have a2 : Apg B w1 ((w1.setCell ⟨B, 901, none⟩ (.slice (some ⟨gg, 0, none⟩) ds.length cc)).setCell ⟨B, 902, none⟩ (.int .i64 (sumI ds))) :=
          ((Apart.refl _ _ _).setCell (p := ⟨B, 901, none⟩) (Nat.le_refl _) (Nat.lt_succ_self _) _).setCell (p := ⟨B, 902, none⟩) (Nat.le_refl _) (Nat.lt_succ_self _) _
        have fin : Go_ ((w1.setCell ⟨B, 901, none⟩ (.slice (some ⟨gg, 0, none⟩) ds.length cc)).setCell ⟨B, 902, none⟩ (.int .i64 (sumI ds))) B cl N (some ds) (.slice (some ⟨gg, 0, none⟩) ds.length cc) (sumI ds) :=
          ⟨g1.ds.best hN _ _, ⟨_, _, _, rfl⟩, o2.apt a2 (Nat.le_refl _), rfl⟩
        have FIN := Lib.hid fin
        have A12 := Lib.hid (Apart.trans a1 a2)
        clear fin a1 a2 o1 o2 g1 b1 C heq
        go_wp2_with fail
        ((try simp only [Exit.inBlock, Exit.then]); (first | (refine bodyPost_ret (results_none rfl _ _ _) rfl ?_) | (refine bodyPost_end (results_none rfl _ _ _) rfl ?_)))
        exact ⟨rfl, A12.out, _, _, by rw [HP.out]; exact FIN.out⟩
  | succ F ih =>
    intro ds st bv dv sm w hF hdr hG hD
    have hsb := sumI_take ds hdr
    obtain ⟨A, c, rfl, gd, hc⟩ := hD.reads.shape
    obtain ⟨z0, z1, z2, z3, z4⟩ := hG.ds.cells
    have hBl := hG.ds.lt
    have HG := Lib.hid hG
    have HD := Lib.hid hD
    have HR := Lib.hid hdr
    have HF := Lib.hid hF
    have hnF : (ds.length : Int) < (N : Int) := by omega
    clear hG hdr hD hF
    go_enter Try.func55, Try.ntmps55
    go_upto_region 1 with fail
    go_cut [25] (fun s wx => s = .bool (cutD ds st) ∧ wx = w)
    case first =>
      cases st with
      | none =>
        obtain ⟨rfl, rfl⟩ := HG.out.best
        go_wp2_with fail
        go_meet
        exact ⟨rfl, rfl⟩
      | some l =>
        obtain ⟨⟨g9, n9, c9, rfl⟩, ho9, rfl⟩ := HG.out.best
        clear ho9
        go_wp2_with fail
        go_meet
        exact ⟨rfl, rfl⟩
    case rest =>
      obtain ⟨rfl, rfl⟩ := hcut
      cases hcD : cutD ds st
      case true =>
        have HP := Lib.hid (goOnP_cut (cl := cl) (f := F + 1) hcD)
        clear hcD
        go_wp2_with fail
        ((try simp only [Exit.inBlock, Exit.then]); (first | (refine bodyPost_ret (results_none rfl _ _ _) rfl ?_) | (refine bodyPost_end (results_none rfl _ _ _) rfl ?_)))
        exact ⟨rfl, Apart.refl _ _ _, bv, sm, by rw [HP.out]; exact HG.out⟩
      case false =>
        have HP := Lib.hid (goOnP_s (cl := cl) (f := F) hcD)
        clear hcD
        have heq : ((ds.length : Int) == (N : Int)) = false := by rw [beq_eq_false_iff_ne]; omega
        have hi6 : ds.length < 6 := by omega
        clear z1 z2 z3 z4
        go_wp2_with fail
        go_loopw [7] (fun i wr => ∃ j : Nat, j ≤ 5 ∧ i = .int .i64 j ∧ Apg B wc wr ∧ ExGo wr B cl N (stepD cl F ds st j)) (fun i _ => 5 - (intOf i).toNat)
        case atStart => exact ⟨0, Nat.zero_le _, rfl, Apart.refl _ _ _, bv, sm, HG.out⟩
        case round =>
          obtain ⟨j, hj, rfl, ha, hx⟩ := hrel
          clear z0
          obtain ⟨w2, hw2⟩ : ∃ w9, w9 = wr := ⟨_, rfl⟩
          subst hw2
          by_cases hlt : j < 5
          · have hd2 := HD.out.apt ha (Nat.le_refl _)
            obtain ⟨bv2, sm2, hg2⟩ := hx
            have HG2 := Lib.hid hg2
            have HD2 := Lib.hid hd2
            have HA := Lib.hid ha
            clear hg2 hd2 ha
            have hj4 : (j : Int) ≤ 4 := by omega
            go_wp2_with fail
            go_loop [8, 47] (fun g i => ∃ m : Nat, m ≤ ds.length ∧ i = .int .i64 m ∧ g = .bool (okTo_ cl ds j m)) (fun _ i => ds.length - (intOf i).toNat)
            case atStart => exact ⟨0, Nat.zero_le _, rfl, rfl⟩
            case round =>
              obtain ⟨m, hm, rfl, rfl⟩ := hrel
              by_cases hlm : m < ds.length
              · obtain ⟨b0, o0, heqA, hcm⟩ := IntsAt.at_ HD2.out.reads m hlm
                subst heqA
                obtain ⟨r1, r2⟩ := HR.out m hlm
                obtain ⟨x, hx⟩ := Int.eq_ofNat_of_zero_le r1
                rw [hx] at hcm r2
                have hx5 : x < 5 := by omega
                have hcell := HG2.out.ds.at_ (i := m) (k := ds.length) (p := x) (q := j) hlm (by omega) hx5 hlt (by unfold ix; omega)
                have hcell2 : w2.cell? ⟨B, ix m ds.length x j, none⟩ = some (.bool (cl m ds.length (x : Int) (j : Int))) := hcell
                unfold ix at hcell2
                have hs := okTo_s cl ds j m
                rw [hx] at hs
                have HS := Lib.hid hs
                clear hs hx hcell r1
                cases hok : okTo_ cl ds j m
                · rw [hok] at HS
                  go_wp2_with fail
                  go_round
                  case rel => exact ⟨m + 1, by omega, by go_num, by rw [HS.out]; rfl⟩
                  case measure => simp [intOf]; omega
                · rw [hok] at HS
                  go_wp2_with fail
                  go_round
                  case rel => exact ⟨m + 1, by omega, by go_num, by rw [HS.out]; rfl⟩
                  case measure => simp [intOf]; omega
              · obtain rfl : m = ds.length := by omega
                have hst := stepD_s cl F ds st j
                have hokA : okAdd cl ds j = okTo_ cl ds j ds.length := rfl
                cases hok : okTo_ cl ds j ds.length
                · rw [hokA, hok, if_neg (by decide)] at hst
                  have HST := Lib.hid hst
                  clear hst hokA hok
                  go_wp2_with fail
                  go_roundw
                  case rel => exact ⟨j + 1, by omega, by go_num, HA.out, by rw [HST.out]; exact ⟨bv2, sm2, HG2.out⟩⟩
                  case measure => simp [intOf]; omega
                · rw [hokA, hok, if_pos rfl] at hst
                  have HST := Lib.hid hst
                  clear hst hokA hok
                  have C := Lib.hid (copyInts_any _ ds w2 HD2.out.reads (by omega))
                  have hsm := sumI_snoc ds (j : Int)
                  have hdn : ∀ i, i < (ds ++ [(j : Int)]).length → 0 ≤ gi (ds ++ [(j : Int)]) i ∧ gi (ds ++ [(j : Int)]) i ≤ 4 := by
                    intro i hi
                    rw [List.length_append, List.length_singleton] at hi
                    rw [gi_snoc]
                    split
                    · omega
                    · exact HR.out i (by omega)
                  have HI := Lib.hid (fun dv' W hg hd => ih (ds ++ [(j : Int)]) (stepD cl F ds st j) bv2 dv' sm2 W (by rw [List.length_append, List.length_singleton]; have := HF.out; omega) hdn hg hd)
                  rw [hsm] at HI
                  clear hsm hdn
                  have h63 : ds.length + 1 ≤ 1099511627776 := by omega
                  have hB2 := HG2.out.ds.lt
                  go_wp2_with fail
                  refine C.out.mono ?_; rintro e w3 ⟨v3, rfl, o3, b3⟩
                  go_wp2_with (at_builtin; refine wp_app_int _ rfl _ _ rfl w2.heap.size _ ds rfl o3 (j : Int) _ rfl rfl h63 b3.size ?_; intro v4 w4 o4 g4)
                  have b34 := b3.trans g4.below
                  have k4 : Go_ w4 B cl N (stepD cl F ds st j) bv2 sm2 := HG2.out.apt b34
                  refine (HI.out _ _ k4 (ownsRow_lo o4 hB2)).mono ?_; rintro e w5 ⟨rfl, a5, hx5⟩
                  have a4 : Apg B w2 w4 := Apart.of_below b34 (Nat.le_refl _)
                  go_wp2_with fail
                  go_roundw
                  case rel => exact ⟨j + 1, by omega, by go_num, (HA.out.trans a4).trans a5, by rw [HST.out]; exact hx5⟩
                  case measure => simp [intOf]; omega
          · obtain rfl : j = 5 := by omega
            go_wp2_with fail
            ((try simp only [Exit.inBlock, Exit.then]); (first | (refine bodyPost_ret (results_none rfl _ _ _) rfl ?_) | (refine bodyPost_end (results_none rfl _ _ _) rfl ?_)))
            exact ⟨rfl, ha, by rw [HP.out]; exact hx⟩
end Go.Proofs.Ytgcgkpmjahgmnaa
