/- Plain facts on journals: they are recovered whole, what is appended stands behind, a cut leaves the frames before it. No function of the program. -/
import Derived.Test.YtmjchkaipbmjkaaDamP
set_option linter.unusedSimpArgs false
set_option linter.unusedVariables false
namespace Go.Proofs.Ytmjchkaipbmjkaa
open Go.RowKit

theorem gi_app_left {a b : List Int} {i : Nat} (h : i < a.length) : gi (a ++ b) i = gi a i := by
  unfold gi; rw [List.getD_eq_getElem?_getD, List.getElem?_append_left h, ← List.getD_eq_getElem?_getD]
theorem gi_app_right {a b : List Int} (i : Nat) : gi (a ++ b) (a.length + i) = gi b i := by
  unfold gi; rw [List.getD_eq_getElem?_getD, List.getElem?_append_right (Nat.le_add_right _ _), Nat.add_sub_cancel_left, ← List.getD_eq_getElem?_getD]
theorem flatB_app (n : Nat) (a b : List (List Int)) : flatB n (a ++ b) = flatB n a ++ flatB (n + a.length) b := by
  induction a generalizing n with
  | nil => simp [flatB]
  | cons x a ih =>
    simp only [List.cons_append, flatB, ih, List.append_assoc, List.length_cons]
    rw [show n + 1 + a.length = n + (a.length + 1) from by omega]
/-- A frame that stands in bytes. -/
theorem stands (pre suf : List Int) (l : List Int) (k : Nat) (h : isFrame l = true) :
    gi (pre ++ (frameB l k ++ suf)) pre.length = (l.length : Int) ∧ frameAt (pre ++ (frameB l k ++ suf)) pre.length = l ∧ okAt (pre ++ (frameB l k ++ suf)) pre.length k = true := by
  have hl := isFrame_len h
  have hf := frameB_len l k
  have g0 : gi (pre ++ (frameB l k ++ suf)) pre.length = (l.length : Int) := by
    have := gi_app_right (a := pre) (b := frameB l k ++ suf) 0
    rw [Nat.add_zero] at this
    rw [this, gi_app_left (by omega)]; rfl
  have g1 : frameAt (pre ++ (frameB l k ++ suf)) pre.length = l := by
    rw [frameAt_eq g0, List.drop_append, List.drop_of_length_le (by omega), show pre.length + 1 - pre.length = 1 from by omega, List.nil_append]
    unfold frameB
    simp only [List.cons_append, List.drop_succ_cons, List.drop_zero, List.append_assoc]
    rw [List.take_append_of_le_length (Nat.le_refl _), List.take_length]
  have g2 : gi (pre ++ (frameB l k ++ suf)) (pre.length + 1 + l.length) = chk l k := by
    have := gi_app_right (a := pre) (b := frameB l k ++ suf) (l.length + 1)
    rw [show pre.length + 1 + l.length = pre.length + (l.length + 1) from by omega, this, gi_app_left (by omega), frameB_chk]
  refine ⟨g0, g1, okAt_yes g0 hl.1 hl.2 ?_ (by rw [g1, g2])⟩
  rw [List.length_append, List.length_append, hf]; omega
theorem runR_flat (rest : List (List Int)) : ∀ (pre : List Int) (out : List (List Int)) (tail : List Int) (f : Nat), rest.all isFrame = true → rest.length ≤ f →
    runR (pre ++ (flatB out.length rest ++ tail)) f out pre.length = runR (pre ++ (flatB out.length rest ++ tail)) (f - rest.length) (out ++ rest) (pre.length + (flatB out.length rest).length) := by
  induction rest with
  | nil => intro pre out tail f _ _; simp [flatB]
  | cons l ls ih =>
    intro pre out tail f h hf
    simp only [List.all_cons, Bool.and_eq_true] at h
    obtain ⟨f, rfl⟩ : ∃ f', f = f' + 1 := ⟨f - 1, by simp at hf; omega⟩
    have e : flatB out.length (l :: ls) ++ tail = frameB l out.length ++ (flatB (out.length + 1) ls ++ tail) := by
      show (frameB l out.length ++ flatB (out.length + 1) ls) ++ tail = _
      rw [List.append_assoc]
    rw [e]
    obtain ⟨g0, g1, g2⟩ := stands pre (flatB (out.length + 1) ls ++ tail) l out.length h.1
    have hfl := frameB_len l out.length
    rw [runR_go _ _ _ _ (by rw [List.length_append, List.length_append, hfl]; omega) g2, g1, g0]
    have ih2 := ih (pre ++ frameB l out.length) (out ++ [l]) tail f h.2 (by simp at hf; omega)
    rw [List.length_append, List.length_append, List.length_singleton, hfl, List.append_assoc] at ih2
    rw [show pre.length + ((l.length : Nat) : Int).toNat + 2 = pre.length + (l.length + 2) from by omega, ih2, List.append_assoc]
    have e2 : (flatB out.length (l :: ls)).length = l.length + 2 + (flatB (out.length + 1) ls).length := by
      show (frameB l out.length ++ flatB (out.length + 1) ls).length = _
      rw [List.length_append, hfl]
    rw [e2, List.length_cons, show f + 1 - (ls.length + 1) = f - ls.length from by omega, show pre.length + (l.length + 2) + (flatB (out.length + 1) ls).length = pre.length + (l.length + 2 + (flatB (out.length + 1) ls).length) from by omega]
    rfl
theorem recov_flat {ls : List (List Int)} (h : ls.all isFrame = true) (hl : ls.length ≤ 20) : recov (flatB 0 ls) = (ls, (flatB 0 ls).length) := by
  have := runR_flat ls [] [] [] 20 h hl
  simp only [List.nil_append, List.append_nil, List.length_nil, Nat.zero_add] at this
  unfold recov
  rw [this]
  exact runR_stop _ _ _ _ (fun h => absurd h.1 (by omega))
theorem recov_cut {ds : List (List Int)} {d : List Int} (h : ds.all isFrame = true) (hd : isFrame d = true) (hl : ds.length ≤ 20) : (recov ((flatB 0 (ds ++ [d])).take ((flatB 0 (ds ++ [d])).length - 1))).1 = ds := by
  have hf := frameB_len d (ds.length : Nat)
  have hdl := isFrame_len hd
  rw [flatB_snoc, Nat.zero_add, List.length_append, hf, List.take_append, List.take_of_length_le (by omega), show (flatB 0 ds).length + (d.length + 2) - 1 - (flatB 0 ds).length = d.length + 1 from by omega]
  obtain ⟨T, hT⟩ : ∃ T, T = (frameB d (ds.length : Nat)).take (d.length + 1) := ⟨_, rfl⟩
  have hTl : T.length = d.length + 1 := by rw [hT, List.length_take, hf]; omega
  have hT0 : gi T 0 = (d.length : Int) := by
    rw [hT]; unfold gi; rw [List.getD_eq_getElem?_getD, List.getElem?_take, if_pos (by omega)]; rfl
  rw [← hT]
  have := runR_flat ds [] [] T 20 h hl
  simp only [List.nil_append, List.length_nil, Nat.zero_add] at this
  unfold recov
  rw [this, runR_stop _ _ _ _ (fun h9 => by
    have hg : gi (flatB 0 ds ++ T) (flatB 0 ds).length = (d.length : Int) := by
      have := gi_app_right (a := flatB 0 ds) (b := T) 0
      rw [Nat.add_zero] at this
      rw [this, hT0]
    have := okAt_end (c := ds.length) hg (by rw [List.length_append, hTl]; omega)
    rw [h9.2] at this; cases this)]
theorem take_frame {b : List Int} {p m : Nat} (hm : gi b p = (m : Int)) (h : p + m + 1 < b.length) : b.take (p + m + 2) = b.take p ++ ((m : Int) :: (b.drop (p + 1)).take m ++ [gi b (p + 1 + m)]) := by
  have e1 : b.drop p = gi b p :: b.drop (p + 1) := by rw [gi_eq (by omega)]; exact List.drop_eq_getElem_cons (by omega)
  rw [Nat.add_assoc, List.take_add, e1, hm, List.take_succ_cons, List.cons_append]
  congr 2
  have hg : gi (b.drop (p + 1)) m = gi b (p + 1 + m) := by
    unfold gi; rw [List.getD_eq_getElem?_getD, List.getElem?_drop, ← List.getD_eq_getElem?_getD]
  rw [take_succ_gi _ _ (by rw [List.length_drop]; omega), hg]
theorem runR_spec {b : List Int} (hb : allIn b 0 255 = true) (f : Nat) : ∀ (out : List (List Int)) (p : Nat), out.all isFrame = true → b.take p = flatB 0 out → p ≤ b.length →
    (runR b f out p).1.all isFrame = true ∧ b.take (runR b f out p).2 = flatB 0 (runR b f out p).1 ∧ (runR b f out p).2 ≤ b.length := by
  induction f with
  | zero => intro out p h1 h2 h3; exact ⟨h1, h2, h3⟩
  | succ f ih =>
    intro out p h1 h2 h3
    by_cases hc : p < b.length ∧ okAt b p out.length = true
    · rw [runR_go _ _ _ _ hc.1 hc.2]
      have hk := hc.2
      unfold okAt at hk
      rw [Bool.and_eq_true, Bool.and_eq_true] at hk
      have a1 := inR_t.1 hk.1.1
      have a2 := of_decide_eq_true hk.1.2
      have a3 := eq_of_beq hk.2
      obtain ⟨m, hm⟩ : ∃ m : Nat, gi b p = (m : Int) := ⟨(gi b p).toNat, by omega⟩
      have em : (gi b p).toNat = m := by omega
      rw [em] at a2 a3 ⊢
      have hfr := frameAt_eq hm
      have hfl : (frameAt b p).length = m := by rw [hfr, List.length_take, List.length_drop]; omega
      have hok : isFrame (frameAt b p) = true := by
        unfold isFrame; rw [frameAt_in hb, inR_t.2 (by omega)]; rfl
      refine ih _ _ (by rw [List.all_append, h1]; simp [hok]) ?_ (by omega)
      rw [take_frame hm a2, h2, flatB_snoc, Nat.zero_add]
      unfold frameB
      rw [hfl, ← hfr, ← a3]
    · rw [runR_stop _ _ _ _ hc]; exact ⟨h1, h2, h3⟩
theorem recov_spec {b : List Int} (hb : isBytes b = true) : (recov b).1.all isFrame = true ∧ b.take (recov b).2 = flatB 0 (recov b).1 ∧ (recov b).2 ≤ b.length :=
  runR_spec (isBytes_in hb) 20 [] 0 rfl rfl (Nat.zero_le _)
/-- A journal is recovered whole. -/
theorem journal_whole {ls : List (List Int)} {b : List Int} (h : rJournal ls = (b, true)) : b = flatB 0 ls ∧ ls.all isFrame = true ∧ ls.length ≤ 20 ∧ b.length ≤ 240 ∧ rRecover b = (ls, (b.length : Int), true) := by
  have hb := rJournal_bytes ls
  rw [h] at hb
  unfold rJournal at h
  split at h
  · rename_i h1
    split at h
    · cases h
    · rename_i h2
      injection h with e _
      subst e
      refine ⟨rfl, h1, by omega, by omega, ?_⟩
      unfold rRecover
      rw [hb, recov_flat h1 (by omega)]; rfl
  · cases h
theorem all_take {ls : List (List Int)} (h : ls.all isFrame = true) (k : Nat) : (ls.take k).all isFrame = true := by
  rw [List.all_eq_true] at h ⊢
  exact fun x hx => h x (List.mem_of_mem_take hx)
/-- How many frames survive a cut behind a frame, and a cut within it. -/
theorem survive_at {ls : List (List Int)} {b : List Int} (h : rJournal ls = (b, true)) (i : Nat) (hi : i < ls.length) :
    rSurvive ls ((flatB 0 (ls.take (i + 1))).length : Int) = (((i + 1 : Nat) : Int), true) ∧ rSurvive ls (((flatB 0 (ls.take (i + 1))).length : Int) - 1) = ((i : Int), true) := by
  obtain ⟨hbe, hall, hlen, hb240, _⟩ := journal_whole h
  have hsplit : b = flatB 0 (ls.take (i + 1)) ++ flatB (i + 1) (ls.drop (i + 1)) := by
    have h9 := flatB_app 0 (ls.take (i + 1)) (ls.drop (i + 1))
    rw [List.take_append_drop, List.length_take, Nat.min_eq_left (by omega), Nat.zero_add] at h9
    rw [hbe]; exact h9
  have hle : (flatB 0 (ls.take (i + 1))).length ≤ 240 := by
    have : b.length = _ := congrArg List.length hsplit
    rw [List.length_append] at this; omega
  have hpos : 1 ≤ (flatB 0 (ls.take (i + 1))).length := by
    rw [take_succ_gl ls i hi, flatB_snoc, List.length_append, frameB_len]; omega
  have htk : b.take (flatB 0 (ls.take (i + 1))).length = flatB 0 (ls.take (i + 1)) := by
    conv => lhs; rw [hsplit]
    rw [List.take_append_of_le_length (Nat.le_refl _), List.take_length]
  have hl1 : (ls.take (i + 1)).length = i + 1 := by rw [List.length_take]; omega
  have hl0 : (ls.take i).length = i := by rw [List.length_take]; omega
  constructor
  · unfold rSurvive
    rw [h, inR_t.2 (by omega)]
    simp only [Bool.and_self, if_true]
    rw [Int.toNat_natCast, htk, recov_flat (all_take hall _) (by omega), hl1]
  · unfold rSurvive
    rw [h, inR_t.2 (by omega)]
    simp only [Bool.and_self, if_true]
    have e1 : b.take ((((flatB 0 (ls.take (i + 1))).length : Nat) : Int) - 1).toNat = (flatB 0 (ls.take (i + 1))).take ((flatB 0 (ls.take (i + 1))).length - 1) := by
      rw [show ((((flatB 0 (ls.take (i + 1))).length : Nat) : Int) - 1).toNat = (flatB 0 (ls.take (i + 1))).length - 1 from by omega]
      conv => lhs; rw [hsplit]
      rw [List.take_append_of_le_length (by omega)]
    rw [e1, take_succ_gl ls i hi]
    have hd : isFrame (gl ls i) = true := by
      rw [List.all_eq_true] at hall; exact hall _ (gl_mem hi)
    rw [recov_cut (all_take hall _) hd (by omega), hl0]
/-- What is appended stands behind. -/
theorem append_whole {b l a : List Int} (h : rAppend b l = (a, true)) : isBytes b = true ∧ rRecover a = ((recov b).1 ++ [l], (a.length : Int), true) ∧ a.take (recov b).2 = b.take (recov b).2 ∧ (recov b).2 ≤ a.length ∧ (recov b).2 ≤ b.length := by
  unfold rAppend at h
  split at h
  · rename_i hc
    rw [Bool.and_eq_true] at hc
    split at h
    · cases h
    · rename_i h2
      injection h with e _
      obtain ⟨s1, s2, s3⟩ := recov_spec hc.1
      have hbd := recov_bd b
      have ea : a = flatB 0 ((recov b).1 ++ [l]) := by rw [flatB_snoc, Nat.zero_add, ← s2]; exact e.symm
      have hall : ((recov b).1 ++ [l]).all isFrame = true := by rw [List.all_append, s1]; simp [hc.2]
      have hal : a.length = (recov b).2 + (l.length + 2) := by rw [← e, List.length_append, frameB_len, List.length_take]; omega
      have hba : isBytes a = true := by
        unfold isBytes
        rw [ea, flatB_in _ 0 hall, ← ea, decide_eq_true (by omega)]; rfl
      refine ⟨hc.1, ?_, ?_, by omega, s3⟩
      · unfold rRecover
        rw [hba, ea, recov_flat hall (by simp; omega)]; rfl
      · rw [← e, List.take_append_of_le_length (by rw [List.length_take]; omega), List.take_take, Nat.min_self]
  · cases h
theorem runR_more (b : List Int) (f : Nat) : ∀ (out : List (List Int)) (p : Nat), ∃ T, (runR b f out p).1 = out ++ T := by
  induction f with
  | zero => intro out p; exact ⟨[], (List.append_nil _).symm⟩
  | succ f ih =>
    intro out p
    by_cases hc : p < b.length ∧ okAt b p out.length = true
    · rw [runR_go _ _ _ _ hc.1 hc.2]
      obtain ⟨T, hT⟩ := ih (out ++ [frameAt b p]) (p + (gi b p).toNat + 2)
      exact ⟨frameAt b p :: T, by rw [hT]; simp⟩
    · rw [runR_stop _ _ _ _ hc]; exact ⟨[], (List.append_nil _).symm⟩
theorem gi_take {b : List Int} {y i : Nat} (h : i < y) : gi (b.take y) i = gi b i := by
  unfold gi; rw [List.getD_eq_getElem?_getD, List.getElem?_take, if_pos h, ← List.getD_eq_getElem?_getD]
theorem runR_take (b : List Int) (y f : Nat) : ∀ (out : List (List Int)) (p : Nat), ∃ T, (runR b f out p).1 = (runR (b.take y) f out p).1 ++ T := by
  induction f with
  | zero => intro out p; exact ⟨[], (List.append_nil _).symm⟩
  | succ f ih =>
    intro out p
    by_cases hc : p < (b.take y).length ∧ okAt (b.take y) p out.length = true
    · have hk := hc.2
      unfold okAt at hk
      rw [Bool.and_eq_true, Bool.and_eq_true] at hk
      have a1 := inR_t.1 hk.1.1
      have a2 := of_decide_eq_true hk.1.2
      have a3 := eq_of_beq hk.2
      have hly : (b.take y).length ≤ y ∧ (b.take y).length ≤ b.length := by rw [List.length_take]; omega
      have e0 : gi (b.take y) p = gi b p := gi_take (by omega)
      obtain ⟨m, hm⟩ : ∃ m : Nat, gi b p = (m : Int) := ⟨(gi b p).toNat, by omega⟩
      rw [e0, hm, Int.toNat_natCast] at a2 a3
      rw [e0, hm] at a1
      have e1 : frameAt (b.take y) p = frameAt b p := by
        rw [frameAt_eq (e0.trans hm), frameAt_eq hm, List.drop_take, List.take_take, Nat.min_eq_left (by omega)]
      have e2 : gi (b.take y) (p + 1 + m) = gi b (p + 1 + m) := gi_take (by omega)
      rw [e1, e2] at a3
      have hok : okAt b p out.length = true := okAt_yes hm (by omega) (by omega) (by omega) a3
      rw [runR_go _ _ _ _ hc.1 hc.2, runR_go _ _ _ _ (by omega) hok, e0, e1]
      exact ih _ _
    · rw [runR_stop _ _ _ _ hc]; exact runR_more b (f + 1) out p
/-- A cut leaves the frames before it. -/
theorem recov_take (b : List Int) (y : Nat) : (recov (b.take y)).1.length ≤ (recov b).1.length ∧ (recov b).1.take (recov (b.take y)).1.length = (recov (b.take y)).1 := by
  obtain ⟨T, hT⟩ := runR_take b y 20 [] 0
  have hT2 : (recov b).1 = (recov (b.take y)).1 ++ T := hT
  rw [hT2, List.length_append]
  exact ⟨Nat.le_add_right _ _, by rw [List.take_append_of_le_length (Nat.le_refl _), List.take_length]⟩
end Go.Proofs.Ytmjchkaipbmjkaa
