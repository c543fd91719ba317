/- Contracts of LastVersions, in the program and in the reference. -/
import Derived.Test.YtgngnkndebkbmaaDoorVFns
import Derived.Test.YtgngnkndebkbmaaDoorMark
import Derived.Deep.DeepCutAuto
set_option linter.unusedSimpArgs false
set_option linter.unusedVariables false
namespace Go.Proofs.YtgngnkndebkbmaaDoor
open Go.RowKit

def parFrom (i : Int) : List Ver → Nat → Int
  | [], _ => -1
  | x :: l, k => if x.p = i then (k : Int) else parFrom i l (k + 1)
def idxPar (l : List Ver) (i : Int) : Int := parFrom i l 0
theorem parFrom_any (i : Int) (l : List Ver) (k : Nat) : (parFrom i l k = -1 ∧ (l.any fun x => x.p == i) = false) ∨ (0 ≤ parFrom i l k ∧ (l.any fun x => x.p == i) = true) := by
  induction l generalizing k with
  | nil => left; exact ⟨rfl, rfl⟩
  | cons x l ih =>
    unfold parFrom
    by_cases h : x.p = i
    · right; rw [if_pos h]; exact ⟨by omega, by simp [h]⟩
    · rw [if_neg h]
      rcases ih (k + 1) with ⟨h1, h2⟩ | ⟨h1, h2⟩
      · left; exact ⟨h1, by rw [List.any_cons, h2]; simp [h]⟩
      · right; exact ⟨h1, by rw [List.any_cons, h2]; simp⟩
theorem idxPar_f {l : List Ver} {i : Nat} (h : follows l i = false) : idxPar l (i : Int) = -1 := by
  rcases parFrom_any (i : Int) l 0 with ⟨h1, _⟩ | ⟨_, h2⟩
  · exact h1
  · unfold follows at h; rw [h] at h2; cases h2
theorem idxPar_t {l : List Ver} {i : Nat} (h : follows l i = true) : 0 ≤ idxPar l (i : Int) := by
  rcases parFrom_any (i : Int) l 0 with ⟨_, h2⟩ | ⟨h1, _⟩
  · unfold follows at h; rw [h] at h2; cases h2
  · exact h1
theorem drop_gv (l : List Ver) (k : Nat) (h : k < l.length) : l.drop k = gv l k :: l.drop (k + 1) := by
  rw [gv_eq h]; exact List.drop_eq_getElem_cons h
theorem lasts_no {l : List Ver} {n : Nat} (h : follows l n = true) : lasts l (n + 1) = lasts l n := by
  conv => lhs; unfold lasts
  rw [if_pos h, List.append_nil]
theorem lasts_yes {l : List Ver} {n : Nat} (h : follows l n = false) : lasts l (n + 1) = lasts l n ++ [(n : Int)] := by
  conv => lhs; unfold lasts
  rw [if_neg (by rw [h]; decide)]

theorem lastsClosure (x : Ver) (bx : Nat) (i : Int) (w : World) (hc : w.cell? ⟨bx, 0, none⟩ = some (.int .i64 i)) :
    Calls Tryd.prog 34 #[.agg #[.int .i64 x.p, .int .i64 x.k, .int .i64 x.v], .pointer (some ⟨bx, 0, none⟩)] w fun e w' => e = .returned (.bool (x.p == i)) ∧ Below w.heap.size w w' := by
  have hlt : bx < w.heap.size := World.block_lt_of_cell? w _ hc
  have hb := fun o => (Below.refl w.heap.size w).alloc (Nat.le_refl _) o
  have Hb := Lib.hid hb
  clear hb
  go_enter Tryd.func34, Tryd.ntmps34
  go_wp2_with fail
  go_ret
  exact ⟨rfl, Hb.out _⟩

set_option maxHeartbeats 1600000 in
theorem indexFunc_any (v : Value) (l : List Ver) (bx : Nat) (i : Int) (w : World) (h : VersAt w v l) (hc : w.cell? ⟨bx, 0, none⟩ = some (.int .i64 i)) :
    Calls Tryd.prog 61 #[v, .func (.func 34) #[] #[.pointer (some ⟨bx, 0, none⟩)]] w
      fun e w' => e = .returned (.int .i64 (idxPar l i)) ∧ Below w.heap.size w w' := by
  obtain ⟨A, c, rfl, hnc, hc63⟩ := h.shape
  go_enter Tryd.func61, Tryd.ntmps61
  go_wp2_with fail
  go_loopw [8] (fun s wr => ∃ k : Nat, k ≤ l.length ∧ s = .int .i64 k ∧ Hid (idxPar l i = parFrom i (l.drop k) k) ∧ Below w.heap.size w wr) (fun s _ => l.length - (intOf s).toNat)
  case atStart => exact ⟨0, Nat.zero_le _, rfl, rfl, Below.refl _ _⟩
  case round =>
    obtain ⟨k, hk, rfl, hf, hb⟩ := hrel
    by_cases hlt : k < l.length
    · obtain ⟨b, o, rfl, hc0, hc1, hc2⟩ := VersAt.at_ (h.below hb (Nat.le_refl _)) k hlt
      have hcx := Below.keepCell hb hc (Nat.le_refl _)
      have hd := Lib.hid (drop_gv l k hlt)
      cases hx : ((gv l k).p == i)
      · have hn : Hid (idxPar l i = parFrom i (l.drop (k + 1)) (k + 1)) := by
          show _ = _
          have hx2 : (gv l k).p ≠ i := by simpa using hx
          rw [hf.out, hd.out]
          conv => lhs; unfold parFrom
          rw [if_neg hx2]
        go_wp2_with (go_at_call 34; refine (lastsClosure (gv l k) bx i _ hcx).mono ?_; rintro e w1 ⟨rfl, b1⟩)
        go_roundw
        case rel => exact ⟨k + 1, by omega, by go_num, hn, hb.next (Nat.le_refl _) b1⟩
        case measure => simp [intOf]; omega
      · have hn : Hid (idxPar l i = (k : Int)) := by
          show _ = _
          have hx2 : (gv l k).p = i := by simpa using hx
          rw [hf.out, hd.out]; unfold parFrom; rw [if_pos hx2]
        go_wp2_with (go_at_call 34; refine (lastsClosure (gv l k) bx i _ hcx).mono ?_; rintro e w1 ⟨rfl, b1⟩)
        go_ret
        exact ⟨ret_int hn.out.symm, hb.next (Nat.le_refl _) b1⟩
    · obtain rfl : k = l.length := by omega
      have hn : Hid (idxPar l i = -1) := by
        show _ = _
        rw [hf.out, List.drop_length]; rfl
      go_wp2_with fail
      go_ret
      exact ⟨ret_int hn.out.symm, hb⟩
theorem containsFunc_any (v : Value) (l : List Ver) (bx : Nat) (i : Nat) (w : World) (h : VersAt w v l) (hc : w.cell? ⟨bx, 0, none⟩ = some (.int .i64 i)) :
    Calls Tryd.prog 33 #[v, .func (.func 34) #[] #[.pointer (some ⟨bx, 0, none⟩)]] w
      fun e w' => e = .returned (.bool (follows l i)) ∧ Below w.heap.size w w' := by
  obtain ⟨A, c, rfl, hnc, hc63⟩ := h.shape
  cases hx : follows l i
  · have h1 := idxPar_f hx
    have H1 := Lib.hid h1
    have h2 : idxPar l (i : Int) < 0 := by omega
    clear h1
    go_enter Tryd.func33, Tryd.ntmps33
    go_wp2_with fail
    refine (indexFunc_any _ l bx i _ h hc).mono ?_; rintro e w1 ⟨rfl, b1⟩
    go_wp2_with fail
    go_ret
    exact ⟨ret_bool (decide_eq_false (by omega)), b1⟩
  · have h1 := idxPar_t hx
    go_enter Tryd.func33, Tryd.ntmps33
    go_wp2_with fail
    refine (indexFunc_any _ l bx i _ h hc).mono ?_; rintro e w1 ⟨rfl, b1⟩
    go_wp2_with fail
    go_ret
    exact ⟨rfl, b1⟩

set_option maxHeartbeats 1600000 in
theorem implLasts (v : Value) (l : List Ver) (w : World) (h : VersAt w v l) :
    Calls Tryd.prog 7 #[v] w (FreshIntsB w (rLasts l)) := by
  obtain ⟨A, c, rfl, hnc, hc63⟩ := h.shape
  unfold rLasts
  cases hh : areVers l
  · go_enter Tryd.func7, Tryd.ntmps7
    go_wp2_with fail
    refine (areVersions_any _ l _ h).mono ?_; rintro e w1 ⟨rfl, b1⟩
    go_wp2_with fail
    go_ret2
    exact ⟨_, rfl, OwnInts.nil_ _ _, b1⟩
  · have hv := Lib.hid hh
    have hp60 := (areVers_parts hh).2.1
    go_enter Tryd.func7, Tryd.ntmps7
    go_wp2_with fail
    refine (areVersions_any _ l _ h).mono ?_; rintro e w1 ⟨rfl, b1⟩
    have h1 := h.below b1 (Nat.le_refl _)
    go_wp2_with fail
    clear hh
    go_loopw [4, 12] (fun t s wr => ∃ n : Nat, n ≤ l.length ∧ s = .int .i64 n ∧ OwnInts wr w1.heap.size t (lasts l n) ∧ Below w1.heap.size w1 wr) (fun _ s _ => l.length - (intOf s).toNat)
    case atStart => exact ⟨0, Nat.zero_le _, rfl, OwnInts.empty w1 _ (Nat.le_refl _), (Below.refl _ _).alloc (Nat.le_refl _) _⟩
    case round =>
      obtain ⟨n, hn, rfl, ho, hb⟩ := hrel
      have hll := lasts_len l n
      have h9 : (lasts l n).length + 1 ≤ 1099511627776 := by omega
      by_cases hlt : n < l.length
      · have hbA : Below wr.heap.size wr (wr.alloc (.cells #[.int .i64 n] 3)) := (Below.refl _ _).alloc (Nat.le_refl _) _
        have hA := (h1.below hb (Nat.le_refl _)).below hbA (Nat.le_refl _)
        have hcb : (wr.alloc (.cells #[.int .i64 n] 3)).cell? ⟨wr.heap.size, 0, none⟩ = some (.int .i64 n) := by go_simp
        have hoA := OwnInts.below ho hbA (Nat.le_refl _)
        cases hx : follows l n
        · have he := Lib.hid (lasts_yes hx)
          go_wp2_with fail
          refine (containsFunc_any _ l wr.heap.size n _ hA hcb).mono ?_; rintro e w2 ⟨rfl, b2⟩
          have hc2 := Below.keepCell b2 hcb (Nat.le_refl _)
          have ho2 := OwnInts.below hoA b2 (Nat.le_refl _)
          have hb2 := (hb.trans (hbA.mono hb.size)).next (Nat.le_refl _) b2
          go_wp2_with (at_builtin; refine wp_app_int _ rfl _ _ rfl w1.heap.size _ (lasts l n) rfl ho2 (n : Int) _ rfl rfl h9 hb2.size ?_; intro v1 w3 ho3 hg3)
          go_roundw
          case rel => exact ⟨n + 1, by omega, by go_num, he.out ▸ ho3, hb2.trans hg3.below⟩
          case measure => simp [intOf]; omega
        · have he := Lib.hid (lasts_no hx)
          go_wp2_with fail
          refine (containsFunc_any _ l wr.heap.size n _ hA hcb).mono ?_; rintro e w2 ⟨rfl, b2⟩
          have ho2 := OwnInts.below hoA b2 (Nat.le_refl _)
          have hb2 := (hb.trans (hbA.mono hb.size)).next (Nat.le_refl _) b2
          go_wp2_with fail
          go_roundw
          case rel => exact ⟨n + 1, by omega, by go_num, he.out ▸ ho2, hb2⟩
          case measure => simp [intOf]; omega
      · obtain rfl : n = l.length := by omega
        go_wp2_with fail
        go_ret2
        exact ⟨_, rfl, ho.base b1.size, b1.next (Nat.le_refl _) hb⟩

/-- Which versions are parents, of those from the second on. -/
def boolRec : Rec Bool := ⟨1, 4, fun b => [.bool b], fun _ => rfl, by omega, fun _ u hu => by simp at hu; rcases hu with rfl <;> rfl, false⟩
theorem info_bool : (Tryd.prog.info? 4).map (fun i => (i.zero, i.size, i.bytes)) = some (some (.bool false), 1, 1) := by kernel_rfl
def mark1 (s : List Bool) (x : Ver) : List Bool := s.set x.p.toNat true
def flw (l : List Ver) (k : Nat) : List Bool := ((l.drop 1).take k).foldl mark1 (List.replicate l.length false)
theorem foldl_mark_len (m : List Ver) (s : List Bool) : (m.foldl mark1 s).length = s.length := by
  induction m generalizing s with
  | nil => rfl
  | cons x m ih => rw [List.foldl_cons, ih]; unfold mark1; rw [List.length_set]
theorem flw_len (l : List Ver) (k : Nat) : (flw l k).length = l.length := by unfold flw; rw [foldl_mark_len, List.length_replicate]
theorem flw_succ (l : List Ver) (k : Nat) (h : k + 1 < l.length) : flw l (k + 1) = (flw l k).set (gv l (k + 1)).p.toNat true := by
  unfold flw
  have hk : k < (l.drop 1).length := by rw [List.length_drop]; omega
  rw [List.take_succ_eq_append_getElem hk, List.foldl_append, List.getElem_drop]
  have e : gv l (k + 1) = l[1 + k] := by rw [gv_eq h]; congr 1; omega
  rw [e]; rfl
theorem foldl_mark_at (m : List Ver) (s : List Bool) (i : Nat) (hi : i < s.length) (hm : ∀ x ∈ m, 0 ≤ x.p) : (m.foldl mark1 s)[i]? = some (s[i] || m.any fun x => x.p == (i : Int)) := by
  induction m generalizing s with
  | nil => simp [hi]
  | cons x m ih =>
    have hx := hm x (by simp)
    rw [List.foldl_cons, ih (mark1 s x) (by unfold mark1; rw [List.length_set]; exact hi) (fun y hy => hm y (by simp [hy]))]
    unfold mark1
    rw [List.getElem_set, List.any_cons]
    by_cases e : x.p.toNat = i
    · have : x.p = (i : Int) := by omega
      simp [this]
    · have : (x.p == (i : Int)) = false := by simp; omega
      rw [if_neg e, this]
      simp
theorem flw_all {l : List Ver} (h : areVers l = true) (i : Nat) (hi : i < l.length) : gx boolRec (flw l (l.length - 1)) i = follows l i := by
  have h1 := areVers_parts h
  unfold gx flw
  rw [List.take_of_length_le (by rw [List.length_drop]; omega), List.getD_eq_getElem?_getD, foldl_mark_at _ _ i (by rw [List.length_replicate]; exact hi) ?_]
  · have e : l = gv l 0 :: l.drop 1 := by have := drop_gv l 0 (by omega); simpa using this
    simp only [List.getElem_replicate, Option.getD_some, Bool.false_or]
    unfold follows
    conv => rhs; rw [e]
    rw [List.any_cons, h1.2.2.1]
    have : ((-1 : Int) == (i : Int)) = false := by rw [beq_eq_false_iff_ne]; omega
    rw [this]; rfl
  · intro x hx
    obtain ⟨k, hk, rfl⟩ := List.getElem_of_mem hx
    rw [List.getElem_drop]
    rw [List.length_drop] at hk
    have := ver_at h (1 + k) (by omega)
    rw [gv_eq (by omega)] at this
    exact this.2.2.1 (by omega)

set_option maxRecDepth 100000 in
set_option maxHeartbeats 3200000 in
theorem specLasts (v : Value) (l : List Ver) (w : World) (h : VersAt w v l) :
    Calls Tryd.prog 8 #[v] w (FreshIntsB w (rLasts l)) := by
  obtain ⟨A, c, rfl, hnc, hc63⟩ := h.shape
  unfold rLasts
  cases hh : areVers l
  · go_enter Tryd.func8, Tryd.ntmps8
    go_wp2_with fail
    refine (vrGood_any _ l _ h).mono ?_; rintro e w1 ⟨rfl, b1⟩
    go_wp2_with fail
    go_ret2
    exact ⟨_, rfl, OwnInts.nil_ _ _, b1⟩
  · have hv := Lib.hid hh
    have hp60 := (areVers_parts hh).2.1
    have hp1 := (areVers_parts hh).1
    obtain ⟨i0, hi, hz0, hz1, hz2⟩ := info_parts info_bool
    go_enter Tryd.func8, Tryd.ntmps8
    go_wp2_with fail
    refine (vrGood_any _ l _ h).mono ?_; rintro e w1 ⟨rfl, b1⟩
    have h1 := h.below b1 (Nat.le_refl _)
    go_upto_region 4 with (at_make; refine wpList_make_full _ rfl _ _ 62 rfl w1.heap.size 4 i0 _ 1 Tryd.underlying62 hi hz0 hz1 _ _ _ _ l.length rfl rfl rfl rfl (by rw [hz2]; omega) (by unfold maxLen; omega) (Nat.le_refl _) ?_; intro w2 hown hgrow)
    have ho2 : OwnRow boolRec w2 w1.heap.size (.slice (some ⟨w1.heap.size, 0, none⟩) l.length l.length) (flw l 0) := by
      have e := made_rcells boolRec _ rfl l.length
      unfold OwnRow
      rw [flw_len]
      have e2 : flw l 0 = List.replicate l.length boolRec.d := rfl
      rw [e2, ← e]
      exact hown
    have hb2 : Below w1.heap.size w1 w2 := (Below.refl _ _).grown hgrow (Nat.le_refl _) (fun k hk => by cases hk)
    clear hown hgrow
    obtain ⟨b, o, rfl, _, _, _⟩ := VersAt.at_ h1 0 (by omega)
    have hcut0 := RowAt.cut (R := verRec) h1 1 (l.length - 1) (by omega)
    rw [List.take_of_length_le (by rw [List.length_drop]; omega)] at hcut0
    have e3 : verRec.sz = 3 := rfl
    rw [e3] at hcut0
    clear e3
    have hdl : (l.drop 1).length = l.length - 1 := List.length_drop
    have Hdl := Lib.hid hdl
    clear hdl
    by_cases hc1 : c = 1
    case' pos =>
      have hcut : RowAt verRec w1 (.slice (some ⟨b, o, none⟩) (l.length - 1) (c - 1)) (l.drop 1) := by rw [if_pos hc1] at hcut0; exact hcut0
    case' neg =>
      have hcut : RowAt verRec w1 (.slice (some ⟨b, o + 3, none⟩) (l.length - 1) (c - 1)) (l.drop 1) := by rw [if_neg hc1] at hcut0; simpa [Addr.add_lit] using hcut0
    all_goals
      clear hcut0
      go_wp2_with fail
      clear hh
      go_loopw [19] (fun s wr => ∃ k : Nat, k ≤ l.length - 1 ∧ s = .int .i64 k ∧ OwnRow boolRec wr w1.heap.size (.slice (some ⟨w1.heap.size, 0, none⟩) l.length l.length) (flw l k) ∧ Below w1.heap.size w1 wr) (fun s _ => l.length - (intOf s).toNat)
      case atStart => exact ⟨0, Nat.zero_le _, rfl, ho2, hb2⟩
      case round =>
        obtain ⟨k, hk, rfl, ho, hb⟩ := hrel
        by_cases hlt : k < l.length - 1
        · first
            | (exfalso; omega)
            | (
                  have hk1 : k + 1 < l.length := by omega
                  obtain ⟨b', o', he, hc0, hcK, hcV⟩ := VersAt.at_ (show VersAt wr _ _ from RowAt.below hcut hb (Nat.le_refl _)) k (by have := Hdl.out; omega)
                  injection he with he
                  injection he with e1 e2
                  subst e1 e2
                  have hgd : gv (l.drop 1) k = gv l (k + 1) := by simp [gv, List.getD]
                  rw [hgd] at hc0 hcK hcV
                  clear hgd
                  have hv1 := ver_at hv.out (k + 1) hk1
                  obtain ⟨q, hq⟩ := Int.eq_ofNat_of_zero_le (hv1.2.2.1 (by omega))
                  have hql : q < l.length := by omega
                  have hfs := flw_succ l k hk1
                  rw [hq] at hc0 hfs
                  have hbA := fun x : Obj => ((Below.refl wr.heap.size wr).alloc (Nat.le_refl _) x)
                  have hoA := OwnRow.below ho (hbA (.cells #[.int .i64 q, .int .i64 (gv l (k + 1)).k, .int .i64 (gv l (k + 1)).v] 38)) (Nat.le_refl _)
                  have hcc := OwnRow.cell hoA q (by rw [flw_len]; exact hql) 0 (by show 0 < 1; omega)
                  have hcc2 : (wr.alloc (.cells #[.int .i64 q, .int .i64 (gv l (k + 1)).k, .int .i64 (gv l (k + 1)).v] 38)).cell? ⟨w1.heap.size, q, none⟩ = some (.bool (gx boolRec (flw l k) q)) := by
                    have e9 : q * boolRec.sz + 0 = q := by show q * 1 + 0 = q; omega
                    rw [e9] at hcc; exact hcc
                  have hfz := OwnRow.free hoA q
                  have hst := OwnRow.set hoA q true (by rw [flw_len]; exact hql)
                  have hst1 : OwnRow boolRec ((wr.alloc (.cells #[.int .i64 q, .int .i64 (gv l (k + 1)).k, .int .i64 (gv l (k + 1)).v] 38)).setCell ⟨w1.heap.size, q, none⟩ (.bool true)) w1.heap.size (.slice (some ⟨w1.heap.size, 0, none⟩) l.length l.length) (flw l (k + 1)) := by
                    have e9 : q * boolRec.sz = q := by show q * 1 = q; omega
                    have := hst.1
                    rw [e9] at this
                    rw [hfs]
                    exact this
                  have Hst := Lib.hid hst1
                  have Hb := Lib.hid (Below.setCell (p := ⟨w1.heap.size, q, none⟩) (hb.alloc hb.size (.cells #[.int .i64 q, .int .i64 (gv l (k + 1)).k, .int .i64 (gv l (k + 1)).v] 38)) (by exact Nat.le_refl _) (.bool true))
                  clear hst hst1 hcc hoA hfs hq hbA hv1
                  go_wp2_with fail
                  go_roundw
                  case rel => exact ⟨k + 1, by omega, by go_num, Hst.out, Hb.out⟩
                  case measure => simp [intOf]; omega)
        · obtain rfl : k = l.length - 1 := by omega
          have hb3 := hb
          have ho3 := ho
          clear ho hb
          obtain ⟨w3, rfl⟩ : ∃ w3 : World, w3 = wr := ⟨_, rfl⟩
          go_wp2_with fail
          go_loopw [7, 30] (fun t s wr => ∃ n : Nat, n ≤ l.length ∧ s = .int .i64 n ∧ OwnInts wr w3.heap.size t (lasts l n) ∧ Below w3.heap.size w3 wr) (fun _ s _ => l.length - (intOf s).toNat)
          case atStart => exact ⟨0, Nat.zero_le _, rfl, OwnInts.nil_ w3 _, Below.refl _ _⟩
          case round =>
            obtain ⟨n, hn, rfl, ho, hb⟩ := hrel
            have hll := lasts_len l n
            have h9 : (lasts l n).length + 1 ≤ 1099511627776 := by omega
            by_cases hlt2 : n < l.length
            · have hoB := OwnRow.below ho3 hb (Nat.le_refl _)
              have hcc := OwnRow.cell hoB n (by rw [flw_len]; exact hlt2) 0 (by show 0 < 1; omega)
              have hcc2 : wr.cell? ⟨w1.heap.size, n, none⟩ = some (.bool (follows l n)) := by
                have e9 : n * boolRec.sz + 0 = n := by show n * 1 + 0 = n; omega
                rw [e9, flw_all hv.out n hlt2] at hcc; exact hcc
              clear hcc
              cases hx : follows l n
              · have he := Lib.hid (lasts_yes hx)
                go_wp2_with (at_builtin; refine wp_app_int _ rfl _ _ rfl w3.heap.size _ (lasts l n) rfl ho (n : Int) _ rfl rfl h9 hb.size ?_; intro v1 w4 ho4 hg4)
                go_roundw
                case rel => exact ⟨n + 1, by omega, by go_num, he.out ▸ ho4, hb.trans hg4.below⟩
                case measure => simp [intOf]; omega
              · have he := Lib.hid (lasts_no hx)
                go_wp2_with fail
                go_roundw
                case rel => exact ⟨n + 1, by omega, by go_num, he.out ▸ ho, hb⟩
                case measure => simp [intOf]; omega
            · obtain rfl : n = l.length := by omega
              go_wp2_with fail
              go_ret2
              exact ⟨_, rfl, ho.base (by have := b1.size; have := hb3.size; omega), (b1.next (Nat.le_refl _) hb3).next (Nat.le_refl _) hb⟩
end Go.Proofs.YtgngnkndebkbmaaDoor
