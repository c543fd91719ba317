/- An integer put into strictly increasing ones: plain part, and the contract of l1Put. -/
import Derived.Test.YtnkbopnmfoplfaaHelp
import Derived.Test.YtnkbopnmfoplfaaIdxI
import Derived.Test.YtnkbopnmfoplfaaRec
import Derived.Test.YtnkbopnmfoplfaaMark
import Derived.Deep.DeepCutAuto
set_option linter.unusedSimpArgs false
set_option linter.unusedVariables false
namespace Go.Proofs.Ytnkbopnmfoplfaa
open Go.RowKit

/-- How many integers at the head are less. -/
def lead (n : Int) : List Int → Nat
  | [] => 0
  | x :: l => if x < n then lead n l + 1 else 0
theorem lead_le (n : Int) (l : List Int) : lead n l ≤ l.length := by
  induction l with
  | nil => exact Nat.le_refl _
  | cons x l ih => unfold lead; split <;> simp <;> omega
theorem lead_step {n : Int} {l : List Int} {k : Nat} (h : k < l.length) (hx : gi l k < n) : lead n (l.drop k) = lead n (l.drop (k + 1)) + 1 := by
  rw [drop_gi l k h]
  conv => lhs; unfold lead
  rw [if_pos hx]
theorem lead_stop {n : Int} {l : List Int} {k : Nat} (h : k < l.length) (hx : n ≤ gi l k) : lead n (l.drop k) = 0 := by
  rw [drop_gi l k h]
  unfold lead
  rw [if_neg (by omega)]
def putI (l : List Int) (n : Int) : List Int :=
  if lead n l < l.length ∧ gi l (lead n l) = n then l else (l.take (lead n l) ++ [n]) ++ l.drop (lead n l)
theorem putI_len (l : List Int) (n : Int) : (putI l n).length ≤ l.length + 1 := by
  unfold putI
  split
  · omega
  · have := lead_le n l
    simp; omega
theorem putI_nil (n : Int) : putI [] n = [n] := by simp [putI, lead]
theorem putI_eq (l : List Int) (n : Int) : putI (n :: l) n = n :: l := by
  have : lead n (n :: l) = 0 := by unfold lead; rw [if_neg (by omega)]
  unfold putI
  rw [this]; simp [gi]
theorem putI_lt {x n : Int} {l : List Int} (h : x < n) : putI (x :: l) n = x :: putI l n := by
  have e : lead n (x :: l) = lead n l + 1 := by
    conv => lhs; unfold lead
    rw [if_pos h]
  have g : gi (x :: l) (lead n l + 1) = gi l (lead n l) := by simp [gi]
  unfold putI
  rw [e, g]
  by_cases h9 : lead n l < l.length ∧ gi l (lead n l) = n
  · rw [if_pos h9, if_pos ⟨by simp; omega, h9.2⟩]
  · rw [if_neg h9, if_neg (fun h8 => h9 ⟨by have := h8.1; simp at this; omega, h8.2⟩)]
    simp
theorem putI_gt {n : Int} {l : List Int} (h : ∀ y ∈ l, n < y) : putI l n = n :: l := by
  cases l with
  | nil => exact putI_nil n
  | cons x l =>
    have hx := h x (by simp)
    have e : lead n (x :: l) = 0 := by unfold lead; rw [if_neg (by omega)]
    unfold putI
    rw [e, if_neg]
    · simp
    · intro h9
      have := h9.2
      simp [gi] at this
      omega
/-- Into those of an increasing row that are chosen. -/
theorem putI_filter (R : List Int) (p : Int → Bool) (n : Int) (hs : R.Pairwise (· < ·)) (hn : n ∈ R) : putI (R.filter p) n = R.filter (fun x => p x || x == n) := by
  induction R with
  | nil => cases hn
  | cons x R ih =>
    rw [List.pairwise_cons] at hs
    obtain ⟨h1, h2⟩ := hs
    by_cases e : x = n
    · subst e
      have hR : R.filter (fun y => p y || y == x) = R.filter p := by
        apply List.filter_congr
        intro y hy
        have := h1 y hy
        have : (y == x) = false := by simp; omega
        rw [this, Bool.or_false]
      have e1 : (x :: R).filter (fun y => p y || y == x) = x :: R.filter p := by
        rw [List.filter_cons, if_pos (by simp), hR]
      rw [e1]
      cases hp : p x
      · rw [List.filter_cons, if_neg (by rw [hp]; decide)]
        exact putI_gt (fun y hy => h1 y ((List.mem_filter.1 hy).1))
      · rw [List.filter_cons, if_pos hp]
        exact putI_eq _ _
    · have hn2 : n ∈ R := by
        rcases List.mem_cons.1 hn with h | h
        · exact absurd h.symm e
        · exact h
      have hlt := h1 n hn2
      have := ih h2 hn2
      have hb : (x == n) = false := by simp; omega
      cases hp : p x
      · rw [List.filter_cons, if_neg (by rw [hp]; decide), List.filter_cons, if_neg (by rw [hp, hb]; decide)]
        exact this
      · rw [List.filter_cons, if_pos hp, List.filter_cons, if_pos (by rw [hp]; rfl), putI_lt hlt, this]
def rng (a n : Nat) : List Int := (List.range n).map fun (k : Nat) => ((a + k : Nat) : Int)
theorem rng_sorted (a n : Nat) : (rng a n).Pairwise (· < ·) := by
  unfold rng
  rw [List.pairwise_map]
  exact List.Pairwise.imp (fun h => by omega) List.pairwise_lt_range
theorem mem_rng {a n : Nat} {x : Int} : x ∈ rng a n ↔ (a : Int) ≤ x ∧ x < (a + n : Nat) := by
  unfold rng
  rw [List.mem_map]
  constructor
  · rintro ⟨k, hk, rfl⟩
    have := List.mem_range.1 hk
    omega
  · rintro ⟨h1, h2⟩
    exact ⟨(x - a).toNat, List.mem_range.2 (by omega), by omega⟩
theorem rng_succ (a n : Nat) : rng a (n + 1) = rng a n ++ [((a + n : Nat) : Int)] := by simp [rng, List.range_succ]
theorem rng_len (a n : Nat) : (rng a n).length = n := by simp [rng]
def PutPost (w : World) (base : Nat) (l : List Int) (e : Ending) (w' : World) : Prop := ∃ v, e = .returned v ∧ OwnInts w' base v l ∧ Below w.heap.size w w'
theorem PutPost.ends {w : World} {base : Nat} {l : List Int} {e : Ending} {w' : World} (h : PutPost w base l e w') : ∃ v, e = .returned v ∧ OwnInts w' base v l ∧ Below w.heap.size w w' := h
set_option maxHeartbeats 3200000 in
theorem l1Put_any (v : Value) (l : List Int) (n : Int) (base : Nat) (w : World) (h : OwnInts w base v l) (hb0 : base ≤ w.heap.size) (hl : l.length ≤ 1000) :
    Calls Try.prog 35 #[v, .int .i64 n] w (PutPost w base (putI l n)) := by
  have hr := h.reads
  obtain ⟨A, c, rfl, hnc, hc63⟩ := hr.shape
  go_enter Try.func35, Try.ntmps35
  go_wp2_with fail
  go_loop [5] (fun i => ∃ k : Nat, k ≤ l.length ∧ i = .int .i64 k ∧ Hid (lead n l = k + lead n (l.drop k))) (fun i => l.length - (intOf i).toNat)
  case atStart => exact ⟨0, Nat.zero_le _, rfl, by show _ = _; simp⟩
  case round =>
    obtain ⟨k, hk, rfl, hf⟩ := hrel
    by_cases hlt : k < l.length
    · obtain ⟨b, o, rfl, hc⟩ := IntsAt.at_ hr k hlt
      by_cases hx : gi l k < n
      · have hn : Hid (lead n l = (k + 1) + lead n (l.drop (k + 1))) := by
          show _ = _
          rw [hf.out, lead_step hlt hx]; omega
        go_wp2_with fail
        go_round
        case rel => exact ⟨k + 1, by omega, by go_num, hn⟩
        case measure => simp [intOf]; omega
      · have hx2 : n ≤ gi l k := by omega
        have hL : Hid (lead n l = k) := by
          show _ = _
          rw [hf.out, lead_stop hlt hx2]; rfl
        cases q : (gi l k == n)
        case true =>
          have hp : Hid (putI l n = l) := by
            show _ = _
            unfold putI
            rw [hL.out, if_pos ⟨hlt, by simpa using q⟩]
          go_wp2_with fail
          go_ret
          exact ⟨_, rfl, by rw [hp.out]; exact h, Below.refl _ _⟩
        case false =>
          have hp : Hid (putI l n = (l.take k ++ [n]) ++ l.drop k) := by
            show _ = _
            unfold putI
            rw [hL.out, if_neg (fun h9 => by rw [h9.2] at q; simp at q)]
          have hck : c ≠ k := by omega
          have hO := OwnInts.empty w w.heap.size (Nat.le_refl _)
          have hE : Below w.heap.size w (w.alloc (.cells #[] 3)) := (Below.refl _ _).alloc (Nat.le_refl _) _
          have hT := (IntsAt.take hr k hk).below hE (Nat.le_refl _)
          have hD : IntsAt w (.slice (some ⟨b, o + k, none⟩) (l.length - k) (c - k)) (l.drop k) := by
            have := IntsAt.cut hr k (l.length - k) (by omega)
            rw [if_neg hck, List.take_of_length_le (by rw [List.length_drop]; omega)] at this
            simpa [Addr.add_lit] using this
          have n1 : ([] : List Int).length + (l.take k).length ≤ 1099511627776 := by simp <;> omega
          have n2 : (([] : List Int) ++ l.take k).length + 1 ≤ 1099511627776 := by simp <;> omega
          have n3 : (([] : List Int) ++ l.take k ++ [n]).length + (l.drop k).length ≤ 1099511627776 := by simp <;> omega
          have N3 := Lib.hid n3
          clear n3
          go_upto_region 7 with (at_builtin; refine wp_app_ints _ rfl _ _ (by rfl) w.heap.size _ ([]) (by rfl) hO _ (l.take k) (by rfl) hT n1 hE.size ?_; intro v1 w1 o1 g1)
          have B1 := hE.trans g1.below
          have s1 := B1.size
          clear hT hO
          go_upto_region 8 with (at_builtin; refine wp_app_int _ rfl _ _ rfl w.heap.size _ ([] ++ l.take k) rfl o1 n _ rfl (by simp) n2 s1 ?_; intro v2 w2 o2 g2)
          have B2 := B1.trans g2.below
          have s2 := B2.size
          have hD2 := hD.below B2 (Nat.le_refl _)
          clear o1
          go_wp2_with (at_builtin; refine wp_app_ints _ rfl _ _ rfl w.heap.size _ ([] ++ l.take k ++ [n]) rfl o2 _ (l.drop k) rfl hD2 N3.out s2 ?_; intro v3 w3 o3 g3)
          have o4 : Hid (OwnInts w3 base v3 (l.take k ++ [n] ++ l.drop k)) := ownsRow_lo o3 hb0
          clear o3 o2
          go_wp2_with fail
          go_ret
          exact ⟨_, rfl, by rw [hp.out]; exact o4.out, B2.trans g3.below⟩
    · obtain rfl : k = l.length := by omega
      have hp : Hid (putI l n = (l ++ [n]) ++ []) := by
        show _ = _
        have hL : lead n l = l.length := by rw [hf.out, List.drop_length]; rfl
        unfold putI
        rw [hL, if_neg (fun h9 => by omega), List.take_length, List.drop_length]
      clear hf
      cases A with
      | none =>
        have hz : l.length = 0 ∧ c = 0 := by
          obtain ⟨_, A', c', he, _, _, h3, _⟩ := hr
          injection he with e1 e2 e3
          subst e1 e3
          exact h3 rfl
        obtain ⟨hz1, rfl⟩ := hz
        obtain rfl : l = [] := List.eq_nil_of_length_eq_zero hz1
        simp only [List.length_nil] at *
        have hO := OwnInts.empty w w.heap.size (Nat.le_refl _)
        have hE : Below w.heap.size w (w.alloc (.cells #[] 3)) := (Below.refl _ _).alloc (Nat.le_refl _) _
        have hT := (IntsAt.take hr 0 (Nat.le_refl _)).below hE (Nat.le_refl _)
        have hD : IntsAt w (.slice none 0 0) (([] : List Int)) := by
          exact IntsAt.below h.reads (Below.refl _ _) (Nat.le_refl _)
        have n1 : ([] : List Int).length + (([] : List Int)).length ≤ 1099511627776 := by simp <;> omega
        have n2 : (([] : List Int) ++ ([] : List Int)).length + 1 ≤ 1099511627776 := by simp <;> omega
        have n3 : (([] : List Int) ++ ([] : List Int) ++ [n]).length + (([] : List Int)).length ≤ 1099511627776 := by simp <;> omega
        have N3 := Lib.hid n3
        clear n3
        go_upto_region 7 with (at_builtin; refine wp_app_ints _ rfl _ _ (by rfl) w.heap.size _ ([]) (by rfl) hO _ (([] : List Int)) (by rfl) hT n1 hE.size ?_; intro v1 w1 o1 g1)
        have B1 := hE.trans g1.below
        have s1 := B1.size
        clear hT hO
        go_upto_region 8 with (at_builtin; refine wp_app_int _ rfl _ _ rfl w.heap.size _ ([] ++ ([] : List Int)) rfl o1 n _ rfl (by simp) n2 s1 ?_; intro v2 w2 o2 g2)
        have B2 := B1.trans g2.below
        have s2 := B2.size
        have hD2 := hD.below B2 (Nat.le_refl _)
        clear o1
        go_wp2_with (at_builtin; refine wp_app_ints _ rfl _ _ rfl w.heap.size _ ([] ++ ([] : List Int) ++ [n]) rfl o2 _ (([] : List Int)) rfl hD2 N3.out s2 ?_; intro v3 w3 o3 g3)
        have o4 : Hid (OwnInts w3 base v3 (([] : List Int) ++ [n] ++ ([] : List Int))) := ownsRow_lo o3 hb0
        clear o3 o2
        go_wp2_with fail
        go_ret
        exact ⟨_, rfl, by rw [hp.out]; exact o4.out, B2.trans g3.below⟩
      | some ad =>
        have hg : ∃ g, ad = ⟨g, 0, none⟩ := by
          rcases h.2 with ⟨h9, _⟩ | ⟨g, cap, cur, he, _⟩
          · cases h9
          · injection he with he _ _
            injection he with he
            exact ⟨g, he⟩
        obtain ⟨g, rfl⟩ := hg
        clear hlt hk
        by_cases hck : c = l.length
        case pos =>
          obtain rfl : c = l.length := hck
          have hO := OwnInts.empty w w.heap.size (Nat.le_refl _)
          have hE : Below w.heap.size w (w.alloc (.cells #[] 3)) := (Below.refl _ _).alloc (Nat.le_refl _) _
          have hT := (hr).below hE (Nat.le_refl _)
          have hD : IntsAt w (.slice (some ⟨g, 0, none⟩) 0 0) (([] : List Int)) := by
            exact ⟨rfl, _, _, rfl, Nat.zero_le _, by unfold maxLen; omega, (fun h9 => by cases h9), fun h9 => absurd h9 (by simp)⟩
          have n1 : ([] : List Int).length + (l).length ≤ 1099511627776 := by simp <;> omega
          have n2 : (([] : List Int) ++ l).length + 1 ≤ 1099511627776 := by simp <;> omega
          have n3 : (([] : List Int) ++ l ++ [n]).length + (([] : List Int)).length ≤ 1099511627776 := by simp <;> omega
          have N3 := Lib.hid n3
          clear n3
          go_upto_region 7 with (at_builtin; refine wp_app_ints _ rfl _ _ (by rfl) w.heap.size _ ([]) (by rfl) hO _ (l) (by rfl) hT n1 hE.size ?_; intro v1 w1 o1 g1)
          have B1 := hE.trans g1.below
          have s1 := B1.size
          clear hT hO
          go_upto_region 8 with (at_builtin; refine wp_app_int _ rfl _ _ rfl w.heap.size _ ([] ++ l) rfl o1 n _ rfl (by simp) n2 s1 ?_; intro v2 w2 o2 g2)
          have B2 := B1.trans g2.below
          have s2 := B2.size
          have hD2 := hD.below B2 (Nat.le_refl _)
          clear o1
          go_wp2_with (at_builtin; refine wp_app_ints _ rfl _ _ rfl w.heap.size _ ([] ++ l ++ [n]) rfl o2 _ (([] : List Int)) rfl hD2 N3.out s2 ?_; intro v3 w3 o3 g3)
          have o4 : Hid (OwnInts w3 base v3 (l ++ [n] ++ ([] : List Int))) := ownsRow_lo o3 hb0
          clear o3 o2
          go_wp2_with fail
          go_ret
          exact ⟨_, rfl, by rw [hp.out]; exact o4.out, B2.trans g3.below⟩
        case neg =>
          have hO := OwnInts.empty w w.heap.size (Nat.le_refl _)
          have hE : Below w.heap.size w (w.alloc (.cells #[] 3)) := (Below.refl _ _).alloc (Nat.le_refl _) _
          have hT := (hr).below hE (Nat.le_refl _)
          have hD : IntsAt w (.slice (some ⟨g, l.length, none⟩) 0 (c - l.length)) (([] : List Int)) := by
            exact ⟨rfl, _, _, rfl, Nat.zero_le _, by unfold maxLen; omega, (fun h9 => by cases h9), fun h9 => absurd h9 (by simp)⟩
          have n1 : ([] : List Int).length + (l).length ≤ 1099511627776 := by simp <;> omega
          have n2 : (([] : List Int) ++ l).length + 1 ≤ 1099511627776 := by simp <;> omega
          have n3 : (([] : List Int) ++ l ++ [n]).length + (([] : List Int)).length ≤ 1099511627776 := by simp <;> omega
          have N3 := Lib.hid n3
          clear n3
          go_upto_region 7 with (at_builtin; refine wp_app_ints _ rfl _ _ (by rfl) w.heap.size _ ([]) (by rfl) hO _ (l) (by rfl) hT n1 hE.size ?_; intro v1 w1 o1 g1)
          have B1 := hE.trans g1.below
          have s1 := B1.size
          clear hT hO
          go_upto_region 8 with (at_builtin; refine wp_app_int _ rfl _ _ rfl w.heap.size _ ([] ++ l) rfl o1 n _ rfl (by simp) n2 s1 ?_; intro v2 w2 o2 g2)
          have B2 := B1.trans g2.below
          have s2 := B2.size
          have hD2 := hD.below B2 (Nat.le_refl _)
          clear o1
          go_wp2_with (at_builtin; refine wp_app_ints _ rfl _ _ rfl w.heap.size _ ([] ++ l ++ [n]) rfl o2 _ (([] : List Int)) rfl hD2 N3.out s2 ?_; intro v3 w3 o3 g3)
          have o4 : Hid (OwnInts w3 base v3 (l ++ [n] ++ ([] : List Int))) := ownsRow_lo o3 hb0
          clear o3 o2
          go_wp2_with fail
          go_ret
          exact ⟨_, rfl, by rw [hp.out]; exact o4.out, B2.trans g3.below⟩
end Go.Proofs.Ytnkbopnmfoplfaa
