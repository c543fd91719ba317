/- The draw of a matching: it lies in memory. -/
import Derived.Test.YtgcgkpmjahgmnaaDrawCa
import Derived.Test.YtgcgkpmjahgmnaaHelpC
import Derived.Deep.RegionLaw
set_option linter.unusedSimpArgs false
set_option linter.unusedVariables false
namespace Go.Proofs.Ytgcgkpmjahgmnaa
open Go.RowKit Go.Sort

/-- Integers are drawn: they lie in memory of the call's own, the cursor goes on. -/
def FreshIC (w : World) (g : Nat) (v : Value) (code : List Nat) (Q : List Int → Nat → Prop) (e : Ending) (w' : World) : Prop :=
  ∃ (u : Value) (l : List Int) (n' : Nat), e = .returned u ∧ OwnInts w' w.heap.size u l ∧ CurAt w' g v code n' ∧ Apg g w w' ∧ Q l n'
def NilOr (t : Value) (k : Nat) : Prop := k = 0 → t = .slice none 0 0
theorem OwnInts.lit9 {w : World} {lo g n c : Nat} {l : List Int} (h : OwnInts w lo (.slice (some ⟨g, 0, none⟩) n c) l) (k : Nat) (hk : k < l.length) : (∃ x : Int, w.cell? ⟨g, k, none⟩ = some (.int .i64 x)) ∧ w.frozen? ⟨g, k, none⟩ = false := by
  have hn : n = l.length := by
    obtain ⟨A, c', he, _⟩ := Sl.shape (OwnInts.reads h)
    injection he
  subst hn
  refine ⟨⟨gi l k, ?_⟩, World.ownsRow.frozenAt h k⟩
  have h1 : w.cell? ⟨g, k, none⟩ = (ints l)[k]? := World.ownsRow.cellAt (n := l.length) h k (by omega)
  rw [h1]
  unfold ints
  rw [List.getElem?_map, List.getElem?_eq_getElem hk, gi_eq hk]
  rfl
theorem OwnInts.put9 {w : World} {lo g n c : Nat} {l : List Int} (h : OwnInts w lo (.slice (some ⟨g, 0, none⟩) n c) l) (k : Nat) (y : Int) : OwnInts (w.setCell ⟨g, k, none⟩ (.int .i64 y)) lo (.slice (some ⟨g, 0, none⟩) n c) (l.set k y) := by
  have hn : n = l.length := by
    obtain ⟨A, c', he, _⟩ := Sl.shape (OwnInts.reads h)
    injection he
  subst hn
  have := (World.ownsRow.stored h k (.int .i64 y)).1
  unfold OwnInts
  have e : (ints l).set k (.int .i64 y) = ints (l.set k y) := by unfold ints; rw [List.map_set]
  rw [List.length_set, ← e]
  exact this
set_option maxRecDepth 100000 in
set_option maxHeartbeats 12800000 in
theorem matching_any (g n : Nat) (v : Value) (code : List Nat) (N : Nat) (hN : N ≤ 13) (w : World) (h : CurAt w g v code n) (hn : n ≤ 4611686018390000000) :
    Calls Try.prog 77 #[.pointer (some ⟨g, 0, none⟩), .int .i64 (N : Int)] w (FreshIC w g v code fun l n' => l.length = N ∧ n ≤ n' ∧ n' ≤ n + 100) := by
  have hg := h.lt
  go_enter Try.func77, Try.ntmps77
  go_wp2_with fail
  go_loopg [5, 6] (N + 1) (fun gk t i wr => ∃ (k q : Nat) (l : List Int), k ≤ N ∧ N + 1 ≤ k + gk ∧ i = .int .i64 k ∧ l.length = k ∧ NilOr t k ∧ OwnInts wr w.heap.size t l ∧ CurAt wr g v code q ∧ n ≤ q ∧ q ≤ n + 2 * k ∧ Apg g w wr)
  case atStart => exact ⟨0, n, [], Nat.zero_le _, by omega, rfl, rfl, fun _ => rfl, World.ownsRow_nil w _ _ _, h, by omega, by omega, Apart.refl _ _ _⟩
  case round =>
    obtain ⟨k, q, l, hk, hkg, rfl, hlk, hnil, ho, hq, hq0, hq1, ha⟩ := hrel
    obtain ⟨w2, hw2⟩ : ∃ w9, w9 = wr := ⟨_, rfl⟩
    subst hw2
    have hs2 := ha.size
    by_cases hlt : k < N
    · have CP := Lib.hid (pick_ex g v code ((k : Int) + 1) q w2 (by omega) (by omega) hq)
      have HN := Lib.hid hnil
      have HA := Lib.hid ha
      obtain ⟨A, c, rfl, hkc, hc⟩ := ho.reads.shape
      rw [hlk] at hkc ho
      rw [hlk] at HN
      rw [hlk]
      have HL := Lib.hid hlk
      have HO := Lib.hid ho
      clear hnil ha hlk ho hq
      go_wp2_with fail
      refine CP.out.mono ?_; rintro e w3 ⟨y, q3, rfl, hy, hq3, hq4, c3, a3⟩
      have o3 := HO.out.apt a3 (by omega)
      have A3 := Lib.hid (HA.out.trans a3)
      have C3 := Lib.hid c3
      have hg3 := c3.lt
      have hyk : y ≤ k := by omega
      have hsz3 := a3.size
      clear CP a3 c3
      have hs3 : w.heap.size ≤ w3.heap.size := by omega
      by_cases hk0 : k = 0
      · obtain rfl : k = 0 := hk0
        obtain rfl : y = 0 := by omega
        have hA := HN.out rfl
        injection hA with hA1 hA2 hA3
        subst hA1 hA3
        have hl0 : l = [] := List.eq_nil_of_length_eq_zero HL.out
        subst hl0
        have hT3 : IntsAt w3 (.slice none 0 0) ([] : List Int) := ⟨rfl, none, 0, rfl, Nat.le_refl _, by simp [maxLen], fun _ => ⟨rfl, rfl⟩, fun h9 => by simp at h9⟩
        have hD3 := hT3
        have HT3 := Lib.hid hT3
        have HD3 := Lib.hid hD3
        have C1 := Lib.hid (fun W (hb : Below w3.heap.size w3 W) => l1Own_any _ ([] : List Int) W (hT3.below hb (Nat.le_refl _)) (by simp <;> omega))
        have n1 : ([] : List Int).length + 1 ≤ 1099511627776 := by simp <;> omega
        have n2 : (([] : List Int) ++ [(0 : Int)]).length + ([] : List Int).length ≤ 1099511627776 := by simp <;> omega
        have D0 := (Below.refl w3.heap.size w3).drew
        have DA : ∀ o, Below w3.heap.size w3 (w3.drew.alloc o) := fun o => D0.alloc (Nat.le_refl _) o
        have DA2 := Lib.hid DA
        have O3 := Lib.hid o3
        clear hT3 hD3 DA o3
        go_upto_region 6 with fail
        (first | (go_region_law (first
          | (refine step_app_ints w6 (by rfl) (.tmp 24) (.tmp 27) (by rfl) w3.heap.size _ (([] : List Int) ++ [(0 : Int)]) (by rfl) o6 _ ([] : List Int) (by rfl) (HD3.out.below b36 (Nat.le_refl _)) n2 b36.size ?_; intro v7 w7 o7 g7)
          | (refine step_app_ints (w5.alloc (.cells #[.int .i64 (0 : Int)] 3)) (by rfl) (.tmp 21) (.tmp 23) (by rfl) w3.heap.size _ ([] : List Int) (by rfl) (OwnInts.al o5 _) _ [(0 : Int)] (by rfl) (IntsAt.one w5 (0 : Int)) n1 (b35.alloc b35.size _).size ?_; intro v6 w6 o6 g6; have b36 := (b35.alloc b35.size _).trans g6.below)
          | (refine step_app_ints w5 (by rfl) (.tmp 21) (.tmp 23) (by rfl) w3.heap.size _ ([] : List Int) (by rfl) o5 _ [(0 : Int)] (by rfl) lit5 n1 b35.size ?_; intro v6 w6 o6 g6; have b36 := b35.trans g6.below)
          | (go_simp; go_at_call 68; (first
            | (refine (C1.out _ D0).mono ?_; rintro e w5 ⟨v5, rfl, o5, b5⟩; have b35 := D0.next (Nat.le_refl _) b5)
            | (refine (C1.out _ (DA2.out _)).mono ?_; rintro e w5 ⟨v5, rfl, o5', b5⟩; have b35 := (DA2.out (.cells #[.int .i64 (0 : Int)] 3)).next (Nat.le_refl _) b5; have o5 := ownsRow_lo o5' (DA2.out (.cells #[.int .i64 (0 : Int)] 3)).size; have lit5 := (IntsAt.one w3.drew (0 : Int)).below b5 (Nat.le_refl _)))))) | fail)
        all_goals
          have O7 := Lib.hid (ownsRow_lo o7 hs3)
          have b37 := b36.trans g7.below
          go_wp2_with fail
          go_roundg (gk - 1)
          case measure => omega
          case rel => exact ⟨1, q3, ([] : List Int) ++ [(0 : Int)] ++ ([] : List Int), by omega, by omega, by go_num, by simp, fun h9 => absurd h9 (by omega), O7.out, C3.out.belowG b37 hg3, by omega, by omega, A3.out.next b37⟩
      by_cases hyk2 : y < k
      · obtain ⟨gb, cap, hv9, hbg, _⟩ := World.ownsRow.form (n := k) (by have := o3; unfold OwnInts at this; rw [HL.out] at this; exact this) (by omega)
        injection hv9 with e1 e2 e3
        subst e1 e3
        have hTr := o3.reads
        have hTk : IntsAt w3 (.slice (some ⟨gb, 0, none⟩) l.length c) l := by rw [HL.out]; exact hTr
        have hT3 : IntsAt w3 (.slice (some ⟨gb, 0, none⟩) y c) (l.take y) := IntsAt.take hTk y (by rw [HL.out]; exact hyk)
        have hcy : c ≠ y := by omega
        have hD3 : IntsAt w3 (.slice (some ⟨gb, y, none⟩) (k - y) (c - y)) (l.drop y) := by
          have := IntsAt.cut hTk y (k - y) (by rw [HL.out]; omega)
          rw [if_neg hcy, List.take_of_length_le (by rw [List.length_drop, HL.out]; omega)] at this
          simpa [Addr.add_lit] using this
        have i0 : (0 : Int) ≤ (y : Int) := by omega
        have i1 : (y : Int) ≤ (k : Int) := by omega
        have i2 : (y : Int) ≤ (c : Int) := by omega
        have i3 : (k : Int) ≤ (c : Int) := by omega
        have hLl : l.length ≤ 13 := by rw [HL.out]; omega
        clear hTr hTk
        have HT3 := Lib.hid hT3
        have HD3 := Lib.hid hD3
        have C1 := Lib.hid (fun W (hb : Below w3.heap.size w3 W) => l1Own_any _ (l.take y) W (hT3.below hb (Nat.le_refl _)) (by simp <;> omega))
        have n1 : (l.take y).length + 1 ≤ 1099511627776 := by simp <;> omega
        have n2 : ((l.take y) ++ [(k : Int)]).length + (l.drop y).length ≤ 1099511627776 := by simp <;> omega
        have D0 := (Below.refl w3.heap.size w3).drew
        have DA : ∀ o, Below w3.heap.size w3 (w3.drew.alloc o) := fun o => D0.alloc (Nat.le_refl _) o
        have DA2 := Lib.hid DA
        have O3 := Lib.hid o3
        clear hT3 hD3 DA o3
        go_upto_region 6 with fail
        (first | (go_region_law (first
          | (refine step_app_ints w6 (by rfl) (.tmp 24) (.tmp 27) (by rfl) w3.heap.size _ ((l.take y) ++ [(k : Int)]) (by rfl) o6 _ (l.drop y) (by rfl) (HD3.out.below b36 (Nat.le_refl _)) n2 b36.size ?_; intro v7 w7 o7 g7)
          | (refine step_app_ints (w5.alloc (.cells #[.int .i64 (k : Int)] 3)) (by rfl) (.tmp 21) (.tmp 23) (by rfl) w3.heap.size _ (l.take y) (by rfl) (OwnInts.al o5 _) _ [(k : Int)] (by rfl) (IntsAt.one w5 (k : Int)) n1 (b35.alloc b35.size _).size ?_; intro v6 w6 o6 g6; have b36 := (b35.alloc b35.size _).trans g6.below)
          | (refine step_app_ints w5 (by rfl) (.tmp 21) (.tmp 23) (by rfl) w3.heap.size _ (l.take y) (by rfl) o5 _ [(k : Int)] (by rfl) lit5 n1 b35.size ?_; intro v6 w6 o6 g6; have b36 := b35.trans g6.below)
          | (go_simp; go_at_call 68; (first
            | (refine (C1.out _ D0).mono ?_; rintro e w5 ⟨v5, rfl, o5, b5⟩; have b35 := D0.next (Nat.le_refl _) b5)
            | (refine (C1.out _ (DA2.out _)).mono ?_; rintro e w5 ⟨v5, rfl, o5', b5⟩; have b35 := (DA2.out (.cells #[.int .i64 (k : Int)] 3)).next (Nat.le_refl _) b5; have o5 := ownsRow_lo o5' (DA2.out (.cells #[.int .i64 (k : Int)] 3)).size; have lit5 := (IntsAt.one w3.drew (k : Int)).below b5 (Nat.le_refl _)))))) | fail)
        all_goals
          have O7 := Lib.hid (ownsRow_lo o7 hs3)
          have b37 := b36.trans g7.below
          go_wp2_with fail
          go_roundg (gk - 1)
          case measure => omega
          case rel => exact ⟨k + 1, q3, (l.take y) ++ [(k : Int)] ++ (l.drop y), by omega, by omega, by go_num, by have := HL.out; simp; omega, fun h9 => absurd h9 (by omega), O7.out, C3.out.belowG b37 hg3, by omega, by omega, A3.out.next b37⟩
      by_cases hcy : c = y
      · obtain ⟨gb, cap, hv9, hbg, _⟩ := World.ownsRow.form (n := k) (by have := o3; unfold OwnInts at this; rw [HL.out] at this; exact this) (by omega)
        injection hv9 with e1 e2 e3
        subst e1 e3
        have hTr := o3.reads
        have hTk : IntsAt w3 (.slice (some ⟨gb, 0, none⟩) l.length c) l := by rw [HL.out]; exact hTr
        have hT3 : IntsAt w3 (.slice (some ⟨gb, 0, none⟩) y c) (l.take y) := IntsAt.take hTk y (by rw [HL.out]; exact hyk)
        obtain rfl : y = k := by omega
        have hLl : l.length ≤ 13 := by rw [HL.out]; omega
        have i0 : (0 : Int) ≤ (y : Int) := by omega
        have i2 : (y : Int) ≤ (c : Int) := by omega
        obtain rfl : c = y := hcy
        have hD3 : IntsAt w3 (.slice (some ⟨gb, 0, none⟩) 0 0) (([] : List Int)) := ⟨rfl, _, _, rfl, Nat.zero_le _, by unfold maxLen; omega, (fun h9 => by cases h9), fun h9 => absurd h9 (by simp)⟩
        clear hTr hTk
        have HT3 := Lib.hid hT3
        have HD3 := Lib.hid hD3
        have C1 := Lib.hid (fun W (hb : Below w3.heap.size w3 W) => l1Own_any _ (l.take c) W (hT3.below hb (Nat.le_refl _)) (by simp <;> omega))
        have n1 : (l.take c).length + 1 ≤ 1099511627776 := by simp <;> omega
        have n2 : ((l.take c) ++ [(c : Int)]).length + ([] : List Int).length ≤ 1099511627776 := by simp <;> omega
        have D0 := (Below.refl w3.heap.size w3).drew
        have DA : ∀ o, Below w3.heap.size w3 (w3.drew.alloc o) := fun o => D0.alloc (Nat.le_refl _) o
        have DA2 := Lib.hid DA
        have O3 := Lib.hid o3
        clear hT3 hD3 DA o3
        go_upto_region 6 with fail
        (first | (go_region_law (first
          | (refine step_app_ints w6 (by rfl) (.tmp 24) (.tmp 27) (by rfl) w3.heap.size _ ((l.take c) ++ [(c : Int)]) (by rfl) o6 _ ([] : List Int) (by rfl) (HD3.out.below b36 (Nat.le_refl _)) n2 b36.size ?_; intro v7 w7 o7 g7)
          | (refine step_app_ints (w5.alloc (.cells #[.int .i64 (c : Int)] 3)) (by rfl) (.tmp 21) (.tmp 23) (by rfl) w3.heap.size _ (l.take c) (by rfl) (OwnInts.al o5 _) _ [(c : Int)] (by rfl) (IntsAt.one w5 (c : Int)) n1 (b35.alloc b35.size _).size ?_; intro v6 w6 o6 g6; have b36 := (b35.alloc b35.size _).trans g6.below)
          | (refine step_app_ints w5 (by rfl) (.tmp 21) (.tmp 23) (by rfl) w3.heap.size _ (l.take c) (by rfl) o5 _ [(c : Int)] (by rfl) lit5 n1 b35.size ?_; intro v6 w6 o6 g6; have b36 := b35.trans g6.below)
          | (go_simp; go_at_call 68; (first
            | (refine (C1.out _ D0).mono ?_; rintro e w5 ⟨v5, rfl, o5, b5⟩; have b35 := D0.next (Nat.le_refl _) b5)
            | (refine (C1.out _ (DA2.out _)).mono ?_; rintro e w5 ⟨v5, rfl, o5', b5⟩; have b35 := (DA2.out (.cells #[.int .i64 (c : Int)] 3)).next (Nat.le_refl _) b5; have o5 := ownsRow_lo o5' (DA2.out (.cells #[.int .i64 (c : Int)] 3)).size; have lit5 := (IntsAt.one w3.drew (c : Int)).below b5 (Nat.le_refl _)))))) | fail)
        all_goals
          have O7 := Lib.hid (ownsRow_lo o7 hs3)
          have b37 := b36.trans g7.below
          go_wp2_with fail
          go_roundg (gk - 1)
          case measure => omega
          case rel => exact ⟨c + 1, q3, (l.take c) ++ [(c : Int)] ++ ([] : List Int), by omega, by omega, by go_num, by have := HL.out; simp; omega, fun h9 => absurd h9 (by omega), O7.out, C3.out.belowG b37 hg3, by omega, by omega, A3.out.next b37⟩
      · obtain ⟨gb, cap, hv9, hbg, _⟩ := World.ownsRow.form (n := k) (by have := o3; unfold OwnInts at this; rw [HL.out] at this; exact this) (by omega)
        injection hv9 with e1 e2 e3
        subst e1 e3
        have hTr := o3.reads
        have hTk : IntsAt w3 (.slice (some ⟨gb, 0, none⟩) l.length c) l := by rw [HL.out]; exact hTr
        have hT3 : IntsAt w3 (.slice (some ⟨gb, 0, none⟩) y c) (l.take y) := IntsAt.take hTk y (by rw [HL.out]; exact hyk)
        obtain rfl : y = k := by omega
        have hLl : l.length ≤ 13 := by rw [HL.out]; omega
        have i0 : (0 : Int) ≤ (y : Int) := by omega
        have i2 : (y : Int) ≤ (c : Int) := by omega
        have hD3 : IntsAt w3 (.slice (some ⟨gb, y, none⟩) 0 (c - y)) (([] : List Int)) := ⟨rfl, _, _, rfl, Nat.zero_le _, by unfold maxLen; omega, (fun h9 => by cases h9), fun h9 => absurd h9 (by simp)⟩
        clear hTr hTk
        have HT3 := Lib.hid hT3
        have HD3 := Lib.hid hD3
        have C1 := Lib.hid (fun W (hb : Below w3.heap.size w3 W) => l1Own_any _ (l.take y) W (hT3.below hb (Nat.le_refl _)) (by simp <;> omega))
        have n1 : (l.take y).length + 1 ≤ 1099511627776 := by simp <;> omega
        have n2 : ((l.take y) ++ [(y : Int)]).length + ([] : List Int).length ≤ 1099511627776 := by simp <;> omega
        have D0 := (Below.refl w3.heap.size w3).drew
        have DA : ∀ o, Below w3.heap.size w3 (w3.drew.alloc o) := fun o => D0.alloc (Nat.le_refl _) o
        have DA2 := Lib.hid DA
        have O3 := Lib.hid o3
        clear hT3 hD3 DA o3
        go_upto_region 6 with fail
        (first | (go_region_law (first
          | (refine step_app_ints w6 (by rfl) (.tmp 24) (.tmp 27) (by rfl) w3.heap.size _ ((l.take y) ++ [(y : Int)]) (by rfl) o6 _ ([] : List Int) (by rfl) (HD3.out.below b36 (Nat.le_refl _)) n2 b36.size ?_; intro v7 w7 o7 g7)
          | (refine step_app_ints (w5.alloc (.cells #[.int .i64 (y : Int)] 3)) (by rfl) (.tmp 21) (.tmp 23) (by rfl) w3.heap.size _ (l.take y) (by rfl) (OwnInts.al o5 _) _ [(y : Int)] (by rfl) (IntsAt.one w5 (y : Int)) n1 (b35.alloc b35.size _).size ?_; intro v6 w6 o6 g6; have b36 := (b35.alloc b35.size _).trans g6.below)
          | (refine step_app_ints w5 (by rfl) (.tmp 21) (.tmp 23) (by rfl) w3.heap.size _ (l.take y) (by rfl) o5 _ [(y : Int)] (by rfl) lit5 n1 b35.size ?_; intro v6 w6 o6 g6; have b36 := b35.trans g6.below)
          | (go_simp; go_at_call 68; (first
            | (refine (C1.out _ D0).mono ?_; rintro e w5 ⟨v5, rfl, o5, b5⟩; have b35 := D0.next (Nat.le_refl _) b5)
            | (refine (C1.out _ (DA2.out _)).mono ?_; rintro e w5 ⟨v5, rfl, o5', b5⟩; have b35 := (DA2.out (.cells #[.int .i64 (y : Int)] 3)).next (Nat.le_refl _) b5; have o5 := ownsRow_lo o5' (DA2.out (.cells #[.int .i64 (y : Int)] 3)).size; have lit5 := (IntsAt.one w3.drew (y : Int)).below b5 (Nat.le_refl _)))))) | fail)
        all_goals
          have O7 := Lib.hid (ownsRow_lo o7 hs3)
          have b37 := b36.trans g7.below
          go_wp2_with fail
          go_roundg (gk - 1)
          case measure => omega
          case rel => exact ⟨y + 1, q3, (l.take y) ++ [(y : Int)] ++ ([] : List Int), by omega, by omega, by go_num, by have := HL.out; simp; omega, fun h9 => absurd h9 (by omega), O7.out, C3.out.belowG b37 hg3, by omega, by omega, A3.out.next b37⟩
    · obtain rfl : k = N := by omega
      have HL := Lib.hid hlk
      by_cases hN0 : k = 0
      · subst hN0
        have hA := hnil rfl
        subst hA
        have HO := Lib.hid ho
        have HQ := Lib.hid hq
        have HA := Lib.hid ha
        clear ho hq ha hnil hlk
        go_wp2_with fail
        go_ret
        exact ⟨_, l, q, rfl, HO.out, HQ.out, HA.out, HL.out, by omega, by omega⟩
      · have hk0' : (0 : Int) < (k : Int) := by omega
        obtain ⟨gb, cap, hv9, hbg, _⟩ := World.ownsRow.form (n := k) (by have := ho; unfold OwnInts at this; rw [hlk] at this; exact this) (by omega)
        subst hv9
        have CO := Lib.hid (one_ex g v code 16 q w2 (by omega) hq)
        have HO := Lib.hid ho
        have HA := Lib.hid ha
        clear ho ha hq hnil hlk
        go_wp2_with fail
        refine CO.out.mono ?_; rintro e w3 ⟨bb, q3, rfl, hq3, hq4, c3, a3⟩
        have o3 := HO.out.apt a3 (by omega)
        have A3 := HA.out.trans a3
        cases bb
        case false =>
          have O3 := Lib.hid o3
          have C3 := Lib.hid c3
          have HA3 := Lib.hid A3
          clear o3 c3 A3 a3 CO
          go_wp2_with fail
          go_ret
          exact ⟨_, l, q3, rfl, O3.out, C3.out, HA3.out, HL.out, by omega, by omega⟩
        case true =>
          have CP := Lib.hid (pick_ex g v code (k : Int) q3 w3 (by omega) (by omega) c3)
          have O3 := Lib.hid o3
          have HA3 := Lib.hid A3
          clear o3 c3 A3 a3 CO
          go_wp2_with fail
          refine CP.out.mono ?_; rintro e w4 ⟨y, q4, rfl, hy, hq5, hq6, c4, a4⟩
          have o4 := O3.out.apt a4 (by omega)
          have A4 := HA3.out.trans a4
          have hg4 := c4.lt
          have hsz4 := A4.size
          have bN := (Below.refl w4.heap.size w4).alloc (Nat.le_refl _) (.cells #[.int .i64 (-1), .int .i64 0, .int .i64 ((k : Int) - 1), .int .i64 (k : Int)] 3)
          have oN : OwnInts (w4.alloc (.cells #[.int .i64 (-1), .int .i64 0, .int .i64 ((k : Int) - 1), .int .i64 (k : Int)] 3)) (g + 1) (.slice (some ⟨w4.heap.size, 0, none⟩) 4 4) [-1, 0, (k : Int) - 1, (k : Int)] :=
            World.ownsRow_lit w4 #[.int .i64 (-1), .int .i64 0, .int .i64 ((k : Int) - 1), .int .i64 (k : Int)] 4 (by omega) (by simp [maxLen]) rfl
          have CA := Lib.hid (among_lit g q4 v _ code [-1, 0, (k : Int) - 1, (k : Int)] _ (c4.belowG bN hg4) (by omega) oN (by simp) (by simp) (fun _ => True) (fun _ _ => trivial))
          have o5 := OwnInts.below o4 bN (Nat.le_refl _)
          have A5 := A4.next bN
          have hy' : y < k := by omega
          have O5 := Lib.hid o5
          have A5' := Lib.hid A5
          clear o4 A4 a4 c4 CP o5 A5 oN bN
          go_wp2_with fail
          refine CA.out.mono ?_; rintro e w6 ⟨x, q6, rfl, _, hq7, hq8, c6, a6⟩
          have o6 := O5.out.apt a6 (by omega)
          have A6 := A5'.out.trans a6
          obtain ⟨⟨x0, hc0⟩, hf0⟩ := OwnInts.lit9 o6 y (by rw [HL.out]; exact hy')
          have fo := Lib.hid (OwnInts.put9 o6 y x)
          have hbs := (Below.refl w.heap.size w6).setCell (p := ⟨gb, y, none⟩) (by exact hbg) (.int .i64 x)
          have fa := Lib.hid (A6.trans2 hbs (Nat.le_refl _))
          have fc := Lib.hid (c6.belowG hbs hg)
          clear hbs
          clear o6 A6 c6 a6 CA
          go_wp2_with fail
          go_ret
          exact ⟨_, l.set y x, q6, rfl, fo.out, fc.out, fa.out, by simp [HL.out], by omega, by omega⟩
end Go.Proofs.Ytgcgkpmjahgmnaa
