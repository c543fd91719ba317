/- Contracts of the exported functions on versions: CopyChanges, AddVersion; in the program and in the reference. -/
import Derived.Test.YtleiijhnjaagmaaVFns
import Derived.Test.YtleiijhnjaagmaaMark
import Derived.Deep.DeepCutAuto
set_option linter.unusedSimpArgs false
set_option linter.unusedVariables false
namespace Go.Proofs.Ytleiijhnjaagmaa
open Go.RowKit

def FreshVersB (w : World) (r : List Ver × Bool) (e : Ending) (w' : World) : Prop :=
  ∃ v, e = .returned (.tuple #[v, .bool r.2]) ∧ OwnVers w' w.heap.size v r.1 ∧ Below w.heap.size w w'
theorem info_ver3 : (Try.prog.info? verRec.ty).map (fun i => (i.zero, i.size, i.bytes)) = some (some (.agg #[.int .i64 0, .int .i64 0, .int .i64 0]), verRec.sz, 24) := info_ver
/-- What has been copied after n steps of the way. -/
def copySt (l : List Ver) (i k : Int) (n : Nat) : List Ver × Int := copied2 l i k ((wayTo l k).take n)
theorem copySt_zero (l : List Ver) (i k : Int) : copySt l i k 0 = (l, i) := by simp [copySt, copied2]
theorem copySt_succ (l : List Ver) (i k : Int) (n : Nat) (h : n < (wayTo l k).length) : copySt l i k (n + 1) = copyOne l (common l i k) (copySt l i k n) (gi (wayTo l k) n) := by
  unfold copySt copied2
  rw [foldl_take_gi _ _ _ _ h]
theorem copySt_all (l : List Ver) (i k : Int) : copySt l i k (wayTo l k).length = copied2 l i k (wayTo l k) := by unfold copySt; rw [List.take_length]
theorem copySt_len (l : List Ver) (i k : Int) (n : Nat) (h : n ≤ (wayTo l k).length) : (copySt l i k n).1.length ≤ l.length + n := by
  induction n with
  | zero => rw [copySt_zero]; exact Nat.le_refl _
  | succ n ih =>
    rw [copySt_succ l i k n h]
    have := ih (by omega)
    unfold copyOne
    split
    · omega
    · rw [List.length_append]; simp; omega
theorem copySt_no {l : List Ver} {i k : Int} {n : Nat} (h : n < (wayTo l k).length) (hj : gi (wayTo l k) n ≤ common l i k) : copySt l i k (n + 1) = copySt l i k n := by
  rw [copySt_succ l i k n h]; unfold copyOne; rw [if_pos hj]
theorem copySt_yes {l : List Ver} {i k : Int} {n j : Nat} (h : n < (wayTo l k).length) (e : gi (wayTo l k) n = (j : Int)) (hj : common l i k < (j : Int)) :
    copySt l i k (n + 1) = ((copySt l i k n).1 ++ [⟨(copySt l i k n).2, (gv l j).k, (gv l j).v⟩], ((copySt l i k n).1.length : Int)) := by
  rw [copySt_succ l i k n h, e]; unfold copyOne; rw [if_neg (by omega)]; rfl
/-- All is well with the copies: a valid list of versions, and the parent is among them. -/
theorem areVers_snoc {l : List Ver} {x : Ver} (h : areVers l = true) (h60 : l.length < 60) (hp : 0 ≤ x.p ∧ x.p < l.length) (hk : 0 ≤ x.k ∧ x.k ≤ 7) (hv : 0 ≤ x.v ∧ x.v ≤ 999) : areVers (l ++ [x]) = true := by
  obtain ⟨a1, a2, a3, a4⟩ := areVers_parts h
  have g : ∀ i, i < l.length → gv (l ++ [x]) i = gv l i := fun i hi => by simp [gv, List.getD, List.getElem?_append_left hi]
  refine areVers_yes (inR_t.2 (by simp; omega)) (by rw [g 0 (by omega)]; exact a3) ?_
  intro i hi
  by_cases hl : i < l.length
  · rw [g i hl]; exact a4 i hl
  · have hx : i = l.length := by simp at hi; omega
    subst hx
    have e : gv (l ++ [x]) l.length = x := by simp [gv, List.getD]
    rw [e]
    exact verOk_yes (.inr (inR_t.2 (by omega))) (inR_t.2 (by omega)) (inR_t.2 (by omega))
theorem rCopy_no {l : List Ver} {i k : Int} (h : hasV l [i, k] = false) : rCopy l i k = ([], false) := by unfold rCopy; rw [if_neg (by rw [h]; decide)]
theorem rCopy_yes {l : List Ver} {i k : Int} (h : hasV l [i, k] = true) (h6 : (copied2 l i k (wayTo l k)).1.length ≤ 60) : rCopy l i k = ((copied2 l i k (wayTo l k)).1, true) := by unfold rCopy; rw [if_pos h, if_pos h6]
theorem rCopy_big {l : List Ver} {i k : Int} (h : hasV l [i, k] = true) (h6 : ¬ (copied2 l i k (wayTo l k)).1.length ≤ 60) : rCopy l i k = ([], false) := by unfold rCopy; rw [if_pos h, if_neg h6]
theorem areVers_long {l : List Ver} (h : 60 < l.length) : areVers l = false := areVers_len (inR_f.2 (by omega))
theorem copySt_ok {l : List Ver} (hv : areVers l = true) {i k : Int} (i0 : 0 ≤ i) (i1 : i < l.length) (k1 : k < l.length) (n : Nat) (h : n ≤ (wayTo l k).length) :
    l.length ≤ (copySt l i k n).1.length ∧ 0 ≤ (copySt l i k n).2 ∧ (copySt l i k n).2 < ((copySt l i k n).1.length : Int) ∧ ((copySt l i k n).1.length ≤ 60 → areVers (copySt l i k n).1 = true) := by
  induction n with
  | zero => rw [copySt_zero]; exact ⟨Nat.le_refl _, i0, i1, fun _ => hv⟩
  | succ n ih =>
    obtain ⟨q1, q2, q3, q4⟩ := ih (by omega)
    have hin := wayTo_in hv k1 _ (gi_mem (show n < (wayTo l k).length by omega))
    by_cases hj : gi (wayTo l k) n ≤ common l i k
    · rw [copySt_no (by omega) hj]; exact ⟨q1, q2, q3, q4⟩
    · obtain ⟨j, hje⟩ := Int.eq_ofNat_of_zero_le hin.1
      rw [copySt_yes (by omega) hje (by omega)]
      have hva := ver_at hv j (by omega)
      refine ⟨by simp; omega, by simp, by simp; omega, fun h60 => ?_⟩
      have h60' : (copySt l i k n).1.length < 60 := by simp at h60; omega
      exact areVers_snoc (q4 (by omega)) h60' ⟨q2, q3⟩ ⟨hva.2.2.2.1, hva.2.2.2.2.1⟩ ⟨hva.2.2.2.2.2.1, hva.2.2.2.2.2.2⟩

set_option maxHeartbeats 6400000 in
theorem implCopy (v : Value) (l : List Ver) (i k : Int) (w : World) (h : VersAt w v l) :
    Calls Try.prog 37 #[v, .int .i64 i, .int .i64 k] w (FreshVersB w (rCopy l i k)) := by
  cases hh : hasV l [i, k]
  case false =>
    go_enter Try.func37, Try.ntmps37
    go_wp2_with fail
    refine (hasVersions_any _ _ l [i, k] _ (h.below ((Below.refl w.heap.size w).alloc (Nat.le_refl _) _) (Nat.le_refl _)) (IntsAt.two w i k)).mono ?_; rintro e w1 ⟨rfl, d1⟩
    have b1 := ((Below.refl w.heap.size w).alloc (Nat.le_refl _) (.cells #[.int .i64 i, .int .i64 k] 3)).trans (d1.mono (by simp))
    go_wp2_with fail
    go_ret2
    have hr := Lib.hid (rCopy_no hh)
    exact ⟨_, (by rw [hr.out]; rfl), by rw [hr.out]; exact OwnRow.nil_ verRec _ _, b1⟩
  case true =>
    have hp := hasV2_t hh
    obtain ⟨hv0, i0, i1, k0, k1⟩ := hp
    have hv := Lib.hid hv0
    clear hv0
    go_enter Try.func37, Try.ntmps37
    go_wp2_with fail
    refine (hasVersions_any _ _ l [i, k] _ (h.below ((Below.refl w.heap.size w).alloc (Nat.le_refl _) _) (Nat.le_refl _)) (IntsAt.two w i k)).mono ?_; rintro e w1 ⟨rfl, d1⟩
    have b1 := ((Below.refl w.heap.size w).alloc (Nat.le_refl _) (.cells #[.int .i64 i, .int .i64 k] 3)).trans (d1.mono (by simp))
    have h1 := h.below b1 (Nat.le_refl _)
    go_wp2_with fail
    obtain ⟨AA, cc, hve, hnA, hcA⟩ := VersAt.shape h1
    subst hve
    have HH := Lib.hid hh
    clear hh
    refine (commonVersion_any _ l i k _ h1 hv i0 i1 k0 k1).mono ?_; rintro e _ ⟨rfl, rfl⟩
    have hwl := wayTo_len hv.out k1
    have h60 := (areVers_parts hv.out).2.1
    have hE := OwnRow.empty verRec w1 w1.heap.size (Nat.le_refl _)
    have hEb : Below w1.heap.size w1 (w1.alloc (.cells #[] 36)) := (Below.refl _ _).alloc (Nat.le_refl _) _
    go_upto_region 5 with (at_builtin; refine wp_app_row verRec _ rfl _ _ 25 _ _ Try.underlying25 info_ver3 rfl (by omega) rfl w1.heap.size _ [] rfl hE _ l rfl (h1.below hEb (Nat.le_refl _)) (by simp; omega) (by simp) ?_; intro x w2 ox hgx)
    have b12 := b1.next (Nat.le_refl _) (hEb.trans hgx.below)
    have bx2 := hEb.trans hgx.below
    have h2 := h1.below bx2 (Nat.le_refl _)
    go_wp2_with fail
    refine (wayTo_any _ l k _ h2 hv k0 k1).mono ?_; rintro e w3 ⟨vy, rfl, oy, by3⟩
    obtain ⟨Y, cy, rfl, hny, hcy⟩ := oy.reads.shape
    have b13 := b12.next (Nat.le_refl _) by3
    have ox3 : OwnRow verRec w3 w1.heap.size x l := OwnRow.below ox by3 (Nat.le_refl _)
    have oy3 := oy.base bx2.size
    have ap0 : Apt x (.slice Y (wayTo l k).length cy) := fun g g1 g2 => by have q1 := (World.ownsRow.lt ox g g1).2; have q2 := (World.ownsRow.lt oy g g2).1; omega
    have bw3 : Below w1.heap.size w1 w3 := bx2.next (Nat.le_refl _) by3
    clear ox oy hE hEb
    go_wp2_with fail
    go_loopw [9, 10, 31] (fun p t s wr => ∃ n : Nat, n ≤ (wayTo l k).length ∧ s = .int .i64 n ∧ p = .int .i64 (copySt l i k n).2 ∧ OwnRow verRec wr w1.heap.size t (copySt l i k n).1 ∧ OwnInts wr w1.heap.size (.slice Y (wayTo l k).length cy) (wayTo l k) ∧ Apt t (.slice Y (wayTo l k).length cy) ∧ Below w1.heap.size w1 wr) (fun _ _ s _ => (wayTo l k).length - (intOf s).toNat)
    case atStart => exact ⟨0, Nat.zero_le _, rfl, by rw [copySt_zero], by rw [copySt_zero]; exact ox3, oy3, ap0, bw3⟩
    case round =>
      obtain ⟨n, hn, rfl, rfl, ho, hy, hap, hb⟩ := hrel
      by_cases hlt : n < (wayTo l k).length
      · have hin := wayTo_in hv.out k1 (gi (wayTo l k) n) (gi_mem hlt)
        obtain ⟨j, hje⟩ := Int.eq_ofNat_of_zero_le hin.1
        have hjl : j < l.length := by omega
        obtain ⟨bY, oY, rfl, hcY⟩ := IntsAt.at_ hy.reads n hlt
        rw [hje] at hcY
        by_cases hj : (j : Int) ≤ common l i k
        · have he := Lib.hid (copySt_no hlt (by rw [hje]; exact hj))
          clear hje hin
          go_wp2_with fail
          go_roundw
          case rel => exact ⟨n + 1, by omega, by go_num, by rw [he.out], by rw [he.out]; exact ho, hy, hap, hb⟩
          case measure => simp [intOf]; omega
        · have hj2 : common l i k < (j : Int) := by omega
          have he := Lib.hid (copySt_yes hlt hje hj2)
          have hsl := copySt_len l i k n hn
          have hok := copySt_ok hv.out i0 i1 k1 n hn
          obtain ⟨_, hpl, hph, _⟩ := hok
          have h9 : (copySt l i k n).1.length + 1 ≤ 1099511627776 := by omega
          clear hje hin
          obtain ⟨bb, ob, rfl, _, hck, hcv⟩ := VersAt.at_ (h1.below hb (Nat.le_refl _)) j hjl
          obtain ⟨bb2, ob2, hbe, _, hck0, hcv0⟩ := VersAt.at_ h1 j hjl
          injection hbe with hbe; injection hbe with hbe1 hbe2; subst hbe1 hbe2
          have hbb : bb < w1.heap.size := World.block_lt_of_cell? w1 _ hck0
          have hk1 : ∀ (w9 : World) (v9 v8 : Value), Grew wr.drew w9 w1.heap.size v9 v8 → w9.cell? ⟨bb, ob + j * 3 + 1, none⟩ = some (.int .i64 (gv l j).k) := fun w9 v9 v8 hg => (hg.below.cell (p := ⟨bb, ob + j * 3 + 1, none⟩) hbb).trans hck
          have hk2 : ∀ (w9 : World) (v9 v8 : Value), Grew wr.drew w9 w1.heap.size v9 v8 → w9.cell? ⟨bb, ob + j * 3 + 2, none⟩ = some (.int .i64 (gv l j).v) := fun w9 v9 v8 hg => (hg.below.cell (p := ⟨bb, ob + j * 3 + 2, none⟩) hbb).trans hcv
          have Hk1 := Lib.hid hk1
          have Hk2 := Lib.hid hk2
          clear hk1 hk2 hck0 hcv0
          have hj0 : (0 : Int) ≤ (j : Int) := by omega
          have hj1 : (j : Int) < (l.length : Int) := by omega
          go_upto_region 9 with fail
          go_region_held3 (fun w' => w'.cell? ⟨bb, ob + j * 3 + 1, none⟩ = some (.int .i64 (gv l j).k) ∧ w'.cell? ⟨bb, ob + j * 3 + 2, none⟩ = some (.int .i64 (gv l j).v))
            (first | go_keep | exact ⟨Hk1.out _ _ _ hg1, Hk2.out _ _ _ hg1⟩)
            ((refine step_app_rec verRec wr.drew (by rfl) _ _ 25 _ _ Try.underlying25 info_ver3 rfl (by omega) (by rfl) w1.heap.size _ (copySt l i k n).1 (by rfl) (OwnRow.drewN ho 1) ⟨(copySt l i k n).2, (gv l j).k, (gv l j).v⟩ _ rfl _ _ rfl (by rfl) rfl h9 hb.size ?_; intro x1 w5 ho1 hg1))
          have hy1 := hap.keepI (w := wr.drew) hy hg1
          have ap1 := hap.grew (w := wr.drew) hy hg1
          obtain ⟨X1, c1, rfl, hx1, hc1⟩ := RowAt.shape ho1.reads
          have hl1 : ((copySt l i k n).1 ++ [(⟨(copySt l i k n).2, (gv l j).k, (gv l j).v⟩ : Ver)]).length = (copySt l i k n).1.length + 1 := by simp
          rw [hl1] at hx1 ap1 ⊢
          clear hl1
          go_wp2_with fail
          go_roundw
          case rel => exact ⟨n + 1, by omega, by go_num, by rw [he.out], by rw [he.out]; simpa using ho1, hy1, ap1, hb.drew.trans hg1.below⟩
          case measure => simp [intOf]; omega
      · obtain rfl : n = (wayTo l k).length := by omega
        have hfin := copySt_ok hv.out i0 i1 k1 _ hn
        have hco := copySt_all l i k
        rw [hco] at ho hfin
        obtain ⟨_, _, _, hgood⟩ := hfin
        have ho2 := OwnRow.lo ho b1.size
        obtain ⟨X1, c1, rfl, hx1, hc1⟩ := RowAt.shape ho.reads
        have Hg := Lib.hid hgood
        clear hgood hco
        by_cases h6 : (copied2 l i k (wayTo l k)).1.length ≤ 60
        · have hr := Lib.hid (rCopy_yes HH.out h6)
          go_wp2_with fail
          go_ret2
          exact ⟨_, (by rw [hr.out]; rfl), by rw [hr.out]; exact ho2, b1.next (Nat.le_refl _) hb⟩
        · have hr := Lib.hid (rCopy_big HH.out (by omega))
          have h7 : 60 < (copied2 l i k (wayTo l k)).1.length := by omega
          go_wp2_with fail
          go_ret2
          exact ⟨_, (by rw [hr.out]; rfl), by rw [hr.out]; exact OwnRow.nil_ verRec _ _, b1.next (Nat.le_refl _) hb⟩

set_option maxHeartbeats 6400000 in
theorem specCopy (v : Value) (l : List Ver) (i k : Int) (w : World) (h : VersAt w v l) :
    Calls Try.prog 36 #[v, .int .i64 i, .int .i64 k] w (FreshVersB w (rCopy l i k)) := by
  cases hh : hasV l [i, k]
  case false =>
    go_enter Try.func36, Try.ntmps36
    go_wp2_with fail
    refine (vrPair_any _ l _ _ _ h).mono ?_; rintro e w1 ⟨rfl, b1⟩
    go_wp2_with fail
    go_ret2
    have hr := Lib.hid (rCopy_no hh)
    exact ⟨_, (by rw [hr.out]; rfl), by rw [hr.out]; exact OwnRow.nil_ verRec _ _, b1⟩
  case true =>
    have hp := hasV2_t hh
    obtain ⟨hv0, i0, i1, k0, k1⟩ := hp
    have hv := Lib.hid hv0
    clear hv0
    go_enter Try.func36, Try.ntmps36
    go_wp2_with fail
    refine (vrPair_any _ l _ _ _ h).mono ?_; rintro e w1 ⟨rfl, b1⟩
    have h1 := h.below b1 (Nat.le_refl _)
    go_wp2_with fail
    obtain ⟨AA, cc, hve, hnA, hcA⟩ := VersAt.shape h1
    subst hve
    have HH := Lib.hid hh
    clear hh
    refine (vrCommon_any _ l i k _ h1 hv i0 i1 k0 k1).mono ?_; rintro e _ ⟨rfl, rfl⟩
    have hwl := wayTo_len hv.out k1
    have h60 := (areVers_parts hv.out).2.1
    have hE := OwnRow.empty verRec w1 w1.heap.size (Nat.le_refl _)
    have hEb : Below w1.heap.size w1 (w1.alloc (.cells #[] 36)) := (Below.refl _ _).alloc (Nat.le_refl _) _
    go_upto_region 5 with (at_builtin; refine wp_app_row verRec _ rfl _ _ 25 _ _ Try.underlying25 info_ver3 rfl (by omega) rfl w1.heap.size _ [] rfl hE _ l rfl (h1.below hEb (Nat.le_refl _)) (by simp; omega) (by simp) ?_; intro x w2 ox hgx)
    have b12 := b1.next (Nat.le_refl _) (hEb.trans hgx.below)
    have bx2 := hEb.trans hgx.below
    have h2 := h1.below bx2 (Nat.le_refl _)
    go_wp2_with fail
    refine (vrWay_in _ l k _ h2 hv k0 k1).mono ?_; rintro e w3 ⟨vy, rfl, oy, by3⟩
    obtain ⟨Y, cy, rfl, hny, hcy⟩ := oy.reads.shape
    have b13 := b12.next (Nat.le_refl _) by3
    have ox3 : OwnRow verRec w3 w1.heap.size x l := OwnRow.below ox by3 (Nat.le_refl _)
    have oy3 := oy.base bx2.size
    have ap0 : Apt x (.slice Y (wayTo l k).length cy) := fun g g1 g2 => by have q1 := (World.ownsRow.lt ox g g1).2; have q2 := (World.ownsRow.lt oy g g2).1; omega
    have bw3 : Below w1.heap.size w1 w3 := bx2.next (Nat.le_refl _) by3
    clear ox oy hE hEb
    go_wp2_with fail
    go_loopw [1, 9, 28] (fun p t s wr => ∃ n : Nat, n ≤ (wayTo l k).length ∧ s = .int .i64 n ∧ p = .int .i64 (copySt l i k n).2 ∧ OwnRow verRec wr w1.heap.size t (copySt l i k n).1 ∧ OwnInts wr w1.heap.size (.slice Y (wayTo l k).length cy) (wayTo l k) ∧ Apt t (.slice Y (wayTo l k).length cy) ∧ Below w1.heap.size w1 wr) (fun _ _ s _ => (wayTo l k).length - (intOf s).toNat)
    case atStart => exact ⟨0, Nat.zero_le _, rfl, by rw [copySt_zero], by rw [copySt_zero]; exact ox3, oy3, ap0, bw3⟩
    case round =>
      obtain ⟨n, hn, rfl, rfl, ho, hy, hap, hb⟩ := hrel
      by_cases hlt : n < (wayTo l k).length
      · have hin := wayTo_in hv.out k1 (gi (wayTo l k) n) (gi_mem hlt)
        obtain ⟨j, hje⟩ := Int.eq_ofNat_of_zero_le hin.1
        have hjl : j < l.length := by omega
        obtain ⟨bY, oY, rfl, hcY⟩ := IntsAt.at_ hy.reads n hlt
        rw [hje] at hcY
        by_cases hj : (j : Int) ≤ common l i k
        · have he := Lib.hid (copySt_no hlt (by rw [hje]; exact hj))
          clear hje hin
          go_wp2_with fail
          go_roundw
          case rel => exact ⟨n + 1, by omega, by go_num, by rw [he.out], by rw [he.out]; exact ho, hy, hap, hb⟩
          case measure => simp [intOf]; omega
        · have hj2 : common l i k < (j : Int) := by omega
          have he := Lib.hid (copySt_yes hlt hje hj2)
          have hsl := copySt_len l i k n hn
          have hok := copySt_ok hv.out i0 i1 k1 n hn
          obtain ⟨_, hpl, hph, _⟩ := hok
          have h9 : (copySt l i k n).1.length + 1 ≤ 1099511627776 := by omega
          clear hje hin
          obtain ⟨bb, ob, rfl, _, hck, hcv⟩ := VersAt.at_ (h1.below hb (Nat.le_refl _)) j hjl
          obtain ⟨bb2, ob2, hbe, _, hck0, hcv0⟩ := VersAt.at_ h1 j hjl
          injection hbe with hbe; injection hbe with hbe1 hbe2; subst hbe1 hbe2
          have hbb : bb < w1.heap.size := World.block_lt_of_cell? w1 _ hck0
          have hk1 : ∀ (w9 : World) (v9 v8 : Value), Grew wr.drew w9 w1.heap.size v9 v8 → w9.cell? ⟨bb, ob + j * 3 + 1, none⟩ = some (.int .i64 (gv l j).k) := fun w9 v9 v8 hg => (hg.below.cell (p := ⟨bb, ob + j * 3 + 1, none⟩) hbb).trans hck
          have hk2 : ∀ (w9 : World) (v9 v8 : Value), Grew wr.drew w9 w1.heap.size v9 v8 → w9.cell? ⟨bb, ob + j * 3 + 2, none⟩ = some (.int .i64 (gv l j).v) := fun w9 v9 v8 hg => (hg.below.cell (p := ⟨bb, ob + j * 3 + 2, none⟩) hbb).trans hcv
          have Hk1 := Lib.hid hk1
          have Hk2 := Lib.hid hk2
          clear hk1 hk2 hck0 hcv0
          have hj0 : (0 : Int) ≤ (j : Int) := by omega
          have hj1 : (j : Int) < (l.length : Int) := by omega
          go_upto_region 9 with fail
          go_region_held3 (fun w' => w'.cell? ⟨bb, ob + j * 3 + 1, none⟩ = some (.int .i64 (gv l j).k) ∧ w'.cell? ⟨bb, ob + j * 3 + 2, none⟩ = some (.int .i64 (gv l j).v))
            (first | go_keep | exact ⟨Hk1.out _ _ _ hg1, Hk2.out _ _ _ hg1⟩)
            ((refine step_app_rec verRec wr.drew (by rfl) _ _ 25 _ _ Try.underlying25 info_ver3 rfl (by omega) (by rfl) w1.heap.size _ (copySt l i k n).1 (by rfl) (OwnRow.drewN ho 1) ⟨(copySt l i k n).2, (gv l j).k, (gv l j).v⟩ _ rfl _ _ rfl (by rfl) rfl h9 hb.size ?_; intro x1 w5 ho1 hg1))
          have hy1 := hap.keepI (w := wr.drew) hy hg1
          have ap1 := hap.grew (w := wr.drew) hy hg1
          obtain ⟨X1, c1, rfl, hx1, hc1⟩ := RowAt.shape ho1.reads
          have hl1 : ((copySt l i k n).1 ++ [(⟨(copySt l i k n).2, (gv l j).k, (gv l j).v⟩ : Ver)]).length = (copySt l i k n).1.length + 1 := by simp
          rw [hl1] at hx1 ap1 ⊢
          clear hl1
          go_wp2_with fail
          go_roundw
          case rel => exact ⟨n + 1, by omega, by go_num, by rw [he.out], by rw [he.out]; simpa using ho1, hy1, ap1, hb.drew.trans hg1.below⟩
          case measure => simp [intOf]; omega
      · obtain rfl : n = (wayTo l k).length := by omega
        have hfin := copySt_ok hv.out i0 i1 k1 _ hn
        have hco := copySt_all l i k
        rw [hco] at ho hfin
        obtain ⟨_, _, _, hgood⟩ := hfin
        have ho2 := OwnRow.lo ho b1.size
        obtain ⟨X1, c1, rfl, hx1, hc1⟩ := RowAt.shape ho.reads
        have Hg := Lib.hid hgood
        clear hgood hco
        by_cases h6 : (copied2 l i k (wayTo l k)).1.length ≤ 60
        · have hr := Lib.hid (rCopy_yes HH.out h6)
          have hgd := Hg.out h6
          go_wp2_with fail
          refine (vrGood_any _ (copied2 l i k (wayTo l k)).1 _ (RowAt.below ho.reads (Below.refl _ _) (Nat.le_refl _))).mono ?_; rintro e w6 ⟨rfl, b6⟩
          have ho6 := OwnRow.below ho2 b6 (Nat.le_refl _)
          go_wp2_with fail
          go_ret2
          exact ⟨_, (by rw [hr.out]; rfl), by rw [hr.out]; exact ho6, (b1.next (Nat.le_refl _) hb).next (Nat.le_refl _) b6⟩
        · have hr := Lib.hid (rCopy_big HH.out (by omega))
          have hgd := areVers_long (l := (copied2 l i k (wayTo l k)).1) (by omega)
          go_wp2_with fail
          refine (vrGood_any _ (copied2 l i k (wayTo l k)).1 _ (RowAt.below ho.reads (Below.refl _ _) (Nat.le_refl _))).mono ?_; rintro e w6 ⟨rfl, b6⟩
          go_wp2_with fail
          go_ret2
          exact ⟨_, (by rw [hr.out]; rfl), by rw [hr.out]; exact OwnRow.nil_ verRec _ _, (b1.next (Nat.le_refl _) hb).next (Nat.le_refl _) b6⟩

end Go.Proofs.Ytleiijhnjaagmaa
