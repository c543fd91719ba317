/- Contracts: who is shown in which cell, in the program and in the reference. -/
import Derived.Test.YtjbffahnbkpcnaaCrowd
set_option linter.unusedSimpArgs false
set_option linter.unusedVariables false
namespace Go.Proofs.Ytjbffahnbkpcnaa
open Go.RowKit

theorem gl_set (ls : List (List Int)) (r i : Nat) (x : List Int) : gl (ls.set r x) i = if r = i ∧ r < ls.length then x else gl ls i := by
  unfold gl
  rw [List.getD_eq_getElem?_getD, List.getD_eq_getElem?_getD, List.getElem?_set]
  by_cases h : r = i
  · subst h
    by_cases h2 : r < ls.length
    · simp [h2]
    · simp [h2]
  · simp [h]
/-- One element of one row is written. -/
def putL (ls : List (List Int)) (r c : Nat) (x : Int) : List (List Int) := ls.set r ((gl ls r).set c x)
theorem putL_len (ls : List (List Int)) (r c : Nat) (x : Int) : (putL ls r c x).length = ls.length := by simp [putL]
theorem putL_row (ls : List (List Int)) (r c i : Nat) (x : Int) : (gl (putL ls r c x) i).length = (gl ls i).length := by
  unfold putL
  rw [gl_set]
  split
  · rename_i h; rw [h.1, List.length_set]
  · rfl
theorem OwnL.n_eq {w : World} {lo g n cg : Nat} {vs : List Value} {ls : List (List Int)} (h : OwnL w lo (.slice (some ⟨g, 0, none⟩) n cg) vs ls) : n = ls.length := by
  obtain ⟨A, c', he, _⟩ := Sl.shape (Sl.of_own h.row)
  injection he
theorem OwnIntss.n_eq {w : World} {lo g n cg : Nat} {ls : List (List Int)} (h : OwnIntss w lo (.slice (some ⟨g, 0, none⟩) n cg) ls) : n = ls.length := by
  obtain ⟨vs, h⟩ := h; exact h.n_eq
theorem OwnIntss.lit {w : World} {lo : Nat} {v : Value} {ls : List (List Int)} (h : OwnIntss w lo v ls) (hn : 0 < ls.length) : ∃ g c, v = .slice (some ⟨g, 0, none⟩) ls.length c ∧ lo ≤ g := by
  obtain ⟨vs, h⟩ := h
  have hl := h.len
  rcases h.row.2 with ⟨_, h0⟩ | ⟨g, cap, cur, rfl, hbg, _⟩
  · rw [h0] at hl; simp at hl; omega
  · exact ⟨g, cap, rfl, hbg⟩
theorem OwnIntss.at2 {w : World} {lo g n cg : Nat} {ls : List (List Int)} (h : OwnIntss w lo (.slice (some ⟨g, 0, none⟩) n cg) ls) (r c : Nat) (hr : r < ls.length) (hc : c < (gl ls r).length) :
    ∃ g' c', w.cell? ⟨g, r, none⟩ = some (.slice (some ⟨g', 0, none⟩) (gl ls r).length c') ∧ w.cell? ⟨g', c, none⟩ = some (.int .i64 (gi (gl ls r) c)) ∧ w.frozen? ⟨g', c, none⟩ = false ∧ lo ≤ g' ∧
      ∀ x, OwnIntss (w.setCell ⟨g', c, none⟩ (.int .i64 x)) lo (.slice (some ⟨g, 0, none⟩) n cg) (putL ls r c x) := by
  obtain ⟨vs, hL⟩ := h
  obtain rfl := hL.n_eq
  have hlen := hL.len
  have hu : vs[r]? = some vs[r] := List.getElem?_eq_getElem (by omega)
  have hown := (hL.get hu).2
  have hlt : lo ≤ lo := Nat.le_refl _
  rcases hown.2 with ⟨_, h0⟩ | ⟨g', cap, cur, he, hbg, _⟩
  · have := ints_len (gl ls r); rw [h0] at this; simp at this; omega
  · rw [he] at hu hown
    refine ⟨g', cap, ?_, ?_, World.ownsRow.frozenAt hown c, hbg, fun x => ?_⟩
    · rw [World.ownsRow.cellAt hL.row r (by omega)]; exact hu
    · rw [World.ownsRow.cellAt hown c (by omega)]
      unfold ints; rw [List.getElem?_map, List.getElem?_eq_getElem hc, gi_eq hc]; rfl
    · have hst := World.ownsRow.stored hown c (.int .i64 x)
      refine ⟨vs, hL.setInner hu hst.2 ?_⟩
      unfold OwnInts
      rw [List.length_set]
      unfold ints
      rw [List.map_set]
      exact hst.1
theorem OwnIntss.setRow {w w1 : World} {lo g n cg r : Nat} {ls : List (List Int)} {u : Value} {l : List Int} (h : OwnIntss w lo (.slice (some ⟨g, 0, none⟩) n cg) ls) (hr : r < ls.length) (hlo : lo ≤ w.heap.size) (hb : Below w.heap.size w w1) (hu : OwnInts w1 w.heap.size u l) :
    (∃ x, w1.cell? ⟨g, r, none⟩ = some x) ∧ w1.frozen? ⟨g, r, none⟩ = false ∧ lo ≤ g ∧ OwnIntss (w1.setCell ⟨g, r, none⟩ u) lo (.slice (some ⟨g, 0, none⟩) n cg) (ls.set r l) := by
  obtain ⟨vs, hL⟩ := h
  obtain rfl := hL.n_eq
  have hlen := hL.len
  have h1 := hL.below hb (Nat.le_refl _)
  have hst := World.ownsRow.stored h1.row r u
  have hlg : lo ≤ g := (World.ownsRow.lt hL.row g rfl).1
  refine ⟨⟨vs[r], ?_⟩, World.ownsRow.frozenAt h1.row r, hlg, vs.set r u, ?_, ?_, ?_⟩
  · rw [World.ownsRow.cellAt h1.row r (by omega)]; exact List.getElem?_eq_getElem (by omega)
  · rw [List.length_set]; exact hst.1
  · intro i x y hx hy
    by_cases e : r = i
    · subst e
      rw [List.getElem?_set_self (by omega)] at hx
      rw [List.getElem?_set_self hr] at hy
      injection hx with hx; injection hy with hy
      subst hx hy
      exact World.ownsRow.kept (ownsRow_lo hu hlo) hst.2 (ownsRow_ne h1.row hu (by decide))
    · rw [List.getElem?_set_ne e] at hx
      rw [List.getElem?_set_ne e] at hy
      have h2 := h1.inner i x y hx hy
      exact World.ownsRow.kept h2 hst.2 (ownsRow_ne h1.row h2 (by decide))
  · intro i j x y g' hx hy hgx hgy
    have old : ∀ k z, r ≠ k → (vs.set r u)[k]? = some z → z.ownBlock = some g' → g' < w.heap.size := by
      intro k z hk hz hgz
      rw [List.getElem?_set_ne hk] at hz
      exact (World.ownsRow.lt (hL.get hz).2 g' hgz).2
    have new : ∀ z, (vs.set r u)[r]? = some z → z.ownBlock = some g' → w.heap.size ≤ g' := by
      intro z hz hgz
      rw [List.getElem?_set_self (by omega)] at hz
      injection hz with hz
      subst hz
      exact (World.ownsRow.lt hu g' hgz).1
    by_cases e1 : r = i <;> by_cases e2 : r = j
    · omega
    · subst e1; have := new x hx hgx; have := old j y e2 hy hgy; omega
    · subst e2; have := new y hy hgy; have := old i x e1 hx hgx; omega
    · rw [List.getElem?_set_ne e1] at hx
      rw [List.getElem?_set_ne e2] at hy
      exact hL.sep i j x y g' hx hy hgx hgy
def blankL (C R : Nat) : List (List Int) := List.replicate R (List.replicate C (-1))
/-- Who is shown in each cell, behind j performers from the last one on. -/
def shw (fx fy : Int) (C R : Nat) (l : List Spt) : Nat → List (List Int)
  | 0 => blankL C R
  | j + 1 => if (cellAt fx fy C R (gx sptRec l (l.length - 1 - j)).x (gx sptRec l (l.length - 1 - j)).y).2.2 then
      putL (shw fx fy C R l j) (cellAt fx fy C R (gx sptRec l (l.length - 1 - j)).x (gx sptRec l (l.length - 1 - j)).y).2.1.toNat (cellAt fx fy C R (gx sptRec l (l.length - 1 - j)).x (gx sptRec l (l.length - 1 - j)).y).1.toNat ((l.length - 1 - j : Nat) : Int)
    else shw fx fy C R l j
theorem gl_replicate {R : Nat} {x : List Int} {i : Nat} (h : i < R) : gl (List.replicate R x) i = x := by simp [gl, List.getD, h]
theorem shw_shape (fx fy : Int) (C R : Nat) (l : List Spt) (j : Nat) : (shw fx fy C R l j).length = R ∧ ∀ i, i < R → (gl (shw fx fy C R l j) i).length = C := by
  induction j with
  | zero => exact ⟨by simp [shw, blankL], fun i hi => by unfold shw blankL; rw [gl_replicate hi]; simp⟩
  | succ j ih =>
    unfold shw
    split
    · exact ⟨by rw [putL_len]; exact ih.1, fun i hi => by rw [putL_row]; exact ih.2 i hi⟩
    · exact ih
theorem shw_f {fx fy a b : Int} {C R : Nat} {l : List Spt} {j n : Nat} (hn : l.length - 1 - j = n) (h : cellAt fx fy C R (gx sptRec l n).x (gx sptRec l n).y = (a, b, false)) : shw fx fy C R l (j + 1) = shw fx fy C R l j := by
  subst hn
  conv => lhs; unfold shw
  rw [h]; rfl
theorem shw_t {fx fy : Int} {a b C R : Nat} {l : List Spt} {j n : Nat} (hn : l.length - 1 - j = n) (h : cellAt fx fy C R (gx sptRec l n).x (gx sptRec l n).y = ((a : Int), (b : Int), true)) :
    shw fx fy C R l (j + 1) = putL (shw fx fy C R l j) b a (n : Int) := by
  subst hn
  conv => lhs; unfold shw
  rw [h]; simp
/-- The rows while they are made: the first k of them, the next one in part, the others nil. -/
def madeL (C R k m : Nat) : List (List Int) := List.replicate k (List.replicate C (-1)) ++ (List.replicate m (-1) ++ List.replicate (C - m) 0) :: List.replicate (R - k - 1) []
def nilL (C R k : Nat) : List (List Int) := List.replicate k (List.replicate C (-1)) ++ List.replicate (R - k) []
theorem nilL_len {C R k : Nat} (h : k ≤ R) : (nilL C R k).length = R := by simp [nilL]; omega
theorem nilL_set {C R k : Nat} (h : k < R) : (nilL C R k).set k (List.replicate C 0) = madeL C R k 0 := by
  unfold nilL madeL
  obtain ⟨m, hm⟩ : ∃ m, R - k = m + 1 := ⟨R - k - 1, by omega⟩
  rw [List.set_append_right _ _ (by simp), List.length_replicate, Nat.sub_self, hm, List.replicate_succ, List.set_cons_zero]
  simp
theorem nil_rows {w : World} {lo g C R : Nat} (h : w.ownsRow lo 34 1 (.slice (some ⟨g, 0, none⟩) R R) R (madeCells #[.slice none 0 0] (R * 1)).toList) : OwnIntss w lo (.slice (some ⟨g, 0, none⟩) R R) (nilL C R 0) := by
  rw [Nat.mul_one, toList_madeCells_one] at h
  have hn : nilL C R 0 = List.replicate R [] := by simp [nilL]
  rw [hn]
  refine ⟨List.replicate R (.slice none 0 0), ?_, ?_, ?_⟩
  · rw [List.length_replicate]; exact h
  · intro i u l9 hu hl9
    rw [List.getElem?_replicate] at hu hl9
    split at hu
    · rename_i hi
      rw [if_pos hi] at hl9
      injection hu with hu; injection hl9 with hl9
      subst hu hl9
      exact OwnInts.nil_ _ _
    · cases hu
  · intro i j u u2 g9 hu hu2 hg1 hg2
    rw [List.getElem?_replicate] at hu
    split at hu
    · injection hu with hu; subst hu; cases hg1
    · cases hu
theorem zero_row {w : World} {lo g C : Nat} (h : w.ownsRow lo 3 1 (.slice (some ⟨g, 0, none⟩) C C) C (madeCells #[.int .i64 0] (C * 1)).toList) : OwnInts w lo (.slice (some ⟨g, 0, none⟩) C C) (List.replicate C 0) := by
  rw [Nat.mul_one, toList_madeCells_one] at h
  unfold OwnInts
  rw [List.length_replicate]
  have e9 : ints (List.replicate C 0) = List.replicate C (.int .i64 0) := by simp [ints]
  rw [e9]; exact h
theorem madeL_len {C R k m : Nat} (h : k < R) : (madeL C R k m).length = R := by simp [madeL]; omega
theorem madeL_gl {C R k m : Nat} : gl (madeL C R k m) k = List.replicate m (-1) ++ List.replicate (C - m) 0 := by
  unfold madeL gl
  rw [List.getD_eq_getElem?_getD, List.getElem?_append_right (by simp), List.length_replicate, Nat.sub_self]; rfl
theorem madeL_put {C R k m : Nat} (h : m < C) : putL (madeL C R k m) k m (-1) = madeL C R k (m + 1) := by
  unfold putL
  rw [madeL_gl]
  unfold madeL
  rw [List.set_append_right _ _ (by simp), List.length_replicate, Nat.sub_self, List.set_cons_zero]
  obtain ⟨d, hd⟩ : ∃ d, C - m = d + 1 := ⟨C - m - 1, by omega⟩
  have hd' : C - (m + 1) = d := by omega
  rw [List.set_append_right _ _ (by simp), List.length_replicate, Nat.sub_self, hd, hd', List.replicate_succ, List.set_cons_zero, List.replicate_succ' (n := m), List.append_assoc]
  rfl
theorem madeL_all {C R k : Nat} (h : k < R) : madeL C R k C = nilL C R (k + 1) := by
  unfold madeL nilL
  have : R - k - 1 = R - (k + 1) := by omega
  rw [Nat.sub_self, this, List.replicate_succ' (n := k)]
  simp
theorem nilL_all (C R : Nat) : nilL C R R = blankL C R := by simp [nilL, blankL]
set_option maxRecDepth 100000 in
set_option maxHeartbeats 12800000 in
theorem shownIn_any (v : Value) (l : List Spt) (fx fy : Int) (C R : Nat) (w : World) (h : RowAt sptRec w v l) (hf : isFrm fx fy C R = true) (Hs : Hid (∀ i, i < l.length → isSpot (gx sptRec l i).x (gx sptRec l i).y = true)) (h12 : l.length ≤ 12) :
    Calls Try.prog 43 #[.agg #[.int .i64 fx, .int .i64 fy, .int .i64 C, .int .i64 R], v] w (FreshIntss w (shw fx fy C R l l.length)) := by
  obtain ⟨A, ca, rfl, hnA, hcA⟩ := h.shape
  have hft := isFrm_t hf
  obtain ⟨p1, p2, p3, p4, _⟩ := hft
  have Hf := Lib.hid hf
  clear hf
  have hb0 := fun o => (Below.refl w.heap.size w).alloc (Nat.le_refl _) o
  have Hb0 := Lib.hid hb0
  clear hb0
  go_enter Try.func43, Try.ntmps43
  go_upto_region 0 with fail
  go_cut [2, 4] (fun b2 r4 wx => b2 = .pointer (some ⟨w.heap.size, 0, none⟩) ∧ r4 = .slice none 0 0 ∧ Box4 wx w.heap.size fx fy C R ∧ Below w.heap.size w wx)
  case first =>
    go_wp2_with fail
    go_meet
    exact ⟨rfl, rfl, ⟨by go_simp, by go_simp, by go_simp, by go_simp⟩, Hb0.out _⟩
  case rest =>
  obtain ⟨rfl, rfl, bx0, B0⟩ := hcut
  obtain ⟨w0, hw0⟩ : ∃ w0 : World, w0 = wc := ⟨_, rfl⟩
  subst hw0
  have hl0 := bx0.lt
  have h00 := h.below B0 (Nat.le_refl _)
  have hc := bx0.out
  obtain ⟨c0, c1, c2, c3⟩ := hc
  go_wp2_with fail
  clear c0 c1 c2 c3
  go_loopw [5, 14] (fun t s wr => ∃ k : Nat, k ≤ R ∧ s = .int .i64 k ∧ OwnIntss wr w0.heap.size t (blankL C k) ∧ Below w0.heap.size w0 wr) (fun _ s _ => R - (intOf s).toNat)
  case atStart => exact ⟨0, Nat.zero_le _, rfl, OwnIntss.empty w0 _ (Nat.le_refl _), (Below.refl _ _).alloc (Nat.le_refl _) _⟩
  case round =>
    obtain ⟨k, hk, rfl, ho, hb⟩ := hrel
    by_cases hlt : k < R
    · obtain ⟨wi, hwi⟩ : ∃ wi : World, wi = wr := ⟨_, rfl⟩
      subst hwi
      have hc := (bx0.keep hb (Nat.le_refl _)).out
      obtain ⟨c0, c1, c2, c3⟩ := hc
      have hwl : w.heap.size < wi.heap.size := by have := hb.size; omega
      go_wp2_with fail
      clear c0 c1 c2 c3
      go_loopw [6, 19] (fun t s wr => ∃ m : Nat, m ≤ C ∧ s = .int .i64 m ∧ OwnInts wr wi.heap.size t (List.replicate m (-1)) ∧ Below wi.heap.size wi wr) (fun _ s _ => C - (intOf s).toNat)
      case atStart => exact ⟨0, Nat.zero_le _, rfl, OwnInts.empty wi _ (Nat.le_refl _), (Below.refl _ _).alloc (Nat.le_refl _) _⟩
      case round =>
        obtain ⟨m, hm, rfl, hoi, hbi⟩ := hrel
        by_cases hlm : m < C
        · have h9 : (List.replicate m (-1 : Int)).length + 1 ≤ 1099511627776 := by rw [List.length_replicate]; omega
          have hsz := hbi.size
          go_wp2_with (at_builtin; refine wp_app_int _ rfl _ _ rfl wi.heap.size _ (List.replicate m (-1)) rfl hoi (-1) _ rfl rfl h9 hsz ?_; intro v5 w5 ho5 hg5)
          go_roundw
          case rel => exact ⟨m + 1, by omega, by go_num, by rw [List.replicate_succ' (n := m)]; exact ho5, hbi.trans hg5.below⟩
          case measure => simp [intOf]; omega
        · obtain rfl : m = C := by omega
          obtain ⟨A6, c6, rfl, hn6, hc6⟩ := hoi.reads.shape
          have hl6 : (List.replicate m (-1 : Int)).length = m := List.length_replicate
          rw [hl6] at hn6 hoi
          rw [hl6]
          clear hl6
          have h9 : (blankL m k).length + 1 ≤ 1099511627776 := by simp [blankL]; omega
          go_wp2_with (at_builtin; refine wp_app_list wi _ rfl _ _ (by rfl) w0.heap.size _ (blankL m k) (by rfl) ho hb.size hbi _ _ _ (List.replicate m (-1)) hoi _ (by rfl) (by rfl) h9 ?_; intro v5 w5 ho5 hb5)
          go_roundw
          case rel => exact ⟨k + 1, by omega, by go_num, by unfold blankL at *; rw [List.replicate_succ' (n := k)]; exact ho5, hb.trans hb5⟩
          case measure => simp [intOf]; omega
    · obtain rfl : k = R := by omega
      have hlit := OwnIntss.lit ho (by simp [blankL]; omega)
      obtain ⟨gg, cg, rfl, hgg⟩ := hlit
      have hlb : (blankL C k).length = k := by simp [blankL]
      rw [hlb] at ho
      rw [hlb]
      clear hlb
      obtain ⟨wo, hwo⟩ : ∃ wo : World, wo = wr := ⟨_, rfl⟩
      subst hwo
      have hbo := hb
      have hoo := ho
      clear ho hb
      go_wp2_with fail
      go_loopg [7] l.length (fun g s wr => ∃ (j : Nat) (i : Int), j ≤ l.length ∧ l.length ≤ j + g ∧ s = .int .i64 i ∧ Hid (i = (l.length : Int) - 1 - j) ∧ OwnIntss wr w0.heap.size (.slice (some ⟨gg, 0, none⟩) k cg) (shw fx fy C k l j) ∧ Below w0.heap.size w0 wr)
      case atStart => exact ⟨0, _, Nat.zero_le _, by omega, rfl, by show _ = _; omega, hoo, hbo⟩
      case round =>
        obtain ⟨j, i, hj, hjg, rfl, hi, ho, hb⟩ := hrel
        clear hoo
        rcases Int.lt_or_le i 0 with hneg | hpos
        · obtain rfl : j = l.length := by have := hi.out; omega
          have ho9 := Lib.hid (OwnIntss.lo ho (show w.heap.size ≤ w0.heap.size by omega))
          clear ho
          go_wp2_with fail
          go_ret
          exact ⟨_, rfl, ho9.out, B0.trans (hb.mono B0.size)⟩
        · obtain ⟨n, rfl⟩ := Int.eq_ofNat_of_zero_le hpos
          have hjn : l.length - 1 - j = n := by have := hi.out; omega
          have Hjn := Lib.hid hjn
          have hnl : n < l.length := by have := hi.out; omega
          have hjl : j < l.length := by have := hi.out; omega
          clear hjn
          obtain ⟨ba, oa, rfl, ha0, ha1⟩ := spt_at (h00.below hb (Nat.le_refl _)) n hnl
          have hc := (bx0.keep hb (Nat.le_refl _)).out
          obtain ⟨c0, c1, c2, c3⟩ := hc
          have D0 := (Below.refl wr.heap.size wr).drew
          have hi1 : (n : Int) < (l.length : Int) := by omega
          go_upto_region 14 with fail
          go_cut [8, 9, 10] (fun s t u wx => CellRel fx fy C k (gx sptRec l n) s t u ∧ Below wr.heap.size wr wx)
          case first =>
            (first | (go_region_held3 (fun w' => w'.cell? ⟨w.heap.size, 0, none⟩ = some (.int .i64 fx) ∧ w'.cell? ⟨w.heap.size, 1, none⟩ = some (.int .i64 fy) ∧ w'.cell? ⟨w.heap.size, 2, none⟩ = some (.int .i64 C) ∧ w'.cell? ⟨w.heap.size, 3, none⟩ = some (.int .i64 k) ∧ w'.cell? ⟨ba, oa + n * 2, none⟩ = some (.int .i64 (gx sptRec l n).x) ∧ w'.cell? ⟨ba, oa + n * 2 + 1, none⟩ = some (.int .i64 (gx sptRec l n).y))
              (first | go_keep | exact ⟨Below.keepC (D0.next (Nat.le_refl _) d9) c0 (Nat.le_refl _), Below.keepC (D0.next (Nat.le_refl _) d9) c1 (Nat.le_refl _), Below.keepC (D0.next (Nat.le_refl _) d9) c2 (Nat.le_refl _), Below.keepC (D0.next (Nat.le_refl _) d9) c3 (Nat.le_refl _), Below.keepC (D0.next (Nat.le_refl _) d9) ha0 (Nat.le_refl _), Below.keepC (D0.next (Nat.le_refl _) d9) ha1 (Nat.le_refl _)⟩)
              ((go_at_call 44; refine (cellOf_any _ _ _ _ _ _ _ Hf.out (Hs.out n hnl)).mono ?_; rintro e w9 ⟨rfl, d9⟩))) | fail)
            all_goals
              go_wp2_with fail
              go_meet
              exact ⟨⟨_, _, _, rfl, rfl, rfl, rfl⟩, D0.next (Nat.le_refl _) d9⟩
          case rest =>
          obtain ⟨hcr, d1⟩ := hcut
          have hcr2 := hcr.out
          obtain ⟨x1, y1, o1, rfl, rfl, rfl, e1⟩ := hcr2
          clear hcr c0 c1 c2 c3 ha0 ha1 D0
          obtain ⟨W1, hW1⟩ : ∃ W1 : World, W1 = wc := ⟨_, rfl⟩
          subst hW1
          have ho1 := OwnIntss.below ho d1 (Nat.le_refl _)
          have hb1 := hb.next (Nat.le_refl _) d1
          have hn1 : Hid ((n : Int) - 1 = (l.length : Int) - 1 - ((j + 1 : Nat) : Int)) := by show _ = _; have := hi.out; omega
          cases o1
          case false =>
            have hs := Lib.hid (shw_f Hjn.out e1)
            clear e1
            go_wp2_with fail
            go_roundg (gk - 1)
            case measure => omega
            case rel => exact ⟨j + 1, (n : Int) - 1, by omega, by omega, rfl, hn1, by rw [hs.out]; exact ho1, hb1⟩
          case true =>
            have hct := cellAt_t e1
            obtain ⟨t1, t2, t3, t4⟩ := hct
            obtain ⟨a, rfl⟩ := Int.eq_ofNat_of_zero_le t1
            obtain ⟨b, rfl⟩ := Int.eq_ofNat_of_zero_le t3
            have hs := Lib.hid (shw_t Hjn.out e1)
            have hsh := shw_shape fx fy C k l j
            have Hsh := Lib.hid hsh
            clear e1 hsh
            have hat := OwnIntss.at2 ho1 b a (by have := Hsh.out.1; omega) (by have := Hsh.out.2 b (by omega); omega)
            rw [Hsh.out.2 b (by omega)] at hat
            obtain ⟨g2, cg2, k1, k2, k3, k4, k5⟩ := hat
            have hst := Lib.hid (k5 (n : Int))
            clear k5
            have ha1 : (a : Int) < (C : Int) := by omega
            have hb2 : (b : Int) < (k : Int) := by omega
            go_wp2_with fail
            go_roundg (gk - 1)
            case measure => omega
            case rel => exact ⟨j + 1, (n : Int) - 1, by omega, by omega, rfl, hn1, by rw [hs.out]; exact hst.out, hb1.setCell (by exact k4) _⟩
set_option maxRecDepth 100000 in
set_option maxHeartbeats 12800000 in
theorem vwShown_any (v : Value) (l : List Spt) (fx fy : Int) (C R : Nat) (w : World) (h : RowAt sptRec w v l) (hf : isFrm fx fy C R = true) (Hs : Hid (∀ i, i < l.length → isSpot (gx sptRec l i).x (gx sptRec l i).y = true)) (h12 : l.length ≤ 12) :
    Calls Try.prog 45 #[.agg #[.int .i64 fx, .int .i64 fy, .int .i64 C, .int .i64 R], v] w (FreshIntss w (shw fx fy C R l l.length)) := by
  obtain ⟨A, ca, rfl, hnA, hcA⟩ := h.shape
  have hft := isFrm_t hf
  obtain ⟨p1, p2, p3, p4, _⟩ := hft
  have Hf := Lib.hid hf
  clear hf
  have hb0 := fun o => (Below.refl w.heap.size w).alloc (Nat.le_refl _) o
  have Hb0 := Lib.hid hb0
  clear hb0
  go_enter Try.func45, Try.ntmps45
  go_upto_region 0 with fail
  go_cut [2, 4] (fun b2 r4 wx => b2 = .pointer (some ⟨w.heap.size, 0, none⟩) ∧ r4 = .slice none 0 0 ∧ Box4 wx w.heap.size fx fy C R ∧ Below w.heap.size w wx)
  case first =>
    go_wp2_with fail
    go_meet
    exact ⟨rfl, rfl, ⟨by go_simp, by go_simp, by go_simp, by go_simp⟩, Hb0.out _⟩
  case rest =>
  obtain ⟨rfl, rfl, bx0, B0⟩ := hcut
  obtain ⟨w0, hw0⟩ : ∃ w0 : World, w0 = wc := ⟨_, rfl⟩
  subst hw0
  have hl0 := bx0.lt
  have h00 := h.below B0 (Nat.le_refl _)
  have hc := bx0.out
  obtain ⟨c0, c1, c2, c3⟩ := hc
  obtain ⟨i0, hi0, hz0, hz1, hz2⟩ := info_parts info_ints
  obtain ⟨j0, hj0, hy0, hy1, hy2⟩ := info_parts info_int
  go_upto_region 2 with (at_make; refine wpList_make_full _ rfl _ _ 39 rfl w0.heap.size 34 i0 _ 1 Try.underlying39 hi0 hz0 hz1 _ _ _ _ R rfl rfl (by rfl) (by rfl) (by rw [hz2]; omega) (by unfold maxLen; omega) (Nat.le_refl _) ?_; intro w5 hown hgrow)
  have hb5 : Below w0.heap.size w0 w5 := (Below.refl _ _).grown hgrow (Nat.le_refl _) (fun k hk => by cases hk)
  have ho5 : OwnIntss w5 w0.heap.size (.slice (some ⟨w0.heap.size, 0, none⟩) R R) (nilL C R 0) := nil_rows hown
  clear hown hgrow c0 c1 c2 c3
  go_wp2_with fail
  go_loopw [17] (fun s wr => ∃ k : Nat, k ≤ R ∧ s = .int .i64 k ∧ OwnIntss wr w0.heap.size (.slice (some ⟨w0.heap.size, 0, none⟩) R R) (nilL C R k) ∧ Below w0.heap.size w0 wr) (fun s _ => R - (intOf s).toNat)
  case atStart => exact ⟨0, Nat.zero_le _, rfl, ho5, hb5⟩
  case round =>
    obtain ⟨k, hk, rfl, ho, hb⟩ := hrel
    by_cases hlt : k < R
    · obtain ⟨wi, hwi⟩ : ∃ wi : World, wi = wr := ⟨_, rfl⟩
      subst hwi
      clear ho5 hb5
      have hc := (bx0.keep hb (Nat.le_refl _)).out
      obtain ⟨c0, c1, c2, c3⟩ := hc
      have hwl : w.heap.size < wi.heap.size := by have := hb.size; omega
      have hk0 : (0 : Int) ≤ (k : Int) := by omega
      have hk1 : (k : Int) < (R : Int) := by omega
      have hnl := nilL_len (C := C) (R := R) (k := k) (by omega)
      have Hnl := Lib.hid hnl
      clear hnl
      go_wp2_with (at_make; refine wpList_make_full _ rfl _ _ 34 rfl wi.heap.size 3 j0 _ 1 Try.underlying34 hj0 hy0 hy1 _ _ _ _ C rfl rfl (by rfl) (by rfl) (by rw [hy2]; omega) (by unfold maxLen; omega) (Nat.le_refl _) ?_; intro w6 hown hgrow; have hb6 : Below wi.heap.size wi w6 := (Below.refl _ _).grown hgrow (Nat.le_refl _) (fun k hk => by cases hk); have ho6 : OwnInts w6 wi.heap.size (.slice (some ⟨wi.heap.size, 0, none⟩) C C) (List.replicate C 0) := zero_row hown; have hsr := OwnIntss.setRow ho (by rw [Hnl.out]; exact hlt) hb.size hb6 ho6; obtain ⟨⟨x9, k1⟩, k2, k3, k4⟩ := hsr; rw [nilL_set hlt] at k4; have K4 := Lib.hid k4; have hb7 := (hb.trans (hb6.mono hb.size)).setCell (p := ⟨w0.heap.size, k, none⟩) (by exact k3) (.slice (some ⟨wi.heap.size, 0, none⟩) C C); have Hb7 := Lib.hid hb7; clear k4 hown hgrow hb7)
      clear c0 c1 c2 c3
      go_loopw [31] (fun s wr => ∃ m : Nat, m ≤ C ∧ s = .int .i64 m ∧ OwnIntss wr w0.heap.size (.slice (some ⟨w0.heap.size, 0, none⟩) R R) (madeL C R k m) ∧ Below w0.heap.size w0 wr) (fun s _ => C - (intOf s).toNat)
      case atStart => exact ⟨0, Nat.zero_le _, rfl, K4.out, Hb7.out⟩
      case round =>
        obtain ⟨m, hm, rfl, hoi, hbi⟩ := hrel
        clear k1 k2
        by_cases hlm : m < C
        · have hat := OwnIntss.at2 hoi k m (by rw [madeL_len hlt]; exact hlt) (by rw [madeL_gl]; simp; omega)
          have hrl : (gl (madeL C R k m) k).length = C := by rw [madeL_gl]; simp; omega
          rw [hrl] at hat
          obtain ⟨g2, cg2, q1, q2, q3, q4, q5⟩ := hat
          have hst := q5 (-1)
          rw [madeL_put hlm] at hst
          have Hst := Lib.hid hst
          clear q5 hrl hst
          have hm0 : (0 : Int) ≤ (m : Int) := by omega
          have hm1 : (m : Int) < (C : Int) := by omega
          go_wp2_with fail
          go_roundw
          case rel => exact ⟨m + 1, by omega, by go_num, Hst.out, hbi.setCell (by exact q4) _⟩
          case measure => simp [intOf]; omega
        · obtain rfl : m = C := by omega
          have hnx := Lib.hid (madeL_all (C := m) hlt)
          go_wp2_with fail
          go_roundw
          case rel => exact ⟨k + 1, by omega, by go_num, by rw [← hnx.out]; exact hoi, hbi⟩
          case measure => simp [intOf]; omega
    · obtain rfl : k = R := by omega
      rw [nilL_all] at ho
      clear ho5 hb5
      obtain ⟨wo, hwo⟩ : ∃ wo : World, wo = wr := ⟨_, rfl⟩
      subst hwo
      have hbo := hb
      have hoo := ho
      clear ho hb
      go_wp2_with fail
      go_loopg [8] l.length (fun g s wr => ∃ (j : Nat) (i : Int), j ≤ l.length ∧ l.length ≤ j + g ∧ s = .int .i64 i ∧ Hid (i = (l.length : Int) - 1 - j) ∧ OwnIntss wr w0.heap.size (.slice (some ⟨w0.heap.size, 0, none⟩) k k) (shw fx fy C k l j) ∧ Below w0.heap.size w0 wr)
      case atStart => exact ⟨0, _, Nat.zero_le _, by omega, rfl, by show _ = _; omega, hoo, hbo⟩
      case round =>
        obtain ⟨j, i, hj, hjg, rfl, hi, ho, hb⟩ := hrel
        clear hoo
        rcases Int.lt_or_le i 0 with hneg | hpos
        · obtain rfl : j = l.length := by have := hi.out; omega
          have ho9 := Lib.hid (OwnIntss.lo ho (show w.heap.size ≤ w0.heap.size by omega))
          clear ho
          go_wp2_with fail
          go_ret
          exact ⟨_, rfl, ho9.out, B0.trans (hb.mono B0.size)⟩
        · obtain ⟨n, rfl⟩ := Int.eq_ofNat_of_zero_le hpos
          have hjn : l.length - 1 - j = n := by have := hi.out; omega
          have Hjn := Lib.hid hjn
          have hnl : n < l.length := by have := hi.out; omega
          have hjl : j < l.length := by have := hi.out; omega
          clear hjn
          obtain ⟨ba, oa, rfl, ha0, ha1⟩ := spt_at (h00.below hb (Nat.le_refl _)) n hnl
          have hc := (bx0.keep hb (Nat.le_refl _)).out
          obtain ⟨c0, c1, c2, c3⟩ := hc
          have D0 := (Below.refl wr.heap.size wr).drew
          have hi1 : (n : Int) < (l.length : Int) := by omega
          go_upto_region 15 with fail
          go_cut [9, 10, 11] (fun s t u wx => CellRel fx fy C k (gx sptRec l n) s t u ∧ Below wr.heap.size wr wx)
          case first =>
            (first | (go_region_held3 (fun w' => w'.cell? ⟨w.heap.size, 0, none⟩ = some (.int .i64 fx) ∧ w'.cell? ⟨w.heap.size, 1, none⟩ = some (.int .i64 fy) ∧ w'.cell? ⟨w.heap.size, 2, none⟩ = some (.int .i64 C) ∧ w'.cell? ⟨w.heap.size, 3, none⟩ = some (.int .i64 k) ∧ w'.cell? ⟨ba, oa + n * 2, none⟩ = some (.int .i64 (gx sptRec l n).x) ∧ w'.cell? ⟨ba, oa + n * 2 + 1, none⟩ = some (.int .i64 (gx sptRec l n).y))
              (first | go_keep | exact ⟨Below.keepC (D0.next (Nat.le_refl _) d9) c0 (Nat.le_refl _), Below.keepC (D0.next (Nat.le_refl _) d9) c1 (Nat.le_refl _), Below.keepC (D0.next (Nat.le_refl _) d9) c2 (Nat.le_refl _), Below.keepC (D0.next (Nat.le_refl _) d9) c3 (Nat.le_refl _), Below.keepC (D0.next (Nat.le_refl _) d9) ha0 (Nat.le_refl _), Below.keepC (D0.next (Nat.le_refl _) d9) ha1 (Nat.le_refl _)⟩)
              ((go_at_call 46; refine (vwCell_any _ _ _ _ _ _ _ Hf.out (Hs.out n hnl)).mono ?_; rintro e w9 ⟨rfl, d9⟩))) | fail)
            all_goals
              go_wp2_with fail
              go_meet
              exact ⟨⟨_, _, _, rfl, rfl, rfl, rfl⟩, D0.next (Nat.le_refl _) d9⟩
          case rest =>
          obtain ⟨hcr, d1⟩ := hcut
          have hcr2 := hcr.out
          obtain ⟨x1, y1, o1, rfl, rfl, rfl, e1⟩ := hcr2
          clear hcr c0 c1 c2 c3 ha0 ha1 D0
          obtain ⟨W1, hW1⟩ : ∃ W1 : World, W1 = wc := ⟨_, rfl⟩
          subst hW1
          have ho1 := OwnIntss.below ho d1 (Nat.le_refl _)
          have hb1 := hb.next (Nat.le_refl _) d1
          have hn1 : Hid ((n : Int) - 1 = (l.length : Int) - 1 - ((j + 1 : Nat) : Int)) := by show _ = _; have := hi.out; omega
          cases o1
          case false =>
            have hs := Lib.hid (shw_f Hjn.out e1)
            clear e1
            go_wp2_with fail
            go_roundg (gk - 1)
            case measure => omega
            case rel => exact ⟨j + 1, (n : Int) - 1, by omega, by omega, rfl, hn1, by rw [hs.out]; exact ho1, hb1⟩
          case true =>
            have hct := cellAt_t e1
            obtain ⟨t1, t2, t3, t4⟩ := hct
            obtain ⟨a, rfl⟩ := Int.eq_ofNat_of_zero_le t1
            obtain ⟨b, rfl⟩ := Int.eq_ofNat_of_zero_le t3
            have hs := Lib.hid (shw_t Hjn.out e1)
            have hsh := shw_shape fx fy C k l j
            have Hsh := Lib.hid hsh
            clear e1 hsh
            have hat := OwnIntss.at2 ho1 b a (by have := Hsh.out.1; omega) (by have := Hsh.out.2 b (by omega); omega)
            rw [Hsh.out.2 b (by omega)] at hat
            obtain ⟨g2, cg2, k1, k2, k3, k4, k5⟩ := hat
            have hst := Lib.hid (k5 (n : Int))
            clear k5
            have ha1 : (a : Int) < (C : Int) := by omega
            have hb2 : (b : Int) < (k : Int) := by omega
            go_wp2_with fail
            go_roundg (gk - 1)
            case measure => omega
            case rel => exact ⟨j + 1, (n : Int) - 1, by omega, by omega, rfl, hn1, by rw [hs.out]; exact hst.out, hb1.setCell (by exact k4) _⟩
end Go.Proofs.Ytjbffahnbkpcnaa
