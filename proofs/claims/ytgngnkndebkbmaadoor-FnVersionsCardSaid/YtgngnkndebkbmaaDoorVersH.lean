/- Contracts of the laws' helpers for slices of versions. -/
import Derived.Test.YtgngnkndebkbmaaDoorVers
import Derived.Deep.RegionWith
set_option linter.unusedSimpArgs false
set_option linter.unusedVariables false
namespace Go.Proofs.YtgngnkndebkbmaaDoor
open Go.RowKit

def Ver.agg (x : Ver) : Value := .agg #[.int .i64 x.p, .int .i64 x.k, .int .i64 x.v]
theorem info_ver : (Tryd.prog.info? 38).map (fun i => (i.zero, i.size, i.bytes)) = some (some (.agg #[.int .i64 0, .int .i64 0, .int .i64 0]), 3, 24) := by kernel_rfl

/-- Versions of the call's own. -/
def OwnVers (w : World) (lo : Nat) (v : Value) (l : List Ver) : Prop := w.ownsRow lo 38 3 v l.length (vcells l)
theorem OwnVers.reads {w : World} {lo : Nat} {v : Value} {l : List Ver} (h : OwnVers w lo v l) : VersAt w v l := Sl.of_own h
def vflat (l : List Ver) : List Int := l.flatMap fun x => [x.p, x.k, x.v]
theorem vcells_flat (l : List Ver) : vcells l = ints (vflat l) := by
  induction l with
  | nil => rfl
  | cons x l ih => simp only [vcells, vflat, ints, List.flatMap_cons, List.map_append] at ih ⊢; rw [ih]; rfl
theorem vflat_len (l : List Ver) : (vflat l).length = l.length * 3 := by
  have := vcells_len l
  rwa [vcells_flat, ints_len] at this

theorem vflat_take (l : List Ver) (k : Nat) (h : k < l.length) : (vflat l).take ((k + 1) * 3) = (vflat l).take (k * 3) ++ [(gv l k).p, (gv l k).k, (gv l k).v] := by
  induction l generalizing k with
  | nil => simp at h
  | cons x l ih =>
    have e : vflat (x :: l) = x.p :: x.k :: x.v :: vflat l := rfl
    cases k with
    | zero => rw [e]; simp [gv]
    | succ k =>
      have := ih k (by simpa using h)
      rw [e, show (k + 1 + 1) * 3 = (k + 1) * 3 + 1 + 1 + 1 from by omega, show (k + 1) * 3 = k * 3 + 1 + 1 + 1 from by omega]
      simp only [List.take_succ_cons]
      rw [show k * 3 + 1 + 1 + 1 = (k + 1) * 3 from by omega, this]
      simp [gv]
/-- Three stores side by side into a row of the call's own. -/
theorem own3 {w : World} {lo e n c g i : Nat} {xs : List Int} (h : w.ownsRow lo e 3 (.slice (some ⟨g, 0, none⟩) n c) n (ints xs)) (a b d : Int) :
    (((w.setCell ⟨g, i, none⟩ (.int .i64 a)).setCell ⟨g, i + 1, none⟩ (.int .i64 b)).setCell ⟨g, i + 2, none⟩ (.int .i64 d)).ownsRow lo e 3 (.slice (some ⟨g, 0, none⟩) n c) n (ints (((xs.set i a).set (i + 1) b).set (i + 2) d)) ∧
    w.grownBy (((w.setCell ⟨g, i, none⟩ (.int .i64 a)).setCell ⟨g, i + 1, none⟩ (.int .i64 b)).setCell ⟨g, i + 2, none⟩ (.int .i64 d)) (some g) := by
  have h1 := h.stored i (.int .i64 a)
  have h2 := h1.1.stored (i + 1) (.int .i64 b)
  have h3 := h2.1.stored (i + 2) (.int .i64 d)
  refine ⟨?_, h1.2.trans (h2.2.trans h3.2)⟩
  have := h3.1
  unfold ints at this ⊢
  rwa [List.map_set, List.map_set, List.map_set]
theorem set3 (A R : List Int) (x y z a b d : Int) : (((A ++ (x :: y :: z :: R)).set A.length a).set (A.length + 1) b).set (A.length + 2) d = A ++ (a :: b :: d :: R) := by
  rw [List.set_append_right _ _ (Nat.le_refl _), Nat.sub_self, List.set_append_right _ _ (by omega), List.set_append_right _ _ (by omega), Nat.add_sub_cancel_left, Nat.add_sub_cancel_left]
  rfl
def vstate (l : List Ver) (k : Nat) : List Int := (vflat l).take (k * 3) ++ List.replicate ((l.length - k) * 3) 0
theorem vstate_len (l : List Ver) (k : Nat) (h : k ≤ l.length) : (vstate l k).length = l.length * 3 := by
  unfold vstate
  rw [List.length_append, List.length_take, List.length_replicate, vflat_len]
  have : k * 3 ≤ l.length * 3 := Nat.mul_le_mul_right _ h
  rw [Nat.min_eq_left this, Nat.sub_mul]; omega
theorem vstate_set (l : List Ver) (k : Nat) (h : k < l.length) : (((vstate l k).set (k * 3) (gv l k).p).set (k * 3 + 1) (gv l k).k).set (k * 3 + 2) (gv l k).v = vstate l (k + 1) := by
  unfold vstate
  have hA : ((vflat l).take (k * 3)).length = k * 3 := by rw [List.length_take, vflat_len]; omega
  obtain ⟨m, hm⟩ : ∃ m, l.length - k = m + 1 := ⟨l.length - k - 1, by omega⟩
  have hm' : l.length - (k + 1) = m := by omega
  have e : List.replicate ((m + 1) * 3) (0 : Int) = 0 :: 0 :: 0 :: List.replicate (m * 3) 0 := by rw [show (m + 1) * 3 = m * 3 + 1 + 1 + 1 from by omega]; simp [List.replicate_succ]
  rw [hm, hm', e, vflat_take l k h]
  have := set3 ((vflat l).take (k * 3)) (List.replicate (m * 3) 0) 0 0 0 (gv l k).p (gv l k).k (gv l k).v
  rw [hA] at this
  rw [this, List.append_assoc]; rfl
theorem vstate_at (l : List Ver) (k j : Nat) (h : k < l.length) (hj : j < 3) : (ints (vstate l k))[k * 3 + j]? = some (.int .i64 0) := by
  have hA : ((vflat l).take (k * 3)).length = k * 3 := by rw [List.length_take, vflat_len]; omega
  unfold vstate ints
  rw [List.getElem?_map, List.getElem?_append_right (by omega), hA, Nat.add_sub_cancel_left, List.getElem?_replicate, if_pos (by omega)]
  rfl
theorem vstate_all (l : List Ver) : ints (vstate l l.length) = vcells l := by
  rw [vcells_flat]; unfold vstate
  rw [← vflat_len, List.take_length]; simp

def FreshVers (w : World) (l : List Ver) (e : Ending) (w' : World) : Prop := ∃ v, e = .returned v ∧ OwnVers w' w.heap.size v l ∧ Below w.heap.size w w'
theorem set_intsI (l : List Int) (k : Nat) (y : Int) : (ints l).set k (I y) = ints (l.set k y) := by unfold ints; rw [List.map_set]
def OwnVersIn (w : World) (lo hi : Nat) (v : Value) (l : List Ver) : Prop := OwnVers w lo v l ∧ ∀ g, v.ownBlock = some g → g < hi
theorem OwnVers.in_ {w : World} {lo : Nat} {v : Value} {l : List Ver} (h : OwnVers w lo v l) : OwnVersIn w lo w.heap.size v l := ⟨h, fun g hg => (World.ownsRow.lt h g hg).2⟩
theorem OwnVersIn.reads {w : World} {lo hi : Nat} {v : Value} {l : List Ver} (h : OwnVersIn w lo hi v l) : VersAt w v l := h.1.reads
theorem OwnVersIn.keep {w w' : World} {lo hi : Nat} {v : Value} {l : List Ver} (h : OwnVersIn w lo hi v l) (hk : KeepIn lo hi w w') : OwnVersIn w' lo hi v l := ⟨ownsRow_keep h.1 hk (Nat.le_refl _) h.2, h.2⟩
def VersMarked (w : World) (lo hi : Nat) (v : Value) (k0 : Int) (l : List Ver) : Prop := w.ownsRow lo 38 3 v l.length (ints (marks k0 (l.length * 3))) ∧ ∀ g, v.ownBlock = some g → g < hi
theorem VersMarked.keep {w w' : World} {lo hi : Nat} {v : Value} {k0 : Int} {l : List Ver} (h : VersMarked w lo hi v k0 l) (hk : KeepIn lo hi w w') : VersMarked w' lo hi v k0 l := ⟨ownsRow_keep h.1 hk (Nat.le_refl _) h.2, h.2⟩
def VersMarkPost (w : World) (lo hi : Nat) (v : Value) (k0 : Int) (l : List Ver) (e : Ending) (w' : World) : Prop :=
  e = .returned (.int .i64 (k0 + (l.length * 3 : Nat))) ∧ VersMarked w' lo hi v k0 l ∧ Apart lo hi w w'

theorem marked3 (k0 : Int) (xs : List Int) (j : Nat) (h : j + 2 < xs.length) : (((marked k0 xs j).set j (k0 + j)).set (j + 1) (k0 + j + 1)).set (j + 2) (k0 + j + 1 + 1) = marked k0 xs (j + 3) := by
  have inj : ∀ a b : List Int, ints a = ints b → a = b := fun a b hab => by
    unfold ints at hab
    exact (List.map_inj_right (fun x y hxy => by injection hxy)).1 hab
  have e0 := marked_set k0 xs j (by omega)
  have e1 := marked_set k0 xs (j + 1) (by omega)
  have e2 := marked_set k0 xs (j + 2) (by omega)
  rw [set_intsI] at e0 e1 e2
  have f0 := inj _ _ e0
  have f1 := inj _ _ e1
  have f2 := inj _ _ e2
  rw [f0, show k0 + (j : Int) + 1 = k0 + ((j + 1 : Nat) : Int) from by omega, f1, show k0 + ((j + 1 : Nat) : Int) + 1 = k0 + ((j + 2 : Nat) : Int) from by omega, f2]

theorem Sl.at3 {w : World} {A : Option Addr} {n c : Nat} {xs : List Int} (h : Sl w 3 (.slice A n c) n (ints xs)) (i : Nat) (hi : i < n) :
    ∃ b o, A = some ⟨b, o, none⟩ ∧ w.cell? ⟨b, o + i * 3, none⟩ = some (.int .i64 (gi xs (i * 3))) ∧ w.cell? ⟨b, o + i * 3 + 1, none⟩ = some (.int .i64 (gi xs (i * 3 + 1))) ∧ w.cell? ⟨b, o + i * 3 + 2, none⟩ = some (.int .i64 (gi xs (i * 3 + 2))) := by
  obtain ⟨hl, A', c', he, h1, h2, h3, h4⟩ := h
  injection he with e1 e2 e3
  subst e1
  obtain ⟨b, o, rfl, hc⟩ := h4 (by omega)
  rw [ints_len] at hl
  have hcell : ∀ j, j < 3 → w.cell? ⟨b, o + i * 3 + j, none⟩ = some (.int .i64 (gi xs (i * 3 + j))) := by
    intro j hj
    have hlt : i * 3 + j < (ints xs).length := by rw [ints_len]; omega
    have := hc (i * 3 + j) _ (List.getElem?_eq_getElem hlt)
    rw [ints_at (List.getElem?_eq_getElem hlt), ← Nat.add_assoc] at this
    exact this
  exact ⟨b, o, rfl, hcell 0 (by omega), hcell 1 (by omega), hcell 2 (by omega)⟩

end Go.Proofs.YtgngnkndebkbmaaDoor
