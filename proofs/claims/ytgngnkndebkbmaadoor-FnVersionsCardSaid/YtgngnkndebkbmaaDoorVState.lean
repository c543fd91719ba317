/- Contracts of the functions on versions: the way in the program, states. -/
import Derived.Test.YtgngnkndebkbmaaDoorVWalk
import Derived.Test.YtgngnkndebkbmaaDoorRev
set_option linter.unusedSimpArgs false
set_option linter.unusedVariables false
namespace Go.Proofs.YtgngnkndebkbmaaDoor
open Go.RowKit

theorem ret_unit {e : Ending} (h : e = .returned (.tuple #[])) : e = .returned (.tuple #[]) := h
set_option maxHeartbeats 1600000 in
theorem wayTo_any (v : Value) (l : List Ver) (i : Int) (w : World) (h : VersAt w v l) (hv : Hid (areVers l = true)) (i0 : 0 ≤ i) (i1 : i < l.length) :
    Calls Tryd.prog 41 #[v, .int .i64 i] w (FreshInts w (wayTo l i)) := by
  obtain ⟨A, c, rfl, hnc, hc63⟩ := h.shape
  have hub := up_bd hv.out i1
  have h60 := (areVers_parts hv.out).2.1
  have hu0 : 0 < (up l i).length := by rw [up_step hv.out i i0 i1]; simp
  go_enter Tryd.func41, Tryd.ntmps41
  go_wp2_with fail
  go_loopw [1, 5] (fun s t wr => ∃ (a : Int) (u : List Int), -1 ≤ a ∧ a < l.length ∧ s = .int .i64 a ∧ OwnInts wr w.heap.size t u ∧ Hid (up l i = u ++ up l a) ∧ Hid (u.length ≤ 60) ∧ Below w.heap.size w wr) (fun s _ _ => (intOf s + 1).toNat)
  case atStart => exact ⟨i, [], by omega, i1, rfl, OwnInts.empty w _ (Nat.le_refl _), (by show _ = _; simp), Nat.zero_le _, (Below.refl _ _).alloc (Nat.le_refl _) _⟩
  case round =>
    obtain ⟨a, u, a0, a1, rfl, ho, hr, hul, hb⟩ := hrel
    by_cases h0 : 0 ≤ a
    · obtain ⟨n, rfl⟩ := Int.eq_ofNat_of_zero_le h0
      obtain ⟨bb, o, rfl, hc, _, _⟩ := VersAt.at_ h n (by omega)
      have hp : -1 ≤ (gv l n).p ∧ (gv l n).p < (n : Int) := by have := ver_at hv.out n (by omega); omega
      obtain ⟨p0, p1⟩ := hp
      have hr2 : Hid (up l i = (u ++ [(n : Int)]) ++ up l (gv l n).p) := by
        have e := up_step hv.out (n : Int) (by omega) a1
        show _ = _
        rw [hr.out, e, List.append_assoc]; rfl
      have hul2 : Hid ((u ++ [(n : Int)]).length ≤ 60) := by
        show _ ≤ _
        have := congrArg List.length hr2.out
        rw [List.length_append] at this
        omega
      have hul1 := hul.out
      go_wp2_with (at_builtin; refine wp_app_int _ rfl _ _ rfl w.heap.size _ u rfl ho (n : Int) _ rfl rfl (by omega) (by exact hb.size) ?_; intro v1 w1 ho1 hg1; have hb1 := hb.trans hg1.below; have hc1 := Below.keepCell hb1 hc (Nat.le_refl _))
      go_roundw
      case rel => exact ⟨(gv l n).p, u ++ [(n : Int)], p0, by omega, rfl, ho1, hr2, hul2, hb1⟩
      case measure => simp [intOf]; omega
    · have hx : a = -1 := by omega
      subst hx
      have hf : Hid (up l i = u) := by
        show _ = _
        rw [hr.out, up_neg l _ (by omega), List.append_nil]
      have hf0 : 0 < u.length := by rw [← hf.out]; exact hu0
      have hul1 := hul.out
      go_wp2_with fail
      refine (reverse_any _ u _ _ ho hf0 (by omega)).mono ?_; rintro e w1 ⟨rfl, ho1, hg1⟩
      have hb1 := hb.trans (ownsRow_below ho hg1 hb.size)
      have hr1 : Hid (u.reverse = wayTo l i) := by show _ = _; unfold wayTo; rw [hf.out]
      go_wp2_with fail
      go_ret
      exact ⟨_, rfl, hr1.out ▸ ho1, hb1⟩
theorem vrWay_in (v : Value) (l : List Ver) (i : Int) (w : World) (h : VersAt w v l) (hv : Hid (areVers l = true)) (i0 : 0 ≤ i) (i1 : i < l.length) :
    Calls Tryd.prog 43 #[v, .int .i64 i] w (FreshInts w (wayTo l i)) := vrWay_any v l i w h hv (by omega) i1
/-- The length of a slice. -/
def lenOf : Value → Nat
  | .slice _ n _ => n
  | _ => 0
/-- A blank state of k keys. -/
def blanks (k : Nat) : List Int := List.replicate k (-1)
theorem blanks_len (k : Nat) : (blanks k).length = k := by simp [blanks]
theorem blanks_succ (k : Nat) : blanks k ++ [-1] = blanks (k + 1) := by unfold blanks; rw [List.replicate_succ']
theorem stateOf_take (l : List Ver) (ks : List Int) (k : Nat) (h : k < ks.length) : stateOf l (ks.take (k + 1)) = put1 l (stateOf l (ks.take k)) (gi ks k) := by
  unfold stateOf
  rw [foldl_take_gi _ _ _ _ h]
theorem OwnInts.base {w : World} {lo lo' : Nat} {v : Value} {l : List Int} (h : OwnInts w lo v l) (hl : lo' ≤ lo) : OwnInts w lo' v l := by
  refine ⟨h.1, ?_⟩
  rcases h.2 with hn | ⟨g, cap, cur, rfl, hbg, rest⟩
  · exact .inl hn
  · exact .inr ⟨g, cap, cur, rfl, by omega, rest⟩
set_option maxHeartbeats 3200000 in
theorem stateAt_any (v : Value) (l : List Ver) (i : Int) (w : World) (h : VersAt w v l) (hv : Hid (areVers l = true)) (i0 : 0 ≤ i) (i1 : i < l.length) :
    Calls Tryd.prog 55 #[v, .int .i64 i] w (FreshInts w (stateAt l i)) := by
  obtain ⟨A, c, rfl, hnc, hc63⟩ := h.shape
  have hwl := wayTo_len hv.out i1
  have h60 := (areVers_parts hv.out).2.1
  go_enter Tryd.func55, Tryd.ntmps55
  go_wp2_with fail
  go_loopw [5, 9] (fun t s wr => ∃ k : Nat, k ≤ 8 ∧ s = .int .i64 k ∧ OwnInts wr w.heap.size t (blanks k) ∧ Below w.heap.size w wr) (fun _ s _ => 8 - (intOf s).toNat)
  case atStart => exact ⟨0, by omega, rfl, OwnInts.empty w _ (Nat.le_refl _), (Below.refl _ _).alloc (Nat.le_refl _) _⟩
  case round =>
    obtain ⟨k, hk, rfl, ho, hb⟩ := hrel
    by_cases hlt : k < 8
    · go_wp2_with (at_builtin; refine wp_app_int _ rfl _ _ rfl w.heap.size _ (blanks k) rfl ho (-1) _ rfl rfl (by rw [blanks_len]; omega) (by exact hb.size) ?_; intro v1 w1 ho1 hg1; have hb1 := hb.trans hg1.below)
      go_roundw
      case rel => exact ⟨k + 1, by omega, by go_num, blanks_succ k ▸ ho1, hb1⟩
      case measure => simp [intOf]; omega
    · obtain rfl : k = 8 := by omega
      go_wp2_with fail
      refine (wayTo_any _ l i _ (h.below hb (Nat.le_refl _)) hv i0 i1).mono ?_; rintro e w1 ⟨vy, rfl, oy, by1⟩
      obtain ⟨Y, cy, rfl, hny, hcy⟩ := oy.reads.shape
      have ho1 := ho.below by1 (Nat.le_refl _)
      have hb2 := hb.next (Nat.le_refl _) by1
      obtain ⟨g, cg, he, hg0⟩ := ho1.form (by rw [blanks_len]; omega)
      rw [blanks_len] at he
      subst he
      have hg1 : g < wr.heap.size := (World.ownsRow.lt ho g rfl).2
      clear ho hb
      obtain ⟨wo, rfl⟩ : ∃ wo : World, wo = wr := ⟨_, rfl⟩
      go_wp2_with fail
      go_loopw [19] (fun s wr => ∃ k : Nat, k ≤ (wayTo l i).length ∧ s = .int .i64 k ∧ OwnInts wr w.heap.size (.slice (some ⟨g, 0, none⟩) 8 cg) (stateOf l ((wayTo l i).take k)) ∧ KeepIn wo.heap.size w1.heap.size w1 wr ∧ w1.heap.size ≤ wr.heap.size ∧ Below w.heap.size w wr) (fun s _ => (wayTo l i).length - (intOf s).toNat)
      case atStart => exact ⟨0, Nat.zero_le _, rfl, ho1, fun _ _ _ => rfl, Nat.le_refl _, hb2⟩
      case round =>
        obtain ⟨k, hk, rfl, hox, hkp, hsz, hbx⟩ := hrel
        by_cases hlt : k < (wayTo l i).length
        · have hin := wayTo_in hv.out i1 (gi (wayTo l i) k) (gi_mem hlt)
          obtain ⟨n, hn⟩ := Int.eq_ofNat_of_zero_le hin.1
          have hnl : n < l.length := by omega
          have hst := stateOf_take l (wayTo l i) k hlt
          rw [hn] at hst
          have oyx : OwnInts wr wo.heap.size (.slice Y (wayTo l i).length cy) (wayTo l i) := ownsRow_keep oy hkp (Nat.le_refl _) (fun g' hg' => (World.ownsRow.lt oy g' hg').2)
          obtain ⟨bY, oY, rfl, hcY⟩ := IntsAt.at_ oyx.reads k hlt
          rw [hn] at hcY
          obtain ⟨bb, o, rfl, _, hck, hcv⟩ := VersAt.at_ (h.below hbx (Nat.le_refl _)) n hnl
          have hv7 := ver_at hv.out n hnl
          obtain ⟨_, _, _, k0, k7, _, _⟩ := hv7
          obtain ⟨q, hq⟩ := Int.eq_ofNat_of_zero_le k0
          rw [hq] at hck
          have hq8 : q < 8 := by omega
          have hlen := stateOf_len l ((wayTo l i).take k)
          have hcell : ∃ u, wr.cell? ⟨g, q, none⟩ = some u := ⟨_, hox.cellOf q (by omega)⟩
          obtain ⟨u0, hcell⟩ := hcell
          have hfr := hox.freeAt q
          have hset := hox.setAt q (gv l n).v
          have e9 : (stateOf l ((wayTo l i).take k)).set q (gv l n).v = stateOf l ((wayTo l i).take (k + 1)) := by
            rw [hst]; unfold put1; simp [hq]
          rw [e9] at hset
          have H := Lib.hid hset
          have hin1 := hin.1
          clear hset e9 hst hlen hn hq hin
          go_wp2_with fail
          go_region
          go_wp2_with fail
          go_roundw
          case rel => exact ⟨k + 1, by omega, by go_num, H.out.1, (fun b' h1 h2 => (H.out.2.block b' (by omega) (by simp; omega)).trans (hkp b' h1 h2)), by simpa using hsz, (hbx.setCell (by exact hg0) _).drew⟩
          case measure => simp [intOf]; omega
        · obtain rfl : k = (wayTo l i).length := by omega
          rw [List.take_length] at hox
          have Ho : Hid (OwnInts wr w.heap.size (.slice (some ⟨g, 0, none⟩) 8 cg) (stateAt l i)) := hox
          clear hox
          go_wp2_with fail
          go_ret
          exact ⟨_, rfl, Ho.out, hbx⟩
set_option maxHeartbeats 3200000 in
theorem vrState_any (v : Value) (l : List Ver) (i : Int) (w : World) (h : VersAt w v l) (hv : Hid (areVers l = true)) (i0 : 0 ≤ i) (i1 : i < l.length) :
    Calls Tryd.prog 56 #[v, .int .i64 i] w (FreshInts w (stateAt l i)) := by
  obtain ⟨A, c, rfl, hnc, hc63⟩ := h.shape
  have hwl := wayTo_len hv.out i1
  have h60 := (areVers_parts hv.out).2.1
  go_enter Tryd.func56, Tryd.ntmps56
  go_wp2_with fail
  go_loopw [5] (fun t wr => ∃ k : Nat, k ≤ 8 ∧ OwnInts wr w.heap.size t (blanks k) ∧ Below w.heap.size w wr) (fun t _ => 8 - lenOf t)
  case atStart => exact ⟨0, by omega, OwnInts.nil_ w _, Below.refl _ _⟩
  case round =>
    obtain ⟨k, hk, ho, hb⟩ := hrel
    obtain ⟨A0, c0, rfl, hnc0, hc0⟩ := ho.reads.shape
    rw [blanks_len] at hnc0
    have e8 := blanks_len k
    rw [e8] at ho ⊢
    clear e8
    by_cases hlt : k < 8
    · go_wp2_with (at_builtin; refine wp_app_int _ rfl _ _ rfl w.heap.size _ (blanks k) rfl ho (-1) _ rfl rfl (by rw [blanks_len]; omega) (by exact hb.size) ?_; intro v1 w1 ho1 hg1; have hb1 := hb.trans hg1.below)
      have ho2 := blanks_succ k ▸ ho1
      have hl2 : lenOf v1 = k + 1 := by
        obtain ⟨A1, c1, rfl, _⟩ := ho2.reads.shape
        show (blanks (k + 1)).length = k + 1
        rw [blanks_len]
      have Hl2 := Lib.hid hl2
      clear hl2
      go_roundw
      case rel => exact ⟨k + 1, by omega, ho2, hb1⟩
      case measure => rw [Hl2.out]; simp [lenOf]; omega
    · obtain rfl : k = 8 := by omega
      go_wp2_with fail
      refine (vrWay_in _ l i _ (h.below hb (Nat.le_refl _)) hv i0 i1).mono ?_; rintro e w1 ⟨vy, rfl, oy, by1⟩
      obtain ⟨Y, cy, rfl, hny, hcy⟩ := oy.reads.shape
      have ho1 := ho.below by1 (Nat.le_refl _)
      have hb2 := hb.next (Nat.le_refl _) by1
      obtain ⟨g, cg, he, hg0⟩ := ho1.form (by rw [blanks_len]; omega)
      injection he with e1 e2 e3
      subst e1 e3
      clear e2
      have hg1 : g < wr.heap.size := (World.ownsRow.lt ho g rfl).2
      clear ho hb
      obtain ⟨wo, rfl⟩ : ∃ wo : World, wo = wr := ⟨_, rfl⟩
      go_wp2_with fail
      go_loopw [18] (fun s wr => ∃ k : Nat, k ≤ (wayTo l i).length ∧ s = .int .i64 k ∧ OwnInts wr w.heap.size (.slice (some ⟨g, 0, none⟩) 8 c0) (stateOf l ((wayTo l i).take k)) ∧ KeepIn wo.heap.size w1.heap.size w1 wr ∧ w1.heap.size ≤ wr.heap.size ∧ Below w.heap.size w wr) (fun s _ => (wayTo l i).length - (intOf s).toNat)
      case atStart => exact ⟨0, Nat.zero_le _, rfl, ho1, fun _ _ _ => rfl, Nat.le_refl _, hb2⟩
      case round =>
        obtain ⟨k, hk, rfl, hox, hkp, hsz, hbx⟩ := hrel
        by_cases hlt : k < (wayTo l i).length
        · have hin := wayTo_in hv.out i1 (gi (wayTo l i) k) (gi_mem hlt)
          obtain ⟨n, hn⟩ := Int.eq_ofNat_of_zero_le hin.1
          have hnl : n < l.length := by omega
          have hst := stateOf_take l (wayTo l i) k hlt
          rw [hn] at hst
          have oyx : OwnInts wr wo.heap.size (.slice Y (wayTo l i).length cy) (wayTo l i) := ownsRow_keep oy hkp (Nat.le_refl _) (fun g' hg' => (World.ownsRow.lt oy g' hg').2)
          obtain ⟨bY, oY, rfl, hcY⟩ := IntsAt.at_ oyx.reads k hlt
          rw [hn] at hcY
          obtain ⟨bb, o, rfl, _, hck, hcv⟩ := VersAt.at_ (h.below hbx (Nat.le_refl _)) n hnl
          have hv7 := ver_at hv.out n hnl
          obtain ⟨_, _, _, k0, k7, _, _⟩ := hv7
          obtain ⟨q, hq⟩ := Int.eq_ofNat_of_zero_le k0
          rw [hq] at hck
          have hq8 : q < 8 := by omega
          have hlen := stateOf_len l ((wayTo l i).take k)
          have hcell : ∃ u, wr.cell? ⟨g, q, none⟩ = some u := ⟨_, hox.cellOf q (by omega)⟩
          obtain ⟨u0, hcell⟩ := hcell
          have hfr := hox.freeAt q
          have hset := hox.setAt q (gv l n).v
          have e9 : (stateOf l ((wayTo l i).take k)).set q (gv l n).v = stateOf l ((wayTo l i).take (k + 1)) := by
            rw [hst]; unfold put1; simp [hq]
          rw [e9] at hset
          have H := Lib.hid hset
          have hin1 := hin.1
          clear hset e9 hst hlen hn hq hin
          go_wp2_with fail
          go_region
          go_wp2_with fail
          go_roundw
          case rel => exact ⟨k + 1, by omega, by go_num, H.out.1, (fun b' h1 h2 => (H.out.2.block b' (by omega) (by simp; omega)).trans (hkp b' h1 h2)), by simpa using hsz, (hbx.setCell (by exact hg0) _).drew⟩
          case measure => simp [intOf]; omega
        · obtain rfl : k = (wayTo l i).length := by omega
          rw [List.take_length] at hox
          have Ho : Hid (OwnInts wr w.heap.size (.slice (some ⟨g, 0, none⟩) 8 c0) (stateAt l i)) := hox
          clear hox
          go_wp2_with fail
          go_ret
          exact ⟨_, rfl, Ho.out, hbx⟩
end Go.Proofs.YtgngnkndebkbmaaDoor
