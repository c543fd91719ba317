/- Contracts: the recovery of a journal's frames, in the program and in the reference. -/
import Derived.Test.YtmjchkaipbmjkaaHelpL
import Derived.Test.YtmjchkaipbmjkaaJrnlM
set_option linter.unusedSimpArgs false
set_option linter.unusedVariables false
namespace Go.Proofs.Ytmjchkaipbmjkaa
open Go.RowKit

def FreshRecov (w : World) (r : List (List Int) × Nat) (e : Ending) (w' : World) : Prop :=
  ∃ v, e = .returned (.tuple #[v, .int .i64 r.2]) ∧ OwnIntss w' w.heap.size v r.1 ∧ Below w.heap.size w w'
theorem OwnIntss.shape {w : World} {lo : Nat} {v : Value} {ls : List (List Int)} (h : OwnIntss w lo v ls) : ∃ A c, v = .slice A ls.length c ∧ ls.length ≤ c ∧ c ≤ 9223372036854775807 := h.reads.shape

theorem FreshRecov.mk {w wr : World} {r : List (List Int) × Nat} {v : Value} {out : List (List Int)} {p : Nat} (h : r = (out, p)) (ho : OwnIntss wr w.heap.size v out) (hb : Below w.heap.size w wr) :
    FreshRecov w r (.returned (.tuple #[v, .int .i64 p])) wr := by
  subst h
  exact ⟨v, rfl, ho, hb⟩
theorem IntsAt.lit {w : World} {b o n c : Nat} {l : List Int} (h : IntsAt w (.slice (some ⟨b, o, none⟩) n c) l) (k : Nat) (hk : k < l.length) : w.cell? ⟨b, o + k, none⟩ = some (.int .i64 (gi l k)) := by
  obtain ⟨b', o', he, hc⟩ := IntsAt.at_ h k hk
  injection he with he
  injection he with e1 e2
  subst e1 e2
  exact hc

theorem OwnIntss.drewN {w : World} {lo : Nat} {v : Value} {ls : List (List Int)} (h : OwnIntss w lo v ls) (n : Nat) : OwnIntss (w.drewN n) lo v ls := h.below ((Below.refl w.heap.size w).drewN n) (Nat.le_refl _)
theorem same_sym {P : Program} {f : FuncId} {args : Array Value} {w : World} {v : Value} (h : Calls P f args w fun e w' => e = .returned v ∧ w = w') : Calls P f args w fun e w' => e = .returned v ∧ w' = w :=
  h.mono fun _ _ ⟨a, b⟩ => ⟨a, b.symm⟩

set_option maxHeartbeats 1600000 in
theorem recoverFrames_any (v : Value) (b : List Int) (w : World) (h : IntsAt w v b) (hb : isBytes b = true) :
    Calls Try.prog 41 #[v] w (FreshRecov w (recov b)) := by
  obtain ⟨A, c, rfl, hnc, hc63⟩ := h.shape
  have hlen := isBytes_len hb
  have Hin := Lib.hid (isBytes_in hb)
  clear hb
  go_enter Try.func41, Try.ntmps41
  go_wp2_with fail
  go_loopw [4, 5] (fun q i wr => ∃ (out : List (List Int)) (p : Nat), out.length ≤ 20 ∧ p ≤ b.length ∧ i = .int .i64 p ∧ OwnIntss wr w.heap.size q out ∧ Below w.heap.size w wr ∧ Hid (runR b (20 - out.length) out p = recov b)) (fun _ i _ => b.length - (intOf i).toNat)
  case atStart => exact ⟨[], 0, by simp, Nat.zero_le _, rfl, OwnIntss.empty w _ (Nat.le_refl _), (Below.refl _ _).alloc (Nat.le_refl _) _, rfl⟩
  case round =>
    obtain ⟨out, p, ho, hp, rfl, hown, hbw, hrun⟩ := hrel
    obtain ⟨A1, c1, rfl, _, _⟩ := hown.shape
    have hr := h.below hbw (Nat.le_refl _)
    have stop : ¬ (p < b.length ∧ okAt b p out.length = true) → Hid (recov b = (out, p)) := fun hs => by
      show recov b = (out, p)
      rw [← hrun.out, runR_stop b _ out p hs]
    have Stop := Lib.hid stop
    clear stop
    by_cases ho20 : out.length < 20
    · by_cases hpl : p < b.length
      · obtain ⟨bb, o, rfl, hc⟩ := IntsAt.at_ hr p hpl
        cases hsz : inR (gi b p) 1 12
        · have hfin := Stop.out (by rw [okAt_size hsz]; simp)
          go_wp2_with (go_at_call 42; refine (within_any _ _ _ _).mono ?_; rintro e w' ⟨rfl, rfl⟩)
          go_ret2
          exact FreshRecov.mk hfin.out hown hbw
        · obtain ⟨hx1, hx2⟩ := inR_t.1 hsz
          obtain ⟨m, hm⟩ : ∃ m : Nat, gi b p = (m : Int) := ⟨(gi b p).toNat, by omega⟩
          rw [hm] at hc hsz hx1 hx2
          have Hm := Lib.hid hm
          clear hm
          by_cases hend : p + m + 1 < b.length
          · have h3 := IntsAt.cut hr (p + 1) m (by omega)
            rw [if_neg (by omega), ← frameAt_eq Hm.out] at h3
            have h4 : IntsAt wr (.slice (some ⟨bb, o + (p + 1), none⟩) (p + 1 + m - (p + 1)) (c - (p + 1))) (frameAt b p) := by simpa [Addr.add_lit] using h3
            have h5 : IntsAt wr (.slice (some ⟨bb, o + (p + 1), none⟩) m (c - (p + 1))) (frameAt b p) := by simpa [Addr.add_lit] using h3
            clear h3
            have hc2 := IntsAt.lit hr (p + 1 + m) (by omega)
            go_wp2_with (go_at_call 42; refine (within_any _ _ _ _).mono ?_; rintro e w' ⟨rfl, rfl⟩)
            go_quiet ((go_at_call 56; exact Calls.quiet_of_same (same_sym (frameCheck_any _ (frameAt b p) _ _ (h5.drewN _) (frameAt_in Hin.out p) (by omega)))))
            go_wp2_with fail
            · have hx : (chk (frameAt b p) (out.length : Int) != gi b (p + 1 + m)) = true := by assumption
              have hfin := Stop.out (by rw [okAt_chk Hm.out (bne_iff_ne.1 hx)]; simp)
              go_ret2
              exact FreshRecov.mk hfin.out (hown.drewN _) (hbw.drewN _)
            · have hx : (chk (frameAt b p) (out.length : Int) != gi b (p + 1 + m)) = false := by assumption
              have hfl : (frameAt b p).length ≤ 12 := by rw [frameAt_eq Hm.out, List.length_take]; omega
              have hgo : Hid (runR b (20 - (out ++ [frameAt b p]).length) (out ++ [frameAt b p]) (p + m + 2) = recov b) := by
                show _ = _
                rw [← hrun.out, show 20 - out.length = (20 - (out ++ [frameAt b p]).length) + 1 from by simp; omega, runR_go b _ out p hpl (okAt_yes Hm.out (by omega) (by omega) hend (by simpa using hx)), Hm.out]
                simp
              have hlen2 : (out ++ [frameAt b p]).length ≤ 20 := by simp; omega
              refine (copyInts_any _ (frameAt b p) _ (h5.drewN _) (by omega)).mono ?_; rintro e w1 ⟨v1, rfl, o1, b1⟩
              obtain ⟨A2, c2, rfl, _, _⟩ := o1.reads.shape
              have hown1 := hown.drewN nq
              have hs1 : w.heap.size ≤ (wr.drewN nq).heap.size := by simpa using hbw.size
              have hb1 := (hbw.drewN nq)
              go_wp2_with (at_builtin; refine wp_app_list (wr.drewN nq) w1 rfl _ _ (by rfl) w.heap.size _ out (by rfl) hown1 hs1 b1 _ _ _ _ o1 _ (by rfl) (by rfl) (by omega) ?_; intro v2 w2 ho2 hb2)
              go_roundw
              case rel => exact ⟨out ++ [frameAt b p], p + m + 2, hlen2, by omega, by go_num, ho2, hb1.trans hb2, hgo⟩
              case measure => simp [intOf]; omega
          · have hfin := Stop.out (by rw [okAt_end Hm.out (by omega)]; simp)
            go_wp2_with (go_at_call 42; refine (within_any _ _ _ _).mono ?_; rintro e w' ⟨rfl, rfl⟩)
            go_ret2
            exact FreshRecov.mk hfin.out hown hbw
      · have hfin := Stop.out (fun hh => hpl hh.1)
        go_wp2_with fail
        go_ret2
        exact FreshRecov.mk hfin.out hown hbw
    · have hfin : Hid (recov b = (out, p)) := by
        show recov b = (out, p)
        have := hrun.out
        rw [show 20 - out.length = 0 from by omega, runR_zero] at this
        exact this.symm
      go_wp2_with fail
      go_ret2
      exact FreshRecov.mk hfin.out hown hbw
set_option maxHeartbeats 1600000 in
theorem jrRecover_any (v : Value) (b : List Int) (w : World) (h : IntsAt w v b) (hb : isBytes b = true) :
    Calls Try.prog 50 #[v] w (FreshRecov w (recov b)) := by
  obtain ⟨A, c, rfl, hnc, hc63⟩ := h.shape
  have hlen := isBytes_len hb
  have Hin := Lib.hid (isBytes_in hb)
  clear hb
  go_enter Try.func50, Try.ntmps50
  go_wp2_with fail
  go_loopw [4, 5] (fun q i wr => ∃ (out : List (List Int)) (p : Nat), out.length ≤ 20 ∧ p ≤ b.length ∧ i = .int .i64 p ∧ OwnIntss wr w.heap.size q out ∧ Below w.heap.size w wr ∧ Hid (runR b (20 - out.length) out p = recov b)) (fun _ i _ => b.length - (intOf i).toNat)
  case atStart => exact ⟨[], 0, by simp, Nat.zero_le _, rfl, OwnIntss.nil_ w _, Below.refl _ _, rfl⟩
  case round =>
    obtain ⟨out, p, ho, hp, rfl, hown, hbw, hrun⟩ := hrel
    obtain ⟨A1, c1, rfl, _, _⟩ := hown.shape
    have hr := h.below hbw (Nat.le_refl _)
    have stop : ¬ (p < b.length ∧ okAt b p out.length = true) → Hid (recov b = (out, p)) := fun hs => by
      show recov b = (out, p)
      rw [← hrun.out, runR_stop b _ out p hs]
    have Stop := Lib.hid stop
    clear stop
    by_cases ho20 : out.length < 20
    · by_cases hpl : p < b.length
      · obtain ⟨bb, o, rfl, hc⟩ := IntsAt.at_ hr p hpl
        cases hsz : inR (gi b p) 1 12
        · have hfin := Stop.out (by rw [okAt_size hsz]; simp)
          go_wp2_with (go_at_call 58; refine (l1In_any _ _ _ _).mono ?_; rintro e w' ⟨rfl, rfl⟩)
          go_ret2
          exact FreshRecov.mk hfin.out hown hbw
        · obtain ⟨hx1, hx2⟩ := inR_t.1 hsz
          obtain ⟨m, hm⟩ : ∃ m : Nat, gi b p = (m : Int) := ⟨(gi b p).toNat, by omega⟩
          rw [hm] at hc hsz hx1 hx2
          have Hm := Lib.hid hm
          clear hm
          by_cases hend : p + m + 1 < b.length
          · have h3 := IntsAt.cut hr (p + 1) m (by omega)
            rw [if_neg (by omega), ← frameAt_eq Hm.out] at h3
            have h4 : IntsAt wr (.slice (some ⟨bb, o + (p + 1), none⟩) (p + 1 + m - (p + 1)) (c - (p + 1))) (frameAt b p) := by simpa [Addr.add_lit] using h3
            have h5 : IntsAt wr (.slice (some ⟨bb, o + (p + 1), none⟩) m (c - (p + 1))) (frameAt b p) := by simpa [Addr.add_lit] using h3
            clear h3
            have hc2 := IntsAt.lit hr (p + 1 + m) (by omega)
            go_wp2_with (go_at_call 58; refine (l1In_any _ _ _ _).mono ?_; rintro e w' ⟨rfl, rfl⟩)
            go_quiet ((go_at_call 57; exact Calls.quiet_of_same (same_sym (jrCheck_any _ (frameAt b p) _ _ (h5.drewN _) (frameAt_in Hin.out p) (by omega)))))
            go_wp2_with fail
            · have hx : (chk (frameAt b p) (out.length : Int) != gi b (p + 1 + m)) = true := by assumption
              have hfin := Stop.out (by rw [okAt_chk Hm.out (bne_iff_ne.1 hx)]; simp)
              go_ret2
              exact FreshRecov.mk hfin.out (hown.drewN _) (hbw.drewN _)
            · have hx : (chk (frameAt b p) (out.length : Int) != gi b (p + 1 + m)) = false := by assumption
              have hfl : (frameAt b p).length ≤ 12 := by rw [frameAt_eq Hm.out, List.length_take]; omega
              have hgo : Hid (runR b (20 - (out ++ [frameAt b p]).length) (out ++ [frameAt b p]) (p + m + 2) = recov b) := by
                show _ = _
                rw [← hrun.out, show 20 - out.length = (20 - (out ++ [frameAt b p]).length) + 1 from by simp; omega, runR_go b _ out p hpl (okAt_yes Hm.out (by omega) (by omega) hend (by simpa using hx)), Hm.out]
                simp
              have hlen2 : (out ++ [frameAt b p]).length ≤ 20 := by simp; omega
              refine (l1Own_any _ (frameAt b p) _ (h5.drewN _) (by omega)).mono ?_; rintro e w1 ⟨v1, rfl, o1, b1⟩
              obtain ⟨A2, c2, rfl, _, _⟩ := o1.reads.shape
              have hown1 := hown.drewN nq
              have hs1 : w.heap.size ≤ (wr.drewN nq).heap.size := by simpa using hbw.size
              have hb1 := (hbw.drewN nq)
              go_wp2_with (at_builtin; refine wp_app_list (wr.drewN nq) w1 rfl _ _ (by rfl) w.heap.size _ out (by rfl) hown1 hs1 b1 _ _ _ _ o1 _ (by rfl) (by rfl) (by omega) ?_; intro v2 w2 ho2 hb2)
              go_roundw
              case rel => exact ⟨out ++ [frameAt b p], p + m + 2, hlen2, by omega, by go_num, ho2, hb1.trans hb2, hgo⟩
              case measure => simp [intOf]; omega
          · have hfin := Stop.out (by rw [okAt_end Hm.out (by omega)]; simp)
            go_wp2_with (go_at_call 58; refine (l1In_any _ _ _ _).mono ?_; rintro e w' ⟨rfl, rfl⟩)
            go_ret2
            exact FreshRecov.mk hfin.out hown hbw
      · have hfin := Stop.out (fun hh => hpl hh.1)
        go_wp2_with fail
        go_ret2
        exact FreshRecov.mk hfin.out hown hbw
    · have hfin : Hid (recov b = (out, p)) := by
        show recov b = (out, p)
        have := hrun.out
        rw [show 20 - out.length = 0 from by omega, runR_zero] at this
        exact this.symm
      go_wp2_with fail
      go_ret2
      exact FreshRecov.mk hfin.out hown hbw
end Go.Proofs.Ytmjchkaipbmjkaa
