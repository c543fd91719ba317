/- The draws of the laws on journals. -/
import Derived.Test.YtmjchkaipbmjkaaDrawJ
import Derived.Test.YtmjchkaipbmjkaaDraw0
import Derived.Test.YtmjchkaipbmjkaaHelpC
set_option linter.unusedSimpArgs false
set_option linter.unusedVariables false
namespace Go.Proofs.Ytmjchkaipbmjkaa
open Go.RowKit Go.Sort

/-- What draws of integers, of rows of integers leave. -/
def DrawnI (w : World) (m : Nat) (e : Ending) (w' : World) : Prop := ∃ (u : Value) (l : List Int), e = .returned u ∧ OwnInts w' w.heap.size u l ∧ Below w.heap.size w w' ∧ l.length ≤ m
def DrawnL (w : World) (e : Ending) (w' : World) : Prop := ∃ (u : Value) (ls : List (List Int)), e = .returned u ∧ OwnIntss w' w.heap.size u ls ∧ Below w.heap.size w w' ∧ ls.length ≤ 21 ∧ ∀ l ∈ ls, l.length ≤ 13
theorem OwnIntss.lower {w : World} {lo lo' : Nat} {v : Value} {ls : List (List Int)} (h : OwnIntss w lo v ls) (hl : lo' ≤ lo) : OwnIntss w lo' v ls := by
  obtain ⟨vs, hL⟩ := h
  exact ⟨vs, ownsRow_lo hL.row hl, fun i u l h1 h2 => ownsRow_lo (hL.inner i u l h1 h2) hl, hL.sep⟩
def DrawnII (w : World) (m : Nat) (e : Ending) (w' : World) : Prop := ∃ (u : Value) (l : List Int) (x : Int), e = .returned (.tuple #[u, .int .i64 x]) ∧ OwnInts w' w.heap.size u l ∧ Below w.heap.size w w' ∧ l.length ≤ m ∧ -1 ≤ x ∧ x ≤ 241
def DrawnIII (w : World) (e : Ending) (w' : World) : Prop := ∃ (u : Value) (l : List Int) (x y : Int), e = .returned (.tuple #[u, .int .i64 x, .int .i64 y]) ∧ OwnInts w' w.heap.size u l ∧ Below w.heap.size w w' ∧ l.length ≤ 242 ∧ -1 ≤ x ∧ x ≤ 300 ∧ -1 ≤ y ∧ y ≤ 8
def DrawnLI (w : World) (e : Ending) (w' : World) : Prop := ∃ (u : Value) (ls : List (List Int)) (x : Int), e = .returned (.tuple #[u, .int .i64 x]) ∧ OwnIntss w' w.heap.size u ls ∧ Below w.heap.size w w' ∧ ls.length ≤ 21 ∧ (∀ l ∈ ls, l.length ≤ 13) ∧ -1 ≤ x ∧ x ≤ 241
def DrawnI2 (w : World) (e : Ending) (w' : World) : Prop := ∃ (u u' : Value) (l l' : List Int), e = .returned (.tuple #[u, u']) ∧ OwnInts w' w.heap.size u l ∧ OwnInts w' w.heap.size u' l' ∧ Below w.heap.size w w' ∧ l.length ≤ 242 ∧ l'.length ≤ 242
/-- What a row of integers and a row of rows are through a call of the cursor's, laid behind what was before. -/
theorem OwnInts.both {w w' : World} {g : Nat} {base : Nat} {v : Value} {l : List Int} (h : OwnInts w base v l) (hb : g + 1 ≤ base) (a : Apg g w w') : OwnInts w' base v l := h.apt a hb
set_option maxRecDepth 100000 in
set_option maxHeartbeats 1600000 in
theorem drawJournalBytes_any (v : Value) (code : List Nat) (w : World) (h : BytesAt w v code) (hw : WfCode code) (hl : code.length ≤ 1048576) :
    Calls Try.prog 6 #[v] w (DrawnL w) := by
  obtain ⟨A, c, rfl, hnc, hc63⟩ := Sl.shape h
  obtain ⟨g, hgg⟩ : ∃ g, g = w.heap.size := ⟨_, rfl⟩
  have q0 := CurAt.start h hw
  have hs0 := start_size w (.slice A code.length c)
  obtain ⟨w0, hw0⟩ : ∃ w0, w0 = curW w (.slice A code.length c) := ⟨_, rfl⟩
  have a0 := Apart.refl g (g + 1) w0
  have hfin : ∀ w', Apg g w0 w' → Below w.heap.size w w' := fun w' a => by rw [hgg, hw0] at a; exact Apart.start a
  have Hfin := Lib.hid hfin
  have HW0 := Lib.hid hw0
  rw [← hgg, ← hw0] at q0
  rw [← hw0, ← hgg] at hs0
  have k0b : 0 ≤ 0 := Nat.le_refl 0
  clear hfin
  have HG := Lib.hid hgg
  clear hgg hw0
  have C1 := Lib.hid (frames_any g 0 _ code w0 q0 (by omega) (by omega))
  rw [HW0.out, HG.out] at C1
  go_enter Try.func6, Try.ntmps6
  go_wp2_with fail
  refine C1.out.mono ?_; rw [← HG.out, ← HW0.out]; rintro e w1 ⟨u1, ls1, k1, rfl, o1, q1, b1, hls1, hll1, hk1, hj1⟩
  have a1 := a0.trans b1
  have hs1 := a1.size
  have hg1 := q1.lt
  have o1F := Lib.hid (OwnIntss.lower o1 (show w.heap.size ≤ _ by have := HG.out; omega))
  have aF := Lib.hid (Hfin.out _ a1)
  go_wp2_with fail
  go_ret
  exact ⟨_, ls1, rfl, o1F.out, aF.out, hls1, hll1⟩
set_option maxRecDepth 100000 in
set_option maxHeartbeats 1600000 in
theorem drawIsFrame_any (v : Value) (code : List Nat) (w : World) (h : BytesAt w v code) (hw : WfCode code) (hl : code.length ≤ 1048576) :
    Calls Try.prog 34 #[v] w (DrawnI w 13) := by
  obtain ⟨A, c, rfl, hnc, hc63⟩ := Sl.shape h
  obtain ⟨g, hgg⟩ : ∃ g, g = w.heap.size := ⟨_, rfl⟩
  have q0 := CurAt.start h hw
  have hs0 := start_size w (.slice A code.length c)
  obtain ⟨w0, hw0⟩ : ∃ w0, w0 = curW w (.slice A code.length c) := ⟨_, rfl⟩
  have a0 := Apart.refl g (g + 1) w0
  have hfin : ∀ w', Apg g w0 w' → Below w.heap.size w w' := fun w' a => by rw [hgg, hw0] at a; exact Apart.start a
  have Hfin := Lib.hid hfin
  have HW0 := Lib.hid hw0
  rw [← hgg, ← hw0] at q0
  rw [← hw0, ← hgg] at hs0
  have k0b : 0 ≤ 0 := Nat.le_refl 0
  clear hfin
  have HG := Lib.hid hgg
  clear hgg hw0
  have C1 := Lib.hid (frame_any g 0 _ code w0 q0 (by omega))
  rw [HW0.out, HG.out] at C1
  go_enter Try.func34, Try.ntmps34
  go_wp2_with fail
  refine C1.out.mono ?_; rw [← HG.out, ← HW0.out]; rintro e w1 ⟨u1, l1, k1, rfl, o1, q1, b1, hl1, hk1, hj1, _⟩
  have a1 := a0.trans b1
  have hs1 := a1.size
  have hg1 := q1.lt
  have o1F := Lib.hid (ownsRow_lo o1 (show w.heap.size ≤ _ by have := HG.out; omega))
  have aF := Lib.hid (Hfin.out _ a1)
  go_wp2_with fail
  go_ret
  exact ⟨_, l1, rfl, o1F.out, aF.out, hl1⟩
set_option maxRecDepth 100000 in
set_option maxHeartbeats 1600000 in
theorem drawRecoverFrames_any (v : Value) (code : List Nat) (w : World) (h : BytesAt w v code) (hw : WfCode code) (hl : code.length ≤ 1048576) :
    Calls Try.prog 35 #[v] w (DrawnI w 242) := by
  obtain ⟨A, c, rfl, hnc, hc63⟩ := Sl.shape h
  obtain ⟨g, hgg⟩ : ∃ g, g = w.heap.size := ⟨_, rfl⟩
  have q0 := CurAt.start h hw
  have hs0 := start_size w (.slice A code.length c)
  obtain ⟨w0, hw0⟩ : ∃ w0, w0 = curW w (.slice A code.length c) := ⟨_, rfl⟩
  have a0 := Apart.refl g (g + 1) w0
  have hfin : ∀ w', Apg g w0 w' → Below w.heap.size w w' := fun w' a => by rw [hgg, hw0] at a; exact Apart.start a
  have Hfin := Lib.hid hfin
  have HW0 := Lib.hid hw0
  rw [← hgg, ← hw0] at q0
  rw [← hw0, ← hgg] at hs0
  have k0b : 0 ≤ 0 := Nat.le_refl 0
  clear hfin
  have HG := Lib.hid hgg
  clear hgg hw0
  have C1 := Lib.hid (journal_any g 0 _ code w0 q0 (by omega) (by omega))
  rw [HW0.out, HG.out] at C1
  go_enter Try.func35, Try.ntmps35
  go_wp2_with fail
  refine C1.out.mono ?_; rw [← HG.out, ← HW0.out]; rintro e w1 ⟨u1, l1, k1, rfl, o1, q1, b1, hl1, hk1, hj1⟩
  have a1 := a0.trans b1
  have hs1 := a1.size
  have hg1 := q1.lt
  have o1F := Lib.hid (ownsRow_lo o1 (show w.heap.size ≤ _ by have := HG.out; omega))
  have aF := Lib.hid (Hfin.out _ a1)
  go_wp2_with fail
  go_ret
  exact ⟨_, l1, rfl, o1F.out, aF.out, hl1⟩
set_option maxRecDepth 100000 in
set_option maxHeartbeats 1600000 in
theorem drawAppendFrame_any (v : Value) (code : List Nat) (w : World) (h : BytesAt w v code) (hw : WfCode code) (hl : code.length ≤ 1048576) :
    Calls Try.prog 15 #[v] w (DrawnI2 w) := by
  obtain ⟨A, c, rfl, hnc, hc63⟩ := Sl.shape h
  obtain ⟨g, hgg⟩ : ∃ g, g = w.heap.size := ⟨_, rfl⟩
  have q0 := CurAt.start h hw
  have hs0 := start_size w (.slice A code.length c)
  obtain ⟨w0, hw0⟩ : ∃ w0, w0 = curW w (.slice A code.length c) := ⟨_, rfl⟩
  have a0 := Apart.refl g (g + 1) w0
  have hfin : ∀ w', Apg g w0 w' → Below w.heap.size w w' := fun w' a => by rw [hgg, hw0] at a; exact Apart.start a
  have Hfin := Lib.hid hfin
  have HW0 := Lib.hid hw0
  rw [← hgg, ← hw0] at q0
  rw [← hw0, ← hgg] at hs0
  have k0b : 0 ≤ 0 := Nat.le_refl 0
  clear hfin
  have HG := Lib.hid hgg
  clear hgg hw0
  have C1 := Lib.hid (journal_any g 0 _ code w0 q0 (by omega) (by omega))
  rw [HW0.out, HG.out] at C1
  go_enter Try.func15, Try.ntmps15
  go_wp2_with fail
  refine C1.out.mono ?_; rw [← HG.out, ← HW0.out]; rintro e w1 ⟨u1, l1, k1, rfl, o1, q1, b1, hl1, hk1, hj1⟩
  have a1 := a0.trans b1
  have hs1 := a1.size
  have hg1 := q1.lt
  have C2 := Lib.hid (frame_any g k1 _ code w1 q1 (by omega))
  go_wp2_with fail
  refine C2.out.mono ?_; rintro e w2 ⟨u2, l2, k2, rfl, o2, q2, b2, hl2, hk2, hj2, _⟩
  have o1_2 := o1.apt b2 (by omega)
  have a2 := a1.trans b2
  have hs2 := a2.size
  have hg2 := q2.lt
  have o1F := Lib.hid (ownsRow_lo o1_2 (show w.heap.size ≤ _ by have := HG.out; omega))
  have o2F := Lib.hid (ownsRow_lo o2 (show w.heap.size ≤ _ by have := HG.out; omega))
  have aF := Lib.hid (Hfin.out _ a2)
  go_wp2_with fail
  go_ret2
  exact ⟨_, _, l1, l2, rfl, o1F.out, o2F.out, aF.out, hl1, by omega⟩
set_option maxRecDepth 100000 in
set_option maxHeartbeats 1600000 in
theorem drawFrameBytes_any (v : Value) (code : List Nat) (w : World) (h : BytesAt w v code) (hw : WfCode code) (hl : code.length ≤ 1048576) :
    Calls Try.prog 22 #[v] w (DrawnII w 13) := by
  obtain ⟨A, c, rfl, hnc, hc63⟩ := Sl.shape h
  obtain ⟨g, hgg⟩ : ∃ g, g = w.heap.size := ⟨_, rfl⟩
  have q0 := CurAt.start h hw
  have hs0 := start_size w (.slice A code.length c)
  obtain ⟨w0, hw0⟩ : ∃ w0, w0 = curW w (.slice A code.length c) := ⟨_, rfl⟩
  have a0 := Apart.refl g (g + 1) w0
  have hfin : ∀ w', Apg g w0 w' → Below w.heap.size w w' := fun w' a => by rw [hgg, hw0] at a; exact Apart.start a
  have Hfin := Lib.hid hfin
  have HW0 := Lib.hid hw0
  rw [← hgg, ← hw0] at q0
  rw [← hw0, ← hgg] at hs0
  have k0b : 0 ≤ 0 := Nat.le_refl 0
  clear hfin
  have HG := Lib.hid hgg
  clear hgg hw0
  have C1 := Lib.hid (frame_any g 0 _ code w0 q0 (by omega))
  rw [HW0.out, HG.out] at C1
  go_enter Try.func22, Try.ntmps22
  go_wp2_with fail
  refine C1.out.mono ?_; rw [← HG.out, ← HW0.out]; rintro e w1 ⟨u1, l1, k1, rfl, o1, q1, b1, hl1, hk1, hj1, _⟩
  have a1 := a0.trans b1
  have hs1 := a1.size
  have hg1 := q1.lt
  have QX2 := Lib.hid (fun o => q1.belowG ((Below.refl _ w1).alloc (Nat.le_refl _) o) hg1)
  have AX2 := Lib.hid (fun o => a1.next ((Below.refl _ w1).alloc (Nat.le_refl _) o))
  have o1X2 := Lib.hid (fun o => OwnInts.al o1 o)
  go_wp2_with fail
  refine (among_lit g k1 _ _ code [20, -1] _ (QX2.out _) (by omega) (lit2 w1 (g + 1) (20) (-1) (by omega)) (by simp) (by simp) (fun x => -1 ≤ x ∧ x ≤ 20) (by
    intro x hx
    simp only [List.mem_cons, List.not_mem_nil, or_false] at hx
    omega)).mono ?_
  rintro e w2 ⟨y2, k2, rfl, ⟨xl2, xh2⟩, hk2, hj2, q2, b2⟩
  have o1_2 := (o1X2.out _).apt b2 (by omega)
  have a2 := (AX2.out _).trans b2
  have hs2 := a2.size
  have hg2 := q2.lt
  have QX3 := Lib.hid (fun o => q2.belowG ((Below.refl _ w2).alloc (Nat.le_refl _) o) hg2)
  have AX3 := Lib.hid (fun o => a2.next ((Below.refl _ w2).alloc (Nat.le_refl _) o))
  have o1X3 := Lib.hid (fun o => OwnInts.al o1_2 o)
  go_wp2_with fail
  refine (among_lit g k2 _ _ code [0, 1, 5, 19, y2] _ (QX3.out _) (by omega) (lit5 w2 (g + 1) (0) (1) (5) (19) (y2) (by omega)) (by simp) (by simp) (fun x => -1 ≤ x ∧ x ≤ 20) (by
    intro x hx
    simp only [List.mem_cons, List.not_mem_nil, or_false] at hx
    omega)).mono ?_
  rintro e w3 ⟨y3, k3, rfl, ⟨xl3, xh3⟩, hk3, hj3, q3, b3⟩
  have o1_3 := (o1X3.out _).apt b3 (by omega)
  have a3 := (AX3.out _).trans b3
  have hs3 := a3.size
  have hg3 := q3.lt
  have o1F := Lib.hid (ownsRow_lo o1_3 (show w.heap.size ≤ _ by have := HG.out; omega))
  have aF := Lib.hid (Hfin.out _ a3)
  go_wp2_with fail
  go_ret2
  exact ⟨_, l1, _, rfl, o1F.out, aF.out, hl1, by omega, by omega⟩
set_option maxRecDepth 100000 in
set_option maxHeartbeats 1600000 in
theorem drawCutBytes_any (v : Value) (code : List Nat) (w : World) (h : BytesAt w v code) (hw : WfCode code) (hl : code.length ≤ 1048576) :
    Calls Try.prog 19 #[v] w (DrawnII w 242) := by
  obtain ⟨A, c, rfl, hnc, hc63⟩ := Sl.shape h
  obtain ⟨g, hgg⟩ : ∃ g, g = w.heap.size := ⟨_, rfl⟩
  have q0 := CurAt.start h hw
  have hs0 := start_size w (.slice A code.length c)
  obtain ⟨w0, hw0⟩ : ∃ w0, w0 = curW w (.slice A code.length c) := ⟨_, rfl⟩
  have a0 := Apart.refl g (g + 1) w0
  have hfin : ∀ w', Apg g w0 w' → Below w.heap.size w w' := fun w' a => by rw [hgg, hw0] at a; exact Apart.start a
  have Hfin := Lib.hid hfin
  have HW0 := Lib.hid hw0
  rw [← hgg, ← hw0] at q0
  rw [← hw0, ← hgg] at hs0
  have k0b : 0 ≤ 0 := Nat.le_refl 0
  clear hfin
  have HG := Lib.hid hgg
  clear hgg hw0
  have C1 := Lib.hid (journal_any g 0 _ code w0 q0 (by omega) (by omega))
  rw [HW0.out, HG.out] at C1
  go_enter Try.func19, Try.ntmps19
  go_wp2_with fail
  refine C1.out.mono ?_; rw [← HG.out, ← HW0.out]; rintro e w1 ⟨u1, l1, k1, rfl, o1, q1, b1, hl1, hk1, hj1⟩
  have a1 := a0.trans b1
  have hs1 := a1.size
  have hg1 := q1.lt
  go_wp2_with fail
  refine (pick_ex g _ code (60) k1 w1 (by omega) (by omega) q1).mono ?_; rintro e w2 ⟨y2, k2, rfl, hy2, hk2, hj2, q2, b2⟩
  have o1_2 := o1.apt b2 (by omega)
  have a2 := a1.trans b2
  have hs2 := a2.size
  have hg2 := q2.lt
  have QX3 := Lib.hid (fun o => q2.belowG ((Below.refl _ w2).alloc (Nat.le_refl _) o) hg2)
  have AX3 := Lib.hid (fun o => a2.next ((Below.refl _ w2).alloc (Nat.le_refl _) o))
  have o1X3 := Lib.hid (fun o => OwnInts.al o1_2 o)
  go_wp2_with fail
  refine (among_lit g k2 _ _ code [241, -1] _ (QX3.out _) (by omega) (lit2 w2 (g + 1) (241) (-1) (by omega)) (by simp) (by simp) (fun x => -1 ≤ x ∧ x ≤ 241) (by
    intro x hx
    simp only [List.mem_cons, List.not_mem_nil, or_false] at hx
    omega)).mono ?_
  rintro e w3 ⟨y3, k3, rfl, ⟨xl3, xh3⟩, hk3, hj3, q3, b3⟩
  have o1_3 := (o1X3.out _).apt b3 (by omega)
  have a3 := (AX3.out _).trans b3
  have hs3 := a3.size
  have hg3 := q3.lt
  have QX4 := Lib.hid (fun o => q3.belowG ((Below.refl _ w3).alloc (Nat.le_refl _) o) hg3)
  have AX4 := Lib.hid (fun o => a3.next ((Below.refl _ w3).alloc (Nat.le_refl _) o))
  have o1X4 := Lib.hid (fun o => OwnInts.al o1_3 o)
  go_wp2_with fail
  refine (among_lit g k3 _ _ code [0, 1, 4, (y2 : Int), 240, y3] _ (QX4.out _) (by omega) (lit6 w3 (g + 1) (0) (1) (4) ((y2 : Int)) (240) (y3) (by omega)) (by simp) (by simp) (fun x => -1 ≤ x ∧ x ≤ 241) (by
    intro x hx
    simp only [List.mem_cons, List.not_mem_nil, or_false] at hx
    omega)).mono ?_
  rintro e w4 ⟨y4, k4, rfl, ⟨xl4, xh4⟩, hk4, hj4, q4, b4⟩
  have o1_4 := (o1X4.out _).apt b4 (by omega)
  have a4 := (AX4.out _).trans b4
  have hs4 := a4.size
  have hg4 := q4.lt
  have o1F := Lib.hid (ownsRow_lo o1_4 (show w.heap.size ≤ _ by have := HG.out; omega))
  have aF := Lib.hid (Hfin.out _ a4)
  go_wp2_with fail
  go_ret2
  exact ⟨_, l1, _, rfl, o1F.out, aF.out, hl1, by omega, by omega⟩
set_option maxRecDepth 100000 in
set_option maxHeartbeats 1600000 in
theorem drawSurvivingFrames_any (v : Value) (code : List Nat) (w : World) (h : BytesAt w v code) (hw : WfCode code) (hl : code.length ≤ 1048576) :
    Calls Try.prog 32 #[v] w (DrawnLI w) := by
  obtain ⟨A, c, rfl, hnc, hc63⟩ := Sl.shape h
  obtain ⟨g, hgg⟩ : ∃ g, g = w.heap.size := ⟨_, rfl⟩
  have q0 := CurAt.start h hw
  have hs0 := start_size w (.slice A code.length c)
  obtain ⟨w0, hw0⟩ : ∃ w0, w0 = curW w (.slice A code.length c) := ⟨_, rfl⟩
  have a0 := Apart.refl g (g + 1) w0
  have hfin : ∀ w', Apg g w0 w' → Below w.heap.size w w' := fun w' a => by rw [hgg, hw0] at a; exact Apart.start a
  have Hfin := Lib.hid hfin
  have HW0 := Lib.hid hw0
  rw [← hgg, ← hw0] at q0
  rw [← hw0, ← hgg] at hs0
  have k0b : 0 ≤ 0 := Nat.le_refl 0
  clear hfin
  have HG := Lib.hid hgg
  clear hgg hw0
  have C1 := Lib.hid (frames_any g 0 _ code w0 q0 (by omega) (by omega))
  rw [HW0.out, HG.out] at C1
  go_enter Try.func32, Try.ntmps32
  go_wp2_with fail
  refine C1.out.mono ?_; rw [← HG.out, ← HW0.out]; rintro e w1 ⟨u1, ls1, k1, rfl, o1, q1, b1, hls1, hll1, hk1, hj1⟩
  have a1 := a0.trans b1
  have hs1 := a1.size
  have hg1 := q1.lt
  go_wp2_with fail
  refine (pick_ex g _ code (60) k1 w1 (by omega) (by omega) q1).mono ?_; rintro e w2 ⟨y2, k2, rfl, hy2, hk2, hj2, q2, b2⟩
  have o1_2 := o1.apt b2 (by omega)
  have a2 := a1.trans b2
  have hs2 := a2.size
  have hg2 := q2.lt
  go_wp2_with fail
  refine (pick_ex g _ code (60) k2 w2 (by omega) (by omega) q2).mono ?_; rintro e w3 ⟨y3, k3, rfl, hy3, hk3, hj3, q3, b3⟩
  have o1_3 := o1_2.apt b3 (by omega)
  have a3 := a2.trans b3
  have hs3 := a3.size
  have hg3 := q3.lt
  have QX4 := Lib.hid (fun o => q3.belowG ((Below.refl _ w3).alloc (Nat.le_refl _) o) hg3)
  have AX4 := Lib.hid (fun o => a3.next ((Below.refl _ w3).alloc (Nat.le_refl _) o))
  have o1X4 := Lib.hid (fun o => o1_3.below ((Below.refl _ w3).alloc (Nat.le_refl _) o) (Nat.le_refl _))
  go_wp2_with fail
  refine (among_lit g k3 _ _ code [241, -1] _ (QX4.out _) (by omega) (lit2 w3 (g + 1) (241) (-1) (by omega)) (by simp) (by simp) (fun x => -1 ≤ x ∧ x ≤ 241) (by
    intro x hx
    simp only [List.mem_cons, List.not_mem_nil, or_false] at hx
    omega)).mono ?_
  rintro e w4 ⟨y4, k4, rfl, ⟨xl4, xh4⟩, hk4, hj4, q4, b4⟩
  have o1_4 := (o1X4.out _).apt b4 (by omega)
  have a4 := (AX4.out _).trans b4
  have hs4 := a4.size
  have hg4 := q4.lt
  have QX5 := Lib.hid (fun o => q4.belowG ((Below.refl _ w4).alloc (Nat.le_refl _) o) hg4)
  have AX5 := Lib.hid (fun o => a4.next ((Below.refl _ w4).alloc (Nat.le_refl _) o))
  have o1X5 := Lib.hid (fun o => o1_4.below ((Below.refl _ w4).alloc (Nat.le_refl _) o) (Nat.le_refl _))
  go_wp2_with fail
  refine (among_lit g k4 _ _ code [0, 1, 4, (y2 : Int), (y3 : Int), 240, y4] _ (QX5.out _) (by omega) (lit7 w4 (g + 1) (0) (1) (4) ((y2 : Int)) ((y3 : Int)) (240) (y4) (by omega)) (by simp) (by simp) (fun x => -1 ≤ x ∧ x ≤ 241) (by
    intro x hx
    simp only [List.mem_cons, List.not_mem_nil, or_false] at hx
    omega)).mono ?_
  rintro e w5 ⟨y5, k5, rfl, ⟨xl5, xh5⟩, hk5, hj5, q5, b5⟩
  have o1_5 := (o1X5.out _).apt b5 (by omega)
  have a5 := (AX5.out _).trans b5
  have hs5 := a5.size
  have hg5 := q5.lt
  have o1F := Lib.hid (OwnIntss.lower o1_5 (show w.heap.size ≤ _ by have := HG.out; omega))
  have aF := Lib.hid (Hfin.out _ a5)
  go_wp2_with fail
  go_ret2
  exact ⟨_, ls1, _, rfl, o1F.out, aF.out, hls1, hll1, by omega, by omega⟩
set_option maxRecDepth 100000 in
set_option maxHeartbeats 1600000 in
theorem drawFlipBit_any (v : Value) (code : List Nat) (w : World) (h : BytesAt w v code) (hw : WfCode code) (hl : code.length ≤ 1048576) :
    Calls Try.prog 28 #[v] w (DrawnIII w) := by
  obtain ⟨A, c, rfl, hnc, hc63⟩ := Sl.shape h
  obtain ⟨g, hgg⟩ : ∃ g, g = w.heap.size := ⟨_, rfl⟩
  have q0 := CurAt.start h hw
  have hs0 := start_size w (.slice A code.length c)
  obtain ⟨w0, hw0⟩ : ∃ w0, w0 = curW w (.slice A code.length c) := ⟨_, rfl⟩
  have a0 := Apart.refl g (g + 1) w0
  have hfin : ∀ w', Apg g w0 w' → Below w.heap.size w w' := fun w' a => by rw [hgg, hw0] at a; exact Apart.start a
  have Hfin := Lib.hid hfin
  have HW0 := Lib.hid hw0
  rw [← hgg, ← hw0] at q0
  rw [← hw0, ← hgg] at hs0
  have k0b : 0 ≤ 0 := Nat.le_refl 0
  clear hfin
  have HG := Lib.hid hgg
  clear hgg hw0
  have C1 := Lib.hid (journal_any g 0 _ code w0 q0 (by omega) (by omega))
  rw [HW0.out, HG.out] at C1
  go_enter Try.func28, Try.ntmps28
  go_wp2_with fail
  refine C1.out.mono ?_; rw [← HG.out, ← HW0.out]; rintro e w1 ⟨u1, l1, k1, rfl, o1, q1, b1, hl1, hk1, hj1⟩
  have a1 := a0.trans b1
  have hs1 := a1.size
  have hg1 := q1.lt
  obtain ⟨A1, c1, rfl, hn1, hc1⟩ := o1.reads.shape
  go_wp2_with fail
  refine (pick_ex g _ code (16) k1 w1 (by omega) (by omega) q1).mono ?_; rintro e w2 ⟨y2, k2, rfl, hy2, hk2, hj2, q2, b2⟩
  have o1_2 := o1.apt b2 (by omega)
  have a2 := a1.trans b2
  have hs2 := a2.size
  have hg2 := q2.lt
  go_wp2_with fail
  refine (pick_ex0 g _ code _ k2 w2 (by omega) q2).mono ?_; rintro e w3 ⟨y3, k3, rfl, hy3, hk3, hj3, q3, b3⟩
  have o1_3 := o1_2.apt b3 (by omega)
  have a3 := a2.trans b3
  have hs3 := a3.size
  have hg3 := q3.lt
  go_wp2_with fail
  refine (pick_ex g _ code (24) k3 w3 (by omega) (by omega) q3).mono ?_; rintro e w4 ⟨y4, k4, rfl, hy4, hk4, hj4, q4, b4⟩
  have o1_4 := o1_3.apt b4 (by omega)
  have a4 := a3.trans b4
  have hs4 := a4.size
  have hg4 := q4.lt
  have QX5 := Lib.hid (fun o => q4.belowG ((Below.refl _ w4).alloc (Nat.le_refl _) o) hg4)
  have AX5 := Lib.hid (fun o => a4.next ((Below.refl _ w4).alloc (Nat.le_refl _) o))
  have o1X5 := Lib.hid (fun o => OwnInts.al o1_4 o)
  go_wp2_with fail
  refine (among_lit g k4 _ _ code [8, -1] _ (QX5.out _) (by omega) (lit2 w4 (g + 1) (8) (-1) (by omega)) (by simp) (by simp) (fun x => -1 ≤ x ∧ x ≤ 8) (by
    intro x hx
    simp only [List.mem_cons, List.not_mem_nil, or_false] at hx
    omega)).mono ?_
  rintro e w5 ⟨y5, k5, rfl, ⟨xl5, xh5⟩, hk5, hj5, q5, b5⟩
  have o1_5 := (o1X5.out _).apt b5 (by omega)
  have a5 := (AX5.out _).trans b5
  have hs5 := a5.size
  have hg5 := q5.lt
  have QX6 := Lib.hid (fun o => q5.belowG ((Below.refl _ w5).alloc (Nat.le_refl _) o) hg5)
  have AX6 := Lib.hid (fun o => a5.next ((Below.refl _ w5).alloc (Nat.le_refl _) o))
  have o1X6 := Lib.hid (fun o => OwnInts.al o1_5 o)
  go_wp2_with fail
  refine (among_lit g k5 _ _ code [0, 1, 3, 7, y5] _ (QX6.out _) (by omega) (lit5 w5 (g + 1) (0) (1) (3) (7) (y5) (by omega)) (by simp) (by simp) (fun x => -1 ≤ x ∧ x ≤ 8) (by
    intro x hx
    simp only [List.mem_cons, List.not_mem_nil, or_false] at hx
    omega)).mono ?_
  rintro e w6 ⟨y6, k6, rfl, ⟨xl6, xh6⟩, hk6, hj6, q6, b6⟩
  have o1_6 := (o1X6.out _).apt b6 (by omega)
  have a6 := (AX6.out _).trans b6
  have hs6 := a6.size
  have hg6 := q6.lt
  have o1F := Lib.hid (ownsRow_lo o1_6 (show w.heap.size ≤ _ by have := HG.out; omega))
  have aF := Lib.hid (Hfin.out _ a6)
  go_wp2_with fail
  go_ret3
  exact ⟨_, l1, _, _, rfl, o1F.out, aF.out, hl1, by omega, by omega, by omega, by omega⟩
set_option maxRecDepth 100000 in
set_option maxHeartbeats 6400000 in
theorem drawCommonFrames_any (v : Value) (code : List Nat) (w : World) (h : BytesAt w v code) (hw : WfCode code) (hl : code.length ≤ 1048576) :
    Calls Try.prog 29 #[v] w (DrawnI2 w) := by
  obtain ⟨A, c, rfl, hnc, hc63⟩ := Sl.shape h
  obtain ⟨g, hgg⟩ : ∃ g, g = w.heap.size := ⟨_, rfl⟩
  have q0 := CurAt.start h hw
  have hs0 := start_size w (.slice A code.length c)
  obtain ⟨w0, hw0⟩ : ∃ w0, w0 = curW w (.slice A code.length c) := ⟨_, rfl⟩
  have a0 := Apart.refl g (g + 1) w0
  have hfin : ∀ w', Apg g w0 w' → Below w.heap.size w w' := fun w' a => by rw [hgg, hw0] at a; exact Apart.start a
  have Hfin := Lib.hid hfin
  have HW0 := Lib.hid hw0
  rw [← hgg, ← hw0] at q0
  rw [← hw0, ← hgg] at hs0
  have k0b : 0 ≤ 0 := Nat.le_refl 0
  clear hfin
  have HG := Lib.hid hgg
  clear hgg hw0
  have C1 := Lib.hid (journal_any g 0 _ code w0 q0 (by omega) (by omega))
  rw [HW0.out, HG.out] at C1
  go_enter Try.func29, Try.ntmps29
  go_wp2_with fail
  refine C1.out.mono ?_; rw [← HG.out, ← HW0.out]; rintro e w1 ⟨u1, l1, k1, rfl, o1, q1, b1, hl1, hk1, hj1⟩
  have a1 := a0.trans b1
  have hs1 := a1.size
  have hg1 := q1.lt
  go_wp2_with fail
  refine (one_ex g _ code (4) k1 w1 (by omega) q1).mono ?_; rintro e w2 ⟨t2, k2, rfl, hk2, hj2, q2, b2⟩
  have o1_2 := o1.apt b2 (by omega)
  have a2 := a1.trans b2
  have hs2 := a2.size
  have hg2 := q2.lt
  cases t2
  case true =>
    have C3 := Lib.hid (journal_any g k2 _ code w2 q2 (by omega) (by omega))
    go_wp2_with fail
    refine C3.out.mono ?_; rintro e w3 ⟨u3, l3, k3, rfl, o3, q3, b3, hl3, hk3, hj3⟩
    have o1_3 := o1_2.apt b3 (by omega)
    have a3 := a2.trans b3
    have hs3 := a3.size
    have hg3 := q3.lt
    have o1F := Lib.hid (ownsRow_lo o1_3 (show w.heap.size ≤ _ by have := HG.out; omega))
    have o3F := Lib.hid (ownsRow_lo o3 (show w.heap.size ≤ _ by have := HG.out; omega))
    have aF := Lib.hid (Hfin.out _ a3)
    go_wp2_with fail
    go_ret2
    exact ⟨_, _, l1, l3, rfl, o1F.out, o3F.out, aF.out, hl1, hl3⟩
  case false =>
    have o1_2_r := o1_2
    have C3 := Lib.hid (l1Own_any _ l1 _ o1_2.reads (by omega))
    go_wp2_with fail
    refine C3.out.mono ?_; rintro e w3 ⟨u3, rfl, o3, b3⟩
    have q3 := q2.below b3 (Nat.le_refl _)
    have o1_3 := OwnInts.below o1_2 b3 (Nat.le_refl _)
    have a3 := a2.next b3
    have hs3 := a3.size
    have hg3 := q3.lt
    obtain ⟨k3, hk3⟩ : ∃ k3, k3 = k2 := ⟨_, rfl⟩
    rw [← hk3] at q3
    have HK3 : k3 ≤ 20000000000000000 := by omega
    clear hk3
    obtain ⟨A3, c3, rfl, hn3, hc3⟩ := o3.reads.shape
    rcases Nat.eq_zero_or_pos l1.length with hz | hz
    · obtain rfl := List.eq_nil_of_length_eq_zero hz
      clear hz
      rw [List.length_nil] at o3 hn3 ⊢
      have o1F := Lib.hid (ownsRow_lo o1_3 (show w.heap.size ≤ _ by have := HG.out; omega))
      have o3F := Lib.hid (ownsRow_lo o3 (show w.heap.size ≤ _ by have := HG.out; omega))
      have aF := Lib.hid (Hfin.out _ a3)
      go_wp2_with fail
      go_ret2
      exact ⟨_, _, [], [], rfl, o1F.out, o3F.out, aF.out, by simp, by simp⟩
    · have hz3 : (0 : Int) < (l1.length : Int) := by omega
      go_wp2_with fail
      refine (pick_ex g _ code (l1.length) k3 w3 (by omega) (by omega) q3).mono ?_; rintro e w4 ⟨y4, k4, rfl, hy4, hk4, hj4, q4, b4⟩
      have o1_4 := o1_3.apt b4 (by omega)
      have o3_4 := o3.apt b4 (by omega)
      have a4 := a3.trans b4
      have hs4 := a4.size
      have hg4 := q4.lt
      go_wp2_with fail
      refine (pick_ex g _ code (256) k4 w4 (by omega) (by omega) q4).mono ?_; rintro e w5 ⟨y5, k5, rfl, hy5, hk5, hj5, q5, b5⟩
      have o1_5 := o1_4.apt b5 (by omega)
      have o3_5 := o3_4.apt b5 (by omega)
      have a5 := a4.trans b5
      have hs5 := a5.size
      have hg5 := q5.lt
      obtain ⟨b9, c9, hv9, hbg⟩ := o3_5.at_own hz
      injection hv9 with e1 e2 e3
      subst e1 e3
      have hyl : y4 < l1.length := by omega
      obtain ⟨hc7, hf7⟩ := o3_5.cell_own hyl
      have hst := Lib.hid (o3_5.set_own y4 y5)
      have hb9 : w2.heap.size ≤ b9 := hbg
      have hbb := Lib.hid ((Below.refl w2.heap.size w5).setCell (p := ⟨b9, y4, none⟩) hb9 (.int .i64 y5))
      have o1_9 := Lib.hid (World.ownsRow.kept o1_5 (World.ownsRow.stored o3_5 y4 (.int .i64 y5)).2 (Or.inr (by intro e9; have h9 := (World.ownsRow.lt o1_2_r b9 e9).2; omega)))
      have aF := Lib.hid (Hfin.out _ (a5.trans2 hbb.out (by omega)))
      have o1F := Lib.hid (ownsRow_lo o1_9.out (show w.heap.size ≤ _ by have := HG.out; omega))
      have o3F := Lib.hid (ownsRow_lo hst.out (show w.heap.size ≤ _ by have := HG.out; omega))
      go_wp2_with fail
      go_ret2
      exact ⟨_, _, l1, l1.set y4 y5, rfl, o1F.out, o3F.out, aF.out, hl1, by rw [List.length_set]; omega⟩
end Go.Proofs.Ytmjchkaipbmjkaa
