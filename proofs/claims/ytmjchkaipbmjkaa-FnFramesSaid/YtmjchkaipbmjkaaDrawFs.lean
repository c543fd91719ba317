/- The draws of the journal: frames. -/
import Derived.Test.YtmjchkaipbmjkaaDrawFr
import Derived.Test.YtmjchkaipbmjkaaJrnl
import Derived.Test.YtmjchkaipbmjkaaIntss
import Derived.Test.YtmjchkaipbmjkaaRec
import Derived.Test.YtmjchkaipbmjkaaMark
import Derived.Deep.RegionLaw
set_option linter.unusedSimpArgs false
set_option linter.unusedVariables false
namespace Go.Proofs.Ytmjchkaipbmjkaa
open Go.RowKit Go.Sort

def WinAt (code : List Nat) (z : Nat) : Prop := ∀ i, i < 130 → gdB (byN code (z + i)) = true
/-- How many steps are left to the next window, and one more; 0: within it. -/
def Ph (code : List Nat) (f n : Nat) : Prop := (f = 0 ∧ ∃ z, z ≤ n ∧ n ≤ z + 46 ∧ WinAt code z) ∨ (0 < f ∧ WinAt code (n + f - 1))
theorem win130 : ∀ i, i < 130 → gdB (itl (i + 1) 20931 % 281474976710656 / 1099511627776) = true := by
  have h : ∀ i : Fin 130, gdB (itl (i.1 + 1) 20931 % 281474976710656 / 1099511627776) = true := by decide +kernel
  intro i hi
  exact h ⟨i, hi⟩
theorem Ph.start (code : List Nat) (n : Nat) (hc : code.length ≤ 1099511627776) : ∃ f, Ph code f n ∧ f < 562949953421312 - 300 := by
  obtain ⟨z, h1, h2, h3, h4⟩ := win gdB 20931 130 win130 code n
  exact ⟨z - n + 1, .inr ⟨by omega, by rw [show n + (z - n + 1) - 1 = z from by omega]; exact h4⟩, by omega⟩
theorem Ph.step {code : List Nat} {f n n' : Nat} (h : Ph code f n) (hf : 0 < f) (h1 : n < n') (h2 : n' ≤ n + 46) : ∃ f', f' < f ∧ Ph code f' n' ∧ n' + f' ≤ n + f + 46 ∧ (0 < f' → n' + f' ≤ n + f) := by
  rcases h with ⟨rfl, _⟩ | ⟨_, hw⟩
  · omega
  · by_cases hn : n' ≤ n + f - 1
    · exact ⟨n + f - n', by omega, .inr ⟨by omega, by rw [show n' + (n + f - n') - 1 = n + f - 1 from by omega]; exact hw⟩, by omega, by omega⟩
    · exact ⟨0, hf, .inl ⟨rfl, n + f - 1, by omega, by omega, hw⟩, by omega, by omega⟩
theorem Ph.good {code : List Nat} {n n' : Nat} (h : Ph code 0 n) (h2 : n' ≤ n + 46) : ∀ i, n ≤ i → i < n' → gdB (byN code i) = true := by
  rcases h with ⟨_, z, h3, h4, hw⟩ | ⟨hf, _⟩
  · intro i hi1 hi2
    have := hw (i - z) (by omega)
    rwa [show z + (i - z) = i from by omega] at this
  · omega
theorem OwnIntss.apt {w w' : World} {lo g : Nat} {v : Value} {ls : List (List Int)} (h : OwnIntss w lo v ls) (ha : Apg g w w') (hl : g + 1 ≤ lo) : OwnIntss w' lo v ls := by
  obtain ⟨vs, hL⟩ := h
  exact ⟨vs, hL.keep (lo' := g + 1) (hi := w.heap.size) (fun k h1 h2 => ha.block k h2 (.inr h1)) hl hL.under⟩
/-- What a draw of rows of integers leaves. -/
def FreshCL (w : World) (g : Nat) (v : Value) (code : List Nat) (Q : List (List Int) → Nat → Prop) (e : Ending) (w' : World) : Prop :=
  ∃ (u : Value) (ls : List (List Int)) (n : Nat), e = .returned u ∧ OwnIntss w' w.heap.size u ls ∧ CurAt w' g v code n ∧ Apg g w w' ∧ Q ls n
/-- Two more lists, made after all that stands. -/
theorem OwnL.push2 {w w1 w2 : World} {lo : Nat} {v v' u u1 : Value} {vs : List Value} {ls : List (List Int)} {l l1 : List Int} (h : OwnL w lo v vs ls) (hlo : lo ≤ w.heap.size) (hb : Below w.heap.size w w1)
    (hu : OwnInts w1 w.heap.size u l) (hu1 : OwnInts w1 w.heap.size u1 l1) (hne : ∀ g, u.ownBlock = some g → u1.ownBlock = some g → False)
    (hrow : w2.ownsRow lo 26 1 v' (ls.length + 2) (vs ++ [u, u1])) (hg : (w1.alloc (.cells #[u, u1] 26)).grownBy w2 v.ownBlock) : OwnL w2 lo v' (vs ++ [u, u1]) (ls ++ [l, l1]) := by
  have h1 := h.below hb (Nat.le_refl _)
  have hvl := h.len
  have own : ∀ x y, OwnInts w1 w.heap.size x y → OwnInts w2 lo x y := by
    intro x y hxy
    have h3 : w2.ownsRow w.heap.size 3 1 x y.length (ints y) := World.ownsRow.kept (World.ownsRow.alloc hxy _) hg (ownsRow_ne h1.row hxy (by decide))
    exact ownsRow_lo h3 hlo
  have pick2 : ∀ (i : Nat) (x : Value), ¬ i < vs.length → (vs ++ [u, u1])[i]? = some x → (i = vs.length ∧ x = u) ∨ (i = vs.length + 1 ∧ x = u1) := by
    intro i x hi hx
    rw [List.getElem?_append_right (by omega)] at hx
    have hk := (List.getElem?_eq_some_iff.1 hx).1
    simp at hk
    obtain ⟨j, hj⟩ : ∃ j, j = i - vs.length := ⟨_, rfl⟩
    rw [← hj] at hx
    match j, hj, hx with
    | 0, hj, hx => simp at hx; exact .inl ⟨by omega, hx.symm⟩
    | 1, hj, hx => simp at hx; exact .inr ⟨by omega, hx.symm⟩
    | j + 2, hj, hx => omega
  refine ⟨by rw [List.length_append]; exact hrow, ?_, ?_⟩
  · intro i x y hx hy
    by_cases hi : i < vs.length
    · rw [List.getElem?_append_left hi] at hx
      rw [List.getElem?_append_left (by omega)] at hy
      have h2 := h1.inner i x y hx hy
      exact World.ownsRow.kept (World.ownsRow.alloc h2 _) hg (ownsRow_ne h1.row h2 (by decide))
    · rw [List.getElem?_append_right (by omega)] at hy
      rcases pick2 i x hi hx with ⟨rfl, rfl⟩ | ⟨rfl, rfl⟩
      · rw [hvl, Nat.sub_self] at hy; simp at hy; subst hy; exact own _ _ hu
      · rw [hvl, show ls.length + 1 - ls.length = 1 from by omega] at hy; simp at hy; subst hy; exact own _ _ hu1
  · intro i j x y g hx hy hgx hgy
    have old : ∀ k z, k < vs.length → (vs ++ [u, u1])[k]? = some z → z.ownBlock = some g → g < w.heap.size := by
      intro k z hk hz hgz
      rw [List.getElem?_append_left hk] at hz
      exact (World.ownsRow.lt (h.get hz).2 g hgz).2
    have new : ∀ k z, ¬ k < vs.length → (vs ++ [u, u1])[k]? = some z → z.ownBlock = some g → w.heap.size ≤ g := by
      intro k z hk hz hgz
      rcases pick2 k z hk hz with ⟨_, rfl⟩ | ⟨_, rfl⟩
      · exact (World.ownsRow.lt hu g hgz).1
      · exact (World.ownsRow.lt hu1 g hgz).1
    by_cases hi : i < vs.length <;> by_cases hj : j < vs.length
    · rw [List.getElem?_append_left hi] at hx
      rw [List.getElem?_append_left hj] at hy
      exact h.sep i j x y g hx hy hgx hgy
    · have := old i x hi hx hgx; have := new j y hj hy hgy; omega
    · have := old j y hj hy hgy; have := new i x hi hx hgx; omega
    · rcases pick2 i x hi hx with ⟨h3, rfl⟩ | ⟨h3, rfl⟩ <;> rcases pick2 j y hj hy with ⟨h4, rfl⟩ | ⟨h4, rfl⟩
      · omega
      · exact absurd (hne g hgx hgy) id
      · exact absurd (hne g hgy hgx) id
      · omega
theorem Sl.two (w : World) (u u1 : Value) (e : Nat) : Sl (w.alloc (.cells #[u, u1] e)) 1 (.slice (some ⟨w.heap.size, 0, none⟩) 2 2) 2 [u, u1] :=
  Sl.of_own (base := 0) (e := e) (World.ownsRow_lit w #[u, u1] 2 (Nat.zero_le _) (by simp [maxLen]) rfl)
theorem step_app_list2 (w w1 : World) {ops : Array Oper} {o : Oper} {a : Act} {K : Act → World → Prop} {Q : Exit → Act → World → Prop} {E : Prop} (hgd : o.guard = none) (s x : Operand)
    (ho : o.op = .call { callee := .builtin .append, args := #[s, x], argTypes := #[24, 24] })
    (lo : Nat) (v : Value) (ls : List (List Int)) (hs : a.eval s = v) (hown : OwnIntss w lo v ls) (hlo : lo ≤ w.heap.size) (hb : Below w.heap.size w w1)
    (A : Option Addr) (n c : Nat) (l : List Int) (hu : OwnInts w1 w.heap.size (.slice A n c) l) (A' : Option Addr) (n' c' : Nat) (l' : List Int) (hu' : OwnInts w1 w.heap.size (.slice A' n' c') l')
    (hne : ∀ g, (Value.slice A n c).ownBlock = some g → (Value.slice A' n' c').ownBlock = some g → False)
    (H : Nat) (hx : a.eval x = .slice (some ⟨H, 0, none⟩) 2 2) (hH : H = w1.heap.size) (h63 : ls.length + 2 ≤ 1099511627776)
    (h : ∀ v' w', OwnIntss w' lo v' (ls ++ [l, l']) → Below lo w w' → K (a.put o.dst v') w') :
    if Region.wanted o (yielded ops a.tmps) = true then Oper.wp Try.prog o a (w1.alloc (.cells #[.slice A n c, .slice A' n' c'] 26)) K Q else E := by
  subst hH
  obtain ⟨vs, hL⟩ := hown
  have h1 := (hL.below hb (Nat.le_refl _)).row
  refine step_of hgd (wpOp_app _ s x 24 ho lo 26 (.slice none 0 0) 1 24 Try.underlying24 info_ints rfl (by omega) v ls.length vs hs (World.ownsRow.alloc h1 _) _ 2 [.slice A n c, .slice A' n' c'] hx (Sl.two w1 _ _ _) (by simp [Value.oneCell']) h63 (by omega) (by have := hb.size; simp; omega) ?_)
  intro v' w' r1 r2 _
  refine h v' w' ⟨_, hL.push2 hlo hb hu hu' hne r1 r2⟩ ?_
  have b1 : Below lo w w1 := hb.mono hlo
  have hs := hb.size
  exact (b1.alloc (by omega) _).trans (ownsRow_below (World.ownsRow.alloc h1 _) r2 (by simp; omega))
theorem zrow {w : World} {lo g C : Nat} (h : w.ownsRow lo 3 1 (.slice (some ⟨g, 0, none⟩) C C) C (madeCells #[.int .i64 0] (C * 1)).toList) : OwnInts w lo (.slice (some ⟨g, 0, none⟩) C C) (List.replicate C 0) := by
  rw [Nat.mul_one, toList_madeCells_one] at h
  unfold OwnInts
  rw [List.length_replicate]
  have e9 : ints (List.replicate C 0) = List.replicate C (.int .i64 0) := by simp [ints]
  rw [e9]; exact h
set_option maxRecDepth 100000 in
set_option maxHeartbeats 6400000 in
theorem frames_any (g n : Nat) (v : Value) (code : List Nat) (w : World) (h : CurAt w g v code n) (hn : n ≤ 4500000000000000000) (hcl : code.length ≤ 1099511627776) :
    Calls Try.prog 37 #[.pointer (some ⟨g, 0, none⟩)] w
      (FreshCL w g v code fun ls n' => ls.length ≤ 21 ∧ (∀ l ∈ ls, l.length ≤ 13) ∧ n ≤ n' ∧ n' ≤ n + 18014398509481984) := by
  have hg := h.lt
  obtain ⟨F, hF⟩ : ∃ F : Nat, F = 562949953421312 := ⟨_, rfl⟩
  have hst : ∀ m, ∃ f, Ph code f m ∧ f + 300 < F := fun m => by
    obtain ⟨f, h1, h2⟩ := Ph.start code m hcl
    exact ⟨f, h1, by omega⟩
  have hbig : ∀ k len : Nat, len ≤ 21 → k + 250 ≤ n + 3 + (len + 1) * F → k + 400 ≤ n + 18014398509481984 ∧ k ≤ 4600000000000000000 := fun k len h1 h2 => by
    have h3 : (len + 1) * F ≤ 22 * F := Nat.mul_le_mul_right _ (by omega)
    rw [hF] at h3 h2
    omega
  have Hst := Lib.hid hst
  have Hbig := Lib.hid hbig
  clear hst hbig hF
  obtain ⟨p1, p2⟩ := pk_one (code := code) (n := n) (m := 7) (by omega) (by omega)
  obtain ⟨p3, p4⟩ := pk_one (code := code) (n := n + 1) (m := 20) (by omega) (by omega)
  obtain ⟨N0, hN0⟩ : ∃ N0 : Nat, pkV code n 7 = (N0 : Int) ∧ N0 ≤ 6 := by
    have := pkV_bd code n 7 (by omega)
    exact ⟨(pkV code n 7).toNat, by omega, by omega⟩
  obtain ⟨hN0, N1⟩ := hN0
  have hpk : ∀ w', CurAt w' g v code n → Calls Try.prog 53 #[.pointer (some ⟨g, 0, none⟩), .int .i64 7] w' (fun e w'' => e = .returned (.int .i64 (N0 : Int)) ∧ CurAt w'' g v code (n + 1) ∧ Apg g w' w'') := fun w' h' => (pick_any g n v code 7 w' h' (by omega)).mono (by rintro e w'' ⟨rfl, q, a⟩; rw [p2] at q; exact ⟨by rw [hN0], q, a⟩)
  have HP := Lib.hid hpk
  have hon : ∀ w', CurAt w' g v code (n + 1) → Calls Try.prog 59 #[.pointer (some ⟨g, 0, none⟩), .int .i64 20] w' (fun e w'' => ∃ b, e = .returned (.bool b) ∧ CurAt w'' g v code (n + 2) ∧ Apg g w' w'') := fun w' h' => (one_any g (n + 1) v code 20 w' h' (by omega)).mono (by
    rintro e w'' ⟨rfl, q, a⟩; rw [p4] at q
    exact ⟨_, rfl, q, a⟩)
  have HO := Lib.hid hon
  clear hpk hon p1 p2 p3 p4 hN0
  go_enter Try.func37, Try.ntmps37
  go_wp2_with fail
  refine (HP.out _ h).mono ?_; rintro e w1 ⟨rfl, q1, a1⟩
  go_wp2_with fail
  refine (HO.out _ q1).mono ?_; rintro e w2 ⟨b20, rfl, q2, a2⟩
  have a12 := a1.trans a2
  clear a1 a2 q1
  go_upto_if 9 with fail
  go_cut [4] (fun s4 wx => ∃ (M k : Nat), s4 = .int .i64 M ∧ M ≤ 21 ∧ n + 2 ≤ k ∧ k ≤ n + 3 ∧ CurAt wx g v code k ∧ Apg g w wx)
  case first =>
    cases b20
    case false =>
      go_wp2_with fail
      go_meet
      exact ⟨N0, n + 2, rfl, by omega, by omega, by omega, q2, a12⟩
    case true =>
      have hpk := pick_any g (n + 2) v code 2 w2 q2 (by omega)
      obtain ⟨i0, i1⟩ := pkV_bd code (n + 2) 2 (by omega)
      obtain ⟨x, hx⟩ : ∃ x : Int, x = pkV code (n + 2) 2 := ⟨_, rfl⟩
      rw [(pk_one (code := code) (n := n + 2) (m := 2) (by omega) (by omega)).2, ← hx] at hpk
      rw [← hx] at i0 i1
      obtain ⟨j, hj⟩ : ∃ j : Nat, x = j := ⟨x.toNat, by omega⟩
      subst hj
      have HPK := Lib.hid hpk
      clear hpk hx
      go_wp2_with fail
      refine HPK.out.mono ?_; rintro e w4 ⟨rfl, q4, a4⟩
      go_wp2_with fail
      go_meet
      exact ⟨20 + j, n + 3, by go_num, by omega, by omega, by omega, q4, a12.trans a4⟩
  case rest =>
    obtain ⟨M, k2, rfl, hM, hk1, hk2, qc, ac⟩ := hcut
    clear q2 a12 HP HO
    obtain ⟨f0, hf0, hf1⟩ := Hst.out k2
    have HF0 := Lib.hid hf0
    clear hf0
    go_wp2_with fail
    go_loopg [3] ((M + 1) * F) (fun gk t wr => ∃ (ls : List (List Int)) (k f : Nat), ls.length ≤ M ∧ (M - ls.length) * F + f ≤ gk ∧ f + 300 < F ∧ Hid (Ph code f k) ∧ n + 2 ≤ k ∧ (0 < f → k + f + 300 ≤ n + 3 + (ls.length + 1) * F) ∧ k + f + 250 ≤ n + 3 + (ls.length + 1) * F ∧ Hid (∀ l ∈ ls, l.length ≤ 13) ∧ OwnIntss wr w.heap.size t ls ∧ CurAt wr g v code k ∧ Apg g w wr)
    case atStart => exact ⟨[], k2, f0, Nat.zero_le _, (by rw [List.length_nil, Nat.sub_zero, Nat.succ_mul]; omega), hf1, HF0.out, hk1, (by rw [List.length_nil, Nat.zero_add, Nat.one_mul]; omega), (by rw [List.length_nil, Nat.zero_add, Nat.one_mul]; omega), (fun l hl => by cases hl), OwnIntss.nil_ _ _, qc, ac⟩
    case round =>
      obtain ⟨ls, k, f, hl1, hl2, hf, hph, hk3, hk40, hk4, hall, ho, qr, ar⟩ := hrel
      clear qc ac HF0 hf1 hk1 hk2
      obtain ⟨A, c, rfl, hnc, hc63⟩ := ho.reads.shape
      have hbg := Hbig.out k ls.length (by omega) (by omega)
      obtain ⟨_, hk462⟩ := hbg
      by_cases hlt : ls.length < M
      · have E1 : Hid ((ls.length + 1 + 1) * F = (ls.length + 1) * F + F) := Nat.succ_mul _ _
        have E2 : Hid ((M - ls.length) * F = (M - (ls.length + 1)) * F + F) := by
          show _ = _
          rw [show M - ls.length = (M - (ls.length + 1)) + 1 from by omega]; exact Nat.succ_mul _ _
        have HK4 := Lib.hid hk4
        have HK40 := Lib.hid hk40
        have HL2 := Lib.hid hl2
        clear hk4 hk40 hl2
        have hfr := Lib.hid (frame_any g k v code wr qr (by omega))
        have hsr := ar.size
        have h9 : ls.length + 1 ≤ 1099511627776 := by omega
        go_wp2_with fail
        refine hfr.out.mono ?_; rintro e w3 ⟨u3, l, k3, rfl, ol, q3, a3, hl13, hk5, hk6, hval⟩
        have Hval := Lib.hid hval
        clear hval
        obtain ⟨A3, c3, rfl, _, _⟩ := ol.reads.shape
        have hs3 := q3.lt
        have hs3' := a3.size
        have hall2 : Hid (∀ l' ∈ ls ++ [l], l'.length ≤ 13) := fun l' hl' => by
          rcases List.mem_append.1 hl' with h' | h'
          · exact hall.out l' h'
          · rw [List.mem_singleton] at h'; subst h'; exact hl13
        cases hfrm : isFrame l
        case true =>
          obtain ⟨f3, hf3, hf4⟩ := Hst.out k3
          have HF3 := Lib.hid hf3
          clear hf3
          obtain ⟨wm, hwm, am, bm⟩ := a3.mid
          have hom := ho.apt am (by omega)
          have qm := qr.heap
          have Qm := Lib.hid (CurAt.mid q3 qr.row (by omega) am bm)
          have hlom : w.heap.size ≤ wm.heap.size := by omega
          have bm2 : Below wm.heap.size wm w3 := by rw [hwm]; exact bm
          have ol2 : OwnInts w3 wm.heap.size (.slice A3 l.length c3) l := by rw [hwm]; exact ol
          clear qm Hval hfr
          go_wp2_with (first | (go_at_call 43; refine (jrFrame_any _ l _ ol.reads).mono ?_; rintro e w4 ⟨rfl, rfl⟩) | (at_builtin; refine wp_app_list wm _ rfl _ _ (by rfl) w.heap.size _ ls (by rfl) hom hlom bm2 _ _ _ _ ol2 _ (by rfl) (by rfl) h9 ?_; intro v2 w5 ho2 hb2))
          go_roundg ((M - (ls.length + 1)) * F + f3)
          case measure => have := HL2.out; have := E2.out; omega
          case rel => exact ⟨ls ++ [l], k3, f3, by simp; omega, (by rw [List.length_append]; exact Nat.le_refl _), hf4, HF3.out, by omega, (by rw [List.length_append]; have := HK4.out; have h8 : (ls.length + [l].length + 1) * F = (ls.length + 1) * F + F := E1.out; omega), (by rw [List.length_append]; have := HK4.out; have h8 : (ls.length + [l].length + 1) * F = (ls.length + 1) * F + F := E1.out; omega), hall2, ho2, Qm.out.belowG hb2 hg, (ar.trans am).trans2 hb2 (Nat.le_refl _)⟩
        case false =>
          have hf0 : 0 < f := by
            rcases Nat.eq_zero_or_pos f with h0 | h0
            · subst h0
              have := Hval.out (hph.out.good (by omega))
              rw [hfrm] at this; cases this
            · exact h0
          obtain ⟨p1, p2⟩ := pk_one (code := code) (n := k3) (m := 12) (by omega) (by omega)
          have hon : ∀ w', CurAt w' g v code k3 → Calls Try.prog 59 #[.pointer (some ⟨g, 0, none⟩), .int .i64 12] w' (fun e w'' => ∃ b, e = .returned (.bool b) ∧ CurAt w'' g v code (k3 + 1) ∧ Apg g w' w'') := fun w' h' => (one_any g k3 v code 12 w' h' (by omega)).mono (by
            rintro e w'' ⟨rfl, q, a⟩; rw [p2] at q
            exact ⟨_, rfl, q, a⟩)
          have HO2 := Lib.hid hon
          clear hon p1 p2 Hval hfr
          go_wp2_with (go_at_call 43; refine (jrFrame_any _ l _ ol.reads).mono ?_; rintro e w4 ⟨rfl, rfl⟩)
          refine (HO2.out _ q3).mono ?_; rintro e w4 ⟨b12, rfl, q4, a4⟩
          have a34 := a3.trans a4
          have hs4' := a4.size
          cases b12
          case false =>
            obtain ⟨f', hf5, hph2, hf6, hf7⟩ := hph.out.step hf0 (n' := k3 + 1) (by omega) (by omega)
            have HPH2 := Lib.hid hph2
            clear hph2
            go_wp2_with fail
            go_roundg ((M - ls.length) * F + f')
            case measure => have := HL2.out; have := E2.out; omega
            case rel => exact ⟨ls, k3 + 1, f', by omega, Nat.le_refl _, by omega, HPH2.out, by omega, (by have := HK40.out; omega), (by have := HK40.out; omega), hall.out, ho.apt a34 (by omega), q4, ar.trans a34⟩
          case true =>
            obtain ⟨f3, hf3, hf4⟩ := Hst.out (k3 + 1)
            have HF3 := Lib.hid hf3
            clear hf3
            obtain ⟨wm, hwm, am, bm⟩ := a34.mid
            have hom := ho.apt am (by omega)
            have Qm := Lib.hid (CurAt.mid q4 qr.row (by omega) am bm)
            have hlom : w.heap.size ≤ wm.heap.size := by omega
            have bm2 : Below wm.heap.size wm w4 := by rw [hwm]; exact bm
            have ol2 : OwnInts w4 wm.heap.size (.slice A3 l.length c3) l := by rw [hwm]; exact ol.apt a4 (by omega)
            go_wp2_with (at_builtin; refine wp_app_list wm _ rfl _ _ (by rfl) w.heap.size _ ls (by rfl) hom hlom bm2 _ _ _ _ ol2 _ (by rfl) (by rfl) h9 ?_; intro v2 w5 ho2 hb2)
            go_roundg ((M - (ls.length + 1)) * F + f3)
            case measure => have := HL2.out; have := E2.out; omega
            case rel => exact ⟨ls ++ [l], k3 + 1, f3, by simp; omega, (by rw [List.length_append]; exact Nat.le_refl _), hf4, HF3.out, by omega, (by rw [List.length_append]; have := HK4.out; have h8 : (ls.length + [l].length + 1) * F = (ls.length + 1) * F + F := E1.out; omega), (by rw [List.length_append]; have := HK4.out; have h8 : (ls.length + [l].length + 1) * F = (ls.length + 1) * F + F := E1.out; omega), hall2, ho2, Qm.out.belowG hb2 hg, (ar.trans am).trans2 hb2 (Nat.le_refl _)⟩
      · obtain rfl : M = ls.length := by omega
        obtain ⟨p1, p2⟩ := pk_one (code := code) (n := k) (m := 16) (by omega) (by omega)
        have hon : ∀ w', CurAt w' g v code k → Calls Try.prog 59 #[.pointer (some ⟨g, 0, none⟩), .int .i64 16] w' (fun e w'' => ∃ b, e = .returned (.bool b) ∧ CurAt w'' g v code (k + 1) ∧ Apg g w' w'') := fun w' h' => (one_any g k v code 16 w' h' (by omega)).mono (by
          rintro e w'' ⟨rfl, q, a⟩; rw [p2] at q
          exact ⟨_, rfl, q, a⟩)
        have HO2 := Lib.hid hon
        have hsr := ar.size
        have hbg2 := (Hbig.out k ls.length (by omega) (by omega)).1
        clear hon p1 p2 hph hl2 hk4 hk40 hf
        go_wp2_with fail
        refine (HO2.out _ qr).mono ?_; rintro e w3 ⟨b16, rfl, q3, a3⟩
        have a4 := ar.trans a3
        cases b16
        case false =>
          go_wp2_with fail
          go_ret
          exact ⟨_, ls, k + 1, rfl, ho.apt a3 (by omega), q3, a4, hM, hall.out, by omega, by omega⟩
        case true =>
          have hs4 := a4.size
          obtain ⟨j0, hj0, hy0, hy1, hy2⟩ := info_parts info_int
          clear ho qr ar a3 hall
          go_wp2_with fail
          obtain ⟨Z, hZ⟩ : ∃ Z : List Int, Z = List.replicate 12 0 := ⟨_, rfl⟩
          have HZ := Lib.hid hZ
          have hZl : Hid (Z.length = 12) := by show _ = _; rw [hZ]; rfl
          clear hZ
          go_loopg [3] 16 (fun gk t wr => ∃ j : Nat, j ≤ 16 ∧ 16 ≤ j + gk ∧ OwnIntss wr w.heap.size t (List.replicate j Z) ∧ CurAt wr g v code (k + 1) ∧ Apg g w wr)
          case atStart => exact ⟨0, Nat.zero_le _, by omega, OwnIntss.nil_ _ _, q3, a4⟩
          case round =>
            obtain ⟨j, hj, hj2, ho, qr, ar⟩ := hrel
            have hsr := ar.size
            obtain ⟨A, c, rfl, hnc, hc63⟩ := ho.reads.shape
            rw [List.length_replicate] at hnc ho ⊢
            by_cases hlt : j < 16
            · have hj9 : (List.replicate j Z).length + 1 ≤ 1099511627776 := by rw [List.length_replicate]; omega
              have hsn : Hid (List.replicate j Z ++ [Z] = List.replicate (j + 1) Z) := by
                show _ = _
                rw [List.replicate_succ']
              go_wp2_with (first | (at_make; refine wpList_make_full _ rfl _ _ 26 rfl wr.heap.size 3 j0 _ 1 Try.underlying26 hj0 hy0 hy1 _ _ _ _ 12 rfl rfl (by rfl) (by rfl) (by rw [hy2]; omega) (by unfold maxLen; omega) (Nat.le_refl _) ?_; intro w6 hown hgrow; have hb6 : Below wr.heap.size wr w6 := (Below.refl _ _).grown hgrow (Nat.le_refl _) (fun k hk => by cases hk); have ho6 : OwnInts w6 wr.heap.size (.slice (some ⟨wr.heap.size, 0, none⟩) 12 12) Z := by rw [HZ.out]; exact zrow hown) | (at_builtin; refine wp_app_list wr _ rfl _ _ (by rfl) w.heap.size _ _ (by rfl) ho hsr hb6 _ _ _ _ ho6 _ (by rfl) (by rfl) hj9 ?_; intro v2 w5 ho2 hb2))
              go_roundg (gk - 1)
              case measure => omega
              case rel => exact ⟨j + 1, by omega, by omega, hsn.out ▸ ho2, qr.belowG hb2 hg, ar.trans2 hb2 (Nat.le_refl _)⟩
            · obtain rfl : j = 16 := by omega
              have hqv : ∃ x : Int, pkV code (k + 1) 2 = x ∧ (x = 0 ∨ x = 1) := ⟨_, rfl, by have := pkV_bd code (k + 1) 2 (by omega); omega⟩
              obtain ⟨x, hx, hx01⟩ := hqv
              have hpk : ∀ w', CurAt w' g v code (k + 1) → Calls Try.prog 53 #[.pointer (some ⟨g, 0, none⟩), .int .i64 2] w' (fun e w'' => e = .returned (.int .i64 x) ∧ CurAt w'' g v code (k + 2) ∧ Apg g w' w'') := fun w' h' => (pick_any g (k + 1) v code 2 w' h' (by omega)).mono (by rintro e w'' ⟨rfl, q, a⟩; rw [(pk_one (code := code) (n := k + 1) (m := 2) (by omega) (by omega)).2] at q; exact ⟨by rw [hx], q, a⟩)
              have HPK := Lib.hid hpk
              clear hpk hx
              have hmk : ∀ m : Nat, m ≤ 100 → ∃ C : Array Value, (∀ w' : World, Sem.run Try.prog (Instr.makeSlice 26 (.int .i64 (m : Int)) (.int .i64 (m : Int))) w' = .ok (.slice (some ⟨w'.heap.size, 0, none⟩) m m) (w'.alloc (.cells C 3))) ∧ ∀ (w' : World) (base p : Nat), p = w'.heap.size → base ≤ w'.heap.size → OwnInts (w'.alloc (.cells C 3)) base (.slice (some ⟨p, 0, none⟩) m m) (List.replicate m 0) := by
                intro m hm
                refine ⟨madeCells (Value.int .i64 0).cells (m * 1), fun w' => ?_, fun w' base p hp hb => ?_⟩
                · have hr := run_make (P := Try.prog) w' 26 3 j0 (.int .i64 0) Try.underlying26 hj0 hy0 .i64 .i64 m m (by omega) (Int.le_refl _) (by rw [hy2]; omega) (by omega)
                  rw [Int.toNat_natCast, hy1] at hr
                  exact hr
                · subst hp; exact zrow (World.ownsRow_lit w' _ m hb (by unfold maxLen; omega) (size_madeCells _ _))
              obtain ⟨C6, h6r, h6o⟩ := hmk 6 (by omega)
              obtain ⟨C7, h7r, h7o⟩ := hmk 7 (by omega)
              have H6 := Lib.hid h6o
              have H7 := Lib.hid h7o
              clear hmk h6o h7o
              have e6 : ((6 : Nat) : Int) = 6 := rfl
              have e7 : ((7 : Nat) : Int) = 7 := rfl
              rw [e6] at h6r
              rw [e7] at h7r
              clear e6 e7
              have hwr6 : IntKind.i64.wrap 6 = 6 := rfl
              have hwr7 : IntKind.i64.wrap 7 = 7 := rfl
              have hrep : (List.replicate 16 Z).length + 2 ≤ 1099511627776 := by rw [List.length_replicate]; omega
              have hgr := qr.lt
              have q5 : ∀ o, CurAt (wr.drew.alloc o) g v code (k + 1) := fun o => (qr.drewN 1).belowG ((Below.refl _ _).alloc (Nat.le_refl _) o) hgr
              go_upto_region 13 with fail
              go_cut [3] (fun t wx => ∃ ls9 : List (List Int), ls9.length = 18 ∧ Hid (∀ l ∈ ls9, l.length ≤ 13) ∧ OwnIntss wx w.heap.size t ls9 ∧ CurAt wx g v code (k + 2) ∧ Apg g w wx)
              case first =>
                have HZl : Hid (Z.length = 12) := hZl
                rcases hx01 with rfl | rfl
                · go_region_law (first
                    | (refine step_app_list2 wm (w5.alloc (.cells C6 3)) (by rfl) _ _ (by rfl) w.heap.size _ (List.replicate 16 Z) (by rfl) hom hlom (bm9.alloc bm9.size _) _ _ _ (List.replicate 6 0) (World.ownsRow.alloc ou _) _ _ _ (List.replicate 6 0) (H6.out w5 wm.heap.size _ rfl bm9.size) (by intro g1 h1 h2; simp [Value.ownBlock] at h1 h2 <;> omega) _ (by rfl) (by simp) hrep ?_; intro v2 w6 ho2 hb2)
                    | (refine step_app_list2 wm ((w5.alloc (.cells C6 3)).alloc (.cells C6 3)) (by rfl) _ _ (by rfl) w.heap.size _ (List.replicate 16 Z) (by rfl) hom hlom ((bm9.alloc bm9.size _).alloc (by have := bm9.size; simp <;> omega) _) _ _ _ (List.replicate 6 0) (World.ownsRow.alloc (H6.out w5 wm.heap.size _ rfl bm9.size) _) _ _ _ (List.replicate 6 0) (H6.out (w5.alloc (.cells C6 3)) wm.heap.size (w5.heap.size + 1) (by simp) (by have := bm9.size; simp <;> omega)) (by intro g1 h1 h2; simp [Value.ownBlock] at h1 h2 <;> omega) _ (by rfl) (by simp) hrep ?_; intro v2 w6 ho2 hb2)
                    | (refine step_app_list2 wm ((w5.alloc (.cells C6 3)).alloc (.cells C6 3)) (by rfl) _ _ (by rfl) w.heap.size _ (List.replicate 16 Z) (by rfl) hom hlom ((bm9.alloc bm9.size _).alloc (by have := bm9.size; simp <;> omega) _) _ _ _ (List.replicate 6 0) (H6.out (w5.alloc (.cells C6 3)) wm.heap.size (w5.heap.size + 1) (by simp) (by have := bm9.size; simp <;> omega)) _ _ _ (List.replicate 6 0) (World.ownsRow.alloc (H6.out w5 wm.heap.size _ rfl bm9.size) _) (by intro g1 h1 h2; simp [Value.ownBlock] at h1 h2 <;> omega) _ (by rfl) (by simp) hrep ?_; intro v2 w6 ho2 hb2)
                    | (go_simp; go_at_call 53; (first
                      | (refine (HPK.out _ (qr.drewN 1)).mono ?_; rintro e w5 ⟨rfl, q6, a6⟩; have aw := (Apart.refl g (g + 1) wr).drewN 1 |>.trans a6; obtain ⟨wm, hwm, am, bm⟩ := aw.mid; have hom := ho.apt am (by omega); have hlom : w.heap.size ≤ wm.heap.size := (by omega); have bm9 : Below wm.heap.size wm w5 := (by rw [hwm]; exact bm))
                      | (refine (HPK.out _ (q5 _)).mono ?_; rintro e w5 ⟨rfl, q6, a6⟩; have hlt5 : wr.heap.size < w5.heap.size := (by have h9 := a6.size; simp at h9; omega); have aw := ((Apart.refl g (g + 1) wr).drewN 1).next ((Below.refl (wr.drewN 1).heap.size (wr.drewN 1)).alloc (Nat.le_refl _) _) |>.trans a6; obtain ⟨wm, hwm, am, bm⟩ := aw.mid; have hom := ho.apt am (by omega); have hlom : w.heap.size ≤ wm.heap.size := (by omega); have bm9 : Below wm.heap.size wm w5 := (by rw [hwm]; exact bm); have ou : OwnInts w5 wm.heap.size (.slice (some ⟨wr.heap.size, 0, none⟩) 6 6) (List.replicate 6 0) := (by rw [hwm]; exact (H6.out wr.drew wr.heap.size _ rfl (Nat.le_refl _)).apt a6 (by omega))))))
                  all_goals
                    go_wp2_with fail
                    go_meet
                    exact ⟨_, by simp, fun l hl => by
                      rcases List.mem_append.1 hl with h1 | h1
                      · rw [(List.mem_replicate.1 h1).2]; have := HZl.out; omega
                      · simp only [List.mem_cons, List.not_mem_nil, or_false] at h1
                        rcases h1 with rfl | rfl <;> (rw [List.length_replicate]; omega), ho2, (CurAt.mid q6 qr.row hgr am bm).belowG hb2 hg, (ar.trans am).trans2 hb2 (Nat.le_refl _)⟩
                · go_region_law (first
                    | (refine step_app_list2 wm (w5.alloc (.cells C7 3)) (by rfl) _ _ (by rfl) w.heap.size _ (List.replicate 16 Z) (by rfl) hom hlom (bm9.alloc bm9.size _) _ _ _ (List.replicate 6 0) (World.ownsRow.alloc ou _) _ _ _ (List.replicate 7 0) (H7.out w5 wm.heap.size _ rfl bm9.size) (by intro g1 h1 h2; simp [Value.ownBlock] at h1 h2 <;> omega) _ (by rfl) (by simp) hrep ?_; intro v2 w6 ho2 hb2)
                    | (refine step_app_list2 wm ((w5.alloc (.cells C6 3)).alloc (.cells C7 3)) (by rfl) _ _ (by rfl) w.heap.size _ (List.replicate 16 Z) (by rfl) hom hlom ((bm9.alloc bm9.size _).alloc (by have := bm9.size; simp <;> omega) _) _ _ _ (List.replicate 6 0) (World.ownsRow.alloc (H6.out w5 wm.heap.size _ rfl bm9.size) _) _ _ _ (List.replicate 7 0) (H7.out (w5.alloc (.cells C6 3)) wm.heap.size (w5.heap.size + 1) (by simp) (by have := bm9.size; simp <;> omega)) (by intro g1 h1 h2; simp [Value.ownBlock] at h1 h2 <;> omega) _ (by rfl) (by simp) hrep ?_; intro v2 w6 ho2 hb2)
                    | (refine step_app_list2 wm ((w5.alloc (.cells C7 3)).alloc (.cells C6 3)) (by rfl) _ _ (by rfl) w.heap.size _ (List.replicate 16 Z) (by rfl) hom hlom ((bm9.alloc bm9.size _).alloc (by have := bm9.size; simp <;> omega) _) _ _ _ (List.replicate 6 0) (H6.out (w5.alloc (.cells C7 3)) wm.heap.size (w5.heap.size + 1) (by simp) (by have := bm9.size; simp <;> omega)) _ _ _ (List.replicate 7 0) (World.ownsRow.alloc (H7.out w5 wm.heap.size _ rfl bm9.size) _) (by intro g1 h1 h2; simp [Value.ownBlock] at h1 h2 <;> omega) _ (by rfl) (by simp) hrep ?_; intro v2 w6 ho2 hb2)
                    | (go_simp; go_at_call 53; (first
                      | (refine (HPK.out _ (qr.drewN 1)).mono ?_; rintro e w5 ⟨rfl, q6, a6⟩; have aw := (Apart.refl g (g + 1) wr).drewN 1 |>.trans a6; obtain ⟨wm, hwm, am, bm⟩ := aw.mid; have hom := ho.apt am (by omega); have hlom : w.heap.size ≤ wm.heap.size := (by omega); have bm9 : Below wm.heap.size wm w5 := (by rw [hwm]; exact bm))
                      | (refine (HPK.out _ (q5 _)).mono ?_; rintro e w5 ⟨rfl, q6, a6⟩; have hlt5 : wr.heap.size < w5.heap.size := (by have h9 := a6.size; simp at h9; omega); have aw := ((Apart.refl g (g + 1) wr).drewN 1).next ((Below.refl (wr.drewN 1).heap.size (wr.drewN 1)).alloc (Nat.le_refl _) _) |>.trans a6; obtain ⟨wm, hwm, am, bm⟩ := aw.mid; have hom := ho.apt am (by omega); have hlom : w.heap.size ≤ wm.heap.size := (by omega); have bm9 : Below wm.heap.size wm w5 := (by rw [hwm]; exact bm); have ou : OwnInts w5 wm.heap.size (.slice (some ⟨wr.heap.size, 0, none⟩) 6 6) (List.replicate 6 0) := (by rw [hwm]; exact (H6.out wr.drew wr.heap.size _ rfl (Nat.le_refl _)).apt a6 (by omega))))))
                  all_goals
                    go_wp2_with fail
                    go_meet
                    exact ⟨_, by simp, fun l hl => by
                      rcases List.mem_append.1 hl with h1 | h1
                      · rw [(List.mem_replicate.1 h1).2]; have := HZl.out; omega
                      · simp only [List.mem_cons, List.not_mem_nil, or_false] at h1
                        rcases h1 with rfl | rfl <;> (rw [List.length_replicate]; omega), ho2, (CurAt.mid q6 qr.row hgr am bm).belowG hb2 hg, (ar.trans am).trans2 hb2 (Nat.le_refl _)⟩
              case rest =>
                obtain ⟨ls9, hl9, hall9, ho9, q9, a9⟩ := hcut
                go_wp2_with fail
                go_ret
                exact ⟨_, ls9, k + 2, rfl, ho9, q9, a9, by omega, hall9.out, by omega, by omega⟩
end Go.Proofs.Ytmjchkaipbmjkaa
