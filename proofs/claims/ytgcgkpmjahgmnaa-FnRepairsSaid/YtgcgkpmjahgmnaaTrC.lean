/- Contracts: how many pairs of a transition come too close with delays, in the program and in the reference. -/
import Derived.Test.YtgcgkpmjahgmnaaTrV
import Derived.Test.YtgcgkpmjahgmnaaMcS
import Derived.Test.YtgcgkpmjahgmnaaQuietB
set_option linter.unusedSimpArgs false
set_option linter.unusedVariables false
namespace Go.Proofs.Ytgcgkpmjahgmnaa
open Go.RowKit Go.Sort

/-- A slice of n elements comes back; nothing that was there has changed. -/
def LenPost (w : World) (n : Nat) (e : Ending) (w' : World) : Prop := ∃ (A : Option Addr) (c : Nat), e = .returned (.slice A n c) ∧ n ≤ c ∧ c ≤ 9223372036854775807 ∧ Below w.heap.size w w'
def OwnN (w : World) (base : Nat) (v : Value) (n : Nat) : Prop := ∃ xs, w.ownsRow base 23 1 v n xs
theorem OwnN.shape {w : World} {base : Nat} {v : Value} {n : Nat} (h : OwnN w base v n) : ∃ A c, v = .slice A n c ∧ n ≤ c ∧ c ≤ 9223372036854775807 := by
  obtain ⟨xs, h⟩ := h
  exact (Sl.of_own h).shape
theorem OwnN.below {w w' : World} {base B : Nat} {v : Value} {n : Nat} (h : OwnN w base v n) (hb : Below B w w') (hB : w.heap.size ≤ B) : OwnN w' base v n := by
  obtain ⟨xs, h⟩ := h
  refine ⟨xs, h.1, ?_⟩
  rcases h.2 with hn | ⟨g, cap, cur, rfl, hbg, hg, rest⟩
  · exact .inl hn
  · refine .inr ⟨g, cap, cur, rfl, hbg, ?_, rest⟩
    rw [hb.block g (by have := (Array.getElem?_eq_some_iff.1 hg).1; omega)]
    exact hg
theorem OwnN.lt {w : World} {base : Nat} {v : Value} {n : Nat} (h : OwnN w base v n) : ∀ g, v.ownBlock = some g → g < w.heap.size := by
  obtain ⟨xs, h⟩ := h
  exact fun g hg => (World.ownsRow.lt h g hg).2
theorem cell_new (w : World) (u : Value) (E H : Nat) (h : H = w.heap.size) : (w.alloc (.cells #[u] E)).cell? ⟨H, 0, none⟩ = some u := by subst h; simp
/-- append of one slice, just laid. -/
theorem wp_app_one (w : World) {ops : Array Oper} {rest : List Oper} {o : Oper} {a : Act} {Q : Exit → Act → World → Prop} (hgd : o.guard = none) (s x : Operand)
    (ho : o.op = .call { callee := .builtin .append, args := #[s, x], argTypes := #[53, 53] })
    (base : Nat) (v : Value) (n : Nat) (hs : a.eval s = v) (hown : OwnN w base v n) (u : Value) (hu : u.oneCell' = true)
    (H : Nat) (hx : a.eval x = .slice (some ⟨H, 0, none⟩) 1 1) (hc : w.cell? ⟨H, 0, none⟩ = some u) (h63 : n + 1 ≤ 1099511627776) (hbase : base ≤ w.heap.size)
    (h : ∀ v' w', OwnN w' base v' (n + 1) → Below base w w' → w.grownBy w' v.ownBlock → (v'.ownBlock = v.ownBlock ∨ v'.ownBlock = some w.heap.size) → wpList Try.prog ops Q rest (a.put o.dst v') w') :
    wpList Try.prog ops Q (o :: rest) a w := by
  obtain ⟨xs, hown⟩ := hown
  refine wpList_app w hgd s x 53 ho base 23 (.slice none 0 0) 1 24 Try.underlying53 info_ints rfl (by omega) v n xs hs hown _ 1 [u] hx ⟨rfl, _, _, rfl, Nat.le_refl _, by simp [maxLen], (fun h => by cases h), fun _ => ⟨H, 0, rfl, fun j y hy => ?_⟩⟩ (fun y hy => by rw [List.mem_singleton] at hy; rw [hy]; exact hu) h63 (by omega) hbase ?_
  · match j, hy with
    | 0, hy => simp at hy; subst hy; exact hc
    | j + 1, hy => simp at hy
  · intro v' w' h1 h2 h3
    exact h v' w' ⟨_, h1⟩ (ownsRow_below hown h2 hbase) h2 h3
theorem rowN_yes {T : Tr} {L : Int} {ds : List Int} {i k : Nat} (h : i < k) (hp : pairC T L ds i k = true) : rowN T L ds i (k + 1) = rowN T L ds i k + 1 := by
  show rowN T L ds i k + (if i < k ∧ pairC T L ds i k = true then 1 else 0) = _
  rw [if_pos ⟨h, hp⟩]
theorem rowN_no {T : Tr} {L : Int} {ds : List Int} {i k : Nat} (hp : pairC T L ds i k = false) : rowN T L ds i (k + 1) = rowN T L ds i k := by
  show rowN T L ds i k + (if i < k ∧ pairC T L ds i k = true then 1 else 0) = _
  rw [if_neg (by rintro ⟨_, h⟩; rw [hp] at h; cases h)]; rfl
theorem allN_s (T : Tr) (L : Int) (ds : List Int) (n i : Nat) : allN T L ds n (i + 1) = allN T L ds n i + rowN T L ds i n := rfl
def Nb (v : Value) (b : Nat) : Prop := ∀ gb, v.ownBlock = some gb → gb ≠ b
theorem Nb.next {v v' : Value} {b n : Nat} (h : Nb v b) (q : v'.ownBlock = v.ownBlock ∨ v'.ownBlock = some n) (hn : b < n) : Nb v' b := by
  intro gb hg
  rcases q with q | q
  · exact h gb (q ▸ hg)
  · rw [q] at hg; injection hg with hg; omega
theorem BoxM.grow {w w' : World} {b : Nat} {x y z t c : Int} {v : Value} (h : BoxM w b x y z t c) (hg : w.grownBy w' v.ownBlock) (hn : Nb v b) : BoxM w' b x y z t c :=
  (hg.block b h.lt (fun e => hn b e.symm rfl)).trans h
set_option maxRecDepth 100000 in
set_option maxHeartbeats 6400000 in
theorem delayedPairs_any (f t p dv : Value) (T : Tr) (ds : List Int) (L : Int) (w : World) (h : TrAt w f t p T) (hT : isRp T = true) (hd : IntsAt w dv ds) (hdl : ds.length = T.f.length) (hdr : ∀ i, i < T.f.length → 0 ≤ gi ds i ∧ gi ds i ≤ 4) (hL0 : 0 ≤ L) (hL : L ≤ 80) :
    Calls Try.prog 39 #[.agg #[f, t, .int .i64 T.c, p], dv, .int .i64 L] w (LenPost w (closeN T L ds)) := by
  obtain ⟨i1, i2, i3, i4⟩ := isRp_t hT
  have hpl := (isMat_t (isTr_t i1).2.2.2.2.2).1
  have bX := (Below.refl w.heap.size w).alloc (Nat.le_refl _) (.cells #[f, t, .int .i64 T.c, p] 31)
  have zT := BoxT.new 31 w f t T.c p
  obtain ⟨W, hW⟩ : ∃ W : World, W = w.alloc (.cells #[f, t, .int .i64 T.c, p] 31) := ⟨_, rfl⟩
  rw [← hW] at bX zT
  have HW := Lib.hid hW
  have ZT := Lib.hid zT
  clear hW zT
  have CM := Lib.hid (movesOf_any f t p T W (h.below bX (Nat.le_refl _)) i1)
  have HG := Lib.hid (fun i (hi : i < T.p.length) => mvOf_good i1 i2 (i := i) (by rw [← hpl]; exact hi))
  obtain ⟨Ad, cd, ed, gd, hcd⟩ := hd.shape
  subst ed
  have HD := Lib.hid (hd.below bX (Nat.le_refl _))
  obtain ⟨N, hN⟩ : ∃ N, N = T.p.length := ⟨_, rfl⟩
  have h1 : T.f.length = N := by rw [hN]; exact hpl.symm
  have hml : (mvsOf T).length = N := by rw [mvsOf_len]; exact hN.symm
  have hgx : ∀ i, i < N → gx mvRec (mvsOf T) i = mvOf T i := fun i hi => gx_mvsOf (by rw [← hN]; exact hi)
  rw [h1] at hdl hdr i3 i4
  rw [hdl] at gd HD
  rw [hdl]
  have HB := Lib.hid bX
  have HL := Lib.hid hml
  have HX := Lib.hid hgx
  have HR := Lib.hid hdr
  have HDL := Lib.hid hdl
  have HN := Lib.hid hN
  have HCN : Hid (closeN T L ds = allN T L ds N N) := by show _ = _; unfold closeN; rw [← hN]
  clear hN h1 hml hgx hdl hdr hpl bX hd h i1 i2 hT
  go_enter Try.func39, Try.ntmps39
  go_upto_region 1 with fail
  rw [← HW.out]
  obtain ⟨a0, a1, a2, a3⟩ := ZT.out.cells
  go_wp2_with fail
  refine CM.out.mono ?_; rintro e w1 ⟨mv, rfl, om, b1⟩
  have bb1 := HB.out.next (Nat.le_refl _) b1
  have om1 := om.reads
  have d1 := HD.out.below b1 (Nat.le_refl _)
  clear a0 a1 a2 a3 om
  obtain ⟨Am, cm, rfl, gm, hcm⟩ := om1.shape
  rw [HL.out] at om1 gm
  rw [HL.out]
  obtain ⟨W1, hW1⟩ : ∃ W9 : World, W9 = w1 := ⟨_, rfl⟩
  subst hW1
  have HOM := Lib.hid om1
  have HD1 := Lib.hid d1
  have HB1 := Lib.hid bb1
  clear om1 d1 b1 bb1 CM HB HD ZT HW HL
  go_wp2_with fail
  go_loopw [8, 16] (fun s i wr => ∃ n : Nat, n ≤ N ∧ i = .int .i64 n ∧ OwnN wr W1.heap.size s (allN T L ds N n) ∧ Below W1.heap.size W1 wr) (fun _ i _ => N - (intOf i).toNat)
  case atStart => exact ⟨0, Nat.zero_le _, rfl, ⟨[], World.ownsRow_lit W1 #[] 0 (Nat.le_refl _) (by simp [maxLen]) rfl⟩, (Below.refl _ _).alloc (Nat.le_refl _) _⟩
  case round =>
    obtain ⟨n, hn, rfl, ho, hb⟩ := hrel
    obtain ⟨w2, hw2⟩ : ∃ w9, w9 = wr := ⟨_, rfl⟩
    subst hw2
    by_cases hlt : n < N
    · have zi : IntKind.i64.wrap ((n : Int) + 1) = (n : Int) + 1 := IntWalk.i64_in _ (by omega)
      clear zi
      have gn := HG.out n (by rw [← HN.out]; exact hlt)
      have hmn := HX.out n hlt
      have hdn := HR.out n hlt
      obtain ⟨fx, hfx⟩ : ∃ z, z = (mvOf T n).fx := ⟨_, rfl⟩
      obtain ⟨fy, hfy⟩ : ∃ z, z = (mvOf T n).fy := ⟨_, rfl⟩
      obtain ⟨tx, htx⟩ : ∃ z, z = (mvOf T n).tx := ⟨_, rfl⟩
      obtain ⟨ty, hty⟩ : ∃ z, z = (mvOf T n).ty := ⟨_, rfl⟩
      have en : mvOf T n = ⟨fx, fy, tx, ty, T.c⟩ := by rw [hfx, hfy, htx, hty]; rfl
      rw [en] at hmn gn
      have HMN := Lib.hid hmn
      have GN := Lib.hid gn
      have EN := Lib.hid en
      obtain ⟨q, hq⟩ : ∃ q, q = gi ds n := ⟨_, rfl⟩
      rw [← hq] at hdn
      obtain ⟨hq0, hq4⟩ := hdn
      have HQ := Lib.hid hq
      clear hmn gn en hfx hfy htx hty hq
      have hA9 := allN_le T L ds N n
      have hA8 : n * N ≤ 6 * 6 := Nat.mul_le_mul (by omega) i3
      have hA : allN T L ds N n ≤ 36 := by omega
      clear hA9 hA8
      go_wp2_with fail
      go_loopw [8, 10] (fun s i wr => ∃ k : Nat, n + 1 ≤ k ∧ k ≤ N ∧ i = .int .i64 k ∧ OwnN wr W1.heap.size s (allN T L ds N n + rowN T L ds n k) ∧ Below W1.heap.size W1 wr) (fun _ i _ => N - (intOf i).toNat)
      case atStart => exact ⟨n + 1, Nat.le_refl _, hlt, by go_num, by rw [rowN_skip T L ds n (n + 1) (Nat.le_refl _)]; exact ho, hb⟩
      case round =>
        obtain ⟨k, hnk, hk, rfl, ho2, hb2⟩ := hrel
        clear ho hb 
        by_cases hlk : k < N
        · have gk := HG.out k (by rw [← HN.out]; exact hlk)
          have hmk := HX.out k hlk
          have hdk := HR.out k hlk
          obtain ⟨gxx, hgx⟩ : ∃ z, z = (mvOf T k).fx := ⟨_, rfl⟩
          obtain ⟨gy, hgy⟩ : ∃ z, z = (mvOf T k).fy := ⟨_, rfl⟩
          obtain ⟨ux, hux⟩ : ∃ z, z = (mvOf T k).tx := ⟨_, rfl⟩
          obtain ⟨uy, huy⟩ : ∃ z, z = (mvOf T k).ty := ⟨_, rfl⟩
          have ek : mvOf T k = ⟨gxx, gy, ux, uy, T.c⟩ := by rw [hgx, hgy, hux, huy]; rfl
          rw [ek] at hmk gk
          clear hgx hgy hux huy
          obtain ⟨r, hr⟩ : ∃ r, r = gi ds k := ⟨_, rfl⟩
          rw [← hr] at hdk
          obtain ⟨hr0, hr4⟩ := hdk
          have hpc : pairC T L ds n k = closeB ⟨fx, fy, tx, ty, T.c⟩ ⟨gxx, gy, ux, uy, T.c⟩ q r L := by
            show closeB (mvOf T n) (mvOf T k) (gi ds n) (gi ds k) L = _
            rw [EN.out, ek, ← HQ.out, ← hr]
          have om3 := HOM.out.below hb2 (Nat.le_refl _)
          have d3 := HD1.out.below hb2 (Nat.le_refl _)
          obtain ⟨bm, om_, rfl, m0, m1, m2, m3, m4⟩ := mv_at (n := N) om3 n (by rw [mvsOf_len, ← HN.out]; exact hlt)
          obtain ⟨bm', om_', heq, l0, l1, l2, l3, l4⟩ := mv_at (n := N) om3 k (by rw [mvsOf_len, ← HN.out]; exact hlk)
          injection heq with heq
          injection heq with e1 e2
          subst e1 e2
          rw [HMN.out] at m0 m1 m2 m3 m4
          rw [hmk] at l0 l1 l2 l3 l4
          simp only at m0 m1 m2 m3 m4 l0 l1 l2 l3 l4
          obtain ⟨bd, od, rfl, dd0⟩ := IntsAt.at_ (n := N) d3 n (by rw [HDL.out]; exact hlt)
          obtain ⟨bd', od', heq, dd1⟩ := IntsAt.at_ (n := N) d3 k (by rw [HDL.out]; exact hlk)
          injection heq with heq
          injection heq with e1 e2
          subst e1 e2
          rw [← HQ.out] at dd0
          rw [← hr] at dd1
          have k0 := cell_regrown m0
          have k1 := cell_regrown m1
          have k2 := cell_regrown m2
          have k3 := cell_regrown m3
          have k4 := cell_regrown m4
          have k5 := cell_regrown l0
          have k6 := cell_regrown l1
          have k7 := cell_regrown l2
          have k8 := cell_regrown l3
          have k9 := cell_regrown l4
          have k10 := cell_regrown dd0
          have k11 := cell_regrown dd1
          have CC := Lib.hid (fun W9 => closeDelayed_any fx fy tx ty gxx gy ux uy T.c q r L W9 GN.out gk hq0 hq4 hr0 hr4 hL0 hL)
          rw [← hpc] at CC
          have hrl := rowN_le T L ds n k
          have HR9 := Lib.hid hrl
          have hbase : W1.heap.size ≤ wr.heap.size := hb2.size
          clear hpc hr ek hmk gk om3 d3 m0 m1 m2 m3 m4 l0 l1 l2 l3 l4 dd0 dd1 hrl
          cases hpc : pairC T L ds n k
          case false =>
            rw [hpc] at CC
            have cC := fun (d9 : Nat) (os : Array Obj) => rg_below (w := wr) (d := d9) (os := os) (CC.out _)
            have HP := Lib.hid (rowN_no hpc)
            clear hpc
            go_upto_region 8 with fail
            (refine wp_region_quiet_below (by kernel_rfl) (by kernel_rfl) ?_; (repeat (go_big_quiet_step (first | with_reducible exact cC _ _))); refine wpQuiet_nil ?_; intro _ hw'; obtain ⟨⟨dq, osq⟩, hw''⟩ := hw'; subst hw'')
            have bb3 := RG.below hb2 hbase dq osq
            have oo3 := ho2.below ((below_regrown wr dq osq)) (Nat.le_refl _)
            obtain ⟨w3, hw3⟩ : ∃ W9 : World, W9 = grow (redrawn wr dq) osq := ⟨_, rfl⟩
            rw [← hw3] at bb3 oo3 
            rw [← hw3]
            clear hw3 k0 k1 k2 k3 k4 k5 k6 k7 k8 k9 k10 k11 cC
            go_wp2_with fail
            go_roundw
            case rel => exact ⟨k + 1, by omega, by omega, by go_num, by rw [HP.out]; exact oo3, bb3⟩
            case measure => simp [intOf]; omega
          case true =>
            rw [hpc] at CC
            have cC := fun (d9 : Nat) (os : Array Obj) => rg_below (w := wr) (d := d9) (os := os) (CC.out _)
            have HP := Lib.hid (rowN_yes (by omega) hpc)
            clear hpc
            go_upto_region 8 with fail
            (refine wp_region_quiet_below (by kernel_rfl) (by kernel_rfl) ?_; (repeat (go_big_quiet_step (first | with_reducible exact cC _ _))); refine wpQuiet_nil ?_; intro _ hw'; obtain ⟨⟨dq, osq⟩, hw''⟩ := hw'; subst hw'')
            have bb3 := RG.below hb2 hbase dq osq
            have oo3 := ho2.below ((below_regrown wr dq osq)) (Nat.le_refl _)
            obtain ⟨w3, hw3⟩ : ∃ W9 : World, W9 = grow (redrawn wr dq) osq := ⟨_, rfl⟩
            rw [← hw3] at bb3 oo3 
            rw [← hw3]
            clear hw3 k0 k1 k2 k3 k4 k5 k6 k7 k8 k9 k10 k11 cC
            have h9 : allN T L ds N n + rowN T L ds n k + 1 ≤ 1099511627776 := by have := HR9.out; omega
            obtain ⟨M, hM⟩ : ∃ M, M = allN T L ds N n + rowN T L ds n k := ⟨_, rfl⟩
            rw [← hM] at oo3 h9
            have HM := Lib.hid hM
            clear hM
            have bl := fun (x y : Obj) => ((Below.refl w3.heap.size w3).alloc (Nat.le_refl _) x).alloc (by simp) y
            have BL := Lib.hid bl
            clear bl
            have hbase3 : W1.heap.size ≤ w3.heap.size := bb3.size
            go_wp2_with (at_builtin; refine wp_app_one _ rfl _ _ rfl W1.heap.size _ M rfl (oo3.below (BL.out _ _) (Nat.le_refl _)) (.slice (some ⟨w3.heap.size, 0, none⟩) 2 2) rfl _ rfl (cell_new _ _ _ _ (by simp)) h9 (by simp; omega) ?_; intro v4 w4 o4 b4 g4 q4)
            go_roundw
            case rel => exact ⟨k + 1, by omega, by omega, by go_num, by rw [HP.out, ← Nat.add_assoc, ← HM.out]; exact o4, (bb3.trans ((BL.out _ _).mono hbase3)).trans b4⟩
            case measure => simp [intOf]; omega
        · obtain rfl : k = N := by omega
          have hs := Lib.hid (allN_s T L ds k n)
          go_wp2_with fail
          go_roundw
          case rel => exact ⟨n + 1, by omega, by go_num, by rw [hs.out]; exact ho2, hb2⟩
          case measure => simp [intOf]; omega
    · obtain rfl : n = N := by omega
      rw [← HCN.out] at ho
      obtain ⟨Ao, co, rfl, go1, go2⟩ := ho.shape
      go_wp2_with fail
      go_ret
      exact ⟨Ao, co, rfl, go1, go2, HB1.out.next (Nat.le_refl _) hb⟩
set_option maxRecDepth 100000 in
set_option maxHeartbeats 6400000 in
theorem rpClose_any (f t p dv : Value) (T : Tr) (ds : List Int) (L : Int) (w : World) (h : TrAt w f t p T) (hT : isRp T = true) (hd : IntsAt w dv ds) (hdl : ds.length = T.f.length) (hdr : ∀ i, i < T.f.length → 0 ≤ gi ds i ∧ gi ds i ≤ 4) (hL0 : 0 ≤ L) (hL : L ≤ 80) :
    Calls Try.prog 25 #[.agg #[f, t, .int .i64 T.c, p], dv, .int .i64 L] w (LenPost w (closeN T L ds)) := by
  obtain ⟨i1, i2, i3, i4⟩ := isRp_t hT
  have hpl := (isMat_t (isTr_t i1).2.2.2.2.2).1
  have bX := (Below.refl w.heap.size w).alloc (Nat.le_refl _) (.cells #[f, t, .int .i64 T.c, p] 31)
  have zT := BoxT.new 31 w f t T.c p
  obtain ⟨W, hW⟩ : ∃ W : World, W = w.alloc (.cells #[f, t, .int .i64 T.c, p] 31) := ⟨_, rfl⟩
  rw [← hW] at bX zT
  have HW := Lib.hid hW
  have ZT := Lib.hid zT
  clear hW zT
  have CM := Lib.hid (asMoves_any f t p T W (h.below bX (Nat.le_refl _)) i1)
  have HG := Lib.hid (fun i (hi : i < T.p.length) => mvOf_good i1 i2 (i := i) (by rw [← hpl]; exact hi))
  obtain ⟨Ad, cd, ed, gd, hcd⟩ := hd.shape
  subst ed
  have HD := Lib.hid (hd.below bX (Nat.le_refl _))
  obtain ⟨N, hN⟩ : ∃ N, N = T.p.length := ⟨_, rfl⟩
  have h1 : T.f.length = N := by rw [hN]; exact hpl.symm
  have hml : (mvsOf T).length = N := by rw [mvsOf_len]; exact hN.symm
  have hgx : ∀ i, i < N → gx mvRec (mvsOf T) i = mvOf T i := fun i hi => gx_mvsOf (by rw [← hN]; exact hi)
  rw [h1] at hdl hdr i3 i4
  rw [hdl] at gd HD
  rw [hdl]
  have HB := Lib.hid bX
  have HL := Lib.hid hml
  have HX := Lib.hid hgx
  have HR := Lib.hid hdr
  have HDL := Lib.hid hdl
  have HN := Lib.hid hN
  have HCN : Hid (closeN T L ds = allN T L ds N N) := by show _ = _; unfold closeN; rw [← hN]
  clear hN h1 hml hgx hdl hdr hpl bX hd h i1 i2 hT
  go_enter Try.func25, Try.ntmps25
  go_upto_region 1 with fail
  rw [← HW.out]
  obtain ⟨a0, a1, a2, a3⟩ := ZT.out.cells
  go_wp2_with fail
  refine CM.out.mono ?_; rintro e w1 ⟨mv, rfl, om, b1⟩
  have bb1 := HB.out.next (Nat.le_refl _) b1
  have om1 := om.reads
  have d1 := HD.out.below b1 (Nat.le_refl _)
  clear a0 a1 a2 a3 om
  obtain ⟨Am, cm, rfl, gm, hcm⟩ := om1.shape
  rw [HL.out] at om1 gm
  rw [HL.out]
  obtain ⟨W1, hW1⟩ : ∃ W9 : World, W9 = w1 := ⟨_, rfl⟩
  subst hW1
  have HOM := Lib.hid om1
  have HD1 := Lib.hid d1
  have HB1 := Lib.hid bb1
  clear om1 d1 b1 bb1 CM HB HD ZT HW HL
  go_wp2_with fail
  go_loopw [8, 16] (fun s i wr => ∃ n : Nat, n ≤ N ∧ i = .int .i64 n ∧ OwnN wr W1.heap.size s (allN T L ds N n) ∧ Below W1.heap.size W1 wr) (fun _ i _ => N - (intOf i).toNat)
  case atStart => exact ⟨0, Nat.zero_le _, rfl, ⟨_, World.ownsRow_nil W1 _ _ _⟩, Below.refl _ _⟩
  case round =>
    obtain ⟨n, hn, rfl, ho, hb⟩ := hrel
    obtain ⟨w2, hw2⟩ : ∃ w9, w9 = wr := ⟨_, rfl⟩
    subst hw2
    by_cases hlt : n < N
    · have zi : IntKind.i64.wrap ((n : Int) + 1) = (n : Int) + 1 := IntWalk.i64_in _ (by omega)
      clear zi
      have gn := HG.out n (by rw [← HN.out]; exact hlt)
      have hmn := HX.out n hlt
      have hdn := HR.out n hlt
      obtain ⟨fx, hfx⟩ : ∃ z, z = (mvOf T n).fx := ⟨_, rfl⟩
      obtain ⟨fy, hfy⟩ : ∃ z, z = (mvOf T n).fy := ⟨_, rfl⟩
      obtain ⟨tx, htx⟩ : ∃ z, z = (mvOf T n).tx := ⟨_, rfl⟩
      obtain ⟨ty, hty⟩ : ∃ z, z = (mvOf T n).ty := ⟨_, rfl⟩
      have en : mvOf T n = ⟨fx, fy, tx, ty, T.c⟩ := by rw [hfx, hfy, htx, hty]; rfl
      rw [en] at hmn gn
      have HMN := Lib.hid hmn
      have GN := Lib.hid gn
      have EN := Lib.hid en
      obtain ⟨q, hq⟩ : ∃ q, q = gi ds n := ⟨_, rfl⟩
      rw [← hq] at hdn
      obtain ⟨hq0, hq4⟩ := hdn
      have HQ := Lib.hid hq
      clear hmn gn en hfx hfy htx hty hq
      have hA9 := allN_le T L ds N n
      have hA8 : n * N ≤ 6 * 6 := Nat.mul_le_mul (by omega) i3
      have hA : allN T L ds N n ≤ 36 := by omega
      clear hA9 hA8
      obtain ⟨bm, om_, rfl, m0, m1, m2, m3, m4⟩ := mv_at (n := N) (HOM.out.below hb (Nat.le_refl _)) n (by rw [mvsOf_len, ← HN.out]; exact hlt)
      rw [HMN.out] at m0 m1 m2 m3 m4
      simp only at m0 m1 m2 m3 m4
      have zM := BoxM.new w2 fx fy tx ty T.c
      have hlb := ho.lt
      have ho := ho.below ((Below.refl w2.heap.size w2).alloc (Nat.le_refl _) (.cells #[.int .i64 fx, .int .i64 fy, .int .i64 tx, .int .i64 ty, .int .i64 T.c] 71)) (Nat.le_refl _)
      have hb := hb.alloc hb.size (.cells #[.int .i64 fx, .int .i64 fy, .int .i64 tx, .int .i64 ty, .int .i64 T.c] 71)
      obtain ⟨B0, hB0⟩ : ∃ B, B = w2.heap.size := ⟨_, rfl⟩
      obtain ⟨W2, hW2⟩ : ∃ W9 : World, W9 = w2.alloc (.cells #[.int .i64 fx, .int .i64 fy, .int .i64 tx, .int .i64 ty, .int .i64 T.c] 71) := ⟨_, rfl⟩
      have HW2 := Lib.hid hW2
      rw [← hW2] at zM ho hb
      go_upto_region 6 with fail
      rw [← HW2.out]
      rw [← hB0] at zM hlb
      rw [← hB0]
      have hne : ∀ gb, (u8 : Value).ownBlock = some gb → gb ≠ B0 := fun gb h9 => by have := hlb gb h9; omega
      clear m0 m1 m2 m3 m4 hlb hB0 hW2
      go_wp2_with fail
      go_loopw [8, 11] (fun s i wr => ∃ k : Nat, n + 1 ≤ k ∧ k ≤ N ∧ i = .int .i64 k ∧ OwnN wr W1.heap.size s (allN T L ds N n + rowN T L ds n k) ∧ Below W1.heap.size W1 wr ∧ BoxM wr B0 fx fy tx ty T.c ∧ Nb s B0) (fun _ i _ => N - (intOf i).toNat)
      case atStart => exact ⟨n + 1, Nat.le_refl _, hlt, by go_num, by rw [rowN_skip T L ds n (n + 1) (Nat.le_refl _)]; exact ho, hb, zM, hne⟩
      case round =>
        obtain ⟨k, hnk, hk, rfl, ho2, hb2, zb, nb⟩ := hrel
        clear ho hb zM hne
        by_cases hlk : k < N
        · have gk := HG.out k (by rw [← HN.out]; exact hlk)
          have hmk := HX.out k hlk
          have hdk := HR.out k hlk
          obtain ⟨gxx, hgx⟩ : ∃ z, z = (mvOf T k).fx := ⟨_, rfl⟩
          obtain ⟨gy, hgy⟩ : ∃ z, z = (mvOf T k).fy := ⟨_, rfl⟩
          obtain ⟨ux, hux⟩ : ∃ z, z = (mvOf T k).tx := ⟨_, rfl⟩
          obtain ⟨uy, huy⟩ : ∃ z, z = (mvOf T k).ty := ⟨_, rfl⟩
          have ek : mvOf T k = ⟨gxx, gy, ux, uy, T.c⟩ := by rw [hgx, hgy, hux, huy]; rfl
          rw [ek] at hmk gk
          clear hgx hgy hux huy
          obtain ⟨r, hr⟩ : ∃ r, r = gi ds k := ⟨_, rfl⟩
          rw [← hr] at hdk
          obtain ⟨hr0, hr4⟩ := hdk
          have hpc : pairC T L ds n k = closeB ⟨fx, fy, tx, ty, T.c⟩ ⟨gxx, gy, ux, uy, T.c⟩ q r L := by
            show closeB (mvOf T n) (mvOf T k) (gi ds n) (gi ds k) L = _
            rw [EN.out, ek, ← HQ.out, ← hr]
          have om3 := HOM.out.below hb2 (Nat.le_refl _)
          have d3 := HD1.out.below hb2 (Nat.le_refl _)
          obtain ⟨bm', om_', heq, l0, l1, l2, l3, l4⟩ := mv_at (n := N) om3 k (by rw [mvsOf_len, ← HN.out]; exact hlk)
          injection heq with heq
          injection heq with e1 e2
          subst e1 e2
          rw [hmk] at l0 l1 l2 l3 l4
          simp only at l0 l1 l2 l3 l4
          obtain ⟨bd, od, rfl, dd0⟩ := IntsAt.at_ (n := N) d3 n (by rw [HDL.out]; exact hlt)
          obtain ⟨bd', od', heq, dd1⟩ := IntsAt.at_ (n := N) d3 k (by rw [HDL.out]; exact hlk)
          injection heq with heq
          injection heq with e1 e2
          subst e1 e2
          rw [← HQ.out] at dd0
          rw [← hr] at dd1
          have k5 := cell_regrown l0
          have k6 := cell_regrown l1
          have k7 := cell_regrown l2
          have k8 := cell_regrown l3
          have k9 := cell_regrown l4
          have k10 := cell_regrown dd0
          have k11 := cell_regrown dd1
          obtain ⟨x0, x1, x2, x3, x4⟩ := zb.cells
          have k12 := cell_regrown x0
          have k13 := cell_regrown x1
          have k14 := cell_regrown x2
          have k15 := cell_regrown x3
          have k16 := cell_regrown x4
          clear x0 x1 x2 x3 x4
          have k0 := k12
          have k1 := k13
          have k2 := k14
          have k3 := k15
          have k4 := k16
          clear k12 k13 k14 k15 k16
          have CC := Lib.hid (fun W9 => rpFits_any fx fy tx ty gxx gy ux uy T.c q r L W9 GN.out gk hq0 hq4 hr0 hr4 hL0 hL)
          rw [← hpc] at CC
          have hrl := rowN_le T L ds n k
          have HR9 := Lib.hid hrl
          have hbase : W1.heap.size ≤ wr.heap.size := hb2.size
          clear hpc hr ek hmk gk om3 d3 l0 l1 l2 l3 l4 dd0 dd1 hrl
          cases hpc : pairC T L ds n k
          case false =>
            rw [hpc] at CC
            have cC := fun (d9 : Nat) (os : Array Obj) => rg_below (w := wr) (d := d9) (os := os) (CC.out _)
            have HP := Lib.hid (rowN_no hpc)
            clear hpc
            go_upto_region 9 with fail
            (refine wp_region_quiet_below (by kernel_rfl) (by kernel_rfl) ?_; (repeat (go_big_quiet_step (first | with_reducible exact cC _ _))); refine wpQuiet_nil ?_; intro _ hw'; obtain ⟨⟨dq, osq⟩, hw''⟩ := hw'; subst hw'')
            have bb3 := RG.below hb2 hbase dq osq
            have oo3 := ho2.below ((below_regrown wr dq osq)) (Nat.le_refl _)
            have zb3 := zb.keep (below_regrown wr dq osq) zb.lt
            obtain ⟨w3, hw3⟩ : ∃ W9 : World, W9 = grow (redrawn wr dq) osq := ⟨_, rfl⟩
            rw [← hw3] at bb3 oo3 zb3
            rw [← hw3]
            clear hw3 k0 k1 k2 k3 k4 k5 k6 k7 k8 k9 k10 k11 cC
            go_wp2_with fail
            go_roundw
            case rel => exact ⟨k + 1, by omega, by omega, by go_num, by rw [HP.out]; exact oo3, bb3, zb3, nb⟩
            case measure => simp [intOf]; omega
          case true =>
            rw [hpc] at CC
            have cC := fun (d9 : Nat) (os : Array Obj) => rg_below (w := wr) (d := d9) (os := os) (CC.out _)
            have HP := Lib.hid (rowN_yes (by omega) hpc)
            clear hpc
            go_upto_region 9 with fail
            (refine wp_region_quiet_below (by kernel_rfl) (by kernel_rfl) ?_; (repeat (go_big_quiet_step (first | with_reducible exact cC _ _))); refine wpQuiet_nil ?_; intro _ hw'; obtain ⟨⟨dq, osq⟩, hw''⟩ := hw'; subst hw'')
            have bb3 := RG.below hb2 hbase dq osq
            have oo3 := ho2.below ((below_regrown wr dq osq)) (Nat.le_refl _)
            have zb3 := zb.keep (below_regrown wr dq osq) zb.lt
            obtain ⟨w3, hw3⟩ : ∃ W9 : World, W9 = grow (redrawn wr dq) osq := ⟨_, rfl⟩
            rw [← hw3] at bb3 oo3 zb3
            rw [← hw3]
            clear hw3 k0 k1 k2 k3 k4 k5 k6 k7 k8 k9 k10 k11 cC
            have h9 : allN T L ds N n + rowN T L ds n k + 1 ≤ 1099511627776 := by have := HR9.out; omega
            obtain ⟨M, hM⟩ : ∃ M, M = allN T L ds N n + rowN T L ds n k := ⟨_, rfl⟩
            rw [← hM] at oo3 h9
            have HM := Lib.hid hM
            clear hM
            have bl := fun (x y : Obj) => ((Below.refl w3.heap.size w3).alloc (Nat.le_refl _) x).alloc (by simp) y
            have BL := Lib.hid bl
            clear bl
            have hbase3 : W1.heap.size ≤ w3.heap.size := bb3.size
            go_wp2_with (at_builtin; refine wp_app_one _ rfl _ _ rfl W1.heap.size _ M rfl (oo3.below (BL.out _ _) (Nat.le_refl _)) (.slice (some ⟨w3.heap.size, 0, none⟩) 2 2) rfl _ rfl (cell_new _ _ _ _ (by simp)) h9 (by simp; omega) ?_; intro v4 w4 o4 b4 g4 q4)
            go_roundw
            case rel => exact ⟨k + 1, by omega, by omega, by go_num, by rw [HP.out, ← Nat.add_assoc, ← HM.out]; exact o4, (bb3.trans ((BL.out _ _).mono hbase3)).trans b4, ((zb3.keep (BL.out _ _) zb3.lt).grow g4 nb), nb.next q4 (by have := zb3.lt; simp; omega)⟩
            case measure => simp [intOf]; omega
        · obtain rfl : k = N := by omega
          have hs := Lib.hid (allN_s T L ds k n)
          go_wp2_with fail
          go_roundw
          case rel => exact ⟨n + 1, by omega, by go_num, by rw [hs.out]; exact ho2, hb2⟩
          case measure => simp [intOf]; omega
    · obtain rfl : n = N := by omega
      rw [← HCN.out] at ho
      obtain ⟨Ao, co, rfl, go1, go2⟩ := ho.shape
      go_wp2_with fail
      go_ret
      exact ⟨Ao, co, rfl, go1, go2, HB1.out.next (Nat.le_refl _) hb⟩
end Go.Proofs.Ytgcgkpmjahgmnaa
