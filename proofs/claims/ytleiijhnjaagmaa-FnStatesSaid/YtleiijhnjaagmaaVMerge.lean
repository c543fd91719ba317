/- Contracts of the exported functions on versions: MergeStates, CopyChanges, AddVersion, LastVersions; in the program and in the reference. -/
import Derived.Test.YtleiijhnjaagmaaVFns
import Derived.Test.YtleiijhnjaagmaaMark
import Derived.Deep.DeepCutAuto
set_option linter.unusedSimpArgs false
set_option linter.unusedVariables false
namespace Go.Proofs.Ytleiijhnjaagmaa
open Go.RowKit

def FreshInts2B (w : World) (r : List Int × List Int × Bool) (e : Ending) (w' : World) : Prop :=
  ∃ v u, e = .returned (.tuple #[v, u, .bool r.2.2]) ∧ OwnInts w' w.heap.size v r.1 ∧ OwnInts w' w.heap.size u r.2.1 ∧ Apt v u ∧ Below w.heap.size w w'
theorem OwnInts.empty2 (w : World) (o : Obj) : OwnInts ((w.alloc o).alloc (.cells #[] 3)) w.heap.size (.slice (some ⟨w.heap.size + 1, 0, none⟩) 0 0) [] := by
  have := OwnInts.empty (w.alloc o) w.heap.size (by simp)
  simpa using this
theorem keyA {b x y : Int} (h : (y == b) = true) : mergeKey b x y = x ∧ conflictKey b x y = false := by
  have h : y = b := by simpa using h
  unfold mergeKey conflictKey
  rw [if_pos (.inr h)]; simp [h]
theorem keyB {b x y : Int} (h : (x == y) = true) : mergeKey b x y = x ∧ conflictKey b x y = false := by
  have h : x = y := by simpa using h
  unfold mergeKey conflictKey
  rw [if_pos (.inl h)]; simp [h]
theorem keyC {b x y : Int} (h1 : (y == b) = false) (h2 : (x == y) = false) (h : (x == b) = true) : mergeKey b x y = y ∧ conflictKey b x y = false := by
  have h : x = b := by simpa using h
  have h1 : y ≠ b := by simpa using h1
  have h2 : x ≠ y := by simpa using h2
  unfold mergeKey conflictKey
  rw [if_neg (by rintro (h | h); exact h2 h; exact h1 h), if_pos h]; simp [h]
theorem keyD {b x y : Int} (h1 : (y == b) = false) (h2 : (x == y) = false) (h : (x == b) = false) : mergeKey b x y = -1 ∧ conflictKey b x y = true := by
  have h : x ≠ b := by simpa using h
  have h1 : y ≠ b := by simpa using h1
  have h2 : x ≠ y := by simpa using h2
  unfold mergeKey conflictKey
  rw [if_neg (by rintro (h | h); exact h2 h; exact h1 h), if_neg h]; simp [h, h1, h2]
theorem merged_succ {b x y : List Int} {n : Nat} {u : Int} (h : mergeKey (gi b n) (gi x n) (gi y n) = u) : merged b x y (n + 1) = merged b x y n ++ [u] := by
  conv => lhs; unfold merged
  rw [h]
theorem conflicts_no {b x y : List Int} {n : Nat} (h : conflictKey (gi b n) (gi x n) (gi y n) = false) : conflicts b x y (n + 1) = conflicts b x y n := by
  conv => lhs; unfold conflicts
  rw [h]; simp
theorem conflicts_yes {b x y : List Int} {n : Nat} (h : conflictKey (gi b n) (gi x n) (gi y n) = true) : conflicts b x y (n + 1) = conflicts b x y n ++ [(n : Int)] := by
  conv => lhs; unfold conflicts
  rw [h]; simp

set_option maxHeartbeats 3200000 in
theorem implMerge (v : Value) (l : List Ver) (i k : Int) (w : World) (h : VersAt w v l) :
    Calls Try.prog 39 #[v, .int .i64 i, .int .i64 k] w (FreshInts2B w (rMerge l i k)) := by
  unfold rMerge
  cases hh : hasV l [i, k]
  case false =>
    go_enter Try.func39, Try.ntmps39
    go_wp2_with fail
    refine (hasVersions_any _ _ l [i, k] _ (h.below ((Below.refl w.heap.size w).alloc (Nat.le_refl _) _) (Nat.le_refl _)) (IntsAt.two w i k)).mono ?_; rintro e w1 ⟨rfl, d1⟩
    have b1 := ((Below.refl w.heap.size w).alloc (Nat.le_refl _) (.cells #[.int .i64 i, .int .i64 k] 3)).trans (d1.mono (by simp))
    go_wp2_with fail
    go_ret3
    exact ⟨_, _, rfl, OwnInts.nil_ _ _, OwnInts.nil_ _ _, (fun g h1 h2 => by cases h1), b1⟩
  case true =>
    have hp := hasV2_t hh
    obtain ⟨hv0, i0, i1, k0, k1⟩ := hp
    have hv := Lib.hid hv0
    clear hv0
    go_enter Try.func39, Try.ntmps39
    go_wp2_with fail
    refine (hasVersions_any _ _ l [i, k] _ (h.below ((Below.refl w.heap.size w).alloc (Nat.le_refl _) _) (Nat.le_refl _)) (IntsAt.two w i k)).mono ?_; rintro e w1 ⟨rfl, d1⟩
    have b1 := ((Below.refl w.heap.size w).alloc (Nat.le_refl _) (.cells #[.int .i64 i, .int .i64 k] 3)).trans (d1.mono (by simp))
    have h1 := h.below b1 (Nat.le_refl _)
    go_wp2_with fail
    have hcb := common_bd hv.out (i + k).toNat i k (by omega) i0 i1 k0 k1
    obtain ⟨c0, c2, c3⟩ := hcb
    have c1 : common l i k < l.length := by omega
    clear c2 c3
    refine (commonVersion_any _ l i k _ h1 hv i0 i1 k0 k1).mono ?_; rintro e _ ⟨rfl, rfl⟩
    go_wp2_with fail
    refine (stateAt_any _ l (common l i k) _ h1 hv c0 c1).mono ?_; rintro e w2 ⟨z, rfl, oz, b2⟩
    have b12 := b1.next (Nat.le_refl _) b2
    have h2 := h1.below b2 (Nat.le_refl _)
    go_wp2_with fail
    refine (stateAt_any _ l i _ h2 hv i0 i1).mono ?_; rintro e w3 ⟨x, rfl, ox, b3⟩
    have b13 := b12.next (Nat.le_refl _) b3
    have h3 := h2.below b3 (Nat.le_refl _)
    go_wp2_with fail
    refine (stateAt_any _ l k _ h3 hv k0 k1).mono ?_; rintro e w4 ⟨y, rfl, oy, b4⟩
    have b14 := b13.next (Nat.le_refl _) b4
    have az := (oz.below (b3.next (Nat.le_refl _) b4) (Nat.le_refl _)).reads
    have ax := (ox.below b4 (Nat.le_refl _)).reads
    have ay := oy.reads
    have hlz := stateAt_len l (common l i k)
    have hlx := stateAt_len l i
    have hly := stateAt_len l k
    obtain ⟨Z, cz, hze, hnz, hcz⟩ := az.shape
    rw [hlz] at hze hnz
    subst hze
    obtain ⟨X, cx, hxe, hnx, hcx⟩ := ax.shape
    rw [hlx] at hxe hnx
    subst hxe
    obtain ⟨Y, cy, hye, hny, hcy⟩ := ay.shape
    rw [hly] at hye hny
    subst hye
    have Hlz := Lib.hid hlz
    have Hlx := Lib.hid hlx
    have Hly := Lib.hid hly
    clear hlx hly hlz ox oy oz h1 h2 h3
    go_wp2_with fail
    go_loopw [12, 13, 35] (fun t u s wr => ∃ n : Nat, n ≤ 8 ∧ s = .int .i64 n ∧ OwnInts wr w4.heap.size t (merged (stateAt l (common l i k)) (stateAt l i) (stateAt l k) n) ∧ OwnInts wr w4.heap.size u (conflicts (stateAt l (common l i k)) (stateAt l i) (stateAt l k) n) ∧ Apt t u ∧ Below w4.heap.size w4 wr) (fun _ _ s _ => 8 - (intOf s).toNat)
    case atStart => exact ⟨0, by omega, rfl, World.ownsRow.alloc (OwnInts.empty w4 _ (Nat.le_refl _)) _, OwnInts.empty2 w4 _, (fun g h1 h2 => by simp [Value.ownBlock] at h1 h2; omega), ((Below.refl _ _).alloc (Nat.le_refl _) _).alloc (by simp) _⟩
    case round =>
      obtain ⟨n, hn, rfl, ho, hu, hap, hb⟩ := hrel
      by_cases hlt : n < 8
      · obtain ⟨bz, qz, rfl, hcZ⟩ := IntsAt.at_ (az.below hb (Nat.le_refl _)) n (by have := Hlz.out; omega)
        obtain ⟨bx, qx, rfl, hcX⟩ := IntsAt.at_ (ax.below hb (Nat.le_refl _)) n (by have := Hlx.out; omega)
        obtain ⟨by_, qy, rfl, hcY⟩ := IntsAt.at_ (ay.below hb (Nat.le_refl _)) n (by have := Hly.out; omega)
        have hml := merged_len (stateAt l (common l i k)) (stateAt l i) (stateAt l k) n
        have hcl := conflicts_len (stateAt l (common l i k)) (stateAt l i) (stateAt l k) n
        have hm9 : (merged (stateAt l (common l i k)) (stateAt l i) (stateAt l k) n).length + 1 ≤ 1099511627776 := by omega
        have hc9 : (conflicts (stateAt l (common l i k)) (stateAt l i) (stateAt l k) n).length + 1 ≤ 1099511627776 := by omega
        clear hml hcl
        cases hyz : (gi (stateAt l k) n == gi (stateAt l (common l i k)) n)
        case true =>
          have hk := keyA (x := gi (stateAt l i) n) hyz
          have hm1 := Lib.hid (merged_succ hk.1)
          have hc1 := Lib.hid (conflicts_no hk.2)
          clear hk
          go_wp2_with fail
          go_quiet (fail)
          go_wp2_with (at_builtin; refine wp_app_int _ rfl _ _ rfl w4.heap.size _ (merged (stateAt l (common l i k)) (stateAt l i) (stateAt l k) n) rfl (OwnInts.drewN ho _) (gi (stateAt l i) n) _ rfl rfl hm9 (hb.drewN _).size ?_; intro v1 w5 ho1 hg1)
          have hu1 := hap.keepI (OwnInts.drewN hu _) hg1
          have ap1 := hap.grew (OwnInts.drewN hu _) hg1
          go_roundw
          case rel => exact ⟨n + 1, by omega, by go_num, hm1.out ▸ ho1, hc1.out ▸ hu1, ap1, (hb.drewN _).trans hg1.below⟩
          case measure => simp [intOf]; omega
        case false =>
          cases hxy : (gi (stateAt l i) n == gi (stateAt l k) n)
          case true =>
            have hk := keyB (b := gi (stateAt l (common l i k)) n) hxy
            have hm1 := Lib.hid (merged_succ hk.1)
            have hc1 := Lib.hid (conflicts_no hk.2)
            clear hk
            go_wp2_with fail
            go_quiet (fail)
            go_wp2_with (at_builtin; refine wp_app_int _ rfl _ _ rfl w4.heap.size _ (merged (stateAt l (common l i k)) (stateAt l i) (stateAt l k) n) rfl (OwnInts.drewN ho _) (gi (stateAt l i) n) _ rfl rfl hm9 (hb.drewN _).size ?_; intro v1 w5 ho1 hg1)
            have hu1 := hap.keepI (OwnInts.drewN hu _) hg1
            have ap1 := hap.grew (OwnInts.drewN hu _) hg1
            go_roundw
            case rel => exact ⟨n + 1, by omega, by go_num, hm1.out ▸ ho1, hc1.out ▸ hu1, ap1, (hb.drewN _).trans hg1.below⟩
            case measure => simp [intOf]; omega
          case false =>
            cases hxz : (gi (stateAt l i) n == gi (stateAt l (common l i k)) n)
            case true =>
              have hk := keyC hyz hxy hxz
              have hm1 := Lib.hid (merged_succ hk.1)
              have hc1 := Lib.hid (conflicts_no hk.2)
              clear hk
              go_wp2_with fail
              go_quiet (fail)
              go_wp2_with fail
              go_quiet (fail)
              go_wp2_with (at_builtin; refine wp_app_int _ rfl _ _ rfl w4.heap.size _ (merged (stateAt l (common l i k)) (stateAt l i) (stateAt l k) n) rfl (OwnInts.drewN ho _) (gi (stateAt l k) n) _ rfl rfl hm9 (hb.drewN _).size ?_; intro v1 w5 ho1 hg1)
              have hu1 := hap.keepI (OwnInts.drewN hu _) hg1
              have ap1 := hap.grew (OwnInts.drewN hu _) hg1
              go_roundw
              case rel => exact ⟨n + 1, by omega, by go_num, hm1.out ▸ ho1, hc1.out ▸ hu1, ap1, (hb.drewN _).trans hg1.below⟩
              case measure => simp [intOf]; omega
            case false =>
              have hk := keyD hyz hxy hxz
              have hm1 := Lib.hid (merged_succ hk.1)
              have hc1 := Lib.hid (conflicts_yes hk.2)
              clear hk
              go_wp2_with fail
              go_quiet (fail)
              go_wp2_with fail
              go_quiet (fail)
              go_upto_region 10 with (at_builtin; refine wp_app_int _ rfl _ _ rfl w4.heap.size _ (merged (stateAt l (common l i k)) (stateAt l i) (stateAt l k) n) rfl (OwnInts.drewN ho _) (-1) _ rfl rfl (hm9) (hb.drewN _).size ?_; intro v1 w5 ho1 hg1)
              have hap0 := hap
              have hu1 := hap0.keepI (OwnInts.drewN hu _) hg1
              have ap1 := hap0.grew (OwnInts.drewN hu _) hg1
              have hs5 := Nat.le_trans hb.size hg1.below.size
              go_wp2_with (at_builtin; refine wp_app_int _ rfl _ _ rfl w4.heap.size _ (conflicts (stateAt l (common l i k)) (stateAt l i) (stateAt l k) n) rfl hu1 ((n : Int)) _ rfl rfl (hc9) hs5 ?_; intro v2 w6 hu2 hg2)
              have ho2 := ap1.symm.keepI ho1 hg2
              have ap2 := (ap1.symm.grew ho1 hg2).symm
              go_roundw
              case rel => exact ⟨n + 1, by omega, by go_num, hm1.out ▸ ho2, hc1.out ▸ hu2, ap2, ((hb.drewN _).trans hg1.below).trans hg2.below⟩
              case measure => simp [intOf]; omega
      · obtain rfl : n = 8 := by omega
        go_wp2_with fail
        go_ret3
        exact ⟨_, _, rfl, ho.base b14.size, hu.base b14.size, hap, b14.next (Nat.le_refl _) hb⟩

def FreshInts2 (w : World) (x y : List Int) (e : Ending) (w' : World) : Prop :=
  ∃ v u, e = .returned (.tuple #[v, u]) ∧ OwnInts w' w.heap.size v x ∧ OwnInts w' w.heap.size u y ∧ Apt v u ∧ Below w.heap.size w w'
set_option maxHeartbeats 3200000 in
theorem vrMerge_any (v : Value) (l : List Ver) (i k : Int) (w : World) (h : VersAt w v l) (hv : Hid (areVers l = true)) (i0 : 0 ≤ i) (i1 : i < l.length) (k0 : 0 ≤ k) (k1 : k < l.length) :
    Calls Try.prog 61 #[v, .int .i64 i, .int .i64 k] w (FreshInts2 w (merged (stateAt l (common l i k)) (stateAt l i) (stateAt l k) 8) (conflicts (stateAt l (common l i k)) (stateAt l i) (stateAt l k) 8)) := by
  have h1 := h
  have b1 := Below.refl w.heap.size w
  have hcb := common_bd hv.out (i + k).toNat i k (by omega) i0 i1 k0 k1
  obtain ⟨c0, c2, c3⟩ := hcb
  have c1 : common l i k < l.length := by omega
  clear c2 c3
  go_enter Try.func61, Try.ntmps61
  go_wp2_with fail
  refine (vrCommon_any _ l i k _ h1 hv i0 i1 k0 k1).mono ?_; rintro e _ ⟨rfl, rfl⟩
  go_wp2_with fail
  refine (vrState_any _ l (common l i k) _ h1 hv c0 c1).mono ?_; rintro e w2 ⟨z, rfl, oz, b2⟩
  have b12 := b1.next (Nat.le_refl _) b2
  have h2 := h1.below b2 (Nat.le_refl _)
  go_wp2_with fail
  refine (vrState_any _ l i _ h2 hv i0 i1).mono ?_; rintro e w3 ⟨x, rfl, ox, b3⟩
  have b13 := b12.next (Nat.le_refl _) b3
  have h3 := h2.below b3 (Nat.le_refl _)
  go_wp2_with fail
  refine (vrState_any _ l k _ h3 hv k0 k1).mono ?_; rintro e w4 ⟨y, rfl, oy, b4⟩
  have b14 := b13.next (Nat.le_refl _) b4
  have az := (oz.below (b3.next (Nat.le_refl _) b4) (Nat.le_refl _)).reads
  have ax := (ox.below b4 (Nat.le_refl _)).reads
  have ay := oy.reads
  have hlz := stateAt_len l (common l i k)
  have hlx := stateAt_len l i
  have hly := stateAt_len l k
  obtain ⟨Z, cz, hze, hnz, hcz⟩ := az.shape
  rw [hlz] at hze hnz
  subst hze
  obtain ⟨X, cx, hxe, hnx, hcx⟩ := ax.shape
  rw [hlx] at hxe hnx
  subst hxe
  obtain ⟨Y, cy, hye, hny, hcy⟩ := ay.shape
  rw [hly] at hye hny
  subst hye
  have Hlz := Lib.hid hlz
  have Hlx := Lib.hid hlx
  have Hly := Lib.hid hly
  clear hlx hly hlz ox oy oz h1 h2 h3
  go_wp2_with fail
  go_loopw [11, 12, 29] (fun t u s wr => ∃ n : Nat, n ≤ 8 ∧ s = .int .i64 n ∧ OwnInts wr w4.heap.size t (merged (stateAt l (common l i k)) (stateAt l i) (stateAt l k) n) ∧ OwnInts wr w4.heap.size u (conflicts (stateAt l (common l i k)) (stateAt l i) (stateAt l k) n) ∧ Apt t u ∧ Below w4.heap.size w4 wr) (fun _ _ s _ => 8 - (intOf s).toNat)
  case atStart => exact ⟨0, by omega, rfl, OwnInts.nil_ w4 _, OwnInts.nil_ w4 _, (fun g h1 h2 => by cases h1), Below.refl _ _⟩
  case round =>
    obtain ⟨n, hn, rfl, ho, hu, hap, hb⟩ := hrel
    by_cases hlt : n < 8
    · obtain ⟨bz, qz, rfl, hcZ⟩ := IntsAt.at_ (az.below hb (Nat.le_refl _)) n (by have := Hlz.out; omega)
      obtain ⟨bx, qx, rfl, hcX⟩ := IntsAt.at_ (ax.below hb (Nat.le_refl _)) n (by have := Hlx.out; omega)
      obtain ⟨by_, qy, rfl, hcY⟩ := IntsAt.at_ (ay.below hb (Nat.le_refl _)) n (by have := Hly.out; omega)
      have hml := merged_len (stateAt l (common l i k)) (stateAt l i) (stateAt l k) n
      have hcl := conflicts_len (stateAt l (common l i k)) (stateAt l i) (stateAt l k) n
      have hm9 : (merged (stateAt l (common l i k)) (stateAt l i) (stateAt l k) n).length + 1 ≤ 1099511627776 := by omega
      have hc9 : (conflicts (stateAt l (common l i k)) (stateAt l i) (stateAt l k) n).length + 1 ≤ 1099511627776 := by omega
      clear hml hcl
      cases hxy : (gi (stateAt l i) n == gi (stateAt l k) n)
      case true =>
        have hk := keyB (b := gi (stateAt l (common l i k)) n) hxy
        have hm1 := Lib.hid (merged_succ hk.1)
        have hc1 := Lib.hid (conflicts_no hk.2)
        clear hk
        go_wp2_with fail
        go_quiet (fail)
        go_wp2_with (at_builtin; refine wp_app_int _ rfl _ _ rfl w4.heap.size _ (merged (stateAt l (common l i k)) (stateAt l i) (stateAt l k) n) rfl (OwnInts.drewN ho _) (gi (stateAt l i) n) _ rfl rfl hm9 (hb.drewN _).size ?_; intro v1 w5 ho1 hg1)
        have hu1 := hap.keepI (OwnInts.drewN hu _) hg1
        have ap1 := hap.grew (OwnInts.drewN hu _) hg1
        go_roundw
        case rel => exact ⟨n + 1, by omega, by go_num, hm1.out ▸ ho1, hc1.out ▸ hu1, ap1, (hb.drewN _).trans hg1.below⟩
        case measure => simp [intOf]; omega
      case false =>
        cases hyz : (gi (stateAt l k) n == gi (stateAt l (common l i k)) n)
        case true =>
          have hk := keyA (x := gi (stateAt l i) n) hyz
          have hm1 := Lib.hid (merged_succ hk.1)
          have hc1 := Lib.hid (conflicts_no hk.2)
          clear hk
          go_wp2_with fail
          go_quiet (fail)
          go_wp2_with (at_builtin; refine wp_app_int _ rfl _ _ rfl w4.heap.size _ (merged (stateAt l (common l i k)) (stateAt l i) (stateAt l k) n) rfl (OwnInts.drewN ho _) (gi (stateAt l i) n) _ rfl rfl hm9 (hb.drewN _).size ?_; intro v1 w5 ho1 hg1)
          have hu1 := hap.keepI (OwnInts.drewN hu _) hg1
          have ap1 := hap.grew (OwnInts.drewN hu _) hg1
          go_roundw
          case rel => exact ⟨n + 1, by omega, by go_num, hm1.out ▸ ho1, hc1.out ▸ hu1, ap1, (hb.drewN _).trans hg1.below⟩
          case measure => simp [intOf]; omega
        case false =>
          cases hxz : (gi (stateAt l i) n == gi (stateAt l (common l i k)) n)
          case true =>
            have hk := keyC hyz hxy hxz
            have hm1 := Lib.hid (merged_succ hk.1)
            have hc1 := Lib.hid (conflicts_no hk.2)
            clear hk
            go_wp2_with fail
            go_quiet (fail)
            go_wp2_with (at_builtin; refine wp_app_int _ rfl _ _ rfl w4.heap.size _ (merged (stateAt l (common l i k)) (stateAt l i) (stateAt l k) n) rfl (OwnInts.drewN ho _) (gi (stateAt l k) n) _ rfl rfl hm9 (hb.drewN _).size ?_; intro v1 w5 ho1 hg1)
            have hu1 := hap.keepI (OwnInts.drewN hu _) hg1
            have ap1 := hap.grew (OwnInts.drewN hu _) hg1
            go_roundw
            case rel => exact ⟨n + 1, by omega, by go_num, hm1.out ▸ ho1, hc1.out ▸ hu1, ap1, (hb.drewN _).trans hg1.below⟩
            case measure => simp [intOf]; omega
          case false =>
            have hk := keyD hyz hxy hxz
            have hm1 := Lib.hid (merged_succ hk.1)
            have hc1 := Lib.hid (conflicts_yes hk.2)
            clear hk
            go_wp2_with fail
            go_quiet (fail)
            go_upto_region 12 with (at_builtin; refine wp_app_int _ rfl _ _ rfl w4.heap.size _ (conflicts (stateAt l (common l i k)) (stateAt l i) (stateAt l k) n) rfl (OwnInts.drewN hu _) ((n : Int)) _ rfl rfl (hc9) (hb.drewN _).size ?_; intro v1 w5 ho1 hg1)
            have hap0 := hap.symm
            have hu1 := hap0.keepI (OwnInts.drewN ho _) hg1
            have ap1 := hap0.grew (OwnInts.drewN ho _) hg1
            have hs5 := Nat.le_trans hb.size hg1.below.size
            go_wp2_with (at_builtin; refine wp_app_int _ rfl _ _ rfl w4.heap.size _ (merged (stateAt l (common l i k)) (stateAt l i) (stateAt l k) n) rfl hu1 (-1) _ rfl rfl (hm9) hs5 ?_; intro v2 w6 hu2 hg2)
            have ho2 := ap1.symm.keepI ho1 hg2
            have ap2 := (ap1.symm.grew ho1 hg2)
            go_roundw
            case rel => exact ⟨n + 1, by omega, by go_num, hm1.out ▸ hu2, hc1.out ▸ ho2, ap2, ((hb.drewN _).trans hg1.below).trans hg2.below⟩
            case measure => simp [intOf]; omega
    · obtain rfl : n = 8 := by omega
      go_wp2_with fail
      go_ret2
      exact ⟨_, _, rfl, ho.base b14.size, hu.base b14.size, hap, b14.next (Nat.le_refl _) hb⟩
set_option maxHeartbeats 800000 in
theorem specMerge (v : Value) (l : List Ver) (i k : Int) (w : World) (h : VersAt w v l) :
    Calls Try.prog 38 #[v, .int .i64 i, .int .i64 k] w (FreshInts2B w (rMerge l i k)) := by
  unfold rMerge
  cases hh : hasV l [i, k]
  case false =>
    go_enter Try.func38, Try.ntmps38
    go_wp2_with fail
    refine (vrPair_any _ l _ _ _ h).mono ?_; rintro e w1 ⟨rfl, b1⟩
    go_wp2_with fail
    go_ret3
    exact ⟨_, _, rfl, OwnInts.nil_ _ _, OwnInts.nil_ _ _, (fun g h1 h2 => by cases h1), b1⟩
  case true =>
    have hp := hasV2_t hh
    obtain ⟨hv0, i0, i1, k0, k1⟩ := hp
    have hv := Lib.hid hv0
    clear hv0
    go_enter Try.func38, Try.ntmps38
    go_wp2_with fail
    refine (vrPair_any _ l _ _ _ h).mono ?_; rintro e w1 ⟨rfl, b1⟩
    have h1 := h.below b1 (Nat.le_refl _)
    go_wp2_with fail
    refine (vrMerge_any _ l i k _ h1 hv i0 i1 k0 k1).mono ?_; rintro e w2 ⟨x, y, rfl, ox, oy, ap, b2⟩
    have b12 := b1.next (Nat.le_refl _) b2
    go_wp2_with fail
    go_ret3
    exact ⟨_, _, rfl, ox.base b1.size, oy.base b1.size, ap, b12⟩

end Go.Proofs.Ytleiijhnjaagmaa
