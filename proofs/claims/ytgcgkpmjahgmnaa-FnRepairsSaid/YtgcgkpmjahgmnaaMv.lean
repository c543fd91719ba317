/- Contracts: places of moves, with delays. -/
import Derived.Test.YtgcgkpmjahgmnaaMvP
import Derived.Test.YtgcgkpmjahgmnaaQuietB
import Derived.Deep.DeepCutAuto
import Derived.IntWalk
set_option linter.unusedSimpArgs false
set_option linter.unusedVariables false
namespace Go.Proofs.Ytgcgkpmjahgmnaa
open Go.RowKit Go.Sort

theorem l1Least_min (a b : Int) (w : World) : Calls Try.prog 66 #[.int .i64 a, .int .i64 b] w fun e w' => e = .returned (.int .i64 (min a b)) ∧ w = w' := by
  by_cases h : a < b
  · have h2 : min a b = a := by omega
    rw [h2]
    go_enter Try.func66, Try.ntmps66
    go_wp2_with fail
    go_ret
    exact ⟨rfl, rfl⟩
  · have h2 : min a b = b := by omega
    rw [h2]
    go_enter Try.func66, Try.ntmps66
    go_wp2_with fail
    go_ret
    exact ⟨rfl, rfl⟩
theorem l1Most_max (a b : Int) (w : World) : Calls Try.prog 82 #[.int .i64 a, .int .i64 b] w fun e w' => e = .returned (.int .i64 (max a b)) ∧ w = w' := by
  by_cases h : b < a
  · have h2 : max a b = a := by omega
    rw [h2]
    go_enter Try.func82, Try.ntmps82
    go_wp2_with fail
    go_ret
    exact ⟨rfl, rfl⟩
  · have h2 : max a b = b := by omega
    rw [h2]
    go_enter Try.func82, Try.ntmps82
    go_wp2_with fail
    go_ret
    exact ⟨rfl, rfl⟩
theorem f_c_bd {f c M : Int} (h1 : 0 ≤ f) (h2 : f ≤ M) (h3 : 1 ≤ c) (h4 : c ≤ 16) : 0 ≤ f * c ∧ f * c ≤ M * 16 := by
  have a1 : 0 ≤ f * c := Int.mul_nonneg h1 (by omega)
  have a2 : f * c ≤ M * c := Int.mul_le_mul_of_nonneg_right h2 (by omega)
  have a3 : M * c ≤ M * 16 := Int.mul_le_mul_of_nonneg_left h4 (by omega)
  omega
theorem k_d_bd {k d M : Int} (h1 : 0 ≤ k) (h2 : k ≤ 16) (h3 : -M ≤ d) (h4 : d ≤ M) : -(16 * M) ≤ k * d ∧ k * d ≤ 16 * M := mul_abs_le (A := 16) (B := M) (by omega) h2 h3 h4
set_option maxRecDepth 100000 in
set_option maxHeartbeats 1600000 in
theorem placeAt_any (fx fy tx ty c k : Int) (w : World) (hm : goodM ⟨fx, fy, tx, ty, c⟩) (hk0 : 0 ≤ k) (hkc : k ≤ c) :
    Calls Try.prog 89 #[.agg #[.int .i64 fx, .int .i64 fy, .int .i64 tx, .int .i64 ty, .int .i64 c], .int .i64 k] w fun e w' => e = .returned (.tuple #[.int .i64 (mvX ⟨fx, fy, tx, ty, c⟩ k), .int .i64 (mvY ⟨fx, fy, tx, ty, c⟩ k)]) ∧ Below w.heap.size w w' := by
  have bx := mvX_bd hm hk0 hkc
  have bY := mvY_bd hm hk0 hkc
  obtain ⟨h1, h2, h3, h4⟩ := hm
  have h1 := isSpot_t h1
  have h2 := isSpot_t h2
  have h3 : 1 ≤ c := h3
  have h4 : c ≤ 16 := h4
  simp only at h1 h2
  have b1 := f_c_bd (f := fx) (M := 1280) (by omega) (by omega) h3 h4
  have b2 := f_c_bd (f := fy) (M := 672) (by omega) (by omega) h3 h4
  have eX : mvX ⟨fx, fy, tx, ty, c⟩ k = fx * c + k * (tx - fx) := rfl
  have eY : mvY ⟨fx, fy, tx, ty, c⟩ k = fy * c + k * (ty - fy) := rfl
  obtain ⟨X, hX⟩ : ∃ X, X = mvX ⟨fx, fy, tx, ty, c⟩ k := ⟨_, rfl⟩
  obtain ⟨Y, hY⟩ : ∃ Y, Y = mvY ⟨fx, fy, tx, ty, c⟩ k := ⟨_, rfl⟩
  rw [← hX] at eX bx
  rw [← hY] at eY bY
  rw [← hX, ← hY]
  obtain ⟨D, hD⟩ : ∃ D, D = tx - fx := ⟨_, rfl⟩
  obtain ⟨D2, hD2⟩ : ∃ D, D = ty - fy := ⟨_, rfl⟩
  rw [← hD] at eX
  rw [← hD2] at eY
  have b3 := k_d_bd (k := k) (d := D) (M := 1280) hk0 (by omega) (by omega) (by omega)
  have b4 := k_d_bd (k := k) (d := D2) (M := 672) hk0 (by omega) (by omega) (by omega)
  have z1 : IntKind.i64.wrap (fx * c) = fx * c := IntWalk.i64_in _ (by omega)
  have z2 : IntKind.i64.wrap (fy * c) = fy * c := IntWalk.i64_in _ (by omega)
  have z3 : IntKind.i64.wrap (tx - fx) = D := by rw [← hD]; exact IntWalk.i64_in _ (by omega)
  have z4 : IntKind.i64.wrap (ty - fy) = D2 := by rw [← hD2]; exact IntWalk.i64_in _ (by omega)
  have z5 : IntKind.i64.wrap (k * D) = k * D := by  exact IntWalk.i64_in _ (by omega)
  have z6 : IntKind.i64.wrap (k * D2) = k * D2 := by  exact IntWalk.i64_in _ (by omega)
  have z7 : IntKind.i64.wrap (fx * c + k * D) = X := by rw [← eX]; exact IntWalk.i64_in _ (by omega)
  have z8 : IntKind.i64.wrap (fy * c + k * D2) = Y := by rw [← eY]; exact IntWalk.i64_in _ (by omega)
  obtain ⟨A, hA⟩ : ∃ A, A = fx * c := ⟨_, rfl⟩
  obtain ⟨A2, hA2⟩ : ∃ A, A = fy * c := ⟨_, rfl⟩
  obtain ⟨E, hE⟩ : ∃ E, E = k * D := ⟨_, rfl⟩
  obtain ⟨E2, hE2⟩ : ∃ E, E = k * D2 := ⟨_, rfl⟩
  have y1 : IntKind.i64.wrap (fx * c) = A := by rw [hA]; exact z1
  have y2 : IntKind.i64.wrap (fy * c) = A2 := by rw [hA2]; exact z2
  have y5 : IntKind.i64.wrap (k * D) = E := by rw [hE]; exact z5
  have y6 : IntKind.i64.wrap (k * D2) = E2 := by rw [hE2]; exact z6
  have y7 : IntKind.i64.wrap (A + E) = X := by rw [hA, hE]; exact z7
  have y8 : IntKind.i64.wrap (A2 + E2) = Y := by rw [hA2, hE2]; exact z8
  clear z1 z2 z5 z6 z7 z8
  clear hX hY eX eY hD hD2 b1 b2 b3 b4 hA hA2 hE hE2 bx bY h1 h2
  have bb := fun o => (Below.refl w.heap.size w).alloc (Nat.le_refl _) o
  have Bb := Lib.hid bb
  clear bb
  go_enter Try.func89, Try.ntmps89
  go_wp2_with fail
  go_quiet (fail)
  go_wp2_with fail
  go_ret2
  exact ⟨rfl, (Bb.out _).drewN _⟩
set_option maxRecDepth 100000 in
set_option maxHeartbeats 1600000 in
theorem mvAt_any (fx fy tx ty c k : Int) (w : World) (hm : goodM ⟨fx, fy, tx, ty, c⟩) (hk0 : 0 ≤ k) (hkc : k ≤ c) :
    Calls Try.prog 98 #[.agg #[.int .i64 fx, .int .i64 fy, .int .i64 tx, .int .i64 ty, .int .i64 c], .int .i64 k] w fun e w' => e = .returned (.tuple #[.int .i64 (mvX ⟨fx, fy, tx, ty, c⟩ k), .int .i64 (mvY ⟨fx, fy, tx, ty, c⟩ k)]) ∧ Below w.heap.size w w' := by
  have bx := mvX_bd hm hk0 hkc
  have bY := mvY_bd hm hk0 hkc
  obtain ⟨h1, h2, h3, h4⟩ := hm
  have h1 := isSpot_t h1
  have h2 := isSpot_t h2
  have h3 : 1 ≤ c := h3
  have h4 : c ≤ 16 := h4
  simp only at h1 h2
  have b1 := f_c_bd (f := fx) (M := 1280) (by omega) (by omega) h3 h4
  have b2 := f_c_bd (f := fy) (M := 672) (by omega) (by omega) h3 h4
  have eX : mvX ⟨fx, fy, tx, ty, c⟩ k = fx * c + k * (tx - fx) := rfl
  have eY : mvY ⟨fx, fy, tx, ty, c⟩ k = fy * c + k * (ty - fy) := rfl
  obtain ⟨X, hX⟩ : ∃ X, X = mvX ⟨fx, fy, tx, ty, c⟩ k := ⟨_, rfl⟩
  obtain ⟨Y, hY⟩ : ∃ Y, Y = mvY ⟨fx, fy, tx, ty, c⟩ k := ⟨_, rfl⟩
  rw [← hX] at eX bx
  rw [← hY] at eY bY
  rw [← hX, ← hY]
  obtain ⟨D, hD⟩ : ∃ D, D = tx - fx := ⟨_, rfl⟩
  obtain ⟨D2, hD2⟩ : ∃ D, D = ty - fy := ⟨_, rfl⟩
  rw [← hD] at eX
  rw [← hD2] at eY
  have b3 := k_d_bd (k := k) (d := D) (M := 1280) hk0 (by omega) (by omega) (by omega)
  have b4 := k_d_bd (k := k) (d := D2) (M := 672) hk0 (by omega) (by omega) (by omega)
  have z1 : IntKind.i64.wrap (fx * c) = fx * c := IntWalk.i64_in _ (by omega)
  have z2 : IntKind.i64.wrap (fy * c) = fy * c := IntWalk.i64_in _ (by omega)
  have z3 : IntKind.i64.wrap (tx - fx) = D := by rw [← hD]; exact IntWalk.i64_in _ (by omega)
  have z4 : IntKind.i64.wrap (ty - fy) = D2 := by rw [← hD2]; exact IntWalk.i64_in _ (by omega)
  have z5 : IntKind.i64.wrap (D * k) = k * D := by rw [Int.mul_comm]; exact IntWalk.i64_in _ (by omega)
  have z6 : IntKind.i64.wrap (D2 * k) = k * D2 := by rw [Int.mul_comm]; exact IntWalk.i64_in _ (by omega)
  have z7 : IntKind.i64.wrap (fx * c + k * D) = X := by rw [← eX]; exact IntWalk.i64_in _ (by omega)
  have z8 : IntKind.i64.wrap (fy * c + k * D2) = Y := by rw [← eY]; exact IntWalk.i64_in _ (by omega)
  obtain ⟨A, hA⟩ : ∃ A, A = fx * c := ⟨_, rfl⟩
  obtain ⟨A2, hA2⟩ : ∃ A, A = fy * c := ⟨_, rfl⟩
  obtain ⟨E, hE⟩ : ∃ E, E = k * D := ⟨_, rfl⟩
  obtain ⟨E2, hE2⟩ : ∃ E, E = k * D2 := ⟨_, rfl⟩
  have y1 : IntKind.i64.wrap (fx * c) = A := by rw [hA]; exact z1
  have y2 : IntKind.i64.wrap (fy * c) = A2 := by rw [hA2]; exact z2
  have y5 : IntKind.i64.wrap (D * k) = E := by rw [hE]; exact z5
  have y6 : IntKind.i64.wrap (D2 * k) = E2 := by rw [hE2]; exact z6
  have y7 : IntKind.i64.wrap (A + E) = X := by rw [hA, hE]; exact z7
  have y8 : IntKind.i64.wrap (A2 + E2) = Y := by rw [hA2, hE2]; exact z8
  clear z1 z2 z5 z6 z7 z8
  clear hX hY eX eY hD hD2 b1 b2 b3 b4 hA hA2 hE hE2 bx bY h1 h2
  have bb := fun o => (Below.refl w.heap.size w).alloc (Nat.le_refl _) o
  have Bb := Lib.hid bb
  clear bb
  go_enter Try.func98, Try.ntmps98
  go_wp2_with fail
  go_quiet (fail)
  go_wp2_with fail
  go_ret2
  exact ⟨rfl, (Bb.out _).drewN _⟩
set_option maxRecDepth 100000 in
set_option maxHeartbeats 1600000 in
theorem placeDelayed_any (fx fy tx ty c d n : Int) (w : World) (hm : goodM ⟨fx, fy, tx, ty, c⟩) (hd0 : 0 ≤ d) (hd4 : d ≤ 4) (hn0 : 0 ≤ n) (hn : n ≤ 100) :
    Calls Try.prog 90 #[.agg #[.int .i64 fx, .int .i64 fy, .int .i64 tx, .int .i64 ty, .int .i64 c], .int .i64 d, .int .i64 n] w fun e w' => e = .returned (.tuple #[.int .i64 (mvX ⟨fx, fy, tx, ty, c⟩ (kD c d n)), .int .i64 (mvY ⟨fx, fy, tx, ty, c⟩ (kD c d n))]) ∧ Below w.heap.size w w' := by
  have hc : 1 ≤ c := hm.2.2.1
  have hk := kD_bd (c := c) (d := d) (n := n) (by omega)
  have C : Hid (∀ (K : Int) W, K = kD c d n → Calls Try.prog 89 #[.agg #[.int .i64 fx, .int .i64 fy, .int .i64 tx, .int .i64 ty, .int .i64 c], .int .i64 K] W fun e w' => e = .returned (.tuple #[.int .i64 (mvX ⟨fx, fy, tx, ty, c⟩ (kD c d n)), .int .i64 (mvY ⟨fx, fy, tx, ty, c⟩ (kD c d n))]) ∧ Below W.heap.size W w') := fun K W hK => by subst hK; exact placeAt_any fx fy tx ty c (kD c d n) W hm hk.1 hk.2
  clear hk
  have bb := fun o => (Below.refl w.heap.size w).alloc (Nat.le_refl _) o
  have Bb := Lib.hid bb
  clear bb hm
  go_enter Try.func90, Try.ntmps90
  go_wp2_with fail
  all_goals
    refine (C.out _ _ (by unfold kD; omega)).mono ?_; rintro e w1 ⟨rfl, b1⟩
    go_wp2_with fail
    go_ret2
    exact ⟨rfl, (Bb.out _).next (Nat.le_refl _) b1⟩
set_option maxRecDepth 100000 in
set_option maxHeartbeats 1600000 in
theorem rpAt_any (fx fy tx ty c d n : Int) (w : World) (hm : goodM ⟨fx, fy, tx, ty, c⟩) (hd0 : 0 ≤ d) (hd4 : d ≤ 4) (hn0 : 0 ≤ n) (hn : n ≤ 100) :
    Calls Try.prog 83 #[.agg #[.int .i64 fx, .int .i64 fy, .int .i64 tx, .int .i64 ty, .int .i64 c], .int .i64 d, .int .i64 n] w fun e w' => e = .returned (.tuple #[.int .i64 (mvX ⟨fx, fy, tx, ty, c⟩ (kD c d n)), .int .i64 (mvY ⟨fx, fy, tx, ty, c⟩ (kD c d n))]) ∧ Below w.heap.size w w' := by
  have hc : 1 ≤ c := hm.2.2.1
  have hk := kD_bd (c := c) (d := d) (n := n) (by omega)
  have C := Lib.hid (fun W => mvAt_any fx fy tx ty c (kD c d n) W hm hk.1 hk.2)
  have e1 : max 0 (min c (n - d)) = kD c d n := by unfold kD; omega
  obtain ⟨K, hK⟩ : ∃ K, K = kD c d n := ⟨_, rfl⟩
  rw [← hK] at C e1 hk
  rw [← hK]
  obtain ⟨M, hM⟩ : ∃ M, M = min c (n - d) := ⟨_, rfl⟩
  rw [← hM] at e1
  obtain ⟨G, hG⟩ : ∃ G, G = n - d := ⟨_, rfl⟩
  have z1 : IntKind.i64.wrap (n - d) = G := by rw [hG]; exact IntWalk.i64_in _ (by omega)
  have L1 := Lib.hid (fun W => l1Least_min c G W)
  have L2 := Lib.hid (fun W => l1Most_max 0 M W)
  rw [hG] at L1
  rw [← hM] at L1
  rw [e1] at L2
  rw [← hG] at L1
  clear hK hM hG e1
  have bX := (Below.refl w.heap.size w).alloc (Nat.le_refl _) (.cells #[.int .i64 fx, .int .i64 fy, .int .i64 tx, .int .i64 ty, .int .i64 c] 71)
  have y : (w.alloc (.cells #[.int .i64 fx, .int .i64 fy, .int .i64 tx, .int .i64 ty, .int .i64 c] 71)).cell? ⟨w.heap.size, 0, none⟩ = some (.int .i64 fx) ∧ (w.alloc (.cells #[.int .i64 fx, .int .i64 fy, .int .i64 tx, .int .i64 ty, .int .i64 c] 71)).cell? ⟨w.heap.size, 1, none⟩ = some (.int .i64 fy) ∧ (w.alloc (.cells #[.int .i64 fx, .int .i64 fy, .int .i64 tx, .int .i64 ty, .int .i64 c] 71)).cell? ⟨w.heap.size, 2, none⟩ = some (.int .i64 tx) ∧ (w.alloc (.cells #[.int .i64 fx, .int .i64 fy, .int .i64 tx, .int .i64 ty, .int .i64 c] 71)).cell? ⟨w.heap.size, 3, none⟩ = some (.int .i64 ty) ∧ (w.alloc (.cells #[.int .i64 fx, .int .i64 fy, .int .i64 tx, .int .i64 ty, .int .i64 c] 71)).cell? ⟨w.heap.size, 4, none⟩ = some (.int .i64 c) := ⟨by simp, by simp, by simp, by simp, by simp⟩
  obtain ⟨W, hW⟩ : ∃ W : World, W = w.alloc (.cells #[.int .i64 fx, .int .i64 fy, .int .i64 tx, .int .i64 ty, .int .i64 c] 71) := ⟨_, rfl⟩
  rw [← hW] at bX y
  have HW := Lib.hid hW
  clear hW hm
  obtain ⟨y0, y1, y2, y3, y4⟩ := y
  have k0 := cell_regrown y0
  have k1 := cell_regrown y1
  have k2 := cell_regrown y2
  have k3 := cell_regrown y3
  have k4 := cell_regrown y4
  have c1 : ∀ d9 os, Calls Try.prog 66 #[.int .i64 c, .int .i64 G] (grow (redrawn W d9) os) (fun e w'' => e = .returned (.int .i64 M) ∧ ∃ p : Regrown, w'' = grow (redrawn W p.d) p.os) := fun d9 os => rg_same (L1.out _)
  have c2 : ∀ d9 os, Calls Try.prog 82 #[.int .i64 0, .int .i64 M] (grow (redrawn W d9) os) (fun e w'' => e = .returned (.int .i64 K) ∧ ∃ p : Regrown, w'' = grow (redrawn W p.d) p.os) := fun d9 os => rg_same (L2.out _)
  have c3 := fun (d9 : Nat) (os : Array Obj) => rg_below (w := W) (d := d9) (os := os) (C.out _)
  go_enter Try.func83, Try.ntmps83
  go_upto_region 1 with fail
  rw [← HW.out]
  (refine wp_region_quiet_below (by kernel_rfl) (by kernel_rfl) ?_; (repeat (go_big_quiet_step (first | with_reducible exact c1 _ _ | with_reducible exact c2 _ _ | with_reducible exact c3 _ _))); refine wpQuiet_nil ?_; intro _ hw'; obtain ⟨⟨dq, osq⟩, hw''⟩ := hw'; subst hw'')
  go_wp2_with fail
  go_ret2
  exact ⟨rfl, RG.below bX bX.size dq osq⟩
end Go.Proofs.Ytgcgkpmjahgmnaa
