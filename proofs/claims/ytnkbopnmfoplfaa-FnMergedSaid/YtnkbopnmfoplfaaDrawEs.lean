/- The draws of edits: edits. -/
import Derived.Test.YtnkbopnmfoplfaaDrawEd
import Derived.Test.YtnkbopnmfoplfaaEditMove
set_option linter.unusedSimpArgs false
set_option linter.unusedVariables false
namespace Go.Proofs.Ytnkbopnmfoplfaa
open Go.RowKit Go.Sort
theorem Apt.fresh {w : World} {v u : Value} {lo e sz n : Nat} {xs : List Value} (h : w.ownsRow lo e sz v n xs) (hu : ∀ gb, u.ownBlock = some gb → w.heap.size ≤ gb) : Apt v u := fun g h1 h2 => by
  have := (World.ownsRow.lt h g h1).2
  have := hu g h2
  omega
theorem own_base {α : Type} {R : Rec α} {w : World} {lo : Nat} {v : Value} {l : List α} (h : OwnRow R w lo v l) : ∀ gb, v.ownBlock = some gb → lo ≤ gb := fun gb h9 => (World.ownsRow.lt h gb h9).1
theorem edt_pn {x : Edt} (h : isEdt x = true) : ∃ n : Nat, x.p = (n : Int) ∧ n ≤ 11 := by
  unfold isEdt at h
  simp only [Bool.and_eq_true, inR, decide_eq_true_eq] at h
  obtain ⟨⟨⟨⟨_, h2⟩, _⟩, _⟩, _⟩ := h
  exact ⟨x.p.toNat, by omega, by omega⟩
theorem move_len (l : List Spt) (n : Nat) (b a : Spt) : (rMove l n b a).2 = true → (rMove l n b a).1.length = l.length := by
  unfold rMove
  split <;> simp
set_option maxRecDepth 100000 in
set_option maxHeartbeats 6400000 in
theorem edits_any (g n : Nat) (v : Value) (code : List Nat) (lv : Value) (l : List Spt) (w : World) (h : CurAt w g v code n) (hl : OwnRow sptRec w (g + 1) lv l) (h13 : l.length ≤ 13) (hn : n ≤ 4611686018390000000) :
    Calls Try.prog 57 #[.pointer (some ⟨g, 0, none⟩), lv] w (FreshRC edtRec w g v code fun es n' => es.length ≤ 31 ∧ n ≤ n' ∧ n' ≤ n + 10000) := by
  have hg := h.lt
  have C1 := Lib.hid (pick_ex g v code 8 n w (by omega) (by omega) h)
  go_enter Try.func57, Try.ntmps57
  go_wp2_with fail
  refine C1.out.mono ?_; rintro e w1 ⟨i1, k1, rfl, hi1, hk1, hj1, q1, a1⟩
  have l1 := hl.aptS a1 (Nat.le_refl _)
  clear C1 h hl
  go_wp2_with fail
  go_loopg [5, 6, 7] i1 (fun gk t s i wr => ∃ (es : List Edt) (ls : List Spt) (j k : Nat), j ≤ gk ∧ i = .int .i64 j ∧ j ≤ 7 ∧ es.length + j ≤ 7 ∧ ls.length ≤ 13 ∧ n ≤ k ∧ k + 400 * j ≤ n + 22 + 2800 ∧ OwnRow edtRec wr w.heap.size t es ∧ OwnRow sptRec wr (g + 1) s ls ∧ Apt t s ∧ CurAt wr g v code k ∧ Apg g w wr)
  case atStart => exact ⟨[], l, i1, k1, Nat.le_refl _, rfl, by omega, by simp; omega, h13, hk1, by omega, OwnRow.nil_ edtRec _ _, l1, (fun gb h9 => by cases h9), q1, a1⟩
  case round =>
    obtain ⟨es, ls, j, k, hjg, rfl, hj7, hes, hls, hk2, hj2, ho, hs, hap, qr, ar⟩ := hrel
    clear l1 q1 a1
    obtain ⟨A, c, rfl, hnc, hc63⟩ := hs.reads.shape
    obtain ⟨D, d, rfl, hnd, hd63⟩ := ho.reads.shape
    have hsr := ar.size
    have hgr := qr.lt
    by_cases hj0 : 0 < j
    · have hj0i : (0 : Int) < (j : Int) := by omega
      have C2 := Lib.hid (editOf_any g k v code (.slice A ls.length c) ls wr qr hs hls (by omega))
      go_wp2_with fail
      refine C2.out.mono ?_; rintro e w2 ⟨x0, x1, x2, x3, x4, x5, k2, rfl, q2, a2, hk3, hj3⟩
      have o2 := ho.aptS a2 (by omega)
      have s2 := hs.aptS a2 (Nat.le_refl _)
      have ar2 := ar.trans a2
      have hg2 := q2.lt
      have o3 := o2.alS (.cells #[.int .i64 x0, .int .i64 x1, .int .i64 x2, .int .i64 x3, .int .i64 x4, .int .i64 x5] 54)
      have s3 := s2.alS (.cells #[.int .i64 x0, .int .i64 x1, .int .i64 x2, .int .i64 x3, .int .i64 x4, .int .i64 x5] 54)
      have a3 := apg_al ar2 (.cells #[.int .i64 x0, .int .i64 x1, .int .i64 x2, .int .i64 x3, .int .i64 x4, .int .i64 x5] 54)
      have q3 := q2.belowG ((Below.refl _ w2).alloc (Nat.le_refl _) (.cells #[.int .i64 x0, .int .i64 x1, .int .i64 x2, .int .i64 x3, .int .i64 x4, .int .i64 x5] 54)) hg2
      have zb := BoxE.new w2 x0 x1 x2 x3 x4 x5
      obtain ⟨X, hX⟩ : ∃ X, X = w2.alloc (.cells #[.int .i64 x0, .int .i64 x1, .int .i64 x2, .int .i64 x3, .int .i64 x4, .int .i64 x5] 54) := ⟨_, rfl⟩
      obtain ⟨B, hB⟩ : ∃ B, B = w2.heap.size := ⟨_, rfl⟩
      rw [← hX] at o3 s3 a3 q3 zb
      rw [← hB] at zb
      have hgB : g < B := by omega
      have HX := Lib.hid hX
      have HB := Lib.hid hB
      clear hX hB C2 o2 s2 ar2 q2 a2 ho hs ar qr hg2 hgr hsr
      go_upto_region 7 with fail
      rw [← HX.out, ← HB.out]
      have R3 := s3.reads
      have hgX := q3.lt
      have hsX := a3.size
      have C3 := Lib.hid (chGood_any (.slice A ls.length c) ls X R3)
      go_wp2_with fail
      refine C3.out.mono ?_; rintro e X4 ⟨rfl, b4⟩
      have zb4 := zb.keep b4 (Nat.le_refl _)
      have o4 := OwnRow.below o3 b4 (Nat.le_refl _)
      have s4 := OwnRow.below s3 b4 (Nat.le_refl _)
      have q4 := q3.belowG b4 hgX
      have a4 := a3.next b4
      have hg4 := q4.lt
      have hs4 := a4.size
      have h9 : es.length + 1 ≤ 1099511627776 := by omega
      clear zb o3 s3 q3 a3 R3 C3 b4 hgX hsX
      obtain ⟨c0, c1, c2, c3, c4, c5, _, _, _, _, _, _⟩ := zb4.cells
      cases hch : isChart ls
      case false =>
        go_wp2_with (at_builtin; refine wp_app_rec edtRec _ rfl _ _ 24 _ _ Try.underlying24 info_edt rfl (by omega) (by rfl) w.heap.size _ es (by rfl) o4 ⟨x0, x1, x2, x3, x4, x5⟩ _ rfl _ _ rfl (by rfl) (by rfl) h9 hs4 ?_; intro v19 w19 ho19 hg19)
        go_roundg (gk - 1)
        case measure => omega
        case rel => exact ⟨es ++ [⟨x0, x1, x2, x3, x4, x5⟩], ls, j - 1, k2, by omega, by congr 1; omega, by omega, by simp; omega, hls, by omega, by omega, ho19, hap.keepR s4 hg19, hap.grew s4 hg19, q4.belowG hg19.below hg, a4.trans2 hg19.below (Nat.le_refl _)⟩
      case true =>
        have C4 := Lib.hid (edGood_any ⟨x0, x1, x2, x3, x4, x5⟩ X4)
        go_wp2_with fail
        refine C4.out.mono ?_; rintro e X5 ⟨rfl, b5⟩
        have zb5 := zb4.keep b5 (Nat.le_refl _)
        have o5 := OwnRow.below o4 b5 (Nat.le_refl _)
        have s5 := OwnRow.below s4 b5 (Nat.le_refl _)
        have q5 := q4.belowG b5 hg4
        have a5 := a4.next b5
        have hg5 := q5.lt
        have hs5 := a5.size
        clear zb4 o4 s4 q4 a4 C4 b5 hg4 hs4 c0 c1 c2 c3 c4 c5
        obtain ⟨c0, c1, c2, c3, c4, c5, _, _, _, _, _, _⟩ := zb5.cells
        cases hed : isEdt ⟨x0, x1, x2, x3, x4, x5⟩
        case false =>
          go_wp2_with (at_builtin; refine wp_app_rec edtRec _ rfl _ _ 24 _ _ Try.underlying24 info_edt rfl (by omega) (by rfl) w.heap.size _ es (by rfl) o5 ⟨x0, x1, x2, x3, x4, x5⟩ _ rfl _ _ rfl (by rfl) (by rfl) h9 hs5 ?_; intro v19 w19 ho19 hg19)
          go_roundg (gk - 1)
          case measure => omega
          case rel => exact ⟨es ++ [⟨x0, x1, x2, x3, x4, x5⟩], ls, j - 1, k2, by omega, by congr 1; omega, by omega, by simp; omega, hls, by omega, by omega, ho19, hap.keepR s5 hg19, hap.grew s5 hg19, q5.belowG hg19.below hg, a5.trans2 hg19.below (Nat.le_refl _)⟩
        case true =>
          obtain ⟨p, hp, hp11⟩ := edt_pn hed
          simp only at hp
          subst hp
          have R5 := s5.reads
          have C6 := Lib.hid (edApply_any (.slice A ls.length c) ls x0 p x2 x3 x4 x5 X5 R5 (by omega) (by omega))
          have hmv := Lib.hid (move_len ls p ⟨x2, x3⟩ ⟨x4, x5⟩)
          obtain ⟨r, hr⟩ : ∃ r, r = rMove ls p ⟨x2, x3⟩ ⟨x4, x5⟩ := ⟨_, rfl⟩
          rw [← hr] at C6 hmv
          clear hr R5
          obtain ⟨r1, r2⟩ := r
          go_wp2_with fail
          refine C6.out.mono ?_; rintro e X6 ⟨u6, rfl, ou6, b6⟩
          have zb6 := zb5.keep b6 (Nat.le_refl _)
          have o6 := OwnRow.below o5 b6 (Nat.le_refl _)
          have s6 := OwnRow.below s5 b6 (Nat.le_refl _)
          have q6 := q5.belowG b6 hg5
          have a6 := a5.next b6
          have hg6 := q6.lt
          have hs6 := a6.size
          have apu : Apt (.slice D es.length d) u6 := Apt.fresh o5 (own_base ou6)
          clear C6 b6 o5 s5 q5 a5 zb5 c0 c1 c2 c3 c4 c5
          obtain ⟨c0, c1, c2, c3, c4, c5, _, _, _, _, _, _⟩ := zb6.cells
          cases r2
          case true =>
            have hlr : r1.length ≤ 13 := by have h8 : r1.length = ls.length := hmv.out rfl; omega
            have ou := OwnRow.lo ou6 (by omega : g + 1 ≤ X5.heap.size)
            clear s6 hmv ou6 hg5 hs5
            go_wp2_with (at_builtin; refine wp_app_rec edtRec _ rfl _ _ 24 _ _ Try.underlying24 info_edt rfl (by omega) (by rfl) w.heap.size _ es (by rfl) o6 ⟨x0, (p : Int), x2, x3, x4, x5⟩ _ rfl _ _ rfl (by rfl) (by rfl) h9 hs6 ?_; intro v19 w19 ho19 hg19)
            go_roundg (gk - 1)
            case measure => omega
            case rel => exact ⟨es ++ [⟨x0, (p : Int), x2, x3, x4, x5⟩], r1, j - 1, k2, by omega, by congr 1; omega, by omega, by simp; omega, hlr, by omega, by omega, ho19, apu.keepR ou hg19, apu.grew ou hg19, q6.belowG hg19.below hg, a6.trans2 hg19.below (Nat.le_refl _)⟩
          case false =>
            have C7 := Lib.hid (one_ex g v code 4 k2 X6 (by omega) q6)
            clear hmv ou6 hg5 hs5 apu
            go_wp2_with fail
            refine C7.out.mono ?_; rintro e X7 ⟨b7, k7, rfl, hk7, hj7, q7, d7⟩
            have o7 := o6.aptS d7 (by omega)
            have s7 := s6.aptS d7 (Nat.le_refl _)
            have a7 := a6.trans d7
            have zb7 := zb6.apt d7 hgB
            have hs7 := a7.size
            have hg7 := q7.lt
            clear C7 o6 s6 a6 q6 zb6 hs6 hg6 c0 c1 c2 c3 c4 c5 d7
            obtain ⟨c0, c1, c2, c3, c4, c5, _, _, _, _, _, _⟩ := zb7.cells
            cases b7
            case false =>
              go_wp2_with fail
              go_roundg (gk - 1)
              case measure => omega
              case rel => exact ⟨es, ls, j - 1, k7, by omega, by congr 1; omega, by omega, by omega, hls, by omega, by omega, o7, s7, hap, q7, a7⟩
            case true =>
              go_wp2_with (at_builtin; refine wp_app_rec edtRec _ rfl _ _ 24 _ _ Try.underlying24 info_edt rfl (by omega) (by rfl) w.heap.size _ es (by rfl) o7 ⟨x0, (p : Int), x2, x3, x4, x5⟩ _ rfl _ _ rfl (by rfl) (by rfl) h9 hs7 ?_; intro v19 w19 ho19 hg19)
              go_roundg (gk - 1)
              case measure => omega
              case rel => exact ⟨es ++ [⟨x0, (p : Int), x2, x3, x4, x5⟩], ls, j - 1, k7, by omega, by congr 1; omega, by omega, by simp; omega, hls, by omega, by omega, ho19, hap.keepR s7 hg19, hap.grew s7 hg19, q7.belowG hg19.below hg, a7.trans2 hg19.below (Nat.le_refl _)⟩
    · have C8 := Lib.hid (one_ex g v code 24 k wr (by omega) qr)
      have hj0i : ¬ ((0 : Int) < (j : Int)) := by omega
      have hj0f : decide ((0 : Int) < (j : Int)) = false := decide_eq_false hj0i
      go_wp2_with fail
      refine C8.out.mono ?_; rintro e w2 ⟨b2, k2, rfl, hk3, hj3, q2, d2⟩
      have o2 := ho.aptS d2 (by omega)
      have a2 := ar.trans d2
      clear hs hap C8 ho qr ar d2 hsr hgr
      have hs2 := a2.size
      cases b2
      case false =>
        go_wp2_with fail
        go_ret
        exact ⟨_, es, k2, rfl, o2, q2, a2, by omega, by omega, by omega⟩
      case true =>
        have C9 := Lib.hid (pick_ex g v code 2 k2 w2 (by omega) (by omega) q2)
        go_wp2_with fail
        refine C9.out.mono ?_; rintro e w3 ⟨i3, k3, rfl, hi3, hk4, hj4, q3, d3⟩
        have o3 := o2.aptS d3 (by omega)
        have a3 := a2.trans d3
        clear C9 o2 q2 a2 d3 hs2
        go_wp2_with fail
        go_loopg [5] 31 (fun gk t wr => ∃ es9 : List Edt, es9.length ≤ 31 ∧ 31 ≤ es9.length + gk ∧ OwnRow edtRec wr w.heap.size t es9 ∧ CurAt wr g v code k3 ∧ Apg g w wr)
        case atStart => exact ⟨es, by omega, by omega, o3, q3, a3⟩
        case round =>
          obtain ⟨es9, hl9, hg9, ho, qr, ar⟩ := hrel
          clear o3 q3 a3
          obtain ⟨A9, c9, rfl, hn9, hc9⟩ := ho.reads.shape
          have hsr := ar.size
          by_cases hlt : (es9.length : Int) < 30 + i3
          · have h9 : es9.length + 1 ≤ 1099511627776 := by omega
            go_wp2_with (at_builtin; refine wp_app_rec edtRec _ rfl _ _ 24 _ _ Try.underlying24 info_edt rfl (by omega) (by rfl) w.heap.size _ es9 (by rfl) ho ⟨9, 11, 0, 0, 1 + (es9.length : Int), 0⟩ _ rfl _ _ rfl (by rfl) (by rfl) h9 hsr ?_; intro v19 w19 ho19 hg19)
            go_roundg (gk - 1)
            case measure => omega
            case rel => exact ⟨es9 ++ [⟨9, 11, 0, 0, 1 + (es9.length : Int), 0⟩], by simp; omega, by simp; omega, ho19, qr.belowG hg19.below hg, ar.trans2 hg19.below (Nat.le_refl _)⟩
          · go_wp2_with fail
            go_ret
            exact ⟨_, es9, k3, rfl, ho, qr, ar, by omega, by omega, by omega⟩
end Go.Proofs.Ytnkbopnmfoplfaa
