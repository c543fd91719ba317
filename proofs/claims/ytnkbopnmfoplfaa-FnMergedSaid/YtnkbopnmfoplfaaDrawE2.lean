/- The draws of edits: editorsTwo. -/
import Derived.Test.YtnkbopnmfoplfaaDrawEs
import Derived.Test.YtnkbopnmfoplfaaEditFitS
import Derived.Test.YtnkbopnmfoplfaaEditRebase
import Derived.Deep.DeepCutAuto
set_option linter.unusedSimpArgs false
set_option linter.unusedVariables false
namespace Go.Proofs.Ytnkbopnmfoplfaa
open Go.RowKit Go.Sort
/-- A slice as a record of one cell. -/
abbrev Slc := Option Addr × Nat × Nat
def Slc.v (p : Slc) : Value := .slice p.1 p.2.1 p.2.2
def slcRec : Rec Slc := ⟨1, 24, fun a => [.slice a.1 a.2.1 a.2.2], fun _ => rfl, by omega, fun _ u hu => by simp at hu; subst hu; rfl, (none, 0, 0)⟩
theorem info_slE : (Try.prog.info? 24).map (fun i => (i.zero, i.size, i.bytes)) = some (some (.slice none 0 0), 1, 24) := by kernel_rfl
/-- Rows of edits. -/
def ESl (w : World) (lo : Nat) (p : Slc) : Prop := ∃ es : List Edt, es.length ≤ 31 ∧ es.length = p.2.1 ∧ OwnRow edtRec w lo p.v es
structure SvOk (w : World) (lo : Nat) (t : Value) (sv : List Slc) : Prop where
  row : OwnRow slcRec w lo t sv
  each : ∀ p ∈ sv, ESl w lo p ∧ Apt t p.v
theorem ESl.apt {w w' : World} {lo g : Nat} {p : Slc} (h : ESl w lo p) (ha : Apg g w w') (hl : g + 1 ≤ lo) : ESl w' lo p := by
  obtain ⟨es, h1, h2, h3⟩ := h
  exact ⟨es, h1, h2, h3.aptS ha hl⟩
theorem ESl.below {w w' : World} {lo B : Nat} {p : Slc} (h : ESl w lo p) (hb : Below B w w') (hB : w.heap.size ≤ B) : ESl w' lo p := by
  obtain ⟨es, h1, h2, h3⟩ := h
  exact ⟨es, h1, h2, OwnRow.below h3 hb hB⟩
theorem SvOk.apt {w w' : World} {lo g : Nat} {t : Value} {sv : List Slc} (h : SvOk w lo t sv) (ha : Apg g w w') (hl : g + 1 ≤ lo) : SvOk w' lo t sv :=
  ⟨h.row.aptS ha hl, fun p hp => ⟨(h.each p hp).1.apt ha hl, (h.each p hp).2⟩⟩
theorem SvOk.below {w w' : World} {lo B : Nat} {t : Value} {sv : List Slc} (h : SvOk w lo t sv) (hb : Below B w w') (hB : w.heap.size ≤ B) : SvOk w' lo t sv :=
  ⟨OwnRow.below h.row hb hB, fun p hp => ⟨(h.each p hp).1.below hb hB, (h.each p hp).2⟩⟩
theorem SvOk.push {w w' : World} {lo : Nat} {t t' : Value} {sv : List Slc} {p : Slc} (h : SvOk w lo t sv) (hp : ESl w lo p) (ha : Apt t p.v) (hr : OwnRow slcRec w' lo t' (sv ++ [p])) (hg : Grew w w' lo t t') : SvOk w' lo t' (sv ++ [p]) := by
  refine ⟨hr, fun q hq => ?_⟩
  have key : ESl w lo q ∧ Apt t q.v := by
    rcases List.mem_append.1 hq with h1 | h1
    · exact h.each q h1
    · simp only [List.mem_singleton] at h1; subst h1; exact ⟨hp, ha⟩
  obtain ⟨⟨es, h1, h2, h3⟩, h4⟩ := key
  exact ⟨⟨es, h1, h2, h4.keepR h3 hg⟩, h4.grew h3 hg⟩
theorem two_of {sv : List Slc} (h : sv.length = 2) : ∃ p q, sv = [p, q] := by
  match sv, h with
  | [p, q], _ => exact ⟨p, q, rfl⟩
/-- What a draw of a chart and two editors' edits leaves. -/
def Drawn2 (w : World) (g : Nat) (v : Value) (code : List Nat) (Q : Nat → Prop) (e : Ending) (w' : World) : Prop :=
  ∃ (u a b : Value) (l : List Spt) (x y : List Edt) (n : Nat), e = .returned (.tuple #[u, a, b]) ∧ l.length ≤ 13 ∧ x.length ≤ 31 ∧ y.length ≤ 31 ∧ OwnRow sptRec w' w.heap.size u l ∧ OwnRow edtRec w' w.heap.size a x ∧ OwnRow edtRec w' w.heap.size b y ∧ CurAt w' g v code n ∧ Apg g w w' ∧ Q n
set_option maxRecDepth 100000 in
set_option maxHeartbeats 6400000 in
theorem editorsTwo_any (g n : Nat) (v : Value) (code : List Nat) (w : World) (h : CurAt w g v code n) (hn : n ≤ 4611686018380000000) :
    Calls Try.prog 42 #[.pointer (some ⟨g, 0, none⟩)] w (Drawn2 w g v code fun n' => n ≤ n' ∧ n' ≤ n + 200000) := by
  have hg := h.lt
  have C1 := Lib.hid (anyChart_any g n v code w h (by omega))
  go_enter Try.func42, Try.ntmps42
  go_wp2_with fail
  refine C1.out.mono ?_; rintro e w1 ⟨ul, l, k1, rfl, o1, q1, a1, hl13, hk1, hj1⟩
  obtain ⟨A, c, rfl, hnc, hc63⟩ := o1.reads.shape
  clear C1 h
  go_wp2_with fail
  go_loopg [6] 2 (fun gk t wr => ∃ (sv : List Slc) (k : Nat), sv.length ≤ 2 ∧ 2 ≤ sv.length + gk ∧ n ≤ k ∧ k ≤ n + 90000 + 20000 * sv.length ∧ SvOk wr w.heap.size t sv ∧ OwnRow sptRec wr w.heap.size (.slice A l.length c) l ∧ Apt t (.slice A l.length c) ∧ CurAt wr g v code k ∧ Apg g w wr)
  case atStart => exact ⟨[], k1, by simp, by simp, hk1, by simp; omega, ⟨OwnRow.nil_ slcRec _ _, fun p hp => by cases hp⟩, o1, (fun gb h9 => by cases h9), q1, a1⟩
  case round =>
    obtain ⟨sv, k, hsv, hgk, hk2, hj2, ho, hl, hap, qr, ar⟩ := hrel
    clear o1 q1 a1
    have hsr := ar.size
    have hgr := qr.lt
    by_cases hlt : sv.length < 2
    · obtain ⟨D, d, rfl, hnd, hd63⟩ := ho.row.reads.shape
      have hlti : (sv.length : Int) < 2 := by omega
      have C2 := Lib.hid (edits_any g k v code (.slice A l.length c) l wr qr (OwnRow.lo hl (by omega)) hl13 (by omega))
      go_wp2_with fail
      refine C2.out.mono ?_; rintro e w2 ⟨ue, es, k2, rfl, oe, q2, a2, he31, hk3, hj3⟩
      obtain ⟨E, ce, rfl, hne, he63⟩ := oe.reads.shape
      have o2 := ho.apt a2 (by omega)
      have l2 := hl.aptS a2 (by omega)
      have ar2 := ar.trans a2
      have hg2 := q2.lt
      have hs2 := ar2.size
      have apE : Apt (.slice D sv.length d) (.slice E es.length ce) := Apt.fresh ho.row (own_base oe)
      have oe2 := OwnRow.lo oe hsr
      clear C2 ho hl qr ar oe hgr a2
      go_upto_region 5 with fail
      go_cut [32] (fun s wx => ∃ (bq : Bool) (k' : Nat), s = .bool bq ∧ Hid (bq = true → isChart l = true ∧ areEdts es = true) ∧ k2 ≤ k' ∧ k' ≤ k2 + 2 ∧ OwnRow edtRec wx w.heap.size (.slice E es.length ce) es ∧ SvOk wx w.heap.size (.slice D sv.length d) sv ∧ OwnRow sptRec wx w.heap.size (.slice A l.length c) l ∧ CurAt wx g v code k' ∧ Apg g w wx)
      case first =>
        have C3 := Lib.hid (chGood_any (.slice A l.length c) l w2 l2.reads)
        go_wp2_with fail
        refine C3.out.mono ?_; rintro e w3 ⟨rfl, b3⟩
        have o3 := o2.below b3 (Nat.le_refl _)
        have l3 := OwnRow.below l2 b3 (Nat.le_refl _)
        have e3 := OwnRow.below oe2 b3 (Nat.le_refl _)
        have q3 := q2.belowG b3 hg2
        have a3 := ar2.next b3
        clear C3 o2 l2 oe2 q2 ar2 b3
        cases hch : isChart l
        case false =>
          go_wp2_with fail
          go_meet
          exact ⟨false, k2, rfl, (fun h9 => by cases h9), by omega, by omega, e3, o3, l3, q3, a3⟩
        case true =>
          have hg3 := q3.lt
          have C4 := Lib.hid (edAll_any (.slice E es.length ce) es w3 e3.reads)
          go_wp2_with fail
          refine C4.out.mono ?_; rintro e w4 ⟨rfl, b4⟩
          have o4 := o3.below b4 (Nat.le_refl _)
          have l4 := OwnRow.below l3 b4 (Nat.le_refl _)
          have e4 := OwnRow.below e3 b4 (Nat.le_refl _)
          have q4 := q3.belowG b4 hg3
          have a4 := a3.next b4
          clear C4 o3 l3 e3 q3 a3 b4
          cases hed : areEdts es
          case false =>
            go_wp2_with fail
            go_meet
            exact ⟨false, k2, rfl, (fun h9 => by cases h9), by omega, by omega, e4, o4, l4, q4, a4⟩
          case true =>
            have C5 := Lib.hid (one_ex g v code 8 k2 w4 (by omega) q4)
            go_wp2_with fail
            refine C5.out.mono ?_; rintro e w5 ⟨b5, k5, rfl, hk5, hj5, q5, d5⟩
            have o5 := o4.apt d5 (by omega)
            have l5 := l4.aptS d5 (by omega)
            have e5 := e4.aptS d5 (by omega)
            have a5 := a4.trans d5
            go_wp2_with fail
            go_meet
            exact ⟨!b5, k5, rfl, (fun _ => ⟨by first | rfl | exact hch, by first | rfl | exact hed⟩), by omega, by omega, e5, o5, l5, q5, a5⟩
      case rest =>
        obtain ⟨bq, k3, rfl, hbq, hk4, hj4, e3, o3, l3, q3, a3⟩ := hcut
        clear oe2 o2 l2 q2 ar2 hg2 hs2
        obtain ⟨w3, hw3⟩ : ∃ w9 : World, w9 = wc := ⟨_, rfl⟩
        subst hw3
        go_upto_if 32 with fail
        go_cut [7] (fun s wx => ∃ (E' : Option Addr) (c' : Nat) (es' : List Edt), s = .slice E' es'.length c' ∧ es'.length ≤ 31 ∧ OwnRow edtRec wx w.heap.size (.slice E' es'.length c') es' ∧ Apt (.slice D sv.length d) (.slice E' es'.length c') ∧ SvOk wx w.heap.size (.slice D sv.length d) sv ∧ OwnRow sptRec wx w.heap.size (.slice A l.length c) l ∧ CurAt wx g v code k3 ∧ Apg g w wx)
        case first =>
          cases bq
          case false =>
            go_wp2_with fail
            go_meet
            exact ⟨E, ce, es, rfl, he31, e3, apE, o3, l3, q3, a3⟩
          case true =>
            obtain ⟨hch, hed⟩ := hbq.out rfl
            obtain ⟨hl0, hl12⟩ := chart_pos hch
            obtain ⟨he30, het⟩ := areEdts_t hed
            have HET := Lib.hid het
            have hg3 := q3.lt
            have C4 := Lib.hid (mgFit_any (.slice A l.length c) (.slice E es.length ce) l es w3 l3.reads e3.reads hl12 hl0 (by omega) HET)
            have hfl := (fitSt_len l es es.length).2
            have hfi := Lib.hid (fitSt_in l es es.length)
            obtain ⟨ft, hft⟩ : ∃ f, f = fitSt l es es.length := ⟨_, rfl⟩
            rw [← hft] at C4 hfl hfi
            clear hft het hch hed
            obtain ⟨ft1, I, O⟩ := ft
            simp only at hfl hfi
            go_wp2_with fail
            refine C4.out.mono ?_; rintro e w4 ⟨t4, y4, z4, rfl, _, oy, _, _, _, _, b4⟩
            simp only at oy
            obtain ⟨Y, cy, rfl, hny, hcy⟩ := oy.reads.shape
            have o4 := o3.below b4 (Nat.le_refl _)
            have l4 := OwnRow.below l3 b4 (Nat.le_refl _)
            have e4 := OwnRow.below e3 b4 (Nat.le_refl _)
            have q4 := q3.belowG b4 hg3
            have a4 := a3.next b4
            have hs4 := a4.size
            have hg4 := q4.lt
            have R4 := e4.reads
            have Y4 := oy.reads
            clear C4 o3 l3 e3 q3 a3 b4 hg3 oy
            go_wp2_with fail
            go_loopw [11, 42] (fun t s wr => ∃ (j : Nat) (os : List Edt), j ≤ I.length ∧ s = .int .i64 j ∧ os.length = j ∧ OwnRow edtRec wr w4.heap.size t os ∧ Below w4.heap.size w4 wr) (fun _ s _ => I.length - (intOf s).toNat)
            case atStart => exact ⟨0, [], Nat.zero_le _, rfl, rfl, OwnRow.nil_ edtRec _ _, Below.refl _ _⟩
            case round =>
              obtain ⟨j, os, hj, rfl, hos, ho, hb⟩ := hrel
              have hsz := hb.size
              by_cases hlt : j < I.length
              · have hin := hfi.out (gi I j) (gi_mem hlt)
                obtain ⟨b', o', rfl, hcy0⟩ := IntsAt.at_ (Y4.below hb (Nat.le_refl _)) j hlt
                obtain ⟨m, hm⟩ := Int.eq_ofNat_of_zero_le hin.1
                rw [hm] at hcy0 hin
                have hnl : m < es.length := by omega
                have hn0 : (0 : Int) ≤ (m : Int) := by omega
                have hn1 : (m : Int) < (es.length : Int) := by omega
                have h9 : os.length + 1 ≤ 1099511627776 := by omega
                clear hm hin
                obtain ⟨b'', o'', rfl, hc0, hc1, hc2, hc3, hc4, hc5⟩ := edt_at (R4.below hb (Nat.le_refl _)) m hnl
                go_wp2_with (at_builtin; refine wp_app_edt _ rfl _ _ rfl w4.heap.size _ os rfl ho (gx edtRec es m) _ rfl rfl h9 hsz ?_; intro v5 w5 ho5 hg5)
                go_roundw
                case rel => exact ⟨j + 1, os ++ [gx edtRec es m], by omega, by go_num, by simp; omega, ho5, hb.trans hg5.below⟩
                case measure => simp [intOf]; omega
              · have apO : ∀ x, Apt (.slice D sv.length d) x → Apt (.slice D sv.length d) x := fun _ h => h
                obtain ⟨F, cf, rfl, hnf, hcf⟩ := ho.reads.shape
                have ap4 : Apt (.slice D sv.length d) (.slice F os.length cf) := Apt.fresh o4.row (own_base ho)
                have o5 := o4.below hb (Nat.le_refl _)
                have l5 := OwnRow.below l4 hb (Nat.le_refl _)
                have q5 := q4.belowG hb hg4
                have a5 := a4.next hb
                have ho5 := OwnRow.lo ho hs4
                clear ho o4 l4 q4 a4 e4 R4 Y4 hb
                go_wp2_with fail
                go_meet
                exact ⟨F, cf, os, rfl, by omega, ho5, ap4, o5, l5, q5, a5⟩
        case rest =>
          obtain ⟨E', c', es', rfl, he31', e4, apE', o4, l4, q4, a4⟩ := hcut
          clear e3 o3 l3 q3 a3 apE
          have hs4 := a4.size
          have h9 : sv.length + 1 ≤ 1099511627776 := by omega
          have row4 := o4.row
          go_wp2_with (at_builtin; refine wp_app_rec slcRec _ rfl _ _ 78 _ _ Try.underlying78 info_slE rfl (by omega) (by rfl) w.heap.size _ sv (by rfl) row4 (E', es'.length, c') _ rfl _ _ rfl (by rfl) (by rfl) h9 hs4 ?_; intro v19 w19 ho19 hg19)
          go_roundg (gk - 1)
          case measure => omega
          case rel => exact ⟨sv ++ [(E', es'.length, c')], k3, by simp; omega, by simp; omega, by omega, by simp; omega, o4.push ⟨es', he31', rfl, e4⟩ apE' ho19 hg19, hap.keepR l4 hg19, hap.grew l4 hg19, q4.belowG hg19.below hg, a4.trans2 hg19.below (Nat.le_refl _)⟩
    · have hlf : ¬ ((sv.length : Int) < 2) := by omega
      obtain ⟨p0, p1, rfl⟩ := two_of (by omega : sv.length = 2)
      obtain ⟨b, cb, hT, hbg⟩ := ho.row.at_ownR (by simp)
      subst hT
      have C9 := Lib.hid (one_ex g v code 6 k wr (by omega) qr)
      go_wp2_with fail
      refine C9.out.mono ?_; rintro e w9 ⟨b9, k9, rfl, hk9, hj9, q9, d9⟩
      have o9 := ho.apt d9 (by omega)
      have l9 := hl.aptS d9 (by omega)
      have a9 := ar.trans d9
      have hj9' : k9 ≤ n + 200000 := by simp at hj2; omega
      clear C9 ho hl qr ar d9
      have c0 : w9.cell? ⟨b, 0, none⟩ = some (.slice p0.1 p0.2.1 p0.2.2) := OwnRow.cell o9.row 0 (by simp) 0 (by decide)
      have c1 : w9.cell? ⟨b, 1, none⟩ = some (.slice p1.1 p1.2.1 p1.2.2) := OwnRow.cell o9.row 1 (by simp) 0 (by decide)
      obtain ⟨⟨x, hx31, hx, ox⟩, _⟩ := o9.each p0 (by simp)
      obtain ⟨⟨y, hy31, hy, oy⟩, _⟩ := o9.each p1 (by simp)
      clear o9
      cases b9
      case true =>
        go_upto_region 16 with fail
        (first | (go_region_held3 (fun w' => w'.cell? ⟨b, 0, none⟩ = some (.slice p0.1 p0.2.1 p0.2.2) ∧ w'.cell? ⟨b, 1, none⟩ = some (.slice p1.1 p1.2.1 p1.2.2))
          (first | go_keep | exact ⟨c0, c1⟩)
          (fail)) | fail)
        have bD : Below w9.heap.size w9 w9.drew := (Below.refl _ _).drew
        have lD := OwnRow.below l9 bD (Nat.le_refl _)
        have oxD := OwnRow.below ox bD (Nat.le_refl _)
        have oyD := OwnRow.below oy bD (Nat.le_refl _)
        have qD := q9.belowG bD q9.lt
        have aD := a9.next bD
        go_wp2_with fail
        go_ret3
        exact ⟨_, _, _, l, x, x, k9, rfl, hl13, hx31, hx31, lD, oxD, oxD, qD, aD, by omega, hj9'⟩
      case false =>
        go_upto_region 17 with fail
        (first | (go_region_held3 (fun w' => w'.cell? ⟨b, 0, none⟩ = some (.slice p0.1 p0.2.1 p0.2.2) ∧ w'.cell? ⟨b, 1, none⟩ = some (.slice p1.1 p1.2.1 p1.2.2))
          (first | go_keep | exact ⟨c0, c1⟩)
          (fail)) | fail)
        have bD : Below w9.heap.size w9 w9.drew := (Below.refl _ _).drew
        have lD := OwnRow.below l9 bD (Nat.le_refl _)
        have oxD := OwnRow.below ox bD (Nat.le_refl _)
        have oyD := OwnRow.below oy bD (Nat.le_refl _)
        have qD := q9.belowG bD q9.lt
        have aD := a9.next bD
        go_wp2_with fail
        go_ret3
        exact ⟨_, _, _, l, x, y, k9, rfl, hl13, hx31, hy31, lD, oxD, oyD, qD, aD, by omega, hj9'⟩
end Go.Proofs.Ytnkbopnmfoplfaa
