/- Contracts of MirrorView, in the program and in the reference. -/
import Derived.Test.YtjbffahnbkpcnaaView
import Derived.Test.YtjbffahnbkpcnaaRev
import Derived.RegionTactic
set_option linter.unusedSimpArgs false
set_option linter.unusedVariables false
namespace Go.Proofs.Ytjbffahnbkpcnaa
open Go.RowKit

/-- The bytes of a string. -/
def byts (s : ByteArray) : List Int := s.data.toList.map fun b => (b.toNat : Int)
theorem byts_len (s : ByteArray) : (byts s).length = s.size := by simp [byts]
theorem gi_byts {s : ByteArray} {i : Nat} (h : i < s.size) : gi (byts s) i = (bt s i : Int) := by
  unfold gi byts bt
  rw [List.getD_eq_getElem?_getD, List.getElem?_map, List.getD_eq_getElem?_getD, List.getElem?_eq_getElem (by simpa using h)]
  rfl
theorem strOfNums_append (a b : List Int) : strOfNums a ++ strOfNums b = strOfNums (a ++ b) := by
  unfold strOfNums
  rw [ByteArray.mk_append_mk, List.map_append]
theorem strOfNums_byts (s : ByteArray) : strOfNums (byts s) = s := by
  unfold strOfNums byts
  rw [List.map_map]
  have : (s.data.toList.map ((fun n : Int => UInt8.ofNat n.toNat) ∘ fun b : UInt8 => (b.toNat : Int))) = s.data.toList := by
    conv => rhs; rw [← List.map_id s.data.toList]
    apply List.map_congr_left
    intro b _
    simp
  rw [this]
theorem extract_one {s : ByteArray} {i : Nat} (h : i < s.size) : s.extract i (i + 1) = strOfNums [gi (byts s) i] := by
  obtain ⟨⟨l⟩⟩ := s
  have hl : i < l.length := h
  rw [ByteArray.extract_mk]
  have e : gi (byts ⟨⟨l⟩⟩) i = (l[i].toNat : Int) := by
    rw [gi_byts h]; unfold bt; simp [List.getD, hl]
  have e3 : (l.drop i).take 1 = [l[i]] := by rw [List.drop_eq_getElem_cons hl]; rfl
  have e2 : i + 1 - i = 1 := by omega
  rw [e, e2, e3]
  unfold strOfNums
  simp
/-- Bytes in a block, not frozen. -/
def BytesIn (w : World) (g : Nat) (l : List Int) : Prop := ∀ j, j < l.length → w.cell? ⟨g, j, none⟩ = some (.int .u8 (gi l j)) ∧ w.frozen? ⟨g, j, none⟩ = false
theorem BytesIn.drew {w : World} {g : Nat} {l : List Int} (h : BytesIn w g l) : BytesIn w.drew g l := h
theorem BytesIn.set {w : World} {g : Nat} {l : List Int} (h : BytesIn w g l) (i : Nat) (x : Int) (hi : i < l.length) : BytesIn (w.setCell ⟨g, i, none⟩ (.int .u8 x)) g (l.set i x) := by
  intro j hj
  rw [List.length_set] at hj
  have h1 := h j hj
  have h2 := h i hi
  rw [gi_set x hj]
  by_cases e : i = j
  · subst e
    obtain ⟨a1, a2⟩ := h1
    rw [if_pos rfl]
    exact ⟨by go_simp, by go_simp⟩
  · obtain ⟨a1, a2⟩ := h1
    obtain ⟨b1, b2⟩ := h2
    have e2 : ¬ j = i := fun h9 => e h9.symm
    rw [if_neg e]
    exact ⟨by go_simp, by go_simp⟩
theorem bytesIn_new (w : World) (s : ByteArray) (cap : Nat) (t : TypeId) :
    BytesIn (w.alloc (.cells (bytesRow s cap) t ((bytesRow s cap).size, (bytesRow s cap).size + 1))) w.heap.size (byts s) := by
  intro j hj
  rw [byts_len] at hj
  refine ⟨?_, ?_⟩
  · rw [World.cell?_alloc_mark, bytesRow_at s cap j hj, gi_byts hj]
    unfold bt
    rw [List.getD_eq_getElem?_getD, List.getElem?_eq_getElem (by simpa using hj)]
    rfl
  · rw [World.frozen?_alloc_mark]
    have : s.size ≤ (bytesRow s cap).size := by unfold bytesRow; simp
    rw [decide_eq_false (by omega)]; rfl
set_option maxHeartbeats 1600000 in
theorem reverseB_any (g n c : Nat) (l : List Int) (w : World) (h : BytesIn w g l) (hn : l.length = n) (h0 : 0 < n) (hl : n ≤ 1000000) :
    Calls Try.prog 53 #[.slice (some ⟨g, 0, none⟩) n c] w fun e w' => e = .returned (.tuple #[]) ∧ BytesIn w' g l.reverse ∧ Below g w w' := by
  have Hn := Lib.hid hn
  clear hn
  go_enter Try.func53, Try.ntmps53
  go_wp2_with fail
  go_loopw [2, 3] (fun s t wr => ∃ i j : Nat, i + j + 1 = n ∧ s = .int .i64 i ∧ t = .int .i64 j ∧ BytesIn wr g (revd l i) ∧ Below g w wr) (fun s t _ => (intOf t).toNat)
  case atStart => exact ⟨0, n - 1, by omega, rfl, by go_num, by rw [revd_zero]; exact h, Below.refl _ _⟩
  case round =>
    obtain ⟨i, j, hij, rfl, rfl, ho, hg⟩ := hrel
    by_cases hlt : i < j
    · obtain ⟨j, rfl⟩ : ∃ k, j = k + 1 := ⟨j - 1, by omega⟩
      have hij2 : i + (j + 1) + 1 = l.length := by rw [Hn.out]; exact hij
      have k1 := ho i (by rw [revd_len, Hn.out]; omega)
      have k2 := ho (j + 1) (by rw [revd_len, Hn.out]; omega)
      obtain ⟨hci, hfi⟩ := k1
      obtain ⟨hcj, hfj⟩ := k2
      rw [gi_revd_lo hij2 hlt] at hci
      rw [gi_revd_hi hij2 hlt] at hcj
      have h1 := ho.set i (gi l (j + 1)) (by rw [revd_len, Hn.out]; omega)
      have h2 := h1.set (j + 1) (gi l i) (by rw [List.length_set, revd_len, Hn.out]; omega)
      rw [revd_step l i (j + 1) hij2 hlt] at h2
      have H := Lib.hid h2
      have Hb := Lib.hid ((hg.setCell (p := ⟨g, i, none⟩) (Nat.le_refl _) (.int .u8 (gi l (j + 1)))).setCell (p := ⟨g, j + 1, none⟩) (Nat.le_refl _) (.int .u8 (gi l i)))
      clear h1 h2 hij2
      have hlen : i + 1 < n := by omega
      have hlen2 : j + 1 < n := by omega
      go_wp2_with fail
      go_region
      go_wp2_with fail
      go_roundw
      case rel => exact ⟨i + 1, j, by omega, by go_num, rfl, H.out.drew, Hb.out.drew⟩
      case measure => simp [intOf]
    · have hx : Hid (revd l i = l.reverse) := revd_end l i (by rw [Hn.out]; omega)
      go_wp2_with fail
      go_end0
      exact ⟨rfl, hx.out ▸ ho, hg⟩
/-- A line mirrored. -/
def revS (s : ByteArray) : ByteArray := strOfNums (byts s).reverse
theorem revS_size (s : ByteArray) : (revS s).size = s.size := by unfold revS; rw [strOfNums_size, List.length_reverse, byts_len]
def mirL (l : List ByteArray) (k : Nat) : List ByteArray := (l.take k).map revS
theorem mirL_len {l : List ByteArray} {k : Nat} (h : k ≤ l.length) : (mirL l k).length = k := by simp [mirL]; omega
theorem mirL_succ {l : List ByteArray} {k : Nat} (h : k < l.length) : mirL l (k + 1) = mirL l k ++ [revS (gx strRec l k)] := by
  unfold mirL; rw [take_succ_gx strRec l k h, List.map_append]; rfl
/-- What MirrorView returns. -/
def rMirror (l : List ByteArray) : List ByteArray × Bool := if isVw l then (mirL l l.length, true) else ([], false)
theorem rMirror_no {l : List ByteArray} (h : isVw l = false) : rMirror l = ([], false) := by unfold rMirror; rw [h]; rfl
theorem rMirror_yes {l : List ByteArray} (h : isVw l = true) : rMirror l = (mirL l l.length, true) := by unfold rMirror; rw [h]; rfl
theorem rMirror_len (l : List ByteArray) : (rMirror l).1.length ≤ 30 := by
  cases h : isVw l
  · rw [rMirror_no h]; simp
  · rw [rMirror_yes h]
    have h1 := (isVw_t h).2.1
    show (mirL l l.length).length ≤ 30
    rw [mirL_len (Nat.le_refl _)]; exact h1
def FreshStrsB (w : World) (r : List ByteArray × Bool) (e : Ending) (w' : World) : Prop :=
  ∃ v, e = .returned (.tuple #[v, .bool r.2]) ∧ OwnRow strRec w' w.heap.size v r.1 ∧ Below w.heap.size w w'
theorem vw_size {l : List ByteArray} (h : isVw l = true) (k : Nat) (hk : k < l.length) : 1 ≤ (gx strRec l k).size ∧ (gx strRec l k).size ≤ 60 := by
  obtain ⟨_, _, h1, h2, h3⟩ := isVw_t h
  have := (lnOk_t (h3 k hk)).1
  omega
set_option maxHeartbeats 3200000 in
theorem implMirror (v : Value) (l : List ByteArray) (w : World) (h : RowAt strRec w v l) (hw : WfStrs l) :
    Calls Try.prog 22 #[v] w (FreshStrsB w (rMirror l)) := by
  obtain ⟨A, c, rfl, hnc, hc63⟩ := h.shape
  cases hv : isVw l
  · have hr := Lib.hid (rMirror_no hv)
    go_enter Try.func22, Try.ntmps22
    go_wp2_with fail
    refine (isView_any _ l _ h hw).mono ?_; rintro e _ ⟨rfl, rfl⟩
    go_wp2_with fail
    go_ret2
    exact ⟨_, by rw [hr.out]; rfl, by rw [hr.out]; exact OwnRow.nil_ strRec _ _, Below.refl _ _⟩
  · have hr := Lib.hid (rMirror_yes hv)
    have hvs := Lib.hid (vw_size hv)
    have h30 := (isVw_t hv).2.1
    go_enter Try.func22, Try.ntmps22
    go_wp2_with fail
    refine (isView_any _ l _ h hw).mono ?_; rintro e _ ⟨rfl, rfl⟩
    go_wp2_with fail
    clear hv hw
    go_loopw [4, 14] (fun t s wr => ∃ k : Nat, k ≤ l.length ∧ s = .int .i64 k ∧ OwnRow strRec wr w.heap.size t (mirL l k) ∧ Below w.heap.size w wr) (fun _ s _ => l.length - (intOf s).toNat)
    case atStart => exact ⟨0, Nat.zero_le _, rfl, OwnRow.empty strRec w _ (Nat.le_refl _), (Below.refl _ _).alloc (Nat.le_refl _) _⟩
    case round =>
      obtain ⟨k, hk, rfl, ho, hb⟩ := hrel
      by_cases hlt : k < l.length
      · obtain ⟨b, o, rfl, hc⟩ := str_at (h.below hb (Nat.le_refl _)) k hlt
        have hs := hvs.out k hlt
        have hst := Lib.hid (mirL_succ hlt)
        have hml := mirL_len (Nat.le_of_lt hlt)
        have h9 : (mirL l k).length + 1 ≤ 1099511627776 := by omega
        obtain ⟨s, hse⟩ : ∃ s, s = gx strRec l k := ⟨_, rfl⟩
        rw [← hse] at hc hs hst
        clear hse hml
        obtain ⟨s1, s2⟩ := hs
        have hcv := run_bytes_of_string (P := Try.prog) wr 9 22 5 s Try.underlying9 Try.underlying22 Try.underlying5
        obtain ⟨cap, hcap⟩ : ∃ cap, cap = grownCap wr s.size 0 5 := ⟨_, rfl⟩
        rw [← hcap] at hcv
        have hnew := Lib.hid (bytesIn_new wr s cap 5)
        clear hcap
        go_upto_region 7 with fail
        go_cut [7] (fun s7 wx => ∃ g c9 : Nat, s7 = .slice (some ⟨g, 0, none⟩) s.size c9 ∧ wr.heap.size ≤ g ∧ BytesIn wx g (byts s) ∧ Below wr.heap.size wr wx)
        case first =>
          go_wp2_with fail
          go_meet
          exact ⟨_, _, rfl, Nat.le_refl _, hnew.out.drew, ((Below.refl _ _).alloc (Nat.le_refl _) _).drew⟩
        case rest =>
        obtain ⟨g, c9, rfl, hg, hin, hbx⟩ := hcut
        clear hcv
        have hox := OwnRow.below ho hbx (Nat.le_refl _)
        have hbx2 := hb.next (Nat.le_refl _) hbx
        obtain ⟨W, hW⟩ : ∃ W : World, W = wc := ⟨_, rfl⟩
        subst hW
        go_wp2_with fail
        refine (reverseB_any g s.size c9 (byts s) _ hin (byts_len s) (by omega) (by omega)).mono ?_; rintro e w3 ⟨rfl, hin3, b3⟩
        have hlr : (byts s).reverse.length = s.size := by rw [List.length_reverse, byts_len]
        have hback : (convert 22 9 (.slice (some ⟨g, 0, none⟩) s.size c9)).run Try.prog w3 = .ok (.string (revS s)) w3 :=
          run_convert_bytes_arg w3 22 5 Try.underlying22 Try.underlying5 g 0 s.size c9 (byts s).reverse hlr (fun i hi => by rw [Nat.zero_add]; exact (hin3 i (by rw [hlr]; exact hi)).1) 9 Try.underlying9
        have b3w : Below wr.heap.size W w3 := b3.mono hg
        have hb3 := hbx2.trans (b3.mono (by have := hb.size; omega))
        have ho3 : OwnRow strRec w3 w.heap.size u4 (mirL l k) := OwnRow.below ho (hbx.trans b3w) (Nat.le_refl _)
        have hsz3 := hb3.size
        clear hlr hin3 hin hox
        go_wp2_with (at_builtin; refine wp_app_str _ rfl _ _ rfl w.heap.size _ (mirL l k) rfl ho3 (revS s) _ rfl rfl h9 hsz3 ?_; intro v5 w5 ho5 hg5)
        go_roundw
        case rel => exact ⟨k + 1, by omega, by go_num, by rw [hst.out]; exact ho5, hb3.trans hg5.below⟩
        case measure => simp [intOf]; omega
      · obtain rfl : k = l.length := by omega
        go_wp2_with fail
        go_ret2
        exact ⟨_, by rw [hr.out]; rfl, by rw [hr.out]; exact ho, hb⟩
set_option maxRecDepth 100000 in
set_option maxHeartbeats 3200000 in
theorem specMirror (v : Value) (l : List ByteArray) (w : World) (h : RowAt strRec w v l) (hw : WfStrs l) :
    Calls Try.prog 24 #[v] w (FreshStrsB w (rMirror l)) := by
  obtain ⟨A, c, rfl, hnc, hc63⟩ := h.shape
  cases hv : isVw l
  · have hr := Lib.hid (rMirror_no hv)
    go_enter Try.func24, Try.ntmps24
    go_wp2_with fail
    refine (vwGood_any _ l _ h hw).mono ?_; rintro e _ ⟨rfl, rfl⟩
    go_wp2_with fail
    go_ret2
    exact ⟨_, by rw [hr.out]; rfl, by rw [hr.out]; exact OwnRow.nil_ strRec _ _, Below.refl _ _⟩
  · have hr := Lib.hid (rMirror_yes hv)
    have hvs := Lib.hid (vw_size hv)
    have h30 := (isVw_t hv).2.1
    go_enter Try.func24, Try.ntmps24
    go_wp2_with fail
    refine (vwGood_any _ l _ h hw).mono ?_; rintro e _ ⟨rfl, rfl⟩
    go_wp2_with fail
    clear hv hw
    go_loopw [4, 14] (fun t s wr => ∃ k : Nat, k ≤ l.length ∧ s = .int .i64 k ∧ OwnRow strRec wr w.heap.size t (mirL l k) ∧ Below w.heap.size w wr) (fun _ s _ => l.length - (intOf s).toNat)
    case atStart => exact ⟨0, Nat.zero_le _, rfl, OwnRow.nil_ strRec w _, Below.refl _ _⟩
    case round =>
      obtain ⟨k, hk, rfl, ho, hb⟩ := hrel
      by_cases hlt : k < l.length
      · obtain ⟨b, o, rfl, hc⟩ := str_at (h.below hb (Nat.le_refl _)) k hlt
        have hs := hvs.out k hlt
        have hst := Lib.hid (mirL_succ hlt)
        have hml := mirL_len (Nat.le_of_lt hlt)
        have h9 : (mirL l k).length + 1 ≤ 1099511627776 := by omega
        obtain ⟨s, hse⟩ : ∃ s, s = gx strRec l k := ⟨_, rfl⟩
        rw [← hse] at hc hs hst
        clear hse hml
        obtain ⟨s1, s2⟩ := hs
        have hbl := Lib.hid (byts_len s)
        obtain ⟨wi, hwi⟩ : ∃ wi : World, wi = wr := ⟨_, rfl⟩
        subst hwi
        go_wp2_with fail
        go_loopg [7, 8] s.size (fun g t q wr => ∃ (j : Nat) (i : Int), j ≤ s.size ∧ s.size ≤ j + g ∧ q = .int .i64 i ∧ Hid (i = (s.size : Int) - 1 - j) ∧ t = .string (strOfNums ((byts s).reverse.take j)) ∧ wr = wi)
        case atStart => exact ⟨0, _, Nat.zero_le _, by omega, rfl, by show _ = _; omega, by simp [strOfNums], rfl⟩
        case round =>
          obtain ⟨j, i, hj, hjg, rfl, hi, rfl, rfl⟩ := hrel
          have hsz : (strOfNums ((byts s).reverse.take j)).size ≤ 60 := by rw [strOfNums_size, List.length_take, List.length_reverse, hbl.out]; omega
          rcases Int.lt_or_le i 0 with hneg | hpos
          · have hje : j = s.size := by have := hi.out; omega
            have hfin : Hid (strOfNums ((byts s).reverse.take j) = revS s) := by
              show _ = _
              rw [hje, List.take_of_length_le (by rw [List.length_reverse, hbl.out]; exact Nat.le_refl _)]; rfl
            have hsz3 := hb.size
            clear hje
            go_wp2_with (at_builtin; refine wp_app_str _ rfl _ _ rfl w.heap.size _ (mirL l k) rfl ho (strOfNums ((byts s).reverse.take j)) _ rfl rfl h9 hsz3 ?_; intro v5 w5 ho5 hg5)
            go_roundw
            case rel => exact ⟨k + 1, by omega, by go_num, by rw [hst.out, ← hfin.out]; exact ho5, hb.trans hg5.below⟩
            case measure => simp [intOf]; omega
          · obtain ⟨n, rfl⟩ := Int.eq_ofNat_of_zero_le hpos
            have hnl : n < s.size := by have := hi.out; omega
            have hjl : j < s.size := by have := hi.out; omega
            have hex2 : (s.extract n (n + 1)).size ≤ 1 := by rw [extract_one hnl, strOfNums_size]; exact Nat.le_refl _
            have hnx : Hid (strOfNums ((byts s).reverse.take j) ++ s.extract n (n + 1) = strOfNums ((byts s).reverse.take (j + 1))) := by
              show _ = _
              rw [extract_one hnl]
              have hjr : j < (byts s).reverse.length := by rw [List.length_reverse, hbl.out]; exact hjl
              rw [strOfNums_append, take_succ_gi _ j hjr, gi_rev (by rw [hbl.out]; exact hjl)]
              have : (byts s).length - 1 - j = n := by have := hi.out; rw [hbl.out]; omega
              rw [this]
            have hn1 : Hid ((n : Int) - 1 = (s.size : Int) - 1 - ((j + 1 : Nat) : Int)) := by show _ = _; have := hi.out; omega
            have hsl : (Instr.slice 9 (.string s) (some (.int .i64 n)) (some (.int .i64 ((n : Int) + 1))) none).run Try.prog wr = .ok (.string (s.extract n (n + 1))) wr := by
              have h9 := run_slice_string (P := Try.prog) wr 9 s .i64 .i64 (n : Int) ((n : Int) + 1) Try.underlying9 (by omega) (by omega) (by omega)
              rw [show ((n : Int)).toNat = n from by omega, show ((n : Int) + 1).toNat = n + 1 from by omega] at h9
              exact h9
            go_wp2_with fail
            go_roundg (gk - 1)
            case measure => omega
            case rel => exact ⟨j + 1, (n : Int) - 1, by omega, by omega, rfl, hn1, by rw [← hnx.out], rfl⟩
      · obtain rfl : k = l.length := by omega
        go_wp2_with fail
        go_ret2
        exact ⟨_, by rw [hr.out]; rfl, by rw [hr.out]; exact ho, hb⟩
end Go.Proofs.Ytjbffahnbkpcnaa
