/- Plain functions on lists of integers: ranges, sums in a loop, and small facts on lists; nothing of the program. -/
set_option linter.unusedSimpArgs false
set_option linter.unusedVariables false
namespace Go.Proofs.Ytnkbopnmfoplfaa

/-- n lies between lo and hi. -/
def inR (n lo hi : Int) : Bool := decide (lo ≤ n) && decide (n ≤ hi)
theorem inR_t {n lo hi : Int} : inR n lo hi = true ↔ lo ≤ n ∧ n ≤ hi := by simp [inR]
theorem inR_f {n lo hi : Int} : inR n lo hi = false ↔ ¬ (lo ≤ n ∧ n ≤ hi) := by
  rw [← inR_t]; simp
def allIn (l : List Int) (lo hi : Int) : Bool := l.all fun x => inR x lo hi

/-- The k-th integer of a list. -/
def gi (l : List Int) (k : Nat) : Int := l.getD k 0
theorem gi_mem {l : List Int} {k : Nat} (h : k < l.length) : gi l k ∈ l := by simp [gi, List.getD, h]
theorem gi_eq {l : List Int} {k : Nat} (h : k < l.length) : gi l k = l[k] := by simp [gi, List.getD, h]
theorem take_succ_gi (l : List Int) (k : Nat) (h : k < l.length) : l.take (k + 1) = l.take k ++ [gi l k] := by
  rw [List.take_succ_eq_append_getElem h, gi_eq h]
theorem foldl_take_gi {β : Type} (f : β → Int → β) (b : β) (l : List Int) (k : Nat) (h : k < l.length) :
    (l.take (k + 1)).foldl f b = f ((l.take k).foldl f b) (gi l k) := by
  rw [take_succ_gi l k h, List.foldl_append]; rfl
theorem allIn_take_gi {l : List Int} {lo hi : Int} {k : Nat} (h : k < l.length) (ha : allIn (l.take k) lo hi = true) (hx : inR (gi l k) lo hi = true) : allIn (l.take (k + 1)) lo hi = true := by
  unfold allIn at ha ⊢
  rw [take_succ_gi l k h, List.all_append, ha]; simp [hx]
theorem allIn_gi {l : List Int} {lo hi : Int} (h : allIn l lo hi = true) {k : Nat} (hk : k < l.length) : lo ≤ gi l k ∧ gi l k ≤ hi := by
  unfold allIn at h
  rw [List.all_eq_true] at h
  exact inR_t.1 (h _ (gi_mem hk))
theorem allIn_no {l : List Int} {lo hi : Int} {k : Nat} (hk : k < l.length) (hx : inR (gi l k) lo hi = false) : allIn l lo hi = false := by
  unfold allIn
  rw [List.all_eq_false]
  exact ⟨gi l k, gi_mem hk, by rw [hx]; decide⟩

/-! ### frames and journals -/
def isFrame (l : List Int) : Bool := inR l.length 1 12 && allIn l 0 255
def isBytes (l : List Int) : Bool := decide (l.length ≤ 240) && allIn l 0 255
def chkFrom (l : List Int) (a : Int) : Int := l.foldl (fun a x => (7 * a + x + 1) % 251) a
def chk (l : List Int) (n : Int) : Int := chkFrom l (17 + 3 * n)
theorem chkFrom_bd (l : List Int) (a : Int) (h : 0 ≤ a ∧ a ≤ 4000000) : 0 ≤ chkFrom l a ∧ chkFrom l a ≤ 4000000 := by
  unfold chkFrom
  induction l generalizing a with
  | nil => exact h
  | cons x l ih => exact ih _ (by show 0 ≤ (7 * a + x + 1) % 251 ∧ (7 * a + x + 1) % 251 ≤ 4000000; omega)
def frameB (l : List Int) (n : Int) : List Int := (l.length : Int) :: l ++ [chk l n]
def frameAt (b : List Int) (p : Nat) : List Int := (b.drop (p + 1)).take (gi b p).toNat
def okAt (b : List Int) (p c : Nat) : Bool :=
  inR (gi b p) 1 12 && decide (p + (gi b p).toNat + 1 < b.length) && (chk (frameAt b p) c == gi b (p + 1 + (gi b p).toNat))
def runR (b : List Int) : Nat → List (List Int) → Nat → List (List Int) × Nat
  | 0, out, p => (out, p)
  | f + 1, out, p => if p < b.length ∧ okAt b p out.length = true then runR b f (out ++ [frameAt b p]) (p + (gi b p).toNat + 2) else (out, p)
def recov (b : List Int) : List (List Int) × Nat := runR b 20 [] 0

theorem chk_step (l : List Int) (a : Int) (k : Nat) (h : k < l.length) : chkFrom (l.take (k + 1)) a = (7 * chkFrom (l.take k) a + gi l k + 1) % 251 := by
  unfold chkFrom
  rw [foldl_take_gi _ _ _ _ h]
/-- What FrameCheck returns. -/
def rCheck (l : List Int) (n : Int) : Int × Bool := if isFrame l && inR n 0 19 then (chk l n, true) else (0, false)
def rFrameB (l : List Int) (n : Int) : List Int × Bool := if isFrame l && inR n 0 19 then (frameB l n, true) else ([], false)
def rCut (b : List Int) (n : Int) : List Int × Bool := if isBytes b && inR n 0 240 then (b.take n.toNat, true) else ([], false)
theorem isFrame_len {l : List Int} (h : isFrame l = true) : 1 ≤ l.length ∧ l.length ≤ 12 := by
  unfold isFrame at h
  rw [Bool.and_eq_true] at h
  have := inR_t.1 h.1
  omega
theorem isFrame_in {l : List Int} (h : isFrame l = true) : allIn l 0 255 = true := by
  unfold isFrame at h
  rw [Bool.and_eq_true] at h
  exact h.2
theorem isBytes_len {l : List Int} (h : isBytes l = true) : l.length ≤ 240 := by
  unfold isBytes at h
  rw [Bool.and_eq_true] at h
  exact of_decide_eq_true h.1
theorem isBytes_in {l : List Int} (h : isBytes l = true) : allIn l 0 255 = true := by
  unfold isBytes at h
  rw [Bool.and_eq_true] at h
  exact h.2
theorem isBytes_eq (l : List Int) : (allIn l 0 255 && decide ((l.length : Int) ≤ 240)) = isBytes l := by
  unfold isBytes
  rw [Bool.and_comm]
  congr 1
  rw [decide_eq_decide]
  omega
theorem rCut_len (b : List Int) (n : Int) : (rCut b n).1.length ≤ 240 := by
  unfold rCut
  split
  · rename_i h
    rw [Bool.and_eq_true] at h
    have := isBytes_len h.1
    simp only [List.length_take]; omega
  · simp
theorem rFrameB_len (l : List Int) (n : Int) : (rFrameB l n).1.length ≤ 14 := by
  unfold rFrameB
  split
  · rename_i h
    rw [Bool.and_eq_true] at h
    have := isFrame_len h.1
    simp [frameB]; omega
  · simp
/-! ### recovery, round by round -/
theorem runR_zero (b : List Int) (out : List (List Int)) (p : Nat) : runR b 0 out p = (out, p) := rfl
theorem runR_stop (b : List Int) (f : Nat) (out : List (List Int)) (p : Nat) (h : ¬ (p < b.length ∧ okAt b p out.length = true)) : runR b f out p = (out, p) := by
  cases f with
  | zero => rfl
  | succ f => unfold runR; rw [if_neg h]
theorem runR_go (b : List Int) (f : Nat) (out : List (List Int)) (p : Nat) (h1 : p < b.length) (h2 : okAt b p out.length = true) : runR b (f + 1) out p = runR b f (out ++ [frameAt b p]) (p + (gi b p).toNat + 2) := by
  conv => lhs; unfold runR
  rw [if_pos ⟨h1, h2⟩]
theorem okAt_yes {b : List Int} {p c m : Nat} (hm : gi b p = (m : Int)) (h1 : 1 ≤ m) (h2 : m ≤ 12) (h3 : p + m + 1 < b.length) (h4 : chk (frameAt b p) c = gi b (p + 1 + m)) : okAt b p c = true := by
  unfold okAt
  have e : (gi b p).toNat = m := by omega
  rw [e, hm]
  have a1 : inR (m : Int) 1 12 = true := inR_t.2 (by omega)
  rw [a1, h4]
  simp [h3]
theorem okAt_size {b : List Int} {p c : Nat} (h : inR (gi b p) 1 12 = false) : okAt b p c = false := by
  unfold okAt; rw [h]; rfl
theorem okAt_end {b : List Int} {p c m : Nat} (hm : gi b p = (m : Int)) (h : b.length ≤ p + m + 1) : okAt b p c = false := by
  unfold okAt
  have e : (gi b p).toNat = m := by omega
  have : decide (p + m + 1 < b.length) = false := decide_eq_false (by omega)
  rw [e, this]; simp
theorem okAt_chk {b : List Int} {p c m : Nat} (hm : gi b p = (m : Int)) (h : chk (frameAt b p) c ≠ gi b (p + 1 + m)) : okAt b p c = false := by
  unfold okAt
  have e : (gi b p).toNat = m := by omega
  rw [e]
  have : (chk (frameAt b p) c == gi b (p + 1 + m)) = false := beq_eq_false_iff_ne.2 h
  rw [this]; simp
theorem frameAt_eq {b : List Int} {p m : Nat} (hm : gi b p = (m : Int)) : frameAt b p = (b.drop (p + 1)).take m := by
  unfold frameAt
  have e : (gi b p).toNat = m := by omega
  rw [e]
theorem frameAt_in {b : List Int} (h : allIn b 0 255 = true) (p : Nat) : allIn (frameAt b p) 0 255 = true := by
  unfold allIn at h ⊢
  rw [List.all_eq_true] at h ⊢
  intro x hx
  exact h x (List.mem_of_mem_drop (List.mem_of_mem_take hx))
theorem runR_bd (b : List Int) (f : Nat) (out : List (List Int)) (p : Nat) (h1 : out.length + f ≤ 20) (h2 : p ≤ b.length) (h3 : ∀ l ∈ out, l.length ≤ 12) :
    (runR b f out p).1.length ≤ 20 ∧ (runR b f out p).2 ≤ b.length ∧ ∀ l ∈ (runR b f out p).1, l.length ≤ 12 := by
  induction f generalizing out p with
  | zero => exact ⟨by simpa [runR] using h1, h2, h3⟩
  | succ f ih =>
    unfold runR
    split
    · rename_i h
      have hk := h.2
      unfold okAt at hk
      rw [Bool.and_eq_true, Bool.and_eq_true] at hk
      have a1 := inR_t.1 hk.1.1
      have a2 := of_decide_eq_true hk.1.2
      refine ih _ _ (by simp; omega) (by omega) ?_
      intro l hl
      rw [List.mem_append] at hl
      rcases hl with hl | hl
      · exact h3 l hl
      · simp at hl; subst hl
        unfold frameAt
        rw [List.length_take]; omega
    · exact ⟨show out.length ≤ 20 by omega, h2, h3⟩
theorem recov_bd (b : List Int) : (recov b).1.length ≤ 20 ∧ (recov b).2 ≤ b.length ∧ ∀ l ∈ (recov b).1, l.length ≤ 12 :=
  runR_bd b 20 [] 0 (by simp) (Nat.zero_le _) (by simp)
/-- What RecoverFrames returns. -/
def rRecover (b : List Int) : List (List Int) × Int × Bool := if isBytes b then ((recov b).1, ((recov b).2 : Int), true) else ([], 0, false)
def rAppend (b l : List Int) : List Int × Bool :=
  if isBytes b && isFrame l then
    if (recov b).1.length = 20 ∨ 240 < (recov b).2 + l.length + 2 then ([], false) else (b.take (recov b).2 ++ frameB l (recov b).1.length, true)
  else ([], false)
/-- How many frames two lists have in common at their heads. -/
def comm : List (List Int) → List (List Int) → Nat
  | x :: xs, y :: ys => if x == y then comm xs ys + 1 else 0
  | _, _ => 0
def rCommon (a b : List Int) : Int × Bool := if isBytes a && isBytes b then ((comm (recov a).1 (recov b).1 : Int), true) else (0, false)
/-- The bytes of frames, the first of which has the number n. -/
def flatB : Nat → List (List Int) → List Int
  | _, [] => []
  | n, l :: ls => frameB l n ++ flatB (n + 1) ls
theorem flatB_snoc (n : Nat) (ls : List (List Int)) (l : List Int) : flatB n (ls ++ [l]) = flatB n ls ++ frameB l (n + ls.length : Nat) := by
  induction ls generalizing n with
  | nil => simp [flatB]
  | cons x ls ih =>
    simp only [List.cons_append, flatB, ih, List.append_assoc, List.length_cons]
    rw [show n + 1 + ls.length = n + (ls.length + 1) from by omega]
def rJournal (ls : List (List Int)) : List Int × Bool :=
  if ls.all isFrame then
    if 20 < ls.length ∨ 240 < (flatB 0 ls).length then ([], false) else (flatB 0 ls, true)
  else ([], false)
theorem chk_in {l : List Int} {n : Int} (h : l ≠ []) : 0 ≤ chk l n ∧ chk l n ≤ 250 := by
  obtain ⟨l', x, rfl⟩ : ∃ l' x, l = l' ++ [x] := ⟨l.dropLast, l.getLast h, (List.dropLast_concat_getLast h).symm⟩
  unfold chk chkFrom
  rw [List.foldl_append]
  simp only [List.foldl_cons, List.foldl_nil]
  omega
theorem allIn_append {a b : List Int} {lo hi : Int} (h1 : allIn a lo hi = true) (h2 : allIn b lo hi = true) : allIn (a ++ b) lo hi = true := by
  unfold allIn at *; rw [List.all_append, h1, h2]; rfl
theorem frameB_in {l : List Int} {n : Int} (h : isFrame l = true) : allIn (frameB l n) 0 255 = true := by
  have h1 := isFrame_len h
  have hne : l ≠ [] := by rintro rfl; simp at h1
  have h2 := chk_in (n := n) hne
  unfold frameB
  have e1 : inR (l.length : Int) 0 255 = true := inR_t.2 (by omega)
  have e2 : inR (chk l n) 0 255 = true := inR_t.2 (by omega)
  have h3 := isFrame_in h
  unfold allIn at *
  simp [e1, e2, h3]
theorem flatB_in (ls : List (List Int)) (n : Nat) (h : ls.all isFrame = true) : allIn (flatB n ls) 0 255 = true := by
  induction ls generalizing n with
  | nil => rfl
  | cons l ls ih =>
    simp only [List.all_cons, Bool.and_eq_true] at h
    exact allIn_append (frameB_in h.1) (ih _ h.2)
theorem rJournal_bytes (ls : List (List Int)) : isBytes (rJournal ls).1 = true := by
  unfold rJournal
  split
  · rename_i h
    split
    · rfl
    · rename_i h2
      unfold isBytes
      rw [flatB_in ls 0 h]
      simp; omega
  · rfl
def rSurvive (ls : List (List Int)) (n : Int) : Int × Bool :=
  if (rJournal ls).2 && inR n 0 240 then (((recov ((rJournal ls).1.take n.toNat)).1.length : Int), true) else (0, false)
theorem isBytes_take {b : List Int} (h : isBytes b = true) (k : Nat) : isBytes (b.take k) = true := by
  have h1 := isBytes_len h
  have h2 := isBytes_in h
  unfold isBytes
  have : allIn (b.take k) 0 255 = true := by
    unfold allIn at *
    rw [List.all_eq_true] at *
    exact fun x hx => h2 x (List.mem_of_mem_take hx)
  rw [this]
  simp; omega
theorem frameB_len (l : List Int) (n : Int) : (frameB l n).length = l.length + 2 := by simp [frameB]
theorem rAppend_len (b l : List Int) : (rAppend b l).1.length ≤ 254 := by
  unfold rAppend
  split
  · rename_i h
    rw [Bool.and_eq_true] at h
    have h1 := isBytes_len h.1
    have h2 := isFrame_len h.2
    split
    · simp
    · rw [List.length_append, frameB_len, List.length_take]; omega
  · simp
theorem rJournal_len (ls : List (List Int)) : (rJournal ls).1.length ≤ 240 := isBytes_len (rJournal_bytes ls)
theorem comm_step {x y : List (List Int)} {k : Nat} (a b : List Int) (h1 : x.drop k = a :: x.drop (k + 1)) (h2 : y.drop k = b :: y.drop (k + 1)) (h : (a == b) = true) : comm (x.drop k) (y.drop k) = comm (x.drop (k + 1)) (y.drop (k + 1)) + 1 := by
  rw [h1, h2]; simp [comm, h]
theorem comm_stop {x y : List (List Int)} {k : Nat} (a b : List Int) (h1 : x.drop k = a :: x.drop (k + 1)) (h2 : y.drop k = b :: y.drop (k + 1)) (h : (a == b) = false) : comm (x.drop k) (y.drop k) = 0 := by
  rw [h1, h2]; simp [comm, h]
theorem comm_nil (x y : List (List Int)) (h : x = [] ∨ y = []) : comm x y = 0 := by
  rcases h with rfl | rfl
  · cases y <;> rfl
  · cases x <;> rfl
end Go.Proofs.Ytnkbopnmfoplfaa
