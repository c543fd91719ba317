/- Plain functions on lists of integers: ranges, sums in a loop, and small facts on lists; nothing of the program. -/
set_option linter.unusedSimpArgs false
set_option linter.unusedVariables false
namespace Go.Proofs.Ytkkiihcldjappaa

/-- n lies between lo and hi. -/
def inR (n lo hi : Int) : Bool := decide (lo ≤ n) && decide (n ≤ hi)
theorem inR_t {n lo hi : Int} : inR n lo hi = true ↔ lo ≤ n ∧ n ≤ hi := by simp [inR]
theorem inR_f {n lo hi : Int} : inR n lo hi = false ↔ ¬ (lo ≤ n ∧ n ≤ hi) := by
  rw [← inR_t]; simp
def allIn (l : List Int) (lo hi : Int) : Bool := l.all fun x => inR x lo hi

/-- The k-th integer of a list. -/
def gi (l : List Int) (k : Nat) : Int := l.getD k 0
theorem gi_mem {l : List Int} {k : Nat} (h : k < l.length) : gi l k ∈ l := by simp [gi, List.getD, h]
theorem gi_eq {l : List Int} {k : Nat} (h : k < l.length) : gi l k = l[k] := by simp [gi, List.getD, h]
theorem take_succ_gi (l : List Int) (k : Nat) (h : k < l.length) : l.take (k + 1) = l.take k ++ [gi l k] := by
  rw [List.take_succ_eq_append_getElem h, gi_eq h]
theorem foldl_take_gi {β : Type} (f : β → Int → β) (b : β) (l : List Int) (k : Nat) (h : k < l.length) :
    (l.take (k + 1)).foldl f b = f ((l.take k).foldl f b) (gi l k) := by
  rw [take_succ_gi l k h, List.foldl_append]; rfl
theorem allIn_take_gi {l : List Int} {lo hi : Int} {k : Nat} (h : k < l.length) (ha : allIn (l.take k) lo hi = true) (hx : inR (gi l k) lo hi = true) : allIn (l.take (k + 1)) lo hi = true := by
  unfold allIn at ha ⊢
  rw [take_succ_gi l k h, List.all_append, ha]; simp [hx]
theorem allIn_gi {l : List Int} {lo hi : Int} (h : allIn l lo hi = true) {k : Nat} (hk : k < l.length) : lo ≤ gi l k ∧ gi l k ≤ hi := by
  unfold allIn at h
  rw [List.all_eq_true] at h
  exact inR_t.1 (h _ (gi_mem hk))
theorem allIn_no {l : List Int} {lo hi : Int} {k : Nat} (hk : k < l.length) (hx : inR (gi l k) lo hi = false) : allIn l lo hi = false := by
  unfold allIn
  rw [List.all_eq_false]
  exact ⟨gi l k, gi_mem hk, by rw [hx]; decide⟩

/-! ### frames and journals -/
def isFrame (l : List Int) : Bool := inR l.length 1 12 && allIn l 0 255
def isBytes (l : List Int) : Bool := decide (l.length ≤ 240) && allIn l 0 255
def chkFrom (l : List Int) (a : Int) : Int := l.foldl (fun a x => (7 * a + x + 1) % 251) a
def chk (l : List Int) (n : Int) : Int := chkFrom l (17 + 3 * n)
theorem chkFrom_bd (l : List Int) (a : Int) (h : 0 ≤ a ∧ a ≤ 251) : 0 ≤ chkFrom l a ∧ chkFrom l a ≤ 251 := by
  unfold chkFrom
  induction l generalizing a with
  | nil => exact h
  | cons x l ih => exact ih _ (by show 0 ≤ (7 * a + x + 1) % 251 ∧ (7 * a + x + 1) % 251 ≤ 251; omega)
def frameB (l : List Int) (n : Int) : List Int := (l.length : Int) :: l ++ [chk l n]
def frameAt (b : List Int) (p : Nat) : List Int := (b.drop (p + 1)).take (gi b p).toNat
def okAt (b : List Int) (p c : Nat) : Bool :=
  inR (gi b p) 1 12 && decide (p + (gi b p).toNat + 1 < b.length) && (chk (frameAt b p) c == gi b (p + 1 + (gi b p).toNat))
def runR (b : List Int) : Nat → List (List Int) → Nat → List (List Int) × Nat
  | 0, out, p => (out, p)
  | f + 1, out, p => if p < b.length ∧ okAt b p out.length = true then runR b f (out ++ [frameAt b p]) (p + (gi b p).toNat + 2) else (out, p)
def recov (b : List Int) : List (List Int) × Nat := runR b 20 [] 0

theorem chk_step (l : List Int) (a : Int) (k : Nat) (h : k < l.length) : chkFrom (l.take (k + 1)) a = (7 * chkFrom (l.take k) a + gi l k + 1) % 251 := by
  unfold chkFrom
  rw [foldl_take_gi _ _ _ _ h]
/-- What FrameCheck returns. -/
def rCheck (l : List Int) (n : Int) : Int × Bool := if isFrame l && inR n 0 19 then (chk l n, true) else (0, false)
def rFrameB (l : List Int) (n : Int) : List Int × Bool := if isFrame l && inR n 0 19 then (frameB l n, true) else ([], false)
def rCut (b : List Int) (n : Int) : List Int × Bool := if isBytes b && inR n 0 240 then (b.take n.toNat, true) else ([], false)
theorem isFrame_len {l : List Int} (h : isFrame l = true) : 1 ≤ l.length ∧ l.length ≤ 12 := by
  unfold isFrame at h
  rw [Bool.and_eq_true] at h
  have := inR_t.1 h.1
  omega
theorem isFrame_in {l : List Int} (h : isFrame l = true) : allIn l 0 255 = true := by
  unfold isFrame at h
  rw [Bool.and_eq_true] at h
  exact h.2
theorem isBytes_len {l : List Int} (h : isBytes l = true) : l.length ≤ 240 := by
  unfold isBytes at h
  rw [Bool.and_eq_true] at h
  exact of_decide_eq_true h.1
theorem isBytes_in {l : List Int} (h : isBytes l = true) : allIn l 0 255 = true := by
  unfold isBytes at h
  rw [Bool.and_eq_true] at h
  exact h.2
theorem isBytes_eq (l : List Int) : (allIn l 0 255 && decide ((l.length : Int) ≤ 240)) = isBytes l := by
  unfold isBytes
  rw [Bool.and_comm]
  congr 1
  rw [decide_eq_decide]
  omega
theorem rCut_len (b : List Int) (n : Int) : (rCut b n).1.length ≤ 240 := by
  unfold rCut
  split
  · rename_i h
    rw [Bool.and_eq_true] at h
    have := isBytes_len h.1
    simp only [List.length_take]; omega
  · simp
theorem rFrameB_len (l : List Int) (n : Int) : (rFrameB l n).1.length ≤ 14 := by
  unfold rFrameB
  split
  · rename_i h
    rw [Bool.and_eq_true] at h
    have := isFrame_len h.1
    simp [frameB]; omega
  · simp
end Go.Proofs.Ytkkiihcldjappaa
