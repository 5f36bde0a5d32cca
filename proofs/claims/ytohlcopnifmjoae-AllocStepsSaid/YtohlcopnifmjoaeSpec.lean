/- alloc: what its functions compute, in plain lists. No Go in sight. -/
namespace Go.Proofs.Ytohlcopnifmjoae

/-- one page more, or less: none where it is no page, or would be below 0 -/
def addStep (by_ : Int) (rs : List Int) (p : Int) : Option (List Int) :=
  if 0 ≤ p ∧ p < rs.length ∧ 0 ≤ rs.getD p.toNat 0 + by_ then some (rs.set p.toNat (rs.getD p.toNat 0 + by_)) else none
def addL (by_ : Int) (rs : List Int) : List Int → Option (List Int)
  | [] => some rs
  | p :: l => match addStep by_ rs p with
    | some rs' => addL by_ rs' l
    | none => none
/-- the pages that are held, rising, from place k on -/
def heldFrom : Nat → List Int → List Int
  | _, [] => []
  | k, r :: rs => if 0 < r then (k : Int) :: heldFrom (k + 1) rs else heldFrom (k + 1) rs
def heldL (rs : List Int) : List Int := heldFrom 0 rs
def refsL (rs : List Int) (p : Int) : Int := if 0 ≤ p ∧ p < rs.length then rs.getD p.toNat 0 else 0

theorem addL_append (by_ : Int) (rs : List Int) (l1 l2 : List Int) : addL by_ rs (l1 ++ l2) = (addL by_ rs l1).bind fun r => addL by_ r l2 := by
  induction l1 generalizing rs with
  | nil => rfl
  | cons p l ih =>
    simp only [List.cons_append, addL]
    cases h : addStep by_ rs p with
    | none => rfl
    | some r => exact ih r
theorem addL_snoc {by_ : Int} {rs r : List Int} {l : List Int} {p : Int} (h : addL by_ rs l = some r) : addL by_ rs (l ++ [p]) = addStep by_ r p := by
  rw [addL_append, h]
  simp only [Option.bind_some, addL]
  cases addStep by_ r p <;> rfl
theorem addL_none {by_ : Int} {rs r : List Int} {l : List Int} {k : Nat} (hk : k < l.length) (h : addL by_ rs (l.take k) = some r) (hn : addStep by_ r l[k] = none) : addL by_ rs l = none := by
  have e : l = l.take k ++ ([l[k]] ++ l.drop (k + 1)) := by
    rw [← List.append_assoc, ← List.take_succ_eq_append_getElem hk, List.take_append_drop]
  rw [e, addL_append, h]
  simp only [Option.bind_some, List.cons_append, List.nil_append, addL, hn]
theorem addStep_length {by_ : Int} {rs r : List Int} {p : Int} (h : addStep by_ rs p = some r) : r.length = rs.length := by
  unfold addStep at h
  split at h
  · injection h with h; rw [← h]; simp
  · cases h
theorem addL_length {by_ : Int} {rs r : List Int} {l : List Int} (h : addL by_ rs l = some r) : r.length = rs.length := by
  induction l generalizing rs with
  | nil => simp only [addL, Option.some.injEq] at h; rw [h]
  | cons p l ih =>
    simp only [addL] at h
    cases h' : addStep by_ rs p with
    | none => rw [h'] at h; cases h
    | some r' => rw [h'] at h; rw [ih h, addStep_length h']

/-- all are at least 0, and at most m -/
def Within (m : Int) (rs : List Int) : Prop := ∀ r ∈ rs, 0 ≤ r ∧ r ≤ m
theorem Within.get {m : Int} {rs : List Int} (h : Within m rs) (k : Nat) (hk : k < rs.length) : 0 ≤ rs.getD k 0 ∧ rs.getD k 0 ≤ m := by
  rw [List.getD_eq_getElem?_getD, List.getElem?_eq_getElem hk]
  exact h _ (List.getElem_mem hk)
theorem Within.mono {m m' : Int} {rs : List Int} (h : Within m rs) (hm : m ≤ m') : Within m' rs := fun r hr => ⟨(h r hr).1, by have := (h r hr).2; omega⟩
theorem Within.step {m by_ : Int} {rs r : List Int} {p : Int} (h : Within m rs) (hb : by_ ≤ 1) (hs : addStep by_ rs p = some r) : Within (m + 1) r := by
  unfold addStep at hs
  split at hs
  · rename_i hc
    injection hs with hs
    rw [← hs]
    intro x hx
    rcases List.mem_or_eq_of_mem_set hx with h1 | h1
    · have := h x h1; omega
    · have := h.get p.toNat (by omega)
      omega
  · cases hs
theorem Within.addL {m by_ : Int} {rs r : List Int} {l : List Int} (h : Within m rs) (hb : by_ ≤ 1) (hs : addL by_ rs l = some r) : Within (m + l.length) r := by
  induction l generalizing rs m with
  | nil => simp only [Go.Proofs.Ytohlcopnifmjoae.addL, Option.some.injEq] at hs; rw [← hs]; exact h.mono (by simp)
  | cons p l ih =>
    simp only [Go.Proofs.Ytohlcopnifmjoae.addL] at hs
    cases h' : addStep by_ rs p with
    | none => rw [h'] at hs; cases hs
    | some r' =>
      rw [h'] at hs
      have := ih (h.step hb h') hs
      exact this.mono (by simp; omega)

/-! ### the first that is none -/
theorem first_zero (rs : List Int) : (∃ i, i < rs.length ∧ rs.getD i 0 = 0 ∧ ∀ j, j < i → rs.getD j 0 ≠ 0) ∨ ∀ j, j < rs.length → rs.getD j 0 ≠ 0 := by
  by_cases h : ∃ i, i < rs.length ∧ rs.getD i 0 = 0
  · left
    obtain ⟨i, hi, hz⟩ := h
    induction i using Nat.strongRecOn with
    | ind i ih =>
      by_cases hd : ∃ j, j < i ∧ rs.getD j 0 = 0
      · obtain ⟨j, hj, hjz⟩ := hd
        exact ih j hj (by omega) hjz
      · exact ⟨i, hi, hz, fun j hj hjz => hd ⟨j, hj, hjz⟩⟩
  · right
    exact fun j hj hz => h ⟨j, hj, hz⟩

/-! ### the pages that are held -/
theorem heldFrom_append (k : Nat) (a b : List Int) : heldFrom k (a ++ b) = heldFrom k a ++ heldFrom (k + a.length) b := by
  induction a generalizing k with
  | nil => rfl
  | cons r a ih =>
    simp only [List.cons_append, heldFrom, List.length_cons]
    rw [ih, show k + 1 + a.length = k + (a.length + 1) from by omega]
    split <;> simp
theorem heldL_snoc (rs : List Int) (k : Nat) (hk : k < rs.length) : heldL (rs.take (k + 1)) = if 0 < rs[k] then heldL (rs.take k) ++ [(k : Int)] else heldL (rs.take k) := by
  unfold heldL
  rw [List.take_succ_eq_append_getElem hk, heldFrom_append]
  simp only [List.length_take, Nat.min_eq_left (Nat.le_of_lt hk), Nat.zero_add, heldFrom]
  split <;> simp
theorem heldFrom_length (k : Nat) (rs : List Int) : (heldFrom k rs).length ≤ rs.length := by
  induction rs generalizing k with
  | nil => simp [heldFrom]
  | cons r rs ih =>
    simp only [heldFrom]
    split
    · simp; exact ih _
    · simp; have := ih (k + 1); omega
theorem heldL_length (rs : List Int) : (heldL rs).length ≤ rs.length := heldFrom_length 0 rs
end Go.Proofs.Ytohlcopnifmjoae
