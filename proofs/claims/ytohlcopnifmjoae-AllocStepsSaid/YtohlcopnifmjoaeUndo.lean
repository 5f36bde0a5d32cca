/- alloc: what holding and dropping come to, page by page; one undoes the other. No Go in sight. -/
import Derived.Test.YtohlcopnifmjoaeSpec
namespace Go.Proofs.Ytohlcopnifmjoae

theorem ext_getD {a b : List Int} (hl : a.length = b.length) (h : ∀ j, j < a.length → a.getD j 0 = b.getD j 0) : a = b := by
  apply List.ext_getElem hl
  intro j h1 h2
  have := h j h1
  rw [List.getD_eq_getElem?_getD, List.getD_eq_getElem?_getD, List.getElem?_eq_getElem h1, List.getElem?_eq_getElem h2] at this
  simpa using this
theorem getD_set (rs : List Int) (i j : Nat) (x : Int) (hi : i < rs.length) : (rs.set i x).getD j 0 = if i = j then x else rs.getD j 0 := by
  simp only [List.getD_eq_getElem?_getD]
  by_cases e : i = j
  · rw [if_pos e, ← e, List.getElem?_set_self hi]; rfl
  · rw [if_neg e, List.getElem?_set_ne e]
theorem addStep_is {by_ : Int} {rs r : List Int} {p : Int} (h : addStep by_ rs p = some r) : (0 ≤ p ∧ p < rs.length) ∧ ∀ j, r.getD j 0 = rs.getD j 0 + if p = (j : Int) then by_ else 0 := by
  unfold addStep at h
  split at h
  · rename_i hc
    injection h with h
    refine ⟨⟨hc.1, hc.2.1⟩, fun j => ?_⟩
    rw [← h, getD_set _ _ _ _ (by omega)]
    by_cases e : p = (j : Int)
    · rw [if_pos (by omega), if_pos e]
      have : p.toNat = j := by omega
      rw [this]
    · rw [if_neg (by omega), if_neg e]; simp
  · cases h
theorem addL_is {by_ : Int} {rs r : List Int} {l : List Int} (h : addL by_ rs l = some r) : (∀ p ∈ l, 0 ≤ p ∧ p < rs.length) ∧ ∀ j : Nat, r.getD j 0 = rs.getD j 0 + by_ * l.count (j : Int) := by
  induction l generalizing rs with
  | nil => simp only [addL, Option.some.injEq] at h; rw [h]; exact ⟨by simp, fun j => by simp⟩
  | cons p l ih =>
    simp only [addL] at h
    cases h' : addStep by_ rs p with
    | none => rw [h'] at h; cases h
    | some r' =>
      rw [h'] at h
      obtain ⟨hp, hg⟩ := addStep_is h'
      obtain ⟨hq, hg2⟩ := ih h
      have hlen := addStep_length h'
      refine ⟨fun q hq' => ?_, fun j => ?_⟩
      · rcases List.mem_cons.1 hq' with rfl | hq'
        · exact hp
        · have := hq q hq'; omega
      · rw [hg2 j, hg j, List.count_cons]
        by_cases e : p = (j : Int)
        · simp [e, Int.mul_add]; omega
        · simp [e]
theorem addL_minus (r : List Int) (l : List Int) (hp : ∀ p ∈ l, 0 ≤ p ∧ p < r.length) (hc : ∀ j, j < r.length → (l.count (j : Int) : Int) ≤ r.getD j 0) : ∃ r', addL (-1) r l = some r' := by
  induction l generalizing r with
  | nil => exact ⟨r, rfl⟩
  | cons p l ih =>
    have hpp := hp p (by simp)
    have hcp := hc p.toNat (by omega)
    have e : ((p.toNat : Nat) : Int) = p := by omega
    rw [e, List.count_cons_self] at hcp
    have hs : addStep (-1) r p = some (r.set p.toNat (r.getD p.toNat 0 + -1)) := by
      unfold addStep
      rw [if_pos ⟨hpp.1, hpp.2, by omega⟩]
    obtain ⟨r', hr'⟩ := ih (r.set p.toNat (r.getD p.toNat 0 + -1)) (fun q hq => by rw [List.length_set]; exact hp q (by simp [hq])) (fun j hj => by
      rw [List.length_set] at hj
      have := hc j hj
      rw [List.count_cons] at this
      rw [getD_set _ _ _ _ (by omega)]
      by_cases e2 : p.toNat = j
      · rw [if_pos e2]
        have e3 : p = (j : Int) := by omega
        rw [if_pos (by simp [e3])] at this
        rw [e2]
        omega
      · rw [if_neg e2]
        have e3 : ¬ p = (j : Int) := by omega
        rw [if_neg (by simp [e3])] at this
        simpa using this)
    exact ⟨r', by simp only [addL, hs]; exact hr'⟩
/-- dropping undoes holding -/
theorem undo {m : Int} {rs r : List Int} {l : List Int} (hw : Within m rs) (h : addL 1 rs l = some r) : addL (-1) r l = some rs := by
  obtain ⟨hp, hg⟩ := addL_is h
  have hlen := addL_length h
  obtain ⟨r', hr'⟩ := addL_minus r l (fun p hq => by rw [hlen]; exact hp p hq) (fun j hj => by
    have h0 := hw.get j (by omega)
    rw [hg j]; omega)
  obtain ⟨_, hg'⟩ := addL_is hr'
  have hlen' := addL_length hr'
  rw [hr']
  congr 1
  apply ext_getD (by omega)
  intro j hj
  rw [hg' j, hg j]; omega
theorem mem_heldFrom (k : Nat) (rs : List Int) (x : Int) : x ∈ heldFrom k rs ↔ ∃ j, j < rs.length ∧ x = ((k + j : Nat) : Int) ∧ 0 < rs.getD j 0 := by
  induction rs generalizing k with
  | nil => simp [heldFrom]
  | cons r rs ih =>
    have key : (∃ j, j < (r :: rs).length ∧ x = ((k + j : Nat) : Int) ∧ 0 < (r :: rs).getD j 0) ↔ (x = (k : Int) ∧ 0 < r) ∨ ∃ j, j < rs.length ∧ x = ((k + 1 + j : Nat) : Int) ∧ 0 < rs.getD j 0 := by
      constructor
      · rintro ⟨j, hj, hx, hr⟩
        rcases j with _ | j
        · left; exact ⟨by simpa using hx, by simpa using hr⟩
        · right; exact ⟨j, by simpa using hj, by rw [hx]; congr 1; omega, by simpa using hr⟩
      · rintro (⟨hx, hr⟩ | ⟨j, hj, hx, hr⟩)
        · exact ⟨0, by simp, by simpa using hx, by simpa using hr⟩
        · exact ⟨j + 1, by simpa using hj, by rw [hx]; congr 1; omega, by simpa using hr⟩
    rw [key]
    simp only [heldFrom]
    split
    · rename_i hr
      rw [List.mem_cons, ih]
      simp [hr]
    · rename_i hr
      rw [ih]
      simp [hr]
theorem not_held {rs : List Int} {i : Nat} (hi : rs.getD i 0 = 0) : (i : Int) ∉ heldL rs := by
  intro h
  obtain ⟨j, hj, hx, hr⟩ := (mem_heldFrom 0 rs i).1 h
  have : j = i := by omega
  rw [this] at hr
  omega
end Go.Proofs.Ytohlcopnifmjoae
