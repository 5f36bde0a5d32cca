/- alloc: holding pages one by one, in whatever order. No Go in sight. -/
import Derived.Test.YtohlcopnifmjoaeSpec
namespace Go.Proofs.Ytohlcopnifmjoae

def hold1 (rs : List Int) (p : Int) : List Int := (addL 1 rs [p]).getD rs
theorem hold1_length (rs : List Int) (p : Int) : (hold1 rs p).length = rs.length := by
  unfold hold1
  cases h : addL 1 rs [p] with
  | none => rfl
  | some r => exact addL_length h
theorem hold1_within {m : Int} {rs : List Int} (h : Within m rs) (p : Int) : Within (m + 1) (hold1 rs p) := by
  unfold hold1
  cases e : addL 1 rs [p] with
  | none => exact h.mono (by omega)
  | some r => have := h.addL (by omega) e; exact this.mono (by simp)
theorem hold1_get {m : Int} {rs : List Int} (h : Within m rs) (p : Int) (j : Nat) (hj : j < rs.length) : (hold1 rs p).getD j 0 = rs.getD j 0 + if p = (j : Int) then 1 else 0 := by
  unfold hold1
  simp only [addL]
  unfold addStep
  by_cases hp : 0 ≤ p ∧ p < rs.length
  · have hg := h.get p.toNat (by omega)
    rw [if_pos ⟨hp.1, hp.2, by omega⟩]
    simp only [Option.getD_some, List.getD_eq_getElem?_getD]
    by_cases e : p = (j : Int)
    · rw [if_pos e]
      have : p.toNat = j := by omega
      rw [this, List.getElem?_set_self hj]
      simp
    · rw [if_neg e, List.getElem?_set_ne (by omega)]
      simp
  · rw [if_neg (by omega)]
    rw [if_neg (by omega)]
    simp
def holds (rs : List Int) (l : List Int) : List Int := l.foldl hold1 rs
theorem holds_snoc (rs : List Int) (l : List Int) (p : Int) : holds rs (l ++ [p]) = hold1 (holds rs l) p := by simp [holds, List.foldl_append]
theorem holds_length (rs l : List Int) : (holds rs l).length = rs.length := by
  induction l generalizing rs with
  | nil => rfl
  | cons p l ih => show (holds (hold1 rs p) l).length = _; rw [ih, hold1_length]
theorem holds_within {m : Int} {rs : List Int} (l : List Int) (h : Within m rs) : Within (m + l.length) (holds rs l) := by
  induction l generalizing rs m with
  | nil => exact h.mono (by simp)
  | cons p l ih =>
    have := ih (hold1_within h p)
    exact this.mono (by simp; omega)
theorem holds_get {m : Int} {rs : List Int} (l : List Int) (h : Within m rs) (j : Nat) (hj : j < rs.length) : (holds rs l).getD j 0 = rs.getD j 0 + l.count (j : Int) := by
  induction l generalizing rs m with
  | nil => simp [holds]
  | cons p l ih =>
    show (holds (hold1 rs p) l).getD j 0 = _
    rw [ih (hold1_within h p) (by rw [hold1_length]; exact hj), hold1_get h p j hj, List.count_cons]
    by_cases e : p = (j : Int)
    · simp [e]; omega
    · simp [e]
theorem within_zero (k : Nat) : Within 0 (List.replicate k 0) := by
  intro r hr
  rw [List.eq_of_mem_replicate hr]; omega
/-- in whatever order -/
theorem holds_reverse (k : Nat) (l : List Int) : holds (List.replicate k 0) l.reverse = holds (List.replicate k 0) l := by
  apply List.ext_getElem
  · rw [holds_length, holds_length]
  · intro j h1 h2
    have hj : j < (List.replicate k (0 : Int)).length := by rw [holds_length] at h1; exact h1
    have a := holds_get l.reverse (within_zero k) j hj
    have b := holds_get l (within_zero k) j hj
    rw [List.count_reverse] at a
    rw [List.getD_eq_getElem?_getD, List.getElem?_eq_getElem h1] at a
    rw [List.getD_eq_getElem?_getD, List.getElem?_eq_getElem h2] at b
    simp only [Option.getD_some] at a b
    rw [a, b]
end Go.Proofs.Ytohlcopnifmjoae
