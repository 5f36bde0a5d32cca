/- bus: what a step of two rows makes, and tells. -/
import Derived.Test.YtohlcopnifmjoacRMove
namespace Go.Proofs.Ytohlcopnifmjoac
open Go.RowKit

/-- a step of one row: d, v; the row before, the row behind; what is told -/
inductive OneR (S : Nat) : Int → Int → List Int → Bool → List Int → Bool → Int → Bool → List Int → Prop
  | pop0 (v : Int) (C : Bool) : OneR S 1 v [] C [] C 0 false []
  | pop1 (v x : Int) (r : List Int) (C : Bool) : OneR S 1 v (x :: r) C r C x true []
  | shut (v : Int) (L : List Int) (C : Bool) : OneR S 2 v L C L true 0 (!C) []
  | drain (v : Int) (L : List Int) (C : Bool) : OneR S 3 v L C [] C 0 false L
  | push1 (d v : Int) (L : List Int) (h1 : d ≠ 1) (h2 : d ≠ 2) (h3 : d ≠ 3) (h4 : d ≠ 4) (h5 : d ≠ 5) (hl : L.length < S) : OneR S d v L false (L ++ [v]) false 0 true []
  | push0 (d v : Int) (L : List Int) (C : Bool) (h1 : d ≠ 1) (h2 : d ≠ 2) (h3 : d ≠ 3) (h4 : d ≠ 4) (h5 : d ≠ 5) (hl : C = true ∨ S ≤ L.length) : OneR S d v L C L C 0 false []
/-- a step on the first row -/
inductive StepR (Sa Sb : Nat) : Int → Int → List Int → Bool → List Int → Bool → List Int → Bool → List Int → Bool → Int → Bool → List Int → Prop
  | one {d v : Int} {La : List Int} {Ca : Bool} {La' : List Int} {Ca' : Bool} {V : Int} {OK : Bool} {T : List Int} (Lb : List Int) (Cb : Bool) (h4 : d ≠ 4) (h5 : d ≠ 5) (h : OneR Sa d v La Ca La' Ca' V OK T) : StepR Sa Sb d v La Ca Lb Cb La' Ca' Lb Cb V OK T
  | move (v : Int) (La : List Int) (Ca : Bool) (Lb : List Int) (Cb : Bool) (k : Nat) (hk : k = mv Cb Sb La.length Lb.length) : StepR Sa Sb 4 v La Ca Lb Cb (La.drop k) Ca (Lb ++ La.take k) Cb k false []
  | same (v : Int) (La : List Int) (Ca : Bool) (Lb : List Int) (Cb : Bool) : StepR Sa Sb 5 v La Ca Lb Cb La Ca Lb Cb 0 false []

theorem one_total (S : Nat) (d v : Int) (L : List Int) (C : Bool) (h4 : d ≠ 4) (h5 : d ≠ 5) : ∃ L' C' V OK T, OneR S d v L C L' C' V OK T := by
  by_cases h1 : d = 1
  · subst h1
    cases L with
    | nil => exact ⟨_, _, _, _, _, .pop0 v C⟩
    | cons x r => exact ⟨_, _, _, _, _, .pop1 v x r C⟩
  by_cases h2 : d = 2
  · subst h2
    exact ⟨_, _, _, _, _, .shut v L C⟩
  by_cases h3 : d = 3
  · subst h3
    exact ⟨_, _, _, _, _, .drain v L C⟩
  by_cases hl : C = true ∨ S ≤ L.length
  · exact ⟨_, _, _, _, _, .push0 d v L C h1 h2 h3 h4 h5 hl⟩
  · have hC : C = false := by cases C; rfl; exact absurd (.inl rfl) hl
    subst hC
    exact ⟨_, _, _, _, _, .push1 d v L h1 h2 h3 h4 h5 (by rcases Nat.lt_or_ge L.length S with h | h; exact h; exact absurd (.inr h) hl)⟩
theorem step_total (Sa Sb : Nat) (d v : Int) (La : List Int) (Ca : Bool) (Lb : List Int) (Cb : Bool) : ∃ La' Ca' Lb' Cb' V OK T, StepR Sa Sb d v La Ca Lb Cb La' Ca' Lb' Cb' V OK T := by
  by_cases h4 : d = 4
  · subst h4
    exact ⟨_, _, _, _, _, _, _, .move v La Ca Lb Cb _ rfl⟩
  by_cases h5 : d = 5
  · subst h5
    exact ⟨_, _, _, _, _, _, _, .same v La Ca Lb Cb⟩
  obtain ⟨L', C', V, OK, T, h⟩ := one_total Sa d v La Ca h4 h5
  exact ⟨_, _, _, _, _, _, _, .one Lb Cb h4 h5 h⟩
theorem OneR.len {S : Nat} {d v : Int} {L : List Int} {C : Bool} {L' : List Int} {C' : Bool} {V : Int} {OK : Bool} {T : List Int} (h : OneR S d v L C L' C' V OK T) (hl : L.length ≤ S) : L'.length ≤ S := by
  cases h with
  | pop0 => exact hl
  | pop1 x r => simp at hl; omega
  | shut => exact hl
  | drain => exact Nat.zero_le _
  | push1 => simp; omega
  | push0 => exact hl
theorem StepR.len {Sa Sb : Nat} {d v : Int} {La Lb : List Int} {Ca Cb : Bool} {La' Lb' : List Int} {Ca' Cb' : Bool} {V : Int} {OK : Bool} {T : List Int} (h : StepR Sa Sb d v La Ca Lb Cb La' Ca' Lb' Cb' V OK T) (ha : La.length ≤ Sa) (hb : Lb.length ≤ Sb) : La'.length ≤ Sa ∧ Lb'.length ≤ Sb := by
  cases h with
  | one _ _ _ _ h => exact ⟨h.len ha, hb⟩
  | move k _ _ _ _ hk =>
    refine ⟨by simp; omega, ?_⟩
    subst hk
    simp
    unfold mv
    split <;> omega
  | same => exact ⟨ha, hb⟩
/-- a step on the first row, or on the second one -/
def TwoR (Sa Sb : Nat) (two : Bool) (d v : Int) (La : List Int) (Ca : Bool) (Lb : List Int) (Cb : Bool) (La' : List Int) (Ca' : Bool) (Lb' : List Int) (Cb' : Bool) (V : Int) (OK : Bool) (T : List Int) : Prop :=
  if two then StepR Sb Sa d v Lb Cb La Ca Lb' Cb' La' Ca' V OK T else StepR Sa Sb d v La Ca Lb Cb La' Ca' Lb' Cb' V OK T
theorem two_total (Sa Sb : Nat) (two : Bool) (d v : Int) (La : List Int) (Ca : Bool) (Lb : List Int) (Cb : Bool) : ∃ La' Ca' Lb' Cb' V OK T, TwoR Sa Sb two d v La Ca Lb Cb La' Ca' Lb' Cb' V OK T := by
  cases two with
  | true =>
    obtain ⟨a, b, c, d, e, f, g, h⟩ := step_total Sb Sa d v Lb Cb La Ca
    exact ⟨c, d, a, b, e, f, g, h⟩
  | false =>
    obtain ⟨a, b, c, d, e, f, g, h⟩ := step_total Sa Sb d v La Ca Lb Cb
    exact ⟨a, b, c, d, e, f, g, h⟩
theorem TwoR.len {Sa Sb : Nat} {two : Bool} {d v : Int} {La Lb : List Int} {Ca Cb : Bool} {La' Lb' : List Int} {Ca' Cb' : Bool} {V : Int} {OK : Bool} {T : List Int} (h : TwoR Sa Sb two d v La Ca Lb Cb La' Ca' Lb' Cb' V OK T) (ha : La.length ≤ Sa) (hb : Lb.length ≤ Sb) : La'.length ≤ Sa ∧ Lb'.length ≤ Sb := by
  cases two with
  | true => exact (StepR.len h hb ha).symm
  | false => exact StepR.len h ha hb
end Go.Proofs.Ytohlcopnifmjoac
