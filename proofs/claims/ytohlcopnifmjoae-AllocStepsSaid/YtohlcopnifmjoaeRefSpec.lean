/- alloc: the reference in plain lists, and how the two answer alike. No Go in sight. -/
import Derived.Test.YtohlcopnifmjoaeScript
namespace Go.Proofs.Ytohlcopnifmjoae

def dropL (H : List Int) : List Int → Option (List Int)
  | [] => some H
  | x :: l => if x ∈ H then dropL (H.erase x) l else none
theorem dropL_snoc {H r : List Int} {l : List Int} {p : Int} (h : dropL H l = some r) : dropL H (l ++ [p]) = if p ∈ r then some (r.erase p) else none := by
  induction l generalizing H with
  | nil => simp only [dropL, Option.some.injEq] at h; subst h; simp [dropL]
  | cons x l ih =>
    simp only [dropL, List.cons_append] at h ⊢
    split at h
    · rename_i hx
      rw [if_pos hx]; exact ih h
    · cases h
theorem dropL_none {H r : List Int} {l : List Int} {k : Nat} (hk : k < l.length) (h : dropL H (l.take k) = some r) (hn : l[k] ∉ r) : dropL H l = none := by
  have hs := dropL_snoc (p := l[k]) h
  rw [if_neg hn] at hs
  have happ : ∀ (a b : List Int) (H : List Int), dropL H a = none → dropL H (a ++ b) = none := by
    intro a
    induction a with
    | nil => intro b H h; simp [dropL] at h
    | cons x a ih =>
      intro b H h
      simp only [dropL, List.cons_append] at h ⊢
      split
      · rename_i hx
        rw [if_pos hx] at h
        exact ih b _ h
      · rfl
  have := happ _ (l.drop (k + 1)) H hs
  rw [← List.take_succ_eq_append_getElem hk, List.take_append_drop] at this
  exact this
theorem dropL_length {H r : List Int} {l : List Int} (h : dropL H l = some r) : r.length ≤ H.length := by
  induction l generalizing H with
  | nil => simp only [dropL, Option.some.injEq] at h; subst h; exact Nat.le_refl _
  | cons x l ih =>
    simp only [dropL] at h
    split at h
    · have := ih h
      exact Nat.le_trans this List.length_erase_le
    · cases h
/-- erasing the first -/
theorem erase_at (G : List Int) (x : Int) (j : Nat) (hj : j < G.length) (hx : G[j] = x) (hf : ∀ q, (h : q < j) → G[q]'(by omega) ≠ x) : G.erase x = G.take j ++ G.drop (j + 1) := by
  induction G generalizing j with
  | nil => simp at hj
  | cons a G ih =>
    rcases j with _ | j
    · simp at hx
      subst hx
      simp
    · have ha : a ≠ x := by simpa using hf 0 (by omega)
      rw [List.erase_cons_tail (by simpa using ha)]
      simp only [List.take_succ_cons, List.drop_succ_cons, List.cons_append]
      rw [ih j (by simpa using hj) (by simpa using hx) (fun q hq => by simpa using hf (q + 1) (by omega))]
theorem not_mem_of (G : List Int) (x : Int) (h : ∀ q, (h : q < G.length) → G[q] ≠ x) : x ∉ G := by
  intro hm
  obtain ⟨q, hq, he⟩ := List.getElem_of_mem hm
  exact h q hq he

/-- the counts, and the list of what is held -/
structure Same (rs H : List Int) : Prop where
  hin : ∀ x ∈ H, 0 ≤ x ∧ x < rs.length
  hc : ∀ j : Nat, j < rs.length → rs.getD j 0 = H.count (j : Int)
theorem same_zero (k : Nat) : Same (List.replicate k 0) [] := by
  refine ⟨by simp, fun j hj => ?_⟩
  simp at hj
  simp [List.getD, hj]
theorem Same.refs {rs H : List Int} (h : Same rs H) (p : Int) : refsL rs p = H.count p := by
  unfold refsL
  split
  · rename_i hp
    rw [h.hc p.toNat (by omega), show ((p.toNat : Nat) : Int) = p from by omega]
  · rename_i hp
    have : p ∉ H := fun hm => hp (h.hin p hm)
    rw [List.count_eq_zero_of_not_mem this]
    rfl
theorem Same.up {rs H r : List Int} {p : Int} (h : Same rs H) (hs : addStep 1 rs p = some r) : Same r (H ++ [p]) := by
  obtain ⟨hp, hg⟩ := addStep_is hs
  have hl := addStep_length hs
  refine ⟨fun x hx => ?_, fun j hj => ?_⟩
  · rw [hl]
    rcases List.mem_append.1 hx with hx | hx
    · exact h.hin x hx
    · rw [List.mem_singleton.1 hx]; exact hp
  · rw [hg j, h.hc j (by omega), List.count_append, List.count_singleton]
    by_cases hpj : p = (j : Int)
    · simp [hpj]
    · simp [hpj]
theorem Same.hold {rs H : List Int} (h : Same rs H) (l : List Int) : (∀ r, addL 1 rs l = some r → (∀ x ∈ l, 0 ≤ x ∧ x < rs.length) ∧ Same r (H ++ l)) := by
  induction l generalizing rs H with
  | nil =>
    intro r hr
    simp only [addL, Option.some.injEq] at hr
    subst hr
    exact ⟨by simp, by simpa using h⟩
  | cons p l ih =>
    intro r hr
    simp only [addL] at hr
    split at hr
    · rename_i r1 h1
      have hl := addStep_length h1
      obtain ⟨hp, _⟩ := addStep_is h1
      obtain ⟨h2, h3⟩ := ih (h.up h1) r hr
      refine ⟨fun x hx => ?_, by simpa using h3⟩
      rcases List.mem_cons.1 hx with rfl | hx
      · exact hp
      · rw [← hl]; exact h2 x hx
    · cases hr
theorem Same.hold_none {rs H : List Int} (h : Same rs H) (l : List Int) (hn : addL 1 rs l = none) : ∃ x ∈ l, ¬ (0 ≤ x ∧ x < rs.length) := by
  induction l generalizing rs H with
  | nil => simp [addL] at hn
  | cons p l ih =>
    simp only [addL] at hn
    split at hn
    · rename_i r1 h1
      obtain ⟨x, hx, hx2⟩ := ih (h.up h1) hn
      rw [addStep_length h1] at hx2
      exact ⟨x, List.mem_cons_of_mem _ hx, hx2⟩
    · rename_i h1
      refine ⟨p, List.mem_cons_self, fun hp => ?_⟩
      unfold addStep at h1
      rw [if_pos ⟨hp.1, hp.2, by rw [h.hc p.toNat (by omega)]; omega⟩] at h1
      cases h1
theorem Same.down {rs H r : List Int} {p : Int} (h : Same rs H) (hs : addStep (-1) rs p = some r) : p ∈ H ∧ Same r (H.erase p) := by
  obtain ⟨hp, hg⟩ := addStep_is hs
  have hl := addStep_length hs
  have hm : p ∈ H := by
    unfold addStep at hs
    split at hs
    · rename_i hc
      have h1 := h.hc p.toNat (by omega)
      rw [show ((p.toNat : Nat) : Int) = p from by omega] at h1
      have : 0 < H.count p := by omega
      exact List.count_pos_iff.1 this
    · cases hs
  refine ⟨hm, ⟨fun x hx => by rw [hl]; exact h.hin x (List.mem_of_mem_erase hx), fun j hj => ?_⟩⟩
  rw [hg j, h.hc j (by omega), List.count_erase]
  by_cases hpj : p = (j : Int)
  · have : 0 < H.count (j : Int) := List.count_pos_iff.2 (hpj ▸ hm)
    simp [hpj]
    omega
  · simp [hpj]
theorem Same.drop {rs H : List Int} (h : Same rs H) (l : List Int) : (∀ r, addL (-1) rs l = some r → ∃ H', dropL H l = some H' ∧ Same r H') := by
  induction l generalizing rs H with
  | nil =>
    intro r hr
    simp only [addL, Option.some.injEq] at hr
    subst hr
    exact ⟨H, rfl, h⟩
  | cons p l ih =>
    intro r hr
    simp only [addL] at hr
    split at hr
    · rename_i r1 h1
      obtain ⟨hm, hs⟩ := h.down h1
      obtain ⟨H', h2, h3⟩ := ih hs r hr
      exact ⟨H', by simp only [dropL]; rw [if_pos hm]; exact h2, h3⟩
    · cases hr
theorem Same.drop_none {rs H : List Int} (h : Same rs H) (l : List Int) (hn : addL (-1) rs l = none) : dropL H l = none := by
  induction l generalizing rs H with
  | nil => simp [addL] at hn
  | cons p l ih =>
    simp only [addL] at hn
    simp only [dropL]
    split at hn
    · rename_i r1 h1
      obtain ⟨hm, hs⟩ := h.down h1
      rw [if_pos hm]
      exact ih hs hn
    · rename_i h1
      rw [if_neg]
      intro hm
      have hp := h.hin p hm
      unfold addStep at h1
      have h2 := h.hc p.toNat (by omega)
      rw [show ((p.toNat : Nat) : Int) = p from by omega] at h2
      have : 0 < H.count p := List.count_pos_iff.2 hm
      rw [if_pos ⟨hp.1, hp.2, by omega⟩] at h1
      cases h1
theorem Same.take {rs H : List Int} {i : Nat} (h : Same rs H) (hi : i < rs.length) (h0 : rs.getD i 0 = 0) : Same (rs.set i 1) (H ++ [(i : Int)]) := by
  refine h.up (p := (i : Int)) ?_
  unfold addStep
  have e : ((i : Int)).toNat = i := by simp
  rw [if_pos ⟨by omega, by omega, by rw [e, h0]; decide⟩, e, h0]
  rfl
end Go.Proofs.Ytohlcopnifmjoae
