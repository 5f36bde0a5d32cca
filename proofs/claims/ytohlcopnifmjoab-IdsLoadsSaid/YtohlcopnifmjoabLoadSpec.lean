/- ids: what may be loaded, and what it becomes. Plain; no program. -/
import Derived.Test.YtohlcopnifmjoabSpec
namespace Go.Proofs.Ytohlcopnifmjoab

def slotAt (G : Int) (g fr : List Int) (k : Nat) : Int × Bool := (g.getD k 0, decide (g.getD k 0 < G ∧ (k : Int) ∉ fr))
def loadS (G : Int) (g fr : List Int) : Sl := (List.range g.length).map (slotAt G g fr)
theorem loadS_length (G : Int) (g fr : List Int) : (loadS G g fr).length = g.length := by simp [loadS]
theorem loadS_get {G : Int} {g fr : List Int} {k : Nat} (h : k < g.length) : (loadS G g fr)[k]? = some (slotAt G g fr k) := by simp [loadS, h]
theorem loadS_gens (G : Int) (g fr : List Int) : gensL (loadS G g fr) = g := by
  refine List.ext_getElem? fun k => ?_
  simp only [gensL, loadS, List.getElem?_map]
  rcases Nat.lt_or_ge k g.length with h | h
  · rw [List.getElem?_range h]
    simp [slotAt, h]
  · rw [List.getElem?_eq_none (by simpa using h), List.getElem?_eq_none h]
    rfl
/-- index k of the free ones may be loaded -/
def goodAt (G : Int) (g fr : List Int) (k : Nat) (i : Int) : Prop := 0 ≤ i ∧ i < g.length ∧ i ∉ fr.take k ∧ g.getD i.toNat 0 ≠ 0 ∧ g.getD i.toNat 0 < G
structure GoodL (E : Nat) (G : Int) (g fr : List Int) : Prop where
  len : g.length ≤ E
  gs : ∀ n ∈ g, 0 ≤ n ∧ n ≤ G
  fs : ∀ k i, fr[k]? = some i → goodAt G g fr k i
theorem loadS_step {G : Int} {g fr : List Int} {k q : Nat} (hq : fr[k]? = some (q : Int)) (hl : q < g.length) : loadS G g (fr.take (k + 1)) = (loadS G g (fr.take k)).set q (g.getD q 0, false) := by
  refine List.ext_getElem? fun j => ?_
  rw [List.getElem?_set, loadS_length]
  rcases Nat.lt_or_ge j g.length with h | h
  · rw [loadS_get h, loadS_get h]
    by_cases hj : q = j
    · subst hj
      rw [if_pos rfl, if_pos hl]
      have hm : ((q : Nat) : Int) ∈ fr.take (k + 1) := by
        rw [List.take_add_one, hq]
        simp
      simp [slotAt, hm]
    · rw [if_neg hj]
      have hm : ((j : Nat) : Int) ∈ fr.take (k + 1) ↔ (j : Int) ∈ fr.take k := by
        rw [List.take_add_one, hq]
        have : ¬ (j : Int) = q := by omega
        simp [this]
      simp only [slotAt, hm]
  · rw [List.getElem?_eq_none (by rw [loadS_length]; exact h), List.getElem?_eq_none (by rw [loadS_length]; exact h)]
    have : q ≠ j := by omega
    rw [if_neg this]
theorem GoodL.inv {E : Nat} {G : Int} {g fr : List Int} (h : GoodL E G g fr) (hE : 1 ≤ E) (hE1 : E ≤ 1024) (hG : 1 ≤ G) (hG1 : G ≤ 1073741824) : IInv E G (loadS G g fr) fr := by
  refine ⟨hG, hG1, hE, hE1, by rw [loadS_length]; exact h.len, fun k x hx => ?_, fun i hi => ?_, ?_⟩
  · have hk : k < g.length := by have := (List.getElem?_eq_some_iff.1 hx).1; rwa [loadS_length] at this
    rw [loadS_get hk] at hx
    injection hx with hx
    subst hx
    have hb := h.gs (g.getD k 0) (by rw [List.getD_eq_getElem?_getD, List.getElem?_eq_getElem hk]; simp)
    refine ⟨hb.1, hb.2, ?_⟩
    simp [slotAt]
  · obtain ⟨k, hk, rfl⟩ := List.getElem_of_mem hi
    obtain ⟨h0, h1, _, _, h4⟩ := h.fs k _ (List.getElem?_eq_getElem hk)
    exact ⟨fr[k].toNat, slotAt G g fr fr[k].toNat, by omega, loadS_get (by omega), h4⟩
  · rw [List.nodup_iff_pairwise_ne, List.pairwise_iff_getElem]
    intro a b ha hb hab e
    obtain ⟨_, _, h2, _, _⟩ := h.fs b _ (List.getElem?_eq_getElem hb)
    refine h2 (List.mem_iff_getElem?.2 ⟨a, ?_⟩)
    rw [List.getElem?_take, if_pos hab, List.getElem?_eq_getElem ha, e]
end Go.Proofs.Ytohlcopnifmjoab
