/- bus: the blocks that a call made, by a list. -/
import Derived.Test.YtohlcopnifmjoacRef
namespace Go.Proofs.Ytohlcopnifmjoac
open Go.RowKit

abbrev Ent := Nat × TypeId × Array Value
/-- the blocks of the list hold what it says; each is the call's own; what was before stands as it was -/
structure Own (w0 W : World) (bs : List Ent) : Prop where
  blk : ∀ e ∈ bs, Blk W e.1 e.2.1 e.2.2 ∧ w0.heap.size ≤ e.1
  nd : (bs.map (·.1)).Nodup
  hb : Below w0.heap.size w0 W
section
variable {w0 W W' : World} {bs : List Ent} {k : Nat} {g : Nat} {t : TypeId} {cs : Array Value}
theorem Own.nil (w : World) : Own w w [] := ⟨by simp, by simp, Below.refl _ _⟩
theorem Own.get (h : Own w0 W bs) (k : Nat) {g : Nat} {t : TypeId} {cs : Array Value} (hk : bs[k]? = some (g, t, cs)) : Blk W g t cs := (h.blk _ (List.mem_of_getElem? hk)).1
theorem Own.le (h : Own w0 W bs) (k : Nat) {g : Nat} {t : TypeId} {cs : Array Value} (hk : bs[k]? = some (g, t, cs)) : w0.heap.size ≤ g := (h.blk _ (List.mem_of_getElem? hk)).2
theorem Own.lt (h : Own w0 W bs) (k : Nat) {g : Nat} {t : TypeId} {cs : Array Value} (hk : bs[k]? = some (g, t, cs)) : g < W.heap.size := (h.get k hk).lt
theorem Own.cell (h : Own w0 W bs) (k i : Nat) {g : Nat} {t : TypeId} {cs : Array Value} {v : Value} (hk : bs[k]? = some (g, t, cs)) (hi : cs[i]? = some v) : W.cell? ⟨g, i, none⟩ = some v := ((h.get k hk).cell i).trans hi
theorem Own.frozen (h : Own w0 W bs) (k i : Nat) {g : Nat} {t : TypeId} {cs : Array Value} (hk : bs[k]? = some (g, t, cs)) : W.frozen? ⟨g, i, none⟩ = false := (h.get k hk).frozen i
theorem Own.ne (h : Own w0 W bs) (j k : Nat) {g g' : Nat} {t t' : TypeId} {cs cs' : Array Value} (hj : bs[j]? = some (g, t, cs)) (hk : bs[k]? = some (g', t', cs')) (hjk : j ≠ k) : g ≠ g' := by
  intro e
  have h1 : (bs.map (·.1))[j]? = some g := by simp [hj]
  have h2 : (bs.map (·.1))[k]? = some g := by simp [hk, e]
  have l1 := (List.getElem?_eq_some_iff.1 h1).1
  exact hjk ((List.getElem?_inj l1 h.nd).1 (h1.trans h2.symm))
theorem Own.over (h : Own w0 W bs) (hb : Below W.heap.size W W') : Own w0 W' bs :=
  ⟨fun e he => ⟨(h.blk e he).1.below hb (h.blk e he).1.lt, (h.blk e he).2⟩, h.nd, h.hb.trans (hb.mono h.hb.size)⟩
theorem Own.alloc (h : Own w0 W bs) (cs : Array Value) (t : TypeId) : Own w0 (W.alloc (.cells cs t)) (bs ++ [(W.heap.size, t, cs)]) := by
  have ho := h.over ((Below.refl W.heap.size W).alloc (Nat.le_refl _) (.cells cs t))
  refine ⟨fun e he => ?_, ?_, ho.hb⟩
  · rcases List.mem_append.1 he with he | he
    · exact ho.blk e he
    · rw [List.mem_singleton] at he
      subst he
      exact ⟨Blk.new W t cs, h.hb.size⟩
  · rw [List.map_append, List.nodup_append]
    refine ⟨h.nd, by simp, ?_⟩
    intro a ha b hb' e
    simp at hb'
    obtain ⟨x, hx, rfl⟩ := List.mem_map.1 ha
    have := (h.blk x hx).1.lt
    omega
theorem Own.set_ (h : Own w0 W bs) (k : Nat) {g : Nat} {t : TypeId} {cs : Array Value} (hk : bs[k]? = some (g, t, cs)) (i : Nat) (u : Value) : Own w0 (W.setCell ⟨g, i, none⟩ u) (bs.set k (g, t, cs.setIfInBounds i u)) := by
  have hkl := (List.getElem?_eq_some_iff.1 hk).1
  refine ⟨fun e he => ?_, ?_, h.hb.setCell (p := ⟨g, i, none⟩) (h.le k hk) u⟩
  · obtain ⟨j, hj⟩ := List.mem_iff_getElem?.1 he
    rw [List.getElem?_set] at hj
    split at hj
    · rename_i e1
      subst e1
      injection hj with hj
      subst hj
      exact ⟨(h.get k hk).set_ i u, h.le k hk⟩
    · rename_i e1
      obtain ⟨g', t', cs'⟩ := e
      exact ⟨(h.get j hj).far (p := ⟨g, i, none⟩) (h.ne j k hj hk (fun e => e1 e.symm)) u, h.le j hj⟩
  · have : (bs.set k (g, t, cs.setIfInBounds i u)).map (·.1) = bs.map (·.1) := by
      rw [List.map_set]
      refine List.ext_getElem? fun j => ?_
      rw [List.getElem?_set]
      split
      · rename_i e1
        subst e1
        simp [hk]
        exact hkl
      · rfl
    rw [this]
    exact h.nd
theorem Own.set3 (h : Own w0 W bs) (k : Nat) {g : Nat} {t : TypeId} {a b c : Value} (hk : bs[k]? = some (g, t, #[a, b, c])) (x y z : Value) : Own w0 (((W.setCell ⟨g, 0, none⟩ x).setCell ⟨g, 1, none⟩ y).setCell ⟨g, 2, none⟩ z) (bs.set k (g, t, #[x, y, z])) := by
  have hkl := (List.getElem?_eq_some_iff.1 hk).1
  have h1 := h.set_ k hk 0 x
  have k1 : (bs.set k (g, t, #[a, b, c].setIfInBounds 0 x))[k]? = some (g, t, #[x, b, c]) := by simp [hkl]
  have h2 := h1.set_ k k1 1 y
  have k2 : ((bs.set k (g, t, #[a, b, c].setIfInBounds 0 x)).set k (g, t, #[x, b, c].setIfInBounds 1 y))[k]? = some (g, t, #[x, y, c]) := by simp [hkl]
  have h3 := h2.set_ k k2 2 z
  simpa using h3
theorem Own.row_set {A : Option Addr} {n c : Nat} {L : List Int} (h : Own w0 W bs) (k : Nat) {g : Nat} {t : TypeId} {cs : Array Value} (hk : bs[k]? = some (g, t, cs)) (ht : t ≠ 3) (R : RRow W A n c L) (i : Nat) (u : Value) : RRow (W.setCell ⟨g, i, none⟩ u) A n c L := R.set_ (h.get k hk) ht i u
theorem Own.row_set3 {A : Option Addr} {n c' : Nat} {L : List Int} (h : Own w0 W bs) (k : Nat) {g : Nat} {t : TypeId} {a b c : Value} (hk : bs[k]? = some (g, t, #[a, b, c])) (ht : t ≠ 3) (R : RRow W A n c' L) (x y z : Value) : RRow (((W.setCell ⟨g, 0, none⟩ x).setCell ⟨g, 1, none⟩ y).setCell ⟨g, 2, none⟩ z) A n c' L := by
  have k1 := (h.get k hk).set_ 0 x
  have k2 := k1.set_ 1 y
  exact ((R.set_ (h.get k hk) ht 0 x).set_ k1 ht 1 y).set_ k2 ht 2 z
theorem Own.drew (h : Own w0 W bs) : Own w0 W.drew bs := h.over ⟨rfl, rfl, rfl, Nat.le_refl _, fun _ _ => rfl⟩
end
end Go.Proofs.Ytohlcopnifmjoac
