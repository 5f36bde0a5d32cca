/- A script that comes in as an argument, opened. -/
import Derived.Test.YtohlcopnifmjoaeStructs
import Derived.Test.YtohlcopnifmjoaeScript
import Derived.OpenShut
namespace Go.Proofs.Ytohlcopnifmjoae
open Go.ChangeShapes Go.WideShapes Go.Deep Go.Joins Go.RowKit

theorem cells35 : Try.prog.cellsOf 35 = 2 := by kernel_rfl
/-- a slice of integers in a cell -/
theorem open_ints_cell {H : Type} {enc : TypeId × Value → H} {W : World} {base n : Nat} {spare : Nat → Bool} {held : Bool} {v : Value} {y : DataW H × List MemPlace} (h : DataW.trod enc Try.prog W base spare held n 27 [v] = some y) :
    ∃ A m c l, v = .slice A m c ∧ Reads W W.heap.size 1 A m (ints l) ∧ m ≤ maxLen ∧ m ≤ c ∧ ∀ x ∈ l, i64ok x := by
  rcases open_ints Try.underlying27 Try.underlying3 (by kernel_rfl) h with ⟨e, _⟩ | ⟨a, len, cap, zs, e, _, hl, hm, hz, _, hc, hw⟩
  · simp at e
    subst e
    exact ⟨none, 0, 0, [], rfl, ⟨by simp [ints], fun h => absurd h (by omega)⟩, by simp, by simp, by simp⟩
  · simp at e
    subst e
    have hlen : len ≤ zs.length := by rw [hz]; split <;> omega
    refine ⟨some a, len, cap, zs.take len, rfl, ⟨by simp [ints]; omega, fun h => ⟨a, rfl, ?_, fun j u hu => ?_⟩⟩, by omega, hl, fun x hx => bounds_i64 (hw x (List.mem_of_mem_take hx))⟩
    · have := World.block_lt_of_cell? W _ (hc 0 (by omega))
      rw [block_of_add] at this
      exact this
    · simp only [ints, List.getElem?_map, Option.map_eq_some_iff] at hu
      obtain ⟨q, hq, rfl⟩ := hu
      rw [List.getElem?_take] at hq
      split at hq
      · have hj : j < zs.length := by omega
        rw [hc j hj]
        rw [List.getElem?_eq_getElem hj] at hq
        simp only [Option.some.injEq] at hq
        rw [List.getD_eq_getElem?_getD, List.getElem?_eq_getElem hj]
        simp [hq]
      · cases hq

theorem open_steps {H : Type} {enc : TypeId × Value → H} {W : World} {r : Reach} {b0 : Nat} {v : Value} {d : DataW H} {p : List MemPlace} {base : Nat} {spare : Nat → Bool} {held : Bool}
    (hv : Value.okWide Try.prog W r b0 22 v) (h : DataW.Trod enc Try.prog W base spare held 22 v d p) :
    ∃ s : Stp, v = s.v ∧ s.ok W := by
  obtain ⟨a0, n0, c0, rfl⟩ := okWide_slice Try.underlying22 hv
  obtain ⟨fuel, hf⟩ := h
  rcases open_slice_fields Try.underlying22 Try.underlying35 (by kernel_rfl) cells35 hf with ⟨e4, _⟩ | ⟨a, len, cap, m, D, Pl, e4, _, hlc, hcm, hm, _, hq⟩
  · simp [Value.cells] at e4
    obtain ⟨rfl, rfl, rfl⟩ := e4
    exact ⟨⟨none, 0, 0, []⟩, rfl, ⟨⟨by simp [flatS], fun h => absurd h (by simp)⟩, by simp, by simp⟩⟩
  · simp [Value.cells] at e4
    obtain ⟨rfl, rfl, rfl⟩ := e4
    have hml : n0 ≤ m := by rw [hm]; split <;> omega
    obtain ⟨ss, hcl, hss⟩ := exists_list n0 (fun i (x : StV) => W.cell? (a.add (i * 2)) = some (.int .i64 x.act) ∧ W.cell? (a.add (i * 2 + 1)) = some (.slice x.A x.n x.c) ∧ i64ok x.act ∧ Reads W W.heap.size 1 x.A x.n (ints x.l) ∧ x.n ≤ maxLen) (fun i hi => by
      obtain ⟨ys, k, _, _, _, hj⟩ := hq i (by omega)
      obtain ⟨v0, z0, hc0, _, ht0⟩ := hj 0 _ rfl
      obtain ⟨v1, z1, hc1, _, ht1⟩ := hj 1 _ rfl
      obtain ⟨q, eq, _, wq⟩ := DataW.trod_int Try.underlying3 ht0
      simp at eq
      subst eq
      obtain ⟨A, mm, c, l, rfl, hr, hmm, _, _⟩ := open_ints_cell ht1
      exact ⟨⟨q, A, mm, c, l⟩, hc0, hc1, bounds_i64 wq, hr, hmm⟩)
    refine ⟨⟨some a, n0, c0, ss⟩, rfl, ⟨⟨by rw [flatS_length, hcl], fun hpos => ⟨a, rfl, ?_, fun j u hu => ?_⟩⟩, by dsimp only; omega, fun x hx => ?_⟩⟩
    · have h0 := (hss 0 _ (List.getElem?_eq_getElem (by rw [hcl]; exact hpos))).1
      have := World.block_lt_of_cell? W _ h0
      rw [block_of_add] at this
      exact this
    · have hjl : j < ss.length * 2 := by
        have := (List.getElem?_eq_some_iff.1 hu).1
        rw [flatS_length] at this
        exact this
      have hk : j / 2 < ss.length := by omega
      have hg := flatS_get ss (j / 2) hk
      have hc := hss (j / 2) _ (List.getElem?_eq_getElem hk)
      rcases Nat.mod_two_eq_zero_or_one j with h2 | h2
      · have ej : j / 2 * 2 = j := by omega
        rw [ej] at hg hc
        rw [hg.1] at hu
        injection hu with hu
        rw [← hu]
        exact hc.1
      · have ej : j / 2 * 2 + 1 = j := by omega
        rw [ej] at hg hc
        rw [hg.2] at hu
        injection hu with hu
        rw [← hu]
        exact hc.2.1
    · obtain ⟨i, hi, rfl⟩ := List.getElem_of_mem hx
      exact (hss i _ (List.getElem?_eq_getElem hi)).2.2
end Go.Proofs.Ytohlcopnifmjoae
