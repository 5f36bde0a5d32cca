/- A layout that comes in as an argument, opened. -/
import Derived.Test.YtohlcopnifmjoadStructs
import Derived.Test.YtohlcopnifmjoadComp
import Derived.OpenShut
namespace Go.Proofs.Ytohlcopnifmjoad
open Go.ChangeShapes Go.WideShapes Go.Deep Go.Joins Go.RowKit

theorem cells24 : Try.prog.cellsOf 24 = 5 := by kernel_rfl
theorem cells36 : Try.prog.cellsOf 36 = 2 := by kernel_rfl

theorem open_conf {H : Type} {enc : TypeId × Value → H} {W : World} {r : Reach} {b0 : Nat} {v : Value} {d : DataW H} {p : List MemPlace} {base : Nat} {spare : Nat → Bool} {held : Bool}
    (hv : Value.okWide Try.prog W r b0 24 v) (h : DataW.Trod enc Try.prog W base spare held 24 v d p) :
    ∃ c : Cnf, v = c.v ∧ c.ok W := by
  obtain ⟨u0, u1, u2, u3, u4, y0, y1, y2, y3, y4, n, rfl, _, _, t0, t1, t2, t3, t4⟩ := open_agg5 Try.underlying24 (by kernel_rfl) cells24 hv h
  obtain ⟨a0, e0, _, w0⟩ := DataW.trod_int Try.underlying3 t0
  obtain ⟨a1, e1, _, w1⟩ := DataW.trod_int Try.underlying3 t1
  obtain ⟨a2, e2, _, w2⟩ := DataW.trod_int Try.underlying3 t2
  obtain ⟨a3, e3, _, w3⟩ := DataW.trod_int Try.underlying3 t3
  simp at e0 e1 e2 e3
  subst e0 e1 e2 e3
  have g0 := bounds_i64 w0
  have g1 := bounds_i64 w1
  have g2 := bounds_i64 w2
  have g3 := bounds_i64 w3
  rcases open_slice_fields Try.underlying22 Try.underlying36 (by kernel_rfl) cells36 t4 with ⟨e4, _⟩ | ⟨a, len, cap, m, D, Pl, e4, _, hlc, hcm, hm, _, hf⟩
  · simp at e4
    subst e4
    exact ⟨⟨a0, a1, a2, a3, none, 0, 0, []⟩, rfl, ⟨⟨by simp [flat], fun h => absurd h (by simp)⟩, by simp, by simp, g0, g1, g2, g3, by simp⟩⟩
  · simp at e4
    subst e4
    have hml : len ≤ m := by rw [hm]; split <;> omega
    obtain ⟨cs, hcl, hcs⟩ := exists_list len (fun i (x : Cmp) => W.cell? (a.add (i * 2)) = some (.string x.name) ∧ W.cell? (a.add (i * 2 + 1)) = some (.int .i64 x.size) ∧ x.name.size ≤ maxLen ∧ i64ok x.size) (fun i hi => by
      obtain ⟨ys, k, _, _, _, hj⟩ := hf i (by omega)
      obtain ⟨v0, z0, hc0, _, ht0⟩ := hj 0 _ rfl
      obtain ⟨v1, z1, hc1, _, ht1⟩ := hj 1 _ rfl
      obtain ⟨s, es, _, hs⟩ := DataW.trod_string Try.underlying9 ht0
      obtain ⟨q, eq, _, wq⟩ := DataW.trod_int Try.underlying3 ht1
      simp at es eq
      subst es eq
      exact ⟨⟨s, q⟩, hc0, hc1, hs, bounds_i64 wq⟩)
    refine ⟨⟨a0, a1, a2, a3, some a, len, cap, cs⟩, rfl, ⟨⟨by rw [flat_length, hcl], fun hpos => ⟨a, rfl, ?_, fun j u hu => ?_⟩⟩, by dsimp only; omega, hlc, g0, g1, g2, g3, fun x hx => ?_⟩⟩
    · have h0 := (hcs 0 _ (List.getElem?_eq_getElem (by rw [hcl]; exact hpos))).1
      have := World.block_lt_of_cell? W _ h0
      rw [block_of_add] at this
      exact this
    · have hjl : j < cs.length * 2 := by
        have := (List.getElem?_eq_some_iff.1 hu).1
        rw [flat_length] at this
        exact this
      have hk : j / 2 < cs.length := by omega
      have hg := flat_get cs (j / 2) hk
      have hc := hcs (j / 2) _ (List.getElem?_eq_getElem hk)
      rcases Nat.mod_two_eq_zero_or_one j with h2 | h2
      · have ej : j / 2 * 2 = j := by omega
        rw [ej] at hg hc
        rw [hg.1] at hu
        injection hu with hu
        rw [← hu]
        exact hc.1
      · have ej : j / 2 * 2 + 1 = j := by omega
        rw [ej] at hg hc
        rw [hg.2] at hu
        injection hu with hu
        rw [← hu]
        exact hc.2.1
    · obtain ⟨i, hi, rfl⟩ := List.getElem_of_mem hx
      exact (hcs i _ (List.getElem?_eq_getElem hi)).2.2
end Go.Proofs.Ytohlcopnifmjoad
