/- bus: names and bools that come in as arguments, opened. -/
import Derived.Test.YtohlcopnifmjoacStructs
import Derived.Test.YtohlcopnifmjoacNames
import Derived.OpenShut
namespace Go.Proofs.Ytohlcopnifmjoac
open Go.ChangeShapes Go.WideShapes Go.Deep Go.Joins Go.RowKit

structure Nms where
  A : Option Addr
  n : Nat
  c : Nat
  ss : List (Int × Int)
def Nms.v (s : Nms) : Value := .slice s.A s.n s.c
structure Nms.ok (w : World) (s : Nms) : Prop where
  hr : Reads w w.heap.size 2 s.A s.n (flatN s.ss)
  hn : s.n ≤ maxLen
structure Bls where
  A : Option Addr
  n : Nat
  c : Nat
  bs : List Bool
def Bls.v (s : Bls) : Value := .slice s.A s.n s.c
def boolV (bs : List Bool) : List Value := bs.map Value.bool
structure Bls.ok (w : World) (s : Bls) : Prop where
  hr : Reads w w.heap.size 1 s.A s.n (boolV s.bs)
  hn : s.n ≤ maxLen
theorem bools_at {w : World} {B n k : Nat} {A : Option Addr} {l : List Bool} (h : Reads w B 1 A n (boolV l)) (hk : k < n) : ∃ b off y, A = some ⟨b, off, none⟩ ∧ b < B ∧ w.cell? ⟨b, off + k, none⟩ = some (.bool y) := by
  have hl : l.length = n := by have := h.1; simp [boolV] at this; exact this
  obtain ⟨ad, e, hb, hc⟩ := h.2 (by omega)
  have hs := hc 0 (.bool l[0]) (by simp [boolV])
  obtain ⟨b, off, spot⟩ := ad
  have hspot : spot = none := by simpa [Addr.add] using World.cell?_spot hs
  subst hspot
  have g1 := hc k (.bool l[k]) (by simp [boolV])
  rw [add_flat] at g1
  exact ⟨b, off, l[k], e, hb, g1⟩
theorem cells28 : Try.prog.cellsOf 28 = 2 := by kernel_rfl
theorem cells4 : Try.prog.cellsOf 4 = 1 := by kernel_rfl
theorem cells3 : Try.prog.cellsOf 3 = 1 := by kernel_rfl
/-- an api.ID in two cells -/
theorem open_id_cells {H : Type} {enc : TypeId × Value → H} {W : World} {base n : Nat} {spare : Nat → Bool} {held : Bool} {c1 c2 : Value} {y : DataW H × List MemPlace} (h : DataW.trod enc Try.prog W base spare held n 28 [c1, c2] = some y) :
    ∃ a b : Int, c1 = .int .i64 a ∧ c2 = .int .i64 b := by
  obtain ⟨xs, m, _, _, _, hlen, hf⟩ := DataW.trod_struct Try.underlying28 h
  have h0 : DataW.trod enc Try.prog W base spare held m 3 (([c1, c2].drop 0).take (Try.prog.cellsOf 3)) = xs[0]? := hf 0 _ rfl
  have h1 : DataW.trod enc Try.prog W base spare held m 3 (([c1, c2].drop 1).take (Try.prog.cellsOf 3)) = xs[1]? := hf 1 _ rfl
  have hl : xs.length = 2 := hlen
  match xs, hl with
  | [x0, x1], _ =>
    rw [cells3] at h0 h1
    obtain ⟨q, eq, _, _⟩ := DataW.trod_int Try.underlying3 (by simpa using h0)
    obtain ⟨q', eq', _, _⟩ := DataW.trod_int Try.underlying3 (by simpa using h1)
    simp at eq eq'
    exact ⟨q, q', eq, eq'⟩


theorem open_names {H : Type} {enc : TypeId × Value → H} {W : World} {r : Reach} {b0 : Nat} {v : Value} {d : DataW H} {p : List MemPlace} {base : Nat} {spare : Nat → Bool} {held : Bool}
    (hv : Value.okWide Try.prog W r b0 22 v) (h : DataW.Trod enc Try.prog W base spare held 22 v d p) :
    ∃ s : Nms, v = s.v ∧ s.ok W := by
  obtain ⟨a0, n0, c0, rfl⟩ := okWide_slice Try.underlying22 hv
  obtain ⟨fuel, hf⟩ := h
  rcases open_slice Try.underlying22 hf with ⟨e4, _⟩ | ⟨a, len, cap, m, n, D, Pl, e4, _, hlc, hcm, hm, _, hq⟩
  · simp [Value.cells] at e4
    obtain ⟨rfl, rfl, rfl⟩ := e4
    exact ⟨⟨none, 0, 0, []⟩, rfl, ⟨⟨by simp [flatN], fun h => absurd h (by simp)⟩, by simp⟩⟩
  · simp [Value.cells] at e4
    obtain ⟨rfl, rfl, rfl⟩ := e4
    have hml : n0 ≤ m := by rw [hm]; split <;> omega
    obtain ⟨ss, hcl, hss⟩ := exists_list n0 (fun i (x : Int × Int) => W.cell? (a.add (i * 2)) = some (.int .i64 x.1) ∧ W.cell? (a.add (i * 2 + 1)) = some (.int .i64 x.2)) (fun i hi => by
      obtain ⟨cs', hc, ht'⟩ := hq i (by omega)
      rw [cells28] at hc
      obtain ⟨hlen, hcl, hat⟩ := World.cells?_some hc
      match cs', hcl with
      | [c0, c1], _ =>
        obtain ⟨q1, q2, rfl, rfl⟩ := open_id_cells ht'
        have a0 := hat 0 (by omega)
        have a1 := hat 1 (by omega)
        rw [Go.Deep.add_add] at a0 a1
        exact ⟨⟨q1, q2⟩, a0, a1⟩)
    refine ⟨⟨some a, n0, c0, ss⟩, rfl, ⟨⟨by rw [flatN_length, hcl], fun hpos => ⟨a, rfl, ?_, fun j u hu => ?_⟩⟩, by dsimp only; omega⟩⟩
    · have h0 := (hss 0 _ (List.getElem?_eq_getElem (by rw [hcl]; exact hpos))).1
      have := World.block_lt_of_cell? W _ h0
      rw [block_of_add] at this
      exact this
    · have hjl : j < ss.length * 2 := by
        have := (List.getElem?_eq_some_iff.1 hu).1
        rw [flatN_length] at this
        exact this
      have hk : j / 2 < ss.length := by omega
      have hg := flatN_get (k := j / 2) (List.getElem?_eq_getElem hk)
      have hc := hss (j / 2) _ (List.getElem?_eq_getElem hk)
      rcases Nat.mod_two_eq_zero_or_one j with h2 | h2
      · have ej : j / 2 * 2 = j := by omega
        rw [ej] at hg hc
        rw [hg.1] at hu
        injection hu with hu
        rw [← hu]
        exact hc.1
      · have ej : j / 2 * 2 + 1 = j := by omega
        rw [ej] at hg hc
        rw [hg.2] at hu
        injection hu with hu
        rw [← hu]
        exact hc.2
theorem open_bools {H : Type} {enc : TypeId × Value → H} {W : World} {r : Reach} {b0 : Nat} {v : Value} {d : DataW H} {p : List MemPlace} {base : Nat} {spare : Nat → Bool} {held : Bool}
    (hv : Value.okWide Try.prog W r b0 23 v) (h : DataW.Trod enc Try.prog W base spare held 23 v d p) :
    ∃ s : Bls, v = s.v ∧ s.ok W := by
  obtain ⟨a0, n0, c0, rfl⟩ := okWide_slice Try.underlying23 hv
  obtain ⟨fuel, hf⟩ := h
  rcases open_slice Try.underlying23 hf with ⟨e4, _⟩ | ⟨a, len, cap, m, n, D, Pl, e4, _, hlc, hcm, hm, _, hq⟩
  · simp [Value.cells] at e4
    obtain ⟨rfl, rfl, rfl⟩ := e4
    exact ⟨⟨none, 0, 0, []⟩, rfl, ⟨⟨by simp [boolV], fun h => absurd h (by simp)⟩, by simp⟩⟩
  · simp [Value.cells] at e4
    obtain ⟨rfl, rfl, rfl⟩ := e4
    have hml : n0 ≤ m := by rw [hm]; split <;> omega
    obtain ⟨ss, hcl, hss⟩ := exists_list n0 (fun i (x : Bool) => W.cell? (a.add i) = some (.bool x)) (fun i hi => by
      obtain ⟨cs', hc, ht'⟩ := hq i (by omega)
      rw [cells4] at hc
      obtain ⟨hlen, hcl, hat⟩ := World.cells?_some hc
      match cs', hcl with
      | [c0], _ =>
        obtain ⟨q, eq, _⟩ := DataW.trod_bool Try.underlying4 ht'
        simp at eq
        subst eq
        have a0 := hat 0 (by omega)
        rw [Go.Deep.add_add, Nat.mul_one, Nat.add_zero] at a0
        exact ⟨q, a0⟩)
    refine ⟨⟨some a, n0, c0, ss⟩, rfl, ⟨⟨by simp [boolV, hcl], fun hpos => ⟨a, rfl, ?_, fun j u hu => ?_⟩⟩, by dsimp only; omega⟩⟩
    · have h0 := hss 0 _ (List.getElem?_eq_getElem (by rw [hcl]; exact hpos))
      have := World.block_lt_of_cell? W _ h0
      rw [block_of_add] at this
      exact this
    · simp only [boolV, List.getElem?_map, Option.map_eq_some_iff] at hu
      obtain ⟨y, hy, rfl⟩ := hu
      exact hss j y hy
end Go.Proofs.Ytohlcopnifmjoac
