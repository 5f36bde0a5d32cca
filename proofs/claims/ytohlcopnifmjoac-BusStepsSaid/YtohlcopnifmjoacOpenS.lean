/- bus: a script of steps that comes in, opened. -/
import Derived.Test.YtohlcopnifmjoacOpen
import Derived.Test.YtohlcopnifmjoacDo
import Derived.OpenShut
namespace Go.Proofs.Ytohlcopnifmjoac
open Go.ChangeShapes Go.WideShapes Go.Deep Go.Joins Go.RowKit

structure Step where
  d : Int
  two : Bool
  v : Int
structure Stp where
  A : Option Addr
  n : Nat
  c : Nat
  ss : List Step
def Stp.v (s : Stp) : Value := .slice s.A s.n s.c
structure Stp.ok (w : World) (s : Stp) : Prop where
  hl : s.ss.length = s.n
  hn : s.n ≤ maxLen
  hs : 0 < s.n → ∃ b off, s.A = some ⟨b, off, none⟩ ∧ b < w.heap.size ∧ ∀ (k : Nat) (x : Step), s.ss[k]? = some x → w.cell? ⟨b, off + k * 3, none⟩ = some (.int .i64 x.d) ∧ w.cell? ⟨b, off + k * 3 + 1, none⟩ = some (.bool x.two) ∧ w.cell? ⟨b, off + k * 3 + 2, none⟩ = some (.int .i64 x.v)
theorem Stp.ok.at_ {w : World} {s : Stp} (h : s.ok w) {k : Nat} (hk : k < s.n) : ∃ (b off : Nat) (x : Step), s.A = some ⟨b, off, none⟩ ∧ b < w.heap.size ∧ w.cell? ⟨b, off + k * 3, none⟩ = some (.int .i64 x.d) ∧ w.cell? ⟨b, off + k * 3 + 1, none⟩ = some (.bool x.two) ∧ w.cell? ⟨b, off + k * 3 + 2, none⟩ = some (.int .i64 x.v) := by
  obtain ⟨b, off, e, hb, hc⟩ := h.hs (by omega)
  have hl := h.hl
  exact ⟨b, off, s.ss[k], e, hb, hc k _ (List.getElem?_eq_getElem (by omega))⟩
theorem cells47 : Try.prog.cellsOf 47 = 3 := by kernel_rfl
/-- a step in three cells -/
theorem open_step_cells {H : Type} {enc : TypeId × Value → H} {W : World} {base n : Nat} {spare : Nat → Bool} {held : Bool} {c1 c2 c3 : Value} {y : DataW H × List MemPlace} (h : DataW.trod enc Try.prog W base spare held n 47 [c1, c2, c3] = some y) :
    ∃ x : Step, c1 = .int .i64 x.d ∧ c2 = .bool x.two ∧ c3 = .int .i64 x.v := by
  obtain ⟨xs, m, _, _, _, hlen, hf⟩ := DataW.trod_struct Try.underlying47 h
  have h0 : DataW.trod enc Try.prog W base spare held m 3 (([c1, c2, c3].drop 0).take (Try.prog.cellsOf 3)) = xs[0]? := hf 0 _ rfl
  have h1 : DataW.trod enc Try.prog W base spare held m 4 (([c1, c2, c3].drop 1).take (Try.prog.cellsOf 4)) = xs[1]? := hf 1 _ rfl
  have h2 : DataW.trod enc Try.prog W base spare held m 3 (([c1, c2, c3].drop 2).take (Try.prog.cellsOf 3)) = xs[2]? := hf 2 _ rfl
  have hl : xs.length = 3 := hlen
  match xs, hl with
  | [x0, x1, x2], _ =>
    rw [cells3] at h0 h2
    rw [cells4] at h1
    obtain ⟨q, eq, _, _⟩ := DataW.trod_int Try.underlying3 (by simpa using h0)
    obtain ⟨q', eq', _⟩ := DataW.trod_bool Try.underlying4 (by simpa using h1)
    obtain ⟨q'', eq'', _, _⟩ := DataW.trod_int Try.underlying3 (by simpa using h2)
    simp at eq eq' eq''
    exact ⟨⟨q, q', q''⟩, eq, eq', eq''⟩

theorem open_steps {H : Type} {enc : TypeId × Value → H} {W : World} {r : Reach} {b0 : Nat} {v : Value} {d : DataW H} {p : List MemPlace} {base : Nat} {spare : Nat → Bool} {held : Bool}
    (hv : Value.okWide Try.prog W r b0 36 v) (h : DataW.Trod enc Try.prog W base spare held 36 v d p) :
    ∃ s : Stp, v = s.v ∧ s.ok W := by
  obtain ⟨a0, n0, c0, rfl⟩ := okWide_slice Try.underlying36 hv
  obtain ⟨fuel, hf⟩ := h
  rcases open_slice Try.underlying36 hf with ⟨e4, _⟩ | ⟨a, len, cap, m, n, D, Pl, e4, _, hlc, hcm, hm, _, hq⟩
  · simp [Value.cells] at e4
    obtain ⟨rfl, rfl, rfl⟩ := e4
    exact ⟨⟨none, 0, 0, []⟩, rfl, ⟨rfl, by simp, fun h => absurd h (by simp)⟩⟩
  · simp [Value.cells] at e4
    obtain ⟨rfl, rfl, rfl⟩ := e4
    have hml : n0 ≤ m := by rw [hm]; split <;> omega
    obtain ⟨ss, hcl, hss⟩ := exists_list n0 (fun i (x : Step) => W.cell? (a.add (i * 3)) = some (.int .i64 x.d) ∧ W.cell? (a.add (i * 3 + 1)) = some (.bool x.two) ∧ W.cell? (a.add (i * 3 + 2)) = some (.int .i64 x.v)) (fun i hi => by
      obtain ⟨cs', hc, ht'⟩ := hq i (by omega)
      rw [cells47] at hc
      obtain ⟨hlen, hcl, hat⟩ := World.cells?_some hc
      match cs', hcl with
      | [c0, c1, c2], _ =>
        obtain ⟨x, rfl, rfl, rfl⟩ := open_step_cells ht'
        have a0 := hat 0 (by omega)
        have a1 := hat 1 (by omega)
        have a2 := hat 2 (by omega)
        rw [Go.Deep.add_add] at a0 a1 a2
        exact ⟨x, a0, a1, a2⟩)
    refine ⟨⟨some a, n0, c0, ss⟩, rfl, ⟨hcl, by dsimp only; omega, fun hpos => ?_⟩⟩
    dsimp only at hpos
    have h0 := (hss 0 _ (List.getElem?_eq_getElem (by rw [hcl]; exact hpos))).1
    have hb := World.block_lt_of_cell? W _ h0
    rw [block_of_add] at hb
    obtain ⟨b, off, spot⟩ := a
    have hspot : spot = none := by simpa [Addr.add] using World.cell?_spot h0
    subst hspot
    refine ⟨b, off, rfl, hb, fun k x hx => ?_⟩
    have := hss k x hx
    rw [add_flat, add_flat, add_flat, ← Nat.add_assoc, ← Nat.add_assoc] at this
    exact this
end Go.Proofs.Ytohlcopnifmjoac
