/- ids: a script that comes in as an argument, opened. -/
import Derived.Test.YtohlcopnifmjoabStructs
import Derived.Test.YtohlcopnifmjoabBase
import Derived.OpenShut
namespace Go.Proofs.Ytohlcopnifmjoab
open Go.ChangeShapes Go.WideShapes Go.Deep Go.Joins Go.RowKit

structure StV where
  gv : Bool
  i : Int
  g : Int
def flatS (ss : List StV) : List Value := ss.flatMap fun s => [.bool s.gv, .int .i64 s.i, .int .i64 s.g]
structure Stp where
  A : Option Addr
  n : Nat
  c : Nat
  ss : List StV
def Stp.v (s : Stp) : Value := .slice s.A s.n s.c
structure Stp.ok (w : World) (s : Stp) : Prop where
  hr : Reads w w.heap.size 3 s.A s.n (flatS s.ss)
  hn : s.n ≤ maxLen
theorem flatS_length (ss : List StV) : (flatS ss).length = ss.length * 3 := by
  induction ss with
  | nil => rfl
  | cons x cs ih => simp [flatS] at ih ⊢; omega
theorem flatS_get (ss : List StV) (k : Nat) (hk : k < ss.length) : (flatS ss)[k * 3]? = some (.bool ss[k].gv) ∧ (flatS ss)[k * 3 + 1]? = some (.int .i64 ss[k].i) ∧ (flatS ss)[k * 3 + 2]? = some (.int .i64 ss[k].g) := by
  induction ss generalizing k with
  | nil => simp at hk
  | cons x cs ih =>
    rcases k with _ | k
    · simp [flatS]
    · have := ih k (by simpa using hk)
      simp only [flatS, List.flatMap_cons] at this ⊢
      rw [show (k + 1) * 3 = k * 3 + 3 from by omega]
      simpa using this
theorem Stp.ok.len {w : World} {s : Stp} (h : s.ok w) : s.ss.length = s.n := by
  have := h.hr.1
  rw [flatS_length] at this
  omega
theorem Stp.ok.over {w w' : World} {s : Stp} (h : s.ok w) (hb : Below w.heap.size w w') : s.ok w' := ⟨h.hr.over hb, h.hn⟩
theorem Stp.ok.at_ {w : World} {s : Stp} (h : s.ok w) {k : Nat} (hk : k < s.n) : ∃ b off x, s.A = some ⟨b, off, none⟩ ∧ b < w.heap.size ∧ s.ss[k]? = some x ∧ w.cell? ⟨b, off + k * 3, none⟩ = some (.bool x.gv) ∧ w.cell? ⟨b, off + k * 3 + 1, none⟩ = some (.int .i64 x.i) ∧ w.cell? ⟨b, off + k * 3 + 2, none⟩ = some (.int .i64 x.g) := by
  obtain ⟨ad, e, hb, hc⟩ := h.hr.2 (by omega)
  have hl : k < s.ss.length := by rw [h.len]; exact hk
  have h0 := flatS_get s.ss 0 (by omega)
  have := flatS_get s.ss k hl
  have hs := hc 0 _ (by simpa using h0.1)
  obtain ⟨b, off, spot⟩ := ad
  have hspot : spot = none := by simpa [Addr.add] using World.cell?_spot hs
  subst hspot
  have g1 := hc _ _ this.1
  have g2 := hc _ _ this.2.1
  have g3 := hc _ _ this.2.2
  rw [add_flat] at g1 g2 g3
  exact ⟨b, off, s.ss[k], e, hb, List.getElem?_eq_getElem hl, g1, g2, g3⟩

theorem cells32 : Try.prog.cellsOf 32 = 3 := by kernel_rfl
theorem cells28 : Try.prog.cellsOf 28 = 2 := by kernel_rfl
theorem cells4 : Try.prog.cellsOf 4 = 1 := by kernel_rfl
theorem cells3 : Try.prog.cellsOf 3 = 1 := by kernel_rfl
/-- an api.ID in two cells -/
theorem open_id_cells {H : Type} {enc : TypeId × Value → H} {W : World} {base n : Nat} {spare : Nat → Bool} {held : Bool} {c1 c2 : Value} {y : DataW H × List MemPlace} (h : DataW.trod enc Try.prog W base spare held n 28 [c1, c2] = some y) :
    ∃ a b : Int, c1 = .int .i64 a ∧ c2 = .int .i64 b := by
  obtain ⟨xs, m, _, _, _, hlen, hf⟩ := DataW.trod_struct Try.underlying28 h
  have h0 : DataW.trod enc Try.prog W base spare held m 3 (([c1, c2].drop 0).take (Try.prog.cellsOf 3)) = xs[0]? := hf 0 _ rfl
  have h1 : DataW.trod enc Try.prog W base spare held m 3 (([c1, c2].drop 1).take (Try.prog.cellsOf 3)) = xs[1]? := hf 1 _ rfl
  have hl : xs.length = 2 := hlen
  match xs, hl with
  | [x0, x1], _ =>
    rw [cells3] at h0 h1
    obtain ⟨q, eq, _, _⟩ := DataW.trod_int Try.underlying3 (by simpa using h0)
    obtain ⟨q', eq', _, _⟩ := DataW.trod_int Try.underlying3 (by simpa using h1)
    simp at eq eq'
    exact ⟨q, q', eq, eq'⟩

theorem open_id {H : Type} {enc : TypeId × Value → H} {W : World} {r : Reach} {b0 : Nat} {v : Value} {d : DataW H} {p : List MemPlace} {base : Nat} {spare : Nat → Bool} {held : Bool}
    (hv : Value.okWide Try.prog W r b0 28 v) (h : DataW.Trod enc Try.prog W base spare held 28 v d p) : ∃ i g : Int, v = .agg #[.int .i64 i, .int .i64 g] := by
  obtain ⟨cs, rfl, hsz⟩ := okWide_struct Try.underlying28 hv
  obtain ⟨l⟩ := cs
  match l, hsz.trans cells28 with
  | [c0, c1], _ =>
    obtain ⟨fuel, hf⟩ := h
    obtain ⟨a, b, rfl, rfl⟩ := open_id_cells (by simpa [Value.cells] using hf)
    exact ⟨a, b, rfl⟩
theorem open_steps {H : Type} {enc : TypeId × Value → H} {W : World} {r : Reach} {b0 : Nat} {v : Value} {d : DataW H} {p : List MemPlace} {base : Nat} {spare : Nat → Bool} {held : Bool}
    (hv : Value.okWide Try.prog W r b0 22 v) (h : DataW.Trod enc Try.prog W base spare held 22 v d p) :
    ∃ s : Stp, v = s.v ∧ s.ok W := by
  obtain ⟨a0, n0, c0, rfl⟩ := okWide_slice Try.underlying22 hv
  obtain ⟨fuel, hf⟩ := h
  rcases open_slice Try.underlying22 hf with ⟨e4, _⟩ | ⟨a, len, cap, m, n, D, Pl, e4, _, hlc, hcm, hm, _, hq⟩
  · simp [Value.cells] at e4
    obtain ⟨rfl, rfl, rfl⟩ := e4
    exact ⟨⟨none, 0, 0, []⟩, rfl, ⟨⟨by simp [flatS], fun h => absurd h (by simp)⟩, by simp⟩⟩
  · simp [Value.cells] at e4
    obtain ⟨rfl, rfl, rfl⟩ := e4
    have hml : n0 ≤ m := by rw [hm]; split <;> omega
    obtain ⟨ss, hcl, hss⟩ := exists_list n0 (fun i (x : StV) => W.cell? (a.add (i * 3)) = some (.bool x.gv) ∧ W.cell? (a.add (i * 3 + 1)) = some (.int .i64 x.i) ∧ W.cell? (a.add (i * 3 + 2)) = some (.int .i64 x.g)) (fun i hi => by
      obtain ⟨cs', hc, ht'⟩ := hq i (by omega)
      rw [cells32] at hc
      obtain ⟨xs, n', _, _, hlen, hyl, hfx⟩ := DataW.trod_struct Try.underlying32 ht'
      obtain ⟨_, hcl, hat⟩ := World.cells?_some hc
      rw [cells32] at hlen
      match cs', hlen with
      | [c0, c1, c2], _ =>
        have h0 : DataW.trod enc Try.prog W base spare held n' 4 (([c0, c1, c2].drop 0).take (Try.prog.cellsOf 4)) = xs[0]? := hfx 0 _ rfl
        have h1 : DataW.trod enc Try.prog W base spare held n' 28 (([c0, c1, c2].drop 1).take (Try.prog.cellsOf 28)) = xs[1]? := hfx 1 _ rfl
        have hl2 : xs.length = 2 := hyl
        match xs, hl2 with
        | [x0, x1], _ =>
          rw [cells4] at h0
          rw [cells28] at h1
          have h0' : DataW.trod enc Try.prog W base spare held n' 4 [c0] = some x0 := by simpa using h0
          have h1' : DataW.trod enc Try.prog W base spare held n' 28 [c1, c2] = some x1 := by simpa using h1
          obtain ⟨q, eq, _⟩ := DataW.trod_bool Try.underlying4 h0'
          simp at eq
          obtain ⟨q1, q2, rfl, rfl⟩ := open_id_cells h1'
          subst eq
          have a0 := hat 0 (by omega)
          have a1 := hat 1 (by omega)
          have a2 := hat 2 (by omega)
          rw [Go.Deep.add_add] at a0 a1 a2
          exact ⟨⟨q, q1, q2⟩, a0, a1, a2⟩)
    refine ⟨⟨some a, n0, c0, ss⟩, rfl, ⟨⟨by rw [flatS_length, hcl], fun hpos => ⟨a, rfl, ?_, fun j u hu => ?_⟩⟩, by dsimp only; omega⟩⟩
    · have h0 := (hss 0 _ (List.getElem?_eq_getElem (by rw [hcl]; exact hpos))).1
      have := World.block_lt_of_cell? W _ h0
      rw [block_of_add] at this
      exact this
    · have hjl : j < ss.length * 3 := by
        have := (List.getElem?_eq_some_iff.1 hu).1
        rw [flatS_length] at this
        exact this
      have hk : j / 3 < ss.length := by omega
      have hg := flatS_get ss (j / 3) hk
      have hc := hss (j / 3) _ (List.getElem?_eq_getElem hk)
      have h3 : j % 3 = 0 ∨ j % 3 = 1 ∨ j % 3 = 2 := by omega
      rcases h3 with h3 | h3 | h3
      · have ej : j / 3 * 3 = j := by omega
        rw [ej] at hg hc
        rw [hg.1] at hu
        injection hu with hu
        rw [← hu]
        exact hc.1
      · have ej : j / 3 * 3 + 1 = j := by omega
        rw [ej] at hg hc
        rw [hg.2.1] at hu
        injection hu with hu
        rw [← hu]
        exact hc.2.1
      · have ej : j / 3 * 3 + 2 = j := by omega
        rw [ej] at hg hc
        rw [hg.2.2] at hu
        injection hu with hu
        rw [← hu]
        exact hc.2.2
end Go.Proofs.Ytohlcopnifmjoab
