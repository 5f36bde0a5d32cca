/- alloc: what holds between the steps, the object beside the reference. -/
import Derived.Test.YtohlcopnifmjoaeRefGo
namespace Go.Proofs.Ytohlcopnifmjoae
open Go.RowKit

/-- the object at ga; the reference's variable at gr, which bears the row (A1, n1, c1); a row (A2, n2) that reads H -/
structure InvW (w wr : World) (N ga gr : Nat) (rs : List Int) (A1 : Option Addr) (n1 c1 : Nat) (A2 : Option Addr) (n2 : Nat) (H : List Int) : Prop where
  obj : ∃ g c, AObj wr w.heap.size ga g c rs ∧ Away A2 n2 g
  blk : Blk wr gr 29 #[.int .i64 N, .slice A1 n1 c1]
  reads : Reads wr wr.heap.size 1 A2 n2 (ints H)
  aga : Away A2 n2 ga
  agr : Away A2 n2 gr
  hgr : w.heap.size ≤ gr
  below : Below w.heap.size w wr
section
variable {w wr w' : World} {N ga gr : Nat} {rs rs' : List Int} {A1 A2 : Option Addr} {n1 c1 n2 : Nat} {H : List Int}
theorem AObj.ne29 {B g c k : Nat} {cs : Array Value} (h : AObj wr B ga g c rs) (hb : Blk wr k 29 cs) : ga ≠ k ∧ g ≠ k := by
  refine ⟨h.hg.ne_ hb (by decide), fun e => ?_⟩
  have := own_blk_ne h.ho hb (by decide)
  apply this
  rw [← e]; rfl
theorem InvW.over (h : InvW w wr N ga gr rs A1 n1 c1 A2 n2 H) (hb : Below wr.heap.size wr w') : InvW w w' N ga gr rs A1 n1 c1 A2 n2 H := by
  obtain ⟨g, c, ho, ha⟩ := h.obj
  exact ⟨⟨g, c, ho.over hb, ha⟩, h.blk.below hb h.blk.lt, h.reads.over hb, h.aga, h.agr, h.hgr, h.below.trans (hb.mono h.below.size)⟩
theorem InvW.drewN (h : InvW w wr N ga gr rs A1 n1 c1 A2 n2 H) (d : Nat) : InvW w (wr.drewN d) N ga gr rs A1 n1 c1 A2 n2 H := h.over ⟨rfl, rfl, rfl, Nat.le_refl _, fun _ _ => rfl⟩
theorem InvW.drew (h : InvW w wr N ga gr rs A1 n1 c1 A2 n2 H) : InvW w wr.drew N ga gr rs A1 n1 c1 A2 n2 H := h.over ⟨rfl, rfl, rfl, Nat.le_refl _, fun _ _ => rfl⟩
theorem InvW.alloc (h : InvW w wr N ga gr rs A1 n1 c1 A2 n2 H) (o : Obj) : InvW w (wr.alloc o) N ga gr rs A1 n1 c1 A2 n2 H := h.over ((Below.refl _ _).alloc (Nat.le_refl _) _)
/-- the object's operation -/
theorem InvW.post {g c : Nat} {v : Value} {e : Ending} (h : InvW w wr N ga gr rs A1 n1 c1 A2 n2 H) (ho : AObj wr w.heap.size ga g c rs) (ha : Away A2 n2 g) (hp : PostA wr w.heap.size ga g rs' v e w') : e = .returned v ∧ InvW w w' N ga gr rs' A1 n1 c1 A2 n2 H := by
  obtain ⟨he, g', c', ha', hf, hg⟩ := hp
  obtain ⟨h1, h2⟩ := ho.ne29 h.blk
  have hsz := h.below.size
  refine ⟨he, ⟨g', c', ha', ?_⟩, (hf.block gr h.blk.lt (fun e => h1 e.symm) (fun e => h2 e.symm)).trans h.blk, ?_, h.aga, h.agr, h.hgr, h.below.trans (hf.below hsz ho.hB ho.glt.1)⟩
  · rcases hg with rfl | hg
    · exact ha
    · exact h.reads.away_of hg
  · refine ⟨h.reads.1, fun hn => ?_⟩
    obtain ⟨ad, e1, hb, hc⟩ := h.reads.2 hn
    refine ⟨ad, e1, Nat.lt_of_lt_of_le hb hf.size, fun j u hu => ?_⟩
    rw [World.cell?_of_block (w := wr) (hf.block _ (by rw [block_of_add]; exact hb) (by rw [block_of_add]; exact h.aga hn ad e1) (by rw [block_of_add]; exact ha hn ad e1))]
    exact hc j u hu
/-- the reference's step -/
theorem InvW.step {M : Int} {H' : List Int} {p : Int} {ok : Bool} {e : Ending} (h : InvW w wr N ga gr rs A1 n1 c1 A2 n2 H) (hp : R3Post wr A2 n2 M H' p ok e w') :
    ∃ A3 n3 c3, e = .returned (.tuple #[.agg #[.int .i64 M, .slice A3 n3 c3], .int .i64 p, .bool ok]) ∧ n3 ≤ c3 ∧ InvW w w' N ga gr rs A1 n1 c1 A3 n3 H' ∧ Below wr.heap.size wr w' ∧ Far wr A2 n2 A3 n3 := by
  obtain ⟨A3, n3, c3, rfl, hle, hfar, hr, hb⟩ := hp
  obtain ⟨g, c, ho, ha⟩ := (h.over hb).obj
  obtain ⟨g0, c0, ho0, ha0⟩ := h.obj
  exact ⟨A3, n3, c3, rfl, hle, ⟨⟨g0, c0, ho0.over hb, hfar g0 ho0.glt.2 ha0⟩, h.blk.below hb h.blk.lt, hr, hfar ga ho0.lt h.aga, hfar gr h.blk.lt h.agr, h.hgr, (h.over hb).below⟩, hb, hfar⟩
/-- a write to another variable of the reference's type -/
theorem InvW.set {k i : Nat} {cs : Array Value} (h : InvW w wr N ga gr rs A1 n1 c1 A2 n2 H) (hk : Blk wr k 29 cs) (hne : gr ≠ k) (ha : Away A2 n2 k) (hw : w.heap.size ≤ k) (u : Value) : InvW w (wr.setCell ⟨k, i, none⟩ u) N ga gr rs A1 n1 c1 A2 n2 H := by
  obtain ⟨g, c, ho, hag⟩ := h.obj
  obtain ⟨h1, h2⟩ := ho.ne29 hk
  exact ⟨⟨g, c, ho.keep (Below.heap_setCell wr _ u _ h1) (Below.heap_setCell wr _ u _ h2), hag⟩, h.blk.far hne u, h.reads.away _ _ ha, h.aga, h.agr, h.hgr, h.below.setCell hw u⟩
/-- the reference's variable is written -/
theorem InvW.put {c2 : Nat} (h : InvW w wr N ga gr rs A1 n1 c1 A2 n2 H) : InvW w ((wr.setCell ⟨gr, 0, none⟩ (.int .i64 N)).setCell ⟨gr, 1, none⟩ (.slice A2 n2 c2)) N ga gr rs A2 n2 c2 A2 n2 H := by
  obtain ⟨g, c, ho, hag⟩ := h.obj
  obtain ⟨h1, h2⟩ := ho.ne29 h.blk
  have ho1 := ho.keep (Below.heap_setCell wr ⟨gr, 0, none⟩ (.int .i64 N) _ h1) (Below.heap_setCell wr ⟨gr, 0, none⟩ (.int .i64 N) _ h2)
  exact ⟨⟨g, c, ho1.keep (Below.heap_setCell _ ⟨gr, 1, none⟩ _ _ h1) (Below.heap_setCell _ ⟨gr, 1, none⟩ _ _ h2), hag⟩, two_set h.blk _ _, (h.reads.away _ _ h.agr).away _ _ h.agr, h.aga, h.agr, h.hgr, (h.below.setCell h.hgr _).setCell h.hgr _⟩
end
end Go.Proofs.Ytohlcopnifmjoae
