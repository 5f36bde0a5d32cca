/- bus: BusSteps, for every input. -/
import Derived.Test.YtohlcopnifmjoacOpenS
namespace Go.Proofs.Ytohlcopnifmjoac
open Go.RowKit

theorem bcell {W w1 : World} (hb : Below W.heap.size W w1) : (∀ b o, b < W.heap.size → w1.cell? ⟨b, o, none⟩ = W.cell? ⟨b, o, none⟩) ∧ (∀ b o, b < W.heap.size → w1.frozen? ⟨b, o, none⟩ = W.frozen? ⟨b, o, none⟩) :=
  ⟨fun b o h => hb.cell (p := ⟨b, o, none⟩) h, fun b o h => hb.frozen (p := ⟨b, o, none⟩) h⟩
theorem n10 (n : Nat) : n + 1 ≠ n := by omega
theorem n01 (n : Nat) : n ≠ n + 1 := by omega
theorem n20 (n : Nat) : n + 1 + 1 ≠ n := by omega
theorem n02 (n : Nat) : n ≠ n + 1 + 1 := by omega
theorem n21 (n : Nat) : n + 1 + 1 ≠ n + 1 := by omega
theorem n12 (n : Nat) : n + 1 ≠ n + 1 + 1 := by omega
theorem l1 (n : Nat) : n ≤ n + 1 := by omega
theorem l2 (n : Nat) : n ≤ n + 1 + 1 := by omega
theorem l3 {n m : Nat} (h : n ≤ m) : n ≤ m + 1 := by omega
theorem l4 {n m : Nat} (h : n ≤ m) : n ≤ m + 1 + 1 := by omega
theorem kA {W w1 : World} {R : Prop} (h : Below W.heap.size W w1 ∧ R) (o : Obj) : Below W.heap.size W (w1.alloc o) := h.1.alloc h.1.size o
theorem kC {W w1 w2 : World} {R : Prop} (h : Below W.heap.size W w1 ∧ R) (hb : Below w1.heap.size w1 w2) : Below W.heap.size W w2 := h.1.trans (hb.mono h.1.size)
theorem kS {W w1 : World} {R : Prop} (h : Below W.heap.size W w1 ∧ R) {z : Nat} (hz : W.heap.size ≤ z) (a b c : Value) : Below W.heap.size W (((w1.setCell ⟨z, 0, none⟩ a).setCell ⟨z, 1, none⟩ b).setCell ⟨z, 2, none⟩ c) :=
  ((h.1.setCell (p := ⟨z, 0, none⟩) hz a).setCell (p := ⟨z, 1, none⟩) hz b).setCell (p := ⟨z, 2, none⟩) hz c
theorem kA' {W w1 : World} (h : Below W.heap.size W w1) (o : Obj) : Below W.heap.size W (w1.alloc o) := h.alloc h.size o
theorem kS' {W w1 : World} {z i : Nat} (hz : W.heap.size ≤ z) (h : Below W.heap.size W w1) (a : Value) : Below W.heap.size W (w1.setCell ⟨z, i, none⟩ a) := h.setCell (p := ⟨z, i, none⟩) hz a
theorem kD' {W w1 : World} (h : Below W.heap.size W w1) : Below W.heap.size W w1.drew := h.drew
theorem Blk.dr {w : World} {g : Nat} {t : TypeId} {cs : Array Value} (h : Blk w g t cs) : Blk w.drew g t cs := h
theorem Blk.new' {w : World} {z : Nat} (t : TypeId) (cs : Array Value) (h : z = w.heap.size) : Blk (w.alloc (.cells cs t)) z t cs := h ▸ Blk.new w t cs
theorem Blk.below' {w w' : World} {g : Nat} {t : TypeId} {cs : Array Value} (h : Blk w g t cs) (hb : Below w.heap.size w w') : Blk w' g t cs := h.below hb h.lt
theorem Blk.al {w : World} {g : Nat} {t : TypeId} {cs : Array Value} (h : Blk w g t cs) (o : Obj) : Blk (w.alloc o) g t cs := h.below' ((Below.refl _ _).alloc (Nat.le_refl _) o)
theorem Blk.far3 {w : World} {g z : Nat} {t : TypeId} {cs : Array Value} (hne : g ≠ z) (h : Blk w g t cs) (a b c : Value) : Blk (((w.setCell ⟨z, 0, none⟩ a).setCell ⟨z, 1, none⟩ b).setCell ⟨z, 2, none⟩ c) g t cs :=
  ((h.far (p := ⟨z, 0, none⟩) hne a).far (p := ⟨z, 1, none⟩) hne b).far (p := ⟨z, 2, none⟩) hne c
theorem RRow.three' {w : World} {A : Option Addr} {n c z : Nat} {L : List Int} {t : TypeId} {cs : Array Value} (ht : t ≠ 3) (hq : Blk w z t cs) (h : RRow w A n c L) (x y v : Value) : RRow (((w.setCell ⟨z, 0, none⟩ x).setCell ⟨z, 1, none⟩ y).setCell ⟨z, 2, none⟩ v) A n c L :=
  ((h.set_ hq ht 0 x).set_ (hq.set_ 0 x) ht 1 y).set_ ((hq.set_ 0 x).set_ 1 y) ht 2 v
theorem Two.three {w : World} {x c d S x' c' d' S' g : Nat} {L L' : List Int} {C C' : Bool} (h : Two w x c d S L C x' c' d' S' L' C') {t : TypeId} {cs : Array Value} (hq : Blk w g t cs) (ht : t ≠ 63) (u v y : Value) : Two (((w.setCell ⟨g, 0, none⟩ u).setCell ⟨g, 1, none⟩ v).setCell ⟨g, 2, none⟩ y) x c d S L C x' c' d' S' L' C' := by
  have hf : Fr (fun k => k = g) w (((w.setCell ⟨g, 0, none⟩ u).setCell ⟨g, 1, none⟩ v).setCell ⟨g, 2, none⟩ y) := (((Fr.refl (O := fun k => k = g) (w := w)).set_ (p := ⟨g, 0, none⟩) (.inl rfl) u).set_ (p := ⟨g, 1, none⟩) (.inl rfl) v).set_ (p := ⟨g, 2, none⟩) (.inl rfl) y
  unfold Blk at hq
  have hx : ∀ {y : Nat} {vs : Array Value}, Blk w y 63 vs → ¬ y = g := by
    rintro y vs hy rfl
    unfold Blk at hy
    rw [hq] at hy
    injection hy with hy
    injection hy with _ h2 _
    exact ht h2
  have hch : ∀ {k cap : Nat} {buf : Array Value} {cl : Bool} {s r : Nat} {tm : Bool}, w.heap[k]? = some (.chan cap buf cl s r tm) → ¬ k = g := by
    rintro k cap buf cl s r tm hk rfl
    rw [hq] at hk
    injection hk with hk
    cases hk
  obtain ⟨_, _, hc1⟩ := h.qa.hc
  obtain ⟨_, _, hc2⟩ := h.qb.hc
  exact h.keep hf (hx h.qa.hx) (hch hc1) (hch h.qa.hd) (hx h.qb.hx) (hch hc2) (hch h.qb.hd)
theorem RRow.three {w : World} {A : Option Addr} {n c z : Nat} {L : List Int} {t : TypeId} {cs : Array Value} (h : RRow w A n c L) (hq : Blk w z t cs) (ht : t ≠ 3) (x y v : Value) : RRow (((w.setCell ⟨z, 0, none⟩ x).setCell ⟨z, 1, none⟩ y).setCell ⟨z, 2, none⟩ v) A n c L := RRow.three' ht hq h x y v
/-- the reference's two rows, in two blocks of the call's own -/
structure InvR (w wr : World) (gx gy : Nat) (A1 : Option Addr) (n1 c1 Sa : Nat) (La : List Int) (Ca : Bool) (A2 : Option Addr) (n2 c2 Sb : Nat) (Lb : List Int) (Cb : Bool) : Prop where
  r1 : RRow wr A1 n1 c1 La
  r2 : RRow wr A2 n2 c2 Lb
  k1 : Blk wr gx 41 #[.slice A1 n1 c1, .int .i64 Sa, .bool Ca]
  k2 : Blk wr gy 41 #[.slice A2 n2 c2, .int .i64 Sb, .bool Cb]
  ne : gx ≠ gy
  l1 : w.heap.size ≤ gx
  l2 : w.heap.size ≤ gy
  b : Below w.heap.size w wr
section
variable {w wr w' : World} {gx gy : Nat} {A1 : Option Addr} {n1 c1 Sa : Nat} {La : List Int} {Ca : Bool} {A2 : Option Addr} {n2 c2 Sb : Nat} {Lb : List Int} {Cb : Bool} {x c d x' c' d' : Nat} {Pa Pb : List Int} {Qa Qb : Bool}
theorem InvR.over (h : InvR w wr gx gy A1 n1 c1 Sa La Ca A2 n2 c2 Sb Lb Cb) (hb : Below wr.heap.size wr w') : InvR w w' gx gy A1 n1 c1 Sa La Ca A2 n2 c2 Sb Lb Cb :=
  ⟨h.r1.over hb, h.r2.over hb, h.k1.below' hb, h.k2.below' hb, h.ne, h.l1, h.l2, h.b.trans (hb.mono h.b.size)⟩
theorem OT.chan (h : Two w x c d Sa Pa Qa x' c' d' Sb Pb Qb) {k : Nat} (hk : OT c d c' d' k) : ∃ cap buf cl s r, w.heap[k]? = some (.chan cap buf cl s r false) := by
  obtain ⟨s1, r1, h1⟩ := h.qa.hc
  obtain ⟨s2, r2, h2⟩ := h.qb.hc
  rcases hk with rfl | rfl | rfl | rfl
  · exact ⟨_, _, _, _, _, h1⟩
  · exact ⟨_, _, _, _, _, h.qa.hd⟩
  · exact ⟨_, _, _, _, _, h2⟩
  · exact ⟨_, _, _, _, _, h.qb.hd⟩
theorem Blk.notOT {g : Nat} {t : TypeId} {cs : Array Value} (hq : Blk w g t cs) (h : Two w x c d Sa Pa Qa x' c' d' Sb Pb Qb) : ¬ OT c d c' d' g := by
  intro hk
  obtain ⟨_, _, _, _, _, hc⟩ := OT.chan h hk
  unfold Blk at hq
  rw [hq] at hc
  injection hc with hc
  cases hc
theorem InvR.fr (h : InvR w wr gx gy A1 n1 c1 Sa La Ca A2 n2 c2 Sb Lb Cb) (T : Two wr x c d Sa Pa Qa x' c' d' Sb Pb Qb) (hf : Fr (OT c d c' d') wr w') (h1 : w.heap.size ≤ c) (h2 : w.heap.size ≤ d) (h3 : w.heap.size ≤ c') (h4 : w.heap.size ≤ d') : InvR w w' gx gy A1 n1 c1 Sa La Ca A2 n2 c2 Sb Lb Cb :=
  ⟨h.r1.fr hf (fun _ hk => OT.chan T hk), h.r2.fr hf (fun _ hk => OT.chan T hk), h.k1.fr hf (h.k1.notOT T), h.k2.fr hf (h.k2.notOT T), h.ne, h.l1, h.l2,
    h.b.trans (hf.below (fun k hk => by rcases hk with rfl | rfl | rfl | rfl <;> assumption) h.b.size)⟩
/-- both are put anew -/
theorem InvR.put {A3 : Option Addr} {n3 c3 : Nat} {La' : List Int} {Ca' : Bool} {A4 : Option Addr} {n4 c4 : Nat} {Lb' : List Int} {Cb' : Bool} (h : InvR w wr gx gy A1 n1 c1 Sa La Ca A2 n2 c2 Sb Lb Cb) (R3 : RRow wr A3 n3 c3 La') (R4 : RRow wr A4 n4 c4 Lb') :
    InvR w ((((((wr.setCell ⟨gx, 0, none⟩ (.slice A3 n3 c3)).setCell ⟨gx, 1, none⟩ (.int .i64 Sa)).setCell ⟨gx, 2, none⟩ (.bool Ca')).setCell ⟨gy, 0, none⟩ (.slice A4 n4 c4)).setCell ⟨gy, 1, none⟩ (.int .i64 Sb)).setCell ⟨gy, 2, none⟩ (.bool Cb')) gx gy A3 n3 c3 Sa La' Ca' A4 n4 c4 Sb Lb' Cb' := by
  have k1 := three_set h.k1 (.slice A3 n3 c3) (.int .i64 Sa) (.bool Ca')
  have k2 := Blk.far3 h.ne.symm h.k2 (.slice A3 n3 c3) (.int .i64 Sa) (.bool Ca')
  refine ⟨(R3.three h.k1 (by decide) _ _ _).three k2 (by decide) _ _ _, (R4.three h.k1 (by decide) _ _ _).three k2 (by decide) _ _ _, Blk.far3 h.ne k1 _ _ _, three_set k2 _ _ _, h.ne, h.l1, h.l2, ?_⟩
  exact (((((h.b.setCell (p := ⟨gx, 0, none⟩) h.l1 _).setCell (p := ⟨gx, 1, none⟩) h.l1 _).setCell (p := ⟨gx, 2, none⟩) h.l1 _).setCell (p := ⟨gy, 0, none⟩) h.l2 _).setCell (p := ⟨gy, 1, none⟩) h.l2 _).setCell (p := ⟨gy, 2, none⟩) h.l2 _
theorem InvR.put' {A3 : Option Addr} {n3 c3 : Nat} {La' : List Int} {Ca' : Bool} {A4 : Option Addr} {n4 c4 : Nat} {Lb' : List Int} {Cb' : Bool} (h : InvR w wr gx gy A1 n1 c1 Sa La Ca A2 n2 c2 Sb Lb Cb) (R3 : RRow wr A3 n3 c3 La') (R4 : RRow wr A4 n4 c4 Lb') :
    InvR w ((((((wr.setCell ⟨gy, 0, none⟩ (.slice A4 n4 c4)).setCell ⟨gy, 1, none⟩ (.int .i64 Sb)).setCell ⟨gy, 2, none⟩ (.bool Cb')).setCell ⟨gx, 0, none⟩ (.slice A3 n3 c3)).setCell ⟨gx, 1, none⟩ (.int .i64 Sa)).setCell ⟨gx, 2, none⟩ (.bool Ca')) gx gy A3 n3 c3 Sa La' Ca' A4 n4 c4 Sb Lb' Cb' := by
  have k2 := three_set h.k2 (.slice A4 n4 c4) (.int .i64 Sb) (.bool Cb')
  have k1 := Blk.far3 h.ne h.k1 (.slice A4 n4 c4) (.int .i64 Sb) (.bool Cb')
  refine ⟨(R3.three h.k2 (by decide) _ _ _).three k1 (by decide) _ _ _, (R4.three h.k2 (by decide) _ _ _).three k1 (by decide) _ _ _, three_set k1 _ _ _, Blk.far3 h.ne.symm k2 _ _ _, h.ne, h.l1, h.l2, ?_⟩
  exact (((((h.b.setCell (p := ⟨gy, 0, none⟩) h.l2 _).setCell (p := ⟨gy, 1, none⟩) h.l2 _).setCell (p := ⟨gy, 2, none⟩) h.l2 _).setCell (p := ⟨gx, 0, none⟩) h.l1 _).setCell (p := ⟨gx, 1, none⟩) h.l1 _).setCell (p := ⟨gx, 2, none⟩) h.l1 _
end
theorem OneR.told {S : Nat} {d v : Int} {L : List Int} {C : Bool} {L' : List Int} {C' : Bool} {V : Int} {OK : Bool} {T : List Int} (h : OneR S d v L C L' C' V OK T) : T.length ≤ L.length := by
  cases h <;> simp
theorem StepR.told {Sa Sb : Nat} {d v : Int} {La Lb : List Int} {Ca Cb : Bool} {La' Lb' : List Int} {Ca' Cb' : Bool} {V : Int} {OK : Bool} {T : List Int} (h : StepR Sa Sb d v La Ca Lb Cb La' Ca' Lb' Cb' V OK T) : T.length ≤ La.length := by
  cases h with
  | one _ _ _ _ h => exact h.told
  | move => simp
  | same => simp
theorem TwoR.told {Sa Sb : Nat} {two : Bool} {d v : Int} {La Lb : List Int} {Ca Cb : Bool} {La' Lb' : List Int} {Ca' Cb' : Bool} {V : Int} {OK : Bool} {T : List Int} (h : TwoR Sa Sb two d v La Ca Lb Cb La' Ca' Lb' Cb' V OK T) : T.length ≤ La.length ∨ T.length ≤ Lb.length := by
  cases two with
  | true => exact .inr (StepR.told h)
  | false => exact .inl (StepR.told h)
theorem Blk.ne_ty {w : World} {g g' : Nat} {t t' : TypeId} {cs cs' : Array Value} (h : Blk w g t cs) (h' : Blk w g' t' cs') (ht : t ≠ t') : g ≠ g' := by
  rintro rfl
  unfold Blk at h h'
  rw [h] at h'
  injection h' with h'
  injection h' with _ h2 _
  exact ht h2
/-- behind both assignments -/
structure St8 (w wx : World) (x c d x' c' d' gx gy zt z15 : Nat) (A3 : Option Addr) (n3 c3 Sa : Nat) (La : List Int) (Ca : Bool) (A4 : Option Addr) (n4 c4 Sb : Nat) (Lb : List Int) (Cb : Bool) (V : Int) (OKK : Bool) (At : Option Addr) (nt ct : Nat) (A5 : Option Addr) (n5 c5 : Nat) (T : List Int) : Prop where
  i : InvR w wx gx gy A3 n3 c3 Sa La Ca A4 n4 c4 Sb Lb Cb
  t : Two wx x c d Sa La Ca x' c' d' Sb Lb Cb
  kt : Blk wx zt 44 #[.int .i64 V, .bool OKK, .slice At nt ct]
  k5 : Blk wx z15 44 #[.int .i64 V, .bool OKK, .slice A5 n5 c5]
  rt : RRow wx At nt ct T
  r5 : RRow wx A5 n5 c5 T
section
variable {w wr : World} {x c d x' c' d' gx gy zt z15 : Nat} {A1 : Option Addr} {n1 c1 Sa : Nat} {Ra La : List Int} {Qa Ca : Bool} {A2 : Option Addr} {n2 c2 Sb : Nat} {Rb Lb : List Int} {Qb Cb : Bool} {V : Int} {OKK : Bool} {At : Option Addr} {nt ct : Nat} {A5 : Option Addr} {n5 c5 : Nat} {T : List Int} {A3 : Option Addr} {n3 c3 : Nat} {A4 : Option Addr} {n4 c4 : Nat}
theorem st8_xy (h : InvR w wr gx gy A1 n1 c1 Sa Ra Qa A2 n2 c2 Sb Rb Qb) (t : Two wr x c d Sa La Ca x' c' d' Sb Lb Cb) (kt : Blk wr zt 44 #[.int .i64 V, .bool OKK, .slice At nt ct]) (k5 : Blk wr z15 44 #[.int .i64 V, .bool OKK, .slice A5 n5 c5]) (rt : RRow wr At nt ct T) (r5 : RRow wr A5 n5 c5 T) (R3 : RRow wr A3 n3 c3 La) (R4 : RRow wr A4 n4 c4 Lb) :
    St8 w ((((((wr.setCell ⟨gx, 0, none⟩ (.slice A3 n3 c3)).setCell ⟨gx, 1, none⟩ (.int .i64 Sa)).setCell ⟨gx, 2, none⟩ (.bool Ca)).setCell ⟨gy, 0, none⟩ (.slice A4 n4 c4)).setCell ⟨gy, 1, none⟩ (.int .i64 Sb)).setCell ⟨gy, 2, none⟩ (.bool Cb)) x c d x' c' d' gx gy zt z15 A3 n3 c3 Sa La Ca A4 n4 c4 Sb Lb Cb V OKK At nt ct A5 n5 c5 T := by
  have k2 := Blk.far3 h.ne.symm h.k2 (.slice A3 n3 c3) (.int .i64 Sa) (.bool Ca)
  exact ⟨h.put R3 R4, (t.three h.k1 (by decide) _ _ _).three k2 (by decide) _ _ _, Blk.far3 (kt.ne_ty h.k2 (by decide)) (Blk.far3 (kt.ne_ty h.k1 (by decide)) kt _ _ _) _ _ _, Blk.far3 (k5.ne_ty h.k2 (by decide)) (Blk.far3 (k5.ne_ty h.k1 (by decide)) k5 _ _ _) _ _ _, (rt.three h.k1 (by decide) _ _ _).three k2 (by decide) _ _ _, (r5.three h.k1 (by decide) _ _ _).three k2 (by decide) _ _ _⟩
theorem st8_yx (h : InvR w wr gx gy A1 n1 c1 Sa Ra Qa A2 n2 c2 Sb Rb Qb) (t : Two wr x c d Sa La Ca x' c' d' Sb Lb Cb) (kt : Blk wr zt 44 #[.int .i64 V, .bool OKK, .slice At nt ct]) (k5 : Blk wr z15 44 #[.int .i64 V, .bool OKK, .slice A5 n5 c5]) (rt : RRow wr At nt ct T) (r5 : RRow wr A5 n5 c5 T) (R3 : RRow wr A3 n3 c3 La) (R4 : RRow wr A4 n4 c4 Lb) :
    St8 w ((((((wr.setCell ⟨gy, 0, none⟩ (.slice A4 n4 c4)).setCell ⟨gy, 1, none⟩ (.int .i64 Sb)).setCell ⟨gy, 2, none⟩ (.bool Cb)).setCell ⟨gx, 0, none⟩ (.slice A3 n3 c3)).setCell ⟨gx, 1, none⟩ (.int .i64 Sa)).setCell ⟨gx, 2, none⟩ (.bool Ca)) x c d x' c' d' gx gy zt z15 A3 n3 c3 Sa La Ca A4 n4 c4 Sb Lb Cb V OKK At nt ct A5 n5 c5 T := by
  have k1 := Blk.far3 h.ne h.k1 (.slice A4 n4 c4) (.int .i64 Sb) (.bool Cb)
  exact ⟨h.put' R3 R4, (t.three h.k2 (by decide) _ _ _).three k1 (by decide) _ _ _, Blk.far3 (kt.ne_ty h.k1 (by decide)) (Blk.far3 (kt.ne_ty h.k2 (by decide)) kt _ _ _) _ _ _, Blk.far3 (k5.ne_ty h.k1 (by decide)) (Blk.far3 (k5.ne_ty h.k2 (by decide)) k5 _ _ _) _ _ _, (rt.three h.k2 (by decide) _ _ _).three k1 (by decide) _ _ _, (r5.three h.k2 (by decide) _ _ _).three k1 (by decide) _ _ _⟩
theorem below_drewN (w : World) (k : Nat) : Below w.heap.size w (w.drewN k) := ⟨rfl, rfl, rfl, Nat.le_refl _, fun _ _ => rfl⟩
theorem below_drew (w : World) : Below w.heap.size w w.drew := ⟨rfl, rfl, rfl, Nat.le_refl _, fun _ _ => rfl⟩
theorem St8.over {w' : World} (h : St8 w wr x c d x' c' d' gx gy zt z15 A3 n3 c3 Sa La Ca A4 n4 c4 Sb Lb Cb V OKK At nt ct A5 n5 c5 T) (hb : Below wr.heap.size wr w') : St8 w w' x c d x' c' d' gx gy zt z15 A3 n3 c3 Sa La Ca A4 n4 c4 Sb Lb Cb V OKK At nt ct A5 n5 c5 T :=
  ⟨h.i.over hb, h.t.over hb, h.kt.below' hb, h.k5.below' hb, h.rt.over hb, h.r5.over hb⟩
end

set_option maxRecDepth 100000 in
set_option maxHeartbeats 16000000 in
theorem steps_any (a0 a1 : Int) (A : Option Addr) (n c : Nat) (ss : List Step) (w : World) (ok1 : (⟨A, n, c, ss⟩ : Stp).ok w) :
    Calls Try.prog 4 #[.int .i64 a0, .int .i64 a1, .slice A n c] w fun e w' => e = .returned (.bool true) ∧ Below w.heap.size w w' := by
  have hmax := ok1.hn
  unfold maxLen at hmax
  dsimp only at hmax
  have OK := Lib.hid ok1
  clear ok1
  by_cases h60 : 60 < n
  · go_enter Try.func4, Try.ntmps4
    go_wp2_with (go_at_call 6; refine (live_any _).mono ?_; rintro e w' ⟨rfl, hb⟩; have HB := Lib.hid hb; clear hb)
    go_ret
    exact ⟨rfl, HB.out⟩
  have d60 : decide (60 < (n : Int)) = false := by simp; omega
  go_enter Try.func4, Try.ntmps4
  go_wp2_with fail
  refine (new63_any a0 _).mono ?_
  rintro e1 w1 ⟨x, cc, d, rfl, h1, hx1, hc1, hd1, hb1⟩
  have H1 := Lib.hid h1
  have B1 := Lib.hid hb1
  clear h1 hb1
  go_wp2_with fail
  refine (new63_any a1 _).mono ?_
  rintro e2 w2 ⟨x', cc', d', rfl, h2, hx2, hc2, hd2, hb2⟩
  have l1 := H1.out.xlt
  have l2 := H1.out.clt
  have l3 := H1.out.dlt
  have l4 := B1.out.size
  have HT2 := Lib.hid (show Two w2 x cc d (capQ a0) [] false x' cc' d' (capQ a1) [] false from ⟨H1.out.over hb2, h2, by omega, by omega, by omega⟩)
  have B2 := Lib.hid (B1.out.trans (hb2.mono B1.out.size))
  have hc3 : w.heap.size ≤ cc' := by omega
  have hd3 : w.heap.size ≤ d' := by omega
  clear h2 hb2 H1 B1 l1 l2 l3 l4 hx1 hx2 hc2 hd2
  obtain ⟨Sa, hSa⟩ : ∃ Sa, Sa = capQ a0 := ⟨_, rfl⟩
  obtain ⟨Sb, hSb⟩ : ∃ Sb, Sb = capQ a1 := ⟨_, rfl⟩
  have hla := capQ_le a0
  have hlb := capQ_le a1
  have HR0 := Lib.hid (rnew_any a0)
  have HR1 := Lib.hid (rnew_any a1)
  rw [← hSa, ← hSb] at HT2
  rw [← hSa] at hla HR0
  rw [← hSb] at hlb HR1
  clear hSa hSb
  go_wp2_with fail
  refine (HR0.out _).mono ?_
  rintro e3 w3 ⟨rfl, hb3⟩
  have HT3 := Lib.hid (HT2.out.over hb3)
  have B3 := Lib.hid (B2.out.trans (hb3.mono B2.out.size))
  clear hb3 HT2 B2
  go_wp2_with fail
  refine (HR1.out _).mono ?_
  rintro e4 w4 ⟨rfl, hb4⟩
  have bb := ((Below.refl w4.heap.size w4).alloc (Nat.le_refl _) (.cells #[.slice none 0 0, .int .i64 Sa, .bool false] 41)).alloc (by simp) (.cells #[.slice none 0 0, .int .i64 Sb, .bool false] 41)
  have HT4 := Lib.hid ((HT3.out.over hb4).over bb)
  have B4 := B3.out.trans (hb4.mono B3.out.size)
  have HI4 : Hid (InvR w ((w4.alloc (.cells #[.slice none 0 0, .int .i64 Sa, .bool false] 41)).alloc (.cells #[.slice none 0 0, .int .i64 Sb, .bool false] 41)) w4.heap.size (w4.heap.size + 1) none 0 0 Sa [] false none 0 0 Sb [] false) :=
    Lib.hid ⟨RRow.nil _, RRow.nil _, (Blk.new' 41 _ rfl).al _, Blk.new' 41 _ (by simp), by omega, B4.size, by have := B4.size; omega, B4.trans (bb.mono B4.size)⟩
  clear bb hb4 HT3 B3 B4 HR0 HR1
  go_wp2_with fail
  generalize (w4.alloc (.cells #[.slice none 0 0, .int .i64 Sa, .bool false] 41)).alloc (.cells #[.slice none 0 0, .int .i64 Sb, .bool false] 41) = W4 at HT4 HI4 ⊢
  generalize w4.heap.size + 1 = gy at HI4 ⊢
  generalize w4.heap.size = gx at HI4 ⊢
  go_loopw [11] (fun i wr => ∃ j : Nat, j ≤ n ∧ i = .int .i64 j ∧ ∃ (A1 : Option Addr) (n1 c1 : Nat) (La : List Int) (Ca : Bool) (A2 : Option Addr) (n2 c2 : Nat) (Lb : List Int) (Cb : Bool), La.length ≤ Sa ∧ Lb.length ≤ Sb ∧ Hid (Two wr x cc d Sa La Ca x' cc' d' Sb Lb Cb) ∧ Hid (InvR w wr gx gy A1 n1 c1 Sa La Ca A2 n2 c2 Sb Lb Cb)) (fun i _ => n - (intOf i).toNat)
  case atStart => exact ⟨0, Nat.zero_le _, rfl, none, 0, 0, [], false, none, 0, 0, [], false, Nat.zero_le _, Nat.zero_le _, HT4, HI4⟩
  case round =>
    obtain ⟨j, hj, rfl, A1, n1, c1, La, Ca, A2, n2, c2, Lb, Cb, hLa, hLb, HT, HI⟩ := hrel
    clear HT4 HI4
    by_cases hlt : j < n
    · obtain ⟨b, off, s, he, hbl, hc0, hc1', hc2⟩ := OK.out.at_ hlt
      dsimp only at he
      obtain rfl := he
      obtain ⟨sd, st, sv⟩ := s
      dsimp only at hc0 hc1' hc2
      obtain ⟨La', Ca', Lb', Cb', V, OKK, T, hs⟩ := two_total Sa Sb st sd sv La Ca Lb Cb
      have hlen := hs.len hLa hLb
      have HS := Lib.hid hs
      have HC0 := Lib.hid hc0
      have HC1 := Lib.hid hc1'
      have HC2 := Lib.hid hc2
      have g0 := (HI.out.b.cell (p := ⟨b, off + j * 3, none⟩) hbl).trans hc0
      have g1 := (HI.out.b.cell (p := ⟨b, off + j * 3 + 1, none⟩) hbl).trans hc1'
      have g2 := (HI.out.b.cell (p := ⟨b, off + j * 3 + 2, none⟩) hbl).trans hc2
      have hlt' : (j : Int) < (n : Int) := by omega
      have h0' : (0 : Int) ≤ (j : Int) := by omega
      clear hs hc0 hc1' hc2
      go_wp2_with fail
      refine (do_any HS.out (by omega) (by omega) _ HT.out).mono ?_
      rintro e5 w5 ⟨At, nt, ct, rfl, hrt5, ht5, hf5⟩
      have hi5 := HI.out.fr HT.out hf5 hc1 hd1 hc3 hd3
      have ba := (Below.refl w5.heap.size w5).alloc (Nat.le_refl _) (.cells #[.int .i64 V, .bool OKK, .slice At nt ct] 44)
      have HI6 := Lib.hid (hi5.over ba)
      have HT6 := Lib.hid (ht5.over ba)
      have HR6 := Lib.hid (hrt5.over ba)
      have HK6 := Lib.hid (Blk.new w5 44 #[.int .i64 V, .bool OKK, .slice At nt ct])
      clear g0 g1 g2 hi5 ba ht5 hrt5 hf5 HT HI
      go_upto_region 11 with (fail)
      generalize w5.alloc (.cells #[.int .i64 V, .bool OKK, .slice At nt ct] 44) = W at HI6 HT6 HR6 HK6 ⊢
      generalize w5.heap.size = zt at HK6 ⊢
      go_cut [13, 14, 15] (fun s13 s14 s15 wx => ∃ (z13 z14 z15 : Nat) (A3 : Option Addr) (n3 c3 : Nat) (A4 : Option Addr) (n4 c4 : Nat) (A5 : Option Addr) (n5 c5 : Nat), s13 = .pointer (some ⟨z13, 0, none⟩) ∧ s14 = .pointer (some ⟨z14, 0, none⟩) ∧ s15 = .pointer (some ⟨z15, 0, none⟩) ∧ W.heap.size ≤ z13 ∧ W.heap.size ≤ z14 ∧ W.heap.size ≤ z15 ∧ Hid (Below W.heap.size W wx) ∧ Hid (Blk wx z13 41 #[.slice A3 n3 c3, .int .i64 Sa, .bool Ca']) ∧ Hid (Blk wx z14 41 #[.slice A4 n4 c4, .int .i64 Sb, .bool Cb']) ∧ Hid (Blk wx z15 44 #[.int .i64 V, .bool OKK, .slice A5 n5 c5]) ∧ Hid (RRow wx A3 n3 c3 La') ∧ Hid (RRow wx A4 n4 c4 Lb') ∧ Hid (RRow wx A5 n5 c5 T))
      case first =>
        have q0 := blk3_0 HI6.out.k1
        have q1 := blk3_1 HI6.out.k1
        have q2 := blk3_2 HI6.out.k1
        have p0 := blk3_0 HI6.out.k2
        have p1 := blk3_1 HI6.out.k2
        have p2 := blk3_2 HI6.out.k2
        have g0 := (HI6.out.b.cell (p := ⟨b, off + j * 3, none⟩) hbl).trans HC0.out
        have g1 := (HI6.out.b.cell (p := ⟨b, off + j * 3 + 1, none⟩) hbl).trans HC1.out
        have g2 := (HI6.out.b.cell (p := ⟨b, off + j * 3 + 2, none⟩) hbl).trans HC2.out
        have HKP : Hid (∀ w', Below W.heap.size W w' → Below W.heap.size W w' ∧ w'.cell? ⟨gx, 0, none⟩ = some (.slice A1 n1 c1) ∧ w'.cell? ⟨gx, 1, none⟩ = some (.int .i64 Sa) ∧ w'.cell? ⟨gx, 2, none⟩ = some (.bool Ca) ∧ w'.cell? ⟨gy, 0, none⟩ = some (.slice A2 n2 c2) ∧ w'.cell? ⟨gy, 1, none⟩ = some (.int .i64 Sb) ∧ w'.cell? ⟨gy, 2, none⟩ = some (.bool Cb) ∧ w'.cell? ⟨b, off + j * 3, none⟩ = some (.int .i64 sd) ∧ w'.cell? ⟨b, off + j * 3 + 1, none⟩ = some (.bool st) ∧ w'.cell? ⟨b, off + j * 3 + 2, none⟩ = some (.int .i64 sv)) := Lib.hid (by
          intro w' hb
          have e1 := World.block_lt_of_cell? _ _ q0
          have e2 := World.block_lt_of_cell? _ _ p0
          have e3 := World.block_lt_of_cell? _ _ g0
          exact ⟨hb, (hb.cell (p := ⟨gx, 0, none⟩) e1).trans q0, (hb.cell (p := ⟨gx, 1, none⟩) e1).trans q1, (hb.cell (p := ⟨gx, 2, none⟩) e1).trans q2, (hb.cell (p := ⟨gy, 0, none⟩) e2).trans p0, (hb.cell (p := ⟨gy, 1, none⟩) e2).trans p1, (hb.cell (p := ⟨gy, 2, none⟩) e2).trans p2, (hb.cell (p := ⟨b, off + j * 3, none⟩) e3).trans g0, (hb.cell (p := ⟨b, off + j * 3 + 1, none⟩) e3).trans g1, (hb.cell (p := ⟨b, off + j * 3 + 2, none⟩) e3).trans g2⟩)
        clear q0 q1 q2 p0 p1 p2 g0 g1 g2
        go_region_held3 (fun w' => Below W.heap.size W w' ∧ w'.cell? ⟨gx, 0, none⟩ = some (.slice A1 n1 c1) ∧ w'.cell? ⟨gx, 1, none⟩ = some (.int .i64 Sa) ∧ w'.cell? ⟨gx, 2, none⟩ = some (.bool Ca) ∧ w'.cell? ⟨gy, 0, none⟩ = some (.slice A2 n2 c2) ∧ w'.cell? ⟨gy, 1, none⟩ = some (.int .i64 Sb) ∧ w'.cell? ⟨gy, 2, none⟩ = some (.bool Cb) ∧ w'.cell? ⟨b, off + j * 3, none⟩ = some (.int .i64 sd) ∧ w'.cell? ⟨b, off + j * 3 + 1, none⟩ = some (.bool st) ∧ w'.cell? ⟨b, off + j * 3 + 2, none⟩ = some (.int .i64 sv))
          (first
            | exact HKP.out _ (by (repeat (first | with_reducible exact hw4 | with_reducible exact Below.refl _ _ | with_reducible refine kD' ?_ | with_reducible refine kA' ?_ _ | ((with_reducible refine kS' ?_ ?_ _); (focus (first | with_reducible exact Nat.le_refl _ | with_reducible exact hs4 | with_reducible exact l1 _ | with_reducible exact l2 _ | with_reducible exact l3 hs4 | with_reducible exact l4 hs4)))))))
          (first
            | (go_at_call 17
               refine (rgo_any HS.out hla hlb hLa hLb A1 n1 c1 A2 n2 c2 _ (HI6.out.r1.over (And.left (by assumption))) (HI6.out.r2.over (And.left (by assumption)))).mono ?_
               rintro e4 w4 ⟨A3, n3, c3, A4, n4, c4, A5, n5, c5, rfl, hr1, hr2, hrt, hb4⟩
               have hz4 := hb4.size
               try simp only [World.size_alloc, World.size_drew] at hz4
               have hw4 := kC (by assumption) hb4
               have hs4 := hw4.size
               try have u00 : W.heap.size ≠ w4.heap.size := by omega
               try have v00 : w4.heap.size ≠ W.heap.size := by omega
               try have t00 : W.heap.size < w4.heap.size := by omega
               try have u01 : W.heap.size ≠ w4.heap.size + 1 := by omega
               try have v01 : w4.heap.size + 1 ≠ W.heap.size := by omega
               try have t01 : W.heap.size < w4.heap.size + 1 := by omega
               try have u02 : W.heap.size ≠ w4.heap.size + 1 + 1 := by omega
               try have v02 : w4.heap.size + 1 + 1 ≠ W.heap.size := by omega
               try have t02 : W.heap.size < w4.heap.size + 1 + 1 := by omega
               try have u10 : W.heap.size + 1 ≠ w4.heap.size := by omega
               try have v10 : w4.heap.size ≠ W.heap.size + 1 := by omega
               try have t10 : W.heap.size + 1 < w4.heap.size := by omega
               try have u11 : W.heap.size + 1 ≠ w4.heap.size + 1 := by omega
               try have v11 : w4.heap.size + 1 ≠ W.heap.size + 1 := by omega
               try have t11 : W.heap.size + 1 < w4.heap.size + 1 := by omega
               try have u12 : W.heap.size + 1 ≠ w4.heap.size + 1 + 1 := by omega
               try have v12 : w4.heap.size + 1 + 1 ≠ W.heap.size + 1 := by omega
               try have t12 : W.heap.size + 1 < w4.heap.size + 1 + 1 := by omega
               try have u20 : W.heap.size + 1 + 1 ≠ w4.heap.size := by omega
               try have v20 : w4.heap.size ≠ W.heap.size + 1 + 1 := by omega
               try have t20 : W.heap.size + 1 + 1 < w4.heap.size := by omega
               try have u21 : W.heap.size + 1 + 1 ≠ w4.heap.size + 1 := by omega
               try have v21 : w4.heap.size + 1 ≠ W.heap.size + 1 + 1 := by omega
               try have t21 : W.heap.size + 1 + 1 < w4.heap.size + 1 := by omega
               try have u22 : W.heap.size + 1 + 1 ≠ w4.heap.size + 1 + 1 := by omega
               try have v22 : w4.heap.size + 1 + 1 ≠ W.heap.size + 1 + 1 := by omega
               try have t22 : W.heap.size + 1 + 1 < w4.heap.size + 1 + 1 := by omega
               try (refine (fun (k : Blk w4 (W.heap.size) 41 #[.slice none 0 0, .int .i64 0, .bool false]) => ?_) ?_; rotate_left; (focus ((repeat (first | ((with_reducible refine Blk.new' _ _ ?_); (focus (simp; done))) | (with_reducible apply three_set) | ((with_reducible refine Blk.far3 ?_ ?_ _ _ _); (focus (first | with_reducible exact n10 _ | with_reducible exact n01 _ | with_reducible exact n20 _ | with_reducible exact n02 _ | with_reducible exact n21 _ | with_reducible exact n12 _ | with_reducible assumption))) | (with_reducible refine Blk.al ?_ _) | (with_reducible refine Blk.dr ?_) | (with_reducible refine Blk.below' ?_ hb4))); done)); have c00 := blk3_0 k; have c01 := blk3_1 k; have c02 := blk3_2 k; have f00 := k.frozen 0; have f01 := k.frozen 1; have f02 := k.frozen 2; clear k)
               try (refine (fun (k : Blk w4 (W.heap.size) 44 #[.int .i64 0, .bool false, .slice none 0 0]) => ?_) ?_; rotate_left; (focus ((repeat (first | ((with_reducible refine Blk.new' _ _ ?_); (focus (simp; done))) | (with_reducible apply three_set) | ((with_reducible refine Blk.far3 ?_ ?_ _ _ _); (focus (first | with_reducible exact n10 _ | with_reducible exact n01 _ | with_reducible exact n20 _ | with_reducible exact n02 _ | with_reducible exact n21 _ | with_reducible exact n12 _ | with_reducible assumption))) | (with_reducible refine Blk.al ?_ _) | (with_reducible refine Blk.dr ?_) | (with_reducible refine Blk.below' ?_ hb4))); done)); have c00 := blk3_0 k; have c01 := blk3_1 k; have c02 := blk3_2 k; have f00 := k.frozen 0; have f01 := k.frozen 1; have f02 := k.frozen 2; clear k)
               try (refine (fun (k : Blk w4 (W.heap.size + 1) 41 #[.slice none 0 0, .int .i64 0, .bool false]) => ?_) ?_; rotate_left; (focus ((repeat (first | ((with_reducible refine Blk.new' _ _ ?_); (focus (simp; done))) | (with_reducible apply three_set) | ((with_reducible refine Blk.far3 ?_ ?_ _ _ _); (focus (first | with_reducible exact n10 _ | with_reducible exact n01 _ | with_reducible exact n20 _ | with_reducible exact n02 _ | with_reducible exact n21 _ | with_reducible exact n12 _ | with_reducible assumption))) | (with_reducible refine Blk.al ?_ _) | (with_reducible refine Blk.dr ?_) | (with_reducible refine Blk.below' ?_ hb4))); done)); have c10 := blk3_0 k; have c11 := blk3_1 k; have c12 := blk3_2 k; have f10 := k.frozen 0; have f11 := k.frozen 1; have f12 := k.frozen 2; clear k)
               try (refine (fun (k : Blk w4 (W.heap.size + 1) 44 #[.int .i64 0, .bool false, .slice none 0 0]) => ?_) ?_; rotate_left; (focus ((repeat (first | ((with_reducible refine Blk.new' _ _ ?_); (focus (simp; done))) | (with_reducible apply three_set) | ((with_reducible refine Blk.far3 ?_ ?_ _ _ _); (focus (first | with_reducible exact n10 _ | with_reducible exact n01 _ | with_reducible exact n20 _ | with_reducible exact n02 _ | with_reducible exact n21 _ | with_reducible exact n12 _ | with_reducible assumption))) | (with_reducible refine Blk.al ?_ _) | (with_reducible refine Blk.dr ?_) | (with_reducible refine Blk.below' ?_ hb4))); done)); have c10 := blk3_0 k; have c11 := blk3_1 k; have c12 := blk3_2 k; have f10 := k.frozen 0; have f11 := k.frozen 1; have f12 := k.frozen 2; clear k)
               try (refine (fun (k : Blk w4 (W.heap.size + 1 + 1) 41 #[.slice none 0 0, .int .i64 0, .bool false]) => ?_) ?_; rotate_left; (focus ((repeat (first | ((with_reducible refine Blk.new' _ _ ?_); (focus (simp; done))) | (with_reducible apply three_set) | ((with_reducible refine Blk.far3 ?_ ?_ _ _ _); (focus (first | with_reducible exact n10 _ | with_reducible exact n01 _ | with_reducible exact n20 _ | with_reducible exact n02 _ | with_reducible exact n21 _ | with_reducible exact n12 _ | with_reducible assumption))) | (with_reducible refine Blk.al ?_ _) | (with_reducible refine Blk.dr ?_) | (with_reducible refine Blk.below' ?_ hb4))); done)); have c20 := blk3_0 k; have c21 := blk3_1 k; have c22 := blk3_2 k; have f20 := k.frozen 0; have f21 := k.frozen 1; have f22 := k.frozen 2; clear k)
               try (refine (fun (k : Blk w4 (W.heap.size + 1 + 1) 44 #[.int .i64 0, .bool false, .slice none 0 0]) => ?_) ?_; rotate_left; (focus ((repeat (first | ((with_reducible refine Blk.new' _ _ ?_); (focus (simp; done))) | (with_reducible apply three_set) | ((with_reducible refine Blk.far3 ?_ ?_ _ _ _); (focus (first | with_reducible exact n10 _ | with_reducible exact n01 _ | with_reducible exact n20 _ | with_reducible exact n02 _ | with_reducible exact n21 _ | with_reducible exact n12 _ | with_reducible assumption))) | (with_reducible refine Blk.al ?_ _) | (with_reducible refine Blk.dr ?_) | (with_reducible refine Blk.below' ?_ hb4))); done)); have c20 := blk3_0 k; have c21 := blk3_1 k; have c22 := blk3_2 k; have f20 := k.frozen 0; have f21 := k.frozen 1; have f22 := k.frozen 2; clear k))
            | fail)
        all_goals (
          go_wp2_with fail
          go_meet
          refine ⟨_, _, _, A3, n3, c3, A4, n4, c4, A5, n5, c5, rfl, rfl, rfl, ?_, ?_, ?_, ?_, ?_, ?_, ?_, ?_, ?_, ?_⟩
          · (first | with_reducible exact Nat.le_refl _ | with_reducible exact hs4 | with_reducible exact l1 _ | with_reducible exact l2 _ | with_reducible exact l3 hs4 | with_reducible exact l4 hs4)
          · (first | with_reducible exact Nat.le_refl _ | with_reducible exact hs4 | with_reducible exact l1 _ | with_reducible exact l2 _ | with_reducible exact l3 hs4 | with_reducible exact l4 hs4)
          · (first | with_reducible exact Nat.le_refl _ | with_reducible exact hs4 | with_reducible exact l1 _ | with_reducible exact l2 _ | with_reducible exact l3 hs4 | with_reducible exact l4 hs4)
          · refine Lib.hid ?_
            (repeat (first | with_reducible exact hw4 | with_reducible exact Below.refl _ _ | with_reducible refine kD' ?_ | with_reducible refine kA' ?_ _ | ((with_reducible refine kS' ?_ ?_ _); (focus (first | with_reducible exact Nat.le_refl _ | with_reducible exact hs4 | with_reducible exact l1 _ | with_reducible exact l2 _ | with_reducible exact l3 hs4 | with_reducible exact l4 hs4)))))
          · refine Lib.hid ?_
            (repeat (first | ((with_reducible refine Blk.new' _ _ ?_); (focus (simp; done))) | (with_reducible apply three_set) | ((with_reducible refine Blk.far3 ?_ ?_ _ _ _); (focus (first | with_reducible exact n10 _ | with_reducible exact n01 _ | with_reducible exact n20 _ | with_reducible exact n02 _ | with_reducible exact n21 _ | with_reducible exact n12 _ | with_reducible assumption))) | (with_reducible refine Blk.al ?_ _) | (with_reducible refine Blk.dr ?_) | (with_reducible refine Blk.below' ?_ hb4)))
          · refine Lib.hid ?_
            (repeat (first | ((with_reducible refine Blk.new' _ _ ?_); (focus (simp; done))) | (with_reducible apply three_set) | ((with_reducible refine Blk.far3 ?_ ?_ _ _ _); (focus (first | with_reducible exact n10 _ | with_reducible exact n01 _ | with_reducible exact n20 _ | with_reducible exact n02 _ | with_reducible exact n21 _ | with_reducible exact n12 _ | with_reducible assumption))) | (with_reducible refine Blk.al ?_ _) | (with_reducible refine Blk.dr ?_) | (with_reducible refine Blk.below' ?_ hb4)))
          · refine Lib.hid ?_
            (repeat (first | ((with_reducible refine Blk.new' _ _ ?_); (focus (simp; done))) | (with_reducible apply three_set) | ((with_reducible refine Blk.far3 ?_ ?_ _ _ _); (focus (first | with_reducible exact n10 _ | with_reducible exact n01 _ | with_reducible exact n20 _ | with_reducible exact n02 _ | with_reducible exact n21 _ | with_reducible exact n12 _ | with_reducible assumption))) | (with_reducible refine Blk.al ?_ _) | (with_reducible refine Blk.dr ?_) | (with_reducible refine Blk.below' ?_ hb4)))
          · refine Lib.hid ?_
            (repeat (first | (with_reducible exact hr1) | (with_reducible refine RRow.alloc ?_ _) | (with_reducible refine RRow.drew ?_) | ((with_reducible refine RRow.three' (t := 41) (cs := ?_) (by decide) ?_ ?_ _ _ _); rotate_left; (focus ((repeat (first | ((with_reducible refine Blk.new' _ _ ?_); (focus (simp; done))) | (with_reducible apply three_set) | ((with_reducible refine Blk.far3 ?_ ?_ _ _ _); (focus (first | with_reducible exact n10 _ | with_reducible exact n01 _ | with_reducible exact n20 _ | with_reducible exact n02 _ | with_reducible exact n21 _ | with_reducible exact n12 _ | with_reducible assumption))) | (with_reducible refine Blk.al ?_ _) | (with_reducible refine Blk.dr ?_) | (with_reducible refine Blk.below' ?_ hb4))); done))) | ((with_reducible refine RRow.three' (t := 44) (cs := ?_) (by decide) ?_ ?_ _ _ _); rotate_left; (focus ((repeat (first | ((with_reducible refine Blk.new' _ _ ?_); (focus (simp; done))) | (with_reducible apply three_set) | ((with_reducible refine Blk.far3 ?_ ?_ _ _ _); (focus (first | with_reducible exact n10 _ | with_reducible exact n01 _ | with_reducible exact n20 _ | with_reducible exact n02 _ | with_reducible exact n21 _ | with_reducible exact n12 _ | with_reducible assumption))) | (with_reducible refine Blk.al ?_ _) | (with_reducible refine Blk.dr ?_) | (with_reducible refine Blk.below' ?_ hb4))); done)))))
          · refine Lib.hid ?_
            (repeat (first | (with_reducible exact hr2) | (with_reducible refine RRow.alloc ?_ _) | (with_reducible refine RRow.drew ?_) | ((with_reducible refine RRow.three' (t := 41) (cs := ?_) (by decide) ?_ ?_ _ _ _); rotate_left; (focus ((repeat (first | ((with_reducible refine Blk.new' _ _ ?_); (focus (simp; done))) | (with_reducible apply three_set) | ((with_reducible refine Blk.far3 ?_ ?_ _ _ _); (focus (first | with_reducible exact n10 _ | with_reducible exact n01 _ | with_reducible exact n20 _ | with_reducible exact n02 _ | with_reducible exact n21 _ | with_reducible exact n12 _ | with_reducible assumption))) | (with_reducible refine Blk.al ?_ _) | (with_reducible refine Blk.dr ?_) | (with_reducible refine Blk.below' ?_ hb4))); done))) | ((with_reducible refine RRow.three' (t := 44) (cs := ?_) (by decide) ?_ ?_ _ _ _); rotate_left; (focus ((repeat (first | ((with_reducible refine Blk.new' _ _ ?_); (focus (simp; done))) | (with_reducible apply three_set) | ((with_reducible refine Blk.far3 ?_ ?_ _ _ _); (focus (first | with_reducible exact n10 _ | with_reducible exact n01 _ | with_reducible exact n20 _ | with_reducible exact n02 _ | with_reducible exact n21 _ | with_reducible exact n12 _ | with_reducible assumption))) | (with_reducible refine Blk.al ?_ _) | (with_reducible refine Blk.dr ?_) | (with_reducible refine Blk.below' ?_ hb4))); done)))))
          · refine Lib.hid ?_
            (repeat (first | (with_reducible exact hrt) | (with_reducible refine RRow.alloc ?_ _) | (with_reducible refine RRow.drew ?_) | ((with_reducible refine RRow.three' (t := 41) (cs := ?_) (by decide) ?_ ?_ _ _ _); rotate_left; (focus ((repeat (first | ((with_reducible refine Blk.new' _ _ ?_); (focus (simp; done))) | (with_reducible apply three_set) | ((with_reducible refine Blk.far3 ?_ ?_ _ _ _); (focus (first | with_reducible exact n10 _ | with_reducible exact n01 _ | with_reducible exact n20 _ | with_reducible exact n02 _ | with_reducible exact n21 _ | with_reducible exact n12 _ | with_reducible assumption))) | (with_reducible refine Blk.al ?_ _) | (with_reducible refine Blk.dr ?_) | (with_reducible refine Blk.below' ?_ hb4))); done))) | ((with_reducible refine RRow.three' (t := 44) (cs := ?_) (by decide) ?_ ?_ _ _ _); rotate_left; (focus ((repeat (first | ((with_reducible refine Blk.new' _ _ ?_); (focus (simp; done))) | (with_reducible apply three_set) | ((with_reducible refine Blk.far3 ?_ ?_ _ _ _); (focus (first | with_reducible exact n10 _ | with_reducible exact n01 _ | with_reducible exact n20 _ | with_reducible exact n02 _ | with_reducible exact n21 _ | with_reducible exact n12 _ | with_reducible assumption))) | (with_reducible refine Blk.al ?_ _) | (with_reducible refine Blk.dr ?_) | (with_reducible refine Blk.below' ?_ hb4))); done))))))
      case rest =>
        obtain ⟨z13, z14, z15, A3, n3, c3, A4, n4, c4, A5, n5, c5, rfl, rfl, rfl, hz13, hz14, hz15, HBW, HK13, HK14, HK15, HR3, HR4, HR5⟩ := hcut
        have HI7 := Lib.hid (HI6.out.over HBW.out)
        have HT7 := Lib.hid (HT6.out.over HBW.out)
        have HR7 := Lib.hid (HR6.out.over HBW.out)
        have HK7 := Lib.hid (HK6.out.below' HBW.out)
        have hx1 := HI6.out.k1.lt
        have hx2 := HI6.out.k2.lt
        have SXY := Lib.hid (st8_xy HI7.out HT7.out HK7.out HK15.out HR7.out HR5.out HR3.out HR4.out)
        have SYX := Lib.hid (st8_yx HI7.out HT7.out HK7.out HK15.out HR7.out HR5.out HR3.out HR4.out)
        have SXYD := Lib.hid (SXY.out.over (below_drew _))
        have SYXD := Lib.hid (SYX.out.over (below_drew _))
        clear SXY SYX
        have x0 := blk3_0 HI7.out.k1
        have x1 := blk3_1 HI7.out.k1
        have x2 := blk3_2 HI7.out.k1
        have xf0 := HI7.out.k1.frozen 0
        have xf1 := HI7.out.k1.frozen 1
        have xf2 := HI7.out.k1.frozen 2
        have y0 := blk3_0 HI7.out.k2
        have y1 := blk3_1 HI7.out.k2
        have y2 := blk3_2 HI7.out.k2
        have yf0 := HI7.out.k2.frozen 0
        have yf1 := HI7.out.k2.frozen 1
        have yf2 := HI7.out.k2.frozen 2
        have m0 := blk3_0 HK13.out
        have m1 := blk3_1 HK13.out
        have m2 := blk3_2 HK13.out
        have o0 := blk3_0 HK14.out
        have o1 := blk3_1 HK14.out
        have o2 := blk3_2 HK14.out
        have d1 : gx ≠ gy := HI7.out.ne
        have d2 : gy ≠ gx := HI7.out.ne.symm
        have d3 : gx ≠ z13 := by omega
        have d4 : z13 ≠ gx := by omega
        have d5 : gx ≠ z14 := by omega
        have d6 : z14 ≠ gx := by omega
        have d7 : gy ≠ z13 := by omega
        have d8 : z13 ≠ gy := by omega
        have d9 : gy ≠ z14 := by omega
        have d10 : z14 ≠ gy := by omega
        clear hx1 hx2 HI6 HT6 HR6 HK6 HBW HI7 HT7 HR7 HK7 HK13 HK14 HK15 HR3 HR4 HR5 hz13 hz14 hz15 HC0 HC1 HC2
        go_upto_region 12 with (fail)
        go_cut [12, 15] (fun s12 s15 wx => s12 = .pointer (some ⟨zt, 0, none⟩) ∧ s15 = .pointer (some ⟨z15, 0, none⟩) ∧ Hid (St8 w wx x cc d x' cc' d' gx gy zt z15 A3 n3 c3 Sa La' Ca' A4 n4 c4 Sb Lb' Cb' V OKK At nt ct A5 n5 c5 T))
        case first =>
          go_region
          all_goals (
            go_wp2_with fail
            go_meet
            first | exact ⟨rfl, rfl, SXYD⟩ | exact ⟨rfl, rfl, SYXD⟩)
        case rest =>
          clear x0 x1 x2 xf0 xf1 xf2 y0 y1 y2 yf0 yf1 yf2 m0 m1 m2 o0 o1 o2 d1 d2 d3 d4 d5 d6 d7 d8 d9 d10 SXYD SYXD
          obtain ⟨rfl, rfl, HS8⟩ := hcut
          have x0 := blk3_0 HS8.out.i.k1
          have x2 := blk3_2 HS8.out.i.k1
          have y0 := blk3_0 HS8.out.i.k2
          have y2 := blk3_2 HS8.out.i.k2
          have t0 := blk3_0 HS8.out.kt
          have t1 := blk3_1 HS8.out.kt
          have t2 := blk3_2 HS8.out.kt
          have v0 := blk3_0 HS8.out.k5
          have v1 := blk3_1 HS8.out.k5
          have v2 := blk3_2 HS8.out.k5
          have hl1 := HS8.out.i.r1.len
          have hl2 := HS8.out.i.r2.len
          have hl3 := HS8.out.rt.len
          have hl4 := HS8.out.r5.len
          have hT : T.length ≤ 4096 := by
            have := HS.out.told
            omega
          obtain rfl : n5 = nt := by omega
          have HLA : Hid (∀ k, Calls Try.prog 19 #[.pointer (some ⟨x, 0, none⟩)] (wc.drewN k) fun e w' => e = .returned (.int .i64 n3) ∧ w' = wc.drewN k) := Lib.hid (fun k => (len63_any _ x cc d Sa _ _ (HS8.out.t.over (below_drewN _ k)).qa).mono fun e w' ⟨he, hw⟩ => ⟨by rw [he, ints_length, hl1], hw⟩)
          have HLB : Hid (∀ k, Calls Try.prog 19 #[.pointer (some ⟨x', 0, none⟩)] (wc.drewN k) fun e w' => e = .returned (.int .i64 n4) ∧ w' = wc.drewN k) := Lib.hid (fun k => (len63_any _ x' cc' d' Sb _ _ (HS8.out.t.over (below_drewN _ k)).qb).mono fun e w' ⟨he, hw⟩ => ⟨by rw [he, ints_length, hl2], hw⟩)
          have HCA : Hid (∀ k, Calls Try.prog 20 #[.pointer (some ⟨x, 0, none⟩)] (wc.drewN k) fun e w' => e = .returned (.bool Ca') ∧ w' = wc.drewN k) := Lib.hid (fun k => closed63_any _ x cc d Sa _ _ (HS8.out.t.over (below_drewN _ k)).qa)
          have HCB : Hid (∀ k, Calls Try.prog 20 #[.pointer (some ⟨x', 0, none⟩)] (wc.drewN k) fun e w' => e = .returned (.bool Cb') ∧ w' = wc.drewN k) := Lib.hid (fun k => closed63_any _ x' cc' d' Sb _ _ (HS8.out.t.over (below_drewN _ k)).qb)
          have HSL : Hid (∀ k, Calls Try.prog 18 #[.slice At n5 ct, .slice A5 n5 c5] (wc.drewN k) fun e w' => e = .returned (.bool true) ∧ ∃ m, w' = (wc.drewN k).drewN m) := Lib.hid (fun k => samelist_any At A5 n5 ct c5 T _ (by omega) (HS8.out.rt.drewN k) (HS8.out.r5.drewN k))
          clear hl1 hl2 hl3 hl4 hT
          go_wp2_with fail
          go_quiet ((first
            | (go_at_call 18; exact Calls.quiet_of (HSL.out _))
            | (go_at_call 19; first | with_reducible exact Calls.quiet_of_same (HLA.out _) | with_reducible exact Calls.quiet_of_same (HLB.out _))
            | (go_at_call 20; first | with_reducible exact Calls.quiet_of_same (HCA.out _) | with_reducible exact Calls.quiet_of_same (HCB.out _))))
          clear x0 x2 y0 y2 t0 t1 t2 v0 v1 v2 HLA HLB HCA HCB HSL
          go_wp2_with fail
          exact ⟨⟨j + 1, by omega, by go_num, A3, n3, c3, La', Ca', A4, n4, c4, Lb', Cb', hlen.1, hlen.2, Lib.hid (HS8.out.t.over (below_drewN _ _)), Lib.hid (HS8.out.i.over (below_drewN _ _))⟩, by simp [intOf]; omega⟩
    · obtain rfl : n1 = La.length := HI.out.r1.len.symm
      obtain rfl : n2 = Lb.length := HI.out.r2.len.symm
      have g0 := blk3_0 HI.out.k1
      have g1 := blk3_1 HI.out.k1
      have y0 := blk3_0 HI.out.k2
      have y1 := blk3_1 HI.out.k2
      have HTd := Lib.hid (HT.out.over (below_drew _))
      have HId := Lib.hid (HI.out.over (below_drew _))
      clear HT HI
      go_wp2_with fail
      go_region_held3 (fun w' => w'.cell? ⟨gx, 0, none⟩ = some (.slice A1 La.length c1) ∧ w'.cell? ⟨gx, 1, none⟩ = some (.int .i64 Sa) ∧ w'.cell? ⟨gy, 0, none⟩ = some (.slice A2 Lb.length c2) ∧ w'.cell? ⟨gy, 1, none⟩ = some (.int .i64 Sb)) (go_keep)
        (first
          | (go_at_call 21; with_reducible show Calls _ _ #[.pointer (some ⟨x, 0, none⟩)] _ _; refine (size63_any _ x cc d Sa _ Ca HTd.out.qa).mono ?_; rintro e5 w5 ⟨rfl, rfl⟩)
          | (go_at_call 21; refine (size63_any _ x' cc' d' Sb _ Cb HTd.out.qb).mono ?_; rintro e5 w5 ⟨rfl, rfl⟩)
          | (go_at_call 22
             with_reducible show Calls _ _ #[.pointer (some ⟨x, 0, none⟩)] _ _
             refine (drain63_any _ x cc d Sa La Ca (by omega) HTd.out.qa).mono ?_
             rintro e6 w6 ⟨A6, c6, rfl, hr6, hq6, hf6⟩
             have HT6 := Lib.hid (HTd.out.opA (L1 := []) hq6 hf6.chan1)
             have HI6 := Lib.hid (HId.out.fr HTd.out hf6.chan1.toA hc1 hd1 hc3 hd3)
             have HR6 := Lib.hid hr6
             have g0 := blk3_0 HI6.out.k1
             have g1 := blk3_1 HI6.out.k1
             have y0 := blk3_0 HI6.out.k2
             have y1 := blk3_1 HI6.out.k2
             clear hr6 hq6 hf6)
          | (go_at_call 18
             refine (samelist_any _ _ _ _ _ _ _ (by omega) HR8.out HI8.out.r2).mono ?_
             rintro e9 w9 ⟨rfl, dd, hw9⟩
             have HI9 : Hid (InvR w w9 gx gy A1 La.length c1 Sa La Ca A2 Lb.length c2 Sb Lb Cb) := Lib.hid (by rw [hw9]; exact HI8.out.over (below_drewN _ dd))
             have g0 := blk3_0 HI9.out.k1
             have g1 := blk3_1 HI9.out.k1
             have y0 := blk3_0 HI9.out.k2
             have y1 := blk3_1 HI9.out.k2
             clear hw9 dd)
          | (go_at_call 18
             refine (samelist_any _ _ _ _ _ _ _ (by omega) HR6.out HI6.out.r1).mono ?_
             rintro e7 w7 ⟨rfl, dd, hw7⟩
             have HT7 : Hid (Two w7 x cc d Sa [] Ca x' cc' d' Sb Lb Cb) := Lib.hid (by rw [hw7]; exact HT6.out.over (below_drewN _ dd))
             have HI7 : Hid (InvR w w7 gx gy A1 La.length c1 Sa La Ca A2 Lb.length c2 Sb Lb Cb) := Lib.hid (by rw [hw7]; exact HI6.out.over (below_drewN _ dd))
             have g0 := blk3_0 HI7.out.k1
             have g1 := blk3_1 HI7.out.k1
             have y0 := blk3_0 HI7.out.k2
             have y1 := blk3_1 HI7.out.k2
             clear hw7 dd)
          | (go_at_call 22
             refine (drain63_any _ x' cc' d' Sb Lb Cb (by omega) HT7.out.qb).mono ?_
             rintro e8 w8 ⟨A8, c8, rfl, hr8, hq8, hf8⟩
             have HI8 := Lib.hid (HI7.out.fr HT7.out hf8.chan1.toB hc1 hd1 hc3 hd3)
             have HR8 := Lib.hid hr8
             have g0 := blk3_0 HI8.out.k1
             have g1 := blk3_1 HI8.out.k1
             have y0 := blk3_0 HI8.out.k2
             have y1 := blk3_1 HI8.out.k2
             clear hr8 hq8 hf8)
          | (go_at_call 6
             refine (live_any _).mono ?_
             rintro e10 w10 ⟨rfl, hb10⟩
             have HI10 := Lib.hid (HI9.out.over hb10)
             have g0 := blk3_0 HI10.out.k1
             have g1 := blk3_1 HI10.out.k1
             have y0 := blk3_0 HI10.out.k2
             have y1 := blk3_1 HI10.out.k2
             clear hb10)
          | fail)
      all_goals (
        go_wp2_with fail
        go_ret
        exact ⟨rfl, HI10.out.b⟩)
end Go.Proofs.Ytohlcopnifmjoac
