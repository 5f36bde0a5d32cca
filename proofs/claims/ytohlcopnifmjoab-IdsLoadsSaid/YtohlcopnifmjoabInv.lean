/- ids: the program's object and the reference's struct in one world. -/
import Derived.Test.YtohlcopnifmjoabSame
namespace Go.Proofs.Ytohlcopnifmjoab
open Go.RowKit

/-- the object holds (s, f); the reference reads (s2, f2); its struct in block gr holds the slices A1, A2; an api.ID lies in block bi -/
structure RInv (w wr : World) (B x gr bi E : Nat) (G i g : Int) (s : Sl) (f : List Int) (s2 : Sl) (f2 : List Int) (A1 : Option Addr) (n1 c1 : Nat) (A2 : Option Addr) (n2 c2 : Nat) (Ag : Option Addr) (ng : Nat) (Ar : Option Addr) (nr : Nat) : Prop where
  obj : ∃ As cs Af cf, IObj wr B x E G As cs Af cf s f ∧ ∀ k, OwnK x As Af k → Away Ag ng k ∧ Away Ar nr k
  blk : Blk wr gr 37 #[.int .i64 E, .int .i64 G, .slice A1 n1 c1, .slice A2 n2 c2]
  bid : Blk wr bi 28 #[.int .i64 i, .int .i64 g]
  hg : Reads wr wr.heap.size 1 Ag ng (ints (gensL s2))
  hf : Reads wr wr.heap.size 1 Ar nr (ints f2)
  ag : Away Ag ng gr
  ar : Away Ar nr gr
  hB : w.heap.size ≤ B
  hgr : w.heap.size ≤ gr
  hb : Below w.heap.size w wr

theorem IObj.apartB {w : World} {B x E : Nat} {G : Int} {As : Option Addr} {cs : Nat} {Af : Option Addr} {cf : Nat} {s : Sl} {f : List Int} (h : IObj w B x E G As cs Af cf s f) {k : Nat} {t : TypeId} {c : Array Value} (hb : Blk w k t c) (h1 : t ≠ 57) (h2 : t ≠ 68) (h3 : t ≠ 3) : ¬ OwnK x As Af k := by
  rintro (rfl | hk | hk)
  · exact hb.ne_ h.hx h1 rfl
  · have := own_blk_ne h.hs hb (fun e => h2 e.symm)
    rw [own_map] at this
    exact this hk
  · have := own_blk_ne h.hf hb (fun e => h3 e.symm)
    rw [own_map] at this
    exact this hk
theorem Reads.fr {w w' : World} {O : Nat → Prop} {A : Option Addr} {n : Nat} {xs : List Value} (h : Reads w w.heap.size 1 A n xs) (hf : Fr O w w') (ha : ∀ k, O k → Away A n k) : Reads w' w'.heap.size 1 A n xs := by
  refine ⟨h.1, fun hn => ?_⟩
  obtain ⟨ad, e, hb, hc⟩ := h.2 hn
  have hs := hf.size
  refine ⟨ad, e, by omega, fun j u hu => (World.cell?_of_block (hf.block _ (by rw [block_of_add]; exact hb) (fun ho => ?_))).trans (hc j u hu)⟩
  rw [block_of_add] at ho
  exact ha _ ho hn ad e rfl

section
variable {w wr w' : World} {B x gr bi E : Nat} {G i g : Int} {s : Sl} {f : List Int} {s' : Sl} {f' : List Int} {s2 : Sl} {f2 : List Int} {A1 : Option Addr} {n1 c1 : Nat} {A2 : Option Addr} {n2 c2 : Nat} {Ag : Option Addr} {ng : Nat} {Ar : Option Addr} {nr : Nat}
theorem RInv.over (h : RInv w wr B x gr bi E G i g s f s2 f2 A1 n1 c1 A2 n2 c2 Ag ng Ar nr) (hb : Below wr.heap.size wr w') : RInv w w' B x gr bi E G i g s f s2 f2 A1 n1 c1 A2 n2 c2 Ag ng Ar nr := by
  obtain ⟨As, cs, Af, cf, ho, ha⟩ := h.obj
  exact ⟨⟨As, cs, Af, cf, ho.over hb, ha⟩, h.blk.below hb h.blk.lt, h.bid.below hb h.bid.lt, h.hg.over hb, h.hf.over hb, h.ag, h.ar, h.hB, h.hgr, h.hb.trans (hb.mono h.hb.size)⟩
theorem RInv.drew (h : RInv w wr B x gr bi E G i g s f s2 f2 A1 n1 c1 A2 n2 c2 Ag ng Ar nr) : RInv w wr.drew B x gr bi E G i g s f s2 f2 A1 n1 c1 A2 n2 c2 Ag ng Ar nr := h.over ⟨rfl, rfl, rfl, Nat.le_refl _, fun _ _ => rfl⟩
theorem RInv.alloc (h : RInv w wr B x gr bi E G i g s f s2 f2 A1 n1 c1 A2 n2 c2 Ag ng Ar nr) (o : Obj) : RInv w (wr.alloc o) B x gr bi E G i g s f s2 f2 A1 n1 c1 A2 n2 c2 Ag ng Ar nr := h.over ((Below.refl _ _).alloc (Nat.le_refl _) _)
/-- the object's step -/
theorem RInv.post {As : Option Addr} {cs : Nat} {Af : Option Addr} {cf : Nat} (h : RInv w wr B x gr bi E G i g s f s2 f2 A1 n1 c1 A2 n2 c2 Ag ng Ar nr) (ho : IObj wr B x E G As cs Af cf s f) (ha : ∀ k, OwnK x As Af k → Away Ag ng k ∧ Away Ar nr k) (hp : PostI wr B x E G As Af s' f' w') :
    RInv w w' B x gr bi E G i g s' f' s2 f2 A1 n1 c1 A2 n2 c2 Ag ng Ar nr := by
  obtain ⟨As', cs', Af', cf', ho', hf, hn⟩ := hp
  have n1 := ho.apartB h.blk (by decide) (by decide) (by decide)
  have n2 := ho.apartB h.bid (by decide) (by decide) (by decide)
  refine ⟨⟨As', cs', Af', cf', ho', fun k hk => ?_⟩, (hf.block gr h.blk.lt n1).trans h.blk, (hf.block bi h.bid.lt n2).trans h.bid, h.hg.fr hf (fun k hk => (ha k hk).1), h.hf.fr hf (fun k hk => (ha k hk).2), h.ag, h.ar, h.hB, h.hgr, h.hb.trans (hf.below (fun k hk => by have := (ho.own hk).1; have := h.hB; omega) h.hb.size)⟩
  rcases hn k hk with hk | hk
  · exact ha k hk
  · exact ⟨h.hg.away_of hk, h.hf.away_of hk⟩
/-- the reference's step -/
theorem RInv.step {rest : Value → Ending} {e : Ending} {s3 : Sl} {f3 : List Int} (h : RInv w wr B x gr bi E G i g s f s2 f2 A1 n1 c1 A2 n2 c2 Ag ng Ar nr) (hp : RPost wr E G Ag ng Ar nr s3 f3 rest e w') :
    ∃ Ag' ng' cg' Ar' nr' cr', e = rest (.agg #[.int .i64 E, .int .i64 G, .slice Ag' ng' cg', .slice Ar' nr' cr']) ∧ nr' ≤ cr' ∧ RInv w w' B x gr bi E G i g s f s3 f3 A1 n1 c1 A2 n2 c2 Ag' ng' Ar' nr' ∧ Below wr.heap.size wr w' ∧ Far wr Ag ng Ag' ng' ∧ Far wr Ar nr Ar' nr' := by
  obtain ⟨Ag', ng', cg', Ar', nr', cr', he, hc, f1, f2', rg, rf, hb⟩ := hp
  obtain ⟨As, cs, Af, cf, ho, ha⟩ := h.obj
  exact ⟨Ag', ng', cg', Ar', nr', cr', he, hc, ⟨⟨As, cs, Af, cf, ho.over hb, fun k hk => ⟨f1 k (ho.own hk).2 (ha k hk).1, f2' k (ho.own hk).2 (ha k hk).2⟩⟩, h.blk.below hb h.blk.lt, h.bid.below hb h.bid.lt, rg, rf, f1 gr h.blk.lt h.ag, f2' gr h.blk.lt h.ar, h.hB, h.hgr, h.hb.trans (hb.mono h.hb.size)⟩, hb, f1, f2'⟩
/-- a cell of another block is written -/
theorem RInv.setB {q : Nat} {t : TypeId} {cs : Array Value} (h : RInv w wr B x gr bi E G i g s f s2 f2 A1 n1 c1 A2 n2 c2 Ag ng Ar nr) (hk : Blk wr q t cs) (t1 : t ≠ 57) (t2 : t ≠ 68) (t3 : t ≠ 3) (h1 : q ≠ gr) (h2 : q ≠ bi) (h4 : Away Ag ng q) (h5 : Away Ar nr q) (h6 : w.heap.size ≤ q) (o : Nat) (u : Value) : RInv w (wr.setCell ⟨q, o, none⟩ u) B x gr bi E G i g s f s2 f2 A1 n1 c1 A2 n2 c2 Ag ng Ar nr := by
  obtain ⟨As, cs, Af, cf, ho, ha⟩ := h.obj
  exact ⟨⟨As, cs, Af, cf, ho.far (ho.apartB hk t1 t2 t3) u, ha⟩, h.blk.far (fun e => h1 e.symm) u, h.bid.far (fun e => h2 e.symm) u, h.hg.away _ u h4, h.hf.away _ u h5, h.ag, h.ar, h.hB, h.hgr, h.hb.setCell h6 u⟩
theorem RInv.two {q : Nat} {a b : Value} (h : RInv w wr B x gr bi E G i g s f s2 f2 A1 n1 c1 A2 n2 c2 Ag ng Ar nr) (hk : Blk wr q 28 #[a, b]) (h1 : q ≠ gr) (h2 : q ≠ bi) (h4 : Away Ag ng q) (h5 : Away Ar nr q) (h6 : w.heap.size ≤ q) (u v : Value) : RInv w ((wr.setCell ⟨q, 0, none⟩ u).setCell ⟨q, 1, none⟩ v) B x gr bi E G i g s f s2 f2 A1 n1 c1 A2 n2 c2 Ag ng Ar nr :=
  (h.setB hk (by decide) (by decide) (by decide) h1 h2 h4 h5 h6 0 u).setB (hk.set_ 0 u) (by decide) (by decide) (by decide) h1 h2 h4 h5 h6 1 v
theorem RInv.four {q : Nat} {a b c d : Value} (h : RInv w wr B x gr bi E G i g s f s2 f2 A1 n1 c1 A2 n2 c2 Ag ng Ar nr) (hk : Blk wr q 37 #[a, b, c, d]) (h1 : q ≠ gr) (h2 : q ≠ bi) (h4 : Away Ag ng q) (h5 : Away Ar nr q) (h6 : w.heap.size ≤ q) (u v y z : Value) : RInv w ((((wr.setCell ⟨q, 0, none⟩ u).setCell ⟨q, 1, none⟩ v).setCell ⟨q, 2, none⟩ y).setCell ⟨q, 3, none⟩ z) B x gr bi E G i g s f s2 f2 A1 n1 c1 A2 n2 c2 Ag ng Ar nr :=
  (((h.setB hk (by decide) (by decide) (by decide) h1 h2 h4 h5 h6 0 u).setB (hk.set_ 0 u) (by decide) (by decide) (by decide) h1 h2 h4 h5 h6 1 v).setB ((hk.set_ 0 u).set_ 1 v) (by decide) (by decide) (by decide) h1 h2 h4 h5 h6 2 y).setB (((hk.set_ 0 u).set_ 1 v).set_ 2 y) (by decide) (by decide) (by decide) h1 h2 h4 h5 h6 3 z
/-- the struct is written anew: what is read becomes what it holds -/
theorem RInv.put {cg cr : Nat} (h : RInv w wr B x gr bi E G i g s f s2 f2 A1 n1 c1 A2 n2 c2 Ag ng Ar nr) :
    RInv w ((((wr.setCell ⟨gr, 0, none⟩ (.int .i64 E)).setCell ⟨gr, 1, none⟩ (.int .i64 G)).setCell ⟨gr, 2, none⟩ (.slice Ag ng cg)).setCell ⟨gr, 3, none⟩ (.slice Ar nr cr)) B x gr bi E G i g s f s2 f2 Ag ng cg Ar nr cr Ag ng Ar nr := by
  obtain ⟨As, cs, Af, cf, ho, ha⟩ := h.obj
  have n1 := ho.apartB h.blk (by decide) (by decide) (by decide)
  have hne : bi ≠ gr := fun e => h.blk.ne_ h.bid (by decide) e.symm
  have ho1 := ho.far (p := ⟨gr, 0, none⟩) n1 (.int .i64 E)
  have ho2 := ho1.far (p := ⟨gr, 1, none⟩) n1 (.int .i64 G)
  have ho3 := ho2.far (p := ⟨gr, 2, none⟩) n1 (.slice Ag ng cg)
  have ho4 := ho3.far (p := ⟨gr, 3, none⟩) n1 (.slice Ar nr cr)
  exact ⟨⟨As, cs, Af, cf, ho4, ha⟩, four_set h.blk _ _ _ _, (((h.bid.far (p := ⟨gr, 0, none⟩) hne _).far (p := ⟨gr, 1, none⟩) hne _).far (p := ⟨gr, 2, none⟩) hne _).far (p := ⟨gr, 3, none⟩) hne _,
    (((h.hg.away ⟨gr, 0, none⟩ _ h.ag).away ⟨gr, 1, none⟩ _ h.ag).away ⟨gr, 2, none⟩ _ h.ag).away ⟨gr, 3, none⟩ _ h.ag,
    (((h.hf.away ⟨gr, 0, none⟩ _ h.ar).away ⟨gr, 1, none⟩ _ h.ar).away ⟨gr, 2, none⟩ _ h.ar).away ⟨gr, 3, none⟩ _ h.ar, h.ag, h.ar, h.hB, h.hgr,
    (((h.hb.setCell (p := ⟨gr, 0, none⟩) h.hgr _).setCell (p := ⟨gr, 1, none⟩) h.hgr _).setCell (p := ⟨gr, 2, none⟩) h.hgr _).setCell (p := ⟨gr, 3, none⟩) h.hgr _⟩
end
/-- what stands behind the reference's step: the three names' blocks, the struct told -/
structure Aft (w wx : World) (p14 p15 p12 B x gr bi E : Nat) (G i g : Int) (s' : Sl) (f' : List Int) (A1 : Option Addr) (n1 c1 : Nat) (A2 : Option Addr) (n2 c2 : Nat) (Ag : Option Addr) (ng cg : Nat) (Ar : Option Addr) (nr cr : Nat) (p q : Value) : Prop where
  k14 : Blk wx p14 37 #[.int .i64 E, .int .i64 G, .slice Ag ng cg, .slice Ar nr cr]
  k15 : Blk wx p15 28 #[p, q]
  k12 : Blk wx p12 28 #[p, q]
  ri : RInv w wx B x gr bi E G i g s' f' s' f' A1 n1 c1 A2 n2 c2 Ag ng Ar nr
section
variable {w wr : World} {B x gr bi E p12 : Nat} {G i g : Int} {s' : Sl} {f' : List Int} {A1 : Option Addr} {n1 c1 : Nat} {A2 : Option Addr} {n2 c2 : Nat} {Ag : Option Addr} {ng cg : Nat} {Ar : Option Addr} {nr cr : Nat} {p q : Value}
theorem Aft.ab (h : RInv w wr B x gr bi E G i g s' f' s' f' A1 n1 c1 A2 n2 c2 Ag ng Ar nr) (k : Blk wr p12 28 #[p, q]) :
    Aft w ((wr.alloc (.cells #[.int .i64 E, .int .i64 G, .slice Ag ng cg, .slice Ar nr cr] 37)).alloc (.cells #[p, q] 28)) wr.heap.size (wr.heap.size + 1) p12 B x gr bi E G i g s' f' A1 n1 c1 A2 n2 c2 Ag ng cg Ar nr cr p q := by
  refine ⟨(Blk.new wr 37 _).alloc _, ?_, (k.alloc _).alloc _, (h.alloc _).alloc _⟩
  have := Blk.new (wr.alloc (.cells #[.int .i64 E, .int .i64 G, .slice Ag ng cg, .slice Ar nr cr] 37)) 28 #[p, q]
  rw [World.size_alloc] at this
  exact this
theorem Aft.ba (h : RInv w wr B x gr bi E G i g s' f' s' f' A1 n1 c1 A2 n2 c2 Ag ng Ar nr) (k : Blk wr p12 28 #[p, q]) :
    Aft w ((wr.alloc (.cells #[p, q] 28)).alloc (.cells #[.int .i64 E, .int .i64 G, .slice Ag ng cg, .slice Ar nr cr] 37)) (wr.heap.size + 1) wr.heap.size p12 B x gr bi E G i g s' f' A1 n1 c1 A2 n2 c2 Ag ng cg Ar nr cr p q := by
  refine ⟨?_, (Blk.new wr 28 _).alloc _, (k.alloc _).alloc _, (h.alloc _).alloc _⟩
  have := Blk.new (wr.alloc (.cells #[p, q] 28)) 37 #[.int .i64 E, .int .i64 G, .slice Ag ng cg, .slice Ar nr cr]
  rw [World.size_alloc] at this
  exact this
theorem Aft.b {p14 : Nat} {a b c d : Value} (h : RInv w wr B x gr bi E G i g s' f' s' f' A1 n1 c1 A2 n2 c2 Ag ng Ar nr) (k : Blk wr p12 28 #[p, q]) (k14 : Blk wr p14 37 #[a, b, c, d]) (h1 : p14 ≠ gr) (h2 : p14 ≠ bi) (h4 : Away Ag ng p14) (h5 : Away Ar nr p14) (h6 : w.heap.size ≤ p14) :
    Aft w (((((wr.setCell ⟨p14, 0, none⟩ (.int .i64 E)).setCell ⟨p14, 1, none⟩ (.int .i64 G)).setCell ⟨p14, 2, none⟩ (.slice Ag ng cg)).setCell ⟨p14, 3, none⟩ (.slice Ar nr cr)).alloc (.cells #[p, q] 28)) p14 wr.heap.size p12 B x gr bi E G i g s' f' A1 n1 c1 A2 n2 c2 Ag ng cg Ar nr cr p q := by
  have hne : p12 ≠ p14 := fun e => k14.ne_ k (by decide) e.symm
  refine ⟨(four_set k14 _ _ _ _).alloc _, ?_, ((((k.far (p := ⟨p14, 0, none⟩) hne _).far (p := ⟨p14, 1, none⟩) hne _).far (p := ⟨p14, 2, none⟩) hne _).far (p := ⟨p14, 3, none⟩) hne _).alloc _, (h.four k14 h1 h2 h4 h5 h6 _ _ _ _).alloc _⟩
  have := Blk.new ((((wr.setCell ⟨p14, 0, none⟩ (.int .i64 E)).setCell ⟨p14, 1, none⟩ (.int .i64 G)).setCell ⟨p14, 2, none⟩ (.slice Ag ng cg)).setCell ⟨p14, 3, none⟩ (.slice Ar nr cr)) 28 #[p, q]
  simpa using this
theorem Aft.c {p15 : Nat} {a b : Value} (h : RInv w wr B x gr bi E G i g s' f' s' f' A1 n1 c1 A2 n2 c2 Ag ng Ar nr) (k : Blk wr p12 28 #[p, q]) (k15 : Blk wr p15 28 #[a, b]) (hne : p12 ≠ p15) (h1 : p15 ≠ gr) (h2 : p15 ≠ bi) (h4 : Away Ag ng p15) (h5 : Away Ar nr p15) (h6 : w.heap.size ≤ p15) :
    Aft w (((wr.setCell ⟨p15, 0, none⟩ p).setCell ⟨p15, 1, none⟩ q).alloc (.cells #[.int .i64 E, .int .i64 G, .slice Ag ng cg, .slice Ar nr cr] 37)) wr.heap.size p15 p12 B x gr bi E G i g s' f' A1 n1 c1 A2 n2 c2 Ag ng cg Ar nr cr p q := by
  refine ⟨?_, (two_set k15 _ _).alloc _, ((k.far (p := ⟨p15, 0, none⟩) hne _).far (p := ⟨p15, 1, none⟩) hne _).alloc _, (h.two k15 h1 h2 h4 h5 h6 _ _).alloc _⟩
  have := Blk.new ((wr.setCell ⟨p15, 0, none⟩ p).setCell ⟨p15, 1, none⟩ q) 37 #[.int .i64 E, .int .i64 G, .slice Ag ng cg, .slice Ar nr cr]
  simpa using this
theorem Aft.de {p14 p15 : Nat} {a b c d a' b' : Value} (h : RInv w wr B x gr bi E G i g s' f' s' f' A1 n1 c1 A2 n2 c2 Ag ng Ar nr) (k : Blk wr p12 28 #[p, q]) (k14 : Blk wr p14 37 #[a, b, c, d]) (k15 : Blk wr p15 28 #[a', b']) (hne : p12 ≠ p15) (h1 : p14 ≠ gr) (h2 : p14 ≠ bi) (h4 : Away Ag ng p14) (h5 : Away Ar nr p14) (h6 : w.heap.size ≤ p14) (h1' : p15 ≠ gr) (h2' : p15 ≠ bi) (h4' : Away Ag ng p15) (h5' : Away Ar nr p15) (h6' : w.heap.size ≤ p15) :
    Aft w ((((((wr.setCell ⟨p14, 0, none⟩ (.int .i64 E)).setCell ⟨p14, 1, none⟩ (.int .i64 G)).setCell ⟨p14, 2, none⟩ (.slice Ag ng cg)).setCell ⟨p14, 3, none⟩ (.slice Ar nr cr)).setCell ⟨p15, 0, none⟩ p).setCell ⟨p15, 1, none⟩ q) p14 p15 p12 B x gr bi E G i g s' f' A1 n1 c1 A2 n2 c2 Ag ng cg Ar nr cr p q := by
  have n1 : p12 ≠ p14 := fun e => k14.ne_ k (by decide) e.symm
  have n2 : p15 ≠ p14 := fun e => k14.ne_ k15 (by decide) e.symm
  have k15' := (((k15.far (p := ⟨p14, 0, none⟩) n2 (.int .i64 E)).far (p := ⟨p14, 1, none⟩) n2 (.int .i64 G)).far (p := ⟨p14, 2, none⟩) n2 (.slice Ag ng cg)).far (p := ⟨p14, 3, none⟩) n2 (.slice Ar nr cr)
  exact ⟨((four_set k14 _ _ _ _).far (p := ⟨p15, 0, none⟩) (fun e => n2 e.symm) _).far (p := ⟨p15, 1, none⟩) (fun e => n2 e.symm) _, two_set k15' _ _, (((((k.far (p := ⟨p14, 0, none⟩) n1 _).far (p := ⟨p14, 1, none⟩) n1 _).far (p := ⟨p14, 2, none⟩) n1 _).far (p := ⟨p14, 3, none⟩) n1 _).far (p := ⟨p15, 0, none⟩) hne _).far (p := ⟨p15, 1, none⟩) hne _,
    (h.four k14 h1 h2 h4 h5 h6 _ _ _ _).two k15' h1' h2' h4' h5' h6' _ _⟩
end
end Go.Proofs.Ytohlcopnifmjoab
