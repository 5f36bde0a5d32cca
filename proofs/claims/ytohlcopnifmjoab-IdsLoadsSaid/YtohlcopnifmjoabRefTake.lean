/- ids: the reference: Alive, Take. -/
import Derived.Test.YtohlcopnifmjoabRef
import Derived.Deep.DeepCutAuto
namespace Go.Proofs.Ytohlcopnifmjoab
open Go.RowKit

theorem four_set {w : World} {g : Nat} {t : TypeId} {a b c d : Value} (h : Blk w g t #[a, b, c, d]) (x y z u : Value) : Blk ((((w.setCell ⟨g, 0, none⟩ x).setCell ⟨g, 1, none⟩ y).setCell ⟨g, 2, none⟩ z).setCell ⟨g, 3, none⟩ u) g t #[x, y, z, u] := by
  have := (((h.set_ 0 x).set_ 1 y).set_ 2 z).set_ 3 u
  simpa using this
theorem ints_at {w : World} {B : Nat} {A : Option Addr} {n k : Nat} {xs : List Int} {x : Int} (h : Reads w B 1 A n (ints xs)) (hx : xs[k]? = some x) : ∃ b off, A = some ⟨b, off, none⟩ ∧ b < B ∧ w.cell? ⟨b, off + k, none⟩ = some (.int .i64 x) := by
  have hl := (List.getElem?_eq_some_iff.1 hx).1
  obtain ⟨b, off, e, hb, hl2, hc⟩ := h.int (k := k) (by rw [← h.ilen]; exact hl)
  refine ⟨b, off, e, hb, ?_⟩
  rw [List.getElem?_eq_getElem hl] at hx
  injection hx with hx
  rw [hc, hx]
theorem gens_get {s : Sl} {k : Nat} {y : Int × Bool} (h : s[k]? = some y) : (gensL s)[k]? = some y.1 := by simp [gensL, h]
theorem gensL_set {s : Sl} {k : Nat} {g : Int} {al b : Bool} (hy : s[k]? = some (g, al)) : gensL (s.set k (g, b)) = gensL s := by
  refine List.ext_getElem? fun j => ?_
  simp only [gensL, List.getElem?_map, List.getElem?_set]
  split
  · rename_i e
    subst e
    have := (List.getElem?_eq_some_iff.1 hy).1
    have h2 := hy
    rw [List.getElem?_eq_getElem this] at h2
    injection h2 with h2
    simp [this, h2]
  · rfl
theorem reads_take {w : World} {B n k : Nat} {A : Option Addr} {xs : List Int} (h : Reads w B 1 A n (ints xs)) (hk : k ≤ n) : Reads w B 1 A k (ints (xs.take k)) := by
  have hl := h.ilen
  refine ⟨by simp [ints]; omega, fun hp => ?_⟩
  obtain ⟨ad, e, hb, hc⟩ := h.2 (by omega)
  refine ⟨ad, e, hb, fun j u hu => hc j u ?_⟩
  simp only [ints, List.getElem?_map, List.getElem?_take] at hu ⊢
  split at hu
  · exact hu
  · simp at hu
theorem Reads.away1 {w : World} {A : Option Addr} {n : Nat} {xs : List Value} (h : Reads w w.heap.size 1 A n xs) (p : Addr) (u : Value) (hp : Away A n p.block) : Reads (w.setCell p u) (w.setCell p u).heap.size 1 A n xs := h.away p u hp

def RPost (w : World) (E : Nat) (G : Int) (Ag : Option Addr) (ng : Nat) (Af : Option Addr) (nf : Nat) (s' : Sl) (f' : List Int) (rest : Value → Ending) (e : Ending) (w' : World) : Prop :=
  ∃ Ag' ng' cg' Af' nf' cf', e = rest (.agg #[.int .i64 E, .int .i64 G, .slice Ag' ng' cg', .slice Af' nf' cf']) ∧ nf' ≤ cf' ∧ Far w Ag ng Ag' ng' ∧ Far w Af nf Af' nf' ∧
    Reads w' w'.heap.size 1 Ag' ng' (ints (gensL s')) ∧ Reads w' w'.heap.size 1 Af' nf' (ints f') ∧ Below w.heap.size w w'

set_option maxHeartbeats 1000000 in
theorem ralive_to (v : Bool) (E : Nat) (G : Int) (s : Sl) (f : List Int) (inv : IInv E G s f) (hfl : f.length ≤ 2000) (Ag : Option Addr) (ng cg : Nat) (Af : Option Addr) (nf cf : Nat) (i g : Int) (hv : aliveB s i g = v) (w : World) (hg : Reads w w.heap.size 1 Ag ng (ints (gensL s))) (hf : Reads w w.heap.size 1 Af nf (ints f)) :
    Calls Try.prog 28 #[.agg #[.int .i64 E, .int .i64 G, .slice Ag ng cg, .slice Af nf cf], .agg #[.int .i64 i, .int .i64 g]] w fun e w' => e = .returned (.bool v) ∧ Below w.heap.size w w' := by
  have b1 : Below w.heap.size w (w.alloc (.cells #[.int .i64 E, .int .i64 G, .slice Ag ng cg, .slice Af nf cf] 37)) := (Below.refl _ _).alloc (Nat.le_refl _) _
  have b2 : Below w.heap.size w ((w.alloc (.cells #[.int .i64 E, .int .i64 G, .slice Ag ng cg, .slice Af nf cf] 37)).alloc (.cells #[.int .i64 i, .int .i64 g] 28)) := b1.alloc (by simp) _
  have HG := Lib.hid (hg.over b2)
  have HF := Lib.hid (hf.over b2)
  have hx := (Blk.new w 37 #[.int .i64 E, .int .i64 G, .slice Ag ng cg, .slice Af nf cf]).alloc (.cells #[.int .i64 i, .int .i64 g] 28)
  have hr := Blk.new (w.alloc (.cells #[.int .i64 E, .int .i64 G, .slice Ag ng cg, .slice Af nf cf] 37)) 28 #[.int .i64 i, .int .i64 g]
  rw [World.size_alloc] at hr
  have HR := Lib.hid hr
  have B2 := Lib.hid b2
  have IV := Lib.hid inv
  have HV := Lib.hid hv
  clear inv b1 b2 hg hf hx hr hv
  go_enter Try.func28, Try.ntmps28
  go_wp2_with fail
  refine (rat_any _ _ s f IV.out hfl _ _ _ _ _ _ i _ HG.out HF.out).mono ?_
  rintro e1 w1 ⟨rfl, hb1⟩
  have hr1 := HR.out.below hb1 HR.out.lt
  have k0 := blk0 hr1
  have k1 := blk1 hr1
  have l1 := hr1.lt
  have l2 : w.heap.size + 1 ≠ w1.heap.size := Nat.ne_of_lt l1
  have B3 := Lib.hid (B2.out.trans (hb1.mono B2.out.size))
  clear hb1 hr1
  cases ha : atL s i with
  | none =>
    have HA : Hid (atV s i = .tuple #[.agg #[.int .i64 0, .int .i64 0], .bool false]) := by unfold atV; rw [ha]; trivial
    have HB : Hid (v = false) := by rw [← HV.out]; unfold aliveB; rw [ha]; simp; trivial
    clear ha
    rw [HA.out]
    go_wp2_with fail
    go_ret
    exact ⟨ret_bool HB.out.symm, B3.out.alloc B3.out.size _⟩
  | some g' =>
    have HA : Hid (atV s i = .tuple #[.agg #[.int .i64 i, .int .i64 g'], .bool true]) := by unfold atV; rw [ha]; trivial
    have HB : Hid (v = decide (g' = g)) := by rw [← HV.out]; unfold aliveB; rw [ha]; simp only [Option.some.injEq]; trivial
    clear ha
    rw [HA.out]
    by_cases hg : g' = g
    · subst hg
      go_wp2_with fail
      go_ret
      exact ⟨ret_bool (by rw [HB.out]; simp), B3.out.alloc B3.out.size _⟩
    · have d : (g' == g) = false := by rw [beq_eq_false_iff_ne]; exact hg
      have HG2 := Lib.hid hg
      clear hg
      go_wp2_with fail
      go_ret
      exact ⟨ret_bool (by rw [HB.out]; simp [HG2.out]), B3.out.alloc B3.out.size _⟩

/-- the three blocks that Take and Give begin with -/
structure Start (w W : World) (E : Nat) (G : Int) (Ag : Option Addr) (ng cg : Nat) (Af : Option Addr) (nf cf : Nat) (s : Sl) (f : List Int) (q : Nat) (t0 : TypeId) (c0 : Array Value) (m : Nat) (c1 : Array Value) : Prop where
  hg : Reads W W.heap.size 1 Ag ng (ints (gensL s))
  hf : Reads W W.heap.size 1 Af nf (ints f)
  kx : Blk W w.heap.size 37 #[.int .i64 E, .int .i64 G, .slice Ag ng cg, .slice Af nf cf]
  k0 : Blk W q t0 c0
  k1 : Blk W m 28 c1
  hb : Below w.heap.size w W

theorem start_take (w : World) (E : Nat) (G : Int) (Ag : Option Addr) (ng cg : Nat) (Af : Option Addr) (nf cf : Nat) (s : Sl) (f : List Int) (hg : Reads w w.heap.size 1 Ag ng (ints (gensL s))) (hf : Reads w w.heap.size 1 Af nf (ints f)) :
    Start w (((w.alloc (.cells #[.int .i64 E, .int .i64 G, .slice Ag ng cg, .slice Af nf cf] 37)).alloc (.cells #[.int .i64 0, .int .i64 0, .slice none 0 0, .slice none 0 0] 37)).alloc (.cells #[.int .i64 0, .int .i64 0] 28)) E G Ag ng cg Af nf cf s f (w.heap.size + 1) 37 #[.int .i64 0, .int .i64 0, .slice none 0 0, .slice none 0 0] (w.heap.size + 1 + 1) #[.int .i64 0, .int .i64 0] := by
  have b1 : Below w.heap.size w (w.alloc (.cells #[.int .i64 E, .int .i64 G, .slice Ag ng cg, .slice Af nf cf] 37)) := (Below.refl _ _).alloc (Nat.le_refl _) _
  have b2 : Below w.heap.size w ((w.alloc (.cells #[.int .i64 E, .int .i64 G, .slice Ag ng cg, .slice Af nf cf] 37)).alloc (.cells #[.int .i64 0, .int .i64 0, .slice none 0 0, .slice none 0 0] 37)) := b1.alloc (by simp) _
  have b3 : Below w.heap.size w (((w.alloc (.cells #[.int .i64 E, .int .i64 G, .slice Ag ng cg, .slice Af nf cf] 37)).alloc (.cells #[.int .i64 0, .int .i64 0, .slice none 0 0, .slice none 0 0] 37)).alloc (.cells #[.int .i64 0, .int .i64 0] 28)) := b2.alloc (by simp; omega) _
  refine ⟨hg.over b3, hf.over b3, ((Blk.new w 37 _).alloc _).alloc _, ?_, ?_, b3⟩
  · have := Blk.new (w.alloc (.cells #[.int .i64 E, .int .i64 G, .slice Ag ng cg, .slice Af nf cf] 37)) 37 #[.int .i64 0, .int .i64 0, .slice none 0 0, .slice none 0 0]
    rw [World.size_alloc] at this
    exact this.alloc _
  · have := Blk.new ((w.alloc (.cells #[.int .i64 E, .int .i64 G, .slice Ag ng cg, .slice Af nf cf] 37)).alloc (.cells #[.int .i64 0, .int .i64 0, .slice none 0 0, .slice none 0 0] 37)) 28 #[.int .i64 0, .int .i64 0]
    rw [World.size_alloc, World.size_alloc] at this
    exact this

/-- the results are written: two blocks, six cells -/
abbrev six (Z : World) (q m : Nat) (x y z u a b : Value) : World := (((((Z.setCell ⟨q, 0, none⟩ x).setCell ⟨q, 1, none⟩ y).setCell ⟨q, 2, none⟩ z).setCell ⟨q, 3, none⟩ u).setCell ⟨m, 0, none⟩ a).setCell ⟨m, 1, none⟩ b
section
variable {Z : World} {q m : Nat} (x y z u a b : Value)
theorem six_q {c0 c1 c2 c3 d0 d1 : Value} (hq : Blk Z q 37 #[c0, c1, c2, c3]) (hm : Blk Z m 28 #[d0, d1]) : Blk (six Z q m x y z u a b) q 37 #[x, y, z, u] :=
  have hne : q ≠ m := hq.ne_ hm (by decide)
  ((four_set hq x y z u).far (p := ⟨m, 0, none⟩) hne a).far (p := ⟨m, 1, none⟩) hne b
theorem six_m {c0 c1 c2 c3 d0 d1 : Value} (hq : Blk Z q 37 #[c0, c1, c2, c3]) (hm : Blk Z m 28 #[d0, d1]) : Blk (six Z q m x y z u a b) m 28 #[a, b] :=
  have hne : m ≠ q := fun e => hq.ne_ hm (by decide) e.symm
  two_set ((((hm.far (p := ⟨q, 0, none⟩) hne x).far (p := ⟨q, 1, none⟩) hne y).far (p := ⟨q, 2, none⟩) hne z).far (p := ⟨q, 3, none⟩) hne u) a b
theorem six_reads {A : Option Addr} {n : Nat} {xs : List Value} (h : Reads Z Z.heap.size 1 A n xs) (h1 : Away A n q) (h2 : Away A n m) : Reads (six Z q m x y z u a b) (six Z q m x y z u a b).heap.size 1 A n xs :=
  (((((h.away ⟨q, 0, none⟩ x h1).away ⟨q, 1, none⟩ y h1).away ⟨q, 2, none⟩ z h1).away ⟨q, 3, none⟩ u h1).away ⟨m, 0, none⟩ a h2).away ⟨m, 1, none⟩ b h2
theorem six_below {w : World} (h : Below w.heap.size w Z) (h1 : w.heap.size ≤ q) (h2 : w.heap.size ≤ m) : Below w.heap.size w (six Z q m x y z u a b) :=
  (((((h.setCell (p := ⟨q, 0, none⟩) h1 x).setCell (p := ⟨q, 1, none⟩) h1 y).setCell (p := ⟨q, 2, none⟩) h1 z).setCell (p := ⟨q, 3, none⟩) h1 u).setCell (p := ⟨m, 0, none⟩) h2 a).setCell (p := ⟨m, 1, none⟩) h2 b
end
/-- how the world lies behind the results -/
structure Fin (w V : World) (q m : Nat) (x y : Value) (Ag : Option Addr) (ng cg : Nat) (Af : Option Addr) (nf cf : Nat) (a b : Value) (gs f : List Int) : Prop where
  kq : Blk V q 37 #[x, y, .slice Ag ng cg, .slice Af nf cf]
  km : Blk V m 28 #[a, b]
  hg : Reads V V.heap.size 1 Ag ng (ints gs)
  hf : Reads V V.heap.size 1 Af nf (ints f)
  hb : Below w.heap.size w V
theorem Fin.drew {w V : World} {q m : Nat} {x y : Value} {Ag : Option Addr} {ng cg : Nat} {Af : Option Addr} {nf cf : Nat} {a b : Value} {gs f : List Int} (h : Fin w V q m x y Ag ng cg Af nf cf a b gs f) : Fin w V.drew q m x y Ag ng cg Af nf cf a b gs f :=
  ⟨h.kq.drew, h.km.drew, h.hg.drew, h.hf.drew, h.hb.drew⟩
theorem Start.fin {w W : World} {E : Nat} {G : Int} {Ag : Option Addr} {ng cg : Nat} {Af : Option Addr} {nf cf : Nat} {s : Sl} {f : List Int} {q m : Nat} {c0 c1 c2 c3 d0 d1 : Value} (h : Start w W E G Ag ng cg Af nf cf s f q 37 #[c0, c1, c2, c3] m #[d0, d1]) (a b : Value) (h1 : Away Ag ng q) (h2 : Away Ag ng m) (h3 : Away Af nf q) (h4 : Away Af nf m) (hq : w.heap.size ≤ q) (hm : w.heap.size ≤ m) :
    Fin w (six W q m (.int .i64 E) (.int .i64 G) (.slice Ag ng cg) (.slice Af nf cf) a b) q m (.int .i64 E) (.int .i64 G) Ag ng cg Af nf cf a b (gensL s) f :=
  ⟨six_q _ _ _ _ _ _ h.k0 h.k1, six_m _ _ _ _ _ _ h.k0 h.k1, six_reads _ _ _ _ _ _ h.hg h1 h2, six_reads _ _ _ _ _ _ h.hf h3 h4, six_below _ _ _ _ _ _ h.hb hq hm⟩
theorem away_of_new {w : World} {A : Option Addr} {n k : Nat} {xs : List Value} (h : Reads w w.heap.size 1 A n xs) (hk : w.heap.size ≤ k) : Away A n k := h.away_of hk

set_option maxRecDepth 100000 in
set_option maxHeartbeats 2000000 in
theorem rtake_full (E : Nat) (G : Int) (s : Sl) (Ag : Option Addr) (ng cg : Nat) (Af : Option Addr) (cf : Nat) (hE : ng = E) (w : World) (hg : Reads w w.heap.size 1 Ag ng (ints (gensL s))) :
    Calls Try.prog 24 #[.agg #[.int .i64 E, .int .i64 G, .slice Ag ng cg, .slice Af 0 cf]] w (RPost w E G Ag ng Af 0 s [] fun v => .returned (.tuple #[v, .agg #[.int .i64 0, .int .i64 0], .int .i64 9])) := by
  have hr0 : Reads w w.heap.size 1 Af 0 (ints []) := ⟨by simp [ints], fun h => absurd h (by omega)⟩
  have ST := Lib.hid (start_take w E G Ag ng cg Af 0 cf s [] hg hr0)
  have HG0 := Lib.hid hg
  have HF0 := Lib.hid hr0
  clear hg hr0
  subst hE
  go_enter Try.func24, Try.ntmps24
  go_upto_region 1 with (fail)
  generalize (((w.alloc (.cells #[.int .i64 ng, .int .i64 G, .slice Ag ng cg, .slice Af 0 cf] 37)).alloc (.cells #[.int .i64 0, .int .i64 0, .slice none 0 0, .slice none 0 0] 37)).alloc (.cells #[.int .i64 0, .int .i64 0] 28)) = W at ST ⊢
  have x0 := blk4_0 ST.out.kx
  have x1 := blk4_1 ST.out.kx
  have x2 := blk4_2 ST.out.kx
  have x3 := blk4_3 ST.out.kx
  have q0 := blk4_0 ST.out.k0
  have q1 := blk4_1 ST.out.k0
  have q2 := blk4_2 ST.out.k0
  have q3 := blk4_3 ST.out.k0
  have y0 := ST.out.k0.frozen 0
  have y1 := ST.out.k0.frozen 1
  have y2 := ST.out.k0.frozen 2
  have y3 := ST.out.k0.frozen 3
  have p0 := blk0 ST.out.k1
  have p1 := blk1 ST.out.k1
  have z0 := ST.out.k1.frozen 0
  have z1 := ST.out.k1.frozen 1
  go_wp2_with fail
  have hq := six_q (.int .i64 ng) (.int .i64 G) (.slice Ag ng cg) (.slice Af 0 cf) (.int .i64 0) (.int .i64 0) ST.out.k0 ST.out.k1
  have hm := six_m (.int .i64 ng) (.int .i64 G) (.slice Ag ng cg) (.slice Af 0 cf) (.int .i64 0) (.int .i64 0) ST.out.k0 ST.out.k1
  have e0 := blk4_0 hq
  have e1 := blk4_1 hq
  have e2 := blk4_2 hq
  have e3 := blk4_3 hq
  have f0 := blk0 hm
  have f1 := blk1 hm
  exact bodyPost_ret (v := .tuple #[.agg #[.int .i64 ng, .int .i64 G, .slice Ag ng cg, .slice Af 0 cf], .agg #[.int .i64 0, .int .i64 0], .int .i64 9]) (by simp [results, Try.results24, go_sem, e0, e1, e2, e3, f0, f1]) rfl
    ⟨Ag, ng, cg, Af, 0, cf, rfl, Nat.zero_le _, fun _ _ h => h, fun _ _ h => h, six_reads _ _ _ _ _ _ ST.out.hg (HG0.out.away_of (Nat.le_succ _)) (HG0.out.away_of (by omega)), six_reads _ _ _ _ _ _ ST.out.hf (HF0.out.away_of (Nat.le_succ _)) (HF0.out.away_of (by omega)), six_below _ _ _ _ _ _ ST.out.hb (Nat.le_succ _) (by omega)⟩

set_option maxRecDepth 100000 in
set_option maxHeartbeats 2000000 in
theorem rtake_pop (E : Nat) (G : Int) (s : Sl) (f1 : List Int) (k : Nat) (g : Int) (al : Bool) (hy : s[k]? = some (g, al)) (hs : s.length ≤ 1024) (n1 : Nat) (hn1 : n1 ≤ 2000) (Ag : Option Addr) (ng cg : Nat) (Af : Option Addr) (cf : Nat) (hcf : n1 + 1 ≤ cf) (w : World) (hg : Reads w w.heap.size 1 Ag ng (ints (gensL s))) (hf : Reads w w.heap.size 1 Af (n1 + 1) (ints (f1 ++ [(k : Int)]))) :
    Calls Try.prog 24 #[.agg #[.int .i64 E, .int .i64 G, .slice Ag ng cg, .slice Af (n1 + 1) cf]] w (RPost w E G Ag ng Af (n1 + 1) (s.set k (g, true)) f1 fun v => .returned (.tuple #[v, .agg #[.int .i64 k, .int .i64 g], .int .i64 0])) := by
  have ST := Lib.hid (start_take w E G Ag ng cg Af (n1 + 1) cf s (f1 ++ [(k : Int)]) hg hf)
  have HG0 := Lib.hid hg
  have HF0 := Lib.hid hf
  have hfl : f1.length = n1 := by have := hf.ilen; simp at this; exact this
  have hng : ng = s.length := by have := hg.ilen; rw [gensL_length] at this; exact this.symm
  have hks : k < s.length := (List.getElem?_eq_some_iff.1 hy).1
  have hkg : k < ng := by omega
  have hkn : (k : Int) < (ng : Int) := by omega
  have hk0 : (0 : Int) ≤ k := by omega
  have hng2 : ng ≤ 1024 := by omega
  have hcf1 : n1 ≤ cf := by omega
  obtain ⟨bf, off, rfl, hbf, _⟩ := ints_at HF0.out (k := n1) (x := (k : Int)) (by simp [← hfl])
  obtain ⟨bg, og, rfl, hbg, _⟩ := ints_at HG0.out (gens_get hy)
  obtain ⟨_, _, he, _, hcf0⟩ := ints_at ST.out.hf (k := n1) (x := (k : Int)) (by simp [← hfl])
  obtain ⟨rfl, rfl⟩ : _ ∧ _ := by simpa using he
  obtain ⟨_, _, he, _, hcg0⟩ := ints_at ST.out.hg (gens_get hy)
  obtain ⟨rfl, rfl⟩ : _ ∧ _ := by simpa using he
  dsimp only at hcg0
  have HL := Lib.hid hfl
  have HS := Lib.hid (gensL_set (b := true) hy)
  clear hg hf he hy hng hks hs hfl
  go_enter Try.func24, Try.ntmps24
  go_upto_region 1 with (fail)
  generalize (((w.alloc (.cells #[.int .i64 E, .int .i64 G, .slice (some ⟨bg, og, none⟩) ng cg, .slice (some ⟨bf, off, none⟩) (n1 + 1) cf] 37)).alloc (.cells #[.int .i64 0, .int .i64 0, .slice none 0 0, .slice none 0 0] 37)).alloc (.cells #[.int .i64 0, .int .i64 0] 28)) = W at ST hcf0 hcg0 ⊢
  have x0 := blk4_0 ST.out.kx
  have x1 := blk4_1 ST.out.kx
  have x2 := blk4_2 ST.out.kx
  have x3 := blk4_3 ST.out.kx
  have xz := ST.out.kx.frozen 3
  go_upto_region 5 with (fail)
  have st2 : Start w (W.setCell ⟨w.heap.size, 3, none⟩ (.slice (some ⟨bf, off, none⟩) n1 cf)) E G (some ⟨bg, og, none⟩) ng cg (some ⟨bf, off, none⟩) n1 cf s f1 (w.heap.size + 1) 37 #[.int .i64 0, .int .i64 0, .slice none 0 0, .slice none 0 0] (w.heap.size + 1 + 1) #[.int .i64 0, .int .i64 0] := by
    refine ⟨ST.out.hg.away _ _ (HG0.out.away_of (Nat.le_refl _)), ?_, ?_, ST.out.k0.far (by simp) _, ST.out.k1.far (by simp; omega) _, ST.out.hb.setCell (Nat.le_refl _) _⟩
    · have := reads_take (k := n1) (ST.out.hf.away ⟨w.heap.size, 3, none⟩ (.slice (some ⟨bf, off, none⟩) n1 cf) (HF0.out.away_of (Nat.le_refl _))) (by omega)
      rw [show (f1 ++ [(k : Int)]).take n1 = f1 by rw [← HL.out]; simp] at this
      exact this
    · have := ST.out.kx.set_ 3 (.slice (some ⟨bf, off, none⟩) n1 cf)
      simpa using this
  have hcg1 := (World.cell?_setCell_other W ⟨w.heap.size, 3, none⟩ ⟨bg, og + k, none⟩ (.slice (some ⟨bf, off, none⟩) n1 cf) (fun e => by injection e with e; omega)).trans hcg0
  have ST2 := Lib.hid st2
  clear st2 x0 x1 x2 x3 xz hcf0 hcg0 ST
  generalize W.setCell ⟨w.heap.size, 3, none⟩ (.slice (some ⟨bf, off, none⟩) n1 cf) = Z at ST2 hcg1 ⊢
  have x0 := blk4_0 ST2.out.kx
  have x1 := blk4_1 ST2.out.kx
  have x2 := blk4_2 ST2.out.kx
  have x3 := blk4_3 ST2.out.kx
  have q0 := blk4_0 ST2.out.k0
  have q1 := blk4_1 ST2.out.k0
  have q2 := blk4_2 ST2.out.k0
  have q3 := blk4_3 ST2.out.k0
  have y0 := ST2.out.k0.frozen 0
  have y1 := ST2.out.k0.frozen 1
  have y2 := ST2.out.k0.frozen 2
  have y3 := ST2.out.k0.frozen 3
  have p0 := blk0 ST2.out.k1
  have p1 := blk1 ST2.out.k1
  have z0 := ST2.out.k1.frozen 0
  have z1 := ST2.out.k1.frozen 1
  have d1 : bg ≠ w.heap.size + 1 := by omega
  have d2 : bg ≠ w.heap.size + 1 + 1 := by omega
  have d3 : w.heap.size + 1 ≠ bg := by omega
  have d4 : w.heap.size + 1 + 1 ≠ bg := by omega
  have d5 : w.heap.size ≠ w.heap.size + 1 + 1 := by omega
  have d6 : w.heap.size + 1 + 1 ≠ w.heap.size := by omega
  go_region_held3 (fun w' => w'.cell? ⟨w.heap.size, 0, none⟩ = some (.int .i64 E) ∧ w'.cell? ⟨w.heap.size, 1, none⟩ = some (.int .i64 G) ∧ w'.cell? ⟨w.heap.size, 2, none⟩ = some (.slice (some ⟨bg, og, none⟩) ng cg) ∧ w'.cell? ⟨w.heap.size, 3, none⟩ = some (.slice (some ⟨bf, off, none⟩) n1 cf) ∧ w'.cell? ⟨bg, og + k, none⟩ = some (.int .i64 g)) (go_keep) (fail)
  all_goals (
    go_wp2_with fail
    have fin := (ST2.out.fin (.int .i64 k) (.int .i64 g) (HG0.out.away_of (by omega)) (HG0.out.away_of (by omega)) ((reads_take (k := n1) HF0.out (by omega)).away_of (by omega)) ((reads_take (k := n1) HF0.out (by omega)).away_of (by omega)) (by omega) (by omega)).drew
    have FIN := Lib.hid fin
    clear fin x0 x1 x2 x3 q0 q1 q2 q3 y0 y1 y2 y3 p0 p1 z0 z1 ST2 hcg1
    generalize (six Z (w.heap.size + 1) (w.heap.size + 1 + 1) (.int .i64 E) (.int .i64 G) (.slice (some ⟨bg, og, none⟩) ng cg) (.slice (some ⟨bf, off, none⟩) n1 cf) (.int .i64 k) (.int .i64 g)).drew = V at FIN ⊢
    have e0 := blk4_0 FIN.out.kq
    have e1 := blk4_1 FIN.out.kq
    have e2 := blk4_2 FIN.out.kq
    have e3 := blk4_3 FIN.out.kq
    have g0 := blk0 FIN.out.km
    have g1 := blk1 FIN.out.km
    refine bodyPost_ret (v := .tuple #[.agg #[.int .i64 E, .int .i64 G, .slice (some ⟨bg, og, none⟩) ng cg, .slice (some ⟨bf, off, none⟩) n1 cf], .agg #[.int .i64 k, .int .i64 g], .int .i64 0]) (by simp [results, Try.results24, go_sem, e0, e1, e2, e3, g0, g1]) rfl ?_
    exact ⟨_, ng, cg, _, n1, cf, rfl, hcf1, fun _ _ h => h, fun _ _ h hn => h (by omega), by rw [HS.out]; exact FIN.out.hg, FIN.out.hf, FIN.out.hb⟩)

theorem ownsRow_setCell_below {w : World} {B size n : Nat} {e : TypeId} {v : Value} {xs : List Value} (h : w.ownsRow B e size v n xs) {a : Addr} (ha : a.block < B) (u : Value) : (w.setCell a u).ownsRow B e size v n xs :=
  h.kept (row := some a.block) ⟨rfl, rfl, rfl, by simp, fun j _ hj => Below.heap_setCell _ _ _ _ (fun e => hj (by rw [e]))⟩ (by
    rcases hv : v.ownBlock with _ | k
    · exact .inl rfl
    · exact .inr (fun e => by injection e with e; have := (h.lt k hv).1; omega))

set_option maxRecDepth 100000 in
set_option maxHeartbeats 2000000 in
theorem rtake_fresh (E : Nat) (G : Int) (s : Sl) (Ag : Option Addr) (ng cg : Nat) (Af : Option Addr) (cf : Nat) (hE : ng ≠ E) (hng : ng ≤ 1024) (w : World) (hg : Reads w w.heap.size 1 Ag ng (ints (gensL s))) :
    Calls Try.prog 24 #[.agg #[.int .i64 E, .int .i64 G, .slice Ag ng cg, .slice Af 0 cf]] w (RPost w E G Ag ng Af 0 (s ++ [(0, true)]) [] fun v => .returned (.tuple #[v, .agg #[.int .i64 ng, .int .i64 0], .int .i64 0])) := by
  have hr0 : Reads w w.heap.size 1 Af 0 (ints []) := ⟨by simp [ints], fun h => absurd h (by omega)⟩
  have ST := Lib.hid (start_take w E G Ag ng cg Af 0 cf s [] hg hr0)
  have HG0 := Lib.hid hg
  have HF0 := Lib.hid hr0
  have hne : ((ng : Int) == (E : Int)) = false := by rw [beq_eq_false_iff_ne]; omega
  have hwr : IntKind.i64.wrap (ng : Int) = (ng : Int) := by rw [IntKind.wrap_i64]; omega
  clear hg hr0 hE
  go_enter Try.func24, Try.ntmps24
  go_upto_region 1 with (fail)
  generalize (((w.alloc (.cells #[.int .i64 E, .int .i64 G, .slice Ag ng cg, .slice Af 0 cf] 37)).alloc (.cells #[.int .i64 0, .int .i64 0, .slice none 0 0, .slice none 0 0] 37)).alloc (.cells #[.int .i64 0, .int .i64 0] 28)) = W at ST ⊢
  have x0 := blk4_0 ST.out.kx
  have x2 := blk4_2 ST.out.kx
  have x3 := blk4_3 ST.out.kx
  have lx := ST.out.kx.lt
  have lq := ST.out.k0.lt
  have lm := ST.out.k1.lt
  have HO := Lib.hid (World.ownsRow_made (base := W.heap.size) (e := 3) (size := 1) W #[] 0 (Nat.le_refl _) (by simp) (by simp))
  have HB3 := Lib.hid ((Below.refl W.heap.size W).alloc (Nat.le_refl _) (.cells #[] 3))
  have HX3 := Lib.hid (ST.out.hg.over HB3.out)
  go_wp2_with (at_builtin
               go_must (first
                 | (have _t := tok1
                    refine wpList_app1 (w0 := W) _ i64_ty rfl (.tmp 43) (.tmp 44) rfl rfl (B4.out.alloc B4.out.size _) (O4.out.alloc _) rfl (reads_new _ 3 (0, 0) [.int .i64 0]) (ints_one [0]) (by unfold maxLen; omega) (by omega) ?_
                    intro A5 c5 w5 b5 own5 hg5 hat5
                    have B5 := Lib.hid b5
                    have O5 := Lib.hid own5
                    have x2 := blk4_2 (ST.out.kx.below b5 lx)
                    have xz := (ST.out.kx.below b5 lx).frozen 2
                    clear own5 hg5 hat5 b5)
                 | (refine wpList_app1 (w0 := W) _ i64_ty rfl (.tmp 40) (.tmp 42) rfl rfl HB3.out HO.out rfl HX3.out (ints_one _) (by unfold maxLen; omega) (by omega) ?_
                    intro A4 c4 w4 b4 own4 hg4 hat4
                    simp only [Nat.zero_add, List.nil_append] at own4 hat4 ⊢
                    have B4 := Lib.hid b4
                    have O4 := Lib.hid own4
                    have tok1 : True := trivial
                    clear own4 hg4 hat4 b4)))
  have ho := ownsRow_setCell_below O5.out (a := ⟨w.heap.size, 2, none⟩) lx (.slice A5 (ng + 1) c5)
  rw [show [Value.int .i64 0] = ints [0] from rfl, ints_append] at ho
  have hxn := (ST.out.kx.below B5.out lx).set_ 2 (.slice A5 (ng + 1) c5)
  have st2 : Start w (w5.setCell ⟨w.heap.size, 2, none⟩ (.slice A5 (ng + 1) c5)) E G A5 (ng + 1) c5 Af 0 cf (s ++ [(0, true)]) [] (w.heap.size + 1) 37 #[.int .i64 0, .int .i64 0, .slice none 0 0, .slice none 0 0] (w.heap.size + 1 + 1) #[.int .i64 0, .int .i64 0] := by
    refine ⟨?_, ⟨by simp [ints], fun h => absurd h (by omega)⟩, by simpa using hxn, (ST.out.k0.below B5.out lq).far (by simp) _, (ST.out.k1.below B5.out lm).far (by simp; omega) _, (ST.out.hb.trans (B5.out.mono (by omega))).setCell (Nat.le_refl _) _⟩
    rw [show gensL (s ++ [(0, true)]) = gensL s ++ [0] by simp [gensL]]
    exact Reads.of_own ho
  have HA1 := Lib.hid (own_away (k := w.heap.size + 1) ho lq)
  have HA2 := Lib.hid (own_away (k := w.heap.size + 1 + 1) ho lm)
  have HFAR : Hid (∀ k, k < w.heap.size → Away A5 (ng + 1) k) := fun k hk => own_away ho (by omega)
  have ST2 := Lib.hid st2
  clear st2 ho hxn x0 x2 x3 xz O5 B5 HO HB3 HX3 ST lx lq lm
  generalize w5.setCell ⟨w.heap.size, 2, none⟩ (.slice A5 (ng + 1) c5) = Z at ST2 ⊢
  have x0 := blk4_0 ST2.out.kx
  have x1 := blk4_1 ST2.out.kx
  have x2 := blk4_2 ST2.out.kx
  have x3 := blk4_3 ST2.out.kx
  have q0 := blk4_0 ST2.out.k0
  have q1 := blk4_1 ST2.out.k0
  have q2 := blk4_2 ST2.out.k0
  have q3 := blk4_3 ST2.out.k0
  have y0 := ST2.out.k0.frozen 0
  have y1 := ST2.out.k0.frozen 1
  have y2 := ST2.out.k0.frozen 2
  have y3 := ST2.out.k0.frozen 3
  have p0 := blk0 ST2.out.k1
  have p1 := blk1 ST2.out.k1
  have z0 := ST2.out.k1.frozen 0
  have z1 := ST2.out.k1.frozen 1
  have d5 : w.heap.size ≠ w.heap.size + 1 + 1 := by omega
  have d6 : w.heap.size + 1 + 1 ≠ w.heap.size := by omega
  go_region_held3 (fun w' => w'.cell? ⟨w.heap.size, 0, none⟩ = some (.int .i64 E) ∧ w'.cell? ⟨w.heap.size, 1, none⟩ = some (.int .i64 G) ∧ w'.cell? ⟨w.heap.size, 2, none⟩ = some (.slice A5 (ng + 1) c5) ∧ w'.cell? ⟨w.heap.size, 3, none⟩ = some (.slice Af 0 cf)) (go_keep) (fail)
  all_goals (
    go_wp2_with fail
    have fin := (ST2.out.fin (.int .i64 ng) (.int .i64 0) HA1.out HA2.out (HF0.out.away_of (by omega)) (HF0.out.away_of (by omega)) (by omega) (by omega)).drew
    have FIN := Lib.hid fin
    clear fin x0 x1 x2 x3 q0 q1 q2 q3 y0 y1 y2 y3 p0 p1 z0 z1 ST2
    generalize (six Z (w.heap.size + 1) (w.heap.size + 1 + 1) (.int .i64 E) (.int .i64 G) (.slice A5 (ng + 1) c5) (.slice Af 0 cf) (.int .i64 ng) (.int .i64 0)).drew = V at FIN ⊢
    have e0 := blk4_0 FIN.out.kq
    have e1 := blk4_1 FIN.out.kq
    have e2 := blk4_2 FIN.out.kq
    have e3 := blk4_3 FIN.out.kq
    have g0 := blk0 FIN.out.km
    have g1 := blk1 FIN.out.km
    refine bodyPost_ret (v := .tuple #[.agg #[.int .i64 E, .int .i64 G, .slice A5 (ng + 1) c5, .slice Af 0 cf], .agg #[.int .i64 ng, .int .i64 0], .int .i64 0]) (by simp [results, Try.results24, go_sem, e0, e1, e2, e3, g0, g1]) rfl ?_
    exact ⟨A5, ng + 1, c5, Af, 0, cf, rfl, Nat.zero_le _, fun k hk _ => HFAR.out k hk, fun _ _ h => h, FIN.out.hg, FIN.out.hf, FIN.out.hb⟩)

/-- Take, whichever way it goes -/
theorem rtake_any (E : Nat) (G : Int) (s : Sl) (f : List Int) (hs : s.length ≤ 1024) (hfl : f.length ≤ 2000) (Ag : Option Addr) (ng cg : Nat) (Af : Option Addr) (nf cf : Nat) (hcf : nf ≤ cf) (a b e : Int) (s' : Sl) (f' : List Int) (ht : TakeIs E s f a b e s' f') (w : World) (hg : Reads w w.heap.size 1 Ag ng (ints (gensL s))) (hf : Reads w w.heap.size 1 Af nf (ints f)) :
    Calls Try.prog 24 #[.agg #[.int .i64 E, .int .i64 G, .slice Ag ng cg, .slice Af nf cf]] w (RPost w E G Ag ng Af nf s' f' fun v => .returned (.tuple #[v, .agg #[.int .i64 a, .int .i64 b], .int .i64 e])) := by
  have hng : s.length = ng := by have := hg.ilen; rw [gensL_length] at this; exact this
  have hnf := hf.ilen
  cases ht with
  | pop f1 k g al hfe hy =>
    subst hfe
    simp at hnf hfl
    subst hnf
    exact rtake_pop E G s f' k b al hy hs f'.length (by omega) Ag ng cg Af cf hcf w hg hf
  | full hfe hE =>
    subst hfe
    simp at hnf
    subst hnf
    exact rtake_full E G s Ag ng cg Af cf (by omega) w hg
  | fresh hfe hE =>
    subst hfe
    simp at hnf
    subst hnf
    rw [hng]
    exact rtake_fresh E G s Ag ng cg Af cf (by omega) (by omega) w hg
end Go.Proofs.Ytohlcopnifmjoab
