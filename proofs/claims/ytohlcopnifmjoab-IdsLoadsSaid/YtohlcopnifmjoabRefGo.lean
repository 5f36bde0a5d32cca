/- ids: the reference: Go, one step of a script. -/
import Derived.Test.YtohlcopnifmjoabRefGive
namespace Go.Proofs.Ytohlcopnifmjoab
open Go.RowKit

theorem start_go (w : World) (E : Nat) (G : Int) (Ag : Option Addr) (ng cg : Nat) (Af : Option Addr) (nf cf : Nat) (s : Sl) (f : List Int) (gv : Bool) (i g : Int) (hg : Reads w w.heap.size 1 Ag ng (ints (gensL s))) (hf : Reads w w.heap.size 1 Af nf (ints f)) :
    Start w ((((w.alloc (.cells #[.int .i64 E, .int .i64 G, .slice Ag ng cg, .slice Af nf cf] 37)).alloc (.cells #[.bool gv, .int .i64 i, .int .i64 g] 32)).alloc (.cells #[.int .i64 0, .int .i64 0, .slice none 0 0, .slice none 0 0] 37)).alloc (.cells #[.int .i64 0, .int .i64 0] 28)) E G Ag ng cg Af nf cf s f (w.heap.size + 1 + 1) 37 #[.int .i64 0, .int .i64 0, .slice none 0 0, .slice none 0 0] (w.heap.size + 1 + 1 + 1) #[.int .i64 0, .int .i64 0] ∧ Blk ((((w.alloc (.cells #[.int .i64 E, .int .i64 G, .slice Ag ng cg, .slice Af nf cf] 37)).alloc (.cells #[.bool gv, .int .i64 i, .int .i64 g] 32)).alloc (.cells #[.int .i64 0, .int .i64 0, .slice none 0 0, .slice none 0 0] 37)).alloc (.cells #[.int .i64 0, .int .i64 0] 28)) (w.heap.size + 1) 32 #[.bool gv, .int .i64 i, .int .i64 g] := by
  have b1 : Below w.heap.size w (w.alloc (.cells #[.int .i64 E, .int .i64 G, .slice Ag ng cg, .slice Af nf cf] 37)) := (Below.refl _ _).alloc (Nat.le_refl _) _
  have b2 : Below w.heap.size w ((w.alloc (.cells #[.int .i64 E, .int .i64 G, .slice Ag ng cg, .slice Af nf cf] 37)).alloc (.cells #[.bool gv, .int .i64 i, .int .i64 g] 32)) := b1.alloc (by simp) _
  have b3 : Below w.heap.size w (((w.alloc (.cells #[.int .i64 E, .int .i64 G, .slice Ag ng cg, .slice Af nf cf] 37)).alloc (.cells #[.bool gv, .int .i64 i, .int .i64 g] 32)).alloc (.cells #[.int .i64 0, .int .i64 0, .slice none 0 0, .slice none 0 0] 37)) := b2.alloc (by simp; omega) _
  have b4 : Below w.heap.size w ((((w.alloc (.cells #[.int .i64 E, .int .i64 G, .slice Ag ng cg, .slice Af nf cf] 37)).alloc (.cells #[.bool gv, .int .i64 i, .int .i64 g] 32)).alloc (.cells #[.int .i64 0, .int .i64 0, .slice none 0 0, .slice none 0 0] 37)).alloc (.cells #[.int .i64 0, .int .i64 0] 28)) := b3.alloc (by simp; omega) _
  refine ⟨⟨hg.over b4, hf.over b4, (((Blk.new w 37 _).alloc _).alloc _).alloc _, ?_, ?_, b4⟩, ?_⟩
  · have := Blk.new ((w.alloc (.cells #[.int .i64 E, .int .i64 G, .slice Ag ng cg, .slice Af nf cf] 37)).alloc (.cells #[.bool gv, .int .i64 i, .int .i64 g] 32)) 37 #[.int .i64 0, .int .i64 0, .slice none 0 0, .slice none 0 0]
    rw [World.size_alloc, World.size_alloc] at this
    exact this.alloc _
  · have := Blk.new (((w.alloc (.cells #[.int .i64 E, .int .i64 G, .slice Ag ng cg, .slice Af nf cf] 37)).alloc (.cells #[.bool gv, .int .i64 i, .int .i64 g] 32)).alloc (.cells #[.int .i64 0, .int .i64 0, .slice none 0 0, .slice none 0 0] 37)) 28 #[.int .i64 0, .int .i64 0]
    rw [World.size_alloc, World.size_alloc, World.size_alloc] at this
    exact this
  · have := Blk.new (w.alloc (.cells #[.int .i64 E, .int .i64 G, .slice Ag ng cg, .slice Af nf cf] 37)) 32 #[.bool gv, .int .i64 i, .int .i64 g]
    rw [World.size_alloc] at this
    exact (this.alloc _).alloc _

set_option maxRecDepth 100000 in
set_option maxHeartbeats 2000000 in
theorem rgo_take (E : Nat) (G : Int) (s : Sl) (f : List Int) (inv : IInv E G s f) (hfl : f.length ≤ 2000) (Ag : Option Addr) (ng cg : Nat) (Af : Option Addr) (nf cf : Nat) (hcf : nf ≤ cf) (i g : Int) (a b e : Int) (s' : Sl) (f' : List Int) (ht : TakeIs E s f a b e s' f') (w : World) (hg : Reads w w.heap.size 1 Ag ng (ints (gensL s))) (hf : Reads w w.heap.size 1 Af nf (ints f)) :
    Calls Try.prog 11 #[.agg #[.int .i64 E, .int .i64 G, .slice Ag ng cg, .slice Af nf cf], .agg #[.bool false, .int .i64 i, .int .i64 g]] w (RPost w E G Ag ng Af nf s' f' fun v => .returned (.tuple #[v, .agg #[.int .i64 a, .int .i64 b], .int .i64 e])) := by
  have ST := Lib.hid (start_go w E G Ag ng cg Af nf cf s f false i g hg hf)
  have HG0 := Lib.hid hg
  have HF0 := Lib.hid hf
  have IV := Lib.hid inv
  have HT := Lib.hid ht
  have hs1024 : s.length ≤ 1024 := Nat.le_trans inv.len inv.e1
  clear hg hf inv ht
  go_enter Try.func11, Try.ntmps11
  go_upto_region 1 with (fail)
  generalize ((((w.alloc (.cells #[.int .i64 E, .int .i64 G, .slice Ag ng cg, .slice Af nf cf] 37)).alloc (.cells #[.bool false, .int .i64 i, .int .i64 g] 32)).alloc (.cells #[.int .i64 0, .int .i64 0, .slice none 0 0, .slice none 0 0] 37)).alloc (.cells #[.int .i64 0, .int .i64 0] 28)) = W at ST ⊢
  have x0 := blk4_0 ST.out.1.kx
  have x1 := blk4_1 ST.out.1.kx
  have x2 := blk4_2 ST.out.1.kx
  have x3 := blk4_3 ST.out.1.kx
  have t0 := (ST.out.2.cell 0).trans rfl
  have t1 := (ST.out.2.cell 1).trans rfl
  have t2 := (ST.out.2.cell 2).trans rfl
  go_wp2_with fail
  refine (rtake_any E G s f hs1024 hfl _ _ _ _ _ _ hcf _ _ _ _ _ HT.out _ ST.out.1.hg ST.out.1.hf).mono ?_
  rintro e1 w1 ⟨Ag', ng', cg', Af', nf', cf', rfl, hcf', far1, far2, rg, rf, hb⟩
  have lq := ST.out.1.k0.lt
  have lm := ST.out.1.k1.lt
  have K0 := Lib.hid (ST.out.1.k0.below hb lq)
  have K1 := Lib.hid (ST.out.1.k1.below hb lm)
  have HB1 := Lib.hid (ST.out.1.hb.trans (hb.mono ST.out.1.hb.size))
  have A1 := Lib.hid (far1 _ lq (HG0.out.away_of (by omega)))
  have A2 := Lib.hid (far1 _ lm (HG0.out.away_of (by omega)))
  have A3 := Lib.hid (far2 _ lq (HF0.out.away_of (by omega)))
  have A4 := Lib.hid (far2 _ lm (HF0.out.away_of (by omega)))
  have hsz := ST.out.1.hb.size
  have FAR1 : Hid (Far w Ag ng Ag' ng') := fun k hk h => far1 k (by omega) h
  have FAR2 : Hid (Far w Af nf Af' nf') := fun k hk h => far2 k (by omega) h
  have RG := Lib.hid rg
  have RF := Lib.hid rf
  clear far1 far2 rg rf hb x0 x1 x2 x3 t0 t1 t2 ST
  have q0 := blk4_0 K0.out
  have q1 := blk4_1 K0.out
  have q2 := blk4_2 K0.out
  have q3 := blk4_3 K0.out
  have y0 := K0.out.frozen 0
  have y1 := K0.out.frozen 1
  have y2 := K0.out.frozen 2
  have y3 := K0.out.frozen 3
  have p0 := blk0 K1.out
  have p1 := blk1 K1.out
  have z0 := K1.out.frozen 0
  have z1 := K1.out.frozen 1
  go_wp2_with fail
  have fin : Fin w ((((((w1.setCell ⟨w.heap.size + 1 + 1, 0, none⟩ (.int .i64 E)).setCell ⟨w.heap.size + 1 + 1, 1, none⟩ (.int .i64 G)).setCell ⟨w.heap.size + 1 + 1, 2, none⟩ (.slice Ag' ng' cg')).setCell ⟨w.heap.size + 1 + 1, 3, none⟩ (.slice Af' nf' cf')).setCell ⟨w.heap.size + 1 + 1 + 1, 0, none⟩ (.int .i64 a)).setCell ⟨w.heap.size + 1 + 1 + 1, 1, none⟩ (.int .i64 b)) (w.heap.size + 1 + 1) (w.heap.size + 1 + 1 + 1) (.int .i64 E) (.int .i64 G) Ag' ng' cg' Af' nf' cf' (.int .i64 a) (.int .i64 b) (gensL s') f' :=
    ⟨six_q _ _ _ _ _ _ K0.out K1.out, six_m _ _ _ _ _ _ K0.out K1.out, six_reads _ _ _ _ _ _ RG.out A1.out A2.out, six_reads _ _ _ _ _ _ RF.out A3.out A4.out, six_below _ _ _ _ _ _ HB1.out (by omega) (by omega)⟩
  have FIN := Lib.hid fin
  clear fin q0 q1 q2 q3 y0 y1 y2 y3 p0 p1 z0 z1 K0 K1 RG RF A1 A2 A3 A4 HB1
  generalize (((((w1.setCell ⟨w.heap.size + 1 + 1, 0, none⟩ (.int .i64 E)).setCell ⟨w.heap.size + 1 + 1, 1, none⟩ (.int .i64 G)).setCell ⟨w.heap.size + 1 + 1, 2, none⟩ (.slice Ag' ng' cg')).setCell ⟨w.heap.size + 1 + 1, 3, none⟩ (.slice Af' nf' cf')).setCell ⟨w.heap.size + 1 + 1 + 1, 0, none⟩ (.int .i64 a)).setCell ⟨w.heap.size + 1 + 1 + 1, 1, none⟩ (.int .i64 b) = V at FIN ⊢
  have e0 := blk4_0 FIN.out.kq
  have e1 := blk4_1 FIN.out.kq
  have e2 := blk4_2 FIN.out.kq
  have e3 := blk4_3 FIN.out.kq
  have g0 := blk0 FIN.out.km
  have g1 := blk1 FIN.out.km
  refine bodyPost_ret (v := .tuple #[.agg #[.int .i64 E, .int .i64 G, .slice Ag' ng' cg', .slice Af' nf' cf'], .agg #[(.int .i64 a), (.int .i64 b)], .int .i64 e]) (by simp [results, Try.results11, go_sem, e0, e1, e2, e3, g0, g1]) rfl ?_
  exact ⟨Ag', ng', cg', Af', nf', cf', rfl, hcf', FAR1.out, FAR2.out, FIN.out.hg, FIN.out.hf, FIN.out.hb⟩

set_option maxRecDepth 100000 in
set_option maxHeartbeats 2000000 in
theorem rgo_give (E : Nat) (G : Int) (s : Sl) (f : List Int) (inv : IInv E G s f) (hfl : f.length ≤ 2000) (Ag : Option Addr) (ng cg : Nat) (Af : Option Addr) (nf cf : Nat) (hcf : nf ≤ cf) (i g : Int) (e : Int) (s' : Sl) (f' : List Int) (ht : GiveIs G s f i g e s' f') (w : World) (hg : Reads w w.heap.size 1 Ag ng (ints (gensL s))) (hf : Reads w w.heap.size 1 Af nf (ints f)) :
    Calls Try.prog 11 #[.agg #[.int .i64 E, .int .i64 G, .slice Ag ng cg, .slice Af nf cf], .agg #[.bool true, .int .i64 i, .int .i64 g]] w (RPost w E G Ag ng Af nf s' f' fun v => .returned (.tuple #[v, .agg #[.int .i64 0, .int .i64 0], .int .i64 e])) := by
  have ST := Lib.hid (start_go w E G Ag ng cg Af nf cf s f true i g hg hf)
  have HG0 := Lib.hid hg
  have HF0 := Lib.hid hf
  have IV := Lib.hid inv
  have HT := Lib.hid ht
  have hs1024 : s.length ≤ 1024 := Nat.le_trans inv.len inv.e1
  clear hg hf inv ht
  go_enter Try.func11, Try.ntmps11
  go_upto_region 1 with (fail)
  generalize ((((w.alloc (.cells #[.int .i64 E, .int .i64 G, .slice Ag ng cg, .slice Af nf cf] 37)).alloc (.cells #[.bool true, .int .i64 i, .int .i64 g] 32)).alloc (.cells #[.int .i64 0, .int .i64 0, .slice none 0 0, .slice none 0 0] 37)).alloc (.cells #[.int .i64 0, .int .i64 0] 28)) = W at ST ⊢
  have x0 := blk4_0 ST.out.1.kx
  have x1 := blk4_1 ST.out.1.kx
  have x2 := blk4_2 ST.out.1.kx
  have x3 := blk4_3 ST.out.1.kx
  have t0 := (ST.out.2.cell 0).trans rfl
  have t1 := (ST.out.2.cell 1).trans rfl
  have t2 := (ST.out.2.cell 2).trans rfl
  go_wp2_with fail
  refine (rgive_any E G s f IV.out hfl _ _ _ _ _ _ hcf _ _ _ _ _ HT.out _ ST.out.1.hg ST.out.1.hf).mono ?_
  rintro e1 w1 ⟨Ag', ng', cg', Af', nf', cf', rfl, hcf', far1, far2, rg, rf, hb⟩
  have lq := ST.out.1.k0.lt
  have lm := ST.out.1.k1.lt
  have K0 := Lib.hid (ST.out.1.k0.below hb lq)
  have K1 := Lib.hid (ST.out.1.k1.below hb lm)
  have HB1 := Lib.hid (ST.out.1.hb.trans (hb.mono ST.out.1.hb.size))
  have A1 := Lib.hid (far1 _ lq (HG0.out.away_of (by omega)))
  have A2 := Lib.hid (far1 _ lm (HG0.out.away_of (by omega)))
  have A3 := Lib.hid (far2 _ lq (HF0.out.away_of (by omega)))
  have A4 := Lib.hid (far2 _ lm (HF0.out.away_of (by omega)))
  have hsz := ST.out.1.hb.size
  have FAR1 : Hid (Far w Ag ng Ag' ng') := fun k hk h => far1 k (by omega) h
  have FAR2 : Hid (Far w Af nf Af' nf') := fun k hk h => far2 k (by omega) h
  have RG := Lib.hid rg
  have RF := Lib.hid rf
  clear far1 far2 rg rf hb x0 x1 x2 x3 t0 t1 t2 ST
  have hb2 : Below w1.heap.size w1 (w1.alloc (.cells #[.int .i64 E, .int .i64 G, .slice Ag' ng' cg', .slice Af' nf' cf'] 37)) := (Below.refl _ _).alloc (Nat.le_refl _) _
  have KT := Lib.hid (Blk.new w1 37 #[.int .i64 E, .int .i64 G, .slice Ag' ng' cg', .slice Af' nf' cf'])
  have RG2 := Lib.hid (RG.out.over hb2)
  have RF2 := Lib.hid (RF.out.over hb2)
  have K02 := Lib.hid (K0.out.below hb2 K0.out.lt)
  have K12 := Lib.hid (K1.out.below hb2 K1.out.lt)
  have HB2 := Lib.hid (HB1.out.trans (hb2.mono HB1.out.size))
  have lq1 := K0.out.lt
  have lm1 := K1.out.lt
  clear RG RF K0 K1 HB1 hb2
  go_upto_region 3 with (fail)
  generalize w1.alloc (.cells #[.int .i64 E, .int .i64 G, .slice Ag' ng' cg', .slice Af' nf' cf'] 37) = w1' at KT RG2 RF2 K02 K12 HB2 ⊢
  have t0 := blk4_0 KT.out
  have t1 := blk4_1 KT.out
  have t2 := blk4_2 KT.out
  have t3 := blk4_3 KT.out
  have d1 : w1.heap.size ≠ w.heap.size + 1 + 1 := by omega
  have d2 : w1.heap.size ≠ w.heap.size + 1 + 1 + 1 := by omega
  have q0 := blk4_0 K02.out
  have q1 := blk4_1 K02.out
  have q2 := blk4_2 K02.out
  have q3 := blk4_3 K02.out
  have y0 := K02.out.frozen 0
  have y1 := K02.out.frozen 1
  have y2 := K02.out.frozen 2
  have y3 := K02.out.frozen 3
  have p0 := blk0 K12.out
  have p1 := blk1 K12.out
  have z0 := K12.out.frozen 0
  have z1 := K12.out.frozen 1
  go_wp2_with fail
  clear t0 t1 t2 t3
  have fin : Fin w ((((((w1'.setCell ⟨w.heap.size + 1 + 1, 0, none⟩ (.int .i64 E)).setCell ⟨w.heap.size + 1 + 1, 1, none⟩ (.int .i64 G)).setCell ⟨w.heap.size + 1 + 1, 2, none⟩ (.slice Ag' ng' cg')).setCell ⟨w.heap.size + 1 + 1, 3, none⟩ (.slice Af' nf' cf')).setCell ⟨w.heap.size + 1 + 1 + 1, 0, none⟩ (.int .i64 0)).setCell ⟨w.heap.size + 1 + 1 + 1, 1, none⟩ (.int .i64 0)) (w.heap.size + 1 + 1) (w.heap.size + 1 + 1 + 1) (.int .i64 E) (.int .i64 G) Ag' ng' cg' Af' nf' cf' (.int .i64 0) (.int .i64 0) (gensL s') f' :=
    ⟨six_q _ _ _ _ _ _ K02.out K12.out, six_m _ _ _ _ _ _ K02.out K12.out, six_reads _ _ _ _ _ _ RG2.out A1.out A2.out, six_reads _ _ _ _ _ _ RF2.out A3.out A4.out, six_below _ _ _ _ _ _ HB2.out (by omega) (by omega)⟩
  have FIN := Lib.hid fin
  clear fin q0 q1 q2 q3 y0 y1 y2 y3 p0 p1 z0 z1 K02 K12 RG2 RF2 A1 A2 A3 A4 HB2
  generalize (((((w1'.setCell ⟨w.heap.size + 1 + 1, 0, none⟩ (.int .i64 E)).setCell ⟨w.heap.size + 1 + 1, 1, none⟩ (.int .i64 G)).setCell ⟨w.heap.size + 1 + 1, 2, none⟩ (.slice Ag' ng' cg')).setCell ⟨w.heap.size + 1 + 1, 3, none⟩ (.slice Af' nf' cf')).setCell ⟨w.heap.size + 1 + 1 + 1, 0, none⟩ (.int .i64 0)).setCell ⟨w.heap.size + 1 + 1 + 1, 1, none⟩ (.int .i64 0) = V at FIN ⊢
  have e0 := blk4_0 FIN.out.kq
  have e1 := blk4_1 FIN.out.kq
  have e2 := blk4_2 FIN.out.kq
  have e3 := blk4_3 FIN.out.kq
  have g0 := blk0 FIN.out.km
  have g1 := blk1 FIN.out.km
  refine bodyPost_ret (v := .tuple #[.agg #[.int .i64 E, .int .i64 G, .slice Ag' ng' cg', .slice Af' nf' cf'], .agg #[(.int .i64 0), (.int .i64 0)], .int .i64 e]) (by simp [results, Try.results11, go_sem, e0, e1, e2, e3, g0, g1]) rfl ?_
  exact ⟨Ag', ng', cg', Af', nf', cf', rfl, hcf', FAR1.out, FAR2.out, FIN.out.hg, FIN.out.hf, FIN.out.hb⟩

theorem rgo_any (E : Nat) (G : Int) (s : Sl) (f : List Int) (inv : IInv E G s f) (hfl : f.length ≤ 2000) (Ag : Option Addr) (ng cg : Nat) (Af : Option Addr) (nf cf : Nat) (hcf : nf ≤ cf) (gv : Bool) (i g a b e : Int) (s' : Sl) (f' : List Int) (ht : StepIs E G s f i g gv a b e s' f') (w : World) (hg : Reads w w.heap.size 1 Ag ng (ints (gensL s))) (hf : Reads w w.heap.size 1 Af nf (ints f)) :
    Calls Try.prog 11 #[.agg #[.int .i64 E, .int .i64 G, .slice Ag ng cg, .slice Af nf cf], .agg #[.bool gv, .int .i64 i, .int .i64 g]] w (RPost w E G Ag ng Af nf s' f' fun v => .returned (.tuple #[v, .agg #[.int .i64 a, .int .i64 b], .int .i64 e])) := by
  cases ht with
  | take ht => exact rgo_take E G s f inv hfl Ag ng cg Af nf cf hcf i g a b e s' f' ht w hg hf
  | give ht => exact rgo_give E G s f inv hfl Ag ng cg Af nf cf hcf i g e s' f' ht w hg hf
end Go.Proofs.Ytohlcopnifmjoab
