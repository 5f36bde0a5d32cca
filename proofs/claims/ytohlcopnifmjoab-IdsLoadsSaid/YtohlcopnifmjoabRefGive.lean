/- ids: the reference: Give. -/
import Derived.Test.YtohlcopnifmjoabRefTake
namespace Go.Proofs.Ytohlcopnifmjoab
open Go.RowKit

/-- an append at a step of a region that draws its order -/
theorem step_app1 {P : Program} (w : World) {ops : Array Oper} {o : Oper} {a : Act} {K : Act → World → Prop} {Q : Exit → Act → World → Prop} {E : Prop} {t e : TypeId} {z : Value} {bytes : Nat} (T : Ty1 P t e z bytes)
    (hgd : o.guard = none) (s x : Operand) (ho : o.op = .call { callee := .builtin .append, args := #[s, x], argTypes := #[t, t] })
    {w0 : World} {A0 : Option Addr} {n c0 : Nat} {xs : List Value} (hs : a.eval s = .slice A0 n c0) (hb : Below w0.heap.size w0 w) (hown : w.ownsRow w0.heap.size e 1 (.slice A0 n c0) n xs)
    {B : Nat} {A : Option Addr} {m c : Nat} {news : List Value} (hx : a.eval x = .slice A m c) (hr : Reads w B 1 A m news) (h1 : ∀ u ∈ news, u.oneCell' = true)
    (h63 : n + m ≤ maxLen) (hbytes : (n + m) * bytes ≤ 140737488355328)
    (h : ∀ A' c' w', Below w0.heap.size w0 w' → w'.ownsRow w0.heap.size e 1 (.slice A' (n + m) c') (n + m) (xs ++ news) → w.grownBy w' (Value.slice A0 n c0).ownBlock →
      ((Value.slice A' (n + m) c').ownBlock = (Value.slice A0 n c0).ownBlock ∨ (Value.slice A' (n + m) c').ownBlock = some w.heap.size) → K (a.put o.dst (.slice A' (n + m) c')) w') :
    if Region.wanted o (yielded ops a.tmps) = true then Oper.wp P o a w K Q else E := by
  obtain ⟨i, hi, hz, hs1, hb1⟩ := T.hi
  refine step_append_any (P := P) w hgd s x t ho w0.heap.size e i z 1 bytes T.ht hi hz hs1 hb1 T.hz (by decide) _ n xs hs hown B A m c news hx hr h1 h63 hbytes hb.size fun v' w' h2 h3 h4 => ?_
  have hex : ∃ A' c', v' = .slice A' (n + m) c' := by
    rcases h2.2 with ⟨rfl, h0⟩ | ⟨g, cap, cur, rfl, _⟩
    · exact ⟨none, 0, by rw [h0]⟩
    · exact ⟨_, cap, rfl⟩
  obtain ⟨A', c', rfl⟩ := hex
  exact h A' c' w' (below_app hb hown h3) h2 h3 h4
theorem start_give (w : World) (E : Nat) (G : Int) (Ag : Option Addr) (ng cg : Nat) (Af : Option Addr) (nf cf : Nat) (s : Sl) (f : List Int) (i g : Int) (hg : Reads w w.heap.size 1 Ag ng (ints (gensL s))) (hf : Reads w w.heap.size 1 Af nf (ints f)) :
    Start w (((w.alloc (.cells #[.int .i64 E, .int .i64 G, .slice Ag ng cg, .slice Af nf cf] 37)).alloc (.cells #[.int .i64 i, .int .i64 g] 28)).alloc (.cells #[.int .i64 0, .int .i64 0, .slice none 0 0, .slice none 0 0] 37)) E G Ag ng cg Af nf cf s f (w.heap.size + 1 + 1) 37 #[.int .i64 0, .int .i64 0, .slice none 0 0, .slice none 0 0] (w.heap.size + 1) #[.int .i64 i, .int .i64 g] := by
  have b1 : Below w.heap.size w (w.alloc (.cells #[.int .i64 E, .int .i64 G, .slice Ag ng cg, .slice Af nf cf] 37)) := (Below.refl _ _).alloc (Nat.le_refl _) _
  have b2 : Below w.heap.size w ((w.alloc (.cells #[.int .i64 E, .int .i64 G, .slice Ag ng cg, .slice Af nf cf] 37)).alloc (.cells #[.int .i64 i, .int .i64 g] 28)) := b1.alloc (by simp) _
  have b3 : Below w.heap.size w (((w.alloc (.cells #[.int .i64 E, .int .i64 G, .slice Ag ng cg, .slice Af nf cf] 37)).alloc (.cells #[.int .i64 i, .int .i64 g] 28)).alloc (.cells #[.int .i64 0, .int .i64 0, .slice none 0 0, .slice none 0 0] 37)) := b2.alloc (by simp; omega) _
  refine ⟨hg.over b3, hf.over b3, ((Blk.new w 37 _).alloc _).alloc _, ?_, ?_, b3⟩
  · have := Blk.new ((w.alloc (.cells #[.int .i64 E, .int .i64 G, .slice Ag ng cg, .slice Af nf cf] 37)).alloc (.cells #[.int .i64 i, .int .i64 g] 28)) 37 #[.int .i64 0, .int .i64 0, .slice none 0 0, .slice none 0 0]
    rw [World.size_alloc, World.size_alloc] at this
    exact this
  · have := Blk.new (w.alloc (.cells #[.int .i64 E, .int .i64 G, .slice Ag ng cg, .slice Af nf cf] 37)) 28 #[.int .i64 i, .int .i64 g]
    rw [World.size_alloc] at this
    exact this.alloc _
/-- four cells are written -/
theorem Start.fin4 {w W : World} {E : Nat} {G : Int} {Ag : Option Addr} {ng cg : Nat} {Af : Option Addr} {nf cf : Nat} {s : Sl} {f : List Int} {q m : Nat} {c0 c1 c2 c3 d0 d1 : Value} (h : Start w W E G Ag ng cg Af nf cf s f q 37 #[c0, c1, c2, c3] m #[d0, d1]) (h1 : Away Ag ng q) (h3 : Away Af nf q) (hq : w.heap.size ≤ q) :
    Fin w ((((W.setCell ⟨q, 0, none⟩ (.int .i64 E)).setCell ⟨q, 1, none⟩ (.int .i64 G)).setCell ⟨q, 2, none⟩ (.slice Ag ng cg)).setCell ⟨q, 3, none⟩ (.slice Af nf cf)) q m (.int .i64 E) (.int .i64 G) Ag ng cg Af nf cf d0 d1 (gensL s) f := by
  have hne : m ≠ q := fun e => h.k0.ne_ h.k1 (by decide) e.symm
  exact ⟨four_set h.k0 _ _ _ _, (((h.k1.far (p := ⟨q, 0, none⟩) hne _).far (p := ⟨q, 1, none⟩) hne _).far (p := ⟨q, 2, none⟩) hne _).far (p := ⟨q, 3, none⟩) hne _,
    (((h.hg.away ⟨q, 0, none⟩ _ h1).away ⟨q, 1, none⟩ _ h1).away ⟨q, 2, none⟩ _ h1).away ⟨q, 3, none⟩ _ h1,
    (((h.hf.away ⟨q, 0, none⟩ _ h3).away ⟨q, 1, none⟩ _ h3).away ⟨q, 2, none⟩ _ h3).away ⟨q, 3, none⟩ _ h3,
    (((h.hb.setCell (p := ⟨q, 0, none⟩) hq _).setCell (p := ⟨q, 1, none⟩) hq _).setCell (p := ⟨q, 2, none⟩) hq _).setCell (p := ⟨q, 3, none⟩) hq _⟩
theorem Start.over {w W W' : World} {E : Nat} {G : Int} {Ag : Option Addr} {ng cg : Nat} {Af : Option Addr} {nf cf : Nat} {s : Sl} {f : List Int} {q m : Nat} {t0 : TypeId} {c0 c1 : Array Value} (h : Start w W E G Ag ng cg Af nf cf s f q t0 c0 m c1) (hb : Below W.heap.size W W') : Start w W' E G Ag ng cg Af nf cf s f q t0 c0 m c1 :=
  ⟨h.hg.over hb, h.hf.over hb, h.kx.below hb h.kx.lt, h.k0.below hb h.k0.lt, h.k1.below hb h.k1.lt, h.hb.trans (hb.mono h.hb.size)⟩

set_option maxRecDepth 100000 in
set_option maxHeartbeats 2000000 in
theorem rgive_stale (E : Nat) (G : Int) (s : Sl) (f : List Int) (inv : IInv E G s f) (hfl : f.length ≤ 2000) (Ag : Option Addr) (ng cg : Nat) (Af : Option Addr) (nf cf : Nat) (hcf : nf ≤ cf) (i g : Int) (hs : atL s i ≠ some g) (w : World) (hg : Reads w w.heap.size 1 Ag ng (ints (gensL s))) (hf : Reads w w.heap.size 1 Af nf (ints f)) :
    Calls Try.prog 23 #[.agg #[.int .i64 E, .int .i64 G, .slice Ag ng cg, .slice Af nf cf], .agg #[.int .i64 i, .int .i64 g]] w (RPost w E G Ag ng Af nf s f fun v => .returned (.tuple #[v, .int .i64 5])) := by
  have ST := Lib.hid (start_give w E G Ag ng cg Af nf cf s f i g hg hf)
  have HG0 := Lib.hid hg
  have HF0 := Lib.hid hf
  have IV := Lib.hid inv
  have HA := Lib.hid (show aliveB s i g = false from decide_eq_false hs)
  clear hg hf inv hs
  go_enter Try.func23, Try.ntmps23
  go_upto_region 1 with (fail)
  generalize (((w.alloc (.cells #[.int .i64 E, .int .i64 G, .slice Ag ng cg, .slice Af nf cf] 37)).alloc (.cells #[.int .i64 i, .int .i64 g] 28)).alloc (.cells #[.int .i64 0, .int .i64 0, .slice none 0 0, .slice none 0 0] 37)) = W at ST ⊢
  have x0 := blk4_0 ST.out.kx
  have x1 := blk4_1 ST.out.kx
  have x2 := blk4_2 ST.out.kx
  have x3 := blk4_3 ST.out.kx
  have p0 := blk0 ST.out.k1
  have p1 := blk1 ST.out.k1
  go_wp2_with fail
  refine (ralive_to false E G s f IV.out hfl _ _ _ _ _ _ i g HA.out _ ST.out.hg ST.out.hf).mono ?_
  rintro e1 w1 ⟨rfl, hb1⟩
  have ST2 := Lib.hid (ST.out.over hb1)
  clear hb1 ST x0 x1 x2 x3 p0 p1
  have x0 := blk4_0 ST2.out.kx
  have x1 := blk4_1 ST2.out.kx
  have x2 := blk4_2 ST2.out.kx
  have x3 := blk4_3 ST2.out.kx
  have q0 := blk4_0 ST2.out.k0
  have q1 := blk4_1 ST2.out.k0
  have q2 := blk4_2 ST2.out.k0
  have q3 := blk4_3 ST2.out.k0
  have y0 := ST2.out.k0.frozen 0
  have y1 := ST2.out.k0.frozen 1
  have y2 := ST2.out.k0.frozen 2
  have y3 := ST2.out.k0.frozen 3
  go_wp2_with fail
  have FIN := Lib.hid (ST2.out.fin4 (HG0.out.away_of (by omega)) (HF0.out.away_of (by omega)) (by omega))
  clear x0 x1 x2 x3 q0 q1 q2 q3 y0 y1 y2 y3 ST2
  generalize (((w1.setCell ⟨w.heap.size + 1 + 1, 0, none⟩ (.int .i64 E)).setCell ⟨w.heap.size + 1 + 1, 1, none⟩ (.int .i64 G)).setCell ⟨w.heap.size + 1 + 1, 2, none⟩ (.slice Ag ng cg)).setCell ⟨w.heap.size + 1 + 1, 3, none⟩ (.slice Af nf cf) = V at FIN ⊢
  have e0 := blk4_0 FIN.out.kq
  have e1 := blk4_1 FIN.out.kq
  have e2 := blk4_2 FIN.out.kq
  have e3 := blk4_3 FIN.out.kq
  refine bodyPost_ret (v := .tuple #[.agg #[.int .i64 E, .int .i64 G, .slice Ag ng cg, .slice Af nf cf], .int .i64 5]) (by simp [results, Try.results23, go_sem, e0, e1, e2, e3]) rfl ?_
  exact ⟨_, ng, cg, _, nf, cf, rfl, hcf, fun _ _ h => h, fun _ _ h => h, FIN.out.hg, FIN.out.hf, FIN.out.hb⟩

set_option maxRecDepth 100000 in
set_option maxHeartbeats 4000000 in
theorem rgive_alive (E : Nat) (G : Int) (s : Sl) (f : List Int) (inv : IInv E G s f) (hfl : f.length ≤ 2000) (Ag : Option Addr) (ng cg : Nat) (Af : Option Addr) (nf cf : Nat) (hcf : nf ≤ cf) (k : Nat) (g : Int) (hy : s[k]? = some (g, true)) (f' : List Int) (hf' : f' = if g + 1 < G then f ++ [(k : Int)] else f) (w : World) (hg : Reads w w.heap.size 1 Ag ng (ints (gensL s))) (hf : Reads w w.heap.size 1 Af nf (ints f)) :
    Calls Try.prog 23 #[.agg #[.int .i64 E, .int .i64 G, .slice Ag ng cg, .slice Af nf cf], .agg #[.int .i64 k, .int .i64 g]] w (RPost w E G Ag ng Af nf (s.set k (g + 1, false)) f' fun v => .returned (.tuple #[v, .int .i64 0])) := by
  have ST := Lib.hid (start_give w E G Ag ng cg Af nf cf s f k g hg hf)
  have HG0 := Lib.hid hg
  have HF0 := Lib.hid hf
  have IV := Lib.hid inv
  have HY := Lib.hid hy
  have HF := Lib.hid hf'
  have HA := Lib.hid (show aliveB s k g = true from decide_eq_true (atL_of hy))
  have hng : ng = s.length := by have := hg.ilen; rw [gensL_length] at this; exact this.symm
  have hnf : nf ≤ 2000 := by have := hf.ilen; omega
  have hks : k < s.length := (List.getElem?_eq_some_iff.1 hy).1
  have hs1024 : s.length ≤ 1024 := Nat.le_trans inv.len inv.e1
  have hkg : k < ng := by omega
  have hkn : (k : Int) < (ng : Int) := by omega
  have hk0 : (0 : Int) ≤ k := by omega
  have hng2 : ng ≤ 1024 := by omega
  have hbd := inv.bound hy
  dsimp only at hbd
  obtain ⟨hg0, hg1⟩ := hbd
  have hwr : IntKind.i64.wrap (g + 1) = g + 1 := by rw [IntKind.wrap_i64]; omega
  clear hg hf inv hy hf' hng hks hs1024
  go_enter Try.func23, Try.ntmps23
  go_upto_region 1 with (fail)
  generalize (((w.alloc (.cells #[.int .i64 E, .int .i64 G, .slice Ag ng cg, .slice Af nf cf] 37)).alloc (.cells #[.int .i64 (k : Int), .int .i64 g] 28)).alloc (.cells #[.int .i64 0, .int .i64 0, .slice none 0 0, .slice none 0 0] 37)) = W at ST ⊢
  have x0 := blk4_0 ST.out.kx
  have x1 := blk4_1 ST.out.kx
  have x2 := blk4_2 ST.out.kx
  have x3 := blk4_3 ST.out.kx
  have p0 := blk0 ST.out.k1
  have p1 := blk1 ST.out.k1
  go_wp2_with fail
  refine (ralive_to true E G s f IV.out hfl _ _ _ _ _ _ k g HA.out _ ST.out.hg ST.out.hf).mono ?_
  rintro e1 W1 ⟨rfl, hb1⟩
  have ST2 := Lib.hid (ST.out.over hb1)
  clear hb1 ST x0 x1 x2 x3 p0 p1
  have x2 := blk4_2 ST2.out.kx
  have p0 := blk0 ST2.out.k1
  have lx := ST2.out.kx.lt
  have lq := ST2.out.k0.lt
  have lm := ST2.out.k1.lt
  have HO := Lib.hid (World.ownsRow_made (base := W1.heap.size) (e := 3) (size := 1) W1 #[] 0 (Nat.le_refl _) (by simp) (by simp))
  have HB3 := Lib.hid ((Below.refl W1.heap.size W1).alloc (Nat.le_refl _) (.cells #[] 3))
  have HX3 := Lib.hid (ST2.out.hg.over HB3.out)
  go_wp2_with (at_builtin
               go_must (
                 refine wpList_app1 (w0 := W1) _ i64_ty rfl (.tmp 11) (.tmp 13) rfl rfl HB3.out HO.out rfl HX3.out (ints_one _) (by unfold maxLen; omega) (by omega) ?_
                 intro A4 c4 w4 b4 own4 hg4 hat4
                 simp only [Nat.zero_add, List.nil_append] at own4 hat4 ⊢
                 obtain ⟨a4, hA4, hba4, hla4⟩ := own_pos own4 (by omega)
                 subst hA4
                 have B4 := Lib.hid b4
                 have O4 := Lib.hid own4
                 have x2 := blk4_2 (ST2.out.kx.below b4 lx)
                 have xz := (ST2.out.kx.below b4 lx).frozen 2
                 have p0 := blk0 (ST2.out.k1.below b4 lm)
                 have u0 : w4.cell? ⟨a4, k, none⟩ = some (.int .i64 g) := by
                   rw [own4.cellAt k (by omega)]
                   simp [ints, gens_get HY.out]
                 have uz := own4.frozenAt k
                 have n1 : a4 ≠ w.heap.size := by omega
                 have n2 : a4 ≠ w.heap.size + 1 := by omega
                 have n3 : w.heap.size ≠ a4 := by omega
                 clear own4 hg4 hat4 b4))
  have ho := (ownsRow_setCell_below O4.out (a := ⟨w.heap.size, 2, none⟩) lx (.slice (some ⟨a4, 0, none⟩) ng c4)).stored k (.int .i64 (g + 1))
  have hgs : Hid (gensL (s.set k (g + 1, false)) = (gensL s).set k (g + 1)) := by
    unfold gensL
    rw [List.map_set]
    trivial
  have ho1 := ho.1
  rw [ints_set, ← hgs.out] at ho1
  have hxn := ((ST2.out.kx.below B4.out lx).set_ 2 (.slice (some ⟨a4, 0, none⟩) ng c4)).far (p := ⟨a4, k, none⟩) n3 (.int .i64 (g + 1))
  have n4 : a4 ≠ w.heap.size + 1 + 1 := by omega
  have st3 : Start w ((w4.setCell ⟨w.heap.size, 2, none⟩ (.slice (some ⟨a4, 0, none⟩) ng c4)).setCell ⟨a4, k, none⟩ (.int .i64 (g + 1))) E G (some ⟨a4, 0, none⟩) ng c4 Af nf cf (s.set k (g + 1, false)) f (w.heap.size + 1 + 1) 37 #[.int .i64 0, .int .i64 0, .slice none 0 0, .slice none 0 0] (w.heap.size + 1) #[.int .i64 k, .int .i64 g] := by
    refine ⟨Reads.of_own ho1, ?_, by simpa using hxn, ((ST2.out.k0.below B4.out lq).far (by simp; omega) _).far (fun e => n4 e.symm) _, ((ST2.out.k1.below B4.out lm).far (by simp) _).far (fun e => n2 e.symm) _, ((ST2.out.hb.trans (B4.out.mono ST2.out.hb.size)).setCell (Nat.le_refl _) _).setCell (by dsimp only; have := ST2.out.hb.size; omega) _⟩
    exact ((ST2.out.hf.over B4.out).away ⟨w.heap.size, 2, none⟩ _ (HF0.out.away_of (Nat.le_refl _))).away ⟨a4, k, none⟩ _ (HF0.out.away_of (by have := ST2.out.hb.size; dsimp only; omega))
  have ST3 := Lib.hid st3
  have HO3 := Lib.hid ho1
  have hbW := ST2.out.hb.size
  have HA4 : Hid (∀ j, j < w.heap.size → Away (some (⟨a4, 0, none⟩ : Addr)) ng j) := fun j hj _ ad e => by injection e with e; rw [← e]; dsimp only; omega
  have HA4z : Hid (Away (some (⟨a4, 0, none⟩ : Addr)) ng w.heap.size) := fun _ ad e => by injection e with e; rw [← e]; exact n1
  have HA4q : Hid (Away (some (⟨a4, 0, none⟩ : Addr)) ng (w.heap.size + 1 + 1)) := fun _ ad e => by injection e with e; rw [← e]; exact n4
  clear st3 ho ho1 hxn x2 xz p0 u0 uz B4 O4 HO HB3 HX3 hgs ST2
  generalize (w4.setCell ⟨w.heap.size, 2, none⟩ (.slice (some ⟨a4, 0, none⟩) ng c4)).setCell ⟨a4, k, none⟩ (.int .i64 (g + 1)) = Z at ST3 HO3 ⊢
  have x1 := blk4_1 ST3.out.kx
  have x2 := blk4_2 ST3.out.kx
  have p0 := blk0 ST3.out.k1
  obtain ⟨_, _, he, _, u0⟩ := ints_at ST3.out.hg (gens_get (get_set_eq HY.out))
  obtain ⟨rfl, rfl⟩ : _ ∧ _ := by simpa using he
  rw [Nat.zero_add] at u0
  dsimp only at u0
  clear he
  by_cases hG : g + 1 < G
  · have d : decide (g + 1 < G) = true := by simpa using hG
    obtain rfl : f' = f ++ [(k : Int)] := by rw [HF.out, if_pos hG]
    go_quiet (fail)
    have bd : Below Z.heap.size Z (Z.drewN nq) := ⟨rfl, rfl, rfl, Nat.le_refl _, fun _ _ => rfl⟩
    have ST4 := Lib.hid (ST3.out.over bd)
    clear bd x1 x2 p0 u0 d hG ST3 HO3
    generalize Z.drewN nq = X at ST4 ⊢
    have x3 := blk4_3 ST4.out.kx
    have p0 := blk0 ST4.out.k1
    have lx := ST4.out.kx.lt
    have lq := ST4.out.k0.lt
    have lm := ST4.out.k1.lt
    have ba : Below X.heap.size X (X.alloc (.cells #[] 3)) := (Below.refl _ _).alloc (Nat.le_refl _) _
    have bl : Below X.heap.size X (X.alloc (.cells #[.int .i64 (k : Int)] 3)) := (Below.refl _ _).alloc (Nat.le_refl _) _
    have oa : (X.alloc (.cells #[] 3)).ownsRow X.heap.size 3 1 (.slice (some ⟨X.heap.size, 0, none⟩) 0 0) 0 [] := World.ownsRow_made X #[] 0 (Nat.le_refl _) (by simp) (by simp)
    have oc : ((X.alloc (.cells #[.int .i64 (k : Int)] 3)).alloc (.cells #[] 3)).ownsRow X.heap.size 3 1 (.slice (some ⟨X.heap.size + 1, 0, none⟩) 0 0) 0 [] := by
      have := World.ownsRow_made (base := X.heap.size) (e := 3) (size := 1) (X.alloc (.cells #[.int .i64 (k : Int)] 3)) #[] 0 (by simp) (by simp) (by simp)
      rw [World.size_alloc] at this
      exact this
    have BA := Lib.hid ba
    have BB := Lib.hid (ba.alloc ba.size (.cells #[.int .i64 (k : Int)] 3))
    have BC := Lib.hid (bl.alloc bl.size (.cells #[] 3))
    have OA := Lib.hid oa
    have OB := Lib.hid (oa.alloc (.cells #[.int .i64 (k : Int)] 3))
    have OC := Lib.hid oc
    have lb : Blk ((X.alloc (.cells #[] 3)).alloc (.cells #[.int .i64 (k : Int)] 3)) (X.heap.size + 1) 3 #[.int .i64 (k : Int)] := by
      have := Blk.new (X.alloc (.cells #[] 3)) 3 #[.int .i64 (k : Int)]
      rw [World.size_alloc] at this
      exact this
    have LB := Lib.hid lb
    have LC := Lib.hid ((Blk.new X 3 #[.int .i64 (k : Int)]).alloc (.cells #[] 3))
    clear ba bl oa oc lb
    go_wp2_with fail
    go_region_law
      (first
        | (refine step_app1 (w0 := X) (xs := []) (n := 0) (c0 := 0) (A0 := some ⟨X.heap.size, 0, none⟩) (A := Af) (m := nf) (c := cf) _ i64_ty (by rfl) (.tmp 33) (.tmp 35) (by rfl) (by simp [Act.eval]) BA.out.drew OA.out.drew (by simp [Act.eval]) (ST4.out.hf.over BA.out.drew) (ints_one _) (by unfold maxLen; omega) (by omega) ?_
           intro A5 c5 w5 b5 own5 hg5 hat5
           simp only [Nat.zero_add, List.nil_append] at own5 hat5 ⊢
           have B5 := Lib.hid b5
           have O5 := Lib.hid own5
           have k1 := (b5.cell (p := ⟨w.heap.size, 3, none⟩) lx).trans x3
           have k2 := (b5.cell (p := ⟨w.heap.size + 1, 0, none⟩) lm).trans p0
           clear own5 hg5 hat5 b5)
        | (refine step_app1 (w0 := X) (xs := []) (n := 0) (c0 := 0) (A0 := some ⟨X.heap.size, 0, none⟩) (A := Af) (m := nf) (c := cf) _ i64_ty (by rfl) (.tmp 33) (.tmp 35) (by rfl) (by simp [Act.eval]) BB.out.drew OB.out.drew (by simp [Act.eval]) (ST4.out.hf.over BB.out.drew) (ints_one _) (by unfold maxLen; omega) (by omega) ?_
           intro A5 c5 w5 b5 own5 hg5 hat5
           have LL := Lib.hid (LB.out.drew.grown hg5 (by simp [Value.ownBlock]))
           simp only [Nat.zero_add, List.nil_append] at own5 hat5 ⊢
           have B5 := Lib.hid b5
           have O5 := Lib.hid own5
           have k1 := (b5.cell (p := ⟨w.heap.size, 3, none⟩) lx).trans x3
           have k2 := (b5.cell (p := ⟨w.heap.size + 1, 0, none⟩) lm).trans p0
           clear own5 hg5 hat5 b5)
        | (refine step_app1 (w0 := X) (xs := []) (n := 0) (c0 := 0) (A0 := some ⟨X.heap.size + 1, 0, none⟩) (A := Af) (m := nf) (c := cf) _ i64_ty (by rfl) (.tmp 33) (.tmp 35) (by rfl) (by simp [Act.eval]) BC.out.drew OC.out.drew (by simp [Act.eval]) (ST4.out.hf.over BC.out.drew) (ints_one _) (by unfold maxLen; omega) (by omega) ?_
           intro A5 c5 w5 b5 own5 hg5 hat5
           have LL := Lib.hid (LC.out.drew.grown hg5 (by simp [Value.ownBlock]))
           simp only [Nat.zero_add, List.nil_append] at own5 hat5 ⊢
           have B5 := Lib.hid b5
           have O5 := Lib.hid own5
           have k1 := (b5.cell (p := ⟨w.heap.size, 3, none⟩) lx).trans x3
           have k2 := (b5.cell (p := ⟨w.heap.size + 1, 0, none⟩) lm).trans p0
           clear own5 hg5 hat5 b5)
        | (refine step_app1 (w0 := X) (A0 := A5) (n := nf) (c0 := c5) (A := some ⟨w5.heap.size, 0, none⟩) (m := 1) (c := 1) _ i64_ty (by rfl) (.tmp 36) (.tmp 39) (by rfl) (by simp [Act.eval]) (B5.out.alloc B5.out.size _) (O5.out.alloc _) (by simp [Act.eval]) (reads_blk (Blk.new w5 3 #[.int .i64 (k : Int)])) (ints_one [(k : Int)]) (by unfold maxLen; omega) (by omega) ?_
           intro A6 c6 w6 b6 own6 hg6 hat6
           have B6 := Lib.hid b6
           have O6 := Lib.hid own6
           have k1 := (b6.cell (p := ⟨w.heap.size, 3, none⟩) lx).trans x3
           have k2 := (b6.cell (p := ⟨w.heap.size + 1, 0, none⟩) lm).trans p0
           have xz := (ST4.out.kx.below b6 lx).frozen 3
           clear own6 hg6 hat6 b6)
        | (refine step_app1 (w0 := X) (A0 := A5) (n := nf) (c0 := c5) (A := some ⟨X.heap.size + 1, 0, none⟩) (m := 1) (c := 1) _ i64_ty (by rfl) (.tmp 36) (.tmp 39) (by rfl) (by simp [Act.eval]) B5.out O5.out (by simp [Act.eval]) (reads_blk LL.out) (ints_one [(k : Int)]) (by unfold maxLen; omega) (by omega) ?_
           intro A6 c6 w6 b6 own6 hg6 hat6
           have B6 := Lib.hid b6
           have O6 := Lib.hid own6
           have k1 := (b6.cell (p := ⟨w.heap.size, 3, none⟩) lx).trans x3
           have k2 := (b6.cell (p := ⟨w.heap.size + 1, 0, none⟩) lm).trans p0
           have xz := (ST4.out.kx.below b6 lx).frozen 3
           clear own6 hg6 hat6 b6)
        | (refine step_app1 (w0 := X) (A0 := A5) (n := nf) (c0 := c5) (A := some ⟨X.heap.size, 0, none⟩) (m := 1) (c := 1) _ i64_ty (by rfl) (.tmp 36) (.tmp 39) (by rfl) (by simp [Act.eval]) B5.out O5.out (by simp [Act.eval]) (reads_blk LL.out) (ints_one [(k : Int)]) (by unfold maxLen; omega) (by omega) ?_
           intro A6 c6 w6 b6 own6 hg6 hat6
           have B6 := Lib.hid b6
           have O6 := Lib.hid own6
           have k1 := (b6.cell (p := ⟨w.heap.size, 3, none⟩) lx).trans x3
           have k2 := (b6.cell (p := ⟨w.heap.size + 1, 0, none⟩) lm).trans p0
           have xz := (ST4.out.kx.below b6 lx).frozen 3
           clear own6 hg6 hat6 b6)
        | fail)
    all_goals (
      have ho6 := ownsRow_setCell_below O6.out (a := ⟨w.heap.size, 3, none⟩) lx (.slice A6 (nf + 1) c6)
      rw [show [Value.int .i64 (k : Int)] = ints [(k : Int)] from rfl, ints_append] at ho6
      have hx6 := (ST4.out.kx.below B6.out lx).set_ 3 (.slice A6 (nf + 1) c6)
      have st5 : Start w (w6.setCell ⟨w.heap.size, 3, none⟩ (.slice A6 (nf + 1) c6)) E G (some ⟨a4, 0, none⟩) ng c4 A6 (nf + 1) c6 (s.set k (g + 1, false)) (f ++ [(k : Int)]) (w.heap.size + 1 + 1) 37 #[.int .i64 0, .int .i64 0, .slice none 0 0, .slice none 0 0] (w.heap.size + 1) #[.int .i64 k, .int .i64 g] :=
        ⟨(ST4.out.hg.over B6.out).away _ _ (HA4z.out), Reads.of_own ho6, by simpa using hx6, (ST4.out.k0.below B6.out lq).far (by simp; omega) _, (ST4.out.k1.below B6.out lm).far (by simp) _, (ST4.out.hb.trans (B6.out.mono ST4.out.hb.size)).setCell (Nat.le_refl _) _⟩
      have HA6 : Hid (∀ j, j < w.heap.size → Away A6 (nf + 1) j) := fun j hj => own_away ho6 (by have := ST4.out.hb.size; omega)
      have HA6q : Hid (Away A6 (nf + 1) (w.heap.size + 1 + 1)) := own_away ho6 lq
      have hle6 := own_le ho6
      have ST5 := Lib.hid st5
      clear st5 ho6 hx6 O6 B6 k1 k2 xz x3 p0 ST4
      generalize w6.setCell ⟨w.heap.size, 3, none⟩ (.slice A6 (nf + 1) c6) = V6 at ST5 ⊢
      have x0 := blk4_0 ST5.out.kx
      have x1 := blk4_1 ST5.out.kx
      have x2 := blk4_2 ST5.out.kx
      have x3 := blk4_3 ST5.out.kx
      have q0 := blk4_0 ST5.out.k0
      have q1 := blk4_1 ST5.out.k0
      have q2 := blk4_2 ST5.out.k0
      have q3 := blk4_3 ST5.out.k0
      have y0 := ST5.out.k0.frozen 0
      have y1 := ST5.out.k0.frozen 1
      have y2 := ST5.out.k0.frozen 2
      have y3 := ST5.out.k0.frozen 3
      go_wp2_with fail
      have FIN := Lib.hid (ST5.out.fin4 HA4q.out HA6q.out (by omega))
      clear x0 x1 x2 x3 q0 q1 q2 q3 y0 y1 y2 y3 ST5
      generalize (((V6.setCell ⟨w.heap.size + 1 + 1, 0, none⟩ (.int .i64 E)).setCell ⟨w.heap.size + 1 + 1, 1, none⟩ (.int .i64 G)).setCell ⟨w.heap.size + 1 + 1, 2, none⟩ (.slice (some ⟨a4, 0, none⟩) ng c4)).setCell ⟨w.heap.size + 1 + 1, 3, none⟩ (.slice A6 (nf + 1) c6) = V at FIN ⊢
      have e0 := blk4_0 FIN.out.kq
      have e1 := blk4_1 FIN.out.kq
      have e2 := blk4_2 FIN.out.kq
      have e3 := blk4_3 FIN.out.kq
      refine bodyPost_ret (v := .tuple #[.agg #[.int .i64 E, .int .i64 G, .slice (some ⟨a4, 0, none⟩) ng c4, .slice A6 (nf + 1) c6], .int .i64 0]) (by simp [results, Try.results23, go_sem, e0, e1, e2, e3]) rfl ?_
      exact ⟨_, ng, c4, A6, nf + 1, c6, rfl, hle6, fun j hj _ => HA4.out j hj, fun j hj _ => HA6.out j hj, FIN.out.hg, FIN.out.hf, FIN.out.hb⟩)
  · have d : decide (g + 1 < G) = false := by simpa using hG
    obtain rfl : f' = f := by rw [HF.out, if_neg hG]
    go_quiet (fail)
    have bd : Below Z.heap.size Z (Z.drewN nq) := ⟨rfl, rfl, rfl, Nat.le_refl _, fun _ _ => rfl⟩
    have ST4 := Lib.hid (ST3.out.over bd)
    clear bd x1 x2 p0 u0 d hG ST3 HO3
    generalize Z.drewN nq = X at ST4 ⊢
    have x0 := blk4_0 ST4.out.kx
    have x1 := blk4_1 ST4.out.kx
    have x2 := blk4_2 ST4.out.kx
    have x3 := blk4_3 ST4.out.kx
    have q0 := blk4_0 ST4.out.k0
    have q1 := blk4_1 ST4.out.k0
    have q2 := blk4_2 ST4.out.k0
    have q3 := blk4_3 ST4.out.k0
    have y0 := ST4.out.k0.frozen 0
    have y1 := ST4.out.k0.frozen 1
    have y2 := ST4.out.k0.frozen 2
    have y3 := ST4.out.k0.frozen 3
    go_wp2_with fail
    have FIN := Lib.hid (ST4.out.fin4 (HA4q.out) (HF0.out.away_of (by omega)) (by omega))
    clear x0 x1 x2 x3 q0 q1 q2 q3 y0 y1 y2 y3 ST4
    generalize (((X.setCell ⟨w.heap.size + 1 + 1, 0, none⟩ (.int .i64 E)).setCell ⟨w.heap.size + 1 + 1, 1, none⟩ (.int .i64 G)).setCell ⟨w.heap.size + 1 + 1, 2, none⟩ (.slice (some ⟨a4, 0, none⟩) ng c4)).setCell ⟨w.heap.size + 1 + 1, 3, none⟩ (.slice Af nf cf) = V at FIN ⊢
    have e0 := blk4_0 FIN.out.kq
    have e1 := blk4_1 FIN.out.kq
    have e2 := blk4_2 FIN.out.kq
    have e3 := blk4_3 FIN.out.kq
    refine bodyPost_ret (v := .tuple #[.agg #[.int .i64 E, .int .i64 G, .slice (some ⟨a4, 0, none⟩) ng c4, .slice Af nf cf], .int .i64 0]) (by simp [results, Try.results23, go_sem, e0, e1, e2, e3]) rfl ?_
    exact ⟨_, ng, c4, _, nf, cf, rfl, hcf, fun j hj _ => HA4.out j hj, fun _ _ h => h, FIN.out.hg, FIN.out.hf, FIN.out.hb⟩

/-- Give, whichever way it goes -/
theorem rgive_any (E : Nat) (G : Int) (s : Sl) (f : List Int) (inv : IInv E G s f) (hfl : f.length ≤ 2000) (Ag : Option Addr) (ng cg : Nat) (Af : Option Addr) (nf cf : Nat) (hcf : nf ≤ cf) (i g e : Int) (s' : Sl) (f' : List Int) (ht : GiveIs G s f i g e s' f') (w : World) (hg : Reads w w.heap.size 1 Ag ng (ints (gensL s))) (hf : Reads w w.heap.size 1 Af nf (ints f)) :
    Calls Try.prog 23 #[.agg #[.int .i64 E, .int .i64 G, .slice Ag ng cg, .slice Af nf cf], .agg #[.int .i64 i, .int .i64 g]] w (RPost w E G Ag ng Af nf s' f' fun v => .returned (.tuple #[v, .int .i64 e])) := by
  cases ht with
  | stale hs => exact rgive_stale E G s f inv hfl Ag ng cg Af nf cf hcf i g hs w hg hf
  | back k hi hy hG =>
    subst hi
    exact rgive_alive E G s f inv hfl Ag ng cg Af nf cf hcf k g hy _ (by rw [if_pos hG]) w hg hf
  | worn k hi hy hG =>
    subst hi
    exact rgive_alive E G s f inv hfl Ag ng cg Af nf cf hcf k g hy _ (by rw [if_neg hG]) w hg hf
end Go.Proofs.Ytohlcopnifmjoab
