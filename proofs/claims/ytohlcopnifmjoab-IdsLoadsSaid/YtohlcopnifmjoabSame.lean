/- ids: is what is told the same? -/
import Derived.Test.YtohlcopnifmjoabCount
import Derived.Deep.RegionHeld3
namespace Go.Proofs.Ytohlcopnifmjoab
open Go.RowKit

theorem atV_form (s : Sl) (i : Int) : ∃ a b ok, atV s i = .tuple #[.agg #[.int .i64 a, .int .i64 b], .bool ok] := by
  unfold atV
  split
  · exact ⟨_, _, _, rfl⟩
  · exact ⟨_, _, _, rfl⟩
structure SameW (w V : World) (B x E : Nat) (G : Int) (As : Option Addr) (cs : Nat) (Af : Option Addr) (cf : Nat) (s : Sl) (f : List Int) (Ag : Option Addr) (ng cg : Nat) (Ar : Option Addr) (nr cr : Nat) (i g a b : Int) (p7 p9 : Nat) : Prop where
  obj : IObj V B x E G As cs Af cf s f
  hg : Reads V V.heap.size 1 Ag ng (ints (gensL s))
  hf : Reads V V.heap.size 1 Ar nr (ints f)
  k0 : Blk V w.heap.size 37 #[.int .i64 E, .int .i64 G, .slice Ag ng cg, .slice Ar nr cr]
  k1 : Blk V (w.heap.size + 1) 28 #[.int .i64 i, .int .i64 g]
  k7 : Blk V p7 28 #[.int .i64 a, .int .i64 b]
  k9 : Blk V p9 28 #[.int .i64 a, .int .i64 b]
  hb : Below w.heap.size w V
section
variable {w V V' : World} {B x E : Nat} {G : Int} {As : Option Addr} {cs : Nat} {Af : Option Addr} {cf : Nat} {s : Sl} {f : List Int} {Ag : Option Addr} {ng cg : Nat} {Ar : Option Addr} {nr cr : Nat} {i g a b : Int} {p7 p9 : Nat}
theorem SameW.over (h : SameW w V B x E G As cs Af cf s f Ag ng cg Ar nr cr i g a b p7 p9) (hb : Below V.heap.size V V') : SameW w V' B x E G As cs Af cf s f Ag ng cg Ar nr cr i g a b p7 p9 :=
  ⟨h.obj.over hb, h.hg.over hb, h.hf.over hb, h.k0.below hb h.k0.lt, h.k1.below hb h.k1.lt, h.k7.below hb h.k7.lt, h.k9.below hb h.k9.lt, h.hb.trans (hb.mono h.hb.size)⟩
theorem SameW.drew (h : SameW w V B x E G As cs Af cf s f Ag ng cg Ar nr cr i g a b p7 p9) : SameW w V.drew B x E G As cs Af cf s f Ag ng cg Ar nr cr i g a b p7 p9 := h.over ⟨rfl, rfl, rfl, Nat.le_refl _, fun _ _ => rfl⟩
theorem SameW.drewN (h : SameW w V B x E G As cs Af cf s f Ag ng cg Ar nr cr i g a b p7 p9) (n : Nat) : SameW w (V.drewN n) B x E G As cs Af cf s f Ag ng cg Ar nr cr i g a b p7 p9 := h.over ⟨rfl, rfl, rfl, Nat.le_refl _, fun _ _ => rfl⟩
end

set_option maxRecDepth 100000 in
set_option maxHeartbeats 4000000 in
theorem told_any (B x E : Nat) (G : Int) (As : Option Addr) (cs : Nat) (Af : Option Addr) (cf : Nat) (s : Sl) (f : List Int) (inv : IInv E G s f) (hfl : f.length ≤ 2000) (Ag : Option Addr) (ng cg : Nat) (Ar : Option Addr) (nr cr : Nat) (i g : Int) (w : World) (h : IObj w B x E G As cs Af cf s f) (hg : Reads w w.heap.size 1 Ag ng (ints (gensL s))) (hf : Reads w w.heap.size 1 Ar nr (ints f)) :
    Calls Try.prog 12 #[.pointer (some ⟨x, 0, none⟩), .agg #[.int .i64 E, .int .i64 G, .slice Ag ng cg, .slice Ar nr cr], .agg #[.int .i64 i, .int .i64 g]] w fun e w' => e = .returned (.bool true) ∧ Below w.heap.size w w' := by
  have b1 : Below w.heap.size w (w.alloc (.cells #[.int .i64 E, .int .i64 G, .slice Ag ng cg, .slice Ar nr cr] 37)) := (Below.refl _ _).alloc (Nat.le_refl _) _
  have b2 : Below w.heap.size w ((w.alloc (.cells #[.int .i64 E, .int .i64 G, .slice Ag ng cg, .slice Ar nr cr] 37)).alloc (.cells #[.int .i64 i, .int .i64 g] 28)) := b1.alloc (by simp) _
  have k0 := (Blk.new w 37 #[.int .i64 E, .int .i64 G, .slice Ag ng cg, .slice Ar nr cr]).alloc (.cells #[.int .i64 i, .int .i64 g] 28)
  have k1 := Blk.new (w.alloc (.cells #[.int .i64 E, .int .i64 G, .slice Ag ng cg, .slice Ar nr cr] 37)) 28 #[.int .i64 i, .int .i64 g]
  rw [World.size_alloc] at k1
  have H := Lib.hid (h.over b2)
  have HG := Lib.hid (hg.over b2)
  have HF := Lib.hid (hf.over b2)
  have K0 := Lib.hid k0
  have K1 := Lib.hid k1
  have HB := Lib.hid b2
  have IV := Lib.hid inv
  have hng : s.length = ng := by have := hg.ilen; rw [gensL_length] at this; exact this
  have hnr : f.length = nr := hf.ilen
  have hs1024 : s.length ≤ 1024 := Nat.le_trans inv.len inv.e1
  have hngl : ng ≤ 1000000 := by omega
  have hnrl : nr ≤ 1000000 := by omega
  obtain ⟨a, b, ok, hat⟩ := atV_form s i
  have HAT := Lib.hid hat
  clear h hg hf k0 k1 b1 b2 inv hat
  go_enter Try.func12, Try.ntmps12
  go_upto_region 1 with (fail)
  generalize (w.alloc (.cells #[.int .i64 E, .int .i64 G, .slice Ag ng cg, .slice Ar nr cr] 37)).alloc (.cells #[.int .i64 i, .int .i64 g] 28) = W at H HG HF K0 K1 HB ⊢
  have p0 := blk0 K1.out
  go_wp2_with fail
  refine (at_any _ _ _ _ _ _ _ _ _ _ i _ H.out).mono ?_
  rintro e1 w1 ⟨rfl, hb1⟩
  rw [HAT.out]
  have ba : Below W.heap.size W (w1.alloc (.cells #[.int .i64 a, .int .i64 b] 28)) := hb1.alloc hb1.size _
  have H1 := Lib.hid (H.out.over ba)
  have HG1 := Lib.hid (HG.out.over ba)
  have HF1 := Lib.hid (HF.out.over ba)
  have K01 := Lib.hid (K0.out.below ba K0.out.lt)
  have K11 := Lib.hid (K1.out.below ba K1.out.lt)
  have K71 := Lib.hid (Blk.new w1 28 #[.int .i64 a, .int .i64 b])
  have HB1 := Lib.hid (HB.out.trans (ba.mono HB.out.size))
  clear hb1 ba H HG HF K0 K1 HB p0
  go_upto_region 2 with (fail)
  generalize w1.alloc (.cells #[.int .i64 a, .int .i64 b] 28) = W1 at H1 HG1 HF1 K01 K11 K71 HB1 ⊢
  generalize w1.heap.size = p7 at K71 ⊢
  have p0 := blk0 K11.out
  have x0 := blk4_0 K01.out
  have x1 := blk4_1 K01.out
  have x2 := blk4_2 K01.out
  have x3 := blk4_3 K01.out
  go_wp2_with fail
  refine (rat_any E G s f IV.out hfl _ _ _ _ _ _ i _ HG1.out HF1.out).mono ?_
  rintro e2 w2 ⟨rfl, hb2⟩
  rw [HAT.out]
  have ba : Below W1.heap.size W1 (w2.alloc (.cells #[.int .i64 a, .int .i64 b] 28)) := hb2.alloc hb2.size _
  have sw : SameW w (w2.alloc (.cells #[.int .i64 a, .int .i64 b] 28)) B x E G As cs Af cf s f Ag ng cg Ar nr cr i g a b p7 w2.heap.size :=
    ⟨H1.out.over ba, HG1.out.over ba, HF1.out.over ba, K01.out.below ba K01.out.lt, K11.out.below ba K11.out.lt, K71.out.below ba K71.out.lt, Blk.new w2 28 _, HB1.out.trans (ba.mono HB1.out.size)⟩
  have SW := Lib.hid sw
  clear hb2 ba sw H1 HG1 HF1 K01 K11 K71 HB1 p0 x0 x1 x2 x3
  go_upto_region 3 with (fail)
  generalize w2.alloc (.cells #[.int .i64 a, .int .i64 b] 28) = X at SW ⊢
  generalize w2.heap.size = p9 at SW ⊢
  have HAL : ∃ v, Hid (aliveB s i g = v) := ⟨_, rfl⟩
  obtain ⟨v, HAL⟩ := HAL
  have x0 := blk4_0 SW.out.k0
  have x1 := blk4_1 SW.out.k0
  have x2 := blk4_2 SW.out.k0
  have x3 := blk4_3 SW.out.k0
  have p0 := blk0 SW.out.k1
  have p1 := blk1 SW.out.k1
  have a0 := blk0 SW.out.k7
  have a1 := blk1 SW.out.k7
  have b0 := blk0 SW.out.k9
  have b1 := blk1 SW.out.k9
  go_region_held3 (fun w' => w'.cell? ⟨w.heap.size, 0, none⟩ = some (.int .i64 E) ∧ w'.cell? ⟨w.heap.size, 1, none⟩ = some (.int .i64 G) ∧ w'.cell? ⟨w.heap.size, 2, none⟩ = some (.slice Ag ng cg) ∧ w'.cell? ⟨w.heap.size, 3, none⟩ = some (.slice Ar nr cr) ∧ w'.cell? ⟨w.heap.size + 1, 0, none⟩ = some (.int .i64 i) ∧ w'.cell? ⟨w.heap.size + 1, 1, none⟩ = some (.int .i64 g) ∧ w'.cell? ⟨p7, 0, none⟩ = some (.int .i64 a) ∧ w'.cell? ⟨p7, 1, none⟩ = some (.int .i64 b) ∧ w'.cell? ⟨p9, 0, none⟩ = some (.int .i64 a) ∧ w'.cell? ⟨p9, 1, none⟩ = some (.int .i64 b)) (go_keep)
      (first
        | (go_at_call 19
           refine (gens_any _ _ _ _ _ _ _ _ _ _ hs1024 _ SW.out.obj.drew).mono ?_
           rintro e1 w1 ⟨A1, n1, c1, rfl, hr1, hb1⟩
           have hn1 : n1 = ng := by have := hr1.ilen; rw [gensL_length] at this; omega
           subst hn1
           have SW1 := Lib.hid (SW.out.drew.over hb1)
           have HR1 := Lib.hid hr1
           clear hr1 hb1 x0 x1 x2 x3 p0 p1 a0 a1 b0 b1
           have x0 := blk4_0 SW1.out.k0
           have x1 := blk4_1 SW1.out.k0
           have x2 := blk4_2 SW1.out.k0
           have x3 := blk4_3 SW1.out.k0
           have p0 := blk0 SW1.out.k1
           have p1 := blk1 SW1.out.k1
           have a0 := blk0 SW1.out.k7
           have a1 := blk1 SW1.out.k7
           have b0 := blk0 SW1.out.k9
           have b1 := blk1 SW1.out.k9)
        | (go_at_call 26
           have _t := HR3.out
           refine (same_any _ _ _ _ _ _ _ hnrl HR3.out SW3.out.hf).mono ?_
           rintro e4 w4 ⟨rfl, d4, hw4⟩
           clear _t
           have SW4 : Hid (SameW w w4 B x E G As cs Af cf s f Ag n1 cg Ar n3 cr i g a b p7 p9) := Lib.hid (by rw [hw4]; exact SW3.out.drewN d4)
           clear hw4 d4 x0 x1 x2 x3 p0 p1 a0 a1 b0 b1
           have x0 := blk4_0 SW4.out.k0
           have x1 := blk4_1 SW4.out.k0
           have x2 := blk4_2 SW4.out.k0
           have x3 := blk4_3 SW4.out.k0
           have p0 := blk0 SW4.out.k1
           have p1 := blk1 SW4.out.k1
           have a0 := blk0 SW4.out.k7
           have a1 := blk1 SW4.out.k7
           have b0 := blk0 SW4.out.k9
           have b1 := blk1 SW4.out.k9)
        | (go_at_call 26
           refine (same_any _ _ _ _ _ _ _ hngl HR1.out SW1.out.hg).mono ?_
           rintro e2 w2 ⟨rfl, d2, hw2⟩
           have SW2 : Hid (SameW w w2 B x E G As cs Af cf s f Ag n1 cg Ar nr cr i g a b p7 p9) := Lib.hid (by rw [hw2]; exact SW1.out.drewN d2)
           clear hw2 d2 x0 x1 x2 x3 p0 p1 a0 a1 b0 b1
           have x0 := blk4_0 SW2.out.k0
           have x1 := blk4_1 SW2.out.k0
           have x2 := blk4_2 SW2.out.k0
           have x3 := blk4_3 SW2.out.k0
           have p0 := blk0 SW2.out.k1
           have p1 := blk1 SW2.out.k1
           have a0 := blk0 SW2.out.k7
           have a1 := blk1 SW2.out.k7
           have b0 := blk0 SW2.out.k9
           have b1 := blk1 SW2.out.k9)
        | (go_at_call 20
           refine (free_any _ _ _ _ _ _ _ _ _ _ hfl _ SW2.out.obj).mono ?_
           rintro e3 w3 ⟨A3, n3, c3, rfl, hr3, hb3⟩
           have hn3 : n3 = nr := by have := hr3.ilen; omega
           subst hn3
           have SW3 := Lib.hid (SW2.out.over hb3)
           have HR3 := Lib.hid hr3
           clear hr3 hb3 x0 x1 x2 x3 p0 p1 a0 a1 b0 b1
           have x0 := blk4_0 SW3.out.k0
           have x1 := blk4_1 SW3.out.k0
           have x2 := blk4_2 SW3.out.k0
           have x3 := blk4_3 SW3.out.k0
           have p0 := blk0 SW3.out.k1
           have p1 := blk1 SW3.out.k1
           have a0 := blk0 SW3.out.k7
           have a1 := blk1 SW3.out.k7
           have b0 := blk0 SW3.out.k9
           have b1 := blk1 SW3.out.k9)
        | (go_at_call 18
           refine (count_any _ _ _ _ _ _ _ _ _ _ hs1024 _ SW4.out.obj).mono ?_
           rintro e5 w5 ⟨rfl, hb5⟩
           have SW5 := Lib.hid (SW4.out.over hb5)
           clear hb5 x0 x1 x2 x3 p0 p1 a0 a1 b0 b1
           have x0 := blk4_0 SW5.out.k0
           have x1 := blk4_1 SW5.out.k0
           have x2 := blk4_2 SW5.out.k0
           have x3 := blk4_3 SW5.out.k0
           have p0 := blk0 SW5.out.k1
           have p1 := blk1 SW5.out.k1
           have a0 := blk0 SW5.out.k7
           have a1 := blk1 SW5.out.k7
           have b0 := blk0 SW5.out.k9
           have b1 := blk1 SW5.out.k9)
        | (go_at_call 27
           refine (rcount_any E G s f IV.out hfl _ _ _ _ _ _ _ SW5.out.hg SW5.out.hf).mono ?_
           rintro e6 w6 ⟨rfl, hb6⟩
           have SW6 := Lib.hid (SW5.out.over hb6)
           clear hb6 x0 x1 x2 x3 p0 p1 a0 a1 b0 b1
           have x0 := blk4_0 SW6.out.k0
           have x1 := blk4_1 SW6.out.k0
           have x2 := blk4_2 SW6.out.k0
           have x3 := blk4_3 SW6.out.k0
           have p0 := blk0 SW6.out.k1
           have p1 := blk1 SW6.out.k1
           have a0 := blk0 SW6.out.k7
           have a1 := blk1 SW6.out.k7
           have b0 := blk0 SW6.out.k9
           have b1 := blk1 SW6.out.k9)
        | (go_at_call 9
           refine (alive_to v _ _ _ _ _ _ _ _ _ _ i g HAL.out _ SW6.out.obj).mono ?_
           rintro e7 w7 ⟨rfl, hb7⟩
           have SW7 := Lib.hid (SW6.out.over hb7)
           clear hb7 x0 x1 x2 x3 p0 p1 a0 a1 b0 b1
           have x0 := blk4_0 SW7.out.k0
           have x1 := blk4_1 SW7.out.k0
           have x2 := blk4_2 SW7.out.k0
           have x3 := blk4_3 SW7.out.k0
           have p0 := blk0 SW7.out.k1
           have p1 := blk1 SW7.out.k1
           have a0 := blk0 SW7.out.k7
           have a1 := blk1 SW7.out.k7
           have b0 := blk0 SW7.out.k9
           have b1 := blk1 SW7.out.k9)
        | (go_at_call 28
           refine (ralive_to v E G s f IV.out hfl _ _ _ _ _ _ i g HAL.out _ SW7.out.hg SW7.out.hf).mono ?_
           rintro e8 w8 ⟨rfl, hb8⟩
           have SW8 := Lib.hid (SW7.out.over hb8)
           clear hb8 x0 x1 x2 x3 p0 p1 a0 a1 b0 b1
           have x0 := blk4_0 SW8.out.k0
           have x1 := blk4_1 SW8.out.k0
           have x2 := blk4_2 SW8.out.k0
           have x3 := blk4_3 SW8.out.k0
           have p0 := blk0 SW8.out.k1
           have p1 := blk1 SW8.out.k1
           have a0 := blk0 SW8.out.k7
           have a1 := blk1 SW8.out.k7
           have b0 := blk0 SW8.out.k9
           have b1 := blk1 SW8.out.k9)
        | fail)
  all_goals (
    go_wp2_with fail
    go_ret
    exact ⟨rfl, SW8.out.hb⟩)
end Go.Proofs.Ytohlcopnifmjoab
