/- ids: what may be loaded goes on as it must. -/
import Derived.Test.YtohlcopnifmjoabInv
import Derived.Test.YtohlcopnifmjoabOpen
import Derived.Test.YtohlcopnifmjoabLoad
import Derived.Test.YtohlcopnifmjoabRLoad
namespace Go.Proofs.Ytohlcopnifmjoab
open Go.RowKit

theorem take_nil (w : World) : Calls Try.prog 16 #[.pointer none] w fun e w' => e = .returned (.tuple #[.agg #[.int .i64 0, .int .i64 0], .int .i64 4]) ∧ Below w.heap.size w w' := by
  go_enter Try.func16, Try.ntmps16
  go_wp2_with fail
  exact bodyPost_ret (v := .tuple #[.agg #[.int .i64 0, .int .i64 0], .int .i64 4]) (by simp [results, Try.results16, go_sem]) rfl ⟨rfl, (Below.refl _ _).alloc (Nat.le_refl _) _⟩
theorem give_nil (i g : Int) (w : World) : Calls Try.prog 17 #[.pointer none, .agg #[.int .i64 i, .int .i64 g]] w fun e w' => e = .returned (.int .i64 4) ∧ Below w.heap.size w w' := by
  go_enter Try.func17, Try.ntmps17
  go_wp2_with fail
  go_ret
  exact ⟨rfl, (Below.refl _ _).alloc (Nat.le_refl _) _⟩
theorem at_nil (i : Int) (w : World) : Calls Try.prog 21 #[.pointer none, .int .i64 i] w fun e w' => e = .returned (.tuple #[.agg #[.int .i64 0, .int .i64 0], .bool false]) ∧ Below w.heap.size w w' := by
  go_enter Try.func21, Try.ntmps21
  go_wp2_with fail
  exact bodyPost_ret (v := .tuple #[.agg #[.int .i64 0, .int .i64 0], .bool false]) (by simp [results, Try.results21, go_sem]) rfl ⟨rfl, (Below.refl _ _).alloc (Nat.le_refl _) _⟩
theorem alive_nil (i g : Int) (w : World) : Calls Try.prog 9 #[.pointer none, .agg #[.int .i64 i, .int .i64 g]] w fun e w' => e = .returned (.bool false) ∧ Below w.heap.size w w' := by
  have B1 := Lib.hid ((Below.refl w.heap.size w).alloc (Nat.le_refl _) (.cells #[.int .i64 i, .int .i64 g] 28))
  go_enter Try.func9, Try.ntmps9
  go_wp2_with fail
  refine (at_nil i _).mono ?_
  rintro e1 w1 ⟨rfl, hb1⟩
  have B2 := Lib.hid (B1.out.trans (hb1.mono B1.out.size))
  clear hb1
  go_wp2_with fail
  go_ret
  exact ⟨rfl, B2.out.alloc B2.out.size _⟩
theorem count_nil (w : World) : Calls Try.prog 18 #[.pointer none] w fun e w' => e = .returned (.int .i64 0) ∧ w = w' := by
  go_enter Try.func18, Try.ntmps18
  go_wp2_with fail
  go_ret
  exact ⟨rfl, rfl⟩
theorem gens_nil (w : World) : Calls Try.prog 19 #[.pointer none] w fun e w' => e = .returned (.slice none 0 0) ∧ w = w' := by
  go_enter Try.func19, Try.ntmps19
  go_wp2_with fail
  go_ret
  exact ⟨rfl, rfl⟩
theorem free_nil (w : World) : Calls Try.prog 20 #[.pointer none] w fun e w' => e = .returned (.slice none 0 0) ∧ w = w' := by
  go_enter Try.func20, Try.ntmps20
  go_wp2_with fail
  go_ret
  exact ⟨rfl, rfl⟩

set_option maxRecDepth 100000 in
set_option maxHeartbeats 4000000 in
theorem loads_any (n m : Int) (Ag0 : Option Addr) (ng0 cg0 : Nat) (gl : List Int) (Af0 : Option Addr) (nf0 cf0 : Nat) (fl : List Int) (A : Option Addr) (nn c : Nat) (ss : List StV) (i g : Int) (w : World) (hngm : ng0 ≤ maxLen) (hgr : Reads w w.heap.size 1 Ag0 ng0 (ints gl)) (hnfm : nf0 ≤ maxLen) (hfr : Reads w w.heap.size 1 Af0 nf0 (ints fl)) (hfc : nf0 ≤ cf0) (hfn : Af0 = none → cf0 = 0) (ok : (⟨A, nn, c, ss⟩ : Stp).ok w) :
    Calls Try.prog 5 #[.int .i64 n, .int .i64 m, .slice Ag0 ng0 cg0, .slice Af0 nf0 cf0, .slice A nn c, .agg #[.int .i64 i, .int .i64 g]] w fun e w' => e = .returned (.bool true) ∧ Below w.heap.size w w' := by
  have hmax := ok.hn
  unfold maxLen at hmax hngm hnfm
  dsimp only at hmax
  have OK := Lib.hid ok
  have HGR := Lib.hid hgr
  have HFR := Lib.hid hfr
  clear ok hgr hfr
  have ba : Below w.heap.size w (w.alloc (.cells #[.int .i64 i, .int .i64 g] 28)) := (Below.refl _ _).alloc (Nat.le_refl _) _
  have HBA := Lib.hid ba
  have KI := Lib.hid (Blk.new w 28 #[.int .i64 i, .int .i64 g])
  clear ba
  by_cases h60 : 60 < nn
  · go_enter Try.func5, Try.ntmps5
    go_wp2_with (go_at_call 6; refine (live_any _).mono ?_; rintro e w' ⟨rfl, hb⟩; have HB := Lib.hid hb; clear hb)
    go_ret
    exact ⟨rfl, HBA.out.trans (HB.out.mono HBA.out.size)⟩
  have d60 : decide (60 < (nn : Int)) = false := by simp; omega
  by_cases h1100 : 1100 < ng0
  · go_enter Try.func5, Try.ntmps5
    go_wp2_with (go_at_call 6; refine (live_any _).mono ?_; rintro e w' ⟨rfl, hb⟩; have HB := Lib.hid hb; clear hb)
    go_ret
    exact ⟨rfl, HBA.out.trans (HB.out.mono HBA.out.size)⟩
  have d1100 : decide (1100 < (ng0 : Int)) = false := by simp; omega
  by_cases h100 : 100 < nf0
  · go_enter Try.func5, Try.ntmps5
    go_wp2_with (go_at_call 6; refine (live_any _).mono ?_; rintro e w' ⟨rfl, hb⟩; have HB := Lib.hid hb; clear hb)
    go_ret
    exact ⟨rfl, HBA.out.trans (HB.out.mono HBA.out.size)⟩
  have d100 : decide (100 < (nf0 : Int)) = false := by simp; omega
  have hng : ng0 ≤ 1100 := by omega
  have hnf : nf0 ≤ 100 := by omega
  obtain ⟨E, hE⟩ : ∃ E, nearL n 1024 = E := ⟨_, rfl⟩
  obtain ⟨G, hG⟩ : ∃ G, nearL m 1073741824 = G := ⟨_, rfl⟩
  have HIV : Hid (GoodL E (G : Int) gl fl → IInv E (G : Int) (loadS (G : Int) gl fl) fl) := fun h => h.inv (by rw [← hE]; exact nearL_pos n 1024 (by omega)) (by rw [← hE]; exact nearL_le n 1024 (by omega)) (by rw [← hG]; have := nearL_pos m 1073741824 (by omega); omega) (by rw [← hG]; have := nearL_le m 1073741824 (by omega); omega)
  have HE := Lib.hid hE
  have HG := Lib.hid hG
  clear hE hG
  go_enter Try.func5, Try.ntmps5
  go_upto_region 1 with (fail)
  generalize w.alloc (.cells #[.int .i64 i, .int .i64 g] 28) = W at HBA KI ⊢
  go_wp2_with fail
  refine (load_any n m E G HE.out HG.out Ag0 ng0 cg0 gl hng Af0 nf0 cf0 fl hnf hfn _ (HGR.out.over HBA.out) (HFR.out.over HBA.out)).mono ?_
  intro e w1 hp
  rcases hp with ⟨hgood, rfl, ⟨As0, cs0, Af1, cf1, ho0⟩, hb1⟩ | ⟨hbad, rfl, hb1⟩
  · have HGOOD := Lib.hid hgood
    have HO0 := Lib.hid ho0
    have B1 := Lib.hid (HBA.out.trans (hb1.mono HBA.out.size))
    have BW := Lib.hid hb1
    clear hgood ho0 hb1
    go_wp2_with fail
    refine (rload_any n m E G HE.out HG.out Ag0 ng0 cg0 gl hng Af0 nf0 cf0 fl hnf hfc _ (HGR.out.over B1.out) (HFR.out.over B1.out)).mono ?_
    intro e2 w2 hp2
    rcases hp2 with ⟨_, rfl, hb2⟩ | ⟨hb, _, _⟩
    · have rinv : RInv w (w2.alloc (.cells #[.int .i64 E, .int .i64 G, .slice Ag0 ng0 cg0, .slice Af0 nf0 cf0] 37)) W.heap.size W.heap.size w2.heap.size w.heap.size E G i g (loadS (G : Int) gl fl) fl (loadS (G : Int) gl fl) fl Ag0 ng0 cg0 Af0 nf0 cf0 Ag0 ng0 Af0 nf0 := by
        have b3 : Below w1.heap.size w1 (w2.alloc (.cells #[.int .i64 E, .int .i64 G, .slice Ag0 ng0 cg0, .slice Af0 nf0 cf0] 37)) := hb2.alloc hb2.size _
        have b4 : Below w.heap.size w (w2.alloc (.cells #[.int .i64 E, .int .i64 G, .slice Ag0 ng0 cg0, .slice Af0 nf0 cf0] 37)) := B1.out.trans (b3.mono B1.out.size)
        have hs1 := B1.out.size
        have hs2 := hb2.size
        refine ⟨⟨_, _, _, _, HO0.out.over b3, fun k hk => ⟨HGR.out.away_of ?_, HFR.out.away_of ?_⟩⟩, Blk.new w2 37 _, ?_, ?_, HFR.out.over b4, HGR.out.away_of (by omega), HFR.out.away_of (by omega), HBA.out.size, by omega, b4⟩
        · have := (HO0.out.own hk).1; have := HBA.out.size; omega
        · have := (HO0.out.own hk).1; have := HBA.out.size; omega
        · exact (KI.out.below BW.out KI.out.lt).below b3 (Nat.lt_of_lt_of_le KI.out.lt BW.out.size)
        · rw [loadS_gens]; exact HGR.out.over b4
      have RI := Lib.hid rinv
      have IV := Lib.hid (HIV.out HGOOD.out)
      have hfl0 : fl.length = nf0 := HFR.out.ilen
      clear rinv hb2 HO0 B1 BW KI HBA HE HG HIV hngm hnfm hfn HGR HFR
      go_upto_region 5 with (fail)
      generalize w2.alloc (.cells #[.int .i64 E, .int .i64 G, .slice Ag0 ng0 cg0, .slice Af0 nf0 cf0] 37) = X0 at RI ⊢
      generalize w2.heap.size = gr at RI ⊢
      generalize W.heap.size = x at RI ⊢
      generalize loadS (G : Int) gl fl = s0 at RI IV
      have g0 := blk4_0 RI.out.blk
      have g1 := blk4_1 RI.out.blk
      have g2 := blk4_2 RI.out.blk
      have g3 := blk4_3 RI.out.blk
      have i0 := blk0 RI.out.bid
      have i1 := blk1 RI.out.bid
      obtain ⟨As', cs', Af', cf', ho3, _⟩ := RI.out.obj
      have HO3 := Lib.hid ho3
      clear ho3
      have hfl2 : fl.length ≤ 2000 := by omega
      go_wp2_with (first
        | (go_at_call 15; refine (code_any _ _).mono ?_; rintro e3 w3 ⟨rfl, rfl⟩)
        | (go_at_call 12; refine (told_any _ _ E G _ _ _ _ s0 fl IV.out hfl2 _ _ _ _ _ _ i g _ HO3.out RI.out.hg RI.out.hf).mono ?_; rintro e5 w5 ⟨rfl, hb5⟩; have R5 := Lib.hid (RI.out.over hb5); clear hb5))
      clear g0 g1 g2 g3 i0 i1 HO3 RI
      go_loopw [17] (fun q wr => ∃ j : Nat, j ≤ nn ∧ q = .int .i64 j ∧ ∃ (s : Sl) (f : List Int) (A1 : Option Addr) (n1 c1 : Nat) (A2 : Option Addr) (n2 c2 : Nat), n2 ≤ c2 ∧ f.length ≤ j + 100 ∧ Hid (IInv E G s f) ∧ Hid (RInv w wr x x gr w.heap.size E G i g s f s f A1 n1 c1 A2 n2 c2 A1 n1 A2 n2)) (fun q _ => nn - (intOf q).toNat)
      case atStart => exact ⟨0, Nat.zero_le _, rfl, s0, fl, Ag0, ng0, cg0, Af0, nf0, cf0, hfc, by omega, IV, R5⟩
      case round =>
        obtain ⟨j, hj, rfl, s, f, A1, n1, c1, A2, n2, c2, hn2, hfl, HI, HR⟩ := hrel
        clear IV R5
        have hfl2 : f.length ≤ 2000 := by omega
        by_cases hlt : j < nn
        · obtain ⟨b, off, y, he, hbl, hy, hc0, hc1, hc2⟩ := (OK.out.over HR.out.hb).at_ hlt
          dsimp only at he hy
          obtain ⟨rfl⟩ := he
          have HY := Lib.hid hy
          obtain ⟨gv, yi, yg⟩ := y
          dsimp only at hc0 hc1 hc2
          obtain ⟨p, q, e, s', f', hst⟩ := step_total E G s f HI.out yi yg gv
          have HST := Lib.hid hst
          have HI' := Lib.hid (HI.out.step hst)
          have hfl' := hst.flen
          obtain ⟨As, cs, Af, cf, ho, ha⟩ := HR.out.obj
          have HO := Lib.hid ho
          have HAW := Lib.hid ha
          clear hst hy ho ha
          go_wp2_with fail
          refine (do_any _ _ E G _ _ _ _ s f hfl2 HI.out _ _ _ _ _ _ _ _ HST.out _ HO.out).mono ?_
          rintro e2 w2 ⟨rfl, hp⟩
          have HR2 := Lib.hid ((HR.out.post HO.out HAW.out hp).alloc (.cells #[.int .i64 p, .int .i64 q] 28))
          have K12 := Lib.hid (Blk.new w2 28 #[.int .i64 p, .int .i64 q])
          clear hp HR HO HAW hc0 hc1 hc2
          go_upto_region 15 with (fail)
          generalize w2.alloc (.cells #[.int .i64 p, .int .i64 q] 28) = X2 at HR2 K12 ⊢
          generalize w2.heap.size = p12 at K12 ⊢
          obtain ⟨_, _, y', he, hbl, hy', hc0, hc1, hc2⟩ := (OK.out.over HR2.out.hb).at_ hlt
          dsimp only at he hy'
          obtain ⟨rfl, rfl⟩ : _ ∧ _ := by simpa using he
          obtain rfl : y' = ⟨gv, yi, yg⟩ := by have := HY.out; rw [hy'] at this; injection this
          dsimp only at hc0 hc1 hc2
          clear he hy'
          go_cut [20, 21, 22] (fun s14 s15 s16 wx => s16 = .int .i64 e ∧ ∃ p14 p15, s14 = .pointer (some ⟨p14, 0, none⟩) ∧ s15 = .pointer (some ⟨p15, 0, none⟩) ∧ ∃ Ag' ng' cg' Ar' nr' cr', nr' ≤ cr' ∧ Hid (Aft w wx p14 p15 p12 x x gr w.heap.size E G i g s' f' A1 n1 c1 A2 n2 c2 Ag' ng' cg' Ar' nr' cr' (.int .i64 p) (.int .i64 q)))
          case first =>
            have g0 := blk4_0 HR2.out.blk
            have g1 := blk4_1 HR2.out.blk
            have g2 := blk4_2 HR2.out.blk
            have g3 := blk4_3 HR2.out.blk
            have lg := HR2.out.blk.lt
            have lb0 : b < X2.heap.size := hbl
            have b1 : X2.heap.size ≠ gr := by omega
            have b2 : gr ≠ X2.heap.size := by omega
            have b3 : X2.heap.size + 1 ≠ gr := by omega
            have b4 : gr ≠ X2.heap.size + 1 := by omega
            have b5 : X2.heap.size ≠ b := by omega
            have b6 : b ≠ X2.heap.size := by omega
            have b7 : X2.heap.size + 1 ≠ b := by omega
            have b8 : b ≠ X2.heap.size + 1 := by omega
            have hX2 := HR2.out.hb.size
            have lp := K12.out.lt
            have lw := HR2.out.bid.lt
            have b9 : X2.heap.size ≠ w.heap.size := by omega
            have b10 : X2.heap.size + 1 ≠ w.heap.size := by omega
            have b11 := HR2.out.hg.away_of (k := X2.heap.size) (Nat.le_refl _)
            have b12 := HR2.out.hf.away_of (k := X2.heap.size) (Nat.le_refl _)
            have b21 := HR2.out.hg.away_of (k := X2.heap.size + 1) (Nat.le_succ _)
            have b22 := HR2.out.hf.away_of (k := X2.heap.size + 1) (Nat.le_succ _)
            have b13 : w.heap.size ≤ X2.heap.size := hX2
            have b14 : w.heap.size ≤ X2.heap.size + 1 := by omega
            have b15 : p12 ≠ X2.heap.size := by omega
            have b16 : p12 ≠ X2.heap.size + 1 := by omega
            have KB := Lib.hid (Blk.new X2 37 #[.int .i64 0, .int .i64 0, .slice none 0 0, .slice none 0 0]).drew
            have KC := Lib.hid (Blk.new X2 28 #[.int .i64 0, .int .i64 0]).drew
            have KD4 := Lib.hid ((Blk.new X2 37 #[.int .i64 0, .int .i64 0, .slice none 0 0, .slice none 0 0]).alloc (.cells #[.int .i64 0, .int .i64 0] 28)).drew
            have kd5 := (Blk.new (X2.alloc (.cells #[.int .i64 0, .int .i64 0, .slice none 0 0, .slice none 0 0] 37)) 28 #[.int .i64 0, .int .i64 0]).drew
            rw [World.size_alloc] at kd5
            have KD5 := Lib.hid kd5
            have KE5 := Lib.hid ((Blk.new X2 28 #[.int .i64 0, .int .i64 0]).alloc (.cells #[.int .i64 0, .int .i64 0, .slice none 0 0, .slice none 0 0] 37)).drew
            have ke4 := (Blk.new (X2.alloc (.cells #[.int .i64 0, .int .i64 0] 28)) 37 #[.int .i64 0, .int .i64 0, .slice none 0 0, .slice none 0 0]).drew
            rw [World.size_alloc] at ke4
            have KE4 := Lib.hid ke4
            clear kd5 ke4
            have BWA := Lib.hid ((Below.refl X2.heap.size X2).drew)
            have RA := Lib.hid ((HR2.out).drew)
            have BWB := Lib.hid (((Below.refl X2.heap.size X2).alloc (Nat.le_refl _) (.cells #[.int .i64 0, .int .i64 0, .slice none 0 0, .slice none 0 0] 37)).drew)
            have RB := Lib.hid ((HR2.out.alloc (.cells #[.int .i64 0, .int .i64 0, .slice none 0 0, .slice none 0 0] 37)).drew)
            have BWC := Lib.hid (((Below.refl X2.heap.size X2).alloc (Nat.le_refl _) (.cells #[.int .i64 0, .int .i64 0] 28)).drew)
            have RC := Lib.hid ((HR2.out.alloc (.cells #[.int .i64 0, .int .i64 0] 28)).drew)
            have BWD := Lib.hid ((((Below.refl X2.heap.size X2).alloc (Nat.le_refl _) (.cells #[.int .i64 0, .int .i64 0, .slice none 0 0, .slice none 0 0] 37)).alloc (by simp) (.cells #[.int .i64 0, .int .i64 0] 28)).drew)
            have RD := Lib.hid (((HR2.out.alloc (.cells #[.int .i64 0, .int .i64 0, .slice none 0 0, .slice none 0 0] 37)).alloc (.cells #[.int .i64 0, .int .i64 0] 28)).drew)
            have BWE := Lib.hid ((((Below.refl X2.heap.size X2).alloc (Nat.le_refl _) (.cells #[.int .i64 0, .int .i64 0] 28)).alloc (by simp) (.cells #[.int .i64 0, .int .i64 0, .slice none 0 0, .slice none 0 0] 37)).drew)
            have RE := Lib.hid (((HR2.out.alloc (.cells #[.int .i64 0, .int .i64 0] 28)).alloc (.cells #[.int .i64 0, .int .i64 0, .slice none 0 0, .slice none 0 0] 37)).drew)
            go_region_held3 (fun w' => w'.cell? ⟨gr, 0, none⟩ = some (.int .i64 E) ∧ w'.cell? ⟨gr, 1, none⟩ = some (.int .i64 G) ∧ w'.cell? ⟨gr, 2, none⟩ = some (.slice A1 n1 c1) ∧ w'.cell? ⟨gr, 3, none⟩ = some (.slice A2 n2 c2) ∧ w'.cell? ⟨b, off + j * 3, none⟩ = some (.bool gv) ∧ w'.cell? ⟨b, off + j * 3 + 1, none⟩ = some (.int .i64 yi) ∧ w'.cell? ⟨b, off + j * 3 + 2, none⟩ = some (.int .i64 yg)) (go_keep)
              (first
                | (go_at_call 11
                   with_reducible show Calls _ _ _ (X2.drew) _
                   refine (rgo_any E G s f HI.out hfl2 _ _ _ _ _ _ hn2 gv yi yg p q e s' f' HST.out _ RA.out.hg RA.out.hf).mono ?_
                   intro e4 w4 hp4
                   obtain ⟨Ag', ng', cg', Ar', nr', cr', rfl, hcr', hr4, hb4, far1, far2⟩ := RA.out.step hp4
                   have lv := hb4.size
                   have lbw : b < (X2.drew).heap.size := Nat.lt_of_lt_of_le lb0 BWA.out.size
                   have hc0 := (hb4.cell (p := ⟨b, off + j * 3, none⟩) lbw).trans ((BWA.out.cell (p := ⟨b, off + j * 3, none⟩) lb0).trans hc0)
                   have hc1 := (hb4.cell (p := ⟨b, off + j * 3 + 1, none⟩) lbw).trans ((BWA.out.cell (p := ⟨b, off + j * 3 + 1, none⟩) lb0).trans hc1)
                   have hc2 := (hb4.cell (p := ⟨b, off + j * 3 + 2, none⟩) lbw).trans ((BWA.out.cell (p := ⟨b, off + j * 3 + 2, none⟩) lb0).trans hc2)
                   have g0 := blk4_0 hr4.blk
                   have g1 := blk4_1 hr4.blk
                   have g2 := blk4_2 hr4.blk
                   have g3 := blk4_3 hr4.blk
                   have lgr := hr4.blk.lt
                   have m1 : gr ≠ w4.heap.size := by omega
                   have m2 : gr ≠ w4.heap.size + 1 := by omega
                   have m3 : w4.heap.size ≠ gr := by omega
                   have m4 : w4.heap.size + 1 ≠ gr := by omega
                   have lb4 : b < w4.heap.size := Nat.lt_of_lt_of_le lbw lv
                   have m5 : b ≠ w4.heap.size := by omega
                   have m6 : b ≠ w4.heap.size + 1 := by omega
                   have m7 : w4.heap.size ≠ b := by omega
                   have m8 : w4.heap.size + 1 ≠ b := by omega
                   have k12 := (K12.out.below BWA.out K12.out.lt).below hb4 (Nat.lt_of_lt_of_le K12.out.lt BWA.out.size)
                   have AF1 := Lib.hid (Aft.ab (cg := cg') (cr := cr') hr4 k12)
                   have AF2 := Lib.hid (Aft.ba (cg := cg') (cr := cr') hr4 k12)
                   clear hp4 hr4 k12)
                | (go_at_call 11
                   with_reducible show Calls _ _ _ ((X2.alloc (.cells #[.int .i64 0, .int .i64 0, .slice none 0 0, .slice none 0 0] 37)).drew) _
                   refine (rgo_any E G s f HI.out hfl2 _ _ _ _ _ _ hn2 gv yi yg p q e s' f' HST.out _ RB.out.hg RB.out.hf).mono ?_
                   intro e4 w4 hp4
                   obtain ⟨Ag', ng', cg', Ar', nr', cr', rfl, hcr', hr4, hb4, far1, far2⟩ := RB.out.step hp4
                   have lv := hb4.size
                   have lbw : b < ((X2.alloc (.cells #[.int .i64 0, .int .i64 0, .slice none 0 0, .slice none 0 0] 37)).drew).heap.size := Nat.lt_of_lt_of_le lb0 BWB.out.size
                   have hc0 := (hb4.cell (p := ⟨b, off + j * 3, none⟩) lbw).trans ((BWB.out.cell (p := ⟨b, off + j * 3, none⟩) lb0).trans hc0)
                   have hc1 := (hb4.cell (p := ⟨b, off + j * 3 + 1, none⟩) lbw).trans ((BWB.out.cell (p := ⟨b, off + j * 3 + 1, none⟩) lb0).trans hc1)
                   have hc2 := (hb4.cell (p := ⟨b, off + j * 3 + 2, none⟩) lbw).trans ((BWB.out.cell (p := ⟨b, off + j * 3 + 2, none⟩) lb0).trans hc2)
                   have g0 := blk4_0 hr4.blk
                   have g1 := blk4_1 hr4.blk
                   have g2 := blk4_2 hr4.blk
                   have g3 := blk4_3 hr4.blk
                   have lgr := hr4.blk.lt
                   have m1 : gr ≠ w4.heap.size := by omega
                   have m2 : gr ≠ w4.heap.size + 1 := by omega
                   have m3 : w4.heap.size ≠ gr := by omega
                   have m4 : w4.heap.size + 1 ≠ gr := by omega
                   have lb4 : b < w4.heap.size := Nat.lt_of_lt_of_le lbw lv
                   have m5 : b ≠ w4.heap.size := by omega
                   have m6 : b ≠ w4.heap.size + 1 := by omega
                   have m7 : w4.heap.size ≠ b := by omega
                   have m8 : w4.heap.size + 1 ≠ b := by omega
                   have k14 := KB.out.below hb4 KB.out.lt
                   have q0 := blk4_0 k14
                   have q1 := blk4_1 k14
                   have q2 := blk4_2 k14
                   have q3 := blk4_3 k14
                   have y0 := k14.frozen 0
                   have y1 := k14.frozen 1
                   have y2 := k14.frozen 2
                   have y3 := k14.frozen 3
                   have l14 := k14.lt
                   have m9 : X2.heap.size ≠ w4.heap.size := Nat.ne_of_lt l14
                   have m10 : w4.heap.size ≠ X2.heap.size := fun e => m9 e.symm
                   have k12 := (K12.out.below BWB.out K12.out.lt).below hb4 (Nat.lt_of_lt_of_le K12.out.lt BWB.out.size)
                   have AF1 := Lib.hid (Aft.b (cg := cg') (cr := cr') hr4 k12 k14 b1 b9 (far1 _ KB.out.lt b11) (far2 _ KB.out.lt b12) b13)
                   clear hp4 hr4 k12)
                | (go_at_call 11
                   with_reducible show Calls _ _ _ ((X2.alloc (.cells #[.int .i64 0, .int .i64 0] 28)).drew) _
                   refine (rgo_any E G s f HI.out hfl2 _ _ _ _ _ _ hn2 gv yi yg p q e s' f' HST.out _ RC.out.hg RC.out.hf).mono ?_
                   intro e4 w4 hp4
                   obtain ⟨Ag', ng', cg', Ar', nr', cr', rfl, hcr', hr4, hb4, far1, far2⟩ := RC.out.step hp4
                   have lv := hb4.size
                   have lbw : b < ((X2.alloc (.cells #[.int .i64 0, .int .i64 0] 28)).drew).heap.size := Nat.lt_of_lt_of_le lb0 BWC.out.size
                   have hc0 := (hb4.cell (p := ⟨b, off + j * 3, none⟩) lbw).trans ((BWC.out.cell (p := ⟨b, off + j * 3, none⟩) lb0).trans hc0)
                   have hc1 := (hb4.cell (p := ⟨b, off + j * 3 + 1, none⟩) lbw).trans ((BWC.out.cell (p := ⟨b, off + j * 3 + 1, none⟩) lb0).trans hc1)
                   have hc2 := (hb4.cell (p := ⟨b, off + j * 3 + 2, none⟩) lbw).trans ((BWC.out.cell (p := ⟨b, off + j * 3 + 2, none⟩) lb0).trans hc2)
                   have g0 := blk4_0 hr4.blk
                   have g1 := blk4_1 hr4.blk
                   have g2 := blk4_2 hr4.blk
                   have g3 := blk4_3 hr4.blk
                   have lgr := hr4.blk.lt
                   have m1 : gr ≠ w4.heap.size := by omega
                   have m2 : gr ≠ w4.heap.size + 1 := by omega
                   have m3 : w4.heap.size ≠ gr := by omega
                   have m4 : w4.heap.size + 1 ≠ gr := by omega
                   have lb4 : b < w4.heap.size := Nat.lt_of_lt_of_le lbw lv
                   have m5 : b ≠ w4.heap.size := by omega
                   have m6 : b ≠ w4.heap.size + 1 := by omega
                   have m7 : w4.heap.size ≠ b := by omega
                   have m8 : w4.heap.size + 1 ≠ b := by omega
                   have k15 := KC.out.below hb4 KC.out.lt
                   have p0 := blk0 k15
                   have p1 := blk1 k15
                   have z0 := k15.frozen 0
                   have z1 := k15.frozen 1
                   have l15 := k15.lt
                   have m9 : X2.heap.size ≠ w4.heap.size := Nat.ne_of_lt l15
                   have m10 : w4.heap.size ≠ X2.heap.size := fun e => m9 e.symm
                   have k12 := (K12.out.below BWC.out K12.out.lt).below hb4 (Nat.lt_of_lt_of_le K12.out.lt BWC.out.size)
                   have AF1 := Lib.hid (Aft.c (cg := cg') (cr := cr') hr4 k12 k15 b15 b1 b9 (far1 _ KC.out.lt b11) (far2 _ KC.out.lt b12) b13)
                   clear hp4 hr4 k12)
                | (go_at_call 11
                   with_reducible show Calls _ _ _ (((X2.alloc (.cells #[.int .i64 0, .int .i64 0, .slice none 0 0, .slice none 0 0] 37)).alloc (.cells #[.int .i64 0, .int .i64 0] 28)).drew) _
                   refine (rgo_any E G s f HI.out hfl2 _ _ _ _ _ _ hn2 gv yi yg p q e s' f' HST.out _ RD.out.hg RD.out.hf).mono ?_
                   intro e4 w4 hp4
                   obtain ⟨Ag', ng', cg', Ar', nr', cr', rfl, hcr', hr4, hb4, far1, far2⟩ := RD.out.step hp4
                   have lv := hb4.size
                   have lbw : b < (((X2.alloc (.cells #[.int .i64 0, .int .i64 0, .slice none 0 0, .slice none 0 0] 37)).alloc (.cells #[.int .i64 0, .int .i64 0] 28)).drew).heap.size := Nat.lt_of_lt_of_le lb0 BWD.out.size
                   have hc0 := (hb4.cell (p := ⟨b, off + j * 3, none⟩) lbw).trans ((BWD.out.cell (p := ⟨b, off + j * 3, none⟩) lb0).trans hc0)
                   have hc1 := (hb4.cell (p := ⟨b, off + j * 3 + 1, none⟩) lbw).trans ((BWD.out.cell (p := ⟨b, off + j * 3 + 1, none⟩) lb0).trans hc1)
                   have hc2 := (hb4.cell (p := ⟨b, off + j * 3 + 2, none⟩) lbw).trans ((BWD.out.cell (p := ⟨b, off + j * 3 + 2, none⟩) lb0).trans hc2)
                   have g0 := blk4_0 hr4.blk
                   have g1 := blk4_1 hr4.blk
                   have g2 := blk4_2 hr4.blk
                   have g3 := blk4_3 hr4.blk
                   have lgr := hr4.blk.lt
                   have m1 : gr ≠ w4.heap.size := by omega
                   have m2 : gr ≠ w4.heap.size + 1 := by omega
                   have m3 : w4.heap.size ≠ gr := by omega
                   have m4 : w4.heap.size + 1 ≠ gr := by omega
                   have lb4 : b < w4.heap.size := Nat.lt_of_lt_of_le lbw lv
                   have m5 : b ≠ w4.heap.size := by omega
                   have m6 : b ≠ w4.heap.size + 1 := by omega
                   have m7 : w4.heap.size ≠ b := by omega
                   have m8 : w4.heap.size + 1 ≠ b := by omega
                   have k14 := KD4.out.below hb4 KD4.out.lt
                   have q0 := blk4_0 k14
                   have q1 := blk4_1 k14
                   have q2 := blk4_2 k14
                   have q3 := blk4_3 k14
                   have y0 := k14.frozen 0
                   have y1 := k14.frozen 1
                   have y2 := k14.frozen 2
                   have y3 := k14.frozen 3
                   have k15 := KD5.out.below hb4 KD5.out.lt
                   have p0 := blk0 k15
                   have p1 := blk1 k15
                   have z0 := k15.frozen 0
                   have z1 := k15.frozen 1
                   have k12 := (K12.out.below BWD.out K12.out.lt).below hb4 (Nat.lt_of_lt_of_le K12.out.lt BWD.out.size)
                   have AF1 := Lib.hid (Aft.de (cg := cg') (cr := cr') hr4 k12 k14 k15 b16 b1 b9 (far1 _ KD4.out.lt b11) (far2 _ KD4.out.lt b12) b13 b3 b10 (far1 _ KD5.out.lt b21) (far2 _ KD5.out.lt b22) b14)
                   clear hp4 hr4 k12)
                | (go_at_call 11
                   with_reducible show Calls _ _ _ (((X2.alloc (.cells #[.int .i64 0, .int .i64 0] 28)).alloc (.cells #[.int .i64 0, .int .i64 0, .slice none 0 0, .slice none 0 0] 37)).drew) _
                   refine (rgo_any E G s f HI.out hfl2 _ _ _ _ _ _ hn2 gv yi yg p q e s' f' HST.out _ RE.out.hg RE.out.hf).mono ?_
                   intro e4 w4 hp4
                   obtain ⟨Ag', ng', cg', Ar', nr', cr', rfl, hcr', hr4, hb4, far1, far2⟩ := RE.out.step hp4
                   have lv := hb4.size
                   have lbw : b < (((X2.alloc (.cells #[.int .i64 0, .int .i64 0] 28)).alloc (.cells #[.int .i64 0, .int .i64 0, .slice none 0 0, .slice none 0 0] 37)).drew).heap.size := Nat.lt_of_lt_of_le lb0 BWE.out.size
                   have hc0 := (hb4.cell (p := ⟨b, off + j * 3, none⟩) lbw).trans ((BWE.out.cell (p := ⟨b, off + j * 3, none⟩) lb0).trans hc0)
                   have hc1 := (hb4.cell (p := ⟨b, off + j * 3 + 1, none⟩) lbw).trans ((BWE.out.cell (p := ⟨b, off + j * 3 + 1, none⟩) lb0).trans hc1)
                   have hc2 := (hb4.cell (p := ⟨b, off + j * 3 + 2, none⟩) lbw).trans ((BWE.out.cell (p := ⟨b, off + j * 3 + 2, none⟩) lb0).trans hc2)
                   have g0 := blk4_0 hr4.blk
                   have g1 := blk4_1 hr4.blk
                   have g2 := blk4_2 hr4.blk
                   have g3 := blk4_3 hr4.blk
                   have lgr := hr4.blk.lt
                   have m1 : gr ≠ w4.heap.size := by omega
                   have m2 : gr ≠ w4.heap.size + 1 := by omega
                   have m3 : w4.heap.size ≠ gr := by omega
                   have m4 : w4.heap.size + 1 ≠ gr := by omega
                   have lb4 : b < w4.heap.size := Nat.lt_of_lt_of_le lbw lv
                   have m5 : b ≠ w4.heap.size := by omega
                   have m6 : b ≠ w4.heap.size + 1 := by omega
                   have m7 : w4.heap.size ≠ b := by omega
                   have m8 : w4.heap.size + 1 ≠ b := by omega
                   have k14 := KE4.out.below hb4 KE4.out.lt
                   have q0 := blk4_0 k14
                   have q1 := blk4_1 k14
                   have q2 := blk4_2 k14
                   have q3 := blk4_3 k14
                   have y0 := k14.frozen 0
                   have y1 := k14.frozen 1
                   have y2 := k14.frozen 2
                   have y3 := k14.frozen 3
                   have k15 := KE5.out.below hb4 KE5.out.lt
                   have p0 := blk0 k15
                   have p1 := blk1 k15
                   have z0 := k15.frozen 0
                   have z1 := k15.frozen 1
                   have k12 := (K12.out.below BWE.out K12.out.lt).below hb4 (Nat.lt_of_lt_of_le K12.out.lt BWE.out.size)
                   have AF1 := Lib.hid (Aft.de (cg := cg') (cr := cr') hr4 k12 k14 k15 b15 b3 b10 (far1 _ KE4.out.lt b21) (far2 _ KE4.out.lt b22) b14 b1 b9 (far1 _ KE5.out.lt b11) (far2 _ KE5.out.lt b12) b13)
                   clear hp4 hr4 k12)
                | fail)
            all_goals (go_wp2_with fail; go_meet; first | with_reducible exact ⟨rfl, _, _, rfl, rfl, Ag', ng', cg', Ar', nr', cr', hcr', AF1⟩ | exact ⟨rfl, _, _, rfl, rfl, Ag', ng', cg', Ar', nr', cr', hcr', AF2⟩)
          case rest =>
            obtain ⟨rfl, p14, p15, rfl, rfl, Ag, ng, cg, Ar, nr, cr, hcr, HAF⟩ := hcut
            clear hc0 hc1 hc2
            have g0 := blk4_0 HAF.out.ri.blk
            have g1 := blk4_1 HAF.out.ri.blk
            have g2 := blk4_2 HAF.out.ri.blk
            have g3 := blk4_3 HAF.out.ri.blk
            have z0 := HAF.out.ri.blk.frozen 0
            have z1 := HAF.out.ri.blk.frozen 1
            have z2 := HAF.out.ri.blk.frozen 2
            have z3 := HAF.out.ri.blk.frozen 3
            have q0 := blk4_0 HAF.out.k14
            have q1 := blk4_1 HAF.out.k14
            have q2 := blk4_2 HAF.out.k14
            have q3 := blk4_3 HAF.out.k14
            have d1 : p12 ≠ gr := fun e => HAF.out.ri.blk.ne_ HAF.out.k12 (by decide) e.symm
            have d2 : p15 ≠ gr := fun e => HAF.out.ri.blk.ne_ HAF.out.k15 (by decide) e.symm
            have R3 := Lib.hid (HAF.out.ri.put (cg := cg) (cr := cr))
            have K3 := Lib.hid ((((HAF.out.k12.far (p := ⟨gr, 0, none⟩) d1 (.int .i64 E)).far (p := ⟨gr, 1, none⟩) d1 (.int .i64 G)).far (p := ⟨gr, 2, none⟩) d1 (.slice Ag ng cg)).far (p := ⟨gr, 3, none⟩) d1 (.slice Ar nr cr))
            have K4 := Lib.hid ((((HAF.out.k15.far (p := ⟨gr, 0, none⟩) d2 (.int .i64 E)).far (p := ⟨gr, 1, none⟩) d2 (.int .i64 G)).far (p := ⟨gr, 2, none⟩) d2 (.slice Ag ng cg)).far (p := ⟨gr, 3, none⟩) d2 (.slice Ar nr cr))
            clear d1 d2
            go_upto_region 17 with (fail)
            clear g0 g1 g2 g3 z0 z1 z2 z3 q0 q1 q2 q3
            generalize (((wc.setCell ⟨gr, 0, none⟩ (.int .i64 E)).setCell ⟨gr, 1, none⟩ (.int .i64 G)).setCell ⟨gr, 2, none⟩ (.slice Ag ng cg)).setCell ⟨gr, 3, none⟩ (.slice Ar nr cr) = X at R3 K3 K4 ⊢
            have g0 := blk4_0 R3.out.blk
            have g1 := blk4_1 R3.out.blk
            have g2 := blk4_2 R3.out.blk
            have g3 := blk4_3 R3.out.blk
            have a0 := blk0 K3.out
            have a1 := blk1 K3.out
            have v0 := blk0 K4.out
            have v1 := blk1 K4.out
            go_wp2_with fail
            exact ⟨⟨j + 1, by omega, by go_num, s', f', Ag, ng, cg, Ar, nr, cr, hcr, by omega, HI', R3⟩, by simp [intOf]; omega⟩
        · have g0 := blk4_0 HR.out.blk
          have g1 := blk4_1 HR.out.blk
          have g2 := blk4_2 HR.out.blk
          have g3 := blk4_3 HR.out.blk
          have i0 := blk0 HR.out.bid
          have i1 := blk1 HR.out.bid
          go_wp2_with fail
          refine (take_nil _).mono ?_
          rintro e6 w6 ⟨rfl, hb6⟩
          have ba6 : Below w6.heap.size w6 (w6.alloc (.cells #[.int .i64 0, .int .i64 0] 28)) := (Below.refl _ _).alloc (Nat.le_refl _) _
          have R6 := Lib.hid ((HR.out.over hb6).over ba6)
          clear hb6 ba6 g0 g1 g2 g3 i0 i1
          go_upto_region 21 with (fail)
          generalize w6.alloc (.cells #[.int .i64 0, .int .i64 0] 28) = X6 at R6 ⊢
          have i0 := blk0 R6.out.bid
          have i1 := blk1 R6.out.bid
          go_wp2_with (first
            | (go_at_call 15; refine (code_any _ _).mono ?_; rintro e7 w7 ⟨rfl, rfl⟩)
            | (go_at_call 17; refine (give_nil _ _ _).mono ?_; rintro e7 w7 ⟨rfl, hb7⟩; have R7 := Lib.hid (R6.out.over hb7); have i0 := blk0 R7.out.bid; have i1 := blk1 R7.out.bid; clear hb7)
            | (go_at_call 9; refine (alive_nil _ _ _).mono ?_; rintro e8 w8 ⟨rfl, hb8⟩; have R8 := Lib.hid (R7.out.over hb8); have i0 := blk0 R8.out.bid; have i1 := blk1 R8.out.bid; have g0 := blk4_0 R8.out.blk; have g1 := blk4_1 R8.out.blk; have g2 := blk4_2 R8.out.blk; have g3 := blk4_3 R8.out.blk; obtain ⟨As', cs', Af', cf', ho3, _⟩ := R8.out.obj; have HO3 := Lib.hid ho3; clear ho3 hb8)
            | (go_at_call 18; refine (count_nil _).mono ?_; rintro e9 w9 ⟨rfl, rfl⟩)
            | (go_at_call 19; refine (gens_nil _).mono ?_; rintro e9 w9 ⟨rfl, rfl⟩)
            | (go_at_call 20; refine (free_nil _).mono ?_; rintro e9 w9 ⟨rfl, rfl⟩)
            | (go_at_call 12; refine (told_any _ _ E G _ _ _ _ s f HI.out hfl2 _ _ _ _ _ _ i g _ HO3.out R8.out.hg R8.out.hf).mono ?_; rintro e5 w5 ⟨rfl, hb5⟩; have R9 := Lib.hid (R8.out.over hb5); clear hb5)
            | (go_at_call 6; refine (live_any _).mono ?_; rintro e6 w6 ⟨rfl, hb6⟩; have R10 := Lib.hid (R9.out.over hb6); clear hb6))
          go_ret
          exact ⟨rfl, R10.out.hb⟩
    · exact absurd HGOOD.out hb
  · have HBAD := Lib.hid hbad
    have B1 := Lib.hid (HBA.out.trans (hb1.mono HBA.out.size))
    clear hbad hb1
    go_wp2_with fail
    refine (rload_any n m E G HE.out HG.out Ag0 ng0 cg0 gl hng Af0 nf0 cf0 fl hnf hfc _ (HGR.out.over B1.out) (HFR.out.over B1.out)).mono ?_
    intro e2 w2 hp2
    rcases hp2 with ⟨hg2, _, _⟩ | ⟨_, rfl, hb2⟩
    · exact absurd hg2 HBAD.out
    have B2 := Lib.hid (B1.out.trans (hb2.mono B1.out.size))
    clear hb2
    go_wp2_with (first
      | (go_at_call 15; refine (code_any _ _).mono ?_; rintro e3 w3 ⟨rfl, rfl⟩)
      | (go_at_call 6; refine (live_any _).mono ?_; rintro e6 w6 ⟨rfl, hb6⟩; have HB6 := Lib.hid hb6; clear hb6))
    go_ret
    exact ⟨rfl, (B2.out.alloc B2.out.size _).trans (HB6.out.mono (B2.out.alloc B2.out.size _).size)⟩
end Go.Proofs.Ytohlcopnifmjoab
