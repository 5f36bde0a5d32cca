/- alloc: what each step tells, where n is 1024 or more. -/
import Derived.Test.YtohlcopnifmjoaeSteps
namespace Go.Proofs.Ytohlcopnifmjoae
open Go.RowKit

set_option maxRecDepth 100000 in
set_option maxHeartbeats 2000000 in
theorem steps_high (n : Int) (h2 : 1024 ≤ n) (A : Option Addr) (nn c : Nat) (ss : List StV) (hn50 : nn ≤ 50) (HM : Hid (muchB ss = false)) (H30 : Hid (∀ x ∈ ss, x.n ≤ 30)) (p : Int) (w : World) (HNI : Hid (i64ok n)) (OK : Hid ((⟨A, nn, c, ss⟩ : Stp).ok w)) :
    Calls Try.prog 3 #[.int .i64 n, .slice A nn c, .int .i64 p] w fun e w' => e = .returned (.bool true) ∧ Below w.heap.size w w' := by
  obtain ⟨N, HNe⟩ : ∃ N, Hid (newN n = N) := ⟨_, rfl⟩
  have hN : N ≤ 1024 := by rw [← HNe.out]; exact newN_le n
  go_enter Try.func3, Try.ntmps3
  go_wp2_with fail
  refine (much_any A nn c ss _ OK.out).mono ?_
  rintro e w' ⟨rfl, rfl⟩
  rw [HM.out]
  go_wp2_with fail
  refine (new_any n _ HNI.out).mono ?_
  rintro e1 w1 ⟨ga, g, ca, rfl, ha, hb⟩
  rw [HNe.out] at ha
  have HA := Lib.hid ha
  have B1 := Lib.hid hb
  clear ha hb
  go_wp2_with fail
  refine (rnew_any n _).mono ?_
  rintro e2 w2 ⟨rfl, hb⟩
  rw [HNe.out]
  have inv : InvW w (w2.alloc (.cells #[.int .i64 N, .slice none 0 0] 29)) N ga w2.heap.size (List.replicate N 0) none 0 0 none 0 [] := by
    have hb2 := B1.out.trans (hb.mono B1.out.size)
    have ho := (HA.out.over hb).over (((Below.refl _ _).alloc (Nat.le_refl _) _) : Below w2.heap.size w2 (w2.alloc (.cells #[.int .i64 N, .slice none 0 0] 29)))
    exact ⟨⟨g, ca, ho, fun h => absurd h (by omega)⟩, Blk.new w2 29 _, Reads.none_n, fun h => absurd h (by omega), fun h => absurd h (by omega), hb2.size, hb2.alloc hb2.size _⟩
  have INV := Lib.hid inv
  have k0 := blk0 inv.blk
  clear inv hb B1 HA
  go_wp2_with fail
  generalize w2.alloc (.cells #[.int .i64 N, .slice none 0 0] 29) = X at INV k0 ⊢
  generalize w2.heap.size = gr at INV k0 ⊢
  go_quiet ((go_at_call 10; obtain ⟨g, c, ho, _⟩ := (INV.out.drewN _).obj; exact Calls.quiet_of_same (size_to N _ _ _ _ _ (by simp) _ ho)))
  have INV2 := Lib.hid (INV.out.drewN nq)
  clear k0 INV
  go_wp2_with fail
  generalize X.drewN nq = X at INV2 ⊢
  go_loopw [9] (fun i wr => ∃ j : Nat, j ≤ nn ∧ i = .int .i64 j ∧ ∃ rs H A1 n1 c1, n1 ≤ c1 ∧ n1 ≤ j * 31 ∧ Hid (rs.length = N) ∧ Hid (Within (j * 31 : Nat) rs) ∧ Hid (Same rs H) ∧ Hid (InvW w wr N ga gr rs A1 n1 c1 A1 n1 H)) (fun i _ => nn - (intOf i).toNat)
  case atStart => exact ⟨0, Nat.zero_le _, rfl, _, _, none, 0, 0, Nat.le_refl _, Nat.zero_le _, Lib.hid (by simp), Lib.hid (within_zero N), Lib.hid (same_zero N), INV2⟩
  case round =>
    obtain ⟨j, hj, rfl, rs, H, A1, n1, c1, hn1, hm1, HLN, HW, HS, HI⟩ := hrel
    by_cases hlt : j < nn
    · obtain ⟨b, off, x, he, hbl, hx, hc0, hc1⟩ := (OK.out.over HI.out.below).at_ hlt
      dsimp only at he hx
      obtain ⟨rfl⟩ := he
      have HXR := Lib.hid ((OK.out.hs x (List.mem_of_getElem? hx)).2.1.over HI.out.below)
      have HXR0 := Lib.hid ((OK.out.hs x (List.mem_of_getElem? hx)).2.1)
      have hx30 := H30.out x (List.mem_of_getElem? hx)
      obtain ⟨q, okb, rs', hs⟩ := stepIs x.act x.l rs
      obtain ⟨H', hgo, hsame, hlen⟩ := step_same HS.out hs
      have hlx : x.l.length = x.n := ((OK.out.hs x (List.mem_of_getElem? hx)).2.1).ilen
      have hHl := HI.out.reads.ilen
      have HW' := Lib.hid ((hs.within (by omega) HW.out).mono (m' := (((j + 1) * 31 : Nat) : Int)) (by rw [hlx]; omega))
      have HLN' := Lib.hid (hs.length.trans HLN.out)
      have hlen' : H'.length ≤ (j + 1) * 31 := by omega
      have HS' := Lib.hid hsame
      rw [HLN.out] at hgo
      have HGO := Lib.hid hgo
      have HST := Lib.hid hs
      obtain ⟨g, co, ho, hag⟩ := HI.out.obj
      have HO := Lib.hid ho
      have HAG := Lib.hid hag
      have HX := Lib.hid hx
      clear hx hs hgo hsame hlen hlx hHl ho hag
      go_wp2_with fail
      refine (do_any _ _ _ _ _ _ (by omega) HW.out _ _ _ _ _ (by omega) _ _ _ HST.out _ HO.out HXR.out).mono ?_
      intro e3 w3 hp3
      obtain ⟨rfl, hi3⟩ := HI.out.post HO.out HAG.out hp3
      have HI3 := Lib.hid hi3
      clear hp3 hi3 hc0 hc1 HI HO HAG HXR
      obtain ⟨_, _, x', he, _, hx', hc0, hc1⟩ := (OK.out.over HI3.out.below).at_ hlt
      dsimp only at he hx'
      obtain ⟨rfl, rfl⟩ : _ ∧ _ := by simpa using he
      obtain rfl : x' = x := by have := HX.out; rw [hx'] at this; injection this
      clear he hx'
      go_wp2_with fail
      go_upto_region 10 with (fail)
      go_cut [12, 13, 14] (fun s12 s13 s14 wx => s13 = .int .i64 q ∧ s14 = .bool okb ∧ ∃ gn A3 n3 c3, s12 = .pointer (some ⟨gn, 0, none⟩) ∧ n3 ≤ c3 ∧ Hid (Blk wx gn 29 #[.int .i64 N, .slice A3 n3 c3]) ∧ Hid (InvW w wx N ga gr rs' A1 n1 c1 A3 n3 H'))
      case first =>
        have g0 := blk0 HI3.out.blk
        have g1 := blk1 HI3.out.blk
        have l1 := HI3.out.blk.lt
        have l2 := World.block_lt_of_cell? _ _ hc0
        dsimp only at l2
        have l1' : gr ≠ w3.heap.size := by omega
        have l2' : b ≠ w3.heap.size := by omega
        have l1r : w3.heap.size ≠ gr := by omega
        have l2r : w3.heap.size ≠ b := by omega
        have HIA := Lib.hid (HI3.out.alloc (.cells #[.int .i64 0, .slice none 0 0] 29)).drew
        have HZ := Lib.hid (Blk.new w3 29 #[.int .i64 0, .slice none 0 0]).drew
        have HAZ := Lib.hid (HI3.out.reads.away_of (Nat.le_refl _))
        have HWZ := Lib.hid HI3.out.below.size
        have bza : Below w3.heap.size w3 (w3.alloc (.cells #[.int .i64 0, .slice none 0 0] 29)).drew := ((Below.refl _ _).alloc (Nat.le_refl _) _).drew
        have hcz0 := (bza.cell (p := ⟨b, off + j * 2, none⟩) l2).trans hc0
        have hcz1 := (bza.cell (p := ⟨b, off + j * 2 + 1, none⟩) l2).trans hc1
        have HC0 := Lib.hid hcz0
        have HC1 := Lib.hid hcz1
        clear bza hcz0 hcz1
        have l3 : b < (w3.alloc (.cells #[.int .i64 0, .slice none 0 0] 29)).drew.heap.size := by simp; omega
        have l4 : w3.heap.size < (w3.alloc (.cells #[.int .i64 0, .slice none 0 0] 29)).drew.heap.size := by simp
        go_region_held3 (fun w' => w'.cell? ⟨gr, 0, none⟩ = some (.int .i64 N) ∧ w'.cell? ⟨gr, 1, none⟩ = some (.slice A1 n1 c1) ∧ w'.cell? ⟨b, off + j * 2, none⟩ = some (.int .i64 x'.act) ∧ w'.cell? ⟨b, off + j * 2 + 1, none⟩ = some (.slice x'.A x'.n x'.c)) (go_keep)
          (first
            | (go_at_call 12
               refine (rgo_any N hN A1 n1 c1 H (by omega) hn1 x'.act x'.A x'.n x'.c x'.l (by omega) q okb H' HGO.out _ HI3.out.drew.reads (HXR0.out.over HI3.out.drew.below)).mono ?_
               intro e4 w4 hp4
               obtain ⟨A3, n3, c3, rfl, hle3, hi4, hb4, hf4⟩ := HI3.out.drew.step hp4
               have g0 := blk0 hi4.blk
               have g1 := blk1 hi4.blk
               have hc0 := (hb4.cell (p := ⟨b, off + j * 2, none⟩) l2).trans hc0
               have hc1 := (hb4.cell (p := ⟨b, off + j * 2 + 1, none⟩) l2).trans hc1
               have l1 := hi4.blk.lt
               have l2 := World.block_lt_of_cell? _ _ hc0
               dsimp only at l2
               have l1' : gr ≠ w4.heap.size := by omega
               have l2' : b ≠ w4.heap.size := by omega
               have HI5 := Lib.hid (hi4.alloc (.cells #[.int .i64 N, .slice A3 n3 c3] 29))
               have HB5 := Lib.hid (Blk.new w4 29 #[.int .i64 N, .slice A3 n3 c3])
               clear hp4 hi4 hb4 hf4)
            | (go_at_call 12
               refine (rgo_any N hN A1 n1 c1 H (by omega) hn1 x'.act x'.A x'.n x'.c x'.l (by omega) q okb H' HGO.out _ HIA.out.reads (HXR0.out.over HIA.out.below)).mono ?_
               intro e4 w4 hp4
               obtain ⟨A3, n3, c3, rfl, hle3, hi4, hb4, hf4⟩ := HIA.out.step hp4
               have g0 := blk0 hi4.blk
               have g1 := blk1 hi4.blk
               have hc0 := (hb4.cell (p := ⟨b, off + j * 2, none⟩) l3).trans HC0.out
               have hc1 := (hb4.cell (p := ⟨b, off + j * 2 + 1, none⟩) l3).trans HC1.out
               have bz := HZ.out.below hb4 HZ.out.lt
               have hz0 := blk0 bz
               have hz1 := blk1 bz
               have hzf := bz.frozen 0
               have hzg := bz.frozen 1
               have haz := hf4 w3.heap.size l4 HAZ.out
               have HI5 := Lib.hid ((hi4.set (i := 0) bz l1' haz HWZ.out (.int .i64 N)).set (i := 1) (bz.set_ 0 _) l1' haz HWZ.out (.slice A3 n3 c3))
               have HB5 := Lib.hid (two_set bz (.int .i64 N) (.slice A3 n3 c3))
               clear hp4 hi4 hb4 hf4 bz haz)
            | fail)
        all_goals (go_wp2_with fail; go_meet; exact ⟨rfl, rfl, _, A3, n3, c3, rfl, hle3, HB5, HI5⟩)
      case rest =>
        obtain ⟨rfl, rfl, gn, A3, n3, c3, rfl, hle3, HBN, HI4⟩ := hcut
        have m0 := blk0 HBN.out
        have m1 := blk1 HBN.out
        have g0 := blk0 HI4.out.blk
        have g1 := blk1 HI4.out.blk
        have z0 := HI4.out.blk.frozen 0
        have z1 := HI4.out.blk.frozen 1
        have hn3 : n3 ≤ (j + 1) * 31 := by
          have := HI4.out.reads.ilen
          omega
        have HI6 := Lib.hid (HI4.out.put (c2 := c3))
        clear hc0 hc1
        go_wp2_with fail
        clear m0 m1 g0 g1 z0 z1
        generalize (wc.setCell ⟨gr, 0, none⟩ (.int .i64 N)).setCell ⟨gr, 1, none⟩ (.slice A3 n3 c3) = X at HI6 ⊢
        have g0 := blk0 HI6.out.blk
        have g1 := blk1 HI6.out.blk
        have hv := HS'.out.refs p
        obtain ⟨v, hvv⟩ : ∃ v : Int, v = (H'.count p : Nat) := ⟨_, rfl⟩
        rw [← hvv] at hv
        have HV := Lib.hid hv
        have HVV := Lib.hid hvv
        obtain ⟨g5, c5, ho5, _⟩ := HI6.out.drew.obj
        have HO5 := Lib.hid ho5
        clear ho5 hv hvv
        go_region_held3 (fun w' => w'.cell? ⟨gr, 0, none⟩ = some (.int .i64 N) ∧ w'.cell? ⟨gr, 1, none⟩ = some (.slice A3 n3 c3)) (go_keep)
          (first
            | (go_at_call 13; refine (refs_to v _ _ _ _ _ _ HV.out _ HO5.out).mono ?_; rintro e5 w5 ⟨rfl, rfl⟩)
            | (go_at_call 13; refine (refs_to v _ _ _ _ _ _ HV.out _ HO6.out).mono ?_; rintro e5 w5 ⟨rfl, rfl⟩)
            | (go_at_call 14
               refine (rrefs_any N A3 n3 c3 H' (by omega) p _ HI6.out.drew.reads).mono ?_
               rintro e5 w5 ⟨rfl, hb5⟩
               rw [← HVV.out]
               have HI7 := Lib.hid (HI6.out.drew.over hb5)
               have HO6 := Lib.hid (HO5.out.over hb5)
               have g0 := blk0 HI7.out.blk
               have g1 := blk1 HI7.out.blk
               clear hb5))
        all_goals (
          go_wp2_with fail
          exact ⟨⟨j + 1, by omega, by go_num, rs', H', A3, n3, c3, hle3, hn3, HLN', HW', HS', HI7⟩, by simp [intOf]; omega⟩)
    · have g0 := blk0 HI.out.blk
      have g1 := blk1 HI.out.blk
      have HC : Hid (∀ k : Nat, k < N → rs.getD k 0 = H.count (k : Int)) := fun k hk => HS.out.hc k (by rw [HLN.out]; exact hk)
      have hlh := heldL_length rs
      rw [HLN.out] at hlh
      have hwr : IntKind.i64.wrap ((N : Int) - ((heldL rs).length : Int)) = (N : Int) - ((heldL rs).length : Int) := by rw [IntKind.wrap_i64]; omega
      go_wp2_with fail
      refine (rlist_any N hN A1 n1 c1 H (by omega) rs HLN.out HC.out _ HI.out.reads).mono ?_
      rintro e5 w5 ⟨A5, k5, rfl, hr5, hb5⟩
      have HR5 := Lib.hid hr5
      have HI5 := Lib.hid (HI.out.over hb5)
      have g0 := blk0 HI5.out.blk
      clear hr5 hb5 g1
      go_wp2_with fail
      obtain ⟨g6, c6, ho6, _⟩ := HI5.out.drew.obj
      have HO6 := Lib.hid ho6
      clear ho6
      go_region_held3 (fun w' => w'.cell? ⟨gr, 0, none⟩ = some (.int .i64 N)) (go_keep)
        (first
          | (go_at_call 17
             refine (held_any _ _ _ _ _ _ HO6.out).mono ?_
             rintro e6 w6 ⟨A6, k6, rfl, hr6, hb6⟩
             have HR6 := Lib.hid hr6
             have HR6' := Lib.hid ((HR5.out.over (⟨rfl, rfl, rfl, Nat.le_refl _, fun _ _ => rfl⟩ : Below w5.heap.size w5 w5.drew)).over hb6)
             have HI6 := Lib.hid (HI5.out.drew.over hb6)
             have HO7 := Lib.hid (HO6.out.over hb6)
             have g0 := blk0 HI6.out.blk
             clear hr6 hb6)
          | (go_at_call 16
             refine (same_any _ _ _ _ _ _ _ (by omega) HR6.out HR6'.out).mono ?_
             rintro e7 w7 ⟨rfl, d, hw7⟩
             have HI7 : Hid (InvW w w7 N ga gr rs A1 n1 c1 A1 n1 H) := Lib.hid (by rw [hw7]; exact HI6.out.drewN d)
             have HO8 : Hid (AObj w7 w.heap.size ga g6 c6 rs) := Lib.hid (by rw [hw7]; exact HO7.out.over (⟨rfl, rfl, rfl, Nat.le_refl _, fun _ _ => rfl⟩ : Below w6.heap.size w6 (w6.drewN d)))
             have g0 := blk0 HI7.out.blk
             clear hw7 d)
          | (go_at_call 18
             refine (free_to N _ _ _ _ _ HLN.out _ HO8.out).mono ?_
             rintro e8 w8 ⟨rfl, hb8⟩
             have HI8 := Lib.hid (HI7.out.over hb8)
             have g0 := blk0 HI8.out.blk
             clear hb8)
          | (go_at_call 7
             refine (live_any _).mono ?_
             rintro e9 w9 ⟨rfl, hb9⟩
             have HI9 := Lib.hid (HI8.out.over hb9)
             have g0 := blk0 HI9.out.blk
             clear hb9)
          | fail)
      all_goals (
        go_wp2_with fail
        go_ret
        exact ⟨rfl, HI9.out.below⟩)
end Go.Proofs.Ytohlcopnifmjoae
