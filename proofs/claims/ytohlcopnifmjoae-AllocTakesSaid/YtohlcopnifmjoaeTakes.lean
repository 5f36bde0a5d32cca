/- alloc: what is held is never taken; holding and dropping undo one another. -/
import Derived.Test.YtohlcopnifmjoaeScript
namespace Go.Proofs.Ytohlcopnifmjoae
open Go.RowKit

/-- a step's operation keeps all below -/
theorem PostA.parts {w w0 w' : World} {B ga g c : Nat} {rs rs' : List Int} {v : Value} {e : Ending} (h : AObj w B ga g c rs) (hB : Below B w0 w) (hp : PostA w B ga g rs' v e w') :
    e = .returned v ∧ ∃ g' c', AObj w' B ga g' c' rs' ∧ Below B w0 w' ∧ Fr ga g w w' ∧ (g' = g ∨ w.heap.size ≤ g') := by
  obtain ⟨he, gn, cn, ha, hf, hg⟩ := hp
  exact ⟨he, gn, cn, ha, hB.trans (hf.below (by have := h.hB; have := h.lt; omega) h.hB h.glt.1), hf, hg⟩

theorem own_fr2 {w0 w w' : World} {base ga g n c : Nat} {A : Option Addr} {xs : List Value} (h0 : w0.ownsRow base 3 1 (.slice A n c) n xs) (h : w.ownsRow base 3 1 (.slice A n c) n xs) (hf : Fr ga g w w') (h1 : ga < base) (h2 : g < base ∨ w0.heap.size ≤ g) : w'.ownsRow base 3 1 (.slice A n c) n xs := by
  refine ⟨h.1, ?_⟩
  have hlt := h.lt
  have hlt0 := h0.lt
  rcases h.2 with h' | ⟨g', cap, cur, h', hb, hh, rest⟩
  · exact .inl h'
  · have := (hlt0 g' (by rw [h']; rfl)).2
    exact .inr ⟨g', cap, cur, h', hb, (hf.block g' (hlt g' (by rw [h']; rfl)).2 (by omega) (by omega)).trans hh, rest⟩

set_option maxHeartbeats 2000000 in
theorem takes_any (nn : Int) (hn0 : 0 ≤ nn) (hn1 : nn ≤ 255) (A : Option Addr) (n c : Nat) (ss : List StV) (A2 : Option Addr) (len2 cap2 : Nat) (l2 : List Int) (w : World) (hn2 : len2 ≤ maxLen) (ok : (⟨A, n, c, ss⟩ : Stp).ok w) (hr : Reads w w.heap.size 1 A2 len2 (ints l2)) :
    Calls Try.prog 4 #[.int .u8 nn, .slice A n c, .slice A2 len2 cap2] w fun e w' => e = .returned (.bool true) ∧ Below w.heap.size w w' := by
  unfold maxLen at hn2
  have HR := Lib.hid hr
  have HL := Lib.hid ok.len
  have OK := Lib.hid ok
  clear hr ok
  dsimp only at HL
  cases hmu : muchB ss with
  | true =>
    have HM := Lib.hid hmu
    clear hmu
    go_enter Try.func4, Try.ntmps4
    go_wp2_with fail
    refine (much_any A n c ss _ OK.out).mono ?_
    rintro e w' ⟨rfl, rfl⟩
    rw [HM.out]
    go_wp2_with (go_at_call 7; refine (live_any _).mono ?_; rintro e w' ⟨rfl, hb⟩; have HB := Lib.hid hb; clear hb)
    go_ret
    exact ⟨rfl, HB.out⟩
  | false =>
  have HM := Lib.hid hmu
  by_cases h30 : 30 < len2
  · clear hmu
    go_enter Try.func4, Try.ntmps4
    go_wp2_with fail
    refine (much_any A n c ss _ OK.out).mono ?_
    rintro e w' ⟨rfl, rfl⟩
    rw [HM.out]
    go_wp2_with (go_at_call 7; refine (live_any _).mono ?_; rintro e w' ⟨rfl, hb⟩; have HB := Lib.hid hb; clear hb)
    go_ret
    exact ⟨rfl, HB.out⟩
  have hn50 : n ≤ 50 := by rw [← HL.out]; exact (muchB_false hmu).1
  have H30 := Lib.hid (muchB_false hmu).2
  clear hmu
  obtain ⟨k, hk⟩ : ∃ k : Nat, nn % 40 = (k : Int) := ⟨(nn % 40).toNat, by omega⟩
  have hnew : newN (nn % 40) = k := by unfold newN; rw [hk, if_neg (by omega), if_neg (by omega)]; simp
  have HN := Lib.hid hnew
  clear hnew hk
  go_enter Try.func4, Try.ntmps4
  go_wp2_with fail
  refine (much_any A n c ss _ OK.out).mono ?_
  rintro e w' ⟨rfl, rfl⟩
  rw [HM.out]
  go_wp2_with fail
  refine (new_any (nn % 40) _ (by unfold i64ok; omega)).mono ?_
  rintro e1 w1 ⟨ga, g, ca, rfl, ha, hb⟩
  rw [HN.out] at ha
  have HA := Lib.hid ha
  have B1 := Lib.hid hb
  clear ha hb
  go_wp2_with fail
  go_loopw [8] (fun i wr => ∃ j : Nat, j ≤ n ∧ i = .int .i64 j ∧ ∃ g c rs, Hid (AObj wr w.heap.size ga g c rs) ∧ Hid (Within (j * 31 : Nat) rs) ∧ Hid (Below w.heap.size w wr)) (fun i _ => n - (intOf i).toNat)
  case atStart => exact ⟨0, Nat.zero_le _, rfl, g, ca, _, HA, Lib.hid (within_zero k), B1⟩
  case round =>
    obtain ⟨j, hj, rfl, g1, c1, rs, HA1, HW, HB⟩ := hrel
    by_cases hlt : j < n
    · go_wp2_with fail
      refine (held_own _ _ _ _ _ _ HA1.out).mono ?_
      rintro e2 w2 ⟨Ah, kh, rfl, hrh, hbh⟩
      have hlt1 := HA1.out.lt
      have hlt2 := HA1.out.glt.2
      have HRH := Lib.hid hrh
      have HB2 := Lib.hid (HB.out.trans (hbh.mono HB.out.size))
      have HA2 := Lib.hid (HA1.out.over hbh)
      have hlh := Nat.le_trans (heldL_length rs) HA1.out.hn
      clear hrh hbh HA1 HB
      obtain ⟨b, off, x, he, hbl, hx, hc0, hc1⟩ := (OK.out.over HB2.out).at_ hlt
      dsimp only at he hx
      obtain ⟨rfl⟩ := he
      have HXR := Lib.hid ((OK.out.hs x (List.mem_of_getElem? hx)).2.1.over HB2.out)
      have hx30 := H30.out x (List.mem_of_getElem? hx)
      obtain ⟨p, okb, rs', hs⟩ := stepIs x.act x.l rs
      have HS := Lib.hid hs
      have hlx : x.l.length = x.n := ((OK.out.hs x (List.mem_of_getElem? hx)).2.1).ilen
      have HW' := Lib.hid ((hs.within (by omega) HW.out).mono (m' := (((j + 1) * 31 : Nat) : Int)) (by rw [hlx]; omega))
      have HX := Lib.hid hx
      clear hx hs hlx
      go_wp2_with fail
      refine (do_any _ _ _ _ _ _ (by omega) HW.out _ _ _ _ _ (by omega) _ _ _ HS.out _ HA2.out HXR.out).mono ?_
      intro e3 w3 hp3
      obtain ⟨rfl, g3, c3, ha3, hb3, hf3, hg3⟩ := PostA.parts HA2.out HB2.out hp3
      have HR3 := Lib.hid (own_fr HRH.out hf3 hlt1 hlt2)
      clear hf3 HRH
      have HA3 := Lib.hid ha3
      have HB3 := Lib.hid hb3
      clear hp3 ha3 hb3 hc0 hc1
      obtain ⟨_, _, x', he, _, hx', hc0, hc1⟩ := (OK.out.over HB3.out).at_ hlt
      dsimp only at he hx'
      obtain ⟨rfl, rfl⟩ : _ ∧ _ := by simpa using he
      obtain rfl : x' = x := by have := HX.out; rw [hx'] at this; injection this
      clear he hx'
      rcases HS.out with ⟨h1, rfl, hok, _⟩ | ⟨h1, rfl, hok, _⟩ | ⟨h1, h2, ⟨q, rfl, rfl, hq, hq0, _, hrs⟩ | ⟨rfl, rfl, _, _⟩⟩
      · clear hok
        rw [h1] at hc0
        clear h1 hc1
        cases okb
        · go_wp2_with fail
          exact ⟨⟨j + 1, by omega, by go_num, _, _, _, HA3, HW', HB3⟩, by simp [intOf]; omega⟩
        · go_wp2_with fail
          exact ⟨⟨j + 1, by omega, by go_num, _, _, _, HA3, HW', HB3⟩, by simp [intOf]; omega⟩
      · clear hok
        rw [h1] at hc0
        clear h1 hc1
        cases okb
        · go_wp2_with fail
          exact ⟨⟨j + 1, by omega, by go_num, _, _, _, HA3, HW', HB3⟩, by simp [intOf]; omega⟩
        · go_wp2_with fail
          exact ⟨⟨j + 1, by omega, by go_num, _, _, _, HA3, HW', HB3⟩, by simp [intOf]; omega⟩
      · have hlr : rs'.length = rs.length := by rw [hrs]; simp
        have hnh := Lib.hid (not_held hq0)
        have hrf : Hid (refsL rs' (q : Int) = 1) := by
          have : refsL rs' (q : Int) = 1 := by
            unfold refsL
            rw [hlr, if_pos (by omega), hrs]
            simp [hq]
          exact this
        clear hrs hq0 hc1
        go_wp2_with fail
        refine (has_no _ _ _ _ _ _ (by omega) (Reads.of_own HR3.out) hnh.out).mono ?_
        rintro e4 w4 ⟨rfl, rfl⟩
        go_wp2_with fail
        refine (refs_any _ _ _ _ _ _ _ HA3.out).mono ?_
        rintro e5 w5 ⟨rfl, rfl⟩
        rw [hrf.out]
        go_wp2_with fail
        exact ⟨⟨j + 1, by omega, by go_num, _, _, _, HA3, HW', HB3⟩, by simp [intOf]; omega⟩
      · clear hc1
        go_wp2_with fail
        exact ⟨⟨j + 1, by omega, by go_num, _, _, _, HA3, HW', HB3⟩, by simp [intOf]; omega⟩
    · have hw1 := HW.out
      have hm1 : ((j * 31 : Nat) : Int) ≤ 10000 := by omega
      clear HW
      generalize ((j * 31 : Nat) : Int) = m at hw1 hm1
      have HW := Lib.hid hw1
      clear hw1
      have hlh := Nat.le_trans (heldL_length rs) HA1.out.hn
      have hlt1 := HA1.out.lt
      have hlt2 := HA1.out.glt.2
      go_wp2_with fail
      refine (held_own _ _ _ _ _ _ HA1.out).mono ?_
      rintro e2 w2 ⟨Ah, kh, rfl, hrh, hbh⟩
      have HRH := Lib.hid hrh
      have HB2 := Lib.hid (HB.out.trans (hbh.mono HB.out.size))
      have HA2 := Lib.hid (HA1.out.over hbh)
      have hsz := hbh.size
      clear hrh hbh HA1 HB
      go_wp2_with fail
      refine (hold_any _ _ _ _ _ _ HW.out (by omega) _ _ _ _ (by omega) _ HA2.out (HR.out.over HB2.out)).mono ?_
      intro e3 w3 hp3
      obtain ⟨rfl, g3, c3, ha3, hb3, hf3, hg3⟩ := PostA.parts HA2.out HB2.out hp3
      have HR3 := Lib.hid (own_fr HRH.out hf3 hlt1 hlt2)
      cases hadd : addL 1 rs l2 with
      | none =>
        rw [hadd] at ha3
        have HA : Hid (AObj w3 w.heap.size ga g3 c3 rs) := ha3
        have HBW := Lib.hid hb3
        have HRW := Lib.hid (Reads.of_own HR3.out)
        clear hp3 ha3 hb3 hf3 HRH hadd HR3
        go_wp2_with fail
        refine (take_nil _).mono ?_
        rintro e5 w5 ⟨rfl, rfl⟩
        go_wp2_with fail
        refine (held_any _ _ _ _ _ _ HA.out).mono ?_
        rintro e6 w6 ⟨A6, k6, rfl, hr6, hb6⟩
        have HR6 := Lib.hid hr6
        have HR7 := Lib.hid (HRW.out.over hb6)
        have HB6 := Lib.hid (HBW.out.trans (hb6.mono HBW.out.size))
        clear hr6 hb6
        go_wp2_with fail
        refine (same_any _ _ _ _ _ _ _ (by omega) HR6.out HR7.out).mono ?_
        rintro e7 w7 ⟨rfl, d, rfl⟩
        have HB7 : Hid (Below w.heap.size w (w6.drewN d)) := below_drewN HB6.out d
        generalize w6.drewN d = W7 at HB7 ⊢
        go_wp2_with (first
          | (go_at_call 20; refine (hold_nil _ _ _ _).mono ?_; rintro e w' ⟨rfl, rfl⟩)
          | (go_at_call 21; refine (drop_nil _ _ _ _).mono ?_; rintro e w' ⟨rfl, rfl⟩)
          | (go_at_call 13; refine (refs_nil _ _).mono ?_; rintro e w' ⟨rfl, rfl⟩)
          | (go_at_call 18; refine (free_nil _).mono ?_; rintro e w' ⟨rfl, rfl⟩)
          | (go_at_call 10; refine (size_nil _).mono ?_; rintro e w' ⟨rfl, rfl⟩)
          | (go_at_call 17; refine (held_nil _).mono ?_; rintro e w' ⟨rfl, rfl⟩)
          | (go_at_call 7; refine (live_any _).mono ?_; rintro e w' ⟨rfl, hb⟩; have HB8 := Lib.hid (HB7.out.trans (hb.mono HB7.out.size)); clear hb))
        go_ret
        exact ⟨rfl, HB8.out⟩
      | some r =>
        rw [hadd] at ha3
        have HA3 : Hid (AObj w3 w.heap.size ga g3 c3 r) := ha3
        have HB3 := Lib.hid hb3
        have hwr := Lib.hid (HW.out.addL (by omega) hadd)
        have hlr : (l2.length : Int) ≤ 30 := by rw [HR.out.ilen]; omega
        have HU := Lib.hid (undo HW.out hadd)
        clear hp3 ha3 hb3 hadd
        go_wp2_with fail
        refine (drop_any _ _ _ _ _ _ hwr.out (by omega) _ _ _ _ (by omega) _ HA3.out (HR.out.over HB3.out)).mono ?_
        intro e4 w4 hp4
        rw [HU.out] at hp4
        obtain ⟨rfl, g4, c4, ha4, hb4, hf4, _⟩ := PostA.parts HA3.out HB3.out hp4
        have HA : Hid (AObj w4 w.heap.size ga g4 c4 rs) := ha4
        have HBW := Lib.hid hb4
        have HRW := Lib.hid (Reads.of_own (own_fr2 HRH.out HR3.out hf4 hlt1 (by rcases hg3 with h | h <;> omega)))
        clear hp4 ha4 hb4 hf4 HR3 HA3 HRH hg3
        go_wp2_with fail
        refine (take_nil _).mono ?_
        rintro e5 w5 ⟨rfl, rfl⟩
        go_wp2_with fail
        refine (held_any _ _ _ _ _ _ HA.out).mono ?_
        rintro e6 w6 ⟨A6, k6, rfl, hr6, hb6⟩
        have HR6 := Lib.hid hr6
        have HR7 := Lib.hid (HRW.out.over hb6)
        have HB6 := Lib.hid (HBW.out.trans (hb6.mono HBW.out.size))
        clear hr6 hb6
        go_wp2_with fail
        refine (same_any _ _ _ _ _ _ _ (by omega) HR6.out HR7.out).mono ?_
        rintro e7 w7 ⟨rfl, d, rfl⟩
        have HB7 : Hid (Below w.heap.size w (w6.drewN d)) := below_drewN HB6.out d
        generalize w6.drewN d = W7 at HB7 ⊢
        go_wp2_with (first
          | (go_at_call 20; refine (hold_nil _ _ _ _).mono ?_; rintro e w' ⟨rfl, rfl⟩)
          | (go_at_call 21; refine (drop_nil _ _ _ _).mono ?_; rintro e w' ⟨rfl, rfl⟩)
          | (go_at_call 13; refine (refs_nil _ _).mono ?_; rintro e w' ⟨rfl, rfl⟩)
          | (go_at_call 18; refine (free_nil _).mono ?_; rintro e w' ⟨rfl, rfl⟩)
          | (go_at_call 10; refine (size_nil _).mono ?_; rintro e w' ⟨rfl, rfl⟩)
          | (go_at_call 17; refine (held_nil _).mono ?_; rintro e w' ⟨rfl, rfl⟩)
          | (go_at_call 7; refine (live_any _).mono ?_; rintro e w' ⟨rfl, hb⟩; have HB8 := Lib.hid (HB7.out.trans (hb.mono HB7.out.size)); clear hb))
        go_ret
        exact ⟨rfl, HB8.out⟩
end Go.Proofs.Ytohlcopnifmjoae
