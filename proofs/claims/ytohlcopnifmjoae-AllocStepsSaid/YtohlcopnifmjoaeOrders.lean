/- alloc: the page's example; AllocOrders. -/
import Derived.Test.YtohlcopnifmjoaeOps
import Derived.Test.YtohlcopnifmjoaeCount
namespace Go.Proofs.Ytohlcopnifmjoae
open Go.RowKit

set_option maxHeartbeats 1000000 in
theorem live_any (w : World) : Calls Try.prog 7 #[] w fun e w' => e = .returned (.bool true) ∧ Below w.heap.size w w' := by
  go_enter Try.func7, Try.ntmps7
  go_wp2_with fail
  refine (new_any 2 _ (by unfold i64ok; omega)).mono ?_
  rintro e1 w1 ⟨ga, g, c, rfl, ha, hb⟩
  have H1 : Hid (AObj w1 w.heap.size ga g c [0, 0]) := ha
  have B1 := Lib.hid hb
  clear ha hb
  go_wp2_with fail
  refine (take_any w.heap.size ga g c [0, 0] 0 true [1, 0] (.inl ⟨0, rfl, rfl, by decide, by decide, fun j hj => by omega, rfl⟩) _ H1.out).mono ?_
  rintro e2 w2 ⟨rfl, g2, c2, ha, hf, hg⟩
  have H2 := Lib.hid ha
  have B2 := Lib.hid (B1.out.trans (hf.below B1.out.size H1.out.hB H1.out.glt.1))
  clear ha hf hg
  go_wp2_with fail
  refine (take_any w.heap.size ga g2 c2 [1, 0] 1 true [1, 1] (.inl ⟨1, rfl, rfl, by decide, by decide, fun j hj => by obtain rfl : j = 0 := (by omega); decide, rfl⟩) _ H2.out).mono ?_
  rintro e3 w3 ⟨rfl, g3, c3, ha, hf, hg⟩
  have H3 := Lib.hid ha
  have B3 := Lib.hid (B2.out.trans (hf.below B2.out.size H2.out.hB H2.out.glt.1))
  clear ha hf hg
  go_wp2_with fail
  refine (take_any w.heap.size ga g3 c3 [1, 1] 0 false [1, 1] (.inr ⟨rfl, rfl, rfl, fun j hj => by simp at hj; rcases (by omega : j = 0 ∨ j = 1) with rfl | rfl <;> decide⟩) _ H3.out).mono ?_
  rintro e4 w4 ⟨rfl, g4, c4, ha, hf, hg⟩
  have H4 := Lib.hid ha
  have B4 := Lib.hid (B3.out.trans (hf.below B3.out.size H3.out.hB H3.out.glt.1))
  clear ha hf hg
  go_wp2_with fail
  have h5 := H4.out.over ((Below.refl _ _).alloc (Nat.le_refl _) (.cells #[.int .i64 0] 3))
  have B5 := Lib.hid (B4.out.alloc B4.out.size (.cells #[.int .i64 0] 3))
  have r5 := reads_new w4 3 (0, 0) [.int .i64 0]
  rw [show w4.heap.size + 1 = (w4.alloc (.cells #[.int .i64 0] 3)).heap.size from by simp] at r5
  have R5 : Hid (Reads (w4.alloc (.cells #[.int .i64 0] 3)) (w4.alloc (.cells #[.int .i64 0] 3)).heap.size 1 (some ⟨w4.heap.size, 0, none⟩) 1 (ints [0])) := r5
  have H5 := Lib.hid h5
  clear h5 r5
  generalize w4.alloc (.cells #[.int .i64 0] 3) = W5 at H5 B5 R5 ⊢
  refine (drop_any w.heap.size ga g4 c4 [1, 1] 1 (by intro r hr; simp at hr; omega) (by omega) _ 1 1 [0] (by omega) _ H5.out R5.out).mono ?_
  rintro e6 w6 ⟨rfl, g6, c6, ha, hf, hg⟩
  have H6 : Hid (AObj w6 w.heap.size ga g6 c6 [0, 1]) := ha
  have B6 := Lib.hid (B5.out.trans (hf.below B5.out.size H5.out.hB H5.out.glt.1))
  clear ha hf hg
  go_wp2_with fail
  refine (take_any w.heap.size ga g6 c6 [0, 1] 0 true [1, 1] (.inl ⟨0, rfl, rfl, by decide, by decide, fun j hj => by omega, rfl⟩) _ H6.out).mono ?_
  rintro e7 w7 ⟨rfl, g7, c7, ha, hf, hg⟩
  have B7 := Lib.hid (B6.out.trans (hf.below B6.out.size H6.out.hB H6.out.glt.1))
  clear ha hf hg
  go_wp2_with fail
  go_ret
  exact ⟨rfl, B7.out⟩

theorem AObj.base {w : World} {B B' ga g c : Nat} {rs : List Int} (h : AObj w B ga g c rs) (hB : B' ≤ B) : AObj w B' ga g c rs := by
  refine ⟨Nat.le_trans hB h.hB, h.hg, ⟨h.ho.1, ?_⟩, h.hn⟩
  rcases h.ho.2 with h' | ⟨g', cap, cur, h', hb, rest⟩
  · exact .inl h'
  · exact .inr ⟨g', cap, cur, h', by omega, rest⟩
/-- two objects that share nothing -/
structure Two (w : World) (B ga gb : Nat) (r s : List Int) : Prop where
  ex : ∃ g c g' c', AObj w B ga g c r ∧ AObj w B gb g' c' s ∧ g ≠ g'
  ne : ga ≠ gb
theorem Two.over {w w' : World} {B ga gb : Nat} {r s : List Int} (h : Two w B ga gb r s) (hb : Below w.heap.size w w') : Two w' B ga gb r s := by
  obtain ⟨g, c, g', c', h1, h2, h3⟩ := h.ex
  exact ⟨⟨g, c, g', c', h1.over hb, h2.over hb, h3⟩, h.ne⟩
theorem Two.swap {w : World} {B ga gb : Nat} {r s : List Int} (h : Two w B ga gb r s) : Two w B gb ga s r := by
  obtain ⟨g, c, g', c', h1, h2, h3⟩ := h.ex
  exact ⟨⟨g', c', g, c, h2, h1, fun e => h3 e.symm⟩, fun e => h.ne e.symm⟩
/-- an operation on the first -/
theorem two_post {w w' : World} {B ga gb g c g' c' : Nat} {r s r' : List Int} {v : Value} {e : Ending} (h1 : AObj w B ga g c r) (h2 : AObj w B gb g' c' s) (hne : ga ≠ gb) (hgg : g ≠ g') (hB : B ≤ w.heap.size) (hp : PostA w B ga g r' v e w') :
    e = .returned v ∧ Two w' B ga gb r' s ∧ Below B w w' := by
  obtain ⟨he, gn, cn, ha, hf, hg⟩ := hp
  refine ⟨he, ⟨⟨gn, cn, g', c', ha, h2.fr hf (fun e => hne e.symm) (fun e => h1.cross h2 e.symm) (h2.cross h1) (fun e => hgg e.symm), ?_⟩, hne⟩, hf.below hB h1.hB h1.glt.1⟩
  have := h2.glt.2
  omega

set_option maxHeartbeats 2000000 in
theorem orders_any (nn : Int) (hn0 : 0 ≤ nn) (hn1 : nn ≤ 255) (A : Option Addr) (n c : Nat) (l : List Int) (p : Int) (w : World) (hn : n ≤ maxLen) (hr : Reads w w.heap.size 1 A n (ints l)) :
    Calls Try.prog 5 #[.int .u8 nn, .slice A n c, .int .i64 p] w fun e w' => e = .returned (.bool true) ∧ Below w.heap.size w w' := by
  unfold maxLen at hn
  have HR := Lib.hid hr
  have HL := Lib.hid hr.ilen
  clear hr
  by_cases h60 : 60 < n
  · go_enter Try.func5, Try.ntmps5
    go_wp2_with (go_at_call 7; refine (live_any _).mono ?_; rintro e w' ⟨rfl, hb⟩; have HB := Lib.hid hb; clear hb)
    go_ret
    exact ⟨rfl, HB.out⟩
  obtain ⟨k, hk⟩ : ∃ k : Nat, nn % 40 = (k : Int) := ⟨(nn % 40).toNat, by omega⟩
  have hk40 : k < 40 := by omega
  have hnew : newN (nn % 40) = k := by unfold newN; rw [hk, if_neg (by omega), if_neg (by omega)]; simp
  have HK := Lib.hid hk
  have HN := Lib.hid hnew
  clear hk hnew
  go_enter Try.func5, Try.ntmps5
  go_wp2_with fail
  refine (new_any (nn % 40) _ (by unfold i64ok; omega)).mono ?_
  rintro e1 w1 ⟨ga, g, ca, rfl, ha, hb⟩
  rw [HN.out] at ha
  have HA := Lib.hid ha
  have B1 := Lib.hid hb
  clear ha hb
  go_wp2_with fail
  refine (new_any (nn % 40) _ (by unfold i64ok; omega)).mono ?_
  rintro e2 w2 ⟨gb, g', cb, rfl, ha2, hb2⟩
  rw [HN.out] at ha2
  have hTwo : Two w2 w.heap.size ga gb (List.replicate k 0) (List.replicate k 0) := by
    have h1 := HA.out.lt
    have h2 := HA.out.glt
    have h3 := ha2.hB
    have h4 := ha2.glt
    exact ⟨⟨g, ca, g', cb, HA.out.over hb2, ha2.base B1.out.size, by omega⟩, by omega⟩
  have HT := Lib.hid hTwo
  have B2 := Lib.hid (B1.out.trans (hb2.mono B1.out.size))
  clear ha2 hb2 hTwo HA B1
  go_wp2_with fail
  go_loopw [10] (fun i wr => ∃ j : Nat, j ≤ n ∧ i = .int .i64 j ∧ Hid (Two wr w.heap.size ga gb (holds (List.replicate k 0) (l.take j)) (holds (List.replicate k 0) (l.reverse.take j))) ∧ Hid (Below w.heap.size w wr)) (fun i _ => n - (intOf i).toNat)
  case atStart => exact ⟨0, Nat.zero_le _, rfl, HT, B2⟩
  case round =>
    obtain ⟨j, hj, rfl, HTw, HB⟩ := hrel
    by_cases hlt : j < n
    · obtain ⟨b, off, rfl, _, hl, hc⟩ := (HR.out.over HB.out).int hlt
      obtain ⟨x, hx⟩ : ∃ x, x = l[j] := ⟨_, rfl⟩
      rw [← hx] at hc
      have HX := Lib.hid (show holds (List.replicate k 0) (l.take (j + 1)) = hold1 (holds (List.replicate k 0) (l.take j)) x by rw [List.take_succ_eq_append_getElem hl, holds_snoc, hx])
      clear hx
      have hl2 : n - 1 - j < l.length := by rw [HL.out]; omega
      obtain ⟨b', off', he, _, hl', hc2⟩ := (HR.out.over HB.out).int (by omega : n - 1 - j < n)
      obtain ⟨rfl, rfl⟩ : b' = b ∧ off' = off := by simp at he; exact ⟨he.1.symm, he.2.symm⟩
      clear he
      obtain ⟨y, hy⟩ : ∃ y, y = l[n - 1 - j] := ⟨_, rfl⟩
      rw [← hy] at hc2
      have HY := Lib.hid (show holds (List.replicate k 0) (l.reverse.take (j + 1)) = hold1 (holds (List.replicate k 0) (l.reverse.take j)) y by
        rw [List.take_succ_eq_append_getElem (by rw [List.length_reverse, HL.out]; exact hlt), holds_snoc, hy, List.getElem_reverse]
        congr 2
        rw [HL.out])
      have HYV := Lib.hid hy
      clear hy
      have hwa := Lib.hid (holds_within (l.take j) (within_zero k))
      have hwb := Lib.hid (holds_within (l.reverse.take j) (within_zero k))
      have hla : ((l.take j).length : Int) ≤ 100 := by rw [List.length_take]; omega
      have hlb : ((l.reverse.take j).length : Int) ≤ 100 := by rw [List.length_take]; omega
      generalize hS : holds (List.replicate k 0) (l.take j) = S at HTw HX hwa
      generalize hS' : holds (List.replicate k 0) (l.reverse.take j) = S' at HTw HY hwb
      clear hS hS'
      obtain ⟨wo, rfl⟩ : ∃ wo : World, wo = wr := ⟨_, rfl⟩
      -- the first
      have hbx : Below wo.heap.size wo (wo.alloc (.cells #[.int .i64 x] 3)) := (Below.refl _ _).alloc (Nat.le_refl _) _
      have hbx2 := Lib.hid (HB.out.alloc HB.out.size (.cells #[.int .i64 x] 3))
      have hcx := (hbx.cell (p := ⟨b', off' + (n - 1 - j), none⟩) (World.block_lt_of_cell? _ _ hc2)).trans hc2
      have hrx := reads_new wo 3 (0, 0) [.int .i64 x]
      rw [show wo.heap.size + 1 = (wo.alloc (.cells #[.int .i64 x] 3)).heap.size from by simp] at hrx
      have HRX : Hid (Reads (wo.alloc (.cells #[.int .i64 x] 3)) (wo.alloc (.cells #[.int .i64 x] 3)).heap.size 1 (some ⟨wo.heap.size, 0, none⟩) 1 (ints [x])) := hrx
      have HT2 := Lib.hid (HTw.out.over hbx)
      clear hbx hrx
      go_wp2_with fail
      clear hc hc2
      generalize wo.alloc (.cells #[.int .i64 x] 3) = Wx at hbx2 hcx HRX HT2 ⊢
      obtain ⟨g1, c1, g2, c2, h1, h2, h3⟩ := HT2.out.ex
      refine (hold_any w.heap.size ga g1 c1 S _ hwa.out (by omega) _ 1 1 [x] (by omega) _ h1 HRX.out).mono ?_
      intro e1 w1 hp1
      obtain ⟨rfl, ht1, hb1⟩ := two_post h1 h2 HT2.out.ne h3 hbx2.out.size hp1
      have hcy : w1.cell? ⟨b', off' + (n - 1 - j), none⟩ = some (.int .i64 y) := by
        obtain ⟨b2, off2, he2, _, hl2', hc3⟩ := ((HR.out.over (hbx2.out.trans hb1))).int (by omega : n - 1 - j < n)
        simp at he2
        rw [he2.1, he2.2, HYV.out]
        exact hc3
      have HT1 := Lib.hid ht1
      have HB1 := Lib.hid (hbx2.out.trans hb1)
      clear hp1 ht1 hb1 h1 h2 h3 hcx
      -- the second
      have hby : Below w1.heap.size w1 (w1.alloc (.cells #[.int .i64 y] 3)) := (Below.refl _ _).alloc (Nat.le_refl _) _
      have hby2 := Lib.hid (HB1.out.alloc HB1.out.size (.cells #[.int .i64 y] 3))
      have hry := reads_new w1 3 (0, 0) [.int .i64 y]
      rw [show w1.heap.size + 1 = (w1.alloc (.cells #[.int .i64 y] 3)).heap.size from by simp] at hry
      have HRY : Hid (Reads (w1.alloc (.cells #[.int .i64 y] 3)) (w1.alloc (.cells #[.int .i64 y] 3)).heap.size 1 (some ⟨w1.heap.size, 0, none⟩) 1 (ints [y])) := hry
      have HT3 := Lib.hid (HT1.out.over hby)
      clear hby hry
      go_wp2_with fail
      clear hcy
      generalize w1.alloc (.cells #[.int .i64 y] 3) = Wy at hby2 HRY HT3 ⊢
      obtain ⟨g3, c3, g4, c4, h1, h2, h3⟩ := HT3.out.swap.ex
      refine (hold_any w.heap.size gb g3 c3 S' _ hwb.out (by omega) _ 1 1 [y] (by omega) _ h1 HRY.out).mono ?_
      intro e2 w2 hp2
      obtain ⟨rfl, ht2, hb2⟩ := two_post h1 h2 HT3.out.swap.ne h3 hby2.out.size hp2
      have HT4 := Lib.hid ht2.swap
      have HB4 := Lib.hid (hby2.out.trans hb2)
      clear hp2 ht2 hb2 h1 h2 h3
      go_wp2_with fail
      exact ⟨⟨j + 1, by omega, by go_num, by rw [HX.out, HY.out]; exact HT4, HB4⟩, by simp [intOf]; omega⟩
    · have hS' : holds (List.replicate k 0) (l.reverse.take j) = holds (List.replicate k 0) (l.take j) := by
        rw [List.take_of_length_le (by rw [List.length_reverse, HL.out]; omega), List.take_of_length_le (by rw [HL.out]; omega), holds_reverse]
      have hT := HTw.out
      rw [hS'] at hT
      have hw := Lib.hid (holds_within (l.take j) (within_zero k))
      obtain ⟨g1, c1, g2, c2, h1, h2, _⟩ := hT.ex
      have h1024 := Nat.le_trans (heldL_length (holds (List.replicate k 0) (l.take j))) h1.hn
      clear hS' hT
      generalize holds (List.replicate k 0) (l.take j) = S at h1 h2 hw h1024
      have HA1 := Lib.hid h1
      have HA2 := Lib.hid h2
      clear h1 h2
      go_wp2_with fail
      refine (held_any _ _ _ _ _ _ HA1.out).mono ?_
      rintro e1 w1 ⟨A1, k1, rfl, hr1, hb1⟩
      have HR1 := Lib.hid hr1
      have HB1 := Lib.hid (HB.out.trans (hb1.mono HB.out.size))
      have HA1' := Lib.hid (HA1.out.over hb1)
      have HA2' := Lib.hid (HA2.out.over hb1)
      clear hr1 hb1 HA1 HA2
      go_wp2_with fail
      refine (held_any _ _ _ _ _ _ HA2'.out).mono ?_
      rintro e2 w2 ⟨A2, k2, rfl, hr2, hb2⟩
      have HR2 := Lib.hid hr2
      have HR1' := Lib.hid (HR1.out.over hb2)
      have HB2 := Lib.hid (HB1.out.trans (hb2.mono HB1.out.size))
      have HA1 := Lib.hid (HA1'.out.over hb2)
      have HA2 := Lib.hid (HA2'.out.over hb2)
      clear hr2 hb2 HA1' HA2' HR1
      go_wp2_with fail
      refine (same_any _ _ _ _ _ _ _ (by omega) HR1'.out HR2.out).mono ?_
      rintro e3 w3 ⟨rfl, d, rfl⟩
      have HA1' := Lib.hid (HA1.out.over ⟨rfl, rfl, rfl, Nat.le_refl _, fun _ _ => rfl⟩ : AObj (w2.drewN d) w.heap.size ga g1 c1 S)
      have HA2' := Lib.hid (HA2.out.over ⟨rfl, rfl, rfl, Nat.le_refl _, fun _ _ => rfl⟩ : AObj (w2.drewN d) w.heap.size gb g2 c2 S)
      have HB3 : Hid (Below w.heap.size w (w2.drewN d)) := below_drewN HB2.out d
      generalize w2.drewN d = W3 at HA1' HA2' HB3 ⊢
      go_wp2_with fail
      refine (refs_any _ _ _ _ _ _ _ HA1'.out).mono ?_
      rintro e4 w4 ⟨rfl, rfl⟩
      go_wp2_with fail
      refine (refs_any _ _ _ _ _ _ _ HA2'.out).mono ?_
      rintro e5 w5 ⟨rfl, rfl⟩
      go_wp2_with fail
      refine (free_any _ _ _ _ _ _ HA1'.out).mono ?_
      rintro e6 w6 ⟨rfl, hb6⟩
      have HA2 := Lib.hid (HA2'.out.over hb6)
      have HB6 := Lib.hid (HB3.out.trans (hb6.mono HB3.out.size))
      clear hb6
      go_wp2_with fail
      refine (free_any _ _ _ _ _ _ HA2.out).mono ?_
      rintro e7 w7 ⟨rfl, hb7⟩
      have HB7 := Lib.hid (HB6.out.trans (hb7.mono HB6.out.size))
      clear hb7
      go_wp2_with fail
      refine (live_any _).mono ?_
      rintro e8 w8 ⟨rfl, hb8⟩
      have HB8 := Lib.hid (HB7.out.trans (hb8.mono HB7.out.size))
      clear hb8
      go_wp2_with fail
      go_ret
      exact ⟨rfl, HB8.out⟩

end Go.Proofs.Ytohlcopnifmjoae
