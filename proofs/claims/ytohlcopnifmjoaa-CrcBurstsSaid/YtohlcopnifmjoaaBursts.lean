/- CrcBursts: the walk. -/
import Derived.Test.YtohlcopnifmjoaaParts
import Derived.Test.YtohlcopnifmjoaaTurns
import Derived.Laws.Bits64
namespace Go.Proofs.Ytohlcopnifmjoaa
open Go.RowKit
open CrcM

theorem wd_bd (tu sh : Int) (wd : Nat) (ht1 : tu ≤ 4294967295) (hwd : wd = tu.toNat * 2 ^ (sh % 8).toNat) : wd ≤ 1099511627775 := by
  have hk : 2 ^ (sh % 8).toNat ≤ 2 ^ 7 := Nat.pow_le_pow_right (by decide) (by omega)
  have h1 : tu.toNat ≤ 4294967295 := by omega
  rw [hwd]
  calc tu.toNat * 2 ^ (sh % 8).toNat ≤ 4294967295 * 2 ^ 7 := Nat.mul_le_mul h1 hk
    _ ≤ 1099511627775 := by decide
theorem wd_eq (tu sh : Int) (wd : Nat) (ht0 : 0 ≤ tu) (ht1 : tu ≤ 4294967295) (hwd : wd = tu.toNat * 2 ^ (sh % 8).toNat) : IntKind.u64.wrap (tu * 2 ^ (sh % 8).toNat) = (wd : Int) := by
  have hb := wd_bd tu sh wd ht1 hwd
  have e : tu * 2 ^ (sh % 8).toNat = (wd : Int) := by
    rw [hwd, Int.natCast_mul, Int.toNat_of_nonneg ht0]
    simp
  rw [e, IntKind.wrap_u64]
  omega

set_option maxHeartbeats 1000000 in
theorem bursts_any (p : Part) (at_ tu sh : Int) (w : World) (hp : p.ok w) (ha1 : -9223372036854775808 ≤ at_) (ha2 : at_ ≤ 9223372036854775807) (ht0 : 0 ≤ tu) (ht1 : tu ≤ 4294967295) (hs0 : 0 ≤ sh) (hs1 : sh ≤ 255) :
    Calls Try.prog 5 #[.slice p.A p.n p.c, .int .i64 at_, .int .u32 tu, .int .u8 sh] w fun e w' => e = .returned (.bool true) ∧ Below w.heap.size w w' := by
  obtain ⟨A, n, c, zs⟩ := p
  have hn := hp.2.2
  dsimp only at hn ⊢
  unfold maxLen at hn
  have HP := Lib.hid hp
  clear hp
  by_cases h1 : 600 < n
  · go_enter Try.func5, Try.ntmps5
    go_wp2_with (go_at_call 6; refine (live_any _).mono ?_; rintro e w' ⟨rfl, hb1⟩)
    go_ret
    exact ⟨rfl, hb1⟩
  by_cases h2 : at_ < 0
  · have hd : decide (600 < (n : Int)) = false := by simp; omega
    go_enter Try.func5, Try.ntmps5
    go_wp2_with (go_at_call 6; refine (live_any _).mono ?_; rintro e w' ⟨rfl, hb1⟩)
    go_ret
    exact ⟨rfl, hb1⟩
  by_cases h3 : (n : Int) - 5 < at_
  · have hd : decide (600 < (n : Int)) = false := by simp; omega
    have hd2 : decide (at_ < 0) = false := by simp; omega
    go_enter Try.func5, Try.ntmps5
    go_wp2_with (go_at_call 6; refine (live_any _).mono ?_; rintro e w' ⟨rfl, hb1⟩)
    go_ret
    exact ⟨rfl, hb1⟩
  have hd : decide (600 < (n : Int)) = false := by simp; omega
  have hd2 : decide (at_ < 0) = false := by simp; omega
  have hd3 : decide ((n : Int) - 5 < at_) = false := by simp; omega
  by_cases h4 : tu = 0
  · subst h4
    go_enter Try.func5, Try.ntmps5
    go_wp2_with (go_at_call 6; refine (live_any _).mono ?_; rintro e w' ⟨rfl, hb1⟩)
    go_ret
    exact ⟨rfl, hb1⟩
  have hd4 : (tu == 0) = false := by simp; omega
  have b1 : Below w.heap.size w (w.alloc (.cells #[] 5)) := (Below.refl _ _).alloc (Nat.le_refl _) _
  have own1 := World.ownsRow_made (base := w.heap.size) (e := 5) (size := 1) w #[] 0 (by simp) (by simp) (by simp)
  have B1 := Lib.hid b1
  have O1 := Lib.hid own1
  clear b1 own1
  go_enter Try.func5, Try.ntmps5
  go_wp2_with (at_builtin
               go_must (
                 refine wpList_app1 _ u8_ty rfl (.tmp 31) (.tmp 32) rfl rfl B1.out O1.out rfl (HP.out.over B1.out).1 (bytesOf_one zs) (by unfold maxLen; omega) (by omega) ?_
                 intro A4 c4 w4 b4 own4 hg4 hat4
                 have B4 := Lib.hid b4
                 simp only [Nat.zero_add, List.nil_append] at own4 ⊢
                 have O4 := Lib.hid own4
                 clear own4 hg4 hat4 b4))
  obtain ⟨a, rfl⟩ := Int.eq_ofNat_of_zero_le (by omega : 0 ≤ at_)
  obtain ⟨wd, hwd⟩ : ∃ wd : Nat, wd = tu.toNat * 2 ^ (sh % 8).toNat := ⟨_, rfl⟩
  have hw40 : wd ≤ 1099511627775 := wd_bd tu sh wd ht1 hwd
  rw [wd_eq tu sh wd ht0 ht1 hwd]
  have HW := Lib.hid hwd
  clear hwd
  obtain ⟨g, cap, hv, hgb, _⟩ := O4.out.form (by omega)
  obtain rfl : A4 = some ⟨g, 0, none⟩ := by injection hv
  clear hv
  go_loopw [10, 11] (fun wv i wr => ∃ k wk : Nat, k ≤ 5 ∧ i = .int .i64 k ∧ wk ≤ 1099511627775 ∧ wv = .int .u64 (wk : Int) ∧ Hid (wk = wd / 256 ^ k) ∧ Hid (wr.ownsRow w.heap.size 5 1 (.slice (some ⟨g, 0, none⟩) n c4) n (bytesOf (mix zs a wd k))) ∧ Hid (Below w.heap.size w wr)) (fun _ i _ => 5 - (intOf i).toNat)
  case atStart => exact ⟨0, wd, Nat.zero_le _, rfl, hw40, rfl, by simp [Hid], O4, B4⟩
  case round =>
    obtain ⟨k, wk, hk, rfl, hwk, rfl, HK, HO, HB⟩ := hrel
    by_cases hk5 : k < 5
    · obtain ⟨x, hx⟩ : ∃ x, x = (mix zs a wd k).getD (a + k) 0 := ⟨_, rfl⟩
      have hlen : a + k < (mix zs a wd k).length := by
        have := HP.out.1.1
        simp [bytesOf] at this
        rw [mix_length]; omega
      have hx2 : (mix zs a wd k)[a + k]? = some x := by
        rw [hx, List.getD_eq_getElem?_getD, List.getElem?_eq_getElem hlen]; rfl
      have hxb := mix_bd zs a wd k HP.out.2.1 x (List.mem_of_getElem? hx2)
      have hc : wr.cell? ⟨g, a + k, none⟩ = some (.int .u8 x) := by
        rw [HO.out.cellAt (a + k) (by omega)]
        simp [bytesOf, hx2]
      have hf := HO.out.frozenAt (a + k)
      have hxo : bits .xor .u8 x ((wk : Int) % 256) = xorb x (wk % 256) := by
        rw [u8_xor _ _ hxb.1 hxb.2 (by omega) (by omega)]
        unfold xorb
        congr 2
      have HS := Lib.hid ((HO.out.stored (a + k) (.int .u8 (xorb x (wk % 256)))).1)
      have HB2 := Lib.hid (HB.out.setCell (p := ⟨g, a + k, none⟩) hgb (.int .u8 (xorb x (wk % 256))))
      have HX := Lib.hid hx
      clear hx hx2 hlen
      go_wp2
      refine ⟨⟨k + 1, wk / 256, by omega, by go_num, by omega, by go_num, ?_, ?_, HB2⟩, by simp [intOf]; omega⟩
      · rw [HK.out, Nat.div_div_eq_div_mul, Nat.pow_succ]; trivial
      · have := HS.out
        have e : (bytesOf (mix zs a wd k)).set (a + k) (.int .u8 (xorb x (wk % 256))) = bytesOf (mix zs a wd (k + 1)) := by
          rw [mix, ← HX.out, ← HK.out]
          simp [bytesOf, List.map_set]
        rw [e] at this
        exact this
    · obtain rfl : k = 5 := by omega
      obtain ⟨t, ht⟩ : ∃ t, of zs = t := ⟨_, rfl⟩
      obtain ⟨u, hu⟩ : ∃ u, of (mix zs a wd 5) = u := ⟨_, rfl⟩
      have hzl : zs.length = n := by have := HP.out.1.1; simpa [bytesOf] using this
      have hne : u ≠ t := by
        rw [← hu, ← ht]
        refine turns zs a wd (sh % 8).toNat (BitVec.ofNat 32 tu.toNat) (by omega) (by omega) ?_ ?_
        · rw [BitVec.toNat_ofNat, HW.out, Nat.mod_eq_of_lt (by omega)]
        · intro h
          have := congrArg BitVec.toNat h
          rw [BitVec.toNat_ofNat, Nat.mod_eq_of_lt (by omega)] at this
          simp at this
          omega
      have hnum : (num u != num t) = true := by
        simp only [bne_iff_ne]
        intro h
        exact hne (num_inj h)
      have P5 := Lib.hid (part_new HO.out (mix_bd zs a wd 5 HP.out.2.1) (by unfold maxLen; omega))
      have PB := Lib.hid (HP.out.over HB.out)
      have HT := Lib.hid ht
      have HU := Lib.hid hu
      clear ht hu hne hzl HO
      go_wp2_with fail
      refine (of_to u _ _ _ [⟨some ⟨g, 0, none⟩, n, c4, mix zs a wd 5⟩] _ ?_ ?_ (by simp [maxLen]) ?_).mono ?_
      · have := reads_new wr 22 (0, 0) [.slice (some ⟨g, 0, none⟩) n c4]; simpa [Part.v] using this
      · intro p hp
        rw [List.mem_singleton.1 hp]
        exact P5.out.over ((Below.refl _ _).alloc (Nat.le_refl _) _)
      · rw [← HU.out, of_eq, addP_eq]; simp
      rintro e w' ⟨rfl, rfl⟩
      have b8 : Below wr.heap.size wr (wr.alloc (.cells #[.slice (some ⟨g, 0, none⟩) n c4] 22)) := (Below.refl _ _).alloc (Nat.le_refl _) _
      generalize wr.alloc (.cells #[.slice (some ⟨g, 0, none⟩) n c4] 22) = W8 at b8 ⊢
      have B8 := Lib.hid b8
      clear b8
      go_wp2_with fail
      refine (of_to t _ _ _ [⟨A, n, c, zs⟩] _ ?_ ?_ (by simp [maxLen]) ?_).mono ?_
      · have := reads_new W8 22 (0, 0) [.slice A n c]; simpa [Part.v] using this
      · intro p hp
        rw [List.mem_singleton.1 hp]
        exact (PB.out.over B8.out).over ((Below.refl _ _).alloc (Nat.le_refl _) _)
      · rw [← HT.out, of_eq, addP_eq]; simp
      rintro e w' ⟨rfl, rfl⟩
      go_wp2_with fail
      refine (live_any _).mono ?_
      rintro e w' ⟨rfl, hb6⟩
      go_wp2_with fail
      go_ret
      exact ⟨rfl, HB.out.trans (((B8.out.alloc B8.out.size _).trans (hb6.mono (by simp; have := B8.out.size; omega))).mono HB.out.size)⟩
end Go.Proofs.Ytohlcopnifmjoaa
