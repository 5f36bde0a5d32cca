/- Confs: the reference's check, the walks. -/
import Derived.Test.YtohlcopnifmjoadComp
import Derived.Deep.RegionHeld3
namespace Go.Proofs.Ytohlcopnifmjoad
open Go.RowKit

set_option maxHeartbeats 1000000 in
theorem find_to (fi : Nat) (nm : ByteArray) (l p e g : Int) (A : Option Addr) (n cap : Nat) (cs : List Cmp) (w : World) (h : (⟨l, p, e, g, A, n, cap, cs⟩ : Cnf).ok w)
    (hfi : fi < n) (hy : ∀ y, cs[fi]? = some y → y.name = nm) (hno : ∀ (j : Nat) (y : Cmp), j < fi → cs[j]? = some y → y.name ≠ nm) :
    Calls Try.prog 25 #[.agg #[.int .i64 l, .int .i64 p, .int .i64 e, .int .i64 g, .slice A n cap], .string nm] w fun e w' => e = .returned (.tuple #[.int .i64 (fi : Int), .bool true]) ∧ Below w.heap.size w w' := by
  have hn := h.hn
  unfold maxLen at hn
  dsimp only at hn
  have b1 : Below w.heap.size w (w.alloc (.cells #[.int .i64 l, .int .i64 p, .int .i64 e, .int .i64 g, .slice A n cap] 24)) := (Below.refl _ _).alloc (Nat.le_refl _) _
  have h1 := h.over b1
  have c4 := new_cell w #[.int .i64 l, .int .i64 p, .int .i64 e, .int .i64 g, .slice A n cap] 24 4
  have HY := Lib.hid hy
  have HNO := Lib.hid hno
  clear hy hno
  go_enter Try.func25, Try.ntmps25
  go_wp2_with fail
  generalize w.alloc (.cells #[.int .i64 l, .int .i64 p, .int .i64 e, .int .i64 g, .slice A n cap] 24) = W at b1 h1 c4 ⊢
  simp only [List.getElem?_toArray, List.getElem?_cons_succ, List.getElem?_cons_zero] at c4
  have B1 := Lib.hid b1
  have H1 := Lib.hid h1
  clear b1 h1 h
  go_loop [6] (fun i => ∃ k : Nat, k ≤ fi ∧ i = .int .i64 k) (fun i => fi + 1 - (intOf i).toNat)
  case atStart => exact ⟨0, by omega, rfl⟩
  case round =>
    obtain ⟨k, hk, rfl⟩ := hrel
    obtain ⟨b, off, x, he, _, hx, hc, _⟩ := H1.out.at_ (by omega : k < n)
    dsimp only at he hx hc
    subst he
    have hkn : k < n := by omega
    by_cases hlt : k < fi
    · have n1 := toList_ne (HNO.out k x hlt hx)
      have HX := Lib.hid hx
      clear hx
      go_wp2
      refine ⟨⟨k + 1, by omega, by go_num⟩, by simp [intOf]; omega⟩
    · obtain rfl : k = fi := by omega
      have n1 := toList_same (HY.out x hx)
      have HX := Lib.hid hx
      clear hx
      go_wp2
      go_ret2
      exact ⟨rfl, B1.out⟩


set_option maxHeartbeats 4000000 in
theorem right_bad (b0 : Bool) (l p e g : Int) (A : Option Addr) (n cap : Nat) (cs : List Cmp) (hb0 : b0 = true ↔ rightP l p e g cs) (hbad : l < 2 ∨ 1024 < l ∨ p < 4 ∨ 1024 < p ∨ e < 1 ∨ 1024 < e ∨ g < 1 ∨ 1073741824 < g ∨ 32 < (n : Int)) (w : World) (h : (⟨l, p, e, g, A, n, cap, cs⟩ : Cnf).ok w) :
    Calls Try.prog 20 #[.agg #[.int .i64 l, .int .i64 p, .int .i64 e, .int .i64 g, .slice A n cap]] w fun e w' => e = .returned (.bool b0) ∧ Below w.heap.size w w' := by
  have hlen := h.len
  have hn := h.hn
  unfold maxLen at hn
  have hnc := h.hnc
  dsimp only at hlen hn hnc
  have HL := Lib.hid hlen
  clear hlen
  have HB0 := Lib.hid hb0
  clear hb0
  have b1 : Below w.heap.size w (w.alloc (.cells #[.int .i64 l, .int .i64 p, .int .i64 e, .int .i64 g, .slice A n cap] 24)) := (Below.refl _ _).alloc (Nat.le_refl _) _
  have h1 := h.over b1
  have cl := fun j => new_cell w #[.int .i64 l, .int .i64 p, .int .i64 e, .int .i64 g, .slice A n cap] 24 j
  have c0 := cl 0
  have c1 := cl 1
  have c2 := cl 2
  have c3 := cl 3
  have c4 := cl 4
  clear cl
  by_cases t0 : l < 2
  · clear h1 h c0 c1 c2 c3 c4
    have hb : Hid (b0 = false) := by
      cases b0
      · rfl
      · exfalso
        have := (HB0.out.1 rfl).hl
        skip
        omega
    clear HB0
    go_enter Try.func20, Try.ntmps20
    go_wp2
    go_ret
    exact ⟨ret_bool hb.out.symm, b1⟩
  by_cases t1 : 1024 < l
  · clear h1 h c0 c1 c2 c3 c4
    have hb : Hid (b0 = false) := by
      cases b0
      · rfl
      · exfalso
        have := (HB0.out.1 rfl).hl
        skip
        omega
    have d0 : decide (l < 2) = false := by simp; omega
    clear HB0
    go_enter Try.func20, Try.ntmps20
    go_wp2
    go_ret
    exact ⟨ret_bool hb.out.symm, b1⟩
  by_cases t2 : p < 4
  · clear h1 h c0 c1 c2 c3 c4
    have hb : Hid (b0 = false) := by
      cases b0
      · rfl
      · exfalso
        have := (HB0.out.1 rfl).hp
        skip
        omega
    have d0 : decide (l < 2) = false := by simp; omega
    have d1 : decide (1024 < l) = false := by simp; omega
    clear HB0
    go_enter Try.func20, Try.ntmps20
    go_wp2
    go_ret
    exact ⟨ret_bool hb.out.symm, b1⟩
  by_cases t3 : 1024 < p
  · clear h1 h c0 c1 c2 c3 c4
    have hb : Hid (b0 = false) := by
      cases b0
      · rfl
      · exfalso
        have := (HB0.out.1 rfl).hp
        skip
        omega
    have d0 : decide (l < 2) = false := by simp; omega
    have d1 : decide (1024 < l) = false := by simp; omega
    have d2 : decide (p < 4) = false := by simp; omega
    clear HB0
    go_enter Try.func20, Try.ntmps20
    go_wp2
    go_ret
    exact ⟨ret_bool hb.out.symm, b1⟩
  by_cases t4 : e < 1
  · clear h1 h c0 c1 c2 c3 c4
    have hb : Hid (b0 = false) := by
      cases b0
      · rfl
      · exfalso
        have := (HB0.out.1 rfl).he
        skip
        omega
    have d0 : decide (l < 2) = false := by simp; omega
    have d1 : decide (1024 < l) = false := by simp; omega
    have d2 : decide (p < 4) = false := by simp; omega
    have d3 : decide (1024 < p) = false := by simp; omega
    clear HB0
    go_enter Try.func20, Try.ntmps20
    go_wp2
    go_ret
    exact ⟨ret_bool hb.out.symm, b1⟩
  by_cases t5 : 1024 < e
  · clear h1 h c0 c1 c2 c3 c4
    have hb : Hid (b0 = false) := by
      cases b0
      · rfl
      · exfalso
        have := (HB0.out.1 rfl).he
        skip
        omega
    have d0 : decide (l < 2) = false := by simp; omega
    have d1 : decide (1024 < l) = false := by simp; omega
    have d2 : decide (p < 4) = false := by simp; omega
    have d3 : decide (1024 < p) = false := by simp; omega
    have d4 : decide (e < 1) = false := by simp; omega
    clear HB0
    go_enter Try.func20, Try.ntmps20
    go_wp2
    go_ret
    exact ⟨ret_bool hb.out.symm, b1⟩
  by_cases t6 : g < 1
  · clear h1 h c0 c1 c2 c3 c4
    have hb : Hid (b0 = false) := by
      cases b0
      · rfl
      · exfalso
        have := (HB0.out.1 rfl).hg
        skip
        omega
    have d0 : decide (l < 2) = false := by simp; omega
    have d1 : decide (1024 < l) = false := by simp; omega
    have d2 : decide (p < 4) = false := by simp; omega
    have d3 : decide (1024 < p) = false := by simp; omega
    have d4 : decide (e < 1) = false := by simp; omega
    have d5 : decide (1024 < e) = false := by simp; omega
    clear HB0
    go_enter Try.func20, Try.ntmps20
    go_wp2
    go_ret
    exact ⟨ret_bool hb.out.symm, b1⟩
  by_cases t7 : 1073741824 < g
  · clear h1 h c0 c1 c2 c3 c4
    have hb : Hid (b0 = false) := by
      cases b0
      · rfl
      · exfalso
        have := (HB0.out.1 rfl).hg
        skip
        omega
    have d0 : decide (l < 2) = false := by simp; omega
    have d1 : decide (1024 < l) = false := by simp; omega
    have d2 : decide (p < 4) = false := by simp; omega
    have d3 : decide (1024 < p) = false := by simp; omega
    have d4 : decide (e < 1) = false := by simp; omega
    have d5 : decide (1024 < e) = false := by simp; omega
    have d6 : decide (g < 1) = false := by simp; omega
    clear HB0
    go_enter Try.func20, Try.ntmps20
    go_wp2
    go_ret
    exact ⟨ret_bool hb.out.symm, b1⟩
  by_cases t8 : 32 < (n : Int)
  · clear h1 h c0 c1 c2 c3 c4
    have hb : Hid (b0 = false) := by
      cases b0
      · rfl
      · exfalso
        have := (HB0.out.1 rfl).hn
        rw [HL.out] at this
        omega
    have d0 : decide (l < 2) = false := by simp; omega
    have d1 : decide (1024 < l) = false := by simp; omega
    have d2 : decide (p < 4) = false := by simp; omega
    have d3 : decide (1024 < p) = false := by simp; omega
    have d4 : decide (e < 1) = false := by simp; omega
    have d5 : decide (1024 < e) = false := by simp; omega
    have d6 : decide (g < 1) = false := by simp; omega
    have d7 : decide (1073741824 < g) = false := by simp; omega
    clear HB0
    go_enter Try.func20, Try.ntmps20
    go_wp2
    go_ret
    exact ⟨ret_bool hb.out.symm, b1⟩
  omega
end Go.Proofs.Ytohlcopnifmjoad
