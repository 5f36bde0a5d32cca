/- geom: what lies in a sector; the page's example. -/
import Derived.Test.YtohlcopnifmjoadGeom2
namespace Go.Proofs.Ytohlcopnifmjoad
open Go.RowKit

theorem ret_two {a b c d : Int} (h : a = b) (k : c = d) : Ending.returned (.tuple #[.int .i64 a, .int .i64 c]) = Ending.returned (.tuple #[.int .i64 b, .int .i64 d]) := by rw [h, k]

set_option maxHeartbeats 2000000 in
theorem what_to (b0 : Bool) (l p e g : Int) (A : Option Addr) (n cap : Nat) (cs : List Cmp) (hb0 : RightIff b0 l p e g cs) (x : Int) (hx : i64ok x) (w : World) (h : (⟨l, p, e, g, A, n, cap, cs⟩ : Cnf).ok w) :
    Calls Try.prog 12 #[.agg #[.int .i64 l, .int .i64 p, .int .i64 e, .int .i64 g, .slice A n cap], .int .i64 x] w fun e w' => e = .returned (.tuple #[.int .i64 (whatK b0 l p x), .int .i64 (whatN b0 l p x)]) ∧ Below w.heap.size w w' := by
  obtain ⟨x0, x1⟩ := hx
  have HB0 := Lib.hid hb0
  have b1 : Below w.heap.size w (w.alloc (.cells #[.int .i64 l, .int .i64 p, .int .i64 e, .int .i64 g, .slice A n cap] 24)) := (Below.refl _ _).alloc (Nat.le_refl _) _
  have h1 := h.over b1
  have cl := fun j => new_cell w #[.int .i64 l, .int .i64 p, .int .i64 e, .int .i64 g, .slice A n cap] 24 j
  have c0 := cl 0
  have c1 := cl 1
  have c2 := cl 2
  have c3 := cl 3
  have c4 := cl 4
  clear cl hb0 h
  cases b0
  case false =>
    have hM : Hid (whatK false l p x = 0) := by unfold whatK; rw [if_neg (by simp)]; trivial
    have hN : Hid (whatN false l p x = 0) := by unfold whatN; rw [if_neg (by simp)]; trivial
    go_enter Try.func12, Try.ntmps12
    go_wp2_with fail
    generalize w.alloc (.cells #[.int .i64 l, .int .i64 p, .int .i64 e, .int .i64 g, .slice A n cap] 24) = W at b1 h1 c0 c1 c2 c3 c4 ⊢
    simp only [List.getElem?_toArray, List.getElem?_cons_succ, List.getElem?_cons_zero] at c0 c1 c2 c3 c4
    have B1 := Lib.hid b1
    have H1 := Lib.hid h1
    clear b1 h1
    go_wp2_with (first
      | (go_at_call 21
         refine (gright_to false l p e g A n cap cs HB0.out _ H1.out).mono ?_
         rintro e' w1 ⟨rfl, hb1⟩
         have q0 := (hb1.cell (p := ⟨w.heap.size, 0, none⟩) (block_lt_of_cell c0)).trans c0
         have q1 := (hb1.cell (p := ⟨w.heap.size, 1, none⟩) (block_lt_of_cell c1)).trans c1
         have q2 := (hb1.cell (p := ⟨w.heap.size, 2, none⟩) (block_lt_of_cell c2)).trans c2
         have q3 := (hb1.cell (p := ⟨w.heap.size, 3, none⟩) (block_lt_of_cell c3)).trans c3
         have q4 := (hb1.cell (p := ⟨w.heap.size, 4, none⟩) (block_lt_of_cell c4)).trans c4
         have HB1 := Lib.hid hb1
         clear hb1 c0 c1 c2 c3 c4))
    go_ret2
    exact ⟨ret_two (hM.out.symm) (hN.out.symm), B1.out.trans (HB1.out.mono B1.out.size)⟩
  case true =>
    have R := Iff.mp HB0.out rfl
    have hl := R.hl
    have hp := R.hp
    clear R
    by_cases g0 : x < 0
    · have hM : Hid (whatK true l p x = 0) := by unfold whatK; rw [if_neg (by omega)]; trivial
      have hN : Hid (whatN true l p x = 0) := by unfold whatN; rw [if_neg (by omega)]; trivial
      go_enter Try.func12, Try.ntmps12
      go_wp2_with fail
      generalize w.alloc (.cells #[.int .i64 l, .int .i64 p, .int .i64 e, .int .i64 g, .slice A n cap] 24) = W at b1 h1 c0 c1 c2 c3 c4 ⊢
      simp only [List.getElem?_toArray, List.getElem?_cons_succ, List.getElem?_cons_zero] at c0 c1 c2 c3 c4
      have B1 := Lib.hid b1
      have H1 := Lib.hid h1
      clear b1 h1
      go_wp2_with (first
        | (go_at_call 21
           refine (gright_to true l p e g A n cap cs HB0.out _ H1.out).mono ?_
           rintro e' w1 ⟨rfl, hb1⟩
           have q0 := (hb1.cell (p := ⟨w.heap.size, 0, none⟩) (block_lt_of_cell c0)).trans c0
           have q1 := (hb1.cell (p := ⟨w.heap.size, 1, none⟩) (block_lt_of_cell c1)).trans c1
           have q2 := (hb1.cell (p := ⟨w.heap.size, 2, none⟩) (block_lt_of_cell c2)).trans c2
           have q3 := (hb1.cell (p := ⟨w.heap.size, 3, none⟩) (block_lt_of_cell c3)).trans c3
           have q4 := (hb1.cell (p := ⟨w.heap.size, 4, none⟩) (block_lt_of_cell c4)).trans c4
           have HB1 := Lib.hid hb1
           clear hb1 c0 c1 c2 c3 c4))
      go_ret2
      exact ⟨ret_two (hM.out.symm) (hN.out.symm), B1.out.trans (HB1.out.mono B1.out.size)⟩
    by_cases g1 : 2 + l + p ≤ x
    · have hM : Hid (whatK true l p x = 0) := by unfold whatK; rw [if_pos ⟨rfl, by omega⟩, if_neg (by omega), if_neg (by omega), if_neg (by omega)]; trivial
      have hN : Hid (whatN true l p x = 0) := by unfold whatN; rw [if_pos ⟨rfl, by omega⟩, if_neg (by omega), if_neg (by omega), if_neg (by omega)]; trivial
      have d0 : decide (x < 0) = false := by simp; omega
      go_enter Try.func12, Try.ntmps12
      go_wp2_with fail
      generalize w.alloc (.cells #[.int .i64 l, .int .i64 p, .int .i64 e, .int .i64 g, .slice A n cap] 24) = W at b1 h1 c0 c1 c2 c3 c4 ⊢
      simp only [List.getElem?_toArray, List.getElem?_cons_succ, List.getElem?_cons_zero] at c0 c1 c2 c3 c4
      have B1 := Lib.hid b1
      have H1 := Lib.hid h1
      clear b1 h1
      go_wp2_with (first
        | (go_at_call 21
           refine (gright_to true l p e g A n cap cs HB0.out _ H1.out).mono ?_
           rintro e' w1 ⟨rfl, hb1⟩
           have q0 := (hb1.cell (p := ⟨w.heap.size, 0, none⟩) (block_lt_of_cell c0)).trans c0
           have q1 := (hb1.cell (p := ⟨w.heap.size, 1, none⟩) (block_lt_of_cell c1)).trans c1
           have q2 := (hb1.cell (p := ⟨w.heap.size, 2, none⟩) (block_lt_of_cell c2)).trans c2
           have q3 := (hb1.cell (p := ⟨w.heap.size, 3, none⟩) (block_lt_of_cell c3)).trans c3
           have q4 := (hb1.cell (p := ⟨w.heap.size, 4, none⟩) (block_lt_of_cell c4)).trans c4
           have HB1 := Lib.hid hb1
           clear hb1 c0 c1 c2 c3 c4)
        | (go_at_call 24
           refine (sectors_to l p e g A n cap _ hl hp).mono ?_
           rintro e2 w2 ⟨rfl, hb2⟩
           have r0 := (hb2.cell (p := ⟨w.heap.size, 0, none⟩) (block_lt_of_cell q0)).trans q0
           have r1 := (hb2.cell (p := ⟨w.heap.size, 1, none⟩) (block_lt_of_cell q1)).trans q1
           have HB2 := Lib.hid (HB1.out.trans (hb2.mono HB1.out.size))
           clear hb2 q0 q1 q2 q3 q4))
      go_ret2
      exact ⟨ret_two (hM.out.symm) (hN.out.symm), B1.out.trans (HB2.out.mono B1.out.size)⟩
    by_cases g2 : x < 2
    · have hM : Hid (whatK true l p x = 3) := by unfold whatK; rw [if_pos ⟨rfl, by omega⟩, if_pos g2]; trivial
      have hN : Hid (whatN true l p x = x) := by unfold whatN; rw [if_pos ⟨rfl, by omega⟩, if_pos g2]; trivial
      have d0 : decide (x < 0) = false := by simp; omega
      have ds : decide (2 + l + p ≤ x) = false := by simp; omega
      go_enter Try.func12, Try.ntmps12
      go_wp2_with fail
      generalize w.alloc (.cells #[.int .i64 l, .int .i64 p, .int .i64 e, .int .i64 g, .slice A n cap] 24) = W at b1 h1 c0 c1 c2 c3 c4 ⊢
      simp only [List.getElem?_toArray, List.getElem?_cons_succ, List.getElem?_cons_zero] at c0 c1 c2 c3 c4
      have B1 := Lib.hid b1
      have H1 := Lib.hid h1
      clear b1 h1
      go_wp2_with (first
        | (go_at_call 21
           refine (gright_to true l p e g A n cap cs HB0.out _ H1.out).mono ?_
           rintro e' w1 ⟨rfl, hb1⟩
           have q0 := (hb1.cell (p := ⟨w.heap.size, 0, none⟩) (block_lt_of_cell c0)).trans c0
           have q1 := (hb1.cell (p := ⟨w.heap.size, 1, none⟩) (block_lt_of_cell c1)).trans c1
           have q2 := (hb1.cell (p := ⟨w.heap.size, 2, none⟩) (block_lt_of_cell c2)).trans c2
           have q3 := (hb1.cell (p := ⟨w.heap.size, 3, none⟩) (block_lt_of_cell c3)).trans c3
           have q4 := (hb1.cell (p := ⟨w.heap.size, 4, none⟩) (block_lt_of_cell c4)).trans c4
           have HB1 := Lib.hid hb1
           clear hb1 c0 c1 c2 c3 c4)
        | (go_at_call 24
           refine (sectors_to l p e g A n cap _ hl hp).mono ?_
           rintro e2 w2 ⟨rfl, hb2⟩
           have r0 := (hb2.cell (p := ⟨w.heap.size, 0, none⟩) (block_lt_of_cell q0)).trans q0
           have r1 := (hb2.cell (p := ⟨w.heap.size, 1, none⟩) (block_lt_of_cell q1)).trans q1
           have HB2 := Lib.hid (HB1.out.trans (hb2.mono HB1.out.size))
           clear hb2 q0 q1 q2 q3 q4))
      go_quiet (fail)
      go_wp2
      go_ret2
      exact ⟨ret_two (hM.out.symm) (hN.out.symm), B1.out.trans ((below_drewN HB2.out _).mono B1.out.size)⟩
    by_cases g3 : x < 2 + l
    · have hM : Hid (whatK true l p x = 1) := by unfold whatK; rw [if_pos ⟨rfl, by omega⟩, if_neg g2, if_pos g3]; trivial
      have hN : Hid (whatN true l p x = x - 2) := by unfold whatN; rw [if_pos ⟨rfl, by omega⟩, if_neg g2, if_pos g3]; trivial
      have d0 : decide (x < 0) = false := by simp; omega
      have ds : decide (2 + l + p ≤ x) = false := by simp; omega
      have d2 : decide (x < 2) = false := by simp; omega
      have z0 : (x == 0) = false := by simp; omega
      go_enter Try.func12, Try.ntmps12
      go_wp2_with fail
      generalize w.alloc (.cells #[.int .i64 l, .int .i64 p, .int .i64 e, .int .i64 g, .slice A n cap] 24) = W at b1 h1 c0 c1 c2 c3 c4 ⊢
      simp only [List.getElem?_toArray, List.getElem?_cons_succ, List.getElem?_cons_zero] at c0 c1 c2 c3 c4
      have B1 := Lib.hid b1
      have H1 := Lib.hid h1
      clear b1 h1
      go_wp2_with (first
        | (go_at_call 21
           refine (gright_to true l p e g A n cap cs HB0.out _ H1.out).mono ?_
           rintro e' w1 ⟨rfl, hb1⟩
           have q0 := (hb1.cell (p := ⟨w.heap.size, 0, none⟩) (block_lt_of_cell c0)).trans c0
           have q1 := (hb1.cell (p := ⟨w.heap.size, 1, none⟩) (block_lt_of_cell c1)).trans c1
           have q2 := (hb1.cell (p := ⟨w.heap.size, 2, none⟩) (block_lt_of_cell c2)).trans c2
           have q3 := (hb1.cell (p := ⟨w.heap.size, 3, none⟩) (block_lt_of_cell c3)).trans c3
           have q4 := (hb1.cell (p := ⟨w.heap.size, 4, none⟩) (block_lt_of_cell c4)).trans c4
           have HB1 := Lib.hid hb1
           clear hb1 c0 c1 c2 c3 c4)
        | (go_at_call 24
           refine (sectors_to l p e g A n cap _ hl hp).mono ?_
           rintro e2 w2 ⟨rfl, hb2⟩
           have r0 := (hb2.cell (p := ⟨w.heap.size, 0, none⟩) (block_lt_of_cell q0)).trans q0
           have r1 := (hb2.cell (p := ⟨w.heap.size, 1, none⟩) (block_lt_of_cell q1)).trans q1
           have HB2 := Lib.hid (HB1.out.trans (hb2.mono HB1.out.size))
           clear hb2 q0 q1 q2 q3 q4))
      go_quiet (fail)
      go_wp2
      go_ret2
      exact ⟨ret_two (hM.out.symm) (hN.out.symm), B1.out.trans ((below_drewN HB2.out _).mono B1.out.size)⟩
    have hM : Hid (whatK true l p x = 2) := by unfold whatK; rw [if_pos ⟨rfl, by omega⟩, if_neg g2, if_neg g3, if_pos (by omega)]; trivial
    have hN : Hid (whatN true l p x = x - 2 - l) := by unfold whatN; rw [if_pos ⟨rfl, by omega⟩, if_neg g2, if_neg g3, if_pos (by omega)]; trivial
    have d0 : decide (x < 0) = false := by simp; omega
    have ds : decide (2 + l + p ≤ x) = false := by simp; omega
    have d2 : decide (x < 2) = false := by simp; omega
    have d3 : decide (x < 2 + l) = false := by simp; omega
    have z0 : (x == 0) = false := by simp; omega
    go_enter Try.func12, Try.ntmps12
    go_wp2_with fail
    generalize w.alloc (.cells #[.int .i64 l, .int .i64 p, .int .i64 e, .int .i64 g, .slice A n cap] 24) = W at b1 h1 c0 c1 c2 c3 c4 ⊢
    simp only [List.getElem?_toArray, List.getElem?_cons_succ, List.getElem?_cons_zero] at c0 c1 c2 c3 c4
    have B1 := Lib.hid b1
    have H1 := Lib.hid h1
    clear b1 h1
    go_wp2_with (first
      | (go_at_call 21
         refine (gright_to true l p e g A n cap cs HB0.out _ H1.out).mono ?_
         rintro e' w1 ⟨rfl, hb1⟩
         have q0 := (hb1.cell (p := ⟨w.heap.size, 0, none⟩) (block_lt_of_cell c0)).trans c0
         have q1 := (hb1.cell (p := ⟨w.heap.size, 1, none⟩) (block_lt_of_cell c1)).trans c1
         have q2 := (hb1.cell (p := ⟨w.heap.size, 2, none⟩) (block_lt_of_cell c2)).trans c2
         have q3 := (hb1.cell (p := ⟨w.heap.size, 3, none⟩) (block_lt_of_cell c3)).trans c3
         have q4 := (hb1.cell (p := ⟨w.heap.size, 4, none⟩) (block_lt_of_cell c4)).trans c4
         have HB1 := Lib.hid hb1
         clear hb1 c0 c1 c2 c3 c4)
      | (go_at_call 24
         refine (sectors_to l p e g A n cap _ hl hp).mono ?_
         rintro e2 w2 ⟨rfl, hb2⟩
         have r0 := (hb2.cell (p := ⟨w.heap.size, 0, none⟩) (block_lt_of_cell q0)).trans q0
         have r1 := (hb2.cell (p := ⟨w.heap.size, 1, none⟩) (block_lt_of_cell q1)).trans q1
         have HB2 := Lib.hid (HB1.out.trans (hb2.mono HB1.out.size))
         clear hb2 q0 q1 q2 q3 q4))
    go_quiet (fail)
    go_wp2
    go_ret2
    exact ⟨ret_two (hM.out.symm) (hN.out.symm), B1.out.trans ((below_drewN HB2.out _).mono B1.out.size)⟩

set_option maxHeartbeats 2000000 in
theorem rwhat_to (b0 : Bool) (l p e g : Int) (A : Option Addr) (n cap : Nat) (cs : List Cmp) (hb0 : RightIff b0 l p e g cs) (x : Int) (hx : i64ok x) (w : World) (h : (⟨l, p, e, g, A, n, cap, cs⟩ : Cnf).ok w) :
    Calls Try.prog 13 #[.agg #[.int .i64 l, .int .i64 p, .int .i64 e, .int .i64 g, .slice A n cap], .int .i64 x] w fun e w' => e = .returned (.tuple #[.int .i64 (whatK b0 l p x), .int .i64 (whatN b0 l p x)]) ∧ Below w.heap.size w w' := by
  obtain ⟨x0, x1⟩ := hx
  have HB0 := Lib.hid hb0
  have b1 : Below w.heap.size w (w.alloc (.cells #[.int .i64 l, .int .i64 p, .int .i64 e, .int .i64 g, .slice A n cap] 24)) := (Below.refl _ _).alloc (Nat.le_refl _) _
  have h1 := h.over b1
  have cl := fun j => new_cell w #[.int .i64 l, .int .i64 p, .int .i64 e, .int .i64 g, .slice A n cap] 24 j
  have c0 := cl 0
  have c1 := cl 1
  have c2 := cl 2
  have c3 := cl 3
  have c4 := cl 4
  clear cl hb0 h
  cases b0
  case false =>
    have hM : Hid (whatK false l p x = 0) := by unfold whatK; rw [if_neg (by simp)]; trivial
    have hN : Hid (whatN false l p x = 0) := by unfold whatN; rw [if_neg (by simp)]; trivial
    go_enter Try.func13, Try.ntmps13
    go_wp2_with fail
    generalize w.alloc (.cells #[.int .i64 l, .int .i64 p, .int .i64 e, .int .i64 g, .slice A n cap] 24) = W at b1 h1 c0 c1 c2 c3 c4 ⊢
    simp only [List.getElem?_toArray, List.getElem?_cons_succ, List.getElem?_cons_zero] at c0 c1 c2 c3 c4
    have B1 := Lib.hid b1
    have H1 := Lib.hid h1
    clear b1 h1
    go_wp2_with (first
      | (go_at_call 20
         refine (right_to false l p e g A n cap cs HB0.out _ H1.out).mono ?_
         rintro e' w1 ⟨rfl, hb1⟩
         have q0 := (hb1.cell (p := ⟨w.heap.size, 0, none⟩) (block_lt_of_cell c0)).trans c0
         have q1 := (hb1.cell (p := ⟨w.heap.size, 1, none⟩) (block_lt_of_cell c1)).trans c1
         have q2 := (hb1.cell (p := ⟨w.heap.size, 2, none⟩) (block_lt_of_cell c2)).trans c2
         have q3 := (hb1.cell (p := ⟨w.heap.size, 3, none⟩) (block_lt_of_cell c3)).trans c3
         have q4 := (hb1.cell (p := ⟨w.heap.size, 4, none⟩) (block_lt_of_cell c4)).trans c4
         have HB1 := Lib.hid hb1
         clear hb1 c0 c1 c2 c3 c4))
    go_ret2
    exact ⟨ret_two (hM.out.symm) (hN.out.symm), B1.out.trans (HB1.out.mono B1.out.size)⟩
  case true =>
    have R := Iff.mp HB0.out rfl
    have hl := R.hl
    have hp := R.hp
    clear R
    by_cases g0 : x < 0
    · have hM : Hid (whatK true l p x = 0) := by unfold whatK; rw [if_neg (by omega)]; trivial
      have hN : Hid (whatN true l p x = 0) := by unfold whatN; rw [if_neg (by omega)]; trivial
      go_enter Try.func13, Try.ntmps13
      go_wp2_with fail
      generalize w.alloc (.cells #[.int .i64 l, .int .i64 p, .int .i64 e, .int .i64 g, .slice A n cap] 24) = W at b1 h1 c0 c1 c2 c3 c4 ⊢
      simp only [List.getElem?_toArray, List.getElem?_cons_succ, List.getElem?_cons_zero] at c0 c1 c2 c3 c4
      have B1 := Lib.hid b1
      have H1 := Lib.hid h1
      clear b1 h1
      go_wp2_with (first
        | (go_at_call 20
           refine (right_to true l p e g A n cap cs HB0.out _ H1.out).mono ?_
           rintro e' w1 ⟨rfl, hb1⟩
           have q0 := (hb1.cell (p := ⟨w.heap.size, 0, none⟩) (block_lt_of_cell c0)).trans c0
           have q1 := (hb1.cell (p := ⟨w.heap.size, 1, none⟩) (block_lt_of_cell c1)).trans c1
           have q2 := (hb1.cell (p := ⟨w.heap.size, 2, none⟩) (block_lt_of_cell c2)).trans c2
           have q3 := (hb1.cell (p := ⟨w.heap.size, 3, none⟩) (block_lt_of_cell c3)).trans c3
           have q4 := (hb1.cell (p := ⟨w.heap.size, 4, none⟩) (block_lt_of_cell c4)).trans c4
           have HB1 := Lib.hid hb1
           clear hb1 c0 c1 c2 c3 c4))
      go_ret2
      exact ⟨ret_two (hM.out.symm) (hN.out.symm), B1.out.trans (HB1.out.mono B1.out.size)⟩
    by_cases g1 : 2 + l + p ≤ x
    · have hM : Hid (whatK true l p x = 0) := by unfold whatK; rw [if_pos ⟨rfl, by omega⟩, if_neg (by omega), if_neg (by omega), if_neg (by omega)]; trivial
      have hN : Hid (whatN true l p x = 0) := by unfold whatN; rw [if_pos ⟨rfl, by omega⟩, if_neg (by omega), if_neg (by omega), if_neg (by omega)]; trivial
      have d0 : decide (x < 0) = false := by simp; omega
      have d2 : decide (x < 2) = false := by simp; omega
      have d3 : decide (x < 2 + l) = false := by simp; omega
      have d4 : decide (x < 2 + l + p) = false := by simp; omega
      go_enter Try.func13, Try.ntmps13
      go_wp2_with fail
      generalize w.alloc (.cells #[.int .i64 l, .int .i64 p, .int .i64 e, .int .i64 g, .slice A n cap] 24) = W at b1 h1 c0 c1 c2 c3 c4 ⊢
      simp only [List.getElem?_toArray, List.getElem?_cons_succ, List.getElem?_cons_zero] at c0 c1 c2 c3 c4
      have B1 := Lib.hid b1
      have H1 := Lib.hid h1
      clear b1 h1
      go_wp2_with (first
        | (go_at_call 20
           refine (right_to true l p e g A n cap cs HB0.out _ H1.out).mono ?_
           rintro e' w1 ⟨rfl, hb1⟩
           have q0 := (hb1.cell (p := ⟨w.heap.size, 0, none⟩) (block_lt_of_cell c0)).trans c0
           have q1 := (hb1.cell (p := ⟨w.heap.size, 1, none⟩) (block_lt_of_cell c1)).trans c1
           have q2 := (hb1.cell (p := ⟨w.heap.size, 2, none⟩) (block_lt_of_cell c2)).trans c2
           have q3 := (hb1.cell (p := ⟨w.heap.size, 3, none⟩) (block_lt_of_cell c3)).trans c3
           have q4 := (hb1.cell (p := ⟨w.heap.size, 4, none⟩) (block_lt_of_cell c4)).trans c4
           have HB1 := Lib.hid hb1
           clear hb1 c0 c1 c2 c3 c4))
      go_ret2
      exact ⟨ret_two (hM.out.symm) (hN.out.symm), B1.out.trans (HB1.out.mono B1.out.size)⟩
    by_cases g2 : x < 2
    · have hM : Hid (whatK true l p x = 3) := by unfold whatK; rw [if_pos ⟨rfl, by omega⟩, if_pos g2]; trivial
      have hN : Hid (whatN true l p x = x) := by unfold whatN; rw [if_pos ⟨rfl, by omega⟩, if_pos g2]; trivial
      have d0 : decide (x < 0) = false := by simp; omega
      go_enter Try.func13, Try.ntmps13
      go_wp2_with fail
      generalize w.alloc (.cells #[.int .i64 l, .int .i64 p, .int .i64 e, .int .i64 g, .slice A n cap] 24) = W at b1 h1 c0 c1 c2 c3 c4 ⊢
      simp only [List.getElem?_toArray, List.getElem?_cons_succ, List.getElem?_cons_zero] at c0 c1 c2 c3 c4
      have B1 := Lib.hid b1
      have H1 := Lib.hid h1
      clear b1 h1
      go_wp2_with (first
        | (go_at_call 20
           refine (right_to true l p e g A n cap cs HB0.out _ H1.out).mono ?_
           rintro e' w1 ⟨rfl, hb1⟩
           have q0 := (hb1.cell (p := ⟨w.heap.size, 0, none⟩) (block_lt_of_cell c0)).trans c0
           have q1 := (hb1.cell (p := ⟨w.heap.size, 1, none⟩) (block_lt_of_cell c1)).trans c1
           have q2 := (hb1.cell (p := ⟨w.heap.size, 2, none⟩) (block_lt_of_cell c2)).trans c2
           have q3 := (hb1.cell (p := ⟨w.heap.size, 3, none⟩) (block_lt_of_cell c3)).trans c3
           have q4 := (hb1.cell (p := ⟨w.heap.size, 4, none⟩) (block_lt_of_cell c4)).trans c4
           have HB1 := Lib.hid hb1
           clear hb1 c0 c1 c2 c3 c4))
      go_ret2
      exact ⟨ret_two (hM.out.symm) (hN.out.symm), B1.out.trans (HB1.out.mono B1.out.size)⟩
    by_cases g3 : x < 2 + l
    · have hM : Hid (whatK true l p x = 1) := by unfold whatK; rw [if_pos ⟨rfl, by omega⟩, if_neg g2, if_pos g3]; trivial
      have hN : Hid (whatN true l p x = x - 2) := by unfold whatN; rw [if_pos ⟨rfl, by omega⟩, if_neg g2, if_pos g3]; trivial
      have d0 : decide (x < 0) = false := by simp; omega
      have d2 : decide (x < 2) = false := by simp; omega
      have z0 : (x == 0) = false := by simp; omega
      go_enter Try.func13, Try.ntmps13
      go_wp2_with fail
      generalize w.alloc (.cells #[.int .i64 l, .int .i64 p, .int .i64 e, .int .i64 g, .slice A n cap] 24) = W at b1 h1 c0 c1 c2 c3 c4 ⊢
      simp only [List.getElem?_toArray, List.getElem?_cons_succ, List.getElem?_cons_zero] at c0 c1 c2 c3 c4
      have B1 := Lib.hid b1
      have H1 := Lib.hid h1
      clear b1 h1
      go_wp2_with (first
        | (go_at_call 20
           refine (right_to true l p e g A n cap cs HB0.out _ H1.out).mono ?_
           rintro e' w1 ⟨rfl, hb1⟩
           have q0 := (hb1.cell (p := ⟨w.heap.size, 0, none⟩) (block_lt_of_cell c0)).trans c0
           have q1 := (hb1.cell (p := ⟨w.heap.size, 1, none⟩) (block_lt_of_cell c1)).trans c1
           have q2 := (hb1.cell (p := ⟨w.heap.size, 2, none⟩) (block_lt_of_cell c2)).trans c2
           have q3 := (hb1.cell (p := ⟨w.heap.size, 3, none⟩) (block_lt_of_cell c3)).trans c3
           have q4 := (hb1.cell (p := ⟨w.heap.size, 4, none⟩) (block_lt_of_cell c4)).trans c4
           have HB1 := Lib.hid hb1
           clear hb1 c0 c1 c2 c3 c4))
      go_ret2
      exact ⟨ret_two (hM.out.symm) (hN.out.symm), B1.out.trans (HB1.out.mono B1.out.size)⟩
    have hM : Hid (whatK true l p x = 2) := by unfold whatK; rw [if_pos ⟨rfl, by omega⟩, if_neg g2, if_neg g3, if_pos (by omega)]; trivial
    have hN : Hid (whatN true l p x = x - 2 - l) := by unfold whatN; rw [if_pos ⟨rfl, by omega⟩, if_neg g2, if_neg g3, if_pos (by omega)]; trivial
    have d0 : decide (x < 0) = false := by simp; omega
    have d2 : decide (x < 2) = false := by simp; omega
    have d3 : decide (x < 2 + l) = false := by simp; omega
    have z0 : (x == 0) = false := by simp; omega
    go_enter Try.func13, Try.ntmps13
    go_wp2_with fail
    generalize w.alloc (.cells #[.int .i64 l, .int .i64 p, .int .i64 e, .int .i64 g, .slice A n cap] 24) = W at b1 h1 c0 c1 c2 c3 c4 ⊢
    simp only [List.getElem?_toArray, List.getElem?_cons_succ, List.getElem?_cons_zero] at c0 c1 c2 c3 c4
    have B1 := Lib.hid b1
    have H1 := Lib.hid h1
    clear b1 h1
    go_wp2_with (first
      | (go_at_call 20
         refine (right_to true l p e g A n cap cs HB0.out _ H1.out).mono ?_
         rintro e' w1 ⟨rfl, hb1⟩
         have q0 := (hb1.cell (p := ⟨w.heap.size, 0, none⟩) (block_lt_of_cell c0)).trans c0
         have q1 := (hb1.cell (p := ⟨w.heap.size, 1, none⟩) (block_lt_of_cell c1)).trans c1
         have q2 := (hb1.cell (p := ⟨w.heap.size, 2, none⟩) (block_lt_of_cell c2)).trans c2
         have q3 := (hb1.cell (p := ⟨w.heap.size, 3, none⟩) (block_lt_of_cell c3)).trans c3
         have q4 := (hb1.cell (p := ⟨w.heap.size, 4, none⟩) (block_lt_of_cell c4)).trans c4
         have HB1 := Lib.hid hb1
         clear hb1 c0 c1 c2 c3 c4))
    go_quiet (fail)
    go_wp2
    go_ret2
    exact ⟨ret_two (hM.out.symm) (hN.out.symm), B1.out.trans ((below_drewN HB1.out _).mono B1.out.size)⟩

end Go.Proofs.Ytohlcopnifmjoad
