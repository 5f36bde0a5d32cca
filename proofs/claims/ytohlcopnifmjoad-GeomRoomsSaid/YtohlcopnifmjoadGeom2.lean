/- geom: the walks of the functions that take a layout. -/
import Derived.Test.YtohlcopnifmjoadGeom
namespace Go.Proofs.Ytohlcopnifmjoad
open Go.RowKit

theorem rem_eq (l x : Int) (h2 : 2 ≤ l) (h0 : 0 ≤ x) (h1 : x ≤ 281474976710656) : wrap64 (2 + x - wrap64 (x / l * l)) = 2 + x % l := by
  have e := Int.mul_ediv_add_emod x l
  have q0 : 0 ≤ x / l := Int.ediv_nonneg h0 (by omega)
  have m0 := Int.emod_nonneg x (by omega : l ≠ 0)
  have c : x / l * l = x - x % l := by rw [Int.mul_comm]; omega
  have m2 : 0 ≤ l * (x / l) := Int.mul_nonneg (by omega) q0
  rw [c, IntWalk.wrap64_in (x - x % l) (by omega), IntWalk.wrap64_in _ (by omega)]
  omega

set_option maxHeartbeats 1000000 in
theorem log_to (b0 : Bool) (l p e g : Int) (A : Option Addr) (n cap : Nat) (cs : List Cmp) (hb0 : RightIff b0 l p e g cs) (x : Int) (hx : i64ok x) (w : World) (h : (⟨l, p, e, g, A, n, cap, cs⟩ : Cnf).ok w) :
    Calls Try.prog 16 #[.agg #[.int .i64 l, .int .i64 p, .int .i64 e, .int .i64 g, .slice A n cap], .int .i64 x] w fun e w' => e = .returned (.int .i64 (logF b0 l x)) ∧ Below w.heap.size w w' := by
  obtain ⟨x0, x1⟩ := hx
  have HB0 := Lib.hid hb0
  have b1 : Below w.heap.size w (w.alloc (.cells #[.int .i64 l, .int .i64 p, .int .i64 e, .int .i64 g, .slice A n cap] 24)) := (Below.refl _ _).alloc (Nat.le_refl _) _
  have h1 := h.over b1
  have cl := fun j => new_cell w #[.int .i64 l, .int .i64 p, .int .i64 e, .int .i64 g, .slice A n cap] 24 j
  have c0 := cl 0
  have c1 := cl 1
  have c2 := cl 2
  have c3 := cl 3
  have c4 := cl 4
  clear cl hb0 h
  cases b0
  case false =>
    have hM : Hid (logF false l x = -1) := by unfold logF; rw [if_neg (by simp)]; trivial
    go_enter Try.func16, Try.ntmps16
    go_wp2_with fail
    generalize w.alloc (.cells #[.int .i64 l, .int .i64 p, .int .i64 e, .int .i64 g, .slice A n cap] 24) = W at b1 h1 c0 c1 c2 c3 c4 ⊢
    simp only [List.getElem?_toArray, List.getElem?_cons_succ, List.getElem?_cons_zero] at c0 c1 c2 c3 c4
    have B1 := Lib.hid b1
    have H1 := Lib.hid h1
    clear b1 h1
    go_wp2_with (first
      | (go_at_call 21
         refine (gright_to false l p e g A n cap cs HB0.out _ H1.out).mono ?_
         rintro e' w1 ⟨rfl, hb1⟩
         have q0 := (hb1.cell (p := ⟨w.heap.size, 0, none⟩) (block_lt_of_cell c0)).trans c0
         have q1 := (hb1.cell (p := ⟨w.heap.size, 1, none⟩) (block_lt_of_cell c1)).trans c1
         have q2 := (hb1.cell (p := ⟨w.heap.size, 2, none⟩) (block_lt_of_cell c2)).trans c2
         have q3 := (hb1.cell (p := ⟨w.heap.size, 3, none⟩) (block_lt_of_cell c3)).trans c3
         have q4 := (hb1.cell (p := ⟨w.heap.size, 4, none⟩) (block_lt_of_cell c4)).trans c4
         have HB1 := Lib.hid hb1
         clear hb1 c0 c1 c2 c3 c4))
    go_ret
    exact ⟨ret_int (hM.out.symm), B1.out.trans (HB1.out.mono B1.out.size)⟩
  case true =>
    have R := Iff.mp HB0.out rfl
    have hl := R.hl
    clear R
    by_cases g0 : 0 ≤ x
    · by_cases g1 : x ≤ 281474976710656
      · have hM : Hid (logF true l x = 2 + x % l) := by unfold logF; rw [if_pos ⟨rfl, g0, g1⟩]; trivial
        have hP : placeB x = true := decide_eq_true ⟨g0, g1⟩
        have hm0 := Int.emod_nonneg x (by omega : l ≠ 0)
        have hm1 := Int.emod_lt_of_pos x (by omega : 0 < l)
        go_enter Try.func16, Try.ntmps16
        go_wp2_with fail
        generalize w.alloc (.cells #[.int .i64 l, .int .i64 p, .int .i64 e, .int .i64 g, .slice A n cap] 24) = W at b1 h1 c0 c1 c2 c3 c4 ⊢
        simp only [List.getElem?_toArray, List.getElem?_cons_succ, List.getElem?_cons_zero] at c0 c1 c2 c3 c4
        have B1 := Lib.hid b1
        have H1 := Lib.hid h1
        clear b1 h1
        go_wp2_with (first
          | (go_at_call 21
             refine (gright_to true l p e g A n cap cs HB0.out _ H1.out).mono ?_
             rintro e' w1 ⟨rfl, hb1⟩
             have q0 := (hb1.cell (p := ⟨w.heap.size, 0, none⟩) (block_lt_of_cell c0)).trans c0
             have q1 := (hb1.cell (p := ⟨w.heap.size, 1, none⟩) (block_lt_of_cell c1)).trans c1
             have q2 := (hb1.cell (p := ⟨w.heap.size, 2, none⟩) (block_lt_of_cell c2)).trans c2
             have q3 := (hb1.cell (p := ⟨w.heap.size, 3, none⟩) (block_lt_of_cell c3)).trans c3
             have q4 := (hb1.cell (p := ⟨w.heap.size, 4, none⟩) (block_lt_of_cell c4)).trans c4
             have HB1 := Lib.hid hb1
             clear hb1 c0 c1 c2 c3 c4)
          | (go_at_call 22; refine (place_any _ _).mono ?_; rintro e' w' ⟨rfl, rfl⟩))
        go_ret
        exact ⟨ret_int (hM.out.symm), B1.out.trans (HB1.out.mono B1.out.size)⟩
      · have hM : Hid (logF true l x = -1) := by unfold logF; rw [if_neg (by omega)]; trivial
        have hP : placeB x = false := decide_eq_false (by omega)
        go_enter Try.func16, Try.ntmps16
        go_wp2_with fail
        generalize w.alloc (.cells #[.int .i64 l, .int .i64 p, .int .i64 e, .int .i64 g, .slice A n cap] 24) = W at b1 h1 c0 c1 c2 c3 c4 ⊢
        simp only [List.getElem?_toArray, List.getElem?_cons_succ, List.getElem?_cons_zero] at c0 c1 c2 c3 c4
        have B1 := Lib.hid b1
        have H1 := Lib.hid h1
        clear b1 h1
        go_wp2_with (first
          | (go_at_call 21
             refine (gright_to true l p e g A n cap cs HB0.out _ H1.out).mono ?_
             rintro e' w1 ⟨rfl, hb1⟩
             have q0 := (hb1.cell (p := ⟨w.heap.size, 0, none⟩) (block_lt_of_cell c0)).trans c0
             have q1 := (hb1.cell (p := ⟨w.heap.size, 1, none⟩) (block_lt_of_cell c1)).trans c1
             have q2 := (hb1.cell (p := ⟨w.heap.size, 2, none⟩) (block_lt_of_cell c2)).trans c2
             have q3 := (hb1.cell (p := ⟨w.heap.size, 3, none⟩) (block_lt_of_cell c3)).trans c3
             have q4 := (hb1.cell (p := ⟨w.heap.size, 4, none⟩) (block_lt_of_cell c4)).trans c4
             have HB1 := Lib.hid hb1
             clear hb1 c0 c1 c2 c3 c4)
          | (go_at_call 22; refine (place_any _ _).mono ?_; rintro e' w' ⟨rfl, rfl⟩))
        go_ret
        exact ⟨ret_int (hM.out.symm), B1.out.trans (HB1.out.mono B1.out.size)⟩
    · have hM : Hid (logF true l x = -1) := by unfold logF; rw [if_neg (by omega)]; trivial
      have hP : placeB x = false := decide_eq_false (by omega)
      go_enter Try.func16, Try.ntmps16
      go_wp2_with fail
      generalize w.alloc (.cells #[.int .i64 l, .int .i64 p, .int .i64 e, .int .i64 g, .slice A n cap] 24) = W at b1 h1 c0 c1 c2 c3 c4 ⊢
      simp only [List.getElem?_toArray, List.getElem?_cons_succ, List.getElem?_cons_zero] at c0 c1 c2 c3 c4
      have B1 := Lib.hid b1
      have H1 := Lib.hid h1
      clear b1 h1
      go_wp2_with (first
        | (go_at_call 21
           refine (gright_to true l p e g A n cap cs HB0.out _ H1.out).mono ?_
           rintro e' w1 ⟨rfl, hb1⟩
           have q0 := (hb1.cell (p := ⟨w.heap.size, 0, none⟩) (block_lt_of_cell c0)).trans c0
           have q1 := (hb1.cell (p := ⟨w.heap.size, 1, none⟩) (block_lt_of_cell c1)).trans c1
           have q2 := (hb1.cell (p := ⟨w.heap.size, 2, none⟩) (block_lt_of_cell c2)).trans c2
           have q3 := (hb1.cell (p := ⟨w.heap.size, 3, none⟩) (block_lt_of_cell c3)).trans c3
           have q4 := (hb1.cell (p := ⟨w.heap.size, 4, none⟩) (block_lt_of_cell c4)).trans c4
           have HB1 := Lib.hid hb1
           clear hb1 c0 c1 c2 c3 c4)
        | (go_at_call 22; refine (place_any _ _).mono ?_; rintro e' w' ⟨rfl, rfl⟩))
      go_ret
      exact ⟨ret_int (hM.out.symm), B1.out.trans (HB1.out.mono B1.out.size)⟩

set_option maxHeartbeats 1000000 in
theorem rlog_to (b0 : Bool) (l p e g : Int) (A : Option Addr) (n cap : Nat) (cs : List Cmp) (hb0 : RightIff b0 l p e g cs) (x : Int) (hx : i64ok x) (w : World) (h : (⟨l, p, e, g, A, n, cap, cs⟩ : Cnf).ok w) :
    Calls Try.prog 17 #[.agg #[.int .i64 l, .int .i64 p, .int .i64 e, .int .i64 g, .slice A n cap], .int .i64 x] w fun e w' => e = .returned (.int .i64 (logF b0 l x)) ∧ Below w.heap.size w w' := by
  obtain ⟨x0, x1⟩ := hx
  have HB0 := Lib.hid hb0
  have b1 : Below w.heap.size w (w.alloc (.cells #[.int .i64 l, .int .i64 p, .int .i64 e, .int .i64 g, .slice A n cap] 24)) := (Below.refl _ _).alloc (Nat.le_refl _) _
  have h1 := h.over b1
  have cl := fun j => new_cell w #[.int .i64 l, .int .i64 p, .int .i64 e, .int .i64 g, .slice A n cap] 24 j
  have c0 := cl 0
  have c1 := cl 1
  have c2 := cl 2
  have c3 := cl 3
  have c4 := cl 4
  clear cl hb0 h
  cases b0
  case false =>
    have hM : Hid (logF false l x = -1) := by unfold logF; rw [if_neg (by simp)]; trivial
    go_enter Try.func17, Try.ntmps17
    go_wp2_with fail
    generalize w.alloc (.cells #[.int .i64 l, .int .i64 p, .int .i64 e, .int .i64 g, .slice A n cap] 24) = W at b1 h1 c0 c1 c2 c3 c4 ⊢
    simp only [List.getElem?_toArray, List.getElem?_cons_succ, List.getElem?_cons_zero] at c0 c1 c2 c3 c4
    have B1 := Lib.hid b1
    have H1 := Lib.hid h1
    clear b1 h1
    go_wp2_with (first
      | (go_at_call 20
         refine (right_to false l p e g A n cap cs HB0.out _ H1.out).mono ?_
         rintro e' w1 ⟨rfl, hb1⟩
         have q0 := (hb1.cell (p := ⟨w.heap.size, 0, none⟩) (block_lt_of_cell c0)).trans c0
         have q1 := (hb1.cell (p := ⟨w.heap.size, 1, none⟩) (block_lt_of_cell c1)).trans c1
         have q2 := (hb1.cell (p := ⟨w.heap.size, 2, none⟩) (block_lt_of_cell c2)).trans c2
         have q3 := (hb1.cell (p := ⟨w.heap.size, 3, none⟩) (block_lt_of_cell c3)).trans c3
         have q4 := (hb1.cell (p := ⟨w.heap.size, 4, none⟩) (block_lt_of_cell c4)).trans c4
         have HB1 := Lib.hid hb1
         clear hb1 c0 c1 c2 c3 c4))
    go_ret
    exact ⟨ret_int (hM.out.symm), B1.out.trans (HB1.out.mono B1.out.size)⟩
  case true =>
    have R := Iff.mp HB0.out rfl
    have hl := R.hl
    clear R
    by_cases g0 : 0 ≤ x
    · by_cases g1 : x ≤ 281474976710656
      · have hM : Hid (logF true l x = 2 + x % l) := by unfold logF; rw [if_pos ⟨rfl, g0, g1⟩]; trivial
        have hP : placeB x = true := decide_eq_true ⟨g0, g1⟩
        have hm0 := Int.emod_nonneg x (by omega : l ≠ 0)
        have hm1 := Int.emod_lt_of_pos x (by omega : 0 < l)
        go_enter Try.func17, Try.ntmps17
        go_wp2_with fail
        generalize w.alloc (.cells #[.int .i64 l, .int .i64 p, .int .i64 e, .int .i64 g, .slice A n cap] 24) = W at b1 h1 c0 c1 c2 c3 c4 ⊢
        simp only [List.getElem?_toArray, List.getElem?_cons_succ, List.getElem?_cons_zero] at c0 c1 c2 c3 c4
        have B1 := Lib.hid b1
        have H1 := Lib.hid h1
        clear b1 h1
        go_wp2_with (first
          | (go_at_call 20
             refine (right_to true l p e g A n cap cs HB0.out _ H1.out).mono ?_
             rintro e' w1 ⟨rfl, hb1⟩
             have q0 := (hb1.cell (p := ⟨w.heap.size, 0, none⟩) (block_lt_of_cell c0)).trans c0
             have q1 := (hb1.cell (p := ⟨w.heap.size, 1, none⟩) (block_lt_of_cell c1)).trans c1
             have q2 := (hb1.cell (p := ⟨w.heap.size, 2, none⟩) (block_lt_of_cell c2)).trans c2
             have q3 := (hb1.cell (p := ⟨w.heap.size, 3, none⟩) (block_lt_of_cell c3)).trans c3
             have q4 := (hb1.cell (p := ⟨w.heap.size, 4, none⟩) (block_lt_of_cell c4)).trans c4
             have HB1 := Lib.hid hb1
             clear hb1 c0 c1 c2 c3 c4)
          | (go_at_call 23; refine (rplace_any _ _).mono ?_; rintro e' w' ⟨rfl, rfl⟩))
        go_quiet (fail)
        go_wp2
        go_ret
        exact ⟨ret_int (by rw [hM.out]; exact rem_eq l x hl.1 g0 g1), B1.out.trans ((below_drewN HB1.out _).mono B1.out.size)⟩
      · have hM : Hid (logF true l x = -1) := by unfold logF; rw [if_neg (by omega)]; trivial
        have hP : placeB x = false := decide_eq_false (by omega)
        go_enter Try.func17, Try.ntmps17
        go_wp2_with fail
        generalize w.alloc (.cells #[.int .i64 l, .int .i64 p, .int .i64 e, .int .i64 g, .slice A n cap] 24) = W at b1 h1 c0 c1 c2 c3 c4 ⊢
        simp only [List.getElem?_toArray, List.getElem?_cons_succ, List.getElem?_cons_zero] at c0 c1 c2 c3 c4
        have B1 := Lib.hid b1
        have H1 := Lib.hid h1
        clear b1 h1
        go_wp2_with (first
          | (go_at_call 20
             refine (right_to true l p e g A n cap cs HB0.out _ H1.out).mono ?_
             rintro e' w1 ⟨rfl, hb1⟩
             have q0 := (hb1.cell (p := ⟨w.heap.size, 0, none⟩) (block_lt_of_cell c0)).trans c0
             have q1 := (hb1.cell (p := ⟨w.heap.size, 1, none⟩) (block_lt_of_cell c1)).trans c1
             have q2 := (hb1.cell (p := ⟨w.heap.size, 2, none⟩) (block_lt_of_cell c2)).trans c2
             have q3 := (hb1.cell (p := ⟨w.heap.size, 3, none⟩) (block_lt_of_cell c3)).trans c3
             have q4 := (hb1.cell (p := ⟨w.heap.size, 4, none⟩) (block_lt_of_cell c4)).trans c4
             have HB1 := Lib.hid hb1
             clear hb1 c0 c1 c2 c3 c4)
          | (go_at_call 23; refine (rplace_any _ _).mono ?_; rintro e' w' ⟨rfl, rfl⟩))
        go_ret
        exact ⟨ret_int (hM.out.symm), B1.out.trans (HB1.out.mono B1.out.size)⟩
    · have hM : Hid (logF true l x = -1) := by unfold logF; rw [if_neg (by omega)]; trivial
      have hP : placeB x = false := decide_eq_false (by omega)
      go_enter Try.func17, Try.ntmps17
      go_wp2_with fail
      generalize w.alloc (.cells #[.int .i64 l, .int .i64 p, .int .i64 e, .int .i64 g, .slice A n cap] 24) = W at b1 h1 c0 c1 c2 c3 c4 ⊢
      simp only [List.getElem?_toArray, List.getElem?_cons_succ, List.getElem?_cons_zero] at c0 c1 c2 c3 c4
      have B1 := Lib.hid b1
      have H1 := Lib.hid h1
      clear b1 h1
      go_wp2_with (first
        | (go_at_call 20
           refine (right_to true l p e g A n cap cs HB0.out _ H1.out).mono ?_
           rintro e' w1 ⟨rfl, hb1⟩
           have q0 := (hb1.cell (p := ⟨w.heap.size, 0, none⟩) (block_lt_of_cell c0)).trans c0
           have q1 := (hb1.cell (p := ⟨w.heap.size, 1, none⟩) (block_lt_of_cell c1)).trans c1
           have q2 := (hb1.cell (p := ⟨w.heap.size, 2, none⟩) (block_lt_of_cell c2)).trans c2
           have q3 := (hb1.cell (p := ⟨w.heap.size, 3, none⟩) (block_lt_of_cell c3)).trans c3
           have q4 := (hb1.cell (p := ⟨w.heap.size, 4, none⟩) (block_lt_of_cell c4)).trans c4
           have HB1 := Lib.hid hb1
           clear hb1 c0 c1 c2 c3 c4)
        | (go_at_call 23; refine (rplace_any _ _).mono ?_; rintro e' w' ⟨rfl, rfl⟩))
      go_ret
      exact ⟨ret_int (hM.out.symm), B1.out.trans (HB1.out.mono B1.out.size)⟩

set_option maxHeartbeats 2000000 in
theorem page_to (b0 : Bool) (l p e g : Int) (A : Option Addr) (n cap : Nat) (cs : List Cmp) (hb0 : RightIff b0 l p e g cs) (x : Int) (hx : i64ok x) (w : World) (h : (⟨l, p, e, g, A, n, cap, cs⟩ : Cnf).ok w) :
    Calls Try.prog 18 #[.agg #[.int .i64 l, .int .i64 p, .int .i64 e, .int .i64 g, .slice A n cap], .int .i64 x] w fun e w' => e = .returned (.int .i64 (pageF b0 l p x)) ∧ Below w.heap.size w w' := by
  obtain ⟨x0, x1⟩ := hx
  have HB0 := Lib.hid hb0
  have b1 : Below w.heap.size w (w.alloc (.cells #[.int .i64 l, .int .i64 p, .int .i64 e, .int .i64 g, .slice A n cap] 24)) := (Below.refl _ _).alloc (Nat.le_refl _) _
  have h1 := h.over b1
  have cl := fun j => new_cell w #[.int .i64 l, .int .i64 p, .int .i64 e, .int .i64 g, .slice A n cap] 24 j
  have c0 := cl 0
  have c1 := cl 1
  have c2 := cl 2
  have c3 := cl 3
  have c4 := cl 4
  clear cl hb0 h
  cases b0
  case false =>
    have hM : Hid (pageF false l p x = -1) := by unfold pageF; rw [if_neg (by simp)]; trivial
    go_enter Try.func18, Try.ntmps18
    go_wp2_with fail
    generalize w.alloc (.cells #[.int .i64 l, .int .i64 p, .int .i64 e, .int .i64 g, .slice A n cap] 24) = W at b1 h1 c0 c1 c2 c3 c4 ⊢
    simp only [List.getElem?_toArray, List.getElem?_cons_succ, List.getElem?_cons_zero] at c0 c1 c2 c3 c4
    have B1 := Lib.hid b1
    have H1 := Lib.hid h1
    clear b1 h1
    go_wp2_with (first
      | (go_at_call 21
         refine (gright_to false l p e g A n cap cs HB0.out _ H1.out).mono ?_
         rintro e' w1 ⟨rfl, hb1⟩
         have q0 := (hb1.cell (p := ⟨w.heap.size, 0, none⟩) (block_lt_of_cell c0)).trans c0
         have q1 := (hb1.cell (p := ⟨w.heap.size, 1, none⟩) (block_lt_of_cell c1)).trans c1
         have q2 := (hb1.cell (p := ⟨w.heap.size, 2, none⟩) (block_lt_of_cell c2)).trans c2
         have q3 := (hb1.cell (p := ⟨w.heap.size, 3, none⟩) (block_lt_of_cell c3)).trans c3
         have q4 := (hb1.cell (p := ⟨w.heap.size, 4, none⟩) (block_lt_of_cell c4)).trans c4
         have HB1 := Lib.hid hb1
         clear hb1 c0 c1 c2 c3 c4))
    go_ret
    exact ⟨ret_int (hM.out.symm), B1.out.trans (HB1.out.mono B1.out.size)⟩
  case true =>
    have R := Iff.mp HB0.out rfl
    have hl := R.hl
    have hp := R.hp
    clear R
    by_cases g0 : x < 0
    · have hM : Hid (pageF true l p x = -1) := by unfold pageF; rw [if_neg (by omega)]; trivial
      go_enter Try.func18, Try.ntmps18
      go_wp2_with fail
      generalize w.alloc (.cells #[.int .i64 l, .int .i64 p, .int .i64 e, .int .i64 g, .slice A n cap] 24) = W at b1 h1 c0 c1 c2 c3 c4 ⊢
      simp only [List.getElem?_toArray, List.getElem?_cons_succ, List.getElem?_cons_zero] at c0 c1 c2 c3 c4
      have B1 := Lib.hid b1
      have H1 := Lib.hid h1
      clear b1 h1
      go_wp2_with (first
        | (go_at_call 21
           refine (gright_to true l p e g A n cap cs HB0.out _ H1.out).mono ?_
           rintro e' w1 ⟨rfl, hb1⟩
           have q0 := (hb1.cell (p := ⟨w.heap.size, 0, none⟩) (block_lt_of_cell c0)).trans c0
           have q1 := (hb1.cell (p := ⟨w.heap.size, 1, none⟩) (block_lt_of_cell c1)).trans c1
           have q2 := (hb1.cell (p := ⟨w.heap.size, 2, none⟩) (block_lt_of_cell c2)).trans c2
           have q3 := (hb1.cell (p := ⟨w.heap.size, 3, none⟩) (block_lt_of_cell c3)).trans c3
           have q4 := (hb1.cell (p := ⟨w.heap.size, 4, none⟩) (block_lt_of_cell c4)).trans c4
           have HB1 := Lib.hid hb1
           clear hb1 c0 c1 c2 c3 c4))
      go_ret
      exact ⟨ret_int (hM.out.symm), B1.out.trans (HB1.out.mono B1.out.size)⟩
    by_cases g1 : p ≤ x
    · have hM : Hid (pageF true l p x = -1) := by unfold pageF; rw [if_neg (by omega)]; trivial
      have d0 : decide (x < 0) = false := by simp; omega
      go_enter Try.func18, Try.ntmps18
      go_wp2_with fail
      generalize w.alloc (.cells #[.int .i64 l, .int .i64 p, .int .i64 e, .int .i64 g, .slice A n cap] 24) = W at b1 h1 c0 c1 c2 c3 c4 ⊢
      simp only [List.getElem?_toArray, List.getElem?_cons_succ, List.getElem?_cons_zero] at c0 c1 c2 c3 c4
      have B1 := Lib.hid b1
      have H1 := Lib.hid h1
      clear b1 h1
      go_wp2_with (first
        | (go_at_call 21
           refine (gright_to true l p e g A n cap cs HB0.out _ H1.out).mono ?_
           rintro e' w1 ⟨rfl, hb1⟩
           have q0 := (hb1.cell (p := ⟨w.heap.size, 0, none⟩) (block_lt_of_cell c0)).trans c0
           have q1 := (hb1.cell (p := ⟨w.heap.size, 1, none⟩) (block_lt_of_cell c1)).trans c1
           have q2 := (hb1.cell (p := ⟨w.heap.size, 2, none⟩) (block_lt_of_cell c2)).trans c2
           have q3 := (hb1.cell (p := ⟨w.heap.size, 3, none⟩) (block_lt_of_cell c3)).trans c3
           have q4 := (hb1.cell (p := ⟨w.heap.size, 4, none⟩) (block_lt_of_cell c4)).trans c4
           have HB1 := Lib.hid hb1
           clear hb1 c0 c1 c2 c3 c4))
      go_ret
      exact ⟨ret_int (hM.out.symm), B1.out.trans (HB1.out.mono B1.out.size)⟩
    have hM : Hid (pageF true l p x = 2 + l + x) := by unfold pageF; rw [if_pos ⟨rfl, by omega, by omega⟩]; trivial
    have d0 : decide (x < 0) = false := by simp; omega
    have d1 : decide (p ≤ x) = false := by simp; omega
    go_enter Try.func18, Try.ntmps18
    go_wp2_with fail
    generalize w.alloc (.cells #[.int .i64 l, .int .i64 p, .int .i64 e, .int .i64 g, .slice A n cap] 24) = W at b1 h1 c0 c1 c2 c3 c4 ⊢
    simp only [List.getElem?_toArray, List.getElem?_cons_succ, List.getElem?_cons_zero] at c0 c1 c2 c3 c4
    have B1 := Lib.hid b1
    have H1 := Lib.hid h1
    clear b1 h1
    go_wp2_with (first
      | (go_at_call 21
         refine (gright_to true l p e g A n cap cs HB0.out _ H1.out).mono ?_
         rintro e' w1 ⟨rfl, hb1⟩
         have q0 := (hb1.cell (p := ⟨w.heap.size, 0, none⟩) (block_lt_of_cell c0)).trans c0
         have q1 := (hb1.cell (p := ⟨w.heap.size, 1, none⟩) (block_lt_of_cell c1)).trans c1
         have q2 := (hb1.cell (p := ⟨w.heap.size, 2, none⟩) (block_lt_of_cell c2)).trans c2
         have q3 := (hb1.cell (p := ⟨w.heap.size, 3, none⟩) (block_lt_of_cell c3)).trans c3
         have q4 := (hb1.cell (p := ⟨w.heap.size, 4, none⟩) (block_lt_of_cell c4)).trans c4
         have HB1 := Lib.hid hb1
         clear hb1 c0 c1 c2 c3 c4))
    go_ret
    exact ⟨ret_int (hM.out.symm), B1.out.trans (HB1.out.mono B1.out.size)⟩

set_option maxHeartbeats 2000000 in
theorem rpage_to (b0 : Bool) (l p e g : Int) (A : Option Addr) (n cap : Nat) (cs : List Cmp) (hb0 : RightIff b0 l p e g cs) (x : Int) (hx : i64ok x) (w : World) (h : (⟨l, p, e, g, A, n, cap, cs⟩ : Cnf).ok w) :
    Calls Try.prog 19 #[.agg #[.int .i64 l, .int .i64 p, .int .i64 e, .int .i64 g, .slice A n cap], .int .i64 x] w fun e w' => e = .returned (.int .i64 (pageF b0 l p x)) ∧ Below w.heap.size w w' := by
  obtain ⟨x0, x1⟩ := hx
  have HB0 := Lib.hid hb0
  have b1 : Below w.heap.size w (w.alloc (.cells #[.int .i64 l, .int .i64 p, .int .i64 e, .int .i64 g, .slice A n cap] 24)) := (Below.refl _ _).alloc (Nat.le_refl _) _
  have h1 := h.over b1
  have cl := fun j => new_cell w #[.int .i64 l, .int .i64 p, .int .i64 e, .int .i64 g, .slice A n cap] 24 j
  have c0 := cl 0
  have c1 := cl 1
  have c2 := cl 2
  have c3 := cl 3
  have c4 := cl 4
  clear cl hb0 h
  cases b0
  case false =>
    have hM : Hid (pageF false l p x = -1) := by unfold pageF; rw [if_neg (by simp)]; trivial
    go_enter Try.func19, Try.ntmps19
    go_wp2_with fail
    generalize w.alloc (.cells #[.int .i64 l, .int .i64 p, .int .i64 e, .int .i64 g, .slice A n cap] 24) = W at b1 h1 c0 c1 c2 c3 c4 ⊢
    simp only [List.getElem?_toArray, List.getElem?_cons_succ, List.getElem?_cons_zero] at c0 c1 c2 c3 c4
    have B1 := Lib.hid b1
    have H1 := Lib.hid h1
    clear b1 h1
    go_wp2_with (first
      | (go_at_call 20
         refine (right_to false l p e g A n cap cs HB0.out _ H1.out).mono ?_
         rintro e' w1 ⟨rfl, hb1⟩
         have q0 := (hb1.cell (p := ⟨w.heap.size, 0, none⟩) (block_lt_of_cell c0)).trans c0
         have q1 := (hb1.cell (p := ⟨w.heap.size, 1, none⟩) (block_lt_of_cell c1)).trans c1
         have q2 := (hb1.cell (p := ⟨w.heap.size, 2, none⟩) (block_lt_of_cell c2)).trans c2
         have q3 := (hb1.cell (p := ⟨w.heap.size, 3, none⟩) (block_lt_of_cell c3)).trans c3
         have q4 := (hb1.cell (p := ⟨w.heap.size, 4, none⟩) (block_lt_of_cell c4)).trans c4
         have HB1 := Lib.hid hb1
         clear hb1 c0 c1 c2 c3 c4))
    go_ret
    exact ⟨ret_int (hM.out.symm), B1.out.trans (HB1.out.mono B1.out.size)⟩
  case true =>
    have R := Iff.mp HB0.out rfl
    have hl := R.hl
    have hp := R.hp
    clear R
    by_cases g0 : x < 0
    · have hM : Hid (pageF true l p x = -1) := by unfold pageF; rw [if_neg (by omega)]; trivial
      have d0 : decide (0 ≤ x) = false := by simp; omega
      go_enter Try.func19, Try.ntmps19
      go_wp2_with fail
      generalize w.alloc (.cells #[.int .i64 l, .int .i64 p, .int .i64 e, .int .i64 g, .slice A n cap] 24) = W at b1 h1 c0 c1 c2 c3 c4 ⊢
      simp only [List.getElem?_toArray, List.getElem?_cons_succ, List.getElem?_cons_zero] at c0 c1 c2 c3 c4
      have B1 := Lib.hid b1
      have H1 := Lib.hid h1
      clear b1 h1
      go_wp2_with (first
        | (go_at_call 20
           refine (right_to true l p e g A n cap cs HB0.out _ H1.out).mono ?_
           rintro e' w1 ⟨rfl, hb1⟩
           have q0 := (hb1.cell (p := ⟨w.heap.size, 0, none⟩) (block_lt_of_cell c0)).trans c0
           have q1 := (hb1.cell (p := ⟨w.heap.size, 1, none⟩) (block_lt_of_cell c1)).trans c1
           have q2 := (hb1.cell (p := ⟨w.heap.size, 2, none⟩) (block_lt_of_cell c2)).trans c2
           have q3 := (hb1.cell (p := ⟨w.heap.size, 3, none⟩) (block_lt_of_cell c3)).trans c3
           have q4 := (hb1.cell (p := ⟨w.heap.size, 4, none⟩) (block_lt_of_cell c4)).trans c4
           have HB1 := Lib.hid hb1
           clear hb1 c0 c1 c2 c3 c4))
      go_ret
      exact ⟨ret_int (hM.out.symm), B1.out.trans (HB1.out.mono B1.out.size)⟩
    by_cases g1 : p ≤ x
    · have hM : Hid (pageF true l p x = -1) := by unfold pageF; rw [if_neg (by omega)]; trivial
      have d1 : decide (x < p) = false := by simp; omega
      go_enter Try.func19, Try.ntmps19
      go_wp2_with fail
      generalize w.alloc (.cells #[.int .i64 l, .int .i64 p, .int .i64 e, .int .i64 g, .slice A n cap] 24) = W at b1 h1 c0 c1 c2 c3 c4 ⊢
      simp only [List.getElem?_toArray, List.getElem?_cons_succ, List.getElem?_cons_zero] at c0 c1 c2 c3 c4
      have B1 := Lib.hid b1
      have H1 := Lib.hid h1
      clear b1 h1
      go_wp2_with (first
        | (go_at_call 20
           refine (right_to true l p e g A n cap cs HB0.out _ H1.out).mono ?_
           rintro e' w1 ⟨rfl, hb1⟩
           have q0 := (hb1.cell (p := ⟨w.heap.size, 0, none⟩) (block_lt_of_cell c0)).trans c0
           have q1 := (hb1.cell (p := ⟨w.heap.size, 1, none⟩) (block_lt_of_cell c1)).trans c1
           have q2 := (hb1.cell (p := ⟨w.heap.size, 2, none⟩) (block_lt_of_cell c2)).trans c2
           have q3 := (hb1.cell (p := ⟨w.heap.size, 3, none⟩) (block_lt_of_cell c3)).trans c3
           have q4 := (hb1.cell (p := ⟨w.heap.size, 4, none⟩) (block_lt_of_cell c4)).trans c4
           have HB1 := Lib.hid hb1
           clear hb1 c0 c1 c2 c3 c4))
      go_ret
      exact ⟨ret_int (hM.out.symm), B1.out.trans (HB1.out.mono B1.out.size)⟩
    have hM : Hid (pageF true l p x = 2 + l + x) := by unfold pageF; rw [if_pos ⟨rfl, by omega, by omega⟩]; trivial
    go_enter Try.func19, Try.ntmps19
    go_wp2_with fail
    generalize w.alloc (.cells #[.int .i64 l, .int .i64 p, .int .i64 e, .int .i64 g, .slice A n cap] 24) = W at b1 h1 c0 c1 c2 c3 c4 ⊢
    simp only [List.getElem?_toArray, List.getElem?_cons_succ, List.getElem?_cons_zero] at c0 c1 c2 c3 c4
    have B1 := Lib.hid b1
    have H1 := Lib.hid h1
    clear b1 h1
    go_wp2_with (first
      | (go_at_call 20
         refine (right_to true l p e g A n cap cs HB0.out _ H1.out).mono ?_
         rintro e' w1 ⟨rfl, hb1⟩
         have q0 := (hb1.cell (p := ⟨w.heap.size, 0, none⟩) (block_lt_of_cell c0)).trans c0
         have q1 := (hb1.cell (p := ⟨w.heap.size, 1, none⟩) (block_lt_of_cell c1)).trans c1
         have q2 := (hb1.cell (p := ⟨w.heap.size, 2, none⟩) (block_lt_of_cell c2)).trans c2
         have q3 := (hb1.cell (p := ⟨w.heap.size, 3, none⟩) (block_lt_of_cell c3)).trans c3
         have q4 := (hb1.cell (p := ⟨w.heap.size, 4, none⟩) (block_lt_of_cell c4)).trans c4
         have HB1 := Lib.hid hb1
         clear hb1 c0 c1 c2 c3 c4))
    go_ret
    exact ⟨ret_int (hM.out.symm), B1.out.trans (HB1.out.mono B1.out.size)⟩

set_option maxHeartbeats 2000000 in
theorem room_to (b0 : Bool) (l p e g : Int) (A : Option Addr) (n cap : Nat) (cs : List Cmp) (hb0 : RightIff b0 l p e g cs) (hd tl : Int) (hx : i64ok hd) (hy : i64ok tl) (w : World) (h : (⟨l, p, e, g, A, n, cap, cs⟩ : Cnf).ok w) :
    Calls Try.prog 10 #[.agg #[.int .i64 l, .int .i64 p, .int .i64 e, .int .i64 g, .slice A n cap], .int .i64 hd, .int .i64 tl] w fun e w' => e = .returned (.int .i64 (roomF b0 l hd tl)) ∧ Below w.heap.size w w' := by
  obtain ⟨x0, x1⟩ := hx
  obtain ⟨y0, y1⟩ := hy
  have HB0 := Lib.hid hb0
  have b1 : Below w.heap.size w (w.alloc (.cells #[.int .i64 l, .int .i64 p, .int .i64 e, .int .i64 g, .slice A n cap] 24)) := (Below.refl _ _).alloc (Nat.le_refl _) _
  have h1 := h.over b1
  have cl := fun j => new_cell w #[.int .i64 l, .int .i64 p, .int .i64 e, .int .i64 g, .slice A n cap] 24 j
  have c0 := cl 0
  have c1 := cl 1
  have c2 := cl 2
  have c3 := cl 3
  have c4 := cl 4
  clear cl hb0 h
  cases b0
  case false =>
    have hM : Hid (roomF false l hd tl = -1) := by unfold roomF; rw [if_neg (by simp)]; trivial
    go_enter Try.func10, Try.ntmps10
    go_wp2_with fail
    generalize w.alloc (.cells #[.int .i64 l, .int .i64 p, .int .i64 e, .int .i64 g, .slice A n cap] 24) = W at b1 h1 c0 c1 c2 c3 c4 ⊢
    simp only [List.getElem?_toArray, List.getElem?_cons_succ, List.getElem?_cons_zero] at c0 c1 c2 c3 c4
    have B1 := Lib.hid b1
    have H1 := Lib.hid h1
    clear b1 h1
    go_wp2_with (first
      | (go_at_call 21
         refine (gright_to false l p e g A n cap cs HB0.out _ H1.out).mono ?_
         rintro e' w1 ⟨rfl, hb1⟩
         have q0 := (hb1.cell (p := ⟨w.heap.size, 0, none⟩) (block_lt_of_cell c0)).trans c0
         have q1 := (hb1.cell (p := ⟨w.heap.size, 1, none⟩) (block_lt_of_cell c1)).trans c1
         have q2 := (hb1.cell (p := ⟨w.heap.size, 2, none⟩) (block_lt_of_cell c2)).trans c2
         have q3 := (hb1.cell (p := ⟨w.heap.size, 3, none⟩) (block_lt_of_cell c3)).trans c3
         have q4 := (hb1.cell (p := ⟨w.heap.size, 4, none⟩) (block_lt_of_cell c4)).trans c4
         have HB1 := Lib.hid hb1
         clear hb1 c0 c1 c2 c3 c4))
    go_ret
    exact ⟨ret_int (hM.out.symm), B1.out.trans (HB1.out.mono B1.out.size)⟩
  case true =>
    have R := Iff.mp HB0.out rfl
    have hl := R.hl
    have hp := R.hp
    clear R
    by_cases g0 : hd < 0 ∨ 281474976710656 < hd
    · have hM : Hid (roomF true l hd tl = -1) := by unfold roomF; rw [if_neg (by omega)]; trivial
      have hP1 : placeB hd = false := decide_eq_false (by omega)
      go_enter Try.func10, Try.ntmps10
      go_wp2_with fail
      generalize w.alloc (.cells #[.int .i64 l, .int .i64 p, .int .i64 e, .int .i64 g, .slice A n cap] 24) = W at b1 h1 c0 c1 c2 c3 c4 ⊢
      simp only [List.getElem?_toArray, List.getElem?_cons_succ, List.getElem?_cons_zero] at c0 c1 c2 c3 c4
      have B1 := Lib.hid b1
      have H1 := Lib.hid h1
      clear b1 h1
      go_wp2_with (first
        | (go_at_call 21
           refine (gright_to true l p e g A n cap cs HB0.out _ H1.out).mono ?_
           rintro e' w1 ⟨rfl, hb1⟩
           have q0 := (hb1.cell (p := ⟨w.heap.size, 0, none⟩) (block_lt_of_cell c0)).trans c0
           have q1 := (hb1.cell (p := ⟨w.heap.size, 1, none⟩) (block_lt_of_cell c1)).trans c1
           have q2 := (hb1.cell (p := ⟨w.heap.size, 2, none⟩) (block_lt_of_cell c2)).trans c2
           have q3 := (hb1.cell (p := ⟨w.heap.size, 3, none⟩) (block_lt_of_cell c3)).trans c3
           have q4 := (hb1.cell (p := ⟨w.heap.size, 4, none⟩) (block_lt_of_cell c4)).trans c4
           have HB1 := Lib.hid hb1
           clear hb1 c0 c1 c2 c3 c4)
        | (go_at_call 22; refine (place_any _ _).mono ?_; rintro e' w' ⟨rfl, rfl⟩))
      go_ret
      exact ⟨ret_int (hM.out.symm), B1.out.trans (HB1.out.mono B1.out.size)⟩
    by_cases g1 : tl < 0 ∨ 281474976710656 < tl
    · have hM : Hid (roomF true l hd tl = -1) := by unfold roomF; rw [if_neg (by omega)]; trivial
      have hP1 : placeB hd = true := decide_eq_true (by omega)
      have hP2 : placeB tl = false := decide_eq_false (by omega)
      go_enter Try.func10, Try.ntmps10
      go_wp2_with fail
      generalize w.alloc (.cells #[.int .i64 l, .int .i64 p, .int .i64 e, .int .i64 g, .slice A n cap] 24) = W at b1 h1 c0 c1 c2 c3 c4 ⊢
      simp only [List.getElem?_toArray, List.getElem?_cons_succ, List.getElem?_cons_zero] at c0 c1 c2 c3 c4
      have B1 := Lib.hid b1
      have H1 := Lib.hid h1
      clear b1 h1
      go_wp2_with (first
        | (go_at_call 21
           refine (gright_to true l p e g A n cap cs HB0.out _ H1.out).mono ?_
           rintro e' w1 ⟨rfl, hb1⟩
           have q0 := (hb1.cell (p := ⟨w.heap.size, 0, none⟩) (block_lt_of_cell c0)).trans c0
           have q1 := (hb1.cell (p := ⟨w.heap.size, 1, none⟩) (block_lt_of_cell c1)).trans c1
           have q2 := (hb1.cell (p := ⟨w.heap.size, 2, none⟩) (block_lt_of_cell c2)).trans c2
           have q3 := (hb1.cell (p := ⟨w.heap.size, 3, none⟩) (block_lt_of_cell c3)).trans c3
           have q4 := (hb1.cell (p := ⟨w.heap.size, 4, none⟩) (block_lt_of_cell c4)).trans c4
           have HB1 := Lib.hid hb1
           clear hb1 c0 c1 c2 c3 c4)
        | (go_at_call 22; refine (place_any _ _).mono ?_; rintro e' w' ⟨rfl, rfl⟩))
      go_ret
      exact ⟨ret_int (hM.out.symm), B1.out.trans (HB1.out.mono B1.out.size)⟩
    by_cases g2 : tl < hd
    · have hM : Hid (roomF true l hd tl = -1) := by unfold roomF; rw [if_neg (by omega)]; trivial
      have hP1 : placeB hd = true := decide_eq_true (by omega)
      have hP2 : placeB tl = true := decide_eq_true (by omega)
      go_enter Try.func10, Try.ntmps10
      go_wp2_with fail
      generalize w.alloc (.cells #[.int .i64 l, .int .i64 p, .int .i64 e, .int .i64 g, .slice A n cap] 24) = W at b1 h1 c0 c1 c2 c3 c4 ⊢
      simp only [List.getElem?_toArray, List.getElem?_cons_succ, List.getElem?_cons_zero] at c0 c1 c2 c3 c4
      have B1 := Lib.hid b1
      have H1 := Lib.hid h1
      clear b1 h1
      go_wp2_with (first
        | (go_at_call 21
           refine (gright_to true l p e g A n cap cs HB0.out _ H1.out).mono ?_
           rintro e' w1 ⟨rfl, hb1⟩
           have q0 := (hb1.cell (p := ⟨w.heap.size, 0, none⟩) (block_lt_of_cell c0)).trans c0
           have q1 := (hb1.cell (p := ⟨w.heap.size, 1, none⟩) (block_lt_of_cell c1)).trans c1
           have q2 := (hb1.cell (p := ⟨w.heap.size, 2, none⟩) (block_lt_of_cell c2)).trans c2
           have q3 := (hb1.cell (p := ⟨w.heap.size, 3, none⟩) (block_lt_of_cell c3)).trans c3
           have q4 := (hb1.cell (p := ⟨w.heap.size, 4, none⟩) (block_lt_of_cell c4)).trans c4
           have HB1 := Lib.hid hb1
           clear hb1 c0 c1 c2 c3 c4)
        | (go_at_call 22; refine (place_any _ _).mono ?_; rintro e' w' ⟨rfl, rfl⟩))
      go_ret
      exact ⟨ret_int (hM.out.symm), B1.out.trans (HB1.out.mono B1.out.size)⟩
    by_cases g3 : l < tl - hd
    · have hM : Hid (roomF true l hd tl = -1) := by unfold roomF; rw [if_neg (by omega)]; trivial
      have hP1 : placeB hd = true := decide_eq_true (by omega)
      have hP2 : placeB tl = true := decide_eq_true (by omega)
      have d3 : decide (tl < hd) = false := by simp; omega
      go_enter Try.func10, Try.ntmps10
      go_wp2_with fail
      generalize w.alloc (.cells #[.int .i64 l, .int .i64 p, .int .i64 e, .int .i64 g, .slice A n cap] 24) = W at b1 h1 c0 c1 c2 c3 c4 ⊢
      simp only [List.getElem?_toArray, List.getElem?_cons_succ, List.getElem?_cons_zero] at c0 c1 c2 c3 c4
      have B1 := Lib.hid b1
      have H1 := Lib.hid h1
      clear b1 h1
      go_wp2_with (first
        | (go_at_call 21
           refine (gright_to true l p e g A n cap cs HB0.out _ H1.out).mono ?_
           rintro e' w1 ⟨rfl, hb1⟩
           have q0 := (hb1.cell (p := ⟨w.heap.size, 0, none⟩) (block_lt_of_cell c0)).trans c0
           have q1 := (hb1.cell (p := ⟨w.heap.size, 1, none⟩) (block_lt_of_cell c1)).trans c1
           have q2 := (hb1.cell (p := ⟨w.heap.size, 2, none⟩) (block_lt_of_cell c2)).trans c2
           have q3 := (hb1.cell (p := ⟨w.heap.size, 3, none⟩) (block_lt_of_cell c3)).trans c3
           have q4 := (hb1.cell (p := ⟨w.heap.size, 4, none⟩) (block_lt_of_cell c4)).trans c4
           have HB1 := Lib.hid hb1
           clear hb1 c0 c1 c2 c3 c4)
        | (go_at_call 22; refine (place_any _ _).mono ?_; rintro e' w' ⟨rfl, rfl⟩))
      go_ret
      exact ⟨ret_int (hM.out.symm), B1.out.trans (HB1.out.mono B1.out.size)⟩
    have hM : Hid (roomF true l hd tl = l - (tl - hd)) := by unfold roomF; rw [if_pos ⟨rfl, by omega, by omega, by omega, by omega, by omega, by omega⟩]; trivial
    have hP1 : placeB hd = true := decide_eq_true (by omega)
    have hP2 : placeB tl = true := decide_eq_true (by omega)
    have d3 : decide (tl < hd) = false := by simp; omega
    have d4 : decide (l < tl - hd) = false := by simp; omega
    go_enter Try.func10, Try.ntmps10
    go_wp2_with fail
    generalize w.alloc (.cells #[.int .i64 l, .int .i64 p, .int .i64 e, .int .i64 g, .slice A n cap] 24) = W at b1 h1 c0 c1 c2 c3 c4 ⊢
    simp only [List.getElem?_toArray, List.getElem?_cons_succ, List.getElem?_cons_zero] at c0 c1 c2 c3 c4
    have B1 := Lib.hid b1
    have H1 := Lib.hid h1
    clear b1 h1
    go_wp2_with (first
      | (go_at_call 21
         refine (gright_to true l p e g A n cap cs HB0.out _ H1.out).mono ?_
         rintro e' w1 ⟨rfl, hb1⟩
         have q0 := (hb1.cell (p := ⟨w.heap.size, 0, none⟩) (block_lt_of_cell c0)).trans c0
         have q1 := (hb1.cell (p := ⟨w.heap.size, 1, none⟩) (block_lt_of_cell c1)).trans c1
         have q2 := (hb1.cell (p := ⟨w.heap.size, 2, none⟩) (block_lt_of_cell c2)).trans c2
         have q3 := (hb1.cell (p := ⟨w.heap.size, 3, none⟩) (block_lt_of_cell c3)).trans c3
         have q4 := (hb1.cell (p := ⟨w.heap.size, 4, none⟩) (block_lt_of_cell c4)).trans c4
         have HB1 := Lib.hid hb1
         clear hb1 c0 c1 c2 c3 c4)
      | (go_at_call 22; refine (place_any _ _).mono ?_; rintro e' w' ⟨rfl, rfl⟩))
    go_ret
    exact ⟨ret_int (hM.out.symm), B1.out.trans (HB1.out.mono B1.out.size)⟩

set_option maxHeartbeats 2000000 in
theorem rroom_to (b0 : Bool) (l p e g : Int) (A : Option Addr) (n cap : Nat) (cs : List Cmp) (hb0 : RightIff b0 l p e g cs) (hd tl : Int) (hx : i64ok hd) (hy : i64ok tl) (w : World) (h : (⟨l, p, e, g, A, n, cap, cs⟩ : Cnf).ok w) :
    Calls Try.prog 11 #[.agg #[.int .i64 l, .int .i64 p, .int .i64 e, .int .i64 g, .slice A n cap], .int .i64 hd, .int .i64 tl] w fun e w' => e = .returned (.int .i64 (roomF b0 l hd tl)) ∧ Below w.heap.size w w' := by
  obtain ⟨x0, x1⟩ := hx
  obtain ⟨y0, y1⟩ := hy
  have HB0 := Lib.hid hb0
  have b1 : Below w.heap.size w (w.alloc (.cells #[.int .i64 l, .int .i64 p, .int .i64 e, .int .i64 g, .slice A n cap] 24)) := (Below.refl _ _).alloc (Nat.le_refl _) _
  have h1 := h.over b1
  have cl := fun j => new_cell w #[.int .i64 l, .int .i64 p, .int .i64 e, .int .i64 g, .slice A n cap] 24 j
  have c0 := cl 0
  have c1 := cl 1
  have c2 := cl 2
  have c3 := cl 3
  have c4 := cl 4
  clear cl hb0 h
  cases b0
  case false =>
    have hM : Hid (roomF false l hd tl = -1) := by unfold roomF; rw [if_neg (by simp)]; trivial
    go_enter Try.func11, Try.ntmps11
    go_wp2_with fail
    generalize w.alloc (.cells #[.int .i64 l, .int .i64 p, .int .i64 e, .int .i64 g, .slice A n cap] 24) = W at b1 h1 c0 c1 c2 c3 c4 ⊢
    simp only [List.getElem?_toArray, List.getElem?_cons_succ, List.getElem?_cons_zero] at c0 c1 c2 c3 c4
    have B1 := Lib.hid b1
    have H1 := Lib.hid h1
    clear b1 h1
    go_wp2_with (first
      | (go_at_call 20
         refine (right_to false l p e g A n cap cs HB0.out _ H1.out).mono ?_
         rintro e' w1 ⟨rfl, hb1⟩
         have q0 := (hb1.cell (p := ⟨w.heap.size, 0, none⟩) (block_lt_of_cell c0)).trans c0
         have q1 := (hb1.cell (p := ⟨w.heap.size, 1, none⟩) (block_lt_of_cell c1)).trans c1
         have q2 := (hb1.cell (p := ⟨w.heap.size, 2, none⟩) (block_lt_of_cell c2)).trans c2
         have q3 := (hb1.cell (p := ⟨w.heap.size, 3, none⟩) (block_lt_of_cell c3)).trans c3
         have q4 := (hb1.cell (p := ⟨w.heap.size, 4, none⟩) (block_lt_of_cell c4)).trans c4
         have HB1 := Lib.hid hb1
         clear hb1 c0 c1 c2 c3 c4))
    go_ret
    exact ⟨ret_int (hM.out.symm), B1.out.trans (HB1.out.mono B1.out.size)⟩
  case true =>
    have R := Iff.mp HB0.out rfl
    have hl := R.hl
    have hp := R.hp
    clear R
    by_cases g0 : hd < 0 ∨ 281474976710656 < hd
    · have hM : Hid (roomF true l hd tl = -1) := by unfold roomF; rw [if_neg (by omega)]; trivial
      have hP1 : placeB hd = false := decide_eq_false (by omega)
      go_enter Try.func11, Try.ntmps11
      go_wp2_with fail
      generalize w.alloc (.cells #[.int .i64 l, .int .i64 p, .int .i64 e, .int .i64 g, .slice A n cap] 24) = W at b1 h1 c0 c1 c2 c3 c4 ⊢
      simp only [List.getElem?_toArray, List.getElem?_cons_succ, List.getElem?_cons_zero] at c0 c1 c2 c3 c4
      have B1 := Lib.hid b1
      have H1 := Lib.hid h1
      clear b1 h1
      go_wp2_with (first
        | (go_at_call 20
           refine (right_to true l p e g A n cap cs HB0.out _ H1.out).mono ?_
           rintro e' w1 ⟨rfl, hb1⟩
           have q0 := (hb1.cell (p := ⟨w.heap.size, 0, none⟩) (block_lt_of_cell c0)).trans c0
           have q1 := (hb1.cell (p := ⟨w.heap.size, 1, none⟩) (block_lt_of_cell c1)).trans c1
           have q2 := (hb1.cell (p := ⟨w.heap.size, 2, none⟩) (block_lt_of_cell c2)).trans c2
           have q3 := (hb1.cell (p := ⟨w.heap.size, 3, none⟩) (block_lt_of_cell c3)).trans c3
           have q4 := (hb1.cell (p := ⟨w.heap.size, 4, none⟩) (block_lt_of_cell c4)).trans c4
           have HB1 := Lib.hid hb1
           clear hb1 c0 c1 c2 c3 c4)
        | (go_at_call 23; refine (rplace_any _ _).mono ?_; rintro e' w' ⟨rfl, rfl⟩))
      go_ret
      exact ⟨ret_int (hM.out.symm), B1.out.trans (HB1.out.mono B1.out.size)⟩
    by_cases g1 : tl < 0 ∨ 281474976710656 < tl
    · have hM : Hid (roomF true l hd tl = -1) := by unfold roomF; rw [if_neg (by omega)]; trivial
      have hP1 : placeB hd = true := decide_eq_true (by omega)
      have hP2 : placeB tl = false := decide_eq_false (by omega)
      go_enter Try.func11, Try.ntmps11
      go_wp2_with fail
      generalize w.alloc (.cells #[.int .i64 l, .int .i64 p, .int .i64 e, .int .i64 g, .slice A n cap] 24) = W at b1 h1 c0 c1 c2 c3 c4 ⊢
      simp only [List.getElem?_toArray, List.getElem?_cons_succ, List.getElem?_cons_zero] at c0 c1 c2 c3 c4
      have B1 := Lib.hid b1
      have H1 := Lib.hid h1
      clear b1 h1
      go_wp2_with (first
        | (go_at_call 20
           refine (right_to true l p e g A n cap cs HB0.out _ H1.out).mono ?_
           rintro e' w1 ⟨rfl, hb1⟩
           have q0 := (hb1.cell (p := ⟨w.heap.size, 0, none⟩) (block_lt_of_cell c0)).trans c0
           have q1 := (hb1.cell (p := ⟨w.heap.size, 1, none⟩) (block_lt_of_cell c1)).trans c1
           have q2 := (hb1.cell (p := ⟨w.heap.size, 2, none⟩) (block_lt_of_cell c2)).trans c2
           have q3 := (hb1.cell (p := ⟨w.heap.size, 3, none⟩) (block_lt_of_cell c3)).trans c3
           have q4 := (hb1.cell (p := ⟨w.heap.size, 4, none⟩) (block_lt_of_cell c4)).trans c4
           have HB1 := Lib.hid hb1
           clear hb1 c0 c1 c2 c3 c4)
        | (go_at_call 23; refine (rplace_any _ _).mono ?_; rintro e' w' ⟨rfl, rfl⟩))
      go_ret
      exact ⟨ret_int (hM.out.symm), B1.out.trans (HB1.out.mono B1.out.size)⟩
    by_cases g2 : tl < hd
    · have hM : Hid (roomF true l hd tl = -1) := by unfold roomF; rw [if_neg (by omega)]; trivial
      have hP1 : placeB hd = true := decide_eq_true (by omega)
      have hP2 : placeB tl = true := decide_eq_true (by omega)
      go_enter Try.func11, Try.ntmps11
      go_wp2_with fail
      generalize w.alloc (.cells #[.int .i64 l, .int .i64 p, .int .i64 e, .int .i64 g, .slice A n cap] 24) = W at b1 h1 c0 c1 c2 c3 c4 ⊢
      simp only [List.getElem?_toArray, List.getElem?_cons_succ, List.getElem?_cons_zero] at c0 c1 c2 c3 c4
      have B1 := Lib.hid b1
      have H1 := Lib.hid h1
      clear b1 h1
      go_wp2_with (first
        | (go_at_call 20
           refine (right_to true l p e g A n cap cs HB0.out _ H1.out).mono ?_
           rintro e' w1 ⟨rfl, hb1⟩
           have q0 := (hb1.cell (p := ⟨w.heap.size, 0, none⟩) (block_lt_of_cell c0)).trans c0
           have q1 := (hb1.cell (p := ⟨w.heap.size, 1, none⟩) (block_lt_of_cell c1)).trans c1
           have q2 := (hb1.cell (p := ⟨w.heap.size, 2, none⟩) (block_lt_of_cell c2)).trans c2
           have q3 := (hb1.cell (p := ⟨w.heap.size, 3, none⟩) (block_lt_of_cell c3)).trans c3
           have q4 := (hb1.cell (p := ⟨w.heap.size, 4, none⟩) (block_lt_of_cell c4)).trans c4
           have HB1 := Lib.hid hb1
           clear hb1 c0 c1 c2 c3 c4)
        | (go_at_call 23; refine (rplace_any _ _).mono ?_; rintro e' w' ⟨rfl, rfl⟩))
      go_ret
      exact ⟨ret_int (hM.out.symm), B1.out.trans (HB1.out.mono B1.out.size)⟩
    by_cases g3 : l < tl - hd
    · have hM : Hid (roomF true l hd tl = -1) := by unfold roomF; rw [if_neg (by omega)]; trivial
      have hP1 : placeB hd = true := decide_eq_true (by omega)
      have hP2 : placeB tl = true := decide_eq_true (by omega)
      have d3 : decide (tl < hd) = false := by simp; omega
      have d4 : hd + l < tl := by omega
      go_enter Try.func11, Try.ntmps11
      go_wp2_with fail
      generalize w.alloc (.cells #[.int .i64 l, .int .i64 p, .int .i64 e, .int .i64 g, .slice A n cap] 24) = W at b1 h1 c0 c1 c2 c3 c4 ⊢
      simp only [List.getElem?_toArray, List.getElem?_cons_succ, List.getElem?_cons_zero] at c0 c1 c2 c3 c4
      have B1 := Lib.hid b1
      have H1 := Lib.hid h1
      clear b1 h1
      go_wp2_with (first
        | (go_at_call 20
           refine (right_to true l p e g A n cap cs HB0.out _ H1.out).mono ?_
           rintro e' w1 ⟨rfl, hb1⟩
           have q0 := (hb1.cell (p := ⟨w.heap.size, 0, none⟩) (block_lt_of_cell c0)).trans c0
           have q1 := (hb1.cell (p := ⟨w.heap.size, 1, none⟩) (block_lt_of_cell c1)).trans c1
           have q2 := (hb1.cell (p := ⟨w.heap.size, 2, none⟩) (block_lt_of_cell c2)).trans c2
           have q3 := (hb1.cell (p := ⟨w.heap.size, 3, none⟩) (block_lt_of_cell c3)).trans c3
           have q4 := (hb1.cell (p := ⟨w.heap.size, 4, none⟩) (block_lt_of_cell c4)).trans c4
           have HB1 := Lib.hid hb1
           clear hb1 c0 c1 c2 c3 c4)
        | (go_at_call 23; refine (rplace_any _ _).mono ?_; rintro e' w' ⟨rfl, rfl⟩))
      go_ret
      exact ⟨ret_int (hM.out.symm), B1.out.trans (HB1.out.mono B1.out.size)⟩
    have hM : Hid (roomF true l hd tl = hd + l - tl) := by unfold roomF; rw [if_pos ⟨rfl, by omega, by omega, by omega, by omega, by omega, by omega⟩]; rw [show l - (tl - hd) = hd + l - tl from by omega]; trivial
    have hP1 : placeB hd = true := decide_eq_true (by omega)
    have hP2 : placeB tl = true := decide_eq_true (by omega)
    have d3 : decide (tl < hd) = false := by simp; omega
    have d4 : decide (hd + l < tl) = false := by simp; omega
    go_enter Try.func11, Try.ntmps11
    go_wp2_with fail
    generalize w.alloc (.cells #[.int .i64 l, .int .i64 p, .int .i64 e, .int .i64 g, .slice A n cap] 24) = W at b1 h1 c0 c1 c2 c3 c4 ⊢
    simp only [List.getElem?_toArray, List.getElem?_cons_succ, List.getElem?_cons_zero] at c0 c1 c2 c3 c4
    have B1 := Lib.hid b1
    have H1 := Lib.hid h1
    clear b1 h1
    go_wp2_with (first
      | (go_at_call 20
         refine (right_to true l p e g A n cap cs HB0.out _ H1.out).mono ?_
         rintro e' w1 ⟨rfl, hb1⟩
         have q0 := (hb1.cell (p := ⟨w.heap.size, 0, none⟩) (block_lt_of_cell c0)).trans c0
         have q1 := (hb1.cell (p := ⟨w.heap.size, 1, none⟩) (block_lt_of_cell c1)).trans c1
         have q2 := (hb1.cell (p := ⟨w.heap.size, 2, none⟩) (block_lt_of_cell c2)).trans c2
         have q3 := (hb1.cell (p := ⟨w.heap.size, 3, none⟩) (block_lt_of_cell c3)).trans c3
         have q4 := (hb1.cell (p := ⟨w.heap.size, 4, none⟩) (block_lt_of_cell c4)).trans c4
         have HB1 := Lib.hid hb1
         clear hb1 c0 c1 c2 c3 c4)
      | (go_at_call 23; refine (rplace_any _ _).mono ?_; rintro e' w' ⟨rfl, rfl⟩))
    go_ret
    exact ⟨ret_int (hM.out.symm), B1.out.trans (HB1.out.mono B1.out.size)⟩

theorem sectors_to (l p e g : Int) (A : Option Addr) (n cap : Nat) (w : World) (hl : 2 ≤ l ∧ l ≤ 1024) (hp : 4 ≤ p ∧ p ≤ 1024) :
    Calls Try.prog 24 #[.agg #[.int .i64 l, .int .i64 p, .int .i64 e, .int .i64 g, .slice A n cap]] w fun e w' => e = .returned (.int .i64 (2 + l + p)) ∧ Below w.heap.size w w' := by
  go_enter Try.func24, Try.ntmps24
  go_wp2
  go_ret
  exact ⟨rfl, (Below.refl _ _).alloc (Nat.le_refl _) _⟩

end Go.Proofs.Ytohlcopnifmjoad
