/- geom: the law that no two things lie in one sector. -/
import Derived.Test.YtohlcopnifmjoadLaws
import Derived.Deep.DeepCutAuto
namespace Go.Proofs.Ytohlcopnifmjoad
open Go.RowKit

/-! ### plain facts -/
def LogAt (l a X : Int) : Prop := X = -1 ∨ (0 ≤ a ∧ a ≤ 281474976710656 ∧ X = 2 + a % l ∧ 2 ≤ X ∧ X < 2 + l)
def PageAt (l p q U : Int) : Prop := U = -1 ∨ (0 ≤ q ∧ q < p ∧ U = 2 + l + q)
theorem logAt (l a : Int) (hl : 2 ≤ l) : LogAt l a (logF true l a) := by
  unfold LogAt logF
  by_cases h : 0 ≤ a ∧ a ≤ 281474976710656
  · right
    rw [if_pos ⟨rfl, h.1, h.2⟩]
    have := Int.emod_nonneg a (by omega : l ≠ 0)
    have := Int.emod_lt_of_pos a (by omega : 0 < l)
    exact ⟨h.1, h.2, rfl, by omega, by omega⟩
  · left
    rw [if_neg (by omega)]
theorem pageAt (l p q : Int) : PageAt l p q (pageF true l p q) := by
  unfold PageAt pageF
  by_cases h : 0 ≤ q ∧ q < p
  · right
    rw [if_pos ⟨rfl, h.1, h.2⟩]
    exact ⟨h.1, h.2, rfl⟩
  · left
    rw [if_neg (by omega)]
theorem same_rem (l a b : Int) (h : a % l = b % l) : (a - b).tmod l = 0 ∧ (a - b) % l = 0 := by
  have hd : l ∣ a - b := by
    have h1 := Int.mul_ediv_add_emod a l
    have h2 := Int.mul_ediv_add_emod b l
    exact ⟨a / l - b / l, by rw [Int.mul_sub]; omega⟩
  exact ⟨Int.tmod_eq_zero_of_dvd hd, Int.emod_eq_zero_of_dvd hd⟩
/-- what lies in a sector -/
def WhatAt (l p sc K M : Int) : Prop :=
  (sc < 0 ∧ K = 0) ∨ (2 + l + p ≤ sc ∧ K = 0) ∨ (0 ≤ sc ∧ sc < 2 ∧ K = 3 ∧ superF M = sc) ∨ (2 ≤ sc ∧ sc < 2 + l ∧ K = 1 ∧ i64ok M ∧ logF true l M = sc) ∨ (2 + l ≤ sc ∧ sc < 2 + l + p ∧ K = 2 ∧ i64ok M ∧ pageF true l p M = sc)
theorem whatAt (l p sc : Int) (hl : 2 ≤ l ∧ l ≤ 1024) (hp : 4 ≤ p ∧ p ≤ 1024) : WhatAt l p sc (whatK true l p sc) (whatN true l p sc) := by
  unfold WhatAt whatK whatN
  by_cases h0 : sc < 0
  · left
    exact ⟨h0, by rw [if_neg (by omega)]⟩
  have e : (true = true ∧ 0 ≤ sc) := ⟨rfl, by omega⟩
  rw [if_pos e, if_pos e]
  by_cases h1 : sc < 2
  · right; right; left
    rw [if_pos h1, if_pos h1]
    exact ⟨by omega, h1, rfl, by unfold superF; rw [if_pos (by omega)]⟩
  by_cases h2 : sc < 2 + l
  · right; right; right; left
    rw [if_neg h1, if_pos h2, if_neg h1, if_pos h2]
    refine ⟨by omega, h2, rfl, by unfold i64ok; omega, ?_⟩
    unfold logF
    rw [if_pos ⟨rfl, by omega, by omega⟩, Int.emod_eq_of_lt (by omega) (by omega)]
    omega
  by_cases h3 : sc < 2 + l + p
  · right; right; right; right
    rw [if_neg h1, if_neg h2, if_pos h3, if_neg h1, if_neg h2, if_pos h3]
    refine ⟨by omega, h3, rfl, by unfold i64ok; omega, ?_⟩
    unfold pageF
    rw [if_pos ⟨rfl, by omega, by omega⟩]
    omega
  · right; left
    exact ⟨by omega, by rw [if_neg h1, if_neg h2, if_neg h3]⟩

set_option maxRecDepth 100000 in
set_option maxHeartbeats 16000000 in
theorem apart_any (l p e g : Int) (A : Option Addr) (n cap : Nat) (cs : List Cmp) (a b p' q sc : Int) (ha : i64ok a) (hb : i64ok b) (hp' : i64ok p') (hq : i64ok q) (hz : i64ok sc) (w : World) (h : (⟨l, p, e, g, A, n, cap, cs⟩ : Cnf).ok w) :
    Calls Try.prog 5 #[.agg #[.int .i64 l, .int .i64 p, .int .i64 e, .int .i64 g, .slice A n cap], .int .i64 a, .int .i64 b, .int .i64 p', .int .i64 q, .int .i64 sc] w fun e w' => e = .returned (.bool true) ∧ Below w.heap.size w w' := by
  obtain ⟨b0, hb0⟩ := right_dec l p e g cs
  have b1 : Below w.heap.size w (w.alloc (.cells #[.int .i64 l, .int .i64 p, .int .i64 e, .int .i64 g, .slice A n cap] 24)) := (Below.refl _ _).alloc (Nat.le_refl _) _
  have h1 := h.over b1
  have cl := fun j => new_cell w #[.int .i64 l, .int .i64 p, .int .i64 e, .int .i64 g, .slice A n cap] 24 j
  have c0 := cl 0
  have c1 := cl 1
  have c2 := cl 2
  have c3 := cl 3
  have c4 := cl 4
  clear cl h
  go_enter Try.func5, Try.ntmps5
  go_wp2_with fail
  generalize w.alloc (.cells #[.int .i64 l, .int .i64 p, .int .i64 e, .int .i64 g, .slice A n cap] 24) = W at b1 h1 c0 c1 c2 c3 c4 ⊢
  simp only [List.getElem?_toArray, List.getElem?_cons_succ, List.getElem?_cons_zero] at c0 c1 c2 c3 c4
  have B1 := Lib.hid b1
  have H1 := Lib.hid h1
  clear b1 h1
  cases hm : muchB cs
  case true =>
    have HM := Lib.hid hm
    clear hm
    refine (much_any l p e g A n cap cs _ H1.out).mono ?_
    rintro e' w1 ⟨rfl, hb1⟩
    rw [HM.out]
    have HB1 := Lib.hid hb1
    clear hb1
    go_wp2_with fail
    refine (live_any _).mono ?_
    rintro e' w2 ⟨rfl, hb2⟩
    go_wp2_with fail
    go_ret
    exact ⟨rfl, B1.out.trans ((HB1.out.trans (hb2.mono HB1.out.size)).mono B1.out.size)⟩
  case false =>
    have HM := Lib.hid hm
    clear hm
    refine (much_any l p e g A n cap cs _ H1.out).mono ?_
    rintro e' w1 ⟨rfl, hb1⟩
    rw [HM.out]
    have q0 := (hb1.cell (p := ⟨w.heap.size, 0, none⟩) (block_lt_of_cell c0)).trans c0
    have q1 := (hb1.cell (p := ⟨w.heap.size, 1, none⟩) (block_lt_of_cell c1)).trans c1
    have q2 := (hb1.cell (p := ⟨w.heap.size, 2, none⟩) (block_lt_of_cell c2)).trans c2
    have q3 := (hb1.cell (p := ⟨w.heap.size, 3, none⟩) (block_lt_of_cell c3)).trans c3
    have q4 := (hb1.cell (p := ⟨w.heap.size, 4, none⟩) (block_lt_of_cell c4)).trans c4
    have HB1 := Lib.hid hb1
    have HOK1 := Lib.hid (H1.out.over hb1)
    clear hb1 c0 c1 c2 c3 c4
    go_wp2_with fail
    cases b0
    case false =>
      refine (right_to false l p e g A n cap cs hb0 _ HOK1.out).mono ?_
      rintro e' w2 ⟨rfl, hb2⟩
      have HB2 := Lib.hid (HB1.out.trans (hb2.mono HB1.out.size))
      clear hb2
      go_wp2_with fail
      refine (live_any _).mono ?_
      rintro e' w3 ⟨rfl, hb3⟩
      have HB3 := Lib.hid (HB2.out.trans (hb3.mono HB2.out.size))
      clear hb3
      go_wp2
      go_ret
      exact ⟨rfl, B1.out.trans (HB3.out.mono B1.out.size)⟩
    case true =>
      have R := Iff.mp hb0 rfl
      have hl := R.hl
      have hp := R.hp
      clear R
      refine (right_to true l p e g A n cap cs hb0  _ (HOK1.out)).mono ?_
      rintro e' w2 ⟨rfl, hb2⟩
      have q0 := (hb2.cell (p := ⟨w.heap.size, 0, none⟩) (block_lt_of_cell q0)).trans q0
      have q1 := (hb2.cell (p := ⟨w.heap.size, 1, none⟩) (block_lt_of_cell q1)).trans q1
      have q2 := (hb2.cell (p := ⟨w.heap.size, 2, none⟩) (block_lt_of_cell q2)).trans q2
      have q3 := (hb2.cell (p := ⟨w.heap.size, 3, none⟩) (block_lt_of_cell q3)).trans q3
      have q4 := (hb2.cell (p := ⟨w.heap.size, 4, none⟩) (block_lt_of_cell q4)).trans q4
      have HB2 := Lib.hid ((HB1.out).trans (hb2.mono (HB1.out).size))
      have HOK2 := Lib.hid ((HOK1.out).over hb2)
      clear hb2
      go_wp2_with fail
      have tok3 : True := trivial
      have tok5 : True := trivial
      go_region_held3 (fun w' => w'.cell? ⟨w.heap.size, 0, none⟩ = some (.int .i64 l) ∧ w'.cell? ⟨w.heap.size, 1, none⟩ = some (.int .i64 p) ∧ w'.cell? ⟨w.heap.size, 2, none⟩ = some (.int .i64 e) ∧ w'.cell? ⟨w.heap.size, 3, none⟩ = some (.int .i64 g) ∧
            w'.cell? ⟨w.heap.size, 4, none⟩ = some (.slice A n cap))
          (go_keep)
        (first
          | (go_at_call 16
             have _t := tok3
             refine (log_to true l p e g A n cap cs hb0 a ha _ (HOK2.out.drew)).mono ?_
             rintro e' w3 ⟨rfl, hb3⟩
             have q0 := (hb3.cell (p := ⟨w.heap.size, 0, none⟩) (block_lt_of_cell q0)).trans q0
             have q1 := (hb3.cell (p := ⟨w.heap.size, 1, none⟩) (block_lt_of_cell q1)).trans q1
             have q2 := (hb3.cell (p := ⟨w.heap.size, 2, none⟩) (block_lt_of_cell q2)).trans q2
             have q3 := (hb3.cell (p := ⟨w.heap.size, 3, none⟩) (block_lt_of_cell q3)).trans q3
             have q4 := (hb3.cell (p := ⟨w.heap.size, 4, none⟩) (block_lt_of_cell q4)).trans q4
             have HB3 := Lib.hid ((HB2.out.drew).trans (hb3.mono (HB2.out.drew).size))
             have HOK3 := Lib.hid ((HOK2.out.drew).over hb3)
             clear hb3 tok3 _t)
          | (go_at_call 16
             refine (log_to true l p e g A n cap cs hb0 b hb _ (HOK3.out)).mono ?_
             rintro e' w4 ⟨rfl, hb4⟩
             have q0 := (hb4.cell (p := ⟨w.heap.size, 0, none⟩) (block_lt_of_cell q0)).trans q0
             have q1 := (hb4.cell (p := ⟨w.heap.size, 1, none⟩) (block_lt_of_cell q1)).trans q1
             have q2 := (hb4.cell (p := ⟨w.heap.size, 2, none⟩) (block_lt_of_cell q2)).trans q2
             have q3 := (hb4.cell (p := ⟨w.heap.size, 3, none⟩) (block_lt_of_cell q3)).trans q3
             have q4 := (hb4.cell (p := ⟨w.heap.size, 4, none⟩) (block_lt_of_cell q4)).trans q4
             have HB4 := Lib.hid ((HB3.out).trans (hb4.mono (HB3.out).size))
             have HOK4 := Lib.hid ((HOK3.out).over hb4)
             clear hb4)
          | (go_at_call 18
             have _t := tok5
             refine (page_to true l p e g A n cap cs hb0 p' hp' _ (HOK4.out)).mono ?_
             rintro e' w5 ⟨rfl, hb5⟩
             have q0 := (hb5.cell (p := ⟨w.heap.size, 0, none⟩) (block_lt_of_cell q0)).trans q0
             have q1 := (hb5.cell (p := ⟨w.heap.size, 1, none⟩) (block_lt_of_cell q1)).trans q1
             have q2 := (hb5.cell (p := ⟨w.heap.size, 2, none⟩) (block_lt_of_cell q2)).trans q2
             have q3 := (hb5.cell (p := ⟨w.heap.size, 3, none⟩) (block_lt_of_cell q3)).trans q3
             have q4 := (hb5.cell (p := ⟨w.heap.size, 4, none⟩) (block_lt_of_cell q4)).trans q4
             have HB5 := Lib.hid ((HB4.out).trans (hb5.mono (HB4.out).size))
             have HOK5 := Lib.hid ((HOK4.out).over hb5)
             clear hb5 tok5 _t)
          | (go_at_call 18
             refine (page_to true l p e g A n cap cs hb0 q hq _ (HOK5.out)).mono ?_
             rintro e' w6 ⟨rfl, hb6⟩
             have q0 := (hb6.cell (p := ⟨w.heap.size, 0, none⟩) (block_lt_of_cell q0)).trans q0
             have q1 := (hb6.cell (p := ⟨w.heap.size, 1, none⟩) (block_lt_of_cell q1)).trans q1
             have q2 := (hb6.cell (p := ⟨w.heap.size, 2, none⟩) (block_lt_of_cell q2)).trans q2
             have q3 := (hb6.cell (p := ⟨w.heap.size, 3, none⟩) (block_lt_of_cell q3)).trans q3
             have q4 := (hb6.cell (p := ⟨w.heap.size, 4, none⟩) (block_lt_of_cell q4)).trans q4
             have HB6 := Lib.hid ((HB5.out).trans (hb6.mono (HB5.out).size))
             have HOK6 := Lib.hid ((HOK5.out).over hb6)
             clear hb6))
      obtain ⟨X, hX⟩ : ∃ X, X = logF true l a := ⟨_, rfl⟩
      obtain ⟨Y, hY⟩ : ∃ Y, Y = logF true l b := ⟨_, rfl⟩
      obtain ⟨U, hU⟩ : ∃ U, U = pageF true l p p' := ⟨_, rfl⟩
      obtain ⟨V, hV⟩ : ∃ V, V = pageF true l p q := ⟨_, rfl⟩
      have HX : Hid (LogAt l a X) := by rw [hX]; exact logAt l a hl.1
      have HY : Hid (LogAt l b Y) := by rw [hY]; exact logAt l b hl.1
      have HU : Hid (PageAt l p p' U) := by rw [hU]; exact pageAt l p p'
      have HV : Hid (PageAt l p q V) := by rw [hV]; exact pageAt l p q
      rw [← hX, ← hY, ← hU, ← hV]
      clear hX hY hU hV
      go_upto_region 4 with (fail)
      go_cut [59] (fun s wx => s = .bool false ∧ w6 = wx)
      case first =>
        by_cases x0 : X < 0
        · have d0 : decide (0 ≤ X) = false := by simp; omega
          go_wp2_with fail
          go_meet
          exact ⟨rfl, rfl⟩
        by_cases y0 : Y < 0
        · have d1 : decide (0 ≤ Y) = false := by simp; omega
          have x1 : 0 ≤ X := by omega
          go_wp2_with fail
          go_meet
          exact ⟨rfl, rfl⟩
        have x1 : 0 ≤ X := by omega
        have y1 : 0 ≤ Y := by omega
        by_cases xy : X = Y
        · have d2 : (X == Y) = true := by simp [xy]
          obtain ⟨a0, a1, ex, _, _⟩ : 0 ≤ a ∧ a ≤ 281474976710656 ∧ X = 2 + a % l ∧ 2 ≤ X ∧ X < 2 + l := by
            rcases HX.out with h | h
            · omega
            · exact h
          obtain ⟨b0', b1', ey, _, _⟩ : 0 ≤ b ∧ b ≤ 281474976710656 ∧ Y = 2 + b % l ∧ 2 ≤ Y ∧ Y < 2 + l := by
            rcases HY.out with h | h
            · omega
            · exact h
          have hr := same_rem l a b (by omega)
          have d3 : ((a - b).tmod l != 0) = false := by simp [hr.1]
          have d4 : ((a - b) % l != 0) = false := by simp [hr.2]
          clear hr ex ey xy
          go_wp2_with fail
          go_meet
          exact ⟨rfl, rfl⟩
        · have d2 : (X == Y) = false := by simp [xy]
          clear xy
          go_wp2_with fail
          go_meet
          exact ⟨rfl, rfl⟩
      case rest =>
        obtain ⟨rfl, rfl⟩ := hcut
        go_upto_region 6 with (fail)
        go_cut [93] (fun s wx => s = .bool false ∧ w6 = wx)
        case first =>
          by_cases u0 : U < 0
          · have d0 : decide (0 ≤ U) = false := by simp; omega
            by_cases x0 : X < 0
            · have d5 : decide (0 ≤ X) = false := by simp; omega
              go_wp2_with fail
              go_meet
              exact ⟨rfl, rfl⟩
            · have x1 : 0 ≤ X := by omega
              have d6 : decide (X < 2) = false := by simp; rcases HX.out with h | h <;> omega
              go_wp2_with fail
              go_meet
              exact ⟨rfl, rfl⟩
          have u1 : 0 ≤ U := by omega
          obtain ⟨g0, g1, eu⟩ : 0 ≤ p' ∧ p' < p ∧ U = 2 + l + p' := by
            rcases HU.out with h | h
            · omega
            · exact h
          have d1 : (U == X) = false := by
            rw [beq_eq_false_iff_ne]
            rcases HX.out with h | h <;> omega
          have d2 : (U == Y) = false := by
            rw [beq_eq_false_iff_ne]
            rcases HY.out with h | h <;> omega
          have d3 : decide (U < 2) = false := by simp; omega
          by_cases pq : p' = q
          · have d4 : (p' != q) = false := by simp [pq]
            clear eu pq
            by_cases x0 : X < 0
            · have d5 : decide (0 ≤ X) = false := by simp; omega
              go_wp2_with fail
              go_meet
              exact ⟨rfl, rfl⟩
            · have x1 : 0 ≤ X := by omega
              have d6 : decide (X < 2) = false := by simp; rcases HX.out with h | h <;> omega
              go_wp2_with fail
              go_meet
              exact ⟨rfl, rfl⟩
          · have d4 : (p' != q) = true := by simp [pq]
            have d7 : (U == V) = false := by
              rw [beq_eq_false_iff_ne]
              rcases HV.out with h | h <;> omega
            clear eu pq
            by_cases x0 : X < 0
            · have d5 : decide (0 ≤ X) = false := by simp; omega
              go_wp2_with fail
              go_meet
              exact ⟨rfl, rfl⟩
            · have x1 : 0 ≤ X := by omega
              have d6 : decide (X < 2) = false := by simp; rcases HX.out with h | h <;> omega
              go_wp2_with fail
              go_meet
              exact ⟨rfl, rfl⟩
        case rest =>
          obtain ⟨rfl, rfl⟩ := hcut
          go_wp2_with fail
          refine (what_to true l p e g A n cap cs hb0 sc hz _ (HOK6.out)).mono ?_
          rintro e' w7 ⟨rfl, hb7⟩
          have q0 := (hb7.cell (p := ⟨w.heap.size, 0, none⟩) (block_lt_of_cell q0)).trans q0
          have q1 := (hb7.cell (p := ⟨w.heap.size, 1, none⟩) (block_lt_of_cell q1)).trans q1
          have q2 := (hb7.cell (p := ⟨w.heap.size, 2, none⟩) (block_lt_of_cell q2)).trans q2
          have q3 := (hb7.cell (p := ⟨w.heap.size, 3, none⟩) (block_lt_of_cell q3)).trans q3
          have q4 := (hb7.cell (p := ⟨w.heap.size, 4, none⟩) (block_lt_of_cell q4)).trans q4
          have HB7 := Lib.hid ((HB6.out).trans (hb7.mono (HB6.out).size))
          have HOK7 := Lib.hid ((HOK6.out).over hb7)
          clear hb7
          obtain ⟨K, hK⟩ : ∃ K, K = whatK true l p sc := ⟨_, rfl⟩
          obtain ⟨M, hM⟩ : ∃ M, M = whatN true l p sc := ⟨_, rfl⟩
          have HW : Hid (WhatAt l p sc K M) := by rw [hK, hM]; exact whatAt l p sc hl hp
          rw [← hK, ← hM]
          clear hK hM
          go_upto_region 9 with (fail)
          go_cut [129] (fun s wx => s = .bool false ∧ wx.cell? ⟨w.heap.size, 0, none⟩ = some (.int .i64 l) ∧ wx.cell? ⟨w.heap.size, 1, none⟩ = some (.int .i64 p) ∧ Hid (Below W.heap.size W wx))
          case first =>
            rcases HW.out with ⟨_, hk⟩ | ⟨_, hk⟩ | ⟨_, _, hk, hs⟩ | ⟨_, _, hk, hM, hs⟩ | ⟨_, _, hk, hM, hs⟩
            · have d3 : (K == 3) = false := by simp [hk]
              have d1 : (K == 1) = false := by simp [hk]
              have d2 : (K == 2) = false := by simp [hk]
              clear hk
              go_wp2_with fail
              go_meet
              exact ⟨rfl, q0, q1, HB7⟩
            · have d3 : (K == 3) = false := by simp [hk]
              have d1 : (K == 1) = false := by simp [hk]
              have d2 : (K == 2) = false := by simp [hk]
              clear hk
              go_wp2_with fail
              go_meet
              exact ⟨rfl, q0, q1, HB7⟩
            · have d3 : (K == 3) = true := by simp [hk]
              have d1 : (K == 1) = false := by simp [hk]
              have d2 : (K == 2) = false := by simp [hk]
              have ds : (superF M != sc) = false := by simp [hs]
              clear hk hs
              go_wp2_with (go_at_call 14; refine (super_any _ _).mono ?_; rintro e' w' ⟨rfl, rfl⟩)
              go_meet
              exact ⟨rfl, q0, q1, HB7⟩
            · have d3 : (K == 3) = false := by simp [hk]
              have d1 : (K == 1) = true := by simp [hk]
              have d2 : (K == 2) = false := by simp [hk]
              have ds : (logF true l M != sc) = false := by simp [hs]
              clear hk hs
              go_wp2_with fail
              refine (log_to true l p e g A n cap cs hb0 M hM _ HOK7.out).mono ?_
              rintro e' w8 ⟨rfl, hb8⟩
              have t0 := (hb8.cell (p := ⟨w.heap.size, 0, none⟩) (block_lt_of_cell q0)).trans q0
              have t1 := (hb8.cell (p := ⟨w.heap.size, 1, none⟩) (block_lt_of_cell q1)).trans q1
              have HB8 := Lib.hid (HB7.out.trans (hb8.mono HB7.out.size))
              clear hb8
              go_wp2_with fail
              go_meet
              exact ⟨rfl, t0, t1, HB8⟩
            · have d3 : (K == 3) = false := by simp [hk]
              have d1 : (K == 1) = false := by simp [hk]
              have d2 : (K == 2) = true := by simp [hk]
              have ds : (pageF true l p M != sc) = false := by simp [hs]
              clear hk hs
              go_wp2_with fail
              refine (page_to true l p e g A n cap cs hb0 M hM _ HOK7.out).mono ?_
              rintro e' w8 ⟨rfl, hb8⟩
              have t0 := (hb8.cell (p := ⟨w.heap.size, 0, none⟩) (block_lt_of_cell q0)).trans q0
              have t1 := (hb8.cell (p := ⟨w.heap.size, 1, none⟩) (block_lt_of_cell q1)).trans q1
              have HB8 := Lib.hid (HB7.out.trans (hb8.mono HB7.out.size))
              clear hb8
              go_wp2_with fail
              go_meet
              exact ⟨rfl, t0, t1, HB8⟩
          case rest =>
            obtain ⟨rfl, r0, r1, HB8⟩ := hcut
            have hin : (sc < 0 ∧ K = 0) ∨ (2 + l + p ≤ sc ∧ K = 0) ∨ (0 ≤ sc ∧ sc < 2 + l + p ∧ K ≠ 0) := by
              rcases HW.out with h | h | ⟨_, _, hk, _⟩ | ⟨_, _, hk, _⟩ | ⟨_, _, hk, _⟩ <;> omega
            rcases hin with ⟨hs, hk⟩ | ⟨hs, hk⟩ | ⟨hs, hs2, hk⟩
            · have d0 : (K != 0) = false := by simp [hk]
              have d1 : decide (0 ≤ sc) = false := by simp; omega
              clear hk
              go_wp2_with fail
              refine (live_any _).mono ?_
              rintro e' w9 ⟨rfl, hb9⟩
              have HB9 := Lib.hid (HB8.out.trans (hb9.mono HB8.out.size))
              clear hb9
              go_wp2
              go_ret
              exact ⟨rfl, B1.out.trans (HB9.out.mono B1.out.size)⟩
            · have d0 : (K != 0) = false := by simp [hk]
              have d1 : 0 ≤ sc := by omega
              have d2 : decide (sc < l + p + 2) = false := by simp; omega
              clear hk
              go_wp2_with fail
              refine (live_any _).mono ?_
              rintro e' w9 ⟨rfl, hb9⟩
              have HB9 := Lib.hid (HB8.out.trans (hb9.mono HB8.out.size))
              clear hb9
              go_wp2
              go_ret
              exact ⟨rfl, B1.out.trans (HB9.out.mono B1.out.size)⟩
            · have d0 : (K != 0) = true := by simp [hk]
              have d2 : sc < l + p + 2 := by omega
              clear hk
              go_wp2_with fail
              refine (live_any _).mono ?_
              rintro e' w9 ⟨rfl, hb9⟩
              have HB9 := Lib.hid (HB8.out.trans (hb9.mono HB8.out.size))
              clear hb9
              go_wp2
              go_ret
              exact ⟨rfl, B1.out.trans (HB9.out.mono B1.out.size)⟩

end Go.Proofs.Ytohlcopnifmjoad
