/- geom: the law of places. -/
import Derived.Test.YtohlcopnifmjoadLaws
namespace Go.Proofs.Ytohlcopnifmjoad
open Go.RowKit

set_option maxHeartbeats 8000000 in
theorem places_any (l p e g : Int) (A : Option Addr) (n cap : Nat) (cs : List Cmp) (sl ls pg sc : Int) (hx : i64ok ls) (hy : i64ok pg) (hz : i64ok sc) (w : World) (h : (⟨l, p, e, g, A, n, cap, cs⟩ : Cnf).ok w) :
    Calls Try.prog 4 #[.agg #[.int .i64 l, .int .i64 p, .int .i64 e, .int .i64 g, .slice A n cap], .int .i64 sl, .int .i64 ls, .int .i64 pg, .int .i64 sc] w fun e w' => e = .returned (.bool true) ∧ Below w.heap.size w w' := by
  obtain ⟨b0, hb0⟩ := right_dec l p e g cs
  have b1 : Below w.heap.size w (w.alloc (.cells #[.int .i64 l, .int .i64 p, .int .i64 e, .int .i64 g, .slice A n cap] 24)) := (Below.refl _ _).alloc (Nat.le_refl _) _
  have h1 := h.over b1
  have cl := fun j => new_cell w #[.int .i64 l, .int .i64 p, .int .i64 e, .int .i64 g, .slice A n cap] 24 j
  have c0 := cl 0
  have c1 := cl 1
  have c2 := cl 2
  have c3 := cl 3
  have c4 := cl 4
  clear cl h
  go_enter Try.func4, Try.ntmps4
  go_wp2_with fail
  generalize w.alloc (.cells #[.int .i64 l, .int .i64 p, .int .i64 e, .int .i64 g, .slice A n cap] 24) = W at b1 h1 c0 c1 c2 c3 c4 ⊢
  simp only [List.getElem?_toArray, List.getElem?_cons_succ, List.getElem?_cons_zero] at c0 c1 c2 c3 c4
  have B1 := Lib.hid b1
  have H1 := Lib.hid h1
  clear b1 h1
  cases hm : muchB cs
  case true =>
    have HM := Lib.hid hm
    clear hm
    refine (much_any l p e g A n cap cs _ H1.out).mono ?_
    rintro e' w1 ⟨rfl, hb1⟩
    rw [HM.out]
    have HB1 := Lib.hid hb1
    clear hb1
    go_wp2_with fail
    refine (live_any _).mono ?_
    rintro e' w2 ⟨rfl, hb2⟩
    go_wp2_with fail
    go_ret
    exact ⟨rfl, B1.out.trans ((HB1.out.trans (hb2.mono HB1.out.size)).mono B1.out.size)⟩
  case false =>
    have HM := Lib.hid hm
    clear hm
    refine (much_any l p e g A n cap cs _ H1.out).mono ?_
    rintro e' w1 ⟨rfl, hb1⟩
    rw [HM.out]
    have q0 := (hb1.cell (p := ⟨w.heap.size, 0, none⟩) (block_lt_of_cell c0)).trans c0
    have q1 := (hb1.cell (p := ⟨w.heap.size, 1, none⟩) (block_lt_of_cell c1)).trans c1
    have q2 := (hb1.cell (p := ⟨w.heap.size, 2, none⟩) (block_lt_of_cell c2)).trans c2
    have q3 := (hb1.cell (p := ⟨w.heap.size, 3, none⟩) (block_lt_of_cell c3)).trans c3
    have q4 := (hb1.cell (p := ⟨w.heap.size, 4, none⟩) (block_lt_of_cell c4)).trans c4
    have HB1 := Lib.hid hb1
    have HOK1 := Lib.hid (H1.out.over hb1)
    clear hb1 c0 c1 c2 c3 c4
    go_wp2_with fail
    refine (what_to b0 l p e g A n cap cs hb0 sc hz _ (HOK1.out)).mono ?_
    rintro e' w2 ⟨rfl, hb2⟩
    have q0 := (hb2.cell (p := ⟨w.heap.size, 0, none⟩) (block_lt_of_cell q0)).trans q0
    have q1 := (hb2.cell (p := ⟨w.heap.size, 1, none⟩) (block_lt_of_cell q1)).trans q1
    have q2 := (hb2.cell (p := ⟨w.heap.size, 2, none⟩) (block_lt_of_cell q2)).trans q2
    have q3 := (hb2.cell (p := ⟨w.heap.size, 3, none⟩) (block_lt_of_cell q3)).trans q3
    have q4 := (hb2.cell (p := ⟨w.heap.size, 4, none⟩) (block_lt_of_cell q4)).trans q4
    have HB2 := Lib.hid ((HB1.out).trans (hb2.mono (HB1.out).size))
    have HOK2 := Lib.hid ((HOK1.out).over hb2)
    clear hb2
    go_wp2_with fail
    refine (rwhat_to b0 l p e g A n cap cs hb0 sc hz _ (HOK2.out)).mono ?_
    rintro e' w3 ⟨rfl, hb3⟩
    have q0 := (hb3.cell (p := ⟨w.heap.size, 0, none⟩) (block_lt_of_cell q0)).trans q0
    have q1 := (hb3.cell (p := ⟨w.heap.size, 1, none⟩) (block_lt_of_cell q1)).trans q1
    have q2 := (hb3.cell (p := ⟨w.heap.size, 2, none⟩) (block_lt_of_cell q2)).trans q2
    have q3 := (hb3.cell (p := ⟨w.heap.size, 3, none⟩) (block_lt_of_cell q3)).trans q3
    have q4 := (hb3.cell (p := ⟨w.heap.size, 4, none⟩) (block_lt_of_cell q4)).trans q4
    have HB3 := Lib.hid ((HB2.out).trans (hb3.mono (HB2.out).size))
    have HOK3 := Lib.hid ((HOK2.out).over hb3)
    clear hb3
    go_wp2_with fail
    go_region_held3 (fun w' => w'.cell? ⟨w.heap.size, 0, none⟩ = some (.int .i64 l) ∧ w'.cell? ⟨w.heap.size, 1, none⟩ = some (.int .i64 p) ∧ w'.cell? ⟨w.heap.size, 2, none⟩ = some (.int .i64 e) ∧ w'.cell? ⟨w.heap.size, 3, none⟩ = some (.int .i64 g) ∧
        w'.cell? ⟨w.heap.size, 4, none⟩ = some (.slice A n cap))
      (go_keep)
      (first
        | (go_at_call 14; refine (super_any _ _).mono ?_; rintro e' w' ⟨rfl, rfl⟩)
        | (go_at_call 15; refine (rsuper_any _ _).mono ?_; rintro e' w' ⟨rfl, rfl⟩)
        | (go_at_call 16
           refine (log_to b0 l p e g A n cap cs hb0 ls hx _ (HOK3.out.drew)).mono ?_
           rintro e' w4 ⟨rfl, hb4⟩
           have q0 := (hb4.cell (p := ⟨w.heap.size, 0, none⟩) (block_lt_of_cell q0)).trans q0
           have q1 := (hb4.cell (p := ⟨w.heap.size, 1, none⟩) (block_lt_of_cell q1)).trans q1
           have q2 := (hb4.cell (p := ⟨w.heap.size, 2, none⟩) (block_lt_of_cell q2)).trans q2
           have q3 := (hb4.cell (p := ⟨w.heap.size, 3, none⟩) (block_lt_of_cell q3)).trans q3
           have q4 := (hb4.cell (p := ⟨w.heap.size, 4, none⟩) (block_lt_of_cell q4)).trans q4
           have HB4 := Lib.hid ((HB3.out.drew).trans (hb4.mono (HB3.out.drew).size))
           have HOK4 := Lib.hid ((HOK3.out.drew).over hb4)
           clear hb4)
        | (go_at_call 17
           refine (rlog_to b0 l p e g A n cap cs hb0 ls hx _ (HOK4.out)).mono ?_
           rintro e' w5 ⟨rfl, hb5⟩
           have q0 := (hb5.cell (p := ⟨w.heap.size, 0, none⟩) (block_lt_of_cell q0)).trans q0
           have q1 := (hb5.cell (p := ⟨w.heap.size, 1, none⟩) (block_lt_of_cell q1)).trans q1
           have q2 := (hb5.cell (p := ⟨w.heap.size, 2, none⟩) (block_lt_of_cell q2)).trans q2
           have q3 := (hb5.cell (p := ⟨w.heap.size, 3, none⟩) (block_lt_of_cell q3)).trans q3
           have q4 := (hb5.cell (p := ⟨w.heap.size, 4, none⟩) (block_lt_of_cell q4)).trans q4
           have HB5 := Lib.hid ((HB4.out).trans (hb5.mono (HB4.out).size))
           have HOK5 := Lib.hid ((HOK4.out).over hb5)
           clear hb5)
        | (go_at_call 18
           refine (page_to b0 l p e g A n cap cs hb0 pg hy _ (HOK5.out)).mono ?_
           rintro e' w6 ⟨rfl, hb6⟩
           have q0 := (hb6.cell (p := ⟨w.heap.size, 0, none⟩) (block_lt_of_cell q0)).trans q0
           have q1 := (hb6.cell (p := ⟨w.heap.size, 1, none⟩) (block_lt_of_cell q1)).trans q1
           have q2 := (hb6.cell (p := ⟨w.heap.size, 2, none⟩) (block_lt_of_cell q2)).trans q2
           have q3 := (hb6.cell (p := ⟨w.heap.size, 3, none⟩) (block_lt_of_cell q3)).trans q3
           have q4 := (hb6.cell (p := ⟨w.heap.size, 4, none⟩) (block_lt_of_cell q4)).trans q4
           have HB6 := Lib.hid ((HB5.out).trans (hb6.mono (HB5.out).size))
           have HOK6 := Lib.hid ((HOK5.out).over hb6)
           clear hb6)
        | (go_at_call 19
           refine (rpage_to b0 l p e g A n cap cs hb0 pg hy _ (HOK6.out)).mono ?_
           rintro e' w7 ⟨rfl, hb7⟩
           have q0 := (hb7.cell (p := ⟨w.heap.size, 0, none⟩) (block_lt_of_cell q0)).trans q0
           have q1 := (hb7.cell (p := ⟨w.heap.size, 1, none⟩) (block_lt_of_cell q1)).trans q1
           have q2 := (hb7.cell (p := ⟨w.heap.size, 2, none⟩) (block_lt_of_cell q2)).trans q2
           have q3 := (hb7.cell (p := ⟨w.heap.size, 3, none⟩) (block_lt_of_cell q3)).trans q3
           have q4 := (hb7.cell (p := ⟨w.heap.size, 4, none⟩) (block_lt_of_cell q4)).trans q4
           have HB7 := Lib.hid ((HB6.out).trans (hb7.mono (HB6.out).size))
           have HOK7 := Lib.hid ((HOK6.out).over hb7)
           clear hb7)
        | (go_at_call 7
           refine (live_any _).mono ?_
           rintro e' w8 ⟨rfl, hb8⟩
           have q0 := (hb8.cell (p := ⟨w.heap.size, 0, none⟩) (block_lt_of_cell q0)).trans q0
           have q1 := (hb8.cell (p := ⟨w.heap.size, 1, none⟩) (block_lt_of_cell q1)).trans q1
           have q2 := (hb8.cell (p := ⟨w.heap.size, 2, none⟩) (block_lt_of_cell q2)).trans q2
           have q3 := (hb8.cell (p := ⟨w.heap.size, 3, none⟩) (block_lt_of_cell q3)).trans q3
           have q4 := (hb8.cell (p := ⟨w.heap.size, 4, none⟩) (block_lt_of_cell q4)).trans q4
           have HB8 := Lib.hid ((HB7.out).trans (hb8.mono (HB7.out).size))
           clear hb8))
    go_wp2
    go_ret
    exact ⟨rfl, B1.out.trans (HB8.out.mono B1.out.size)⟩

end Go.Proofs.Ytohlcopnifmjoad
