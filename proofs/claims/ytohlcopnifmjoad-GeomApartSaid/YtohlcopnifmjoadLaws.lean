/- geom: the page's example, and the law of rooms. -/
import Derived.Test.YtohlcopnifmjoadGeom3
namespace Go.Proofs.Ytohlcopnifmjoad
open Go.RowKit

theorem nil_ok (w : World) : (⟨4, 8, 1, 1, none, 0, 0, []⟩ : Cnf).ok w :=
  ⟨⟨by simp [flat], fun h => absurd h (by simp)⟩, by simp, by simp, by unfold i64ok; dsimp only; omega, by unfold i64ok; dsimp only; omega, by unfold i64ok; dsimp only; omega, by unfold i64ok; dsimp only; omega, by simp⟩
theorem nil_right : RightIff true 4 8 1 1 [] :=
  ⟨fun _ => ⟨by omega, by omega, by omega, by omega, by simp, by simp⟩, fun _ => rfl⟩

theorem right_dec (l p e g : Int) (cs : List Cmp) : ∃ b0, RightIff b0 l p e g cs := by
  by_cases hr : rightP l p e g cs
  · exact ⟨true, ⟨fun _ => hr, fun _ => rfl⟩⟩
  · exact ⟨false, ⟨fun h => Bool.noConfusion h, fun h => absurd h hr⟩⟩

set_option maxHeartbeats 1000000 in
theorem live_any (w : World) : Calls Try.prog 7 #[] w fun e w' => e = .returned (.bool true) ∧ Below w.heap.size w w' := by
  have f1 : logF true 4 6 = 4 := by decide
  have f2 : pageF true 4 8 0 = 6 := by decide
  have f3 : needF 461 = 2 := by decide
  have b1 : Below w.heap.size w (w.alloc (.cells #[.int .i64 4, .int .i64 8, .int .i64 1, .int .i64 1, .slice none 0 0] 24)) := (Below.refl _ _).alloc (Nat.le_refl _) _
  have cl := fun j => new_cell w #[.int .i64 4, .int .i64 8, .int .i64 1, .int .i64 1, .slice none 0 0] 24 j
  have c0 := cl 0
  have c1 := cl 1
  have c2 := cl 2
  have c3 := cl 3
  have c4 := cl 4
  clear cl
  go_enter Try.func7, Try.ntmps7
  go_wp2_with fail
  generalize w.alloc (.cells #[.int .i64 4, .int .i64 8, .int .i64 1, .int .i64 1, .slice none 0 0] 24) = W at b1 c0 c1 c2 c3 c4 ⊢
  simp only [List.getElem?_toArray, List.getElem?_cons_succ, List.getElem?_cons_zero] at c0 c1 c2 c3 c4
  have B1 := Lib.hid b1
  clear b1
  refine (log_to true 4 8 1 1 none 0 0 [] nil_right 6 (by unfold i64ok; omega) _ (nil_ok _)).mono ?_
  rintro e' w1 ⟨rfl, hb1⟩
  have q0 := (hb1.cell (p := ⟨w.heap.size, 0, none⟩) (block_lt_of_cell c0)).trans c0
  have q1 := (hb1.cell (p := ⟨w.heap.size, 1, none⟩) (block_lt_of_cell c1)).trans c1
  have q2 := (hb1.cell (p := ⟨w.heap.size, 2, none⟩) (block_lt_of_cell c2)).trans c2
  have q3 := (hb1.cell (p := ⟨w.heap.size, 3, none⟩) (block_lt_of_cell c3)).trans c3
  have q4 := (hb1.cell (p := ⟨w.heap.size, 4, none⟩) (block_lt_of_cell c4)).trans c4
  have HB1 := Lib.hid hb1
  clear hb1 c0 c1 c2 c3 c4
  go_wp2_with fail
  refine (page_to true 4 8 1 1 none 0 0 [] nil_right 0 (by unfold i64ok; omega) _ (nil_ok _)).mono ?_
  rintro e' w2 ⟨rfl, hb2⟩
  have HB2 := Lib.hid (HB1.out.trans (hb2.mono HB1.out.size))
  clear hb2 q0 q1 q2 q3 q4
  go_wp2_with fail
  refine (need_any 461 _ (by unfold i64ok; omega)).mono ?_
  rintro e' w3 ⟨rfl, rfl⟩
  go_wp2_with fail
  go_ret
  exact ⟨rfl, B1.out.trans (HB2.out.mono B1.out.size)⟩

set_option maxHeartbeats 4000000 in
theorem rooms_any (l p e g : Int) (A : Option Addr) (n cap : Nat) (cs : List Cmp) (hd tl x : Int) (hx : i64ok hd) (hy : i64ok tl) (hz : i64ok x) (w : World) (h : (⟨l, p, e, g, A, n, cap, cs⟩ : Cnf).ok w) :
    Calls Try.prog 3 #[.agg #[.int .i64 l, .int .i64 p, .int .i64 e, .int .i64 g, .slice A n cap], .int .i64 hd, .int .i64 tl, .int .i64 x] w fun e w' => e = .returned (.bool true) ∧ Below w.heap.size w w' := by
  obtain ⟨b0, hb0⟩ := right_dec l p e g cs
  have b1 : Below w.heap.size w (w.alloc (.cells #[.int .i64 l, .int .i64 p, .int .i64 e, .int .i64 g, .slice A n cap] 24)) := (Below.refl _ _).alloc (Nat.le_refl _) _
  have h1 := h.over b1
  have cl := fun j => new_cell w #[.int .i64 l, .int .i64 p, .int .i64 e, .int .i64 g, .slice A n cap] 24 j
  have c0 := cl 0
  have c1 := cl 1
  have c2 := cl 2
  have c3 := cl 3
  have c4 := cl 4
  clear cl h
  go_enter Try.func3, Try.ntmps3
  go_wp2_with fail
  generalize w.alloc (.cells #[.int .i64 l, .int .i64 p, .int .i64 e, .int .i64 g, .slice A n cap] 24) = W at b1 h1 c0 c1 c2 c3 c4 ⊢
  simp only [List.getElem?_toArray, List.getElem?_cons_succ, List.getElem?_cons_zero] at c0 c1 c2 c3 c4
  have B1 := Lib.hid b1
  have H1 := Lib.hid h1
  clear b1 h1
  cases hm : muchB cs
  case true =>
    have HM := Lib.hid hm
    clear hm
    refine (much_any l p e g A n cap cs _ H1.out).mono ?_
    rintro e' w1 ⟨rfl, hb1⟩
    rw [HM.out]
    have HB1 := Lib.hid hb1
    clear hb1
    go_wp2_with fail
    refine (live_any _).mono ?_
    rintro e' w2 ⟨rfl, hb2⟩
    go_wp2_with fail
    go_ret
    exact ⟨rfl, B1.out.trans ((HB1.out.trans (hb2.mono HB1.out.size)).mono B1.out.size)⟩
  case false =>
    have HM := Lib.hid hm
    clear hm
    refine (much_any l p e g A n cap cs _ H1.out).mono ?_
    rintro e' w1 ⟨rfl, hb1⟩
    rw [HM.out]
    have q0 := (hb1.cell (p := ⟨w.heap.size, 0, none⟩) (block_lt_of_cell c0)).trans c0
    have q1 := (hb1.cell (p := ⟨w.heap.size, 1, none⟩) (block_lt_of_cell c1)).trans c1
    have q2 := (hb1.cell (p := ⟨w.heap.size, 2, none⟩) (block_lt_of_cell c2)).trans c2
    have q3 := (hb1.cell (p := ⟨w.heap.size, 3, none⟩) (block_lt_of_cell c3)).trans c3
    have q4 := (hb1.cell (p := ⟨w.heap.size, 4, none⟩) (block_lt_of_cell c4)).trans c4
    have HB1 := Lib.hid hb1
    have HOK := Lib.hid (H1.out.over hb1)
    clear hb1 c0 c1 c2 c3 c4
    go_wp2_with fail
    go_region_held3 (fun w' => w'.cell? ⟨w.heap.size, 0, none⟩ = some (.int .i64 l) ∧ w'.cell? ⟨w.heap.size, 1, none⟩ = some (.int .i64 p) ∧ w'.cell? ⟨w.heap.size, 2, none⟩ = some (.int .i64 e) ∧ w'.cell? ⟨w.heap.size, 3, none⟩ = some (.int .i64 g) ∧
        w'.cell? ⟨w.heap.size, 4, none⟩ = some (.slice A n cap))
      (go_keep)
      (first
        | (go_at_call 8; refine (need_any _ _ hz).mono ?_; rintro e' w' ⟨rfl, rfl⟩)
        | (go_at_call 9; refine (rneed_any _ _ hz).mono ?_; rintro e' w' ⟨rfl, rfl⟩)
        | (go_at_call 10
           refine (room_to b0 l p e g A n cap cs hb0 _ _ hx hy _ HOK.out.drew).mono ?_
           rintro e' w2 ⟨rfl, hb2⟩
           have q0 := (hb2.cell (p := ⟨w.heap.size, 0, none⟩) (block_lt_of_cell q0)).trans q0
           have q1 := (hb2.cell (p := ⟨w.heap.size, 1, none⟩) (block_lt_of_cell q1)).trans q1
           have q2 := (hb2.cell (p := ⟨w.heap.size, 2, none⟩) (block_lt_of_cell q2)).trans q2
           have q3 := (hb2.cell (p := ⟨w.heap.size, 3, none⟩) (block_lt_of_cell q3)).trans q3
           have q4 := (hb2.cell (p := ⟨w.heap.size, 4, none⟩) (block_lt_of_cell q4)).trans q4
           have HB2 := Lib.hid (HB1.out.drew.trans (hb2.mono HB1.out.size))
           have HOK2 := Lib.hid (HOK.out.drew.over hb2)
           clear hb2)
        | (go_at_call 11
           refine (rroom_to b0 l p e g A n cap cs hb0 _ _ hx hy _ HOK2.out).mono ?_
           rintro e' w3 ⟨rfl, hb3⟩
           have q0 := (hb3.cell (p := ⟨w.heap.size, 0, none⟩) (block_lt_of_cell q0)).trans q0
           have q1 := (hb3.cell (p := ⟨w.heap.size, 1, none⟩) (block_lt_of_cell q1)).trans q1
           have q2 := (hb3.cell (p := ⟨w.heap.size, 2, none⟩) (block_lt_of_cell q2)).trans q2
           have q3 := (hb3.cell (p := ⟨w.heap.size, 3, none⟩) (block_lt_of_cell q3)).trans q3
           have q4 := (hb3.cell (p := ⟨w.heap.size, 4, none⟩) (block_lt_of_cell q4)).trans q4
           have HB3 := Lib.hid (HB2.out.trans (hb3.mono HB2.out.size))
           clear hb3)
        | (go_at_call 7
           refine (live_any _).mono ?_
           rintro e' w4 ⟨rfl, hb4⟩
           have q0 := (hb4.cell (p := ⟨w.heap.size, 0, none⟩) (block_lt_of_cell q0)).trans q0
           have q1 := (hb4.cell (p := ⟨w.heap.size, 1, none⟩) (block_lt_of_cell q1)).trans q1
           have q2 := (hb4.cell (p := ⟨w.heap.size, 2, none⟩) (block_lt_of_cell q2)).trans q2
           have q3 := (hb4.cell (p := ⟨w.heap.size, 3, none⟩) (block_lt_of_cell q3)).trans q3
           have q4 := (hb4.cell (p := ⟨w.heap.size, 4, none⟩) (block_lt_of_cell q4)).trans q4
           have HB4 := Lib.hid (HB3.out.trans (hb4.mono HB3.out.size))
           clear hb4))
    go_wp2
    go_ret
    exact ⟨rfl, B1.out.trans (HB4.out.mono B1.out.size)⟩

end Go.Proofs.Ytohlcopnifmjoad
