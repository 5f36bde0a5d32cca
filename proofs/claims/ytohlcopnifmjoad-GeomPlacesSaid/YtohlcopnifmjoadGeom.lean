/- geom: the walks of its functions, and of the reference's. -/
import Derived.Test.YtohlcopnifmjoadCheck
import Derived.Test.YtohlcopnifmjoadRight
namespace Go.Proofs.Ytohlcopnifmjoad
open Go.RowKit

/-- b0 says whether the layout may be -/
def RightIff (b0 : Bool) (l p e g : Int) (cs : List Cmp) : Prop := b0 = true ↔ rightP l p e g cs

def placeB (x : Int) : Bool := decide (0 ≤ x ∧ x ≤ 281474976710656)
def superF (x : Int) : Int := if x = 0 ∨ x = 1 then x else -1
def needF (x : Int) : Int := if x ≤ 460 then 1 else (x - 1) / 460 + 1
def logF (b0 : Bool) (l x : Int) : Int := if b0 = true ∧ 0 ≤ x ∧ x ≤ 281474976710656 then 2 + x % l else -1
def pageF (b0 : Bool) (l p x : Int) : Int := if b0 = true ∧ 0 ≤ x ∧ x < p then 2 + l + x else -1
def roomF (b0 : Bool) (l hd tl : Int) : Int := if b0 = true ∧ 0 ≤ hd ∧ hd ≤ 281474976710656 ∧ 0 ≤ tl ∧ tl ≤ 281474976710656 ∧ hd ≤ tl ∧ tl - hd ≤ l then l - (tl - hd) else -1
def whatK (b0 : Bool) (l p x : Int) : Int := if b0 = true ∧ 0 ≤ x then (if x < 2 then 3 else if x < 2 + l then 1 else if x < 2 + l + p then 2 else 0) else 0
def whatN (b0 : Bool) (l p x : Int) : Int := if b0 = true ∧ 0 ≤ x then (if x < 2 then x else if x < 2 + l then x - 2 else if x < 2 + l + p then x - 2 - l else 0) else 0

theorem place_any (x : Int) (w : World) : Calls Try.prog 22 #[.int .i64 x] w fun e w' => e = .returned (.bool (placeB x)) ∧ w = w' := by
  by_cases h1 : 0 ≤ x
  · by_cases h2 : x ≤ 281474976710656
    · have hM : Hid (placeB x = true) := decide_eq_true ⟨h1, h2⟩
      go_enter Try.func22, Try.ntmps22
      go_wp2
      go_ret
      exact ⟨ret_bool hM.out.symm, rfl⟩
    · have hM : Hid (placeB x = false) := decide_eq_false (by omega)
      have d : decide (x ≤ 281474976710656) = false := by simp; omega
      go_enter Try.func22, Try.ntmps22
      go_wp2
      go_ret
      exact ⟨ret_bool hM.out.symm, rfl⟩
  · have hM : Hid (placeB x = false) := decide_eq_false (by omega)
    have d : decide (0 ≤ x) = false := by simp; omega
    go_enter Try.func22, Try.ntmps22
    go_wp2
    go_ret
    exact ⟨ret_bool hM.out.symm, rfl⟩

theorem rplace_any (x : Int) (w : World) : Calls Try.prog 23 #[.int .i64 x] w fun e w' => e = .returned (.bool (placeB x)) ∧ w = w' := by
  by_cases h1 : 0 ≤ x
  · by_cases h2 : x ≤ 281474976710656
    · have hM : Hid (placeB x = true) := decide_eq_true ⟨h1, h2⟩
      go_enter Try.func23, Try.ntmps23
      go_wp2
      go_ret
      exact ⟨ret_bool hM.out.symm, rfl⟩
    · have hM : Hid (placeB x = false) := decide_eq_false (by omega)
      have d : decide (x ≤ 281474976710656) = false := by simp; omega
      go_enter Try.func23, Try.ntmps23
      go_wp2
      go_ret
      exact ⟨ret_bool hM.out.symm, rfl⟩
  · have hM : Hid (placeB x = false) := decide_eq_false (by omega)
    have d : decide (0 ≤ x) = false := by simp; omega
    go_enter Try.func23, Try.ntmps23
    go_wp2
    go_ret
    exact ⟨ret_bool hM.out.symm, rfl⟩

theorem super_any (x : Int) (w : World) : Calls Try.prog 14 #[.int .i64 x] w fun e w' => e = .returned (.int .i64 (superF x)) ∧ w = w' := by
  by_cases h0 : x < 0
  · have hM : Hid (superF x = -1) := by unfold superF; rw [if_neg (by omega)]; trivial
    go_enter Try.func14, Try.ntmps14
    go_wp2
    go_ret
    exact ⟨ret_int hM.out.symm, rfl⟩
  have d0 : decide (x < 0) = false := by simp; omega
  by_cases h2 : 2 ≤ x
  · have hM : Hid (superF x = -1) := by unfold superF; rw [if_neg (by omega)]; trivial
    go_enter Try.func14, Try.ntmps14
    go_wp2
    go_ret
    exact ⟨ret_int hM.out.symm, rfl⟩
  · have hM : Hid (superF x = x) := by unfold superF; rw [if_pos (by omega)]; trivial
    have d2 : decide (2 ≤ x) = false := by simp; omega
    go_enter Try.func14, Try.ntmps14
    go_wp2
    go_ret
    exact ⟨ret_int hM.out.symm, rfl⟩

theorem rsuper_any (x : Int) (w : World) : Calls Try.prog 15 #[.int .i64 x] w fun e w' => e = .returned (.int .i64 (superF x)) ∧ w = w' := by
  by_cases h0 : x = 0
  · have hM : Hid (superF x = x) := by unfold superF; rw [if_pos (by omega)]; trivial
    have d0 : (x == 0) = true := by simp; omega
    clear h0
    go_enter Try.func15, Try.ntmps15
    go_wp2
    go_ret
    exact ⟨ret_int hM.out.symm, rfl⟩
  have d0 : (x == 0) = false := by simp; omega
  by_cases h1 : x = 1
  · have hM : Hid (superF x = x) := by unfold superF; rw [if_pos (by omega)]; trivial
    have d1 : (x == 1) = true := by simp; omega
    clear h1 h0
    go_enter Try.func15, Try.ntmps15
    go_wp2
    go_ret
    exact ⟨ret_int hM.out.symm, rfl⟩
  · have hM : Hid (superF x = -1) := by unfold superF; rw [if_neg (by omega)]; trivial
    have d1 : (x == 1) = false := by simp; omega
    clear h1 h0
    go_enter Try.func15, Try.ntmps15
    go_wp2
    go_ret
    exact ⟨ret_int hM.out.symm, rfl⟩

theorem need_any (x : Int) (w : World) (hx : i64ok x) : Calls Try.prog 8 #[.int .i64 x] w fun e w' => e = .returned (.int .i64 (needF x)) ∧ w = w' := by
  obtain ⟨x0, x1⟩ := hx
  by_cases h0 : x ≤ 460
  · have hM : Hid (needF x = 1) := by unfold needF; rw [if_pos h0]; trivial
    go_enter Try.func8, Try.ntmps8
    go_wp2
    go_ret
    exact ⟨ret_int hM.out.symm, rfl⟩
  · have hM : Hid (needF x = (x - 1) / 460 + 1) := by unfold needF; rw [if_neg h0]; trivial
    go_enter Try.func8, Try.ntmps8
    go_wp2
    go_ret
    exact ⟨ret_int hM.out.symm, rfl⟩

theorem rneed_any (x : Int) (w : World) (hx : i64ok x) : Calls Try.prog 9 #[.int .i64 x] w fun e w' => e = .returned (.int .i64 (needF x)) ∧ w = w' := by
  obtain ⟨x0, x1⟩ := hx
  by_cases h0 : x < 1
  · have hM : Hid (needF x = 1) := by unfold needF; rw [if_pos (by omega)]; trivial
    go_enter Try.func9, Try.ntmps9
    go_wp2
    go_ret
    exact ⟨ret_int hM.out.symm, rfl⟩
  by_cases h1 : 0 < x % 460
  · have hM : Hid (needF x = x / 460 + 1) := by
      unfold needF
      split
      · show 1 = x / 460 + 1
        omega
      · show (x - 1) / 460 + 1 = x / 460 + 1
        omega
    go_enter Try.func9, Try.ntmps9
    go_wp2
    go_ret
    exact ⟨ret_int hM.out.symm, rfl⟩
  · have hM : Hid (needF x = x / 460) := by
      unfold needF
      split
      · show 1 = x / 460
        omega
      · show (x - 1) / 460 + 1 = x / 460
        omega
    go_enter Try.func9, Try.ntmps9
    go_wp2
    go_ret
    exact ⟨ret_int hM.out.symm, rfl⟩

theorem gright_to (b0 : Bool) (l p e g : Int) (A : Option Addr) (n cap : Nat) (cs : List Cmp) (hb0 : RightIff b0 l p e g cs) (w : World) (h : (⟨l, p, e, g, A, n, cap, cs⟩ : Cnf).ok w) :
    Calls Try.prog 21 #[.agg #[.int .i64 l, .int .i64 p, .int .i64 e, .int .i64 g, .slice A n cap]] w fun e w' => e = .returned (.bool b0) ∧ Below w.heap.size w w' := by
  have HB0 := Lib.hid hb0
  have b1 : Below w.heap.size w (w.alloc (.cells #[.int .i64 l, .int .i64 p, .int .i64 e, .int .i64 g, .slice A n cap] 24)) := (Below.refl _ _).alloc (Nat.le_refl _) _
  have h1 := h.over b1
  have cl := fun j => new_cell w #[.int .i64 l, .int .i64 p, .int .i64 e, .int .i64 g, .slice A n cap] 24 j
  have c0 := cl 0
  have c1 := cl 1
  have c2 := cl 2
  have c3 := cl 3
  have c4 := cl 4
  clear cl hb0 h
  have hc : (codeB b0 == 0) = b0 := by cases b0 <;> rfl
  go_enter Try.func21, Try.ntmps21
  go_wp2_with fail
  generalize w.alloc (.cells #[.int .i64 l, .int .i64 p, .int .i64 e, .int .i64 g, .slice A n cap] 24) = W at b1 h1 c0 c1 c2 c3 c4 ⊢
  simp only [List.getElem?_toArray, List.getElem?_cons_succ, List.getElem?_cons_zero] at c0 c1 c2 c3 c4
  have B1 := Lib.hid b1
  have H1 := Lib.hid h1
  clear b1 h1
  go_wp2_with (go_at_call 27; refine (check_to b0 l p e g A n cap cs HB0.out _ H1.out).mono ?_; rintro e' w1 ⟨rfl, hb1⟩; have HB1 := Lib.hid hb1; clear hb1)
  go_ret
  exact ⟨rfl, B1.out.trans (HB1.out.mono B1.out.size)⟩

end Go.Proofs.Ytohlcopnifmjoad
