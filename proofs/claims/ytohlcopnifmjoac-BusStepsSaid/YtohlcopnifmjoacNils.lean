/- bus: the page's example; a row that is nil. -/
import Derived.Test.YtohlcopnifmjoacSmall
import Derived.LaidEqlPtr
import Derived.Lib.Builder
namespace Go.Proofs.Ytohlcopnifmjoac
open Go.RowKit

theorem neq_nil_ptr (x : Nat) (w : World) : (binOp .neq 37 (.pointer none) (.pointer (some ⟨x, 0, none⟩))).run Try.prog w = .ok (.bool true) w := by
  have h : ∀ d : Nat, (Op.equalIn (d + 1) 37 (.pointer none) (.pointer (some ⟨x, 0, none⟩))).run Try.prog w = .ok false w := fun d => by
    simp [Op.equalIn, run_underlying Try.underlying37]
  simp only [binOp]
  simp [Op.equal, Op.maxDepth, h 9999]
theorem info63 : ∃ j, Try.prog.info? 63 = some j ∧ j.size ≠ 0 := by
  have h : (Try.prog.info? 63).map (·.size) = some 2 := by kernel_rfl
  obtain ⟨i, hi, hb⟩ := Option.map_eq_some_iff.1 h
  exact ⟨i, hi, by omega⟩
theorem neq_same_ptr (x : Nat) (w : World) : (binOp .neq 37 (.pointer (some ⟨x, 0, none⟩)) (.pointer (some ⟨x, 0, none⟩))).run Try.prog w = .ok (.bool false) w := by
  obtain ⟨j, hj, _⟩ := info63
  exact Lib.run_neq_ptr_same w _ Try.underlying37 hj
theorem neq_other_ptr {w : World} {x c d cap x' c' d' cap' : Nat} {buf buf' : List Value} {cl cl' : Bool} (h : QObj 63 w x c d cap buf cl) (h' : QObj 63 w x' c' d' cap' buf' cl') (hne : x ≠ x') : (binOp .neq 37 (.pointer (some ⟨x, 0, none⟩)) (.pointer (some ⟨x', 0, none⟩))).run Try.prog w = .ok (.bool true) w := by
  obtain ⟨j, hj, hsz⟩ := info63
  have h1 : ∀ d : Nat, (Op.equalIn (d + 1) 37 (.pointer (some ⟨x, 0, none⟩)) (.pointer (some ⟨x', 0, none⟩))).run Try.prog w = .ok false w := fun d => by
    simp [Op.equalIn, run_underlying Try.underlying37, sizeOf, typeInfo, hj, hsz, run_sameAddr_other w (a := ⟨x, 0, none⟩) (b := ⟨x', 0, none⟩) (fun e => hne (by injection e)) h.hx h'.hx]
  simp only [binOp]
  simp [Op.equal, Op.maxDepth, h1 9999]
theorem push63_nil (v : Int) (w : World) : Calls Try.prog 24 #[.pointer none, .int .i64 v] w fun e w' => e = .returned (.bool false) ∧ w' = w := by
  go_enter Try.func24, Try.ntmps24
  go_wp2_with (go_at_call 20; refine (closed63_nil _).mono ?_; rintro e1 w1 ⟨rfl, rfl⟩)
  go_ret
  exact ⟨rfl, rfl⟩
theorem drain63_nil (w : World) : Calls Try.prog 22 #[.pointer none] w fun e w' => e = .returned (.slice none 0 0) ∧ w' = w := by
  go_enter Try.func22, Try.ntmps22
  go_wp2_with fail
  go_loopw [3] (fun a wr => a = .slice none 0 0 ∧ Hid (wr = w)) (fun _ _ => 0)
  case atStart => exact ⟨rfl, rfl⟩
  case round =>
    obtain ⟨rfl, hw⟩ := hrel
    obtain rfl := hw
    go_wp2_with (go_at_call 19; refine (len63_nil _).mono ?_; rintro e1 w1 ⟨rfl, rfl⟩)
    go_ret
    exact ⟨rfl, rfl⟩

/-- the blocks of a row -/
def QK (x c d k : Nat) : Prop := k = x ∨ k = c ∨ k = d
theorem QObj.below {t : TypeId} {w w' : World} {x c d cap B : Nat} {buf : List Value} {cl : Bool} {O : Nat → Prop} (_ : QObj t w x c d cap buf cl) (hf : Fr O w w') (hO : ∀ k, O k → QK x c d k) (h1 : B ≤ x) (h2 : B ≤ c) (h3 : B ≤ d) (hB : B ≤ w.heap.size) : Below B w w' :=
  hf.below (fun k hk => by rcases hO k hk with rfl | rfl | rfl <;> assumption) hB

set_option maxRecDepth 100000 in
set_option maxHeartbeats 1000000 in
theorem live_any (w : World) : Calls Try.prog 6 #[] w fun e w' => e = .returned (.bool true) ∧ Below w.heap.size w w' := by
  go_enter Try.func6, Try.ntmps6
  go_wp2_with fail
  refine (new63_any 1 _).mono ?_
  rintro e1 w1 ⟨x, c, d, rfl, h1, hx, hc, hd, hb1⟩
  have H1 := Lib.hid h1
  have B1 := Lib.hid hb1
  clear h1 hb1
  go_wp2_with fail
  refine (push63_any w1 x c d (capQ 1) [] false 7 H1.out true [.int .i64 7] (.inl ⟨rfl, rfl, by decide, rfl⟩)).mono ?_
  rintro e2 w2 ⟨rfl, h2, f2⟩
  have H2 := Lib.hid h2
  have B2 := Lib.hid (B1.out.trans (f2.below (fun k hk => by omega) B1.out.size))
  clear h2 f2
  go_wp2_with fail
  refine (push63_any w2 x c d (capQ 1) [.int .i64 7] false 8 H2.out false [.int .i64 7] (.inr ⟨rfl, .inr (by decide), rfl⟩)).mono ?_
  rintro e3 w3 ⟨rfl, h3, f3⟩
  have H3 := Lib.hid h3
  have B3 := Lib.hid (B2.out.trans (f3.below (fun k hk => by omega) B2.out.size))
  clear h3 f3
  go_wp2_with fail
  refine (pop63_some w3 x c d (capQ 1) 7 [] false H3.out).mono ?_
  rintro e4 w4 ⟨rfl, h4, f4⟩
  have B4 := Lib.hid (B3.out.trans (f4.below (fun k hk => by omega) B3.out.size))
  clear h4 f4
  go_wp2_with fail
  go_ret
  exact ⟨rfl, B4.out⟩

/-- from nothing -/
theorem move63_from_nil (w : World) (x c d cap : Nat) (buf : List Value) (cl : Bool) (h : QObj 63 w x c d cap buf cl) : Calls Try.prog 26 #[.pointer none, .pointer (some ⟨x, 0, none⟩)] w fun e w' => e = .returned (.int .i64 0) ∧ w' = w := by
  have H := Lib.hid h
  have hneq := neq_nil_ptr x
  clear h
  go_enter Try.func26, Try.ntmps26
  go_wp2_with fail
  go_loopw [5] (fun a wr => a = .int .i64 0 ∧ Hid (wr = w)) (fun _ _ => 0)
  case atStart => exact ⟨rfl, rfl⟩
  case round =>
    obtain ⟨rfl, hw⟩ := hrel
    obtain rfl := hw
    cases cl with
    | true =>
      go_wp2_with (first
        | (go_at_call 20; refine (closed63_any _ x c d cap buf true H.out).mono ?_; rintro e1 w1 ⟨rfl, rfl⟩))
      go_ret
      exact ⟨rfl, rfl⟩
    | false =>
      by_cases hl : buf.length < cap
      · have d1 : decide (buf.length < cap) = true := by simpa using hl
        go_wp2_with (first
          | (go_at_call 20; refine (closed63_any _ x c d cap buf false H.out).mono ?_; rintro e1 w1 ⟨rfl, rfl⟩)
          | (go_at_call 19; first | (with_reducible show Calls _ _ #[.pointer none] _ _; refine (len63_nil _).mono ?_; rintro e1 w1 ⟨rfl, rfl⟩) | (refine (len63_any _ x c d cap buf false H.out).mono ?_; rintro e1 w1 ⟨rfl, rfl⟩))
          | (go_at_call 21; refine (size63_any _ x c d cap buf false H.out).mono ?_; rintro e1 w1 ⟨rfl, rfl⟩))
        go_ret
        exact ⟨rfl, rfl⟩
      · have d1 : decide (buf.length < cap) = false := by simpa using hl
        go_wp2_with (first
          | (go_at_call 20; refine (closed63_any _ x c d cap buf false H.out).mono ?_; rintro e1 w1 ⟨rfl, rfl⟩)
          | (go_at_call 19; first | (with_reducible show Calls _ _ #[.pointer none] _ _; refine (len63_nil _).mono ?_; rintro e1 w1 ⟨rfl, rfl⟩) | (refine (len63_any _ x c d cap buf false H.out).mono ?_; rintro e1 w1 ⟨rfl, rfl⟩))
          | (go_at_call 21; refine (size63_any _ x c d cap buf false H.out).mono ?_; rintro e1 w1 ⟨rfl, rfl⟩))
        go_ret
        exact ⟨rfl, rfl⟩
/-- to nothing -/
theorem move63_to_nil (x : Nat) (w : World) : Calls Try.prog 26 #[.pointer (some ⟨x, 0, none⟩), .pointer none] w fun e w' => e = .returned (.int .i64 0) ∧ w' = w := by
  go_enter Try.func26, Try.ntmps26
  go_wp2_with fail
  go_loopw [5] (fun a wr => a = .int .i64 0 ∧ Hid (wr = w)) (fun _ _ => 0)
  case atStart => exact ⟨rfl, rfl⟩
  case round =>
    obtain ⟨rfl, hw⟩ := hrel
    obtain rfl := hw
    go_wp2_with (go_at_call 20; refine (closed63_nil _).mono ?_; rintro e1 w1 ⟨rfl, rfl⟩)
    go_ret
    exact ⟨rfl, rfl⟩

set_option maxRecDepth 100000 in
set_option maxHeartbeats 2000000 in
theorem nils_any (v : Int) (w : World) : Calls Try.prog 5 #[.int .i64 v] w fun e w' => e = .returned (.bool true) ∧ Below w.heap.size w w' := by
  go_enter Try.func5, Try.ntmps5
  go_wp2_with fail
  refine (pop63_nil _).mono ?_
  rintro e0 w0 ⟨rfl, rfl⟩
  go_wp2_with fail
  refine (new63_any 2 _).mono ?_
  rintro e1 w1 ⟨x, c, d, rfl, h1, hx, hc, hd, hb1⟩
  have H1 := Lib.hid h1
  have B1 := Lib.hid hb1
  clear h1 hb1
  go_wp2_with fail
  refine (push63_any w1 x c d (capQ 2) [] false v H1.out true [.int .i64 v] (.inl ⟨rfl, rfl, by decide, rfl⟩)).mono ?_
  rintro e2 w2 ⟨rfl, h2, f2⟩
  have H2 := Lib.hid h2
  have B2 := Lib.hid (B1.out.trans (f2.below (fun k hk => by omega) B1.out.size))
  clear h2 f2
  go_wp2_with (first
    | (go_at_call 24; refine (push63_nil _ _).mono ?_; rintro e3 w3 ⟨rfl, rfl⟩)
    | (go_at_call 19; first | (with_reducible show Calls _ _ #[.pointer none] _ _; refine (len63_nil _).mono ?_; rintro e3 w3 ⟨rfl, rfl⟩) | (refine (len63_any _ x c d _ _ _ H2.out).mono ?_; rintro e3 w3 ⟨rfl, rfl⟩))
    | (go_at_call 21; refine (size63_nil _).mono ?_; rintro e3 w3 ⟨rfl, rfl⟩)
    | (go_at_call 22; refine (drain63_nil _).mono ?_; rintro e3 w3 ⟨rfl, rfl⟩)
    | (go_at_call 20; refine (closed63_nil _).mono ?_; rintro e3 w3 ⟨rfl, rfl⟩)
    | (go_at_call 25; refine (close63_nil _).mono ?_; rintro e3 w3 ⟨rfl, rfl⟩)
    | (go_at_call 26; first | (with_reducible show Calls _ _ #[.pointer none, _] _ _; refine (move63_from_nil _ x c d _ _ _ H2.out).mono ?_; rintro e3 w3 ⟨rfl, rfl⟩) | (refine (move63_to_nil x _).mono ?_; rintro e3 w3 ⟨rfl, rfl⟩))
    | (go_at_call 6; refine (live_any _).mono ?_; rintro e4 w4 ⟨rfl, hb4⟩; have HB4 := Lib.hid hb4; clear hb4))
  go_ret
  exact ⟨rfl, B2.out.trans (HB4.out.mono B2.out.size)⟩
end Go.Proofs.Ytohlcopnifmjoac
