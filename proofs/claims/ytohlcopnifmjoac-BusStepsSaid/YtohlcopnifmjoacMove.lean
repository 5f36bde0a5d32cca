/- bus: the program's Move; the reference's SameList. -/
import Derived.Test.YtohlcopnifmjoacTwo
namespace Go.Proofs.Ytohlcopnifmjoac
open Go.RowKit

theorem drop_ints {l : List Int} {k : Nat} (h : k < l.length) : ints (l.drop k) = .int .i64 l[k] :: ints (l.drop (k + 1)) := by
  rw [List.drop_eq_getElem_cons h]
  rfl
theorem take_ints {l lb : List Int} {k : Nat} (h : k < l.length) : ints (lb ++ l.take k) ++ [.int .i64 l[k]] = ints (lb ++ l.take (k + 1)) := by
  rw [show [Value.int .i64 l[k]] = ints [l[k]] from rfl, ints_append, List.append_assoc, List.take_add_one, List.getElem?_eq_getElem h]
  rfl
/-- a move to itself -/
theorem move63_same (x : Nat) (w : World) : Calls Try.prog 26 #[.pointer (some ⟨x, 0, none⟩), .pointer (some ⟨x, 0, none⟩)] w fun e w' => e = .returned (.int .i64 0) ∧ w' = w := by
  have hneq := neq_same_ptr x
  go_enter Try.func26, Try.ntmps26
  go_wp2_with fail
  go_loopw [5] (fun a wr => a = .int .i64 0 ∧ Hid (wr = w)) (fun _ _ => 0)
  case atStart => exact ⟨rfl, rfl⟩
  case round =>
    obtain ⟨rfl, hw⟩ := hrel
    obtain rfl := hw
    go_wp2_with fail
    go_ret
    exact ⟨rfl, rfl⟩
set_option maxRecDepth 100000 in
set_option maxHeartbeats 2000000 in
theorem move63_any {w : World} {x c d Sa : Nat} {La : List Int} {Ca : Bool} {x' c' d' Sb : Nat} {Lb : List Int} {Cb : Bool} (h : Two w x c d Sa La Ca x' c' d' Sb Lb Cb) (hl : La.length ≤ 4096) (m : Nat) (hm : m = mv Cb Sb La.length Lb.length) :
    Calls Try.prog 26 #[.pointer (some ⟨x, 0, none⟩), .pointer (some ⟨x', 0, none⟩)] w fun e w' => e = .returned (.int .i64 m) ∧ Two w' x c d Sa (La.drop m) Ca x' c' d' Sb (Lb ++ La.take m) Cb ∧ Fr (OT c d c' d') w w' := by
  have H := Lib.hid h
  have hx := h.hx
  have HM := Lib.hid hm
  have hmn : m ≤ La.length := by rw [hm]; unfold mv; split <;> omega
  clear h hm
  cases Cb with
  | true =>
    have hm0 : m = 0 := by have := HM.out; unfold mv at this; simpa using this
    subst hm0
    have hneq := neq_other_ptr H.out.qa H.out.qb hx
    go_enter Try.func26, Try.ntmps26
    go_wp2_with fail
    go_loopw [5] (fun a wr => a = .int .i64 0 ∧ Hid (wr = w)) (fun _ _ => 0)
    case atStart => exact ⟨rfl, rfl⟩
    case round =>
      obtain ⟨rfl, hw⟩ := hrel
      obtain rfl := hw
      go_wp2_with (go_at_call 20; refine (closed63_any _ x' c' d' Sb _ true H.out.qb).mono ?_; rintro e1 w1 ⟨rfl, rfl⟩)
      go_ret
      exact ⟨rfl, by simpa using H.out, Fr.refl⟩
  | false =>
    have HM' : Hid (m = min La.length (Sb - Lb.length)) := Lib.hid (by have := HM.out; unfold mv at this; simpa using this)
    clear HM
    go_enter Try.func26, Try.ntmps26
    go_wp2_with fail
    go_loopw [5] (fun a wr => ∃ k : Nat, k ≤ m ∧ a = .int .i64 k ∧ Hid (Two wr x c d Sa (La.drop k) Ca x' c' d' Sb (Lb ++ La.take k) false) ∧ Hid (Fr (OT c d c' d') w wr)) (fun a _ => m - (intOf a).toNat)
    case atStart => exact ⟨0, Nat.zero_le _, rfl, by simpa using H, Lib.hid Fr.refl⟩
    case round =>
      obtain ⟨k, hk, rfl, HT, HF⟩ := hrel
      clear H
      have hneq := neq_other_ptr HT.out.qa HT.out.qb hx
      have hlb : (ints (Lb ++ La.take k)).length = Lb.length + k := by rw [ints_length, List.length_append, List.length_take]; omega
      have hla : (ints (La.drop k)).length = La.length - k := by rw [ints_length, List.length_drop]
      by_cases hlt : k < m
      · have hkl : k < La.length := by omega
        have hb : (ints (Lb ++ La.take k)).length < Sb := by have := HM'.out; omega
        have d1 : decide ((ints (Lb ++ La.take k)).length < Sb) = true := by simpa using hb
        have hpos : (0 : Int) < (ints (La.drop k)).length := by rw [hla]; omega
        have d0 : decide (0 < (ints (La.drop k)).length) = true := by simp; omega
        have HB := Lib.hid hb
        have HDR := Lib.hid (drop_ints hkl)
        have HTK := Lib.hid (take_ints (lb := Lb) hkl)
        clear hlb hla hb
        go_wp2_with (first
          | (go_at_call 20; refine (closed63_any _ x' c' d' Sb _ false HT.out.qb).mono ?_; rintro e1 w1 ⟨rfl, rfl⟩)
          | (go_at_call 19; first | (with_reducible show Calls _ _ #[.pointer (some ⟨x', 0, none⟩)] _ _; refine (len63_any _ x' c' d' Sb _ false HT.out.qb).mono ?_; rintro e1 w1 ⟨rfl, rfl⟩) | (refine (len63_any _ x c d Sa _ Ca HT.out.qa).mono ?_; rintro e1 w1 ⟨rfl, rfl⟩))
          | (go_at_call 21; refine (size63_any _ x' c' d' Sb _ false HT.out.qb).mono ?_; rintro e1 w1 ⟨rfl, rfl⟩))
        clear hneq d1 hpos d0
        have hq := HT.out.qa
        rw [HDR.out] at hq
        refine (pop63_some _ x c d Sa _ _ Ca hq).mono ?_
        rintro e2 w2 ⟨rfl, hq2, hf2⟩
        have ht2 := HT.out.opA hq2 hf2.chan1
        have hF2 := HF.out.trans hf2.chan1.toA
        have HT2 := Lib.hid ht2
        have HF2 := Lib.hid hF2
        clear hq hq2 hf2 ht2 hF2 HT HF
        go_wp2_with fail
        refine (push63_any _ x' c' d' Sb _ false _ HT2.out.qb true _ (.inl ⟨rfl, rfl, HB.out, rfl⟩)).mono ?_
        rintro e3 w3 ⟨rfl, hq3, hf3⟩
        rw [HTK.out] at hq3
        have HT3 := Lib.hid (HT2.out.opB hq3 hf3.chan1)
        have HF3 := Lib.hid (HF2.out.trans hf3.chan1.toB)
        clear hq3 hf3 HT2 HF2
        go_wp2_with fail
        exact ⟨⟨k + 1, by omega, by go_num, HT3, HF3⟩, by simp [intOf]; omega⟩
      · obtain rfl : k = m := by omega
        by_cases hb : (ints (Lb ++ La.take k)).length < Sb
        · have d1 : decide ((ints (Lb ++ La.take k)).length < Sb) = true := by simpa using hb
          have hkl : (ints (La.drop k)).length = 0 := by have := HM'.out; omega
          have d0 : decide (0 < (ints (La.drop k)).length) = false := decide_eq_false (by omega)
          have hpos : ¬ (0 : Int) < (ints (La.drop k)).length := by rw [hkl]; omega
          clear hlb hla hb hkl hpos
          go_wp2_with (first
            | (go_at_call 20; refine (closed63_any _ x' c' d' Sb _ false HT.out.qb).mono ?_; rintro e1 w1 ⟨rfl, rfl⟩)
            | (go_at_call 19; first | (with_reducible show Calls _ _ #[.pointer (some ⟨x', 0, none⟩)] _ _; refine (len63_any _ x' c' d' Sb _ false HT.out.qb).mono ?_; rintro e1 w1 ⟨rfl, rfl⟩) | (refine (len63_any _ x c d Sa _ Ca HT.out.qa).mono ?_; rintro e1 w1 ⟨rfl, rfl⟩))
            | (go_at_call 21; refine (size63_any _ x' c' d' Sb _ false HT.out.qb).mono ?_; rintro e1 w1 ⟨rfl, rfl⟩))
          go_ret
          exact ⟨rfl, HT.out, HF.out⟩
        · have d1 : decide ((ints (Lb ++ La.take k)).length < Sb) = false := by simpa using hb
          clear hlb hla hb
          go_wp2_with (first
            | (go_at_call 20; refine (closed63_any _ x' c' d' Sb _ false HT.out.qb).mono ?_; rintro e1 w1 ⟨rfl, rfl⟩)
            | (go_at_call 19; refine (len63_any _ x' c' d' Sb _ false HT.out.qb).mono ?_; rintro e1 w1 ⟨rfl, rfl⟩)
            | (go_at_call 21; refine (size63_any _ x' c' d' Sb _ false HT.out.qb).mono ?_; rintro e1 w1 ⟨rfl, rfl⟩))
          go_ret
          exact ⟨rfl, HT.out, HF.out⟩
set_option maxHeartbeats 1000000 in
theorem samelist_any (A A' : Option Addr) (n c c' : Nat) (l : List Int) (w : World) (hn : n ≤ 1000000) (h : RRow w A n c l) (h' : RRow w A' n c' l) :
    Calls Try.prog 18 #[.slice A n c, .slice A' n c'] w fun e w' => e = .returned (.bool true) ∧ ∃ d, w' = w.drewN d := by
  go_enter Try.func18, Try.ntmps18
  go_wp2_with fail
  go_loopw [5] (fun i wr => ∃ k : Nat, k ≤ n ∧ i = .int .i64 k ∧ Hid (∃ d, wr = w.drewN d)) (fun i _ => n - (intOf i).toNat)
  case atStart => exact ⟨0, Nat.zero_le _, rfl, 0, rfl⟩
  case round =>
    obtain ⟨k, hk, rfl, HD⟩ := hrel
    obtain ⟨d, rfl⟩ := HD.out
    clear HD
    by_cases hlt : k < n
    · obtain ⟨b, off, rfl, _, hl1, hc0⟩ := h.hr.int hlt
      obtain ⟨b', off', rfl, _, hl2, hc0'⟩ := h'.hr.int hlt
      have hlt' : (k : Int) < (n : Int) := by omega
      have h0' : (0 : Int) ≤ (k : Int) := by omega
      go_wp2
      go_quiet (fail)
      go_wp2
      exact ⟨⟨k + 1, by omega, by go_num, _, rfl⟩, by simp [intOf]; omega⟩
    · go_wp2
      go_ret
      exact ⟨rfl, d, rfl⟩
end Go.Proofs.Ytohlcopnifmjoac
