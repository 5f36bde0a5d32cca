/- bus: New, Len, Size, for names. -/
import Derived.Test.YtohlcopnifmjoacSmall
import Derived.Test.YtohlcopnifmjoacQueueI
namespace Go.Proofs.Ytohlcopnifmjoac
open Go.RowKit Go.Conc

theorem bytes28 : ∃ i, Try.prog.info? 28 = some i ∧ i.bytes = 16 := by
  have h : (Try.prog.info? 28).map (·.bytes) = some 16 := by kernel_rfl
  obtain ⟨i, hi, hb⟩ := Option.map_eq_some_iff.1 h
  exact ⟨i, hi, hb⟩
theorem mk60 (k : Nat) (hk : k ≤ 4096) (w : World) : (Instr.makeChan 57 (.int .i64 (k : Int))).run Try.prog w = .ok (.chan (some w.heap.size)) (w.alloc (.chan k #[] false 0 0 false)) := by
  obtain ⟨i, hi, hb⟩ := bytes28
  simpa using run_makeChan (P := Try.prog) (w := w) Try.underlying57 hi .i64 k (by omega) (by rw [hb]; omega)
set_option maxRecDepth 100000 in
set_option maxHeartbeats 1000000 in
theorem new60_any (n : Int) (w : World) : Calls Try.prog 7 #[.int .i64 n] w (NewPost 60 w n) := by
  have hmd := mkDone
  by_cases h1 : n < 1
  · have HC : Hid (capQ n = 1) := by unfold capQ; rw [if_pos h1]; trivial
    have hmk : ∀ w, (Instr.makeChan 57 (.int .i64 1)).run Try.prog w = .ok (.chan (some w.heap.size)) (w.alloc (.chan 1 #[] false 0 0 false)) := mk60 1 (by omega)
    have NC := Lib.hid (new_cd (t := 60) (w := w) HC.out)
    have ND := Lib.hid (new_dc (t := 60) (w := w) HC.out)
    go_enter Try.func7, Try.ntmps7
    go_wp2_with fail
    go_region_law (fail)
    all_goals (
      go_wp2_with fail
      go_ret
      first | exact NC.out.drew | exact ND.out.drew)
  have e1 : (if n < 1 then 1 else n) = n := if_neg h1
  by_cases h2 : 4096 < n
  · have e2 : (if 4096 < n then 4096 else n) = 4096 := if_pos h2
    have HC : Hid (capQ n = 4096) := by unfold capQ; rw [if_neg h1, if_pos h2]; trivial
    have hmk : ∀ w, (Instr.makeChan 57 (.int .i64 4096)).run Try.prog w = .ok (.chan (some w.heap.size)) (w.alloc (.chan 4096 #[] false 0 0 false)) := mk60 4096 (by omega)
    have NC := Lib.hid (new_cd (t := 60) (w := w) HC.out)
    have ND := Lib.hid (new_dc (t := 60) (w := w) HC.out)
    go_enter Try.func7, Try.ntmps7
    go_wp2_with fail
    go_region_law (fail)
    all_goals (
      go_wp2_with fail
      go_ret
      first | exact NC.out.drew | exact ND.out.drew)
  have e2 : (if 4096 < n then 4096 else n) = n := if_neg h2
  obtain ⟨k, rfl⟩ := Int.eq_ofNat_of_zero_le (by omega : 0 ≤ n)
  have HC : Hid (capQ (k : Int) = k) := by unfold capQ; rw [if_neg h1, if_neg h2]; exact Int.toNat_natCast k
  have hmk := mk60 k (by omega)
  have NC := Lib.hid (new_cd (t := 60) (w := w) HC.out)
  have ND := Lib.hid (new_dc (t := 60) (w := w) HC.out)
  go_enter Try.func7, Try.ntmps7
  go_wp2_with fail
  go_region_law (fail)
  all_goals (
    go_wp2_with fail
    go_ret
    first | exact NC.out.drew | exact ND.out.drew)
theorem len60_any (w : World) (x c d cap : Nat) (buf : List Value) (cl : Bool) (h : QObj 60 w x c d cap buf cl) : Calls Try.prog 9 #[.pointer (some ⟨x, 0, none⟩)] w fun e w' => e = .returned (.int .i64 buf.length) ∧ w' = w := by
  have x0 := blk0 h.hx
  obtain ⟨s, r, hc⟩ := h.hc
  have hlen := fun ty => run_len_chan (P := Try.prog) (w := w) 57 ty Try.underlying57 hc
  clear h
  go_enter Try.func9, Try.ntmps9
  go_wp2_with fail
  go_ret
  exact ⟨by simp, rfl⟩
theorem len60_nil (w : World) : Calls Try.prog 9 #[.pointer none] w fun e w' => e = .returned (.int .i64 0) ∧ w' = w := by
  go_enter Try.func9, Try.ntmps9
  go_wp2_with fail
  go_ret
  exact ⟨rfl, rfl⟩
theorem size60_any (w : World) (x c d cap : Nat) (buf : List Value) (cl : Bool) (h : QObj 60 w x c d cap buf cl) : Calls Try.prog 10 #[.pointer (some ⟨x, 0, none⟩)] w fun e w' => e = .returned (.int .i64 cap) ∧ w' = w := by
  have x0 := blk0 h.hx
  obtain ⟨s, r, hc⟩ := h.hc
  have hlen := fun ty => run_cap_chan (P := Try.prog) (w := w) 57 ty Try.underlying57 hc
  clear h
  go_enter Try.func10, Try.ntmps10
  go_wp2_with fail
  go_ret
  exact ⟨rfl, rfl⟩
theorem size60_nil (w : World) : Calls Try.prog 10 #[.pointer none] w fun e w' => e = .returned (.int .i64 0) ∧ w' = w := by
  go_enter Try.func10, Try.ntmps10
  go_wp2_with fail
  go_ret
  exact ⟨rfl, rfl⟩
end Go.Proofs.Ytohlcopnifmjoac
