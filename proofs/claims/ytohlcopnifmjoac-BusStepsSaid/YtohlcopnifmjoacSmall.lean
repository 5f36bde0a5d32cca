/- bus: New, Len, Size. -/
import Derived.Test.YtohlcopnifmjoacQueue
import Derived.Deep.RegionLaw
namespace Go.Proofs.Ytohlcopnifmjoac
open Go.RowKit Go.Conc

def capQ (n : Int) : Nat := if n < 1 then 1 else if 4096 < n then 4096 else n.toNat
theorem capQ_pos (n : Int) : 1 ≤ capQ n := by unfold capQ; split <;> (try split) <;> omega
theorem capQ_le (n : Int) : capQ n ≤ 4096 := by unfold capQ; split <;> (try split) <;> omega
def NewPost (t : TypeId) (w : World) (n : Int) (e : Ending) (w' : World) : Prop :=
  ∃ x c d, e = .returned (.pointer (some ⟨x, 0, none⟩)) ∧ QObj t w' x c d (capQ n) [] false ∧ w.heap.size ≤ x ∧ w.heap.size ≤ c ∧ w.heap.size ≤ d ∧ Below w.heap.size w w'
theorem new_cd {t : TypeId} {w : World} {n : Int} {k : Nat} (hk : capQ n = k) : NewPost t w n (.returned (.pointer (some ⟨w.heap.size + 1 + 1, 0, none⟩))) (((w.alloc (.chan k #[] false 0 0 false)).alloc (.chan 0 #[] false 0 0 false)).alloc (.cells #[.chan (some w.heap.size), .chan (some (w.heap.size + 1))] t)) := by
  have hb : Below w.heap.size w (((w.alloc (.chan k #[] false 0 0 false)).alloc (.chan 0 #[] false 0 0 false)).alloc (.cells #[.chan (some w.heap.size), .chan (some (w.heap.size + 1))] t)) := (((Below.refl _ _).alloc (Nat.le_refl _) _).alloc (by simp) _).alloc (by simp; omega) _
  refine ⟨w.heap.size + 1 + 1, w.heap.size, w.heap.size + 1, rfl, ⟨?_, ⟨0, 0, ?_⟩, ?_, capQ_pos n⟩, by omega, by omega, by omega, hb⟩
  · have := Blk.new ((w.alloc (.chan k #[] false 0 0 false)).alloc (.chan 0 #[] false 0 0 false)) t #[.chan (some w.heap.size), .chan (some (w.heap.size + 1))]
    simpa using this
  · rw [hk, Below.heap_alloc _ _ _ (by simp; omega), Below.heap_alloc _ _ _ (by simp)]
    exact heap_alloc_new w _
  · rw [Below.heap_alloc _ _ _ (by simp)]
    have := heap_alloc_new (w.alloc (.chan k #[] false 0 0 false)) (.chan 0 #[] false 0 0 false)
    simpa only [World.size_alloc] using this
theorem new_dc {t : TypeId} {w : World} {n : Int} {k : Nat} (hk : capQ n = k) : NewPost t w n (.returned (.pointer (some ⟨w.heap.size + 1 + 1, 0, none⟩))) (((w.alloc (.chan 0 #[] false 0 0 false)).alloc (.chan k #[] false 0 0 false)).alloc (.cells #[.chan (some (w.heap.size + 1)), .chan (some w.heap.size)] t)) := by
  have hb : Below w.heap.size w (((w.alloc (.chan 0 #[] false 0 0 false)).alloc (.chan k #[] false 0 0 false)).alloc (.cells #[.chan (some (w.heap.size + 1)), .chan (some w.heap.size)] t)) := (((Below.refl _ _).alloc (Nat.le_refl _) _).alloc (by simp) _).alloc (by simp; omega) _
  refine ⟨w.heap.size + 1 + 1, w.heap.size + 1, w.heap.size, rfl, ⟨?_, ⟨0, 0, ?_⟩, ?_, capQ_pos n⟩, by omega, by omega, by omega, hb⟩
  · have := Blk.new ((w.alloc (.chan 0 #[] false 0 0 false)).alloc (.chan k #[] false 0 0 false)) t #[.chan (some (w.heap.size + 1)), .chan (some w.heap.size)]
    simpa using this
  · rw [hk, Below.heap_alloc _ _ _ (by simp)]
    have := heap_alloc_new (w.alloc (.chan 0 #[] false 0 0 false)) (.chan k #[] false 0 0 false)
    simpa only [World.size_alloc] using this
  · rw [Below.heap_alloc _ _ _ (by simp; omega), Below.heap_alloc _ _ _ (by simp)]
    exact heap_alloc_new w _
theorem NewPost.drew {t : TypeId} {w w' : World} {n : Int} {e : Ending} (h : NewPost t w n e w') : NewPost t w n e w'.drew := by
  obtain ⟨x, c, d, he, hq, h1, h2, h3, hb⟩ := h
  exact ⟨x, c, d, he, hq.keep rfl rfl rfl, h1, h2, h3, hb.drew⟩
theorem bytes68 : ∃ i, Try.prog.info? 68 = some i ∧ i.bytes = 0 := by
  have h : (Try.prog.info? 68).map (·.bytes) = some 0 := by kernel_rfl
  obtain ⟨i, hi, hb⟩ := Option.map_eq_some_iff.1 h
  exact ⟨i, hi, hb⟩
theorem mkDone (w : World) : (Instr.makeChan 58 (.int .i64 0)).run Try.prog w = .ok (.chan (some w.heap.size)) (w.alloc (.chan 0 #[] false 0 0 false)) := by
  obtain ⟨i, hi, hb⟩ := bytes68
  simpa using run_makeChan (P := Try.prog) (w := w) Try.underlying58 hi .i64 0 (by omega) (by rw [hb]; omega)

theorem bytes3 : ∃ i, Try.prog.info? 3 = some i ∧ i.bytes = 8 := by
  have h : (Try.prog.info? 3).map (·.bytes) = some 8 := by kernel_rfl
  obtain ⟨i, hi, hb⟩ := Option.map_eq_some_iff.1 h
  exact ⟨i, hi, hb⟩
theorem mk63 (k : Nat) (hk : k ≤ 4096) (w : World) : (Instr.makeChan 61 (.int .i64 (k : Int))).run Try.prog w = .ok (.chan (some w.heap.size)) (w.alloc (.chan k #[] false 0 0 false)) := by
  obtain ⟨i, hi, hb⟩ := bytes3
  simpa using run_makeChan (P := Try.prog) (w := w) Try.underlying61 hi .i64 k (by omega) (by rw [hb]; omega)
set_option maxRecDepth 100000 in
set_option maxHeartbeats 1000000 in
theorem new63_any (n : Int) (w : World) : Calls Try.prog 14 #[.int .i64 n] w (NewPost 63 w n) := by
  have hmd := mkDone
  by_cases h1 : n < 1
  · have HC : Hid (capQ n = 1) := by unfold capQ; rw [if_pos h1]; trivial
    have hmk : ∀ w, (Instr.makeChan 61 (.int .i64 1)).run Try.prog w = .ok (.chan (some w.heap.size)) (w.alloc (.chan 1 #[] false 0 0 false)) := mk63 1 (by omega)
    have NC := Lib.hid (new_cd (t := 63) (w := w) HC.out)
    have ND := Lib.hid (new_dc (t := 63) (w := w) HC.out)
    go_enter Try.func14, Try.ntmps14
    go_wp2_with fail
    go_region_law (fail)
    all_goals (
      go_wp2_with fail
      go_ret
      first | exact NC.out.drew | exact ND.out.drew)
  have e1 : (if n < 1 then 1 else n) = n := if_neg h1
  by_cases h2 : 4096 < n
  · have e2 : (if 4096 < n then 4096 else n) = 4096 := if_pos h2
    have HC : Hid (capQ n = 4096) := by unfold capQ; rw [if_neg h1, if_pos h2]; trivial
    have hmk : ∀ w, (Instr.makeChan 61 (.int .i64 4096)).run Try.prog w = .ok (.chan (some w.heap.size)) (w.alloc (.chan 4096 #[] false 0 0 false)) := mk63 4096 (by omega)
    have NC := Lib.hid (new_cd (t := 63) (w := w) HC.out)
    have ND := Lib.hid (new_dc (t := 63) (w := w) HC.out)
    go_enter Try.func14, Try.ntmps14
    go_wp2_with fail
    go_region_law (fail)
    all_goals (
      go_wp2_with fail
      go_ret
      first | exact NC.out.drew | exact ND.out.drew)
  have e2 : (if 4096 < n then 4096 else n) = n := if_neg h2
  obtain ⟨k, rfl⟩ := Int.eq_ofNat_of_zero_le (by omega : 0 ≤ n)
  have HC : Hid (capQ (k : Int) = k) := by unfold capQ; rw [if_neg h1, if_neg h2]; exact Int.toNat_natCast k
  have hmk := mk63 k (by omega)
  have NC := Lib.hid (new_cd (t := 63) (w := w) HC.out)
  have ND := Lib.hid (new_dc (t := 63) (w := w) HC.out)
  go_enter Try.func14, Try.ntmps14
  go_wp2_with fail
  go_region_law (fail)
  all_goals (
    go_wp2_with fail
    go_ret
    first | exact NC.out.drew | exact ND.out.drew)
theorem len63_any (w : World) (x c d cap : Nat) (buf : List Value) (cl : Bool) (h : QObj 63 w x c d cap buf cl) : Calls Try.prog 19 #[.pointer (some ⟨x, 0, none⟩)] w fun e w' => e = .returned (.int .i64 buf.length) ∧ w' = w := by
  have x0 := blk0 h.hx
  obtain ⟨s, r, hc⟩ := h.hc
  have hlen := fun ty => run_len_chan (P := Try.prog) (w := w) 61 ty Try.underlying61 hc
  clear h
  go_enter Try.func19, Try.ntmps19
  go_wp2_with fail
  go_ret
  exact ⟨by simp, rfl⟩
theorem len63_nil (w : World) : Calls Try.prog 19 #[.pointer none] w fun e w' => e = .returned (.int .i64 0) ∧ w' = w := by
  go_enter Try.func19, Try.ntmps19
  go_wp2_with fail
  go_ret
  exact ⟨rfl, rfl⟩
theorem size63_any (w : World) (x c d cap : Nat) (buf : List Value) (cl : Bool) (h : QObj 63 w x c d cap buf cl) : Calls Try.prog 21 #[.pointer (some ⟨x, 0, none⟩)] w fun e w' => e = .returned (.int .i64 cap) ∧ w' = w := by
  have x0 := blk0 h.hx
  obtain ⟨s, r, hc⟩ := h.hc
  have hlen := fun ty => run_cap_chan (P := Try.prog) (w := w) 61 ty Try.underlying61 hc
  clear h
  go_enter Try.func21, Try.ntmps21
  go_wp2_with fail
  go_ret
  exact ⟨rfl, rfl⟩
theorem size63_nil (w : World) : Calls Try.prog 21 #[.pointer none] w fun e w' => e = .returned (.int .i64 0) ∧ w' = w := by
  go_enter Try.func21, Try.ntmps21
  go_wp2_with fail
  go_ret
  exact ⟨rfl, rfl⟩
end Go.Proofs.Ytohlcopnifmjoac
