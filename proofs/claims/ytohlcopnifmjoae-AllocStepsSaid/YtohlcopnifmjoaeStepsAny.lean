/- alloc: what each step tells, for every input. -/
import Derived.Test.YtohlcopnifmjoaeStepsHi
namespace Go.Proofs.Ytohlcopnifmjoae
open Go.RowKit

set_option maxRecDepth 100000 in
set_option maxHeartbeats 2000000 in
theorem steps_any (n : Int) (A : Option Addr) (nn c : Nat) (ss : List StV) (p : Int) (w : World) (hn : i64ok n) (ok : (⟨A, nn, c, ss⟩ : Stp).ok w) :
    Calls Try.prog 3 #[.int .i64 n, .slice A nn c, .int .i64 p] w fun e w' => e = .returned (.bool true) ∧ Below w.heap.size w w' := by
  have HL := Lib.hid ok.len
  have OK := Lib.hid ok
  clear ok
  dsimp only at HL
  cases hmu : muchB ss with
  | true =>
    have HM := Lib.hid hmu
    clear hmu
    go_enter Try.func3, Try.ntmps3
    go_wp2_with fail
    refine (much_any A nn c ss _ OK.out).mono ?_
    rintro e w' ⟨rfl, rfl⟩
    rw [HM.out]
    go_wp2_with (go_at_call 7; refine (live_any _).mono ?_; rintro e w' ⟨rfl, hb⟩; have HB := Lib.hid hb; clear hb)
    go_ret
    exact ⟨rfl, HB.out⟩
  | false =>
  have HM := Lib.hid hmu
  have hn50 : nn ≤ 50 := by rw [← HL.out]; exact (muchB_false hmu).1
  have H30 := Lib.hid (muchB_false hmu).2
  clear hmu
  by_cases h1 : n ≤ 50
  · exact steps_low n h1 A nn c ss hn50 HM H30 p w (Lib.hid hn) OK
  by_cases h2 : 1024 ≤ n
  · exact steps_high n h2 A nn c ss hn50 HM H30 p w (Lib.hid hn) OK
  go_enter Try.func3, Try.ntmps3
  go_wp2_with fail
  refine (much_any A nn c ss _ OK.out).mono ?_
  rintro e w' ⟨rfl, rfl⟩
  rw [HM.out]
  go_wp2_with (go_at_call 7; refine (live_any _).mono ?_; rintro e w' ⟨rfl, hb⟩; have HB := Lib.hid hb; clear hb)
  go_ret
  exact ⟨rfl, HB.out⟩
end Go.Proofs.Ytohlcopnifmjoae
