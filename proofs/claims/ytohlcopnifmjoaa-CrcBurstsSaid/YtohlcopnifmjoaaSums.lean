/- CrcSums. -/
import Derived.Test.YtohlcopnifmjoaaWalks
import Derived.ChangeOld
import Derived.Deep.DeepMust
import Derived.OpenShut
namespace Go.Proofs.Ytohlcopnifmjoaa
open Go.RowKit
open CrcM

theorem u8_info : (Try.prog.info? 5).map (fun i => (i.zero, i.size, i.bytes)) = some (some (.int .u8 0), 1, 1) := by kernel_rfl
theorem u8_ty : Ty1 Try.prog 22 5 (.int .u8 0) 1 := ⟨Try.underlying22, by obtain ⟨i, h⟩ := info_parts u8_info; exact ⟨i, h⟩, rfl⟩
theorem of_to (t : W) (A : Option Addr) (m c : Nat) (ps : List Part) (w : World) (hr : Reads w w.heap.size 1 A m (ps.map Part.v)) (hp : ∀ p ∈ ps, p.ok w) (hm : m ≤ maxLen) (ht : ~~~ (addP ones ps) = t) :
    Calls Try.prog 9 #[.slice A m c] w fun e w' => e = .returned (.int .u32 (num t)) ∧ w = w' := by rw [← ht]; exact of_any A m c ps w hr hp hm
theorem end_to (s t : W) (ht : ~~~ s = t) (w : World) : Calls Try.prog 11 #[.int .u32 (num s)] w fun e w' => e = .returned (.int .u32 (num t)) ∧ w = w' := by rw [← ht]; exact end_any s w
theorem add_to (s t : W) (A : Option Addr) (n c : Nat) (zs : List Int) (w : World) (hr : Reads w w.heap.size 1 A n (bytesOf zs)) (hb : ∀ z ∈ zs, 0 ≤ z ∧ z < 256) (hn : n ≤ maxLen) (ht : add s zs = t) :
    Calls Try.prog 7 #[.int .u32 (num s), .slice A n c] w fun e w' => e = .returned (.int .u32 (num t)) ∧ w = w' := by rw [← ht]; exact add_any s A n c zs w hr hb hn
theorem ref_to (t : W) (A : Option Addr) (n c : Nat) (zs : List Int) (w : World) (hr : Reads w w.heap.size 1 A n (bytesOf zs)) (hb : ∀ z ∈ zs, 0 ≤ z ∧ z < 256) (hn : n ≤ maxLen) (ht : of zs = t) :
    Calls Try.prog 10 #[.slice A n c] w fun e w' => e = .returned (.int .u32 (num t)) ∧ w = w' := by rw [← ht]; exact ref_any A n c zs w hr hb hn

set_option maxHeartbeats 1000000 in
theorem sums_any (A : Option Addr) (n c : Nat) (zs : List Int) (z : Int) (w : World) (hr : Reads w w.heap.size 1 A n (bytesOf zs)) (hb : ∀ z ∈ zs, 0 ≤ z ∧ z < 256) (hz0 : 0 ≤ z) (hz1 : z < 256) (hn : n ≤ maxLen) :
    Calls Try.prog 3 #[.slice A n c, .int .u8 z] w fun e w' => e = .returned (.bool true) ∧ Below w.heap.size w w' := by
  unfold maxLen at hn
  by_cases hlt : 300 < n
  · go_enter Try.func3, Try.ntmps3
    go_wp2_with (go_at_call 6; refine (live_any _).mono ?_; rintro e w' ⟨rfl, hb1⟩)
    go_ret
    exact ⟨rfl, hb1⟩
  · obtain ⟨s, hs⟩ : ∃ s, add ones zs = s := ⟨_, rfl⟩
    obtain ⟨t, ht⟩ : ∃ t, of zs = t := ⟨_, rfl⟩
    obtain ⟨u, hu⟩ : ∃ u, of (zs ++ [z]) = u := ⟨_, rfl⟩
    obtain ⟨v, hv⟩ : ∃ v, add s [z] = v := ⟨_, rfl⟩
    have e1 : ~~~ s = t := by rw [← hs, ← ht]; rfl
    have e2 : ~~~ v = u := by rw [← hv, ← hu, ← hs, ← add_append]; rfl
    have HR := Lib.hid hr
    have HB := Lib.hid hb
    have Hs := Lib.hid hs
    have Ht := Lib.hid ht
    have Hu := Lib.hid hu
    have Hv := Lib.hid hv
    have E1 := Lib.hid e1
    have E2 := Lib.hid e2
    clear hr hb hs ht hu hv e1 e2
    go_enter Try.func3, Try.ntmps3
    go_wp2_with fail
    refine (start_any _).mono ?_
    rintro e w' ⟨rfl, rfl⟩
    go_wp2_with fail
    refine (add_to ones s _ _ _ zs _ HR.out HB.out hn Hs.out).mono ?_
    rintro e w' ⟨rfl, rfl⟩
    go_wp2_with fail
    refine (of_to t _ _ _ [⟨A, n, c, zs⟩] _ ?_ ?_ (by simp [maxLen]) ?_).mono ?_
    · have := reads_new w 22 (0, 0) [.slice A n c]; simpa [Part.v] using this
    · intro p hp; simp at hp; subst hp
      exact ⟨(HR.out.alloc (Nat.le_refl _) _).more (by simp), HB.out, hn⟩
    · rw [← E1.out, ← Hs.out]; rfl
    rintro e w' ⟨rfl, rfl⟩
    go_wp2_with fail
    refine (ref_to t _ _ _ zs _ ((HR.out.alloc (Nat.le_refl _) _).more (by simp)) HB.out hn Ht.out).mono ?_
    rintro e w' ⟨rfl, rfl⟩
    go_wp2_with fail
    refine (end_to s t E1.out _).mono ?_
    rintro e w' ⟨rfl, rfl⟩
    go_wp2_with fail
    refine (ref_to t _ _ _ zs _ ((HR.out.alloc (Nat.le_refl _) _).more (by simp)) HB.out hn Ht.out).mono ?_
    rintro e w' ⟨rfl, rfl⟩
    go_wp2_with fail
    refine (add_to s v _ _ _ [z] _ ?_ (by intro y hy; simp at hy; omega) (by simp [maxLen]) Hv.out).mono ?_
    · have := reads_new (w.alloc (.cells #[.slice A n c] 22)) 5 (0, 0) [.int .u8 z]; simpa [bytesOf] using this
    rintro e w' ⟨rfl, rfl⟩
    go_wp2_with fail
    refine (end_to v u E2.out _).mono ?_
    rintro e w' ⟨rfl, rfl⟩
    have b3 : Below w.heap.size w (((w.alloc (.cells #[.slice A n c] 22)).alloc (.cells #[.int .u8 z] 5)).alloc (.cells #[] 5)) := (((Below.refl _ _).alloc (Nat.le_refl _) _).alloc (by simp) _).alloc (by simp; omega) _
    have own3 := World.ownsRow_made (base := w.heap.size) (e := 5) (size := 1) ((w.alloc (.cells #[.slice A n c] 22)).alloc (.cells #[.int .u8 z] 5)) #[] 0 (by simp; omega) (by simp) (by simp)
    simp only [World.size_alloc] at own3
    have R3 := Lib.hid (HR.out.over b3)
    have B3 := Lib.hid b3
    have O3 := Lib.hid own3
    clear b3 own3
    have tok1 : True := trivial
    go_wp2_with (first
      | (at_builtin
         have _t := tok1
         go_must (
           refine wpList_app1 _ u8_ty rfl (.tmp 32) (.tmp 33) rfl rfl B3.out O3.out rfl R3.out (bytesOf_one zs) (by unfold maxLen; omega) (by omega) ?_
           intro A4 c4 w4 b4 own4 hg4 hat4
           have B4 := Lib.hid b4
           simp only [Nat.zero_add, List.nil_append] at own4 ⊢
           have O4 := Lib.hid own4
           clear own4 hg4 hat4 tok1 _t b4))
      | (at_builtin
         go_must (
           refine wpList_app1 _ u8_ty rfl (.tmp 34) (.tmp 36) rfl rfl (B4.out.alloc B4.out.size _) (O4.out.alloc _) rfl (reads_new _ 5 (0, 0) [.int .u8 z]) (bytesOf_one [z]) (by unfold maxLen; omega) (by omega) ?_
           intro A5 c5 w5 b5 own5 hg5 hat5
           have B5 := Lib.hid b5
           have O5 := Lib.hid own5
           clear own5 hg5 hat5 b5)))
    refine (ref_to u _ _ _ (zs ++ [z]) _ ?_ ?_ (by unfold maxLen; omega) Hu.out).mono ?_
    · have := Reads.of_own O5.out; simpa [bytesOf] using this
    · intro y hy
      rcases List.mem_append.1 hy with h | h
      · exact HB.out y h
      · simp at h; omega
    rintro e w' ⟨rfl, rfl⟩
    go_wp2_with fail
    refine (live_any _).mono ?_
    rintro e w' ⟨rfl, hb6⟩
    go_wp2_with fail
    go_ret
    exact ⟨rfl, B5.out.trans (hb6.mono B5.out.size)⟩
end Go.Proofs.Ytohlcopnifmjoaa
