/- CrcParts: the walk. -/
import Derived.Test.YtohlcopnifmjoaaSums
namespace Go.Proofs.Ytohlcopnifmjoaa
open Go.RowKit
open CrcM

theorem Part.ok.over {p : Part} {w w' : World} (h : p.ok w) (hb : Below w.heap.size w w') : p.ok w' := ⟨h.1.over hb, h.2⟩
theorem part_new {w : World} {b : Nat} {A : Option Addr} {n c : Nat} {zs : List Int} (h : w.ownsRow b 5 1 (.slice A n c) n (bytesOf zs)) (hz : ∀ z ∈ zs, 0 ≤ z ∧ z < 256) (hn : n ≤ maxLen) : (⟨A, n, c, zs⟩ : Part).ok w :=
  ⟨Reads.of_own h, hz, hn⟩

set_option maxHeartbeats 2000000 in
theorem parts_any (pa pb pc : Part) (w : World) (ha : pa.ok w) (hb : pb.ok w) (hc : pc.ok w) (la : pa.n ≤ 140737488355328) (lb : pb.n ≤ 140737488355328) (lc : pc.n ≤ 140737488355328) :
    Calls Try.prog 4 #[.slice pa.A pa.n pa.c, .slice pb.A pb.n pb.c, .slice pc.A pc.n pc.c] w fun e w' => e = .returned (.bool true) ∧ Below w.heap.size w w' := by
  obtain ⟨A1, n1, c1, z1⟩ := pa
  obtain ⟨A2, n2, c2, z2⟩ := pb
  obtain ⟨A3, n3, c3, z3⟩ := pc
  dsimp only at la lb lc ⊢
  have HA := Lib.hid ha
  have HB := Lib.hid hb
  have HC := Lib.hid hc
  clear ha hb hc
  by_cases hlt : 600 < n1 + n2 + n3
  · go_enter Try.func4, Try.ntmps4
    go_wp2_with (go_at_call 6; refine (live_any _).mono ?_; rintro e w' ⟨rfl, hb1⟩)
    go_ret
    exact ⟨rfl, hb1⟩
  · obtain ⟨t, ht⟩ : ∃ t, of (z1 ++ z2 ++ z3) = t := ⟨_, rfl⟩
    obtain ⟨zw, hz⟩ : ∃ zw : W, zw = 0#32 := ⟨_, rfl⟩
    have hz0 : (num zw == 0) = true := by rw [hz]; decide
    have HT := Lib.hid ht
    have HZ := Lib.hid hz
    clear ht hz
    have b1 : Below w.heap.size w (w.alloc (.cells #[] 5)) := (Below.refl _ _).alloc (Nat.le_refl _) _
    have own1 := World.ownsRow_made (base := w.heap.size) (e := 5) (size := 1) w #[] 0 (by simp) (by simp) (by simp)
    have B1 := Lib.hid b1
    have O1 := Lib.hid own1
    clear b1 own1
    have tok1 : True := trivial
    have tok2 : True := trivial
    have hk : ∀ z ∈ z1 ++ z2 ++ z3, 0 ≤ z ∧ z < 256 := by
      intro z h
      simp only [List.mem_append] at h
      rcases h with (h | h) | h
      · exact HA.out.2.1 z h
      · exact HB.out.2.1 z h
      · exact HC.out.2.1 z h
    have HK := Lib.hid hk
    clear hk
    go_enter Try.func4, Try.ntmps4
    go_wp2_with (first
      | (at_builtin
         have _t := tok1
         go_must (
           refine wpList_app1 _ u8_ty rfl (.tmp 18) (.tmp 19) rfl rfl B1.out O1.out rfl (HA.out.over B1.out).1 (bytesOf_one z1) (by unfold maxLen; omega) (by omega) ?_
           intro A4 c4 w4 b4 own4 hg4 hat4
           have B4 := Lib.hid b4
           simp only [Nat.zero_add, List.nil_append] at own4 ⊢
           have O4 := Lib.hid own4
           clear own4 hg4 hat4 tok1 _t b4))
      | (at_builtin
         have _t := tok2
         go_must (
           refine wpList_app1 _ u8_ty rfl (.tmp 20) (.tmp 21) rfl rfl B4.out O4.out rfl (HB.out.over B4.out).1 (bytesOf_one z2) (by unfold maxLen; omega) (by omega) ?_
           intro A5 c5 w5 b5 own5 hg5 hat5
           have B5 := Lib.hid b5
           have O5 := Lib.hid own5
           clear own5 hg5 hat5 tok2 _t b5))
      | (at_builtin
         go_must (
           refine wpList_app1 _ u8_ty rfl (.tmp 22) (.tmp 23) rfl rfl B5.out O5.out rfl (HC.out.over B5.out).1 (bytesOf_one z3) (by unfold maxLen; omega) (by omega) ?_
           intro A6 c6 w6 b6 own6 hg6 hat6
           have B6 := Lib.hid b6
           have P6 := Lib.hid (part_new (zs := z1 ++ z2 ++ z3) (by rw [← bytesOf_append, ← bytesOf_append]; exact own6) HK.out (by unfold maxLen; omega))
           clear own6 hg6 hat6 b6)))
    obtain ⟨W7, hW7⟩ : ∃ W7, W7 = w6.alloc (.cells #[.slice A1 n1 c1, .slice A2 n2 c2, .slice A3 n3 c3] 22) := ⟨_, rfl⟩
    have b7 : Below w.heap.size w W7 := by rw [hW7]; exact B6.out.alloc B6.out.size _
    have r7 : Reads W7 W7.heap.size 1 (some ⟨w6.heap.size, 0, none⟩) 3 [.slice A1 n1 c1, .slice A2 n2 c2, .slice A3 n3 c3] := by
      rw [hW7]; have := reads_new w6 22 (0, 0) [.slice A1 n1 c1, .slice A2 n2 c2, .slice A3 n3 c3]; simpa using this
    have p7 : (⟨A6, n1 + n2 + n3, c6, z1 ++ z2 ++ z3⟩ : Part).ok W7 := by rw [hW7]; exact P6.out.over ((Below.refl _ _).alloc (Nat.le_refl _) _)
    rw [← hW7]
    clear hW7
    have B7 := Lib.hid b7
    have P7 := Lib.hid p7
    refine (of_to t _ _ _ [⟨A1, n1, c1, z1⟩, ⟨A2, n2, c2, z2⟩, ⟨A3, n3, c3, z3⟩] _ r7 ?_ (by simp [maxLen]) ?_).mono ?_
    · intro p hp
      simp at hp
      rcases hp with rfl | rfl | rfl
      · exact HA.out.over b7
      · exact HB.out.over b7
      · exact HC.out.over b7
    · rw [← HT.out, of_eq, addP_eq]; simp
    clear r7 b7 p7 B6 P6
    rintro e w' ⟨rfl, rfl⟩
    go_wp2_with fail
    refine (of_to t _ _ _ [⟨A6, n1 + n2 + n3, c6, z1 ++ z2 ++ z3⟩] _ ?_ ?_ (by simp [maxLen]) ?_).mono ?_
    · have := reads_new W7 22 (0, 0) [.slice A6 (n1 + n2 + n3) c6]; simpa [Part.v] using this
    · intro p hp
      rw [List.mem_singleton.1 hp]
      exact P7.out.over ((Below.refl _ _).alloc (Nat.le_refl _) _)
    · rw [← HT.out, of_eq, addP_eq]; simp
    rintro e w' ⟨rfl, rfl⟩
    have b8 : Below w.heap.size w (W7.alloc (.cells #[.slice A6 (n1 + n2 + n3) c6] 22)) := B7.out.alloc B7.out.size _
    have p8 := P7.out.over ((Below.refl _ _).alloc (Nat.le_refl _) (.cells #[.slice A6 (n1 + n2 + n3) c6] 22))
    generalize W7.alloc (.cells #[.slice A6 (n1 + n2 + n3) c6] 22) = W8 at b8 p8 ⊢
    have b9 : Below W8.heap.size W8 (W8.alloc (.cells #[] 5)) := (Below.refl _ _).alloc (Nat.le_refl _) _
    have own9 := World.ownsRow_made (base := W8.heap.size) (e := 5) (size := 1) W8 #[] 0 (Nat.le_refl _) (by simp) (by simp)
    have B8 := Lib.hid b8
    have P8 := Lib.hid p8
    have HA8 := Lib.hid (HA.out.over b8)
    have HB8 := Lib.hid (HB.out.over b8)
    have HC8 := Lib.hid (HC.out.over b8)
    have B9 := Lib.hid b9
    have O9 := Lib.hid own9
    clear b8 p8 b9 own9 P7 B7 HA HB HC
    have tok1 : True := trivial
    go_wp2_with (first
      | (at_builtin
         have _t := tok1
         go_must (
           refine wpList_app1 _ u8_ty rfl (.tmp 36) (.tmp 37) rfl rfl B9.out O9.out rfl (HB8.out.over B9.out).1 (bytesOf_one z2) (by unfold maxLen; omega) (by omega) ?_
           intro A10 c10 w10 b10 own10 hg10 hat10
           have B10 := Lib.hid b10
           simp only [Nat.zero_add, List.nil_append] at own10 ⊢
           have O10 := Lib.hid own10
           clear own10 hg10 hat10 tok1 _t b10))
      | (at_builtin
         go_must (
           refine wpList_app1 _ u8_ty rfl (.tmp 38) (.tmp 39) rfl rfl B10.out O10.out rfl (HC8.out.over B10.out).1 (bytesOf_one z3) (by unfold maxLen; omega) (by omega) ?_
           intro A11 c11 w11 b11 own11 hg11 hat11
           have B11 := Lib.hid b11
           have P11 := Lib.hid (part_new (zs := z2 ++ z3) (by rw [← bytesOf_append]; exact own11) (fun z h => HK.out z (by rw [List.append_assoc]; exact List.mem_append_right _ h)) (by unfold maxLen; omega))
           clear own11 hg11 hat11 b11)))
    have b12 : Below W8.heap.size W8 (w11.alloc (.cells #[.slice A1 n1 c1, .slice none 0 0, .slice A11 (n2 + n3) c11] 22)) := B11.out.alloc B11.out.size _
    have p12 := P11.out.over ((Below.refl _ _).alloc (Nat.le_refl _) (.cells #[.slice A1 n1 c1, .slice none 0 0, .slice A11 (n2 + n3) c11] 22))
    have r12 := reads_new w11 22 (0, 0) [.slice A1 n1 c1, .slice none 0 0, .slice A11 (n2 + n3) c11]
    rw [show (w11.heap.size + 1) = (w11.alloc (.cells #[.slice A1 n1 c1, .slice none 0 0, .slice A11 (n2 + n3) c11] 22)).heap.size from by simp] at r12
    simp only [List.length_cons, List.length_nil] at r12
    generalize w11.alloc (.cells #[.slice A1 n1 c1, .slice none 0 0, .slice A11 (n2 + n3) c11] 22) = W12 at b12 p12 r12 ⊢
    refine (of_to t _ _ _ [⟨A1, n1, c1, z1⟩, ⟨none, 0, 0, []⟩, ⟨A11, n2 + n3, c11, z2 ++ z3⟩] _ r12 ?_ (by simp [maxLen]) ?_).mono ?_
    · intro p hp
      simp at hp
      rcases hp with rfl | rfl | rfl
      · exact HA8.out.over b12
      · exact ⟨Reads.none_, by simp, by simp⟩
      · exact p12
    · rw [← HT.out, of_eq, addP_eq]; simp
    have B12 := Lib.hid b12
    clear r12 p12 b12
    rintro e w' ⟨rfl, rfl⟩
    go_wp2_with fail
    refine (of_to t _ _ _ [⟨A6, n1 + n2 + n3, c6, z1 ++ z2 ++ z3⟩] _ ?_ ?_ (by simp [maxLen]) ?_).mono ?_
    · have := reads_new W12 22 (0, 0) [.slice A6 (n1 + n2 + n3) c6]; simpa [Part.v] using this
    · intro p hp
      rw [List.mem_singleton.1 hp]
      exact (P8.out.over B12.out).over ((Below.refl _ _).alloc (Nat.le_refl _) _)
    · rw [← HT.out, of_eq, addP_eq]; simp
    rintro e w' ⟨rfl, rfl⟩
    go_wp2_with fail
    refine (of_to zw _ _ _ [] _ Reads.none_ (by simp) (by simp) ?_).mono ?_
    · rw [HZ.out]; decide
    rintro e w' ⟨rfl, rfl⟩
    go_wp2_with fail
    refine (live_any _).mono ?_
    rintro e w' ⟨rfl, hb6⟩
    go_wp2_with fail
    go_ret
    exact ⟨rfl, B8.out.trans (((B12.out.alloc B12.out.size _).trans (hb6.mono (by simp; have := B12.out.size; omega))).mono B8.out.size)⟩
end Go.Proofs.Ytohlcopnifmjoaa
