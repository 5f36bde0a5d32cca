/- alloc: New, Hold, Drop, Take, Held, Free; SameList; the page's example. -/
import Derived.Test.YtohlcopnifmjoaeAdd
import Derived.Laws.MakeOwn
namespace Go.Proofs.Ytohlcopnifmjoae
open Go.RowKit

theorem run_make_rowN {P : Program} (t e : TypeId) (i : TypeInfo) (z : Value) (ht : P.underlying t = some (.slice e)) (hi : P.info? e = some i) (hz : i.zero = some z)
    (kl kc : IntKind) (n c : Nat) (hnc : n ≤ c) (hbytes : i.bytes * c ≤ 281474976710656) (h63 : c ≤ 9223372036854775807) (w : World) :
    (Instr.makeSlice t (.int kl (n : Int)) (.int kc (c : Int))).run P w = .ok (.slice (some ⟨w.heap.size, 0, none⟩) n c) (w.alloc (.cells (madeCells z.cells (c * i.size)) e)) := by
  have hb : (i.bytes : Int) * (c : Int) ≤ 281474976710656 := by
    have h : ((i.bytes * c : Nat) : Int) ≤ 281474976710656 := by omega
    rwa [Int.natCast_mul] at h
  have hr := run_make (P := P) w t e i z ht hi hz kl kc n c (by omega) (by omega) hb (by omega)
  simp only [Int.toNat_natCast] at hr
  exact hr

theorem hold_any (B ga g c : Nat) (rs : List Int) (m : Int) (hw : Within m rs) (hm : m ≤ 1000000) (A : Option Addr) (n cl : Nat) (l : List Int) (hn : n ≤ 1000000) (w : World) (h : AObj w B ga g c rs) (hr : Reads w w.heap.size 1 A n (ints l)) :
    Calls Try.prog 20 #[.pointer (some ⟨ga, 0, none⟩), .slice A n cl] w (PostA w B ga g ((addL 1 rs l).getD rs) (.bool (addL 1 rs l).isSome)) := by
  have H := Lib.hid h
  have HR := Lib.hid hr
  have HW := Lib.hid hw
  clear h hr hw
  go_enter Try.func20, Try.ntmps20
  go_wp2_with fail
  refine (add_any 1 (.inl rfl) B ga g c rs m HW.out hm A n cl l hn _ H.out HR.out).mono ?_
  rintro e1 w1 ⟨rfl, g', c', ha, hf, hg⟩
  have HA := Lib.hid ha
  have HF := Lib.hid hf
  have HG := Lib.hid hg
  clear ha hf hg
  go_wp2_with fail
  go_ret
  exact ⟨rfl, g', c', HA.out, HF.out, HG.out⟩
theorem drop_any (B ga g c : Nat) (rs : List Int) (m : Int) (hw : Within m rs) (hm : m ≤ 1000000) (A : Option Addr) (n cl : Nat) (l : List Int) (hn : n ≤ 1000000) (w : World) (h : AObj w B ga g c rs) (hr : Reads w w.heap.size 1 A n (ints l)) :
    Calls Try.prog 21 #[.pointer (some ⟨ga, 0, none⟩), .slice A n cl] w (PostA w B ga g ((addL (-1) rs l).getD rs) (.bool (addL (-1) rs l).isSome)) := by
  have H := Lib.hid h
  have HR := Lib.hid hr
  have HW := Lib.hid hw
  clear h hr hw
  go_enter Try.func21, Try.ntmps21
  go_wp2_with fail
  refine (add_any (-1) (.inr rfl) B ga g c rs m HW.out hm A n cl l hn _ H.out HR.out).mono ?_
  rintro e1 w1 ⟨rfl, g', c', ha, hf, hg⟩
  have HA := Lib.hid ha
  have HF := Lib.hid hf
  have HG := Lib.hid hg
  clear ha hf hg
  go_wp2_with fail
  go_ret
  exact ⟨rfl, g', c', HA.out, HF.out, HG.out⟩
theorem addnil_any (by_ : Int) (A : Option Addr) (n cl : Nat) (w : World) : Calls Try.prog 27 #[.pointer none, .int .i64 by_, .slice A n cl] w fun e w' => e = .returned (.bool false) ∧ w = w' := by
  go_enter Try.func27, Try.ntmps27
  go_wp2
  go_ret
  exact ⟨rfl, rfl⟩
theorem hold_nil (A : Option Addr) (n cl : Nat) (w : World) : Calls Try.prog 20 #[.pointer none, .slice A n cl] w fun e w' => e = .returned (.bool false) ∧ w = w' := by
  go_enter Try.func20, Try.ntmps20
  go_wp2_with (go_at_call 27; refine (addnil_any _ _ _ _ _).mono ?_; rintro e w' ⟨rfl, rfl⟩)
  go_ret
  exact ⟨rfl, rfl⟩
theorem drop_nil (A : Option Addr) (n cl : Nat) (w : World) : Calls Try.prog 21 #[.pointer none, .slice A n cl] w fun e w' => e = .returned (.bool false) ∧ w = w' := by
  go_enter Try.func21, Try.ntmps21
  go_wp2_with (go_at_call 27; refine (addnil_any _ _ _ _ _).mono ?_; rintro e w' ⟨rfl, rfl⟩)
  go_ret
  exact ⟨rfl, rfl⟩

/-- Take, in plain: the page, whether there is one, what is held then -/
def TakeIs (rs : List Int) (p : Int) (ok : Bool) (rs' : List Int) : Prop :=
  (∃ i : Nat, p = i ∧ ok = true ∧ i < rs.length ∧ rs.getD i 0 = 0 ∧ (∀ j, j < i → rs.getD j 0 ≠ 0) ∧ rs' = rs.set i 1) ∨ (p = 0 ∧ ok = false ∧ rs = rs' ∧ ∀ j, j < rs.length → rs.getD j 0 ≠ 0)
theorem takeIs (rs : List Int) : ∃ p ok rs', TakeIs rs p ok rs' := by
  rcases first_zero rs with ⟨i, hi, hz, hj⟩ | h
  · exact ⟨i, true, rs.set i 1, .inl ⟨i, rfl, rfl, hi, hz, hj, rfl⟩⟩
  · exact ⟨0, false, rs, .inr ⟨rfl, rfl, rfl, h⟩⟩
set_option maxHeartbeats 400000 in
theorem take_any (B ga g c : Nat) (rs : List Int) (p : Int) (ok : Bool) (rs' : List Int) (ht : TakeIs rs p ok rs') (w : World) (h : AObj w B ga g c rs) :
    Calls Try.prog 22 #[.pointer (some ⟨ga, 0, none⟩)] w (PostA w B ga g rs' (.tuple #[.int .i64 p, .bool ok])) := by
  have H := Lib.hid h
  have hc := h.cell
  have hrd := Lib.hid h.reads
  have h1024 := h.hn
  clear h
  rcases ht with ⟨i, rfl, rfl, hi, hz, hj, rfl⟩ | ⟨rfl, rfl, rfl, hno⟩
  · have HI : Hid (idxL rs (i : Int)) := .inl ⟨i, rfl, hi, hz, hj⟩
    have hx := H.out.at_ hi
    have hfz := H.out.ho.frozenAt i
    have HS := Lib.hid (H.out.ho.stored i (.int .i64 1))
    clear hz hj
    go_enter Try.func22, Try.ntmps22
    go_wp2_with (go_at_call 28; go_must (refine (index_any _ _ _ rs (i : Int) HI.out _ hrd.out (by unfold maxLen; omega)).mono ?_; rintro e w' ⟨rfl, rfl⟩))
    go_ret2
    have hne := H.out.ne
    refine ⟨rfl, g, c, ⟨H.out.hB, ?_, ?_, by simpa using h1024⟩, ⟨rfl, rfl, rfl, by simp, fun k _ _ hk => Below.heap_setCell _ _ _ _ hk⟩, .inl rfl⟩
    · have := H.out.hg.far (p := ⟨g, i, none⟩) (fun e => hne e.symm) (.int .i64 1)
      simpa using this
    · have := HS.out.1
      rw [ints_set] at this
      simpa using this
  · have HI : Hid (idxL rs (-1)) := .inr ⟨rfl, hno⟩
    clear hno
    go_enter Try.func22, Try.ntmps22
    go_wp2_with (go_at_call 28; go_must (refine (index_any _ _ _ rs (-1) HI.out _ hrd.out (by unfold maxLen; omega)).mono ?_; rintro e w' ⟨rfl, rfl⟩))
    go_ret2
    exact PostA.same H.out rfl (Below.refl _ _)
theorem take_nil (w : World) : Calls Try.prog 22 #[.pointer none] w fun e w' => e = .returned (.tuple #[.int .i64 0, .bool false]) ∧ w = w' := by
  go_enter Try.func22, Try.ntmps22
  go_wp2
  go_ret2
  exact ⟨rfl, rfl⟩

/-- a list of integers handed back -/
def SlPost (w : World) (xs : List Int) (e : Ending) (w' : World) : Prop := ∃ A c, e = .returned (.slice A xs.length c) ∧ Reads w' w'.heap.size 1 A xs.length (ints xs) ∧ Below w.heap.size w w'
/-- .. in a block of the call's own -/
def SlOwn (w : World) (xs : List Int) (e : Ending) (w' : World) : Prop := ∃ A c, e = .returned (.slice A xs.length c) ∧ w'.ownsRow w.heap.size 3 1 (.slice A xs.length c) xs.length (ints xs) ∧ Below w.heap.size w w'
/-- a row of another's is kept -/
theorem own_fr {w w' : World} {base ga g n c : Nat} {A : Option Addr} {xs : List Value} (h : w.ownsRow base 3 1 (.slice A n c) n xs) (hf : Fr ga g w w') (h1 : ga < base) (h2 : g < base) : w'.ownsRow base 3 1 (.slice A n c) n xs := by
  refine ⟨h.1, ?_⟩
  have hlt := h.lt
  rcases h.2 with h' | ⟨g', cap, cur, h', hb, hh, rest⟩
  · exact .inl h'
  · exact .inr ⟨g', cap, cur, h', hb, (hf.block g' (hlt g' (by rw [h']; rfl)).2 (by omega) (by omega)).trans hh, rest⟩
set_option maxHeartbeats 400000 in
theorem held_own (B ga g c : Nat) (rs : List Int) (w : World) (h : AObj w B ga g c rs) : Calls Try.prog 17 #[.pointer (some ⟨ga, 0, none⟩)] w (SlOwn w (heldL rs)) := by
  have H := Lib.hid h
  have hc := h.cell
  have h1024 := h.hn
  clear h
  go_enter Try.func17, Try.ntmps17
  go_wp2_with fail
  go_loopw [3, 13] (fun v i wr => ∃ k : Nat, k ≤ rs.length ∧ i = .int .i64 k ∧ ∃ A cc, v = .slice A (heldL (rs.take k)).length cc ∧ Hid (wr.ownsRow w.heap.size 3 1 (.slice A (heldL (rs.take k)).length cc) (heldL (rs.take k)).length (ints (heldL (rs.take k)))) ∧ Hid (Below w.heap.size w wr)) (fun _ i _ => rs.length - (intOf i).toNat)
  case atStart => exact ⟨0, Nat.zero_le _, rfl, none, 0, rfl, World.ownsRow_nil _ _ _ _, Below.refl _ _⟩
  case round =>
    obtain ⟨k, hk, rfl, A, cc, rfl, HO, HB⟩ := hrel
    have HX := Lib.hid (H.out.over HB.out)
    have hll := Nat.le_trans (heldL_length (rs.take k)) (by rw [List.length_take]; omega : (rs.take k).length ≤ 1024)
    by_cases hlt : k < rs.length
    · have hx := HX.out.at_ hlt
      have hs := heldL_snoc rs k hlt
      obtain ⟨x, hxx⟩ : ∃ x, x = rs[k] := ⟨_, rfl⟩
      rw [← hxx] at hx hs
      clear hxx
      by_cases hp : 0 < x
      · rw [if_pos hp] at hs
        have HS := Lib.hid hs
        clear hs
        generalize heldL (rs.take k) = L at *
        go_wp2_with (at_builtin
                     go_must (
                       refine wpList_app1 (w0 := w) _ i64_ty rfl (.tmp 20) (.tmp 22) rfl rfl (HB.out.alloc HB.out.size _) (HO.out.alloc _) rfl (reads_new _ 3 (0, 0) [.int .i64 (k : Int)]) (ints_one [(k : Int)]) (by unfold maxLen; omega) (by omega) ?_
                       intro A4 c4 w4 b4 own4 hg4 hat4
                       have B4 := Lib.hid b4
                       have O4 := Lib.hid own4
                       clear own4 hg4 hat4 b4))
        refine ⟨⟨k + 1, by omega, by go_num, A4, c4, ?_, ?_, B4⟩, by simp [intOf]; omega⟩
        · rw [HS.out]; simp
        · rw [HS.out, List.length_append, ← ints_append]
          exact O4.out
      · rw [if_neg hp] at hs
        have HS := Lib.hid hs
        clear hs
        go_wp2_with fail
        refine ⟨⟨k + 1, by omega, by go_num, A, cc, by rw [HS.out], by rw [HS.out]; exact HO, HB⟩, by simp [intOf]; omega⟩
    · have HE : Hid (heldL (rs.take k) = heldL rs) := by rw [List.take_of_length_le (by omega)]; trivial
      generalize heldL (rs.take k) = L at *
      go_wp2_with fail
      go_ret
      refine ⟨A, cc, by rw [← HE.out]; rfl, ?_, HB.out⟩
      have := HO.out
      rw [← HE.out]; exact this
theorem held_any (B ga g c : Nat) (rs : List Int) (w : World) (h : AObj w B ga g c rs) : Calls Try.prog 17 #[.pointer (some ⟨ga, 0, none⟩)] w (SlPost w (heldL rs)) := by
  refine (held_own B ga g c rs w h).mono ?_
  rintro e w' ⟨A, k, rfl, ho, hb⟩
  exact ⟨A, k, rfl, Reads.of_own ho, hb⟩
theorem held_nil (w : World) : Calls Try.prog 17 #[.pointer none] w fun e w' => e = .returned (.slice none 0 0) ∧ w = w' := by
  go_enter Try.func17, Try.ntmps17
  go_wp2
  go_ret
  exact ⟨rfl, rfl⟩
theorem free_any (B ga g c : Nat) (rs : List Int) (w : World) (h : AObj w B ga g c rs) : Calls Try.prog 18 #[.pointer (some ⟨ga, 0, none⟩)] w fun e w' => e = .returned (.int .i64 ((rs.length : Int) - (heldL rs).length)) ∧ Below w.heap.size w w' := by
  have H := Lib.hid h
  have h1024 := h.hn
  have hl := heldL_length rs
  clear h
  go_enter Try.func18, Try.ntmps18
  go_wp2_with fail
  refine (size_any _ _ _ _ _ _ H.out).mono ?_
  rintro e w' ⟨rfl, rfl⟩
  go_wp2_with fail
  refine (held_any _ _ _ _ _ _ H.out).mono ?_
  rintro e w' ⟨A, cc, rfl, hr, hb⟩
  have HB := Lib.hid hb
  clear hr hb
  go_wp2_with fail
  go_ret
  exact ⟨rfl, HB.out⟩
theorem free_nil (w : World) : Calls Try.prog 18 #[.pointer none] w fun e w' => e = .returned (.int .i64 0) ∧ w = w' := by
  go_enter Try.func18, Try.ntmps18
  go_wp2_with (first | (go_at_call 10; refine (size_nil _).mono ?_; rintro e w' ⟨rfl, rfl⟩) | (go_at_call 17; refine (held_nil _).mono ?_; rintro e w' ⟨rfl, rfl⟩))
  go_ret
  exact ⟨rfl, rfl⟩

set_option maxHeartbeats 400000 in
/-- two slices that read alike -/
theorem same_any (A A' : Option Addr) (n c c' : Nat) (xs : List Int) (w : World) (hn : n ≤ 1000000) (h : Reads w w.heap.size 1 A n (ints xs)) (h' : Reads w w.heap.size 1 A' n (ints xs)) :
    Calls Try.prog 16 #[.slice A n c, .slice A' n c'] w fun e w' => e = .returned (.bool true) ∧ ∃ d, w' = w.drewN d := by
  go_enter Try.func16, Try.ntmps16
  go_wp2_with fail
  go_loopw [5] (fun i wr => ∃ k : Nat, k ≤ n ∧ i = .int .i64 k ∧ Hid (∃ d, wr = w.drewN d)) (fun i _ => n - (intOf i).toNat)
  case atStart => exact ⟨0, Nat.zero_le _, rfl, 0, rfl⟩
  case round =>
    obtain ⟨k, hk, rfl, HD⟩ := hrel
    obtain ⟨d, rfl⟩ := HD.out
    clear HD
    by_cases hlt : k < n
    · obtain ⟨b, off, rfl, _, hl, hc⟩ := h.int hlt
      obtain ⟨b', off', rfl, _, hl', hc'⟩ := h'.int hlt
      obtain ⟨x, hx⟩ : ∃ x, x = xs[k] := ⟨_, rfl⟩
      rw [← hx] at hc hc'
      clear hx
      have hlt' : (k : Int) < (n : Int) := by omega
      have h0' : (0 : Int) ≤ (k : Int) := by omega
      go_wp2
      go_quiet (fail)
      go_wp2
      exact ⟨⟨k + 1, by omega, by go_num, _, rfl⟩, by simp [intOf]; omega⟩
    · go_wp2
      go_ret
      exact ⟨rfl, d, rfl⟩

/-- New -/
def newN (n : Int) : Nat := if n < 0 then 0 else if 1024 < n then 1024 else n.toNat
def NewPost (w : World) (n : Int) (e : Ending) (w' : World) : Prop := ∃ ga g c, e = .returned (.pointer (some ⟨ga, 0, none⟩)) ∧ AObj w' w.heap.size ga g c (List.replicate (newN n) 0) ∧ Below w.heap.size w w'
theorem new_at (w : World) (k : Nat) (hk : k ≤ 1024) : AObj ((w.alloc (.cells (madeCells #[.int .i64 0] k) 3)).alloc (.cells #[.slice (some ⟨w.heap.size, 0, none⟩) k k] 50)) w.heap.size (w.heap.size + 1) w.heap.size k (List.replicate k 0) := by
  refine ⟨by omega, ?_, ?_, by simpa using hk⟩
  · have := Blk.new (w.alloc (.cells (madeCells #[.int .i64 0] k) 3)) 50 #[.slice (some ⟨w.heap.size, 0, none⟩) k k]
    simpa using this
  · have := (World.ownsRow_lit (base := w.heap.size) (e := 3) (size := 1) w (madeCells #[.int .i64 0] k) k (Nat.le_refl _) (by unfold maxLen; omega) (by rw [← Array.length_toList, toList_madeCells_one]; simp)).alloc (.cells #[.slice (some ⟨w.heap.size, 0, none⟩) k k] 50)
    rw [toList_madeCells_one] at this
    simpa [ints] using this
set_option maxHeartbeats 400000 in
theorem new_any (n : Int) (w : World) (hn : i64ok n) : Calls Try.prog 8 #[.int .i64 n] w (NewPost w n) := by
  obtain ⟨i0, hi0, hz0, hz1, hz2⟩ := info_parts i64_info
  obtain ⟨n0, n1⟩ := hn
  have hmk : ∀ (k : Nat), k ≤ 1024 → ∀ W : World, (Instr.makeSlice 27 (.int .i64 (k : Int)) (.int .i64 (k : Int))).run Try.prog W = .ok (.slice (some ⟨W.heap.size, 0, none⟩) k k) (W.alloc (.cells (madeCells #[.int .i64 0] k) 3)) := by
    intro k hk W
    have := run_make_rowN (P := Try.prog) 27 3 i0 (.int .i64 0) Try.underlying27 hi0 hz0 .i64 .i64 k k (Nat.le_refl _) (by rw [hz2]; omega) (by omega) W
    rw [hz1, Nat.mul_one] at this
    exact this
  by_cases h0 : n < 0
  · have hN : Hid (newN n = 0) := by unfold newN; rw [if_pos h0]; trivial
    have hm := hmk 0 (by omega)
    have hm' : ∀ W : World, (Instr.makeSlice 27 (.int .i64 0) (.int .i64 0)).run Try.prog W = .ok (.slice (some ⟨W.heap.size, 0, none⟩) 0 0) (W.alloc (.cells (madeCells #[.int .i64 0] 0) 3)) := hm
    clear hmk hm
    have h1 : ¬ 0 ≤ n := by omega
    have HA := Lib.hid (new_at w 0 (by omega))
    generalize madeCells #[.int .i64 0] 0 = C at hm' HA
    go_enter Try.func8, Try.ntmps8
    go_wp2
    go_ret
    refine ⟨w.heap.size + 1, w.heap.size, 0, rfl, ?_, ((Below.refl _ _).alloc (Nat.le_refl _) _).alloc (by simp) _⟩
    rw [hN.out]; exact HA.out
  by_cases h1 : 1024 < n
  · have hN : Hid (newN n = 1024) := by unfold newN; rw [if_neg h0, if_pos h1]; trivial
    have hm := hmk 1024 (by omega)
    have hm' : ∀ W : World, (Instr.makeSlice 27 (.int .i64 1024) (.int .i64 1024)).run Try.prog W = .ok (.slice (some ⟨W.heap.size, 0, none⟩) 1024 1024) (W.alloc (.cells (madeCells #[.int .i64 0] 1024) 3)) := hm
    clear hmk hm
    have HA := Lib.hid (new_at w 1024 (by omega))
    generalize madeCells #[.int .i64 0] 1024 = C at hm' HA
    go_enter Try.func8, Try.ntmps8
    go_wp2
    go_ret
    refine ⟨w.heap.size + 1, w.heap.size, 1024, rfl, ?_, ((Below.refl _ _).alloc (Nat.le_refl _) _).alloc (by simp) _⟩
    rw [hN.out]; exact HA.out
  · obtain ⟨k, rfl⟩ := Int.eq_ofNat_of_zero_le (by omega : 0 ≤ n)
    have hk : k ≤ 1024 := by omega
    have hN : Hid (newN (k : Int) = k) := by unfold newN; rw [if_neg h0, if_neg h1]; simp; trivial
    have hm' := hmk k hk
    have HA := Lib.hid (new_at w k hk)
    generalize madeCells #[.int .i64 0] k = C at hm' HA
    clear hmk h0 h1
    go_enter Try.func8, Try.ntmps8
    go_wp2
    go_ret
    refine ⟨w.heap.size + 1, w.heap.size, k, rfl, ?_, ((Below.refl _ _).alloc (Nat.le_refl _) _).alloc (by simp) _⟩
    rw [hN.out]; exact HA.out
end Go.Proofs.Ytohlcopnifmjoae
