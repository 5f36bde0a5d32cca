/- ids: how many are alive; generations and free indexes told; two lists alike. -/
import Derived.Test.YtohlcopnifmjoabRefGo
namespace Go.Proofs.Ytohlcopnifmjoab
open Go.RowKit

def countL (s : Sl) : Nat := s.countP (·.2)
theorem countL_snoc {s : Sl} {k : Nat} {y : Int × Bool} (h : s[k]? = some y) : countL (s.take (k + 1)) = countL (s.take k) + (if y.2 = true then 1 else 0) := by
  unfold countL
  rw [List.take_add_one, h]
  cases hy : y.2 <;> simp [hy]
theorem countL_le (s : Sl) (k : Nat) : countL (s.take k) ≤ k := by
  unfold countL
  have := List.countP_le_length (p := (·.2)) (l := s.take k)
  rw [List.length_take] at this
  omega

set_option maxRecDepth 100000 in
set_option maxHeartbeats 1000000 in
theorem count_any (B x E : Nat) (G : Int) (As : Option Addr) (cs : Nat) (Af : Option Addr) (cf : Nat) (s : Sl) (f : List Int) (hs : s.length ≤ 1024) (w : World) (h : IObj w B x E G As cs Af cf s f) :
    Calls Try.prog 18 #[.pointer (some ⟨x, 0, none⟩)] w fun e w' => e = .returned (.int .i64 (countL s : Nat)) ∧ Below w.heap.size w w' := by
  have c0 := blk4_0 h.hx
  have H := Lib.hid h
  obtain ⟨n, hn⟩ : ∃ n, s.length = n := ⟨_, rfl⟩
  rw [hn] at c0 hs
  have HN := Lib.hid hn
  clear h hn
  go_enter Try.func18, Try.ntmps18
  go_wp2_with fail
  go_loopw [3, 13] (fun q i wr => ∃ k : Nat, k ≤ n ∧ i = .int .i64 k ∧ ∃ m : Nat, m ≤ k ∧ q = .int .i64 m ∧ Hid (countL (s.take k) = m) ∧ Hid (Below w.heap.size w wr)) (fun _ i _ => n - (intOf i).toNat)
  case atStart => exact ⟨0, Nat.zero_le _, rfl, 0, Nat.le_refl _, rfl, rfl, Below.refl _ _⟩
  case round =>
    obtain ⟨k, hk, rfl, m, hm, rfl, HC, HB⟩ := hrel
    by_cases hlt : k < n
    · have HX := Lib.hid (H.out.over HB.out)
      obtain ⟨⟨g, al⟩, hy⟩ : ∃ y, s[k]? = some y := ⟨_, List.getElem?_eq_getElem (by rw [HN.out]; exact hlt)⟩
      obtain ⟨gs, rfl, _, _, _, q0, q1, _⟩ := HX.out.slot hy
      dsimp only at q0 q1
      have hcs := countL_snoc hy
      dsimp only at hcs
      have HCS := Lib.hid hcs
      have HB2 := Lib.hid (HB.out.alloc HB.out.size (.cells #[.int .i64 g, .bool al] 68))
      clear hcs hy
      cases al with
      | true =>
        go_wp2_with fail
        exact ⟨⟨k + 1, by omega, by go_num, m + 1, by omega, by go_num, by rw [HCS.out, HC.out]; trivial, HB2⟩, by simp [intOf]; omega⟩
      | false =>
        go_wp2_with fail
        exact ⟨⟨k + 1, by omega, by go_num, m, by omega, rfl, by rw [HCS.out, HC.out]; trivial, HB2⟩, by simp [intOf]; omega⟩
    · have hM : Hid (countL s = m) := by
        have := HC.out
        rw [List.take_of_length_le (by rw [HN.out]; omega)] at this
        exact this
      go_wp2_with fail
      go_ret
      exact ⟨ret_int (by rw [hM.out]), HB.out⟩

set_option maxRecDepth 100000 in
set_option maxHeartbeats 1000000 in
theorem gens_any (B x E : Nat) (G : Int) (As : Option Addr) (cs : Nat) (Af : Option Addr) (cf : Nat) (s : Sl) (f : List Int) (hs : s.length ≤ 1024) (w : World) (h : IObj w B x E G As cs Af cf s f) :
    Calls Try.prog 19 #[.pointer (some ⟨x, 0, none⟩)] w fun e w' => ∃ A n c, e = .returned (.slice A n c) ∧ Reads w' w'.heap.size 1 A n (ints (gensL s)) ∧ Below w.heap.size w w' := by
  have c0 := blk4_0 h.hx
  have H := Lib.hid h
  obtain ⟨n, hn⟩ : ∃ n, s.length = n := ⟨_, rfl⟩
  rw [hn] at c0 hs
  have HN := Lib.hid hn
  clear h hn
  go_enter Try.func19, Try.ntmps19
  go_wp2_with fail
  go_loopw [3, 13] (fun q i wr => ∃ k : Nat, k ≤ n ∧ i = .int .i64 k ∧ ∃ A c, q = .slice A k c ∧ Hid (wr.ownsRow w.heap.size 3 1 (.slice A k c) k (ints ((gensL s).take k))) ∧ Hid (Below w.heap.size w wr)) (fun _ i _ => n - (intOf i).toNat)
  case atStart => exact ⟨0, Nat.zero_le _, rfl, none, 0, rfl, World.ownsRow_nil _ _ _ _, Below.refl _ _⟩
  case round =>
    obtain ⟨k, hk, rfl, A, c, rfl, HR, HB⟩ := hrel
    by_cases hlt : k < n
    · have HX := Lib.hid (H.out.over HB.out)
      obtain ⟨⟨g, al⟩, hy⟩ : ∃ y, s[k]? = some y := ⟨_, List.getElem?_eq_getElem (by rw [HN.out]; exact hlt)⟩
      obtain ⟨gs, rfl, _, _, _, q0, q1, _⟩ := HX.out.slot hy
      dsimp only at q0 q1
      have HGS := Lib.hid (show (gensL s).take (k + 1) = (gensL s).take k ++ [g] by rw [List.take_add_one, gens_get hy]; rfl)
      have HB2 := Lib.hid (HB.out.alloc HB.out.size (.cells #[.int .i64 g, .bool al] 68))
      have HR2 := Lib.hid (HR.out.alloc (.cells #[.int .i64 g, .bool al] 68))
      have rd := reads_new (wr.alloc (.cells #[.int .i64 g, .bool al] 68)) 3 (0, 0) [.int .i64 g]
      rw [World.size_alloc] at rd
      have RD := Lib.hid rd
      clear hy rd
      go_wp2_with (at_builtin
                   go_must (
                     refine wpList_app1 (w0 := w) _ i64_ty rfl (.tmp 17) (.tmp 20) rfl rfl (HB2.out.alloc HB2.out.size _) (HR2.out.alloc _) rfl RD.out (ints_one [g]) (by unfold maxLen; omega) (by omega) ?_
                     intro A4 c4 w4 b4 own4 hg4 hat4
                     rw [show [Value.int .i64 g] = ints [g] from rfl, ints_append, ← HGS.out] at own4
                     have B4 := Lib.hid b4
                     have O4 := Lib.hid own4
                     clear own4 hg4 hat4 b4))
      exact ⟨⟨k + 1, by omega, by go_num, A4, c4, rfl, O4, B4⟩, by simp [intOf]; omega⟩
    · obtain rfl : k = n := by omega
      have hM : Hid (Reads wr wr.heap.size 1 A k (ints (gensL s))) := by
        have := HR.out
        rw [List.take_of_length_le (by rw [gensL_length, HN.out]; exact Nat.le_refl _)] at this
        exact Reads.of_own this
      go_wp2_with fail
      go_ret
      exact ⟨A, k, c, rfl, hM.out, HB.out⟩

theorem free_any (B x E : Nat) (G : Int) (As : Option Addr) (cs : Nat) (Af : Option Addr) (cf : Nat) (s : Sl) (f : List Int) (hf : f.length ≤ 2000) (w : World) (h : IObj w B x E G As cs Af cf s f) :
    Calls Try.prog 20 #[.pointer (some ⟨x, 0, none⟩)] w fun e w' => ∃ A n c, e = .returned (.slice A n c) ∧ Reads w' w'.heap.size 1 A n (ints f) ∧ Below w.heap.size w w' := by
  have c1 := blk4_1 h.hx
  have H := Lib.hid h
  clear h
  cases Af with
  | none =>
    have HE : Hid (f.length = 0 ∧ cf = 0) := by
      rcases H.out.hf.2 with ⟨h', _⟩ | ⟨g, cap, cur, h', _⟩
      · simp at h'
        exact ⟨by simp [h'.1], h'.2⟩
      · simp at h'
    obtain ⟨h1, rfl⟩ := HE.out
    rw [h1] at c1
    clear HE
    go_enter Try.func20, Try.ntmps20
    go_wp2_with fail
    refine (clone_nil _).mono ?_
    rintro e w1 ⟨rfl, rfl⟩
    go_wp2_with fail
    go_ret
    have : f = [] := List.eq_nil_of_length_eq_zero h1
    subst this
    exact ⟨none, 0, 0, rfl, ⟨by simp [ints], fun h => absurd h (by omega)⟩, Below.refl _ _⟩
  | some ad =>
    go_enter Try.func20, Try.ntmps20
    go_wp2_with fail
    refine (clone_some _ _ _ f _ (Reads.of_own H.out.hf) (by omega)).mono ?_
    rintro e w1 ⟨g, c, rfl, ho, hb⟩
    have HO := Lib.hid ho
    have HB := Lib.hid hb
    clear ho hb
    go_wp2_with fail
    go_ret
    exact ⟨_, _, _, rfl, Reads.of_own HO.out, HB.out⟩

set_option maxRecDepth 100000 in
set_option maxHeartbeats 1000000 in
theorem rcount_any (E : Nat) (G : Int) (s : Sl) (f : List Int) (inv : IInv E G s f) (hfl : f.length ≤ 2000) (Ag : Option Addr) (ng cg : Nat) (Af : Option Addr) (nf cf : Nat) (w : World) (hg : Reads w w.heap.size 1 Ag ng (ints (gensL s))) (hf : Reads w w.heap.size 1 Af nf (ints f)) :
    Calls Try.prog 27 #[.agg #[.int .i64 E, .int .i64 G, .slice Ag ng cg, .slice Af nf cf]] w fun e w' => e = .returned (.int .i64 (countL s : Nat)) ∧ Below w.heap.size w w' := by
  have b1 : Below w.heap.size w (w.alloc (.cells #[.int .i64 E, .int .i64 G, .slice Ag ng cg, .slice Af nf cf] 37)) := (Below.refl _ _).alloc (Nat.le_refl _) _
  have HG := Lib.hid (hg.over b1)
  have HF := Lib.hid (hf.over b1)
  have HX := Lib.hid (Blk.new w 37 #[.int .i64 E, .int .i64 G, .slice Ag ng cg, .slice Af nf cf])
  have B1 := Lib.hid b1
  have IV := Lib.hid inv
  have hng : s.length = ng := by have := hg.ilen; rw [gensL_length] at this; exact this
  have hn1024 : ng ≤ 1024 := by rw [← hng]; exact Nat.le_trans inv.len inv.e1
  have HN := Lib.hid hng
  clear b1 hg hf inv hng
  go_enter Try.func27, Try.ntmps27
  go_wp2_with fail
  generalize w.alloc (.cells #[.int .i64 E, .int .i64 G, .slice Ag ng cg, .slice Af nf cf] 37) = W at HG HF HX B1 ⊢
  go_loopw [3, 4] (fun q i wr => ∃ k : Nat, k ≤ ng ∧ i = .int .i64 k ∧ ∃ m : Nat, m ≤ k ∧ q = .int .i64 m ∧ Hid (countL (s.take k) = m) ∧ Hid (Below W.heap.size W wr)) (fun _ i _ => ng - (intOf i).toNat)
  case atStart => exact ⟨0, Nat.zero_le _, rfl, 0, Nat.le_refl _, rfl, rfl, Below.refl _ _⟩
  case round =>
    obtain ⟨k, hk, rfl, m, hm, rfl, HC, HB⟩ := hrel
    have hxk := HX.out.below HB.out HX.out.lt
    have x0 := blk4_0 hxk
    have x1 := blk4_1 hxk
    have x2 := blk4_2 hxk
    have x3 := blk4_3 hxk
    clear hxk
    by_cases hlt : k < ng
    · obtain ⟨⟨g, al⟩, hy⟩ : ∃ y, s[k]? = some y := ⟨_, List.getElem?_eq_getElem (by rw [HN.out]; exact hlt)⟩
      have hcs := countL_snoc hy
      dsimp only at hcs
      have HCS := Lib.hid hcs
      have HY := Lib.hid hy
      clear hcs hy
      go_wp2_with fail
      refine (rat_any E G s f IV.out hfl _ _ _ _ _ _ k _ (HG.out.over HB.out) (HF.out.over HB.out)).mono ?_
      rintro e1 w1 ⟨rfl, hb1⟩
      have HB2 := Lib.hid (HB.out.trans (hb1.mono HB.out.size))
      clear hb1
      cases al with
      | true =>
        have HV : Hid (atV s (k : Int) = .tuple #[.agg #[.int .i64 k, .int .i64 g], .bool true]) := by unfold atV; rw [atL_of HY.out]; trivial
        rw [HV.out]
        go_wp2_with fail
        exact ⟨⟨k + 1, by omega, by go_num, m + 1, by omega, by go_num, by rw [HCS.out, HC.out]; trivial, HB2.out.alloc HB2.out.size _⟩, by simp [intOf]; omega⟩
      | false =>
        have HV : Hid (atV s (k : Int) = .tuple #[.agg #[.int .i64 0, .int .i64 0], .bool false]) := by unfold atV; rw [atL_not HY.out]; trivial
        rw [HV.out]
        go_wp2_with fail
        exact ⟨⟨k + 1, by omega, by go_num, m, by omega, rfl, by rw [HCS.out, HC.out]; trivial, HB2.out.alloc HB2.out.size _⟩, by simp [intOf]; omega⟩
    · have hM : Hid (countL s = m) := by
        have := HC.out
        rw [List.take_of_length_le (by rw [HN.out]; omega)] at this
        exact this
      go_wp2_with fail
      go_ret
      exact ⟨ret_int (by rw [hM.out]), B1.out.trans (HB.out.mono B1.out.size)⟩

set_option maxHeartbeats 400000 in
/-- two slices that read alike -/
theorem same_any (A A' : Option Addr) (n c c' : Nat) (xs : List Int) (w : World) (hn : n ≤ 1000000) (h : Reads w w.heap.size 1 A n (ints xs)) (h' : Reads w w.heap.size 1 A' n (ints xs)) :
    Calls Try.prog 26 #[.slice A n c, .slice A' n c'] w fun e w' => e = .returned (.bool true) ∧ ∃ d, w' = w.drewN d := by
  go_enter Try.func26, Try.ntmps26
  go_wp2_with fail
  go_loopw [5] (fun i wr => ∃ k : Nat, k ≤ n ∧ i = .int .i64 k ∧ Hid (∃ d, wr = w.drewN d)) (fun i _ => n - (intOf i).toNat)
  case atStart => exact ⟨0, Nat.zero_le _, rfl, 0, rfl⟩
  case round =>
    obtain ⟨k, hk, rfl, HD⟩ := hrel
    obtain ⟨d, rfl⟩ := HD.out
    clear HD
    by_cases hlt : k < n
    · obtain ⟨b, off, rfl, _, hl, hc⟩ := h.int hlt
      obtain ⟨b', off', rfl, _, hl', hc'⟩ := h'.int hlt
      obtain ⟨x, hx⟩ : ∃ x, x = xs[k] := ⟨_, rfl⟩
      rw [← hx] at hc hc'
      clear hx
      have hlt' : (k : Int) < (n : Int) := by omega
      have h0' : (0 : Int) ≤ (k : Int) := by omega
      go_wp2
      go_quiet (fail)
      go_wp2
      exact ⟨⟨k + 1, by omega, by go_num, _, rfl⟩, by simp [intOf]; omega⟩
    · go_wp2
      go_ret
      exact ⟨rfl, d, rfl⟩

end Go.Proofs.Ytohlcopnifmjoab
