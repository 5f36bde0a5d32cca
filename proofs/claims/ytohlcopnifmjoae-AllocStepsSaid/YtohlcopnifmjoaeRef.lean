/- alloc: the reference's functions that only read: New, Refs, List; a take. -/
import Derived.Test.YtohlcopnifmjoaeScript
namespace Go.Proofs.Ytohlcopnifmjoae
open Go.RowKit

def RNewPost (w : World) (k : Int) (e : Ending) (w' : World) : Prop := e = .returned (.agg #[.int .i64 (newN k : Nat), .slice none 0 0]) ∧ Below w.heap.size w w'
theorem rnew_any (k : Int) (w : World) : Calls Try.prog 9 #[.int .i64 k] w (RNewPost w k) := by
  have b1 : Below w.heap.size w (w.alloc (.cells #[.int .i64 0, .slice none 0 0] 29)) := (Below.refl _ _).alloc (Nat.le_refl _) _
  have B1 := Lib.hid b1
  clear b1
  by_cases h : k < 0
  · have HN : Hid (newN k = 0) := by have : newN k = 0 := by unfold newN; rw [if_pos h]
                                     exact this
    go_enter Try.func9, Try.ntmps9
    go_wp2_with fail
    refine bodyPost_ret (v := .agg #[.int .i64 0, .slice none 0 0]) (by simp [results, Try.results9, go_sem]) rfl ⟨by rw [HN.out]; rfl, B1.out⟩
  · by_cases h2 : 1024 < k
    · have HN : Hid (newN k = 1024) := by have : newN k = 1024 := by unfold newN; rw [if_neg h, if_pos h2]
                                          exact this
      have b2 : Below w.heap.size w (w.alloc (.cells #[.int .i64 1024, .slice none 0 0] 29)) := (Below.refl _ _).alloc (Nat.le_refl _) _
      have B2 := Lib.hid b2
      clear b2
      go_enter Try.func9, Try.ntmps9
      go_wp2_with fail
      refine bodyPost_ret (v := .agg #[.int .i64 1024, .slice none 0 0]) (by simp [results, Try.results9, go_sem]) rfl ⟨by rw [HN.out]; rfl, B2.out⟩
    · have HN : Hid (((newN k : Nat) : Int) = k) := by
        have : ((newN k : Nat) : Int) = k := by unfold newN; rw [if_neg h, if_neg h2]; omega
        exact this
      have b2 : Below w.heap.size w (w.alloc (.cells #[.int .i64 k, .slice none 0 0] 29)) := (Below.refl _ _).alloc (Nat.le_refl _) _
      have B2 := Lib.hid b2
      clear b2
      go_enter Try.func9, Try.ntmps9
      go_wp2_with fail
      refine bodyPost_ret (v := .agg #[.int .i64 k, .slice none 0 0]) (by simp [results, Try.results9, go_sem]) rfl ⟨by rw [HN.out], B2.out⟩

theorem rrefs_any (N : Int) (A : Option Addr) (n c : Nat) (H : List Int) (hn : n ≤ 1000000) (p : Int) (w : World) (h : Reads w w.heap.size 1 A n (ints H)) :
    Calls Try.prog 14 #[.agg #[.int .i64 N, .slice A n c], .int .i64 p] w fun e w' => e = .returned (.int .i64 (H.count p : Nat)) ∧ Below w.heap.size w w' := by
  have b1 : Below w.heap.size w (w.alloc (.cells #[.int .i64 N, .slice A n c] 29)) := (Below.refl _ _).alloc (Nat.le_refl _) _
  have f0 : (w.alloc (.cells #[.int .i64 N, .slice A n c] 29)).cell? ⟨w.heap.size, 0, none⟩ = some (.int .i64 N) := (new_cell w _ 29 0).trans rfl
  have f1 : (w.alloc (.cells #[.int .i64 N, .slice A n c] 29)).cell? ⟨w.heap.size, 1, none⟩ = some (.slice A n c) := (new_cell w _ 29 1).trans rfl
  have HR := Lib.hid (h.over b1)
  have HL := Lib.hid h.ilen
  have B1 := Lib.hid b1
  clear h b1
  go_enter Try.func14, Try.ntmps14
  go_wp2_with fail
  generalize w.alloc (.cells #[.int .i64 N, .slice A n c] 29) = W at HR B1 f0 f1 ⊢
  go_loop [5, 6] (fun s i => ∃ k : Nat, k ≤ n ∧ i = .int .i64 k ∧ ∃ q : Nat, q ≤ k ∧ s = .int .i64 q ∧ Hid ((H.take k).count p = q)) (fun _ i => n - (intOf i).toNat)
  case atStart => exact ⟨0, Nat.zero_le _, rfl, 0, Nat.zero_le _, rfl, rfl⟩
  case round =>
    obtain ⟨k, hk, rfl, q, hq, rfl, HQ⟩ := hrel
    by_cases hlt : k < n
    · obtain ⟨b, off, rfl, _, hl, hc⟩ := HR.out.int hlt
      have hs : (H.take (k + 1)).count p = q + if H[k] = p then 1 else 0 := by
        rw [List.take_succ_eq_append_getElem hl, List.count_append, HQ.out, List.count_singleton]
        simp
      obtain ⟨x, hx⟩ : ∃ x, x = H[k] := ⟨_, rfl⟩
      rw [← hx] at hc hs
      clear hx
      by_cases hxp : x = p
      · rw [if_pos hxp] at hs
        have HS := Lib.hid hs
        subst hxp
        clear hs
        go_wp2_with fail
        exact ⟨⟨k + 1, by omega, by go_num, q + 1, by omega, by go_num, HS⟩, by simp [intOf]; omega⟩
      · rw [if_neg hxp] at hs
        have HS := Lib.hid hs
        clear hs
        go_wp2_with fail
        exact ⟨⟨k + 1, by omega, by go_num, q, by omega, by go_num, HS⟩, by simp [intOf]; omega⟩
    · go_wp2_with fail
      go_ret
      have : H.count p = q := by rw [← HQ.out, List.take_of_length_le (by rw [HL.out]; omega)]
      exact ⟨ret_int (by rw [this]), B1.out⟩

theorem own_over {w w' : World} {base n c : Nat} {A : Option Addr} {xs : List Value} (h : w.ownsRow base 3 1 (.slice A n c) n xs) (hb : Below w.heap.size w w') : w'.ownsRow base 3 1 (.slice A n c) n xs := by
  refine ⟨h.1, ?_⟩
  have hlt := h.lt
  rcases h.2 with h' | ⟨g', cap, cur, h', hb', hh, rest⟩
  · exact .inl h'
  · exact .inr ⟨g', cap, cur, h', hb', (hb.block g' (hlt g' (by rw [h']; rfl)).2).trans hh, rest⟩

/-- a list handed back -/
theorem rlist_any (N : Nat) (hN : N ≤ 1024) (A : Option Addr) (n c : Nat) (H : List Int) (hn : n ≤ 1000000) (rs : List Int) (hl : rs.length = N) (hc : ∀ j : Nat, j < N → rs.getD j 0 = H.count (j : Int)) (w : World) (h : Reads w w.heap.size 1 A n (ints H)) :
    Calls Try.prog 15 #[.agg #[.int .i64 N, .slice A n c]] w (SlPost w (heldL rs)) := by
  have b1 : Below w.heap.size w (w.alloc (.cells #[.int .i64 N, .slice A n c] 29)) := (Below.refl _ _).alloc (Nat.le_refl _) _
  have hblk : Hid (Blk (w.alloc (.cells #[.int .i64 N, .slice A n c] 29)) w.heap.size 29 #[.int .i64 N, .slice A n c]) := Blk.new w 29 _
  have HR := Lib.hid (h.over b1)
  have B1 := Lib.hid b1
  have HC := Lib.hid hc
  have HL := Lib.hid hl
  clear h b1 hc hl
  go_enter Try.func15, Try.ntmps15
  go_wp2_with fail
  generalize w.alloc (.cells #[.int .i64 N, .slice A n c] 29) = W at HR B1 hblk ⊢
  go_loopw [3, 4] (fun v i wr => ∃ k : Nat, k ≤ N ∧ i = .int .i64 k ∧ ∃ A' cc, v = .slice A' (heldL (rs.take k)).length cc ∧ Hid (wr.ownsRow W.heap.size 3 1 (.slice A' (heldL (rs.take k)).length cc) (heldL (rs.take k)).length (ints (heldL (rs.take k)))) ∧ Hid (Below W.heap.size W wr)) (fun _ i _ => N - (intOf i).toNat)
  case atStart => exact ⟨0, Nat.zero_le _, rfl, none, 0, rfl, World.ownsRow_nil _ _ _ _, Below.refl _ _⟩
  case round =>
    obtain ⟨k, hk, rfl, A', cc, rfl, HO, HB⟩ := hrel
    have hll := Nat.le_trans (heldL_length (rs.take k)) (by rw [List.length_take]; omega : (rs.take k).length ≤ 1024)
    have hbk := hblk.out.below HB.out hblk.out.lt
    have f0 : wr.cell? ⟨w.heap.size, 0, none⟩ = some (.int .i64 N) := (hbk.cell 0).trans rfl
    have f1 : wr.cell? ⟨w.heap.size, 1, none⟩ = some (.slice A n c) := (hbk.cell 1).trans rfl
    clear hbk
    have HX := Lib.hid (HR.out.over HB.out)
    by_cases hlt : k < N
    · have hs := heldL_snoc rs k (by rw [HL.out]; exact hlt)
      obtain ⟨x, hxx⟩ : ∃ x, x = H.count (k : Int) := ⟨_, rfl⟩
      have hgk : rs[k]'(by rw [HL.out]; exact hlt) = x := by
        have := HC.out k hlt
        rw [List.getD_eq_getElem?_getD, List.getElem?_eq_getElem (by rw [HL.out]; exact hlt)] at this
        rw [hxx]; exact this
      rw [hgk] at hs
      have HXX := Lib.hid hxx
      clear hgk hxx
      by_cases hp : 0 < x
      · rw [if_pos (by omega)] at hs
        have HS := Lib.hid hs
        clear hs
        generalize heldL (rs.take k) = L at *
        go_wp2_with (first
          | (go_at_call 14
             refine (rrefs_any _ _ _ _ _ (by omega) _ _ HX.out).mono ?_
             rintro e w' ⟨rfl, hb⟩
             rw [← HXX.out]
             have HO2 := Lib.hid (own_over HO.out hb)
             have HB2 := Lib.hid (HB.out.trans (hb.mono HB.out.size))
             clear hb)
          | (at_builtin
             go_must (
                 refine wpList_app1 (w0 := W) _ i64_ty rfl (.tmp 15) (.tmp 17) rfl rfl (HB2.out.alloc HB2.out.size _) (HO2.out.alloc _) rfl (reads_new _ 3 (0, 0) [.int .i64 (k : Int)]) (ints_one [(k : Int)]) (by unfold maxLen; omega) (by omega) ?_
                 intro A4 c4 w4 b4 own4 hg4 hat4
                 have B4 := Lib.hid b4
                 have O4 := Lib.hid own4
                 clear own4 hg4 hat4 b4)))
        refine ⟨⟨k + 1, by omega, by go_num, A4, c4, ?_, ?_, B4⟩, by simp [intOf]; omega⟩
        · rw [HS.out]; simp
        · rw [HS.out, List.length_append, ← ints_append]
          exact O4.out
      · rw [if_neg (by omega)] at hs
        have HS := Lib.hid hs
        have hx0 : x = 0 := by omega
        subst hx0
        clear hs hp
        go_wp2_with (first
          | (go_at_call 14
             refine (rrefs_any _ _ _ _ _ (by omega) _ _ HX.out).mono ?_
             rintro e w' ⟨rfl, hb⟩
             rw [← HXX.out]
             have HO2 := Lib.hid (own_over HO.out hb)
             have HB2 := Lib.hid (HB.out.trans (hb.mono HB.out.size))
             clear hb))
        refine ⟨⟨k + 1, by omega, by go_num, A', cc, by rw [HS.out], by rw [HS.out]; exact HO2, HB2⟩, by simp [intOf]; omega⟩
    · have HE : Hid (heldL (rs.take k) = heldL rs) := by rw [List.take_of_length_le (by rw [HL.out]; omega)]; trivial
      generalize heldL (rs.take k) = L at *
      go_wp2_with fail
      go_ret
      refine ⟨A', cc, by rw [← HE.out]; rfl, ?_, B1.out.trans (HB.out.mono B1.out.size)⟩
      have := Reads.of_own HO.out
      rw [← HE.out]; exact this

theorem own_le {w : World} {base n c : Nat} {A : Option Addr} {xs : List Value} (h : w.ownsRow base 3 1 (.slice A n c) n xs) : n ≤ c := by
  rcases h.2 with ⟨h', h0⟩ | ⟨g', cap, cur, h', hb', hh, hnc, rest⟩
  · omega
  · have : c = cap := by injection h'
    omega
theorem two_set {w : World} {g : Nat} {t : TypeId} {a b : Value} (h : Blk w g t #[a, b]) (x y : Value) : Blk ((w.setCell ⟨g, 0, none⟩ x).setCell ⟨g, 1, none⟩ y) g t #[x, y] := by
  have := (h.set_ 0 x).set_ 1 y
  simpa using this
theorem one_set {w : World} {g : Nat} {t : TypeId} {a b : Value} (h : Blk w g t #[a, b]) (y : Value) : Blk (w.setCell ⟨g, 1, none⟩ y) g t #[a, y] := by
  have := h.set_ 1 y
  simpa using this
theorem blk0 {w : World} {g : Nat} {t : TypeId} {a b : Value} (h : Blk w g t #[a, b]) : w.cell? ⟨g, 0, none⟩ = some a := (h.cell 0).trans rfl
theorem blk1 {w : World} {g : Nat} {t : TypeId} {a b : Value} (h : Blk w g t #[a, b]) : w.cell? ⟨g, 1, none⟩ = some b := (h.cell 1).trans rfl

/-- what is read lies in another block -/
def Away (A : Option Addr) (n k : Nat) : Prop := 0 < n → ∀ ad, A = some ad → ad.block ≠ k
theorem Reads.away {w : World} {A : Option Addr} {n : Nat} {xs : List Value} (h : Reads w w.heap.size 1 A n xs) (p : Addr) (u : Value) (hp : Away A n p.block) : Reads (w.setCell p u) (w.setCell p u).heap.size 1 A n xs := by
  refine ⟨h.1, fun hn => ?_⟩
  obtain ⟨ad, e, hb, hc⟩ := h.2 hn
  refine ⟨ad, e, by simpa using hb, fun j v hv => ?_⟩
  rw [World.cell?_of_block (w := w) (Below.heap_setCell w p u _ (by rw [block_of_add]; exact hp hn ad e))]
  exact hc j v hv
theorem Reads.away_of {w : World} {A : Option Addr} {n B k : Nat} {xs : List Value} (h : Reads w B 1 A n xs) (hk : B ≤ k) : Away A n k := by
  intro hn ad e
  obtain ⟨ad', e', hb, _⟩ := h.2 hn
  rw [e] at e'
  injection e' with e'
  rw [e']
  omega
theorem own_away {w : World} {A : Option Addr} {n c B k : Nat} {xs : List Value} (h : w.ownsRow B 3 1 (.slice A n c) n xs) (hk : k < B) : Away A n k := by
  intro hn ad e
  obtain ⟨g, cap, hv, hB, _⟩ := h.form hn
  have : A = some ⟨g, 0, none⟩ := by injection hv
  rw [e] at this
  injection this with this
  rw [this]
  simp
  omega

/-- a row is the old one, or lies in a new block -/
def Far (w : World) (A : Option Addr) (n : Nat) (A' : Option Addr) (n' : Nat) : Prop := ∀ k, k < w.heap.size → Away A n k → Away A' n' k
def R3Post (w : World) (A : Option Addr) (n : Nat) (N : Int) (H' : List Int) (p : Int) (ok : Bool) (e : Ending) (w' : World) : Prop :=
  ∃ A' n' c', e = .returned (.tuple #[.agg #[.int .i64 N, .slice A' n' c'], .int .i64 p, .bool ok]) ∧ n' ≤ c' ∧ Far w A n A' n' ∧ Reads w' w'.heap.size 1 A' n' (ints H') ∧ Below w.heap.size w w'
def RTakeIs (N : Nat) (H : List Int) (p : Int) (ok : Bool) (H' : List Int) : Prop :=
  (∃ i : Nat, p = i ∧ ok = true ∧ i < N ∧ H.count (i : Int) = 0 ∧ (∀ j : Nat, j < i → H.count (j : Int) ≠ 0) ∧ H' = H ++ [(i : Int)]) ∨ (p = 0 ∧ ok = false ∧ H = H' ∧ ∀ j : Nat, j < N → H.count (j : Int) ≠ 0)

set_option maxHeartbeats 1000000 in
theorem rtake_any (N : Nat) (hN : N ≤ 1024) (A : Option Addr) (n c : Nat) (H : List Int) (hn : n ≤ 900000) (hnc : n ≤ c) (p : Int) (ok : Bool) (H' : List Int) (ht : RTakeIs N H p ok H') (w : World) (h : Reads w w.heap.size 1 A n (ints H)) :
    Calls Try.prog 25 #[.agg #[.int .i64 N, .slice A n c]] w (R3Post w A n N H' p ok) := by
  have b1 : Below w.heap.size w ((w.alloc (.cells #[.int .i64 N, .slice A n c] 29)).alloc (.cells #[.int .i64 0, .slice none 0 0] 29)) := ((Below.refl _ _).alloc (Nat.le_refl _) _).alloc (by simp) _
  have hblk : Hid (Blk ((w.alloc (.cells #[.int .i64 N, .slice A n c] 29)).alloc (.cells #[.int .i64 0, .slice none 0 0] 29)) w.heap.size 29 #[.int .i64 N, .slice A n c]) := (Blk.new w 29 _).alloc _
  have hblk2 : Hid (Blk ((w.alloc (.cells #[.int .i64 N, .slice A n c] 29)).alloc (.cells #[.int .i64 0, .slice none 0 0] 29)) (w.heap.size + 1) 29 #[.int .i64 0, .slice none 0 0]) := by
    have := Blk.new (w.alloc (.cells #[.int .i64 N, .slice A n c] 29)) 29 #[.int .i64 0, .slice none 0 0]
    rw [World.size_alloc] at this
    exact this
  have HR0 := Lib.hid h
  have HR := Lib.hid (h.over b1)
  have B1 := Lib.hid b1
  have HL := Lib.hid h.ilen
  have HT := Lib.hid ht
  have hsz : ((w.alloc (.cells #[.int .i64 N, .slice A n c] 29)).alloc (.cells #[.int .i64 0, .slice none 0 0] 29)).heap.size = w.heap.size + 2 := by simp
  clear h b1 ht
  go_enter Try.func25, Try.ntmps25
  go_wp2_with fail
  generalize (w.alloc (.cells #[.int .i64 N, .slice A n c] 29)).alloc (.cells #[.int .i64 0, .slice none 0 0] 29) = W at HR B1 hblk hblk2 hsz ⊢
  have HSZ := Lib.hid hsz
  clear hsz
  go_loopw [5] (fun i wr => ∃ k : Nat, k ≤ N ∧ i = .int .i64 k ∧ Hid (∀ j : Nat, j < k → H.count (j : Int) ≠ 0) ∧ Hid (Below W.heap.size W wr)) (fun i _ => N - (intOf i).toNat)
  case atStart => exact ⟨0, Nat.zero_le _, rfl, fun j hj => by omega, Below.refl _ _⟩
  case round =>
    obtain ⟨k, hk, rfl, HC, HB⟩ := hrel
    have hbk := hblk.out.below HB.out hblk.out.lt
    have hbk2 := hblk2.out.below HB.out hblk2.out.lt
    have f0 : wr.cell? ⟨w.heap.size, 0, none⟩ = some (.int .i64 N) := (hbk.cell 0).trans rfl
    have f1 : wr.cell? ⟨w.heap.size, 1, none⟩ = some (.slice A n c) := (hbk.cell 1).trans rfl
    have HX := Lib.hid (HR.out.over HB.out)
    by_cases hlt : k < N
    · obtain ⟨x, hxx⟩ : ∃ x, x = H.count (k : Int) := ⟨_, rfl⟩
      have HXX := Lib.hid hxx
      clear hxx hbk hbk2
      go_wp2_with fail
      refine (rrefs_any _ _ _ _ _ (by omega) _ _ HX.out).mono ?_
      rintro e w1 ⟨rfl, hb⟩
      rw [← HXX.out]
      have HB2 := Lib.hid (HB.out.trans (hb.mono HB.out.size))
      have HX2 := Lib.hid (HR.out.over HB2.out)
      have hbk := hblk.out.below HB2.out hblk.out.lt
      have hbk2 := hblk2.out.below HB2.out hblk2.out.lt
      have f0 : w1.cell? ⟨w.heap.size, 0, none⟩ = some (.int .i64 N) := (hbk.cell 0).trans rfl
      have f1 : w1.cell? ⟨w.heap.size, 1, none⟩ = some (.slice A n c) := (hbk.cell 1).trans rfl
      clear hb hbk hbk2
      by_cases hx : x = 0
      · subst hx
        have HT2 : Hid (p = k ∧ ok = true ∧ H' = H ++ [(k : Int)]) := by
          rcases HT.out with ⟨i, h1, h2, hi, hi0, hj, h3⟩ | ⟨_, _, _, h4⟩
          · rcases Nat.lt_trichotomy i k with h | rfl | h
            · exact absurd hi0 (HC.out i h)
            · exact ⟨h1, h2, h3⟩
            · exact absurd HXX.out.symm (hj k h)
          · exact absurd HXX.out.symm (h4 k hlt)
        obtain ⟨rfl, rfl, rfl⟩ := HT2.out
        have hown := World.ownsRow_made (base := W.heap.size) (e := 3) (size := 1) w1 #[] 0 HB2.out.size (by simp) (by simp)
        have HO := Lib.hid hown
        have HB3 := Lib.hid (HB2.out.alloc HB2.out.size (.cells #[] 3))
        have HX3 := Lib.hid (HR.out.over HB3.out)
        have g1 := blk1 ((hblk.out.below HB2.out hblk.out.lt).alloc (.cells #[] 3))
        clear hown
        go_wp2_with (at_builtin
                     go_must (first
                       | (have _t := tok1
                          refine wpList_app1 (w0 := W) _ i64_ty rfl (.tmp 19) (.tmp 21) rfl rfl (B4.out.alloc B4.out.size _) (O4.out.alloc _) rfl (reads_new _ 3 (0, 0) [.int .i64 (k : Int)]) (ints_one [(k : Int)]) (by unfold maxLen; omega) (by omega) ?_
                          intro A5 c5 w5 b5 own5 hg5 hat5
                          have B5 := Lib.hid b5
                          have O5 := Lib.hid own5
                          have bk1 := hblk.out.below b5 hblk.out.lt
                          have bk2 := hblk2.out.below b5 hblk2.out.lt
                          have f1 := blk1 bk1
                          have z1 := bk1.frozen 1
                          have f0' := blk0 bk1
                          have f2 := blk0 bk2
                          have f3 := blk1 bk2
                          have z2 := bk2.frozen 0
                          have z3 := bk2.frozen 1
                          have BK2 := Lib.hid (two_set (bk2.far (p := ⟨w.heap.size, 1, none⟩) (by simp) (.slice A5 (n + 1) c5)) (.int .i64 N) (.slice A5 (n + 1) c5))
                          clear own5 hg5 hat5 b5 bk1 bk2)
                       | (refine wpList_app1 (w0 := W) _ i64_ty rfl (.tmp 16) (.tmp 18) rfl rfl HB3.out HO.out rfl HX3.out (ints_one H) (by unfold maxLen; omega) (by omega) ?_
                          intro A4 c4 w4 b4 own4 hg4 hat4
                          simp only [Nat.zero_add, List.nil_append] at own4 hat4 ⊢
                          have B4 := Lib.hid b4
                          have O4 := Lib.hid own4
                          have tok1 : True := trivial
                          clear own4 hg4 hat4 b4)))
        have e0 := blk0 BK2.out
        have e1 := blk1 BK2.out
        have hb := (((B1.out.trans (B5.out.mono B1.out.size)).setCell (p := ⟨w.heap.size, 1, none⟩) (Nat.le_refl _) (.slice A5 (n + 1) c5)).setCell (p := ⟨w.heap.size + 1, 0, none⟩) (Nat.le_succ _) (.int .i64 N)).setCell (p := ⟨w.heap.size + 1, 1, none⟩) (Nat.le_succ _) (.slice A5 (n + 1) c5)
        have ho := ownsRow_setCell_below (ownsRow_setCell_below (ownsRow_setCell_below O5.out (a := ⟨w.heap.size, 1, none⟩) (by rw [HSZ.out]; simp) (.slice A5 (n + 1) c5)) (a := ⟨w.heap.size + 1, 0, none⟩) (by rw [HSZ.out]; simp) (.int .i64 N)) (a := ⟨w.heap.size + 1, 1, none⟩) (by rw [HSZ.out]; simp) (.slice A5 (n + 1) c5)
        rw [show [Value.int .i64 (k : Int)] = ints [(k : Int)] from rfl, ints_append] at ho
        exact bodyPost_ret (v := .tuple #[.agg #[.int .i64 N, .slice A5 (n + 1) c5], .int .i64 k, .bool true]) (by simp [results, Try.results25, go_sem, e0, e1]) rfl ⟨A5, n + 1, c5, rfl, own_le ho, fun _ hk _ => own_away ho (by rw [HSZ.out]; omega), Reads.of_own ho, hb⟩
      · have hx' : ¬ (x : Int) = 0 := by omega
        go_wp2_with fail
        refine ⟨⟨k + 1, by omega, by go_num, ?_, HB2⟩, by simp [intOf]; omega⟩
        intro j hj
        rcases Nat.lt_or_ge j k with h' | h'
        · exact HC.out j h'
        · obtain rfl : j = k := by omega
          rw [← HXX.out]
          exact hx
    · have HT2 : Hid (p = 0 ∧ ok = false ∧ H = H') := by
        rcases HT.out with ⟨i, _, _, hi, hi0, _⟩ | ⟨h1, h2, h3, _⟩
        · exact absurd hi0 (HC.out i (by omega))
        · exact ⟨h1, h2, h3⟩
      obtain ⟨rfl, rfl, rfl⟩ := HT2.out
      have f2 : wr.cell? ⟨w.heap.size + 1, 0, none⟩ = some (.int .i64 0) := (hbk2.cell 0).trans rfl
      have f3 : wr.cell? ⟨w.heap.size + 1, 1, none⟩ = some (.slice none 0 0) := (hbk2.cell 1).trans rfl
      have z2 := hbk2.frozen 0
      have z3 := hbk2.frozen 1
      have HK := Lib.hid (two_set hbk2 (.int .i64 N) (.slice A n c))
      clear hbk hbk2
      go_wp2_with fail
      have e0 := blk0 HK.out
      have e1 := blk1 HK.out
      have hb := ((B1.out.trans (HB.out.mono B1.out.size)).setCell (p := ⟨w.heap.size + 1, 0, none⟩) (Nat.le_succ _) (.int .i64 N)).setCell (p := ⟨w.heap.size + 1, 1, none⟩) (Nat.le_succ _) (.slice A n c)
      exact bodyPost_ret (v := .tuple #[.agg #[.int .i64 N, .slice A n c], .int .i64 0, .bool false]) (by simp [results, Try.results25, go_sem, e0, e1]) rfl ⟨A, n, c, rfl, hnc, fun _ _ h => h, HR0.out.over hb, hb⟩
end Go.Proofs.Ytohlcopnifmjoae
