/- ids: New; one step of a script; the page's example. -/
import Derived.Test.YtohlcopnifmjoabGive
namespace Go.Proofs.Ytohlcopnifmjoab
open Go.RowKit

set_option maxHeartbeats 1000000 in
theorem new_any (n m : Int) (w : World) :
    Calls Try.prog 7 #[.int .i64 n, .int .i64 m] w fun e w' => e = .returned (.pointer (some ⟨w.heap.size, 0, none⟩)) ∧ IObj w' w.heap.size w.heap.size (nearL n 1024) (nearL m 1073741824) none 0 none 0 [] [] ∧ Below w.heap.size w w' := by
  have key : ∀ (E : Nat) (G : Int), IObj (w.alloc (.cells #[.slice none 0 0, .slice none 0 0, .int .i64 E, .int .i64 G] 57)) w.heap.size w.heap.size E G none 0 none 0 [] [] ∧ Below w.heap.size w (w.alloc (.cells #[.slice none 0 0, .slice none 0 0, .int .i64 E, .int .i64 G] 57)) := fun E G =>
    ⟨⟨Nat.le_refl _, Blk.new w 57 _, World.ownsRow_nil _ _ _ _, World.ownsRow_nil _ _ _ _⟩, (Below.refl _ _).alloc (Nat.le_refl _) _⟩
  have KEY := Lib.hid key
  clear key
  have hE : ∃ E : Nat, Hid (nearL n 1024 = E) ∧ ((n < 1 ∧ E = 1) ∨ (1 ≤ n ∧ 1024 < n ∧ E = 1024) ∨ (1 ≤ n ∧ n ≤ 1024 ∧ n = E)) := by
    unfold nearL
    by_cases h1 : n < 1
    · exact ⟨1, by rw [if_pos h1]; trivial, .inl ⟨h1, rfl⟩⟩
    · by_cases h2 : 1024 < n
      · exact ⟨1024, by rw [if_neg h1, if_pos (by omega)]; trivial, .inr (.inl ⟨by omega, h2, rfl⟩)⟩
      · exact ⟨n.toNat, by rw [if_neg h1, if_neg (by omega)]; trivial, .inr (.inr ⟨by omega, by omega, by omega⟩)⟩
  have hG : ∃ G : Nat, Hid (nearL m 1073741824 = G) ∧ ((m < 1 ∧ G = 1) ∨ (1 ≤ m ∧ 1073741824 < m ∧ G = 1073741824) ∨ (1 ≤ m ∧ m ≤ 1073741824 ∧ m = G)) := by
    unfold nearL
    by_cases h1 : m < 1
    · exact ⟨1, by rw [if_pos h1]; trivial, .inl ⟨h1, rfl⟩⟩
    · by_cases h2 : 1073741824 < m
      · exact ⟨1073741824, by rw [if_neg h1, if_pos (by omega)]; trivial, .inr (.inl ⟨by omega, h2, rfl⟩)⟩
      · exact ⟨m.toNat, by rw [if_neg h1, if_neg (by omega)]; trivial, .inr (.inr ⟨by omega, by omega, by omega⟩)⟩
  obtain ⟨E, HE, hE⟩ := hE
  obtain ⟨G, HG, hG⟩ := hG
  rcases hE with ⟨h1, rfl⟩ | ⟨h1, h2, rfl⟩ | ⟨h1, h2, rfl⟩ <;> rcases hG with ⟨k1, rfl⟩ | ⟨k1, k2, rfl⟩ | ⟨k1, k2, rfl⟩ <;>
    (go_enter Try.func7, Try.ntmps7
     go_wp2
     go_ret
     exact ⟨rfl, by rw [HE.out, HG.out]; exact (KEY.out _ _).1, (KEY.out _ _).2⟩)

/-- what an operation left, and what was done to new blocks since -/
theorem PostI.from {w w0 w1 : World} {B x E : Nat} {G : Int} {As Af : Option Addr} {cs cf : Nat} {s : Sl} {f : List Int} {s' : Sl} {f' : List Int} (h0 : IObj w B x E G As cs Af cf s f) (hb : Below w.heap.size w w0) (h : PostI w0 B x E G As Af s' f' w1) :
    PostI w B x E G As Af s' f' w1 ∧ (∀ k, w.heap.size ≤ k → k < w0.heap.size → w1.heap[k]? = w0.heap[k]?) ∧ ∃ As' cs' Af' cf', IObj w1 B x E G As' cs' Af' cf' s' f' ∧ Fr (OwnK x As Af) w w1 ∧ (∀ k, OwnK x As' Af' k → OwnK x As Af k ∨ w.heap.size ≤ k) ∧ ∀ k, w.heap.size ≤ k → k < w0.heap.size → ¬ OwnK x As' Af' k := by
  obtain ⟨As', cs', Af', cf', ho, hf, hn⟩ := h
  have hf2 : Fr (OwnK x As Af) w w1 := (Fr.of_below hb).trans hf
  have hn2 : ∀ k, OwnK x As' Af' k → OwnK x As Af k ∨ w.heap.size ≤ k := fun k hk => by
    rcases hn k hk with h | h
    · exact .inl h
    · have := hb.size
      exact .inr (by omega)
  refine ⟨⟨As', cs', Af', cf', ho, hf2, hn2⟩, fun k h1 h2 => hf.block k h2 (fun hk => by have := (h0.own hk).2; omega), As', cs', Af', cf', ho, hf2, hn2, fun k h1 h2 hk => ?_⟩
  rcases hn k hk with h | h
  · have := (h0.own h).2
    omega
  · omega

set_option maxRecDepth 100000 in
set_option maxHeartbeats 2000000 in
theorem do_take (B x E : Nat) (G : Int) (As : Option Addr) (cs : Nat) (Af : Option Addr) (cf : Nat) (s : Sl) (f : List Int) (hl : s.length ≤ 1024) (hfl : f.length ≤ 2000) (i g a b e : Int) (s' : Sl) (f' : List Int) (ht : TakeIs E s f a b e s' f') (w : World) (h : IObj w B x E G As cs Af cf s f) :
    Calls Try.prog 8 #[.pointer (some ⟨x, 0, none⟩), .agg #[.bool false, .int .i64 i, .int .i64 g]] w fun en w' => en = .returned (.tuple #[.agg #[.int .i64 a, .int .i64 b], .int .i64 e]) ∧ PostI w B x E G As Af s' f' w' := by
  have b1 : Below w.heap.size w (w.alloc (.cells #[.bool false, .int .i64 i, .int .i64 g] 32)) := (Below.refl _ _).alloc (Nat.le_refl _) _
  have b2 : Below w.heap.size w ((w.alloc (.cells #[.bool false, .int .i64 i, .int .i64 g] 32)).alloc (.cells #[.int .i64 0, .int .i64 0] 28)) := b1.alloc (by simp) _
  have hr := Blk.new (w.alloc (.cells #[.bool false, .int .i64 i, .int .i64 g] 32)) 28 #[.int .i64 0, .int .i64 0]
  rw [World.size_alloc] at hr
  have HR := Lib.hid hr
  have B2 := Lib.hid b2
  have HT := Lib.hid ht
  have H := Lib.hid h
  have H2 := Lib.hid (h.over b2)
  have hs2 : ((w.alloc (.cells #[.bool false, .int .i64 i, .int .i64 g] 32)).alloc (.cells #[.int .i64 0, .int .i64 0] 28)).heap.size = w.heap.size + 2 := by simp
  have HS2 := Lib.hid hs2
  clear ht h hr b1 b2 hs2
  go_enter Try.func8, Try.ntmps8
  go_wp2_with fail
  refine (take_any _ _ _ _ _ _ _ _ _ _ hl hfl _ _ _ _ _ HT.out _ H2.out).mono ?_
  rintro en w1 ⟨rfl, hp⟩
  obtain ⟨_, hkeep, As', cs', Af', cf', ho, hf, hn, hno⟩ := hp.from H.out B2.out
  rw [HS2.out] at hkeep hno
  have hr1 : Blk w1 (w.heap.size + 1) 28 #[.int .i64 0, .int .i64 0] := (hkeep _ (by omega) (by omega)).trans HR.out
  have hnr := hno (w.heap.size + 1) (by omega) (by omega)
  have HNR := Lib.hid hnr
  have HO := Lib.hid ho
  have HF := Lib.hid hf
  have HN := Lib.hid hn
  have HR1 := Lib.hid hr1
  have l1 := hr1.lt
  have l2 : w.heap.size + 1 ≠ w1.heap.size := Nat.ne_of_lt l1
  have k0 := blk0 hr1
  have k1 := blk1 hr1
  have z0 := hr1.frozen 0
  have z1 := hr1.frozen 1
  clear hp hkeep hno hnr ho hf hn hr1
  go_wp2_with fail
  have t0 := blk0 (Blk.new w1 28 #[.int .i64 a, .int .i64 b])
  have t1 := blk1 (Blk.new w1 28 #[.int .i64 a, .int .i64 b])
  have HOA := Lib.hid (HO.out.over ((Below.refl _ _).alloc (Nat.le_refl _) (.cells #[.int .i64 a, .int .i64 b] 28)))
  have FA := Lib.hid (HF.out.alloc (.cells #[.int .i64 a, .int .i64 b] 28))
  have RA := HR1.out.alloc (.cells #[.int .i64 a, .int .i64 b] 28)
  have k0 := blk0 RA
  have k1 := blk1 RA
  have z0 := RA.frozen 0
  have z1 := RA.frozen 1
  have lA := RA.lt
  have HRA := Lib.hid RA
  clear RA
  generalize w1.alloc (.cells #[.int .i64 a, .int .i64 b] 28) = X at t0 t1 HOA FA k0 k1 z0 z1 lA HRA ⊢
  generalize w1.heap.size = q at t0 t1 l1 l2 ⊢
  go_region_held3 (fun w' => w'.cell? ⟨q, 0, none⟩ = some (.int .i64 a) ∧ w'.cell? ⟨q, 1, none⟩ = some (.int .i64 b)) (go_keep)
    (first
      | (go_at_call 15
         refine (code_any e _).mono ?_
         rintro e3 w3 ⟨rfl, rfl⟩)
      | fail)
  all_goals (
    go_wp2_with fail
    have b2 := two_set HRA.out (.int .i64 a) (.int .i64 b)
    have f0 := blk0 b2.drew
    have f1 := blk1 b2.drew
    exact bodyPost_ret (v := .tuple #[.agg #[.int .i64 a, .int .i64 b], .int .i64 e]) (by simp [results, Try.results8, go_sem, f0, f1]) rfl ⟨rfl, _, _, _, _, ((HOA.out.far (p := ⟨w.heap.size + 1, 0, none⟩) HNR.out _).far (p := ⟨w.heap.size + 1, 1, none⟩) HNR.out _).drew, ((FA.out.set_ (p := ⟨w.heap.size + 1, 0, none⟩) (.inr (Nat.le_succ _)) _).set_ (p := ⟨w.heap.size + 1, 1, none⟩) (.inr (Nat.le_succ _)) _).drew, HN.out⟩)

set_option maxRecDepth 100000 in
set_option maxHeartbeats 2000000 in
theorem do_give (B x E : Nat) (G : Int) (As : Option Addr) (cs : Nat) (Af : Option Addr) (cf : Nat) (s : Sl) (f : List Int) (hfl : f.length ≤ 2000) (inv : IInv E G s f) (i g e : Int) (s' : Sl) (f' : List Int) (ht : GiveIs G s f i g e s' f') (w : World) (h : IObj w B x E G As cs Af cf s f) :
    Calls Try.prog 8 #[.pointer (some ⟨x, 0, none⟩), .agg #[.bool true, .int .i64 i, .int .i64 g]] w fun en w' => en = .returned (.tuple #[.agg #[.int .i64 0, .int .i64 0], .int .i64 e]) ∧ PostI w B x E G As Af s' f' w' := by
  have b1 : Below w.heap.size w (w.alloc (.cells #[.bool true, .int .i64 i, .int .i64 g] 32)) := (Below.refl _ _).alloc (Nat.le_refl _) _
  have b2 : Below w.heap.size w ((w.alloc (.cells #[.bool true, .int .i64 i, .int .i64 g] 32)).alloc (.cells #[.int .i64 0, .int .i64 0] 28)) := b1.alloc (by simp) _
  have hr := Blk.new (w.alloc (.cells #[.bool true, .int .i64 i, .int .i64 g] 32)) 28 #[.int .i64 0, .int .i64 0]
  rw [World.size_alloc] at hr
  have HR := Lib.hid hr
  have B2 := Lib.hid b2
  have HT := Lib.hid ht
  have IV := Lib.hid inv
  have H := Lib.hid h
  have H2 := Lib.hid (h.over b2)
  have hs2 : ((w.alloc (.cells #[.bool true, .int .i64 i, .int .i64 g] 32)).alloc (.cells #[.int .i64 0, .int .i64 0] 28)).heap.size = w.heap.size + 2 := by simp
  have HS2 := Lib.hid hs2
  clear ht h hr b1 b2 hs2 inv
  go_enter Try.func8, Try.ntmps8
  go_wp2_with fail
  refine (give_any _ _ _ _ _ _ _ _ _ _ hfl IV.out _ _ _ _ _ HT.out _ H2.out).mono ?_
  rintro en w1 ⟨rfl, hp⟩
  obtain ⟨_, hkeep, As', cs', Af', cf', ho, hf, hn, hno⟩ := hp.from H.out B2.out
  rw [HS2.out] at hkeep hno
  have hr1 : Blk w1 (w.heap.size + 1) 28 #[.int .i64 0, .int .i64 0] := (hkeep _ (by omega) (by omega)).trans HR.out
  have HNR := Lib.hid (hno (w.heap.size + 1) (by omega) (by omega))
  have HO := Lib.hid ho
  have HF := Lib.hid hf
  have HN := Lib.hid hn
  have k0 := blk0 hr1
  have k1 := blk1 hr1
  have z0 := hr1.frozen 0
  have z1 := hr1.frozen 1
  have HR1 := Lib.hid hr1
  clear hp hkeep hno ho hf hn hr1
  go_wp2_with (go_at_call 15; refine (code_any e _).mono ?_; rintro e3 w3 ⟨rfl, rfl⟩)
  have b2 := two_set HR1.out (.int .i64 0) (.int .i64 0)
  have f0 := blk0 b2
  have f1 := blk1 b2
  exact bodyPost_ret (v := .tuple #[.agg #[.int .i64 0, .int .i64 0], .int .i64 e]) (by simp [results, Try.results8, go_sem, f0, f1]) rfl ⟨rfl, _, _, _, _, (HO.out.far (p := ⟨w.heap.size + 1, 0, none⟩) HNR.out _).far (p := ⟨w.heap.size + 1, 1, none⟩) HNR.out _, (HF.out.set_ (p := ⟨w.heap.size + 1, 0, none⟩) (.inr (Nat.le_succ _)) _).set_ (p := ⟨w.heap.size + 1, 1, none⟩) (.inr (Nat.le_succ _)) _, HN.out⟩

/-- one step of a script -/
theorem do_any (B x E : Nat) (G : Int) (As : Option Addr) (cs : Nat) (Af : Option Addr) (cf : Nat) (s : Sl) (f : List Int) (hfl : f.length ≤ 2000) (inv : IInv E G s f) (gv : Bool) (i g a b e : Int) (s' : Sl) (f' : List Int) (ht : StepIs E G s f i g gv a b e s' f') (w : World) (h : IObj w B x E G As cs Af cf s f) :
    Calls Try.prog 8 #[.pointer (some ⟨x, 0, none⟩), .agg #[.bool gv, .int .i64 i, .int .i64 g]] w fun en w' => en = .returned (.tuple #[.agg #[.int .i64 a, .int .i64 b], .int .i64 e]) ∧ PostI w B x E G As Af s' f' w' := by
  have hl : s.length ≤ 1024 := Nat.le_trans inv.len inv.e1
  cases ht with
  | take ht => exact do_take B x E G As cs Af cf s f hl hfl i g a b e s' f' ht w h
  | give ht => exact do_give B x E G As cs Af cf s f hfl inv i g e s' f' ht w h

set_option maxRecDepth 100000 in
set_option maxHeartbeats 2000000 in
theorem live_any (w : World) : Calls Try.prog 6 #[] w fun e w' => e = .returned (.bool true) ∧ Below w.heap.size w w' := by
  have i0 : IInv 5 5 [] [] := IInv.empty (E := 5) (G := 5) (by omega) (by omega) (by omega) (by omega)
  have t1 : TakeIs 5 [] [] 0 0 0 [(0, true)] [] := .fresh rfl (by simp)
  have i1 := i0.take t1
  have t2 : TakeIs 5 [(0, true)] [] 1 0 0 [(0, true), (0, true)] [] := .fresh rfl (by simp)
  have i2 := i1.take t2
  have t3 : GiveIs 5 [(0, true), (0, true)] [] 0 0 0 [(1, false), (0, true)] [0] := .back 0 rfl rfl (by omega)
  have t4 : TakeIs 5 [(1, false), (0, true)] [0] 0 1 0 [(1, true), (0, true)] [] := .pop [] 0 1 false rfl rfl
  have T1 := Lib.hid t1
  have T2 := Lib.hid t2
  have T3 := Lib.hid t3
  have T4 := Lib.hid t4
  have I2 := Lib.hid i2
  clear i0 t1 i1 t2 i2 t3 t4
  go_enter Try.func6, Try.ntmps6
  go_wp2_with fail
  refine (new_any 5 5 _).mono ?_
  rintro e w1 ⟨rfl, h1, hb1⟩
  have H1 := Lib.hid h1
  have B1 := Lib.hid hb1
  clear h1 hb1
  go_wp2_with fail
  refine (take_any _ _ 5 5 _ _ _ _ _ _ (by simp) (by simp) _ _ _ _ _ T1.out _ H1.out).mono ?_
  rintro e w2 ⟨rfl, As2, cs2, Af2, cf2, h2, f2, n2⟩
  have H2 := Lib.hid h2
  have B2 := Lib.hid (B1.out.trans (f2.below (fun k hk => (H1.out.own hk).1) B1.out.size))
  clear h2 f2 n2
  go_wp2_with fail
  refine (take_any _ _ 5 5 _ _ _ _ _ _ (by simp) (by simp) _ _ _ _ _ T2.out _ H2.out).mono ?_
  rintro e w3 ⟨rfl, As3, cs3, Af3, cf3, h3, f3, n3⟩
  have H3 := Lib.hid h3
  have B3 := Lib.hid (B2.out.trans (f3.below (fun k hk => (H2.out.own hk).1) B2.out.size))
  clear h3 f3 n3
  go_wp2_with fail
  refine (give_any _ _ 5 5 _ _ _ _ _ _ (by simp) I2.out _ _ _ _ _ T3.out _ H3.out).mono ?_
  rintro e w4 ⟨rfl, As4, cs4, Af4, cf4, h4, f4, n4⟩
  have H4 := Lib.hid h4
  have B4 := Lib.hid (B3.out.trans (f4.below (fun k hk => (H3.out.own hk).1) B3.out.size))
  clear h4 f4 n4
  go_wp2_with fail
  refine (take_any _ _ 5 5 _ _ _ _ _ _ (by simp) (by simp) _ _ _ _ _ T4.out _ H4.out).mono ?_
  rintro e w5 ⟨rfl, As5, cs5, Af5, cf5, h5, f5, n5⟩
  have B5 := Lib.hid (B4.out.trans (f5.below (fun k hk => (H4.out.own hk).1) B4.out.size))
  clear h5 f5 n5
  go_wp2_with (go_at_call 15; refine (code_any _ _).mono ?_; rintro e3 w3 ⟨rfl, rfl⟩)
  go_ret
  exact ⟨rfl, B5.out.alloc B5.out.size _⟩
end Go.Proofs.Ytohlcopnifmjoab
