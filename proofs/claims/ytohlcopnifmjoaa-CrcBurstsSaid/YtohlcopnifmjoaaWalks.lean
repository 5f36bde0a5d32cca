/- The walks of the check sum: Add, Of, the reference. -/
import Derived.Test.YtohlcopnifmjoaaRows
import Derived.Test.YtohlcopnifmjoaaMath
import Derived.Test.YtohlcopnifmjoaaBits
import Derived.Test.YtohlcopnifmjoaaWords
import Derived.WalkKit
import Derived.ProofKit
import Derived.WalkLawsBesides
import Derived.WalkSpells
import Derived.Outline
import Derived.Lib.Hide
import Derived.Lib.SlBytesConst
namespace Go.Proofs.Ytohlcopnifmjoaa
open Go.RowKit
open CrcM

def bytesOf (zs : List Int) : List Value := zs.map (Value.int .u8)
theorem bytesOf_one (zs : List Int) : ∀ u ∈ bytesOf zs, u.oneCell' = true := by
  intro u hu
  simp [bytesOf] at hu
  obtain ⟨z, _, rfl⟩ := hu
  rfl
theorem bytesOf_append (xs ys : List Int) : bytesOf xs ++ bytesOf ys = bytesOf (xs ++ ys) := by simp [bytesOf]

theorem ret_of {u v : Value} (h : u = v) : Ending.returned u = Ending.returned v := by rw [h]
theorem ret_int {k : IntKind} {a b : Int} (h : a = b) : Ending.returned (.int k a) = Ending.returned (.int k b) := by rw [h]

set_option maxHeartbeats 400000 in
theorem add_any (s : W) (A : Option Addr) (n c : Nat) (zs : List Int) (w : World) (hr : Reads w w.heap.size 1 A n (bytesOf zs)) (hb : ∀ z ∈ zs, 0 ≤ z ∧ z < 256) (hn : n ≤ maxLen) :
    Calls Try.prog 7 #[.int .u32 (num s), .slice A n c] w fun e w' => e = .returned (.int .u32 (num (add s zs))) ∧ w = w' := by
  have hlen : zs.length = n := by have := hr.1; simpa [bytesOf] using this
  unfold maxLen at hn
  have HL := Lib.hid hlen; clear hlen
  go_enter Try.func7, Try.ntmps7
  go_wp2
  go_loop [0, 10] (fun st i => ∃ k : Nat, k ≤ n ∧ i = .int .i64 k ∧ st = .int .u32 (num (add s (zs.take k)))) (fun _ i => n - (intOf i).toNat)
  case atStart => exact ⟨0, Nat.zero_le _, rfl, rfl⟩
  case round =>
    obtain ⟨k, hk, rfl, rfl⟩ := hrel
    by_cases hlt : k < n
    · obtain ⟨ad, u, rfl, _, hx, hc⟩ := hr.at_ hlt
      have hkz : k < zs.length := by rw [HL.out]; exact hlt
      obtain ⟨z, hz⟩ : ∃ z, z = zs[k] := ⟨_, rfl⟩
      have hbz := hb z (by rw [hz]; exact List.getElem_mem hkz)
      have hu : u = .int .u8 z := by
        simp [bytesOf, List.getElem?_eq_getElem hkz] at hx; rw [← hx, hz]
      subst hu
      have HS : Hid (add s (zs.take (k + 1)) = byte (add s (zs.take k)) z) := by
        rw [List.take_succ_eq_append_getElem hkz, add_snoc, hz]; trivial
      have HZ := Lib.hid hz; clear hz hx
      generalize add s (zs.take k) = S at *
      have hx1 := n_xor_byte S z hbz.1 hbz.2
      go_wp2
      go_loop [0, 18] (fun st i => ∃ j : Nat, j ≤ 8 ∧ i = .int .i64 j ∧ st = .int .u32 (num (sts j (S ^^^ B z)))) (fun _ i => 8 - (intOf i).toNat)
      case atStart => exact ⟨0, Nat.zero_le _, rfl, rfl⟩
      case round =>
        obtain ⟨j, hj, rfl, rfl⟩ := hrel
        clear hx1
        by_cases hj8 : j < 8
        · have HJ : Hid (sts (j + 1) (S ^^^ B z) = st (sts j (S ^^^ B z))) := by
            have := sts_add j 1 (S ^^^ B z); exact this
          generalize sts j (S ^^^ B z) = X at *
          have hX := num_bd X
          go_wp2
          refine ⟨⟨j + 1, by omega, by go_num, ?_⟩, by simp [intOf]; omega⟩
          rw [n_step, HJ.out]
        · have e8 : j = 8 := by omega
          subst e8
          go_wp2
          refine ⟨⟨k + 1, by omega, by go_num, ?_⟩, by simp [intOf]; omega⟩
          rw [HS.out]
          rfl
    · go_wp2
      go_ret
      exact ⟨ret_int (by rw [List.take_of_length_le (by rw [HL.out]; omega)]), rfl⟩

theorem start_any (w : World) : Calls Try.prog 8 #[] w fun e w' => e = .returned (.int .u32 (num ones)) ∧ w = w' := by
  go_enter Try.func8, Try.ntmps8
  go_wp2
  go_ret
  exact ⟨ret_int n_ones.symm, rfl⟩

theorem end_any (s : W) (w : World) : Calls Try.prog 11 #[.int .u32 (num s)] w fun e w' => e = .returned (.int .u32 (num (~~~ s))) ∧ w = w' := by
  have h1 := n_not s
  go_enter Try.func11, Try.ntmps11
  go_wp2
  go_ret
  exact ⟨rfl, rfl⟩

set_option maxHeartbeats 400000 in
theorem turned_any (x : W) (w : World) : Calls Try.prog 12 #[.int .u32 (num x)] w fun e w' => e = .returned (.int .u32 (num x.reverse)) ∧ w = w' := by
  have h0 : Hid (num (0#32) = 0) := rfl
  go_enter Try.func12, Try.ntmps12
  go_wp2
  go_loop [0, 3, 4] (fun n o i => ∃ k : Nat, ∃ ow nw : W, k ≤ 32 ∧ i = .int .i64 k ∧ n = .int .u32 (num nw) ∧ o = .int .u32 (num ow) ∧ Hid (tn (32 - k) ow nw = x.reverse)) (fun _ _ i => 32 - (intOf i).toNat)
  case atStart => exact ⟨0, 0#32, x, Nat.zero_le _, rfl, rfl, by rw [h0.out], tn_rev x⟩
  case round =>
    obtain ⟨k, ow, nw, hk, rfl, rfl, rfl, HT⟩ := hrel
    by_cases hlt : k < 32
    · have hn := num_bd nw
      have ho := num_bd ow
      go_wp2
      refine ⟨⟨k + 1, (ow <<< 1) ^^^ bitw (nw.getLsbD 0), nw >>> 1, by omega, by go_num, by rw [n_half], by rw [n_tn], ?_⟩, by simp [intOf]; omega⟩
      have := HT.out
      rw [show 32 - k = (32 - (k + 1)) + 1 from by omega] at this
      exact this
    · go_wp2
      go_ret
      have := HT.out
      rw [show 32 - k = 0 from by omega] at this
      exact ⟨ret_int (by rw [← this]; rfl), rfl⟩

def refOf (zs : List Int) : W := ~~~ ((radd ones zs).reverse)

set_option maxHeartbeats 400000 in
theorem ref_any (A : Option Addr) (n c : Nat) (zs : List Int) (w : World) (hr : Reads w w.heap.size 1 A n (bytesOf zs)) (hb : ∀ z ∈ zs, 0 ≤ z ∧ z < 256) (hn : n ≤ maxLen) :
    Calls Try.prog 10 #[.slice A n c] w fun e w' => e = .returned (.int .u32 (num (of zs))) ∧ w = w' := by
  have hlen : zs.length = n := by have := hr.1; simpa [bytesOf] using this
  have hfin : ~~~ ((radd ones zs).reverse) = of zs := ref_of zs hb
  have HF := Lib.hid hfin; clear hfin
  unfold maxLen at hn
  have HL := Lib.hid hlen; clear hlen
  have h0 : Hid (num ones = 4294967295) := n_ones
  go_enter Try.func10, Try.ntmps10
  go_wp2
  go_loop [3, 4] (fun st i => ∃ k : Nat, k ≤ n ∧ i = .int .i64 k ∧ st = .int .u32 (num (radd ones (zs.take k)))) (fun _ i => n - (intOf i).toNat)
  case atStart => exact ⟨0, Nat.zero_le _, rfl, by rw [← h0.out]; rfl⟩
  case round =>
    obtain ⟨k, hk, rfl, rfl⟩ := hrel
    by_cases hlt : k < n
    · obtain ⟨ad, u, rfl, _, hx, hc⟩ := hr.at_ hlt
      have hkz : k < zs.length := by rw [HL.out]; exact hlt
      obtain ⟨z, hz⟩ : ∃ z, z = zs[k] := ⟨_, rfl⟩
      have hbz := hb z (by rw [hz]; exact List.getElem_mem hkz)
      have hu : u = .int .u8 z := by
        simp [bytesOf, List.getElem?_eq_getElem hkz] at hx; rw [← hx, hz]
      subst hu
      have HS : Hid (radd ones (zs.take (k + 1)) = rbyte (radd ones (zs.take k)) z) := by
        rw [List.take_succ_eq_append_getElem hkz, radd_snoc, hz]; trivial
      have HZ := Lib.hid hz; clear hz hx
      generalize radd ones (zs.take k) = S at *
      go_wp2
      go_loop [3, 5, 6] (fun st b i => ∃ j : Nat, ∃ zj : Nat, j ≤ 8 ∧ Hid (zj = z.toNat / 2 ^ j) ∧ i = .int .i64 j ∧ b = .int .u32 (zj : Int) ∧ zj ≤ 255 ∧ st = .int .u32 (num (refs j S z.toNat))) (fun _ _ i => 8 - (intOf i).toNat)
      case atStart => exact ⟨0, z.toNat, Nat.zero_le _, by simp [Hid], rfl, by rw [Int.toNat_of_nonneg hbz.1], by omega, rfl⟩
      case round =>
        obtain ⟨j, zj, hj, hzj, rfl, rfl, hz255, rfl⟩ := hrel
        by_cases hj8 : j < 8
        · have HJ : Hid (refs (j + 1) S z.toNat = rb (refs j S z.toNat) (zj % 2 == 1)) := by
            rw [refs_snoc, hzj.out]; trivial
          have HN : Hid (zj / 2 = z.toNat / 2 ^ (j + 1)) := by
            rw [hzj.out, Nat.div_div_eq_div_mul, Nat.pow_succ]; trivial
          generalize refs j S z.toNat = X at *
          have hX := num_bd X
          have hul := n_unlike X zj
          cases hcase : (X.getLsbD 31 != (zj % 2 == 1))
          · rw [hcase] at hul
            have HC := Lib.hid hcase; clear hcase
            go_wp2
            refine ⟨⟨j + 1, zj / 2, by omega, HN, by go_num, by go_num, by omega, ?_⟩, by simp [intOf]; omega⟩
            rw [n_double, n_rb_f _ _ HC.out, HJ.out]
          · rw [hcase] at hul
            have HC := Lib.hid hcase; clear hcase
            go_wp2
            refine ⟨⟨j + 1, zj / 2, by omega, HN, by go_num, by go_num, by omega, ?_⟩, by simp [intOf]; omega⟩
            rw [n_double, n_rb_t _ _ HC.out, HJ.out]
        · have e8 : j = 8 := by omega
          subst e8
          go_wp2
          refine ⟨⟨k + 1, by omega, by go_num, ?_⟩, by simp [intOf]; omega⟩
          rw [HS.out]
          rfl
    · have HE : Hid (radd ones (zs.take k) = radd ones zs) := by rw [List.take_of_length_le (by rw [HL.out]; omega)]; trivial
      generalize radd ones (zs.take k) = S at *
      go_wp2_with (go_at_call 12; refine (turned_any _ _).mono ?_; rintro e w' ⟨rfl, rfl⟩)
      go_ret
      exact ⟨ret_int (by rw [n_sub_wrap, HE.out, HF.out]), rfl⟩

/-- a part: a slice of bytes, and what it reads as -/
structure Part where
  A : Option Addr
  n : Nat
  c : Nat
  zs : List Int
def Part.v (p : Part) : Value := .slice p.A p.n p.c
def Part.ok (w : World) (p : Part) : Prop := Reads w w.heap.size 1 p.A p.n (bytesOf p.zs) ∧ (∀ z ∈ p.zs, 0 ≤ z ∧ z < 256) ∧ p.n ≤ maxLen
def addP (s : W) (ps : List Part) : W := ps.foldl (fun s p => add s p.zs) s
theorem addP_eq (s : W) (ps : List Part) : addP s ps = add s (ps.flatMap (·.zs)) := by
  unfold addP
  induction ps generalizing s with
  | nil => rfl
  | cons p ps ih => simp only [List.foldl_cons, List.flatMap_cons, ih, add_append]
theorem addP_snoc (s : W) (ps : List Part) (p : Part) : addP s (ps ++ [p]) = add (addP s ps) p.zs := by simp [addP, List.foldl_append]

set_option maxHeartbeats 400000 in
theorem of_any (A : Option Addr) (m c : Nat) (ps : List Part) (w : World) (hr : Reads w w.heap.size 1 A m (ps.map Part.v)) (hp : ∀ p ∈ ps, p.ok w) (hm : m ≤ maxLen) :
    Calls Try.prog 9 #[.slice A m c] w fun e w' => e = .returned (.int .u32 (num (~~~ (addP ones ps)))) ∧ w = w' := by
  have hlen : ps.length = m := by have := hr.1; simpa using this
  unfold maxLen at hm
  have HL := Lib.hid hlen; clear hlen
  have HP := Lib.hid hp; clear hp
  go_enter Try.func9, Try.ntmps9
  go_wp2_with (go_at_call 8; refine (start_any _).mono ?_; rintro e w' ⟨rfl, rfl⟩)
  go_loop [3, 9] (fun st i => ∃ k : Nat, k ≤ m ∧ i = .int .i64 k ∧ st = .int .u32 (num (addP ones (ps.take k)))) (fun _ i => m - (intOf i).toNat)
  case atStart => exact ⟨0, Nat.zero_le _, rfl, rfl⟩
  case round =>
    obtain ⟨k, hk, rfl, rfl⟩ := hrel
    by_cases hlt : k < m
    · obtain ⟨ad, u, rfl, _, hx, hc⟩ := hr.at_ hlt
      have hkz : k < ps.length := by rw [HL.out]; exact hlt
      obtain ⟨p, hz⟩ : ∃ p, p = ps[k] := ⟨_, rfl⟩
      obtain ⟨p1, p2, p3⟩ := HP.out p (by rw [hz]; exact List.getElem_mem hkz)
      have hu : u = p.v := by
        simp [List.getElem?_eq_getElem hkz] at hx; rw [← hx, hz]
      have HS : Hid (addP ones (ps.take (k + 1)) = add (addP ones (ps.take k)) p.zs) := by
        rw [List.take_succ_eq_append_getElem hkz, addP_snoc, hz]; trivial
      clear hz hx
      subst hu
      obtain ⟨A1, n1, c1, z1⟩ := p
      unfold Part.v at hc
      dsimp only at hc HS p1 p2 p3
      generalize addP ones (ps.take k) = S at *
      have P1 := Lib.hid p1
      have P2 := Lib.hid p2
      clear p1 p2
      go_wp2_with (go_at_call 7; refine (add_any S _ _ _ z1 _ P1.out P2.out p3).mono ?_; rintro e w' ⟨rfl, rfl⟩)
      refine ⟨⟨k + 1, by omega, by go_num, ?_⟩, by simp [intOf]; omega⟩
      rw [HS.out]
    · have HE : Hid (addP ones (ps.take k) = addP ones ps) := by rw [List.take_of_length_le (by rw [HL.out]; omega)]; trivial
      generalize addP ones (ps.take k) = S at *
      go_wp2_with (go_at_call 11; refine (end_any _ _).mono ?_; rintro e w' ⟨rfl, rfl⟩)
      go_ret
      exact ⟨ret_int (by rw [HE.out]), rfl⟩

theorem reads_new (w : World) (t : TypeId) (m : Nat × Nat) (xs : List Value) : Reads (w.alloc (.cells xs.toArray t m)) (w.heap.size + 1) 1 (some ⟨w.heap.size, 0, none⟩) xs.length xs := by
  refine ⟨by simp, fun _ => ⟨_, rfl, by simp, fun j u hu => ?_⟩⟩
  rw [show (⟨w.heap.size, 0, none⟩ : Addr).add j = ⟨w.heap.size, j, none⟩ from by unfold Addr.add; split <;> simp_all]
  have := cell_of_row (w.alloc (.cells xs.toArray t m)) w.heap.size j xs.toArray t m (heap_alloc_new w _)
  rw [this]
  simpa using hu

set_option maxHeartbeats 400000 in
theorem live_any (w : World) : Calls Try.prog 6 #[] w fun e w' => e = .returned (.bool true) ∧ Below w.heap.size w w' := by
  have kc := fun (w : World) (C : Array Value) (n c : Nat) => Lib.run_convert_bytes_const (P := Try.prog) w 22 5 C n c Try.underlying22 Try.underlying5
  have ho : (num (~~~ (addP ones [⟨some ⟨w.heap.size, 0, none⟩, 9, 9, [49, 50, 51, 52, 53, 54, 55, 56, 57]⟩])) == 3421780262) = true := by
    have : (~~~ (addP ones [⟨some ⟨w.heap.size, 0, none⟩, 9, 9, [49, 50, 51, 52, 53, 54, 55, 56, 57]⟩])) = of [49, 50, 51, 52, 53, 54, 55, 56, 57] := rfl
    rw [this, of_live]
    decide
  have R1 := reads_new w 5 (9, 10) (bytesOf [49, 50, 51, 52, 53, 54, 55, 56, 57])
  have R2 := reads_new (w.alloc (.cells (bytesOf [49, 50, 51, 52, 53, 54, 55, 56, 57]).toArray 5 (9, 10))) 22 (0, 0) [.slice (some ⟨w.heap.size, 0, none⟩) 9 9]
  have R3 := (R1.alloc (by simp) (.cells #[.slice (some ⟨w.heap.size, 0, none⟩) 9 9] 22 (0, 0))).more (Nat.le_succ _)
  have H2 := Lib.hid R2
  have H3 := Lib.hid R3
  clear R1 R2 R3
  go_enter Try.func6, Try.ntmps6
  go_wp2_with fail
  refine (of_any _ 1 1 [⟨some ⟨w.heap.size, 0, none⟩, 9, 9, [49, 50, 51, 52, 53, 54, 55, 56, 57]⟩] _ ?_ ?_ (by simp [maxLen])).mono ?_
  · have := H2.out; simpa [bytesOf, Part.v] using this
  · intro p hp
    simp at hp
    subst hp
    exact ⟨by have := H3.out; simpa [bytesOf] using this, by simp, by simp [maxLen]⟩
  rintro e w' ⟨rfl, rfl⟩
  go_wp2
  go_ret
  exact ⟨rfl, ((Below.refl _ _).alloc (Nat.le_refl _) _).alloc (by simp) _⟩

end Go.Proofs.Ytohlcopnifmjoaa
