/- The model's operations on 32 bits, as words. No condition but that the words are words. -/
import Derived.Laws.BitsAllLaws
import Derived.Laws.BitsLemmas
import Derived.WalkKit
import Derived.Test.YtohlcopnifmjoaaMath
namespace Go.Proofs.Ytohlcopnifmjoaa
open CrcM

theorem xor_w (a b : W) : bits .xor .u32 (a.toNat : Int) (b.toNat : Int) = ((a ^^^ b).toNat : Int) := by
  rw [u32_xor_nat _ _ a.isLt b.isLt, BitVec.toNat_xor]
theorem xor_byte (s : W) (z : Int) (h0 : 0 ≤ z) (h1 : z < 256) : bits .xor .u32 (s.toNat : Int) z = ((s ^^^ B z).toNat : Int) := by
  rw [← xor_w]
  congr 1
  unfold B
  rw [BitVec.toNat_ofNat]; omega
theorem and_one (s : W) : bits .and .u32 (s.toNat : Int) 1 = ((s.toNat % 2 : Nat) : Int) := by
  have := u32_and_nat s.toNat 1 s.isLt (by decide)
  rw [nat_mask1] at this
  exact this
theorem and_one_f (s : W) (h : s.getLsbD 0 = false) : bits .and .u32 (s.toNat : Int) 1 = 0 := by
  rw [and_one]
  have : s.toNat % 2 = 0 := by
    have : s.toNat.testBit 0 = false := h
    rw [Nat.testBit_zero] at this; simpa using this
  omega
theorem and_one_t (s : W) (h : s.getLsbD 0 = true) : bits .and .u32 (s.toNat : Int) 1 = 1 := by
  rw [and_one]
  have : s.toNat % 2 = 1 := by
    have : s.toNat.testBit 0 = true := h
    rw [Nat.testBit_zero] at this; simpa using this
  omega
theorem shr_w (s : W) : ((s >>> 1).toNat : Int) = (s.toNat : Int) / 2 := by
  rw [BitVec.toNat_ushiftRight, Nat.shiftRight_eq_div_pow]; omega
theorem st_f (s : W) (h : s.getLsbD 0 = false) : st s = s >>> 1 := by unfold st; rw [h]; simp
theorem st_t (s : W) (h : s.getLsbD 0 = true) : st s = (s >>> 1) ^^^ poly := by unfold st; rw [h]; simp
theorem poly_nat : ((poly.toNat : Nat) : Int) = 3988292384 := by decide
theorem lsb_cases (s : W) : bits .and .u32 3988292384 (-bits .and .u32 (s.toNat : Int) 1 % 4294967296) = (((if s.getLsbD 0 then poly else 0#32).toNat : Nat) : Int) := by
  cases h : s.getLsbD 0
  · rw [and_one_f s h]
    have := u32_and_nat 3988292384 0 (by decide) (by decide)
    simp at this ⊢
    exact this
  · rw [and_one_t s h]
    have := u32_and_nat 3988292384 4294967295 (by decide) (by decide)
    have e : (3988292384 &&& 4294967295 : Nat) = 3988292384 := by decide +kernel
    rw [e] at this
    have e2 : (-1 : Int) % 4294967296 = ((4294967295 : Nat) : Int) := by decide
    rw [e2]
    rw [if_pos rfl, poly_nat]
    exact this
theorem step_eq (s : W) : bits .xor .u32 ((s.toNat : Int) / 2) (bits .and .u32 3988292384 (-bits .and .u32 (s.toNat : Int) 1 % 4294967296)) = ((st s).toNat : Int) := by
  rw [lsb_cases, ← shr_w, xor_w]
  rfl
/-- all ones, behind a name -/
def ones : W := ~~~ 0#32
theorem ones_nat : ((ones.toNat : Nat) : Int) = 4294967295 := by decide
theorem not_w (s : W) : bits .xor .u32 4294967295 (s.toNat : Int) = ((~~~ s).toNat : Int) := by
  rw [← ones_nat, xor_w]
  have e : ones ^^^ s = ~~~ s := by
    rw [show ones = BitVec.allOnes 32 from by decide]
    exact BitVec.allOnes_xor
  rw [e]
theorem of_eq (zs : List Int) : of zs = ~~~ (add ones zs) := rfl
/-- the reference's subtraction -/
theorem sub_w (s : W) : (4294967295 : Int) - (s.toNat : Int) = ((~~~ s).toNat : Int) := by
  rw [BitVec.toNat_not]
  have := s.isLt
  omega
/-- the reference's round -/
theorem rb_double (r : W) : IntKind.u32.wrap ((r.toNat : Int) * 2) = ((r <<< 1).toNat : Int) := by
  rw [IntKind.wrap_u32, BitVec.toNat_shiftLeft, Nat.shiftLeft_eq]
  omega
theorem top_bit (r : W) : (r.toNat : Int) / 2147483648 = if r.getLsbD 31 then 1 else 0 := by
  have h := r.isLt
  have e : r.getLsbD 31 = decide (r.toNat / 2147483648 % 2 = 1) := by
    unfold BitVec.getLsbD
    rw [Nat.testBit_eq_decide_div_mod_eq]
  rw [e]
  by_cases h2 : r.toNat / 2147483648 % 2 = 1
  · simp only [h2, decide_true, if_true]; omega
  · simp only [h2, decide_false]; simp; omega
theorem unlike_eq (r : W) (c : Nat) : ((r.toNat : Int) / 2147483648 != (c : Int) % 2) = (r.getLsbD 31 != (c % 2 == 1)) := by
  rw [top_bit]
  rcases Nat.mod_two_eq_zero_or_one c with h | h
  · have e : (c : Int) % 2 = 0 := by omega
    rw [e, h]; cases r.getLsbD 31 <;> rfl
  · have e : (c : Int) % 2 = 1 := by omega
    rw [e, h]; cases r.getLsbD 31 <;> rfl
theorem rb_t (r : W) (c : Bool) (h : (r.getLsbD 31 != c) = true) : ((rb r c).toNat : Int) = bits .xor .u32 ((r <<< 1).toNat : Int) 79764919 := by
  unfold rb
  rw [if_pos h, ← xor_w]
  rfl
theorem rb_f (r : W) (c : Bool) (h : (r.getLsbD 31 != c) = false) : rb r c = r <<< 1 := by
  unfold rb
  rw [h]; simp
/-- 'turned', a round -/
theorem tn_round (o x : W) : IntKind.u32.wrap (IntKind.u32.wrap ((o.toNat : Int) * 2) + (x.toNat : Int) % 2) = (((o <<< 1) ^^^ bitw (x.getLsbD 0)).toNat : Int) := by
  rw [rb_double]
  have e : (x.toNat : Int) % 2 = if x.getLsbD 0 then 1 else 0 := by
    have : x.getLsbD 0 = decide (x.toNat % 2 = 1) := by
      unfold BitVec.getLsbD
      rw [Nat.testBit_zero]
    rw [this]
    by_cases h2 : x.toNat % 2 = 1
    · simp only [h2, decide_true, if_true]; omega
    · simp only [h2, decide_false]; simp; omega
  rw [e, IntKind.wrap_u32]
  have h0 : (o <<< 1).toNat % 2 = 0 := by rw [BitVec.toNat_shiftLeft, Nat.shiftLeft_eq]; omega
  have hlt := (o <<< 1).isLt
  clear e
  generalize (o <<< 1) = v at *
  cases x.getLsbD 0
  · have hz : v ^^^ bitw false = v := by simp [bitw]
    rw [hz]; simp; omega
  · have hz : (v ^^^ bitw true).toNat = v.toNat + 1 := by
      rw [BitVec.toNat_xor]
      have hb : (bitw true).toNat = 1 := rfl
      rw [hb]
      have hd : v.toNat = 2 * (v.toNat / 2) := by omega
      rw [hd]
      have := Nat.two_pow_add_eq_or_of_lt (i := 1) (b := 1) (by decide) (v.toNat / 2)
      rw [Nat.pow_one] at this
      rw [this]
      apply Nat.eq_of_testBit_eq
      intro i
      rw [Nat.testBit_xor, Nat.testBit_or]
      rcases i with _ | i
      · simp
      · simp [Nat.testBit_succ]
    rw [hz]; simp; omega

/-! ### behind a name, so that the walk's simp leaves it alone -/
def num (s : W) : Int := (s.toNat : Int)
theorem num_bd (s : W) : 0 ≤ num s ∧ num s ≤ 4294967295 := by
  have := s.isLt
  unfold num; omega
theorem num_inj {a b : W} (h : num a = num b) : a = b := by
  unfold num at h
  apply BitVec.eq_of_toNat_eq
  omega
theorem n_xor_byte (s : W) (z : Int) (h0 : 0 ≤ z) (h1 : z < 256) : bits .xor .u32 (num s) z = num (s ^^^ B z) := xor_byte s z h0 h1
theorem n_step (s : W) : bits .xor .u32 (num s / 2) (bits .and .u32 3988292384 (-bits .and .u32 (num s) 1 % 4294967296)) = num (st s) := step_eq s
theorem n_ones : num ones = 4294967295 := ones_nat
theorem n_max : IntKind.u32.max = 4294967295 := by decide
theorem n_not (s : W) : bits .xor .u32 IntKind.u32.max (num s) = num (~~~ s) := by rw [n_max]; exact not_w s
theorem n_sub (s : W) : (4294967295 : Int) - num s = num (~~~ s) := sub_w s
theorem n_sub_wrap (s : W) : ((4294967295 : Int) - num s) % (4294967296 : Int) = num (~~~ s) := by
  have h := n_sub s
  have hb := num_bd s
  rw [← h]; omega
theorem n_double (r : W) : num r * (2 : Int) % (4294967296 : Int) = num (r <<< 1) := by
  have := rb_double r
  rw [IntKind.wrap_u32] at this
  exact this
theorem n_half (s : W) : num s / (2 : Int) = num (s >>> 1) := (shr_w s).symm
theorem n_unlike (r : W) (c : Nat) : (num r / 2147483648 != (c : Int) % 2) = (r.getLsbD 31 != (c % 2 == 1)) := unlike_eq r c
theorem n_rb_t (r : W) (c : Bool) (h : (r.getLsbD 31 != c) = true) : bits .xor .u32 (num (r <<< 1)) 79764919 = num (rb r c) := (rb_t r c h).symm
theorem n_rb_f (r : W) (c : Bool) (h : (r.getLsbD 31 != c) = false) : num (r <<< 1) = num (rb r c) := by rw [rb_f r c h]
theorem n_tn (o x : W) : num o * (2 : Int) % (4294967296 : Int) + num x % (2 : Int) = num ((o <<< 1) ^^^ bitw (x.getLsbD 0)) := by
  have := tn_round o x
  rw [IntKind.wrap_u32, IntKind.wrap_u32] at this
  have e : (num o * 2 % 4294967296 + num x % 2) % 4294967296 = num ((o <<< 1) ^^^ bitw (x.getLsbD 0)) := this
  rw [← e]
  omega
end Go.Proofs.Ytohlcopnifmjoaa
