/- The plain law of bursts: bytes turned within 32 bits in a row change the check sum. No Go in sight. -/
import Derived.Test.YtohlcopnifmjoaaMath
namespace Go.Proofs.Ytohlcopnifmjoaa.CrcM

def xorb (x : Int) (e : Nat) : Int := ((x.toNat ^^^ e : Nat) : Int)

theorem B_xor (x : Int) (e : Nat) : B (xorb x e) = B x ^^^ B (e : Int) := by
  unfold B xorb
  apply BitVec.eq_of_getLsbD_eq
  intro i hi
  simp [hi]

theorem xorb_bd (x : Int) (e : Nat) (h1 : x < 256) (h2 : e < 256) : 0 ≤ xorb x e ∧ xorb x e < 256 := by
  unfold xorb
  have : x.toNat ^^^ e < 2 ^ 8 := Nat.xor_lt_two_pow (by omega) (by omega)
  omega

/-- the bytes after k rounds -/
def mix (zs : List Int) (at_ wd : Nat) : Nat → List Int
  | 0 => zs
  | k + 1 => (mix zs at_ wd k).set (at_ + k) (xorb ((mix zs at_ wd k).getD (at_ + k) 0) (wd / 256 ^ k % 256))

theorem mix_length (zs : List Int) (at_ wd k : Nat) : (mix zs at_ wd k).length = zs.length := by
  induction k with
  | zero => rfl
  | succ k ih => simp [mix, ih]

theorem mix_bd (zs : List Int) (at_ wd k : Nat) (h : ∀ z ∈ zs, 0 ≤ z ∧ z < 256) : ∀ z ∈ mix zs at_ wd k, 0 ≤ z ∧ z < 256 := by
  induction k with
  | zero => exact h
  | succ k ih =>
    intro z hz
    rw [mix] at hz
    rcases List.mem_or_eq_of_mem_set hz with h1 | h1
    · exact ih z h1
    · rw [h1]
      apply xorb_bd
      · by_cases hl : at_ + k < (mix zs at_ wd k).length
        · rw [List.getD_eq_getElem?_getD, List.getElem?_eq_getElem hl]
          exact (ih _ (List.getElem_mem hl)).2
        · rw [List.getD_eq_getElem?_getD, List.getElem?_eq_none (by omega)]
          simp
      · exact Nat.mod_lt _ (by decide)

theorem mix_app (P L : List Int) (wd k : Nat) : mix (P ++ L) P.length wd k = P ++ mix L 0 wd k := by
  induction k with
  | zero => rfl
  | succ k ih =>
    rw [mix, ih, mix]
    rw [List.set_append_right _ _ (by omega)]
    simp only [Nat.zero_add, Nat.add_sub_cancel_left]
    rw [List.getD_eq_getElem?_getD, List.getD_eq_getElem?_getD, List.getElem?_append_right (by omega), Nat.add_sub_cancel_left]

theorem five (s : W) (x0 x1 x2 x3 x4 : Int) (e0 e1 e2 e3 e4 : Nat) :
    add s [xorb x0 e0, xorb x1 e1, xorb x2 e2, xorb x3 e3, xorb x4 e4] = add s [x0, x1, x2, x3, x4] ^^^ add 0#32 [(e0 : Int), e1, e2, e3, e4] := by
  simp only [add, List.foldl_cons, List.foldl_nil]
  have h0 : byte s (xorb x0 e0) = byte s x0 ^^^ byte 0#32 (e0 : Int) := by
    have := byte_xor s 0#32 x0 e0 (xorb x0 e0) (B_xor x0 e0)
    simpa using this
  rw [h0, byte_xor _ _ x1 e1 _ (B_xor x1 e1), byte_xor _ _ x2 e2 _ (B_xor x2 e2), byte_xor _ _ x3 e3 _ (B_xor x3 e3), byte_xor _ _ x4 e4 _ (B_xor x4 e4)]

theorem turns (zs : List Int) (at_ wd k : Nat) (t : W) (hl : at_ + 5 ≤ zs.length) (hk : k < 8) (hw : wd = t.toNat * 2 ^ k) (ht : t ≠ 0#32) : of (mix zs at_ wd 5) ≠ of zs := by
  obtain ⟨P, L, rfl, rfl⟩ : ∃ P L, zs = P ++ L ∧ at_ = P.length := ⟨zs.take at_, zs.drop at_, by simp, by simp; omega⟩
  simp only [List.length_append] at hl
  rcases L with _ | ⟨x0, _ | ⟨x1, _ | ⟨x2, _ | ⟨x3, _ | ⟨x4, S⟩⟩⟩⟩⟩
  · exfalso; simp at hl; omega
  · exfalso; simp at hl
  · exfalso; simp at hl
  · exfalso; simp at hl
  · exfalso; simp at hl
  rw [mix_app]
  have hm : mix (x0 :: x1 :: x2 :: x3 :: x4 :: S) 0 wd 5 = [xorb x0 (wd / 256 ^ 0 % 256), xorb x1 (wd / 256 ^ 1 % 256), xorb x2 (wd / 256 ^ 2 % 256), xorb x3 (wd / 256 ^ 3 % 256), xorb x4 (wd / 256 ^ 4 % 256)] ++ S := by
    simp [mix]
  rw [hm]
  rw [show x0 :: x1 :: x2 :: x3 :: x4 :: S = [x0, x1, x2, x3, x4] ++ S from rfl]
  intro h
  unfold of at h
  have h := BitVec.not_inj.mp h
  rw [add_append, add_append, add_append, add_append] at h
  have h := add_same _ _ _ h
  rw [five] at h
  have h : add 0#32 [((wd / 256 ^ 0 % 256 : Nat) : Int), ((wd / 256 ^ 1 % 256 : Nat) : Int), ((wd / 256 ^ 2 % 256 : Nat) : Int), ((wd / 256 ^ 3 % 256 : Nat) : Int), ((wd / 256 ^ 4 % 256 : Nat) : Int)] = 0#32 := by
    generalize add (add (~~~ 0#32) P) [x0, x1, x2, x3, x4] = X at h
    generalize add 0#32 _ = Y at h
    have : X ^^^ (X ^^^ Y) = X ^^^ X := by rw [h]
    rw [← BitVec.xor_assoc] at this
    simpa using this
  refine burst t k hk _ _ _ _ _ wd hw rfl rfl rfl rfl rfl ht ?_
  rw [← h]
  simp only [add, List.foldl_cons, List.foldl_nil, byte, B, Int.toNat_natCast, BitVec.zero_xor, Nat.pow_zero, Nat.div_one]
  simp only [Nat.div_div_eq_div_mul]

end Go.Proofs.Ytohlcopnifmjoaa.CrcM
