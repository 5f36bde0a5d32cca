/- The plain arithmetic of the check sum: no Go in sight. -/
namespace Go.Proofs.Ytohlcopnifmjoaa.CrcM

abbrev W := BitVec 32

def poly : W := 0xedb88320#32

/-- one bit -/
def st (s : W) : W := (s >>> 1) ^^^ (if s.getLsbD 0 then poly else 0#32)

def sts : Nat → W → W
  | 0, s => s
  | n + 1, s => sts n (st s)

theorem st_xor (a b : W) : st (a ^^^ b) = st a ^^^ st b := by
  unfold st
  rw [BitVec.ushiftRight_xor_distrib, BitVec.getLsbD_xor]
  cases a.getLsbD 0 <;> cases b.getLsbD 0 <;> simp [BitVec.xor_assoc]
  · rw [BitVec.xor_comm poly (b >>> 1)]
  · rw [← BitVec.xor_assoc poly, BitVec.xor_comm poly (b >>> 1), BitVec.xor_assoc (b >>> 1)]; simp

theorem st_zero : st 0#32 = 0#32 := by decide

theorem st_eq_zero {a : W} (h : st a = 0#32) : a = 0#32 := by
  unfold st at h
  have h31 : (((a >>> 1) ^^^ (if a.getLsbD 0 then poly else 0#32)).getLsbD 31) = false := by rw [h]; simp
  cases h0 : a.getLsbD 0
  · rw [h0] at h
    simp at h
    apply BitVec.eq_of_getLsbD_eq
    intro i hi
    rcases i with _ | i
    · simpa using h0
    · have : (a >>> 1).getLsbD i = false := by rw [h]; simp
      rw [BitVec.getLsbD_ushiftRight] at this
      rw [show i + 1 = 1 + i from by omega]
      simpa using this
  · rw [h0] at h31
    simp [poly] at h31

theorem sts_xor (n : Nat) (a b : W) : sts n (a ^^^ b) = sts n a ^^^ sts n b := by
  induction n generalizing a b with
  | zero => rfl
  | succ n ih => simp only [sts, st_xor, ih]

theorem sts_zero (n : Nat) : sts n 0#32 = 0#32 := by
  induction n with
  | zero => rfl
  | succ n ih => simp only [sts, st_zero, ih]

theorem sts_eq_zero (n : Nat) {a : W} (h : sts n a = 0#32) : a = 0#32 := by
  induction n generalizing a with
  | zero => exact h
  | succ n ih => exact st_eq_zero (ih h)

theorem sts_add (m n : Nat) (a : W) : sts (m + n) a = sts n (sts m a) := by
  induction m generalizing a with
  | zero => simp [sts]
  | succ m ih => rw [show m + 1 + n = (m + n) + 1 from by omega]; simp only [sts, ih]


/-- where the low bits are none a step is a shift alone -/
theorem sts_shift (n : Nat) (a : W) (h : ∀ i, i < n → a.getLsbD i = false) : sts n a = a >>> n := by
  induction n generalizing a with
  | zero => simp [sts]
  | succ n ih =>
    have h0 := h 0 (by omega)
    have e : st a = a >>> 1 := by unfold st; rw [h0]; simp
    rw [sts, e, ih _ (fun i hi => by rw [BitVec.getLsbD_ushiftRight]; exact h (1 + i) (by omega))]
    apply BitVec.eq_of_getLsbD_eq
    intro i _
    simp only [BitVec.getLsbD_ushiftRight]
    congr 1; omega

theorem sts_shl (n : Nat) (y : W) (h : (y <<< n) >>> n = y) : sts n (y <<< n) = y := by
  rw [sts_shift n _ (fun i hi => by simp [BitVec.getLsbD_shiftLeft, hi]), h]

/-! ### bytes -/

/-- a byte as a word -/
def B (z : Int) : W := BitVec.ofNat 32 z.toNat

def byte (s : W) (z : Int) : W := sts 8 (s ^^^ B z)
def add (s : W) (zs : List Int) : W := zs.foldl byte s
def of (zs : List Int) : W := ~~~ (add (~~~ 0#32) zs)

theorem add_append (s : W) (xs ys : List Int) : add s (xs ++ ys) = add (add s xs) ys := by simp [add, List.foldl_append]
theorem add_nil (s : W) : add s [] = s := rfl
theorem add_snoc (s : W) (xs : List Int) (z : Int) : add s (xs ++ [z]) = byte (add s xs) z := by simp [add, List.foldl_append]
theorem of_nil : of [] = 0#32 := by decide
theorem of_live : of [49, 50, 51, 52, 53, 54, 55, 56, 57] = 0xcbf43926#32 := by decide +kernel

/-! ### the reference: from the other end -/

def rpoly : W := 79764919#32
def rb (r : W) (c : Bool) : W := (r <<< 1) ^^^ (if (r.getLsbD 31 != c) then rpoly else 0#32)
def bitw (c : Bool) : W := if c then 1#32 else 0#32

theorem rev_xor (a b : W) : (a ^^^ b).reverse = a.reverse ^^^ b.reverse := by
  apply BitVec.eq_of_getLsbD_eq
  intro i hi
  simp [BitVec.getLsbD_reverse, BitVec.getMsbD_xor]

theorem rev_shl (a : W) : (a <<< 1).reverse = a.reverse >>> 1 := by
  apply BitVec.eq_of_getLsbD_eq
  intro i hi
  simp only [BitVec.getLsbD_reverse, BitVec.getLsbD_ushiftRight, BitVec.getMsbD_eq_getLsbD, BitVec.getLsbD_shiftLeft]
  by_cases h : i = 31
  · subst h; simp
  · have h1 : i < 32 := hi
    have h2 : 1 + i < 32 := by omega
    have h3 : ¬ (32 - 1 - i < 1) := by omega
    simp [h1, h2, h3]
    rw [show 31 - i - 1 = 31 - (1 + i) from by omega]
    have h4 : 31 - i < 32 := by omega
    simp [h4]

theorem rev_rpoly : rpoly.reverse = poly := by decide +kernel
theorem rev_zero : (0#32 : W).reverse = 0#32 := by decide +kernel

theorem rb_rev (r : W) (c : Bool) : (rb r c).reverse = st (r.reverse ^^^ bitw c) := by
  unfold rb st
  rw [rev_xor, rev_shl]
  have e1 : (r.reverse ^^^ bitw c) >>> 1 = r.reverse >>> 1 := by
    rw [BitVec.ushiftRight_xor_distrib]; cases c <;> simp [bitw]
  have e2 : (r.reverse ^^^ bitw c).getLsbD 0 = (r.getLsbD 31 != c) := by
    rw [BitVec.getLsbD_xor, BitVec.getLsbD_reverse, BitVec.getMsbD_eq_getLsbD]
    cases c <;> simp [bitw]
  rw [e1, e2]
  cases (r.getLsbD 31 != c) <;> simp [rev_rpoly, rev_zero]

/-- n bits of z, the lowest first -/
def refs : Nat → W → Nat → W
  | 0, r, _ => r
  | n + 1, r, z => refs n (rb r (z % 2 == 1)) (z / 2)

theorem refs_snoc (n : Nat) (r : W) (z : Nat) : refs (n + 1) r z = rb (refs n r z) (z / 2 ^ n % 2 == 1) := by
  induction n generalizing r z with
  | zero => simp [refs]
  | succ n ih =>
    rw [refs, ih, refs]
    rw [Nat.div_div_eq_div_mul, Nat.pow_succ, Nat.mul_comm 2]

theorem refs_rev (n : Nat) (r : W) (z : Nat) (hn : n ≤ 8) (hz : z < 2 ^ n) : (refs n r z).reverse = sts n (r.reverse ^^^ BitVec.ofNat 32 z) := by
  induction n generalizing r z with
  | zero => simp at hz; subst hz; simp [refs, sts]
  | succ n ih =>
    rw [refs, ih _ _ (by omega) (by rw [Nat.pow_succ] at hz; omega), rb_rev, sts]
    congr 1
    have hz8 : z < 256 := Nat.lt_of_lt_of_le hz (by calc 2 ^ (n+1) ≤ 2 ^ 8 := Nat.pow_le_pow_right (by omega) (by omega)
                                                      _ = 256 := by decide)
    have e : BitVec.ofNat 32 z = bitw (z % 2 == 1) ^^^ (BitVec.ofNat 32 (z / 2) <<< 1) := by
      clear ih hz hn
      revert hz8
      revert z
      decide +kernel
    have e2 : st (BitVec.ofNat 32 (z / 2) <<< 1) = BitVec.ofNat 32 (z / 2) := by
      clear ih hz hn e
      revert hz8
      revert z
      decide +kernel
    rw [e, ← BitVec.xor_assoc, st_xor _ (BitVec.ofNat 32 (z / 2) <<< 1), e2]

def rbyte (r : W) (z : Int) : W := refs 8 r z.toNat
def radd (r : W) (zs : List Int) : W := zs.foldl rbyte r

theorem radd_snoc (s : W) (xs : List Int) (z : Int) : radd s (xs ++ [z]) = rbyte (radd s xs) z := by simp [radd, List.foldl_append]

theorem radd_rev (r : W) (zs : List Int) (h : ∀ z ∈ zs, 0 ≤ z ∧ z < 256) : (radd r zs).reverse = add r.reverse zs := by
  induction zs generalizing r with
  | nil => rfl
  | cons z zs ih =>
    have hz := h z (by simp)
    have e : (rbyte r z).reverse = byte r.reverse z := by
      unfold rbyte byte B
      exact refs_rev 8 r z.toNat (by omega) (by omega)
    have := ih (rbyte r z) (fun x hx => h x (by simp [hx]))
    rw [e] at this
    exact this

theorem ref_of (zs : List Int) (h : ∀ z ∈ zs, 0 ≤ z ∧ z < 256) : ~~~ ((radd (~~~ 0#32) zs).reverse) = of zs := by
  rw [radd_rev _ _ h]
  rw [show (~~~ 0#32 : W).reverse = ~~~ 0#32 from by decide +kernel]
  rfl

/-! ### turning round -/
def tn : Nat → W → W → W
  | 0, o, _ => o
  | n + 1, o, x => tn n ((o <<< 1) ^^^ (bitw (x.getLsbD 0))) (x >>> 1)

theorem tn_bits (n : Nat) (o x : W) (j : Nat) (hj : j < 32) (hn : n ≤ 32) : (tn n o x).getLsbD j = if j < n then x.getLsbD (n - 1 - j) else o.getLsbD (j - n) := by
  induction n generalizing o x with
  | zero => simp [tn]
  | succ n ih =>
    rw [tn, ih _ _ (by omega)]
    by_cases h : j < n
    · rw [if_pos h, if_pos (by omega), BitVec.getLsbD_ushiftRight]
      congr 1; omega
    · rw [if_neg h, BitVec.getLsbD_xor, BitVec.getLsbD_shiftLeft]
      by_cases h2 : j = n
      · subst h2
        rw [if_pos (by omega)]
        simp
        cases x[0] <;> simp [bitw]
      · rw [if_neg (by omega)]
        have h3 : ¬ (j - n < 1) := by omega
        have h4 : j - n < 32 := by omega
        have h5 : (bitw (x.getLsbD 0)).getLsbD (j - n) = false := by
          cases x.getLsbD 0
          · simp [bitw]
          · simp only [bitw, if_true]
            rw [show j - n = (j - n - 1) + 1 from by omega]
            simp [BitVec.getLsbD_one]
        rw [h5]
        simp [h3, h4]
        rw [show j - n - 1 = j - (n + 1) from by omega]

theorem tn_rev (x : W) : tn 32 0#32 x = x.reverse := by
  apply BitVec.eq_of_getLsbD_eq
  intro i hi
  rw [tn_bits 32 _ _ i hi (by omega), if_pos hi, BitVec.getLsbD_reverse, BitVec.getMsbD_eq_getLsbD]
  simp [hi]

/-! ### bursts -/
theorem byte_xor (s t : W) (x y z : Int) (h : B z = B x ^^^ B y) : byte (s ^^^ t) z = byte s x ^^^ byte t y := by
  unfold byte
  rw [← sts_xor]
  congr 1
  rw [h]
  simp only [BitVec.xor_assoc]
  congr 1
  rw [← BitVec.xor_assoc, BitVec.xor_comm t, BitVec.xor_assoc]

theorem byte_same (s t : W) (x : Int) : byte s x ^^^ byte t x = sts 8 (s ^^^ t) := by
  unfold byte
  rw [← sts_xor]
  congr 1
  rw [BitVec.xor_comm t, BitVec.xor_assoc, ← BitVec.xor_assoc (B x)]
  simp

theorem add_same (s t : W) (xs : List Int) (h : add s xs = add t xs) : s = t := by
  induction xs generalizing s t with
  | nil => exact h
  | cons x xs ih =>
    have h1 := ih (byte s x) (byte t x) h
    have h2 : sts 8 (s ^^^ t) = 0#32 := by rw [← byte_same s t x, h1]; simp
    have h3 := sts_eq_zero 8 h2
    exact BitVec.xor_eq_zero_iff.mp h3

/-- the lowest a bits -/
def low (a : Nat) (t : W) : W := BitVec.ofNat 32 (t.toNat % 2 ^ a)

theorem low_bit (a : Nat) (t : W) (i : Nat) : (low a t).getLsbD i = (decide (i < a) && t.getLsbD i) := by
  unfold low
  rw [BitVec.getLsbD_ofNat, Nat.testBit_mod_two_pow]
  by_cases h : i < 32
  · simp [h, BitVec.getLsbD]
  · have : t.getLsbD i = false := BitVec.getLsbD_of_ge t i (by omega)
    simp [h, this]

theorem low_step (a : Nat) (t : W) (e : Nat) (he : e = t.toNat / 2 ^ a % 256) : sts 8 (sts a (low a t) ^^^ BitVec.ofNat 32 e) = sts (a + 8) (low (a + 8) t) := by
  have hb : ∀ i, (BitVec.ofNat 32 e).getLsbD i = (decide (i < 8) && t.getLsbD (a + i)) := by
    intro i
    rw [BitVec.getLsbD_ofNat, he, show (256 : Nat) = 2 ^ 8 from rfl, Nat.testBit_mod_two_pow, Nat.testBit_div_two_pow]
    rw [Nat.add_comm a i]
    by_cases h : i < 8
    · have h2 : i < 32 := by omega
      simp [h, h2, BitVec.getLsbD]
    · simp [h]
  have hs : sts a (BitVec.ofNat 32 e <<< a) = BitVec.ofNat 32 e := by
    apply sts_shl
    apply BitVec.eq_of_getLsbD_eq
    intro i hi
    rw [BitVec.getLsbD_ushiftRight, BitVec.getLsbD_shiftLeft, hb]
    by_cases h : a + i < 32
    · simp [h, hb]
    · have : t.getLsbD (a + i) = false := BitVec.getLsbD_of_ge t _ (by omega)
      simp [h, hb, this]
  have hl : low a t ^^^ (BitVec.ofNat 32 e <<< a) = low (a + 8) t := by
    apply BitVec.eq_of_getLsbD_eq
    intro i hi
    rw [BitVec.getLsbD_xor, low_bit, low_bit, BitVec.getLsbD_shiftLeft, hb]
    by_cases h : i < a
    · have h2 : i < a + 8 := by omega
      simp [h, h2]
    · have h3 : a + (i - a) = i := by omega
      by_cases h2 : i < a + 8
      · have h4 : i - a < 8 := by omega
        simp [h, h2, h3, h4, hi]
      · have h4 : ¬ i - a < 8 := by omega
        simp [h, h2, h4]
  rw [sts_add, ← hl, sts_xor a, hs]

/-- the five bytes of a turning, from nothing -/
theorem burst (t : W) (k : Nat) (hk : k < 8) (e0 e1 e2 e3 e4 : Nat) (wd : Nat) (hw : wd = t.toNat * 2 ^ k)
    (h0 : e0 = wd % 256) (h1 : e1 = wd / 256 % 256) (h2 : e2 = wd / 256 / 256 % 256) (h3 : e3 = wd / 256 / 256 / 256 % 256) (h4 : e4 = wd / 256 / 256 / 256 / 256 % 256) (ht : t ≠ 0#32) :
    sts 8 (sts 8 (sts 8 (sts 8 (sts 8 (BitVec.ofNat 32 e0) ^^^ BitVec.ofNat 32 e1) ^^^ BitVec.ofNat 32 e2) ^^^ BitVec.ofNat 32 e3) ^^^ BitVec.ofNat 32 e4) ≠ 0#32 := by
  have key : ∀ n, 1 ≤ n → wd / 256 ^ n = t.toNat / 2 ^ (8 * n - k) := by
    intro n hn
    rw [hw, show (256 : Nat) = 2 ^ 8 from rfl, ← Nat.pow_mul]
    have e : 2 ^ (8 * n) = 2 ^ (8 * n - k) * 2 ^ k := by rw [← Nat.pow_add]; congr 1; omega
    rw [e, Nat.mul_div_mul_right _ _ (Nat.two_pow_pos k)]
  have g1 := key 1 (by omega)
  have g2 := key 2 (by omega)
  have g3 := key 3 (by omega)
  have g4 := key 4 (by omega)
  have d1 : wd / 256 = wd / 256 ^ 1 := by simp
  have d2 : wd / 256 / 256 = wd / 256 ^ 2 := by rw [Nat.div_div_eq_div_mul]
  have d3 : wd / 256 / 256 / 256 = wd / 256 ^ 3 := by rw [Nat.div_div_eq_div_mul, Nat.div_div_eq_div_mul]
  have d4 : wd / 256 / 256 / 256 / 256 = wd / 256 ^ 4 := by rw [Nat.div_div_eq_div_mul, Nat.div_div_eq_div_mul, Nat.div_div_eq_div_mul]
  have s0 : sts 8 (BitVec.ofNat 32 e0) = sts (8 - k) (low (8 - k) t) := by
    have : sts 8 (BitVec.ofNat 32 e0) = sts (8 - k) (sts k (BitVec.ofNat 32 e0)) := by rw [← sts_add]; congr 1; omega
    rw [this]
    congr 1
    have hb : ∀ i, (BitVec.ofNat 32 e0).getLsbD i = (decide (i < 8) && (decide (k ≤ i) && t.getLsbD (i - k))) := by
      intro i
      rw [BitVec.getLsbD_ofNat, h0, hw, show (256 : Nat) = 2 ^ 8 from rfl, Nat.testBit_mod_two_pow, Nat.testBit_mul_two_pow]
      by_cases h : i < 8
      · have h2 : i < 32 := by omega
        simp [h, h2, BitVec.getLsbD]
      · simp [h]
    rw [sts_shift k _ (fun i hi => by rw [hb]; have : ¬ k ≤ i := by omega
                                      simp [this])]
    apply BitVec.eq_of_getLsbD_eq
    intro i hi
    rw [BitVec.getLsbD_ushiftRight, hb, low_bit]
    have a1 : k ≤ k + i := by omega
    have a2 : k + i - k = i := by omega
    rw [a2]
    by_cases h : i < 8 - k
    · have : k + i < 8 := by omega
      simp [h, this]
    · have : ¬ k + i < 8 := by omega
      simp [h, this]
  rw [s0, low_step (8 - k) t e1 (by rw [h1, d1, g1]), low_step (8 - k + 8) t e2 (by rw [h2, d2, g2]; congr 3; omega),
    low_step (8 - k + 8 + 8) t e3 (by rw [h3, d3, g3]; congr 3; omega), low_step (8 - k + 8 + 8 + 8) t e4 (by rw [h4, d4, g4]; congr 3; omega)]
  intro hz
  have hz := sts_eq_zero _ hz
  apply ht
  apply BitVec.eq_of_getLsbD_eq
  intro i hi
  have := low_bit (8 - k + 8 + 8 + 8 + 8) t i
  rw [hz] at this
  have h5 : i < 8 - k + 8 + 8 + 8 + 8 := by omega
  simp [h5] at this ⊢
  exact this

end Go.Proofs.Ytohlcopnifmjoaa.CrcM
