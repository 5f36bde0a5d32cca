/- alloc: the object in memory; the walks that only read it. -/
import Derived.Test.YtohlcopnifmjoaeRows
import Derived.Test.YtohlcopnifmjoaeWords
import Derived.Test.YtohlcopnifmjoaeSpec
import Derived.WalkKit
import Derived.ProofKit
import Derived.WalkLawsBesides
import Derived.WalkSpells
import Derived.Outline
import Derived.Lib.Hide
import Derived.Deep.DeepMust
import Derived.Deep.QuietTactic
import Derived.BigQuiet
namespace Go.Proofs.Ytohlcopnifmjoae
open Go.RowKit

def ints (xs : List Int) : List Value := xs.map (Value.int .i64)
theorem ints_length (xs : List Int) : (ints xs).length = xs.length := by simp [ints]
theorem ints_get {xs : List Int} {k : Nat} (h : k < xs.length) : (ints xs)[k]? = some (.int .i64 xs[k]) := by simp [ints, h]
theorem ints_one (xs : List Int) : ∀ u ∈ ints xs, u.oneCell' = true := by
  intro u hu
  simp [ints] at hu
  obtain ⟨z, _, rfl⟩ := hu
  rfl
theorem ints_append (xs ys : List Int) : ints xs ++ ints ys = ints (xs ++ ys) := by simp [ints]
theorem ints_set (xs : List Int) (k : Nat) (x : Int) : (ints xs).set k (.int .i64 x) = ints (xs.set k x) := by simp [ints, List.map_set]
def i64ok (x : Int) : Prop := -9223372036854775808 ≤ x ∧ x ≤ 9223372036854775807
theorem ret_bool {a b : Bool} (h : a = b) : Ending.returned (.bool a) = Ending.returned (.bool b) := by rw [h]
theorem ret_int {k : IntKind} {a b : Int} (h : a = b) : Ending.returned (.int k a) = Ending.returned (.int k b) := by rw [h]
theorem ret_tup {a b : Int} {c d : Bool} (h : a = b) (k : c = d) : Ending.returned (.tuple #[.int .i64 a, .bool c]) = Ending.returned (.tuple #[.int .i64 b, .bool d]) := by rw [h, k]
theorem add_flat (b off j : Nat) : (⟨b, off, none⟩ : Addr).add j = ⟨b, off + j, none⟩ := by unfold Addr.add; split <;> simp_all
theorem new_cell (w : World) (cs : Array Value) (t : TypeId) (j : Nat) : (w.alloc (.cells cs t)).cell? ⟨w.heap.size, j, none⟩ = cs[j]? := (Blk.new w t cs).cell j
theorem reads_new (w : World) (t : TypeId) (m : Nat × Nat) (xs : List Value) : Reads (w.alloc (.cells xs.toArray t m)) (w.heap.size + 1) 1 (some ⟨w.heap.size, 0, none⟩) xs.length xs := by
  refine ⟨by simp, fun _ => ⟨_, rfl, by simp, fun j u hu => ?_⟩⟩
  rw [add_flat, Nat.zero_add]
  have := cell_of_row (w.alloc (.cells xs.toArray t m)) w.heap.size j xs.toArray t m (heap_alloc_new w _)
  rw [this]
  simpa using hu
/-- a slice of integers: element k -/
theorem Reads.int {w : World} {B : Nat} {A : Option Addr} {n : Nat} {xs : List Int} (h : Reads w B 1 A n (ints xs)) {k : Nat} (hk : k < n) : ∃ b off, A = some ⟨b, off, none⟩ ∧ b < B ∧ ∃ hl : k < xs.length, w.cell? ⟨b, off + k, none⟩ = some (.int .i64 xs[k]) := by
  have hl : xs.length = n := by have := h.1; rw [ints_length] at this; omega
  obtain ⟨ad, e, hb, hc⟩ := h.2 (by omega)
  have h0 := hc 0 _ (ints_get (by omega : 0 < xs.length))
  obtain ⟨b, off, spot⟩ := ad
  have hspot : spot = none := by simpa [Addr.add] using World.cell?_spot h0
  subst hspot
  have hk' : k < xs.length := by omega
  have := hc k _ (ints_get hk')
  rw [add_flat] at this
  exact ⟨b, off, e, hb, hk', this⟩
theorem Reads.ilen {w : World} {B : Nat} {A : Option Addr} {n : Nat} {xs : List Int} (h : Reads w B 1 A n (ints xs)) : xs.length = n := by have := h.1; rw [ints_length] at this; omega

/-- the object: block ga points to the row of block g -/
structure AObj (w : World) (B ga g c : Nat) (rs : List Int) : Prop where
  hB : B ≤ ga
  hg : Blk w ga 50 #[.slice (some ⟨g, 0, none⟩) rs.length c]
  ho : w.ownsRow B 3 1 (.slice (some ⟨g, 0, none⟩) rs.length c) rs.length (ints rs)
  hn : rs.length ≤ 1024
/-- what an operation on it may turn -/
structure Fr (ga g : Nat) (w w' : World) : Prop where
  os : w'.os = w.os
  tape : w'.tape = w.tape
  output : w'.output = w.output
  size : w.heap.size ≤ w'.heap.size
  block : ∀ k, k < w.heap.size → k ≠ ga → k ≠ g → w'.heap[k]? = w.heap[k]?
theorem Fr.refl (ga g : Nat) (w : World) : Fr ga g w w := ⟨rfl, rfl, rfl, Nat.le_refl _, fun _ _ _ _ => rfl⟩
theorem Fr.below {ga g B : Nat} {w w' : World} (h : Fr ga g w w') (hB : B ≤ w.heap.size) (h1 : B ≤ ga) (h2 : B ≤ g) : Below B w w' :=
  ⟨h.os, h.tape, h.output, h.size, fun k hk => h.block k (by omega) (by omega) (by omega)⟩
theorem Fr.of_below {ga g : Nat} {w w' : World} (h : Below w.heap.size w w') : Fr ga g w w' := ⟨h.os, h.tape, h.output, h.size, fun k hk _ _ => h.block k hk⟩
theorem Fr.drew {ga g : Nat} {w w' : World} (h : Fr ga g w w') : Fr ga g w w'.drew := ⟨h.os, h.tape, h.output, h.size, h.block⟩

section
variable {w w' : World} {B ga g c : Nat} {rs : List Int}
theorem AObj.cell (h : AObj w B ga g c rs) : w.cell? ⟨ga, 0, none⟩ = some (.slice (some ⟨g, 0, none⟩) rs.length c) := by
  have := h.hg.cell 0
  simpa using this
theorem AObj.lt (h : AObj w B ga g c rs) : ga < w.heap.size := h.hg.lt
theorem AObj.glt (h : AObj w B ga g c rs) : B ≤ g ∧ g < w.heap.size := h.ho.lt g rfl
theorem AObj.ne (h : AObj w B ga g c rs) : g ≠ ga := by
  have := own_blk_ne h.ho h.hg (by decide)
  intro e
  apply this
  rw [e]; rfl
theorem AObj.at_ (h : AObj w B ga g c rs) {k : Nat} (hk : k < rs.length) : w.cell? ⟨g, k, none⟩ = some (.int .i64 rs[k]) := by
  rw [h.ho.cellAt k (by omega), ints_get hk]
theorem AObj.reads (h : AObj w B ga g c rs) : Reads w w.heap.size 1 (some ⟨g, 0, none⟩) rs.length (ints rs) := Reads.of_own h.ho
/-- kept where neither of its blocks is turned -/
theorem AObj.keep (h : AObj w B ga g c rs) (h1 : w'.heap[ga]? = w.heap[ga]?) (h2 : w'.heap[g]? = w.heap[g]?) : AObj w' B ga g c rs := by
  refine ⟨h.hB, h1.trans h.hg, ⟨h.ho.1, ?_⟩, h.hn⟩
  rcases h.ho.2 with ⟨h', _⟩ | ⟨g', cap, cur, h', hb, hh, rest⟩
  · simp at h'
  · simp only [Value.slice.injEq, Option.some.injEq, Addr.mk.injEq, and_true, true_and] at h'
    obtain ⟨rfl, rfl⟩ := h'
    exact .inr ⟨g, c, cur, rfl, hb, h2.trans hh, rest⟩
theorem AObj.over (h : AObj w B ga g c rs) (hb : Below w.heap.size w w') : AObj w' B ga g c rs := h.keep (hb.block _ h.lt) (hb.block _ h.glt.2)
theorem AObj.fr {ga' g' : Nat} (h : AObj w B ga g c rs) (hf : Fr ga' g' w w') (h1 : ga ≠ ga') (h2 : ga ≠ g') (h3 : g ≠ ga') (h4 : g ≠ g') : AObj w' B ga g c rs :=
  h.keep (hf.block _ h.lt h1 h2) (hf.block _ h.glt.2 h3 h4)
theorem AObj.drew (h : AObj w B ga g c rs) : AObj w.drew B ga g c rs := ⟨h.hB, h.hg, h.ho, h.hn⟩
/-- two objects' blocks differ by their types -/
theorem AObj.cross {ga' g' c' : Nat} {rs' : List Int} (h : AObj w B ga g c rs) (h' : AObj w B ga' g' c' rs') : g ≠ ga' := by
  have := own_blk_ne h.ho h'.hg (by decide)
  intro e
  apply this
  rw [e]; rfl
end

theorem size_any (B ga g c : Nat) (rs : List Int) (w : World) (h : AObj w B ga g c rs) : Calls Try.prog 10 #[.pointer (some ⟨ga, 0, none⟩)] w fun e w' => e = .returned (.int .i64 (rs.length : Int)) ∧ w = w' := by
  have hc := h.cell
  go_enter Try.func10, Try.ntmps10
  go_wp2
  go_ret
  exact ⟨rfl, rfl⟩
theorem size_nil (w : World) : Calls Try.prog 10 #[.pointer none] w fun e w' => e = .returned (.int .i64 0) ∧ w = w' := by
  go_enter Try.func10, Try.ntmps10
  go_wp2
  go_ret
  exact ⟨rfl, rfl⟩

def inB (p : Int) (n : Nat) : Bool := decide (0 ≤ p ∧ p < n)
theorem there_any (B ga g c : Nat) (rs : List Int) (p : Int) (w : World) (h : AObj w B ga g c rs) : Calls Try.prog 26 #[.pointer (some ⟨ga, 0, none⟩), .int .i64 p] w fun e w' => e = .returned (.bool (inB p rs.length)) ∧ w = w' := by
  have H := Lib.hid h
  by_cases h0 : 0 ≤ p
  · by_cases h1 : p < rs.length
    · have hM : Hid (inB p rs.length = true) := decide_eq_true ⟨h0, h1⟩
      go_enter Try.func26, Try.ntmps26
      go_wp2_with (go_at_call 10; refine (size_any _ _ _ _ _ _ H.out).mono ?_; rintro e w' ⟨rfl, rfl⟩)
      go_ret
      exact ⟨ret_bool (by rw [hM.out]), rfl⟩
    · have hM : Hid (inB p rs.length = false) := decide_eq_false (by omega)
      have d : decide (p < (rs.length : Int)) = false := by simp; omega
      go_enter Try.func26, Try.ntmps26
      go_wp2_with (go_at_call 10; refine (size_any _ _ _ _ _ _ H.out).mono ?_; rintro e w' ⟨rfl, rfl⟩)
      go_ret
      exact ⟨ret_bool hM.out.symm, rfl⟩
  · have hM : Hid (inB p rs.length = false) := decide_eq_false (by omega)
    have d : decide (0 ≤ p) = false := by simp; omega
    go_enter Try.func26, Try.ntmps26
    go_wp2
    go_ret
    exact ⟨ret_bool hM.out.symm, rfl⟩
theorem there_to (b : Bool) (B ga g c : Nat) (rs : List Int) (p : Int) (w : World) (h : AObj w B ga g c rs) (hb : inB p rs.length = b) : Calls Try.prog 26 #[.pointer (some ⟨ga, 0, none⟩), .int .i64 p] w fun e w' => e = .returned (.bool b) ∧ w = w' := by
  rw [← hb]; exact there_any B ga g c rs p w h

theorem refs_any (B ga g c : Nat) (rs : List Int) (p : Int) (w : World) (h : AObj w B ga g c rs) : Calls Try.prog 13 #[.pointer (some ⟨ga, 0, none⟩), .int .i64 p] w fun e w' => e = .returned (.int .i64 (refsL rs p)) ∧ w = w' := by
  have H := Lib.hid h
  have hc := h.cell
  by_cases hp : 0 ≤ p ∧ p < rs.length
  · obtain ⟨k, rfl⟩ := Int.eq_ofNat_of_zero_le hp.1
    have hk : k < rs.length := by omega
    have hx := h.at_ hk
    have hM : Hid (refsL rs (k : Int) = rs[k]) := by
      unfold refsL
      rw [if_pos hp, Int.toNat_natCast, List.getD_eq_getElem?_getD, List.getElem?_eq_getElem hk]; rfl
    have hB : inB (k : Int) rs.length = true := decide_eq_true hp
    have HB := Lib.hid hB
    clear hB hp h
    go_enter Try.func13, Try.ntmps13
    go_wp2_with (go_at_call 26; refine (there_to true _ _ _ _ _ _ _ H.out HB.out).mono ?_; rintro e w' ⟨rfl, rfl⟩)
    go_ret
    exact ⟨ret_int hM.out.symm, rfl⟩
  · have hM : Hid (refsL rs p = 0) := by unfold refsL; rw [if_neg hp]; trivial
    have HB : Hid (inB p rs.length = false) := decide_eq_false hp
    clear hp h hc
    go_enter Try.func13, Try.ntmps13
    go_wp2_with (go_at_call 26; refine (there_to false _ _ _ _ _ _ _ H.out HB.out).mono ?_; rintro e w' ⟨rfl, rfl⟩)
    go_ret
    exact ⟨ret_int hM.out.symm, rfl⟩
theorem there_nil (p : Int) (w : World) : Calls Try.prog 26 #[.pointer none, .int .i64 p] w fun e w' => e = .returned (.bool false) ∧ w = w' := by
  by_cases h0 : 0 ≤ p
  · have d : decide (p < 0) = false := by simp; omega
    go_enter Try.func26, Try.ntmps26
    go_wp2_with (go_at_call 10; refine (size_nil _).mono ?_; rintro e w' ⟨rfl, rfl⟩)
    go_ret
    exact ⟨rfl, rfl⟩
  · have d : decide (0 ≤ p) = false := by simp; omega
    go_enter Try.func26, Try.ntmps26
    go_wp2
    go_ret
    exact ⟨rfl, rfl⟩
theorem refs_nil (p : Int) (w : World) : Calls Try.prog 13 #[.pointer none, .int .i64 p] w fun e w' => e = .returned (.int .i64 0) ∧ w = w' := by
  go_enter Try.func13, Try.ntmps13
  go_wp2_with (go_at_call 26; refine (there_nil _ _).mono ?_; rintro e w' ⟨rfl, rfl⟩)
  go_ret
  exact ⟨rfl, rfl⟩

/-- slices.Index at 0 -/
def idxL (rs : List Int) (r : Int) : Prop := (∃ i : Nat, r = i ∧ i < rs.length ∧ rs.getD i 0 = 0 ∧ ∀ j, j < i → rs.getD j 0 ≠ 0) ∨ (r = -1 ∧ ∀ j, j < rs.length → rs.getD j 0 ≠ 0)
set_option maxHeartbeats 400000 in
theorem index_any (A : Option Addr) (n c : Nat) (rs : List Int) (r : Int) (hr : idxL rs r) (w : World) (h : Reads w w.heap.size 1 A n (ints rs)) (hn : n ≤ maxLen) :
    Calls Try.prog 28 #[.slice A n c, .int .i64 0] w fun e w' => e = .returned (.int .i64 r) ∧ w = w' := by
  unfold maxLen at hn
  have HL := Lib.hid h.ilen
  have HR := Lib.hid hr
  clear hr
  go_enter Try.func28, Try.ntmps28
  go_wp2_with fail
  go_loop [8] (fun i => ∃ k : Nat, k ≤ n ∧ i = .int .i64 k ∧ Hid (∀ j, j < k → rs.getD j 0 ≠ 0)) (fun i => n - (intOf i).toNat)
  case atStart => exact ⟨0, Nat.zero_le _, rfl, fun j hj => by omega⟩
  case round =>
    obtain ⟨k, hk, rfl, HK⟩ := hrel
    by_cases hlt : k < n
    · obtain ⟨b, off, rfl, _, hl, hc⟩ := h.int hlt
      have hx : Hid (rs.getD k 0 = rs[k]) := by rw [List.getD_eq_getElem?_getD, List.getElem?_eq_getElem hl]; trivial
      by_cases hz : rs[k] = 0
      · have d : (0 == rs[k]) = true := by simp [hz]
        have hM : Hid (r = (k : Int)) := by
          rcases HR.out with ⟨i, hri, hi, hiz, hij⟩ | ⟨_, hno⟩
          · rcases Nat.lt_trichotomy i k with h' | h' | h'
            · exact absurd hiz (HK.out i h')
            · rw [hri, h']; trivial
            · exact absurd (by rw [hx.out, hz]) (hij k h')
          · exact absurd (by rw [hx.out, hz]) (hno k hl)
        clear hz
        go_wp2
        go_ret
        exact ⟨ret_int hM.out.symm, rfl⟩
      · have d : (0 == rs[k]) = false := by rw [beq_eq_false_iff_ne]; omega
        have HZ := Lib.hid hz
        clear hz
        go_wp2
        refine ⟨⟨k + 1, by omega, by go_num, fun j hj => ?_⟩, by simp [intOf]; omega⟩
        rcases Nat.lt_or_ge j k with h' | h'
        · exact HK.out j h'
        · obtain rfl : j = k := by omega
          rw [hx.out]
          exact HZ.out
    · have hM : Hid (r = -1) := by
        rcases HR.out with ⟨i, hri, hi, hiz, hij⟩ | ⟨hm, _⟩
        · exact absurd hiz (HK.out i (by rw [HL.out] at hi; omega))
        · exact hm
      go_wp2
      go_ret
      exact ⟨ret_int hM.out.symm, rfl⟩
end Go.Proofs.Ytohlcopnifmjoae
