/- Confs: Much, names, Check, Right. -/
import Derived.Test.YtohlcopnifmjoadRows
import Derived.Test.YtohlcopnifmjoadWords
import Derived.WalkKit
import Derived.ProofKit
import Derived.WalkLawsBesides
import Derived.WalkSpells
import Derived.Outline
import Derived.Lib.Hide
import Derived.Deep.DeepMust
import Derived.Deep.QuietTactic
import Derived.BigQuiet
import Derived.Deep.Slices
namespace Go.Proofs.Ytohlcopnifmjoad
open Go.RowKit

/-- a component: its name, its size -/
structure Cmp where
  name : ByteArray
  size : Int
/-- a layout, and where its components lie -/
structure Cnf where
  log : Int
  pages : Int
  ents : Int
  gens : Int
  A : Option Addr
  n : Nat
  c : Nat
  cs : List Cmp
def flat (cs : List Cmp) : List Value := cs.flatMap fun x => [.string x.name, .int .i64 x.size]
def i64ok (x : Int) : Prop := -9223372036854775808 ≤ x ∧ x ≤ 9223372036854775807
structure Cnf.ok (w : World) (c : Cnf) : Prop where
  hr : Reads w w.heap.size 2 c.A c.n (flat c.cs)
  hn : c.n ≤ maxLen
  hnc : c.n ≤ c.c
  hl : i64ok c.log
  hp : i64ok c.pages
  he : i64ok c.ents
  hg : i64ok c.gens
  hs : ∀ x ∈ c.cs, x.name.size ≤ maxLen ∧ i64ok x.size

theorem flat_length (cs : List Cmp) : (flat cs).length = cs.length * 2 := by
  induction cs with
  | nil => rfl
  | cons x cs ih => simp [flat] at ih ⊢; omega
theorem flat_get (cs : List Cmp) (k : Nat) (hk : k < cs.length) : (flat cs)[k * 2]? = some (.string cs[k].name) ∧ (flat cs)[k * 2 + 1]? = some (.int .i64 cs[k].size) := by
  induction cs generalizing k with
  | nil => simp at hk
  | cons x cs ih =>
    rcases k with _ | k
    · simp [flat]
    · have := ih k (by simpa using hk)
      simp only [flat, List.flatMap_cons] at this ⊢
      rw [show (k + 1) * 2 = k * 2 + 2 from by omega]
      simpa using this
theorem Cnf.ok.len {w : World} {c : Cnf} (h : c.ok w) : c.cs.length = c.n := by
  have := h.hr.1
  rw [flat_length] at this
  omega
theorem add_flat (b off j : Nat) : (⟨b, off, none⟩ : Addr).add j = ⟨b, off + j, none⟩ := by unfold Addr.add; split <;> simp_all
/-- element k -/
theorem Cnf.ok.at_ {w : World} {c : Cnf} (h : c.ok w) {k : Nat} (hk : k < c.n) : ∃ b off x, c.A = some ⟨b, off, none⟩ ∧ b < w.heap.size ∧ c.cs[k]? = some x ∧ w.cell? ⟨b, off + k * 2, none⟩ = some (.string x.name) ∧ w.cell? ⟨b, off + k * 2 + 1, none⟩ = some (.int .i64 x.size) := by
  obtain ⟨ad, e, hb, hc⟩ := h.hr.2 (by omega)
  have hl : k < c.cs.length := by rw [h.len]; exact hk
  have h0 := flat_get c.cs 0 (by omega)
  have := flat_get c.cs k hl
  have hs := hc 0 _ (by simpa using h0.1)
  obtain ⟨b, off, spot⟩ := ad
  have hspot : spot = none := by simpa [Addr.add] using World.cell?_spot hs
  subst hspot
  have g1 := hc _ _ this.1
  have g2 := hc _ _ this.2
  rw [add_flat] at g1 g2
  exact ⟨b, off, c.cs[k], e, hb, List.getElem?_eq_getElem hl, g1, g2⟩
theorem Cnf.ok.over {w w' : World} {c : Cnf} (h : c.ok w) (hb : Below w.heap.size w w') : c.ok w' := ⟨h.hr.over hb, h.hn, h.hnc, h.hl, h.hp, h.he, h.hg, h.hs⟩

theorem ret_bool {a b : Bool} (h : a = b) : Ending.returned (.bool a) = Ending.returned (.bool b) := by rw [h]
theorem ret_int {k : IntKind} {a b : Int} (h : a = b) : Ending.returned (.int k a) = Ending.returned (.int k b) := by rw [h]

theorem Cnf.ok.drew {w : World} {c : Cnf} (h : c.ok w) : c.ok w.drew := ⟨h.hr, h.hn, h.hnc, h.hl, h.hp, h.he, h.hg, h.hs⟩
theorem Cnf.ok.drewN {w : World} {c : Cnf} (h : c.ok w) (d : Nat) : c.ok (w.drewN d) := ⟨h.hr, h.hn, h.hnc, h.hl, h.hp, h.he, h.hg, h.hs⟩
def Cnf.v (c : Cnf) : Value := .agg #[.int .i64 c.log, .int .i64 c.pages, .int .i64 c.ents, .int .i64 c.gens, .slice c.A c.n c.c]

def muchB (cs : List Cmp) : Bool := (cs.take 50).any (fun x => decide (100 < x.name.size)) || decide (40 < cs.length)

theorem muchB_true {cs : List Cmp} {k : Nat} {x : Cmp} (hx : cs[k]? = some x) (hk : k < 50) (h : 100 < x.name.size) : muchB cs = true := by
  unfold muchB
  rw [Bool.or_eq_true]
  left
  rw [List.any_eq_true]
  have hl : k < cs.length := (List.getElem?_eq_some_iff.1 hx).1
  refine ⟨x, ?_, by simpa using h⟩
  rw [List.mem_take_iff_getElem]
  refine ⟨k, by omega, ?_⟩
  have := (List.getElem?_eq_some_iff.1 hx).2
  exact this
theorem muchB_end {cs : List Cmp} {k : Nat} (hk : k = cs.length ∨ k = 50) (h : ∀ j x, j < k → cs[j]? = some x → x.name.size ≤ 100) : muchB cs = decide (40 < cs.length) := by
  unfold muchB
  have : (cs.take 50).any (fun x => decide (100 < x.name.size)) = false := by
    rw [List.any_eq_false]
    intro x hx
    rw [List.mem_take_iff_getElem] at hx
    obtain ⟨j, hj, rfl⟩ := hx
    have := h j cs[j] (by omega) (List.getElem?_eq_getElem (by omega))
    simp; omega
  rw [this]; simp

theorem new_cell (w : World) (cs : Array Value) (t : TypeId) (j : Nat) : (w.alloc (.cells cs t)).cell? ⟨w.heap.size, j, none⟩ = cs[j]? := (Blk.new w t cs).cell j

set_option maxHeartbeats 1000000 in
theorem much_any (l p e g : Int) (A : Option Addr) (n cap : Nat) (cs : List Cmp) (w : World) (h : (⟨l, p, e, g, A, n, cap, cs⟩ : Cnf).ok w) :
    Calls Try.prog 6 #[.agg #[.int .i64 l, .int .i64 p, .int .i64 e, .int .i64 g, .slice A n cap]] w fun e w' => e = .returned (.bool (muchB cs)) ∧ Below w.heap.size w w' := by
  have hlen := h.len
  have hn := h.hn
  unfold maxLen at hn
  dsimp only at hlen hn
  have HL := Lib.hid hlen
  clear hlen
  have b1 : Below w.heap.size w (w.alloc (.cells #[.int .i64 l, .int .i64 p, .int .i64 e, .int .i64 g, .slice A n cap] 24)) := (Below.refl _ _).alloc (Nat.le_refl _) _
  have h1 := h.over b1
  have c4 := new_cell w #[.int .i64 l, .int .i64 p, .int .i64 e, .int .i64 g, .slice A n cap] 24 4
  go_enter Try.func6, Try.ntmps6
  go_wp2_with fail
  generalize w.alloc (.cells #[.int .i64 l, .int .i64 p, .int .i64 e, .int .i64 g, .slice A n cap] 24) = W at b1 h1 c4 ⊢
  simp only [List.getElem?_toArray, List.getElem?_cons_succ, List.getElem?_cons_zero] at c4
  have B1 := Lib.hid b1
  have H1 := Lib.hid h1
  clear b1 h1 h
  go_loop [3] (fun i => ∃ k : Nat, k ≤ n ∧ k ≤ 50 ∧ i = .int .i64 k ∧ Hid (∀ j x, j < k → cs[j]? = some x → x.name.size ≤ 100)) (fun i => 50 - (intOf i).toNat)
  case atStart => exact ⟨0, by omega, by omega, rfl, fun j x hj => by omega⟩
  case round =>
    obtain ⟨k, hk, hk50, rfl, HK⟩ := hrel
    by_cases hlt : k < n
    · by_cases hlt50 : k < 50
      · obtain ⟨b, off, x, he, _, hx, hc, _⟩ := H1.out.at_ hlt
        dsimp only at he hx hc
        subst he
        have hxn := (H1.out.hs x (List.mem_of_getElem? hx)).1
        unfold maxLen at hxn
        have HX := Lib.hid hx
        clear hx
        by_cases hbig : 100 < x.name.size
        · have hM := Lib.hid (muchB_true HX.out hlt50 hbig)
          go_wp2
          go_ret
          exact ⟨ret_bool (by rw [hM.out]), B1.out⟩
        · go_wp2
          refine ⟨⟨k + 1, by omega, by omega, by go_num, fun j y hj hy => ?_⟩, by simp [intOf]; omega⟩
          rcases Nat.lt_or_ge j k with h' | h'
          · exact HK.out j y h' hy
          · obtain rfl : j = k := by omega
            rw [HX.out] at hy
            cases hy
            omega
      · have hM := Lib.hid (muchB_end (cs := cs) (k := k) (by omega) HK.out)
        go_wp2
        go_ret
        exact ⟨ret_bool (by rw [hM.out, HL.out, decide_eq_decide]; omega), B1.out⟩
    · have hM := Lib.hid (muchB_end (cs := cs) (k := k) (by rw [HL.out]; omega) HK.out)
      go_wp2
      go_ret
      exact ⟨ret_bool (by rw [hM.out, HL.out, decide_eq_decide]; omega), B1.out⟩

/-! ### names -/
def letterC (c : Int) : Bool := decide (97 ≤ c ∧ c ≤ 122 ∨ 48 ≤ c ∧ c ≤ 57 ∨ c = 95)

theorem letter_any (c : Int) (w : World) (h0 : 0 ≤ c) (h1 : c ≤ 255) : Calls Try.prog 30 #[.int .u8 c] w fun e w' => e = .returned (.bool (letterC c)) ∧ w = w' := by
  by_cases a1 : 97 ≤ c
  · by_cases a2 : c ≤ 122
    · have hM : Hid (letterC c = true) := by unfold letterC; exact decide_eq_true (by omega)
      go_enter Try.func30, Try.ntmps30
      go_wp2
      go_ret
      exact ⟨ret_bool hM.out.symm, rfl⟩
    · have hM : Hid (letterC c = false) := by unfold letterC; exact decide_eq_false (by omega)
      have e1 : decide (c ≤ 122) = false := by simp; omega
      have e2 : decide (c ≤ 57) = false := by simp; omega
      have e3 : (c == 95) = false := by simp; omega
      go_enter Try.func30, Try.ntmps30
      go_wp2
      go_ret
      exact ⟨ret_bool hM.out.symm, rfl⟩
  · have e1 : decide (97 ≤ c) = false := by simp; omega
    by_cases a3 : 48 ≤ c
    · by_cases a4 : c ≤ 57
      · have hM : Hid (letterC c = true) := by unfold letterC; exact decide_eq_true (by omega)
        go_enter Try.func30, Try.ntmps30
        go_wp2
        go_ret
        exact ⟨ret_bool hM.out.symm, rfl⟩
      · have e2 : decide (c ≤ 57) = false := by simp; omega
        by_cases a5 : c = 95
        · subst a5
          have hM : Hid (letterC 95 = true) := by unfold letterC; exact decide_eq_true (by omega)
          go_enter Try.func30, Try.ntmps30
          go_wp2
          go_ret
          exact ⟨ret_bool hM.out.symm, rfl⟩
        · have e3 : (c == 95) = false := by simp; omega
          have hM : Hid (letterC c = false) := by unfold letterC; exact decide_eq_false (by omega)
          go_enter Try.func30, Try.ntmps30
          go_wp2
          go_ret
          exact ⟨ret_bool hM.out.symm, rfl⟩
    · have e2 : decide (48 ≤ c) = false := by simp; omega
      have e3 : (c == 95) = false := by simp; omega
      have hM : Hid (letterC c = false) := by unfold letterC; exact decide_eq_false (by omega)
      go_enter Try.func30, Try.ntmps30
      go_wp2
      go_ret
      exact ⟨ret_bool hM.out.symm, rfl⟩

theorem letter_to (c : Int) (b : Bool) (hb : letterC c = b) (w : World) (h0 : 0 ≤ c) (h1 : c ≤ 255) : Calls Try.prog 30 #[.int .u8 c] w fun e w' => e = .returned (.bool b) ∧ w = w' := by rw [← hb]; exact letter_any c w h0 h1

def nameB (s : ByteArray) : Bool := decide (1 ≤ s.size ∧ s.size ≤ 16) && s.data.toList.all fun c => letterC c.toNat

theorem nameB_size {s : ByteArray} (h : ¬ (1 ≤ s.size ∧ s.size ≤ 16)) : nameB s = false := by unfold nameB; rw [decide_eq_false h]; rfl
theorem size_list (s : ByteArray) : s.data.toList.length = s.size := by simp
theorem nameB_bad {s : ByteArray} {k : Nat} (hk : k < s.size) (h : letterC (s[k].toNat : Int) = false) : nameB s = false := by
  unfold nameB
  rw [Bool.and_eq_false_iff]
  right
  rw [List.all_eq_false]
  exact ⟨s[k], by rw [show s[k] = s.data.toList[k]'(by rw [size_list]; exact hk) from rfl]; exact List.getElem_mem _, by rw [h]; simp⟩
theorem nameB_good {s : ByteArray} (h1 : 1 ≤ s.size) (h2 : s.size ≤ 16) (h : ∀ j (hj : j < s.size), letterC (s[j].toNat : Int) = true) : nameB s = true := by
  unfold nameB
  rw [decide_eq_true ⟨h1, h2⟩, Bool.true_and, List.all_eq_true]
  intro c hc
  obtain ⟨j, hj, rfl⟩ := List.getElem_of_mem hc
  exact h j (by rw [size_list] at hj; exact hj)
theorem empty_of {s : ByteArray} (h : s.size = 0) : s.toList = [] := by
  rw [ByteArray.toList_eq]
  exact List.eq_nil_of_length_eq_zero (by rw [size_list]; exact h)
theorem nonempty_of {s : ByteArray} (h : s.size ≠ 0) : s.toList.isEmpty = false := by
  rw [ByteArray.toList_eq, List.isEmpty_eq_false_iff]
  intro e
  apply h
  rw [← size_list, e]; rfl

set_option maxHeartbeats 400000 in
theorem name_any (s : ByteArray) (w : World) (hs : s.size ≤ maxLen) : Calls Try.prog 29 #[.string s] w fun e w' => e = .returned (.bool (nameB s)) ∧ w = w' := by
  unfold maxLen at hs
  by_cases h0 : s.size = 0
  · have hM := Lib.hid (nameB_size (s := s) (by omega))
    have he := empty_of h0
    clear h0
    go_enter Try.func29, Try.ntmps29
    go_wp2
    go_ret
    exact ⟨ret_bool hM.out.symm, rfl⟩
  have hne := nonempty_of h0
  by_cases h16 : 16 < s.size
  · have hM := Lib.hid (nameB_size (s := s) (by omega))
    go_enter Try.func29, Try.ntmps29
    go_wp2
    go_ret
    exact ⟨ret_bool hM.out.symm, rfl⟩
  have hd : decide (16 < (s.size : Int)) = false := by simp; omega
  go_enter Try.func29, Try.ntmps29
  go_wp2_with fail
  go_loop [13] (fun i => ∃ k : Nat, k ≤ s.size ∧ i = .int .i64 k ∧ Hid (∀ j (hj : j < s.size), j < k → letterC (s[j].toNat : Int) = true)) (fun i => s.size - (intOf i).toNat)
  case atStart => exact ⟨0, Nat.zero_le _, rfl, fun j _ hj => by omega⟩
  case round =>
    obtain ⟨k, hk, rfl, HK⟩ := hrel
    by_cases hlt : k < s.size
    · have hc := s[k].toNat_lt
      cases hl : letterC (s[k].toNat : Int)
      · have hM := Lib.hid (nameB_bad hlt hl)
        have HL := Lib.hid hl
        clear hl
        go_wp2_with (go_at_call 30; go_must (refine (letter_to _ false HL.out _ (by omega) (by omega)).mono ?_; rintro e w' ⟨rfl, rfl⟩))
        go_ret
        exact ⟨ret_bool hM.out.symm, rfl⟩
      · have HL := Lib.hid hl
        clear hl
        go_wp2_with (go_at_call 30; go_must (refine (letter_to _ true HL.out _ (by omega) (by omega)).mono ?_; rintro e w' ⟨rfl, rfl⟩))
        refine ⟨⟨k + 1, by omega, by go_num, fun j hj hjk => ?_⟩, by simp [intOf]; omega⟩
        rcases Nat.lt_or_ge j k with h' | h'
        · exact HK.out j hj h'
        · obtain rfl : j = k := by omega
          exact HL.out
    · have hM := Lib.hid (nameB_good (s := s) (by omega) (by omega) (fun j hj => HK.out j hj (by omega)))
      go_wp2
      go_ret
      exact ⟨ret_bool hM.out.symm, rfl⟩

theorem name_to (s : ByteArray) (b : Bool) (hb : nameB s = b) (w : World) (hs : s.size ≤ maxLen) : Calls Try.prog 29 #[.string s] w fun e w' => e = .returned (.bool b) ∧ w = w' := by rw [← hb]; exact name_any s w hs

set_option maxHeartbeats 1000000 in
/-- the reference's -/
theorem rname_any (s : ByteArray) (w : World) (hs : s.size ≤ maxLen) : Calls Try.prog 26 #[.string s] w fun e w' => e = .returned (.bool (nameB s)) ∧ ∃ d, w' = w.drewN d := by
  unfold maxLen at hs
  go_enter Try.func26, Try.ntmps26
  go_wp2_with fail
  go_loopw [3] (fun i wr => ∃ k : Nat, k ≤ s.size ∧ i = .int .i64 k ∧ Hid (∀ j (hj : j < s.size), j < k → letterC (s[j].toNat : Int) = true) ∧ Hid (∃ d, wr = w.drewN d)) (fun i _ => s.size - (intOf i).toNat)
  case atStart => exact ⟨0, Nat.zero_le _, rfl, fun j _ hj => by omega, ⟨0, rfl⟩⟩
  case round =>
    obtain ⟨k, hk, rfl, HK, HD⟩ := hrel
    by_cases hlt : k < s.size
    · have hc := s[k].toNat_lt
      by_cases a1 : (97 : Int) ≤ s[k].toNat
      · have d2 : decide ((s[k].toNat : Int) ≤ 57) = false := by simp; omega
        have i1 : (48 : Int) ≤ s[k].toNat := by omega
        by_cases a2 : (s[k].toNat : Int) ≤ 122
        · skip
          go_wp2
          go_quiet (fail)
          go_wp2
          refine ⟨⟨k + 1, by omega, by go_num, fun j hj hjk => ?_, ?_⟩, by simp [intOf]; omega⟩
          · rcases Nat.lt_or_ge j k with h' | h'
            · exact HK.out j hj h'
            · obtain rfl : j = k := by omega
              unfold letterC; exact decide_eq_true (by omega)
          · obtain ⟨d, hd⟩ := HD.out
            exact ⟨_, by rw [hd, World.drewN_drewN]⟩
        · have d1 : decide ((s[k].toNat : Int) ≤ 122) = false := by simp; omega
          have d3 : ((s[k].toNat : Int) != 95) = true := by simp; omega
          have hM := Lib.hid (nameB_bad hlt (by unfold letterC; exact decide_eq_false (by omega)))
          go_wp2
          go_quiet (fail)
          go_wp2
          go_ret
          obtain ⟨d, hd⟩ := HD.out
          exact ⟨ret_bool hM.out.symm, _, by rw [hd, World.drewN_drewN]⟩
      · have d1 : decide ((97 : Int) ≤ s[k].toNat) = false := by simp; omega
        by_cases a3 : (48 : Int) ≤ s[k].toNat
        · by_cases a4 : (s[k].toNat : Int) ≤ 57
          · skip
            go_wp2
            go_quiet (fail)
            go_wp2
            refine ⟨⟨k + 1, by omega, by go_num, fun j hj hjk => ?_, ?_⟩, by simp [intOf]; omega⟩
            · rcases Nat.lt_or_ge j k with h' | h'
              · exact HK.out j hj h'
              · obtain rfl : j = k := by omega
                unfold letterC; exact decide_eq_true (by omega)
            · obtain ⟨d, hd⟩ := HD.out
              exact ⟨_, by rw [hd, World.drewN_drewN]⟩
          · have d2 : decide ((s[k].toNat : Int) ≤ 57) = false := by simp; omega
            by_cases a5 : (s[k].toNat : Int) = 95
            · have d3 : ((s[k].toNat : Int) != 95) = false := by simp; omega
              have A5 := Lib.hid a5
              clear a5
              go_wp2
              go_quiet (fail)
              go_wp2
              refine ⟨⟨k + 1, by omega, by go_num, fun j hj hjk => ?_, ?_⟩, by simp [intOf]; omega⟩
              · rcases Nat.lt_or_ge j k with h' | h'
                · exact HK.out j hj h'
                · obtain rfl : j = k := by omega
                  unfold letterC; exact decide_eq_true (Or.inr (Or.inr A5.out))
              · obtain ⟨d, hd⟩ := HD.out
                exact ⟨_, by rw [hd, World.drewN_drewN]⟩
            · have d3 : ((s[k].toNat : Int) != 95) = true := by simp; omega
              have hM := Lib.hid (nameB_bad hlt (by unfold letterC; exact decide_eq_false (by omega)))
              go_wp2
              go_quiet (fail)
              go_wp2
              go_ret
              obtain ⟨d, hd⟩ := HD.out
              exact ⟨ret_bool hM.out.symm, _, by rw [hd, World.drewN_drewN]⟩
        · have d2 : decide ((48 : Int) ≤ s[k].toNat) = false := by simp; omega
          have d3 : ((s[k].toNat : Int) != 95) = true := by simp; omega
          have hM := Lib.hid (nameB_bad hlt (by unfold letterC; exact decide_eq_false (by omega)))
          go_wp2
          go_quiet (fail)
          go_wp2
          go_ret
          obtain ⟨d, hd⟩ := HD.out
          exact ⟨ret_bool hM.out.symm, _, by rw [hd, World.drewN_drewN]⟩
    · by_cases h1 : 1 ≤ s.size
      · by_cases h2 : s.size ≤ 16
        · have hM := Lib.hid (nameB_good h1 h2 (fun j hj => HK.out j hj (by omega)))
          go_wp2
          go_ret
          exact ⟨ret_bool (by rw [hM.out]; simp; omega), HD.out⟩
        · have hM := Lib.hid (nameB_size (s := s) (by omega))
          have d1 : decide ((s.size : Int) ≤ 16) = false := by simp; omega
          go_wp2
          go_ret
          exact ⟨ret_bool hM.out.symm, HD.out⟩
      · have hM := Lib.hid (nameB_size (s := s) (by omega))
        have d1 : decide ((1 : Int) ≤ (s.size : Int)) = false := by simp; omega
        go_wp2
        go_ret
        exact ⟨ret_bool hM.out.symm, HD.out⟩

theorem rname_to (s : ByteArray) (b : Bool) (hb : nameB s = b) (w : World) (hs : s.size ≤ maxLen) : Calls Try.prog 26 #[.string s] w fun e w' => e = .returned (.bool b) ∧ ∃ d, w' = w.drewN d := by rw [← hb]; exact rname_any s w hs

/-! ### ranges, and the two checks -/
def withinB (n lo hi : Int) : Bool := decide (lo ≤ n ∧ n ≤ hi)
theorem within_any (n lo hi : Int) (w : World) : Calls Try.prog 28 #[.int .i64 n, .int .i64 lo, .int .i64 hi] w fun e w' => e = .returned (.bool (withinB n lo hi)) ∧ w = w' := by
  by_cases h1 : lo ≤ n
  · by_cases h2 : n ≤ hi
    · have hM : Hid (withinB n lo hi = true) := decide_eq_true ⟨h1, h2⟩
      go_enter Try.func28, Try.ntmps28
      go_wp2
      go_ret
      exact ⟨ret_bool hM.out.symm, rfl⟩
    · have hM : Hid (withinB n lo hi = false) := decide_eq_false (by omega)
      have d : decide (n ≤ hi) = false := by simp; omega
      go_enter Try.func28, Try.ntmps28
      go_wp2
      go_ret
      exact ⟨ret_bool hM.out.symm, rfl⟩
  · have hM : Hid (withinB n lo hi = false) := decide_eq_false (by omega)
    have d : decide (lo ≤ n) = false := by simp; omega
    go_enter Try.func28, Try.ntmps28
    go_wp2
    go_ret
    exact ⟨ret_bool hM.out.symm, rfl⟩

theorem toList_ne {a b : ByteArray} (h : a ≠ b) : (a.toList == b.toList) = false := by
  rw [beq_eq_false_iff_ne]
  intro e
  apply h
  rw [ByteArray.toList_eq, ByteArray.toList_eq] at e
  have : a.data = b.data := Array.toList_inj.1 e
  cases a; cases b; simp_all
theorem toList_same {a b : ByteArray} (h : a = b) : (a.toList == b.toList) = true := by rw [h]; simp
/-- component i is right beside those ahead of it -/
def compOk (cs : List Cmp) (i : Nat) : Prop := ∀ x, cs[i]? = some x → (nameB x.name = true ∧ 0 ≤ x.size ∧ x.size ≤ 64 ∧ ∀ (j : Nat) (y : Cmp), j < i → cs[j]? = some y → y.name ≠ x.name)
structure rightP (l p e g : Int) (cs : List Cmp) : Prop where
  hl : 2 ≤ l ∧ l ≤ 1024
  hp : 4 ≤ p ∧ p ≤ 1024
  he : 1 ≤ e ∧ e ≤ 1024
  hg : 1 ≤ g ∧ g ≤ 1073741824
  hn : cs.length ≤ 32
  hc : ∀ i, i < cs.length → compOk cs i
theorem rightP.within {l p e g : Int} {cs : List Cmp} (h : rightP l p e g cs) : withinB l 2 1024 = true ∧ withinB p 4 1024 = true ∧ withinB e 1 1024 = true ∧ withinB g 1 1073741824 = true :=
  ⟨decide_eq_true h.hl, decide_eq_true h.hp, decide_eq_true h.he, decide_eq_true h.hg⟩
def codeB (b : Bool) : Int := if b then 0 else 1

end Go.Proofs.Ytohlcopnifmjoad
