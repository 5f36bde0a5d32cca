/- alloc: a script that comes in; one step of it; is it too much? -/
import Derived.Test.YtohlcopnifmjoaeOrders
import Derived.Test.YtohlcopnifmjoaeUndo
namespace Go.Proofs.Ytohlcopnifmjoae
open Go.RowKit

structure StV where
  act : Int
  A : Option Addr
  n : Nat
  c : Nat
  l : List Int
def flatS (ss : List StV) : List Value := ss.flatMap fun s => [.int .i64 s.act, .slice s.A s.n s.c]
structure Stp where
  A : Option Addr
  n : Nat
  c : Nat
  ss : List StV
def Stp.v (s : Stp) : Value := .slice s.A s.n s.c
structure Stp.ok (w : World) (s : Stp) : Prop where
  hr : Reads w w.heap.size 2 s.A s.n (flatS s.ss)
  hn : s.n ≤ maxLen
  hs : ∀ x ∈ s.ss, i64ok x.act ∧ Reads w w.heap.size 1 x.A x.n (ints x.l) ∧ x.n ≤ maxLen
theorem flatS_length (ss : List StV) : (flatS ss).length = ss.length * 2 := by
  induction ss with
  | nil => rfl
  | cons x cs ih => simp [flatS] at ih ⊢; omega
theorem flatS_get (ss : List StV) (k : Nat) (hk : k < ss.length) : (flatS ss)[k * 2]? = some (.int .i64 ss[k].act) ∧ (flatS ss)[k * 2 + 1]? = some (.slice ss[k].A ss[k].n ss[k].c) := by
  induction ss generalizing k with
  | nil => simp at hk
  | cons x cs ih =>
    rcases k with _ | k
    · simp [flatS]
    · have := ih k (by simpa using hk)
      simp only [flatS, List.flatMap_cons] at this ⊢
      rw [show (k + 1) * 2 = k * 2 + 2 from by omega]
      simpa using this
theorem Stp.ok.len {w : World} {s : Stp} (h : s.ok w) : s.ss.length = s.n := by
  have := h.hr.1
  rw [flatS_length] at this
  omega
theorem Stp.ok.over {w w' : World} {s : Stp} (h : s.ok w) (hb : Below w.heap.size w w') : s.ok w' := ⟨h.hr.over hb, h.hn, fun x hx => ⟨(h.hs x hx).1, (h.hs x hx).2.1.over hb, (h.hs x hx).2.2⟩⟩
theorem Stp.ok.at_ {w : World} {s : Stp} (h : s.ok w) {k : Nat} (hk : k < s.n) : ∃ b off x, s.A = some ⟨b, off, none⟩ ∧ b < w.heap.size ∧ s.ss[k]? = some x ∧ w.cell? ⟨b, off + k * 2, none⟩ = some (.int .i64 x.act) ∧ w.cell? ⟨b, off + k * 2 + 1, none⟩ = some (.slice x.A x.n x.c) := by
  obtain ⟨ad, e, hb, hc⟩ := h.hr.2 (by omega)
  have hl : k < s.ss.length := by rw [h.len]; exact hk
  have h0 := flatS_get s.ss 0 (by omega)
  have := flatS_get s.ss k hl
  have hs := hc 0 _ (by simpa using h0.1)
  obtain ⟨b, off, spot⟩ := ad
  have hspot : spot = none := by simpa [Addr.add] using World.cell?_spot hs
  subst hspot
  have g1 := hc _ _ this.1
  have g2 := hc _ _ this.2
  rw [add_flat] at g1 g2
  exact ⟨b, off, s.ss[k], e, hb, List.getElem?_eq_getElem hl, g1, g2⟩

def muchB (ss : List StV) : Bool := (ss.take 100).any (fun x => decide (30 < x.n)) || decide (50 < ss.length)
theorem muchB_true {ss : List StV} {k : Nat} {x : StV} (hx : ss[k]? = some x) (hk : k < 100) (h : 30 < x.n) : muchB ss = true := by
  unfold muchB
  rw [Bool.or_eq_true]
  left
  rw [List.any_eq_true]
  have hl : k < ss.length := (List.getElem?_eq_some_iff.1 hx).1
  refine ⟨x, ?_, by simpa using h⟩
  rw [List.mem_take_iff_getElem]
  exact ⟨k, by omega, (List.getElem?_eq_some_iff.1 hx).2⟩
theorem muchB_end {ss : List StV} {k : Nat} (hk : k = ss.length ∨ k = 100) (h : ∀ j x, j < k → ss[j]? = some x → x.n ≤ 30) : muchB ss = decide (50 < ss.length) := by
  unfold muchB
  have : (ss.take 100).any (fun x => decide (30 < x.n)) = false := by
    rw [List.any_eq_false]
    intro x hx
    rw [List.mem_take_iff_getElem] at hx
    obtain ⟨j, hj, rfl⟩ := hx
    have := h j ss[j] (by omega) (List.getElem?_eq_getElem (by omega))
    simp; omega
  rw [this]; simp
theorem muchB_false {ss : List StV} (h : muchB ss = false) : ss.length ≤ 50 ∧ ∀ x ∈ ss, x.n ≤ 30 := by
  unfold muchB at h
  rw [Bool.or_eq_false_iff] at h
  have h50 : ss.length ≤ 50 := by have := h.2; simp at this; exact this
  refine ⟨h50, fun x hx => ?_⟩
  have h1 := h.1
  rw [List.take_of_length_le (by omega), List.any_eq_false] at h1
  have := h1 x hx
  simp at this
  exact this

set_option maxHeartbeats 1000000 in
theorem much_any (A : Option Addr) (n c : Nat) (ss : List StV) (w : World) (h : (⟨A, n, c, ss⟩ : Stp).ok w) : Calls Try.prog 6 #[.slice A n c] w fun e w' => e = .returned (.bool (muchB ss)) ∧ w = w' := by
  have HL := Lib.hid h.len
  have hn := h.hn
  unfold maxLen at hn
  dsimp only at HL hn
  have H := Lib.hid h
  clear h
  go_enter Try.func6, Try.ntmps6
  go_wp2_with fail
  go_loop [3] (fun i => ∃ k : Nat, k ≤ n ∧ k ≤ 100 ∧ i = .int .i64 k ∧ Hid (∀ j x, j < k → ss[j]? = some x → x.n ≤ 30)) (fun i => 100 - (intOf i).toNat)
  case atStart => exact ⟨0, by omega, by omega, rfl, fun j x hj => by omega⟩
  case round =>
    obtain ⟨k, hk, hk50, rfl, HK⟩ := hrel
    by_cases hlt : k < n
    · by_cases hlt50 : k < 100
      · obtain ⟨b, off, x, he, _, hx, _, hc⟩ := H.out.at_ hlt
        dsimp only at he hx hc
        subst he
        have hxn := (H.out.hs x (List.mem_of_getElem? hx)).2.2
        unfold maxLen at hxn
        have HX := Lib.hid hx
        clear hx
        by_cases hbig : 30 < x.n
        · have hM := Lib.hid (muchB_true HX.out hlt50 hbig)
          go_wp2
          go_ret
          exact ⟨ret_bool (by rw [hM.out]), rfl⟩
        · go_wp2
          refine ⟨⟨k + 1, by omega, by omega, by go_num, fun j y hj hy => ?_⟩, by simp [intOf]; omega⟩
          rcases Nat.lt_or_ge j k with h' | h'
          · exact HK.out j y h' hy
          · obtain rfl : j = k := by omega
            rw [HX.out] at hy
            cases hy
            omega
      · have hM := Lib.hid (muchB_end (ss := ss) (k := k) (by omega) HK.out)
        go_wp2
        go_ret
        exact ⟨ret_bool (by rw [hM.out, HL.out, decide_eq_decide]; omega), rfl⟩
    · have hM := Lib.hid (muchB_end (ss := ss) (k := k) (by rw [HL.out]; omega) HK.out)
      go_wp2
      go_ret
      exact ⟨ret_bool (by rw [hM.out, HL.out, decide_eq_decide]; omega), rfl⟩

/-- one step, in plain -/
def StepIs (act : Int) (l rs : List Int) (p : Int) (ok : Bool) (rs' : List Int) : Prop :=
  (act = 1 ∧ p = 0 ∧ ok = (addL 1 rs l).isSome ∧ rs' = (addL 1 rs l).getD rs) ∨ (act = 2 ∧ p = 0 ∧ ok = (addL (-1) rs l).isSome ∧ rs' = (addL (-1) rs l).getD rs) ∨ (act ≠ 1 ∧ act ≠ 2 ∧ TakeIs rs p ok rs')
theorem stepIs (act : Int) (l rs : List Int) : ∃ p ok rs', StepIs act l rs p ok rs' := by
  by_cases h1 : act = 1
  · exact ⟨_, _, _, .inl ⟨h1, rfl, rfl, rfl⟩⟩
  by_cases h2 : act = 2
  · exact ⟨_, _, _, .inr (.inl ⟨h2, rfl, rfl, rfl⟩)⟩
  · obtain ⟨p, ok, rs', h⟩ := takeIs rs
    exact ⟨p, ok, rs', .inr (.inr ⟨h1, h2, h⟩)⟩
theorem StepIs.length {act : Int} {l rs : List Int} {p : Int} {ok : Bool} {rs' : List Int} (h : StepIs act l rs p ok rs') : rs'.length = rs.length := by
  rcases h with ⟨_, _, _, rfl⟩ | ⟨_, _, _, rfl⟩ | ⟨_, _, h⟩
  · cases e : addL 1 rs l with
    | none => rfl
    | some r => exact addL_length e
  · cases e : addL (-1) rs l with
    | none => rfl
    | some r => exact addL_length e
  · rcases h with ⟨i, _, _, _, _, _, rfl⟩ | ⟨_, _, rfl, _⟩
    · simp
    · rfl
theorem StepIs.within {act m : Int} {l rs : List Int} {p : Int} {ok : Bool} {rs' : List Int} (h : StepIs act l rs p ok rs') (hm : 0 ≤ m) (hw : Within m rs) : Within (m + 1 + l.length) rs' := by
  rcases h with ⟨_, _, _, rfl⟩ | ⟨_, _, _, rfl⟩ | ⟨_, _, h⟩
  · cases e : addL 1 rs l with
    | none => exact hw.mono (by omega)
    | some r => exact (hw.addL (by omega) e).mono (by omega)
  · cases e : addL (-1) rs l with
    | none => exact hw.mono (by omega)
    | some r => exact (hw.addL (by omega) e).mono (by omega)
  · rcases h with ⟨i, _, _, _, _, _, rfl⟩ | ⟨_, _, rfl, _⟩
    · intro r hr
      rcases List.mem_or_eq_of_mem_set hr with h1 | h1
      · have := hw r h1; omega
      · omega
    · exact hw.mono (by omega)

theorem PostA.unbox {w w2 : World} {o : Obj} {B ga g : Nat} {r : List Int} {v v2 : Value} {e e2 : Ending} (hp : PostA (w.alloc o) B ga g r v e w2) (he : e2 = .returned v2) : PostA w B ga g r v2 e2 w2 := by
  obtain ⟨_, g', c', ha, hf, hg⟩ := hp
  refine ⟨he, g', c', ha, ⟨hf.os, hf.tape, hf.output, Nat.le_trans (by simp) hf.size, fun k hk h1 h2 => (hf.block k (by simp; omega) h1 h2).trans (Below.heap_alloc _ _ _ hk)⟩, ?_⟩
  rcases hg with h | h
  · exact .inl h
  · exact .inr (by simp at h; omega)

set_option maxHeartbeats 1000000 in
theorem do_any (B ga g c : Nat) (rs : List Int) (m : Int) (hm : m ≤ 1000000) (hw : Within m rs) (act : Int) (A : Option Addr) (n cl : Nat) (l : List Int) (hn : n ≤ 1000000) (p : Int) (ok : Bool) (rs' : List Int) (hs : StepIs act l rs p ok rs') (w : World) (h : AObj w B ga g c rs) (hr : Reads w w.heap.size 1 A n (ints l)) :
    Calls Try.prog 11 #[.pointer (some ⟨ga, 0, none⟩), .agg #[.int .i64 act, .slice A n cl]] w (PostA w B ga g rs' (.tuple #[.int .i64 p, .bool ok])) := by
  have HW := Lib.hid hw
  have b1 : Below w.heap.size w (w.alloc (.cells #[.int .i64 act, .slice A n cl] 35)) := (Below.refl _ _).alloc (Nat.le_refl _) _
  have H1 := Lib.hid (h.over b1)
  have R1 := Lib.hid (hr.over b1)
  have B1 := Lib.hid b1
  clear hw h hr b1
  rcases hs with ⟨rfl, rfl, rfl, rfl⟩ | ⟨rfl, rfl, rfl, rfl⟩ | ⟨h1, h2, ht⟩
  · go_enter Try.func11, Try.ntmps11
    go_wp2_with fail
    refine (hold_any B ga g c rs m HW.out hm A n cl l hn _ H1.out R1.out).mono ?_
    intro e2 w2 hp
    have HP := Lib.hid hp
    obtain ⟨rfl, _⟩ := hp
    go_wp2_with fail
    go_ret2
    exact PostA.unbox HP.out rfl
  · go_enter Try.func11, Try.ntmps11
    go_wp2_with fail
    refine (drop_any B ga g c rs m HW.out hm A n cl l hn _ H1.out R1.out).mono ?_
    intro e2 w2 hp
    have HP := Lib.hid hp
    obtain ⟨rfl, _⟩ := hp
    go_wp2_with fail
    go_ret2
    exact PostA.unbox HP.out rfl
  · have d1 : (act == 1) = false := by simp [h1]
    have d2 : (act == 2) = false := by simp [h2]
    have HT := Lib.hid ht
    clear h1 h2 ht
    go_enter Try.func11, Try.ntmps11
    go_wp2_with fail
    refine (take_any B ga g c rs p ok rs' HT.out _ H1.out).mono ?_
    intro e2 w2 hp
    have HP := Lib.hid hp
    obtain ⟨rfl, _⟩ := hp
    go_wp2_with fail
    go_ret2
    exact PostA.unbox HP.out rfl

theorem has_no (A : Option Addr) (n c : Nat) (xs : List Int) (x : Int) (w : World) (hn : n ≤ 1000000) (h : Reads w w.heap.size 1 A n (ints xs)) (hx : x ∉ xs) : Calls Try.prog 19 #[.slice A n c, .int .i64 x] w fun e w' => e = .returned (.bool false) ∧ w = w' := by
  have HX := Lib.hid hx
  clear hx
  go_enter Try.func19, Try.ntmps19
  go_wp2_with fail
  go_loop [5] (fun i => ∃ k : Nat, k ≤ n ∧ i = .int .i64 k) (fun i => n - (intOf i).toNat)
  case atStart => exact ⟨0, Nat.zero_le _, rfl⟩
  case round =>
    obtain ⟨k, hk, rfl⟩ := hrel
    by_cases hlt : k < n
    · obtain ⟨b, off, rfl, _, hl, hc⟩ := h.int hlt
      have d : (xs[k] == x) = false := by
        rw [beq_eq_false_iff_ne]
        intro e
        exact HX.out (e ▸ List.getElem_mem hl)
      go_wp2
      exact ⟨⟨k + 1, by omega, by go_num⟩, by simp [intOf]; omega⟩
    · go_wp2
      go_ret
      exact ⟨rfl, rfl⟩
end Go.Proofs.Ytohlcopnifmjoae
