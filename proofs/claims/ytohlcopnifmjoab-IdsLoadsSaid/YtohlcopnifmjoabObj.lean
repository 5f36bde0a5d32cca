/- ids: the object in memory; the walks that only read it: At, Alive. -/
import Derived.Test.YtohlcopnifmjoabBase
namespace Go.Proofs.Ytohlcopnifmjoab
open Go.RowKit

theorem slot_info : (Try.prog.info? 68).map (fun i => (i.zero, i.size, i.bytes)) = some (some (.agg #[.int .i64 0, .bool false]), 2, 16) := by kernel_rfl
theorem slot_ty : TyN Try.prog 55 68 (.agg #[.int .i64 0, .bool false]) 2 16 := ⟨Try.underlying55, by obtain ⟨i, h⟩ := info_parts slot_info; exact ⟨i, h⟩, rfl, by decide⟩

def flatI (s : Sl) : List Value := s.flatMap fun x => [.int .i64 x.1, .bool x.2]
theorem flatI_length (s : Sl) : (flatI s).length = s.length * 2 := by
  induction s with
  | nil => rfl
  | cons x s ih => simp [flatI] at ih ⊢; omega
theorem flatI_append (s t : Sl) : flatI s ++ flatI t = flatI (s ++ t) := by simp [flatI]
theorem flatI_one (s : Sl) : ∀ u ∈ flatI s, u.oneCell' = true := by
  intro u hu
  simp only [flatI, List.mem_flatMap, List.mem_cons, List.not_mem_nil, or_false] at hu
  obtain ⟨y, _, rfl | rfl⟩ := hu <;> rfl
theorem flatI_get {s : Sl} {k : Nat} {x : Int × Bool} (h : s[k]? = some x) : (flatI s)[k * 2]? = some (.int .i64 x.1) ∧ (flatI s)[k * 2 + 1]? = some (.bool x.2) := by
  induction s generalizing k with
  | nil => simp at h
  | cons y s ih =>
    rcases k with _ | k
    · simp at h
      subst h
      simp [flatI]
    · have := ih (by simpa using h)
      simp only [flatI, List.flatMap_cons] at this ⊢
      rw [show (k + 1) * 2 = k * 2 + 2 from by omega]
      simpa using this
theorem flatI_set2 {s : Sl} {k : Nat} {x : Int × Bool} (h : s[k]? = some x) (b : Bool) : (flatI s).set (k * 2 + 1) (.bool b) = flatI (s.set k (x.1, b)) := by
  induction s generalizing k with
  | nil => simp at h
  | cons y s ih =>
    rcases k with _ | k
    · simp at h
      subst h
      simp [flatI]
    · have := ih (by simpa using h)
      simp only [flatI, List.flatMap_cons] at this ⊢
      rw [show (k + 1) * 2 + 1 = k * 2 + 1 + 2 from by omega]
      simpa using this
theorem flatI_set12 {s : Sl} {k : Nat} {x : Int × Bool} (h : s[k]? = some x) (g : Int) (b : Bool) : ((flatI s).set (k * 2) (.int .i64 g)).set (k * 2 + 1) (.bool b) = flatI (s.set k (g, b)) := by
  induction s generalizing k with
  | nil => simp at h
  | cons y s ih =>
    rcases k with _ | k
    · simp at h
      subst h
      simp [flatI]
    · have := ih (by simpa using h)
      simp only [flatI, List.flatMap_cons] at this ⊢
      rw [show (k + 1) * 2 = k * 2 + 2 from by omega]
      simpa using this

theorem own_map (A : Option Addr) (n c : Nat) : (Value.slice A n c).ownBlock = A.map (·.block) := by cases A <;> rfl

/-- what may turn: the blocks of O, and new ones -/
structure Fr (O : Nat → Prop) (w w' : World) : Prop where
  os : w'.os = w.os
  tape : w'.tape = w.tape
  output : w'.output = w.output
  size : w.heap.size ≤ w'.heap.size
  block : ∀ k, k < w.heap.size → ¬ O k → w'.heap[k]? = w.heap[k]?
section
variable {O : Nat → Prop} {w w' w'' : World} {B : Nat}
theorem Fr.refl : Fr O w w := ⟨rfl, rfl, rfl, Nat.le_refl _, fun _ _ _ => rfl⟩
theorem Fr.of_below (h : Below w.heap.size w w') : Fr O w w' := ⟨h.os, h.tape, h.output, h.size, fun k hk _ => h.block k hk⟩
theorem Fr.trans (h : Fr O w w') (h' : Fr O w' w'') : Fr O w w'' :=
  ⟨h'.os.trans h.os, h'.tape.trans h.tape, h'.output.trans h.output, Nat.le_trans h.size h'.size, fun k hk hO => (h'.block k (Nat.lt_of_lt_of_le hk h.size) hO).trans (h.block k hk hO)⟩
theorem Fr.below (h : Fr O w w') (hO : ∀ k, O k → B ≤ k) (hB : B ≤ w.heap.size) : Below B w w' :=
  ⟨h.os, h.tape, h.output, h.size, fun k hk => h.block k (by omega) (fun ho => by have := hO k ho; omega)⟩
theorem Fr.drew (h : Fr O w w') : Fr O w w'.drew := ⟨h.os, h.tape, h.output, h.size, h.block⟩
theorem Fr.drewN (h : Fr O w w') (n : Nat) : Fr O w (w'.drewN n) := ⟨h.os, h.tape, h.output, h.size, h.block⟩
theorem Fr.alloc (h : Fr O w w') (o : Obj) : Fr O w (w'.alloc o) := h.trans (Fr.of_below ((Below.refl _ _).alloc (Nat.le_refl _) _))
/-- a cell is written in a block of O or a new one -/
theorem Fr.set_ (h : Fr O w w') {p : Addr} (hp : O p.block ∨ w.heap.size ≤ p.block) (u : Value) : Fr O w (w'.setCell p u) :=
  ⟨h.os, h.tape, h.output, by simpa using h.size, fun k hk hO => (Below.heap_setCell w' p u k (fun e => by subst e; rcases hp with hp | hp; exact hO hp; omega)).trans (h.block k hk hO)⟩
theorem Fr.grown (h : Fr O w w') {row : Option Nat} (hg : w'.grownBy w'' row) (hr : ∀ k, row = some k → O k ∨ w.heap.size ≤ k) : Fr O w w'' :=
  ⟨hg.os.trans h.os, hg.tape.trans h.tape, hg.output.trans h.output, Nat.le_trans h.size hg.size, fun k hk hO =>
    (hg.block k (Nat.lt_of_lt_of_le hk h.size) (fun e => by rcases hr k e.symm with ho | ho; exact hO ho; omega)).trans (h.block k hk hO)⟩
end

/-- the blocks of the object -/
def OwnK (x : Nat) (As Af : Option Addr) (k : Nat) : Prop := k = x ∨ As.map (·.block) = some k ∨ Af.map (·.block) = some k
/-- the object: its struct in block x, its slots, its free indexes -/
structure IObj (w : World) (B x E : Nat) (G : Int) (As : Option Addr) (cs : Nat) (Af : Option Addr) (cf : Nat) (s : Sl) (f : List Int) : Prop where
  hB : B ≤ x
  hx : Blk w x 57 #[.slice As s.length cs, .slice Af f.length cf, .int .i64 E, .int .i64 G]
  hs : w.ownsRow B 68 2 (.slice As s.length cs) s.length (flatI s)
  hf : w.ownsRow B 3 1 (.slice Af f.length cf) f.length (ints f)
section
variable {w w' : World} {B x E : Nat} {G : Int} {As : Option Addr} {cs : Nat} {Af : Option Addr} {cf : Nat} {s : Sl} {f : List Int}
theorem blk4_0 {g : Nat} {t : TypeId} {a b c d : Value} (h : Blk w g t #[a, b, c, d]) : w.cell? ⟨g, 0, none⟩ = some a := (h.cell 0).trans rfl
theorem blk4_1 {g : Nat} {t : TypeId} {a b c d : Value} (h : Blk w g t #[a, b, c, d]) : w.cell? ⟨g, 1, none⟩ = some b := (h.cell 1).trans rfl
theorem blk4_2 {g : Nat} {t : TypeId} {a b c d : Value} (h : Blk w g t #[a, b, c, d]) : w.cell? ⟨g, 2, none⟩ = some c := (h.cell 2).trans rfl
theorem blk4_3 {g : Nat} {t : TypeId} {a b c d : Value} (h : Blk w g t #[a, b, c, d]) : w.cell? ⟨g, 3, none⟩ = some d := (h.cell 3).trans rfl
theorem IObj.lt (h : IObj w B x E G As cs Af cf s f) : x < w.heap.size := h.hx.lt
theorem IObj.own (h : IObj w B x E G As cs Af cf s f) {k : Nat} (hk : OwnK x As Af k) : B ≤ k ∧ k < w.heap.size := by
  rcases hk with rfl | hk | hk
  · exact ⟨h.hB, h.lt⟩
  · exact h.hs.lt k (by rw [own_map]; exact hk)
  · exact h.hf.lt k (by rw [own_map]; exact hk)
theorem IObj.keep (h : IObj w B x E G As cs Af cf s f) (hk : ∀ k, OwnK x As Af k → w'.heap[k]? = w.heap[k]?) : IObj w' B x E G As cs Af cf s f := by
  refine ⟨h.hB, (hk x (.inl rfl)).trans h.hx, ⟨h.hs.1, ?_⟩, ⟨h.hf.1, ?_⟩⟩
  · rcases h.hs.2 with hn | ⟨g, cap, cur, hv, hb, hg, rest⟩
    · exact .inl hn
    · refine .inr ⟨g, cap, cur, hv, hb, (hk g (.inr (.inl ?_))).trans hg, rest⟩
      injection hv with hv
      rw [hv]; rfl
  · rcases h.hf.2 with hn | ⟨g, cap, cur, hv, hb, hg, rest⟩
    · exact .inl hn
    · refine .inr ⟨g, cap, cur, hv, hb, (hk g (.inr (.inr ?_))).trans hg, rest⟩
      injection hv with hv
      rw [hv]; rfl
theorem IObj.over (h : IObj w B x E G As cs Af cf s f) (hb : Below w.heap.size w w') : IObj w' B x E G As cs Af cf s f := h.keep fun _ hk => hb.block _ (h.own hk).2
theorem IObj.drew (h : IObj w B x E G As cs Af cf s f) : IObj w.drew B x E G As cs Af cf s f := h.keep fun _ _ => rfl
theorem IObj.drewN (h : IObj w B x E G As cs Af cf s f) (n : Nat) : IObj (w.drewN n) B x E G As cs Af cf s f := h.keep fun _ _ => rfl
/-- the slots' row -/
theorem IObj.slot (h : IObj w B x E G As cs Af cf s f) {k : Nat} {y : Int × Bool} (hk : s[k]? = some y) : ∃ g, As = some ⟨g, 0, none⟩ ∧ k < s.length ∧ B ≤ g ∧ g < w.heap.size ∧ w.cell? ⟨g, k * 2, none⟩ = some (.int .i64 y.1) ∧ w.cell? ⟨g, k * 2 + 1, none⟩ = some (.bool y.2) ∧ ∀ j, w.frozen? ⟨g, j, none⟩ = false := by
  have hl := (List.getElem?_eq_some_iff.1 hk).1
  obtain ⟨g, hA, hb, hlt⟩ := own_pos h.hs (by omega)
  have hs := h.hs
  rw [hA] at hs
  have := flatI_get hk
  exact ⟨g, hA, hl, hb, hlt, by rw [hs.cellAt (k * 2) (by omega), this.1], by rw [hs.cellAt (k * 2 + 1) (by omega), this.2], fun j => hs.frozenAt j⟩
theorem IObj.free (h : IObj w B x E G As cs Af cf s f) {k : Nat} {y : Int} (hk : f[k]? = some y) : ∃ g, Af = some ⟨g, 0, none⟩ ∧ k < f.length ∧ B ≤ g ∧ g < w.heap.size ∧ w.cell? ⟨g, k, none⟩ = some (.int .i64 y) ∧ ∀ j, w.frozen? ⟨g, j, none⟩ = false := by
  have hl := (List.getElem?_eq_some_iff.1 hk).1
  obtain ⟨g, hA, hb, hlt⟩ := own_pos h.hf (by omega)
  have hs := h.hf
  rw [hA] at hs
  exact ⟨g, hA, hl, hb, hlt, by rw [hs.cellAt k (by omega), ints_get hl]; rw [List.getElem?_eq_getElem hl] at hk; injection hk with hk; rw [hk], fun j => hs.frozenAt j⟩
/-- its three blocks differ -/
theorem IObj.ne_sx (h : IObj w B x E G As cs Af cf s f) {g : Nat} (hg : As = some ⟨g, 0, none⟩) : g ≠ x := by
  have := own_blk_ne h.hs h.hx (by decide)
  intro e
  apply this
  rw [own_map, hg, e]; rfl
theorem IObj.ne_fx (h : IObj w B x E G As cs Af cf s f) {g : Nat} (hg : Af = some ⟨g, 0, none⟩) : g ≠ x := by
  have := own_blk_ne h.hf h.hx (by decide)
  intro e
  apply this
  rw [own_map, hg, e]; rfl
theorem IObj.ne_sf (h : IObj w B x E G As cs Af cf s f) {g g' : Nat} (hg : As = some ⟨g, 0, none⟩) (hg' : Af = some ⟨g', 0, none⟩) : g ≠ g' := by
  have h1 := h.hs.2
  rcases h1 with ⟨h', _⟩ | ⟨g1, cap, cur, h', _, hh, _⟩
  · rw [hg] at h'; simp at h'
  · rw [hg] at h'
    simp at h'
    obtain ⟨rfl, _⟩ := h'
    have := own_blk_ne h.hf (g := g) (t := 68) (cs := cur) hh (by decide)
    intro e
    apply this
    rw [own_map, hg', e]; rfl
end

theorem code_any (e : Int) (w : World) : Calls Try.prog 15 #[.int .i64 e] w fun en w' => en = .returned (.int .i64 e) ∧ w = w' := by
  go_enter Try.func15, Try.ntmps15
  go_wp2
  go_ret
  exact ⟨rfl, rfl⟩

/-- what At tells -/
def idV (a b : Int) : Value := .agg #[.int .i64 a, .int .i64 b]
def atV (s : Sl) (i : Int) : Value := match atL s i with
  | some g => .tuple #[.agg #[.int .i64 i, .int .i64 g], .bool true]
  | none => .tuple #[.agg #[.int .i64 0, .int .i64 0], .bool false]

set_option maxHeartbeats 1000000 in
theorem at_any (B x E : Nat) (G : Int) (As : Option Addr) (cs : Nat) (Af : Option Addr) (cf : Nat) (s : Sl) (f : List Int) (i : Int) (w : World) (h : IObj w B x E G As cs Af cf s f) :
    Calls Try.prog 21 #[.pointer (some ⟨x, 0, none⟩), .int .i64 i] w fun e w' => e = .returned (atV s i) ∧ Below w.heap.size w w' := by
  have c0 := blk4_0 h.hx
  have lx := h.lt
  by_cases h0 : 0 ≤ i
  · by_cases h1 : i < s.length
    · obtain ⟨k, rfl⟩ := Int.eq_ofNat_of_zero_le h0
      have hk : k < s.length := by omega
      obtain ⟨⟨g, al⟩, hy⟩ : ∃ y, s[k]? = some y := ⟨_, List.getElem?_eq_getElem hk⟩
      obtain ⟨gs, rfl, _, _, hgl, hc0, hc1, _⟩ := h.slot hy
      dsimp only at hc0 hc1
      have HY := Lib.hid hy
      clear h hy
      cases al with
      | true =>
        have HV : Hid (atV s (k : Int) = .tuple #[.agg #[.int .i64 k, .int .i64 g], .bool true]) := by unfold atV; rw [atL_of HY.out]; trivial
        go_enter Try.func21, Try.ntmps21
        go_wp2_with fail
        exact bodyPost_ret (v := .tuple #[.agg #[.int .i64 k, .int .i64 g], .bool true]) (by simp [results, Try.results21, go_sem]) rfl ⟨by rw [HV.out], (Below.refl _ _).alloc (Nat.le_refl _) _⟩
      | false =>
        have HV : Hid (atV s (k : Int) = .tuple #[.agg #[.int .i64 0, .int .i64 0], .bool false]) := by unfold atV; rw [atL_not HY.out]; trivial
        go_enter Try.func21, Try.ntmps21
        go_wp2_with fail
        exact bodyPost_ret (v := .tuple #[.agg #[.int .i64 0, .int .i64 0], .bool false]) (by simp [results, Try.results21, go_sem]) rfl ⟨by rw [HV.out], (Below.refl _ _).alloc (Nat.le_refl _) _⟩
    · have HV : Hid (atV s i = .tuple #[.agg #[.int .i64 0, .int .i64 0], .bool false]) := by unfold atV; rw [atL_out (by omega)]; trivial
      clear h
      go_enter Try.func21, Try.ntmps21
      go_wp2_with fail
      exact bodyPost_ret (v := .tuple #[.agg #[.int .i64 0, .int .i64 0], .bool false]) (by simp [results, Try.results21, go_sem]) rfl ⟨by rw [HV.out], (Below.refl _ _).alloc (Nat.le_refl _) _⟩
  · have HV : Hid (atV s i = .tuple #[.agg #[.int .i64 0, .int .i64 0], .bool false]) := by unfold atV; rw [atL_out (by omega)]; trivial
    have d : decide (i < 0) = true := by simp; omega
    clear h
    go_enter Try.func21, Try.ntmps21
    go_wp2_with fail
    exact bodyPost_ret (v := .tuple #[.agg #[.int .i64 0, .int .i64 0], .bool false]) (by simp [results, Try.results21, go_sem]) rfl ⟨by rw [HV.out], (Below.refl _ _).alloc (Nat.le_refl _) _⟩

set_option maxHeartbeats 1000000 in
theorem alive_any (B x E : Nat) (G : Int) (As : Option Addr) (cs : Nat) (Af : Option Addr) (cf : Nat) (s : Sl) (f : List Int) (i g : Int) (w : World) (h : IObj w B x E G As cs Af cf s f) :
    Calls Try.prog 9 #[.pointer (some ⟨x, 0, none⟩), .agg #[.int .i64 i, .int .i64 g]] w fun e w' => e = .returned (.bool (aliveB s i g)) ∧ Below w.heap.size w w' := by
  have B1 := Lib.hid (((Below.refl w.heap.size w).alloc (Nat.le_refl _) (.cells #[.int .i64 i, .int .i64 g] 28)))
  have H1 := Lib.hid (h.over B1.out)
  have hb := Blk.new w 28 #[.int .i64 i, .int .i64 g]
  have HB := Lib.hid hb
  clear h hb
  go_enter Try.func9, Try.ntmps9
  go_wp2_with fail
  refine (at_any _ _ _ _ _ _ _ _ _ _ i _ H1.out).mono ?_
  rintro e1 w1 ⟨rfl, hb1⟩
  have k0 := blk0 (HB.out.below hb1 HB.out.lt)
  have k1 := blk1 (HB.out.below hb1 HB.out.lt)
  have l1 := (HB.out.below hb1 HB.out.lt).lt
  have l2 : w.heap.size ≠ w1.heap.size := Nat.ne_of_lt l1
  have B2 := Lib.hid (B1.out.trans (hb1.mono B1.out.size))
  clear hb1
  cases ha : atL s i with
  | none =>
    have HV : Hid (atV s i = .tuple #[.agg #[.int .i64 0, .int .i64 0], .bool false]) := by unfold atV; rw [ha]; trivial
    have HA : Hid (aliveB s i g = false) := by unfold aliveB; rw [ha]; simp; trivial
    clear ha
    rw [HV.out]
    go_wp2_with fail
    go_ret
    exact ⟨ret_bool HA.out.symm, B2.out.alloc B2.out.size _⟩
  | some g' =>
    have HV : Hid (atV s i = .tuple #[.agg #[.int .i64 i, .int .i64 g'], .bool true]) := by unfold atV; rw [ha]; trivial
    have HA : Hid (aliveB s i g = decide (g' = g)) := by unfold aliveB; rw [ha]; simp only [Option.some.injEq]; trivial
    clear ha
    rw [HV.out]
    by_cases hg : g' = g
    · subst hg
      go_wp2_with fail
      go_ret
      exact ⟨ret_bool (by rw [HA.out]; simp), B2.out.alloc B2.out.size _⟩
    · have d : (g' == g) = false := by rw [beq_eq_false_iff_ne]; exact hg
      have HG := Lib.hid hg
      clear hg
      go_wp2_with fail
      go_ret
      exact ⟨ret_bool (by rw [HA.out]; simp [HG.out]), B2.out.alloc B2.out.size _⟩
end Go.Proofs.Ytohlcopnifmjoab
