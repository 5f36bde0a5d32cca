/- bus: the reference's rows: New, Push, Pop. -/
import Derived.Test.YtohlcopnifmjoacNames
import Derived.Deep.DeepCutAuto
import Derived.Deep.RegionHeld3
import Derived.Deep.RegionLaw
namespace Go.Proofs.Ytohlcopnifmjoac
open Go.RowKit

theorem i64_info : (Try.prog.info? 3).map (fun i => (i.zero, i.size, i.bytes)) = some (some (.int .i64 0), 1, 8) := by kernel_rfl
theorem i64_ty : Ty1 Try.prog 39 3 (.int .i64 0) 8 := ⟨Try.underlying39, by obtain ⟨i, h⟩ := info_parts i64_info; exact ⟨i, h⟩, rfl⟩

/-- a slice of numbers whose block is of numbers -/
structure RRow (w : World) (A : Option Addr) (n c : Nat) (L : List Int) : Prop where
  hr : Reads w w.heap.size 1 A n (ints L)
  ht : ∀ ad, A = some ad → ∃ cs m, w.heap[ad.block]? = some (.cells cs 3 m)
  hc : n ≤ c
section
variable {w w' : World} {A : Option Addr} {n c : Nat} {L : List Int}
theorem RRow.keep (h : RRow w A n c L) (hs : w.heap.size ≤ w'.heap.size) (hk : ∀ (k : Nat) (cs : Array Value) (m : Nat × Nat), w.heap[k]? = some (Obj.cells cs 3 m) → w'.heap[k]? = w.heap[k]?) : RRow w' A n c L := by
  refine ⟨⟨h.hr.1, fun hn => ?_⟩, fun ad e => ?_, h.hc⟩
  · obtain ⟨ad, e, hb, hc⟩ := h.hr.2 hn
    obtain ⟨cs, m, ht⟩ := h.ht ad e
    refine ⟨ad, e, by omega, fun j u hu => (World.cell?_of_block ?_).trans (hc j u hu)⟩
    rw [block_of_add]
    exact hk _ _ _ ht
  · obtain ⟨cs, m, ht⟩ := h.ht ad e
    exact ⟨cs, m, (hk _ _ _ ht).trans ht⟩
theorem RRow.over (h : RRow w A n c L) (hb : Below w.heap.size w w') : RRow w' A n c L := h.keep hb.size fun _ _ _ hk => hb.block _ (heap_lt hk)
theorem RRow.alloc (h : RRow w A n c L) (o : Obj) : RRow (w.alloc o) A n c L := h.over ((Below.refl _ _).alloc (Nat.le_refl _) _)
theorem RRow.drew (h : RRow w A n c L) : RRow w.drew A n c L := h.keep (Nat.le_refl _) fun _ _ _ _ => rfl
theorem RRow.drewN (h : RRow w A n c L) (k : Nat) : RRow (w.drewN k) A n c L := h.keep (Nat.le_refl _) fun _ _ _ _ => rfl
theorem RRow.set_ (h : RRow w A n c L) {q : Nat} {t : TypeId} {cs : Array Value} (hq : Blk w q t cs) (ht : t ≠ 3) (o : Nat) (u : Value) : RRow (w.setCell ⟨q, o, none⟩ u) A n c L := by
  refine h.keep (by simp) fun k cs' m hk => Below.heap_setCell _ _ _ _ ?_
  rintro rfl
  unfold Blk at hq
  rw [hk] at hq
  injection hq with hq
  injection hq with _ h2 _
  exact ht h2.symm
theorem RRow.fr {O : Nat → Prop} (h : RRow w A n c L) (hf : Fr O w w') (ho : ∀ k, O k → ∃ cap buf cl s r, w.heap[k]? = some (.chan cap buf cl s r false)) : RRow w' A n c L := by
  refine h.keep hf.size fun k cs m hk => hf.block k (heap_lt hk) fun hO => ?_
  obtain ⟨cap, buf, cl, s, r, hc⟩ := ho k hO
  rw [hk] at hc
  injection hc with hc
  cases hc
theorem RRow.len (h : RRow w A n c L) : L.length = n := h.hr.ilen
theorem RRow.nil (w : World) : RRow w none 0 0 [] := ⟨Reads.none_, fun ad h => (by cases h), Nat.le_refl _⟩
theorem RRow.of_own {B : Nat} (h : w.ownsRow B 3 1 (.slice A n c) n (ints L)) : RRow w A n c L := by
  refine ⟨Reads.of_own h, fun ad e => ?_, own_le h⟩
  rcases h.2 with ⟨h', _⟩ | ⟨g, cap, cur, h', hb, hg, _⟩
  · simp at h'
    rw [h'.1] at e
    cases e
  · simp at h'
    rw [h'.1] at e
    injection e with e
    subst e
    exact ⟨_, _, hg⟩
/-- the first one -/
theorem RRow.first (h : RRow w A n c L) {x : Int} {r : List Int} (hl : L = x :: r) : ∃ b off, A = some ⟨b, off, none⟩ ∧ b < w.heap.size ∧ w.cell? ⟨b, off, none⟩ = some (.int .i64 x) := by
  have hn := h.len
  rw [hl] at hn
  simp at hn
  obtain ⟨b, off, e, hb, hl2, hc⟩ := h.hr.int (k := 0) (by omega)
  refine ⟨b, off, e, hb, ?_⟩
  rw [Nat.add_zero] at hc
  rw [hc]
  simp [hl]
/-- what is behind the first one -/
theorem RRow.tail (h : RRow w A n c L) {x : Int} {r : List Int} (hl : L = x :: r) {b off : Nat} (ha : A = some ⟨b, off, none⟩) (h1 : c ≠ 1) : RRow w (some ⟨b, off + 1, none⟩) (n - 1) (c - 1) r := by
  have hn := h.len
  rw [hl] at hn
  simp at hn
  have hc := h.hc
  have := h.hr.cut (k := 1) (cap := c) (by omega) hc
  rw [Nat.one_mul, hl, if_neg h1, ha] at this
  have e : (Option.some (⟨b, off, none⟩ : Addr)).map (·.add 1) = some ⟨b, off + 1, none⟩ := by simp [add_flat]
  rw [e] at this
  refine ⟨by simpa [ints] using this, fun ad e => ?_, by omega⟩
  injection e with e
  subst e
  obtain ⟨cs, m, ht⟩ := h.ht _ ha
  exact ⟨cs, m, ht⟩
theorem RRow.tail1 (h : RRow w A n 1 L) {x : Int} {r : List Int} (hl : L = x :: r) : n = 1 ∧ r = [] ∧ RRow w A 0 0 [] := by
  have hn := h.len
  rw [hl] at hn
  simp at hn
  have hc := h.hc
  have hr : r = [] := List.eq_nil_of_length_eq_zero (by omega)
  exact ⟨by omega, hr, ⟨⟨rfl, fun h => absurd h (by omega)⟩, h.ht, Nat.le_refl _⟩⟩
end

theorem blk3_0 {w : World} {g : Nat} {t : TypeId} {a b c : Value} (h : Blk w g t #[a, b, c]) : w.cell? ⟨g, 0, none⟩ = some a := (h.cell 0).trans rfl
theorem blk3_1 {w : World} {g : Nat} {t : TypeId} {a b c : Value} (h : Blk w g t #[a, b, c]) : w.cell? ⟨g, 1, none⟩ = some b := (h.cell 1).trans rfl
theorem blk3_2 {w : World} {g : Nat} {t : TypeId} {a b c : Value} (h : Blk w g t #[a, b, c]) : w.cell? ⟨g, 2, none⟩ = some c := (h.cell 2).trans rfl
theorem three_set {w : World} {g : Nat} {t : TypeId} {a b c : Value} (h : Blk w g t #[a, b, c]) (x y z : Value) : Blk (((w.setCell ⟨g, 0, none⟩ x).setCell ⟨g, 1, none⟩ y).setCell ⟨g, 2, none⟩ z) g t #[x, y, z] := by
  have := ((h.set_ 0 x).set_ 1 y).set_ 2 z
  simpa using this

theorem rnew_any (n : Int) (w : World) : Calls Try.prog 15 #[.int .i64 n] w fun e w' => e = .returned (.agg #[.slice none 0 0, .int .i64 (capQ n : Nat), .bool false]) ∧ Below w.heap.size w w' := by
  have B1 := Lib.hid ((Below.refl w.heap.size w).alloc (Nat.le_refl _) (.cells #[.slice none 0 0, .int .i64 (capQ n : Nat), .bool false] 41))
  by_cases h1 : n < 1
  · have HC : Hid (capQ n = 1) := by unfold capQ; rw [if_pos h1]; trivial
    rw [HC.out] at B1 ⊢
    go_enter Try.func15, Try.ntmps15
    go_wp2_with fail
    exact bodyPost_ret (v := .agg #[.slice none 0 0, .int .i64 1, .bool false]) (by simp [results, Try.results15, go_sem]) rfl ⟨rfl, B1.out⟩
  by_cases h2 : 4096 < n
  · have HC : Hid (capQ n = 4096) := by unfold capQ; rw [if_neg h1, if_pos h2]; trivial
    rw [HC.out] at B1 ⊢
    go_enter Try.func15, Try.ntmps15
    go_wp2_with fail
    exact bodyPost_ret (v := .agg #[.slice none 0 0, .int .i64 4096, .bool false]) (by simp [results, Try.results15, go_sem]) rfl ⟨rfl, B1.out⟩
  obtain ⟨k, rfl⟩ := Int.eq_ofNat_of_zero_le (by omega : 0 ≤ n)
  have HC : Hid (capQ (k : Int) = k) := by unfold capQ; rw [if_neg h1, if_neg h2]; exact Int.toNat_natCast k
  rw [HC.out] at B1 ⊢
  go_enter Try.func15, Try.ntmps15
  go_wp2_with fail
  exact bodyPost_ret (v := .agg #[.slice none 0 0, .int .i64 (k : Int), .bool false]) (by simp [results, Try.results15, go_sem]) rfl ⟨rfl, B1.out⟩

/-- how the world lies behind the entry of a function that takes a row and has one for a result -/
structure St1 (w W : World) (A : Option Addr) (n c : Nat) (S : Int) (C : Bool) (L : List Int) (x q : Nat) (r0 r1 r2 : Value) : Prop where
  row : RRow W A n c L
  kx : Blk W x 41 #[.slice A n c, .int .i64 S, .bool C]
  kq : Blk W q 41 #[r0, r1, r2]
  hx : w.heap.size ≤ x
  hq : w.heap.size ≤ q
  hne : x ≠ q
  hb : Below w.heap.size w W
theorem st1 (w : World) (A : Option Addr) (n c : Nat) (S : Int) (C : Bool) (L : List Int) (h : RRow w A n c L) :
    St1 w ((w.alloc (.cells #[.slice A n c, .int .i64 S, .bool C] 41)).alloc (.cells #[.slice none 0 0, .int .i64 0, .bool false] 41)) A n c S C L w.heap.size (w.heap.size + 1) (.slice none 0 0) (.int .i64 0) (.bool false) := by
  refine ⟨(h.alloc _).alloc _, (Blk.new w 41 _).alloc _, ?_, Nat.le_refl _, Nat.le_succ _, by omega, ((Below.refl _ _).alloc (Nat.le_refl _) _).alloc (by simp) _⟩
  have := Blk.new (w.alloc (.cells #[.slice A n c, .int .i64 S, .bool C] 41)) 41 #[.slice none 0 0, .int .i64 0, .bool false]
  rw [World.size_alloc] at this
  exact this
section
variable {w W : World} {A : Option Addr} {n c : Nat} {S : Int} {C : Bool} {L : List Int} {x q : Nat} {r0 r1 r2 : Value} {A' : Option Addr} {n' c' : Nat} {L' : List Int}
/-- the result is written -/
theorem St1.res (h : St1 w W A n c S C L x q r0 r1 r2) (R : RRow W A' n' c' L') (u v y : Value) :
    RRow (((W.setCell ⟨q, 0, none⟩ u).setCell ⟨q, 1, none⟩ v).setCell ⟨q, 2, none⟩ y) A' n' c' L' ∧ Blk (((W.setCell ⟨q, 0, none⟩ u).setCell ⟨q, 1, none⟩ v).setCell ⟨q, 2, none⟩ y) q 41 #[u, v, y] ∧ Below w.heap.size w (((W.setCell ⟨q, 0, none⟩ u).setCell ⟨q, 1, none⟩ v).setCell ⟨q, 2, none⟩ y) := by
  have k1 := h.kq.set_ 0 u
  have k2 := k1.set_ 1 v
  exact ⟨((R.set_ h.kq (by decide) 0 u).set_ k1 (by decide) 1 v).set_ k2 (by decide) 2 y, three_set h.kq u v y, ((h.hb.setCell (p := ⟨q, 0, none⟩) h.hq u).setCell (p := ⟨q, 1, none⟩) h.hq v).setCell (p := ⟨q, 2, none⟩) h.hq y⟩
theorem St1.over {W' : World} (h : St1 w W A n c S C L x q r0 r1 r2) (hb : Below W.heap.size W W') : St1 w W' A n c S C L x q r0 r1 r2 :=
  ⟨h.row.over hb, h.kx.below hb h.kx.lt, h.kq.below hb h.kq.lt, h.hx, h.hq, h.hne, h.hb.trans (hb.mono h.hb.size)⟩
/-- a cell of the argument's own copy is written -/
theorem St1.arg (h : St1 w W A n c S C L x q r0 r1 r2) (R : RRow W A' n' c' L') :
    St1 w (W.setCell ⟨x, 0, none⟩ (.slice A' n' c')) A' n' c' S C L' x q r0 r1 r2 := by
  have k := h.kx.set_ 0 (.slice A' n' c')
  exact ⟨R.set_ h.kx (by decide) 0 _, by simpa using k, h.kq.far (p := ⟨x, 0, none⟩) (fun e => h.hne e.symm) _, h.hx, h.hq, h.hne, h.hb.setCell (p := ⟨x, 0, none⟩) h.hx _⟩
end
set_option maxRecDepth 100000 in
set_option maxHeartbeats 1000000 in
theorem rpop_some (A : Option Addr) (n c : Nat) (S : Int) (C : Bool) (x : Int) (r : List Int) (hn : n ≤ 4096) (w : World) (h : RRow w A n c (x :: r)) :
    Calls Try.prog 30 #[.agg #[.slice A n c, .int .i64 S, .bool C]] w fun e w' => ∃ A' n' c', e = .returned (.tuple #[.agg #[.slice A' n' c', .int .i64 S, .bool C], .int .i64 x, .bool true]) ∧ RRow w' A' n' c' r ∧ Below w.heap.size w w' := by
  have hl := h.len
  simp at hl
  obtain ⟨b, off, rfl, hb, _⟩ := h.first rfl
  have hcn := h.hc
  have ST := Lib.hid (st1 w _ n c S C _ h)
  clear h
  go_enter Try.func30, Try.ntmps30
  go_upto_region 1 with (fail)
  generalize (w.alloc (.cells #[.slice (some ⟨b, off, none⟩) n c, .int .i64 S, .bool C] 41)).alloc (.cells #[.slice none 0 0, .int .i64 0, .bool false] 41) = W at ST ⊢
  generalize w.heap.size + 1 = q at ST ⊢
  generalize w.heap.size = z at ST ⊢
  obtain ⟨_, _, he, _, hc0⟩ := ST.out.row.first rfl
  obtain ⟨rfl, rfl⟩ : _ ∧ _ := by simpa using he
  have x0 := blk3_0 ST.out.kx
  have x1 := blk3_1 ST.out.kx
  have x2 := blk3_2 ST.out.kx
  have q0 := blk3_0 ST.out.kq
  have q1 := blk3_1 ST.out.kq
  have q2 := blk3_2 ST.out.kq
  have y0 := ST.out.kx.frozen 0
  have z0 := ST.out.kq.frozen 0
  have z1 := ST.out.kq.frozen 1
  have z2 := ST.out.kq.frozen 2
  have hne := ST.out.hne
  by_cases h1 : c = 1
  · subst h1
    obtain ⟨rfl, rfl, RT⟩ := ST.out.row.tail1 rfl
    have RT := Lib.hid RT
    go_wp2_with fail
    have ⟨h3, h4, h5⟩ := (ST.out.arg RT.out).res (RT.out.set_ ST.out.kx (by decide) 0 _) (.slice (some ⟨b, off, none⟩) 0 0) (.int .i64 S) (.bool C)
    have e0 := blk3_0 h4
    have e1 := blk3_1 h4
    have e2 := blk3_2 h4
    exact bodyPost_ret (v := .tuple #[.agg #[.slice (some ⟨b, off, none⟩) 0 0, .int .i64 S, .bool C], .int .i64 x, .bool true]) (by simp [results, Try.results30, go_sem, e0, e1, e2]) rfl ⟨_, _, _, rfl, h3, h5⟩
  · have RT := Lib.hid (ST.out.row.tail rfl rfl h1)
    go_wp2_with fail
    have ⟨h3, h4, h5⟩ := (ST.out.arg RT.out).res (RT.out.set_ ST.out.kx (by decide) 0 _) (.slice (some ⟨b, off + 1, none⟩) (n - 1) (c - 1)) (.int .i64 S) (.bool C)
    have e0 := blk3_0 h4
    have e1 := blk3_1 h4
    have e2 := blk3_2 h4
    exact bodyPost_ret (v := .tuple #[.agg #[.slice (some ⟨b, off + 1, none⟩) (n - 1) (c - 1), .int .i64 S, .bool C], .int .i64 x, .bool true]) (by simp [results, Try.results30, go_sem, e0, e1, e2]) rfl ⟨_, _, _, rfl, h3, h5⟩
set_option maxRecDepth 100000 in
set_option maxHeartbeats 1000000 in
theorem rpop_none (A : Option Addr) (c : Nat) (S : Int) (C : Bool) (w : World) (h : RRow w A 0 c []) :
    Calls Try.prog 30 #[.agg #[.slice A 0 c, .int .i64 S, .bool C]] w fun e w' => e = .returned (.tuple #[.agg #[.slice A 0 c, .int .i64 S, .bool C], .int .i64 0, .bool false]) ∧ RRow w' A 0 c [] ∧ Below w.heap.size w w' := by
  have ST := Lib.hid (st1 w _ 0 c S C _ h)
  clear h
  go_enter Try.func30, Try.ntmps30
  go_upto_region 1 with (fail)
  generalize (w.alloc (.cells #[.slice A 0 c, .int .i64 S, .bool C] 41)).alloc (.cells #[.slice none 0 0, .int .i64 0, .bool false] 41) = W at ST ⊢
  generalize w.heap.size + 1 = q at ST ⊢
  generalize w.heap.size = z at ST ⊢
  have x0 := blk3_0 ST.out.kx
  have x1 := blk3_1 ST.out.kx
  have x2 := blk3_2 ST.out.kx
  have q0 := blk3_0 ST.out.kq
  have q1 := blk3_1 ST.out.kq
  have q2 := blk3_2 ST.out.kq
  have z0 := ST.out.kq.frozen 0
  have z1 := ST.out.kq.frozen 1
  have z2 := ST.out.kq.frozen 2
  have hne := ST.out.hne
  go_wp2_with fail
  have ⟨h3, h4, h5⟩ := ST.out.res ST.out.row (.slice A 0 c) (.int .i64 S) (.bool C)
  have e0 := blk3_0 h4
  have e1 := blk3_1 h4
  have e2 := blk3_2 h4
  exact bodyPost_ret (v := .tuple #[.agg #[.slice A 0 c, .int .i64 S, .bool C], .int .i64 0, .bool false]) (by simp [results, Try.results30, go_sem, e0, e1, e2]) rfl ⟨rfl, h3, h5⟩

set_option maxRecDepth 100000 in
set_option maxHeartbeats 1000000 in
theorem rpush_not (A : Option Addr) (n c : Nat) (S : Nat) (C : Bool) (L : List Int) (v : Int) (hno : C = true ∨ S ≤ n) (w : World) (h : RRow w A n c L) :
    Calls Try.prog 31 #[.agg #[.slice A n c, .int .i64 S, .bool C], .int .i64 v] w fun e w' => e = .returned (.tuple #[.agg #[.slice A n c, .int .i64 S, .bool C], .bool false]) ∧ RRow w' A n c L ∧ Below w.heap.size w w' := by
  have ST := Lib.hid (st1 w _ n c S C _ h)
  clear h
  go_enter Try.func31, Try.ntmps31
  go_upto_region 1 with (fail)
  generalize (w.alloc (.cells #[.slice A n c, .int .i64 S, .bool C] 41)).alloc (.cells #[.slice none 0 0, .int .i64 0, .bool false] 41) = W at ST ⊢
  generalize w.heap.size + 1 = q at ST ⊢
  generalize w.heap.size = z at ST ⊢
  have x0 := blk3_0 ST.out.kx
  have x1 := blk3_1 ST.out.kx
  have x2 := blk3_2 ST.out.kx
  have q0 := blk3_0 ST.out.kq
  have q1 := blk3_1 ST.out.kq
  have q2 := blk3_2 ST.out.kq
  have z0 := ST.out.kq.frozen 0
  have z1 := ST.out.kq.frozen 1
  have z2 := ST.out.kq.frozen 2
  have hne := ST.out.hne
  have ⟨h3, h4, h5⟩ := ST.out.res ST.out.row (.slice A n c) (.int .i64 S) (.bool C)
  have H3 := Lib.hid h3
  have H4 := Lib.hid h4
  have H5 := Lib.hid h5
  clear h3 h4 h5
  cases C with
  | true =>
    clear hno
    go_wp2_with fail
    have e0 := blk3_0 H4.out
    have e1 := blk3_1 H4.out
    have e2 := blk3_2 H4.out
    exact bodyPost_ret (v := .tuple #[.agg #[.slice A n c, .int .i64 S, .bool true], .bool false]) (by simp [results, Try.results31, go_sem, e0, e1, e2]) rfl ⟨rfl, H3.out, H5.out⟩
  | false =>
    have hge : (S : Int) ≤ (n : Int) := by
      rcases hno with hno | hno
      · cases hno
      · omega
    clear hno
    go_wp2_with fail
    have e0 := blk3_0 H4.out
    have e1 := blk3_1 H4.out
    have e2 := blk3_2 H4.out
    exact bodyPost_ret (v := .tuple #[.agg #[.slice A n c, .int .i64 S, .bool false], .bool false]) (by simp [results, Try.results31, go_sem, e0, e1, e2]) rfl ⟨rfl, H3.out, H5.out⟩

set_option maxRecDepth 100000 in
set_option maxHeartbeats 1000000 in
theorem rpush_room (A : Option Addr) (n c : Nat) (S : Nat) (L : List Int) (v : Int) (hlt : n < S) (hn : n ≤ 5000) (w : World) (h : RRow w A n c L) :
    Calls Try.prog 31 #[.agg #[.slice A n c, .int .i64 S, .bool false], .int .i64 v] w fun e w' => ∃ A' c', e = .returned (.tuple #[.agg #[.slice A' (n + 1) c', .int .i64 S, .bool false], .bool true]) ∧ RRow w' A' (n + 1) c' (L ++ [v]) ∧ Below w.heap.size w w' := by
  have ST := Lib.hid (st1 w _ n c S false _ h)
  clear h
  go_enter Try.func31, Try.ntmps31
  go_upto_region 1 with (fail)
  generalize (w.alloc (.cells #[.slice A n c, .int .i64 S, .bool false] 41)).alloc (.cells #[.slice none 0 0, .int .i64 0, .bool false] 41) = W at ST ⊢
  generalize w.heap.size + 1 = q at ST ⊢
  generalize w.heap.size = z at ST ⊢
  have x0 := blk3_0 ST.out.kx
  have x1 := blk3_1 ST.out.kx
  have x2 := blk3_2 ST.out.kx
  have hlt' : ¬ (S : Int) ≤ (n : Int) := by omega
  have ba : Below W.heap.size W (W.alloc (.cells #[] 3)) := (Below.refl _ _).alloc (Nat.le_refl _) _
  have OA := Lib.hid (World.ownsRow_made (e := 3) (size := 1) (base := W.heap.size) W #[] 0 (Nat.le_refl _) (by simp) (by simp))
  have BA := Lib.hid ba
  have STA := Lib.hid (ST.out.over ba)
  have hz1 : z ≠ W.heap.size := Nat.ne_of_lt ST.out.kx.lt
  have hz2 : z < W.heap.size := ST.out.kx.lt
  have hne := ST.out.hne
  clear ba
  go_wp2_with (at_builtin
               go_must (first
                 | (refine wpList_app1 _ i64_ty rfl (.tmp 17) (.tmp 19) rfl rfl BA.out OA.out rfl STA.out.row.hr (ints_one L) (by unfold maxLen; omega) (by omega) ?_
                    intro A4 c4 w4 b4 own4 _ _
                    rw [List.nil_append, Nat.zero_add] at own4
                    have O4 := Lib.hid (own4.alloc (.cells #[.int .i64 v] 3))
                    have B4 := Lib.hid (b4.alloc b4.size (.cells #[.int .i64 v] 3))
                    have R4 := Lib.hid (reads_new w4 3 (0, 0) [.int .i64 v])
                    have x0 := blk3_0 (ST.out.over b4).kx
                    have x1 := blk3_1 (ST.out.over b4).kx
                    have x2 := blk3_2 (ST.out.over b4).kx
                    clear own4 b4)
                 | (refine wpList_app1 _ i64_ty rfl (.tmp 20) (.tmp 22) rfl rfl B4.out O4.out rfl R4.out (ints_one [v]) (by unfold maxLen; omega) (by omega) ?_
                    intro A5 c5 w5 b5 own5 _ _
                    have R5 := Lib.hid (RRow.of_own (L := L ++ [v]) (by rw [← ints_append]; exact own5))
                    have ST5 := Lib.hid (ST.out.over b5)
                    have x0 := blk3_0 ST5.out.kx
                    have x1 := blk3_1 ST5.out.kx
                    have x2 := blk3_2 ST5.out.kx
                    have y0 := ST5.out.kx.frozen 0
                    have q0 := blk3_0 ST5.out.kq
                    have q1 := blk3_1 ST5.out.kq
                    have q2 := blk3_2 ST5.out.kq
                    have z0 := ST5.out.kq.frozen 0
                    have z1 := ST5.out.kq.frozen 1
                    have z2 := ST5.out.kq.frozen 2
                    clear own5 b5)))
  have ⟨h3, h4, h5⟩ := (ST5.out.arg R5.out).res (R5.out.set_ ST5.out.kx (by decide) 0 _) (.slice A5 (n + 1) c5) (.int .i64 S) (.bool false)
  have e0 := blk3_0 h4
  have e1 := blk3_1 h4
  have e2 := blk3_2 h4
  exact bodyPost_ret (v := .tuple #[.agg #[.slice A5 (n + 1) c5, .int .i64 S, .bool false], .bool true]) (by simp [results, Try.results31, go_sem, e0, e1, e2]) rfl ⟨_, _, rfl, h3, h5⟩
end Go.Proofs.Ytohlcopnifmjoac
