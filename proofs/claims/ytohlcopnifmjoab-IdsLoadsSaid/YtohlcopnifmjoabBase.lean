/- ids: words for the walks: integers, struct blocks, appends of elements of more cells, a clone. -/
import Derived.Test.YtohlcopnifmjoabRows
import Derived.Test.YtohlcopnifmjoabWords
import Derived.Test.YtohlcopnifmjoabSpec
import Derived.WalkKit
import Derived.ProofKit
import Derived.WalkLawsBesides
import Derived.WalkSpells
import Derived.Outline
import Derived.Lib.Hide
import Derived.Deep.DeepMust
import Derived.Deep.QuietTactic
import Derived.BigQuiet
namespace Go.Proofs.Ytohlcopnifmjoab
open Go.RowKit

def ints (xs : List Int) : List Value := xs.map (Value.int .i64)
theorem ints_length (xs : List Int) : (ints xs).length = xs.length := by simp [ints]
theorem ints_get {xs : List Int} {k : Nat} (h : k < xs.length) : (ints xs)[k]? = some (.int .i64 xs[k]) := by simp [ints, h]
theorem ints_one (xs : List Int) : ∀ u ∈ ints xs, u.oneCell' = true := by
  intro u hu
  simp [ints] at hu
  obtain ⟨z, _, rfl⟩ := hu
  rfl
theorem ints_append (xs ys : List Int) : ints xs ++ ints ys = ints (xs ++ ys) := by simp [ints]
theorem ints_set (xs : List Int) (k : Nat) (x : Int) : (ints xs).set k (.int .i64 x) = ints (xs.set k x) := by simp [ints, List.map_set]
def i64ok (x : Int) : Prop := -9223372036854775808 ≤ x ∧ x ≤ 9223372036854775807
theorem ret_bool {a b : Bool} (h : a = b) : Ending.returned (.bool a) = Ending.returned (.bool b) := by rw [h]
theorem ret_int {k : IntKind} {a b : Int} (h : a = b) : Ending.returned (.int k a) = Ending.returned (.int k b) := by rw [h]
theorem ret_tup {a b : Int} {c d : Bool} (h : a = b) (k : c = d) : Ending.returned (.tuple #[.int .i64 a, .bool c]) = Ending.returned (.tuple #[.int .i64 b, .bool d]) := by rw [h, k]
theorem add_flat (b off j : Nat) : (⟨b, off, none⟩ : Addr).add j = ⟨b, off + j, none⟩ := by unfold Addr.add; split <;> simp_all
theorem new_cell (w : World) (cs : Array Value) (t : TypeId) (j : Nat) : (w.alloc (.cells cs t)).cell? ⟨w.heap.size, j, none⟩ = cs[j]? := (Blk.new w t cs).cell j
theorem reads_new (w : World) (t : TypeId) (m : Nat × Nat) (xs : List Value) : Reads (w.alloc (.cells xs.toArray t m)) (w.heap.size + 1) 1 (some ⟨w.heap.size, 0, none⟩) xs.length xs := by
  refine ⟨by simp, fun _ => ⟨_, rfl, by simp, fun j u hu => ?_⟩⟩
  rw [add_flat, Nat.zero_add]
  have := cell_of_row (w.alloc (.cells xs.toArray t m)) w.heap.size j xs.toArray t m (heap_alloc_new w _)
  rw [this]
  simpa using hu
/-- a slice of integers: element k -/
theorem Reads.int {w : World} {B : Nat} {A : Option Addr} {n : Nat} {xs : List Int} (h : Reads w B 1 A n (ints xs)) {k : Nat} (hk : k < n) : ∃ b off, A = some ⟨b, off, none⟩ ∧ b < B ∧ ∃ hl : k < xs.length, w.cell? ⟨b, off + k, none⟩ = some (.int .i64 xs[k]) := by
  have hl : xs.length = n := by have := h.1; rw [ints_length] at this; omega
  obtain ⟨ad, e, hb, hc⟩ := h.2 (by omega)
  have h0 := hc 0 _ (ints_get (by omega : 0 < xs.length))
  obtain ⟨b, off, spot⟩ := ad
  have hspot : spot = none := by simpa [Addr.add] using World.cell?_spot h0
  subst hspot
  have hk' : k < xs.length := by omega
  have := hc k _ (ints_get hk')
  rw [add_flat] at this
  exact ⟨b, off, e, hb, hk', this⟩
theorem Reads.ilen {w : World} {B : Nat} {A : Option Addr} {n : Nat} {xs : List Int} (h : Reads w B 1 A n (ints xs)) : xs.length = n := by have := h.1; rw [ints_length] at this; omega

theorem two_set {w : World} {g : Nat} {t : TypeId} {a b : Value} (h : Blk w g t #[a, b]) (x y : Value) : Blk ((w.setCell ⟨g, 0, none⟩ x).setCell ⟨g, 1, none⟩ y) g t #[x, y] := by
  have := (h.set_ 0 x).set_ 1 y
  simpa using this
theorem one_set {w : World} {g : Nat} {t : TypeId} {a b : Value} (h : Blk w g t #[a, b]) (y : Value) : Blk (w.setCell ⟨g, 1, none⟩ y) g t #[a, y] := by
  have := h.set_ 1 y
  simpa using this
theorem blk0 {w : World} {g : Nat} {t : TypeId} {a b : Value} (h : Blk w g t #[a, b]) : w.cell? ⟨g, 0, none⟩ = some a := (h.cell 0).trans rfl
theorem blk1 {w : World} {g : Nat} {t : TypeId} {a b : Value} (h : Blk w g t #[a, b]) : w.cell? ⟨g, 1, none⟩ = some b := (h.cell 1).trans rfl

/-- an element type of 'size' cells -/
structure TyN (P : Program) (t e : TypeId) (z : Value) (size bytes : Nat) : Prop where
  ht : P.underlying t = some (.slice e)
  hi : ∃ i, P.info? e = some i ∧ i.zero = some z ∧ i.size = size ∧ i.bytes = bytes
  hz : z.cells.size = size
  hs : 0 < size
/-- an append of a slice onto a row of the call's own, elements of 'size' cells -/
theorem wpList_appN {P : Program} (w : World) {ops : Array Oper} {rest : List Oper} {o : Oper} {a : Act} {Q : Exit → Act → World → Prop} {t e : TypeId} {z : Value} {size bytes : Nat} (T : TyN P t e z size bytes)
    (hw : Region.wanted o (yielded ops a.tmps) = true) (s x : Operand) (ho : o.op = .call { callee := .builtin .append, args := #[s, x], argTypes := #[t, t] })
    {base : Nat} {A0 : Option Addr} {n c0 : Nat} {xs : List Value} (hs : a.eval s = .slice A0 n c0) (hown : w.ownsRow base e size (.slice A0 n c0) n xs) (hb : base ≤ w.heap.size)
    {B : Nat} {A : Option Addr} {m c : Nat} {news : List Value} (hx : a.eval x = .slice A m c) (hr : Reads w B size A m news) (h1 : ∀ u ∈ news, u.oneCell' = true)
    (h63 : n + m ≤ maxLen) (hbytes : (n + m) * bytes ≤ 140737488355328)
    (h : ∀ A' c' w', w'.ownsRow base e size (.slice A' (n + m) c') (n + m) (xs ++ news) → w.grownBy w' (Value.slice A0 n c0).ownBlock →
      ((Value.slice A' (n + m) c').ownBlock = (Value.slice A0 n c0).ownBlock ∨ (Value.slice A' (n + m) c').ownBlock = some w.heap.size) → wpList P ops Q rest (a.put o.dst (.slice A' (n + m) c')) w') : wpList P ops Q (o :: rest) a w := by
  obtain ⟨i, hi, hz, hs1, hb1⟩ := T.hi
  exact wpList_app w hw s x t ho base e i z size bytes T.ht hi hz hs1 hb1 T.hz T.hs A0 n c0 xs hs hown B A m c news hx hr h1 h63 hbytes hb h
theorem reads_newN (w : World) (t : TypeId) (mk : Nat × Nat) (size n : Nat) (xs : List Value) (h : xs.length = n * size) : Reads (w.alloc (.cells xs.toArray t mk)) (w.heap.size + 1) size (some ⟨w.heap.size, 0, none⟩) n xs := by
  refine ⟨h, fun _ => ⟨_, rfl, by simp, fun j u hu => ?_⟩⟩
  rw [add_flat, Nat.zero_add]
  have := cell_of_row (w.alloc (.cells xs.toArray t mk)) w.heap.size j xs.toArray t mk (heap_alloc_new w _)
  rw [this]
  simpa using hu
theorem i64_info : (Try.prog.info? 3).map (fun i => (i.zero, i.size, i.bytes)) = some (some (.int .i64 0), 1, 8) := by kernel_rfl
theorem i64_ty : Ty1 Try.prog 35 3 (.int .i64 0) 8 := ⟨Try.underlying35, by obtain ⟨i, h⟩ := info_parts i64_info; exact ⟨i, h⟩, rfl⟩
theorem own_some {w : World} {B : Nat} {A : Option Addr} {n c k : Nat} {xs : List Value} (h : w.ownsRow B 3 1 (.slice A n c) n xs) (hk : (Value.slice A n c).ownBlock = some k) : A = some ⟨k, 0, none⟩ := by
  rcases h.2 with ⟨h', _⟩ | ⟨g, cap, cur, h', _⟩
  · simp at h'
    obtain ⟨rfl, _⟩ := h'
    simp [Value.ownBlock] at hk
  · simp at h'
    obtain ⟨rfl, _⟩ := h'
    simp [Value.ownBlock] at hk
    rw [hk]

/-- a clone of a slice that is not nil: a row of the call's own -/
def ClonePost (w : World) (xs : List Int) (e : Ending) (w' : World) : Prop := ∃ g c, e = .returned (.slice (some ⟨g, 0, none⟩) xs.length c) ∧ w'.ownsRow w.heap.size 3 1 (.slice (some ⟨g, 0, none⟩) xs.length c) xs.length (ints xs) ∧ Below w.heap.size w w'
set_option maxHeartbeats 400000 in
theorem clone_some (ad : Addr) (n c : Nat) (xs : List Int) (w : World) (hr : Reads w w.heap.size 1 (some ad) n (ints xs)) (hn : n ≤ 1000000) :
    Calls Try.prog 29 #[.slice (some ad) n c] w (ClonePost w xs) := by
  have hl := hr.ilen
  have HL := Lib.hid hl
  have he := fun w => Lib.run_eql_slice_nil (P := Try.prog) w 35 3 (some ad) n c 0 0 Try.underlying35
  have b1 : Below w.heap.size w (w.alloc (.cells #[] 3)) := (Below.refl _ _).alloc (Nat.le_refl _) _
  have own1 := World.ownsRow_made (base := w.heap.size) (e := 3) (size := 1) w #[] 0 (by simp) (by simp) (by simp)
  have R1 := Lib.hid (hr.over b1)
  have B1 := Lib.hid b1
  have O1 := Lib.hid own1
  clear b1 own1 hr hl
  go_enter Try.func29, Try.ntmps29
  go_wp2_with (at_builtin
               go_must (
                 refine wpList_app1 _ i64_ty rfl (.tmp 5) (.tmp 6) rfl rfl B1.out O1.out rfl R1.out (ints_one xs) (by unfold maxLen; omega) (by omega) ?_
                 intro A4 c4 w4 b4 own4 hg4 hat4
                 have B4 := Lib.hid b4
                 simp only [Nat.zero_add, List.nil_append] at own4 hat4 ⊢
                 have O4 := Lib.hid own4
                 have T4 := Lib.hid hat4
                 clear own4 hg4 hat4 b4))
  go_ret
  have := HL.out
  subst this
  have hA : ∃ k, A4 = some ⟨k, 0, none⟩ := by
    rcases T4.out with h | h
    · exact ⟨_, own_some O4.out h⟩
    · exact ⟨_, own_some O4.out h⟩
  obtain ⟨k, hk⟩ := hA
  have o4 := O4.out
  rw [hk] at o4 ⊢
  exact ⟨k, c4, rfl, o4, B4.out⟩
theorem clone_nil (w : World) : Calls Try.prog 29 #[.slice none 0 0] w fun e w' => e = .returned (.slice none 0 0) ∧ w = w' := by
  have he := fun w => Lib.run_eql_slice_nil (P := Try.prog) w 35 3 none 0 0 0 0 Try.underlying35
  go_enter Try.func29, Try.ntmps29
  go_wp2
  go_ret
  exact ⟨rfl, rfl⟩


theorem own_someN {w : World} {B size : Nat} {e : TypeId} {A : Option Addr} {n c : Nat} {xs : List Value} (h : w.ownsRow B e size (.slice A n c) n xs) {ad : Addr} (hk : A = some ad) : ∃ k, ad = ⟨k, 0, none⟩ ∧ B ≤ k ∧ k < w.heap.size := by
  subst hk
  rcases h.2 with ⟨h', _⟩ | ⟨g, cap, cur, h', hb, hg, _⟩
  · simp at h'
  · simp at h'
    obtain ⟨rfl, _⟩ := h'
    exact ⟨g, rfl, hb, (Array.getElem?_eq_some_iff.1 hg).1⟩
theorem own_pos {w : World} {B size : Nat} {e : TypeId} {A : Option Addr} {n c : Nat} {xs : List Value} (h : w.ownsRow B e size (.slice A n c) n xs) (hn : 0 < n) : ∃ k, A = some ⟨k, 0, none⟩ ∧ B ≤ k ∧ k < w.heap.size := by
  obtain ⟨g, cap, hv, hb, hlt⟩ := h.form hn
  refine ⟨g, ?_, hb, hlt⟩
  injection hv
/-- a row cut to its first k -/
theorem own_cut {w : World} {B size : Nat} {e : TypeId} {A : Option Addr} {n c k : Nat} {xs : List Value} (h : w.ownsRow B e size (.slice A n c) n xs) (hk : k ≤ n) (hn : 0 < n) : w.ownsRow B e size (.slice A k c) k (xs.take (k * size)) := by
  rcases h.2 with ⟨_, h'⟩ | ⟨g, cap, cur, h', hb, hg, hnc, hcm, hcs, htake⟩
  · omega
  · simp at h'
    obtain ⟨rfl, rfl⟩ := h'
    have hks : k * size ≤ n * size := Nat.mul_le_mul_right _ hk
    refine ⟨by rw [List.length_take, h.1]; omega, .inr ⟨g, c, cur, rfl, hb, hg, by omega, hcm, hcs, ?_⟩⟩
    rw [← htake, List.take_take, Nat.min_eq_left hks]
theorem own_le {w : World} {B size : Nat} {e : TypeId} {A : Option Addr} {n c : Nat} {xs : List Value} (h : w.ownsRow B e size (.slice A n c) n xs) : n ≤ c := by
  rcases h.2 with ⟨h', _⟩ | ⟨g, cap, cur, h', hb, hg, hnc, hcm, hcs, htake⟩
  · simp at h'; omega
  · simp at h'
    omega
theorem own_base {w : World} {B B' size : Nat} {e : TypeId} {A : Option Addr} {n c : Nat} {xs : List Value} (h : w.ownsRow B e size (.slice A n c) n xs) (hB : B' ≤ B) : w.ownsRow B' e size (.slice A n c) n xs := by
  refine ⟨h.1, ?_⟩
  rcases h.2 with h' | ⟨g, cap, cur, h', hb, rest⟩
  · exact .inl h'
  · exact .inr ⟨g, cap, cur, h', by omega, rest⟩
end Go.Proofs.Ytohlcopnifmjoab
