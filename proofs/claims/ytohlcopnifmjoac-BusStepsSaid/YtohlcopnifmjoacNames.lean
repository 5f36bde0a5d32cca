/- bus: names in rows; a row drained; two rows of names alike. -/
import Derived.Test.YtohlcopnifmjoacSmallI
import Derived.Test.YtohlcopnifmjoacNils
namespace Go.Proofs.Ytohlcopnifmjoac
open Go.RowKit

def ints (xs : List Int) : List Value := xs.map (Value.int .i64)
theorem ints_length (xs : List Int) : (ints xs).length = xs.length := by simp [ints]
theorem ints_get {xs : List Int} {k : Nat} (h : k < xs.length) : (ints xs)[k]? = some (.int .i64 xs[k]) := by simp [ints, h]
theorem ints_one (xs : List Int) : ∀ u ∈ ints xs, u.oneCell' = true := by
  intro u hu
  simp [ints] at hu
  obtain ⟨z, _, rfl⟩ := hu
  rfl
theorem ints_append (xs ys : List Int) : ints xs ++ ints ys = ints (xs ++ ys) := by simp [ints]
theorem ints_set (xs : List Int) (k : Nat) (x : Int) : (ints xs).set k (.int .i64 x) = ints (xs.set k x) := by simp [ints, List.map_set]
def i64ok (x : Int) : Prop := -9223372036854775808 ≤ x ∧ x ≤ 9223372036854775807
theorem ret_int {k : IntKind} {a b : Int} (h : a = b) : Ending.returned (.int k a) = Ending.returned (.int k b) := by rw [h]
theorem ret_tup {a b : Int} {c d : Bool} (h : a = b) (k : c = d) : Ending.returned (.tuple #[.int .i64 a, .bool c]) = Ending.returned (.tuple #[.int .i64 b, .bool d]) := by rw [h, k]
theorem add_flat (b off j : Nat) : (⟨b, off, none⟩ : Addr).add j = ⟨b, off + j, none⟩ := by unfold Addr.add; split <;> simp_all
theorem new_cell (w : World) (cs : Array Value) (t : TypeId) (j : Nat) : (w.alloc (.cells cs t)).cell? ⟨w.heap.size, j, none⟩ = cs[j]? := (Blk.new w t cs).cell j
theorem reads_new (w : World) (t : TypeId) (m : Nat × Nat) (xs : List Value) : Reads (w.alloc (.cells xs.toArray t m)) (w.heap.size + 1) 1 (some ⟨w.heap.size, 0, none⟩) xs.length xs := by
  refine ⟨by simp, fun _ => ⟨_, rfl, by simp, fun j u hu => ?_⟩⟩
  rw [add_flat, Nat.zero_add]
  have := cell_of_row (w.alloc (.cells xs.toArray t m)) w.heap.size j xs.toArray t m (heap_alloc_new w _)
  rw [this]
  simpa using hu
/-- a slice of integers: element k -/
theorem Reads.int {w : World} {B : Nat} {A : Option Addr} {n : Nat} {xs : List Int} (h : Reads w B 1 A n (ints xs)) {k : Nat} (hk : k < n) : ∃ b off, A = some ⟨b, off, none⟩ ∧ b < B ∧ ∃ hl : k < xs.length, w.cell? ⟨b, off + k, none⟩ = some (.int .i64 xs[k]) := by
  have hl : xs.length = n := by have := h.1; rw [ints_length] at this; omega
  obtain ⟨ad, e, hb, hc⟩ := h.2 (by omega)
  have h0 := hc 0 _ (ints_get (by omega : 0 < xs.length))
  obtain ⟨b, off, spot⟩ := ad
  have hspot : spot = none := by simpa [Addr.add] using World.cell?_spot h0
  subst hspot
  have hk' : k < xs.length := by omega
  have := hc k _ (ints_get hk')
  rw [add_flat] at this
  exact ⟨b, off, e, hb, hk', this⟩
theorem Reads.ilen {w : World} {B : Nat} {A : Option Addr} {n : Nat} {xs : List Int} (h : Reads w B 1 A n (ints xs)) : xs.length = n := by have := h.1; rw [ints_length] at this; omega

/-- an element type of 'size' cells -/
structure TyN (P : Program) (t e : TypeId) (z : Value) (size bytes : Nat) : Prop where
  ht : P.underlying t = some (.slice e)
  hi : ∃ i, P.info? e = some i ∧ i.zero = some z ∧ i.size = size ∧ i.bytes = bytes
  hz : z.cells.size = size
  hs : 0 < size
/-- an append of a slice onto a row of the call's own, elements of 'size' cells -/
theorem wpList_appN {P : Program} (w : World) {ops : Array Oper} {rest : List Oper} {o : Oper} {a : Act} {Q : Exit → Act → World → Prop} {t e : TypeId} {z : Value} {size bytes : Nat} (T : TyN P t e z size bytes)
    (hw : Region.wanted o (yielded ops a.tmps) = true) (s x : Operand) (ho : o.op = .call { callee := .builtin .append, args := #[s, x], argTypes := #[t, t] })
    {base : Nat} {A0 : Option Addr} {n c0 : Nat} {xs : List Value} (hs : a.eval s = .slice A0 n c0) (hown : w.ownsRow base e size (.slice A0 n c0) n xs) (hb : base ≤ w.heap.size)
    {B : Nat} {A : Option Addr} {m c : Nat} {news : List Value} (hx : a.eval x = .slice A m c) (hr : Reads w B size A m news) (h1 : ∀ u ∈ news, u.oneCell' = true)
    (h63 : n + m ≤ maxLen) (hbytes : (n + m) * bytes ≤ 140737488355328)
    (h : ∀ A' c' w', w'.ownsRow base e size (.slice A' (n + m) c') (n + m) (xs ++ news) → w.grownBy w' (Value.slice A0 n c0).ownBlock →
      ((Value.slice A' (n + m) c').ownBlock = (Value.slice A0 n c0).ownBlock ∨ (Value.slice A' (n + m) c').ownBlock = some w.heap.size) → wpList P ops Q rest (a.put o.dst (.slice A' (n + m) c')) w') : wpList P ops Q (o :: rest) a w := by
  obtain ⟨i, hi, hz, hs1, hb1⟩ := T.hi
  exact wpList_app w hw s x t ho base e i z size bytes T.ht hi hz hs1 hb1 T.hz T.hs A0 n c0 xs hs hown B A m c news hx hr h1 h63 hbytes hb h
theorem reads_newN (w : World) (t : TypeId) (mk : Nat × Nat) (size n : Nat) (xs : List Value) (h : xs.length = n * size) : Reads (w.alloc (.cells xs.toArray t mk)) (w.heap.size + 1) size (some ⟨w.heap.size, 0, none⟩) n xs := by
  refine ⟨h, fun _ => ⟨_, rfl, by simp, fun j u hu => ?_⟩⟩
  rw [add_flat, Nat.zero_add]
  have := cell_of_row (w.alloc (.cells xs.toArray t mk)) w.heap.size j xs.toArray t mk (heap_alloc_new w _)
  rw [this]
  simpa using hu

theorem own_someN {w : World} {B size : Nat} {e : TypeId} {A : Option Addr} {n c : Nat} {xs : List Value} (h : w.ownsRow B e size (.slice A n c) n xs) {ad : Addr} (hk : A = some ad) : ∃ k, ad = ⟨k, 0, none⟩ ∧ B ≤ k ∧ k < w.heap.size := by
  subst hk
  rcases h.2 with ⟨h', _⟩ | ⟨g, cap, cur, h', hb, hg, _⟩
  · simp at h'
  · simp at h'
    obtain ⟨rfl, _⟩ := h'
    exact ⟨g, rfl, hb, (Array.getElem?_eq_some_iff.1 hg).1⟩
theorem own_pos {w : World} {B size : Nat} {e : TypeId} {A : Option Addr} {n c : Nat} {xs : List Value} (h : w.ownsRow B e size (.slice A n c) n xs) (hn : 0 < n) : ∃ k, A = some ⟨k, 0, none⟩ ∧ B ≤ k ∧ k < w.heap.size := by
  obtain ⟨g, cap, hv, hb, hlt⟩ := h.form hn
  refine ⟨g, ?_, hb, hlt⟩
  injection hv
/-- a row cut to its first k -/
theorem own_cut {w : World} {B size : Nat} {e : TypeId} {A : Option Addr} {n c k : Nat} {xs : List Value} (h : w.ownsRow B e size (.slice A n c) n xs) (hk : k ≤ n) (hn : 0 < n) : w.ownsRow B e size (.slice A k c) k (xs.take (k * size)) := by
  rcases h.2 with ⟨_, h'⟩ | ⟨g, cap, cur, h', hb, hg, hnc, hcm, hcs, htake⟩
  · omega
  · simp at h'
    obtain ⟨rfl, rfl⟩ := h'
    have hks : k * size ≤ n * size := Nat.mul_le_mul_right _ hk
    refine ⟨by rw [List.length_take, h.1]; omega, .inr ⟨g, c, cur, rfl, hb, hg, by omega, hcm, hcs, ?_⟩⟩
    rw [← htake, List.take_take, Nat.min_eq_left hks]
theorem own_le {w : World} {B size : Nat} {e : TypeId} {A : Option Addr} {n c : Nat} {xs : List Value} (h : w.ownsRow B e size (.slice A n c) n xs) : n ≤ c := by
  rcases h.2 with ⟨h', _⟩ | ⟨g, cap, cur, h', hb, hg, hnc, hcm, hcs, htake⟩
  · simp at h'; omega
  · simp at h'
    omega
theorem own_base {w : World} {B B' size : Nat} {e : TypeId} {A : Option Addr} {n c : Nat} {xs : List Value} (h : w.ownsRow B e size (.slice A n c) n xs) (hB : B' ≤ B) : w.ownsRow B' e size (.slice A n c) n xs := by
  refine ⟨h.1, ?_⟩
  rcases h.2 with h' | ⟨g, cap, cur, h', hb, rest⟩
  · exact .inl h'
  · exact .inr ⟨g, cap, cur, h', by omega, rest⟩

theorem own_map (A : Option Addr) (n c : Nat) : (Value.slice A n c).ownBlock = A.map (·.block) := by cases A <;> rfl
theorem id_info : (Try.prog.info? 28).map (fun i => (i.zero, i.size, i.bytes)) = some (some (.agg #[.int .i64 0, .int .i64 0]), 2, 16) := by kernel_rfl
theorem id_ty : TyN Try.prog 22 28 (.agg #[.int .i64 0, .int .i64 0]) 2 16 := ⟨Try.underlying22, by obtain ⟨i, h⟩ := info_parts id_info; exact ⟨i, h⟩, rfl, by decide⟩
def flatN (l : List (Int × Int)) : List Value := l.flatMap fun p => [.int .i64 p.1, .int .i64 p.2]
theorem flatN_length (l : List (Int × Int)) : (flatN l).length = l.length * 2 := by
  induction l with
  | nil => rfl
  | cons x s ih => simp [flatN] at ih ⊢; omega
theorem flatN_append (s t : List (Int × Int)) : flatN s ++ flatN t = flatN (s ++ t) := by simp [flatN]
theorem flatN_get {s : List (Int × Int)} {k : Nat} {x : Int × Int} (h : s[k]? = some x) : (flatN s)[k * 2]? = some (.int .i64 x.1) ∧ (flatN s)[k * 2 + 1]? = some (.int .i64 x.2) := by
  induction s generalizing k with
  | nil => simp at h
  | cons y s ih =>
    rcases k with _ | k
    · simp at h
      subst h
      simp [flatN]
    · have := ih (by simpa using h)
      simp only [flatN, List.flatMap_cons] at this ⊢
      rw [show (k + 1) * 2 = k * 2 + 2 from by omega]
      simpa using this

theorem own_fr {w w' : World} {O : Nat → Prop} {B size n c : Nat} {e : TypeId} {A : Option Addr} {xs : List Value} (h : w.ownsRow B e size (.slice A n c) n xs) (hf : Fr O w w') (hne : ∀ g, A.map (·.block) = some g → ¬ O g) : w'.ownsRow B e size (.slice A n c) n xs := by
  refine ⟨h.1, ?_⟩
  rcases h.2 with h' | ⟨g, cap, cur, hv, hb, hh, rest⟩
  · exact .inl h'
  · refine .inr ⟨g, cap, cur, hv, hb, (hf.block g (Array.getElem?_eq_some_iff.1 hh).1 (hne g ?_)).trans hh, rest⟩
    injection hv with hv
    rw [hv]; rfl

theorem Fr.grown {O : Nat → Prop} {w w' w'' : World} (h : Fr O w w') {row : Option Nat} (hg : w'.grownBy w'' row) (hr : ∀ k, row = some k → O k ∨ w.heap.size ≤ k) : Fr O w w'' :=
  ⟨hg.os.trans h.os, hg.tape.trans h.tape, hg.output.trans h.output, Nat.le_trans h.size hg.size, fun k hk hO =>
    (hg.block k (Nat.lt_of_lt_of_le hk h.size) (fun e => by rcases hr k e.symm with ho | ho; exact hO ho; omega)).trans (h.block k hk hO)⟩
theorem flatN_one (l : List (Int × Int)) : ∀ u ∈ flatN l, u.oneCell' = true := by
  intro u hu
  simp only [flatN, List.mem_flatMap, List.mem_cons, List.not_mem_nil, or_false] at hu
  obtain ⟨y, _, rfl | rfl⟩ := hu <;> rfl
def aggs (l : List (Int × Int)) : List Value := l.map fun p => .agg #[.int .i64 p.1, .int .i64 p.2]
theorem aggs_length (l : List (Int × Int)) : (aggs l).length = l.length := by simp [aggs]
def lenV : Value → Nat
  | .slice _ n _ => n
  | _ => 0
/-- a row whose block is no channel's -/
theorem own_chan {w : World} {B size n c : Nat} {e : TypeId} {A : Option Addr} {xs : List Value} {k cap : Nat} {buf : Array Value} {cl : Bool} {s r : Nat} (h : w.ownsRow B e size (.slice A n c) n xs) (hk : w.heap[k]? = some (.chan cap buf cl s r false)) : ∀ g, A.map (·.block) = some g → ¬ g = k := by
  rintro g hg rfl
  rcases h.2 with ⟨hv, _⟩ | ⟨g1, cap, cur, hv, _, hh, _⟩
  · simp at hv
    obtain ⟨rfl, _⟩ := hv
    cases hg
  · simp at hv
    obtain ⟨rfl, _⟩ := hv
    simp at hg
    subst hg
    rw [hk] at hh
    injection hh with hh
    cases hh
theorem QObj.notc {t : TypeId} {w : World} {x c d cap : Nat} {buf : List Value} {cl : Bool} (h : QObj t w x c d cap buf cl) {B size n c' : Nat} {e : TypeId} {A : Option Addr} {xs : List Value} (ho : w.ownsRow B e size (.slice A n c') n xs) : ∀ g, A.map (·.block) = some g → ¬ g = c := by
  obtain ⟨s, r, hc⟩ := h.hc
  exact own_chan ho hc
/-- an append elsewhere keeps the row -/
theorem QObj.grown {t : TypeId} {w w' : World} {x c d cap : Nat} {buf : List Value} {cl : Bool} (h : QObj t w x c d cap buf cl) {B size n c' : Nat} {e : TypeId} {A : Option Addr} {xs : List Value} (ho : w.ownsRow B e size (.slice A n c') n xs) (hg : w.grownBy w' (A.map (·.block))) (he : e ≠ t) : QObj t w' x c d cap buf cl := by
  obtain ⟨s, r, hc⟩ := h.hc
  refine h.keep (hg.block _ h.xlt fun e' => ?_) (hg.block _ h.clt fun e' => own_chan ho hc _ e'.symm rfl) (hg.block _ h.dlt fun e' => own_chan ho h.hd _ e'.symm rfl)
  have := own_blk_ne ho h.hx he
  rw [own_map] at this
  exact this e'.symm

set_option maxRecDepth 100000 in
set_option maxHeartbeats 1000000 in
theorem drain60_any (w : World) (x c d cap : Nat) (l : List (Int × Int)) (cl : Bool) (hl : l.length ≤ 4096) (h : QObj 60 w x c d cap (aggs l) cl) :
    Calls Try.prog 13 #[.pointer (some ⟨x, 0, none⟩)] w fun e w' => ∃ A c', e = .returned (.slice A l.length c') ∧ w'.ownsRow w.heap.size 28 2 (.slice A l.length c') l.length (flatN l) ∧ QObj 60 w' x c d cap [] cl ∧ Fr (fun k => k = c) w w' := by
  have H := Lib.hid h
  obtain ⟨n, hn⟩ : ∃ n, l.length = n := ⟨_, rfl⟩
  rw [hn] at hl ⊢
  have HN := Lib.hid hn
  clear h hn
  go_enter Try.func13, Try.ntmps13
  go_wp2_with fail
  go_loopw [3] (fun a wr => ∃ k : Nat, k ≤ n ∧ ∃ A c', a = .slice A k c' ∧ Hid (wr.ownsRow w.heap.size 28 2 (.slice A k c') k (flatN (l.take k))) ∧ Hid (QObj 60 wr x c d cap (aggs (l.drop k)) cl) ∧ Hid (Fr (fun k => k = c) w wr)) (fun a _ => n - lenV a)
  case atStart => exact ⟨0, Nat.zero_le _, none, 0, rfl, World.ownsRow_nil _ _ _ _, H, Lib.hid Fr.refl⟩
  case round =>
    obtain ⟨k, hk, A, c', rfl, HA, HQ, HF⟩ := hrel
    by_cases hlt : k < n
    · obtain ⟨⟨p, q⟩, hy⟩ : ∃ y, l[k]? = some y := ⟨_, List.getElem?_eq_getElem (by rw [HN.out]; exact hlt)⟩
      have hdl : (aggs (l.drop k)).length = n - k := by rw [aggs_length, List.length_drop, HN.out]
      have hdr : aggs (l.drop k) = .agg #[.int .i64 p, .int .i64 q] :: aggs (l.drop (k + 1)) := by
        have hkl : k < l.length := by rw [HN.out]; exact hlt
        rw [List.drop_eq_getElem_cons hkl]
        rw [List.getElem?_eq_getElem hkl] at hy
        injection hy with hy
        rw [hy]
        rfl
      have HTK := Lib.hid (show l.take (k + 1) = l.take k ++ [(p, q)] by rw [List.take_add_one, hy]; rfl)
      have HDR := Lib.hid hdr
      have hpos : (0 : Int) < (aggs (l.drop k)).length := by rw [hdl]; omega
      have HP := Lib.hid hpos
      have d0 : decide (0 < (aggs (l.drop k)).length) = true := by simp; omega
      clear hdr hdl hy hpos
      go_wp2_with fail
      refine (len60_any _ x c d cap _ cl HQ.out).mono ?_
      rintro e1 w1 ⟨rfl, rfl⟩
      have hpos := HP.out
      go_wp2_with fail
      clear hpos d0
      have HQ' := HQ
      rw [HDR.out] at HQ'
      refine (pop60_some _ x c d cap p q _ cl HQ'.out).mono ?_
      rintro e2 w2 ⟨rfl, hq2, hf2⟩
      have ha2 := own_fr HA.out hf2 (HQ.out.notc HA.out)
      have ba : Below w2.heap.size w2 (w2.alloc (.cells #[.int .i64 p, .int .i64 q] 28)) := (Below.refl _ _).alloc (Nat.le_refl _) _
      have HQ3 := Lib.hid ((hq2.over ba).over ((Below.refl _ _).alloc (Nat.le_refl _) (.cells #[.int .i64 p, .int .i64 q] 28)))
      have HA3 := Lib.hid ((ha2.alloc (.cells #[.int .i64 p, .int .i64 q] 28)).alloc (.cells #[.int .i64 p, .int .i64 q] 28))
      have HF3 := Lib.hid (((HF.out.trans hf2).alloc (.cells #[.int .i64 p, .int .i64 q] 28)).alloc (.cells #[.int .i64 p, .int .i64 q] 28))
      have rd := reads_newN (w2.alloc (.cells #[.int .i64 p, .int .i64 q] 28)) 28 (0, 0) 2 1 [.int .i64 p, .int .i64 q] rfl
      rw [World.size_alloc] at rd
      have RD := Lib.hid rd
      have one : ∀ u ∈ [Value.int .i64 p, Value.int .i64 q], u.oneCell' = true := by intro u hu; simp at hu; rcases hu with rfl | rfl <;> rfl
      clear hq2 hf2 ha2 ba rd HQ'
      go_wp2_with (at_builtin
                   go_must (
                     refine wpList_appN _ id_ty rfl (.tmp 14) (.tmp 16) rfl rfl HA3.out HF3.out.size rfl RD.out one (by unfold maxLen; omega) (by omega) ?_
                     intro A4 c4 w4 own4 hg4 hat4
                     rw [own_map] at hg4
                     have HQ4 := Lib.hid (HQ3.out.grown HA3.out hg4 (by decide))
                     have HF4 := Lib.hid (HF3.out.grown hg4 (fun j hj => .inr (HA3.out.lt j (by rw [own_map]; exact hj)).1))
                     rw [show [Value.int .i64 p, Value.int .i64 q] = flatN [(p, q)] from rfl, flatN_append, ← HTK.out] at own4
                     have HA4 := Lib.hid own4
                     clear own4 hg4 hat4))
      exact ⟨⟨k + 1, by omega, A4, c4, rfl, HA4, HQ4, HF4⟩, by simp [lenV]; omega⟩
    · obtain rfl : k = n := by omega
      have HDE : Hid (aggs (l.drop k) = []) := by rw [List.drop_of_length_le (by rw [HN.out]; exact Nat.le_refl _)]; rfl
      have HQ' := HQ
      rw [HDE.out] at HQ'
      go_wp2_with fail
      refine (len60_any _ x c d cap _ cl HQ'.out).mono ?_
      rintro e1 w1 ⟨rfl, rfl⟩
      go_wp2_with fail
      go_ret
      have ha := HA.out
      rw [List.take_of_length_le (by rw [HN.out]; exact Nat.le_refl _)] at ha
      exact ⟨A, c', rfl, ha, HQ'.out, HF.out⟩

/-- two rows of names that read alike -/
theorem names_at {w : World} {B n k : Nat} {A : Option Addr} {l : List (Int × Int)} (h : Reads w B 2 A n (flatN l)) (hk : k < n) : ∃ b off y, A = some ⟨b, off, none⟩ ∧ b < B ∧ l[k]? = some y ∧ w.cell? ⟨b, off + k * 2, none⟩ = some (.int .i64 y.1) ∧ w.cell? ⟨b, off + k * 2 + 1, none⟩ = some (.int .i64 y.2) := by
  have hl : l.length = n := by have := h.1; rw [flatN_length] at this; omega
  obtain ⟨ad, e, hb, hc⟩ := h.2 (by omega)
  have h0 := flatN_get (k := 0) (List.getElem?_eq_getElem (by omega : 0 < l.length))
  have hs := hc 0 _ (by simpa using h0.1)
  obtain ⟨b, off, spot⟩ := ad
  have hspot : spot = none := by simpa [Addr.add] using World.cell?_spot hs
  subst hspot
  have hg := flatN_get (k := k) (List.getElem?_eq_getElem (by omega : k < l.length))
  have g1 := hc _ _ hg.1
  have g2 := hc _ _ hg.2
  rw [add_flat] at g1 g2
  exact ⟨b, off, l[k], e, hb, List.getElem?_eq_getElem (by omega), g1, g2⟩
set_option maxHeartbeats 1000000 in
theorem sameids_any (A A' : Option Addr) (n c c' : Nat) (l : List (Int × Int)) (w : World) (hn : n ≤ 1000000) (h : Reads w w.heap.size 2 A n (flatN l)) (h' : Reads w w.heap.size 2 A' n (flatN l)) :
    Calls Try.prog 12 #[.slice A n c, .slice A' n c'] w fun e w' => e = .returned (.bool true) ∧ ∃ d, w' = w.drewN d := by
  go_enter Try.func12, Try.ntmps12
  go_wp2_with fail
  go_loopw [5] (fun i wr => ∃ k : Nat, k ≤ n ∧ i = .int .i64 k ∧ Hid (∃ d, wr = w.drewN d)) (fun i _ => n - (intOf i).toNat)
  case atStart => exact ⟨0, Nat.zero_le _, rfl, 0, rfl⟩
  case round =>
    obtain ⟨k, hk, rfl, HD⟩ := hrel
    obtain ⟨d, rfl⟩ := HD.out
    clear HD
    by_cases hlt : k < n
    · obtain ⟨b, off, ⟨p, q⟩, rfl, _, hy, hc0, hc1⟩ := names_at h hlt
      obtain ⟨b', off', ⟨p', q'⟩, rfl, _, hy', hc0', hc1'⟩ := names_at h' hlt
      rw [hy] at hy'
      obtain ⟨rfl, rfl⟩ : p = p' ∧ q = q' := by injection hy' with hy'; injection hy' with h1 h2; exact ⟨h1, h2⟩
      dsimp only at hc0 hc1 hc0' hc1'
      have hlt' : (k : Int) < (n : Int) := by omega
      have h0' : (0 : Int) ≤ (k : Int) := by omega
      clear hy hy'
      go_wp2
      go_quiet (fail)
      go_wp2
      exact ⟨⟨k + 1, by omega, by go_num, _, rfl⟩, by simp [intOf]; omega⟩
    · go_wp2
      go_ret
      exact ⟨rfl, d, rfl⟩
end Go.Proofs.Ytohlcopnifmjoac
