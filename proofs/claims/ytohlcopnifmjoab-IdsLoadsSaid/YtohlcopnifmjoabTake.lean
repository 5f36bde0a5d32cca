/- ids: Take. -/
import Derived.Test.YtohlcopnifmjoabObj
namespace Go.Proofs.Ytohlcopnifmjoab
open Go.RowKit

theorem own_far {w : World} {B size n c : Nat} {e : TypeId} {A : Option Addr} {xs : List Value} (h : w.ownsRow B e size (.slice A n c) n xs) {p : Addr} (hp : A.map (·.block) ≠ some p.block) (u : Value) : (w.setCell p u).ownsRow B e size (.slice A n c) n xs :=
  h.kept (row := some p.block) ⟨rfl, rfl, rfl, by simp, fun j _ hj => Below.heap_setCell _ _ _ _ (fun e => hj (by rw [e]))⟩ (.inr (by rw [own_map]; exact hp))

section
variable {w : World} {B x E : Nat} {G : Int} {As : Option Addr} {cs : Nat} {Af : Option Addr} {cf : Nat} {s : Sl} {f : List Int}
theorem IObj.sx (h : IObj w B x E G As cs Af cf s f) : As.map (·.block) ≠ some x := by
  have := own_blk_ne h.hs h.hx (by decide)
  rwa [own_map] at this
theorem IObj.fx (h : IObj w B x E G As cs Af cf s f) : Af.map (·.block) ≠ some x := by
  have := own_blk_ne h.hf h.hx (by decide)
  rwa [own_map] at this
theorem IObj.far (h : IObj w B x E G As cs Af cf s f) {p : Addr} (hp : ¬ OwnK x As Af p.block) (u : Value) : IObj (w.setCell p u) B x E G As cs Af cf s f :=
  h.keep fun _ hk => Below.heap_setCell _ _ _ _ (fun e => hp (e ▸ hk))
/-- the free indexes' slice is written anew -/
theorem IObj.setFree (h : IObj w B x E G As cs Af cf s f) {Af' : Option Addr} {cf' : Nat} {f' : List Int} (hf : w.ownsRow B 3 1 (.slice Af' f'.length cf') f'.length (ints f')) : IObj (w.setCell ⟨x, 1, none⟩ (.slice Af' f'.length cf')) B x E G As cs Af' cf' s f' := by
  have hx' : Af'.map (·.block) ≠ some x := by
    have := own_blk_ne hf h.hx (by decide)
    rwa [own_map] at this
  refine ⟨h.hB, ?_, own_far h.hs (by exact h.sx) _, own_far hf (by exact hx') _⟩
  have := h.hx.set_ 1 (.slice Af' f'.length cf')
  simpa using this
/-- the slots' slice is written anew -/
theorem IObj.setSlots (h : IObj w B x E G As cs Af cf s f) {As' : Option Addr} {cs' : Nat} {s' : Sl} (hs : w.ownsRow B 68 2 (.slice As' s'.length cs') s'.length (flatI s')) : IObj (w.setCell ⟨x, 0, none⟩ (.slice As' s'.length cs')) B x E G As' cs' Af cf s' f := by
  have hx' : As'.map (·.block) ≠ some x := by
    have := own_blk_ne hs h.hx (by decide)
    rwa [own_map] at this
  refine ⟨h.hB, ?_, own_far hs (by exact hx') _, own_far h.hf (by exact h.fx) _⟩
  have := h.hx.set_ 0 (.slice As' s'.length cs')
  simpa using this
theorem IObj.sf (h : IObj w B x E G As cs Af cf s f) {g : Nat} (hg : As = some ⟨g, 0, none⟩) : Af.map (·.block) ≠ some g := by
  rcases h.hs.2 with ⟨h', _⟩ | ⟨g1, cap, cur, h', _, hh, _⟩
  · rw [hg] at h'; simp at h'
  · rw [hg] at h'
    simp at h'
    obtain ⟨rfl, _⟩ := h'
    have := own_blk_ne h.hf (g := g) (t := 68) (cs := cur) hh (by decide)
    rwa [own_map] at this
/-- a slot's two cells are written -/
theorem IObj.setAlive (h : IObj w B x E G As cs Af cf s f) {g k : Nat} {y : Int × Bool} (hg : As = some ⟨g, 0, none⟩) (hy : s[k]? = some y) (b : Bool) : IObj (w.setCell ⟨g, k * 2 + 1, none⟩ (.bool b)) B x E G As cs Af cf (s.set k (y.1, b)) f := by
  have hne := h.ne_sx hg
  have hs := h.hs
  rw [hg] at hs
  have hst := (hs.stored (k * 2 + 1) (.bool b)).1
  rw [flatI_set2 hy] at hst
  refine ⟨h.hB, ?_, ?_, own_far h.hf (by exact h.sf hg) _⟩
  · have := h.hx.far (p := ⟨g, k * 2 + 1, none⟩) (fun e => hne e.symm) (.bool b)
    simpa using this
  · rw [hg]
    simpa using hst
theorem IObj.setBoth (h : IObj w B x E G As cs Af cf s f) {g k : Nat} {y : Int × Bool} (hg : As = some ⟨g, 0, none⟩) (hy : s[k]? = some y) (q : Int) (b : Bool) : IObj ((w.setCell ⟨g, k * 2, none⟩ (.int .i64 q)).setCell ⟨g, k * 2 + 1, none⟩ (.bool b)) B x E G As cs Af cf (s.set k (q, b)) f := by
  have hne := h.ne_sx hg
  have hs := h.hs
  rw [hg] at hs
  have hst := (((hs.stored (k * 2) (.int .i64 q)).1).stored (k * 2 + 1) (.bool b)).1
  rw [flatI_set12 hy] at hst
  refine ⟨h.hB, ?_, ?_, own_far (own_far h.hf (by exact h.sf hg) _) (by exact h.sf hg) _⟩
  · have := (h.hx.far (p := ⟨g, k * 2, none⟩) (fun e => hne e.symm) (.int .i64 q)).far (p := ⟨g, k * 2 + 1, none⟩) (fun e => hne e.symm) (.bool b)
    simpa using this
  · rw [hg]
    simpa using hst
end

theorem IObj.mkSlots {w : World} {B x E : Nat} {G : Int} {As' : Option Addr} {cs' : Nat} {Af : Option Addr} {cf : Nat} {s' : Sl} {f : List Int} {v : Value} (hB : B ≤ x) (hx : Blk w x 57 #[v, .slice Af f.length cf, .int .i64 E, .int .i64 G]) (hs : w.ownsRow B 68 2 (.slice As' s'.length cs') s'.length (flatI s')) (hf : w.ownsRow B 3 1 (.slice Af f.length cf) f.length (ints f)) :
    IObj (w.setCell ⟨x, 0, none⟩ (.slice As' s'.length cs')) B x E G As' cs' Af cf s' f := by
  have h1 : As'.map (·.block) ≠ some x := by
    have := own_blk_ne hs hx (by decide)
    rwa [own_map] at this
  have h2 : Af.map (·.block) ≠ some x := by
    have := own_blk_ne hf hx (by decide)
    rwa [own_map] at this
  refine ⟨hB, ?_, own_far hs (by exact h1) _, own_far hf (by exact h2) _⟩
  have := hx.set_ 0 (.slice As' s'.length cs')
  simpa using this
theorem IObj.fs {w : World} {B x E : Nat} {G : Int} {As : Option Addr} {cs : Nat} {Af : Option Addr} {cf : Nat} {s : Sl} {f : List Int} (h : IObj w B x E G As cs Af cf s f) : Af.map (·.block) = none ∨ Af.map (·.block) ≠ As.map (·.block) := by
  cases As with
  | none => cases Af <;> simp
  | some ad =>
    obtain ⟨g, rfl, _⟩ := own_someN h.hs rfl
    exact .inr (h.sf rfl)

/-- what an operation leaves behind -/
def PostI (w : World) (B x E : Nat) (G : Int) (As Af : Option Addr) (s' : Sl) (f' : List Int) (w' : World) : Prop :=
  ∃ As' cs' Af' cf', IObj w' B x E G As' cs' Af' cf' s' f' ∧ Fr (OwnK x As Af) w w' ∧ ∀ k, OwnK x As' Af' k → OwnK x As Af k ∨ w.heap.size ≤ k
theorem PostI.same {w w' : World} {B x E : Nat} {G : Int} {As : Option Addr} {cs : Nat} {Af : Option Addr} {cf : Nat} {s : Sl} {f : List Int} (h : IObj w B x E G As cs Af cf s f) (hb : Below w.heap.size w w') : PostI w B x E G As Af s f w' :=
  ⟨As, cs, Af, cf, h.over hb, Fr.of_below hb, fun _ hk => .inl hk⟩

set_option maxHeartbeats 1000000 in
theorem take_pop (B x E : Nat) (G : Int) (As : Option Addr) (cs : Nat) (Af : Option Addr) (cf : Nat) (s : Sl) (f' : List Int) (k : Nat) (g : Int) (al : Bool) (hy : s[k]? = some (g, al)) (w : World) (h : IObj w B x E G As cs Af cf s (f' ++ [(k : Int)])) (hfl : f'.length ≤ 2000) :
    Calls Try.prog 16 #[.pointer (some ⟨x, 0, none⟩)] w fun e w' => e = .returned (.tuple #[.agg #[.int .i64 k, .int .i64 g], .int .i64 0]) ∧ PostI w B x E G As Af (s.set k (g, true)) f' w' := by
  have lx := h.lt
  obtain ⟨gs, rfl, hkl, _, hgl, hc0, hc1, hfz⟩ := h.slot hy
  dsimp only at hc0 hc1
  obtain ⟨gf, rfl, _, _, hgfl, hcf, _⟩ := h.free (k := f'.length) (y := (k : Int)) (by simp)
  have n1 := h.ne_sx rfl
  have n2 := h.ne_fx rfl
  have n3 := h.ne_sf rfl rfl
  have z1 := h.hx.frozen 1
  have zs := hfz (k * 2 + 1)
  have hx := h.hx
  rw [List.length_append, List.length_singleton] at hx
  have c0 := blk4_0 hx
  have c1 := blk4_1 hx
  have e1 : x ≠ w.heap.size := by omega
  have e2 : gs ≠ w.heap.size := by omega
  have e3 : gf ≠ w.heap.size := by omega
  have hB := (h.own (k := x) (.inl rfl)).1
  have hcap := own_le h.hf
  rw [List.length_append, List.length_singleton] at hcap
  have hcap1 : f'.length ≤ cf := by omega
  have hcut := own_cut h.hf (k := f'.length) (by simp) (by simp)
  rw [show (ints (f' ++ [(k : Int)])).take (f'.length * 1) = ints f' by simp [ints]] at hcut
  have hO := (h.setFree (f' := f') hcut).setAlive rfl hy true
  have HO := Lib.hid (hO.over ((Below.refl _ _).alloc (Nat.le_refl _) (.cells #[.int .i64 k, .int .i64 g] 28)))
  have fr : Fr (OwnK x (some ⟨gs, 0, none⟩) (some ⟨gf, 0, none⟩)) w _ := (((Fr.refl (O := OwnK x (some ⟨gs, 0, none⟩) (some ⟨gf, 0, none⟩)) (w := w)).set_ (p := ⟨x, 1, none⟩) (.inl (.inl rfl)) (.slice (some ⟨gf, 0, none⟩) f'.length cf)).set_ (p := ⟨gs, k * 2 + 1, none⟩) (.inl (.inr (.inl rfl))) (.bool true)).alloc (.cells #[.int .i64 k, .int .i64 g] 28)
  have FR := Lib.hid fr
  have hk0 : (0 : Int) ≤ k := by omega
  have hk1 : (k : Int) < s.length := by omega
  clear fr hO hcut hx h hfz hy hkl
  go_enter Try.func16, Try.ntmps16
  go_wp2_with fail
  exact bodyPost_ret (v := .tuple #[.agg #[.int .i64 k, .int .i64 g], .int .i64 0]) (by simp [results, Try.results16, go_sem]) rfl ⟨rfl, _, _, _, _, HO.out, FR.out, fun _ hk => .inl hk⟩

theorem take_full (B x E : Nat) (G : Int) (As : Option Addr) (cs : Nat) (Af : Option Addr) (cf : Nat) (s : Sl) (w : World) (h : IObj w B x E G As cs Af cf s []) (hE : s.length = E) :
    Calls Try.prog 16 #[.pointer (some ⟨x, 0, none⟩)] w fun e w' => e = .returned (.tuple #[.agg #[.int .i64 0, .int .i64 0], .int .i64 9]) ∧ PostI w B x E G As Af s [] w' := by
  have lx := h.lt
  have c0 := blk4_0 h.hx
  have c1 := blk4_1 h.hx
  have c2 := blk4_2 h.hx
  have e1 : x ≠ w.heap.size := by omega
  have H := Lib.hid h
  clear h
  subst hE
  go_enter Try.func16, Try.ntmps16
  go_wp2_with fail
  exact bodyPost_ret (v := .tuple #[.agg #[.int .i64 0, .int .i64 0], .int .i64 9]) (by simp [results, Try.results16, go_sem]) rfl ⟨rfl, PostI.same H.out ((Below.refl _ _).alloc (Nat.le_refl _) _)⟩

set_option maxHeartbeats 2000000 in
theorem take_fresh (B x E : Nat) (G : Int) (As : Option Addr) (cs : Nat) (Af : Option Addr) (cf : Nat) (s : Sl) (w : World) (h : IObj w B x E G As cs Af cf s []) (hl : s.length ≤ 1024) (hE : s.length ≠ E) :
    Calls Try.prog 16 #[.pointer (some ⟨x, 0, none⟩)] w fun e w' => e = .returned (.tuple #[.agg #[.int .i64 s.length, .int .i64 0], .int .i64 0]) ∧ PostI w B x E G As Af (s ++ [(0, true)]) [] w' := by
  have lx := h.lt
  have hB := h.hB
  have c0 := blk4_0 h.hx
  have c1 := blk4_1 h.hx
  have c2 := blk4_2 h.hx
  have e1 : x ≠ w.heap.size := by omega
  have hne : ((s.length : Int) == (E : Int)) = false := by rw [beq_eq_false_iff_ne]; omega
  have ba : Below w.heap.size w (w.alloc (.cells #[.int .i64 0, .int .i64 0] 28)) := (Below.refl _ _).alloc (Nat.le_refl _) _
  have bb : Below w.heap.size w ((w.alloc (.cells #[.int .i64 0, .int .i64 0] 28)).alloc (.cells #[.int .i64 0, .bool false] 68)) := ba.alloc (by simp) _
  have HO2 := Lib.hid (h.over bb)
  have rd := reads_newN (w.alloc (.cells #[.int .i64 0, .int .i64 0] 28)) 68 (0, 0) 2 1 [.int .i64 0, .bool false] rfl
  rw [World.size_alloc] at rd
  have RD := Lib.hid rd
  have BR := Lib.hid ((Blk.new w 28 #[.int .i64 0, .int .i64 0]).alloc (.cells #[.int .i64 0, .bool false] 68))
  have BB := Lib.hid bb
  have one : ∀ u ∈ [Value.int .i64 0, Value.bool false], u.oneCell' = true := by intro u hu; simp at hu; rcases hu with rfl | rfl <;> rfl
  have HSX := Lib.hid h.sx
  have HNW : Hid (As.map (·.block) ≠ some w.heap.size) := fun e => by have := (h.own (.inr (.inl e))).2; omega
  have H := Lib.hid h
  clear h ba bb hE rd
  have e3 : w.heap.size + 1 ≠ x := by omega
  go_enter Try.func16, Try.ntmps16
  go_wp2_with (at_builtin
               go_must (
                 refine wpList_appN _ slot_ty rfl (.tmp 23) (.tmp 25) rfl rfl HO2.out.hs (by simp; omega) rfl RD.out one (by unfold maxLen; omega) (by omega) ?_
                 intro A4 c4 w4 own4 hg4 hat4
                 rw [own_map] at hg4 hat4
                 have hx4 := HO2.out.hx.grown hg4 (fun e => HSX.out e.symm)
                 have hr4 := BR.out.grown hg4 (fun e => HNW.out e.symm)
                 obtain ⟨g4, hA4, hb4, hl4⟩ := own_pos own4 (by omega)
                 subst hA4
                 have k0 := blk4_0 hx4
                 have k1 := blk4_1 hx4
                 have z0 := hx4.frozen 0
                 have r0 := blk0 hr4
                 have r1 := blk1 hr4
                 have y0 := hr4.frozen 0
                 have y1 := hr4.frozen 1
                 have hgx : g4 ≠ x := by
                   have := own_blk_ne own4 hx4 (by decide)
                   intro e; apply this; rw [own_map, e]; rfl
                 have hgr : g4 ≠ w.heap.size := by
                   have := own_blk_ne own4 hr4 (by decide)
                   intro e; apply this; rw [own_map, e]; rfl
                 have hs1 : (flatI s ++ [Value.int .i64 0, Value.bool false])[s.length * 2]? = some (.int .i64 0) := by rw [List.getElem?_append_right (by rw [flatI_length]; exact Nat.le_refl _), flatI_length]; simp
                 have hs2 : (flatI s ++ [Value.int .i64 0, Value.bool false])[s.length * 2 + 1]? = some (.bool false) := by rw [List.getElem?_append_right (by rw [flatI_length]; omega), flatI_length]; simp
                 have q0 := (own4.cellAt (s.length * 2) (by omega)).trans hs1
                 have q1 := (own4.cellAt (s.length * 2 + 1) (by omega)).trans hs2
                 have zg := own4.frozenAt (s.length * 2 + 1)
                 have O4 := Lib.hid own4
                 have G4 := Lib.hid hg4
                 have T4 := Lib.hid hat4
                 have HX4 := Lib.hid hx4
                 have HR4 := Lib.hid hr4
                 clear own4 hg4 hat4 hx4 hr4 hs1 hs2))
  have hnf : Af.map (·.block) ≠ some w.heap.size := fun e => by have := (H.out.own (.inr (.inr e))).2; omega
  have hg4 : OwnK x As Af g4 ∨ w.heap.size ≤ g4 := by
    rcases T4.out with e | e
    · rw [own_map] at e
      exact .inl (.inr (.inl e.symm))
    · simp at e
      exact .inr (by omega)
  have own4 := O4.out
  rw [show [Value.int .i64 0, Value.bool false] = flatI [(0, false)] from rfl, flatI_append, show s.length + 1 = (s ++ [((0 : Int), false)]).length by simp] at own4
  have hf4 := HO2.out.hf.kept G4.out (by rw [own_map]; exact HO2.out.fs)
  have o1 := (IObj.mkSlots HO2.out.hB HX4.out own4 hf4).setAlive rfl (k := s.length) (y := (0, false)) (by simp) true
  have hnot : ¬ OwnK x (some ⟨g4, 0, none⟩) Af w.heap.size := by
    rintro (e | e | e)
    · exact e1 e.symm
    · simp at e; exact hgr e
    · exact hnf e
  have o2 := (o1.far (p := ⟨w.heap.size, 0, none⟩) hnot (.int .i64 s.length)).far (p := ⟨w.heap.size, 1, none⟩) hnot (.int .i64 0)
  rw [show (s ++ [((0 : Int), false)]).set s.length (0, true) = s ++ [(0, true)] by simp, show (s ++ [((0 : Int), false)]).length = s.length + 1 by simp] at o2
  have b2 := two_set ((HR4.out.far (p := ⟨x, 0, none⟩) (fun e => e1 e.symm) (.slice (some ⟨g4, 0, none⟩) (s.length + 1) c4)).far (p := ⟨g4, s.length * 2 + 1, none⟩) (fun e => hgr e.symm) (.bool true)) (.int .i64 s.length) (.int .i64 0)
  have f0 := blk0 b2
  have f1 := blk1 b2
  refine bodyPost_ret (v := .tuple #[.agg #[.int .i64 s.length, .int .i64 0], .int .i64 0]) (by simp [results, Try.results16, go_sem, f0, f1]) rfl ⟨rfl, _, _, _, _, o2, ?_, ?_⟩
  · exact (((((Fr.refl.alloc _).alloc _).grown G4.out (fun k hk => .inl (.inr (.inl hk)))).set_ (p := ⟨x, 0, none⟩) (.inl (.inl rfl)) _).set_ (p := ⟨g4, s.length * 2 + 1, none⟩) hg4 _ |>.set_ (p := ⟨w.heap.size, 0, none⟩) (.inr (Nat.le_refl _)) _).set_ (p := ⟨w.heap.size, 1, none⟩) (.inr (Nat.le_refl _)) _
  · rintro k (e | e | e)
    · exact .inl (.inl e)
    · simp at e
      subst e
      exact hg4
    · exact .inl (.inr (.inr e))

/-- Take, whichever way it goes -/
theorem take_any (B x E : Nat) (G : Int) (As : Option Addr) (cs : Nat) (Af : Option Addr) (cf : Nat) (s : Sl) (f : List Int) (hl : s.length ≤ 1024) (hfl : f.length ≤ 2000) (a b e : Int) (s' : Sl) (f' : List Int) (ht : TakeIs E s f a b e s' f') (w : World) (h : IObj w B x E G As cs Af cf s f) :
    Calls Try.prog 16 #[.pointer (some ⟨x, 0, none⟩)] w fun en w' => en = .returned (.tuple #[.agg #[.int .i64 a, .int .i64 b], .int .i64 e]) ∧ PostI w B x E G As Af s' f' w' := by
  cases ht with
  | pop f1 k g al hf hy =>
    subst hf
    exact take_pop B x E G As cs Af cf s f' k b al hy w h (by simp at hfl; omega)
  | full hf hE =>
    subst hf
    exact take_full B x E G As cs Af cf s w h hE
  | fresh hf hE =>
    subst hf
    exact take_fresh B x E G As cs Af cf s w h hl hE
end Go.Proofs.Ytohlcopnifmjoab
