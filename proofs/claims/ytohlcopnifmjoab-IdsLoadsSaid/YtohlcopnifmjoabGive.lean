/- ids: Give. -/
import Derived.Test.YtohlcopnifmjoabTake
import Derived.Deep.RegionLaw
import Derived.Deep.RegionHeld3
namespace Go.Proofs.Ytohlcopnifmjoab
open Go.RowKit

theorem i64_tyN : TyN Try.prog 35 3 (.int .i64 0) 1 8 := ⟨Try.underlying35, by obtain ⟨i, h⟩ := info_parts i64_info; exact ⟨i, h⟩, rfl, by decide⟩
/-- an append at a step of a region that draws its order -/
theorem step_appN {P : Program} (w : World) {ops : Array Oper} {o : Oper} {a : Act} {K : Act → World → Prop} {Q : Exit → Act → World → Prop} {F : Prop} {t e : TypeId} {z : Value} {size bytes : Nat} (T : TyN P t e z size bytes)
    (hgd : o.guard = none) (s x : Operand) (ho : o.op = .call { callee := .builtin .append, args := #[s, x], argTypes := #[t, t] })
    {base : Nat} {A0 : Option Addr} {n c0 : Nat} {xs : List Value} (hs : a.eval s = .slice A0 n c0) (hown : w.ownsRow base e size (.slice A0 n c0) n xs) (hb : base ≤ w.heap.size)
    {B : Nat} {A : Option Addr} {m c : Nat} {news : List Value} (hx : a.eval x = .slice A m c) (hr : Reads w B size A m news) (h1 : ∀ u ∈ news, u.oneCell' = true)
    (h63 : n + m ≤ maxLen) (hbytes : (n + m) * bytes ≤ 140737488355328)
    (h : ∀ A' c' w', w'.ownsRow base e size (.slice A' (n + m) c') (n + m) (xs ++ news) → w.grownBy w' (Value.slice A0 n c0).ownBlock →
      ((Value.slice A' (n + m) c').ownBlock = (Value.slice A0 n c0).ownBlock ∨ (Value.slice A' (n + m) c').ownBlock = some w.heap.size) → K (a.put o.dst (.slice A' (n + m) c')) w') :
    if Region.wanted o (yielded ops a.tmps) = true then Oper.wp P o a w K Q else F := by
  obtain ⟨i, hi, hz, hs1, hb1⟩ := T.hi
  refine step_append_any (P := P) w hgd s x t ho base e i z size bytes T.ht hi hz hs1 hb1 T.hz T.hs _ n xs hs hown B A m c news hx hr h1 h63 hbytes hb fun v' w' h2 h3 h4 => ?_
  have hex : ∃ A' c', v' = .slice A' (n + m) c' := by
    rcases h2.2 with ⟨rfl, h0⟩ | ⟨g, cap, cur, rfl, _⟩
    · exact ⟨none, 0, by rw [h0]⟩
    · exact ⟨_, cap, rfl⟩
  obtain ⟨A', c', rfl⟩ := hex
  exact h A' c' w' h2 h3 h4
theorem reads_blk {w : World} {g : Nat} {t : TypeId} {x : Value} (h : Blk w g t #[x]) : Reads w w.heap.size 1 (some ⟨g, 0, none⟩) 1 [x] := by
  refine ⟨by simp, fun _ => ⟨_, rfl, h.lt, fun j u hu => ?_⟩⟩
  rw [add_flat, h.cell]
  simpa using hu

theorem IObj.mkFree {w : World} {B x E : Nat} {G : Int} {As : Option Addr} {cs : Nat} {Af' : Option Addr} {cf' : Nat} {s : Sl} {f' : List Int} {v : Value} (hB : B ≤ x) (hx : Blk w x 57 #[.slice As s.length cs, v, .int .i64 E, .int .i64 G]) (hs : w.ownsRow B 68 2 (.slice As s.length cs) s.length (flatI s)) (hf : w.ownsRow B 3 1 (.slice Af' f'.length cf') f'.length (ints f')) :
    IObj (w.setCell ⟨x, 1, none⟩ (.slice Af' f'.length cf')) B x E G As cs Af' cf' s f' := by
  have h1 : As.map (·.block) ≠ some x := by
    have := own_blk_ne hs hx (by decide)
    rwa [own_map] at this
  have h2 : Af'.map (·.block) ≠ some x := by
    have := own_blk_ne hf hx (by decide)
    rwa [own_map] at this
  refine ⟨hB, ?_, own_far hs (by exact h1) _, own_far hf (by exact h2) _⟩
  have := hx.set_ 1 (.slice Af' f'.length cf')
  simpa using this
theorem IObj.sfs {w : World} {B x E : Nat} {G : Int} {As : Option Addr} {cs : Nat} {Af : Option Addr} {cf : Nat} {s : Sl} {f : List Int} (h : IObj w B x E G As cs Af cf s f) : As.map (·.block) = none ∨ As.map (·.block) ≠ Af.map (·.block) := by
  cases As with
  | none => exact .inl rfl
  | some ad =>
    obtain ⟨g, rfl, _⟩ := own_someN h.hs rfl
    exact .inr (fun e => h.sf rfl e.symm)
theorem alive_to (b : Bool) (B x E : Nat) (G : Int) (As : Option Addr) (cs : Nat) (Af : Option Addr) (cf : Nat) (s : Sl) (f : List Int) (i g : Int) (hb : aliveB s i g = b) (w : World) (h : IObj w B x E G As cs Af cf s f) :
    Calls Try.prog 9 #[.pointer (some ⟨x, 0, none⟩), .agg #[.int .i64 i, .int .i64 g]] w fun e w' => e = .returned (.bool b) ∧ Below w.heap.size w w' := by
  rw [← hb]
  exact alive_any B x E G As cs Af cf s f i g w h

set_option maxHeartbeats 1000000 in
theorem give_stale (B x E : Nat) (G : Int) (As : Option Addr) (cs : Nat) (Af : Option Addr) (cf : Nat) (s : Sl) (f : List Int) (i g : Int) (hs : atL s i ≠ some g) (w : World) (h : IObj w B x E G As cs Af cf s f) :
    Calls Try.prog 17 #[.pointer (some ⟨x, 0, none⟩), .agg #[.int .i64 i, .int .i64 g]] w fun e w' => e = .returned (.int .i64 5) ∧ PostI w B x E G As Af s f w' := by
  have hb : Below w.heap.size w (w.alloc (.cells #[.int .i64 i, .int .i64 g] 28)) := (Below.refl _ _).alloc (Nat.le_refl _) _
  have H1 := Lib.hid (h.over hb)
  have HB := Lib.hid hb
  have H := Lib.hid h
  have HA := Lib.hid (show aliveB s i g = false from decide_eq_false hs)
  have HK := Blk.new w 28 #[.int .i64 i, .int .i64 g]
  have k0 := blk0 HK
  have k1 := blk1 HK
  clear h hb hs HK
  go_enter Try.func17, Try.ntmps17
  go_wp2_with fail
  refine (alive_to false _ _ _ _ _ _ _ _ _ _ i g HA.out _ H1.out).mono ?_
  rintro e1 w1 ⟨rfl, hb1⟩
  have HB2 := Lib.hid (HB.out.trans (hb1.mono HB.out.size))
  clear hb1
  go_wp2_with fail
  go_ret
  exact ⟨rfl, PostI.same H.out HB2.out⟩

set_option maxRecDepth 100000 in
set_option maxHeartbeats 2000000 in
theorem give_alive (B x E : Nat) (G : Int) (As : Option Addr) (cs : Nat) (Af : Option Addr) (cf : Nat) (s : Sl) (f : List Int) (k : Nat) (g : Int) (hg0 : 0 ≤ g) (hg1 : g ≤ 1073741824) (hfl : f.length ≤ 2000) (hy : s[k]? = some (g, true)) (f' : List Int) (hf' : f' = if g + 1 < G then f ++ [(k : Int)] else f) (w : World) (h : IObj w B x E G As cs Af cf s f) :
    Calls Try.prog 17 #[.pointer (some ⟨x, 0, none⟩), .agg #[.int .i64 k, .int .i64 g]] w fun e w' => e = .returned (.int .i64 0) ∧ PostI w B x E G As Af (s.set k (g + 1, false)) f' w' := by
  have HF := Lib.hid hf'
  clear hf'
  have hb : Below w.heap.size w (w.alloc (.cells #[.int .i64 k, .int .i64 g] 28)) := (Below.refl _ _).alloc (Nat.le_refl _) _
  have H1 := Lib.hid (h.over hb)
  have HB := Lib.hid hb
  have H := Lib.hid h
  have HY := Lib.hid hy
  have HA := Lib.hid (show aliveB s k g = true from decide_eq_true (atL_of hy))
  have HK := Lib.hid (Blk.new w 28 #[.int .i64 k, .int .i64 g])
  have k0 := blk0 HK.out
  have k1 := blk1 HK.out
  have hwr : IntKind.i64.wrap (g + 1) = g + 1 := by rw [IntKind.wrap_i64]; omega
  obtain ⟨gs, rfl, hkl, _, hgw, _⟩ := h.slot hy
  have hlx := h.lt
  have hk0 : (0 : Int) ≤ k := by omega
  have hk1 : (k : Int) < s.length := by omega
  clear h hb hy hkl
  go_enter Try.func17, Try.ntmps17
  go_wp2_with fail
  refine (alive_to true _ _ _ _ _ _ _ _ _ _ k g HA.out _ H1.out).mono ?_
  rintro e1 w1 ⟨rfl, hb1⟩
  have HB2 := Lib.hid (HB.out.trans (hb1.mono HB.out.size))
  have H2 := Lib.hid (H1.out.over hb1)
  have HK2 := Lib.hid (HK.out.below hb1 HK.out.lt)
  clear hb1 k0 k1
  have k0 := blk0 HK2.out
  have c0 := blk4_0 H2.out.hx
  go_wp2_with fail
  go_quiet (fail)
  have H3 := Lib.hid (H2.out.drewN nq)
  have HK3 := Lib.hid (HK2.out.drewN nq)
  have HB3 := Lib.hid (show Below w.heap.size w (w1.drewN nq) from ⟨HB2.out.os, HB2.out.tape, HB2.out.output, HB2.out.size, HB2.out.block⟩)
  clear k0 c0
  generalize w1.drewN nq = Y at H3 HK3 HB3 ⊢
  obtain ⟨gs', he, _, _, hgl, q0, q1, qf⟩ := H3.out.slot HY.out
  obtain rfl : gs' = gs := by simpa using he.symm
  have qf0 := qf (k * 2)
  have qf1 := qf (k * 2 + 1)
  clear he qf
  go_wp2_with fail
  have HZ := Lib.hid (H3.out.setBoth rfl HY.out (g + 1) false)
  have HKZ := Lib.hid ((HK3.out.far (p := ⟨gs', k * 2, none⟩) (by dsimp only; omega) (.int .i64 (g + 1))).far (p := ⟨gs', k * 2 + 1, none⟩) (by dsimp only; omega) (.bool false))
  have fz : Fr (OwnK x (some ⟨gs', 0, none⟩) Af) w _ := ((Fr.of_below (O := OwnK x (some ⟨gs', 0, none⟩) Af) HB3.out).set_ (p := ⟨gs', k * 2, none⟩) (.inl (.inr (.inl rfl))) (.int .i64 (g + 1))).set_ (p := ⟨gs', k * 2 + 1, none⟩) (.inl (.inr (.inl rfl))) (.bool false)
  have FZ := Lib.hid fz
  clear fz q0 q1 qf0 qf1 HB3 H3 HK3 hgl H1 H2 HK2 HB HB2 HK
  generalize (Y.setCell ⟨gs', k * 2, none⟩ (.int .i64 (g + 1))).setCell ⟨gs', k * 2 + 1, none⟩ (.bool false) = Z at HZ HKZ FZ ⊢
  obtain ⟨gs2, he, _, _, _, q0, q1, _⟩ := HZ.out.slot (get_set_eq HY.out)
  obtain rfl : gs2 = gs' := by simpa using he.symm
  dsimp only at q0 q1
  have c3 := blk4_3 HZ.out.hx
  clear he
  by_cases hG : g + 1 < G
  · have d : decide (g + 1 < G) = true := by simpa using hG
    obtain rfl : f' = f ++ [(k : Int)] := by rw [HF.out, if_pos hG]
    go_quiet (fail)
    have HZ1 := Lib.hid (HZ.out.drewN nq)
    have HKZ1 := Lib.hid (HKZ.out.drewN nq)
    have FZ1 := Lib.hid (FZ.out.drewN nq)
    clear q0 q1 c3 d hG HZ HKZ FZ
    generalize Z.drewN nq = X at HZ1 HKZ1 FZ1 ⊢
    have c1 := blk4_1 HZ1.out.hx
    have z1 := HZ1.out.hx.frozen 1
    have k0 := blk0 HKZ1.out
    have lX := HZ1.out.lt
    have lK := HKZ1.out.lt
    have e1 : X.heap.size ≠ x := by omega
    have e2 : x ≠ X.heap.size := by omega
    have e3 : X.heap.size ≠ w.heap.size := by omega
    have e4 : w.heap.size ≠ X.heap.size := by omega
    have hBX : B ≤ X.heap.size := by have := HZ1.out.hB; omega
    have HZ2 := Lib.hid (HZ1.out.over ((Below.refl _ _).alloc (Nat.le_refl _) (.cells #[.int .i64 (k : Int)] 3)))
    have RD := Lib.hid (reads_blk (Blk.new X 3 #[.int .i64 (k : Int)]))
    go_wp2_with fail
    go_region_law
      (first
        | (refine step_appN (xs := ints f) (n := f.length) (c0 := cf) (A0 := Af) (A := some ⟨X.heap.size, 0, none⟩) (m := 1) (c := 1) _ i64_tyN (by rfl) (.tmp 43) (.tmp 46) (by rfl) (by simp [Act.eval]) HZ2.out.drew.hf (by simp; omega) (by simp [Act.eval]) RD.out.drew (ints_one [(k : Int)]) (by unfold maxLen; omega) (by omega) ?_
           intro A4 c4 w4 own4 hg4 hat4
           rw [own_map] at hg4 hat4
           have hx4 := HZ2.out.drew.hx.grown hg4 (fun e => HZ2.out.fx e.symm)
           have k1 := blk4_1 hx4
           have y1 := hx4.frozen 1
           have hs4 := HZ2.out.drew.hs.kept hg4 (by rw [own_map]; exact HZ2.out.sfs)
           have HX4 := Lib.hid hx4
           have O4 := Lib.hid own4
           have S4 := Lib.hid hs4
           have T4 := Lib.hid hat4
           have F4 := Lib.hid (((FZ1.out.alloc (.cells #[.int .i64 (k : Int)] 3)).drew).grown hg4 (fun j hj => .inl (.inr (.inr hj))))
           clear own4 hg4 hat4 hx4 hs4)
        | fail)
    all_goals (
      have own4 := O4.out
      rw [show [Value.int .i64 (k : Int)] = ints [(k : Int)] from rfl, ints_append, show f.length + 1 = (f ++ [(k : Int)]).length by simp] at own4
      have o2 := IObj.mkFree HZ1.out.hB HX4.out S4.out own4
      rw [show (f ++ [(k : Int)]).length = f.length + 1 by simp] at o2
      have O2 := Lib.hid o2
      have F5 := Lib.hid (F4.out.set_ (p := ⟨x, 1, none⟩) (.inl (.inl rfl)) (.slice A4 (f.length + 1) c4))
      clear own4 o2
      go_wp2_with fail
      go_ret
      refine ⟨rfl, _, _, _, _, O2.out, F5.out, ?_⟩
      have t4 := T4.out
      rw [own_map] at t4
      rintro j (e | e | e)
      · exact .inl (.inl e)
      · exact .inl (.inr (.inl e))
      · rcases t4 with h4 | h4
        · exact .inl (.inr (.inr (h4.symm.trans e)))
        · rw [h4] at e
          simp only [World.size_drew, World.size_alloc, Option.some.injEq] at e
          have := FZ1.out.size
          exact .inr (by omega))
  · have d : decide (g + 1 < G) = false := by simpa using hG
    obtain rfl : f' = f := by rw [HF.out, if_neg hG]
    go_quiet (fail)
    have HZ1 := Lib.hid (HZ.out.drewN nq)
    have FZ1 := Lib.hid (FZ.out.drewN nq)
    clear q0 q1 c3 d hG HZ HKZ FZ
    go_wp2_with fail
    go_ret
    exact ⟨rfl, _, _, _, _, HZ1.out, FZ1.out, fun _ hk => .inl hk⟩

/-- Give, whichever way it goes -/
theorem give_any (B x E : Nat) (G : Int) (As : Option Addr) (cs : Nat) (Af : Option Addr) (cf : Nat) (s : Sl) (f : List Int) (hfl : f.length ≤ 2000) (inv : IInv E G s f) (i g e : Int) (s' : Sl) (f' : List Int) (ht : GiveIs G s f i g e s' f') (w : World) (h : IObj w B x E G As cs Af cf s f) :
    Calls Try.prog 17 #[.pointer (some ⟨x, 0, none⟩), .agg #[.int .i64 i, .int .i64 g]] w fun en w' => en = .returned (.int .i64 e) ∧ PostI w B x E G As Af s' f' w' := by
  cases ht with
  | stale hs => exact give_stale B x E G As cs Af cf s f i g hs w h
  | back k hi hy hG =>
    subst hi
    have hb := inv.bound hy
    exact give_alive B x E G As cs Af cf s f k g hb.1 hb.2 hfl hy _ (by rw [if_pos hG]) w h
  | worn k hi hy hG =>
    subst hi
    have hb := inv.bound hy
    exact give_alive B x E G As cs Af cf s f k g hb.1 hb.2 hfl hy _ (by rw [if_neg hG]) w h
end Go.Proofs.Ytohlcopnifmjoab
