/- ids: no name is taken twice, whatever is given back. -/
import Derived.Test.YtohlcopnifmjoabDo
import Derived.Test.YtohlcopnifmjoabOpen
namespace Go.Proofs.Ytohlcopnifmjoab
open Go.RowKit

theorem id_info : (Try.prog.info? 28).map (fun i => (i.zero, i.size, i.bytes)) = some (some (.agg #[.int .i64 0, .int .i64 0]), 2, 16) := by kernel_rfl
theorem id_ty : TyN Try.prog 26 28 (.agg #[.int .i64 0, .int .i64 0]) 2 16 := ⟨Try.underlying26, by obtain ⟨i, h⟩ := info_parts id_info; exact ⟨i, h⟩, rfl, by decide⟩
def flatN (l : List (Int × Int)) : List Value := l.flatMap fun p => [.int .i64 p.1, .int .i64 p.2]
theorem flatN_length (l : List (Int × Int)) : (flatN l).length = l.length * 2 := by
  induction l with
  | nil => rfl
  | cons x s ih => simp [flatN] at ih ⊢; omega
theorem flatN_append (s t : List (Int × Int)) : flatN s ++ flatN t = flatN (s ++ t) := by simp [flatN]
theorem flatN_get {s : List (Int × Int)} {k : Nat} {x : Int × Int} (h : s[k]? = some x) : (flatN s)[k * 2]? = some (.int .i64 x.1) ∧ (flatN s)[k * 2 + 1]? = some (.int .i64 x.2) := by
  induction s generalizing k with
  | nil => simp at h
  | cons y s ih =>
    rcases k with _ | k
    · simp at h
      subst h
      simp [flatN]
    · have := ih (by simpa using h)
      simp only [flatN, List.flatMap_cons] at this ⊢
      rw [show (k + 1) * 2 = k * 2 + 2 from by omega]
      simpa using this

theorem own_own_ne {w : World} {B B' size size' n n' c c' : Nat} {e e' : TypeId} {A A' : Option Addr} {xs xs' : List Value} (h : w.ownsRow B e size (.slice A n c) n xs) (h' : w.ownsRow B' e' size' (.slice A' n' c') n' xs') (hne : e ≠ e') {g : Nat} (hg : A.map (·.block) = some g) : A'.map (·.block) ≠ some g := by
  rcases h.2 with ⟨hv, _⟩ | ⟨g1, cap, cur, hv, _, hh, _⟩
  · simp at hv
    obtain ⟨rfl, _⟩ := hv
    cases hg
  · simp at hv
    obtain ⟨rfl, _⟩ := hv
    simp at hg
    subst hg
    have := own_blk_ne h' (g := g1) (t := e) (cs := cur) hh (fun e => hne e.symm)
    rwa [own_map] at this
theorem own_fr {w w' : World} {O : Nat → Prop} {B size n c : Nat} {e : TypeId} {A : Option Addr} {xs : List Value} (h : w.ownsRow B e size (.slice A n c) n xs) (hf : Fr O w w') (hne : ∀ g, A.map (·.block) = some g → ¬ O g) : w'.ownsRow B e size (.slice A n c) n xs := by
  refine ⟨h.1, ?_⟩
  rcases h.2 with h' | ⟨g, cap, cur, hv, hb, hh, rest⟩
  · exact .inl h'
  · refine .inr ⟨g, cap, cur, hv, hb, (hf.block g (Array.getElem?_eq_some_iff.1 hh).1 (hne g ?_)).trans hh, rest⟩
    injection hv with hv
    rw [hv]; rfl
/-- a row of another type lies apart from the object -/
theorem IObj.apart {w : World} {B x E : Nat} {G : Int} {As : Option Addr} {cs : Nat} {Af : Option Addr} {cf : Nat} {s : Sl} {f : List Int} {B' size n c : Nat} {e : TypeId} {A : Option Addr} {xs : List Value} (h : IObj w B x E G As cs Af cf s f) (h' : w.ownsRow B' e size (.slice A n c) n xs) (h1 : e ≠ 57) (h2 : e ≠ 68) (h3 : e ≠ 3) : ∀ g, A.map (·.block) = some g → ¬ OwnK x As Af g := by
  rintro g hg (rfl | hk | hk)
  · have := own_blk_ne h' h.hx h1
    rw [own_map] at this
    exact this hg
  · exact own_own_ne h' h.hs h2 hg hk
  · exact own_own_ne h' h.hf h3 hg hk

set_option maxRecDepth 100000 in
set_option maxHeartbeats 4000000 in
theorem once_any (n m : Int) (A : Option Addr) (nn c : Nat) (ss : List StV) (w : World) (ok : (⟨A, nn, c, ss⟩ : Stp).ok w) :
    Calls Try.prog 3 #[.int .i64 n, .int .i64 m, .slice A nn c] w fun e w' => e = .returned (.bool true) ∧ Below w.heap.size w w' := by
  have hL := ok.len
  have hmax := ok.hn
  unfold maxLen at hmax
  dsimp only at hL hmax
  have OK := Lib.hid ok
  have HL := Lib.hid hL
  clear ok hL
  by_cases h60 : 60 < nn
  · go_enter Try.func3, Try.ntmps3
    go_wp2_with (go_at_call 6; refine (live_any _).mono ?_; rintro e w' ⟨rfl, hb⟩; have HB := Lib.hid hb; clear hb)
    go_ret
    exact ⟨rfl, HB.out⟩
  have d60 : decide (60 < (nn : Int)) = false := by simp; omega
  go_enter Try.func3, Try.ntmps3
  go_wp2_with fail
  refine (new_any n m _).mono ?_
  rintro e w1 ⟨rfl, h1, hb1⟩
  obtain ⟨E, hE⟩ : ∃ E, E = nearL n 1024 := ⟨_, rfl⟩
  obtain ⟨G, hG⟩ : ∃ G, G = nearL m 1073741824 := ⟨_, rfl⟩
  have inv := IInv.empty (nearL_pos n 1024 (by omega)) (nearL_le n 1024 (by omega)) (nearL_pos m 1073741824 (by omega)) (nearL_le m 1073741824 (by omega))
  rw [← hE, ← hG] at inv h1
  have IV := Lib.hid inv
  have H1 := Lib.hid h1
  have B1 := Lib.hid hb1
  clear h1 hb1 inv hE hG
  go_wp2_with fail
  go_loopw [8, 9] (fun a i wr => ∃ j : Nat, j ≤ nn ∧ i = .int .i64 j ∧ ∃ (s : Sl) (f : List Int) (l : List (Int × Int)) (As : Option Addr) (cs : Nat) (Af : Option Addr) (cf : Nat) (Aa : Option Addr) (la ca : Nat), a = .slice Aa la ca ∧ la ≤ j ∧ f.length ≤ j ∧ Hid (l.length = la) ∧ Hid (IInv E G s f) ∧ Hid (Named s l) ∧ Hid (IObj wr w.heap.size w.heap.size E G As cs Af cf s f) ∧ Hid (wr.ownsRow w.heap.size 28 2 (.slice Aa la ca) la (flatN l)) ∧ Hid (Below w.heap.size w wr)) (fun _ i _ => nn - (intOf i).toNat)
  case atStart => exact ⟨0, Nat.zero_le _, rfl, [], [], [], none, 0, none, 0, none, 0, 0, rfl, by simp, by simp, Lib.hid rfl, IV, Lib.hid Named.empty, H1, Lib.hid (World.ownsRow_nil _ _ _ _), B1⟩
  case round =>
    obtain ⟨j, hj, rfl, s, f, l, As, cs, Af, cf, Aa, la, ca, rfl, hla, hfl, HLL, HI, HN, HO, HA, HB⟩ := hrel
    clear IV H1 B1
    by_cases hlt : j < nn
    · obtain ⟨b, off, x, he, hbl, hx, hc0, hc1, hc2⟩ := (OK.out.over HB.out).at_ hlt
      dsimp only at he hx
      obtain ⟨rfl⟩ := he
      have HX := Lib.hid hx
      obtain ⟨p, q, e, s', f', hst⟩ := step_total E G s f HI.out x.i x.g x.gv
      have HST := Lib.hid hst
      have HI' := Lib.hid (HI.out.step hst)
      have hfl' := hst.flen
      clear hst hx
      go_wp2_with fail
      refine (do_any _ _ E G _ _ _ _ s f (by omega) HI.out _ _ _ _ _ _ _ _ HST.out _ HO.out).mono ?_
      rintro e2 w2 ⟨rfl, As', cs', Af', cf', ho, hfr, hno⟩
      have ha2 := own_fr HA.out hfr (HO.out.apart HA.out (by decide) (by decide) (by decide))
      have hb2 := HB.out.trans (hfr.below (fun k hk => (HO.out.own hk).1) HB.out.size)
      have HO2 := Lib.hid ho
      have HA2 := Lib.hid ha2
      have HB2 := Lib.hid hb2
      clear hc0 hc1 hc2 ho hfr hno ha2 hb2 HO HA HB
      obtain ⟨_, _, x', he, _, hx', hc0, hc1, hc2⟩ := (OK.out.over HB2.out).at_ hlt
      dsimp only at he hx'
      obtain ⟨rfl, rfl⟩ : _ ∧ _ := by simpa using he
      obtain rfl : x' = x := by have := HX.out; rw [hx'] at this; injection this
      clear he hx'
      obtain ⟨gv, i, g⟩ := x'
      dsimp only at hc0 hc1 hc2 HST
      have ba := (Below.refl w2.heap.size w2).alloc (Nat.le_refl _) (.cells #[.int .i64 p, .int .i64 q] 28)
      have HO3 := Lib.hid (HO2.out.over ba)
      have HA3 := Lib.hid (HA2.out.alloc (.cells #[.int .i64 p, .int .i64 q] 28))
      have HB3 := Lib.hid (HB2.out.alloc HB2.out.size (.cells #[.int .i64 p, .int .i64 q] 28))
      have HK3 := Lib.hid (Blk.new w2 28 #[.int .i64 p, .int .i64 q])
      clear ba
      cases gv with
      | true =>
        have HN' : Hid (Named s' l) := by
          have := HST.out
          cases this with
          | give ht => exact HN.out.give ht
        go_wp2_with fail
        exact ⟨⟨j + 1, by omega, by go_num, s', f', l, As', cs', Af', cf', Aa, la, ca, rfl, by omega, by omega, HLL, HI', HN', HO3, HA3, HB3⟩, by simp [intOf]; omega⟩
      | false =>
        have HT : Hid (TakeIs E s f p q e s' f') := by
          have := HST.out
          cases this with
          | take ht => exact ht
        by_cases he0 : e = 0
        · subst he0
          have HNN := Lib.hid (HN.out.take HI.out HT.out)
          go_wp2_with fail
          clear hc0 hc1 hc2
          generalize w2.alloc (.cells #[.int .i64 p, .int .i64 q] 28) = X at HO3 HA3 HB3 HK3 ⊢
          generalize w2.heap.size = z at HK3 ⊢
          have hla2 : la ≤ 60 := by omega
          go_loopw [12] (fun k wi => ∃ k' : Nat, k' ≤ la ∧ k = .int .i64 k' ∧ Hid (∃ d, wi = X.drewN d)) (fun k _ => la - (intOf k).toNat)
          case atStart => exact ⟨0, Nat.zero_le _, rfl, 0, rfl⟩
          case round =>
            obtain ⟨k, hk, rfl, ⟨d, rfl⟩⟩ := hrel
            by_cases hkl : k < la
            · obtain ⟨ga, hga, _, _⟩ := own_pos HA3.out (by omega)
              subst hga
              have hkl2 : k < l.length := by rw [HLL.out]; exact hkl
              obtain ⟨y, hy⟩ : ∃ y, y = l[k] := ⟨_, rfl⟩
              have hyl : l[k]? = some y := by rw [hy, List.getElem?_eq_getElem hkl2]
              have hyg := flatN_get hyl
              have q0 := (HA3.out.cellAt (k * 2) (by omega)).trans hyg.1
              have q1 := (HA3.out.cellAt (k * 2 + 1) (by omega)).trans hyg.2
              have k0 := blk0 HK3.out
              have k1 := blk1 HK3.out
              have hne : y.1 = p → y.2 ≠ q := fun h1 h2 => HNN.out.1 (by rw [← h1, ← h2]; exact List.mem_of_getElem? hyl)
              clear hy hyl hyg hkl2
              obtain ⟨y1, y2⟩ := y
              dsimp only at q0 q1 hne
              by_cases h1 : y1 = p
              · subst h1
                have d2 : (y2 == q) = false := by rw [beq_eq_false_iff_ne]; exact hne rfl
                clear hne
                go_wp2_with fail
                go_quiet (fail)
                go_wp2_with fail
                exact ⟨⟨k + 1, by omega, by go_num, d + nq, rfl⟩, by simp [intOf]; omega⟩
              · have d1 : (y1 == p) = false := by rw [beq_eq_false_iff_ne]; exact h1
                clear hne h1
                go_wp2_with fail
                go_quiet (fail)
                go_wp2_with fail
                exact ⟨⟨k + 1, by omega, by go_num, d + nq, rfl⟩, by simp [intOf]; omega⟩
            · have HO4 := Lib.hid (HO3.out.drewN d)
              have HA4 : Hid ((X.drewN d).ownsRow w.heap.size 28 2 (.slice Aa la ca) la (flatN l)) := HA3.out
              have HB4 := Lib.hid (show Below w.heap.size w (X.drewN d) from ⟨HB3.out.os, HB3.out.tape, HB3.out.output, HB3.out.size, HB3.out.block⟩)
              have HK4 := Lib.hid (HK3.out.drewN d)
              have HAL := Lib.hid (show aliveB s' p q = true from decide_eq_true HNN.out.2.2)
              have k0 := blk0 HK4.out
              have k1 := blk1 HK4.out
              go_wp2_with fail
              refine (alive_to true _ _ _ _ _ _ _ _ _ _ p q HAL.out _ HO4.out).mono ?_
              rintro e5 w5 ⟨rfl, hb5⟩
              have HO5 := Lib.hid (HO4.out.over hb5)
              have HA5 := Lib.hid (own_fr HA4.out (Fr.of_below (O := fun _ => False) hb5) (fun _ _ h => h))
              have HB5 := Lib.hid (HB4.out.trans (hb5.mono HB4.out.size))
              have HK5 := Lib.hid (HK4.out.below hb5 HK4.out.lt)
              have k0 := blk0 HK5.out
              have k1 := blk1 HK5.out
              have lz := HK5.out.lt
              clear hb5
              have HO6 := Lib.hid (HO5.out.over ((Below.refl _ _).alloc (Nat.le_refl _) (.cells #[.int .i64 p, .int .i64 q] 28)))
              have HA6 := Lib.hid (HA5.out.alloc (.cells #[.int .i64 p, .int .i64 q] 28))
              have HB6 := Lib.hid (HB5.out.alloc HB5.out.size (.cells #[.int .i64 p, .int .i64 q] 28))
              have HR6 := Lib.hid (reads_newN w5 28 (0, 0) 2 1 [.int .i64 p, .int .i64 q] rfl)
              have one : ∀ u ∈ [Value.int .i64 p, Value.int .i64 q], u.oneCell' = true := by intro u hu; simp at hu; rcases hu with rfl | rfl <;> rfl
              go_wp2_with (at_builtin
                           go_must (
                             refine wpList_appN _ id_ty rfl (.tmp 62) (.tmp 64) rfl rfl HA6.out HB6.out.size rfl HR6.out one (by unfold maxLen; omega) (by omega) ?_
                             intro A7 c7 w7 own7 hg7 hat7
                             have HO7 := Lib.hid (HO6.out.keep (w' := w7) fun k hk => hg7.block k (HO6.out.own hk).2 (fun e => HO6.out.apart HA6.out (by decide) (by decide) (by decide) k (by rw [← own_map]; exact e.symm) hk))
                             have hb7 := HB6.out.grown hg7 HB6.out.size (fun k hk => (HA6.out.lt k hk).1)
                             rw [show [Value.int .i64 p, Value.int .i64 q] = flatN [(p, q)] from rfl, flatN_append] at own7
                             have HA7 := Lib.hid own7
                             have HB7 := Lib.hid hb7
                             clear own7 hg7 hat7 hb7))
              exact ⟨⟨j + 1, by omega, by go_num, s', f', l ++ [(p, q)], As', cs', Af', cf', A7, la + 1, c7, rfl, by omega, by omega, by simp; exact HLL.out, HI', HNN.out.2.1, HO7, HA7, HB7⟩, by simp [intOf]; omega⟩
        · have HN' := Lib.hid (HN.out.take_not HT.out he0)
          have d : (e == 0) = false := by rw [beq_eq_false_iff_ne]; exact he0
          go_wp2_with fail
          exact ⟨⟨j + 1, by omega, by go_num, s', f', l, As', cs', Af', cf', Aa, la, ca, rfl, by omega, by omega, HLL, HI', HN', HO3, HA3, HB3⟩, by simp [intOf]; omega⟩
    · go_wp2_with (go_at_call 6; refine (live_any _).mono ?_; rintro e w' ⟨rfl, hb⟩; have HB2 := Lib.hid hb; clear hb)
      go_ret
      exact ⟨rfl, HB.out.trans (HB2.out.mono HB.out.size)⟩
end Go.Proofs.Ytohlcopnifmjoab
