/- Confs: the program's check, the walk. -/
import Derived.Test.YtohlcopnifmjoadComp
namespace Go.Proofs.Ytohlcopnifmjoad
open Go.RowKit

set_option maxHeartbeats 4000000 in
theorem check_to (b0 : Bool) (l p e g : Int) (A : Option Addr) (n cap : Nat) (cs : List Cmp) (hb0 : b0 = true ↔ rightP l p e g cs) (w : World) (h : (⟨l, p, e, g, A, n, cap, cs⟩ : Cnf).ok w) :
    Calls Try.prog 27 #[.agg #[.int .i64 l, .int .i64 p, .int .i64 e, .int .i64 g, .slice A n cap]] w fun e w' => e = .returned (.int .i64 (codeB b0)) ∧ Below w.heap.size w w' := by
  have hlen := h.len
  have hn := h.hn
  unfold maxLen at hn
  have hnc := h.hnc
  dsimp only at hlen hn hnc
  have HL := Lib.hid hlen
  clear hlen
  have HB0 := Lib.hid hb0
  clear hb0
  have b1 : Below w.heap.size w (w.alloc (.cells #[.int .i64 l, .int .i64 p, .int .i64 e, .int .i64 g, .slice A n cap] 24)) := (Below.refl _ _).alloc (Nat.le_refl _) _
  have h1 := h.over b1
  have cl := fun j => new_cell w #[.int .i64 l, .int .i64 p, .int .i64 e, .int .i64 g, .slice A n cap] 24 j
  have c0 := cl 0
  have c1 := cl 1
  have c2 := cl 2
  have c3 := cl 3
  have c4 := cl 4
  clear cl
  cases x1 : withinB l 2 1024 <;> cases x2 : withinB p 4 1024 <;> cases x3 : withinB e 1 1024 <;> cases x4 : withinB g 1 1073741824
  case true.true.true.true =>
    have XX := Lib.hid (And.intro x1 (And.intro x2 (And.intro x3 x4)))
    go_enter Try.func27, Try.ntmps27
    go_wp2_with fail
    generalize w.alloc (.cells #[.int .i64 l, .int .i64 p, .int .i64 e, .int .i64 g, .slice A n cap] 24) = W at b1 h1 c0 c1 c2 c3 c4 ⊢
    simp only [List.getElem?_toArray, List.getElem?_cons_succ, List.getElem?_cons_zero] at c0 c1 c2 c3 c4
    have B1 := Lib.hid b1
    have H1 := Lib.hid h1
    clear b1 h1 h
    go_step3
    by_cases hn32 : 32 < n
    · have hb : Hid (codeB b0 = 1) := by
        cases b0
        · rfl
        · exfalso
          have := (HB0.out.1 rfl).hn
          rw [HL.out] at this
          omega
      go_wp2_with (go_at_call 28; refine (within_any _ _ _ _).mono ?_; rintro e w' ⟨rfl, rfl⟩)
      rw [Exit.noGoto_ret]
      go_ret
      exact ⟨ret_int hb.out.symm, B1.out⟩
    go_wp2_with (go_at_call 28; refine (within_any _ _ _ _).mono ?_; rintro e w' ⟨rfl, rfl⟩)
    go_step3
    go_wp2
    go_loopw [40] (fun i wr => ∃ k : Nat, k ≤ n ∧ i = .int .i64 k ∧ Hid (Below W.heap.size W wr) ∧ Hid (∀ j, j < k → compOk cs j)) (fun i _ => n - (intOf i).toNat)
    case atStart => exact ⟨0, by omega, rfl, Below.refl _ _, fun j hj => by omega⟩
    case round =>
      obtain ⟨k, hk, rfl, HB, HO⟩ := hrel
      by_cases hlt : k < n
      · obtain ⟨b, off, x, he, hab, hx, hc, hc'⟩ := (H1.out.over HB.out).at_ hlt
        have f4 := HB.out.cell (p := ⟨w.heap.size, 4, none⟩) (block_lt_of_cell c4)
        rw [c4] at f4
        dsimp only at he hx hc hc'
        subst he
        have HX := Lib.hid hx
        clear hx
        obtain ⟨nm, sz⟩ := x
        dsimp only at hc hc'
        have b2 : Below W.heap.size W (wr.alloc (.cells #[.string nm, .int .i64 sz] 36)) := HB.out.alloc HB.out.size _
        have g4 := b2.cell (p := ⟨w.heap.size, 4, none⟩) (block_lt_of_cell c4)
        rw [c4] at g4
        have y0 := new_cell wr #[.string nm, .int .i64 sz] 36 0
        have y1 := new_cell wr #[.string nm, .int .i64 sz] 36 1
        have hq : w.heap.size < wr.heap.size := Nat.lt_of_lt_of_le (block_lt_of_cell c4) HB.out.size
        have hnm : nm.size ≤ maxLen := ((H1.out.hs _ (List.mem_of_getElem? HX.out))).1
        obtain ⟨wo, rfl⟩ : ∃ wo : World, wo = wr := ⟨_, rfl⟩
        go_wp2_with fail
        generalize wo.alloc (.cells #[.string nm, .int .i64 sz] 36) = W2 at b2 g4 y0 y1 ⊢
        simp only [List.getElem?_toArray, List.getElem?_cons_succ, List.getElem?_cons_zero] at y0 y1
        have B2 := Lib.hid b2
        clear b2
        go_loopw [50] (fun i wr => ∃ j : Nat, j ≤ k ∧ i = .int .i64 j ∧ Hid (Below W2.heap.size W2 wr) ∧ Hid (∀ (j' : Nat) (y : Cmp), j' < j → cs[j']? = some y → y.name ≠ nm)) (fun i _ => k - (intOf i).toNat)
        case atStart => exact ⟨0, by omega, rfl, Below.refl _ _, fun j' _ hj' => by omega⟩
        case round =>
          obtain ⟨j, hj, rfl, HB2, HD⟩ := hrel
          by_cases hjk : j < k
          · have b3 := B2.out.trans (HB2.out.mono B2.out.size)
            obtain ⟨b', off', y, he, hab', hy, hd, hd'⟩ := (H1.out.over b3).at_ (by omega : j < n)
            dsimp only at he hy hd hd'
            obtain ⟨rfl, rfl⟩ : b' = b ∧ off' = off := by simp at he; exact ⟨he.1.symm, he.2.symm⟩
            clear he
            obtain ⟨nm', sz'⟩ := y
            dsimp only at hd hd'
            have b4 : Below W2.heap.size W2 (wr.alloc (.cells #[.string nm', .int .i64 sz'] 36)) := HB2.out.alloc HB2.out.size _
            have z0 := b4.cell (p := ⟨wo.heap.size, 0, none⟩) (block_lt_of_cell y0)
            rw [y0] at z0
            have B4 := Lib.hid b4
            have HY := Lib.hid hy
            clear b4 hy b3
            by_cases hne : nm' = nm
            · have n1 := toList_same hne.symm
              have hb : Hid (codeB b0 = 1) := by
                cases b0
                · rfl
                · exfalso
                  have := (HB0.out.1 rfl).hc k (by rw [HL.out]; exact hlt) _ HX.out
                  exact this.2.2.2 j _ hjk HY.out hne
              have B5 := Lib.hid (B1.out.trans ((B2.out.trans (B4.out.mono B2.out.size)).mono B1.out.size))
              clear hne
              go_wp2_with fail
              rw [Exit.noGoto_ret]
              go_ret
              exact ⟨ret_int hb.out.symm, B5.out⟩
            · have n1 := toList_ne (fun e => hne e.symm : nm ≠ nm')
              have HN := Lib.hid hne
              clear hne
              go_wp2_with fail
              refine ⟨⟨j + 1, by omega, by go_num, B4, fun j' y hj' hy => ?_⟩, by simp [intOf]; omega⟩
              rcases Nat.lt_or_ge j' j with h' | h'
              · exact HD.out j' y h' hy
              · obtain rfl : j' = j := by omega
                rw [HY.out] at hy
                injection hy with hy
                rw [← hy]
                exact HN.out
          · have z0 := HB2.out.cell (p := ⟨wo.heap.size, 0, none⟩) (block_lt_of_cell y0)
            have z1 := HB2.out.cell (p := ⟨wo.heap.size, 1, none⟩) (block_lt_of_cell y1)
            rw [y0] at z0
            rw [y1] at z1
            have B5 := Lib.hid (B2.out.trans (HB2.out.mono B2.out.size))
            cases hN : nameB nm
            · have hb : Hid (codeB b0 = 1) := by
                cases b0
                · rfl
                · exfalso
                  have := (HB0.out.1 rfl).hc k (by rw [HL.out]; exact hlt) _ HX.out
                  rw [hN] at this
                  exact absurd this.1 (by simp)
              have HN := Lib.hid hN
              clear hN
              go_wp2_with (go_at_call 29; go_must (refine (name_to _ false HN.out _ hnm).mono ?_; rintro e w' ⟨rfl, rfl⟩))
              rw [Exit.noGoto_ret]
              go_ret
              exact ⟨ret_int hb.out.symm, B1.out.trans (B5.out.mono B1.out.size)⟩
            · cases hS : withinB sz 0 64
              · have hb : Hid (codeB b0 = 1) := by
                  cases b0
                  · rfl
                  · exfalso
                    have := (HB0.out.1 rfl).hc k (by rw [HL.out]; exact hlt) _ HX.out
                    have h2 : withinB sz 0 64 = true := decide_eq_true ⟨this.2.1, this.2.2.1⟩
                    rw [h2] at hS
                    cases hS
                have HN := Lib.hid hN
                clear hN
                go_wp2_with (first | (go_at_call 29; go_must (refine (name_to _ true HN.out _ hnm).mono ?_; rintro e w' ⟨rfl, rfl⟩)) | (go_at_call 28; refine (within_any _ _ _ _).mono ?_; rintro e w' ⟨rfl, rfl⟩))
                rw [Exit.noGoto_ret]
                go_ret
                exact ⟨ret_int hb.out.symm, B1.out.trans (B5.out.mono B1.out.size)⟩
              · have HN := Lib.hid hN
                have HS := Lib.hid (of_decide_eq_true hS)
                clear hN
                go_wp2_with (first | (go_at_call 29; go_must (refine (name_to _ true HN.out _ hnm).mono ?_; rintro e w' ⟨rfl, rfl⟩)) | (go_at_call 28; refine (within_any _ _ _ _).mono ?_; rintro e w' ⟨rfl, rfl⟩))
                refine ⟨⟨k + 1, by omega, by go_num, B5, fun j' hj' => ?_⟩, by simp [intOf]; omega⟩
                rcases Nat.lt_or_ge j' k with h' | h'
                · exact HO.out j' h'
                · obtain rfl : j' = k := by omega
                  intro y hy
                  rw [HX.out] at hy
                  injection hy with hy
                  subst hy
                  exact ⟨HN.out, HS.out.1, HS.out.2, fun i y hi hy => HD.out i y (by omega) hy⟩
      · have hb : Hid (codeB b0 = 0) := by
          have : rightP l p e g cs := ⟨of_decide_eq_true XX.out.1, of_decide_eq_true XX.out.2.1, of_decide_eq_true XX.out.2.2.1, of_decide_eq_true XX.out.2.2.2, by rw [HL.out]; omega, fun i hi => HO.out i (by rw [HL.out] at hi; omega)⟩
          rw [HB0.out.2 this]
          rfl
        go_wp2
        rw [Exit.noGoto_ret]
        go_ret
        exact ⟨ret_int hb.out.symm, B1.out.trans (HB.out.mono B1.out.size)⟩
  all_goals
    have hb : Hid (codeB b0 = 1) := by
      cases b0
      · rfl
      · exfalso
        obtain ⟨r1, r2, r3, r4⟩ := (HB0.out.1 rfl).within
        simp_all
    go_enter Try.func27, Try.ntmps27
    go_wp2_with fail
    generalize w.alloc (.cells #[.int .i64 l, .int .i64 p, .int .i64 e, .int .i64 g, .slice A n cap] 24) = W at b1 h1 c0 c1 c2 c3 c4 ⊢
    simp only [List.getElem?_toArray, List.getElem?_cons_succ, List.getElem?_cons_zero] at c0 c1 c2 c3 c4
    have B1 := Lib.hid b1
    clear b1 h1 h
    go_step3
    go_wp2_with (go_at_call 28; refine (within_any _ _ _ _).mono ?_; rintro e w' ⟨rfl, rfl⟩)
    rw [Exit.noGoto_ret]
    go_ret
    exact ⟨ret_int hb.out.symm, B1.out⟩
end Go.Proofs.Ytohlcopnifmjoad
