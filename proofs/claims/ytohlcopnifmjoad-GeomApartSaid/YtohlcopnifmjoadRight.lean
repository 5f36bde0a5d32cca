/- Confs: the reference's check, the walk of the components. -/
import Derived.Test.YtohlcopnifmjoadRightA
namespace Go.Proofs.Ytohlcopnifmjoad
open Go.RowKit

theorem least (cs : List Cmp) (nm : ByteArray) (k : Nat) (h : ∃ x, cs[k]? = some x ∧ x.name = nm) :
    ∃ fi, fi ≤ k ∧ (∀ y, cs[fi]? = some y → y.name = nm) ∧ ∀ (j : Nat) (y : Cmp), j < fi → cs[j]? = some y → y.name ≠ nm := by
  induction k using Nat.strongRecOn with
  | ind k ih =>
    by_cases hd : ∃ j, j < k ∧ ∃ x, cs[j]? = some x ∧ x.name = nm
    · obtain ⟨j, hj, hx⟩ := hd
      obtain ⟨fi, h1, h2, h3⟩ := ih j hj hx
      exact ⟨fi, by omega, h2, h3⟩
    · obtain ⟨x, hx, hn⟩ := h
      refine ⟨k, Nat.le_refl _, fun y hy => ?_, fun j y hj hy hyn => hd ⟨j, hj, y, hy, hyn⟩⟩
      rw [hx] at hy
      injection hy with hy
      rw [← hy]; exact hn

set_option maxHeartbeats 4000000 in
theorem right_to (b0 : Bool) (l p e g : Int) (A : Option Addr) (n cap : Nat) (cs : List Cmp) (hb0 : b0 = true ↔ rightP l p e g cs) (w : World) (h : (⟨l, p, e, g, A, n, cap, cs⟩ : Cnf).ok w) :
    Calls Try.prog 20 #[.agg #[.int .i64 l, .int .i64 p, .int .i64 e, .int .i64 g, .slice A n cap]] w fun e w' => e = .returned (.bool b0) ∧ Below w.heap.size w w' := by
  have hlen := h.len
  have hn := h.hn
  unfold maxLen at hn
  have hnc := h.hnc
  dsimp only at hlen hn hnc
  have HL := Lib.hid hlen
  clear hlen
  by_cases hbad : l < 2 ∨ 1024 < l ∨ p < 4 ∨ 1024 < p ∨ e < 1 ∨ 1024 < e ∨ g < 1 ∨ 1073741824 < g ∨ 32 < (n : Int)
  · exact right_bad b0 l p e g A n cap cs hb0 hbad w h
  obtain ⟨t0, t1, t2, t3, t4, t5, t6, t7, t8⟩ : ¬ l < 2 ∧ ¬ 1024 < l ∧ ¬ p < 4 ∧ ¬ 1024 < p ∧ ¬ e < 1 ∧ ¬ 1024 < e ∧ ¬ g < 1 ∧ ¬ 1073741824 < g ∧ ¬ 32 < (n : Int) := by omega
  clear hbad
  have HB0 := Lib.hid hb0
  clear hb0
  have b1 : Below w.heap.size w (w.alloc (.cells #[.int .i64 l, .int .i64 p, .int .i64 e, .int .i64 g, .slice A n cap] 24)) := (Below.refl _ _).alloc (Nat.le_refl _) _
  have h1 := h.over b1
  have cl := fun j => new_cell w #[.int .i64 l, .int .i64 p, .int .i64 e, .int .i64 g, .slice A n cap] 24 j
  have c0 := cl 0
  have c1 := cl 1
  have c2 := cl 2
  have c3 := cl 3
  have c4 := cl 4
  clear cl
  have d0 : decide (l < 2) = false := by simp; omega
  have d1 : decide (1024 < l) = false := by simp; omega
  have d2 : decide (p < 4) = false := by simp; omega
  have d3 : decide (1024 < p) = false := by simp; omega
  have d4 : decide (e < 1) = false := by simp; omega
  have d5 : decide (1024 < e) = false := by simp; omega
  have d6 : decide (g < 1) = false := by simp; omega
  have d7 : decide (1073741824 < g) = false := by simp; omega
  have d8 : decide (32 < (n : Int)) = false := by simp; omega
  go_enter Try.func20, Try.ntmps20
  go_wp2_with fail
  generalize w.alloc (.cells #[.int .i64 l, .int .i64 p, .int .i64 e, .int .i64 g, .slice A n cap] 24) = W at b1 h1 c0 c1 c2 c3 c4 ⊢
  simp only [List.getElem?_toArray, List.getElem?_cons_succ, List.getElem?_cons_zero] at c0 c1 c2 c3 c4
  have B1 := Lib.hid b1
  have H1 := Lib.hid h1
  have TT := Lib.hid (And.intro t0 (And.intro t1 (And.intro t2 (And.intro t3 (And.intro t4 (And.intro t5 (And.intro t6 (And.intro t7 t8))))))))
  clear b1 h1 h d0 d1 d2 d3 d4 d5 d6 d7 d8 t0 t1 t2 t3 t4 t5 t6 t7 t8
  go_loopw [3] (fun i wr => ∃ k : Nat, k ≤ n ∧ i = .int .i64 k ∧ Hid (Below W.heap.size W wr) ∧ Hid (∀ j, j < k → compOk cs j)) (fun i _ => n - (intOf i).toNat)
  case atStart => exact ⟨0, by omega, rfl, Below.refl _ _, fun j hj => by omega⟩
  case round =>
    obtain ⟨k, hk, rfl, HB, HO⟩ := hrel
    have f0 := HB.out.cell (p := ⟨w.heap.size, 0, none⟩) (block_lt_of_cell c0)
    have f1 := HB.out.cell (p := ⟨w.heap.size, 1, none⟩) (block_lt_of_cell c1)
    have f2 := HB.out.cell (p := ⟨w.heap.size, 2, none⟩) (block_lt_of_cell c2)
    have f3 := HB.out.cell (p := ⟨w.heap.size, 3, none⟩) (block_lt_of_cell c3)
    have f4 := HB.out.cell (p := ⟨w.heap.size, 4, none⟩) (block_lt_of_cell c4)
    rw [c0] at f0
    rw [c1] at f1
    rw [c2] at f2
    rw [c3] at f3
    rw [c4] at f4
    by_cases hlt : k < n
    · have okr := H1.out.over HB.out
      obtain ⟨b, off, x, he, hab, hx, hc, hc'⟩ := okr.at_ hlt
      dsimp only at he hx hc hc'
      subst he
      obtain ⟨nm, sz⟩ := x
      dsimp only at hc hc'
      have hnm : nm.size ≤ maxLen := (okr.hs _ (List.mem_of_getElem? hx)).1
      have OK := Lib.hid okr
      clear okr
      have hkl : k < cs.length := by rw [HL.out]; exact hlt
      obtain ⟨fi, hle, hfy, hfn⟩ := least cs nm k ⟨_, hx, rfl⟩
      have HF := Lib.hid (And.intro hfy hfn)
      have HX := Lib.hid hx
      clear hfy hfn hx
      have HBF := Lib.hid HB.out
      clear HB
      by_cases hfk : fi = k
      · subst hfk
        go_wp2_with fail
        go_region_held3 (fun w' => w'.cell? ⟨w.heap.size, 0, none⟩ = some (.int .i64 l) ∧ w'.cell? ⟨w.heap.size, 1, none⟩ = some (.int .i64 p) ∧ w'.cell? ⟨w.heap.size, 2, none⟩ = some (.int .i64 e) ∧ w'.cell? ⟨w.heap.size, 3, none⟩ = some (.int .i64 g) ∧
            w'.cell? ⟨w.heap.size, 4, none⟩ = some (.slice (some ⟨b, off, none⟩) n cap) ∧ w'.cell? ⟨b, off + fi * 2, none⟩ = some (.string nm))
          (go_keep)
          (first
            | (go_at_call 25
               refine (find_to fi nm l p e g _ n cap cs _ OK.out.drew hlt HF.out.1 HF.out.2).mono ?_
               rintro e' w1 ⟨rfl, hb1⟩
               have q0 := (hb1.cell (p := ⟨w.heap.size, 0, none⟩) (block_lt_of_cell f0)).trans f0
               have q1 := (hb1.cell (p := ⟨w.heap.size, 1, none⟩) (block_lt_of_cell f1)).trans f1
               have q2 := (hb1.cell (p := ⟨w.heap.size, 2, none⟩) (block_lt_of_cell f2)).trans f2
               have q3 := (hb1.cell (p := ⟨w.heap.size, 3, none⟩) (block_lt_of_cell f3)).trans f3
               have q4 := (hb1.cell (p := ⟨w.heap.size, 4, none⟩) (block_lt_of_cell f4)).trans f4
               have q5 := (hb1.cell (p := ⟨b, off + fi * 2, none⟩) (block_lt_of_cell hc)).trans hc
               have q6 := (hb1.cell (p := ⟨b, off + fi * 2 + 1, none⟩) (block_lt_of_cell hc')).trans hc'
               have HB1 := Lib.hid (HBF.out.drew.trans (hb1.mono HBF.out.size))
               clear hb1))
        cases hN : nameB nm
        · have hb : Hid (b0 = false) := by
            cases b0
            · rfl
            · exfalso
              have := (HB0.out.1 rfl).hc fi hkl _ HX.out
              rw [hN] at this
              exact absurd this.1 (by simp)
          have HN := Lib.hid hN
          clear hN
          go_wp2_with (go_at_call 26; go_must (refine (rname_to _ false HN.out _ hnm).mono ?_; rintro e w' ⟨rfl, d, rfl⟩))
          go_ret
          exact ⟨ret_bool hb.out.symm, B1.out.trans ((below_drewN HB1.out _).mono B1.out.size)⟩
        · have HN := Lib.hid hN
          clear hN
          by_cases s1 : sz < 0
          · have hb : Hid (b0 = false) := by
              cases b0
              · rfl
              · exfalso
                have := (HB0.out.1 rfl).hc fi hkl _ HX.out
                have := this.2.1
                dsimp only at this
                omega
            go_wp2_with (go_at_call 26; go_must (refine (rname_to _ true HN.out _ hnm).mono ?_; rintro e w' ⟨rfl, d, rfl⟩))
            go_ret
            exact ⟨ret_bool hb.out.symm, B1.out.trans ((below_drewN HB1.out _).mono B1.out.size)⟩
          · have d1 : decide (sz < 0) = false := by simp; omega
            by_cases s2 : 64 < sz
            · have hb : Hid (b0 = false) := by
                cases b0
                · rfl
                · exfalso
                  have := (HB0.out.1 rfl).hc fi hkl _ HX.out
                  have := this.2.2.1
                  dsimp only at this
                  omega
              go_wp2_with (go_at_call 26; go_must (refine (rname_to _ true HN.out _ hnm).mono ?_; rintro e w' ⟨rfl, d, rfl⟩))
              go_ret
              exact ⟨ret_bool hb.out.symm, B1.out.trans ((below_drewN HB1.out _).mono B1.out.size)⟩
            · have d2 : decide (64 < sz) = false := by simp; omega
              go_wp2_with (go_at_call 26; go_must (refine (rname_to _ true HN.out _ hnm).mono ?_; rintro e w' ⟨rfl, d, rfl⟩))
              refine ⟨⟨fi + 1, by omega, by go_num, below_drewN HB1.out _, fun j' hj' => ?_⟩, by simp [intOf]; omega⟩
              rcases Nat.lt_or_ge j' fi with h' | h'
              · exact HO.out j' h'
              · obtain rfl : j' = fi := by omega
                intro y hy
                rw [HX.out] at hy
                injection hy with hy
                subst hy
                exact ⟨HN.out, by dsimp only; omega, by dsimp only; omega, HF.out.2⟩
      · have hfn : fi < n := by omega
        have hb : Hid (b0 = false) := by
          cases b0
          · rfl
          · exfalso
            have := (HB0.out.1 rfl).hc k hkl _ HX.out
            have hfl : fi < cs.length := by omega
            exact this.2.2.2 fi cs[fi] (by omega) (List.getElem?_eq_getElem hfl) (HF.out.1 _ (List.getElem?_eq_getElem hfl))
        have dk : ((fi : Int) != (k : Int)) = true := by rw [bne_iff_ne]; omega
        go_wp2_with fail
        go_region_held3 (fun w' => w'.cell? ⟨w.heap.size, 0, none⟩ = some (.int .i64 l) ∧ w'.cell? ⟨w.heap.size, 1, none⟩ = some (.int .i64 p) ∧ w'.cell? ⟨w.heap.size, 2, none⟩ = some (.int .i64 e) ∧ w'.cell? ⟨w.heap.size, 3, none⟩ = some (.int .i64 g) ∧
            w'.cell? ⟨w.heap.size, 4, none⟩ = some (.slice (some ⟨b, off, none⟩) n cap) ∧ w'.cell? ⟨b, off + k * 2, none⟩ = some (.string nm))
          (go_keep)
          (first
            | (go_at_call 25
               refine (find_to fi nm l p e g _ n cap cs _ OK.out.drew hfn HF.out.1 HF.out.2).mono ?_
               rintro e' w1 ⟨rfl, hb1⟩
               have q0 := (hb1.cell (p := ⟨w.heap.size, 0, none⟩) (block_lt_of_cell f0)).trans f0
               have q1 := (hb1.cell (p := ⟨w.heap.size, 1, none⟩) (block_lt_of_cell f1)).trans f1
               have q2 := (hb1.cell (p := ⟨w.heap.size, 2, none⟩) (block_lt_of_cell f2)).trans f2
               have q3 := (hb1.cell (p := ⟨w.heap.size, 3, none⟩) (block_lt_of_cell f3)).trans f3
               have q4 := (hb1.cell (p := ⟨w.heap.size, 4, none⟩) (block_lt_of_cell f4)).trans f4
               have q5 := (hb1.cell (p := ⟨b, off + k * 2, none⟩) (block_lt_of_cell hc)).trans hc
               have q6 := (hb1.cell (p := ⟨b, off + k * 2 + 1, none⟩) (block_lt_of_cell hc')).trans hc'
               have HB1 := Lib.hid (HBF.out.drew.trans (hb1.mono HBF.out.size))
               clear hb1))
        go_wp2
        go_ret
        exact ⟨ret_bool hb.out.symm, B1.out.trans (HB1.out.mono B1.out.size)⟩
    · have hb : Hid (b0 = true) := by
        obtain ⟨u0, u1, u2, u3, u4, u5, u6, u7, u8⟩ := TT.out
        exact HB0.out.2 ⟨⟨by omega, by omega⟩, ⟨by omega, by omega⟩, ⟨by omega, by omega⟩, ⟨by omega, by omega⟩, by rw [HL.out]; omega, fun i hi => HO.out i (by rw [HL.out] at hi; omega)⟩
      go_wp2
      go_ret
      exact ⟨ret_bool hb.out.symm, B1.out.trans (HB.out.mono B1.out.size)⟩
end Go.Proofs.Ytohlcopnifmjoad
