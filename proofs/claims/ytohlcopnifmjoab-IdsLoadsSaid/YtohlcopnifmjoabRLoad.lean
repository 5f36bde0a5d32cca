/- ids: the reference: Load. -/
import Derived.Test.YtohlcopnifmjoabLoadSpec
import Derived.Test.YtohlcopnifmjoabCount
namespace Go.Proofs.Ytohlcopnifmjoab
open Go.RowKit

def RLoadPost (w : World) (E : Nat) (G : Int) (g fr : List Int) (Ag : Option Addr) (ng cg : Nat) (Af : Option Addr) (nf cf : Nat) (e : Ending) (w' : World) : Prop :=
  (GoodL E G g fr ∧ e = .returned (.tuple #[.agg #[.int .i64 E, .int .i64 G, .slice Ag ng cg, .slice Af nf cf], .int .i64 0]) ∧ Below w.heap.size w w') ∨
  (¬ GoodL E G g fr ∧ e = .returned (.tuple #[.agg #[.int .i64 0, .int .i64 0, .slice none 0 0, .slice none 0 0], .int .i64 11]) ∧ Below w.heap.size w w')

set_option maxRecDepth 100000 in
set_option maxHeartbeats 4000000 in
theorem rload_any (n m : Int) (E G : Nat) (hE : nearL n 1024 = E) (hG : nearL m 1073741824 = G) (Ag : Option Addr) (ng cg : Nat) (g : List Int) (hng : ng ≤ 1100) (Af : Option Addr) (nf cf : Nat) (fr : List Int) (hnf : nf ≤ 100) (hcf : nf ≤ cf) (w : World) (hg : Reads w w.heap.size 1 Ag ng (ints g)) (hf : Reads w w.heap.size 1 Af nf (ints fr)) :
    Calls Try.prog 14 #[.int .i64 n, .int .i64 m, .slice Ag ng cg, .slice Af nf cf] w (RLoadPost w E G g fr Ag ng cg Af nf cf) := by
  have b1 : Below w.heap.size w (w.alloc (.cells #[.int .i64 0, .int .i64 0, .slice none 0 0, .slice none 0 0] 37)) := (Below.refl _ _).alloc (Nat.le_refl _) _
  have KA := Lib.hid (Blk.new w 37 #[.int .i64 0, .int .i64 0, .slice none 0 0, .slice none 0 0])
  have BA := Lib.hid b1
  have hgl := hg.ilen
  have hfl := hf.ilen
  have HG0 := Lib.hid hg
  have HF0 := Lib.hid hf
  have HGL := Lib.hid hgl
  have HFL := Lib.hid hfl
  have HE := Lib.hid hE
  have HGG := Lib.hid hG
  clear hg hf hE hG hgl hfl b1
  go_enter Try.func14, Try.ntmps14
  go_upto_region 1 with (fail)
  generalize w.alloc (.cells #[.int .i64 0, .int .i64 0, .slice none 0 0, .slice none 0 0] 37) = W at KA BA ⊢
  go_wp2_with fail
  refine (rnew_any n m E G HE.out HGG.out _).mono ?_
  rintro e w2 ⟨rfl, hb2⟩
  have bn : Below W.heap.size W (w2.alloc (.cells #[.int .i64 E, .int .i64 G, .slice none 0 0, .slice none 0 0] 37)) := hb2.alloc hb2.size _
  have K8 := Lib.hid (KA.out.below bn KA.out.lt)
  have KR := Lib.hid (Blk.new w2 37 #[.int .i64 E, .int .i64 G, .slice none 0 0, .slice none 0 0])
  have HB := Lib.hid (BA.out.trans (bn.mono BA.out.size))
  have hgr : w.heap.size < w2.heap.size := Nat.lt_of_lt_of_le KA.out.lt hb2.size
  have HGr := Lib.hid hgr
  clear bn hb2 KA BA hgr
  go_upto_region 2 with (fail)
  generalize w2.alloc (.cells #[.int .i64 E, .int .i64 G, .slice none 0 0, .slice none 0 0] 37) = X at K8 KR HB ⊢
  generalize w2.heap.size = gr at KR HGr ⊢
  have HG := Lib.hid (HG0.out.over HB.out)
  have HF := Lib.hid (HF0.out.over HB.out)
  have r0 := blk4_0 KR.out
  have r1 := blk4_1 KR.out
  by_cases hle : E < ng
  · have d : decide ((E : Int) < (ng : Int)) = true := by simp; omega
    have HBAD : Hid (¬ GoodL E G g fr) := fun h => by have := h.len; rw [HGL.out] at this; omega
    have q0 := blk4_0 K8.out
    have q1 := blk4_1 K8.out
    have q2 := blk4_2 K8.out
    have q3 := blk4_3 K8.out
    have y0 := (K8.out).frozen 0
    have y1 := (K8.out).frozen 1
    have y2 := (K8.out).frozen 2
    have y3 := (K8.out).frozen 3
    go_wp2_with fail
    have t4 := four_set K8.out (.int .i64 0) (.int .i64 0) (.slice none 0 0) (.slice none 0 0)
    have e0 := blk4_0 t4
    have e1 := blk4_1 t4
    have e2 := blk4_2 t4
    have e3 := blk4_3 t4
    refine bodyPost_ret (v := .tuple #[.agg #[.int .i64 0, .int .i64 0, .slice none 0 0, .slice none 0 0], .int .i64 11]) (by simp [results, Try.results14, go_sem, e0, e1, e2, e3]) rfl (.inr ⟨HBAD.out, rfl, ?_⟩)
    exact (((HB.out.setCell (p := ⟨w.heap.size, 0, none⟩) (Nat.le_refl _) _).setCell (p := ⟨w.heap.size, 1, none⟩) (Nat.le_refl _) _).setCell (p := ⟨w.heap.size, 2, none⟩) (Nat.le_refl _) _).setCell (p := ⟨w.heap.size, 3, none⟩) (Nat.le_refl _) _
  have d : decide ((E : Int) < (ng : Int)) = false := by simp; omega
  have hEq : ng ≤ E := by omega
  go_wp2_with fail
  clear d
  go_loopw [11] (fun q wr => ∃ k : Nat, k ≤ ng ∧ q = .int .i64 k ∧ Hid (∀ y ∈ g.take k, 0 ≤ y ∧ y ≤ (G : Int)) ∧ Hid (∃ d, wr = X.drewN d)) (fun q _ => ng - (intOf q).toNat)
  case atStart => exact ⟨0, Nat.zero_le _, rfl, fun y hy => by simp at hy, 0, rfl⟩
  case round =>
    obtain ⟨k, hk, rfl, HGD, ⟨d, rfl⟩⟩ := hrel
    by_cases hlt : k < ng
    · obtain ⟨b, off, rfl, hbl, hll, hc⟩ := HG.out.int hlt
      obtain ⟨y, hy⟩ : ∃ y, y = g[k] := ⟨_, rfl⟩
      rw [← hy] at hc
      have HY := Lib.hid (show g[k]? = some y by rw [hy, List.getElem?_eq_getElem hll])
      clear hy
      by_cases hy0 : y < 0
      · have d1 : decide (y < 0) = true := by simpa using hy0
        have HBAD : Hid (¬ GoodL E G g fr) := fun h => by have := h.gs y (List.mem_of_getElem? HY.out); omega
        go_wp2_with fail
        go_quiet (fail)
        have KX := K8.out.drewN (d + nq)
        have q0 := blk4_0 KX
        have q1 := blk4_1 KX
        have q2 := blk4_2 KX
        have q3 := blk4_3 KX
        have y0 := (KX).frozen 0
        have y1 := (KX).frozen 1
        have y2 := (KX).frozen 2
        have y3 := (KX).frozen 3
        have BX := Lib.hid (show Below w.heap.size w (X.drewN (d + nq)) from ⟨HB.out.os, HB.out.tape, HB.out.output, HB.out.size, HB.out.block⟩)
        have HKX := Lib.hid KX
        clear KX
        go_wp2_with fail
        have t4 := four_set HKX.out (.int .i64 0) (.int .i64 0) (.slice none 0 0) (.slice none 0 0)
        have e0 := blk4_0 t4
        have e1 := blk4_1 t4
        have e2 := blk4_2 t4
        have e3 := blk4_3 t4
        refine bodyPost_ret (v := .tuple #[.agg #[.int .i64 0, .int .i64 0, .slice none 0 0, .slice none 0 0], .int .i64 11]) (by simp [results, Try.results14, go_sem, e0, e1, e2, e3]) rfl (.inr ⟨HBAD.out, rfl, ?_⟩)
        exact (((BX.out.setCell (p := ⟨w.heap.size, 0, none⟩) (Nat.le_refl _) _).setCell (p := ⟨w.heap.size, 1, none⟩) (Nat.le_refl _) _).setCell (p := ⟨w.heap.size, 2, none⟩) (Nat.le_refl _) _).setCell (p := ⟨w.heap.size, 3, none⟩) (Nat.le_refl _) _
      have d1 : decide (y < 0) = false := by simpa using hy0
      by_cases hyG : (G : Int) < y
      · have d2 : decide ((G : Int) < y) = true := by simpa using hyG
        have HBAD : Hid (¬ GoodL E G g fr) := fun h => by have := h.gs y (List.mem_of_getElem? HY.out); omega
        go_wp2_with fail
        go_quiet (fail)
        have KX := K8.out.drewN (d + nq)
        have q0 := blk4_0 KX
        have q1 := blk4_1 KX
        have q2 := blk4_2 KX
        have q3 := blk4_3 KX
        have y0 := (KX).frozen 0
        have y1 := (KX).frozen 1
        have y2 := (KX).frozen 2
        have y3 := (KX).frozen 3
        have BX := Lib.hid (show Below w.heap.size w (X.drewN (d + nq)) from ⟨HB.out.os, HB.out.tape, HB.out.output, HB.out.size, HB.out.block⟩)
        have HKX := Lib.hid KX
        clear KX
        go_wp2_with fail
        have t4 := four_set HKX.out (.int .i64 0) (.int .i64 0) (.slice none 0 0) (.slice none 0 0)
        have e0 := blk4_0 t4
        have e1 := blk4_1 t4
        have e2 := blk4_2 t4
        have e3 := blk4_3 t4
        refine bodyPost_ret (v := .tuple #[.agg #[.int .i64 0, .int .i64 0, .slice none 0 0, .slice none 0 0], .int .i64 11]) (by simp [results, Try.results14, go_sem, e0, e1, e2, e3]) rfl (.inr ⟨HBAD.out, rfl, ?_⟩)
        exact (((BX.out.setCell (p := ⟨w.heap.size, 0, none⟩) (Nat.le_refl _) _).setCell (p := ⟨w.heap.size, 1, none⟩) (Nat.le_refl _) _).setCell (p := ⟨w.heap.size, 2, none⟩) (Nat.le_refl _) _).setCell (p := ⟨w.heap.size, 3, none⟩) (Nat.le_refl _) _
      have d2 : decide ((G : Int) < y) = false := by simpa using hyG
      have HGD' : Hid (∀ z ∈ g.take (k + 1), 0 ≤ z ∧ z ≤ (G : Int)) := by
        intro z hz
        rw [List.take_add_one, HY.out] at hz
        simp only [Option.toList_some, List.mem_append, List.mem_singleton] at hz
        rcases hz with hz | rfl
        · exact HGD.out z hz
        · omega
      go_wp2_with fail
      go_quiet (fail)
      go_wp2_with fail
      exact ⟨⟨k + 1, by omega, by go_num, HGD', d + nq, rfl⟩, by simp [intOf]; omega⟩
    · have HGA : Hid (∀ y ∈ g, 0 ≤ y ∧ y ≤ (G : Int)) := by
        have := HGD.out
        rw [List.take_of_length_le (by rw [HGL.out]; omega)] at this
        exact this
      clear HGD
      go_wp2_with fail
      go_loopw [12] (fun q wr => ∃ k : Nat, k ≤ nf ∧ q = .int .i64 k ∧ Hid (∀ j i, j < k → fr[j]? = some i → goodAt G g fr j i) ∧ Hid (∃ d, wr = X.drewN d)) (fun q _ => nf - (intOf q).toNat)
      case atStart => exact ⟨0, Nat.zero_le _, rfl, fun j i hj => by omega, d, rfl⟩
      case round =>
        obtain ⟨k, hk, rfl, HGD, ⟨d, rfl⟩⟩ := hrel
        by_cases hlt : k < nf
        · obtain ⟨b, off, rfl, hbl, hll, hc⟩ := HF.out.int hlt
          obtain ⟨y, hy⟩ : ∃ y, y = fr[k] := ⟨_, rfl⟩
          rw [← hy] at hc
          have HY := Lib.hid (show fr[k]? = some y by rw [hy, List.getElem?_eq_getElem hll])
          clear hy
          by_cases hy0 : y < 0
          · have d1 : decide (y < 0) = true := by simpa using hy0
            have HBAD : Hid (¬ GoodL E G g fr) := fun h => by have := (h.fs k y HY.out).1; omega
            go_wp2_with fail
            go_quiet (fail)
            have KX := K8.out.drewN (d + nq)
            have q0 := blk4_0 KX
            have q1 := blk4_1 KX
            have q2 := blk4_2 KX
            have q3 := blk4_3 KX
            have y0 := (KX).frozen 0
            have y1 := (KX).frozen 1
            have y2 := (KX).frozen 2
            have y3 := (KX).frozen 3
            have BX := Lib.hid (show Below w.heap.size w (X.drewN (d + nq)) from ⟨HB.out.os, HB.out.tape, HB.out.output, HB.out.size, HB.out.block⟩)
            have HKX := Lib.hid KX
            clear KX
            go_wp2_with fail
            have t4 := four_set HKX.out (.int .i64 0) (.int .i64 0) (.slice none 0 0) (.slice none 0 0)
            have e0 := blk4_0 t4
            have e1 := blk4_1 t4
            have e2 := blk4_2 t4
            have e3 := blk4_3 t4
            refine bodyPost_ret (v := .tuple #[.agg #[.int .i64 0, .int .i64 0, .slice none 0 0, .slice none 0 0], .int .i64 11]) (by simp [results, Try.results14, go_sem, e0, e1, e2, e3]) rfl (.inr ⟨HBAD.out, rfl, ?_⟩)
            exact (((BX.out.setCell (p := ⟨w.heap.size, 0, none⟩) (Nat.le_refl _) _).setCell (p := ⟨w.heap.size, 1, none⟩) (Nat.le_refl _) _).setCell (p := ⟨w.heap.size, 2, none⟩) (Nat.le_refl _) _).setCell (p := ⟨w.heap.size, 3, none⟩) (Nat.le_refl _) _
          by_cases hyn : (ng : Int) ≤ y
          · have d1 : decide (y < 0) = false := by simpa using hy0
            have d2 : decide ((ng : Int) ≤ y) = true := by simpa using hyn
            have HBAD : Hid (¬ GoodL E G g fr) := fun h => by have := (h.fs k y HY.out).2.1; rw [HGL.out] at this; omega
            go_wp2_with fail
            go_quiet (fail)
            have KX := K8.out.drewN (d + nq)
            have q0 := blk4_0 KX
            have q1 := blk4_1 KX
            have q2 := blk4_2 KX
            have q3 := blk4_3 KX
            have y0 := (KX).frozen 0
            have y1 := (KX).frozen 1
            have y2 := (KX).frozen 2
            have y3 := (KX).frozen 3
            have BX := Lib.hid (show Below w.heap.size w (X.drewN (d + nq)) from ⟨HB.out.os, HB.out.tape, HB.out.output, HB.out.size, HB.out.block⟩)
            have HKX := Lib.hid KX
            clear KX
            go_wp2_with fail
            have t4 := four_set HKX.out (.int .i64 0) (.int .i64 0) (.slice none 0 0) (.slice none 0 0)
            have e0 := blk4_0 t4
            have e1 := blk4_1 t4
            have e2 := blk4_2 t4
            have e3 := blk4_3 t4
            refine bodyPost_ret (v := .tuple #[.agg #[.int .i64 0, .int .i64 0, .slice none 0 0, .slice none 0 0], .int .i64 11]) (by simp [results, Try.results14, go_sem, e0, e1, e2, e3]) rfl (.inr ⟨HBAD.out, rfl, ?_⟩)
            exact (((BX.out.setCell (p := ⟨w.heap.size, 0, none⟩) (Nat.le_refl _) _).setCell (p := ⟨w.heap.size, 1, none⟩) (Nat.le_refl _) _).setCell (p := ⟨w.heap.size, 2, none⟩) (Nat.le_refl _) _).setCell (p := ⟨w.heap.size, 3, none⟩) (Nat.le_refl _) _
          obtain ⟨q, rfl⟩ := Int.eq_ofNat_of_zero_le (by omega : 0 ≤ y)
          have hqn : q < ng := by omega
          have d1 : decide ((q : Int) < 0) = false := by simp
          have d2 : decide (ng ≤ q) = false := by simp; omega
          have hq0 : (0 : Int) ≤ q := by omega
          have hq1 : (q : Int) < ng := by omega
          have hk0 : (0 : Int) ≤ k := by omega
          have hkc : k ≤ cf := by omega
          have hkc1 : (k : Int) ≤ cf := by omega
          obtain ⟨bg, og, rfl, _, hgl2, hcg⟩ := HG.out.int hqn
          obtain ⟨v, hv⟩ : ∃ v, v = g[q] := ⟨_, rfl⟩
          rw [← hv] at hcg
          have HV := Lib.hid (show g.getD q 0 = v by rw [List.getD_eq_getElem?_getD, List.getElem?_eq_getElem hgl2, hv]; rfl)
          have HRT := Lib.hid (reads_take (k := k) HF.out (by omega))
          have HMX := Lib.hid (show k ≤ maxLen by unfold maxLen; omega)
          clear hv hy0 hyn
          by_cases hm : (q : Int) ∈ fr.take k
          · have HHAS := Lib.hid (decide_eq_true hm : decide ((q : Int) ∈ fr.take k) = true)
            have HBAD : Hid (¬ GoodL E G g fr) := fun h => (h.fs k _ HY.out).2.2.1 hm
            clear hm
            go_wp2_with fail
            go_quiet ((go_at_call 30; exact (has_to true (some ⟨b, off, none⟩) k cf (fr.take k) (q : Int) HHAS.out HMX.out _ (HRT.out.drewN _)).mono fun _ _ h => ⟨h.1, _, h.2⟩))
            have KX := K8.out.drewN (d + nq)
            have q0 := blk4_0 KX
            have q1 := blk4_1 KX
            have q2 := blk4_2 KX
            have q3 := blk4_3 KX
            have y0 := (KX).frozen 0
            have y1 := (KX).frozen 1
            have y2 := (KX).frozen 2
            have y3 := (KX).frozen 3
            have BX := Lib.hid (show Below w.heap.size w (X.drewN (d + nq)) from ⟨HB.out.os, HB.out.tape, HB.out.output, HB.out.size, HB.out.block⟩)
            have HKX := Lib.hid KX
            clear KX
            go_wp2_with fail
            have t4 := four_set HKX.out (.int .i64 0) (.int .i64 0) (.slice none 0 0) (.slice none 0 0)
            have e0 := blk4_0 t4
            have e1 := blk4_1 t4
            have e2 := blk4_2 t4
            have e3 := blk4_3 t4
            refine bodyPost_ret (v := .tuple #[.agg #[.int .i64 0, .int .i64 0, .slice none 0 0, .slice none 0 0], .int .i64 11]) (by simp [results, Try.results14, go_sem, e0, e1, e2, e3]) rfl (.inr ⟨HBAD.out, rfl, ?_⟩)
            exact (((BX.out.setCell (p := ⟨w.heap.size, 0, none⟩) (Nat.le_refl _) _).setCell (p := ⟨w.heap.size, 1, none⟩) (Nat.le_refl _) _).setCell (p := ⟨w.heap.size, 2, none⟩) (Nat.le_refl _) _).setCell (p := ⟨w.heap.size, 3, none⟩) (Nat.le_refl _) _
          have HHAS := Lib.hid (decide_eq_false hm : decide ((q : Int) ∈ fr.take k) = false)
          have HM := Lib.hid hm
          clear hm
          by_cases hv0 : v = 0
          · subst hv0
            have HBAD : Hid (¬ GoodL E G g fr) := fun h => by
              obtain ⟨_, _, _, h3, _⟩ := h.fs k _ HY.out
              rw [Int.toNat_natCast, HV.out] at h3
              exact h3 rfl
            go_wp2_with fail
            go_quiet ((go_at_call 30; exact (has_to false (some ⟨b, off, none⟩) k cf (fr.take k) (q : Int) HHAS.out HMX.out _ (HRT.out.drewN _)).mono fun _ _ h => ⟨h.1, _, h.2⟩))
            have KX := K8.out.drewN (d + nq)
            have q0 := blk4_0 KX
            have q1 := blk4_1 KX
            have q2 := blk4_2 KX
            have q3 := blk4_3 KX
            have y0 := (KX).frozen 0
            have y1 := (KX).frozen 1
            have y2 := (KX).frozen 2
            have y3 := (KX).frozen 3
            have BX := Lib.hid (show Below w.heap.size w (X.drewN (d + nq)) from ⟨HB.out.os, HB.out.tape, HB.out.output, HB.out.size, HB.out.block⟩)
            have HKX := Lib.hid KX
            clear KX
            go_wp2_with fail
            have t4 := four_set HKX.out (.int .i64 0) (.int .i64 0) (.slice none 0 0) (.slice none 0 0)
            have e0 := blk4_0 t4
            have e1 := blk4_1 t4
            have e2 := blk4_2 t4
            have e3 := blk4_3 t4
            refine bodyPost_ret (v := .tuple #[.agg #[.int .i64 0, .int .i64 0, .slice none 0 0, .slice none 0 0], .int .i64 11]) (by simp [results, Try.results14, go_sem, e0, e1, e2, e3]) rfl (.inr ⟨HBAD.out, rfl, ?_⟩)
            exact (((BX.out.setCell (p := ⟨w.heap.size, 0, none⟩) (Nat.le_refl _) _).setCell (p := ⟨w.heap.size, 1, none⟩) (Nat.le_refl _) _).setCell (p := ⟨w.heap.size, 2, none⟩) (Nat.le_refl _) _).setCell (p := ⟨w.heap.size, 3, none⟩) (Nat.le_refl _) _
          have d3 : (v == 0) = false := by rw [beq_eq_false_iff_ne]; exact hv0
          have HV0 := Lib.hid hv0
          clear hv0
          by_cases hvG : (G : Int) ≤ v
          · have d4 : decide ((G : Int) ≤ v) = true := by simpa using hvG
            have HBAD : Hid (¬ GoodL E G g fr) := fun h => by
              obtain ⟨_, _, _, _, h4⟩ := h.fs k _ HY.out
              rw [Int.toNat_natCast, HV.out] at h4
              omega
            go_wp2_with fail
            go_quiet ((go_at_call 30; exact (has_to false (some ⟨b, off, none⟩) k cf (fr.take k) (q : Int) HHAS.out HMX.out _ (HRT.out.drewN _)).mono fun _ _ h => ⟨h.1, _, h.2⟩))
            have KX := K8.out.drewN (d + nq)
            have q0 := blk4_0 KX
            have q1 := blk4_1 KX
            have q2 := blk4_2 KX
            have q3 := blk4_3 KX
            have y0 := (KX).frozen 0
            have y1 := (KX).frozen 1
            have y2 := (KX).frozen 2
            have y3 := (KX).frozen 3
            have BX := Lib.hid (show Below w.heap.size w (X.drewN (d + nq)) from ⟨HB.out.os, HB.out.tape, HB.out.output, HB.out.size, HB.out.block⟩)
            have HKX := Lib.hid KX
            clear KX
            go_wp2_with fail
            have t4 := four_set HKX.out (.int .i64 0) (.int .i64 0) (.slice none 0 0) (.slice none 0 0)
            have e0 := blk4_0 t4
            have e1 := blk4_1 t4
            have e2 := blk4_2 t4
            have e3 := blk4_3 t4
            refine bodyPost_ret (v := .tuple #[.agg #[.int .i64 0, .int .i64 0, .slice none 0 0, .slice none 0 0], .int .i64 11]) (by simp [results, Try.results14, go_sem, e0, e1, e2, e3]) rfl (.inr ⟨HBAD.out, rfl, ?_⟩)
            exact (((BX.out.setCell (p := ⟨w.heap.size, 0, none⟩) (Nat.le_refl _) _).setCell (p := ⟨w.heap.size, 1, none⟩) (Nat.le_refl _) _).setCell (p := ⟨w.heap.size, 2, none⟩) (Nat.le_refl _) _).setCell (p := ⟨w.heap.size, 3, none⟩) (Nat.le_refl _) _
          have d4 : decide ((G : Int) ≤ v) = false := by simpa using hvG
          have HGD' : Hid (∀ j i, j < k + 1 → fr[j]? = some i → goodAt G g fr j i) := by
            intro j i hj hi
            rcases Nat.lt_or_ge j k with h' | h'
            · exact HGD.out j i h' hi
            · obtain rfl : j = k := by omega
              rw [HY.out] at hi
              injection hi with hi
              subst hi
              refine ⟨hq0, by rw [HGL.out]; exact hq1, HM.out, ?_, ?_⟩
              · rw [Int.toNat_natCast, HV.out]; exact HV0.out
              · rw [Int.toNat_natCast, HV.out]; omega
          go_wp2_with fail
          go_quiet ((go_at_call 30; exact (has_to false (some ⟨b, off, none⟩) k cf (fr.take k) (q : Int) HHAS.out HMX.out _ (HRT.out.drewN _)).mono fun _ _ h => ⟨h.1, _, h.2⟩))
          go_wp2_with fail
          exact ⟨⟨k + 1, by omega, by go_num, HGD', d + nq, rfl⟩, by simp [intOf]; omega⟩
        · have HGOOD : Hid (GoodL E G g fr) := ⟨by rw [HGL.out]; exact hEq, HGA.out, fun j i hi => HGD.out j i (by have := (List.getElem?_eq_some_iff.1 hi).1; rw [HFL.out] at this; omega) hi⟩
          have KRX := KR.out.drewN d
          have KX := K8.out.drewN d
          have BX := Lib.hid (show Below w.heap.size w (X.drewN d) from ⟨HB.out.os, HB.out.tape, HB.out.output, HB.out.size, HB.out.block⟩)
          have r2 := blk4_2 KRX
          have r3 := blk4_3 KRX
          have s2 := KRX.frozen 2
          have s3 := KRX.frozen 3
          have HKRX := Lib.hid KRX
          have HKX := Lib.hid KX
          have hgr := HGr.out
          have n1 : gr ≠ w.heap.size := by omega
          have n2 : w.heap.size ≠ gr := by omega
          clear KRX KX HGD
          go_upto_region 16 with (fail)
          have kr := (HKRX.out.set_ 2 (.slice Ag ng cg)).set_ 3 (.slice Af nf cf)
          have kx := (HKX.out.far (p := ⟨gr, 2, none⟩) n2 (.slice Ag ng cg)).far (p := ⟨gr, 3, none⟩) n2 (.slice Af nf cf)
          have KR2 : Hid (Blk (((X.drewN d).setCell ⟨gr, 2, none⟩ (.slice Ag ng cg)).setCell ⟨gr, 3, none⟩ (.slice Af nf cf)) gr 37 #[.int .i64 E, .int .i64 G, .slice Ag ng cg, .slice Af nf cf]) := Lib.hid (by simpa using kr)
          have KX2 := Lib.hid kx
          have B2 := Lib.hid ((BX.out.setCell (p := ⟨gr, 2, none⟩) (Nat.le_of_lt hgr) (.slice Ag ng cg)).setCell (p := ⟨gr, 3, none⟩) (Nat.le_of_lt hgr) (.slice Af nf cf))
          clear kr kx r0 r1 r2 r3 s2 s3
          generalize ((X.drewN d).setCell ⟨gr, 2, none⟩ (.slice Ag ng cg)).setCell ⟨gr, 3, none⟩ (.slice Af nf cf) = V at KR2 KX2 B2 ⊢
          have r0 := blk4_0 KR2.out
          have r1 := blk4_1 KR2.out
          have r2 := blk4_2 KR2.out
          have r3 := blk4_3 KR2.out
          have q0 := blk4_0 KX2.out
          have q1 := blk4_1 KX2.out
          have q2 := blk4_2 KX2.out
          have q3 := blk4_3 KX2.out
          have y0 := (KX2.out).frozen 0
          have y1 := (KX2.out).frozen 1
          have y2 := (KX2.out).frozen 2
          have y3 := (KX2.out).frozen 3
          go_wp2_with fail
          have t4 := four_set KX2.out (.int .i64 E) (.int .i64 G) (.slice Ag ng cg) (.slice Af nf cf)
          have e0 := blk4_0 t4
          have e1 := blk4_1 t4
          have e2 := blk4_2 t4
          have e3 := blk4_3 t4
          refine bodyPost_ret (v := .tuple #[.agg #[.int .i64 E, .int .i64 G, .slice Ag ng cg, .slice Af nf cf], .int .i64 0]) (by simp [results, Try.results14, go_sem, e0, e1, e2, e3]) rfl (.inl ⟨HGOOD.out, rfl, ?_⟩)
          exact (((B2.out.setCell (p := ⟨w.heap.size, 0, none⟩) (Nat.le_refl _) _).setCell (p := ⟨w.heap.size, 1, none⟩) (Nat.le_refl _) _).setCell (p := ⟨w.heap.size, 2, none⟩) (Nat.le_refl _) _).setCell (p := ⟨w.heap.size, 3, none⟩) (Nat.le_refl _) _
end Go.Proofs.Ytohlcopnifmjoab
