/- ids: Load. -/
import Derived.Test.YtohlcopnifmjoabLoadSpec
import Derived.Test.YtohlcopnifmjoabCount
namespace Go.Proofs.Ytohlcopnifmjoab
open Go.RowKit

def LoadPost (w : World) (E : Nat) (G : Int) (g fr : List Int) (e : Ending) (w' : World) : Prop :=
  (GoodL E G g fr ∧ e = .returned (.tuple #[.pointer (some ⟨w.heap.size, 0, none⟩), .int .i64 0]) ∧ (∃ As cs Af cf, IObj w' w.heap.size w.heap.size E G As cs Af cf (loadS G g fr) fr) ∧ Below w.heap.size w w') ∨
  (¬ GoodL E G g fr ∧ e = .returned (.tuple #[.pointer none, .int .i64 11]) ∧ Below w.heap.size w w')

set_option maxRecDepth 100000 in
set_option maxHeartbeats 4000000 in
theorem load_any (n m : Int) (E G : Nat) (hE : nearL n 1024 = E) (hG : nearL m 1073741824 = G) (Ag : Option Addr) (ng cg : Nat) (g : List Int) (hng : ng ≤ 1100) (Af : Option Addr) (nf cf : Nat) (fr : List Int) (hnf : nf ≤ 100) (hcf : Af = none → cf = 0) (w : World) (hg : Reads w w.heap.size 1 Ag ng (ints g)) (hf : Reads w w.heap.size 1 Af nf (ints fr)) :
    Calls Try.prog 13 #[.int .i64 n, .int .i64 m, .slice Ag ng cg, .slice Af nf cf] w (LoadPost w E G g fr) := by
  have hgl := hg.ilen
  have hfl := hf.ilen
  have HG := Lib.hid hg
  have HF := Lib.hid hf
  have HGL := Lib.hid hgl
  have HFL := Lib.hid hfl
  have HE := Lib.hid hE
  have HGG := Lib.hid hG
  clear hg hf hE hG hgl hfl
  go_enter Try.func13, Try.ntmps13
  go_wp2_with fail
  refine (new_any n m _).mono ?_
  rintro e w1 ⟨rfl, h1, hb1⟩
  rw [HE.out, HGG.out] at h1
  have H1 := Lib.hid h1
  have B1 := Lib.hid hb1
  have c2 := blk4_2 h1.hx
  clear h1 hb1
  by_cases hle : E < ng
  · have d : decide ((E : Int) < (ng : Int)) = true := by simp; omega
    have HBAD : Hid (¬ GoodL E G g fr) := fun h => by have := h.len; rw [HGL.out] at this; omega
    go_wp2_with fail
    exact bodyPost_ret (v := .tuple #[.pointer none, .int .i64 11]) (by simp [results, Try.results13, go_sem]) rfl (.inr ⟨HBAD.out, rfl, B1.out⟩)
  have d : decide ((E : Int) < (ng : Int)) = false := by simp; omega
  go_wp2_with fail
  clear c2 d
  go_loopw [27] (fun q wr => ∃ k : Nat, k ≤ ng ∧ q = .int .i64 k ∧ ∃ (s : Sl) (As : Option Addr) (cs : Nat), Hid (s = (loadS G g []).take k) ∧ Hid (IObj wr w.heap.size w.heap.size E G As cs none 0 s []) ∧ Hid (∀ y ∈ g.take k, 0 ≤ y ∧ y ≤ (G : Int)) ∧ Hid (Below w.heap.size w wr)) (fun q _ => ng - (intOf q).toNat)
  case atStart => exact ⟨0, Nat.zero_le _, rfl, [], none, 0, rfl, H1, fun y hy => by simp at hy, B1⟩
  case round =>
    obtain ⟨k, hk, rfl, s, As, cs, HS, HO, HGD, HB⟩ := hrel
    have c0 := blk4_0 HO.out.hx
    have c3 := blk4_3 HO.out.hx
    have lx := HO.out.lt
    by_cases hlt : k < ng
    · obtain ⟨b, off, rfl, hbl, hll, hc⟩ := (HG.out.over HB.out).int hlt
      obtain ⟨y, hy⟩ : ∃ y, y = g[k] := ⟨_, rfl⟩
      rw [← hy] at hc
      have HY := Lib.hid (show g[k]? = some y by rw [hy, List.getElem?_eq_getElem hll])
      clear hy
      by_cases hy0 : y < 0
      · have d : decide (y < 0) = true := by simpa using hy0
        have HBAD : Hid (¬ GoodL E G g fr) := fun h => by have := h.gs y (List.mem_of_getElem? HY.out); omega
        go_wp2_with fail
        exact bodyPost_ret (v := .tuple #[.pointer none, .int .i64 11]) (by simp [results, Try.results13, go_sem]) rfl (.inr ⟨HBAD.out, rfl, HB.out⟩)
      have d : decide (y < 0) = false := by simpa using hy0
      by_cases hyG : (G : Int) < y
      · have d2 : decide ((G : Int) < y) = true := by simpa using hyG
        have HBAD : Hid (¬ GoodL E G g fr) := fun h => by have := h.gs y (List.mem_of_getElem? HY.out); omega
        go_wp2_with fail
        exact bodyPost_ret (v := .tuple #[.pointer none, .int .i64 11]) (by simp [results, Try.results13, go_sem]) rfl (.inr ⟨HBAD.out, rfl, HB.out⟩)
      have d2 : decide ((G : Int) < y) = false := by simpa using hyG
      have HGD' : Hid (∀ z ∈ g.take (k + 1), 0 ≤ z ∧ z ≤ (G : Int)) := by
        intro z hz
        rw [List.take_add_one, HY.out] at hz
        simp only [Option.toList_some, List.mem_append, List.mem_singleton] at hz
        rcases hz with hz | rfl
        · exact HGD.out z hz
        · omega
      obtain ⟨al, hal⟩ : ∃ al, decide (y < (G : Int)) = al := ⟨_, rfl⟩
      have hsl : s.length ≤ 1100 := by rw [HS.out, List.length_take]; omega
      have HS' : Hid (s ++ [(y, al)] = (loadS G g []).take (k + 1)) := by
        rw [HS.out, List.take_add_one, loadS_get (by rw [HGL.out]; exact hlt)]
        have hgd : g.getD k 0 = y := by rw [List.getD_eq_getElem?_getD, HY.out]; rfl
        have hsa : slotAt G g [] k = (y, al) := by
          unfold slotAt
          rw [hgd]
          simp [hal]
        rw [hsa]
        rfl
      have e1 : wr.heap.size ≠ w.heap.size := by omega
      have e2 : w.heap.size ≠ wr.heap.size := by omega
      have e3 : wr.heap.size ≠ b := by omega
      have e4 : b ≠ wr.heap.size := by omega
      have z0 := HO.out.hx.frozen 0
      have HZ2 := Lib.hid (HO.out.over ((Below.refl _ _).alloc (Nat.le_refl _) (.cells #[.int .i64 y, .bool al] 68)))
      have RD := Lib.hid (reads_newN wr 68 (0, 0) 2 1 [.int .i64 y, .bool al] rfl)
      have HBB := Lib.hid (HB.out.alloc HB.out.size (.cells #[.int .i64 y, .bool al] 68))
      have one : ∀ u ∈ [Value.int .i64 y, Value.bool al], u.oneCell' = true := by intro u hu; simp at hu; rcases hu with rfl | rfl <;> rfl
      go_wp2_with fail
      go_region_law
        (first
          | (refine step_appN (xs := flatI s) (n := s.length) (c0 := cs) (A0 := As) (A := some ⟨wr.heap.size, 0, none⟩) (m := 1) (c := 1) _ slot_ty (by rfl) (.tmp 45) (.tmp 54) (by rfl) (by simp [Act.eval]) HZ2.out.drew.hs (by simp; omega) (by simp [Act.eval]) RD.out.drew one (by unfold maxLen; omega) (by omega) ?_
             intro A4 c4 w4 own4 hg4 hat4
             rw [own_map] at hg4 hat4
             have hx4 := HZ2.out.drew.hx.grown hg4 (fun e => HZ2.out.sx e.symm)
             have k0 := blk4_0 hx4
             have y0 := hx4.frozen 0
             have hb4 := HBB.out.drew.grown hg4 HBB.out.size (fun j hj => (HZ2.out.own (.inr (.inl hj))).1)
             have HX4 := Lib.hid hx4
             have O4 := Lib.hid own4
             have B4 := Lib.hid hb4
             clear own4 hg4 hat4 hx4 hb4)
          | fail)
      all_goals (
        have own4 := O4.out
        rw [show [Value.int .i64 y, Value.bool al] = flatI [(y, al)] from rfl, flatI_append, show s.length + 1 = (s ++ [(y, al)]).length by simp] at own4
        have o1 := IObj.mkSlots HO.out.hB HX4.out own4 (World.ownsRow_nil _ _ _ _)
        rw [show (s ++ [(y, al)]).length = s.length + 1 by simp] at o1
        have O5 := Lib.hid o1
        have B5 := Lib.hid (B4.out.setCell (p := ⟨w.heap.size, 0, none⟩) (Nat.le_refl _) (.slice A4 (s.length + 1) c4))
        clear own4 o1
        go_wp2_with fail
        exact ⟨⟨k + 1, by omega, by go_num, s ++ [(y, al)], A4, c4, HS', O5, HGD', B5⟩, by simp [intOf]; omega⟩)
    · have HSE : Hid (s = loadS G g (fr.take 0)) := by
        rw [HS.out, List.take_of_length_le (by rw [loadS_length, HGL.out]; omega)]
        simp; trivial
      have HGA : Hid (∀ y ∈ g, 0 ≤ y ∧ y ≤ (G : Int)) := by
        have := HGD.out
        rw [List.take_of_length_le (by rw [HGL.out]; omega)] at this
        exact this
      clear c0 c3 lx HS HGD H1 B1
      go_wp2_with fail
      have hEq : ng ≤ E := by omega
      go_loopw [61] (fun q wr => ∃ k : Nat, k ≤ nf ∧ q = .int .i64 k ∧ ∃ (s : Sl), Hid (s = loadS G g (fr.take k)) ∧ Hid (IObj wr w.heap.size w.heap.size E G As cs none 0 s []) ∧ Hid (∀ j i, j < k → fr[j]? = some i → goodAt G g fr j i) ∧ Hid (Below w.heap.size w wr)) (fun q _ => nf - (intOf q).toNat)
      case atStart => exact ⟨0, Nat.zero_le _, rfl, s, HSE, HO, fun j i hj => by omega, HB⟩
      case round =>
        obtain ⟨k, hk, rfl, s, HS, HO, HGD, HB⟩ := hrel
        have c0 := blk4_0 HO.out.hx
        have lx := HO.out.lt
        have hsl : s.length = ng := by rw [HS.out, loadS_length]; exact HGL.out
        rw [hsl] at c0
        by_cases hlt : k < nf
        · obtain ⟨b, off, rfl, hbl, hll, hc⟩ := (HF.out.over HB.out).int hlt
          obtain ⟨y, hy⟩ : ∃ y, y = fr[k] := ⟨_, rfl⟩
          rw [← hy] at hc
          have HY := Lib.hid (show fr[k]? = some y by rw [hy, List.getElem?_eq_getElem hll])
          clear hy
          by_cases hy0 : y < 0
          · have d : decide (y < 0) = true := by simpa using hy0
            have HBAD : Hid (¬ GoodL E G g fr) := fun h => by have := (h.fs k y HY.out).1; omega
            go_wp2_with fail
            exact bodyPost_ret (v := .tuple #[.pointer none, .int .i64 11]) (by simp [results, Try.results13, go_sem]) rfl (.inr ⟨HBAD.out, rfl, HB.out⟩)
          by_cases hyn : (ng : Int) ≤ y
          · have d : decide (y < 0) = false := by simpa using hy0
            have d2 : decide ((ng : Int) ≤ y) = true := by simpa using hyn
            have HBAD : Hid (¬ GoodL E G g fr) := fun h => by have := (h.fs k y HY.out).2.1; rw [HGL.out] at this; omega
            go_wp2_with fail
            exact bodyPost_ret (v := .tuple #[.pointer none, .int .i64 11]) (by simp [results, Try.results13, go_sem]) rfl (.inr ⟨HBAD.out, rfl, HB.out⟩)
          obtain ⟨q, rfl⟩ := Int.eq_ofNat_of_zero_le (by omega : 0 ≤ y)
          have hqn : q < ng := by omega
          have d : decide ((q : Int) < 0) = false := by simp
          have d2 : decide (ng ≤ q) = false := by simp; omega
          have hq0 : (0 : Int) ≤ q := by omega
          have hq1 : (q : Int) < ng := by omega
          obtain ⟨bg, og, rfl, _, hgl2, hcg⟩ := (HG.out.over HB.out).int hqn
          obtain ⟨v, hv⟩ : ∃ v, v = g[q] := ⟨_, rfl⟩
          rw [← hv] at hcg
          have HV := Lib.hid (show g.getD q 0 = v by rw [List.getD_eq_getElem?_getD, List.getElem?_eq_getElem hgl2, hv]; rfl)
          have hsq : s[q]? = some (slotAt G g (fr.take k) q) := by rw [HS.out]; exact loadS_get (by rw [HGL.out]; exact hqn)
          obtain ⟨gs, rfl, _, _, _, q0, q1, qf⟩ := HO.out.slot hsq
          have qz := qf (q * 2 + 1)
          have hgs := HO.out.ne_sx rfl
          obtain ⟨al, hal⟩ : ∃ al, (slotAt G g (fr.take k) q).2 = al := ⟨_, rfl⟩
          rw [hal] at q1
          have hga : (slotAt G g (fr.take k) q).1 = v := HV.out
          rw [hga] at q0
          have HAL : Hid (al = decide (v < (G : Int) ∧ (q : Int) ∉ fr.take k)) := by
            rw [← hal, ← HV.out]
            rfl
          have HSQ := Lib.hid hsq
          clear hv hsq hal hga qf hy0 hyn
          cases al with
          | false =>
            have HBAD : Hid (¬ GoodL E G g fr) := fun h => by
              obtain ⟨_, _, h2, _, h4⟩ := h.fs k _ HY.out
              have := HAL.out
              rw [Int.toNat_natCast, HV.out] at h4
              rw [eq_comm, decide_eq_false_iff_not] at this
              exact this ⟨h4, h2⟩
            go_wp2_with fail
            exact bodyPost_ret (v := .tuple #[.pointer none, .int .i64 11]) (by simp [results, Try.results13, go_sem]) rfl (.inr ⟨HBAD.out, rfl, HB.out⟩)
          | true =>
          have HAL2 : Hid (v < (G : Int) ∧ (q : Int) ∉ fr.take k) := by
            have := HAL.out
            rw [eq_comm, decide_eq_true_iff] at this
            exact this
          by_cases hv0 : v = 0
          · subst hv0
            have HBAD : Hid (¬ GoodL E G g fr) := fun h => by
              obtain ⟨_, _, _, h3, _⟩ := h.fs k _ HY.out
              rw [Int.toNat_natCast, HV.out] at h3
              exact h3 rfl
            go_wp2_with fail
            exact bodyPost_ret (v := .tuple #[.pointer none, .int .i64 11]) (by simp [results, Try.results13, go_sem]) rfl (.inr ⟨HBAD.out, rfl, HB.out⟩)
          have d3 : (v == 0) = false := by rw [beq_eq_false_iff_ne]; exact hv0
          have HV0 := Lib.hid hv0
          have HS' : Hid (s.set q ((slotAt G g (fr.take k) q).1, false) = loadS G g (fr.take (k + 1))) := by
            rw [loadS_step HY.out (by rw [HGL.out]; exact hqn), ← HS.out]
            rfl
          have HGD' : Hid (∀ j i, j < k + 1 → fr[j]? = some i → goodAt G g fr j i) := by
            intro j i hj hi
            rcases Nat.lt_or_ge j k with h' | h'
            · exact HGD.out j i h' hi
            · obtain rfl : j = k := by omega
              rw [HY.out] at hi
              injection hi with hi
              subst hi
              refine ⟨hq0, by rw [HGL.out]; exact hq1, HAL2.out.2, ?_, ?_⟩
              · rw [Int.toNat_natCast, HV.out]; exact HV0.out
              · rw [Int.toNat_natCast, HV.out]; exact HAL2.out.1
          have HO' := Lib.hid (HO.out.setAlive rfl HSQ.out false)
          rw [HS'.out] at HO'
          have hgB := (HO.out.own (k := gs) (.inr (.inl rfl))).1
          have HB' := Lib.hid (HB.out.setCell (p := ⟨gs, q * 2 + 1, none⟩) hgB (.bool false))
          clear hv0
          go_wp2_with fail
          exact ⟨⟨k + 1, by omega, by go_num, _, rfl, HO', HGD', HB'⟩, by simp [intOf]; omega⟩
        · have HGOOD : Hid (GoodL E G g fr) := ⟨by rw [HGL.out]; exact hEq, HGA.out, fun j i hi => HGD.out j i (by have := (List.getElem?_eq_some_iff.1 hi).1; rw [HFL.out] at this; omega) hi⟩
          have HSF : Hid (s = loadS G g fr) := by
            rw [HS.out, List.take_of_length_le (by rw [HFL.out]; omega)]
            trivial
          obtain rfl := HSF.out
          have z1 := HO.out.hx.frozen 1
          have c1 := blk4_1 HO.out.hx
          clear HS HSF HGD c0 hsl
          cases Af with
          | none =>
            have hnf0 : nf = 0 := by
              rcases Nat.eq_zero_or_pos nf with h0 | h0
              · exact h0
              · obtain ⟨_, h, _⟩ := HF.out.2 h0
                cases h
            have hcf0 := hcf rfl
            subst hnf0
            subst hcf0
            have hfr : fr = [] := List.eq_nil_of_length_eq_zero HFL.out
            subst hfr
            have HO' := Lib.hid (HO.out.setFree (f' := []) (Af' := none) (cf' := 0) (World.ownsRow_nil _ _ _ _))
            have HB' := Lib.hid (HB.out.setCell (p := ⟨w.heap.size, 1, none⟩) (Nat.le_refl _) (.slice none 0 0))
            go_wp2_with fail
            refine (clone_nil _).mono ?_
            rintro e2 w2 ⟨rfl, rfl⟩
            go_wp2_with fail
            exact bodyPost_ret (v := .tuple #[.pointer (some ⟨w.heap.size, 0, none⟩), .int .i64 0]) (by simp [results, Try.results13, go_sem]) rfl (.inl ⟨HGOOD.out, rfl, ⟨_, _, _, _, HO'.out⟩, HB'.out⟩)
          | some ad =>
            clear hcf
            go_wp2_with fail
            refine (clone_some _ _ _ fr _ (HF.out.over HB.out) (by omega)).mono ?_
            rintro e2 w2 ⟨a2, c2, rfl, ho2, hb2⟩
            have ho := HO.out.over hb2
            have k1 := blk4_1 ho.hx
            have k2 := ho.hx.frozen 1
            have HO' := Lib.hid (ho.setFree (own_base ho2 (Nat.le_trans (Nat.le_of_lt HO.out.lt) (Nat.le_refl _))))
            have HB' := Lib.hid ((HB.out.trans (hb2.mono HB.out.size)).setCell (p := ⟨w.heap.size, 1, none⟩) (Nat.le_refl _) (.slice (some ⟨a2, 0, none⟩) fr.length c2))
            clear ho ho2 hb2 c1 z1
            go_wp2_with fail
            exact bodyPost_ret (v := .tuple #[.pointer (some ⟨w.heap.size, 0, none⟩), .int .i64 0]) (by simp [results, Try.results13, go_sem]) rfl (.inl ⟨HGOOD.out, rfl, ⟨_, _, _, _, HO'.out⟩, HB'.out⟩)
end Go.Proofs.Ytohlcopnifmjoab
