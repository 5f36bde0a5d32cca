/- alloc: the reference's Drop. -/
import Derived.Test.YtohlcopnifmjoaeRefHold
import Derived.Test.YtohlcopnifmjoaeRefSpec
namespace Go.Proofs.Ytohlcopnifmjoae
open Go.RowKit

def RDropIs (H l : List Int) (ok : Bool) (H' : List Int) : Prop :=
  (ok = true ∧ dropL H l = some H') ∨ (ok = false ∧ dropL H l = none ∧ H' = H)
/-- none of the first j is x -/
def NoneOf (G : List Int) (x : Int) (j : Nat) : Prop := ∀ q, q < j → G[q]? ≠ some x

theorem Reads.pre {w : World} {B b off n q : Nat} {G : List Int} (h : Reads w B 1 (some ⟨b, off, none⟩) n (ints G)) (hq : q ≤ n) : Reads w B 1 (some ⟨b, off, none⟩) q (ints (G.take q)) := by
  have hl := h.ilen
  refine ⟨by rw [ints_length, List.length_take]; omega, fun hpos => ?_⟩
  obtain ⟨ad, e, hb, hc⟩ := h.2 (by omega)
  refine ⟨ad, e, hb, fun j u hu => hc j u ?_⟩
  simp only [ints, List.map_take, List.getElem?_take] at hu
  split at hu
  · exact hu
  · cases hu
theorem Reads.suf {w : World} {B b off n q : Nat} {G : List Int} (h : Reads w B 1 (some ⟨b, off, none⟩) n (ints G)) (hq : q ≤ n) : Reads w B 1 (some ⟨b, off + q, none⟩) (n - q) (ints (G.drop q)) := by
  have hl := h.ilen
  refine ⟨by rw [ints_length, List.length_drop]; omega, fun hpos => ?_⟩
  obtain ⟨ad, e, hb, hc⟩ := h.2 (by omega)
  injection e with e
  subst e
  refine ⟨_, rfl, hb, fun j u hu => ?_⟩
  simp only [ints, List.map_drop, List.getElem?_drop] at hu
  have := hc (q + j) u hu
  rw [add_flat] at this ⊢
  rw [Nat.add_assoc]
  exact this
theorem Reads.none_n {w : World} {B : Nat} {A : Option Addr} : Reads w B 1 A 0 (ints []) := ⟨by simp [ints], fun h => absurd h (by omega)⟩

set_option maxHeartbeats 2000000 in
theorem rdrop_any (N : Int) (A : Option Addr) (n c : Nat) (H : List Int) (hn : n ≤ 900000) (hnc : n ≤ c) (Al : Option Addr) (nl cl : Nat) (l : List Int) (hnl : nl ≤ 1000) (ok : Bool) (H' : List Int) (ht : RDropIs H l ok H') (w : World) (h : Reads w w.heap.size 1 A n (ints H)) (hl : Reads w w.heap.size 1 Al nl (ints l)) :
    Calls Try.prog 24 #[.agg #[.int .i64 N, .slice A n c], .slice Al nl cl] w (R2Post w A n N H' ok) := by
  have b1 : Below w.heap.size w ((w.alloc (.cells #[.int .i64 N, .slice A n c] 29)).alloc (.cells #[.int .i64 0, .slice none 0 0] 29)) := ((Below.refl _ _).alloc (Nat.le_refl _) _).alloc (by simp) _
  have hblk : Hid (Blk ((w.alloc (.cells #[.int .i64 N, .slice A n c] 29)).alloc (.cells #[.int .i64 0, .slice none 0 0] 29)) w.heap.size 29 #[.int .i64 N, .slice A n c]) := (Blk.new w 29 _).alloc _
  have hblk2 : Hid (Blk ((w.alloc (.cells #[.int .i64 N, .slice A n c] 29)).alloc (.cells #[.int .i64 0, .slice none 0 0] 29)) (w.heap.size + 1) 29 #[.int .i64 0, .slice none 0 0]) := by
    have := Blk.new (w.alloc (.cells #[.int .i64 N, .slice A n c] 29)) 29 #[.int .i64 0, .slice none 0 0]
    rw [World.size_alloc] at this
    exact this
  have HR0 := Lib.hid h
  have HR := Lib.hid (h.over b1)
  have HL00 := Lib.hid hl
  have B1 := Lib.hid b1
  have HL := Lib.hid h.ilen
  have HLl := Lib.hid hl.ilen
  have HT := Lib.hid ht
  have hsz : ((w.alloc (.cells #[.int .i64 N, .slice A n c] 29)).alloc (.cells #[.int .i64 0, .slice none 0 0] 29)).heap.size = w.heap.size + 2 := by simp
  have f0 := blk0 hblk.out
  have f1 := blk1 hblk.out
  clear h b1 hl ht
  go_enter Try.func24, Try.ntmps24
  go_wp2_with fail
  generalize (w.alloc (.cells #[.int .i64 N, .slice A n c] 29)).alloc (.cells #[.int .i64 0, .slice none 0 0] 29) = W at HR B1 hblk hblk2 hsz f0 f1 ⊢
  have HSZ := Lib.hid hsz
  clear hsz f0 f1
  have hb6 : Blk (W.alloc (.cells #[.int .i64 N, .slice A n c] 29)) (w.heap.size + 2) 29 #[.int .i64 N, .slice A n c] := by
    have := Blk.new W 29 #[.int .i64 N, .slice A n c]
    rw [HSZ.out] at this
    exact this
  have HB6 := Lib.hid hb6
  have bw : Below W.heap.size W (W.alloc (.cells #[.int .i64 N, .slice A n c] 29)) := (Below.refl _ _).alloc (Nat.le_refl _) _
  have HW := Lib.hid (HR.out.over bw)
  have BW := Lib.hid (bw.mono (Nat.le_of_eq HSZ.out.symm))
  clear hb6 bw
  generalize W.alloc (.cells #[.int .i64 N, .slice A n c] 29) = W2 at HB6 HW BW ⊢
  go_loopw [7, 8] (fun i _ wr => ∃ k : Nat, k ≤ nl ∧ i = .int .i64 k ∧ ∃ G A' n' c', n' ≤ c' ∧ Hid (dropL H (l.take k) = some G) ∧ Hid (Far w A n A' n') ∧ Hid (Away A' n' (w.heap.size + 1)) ∧ Hid (Reads wr wr.heap.size 1 A' n' (ints G)) ∧ Hid (Blk wr (w.heap.size + 2) 29 #[.int .i64 N, .slice A' n' c']) ∧ Hid (Below (w.heap.size + 2) W wr)) (fun i _ _ => nl - (intOf i).toNat)
  case atStart => exact ⟨0, Nat.zero_le _, rfl, H, A, n, c, hnc, rfl, fun _ _ h => h, HR0.out.away_of (by omega), HW, HB6, BW⟩
  case round =>
    obtain ⟨k, hk, rfl, G, A', n', c', hnc', HG, HFAR, HAW, HX, HK6, HB⟩ := hrel
    have hbk := hblk.out.below HB.out (by omega)
    have hbk2 := hblk2.out.below HB.out (by omega)
    have f0 : wr.cell? ⟨w.heap.size, 0, none⟩ = some (.int .i64 N) := blk0 hbk
    have f1 : wr.cell? ⟨w.heap.size, 1, none⟩ = some (.slice A n c) := blk1 hbk
    have f2 := blk0 hbk2
    have f3 := blk1 hbk2
    have z2 := hbk2.frozen 0
    have z3 := hbk2.frozen 1
    have g0 := blk0 HK6.out
    have g1 := blk1 HK6.out
    have HGL := Lib.hid HX.out.ilen
    have hn' : n' ≤ n := by
      have := dropL_length HG.out
      rw [HGL.out, HL.out] at this
      exact this
    have hbl : Below w.heap.size w wr := B1.out.trans (HB.out.mono (by omega))
    have HBL := Lib.hid hbl
    have HLX := Lib.hid ((show Reads w w.heap.size 1 Al nl (ints l) from HL00.out).over hbl)
    clear hbl
    by_cases hlt : k < nl
    · obtain ⟨b, off, rfl, hbl, hll, hc⟩ := HLX.out.int hlt
      obtain ⟨x, hx⟩ : ∃ x, x = l[k] := ⟨_, rfl⟩
      rw [← hx] at hc
      have HX1 := Lib.hid (show l.take (k + 1) = l.take k ++ [x] by rw [List.take_succ_eq_append_getElem hll, hx])
      have HXN : Hid (x ∉ G → dropL H l = none) := by
        intro hm
        rw [hx] at hm
        exact dropL_none hll HG.out hm
      clear hx
      go_wp2_with fail
      have HC := Lib.hid hc
      have hbne : b < w.heap.size := by
        obtain ⟨ad, e, hb, _⟩ := HL00.out.2 (by omega)
        injection e with e
        rw [← e] at hb
        exact hb
      have HBK2 := Lib.hid hbk2
      clear hbk hbk2 hbl g0
      go_loopw [8] (fun j wi => ∃ q : Nat, q ≤ n' ∧ j = .int .i64 q ∧ Hid (NoneOf G x q) ∧ Hid (∃ d, wi = wr.drewN d)) (fun j _ => n' - (intOf j).toNat)
      case atStart => exact ⟨0, Nat.zero_le _, rfl, fun q hq => by omega, 0, rfl⟩
      case round =>
        obtain ⟨q, hq, rfl, HN, ⟨d, rfl⟩⟩ := hrel
        have HXd := Lib.hid (HX.out.over (⟨rfl, rfl, rfl, Nat.le_refl _, fun _ _ => rfl⟩ : Below wr.heap.size wr (wr.drewN d)))
        have HBd := Lib.hid (below_drewN HB.out d)
        have HBLd := Lib.hid (below_drewN HBL.out d)
        by_cases hqn : q < n'
        · have d1 : decide ((q : Int) < (n' : Int)) = true := by simpa using hqn
          have hqi : (q : Int) < (n' : Int) := by omega
          obtain ⟨b', off', rfl, hbl', hgl, hgc⟩ := HX.out.int hqn
          obtain ⟨y, hy⟩ : ∃ y, y = G[q] := ⟨_, rfl⟩
          rw [← hy] at hgc
          have HY := Lib.hid (show G[q]? = some y by rw [List.getElem?_eq_getElem hgl, hy])
          clear hy
          by_cases hyx : y = x
          · subst hyx
            go_wp2_with fail
            go_quiet (fail)
            go_wp2_with fail
            have HKX := Lib.hid (HK6.out.drewN (d + nq))
            have bd : Below wr.heap.size wr (wr.drewN (d + nq)) := ⟨rfl, rfl, rfl, Nat.le_refl _, fun _ _ => rfl⟩
            have HXX := Lib.hid (HX.out.over bd)
            have HBX := Lib.hid (HB.out.trans (bd.mono (Nat.le_trans (by rw [HSZ.out]; exact Nat.le_refl _) HB.out.size)))
            clear bd g1 f0 f1 f2 f3 z2 z3 hc hgc HC
            generalize wr.drewN (d + nq) = X at HKX HXX HBX ⊢
            have g1 := blk1 HKX.out
            have z1 := HKX.out.frozen 1
            have hg6lt := HKX.out.lt
            have X6lt : w.heap.size + 2 < X.heap.size := hg6lt
            have HER := Lib.hid (erase_at G y q hgl (by have := HY.out; rw [List.getElem?_eq_getElem hgl] at this; injection this) (fun p hp he => HN.out p hp (by rw [List.getElem?_eq_getElem (by omega), he])))
            have HDR := Lib.hid (show dropL H (l.take (k + 1)) = some (G.erase y) by
              rw [HX1.out, dropL_snoc HG.out, if_pos (List.mem_of_getElem? HY.out)])
            obtain ⟨A2, hA, RS⟩ : ∃ A2 : Addr, (if c' = q + 1 then some (⟨b', off', none⟩ : Addr) else some ⟨b', off' + (q + 1), none⟩) = some A2 ∧ Hid (Reads X X.heap.size 1 (some A2) (n' - (q + 1)) (ints (G.drop (q + 1)))) := by
              by_cases h : c' = q + 1
              · refine ⟨⟨b', off', none⟩, by simp [h], ?_⟩
                have h1 : n' - (q + 1) = 0 := by omega
                have h2 : G.drop (q + 1) = [] := List.drop_of_length_le (by have := HGL.out; omega)
                rw [h1, h2]
                exact Reads.none_n
              · exact ⟨⟨b', off' + (q + 1), none⟩, by simp [h], HXX.out.suf (by omega)⟩
            have RP := Lib.hid (HXX.out.pre (q := q) (by omega))
            have hqc : q ≤ c' := by omega
            have hwr : IntKind.i64.wrap ((q : Int) + 1) = (q : Int) + 1 := by rw [IntKind.wrap_i64]; omega
            have hp0 : (0 : Int) ≤ (q : Int) + 1 := by omega
            have hp1 : (q : Int) + 1 ≤ (n' : Int) := by omega
            have hp2 : ((q : Int) + 1).toNat = q + 1 := by omega
            have ba : Below X.heap.size X (X.alloc (.cells #[] 3)) := (Below.refl _ _).alloc (Nat.le_refl _) _
            have oa : (X.alloc (.cells #[] 3)).ownsRow X.heap.size 3 1 (.slice (some ⟨X.heap.size, 0, none⟩) 0 0) 0 [] := World.ownsRow_made X #[] 0 (Nat.le_refl _) (by simp) (by simp)
            have BA := Lib.hid ba
            have OA := Lib.hid oa
            clear ba oa
            go_region_law
              (first
                | (refine step_app1 (w0 := X) (xs := []) (A0 := some ⟨X.heap.size, 0, none⟩) (n := 0) (c0 := 0) (A := some ⟨b', off', none⟩) (m := q) (c := c') _ i64_ty (by rfl) (.tmp 41) (.tmp 45) (by rfl) (by simp [Act.eval, Act.put]) BA.out.drew OA.out.drew (by simp [Act.eval, Act.put]) (RP.out.over BA.out.drew) (ints_one _) (by unfold maxLen; omega) (by omega) ?_
                   intro A4 c4 w4 b4 own4 hg4 hat4
                   simp only [Nat.zero_add, List.nil_append] at own4 hat4 ⊢
                   have B4 := Lib.hid b4
                   have O4 := Lib.hid own4
                   have k1 := (b4.cell (p := ⟨w.heap.size + 2, 1, none⟩) hg6lt).trans g1
                   clear own4 hg4 hat4 b4)
                | (refine step_app1 (w0 := X) (A0 := A4) (n := q) (c0 := c4) (A := some A2) (m := n' - (q + 1)) (c := c' - (q + 1)) _ i64_ty (by rfl) (.tmp 46) (.tmp 51) (by rfl) (by simp [Act.eval, Act.put]) B4.out O4.out (by simp [Act.eval, Act.put]) (RS.out.over B4.out) (ints_one _) (by unfold maxLen; omega) (by omega) ?_
                   intro A5 c5 w5 b5 own5 hg5 hat5
                   have B5 := Lib.hid b5
                   have O5 := Lib.hid own5
                   have k1 := (b5.cell (p := ⟨w.heap.size + 2, 1, none⟩) hg6lt).trans g1
                   have z1 := (HKX.out.below b5 hg6lt).frozen 1
                   clear own5 hg5 hat5 b5)
                | fail)
            all_goals (
              have hb6 := Lib.hid (one_set (HKX.out.below B5.out hg6lt) (.slice A5 (q + (n' - (q + 1))) c5))
              have ho := ownsRow_setCell_below O5.out (a := ⟨w.heap.size + 2, 1, none⟩) hg6lt (.slice A5 (q + (n' - (q + 1))) c5)
              rw [ints_append, ← HER.out] at ho
              have hle := own_le ho
              have HO6 := Lib.hid (Reads.of_own ho)
              have HF6 : Hid (Far w A n A5 (q + (n' - (q + 1)))) := fun _ hk _ => own_away ho (by omega)
              have HA6 := Lib.hid (own_away (k := w.heap.size + 1) ho (by omega))
              have HB6 := Lib.hid ((HBX.out.trans (B5.out.mono (by omega))).setCell (p := ⟨w.heap.size + 2, 1, none⟩) (Nat.le_refl _) (.slice A5 (q + (n' - (q + 1))) c5))
              clear ho O5 B5
              go_wp2_with fail
              exact ⟨⟨k + 1, by omega, by go_num, _, A5, q + (n' - (q + 1)), c5, hle, HDR, HF6, HA6, HO6, hb6, HB6⟩, by simp [intOf]; omega⟩)
          · go_wp2_with fail
            go_quiet (fail)
            go_wp2_with fail
            refine ⟨⟨q + 1, by omega, by go_num, ?_, d + nq, rfl⟩, by simp [intOf]; omega⟩
            intro p hp hpe
            rcases Nat.lt_or_ge p q with h' | h'
            · exact HN.out p h' hpe
            · obtain rfl : p = q := by omega
              rw [HY.out] at hpe
              injection hpe with hpe
              exact hyx hpe
        · have d1 : decide ((q : Int) < (n' : Int)) = false := by simpa using hqn
          have HT2 : Hid (ok = false ∧ H' = H) := by
            have hno := HXN.out (not_mem_of G x fun p hp he => HN.out p (by have := HGL.out; omega) (by rw [List.getElem?_eq_getElem hp, he]))
            rcases HT.out with ⟨_, h2⟩ | ⟨h1, _, h3⟩
            · rw [hno] at h2
              cases h2
            · exact ⟨h1, h3⟩
          obtain ⟨rfl, rfl⟩ := HT2.out
          have hqe : q = n' := by omega
          subst hqe
          go_wp2_with fail
          go_quiet (fail)
          have HK := Lib.hid (two_set (HBK2.out.drewN (d + nq)) (.int .i64 N) (.slice A n c))
          have HBX := Lib.hid (below_drewN HBL.out (d + nq))
          go_wp2_with fail
          have e0 := blk0 HK.out
          have e1 := blk1 HK.out
          have hb := (HBX.out.setCell (p := ⟨w.heap.size + 1, 0, none⟩) (Nat.le_succ _) (.int .i64 N)).setCell (p := ⟨w.heap.size + 1, 1, none⟩) (Nat.le_succ _) (.slice A n c)
          exact bodyPost_ret (v := .tuple #[.agg #[.int .i64 N, .slice A n c], .bool false]) (by simp [results, Try.results24, go_sem, e0, e1]) rfl ⟨A, n, c, rfl, hnc, fun _ _ h => h, HR0.out.over hb, hb⟩
    · have HT2 : Hid (ok = true ∧ H' = G) := by
        have hlk : l.take k = l := List.take_of_length_le (by rw [HLl.out]; omega)
        have hc := HG.out
        rw [hlk] at hc
        rcases HT.out with ⟨h1, h3⟩ | ⟨_, h3, _⟩
        · rw [hc] at h3
          injection h3 with h3
          exact ⟨h1, h3.symm⟩
        · rw [hc] at h3
          cases h3
      obtain ⟨rfl, rfl⟩ := HT2.out
      have HK := Lib.hid (two_set hbk2 (.int .i64 N) (.slice A' n' c'))
      clear hbk hbk2 f0 f1
      go_wp2_with fail
      have e0 := blk0 HK.out
      have e1 := blk1 HK.out
      have hb := (HBL.out.setCell (p := ⟨w.heap.size + 1, 0, none⟩) (Nat.le_succ _) (.int .i64 N)).setCell (p := ⟨w.heap.size + 1, 1, none⟩) (Nat.le_succ _) (.slice A' n' c')
      exact bodyPost_ret (v := .tuple #[.agg #[.int .i64 N, .slice A' n' c'], .bool true]) (by simp [results, Try.results24, go_sem, e0, e1]) rfl ⟨A', n', c', rfl, hnc', HFAR.out, (HX.out.away _ _ HAW.out).away _ _ HAW.out, hb⟩
end Go.Proofs.Ytohlcopnifmjoae
