/- alloc: the reference's Hold. -/
import Derived.Test.YtohlcopnifmjoaeRef
import Derived.Deep.RegionHeld3
import Derived.Deep.RegionLaw
namespace Go.Proofs.Ytohlcopnifmjoae
open Go.RowKit

/-- an append at a step of a region that draws its order -/
theorem step_app1 {P : Program} (w : World) {ops : Array Oper} {o : Oper} {a : Act} {K : Act → World → Prop} {Q : Exit → Act → World → Prop} {E : Prop} {t e : TypeId} {z : Value} {bytes : Nat} (T : Ty1 P t e z bytes)
    (hgd : o.guard = none) (s x : Operand) (ho : o.op = .call { callee := .builtin .append, args := #[s, x], argTypes := #[t, t] })
    {w0 : World} {A0 : Option Addr} {n c0 : Nat} {xs : List Value} (hs : a.eval s = .slice A0 n c0) (hb : Below w0.heap.size w0 w) (hown : w.ownsRow w0.heap.size e 1 (.slice A0 n c0) n xs)
    {B : Nat} {A : Option Addr} {m c : Nat} {news : List Value} (hx : a.eval x = .slice A m c) (hr : Reads w B 1 A m news) (h1 : ∀ u ∈ news, u.oneCell' = true)
    (h63 : n + m ≤ maxLen) (hbytes : (n + m) * bytes ≤ 140737488355328)
    (h : ∀ A' c' w', Below w0.heap.size w0 w' → w'.ownsRow w0.heap.size e 1 (.slice A' (n + m) c') (n + m) (xs ++ news) → w.grownBy w' (Value.slice A0 n c0).ownBlock →
      ((Value.slice A' (n + m) c').ownBlock = (Value.slice A0 n c0).ownBlock ∨ (Value.slice A' (n + m) c').ownBlock = some w.heap.size) → K (a.put o.dst (.slice A' (n + m) c')) w') :
    if Region.wanted o (yielded ops a.tmps) = true then Oper.wp P o a w K Q else E := by
  obtain ⟨i, hi, hz, hs1, hb1⟩ := T.hi
  refine step_append_any (P := P) w hgd s x t ho w0.heap.size e i z 1 bytes T.ht hi hz hs1 hb1 T.hz (by decide) _ n xs hs hown B A m c news hx hr h1 h63 hbytes hb.size fun v' w' h2 h3 h4 => ?_
  have hex : ∃ A' c', v' = .slice A' (n + m) c' := by
    rcases h2.2 with ⟨rfl, h0⟩ | ⟨g, cap, cur, rfl, _⟩
    · exact ⟨none, 0, by rw [h0]⟩
    · exact ⟨_, cap, rfl⟩
  obtain ⟨A', c', rfl⟩ := hex
  exact h A' c' w' (below_app hb hown h3) h2 h3 h4
theorem reads_blk {w : World} {g : Nat} {t : TypeId} {x : Value} (h : Blk w g t #[x]) : Reads w w.heap.size 1 (some ⟨g, 0, none⟩) 1 [x] := by
  refine ⟨by simp, fun _ => ⟨_, rfl, h.lt, fun j u hu => ?_⟩⟩
  rw [add_flat, h.cell]
  simpa using hu

def R2Post (w : World) (A : Option Addr) (n : Nat) (N : Int) (H' : List Int) (ok : Bool) (e : Ending) (w' : World) : Prop :=
  ∃ A' n' c', e = .returned (.tuple #[.agg #[.int .i64 N, .slice A' n' c'], .bool ok]) ∧ n' ≤ c' ∧ Far w A n A' n' ∧ Reads w' w'.heap.size 1 A' n' (ints H') ∧ Below w.heap.size w w'
def RHoldIs (N : Nat) (H l : List Int) (ok : Bool) (H' : List Int) : Prop :=
  (ok = true ∧ (∀ x ∈ l, 0 ≤ x ∧ x < N) ∧ H' = H ++ l) ∨ (ok = false ∧ (∃ x ∈ l, ¬ (0 ≤ x ∧ x < N)) ∧ H' = H)

set_option maxHeartbeats 1000000 in
theorem rhold_any (N : Nat) (A : Option Addr) (n c : Nat) (H : List Int) (hn : n ≤ 900000) (hnc : n ≤ c) (Al : Option Addr) (nl cl : Nat) (l : List Int) (hnl : nl ≤ 1000) (ok : Bool) (H' : List Int) (ht : RHoldIs N H l ok H') (w : World) (h : Reads w w.heap.size 1 A n (ints H)) (hl : Reads w w.heap.size 1 Al nl (ints l)) :
    Calls Try.prog 23 #[.agg #[.int .i64 N, .slice A n c], .slice Al nl cl] w (R2Post w A n N H' ok) := by
  have b1 : Below w.heap.size w ((w.alloc (.cells #[.int .i64 N, .slice A n c] 29)).alloc (.cells #[.int .i64 0, .slice none 0 0] 29)) := ((Below.refl _ _).alloc (Nat.le_refl _) _).alloc (by simp) _
  have hblk : Hid (Blk ((w.alloc (.cells #[.int .i64 N, .slice A n c] 29)).alloc (.cells #[.int .i64 0, .slice none 0 0] 29)) w.heap.size 29 #[.int .i64 N, .slice A n c]) := (Blk.new w 29 _).alloc _
  have hblk2 : Hid (Blk ((w.alloc (.cells #[.int .i64 N, .slice A n c] 29)).alloc (.cells #[.int .i64 0, .slice none 0 0] 29)) (w.heap.size + 1) 29 #[.int .i64 0, .slice none 0 0]) := by
    have := Blk.new (w.alloc (.cells #[.int .i64 N, .slice A n c] 29)) 29 #[.int .i64 0, .slice none 0 0]
    rw [World.size_alloc] at this
    exact this
  have HR0 := Lib.hid h
  have HR := Lib.hid (h.over b1)
  have HL00 := Lib.hid hl
  have B1 := Lib.hid b1
  have HL := Lib.hid h.ilen
  have HLl := Lib.hid hl.ilen
  have HT := Lib.hid ht
  have hsz : ((w.alloc (.cells #[.int .i64 N, .slice A n c] 29)).alloc (.cells #[.int .i64 0, .slice none 0 0] 29)).heap.size = w.heap.size + 2 := by simp
  have f0 := blk0 hblk.out
  have f1 := blk1 hblk.out
  clear h b1 hl ht
  go_enter Try.func23, Try.ntmps23
  go_wp2_with fail
  generalize (w.alloc (.cells #[.int .i64 N, .slice A n c] 29)).alloc (.cells #[.int .i64 0, .slice none 0 0] 29) = W at HR B1 hblk hblk2 hsz f0 f1 ⊢
  have HSZ := Lib.hid hsz
  clear hsz f0 f1
  have hb6 : Blk (W.alloc (.cells #[.int .i64 N, .slice A n c] 29)) (w.heap.size + 2) 29 #[.int .i64 N, .slice A n c] := by
    have := Blk.new W 29 #[.int .i64 N, .slice A n c]
    rw [HSZ.out] at this
    exact this
  have HB6 := Lib.hid hb6
  have bw : Below W.heap.size W (W.alloc (.cells #[.int .i64 N, .slice A n c] 29)) := (Below.refl _ _).alloc (Nat.le_refl _) _
  have HW := Lib.hid (HR.out.over bw)
  have BW := Lib.hid (bw.mono (Nat.le_of_eq HSZ.out.symm))
  clear hb6 bw
  generalize W.alloc (.cells #[.int .i64 N, .slice A n c] 29) = W2 at HB6 HW BW ⊢
  go_loopw [7] (fun i wr => ∃ k : Nat, k ≤ nl ∧ i = .int .i64 k ∧ Hid (∀ x ∈ l.take k, 0 ≤ x ∧ x < N) ∧ ∃ A' n' c', n' ≤ c' ∧ Hid (Far w A n A' n') ∧ Hid (Away A' n' (w.heap.size + 1)) ∧ Hid (Reads wr wr.heap.size 1 A' n' (ints (H ++ l.take k))) ∧ Hid (Blk wr (w.heap.size + 2) 29 #[.int .i64 N, .slice A' n' c']) ∧ Hid (Below (w.heap.size + 2) W wr)) (fun i _ => nl - (intOf i).toNat)
  case atStart => exact ⟨0, Nat.zero_le _, rfl, by intro x hx; simp at hx, A, n, c, hnc, fun _ _ h => h, HR0.out.away_of (by omega), by simpa using HW, HB6, BW⟩
  case round =>
    obtain ⟨k, hk, rfl, HC, A', n', c', hnc', HFAR, HAW, HX, HK6, HB⟩ := hrel
    have hbk := hblk.out.below HB.out (by omega)
    have hbk2 := hblk2.out.below HB.out (by omega)
    have f0 : wr.cell? ⟨w.heap.size, 0, none⟩ = some (.int .i64 N) := blk0 hbk
    have f1 : wr.cell? ⟨w.heap.size, 1, none⟩ = some (.slice A n c) := blk1 hbk
    have f2 := blk0 hbk2
    have f3 := blk1 hbk2
    have z2 := hbk2.frozen 0
    have z3 := hbk2.frozen 1
    have g0 := blk0 HK6.out
    have g1 := blk1 HK6.out
    have hn' : n' ≤ n + 1000 := by
      have := HX.out.ilen
      rw [List.length_append, List.length_take, HL.out] at this
      omega
    have hbl : Below w.heap.size w wr := B1.out.trans (HB.out.mono (by omega))
    have HBL := Lib.hid hbl
    have HLX := Lib.hid ((show Reads w w.heap.size 1 Al nl (ints l) from HL00.out).over hbl)
    clear hbl
    by_cases hlt : k < nl
    · obtain ⟨b, off, rfl, hbl, hll, hc⟩ := HLX.out.int hlt
      obtain ⟨x, hx⟩ : ∃ x, x = l[k] := ⟨_, rfl⟩
      rw [← hx] at hc
      have HX1 := Lib.hid (show l.take (k + 1) = l.take k ++ [x] by rw [List.take_succ_eq_append_getElem hll, hx])
      have HXM := Lib.hid (show x ∈ l by rw [hx]; exact List.getElem_mem hll)
      clear hx
      by_cases hin : 0 ≤ x ∧ x < N
      · have d1 : decide (x < 0) = false := by simp; omega
        have d2 : ¬ (N : Int) ≤ x := by omega
        go_wp2_with fail
        go_quiet (fail)
        have bd : Below wr.heap.size wr (wr.drewN nq) := ⟨rfl, rfl, rfl, Nat.le_refl _, fun _ _ => rfl⟩
        have HK6 := Lib.hid (HK6.out.drewN nq)
        have HX := Lib.hid (HX.out.over bd)
        have HB := Lib.hid (HB.out.trans (bd.mono (Nat.le_trans (by rw [HSZ.out]; exact Nat.le_refl _) HB.out.size)))
        have hc2 : (wr.drewN nq).cell? ⟨b, off + k, none⟩ = some (.int .i64 x) := hc
        clear bd hc f0 f1 f2 f3 g0 g1 z2 z3 hbk hbk2
        go_wp2_with fail
        generalize wr.drewN nq = X at HK6 HX HB hc2 ⊢
        have g1 := blk1 HK6.out
        have z1 := HK6.out.frozen 1
        have ba : Below X.heap.size X (X.alloc (.cells #[] 3)) := (Below.refl _ _).alloc (Nat.le_refl _) _
        have bl : Below X.heap.size X (X.alloc (.cells #[.int .i64 x] 3)) := (Below.refl _ _).alloc (Nat.le_refl _) _
        have oa : (X.alloc (.cells #[] 3)).ownsRow X.heap.size 3 1 (.slice (some ⟨X.heap.size, 0, none⟩) 0 0) 0 [] := World.ownsRow_made X #[] 0 (Nat.le_refl _) (by simp) (by simp)
        have oc : ((X.alloc (.cells #[.int .i64 x] 3)).alloc (.cells #[] 3)).ownsRow X.heap.size 3 1 (.slice (some ⟨X.heap.size + 1, 0, none⟩) 0 0) 0 [] := by
          have := World.ownsRow_made (base := X.heap.size) (e := 3) (size := 1) (X.alloc (.cells #[.int .i64 x] 3)) #[] 0 (by simp) (by simp) (by simp)
          rw [World.size_alloc] at this
          exact this
        have BA := Lib.hid ba
        have BB := Lib.hid (ba.alloc ba.size (.cells #[.int .i64 x] 3))
        have BC := Lib.hid (bl.alloc bl.size (.cells #[] 3))
        have OA := Lib.hid oa
        have OB := Lib.hid (oa.alloc (.cells #[.int .i64 x] 3))
        have OC := Lib.hid oc
        have lb : Blk ((X.alloc (.cells #[] 3)).alloc (.cells #[.int .i64 x] 3)) (X.heap.size + 1) 3 #[.int .i64 x] := by
          have := Blk.new (X.alloc (.cells #[] 3)) 3 #[.int .i64 x]
          rw [World.size_alloc] at this
          exact this
        have LB := Lib.hid lb
        have LC := Lib.hid ((Blk.new X 3 #[.int .i64 x]).alloc (.cells #[] 3))
        have hlen' : n' ≤ 1000000 := by omega
        clear ba bl oa oc lb
        have hg6lt := HK6.out.lt
        have X6lt : w.heap.size + 2 < X.heap.size := hg6lt
        have HC1 : Hid (∀ y ∈ l.take k ++ [x], 0 ≤ y ∧ y < N) := by
          intro y hy
          rcases List.mem_append.1 hy with hy | hy
          · exact HC.out y hy
          · rw [List.mem_singleton.1 hy]; exact hin
        have hblt := World.block_lt_of_cell? X _ hc2
        dsimp only at hblt
        have hbne : b < w.heap.size := by
          obtain ⟨ad, e, hb, _⟩ := HL00.out.2 (by omega)
          injection e with e
          rw [← e] at hb
          exact hb
        have hbne2 : b ≠ w.heap.size + 2 := by omega
        go_region_law
          (first
            | (refine step_app1 (w0 := X) (xs := []) (n := 0) (c0 := 0) (A0 := some ⟨X.heap.size, 0, none⟩) (A := A') (m := n') (c := c') _ i64_ty (by rfl) (.tmp 30) (.tmp 32) (by rfl) (by simp [Act.eval]) BA.out.drew OA.out.drew (by simp [Act.eval]) (HX.out.over BA.out.drew) (ints_one _) (by unfold maxLen; omega) (by omega) ?_
               intro A4 c4 w4 b4 own4 hg4 hat4
               skip
               simp only [Nat.zero_add, List.nil_append] at own4 hat4 ⊢
               have B4 := Lib.hid b4
               have O4 := Lib.hid own4
               have k1 := (b4.cell (p := ⟨w.heap.size + 2, 1, none⟩) hg6lt).trans g1
               have k2 := (b4.cell (p := ⟨b, off + k, none⟩) hblt).trans hc2
               clear own4 hg4 hat4 b4)
            | (refine step_app1 (w0 := X) (xs := []) (n := 0) (c0 := 0) (A0 := some ⟨X.heap.size, 0, none⟩) (A := A') (m := n') (c := c') _ i64_ty (by rfl) (.tmp 30) (.tmp 32) (by rfl) (by simp [Act.eval]) BB.out.drew OB.out.drew (by simp [Act.eval]) (HX.out.over BB.out.drew) (ints_one _) (by unfold maxLen; omega) (by omega) ?_
               intro A4 c4 w4 b4 own4 hg4 hat4
               have LL := Lib.hid (LB.out.drew.grown hg4 (by simp [Value.ownBlock]))
               simp only [Nat.zero_add, List.nil_append] at own4 hat4 ⊢
               have B4 := Lib.hid b4
               have O4 := Lib.hid own4
               have k1 := (b4.cell (p := ⟨w.heap.size + 2, 1, none⟩) hg6lt).trans g1
               have k2 := (b4.cell (p := ⟨b, off + k, none⟩) hblt).trans hc2
               clear own4 hg4 hat4 b4)
            | (refine step_app1 (w0 := X) (xs := []) (n := 0) (c0 := 0) (A0 := some ⟨X.heap.size + 1, 0, none⟩) (A := A') (m := n') (c := c') _ i64_ty (by rfl) (.tmp 30) (.tmp 32) (by rfl) (by simp [Act.eval]) BC.out.drew OC.out.drew (by simp [Act.eval]) (HX.out.over BC.out.drew) (ints_one _) (by unfold maxLen; omega) (by omega) ?_
               intro A4 c4 w4 b4 own4 hg4 hat4
               have LL := Lib.hid (LC.out.drew.grown hg4 (by simp [Value.ownBlock]))
               simp only [Nat.zero_add, List.nil_append] at own4 hat4 ⊢
               have B4 := Lib.hid b4
               have O4 := Lib.hid own4
               have k1 := (b4.cell (p := ⟨w.heap.size + 2, 1, none⟩) hg6lt).trans g1
               have k2 := (b4.cell (p := ⟨b, off + k, none⟩) hblt).trans hc2
               clear own4 hg4 hat4 b4)
            | (refine step_app1 (w0 := X) (A0 := A4) (n := n') (c0 := c4) (A := some ⟨w4.heap.size, 0, none⟩) (m := 1) (c := 1) _ i64_ty (by rfl) (.tmp 33) (.tmp 38) (by rfl) (by simp [Act.eval]) (B4.out.alloc B4.out.size _) (O4.out.alloc _) (by simp [Act.eval]) (reads_blk (Blk.new w4 3 #[.int .i64 x])) (ints_one [x]) (by unfold maxLen; omega) (by omega) ?_
               intro A5 c5 w5 b5 own5 hg5 hat5
               have B5 := Lib.hid b5
               have O5 := Lib.hid own5
               have k1 := (b5.cell (p := ⟨w.heap.size + 2, 1, none⟩) hg6lt).trans g1
               have k2 := (b5.cell (p := ⟨b, off + k, none⟩) hblt).trans hc2
               have z1 := (HK6.out.below b5 hg6lt).frozen 1
               clear own5 hg5 hat5 b5)
            | (refine step_app1 (w0 := X) (A0 := A4) (n := n') (c0 := c4) (A := some ⟨X.heap.size + 1, 0, none⟩) (m := 1) (c := 1) _ i64_ty (by rfl) (.tmp 33) (.tmp 38) (by rfl) (by simp [Act.eval]) B4.out O4.out (by simp [Act.eval]) (reads_blk LL.out) (ints_one [x]) (by unfold maxLen; omega) (by omega) ?_
               intro A5 c5 w5 b5 own5 hg5 hat5
               have B5 := Lib.hid b5
               have O5 := Lib.hid own5
               have k1 := (b5.cell (p := ⟨w.heap.size + 2, 1, none⟩) hg6lt).trans g1
               have k2 := (b5.cell (p := ⟨b, off + k, none⟩) hblt).trans hc2
               have z1 := (HK6.out.below b5 hg6lt).frozen 1
               clear own5 hg5 hat5 b5)
            | (refine step_app1 (w0 := X) (A0 := A4) (n := n') (c0 := c4) (A := some ⟨X.heap.size, 0, none⟩) (m := 1) (c := 1) _ i64_ty (by rfl) (.tmp 33) (.tmp 38) (by rfl) (by simp [Act.eval]) B4.out O4.out (by simp [Act.eval]) (reads_blk LL.out) (ints_one [x]) (by unfold maxLen; omega) (by omega) ?_
               intro A5 c5 w5 b5 own5 hg5 hat5
               have B5 := Lib.hid b5
               have O5 := Lib.hid own5
               have k1 := (b5.cell (p := ⟨w.heap.size + 2, 1, none⟩) hg6lt).trans g1
               have k2 := (b5.cell (p := ⟨b, off + k, none⟩) hblt).trans hc2
               have z1 := (HK6.out.below b5 hg6lt).frozen 1
               clear own5 hg5 hat5 b5)
            | fail)
        all_goals (
          have hb6 := Lib.hid (one_set (HK6.out.below B5.out hg6lt) (.slice A5 (n' + 1) c5))
          have ho := ownsRow_setCell_below O5.out (a := ⟨w.heap.size + 2, 1, none⟩) hg6lt (.slice A5 (n' + 1) c5)
          rw [show [Value.int .i64 x] = ints [x] from rfl, ints_append, List.append_assoc, ← HX1.out] at ho
          have HO6 := Lib.hid (Reads.of_own ho)
          have hle := own_le ho
          have hlo := X6lt
          have HF6 : Hid (Far w A n A5 (n' + 1)) := fun _ hk _ => own_away ho (by omega)
          have HA6 := Lib.hid (own_away (k := w.heap.size + 1) ho (by omega))
          have HB6 := Lib.hid ((HB.out.trans (B5.out.mono (by omega))).setCell (p := ⟨w.heap.size + 2, 1, none⟩) (Nat.le_refl _) (.slice A5 (n' + 1) c5))
          clear ho O5 B5
          go_wp2_with fail
          exact ⟨⟨k + 1, by omega, by go_num, by rw [HX1.out]; exact HC1, A5, n' + 1, c5, hle, HF6, HA6, HO6, hb6, HB6⟩, by simp [intOf]; omega⟩)
      · have HT2 : Hid (ok = false ∧ H' = H) := by
          rcases HT.out with ⟨_, h2, _⟩ | ⟨h1, _, h3⟩
          · exact absurd (h2 x HXM.out) hin
          · exact ⟨h1, h3⟩
        obtain ⟨rfl, rfl⟩ := HT2.out
        by_cases hx0 : x < 0
        · have d1 : decide (x < 0) = true := by simpa using hx0
          go_wp2_with fail
          go_quiet (fail)
          have HK := Lib.hid (two_set (hbk2.drewN nq) (.int .i64 N) (.slice A n c))
          have HBX := Lib.hid (below_drewN HBL.out nq)
          clear hbk hbk2
          go_wp2_with fail
          have e0 := blk0 HK.out
          have e1 := blk1 HK.out
          have hb := (HBX.out.setCell (p := ⟨w.heap.size + 1, 0, none⟩) (Nat.le_succ _) (.int .i64 N)).setCell (p := ⟨w.heap.size + 1, 1, none⟩) (Nat.le_succ _) (.slice A n c)
          exact bodyPost_ret (v := .tuple #[.agg #[.int .i64 N, .slice A n c], .bool false]) (by simp [results, Try.results23, go_sem, e0, e1]) rfl ⟨A, n, c, rfl, hnc, fun _ _ h => h, HR0.out.over hb, hb⟩
        · have d1 : decide (x < 0) = false := by simpa using hx0
          have d2 : (N : Int) ≤ x := by omega
          go_wp2_with fail
          go_quiet (fail)
          have HK := Lib.hid (two_set (hbk2.drewN nq) (.int .i64 N) (.slice A n c))
          have HBX := Lib.hid (below_drewN HBL.out nq)
          clear hbk hbk2
          go_wp2_with fail
          have e0 := blk0 HK.out
          have e1 := blk1 HK.out
          have hb := (HBX.out.setCell (p := ⟨w.heap.size + 1, 0, none⟩) (Nat.le_succ _) (.int .i64 N)).setCell (p := ⟨w.heap.size + 1, 1, none⟩) (Nat.le_succ _) (.slice A n c)
          exact bodyPost_ret (v := .tuple #[.agg #[.int .i64 N, .slice A n c], .bool false]) (by simp [results, Try.results23, go_sem, e0, e1]) rfl ⟨A, n, c, rfl, hnc, fun _ _ h => h, HR0.out.over hb, hb⟩
    · have HT2 : Hid (ok = true ∧ H' = H ++ l.take k) := by
        have hlk : l.take k = l := List.take_of_length_le (by rw [HLl.out]; omega)
        have hc := HC.out
        rw [hlk] at hc ⊢
        rcases HT.out with ⟨h1, _, h3⟩ | ⟨_, ⟨x, hx, hx2⟩, _⟩
        · exact ⟨h1, h3⟩
        · exact absurd (hc x hx) hx2
      obtain ⟨rfl, rfl⟩ := HT2.out
      have HK := Lib.hid (two_set hbk2 (.int .i64 N) (.slice A' n' c'))
      clear hbk hbk2 f0 f1
      go_wp2_with fail
      have e0 := blk0 HK.out
      have e1 := blk1 HK.out
      have hb := (HBL.out.setCell (p := ⟨w.heap.size + 1, 0, none⟩) (Nat.le_succ _) (.int .i64 N)).setCell (p := ⟨w.heap.size + 1, 1, none⟩) (Nat.le_succ _) (.slice A' n' c')
      refine bodyPost_ret (v := .tuple #[.agg #[.int .i64 N, .slice A' n' c'], .bool true]) (by simp [results, Try.results23, go_sem, e0, e1]) rfl ⟨A', n', c', rfl, hnc', HFAR.out, (HX.out.away _ _ HAW.out).away _ _ HAW.out, hb⟩
end Go.Proofs.Ytohlcopnifmjoae
