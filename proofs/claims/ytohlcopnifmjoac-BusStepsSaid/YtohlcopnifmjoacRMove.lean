/- bus: the reference's Move. -/
import Derived.Test.YtohlcopnifmjoacOwn
import Derived.RegionTactic
import Derived.ChangeAlike
namespace Go.Proofs.Ytohlcopnifmjoac
open Go.RowKit

/-- an append at a step of a region that draws its order -/
theorem step_app1 {P : Program} (w : World) {ops : Array Oper} {o : Oper} {a : Act} {K : Act → World → Prop} {Q : Exit → Act → World → Prop} {E : Prop} {t e : TypeId} {z : Value} {bytes : Nat} (T : Ty1 P t e z bytes)
    (hgd : o.guard = none) (s x : Operand) (ho : o.op = .call { callee := .builtin .append, args := #[s, x], argTypes := #[t, t] })
    {w0 : World} {A0 : Option Addr} {n c0 : Nat} {xs : List Value} (hs : a.eval s = .slice A0 n c0) (hb : Below w0.heap.size w0 w) (hown : w.ownsRow w0.heap.size e 1 (.slice A0 n c0) n xs)
    {B : Nat} {A : Option Addr} {m c : Nat} {news : List Value} (hx : a.eval x = .slice A m c) (hr : Reads w B 1 A m news) (h1 : ∀ u ∈ news, u.oneCell' = true)
    (h63 : n + m ≤ maxLen) (hbytes : (n + m) * bytes ≤ 140737488355328)
    (h : ∀ A' c' w', Below w0.heap.size w0 w' → w'.ownsRow w0.heap.size e 1 (.slice A' (n + m) c') (n + m) (xs ++ news) → w.grownBy w' (Value.slice A0 n c0).ownBlock →
      ((Value.slice A' (n + m) c').ownBlock = (Value.slice A0 n c0).ownBlock ∨ (Value.slice A' (n + m) c').ownBlock = some w.heap.size) → K (a.put o.dst (.slice A' (n + m) c')) w') :
    if Region.wanted o (yielded ops a.tmps) = true then Oper.wp P o a w K Q else E := by
  obtain ⟨i, hi, hz, hs1, hb1⟩ := T.hi
  refine step_append_any (P := P) w hgd s x t ho w0.heap.size e i z 1 bytes T.ht hi hz hs1 hb1 T.hz (by decide) _ n xs hs hown B A m c news hx hr h1 h63 hbytes hb.size fun v' w' h2 h3 h4 => ?_
  have hex : ∃ A' c', v' = .slice A' (n + m) c' := by
    rcases h2.2 with ⟨rfl, h0⟩ | ⟨g, cap, cur, rfl, _⟩
    · exact ⟨none, 0, by rw [h0]⟩
    · exact ⟨_, cap, rfl⟩
  obtain ⟨A', c', rfl⟩ := hex
  exact h A' c' w' (below_app hb hown h3) h2 h3 h4
theorem reads_blk {w : World} {g : Nat} {t : TypeId} {x : Value} (h : Blk w g t #[x]) : Reads w w.heap.size 1 (some ⟨g, 0, none⟩) 1 [x] := by
  refine ⟨by simp, fun _ => ⟨_, rfl, h.lt, fun j u hu => ?_⟩⟩
  rw [add_flat, h.cell]
  simpa using hu

theorem own4 (w : World) (a b c d a' b' c' d' e' f' g' h' : Value) :
    Own w ((((w.alloc (.cells #[a, b, c] 41)).alloc (.cells #[d, a', b'] 41)).alloc (.cells #[c', d', e'] 41)).alloc (.cells #[f', g', h'] 41))
      [(w.heap.size, 41, #[a, b, c]), (w.heap.size + 1, 41, #[d, a', b']), (w.heap.size + 1 + 1, 41, #[c', d', e']), (w.heap.size + 1 + 1 + 1, 41, #[f', g', h'])] := by
  have := ((((Own.nil w).alloc #[a, b, c] 41).alloc #[d, a', b'] 41).alloc #[c', d', e'] 41).alloc #[f', g', h'] 41
  simpa only [World.size_alloc, List.nil_append, List.cons_append] using this
theorem RRow.ne {w : World} {A : Option Addr} {n c q : Nat} {L : List Int} {t : TypeId} {cs : Array Value} {ad : Addr} (h : RRow w A n c L) (ha : A = some ad) (hq : Blk w q t cs) (ht : t ≠ 3) : ad.block ≠ q := by
  obtain ⟨cs', m, h'⟩ := h.ht ad ha
  intro e
  unfold Blk at hq
  rw [e, hq] at h'
  injection h' with h'
  injection h' with _ h2 _
  exact ht h2
/-- how many are moved -/
def mv (Cb : Bool) (Sb na nb : Nat) : Nat := if Cb then 0 else min na (Sb - nb)

set_option maxRecDepth 100000 in
set_option maxHeartbeats 8000000 in
theorem rmove_any (A1 : Option Addr) (n1 c1 Sa : Nat) (Ca : Bool) (La : List Int) (A2 : Option Addr) (n2 c2 Sb : Nat) (Cb : Bool) (Lb : List Int) (h1 : n1 ≤ 4096) (hS : Sb ≤ 4096) (w : World) (ra : RRow w A1 n1 c1 La) (rb : RRow w A2 n2 c2 Lb) :
    Calls Try.prog 28 #[.agg #[.slice A1 n1 c1, .int .i64 Sa, .bool Ca], .agg #[.slice A2 n2 c2, .int .i64 Sb, .bool Cb]] w fun e w' => ∃ k A1' n1' c1' A2' n2' c2', k = mv Cb Sb n1 n2 ∧ e = .returned (.tuple #[.agg #[.slice A1' n1' c1', .int .i64 Sa, .bool Ca], .agg #[.slice A2' n2' c2', .int .i64 Sb, .bool Cb], .int .i64 (k : Nat)]) ∧ RRow w' A1' n1' c1' (La.drop k) ∧ RRow w' A2' n2' c2' (Lb ++ La.take k) ∧ Below w.heap.size w w' := by
  obtain ⟨m, hm⟩ : ∃ m, m = mv Cb Sb n1 n2 := ⟨_, rfl⟩
  have hLa := ra.len
  have hLb := rb.len
  have hmn : m ≤ n1 := by rw [hm]; unfold mv; split <;> omega
  have HM := Lib.hid hm
  have OW := Lib.hid (own4 w (.slice A1 n1 c1) (.int .i64 Sa) (.bool Ca) (.slice A2 n2 c2) (.int .i64 Sb) (.bool Cb) (.slice none 0 0) (.int .i64 0) (.bool false) (.slice none 0 0) (.int .i64 0) (.bool false))
  have RA := Lib.hid ((((ra.alloc (.cells #[.slice A1 n1 c1, .int .i64 Sa, .bool Ca] 41)).alloc (.cells #[.slice A2 n2 c2, .int .i64 Sb, .bool Cb] 41)).alloc (.cells #[.slice none 0 0, .int .i64 0, .bool false] 41)).alloc (.cells #[.slice none 0 0, .int .i64 0, .bool false] 41))
  have RB := Lib.hid ((((rb.alloc (.cells #[.slice A1 n1 c1, .int .i64 Sa, .bool Ca] 41)).alloc (.cells #[.slice A2 n2 c2, .int .i64 Sb, .bool Cb] 41)).alloc (.cells #[.slice none 0 0, .int .i64 0, .bool false] 41)).alloc (.cells #[.slice none 0 0, .int .i64 0, .bool false] 41))
  have HLa := Lib.hid hLa
  have HLb := Lib.hid hLb
  clear ra rb hm hLa hLb
  go_enter Try.func28, Try.ntmps28
  go_upto_region 1 with (fail)
  generalize (((w.alloc (.cells #[.slice A1 n1 c1, .int .i64 Sa, .bool Ca] 41)).alloc (.cells #[.slice A2 n2 c2, .int .i64 Sb, .bool Cb] 41)).alloc (.cells #[.slice none 0 0, .int .i64 0, .bool false] 41)).alloc (.cells #[.slice none 0 0, .int .i64 0, .bool false] 41) = W at OW RA RB ⊢
  generalize w.heap.size + 1 + 1 + 1 = q at OW ⊢
  generalize w.heap.size + 1 + 1 = p at OW ⊢
  generalize w.heap.size + 1 = y at OW ⊢
  generalize hwx : w.heap.size = x at OW ⊢
  go_wp2_with fail
  go_loopw [7] (fun i wr => ∃ k : Nat, k ≤ m ∧ i = .int .i64 k ∧ ∃ (A1 : Option Addr) (n1 c1 : Nat) (A2 : Option Addr) (n2 c2 : Nat), Hid (Own w wr [(x, 41, #[.slice A1 n1 c1, .int .i64 Sa, .bool Ca]), (y, 41, #[.slice A2 n2 c2, .int .i64 Sb, .bool Cb]), (p, 41, #[.slice none 0 0, .int .i64 0, .bool false]), (q, 41, #[.slice none 0 0, .int .i64 0, .bool false])]) ∧ Hid (RRow wr A1 n1 c1 (La.drop k)) ∧ Hid (RRow wr A2 n2 c2 (Lb ++ La.take k))) (fun i _ => m - (intOf i).toNat)
  case atStart => exact ⟨0, Nat.zero_le _, rfl, A1, n1, c1, A2, n2, c2, OW, RA, by simpa using RB⟩
  case round =>
    clear OW RA RB
    obtain ⟨k, hk, rfl, A3, n3, c3, A4, n4, c4, OW, RA, RB⟩ := hrel
    have e3 := RA.out.len
    have e4 := RB.out.len
    simp at e3 e4
    rw [HLa.out] at e3 e4
    rw [HLb.out] at e4
    rw [Nat.min_eq_left (by omega)] at e4
    have x0 := blk3_0 (OW.out.get 0 rfl)
    have xf0 := OW.out.frozen 0 0 rfl
    have x1 := blk3_1 (OW.out.get 0 rfl)
    have xf1 := OW.out.frozen 0 1 rfl
    have x2 := blk3_2 (OW.out.get 0 rfl)
    have xf2 := OW.out.frozen 0 2 rfl
    have y0 := blk3_0 (OW.out.get 1 rfl)
    have yf0 := OW.out.frozen 1 0 rfl
    have y1 := blk3_1 (OW.out.get 1 rfl)
    have yf1 := OW.out.frozen 1 1 rfl
    have y2 := blk3_2 (OW.out.get 1 rfl)
    have yf2 := OW.out.frozen 1 2 rfl
    have p0 := blk3_0 (OW.out.get 2 rfl)
    have pf0 := OW.out.frozen 2 0 rfl
    have p1 := blk3_1 (OW.out.get 2 rfl)
    have pf1 := OW.out.frozen 2 1 rfl
    have p2 := blk3_2 (OW.out.get 2 rfl)
    have pf2 := OW.out.frozen 2 2 rfl
    have q0 := blk3_0 (OW.out.get 3 rfl)
    have qf0 := OW.out.frozen 3 0 rfl
    have q1 := blk3_1 (OW.out.get 3 rfl)
    have qf1 := OW.out.frozen 3 1 rfl
    have q2 := blk3_2 (OW.out.get 3 rfl)
    have qf2 := OW.out.frozen 3 2 rfl
    have dxy := OW.out.ne 0 1 rfl rfl (by decide)
    have dxp := OW.out.ne 0 2 rfl rfl (by decide)
    have dxq := OW.out.ne 0 3 rfl rfl (by decide)
    have dyp := OW.out.ne 1 2 rfl rfl (by decide)
    have dyq := OW.out.ne 1 3 rfl rfl (by decide)
    have dpq := OW.out.ne 2 3 rfl rfl (by decide)
    by_cases hlt : k < m
    · have hcb : Cb = false ∧ n4 < Sb := by
        have hm := HM.out
        unfold mv at hm
        cases Cb with
        | true => simp at hm; omega
        | false => simp at hm; exact ⟨rfl, by omega⟩
      obtain ⟨rfl, hroom⟩ := hcb
      have hroom' : (n4 : Int) < (Sb : Int) := by omega
      have hn3 : (0 : Int) < (n3 : Int) := by omega
      obtain ⟨v, hv⟩ : ∃ v, La.drop k = v :: La.drop (k + 1) := ⟨_, List.drop_eq_getElem_cons (by rw [HLa.out]; omega)⟩
      have HT : Hid (La.take (k + 1) = La.take k ++ [v]) := by
        have hkl : k < La.length := by rw [HLa.out]; omega
        rw [List.take_succ_eq_append_getElem hkl]
        rw [List.drop_eq_getElem_cons hkl] at hv
        injection hv with hv _
        rw [hv]
        rfl
      have HV := Lib.hid hv
      obtain ⟨b, off, rfl, hbl, hc0⟩ := RA.out.first hv
      have HC0 := Lib.hid hc0
      have hbx := RA.out.ne rfl (OW.out.get 0 rfl) (by decide)
      have hby := RA.out.ne rfl (OW.out.get 1 rfl) (by decide)
      dsimp only at hbx hby
      have hxb : x ≠ b := fun e => hbx e.symm
      have hyb : y ≠ b := fun e => hby e.symm
      have hyx : y ≠ x := fun e => dxy e.symm
      have hlx := OW.out.lt 0 rfl
      have hly := OW.out.lt 1 rfl
      clear hv
      have ba : Below wr.heap.size wr (wr.alloc (.cells #[] 3)) := (Below.refl _ _).alloc (Nat.le_refl _) _
      have bl : Below wr.heap.size wr (wr.alloc (.cells #[.int .i64 v] 3)) := (Below.refl _ _).alloc (Nat.le_refl _) _
      have oa : (wr.alloc (.cells #[] 3)).ownsRow wr.heap.size 3 1 (.slice (some ⟨wr.heap.size, 0, none⟩) 0 0) 0 [] := World.ownsRow_made wr #[] 0 (Nat.le_refl _) (by simp) (by simp)
      have oc : ((wr.alloc (.cells #[.int .i64 v] 3)).alloc (.cells #[] 3)).ownsRow wr.heap.size 3 1 (.slice (some ⟨wr.heap.size + 1, 0, none⟩) 0 0) 0 [] := by
        have := World.ownsRow_made (base := wr.heap.size) (e := 3) (size := 1) (wr.alloc (.cells #[.int .i64 v] 3)) #[] 0 (by simp) (by simp) (by simp)
        rw [World.size_alloc] at this
        exact this
      have BA := Lib.hid ba
      have BB := Lib.hid (ba.alloc ba.size (.cells #[.int .i64 v] 3))
      have BC := Lib.hid (bl.alloc bl.size (.cells #[] 3))
      have OA := Lib.hid oa
      have OB := Lib.hid (oa.alloc (.cells #[.int .i64 v] 3))
      have OC := Lib.hid oc
      have lb : Blk ((wr.alloc (.cells #[] 3)).alloc (.cells #[.int .i64 v] 3)) (wr.heap.size + 1) 3 #[.int .i64 v] := by
        have := Blk.new (wr.alloc (.cells #[] 3)) 3 #[.int .i64 v]
        rw [World.size_alloc] at this
        exact this
      have LB := Lib.hid lb
      have LC := Lib.hid ((Blk.new wr 3 #[.int .i64 v]).alloc (.cells #[] 3))
      clear ba bl oa oc lb
      go_upto_region 3 with (fail)
      go_cut [34] (fun s34 wx => ∃ A5 c5, s34 = .slice A5 (n4 + 1) c5 ∧ Hid (Own w wx [(x, 41, #[.slice (some ⟨b, off, none⟩) n3 c3, .int .i64 Sa, .bool Ca]), (y, 41, #[.slice A5 (n4 + 1) c5, .int .i64 Sb, .bool false]), (p, 41, #[.slice none 0 0, .int .i64 0, .bool false]), (q, 41, #[.slice none 0 0, .int .i64 0, .bool false])]) ∧ Hid (RRow wx (some ⟨b, off, none⟩) n3 c3 (La.drop k)) ∧ Hid (RRow wx A5 (n4 + 1) c5 (Lb ++ La.take (k + 1))))
      case first =>
        go_region_law
          (first
            | (refine step_app1 (w0 := wr) (xs := []) (n := 0) (c0 := 0) (A0 := some ⟨wr.heap.size, 0, none⟩) (A := A4) (m := n4) (c := c4) _ i64_ty (by rfl) (.tmp 25) (.tmp 27) (by rfl) (by simp [Act.eval, Act.put]) BA.out.drew OA.out.drew (by simp [Act.eval, Act.put]) (RB.out.over BA.out.drew).hr (ints_one _) (by unfold maxLen; omega) (by omega) ?_
               intro A6 c6 w6 b6 own6 hg6 hat6
               skip
               simp only [Nat.zero_add, List.nil_append] at own6 hat6 ⊢
               have B6 := Lib.hid b6
               have O6 := Lib.hid own6
               have x0 := blk3_0 ((OW.out.over b6).get 0 rfl)
               have y0 := blk3_0 ((OW.out.over b6).get 1 rfl)
               have hc0 := (b6.cell (p := ⟨b, off, none⟩) hbl).trans HC0.out
               clear own6 hg6 hat6 b6)
            | (refine step_app1 (w0 := wr) (xs := []) (n := 0) (c0 := 0) (A0 := some ⟨wr.heap.size, 0, none⟩) (A := A4) (m := n4) (c := c4) _ i64_ty (by rfl) (.tmp 25) (.tmp 27) (by rfl) (by simp [Act.eval]) BB.out.drew OB.out.drew (by simp [Act.eval]) (RB.out.over BB.out.drew).hr (ints_one _) (by unfold maxLen; omega) (by omega) ?_
               intro A6 c6 w6 b6 own6 hg6 hat6
               have LL := Lib.hid (LB.out.drew.grown hg6 (by simp [Value.ownBlock]))
               simp only [Nat.zero_add, List.nil_append] at own6 hat6 ⊢
               have B6 := Lib.hid b6
               have O6 := Lib.hid own6
               have x0 := blk3_0 ((OW.out.over b6).get 0 rfl)
               have y0 := blk3_0 ((OW.out.over b6).get 1 rfl)
               have hc0 := (b6.cell (p := ⟨b, off, none⟩) hbl).trans HC0.out
               clear own6 hg6 hat6 b6)
            | (refine step_app1 (w0 := wr) (xs := []) (n := 0) (c0 := 0) (A0 := some ⟨wr.heap.size + 1, 0, none⟩) (A := A4) (m := n4) (c := c4) _ i64_ty (by rfl) (.tmp 25) (.tmp 27) (by rfl) (by simp [Act.eval]) BC.out.drew OC.out.drew (by simp [Act.eval]) (RB.out.over BC.out.drew).hr (ints_one _) (by unfold maxLen; omega) (by omega) ?_
               intro A6 c6 w6 b6 own6 hg6 hat6
               have LL := Lib.hid (LC.out.drew.grown hg6 (by simp [Value.ownBlock]))
               simp only [Nat.zero_add, List.nil_append] at own6 hat6 ⊢
               have B6 := Lib.hid b6
               have O6 := Lib.hid own6
               have x0 := blk3_0 ((OW.out.over b6).get 0 rfl)
               have y0 := blk3_0 ((OW.out.over b6).get 1 rfl)
               have hc0 := (b6.cell (p := ⟨b, off, none⟩) hbl).trans HC0.out
               clear own6 hg6 hat6 b6)
            | (refine step_app1 (w0 := wr) (A0 := A6) (n := n4) (c0 := c6) (A := some ⟨w6.heap.size, 0, none⟩) (m := 1) (c := 1) _ i64_ty (by rfl) (.tmp 28) (.tmp 33) (by rfl) (by simp [Act.eval]) (B6.out.alloc B6.out.size _) (O6.out.alloc _) (by simp [Act.eval]) (reads_blk (Blk.new w6 3 #[.int .i64 v])) (ints_one [v]) (by unfold maxLen; omega) (by omega) ?_
               intro A5 c5 w5 b5 own5 hg5 hat5
               have B5 := Lib.hid b5
               have R5 := Lib.hid (RRow.of_own (L := Lb ++ La.take (k + 1)) (by rw [HT.out, ← List.append_assoc, ← ints_append]; exact own5))
               have OW5 := Lib.hid (OW.out.over b5)
               have x0 := blk3_0 (OW5.out.get 0 rfl)
               have x1 := blk3_1 (OW5.out.get 0 rfl)
               have x2 := blk3_2 (OW5.out.get 0 rfl)
               have y0 := blk3_0 (OW5.out.get 1 rfl)
               have xf0 := OW5.out.frozen 0 0 rfl
               have yf0 := OW5.out.frozen 1 0 rfl
               have hc0 := (B5.out.cell (p := ⟨b, off, none⟩) hbl).trans HC0.out
               clear own5 hg5 hat5 b5)
            | (refine step_app1 (w0 := wr) (A0 := A6) (n := n4) (c0 := c6) (A := some ⟨wr.heap.size + 1, 0, none⟩) (m := 1) (c := 1) _ i64_ty (by rfl) (.tmp 28) (.tmp 33) (by rfl) (by simp [Act.eval]) B6.out O6.out (by simp [Act.eval]) (reads_blk LL.out) (ints_one [v]) (by unfold maxLen; omega) (by omega) ?_
               intro A5 c5 w5 b5 own5 hg5 hat5
               have B5 := Lib.hid b5
               have R5 := Lib.hid (RRow.of_own (L := Lb ++ La.take (k + 1)) (by rw [HT.out, ← List.append_assoc, ← ints_append]; exact own5))
               have OW5 := Lib.hid (OW.out.over b5)
               have x0 := blk3_0 (OW5.out.get 0 rfl)
               have x1 := blk3_1 (OW5.out.get 0 rfl)
               have x2 := blk3_2 (OW5.out.get 0 rfl)
               have y0 := blk3_0 (OW5.out.get 1 rfl)
               have xf0 := OW5.out.frozen 0 0 rfl
               have yf0 := OW5.out.frozen 1 0 rfl
               have hc0 := (B5.out.cell (p := ⟨b, off, none⟩) hbl).trans HC0.out
               clear own5 hg5 hat5 b5)
            | (refine step_app1 (w0 := wr) (A0 := A6) (n := n4) (c0 := c6) (A := some ⟨wr.heap.size, 0, none⟩) (m := 1) (c := 1) _ i64_ty (by rfl) (.tmp 28) (.tmp 33) (by rfl) (by simp [Act.eval]) B6.out O6.out (by simp [Act.eval]) (reads_blk LL.out) (ints_one [v]) (by unfold maxLen; omega) (by omega) ?_
               intro A5 c5 w5 b5 own5 hg5 hat5
               have B5 := Lib.hid b5
               have R5 := Lib.hid (RRow.of_own (L := Lb ++ La.take (k + 1)) (by rw [HT.out, ← List.append_assoc, ← ints_append]; exact own5))
               have OW5 := Lib.hid (OW.out.over b5)
               have x0 := blk3_0 (OW5.out.get 0 rfl)
               have x1 := blk3_1 (OW5.out.get 0 rfl)
               have x2 := blk3_2 (OW5.out.get 0 rfl)
               have y0 := blk3_0 (OW5.out.get 1 rfl)
               have xf0 := OW5.out.frozen 0 0 rfl
               have yf0 := OW5.out.frozen 1 0 rfl
               have hc0 := (B5.out.cell (p := ⟨b, off, none⟩) hbl).trans HC0.out
               clear own5 hg5 hat5 b5)
            | fail)
        all_goals (
          have OWX := Lib.hid (OW5.out.set_ 1 rfl 0 (.slice A5 (n4 + 1) c5))
          have RAX := Lib.hid (OW5.out.row_set 1 rfl (by decide) (RA.out.over B5.out) 0 (.slice A5 (n4 + 1) c5))
          have RBX := Lib.hid (OW5.out.row_set 1 rfl (by decide) R5.out 0 (.slice A5 (n4 + 1) c5))
          go_wp2_with fail
          go_meet
          exact ⟨A5, c5, rfl, OWX, RAX, RBX⟩)
      case rest =>
        obtain ⟨A5, c5, rfl, OWX, RAX, RBX⟩ := hcut
        clear x0 x1 x2 y0 y1 y2 p0 p1 p2 q0 q1 q2 xf0 xf1 xf2 yf0 yf1 yf2 hc0 OW RA RB
        have x0 := blk3_0 (OWX.out.get 0 rfl)
        have xf0 := OWX.out.frozen 0 0 rfl
        by_cases h1 : c3 = 1
        · subst h1
          obtain ⟨rfl, hdr, ht⟩ := RAX.out.tail1 HV.out
          rw [← hdr] at ht
          have OWY := Lib.hid (OWX.out.set_ 0 rfl 0 (.slice (some ⟨b, off, none⟩) 0 0))
          have RAY := Lib.hid (OWX.out.row_set 0 rfl (by decide) ht 0 (.slice (some ⟨b, off, none⟩) 0 0))
          have RBY := Lib.hid (OWX.out.row_set 0 rfl (by decide) RBX.out 0 (.slice (some ⟨b, off, none⟩) 0 0))
          clear hdr ht
          go_wp2_with fail
          exact ⟨⟨k + 1, by omega, by go_num, _, _, _, _, _, _, OWY, RAY, RBY⟩, by simp [intOf]; omega⟩
        · have OWY := Lib.hid (OWX.out.set_ 0 rfl 0 (.slice (some ⟨b, off + 1, none⟩) (n3 - 1) (c3 - 1)))
          have RAY := Lib.hid (OWX.out.row_set 0 rfl (by decide) (RAX.out.tail HV.out rfl h1) 0 (.slice (some ⟨b, off + 1, none⟩) (n3 - 1) (c3 - 1)))
          have RBY := Lib.hid (OWX.out.row_set 0 rfl (by decide) RBX.out 0 (.slice (some ⟨b, off + 1, none⟩) (n3 - 1) (c3 - 1)))
          go_wp2_with fail
          exact ⟨⟨k + 1, by omega, by go_num, _, _, _, _, _, _, OWY, RAY, RBY⟩, by simp [intOf]; omega⟩
    · obtain rfl : k = m := by omega
      have go : Cb = true ∨ (Cb = false ∧ Sb ≤ n4) ∨ (Cb = false ∧ n4 < Sb ∧ n3 = 0) := by
        have hm := HM.out
        unfold mv at hm
        cases Cb with
        | true => exact .inl rfl
        | false => right; simp at hm; rcases Nat.lt_or_ge n4 Sb with h | h; right; exact ⟨rfl, h, by omega⟩; left; exact ⟨rfl, h⟩
      have OWF := Lib.hid ((OW.out.set3 2 rfl (.slice A3 n3 c3) (.int .i64 Sa) (.bool Ca)).set3 3 rfl (.slice A4 n4 c4) (.int .i64 Sb) (.bool Cb)).drew
      have RAF := Lib.hid ((OW.out.set3 2 rfl (.slice A3 n3 c3) (.int .i64 Sa) (.bool Ca)).row_set3 3 rfl (by decide) (OW.out.row_set3 2 rfl (by decide) RA.out (.slice A3 n3 c3) (.int .i64 Sa) (.bool Ca)) (.slice A4 n4 c4) (.int .i64 Sb) (.bool Cb)).drew
      have RBF := Lib.hid ((OW.out.set3 2 rfl (.slice A3 n3 c3) (.int .i64 Sa) (.bool Ca)).row_set3 3 rfl (by decide) (OW.out.row_set3 2 rfl (by decide) RB.out (.slice A3 n3 c3) (.int .i64 Sa) (.bool Ca)) (.slice A4 n4 c4) (.int .i64 Sb) (.bool Cb)).drew
      rcases go with rfl | ⟨rfl, hge⟩ | ⟨rfl, hlt2, rfl⟩
      · go_wp2_with fail
        go_region
        go_wp2_with fail
        have p0 := blk3_0 (OWF.out.get 2 rfl)
        have p1 := blk3_1 (OWF.out.get 2 rfl)
        have p2 := blk3_2 (OWF.out.get 2 rfl)
        have q0 := blk3_0 (OWF.out.get 3 rfl)
        have q1 := blk3_1 (OWF.out.get 3 rfl)
        have q2 := blk3_2 (OWF.out.get 3 rfl)
        exact bodyPost_ret (v := .tuple #[.agg #[.slice A3 n3 c3, .int .i64 Sa, .bool Ca], .agg #[.slice A4 n4 c4, .int .i64 Sb, .bool true], .int .i64 (k : Nat)]) (by simp [results, Try.results28, go_sem, p0, p1, p2, q0, q1, q2]) rfl ⟨k, _, _, _, _, _, _, HM.out, rfl, RAF.out, RBF.out, OWF.out.hb⟩
      · have hge' : ¬ (n4 : Int) < (Sb : Int) := by omega
        go_wp2_with fail
        go_region
        go_wp2_with fail
        have p0 := blk3_0 (OWF.out.get 2 rfl)
        have p1 := blk3_1 (OWF.out.get 2 rfl)
        have p2 := blk3_2 (OWF.out.get 2 rfl)
        have q0 := blk3_0 (OWF.out.get 3 rfl)
        have q1 := blk3_1 (OWF.out.get 3 rfl)
        have q2 := blk3_2 (OWF.out.get 3 rfl)
        exact bodyPost_ret (v := .tuple #[.agg #[.slice A3 n3 c3, .int .i64 Sa, .bool Ca], .agg #[.slice A4 n4 c4, .int .i64 Sb, .bool false], .int .i64 (k : Nat)]) (by simp [results, Try.results28, go_sem, p0, p1, p2, q0, q1, q2]) rfl ⟨k, _, _, _, _, _, _, HM.out, rfl, RAF.out, RBF.out, OWF.out.hb⟩
      · have hlt' : (n4 : Int) < (Sb : Int) := by omega
        go_wp2_with fail
        go_region
        go_wp2_with fail
        have p0 := blk3_0 (OWF.out.get 2 rfl)
        have p1 := blk3_1 (OWF.out.get 2 rfl)
        have p2 := blk3_2 (OWF.out.get 2 rfl)
        have q0 := blk3_0 (OWF.out.get 3 rfl)
        have q1 := blk3_1 (OWF.out.get 3 rfl)
        have q2 := blk3_2 (OWF.out.get 3 rfl)
        exact bodyPost_ret (v := .tuple #[.agg #[.slice A3 0 c3, .int .i64 Sa, .bool Ca], .agg #[.slice A4 n4 c4, .int .i64 Sb, .bool false], .int .i64 (k : Nat)]) (by simp [results, Try.results28, go_sem, p0, p1, p2, q0, q1, q2]) rfl ⟨k, _, _, _, _, _, _, HM.out, rfl, RAF.out, RBF.out, OWF.out.hb⟩
end Go.Proofs.Ytohlcopnifmjoac
