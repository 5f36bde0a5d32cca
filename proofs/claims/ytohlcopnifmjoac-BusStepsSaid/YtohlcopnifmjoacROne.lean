/- bus: the reference's step of one row. -/
import Derived.Test.YtohlcopnifmjoacSpec
namespace Go.Proofs.Ytohlcopnifmjoac
open Go.RowKit

theorem own4' (w : World) (t0 t1 t2 t3 : TypeId) (a b c d : Array Value) :
    Own w ((((w.alloc (.cells a t0)).alloc (.cells b t1)).alloc (.cells c t2)).alloc (.cells d t3))
      [(w.heap.size, t0, a), (w.heap.size + 1, t1, b), (w.heap.size + 1 + 1, t2, c), (w.heap.size + 1 + 1 + 1, t3, d)] := by
  have := ((((Own.nil w).alloc a t0).alloc b t1).alloc c t2).alloc d t3
  simpa only [World.size_alloc, List.nil_append, List.cons_append] using this
def OnePost (w : World) (S : Nat) (L' : List Int) (C' : Bool) (V : Int) (OK : Bool) (T : List Int) (e : Ending) (w' : World) : Prop :=
  ∃ A' n' c' At nt ct, e = .returned (.tuple #[.agg #[.slice A' n' c', .int .i64 S, .bool C'], .agg #[.int .i64 V, .bool OK, .slice At nt ct]]) ∧ RRow w' A' n' c' L' ∧ RRow w' At nt ct T ∧ Below w.heap.size w w'

set_option maxRecDepth 100000 in
set_option maxHeartbeats 2000000 in
theorem rone_pop1 (A : Option Addr) (n c S : Nat) (C two : Bool) (v u : Int) (r : List Int) (hn : n ≤ 4096) (w : World) (h : RRow w A n c (u :: r)) :
    Calls Try.prog 29 #[.agg #[.slice A n c, .int .i64 S, .bool C], .agg #[.int .i64 1, .bool two, .int .i64 v]] w (OnePost w S r C u true []) := by
  have OW := Lib.hid (own4' w 41 47 41 44 #[.slice A n c, .int .i64 S, .bool C] #[.int .i64 1, .bool two, .int .i64 v] #[.slice none 0 0, .int .i64 0, .bool false] #[.int .i64 0, .bool false, .slice none 0 0])
  have RA := Lib.hid (((((h.alloc (.cells #[.slice A n c, .int .i64 S, .bool C] 41)).alloc (.cells #[.int .i64 1, .bool two, .int .i64 v] 47)).alloc (.cells #[.slice none 0 0, .int .i64 0, .bool false] 41)).alloc (.cells #[.int .i64 0, .bool false, .slice none 0 0] 44)))
  clear h
  go_enter Try.func29, Try.ntmps29
  go_upto_region 1 with (fail)
  generalize (((w.alloc (.cells #[.slice A n c, .int .i64 S, .bool C] 41)).alloc (.cells #[.int .i64 1, .bool two, .int .i64 v] 47)).alloc (.cells #[.slice none 0 0, .int .i64 0, .bool false] 41)).alloc (.cells #[.int .i64 0, .bool false, .slice none 0 0] 44) = W at OW RA ⊢
  generalize w.heap.size + 1 + 1 + 1 = q at OW ⊢
  generalize w.heap.size + 1 + 1 = p at OW ⊢
  generalize w.heap.size + 1 = y at OW ⊢
  generalize hwx : w.heap.size = x at OW ⊢
  have dxp := OW.out.ne 0 2 rfl rfl (by decide)
  have dxq := OW.out.ne 0 3 rfl rfl (by decide)
  have dpq := OW.out.ne 2 3 rfl rfl (by decide)
  have x0 := blk3_0 (OW.out.get 0 rfl)
  have x1 := blk3_1 (OW.out.get 0 rfl)
  have x2 := blk3_2 (OW.out.get 0 rfl)
  have xf0 := OW.out.frozen 0 0 rfl
  have xf1 := OW.out.frozen 0 1 rfl
  have xf2 := OW.out.frozen 0 2 rfl
  have y0 := blk3_0 (OW.out.get 1 rfl)
  have y1 := blk3_1 (OW.out.get 1 rfl)
  have y2 := blk3_2 (OW.out.get 1 rfl)
  go_wp2_with fail
  refine (rpop_some A n c S C u r hn _ RA.out).mono ?_
  rintro e1 w1 ⟨A', n', c', rfl, hr, hb⟩
  have ba : Below W.heap.size W (w1.alloc (.cells #[.slice A' n' c', .int .i64 S, .bool C] 41)) := hb.alloc hb.size _
  have OW1 := Lib.hid (OW.out.over ba)
  have RA1 := Lib.hid (hr.alloc (.cells #[.slice A' n' c', .int .i64 S, .bool C] 41))
  have KT := Lib.hid (Blk.new w1 41 #[.slice A' n' c', .int .i64 S, .bool C])
  have dtp : w1.heap.size ≠ p := fun e => Nat.lt_irrefl _ (e ▸ Nat.lt_of_lt_of_le (OW.out.lt 2 rfl) hb.size)
  have dtq : w1.heap.size ≠ q := fun e => Nat.lt_irrefl _ (e ▸ Nat.lt_of_lt_of_le (OW.out.lt 3 rfl) hb.size)
  clear hr hb ba x0 x1 x2 y0 y1 y2 xf0 xf1 xf2 OW RA
  go_upto_region 3 with (fail)
  generalize w1.alloc (.cells #[.slice A' n' c', .int .i64 S, .bool C] 41) = W1 at OW1 RA1 KT ⊢
  generalize w1.heap.size = z at KT dtp dtq ⊢
  have t0 := blk3_0 KT.out
  have t1 := blk3_1 KT.out
  have t2 := blk3_2 KT.out
  have p0 := blk3_0 (OW1.out.get 2 rfl)
  have p1 := blk3_1 (OW1.out.get 2 rfl)
  have p2 := blk3_2 (OW1.out.get 2 rfl)
  have pf0 := OW1.out.frozen 2 0 rfl
  have pf1 := OW1.out.frozen 2 1 rfl
  have pf2 := OW1.out.frozen 2 2 rfl
  have q0 := blk3_0 (OW1.out.get 3 rfl)
  have q1 := blk3_1 (OW1.out.get 3 rfl)
  have q2 := blk3_2 (OW1.out.get 3 rfl)
  have qf0 := OW1.out.frozen 3 0 rfl
  have qf1 := OW1.out.frozen 3 1 rfl
  have qf2 := OW1.out.frozen 3 2 rfl
  have OWF := Lib.hid ((OW1.out.set3 2 rfl (.slice A' n' c') (.int .i64 S) (.bool C)).set3 3 rfl (.int .i64 u) (.bool true) (.slice none 0 0))
  have RAF := Lib.hid ((OW1.out.set3 2 rfl (.slice A' n' c') (.int .i64 S) (.bool C)).row_set3 3 rfl (by decide) (OW1.out.row_set3 2 rfl (by decide) RA1.out (.slice A' n' c') (.int .i64 S) (.bool C)) (.int .i64 u) (.bool true) (.slice none 0 0))
  have RTF := Lib.hid ((OW1.out.set3 2 rfl (.slice A' n' c') (.int .i64 S) (.bool C)).row_set3 3 rfl (by decide) (OW1.out.row_set3 2 rfl (by decide) (RRow.nil _) (.slice A' n' c') (.int .i64 S) (.bool C)) (.int .i64 u) (.bool true) (.slice none 0 0))
  go_wp2_with fail
  have e0 := blk3_0 (OWF.out.get 2 rfl)
  have e1 := blk3_1 (OWF.out.get 2 rfl)
  have e2 := blk3_2 (OWF.out.get 2 rfl)
  have g0 := blk3_0 (OWF.out.get 3 rfl)
  have g1 := blk3_1 (OWF.out.get 3 rfl)
  have g2 := blk3_2 (OWF.out.get 3 rfl)
  exact bodyPost_ret (v := .tuple #[.agg #[.slice A' n' c', .int .i64 S, .bool C], .agg #[.int .i64 u, .bool true, .slice none 0 0]]) (by simp [results, Try.results29, go_sem, e0, e1, e2, g0, g1, g2]) rfl ⟨_, _, _, _, _, _, rfl, RAF.out, RTF.out, OWF.out.hb⟩

set_option maxRecDepth 100000 in
set_option maxHeartbeats 2000000 in
theorem rone_pop0 (A : Option Addr) (c S : Nat) (C two : Bool) (v : Int) (w : World) (h : RRow w A 0 c []) :
    Calls Try.prog 29 #[.agg #[.slice A 0 c, .int .i64 S, .bool C], .agg #[.int .i64 1, .bool two, .int .i64 v]] w (OnePost w S [] C 0 false []) := by
  have OW := Lib.hid (own4' w 41 47 41 44 #[.slice A 0 c, .int .i64 S, .bool C] #[.int .i64 1, .bool two, .int .i64 v] #[.slice none 0 0, .int .i64 0, .bool false] #[.int .i64 0, .bool false, .slice none 0 0])
  have RA := Lib.hid (((((h.alloc (.cells #[.slice A 0 c, .int .i64 S, .bool C] 41)).alloc (.cells #[.int .i64 1, .bool two, .int .i64 v] 47)).alloc (.cells #[.slice none 0 0, .int .i64 0, .bool false] 41)).alloc (.cells #[.int .i64 0, .bool false, .slice none 0 0] 44)))
  clear h
  go_enter Try.func29, Try.ntmps29
  go_upto_region 1 with (fail)
  generalize (((w.alloc (.cells #[.slice A 0 c, .int .i64 S, .bool C] 41)).alloc (.cells #[.int .i64 1, .bool two, .int .i64 v] 47)).alloc (.cells #[.slice none 0 0, .int .i64 0, .bool false] 41)).alloc (.cells #[.int .i64 0, .bool false, .slice none 0 0] 44) = W at OW RA ⊢
  generalize w.heap.size + 1 + 1 + 1 = q at OW ⊢
  generalize w.heap.size + 1 + 1 = p at OW ⊢
  generalize w.heap.size + 1 = y at OW ⊢
  generalize hwx : w.heap.size = x at OW ⊢
  have dxp := OW.out.ne 0 2 rfl rfl (by decide)
  have dxq := OW.out.ne 0 3 rfl rfl (by decide)
  have dpq := OW.out.ne 2 3 rfl rfl (by decide)
  have x0 := blk3_0 (OW.out.get 0 rfl)
  have x1 := blk3_1 (OW.out.get 0 rfl)
  have x2 := blk3_2 (OW.out.get 0 rfl)
  have xf0 := OW.out.frozen 0 0 rfl
  have xf1 := OW.out.frozen 0 1 rfl
  have xf2 := OW.out.frozen 0 2 rfl
  have y0 := blk3_0 (OW.out.get 1 rfl)
  have y1 := blk3_1 (OW.out.get 1 rfl)
  have y2 := blk3_2 (OW.out.get 1 rfl)
  go_wp2_with fail
  refine (rpop_none A c S C _ RA.out).mono ?_
  rintro e1 w1 ⟨rfl, hr, hb⟩
  have ba : Below W.heap.size W (w1.alloc (.cells #[.slice A 0 c, .int .i64 S, .bool C] 41)) := hb.alloc hb.size _
  have OW1 := Lib.hid (OW.out.over ba)
  have RA1 := Lib.hid (hr.alloc (.cells #[.slice A 0 c, .int .i64 S, .bool C] 41))
  have KT := Lib.hid (Blk.new w1 41 #[.slice A 0 c, .int .i64 S, .bool C])
  have dtp : w1.heap.size ≠ p := fun e => Nat.lt_irrefl _ (e ▸ Nat.lt_of_lt_of_le (OW.out.lt 2 rfl) hb.size)
  have dtq : w1.heap.size ≠ q := fun e => Nat.lt_irrefl _ (e ▸ Nat.lt_of_lt_of_le (OW.out.lt 3 rfl) hb.size)
  clear hr hb ba x0 x1 x2 y0 y1 y2 xf0 xf1 xf2 OW RA
  go_upto_region 3 with (fail)
  generalize w1.alloc (.cells #[.slice A 0 c, .int .i64 S, .bool C] 41) = W1 at OW1 RA1 KT ⊢
  generalize w1.heap.size = z at KT dtp dtq ⊢
  have t0 := blk3_0 KT.out
  have t1 := blk3_1 KT.out
  have t2 := blk3_2 KT.out
  have p0 := blk3_0 (OW1.out.get 2 rfl)
  have p1 := blk3_1 (OW1.out.get 2 rfl)
  have p2 := blk3_2 (OW1.out.get 2 rfl)
  have pf0 := OW1.out.frozen 2 0 rfl
  have pf1 := OW1.out.frozen 2 1 rfl
  have pf2 := OW1.out.frozen 2 2 rfl
  have q0 := blk3_0 (OW1.out.get 3 rfl)
  have q1 := blk3_1 (OW1.out.get 3 rfl)
  have q2 := blk3_2 (OW1.out.get 3 rfl)
  have qf0 := OW1.out.frozen 3 0 rfl
  have qf1 := OW1.out.frozen 3 1 rfl
  have qf2 := OW1.out.frozen 3 2 rfl
  have OWF := Lib.hid ((OW1.out.set3 2 rfl (.slice A 0 c) (.int .i64 S) (.bool C)).set3 3 rfl (.int .i64 0) (.bool false) (.slice none 0 0))
  have RAF := Lib.hid ((OW1.out.set3 2 rfl (.slice A 0 c) (.int .i64 S) (.bool C)).row_set3 3 rfl (by decide) (OW1.out.row_set3 2 rfl (by decide) RA1.out (.slice A 0 c) (.int .i64 S) (.bool C)) (.int .i64 0) (.bool false) (.slice none 0 0))
  have RTF := Lib.hid ((OW1.out.set3 2 rfl (.slice A 0 c) (.int .i64 S) (.bool C)).row_set3 3 rfl (by decide) (OW1.out.row_set3 2 rfl (by decide) (RRow.nil _) (.slice A 0 c) (.int .i64 S) (.bool C)) (.int .i64 0) (.bool false) (.slice none 0 0))
  go_wp2_with fail
  have e0 := blk3_0 (OWF.out.get 2 rfl)
  have e1 := blk3_1 (OWF.out.get 2 rfl)
  have e2 := blk3_2 (OWF.out.get 2 rfl)
  have g0 := blk3_0 (OWF.out.get 3 rfl)
  have g1 := blk3_1 (OWF.out.get 3 rfl)
  have g2 := blk3_2 (OWF.out.get 3 rfl)
  exact bodyPost_ret (v := .tuple #[.agg #[.slice A 0 c, .int .i64 S, .bool C], .agg #[.int .i64 0, .bool false, .slice none 0 0]]) (by simp [results, Try.results29, go_sem, e0, e1, e2, g0, g1, g2]) rfl ⟨_, _, _, _, _, _, rfl, RAF.out, RTF.out, OWF.out.hb⟩

set_option maxRecDepth 100000 in
set_option maxHeartbeats 2000000 in
theorem rone_shut (A : Option Addr) (n c S : Nat) (C two : Bool) (v : Int) (L : List Int) (w : World) (h : RRow w A n c L) :
    Calls Try.prog 29 #[.agg #[.slice A n c, .int .i64 S, .bool C], .agg #[.int .i64 2, .bool two, .int .i64 v]] w (OnePost w S L true 0 (!C) []) := by
  have OW := Lib.hid (own4' w 41 47 41 44 #[.slice A n c, .int .i64 S, .bool C] #[.int .i64 2, .bool two, .int .i64 v] #[.slice none 0 0, .int .i64 0, .bool false] #[.int .i64 0, .bool false, .slice none 0 0])
  have RA := Lib.hid (((((h.alloc (.cells #[.slice A n c, .int .i64 S, .bool C] 41)).alloc (.cells #[.int .i64 2, .bool two, .int .i64 v] 47)).alloc (.cells #[.slice none 0 0, .int .i64 0, .bool false] 41)).alloc (.cells #[.int .i64 0, .bool false, .slice none 0 0] 44)))
  clear h
  go_enter Try.func29, Try.ntmps29
  go_upto_region 1 with (fail)
  generalize (((w.alloc (.cells #[.slice A n c, .int .i64 S, .bool C] 41)).alloc (.cells #[.int .i64 2, .bool two, .int .i64 v] 47)).alloc (.cells #[.slice none 0 0, .int .i64 0, .bool false] 41)).alloc (.cells #[.int .i64 0, .bool false, .slice none 0 0] 44) = W at OW RA ⊢
  generalize w.heap.size + 1 + 1 + 1 = q at OW ⊢
  generalize w.heap.size + 1 + 1 = p at OW ⊢
  generalize w.heap.size + 1 = y at OW ⊢
  generalize hwx : w.heap.size = x at OW ⊢
  have dxp := OW.out.ne 0 2 rfl rfl (by decide)
  have dxq := OW.out.ne 0 3 rfl rfl (by decide)
  have dpq := OW.out.ne 2 3 rfl rfl (by decide)
  have x0 := blk3_0 (OW.out.get 0 rfl)
  have x1 := blk3_1 (OW.out.get 0 rfl)
  have x2 := blk3_2 (OW.out.get 0 rfl)
  have xf0 := OW.out.frozen 0 0 rfl
  have xf1 := OW.out.frozen 0 1 rfl
  have xf2 := OW.out.frozen 0 2 rfl
  have y0 := blk3_0 (OW.out.get 1 rfl)
  have y1 := blk3_1 (OW.out.get 1 rfl)
  have y2 := blk3_2 (OW.out.get 1 rfl)
  have p0 := blk3_0 (OW.out.get 2 rfl)
  have p1 := blk3_1 (OW.out.get 2 rfl)
  have p2 := blk3_2 (OW.out.get 2 rfl)
  have pf0 := OW.out.frozen 2 0 rfl
  have pf1 := OW.out.frozen 2 1 rfl
  have pf2 := OW.out.frozen 2 2 rfl
  have q0 := blk3_0 (OW.out.get 3 rfl)
  have q1 := blk3_1 (OW.out.get 3 rfl)
  have q2 := blk3_2 (OW.out.get 3 rfl)
  have qf0 := OW.out.frozen 3 0 rfl
  have qf1 := OW.out.frozen 3 1 rfl
  have qf2 := OW.out.frozen 3 2 rfl
  have OWS := Lib.hid (OW.out.set_ 0 rfl 2 (.bool true))
  have RAS := Lib.hid (OW.out.row_set 0 rfl (by decide) RA.out 2 (.bool true))
  have OWF := Lib.hid ((OWS.out.set3 2 rfl (.slice A n c) (.int .i64 S) (.bool true)).set3 3 rfl (.int .i64 0) (.bool (!C)) (.slice none 0 0))
  have RAF := Lib.hid ((OWS.out.set3 2 rfl (.slice A n c) (.int .i64 S) (.bool true)).row_set3 3 rfl (by decide) (OWS.out.row_set3 2 rfl (by decide) RAS.out (.slice A n c) (.int .i64 S) (.bool true)) (.int .i64 0) (.bool (!C)) (.slice none 0 0))
  have RTF := Lib.hid ((OWS.out.set3 2 rfl (.slice A n c) (.int .i64 S) (.bool true)).row_set3 3 rfl (by decide) (OWS.out.row_set3 2 rfl (by decide) (RRow.nil _) (.slice A n c) (.int .i64 S) (.bool true)) (.int .i64 0) (.bool (!C)) (.slice none 0 0))
  go_wp2_with fail
  have e0 := blk3_0 (OWF.out.get 2 rfl)
  have e1 := blk3_1 (OWF.out.get 2 rfl)
  have e2 := blk3_2 (OWF.out.get 2 rfl)
  have g0 := blk3_0 (OWF.out.get 3 rfl)
  have g1 := blk3_1 (OWF.out.get 3 rfl)
  have g2 := blk3_2 (OWF.out.get 3 rfl)
  exact bodyPost_ret (v := .tuple #[.agg #[.slice A n c, .int .i64 S, .bool true], .agg #[.int .i64 0, .bool (!C), .slice none 0 0]]) (by simp [results, Try.results29, go_sem, e0, e1, e2, g0, g1, g2]) rfl ⟨_, _, _, _, _, _, rfl, RAF.out, RTF.out, OWF.out.hb⟩

set_option maxRecDepth 100000 in
set_option maxHeartbeats 2000000 in
theorem rone_drain (A : Option Addr) (n c S : Nat) (C two : Bool) (v : Int) (L : List Int) (w : World) (h : RRow w A n c L) :
    Calls Try.prog 29 #[.agg #[.slice A n c, .int .i64 S, .bool C], .agg #[.int .i64 3, .bool two, .int .i64 v]] w (OnePost w S [] C 0 false L) := by
  have OW := Lib.hid (own4' w 41 47 41 44 #[.slice A n c, .int .i64 S, .bool C] #[.int .i64 3, .bool two, .int .i64 v] #[.slice none 0 0, .int .i64 0, .bool false] #[.int .i64 0, .bool false, .slice none 0 0])
  have RA := Lib.hid (((((h.alloc (.cells #[.slice A n c, .int .i64 S, .bool C] 41)).alloc (.cells #[.int .i64 3, .bool two, .int .i64 v] 47)).alloc (.cells #[.slice none 0 0, .int .i64 0, .bool false] 41)).alloc (.cells #[.int .i64 0, .bool false, .slice none 0 0] 44)))
  clear h
  go_enter Try.func29, Try.ntmps29
  go_upto_region 1 with (fail)
  generalize (((w.alloc (.cells #[.slice A n c, .int .i64 S, .bool C] 41)).alloc (.cells #[.int .i64 3, .bool two, .int .i64 v] 47)).alloc (.cells #[.slice none 0 0, .int .i64 0, .bool false] 41)).alloc (.cells #[.int .i64 0, .bool false, .slice none 0 0] 44) = W at OW RA ⊢
  generalize w.heap.size + 1 + 1 + 1 = q at OW ⊢
  generalize w.heap.size + 1 + 1 = p at OW ⊢
  generalize w.heap.size + 1 = y at OW ⊢
  generalize hwx : w.heap.size = x at OW ⊢
  have dxp := OW.out.ne 0 2 rfl rfl (by decide)
  have dxq := OW.out.ne 0 3 rfl rfl (by decide)
  have dpq := OW.out.ne 2 3 rfl rfl (by decide)
  have x0 := blk3_0 (OW.out.get 0 rfl)
  have x1 := blk3_1 (OW.out.get 0 rfl)
  have x2 := blk3_2 (OW.out.get 0 rfl)
  have xf0 := OW.out.frozen 0 0 rfl
  have xf1 := OW.out.frozen 0 1 rfl
  have xf2 := OW.out.frozen 0 2 rfl
  have y0 := blk3_0 (OW.out.get 1 rfl)
  have y1 := blk3_1 (OW.out.get 1 rfl)
  have y2 := blk3_2 (OW.out.get 1 rfl)
  have p0 := blk3_0 (OW.out.get 2 rfl)
  have p1 := blk3_1 (OW.out.get 2 rfl)
  have p2 := blk3_2 (OW.out.get 2 rfl)
  have pf0 := OW.out.frozen 2 0 rfl
  have pf1 := OW.out.frozen 2 1 rfl
  have pf2 := OW.out.frozen 2 2 rfl
  have q0 := blk3_0 (OW.out.get 3 rfl)
  have q1 := blk3_1 (OW.out.get 3 rfl)
  have q2 := blk3_2 (OW.out.get 3 rfl)
  have qf0 := OW.out.frozen 3 0 rfl
  have qf1 := OW.out.frozen 3 1 rfl
  have qf2 := OW.out.frozen 3 2 rfl
  have OWS := Lib.hid (OW.out.set_ 0 rfl 0 (.slice none 0 0))
  have RAS := Lib.hid (OW.out.row_set 0 rfl (by decide) RA.out 0 (.slice none 0 0))
  have OWF := Lib.hid ((OWS.out.set3 2 rfl (.slice none 0 0) (.int .i64 S) (.bool C)).set3 3 rfl (.int .i64 0) (.bool false) (.slice A n c))
  have RAF := Lib.hid ((OWS.out.set3 2 rfl (.slice none 0 0) (.int .i64 S) (.bool C)).row_set3 3 rfl (by decide) (OWS.out.row_set3 2 rfl (by decide) (RRow.nil _) (.slice none 0 0) (.int .i64 S) (.bool C)) (.int .i64 0) (.bool false) (.slice A n c))
  have RTF := Lib.hid ((OWS.out.set3 2 rfl (.slice none 0 0) (.int .i64 S) (.bool C)).row_set3 3 rfl (by decide) (OWS.out.row_set3 2 rfl (by decide) RAS.out (.slice none 0 0) (.int .i64 S) (.bool C)) (.int .i64 0) (.bool false) (.slice A n c))
  go_wp2_with fail
  have e0 := blk3_0 (OWF.out.get 2 rfl)
  have e1 := blk3_1 (OWF.out.get 2 rfl)
  have e2 := blk3_2 (OWF.out.get 2 rfl)
  have g0 := blk3_0 (OWF.out.get 3 rfl)
  have g1 := blk3_1 (OWF.out.get 3 rfl)
  have g2 := blk3_2 (OWF.out.get 3 rfl)
  exact bodyPost_ret (v := .tuple #[.agg #[.slice none 0 0, .int .i64 S, .bool C], .agg #[.int .i64 0, .bool false, .slice A n c]]) (by simp [results, Try.results29, go_sem, e0, e1, e2, g0, g1, g2]) rfl ⟨_, _, _, _, _, _, rfl, RAF.out, RTF.out, OWF.out.hb⟩

set_option maxRecDepth 100000 in
set_option maxHeartbeats 2000000 in
theorem rone_push1 (d : Int) (h1 : d ≠ 1) (h2 : d ≠ 2) (h3 : d ≠ 3) (A : Option Addr) (n c S : Nat) (two : Bool) (v : Int) (L : List Int) (hn : n ≤ 4096) (hl : n < S) (w : World) (h : RRow w A n c L) :
    Calls Try.prog 29 #[.agg #[.slice A n c, .int .i64 S, .bool false], .agg #[.int .i64 d, .bool two, .int .i64 v]] w (OnePost w S (L ++ [v]) false 0 true []) := by
  have OW := Lib.hid (own4' w 41 47 41 44 #[.slice A n c, .int .i64 S, .bool false] #[.int .i64 d, .bool two, .int .i64 v] #[.slice none 0 0, .int .i64 0, .bool false] #[.int .i64 0, .bool false, .slice none 0 0])
  have RA := Lib.hid (((((h.alloc (.cells #[.slice A n c, .int .i64 S, .bool false] 41)).alloc (.cells #[.int .i64 d, .bool two, .int .i64 v] 47)).alloc (.cells #[.slice none 0 0, .int .i64 0, .bool false] 41)).alloc (.cells #[.int .i64 0, .bool false, .slice none 0 0] 44)))
  clear h
  go_enter Try.func29, Try.ntmps29
  go_upto_region 1 with (fail)
  generalize (((w.alloc (.cells #[.slice A n c, .int .i64 S, .bool false] 41)).alloc (.cells #[.int .i64 d, .bool two, .int .i64 v] 47)).alloc (.cells #[.slice none 0 0, .int .i64 0, .bool false] 41)).alloc (.cells #[.int .i64 0, .bool false, .slice none 0 0] 44) = W at OW RA ⊢
  generalize w.heap.size + 1 + 1 + 1 = q at OW ⊢
  generalize w.heap.size + 1 + 1 = p at OW ⊢
  generalize w.heap.size + 1 = y at OW ⊢
  generalize hwx : w.heap.size = x at OW ⊢
  have dxp := OW.out.ne 0 2 rfl rfl (by decide)
  have dxq := OW.out.ne 0 3 rfl rfl (by decide)
  have dpq := OW.out.ne 2 3 rfl rfl (by decide)
  have d1 : (d == 1) = false := by rw [beq_eq_false_iff_ne]; exact h1
  have d2 : (d == 2) = false := by rw [beq_eq_false_iff_ne]; exact h2
  have d3 : (d == 3) = false := by rw [beq_eq_false_iff_ne]; exact h3
  clear h1 h2 h3
  have x0 := blk3_0 (OW.out.get 0 rfl)
  have x1 := blk3_1 (OW.out.get 0 rfl)
  have x2 := blk3_2 (OW.out.get 0 rfl)
  have xf0 := OW.out.frozen 0 0 rfl
  have xf1 := OW.out.frozen 0 1 rfl
  have xf2 := OW.out.frozen 0 2 rfl
  have y0 := blk3_0 (OW.out.get 1 rfl)
  have y1 := blk3_1 (OW.out.get 1 rfl)
  have y2 := blk3_2 (OW.out.get 1 rfl)
  go_wp2_with fail
  refine (rpush_room A n c S L v hl (by omega) _ RA.out).mono ?_
  rintro e1 w1 ⟨A', c', rfl, hr, hb⟩
  have OW1 := Lib.hid ((OW.out.over hb).set3 0 rfl (.slice A' (n + 1) c') (.int .i64 S) (.bool false))
  have RA1 := Lib.hid ((OW.out.over hb).row_set3 0 rfl (by decide) hr (.slice A' (n + 1) c') (.int .i64 S) (.bool false))
  have OW0 := Lib.hid (OW.out.over hb)
  clear hr hb x0 x1 x2 y0 y1 y2 xf0 xf1 xf2 OW RA
  have x0 := blk3_0 (OW0.out.get 0 rfl)
  have x1 := blk3_1 (OW0.out.get 0 rfl)
  have x2 := blk3_2 (OW0.out.get 0 rfl)
  have xf0 := OW0.out.frozen 0 0 rfl
  have xf1 := OW0.out.frozen 0 1 rfl
  have xf2 := OW0.out.frozen 0 2 rfl
  have p0 := blk3_0 (OW0.out.get 2 rfl)
  have p1 := blk3_1 (OW0.out.get 2 rfl)
  have p2 := blk3_2 (OW0.out.get 2 rfl)
  have pf0 := OW0.out.frozen 2 0 rfl
  have pf1 := OW0.out.frozen 2 1 rfl
  have pf2 := OW0.out.frozen 2 2 rfl
  have q0 := blk3_0 (OW0.out.get 3 rfl)
  have q1 := blk3_1 (OW0.out.get 3 rfl)
  have q2 := blk3_2 (OW0.out.get 3 rfl)
  have qf0 := OW0.out.frozen 3 0 rfl
  have qf1 := OW0.out.frozen 3 1 rfl
  have qf2 := OW0.out.frozen 3 2 rfl
  have OWF := Lib.hid ((OW1.out.set3 2 rfl (.slice A' (n + 1) c') (.int .i64 S) (.bool false)).set3 3 rfl (.int .i64 0) (.bool true) (.slice none 0 0))
  have RAF := Lib.hid ((OW1.out.set3 2 rfl (.slice A' (n + 1) c') (.int .i64 S) (.bool false)).row_set3 3 rfl (by decide) (OW1.out.row_set3 2 rfl (by decide) RA1.out (.slice A' (n + 1) c') (.int .i64 S) (.bool false)) (.int .i64 0) (.bool true) (.slice none 0 0))
  have RTF := Lib.hid ((OW1.out.set3 2 rfl (.slice A' (n + 1) c') (.int .i64 S) (.bool false)).row_set3 3 rfl (by decide) (OW1.out.row_set3 2 rfl (by decide) (RRow.nil _) (.slice A' (n + 1) c') (.int .i64 S) (.bool false)) (.int .i64 0) (.bool true) (.slice none 0 0))
  go_wp2_with fail
  have e0 := blk3_0 (OWF.out.get 2 rfl)
  have e1 := blk3_1 (OWF.out.get 2 rfl)
  have e2 := blk3_2 (OWF.out.get 2 rfl)
  have g0 := blk3_0 (OWF.out.get 3 rfl)
  have g1 := blk3_1 (OWF.out.get 3 rfl)
  have g2 := blk3_2 (OWF.out.get 3 rfl)
  exact bodyPost_ret (v := .tuple #[.agg #[.slice A' (n + 1) c', .int .i64 S, .bool false], .agg #[.int .i64 0, .bool true, .slice none 0 0]]) (by simp [results, Try.results29, go_sem, e0, e1, e2, g0, g1, g2]) rfl ⟨_, _, _, _, _, _, rfl, RAF.out, RTF.out, OWF.out.hb⟩

set_option maxRecDepth 100000 in
set_option maxHeartbeats 2000000 in
theorem rone_push0 (d : Int) (h1 : d ≠ 1) (h2 : d ≠ 2) (h3 : d ≠ 3) (A : Option Addr) (n c S : Nat) (C two : Bool) (v : Int) (L : List Int) (hl : C = true ∨ S ≤ n) (w : World) (h : RRow w A n c L) :
    Calls Try.prog 29 #[.agg #[.slice A n c, .int .i64 S, .bool C], .agg #[.int .i64 d, .bool two, .int .i64 v]] w (OnePost w S L C 0 false []) := by
  have OW := Lib.hid (own4' w 41 47 41 44 #[.slice A n c, .int .i64 S, .bool C] #[.int .i64 d, .bool two, .int .i64 v] #[.slice none 0 0, .int .i64 0, .bool false] #[.int .i64 0, .bool false, .slice none 0 0])
  have RA := Lib.hid (((((h.alloc (.cells #[.slice A n c, .int .i64 S, .bool C] 41)).alloc (.cells #[.int .i64 d, .bool two, .int .i64 v] 47)).alloc (.cells #[.slice none 0 0, .int .i64 0, .bool false] 41)).alloc (.cells #[.int .i64 0, .bool false, .slice none 0 0] 44)))
  clear h
  go_enter Try.func29, Try.ntmps29
  go_upto_region 1 with (fail)
  generalize (((w.alloc (.cells #[.slice A n c, .int .i64 S, .bool C] 41)).alloc (.cells #[.int .i64 d, .bool two, .int .i64 v] 47)).alloc (.cells #[.slice none 0 0, .int .i64 0, .bool false] 41)).alloc (.cells #[.int .i64 0, .bool false, .slice none 0 0] 44) = W at OW RA ⊢
  generalize w.heap.size + 1 + 1 + 1 = q at OW ⊢
  generalize w.heap.size + 1 + 1 = p at OW ⊢
  generalize w.heap.size + 1 = y at OW ⊢
  generalize hwx : w.heap.size = x at OW ⊢
  have dxp := OW.out.ne 0 2 rfl rfl (by decide)
  have dxq := OW.out.ne 0 3 rfl rfl (by decide)
  have dpq := OW.out.ne 2 3 rfl rfl (by decide)
  have d1 : (d == 1) = false := by rw [beq_eq_false_iff_ne]; exact h1
  have d2 : (d == 2) = false := by rw [beq_eq_false_iff_ne]; exact h2
  have d3 : (d == 3) = false := by rw [beq_eq_false_iff_ne]; exact h3
  clear h1 h2 h3
  have x0 := blk3_0 (OW.out.get 0 rfl)
  have x1 := blk3_1 (OW.out.get 0 rfl)
  have x2 := blk3_2 (OW.out.get 0 rfl)
  have xf0 := OW.out.frozen 0 0 rfl
  have xf1 := OW.out.frozen 0 1 rfl
  have xf2 := OW.out.frozen 0 2 rfl
  have y0 := blk3_0 (OW.out.get 1 rfl)
  have y1 := blk3_1 (OW.out.get 1 rfl)
  have y2 := blk3_2 (OW.out.get 1 rfl)
  go_wp2_with fail
  refine (rpush_not A n c S C L v hl _ RA.out).mono ?_
  rintro e1 w1 ⟨rfl, hr, hb⟩
  have OW1 := Lib.hid ((OW.out.over hb).set3 0 rfl (.slice A n c) (.int .i64 S) (.bool C))
  have RA1 := Lib.hid ((OW.out.over hb).row_set3 0 rfl (by decide) hr (.slice A n c) (.int .i64 S) (.bool C))
  have OW0 := Lib.hid (OW.out.over hb)
  clear hr hb x0 x1 x2 y0 y1 y2 xf0 xf1 xf2 OW RA
  have x0 := blk3_0 (OW0.out.get 0 rfl)
  have x1 := blk3_1 (OW0.out.get 0 rfl)
  have x2 := blk3_2 (OW0.out.get 0 rfl)
  have xf0 := OW0.out.frozen 0 0 rfl
  have xf1 := OW0.out.frozen 0 1 rfl
  have xf2 := OW0.out.frozen 0 2 rfl
  have p0 := blk3_0 (OW0.out.get 2 rfl)
  have p1 := blk3_1 (OW0.out.get 2 rfl)
  have p2 := blk3_2 (OW0.out.get 2 rfl)
  have pf0 := OW0.out.frozen 2 0 rfl
  have pf1 := OW0.out.frozen 2 1 rfl
  have pf2 := OW0.out.frozen 2 2 rfl
  have q0 := blk3_0 (OW0.out.get 3 rfl)
  have q1 := blk3_1 (OW0.out.get 3 rfl)
  have q2 := blk3_2 (OW0.out.get 3 rfl)
  have qf0 := OW0.out.frozen 3 0 rfl
  have qf1 := OW0.out.frozen 3 1 rfl
  have qf2 := OW0.out.frozen 3 2 rfl
  have OWF := Lib.hid ((OW1.out.set3 2 rfl (.slice A n c) (.int .i64 S) (.bool C)).set3 3 rfl (.int .i64 0) (.bool false) (.slice none 0 0))
  have RAF := Lib.hid ((OW1.out.set3 2 rfl (.slice A n c) (.int .i64 S) (.bool C)).row_set3 3 rfl (by decide) (OW1.out.row_set3 2 rfl (by decide) RA1.out (.slice A n c) (.int .i64 S) (.bool C)) (.int .i64 0) (.bool false) (.slice none 0 0))
  have RTF := Lib.hid ((OW1.out.set3 2 rfl (.slice A n c) (.int .i64 S) (.bool C)).row_set3 3 rfl (by decide) (OW1.out.row_set3 2 rfl (by decide) (RRow.nil _) (.slice A n c) (.int .i64 S) (.bool C)) (.int .i64 0) (.bool false) (.slice none 0 0))
  go_wp2_with fail
  have e0 := blk3_0 (OWF.out.get 2 rfl)
  have e1 := blk3_1 (OWF.out.get 2 rfl)
  have e2 := blk3_2 (OWF.out.get 2 rfl)
  have g0 := blk3_0 (OWF.out.get 3 rfl)
  have g1 := blk3_1 (OWF.out.get 3 rfl)
  have g2 := blk3_2 (OWF.out.get 3 rfl)
  exact bodyPost_ret (v := .tuple #[.agg #[.slice A n c, .int .i64 S, .bool C], .agg #[.int .i64 0, .bool false, .slice none 0 0]]) (by simp [results, Try.results29, go_sem, e0, e1, e2, g0, g1, g2]) rfl ⟨_, _, _, _, _, _, rfl, RAF.out, RTF.out, OWF.out.hb⟩

theorem rone_any {S : Nat} {d v : Int} {L : List Int} {C : Bool} {L' : List Int} {C' : Bool} {V : Int} {OK : Bool} {T : List Int} (hs : OneR S d v L C L' C' V OK T) (hS : S ≤ 4096) (hL : L.length ≤ S) (A : Option Addr) (n c : Nat) (two : Bool) (w : World) (h : RRow w A n c L) :
    Calls Try.prog 29 #[.agg #[.slice A n c, .int .i64 S, .bool C], .agg #[.int .i64 d, .bool two, .int .i64 v]] w (OnePost w S L' C' V OK T) := by
  have hn := h.len
  cases hs with
  | pop0 => simp at hn; subst hn; exact rone_pop0 A c S C two v w h
  | pop1 => exact rone_pop1 A n c S C two v _ _ (by omega) w h
  | shut => exact rone_shut A n c S C two v L w h
  | drain => exact rone_drain A n c S C two v L w h
  | push1 _ _ _ h1 h2 h3 _ _ hl => exact rone_push1 d h1 h2 h3 A n c S two v L (by omega) (by omega) w h
  | push0 _ _ _ _ h1 h2 h3 _ _ hl => exact rone_push0 d h1 h2 h3 A n c S C two v L (by rw [← hn]; exact hl) w h
end Go.Proofs.Ytohlcopnifmjoac
