/- bus: the reference's step of two rows. -/
import Derived.Test.YtohlcopnifmjoacROne
namespace Go.Proofs.Ytohlcopnifmjoac
open Go.RowKit

theorem own6 (w : World) (t0 t1 t2 t3 t4 t5 : TypeId) (a b c d e f : Array Value) :
    Own w ((((((w.alloc (.cells a t0)).alloc (.cells b t1)).alloc (.cells c t2)).alloc (.cells d t3)).alloc (.cells e t4)).alloc (.cells f t5))
      [(w.heap.size, t0, a), (w.heap.size + 1, t1, b), (w.heap.size + 1 + 1, t2, c), (w.heap.size + 1 + 1 + 1, t3, d), (w.heap.size + 1 + 1 + 1 + 1, t4, e), (w.heap.size + 1 + 1 + 1 + 1 + 1, t5, f)] := by
  have := ((((((Own.nil w).alloc a t0).alloc b t1).alloc c t2).alloc d t3).alloc e t4).alloc f t5
  simpa only [World.size_alloc, List.nil_append, List.cons_append] using this
theorem RRow.six {w : World} {A : Option Addr} {n c : Nat} {L : List Int} (h : RRow w A n c L) (o0 o1 o2 o3 o4 o5 : Obj) : RRow ((((((w.alloc o0).alloc o1).alloc o2).alloc o3).alloc o4).alloc o5) A n c L := (((((h.alloc _).alloc _).alloc _).alloc _).alloc _).alloc _
def GoPost (w : World) (Sa Sb : Nat) (La' : List Int) (Ca' : Bool) (Lb' : List Int) (Cb' : Bool) (V : Int) (OK : Bool) (T : List Int) (e : Ending) (w' : World) : Prop :=
  ∃ A1 n1 c1 A2 n2 c2 At nt ct, e = .returned (.tuple #[.agg #[.slice A1 n1 c1, .int .i64 Sa, .bool Ca'], .agg #[.slice A2 n2 c2, .int .i64 Sb, .bool Cb'], .agg #[.int .i64 V, .bool OK, .slice At nt ct]]) ∧ RRow w' A1 n1 c1 La' ∧ RRow w' A2 n2 c2 Lb' ∧ RRow w' At nt ct T ∧ Below w.heap.size w w'

set_option maxRecDepth 100000 in
set_option maxHeartbeats 2000000 in
theorem rgo_same (A : Option Addr) (n c Sa : Nat) (Ca : Bool) (La : List Int) (B : Option Addr) (m k Sb : Nat) (Cb : Bool) (Lb : List Int) (v : Int) (w : World) (ra : RRow w A n c La) (rb : RRow w B m k Lb) :
    Calls Try.prog 17 #[.agg #[.slice A n c, .int .i64 Sa, .bool Ca], .agg #[.slice B m k, .int .i64 Sb, .bool Cb], .agg #[.int .i64 5, .bool false, .int .i64 v]] w (GoPost w Sa Sb La Ca Lb Cb 0 false []) := by
  have OW := Lib.hid (own6 w 41 41 47 41 41 44 #[.slice A n c, .int .i64 Sa, .bool Ca] #[.slice B m k, .int .i64 Sb, .bool Cb] #[.int .i64 5, .bool false, .int .i64 v] #[.slice none 0 0, .int .i64 0, .bool false] #[.slice none 0 0, .int .i64 0, .bool false] #[.int .i64 0, .bool false, .slice none 0 0])
  have RA := Lib.hid (ra.six (.cells #[.slice A n c, .int .i64 Sa, .bool Ca] 41) (.cells #[.slice B m k, .int .i64 Sb, .bool Cb] 41) (.cells #[.int .i64 5, .bool false, .int .i64 v] 47) (.cells #[.slice none 0 0, .int .i64 0, .bool false] 41) (.cells #[.slice none 0 0, .int .i64 0, .bool false] 41) (.cells #[.int .i64 0, .bool false, .slice none 0 0] 44))
  have RB := Lib.hid (rb.six (.cells #[.slice A n c, .int .i64 Sa, .bool Ca] 41) (.cells #[.slice B m k, .int .i64 Sb, .bool Cb] 41) (.cells #[.int .i64 5, .bool false, .int .i64 v] 47) (.cells #[.slice none 0 0, .int .i64 0, .bool false] 41) (.cells #[.slice none 0 0, .int .i64 0, .bool false] 41) (.cells #[.int .i64 0, .bool false, .slice none 0 0] 44))
  clear ra rb
  go_enter Try.func17, Try.ntmps17
  go_upto_region 1 with (fail)
  generalize (((((w.alloc (.cells #[.slice A n c, .int .i64 Sa, .bool Ca] 41)).alloc (.cells #[.slice B m k, .int .i64 Sb, .bool Cb] 41)).alloc (.cells #[.int .i64 5, .bool false, .int .i64 v] 47)).alloc (.cells #[.slice none 0 0, .int .i64 0, .bool false] 41)).alloc (.cells #[.slice none 0 0, .int .i64 0, .bool false] 41)).alloc (.cells #[.int .i64 0, .bool false, .slice none 0 0] 44) = W at OW RA RB ⊢
  generalize w.heap.size + 1 + 1 + 1 + 1 + 1 = r at OW ⊢
  generalize w.heap.size + 1 + 1 + 1 + 1 = q at OW ⊢
  generalize w.heap.size + 1 + 1 + 1 = p at OW ⊢
  generalize w.heap.size + 1 + 1 = s at OW ⊢
  generalize w.heap.size + 1 = y at OW ⊢
  generalize hwx : w.heap.size = x at OW ⊢
  have x0 := blk3_0 (OW.out.get 0 rfl)
  have x1 := blk3_1 (OW.out.get 0 rfl)
  have x2 := blk3_2 (OW.out.get 0 rfl)
  have y0 := blk3_0 (OW.out.get 1 rfl)
  have y1 := blk3_1 (OW.out.get 1 rfl)
  have y2 := blk3_2 (OW.out.get 1 rfl)
  have s0 := blk3_0 (OW.out.get 2 rfl)
  have s1 := blk3_1 (OW.out.get 2 rfl)
  have s2 := blk3_2 (OW.out.get 2 rfl)
  have p0 := blk3_0 (OW.out.get 3 rfl)
  have p1 := blk3_1 (OW.out.get 3 rfl)
  have p2 := blk3_2 (OW.out.get 3 rfl)
  have q0 := blk3_0 (OW.out.get 4 rfl)
  have q1 := blk3_1 (OW.out.get 4 rfl)
  have q2 := blk3_2 (OW.out.get 4 rfl)
  have r0 := blk3_0 (OW.out.get 5 rfl)
  have r1 := blk3_1 (OW.out.get 5 rfl)
  have r2 := blk3_2 (OW.out.get 5 rfl)
  have pf0 := OW.out.frozen 3 0 rfl
  have pf1 := OW.out.frozen 3 1 rfl
  have pf2 := OW.out.frozen 3 2 rfl
  have qf0 := OW.out.frozen 4 0 rfl
  have qf1 := OW.out.frozen 4 1 rfl
  have qf2 := OW.out.frozen 4 2 rfl
  have rf0 := OW.out.frozen 5 0 rfl
  have rf1 := OW.out.frozen 5 1 rfl
  have rf2 := OW.out.frozen 5 2 rfl
  have dpq := OW.out.ne 3 4 rfl rfl (by decide)
  have dpr := OW.out.ne 3 5 rfl rfl (by decide)
  have dqr := OW.out.ne 4 5 rfl rfl (by decide)
  have dxp := OW.out.ne 0 3 rfl rfl (by decide)
  have dxq := OW.out.ne 0 4 rfl rfl (by decide)
  have dxr := OW.out.ne 0 5 rfl rfl (by decide)
  have dyp := OW.out.ne 1 3 rfl rfl (by decide)
  have dyq := OW.out.ne 1 4 rfl rfl (by decide)
  have dyr := OW.out.ne 1 5 rfl rfl (by decide)
  have dsp := OW.out.ne 2 3 rfl rfl (by decide)
  have dsq := OW.out.ne 2 4 rfl rfl (by decide)
  have dsr := OW.out.ne 2 5 rfl rfl (by decide)
  go_wp2_with fail
  have OWF := Lib.hid (((OW.out.set3 3 rfl (.slice A n c) (.int .i64 Sa) (.bool Ca)).set3 4 rfl (.slice B m k) (.int .i64 Sb) (.bool Cb)).set3 5 rfl (.int .i64 0) (.bool false) (.slice none 0 0)).drew
  have R1F := Lib.hid (((OW.out.set3 3 rfl (.slice A n c) (.int .i64 Sa) (.bool Ca)).set3 4 rfl (.slice B m k) (.int .i64 Sb) (.bool Cb)).row_set3 5 rfl (by decide) ((OW.out.set3 3 rfl (.slice A n c) (.int .i64 Sa) (.bool Ca)).row_set3 4 rfl (by decide) (OW.out.row_set3 3 rfl (by decide) RA.out (.slice A n c) (.int .i64 Sa) (.bool Ca)) (.slice B m k) (.int .i64 Sb) (.bool Cb)) (.int .i64 0) (.bool false) (.slice none 0 0)).drew
  have R2F := Lib.hid (((OW.out.set3 3 rfl (.slice A n c) (.int .i64 Sa) (.bool Ca)).set3 4 rfl (.slice B m k) (.int .i64 Sb) (.bool Cb)).row_set3 5 rfl (by decide) ((OW.out.set3 3 rfl (.slice A n c) (.int .i64 Sa) (.bool Ca)).row_set3 4 rfl (by decide) (OW.out.row_set3 3 rfl (by decide) RB.out (.slice A n c) (.int .i64 Sa) (.bool Ca)) (.slice B m k) (.int .i64 Sb) (.bool Cb)) (.int .i64 0) (.bool false) (.slice none 0 0)).drew
  have RTF := Lib.hid (((OW.out.set3 3 rfl (.slice A n c) (.int .i64 Sa) (.bool Ca)).set3 4 rfl (.slice B m k) (.int .i64 Sb) (.bool Cb)).row_set3 5 rfl (by decide) ((OW.out.set3 3 rfl (.slice A n c) (.int .i64 Sa) (.bool Ca)).row_set3 4 rfl (by decide) (OW.out.row_set3 3 rfl (by decide) (RRow.nil _) (.slice A n c) (.int .i64 Sa) (.bool Ca)) (.slice B m k) (.int .i64 Sb) (.bool Cb)) (.int .i64 0) (.bool false) (.slice none 0 0)).drew
  go_region
  go_wp2_with fail
  have e0 := blk3_0 (OWF.out.get 3 rfl)
  have e1 := blk3_1 (OWF.out.get 3 rfl)
  have e2 := blk3_2 (OWF.out.get 3 rfl)
  have g0 := blk3_0 (OWF.out.get 4 rfl)
  have g1 := blk3_1 (OWF.out.get 4 rfl)
  have g2 := blk3_2 (OWF.out.get 4 rfl)
  have i0 := blk3_0 (OWF.out.get 5 rfl)
  have i1 := blk3_1 (OWF.out.get 5 rfl)
  have i2 := blk3_2 (OWF.out.get 5 rfl)
  exact bodyPost_ret (v := .tuple #[.agg #[.slice A n c, .int .i64 Sa, .bool Ca], .agg #[.slice B m k, .int .i64 Sb, .bool Cb], .agg #[.int .i64 0, .bool false, .slice none 0 0]]) (by simp [results, Try.results17, go_sem, e0, e1, e2, g0, g1, g2, i0, i1, i2]) rfl ⟨_, _, _, _, _, _, _, _, _, rfl, R1F.out, R2F.out, RTF.out, OWF.out.hb⟩

set_option maxRecDepth 100000 in
set_option maxHeartbeats 2000000 in
theorem rgo_move (A : Option Addr) (n c Sa : Nat) (Ca : Bool) (La : List Int) (B : Option Addr) (m k Sb : Nat) (Cb : Bool) (Lb : List Int) (v : Int) (hn : n ≤ 4096) (hS : Sb ≤ 4096) (j : Nat) (hj : j = mv Cb Sb n m) (w : World) (ra : RRow w A n c La) (rb : RRow w B m k Lb) :
    Calls Try.prog 17 #[.agg #[.slice A n c, .int .i64 Sa, .bool Ca], .agg #[.slice B m k, .int .i64 Sb, .bool Cb], .agg #[.int .i64 4, .bool false, .int .i64 v]] w (GoPost w Sa Sb (La.drop j) Ca (Lb ++ La.take j) Cb j false []) := by
  have OW := Lib.hid (own6 w 41 41 47 41 41 44 #[.slice A n c, .int .i64 Sa, .bool Ca] #[.slice B m k, .int .i64 Sb, .bool Cb] #[.int .i64 4, .bool false, .int .i64 v] #[.slice none 0 0, .int .i64 0, .bool false] #[.slice none 0 0, .int .i64 0, .bool false] #[.int .i64 0, .bool false, .slice none 0 0])
  have RA := Lib.hid (ra.six (.cells #[.slice A n c, .int .i64 Sa, .bool Ca] 41) (.cells #[.slice B m k, .int .i64 Sb, .bool Cb] 41) (.cells #[.int .i64 4, .bool false, .int .i64 v] 47) (.cells #[.slice none 0 0, .int .i64 0, .bool false] 41) (.cells #[.slice none 0 0, .int .i64 0, .bool false] 41) (.cells #[.int .i64 0, .bool false, .slice none 0 0] 44))
  have RB := Lib.hid (rb.six (.cells #[.slice A n c, .int .i64 Sa, .bool Ca] 41) (.cells #[.slice B m k, .int .i64 Sb, .bool Cb] 41) (.cells #[.int .i64 4, .bool false, .int .i64 v] 47) (.cells #[.slice none 0 0, .int .i64 0, .bool false] 41) (.cells #[.slice none 0 0, .int .i64 0, .bool false] 41) (.cells #[.int .i64 0, .bool false, .slice none 0 0] 44))
  clear ra rb
  go_enter Try.func17, Try.ntmps17
  go_upto_region 1 with (fail)
  generalize (((((w.alloc (.cells #[.slice A n c, .int .i64 Sa, .bool Ca] 41)).alloc (.cells #[.slice B m k, .int .i64 Sb, .bool Cb] 41)).alloc (.cells #[.int .i64 4, .bool false, .int .i64 v] 47)).alloc (.cells #[.slice none 0 0, .int .i64 0, .bool false] 41)).alloc (.cells #[.slice none 0 0, .int .i64 0, .bool false] 41)).alloc (.cells #[.int .i64 0, .bool false, .slice none 0 0] 44) = W at OW RA RB ⊢
  generalize w.heap.size + 1 + 1 + 1 + 1 + 1 = r at OW ⊢
  generalize w.heap.size + 1 + 1 + 1 + 1 = q at OW ⊢
  generalize w.heap.size + 1 + 1 + 1 = p at OW ⊢
  generalize w.heap.size + 1 + 1 = s at OW ⊢
  generalize w.heap.size + 1 = y at OW ⊢
  generalize hwx : w.heap.size = x at OW ⊢
  have x0 := blk3_0 (OW.out.get 0 rfl)
  have x1 := blk3_1 (OW.out.get 0 rfl)
  have x2 := blk3_2 (OW.out.get 0 rfl)
  have y0 := blk3_0 (OW.out.get 1 rfl)
  have y1 := blk3_1 (OW.out.get 1 rfl)
  have y2 := blk3_2 (OW.out.get 1 rfl)
  have s0 := blk3_0 (OW.out.get 2 rfl)
  have s1 := blk3_1 (OW.out.get 2 rfl)
  have s2 := blk3_2 (OW.out.get 2 rfl)
  go_wp2_with fail
  refine (rmove_any A n c Sa Ca La B m k Sb Cb Lb hn hS _ RA.out RB.out).mono ?_
  rintro e1 w1 ⟨j', A', n', c', B', m', k', hj', rfl, hr1, hr2, hb⟩
  obtain rfl : j' = j := by rw [hj', hj]
  have ow1 := ((OW.out.over hb).alloc #[.slice A' n' c', .int .i64 Sa, .bool Ca] 41).alloc #[.slice B' m' k', .int .i64 Sb, .bool Cb] 41
  rw [World.size_alloc] at ow1
  have OW1 := Lib.hid ow1
  have RA1 := Lib.hid ((hr1.alloc (.cells #[.slice A' n' c', .int .i64 Sa, .bool Ca] 41)).alloc (.cells #[.slice B' m' k', .int .i64 Sb, .bool Cb] 41))
  have RB1 := Lib.hid ((hr2.alloc (.cells #[.slice A' n' c', .int .i64 Sa, .bool Ca] 41)).alloc (.cells #[.slice B' m' k', .int .i64 Sb, .bool Cb] 41))
  clear hr1 hr2 hb ow1 OW RA RB hj hj'
  clear x0 x1 x2 y0 y1 y2 s0 s1 s2 
  go_upto_region 7 with (fail)
  generalize (w1.alloc (.cells #[.slice A' n' c', .int .i64 Sa, .bool Ca] 41)).alloc (.cells #[.slice B' m' k', .int .i64 Sb, .bool Cb] 41) = W1 at OW1 RA1 RB1 ⊢
  generalize w1.heap.size + 1 = u at OW1 ⊢
  generalize w1.heap.size = t at OW1 ⊢
  have t0 := blk3_0 (OW1.out.get 6 rfl)
  have t1 := blk3_1 (OW1.out.get 6 rfl)
  have t2 := blk3_2 (OW1.out.get 6 rfl)
  have u0 := blk3_0 (OW1.out.get 7 rfl)
  have u1 := blk3_1 (OW1.out.get 7 rfl)
  have u2 := blk3_2 (OW1.out.get 7 rfl)
  have p0 := blk3_0 (OW1.out.get 3 rfl)
  have p1 := blk3_1 (OW1.out.get 3 rfl)
  have p2 := blk3_2 (OW1.out.get 3 rfl)
  have q0 := blk3_0 (OW1.out.get 4 rfl)
  have q1 := blk3_1 (OW1.out.get 4 rfl)
  have q2 := blk3_2 (OW1.out.get 4 rfl)
  have r0 := blk3_0 (OW1.out.get 5 rfl)
  have r1 := blk3_1 (OW1.out.get 5 rfl)
  have r2 := blk3_2 (OW1.out.get 5 rfl)
  have pf0 := OW1.out.frozen 3 0 rfl
  have pf1 := OW1.out.frozen 3 1 rfl
  have pf2 := OW1.out.frozen 3 2 rfl
  have qf0 := OW1.out.frozen 4 0 rfl
  have qf1 := OW1.out.frozen 4 1 rfl
  have qf2 := OW1.out.frozen 4 2 rfl
  have rf0 := OW1.out.frozen 5 0 rfl
  have rf1 := OW1.out.frozen 5 1 rfl
  have rf2 := OW1.out.frozen 5 2 rfl
  have dpq := OW1.out.ne 3 4 rfl rfl (by decide)
  have dpr := OW1.out.ne 3 5 rfl rfl (by decide)
  have dqr := OW1.out.ne 4 5 rfl rfl (by decide)
  have dtp := OW1.out.ne 6 3 rfl rfl (by decide)
  have dtq := OW1.out.ne 6 4 rfl rfl (by decide)
  have dtr := OW1.out.ne 6 5 rfl rfl (by decide)
  have dup := OW1.out.ne 7 3 rfl rfl (by decide)
  have duq := OW1.out.ne 7 4 rfl rfl (by decide)
  have dur := OW1.out.ne 7 5 rfl rfl (by decide)
  have OWF := Lib.hid (((OW1.out.set3 3 rfl (.slice A' n' c') (.int .i64 Sa) (.bool Ca)).set3 4 rfl (.slice B' m' k') (.int .i64 Sb) (.bool Cb)).set3 5 rfl (.int .i64 j') (.bool false) (.slice none 0 0)).drew
  have R1F := Lib.hid (((OW1.out.set3 3 rfl (.slice A' n' c') (.int .i64 Sa) (.bool Ca)).set3 4 rfl (.slice B' m' k') (.int .i64 Sb) (.bool Cb)).row_set3 5 rfl (by decide) ((OW1.out.set3 3 rfl (.slice A' n' c') (.int .i64 Sa) (.bool Ca)).row_set3 4 rfl (by decide) (OW1.out.row_set3 3 rfl (by decide) RA1.out (.slice A' n' c') (.int .i64 Sa) (.bool Ca)) (.slice B' m' k') (.int .i64 Sb) (.bool Cb)) (.int .i64 j') (.bool false) (.slice none 0 0)).drew
  have R2F := Lib.hid (((OW1.out.set3 3 rfl (.slice A' n' c') (.int .i64 Sa) (.bool Ca)).set3 4 rfl (.slice B' m' k') (.int .i64 Sb) (.bool Cb)).row_set3 5 rfl (by decide) ((OW1.out.set3 3 rfl (.slice A' n' c') (.int .i64 Sa) (.bool Ca)).row_set3 4 rfl (by decide) (OW1.out.row_set3 3 rfl (by decide) RB1.out (.slice A' n' c') (.int .i64 Sa) (.bool Ca)) (.slice B' m' k') (.int .i64 Sb) (.bool Cb)) (.int .i64 j') (.bool false) (.slice none 0 0)).drew
  have RTF := Lib.hid (((OW1.out.set3 3 rfl (.slice A' n' c') (.int .i64 Sa) (.bool Ca)).set3 4 rfl (.slice B' m' k') (.int .i64 Sb) (.bool Cb)).row_set3 5 rfl (by decide) ((OW1.out.set3 3 rfl (.slice A' n' c') (.int .i64 Sa) (.bool Ca)).row_set3 4 rfl (by decide) (OW1.out.row_set3 3 rfl (by decide) (RRow.nil _) (.slice A' n' c') (.int .i64 Sa) (.bool Ca)) (.slice B' m' k') (.int .i64 Sb) (.bool Cb)) (.int .i64 j') (.bool false) (.slice none 0 0)).drew
  go_region
  go_wp2_with fail
  have e0 := blk3_0 (OWF.out.get 3 rfl)
  have e1 := blk3_1 (OWF.out.get 3 rfl)
  have e2 := blk3_2 (OWF.out.get 3 rfl)
  have g0 := blk3_0 (OWF.out.get 4 rfl)
  have g1 := blk3_1 (OWF.out.get 4 rfl)
  have g2 := blk3_2 (OWF.out.get 4 rfl)
  have i0 := blk3_0 (OWF.out.get 5 rfl)
  have i1 := blk3_1 (OWF.out.get 5 rfl)
  have i2 := blk3_2 (OWF.out.get 5 rfl)
  exact bodyPost_ret (v := .tuple #[.agg #[.slice A' n' c', .int .i64 Sa, .bool Ca], .agg #[.slice B' m' k', .int .i64 Sb, .bool Cb], .agg #[.int .i64 j', .bool false, .slice none 0 0]]) (by simp [results, Try.results17, go_sem, e0, e1, e2, g0, g1, g2, i0, i1, i2]) rfl ⟨_, _, _, _, _, _, _, _, _, rfl, R1F.out, R2F.out, RTF.out, OWF.out.hb⟩

set_option maxRecDepth 100000 in
set_option maxHeartbeats 2000000 in
theorem rgo_one (A : Option Addr) (n c Sa : Nat) (Ca : Bool) (La : List Int) (B : Option Addr) (m k Sb : Nat) (Cb : Bool) (Lb : List Int) (v : Int) (d : Int) (h4 : d ≠ 4) (h5 : d ≠ 5) (La' : List Int) (Ca' : Bool) (V : Int) (OK : Bool) (T : List Int) (hs : OneR Sa d v La Ca La' Ca' V OK T) (hS : Sa ≤ 4096) (hL : La.length ≤ Sa) (w : World) (ra : RRow w A n c La) (rb : RRow w B m k Lb) :
    Calls Try.prog 17 #[.agg #[.slice A n c, .int .i64 Sa, .bool Ca], .agg #[.slice B m k, .int .i64 Sb, .bool Cb], .agg #[.int .i64 d, .bool false, .int .i64 v]] w (GoPost w Sa Sb La' Ca' Lb Cb V OK T) := by
  have d4 : (d == 4) = false := by rw [beq_eq_false_iff_ne]; exact h4
  have d5 : (d == 5) = false := by rw [beq_eq_false_iff_ne]; exact h5
  have HS := Lib.hid hs
  clear h4 h5 hs
  have OW := Lib.hid (own6 w 41 41 47 41 41 44 #[.slice A n c, .int .i64 Sa, .bool Ca] #[.slice B m k, .int .i64 Sb, .bool Cb] #[.int .i64 d, .bool false, .int .i64 v] #[.slice none 0 0, .int .i64 0, .bool false] #[.slice none 0 0, .int .i64 0, .bool false] #[.int .i64 0, .bool false, .slice none 0 0])
  have RA := Lib.hid (ra.six (.cells #[.slice A n c, .int .i64 Sa, .bool Ca] 41) (.cells #[.slice B m k, .int .i64 Sb, .bool Cb] 41) (.cells #[.int .i64 d, .bool false, .int .i64 v] 47) (.cells #[.slice none 0 0, .int .i64 0, .bool false] 41) (.cells #[.slice none 0 0, .int .i64 0, .bool false] 41) (.cells #[.int .i64 0, .bool false, .slice none 0 0] 44))
  have RB := Lib.hid (rb.six (.cells #[.slice A n c, .int .i64 Sa, .bool Ca] 41) (.cells #[.slice B m k, .int .i64 Sb, .bool Cb] 41) (.cells #[.int .i64 d, .bool false, .int .i64 v] 47) (.cells #[.slice none 0 0, .int .i64 0, .bool false] 41) (.cells #[.slice none 0 0, .int .i64 0, .bool false] 41) (.cells #[.int .i64 0, .bool false, .slice none 0 0] 44))
  clear ra rb
  go_enter Try.func17, Try.ntmps17
  go_upto_region 1 with (fail)
  generalize (((((w.alloc (.cells #[.slice A n c, .int .i64 Sa, .bool Ca] 41)).alloc (.cells #[.slice B m k, .int .i64 Sb, .bool Cb] 41)).alloc (.cells #[.int .i64 d, .bool false, .int .i64 v] 47)).alloc (.cells #[.slice none 0 0, .int .i64 0, .bool false] 41)).alloc (.cells #[.slice none 0 0, .int .i64 0, .bool false] 41)).alloc (.cells #[.int .i64 0, .bool false, .slice none 0 0] 44) = W at OW RA RB ⊢
  generalize w.heap.size + 1 + 1 + 1 + 1 + 1 = r at OW ⊢
  generalize w.heap.size + 1 + 1 + 1 + 1 = q at OW ⊢
  generalize w.heap.size + 1 + 1 + 1 = p at OW ⊢
  generalize w.heap.size + 1 + 1 = s at OW ⊢
  generalize w.heap.size + 1 = y at OW ⊢
  generalize hwx : w.heap.size = x at OW ⊢
  have x0 := blk3_0 (OW.out.get 0 rfl)
  have x1 := blk3_1 (OW.out.get 0 rfl)
  have x2 := blk3_2 (OW.out.get 0 rfl)
  have y0 := blk3_0 (OW.out.get 1 rfl)
  have y1 := blk3_1 (OW.out.get 1 rfl)
  have y2 := blk3_2 (OW.out.get 1 rfl)
  have s0 := blk3_0 (OW.out.get 2 rfl)
  have s1 := blk3_1 (OW.out.get 2 rfl)
  have s2 := blk3_2 (OW.out.get 2 rfl)
  go_wp2_with fail
  refine (rone_any HS.out hS hL A n c false _ RA.out).mono ?_
  rintro e1 w1 ⟨A', n', c', At, nt, ct, rfl, hr1, hr2, hb⟩
  have ow1 := ((OW.out.over hb).alloc #[.slice A' n' c', .int .i64 Sa, .bool Ca'] 41).alloc #[.int .i64 V, .bool OK, .slice At nt ct] 44
  rw [World.size_alloc] at ow1
  have OW1 := Lib.hid ow1
  have RA1 := Lib.hid ((hr1.alloc (.cells #[.slice A' n' c', .int .i64 Sa, .bool Ca'] 41)).alloc (.cells #[.int .i64 V, .bool OK, .slice At nt ct] 44))
  have RB1 := Lib.hid (((RB.out.over hb).alloc (.cells #[.slice A' n' c', .int .i64 Sa, .bool Ca'] 41)).alloc (.cells #[.int .i64 V, .bool OK, .slice At nt ct] 44))
  have RT1 := Lib.hid ((hr2.alloc (.cells #[.slice A' n' c', .int .i64 Sa, .bool Ca'] 41)).alloc (.cells #[.int .i64 V, .bool OK, .slice At nt ct] 44))
  have hdy1 := Nat.ne_of_lt (Nat.lt_of_lt_of_le (OW.out.lt 1 rfl) hb.size)
  clear hr1 hr2 hb ow1 OW RA RB
  clear x0 x1 x2 y0 y1 y2 s0 s1 s2 
  go_upto_region 11 with (fail)
  generalize (w1.alloc (.cells #[.slice A' n' c', .int .i64 Sa, .bool Ca'] 41)).alloc (.cells #[.int .i64 V, .bool OK, .slice At nt ct] 44) = W1 at OW1 RA1 RB1 RT1 ⊢
  generalize w1.heap.size + 1 = u at OW1 ⊢
  generalize w1.heap.size = t at OW1 ⊢
  clear hdy1
  have t0 := blk3_0 (OW1.out.get 6 rfl)
  have t1 := blk3_1 (OW1.out.get 6 rfl)
  have t2 := blk3_2 (OW1.out.get 6 rfl)
  have u0 := blk3_0 (OW1.out.get 7 rfl)
  have u1 := blk3_1 (OW1.out.get 7 rfl)
  have u2 := blk3_2 (OW1.out.get 7 rfl)
  have y0 := blk3_0 (OW1.out.get 1 rfl)
  have y1 := blk3_1 (OW1.out.get 1 rfl)
  have y2 := blk3_2 (OW1.out.get 1 rfl)
  have p0 := blk3_0 (OW1.out.get 3 rfl)
  have p1 := blk3_1 (OW1.out.get 3 rfl)
  have p2 := blk3_2 (OW1.out.get 3 rfl)
  have q0 := blk3_0 (OW1.out.get 4 rfl)
  have q1 := blk3_1 (OW1.out.get 4 rfl)
  have q2 := blk3_2 (OW1.out.get 4 rfl)
  have r0 := blk3_0 (OW1.out.get 5 rfl)
  have r1 := blk3_1 (OW1.out.get 5 rfl)
  have r2 := blk3_2 (OW1.out.get 5 rfl)
  have pf0 := OW1.out.frozen 3 0 rfl
  have pf1 := OW1.out.frozen 3 1 rfl
  have pf2 := OW1.out.frozen 3 2 rfl
  have qf0 := OW1.out.frozen 4 0 rfl
  have qf1 := OW1.out.frozen 4 1 rfl
  have qf2 := OW1.out.frozen 4 2 rfl
  have rf0 := OW1.out.frozen 5 0 rfl
  have rf1 := OW1.out.frozen 5 1 rfl
  have rf2 := OW1.out.frozen 5 2 rfl
  have dpq := OW1.out.ne 3 4 rfl rfl (by decide)
  have dpr := OW1.out.ne 3 5 rfl rfl (by decide)
  have dqr := OW1.out.ne 4 5 rfl rfl (by decide)
  have dtp := OW1.out.ne 6 3 rfl rfl (by decide)
  have dtq := OW1.out.ne 6 4 rfl rfl (by decide)
  have dtr := OW1.out.ne 6 5 rfl rfl (by decide)
  have dup := OW1.out.ne 7 3 rfl rfl (by decide)
  have duq := OW1.out.ne 7 4 rfl rfl (by decide)
  have dur := OW1.out.ne 7 5 rfl rfl (by decide)
  have dyp := OW1.out.ne 1 3 rfl rfl (by decide)
  have dyq := OW1.out.ne 1 4 rfl rfl (by decide)
  have dyr := OW1.out.ne 1 5 rfl rfl (by decide)
  have OWF := Lib.hid (((OW1.out.set3 3 rfl (.slice A' n' c') (.int .i64 Sa) (.bool Ca')).set3 4 rfl (.slice B m k) (.int .i64 Sb) (.bool Cb)).set3 5 rfl (.int .i64 V) (.bool OK) (.slice At nt ct)).drew
  have R1F := Lib.hid (((OW1.out.set3 3 rfl (.slice A' n' c') (.int .i64 Sa) (.bool Ca')).set3 4 rfl (.slice B m k) (.int .i64 Sb) (.bool Cb)).row_set3 5 rfl (by decide) ((OW1.out.set3 3 rfl (.slice A' n' c') (.int .i64 Sa) (.bool Ca')).row_set3 4 rfl (by decide) (OW1.out.row_set3 3 rfl (by decide) RA1.out (.slice A' n' c') (.int .i64 Sa) (.bool Ca')) (.slice B m k) (.int .i64 Sb) (.bool Cb)) (.int .i64 V) (.bool OK) (.slice At nt ct)).drew
  have R2F := Lib.hid (((OW1.out.set3 3 rfl (.slice A' n' c') (.int .i64 Sa) (.bool Ca')).set3 4 rfl (.slice B m k) (.int .i64 Sb) (.bool Cb)).row_set3 5 rfl (by decide) ((OW1.out.set3 3 rfl (.slice A' n' c') (.int .i64 Sa) (.bool Ca')).row_set3 4 rfl (by decide) (OW1.out.row_set3 3 rfl (by decide) RB1.out (.slice A' n' c') (.int .i64 Sa) (.bool Ca')) (.slice B m k) (.int .i64 Sb) (.bool Cb)) (.int .i64 V) (.bool OK) (.slice At nt ct)).drew
  have RTF := Lib.hid (((OW1.out.set3 3 rfl (.slice A' n' c') (.int .i64 Sa) (.bool Ca')).set3 4 rfl (.slice B m k) (.int .i64 Sb) (.bool Cb)).row_set3 5 rfl (by decide) ((OW1.out.set3 3 rfl (.slice A' n' c') (.int .i64 Sa) (.bool Ca')).row_set3 4 rfl (by decide) (OW1.out.row_set3 3 rfl (by decide) RT1.out (.slice A' n' c') (.int .i64 Sa) (.bool Ca')) (.slice B m k) (.int .i64 Sb) (.bool Cb)) (.int .i64 V) (.bool OK) (.slice At nt ct)).drew
  go_region
  go_wp2_with fail
  have e0 := blk3_0 (OWF.out.get 3 rfl)
  have e1 := blk3_1 (OWF.out.get 3 rfl)
  have e2 := blk3_2 (OWF.out.get 3 rfl)
  have g0 := blk3_0 (OWF.out.get 4 rfl)
  have g1 := blk3_1 (OWF.out.get 4 rfl)
  have g2 := blk3_2 (OWF.out.get 4 rfl)
  have i0 := blk3_0 (OWF.out.get 5 rfl)
  have i1 := blk3_1 (OWF.out.get 5 rfl)
  have i2 := blk3_2 (OWF.out.get 5 rfl)
  exact bodyPost_ret (v := .tuple #[.agg #[.slice A' n' c', .int .i64 Sa, .bool Ca'], .agg #[.slice B m k, .int .i64 Sb, .bool Cb], .agg #[.int .i64 V, .bool OK, .slice At nt ct]]) (by simp [results, Try.results17, go_sem, e0, e1, e2, g0, g1, g2, i0, i1, i2]) rfl ⟨_, _, _, _, _, _, _, _, _, rfl, R1F.out, R2F.out, RTF.out, OWF.out.hb⟩

theorem rgo_first {Sa Sb : Nat} {d v : Int} {La : List Int} {Ca : Bool} {Lb : List Int} {Cb : Bool} {La' : List Int} {Ca' : Bool} {Lb' : List Int} {Cb' : Bool} {V : Int} {OK : Bool} {T : List Int} (hs : StepR Sa Sb d v La Ca Lb Cb La' Ca' Lb' Cb' V OK T) (hSa : Sa ≤ 4096) (hSb : Sb ≤ 4096) (hL : La.length ≤ Sa) (A : Option Addr) (n c : Nat) (B : Option Addr) (m k : Nat) (w : World) (ra : RRow w A n c La) (rb : RRow w B m k Lb) :
    Calls Try.prog 17 #[.agg #[.slice A n c, .int .i64 Sa, .bool Ca], .agg #[.slice B m k, .int .i64 Sb, .bool Cb], .agg #[.int .i64 d, .bool false, .int .i64 v]] w (GoPost w Sa Sb La' Ca' Lb' Cb' V OK T) := by
  have hn := ra.len
  have hm := rb.len
  cases hs with
  | one _ _ h4 h5 h => exact rgo_one A n c Sa Ca La B m k Sb Cb Lb v d h4 h5 _ _ _ _ _ h hSa hL w ra rb
  | move _ _ _ _ _ j hj => exact rgo_move A n c Sa Ca La B m k Sb Cb Lb v (by omega) hSb j (by rw [hj, hn, hm]) w ra rb
  | same => exact rgo_same A n c Sa Ca La B m k Sb Cb Lb v w ra rb

set_option maxRecDepth 100000 in
set_option maxHeartbeats 2000000 in
theorem rgo_second (A : Option Addr) (n c Sa : Nat) (Ca : Bool) (La : List Int) (B : Option Addr) (m k Sb : Nat) (Cb : Bool) (Lb : List Int) (v : Int) (d : Int) (La' : List Int) (Ca' : Bool) (Lb' : List Int) (Cb' : Bool) (V : Int) (OK : Bool) (T : List Int) (hs : StepR Sb Sa d v Lb Cb La Ca Lb' Cb' La' Ca' V OK T) (hSa : Sa ≤ 4096) (hSb : Sb ≤ 4096) (hL : Lb.length ≤ Sb) (w : World) (ra : RRow w A n c La) (rb : RRow w B m k Lb) :
    Calls Try.prog 17 #[.agg #[.slice A n c, .int .i64 Sa, .bool Ca], .agg #[.slice B m k, .int .i64 Sb, .bool Cb], .agg #[.int .i64 d, .bool true, .int .i64 v]] w (GoPost w Sa Sb La' Ca' Lb' Cb' V OK T) := by
  have HS := Lib.hid hs
  clear hs
  have OW := Lib.hid (own6 w 41 41 47 41 41 44 #[.slice A n c, .int .i64 Sa, .bool Ca] #[.slice B m k, .int .i64 Sb, .bool Cb] #[.int .i64 d, .bool true, .int .i64 v] #[.slice none 0 0, .int .i64 0, .bool false] #[.slice none 0 0, .int .i64 0, .bool false] #[.int .i64 0, .bool false, .slice none 0 0])
  have RA := Lib.hid (ra.six (.cells #[.slice A n c, .int .i64 Sa, .bool Ca] 41) (.cells #[.slice B m k, .int .i64 Sb, .bool Cb] 41) (.cells #[.int .i64 d, .bool true, .int .i64 v] 47) (.cells #[.slice none 0 0, .int .i64 0, .bool false] 41) (.cells #[.slice none 0 0, .int .i64 0, .bool false] 41) (.cells #[.int .i64 0, .bool false, .slice none 0 0] 44))
  have RB := Lib.hid (rb.six (.cells #[.slice A n c, .int .i64 Sa, .bool Ca] 41) (.cells #[.slice B m k, .int .i64 Sb, .bool Cb] 41) (.cells #[.int .i64 d, .bool true, .int .i64 v] 47) (.cells #[.slice none 0 0, .int .i64 0, .bool false] 41) (.cells #[.slice none 0 0, .int .i64 0, .bool false] 41) (.cells #[.int .i64 0, .bool false, .slice none 0 0] 44))
  clear ra rb
  go_enter Try.func17, Try.ntmps17
  go_upto_region 1 with (fail)
  generalize (((((w.alloc (.cells #[.slice A n c, .int .i64 Sa, .bool Ca] 41)).alloc (.cells #[.slice B m k, .int .i64 Sb, .bool Cb] 41)).alloc (.cells #[.int .i64 d, .bool true, .int .i64 v] 47)).alloc (.cells #[.slice none 0 0, .int .i64 0, .bool false] 41)).alloc (.cells #[.slice none 0 0, .int .i64 0, .bool false] 41)).alloc (.cells #[.int .i64 0, .bool false, .slice none 0 0] 44) = W at OW RA RB ⊢
  generalize w.heap.size + 1 + 1 + 1 + 1 + 1 = r at OW ⊢
  generalize w.heap.size + 1 + 1 + 1 + 1 = q at OW ⊢
  generalize w.heap.size + 1 + 1 + 1 = p at OW ⊢
  generalize w.heap.size + 1 + 1 = s at OW ⊢
  generalize w.heap.size + 1 = y at OW ⊢
  generalize hwx : w.heap.size = x at OW ⊢
  have x0 := blk3_0 (OW.out.get 0 rfl)
  have x1 := blk3_1 (OW.out.get 0 rfl)
  have x2 := blk3_2 (OW.out.get 0 rfl)
  have y0 := blk3_0 (OW.out.get 1 rfl)
  have y1 := blk3_1 (OW.out.get 1 rfl)
  have y2 := blk3_2 (OW.out.get 1 rfl)
  have s0 := blk3_0 (OW.out.get 2 rfl)
  have s1 := blk3_1 (OW.out.get 2 rfl)
  have s2 := blk3_2 (OW.out.get 2 rfl)
  have sf0 := OW.out.frozen 2 0 rfl
  have sf1 := OW.out.frozen 2 1 rfl
  have sf2 := OW.out.frozen 2 2 rfl
  have dxs := OW.out.ne 0 2 rfl rfl (by decide)
  have dys := OW.out.ne 1 2 rfl rfl (by decide)
  have OWS := Lib.hid (OW.out.set_ 2 rfl 1 (.bool false))
  have RAS := Lib.hid (OW.out.row_set 2 rfl (by decide) RA.out 1 (.bool false))
  have RBS := Lib.hid (OW.out.row_set 2 rfl (by decide) RB.out 1 (.bool false))
  go_wp2_with fail
  refine (rgo_first HS.out hSb hSa hL B m k A n c _ RBS.out RAS.out).mono ?_
  rintro e1 w1 ⟨B', m', k', A', n', c', At, nt, ct, rfl, hr2, hr1, hrt, hb⟩
  have ow1 := (((OWS.out.over hb).alloc #[.slice B' m' k', .int .i64 Sb, .bool Cb'] 41).alloc #[.slice A' n' c', .int .i64 Sa, .bool Ca'] 41).alloc #[.int .i64 V, .bool OK, .slice At nt ct] 44
  simp only [World.size_alloc] at ow1
  have OW1 := Lib.hid ow1
  have RA1 := Lib.hid (((hr1.alloc (.cells #[.slice B' m' k', .int .i64 Sb, .bool Cb'] 41)).alloc (.cells #[.slice A' n' c', .int .i64 Sa, .bool Ca'] 41)).alloc (.cells #[.int .i64 V, .bool OK, .slice At nt ct] 44))
  have RB1 := Lib.hid (((hr2.alloc (.cells #[.slice B' m' k', .int .i64 Sb, .bool Cb'] 41)).alloc (.cells #[.slice A' n' c', .int .i64 Sa, .bool Ca'] 41)).alloc (.cells #[.int .i64 V, .bool OK, .slice At nt ct] 44))
  have RT1 := Lib.hid (((hrt.alloc (.cells #[.slice B' m' k', .int .i64 Sb, .bool Cb'] 41)).alloc (.cells #[.slice A' n' c', .int .i64 Sa, .bool Ca'] 41)).alloc (.cells #[.int .i64 V, .bool OK, .slice At nt ct] 44))
  clear hr1 hr2 hrt hb ow1 OW RA RB OWS RAS RBS
  clear x0 x1 x2 y0 y1 y2 s0 s1 s2 sf0 sf1 sf2
  go_upto_region 4 with (fail)
  generalize ((w1.alloc (.cells #[.slice B' m' k', .int .i64 Sb, .bool Cb'] 41)).alloc (.cells #[.slice A' n' c', .int .i64 Sa, .bool Ca'] 41)).alloc (.cells #[.int .i64 V, .bool OK, .slice At nt ct] 44) = W1 at OW1 RA1 RB1 RT1 ⊢
  generalize w1.heap.size + 1 + 1 = z at OW1 ⊢
  generalize w1.heap.size + 1 = u at OW1 ⊢
  generalize w1.heap.size = t at OW1 ⊢
  have t0 := blk3_0 (OW1.out.get 6 rfl)
  have t1 := blk3_1 (OW1.out.get 6 rfl)
  have t2 := blk3_2 (OW1.out.get 6 rfl)
  have u0 := blk3_0 (OW1.out.get 7 rfl)
  have u1 := blk3_1 (OW1.out.get 7 rfl)
  have u2 := blk3_2 (OW1.out.get 7 rfl)
  have z0 := blk3_0 (OW1.out.get 8 rfl)
  have z1 := blk3_1 (OW1.out.get 8 rfl)
  have z2 := blk3_2 (OW1.out.get 8 rfl)
  have p0 := blk3_0 (OW1.out.get 3 rfl)
  have p1 := blk3_1 (OW1.out.get 3 rfl)
  have p2 := blk3_2 (OW1.out.get 3 rfl)
  have q0 := blk3_0 (OW1.out.get 4 rfl)
  have q1 := blk3_1 (OW1.out.get 4 rfl)
  have q2 := blk3_2 (OW1.out.get 4 rfl)
  have r0 := blk3_0 (OW1.out.get 5 rfl)
  have r1 := blk3_1 (OW1.out.get 5 rfl)
  have r2 := blk3_2 (OW1.out.get 5 rfl)
  have pf0 := OW1.out.frozen 3 0 rfl
  have pf1 := OW1.out.frozen 3 1 rfl
  have pf2 := OW1.out.frozen 3 2 rfl
  have qf0 := OW1.out.frozen 4 0 rfl
  have qf1 := OW1.out.frozen 4 1 rfl
  have qf2 := OW1.out.frozen 4 2 rfl
  have rf0 := OW1.out.frozen 5 0 rfl
  have rf1 := OW1.out.frozen 5 1 rfl
  have rf2 := OW1.out.frozen 5 2 rfl
  have dpq := OW1.out.ne 3 4 rfl rfl (by decide)
  have dpr := OW1.out.ne 3 5 rfl rfl (by decide)
  have dqr := OW1.out.ne 4 5 rfl rfl (by decide)
  have dtp := OW1.out.ne 6 3 rfl rfl (by decide)
  have dtq := OW1.out.ne 6 4 rfl rfl (by decide)
  have dtr := OW1.out.ne 6 5 rfl rfl (by decide)
  have dup := OW1.out.ne 7 3 rfl rfl (by decide)
  have duq := OW1.out.ne 7 4 rfl rfl (by decide)
  have dur := OW1.out.ne 7 5 rfl rfl (by decide)
  have dzp := OW1.out.ne 8 3 rfl rfl (by decide)
  have dzq := OW1.out.ne 8 4 rfl rfl (by decide)
  have dzr := OW1.out.ne 8 5 rfl rfl (by decide)
  have OWF := Lib.hid (((OW1.out.set3 3 rfl (.slice A' n' c') (.int .i64 Sa) (.bool Ca')).set3 4 rfl (.slice B' m' k') (.int .i64 Sb) (.bool Cb')).set3 5 rfl (.int .i64 V) (.bool OK) (.slice At nt ct)).drew
  have R1F := Lib.hid (((OW1.out.set3 3 rfl (.slice A' n' c') (.int .i64 Sa) (.bool Ca')).set3 4 rfl (.slice B' m' k') (.int .i64 Sb) (.bool Cb')).row_set3 5 rfl (by decide) ((OW1.out.set3 3 rfl (.slice A' n' c') (.int .i64 Sa) (.bool Ca')).row_set3 4 rfl (by decide) (OW1.out.row_set3 3 rfl (by decide) RA1.out (.slice A' n' c') (.int .i64 Sa) (.bool Ca')) (.slice B' m' k') (.int .i64 Sb) (.bool Cb')) (.int .i64 V) (.bool OK) (.slice At nt ct)).drew
  have R2F := Lib.hid (((OW1.out.set3 3 rfl (.slice A' n' c') (.int .i64 Sa) (.bool Ca')).set3 4 rfl (.slice B' m' k') (.int .i64 Sb) (.bool Cb')).row_set3 5 rfl (by decide) ((OW1.out.set3 3 rfl (.slice A' n' c') (.int .i64 Sa) (.bool Ca')).row_set3 4 rfl (by decide) (OW1.out.row_set3 3 rfl (by decide) RB1.out (.slice A' n' c') (.int .i64 Sa) (.bool Ca')) (.slice B' m' k') (.int .i64 Sb) (.bool Cb')) (.int .i64 V) (.bool OK) (.slice At nt ct)).drew
  have RTF := Lib.hid (((OW1.out.set3 3 rfl (.slice A' n' c') (.int .i64 Sa) (.bool Ca')).set3 4 rfl (.slice B' m' k') (.int .i64 Sb) (.bool Cb')).row_set3 5 rfl (by decide) ((OW1.out.set3 3 rfl (.slice A' n' c') (.int .i64 Sa) (.bool Ca')).row_set3 4 rfl (by decide) (OW1.out.row_set3 3 rfl (by decide) RT1.out (.slice A' n' c') (.int .i64 Sa) (.bool Ca')) (.slice B' m' k') (.int .i64 Sb) (.bool Cb')) (.int .i64 V) (.bool OK) (.slice At nt ct)).drew
  go_region
  go_wp2_with fail
  have e0 := blk3_0 (OWF.out.get 3 rfl)
  have e1 := blk3_1 (OWF.out.get 3 rfl)
  have e2 := blk3_2 (OWF.out.get 3 rfl)
  have g0 := blk3_0 (OWF.out.get 4 rfl)
  have g1 := blk3_1 (OWF.out.get 4 rfl)
  have g2 := blk3_2 (OWF.out.get 4 rfl)
  have i0 := blk3_0 (OWF.out.get 5 rfl)
  have i1 := blk3_1 (OWF.out.get 5 rfl)
  have i2 := blk3_2 (OWF.out.get 5 rfl)
  exact bodyPost_ret (v := .tuple #[.agg #[.slice A' n' c', .int .i64 Sa, .bool Ca'], .agg #[.slice B' m' k', .int .i64 Sb, .bool Cb'], .agg #[.int .i64 V, .bool OK, .slice At nt ct]]) (by simp [results, Try.results17, go_sem, e0, e1, e2, g0, g1, g2, i0, i1, i2]) rfl ⟨_, _, _, _, _, _, _, _, _, rfl, R1F.out, R2F.out, RTF.out, OWF.out.hb⟩

theorem rgo_any {Sa Sb : Nat} {two : Bool} {d v : Int} {La : List Int} {Ca : Bool} {Lb : List Int} {Cb : Bool} {La' : List Int} {Ca' : Bool} {Lb' : List Int} {Cb' : Bool} {V : Int} {OK : Bool} {T : List Int} (hs : TwoR Sa Sb two d v La Ca Lb Cb La' Ca' Lb' Cb' V OK T) (hSa : Sa ≤ 4096) (hSb : Sb ≤ 4096) (hLa : La.length ≤ Sa) (hLb : Lb.length ≤ Sb) (A : Option Addr) (n c : Nat) (B : Option Addr) (m k : Nat) (w : World) (ra : RRow w A n c La) (rb : RRow w B m k Lb) :
    Calls Try.prog 17 #[.agg #[.slice A n c, .int .i64 Sa, .bool Ca], .agg #[.slice B m k, .int .i64 Sb, .bool Cb], .agg #[.int .i64 d, .bool two, .int .i64 v]] w (GoPost w Sa Sb La' Ca' Lb' Cb' V OK T) := by
  cases two with
  | true => exact rgo_second A n c Sa Ca La B m k Sb Cb Lb v d _ _ _ _ _ _ _ hs hSa hSb hLb w ra rb
  | false => exact rgo_first hs hSa hSb hLa A n c B m k w ra rb
end Go.Proofs.Ytohlcopnifmjoac
