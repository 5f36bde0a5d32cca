/- bus: one step of the program's two rows. -/
import Derived.Test.YtohlcopnifmjoacMove
namespace Go.Proofs.Ytohlcopnifmjoac
open Go.RowKit

/-- inside a step: its own copy of what it is to do, and what it will tell -/
structure DS (w W : World) (s q : Nat) (d v : Int) (two : Bool) : Prop where
  ks : Blk W s 47 #[.int .i64 d, .bool two, .int .i64 v]
  kq : Blk W q 44 #[.int .i64 0, .bool false, .slice none 0 0]
  hs : w.heap.size ≤ s
  hq : w.heap.size ≤ q
  hne : s ≠ q
  hb : Below w.heap.size w W
theorem ds_new (w : World) (d v : Int) (two : Bool) : DS w ((w.alloc (.cells #[.int .i64 d, .bool two, .int .i64 v] 47)).alloc (.cells #[.int .i64 0, .bool false, .slice none 0 0] 44)) w.heap.size (w.heap.size + 1) d v two := by
  have h1 := Blk.new w 47 #[.int .i64 d, .bool two, .int .i64 v]
  have h2 := Blk.new (w.alloc (.cells #[.int .i64 d, .bool two, .int .i64 v] 47)) 44 #[.int .i64 0, .bool false, .slice none 0 0]
  rw [World.size_alloc] at h2
  exact ⟨h1.below ((Below.refl _ _).alloc (Nat.le_refl _) _) h1.lt, h2, Nat.le_refl _, Nat.le_succ _, by omega, ((Below.refl _ _).alloc (Nat.le_refl _) _).alloc (by simp) _⟩
def DoPost (w : World) (x c d Sa : Nat) (La' : List Int) (Ca' : Bool) (x' c' d' Sb : Nat) (Lb' : List Int) (Cb' : Bool) (V : Int) (OK : Bool) (T : List Int) (e : Ending) (w' : World) : Prop :=
  ∃ At nt ct, e = .returned (.agg #[.int .i64 V, .bool OK, .slice At nt ct]) ∧ RRow w' At nt ct T ∧ Two w' x c d Sa La' Ca' x' c' d' Sb Lb' Cb' ∧ Fr (OT c d c' d') w w'
section
variable {w W w1 : World} {s q : Nat} {d v : Int} {two : Bool} {x c e Sa x' c' e' Sb : Nat} {La Lb La' Lb' : List Int} {Ca Cb Ca' Cb' : Bool}
theorem OT.lt (h : Two w x c e Sa La Ca x' c' e' Sb Lb Cb) {k : Nat} (hk : OT c e c' e' k) : k < w.heap.size := by
  rcases hk with rfl | rfl | rfl | rfl
  · exact h.qa.clt
  · exact h.qa.dlt
  · exact h.qb.clt
  · exact h.qb.dlt
theorem DS.over (D : DS w W s q d v two) (h : Two w x c e Sa La Ca x' c' e' Sb Lb Cb) (hf : Fr (OT c e c' e') W w1) : Blk w1 q 44 #[.int .i64 0, .bool false, .slice none 0 0] :=
  D.kq.fr hf fun hk => by have := OT.lt h hk; have := D.hq; omega
theorem DS.done (D : DS w W s q d v two) (h : Two w x c e Sa La Ca x' c' e' Sb Lb Cb) (hf : Fr (OT c e c' e') W w1) (h1 : Two w1 x c e Sa La' Ca' x' c' e' Sb Lb' Cb')
    {At : Option Addr} {nt ct : Nat} {T : List Int} (R : RRow w1 At nt ct T) (V OK L : Value) :
    Blk (((w1.setCell ⟨q, 0, none⟩ V).setCell ⟨q, 1, none⟩ OK).setCell ⟨q, 2, none⟩ L) q 44 #[V, OK, L] ∧ RRow (((w1.setCell ⟨q, 0, none⟩ V).setCell ⟨q, 1, none⟩ OK).setCell ⟨q, 2, none⟩ L) At nt ct T ∧
    Two (((w1.setCell ⟨q, 0, none⟩ V).setCell ⟨q, 1, none⟩ OK).setCell ⟨q, 2, none⟩ L) x c e Sa La' Ca' x' c' e' Sb Lb' Cb' ∧ Fr (OT c e c' e') w (((w1.setCell ⟨q, 0, none⟩ V).setCell ⟨q, 1, none⟩ OK).setCell ⟨q, 2, none⟩ L) := by
  have k1 := D.over h hf
  have hq := D.hq
  have f0 : Fr (OT c e c' e') w w1 := (Fr.of_below D.hb).trans hf
  have g0 : Fr (fun k => k = q) w1 (((w1.setCell ⟨q, 0, none⟩ V).setCell ⟨q, 1, none⟩ OK).setCell ⟨q, 2, none⟩ L) := (((Fr.refl (O := fun k => k = q) (w := w1)).set_ (p := ⟨q, 0, none⟩) (.inl rfl) V).set_ (p := ⟨q, 1, none⟩) (.inl rfl) OK).set_ (p := ⟨q, 2, none⟩) (.inl rfl) L
  have a1 := h.qa.xlt
  have a2 := h.qa.clt
  have a3 := h.qa.dlt
  have a4 := h.qb.xlt
  have a5 := h.qb.clt
  have a6 := h.qb.dlt
  refine ⟨three_set k1 V OK L, ?_, h1.keep g0 (by omega) (by omega) (by omega) (by omega) (by omega) (by omega), ((f0.set_ (p := ⟨q, 0, none⟩) (.inr hq) V).set_ (p := ⟨q, 1, none⟩) (.inr hq) OK).set_ (p := ⟨q, 2, none⟩) (.inr hq) L⟩
  exact ((R.set_ k1 (by decide) 0 V).set_ (k1.set_ 0 V) (by decide) 1 OK).set_ ((k1.set_ 0 V).set_ 1 OK) (by decide) 2 L
end

set_option maxRecDepth 100000 in
set_option maxHeartbeats 2000000 in
theorem do_pop0 {x c e Sa x' c' e' Sb : Nat} {Lb : List Int} {Ca Cb : Bool} (v : Int) (w : World) (h : Two w x c e Sa [] Ca x' c' e' Sb Lb Cb) :
    Calls Try.prog 16 #[.pointer (some ⟨x, 0, none⟩), .pointer (some ⟨x', 0, none⟩), .agg #[.int .i64 1, .bool false, .int .i64 v]] w (DoPost w x c e Sa [] Ca x' c' e' Sb Lb Cb 0 false []) := by
  have ba := ((Below.refl w.heap.size w).alloc (Nat.le_refl _) (.cells #[.int .i64 1, .bool false, .int .i64 v] 47)).alloc (by simp) (.cells #[.int .i64 0, .bool false, .slice none 0 0] 44)
  have H := Lib.hid h
  have HT := Lib.hid (h.over ba)
  have DD := Lib.hid (ds_new w 1 v false)
  clear h ba
  go_enter Try.func16, Try.ntmps16
  go_upto_region 1 with (fail)
  generalize (w.alloc (.cells #[.int .i64 1, .bool false, .int .i64 v] 47)).alloc (.cells #[.int .i64 0, .bool false, .slice none 0 0] 44) = W at HT DD ⊢
  generalize w.heap.size + 1 = q at DD ⊢
  generalize w.heap.size = s at DD ⊢
  have s0 := blk3_0 DD.out.ks
  have s1 := blk3_1 DD.out.ks
  have s2 := blk3_2 DD.out.ks
  go_wp2_with fail
  refine (pop63_none _ x c e Sa Ca HT.out.qa).mono ?_
  rintro e1 w1 ⟨rfl, rfl⟩
  clear s0 s1 s2
  have K1 := Lib.hid (DD.out.over H.out (Fr.refl))
  have ⟨k2, r2, t2, f2⟩ := DD.out.done H.out (Fr.refl) HT.out (RRow.nil _) (.int .i64 0) (.bool false) (.slice none 0 0)
  have K2 := Lib.hid k2
  have R2 := Lib.hid r2
  have T2 := Lib.hid t2
  have F2 := Lib.hid f2
  clear k2 r2 t2 f2
  have q0 := blk3_0 K1.out
  have q1 := blk3_1 K1.out
  have q2 := blk3_2 K1.out
  have z0 := K1.out.frozen 0
  have z1 := K1.out.frozen 1
  have z2 := K1.out.frozen 2
  go_wp2_with fail
  have e0 := blk3_0 K2.out
  have e1 := blk3_1 K2.out
  have e2 := blk3_2 K2.out
  exact bodyPost_ret (v := .agg #[.int .i64 0, .bool false, .slice none 0 0]) (by simp [results, Try.results16, go_sem, e0, e1, e2]) rfl ⟨_, _, _, rfl, R2.out, T2.out, F2.out⟩

set_option maxRecDepth 100000 in
set_option maxHeartbeats 2000000 in
theorem do_pop1 {x c e Sa x' c' e' Sb : Nat} {Lb : List Int} {Ca Cb : Bool} (u : Int) (r : List Int) (v : Int) (w : World) (h : Two w x c e Sa (u :: r) Ca x' c' e' Sb Lb Cb) :
    Calls Try.prog 16 #[.pointer (some ⟨x, 0, none⟩), .pointer (some ⟨x', 0, none⟩), .agg #[.int .i64 1, .bool false, .int .i64 v]] w (DoPost w x c e Sa r Ca x' c' e' Sb Lb Cb u true []) := by
  have ba := ((Below.refl w.heap.size w).alloc (Nat.le_refl _) (.cells #[.int .i64 1, .bool false, .int .i64 v] 47)).alloc (by simp) (.cells #[.int .i64 0, .bool false, .slice none 0 0] 44)
  have H := Lib.hid h
  have HT := Lib.hid (h.over ba)
  have DD := Lib.hid (ds_new w 1 v false)
  clear h ba
  go_enter Try.func16, Try.ntmps16
  go_upto_region 1 with (fail)
  generalize (w.alloc (.cells #[.int .i64 1, .bool false, .int .i64 v] 47)).alloc (.cells #[.int .i64 0, .bool false, .slice none 0 0] 44) = W at HT DD ⊢
  generalize w.heap.size + 1 = q at DD ⊢
  generalize w.heap.size = s at DD ⊢
  have s0 := blk3_0 DD.out.ks
  have s1 := blk3_1 DD.out.ks
  have s2 := blk3_2 DD.out.ks
  go_wp2_with fail
  refine (pop63_some _ x c e Sa u (ints r) Ca HT.out.qa).mono ?_
  rintro e1 w1 ⟨rfl, hq1, hf1⟩
  have HT1 := Lib.hid (HT.out.opA hq1 hf1.chan1)
  have HF1 : Hid (Fr (OT c e c' e') W w1) := Lib.hid hf1.chan1.toA
  clear hq1 hf1
  clear s0 s1 s2
  have K1 := Lib.hid (DD.out.over H.out HF1.out)
  have ⟨k2, r2, t2, f2⟩ := DD.out.done H.out HF1.out HT1.out (RRow.nil _) (.int .i64 u) (.bool true) (.slice none 0 0)
  have K2 := Lib.hid k2
  have R2 := Lib.hid r2
  have T2 := Lib.hid t2
  have F2 := Lib.hid f2
  clear k2 r2 t2 f2
  have q0 := blk3_0 K1.out
  have q1 := blk3_1 K1.out
  have q2 := blk3_2 K1.out
  have z0 := K1.out.frozen 0
  have z1 := K1.out.frozen 1
  have z2 := K1.out.frozen 2
  go_wp2_with fail
  have e0 := blk3_0 K2.out
  have e1 := blk3_1 K2.out
  have e2 := blk3_2 K2.out
  exact bodyPost_ret (v := .agg #[.int .i64 u, .bool true, .slice none 0 0]) (by simp [results, Try.results16, go_sem, e0, e1, e2]) rfl ⟨_, _, _, rfl, R2.out, T2.out, F2.out⟩

set_option maxRecDepth 100000 in
set_option maxHeartbeats 2000000 in
theorem do_shut {x c e Sa x' c' e' Sb : Nat} {La Lb : List Int} {Ca Cb : Bool} (v : Int) (w : World) (h : Two w x c e Sa La Ca x' c' e' Sb Lb Cb) :
    Calls Try.prog 16 #[.pointer (some ⟨x, 0, none⟩), .pointer (some ⟨x', 0, none⟩), .agg #[.int .i64 2, .bool false, .int .i64 v]] w (DoPost w x c e Sa La true x' c' e' Sb Lb Cb 0 (!Ca) []) := by
  have ba := ((Below.refl w.heap.size w).alloc (Nat.le_refl _) (.cells #[.int .i64 2, .bool false, .int .i64 v] 47)).alloc (by simp) (.cells #[.int .i64 0, .bool false, .slice none 0 0] 44)
  have H := Lib.hid h
  have HT := Lib.hid (h.over ba)
  have DD := Lib.hid (ds_new w 2 v false)
  clear h ba
  go_enter Try.func16, Try.ntmps16
  go_upto_region 1 with (fail)
  generalize (w.alloc (.cells #[.int .i64 2, .bool false, .int .i64 v] 47)).alloc (.cells #[.int .i64 0, .bool false, .slice none 0 0] 44) = W at HT DD ⊢
  generalize w.heap.size + 1 = q at DD ⊢
  generalize w.heap.size = s at DD ⊢
  have s0 := blk3_0 DD.out.ks
  have s1 := blk3_1 DD.out.ks
  have s2 := blk3_2 DD.out.ks
  go_wp2_with fail
  refine (close63_any _ x c e Sa _ Ca HT.out.qa).mono ?_
  rintro e1 w1 ⟨rfl, hq1, hf1⟩
  have HT1 := Lib.hid (HT.out.opA hq1 hf1.chan2)
  have HF1 : Hid (Fr (OT c e c' e') W w1) := Lib.hid hf1.chan2.toA
  clear hq1 hf1
  clear s0 s1 s2
  have K1 := Lib.hid (DD.out.over H.out HF1.out)
  have ⟨k2, r2, t2, f2⟩ := DD.out.done H.out HF1.out HT1.out (RRow.nil _) (.int .i64 0) (.bool (!Ca)) (.slice none 0 0)
  have K2 := Lib.hid k2
  have R2 := Lib.hid r2
  have T2 := Lib.hid t2
  have F2 := Lib.hid f2
  clear k2 r2 t2 f2
  have q0 := blk3_0 K1.out
  have q1 := blk3_1 K1.out
  have q2 := blk3_2 K1.out
  have z0 := K1.out.frozen 0
  have z1 := K1.out.frozen 1
  have z2 := K1.out.frozen 2
  go_wp2_with fail
  have e0 := blk3_0 K2.out
  have e1 := blk3_1 K2.out
  have e2 := blk3_2 K2.out
  exact bodyPost_ret (v := .agg #[.int .i64 0, .bool (!Ca), .slice none 0 0]) (by simp [results, Try.results16, go_sem, e0, e1, e2]) rfl ⟨_, _, _, rfl, R2.out, T2.out, F2.out⟩

set_option maxRecDepth 100000 in
set_option maxHeartbeats 2000000 in
theorem do_drain {x c e Sa x' c' e' Sb : Nat} {La Lb : List Int} {Ca Cb : Bool} (hl : La.length ≤ 4096) (v : Int) (w : World) (h : Two w x c e Sa La Ca x' c' e' Sb Lb Cb) :
    Calls Try.prog 16 #[.pointer (some ⟨x, 0, none⟩), .pointer (some ⟨x', 0, none⟩), .agg #[.int .i64 3, .bool false, .int .i64 v]] w (DoPost w x c e Sa [] Ca x' c' e' Sb Lb Cb 0 false La) := by
  have ba := ((Below.refl w.heap.size w).alloc (Nat.le_refl _) (.cells #[.int .i64 3, .bool false, .int .i64 v] 47)).alloc (by simp) (.cells #[.int .i64 0, .bool false, .slice none 0 0] 44)
  have H := Lib.hid h
  have HT := Lib.hid (h.over ba)
  have DD := Lib.hid (ds_new w 3 v false)
  clear h ba
  go_enter Try.func16, Try.ntmps16
  go_upto_region 1 with (fail)
  generalize (w.alloc (.cells #[.int .i64 3, .bool false, .int .i64 v] 47)).alloc (.cells #[.int .i64 0, .bool false, .slice none 0 0] 44) = W at HT DD ⊢
  generalize w.heap.size + 1 = q at DD ⊢
  generalize w.heap.size = s at DD ⊢
  have s0 := blk3_0 DD.out.ks
  have s1 := blk3_1 DD.out.ks
  have s2 := blk3_2 DD.out.ks
  go_wp2_with fail
  refine (drain63_any _ x c e Sa La Ca hl HT.out.qa).mono ?_
  rintro e1 w1 ⟨A1, c1, rfl, hr1, hq1, hf1⟩
  have HT1 := Lib.hid (HT.out.opA (L1 := []) hq1 hf1.chan1)
  have HF1 : Hid (Fr (OT c e c' e') W w1) := Lib.hid hf1.chan1.toA
  have HR1 := Lib.hid hr1
  clear hq1 hf1 hr1
  clear s0 s1 s2
  have K1 := Lib.hid (DD.out.over H.out HF1.out)
  have ⟨k2, r2, t2, f2⟩ := DD.out.done H.out HF1.out HT1.out HR1.out (.int .i64 0) (.bool false) (.slice A1 La.length c1)
  have K2 := Lib.hid k2
  have R2 := Lib.hid r2
  have T2 := Lib.hid t2
  have F2 := Lib.hid f2
  clear k2 r2 t2 f2
  have q0 := blk3_0 K1.out
  have q1 := blk3_1 K1.out
  have q2 := blk3_2 K1.out
  have z0 := K1.out.frozen 0
  have z1 := K1.out.frozen 1
  have z2 := K1.out.frozen 2
  go_wp2_with fail
  have e0 := blk3_0 K2.out
  have e1 := blk3_1 K2.out
  have e2 := blk3_2 K2.out
  exact bodyPost_ret (v := .agg #[.int .i64 0, .bool false, .slice A1 La.length c1]) (by simp [results, Try.results16, go_sem, e0, e1, e2]) rfl ⟨_, _, _, rfl, R2.out, T2.out, F2.out⟩

set_option maxRecDepth 100000 in
set_option maxHeartbeats 2000000 in
theorem do_push1 {x c e Sa x' c' e' Sb : Nat} {La Lb : List Int} {Cb : Bool} (d : Int) (h1 : d ≠ 1) (h2 : d ≠ 2) (h3 : d ≠ 3) (h4 : d ≠ 4) (h5 : d ≠ 5) (hl : La.length < Sa) (v : Int) (w : World) (h : Two w x c e Sa La false x' c' e' Sb Lb Cb) :
    Calls Try.prog 16 #[.pointer (some ⟨x, 0, none⟩), .pointer (some ⟨x', 0, none⟩), .agg #[.int .i64 d, .bool false, .int .i64 v]] w (DoPost w x c e Sa (La ++ [v]) false x' c' e' Sb Lb Cb 0 true []) := by
  have d1 : (d == 1) = false := by rw [beq_eq_false_iff_ne]; exact h1
  have d2 : (d == 2) = false := by rw [beq_eq_false_iff_ne]; exact h2
  have d3 : (d == 3) = false := by rw [beq_eq_false_iff_ne]; exact h3
  have d4 : (d == 4) = false := by rw [beq_eq_false_iff_ne]; exact h4
  have d5 : (d == 5) = false := by rw [beq_eq_false_iff_ne]; exact h5
  clear h1 h2 h3 h4 h5
  have ba := ((Below.refl w.heap.size w).alloc (Nat.le_refl _) (.cells #[.int .i64 d, .bool false, .int .i64 v] 47)).alloc (by simp) (.cells #[.int .i64 0, .bool false, .slice none 0 0] 44)
  have H := Lib.hid h
  have HT := Lib.hid (h.over ba)
  have DD := Lib.hid (ds_new w d v false)
  clear h ba
  go_enter Try.func16, Try.ntmps16
  go_upto_region 1 with (fail)
  generalize (w.alloc (.cells #[.int .i64 d, .bool false, .int .i64 v] 47)).alloc (.cells #[.int .i64 0, .bool false, .slice none 0 0] 44) = W at HT DD ⊢
  generalize w.heap.size + 1 = q at DD ⊢
  generalize w.heap.size = s at DD ⊢
  have s0 := blk3_0 DD.out.ks
  have s1 := blk3_1 DD.out.ks
  have s2 := blk3_2 DD.out.ks
  go_wp2_with fail
  refine (push63_any _ x c e Sa _ false v HT.out.qa true (ints (La ++ [v])) (.inl ⟨rfl, rfl, by rw [ints_length]; exact hl, (ints_append La [v]).symm⟩)).mono ?_
  rintro e1 w1 ⟨rfl, hq1, hf1⟩
  have HT1 := Lib.hid (HT.out.opA hq1 hf1.chan1)
  have HF1 : Hid (Fr (OT c e c' e') W w1) := Lib.hid hf1.chan1.toA
  clear hq1 hf1
  clear s0 s1 s2
  have K1 := Lib.hid (DD.out.over H.out HF1.out)
  have ⟨k2, r2, t2, f2⟩ := DD.out.done H.out HF1.out HT1.out (RRow.nil _) (.int .i64 0) (.bool true) (.slice none 0 0)
  have K2 := Lib.hid k2
  have R2 := Lib.hid r2
  have T2 := Lib.hid t2
  have F2 := Lib.hid f2
  clear k2 r2 t2 f2
  have q0 := blk3_0 K1.out
  have q1 := blk3_1 K1.out
  have q2 := blk3_2 K1.out
  have z0 := K1.out.frozen 0
  have z1 := K1.out.frozen 1
  have z2 := K1.out.frozen 2
  go_wp2_with fail
  have e0 := blk3_0 K2.out
  have e1 := blk3_1 K2.out
  have e2 := blk3_2 K2.out
  exact bodyPost_ret (v := .agg #[.int .i64 0, .bool true, .slice none 0 0]) (by simp [results, Try.results16, go_sem, e0, e1, e2]) rfl ⟨_, _, _, rfl, R2.out, T2.out, F2.out⟩

set_option maxRecDepth 100000 in
set_option maxHeartbeats 2000000 in
theorem do_push0 {x c e Sa x' c' e' Sb : Nat} {La Lb : List Int} {Ca Cb : Bool} (d : Int) (h1 : d ≠ 1) (h2 : d ≠ 2) (h3 : d ≠ 3) (h4 : d ≠ 4) (h5 : d ≠ 5) (hl : Ca = true ∨ Sa ≤ La.length) (v : Int) (w : World) (h : Two w x c e Sa La Ca x' c' e' Sb Lb Cb) :
    Calls Try.prog 16 #[.pointer (some ⟨x, 0, none⟩), .pointer (some ⟨x', 0, none⟩), .agg #[.int .i64 d, .bool false, .int .i64 v]] w (DoPost w x c e Sa La Ca x' c' e' Sb Lb Cb 0 false []) := by
  have d1 : (d == 1) = false := by rw [beq_eq_false_iff_ne]; exact h1
  have d2 : (d == 2) = false := by rw [beq_eq_false_iff_ne]; exact h2
  have d3 : (d == 3) = false := by rw [beq_eq_false_iff_ne]; exact h3
  have d4 : (d == 4) = false := by rw [beq_eq_false_iff_ne]; exact h4
  have d5 : (d == 5) = false := by rw [beq_eq_false_iff_ne]; exact h5
  clear h1 h2 h3 h4 h5
  have ba := ((Below.refl w.heap.size w).alloc (Nat.le_refl _) (.cells #[.int .i64 d, .bool false, .int .i64 v] 47)).alloc (by simp) (.cells #[.int .i64 0, .bool false, .slice none 0 0] 44)
  have H := Lib.hid h
  have HT := Lib.hid (h.over ba)
  have DD := Lib.hid (ds_new w d v false)
  clear h ba
  go_enter Try.func16, Try.ntmps16
  go_upto_region 1 with (fail)
  generalize (w.alloc (.cells #[.int .i64 d, .bool false, .int .i64 v] 47)).alloc (.cells #[.int .i64 0, .bool false, .slice none 0 0] 44) = W at HT DD ⊢
  generalize w.heap.size + 1 = q at DD ⊢
  generalize w.heap.size = s at DD ⊢
  have s0 := blk3_0 DD.out.ks
  have s1 := blk3_1 DD.out.ks
  have s2 := blk3_2 DD.out.ks
  have HL := Lib.hid hl
  clear hl
  go_wp2_with fail
  refine (push63_any _ x c e Sa _ Ca v HT.out.qa false (ints La) (.inr ⟨rfl, by rw [ints_length]; exact HL.out, rfl⟩)).mono ?_
  rintro e1 w1 ⟨rfl, hq1, hf1⟩
  have HT1 := Lib.hid (HT.out.opA hq1 hf1.chan1)
  have HF1 : Hid (Fr (OT c e c' e') W w1) := Lib.hid hf1.chan1.toA
  clear hq1 hf1
  clear s0 s1 s2
  have K1 := Lib.hid (DD.out.over H.out HF1.out)
  have ⟨k2, r2, t2, f2⟩ := DD.out.done H.out HF1.out HT1.out (RRow.nil _) (.int .i64 0) (.bool false) (.slice none 0 0)
  have K2 := Lib.hid k2
  have R2 := Lib.hid r2
  have T2 := Lib.hid t2
  have F2 := Lib.hid f2
  clear k2 r2 t2 f2
  have q0 := blk3_0 K1.out
  have q1 := blk3_1 K1.out
  have q2 := blk3_2 K1.out
  have z0 := K1.out.frozen 0
  have z1 := K1.out.frozen 1
  have z2 := K1.out.frozen 2
  go_wp2_with fail
  have e0 := blk3_0 K2.out
  have e1 := blk3_1 K2.out
  have e2 := blk3_2 K2.out
  exact bodyPost_ret (v := .agg #[.int .i64 0, .bool false, .slice none 0 0]) (by simp [results, Try.results16, go_sem, e0, e1, e2]) rfl ⟨_, _, _, rfl, R2.out, T2.out, F2.out⟩

set_option maxRecDepth 100000 in
set_option maxHeartbeats 2000000 in
theorem do_move {x c e Sa x' c' e' Sb : Nat} {La Lb : List Int} {Ca Cb : Bool} (hl : La.length ≤ 4096) (m : Nat) (hm : m = mv Cb Sb La.length Lb.length) (v : Int) (w : World) (h : Two w x c e Sa La Ca x' c' e' Sb Lb Cb) :
    Calls Try.prog 16 #[.pointer (some ⟨x, 0, none⟩), .pointer (some ⟨x', 0, none⟩), .agg #[.int .i64 4, .bool false, .int .i64 v]] w (DoPost w x c e Sa (La.drop m) Ca x' c' e' Sb (Lb ++ La.take m) Cb m false []) := by
  have HM := Lib.hid hm
  clear hm
  have ba := ((Below.refl w.heap.size w).alloc (Nat.le_refl _) (.cells #[.int .i64 4, .bool false, .int .i64 v] 47)).alloc (by simp) (.cells #[.int .i64 0, .bool false, .slice none 0 0] 44)
  have H := Lib.hid h
  have HT := Lib.hid (h.over ba)
  have DD := Lib.hid (ds_new w 4 v false)
  clear h ba
  go_enter Try.func16, Try.ntmps16
  go_upto_region 1 with (fail)
  generalize (w.alloc (.cells #[.int .i64 4, .bool false, .int .i64 v] 47)).alloc (.cells #[.int .i64 0, .bool false, .slice none 0 0] 44) = W at HT DD ⊢
  generalize w.heap.size + 1 = q at DD ⊢
  generalize w.heap.size = s at DD ⊢
  have s0 := blk3_0 DD.out.ks
  have s1 := blk3_1 DD.out.ks
  have s2 := blk3_2 DD.out.ks
  go_wp2_with fail
  refine (move63_any HT.out hl m HM.out).mono ?_
  rintro e1 w1 ⟨rfl, ht1, hf1⟩
  have HT1 := Lib.hid ht1
  have HF1 := Lib.hid hf1
  clear ht1 hf1
  clear s0 s1 s2
  have K1 := Lib.hid (DD.out.over H.out HF1.out)
  have ⟨k2, r2, t2, f2⟩ := DD.out.done H.out HF1.out HT1.out (RRow.nil _) (.int .i64 m) (.bool false) (.slice none 0 0)
  have K2 := Lib.hid k2
  have R2 := Lib.hid r2
  have T2 := Lib.hid t2
  have F2 := Lib.hid f2
  clear k2 r2 t2 f2
  have q0 := blk3_0 K1.out
  have q1 := blk3_1 K1.out
  have q2 := blk3_2 K1.out
  have z0 := K1.out.frozen 0
  have z1 := K1.out.frozen 1
  have z2 := K1.out.frozen 2
  go_wp2_with fail
  have e0 := blk3_0 K2.out
  have e1 := blk3_1 K2.out
  have e2 := blk3_2 K2.out
  exact bodyPost_ret (v := .agg #[.int .i64 m, .bool false, .slice none 0 0]) (by simp [results, Try.results16, go_sem, e0, e1, e2]) rfl ⟨_, _, _, rfl, R2.out, T2.out, F2.out⟩

set_option maxRecDepth 100000 in
set_option maxHeartbeats 2000000 in
theorem do_same {x c e Sa x' c' e' Sb : Nat} {La Lb : List Int} {Ca Cb : Bool} (v : Int) (w : World) (h : Two w x c e Sa La Ca x' c' e' Sb Lb Cb) :
    Calls Try.prog 16 #[.pointer (some ⟨x, 0, none⟩), .pointer (some ⟨x', 0, none⟩), .agg #[.int .i64 5, .bool false, .int .i64 v]] w (DoPost w x c e Sa La Ca x' c' e' Sb Lb Cb 0 false []) := by
  have ba := ((Below.refl w.heap.size w).alloc (Nat.le_refl _) (.cells #[.int .i64 5, .bool false, .int .i64 v] 47)).alloc (by simp) (.cells #[.int .i64 0, .bool false, .slice none 0 0] 44)
  have H := Lib.hid h
  have HT := Lib.hid (h.over ba)
  have DD := Lib.hid (ds_new w 5 v false)
  clear h ba
  go_enter Try.func16, Try.ntmps16
  go_upto_region 1 with (fail)
  generalize (w.alloc (.cells #[.int .i64 5, .bool false, .int .i64 v] 47)).alloc (.cells #[.int .i64 0, .bool false, .slice none 0 0] 44) = W at HT DD ⊢
  generalize w.heap.size + 1 = q at DD ⊢
  generalize w.heap.size = s at DD ⊢
  have s0 := blk3_0 DD.out.ks
  have s1 := blk3_1 DD.out.ks
  have s2 := blk3_2 DD.out.ks
  go_wp2_with fail
  refine (move63_same x _).mono ?_
  rintro e1 w1 ⟨rfl, rfl⟩
  clear s0 s1 s2
  have K1 := Lib.hid (DD.out.over H.out (Fr.refl))
  have ⟨k2, r2, t2, f2⟩ := DD.out.done H.out (Fr.refl) HT.out (RRow.nil _) (.int .i64 0) (.bool false) (.slice none 0 0)
  have K2 := Lib.hid k2
  have R2 := Lib.hid r2
  have T2 := Lib.hid t2
  have F2 := Lib.hid f2
  clear k2 r2 t2 f2
  have q0 := blk3_0 K1.out
  have q1 := blk3_1 K1.out
  have q2 := blk3_2 K1.out
  have z0 := K1.out.frozen 0
  have z1 := K1.out.frozen 1
  have z2 := K1.out.frozen 2
  go_wp2_with fail
  have e0 := blk3_0 K2.out
  have e1 := blk3_1 K2.out
  have e2 := blk3_2 K2.out
  exact bodyPost_ret (v := .agg #[.int .i64 0, .bool false, .slice none 0 0]) (by simp [results, Try.results16, go_sem, e0, e1, e2]) rfl ⟨_, _, _, rfl, R2.out, T2.out, F2.out⟩

theorem do_first {Sa Sb : Nat} {d v : Int} {La : List Int} {Ca : Bool} {Lb : List Int} {Cb : Bool} {La' : List Int} {Ca' : Bool} {Lb' : List Int} {Cb' : Bool} {V : Int} {OK : Bool} {T : List Int} (hs : StepR Sa Sb d v La Ca Lb Cb La' Ca' Lb' Cb' V OK T) (hL : La.length ≤ 4096) {x c e x' c' e' : Nat} (w : World) (h : Two w x c e Sa La Ca x' c' e' Sb Lb Cb) :
    Calls Try.prog 16 #[.pointer (some ⟨x, 0, none⟩), .pointer (some ⟨x', 0, none⟩), .agg #[.int .i64 d, .bool false, .int .i64 v]] w (DoPost w x c e Sa La' Ca' x' c' e' Sb Lb' Cb' V OK T) := by
  cases hs with
  | one _ _ h4 h5 hs =>
    cases hs with
    | pop0 => exact do_pop0 v w h
    | pop1 => exact do_pop1 _ _ v w h
    | shut => exact do_shut v w h
    | drain => exact do_drain hL v w h
    | push1 _ _ _ h1 h2 h3 _ _ hl => exact do_push1 d h1 h2 h3 h4 h5 hl v w h
    | push0 _ _ _ _ h1 h2 h3 _ _ hl => exact do_push0 d h1 h2 h3 h4 h5 hl v w h
  | move _ _ _ _ _ j hj => exact do_move hL j hj v w h
  | same => exact do_same v w h

set_option maxRecDepth 100000 in
set_option maxHeartbeats 2000000 in
theorem do_second {Sa Sb : Nat} {d v : Int} {La : List Int} {Ca : Bool} {Lb : List Int} {Cb : Bool} {La' : List Int} {Ca' : Bool} {Lb' : List Int} {Cb' : Bool} {V : Int} {OK : Bool} {T : List Int} (hs : StepR Sb Sa d v Lb Cb La Ca Lb' Cb' La' Ca' V OK T) (hL : Lb.length ≤ 4096) {x c e x' c' e' : Nat} (w : World) (h : Two w x c e Sa La Ca x' c' e' Sb Lb Cb) :
    Calls Try.prog 16 #[.pointer (some ⟨x, 0, none⟩), .pointer (some ⟨x', 0, none⟩), .agg #[.int .i64 d, .bool true, .int .i64 v]] w (DoPost w x c e Sa La' Ca' x' c' e' Sb Lb' Cb' V OK T) := by
  have HS := Lib.hid hs
  clear hs
  have ba := ((Below.refl w.heap.size w).alloc (Nat.le_refl _) (.cells #[.int .i64 d, .bool true, .int .i64 v] 47)).alloc (by simp) (.cells #[.int .i64 0, .bool false, .slice none 0 0] 44)
  have H := Lib.hid h
  have HT := Lib.hid (h.over ba)
  have DD := Lib.hid (ds_new w d v true)
  clear h ba
  go_enter Try.func16, Try.ntmps16
  go_upto_region 1 with (fail)
  generalize (w.alloc (.cells #[.int .i64 d, .bool true, .int .i64 v] 47)).alloc (.cells #[.int .i64 0, .bool false, .slice none 0 0] 44) = W at HT DD ⊢
  generalize w.heap.size + 1 = q at DD ⊢
  generalize w.heap.size = s at DD ⊢
  have s0 := blk3_0 DD.out.ks
  have s1 := blk3_1 DD.out.ks
  have s2 := blk3_2 DD.out.ks
  have sf1 := DD.out.ks.frozen 1
  have hsq := DD.out.hne
  have hks := DD.out.ks.set_ 1 (.bool false)
  have hkq := DD.out.kq.far (p := ⟨s, 1, none⟩) (fun e => DD.out.hne e.symm) (.bool false)
  have hbs := DD.out.hb.setCell (p := ⟨s, 1, none⟩) DD.out.hs (.bool false)
  have g0 : Fr (fun k => k = s) W (W.setCell ⟨s, 1, none⟩ (.bool false)) := (Fr.refl (O := fun k => k = s) (w := W)).set_ (p := ⟨s, 1, none⟩) (.inl rfl) (.bool false)
  have l1 := H.out.qa.xlt
  have l2 := H.out.qa.clt
  have l3 := H.out.qa.dlt
  have l4 := H.out.qb.xlt
  have l5 := H.out.qb.clt
  have l6 := H.out.qb.dlt
  have l7 := DD.out.hs
  have HT2 := Lib.hid (HT.out.keep g0 (by omega) (by omega) (by omega) (by omega) (by omega) (by omega))
  have DD2 : Hid (DS w (W.setCell ⟨s, 1, none⟩ (.bool false)) s q d v false) := Lib.hid ⟨hks, hkq, DD.out.hs, DD.out.hq, DD.out.hne, hbs⟩
  clear hks hkq hbs g0 l1 l2 l3 l4 l5 l6 l7 hsq HT
  go_wp2_with fail
  refine (do_first HS.out hL _ HT2.out.swap).mono ?_
  rintro e1 w1 ⟨A1, n1, c1, rfl, hr1, ht1, hf1⟩
  have HT1 := Lib.hid ht1.swap
  have HF1 := Lib.hid hf1.flip
  have HR1 := Lib.hid hr1
  clear hr1 ht1 hf1 sf1 DD
  have DD := DD2
  clear DD2
  clear s0 s1 s2
  have K1 := Lib.hid (DD.out.over H.out HF1.out)
  have ⟨k2, r2, t2, f2⟩ := DD.out.done H.out HF1.out HT1.out HR1.out (.int .i64 V) (.bool OK) (.slice A1 n1 c1)
  have K2 := Lib.hid k2
  have R2 := Lib.hid r2
  have T2 := Lib.hid t2
  have F2 := Lib.hid f2
  clear k2 r2 t2 f2
  have q0 := blk3_0 K1.out
  have q1 := blk3_1 K1.out
  have q2 := blk3_2 K1.out
  have z0 := K1.out.frozen 0
  have z1 := K1.out.frozen 1
  have z2 := K1.out.frozen 2
  go_wp2_with fail
  have e0 := blk3_0 K2.out
  have e1 := blk3_1 K2.out
  have e2 := blk3_2 K2.out
  exact bodyPost_ret (v := .agg #[.int .i64 V, .bool OK, .slice A1 n1 c1]) (by simp [results, Try.results16, go_sem, e0, e1, e2]) rfl ⟨_, _, _, rfl, R2.out, T2.out, F2.out⟩

theorem do_any {Sa Sb : Nat} {two : Bool} {d v : Int} {La : List Int} {Ca : Bool} {Lb : List Int} {Cb : Bool} {La' : List Int} {Ca' : Bool} {Lb' : List Int} {Cb' : Bool} {V : Int} {OK : Bool} {T : List Int} (hs : TwoR Sa Sb two d v La Ca Lb Cb La' Ca' Lb' Cb' V OK T) (hLa : La.length ≤ 4096) (hLb : Lb.length ≤ 4096) {x c e x' c' e' : Nat} (w : World) (h : Two w x c e Sa La Ca x' c' e' Sb Lb Cb) :
    Calls Try.prog 16 #[.pointer (some ⟨x, 0, none⟩), .pointer (some ⟨x', 0, none⟩), .agg #[.int .i64 d, .bool two, .int .i64 v]] w (DoPost w x c e Sa La' Ca' x' c' e' Sb Lb' Cb' V OK T) := by
  cases two with
  | true => exact do_second hs hLb w h
  | false => exact do_first hs hLa w h
end Go.Proofs.Ytohlcopnifmjoac
