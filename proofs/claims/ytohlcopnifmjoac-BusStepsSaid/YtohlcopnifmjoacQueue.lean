/- bus: a row in memory; the functions that communicate (Closed, Push, Pop, Close), walked on the machine of one. -/
import Derived.Test.YtohlcopnifmjoacRows
import Derived.Test.YtohlcopnifmjoacWords
import Derived.WalkKit
import Derived.ProofKit
import Derived.WalkLawsBesides
import Derived.WalkSpells
import Derived.Outline
import Derived.Lib.Hide
import Derived.Deep.DeepMust
import Derived.Deep.QuietTactic
import Derived.BigQuiet
import Derived.Conc.LoneCalls
import Derived.Conc.LoneSelect
import Derived.Conc.LoneSelectN
namespace Go.Proofs.Ytohlcopnifmjoac
open Go.RowKit Go.Conc

/-- a call of a function whose contract is known -/
theorem lone_call {P : Program} {Q : Goroutine → World → Prop} {b : Frame} {a : Act} {k : List Item} {cs : List Frame} {w : World} {ops : Array Oper} {i : Nat} {rest : List Nat} {o : Oper} {f : FuncId} {fn : Func} {c : Code} {args : Array Operand} {ats : Array TypeId} {R : Value → World → Prop}
    (ho : ops[i]? = some o) (hw : Region.wanted o (yielded ops a.tmps) = true) (hk : b.kind ≠ .early) (hop : o.op = .call { callee := .value (.func f), args, argTypes := ats })
    (hf : P.funcs[f]? = some fn) (hname : (fn.name == "runtime.NumGoroutine") = false) (hb : fn.body = some c)
    (hc : Calls P f (args.map a.eval) w fun e w' => ∃ v, e = .returned v ∧ R v w')
    (h : ∀ v w', R v w' → LoneTo P Q (G (b.at (a.put ((ops[i]?).bind (·.dst)) v) (.inRegion ops rest :: k)) cs) w') :
    LoneTo P Q (G (b.at a (.inRegion ops (i :: rest) :: k)) cs) w := by
  obtain ⟨e, w', fr, ⟨v, rfl, hR⟩, hs, _, hl⟩ := hc (b.at a (.inRegion ops (i :: rest) :: k) :: cs)
  obtain ⟨g2, w2, hs2, hq⟩ := h v w' hR
  have hb' : fn.body.isNone = false := by rw [hb]; rfl
  have h1 : step P (solo (G (b.at a (.inRegion ops (i :: rest) :: k)) cs) w) = .next (solo (G (Frame.enter P f (args.map a.eval) .normal) (b.at a (.inRegion ops (i :: rest) :: k) :: cs)) w) :=
    step_solo_go rfl (stepG_enter ho hw hk (run_call_body hop hf hname hb'))
  have h2 := step_leave_returned (c := b.at a (.inRegion ops (i :: rest) :: k)) (cs := cs) hl
  rw [Frame.finish_at] at h2
  exact ⟨g2, w2, Steps.head h1 (Steps.trans hs (Steps.head h2 hs2)), hq⟩

theorem setChan_other (w : World) (c c' cap : Nat) (buf : Array Value) (closed : Bool) (s r : Nat) (tm : Bool) (h : c ≠ c') : (w.setChan c cap buf closed s r tm).heap[c']? = w.heap[c']? := by
  simp [World.setChan, Array.getElem?_setIfInBounds_ne h]
theorem blk0 {w : World} {g : Nat} {t : TypeId} {a b : Value} (h : Blk w g t #[a, b]) : w.cell? ⟨g, 0, none⟩ = some a := (h.cell 0).trans rfl
theorem blk1 {w : World} {g : Nat} {t : TypeId} {a b : Value} (h : Blk w g t #[a, b]) : w.cell? ⟨g, 1, none⟩ = some b := (h.cell 1).trans rfl

/-- a row: its struct in block x (type t), its two channels -/
structure QObj (t : TypeId) (w : World) (x c d cap : Nat) (buf : List Value) (cl : Bool) : Prop where
  hx : Blk w x t #[.chan (some c), .chan (some d)]
  hc : ∃ s r, w.heap[c]? = some (.chan cap buf.toArray false s r false)
  hd : w.heap[d]? = some (.chan 0 #[] cl 0 0 false)
  h1 : 1 ≤ cap

theorem ret_bool {a b : Bool} (h : a = b) : Ending.returned (.bool a) = Ending.returned (.bool b) := by rw [h]
theorem res0 (c : Nat) (z v : Value) (ok : Bool) : commResult #[rcase c z] .select ((0 : Nat) : Int) v ok = .tuple #[goInt 0, .bool ok, v] := by
  simp [commResult, rcase, List.zipIdx_cons]

set_option maxRecDepth 100000 in
theorem closed63_true (w : World) (x c d cap : Nat) (buf : List Value) (h : QObj 63 w x c d cap buf true) : Calls Try.prog 20 #[.pointer (some ⟨x, 0, none⟩)] w fun e w' => e = .returned (.bool true) ∧ w' = w := by
  have x1 := blk1 h.hx
  refine calls_of_loneTo fun cs => ?_
  have e : Frame.enter Try.prog 20 #[.pointer (some ⟨x, 0, none⟩)] .normal = (base 20).at ⟨#[.pointer (some ⟨x, 0, none⟩), undef, undef, undef, undef, undef, undef, undef, undef, undef, undef, undef], []⟩ [.code (Try.f20.body.getD .skip)] := by
    simp [Frame.enter, Frame.at, Try.func20, base, Try.f20]
  rw [e]
  refine LoneTo.goes (n := 60) ?_
  simp only [Try.f20, Option.getD_some]
  s_c stepG_seq
  s_reg
  s_op
  s_c stepG_region_end
  s_c stepG_seq
  s_c stepG_seq
  s_reg
  s_op
  s_op
  s_c stepG_region_end
  s_cond false
  s_c stepG_skip
  s_c stepG_seq
  s_reg
  s_op
  s_op
  s_op
  s_op
  s_c stepG_region_end
  s_c stepG_seq
  s_reg
  s_stop
  refine LoneTo.step (step_lone_select_recv_shut (c := d) (z := .agg #[]) (cap := 0) (s := 0) (r := 0) (tm := false)
    (stepG_comm (cases := #[rcase d (.agg #[])]) (blocking := false) (shape := .select) (w' := w) rfl rfl (by decide) (by simp [go_sem, execOp, rcase, Act.eval])) h.hd) ?_
  rw [Frame.finish_at]
  walk_nrm
  refine LoneTo.goes (n := 60) ?_
  s_op
  s_op
  s_c stepG_region_end
  s_c stepG_block
  s_cond true
  s_c stepG_seq
  s_reg
  s_op
  s_c stepG_region_end
  s_c stepG_ret'
  s_stop
  exact LoneTo.done ⟨.returned (.bool true), _, rfl, ⟨rfl, rfl⟩, rfl, rfl, rfl, rfl, _, Try.func20, by simp [results, Try.f20, Frame.at]⟩

set_option maxRecDepth 100000 in
theorem closed63_false (w : World) (x c d cap : Nat) (buf : List Value) (h : QObj 63 w x c d cap buf false) : Calls Try.prog 20 #[.pointer (some ⟨x, 0, none⟩)] w fun e w' => e = .returned (.bool false) ∧ w' = w := by
  have x1 := blk1 h.hx
  refine calls_of_loneTo fun cs => ?_
  have e : Frame.enter Try.prog 20 #[.pointer (some ⟨x, 0, none⟩)] .normal = (base 20).at ⟨#[.pointer (some ⟨x, 0, none⟩), undef, undef, undef, undef, undef, undef, undef, undef, undef, undef, undef], []⟩ [.code (Try.f20.body.getD .skip)] := by
    simp [Frame.enter, Frame.at, Try.func20, base, Try.f20]
  rw [e]
  refine LoneTo.goes (n := 60) ?_
  simp only [Try.f20, Option.getD_some]
  s_c stepG_seq
  s_reg
  s_op
  s_c stepG_region_end
  s_c stepG_seq
  s_c stepG_seq
  s_reg
  s_op
  s_op
  s_c stepG_region_end
  s_cond false
  s_c stepG_skip
  s_c stepG_seq
  s_reg
  s_op
  s_op
  s_op
  s_op
  s_c stepG_region_end
  s_c stepG_seq
  s_reg
  s_stop
  refine LoneTo.step (step_lone_select_default (c := d) (z := .agg #[]) (cap := 0) (s := 0) (r := 0) (tm := false)
    (stepG_comm (cases := #[rcase d (.agg #[])]) (blocking := false) (shape := .select) (w' := w) rfl rfl (by decide) (by simp [go_sem, execOp, rcase, Act.eval])) h.hd) ?_
  rw [Frame.finish_at]
  walk_nrm
  refine LoneTo.goes (n := 60) ?_
  s_op
  s_op
  s_c stepG_region_end
  s_c stepG_block
  s_cond false
  s_c stepG_seq
  s_reg
  s_op
  s_c stepG_region_end
  s_c stepG_ret'
  s_stop
  exact LoneTo.done ⟨.returned (.bool false), _, rfl, ⟨rfl, rfl⟩, rfl, rfl, rfl, rfl, _, Try.func20, by simp [results, Try.f20, Frame.at]⟩

theorem closed63_any (w : World) (x c d cap : Nat) (buf : List Value) (cl : Bool) (h : QObj 63 w x c d cap buf cl) : Calls Try.prog 20 #[.pointer (some ⟨x, 0, none⟩)] w fun e w' => e = .returned (.bool cl) ∧ w' = w := by
  cases cl with
  | true => exact closed63_true w x c d cap buf h
  | false => exact closed63_false w x c d cap buf h
set_option maxRecDepth 100000 in
theorem closed63_nil (w : World) : Calls Try.prog 20 #[.pointer none] w fun e w' => e = .returned (.bool true) ∧ w' = w := by
  refine calls_of_loneTo fun cs => ?_
  have e : Frame.enter Try.prog 20 #[.pointer none] .normal = (base 20).at ⟨#[.pointer none, undef, undef, undef, undef, undef, undef, undef, undef, undef, undef, undef], []⟩ [.code (Try.f20.body.getD .skip)] := by
    simp [Frame.enter, Frame.at, Try.func20, base, Try.f20]
  rw [e]
  refine LoneTo.goes (n := 60) ?_
  simp only [Try.f20, Option.getD_some]
  s_c stepG_seq
  s_reg
  s_op
  s_c stepG_region_end
  s_c stepG_seq
  s_c stepG_seq
  s_reg
  s_op
  s_op
  s_c stepG_region_end
  s_cond true
  s_c stepG_seq
  s_reg
  s_op
  s_c stepG_region_end
  s_c stepG_ret'
  s_stop
  exact LoneTo.done ⟨.returned (.bool true), _, rfl, ⟨rfl, rfl⟩, rfl, rfl, rfl, rfl, _, Try.func20, by simp [results, Try.f20, Frame.at]⟩

/-- what may turn: the blocks of O, and new ones -/
structure Fr (O : Nat → Prop) (w w' : World) : Prop where
  os : w'.os = w.os
  tape : w'.tape = w.tape
  output : w'.output = w.output
  size : w.heap.size ≤ w'.heap.size
  block : ∀ k, k < w.heap.size → ¬ O k → w'.heap[k]? = w.heap[k]?
section
variable {O : Nat → Prop} {w w' w'' : World} {B : Nat}
theorem Fr.refl : Fr O w w := ⟨rfl, rfl, rfl, Nat.le_refl _, fun _ _ _ => rfl⟩
theorem Fr.of_below (h : Below w.heap.size w w') : Fr O w w' := ⟨h.os, h.tape, h.output, h.size, fun k hk _ => h.block k hk⟩
theorem Fr.trans (h : Fr O w w') (h' : Fr O w' w'') : Fr O w w'' :=
  ⟨h'.os.trans h.os, h'.tape.trans h.tape, h'.output.trans h.output, Nat.le_trans h.size h'.size, fun k hk hO => (h'.block k (Nat.lt_of_lt_of_le hk h.size) hO).trans (h.block k hk hO)⟩
theorem Fr.below (h : Fr O w w') (hO : ∀ k, O k → B ≤ k) (hB : B ≤ w.heap.size) : Below B w w' :=
  ⟨h.os, h.tape, h.output, h.size, fun k hk => h.block k (by omega) (fun ho => by have := hO k ho; omega)⟩
theorem Fr.alloc (h : Fr O w w') (o : Obj) : Fr O w (w'.alloc o) := h.trans (Fr.of_below ((Below.refl _ _).alloc (Nat.le_refl _) _))
theorem Fr.chan (h : Fr O w w') {c : Nat} (hc : O c) (cap : Nat) (buf : Array Value) (cl : Bool) (s r : Nat) (tm : Bool) : Fr O w (w'.setChan c cap buf cl s r tm) :=
  ⟨h.os, h.tape, h.output, by rw [size_setChan]; exact h.size, fun k hk hO => (setChan_other w' c k cap buf cl s r tm (fun e => hO (e ▸ hc))).trans (h.block k hk hO)⟩
theorem Fr.set_ (h : Fr O w w') {p : Addr} (hp : O p.block ∨ w.heap.size ≤ p.block) (u : Value) : Fr O w (w'.setCell p u) :=
  ⟨h.os, h.tape, h.output, by simpa using h.size, fun k hk hO => (Below.heap_setCell w' p u k (fun e => by subst e; rcases hp with hp | hp; exact hO hp; omega)).trans (h.block k hk hO)⟩
end
theorem heap_lt {w : World} {k : Nat} {o : Obj} (h : w.heap[k]? = some o) : k < w.heap.size := by
  rcases Nat.lt_or_ge k w.heap.size with h' | h'
  · exact h'
  · rw [Array.getElem?_eq_none h'] at h; cases h
section
variable {t : TypeId} {w w' : World} {x c d cap : Nat} {buf : List Value} {cl : Bool}
theorem QObj.clt (h : QObj t w x c d cap buf cl) : c < w.heap.size := by obtain ⟨_, _, h⟩ := h.hc; exact heap_lt h
theorem QObj.dlt (h : QObj t w x c d cap buf cl) : d < w.heap.size := heap_lt h.hd
theorem QObj.xlt (h : QObj t w x c d cap buf cl) : x < w.heap.size := h.hx.lt
theorem QObj.cd (h : QObj t w x c d cap buf cl) : c ≠ d := by
  rintro rfl
  obtain ⟨s, r, hc⟩ := h.hc
  have hd := h.hd
  rw [hc] at hd
  injection hd with hd
  injection hd with hd
  have := h.h1
  omega
theorem QObj.xc (h : QObj t w x c d cap buf cl) : x ≠ c := by
  rintro rfl
  obtain ⟨s, r, hc⟩ := h.hc
  have hx := h.hx
  unfold Blk at hx
  rw [hc] at hx
  injection hx with hx
  cases hx
theorem QObj.xd (h : QObj t w x c d cap buf cl) : x ≠ d := by
  rintro rfl
  have hd := h.hd
  have hx := h.hx
  unfold Blk at hx
  rw [hd] at hx
  injection hx with hx
  cases hx
theorem QObj.keep (h : QObj t w x c d cap buf cl) (h1 : w'.heap[x]? = w.heap[x]?) (h2 : w'.heap[c]? = w.heap[c]?) (h3 : w'.heap[d]? = w.heap[d]?) : QObj t w' x c d cap buf cl :=
  ⟨h1.trans h.hx, by obtain ⟨s, r, hc⟩ := h.hc; exact ⟨s, r, h2.trans hc⟩, h3.trans h.hd, h.h1⟩
theorem QObj.over (h : QObj t w x c d cap buf cl) (hb : Below w.heap.size w w') : QObj t w' x c d cap buf cl := h.keep (hb.block _ h.xlt) (hb.block _ h.clt) (hb.block _ h.dlt)
theorem QObj.fr {O : Nat → Prop} (h : QObj t w x c d cap buf cl) (hf : Fr O w w') (h1 : ¬ O x) (h2 : ¬ O c) (h3 : ¬ O d) : QObj t w' x c d cap buf cl := h.keep (hf.block _ h.xlt h1) (hf.block _ h.clt h2) (hf.block _ h.dlt h3)
theorem QObj.chan (h : QObj t w x c d cap buf cl) (buf' : List Value) (s r : Nat) : QObj t (w.setChan c cap buf'.toArray false s r false) x c d cap buf' cl :=
  ⟨(setChan_other w c x _ _ _ _ _ _ (fun e => h.xc e.symm)).trans h.hx, ⟨s, r, heap_setChan w c cap buf'.toArray false s r false h.clt⟩, (setChan_other w c d _ _ _ _ _ _ h.cd).trans h.hd, h.h1⟩
theorem QObj.shut (h : QObj t w x c d cap buf cl) (cl' : Bool) : QObj t (w.setChan d 0 #[] cl' 0 0 false) x c d cap buf cl' :=
  ⟨(setChan_other w d x _ _ _ _ _ _ (fun e => h.xd e.symm)).trans h.hx, by obtain ⟨s, r, hc⟩ := h.hc; exact ⟨s, r, (setChan_other w d c _ _ _ _ _ _ (fun e => h.cd e.symm)).trans hc⟩, heap_setChan w d 0 #[] cl' 0 0 false h.dlt, h.h1⟩
end
theorem ress0 (c : Nat) (u z v : Value) (ok : Bool) : commResult #[scase c u z] .select ((0 : Nat) : Int) v ok = .tuple #[goInt 0, .bool ok] := by
  simp [commResult, scase, List.zipIdx_cons]

set_option maxRecDepth 100000 in
theorem push63_shut (w : World) (x c d cap : Nat) (buf : List Value) (p : Int) (h : QObj 63 w x c d cap buf true) : Calls Try.prog 24 #[.pointer (some ⟨x, 0, none⟩), .int .i64 p] w fun e w' => e = .returned (.bool false) ∧ QObj 63 w' x c d cap buf true ∧ Fr (fun k => k = c) w w' := by
  have H := h
  have HF : Fr (fun k => k = c) w w := Fr.refl
  have x0 := blk0 H.hx
  obtain ⟨s, r, hc⟩ := H.hc
  refine calls_of_loneTo fun cs => ?_
  have e : Frame.enter Try.prog 24 #[.pointer (some ⟨x, 0, none⟩), .int .i64 p] .normal = (base 24).at ⟨#[.pointer (some ⟨x, 0, none⟩), .int .i64 p, undef, undef, undef, undef, undef, undef, undef, undef, undef, undef, undef, undef, undef], []⟩ [.code (Try.f24.body.getD .skip)] := by
    simp [Frame.enter, Frame.at, Try.func24, base, Try.f24]
  rw [e]
  refine LoneTo.goes (n := 60) ?_
  simp only [Try.f24, Option.getD_some]
  s_c stepG_seq
  s_reg
  s_op
  s_c stepG_region_end
  s_c stepG_seq
  s_c stepG_seq
  s_reg
  s_op
  s_stop
  refine lone_call (f := 20) (fn := Try.f20) (c := Try.f20.body.getD .skip) (R := fun v w' => v = .bool true ∧ w = w') rfl rfl (by decide) rfl Try.func20 (by decide) rfl
    (by walk_nrm; exact (closed63_any w x c d cap buf true H).mono fun _ _ h => ⟨_, h.1, rfl, h.2.symm⟩) ?_
  rintro v0 w0 ⟨rfl, rfl⟩
  walk_nrm
  refine LoneTo.goes (n := 60) ?_
  s_c stepG_region_end
  s_cond true
  s_c stepG_seq
  s_reg
  s_op
  s_c stepG_region_end
  s_c stepG_ret'
  s_stop
  exact LoneTo.done ⟨.returned (.bool false), _, rfl, ⟨rfl, H, HF⟩, rfl, rfl, rfl, rfl, _, Try.func24, by simp [results, Try.f24, Frame.at]⟩

set_option maxRecDepth 100000 in
theorem push63_room (w : World) (x c d cap : Nat) (buf : List Value) (p : Int) (hr : buf.length < cap) (h : QObj 63 w x c d cap buf false) : Calls Try.prog 24 #[.pointer (some ⟨x, 0, none⟩), .int .i64 p] w fun e w' => e = .returned (.bool true) ∧ QObj 63 w' x c d cap (buf ++ [.int .i64 p]) false ∧ Fr (fun k => k = c) w w' := by
  have H := h
  have HF : Fr (fun k => k = c) w w := Fr.refl
  have x0 := blk0 H.hx
  obtain ⟨s, r, hc⟩ := H.hc
  refine calls_of_loneTo fun cs => ?_
  have e : Frame.enter Try.prog 24 #[.pointer (some ⟨x, 0, none⟩), .int .i64 p] .normal = (base 24).at ⟨#[.pointer (some ⟨x, 0, none⟩), .int .i64 p, undef, undef, undef, undef, undef, undef, undef, undef, undef, undef, undef, undef, undef], []⟩ [.code (Try.f24.body.getD .skip)] := by
    simp [Frame.enter, Frame.at, Try.func24, base, Try.f24]
  rw [e]
  refine LoneTo.goes (n := 60) ?_
  simp only [Try.f24, Option.getD_some]
  s_c stepG_seq
  s_reg
  s_op
  s_c stepG_region_end
  s_c stepG_seq
  s_c stepG_seq
  s_reg
  s_op
  s_stop
  refine lone_call (f := 20) (fn := Try.f20) (c := Try.f20.body.getD .skip) (R := fun v w' => v = .bool false ∧ w = w') rfl rfl (by decide) rfl Try.func20 (by decide) rfl
    (by walk_nrm; exact (closed63_any w x c d cap buf false H).mono fun _ _ h => ⟨_, h.1, rfl, h.2.symm⟩) ?_
  rintro v0 w0 ⟨rfl, rfl⟩
  walk_nrm
  refine LoneTo.goes (n := 60) ?_
  s_c stepG_region_end
  s_cond false
  s_c stepG_skip
  s_c stepG_seq
  s_c stepG_seq
  s_reg
  s_op
  s_op
  s_op
  s_op
  s_c stepG_region_end
  s_reg
  s_op
  s_c stepG_region_end
  s_c stepG_seq
  s_reg
  s_stop
  refine LoneTo.step (step_lone_select_send_room (c := c) (v := .int .i64 p) (z' := (.int .i64 0)) (cap := cap) (buf := buf.toArray) (s := s) (r := r) (tm := false)
    (stepG_comm (cases := #[scase c (.int .i64 p) (.int .i64 0)]) (blocking := false) (shape := .select) (w' := w) rfl rfl (by decide) (by simp [go_sem, execOp, scase, Act.eval])) hc (by simpa using hr)) ?_
  rw [Frame.finish_at]
  walk_nrm
  refine LoneTo.goes (n := 60) ?_
  s_op
  s_op
  s_c stepG_region_end
  s_c stepG_block
  s_cond true
  s_c stepG_seq
  s_reg
  s_op
  s_c stepG_region_end
  s_c stepG_ret'
  s_stop
  exact LoneTo.done ⟨.returned (.bool true), _, rfl, ⟨rfl, by have := H.chan (buf ++ [.int .i64 p]) (s + 1) r; simpa using this, HF.chan rfl _ _ _ _ _ _⟩, rfl, rfl, rfl, rfl, _, Try.func24, by simp [results, Try.f24, Frame.at]⟩

set_option maxRecDepth 100000 in
theorem push63_full (w : World) (x c d cap : Nat) (buf : List Value) (p : Int) (hr : cap ≤ buf.length) (h : QObj 63 w x c d cap buf false) : Calls Try.prog 24 #[.pointer (some ⟨x, 0, none⟩), .int .i64 p] w fun e w' => e = .returned (.bool false) ∧ QObj 63 w' x c d cap buf false ∧ Fr (fun k => k = c) w w' := by
  have H := h
  have HF : Fr (fun k => k = c) w w := Fr.refl
  have x0 := blk0 H.hx
  obtain ⟨s, r, hc⟩ := H.hc
  refine calls_of_loneTo fun cs => ?_
  have e : Frame.enter Try.prog 24 #[.pointer (some ⟨x, 0, none⟩), .int .i64 p] .normal = (base 24).at ⟨#[.pointer (some ⟨x, 0, none⟩), .int .i64 p, undef, undef, undef, undef, undef, undef, undef, undef, undef, undef, undef, undef, undef], []⟩ [.code (Try.f24.body.getD .skip)] := by
    simp [Frame.enter, Frame.at, Try.func24, base, Try.f24]
  rw [e]
  refine LoneTo.goes (n := 60) ?_
  simp only [Try.f24, Option.getD_some]
  s_c stepG_seq
  s_reg
  s_op
  s_c stepG_region_end
  s_c stepG_seq
  s_c stepG_seq
  s_reg
  s_op
  s_stop
  refine lone_call (f := 20) (fn := Try.f20) (c := Try.f20.body.getD .skip) (R := fun v w' => v = .bool false ∧ w = w') rfl rfl (by decide) rfl Try.func20 (by decide) rfl
    (by walk_nrm; exact (closed63_any w x c d cap buf false H).mono fun _ _ h => ⟨_, h.1, rfl, h.2.symm⟩) ?_
  rintro v0 w0 ⟨rfl, rfl⟩
  walk_nrm
  refine LoneTo.goes (n := 60) ?_
  s_c stepG_region_end
  s_cond false
  s_c stepG_skip
  s_c stepG_seq
  s_c stepG_seq
  s_reg
  s_op
  s_op
  s_op
  s_op
  s_c stepG_region_end
  s_reg
  s_op
  s_c stepG_region_end
  s_c stepG_seq
  s_reg
  s_stop
  refine LoneTo.step (step_lone_select_send_full (c := c) (v := .int .i64 p) (z' := (.int .i64 0)) (cap := cap) (buf := buf.toArray) (s := s) (r := r) (tm := false)
    (stepG_comm (cases := #[scase c (.int .i64 p) (.int .i64 0)]) (blocking := false) (shape := .select) (w' := w) rfl rfl (by decide) (by simp [go_sem, execOp, scase, Act.eval])) hc (by simpa using hr)) ?_
  rw [Frame.finish_at]
  walk_nrm
  refine LoneTo.goes (n := 60) ?_
  s_op
  s_op
  s_c stepG_region_end
  s_c stepG_block
  s_cond false
  s_c stepG_seq
  s_reg
  s_op
  s_c stepG_region_end
  s_c stepG_ret'
  s_stop
  exact LoneTo.done ⟨.returned (.bool false), _, rfl, ⟨rfl, H, HF⟩, rfl, rfl, rfl, rfl, _, Try.func24, by simp [results, Try.f24, Frame.at]⟩

theorem push63_any (w : World) (x c d cap : Nat) (buf : List Value) (cl : Bool) (p : Int) (h : QObj 63 w x c d cap buf cl) (ok : Bool) (buf' : List Value) (hok : (ok = true ∧ cl = false ∧ buf.length < cap ∧ buf' = buf ++ [.int .i64 p]) ∨ (ok = false ∧ (cl = true ∨ cap ≤ buf.length) ∧ buf' = buf)) :
    Calls Try.prog 24 #[.pointer (some ⟨x, 0, none⟩), .int .i64 p] w fun e w' => e = .returned (.bool ok) ∧ QObj 63 w' x c d cap buf' cl ∧ Fr (fun k => k = c) w w' := by
  rcases hok with ⟨rfl, rfl, hl, rfl⟩ | ⟨rfl, hl, rfl⟩
  · exact push63_room w x c d cap buf p hl h
  · cases cl with
    | true => exact push63_shut w x c d cap buf' p h
    | false => exact push63_full w x c d cap buf' p (by rcases hl with hl | hl; cases hl; exact hl) h

set_option maxRecDepth 100000 in
theorem pop63_some (w : World) (x c d cap : Nat) (v : Int) (buf : List Value) (cl : Bool) (h : QObj 63 w x c d cap (.int .i64 v :: buf) cl) : Calls Try.prog 23 #[.pointer (some ⟨x, 0, none⟩)] w fun e w' => e = .returned (.tuple #[.int .i64 v, .bool true]) ∧ QObj 63 w' x c d cap buf cl ∧ Fr (fun k => k = c) w w' := by
  have x0 := blk0 h.hx
  obtain ⟨s, r, hc⟩ := h.hc
  have e1 : (Value.int .i64 v :: buf).toArray.getD 0 undef = .int .i64 v := by simp
  have e2 : (Value.int .i64 v :: buf).toArray.extract 1 (Value.int .i64 v :: buf).toArray.size = buf.toArray := by simp
  refine calls_of_loneTo fun cs => ?_
  have e : Frame.enter Try.prog 23 #[.pointer (some ⟨x, 0, none⟩)] .normal = (base 23).at ⟨#[.pointer (some ⟨x, 0, none⟩), undef, undef, undef, undef, undef, undef, undef, undef, undef, undef, undef, undef, undef, undef, undef, undef], []⟩ [.code (Try.f23.body.getD .skip)] := by
    simp [Frame.enter, Frame.at, Try.func23, base, Try.f23]
  rw [e]
  refine LoneTo.goes (n := 60) ?_
  simp only [Try.f23, Option.getD_some]
  s_c stepG_seq
  s_reg
  s_op
  s_op
  s_c stepG_region_end
  s_c stepG_seq
  s_c stepG_seq
  s_reg
  s_op
  s_op
  s_c stepG_region_end
  s_cond false
  s_c stepG_skip
  s_c stepG_seq
  s_reg
  s_op
  s_op
  s_op
  s_op
  s_c stepG_region_end
  s_c stepG_seq
  s_reg
  s_stop
  refine LoneTo.step (step_lone_select_recv_buf (c := c) (z := .int .i64 0) (cap := cap) (buf := (Value.int .i64 v :: buf).toArray) (closed := false) (s := s) (r := r) (tm := false)
    (stepG_comm (cases := #[rcase c (.int .i64 0)]) (blocking := false) (shape := .select) (w' := w) rfl rfl (by decide) (by simp [go_sem, execOp, rcase, Act.eval])) hc (by simp)) ?_
  rw [e1, e2]
  rw [Frame.finish_at]
  walk_nrm
  refine LoneTo.goes (n := 60) ?_
  s_op
  s_op
  s_c stepG_region_end
  s_c stepG_block
  s_cond true
  s_c stepG_seq
  s_reg
  s_op
  s_op
  s_c stepG_region_end
  s_c stepG_seq
  s_reg
  s_op
  s_op
  s_op
  s_c stepG_region_end
  s_c stepG_ret'
  s_stop
  exact LoneTo.done ⟨.returned (.tuple #[.int .i64 v, .bool true]), _, rfl, ⟨rfl, h.chan buf s (r + 1), (Fr.refl (O := fun k => k = c)).chan (c := c) rfl _ _ _ _ _ _⟩, rfl, rfl, rfl, rfl, _, Try.func23, by simp [results, Try.f23, Frame.at]⟩

set_option maxRecDepth 100000 in
theorem pop63_none (w : World) (x c d cap : Nat) (cl : Bool) (h : QObj 63 w x c d cap [] cl) : Calls Try.prog 23 #[.pointer (some ⟨x, 0, none⟩)] w fun e w' => e = .returned (.tuple #[.int .i64 0, .bool false]) ∧ w' = w := by
  have x0 := blk0 h.hx
  obtain ⟨s, r, hc⟩ := h.hc
  refine calls_of_loneTo fun cs => ?_
  have e : Frame.enter Try.prog 23 #[.pointer (some ⟨x, 0, none⟩)] .normal = (base 23).at ⟨#[.pointer (some ⟨x, 0, none⟩), undef, undef, undef, undef, undef, undef, undef, undef, undef, undef, undef, undef, undef, undef, undef, undef], []⟩ [.code (Try.f23.body.getD .skip)] := by
    simp [Frame.enter, Frame.at, Try.func23, base, Try.f23]
  rw [e]
  refine LoneTo.goes (n := 60) ?_
  simp only [Try.f23, Option.getD_some]
  s_c stepG_seq
  s_reg
  s_op
  s_op
  s_c stepG_region_end
  s_c stepG_seq
  s_c stepG_seq
  s_reg
  s_op
  s_op
  s_c stepG_region_end
  s_cond false
  s_c stepG_skip
  s_c stepG_seq
  s_reg
  s_op
  s_op
  s_op
  s_op
  s_c stepG_region_end
  s_c stepG_seq
  s_reg
  s_stop
  refine LoneTo.step (step_lone_select_default (c := c) (z := .int .i64 0) (cap := cap) (s := s) (r := r) (tm := false)
    (stepG_comm (cases := #[rcase c (.int .i64 0)]) (blocking := false) (shape := .select) (w' := w) rfl rfl (by decide) (by simp [go_sem, execOp, rcase, Act.eval])) hc) ?_
  rw [Frame.finish_at]
  walk_nrm
  refine LoneTo.goes (n := 60) ?_
  s_op
  s_op
  s_c stepG_region_end
  s_c stepG_block
  s_cond false
  s_c stepG_seq
  s_reg
  s_op
  s_op
  s_op
  s_c stepG_region_end
  s_c stepG_ret'
  s_stop
  exact LoneTo.done ⟨.returned (.tuple #[.int .i64 0, .bool false]), _, rfl, ⟨rfl, rfl⟩, rfl, rfl, rfl, rfl, _, Try.func23, by simp [results, Try.f23, Frame.at]⟩

set_option maxRecDepth 100000 in
theorem pop63_nil (w : World) : Calls Try.prog 23 #[.pointer none] w fun e w' => e = .returned (.tuple #[.int .i64 0, .bool false]) ∧ w' = w := by
  refine calls_of_loneTo fun cs => ?_
  have e : Frame.enter Try.prog 23 #[.pointer none] .normal = (base 23).at ⟨#[.pointer none, undef, undef, undef, undef, undef, undef, undef, undef, undef, undef, undef, undef, undef, undef, undef, undef], []⟩ [.code (Try.f23.body.getD .skip)] := by
    simp [Frame.enter, Frame.at, Try.func23, base, Try.f23]
  rw [e]
  refine LoneTo.goes (n := 60) ?_
  simp only [Try.f23, Option.getD_some]
  s_c stepG_seq
  s_reg
  s_op
  s_op
  s_c stepG_region_end
  s_c stepG_seq
  s_c stepG_seq
  s_reg
  s_op
  s_op
  s_c stepG_region_end
  s_cond true
  s_c stepG_seq
  s_reg
  s_op
  s_op
  s_op
  s_c stepG_region_end
  s_c stepG_ret'
  s_stop
  exact LoneTo.done ⟨.returned (.tuple #[.int .i64 0, .bool false]), _, rfl, ⟨rfl, rfl⟩, rfl, rfl, rfl, rfl, _, Try.func23, by simp [results, Try.f23, Frame.at]⟩


set_option maxRecDepth 100000 in
theorem close63_shut (w : World) (x c d cap : Nat) (buf : List Value) (h : QObj 63 w x c d cap buf true) : Calls Try.prog 25 #[.pointer (some ⟨x, 0, none⟩)] w fun e w' => e = .returned (.bool false) ∧ QObj 63 w' x c d cap buf true ∧ Fr (fun k => k = d) w w' := by
  have H := h
  refine calls_of_loneTo fun cs => ?_
  have e : Frame.enter Try.prog 25 #[.pointer (some ⟨x, 0, none⟩)] .normal = (base 25).at ⟨#[.pointer (some ⟨x, 0, none⟩), undef, undef, undef, undef, undef, undef, undef, undef], []⟩ [.code (Try.f25.body.getD .skip)] := by
    simp [Frame.enter, Frame.at, Try.func25, base, Try.f25]
  rw [e]
  refine LoneTo.goes (n := 60) ?_
  simp only [Try.f25, Option.getD_some]
  s_c stepG_seq
  s_reg
  s_op
  s_c stepG_region_end
  s_c stepG_seq
  s_c stepG_seq
  s_reg
  s_op
  s_stop
  refine lone_call (f := 20) (fn := Try.f20) (c := Try.f20.body.getD .skip) (R := fun v w' => v = .bool true ∧ w = w') rfl rfl (by decide) rfl Try.func20 (by decide) rfl
    (by walk_nrm; exact (closed63_any w x c d cap buf true H).mono fun _ _ h => ⟨_, h.1, rfl, h.2.symm⟩) ?_
  rintro v0 w0 ⟨rfl, rfl⟩
  walk_nrm
  refine LoneTo.goes (n := 60) ?_
  s_c stepG_region_end
  s_cond true
  s_c stepG_seq
  s_reg
  s_op
  s_c stepG_region_end
  s_c stepG_ret'
  s_stop
  exact LoneTo.done ⟨.returned (.bool false), _, rfl, ⟨rfl, h, Fr.refl⟩, rfl, rfl, rfl, rfl, _, Try.func25, by simp [results, Try.f25, Frame.at]⟩

set_option maxRecDepth 100000 in
theorem close63_nil (w : World) : Calls Try.prog 25 #[.pointer none] w fun e w' => e = .returned (.bool false) ∧ w' = w := by
  refine calls_of_loneTo fun cs => ?_
  have e : Frame.enter Try.prog 25 #[.pointer none] .normal = (base 25).at ⟨#[.pointer none, undef, undef, undef, undef, undef, undef, undef, undef], []⟩ [.code (Try.f25.body.getD .skip)] := by
    simp [Frame.enter, Frame.at, Try.func25, base, Try.f25]
  rw [e]
  refine LoneTo.goes (n := 60) ?_
  simp only [Try.f25, Option.getD_some]
  s_c stepG_seq
  s_reg
  s_op
  s_c stepG_region_end
  s_c stepG_seq
  s_c stepG_seq
  s_reg
  s_op
  s_stop
  refine lone_call (f := 20) (fn := Try.f20) (c := Try.f20.body.getD .skip) (R := fun v w' => v = .bool true ∧ w = w') rfl rfl (by decide) rfl Try.func20 (by decide) rfl
    (by walk_nrm; exact (closed63_nil w).mono fun _ _ h => ⟨_, h.1, rfl, h.2.symm⟩) ?_
  rintro v0 w0 ⟨rfl, rfl⟩
  walk_nrm
  refine LoneTo.goes (n := 60) ?_
  s_c stepG_region_end
  s_cond true
  s_c stepG_seq
  s_reg
  s_op
  s_c stepG_region_end
  s_c stepG_ret'
  s_stop
  exact LoneTo.done ⟨.returned (.bool false), _, rfl, ⟨rfl, rfl⟩, rfl, rfl, rfl, rfl, _, Try.func25, by simp [results, Try.f25, Frame.at]⟩

set_option maxRecDepth 100000 in
theorem close63_open (w : World) (x c d cap : Nat) (buf : List Value) (h : QObj 63 w x c d cap buf false) : Calls Try.prog 25 #[.pointer (some ⟨x, 0, none⟩)] w fun e w' => e = .returned (.bool true) ∧ QObj 63 w' x c d cap buf true ∧ Fr (fun k => k = d) w w' := by
  have H := h
  have x1 := blk1 h.hx
  refine calls_of_loneTo fun cs => ?_
  have e : Frame.enter Try.prog 25 #[.pointer (some ⟨x, 0, none⟩)] .normal = (base 25).at ⟨#[.pointer (some ⟨x, 0, none⟩), undef, undef, undef, undef, undef, undef, undef, undef], []⟩ [.code (Try.f25.body.getD .skip)] := by
    simp [Frame.enter, Frame.at, Try.func25, base, Try.f25]
  rw [e]
  refine LoneTo.goes (n := 60) ?_
  simp only [Try.f25, Option.getD_some]
  s_c stepG_seq
  s_reg
  s_op
  s_c stepG_region_end
  s_c stepG_seq
  s_c stepG_seq
  s_reg
  s_op
  s_stop
  refine lone_call (f := 20) (fn := Try.f20) (c := Try.f20.body.getD .skip) (R := fun v w' => v = .bool false ∧ w = w') rfl rfl (by decide) rfl Try.func20 (by decide) rfl
    (by walk_nrm; exact (closed63_any w x c d cap buf false H).mono fun _ _ h => ⟨_, h.1, rfl, h.2.symm⟩) ?_
  rintro v0 w0 ⟨rfl, rfl⟩
  walk_nrm
  refine LoneTo.goes (n := 60) ?_
  s_c stepG_region_end
  s_cond false
  s_c stepG_skip
  s_c stepG_seq
  s_reg
  s_op
  s_op
  s_op
  s_op
  s_in
  refine goes_oper_k rfl rfl (by decide) (fun K hK => ?_)
  have hcl := fun ats ty => run_close_open (P := Try.prog) (w := w) ats ty h.hd
  go_simp
  refine hK _ _ ⟨trivial, ?_⟩
  clear hK K hcl
  s_c stepG_region_end
  s_c stepG_seq
  s_reg
  s_op
  s_c stepG_region_end
  s_c stepG_ret'
  s_stop
  exact LoneTo.done ⟨.returned (.bool true), _, rfl, ⟨rfl, h.shut true, (Fr.refl (O := fun k => k = d)).chan (c := d) rfl 0 #[] true 0 0 false⟩, rfl, rfl, rfl, rfl, _, Try.func25, by simp [results, Try.f25, Frame.at]⟩
theorem close63_any (w : World) (x c d cap : Nat) (buf : List Value) (cl : Bool) (h : QObj 63 w x c d cap buf cl) : Calls Try.prog 25 #[.pointer (some ⟨x, 0, none⟩)] w fun e w' => e = .returned (.bool (!cl)) ∧ QObj 63 w' x c d cap buf true ∧ Fr (fun k => k = d) w w' := by
  cases cl with
  | true => exact close63_shut w x c d cap buf h
  | false => exact close63_open w x c d cap buf h
end Go.Proofs.Ytohlcopnifmjoac
