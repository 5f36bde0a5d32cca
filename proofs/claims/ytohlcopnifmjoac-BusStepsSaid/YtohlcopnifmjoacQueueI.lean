/- bus: the functions that communicate, for names. -/
import Derived.Test.YtohlcopnifmjoacQueue
namespace Go.Proofs.Ytohlcopnifmjoac
open Go.RowKit Go.Conc

set_option maxRecDepth 100000 in
theorem closed60_true (w : World) (x c d cap : Nat) (buf : List Value) (h : QObj 60 w x c d cap buf true) : Calls Try.prog 27 #[.pointer (some ⟨x, 0, none⟩)] w fun e w' => e = .returned (.bool true) ∧ w' = w := by
  have x1 := blk1 h.hx
  refine calls_of_loneTo fun cs => ?_
  have e : Frame.enter Try.prog 27 #[.pointer (some ⟨x, 0, none⟩)] .normal = (base 27).at ⟨#[.pointer (some ⟨x, 0, none⟩), undef, undef, undef, undef, undef, undef, undef, undef, undef, undef, undef], []⟩ [.code (Try.f27.body.getD .skip)] := by
    simp [Frame.enter, Frame.at, Try.func27, base, Try.f27]
  rw [e]
  refine LoneTo.goes (n := 60) ?_
  simp only [Try.f27, Option.getD_some]
  s_c stepG_seq
  s_reg
  s_op
  s_c stepG_region_end
  s_c stepG_seq
  s_c stepG_seq
  s_reg
  s_op
  s_op
  s_c stepG_region_end
  s_cond false
  s_c stepG_skip
  s_c stepG_seq
  s_reg
  s_op
  s_op
  s_op
  s_op
  s_c stepG_region_end
  s_c stepG_seq
  s_reg
  s_stop
  refine LoneTo.step (step_lone_select_recv_shut (c := d) (z := .agg #[]) (cap := 0) (s := 0) (r := 0) (tm := false)
    (stepG_comm (cases := #[rcase d (.agg #[])]) (blocking := false) (shape := .select) (w' := w) rfl rfl (by decide) (by simp [go_sem, execOp, rcase, Act.eval])) h.hd) ?_
  rw [Frame.finish_at]
  walk_nrm
  refine LoneTo.goes (n := 60) ?_
  s_op
  s_op
  s_c stepG_region_end
  s_c stepG_block
  s_cond true
  s_c stepG_seq
  s_reg
  s_op
  s_c stepG_region_end
  s_c stepG_ret'
  s_stop
  exact LoneTo.done ⟨.returned (.bool true), _, rfl, ⟨rfl, rfl⟩, rfl, rfl, rfl, rfl, _, Try.func27, by simp [results, Try.f27, Frame.at]⟩

set_option maxRecDepth 100000 in
theorem closed60_false (w : World) (x c d cap : Nat) (buf : List Value) (h : QObj 60 w x c d cap buf false) : Calls Try.prog 27 #[.pointer (some ⟨x, 0, none⟩)] w fun e w' => e = .returned (.bool false) ∧ w' = w := by
  have x1 := blk1 h.hx
  refine calls_of_loneTo fun cs => ?_
  have e : Frame.enter Try.prog 27 #[.pointer (some ⟨x, 0, none⟩)] .normal = (base 27).at ⟨#[.pointer (some ⟨x, 0, none⟩), undef, undef, undef, undef, undef, undef, undef, undef, undef, undef, undef], []⟩ [.code (Try.f27.body.getD .skip)] := by
    simp [Frame.enter, Frame.at, Try.func27, base, Try.f27]
  rw [e]
  refine LoneTo.goes (n := 60) ?_
  simp only [Try.f27, Option.getD_some]
  s_c stepG_seq
  s_reg
  s_op
  s_c stepG_region_end
  s_c stepG_seq
  s_c stepG_seq
  s_reg
  s_op
  s_op
  s_c stepG_region_end
  s_cond false
  s_c stepG_skip
  s_c stepG_seq
  s_reg
  s_op
  s_op
  s_op
  s_op
  s_c stepG_region_end
  s_c stepG_seq
  s_reg
  s_stop
  refine LoneTo.step (step_lone_select_default (c := d) (z := .agg #[]) (cap := 0) (s := 0) (r := 0) (tm := false)
    (stepG_comm (cases := #[rcase d (.agg #[])]) (blocking := false) (shape := .select) (w' := w) rfl rfl (by decide) (by simp [go_sem, execOp, rcase, Act.eval])) h.hd) ?_
  rw [Frame.finish_at]
  walk_nrm
  refine LoneTo.goes (n := 60) ?_
  s_op
  s_op
  s_c stepG_region_end
  s_c stepG_block
  s_cond false
  s_c stepG_seq
  s_reg
  s_op
  s_c stepG_region_end
  s_c stepG_ret'
  s_stop
  exact LoneTo.done ⟨.returned (.bool false), _, rfl, ⟨rfl, rfl⟩, rfl, rfl, rfl, rfl, _, Try.func27, by simp [results, Try.f27, Frame.at]⟩

theorem closed60_any (w : World) (x c d cap : Nat) (buf : List Value) (cl : Bool) (h : QObj 60 w x c d cap buf cl) : Calls Try.prog 27 #[.pointer (some ⟨x, 0, none⟩)] w fun e w' => e = .returned (.bool cl) ∧ w' = w := by
  cases cl with
  | true => exact closed60_true w x c d cap buf h
  | false => exact closed60_false w x c d cap buf h
set_option maxRecDepth 100000 in
theorem closed60_nil (w : World) : Calls Try.prog 27 #[.pointer none] w fun e w' => e = .returned (.bool true) ∧ w' = w := by
  refine calls_of_loneTo fun cs => ?_
  have e : Frame.enter Try.prog 27 #[.pointer none] .normal = (base 27).at ⟨#[.pointer none, undef, undef, undef, undef, undef, undef, undef, undef, undef, undef, undef], []⟩ [.code (Try.f27.body.getD .skip)] := by
    simp [Frame.enter, Frame.at, Try.func27, base, Try.f27]
  rw [e]
  refine LoneTo.goes (n := 60) ?_
  simp only [Try.f27, Option.getD_some]
  s_c stepG_seq
  s_reg
  s_op
  s_c stepG_region_end
  s_c stepG_seq
  s_c stepG_seq
  s_reg
  s_op
  s_op
  s_c stepG_region_end
  s_cond true
  s_c stepG_seq
  s_reg
  s_op
  s_c stepG_region_end
  s_c stepG_ret'
  s_stop
  exact LoneTo.done ⟨.returned (.bool true), _, rfl, ⟨rfl, rfl⟩, rfl, rfl, rfl, rfl, _, Try.func27, by simp [results, Try.f27, Frame.at]⟩

set_option maxRecDepth 100000 in
theorem push60_shut (w : World) (x c d cap : Nat) (buf : List Value) (p q : Int) (h : QObj 60 w x c d cap buf true) : Calls Try.prog 8 #[.pointer (some ⟨x, 0, none⟩), .agg #[.int .i64 p, .int .i64 q]] w fun e w' => e = .returned (.bool false) ∧ QObj 60 w' x c d cap buf true ∧ Fr (fun k => k = c) w w' := by
  have H : QObj 60 (w.alloc (.cells #[.int .i64 p, .int .i64 q] 28)) x c d cap buf true := h.over ((Below.refl _ _).alloc (Nat.le_refl _) _)
  obtain ⟨W, hW⟩ : ∃ W, W = (w.alloc (.cells #[.int .i64 p, .int .i64 q] 28)) := ⟨_, rfl⟩
  have K := Blk.new w 28 #[.int .i64 p, .int .i64 q]
  have HF : Fr (fun k => k = c) w W := by rw [hW]; exact Fr.refl.alloc _
  rw [← hW] at H K
  have x0 := blk0 H.hx
  have m0 := blk0 K
  have m1 := blk1 K
  obtain ⟨s, r, hc⟩ := H.hc
  refine calls_of_loneTo fun cs => ?_
  have e : Frame.enter Try.prog 8 #[.pointer (some ⟨x, 0, none⟩), .agg #[.int .i64 p, .int .i64 q]] .normal = (base 8).at ⟨#[.pointer (some ⟨x, 0, none⟩), .agg #[.int .i64 p, .int .i64 q], undef, undef, undef, undef, undef, undef, undef, undef, undef, undef, undef, undef, undef], []⟩ [.code (Try.f8.body.getD .skip)] := by
    simp [Frame.enter, Frame.at, Try.func8, base, Try.f8]
  rw [e]
  refine LoneTo.goes (n := 60) ?_
  simp only [Try.f8, Option.getD_some]
  s_c stepG_seq
  s_reg
  s_op
  s_op
  s_c stepG_region_end
  s_c stepG_seq
  s_c stepG_seq
  s_reg
  s_op
  rw [← hW]
  clear hW
  s_stop
  refine lone_call (f := 27) (fn := Try.f27) (c := Try.f27.body.getD .skip) (R := fun v w' => v = .bool true ∧ W = w') rfl rfl (by decide) rfl Try.func27 (by decide) rfl
    (by walk_nrm; exact (closed60_any W x c d cap buf true H).mono fun _ _ h => ⟨_, h.1, rfl, h.2.symm⟩) ?_
  rintro v0 w0 ⟨rfl, rfl⟩
  walk_nrm
  refine LoneTo.goes (n := 60) ?_
  s_c stepG_region_end
  s_cond true
  s_c stepG_seq
  s_reg
  s_op
  s_c stepG_region_end
  s_c stepG_ret'
  s_stop
  exact LoneTo.done ⟨.returned (.bool false), _, rfl, ⟨rfl, H, HF⟩, rfl, rfl, rfl, rfl, _, Try.func8, by simp [results, Try.f8, Frame.at]⟩

set_option maxRecDepth 100000 in
theorem push60_room (w : World) (x c d cap : Nat) (buf : List Value) (p q : Int) (hr : buf.length < cap) (h : QObj 60 w x c d cap buf false) : Calls Try.prog 8 #[.pointer (some ⟨x, 0, none⟩), .agg #[.int .i64 p, .int .i64 q]] w fun e w' => e = .returned (.bool true) ∧ QObj 60 w' x c d cap (buf ++ [.agg #[.int .i64 p, .int .i64 q]]) false ∧ Fr (fun k => k = c) w w' := by
  have H : QObj 60 (w.alloc (.cells #[.int .i64 p, .int .i64 q] 28)) x c d cap buf false := h.over ((Below.refl _ _).alloc (Nat.le_refl _) _)
  obtain ⟨W, hW⟩ : ∃ W, W = (w.alloc (.cells #[.int .i64 p, .int .i64 q] 28)) := ⟨_, rfl⟩
  have K := Blk.new w 28 #[.int .i64 p, .int .i64 q]
  have HF : Fr (fun k => k = c) w W := by rw [hW]; exact Fr.refl.alloc _
  rw [← hW] at H K
  have x0 := blk0 H.hx
  have m0 := blk0 K
  have m1 := blk1 K
  obtain ⟨s, r, hc⟩ := H.hc
  refine calls_of_loneTo fun cs => ?_
  have e : Frame.enter Try.prog 8 #[.pointer (some ⟨x, 0, none⟩), .agg #[.int .i64 p, .int .i64 q]] .normal = (base 8).at ⟨#[.pointer (some ⟨x, 0, none⟩), .agg #[.int .i64 p, .int .i64 q], undef, undef, undef, undef, undef, undef, undef, undef, undef, undef, undef, undef, undef], []⟩ [.code (Try.f8.body.getD .skip)] := by
    simp [Frame.enter, Frame.at, Try.func8, base, Try.f8]
  rw [e]
  refine LoneTo.goes (n := 60) ?_
  simp only [Try.f8, Option.getD_some]
  s_c stepG_seq
  s_reg
  s_op
  s_op
  s_c stepG_region_end
  s_c stepG_seq
  s_c stepG_seq
  s_reg
  s_op
  rw [← hW]
  clear hW
  s_stop
  refine lone_call (f := 27) (fn := Try.f27) (c := Try.f27.body.getD .skip) (R := fun v w' => v = .bool false ∧ W = w') rfl rfl (by decide) rfl Try.func27 (by decide) rfl
    (by walk_nrm; exact (closed60_any W x c d cap buf false H).mono fun _ _ h => ⟨_, h.1, rfl, h.2.symm⟩) ?_
  rintro v0 w0 ⟨rfl, rfl⟩
  walk_nrm
  refine LoneTo.goes (n := 60) ?_
  s_c stepG_region_end
  s_cond false
  s_c stepG_skip
  s_c stepG_seq
  s_c stepG_seq
  s_reg
  s_op
  s_op
  s_op
  s_op
  s_c stepG_region_end
  s_reg
  s_op
  s_c stepG_region_end
  s_c stepG_seq
  s_reg
  s_stop
  refine LoneTo.step (step_lone_select_send_room (c := c) (v := .agg #[.int .i64 p, .int .i64 q]) (z' := (.agg #[.int .i64 0, .int .i64 0])) (cap := cap) (buf := buf.toArray) (s := s) (r := r) (tm := false)
    (stepG_comm (cases := #[scase c (.agg #[.int .i64 p, .int .i64 q]) (.agg #[.int .i64 0, .int .i64 0])]) (blocking := false) (shape := .select) (w' := W) rfl rfl (by decide) (by simp [go_sem, execOp, scase, Act.eval])) hc (by simpa using hr)) ?_
  rw [Frame.finish_at]
  walk_nrm
  refine LoneTo.goes (n := 60) ?_
  s_op
  s_op
  s_c stepG_region_end
  s_c stepG_block
  s_cond true
  s_c stepG_seq
  s_reg
  s_op
  s_c stepG_region_end
  s_c stepG_ret'
  s_stop
  exact LoneTo.done ⟨.returned (.bool true), _, rfl, ⟨rfl, by have := H.chan (buf ++ [.agg #[.int .i64 p, .int .i64 q]]) (s + 1) r; simpa using this, HF.chan rfl _ _ _ _ _ _⟩, rfl, rfl, rfl, rfl, _, Try.func8, by simp [results, Try.f8, Frame.at]⟩

set_option maxRecDepth 100000 in
theorem push60_full (w : World) (x c d cap : Nat) (buf : List Value) (p q : Int) (hr : cap ≤ buf.length) (h : QObj 60 w x c d cap buf false) : Calls Try.prog 8 #[.pointer (some ⟨x, 0, none⟩), .agg #[.int .i64 p, .int .i64 q]] w fun e w' => e = .returned (.bool false) ∧ QObj 60 w' x c d cap buf false ∧ Fr (fun k => k = c) w w' := by
  have H : QObj 60 (w.alloc (.cells #[.int .i64 p, .int .i64 q] 28)) x c d cap buf false := h.over ((Below.refl _ _).alloc (Nat.le_refl _) _)
  obtain ⟨W, hW⟩ : ∃ W, W = (w.alloc (.cells #[.int .i64 p, .int .i64 q] 28)) := ⟨_, rfl⟩
  have K := Blk.new w 28 #[.int .i64 p, .int .i64 q]
  have HF : Fr (fun k => k = c) w W := by rw [hW]; exact Fr.refl.alloc _
  rw [← hW] at H K
  have x0 := blk0 H.hx
  have m0 := blk0 K
  have m1 := blk1 K
  obtain ⟨s, r, hc⟩ := H.hc
  refine calls_of_loneTo fun cs => ?_
  have e : Frame.enter Try.prog 8 #[.pointer (some ⟨x, 0, none⟩), .agg #[.int .i64 p, .int .i64 q]] .normal = (base 8).at ⟨#[.pointer (some ⟨x, 0, none⟩), .agg #[.int .i64 p, .int .i64 q], undef, undef, undef, undef, undef, undef, undef, undef, undef, undef, undef, undef, undef], []⟩ [.code (Try.f8.body.getD .skip)] := by
    simp [Frame.enter, Frame.at, Try.func8, base, Try.f8]
  rw [e]
  refine LoneTo.goes (n := 60) ?_
  simp only [Try.f8, Option.getD_some]
  s_c stepG_seq
  s_reg
  s_op
  s_op
  s_c stepG_region_end
  s_c stepG_seq
  s_c stepG_seq
  s_reg
  s_op
  rw [← hW]
  clear hW
  s_stop
  refine lone_call (f := 27) (fn := Try.f27) (c := Try.f27.body.getD .skip) (R := fun v w' => v = .bool false ∧ W = w') rfl rfl (by decide) rfl Try.func27 (by decide) rfl
    (by walk_nrm; exact (closed60_any W x c d cap buf false H).mono fun _ _ h => ⟨_, h.1, rfl, h.2.symm⟩) ?_
  rintro v0 w0 ⟨rfl, rfl⟩
  walk_nrm
  refine LoneTo.goes (n := 60) ?_
  s_c stepG_region_end
  s_cond false
  s_c stepG_skip
  s_c stepG_seq
  s_c stepG_seq
  s_reg
  s_op
  s_op
  s_op
  s_op
  s_c stepG_region_end
  s_reg
  s_op
  s_c stepG_region_end
  s_c stepG_seq
  s_reg
  s_stop
  refine LoneTo.step (step_lone_select_send_full (c := c) (v := .agg #[.int .i64 p, .int .i64 q]) (z' := (.agg #[.int .i64 0, .int .i64 0])) (cap := cap) (buf := buf.toArray) (s := s) (r := r) (tm := false)
    (stepG_comm (cases := #[scase c (.agg #[.int .i64 p, .int .i64 q]) (.agg #[.int .i64 0, .int .i64 0])]) (blocking := false) (shape := .select) (w' := W) rfl rfl (by decide) (by simp [go_sem, execOp, scase, Act.eval])) hc (by simpa using hr)) ?_
  rw [Frame.finish_at]
  walk_nrm
  refine LoneTo.goes (n := 60) ?_
  s_op
  s_op
  s_c stepG_region_end
  s_c stepG_block
  s_cond false
  s_c stepG_seq
  s_reg
  s_op
  s_c stepG_region_end
  s_c stepG_ret'
  s_stop
  exact LoneTo.done ⟨.returned (.bool false), _, rfl, ⟨rfl, H, HF⟩, rfl, rfl, rfl, rfl, _, Try.func8, by simp [results, Try.f8, Frame.at]⟩

theorem push60_any (w : World) (x c d cap : Nat) (buf : List Value) (cl : Bool) (p q : Int) (h : QObj 60 w x c d cap buf cl) (ok : Bool) (buf' : List Value) (hok : (ok = true ∧ cl = false ∧ buf.length < cap ∧ buf' = buf ++ [.agg #[.int .i64 p, .int .i64 q]]) ∨ (ok = false ∧ (cl = true ∨ cap ≤ buf.length) ∧ buf' = buf)) :
    Calls Try.prog 8 #[.pointer (some ⟨x, 0, none⟩), .agg #[.int .i64 p, .int .i64 q]] w fun e w' => e = .returned (.bool ok) ∧ QObj 60 w' x c d cap buf' cl ∧ Fr (fun k => k = c) w w' := by
  rcases hok with ⟨rfl, rfl, hl, rfl⟩ | ⟨rfl, hl, rfl⟩
  · exact push60_room w x c d cap buf p q hl h
  · cases cl with
    | true => exact push60_shut w x c d cap buf' p q h
    | false => exact push60_full w x c d cap buf' p q (by rcases hl with hl | hl; cases hl; exact hl) h

/-- the result's cells are written -/
theorem QObj.res {t : TypeId} {w V : World} {x c d cap r : Nat} {buf : List Value} {cl : Bool} (h : QObj t V x c d cap buf cl) (h1 : x ≠ r) (h2 : c ≠ r) (h3 : d ≠ r) (hf : Fr (fun k => k = c) w V) (hr : w.heap.size ≤ r) (a b : Value) : QObj t ((V.setCell ⟨r, 0, none⟩ a).setCell ⟨r, 1, none⟩ b) x c d cap buf cl ∧ Fr (fun k => k = c) w ((V.setCell ⟨r, 0, none⟩ a).setCell ⟨r, 1, none⟩ b) :=
  ⟨(h.keep (Below.heap_setCell _ _ _ _ h1) (Below.heap_setCell _ _ _ _ h2) (Below.heap_setCell _ _ _ _ h3)).keep (Below.heap_setCell _ _ _ _ h1) (Below.heap_setCell _ _ _ _ h2) (Below.heap_setCell _ _ _ _ h3), (hf.set_ (p := ⟨r, 0, none⟩) (.inr hr) a).set_ (p := ⟨r, 1, none⟩) (.inr hr) b⟩
theorem two_set {w : World} {g : Nat} {t : TypeId} {a b : Value} (h : Blk w g t #[a, b]) (x y : Value) : Blk ((w.setCell ⟨g, 0, none⟩ x).setCell ⟨g, 1, none⟩ y) g t #[x, y] := by
  have := (h.set_ 0 x).set_ 1 y
  simpa using this
set_option maxRecDepth 100000 in
theorem pop60_some (w : World) (x c d cap : Nat) (p q : Int) (buf : List Value) (cl : Bool) (h : QObj 60 w x c d cap (.agg #[.int .i64 p, .int .i64 q] :: buf) cl) : Calls Try.prog 11 #[.pointer (some ⟨x, 0, none⟩)] w fun e w' => e = .returned (.tuple #[.agg #[.int .i64 p, .int .i64 q], .bool true]) ∧ QObj 60 w' x c d cap buf cl ∧ Fr (fun k => k = c) w w' := by
  have H : QObj 60 (w.alloc (.cells #[.int .i64 0, .int .i64 0] 28)) x c d cap (.agg #[.int .i64 p, .int .i64 q] :: buf) cl := h.over ((Below.refl _ _).alloc (Nat.le_refl _) _)
  obtain ⟨W, hW⟩ : ∃ W, W = (w.alloc (.cells #[.int .i64 0, .int .i64 0] 28)) := ⟨_, rfl⟩
  have K := Blk.new w 28 #[.int .i64 0, .int .i64 0]
  have HF : Fr (fun k => k = c) w W := by rw [hW]; exact Fr.refl.alloc _
  have hcr : c ≠ w.heap.size := fun e => by have := h.clt; omega
  have hxr : x ≠ w.heap.size := fun e => by have := h.xlt; omega
  have hdr : d ≠ w.heap.size := fun e => by have := h.dlt; omega
  rw [← hW] at H K
  have x0 := blk0 H.hx
  obtain ⟨s, r, hc⟩ := H.hc
  have e1 : (Value.agg #[.int .i64 p, .int .i64 q] :: buf).toArray.getD 0 undef = .agg #[.int .i64 p, .int .i64 q] := by simp
  have e2 : (Value.agg #[.int .i64 p, .int .i64 q] :: buf).toArray.extract 1 (Value.agg #[.int .i64 p, .int .i64 q] :: buf).toArray.size = buf.toArray := by simp
  have HV := H.chan buf s (r + 1)
  have FV := HF.chan (c := c) rfl cap buf.toArray false s (r + 1) false
  have KV : Blk (W.setChan c cap buf.toArray false s (r + 1) false) w.heap.size 28 #[.int .i64 0, .int .i64 0] := (setChan_other W c _ _ _ _ _ _ _ hcr).trans K
  refine calls_of_loneTo fun cs => ?_
  have e : Frame.enter Try.prog 11 #[.pointer (some ⟨x, 0, none⟩)] .normal = (base 11).at ⟨#[.pointer (some ⟨x, 0, none⟩), undef, undef, undef, undef, undef, undef, undef, undef, undef, undef, undef, undef, undef, undef, undef, undef], []⟩ [.code (Try.f11.body.getD .skip)] := by
    simp [Frame.enter, Frame.at, Try.func11, base, Try.f11]
  rw [e]
  refine LoneTo.goes (n := 60) ?_
  simp only [Try.f11, Option.getD_some]
  s_c stepG_seq
  s_reg
  s_op
  s_op
  rw [← hW]
  clear hW
  s_c stepG_region_end
  s_c stepG_seq
  s_c stepG_seq
  s_reg
  s_op
  s_op
  s_c stepG_region_end
  s_cond false
  s_c stepG_skip
  s_c stepG_seq
  s_reg
  s_op
  s_op
  s_op
  s_op
  s_c stepG_region_end
  s_c stepG_seq
  s_reg
  s_stop
  refine LoneTo.step (step_lone_select_recv_buf (c := c) (z := (.agg #[.int .i64 0, .int .i64 0])) (cap := cap) (buf := (Value.agg #[.int .i64 p, .int .i64 q] :: buf).toArray) (closed := false) (s := s) (r := r) (tm := false)
    (stepG_comm (cases := #[rcase c (.agg #[.int .i64 0, .int .i64 0])]) (blocking := false) (shape := .select) (w' := W) rfl rfl (by decide) (by simp [go_sem, execOp, rcase, Act.eval])) hc (by simp)) ?_
  rw [e1, e2]
  generalize W.setChan c cap buf.toArray false s (r + 1) false = V at HV FV KV ⊢
  have k0 := blk0 KV
  have k1 := blk1 KV
  have z0 := KV.frozen 0
  have z1 := KV.frozen 1
  rw [Frame.finish_at]
  walk_nrm
  refine LoneTo.goes (n := 60) ?_
  s_op
  s_op
  s_c stepG_region_end
  s_c stepG_block
  s_cond true
  s_c stepG_seq
  s_reg
  s_op
  s_op
  s_c stepG_region_end
  s_c stepG_seq
  s_reg
  s_op
  s_op
  s_op
  s_c stepG_region_end
  s_c stepG_ret'
  s_stop
  have t1 := HV.res hxr hcr hdr FV (Nat.le_refl _) (.int .i64 p) (.int .i64 q)
  have t2 := t1.1.res hxr hcr hdr t1.2 (Nat.le_refl _) (.int .i64 p) (.int .i64 q)
  have kr := two_set (two_set KV (.int .i64 p) (.int .i64 q)) (.int .i64 p) (.int .i64 q)
  have f0 := blk0 kr
  have f1 := blk1 kr
  exact LoneTo.done ⟨.returned (.tuple #[.agg #[.int .i64 p, .int .i64 q], .bool true]), _, rfl, ⟨rfl, t2.1, t2.2⟩, rfl, rfl, rfl, rfl, _, Try.func11, by simp [results, Try.f11, Frame.at, go_sem, f0, f1]⟩
set_option maxRecDepth 100000 in
theorem pop60_none (w : World) (x c d cap : Nat) (cl : Bool) (h : QObj 60 w x c d cap [] cl) : Calls Try.prog 11 #[.pointer (some ⟨x, 0, none⟩)] w fun e w' => e = .returned (.tuple #[.agg #[.int .i64 0, .int .i64 0], .bool false]) ∧ QObj 60 w' x c d cap [] cl ∧ Fr (fun k => k = c) w w' := by
  have H : QObj 60 (w.alloc (.cells #[.int .i64 0, .int .i64 0] 28)) x c d cap [] cl := h.over ((Below.refl _ _).alloc (Nat.le_refl _) _)
  obtain ⟨W, hW⟩ : ∃ W, W = (w.alloc (.cells #[.int .i64 0, .int .i64 0] 28)) := ⟨_, rfl⟩
  have K := Blk.new w 28 #[.int .i64 0, .int .i64 0]
  have HF : Fr (fun k => k = c) w W := by rw [hW]; exact Fr.refl.alloc _
  have hcr : c ≠ w.heap.size := fun e => by have := h.clt; omega
  have hxr : x ≠ w.heap.size := fun e => by have := h.xlt; omega
  have hdr : d ≠ w.heap.size := fun e => by have := h.dlt; omega
  rw [← hW] at H K
  have x0 := blk0 H.hx
  obtain ⟨s, r, hc⟩ := H.hc
  have k0 := blk0 K
  have k1 := blk1 K
  have z0 := K.frozen 0
  have z1 := K.frozen 1
  refine calls_of_loneTo fun cs => ?_
  have e : Frame.enter Try.prog 11 #[.pointer (some ⟨x, 0, none⟩)] .normal = (base 11).at ⟨#[.pointer (some ⟨x, 0, none⟩), undef, undef, undef, undef, undef, undef, undef, undef, undef, undef, undef, undef, undef, undef, undef, undef], []⟩ [.code (Try.f11.body.getD .skip)] := by
    simp [Frame.enter, Frame.at, Try.func11, base, Try.f11]
  rw [e]
  refine LoneTo.goes (n := 60) ?_
  simp only [Try.f11, Option.getD_some]
  s_c stepG_seq
  s_reg
  s_op
  s_op
  rw [← hW]
  clear hW
  s_c stepG_region_end
  s_c stepG_seq
  s_c stepG_seq
  s_reg
  s_op
  s_op
  s_c stepG_region_end
  s_cond false
  s_c stepG_skip
  s_c stepG_seq
  s_reg
  s_op
  s_op
  s_op
  s_op
  s_c stepG_region_end
  s_c stepG_seq
  s_reg
  s_stop
  refine LoneTo.step (step_lone_select_default (c := c) (z := (.agg #[.int .i64 0, .int .i64 0])) (cap := cap) (s := s) (r := r) (tm := false)
    (stepG_comm (cases := #[rcase c (.agg #[.int .i64 0, .int .i64 0])]) (blocking := false) (shape := .select) (w' := W) rfl rfl (by decide) (by simp [go_sem, execOp, rcase, Act.eval])) hc) ?_
  rw [Frame.finish_at]
  walk_nrm
  refine LoneTo.goes (n := 60) ?_
  s_op
  s_op
  s_c stepG_region_end
  s_c stepG_block
  s_cond false
  s_c stepG_seq
  s_reg
  s_op
  s_op
  s_op
  s_c stepG_region_end
  s_c stepG_ret'
  s_stop
  have t1 := H.res hxr hcr hdr HF (Nat.le_refl _) (.int .i64 0) (.int .i64 0)
  have kr := two_set K (.int .i64 0) (.int .i64 0)
  have f0 := blk0 kr
  have f1 := blk1 kr
  exact LoneTo.done ⟨.returned (.tuple #[.agg #[.int .i64 0, .int .i64 0], .bool false]), _, rfl, ⟨rfl, t1.1, t1.2⟩, rfl, rfl, rfl, rfl, _, Try.func11, by simp [results, Try.f11, Frame.at, go_sem, f0, f1]⟩
end Go.Proofs.Ytohlcopnifmjoac
