/- bus: BusKeeps, for every input. -/
import Derived.Test.YtohlcopnifmjoacOpen
namespace Go.Proofs.Ytohlcopnifmjoac
open Go.RowKit

/-- two rows of names, of the call's own, apart -/
structure Rows (B : Nat) (w : World) (A1 : Option Addr) (n1 c1 : Nat) (A2 : Option Addr) (n2 c2 : Nat) (l1 l2 : List (Int × Int)) : Prop where
  h1 : w.ownsRow B 28 2 (.slice A1 n1 c1) n1 (flatN l1)
  h2 : w.ownsRow B 28 2 (.slice A2 n2 c2) n2 (flatN l2)
  sep : ∀ g, A1.map (·.block) = some g → A2.map (·.block) ≠ some g
section
variable {B : Nat} {w w' : World} {A1 A2 A' : Option Addr} {n1 c1 n2 c2 n' c' : Nat} {l1 l2 l' : List (Int × Int)}
theorem Rows.nil (w : World) : Rows B w Option.none 0 0 Option.none 0 0 [] [] := ⟨World.ownsRow_nil _ _ _ _, World.ownsRow_nil _ _ _ _, fun g h => by cases h⟩
theorem Rows.fr {x c d cap : Nat} {buf : List Value} {cl : Bool} (h : Rows B w A1 n1 c1 A2 n2 c2 l1 l2) (q : QObj 60 w x c d cap buf cl) (hf : Fr (fun k => k = c) w w') : Rows B w' A1 n1 c1 A2 n2 c2 l1 l2 :=
  ⟨own_fr h.h1 hf (q.notc h.h1), own_fr h.h2 hf (q.notc h.h2), h.sep⟩
theorem Rows.alloc (h : Rows B w A1 n1 c1 A2 n2 c2 l1 l2) (o : Obj) : Rows B (w.alloc o) A1 n1 c1 A2 n2 c2 l1 l2 := ⟨h.h1.alloc o, h.h2.alloc o, h.sep⟩
theorem own_grown {B : Nat} {w w' : World} {A1 A2 : Option Addr} {n1 c1 n2 c2 : Nat} {ys : List Value} (h2 : w.ownsRow B 28 2 (.slice A2 n2 c2) n2 ys) (hg : w.grownBy w' (Value.slice A1 n1 c1).ownBlock) (sep : ∀ g, A1.map (·.block) = some g → A2.map (·.block) ≠ some g) : w'.ownsRow B 28 2 (.slice A2 n2 c2) n2 ys := by
  refine ⟨h2.1, ?_⟩
  rcases h2.2 with h' | ⟨g, cap, cur, hv, hb, hh, rest⟩
  · exact .inl h'
  · refine .inr ⟨g, cap, cur, hv, hb, (hg.block g (Array.getElem?_eq_some_iff.1 hh).1 (fun e => ?_)).trans hh, rest⟩
    rw [own_map] at e
    refine sep g e.symm ?_
    injection hv with hv
    rw [hv]; rfl
theorem Rows.grow1 (h : Rows B w A1 n1 c1 A2 n2 c2 l1 l2) (own : w'.ownsRow B 28 2 (.slice A' n' c') n' (flatN l')) (hg : w.grownBy w' (Value.slice A1 n1 c1).ownBlock)
    (hat : (Value.slice A' n' c').ownBlock = (Value.slice A1 n1 c1).ownBlock ∨ (Value.slice A' n' c').ownBlock = some w.heap.size) : Rows B w' A' n' c' A2 n2 c2 l' l2 := by
  refine ⟨own, own_grown h.h2 hg h.sep, fun g hg' => ?_⟩
  rw [own_map, own_map] at hat
  rcases hat with hat | hat
  · exact h.sep g (hat ▸ hg')
  · intro e
    have := (h.h2.lt g (by rw [own_map]; exact e)).2
    rw [hg'] at hat
    injection hat with hat
    omega
theorem Rows.grow2 (h : Rows B w A1 n1 c1 A2 n2 c2 l1 l2) (own : w'.ownsRow B 28 2 (.slice A' n' c') n' (flatN l')) (hg : w.grownBy w' (Value.slice A2 n2 c2).ownBlock)
    (hat : (Value.slice A' n' c').ownBlock = (Value.slice A2 n2 c2).ownBlock ∨ (Value.slice A' n' c').ownBlock = some w.heap.size) : Rows B w' A1 n1 c1 A' n' c' l1 l' := by
  refine ⟨own_grown h.h1 hg (fun g h2 h1 => h.sep g h1 h2), own, fun g hg' e => ?_⟩
  rw [own_map, own_map] at hat
  rcases hat with hat | hat
  · exact h.sep g hg' (hat ▸ e)
  · have := (h.h1.lt g (by rw [own_map]; exact hg')).2
    rw [e] at hat
    injection hat with hat
    omega
end
theorem aggs_snoc (l : List (Int × Int)) (p q : Int) : aggs l ++ [.agg #[.int .i64 p, .int .i64 q]] = aggs (l ++ [(p, q)]) := by simp [aggs]
theorem QObj.own60 {t : TypeId} {w w' : World} {x c d cap : Nat} {buf : List Value} {cl : Bool} (h : QObj t w x c d cap buf cl) (hb : Below w.heap.size w w') : QObj t w' x c d cap buf cl := h.over hb
theorem Bls.ok.len {w : World} {s : Bls} (h : s.ok w) : s.bs.length = s.n := by have := h.hr.1; simp [boolV] at this; exact this
theorem Nms.ok.len {w : World} {s : Nms} (h : s.ok w) : s.ss.length = s.n := by have := h.hr.1; rw [flatN_length] at this; omega
theorem one2 (p q : Int) : ∀ u ∈ [Value.int .i64 p, Value.int .i64 q], u.oneCell' = true := by intro u hu; simp at hu; rcases hu with rfl | rfl <;> rfl
theorem flat2 (p q : Int) : [Value.int .i64 p, Value.int .i64 q] = flatN [(p, q)] := rfl
def KInv (w0 w : World) (x c d cap : Nat) (A1 : Option Addr) (n1 c1 : Nat) (A2 : Option Addr) (n2 c2 : Nat) (bufL outL : List (Int × Int)) : Prop :=
  QObj 60 w x c d cap (aggs bufL) false ∧ Rows w0.heap.size w A1 n1 c1 A2 n2 c2 (outL ++ bufL) outL ∧ Below w0.heap.size w0 w

theorem app_mid (l r : List (Int × Int)) (x : Int × Int) : l ++ (x :: r) = (l ++ [x]) ++ r := by simp
-- WALK
set_option maxRecDepth 100000 in
set_option maxHeartbeats 4000000 in
theorem keeps_any (a0 : Int) (_w0 : (Lit.int .u8 a0).wf = true) (A : Option Addr) (n c : Nat) (ss : List (Int × Int)) (A2 : Option Addr) (n2 c2 : Nat) (bs : List Bool) (w : World) (ok1 : (⟨A, n, c, ss⟩ : Nms).ok w) (okb2 : (⟨A2, n2, c2, bs⟩ : Bls).ok w) :
    Calls Try.prog 3 #[.int .u8 a0, .slice A n c, .slice A2 n2 c2] w fun e w' => e = .returned (.bool true) ∧ Below w.heap.size w w' := by
  have hmax := ok1.hn
  have hmaxb := okb2.hn
  unfold maxLen at hmax hmaxb
  dsimp only at hmax hmaxb
  have OK := Lib.hid ok1
  have OKB := Lib.hid okb2
  clear ok1 okb2
  by_cases h60 : 60 < n
  · go_enter Try.func3, Try.ntmps3
    go_wp2_with (go_at_call 6; refine (live_any _).mono ?_; rintro e w' ⟨rfl, hb⟩; have HB := Lib.hid hb; clear hb)
    go_ret
    exact ⟨rfl, HB.out⟩
  have d60 : decide (60 < (n : Int)) = false := by simp; omega
  go_enter Try.func3, Try.ntmps3
  go_wp2_with fail
  refine (new60_any _ _).mono ?_
  rintro e w1 ⟨x, cc, d, rfl, h1, hx, hc, hd, hb1⟩
  obtain ⟨cap, hcap⟩ : ∃ cap, cap = capQ (wrap64 a0) := ⟨_, rfl⟩
  rw [← hcap] at h1
  clear hcap
  have H1 := Lib.hid h1
  have R1 := Lib.hid (Rows.nil (B := w.heap.size) w1)
  have B1 := Lib.hid hb1
  clear h1 hb1
  go_wp2_with fail
  go_loopw [8, 9, 10] (fun a o i wr => ∃ j : Nat, j ≤ n ∧ i = .int .i64 j ∧ ∃ (A5 : Option Addr) (n5 c5 : Nat) (A3 : Option Addr) (n3 c3 : Nat) (bufL outL : List (Int × Int)), a = .slice A5 n5 c5 ∧ o = .slice A3 n3 c3 ∧ n5 ≤ j ∧ n3 ≤ j ∧ Hid (QObj 60 wr x cc d cap (aggs bufL) false) ∧ Hid (Rows w.heap.size wr A5 n5 c5 A3 n3 c3 (outL ++ bufL) outL) ∧ Hid (Below w.heap.size w wr)) (fun _ _ i _ => n - (intOf i).toNat)
  case atStart => exact ⟨0, Nat.zero_le _, rfl, Option.none, 0, 0, Option.none, 0, 0, [], [], rfl, rfl, Nat.zero_le _, Nat.zero_le _, H1, R1, B1⟩
  case round =>
    obtain ⟨j, hj, rfl, A5, n5, c5, A3, n3, c3, bufL, outL, rfl, rfl, hn5, hn3, HQ, HR, HB⟩ := hrel
    clear H1 R1 B1
    by_cases hlt : j < n
    · obtain ⟨b, off, ⟨p, q⟩, rfl, hbl, hy, hc0, hc1⟩ := names_at OK.out.hr hlt
      have HC0 := Lib.hid hc0
      have HC1 := Lib.hid hc1
      dsimp only at HC0 HC1
      clear hy hc0 hc1
      have hcr0 := (HB.out.cell (p := ⟨b, off + j * 2, Option.none⟩) hbl).trans HC0.out
      have hcr1 := (HB.out.cell (p := ⟨b, off + j * 2 + 1, Option.none⟩) hbl).trans HC1.out
      have hlt' : (j : Int) < (n : Int) := by omega
      have h0' : (0 : Int) ≤ (j : Int) := by omega
      go_wp2_with fail
      clear hcr0 hcr1
      by_cases hjb : j < n2
      · obtain ⟨bb, boff, y, rfl, hbb, hbc⟩ := bools_at OKB.out.hr hjb
        have HBC := Lib.hid hbc
        have hjb' : (j : Int) < (n2 : Int) := by omega
        clear hbc
        cases y with
        | false =>
          by_cases hroom : bufL.length < cap
          · refine (push60_any _ x cc d cap _ false p q HQ.out true (aggs (bufL ++ [(p, q)])) (.inl ⟨rfl, rfl, by rw [aggs_length]; exact hroom, (aggs_snoc bufL p q).symm⟩)).mono ?_
            rintro e2 w2 ⟨rfl, hq2, hf2⟩
            have hr2 := HR.out.fr HQ.out hf2
            have hb2 := HB.out.trans (hf2.below (fun k hk => by omega) HB.out.size)
            have hcr0 := (hb2.cell (p := ⟨b, off + j * 2, Option.none⟩) hbl).trans HC0.out
            have hcr1 := (hb2.cell (p := ⟨b, off + j * 2 + 1, Option.none⟩) hbl).trans HC1.out
            have HQ3 := Lib.hid (hq2.over ((Below.refl _ _).alloc (Nat.le_refl _) (.cells #[.int .i64 p, .int .i64 q] 28)))
            have HR3 := Lib.hid (hr2.alloc (.cells #[.int .i64 p, .int .i64 q] 28))
            have HB3 := Lib.hid (hb2.alloc hb2.size (.cells #[.int .i64 p, .int .i64 q] 28))
            have RD := Lib.hid (reads_newN w2 28 (0, 0) 2 1 [.int .i64 p, .int .i64 q] rfl)
            obtain ⟨⟨u, v⟩, rest, hbuf⟩ : ∃ y rest, bufL ++ [(p, q)] = y :: rest := by cases bufL with | nil => exact ⟨_, _, rfl⟩ | cons y r => exact ⟨_, _, rfl⟩
            rw [hbuf] at HQ3
            have HBUF := Lib.hid hbuf
            clear hq2 hf2 hr2 hb2 HQ HR HB hroom hbuf
            go_wp2_with (at_builtin
                         go_must (
                           refine wpList_appN _ id_ty rfl (.tmp 34) (.tmp 39) rfl rfl HR3.out.h1 HB3.out.size rfl RD.out (one2 p q) (by unfold maxLen; omega) (by omega) ?_
                           intro A4 c4 w4 own4 hg4 hat4
                           have HB := Lib.hid (below_app HB3.out HR3.out.h1 hg4)
                           rw [flat2, flatN_append, List.append_assoc, HBUF.out] at own4
                           have HR := Lib.hid (HR3.out.grow1 own4 hg4 hat4)
                           rw [own_map] at hg4
                           have HQ := Lib.hid (HQ3.out.grown HR3.out.h1 hg4 (by decide))
                           have hbx := (HB.out.cell (p := ⟨bb, boff + j, Option.none⟩) hbb).trans HBC.out
                           clear own4 hg4 hat4))
            exact ⟨⟨j + 1, by omega, by go_num, _, _, _, _, _, _, _, _, rfl, rfl, by omega, by omega, HQ, HR, HB⟩, by simp [intOf]; omega⟩
          · have d1 : decide ((aggs bufL).length < cap) = false := by rw [aggs_length]; simpa using hroom
            have hcap1 := HQ.out.h1
            obtain ⟨⟨u, v⟩, rest, rfl⟩ : ∃ y rest, bufL = y :: rest := by cases bufL with | nil => simp at hroom; omega | cons y r => exact ⟨_, _, rfl⟩
            refine (push60_any _ x cc d cap _ false p q HQ.out false (aggs ((u, v) :: rest)) (.inr ⟨rfl, .inr (by rw [aggs_length]; omega), rfl⟩)).mono ?_
            rintro e2 w2 ⟨rfl, hq2, hf2⟩
            have hr2 := HR.out.fr HQ.out hf2
            have hb2 := HB.out.trans (hf2.below (fun k hk => by omega) HB.out.size)
            clear HQ HR HB hf2
            have HQ := Lib.hid hq2
            have HR := Lib.hid hr2
            have HB := Lib.hid hb2
            have hbx := (HB.out.cell (p := ⟨bb, boff + j, Option.none⟩) hbb).trans HBC.out
            clear hq2 hr2 hb2 hcap1 hroom
            go_wp2_with (first
              | (go_at_call 9; refine (len60_any _ x cc d cap _ false HQ.out).mono ?_; rintro e3 w3 ⟨rfl, rfl⟩)
              | (go_at_call 10; refine (size60_any _ x cc d cap _ false HQ.out).mono ?_; rintro e3 w3 ⟨rfl, rfl⟩))
            exact ⟨⟨j + 1, by omega, by go_num, _, _, _, _, _, _, _, _, rfl, rfl, by omega, by omega, HQ, HR, HB⟩, by simp [intOf]; omega⟩
        | true =>
          by_cases hroom : bufL.length < cap
          · refine (push60_any _ x cc d cap _ false p q HQ.out true (aggs (bufL ++ [(p, q)])) (.inl ⟨rfl, rfl, by rw [aggs_length]; exact hroom, (aggs_snoc bufL p q).symm⟩)).mono ?_
            rintro e2 w2 ⟨rfl, hq2, hf2⟩
            have hr2 := HR.out.fr HQ.out hf2
            have hb2 := HB.out.trans (hf2.below (fun k hk => by omega) HB.out.size)
            have hcr0 := (hb2.cell (p := ⟨b, off + j * 2, Option.none⟩) hbl).trans HC0.out
            have hcr1 := (hb2.cell (p := ⟨b, off + j * 2 + 1, Option.none⟩) hbl).trans HC1.out
            have HQ3 := Lib.hid (hq2.over ((Below.refl _ _).alloc (Nat.le_refl _) (.cells #[.int .i64 p, .int .i64 q] 28)))
            have HR3 := Lib.hid (hr2.alloc (.cells #[.int .i64 p, .int .i64 q] 28))
            have HB3 := Lib.hid (hb2.alloc hb2.size (.cells #[.int .i64 p, .int .i64 q] 28))
            have RD := Lib.hid (reads_newN w2 28 (0, 0) 2 1 [.int .i64 p, .int .i64 q] rfl)
            obtain ⟨⟨u, v⟩, rest, hbuf⟩ : ∃ y rest, bufL ++ [(p, q)] = y :: rest := by cases bufL with | nil => exact ⟨_, _, rfl⟩ | cons y r => exact ⟨_, _, rfl⟩
            rw [hbuf] at HQ3
            have HBUF := Lib.hid hbuf
            clear hq2 hf2 hr2 hb2 HQ HR HB hroom hbuf
            go_wp2_with (at_builtin
                         go_must (
                           refine wpList_appN _ id_ty rfl (.tmp 34) (.tmp 39) rfl rfl HR3.out.h1 HB3.out.size rfl RD.out (one2 p q) (by unfold maxLen; omega) (by omega) ?_
                           intro A4 c4 w4 own4 hg4 hat4
                           have HB := Lib.hid (below_app HB3.out HR3.out.h1 hg4)
                           rw [flat2, flatN_append, List.append_assoc, HBUF.out] at own4
                           have HR := Lib.hid (HR3.out.grow1 own4 hg4 hat4)
                           rw [own_map] at hg4
                           have HQ := Lib.hid (HQ3.out.grown HR3.out.h1 hg4 (by decide))
                           have hbx := (HB.out.cell (p := ⟨bb, boff + j, Option.none⟩) hbb).trans HBC.out
                           clear own4 hg4 hat4))
            clear hbx
            refine (pop60_some _ x cc d cap u v _ false HQ.out).mono ?_
            rintro e5 w5 ⟨rfl, hq5, hf5⟩
            have hr5 := HR.out.fr HQ.out hf5
            have hb5 := HB.out.trans (hf5.below (fun k hk => by omega) HB.out.size)
            have ba := (Below.refl w5.heap.size w5).alloc (Nat.le_refl _) (.cells #[.int .i64 u, .int .i64 v] 28)
            have HQ6 := Lib.hid ((hq5.over ba).over ((Below.refl _ _).alloc (Nat.le_refl _) (.cells #[.int .i64 u, .int .i64 v] 28)))
            have HR6 := Lib.hid ((hr5.alloc (.cells #[.int .i64 u, .int .i64 v] 28)).alloc (.cells #[.int .i64 u, .int .i64 v] 28))
            have hb6 := hb5.alloc hb5.size (.cells #[.int .i64 u, .int .i64 v] 28)
            have HB6 := Lib.hid (hb6.alloc hb6.size (.cells #[.int .i64 u, .int .i64 v] 28))
            have rd := reads_newN (w5.alloc (.cells #[.int .i64 u, .int .i64 v] 28)) 28 (0, 0) 2 1 [.int .i64 u, .int .i64 v] rfl
            rw [World.size_alloc] at rd
            have RD6 := Lib.hid rd
            clear hq5 hf5 hr5 hb5 hb6 ba rd HQ HR HB
            go_wp2_with (at_builtin
                         go_must (
                           refine wpList_appN _ id_ty rfl (.tmp 63) (.tmp 65) rfl rfl HR6.out.h2 HB6.out.size rfl RD6.out (one2 u v) (by unfold maxLen; omega) (by omega) ?_
                           intro A7 c7 w7 own7 hg7 hat7
                           have HB := Lib.hid (below_app HB6.out HR6.out.h2 hg7)
                           rw [flat2, flatN_append] at own7
                           have hr7 := HR6.out.grow2 own7 hg7 hat7
                           rw [own_map] at hg7
                           have HQ := Lib.hid (HQ6.out.grown HR6.out.h2 hg7 (by decide))
                           rw [app_mid] at hr7
                           have HR := Lib.hid hr7
                           clear own7 hg7 hat7 hr7))
            exact ⟨⟨j + 1, by omega, by go_num, _, _, _, _, _, _, _, _, rfl, rfl, by omega, by omega, HQ, HR, HB⟩, by simp [intOf]; omega⟩
          · have d1 : decide ((aggs bufL).length < cap) = false := by rw [aggs_length]; simpa using hroom
            have hcap1 := HQ.out.h1
            obtain ⟨⟨u, v⟩, rest, rfl⟩ : ∃ y rest, bufL = y :: rest := by cases bufL with | nil => simp at hroom; omega | cons y r => exact ⟨_, _, rfl⟩
            refine (push60_any _ x cc d cap _ false p q HQ.out false (aggs ((u, v) :: rest)) (.inr ⟨rfl, .inr (by rw [aggs_length]; omega), rfl⟩)).mono ?_
            rintro e2 w2 ⟨rfl, hq2, hf2⟩
            have hr2 := HR.out.fr HQ.out hf2
            have hb2 := HB.out.trans (hf2.below (fun k hk => by omega) HB.out.size)
            clear HQ HR HB hf2
            have HQ := Lib.hid hq2
            have HR := Lib.hid hr2
            have HB := Lib.hid hb2
            have hbx := (HB.out.cell (p := ⟨bb, boff + j, Option.none⟩) hbb).trans HBC.out
            clear hq2 hr2 hb2 hcap1 hroom
            go_wp2_with (first
              | (go_at_call 9; refine (len60_any _ x cc d cap _ false HQ.out).mono ?_; rintro e3 w3 ⟨rfl, rfl⟩)
              | (go_at_call 10; refine (size60_any _ x cc d cap _ false HQ.out).mono ?_; rintro e3 w3 ⟨rfl, rfl⟩))
            clear hbx
            refine (pop60_some _ x cc d cap u v _ false HQ.out).mono ?_
            rintro e5 w5 ⟨rfl, hq5, hf5⟩
            have hr5 := HR.out.fr HQ.out hf5
            have hb5 := HB.out.trans (hf5.below (fun k hk => by omega) HB.out.size)
            have ba := (Below.refl w5.heap.size w5).alloc (Nat.le_refl _) (.cells #[.int .i64 u, .int .i64 v] 28)
            have HQ6 := Lib.hid ((hq5.over ba).over ((Below.refl _ _).alloc (Nat.le_refl _) (.cells #[.int .i64 u, .int .i64 v] 28)))
            have HR6 := Lib.hid ((hr5.alloc (.cells #[.int .i64 u, .int .i64 v] 28)).alloc (.cells #[.int .i64 u, .int .i64 v] 28))
            have hb6 := hb5.alloc hb5.size (.cells #[.int .i64 u, .int .i64 v] 28)
            have HB6 := Lib.hid (hb6.alloc hb6.size (.cells #[.int .i64 u, .int .i64 v] 28))
            have rd := reads_newN (w5.alloc (.cells #[.int .i64 u, .int .i64 v] 28)) 28 (0, 0) 2 1 [.int .i64 u, .int .i64 v] rfl
            rw [World.size_alloc] at rd
            have RD6 := Lib.hid rd
            clear hq5 hf5 hr5 hb5 hb6 ba rd HQ HR HB
            go_wp2_with (at_builtin
                         go_must (
                           refine wpList_appN _ id_ty rfl (.tmp 63) (.tmp 65) rfl rfl HR6.out.h2 HB6.out.size rfl RD6.out (one2 u v) (by unfold maxLen; omega) (by omega) ?_
                           intro A7 c7 w7 own7 hg7 hat7
                           have HB := Lib.hid (below_app HB6.out HR6.out.h2 hg7)
                           rw [flat2, flatN_append] at own7
                           have hr7 := HR6.out.grow2 own7 hg7 hat7
                           rw [own_map] at hg7
                           have HQ := Lib.hid (HQ6.out.grown HR6.out.h2 hg7 (by decide))
                           rw [app_mid] at hr7
                           have HR := Lib.hid hr7
                           clear own7 hg7 hat7 hr7))
            exact ⟨⟨j + 1, by omega, by go_num, _, _, _, _, _, _, _, _, rfl, rfl, by omega, by omega, HQ, HR, HB⟩, by simp [intOf]; omega⟩
      · have hjb' : decide ((j : Int) < (n2 : Int)) = false := by simp; omega
        by_cases hroom : bufL.length < cap
        · refine (push60_any _ x cc d cap _ false p q HQ.out true (aggs (bufL ++ [(p, q)])) (.inl ⟨rfl, rfl, by rw [aggs_length]; exact hroom, (aggs_snoc bufL p q).symm⟩)).mono ?_
          rintro e2 w2 ⟨rfl, hq2, hf2⟩
          have hr2 := HR.out.fr HQ.out hf2
          have hb2 := HB.out.trans (hf2.below (fun k hk => by omega) HB.out.size)
          have hcr0 := (hb2.cell (p := ⟨b, off + j * 2, Option.none⟩) hbl).trans HC0.out
          have hcr1 := (hb2.cell (p := ⟨b, off + j * 2 + 1, Option.none⟩) hbl).trans HC1.out
          have HQ3 := Lib.hid (hq2.over ((Below.refl _ _).alloc (Nat.le_refl _) (.cells #[.int .i64 p, .int .i64 q] 28)))
          have HR3 := Lib.hid (hr2.alloc (.cells #[.int .i64 p, .int .i64 q] 28))
          have HB3 := Lib.hid (hb2.alloc hb2.size (.cells #[.int .i64 p, .int .i64 q] 28))
          have RD := Lib.hid (reads_newN w2 28 (0, 0) 2 1 [.int .i64 p, .int .i64 q] rfl)
          obtain ⟨⟨u, v⟩, rest, hbuf⟩ : ∃ y rest, bufL ++ [(p, q)] = y :: rest := by cases bufL with | nil => exact ⟨_, _, rfl⟩ | cons y r => exact ⟨_, _, rfl⟩
          rw [hbuf] at HQ3
          have HBUF := Lib.hid hbuf
          clear hq2 hf2 hr2 hb2 HQ HR HB hroom hbuf
          go_wp2_with (at_builtin
                       go_must (
                         refine wpList_appN _ id_ty rfl (.tmp 34) (.tmp 39) rfl rfl HR3.out.h1 HB3.out.size rfl RD.out (one2 p q) (by unfold maxLen; omega) (by omega) ?_
                         intro A4 c4 w4 own4 hg4 hat4
                         have HB := Lib.hid (below_app HB3.out HR3.out.h1 hg4)
                         rw [flat2, flatN_append, List.append_assoc, HBUF.out] at own4
                         have HR := Lib.hid (HR3.out.grow1 own4 hg4 hat4)
                         rw [own_map] at hg4
                         have HQ := Lib.hid (HQ3.out.grown HR3.out.h1 hg4 (by decide))
                         skip
                         clear own4 hg4 hat4))
          exact ⟨⟨j + 1, by omega, by go_num, _, _, _, _, _, _, _, _, rfl, rfl, by omega, by omega, HQ, HR, HB⟩, by simp [intOf]; omega⟩
        · have d1 : decide ((aggs bufL).length < cap) = false := by rw [aggs_length]; simpa using hroom
          have hcap1 := HQ.out.h1
          obtain ⟨⟨u, v⟩, rest, rfl⟩ : ∃ y rest, bufL = y :: rest := by cases bufL with | nil => simp at hroom; omega | cons y r => exact ⟨_, _, rfl⟩
          refine (push60_any _ x cc d cap _ false p q HQ.out false (aggs ((u, v) :: rest)) (.inr ⟨rfl, .inr (by rw [aggs_length]; omega), rfl⟩)).mono ?_
          rintro e2 w2 ⟨rfl, hq2, hf2⟩
          have hr2 := HR.out.fr HQ.out hf2
          have hb2 := HB.out.trans (hf2.below (fun k hk => by omega) HB.out.size)
          clear HQ HR HB hf2
          have HQ := Lib.hid hq2
          have HR := Lib.hid hr2
          have HB := Lib.hid hb2
          skip
          clear hq2 hr2 hb2 hcap1 hroom
          go_wp2_with (first
            | (go_at_call 9; refine (len60_any _ x cc d cap _ false HQ.out).mono ?_; rintro e3 w3 ⟨rfl, rfl⟩)
            | (go_at_call 10; refine (size60_any _ x cc d cap _ false HQ.out).mono ?_; rintro e3 w3 ⟨rfl, rfl⟩))
          exact ⟨⟨j + 1, by omega, by go_num, _, _, _, _, _, _, _, _, rfl, rfl, by omega, by omega, HQ, HR, HB⟩, by simp [intOf]; omega⟩
    · obtain rfl : j = n := by omega
      go_wp2_with fail
      obtain rfl : n5 = n3 + bufL.length := by have h1 := HR.out.h1.1; have h2 := HR.out.h2.1; rw [flatN_length] at h1 h2; simp at h1; omega
      refine (drain60_any _ x cc d cap bufL false (by omega) HQ.out).mono ?_
      rintro e2 w2 ⟨A6, c6, rfl, own6, hq2, hf2⟩
      have HR2 := Lib.hid (HR.out.fr HQ.out hf2)
      have HB2 := Lib.hid (HB.out.trans (hf2.below (fun k hk => by omega) HB.out.size))
      have RD := Lib.hid (Reads.of_own own6)
      have HQ2 := Lib.hid hq2
      clear hq2 hf2 own6 HQ HR HB
      go_wp2_with (first
        | (at_builtin
           go_must (
             refine wpList_appN _ id_ty rfl (.tmp 67) (.tmp 69) rfl rfl HR2.out.h2 HB2.out.size rfl RD.out (flatN_one bufL) (by unfold maxLen; omega) (by omega) ?_
             intro A4 c4 w4 own4 hg4 hat4
             have HB := Lib.hid (below_app HB2.out HR2.out.h2 hg4)
             rw [flatN_append] at own4
             have hr4 := HR2.out.grow2 own4 hg4 hat4
             rw [own_map] at hg4
             have HQ := Lib.hid (HQ2.out.grown HR2.out.h2 hg4 (by decide))
             have RX := Lib.hid (Reads.of_own hr4.h1)
             have RY := Lib.hid (Reads.of_own hr4.h2)
             clear own4 hg4 hat4 hr4))
        | (go_at_call 12; refine (sameids_any _ _ _ _ _ _ _ (by omega) RY.out RX.out).mono ?_; rintro e5 w5 ⟨rfl, dd, rfl⟩; have HQ' := Lib.hid (HQ.out.keep (w' := w4.drewN dd) rfl rfl rfl); clear HQ)
        | (go_at_call 9; refine (len60_any _ x cc d cap _ false HQ'.out).mono ?_; rintro e6 w6 ⟨rfl, rfl⟩)
        | (go_at_call 6; refine (live_any _).mono ?_; rintro e7 w7 ⟨rfl, hb⟩; have HB7 := Lib.hid hb; clear hb))
      go_ret
      have BX : Below w.heap.size w (w4.drewN dd) := ⟨HB.out.os, HB.out.tape, HB.out.output, HB.out.size, HB.out.block⟩
      exact ⟨rfl, (BX.trans (HB7.out.mono BX.size))⟩
end Go.Proofs.Ytohlcopnifmjoac
