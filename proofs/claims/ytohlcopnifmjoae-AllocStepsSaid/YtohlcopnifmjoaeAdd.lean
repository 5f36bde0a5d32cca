/- alloc: the walks that write: Clone, add, Take, New. -/
import Derived.Test.YtohlcopnifmjoaeObj
namespace Go.Proofs.Ytohlcopnifmjoae
open Go.RowKit

theorem i64_info : (Try.prog.info? 3).map (fun i => (i.zero, i.size, i.bytes)) = some (some (.int .i64 0), 1, 8) := by kernel_rfl
theorem i64_ty : Ty1 Try.prog 27 3 (.int .i64 0) 8 := ⟨Try.underlying27, by obtain ⟨i, h⟩ := info_parts i64_info; exact ⟨i, h⟩, rfl⟩
theorem own_some {w : World} {B : Nat} {A : Option Addr} {n c k : Nat} {xs : List Value} (h : w.ownsRow B 3 1 (.slice A n c) n xs) (hk : (Value.slice A n c).ownBlock = some k) : A = some ⟨k, 0, none⟩ := by
  rcases h.2 with ⟨h', _⟩ | ⟨g, cap, cur, h', _⟩
  · simp at h'
    obtain ⟨rfl, _⟩ := h'
    simp [Value.ownBlock] at hk
  · simp at h'
    obtain ⟨rfl, _⟩ := h'
    simp [Value.ownBlock] at hk
    rw [hk]

/-- a clone of a slice that is not nil: a row of the call's own -/
def ClonePost (w : World) (xs : List Int) (e : Ending) (w' : World) : Prop := ∃ g c, e = .returned (.slice (some ⟨g, 0, none⟩) xs.length c) ∧ w'.ownsRow w.heap.size 3 1 (.slice (some ⟨g, 0, none⟩) xs.length c) xs.length (ints xs) ∧ Below w.heap.size w w'
set_option maxHeartbeats 400000 in
theorem clone_some (ad : Addr) (n c : Nat) (xs : List Int) (w : World) (hr : Reads w w.heap.size 1 (some ad) n (ints xs)) (hn : n ≤ 1000000) :
    Calls Try.prog 29 #[.slice (some ad) n c] w (ClonePost w xs) := by
  have hl := hr.ilen
  have HL := Lib.hid hl
  have he := fun w => Lib.run_eql_slice_nil (P := Try.prog) w 27 3 (some ad) n c 0 0 Try.underlying27
  have b1 : Below w.heap.size w (w.alloc (.cells #[] 3)) := (Below.refl _ _).alloc (Nat.le_refl _) _
  have own1 := World.ownsRow_made (base := w.heap.size) (e := 3) (size := 1) w #[] 0 (by simp) (by simp) (by simp)
  have R1 := Lib.hid (hr.over b1)
  have B1 := Lib.hid b1
  have O1 := Lib.hid own1
  clear b1 own1 hr hl
  go_enter Try.func29, Try.ntmps29
  go_wp2_with (at_builtin
               go_must (
                 refine wpList_app1 _ i64_ty rfl (.tmp 5) (.tmp 6) rfl rfl B1.out O1.out rfl R1.out (ints_one xs) (by unfold maxLen; omega) (by omega) ?_
                 intro A4 c4 w4 b4 own4 hg4 hat4
                 have B4 := Lib.hid b4
                 simp only [Nat.zero_add, List.nil_append] at own4 hat4 ⊢
                 have O4 := Lib.hid own4
                 have T4 := Lib.hid hat4
                 clear own4 hg4 hat4 b4))
  go_ret
  have := HL.out
  subst this
  have hA : ∃ k, A4 = some ⟨k, 0, none⟩ := by
    rcases T4.out with h | h
    · exact ⟨_, own_some O4.out h⟩
    · exact ⟨_, own_some O4.out h⟩
  obtain ⟨k, hk⟩ := hA
  have o4 := O4.out
  rw [hk] at o4 ⊢
  exact ⟨k, c4, rfl, o4, B4.out⟩
theorem clone_nil (w : World) : Calls Try.prog 29 #[.slice none 0 0] w fun e w' => e = .returned (.slice none 0 0) ∧ w = w' := by
  have he := fun w => Lib.run_eql_slice_nil (P := Try.prog) w 27 3 none 0 0 0 0 Try.underlying27
  go_enter Try.func29, Try.ntmps29
  go_wp2
  go_ret
  exact ⟨rfl, rfl⟩

/-- what an operation leaves -/
def PostA (w : World) (B ga g : Nat) (rs' : List Int) (v : Value) (e : Ending) (w' : World) : Prop :=
  e = .returned v ∧ ∃ g' c', AObj w' B ga g' c' rs' ∧ Fr ga g w w' ∧ (g' = g ∨ w.heap.size ≤ g')
theorem PostA.same {w w' : World} {B ga g c : Nat} {rs : List Int} {v : Value} {e : Ending} (h : AObj w B ga g c rs) (he : e = .returned v) (hb : Below w.heap.size w w') : PostA w B ga g rs v e w' :=
  ⟨he, g, c, h.over hb, Fr.of_below hb, .inl rfl⟩

set_option maxHeartbeats 1000000 in
theorem add_any (by_ : Int) (hby : by_ = 1 ∨ by_ = -1) (B ga g c : Nat) (rs : List Int) (m : Int) (hw : Within m rs) (hm : m ≤ 1000000) (A : Option Addr) (n cl : Nat) (l : List Int) (hn : n ≤ 1000000) (w : World) (h : AObj w B ga g c rs) (hr : Reads w w.heap.size 1 A n (ints l)) :
    Calls Try.prog 27 #[.pointer (some ⟨ga, 0, none⟩), .int .i64 by_, .slice A n cl] w (PostA w B ga g ((addL by_ rs l).getD rs) (.bool (addL by_ rs l).isSome)) := by
  have hc := h.cell
  have hrd := Lib.hid h.reads
  have H := Lib.hid h
  have HR := Lib.hid hr
  have HL := Lib.hid hr.ilen
  have h1024 := h.hn
  have HW := Lib.hid hw
  clear hw h hr
  have hby1 : -1 ≤ by_ := by omega
  have hby2 : by_ ≤ 1 := by omega
  clear hby
  go_enter Try.func27, Try.ntmps27
  go_wp2_with fail
  refine (clone_some _ _ _ rs _ hrd.out (by omega)).mono ?_
  rintro e1 w1 ⟨g1, c1, rfl, ho1, hb1⟩
  have H1 := Lib.hid (H.out.over hb1)
  have hc1 := H1.out.cell
  have HO1 := Lib.hid ho1
  have HB1 := Lib.hid hb1
  clear ho1 hb1
  go_wp2_with fail
  go_loopw [19] (fun i wr => ∃ k : Nat, k ≤ n ∧ i = .int .i64 k ∧ ∃ r : List Int, Hid (addL by_ rs (l.take k) = some r) ∧ Hid (wr.ownsRow w.heap.size 3 1 (.slice (some ⟨g1, 0, none⟩) rs.length c1) rs.length (ints r)) ∧ Hid (Below w.heap.size w wr)) (fun i _ => n - (intOf i).toNat)
  case atStart => exact ⟨0, Nat.zero_le _, rfl, rs, rfl, HO1, HB1⟩
  case round =>
    obtain ⟨k, hk, rfl, r, HA, HO, HB⟩ := hrel
    have HX := Lib.hid (H.out.over HB.out)
    have hcx := HX.out.cell
    have hrl := addL_length HA.out
    have HRL := Lib.hid hrl
    by_cases hlt : k < n
    · obtain ⟨b, off, rfl, _, hl, hcl⟩ := (HR.out.over HB.out).int hlt
      obtain ⟨p, hp⟩ : ∃ p, p = l[k] := ⟨_, rfl⟩
      rw [← hp] at hcl
      have HP := Lib.hid hp
      have hwr := HW.out.addL hby2 HA.out
      have hlen : ((l.take k).length : Int) ≤ 1000000 := by rw [List.length_take]; omega
      clear hp hrl
      by_cases hin : 0 ≤ p ∧ p < rs.length
      · obtain ⟨q, rfl⟩ := Int.eq_ofNat_of_zero_le hin.1
        have hq : q < rs.length := by omega
        have hqr : q < r.length := by rw [HRL.out]; exact hq
        have hB : inB (q : Int) rs.length = true := decide_eq_true hin
        have HIB := Lib.hid hB
        obtain ⟨x, hx⟩ : ∃ x, x = r.getD q 0 := ⟨_, rfl⟩
        have hxb := hwr.get q hqr
        rw [← hx] at hxb
        have hcell : wr.cell? ⟨g1, q, none⟩ = some (.int .i64 x) := by
          rw [HO.out.cellAt q (by omega), ints_get hqr, hx, List.getD_eq_getElem?_getD, List.getElem?_eq_getElem hqr]
          rfl
        have hfz := HO.out.frozenAt q
        have HX2 := Lib.hid hx
        have hstep : addStep by_ r (q : Int) = if 0 ≤ x + by_ then some (r.set q (x + by_)) else none := by
          unfold addStep
          rw [Int.toNat_natCast, HRL.out, ← hx]
          by_cases hge : 0 ≤ x + by_
          · rw [if_pos ⟨hin.1, hin.2, hge⟩, if_pos hge]
          · rw [if_neg (by omega), if_neg hge]
        have HS := Lib.hid hstep
        clear hB hin hx hstep hwr
        by_cases hge : x + by_ < 0
        · have hn0 : addL by_ rs l = none := addL_none hl HA.out (by rw [← HP.out, HS.out, if_neg (by omega)])
          have HN := Lib.hid hn0
          clear hn0
          go_wp2_with (go_at_call 26; refine (there_to true _ _ _ _ _ _ _ HX.out HIB.out).mono ?_; rintro e w' ⟨rfl, rfl⟩)
          go_ret
          rw [HN.out]
          exact PostA.same H.out rfl HB.out
        · have d : decide (x + by_ < 0) = false := by simp; omega
          have hge' : 0 ≤ x + by_ := by omega
          have HG := Lib.hid hge'
          have HST := Lib.hid (HO.out.stored q (.int .i64 (x + by_)))
          have HB2 := Lib.hid (HB.out.setCell (p := ⟨g1, q, none⟩) (HO.out.lt g1 rfl).1 (.int .i64 (x + by_)))
          go_wp2_with (go_at_call 26; refine (there_to true _ _ _ _ _ _ _ HX.out HIB.out).mono ?_; rintro e w' ⟨rfl, rfl⟩)
          refine ⟨⟨k + 1, by omega, by go_num, r.set q (x + by_), ?_, ?_, HB2⟩, by simp [intOf]; omega⟩
          · have : addL by_ rs (l.take (k + 1)) = some (r.set q (x + by_)) := by
              rw [List.take_succ_eq_append_getElem hl, addL_snoc HA.out, ← HP.out, HS.out, if_pos HG.out]
            exact this
          · have := HST.out.1
            rw [ints_set] at this
            exact this
      · have hB : inB p rs.length = false := decide_eq_false hin
        have HIB := Lib.hid hB
        have hn0 : addL by_ rs l = none := addL_none hl HA.out (by
          rw [← HP.out]
          unfold addStep
          rw [HRL.out, if_neg (by omega)])
        have HN := Lib.hid hn0
        clear hn0 hB hin hwr
        go_wp2_with (go_at_call 26; refine (there_to false _ _ _ _ _ _ _ HX.out HIB.out).mono ?_; rintro e w' ⟨rfl, rfl⟩)
        go_ret
        rw [HN.out]
        exact PostA.same H.out rfl HB.out
    · have hs : addL by_ rs l = some r := by
        have := HA.out
        rw [List.take_of_length_le (by rw [HL.out]; omega)] at this
        exact this
      have HS := Lib.hid hs
      have hfz := HX.out.hg.frozen 0
      clear hs hrl
      go_wp2
      go_ret
      rw [HS.out]
      have hne := HX.out.ne
      have hgg : g1 ≠ ga := by
        have h1 := (HO.out.lt g1 rfl).1
        have h2 := H.out.lt
        omega
      refine ⟨rfl, g1, c1, ⟨H.out.hB, ?_, ?_, ?_⟩, ?_, .inr (HO.out.lt g1 rfl).1⟩
      · have := HX.out.hg.set_ 0 (.slice (some ⟨g1, 0, none⟩) rs.length c1)
        simp at this
        simp [HRL.out]
        exact this
      · have h1 : w.heap.size ≤ g1 := (HO.out.lt g1 rfl).1
        have h2 := H.out.lt
        have h3 := H.out.hB
        have ho : (wr.setCell ⟨ga, 0, none⟩ (.slice (some ⟨g1, 0, none⟩) rs.length c1)).ownsRow w.heap.size 3 1 (.slice (some ⟨g1, 0, none⟩) rs.length c1) rs.length (ints r) := by
          refine HO.out.kept (row := some ga) ⟨rfl, rfl, rfl, by simp, fun j _ hj => Below.heap_setCell _ _ _ _ (fun e => hj (by rw [e]))⟩ (.inr ?_)
          simp [Value.ownBlock, hgg]
        simp only [Option.getD_some, HRL.out]
        refine ⟨ho.1, ?_⟩
        rcases ho.2 with ⟨h', _⟩ | ⟨g', cap, cur, h', hb', rest⟩
        · simp at h'
        · exact .inr ⟨g', cap, cur, h', by omega, rest⟩
      · simp only [Option.getD_some, HRL.out]; exact h1024
      · have hb := HB.out
        exact ⟨hb.os, hb.tape, hb.output, by simpa using hb.size, fun j hj hjga _ => (Below.heap_setCell _ _ _ _ (fun e => hjga e)).trans (hb.block j hj)⟩
end Go.Proofs.Ytohlcopnifmjoae
