/- bus: the program's two rows: Drain, Move; the reference's SameList. -/
import Derived.Test.YtohlcopnifmjoacRGo
import Derived.Test.YtohlcopnifmjoacNils
namespace Go.Proofs.Ytohlcopnifmjoac
open Go.RowKit

theorem i64_tyN : TyN Try.prog 39 3 (.int .i64 0) 1 8 := ⟨Try.underlying39, by obtain ⟨i, h⟩ := info_parts i64_info; exact ⟨i, h⟩, rfl, by decide⟩
theorem Fr.mono {O O' : Nat → Prop} {w w' : World} (h : Fr O w w') (ho : ∀ k, O k → O' k) : Fr O' w w' := ⟨h.os, h.tape, h.output, h.size, fun k hk hO => h.block k hk fun h' => hO (ho k h')⟩
theorem Blk.fr {O : Nat → Prop} {w w' : World} {g : Nat} {t : TypeId} {cs : Array Value} (h : Blk w g t cs) (hf : Fr O w w') (hg : ¬ O g) : Blk w' g t cs := (hf.block g h.lt hg).trans h
theorem Fr.drew {O : Nat → Prop} {w w' : World} (h : Fr O w w') : Fr O w w'.drew := ⟨h.os, h.tape, h.output, h.size, h.block⟩

set_option maxRecDepth 100000 in
set_option maxHeartbeats 1000000 in
theorem drain63_any (w : World) (x c d cap : Nat) (l : List Int) (cl : Bool) (hl : l.length ≤ 4096) (h : QObj 63 w x c d cap (ints l) cl) :
    Calls Try.prog 22 #[.pointer (some ⟨x, 0, none⟩)] w fun e w' => ∃ A c', e = .returned (.slice A l.length c') ∧ RRow w' A l.length c' l ∧ QObj 63 w' x c d cap [] cl ∧ Fr (fun k => k = c) w w' := by
  have H := Lib.hid h
  obtain ⟨n, hn⟩ : ∃ n, l.length = n := ⟨_, rfl⟩
  rw [hn] at hl ⊢
  have HN := Lib.hid hn
  clear h hn
  go_enter Try.func22, Try.ntmps22
  go_wp2_with fail
  go_loopw [3] (fun a wr => ∃ k : Nat, k ≤ n ∧ ∃ A c', a = .slice A k c' ∧ Hid (wr.ownsRow w.heap.size 3 1 (.slice A k c') k (ints (l.take k))) ∧ Hid (QObj 63 wr x c d cap (ints (l.drop k)) cl) ∧ Hid (Fr (fun k => k = c) w wr)) (fun a _ => n - lenV a)
  case atStart => exact ⟨0, Nat.zero_le _, none, 0, rfl, World.ownsRow_nil _ _ _ _, H, Lib.hid Fr.refl⟩
  case round =>
    obtain ⟨k, hk, A, c', rfl, HA, HQ, HF⟩ := hrel
    by_cases hlt : k < n
    · obtain ⟨p, hy⟩ : ∃ y, l[k]? = some y := ⟨_, List.getElem?_eq_getElem (by rw [HN.out]; exact hlt)⟩
      have hdl : (ints (l.drop k)).length = n - k := by rw [ints_length, List.length_drop, HN.out]
      have hdr : ints (l.drop k) = .int .i64 p :: ints (l.drop (k + 1)) := by
        have hkl : k < l.length := by rw [HN.out]; exact hlt
        rw [List.drop_eq_getElem_cons hkl]
        rw [List.getElem?_eq_getElem hkl] at hy
        injection hy with hy
        rw [hy]
        rfl
      have HTK := Lib.hid (show l.take (k + 1) = l.take k ++ [p] by rw [List.take_add_one, hy]; rfl)
      have HDR := Lib.hid hdr
      have hpos : (0 : Int) < (ints (l.drop k)).length := by rw [hdl]; omega
      have HP := Lib.hid hpos
      have d0 : decide (0 < (ints (l.drop k)).length) = true := by simp; omega
      clear hdr hdl hy hpos
      go_wp2_with fail
      refine (len63_any _ x c d cap _ cl HQ.out).mono ?_
      rintro e1 w1 ⟨rfl, rfl⟩
      have hpos := HP.out
      go_wp2_with fail
      clear hpos d0
      have HQ' := HQ
      rw [HDR.out] at HQ'
      refine (pop63_some _ x c d cap p _ cl HQ'.out).mono ?_
      rintro e2 w2 ⟨rfl, hq2, hf2⟩
      have ha2 := own_fr HA.out hf2 (HQ.out.notc HA.out)
      have ba : Below w2.heap.size w2 (w2.alloc (.cells #[.int .i64 p] 3)) := (Below.refl _ _).alloc (Nat.le_refl _) _
      have HQ3 := Lib.hid (hq2.over ba)
      have HA3 := Lib.hid (ha2.alloc (.cells #[.int .i64 p] 3))
      have HF3 := Lib.hid ((HF.out.trans hf2).alloc (.cells #[.int .i64 p] 3))
      have RD := Lib.hid (reads_newN w2 3 (0, 0) 1 1 [.int .i64 p] rfl)
      clear hq2 hf2 ha2 ba HQ'
      go_wp2_with (at_builtin
                   go_must (
                     refine wpList_appN _ i64_tyN rfl (.tmp 14) (.tmp 16) rfl rfl HA3.out HF3.out.size rfl RD.out (ints_one [p]) (by unfold maxLen; omega) (by omega) ?_
                     intro A4 c4 w4 own4 hg4 hat4
                     rw [own_map] at hg4
                     have HQ4 := Lib.hid (HQ3.out.grown HA3.out hg4 (by decide))
                     have HF4 := Lib.hid (HF3.out.grown hg4 (fun j hj => .inr (HA3.out.lt j (by rw [own_map]; exact hj)).1))
                     rw [show [Value.int .i64 p] = ints [p] from rfl, ints_append, ← HTK.out] at own4
                     have HA4 := Lib.hid own4
                     clear own4 hg4 hat4))
      exact ⟨⟨k + 1, by omega, A4, c4, rfl, HA4, HQ4, HF4⟩, by simp [lenV]; omega⟩
    · obtain rfl : k = n := by omega
      have HDE : Hid (ints (l.drop k) = []) := by rw [List.drop_of_length_le (by rw [HN.out]; exact Nat.le_refl _)]; rfl
      have HQ' := HQ
      rw [HDE.out] at HQ'
      go_wp2_with fail
      refine (len63_any _ x c d cap _ cl HQ'.out).mono ?_
      rintro e1 w1 ⟨rfl, rfl⟩
      go_wp2_with fail
      go_ret
      have ha := HA.out
      rw [List.take_of_length_le (by rw [HN.out]; exact Nat.le_refl _)] at ha
      exact ⟨A, c', rfl, RRow.of_own ha, HQ'.out, HF.out⟩

/-- two rows, apart -/
structure Two (w : World) (x c d S : Nat) (L : List Int) (C : Bool) (x' c' d' S' : Nat) (L' : List Int) (C' : Bool) : Prop where
  qa : QObj 63 w x c d S (ints L) C
  qb : QObj 63 w x' c' d' S' (ints L') C'
  hx : x ≠ x'
  hc : c ≠ c'
  hd : d ≠ d'
section
variable {w w' : World} {x c d S x' c' d' S' : Nat} {L L' L1 : List Int} {C C' C1 : Bool} {t t' : TypeId} {buf buf' : List Value}
theorem QObj.ne_cd (h : QObj t w x c d S buf C) (h' : QObj t' w x' c' d' S' buf' C') : c ≠ d' := by
  rintro rfl
  obtain ⟨s, r, hc⟩ := h.hc
  have hd := h'.hd
  rw [hc] at hd
  injection hd with hd
  injection hd with h1
  have := h.h1
  omega
theorem QObj.ne_xc (h : QObj t w x c d S buf C) (h' : QObj t' w x' c' d' S' buf' C') : x ≠ c' := by
  rintro rfl
  obtain ⟨s, r, hc⟩ := h'.hc
  have hx := h.hx
  unfold Blk at hx
  rw [hc] at hx
  injection hx with hx
  cases hx
theorem QObj.ne_xd (h : QObj t w x c d S buf C) (h' : QObj t' w x' c' d' S' buf' C') : x ≠ d' := by
  rintro rfl
  have hd := h'.hd
  have hx := h.hx
  unfold Blk at hx
  rw [hd] at hx
  injection hx with hx
  cases hx
theorem Two.swap (h : Two w x c d S L C x' c' d' S' L' C') : Two w x' c' d' S' L' C' x c d S L C := ⟨h.qb, h.qa, h.hx.symm, h.hc.symm, h.hd.symm⟩
theorem Two.opA (h : Two w x c d S L C x' c' d' S' L' C') (hq : QObj 63 w' x c d S (ints L1) C1) (hf : Fr (fun k => k = c ∨ k = d) w w') : Two w' x c d S L1 C1 x' c' d' S' L' C' := by
  refine ⟨hq, h.qb.fr hf ?_ ?_ ?_, h.hx, h.hc, h.hd⟩
  · rintro (e | e)
    · exact h.qb.ne_xc h.qa e
    · exact h.qb.ne_xd h.qa e
  · rintro (e | e)
    · exact h.hc e.symm
    · exact h.qb.ne_cd h.qa e
  · rintro (e | e)
    · exact h.qa.ne_cd h.qb e.symm
    · exact h.hd e.symm
theorem Two.opB (h : Two w x c d S L C x' c' d' S' L' C') (hq : QObj 63 w' x' c' d' S' (ints L1) C1) (hf : Fr (fun k => k = c' ∨ k = d') w w') : Two w' x c d S L C x' c' d' S' L1 C1 := (h.swap.opA hq hf).swap
theorem Two.over (h : Two w x c d S L C x' c' d' S' L' C') (hb : Below w.heap.size w w') : Two w' x c d S L C x' c' d' S' L' C' := ⟨h.qa.over hb, h.qb.over hb, h.hx, h.hc, h.hd⟩
theorem Two.keep {O : Nat → Prop} (h : Two w x c d S L C x' c' d' S' L' C') (hf : Fr O w w') (h1 : ¬ O x) (h2 : ¬ O c) (h3 : ¬ O d) (h4 : ¬ O x') (h5 : ¬ O c') (h6 : ¬ O d') : Two w' x c d S L C x' c' d' S' L' C' := ⟨h.qa.fr hf h1 h2 h3, h.qb.fr hf h4 h5 h6, h.hx, h.hc, h.hd⟩
/-- the channels of both -/
def OT (c d c' d' : Nat) (k : Nat) : Prop := k = c ∨ k = d ∨ k = c' ∨ k = d'
theorem Fr.toA (h : Fr (fun k => k = c ∨ k = d) w w') : Fr (OT c d c' d') w w' := h.mono fun _ hk => by rcases hk with hk | hk; exact .inl hk; exact .inr (.inl hk)
theorem Fr.toB (h : Fr (fun k => k = c' ∨ k = d') w w') : Fr (OT c d c' d') w w' := h.mono fun _ hk => .inr (.inr hk)
theorem Fr.chan1 (h : Fr (fun k => k = c) w w') : Fr (fun k => k = c ∨ k = d) w w' := h.mono fun _ hk => .inl hk
theorem Fr.chan2 (h : Fr (fun k => k = d) w w') : Fr (fun k => k = c ∨ k = d) w w' := h.mono fun _ hk => .inr hk
theorem Fr.flip (h : Fr (OT c d c' d') w w') : Fr (OT c' d' c d) w w' := h.mono fun _ hk => by rcases hk with hk | hk | hk | hk; exact .inr (.inr (.inl hk)); exact .inr (.inr (.inr hk)); exact .inl hk; exact .inr (.inl hk)
end
end Go.Proofs.Ytohlcopnifmjoac
