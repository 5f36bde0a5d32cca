/- alloc: the reference's Go: a step. -/
import Derived.Test.YtohlcopnifmjoaeRefDrop
namespace Go.Proofs.Ytohlcopnifmjoae
open Go.RowKit

def RGoIs (N : Nat) (H : List Int) (act : Int) (l : List Int) (p : Int) (ok : Bool) (H' : List Int) : Prop :=
  (act = 1 ∧ p = 0 ∧ RHoldIs N H l ok H') ∨ (act = 2 ∧ p = 0 ∧ RDropIs H l ok H') ∨ (act ≠ 1 ∧ act ≠ 2 ∧ RTakeIs N H p ok H')

/-- what a step does to the counts it does to the list -/
theorem step_same {act : Int} {l rs H : List Int} {p : Int} {ok : Bool} {rs' : List Int} (h : Same rs H) (hs : StepIs act l rs p ok rs') : ∃ H', RGoIs rs.length H act l p ok H' ∧ Same rs' H' ∧ H'.length ≤ H.length + 1 + l.length := by
  rcases hs with ⟨h1, h2, h3, h4⟩ | ⟨h1, h2, h3, h4⟩ | ⟨h1, h2, ht⟩
  · cases e : addL 1 rs l with
    | none =>
      rw [e] at h3 h4
      refine ⟨H, .inl ⟨h1, h2, .inr ⟨h3, h.hold_none l e, rfl⟩⟩, by rw [h4]; exact h, by omega⟩
    | some r =>
      rw [e] at h3 h4
      obtain ⟨g1, g2⟩ := h.hold l r e
      exact ⟨H ++ l, .inl ⟨h1, h2, .inl ⟨h3, g1, rfl⟩⟩, by rw [h4]; exact g2, by rw [List.length_append]; omega⟩
  · cases e : addL (-1) rs l with
    | none =>
      rw [e] at h3 h4
      exact ⟨H, .inr (.inl ⟨h1, h2, .inr ⟨h3, h.drop_none l e, rfl⟩⟩), by rw [h4]; exact h, by omega⟩
    | some r =>
      rw [e] at h3 h4
      obtain ⟨H', g1, g2⟩ := h.drop l r e
      exact ⟨H', .inr (.inl ⟨h1, h2, .inl ⟨h3, g1⟩⟩), by rw [h4]; exact g2, by have := dropL_length g1; omega⟩
  · rcases ht with ⟨i, rfl, rfl, hi, h0, hj, rfl⟩ | ⟨rfl, rfl, rfl, hj⟩
    · refine ⟨H ++ [(i : Int)], .inr (.inr ⟨h1, h2, .inl ⟨i, rfl, rfl, hi, ?_, fun j hji => ?_, rfl⟩⟩), h.take hi h0, by simp⟩
      · have := h.hc i hi
        omega
      · have := h.hc j (by omega)
        have := hj j hji
        omega
    · refine ⟨H, .inr (.inr ⟨h1, h2, .inr ⟨rfl, rfl, rfl, fun j hji => ?_⟩⟩), h, by omega⟩
      have := h.hc j hji
      have := hj j hji
      omega

set_option maxHeartbeats 1000000 in
theorem rgo_any (N : Nat) (hN : N ≤ 1024) (A : Option Addr) (n c : Nat) (H : List Int) (hn : n ≤ 900000) (hnc : n ≤ c) (act : Int) (Al : Option Addr) (nl cl : Nat) (l : List Int) (hnl : nl ≤ 1000) (p : Int) (ok : Bool) (H' : List Int) (ht : RGoIs N H act l p ok H') (w : World) (h : Reads w w.heap.size 1 A n (ints H)) (hl : Reads w w.heap.size 1 Al nl (ints l)) :
    Calls Try.prog 12 #[.agg #[.int .i64 N, .slice A n c], .agg #[.int .i64 act, .slice Al nl cl]] w (R3Post w A n N H' p ok) := by
  have b1 : Below w.heap.size w (((w.alloc (.cells #[.int .i64 N, .slice A n c] 29)).alloc (.cells #[.int .i64 act, .slice Al nl cl] 35)).alloc (.cells #[.int .i64 0, .slice none 0 0] 29)) := (((Below.refl _ _).alloc (Nat.le_refl _) _).alloc (by simp) _).alloc (by simp; omega) _
  have hblk : Hid (Blk (((w.alloc (.cells #[.int .i64 N, .slice A n c] 29)).alloc (.cells #[.int .i64 act, .slice Al nl cl] 35)).alloc (.cells #[.int .i64 0, .slice none 0 0] 29)) w.heap.size 29 #[.int .i64 N, .slice A n c]) := ((Blk.new w 29 _).alloc _).alloc _
  have hblk3 : Hid (Blk (((w.alloc (.cells #[.int .i64 N, .slice A n c] 29)).alloc (.cells #[.int .i64 act, .slice Al nl cl] 35)).alloc (.cells #[.int .i64 0, .slice none 0 0] 29)) (w.heap.size + 1) 35 #[.int .i64 act, .slice Al nl cl]) := by
    have := (Blk.new (w.alloc (.cells #[.int .i64 N, .slice A n c] 29)) 35 #[.int .i64 act, .slice Al nl cl]).alloc (.cells #[.int .i64 0, .slice none 0 0] 29)
    rw [World.size_alloc] at this
    exact this
  have hblk2 : Hid (Blk (((w.alloc (.cells #[.int .i64 N, .slice A n c] 29)).alloc (.cells #[.int .i64 act, .slice Al nl cl] 35)).alloc (.cells #[.int .i64 0, .slice none 0 0] 29)) (w.heap.size + 2) 29 #[.int .i64 0, .slice none 0 0]) := by
    have := Blk.new ((w.alloc (.cells #[.int .i64 N, .slice A n c] 29)).alloc (.cells #[.int .i64 act, .slice Al nl cl] 35)) 29 #[.int .i64 0, .slice none 0 0]
    rw [World.size_alloc, World.size_alloc] at this
    exact this
  have HR := Lib.hid (h.over b1)
  have HLR := Lib.hid (hl.over b1)
  have HAW := Lib.hid (h.away_of (k := w.heap.size + 2) (by omega))
  have B1 := Lib.hid b1
  have hsz : (((w.alloc (.cells #[.int .i64 N, .slice A n c] 29)).alloc (.cells #[.int .i64 act, .slice Al nl cl] 35)).alloc (.cells #[.int .i64 0, .slice none 0 0] 29)).heap.size = w.heap.size + 3 := by simp
  have f0 := blk0 hblk.out
  have f1 := blk1 hblk.out
  have f2 := blk0 hblk3.out
  have f3 := blk1 hblk3.out
  clear h b1 hl
  rcases ht with ⟨rfl, rfl, ht⟩ | ⟨rfl, rfl, ht⟩ | ⟨h1, h2, ht⟩
  · have HT := Lib.hid ht
    clear ht
    go_enter Try.func12, Try.ntmps12
    go_wp2_with fail
    generalize ((w.alloc (.cells #[.int .i64 N, .slice A n c] 29)).alloc (.cells #[.int .i64 1, .slice Al nl cl] 35)).alloc (.cells #[.int .i64 0, .slice none 0 0] 29) = W at HR B1 hblk hblk2 hblk3 hsz HLR f0 f1 f2 f3 ⊢
    have HSZ := Lib.hid hsz
    clear hsz f0 f1 f2 f3
    refine (rhold_any N A n c H hn hnc Al nl cl l hnl ok H' HT.out _ HR.out HLR.out).mono ?_
    rintro e w1 ⟨A', n', c', rfl, hnc', hfar, hr, hb⟩
    have bk2 := (hblk2.out.below hb hblk2.out.lt).alloc (.cells #[.int .i64 N, .slice A' n' c'] 29)
    have k0 := blk0 bk2
    have k1 := blk1 bk2
    have z0 := bk2.frozen 0
    have z1 := bk2.frozen 1
    have HFAR : Hid (Far w A n A' n') := fun k hk ha => hfar k (by rw [HSZ.out]; omega) ha
    have HAW2 := Lib.hid (hfar (w.heap.size + 2) (by rw [HSZ.out]; omega) HAW.out)
    have ba : Below w1.heap.size w1 (w1.alloc (.cells #[.int .i64 N, .slice A' n' c'] 29)) := (Below.refl _ _).alloc (Nat.le_refl _) _
    have HR2 := Lib.hid (hr.over ba)
    have HB2 := Lib.hid ((B1.out.trans (hb.mono B1.out.size)).trans (ba.mono (Nat.le_trans B1.out.size hb.size)))
    have HK := Lib.hid (two_set bk2 (.int .i64 N) (.slice A' n' c'))
    clear hfar hr hb bk2 ba
    go_wp2_with fail
    have e0 := blk0 HK.out
    have e1 := blk1 HK.out
    have hb := (HB2.out.setCell (p := ⟨w.heap.size + 2, 0, none⟩) (by simp) (.int .i64 N)).setCell (p := ⟨w.heap.size + 2, 1, none⟩) (by simp) (.slice A' n' c')
    exact bodyPost_ret (v := .tuple #[.agg #[.int .i64 N, .slice A' n' c'], .int .i64 0, .bool ok]) (by simp [results, Try.results12, go_sem, e0, e1]) rfl ⟨A', n', c', rfl, hnc', HFAR.out, (HR2.out.away _ _ HAW2.out).away _ _ HAW2.out, hb⟩
  · have HT := Lib.hid ht
    clear ht
    go_enter Try.func12, Try.ntmps12
    go_wp2_with fail
    generalize ((w.alloc (.cells #[.int .i64 N, .slice A n c] 29)).alloc (.cells #[.int .i64 2, .slice Al nl cl] 35)).alloc (.cells #[.int .i64 0, .slice none 0 0] 29) = W at HR B1 hblk hblk2 hblk3 hsz HLR f0 f1 f2 f3 ⊢
    have HSZ := Lib.hid hsz
    clear hsz f0 f1 f2 f3
    refine (rdrop_any N A n c H hn hnc Al nl cl l hnl ok H' HT.out _ HR.out HLR.out).mono ?_
    rintro e w1 ⟨A', n', c', rfl, hnc', hfar, hr, hb⟩
    have bk2 := (hblk2.out.below hb hblk2.out.lt).alloc (.cells #[.int .i64 N, .slice A' n' c'] 29)
    have k0 := blk0 bk2
    have k1 := blk1 bk2
    have z0 := bk2.frozen 0
    have z1 := bk2.frozen 1
    have HFAR : Hid (Far w A n A' n') := fun k hk ha => hfar k (by rw [HSZ.out]; omega) ha
    have HAW2 := Lib.hid (hfar (w.heap.size + 2) (by rw [HSZ.out]; omega) HAW.out)
    have ba : Below w1.heap.size w1 (w1.alloc (.cells #[.int .i64 N, .slice A' n' c'] 29)) := (Below.refl _ _).alloc (Nat.le_refl _) _
    have HR2 := Lib.hid (hr.over ba)
    have HB2 := Lib.hid ((B1.out.trans (hb.mono B1.out.size)).trans (ba.mono (Nat.le_trans B1.out.size hb.size)))
    have HK := Lib.hid (two_set bk2 (.int .i64 N) (.slice A' n' c'))
    clear hfar hr hb bk2 ba
    go_wp2_with fail
    have e0 := blk0 HK.out
    have e1 := blk1 HK.out
    have hb := (HB2.out.setCell (p := ⟨w.heap.size + 2, 0, none⟩) (by simp) (.int .i64 N)).setCell (p := ⟨w.heap.size + 2, 1, none⟩) (by simp) (.slice A' n' c')
    exact bodyPost_ret (v := .tuple #[.agg #[.int .i64 N, .slice A' n' c'], .int .i64 0, .bool ok]) (by simp [results, Try.results12, go_sem, e0, e1]) rfl ⟨A', n', c', rfl, hnc', HFAR.out, (HR2.out.away _ _ HAW2.out).away _ _ HAW2.out, hb⟩
  · have HT := Lib.hid ht
    clear ht
    go_enter Try.func12, Try.ntmps12
    go_wp2_with fail
    generalize ((w.alloc (.cells #[.int .i64 N, .slice A n c] 29)).alloc (.cells #[.int .i64 act, .slice Al nl cl] 35)).alloc (.cells #[.int .i64 0, .slice none 0 0] 29) = W at HR B1 hblk hblk2 hblk3 hsz HLR f0 f1 f2 f3 ⊢
    have HSZ := Lib.hid hsz
    clear hsz f0 f1 f2 f3
    refine (rtake_any N hN A n c H hn hnc p ok H' HT.out _ HR.out).mono ?_
    rintro e w1 ⟨A', n', c', rfl, hnc', hfar, hr, hb⟩
    have bk2 := hblk2.out.below hb hblk2.out.lt
    have k0 := blk0 bk2
    have k1 := blk1 bk2
    have z0 := bk2.frozen 0
    have z1 := bk2.frozen 1
    have HFAR : Hid (Far w A n A' n') := fun k hk ha => hfar k (by rw [HSZ.out]; omega) ha
    have HAW2 := Lib.hid (hfar (w.heap.size + 2) (by rw [HSZ.out]; omega) HAW.out)
    have HR2 := Lib.hid hr
    have HB2 := Lib.hid (B1.out.trans (hb.mono B1.out.size))
    have HK := Lib.hid (two_set bk2 (.int .i64 N) (.slice A' n' c'))
    clear hfar hr hb bk2
    go_wp2_with fail
    have e0 := blk0 HK.out
    have e1 := blk1 HK.out
    have hb := (HB2.out.setCell (p := ⟨w.heap.size + 2, 0, none⟩) (by simp) (.int .i64 N)).setCell (p := ⟨w.heap.size + 2, 1, none⟩) (by simp) (.slice A' n' c')
    exact bodyPost_ret (v := .tuple #[.agg #[.int .i64 N, .slice A' n' c'], .int .i64 p, .bool ok]) (by simp [results, Try.results12, go_sem, e0, e1]) rfl ⟨A', n', c', rfl, hnc', HFAR.out, (HR2.out.away _ _ HAW2.out).away _ _ HAW2.out, hb⟩
end Go.Proofs.Ytohlcopnifmjoae
