/- ids: the reference: near, New, Has, At, Alive. -/
import Derived.Test.YtohlcopnifmjoabDo
namespace Go.Proofs.Ytohlcopnifmjoab
open Go.RowKit

/-- what is read lies in another block -/
def Away (A : Option Addr) (n k : Nat) : Prop := 0 < n → ∀ ad, A = some ad → ad.block ≠ k
theorem Reads.away {w : World} {A : Option Addr} {n : Nat} {xs : List Value} (h : Reads w w.heap.size 1 A n xs) (p : Addr) (u : Value) (hp : Away A n p.block) : Reads (w.setCell p u) (w.setCell p u).heap.size 1 A n xs := by
  refine ⟨h.1, fun hn => ?_⟩
  obtain ⟨ad, e, hb, hc⟩ := h.2 hn
  refine ⟨ad, e, by simpa using hb, fun j v hv => ?_⟩
  rw [World.cell?_of_block (w := w) (Below.heap_setCell w p u _ (by rw [block_of_add]; exact hp hn ad e))]
  exact hc j v hv
theorem Reads.away_of {w : World} {A : Option Addr} {n B k : Nat} {xs : List Value} (h : Reads w B 1 A n xs) (hk : B ≤ k) : Away A n k := by
  intro hn ad e
  obtain ⟨ad', e', hb, _⟩ := h.2 hn
  rw [e] at e'
  injection e' with e'
  rw [e']
  omega
theorem own_away {w : World} {A : Option Addr} {n c B k : Nat} {xs : List Value} (h : w.ownsRow B 3 1 (.slice A n c) n xs) (hk : k < B) : Away A n k := by
  intro hn ad e
  obtain ⟨g, cap, hv, hB, _⟩ := h.form hn
  have : A = some ⟨g, 0, none⟩ := by injection hv
  rw [e] at this
  injection this with this
  rw [this]
  simp
  omega

/-- a row is the old one, or lies in a new block -/
def Far (w : World) (A : Option Addr) (n : Nat) (A' : Option Addr) (n' : Nat) : Prop := ∀ k, k < w.heap.size → Away A n k → Away A' n' k

theorem near_any (n : Int) (high : Nat) (w : World) : Calls Try.prog 22 #[.int .i64 n, .int .i64 (high : Int)] w fun e w' => e = .returned (.int .i64 (nearL n high : Nat)) ∧ w = w' := by
  by_cases h1 : n < 1
  · have HN : Hid (nearL n high = 1) := by unfold nearL; rw [if_pos h1]; trivial
    have d : decide (n < 1) = true := by simpa using h1
    go_enter Try.func22, Try.ntmps22
    go_wp2
    go_ret
    exact ⟨ret_int (by rw [HN.out]; rfl), rfl⟩
  · have d : decide (n < 1) = false := by simpa using h1
    by_cases h2 : (high : Int) < n
    · have HN : Hid (nearL n high = high) := by unfold nearL; rw [if_neg h1, if_pos h2]; trivial
      have d2 : decide ((high : Int) < n) = true := by simpa using h2
      go_enter Try.func22, Try.ntmps22
      go_wp2
      go_ret
      exact ⟨ret_int (by rw [HN.out]), rfl⟩
    · have HN : Hid (((nearL n high : Nat) : Int) = n) := by unfold nearL; rw [if_neg h1, if_neg h2]; show ((n.toNat : Nat) : Int) = n; omega
      have d2 : decide ((high : Int) < n) = false := by simpa using h2
      go_enter Try.func22, Try.ntmps22
      go_wp2
      go_ret
      exact ⟨ret_int HN.out.symm, rfl⟩
def rV (E : Nat) (G : Int) (Ag : Option Addr) (ng cg : Nat) (Af : Option Addr) (nf cf : Nat) : Value := .agg #[.int .i64 E, .int .i64 G, .slice Ag ng cg, .slice Af nf cf]
theorem near_lit (n : Int) (high : Nat) (h' : Int) (hh : (high : Int) = h') (w : World) : Calls Try.prog 22 #[.int .i64 n, .int .i64 h'] w fun e w' => e = .returned (.int .i64 (nearL n high : Nat)) ∧ w = w' := by
  rw [← hh]
  exact near_any n high w
theorem rnew_any (n m : Int) (E G : Nat) (hE : nearL n 1024 = E) (hG : nearL m 1073741824 = G) (w : World) : Calls Try.prog 10 #[.int .i64 n, .int .i64 m] w fun e w' => e = .returned (.agg #[.int .i64 E, .int .i64 G, .slice none 0 0, .slice none 0 0]) ∧ Below w.heap.size w w' := by
  have n1 := near_lit n 1024 1024 rfl
  have n2 := near_lit m 1073741824 1073741824 rfl
  rw [hE] at n1
  rw [hG] at n2
  have N1 := Lib.hid n1
  have N2 := Lib.hid n2
  clear n1 n2 hE hG
  have B1 := Lib.hid ((Below.refl w.heap.size w).alloc (Nat.le_refl _) (.cells #[.int .i64 E, .int .i64 G, .slice none 0 0, .slice none 0 0] 37))
  go_enter Try.func10, Try.ntmps10
  go_wp2_with fail
  refine (N1.out _).mono ?_
  rintro e1 w1 ⟨rfl, rfl⟩
  go_wp2_with fail
  refine (N2.out _).mono ?_
  rintro e1 w1 ⟨rfl, rfl⟩
  go_wp2_with fail
  exact bodyPost_ret (v := .agg #[.int .i64 E, .int .i64 G, .slice none 0 0, .slice none 0 0]) (by simp [results, Try.results10, go_sem]) rfl ⟨rfl, B1.out⟩

set_option maxHeartbeats 400000 in
theorem has_to (v : Bool) (A : Option Addr) (n c : Nat) (xs : List Int) (y : Int) (hv : decide (y ∈ xs) = v) (hn : n ≤ maxLen) (w : World) (h : Reads w w.heap.size 1 A n (ints xs)) :
    Calls Try.prog 30 #[.slice A n c, .int .i64 y] w fun e w' => e = .returned (.bool v) ∧ w' = w := by
  unfold maxLen at hn
  have HL := Lib.hid h.ilen
  have HV := Lib.hid hv
  clear hv
  go_enter Try.func30, Try.ntmps30
  go_wp2_with fail
  go_loop [5] (fun i => ∃ k : Nat, k ≤ n ∧ i = .int .i64 k ∧ Hid (∀ z ∈ xs.take k, z ≠ y)) (fun i => n - (intOf i).toNat)
  case atStart => exact ⟨0, Nat.zero_le _, rfl, fun z hz => by simp at hz⟩
  case round =>
    obtain ⟨k, hk, rfl, HK⟩ := hrel
    by_cases hlt : k < n
    · obtain ⟨b, off, rfl, _, hl, hc⟩ := h.int hlt
      obtain ⟨x, hx⟩ : ∃ x, x = xs[k] := ⟨_, rfl⟩
      rw [← hx] at hc
      have HX := Lib.hid (show xs[k]? = some x by rw [hx, List.getElem?_eq_getElem hl])
      clear hx
      by_cases he : x = y
      · subst he
        have hM : Hid (v = true) := by rw [← HV.out]; exact decide_eq_true (List.mem_of_getElem? HX.out)
        go_wp2
        go_ret
        exact ⟨ret_bool hM.out.symm, rfl⟩
      · have d : (x == y) = false := by rw [beq_eq_false_iff_ne]; exact he
        have HE := Lib.hid he
        clear he
        go_wp2
        refine ⟨⟨k + 1, by omega, by go_num, fun z hz => ?_⟩, by simp [intOf]; omega⟩
        rw [List.take_add_one, HX.out] at hz
        simp only [Option.toList_some, List.mem_append, List.mem_singleton] at hz
        rcases hz with hz | rfl
        · exact HK.out z hz
        · exact HE.out
    · have hM : Hid (v = false) := by
        rw [← HV.out]
        refine decide_eq_false (fun hm => HK.out y ?_ rfl)
        rw [List.take_of_length_le (by rw [HL.out]; omega)]
        exact hm
      go_wp2
      go_ret
      exact ⟨ret_bool hM.out.symm, rfl⟩

set_option maxRecDepth 100000 in
set_option maxHeartbeats 2000000 in
theorem rat_any (E : Nat) (G : Int) (s : Sl) (f : List Int) (inv : IInv E G s f) (hfl : f.length ≤ 2000) (Ag : Option Addr) (ng cg : Nat) (Af : Option Addr) (nf cf : Nat) (i : Int) (w : World) (hg : Reads w w.heap.size 1 Ag ng (ints (gensL s))) (hf : Reads w w.heap.size 1 Af nf (ints f)) :
    Calls Try.prog 25 #[.agg #[.int .i64 E, .int .i64 G, .slice Ag ng cg, .slice Af nf cf], .int .i64 i] w fun e w' => e = .returned (atV s i) ∧ Below w.heap.size w w' := by
  have hng : ng = s.length := by have := hg.ilen; rw [gensL_length] at this; omega
  have hnf : nf = f.length := hf.ilen.symm
  have hs1024 : s.length ≤ 1024 := Nat.le_trans inv.len inv.e1
  subst hng
  subst hnf
  have b1 : Below w.heap.size w (w.alloc (.cells #[.int .i64 E, .int .i64 G, .slice Ag s.length cg, .slice Af f.length cf] 37)) := (Below.refl _ _).alloc (Nat.le_refl _) _
  have b2 : Below w.heap.size w ((w.alloc (.cells #[.int .i64 E, .int .i64 G, .slice Ag s.length cg, .slice Af f.length cf] 37)).alloc (.cells #[.int .i64 0, .int .i64 0] 28)) := b1.alloc (by simp) _
  have HG := Lib.hid (hg.over b2)
  have HF := Lib.hid (hf.over b2)
  have hx := (Blk.new w 37 #[.int .i64 E, .int .i64 G, .slice Ag s.length cg, .slice Af f.length cf]).alloc (.cells #[.int .i64 0, .int .i64 0] 28)
  have hr := Blk.new (w.alloc (.cells #[.int .i64 E, .int .i64 G, .slice Ag s.length cg, .slice Af f.length cf] 37)) 28 #[.int .i64 0, .int .i64 0]
  rw [World.size_alloc] at hr
  have HX := Lib.hid hx
  have HR := Lib.hid hr
  have B2 := Lib.hid b2
  have IV := Lib.hid inv
  have HMX := Lib.hid (show f.length ≤ maxLen by unfold maxLen; omega)
  clear inv b1 b2 hg hf hx hr
  by_cases h0 : i < 0
  · have HV : Hid (atV s i = .tuple #[.agg #[.int .i64 0, .int .i64 0], .bool false]) := by unfold atV; rw [atL_out (by omega)]; trivial
    have d : decide (i < 0) = true := by simpa using h0
    have c0 := blk4_0 HX.out
    have c1 := blk4_1 HX.out
    have c2 := blk4_2 HX.out
    have c3 := blk4_3 HX.out
    have cg0 : True := trivial
    go_enter Try.func25, Try.ntmps25
    go_wp2_with fail
    generalize (w.alloc (.cells #[.int .i64 E, .int .i64 G, .slice Ag s.length cg, .slice Af f.length cf] 37)).alloc (.cells #[.int .i64 0, .int .i64 0] 28) = X at HG HF HX HR B2 c0 c1 c2 c3 cg0 ⊢
    go_quiet (fail)
    have RX := HR.out.drewN nq
    have BX := Lib.hid (show Below w.heap.size w (X.drewN nq) from ⟨B2.out.os, B2.out.tape, B2.out.output, B2.out.size, B2.out.block⟩)
    have z0 := RX.frozen 0
    have z1 := RX.frozen 1
    have k0 := blk0 RX
    have k1 := blk1 RX
    have HRX := Lib.hid RX
    clear RX
    go_wp2_with fail
    have t2 := two_set HRX.out (.int .i64 0) (.int .i64 0)
    have f0 := blk0 t2
    have f1 := blk1 t2
    exact bodyPost_ret (v := .tuple #[.agg #[.int .i64 0, .int .i64 0], .bool false]) (by simp [results, Try.results25, go_sem, f0, f1]) rfl ⟨by rw [HV.out], (BX.out.setCell (p := ⟨w.heap.size + 1, 0, none⟩) (Nat.le_succ _) _).setCell (p := ⟨w.heap.size + 1, 1, none⟩) (Nat.le_succ _) _⟩
  by_cases h1 : (s.length : Int) ≤ i
  · have HV : Hid (atV s i = .tuple #[.agg #[.int .i64 0, .int .i64 0], .bool false]) := by unfold atV; rw [atL_out (by omega)]; trivial
    have d : decide (i < 0) = false := by simpa using h0
    have d2 : decide ((s.length : Int) ≤ i) = true := by simp; omega
    have c0 := blk4_0 HX.out
    have c1 := blk4_1 HX.out
    have c2 := blk4_2 HX.out
    have c3 := blk4_3 HX.out
    have cg0 : True := trivial
    go_enter Try.func25, Try.ntmps25
    go_wp2_with fail
    generalize (w.alloc (.cells #[.int .i64 E, .int .i64 G, .slice Ag s.length cg, .slice Af f.length cf] 37)).alloc (.cells #[.int .i64 0, .int .i64 0] 28) = X at HG HF HX HR B2 c0 c1 c2 c3 cg0 ⊢
    go_quiet (fail)
    have RX := HR.out.drewN nq
    have BX := Lib.hid (show Below w.heap.size w (X.drewN nq) from ⟨B2.out.os, B2.out.tape, B2.out.output, B2.out.size, B2.out.block⟩)
    have z0 := RX.frozen 0
    have z1 := RX.frozen 1
    have k0 := blk0 RX
    have k1 := blk1 RX
    have HRX := Lib.hid RX
    clear RX
    go_wp2_with fail
    have t2 := two_set HRX.out (.int .i64 0) (.int .i64 0)
    have f0 := blk0 t2
    have f1 := blk1 t2
    exact bodyPost_ret (v := .tuple #[.agg #[.int .i64 0, .int .i64 0], .bool false]) (by simp [results, Try.results25, go_sem, f0, f1]) rfl ⟨by rw [HV.out], (BX.out.setCell (p := ⟨w.heap.size + 1, 0, none⟩) (Nat.le_succ _) _).setCell (p := ⟨w.heap.size + 1, 1, none⟩) (Nat.le_succ _) _⟩
  obtain ⟨k, rfl⟩ := Int.eq_ofNat_of_zero_le (by omega : 0 ≤ i)
  have hk : k < s.length := by omega
  have hk0 : (0 : Int) ≤ k := by omega
  have hk1 : (k : Int) < s.length := by omega
  have d : decide ((k : Int) < 0) = false := by simp
  have d2 : decide (s.length ≤ k) = false := by simp; omega
  clear h0 h1
  obtain ⟨⟨g, al⟩, hy⟩ : ∃ y, s[k]? = some y := ⟨_, List.getElem?_eq_getElem hk⟩
  have hal := (IV.out.hs k _ hy).2.2
  dsimp only at hal
  have HY := Lib.hid hy
  obtain ⟨b, off, rfl, _, hgl, hcg0⟩ := HG.out.int hk
  have hgk : (gensL s)[k] = g := by
    have : (gensL s)[k]? = some g := by simp [gensL, hy]
    rw [List.getElem?_eq_getElem hgl] at this
    injection this
  rw [hgk] at hcg0
  clear hgk hy
  by_cases hm : (k : Int) ∈ f
  · have HHAS := Lib.hid (decide_eq_true hm : decide ((k : Int) ∈ f) = true)
    have hal2 : al = false := by
      cases al with
      | false => rfl
      | true => exact absurd hm (hal.1 rfl).2
    subst hal2
    clear hm hal
    have HV : Hid (atV s k = .tuple #[.agg #[.int .i64 0, .int .i64 0], .bool false]) := by unfold atV; rw [atL_not HY.out]; trivial
    have c0 := blk4_0 HX.out
    have c1 := blk4_1 HX.out
    have c2 := blk4_2 HX.out
    have c3 := blk4_3 HX.out
    have cg0 := hcg0
    clear hcg0
    go_enter Try.func25, Try.ntmps25
    go_wp2_with fail
    generalize (w.alloc (.cells #[.int .i64 E, .int .i64 G, .slice (some ⟨b, off, none⟩) s.length cg, .slice Af f.length cf] 37)).alloc (.cells #[.int .i64 0, .int .i64 0] 28) = X at HG HF HX HR B2 c0 c1 c2 c3 cg0 ⊢
    have HC : Hid (∀ n, Calls Try.prog 30 #[.slice Af f.length cf, .int .i64 (k : Int)] (X.drewN n) fun e w' => e = .returned (.bool true) ∧ w' = X.drewN n) := fun n => has_to true Af f.length cf f (k : Int) HHAS.out HMX.out (X.drewN n) (HF.out.drewN n)
    go_quiet ((go_at_call 30; exact Calls.quiet_of_same (HC.out _)))
    have RX := HR.out.drewN nq
    have BX := Lib.hid (show Below w.heap.size w (X.drewN nq) from ⟨B2.out.os, B2.out.tape, B2.out.output, B2.out.size, B2.out.block⟩)
    have z0 := RX.frozen 0
    have z1 := RX.frozen 1
    have k0 := blk0 RX
    have k1 := blk1 RX
    have HRX := Lib.hid RX
    clear RX
    go_wp2_with fail
    have t2 := two_set HRX.out (.int .i64 0) (.int .i64 0)
    have f0 := blk0 t2
    have f1 := blk1 t2
    exact bodyPost_ret (v := .tuple #[.agg #[.int .i64 0, .int .i64 0], .bool false]) (by simp [results, Try.results25, go_sem, f0, f1]) rfl ⟨by rw [HV.out], (BX.out.setCell (p := ⟨w.heap.size + 1, 0, none⟩) (Nat.le_succ _) _).setCell (p := ⟨w.heap.size + 1, 1, none⟩) (Nat.le_succ _) _⟩
  have HHAS := Lib.hid (decide_eq_false hm : decide ((k : Int) ∈ f) = false)
  by_cases hGg : G ≤ g
  · have hal2 : al = false := by
      cases al with
      | false => rfl
      | true => exact absurd (hal.1 rfl).1 (by omega)
    subst hal2
    clear hm hal
    have HV : Hid (atV s k = .tuple #[.agg #[.int .i64 0, .int .i64 0], .bool false]) := by unfold atV; rw [atL_not HY.out]; trivial
    have d3 : decide (G ≤ g) = true := by simpa using hGg
    have c0 := blk4_0 HX.out
    have c1 := blk4_1 HX.out
    have c2 := blk4_2 HX.out
    have c3 := blk4_3 HX.out
    have cg0 := hcg0
    clear hcg0
    go_enter Try.func25, Try.ntmps25
    go_wp2_with fail
    generalize (w.alloc (.cells #[.int .i64 E, .int .i64 G, .slice (some ⟨b, off, none⟩) s.length cg, .slice Af f.length cf] 37)).alloc (.cells #[.int .i64 0, .int .i64 0] 28) = X at HG HF HX HR B2 c0 c1 c2 c3 cg0 ⊢
    have HC : Hid (∀ n, Calls Try.prog 30 #[.slice Af f.length cf, .int .i64 (k : Int)] (X.drewN n) fun e w' => e = .returned (.bool false) ∧ w' = X.drewN n) := fun n => has_to false Af f.length cf f (k : Int) HHAS.out HMX.out (X.drewN n) (HF.out.drewN n)
    go_quiet ((go_at_call 30; exact Calls.quiet_of_same (HC.out _)))
    have RX := HR.out.drewN nq
    have BX := Lib.hid (show Below w.heap.size w (X.drewN nq) from ⟨B2.out.os, B2.out.tape, B2.out.output, B2.out.size, B2.out.block⟩)
    have z0 := RX.frozen 0
    have z1 := RX.frozen 1
    have k0 := blk0 RX
    have k1 := blk1 RX
    have HRX := Lib.hid RX
    clear RX
    go_wp2_with fail
    have t2 := two_set HRX.out (.int .i64 0) (.int .i64 0)
    have f0 := blk0 t2
    have f1 := blk1 t2
    exact bodyPost_ret (v := .tuple #[.agg #[.int .i64 0, .int .i64 0], .bool false]) (by simp [results, Try.results25, go_sem, f0, f1]) rfl ⟨by rw [HV.out], (BX.out.setCell (p := ⟨w.heap.size + 1, 0, none⟩) (Nat.le_succ _) _).setCell (p := ⟨w.heap.size + 1, 1, none⟩) (Nat.le_succ _) _⟩
  have hal2 : al = true := hal.2 ⟨by omega, hm⟩
  subst hal2
  clear hm hal
  have HV : Hid (atV s k = .tuple #[.agg #[.int .i64 k, .int .i64 g], .bool true]) := by unfold atV; rw [atL_of HY.out]; trivial
  have d3 : decide (G ≤ g) = false := by simp; omega
  have c0 := blk4_0 HX.out
  have c1 := blk4_1 HX.out
  have c2 := blk4_2 HX.out
  have c3 := blk4_3 HX.out
  have cg0 := hcg0
  clear hcg0
  go_enter Try.func25, Try.ntmps25
  go_wp2_with fail
  generalize (w.alloc (.cells #[.int .i64 E, .int .i64 G, .slice (some ⟨b, off, none⟩) s.length cg, .slice Af f.length cf] 37)).alloc (.cells #[.int .i64 0, .int .i64 0] 28) = X at HG HF HX HR B2 c0 c1 c2 c3 cg0 ⊢
  have HC : Hid (∀ n, Calls Try.prog 30 #[.slice Af f.length cf, .int .i64 (k : Int)] (X.drewN n) fun e w' => e = .returned (.bool false) ∧ w' = X.drewN n) := fun n => has_to false Af f.length cf f (k : Int) HHAS.out HMX.out (X.drewN n) (HF.out.drewN n)
  go_quiet ((go_at_call 30; exact Calls.quiet_of_same (HC.out _)))
  have RX := HR.out.drewN nq
  have BX := Lib.hid (show Below w.heap.size w (X.drewN nq) from ⟨B2.out.os, B2.out.tape, B2.out.output, B2.out.size, B2.out.block⟩)
  have z0 := RX.frozen 0
  have z1 := RX.frozen 1
  have k0 := blk0 RX
  have k1 := blk1 RX
  have HRX := Lib.hid RX
  clear RX
  go_wp2_with fail
  have t2 := two_set HRX.out (.int .i64 k) (.int .i64 g)
  have f0 := blk0 t2
  have f1 := blk1 t2
  exact bodyPost_ret (v := .tuple #[.agg #[.int .i64 k, .int .i64 g], .bool true]) (by simp [results, Try.results25, go_sem, f0, f1]) rfl ⟨by rw [HV.out], (BX.out.setCell (p := ⟨w.heap.size + 1, 0, none⟩) (Nat.le_succ _) _).setCell (p := ⟨w.heap.size + 1, 1, none⟩) (Nat.le_succ _) _⟩
end Go.Proofs.Ytohlcopnifmjoab
