/- ids: slots and free indexes; what a taking and a giving back make of them. Plain; no program. -/
namespace Go.Proofs.Ytohlcopnifmjoab

abbrev Sl := List (Int × Bool)
def gensL (s : Sl) : List Int := s.map (·.1)
theorem gensL_length (s : Sl) : (gensL s).length = s.length := by simp [gensL]
def nearL (n : Int) (high : Nat) : Nat := if n < 1 then 1 else if (high : Int) < n then high else n.toNat
theorem nearL_pos (n : Int) (high : Nat) (h : 1 ≤ high) : 1 ≤ nearL n high := by unfold nearL; split <;> (try split) <;> omega
theorem nearL_le (n : Int) (high : Nat) (h : 1 ≤ high) : nearL n high ≤ high := by unfold nearL; split <;> (try split) <;> omega

def atL (s : Sl) (i : Int) : Option Int := if 0 ≤ i then (s[i.toNat]?).bind (fun x => if x.2 then some x.1 else none) else none
def aliveB (s : Sl) (i g : Int) : Bool := decide (atL s i = some g)
theorem atL_some {s : Sl} {i g : Int} (h : atL s i = some g) : ∃ k : Nat, i = k ∧ s[k]? = some (g, true) := by
  unfold atL at h
  split at h
  · refine ⟨i.toNat, by omega, ?_⟩
    cases hx : s[i.toNat]? with
    | none => rw [hx] at h; simp at h
    | some x =>
      rw [hx] at h
      obtain ⟨a, b⟩ := x
      cases b <;> simp at h
      rw [h]
  · cases h
theorem atL_of {s : Sl} {k : Nat} {g : Int} (h : s[k]? = some (g, true)) : atL s (k : Int) = some g := by
  unfold atL
  rw [if_pos (by omega), Int.toNat_natCast, h]
  rfl
theorem atL_not {s : Sl} {k : Nat} {g : Int} (h : s[k]? = some (g, false)) : atL s (k : Int) = none := by
  unfold atL
  rw [if_pos (by omega), Int.toNat_natCast, h]
  rfl
theorem atL_out {s : Sl} {i : Int} (h : ¬ (0 ≤ i ∧ i < s.length)) : atL s i = none := by
  unfold atL
  split
  · rw [List.getElem?_eq_none (by omega)]; rfl
  · rfl

structure IInv (E : Nat) (G : Int) (s : Sl) (f : List Int) : Prop where
  g0 : 1 ≤ G
  g1 : G ≤ 1073741824
  e0 : 1 ≤ E
  e1 : E ≤ 1024
  len : s.length ≤ E
  hs : ∀ (k : Nat) (x : Int × Bool), s[k]? = some x → 0 ≤ x.1 ∧ x.1 ≤ G ∧ (x.2 = true ↔ x.1 < G ∧ (k : Int) ∉ f)
  hf : ∀ i ∈ f, ∃ (k : Nat) (x : Int × Bool), i = k ∧ s[k]? = some x ∧ x.1 < G
  nd : f.Nodup

inductive TakeIs (E : Nat) (s : Sl) (f : List Int) : Int → Int → Int → Sl → List Int → Prop
  | pop (f' : List Int) (k : Nat) (g : Int) (a : Bool) : f = f' ++ [(k : Int)] → s[k]? = some (g, a) → TakeIs E s f k g 0 (s.set k (g, true)) f'
  | full : f = [] → s.length = E → TakeIs E s f 0 0 9 s f
  | fresh : f = [] → s.length ≠ E → TakeIs E s f s.length 0 0 (s ++ [(0, true)]) f
inductive GiveIs (G : Int) (s : Sl) (f : List Int) (i g : Int) : Int → Sl → List Int → Prop
  | stale : atL s i ≠ some g → GiveIs G s f i g 5 s f
  | back (k : Nat) : i = k → s[k]? = some (g, true) → g + 1 < G → GiveIs G s f i g 0 (s.set k (g + 1, false)) (f ++ [i])
  | worn (k : Nat) : i = k → s[k]? = some (g, true) → ¬ g + 1 < G → GiveIs G s f i g 0 (s.set k (g + 1, false)) f
/-- a step: give, the name given · the name told, the error, what is behind -/
inductive StepIs (E : Nat) (G : Int) (s : Sl) (f : List Int) (i g : Int) : Bool → Int → Int → Int → Sl → List Int → Prop
  | take {a b e : Int} {s' : Sl} {f' : List Int} : TakeIs E s f a b e s' f' → StepIs E G s f i g false a b e s' f'
  | give {e : Int} {s' : Sl} {f' : List Int} : GiveIs G s f i g e s' f' → StepIs E G s f i g true 0 0 e s' f'

theorem get_set_ne {s : Sl} {k j : Nat} {x : Int × Bool} (h : j ≠ k) : (s.set k x)[j]? = s[j]? := by rw [List.getElem?_set]; rw [if_neg (fun e => h e.symm)]
theorem get_set_eq {s : Sl} {k : Nat} {x y : Int × Bool} (h : s[k]? = some y) : (s.set k x)[k]? = some x := by
  have := (List.getElem?_eq_some_iff.1 h).1
  rw [List.getElem?_set]
  simp [this]

theorem take_total (E : Nat) (G : Int) (s : Sl) (f : List Int) (h : IInv E G s f) : ∃ a b e s' f', TakeIs E s f a b e s' f' := by
  rcases List.eq_nil_or_concat f with hf | ⟨f', i, hf⟩
  · by_cases he : s.length = E
    · exact ⟨_, _, _, _, _, .full hf he⟩
    · exact ⟨_, _, _, _, _, .fresh hf he⟩
  · obtain ⟨k, x, rfl, hx, _⟩ := h.hf i (by rw [hf]; simp)
    exact ⟨_, _, _, _, _, .pop f' k x.1 x.2 (by rw [hf, List.concat_eq_append]) hx⟩
theorem give_total (G : Int) (s : Sl) (f : List Int) (i g : Int) : ∃ e s' f', GiveIs G s f i g e s' f' := by
  by_cases ha : atL s i = some g
  · obtain ⟨k, hk, hx⟩ := atL_some ha
    by_cases hg : g + 1 < G
    · exact ⟨_, _, _, .back k hk hx hg⟩
    · exact ⟨_, _, _, .worn k hk hx hg⟩
  · exact ⟨_, _, _, .stale ha⟩
theorem step_total (E : Nat) (G : Int) (s : Sl) (f : List Int) (h : IInv E G s f) (i g : Int) (gv : Bool) : ∃ a b e s' f', StepIs E G s f i g gv a b e s' f' := by
  cases gv with
  | true =>
    obtain ⟨e, s', f', hh⟩ := give_total G s f i g
    exact ⟨0, 0, e, s', f', .give hh⟩
  | false =>
    obtain ⟨a, b, e, s', f', hh⟩ := take_total E G s f h
    exact ⟨a, b, e, s', f', .take hh⟩

section
variable {E : Nat} {G : Int} {s s' : Sl} {f f' : List Int} {a b e i g : Int} {gv : Bool}
theorem IInv.not_free (h : IInv E G s f) {k : Nat} {x : Int} (hx : s[k]? = some (x, true)) : (k : Int) ∉ f := ((h.hs k _ hx).2.2.1 rfl).2
theorem IInv.bound (h : IInv E G s f) {k : Nat} {x : Int × Bool} (hx : s[k]? = some x) : 0 ≤ x.1 ∧ x.1 ≤ 1073741824 := by
  have := h.hs k x hx
  have := h.g1
  omega
theorem IInv.take (h : IInv E G s f) (ht : TakeIs E s f a b e s' f') : IInv E G s' f' := by
  cases ht with
  | pop f1 k x al hf hx =>
    have hnd := h.nd
    rw [hf] at hnd
    have hk : (k : Int) ∉ f' := by
      intro hm
      have := (List.nodup_append.1 hnd).2.2 _ hm (k : Int) (by simp)
      exact this rfl
    have hG : b < G := by
      obtain ⟨j, y, hj, hy, hyG⟩ := h.hf (k : Int) (by rw [hf]; simp)
      obtain rfl : k = j := by omega
      rw [hx] at hy
      injection hy with hy
      rw [← hy] at hyG
      exact hyG
    refine ⟨h.g0, h.g1, h.e0, h.e1, by simpa using h.len, fun j y hy => ?_, fun i hi => ?_, (List.nodup_append.1 hnd).1⟩
    · by_cases hj : j = k
      · subst hj
        rw [get_set_eq hx] at hy
        injection hy with hy
        subst hy
        have := h.hs j _ hx
        exact ⟨this.1, this.2.1, fun _ => ⟨hG, hk⟩, fun _ => rfl⟩
      · rw [get_set_ne hj] at hy
        have := h.hs j y hy
        refine ⟨this.1, this.2.1, this.2.2.trans ?_⟩
        rw [hf]
        have hjk : ¬ (j : Int) = k := by omega
        simp [hjk]
    · obtain ⟨j, y, rfl, hy, hyG⟩ := h.hf i (by rw [hf]; simp [hi])
      have hj : j ≠ k := by
        rintro rfl
        exact hk hi
      exact ⟨j, y, rfl, by rw [get_set_ne hj]; exact hy, hyG⟩
  | full hf he => exact h
  | fresh hf he =>
    have hl := h.len
    refine ⟨h.g0, h.g1, h.e0, h.e1, by simp; omega, fun j y hy => ?_, fun i hi => ?_, h.nd⟩
    · rcases Nat.lt_or_ge j s.length with hj | hj
      · rw [List.getElem?_append_left hj] at hy
        exact h.hs j y hy
      · rw [List.getElem?_append_right hj] at hy
        have hj0 : j - s.length = 0 := by
          have := (List.getElem?_eq_some_iff.1 hy).1
          simp at this
          omega
        rw [hj0] at hy
        simp at hy
        subst hy
        have := h.g0
        refine ⟨by simp, by simp; omega, fun _ => ⟨by simp; omega, by rw [hf]; simp⟩, fun _ => rfl⟩
    · rw [hf] at hi
      cases hi
theorem IInv.give (h : IInv E G s f) (ht : GiveIs G s f i g e s' f') : IInv E G s' f' := by
  cases ht with
  | stale => exact h
  | back k hi hx hg =>
    subst hi
    have hk := h.not_free hx
    refine ⟨h.g0, h.g1, h.e0, h.e1, by simpa using h.len, fun j y hy => ?_, fun i hi => ?_, List.nodup_append.2 ⟨h.nd, by simp, fun a ha b hb => by simp at hb; subst hb; rintro rfl; exact hk ha⟩⟩
    · by_cases hj : j = k
      · subst hj
        rw [get_set_eq hx] at hy
        injection hy with hy
        subst hy
        have := h.hs j _ hx
        exact ⟨by simp; omega, by simp; omega, by simp⟩
      · rw [get_set_ne hj] at hy
        have := h.hs j y hy
        refine ⟨this.1, this.2.1, this.2.2.trans ?_⟩
        have hjk : ¬ (j : Int) = k := by omega
        simp [hjk]
    · simp at hi
      rcases hi with hi | rfl
      · obtain ⟨j, y, rfl, hy, hyG⟩ := h.hf i hi
        have hj : j ≠ k := by
          rintro rfl
          exact hk hi
        exact ⟨j, y, rfl, by rw [get_set_ne hj]; exact hy, hyG⟩
      · exact ⟨k, _, rfl, get_set_eq hx, hg⟩
  | worn k hi hx hg =>
    subst hi
    have hk := h.not_free hx
    have hxk := h.hs k _ hx
    have hlt := (hxk.2.2.1 rfl).1
    refine ⟨h.g0, h.g1, h.e0, h.e1, by simpa using h.len, fun j y hy => ?_, fun i hi => ?_, h.nd⟩
    · by_cases hj : j = k
      · subst hj
        rw [get_set_eq hx] at hy
        injection hy with hy
        subst hy
        dsimp only at hxk hlt ⊢
        exact ⟨by omega, by omega, by simp [hg]⟩
      · rw [get_set_ne hj] at hy
        exact h.hs j y hy
    · obtain ⟨j, y, rfl, hy, hyG⟩ := h.hf i hi
      have hj : j ≠ k := by
        rintro rfl
        exact hk hi
      exact ⟨j, y, rfl, by rw [get_set_ne hj]; exact hy, hyG⟩
theorem IInv.step (h : IInv E G s f) (ht : StepIs E G s f i g gv a b e s' f') : IInv E G s' f' := by
  cases ht with
  | take ht => exact h.take ht
  | give ht => exact h.give ht
theorem TakeIs.flen (ht : TakeIs E s f a b e s' f') : f'.length ≤ f.length + 1 := by
  cases ht with
  | pop f1 k x al hf hx => rw [hf]; simp; omega
  | full => omega
  | fresh => omega
theorem GiveIs.flen (ht : GiveIs G s f i g e s' f') : f'.length ≤ f.length + 1 := by
  cases ht <;> simp
theorem StepIs.flen (ht : StepIs E G s f i g gv a b e s' f') : f'.length ≤ f.length + 1 := by
  cases ht with
  | take ht => exact ht.flen
  | give ht => exact ht.flen
theorem TakeIs.err (ht : TakeIs E s f a b e s' f') : e = 0 ∨ e = 9 := by cases ht <;> simp
theorem IInv.empty {E : Nat} {G : Nat} (hE : 1 ≤ E) (hE1 : E ≤ 1024) (hG : 1 ≤ G) (hG1 : G ≤ 1073741824) : IInv E (G : Int) [] [] :=
  ⟨by omega, by omega, hE, hE1, by simp, fun k x h => by simp at h, fun i hi => by simp at hi, by simp⟩
end

/-! ### names taken before -/
def Named (s : Sl) (l : List (Int × Int)) : Prop := ∀ p ∈ l, ∃ (k : Nat) (x : Int × Bool), p.1 = k ∧ s[k]? = some x ∧ (p.2 < x.1 ∨ (p.2 = x.1 ∧ x.2 = true))
section
variable {E : Nat} {G : Int} {s s' : Sl} {f f' : List Int} {a b e i g : Int} {l : List (Int × Int)}
theorem Named.empty : Named [] [] := fun p hp => by simp at hp
theorem Named.take (h : IInv E G s f) (hn : Named s l) (ht : TakeIs E s f a b 0 s' f') : (a, b) ∉ l ∧ Named s' (l ++ [(a, b)]) ∧ atL s' a = some b := by
  cases ht with
  | pop f1 k x al hf hx =>
    have hd : al = false := by
      have hh := (h.hs k _ hx).2.2
      cases al with
      | false => rfl
      | true => exact absurd (by rw [hf]; simp) ((hh.1 rfl).2)
    subst hd
    refine ⟨fun hm => ?_, fun p hp => ?_, atL_of (get_set_eq hx)⟩
    · obtain ⟨j, y, hj, hy, hc⟩ := hn _ hm
      obtain rfl : k = j := by dsimp only at hj; omega
      rw [hx] at hy
      injection hy with hy
      subst hy
      rcases hc with hc | ⟨_, hc⟩
      · exact absurd hc (by dsimp only; omega)
      · cases hc
    · simp only [List.mem_append, List.mem_singleton] at hp
      rcases hp with hp | rfl
      · obtain ⟨j, y, hj, hy, hc⟩ := hn _ hp
        by_cases hjk : j = k
        · subst hjk
          rw [hx] at hy
          injection hy with hy
          subst hy
          refine ⟨j, _, hj, get_set_eq hx, ?_⟩
          rcases hc with hc | ⟨_, hc⟩
          · exact .inl hc
          · cases hc
        · exact ⟨j, y, hj, by rw [get_set_ne hjk]; exact hy, hc⟩
      · exact ⟨k, _, rfl, get_set_eq hx, .inr ⟨rfl, rfl⟩⟩
  | fresh hf he =>
    refine ⟨fun hm => ?_, fun p hp => ?_, atL_of (by simp)⟩
    · obtain ⟨j, y, hj, hy, hc⟩ := hn _ hm
      have := (List.getElem?_eq_some_iff.1 hy).1
      dsimp only at hj
      omega
    · simp only [List.mem_append, List.mem_singleton] at hp
      rcases hp with hp | rfl
      · obtain ⟨j, y, hj, hy, hc⟩ := hn _ hp
        have := (List.getElem?_eq_some_iff.1 hy).1
        exact ⟨j, y, hj, by rw [List.getElem?_append_left this]; exact hy, hc⟩
      · exact ⟨s.length, (0, true), rfl, by simp, .inr ⟨rfl, rfl⟩⟩
theorem Named.take_not (hn : Named s l) (ht : TakeIs E s f a b e s' f') (he : e ≠ 0) : Named s' l := by
  cases ht with
  | pop => exact absurd rfl he
  | full => exact hn
  | fresh => exact absurd rfl he
theorem Named.bump {k : Nat} {x : Int} (hn : Named s l) (hx : s[k]? = some (x, true)) : Named (s.set k (x + 1, false)) l := fun p hp => by
  obtain ⟨j, y, hj, hy, hc⟩ := hn _ hp
  by_cases hjk : j = k
  · subst hjk
    rw [hx] at hy
    injection hy with hy
    subst hy
    refine ⟨j, _, hj, get_set_eq hx, .inl ?_⟩
    rcases hc with hc | ⟨hc, _⟩
    · dsimp only at hc ⊢; omega
    · dsimp only at hc ⊢; omega
  · exact ⟨j, y, hj, by rw [get_set_ne hjk]; exact hy, hc⟩
theorem Named.give (hn : Named s l) (ht : GiveIs G s f i g e s' f') : Named s' l := by
  cases ht with
  | stale => exact hn
  | back k _ hx _ => exact hn.bump hx
  | worn k _ hx _ => exact hn.bump hx
end
end Go.Proofs.Ytohlcopnifmjoab
