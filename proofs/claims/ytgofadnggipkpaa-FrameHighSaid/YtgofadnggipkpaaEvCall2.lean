import Derived.Test.YtgofadnggipkpaaEvCall
set_option linter.unusedVariables false
namespace Ev
open Go

section
variable {E : Ent} {ν : Nat → Option Nat} {lo : Lo} {w : World}

theorem closeP_sound {t : PT} {v x : V} {hp hp' : Hp} {g : G} {cv : Value} (h : closeP t v hp = some (x, hp')) (m : MemR E g ν lo hp w) (hr : RepA g v cv) : ∃ g', Closed E g ν lo hp w g' hp' ∧ RepP g'.κ x cv := by
  unfold closeP at h
  split at h
  · obtain ⟨g', h1, h2⟩ := (close_sound E ν lo w depth).1 _ _ _ _ _ g cv h m hr
    exact ⟨g', h1, .c _ _ h2⟩
  · rename_i ts cs
    cases hc : closeCs depth ts cs hp with
    | none => simp [hc] at h
    | some q =>
      obtain ⟨xs, h1⟩ := q
      simp only [hc, Option.some.injEq, Prod.mk.injEq] at h
      obtain ⟨rfl, rfl⟩ := h
      obtain ⟨arr, rfl, a1, a2, a3⟩ := hr.ag_inv
      obtain ⟨g', k1, k2, k3⟩ := (close_sound E ν lo w depth).2.1 _ _ _ _ _ g (fun i => arr.getD i undef) hc m a3
      exact ⟨g', k1, .ag xs arr (by omega) (fun c hc' => by obtain ⟨i, hi⟩ := List.getElem?_of_mem hc'; exact (k3 i c hi).keep) k3⟩
  · cases h

theorem closeAll_sound : ∀ {ts : List PT} {vs xs : List V} {hp hp' : Hp} {g : G} {f : Nat → Value}, closeAll ts vs hp = some (xs, hp') → MemR E g ν lo hp w → (∀ (i : Nat) (v : V), vs[i]? = some v → RepA g v (f i)) →
    ∃ g', Closed E g ν lo hp w g' hp' ∧ xs.length = vs.length ∧ vs.length = ts.length ∧ ∀ (i : Nat) (x : V), xs[i]? = some x → RepP g'.κ x (f i)
  | [], [], xs, hp, hp', g, f, h, m, hr => by
    simp only [closeAll, Option.some.injEq, Prod.mk.injEq] at h; obtain ⟨rfl, rfl⟩ := h
    exact ⟨g, Closed.refl m, rfl, rfl, by simp⟩
  | [], _ :: _, _, _, _, _, _, h, _, _ => by simp [closeAll] at h
  | _ :: _, [], _, _, _, _, _, h, _, _ => by simp [closeAll] at h
  | t :: ts, v :: vs, xs, hp, hp', g, f, h, m, hr => by
    simp only [closeAll] at h
    cases hc : closeP t v hp with
    | none => simp [hc] at h
    | some q =>
      obtain ⟨x, h1⟩ := q
      simp only [hc] at h
      cases hcs : closeAll ts vs h1 with
      | none => simp [hcs] at h
      | some q =>
        obtain ⟨xs', h2⟩ := q
        simp only [hcs, Option.some.injEq, Prod.mk.injEq] at h
        obtain ⟨rfl, rfl⟩ := h
        obtain ⟨g1, c1, r1⟩ := closeP_sound hc m (hr 0 v rfl)
        obtain ⟨g2, c2, l2, l3, r2⟩ := closeAll_sound (f := fun i => f (i + 1)) hcs c1.mem (fun i u hu => (hr (i + 1) u (by simpa using hu)).mono c1.le)
        refine ⟨g2, c1.trans c2, by simp [l2], by simp [l3], fun i u hu => ?_⟩
        cases i with
        | zero => simp at hu; subst hu; exact r1.mono c2.le.κ
        | succ i => exact r2 i u (by simpa using hu)
end

/-- a run elsewhere: the heap stays, more is known -/
theorem HR.apart {g : G} {hp : Hp} {w w' : World} {κ' : K} (h : HR g hp w) (hk : KLe g.κ κ') (kap : ∀ b o v, κ' b o = some v → w'.cell? (ad b o) = some v) (hn : ∀ b o v, κ' b o = some v → g.κ b o = some v ∨ w.heap.size ≤ b)
    (hc : ∀ b o v, w.cell? (ad b o) = some v → w'.cell? (ad b o) = some v) (hf : ∀ b o v, w.cell? (ad b o) = some v → w'.frozen? (ad b o) = w.frozen? (ad b o)) (hs : w.heap.size ≤ w'.heap.size)
    (hwd : (w'.os = w.os ∧ w'.output = w.output) ∧ (∀ b, Unf w b → Unf w' b) ∧ ∀ b, b < w.heap.size → w'.heap[b]? = w.heap[b]?) :
    HR ⟨κ', g.lf⟩ hp w' ∧ Evo g hp w ⟨κ', g.lf⟩ hp w' := by
  have le : GLe g ⟨κ', g.lf⟩ := ⟨hk, (GLe.refl g).lf⟩
  refine ⟨⟨h.mp.mono (fun b es c x => by rw [hwd.2.2 b (Array.getElem?_eq_some_iff.1 x).1]; exact x) (fun _ _ x => x.mono le) (fun _ _ x => x) (fun _ _ _ => rfl), h.lim, h.nil, h.bnd, kap, h.unb, h.dead, fun id r e => ?_, h.sep⟩, ⟨le, Nat.le_refl _, rfl, fun _ _ => rfl, hs, fun b o v x _ => hc b o v x, fun b o v x _ => hf b o v x, fun b o x => .inl x, fun b o v x => (hn b o v x).imp id .inr, hwd.1, hwd.2.1, fun b x _ _ => hwd.2.2 b x, fun b x => .inl x⟩⟩
  obtain ⟨bk, k1, k2⟩ := h.live id r e
  refine ⟨bk, k1, k2.grow le hc hf (fun b o x ⟨v, y⟩ => ?_) hwd.2.1⟩
  cases e' : κ' b o with
  | none => exact e'
  | some u =>
    rcases hn b o u e' with q | q
    · rw [x] at q; cases q
    · have := cell_block y; omega

theorem HR.empty {κ : K} {w : World} (h : ∀ b o v, κ b o = some v → w.cell? (ad b o) = some v) : HR ⟨κ, fun _ => .unb⟩ h0 w where
  mp := ⟨(fun _ _ x => nomatch x), (fun _ _ _ _ x => nomatch x)⟩
  lim := Nat.le_refl _
  nil := fun _ _ => rfl
  bnd := fun id hid => absurd hid (Nat.not_lt_zero _)
  kap := h
  unb := fun _ _ => rfl
  dead := fun _ _ => rfl
  live := fun _ _ x => nomatch x
  sep := fun _ _ _ _ _ _ _ x => nomatch x

theorem own_empty {κ : K} {b o : Nat} (x : Own ⟨κ, fun _ => .unb⟩ h0 b o) : False := by
  obtain ⟨id, r, bk, k, hl, _⟩ := x
  cases hl

/-- where a pure function starts -/
theorem pure_start {E : Ent} {ν : Nat → Option Nat} {lo : Lo} {g1 : G} {hp1 : Hp} {w : World} (m : MemR E g1 ν lo hp1 w) {xs : List V} {cs : Array Value} (hn : cs.size = xs.length) (hr : ∀ (i : Nat) (x : V), xs[i]? = some x → RepP g1.κ x (cs.getD i undef)) :
    HR ⟨g1.κ, fun _ => .unb⟩ h0 w ∧ Args ⟨g1.κ, fun _ => .unb⟩ xs cs :=
  ⟨HR.empty m.hr.kap, hn, fun x hx => by obtain ⟨i, hi⟩ := List.getElem?_of_mem hx; exact (hr i x hi).notLp, fun i x hx => (hr i x hx).toA (g := ⟨g1.κ, fun _ => .unb⟩)⟩

/-- behind a pure function: what it knows is known, the caller's heap is what it was -/
theorem pure_end {E : Ent} {ν : Nat → Option Nat} {lo : Lo} {g1 : G} {hp1 : Hp} {w w' : World} (m : MemR E g1 ν lo hp1 w) {g' : G} {h : Hp} (hr : HR g' h w') (ev : Evo ⟨g1.κ, fun _ => .unb⟩ h0 w g' h w')
    {κ2 : K} (hk : KLe g'.κ κ2) (kap : ∀ b o v, κ2 b o = some v → w'.cell? (ad b o) = some v) (hκ : ∀ b o v, κ2 b o = some v → g'.κ b o = some v ∨ Own g' h b o) :
    MemR E ⟨κ2, g1.lf⟩ ν lo hp1 w' ∧ GLe g1 ⟨κ2, g1.lf⟩ := by
  have hcell : ∀ b o v, w.cell? (ad b o) = some v → w'.cell? (ad b o) = some v := fun b o v x => ev.cell b o v x own_empty
  have hfr : ∀ b o v, w.cell? (ad b o) = some v → w'.frozen? (ad b o) = w.frozen? (ad b o) := fun b o v x => ev.frozen b o v x own_empty
  have hkn : ∀ b o v, g'.κ b o = some v → g1.κ b o = some v ∨ w.heap.size ≤ b := fun b o v x => by
    rcases ev.κ b o v x with q | q | q
    · exact .inl q
    · exact absurd q own_empty
    · exact .inr q
  have hle : KLe g1.κ κ2 := fun b o v x => hk b o v (ev.le.κ b o v x)
  obtain ⟨r1, r2⟩ := m.hr.apart (κ' := κ2) hle kap (fun b o v x => by
    rcases hκ b o v x with q | q
    · exact hkn b o v q
    · rcases ev.own b o q with q | q
      · exact absurd q own_empty
      · exact .inr q) hcell hfr ev.size ⟨ev.wd.1, ev.wd.2.1, fun b hb => ev.wd.2.2.1 b hb (fun o q => own_empty q) (fun ⟨_, q⟩ => by cases q)⟩
  exact ⟨m.back r1 r2, r2.le⟩

theorem untuple_len {n : Nat} {v : V} {ts : List PT} (h : (untuple n v).length = ts.length) (hn : n = ts.length) : (n = 1 ∧ untuple n v = [v]) ∨ (n ≠ 1 ∧ ∃ xs, v = .tu xs ∧ untuple n v = xs) := by
  unfold untuple at h ⊢
  cases hb : Nat.beq n 1 with
  | true => exact .inl ⟨Nat.eq_of_beq_eq_true hb, rfl⟩
  | false =>
    have hne : n ≠ 1 := fun e => by subst e; simp at hb
    simp only [hb, cond_false] at h ⊢
    split at h
    · exact .inr ⟨hne, _, rfl, rfl⟩
    · simp at h; omega

theorem tuple_rep {g : G} {ys : List V} {f : Nat → Value} {cv : Value} (hr : ∀ (i : Nat) (x : V), ys[i]? = some x → RepP g.κ x (f i)) (h1 : ys.length = 1 → cv = f 0) (h2 : ys.length ≠ 1 → ∃ arr : Array Value, cv = .tuple arr ∧ arr.size = ys.length ∧ ∀ i, i < ys.length → f i = arr.getD i undef) :
    RepA g (tuple ys) cv ∧ isLp (tuple ys) = false := by
  by_cases hl : ys.length = 1
  · obtain ⟨y, rfl⟩ := List.length_eq_one_iff.1 hl
    have := hr 0 y rfl
    rw [h1 hl]
    exact ⟨this.toA, this.notLp⟩
  · obtain ⟨arr, rfl, a1, a2⟩ := h2 hl
    have ht : tuple ys = .tu ys := by
      unfold tuple
      split
      · simp at hl
      · rfl
    rw [ht]
    refine ⟨.tu ys arr a1 (fun x hx => by obtain ⟨i, hi⟩ := List.getElem?_of_mem hx; exact (hr i x hi).notLp) fun i x hx => ?_, rfl⟩
    rw [← a2 i (lt_of_get hx)]
    exact (hr i x hx).toA

theorem closeAll_len : ∀ {ts : List PT} {vs xs : List V} {hp hp' : Hp}, closeAll ts vs hp = some (xs, hp') → vs.length = ts.length ∧ xs.length = ts.length
  | [], [], xs, hp, hp', h => by simp only [closeAll, Option.some.injEq, Prod.mk.injEq] at h; obtain ⟨rfl, rfl⟩ := h; exact ⟨rfl, rfl⟩
  | [], _ :: _, _, _, _, h => by simp [closeAll] at h
  | _ :: _, [], _, _, _, h => by simp [closeAll] at h
  | t :: ts, v :: vs, xs, hp, hp', h => by
    simp only [closeAll] at h
    cases hc : closeP t v hp with
    | none => simp [hc] at h
    | some q =>
      obtain ⟨x, h1⟩ := q
      simp only [hc] at h
      cases hcs : closeAll ts vs h1 with
      | none => simp [hcs] at h
      | some q =>
        obtain ⟨xs', h2⟩ := q
        simp only [hcs, Option.some.injEq, Prod.mk.injEq] at h
        obtain ⟨rfl, rfl⟩ := h
        have := closeAll_len hcs
        exact ⟨by simp [this.1], by simp [this.2]⟩

/-- the results of a pure function, closed -/
theorem pure_back {E : Ent} {ν : Nat → Option Nat} {lo : Lo} {g1 : G} {hp1 : Hp} {w w' : World} (m : MemR E g1 ν lo hp1 w) {g' : G} {h : Hp} (hr : HR g' h w') (ev : Evo ⟨g1.κ, fun _ => .unb⟩ h0 w g' h w') {rs : List PT} {v : V} {cv : Value}
    (hv : RepA g' v cv) {ys : List V} {h' : Hp} (hc : closeAll rs (untuple rs.length v) h = some (ys, h')) : ∃ g2, MemR E g2 ν lo hp1 w' ∧ GLe g1 g2 ∧ RepA g2 (tuple ys) cv ∧ isLp (tuple ys) = false := by
  have m' : MemR ⟨⟨g1.κ, fun _ => .unb⟩, h0, w⟩ g' (fun _ => none) (fun _ => none) h w' := ⟨hr, ⟨(fun _ _ x => nomatch x), (fun _ _ _ _ x => absurd rfl x)⟩, ev⟩
  have fin : ∀ {f : Nat → Value}, (∀ (i : Nat) (x : V), (untuple rs.length v)[i]? = some x → RepA g' x (f i)) → (ys.length = 1 → cv = f 0) → (ys.length ≠ 1 → ∃ arr : Array Value, cv = .tuple arr ∧ arr.size = ys.length ∧ ∀ i, i < ys.length → f i = arr.getD i undef) →
      ∃ g2, MemR E g2 ν lo hp1 w' ∧ GLe g1 g2 ∧ RepA g2 (tuple ys) cv ∧ isLp (tuple ys) = false := by
    intro f hf h1 h2
    obtain ⟨g'', c, l1, l2, r⟩ := closeAll_sound hc m' hf
    obtain ⟨e1, e2⟩ := pure_end m hr ev c.le.κ c.mem.hr.kap c.κ
    obtain ⟨t1, t2⟩ := tuple_rep (g := ⟨g''.κ, g1.lf⟩) (f := f) (cv := cv) r h1 h2
    exact ⟨_, e1, e2, t1, t2⟩
  have hl := closeAll_len hc
  rcases untuple_len hl.1 rfl with ⟨h1, h2⟩ | ⟨h1, xs, h2, h3⟩
  · refine fin (f := fun _ => cv) (fun i x hx => ?_) (fun _ => rfl) (fun q => absurd (by rw [hl.2]; exact h1) q)
    rw [h2] at hx
    cases i with
    | zero => simp at hx; subst hx; exact hv
    | succ i => simp at hx
  · subst h2
    obtain ⟨arr, rfl, a1, a2, a3⟩ := hv.tu_inv
    refine fin (f := fun i => arr.getD i undef) (fun i x hx => ?_) (fun q => absurd (by rw [← hl.2]; exact q) h1) (fun _ => ⟨arr, rfl, ?_, fun _ _ => rfl⟩)
    · rw [h3] at hx; exact a3 i x hx
    · rw [a1, hl.2, ← hl.1, h3]
end Ev
