import Derived.Test.YtgofadnggipkpaaEvFrame2
namespace Ev
open Go

/-- a function that can be entered -/
def Enters (P : Program) (f : FuncId) : Prop := ∃ fn, P.funcs[f]? = some fn ∧ fn.name ≠ "runtime.NumGoroutine" ∧ fn.body.isSome = true

structure Args (g : G) (xs : List V) (cs : Array Value) : Prop where
  size : cs.size = xs.length
  lp : ∀ x, x ∈ xs → isLp x = false
  rep : ∀ (i : Nat) (x : V), xs[i]? = some x → RepA g x (cs.getD i undef)

theorem Args.mono {g g' : G} {xs : List V} {cs : Array Value} (h : Args g xs cs) (hg : GLe g g') : Args g' xs cs := ⟨h.size, h.lp, fun i x hx => (h.rep i x hx).mono hg⟩

/-- what a call gives: its value, the memory behind it -/
def EndR (R : Value → World → G → Prop) : Ending → World → Prop := fun e w => ∃ cv g, e = .returned cv ∧ R cv w g
def EndP (R : Value → World → G → Prop) : Ending → World → Prop := fun e w => ∃ cv g, e = .panicked [{ v := cv, recovered := false }] ∧ R cv w g

/-- calls do what they say -/
def CallOK (P : Program) (call : Call) : Prop :=
  ∀ own f xs cs E g ν lo hp w, MemR E g ν lo hp w → Args g xs cs →
    match call own f xs hp with
    | .bad => True
    | .ret v hp' => Enters P f ∧ Calls P f cs w (EndR fun cv w' g' => MemR E g' ν lo hp' w' ∧ GLe g g' ∧ RepA g' v cv ∧ isLp v = false)
    | .pan v hp' => Enters P f ∧ Calls P f cs w (EndP fun cv w' g' => MemR E g' ν lo hp' w' ∧ GLe g g' ∧ RepA g' v cv ∧ isLp v = false)

/-- a function's run in a heap -/
def RunOK (P : Program) (call : Call) (L : Nat) (f : FuncId) (fn : Fn) : Prop :=
  ∀ xs cs g hp w, HR g hp w → Args g xs cs →
    match runF call L fn xs hp with
    | .bad => True
    | .ret v hp' => Enters P f ∧ Calls P f cs w (EndR fun cv w' g' => HR g' hp' w' ∧ Evo g hp w g' hp' w' ∧ RepA g' v cv ∧ isLp v = false)
    | .pan v hp' => Enters P f ∧ Calls P f cs w (EndP fun cv w' g' => HR g' hp' w' ∧ Evo g hp w g' hp' w' ∧ RepA g' v cv ∧ isLp v = false)

theorem EndR.mono {R R' : Value → World → G → Prop} (h : ∀ cv w g, R cv w g → ∃ g', R' cv w g') {e : Ending} {w : World} (x : EndR R e w) : EndR R' e w := by
  obtain ⟨cv, g, rfl, hr⟩ := x
  obtain ⟨g', hr'⟩ := h cv w g hr
  exact ⟨cv, g', rfl, hr'⟩
theorem EndP.mono {R R' : Value → World → G → Prop} (h : ∀ cv w g, R cv w g → ∃ g', R' cv w g') {e : Ending} {w : World} (x : EndP R e w) : EndP R' e w := by
  obtain ⟨cv, g, rfl, hr⟩ := x
  obtain ⟨g', hr'⟩ := h cv w g hr
  exact ⟨cv, g', rfl, hr'⟩

/-- the caller's boxes stay -/
theorem MemR.back {E : Ent} {g g' : G} {ν : Nat → Option Nat} {lo : Lo} {hp hp' : Hp} {w w' : World} (h : MemR E g ν lo hp w) (hr : HR g' hp' w') (ev : Evo g hp w g' hp' w') : MemR E g' ν lo hp' w' := by
  refine ⟨hr, ⟨fun t cs x => ?_, h.lo.inj⟩, h.evo.trans ev⟩
  obtain ⟨b, h1, h2, h3, h4, h5, h6⟩ := h.lo.box t cs x
  refine ⟨b, h1, fun j c hj => ?_, fun o => ?_, fun o ho => ?_, h5, by have := ev.size; omega⟩
  · obtain ⟨k, ⟨cv, a, r⟩, f⟩ := h2 j c hj
    exact ⟨k, ⟨cv, ev.cell _ _ _ a (h4 j), r.mono ev.le⟩, by rw [ev.frozen _ _ _ a (h4 j)]; exact f⟩
  · cases e : g'.κ b o with
    | none => rfl
    | some v =>
      rcases ev.κ b o v e with e' | e' | e'
      · rw [h3 o] at e'; cases e'
      · exact absurd e' (h4 o)
      · omega
  · rcases ev.own b o ho with e | e
    · exact h4 o e
    · omega

theorem rw_ok {P : Program} {call : Call} {L : Nat} {f : FuncId} {fn : Fn} (hrun : RunOK P call L f fn) {xs : List V} {cs : Array Value} {E : Ent} {g : G} {ν : Nat → Option Nat} {lo : Lo} {hp : Hp} {w : World} (h : MemR E g ν lo hp w) (ha : Args g xs cs) :
    match runF call L fn xs hp with
    | .bad => True
    | .ret v hp' => Enters P f ∧ Calls P f cs w (EndR fun cv w' g' => MemR E g' ν lo hp' w' ∧ GLe g g' ∧ RepA g' v cv ∧ isLp v = false)
    | .pan v hp' => Enters P f ∧ Calls P f cs w (EndP fun cv w' g' => MemR E g' ν lo hp' w' ∧ GLe g g' ∧ RepA g' v cv ∧ isLp v = false) := by
  have := hrun xs cs g hp w h.hr ha
  cases hc : runF call L fn xs hp with
  | bad => trivial
  | ret v hp' =>
    rw [hc] at this
    exact ⟨this.1, Calls.mono this.2 fun e w' x => EndR.mono (fun cv w g' ⟨h1, h2, h3⟩ => ⟨g', h.back h1 h2, h2.le, h3⟩) x⟩
  | pan v hp' =>
    rw [hc] at this
    exact ⟨this.1, Calls.mono this.2 fun e w' x => EndP.mono (fun cv w g' ⟨h1, h2, h3⟩ => ⟨g', h.back h1 h2, h2.le, h3⟩) x⟩

/-- what was there ahead of a number stays what it was -/
theorem old_mono {g g' : G} {n : Nat} (hk : KLe g.κ g'.κ) (hl : ∀ id, id < n → g'.lf id = g.lf id) :
    (∀ v cv, RepA g v cv → oldC n v = true → RepA g' v cv) ∧ (∀ v cv, RepA g v cv → oldV n v = true → RepA g' v cv) ∧ (∀ v cv, RepA g v cv → oldT n v = true → RepA g' v cv) := by
  have hC : ∀ v cv, RepA g v cv → oldC n v = true → RepA g' v cv := by
    intro v cv h ho
    cases h with
    | un => simp [oldC] at ho
    | c v cv e => exact .c _ _ (e.mono hk)
    | pt id i off a e =>
      have hid := bltL ho
      exact .pt _ _ _ _ (by rw [hl id hid]; exact e)
    | hs id i len a cap h0 e =>
      have hid := bltL ho
      exact .hs _ _ _ _ _ h0 (by rw [hl id hid]; exact e)
    | mp id b e =>
      have hid := bltL ho
      exact .mp _ _ (by rw [hl id hid]; exact e)
    | ip cs b o f h1 h2 => exact .ip _ b o f (fun i c hc => ⟨(h1 i c hc).1, hk _ _ _ (h1 i c hc).2⟩) (fun i c hc => (h2 i c hc).mono hk)
    | ag => simp [oldC] at ho
    | tu => simp [oldC] at ho
    | fc => simp [oldC] at ho
    | fn => simp [oldC] at ho
  have hV : ∀ v cv, RepA g v cv → oldV n v = true → RepA g' v cv := by
    intro v cv h ho
    by_cases hag : ∃ cs, v = .ag cs
    · obtain ⟨cs, rfl⟩ := hag
      obtain ⟨arr, rfl, h1, h2, h3⟩ := h.ag_inv
      exact .ag cs arr h1 h2 fun i c hc => hC _ _ (h3 i c hc) (List.all_eq_true.1 ho c (List.mem_of_getElem? hc))
    · refine hC _ _ h ?_
      cases v <;> first | exact ho | exact absurd ⟨_, rfl⟩ hag
  refine ⟨hC, hV, fun v cv h ho => ?_⟩
  by_cases htu : ∃ xs, v = .tu xs
  · obtain ⟨xs, rfl⟩ := htu
    obtain ⟨arr, rfl, h1, h2, h3⟩ := h.tu_inv
    exact .tu xs arr h1 h2 fun i x hx => hV _ _ (h3 i x hx) (List.all_eq_true.1 ho x (List.mem_of_getElem? hx))
  · refine hV _ _ h ?_
    cases v <;> first | exact ho | exact absurd ⟨_, rfl⟩ htu

/-- what a value tells of the objects that were there holds of those objects behind a run -/
theorem old_rep {g g' : G} {n : Nat} (hu : ∀ id, n ≤ id → g.lf id = .unb) (hl : ∀ id, id < n → g'.lf id = g.lf id) {v : V} {cv0 : Value} (h : RepA g v cv0) : ∀ cv, RepA g' v cv → RepA ⟨g'.κ, g.lf⟩ v cv := by
  have hid : ∀ id, (g.lf id = .dead ∨ (∃ r, g.lf id = .live r) ∨ ∃ b, g.lf id = .mlive b) → g'.lf id = g.lf id := fun id x => by
    refine hl id ?_
    rcases Nat.lt_or_ge id n with q | q
    · exact q
    · have := hu id q
      rcases x with x | ⟨r, x⟩ | ⟨r, x⟩ <;> rw [this] at x <;> cases x
  induction h with
  | un => exact fun cv _ => .un cv
  | c v cv0 e =>
    intro cv h'
    cases e <;> cases h' <;> exact .c _ _ ‹_›
  | pt id i off a e =>
    intro cv h'
    obtain ⟨a', rfl, h2⟩ := h'.pt_inv
    refine .pt _ _ _ _ ?_
    rw [hid id (e.imp (fun q => q) (fun ⟨r, q, _⟩ => .inl ⟨r, q⟩))] at h2
    exact h2
  | mp id b e =>
    intro cv h'
    obtain ⟨b', rfl, h2⟩ := h'.mp_inv
    refine .mp _ _ ?_
    rw [hid id (e.imp (fun q => q) (fun q => .inr ⟨b, q⟩))] at h2
    exact h2
  | hs id i len a cap h0 e =>
    intro cv h'
    obtain ⟨a', cap', rfl, h1, h2⟩ := h'.hs_inv
    refine .hs _ _ _ _ _ h1 ?_
    rw [hid id (e.imp (fun q => q) (fun ⟨r, q, _⟩ => .inl ⟨r, q⟩))] at h2
    exact h2
  | ip cs b o f h1 h2 =>
    intro cv h'
    obtain ⟨b', o', f', rfl, k1, k2⟩ := h'.ip_inv
    exact .ip _ _ _ f' k1 k2
  | ag cs arr hn h1 h2 ih =>
    intro cv h'
    obtain ⟨arr', rfl, k1, k2, k3⟩ := h'.ag_inv
    exact .ag cs arr' k1 k2 fun i c hc => ih i c hc _ (k3 i c hc)
  | tu xs arr hn h1 h2 ih =>
    intro cv h'
    obtain ⟨arr', rfl, k1, k2, k3⟩ := h'.tu_inv
    exact .tu xs arr' k1 k2 fun i c hc => ih i c hc _ (k3 i c hc)
  | fc t v cv0 hl e ih =>
    intro cv h'
    obtain ⟨x, rfl, k1, k2⟩ := h'.fc_inv
    exact .fc t v x k1 (ih _ k2)
  | fn f first cap a1 a2 hn1 hn2 hl1 hl2 h1 h2 i1 i2 =>
    intro cv h'
    obtain ⟨b1, b2, rfl, k1, k2, k3, k4, k5, k6⟩ := h'.fn_inv
    exact .fn f first cap b1 b2 k1 k2 k3 k4 (fun i x hx => i1 i x hx _ (k5 i x hx)) (fun i x hx => i2 i x hx _ (k6 i x hx))

/-- behind a run that reads the heap alone the heap is what it was -/
theorem HR.restore {g g' : G} {hp hp' : Hp} {w w' : World} (h : HR g hp w) (hr : HR g' hp' w') (ev : Evo g ⟨hp.next, hp.next, hp.tr⟩ w g' hp' w') :
    HR ⟨g'.κ, g.lf⟩ hp w' ∧ Evo g hp w ⟨g'.κ, g.lf⟩ hp w' ∧ ∀ id, id < hp.next → g'.lf id = g.lf id := by
  have hlf : ∀ id, id < hp.next → g'.lf id = g.lf id := by
    intro id hid
    have hro : hget hp' id = hget hp id := ev.ro id hid
    have hle := ev.le.lf id
    cases e : g.lf id with
    | unb => exact absurd e (h.bnd id hid)
    | dead => rw [e] at hle; exact hle
    | live r =>
      rw [e] at hle
      rcases hle with q | q
      · exact q
      · obtain ⟨bk, h1, _⟩ := h.live id r e
        have := hr.dead id q
        rw [hro, h1] at this; cases this
    | mlive b =>
      rw [e] at hle
      rcases hle with q | q
      · exact q
      · obtain ⟨bk, h1, _⟩ := h.mp.live id b e
        have := hr.dead id q
        rw [hro, h1] at this; cases this
  have hold : ∀ {v cv0 cv}, RepA g v cv0 → RepA g' v cv → RepA ⟨g'.κ, g.lf⟩ v cv := fun a b => old_rep h.unb hlf a _ b
  have hlt : ∀ id b, g.lf id = .mlive b → id < hp.next := fun id b e => by
    rcases Nat.lt_or_ge id hp.next with q | q
    · exact q
    · have := h.unb id q; rw [e] at this; cases this
  refine ⟨⟨⟨fun id b e => ?_, h.mp.sep⟩, h.lim, h.nil, h.bnd, hr.kap, h.unb, h.dead, fun id r e => ?_, h.sep⟩, ⟨⟨ev.le.κ, (GLe.refl g).lf⟩, Nat.le_refl _, rfl, fun _ _ => rfl, ev.size, ev.cell, ev.frozen, fun b o x => .inl x, ev.κ, ev.wd.1, ev.wd.2.1, ev.wd.2.2.1, fun b x => .inl x⟩, hlf⟩
  · have hid := hlt id b e
    have hro : hget hp' id = hget hp id := ev.ro id hid
    obtain ⟨bk0, k1, ⟨_, _, es0, c0, _, _, k6⟩⟩ := h.mp.live id b e
    obtain ⟨bk, z1, ⟨z2, z3, es, c, z4, z5, z6⟩⟩ := hr.mp.live id b (by rw [hlf id hid, e])
    rw [hro, k1] at z1; cases z1
    refine ⟨bk0, k1, z2, z3, es, c, z4, z5, fun i x hx => ?_⟩
    obtain ⟨l, v, en, s, q1, q2, q3, q4, q5, q6⟩ := z6 i x hx
    obtain ⟨l', v', en', s', p1, _, _, _, _, p6⟩ := k6 i x hx
    rw [q1] at p1; cases p1
    exact ⟨l, v, en, s, q1, q2, q3, q4, q5, hold p6 q6⟩
  have hid : id < hp.next := by
    rcases Nat.lt_or_ge id hp.next with q | q
    · exact q
    · have := h.unb id q; rw [e] at this; cases this
  have hro : hget hp' id = hget hp id := ev.ro id hid
  obtain ⟨bk0, k1, k2⟩ := h.live id r e
  obtain ⟨bk, z1, z2⟩ := hr.live id r (by rw [hlf id hid, e])
  rw [hro, k1] at z1; cases z1
  refine ⟨bk0, k1, ⟨z2.sz, z2.len, z2.row, fun i j x c hx hc => ?_, z2.rw, z2.frz, z2.blk⟩⟩
  obtain ⟨_, cv0, _, r0⟩ := k2.cont i j x c hx hc
  obtain ⟨a, cv, b, r1⟩ := z2.cont i j x c hx hc
  exact ⟨a, cv, b, hold r0 r1⟩

theorem ro_ok {P : Program} {call : Call} {L : Nat} {f : FuncId} {fn : Fn} (hrun : RunOK P call L f fn) {xs : List V} {cs : Array Value} {E : Ent} {g : G} {ν : Nat → Option Nat} {lo : Lo} {hp : Hp} {w : World} (h : MemR E g ν lo hp w) (ha : Args g xs cs) :
    match runR call L fn xs hp with
    | .bad => True
    | .ret v hp' => Enters P f ∧ Calls P f cs w (EndR fun cv w' g' => MemR E g' ν lo hp' w' ∧ GLe g g' ∧ RepA g' v cv ∧ isLp v = false)
    | .pan v hp' => Enters P f ∧ Calls P f cs w (EndP fun cv w' g' => MemR E g' ν lo hp' w' ∧ GLe g g' ∧ RepA g' v cv ∧ isLp v = false) := by
  have hr0 : HR g ⟨hp.next, hp.next, hp.tr⟩ w := ⟨h.hr.mp.mono (fun _ _ _ x => x) (fun _ _ x => x) (fun _ _ x => x) (fun _ _ _ => rfl), Nat.le_refl _, h.hr.nil, h.hr.bnd, h.hr.kap, h.hr.unb, h.hr.dead, h.hr.live, h.hr.sep⟩
  have := hrun xs cs g _ w hr0 ha
  unfold runR
  cases hc : runF call L fn xs ⟨hp.next, hp.next, hp.tr⟩ with
  | bad => trivial
  | pan v hp' => trivial
  | ret v hp' =>
    rw [hc] at this
    simp only []
    cases ho : oldT hp.next v with
    | false => trivial
    | true =>
      simp only [cond_true]
      refine ⟨this.1, Calls.mono this.2 fun e w' x => EndR.mono (fun cv w' g' ⟨h1, h2, h3, h4⟩ => ?_) x⟩
      obtain ⟨r1, r2, r3⟩ := h.hr.restore h1 h2
      refine ⟨_, h.back r1 r2, r2.le, ?_, h4⟩
      exact (old_mono (g := g') (g' := ⟨g'.κ, g.lf⟩) (fun _ _ _ x => x) (fun id hid => (r3 id hid).symm)).2.2 v cv h3 ho
end Ev
