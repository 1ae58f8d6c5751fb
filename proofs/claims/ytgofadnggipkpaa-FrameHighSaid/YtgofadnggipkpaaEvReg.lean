import Derived.Test.YtgofadnggipkpaaEvOp
namespace Ev
open Go

theorem RepT.mono {g g' : G} {ν ν' : Nat → Option Nat} (hg : GLe g g') {v : V} {cv : Value} (h : RepT g ν v cv) (hn : ∀ e off, v = .lp e off → ν' e = ν e) : RepT g' ν' v cv := by
  cases v with
  | lp t off => obtain ⟨b, h1, h2⟩ := h; exact ⟨b, (hn t off rfl).trans h1, h2⟩
  | _ => exact RepA.mono hg h

theorem StR.put {E : Ent} {ntm : Nat} {clr : List Nat} {g : G} {ν : Nat → Option Nat} {st : St} {a : Act} {w : World} (h : StR E ntm clr g ν st a w) {dst : Option Nat} (hd : lessN ntm dst = true)
    {v : V} {s : St} {cv : Value} {w' : World} {g' : G} {ν' : Nat → Option Nat} (ha : After E clr dst g ν st v s cv w' g' ν') : StR E ntm clr g' ν' (Ev.put s dst v) (a.put dst cv) w' := by
  cases dst with
  | none =>
    have hnu : ν' = ν := by
      rcases ha.nu with q | ⟨d, q, _⟩
      · exact q
      · cases q
    refine ⟨h.size, h.defers, fun t => ?_, fun t d off x => ?_, ha.mem⟩
    · show RepT g' ν' (s.tm t) _
      rw [ha.tmeq, hnu]; exact (h.tm t).mono ha.le fun _ _ _ => rfl
    · have x : s.tm t = .lp d off := x
      rw [ha.tmeq] at x; exact h.lps t d off x
  | some d =>
    have hlt : d < a.tmps.size := by rw [h.size]; exact bltL hd
    refine ⟨by simp [Act.put, h.size], h.defers, fun t => ?_, fun t e off x => ?_, ha.mem⟩
    · simp only [Ev.put, Act.put, upd]
      by_cases e : t = d
      · subst e
        simp only [Nat.beq_refl, cond_true]
        have : (a.tmps.setIfInBounds t cv).getD t undef = cv := by simp [Array.getD_eq_getD_getElem?, hlt]
        rw [this]; exact ha.val
      · simp only [beqF e, cond_false]
        have : (a.tmps.setIfInBounds d cv).getD t undef = a.tmps.getD t undef := by simp [Array.getD_eq_getD_getElem?, Ne.symm e]
        rw [this, ha.tmeq]
        refine (h.tm t).mono ha.le fun x off hx => ?_
        rcases ha.nu with q | ⟨d', q, ⟨y, hy⟩, q'⟩
        · rw [q]
        · cases q
          rw [hy]
          have : x ≠ d := fun c => q' t e off (by rw [hx, c])
          simp [this]
    · simp only [Ev.put, upd] at x
      by_cases c : t = d
      · subst c
        simp only [Nat.beq_refl, cond_true] at x
        exact ha.lp t rfl e off x
      · simp only [beqF c, cond_false] at x
        rw [ha.tmeq] at x; exact h.lps t e off x

/-- an operation that is not wanted -/
theorem StR.skip {E : Ent} {ntm : Nat} {clr : List Nat} {g : G} {ν : Nat → Option Nat} {st : St} {a : Act} {w : World} (h : StR E ntm clr g ν st a w) {dst : Option Nat} (hd : lessN ntm dst = true) :
    StR E ntm clr g ν (Ev.put st dst (.tu [])) (a.put dst undef) w :=
  h.put hd ⟨rfl, h.mem, GLe.refl g, .inl rfl, .ofA (.tu [] #[] rfl (by simp) (by simp)), fun _ _ _ _ x => nomatch x⟩

/-- an operation and what was read of it -/
structure Rel (P : Program) (pol : Pol) (ntm : Nat) (clr : List Nat) (ops : Array Oper) (i : Nat) (o : DOp) (op : Oper) : Prop where
  at_ : ops[i]? = some op
  ins : cIns P pol op = some o.ins
  dst : o.dst = op.dst
  gd : cGd ops op.guard = some o.gd
  less : lessN ntm o.dst = true
  own : sameD o.dst (o.gd.map (·.1)) = false
  us : o.ins.boxes = true → ∀ t, hasN clr t = true → t ∈ o.us

theorem wanted_none {P : Program} {pol : Pol} {ntm : Nat} {clr : List Nat} {ops : Array Oper} {i : Nat} {o : DOp} {op : Oper} (r : Rel P pol ntm clr ops i o op) (h : o.gd = none) (f : Nat → Option Bool) : Region.wanted op f = true := by
  have hg := r.gd
  rw [h] at hg
  unfold Region.wanted
  cases hq : op.guard with
  | none => rfl
  | some q =>
    obtain ⟨j, w⟩ := q
    rw [hq] at hg
    simp only [cGd] at hg
    cases hd : (ops[j]?).bind (·.dst) <;> simp [hd] at hg

theorem yielded_bo {ops : Array Oper} {tmps : Array Value} {j d : Nat} {b : Bool} (hd : (ops[j]?).bind (·.dst) = some d) (h : tmps.getD d undef = .bool b) : yielded ops tmps j = some b := by
  unfold yielded
  rw [hd]
  simp only [Option.bind_some]
  rw [Array.getD_eq_getD_getElem?] at h
  cases q : tmps[d]? with
  | none => rw [q] at h; simp [undef] at h
  | some v => rw [q] at h; simp only [Option.getD_some] at h; subst h; rfl

theorem yielded_tu {ops : Array Oper} {tmps : Array Value} {j d : Nat} {x : Array Value} (hd : (ops[j]?).bind (·.dst) = some d) (h : tmps.getD d undef = .tuple x) : yielded ops tmps j = none := by
  unfold yielded
  rw [hd]
  simp only [Option.bind_some]
  rw [Array.getD_eq_getD_getElem?] at h
  cases q : tmps[d]? with
  | none => rfl
  | some v => rw [q] at h; simp only [Option.getD_some] at h; subst h; rfl

theorem wanted_some {P : Program} {pol : Pol} {ntm : Nat} {clr : List Nat} {ops : Array Oper} {i : Nat} {o : DOp} {op : Oper} (r : Rel P pol ntm clr ops i o op) {t : Nat} {w : Bool} (h : o.gd = some (t, w)) {tmps : Array Value} :
    (∀ b, tmps.getD t undef = .bool b → Region.wanted op (yielded ops tmps) = (b == w)) ∧ (∀ x, tmps.getD t undef = .tuple x → Region.wanted op (yielded ops tmps) = false) := by
  have hg := r.gd
  rw [h] at hg
  cases hq : op.guard with
  | none => rw [hq] at hg; simp [cGd] at hg
  | some q =>
    obtain ⟨j, w'⟩ := q
    rw [hq] at hg
    simp only [cGd] at hg
    cases hd : (ops[j]?).bind (·.dst) with
    | none => simp [hd] at hg
    | some d =>
      simp only [hd, Option.map_some, Option.some.injEq, Prod.mk.injEq] at hg
      obtain ⟨rfl, rfl⟩ := hg
      unfold Region.wanted
      rw [hq]
      refine ⟨fun b hb => ?_, fun x hx => ?_⟩
      · show (yielded ops tmps j == some w') = _
        rw [yielded_bo hd hb]; cases b <;> cases w' <;> rfl
      · show (yielded ops tmps j == some w') = _
        rw [yielded_tu hd hx]; rfl

inductive RelL (P : Program) (pol : Pol) (ntm : Nat) (clr : List Nat) (ops : Array Oper) : List Nat → List DOp → Prop
  | nil : RelL P pol ntm clr ops [] []
  | cons {i : Nat} {o : DOp} {op : Oper} {is : List Nat} {os : List DOp} (h : Rel P pol ntm clr ops i o op) (t : RelL P pol ntm clr ops is os) : RelL P pol ntm clr ops (i :: is) (o :: os)

/-- a panic's state -/
def PanS (E : Ent) (v : V) (s : St) (cv : Value) (w : World) : Prop :=
  ∃ g ν, MemR E g ν s.lo s.hp w ∧ RepA g v cv ∧ isLp v = false

theorem upd_self {tm : Tm} {t : Nat} {v : V} (h : tm t = v) : upd tm t v = tm := by
  funext j
  simp only [upd]
  by_cases e : j = t
  · subst e; simp [h]
  · simp [beqF e]

theorem RepT.tup_nil {g : G} {ν : Nat → Option Nat} {cv : Value} (h : RepT g ν (.tu []) cv) : ∃ x, cv = .tuple x := by
  obtain ⟨arr, e, _⟩ := RepA.tu_inv h
  exact ⟨arr, e⟩

section
variable {P : Program} {call : Call} {L : Nat} {pol : Pol} {E : Ent} {ntm : Nat} {clr : List Nat} {ops : Array Oper} {Q : Exit → Act → World → Prop}

theorem put_other {st s : St} {dst : Option Nat} {v : V} {t : Nat} (h : sameD dst (some t) = false) (hs : s.tm = st.tm) : (Ev.put s dst v).tm t = st.tm t := by
  cases dst with
  | none => exact congrFun hs t
  | some d =>
    have : t ≠ d := fun e => by subst e; simp [sameD] at h
    simp only [Ev.put, upd, beqF this, cond_false, hs]

theorem evL_ok (hcall : CallOK P call) {gd : Option (Nat × Bool)} {k : R → D} {r0 : R} (hb : r0 ≠ .bad) {rest : List Nat}
    (hk : ∀ st a w g ν, StR E ntm clr g ν st a w → run call L (k (.norm st)) = r0 → wpOps P ops Q rest a w)
    (hp : ∀ v s a w cv, a.defers = [] → PanS E v s cv w → run call L (k (.pan v s)) = r0 → Q (.panic [{ v := cv, recovered := false }]) a w) :
    ∀ (os : List DOp) (is : List Nat) (st : St) (a : Act) (w : World) (g : G) (ν : Nat → Option Nat), RelL P pol ntm clr ops is os → (∀ o, o ∈ os → o.gd = gd) →
      (∀ t b, gd = some (t, b) → st.tm t = .bo b) → StR E ntm clr g ν st a w → run call L (evL clr (os.map DOp.den) st k) = r0 → wpOps P ops Q (is ++ rest) a w := by
  intro os
  induction os with
  | nil =>
    intro is st a w g ν hr _ _ hs hrun
    cases hr
    exact hk st a w g ν hs hrun
  | cons o os ih =>
    intro is st a w g ν hr hg ht hs hrun
    cases hr with
    | cons h t =>
      rename_i i op is
      have hog : o.gd = gd := hg o (by simp)
      simp only [List.cons_append, wpOps, h.at_]
      have hw : Region.wanted op (yielded ops a.tmps) = true := by
        cases hgd : gd with
        | none => exact wanted_none h (hog.trans hgd) _
        | some q =>
          obtain ⟨gt, gb⟩ := q
          have h1 := (wanted_some h (hog.trans hgd) (tmps := a.tmps)).1 gb
          have h2 := hs.tm gt
          rw [ht gt gb hgd] at h2
          rw [h1 (RepA.bo_inv h2)]
          cases gb <;> rfl
      rw [if_pos hw]
      refine .inl ?_
      simp only [List.map_cons, evL, DOp.den] at hrun
      refine op_ok (e := ⟨P, E, ntm, clr, o.dst, g, ν, st, a, w, op, call, L⟩) hs hcall (pol := pol) (i := o.ins) (d := o.dst.getD 0) (us := o.us) h.ins h.dst (fun d' hd' => by have q : o.dst = some d' := hd'; simp [q]) h.us hrun hb ?_ ?_
      · intro v s cv w' g' ν' hrun' ha
        have hst := hs.put h.less ha
        have hdo : op.dst = o.dst := h.dst.symm
        show wpOps P ops Q (is ++ rest) (a.put op.dst cv) w'
        rw [hdo]
        refine ih is _ _ _ g' ν' t (fun o' ho' => hg o' (by simp [ho'])) (fun gt gb hgd => ?_) hst hrun'
        rw [put_other (st := st) ?_ ha.tmeq, ht gt gb hgd]
        have := h.own; rw [hog, hgd] at this; exact this
      · intro v s cv w' g' hrun' ha
        exact hp v s a w' cv hs.defers ⟨g', ν, ha.mem, ha.val, ha.lp⟩ hrun'

theorem undo_ok {rest : List Nat} {gt : Nat} {gb : Bool} :
    ∀ (os : List DOp) (is : List Nat) (st : St) (a : Act) (w : World) (g : G) (ν : Nat → Option Nat), RelL P pol ntm clr ops is os → (∀ o, o ∈ os → o.gd = some (gt, gb)) →
      (st.tm gt = .bo (!gb) ∨ st.tm gt = .tu []) → StR E ntm clr g ν st a w →
      (∀ a g ν, StR E ntm clr g ν (undo (os.map DOp.den) st) a w → wpOps P ops Q rest a w) → wpOps P ops Q (is ++ rest) a w := by
  intro os
  induction os with
  | nil =>
    intro is st a w g ν hr _ _ hs hk
    cases hr
    exact hk a g ν hs
  | cons o os ih =>
    intro is st a w g ν hr hg ht hs hk
    cases hr with
    | cons h t =>
      rename_i i op is
      have hog : o.gd = some (gt, gb) := hg o (by simp)
      simp only [List.cons_append, wpOps, h.at_]
      have hw : Region.wanted op (yielded ops a.tmps) = false := by
        obtain ⟨h1, h2⟩ := wanted_some h hog (tmps := a.tmps)
        have h3 := hs.tm gt
        rcases ht with ht | ht
        · rw [ht] at h3
          rw [h1 _ (RepA.bo_inv h3)]; cases gb <;> rfl
        · rw [ht] at h3
          obtain ⟨x, hx⟩ := h3.tup_nil
          exact h2 x hx
      rw [if_neg (by rw [hw]; simp)]
      rw [← h.dst]
      have hne : sameD o.dst (some gt) = false := by have := h.own; rw [hog] at this; exact this
      refine ih is (Ev.put st o.dst (.tu [])) _ w g ν t (fun o' ho' => hg o' (by simp [ho'])) ?_ (hs.skip h.less) hk
      rw [put_other hne rfl]; exact ht

theorem evG_ok (hcall : CallOK P call) {gr : DGr} {k : R → D} {r0 : R} (hb : r0 ≠ .bad) {rest is : List Nat} {st : St} {a : Act} {w : World} {g : G} {ν : Nat → Option Nat}
    (hr : RelL P pol ntm clr ops is gr.ops) (hg : ∀ o, o ∈ gr.ops → o.gd = gr.gd) (hs : StR E ntm clr g ν st a w) (hrun : run call L (evG clr gr.den st k) = r0)
    (hk : ∀ st a w g ν, StR E ntm clr g ν st a w → run call L (k (.norm st)) = r0 → wpOps P ops Q rest a w)
    (hp : ∀ v s a w cv, a.defers = [] → PanS E v s cv w → run call L (k (.pan v s)) = r0 → Q (.panic [{ v := cv, recovered := false }]) a w) : wpOps P ops Q (is ++ rest) a w := by
  unfold evG DGr.den at hrun
  cases hgd : gr.gd with
  | none =>
    simp only [hgd] at hrun
    exact evL_ok hcall hb hk hp gr.ops is st a w g ν hr hg (fun t b q => by rw [hgd] at q; cases q) hs hrun
  | some q =>
    obtain ⟨gt, gb⟩ := q
    simp only [hgd] at hrun
    have hskip : (st.tm gt = .bo (!gb) ∨ st.tm gt = .tu []) → run call L (k (.norm (undo (gr.ops.map DOp.den) st))) = r0 → wpOps P ops Q (is ++ rest) a w := fun h1 h2 =>
      undo_ok gr.ops is st a w g ν hr (fun o ho => (hg o ho).trans hgd) h1 hs fun a' g' ν' hs' => hk _ _ _ _ _ hs' h2
    cases hv : st.tm gt with
    | bo b =>
      simp only [hv, run] at hrun
      by_cases hbw : b = gb
      · subst hbw
        have : (bif b then b else !b) = true := by cases b <;> rfl
        simp only [this, cond_true, upd_self hv] at hrun
        exact evL_ok hcall hb hk hp gr.ops is st a w g ν hr hg (fun t b' q => by rw [hgd] at q; cases q; exact hv) hs hrun
      · have : (bif gb then b else !b) = false := by cases b <;> cases gb <;> simp_all
        have hbe : b = !gb := by cases b <;> cases gb <;> simp_all
        rw [hbe] at hv
        simp only [this, cond_false, upd_self hv] at hrun
        exact hskip (.inl hv) hrun
    | tu xs =>
      cases xs with
      | nil => simp only [hv] at hrun; exact hskip (.inr hv) hrun
      | cons => simp only [hv, run] at hrun; exact absurd hrun.symm hb
    | _ => simp only [hv, run] at hrun; exact absurd hrun.symm hb

theorem clear_get : ∀ (l : List Nat) (tm : Tm) (t : Nat), clear l tm t = if t ∈ l then .un else tm t := by
  intro l
  induction l with
  | nil => intro tm t; simp [clear]
  | cons d r ih =>
    intro tm t
    simp only [clear, ih, upd]
    by_cases h : t ∈ r
    · simp [h]
    · by_cases e : t = d
      · subst e; simp
      · simp [h, e, beqF e]

theorem StR.clear {g : G} {ν : Nat → Option Nat} {st : St} {a : Act} {w : World} (h : StR E ntm clr g ν st a w) : StR E ntm [] g ν ⟨Ev.clear clr st.tm, st.lo, st.hp⟩ a w := by
  refine ⟨h.size, h.defers, fun t => ?_, fun t d off x => ?_, h.mem⟩
  · simp only [clear_get]
    split
    · exact RepA.un _
    · exact h.tm t
  · simp only [clear_get] at x
    split at x
    · cases x
    · rename_i hn
      rcases h.lps t d off x with q | q
      · exact .inl q
      · exact absurd (hasN_mem q) hn

theorem StR.weaken {g : G} {ν : Nat → Option Nat} {st : St} {a : Act} {w : World} (h : StR E ntm [] g ν st a w) : StR E ntm clr g ν st a w :=
  ⟨h.size, h.defers, h.tm, fun t d off x => .inl ((h.lps t d off x).resolve_right (by simp [hasN])), h.mem⟩

theorem evGs_ok (hcall : CallOK P call) {k : R → D} {r0 : R} (hb : r0 ≠ .bad)
    (hk : ∀ st a w g ν, StR E ntm [] g ν st a w → run call L (k (.norm st)) = r0 → Q .normal a w)
    (hp : ∀ v s a w cv, a.defers = [] → PanS E v s cv w → run call L (k (.pan v s)) = r0 → Q (.panic [{ v := cv, recovered := false }]) a w) :
    ∀ (gs : List DGr) (is : List Nat) (st : St) (a : Act) (w : World) (g : G) (ν : Nat → Option Nat), RelL P pol ntm clr ops is (gs.flatMap (·.ops)) → (∀ gr, gr ∈ gs → ∀ o, o ∈ gr.ops → o.gd = gr.gd) →
      StR E ntm clr g ν st a w → run call L (evGs clr (gs.map DGr.den) st k) = r0 → wpOps P ops Q is a w := by
  intro gs
  induction gs with
  | nil =>
    intro is st a w g ν hr _ hs hrun
    cases hr
    exact hk _ a w g ν hs.clear hrun
  | cons gr gs ih =>
    intro is st a w g ν hr hg hs hrun
    have hsplit : ∀ (l1 l2 : List DOp) (is : List Nat), RelL P pol ntm clr ops is (l1 ++ l2) → ∃ i1 i2, is = i1 ++ i2 ∧ RelL P pol ntm clr ops i1 l1 ∧ RelL P pol ntm clr ops i2 l2 := by
      intro l1
      induction l1 with
      | nil => exact fun l2 is h => ⟨[], is, rfl, .nil, h⟩
      | cons o l1 ih =>
        intro l2 is h
        cases h with
        | cons h t =>
          obtain ⟨i1, i2, rfl, a, b⟩ := ih l2 _ t
          exact ⟨_ :: i1, i2, rfl, .cons h a, b⟩
    rw [List.flatMap_cons] at hr
    obtain ⟨i1, i2, rfl, hr1, hr2⟩ := hsplit _ _ _ hr
    simp only [List.map_cons, evGs] at hrun
    refine evG_ok hcall hb hr1 (hg gr (by simp)) hs hrun ?_ ?_
    · intro st' a' w' g' ν' hs' hrun'
      exact ih i2 st' a' w' g' ν' hr2 (fun gr' h' => hg gr' (by simp [h'])) hs' hrun'
    · exact fun v s a' w' cv hd hps hrun' => hp v s a' w' cv hd hps hrun'

theorem sameG_eq {a b : Option (Nat × Bool)} (h : sameG a b = true) : a = b := by
  cases a with
  | none => cases b with
    | none => rfl
    | some q => simp [sameG] at h
  | some p => cases b with
    | none => simp [sameG] at h
    | some q =>
      obtain ⟨a, x⟩ := p
      obtain ⟨b, y⟩ := q
      simp only [sameG, Bool.and_eq_true, beq_iff_eq] at h
      rw [Nat.eq_of_beq_eq_true h.1, h.2]

theorem group_ok : ∀ l : List DOp, (group l).flatMap (·.ops) = l ∧ ∀ gr, gr ∈ group l → ∀ o, o ∈ gr.ops → o.gd = gr.gd := by
  intro l
  induction l with
  | nil => exact ⟨rfl, fun _ h => by cases h⟩
  | cons o l ih =>
    obtain ⟨h1, h2⟩ := ih
    simp only [group]
    cases hg : group l with
    | nil =>
      rw [hg] at h1
      simp only []
      refine ⟨by simp [← h1], fun gr hgr o' ho' => ?_⟩
      simp only [List.mem_singleton] at hgr; subst hgr
      simp only [List.mem_singleton] at ho'; subst ho'
      rfl
    | cons gr gs =>
      rw [hg] at h1 h2
      simp only []
      cases hs : sameG o.gd gr.gd with
      | true =>
        simp only [cond_true]
        refine ⟨by rw [← h1]; simp, fun gr' hgr' o' ho' => ?_⟩
        rcases List.mem_cons.1 hgr' with rfl | hm
        · rcases List.mem_cons.1 ho' with rfl | hm'
          · exact sameG_eq hs
          · exact h2 gr (by simp) o' hm'
        · exact h2 gr' (by simp [hm]) o' ho'
      | false =>
        simp only [cond_false]
        refine ⟨by rw [← h1]; simp, fun gr' hgr' o' ho' => ?_⟩
        rcases List.mem_cons.1 hgr' with rfl | hm
        · simp only [List.mem_singleton] at ho'; subst ho'; rfl
        · exact h2 gr' hm o' ho'

end
end Ev
