import Derived.Test.YtddohjlkjakdlaaEvC
import Derived.Orders
import Derived.LoopN
import Derived.Scope
import Derived.ChangeSame
import Derived.ReadAgain
import Derived.OpenShut
import Derived.ProofKit
import Derived.JoinedCond
import Derived.WalkKit
set_option linter.unusedVariables false
set_option linter.unusedSimpArgs false
namespace Ev
open Go

theorem force_eq {α : Type} (k : V → α) (v : V) : force k v = k v := by
  cases v with
  | bo x => cases x <;> rfl
  | _ => rfl
theorem forceL_eq {α : Type} : ∀ (l : List V) (k : List V → α), forceL k l = k l
  | [], _ => rfl
  | v :: r, k => by simp only [forceL]; rw [force_eq, forceL_eq r]

/-- a value that a panic bears -/
structure PanA (E : Ent) (g : G) (ν : Nat → Option Nat) (st s : St) (v : V) (cv : Value) (w' : World) (g' : G) : Prop where
  mem : MemR E g' ν s.lo s.hp w'
  le : GLe g g'
  val : RepA g' v cv
  lp : isLp v = false

theorem run_callFunc {P : Program} {w : World} {f : FuncId} {args : Array Value} (h : Enters P f) : (callFunc f args).run P w = .ok (.enter f args) w := by
  obtain ⟨fn, h1, h2, h3⟩ := h
  obtain ⟨b, hb⟩ := Option.isSome_iff_exists.1 h3
  simp [callFunc, h1, h2, hb]

theorem args_of {g : G} {ν : Nat → Option Nat} {tm : Tm} {a : Act} (ht : ∀ t, RepT g ν (tm t) (a.tmps.getD t undef)) {ops : Array Operand} {as : List A} (ha : allSome cA ops.toList = some as) (hl : (as.map (get tm)).any isLp = false) :
    Args g (as.map (get tm)) (ops.map a.eval) := by
  have hall : ∀ x, x ∈ as.map (get tm) → isLp x = false := fun x hx => by
    have := List.any_eq_false.1 hl x hx; simpa using this
  refine ⟨by have := allSome_len ha; simp at this ⊢; omega, hall, fun i x hx => ?_⟩
  have hm := hall x (List.mem_of_getElem? hx)
  rw [List.getElem?_map] at hx
  cases hq : as[i]? with
  | none => simp [hq] at hx
  | some q =>
    simp only [hq, Option.map_some, Option.some.injEq] at hx; subst hx
    obtain ⟨y, hy, hcy⟩ := allSome_get ha i q hq
    have : (ops.map a.eval).getD i undef = a.eval y := by
      simp only [Array.getElem?_toList] at hy
      simp [Array.getD_eq_getD_getElem?, hy]
    rw [this]; exact (cA_rep hcy ht).toA hm

theorem Args.append {g : G} {xs ys : List V} {a b : Array Value} (h : Args g xs a) (h' : Args g ys b) : Args g (xs ++ ys) (a ++ b) := by
  refine ⟨by simp [h.size, h'.size], fun x hx => (List.mem_append.1 hx).elim (h.lp x) (h'.lp x), fun i x hx => ?_⟩
  by_cases hi : i < xs.length
  · rw [List.getElem?_append_left hi] at hx
    have : (a ++ b).getD i undef = a.getD i undef := by
      rw [Array.getD_eq_getD_getElem?, Array.getElem?_append_left (by rw [h.size]; exact hi), Array.getD_eq_getD_getElem?]
    rw [this]; exact h.rep i x hx
  · rw [List.getElem?_append_right (by omega)] at hx
    have : (a ++ b).getD i undef = b.getD (i - xs.length) undef := by
      rw [Array.getD_eq_getD_getElem?, Array.getElem?_append_right (by rw [h.size]; omega), h.size, Array.getD_eq_getD_getElem?]
    rw [this]; exact h'.rep _ x hx

section
variable {e : Env}

/-- a call in a function -/
theorem callD_ok (h : e.St) (hcall : CallOK e.P e.call) {own : Bool} {f : FuncId} {vs : List V} {cs : Array Value} (ha : vs.any isLp = false → Args e.g vs cs) (hx : Enters e.P f → (execOp e.a.eval e.o).run e.P e.w = .ok (.enter f cs) e.w)
    {k kp : V → St → D} {r0 : R} (hrun : run e.call e.L (callD own f vs e.st k kp) = r0) (hb : r0 ≠ .bad) {next : Act → World → Prop} {Q : Exit → Act → World → Prop}
    (hk : ∀ v s cv w' g' ν', run e.call e.L (k v s) = r0 → After e.E e.clr e.dst e.g e.ν e.st v s cv w' g' ν' → next (e.a.put e.o.dst cv) w')
    (hp : ∀ v s cv w' g', run e.call e.L (kp v s) = r0 → PanA e.E e.g e.ν e.st s v cv w' g' → Q (.panic [{ v := cv, recovered := false }]) e.a w') : e.o.wp e.P e.a e.w next Q := by
  unfold callD at hrun
  cases hl : vs.any isLp with
  | true => simp only [hl, cond_true, run] at hrun; exact absurd hrun.symm hb
  | false =>
    simp only [hl, cond_false, run, forceL_eq] at hrun
    have hok := hcall own f vs cs e.E e.g e.ν e.st.lo e.st.hp e.w h.mem (ha hl)
    cases hc : e.call own f vs e.st.hp with
    | bad => simp only [hc, run] at hrun; exact absurd hrun.symm hb
    | ret v hp' =>
      simp only [hc] at hrun hok
      unfold Oper.wp
      rw [hx hok.1, Oper.upon_enter]
      refine Calls.mono hok.2 fun en w' x => ?_
      obtain ⟨cv, g', rfl, h1, h2, h3, h4⟩ := x
      exact hk v (e.st.setHp hp') cv w' g' e.ν hrun ⟨rfl, h1, h2, .inl rfl, .ofA h3, fun _ _ _ _ q => by subst q; simp [isLp] at h4⟩
    | pan v hp' =>
      simp only [hc] at hrun hok
      unfold Oper.wp
      rw [hx hok.1, Oper.upon_enter]
      refine Calls.mono hok.2 fun en w' x => ?_
      obtain ⟨cv, g', rfl, h1, h2, h3, h4⟩ := x
      exact hp v (e.st.setHp hp') cv w' g' hrun ⟨h1, h2, h3, h4⟩

/-- an operation does what its instruction says -/
theorem op_ok (h : e.St) (hcall : CallOK e.P e.call) {pol : Pol} {i : I} {d : Nat} {us : List Nat} (hi : cIns e.P pol e.o = some i) (hde : e.dst = e.o.dst) (hd : ∀ d', e.dst = some d' → d' = d) (hus : i.boxes = true → ∀ t, hasN e.clr t = true → t ∈ us)
    {k kp : V → St → D} {r0 : R} (hrun : run e.call e.L (i.den us e.clr d e.st k kp) = r0) (hb : r0 ≠ .bad) {next : Act → World → Prop} {Q : Exit → Act → World → Prop}
    (hk : ∀ v s cv w' g' ν', run e.call e.L (k v s) = r0 → After e.E e.clr e.dst e.g e.ν e.st v s cv w' g' ν' → next (e.a.put e.o.dst cv) w')
    (hp : ∀ v s cv w' g', run e.call e.L (kp v s) = r0 → PanA e.E e.g e.ν e.st s v cv w' g' → Q (.panic [{ v := cv, recovered := false }]) e.a w') : e.o.wp e.P e.a e.w next Q := by
  by_cases hnc : i.calls = false
  · rcases ins_ok h (us := us) hi hnc hde hd hus with hbad | ⟨v, s, cv, w', g', ν', ho, hf, ha⟩
    · rw [hbad] at hrun; exact absurd hrun.symm hb
    · have := hk v s cv w' g' ν' ((ho k kp).symm.trans hrun) ha
      unfold Oper.wp
      cases hf with
      | value _ _ hf => rw [hf]; exact this
      | skip _ hf => rw [hf]; exact this
  · unfold cIns at hi
    cases ho : e.o.op <;> simp only [ho, reduceCtorEq] at hi
    case panic x =>
      cases hx : cA x <;> simp only [hx, Option.map_none, Option.map_some, reduceCtorEq, Option.some.injEq] at hi
      subst hi
      rename_i xa
      have hr := h.rep hx
      simp only [I.den, iPan] at hrun
      cases hg : get e.st.tm xa with
      | fc t v =>
        rw [hg] at hr
        simp only [hg] at hrun
        obtain ⟨cv, hcv, _, _⟩ := RepA.fc_inv hr
        unfold Oper.wp
        have : (execOp e.a.eval e.o).run e.P e.w = .halt (.panic (.iface t cv)) e.w := by simp [execOp, ho, hcv, Instr.panic]
        rw [this, Oper.upon_panic]
        exact hp (.fc t v) e.st _ e.w e.g hrun ⟨h.mem, GLe.refl _, by rw [hcv] at hr; exact hr, rfl⟩
      | _ => simp only [hg, run] at hrun; exact absurd hrun.symm hb
    case call c =>
      split at hi
      · rename_i f xs hcal ha
        split at hi
        · exfalso
          split at hi
          · simp only [Option.some.injEq] at hi; subst hi; exact hnc rfl
          · cases hi
        simp only [Option.some.injEq] at hi; subst hi
        refine callD_ok h hcall (fun hl => args_of h.tm ha hl) (fun hen => ?_) hrun hb hk hp
        simp only [execOp, ho, resolve, hcal, Deferred.ofValue, Sem.run_bind, Act.eval, Sem.run_pure, Result.andThen_ok, invoke]
        simp [run_callFunc hen]
      · rename_i fx xs _ hcal ha
        cases hf : cA fx <;> simp only [hf, Option.map_none, Option.map_some, reduceCtorEq, Option.some.injEq] at hi
        subst hi
        rename_i fa
        have hr := h.rep hf
        simp only [I.den, iClv] at hrun
        cases hg : get e.st.tm fa with
        | fn f first cap =>
          rw [hg] at hr
          simp only [hg] at hrun
          cases hgf : goodF (bif pol.fns.all (fun g => notRw (pol.mds g)) then pol.fns else []) f with
          | false => simp only [hgf, cond_false, run] at hrun; exact absurd hrun.symm hb
          | true =>
          simp only [hgf, cond_true] at hrun
          obtain ⟨a1, a2, hcv, n1, n2, l1, l2, r1, r2⟩ := RepA.fn_inv hr
          refine callD_ok h hcall (cs := a1 ++ c.args.map e.a.eval ++ a2) (fun hl => ?_) (fun hen => ?_) hrun hb hk hp
          · have hl' : (xs.map (get e.st.tm)).any isLp = false := by
              rw [List.any_append, List.any_append, Bool.or_eq_false_iff, Bool.or_eq_false_iff] at hl
              exact hl.1.2
            exact (Args.append (Args.append ⟨n1, l1, r1⟩ (args_of h.tm ha hl')) ⟨n2, l2, r2⟩)
          · simp only [execOp, ho, resolve, hcal, hcv, Deferred.ofValue, Sem.run_bind, Sem.run_pure, Result.andThen_ok, invoke]
            simp [run_callFunc hen]
        | _ => simp only [hg, run] at hrun; exact absurd hrun.symm hb
      · rename_i b xs hcal ha
        exfalso
        apply hnc
        clear hk hp hrun hcall
        repeat' (split at hi)
        all_goals first | (simp only [Option.some.injEq] at hi; subst hi; rfl) | cases hi
      · cases hi
    case' makeFunc f first cap => cases f <;> simp only [reduceCtorEq] at hi
    case' makeMap t hint => cases hint <;> simp only [reduceCtorEq] at hi
    case' slice t x lo hh mx => cases mx <;> simp only [reduceCtorEq] at hi
    all_goals
      exfalso
      apply hnc
      clear hk hp hrun hcall
      revert hi
      repeat' split
      all_goals intro hi
      all_goals first | (simp only [Option.some.injEq] at hi; subst hi; rfl) | (simp only [reduceCtorEq] at hi; done) | (simp only [Option.map_eq_some_iff] at hi; obtain ⟨_, _, rfl⟩ := hi; rfl) | skip
end
end Ev

namespace Ev
open Go

theorem RepT.mono {g g' : G} {ν ν' : Nat → Option Nat} (hg : GLe g g') {v : V} {cv : Value} (h : RepT g ν v cv) (hn : ∀ e off, v = .lp e off → ν' e = ν e) : RepT g' ν' v cv := by
  cases v with
  | lp t off => obtain ⟨b, h1, h2⟩ := h; exact ⟨b, (hn t off rfl).trans h1, h2⟩
  | _ => exact RepA.mono hg h

theorem StR.put {E : Ent} {ntm : Nat} {clr : List Nat} {g : G} {ν : Nat → Option Nat} {st : St} {a : Act} {w : World} (h : StR E ntm clr g ν st a w) {dst : Option Nat} (hd : lessN ntm dst = true)
    {v : V} {s : St} {cv : Value} {w' : World} {g' : G} {ν' : Nat → Option Nat} (ha : After E clr dst g ν st v s cv w' g' ν') : StR E ntm clr g' ν' (Ev.put s dst v) (a.put dst cv) w' := by
  cases dst with
  | none =>
    have hnu : ν' = ν := by
      rcases ha.nu with q | ⟨d, q, _⟩
      · exact q
      · cases q
    refine ⟨h.size, h.defers, fun t => ?_, fun t d off x => ?_, ha.mem⟩
    · show RepT g' ν' (s.tm t) _
      rw [ha.tmeq, hnu]; exact (h.tm t).mono ha.le fun _ _ _ => rfl
    · have x : s.tm t = .lp d off := x
      rw [ha.tmeq] at x; exact h.lps t d off x
  | some d =>
    have hlt : d < a.tmps.size := by rw [h.size]; exact bltL hd
    refine ⟨by simp [Act.put, h.size], h.defers, fun t => ?_, fun t e off x => ?_, ha.mem⟩
    · simp only [Ev.put, Act.put, upd]
      by_cases e : t = d
      · subst e
        simp only [Nat.beq_refl, cond_true]
        have : (a.tmps.setIfInBounds t cv).getD t undef = cv := by simp [Array.getD_eq_getD_getElem?, hlt]
        rw [this]; exact ha.val
      · simp only [beqF e, cond_false]
        have : (a.tmps.setIfInBounds d cv).getD t undef = a.tmps.getD t undef := by simp [Array.getD_eq_getD_getElem?, Ne.symm e]
        rw [this, ha.tmeq]
        refine (h.tm t).mono ha.le fun x off hx => ?_
        rcases ha.nu with q | ⟨d', q, ⟨y, hy⟩, q'⟩
        · rw [q]
        · cases q
          rw [hy]
          have : x ≠ d := fun c => q' t e off (by rw [hx, c])
          simp [this]
    · simp only [Ev.put, upd] at x
      by_cases c : t = d
      · subst c
        simp only [Nat.beq_refl, cond_true] at x
        exact ha.lp t rfl e off x
      · simp only [beqF c, cond_false] at x
        rw [ha.tmeq] at x; exact h.lps t e off x

/-- an operation that is not wanted -/
theorem StR.skip {E : Ent} {ntm : Nat} {clr : List Nat} {g : G} {ν : Nat → Option Nat} {st : St} {a : Act} {w : World} (h : StR E ntm clr g ν st a w) {dst : Option Nat} (hd : lessN ntm dst = true) :
    StR E ntm clr g ν (Ev.put st dst (.tu [])) (a.put dst undef) w :=
  h.put hd ⟨rfl, h.mem, GLe.refl g, .inl rfl, .ofA (.tu [] #[] rfl (by simp) (by simp)), fun _ _ _ _ x => nomatch x⟩

/-- an operation and what was read of it -/
structure Rel (P : Program) (pol : Pol) (ntm : Nat) (clr : List Nat) (ops : Array Oper) (i : Nat) (o : DOp) (op : Oper) : Prop where
  at_ : ops[i]? = some op
  ins : cIns P pol op = some o.ins
  dst : o.dst = op.dst
  gd : cGd ops op.guard = some o.gd
  less : lessN ntm o.dst = true
  own : sameD o.dst (o.gd.map (·.1)) = false
  us : o.ins.boxes = true → ∀ t, hasN clr t = true → t ∈ o.us

theorem wanted_none {P : Program} {pol : Pol} {ntm : Nat} {clr : List Nat} {ops : Array Oper} {i : Nat} {o : DOp} {op : Oper} (r : Rel P pol ntm clr ops i o op) (h : o.gd = none) (f : Nat → Option Bool) : Region.wanted op f = true := by
  have hg := r.gd
  rw [h] at hg
  unfold Region.wanted
  cases hq : op.guard with
  | none => rfl
  | some q =>
    obtain ⟨j, w⟩ := q
    rw [hq] at hg
    simp only [cGd] at hg
    cases hd : (ops[j]?).bind (·.dst) <;> simp [hd] at hg

theorem yielded_bo {ops : Array Oper} {tmps : Array Value} {j d : Nat} {b : Bool} (hd : (ops[j]?).bind (·.dst) = some d) (h : tmps.getD d undef = .bool b) : yielded ops tmps j = some b := by
  unfold yielded
  rw [hd]
  simp only [Option.bind_some]
  rw [Array.getD_eq_getD_getElem?] at h
  cases q : tmps[d]? with
  | none => rw [q] at h; simp [undef] at h
  | some v => rw [q] at h; simp only [Option.getD_some] at h; subst h; rfl

theorem yielded_tu {ops : Array Oper} {tmps : Array Value} {j d : Nat} {x : Array Value} (hd : (ops[j]?).bind (·.dst) = some d) (h : tmps.getD d undef = .tuple x) : yielded ops tmps j = none := by
  unfold yielded
  rw [hd]
  simp only [Option.bind_some]
  rw [Array.getD_eq_getD_getElem?] at h
  cases q : tmps[d]? with
  | none => rfl
  | some v => rw [q] at h; simp only [Option.getD_some] at h; subst h; rfl

theorem wanted_some {P : Program} {pol : Pol} {ntm : Nat} {clr : List Nat} {ops : Array Oper} {i : Nat} {o : DOp} {op : Oper} (r : Rel P pol ntm clr ops i o op) {t : Nat} {w : Bool} (h : o.gd = some (t, w)) {tmps : Array Value} :
    (∀ b, tmps.getD t undef = .bool b → Region.wanted op (yielded ops tmps) = (b == w)) ∧ (∀ x, tmps.getD t undef = .tuple x → Region.wanted op (yielded ops tmps) = false) := by
  have hg := r.gd
  rw [h] at hg
  cases hq : op.guard with
  | none => rw [hq] at hg; simp [cGd] at hg
  | some q =>
    obtain ⟨j, w'⟩ := q
    rw [hq] at hg
    simp only [cGd] at hg
    cases hd : (ops[j]?).bind (·.dst) with
    | none => simp [hd] at hg
    | some d =>
      simp only [hd, Option.map_some, Option.some.injEq, Prod.mk.injEq] at hg
      obtain ⟨rfl, rfl⟩ := hg
      unfold Region.wanted
      rw [hq]
      refine ⟨fun b hb => ?_, fun x hx => ?_⟩
      · show (yielded ops tmps j == some w') = _
        rw [yielded_bo hd hb]; cases b <;> cases w' <;> rfl
      · show (yielded ops tmps j == some w') = _
        rw [yielded_tu hd hx]; rfl

inductive RelL (P : Program) (pol : Pol) (ntm : Nat) (clr : List Nat) (ops : Array Oper) : List Nat → List DOp → Prop
  | nil : RelL P pol ntm clr ops [] []
  | cons {i : Nat} {o : DOp} {op : Oper} {is : List Nat} {os : List DOp} (h : Rel P pol ntm clr ops i o op) (t : RelL P pol ntm clr ops is os) : RelL P pol ntm clr ops (i :: is) (o :: os)

/-- a panic's state -/
def PanS (E : Ent) (v : V) (s : St) (cv : Value) (w : World) : Prop :=
  ∃ g ν, MemR E g ν s.lo s.hp w ∧ RepA g v cv ∧ isLp v = false

theorem upd_self {tm : Tm} {t : Nat} {v : V} (h : tm t = v) : upd tm t v = tm := by
  funext j
  simp only [upd]
  by_cases e : j = t
  · subst e; simp [h]
  · simp [beqF e]

theorem RepT.tup_nil {g : G} {ν : Nat → Option Nat} {cv : Value} (h : RepT g ν (.tu []) cv) : ∃ x, cv = .tuple x := by
  obtain ⟨arr, e, _⟩ := RepA.tu_inv h
  exact ⟨arr, e⟩

section
variable {P : Program} {call : Call} {L : Nat} {pol : Pol} {E : Ent} {ntm : Nat} {clr : List Nat} {ops : Array Oper} {Q : Exit → Act → World → Prop}

theorem put_other {st s : St} {dst : Option Nat} {v : V} {t : Nat} (h : sameD dst (some t) = false) (hs : s.tm = st.tm) : (Ev.put s dst v).tm t = st.tm t := by
  cases dst with
  | none => exact congrFun hs t
  | some d =>
    have : t ≠ d := fun e => by subst e; simp [sameD] at h
    simp only [Ev.put, upd, beqF this, cond_false, hs]

theorem evL_ok (hcall : CallOK P call) {gd : Option (Nat × Bool)} {k : R → D} {r0 : R} (hb : r0 ≠ .bad) {rest : List Nat}
    (hk : ∀ st a w g ν, StR E ntm clr g ν st a w → run call L (k (.norm st)) = r0 → wpOps P ops Q rest a w)
    (hp : ∀ v s a w cv, a.defers = [] → PanS E v s cv w → run call L (k (.pan v s)) = r0 → Q (.panic [{ v := cv, recovered := false }]) a w) :
    ∀ (os : List DOp) (is : List Nat) (st : St) (a : Act) (w : World) (g : G) (ν : Nat → Option Nat), RelL P pol ntm clr ops is os → (∀ o, o ∈ os → o.gd = gd) →
      (∀ t b, gd = some (t, b) → st.tm t = .bo b) → StR E ntm clr g ν st a w → run call L (evL clr (os.map DOp.den) st k) = r0 → wpOps P ops Q (is ++ rest) a w := by
  intro os
  induction os with
  | nil =>
    intro is st a w g ν hr _ _ hs hrun
    cases hr
    exact hk st a w g ν hs hrun
  | cons o os ih =>
    intro is st a w g ν hr hg ht hs hrun
    cases hr with
    | cons h t =>
      rename_i i op is
      have hog : o.gd = gd := hg o (by simp)
      simp only [List.cons_append, wpOps, h.at_]
      have hw : Region.wanted op (yielded ops a.tmps) = true := by
        cases hgd : gd with
        | none => exact wanted_none h (hog.trans hgd) _
        | some q =>
          obtain ⟨gt, gb⟩ := q
          have h1 := (wanted_some h (hog.trans hgd) (tmps := a.tmps)).1 gb
          have h2 := hs.tm gt
          rw [ht gt gb hgd] at h2
          rw [h1 (RepA.bo_inv h2)]
          cases gb <;> rfl
      rw [if_pos hw]
      refine .inl ?_
      simp only [List.map_cons, evL, DOp.den] at hrun
      refine op_ok (e := ⟨P, E, ntm, clr, o.dst, g, ν, st, a, w, op, call, L⟩) hs hcall (pol := pol) (i := o.ins) (d := o.dst.getD 0) (us := o.us) h.ins h.dst (fun d' hd' => by have q : o.dst = some d' := hd'; simp [q]) h.us hrun hb ?_ ?_
      · intro v s cv w' g' ν' hrun' ha
        have hst := hs.put h.less ha
        have hdo : op.dst = o.dst := h.dst.symm
        show wpOps P ops Q (is ++ rest) (a.put op.dst cv) w'
        rw [hdo]
        refine ih is _ _ _ g' ν' t (fun o' ho' => hg o' (by simp [ho'])) (fun gt gb hgd => ?_) hst hrun'
        rw [put_other (st := st) ?_ ha.tmeq, ht gt gb hgd]
        have := h.own; rw [hog, hgd] at this; exact this
      · intro v s cv w' g' hrun' ha
        exact hp v s a w' cv hs.defers ⟨g', ν, ha.mem, ha.val, ha.lp⟩ hrun'

theorem undo_ok {rest : List Nat} {gt : Nat} {gb : Bool} :
    ∀ (os : List DOp) (is : List Nat) (st : St) (a : Act) (w : World) (g : G) (ν : Nat → Option Nat), RelL P pol ntm clr ops is os → (∀ o, o ∈ os → o.gd = some (gt, gb)) →
      (st.tm gt = .bo (!gb) ∨ st.tm gt = .tu []) → StR E ntm clr g ν st a w →
      (∀ a g ν, StR E ntm clr g ν (undo (os.map DOp.den) st) a w → wpOps P ops Q rest a w) → wpOps P ops Q (is ++ rest) a w := by
  intro os
  induction os with
  | nil =>
    intro is st a w g ν hr _ _ hs hk
    cases hr
    exact hk a g ν hs
  | cons o os ih =>
    intro is st a w g ν hr hg ht hs hk
    cases hr with
    | cons h t =>
      rename_i i op is
      have hog : o.gd = some (gt, gb) := hg o (by simp)
      simp only [List.cons_append, wpOps, h.at_]
      have hw : Region.wanted op (yielded ops a.tmps) = false := by
        obtain ⟨h1, h2⟩ := wanted_some h hog (tmps := a.tmps)
        have h3 := hs.tm gt
        rcases ht with ht | ht
        · rw [ht] at h3
          rw [h1 _ (RepA.bo_inv h3)]; cases gb <;> rfl
        · rw [ht] at h3
          obtain ⟨x, hx⟩ := h3.tup_nil
          exact h2 x hx
      rw [if_neg (by rw [hw]; simp)]
      rw [← h.dst]
      have hne : sameD o.dst (some gt) = false := by have := h.own; rw [hog] at this; exact this
      refine ih is (Ev.put st o.dst (.tu [])) _ w g ν t (fun o' ho' => hg o' (by simp [ho'])) ?_ (hs.skip h.less) hk
      rw [put_other hne rfl]; exact ht

theorem evG_ok (hcall : CallOK P call) {gr : DGr} {k : R → D} {r0 : R} (hb : r0 ≠ .bad) {rest is : List Nat} {st : St} {a : Act} {w : World} {g : G} {ν : Nat → Option Nat}
    (hr : RelL P pol ntm clr ops is gr.ops) (hg : ∀ o, o ∈ gr.ops → o.gd = gr.gd) (hs : StR E ntm clr g ν st a w) (hrun : run call L (evG clr gr.den st k) = r0)
    (hk : ∀ st a w g ν, StR E ntm clr g ν st a w → run call L (k (.norm st)) = r0 → wpOps P ops Q rest a w)
    (hp : ∀ v s a w cv, a.defers = [] → PanS E v s cv w → run call L (k (.pan v s)) = r0 → Q (.panic [{ v := cv, recovered := false }]) a w) : wpOps P ops Q (is ++ rest) a w := by
  unfold evG DGr.den at hrun
  cases hgd : gr.gd with
  | none =>
    simp only [hgd] at hrun
    exact evL_ok hcall hb hk hp gr.ops is st a w g ν hr hg (fun t b q => by rw [hgd] at q; cases q) hs hrun
  | some q =>
    obtain ⟨gt, gb⟩ := q
    simp only [hgd] at hrun
    have hskip : (st.tm gt = .bo (!gb) ∨ st.tm gt = .tu []) → run call L (k (.norm (undo (gr.ops.map DOp.den) st))) = r0 → wpOps P ops Q (is ++ rest) a w := fun h1 h2 =>
      undo_ok gr.ops is st a w g ν hr (fun o ho => (hg o ho).trans hgd) h1 hs fun a' g' ν' hs' => hk _ _ _ _ _ hs' h2
    cases hv : st.tm gt with
    | bo b =>
      simp only [hv, run] at hrun
      by_cases hbw : b = gb
      · subst hbw
        have : (bif b then b else !b) = true := by cases b <;> rfl
        simp only [this, cond_true, upd_self hv] at hrun
        exact evL_ok hcall hb hk hp gr.ops is st a w g ν hr hg (fun t b' q => by rw [hgd] at q; cases q; exact hv) hs hrun
      · have : (bif gb then b else !b) = false := by cases b <;> cases gb <;> simp_all
        have hbe : b = !gb := by cases b <;> cases gb <;> simp_all
        rw [hbe] at hv
        simp only [this, cond_false, upd_self hv] at hrun
        exact hskip (.inl hv) hrun
    | tu xs =>
      cases xs with
      | nil => simp only [hv] at hrun; exact hskip (.inr hv) hrun
      | cons => simp only [hv, run] at hrun; exact absurd hrun.symm hb
    | _ => simp only [hv, run] at hrun; exact absurd hrun.symm hb

theorem clear_get : ∀ (l : List Nat) (tm : Tm) (t : Nat), clear l tm t = if t ∈ l then .un else tm t := by
  intro l
  induction l with
  | nil => intro tm t; simp [clear]
  | cons d r ih =>
    intro tm t
    simp only [clear, ih, upd]
    by_cases h : t ∈ r
    · simp [h]
    · by_cases e : t = d
      · subst e; simp
      · simp [h, e, beqF e]

theorem StR.clear {g : G} {ν : Nat → Option Nat} {st : St} {a : Act} {w : World} (h : StR E ntm clr g ν st a w) : StR E ntm [] g ν ⟨Ev.clear clr st.tm, st.lo, st.hp⟩ a w := by
  refine ⟨h.size, h.defers, fun t => ?_, fun t d off x => ?_, h.mem⟩
  · simp only [clear_get]
    split
    · exact RepA.un _
    · exact h.tm t
  · simp only [clear_get] at x
    split at x
    · cases x
    · rename_i hn
      rcases h.lps t d off x with q | q
      · exact .inl q
      · exact absurd (hasN_mem q) hn

theorem StR.weaken {g : G} {ν : Nat → Option Nat} {st : St} {a : Act} {w : World} (h : StR E ntm [] g ν st a w) : StR E ntm clr g ν st a w :=
  ⟨h.size, h.defers, h.tm, fun t d off x => .inl ((h.lps t d off x).resolve_right (by simp [hasN])), h.mem⟩

theorem evGs_ok (hcall : CallOK P call) {k : R → D} {r0 : R} (hb : r0 ≠ .bad)
    (hk : ∀ st a w g ν, StR E ntm [] g ν st a w → run call L (k (.norm st)) = r0 → Q .normal a w)
    (hp : ∀ v s a w cv, a.defers = [] → PanS E v s cv w → run call L (k (.pan v s)) = r0 → Q (.panic [{ v := cv, recovered := false }]) a w) :
    ∀ (gs : List DGr) (is : List Nat) (st : St) (a : Act) (w : World) (g : G) (ν : Nat → Option Nat), RelL P pol ntm clr ops is (gs.flatMap (·.ops)) → (∀ gr, gr ∈ gs → ∀ o, o ∈ gr.ops → o.gd = gr.gd) →
      StR E ntm clr g ν st a w → run call L (evGs clr (gs.map DGr.den) st k) = r0 → wpOps P ops Q is a w := by
  intro gs
  induction gs with
  | nil =>
    intro is st a w g ν hr _ hs hrun
    cases hr
    exact hk _ a w g ν hs.clear hrun
  | cons gr gs ih =>
    intro is st a w g ν hr hg hs hrun
    have hsplit : ∀ (l1 l2 : List DOp) (is : List Nat), RelL P pol ntm clr ops is (l1 ++ l2) → ∃ i1 i2, is = i1 ++ i2 ∧ RelL P pol ntm clr ops i1 l1 ∧ RelL P pol ntm clr ops i2 l2 := by
      intro l1
      induction l1 with
      | nil => exact fun l2 is h => ⟨[], is, rfl, .nil, h⟩
      | cons o l1 ih =>
        intro l2 is h
        cases h with
        | cons h t =>
          obtain ⟨i1, i2, rfl, a, b⟩ := ih l2 _ t
          exact ⟨_ :: i1, i2, rfl, .cons h a, b⟩
    rw [List.flatMap_cons] at hr
    obtain ⟨i1, i2, rfl, hr1, hr2⟩ := hsplit _ _ _ hr
    simp only [List.map_cons, evGs] at hrun
    refine evG_ok hcall hb hr1 (hg gr (by simp)) hs hrun ?_ ?_
    · intro st' a' w' g' ν' hs' hrun'
      exact ih i2 st' a' w' g' ν' hr2 (fun gr' h' => hg gr' (by simp [h'])) hs' hrun'
    · exact fun v s a' w' cv hd hps hrun' => hp v s a' w' cv hd hps hrun'

theorem sameG_eq {a b : Option (Nat × Bool)} (h : sameG a b = true) : a = b := by
  cases a with
  | none => cases b with
    | none => rfl
    | some q => simp [sameG] at h
  | some p => cases b with
    | none => simp [sameG] at h
    | some q =>
      obtain ⟨a, x⟩ := p
      obtain ⟨b, y⟩ := q
      simp only [sameG, Bool.and_eq_true, beq_iff_eq] at h
      rw [Nat.eq_of_beq_eq_true h.1, h.2]

theorem group_ok : ∀ l : List DOp, (group l).flatMap (·.ops) = l ∧ ∀ gr, gr ∈ group l → ∀ o, o ∈ gr.ops → o.gd = gr.gd := by
  intro l
  induction l with
  | nil => exact ⟨rfl, fun _ h => by cases h⟩
  | cons o l ih =>
    obtain ⟨h1, h2⟩ := ih
    simp only [group]
    cases hg : group l with
    | nil =>
      rw [hg] at h1
      simp only []
      refine ⟨by simp [← h1], fun gr hgr o' ho' => ?_⟩
      simp only [List.mem_singleton] at hgr; subst hgr
      simp only [List.mem_singleton] at ho'; subst ho'
      rfl
    | cons gr gs =>
      rw [hg] at h1 h2
      simp only []
      cases hs : sameG o.gd gr.gd with
      | true =>
        simp only [cond_true]
        refine ⟨by rw [← h1]; simp, fun gr' hgr' o' ho' => ?_⟩
        rcases List.mem_cons.1 hgr' with rfl | hm
        · rcases List.mem_cons.1 ho' with rfl | hm'
          · exact sameG_eq hs
          · exact h2 gr (by simp) o' hm'
        · exact h2 gr' (by simp [hm]) o' ho'
      | false =>
        simp only [cond_false]
        refine ⟨by rw [← h1]; simp, fun gr' hgr' o' ho' => ?_⟩
        rcases List.mem_cons.1 hgr' with rfl | hm
        · simp only [List.mem_singleton] at ho'; subst ho'; rfl
        · exact h2 gr' hm o' ho'

end
end Ev

namespace Ev
open Go

/-- what was there stays as it was -/
def HpKeep (hp hp' : Hp) : Prop := ∀ id bk, hget hp id = some bk → ∃ bk', hget hp' id = some bk' ∧ bk'.sz = bk.sz ∧ bk'.es = bk.es

def HpNil (hp : Hp) : Prop := ∀ id, hp.next ≤ id → hget hp id = none

theorem HpKeep.refl (hp : Hp) : HpKeep hp hp := fun _ bk h => ⟨bk, h, rfl, rfl⟩
theorem HpKeep.trans {a b c : Hp} (h : HpKeep a b) (h' : HpKeep b c) : HpKeep a c := fun id bk x => by
  obtain ⟨b1, h1, h2, h3⟩ := h id bk x
  obtain ⟨b2, k1, k2, k3⟩ := h' id b1 h1
  exact ⟨b2, k1, k2.trans h2, k3.trans h3⟩

theorem HpKeep.new {hp : Hp} (hn : HpNil hp) (b : Bk) : HpKeep hp (hnew hp b) := fun id bk x => by
  rw [hget_hnew]
  have : id ≠ hp.next := fun e => by rw [hn id (by omega)] at x; cases x
  simp only [this, if_false]; exact ⟨bk, x, rfl, rfl⟩

theorem HpKeep.freeze (hp : Hp) (id : Nat) : HpKeep hp (freeze hp id) := fun j bk x => by
  unfold Ev.freeze
  cases h : hget hp id with
  | none => exact ⟨bk, x, rfl, rfl⟩
  | some b =>
    simp only [hget_hset]
    by_cases e : j = id
    · subst e; rw [h] at x; cases x; simp
    · simp only [e, if_false]; exact ⟨bk, x, rfl, rfl⟩

theorem freeze_old (hp : Hp) (id j : Nat) (h : hget hp j = none) : hget (freeze hp id) j = none := by
  unfold Ev.freeze
  cases e : hget hp id with
  | none => exact h
  | some b =>
    simp only [hget_hset]
    by_cases q : j = id
    · subst q; rw [e] at h; cases h
    · simp [q, h]


structure Kp (hp hp' : Hp) : Prop where
  keep : HpKeep hp hp'
  none : ∀ id, hget hp id = none → hget hp' id = none
  next : hp'.next = hp.next

theorem Kp.refl (hp : Hp) : Kp hp hp := ⟨.refl hp, fun _ h => h, rfl⟩
theorem Kp.trans {a b c : Hp} (h : Kp a b) (h' : Kp b c) : Kp a c := ⟨h.keep.trans h'.keep, fun id x => h'.none id (h.none id x), h'.next.trans h.next⟩
theorem Kp.freeze (hp : Hp) (id : Nat) : Kp hp (Ev.freeze hp id) := ⟨.freeze hp id, fun j h => freeze_old hp id j h, by unfold Ev.freeze; cases hget hp id <;> rfl⟩

/-- closing makes nothing but what is written no more -/
theorem close_keep : ∀ n,
    (∀ t v hp x hp', closeC n t v hp = some (x, hp') → Kp hp hp') ∧
    (∀ ts vs hp xs hp', closeCs n ts vs hp = some (xs, hp') → Kp hp hp') ∧
    (∀ ts es hp xs hp', closeEs n ts es hp = some (xs, hp') → Kp hp hp') := by
  intro n
  induction n with
  | zero => refine ⟨?_, ?_, ?_⟩ <;> intros <;> simp_all [closeC, closeCs, closeEs]
  | succ n ih =>
    obtain ⟨ih1, ih2, ih3⟩ := ih
    refine ⟨?_, ?_, ?_⟩
    · intro t v hp x hp' h
      cases t with
      | one =>
        cases v <;> simp only [closeC, Option.some.injEq, Prod.mk.injEq, reduceCtorEq] at h <;> (obtain ⟨_, rfl⟩ := h; exact .refl _)
      | sl cs =>
        cases v with
        | ns => simp only [closeC, Option.some.injEq, Prod.mk.injEq] at h; obtain ⟨_, rfl⟩ := h; exact .refl _
        | vs sz es =>
          simp only [closeC] at h
          cases hb : Nat.beq sz cs.length <;> simp only [hb, cond_true, cond_false, Option.some.injEq, Prod.mk.injEq, reduceCtorEq] at h
          obtain ⟨_, rfl⟩ := h; exact .refl _
        | hs id i len =>
          simp only [closeC] at h
          cases hg : hget hp id with
          | none => simp [hg] at h
          | some b =>
            simp only [hg] at h
            cases hb1 : Nat.blt id hp.lim <;> simp only [hb1, cond_true, cond_false, reduceCtorEq] at h
            cases hb2 : Nat.beq b.sz cs.length <;> simp only [hb2, cond_true, cond_false, reduceCtorEq] at h
            cases hb3 : Nat.ble (i + len) b.es.length <;> simp only [hb3, cond_true, cond_false, reduceCtorEq] at h
            cases hc : closeEs n cs ((b.es.drop i).take len) (freeze hp id) with
            | none => simp [hc] at h
            | some q =>
              obtain ⟨es, hh⟩ := q
              simp only [hc, Option.some.injEq, Prod.mk.injEq] at h
              obtain ⟨_, rfl⟩ := h
              exact (Kp.freeze hp id).trans (ih3 _ _ _ _ _ hc)
        | _ => simp [closeC] at h
    · intro ts vs hp xs hp' h
      cases ts with
      | nil => cases vs with
        | nil => simp only [closeCs, Option.some.injEq, Prod.mk.injEq] at h; obtain ⟨_, rfl⟩ := h; exact .refl _
        | cons => simp [closeCs] at h
      | cons t ts => cases vs with
        | nil => simp [closeCs] at h
        | cons v vs =>
          simp only [closeCs] at h
          cases hc : closeC n t v hp with
          | none => simp [hc] at h
          | some q =>
            obtain ⟨x, h1⟩ := q
            simp only [hc] at h
            cases hc2 : closeCs n ts vs h1 with
            | none => simp [hc2] at h
            | some q =>
              obtain ⟨ys, h2⟩ := q
              simp only [hc2, Option.some.injEq, Prod.mk.injEq] at h
              obtain ⟨_, rfl⟩ := h
              exact (ih1 _ _ _ _ _ hc).trans (ih2 _ _ _ _ _ hc2)
    · intro ts es hp xs hp' h
      cases es with
      | nil => simp only [closeEs, Option.some.injEq, Prod.mk.injEq] at h; obtain ⟨_, rfl⟩ := h; exact .refl _
      | cons e r =>
        simp only [closeEs] at h
        cases hc : closeCs n ts e hp with
        | none => simp [hc] at h
        | some q =>
          obtain ⟨x, h1⟩ := q
          simp only [hc] at h
          cases hc2 : closeEs n ts r h1 with
          | none => simp [hc2] at h
          | some q =>
            obtain ⟨ys, h2⟩ := q
            simp only [hc2, Option.some.injEq, Prod.mk.injEq] at h
            obtain ⟨_, rfl⟩ := h
            exact (ih2 _ _ _ _ _ hc).trans (ih3 _ _ _ _ _ hc2)

theorem closeP_keep {t : PT} {v x : V} {hp hp' : Hp} (h : closeP t v hp = some (x, hp')) : Kp hp hp' := by
  cases t with
  | c t => exact (close_keep _).1 _ _ _ _ _ h
  | g ts =>
    cases v with
    | ag cs =>
      simp only [closeP] at h
      cases hc : closeCs depth ts cs hp with
      | none => simp [hc] at h
      | some q =>
        obtain ⟨y, h1⟩ := q
        simp only [hc, Option.some.injEq, Prod.mk.injEq] at h
        obtain ⟨_, rfl⟩ := h
        exact (close_keep _).2.1 _ _ _ _ _ hc
    | _ => simp [closeP] at h

theorem closeAll_keep : ∀ {ts : List PT} {vs xs : List V} {hp hp' : Hp}, closeAll ts vs hp = some (xs, hp') → Kp hp hp' := by
  intro ts
  induction ts with
  | nil =>
    intro vs xs hp hp' h
    cases vs with
    | nil => simp only [closeAll, Option.some.injEq, Prod.mk.injEq] at h; obtain ⟨_, rfl⟩ := h; exact .refl _
    | cons => simp [closeAll] at h
  | cons t ts ih =>
    intro vs xs hp hp' h
    cases vs with
    | nil => simp [closeAll] at h
    | cons v vs =>
      simp only [closeAll] at h
      cases hc : closeP t v hp with
      | none => simp [hc] at h
      | some q =>
        obtain ⟨x, h1⟩ := q
        simp only [hc] at h
        cases hc2 : closeAll ts vs h1 with
        | none => simp [hc2] at h
        | some q =>
          obtain ⟨ys, h2⟩ := q
          simp only [hc2, Option.some.injEq, Prod.mk.injEq] at h
          obtain ⟨_, rfl⟩ := h
          exact (closeP_keep hc).trans (ih hc2)

/-- a call that changes nothing of what is there -/
def KeepC (call : Call) (f : Nat) : Prop := ∀ own xs hp v hp', HpNil hp → call own f xs hp = .ret v hp' → HpKeep hp hp'

theorem ownP_keep {t : PT} {v x : V} {h hp hp' : Hp} (hn : HpNil hp) (e : ownP t v h hp = some (x, hp')) : HpKeep hp hp' := by
  have gen : (match closeP t v h with
    | some (x, _) => some (x, hp)
    | none => none) = some (x, hp') → HpKeep hp hp' := fun q => by
    cases hc : closeP t v h with
    | none => simp [hc] at q
    | some y => obtain ⟨a, b⟩ := y; simp only [hc, Option.some.injEq, Prod.mk.injEq] at q; obtain ⟨_, rfl⟩ := q; exact .refl _
  unfold ownP at e
  split at e
  · rename_i ts id i len
    cases hg : hget h id with
    | none => simp [hg] at e
    | some b =>
      simp only [hg] at e
      cases hb0 : b.fr <;> simp only [hb0, cond_true, cond_false, reduceCtorEq] at e
      cases hb1 : Nat.blt id h.lim <;> simp only [hb1, cond_true, cond_false, reduceCtorEq] at e
      cases hb2 : Nat.beq b.sz ts.length <;> simp only [hb2, cond_true, cond_false, reduceCtorEq] at e
      cases hb3 : Nat.ble (i + len) b.es.length <;> simp only [hb3, cond_true, cond_false, reduceCtorEq] at e
      cases hc : closeEs depth ts ((b.es.drop i).take len) (hset h id none) with
      | none => simp [hc] at e
      | some q =>
        simp only [hc, Option.some.injEq, Prod.mk.injEq] at e
        obtain ⟨_, rfl⟩ := e
        exact .new hn _
  · exact gen e

theorem runP_keep {own : Bool} {call : Call} {L : Nat} {fn : Fn} {args : List V} {hp : Hp} {v : V} {hp' : Hp} (hn : HpNil hp) (h : runP own call L fn args hp = .ret v hp') : HpKeep hp hp' := by
  unfold runP at h
  cases hc : closeAll fn.ps args hp with
  | none => simp [hc] at h
  | some q =>
    obtain ⟨xs, h1⟩ := q
    simp only [hc] at h
    obtain ⟨k1, k3, k2⟩ := closeAll_keep hc
    have hn1 : HpNil h1 := fun id hid => k3 id (hn id (by omega))
    refine k1.trans ?_
    cases hr : runF call L fn xs h0 with
    | bad => simp [hr, back] at h
    | pan => simp [hr, back] at h
    | ret v1 hh =>
      simp only [hr, back] at h
      have gen : (match closeAll fn.rs (untuple fn.rs.length v1) hh with
        | some (xs, _) => CR.ret (tuple xs) h1
        | none => .bad) = .ret v hp' → HpKeep h1 hp' := fun q => by
        cases hq : closeAll fn.rs (untuple fn.rs.length v1) hh with
        | none => simp [hq] at q
        | some y => obtain ⟨a, b⟩ := y; simp only [hq, CR.ret.injEq] at q; obtain ⟨_, rfl⟩ := q; exact .refl _
      split at h
      · rename_i t hrs
        cases ho : ownP t v1 hh h1 with
        | none => simp [ho] at h
        | some q => obtain ⟨a, b⟩ := q; simp only [ho, CR.ret.injEq] at h; obtain ⟨_, rfl⟩ := h; exact ownP_keep hn1 ho
      · exact gen h

theorem runR_keep {call : Call} {L : Nat} {fn : Fn} {args : List V} {hp : Hp} {v : V} {hp' : Hp} (h : runR call L fn args hp = .ret v hp') : HpKeep hp hp' := by
  unfold runR at h
  split at h
  · rename_i v1 _ _
    cases hb : oldT hp.next v1 <;> simp only [hb, cond_true, cond_false, CR.ret.injEq, reduceCtorEq] at h
    obtain ⟨_, rfl⟩ := h; exact .refl _
  · cases h

end Ev

namespace Ev
open Go

/-- a piece of a run, where no panic is let by: one value, one state -/
def DO (call : Call) (L : Nat) (F : FF) (v : V) (s : St) : Prop := ∀ k kp, (∀ v s, run call L (kp v s) = .bad) → run call L (F k kp) = run call L (k v s)
def DBad (call : Call) (L : Nat) (F : FF) : Prop := ∀ k kp, (∀ v s, run call L (kp v s) = .bad) → run call L (F k kp) = .bad

/-- a piece of a run in which nothing panics: it ends in a state of which p holds -/
def KO (call : Call) (L : Nat) (p : St → Prop) (F : FF) : Prop := (∃ v s, p s ∧ DO call L F v s) ∨ DBad call L F

section
variable {call : Call} {L : Nat} {p : St → Prop}

theorem KO.bad {F : FF} (h : ∀ k kp, F k kp = .bad) : KO call L p F := .inr fun k kp _ => by rw [h]; rfl
theorem KO.val {v : V} {s : St} (h : p s) : KO call L p (fun k _ => k v s) := .inl ⟨v, s, h, fun _ _ _ => rfl⟩
theorem KO.chk {b : Bool} {F : FF} (h : KO call L p F) : KO call L p (fun k kp => .chk b (F k kp)) := by
  cases b with
  | false => exact .inr fun _ _ _ => rfl
  | true =>
    rcases h with ⟨v, s, hp, h⟩ | h
    · exact .inl ⟨v, s, hp, fun k kp hk => h k kp hk⟩
    · exact .inr fun k kp hk => h k kp hk
theorem KO.br {b : Bool} {F G : FF} (h : KO call L p F) (h' : KO call L p G) : KO call L p (fun k kp => .br b (F k kp) (G k kp)) := by
  cases b with
  | false =>
    rcases h' with ⟨v, s, hp, h⟩ | h
    · exact .inl ⟨v, s, hp, fun k kp hk => h k kp hk⟩
    · exact .inr fun k kp hk => h k kp hk
  | true =>
    rcases h with ⟨v, s, hp, h⟩ | h
    · exact .inl ⟨v, s, hp, fun k kp hk => h k kp hk⟩
    · exact .inr fun k kp hk => h k kp hk
theorem KO.bif {b : Bool} {F G : FF} (h : b = true → KO call L p F) (h' : b = false → KO call L p G) : KO call L p (fun k kp => bif b then F k kp else G k kp) := by
  cases b with
  | false => exact h' rfl
  | true => exact h rfl
theorem KO.oneD {α : Type} {o : Option α} {f : α → FF} (h : ∀ v, KO call L p (f v)) : KO call L p (fun k kp => Ev.oneD o fun v => f v k kp) := by
  cases o with
  | none => exact .bad fun k kp => rfl
  | some v => exact h v
theorem KO.nat {v : V} {f : Nat → FF} (h : ∀ n, KO call L p (f n)) : KO call L p (fun k kp => natD v fun v => f v k kp) := by
  cases v <;> first | exact .chk (h _) | exact .bad fun k kp => rfl
theorem KO.elems {hp : Hp} {n : Nat} {v : V} {f : List (List V) → FF} (h : ∀ cs, KO call L p (f cs)) : KO call L p (fun k kp => elemsD hp n v fun cs => f cs k kp) := by
  cases v with
  | ns => exact h []
  | vs m es => exact .bif (F := f es) (G := fun _ _ => .bad) (fun _ => h es) (fun _ => .bad fun _ _ => rfl)
  | hs id i len =>
    simp only [elemsD]
    cases hg : hget hp id with
    | none => exact .bad fun _ _ => rfl
    | some bk => exact .bif (F := fun k kp => .chk (Nat.ble (i + len) bk.es.length) (f ((bk.es.drop i).take len) k kp)) (G := fun _ _ => .bad) (fun _ => .chk (h _)) (fun _ => .bad fun _ _ => rfl)
  | _ => exact .bad fun _ _ => rfl
theorem KO.rows {hp : Hp} {n : Nat} {v : V} {f : List (List V) → FF} (h : ∀ cs, KO call L p (f cs)) : KO call L p (fun k kp => rowsD hp n v fun cs => f cs k kp) := by
  have he := KO.elems (call := call) (L := L) (p := p) (hp := hp) (n := n) (v := v) h
  cases v with
  | st l => exact .bif (F := f _) (G := fun _ _ => .bad) (fun _ => h _) (fun _ => .bad fun _ _ => rfl)
  | _ => exact he

/-- what is read at u stays -/
theorem Same.new {st : St} (hn : HpNil st.hp) (b : Bk) (u : V) : Same st (mk st b) u := by
  cases u <;> first | trivial | rfl | exact fun bk h => HpKeep.new hn b _ bk h
theorem Same.box {st : St} {us : List Nat} {d t : Nat} {cs : List V} (hf : fresh us st.tm d = true) (ht : t ∈ us) : Same st (st.setLo d cs) (st.tm t) := by
  cases h : st.tm t with
  | lp e off =>
    have : e ≠ d := fun q => fresh_ne hf ht off (by rw [h, q])
    show lset st.lo d cs e = st.lo e
    simp [lset, beqF this]
  | pt => exact fun bk h => ⟨bk, h, rfl, rfl⟩
  | hs => exact fun bk h => ⟨bk, h, rfl, rfl⟩
  | mp => exact fun bk h => ⟨bk, h, rfl, rfl⟩
  | _ => trivial
theorem Same.set {st : St} {us : List Nat} {id t : Nat} {b : Option Bk} (hf : freshH us st.tm id = true) (ht : t ∈ us) : Same st (st.setHp (hset st.hp id b)) (st.tm t) := by
  obtain ⟨n1, n2, n3⟩ := freshH_ne hf ht
  cases h : st.tm t with
  | lp e off => rfl
  | pt e i off =>
    have : e ≠ id := fun q => n1 i off (by rw [h, q])
    exact fun bk h => ⟨bk, by simp only [St.setHp, hget_hset, this, if_false]; exact h, rfl, rfl⟩
  | hs e i off =>
    have : e ≠ id := fun q => n2 i off (by rw [h, q])
    exact fun bk h => ⟨bk, by simp only [St.setHp, hget_hset, this, if_false]; exact h, rfl, rfl⟩
  | mp e =>
    have : e ≠ id := fun q => n3 (by rw [h, q])
    exact fun bk h => ⟨bk, by simp only [St.setHp, hget_hset, this, if_false]; exact h, rfl, rfl⟩
  | _ => trivial
theorem Same.setNew {st : St} (hn : HpNil st.hp) {us : List Nat} {id t : Nat} {b : Option Bk} {bk2 : Bk} (hf : freshH us st.tm id = true) (ht : t ∈ us) : Same st (st.setHp (hnew (hset st.hp id b) bk2)) (st.tm t) := by
  obtain ⟨n1, n2, n3⟩ := freshH_ne hf ht
  have key : ∀ e, e ≠ id → ∀ bk, hget st.hp e = some bk → ∃ bk', hget (hnew (hset st.hp id b) bk2) e = some bk' ∧ bk'.sz = bk.sz ∧ bk'.es = bk.es := fun e he bk h => by
    have h2 : e ≠ (hset st.hp id b).next := fun q => by
      have : (hset st.hp id b).next = st.hp.next := rfl
      rw [hn e (by omega)] at h; cases h
    exact ⟨bk, by simp only [hget_hnew, h2, if_false, hget_hset, he]; exact h, rfl, rfl⟩
  cases h : st.tm t with
  | lp e off => rfl
  | pt e i off => exact key e (fun q => n1 i off (by rw [h, q]))
  | hs e i off => exact key e (fun q => n2 i off (by rw [h, q]))
  | mp e => exact key e (fun q => n3 (by rw [h, q]))
  | _ => trivial
theorem Same.callK {st : St} {hp' : Hp} (hk : HpKeep st.hp hp') (u : V) : Same st (st.setHp hp') u := by
  cases u <;> first | trivial | rfl | exact fun bk h => hk _ bk h

theorem KO.app {us : List Nat} {st : St} (hn : HpNil st.hp) {sz bytes : Nat} {v : V} {new : List (List V)} {md : Bool} (hmd : md = true) :
    KO call L (fun s => ∀ u, (md = true → ∃ t, t ∈ us ∧ u = st.tm t) → Same st s u) (fun k _ => appendD us st sz bytes v new k) := by
  show KO call L _ (fun k _ => appendD us st sz bytes v new k)
  cases v with
  | ns =>
    cases new with
    | nil => exact .val fun u _ => by cases u <;> first | trivial | rfl | exact fun bk h => ⟨bk, h, rfl, rfl⟩
    | cons => exact .chk (.val fun u _ => Same.new hn _ u)
  | hs id i n =>
    simp only [appendD]
    cases hget st.hp id with
    | none => exact .bad fun _ _ => rfl
    | some b =>
      simp only []
      cases b.fr with
      | true => exact .bad fun _ _ => rfl
      | false =>
        simp only [cond_false]
        cases Nat.blt id st.hp.lim with
        | true => exact .bad fun _ _ => rfl
        | false =>
          simp only [cond_false]
          cases Nat.beq b.sz sz with
          | false => exact .bad fun _ _ => rfl
          | true =>
            simp only [cond_true]
            cases hf : freshH us st.tm id with
            | false => exact .bad fun _ _ => rfl
            | true =>
              simp only [cond_true]
              exact .chk (.chk (.val fun u hu => by obtain ⟨t, ht, rfl⟩ := hu hmd; exact Same.setNew hn hf ht))
  | vs m es =>
    exact .bif (F := fun k _ => .chk (Nat.beq new.length 0) (k (.vs m es) st)) (G := fun _ _ => .bad) (fun _ => .chk (.val fun u _ => by cases u <;> first | trivial | rfl | exact fun bk h => ⟨bk, h, rfl, rfl⟩)) (fun _ => .bad fun _ _ => rfl)
  | _ => exact .bad fun _ _ => rfl

/-- an operation leaves what others, that have no order with it, read -/
def I.minds : I → Bool
  | .alc _ | .box _ | .sto .. | .app .. | .apz .. | .cpy .. | .mup .. => true
  | _ => false

theorem keeps {i : I} {us clr : List Nat} {d : Nat} {st : St} (hn : HpNil st.hp) (he : i.easy = false) (hx : ∀ c xs, i ≠ .calv [] c xs) (hpn : ∀ x, i ≠ .pan x)
    (hc : ∀ own md f xs, i = .call own md f xs → KeepC call f) (hcv : ∀ fs f xs, i = .calv fs f xs → ∀ g, hasN fs g = true → KeepC call g) : KO call L (fun s => ∀ u, (i.minds = true → ∃ t, t ∈ us ∧ u = st.tm t) → Same st s u) (i.den us clr d st) := by
  show KO call L _ (fun k kp => i.den us clr d st k kp)
  cases i with
  | alc z => exact .bif (F := fun k _ => k (.lp d 0) (st.setLo d z)) (G := fun _ _ => .bad) (fun h => .val fun u hu => by obtain ⟨t, ht, rfl⟩ := hu rfl; exact Same.box h ht) (fun _ => .bad fun _ _ => rfl)
  | alh z => exact .val fun u _ => Same.new hn _ u
  | box x =>
    exact .bif (F := fun k _ => bif fresh us st.tm d then k (.lp d 0) (st.setLo d (get st.tm x).cells) else .bad) (G := fun _ _ => .bad)
      (fun _ => .bif (F := fun k _ => k (.lp d 0) (st.setLo d (get st.tm x).cells)) (G := fun _ _ => .bad) (fun h => .val fun u hu => by obtain ⟨t, ht, rfl⟩ := hu rfl; exact Same.box h ht) (fun _ => .bad fun _ _ => rfl)) (fun _ => .bad fun _ _ => rfl)
  | bxh x => exact .bif (F := fun k _ => k (.pt st.hp.next 0 0) (mk st ⟨(get st.tm x).cells.length, false, [(get st.tm x).cells]⟩)) (G := fun _ _ => .bad) (fun _ => .val fun u _ => Same.new hn _ u) (fun _ => .bad fun _ _ => rfl)
  | bsl sz es ps =>
    simp only [I.den, iBsl]
    cases fillE sz (ps.map fun (i, a) => (i, get st.tm a)) es with
    | none => exact .bad fun _ _ => rfl
    | some es => exact .val fun u _ => Same.new hn _ u
  | sto n a x =>
    simp only [I.den, iSto]
    refine .bif (F := fun k _ => bif (get st.tm x).cells.all V.keep then storeD us st (get st.tm x).cells (get st.tm a) fun s => k .un s else .bad) (G := fun _ _ => .bad) (fun _ => ?_) (fun _ => .bad fun _ _ => rfl)
    refine .bif (F := fun k _ => storeD us st (get st.tm x).cells (get st.tm a) fun s => k .un s) (G := fun _ _ => .bad) (fun _ => ?_) (fun _ => .bad fun _ _ => rfl)
    cases get st.tm a with
    | lp t off =>
      simp only [storeD]
      cases st.lo t with
      | none => exact .bad fun _ _ => rfl
      | some cs =>
        refine .bif (F := fun k _ => .chk (Nat.ble (off + (get st.tm x).cells.length) cs.length) (k .un (st.setLo t (over off (get st.tm x).cells cs)))) (G := fun _ _ => .bad) (fun h => .chk (.val fun u hu => by obtain ⟨t, ht, rfl⟩ := hu rfl; exact Same.box h ht)) (fun _ => .bad fun _ _ => rfl)
    | pt id i off =>
      simp only [storeD]
      cases hget st.hp id with
      | none => exact .bad fun _ _ => rfl
      | some b =>
        simp only []
        cases b.fr with
        | true => exact .bad fun _ _ => rfl
        | false =>
          simp only [cond_false]
          cases Nat.blt id st.hp.lim with
          | true => exact .bad fun _ _ => rfl
          | false =>
            simp only [cond_false]
            cases hf : freshH us st.tm id with
            | false => exact .bad fun _ _ => rfl
            | true =>
              simp only [cond_true]
              exact .chk (.chk (.val fun u hu => by obtain ⟨t, ht, rfl⟩ := hu rfl; exact Same.set hf ht))
    | _ => exact .bad fun _ _ => rfl
  | mks sz bytes z l c =>
    refine .nat (f := fun l k kp => natD (get st.tm c) fun c => .chk (Nat.ble l c) (.chk (Nat.ble c 9223372036854775807) (.chk (Nat.ble (c * bytes) maxB) (k (.hs st.hp.next 0 l) (mk st ⟨sz, false, List.replicate l z⟩))))) fun l => ?_
    exact .nat (f := fun c k kp => .chk (Nat.ble l c) (.chk (Nat.ble c 9223372036854775807) (.chk (Nat.ble (c * bytes) maxB) (k (.hs st.hp.next 0 l) (mk st ⟨sz, false, List.replicate l z⟩))))) fun c => .chk (.chk (.chk (.val fun u _ => Same.new hn _ u)))
  | cnv c x =>
    cases c with
    | s2b =>
      simp only [I.den, iCnv]
      cases get st.tm x with
      | st s => exact .val fun u _ => Same.new hn _ u
      | _ => exact .bad fun _ _ => rfl
    | _ => simp [I.easy, I.cl] at he
  | app sz bytes x y =>
    refine .rows (f := fun new k _ => appendD us st sz bytes (get st.tm x) new k) fun new => ?_
    exact KO.app hn rfl
  | apz x n =>
    refine .nat (f := fun n k _ => .chk (Nat.blt 0 n) (.chk (Nat.ble n maxB) (appendD us st 1 1 (get st.tm x) ((List.replicate n 0).map fun n => [byte n]) k))) fun n => ?_
    exact .chk (.chk (KO.app hn rfl))
  | cpy sz x y =>
    refine .elems (f := fun new k _ => cpyD us st sz new (get st.tm x) k) fun new => ?_
    show KO call L _ (fun k _ => cpyD us st sz new (get st.tm x) k)
    cases get st.tm x with
    | hs id i n =>
      simp only [cpyD]
      cases hget st.hp id with
      | none => exact .bad fun _ _ => rfl
      | some b =>
        simp only []
        cases b.fr with
        | true => exact .bad fun _ _ => rfl
        | false =>
          simp only [cond_false]
          cases Nat.blt id st.hp.lim with
          | true => exact .bad fun _ _ => rfl
          | false =>
            simp only [cond_false]
            cases Nat.beq b.sz sz with
            | false => exact .bad fun _ _ => rfl
            | true =>
              simp only [cond_true]
              cases hf : freshH us st.tm id with
              | false => exact .bad fun _ _ => rfl
              | true =>
                simp only [cond_true]
                exact .chk (.val fun u hu => by obtain ⟨t, ht, rfl⟩ := hu rfl; exact Same.set hf ht)
    | _ => exact .bad fun _ _ => rfl
  | mmk => exact .val fun u _ => Same.new hn _ u
  | mup x i v =>
    simp only [I.den, iMup]
    cases get st.tm i with
    | st l =>
      cases get st.tm x with
      | mp id =>
        simp only []
        cases hget st.hp id with
        | none => exact .bad fun _ _ => rfl
        | some b =>
          simp only []
          cases Nat.blt id st.hp.lim with
          | true => exact .bad fun _ _ => rfl
          | false =>
            simp only [cond_false]
            cases hf : freshH us st.tm id with
            | false => exact .bad fun _ _ => rfl
            | true =>
              simp only [cond_true]
              cases (get st.tm v).keep with
              | false => exact .bad fun _ _ => rfl
              | true => exact .val fun u hu => by obtain ⟨t, ht, rfl⟩ := hu rfl; exact Same.set hf ht
      | _ => exact .bad fun _ _ => rfl
    | _ => exact .bad fun _ _ => rfl
  | mrk x =>
    simp only [I.den, iMrk]
    cases get st.tm x with
    | hs id i n =>
      simp only []
      cases hget st.hp id with
      | none => exact .bad fun _ _ => rfl
      | some b =>
        simp only []
        cases b.fr with
        | true => exact .bad fun _ _ => rfl
        | false =>
          simp only [cond_false]
          cases Nat.beq b.sz 1 with
          | false => exact .bad fun _ _ => rfl
          | true => exact .chk (.val fun u _ => same_refl rfl rfl u)
    | _ => exact .bad fun _ _ => rfl
  | call own md f xs =>
    simp only [I.den, iCall, callD]
    refine .bif (F := fun _ _ => .bad) (G := fun k kp => .call own f (xs.map (get st.tm)) st.hp fun c => match c with
      | .bad => .bad
      | .ret v hp => k v (st.setHp hp)
      | .pan v hp => kp v (st.setHp hp)) (fun _ => .bad fun _ _ => rfl) (fun _ => ?_)
    cases hq : call own f (xs.map (get st.tm)) st.hp with
    | bad => exact .inr fun k kp hk => by simp only [run, forceL_eq, hq]
    | ret v hp => exact .inl ⟨v, st.setHp hp, fun u _ => Same.callK (hc own md f xs rfl own _ _ _ _ hn hq) u, fun k kp hk => by simp only [run, forceL_eq, hq]⟩
    | pan v hp => exact .inr fun k kp hk => by simp only [run, forceL_eq, hq]; exact hk _ _
  | calv fs c xs =>
    cases fs with
    | nil => exact absurd rfl (hx c xs)
    | cons a r =>
      simp only [I.den, iClv]
      cases get st.tm c with
      | fn f first cap =>
        refine .bif (F := fun k kp => callD false f (first ++ xs.map (get st.tm) ++ cap) st k kp) (G := fun _ _ => .bad) (fun hg => ?_) (fun _ => .bad fun _ _ => rfl)
        have hg : hasN (a :: r) f = true := hg
        simp only [callD]
        refine .bif (F := fun _ _ => .bad) (G := fun k kp => .call false f (first ++ xs.map (get st.tm) ++ cap) st.hp fun c => match c with
          | .bad => .bad
          | .ret v hp => k v (st.setHp hp)
          | .pan v hp => kp v (st.setHp hp)) (fun _ => .bad fun _ _ => rfl) (fun _ => ?_)
        cases hq : call false f (first ++ xs.map (get st.tm) ++ cap) st.hp with
        | bad => exact .inr fun k kp hk => by simp only [run, forceL_eq, hq]
        | ret v hp => exact .inl ⟨v, st.setHp hp, fun u _ => Same.callK (hcv _ c xs rfl f hg false _ _ _ _ hn hq) u, fun k kp hk => by simp only [run, forceL_eq, hq]⟩
        | pan v hp => exact .inr fun k kp hk => by simp only [run, forceL_eq, hq]; exact hk _ _
      | _ => exact .bad fun _ _ => rfl
  | pan x => exact absurd rfl (hpn x)
  | _ => simp [I.easy, I.cl] at he

/-- the calls that claim to change nothing do so -/
def CallsK (call : Call) (i : I) : Prop := (∀ own md f xs, i = .call own md f xs → md ≠ .rw → KeepC call f) ∧ ∀ fs f xs, i = .calv fs f xs → ∀ g, hasN fs g = true → KeepC call g

/-- an operation without panic: it gives one value, or nothing goes on -/
theorem ko_any {i : I} {us clr : List Nat} {d : Nat} {st : St} (hn : HpNil st.hp) (hc : CallsK call i) : KO call L (fun s => (i.easy = true → s = st) ∧
    (i.cl ≠ .x → ∀ u, (i.minds = true → ∃ t, t ∈ us ∧ u = st.tm t) → Same st s u)) (i.den us clr d st) := by
  by_cases he : i.easy = true
  · rcases easy_frame (call := call) (L := L) (st := st) (st' := st) (us := us) (us' := us) (clr := clr) (d := d) he (fun _ _ => rfl) (fun x _ => same_refl rfl rfl _) with h | ⟨v, h, _⟩
    · exact .inr fun k kp _ => h k kp
    · exact .inl ⟨v, st, ⟨fun _ => rfl, fun _ u _ => same_refl rfl rfl u⟩, fun k kp _ => h k kp⟩
  have hev : i.easy = false := by simpa using he
  have callx : ∀ own f xs, KO call L (fun s => (i.easy = true → s = st) ∧ (i.cl ≠ .x → ∀ u, (i.minds = true → ∃ t, t ∈ us ∧ u = st.tm t) → Same st s u)) (fun k kp => callD own f xs st k kp) ∨ i.cl ≠ .x := by
    intro own f xs
    by_cases hx : i.cl = .x
    · refine .inl ?_
      simp only [callD]
      refine .bif (F := fun _ _ => .bad) (G := fun k kp => .call own f xs st.hp fun c => match c with
        | .bad => .bad
        | .ret v hp => k v (st.setHp hp)
        | .pan v hp => kp v (st.setHp hp)) (fun _ => .bad fun _ _ => rfl) (fun _ => ?_)
      cases hq : call own f xs st.hp with
      | bad => exact .inr fun k kp hk => by simp only [run, forceL_eq, hq]
      | ret v hp => exact .inl ⟨v, st.setHp hp, ⟨fun q => absurd q he, fun q => absurd hx q⟩, fun k kp hk => by simp only [run, forceL_eq, hq]⟩
      | pan v hp => exact .inr fun k kp hk => by simp only [run, forceL_eq, hq]; exact hk _ _
    · exact .inr hx
  by_cases hx : i.cl = .x
  · show KO call L _ (fun k kp => i.den us clr d st k kp)
    cases i with
    | call own md f xs => exact (callx own f _).resolve_right (fun q => q hx)
    | calv fs f xs =>
      simp only [I.den, iClv]
      cases get st.tm f with
      | fn f first cap => exact .bif (F := fun k kp => callD false f (first ++ xs.map (get st.tm) ++ cap) st k kp) (G := fun _ _ => .bad) (fun _ => (callx false f _).resolve_right (fun q => q hx)) (fun _ => .bad fun _ _ => rfl)
      | _ => exact .bad fun _ _ => rfl
    | pan x =>
      simp only [I.den, iPan]
      cases get st.tm x with
      | fc t v => exact .inr fun k kp hk => hk _ _
      | _ => exact .bad fun _ _ => rfl
    | cnv c x => cases c <;> simp [I.cl] at hx
    | _ => simp [I.cl] at hx
  · rcases keeps (call := call) (L := L) (us := us) (clr := clr) (d := d) hn hev (fun c xs q => hx (by rw [q]; rfl)) (fun x q => hx (by rw [q]; rfl)) (fun own md f xs q => hc.1 own md f xs q fun qm => hx (by rw [q, qm]; rfl)) hc.2 with ⟨v, s, h1, h2⟩ | h
    · exact .inl ⟨v, s, ⟨fun q => absurd q he, fun _ => h1⟩, h2⟩
    · exact .inr h

end
end Ev

namespace Ev
open Go

/-- is an operation wanted? -/
def wantA (o : DOp) (st : St) : Option Bool :=
  match o.gd with
  | none => some true
  | some (t, w) => match st.tm t with
    | .bo b => some (b == w)
    | .tu [] => some false
    | _ => none

def KpU (o : DOp) (st s : St) : Prop := o.ins.cl ≠ .x → ∀ u, (o.ins.minds = true → ∃ t, t ∈ o.us ∧ u = st.tm t) → Same st s u

/-- an operation by itself, abstract -/
def AStep (call : Call) (L : Nat) (clr : List Nat) (o : DOp) (st st' : St) : Prop :=
  (wantA o st = some true ∧ ∃ v s, DO call L (o.ins.den o.us clr (o.dst.getD 0) st) v s ∧ (o.ins.easy = true → s = st) ∧ KpU o st s ∧ st' = Ev.put s o.dst v) ∨
  (wantA o st = some false ∧ st' = Ev.put st o.dst (.tu []))

/-- an operation that is owed, and what it will give -/
def Pend (call : Call) (L : Nat) (clr : List Nat) (o : DOp) (st : St) : Prop :=
  (wantA o st = some true ∧ ∃ v, DO call L (o.ins.den o.us clr (o.dst.getD 0) st) v st ∧ ∀ d, o.dst = some d → st.tm d = v) ∨
  (wantA o st = some false ∧ ∀ d, o.dst = some d → st.tm d = .tu [])

section
variable {call : Call} {L : Nat} {clr : List Nat}

theorem DO.val_eq {F : FF} {v v' : V} {s s' : St} (h : DO call L F v s) (h' : DO call L F v' s') : v = v' ∧ s = s' := by
  have k1 := h (fun v _ => .done (.ret ⟨fun _ => v, fun _ => none, h0⟩)) (fun _ _ => .bad) (fun _ _ => rfl)
  have k2 := h' (fun v _ => .done (.ret ⟨fun _ => v, fun _ => none, h0⟩)) (fun _ _ => .bad) (fun _ _ => rfl)
  have k3 := h (fun _ s => .done (.norm s)) (fun _ _ => .bad) (fun _ _ => rfl)
  have k4 := h' (fun _ s => .done (.norm s)) (fun _ _ => .bad) (fun _ _ => rfl)
  rw [k1] at k2
  rw [k3] at k4
  simp only [run, R.ret.injEq, R.norm.injEq, St.mk.injEq] at k2 k4
  exact ⟨congrFun k2.1 0, k4⟩

theorem DO.not_bad {F : FF} {v : V} {s : St} (h : DO call L F v s) (hb : Bad call L F) : False := by
  have k1 := h (fun _ s => .done (.norm s)) (fun _ _ => .bad) (fun _ _ => rfl)
  rw [hb] at k1
  simp [run] at k1

def sg (o : DOp) : Gr := DGr.den ⟨o.gd, [o]⟩

theorem evGs_step {o : DOp} {gs : List Gr} {st : St} {K : R → D} {r0 : R} (hn : HpNil st.hp) (hc : CallsK call o.ins)
    (hkp : ∀ v s, run call L (K (.pan v s)) = .bad) (h : run call L (evGs clr (sg o :: gs) st K) = r0) (hb : r0 ≠ .bad) : ∃ st', AStep call L clr o st st' ∧ run call L (evGs clr gs st' K) = r0 := by
  have main : wantA o st = some true → run call L (evL clr [o.den] st fun x => match x with
      | .norm s => evGs clr gs s K
      | x => K x) = r0 → ∃ st', AStep call L clr o st st' ∧ run call L (evGs clr gs st' K) = r0 := by
    intro hw h
    rcases ko_any (call := call) (L := L) (i := o.ins) (us := o.us) (clr := clr) (d := o.dst.getD 0) hn hc with ⟨v, s, ⟨h1, h2⟩, h3⟩ | hbad
    · refine ⟨Ev.put s o.dst v, .inl ⟨hw, v, s, h3, h1, h2, rfl⟩, ?_⟩
      rw [← h]
      exact (h3 (fun v s => evGs clr gs (Ev.put s o.dst v) K) (fun v s => K (.pan v s)) hkp).symm
    · exfalso
      apply hb
      rw [← h]
      exact hbad (fun v s => evGs clr gs (Ev.put s o.dst v) K) (fun v s => K (.pan v s)) hkp
  simp only [evGs, sg, DGr.den, evG] at h
  cases hgd : o.gd with
  | none =>
    simp only [hgd] at h
    exact main (by simp [wantA, hgd]) h
  | some q =>
    obtain ⟨gt, gb⟩ := q
    simp only [hgd] at h
    cases hv : st.tm gt with
    | bo b =>
      simp only [hv, run] at h
      by_cases hbw : b = gb
      · subst hbw
        have : (bif b then b else !b) = true := by cases b <;> rfl
        simp only [this, cond_true, upd_self hv] at h
        exact main (by simp [wantA, hgd, hv]) h
      · have h1 : (bif gb then b else !b) = false := by cases b <;> cases gb <;> simp_all
        have hbe : b = !gb := by cases b <;> cases gb <;> simp_all
        rw [hbe] at hv
        simp only [h1, cond_false, upd_self hv] at h
        exact ⟨_, .inr ⟨by cases gb <;> simp [wantA, hgd, hv], rfl⟩, h⟩
    | tu xs =>
      cases xs with
      | nil => simp only [hv] at h; exact ⟨_, .inr ⟨by simp [wantA, hgd, hv], rfl⟩, h⟩
      | cons => simp only [hv, run] at h; exact absurd h.symm hb
    | _ => simp only [hv, run] at h; exact absurd h.symm hb

theorem wantA_eq {o : DOp} {st st' : St} (h : ∀ t, t ∈ o.gs → st'.tm t = st.tm t) : wantA o st' = wantA o st := by
  unfold wantA
  unfold DOp.gs at h
  cases hgd : o.gd with
  | none => rfl
  | some q =>
    obtain ⟨t, w⟩ := q
    rw [hgd] at h
    simp only [h t (by simp)]

theorem dIn_not {d : Option Nat} {l : List Nat} (h : dIn d l = false) {t : Nat} (ht : t ∈ l) : d ≠ some t := by
  intro e
  subst e
  have : hasN l t = true := by
    clear h
    induction l with
    | nil => cases ht
    | cons a r ih =>
      simp only [hasN]
      rcases List.mem_cons.1 ht with rfl | ht
      · simp
      · rw [ih ht]; cases Nat.beq a t <;> rfl
  simp [dIn, this] at h

theorem sameD_not {a b : Option Nat} (h : sameD a b = false) {d : Nat} (ha : a = some d) : b ≠ some d := by
  intro e; subst ha e; simp [sameD] at h

/-- what is read by the state stays, for the owed one -/
theorem rd_same {i : I} {st st' : St} (hk : i.rdA.all constOk = true) (h : ∀ t, t ∈ i.rd → Same st st' (st.tm t)) : ∀ x, x ∈ i.rdA → Same st st' (get st.tm x) := by
  have gen : ∀ x : A, constOk x = true → (∀ t, t ∈ slotsA x → Same st st' (st.tm t)) → Same st st' (get st.tm x) := by
    intro x hx hh
    cases x with
    | t n => exact hh n (by simp [slotsA])
    | k v => cases v <;> first | trivial | (simp [constOk] at hx)
  intro x hx
  cases i <;> simp only [I.rdA, List.mem_singleton, List.not_mem_nil] at hx <;> subst hx <;> simp only [I.rdA, List.all_cons, List.all_nil, Bool.and_true] at hk <;> exact gen _ hk h

theorem Pend.step {o : DOp} {st st' : St} (h : Pend call L clr o st) (he : o.ins.easy = true) (hs : ∀ t, t ∈ o.ins.sl ++ o.gs → st'.tm t = st.tm t) (hd : ∀ d, o.dst = some d → st'.tm d = st.tm d)
    (hr : ∀ x, x ∈ o.ins.rdA → (∃ v, DO call L (o.ins.den o.us clr (o.dst.getD 0) st) v st) → Same st st' (get st.tm x)) : Pend call L clr o st' := by
  have hw : wantA o st' = wantA o st := wantA_eq fun t ht => hs t (by simp [ht])
  rcases h with ⟨h1, v, h2, h3⟩ | ⟨h1, h2⟩
  · refine .inl ⟨hw.trans h1, v, ?_, fun d q => (hd d q).trans (h3 d q)⟩
    rcases easy_frame (call := call) (L := L) (st := st) (st' := st') (us := o.us) (us' := o.us) (clr := clr) (d := o.dst.getD 0) he (fun t ht => hs t (by simp [ht])) (fun x hx => hr x hx ⟨v, h2⟩) with hb | ⟨v', h4, h5⟩
    · exact (h2.not_bad hb).elim
    · have : v = v' := (h2.val_eq (fun k kp _ => h4 k kp)).1
      subst this
      exact fun k kp _ => h5 k kp
  · exact .inr ⟨hw.trans h1, fun d q => (hd d q).trans (h2 d q)⟩

/-- the conversions that read no memory -/
theorem p_same {o : DOp} {st st' : St} (hp : o.ins.cl = .p) : ∀ x, x ∈ o.ins.rdA → (∃ v, DO call L (o.ins.den o.us clr (o.dst.getD 0) st) v st) → Same st st' (get st.tm x) := by
  intro x hx ⟨v, h⟩
  cases hi : o.ins <;> simp only [hi, I.cl, reduceCtorEq] at hp <;> simp only [hi, I.rdA, List.mem_singleton, List.not_mem_nil] at hx
  · rename_i c y
    subst hx
    have hbad : Bad call L (o.ins.den o.us clr (o.dst.getD 0) st) → False := fun q => h.not_bad q
    rw [hi] at hbad
    cases hv : get st.tm x <;> first | trivial | (exfalso; apply hbad; intro k kp; cases c <;> simp only [I.den, iCnv, convD, hv, run] <;> (simp only [reduceCtorEq] at hp))

theorem before_on {ops : Array Oper} {j i : Nat} (h : ((Region.before ops).getD j 0).testBit i = true) :
    ∃ o, ops[j]? = some o ∧ ∃ e, e ∈ o.after ∧ Region.binds .any e = true ∧ (e.on = i ∨ (e.on < j ∧ ((Region.before ops).getD e.on 0).testBit i = true)) := by
  let Ok (acc : Array Nat) (done : List Oper) : Prop := acc.size = done.length ∧ ∀ j i, (acc.getD j 0).testBit i = true → ∃ o, done[j]? = some o ∧ ∃ e, e ∈ o.after ∧ Region.binds .any e = true ∧ (e.on = i ∨ (e.on < j ∧ (acc.getD e.on 0).testBit i = true))
  have hbit : ∀ (acc : Array Nat) (es : List Edge) (s i : Nat), (es.foldl (fun s e => if Region.binds .any e then s ||| 2 ^ e.on ||| acc.getD e.on 0 else s) s).testBit i = true →
      s.testBit i = true ∨ ∃ e, e ∈ es ∧ Region.binds .any e = true ∧ (e.on = i ∨ (acc.getD e.on 0).testBit i = true) := by
    intro acc es
    induction es with
    | nil => exact fun s i h => .inl h
    | cons e es ih =>
      intro s i h
      simp only [List.foldl_cons] at h
      rcases ih _ _ h with h | ⟨e', h1, h2, h3⟩
      · cases hb : Region.binds .any e with
        | false => simp only [hb] at h; exact .inl h
        | true =>
          simp only [hb, if_true, Nat.testBit_or, Bool.or_eq_true] at h
          rcases h with (h | h) | h
          · exact .inl h
          · rw [Nat.testBit_two_pow] at h
            exact .inr ⟨e, by simp, hb, .inl (by simpa using h)⟩
          · exact .inr ⟨e, by simp, hb, .inr h⟩
      · exact .inr ⟨e', by simp [h1], h2, h3⟩
  have hstep : ∀ (acc : Array Nat) (done : List Oper) (o : Oper), Ok acc done → Ok (acc.push (o.after.foldl (fun s e => if Region.binds .any e then s ||| 2 ^ e.on ||| acc.getD e.on 0 else s) 0)) (done ++ [o]) := by
    intro acc done o ⟨hs, hok⟩
    refine ⟨by simp [hs], fun j i h => ?_⟩
    have hget : ∀ x, x < acc.size → (acc.push (o.after.foldl (fun s e => if Region.binds .any e then s ||| 2 ^ e.on ||| acc.getD e.on 0 else s) 0)).getD x 0 = acc.getD x 0 := fun x hx => by
      simp [Array.getD_eq_getD_getElem?, Array.getElem?_push, show x ≠ acc.size by omega]
    rcases Nat.lt_trichotomy j acc.size with hj | hj | hj
    · rw [hget j hj] at h
      obtain ⟨o', h1, e, h2, h3, h4⟩ := hok j i h
      refine ⟨o', by rw [List.getElem?_append_left (by omega)]; exact h1, e, h2, h3, h4.imp id fun ⟨a, b⟩ => ⟨a, by rw [hget _ (by omega)]; exact b⟩⟩
    · subst hj
      have : (acc.push (o.after.foldl (fun s e => if Region.binds .any e then s ||| 2 ^ e.on ||| acc.getD e.on 0 else s) 0)).getD acc.size 0 = o.after.foldl (fun s e => if Region.binds .any e then s ||| 2 ^ e.on ||| acc.getD e.on 0 else s) 0 := by
        simp [Array.getD_eq_getD_getElem?]
      rw [this, ← Array.foldl_toList] at h
      rcases hbit _ _ _ _ h with h | ⟨e, h1, h2, h3⟩
      · simp at h
      · refine ⟨o, by rw [hs]; simp, e, by simpa using h1, h2, ?_⟩
        rcases h3 with h3 | h3
        · exact .inl h3
        · have hlt : e.on < acc.size := by
            rcases Nat.lt_or_ge e.on acc.size with q | q
            · exact q
            · simp [Array.getD_eq_getD_getElem?, Array.getElem?_eq_none q] at h3
          exact .inr ⟨hlt, by rw [hget _ hlt]; exact h3⟩
    · rw [Array.getD_eq_getD_getElem?, Array.getElem?_eq_none (by simp; omega)] at h
      simp at h
  have hall : ∀ (l : List Oper) (acc : Array Nat) (done : List Oper), Ok acc done → Ok (l.foldl (fun acc o => acc.push (o.after.foldl (fun s e => if Region.binds .any e then s ||| 2 ^ e.on ||| acc.getD e.on 0 else s) 0)) acc) (done ++ l) := by
    intro l
    induction l with
    | nil => intro acc done h; simpa using h
    | cons o l ih =>
      intro acc done h
      have := ih _ _ (hstep acc done o h)
      simpa using this
  have hfin := hall ops.toList #[] [] ⟨rfl, fun j i h => by simp at h⟩
  have heq : Region.before ops = ops.toList.foldl (fun acc o => acc.push (o.after.foldl (fun s e => if Region.binds .any e then s ||| 2 ^ e.on ||| acc.getD e.on 0 else s) 0)) #[] := by
    unfold Region.before
    rw [← Array.foldl_toList]
  rw [← heq] at hfin
  obtain ⟨o, h1, e, h2⟩ := hfin.2 j i h
  exact ⟨o, by simpa using h1, e, h2⟩

end
end Ev

namespace Ev
open Go

/-- a region whose order is drawn, as it is read -/
structure Dc (P : Program) (pol : Pol) (ntm : Nat) (clr : List Nat) (ops : Array Oper) (call : Call) (p : List Nat) (od : Nat → DOp) : Prop where
  cov : ∀ i, i < ops.size → i ∈ p
  nd : ∀ k i, p[k]? = some i → i ∉ p.take k
  ord : ∀ k i o, p[k]? = some i → ops[i]? = some o → ∀ e, e ∈ o.after → Region.binds .any e = true → e.on ∈ p.take k
  rel : ∀ i, i ∈ p → ∃ op, Rel P pol ntm clr ops i (od i) op
  draw : ∀ k r i j, k < r → p[k]? = some i → p[r]? = some j → loose (Region.before ops) i j = true → pairOk (od i) (od j) = true ∧ (∀ z, z ∈ p.take k → leaves (od z) (od i) = true) ∧ ownOk (od i) = true
  us : ∀ i j, i ∈ p → j ∈ p → i ≠ j → loose (Region.before ops) i j = true → (od j).ins.minds = true → ∀ t, t ∈ (od i).ins.rd → t ∈ (od j).us
  kc : ∀ f, pol.mds f ≠ .rw → KeepC call f

structure Inv (P : Program) (call : Call) (L : Nat) (E : Ent) (ntm : Nat) (clr : List Nat) (ops : Array Oper) (p : List Nat) (od : Nat → DOp) (K : R → D) (r0 : R) (q : Nat) (listed : Array Bool) (st m : St) (a : Act) (w : World) : Prop where
  size : listed.size = ops.size
  closed : ∀ i o, listed.getD i false = true → ops[i]? = some o → ∀ e, e ∈ o.after → Region.binds .any e = true → listed.getD e.on false = true
  todo : ∀ k i, q ≤ k → p[k]? = some i → listed.getD i false = false
  run : run call L (evGs clr ((p.drop q).map fun i => sg (od i)) st K) = r0
  str : ∃ g ν, StR E ntm clr g ν m a w
  lo : m.lo = st.lo
  hp : m.hp = st.hp
  owed : ∀ k i d, k < q → p[k]? = some i → listed.getD i false = false → (od i).dst = some d → m.tm d = .un
  rest : ∀ t, (∀ k i, k < q → p[k]? = some i → listed.getD i false = false → (od i).dst ≠ some t) → m.tm t = st.tm t
  pend : ∀ k i, k < q → p[k]? = some i → listed.getD i false = false → Pend call L clr (od i) st ∧ (od i).ins.easy = true ∧ ownOk (od i) = true ∧ ∀ z, z ∈ p.take k → leaves (od z) (od i) = true

section
variable {P : Program} {pol : Pol} {call : Call} {L : Nat} {E : Ent} {ntm : Nat} {clr : List Nat} {ops : Array Oper} {p : List Nat} {od : Nat → DOp} {K : R → D} {r0 : R} {Q : Exit → Act → World → Prop}

theorem loose_symm {b : Array Nat} {i j : Nat} (h : loose b i j = true) : loose b j i = true := by
  unfold loose at *; rw [Nat.max_comm, Nat.min_comm]; exact h

theorem mem_take_lt {l : List Nat} {k i : Nat} (h : i ∈ l.take k) : ∃ m, m < k ∧ l[m]? = some i := by
  obtain ⟨m, hm⟩ := List.mem_iff_getElem?.1 h
  rw [List.getElem?_take] at hm
  split at hm
  · exact ⟨m, ‹_›, hm⟩
  · cases hm

theorem take_mem {l : List Nat} {k m i : Nat} (hm : m < k) (h : l[m]? = some i) : i ∈ l.take k :=
  List.mem_iff_getElem?.2 ⟨m, by rw [List.getElem?_take]; simp [hm, h]⟩

theorem Dc.lt (C : Dc P pol ntm clr ops call p od) {i : Nat} (h : i ∈ p) : i < ops.size := by
  obtain ⟨op, r⟩ := C.rel i h
  rcases Nat.lt_or_ge i ops.size with q | q
  · exact q
  · have := r.at_; simp [Array.getElem?_eq_none q] at this

theorem Dc.pos (C : Dc P pol ntm clr ops call p od) {k m i : Nat} (hk : p[k]? = some i) (hm : p[m]? = some i) : k = m := by
  rcases Nat.lt_trichotomy k m with q | q | q
  · exact absurd (take_mem q hk) (C.nd m i hm)
  · exact q
  · exact absurd (take_mem q hm) (C.nd k i hk)

/-- what stands ahead by the order stands ahead in the list -/
theorem Dc.before (C : Dc P pol ntm clr ops call p od) {i : Nat} : ∀ j k, p[k]? = some j → ((Region.before ops).getD j 0).testBit i = true → i ∈ p.take k := by
  intro j
  induction j using Nat.strongRecOn with
  | _ j ih =>
    intro k hk h
    obtain ⟨o, h1, e, h2, h3, h4⟩ := before_on h
    have hon := C.ord k j o hk h1 e h2 h3
    rcases h4 with rfl | ⟨h5, h6⟩
    · exact hon
    · obtain ⟨m, hm, hpm⟩ := mem_take_lt hon
      obtain ⟨m', hm', hpm'⟩ := mem_take_lt (ih e.on h5 m hpm h6)
      exact take_mem (Nat.lt_trans hm' hm) hpm'

theorem listed_closed {listed : Array Bool} (hc : ∀ i o, listed.getD i false = true → ops[i]? = some o → ∀ e, e ∈ o.after → Region.binds .any e = true → listed.getD e.on false = true) {i : Nat} :
    ∀ j, (∀ o, ops[j]? = some o → ∀ e, e ∈ o.after → Region.binds .any e = true → listed.getD e.on false = true) → ((Region.before ops).getD j 0).testBit i = true → listed.getD i false = true := by
  intro j
  induction j using Nat.strongRecOn with
  | _ j ih =>
    intro hj h
    obtain ⟨o, h1, e, h2, h3, h4⟩ := before_on h
    have hl := hj o h1 e h2 h3
    rcases h4 with rfl | ⟨h5, h6⟩
    · exact hl
    · exact ih e.on h5 (fun o' ho' => hc e.on o' hl ho') h6

/-- what isn't listed and stands ahead of one that is ready has no order with it -/
theorem Dc.loose_of (C : Dc P pol ntm clr ops call p od) {listed : Array Bool} (hc : ∀ i o, listed.getD i false = true → ops[i]? = some o → ∀ e, e ∈ o.after → Region.binds .any e = true → listed.getD e.on false = true)
    {k r i j : Nat} (hkr : k < r) (hk : p[k]? = some i) (hr : p[r]? = some j) (hi : listed.getD i false = false)
    (hj : ∀ o, ops[j]? = some o → ∀ e, e ∈ o.after → Region.binds .any e = true → listed.getD e.on false = true) : loose (Region.before ops) i j = true := by
  unfold loose
  cases hb : ((Region.before ops).getD (max i j) 0).testBit (min i j) with
  | false => rfl
  | true =>
    exfalso
    rcases Nat.lt_trichotomy i j with q | q | q
    · rw [Nat.max_eq_right (Nat.le_of_lt q), Nat.min_eq_left (Nat.le_of_lt q)] at hb
      rw [listed_closed hc j hj hb] at hi; cases hi
    · subst q
      exact absurd (C.pos hk hr) (by omega)
    · rw [Nat.max_eq_left (Nat.le_of_lt q), Nat.min_eq_right (Nat.le_of_lt q)] at hb
      obtain ⟨m, hm, hpm⟩ := mem_take_lt (C.before i k hk hb)
      exact absurd (C.pos hpm hr) (by omega)

theorem get_set {listed : Array Bool} {i j : Nat} (hi : i < listed.size) : (listed.setIfInBounds i true).getD j false = if j = i then true else listed.getD j false := by
  by_cases h : j = i
  · subst h; simp [Array.getD_eq_getD_getElem?, hi]
  · simp [Array.getD_eq_getD_getElem?, Ne.symm h, h]

theorem pairOk_spec {x y : DOp} (h : pairOk x y = true) : leaves x y = true ∧ dIn x.dst (y.ins.sl ++ y.gs) = false ∧ Ev.apart x.ins y.ins = true := by
  simp only [pairOk, Bool.and_eq_true, Bool.not_eq_true'] at h
  exact ⟨h.1.1, h.1.2, h.2⟩
theorem leaves_spec {x y : DOp} (h : leaves x y = true) : dIn y.dst (x.ins.sl ++ x.gs) = false ∧ sameD x.dst y.dst = false := by
  simpa [leaves] using h
theorem apart_easy {i j : I} (h : Ev.apart i j = true) : i.easy = true ∧ (i.cl = .p ∨ (i.cl = .r ∧ j.cl ≠ .x)) := by
  unfold Ev.apart at h
  cases hi : i.cl <;> simp only [hi] at h
  · exact ⟨by simp [I.easy, hi], .inl rfl⟩
  · refine ⟨by simp [I.easy, hi], .inr ⟨rfl, fun q => ?_⟩⟩
    rw [q] at h; cases h
  all_goals simp at h

theorem put_get {s : St} {dst : Option Nat} {v : V} {t : Nat} : (Ev.put s dst v).tm t = if dst = some t then v else s.tm t := by
  cases dst with
  | none => simp [Ev.put]
  | some d =>
    simp only [Ev.put, upd, Option.some.injEq]
    by_cases e : t = d
    · subst e; simp
    · simp [beqF e, Ne.symm e]
theorem put_lo {s : St} {dst : Option Nat} {v : V} : (Ev.put s dst v).lo = s.lo := by cases dst <;> rfl
theorem put_hp {s : St} {dst : Option Nat} {v : V} : (Ev.put s dst v).hp = s.hp := by cases dst <;> rfl

/-- an operation that is easy changes its slot alone -/
theorem AStep.easy {o : DOp} {st st' : St} (h : AStep call L clr o st st') (he : o.ins.easy = true) : ∃ v, st' = Ev.put st o.dst v ∧ ((wantA o st = some true ∧ DO call L (o.ins.den o.us clr (o.dst.getD 0) st) v st) ∨ (wantA o st = some false ∧ v = .tu [])) := by
  rcases h with ⟨h1, v, s, h2, h3, _, rfl⟩ | ⟨h1, rfl⟩
  · rw [h3 he] at h2 ⊢
    exact ⟨v, rfl, .inl ⟨h1, h2⟩⟩
  · exact ⟨_, rfl, .inr ⟨h1, rfl⟩⟩

/-- slots that are not known -/
theorem StR.un {g : G} {ν : Nat → Option Nat} {st st' : St} {a : Act} {w : World} (h : StR E ntm clr g ν st a w) (ht : ∀ t, st'.tm t = .un ∨ st'.tm t = st.tm t) (hl : st'.lo = st.lo) (hh : st'.hp = st.hp) : StR E ntm clr g ν st' a w := by
  refine ⟨h.size, h.defers, fun t => ?_, fun t d off x => ?_, ?_⟩
  · rcases ht t with q | q
    · rw [q]; exact RepA.un _
    · rw [q]; exact h.tm t
  · rcases ht t with q | q
    · rw [q] at x; cases x
    · rw [q] at x; exact h.lps t d off x
  · rw [hl, hh]; exact h.mem

theorem calls_kc (C : Dc P pol ntm clr ops call p od) {i : Nat} (hi : i ∈ p) : CallsK call (od i).ins := by
  obtain ⟨op, r⟩ := C.rel i hi
  have hc := r.ins
  refine ⟨fun own md f xs h hmd => C.kc f fun q => hmd ?_, fun fs f xs h g hg => C.kc g fun q => ?_⟩
  · rw [h] at hc
    unfold cIns at hc
    split at hc
    all_goals try (revert hc; repeat' split)
    all_goals try (intro hc; first | (simp only [reduceCtorEq] at hc; done) | (simp only [Option.some.injEq, reduceCtorEq] at hc; done) | (simp only [Option.map_eq_some_iff, reduceCtorEq, and_false, exists_false] at hc; done))
    all_goals (intro hc; simp only [Option.some.injEq, I.call.injEq] at hc; obtain ⟨_, rfl, rfl, _⟩ := hc; exact q)
  · rw [h] at hc
    unfold cIns at hc
    split at hc
    all_goals try (revert hc; repeat' split)
    all_goals try (intro hc; first | (simp only [reduceCtorEq] at hc; done) | (simp only [Option.some.injEq, reduceCtorEq] at hc; done) | (simp only [Option.map_eq_some_iff, reduceCtorEq, and_false, exists_false] at hc; done))
    intro hc
    simp only [Option.map_eq_some_iff, I.calv.injEq] at hc
    obtain ⟨_, _, rfl, _, _⟩ := hc
    cases hall : pol.fns.all (fun g => notRw (pol.mds g)) with
    | false => simp [hall, hasN] at hg
    | true =>
      simp only [hall, cond_true] at hg
      have := List.all_eq_true.1 hall g (hasN_mem hg)
      rw [q] at this; simp [notRw] at this

/-- one operation is put off -/
theorem Inv.advance (C : Dc P pol ntm clr ops call p od) (hb : r0 ≠ .bad) (hkp : ∀ v s, Ev.run call L (K (.pan v s)) = .bad) {q : Nat} {listed : Array Bool} {st m : St} {a : Act} {w : World}
    (h : Inv P call L E ntm clr ops p od K r0 q listed st m a w) {r j : Nat} (hqr : q < r) (hr : p[r]? = some j)
    (hj : ∀ o, ops[j]? = some o → ∀ e, e ∈ o.after → Region.binds .any e = true → listed.getD e.on false = true) : ∃ st' m', Inv P call L E ntm clr ops p od K r0 (q + 1) listed st' m' a w := by
  have hq : q < p.length := by
    rcases Nat.lt_or_ge r p.length with z | z
    · omega
    · simp [List.getElem?_eq_none z] at hr
  have hpx : p[q]? = some p[q] := List.getElem?_eq_getElem hq
  generalize hx : p[q] = x at hpx
  have hxm : x ∈ p := List.mem_of_getElem? hpx
  have hun := h.todo q x (Nat.le_refl _) hpx
  have hloose := C.loose_of h.closed hqr hpx hr hun hj
  obtain ⟨h1, h2, h3⟩ := C.draw q r x j hqr hpx hr hloose
  obtain ⟨h4, h5, h6⟩ := pairOk_spec h1
  obtain ⟨he, _⟩ := apart_easy h6
  obtain ⟨g, ν, hstr⟩ := h.str
  have hdrop : p.drop q = x :: p.drop (q + 1) := by rw [List.drop_eq_getElem_cons hq, hx]
  have hrun := h.run
  rw [hdrop, List.map_cons] at hrun
  have hn : HpNil st.hp := by have := hstr.mem.hr.nil; rw [h.hp] at this; exact this
  obtain ⟨st', hst, hrun'⟩ := evGs_step hn (calls_kc C hxm) hkp hrun hb
  obtain ⟨v, hv, hw⟩ := hst.easy he
  have hown : dIn (od x).dst ((od x).ins.sl ++ (od x).gs) = false := by
    simp only [ownOk, Bool.and_eq_true, Bool.not_eq_true'] at h3; exact h3.1
  have htm : ∀ t, (od x).dst ≠ some t → st'.tm t = st.tm t := fun t ht => by rw [hv, put_get]; simp [ht]
  have hlo : st'.lo = st.lo := by rw [hv, put_lo]
  have hhp : st'.hp = st.hp := by rw [hv, put_hp]
  refine ⟨st', ⟨fun t => if (od x).dst = some t then .un else m.tm t, m.lo, m.hp⟩, ⟨h.size, h.closed, fun k i hk => h.todo k i (by omega), hrun', ⟨g, ν, hstr.un (fun t => ?_) rfl rfl⟩, h.lo.trans hlo.symm, h.hp.trans hhp.symm, ?_, ?_, ?_⟩⟩
  · simp only []; split
    · exact .inl rfl
    · exact .inr rfl
  · intro k i d hk hi hl hd
    simp only []
    split
    · rfl
    · rename_i hne
      have : k ≠ q := fun e => by subst e; rw [hpx] at hi; cases hi; exact hne hd
      exact h.owed k i d (by omega) hi hl hd
  · intro t ht
    have h7 : (od x).dst ≠ some t := ht q x (by omega) hpx hun
    simp only [h7, if_false]
    rw [htm t h7]
    exact h.rest t fun k i hk => ht k i (by omega)
  · intro k i hk hi hl
    by_cases hkq : k = q
    · subst hkq; rw [hpx] at hi; cases hi
      refine ⟨?_, he, h3, h2⟩
      have hslots : ∀ t, t ∈ (od x).ins.sl ++ (od x).gs → st'.tm t = st.tm t := fun t ht => htm t (dIn_not hown ht)
      rcases hw with ⟨w1, w2⟩ | ⟨w1, rfl⟩
      · refine .inl ⟨(wantA_eq fun t ht => hslots t (by simp [ht])).trans w1, v, ?_, fun d hd => by rw [hv, put_get]; simp [hd]⟩
        rcases easy_frame (call := call) (L := L) (st := st) (st' := st') (us := (od x).us) (us' := (od x).us) (clr := clr) (d := (od x).dst.getD 0) he (fun t ht => hslots t (by simp [ht])) (fun y _ => same_refl hlo hhp _) with hbd | ⟨v', k1, k2⟩
        · exact (w2.not_bad hbd).elim
        · have : v = v' := (w2.val_eq (fun k kp _ => k1 k kp)).1
          subst this
          exact fun k kp _ => k2 k kp
      · exact .inr ⟨(wantA_eq fun t ht => hslots t (by simp [ht])).trans w1, fun d hd => by rw [hv, put_get]; simp [hd]⟩
    · obtain ⟨k1, k2, k3, k4⟩ := h.pend k i (by omega) hi hl
      refine ⟨?_, k2, k3, k4⟩
      obtain ⟨l1, l2⟩ := leaves_spec (h2 i (take_mem (by omega) hi))
      refine k1.step k2 (fun t ht => htm t (dIn_not l1 ht)) (fun d hd => htm d (sameD_not l2 hd)) (fun y _ _ => same_refl hlo hhp _)

end
end Ev

namespace Ev
open Go
section
variable {P : Program} {pol : Pol} {call : Call} {L : Nat} {E : Ent} {ntm : Nat} {clr : List Nat} {ops : Array Oper} {p : List Nat} {od : Nat → DOp} {K : R → D} {r0 : R} {Q : Exit → Act → World → Prop}

theorem wantA_real {i : Nat} {o : DOp} {op : Oper} (r : Rel P pol ntm clr ops i o op) {g : G} {ν : Nat → Option Nat} {m : St} {a : Act} {w : World} (hs : StR E ntm clr g ν m a w) {b : Bool} (h : wantA o m = some b) : Region.wanted op (yielded ops a.tmps) = b := by
  unfold wantA at h
  cases hgd : o.gd with
  | none => simp only [hgd, Option.some.injEq] at h; rw [wanted_none r hgd, h]
  | some q =>
    obtain ⟨t, w'⟩ := q
    simp only [hgd] at h
    obtain ⟨h1, h2⟩ := wanted_some r hgd (tmps := a.tmps)
    have h3 := hs.tm t
    split at h
    · rename_i b' hv
      rw [hv] at h3
      rw [h1 b' (RepA.bo_inv h3)]; simpa using h
    · rename_i hv
      rw [hv] at h3
      obtain ⟨x, hx⟩ := h3.tup_nil
      rw [h2 x hx]; simpa using h
    · cases h

theorem Same.congr {st s st' : St} {u : V} (h : Same st s u) (hl : st'.lo = s.lo) (hh : st'.hp = s.hp) : Same st st' u := by
  cases u <;> simp only [Same, hl, hh] at * <;> exact h

theorem getD_set_mono {listed : Array Bool} {i j : Nat} (hi : i < listed.size) (h : listed.getD j false = true) : (listed.setIfInBounds i true).getD j false = true := by
  rw [get_set hi]; split
  · rfl
  · exact h

theorem getD_set_un {listed : Array Bool} {i j : Nat} (hi : i < listed.size) (h : (listed.setIfInBounds i true).getD j false = false) : j ≠ i ∧ listed.getD j false = false := by
  rw [get_set hi] at h
  split at h
  · cases h
  · exact ⟨‹_›, h⟩

/-- what makes an operation ready -/
structure Rdy (ops : Array Oper) (listed : Array Bool) (i : Nat) : Prop where
  un : listed.getD i false = false
  pre : ∀ o, ops[i]? = some o → ∀ e, e ∈ o.after → Region.binds .any e = true → listed.getD e.on false = true

theorem Inv.closed' {q : Nat} {listed : Array Bool} {st m : St} {a : Act} {w : World} (h : Inv P call L E ntm clr ops p od K r0 q listed st m a w) {i : Nat} (hi : i < listed.size) (hr : Rdy ops listed i) :
    ∀ j o, (listed.setIfInBounds i true).getD j false = true → ops[j]? = some o → ∀ e, e ∈ o.after → Region.binds .any e = true → (listed.setIfInBounds i true).getD e.on false = true := by
  intro j o hj ho e he hbn
  refine getD_set_mono hi ?_
  rw [get_set hi] at hj
  split at hj
  · rename_i q; subst q; exact hr.pre o ho e he hbn
  · exact h.closed j o hj ho e he hbn

/-- one that is owed is done -/
theorem Inv.owe (hcall : CallOK P call) (C : Dc P pol ntm clr ops call p od) {q : Nat} {listed : Array Bool} {st m : St} {a : Act} {w : World}
    (h : Inv P call L E ntm clr ops p od K r0 q listed st m a w) {k i : Nat} (hk : k < q) (hp : p[k]? = some i) (hr : Rdy ops listed i) {N : Act → World → Prop}
    (hN : ∀ st m a w, Inv P call L E ntm clr ops p od K r0 q (listed.setIfInBounds i true) st m a w → N a w) : wpOp P ops Q i N a w := by
  have him : i ∈ p := List.mem_of_getElem? hp
  have hil : i < listed.size := by rw [h.size]; exact C.lt him
  obtain ⟨op, rel⟩ := C.rel i him
  obtain ⟨hpd, he, hown, hearly⟩ := h.pend k i hk hp hr.un
  obtain ⟨g, ν, hs⟩ := h.str
  have hother : ∀ k' i', k' < q → p[k']? = some i' → listed.getD i' false = false → i' ≠ i → dIn (od i').dst ((od i).ins.sl ++ (od i).gs) = false ∧ (∀ d, (od i').dst = some d → (od i).dst ≠ some d) := by
    intro k' i' hk' hp' hl' hne
    have hkk : k' ≠ k := fun e => by subst e; rw [hp] at hp'; cases hp'; exact hne rfl
    rcases Nat.lt_or_ge k' k with z | z
    · have hlo := C.loose_of h.closed z hp' hp hl' hr.pre
      obtain ⟨h1, _, _⟩ := C.draw k' k i' i z hp' hp hlo
      obtain ⟨h4, h5, _⟩ := pairOk_spec h1
      exact ⟨h5, fun d hd => sameD_not (leaves_spec h4).2 hd⟩
    · obtain ⟨_, _, _, h4⟩ := h.pend k' i' hk' hp' hl'
      obtain ⟨l1, l2⟩ := leaves_spec (h4 i (take_mem (by omega) hp))
      exact ⟨l1, fun d hd hd' => sameD_not l2 hd' hd⟩
  have hownd : dIn (od i).dst ((od i).ins.sl ++ (od i).gs) = false := by
    simp only [ownOk, Bool.and_eq_true, Bool.not_eq_true'] at hown; exact hown.1
  have hslots : ∀ t, t ∈ (od i).ins.sl ++ (od i).gs → m.tm t = st.tm t := fun t ht => h.rest t fun k' i' hk' hp' hl' => by
    by_cases hne : i' = i
    · subst hne; exact dIn_not hownd ht
    · exact dIn_not (hother k' i' hk' hp' hl' hne).1 ht
  have next : ∀ v, (∀ d, (od i).dst = some d → st.tm d = v) → ∀ cv w' g' ν', StR E ntm clr g' ν' (Ev.put m (od i).dst v) (a.put op.dst cv) w' → N (a.put op.dst cv) w' := by
    intro v hv cv w' g' ν' hs'
    refine hN st (Ev.put m (od i).dst v) _ _ ⟨by simpa using h.size, h.closed' hil hr, fun k' i' hk' hp' => ?_, h.run, ⟨g', ν', hs'⟩, put_lo.trans h.lo, put_hp.trans h.hp, ?_, ?_, ?_⟩
    · have hne : i' ≠ i := fun e => by subst e; have := C.pos hp hp'; omega
      rw [get_set hil]; simp only [hne, if_false]; exact h.todo k' i' hk' hp'
    · intro k' i' d hk' hp' hl' hd
      obtain ⟨hne, hl⟩ := getD_set_un hil hl'
      rw [put_get]
      simp only [(hother k' i' hk' hp' hl hne).2 d hd, if_false]
      exact h.owed k' i' d hk' hp' hl hd
    · intro t ht
      rw [put_get]
      by_cases hd : (od i).dst = some t
      · simp only [hd, if_true]; exact (hv t hd).symm
      · simp only [hd, if_false]
        refine h.rest t fun k' i' hk' hp' hl => ?_
        by_cases hne : i' = i
        · subst hne; exact hd
        · exact ht k' i' hk' hp' (by rw [get_set hil]; simp only [hne, if_false]; exact hl)
    · intro k' i' hk' hp' hl'
      exact h.pend k' i' hk' hp' (getD_set_un hil hl').2
  unfold wpOp
  simp only [rel.at_]
  have hwm : wantA (od i) m = wantA (od i) st := wantA_eq fun t ht => hslots t (by simp [ht])
  rcases hpd with ⟨h1, v, h2, h3⟩ | ⟨h1, h2⟩
  · rw [wantA_real rel hs (hwm.trans h1)]
    simp only [if_true]
    refine .inl ?_
    have hdo : ∀ k kp, Ev.run call L ((od i).ins.den (od i).us clr ((od i).dst.getD 0) m k kp) = Ev.run call L (k v m) := by
      rcases easy_frame (call := call) (L := L) (st := st) (st' := m) (us := (od i).us) (us' := (od i).us) (clr := clr) (d := (od i).dst.getD 0) he (fun t ht => hslots t (by simp [ht])) (fun y _ => same_refl h.lo h.hp _) with hbd | ⟨v', k1, k2⟩
      · exact (h2.not_bad hbd).elim
      · have : v = v' := (h2.val_eq (fun k kp _ => k1 k kp)).1
        subst this; exact k2
    have hrun := hdo (fun v s => .done (.norm (Ev.put s (od i).dst v))) (fun _ _ => .bad)
    refine op_ok (e := ⟨P, E, ntm, clr, (od i).dst, g, ν, m, a, w, op, call, L⟩) hs hcall (pol := pol) (i := (od i).ins) (d := (od i).dst.getD 0) (us := (od i).us) rel.ins rel.dst (fun d' hd' => by have z : (od i).dst = some d' := hd'; simp [z]) rel.us hrun (by simp [Ev.run]) ?_ ?_
    · intro v2 s2 cv w' g' ν' hrun2 ha
      have hst := hs.put rel.less ha
      simp only [Ev.run, R.norm.injEq] at hrun2
      rw [hrun2] at hst
      show N (a.put op.dst cv) w'
      rw [rel.dst] at hst
      rw [← rel.dst] at hst
      have hst' : StR E ntm clr g' ν' (Ev.put m (od i).dst v) (a.put op.dst cv) w' := by rw [← rel.dst]; exact hst
      exact next v h3 cv w' g' ν' hst'
    · intro v2 s2 cv w' g' hrun2 _
      simp [Ev.run] at hrun2
  · rw [wantA_real rel hs (hwm.trans h1)]
    simp only [Bool.false_eq_true, if_false]
    have hst := hs.skip rel.less
    rw [rel.dst] at hst
    have hst' : StR E ntm clr g ν (Ev.put m (od i).dst (.tu [])) (a.put op.dst undef) w := by rw [rel.dst]; exact hst
    exact next (.tu []) h2 undef w g ν hst'

/-- the next one in the list is done -/
theorem Inv.take (hcall : CallOK P call) (C : Dc P pol ntm clr ops call p od) (hb : r0 ≠ .bad) (hkp : ∀ v s, Ev.run call L (K (.pan v s)) = .bad) {q : Nat} {listed : Array Bool} {st m : St} {a : Act} {w : World}
    (h : Inv P call L E ntm clr ops p od K r0 q listed st m a w) {j : Nat} (hp : p[q]? = some j) (hr : Rdy ops listed j) {N : Act → World → Prop}
    (hN : ∀ st m a w, Inv P call L E ntm clr ops p od K r0 (q + 1) (listed.setIfInBounds j true) st m a w → N a w) : wpOp P ops Q j N a w := by
  have hjm : j ∈ p := List.mem_of_getElem? hp
  have hjl : j < listed.size := by rw [h.size]; exact C.lt hjm
  have hq : q < p.length := lt_of_get hp
  obtain ⟨op, rel⟩ := C.rel j hjm
  obtain ⟨g, ν, hs⟩ := h.str
  have hdrop : p.drop q = j :: p.drop (q + 1) := by
    rw [List.drop_eq_getElem_cons hq]
    have : p[q] = j := by rw [List.getElem?_eq_getElem hq] at hp; simpa using hp
    rw [this]
  have hrun := h.run
  rw [hdrop, List.map_cons] at hrun
  have hn : HpNil st.hp := by have := hs.mem.hr.nil; rw [h.hp] at this; exact this
  obtain ⟨st', hst, hrun'⟩ := evGs_step hn (calls_kc C hjm) hkp hrun hb
  have hother : ∀ k' i', k' < q → p[k']? = some i' → listed.getD i' false = false → i' ≠ j ∧ pairOk (od i') (od j) = true ∧ loose (Region.before ops) i' j = true := by
    intro k' i' hk' hp' hl'
    have hlo := C.loose_of h.closed hk' hp' hp hl' hr.pre
    obtain ⟨h1, _, _⟩ := C.draw k' q i' j hk' hp' hp hlo
    exact ⟨fun e => by subst e; have := C.pos hp' hp; omega, h1, hlo⟩
  have hslots : ∀ t, t ∈ (od j).ins.sl ++ (od j).gs → m.tm t = st.tm t := fun t ht => h.rest t fun k' i' hk' hp' hl' =>
    dIn_not (pairOk_spec (hother k' i' hk' hp' hl').2.1).2.1 ht
  have hun : ∀ t, m.tm t = st.tm t ∨ m.tm t = .un := fun t => by
    by_cases hc : ∀ k i, k < q → p[k]? = some i → listed.getD i false = false → (od i).dst ≠ some t
    · exact .inl (h.rest t hc)
    · simp only [Classical.not_forall] at hc
      obtain ⟨k', i', h1, h2, h3, h4⟩ := hc
      exact .inr (h.owed k' i' t h1 h2 h3 (Classical.not_not.1 h4))
  have hwm : wantA (od j) m = wantA (od j) st := wantA_eq fun t ht => hslots t (by simp [ht])
  have next : ∀ v s, s.tm = st.tm → (∀ i', i' ∈ p → loose (Region.before ops) i' j = true → i' ≠ j → (od i').ins.cl = .r → (od j).ins.cl ≠ .x → ∀ t, t ∈ (od i').ins.rd → Same st s (st.tm t)) → st' = Ev.put s (od j).dst v →
      ∀ cv w' g' ν', StR E ntm clr g' ν' (Ev.put ⟨m.tm, s.lo, s.hp⟩ (od j).dst v) (a.put op.dst cv) w' → N (a.put op.dst cv) w' := by
    intro v s hstm hkeep hst' cv w' g' ν' hs'
    refine hN st' (Ev.put ⟨m.tm, s.lo, s.hp⟩ (od j).dst v) _ _ ⟨by simpa using h.size, h.closed' hjl hr, fun k' i' hk' hp' => ?_, hrun', ⟨g', ν', hs'⟩, ?_, ?_, ?_, ?_, ?_⟩
    · have hne : i' ≠ j := fun e => by subst e; have := C.pos hp hp'; omega
      rw [get_set hjl]; simp only [hne, if_false]; exact h.todo k' i' (by omega) hp'
    · rw [hst', put_lo, put_lo]
    · rw [hst', put_hp, put_hp]
    · intro k' i' d hk' hp' hl' hd
      obtain ⟨hne, hl⟩ := getD_set_un hjl hl'
      have hkq : k' ≠ q := fun e => by subst e; rw [hp] at hp'; cases hp'; exact hne rfl
      rw [put_get]
      have hds : (od j).dst ≠ some d := sameD_not (leaves_spec (pairOk_spec (hother k' i' (by omega) hp' hl).2.1).1).2 hd
      simp only [hds, if_false]
      exact h.owed k' i' d (by omega) hp' hl hd
    · intro t ht
      rw [hst', put_get, put_get]
      by_cases hd : (od j).dst = some t
      · simp only [hd, if_true]
      · simp only [hd, if_false]
        rw [hstm]
        refine h.rest t fun k' i' hk' hp' hl => ?_
        have hne := (hother k' i' hk' hp' hl).1
        exact ht k' i' (by omega) hp' (by rw [get_set hjl]; simp only [hne, if_false]; exact hl)
    · intro k' i' hk' hp' hl'
      obtain ⟨hne, hl⟩ := getD_set_un hjl hl'
      have hkq : k' ≠ q := fun e => by subst e; rw [hp] at hp'; cases hp'; exact hne rfl
      obtain ⟨k1, k2, k3, k4⟩ := h.pend k' i' (by omega) hp' hl
      obtain ⟨_, hpo, hlo⟩ := hother k' i' (by omega) hp' hl
      obtain ⟨h4, h5, h6⟩ := pairOk_spec hpo
      obtain ⟨l1, l2⟩ := leaves_spec h4
      refine ⟨?_, k2, k3, k4⟩
      refine k1.step k2 (fun t ht => ?_) (fun d hd => ?_) ?_
      · rw [hst', put_get]; simp only [dIn_not l1 ht, if_false]; rw [hstm]
      · rw [hst', put_get]; simp only [sameD_not l2 hd, if_false]; rw [hstm]
      · rcases (apart_easy h6).2 with hcp | ⟨hcr, hnx⟩
        · exact p_same hcp
        · intro x hx _
          have hko : (od i').ins.rdA.all constOk = true := by simp only [ownOk, Bool.and_eq_true] at k3; exact k3.2
          refine Same.congr (s := s) (rd_same hko (fun t ht => hkeep i' (List.mem_of_getElem? hp') hlo hne hcr hnx t ht) x hx) ?_ ?_
          · rw [hst', put_lo]
          · rw [hst', put_hp]
  unfold wpOp
  simp only [rel.at_]
  rcases hst with ⟨h1, v, s, h2, h3, h4, h5⟩ | ⟨h1, h2⟩
  · rw [wantA_real rel hs (hwm.trans h1)]
    simp only [if_true]
    refine .inl ?_
    have heta : (⟨st.tm, st.lo, st.hp⟩ : St) = st := rfl
    have hmeta : (⟨m.tm, st.lo, st.hp⟩ : St) = m := by rw [← h.lo, ← h.hp]
    have hstm : s.tm = st.tm := by
      have fr := frame (call := call) (L := L) (tm := st.tm) (tm' := st.tm) (lo := st.lo) (hp := st.hp) (i := (od j).ins) (us := (od j).us) (us' := (od j).us) (clr := clr) (d := (od j).dst.getD 0) (fun _ _ => rfl) (fun t ht => ⟨ht, .inl rfl⟩)
      rcases fr with hbd | fr
      · exact (h2.not_bad hbd).elim
      · have h6 : DO call L ((od j).ins.den (od j).us clr ((od j).dst.getD 0) st) v ⟨st.tm, s.lo, s.hp⟩ := fun k kp hk => by
          have := fr k kp
          rw [heta] at this
          rw [this]
          exact h2 _ _ fun v s => hk v _
        have h7 := (h2.val_eq h6).2
        rw [h7]
    have fr := frame (call := call) (L := L) (tm := st.tm) (tm' := m.tm) (lo := st.lo) (hp := st.hp) (i := (od j).ins) (us := (od j).us) (us' := (od j).us) (clr := clr) (d := (od j).dst.getD 0) (fun t ht => hslots t (by simp [ht])) (fun t ht => ⟨ht, hun t⟩)
    rcases fr with hbd | fr
    · exact (h2.not_bad hbd).elim
    · rw [heta, hmeta] at fr
      have hrun2 := fr (fun v s => .done (.norm (Ev.put ⟨m.tm, s.lo, s.hp⟩ (od j).dst v))) (fun _ _ => .bad)
      rw [h2 _ _ (fun _ _ => rfl)] at hrun2
      refine op_ok (e := ⟨P, E, ntm, clr, (od j).dst, g, ν, m, a, w, op, call, L⟩) hs hcall (pol := pol) (i := (od j).ins) (d := (od j).dst.getD 0) (us := (od j).us) rel.ins rel.dst (fun d' hd' => by have z : (od j).dst = some d' := hd'; simp [z]) rel.us hrun2.symm (by simp [Ev.run]) ?_ ?_
      · intro v2 s2 cv w' g' ν' hrun3 ha
        have hst := hs.put rel.less ha
        simp only [Ev.run, R.norm.injEq] at hrun3
        have hs2 : (⟨m.tm, s2.lo, s2.hp⟩ : St) = s2 := by have := ha.tmeq; simp only [] at this; rw [← this]
        rw [hs2] at hrun3
        have hst' : StR E ntm clr g' ν' (Ev.put ⟨m.tm, s.lo, s.hp⟩ (od j).dst v) (a.put op.dst cv) w' := by rw [← rel.dst, ← hrun3]; exact hst
        refine next v s hstm ?_ h5 cv w' g' ν' hst'
        intro i' hi' hlo hne _ hnx t ht
        exact h4 hnx _ fun hm => ⟨t, C.us i' j hi' hjm hne hlo hm t ht, rfl⟩
      · intro v2 s2 cv w' g' hrun3 _
        simp [Ev.run] at hrun3
  · rw [wantA_real rel hs (hwm.trans h1)]
    simp only [Bool.false_eq_true, if_false]
    have hst := hs.skip rel.less
    have hmeta : (⟨m.tm, st.lo, st.hp⟩ : St) = m := by rw [← h.lo, ← h.hp]
    have hst' : StR E ntm clr g ν (Ev.put ⟨m.tm, st.lo, st.hp⟩ (od j).dst (.tu [])) (a.put op.dst undef) w := by rw [hmeta, ← rel.dst]; exact hst
    exact next (.tu []) st rfl (fun _ _ _ _ _ _ t _ => same_refl rfl rfl _) h2 undef w g ν hst'

theorem countP_lt {p' p0 : Nat → Bool} (himp : ∀ x, p' x = true → p0 x = true) : ∀ (l : List Nat) (i : Nat), i ∈ l → p0 i = true → p' i = false → l.countP p' < l.countP p0 := by
  intro l
  have hle : ∀ l : List Nat, l.countP p' ≤ l.countP p0 := by
    intro l
    induction l with
    | nil => simp
    | cons a r ih =>
      simp only [List.countP_cons]
      cases h : p' a with
      | false => simp; omega
      | true => simp [himp a h]; omega
  induction l with
  | nil => intro i h; cases h
  | cons a r ih =>
    intro i hi h1 h2
    simp only [List.countP_cons]
    rcases List.mem_cons.1 hi with rfl | hi
    · have := hle r; simp [h1, h2]; omega
    · have := ih i hi h1 h2
      cases h : p' a with
      | false => simp; omega
      | true => simp [himp a h]; omega

theorem draw_any (hcall : CallOK P call) (C : Dc P pol ntm clr ops call p od) (hb : r0 ≠ .bad) (hkp : ∀ v s, Ev.run call L (K (.pan v s)) = .bad)
    (hQ : ∀ st a w g ν, StR E ntm [] g ν st a w → Ev.run call L (K (.norm st)) = r0 → Q .normal a w) :
    ∀ fuel q listed st m a w, Inv P call L E ntm clr ops p od K r0 q listed st m a w → (List.range ops.size).countP (fun i => !listed.getD i false) ≤ fuel → wpAny P .any ops Q fuel listed a w := by
  have ready_of : ∀ {q listed st m a w}, Inv P call L E ntm clr ops p od K r0 q listed st m a w → ∀ (k i : Nat), p[k]? = some i → listed.getD i false = false → (∀ x, x ∈ p.take k → listed.getD x false = true) → i ∈ Region.ready .any ops listed := by
    intro q listed st m a w h k i hk hl hx
    have him := List.mem_of_getElem? hk
    obtain ⟨op, rel⟩ := C.rel i him
    rw [mem_ready]
    refine ⟨?_, op, rel.at_, fun e he hbn => hx _ (C.ord k i op hk rel.at_ e he hbn)⟩
    have hil : i < listed.size := by rw [h.size]; exact C.lt him
    rw [Array.getD_eq_getD_getElem?, Array.getElem?_eq_getElem hil] at hl ⊢
    exact hl
  have done : ∀ {q listed st m a w}, Inv P call L E ntm clr ops p od K r0 q listed st m a w → Region.ready .any ops listed = [] → Q .normal a w := by
    intro q listed st m a w h hnil
    have hall : ∀ (k i : Nat), p[k]? = some i → listed.getD i false = true := by
      intro k
      induction k using Nat.strongRecOn with
      | _ k ih =>
        intro i hk
        cases hl : listed.getD i false with
        | true => rfl
        | false =>
          have := ready_of h k i hk hl fun x hx => by
            obtain ⟨m', hm', hpm'⟩ := mem_take_lt hx
            exact ih m' hm' x hpm'
          rw [hnil] at this; cases this
    have hq : p.length ≤ q := by
      rcases Nat.lt_or_ge q p.length with z | z
      · have h1 := h.todo q p[q] (Nat.le_refl _) (List.getElem?_eq_getElem z)
        rw [hall q p[q] (List.getElem?_eq_getElem z)] at h1; cases h1
      · exact z
    have hrun := h.run
    rw [List.drop_eq_nil_of_le hq] at hrun
    simp only [List.map_nil, evGs] at hrun
    obtain ⟨g, ν, hs⟩ := h.str
    have hm : m = st := by
      have : m.tm = st.tm := by
        funext t
        refine h.rest t fun k i hk hp hl => ?_
        rw [hall k i hp] at hl; cases hl
      cases m; cases st
      simp only [St.mk.injEq]
      exact ⟨this, h.lo, h.hp⟩
    subst hm
    exact hQ _ a w g ν hs.clear hrun
  intro fuel
  induction fuel with
  | zero =>
    intro q listed st m a w h hc
    have hnil : Region.ready .any ops listed = [] := by
      cases hr : Region.ready .any ops listed with
      | nil => rfl
      | cons x xs =>
        exfalso
        have hx : x ∈ Region.ready .any ops listed := by rw [hr]; simp
        obtain ⟨h1, o, ho, _⟩ := mem_ready.1 hx
        have hxs : x < ops.size := (Array.getElem?_eq_some_iff.1 ho).1
        have hxl : x < listed.size := by rw [h.size]; exact hxs
        have : listed.getD x false = false := by
          rw [Array.getD_eq_getD_getElem?, Array.getElem?_eq_getElem hxl] at h1 ⊢; exact h1
        have h0 : (List.range ops.size).countP (fun i => !listed.getD i false) = 0 := by omega
        rw [List.countP_eq_zero] at h0
        have := h0 x (List.mem_range.2 hxs)
        simp_all
    exact ⟨hnil, done h hnil⟩
  | succ fuel ih =>
    intro q listed st m a w h hc
    refine ⟨fun hnil => done h hnil, fun i hi => ?_⟩
    obtain ⟨h1, o, ho, hpre⟩ := mem_ready.1 hi
    have his : i < ops.size := (Array.getElem?_eq_some_iff.1 ho).1
    have hil : i < listed.size := by rw [h.size]; exact his
    have hun : listed.getD i false = false := by
      rw [Array.getD_eq_getD_getElem?, Array.getElem?_eq_getElem hil] at h1 ⊢; exact h1
    have hr : Rdy ops listed i := ⟨hun, fun o' ho' => by rw [ho] at ho'; cases ho'; exact hpre⟩
    have hcnt : (List.range ops.size).countP (fun x => !(listed.setIfInBounds i true).getD x false) ≤ fuel := by
      have := countP_lt (p' := fun x => !(listed.setIfInBounds i true).getD x false) (p0 := fun x => !listed.getD x false) (fun x hx => by
        simp only [Bool.not_eq_true'] at hx ⊢
        exact (getD_set_un hil hx).2) (List.range ops.size) i (List.mem_range.2 his) (by simp [hun]) (by rw [get_set hil]; simp)
      omega
    obtain ⟨k, hk⟩ := List.mem_iff_getElem?.1 (C.cov i his)
    rcases Nat.lt_or_ge k q with z | z
    · exact h.owe hcall C z hk hr fun st m a w h' => ih q _ st m a w h' hcnt
    · have adv : ∀ n q st m, q + n = k → Inv P call L E ntm clr ops p od K r0 q listed st m a w → ∃ st m, Inv P call L E ntm clr ops p od K r0 k listed st m a w := by
        intro n
        induction n with
        | zero => intro q st m e h; have : q = k := by omega
                  subst this; exact ⟨st, m, h⟩
        | succ n ihn =>
          intro q st m e h
          obtain ⟨st', m', h'⟩ := h.advance C hb hkp (by omega : q < k) hk hr.pre
          exact ihn (q + 1) st' m' (by omega) h'
      obtain ⟨st', m', h'⟩ := adv (k - q) q st m (by omega) h
      exact h'.take hcall C hb hkp hk hr fun st m a w h'' => ih (k + 1) _ st m a w h'' hcnt

end
end Ev

namespace Ev
open Go

section
variable {P : Program} {pol : Pol} {call : Call} {L : Nat} {E : Ent} {ntm : Nat}

theorem rel_of {ops : Array Oper} {l : List DOp} (h : allSome (cOp0 P pol ntm ops) ops.toList = some l) {clr : List Nat} {i : Nat} {o : DOp} (hi : l[i]? = some o) {us : List Nat} (hus : o.ins.boxes = true → ∀ t, hasN clr t = true → t ∈ us) :
    ∃ op, Rel P pol ntm clr ops i ⟨o.dst, o.gd, us, o.ins⟩ op := by
  obtain ⟨op, h1, h2⟩ := allSome_get h i o hi
  refine ⟨op, ?_⟩
  unfold cOp0 at h2
  split at h2
  · rename_i g ins hg hins
    split at h2
    · rename_i hc
      simp only [Option.some.injEq] at h2; subst h2
      simp only [Bool.and_eq_true, Bool.not_eq_true'] at hc
      exact ⟨by simpa using h1, hins, rfl, hg, hc.1, hc.2, hus⟩
    · cases h2
  · cases h2

theorem relL_of {clr : List Nat} {ops : Array Oper} : ∀ (os : List DOp) (n : Nat), (∀ k o, os[k]? = some o → ∃ op, Rel P pol ntm clr ops (n + k) o op) → RelL P pol ntm clr ops (List.range' n os.length) os := by
  intro os
  induction os with
  | nil => intro n _; exact .nil
  | cons o os ih =>
    intro n h
    obtain ⟨op, hr⟩ := h 0 o rfl
    exact .cons hr (ih (n + 1) fun k o' hk => by have := h (k + 1) o' hk; rw [show n + 1 + k = n + (k + 1) by omega]; exact this)

theorem hasN_of {l : List Nat} {d : Nat} (h : d ∈ l) : hasN l d = true := by
  induction l with
  | nil => cases h
  | cons a r ih =>
    simp only [hasN]
    rcases List.mem_cons.1 h with rfl | h
    · simp
    · rw [ih h]; cases Nat.beq a d <;> rfl

/-- what stands behind a piece of code -/
structure CPost (call : Call) (L : Nat) (E : Ent) (ntm : Nat) (k : R → D) (r0 : R) (Q : Exit → Act → World → Prop) : Prop where
  bad : run call L (k .bad) = .bad
  norm : ∀ st a w g ν, StR E ntm [] g ν st a w → run call L (k (.norm st)) = r0 → Q .normal a w
  exit : ∀ id st a w g ν, StR E ntm [] g ν st a w → run call L (k (.exit id st)) = r0 → Q (.exit id) a w
  ret : ∀ st a w g ν, StR E ntm [] g ν st a w → run call L (k (.ret st)) = r0 → Q .ret a w
  pan : ∀ v s a w cv, a.defers = [] → PanS E v s cv w → run call L (k (.pan v s)) = r0 → Q (.panic [{ v := cv, recovered := false }]) a w

theorem drawOk_spec {b : Array Nat} {ds : Array DOp} : ∀ (l done : List Nat), drawOk b ds done l = true → ∀ (k r i j : Nat), k < r → l[k]? = some i → l[r]? = some j → loose b i j = true →
    ∃ x y, ds[i]? = some x ∧ ds[j]? = some y ∧ pairOk x y = true ∧ ownOk x = true ∧ ∀ z, z ∈ done ∨ z ∈ l.take k → ∃ zz, ds[z]? = some zz ∧ leaves zz x = true := by
  intro l
  induction l with
  | nil => intro done _ k r i j _ h; simp at h
  | cons a l ih =>
    intro done h k r i j hkr hk hr hlo
    simp only [drawOk, Bool.and_eq_true] at h
    obtain ⟨h1, h2⟩ := h
    cases r with
    | zero => omega
    | succ r =>
      simp only [List.getElem?_cons_succ] at hr
      cases k with
      | zero =>
        simp only [List.getElem?_cons_zero, Option.some.injEq] at hk; subst hk
        have := List.all_eq_true.1 h1 j (List.mem_of_getElem? hr)
        rw [hlo] at this
        simp only [Bool.not_true, Bool.false_or] at this
        cases hx : ds[a]? with
        | none => simp [hx] at this
        | some x =>
          cases hy : ds[j]? with
          | none => simp [hx, hy] at this
          | some y =>
            simp only [hx, hy, Bool.and_eq_true] at this
            obtain ⟨p1, p2, p3⟩ := this
            refine ⟨x, y, rfl, rfl, p1, p3, fun z hz => ?_⟩
            rcases hz with hz | hz
            · have := List.all_eq_true.1 p2 z hz
              cases hzz : ds[z]? with
              | none => simp [hzz] at this
              | some zz => simp only [hzz] at this; exact ⟨zz, rfl, this⟩
            · simp at hz
      | succ k =>
        simp only [List.getElem?_cons_succ] at hk
        obtain ⟨x, y, q1, q2, q3, q4, q5⟩ := ih (a :: done) h2 k r i j (by omega) hk hr hlo
        refine ⟨x, y, q1, q2, q3, q4, fun z hz => q5 z ?_⟩
        simp only [List.take_succ_cons, List.mem_cons] at hz
        rcases hz with hz | rfl | hz
        · exact .inl (.tail _ hz)
        · exact .inl (by simp)
        · exact .inr hz

theorem reg_ok (hcall : CallOK P call) (hm : P.follows .mixedOrders = true) (hkc : ∀ f, pol.mds f ≠ .rw → KeepC call f) {id : Nat} {ops : Array Oper} {draw : Bool} {c : C} (hc : cReg1 P pol ntm id ops draw = some c)
    {st : St} {a : Act} {w : World} {g : G} {ν : Nat → Option Nat} {k : R → D} {r0 : R} {Q : Exit → Act → World → Prop} (hs : StR E ntm [] g ν st a w) (hrun : run call L (c.den st k) = r0) (hb : r0 ≠ .bad) (hp : CPost call L E ntm k r0 Q) :
    (Code.region id ops draw).wp P Q a w := by
  unfold cReg1 at hc
  cases hl : allSome (cOp0 P pol ntm ops) ops.toList with
  | none => simp [hl] at hc
  | some l =>
    have hlen : l.length = ops.size := by have := allSome_len hl; simpa using this
    simp only [hl] at hc
    cases draw with
    | false =>
      simp only [Bool.false_eq_true, if_false, Option.some.injEq] at hc
      subst hc
      refine wp_region ?_
      have hrange : List.range ops.size = List.range' 0 ops.size := List.range_eq_range'
      simp only [C.den, cond_false, cReg] at hrun
      generalize hos : (l.zipIdx.map fun (x : DOp × Nat) => (⟨x.1.dst, x.1.gd, (match x.1.ins with | .alc _ | .box _ => (assoc pol.clr id).getD [] | _ => []), x.1.ins⟩ : DOp)) = os at hrun
      obtain ⟨h1, h2⟩ := group_ok os
      have hosl : os.length = ops.size := by rw [← hos]; simp [hlen]
      have hrel : RelL P pol ntm ((assoc pol.clr id).getD []) ops (List.range ops.size) ((group os).flatMap (·.ops)) := by
        rw [h1, hrange, ← hosl]
        refine relL_of os 0 fun i o hi => ?_
        rw [← hos] at hi
        simp only [List.getElem?_map, List.getElem?_zipIdx] at hi
        cases hx : l[i]? with
        | none => simp [hx] at hi
        | some x =>
          simp only [hx, Option.map_some, Option.some.injEq] at hi
          subst hi
          rw [Nat.zero_add]
          refine rel_of hl hx fun hbx t ht => ?_
          cases hins : x.ins <;> simp only [hins, I.boxes, Bool.false_eq_true] at hbx <;> simp only [] <;> exact hasN_mem ht
      exact evGs_ok hcall hb hp.norm hp.pan (group os) _ st a w g ν hrel h2 hs.weaken hrun
    | true =>
      simp only [if_true] at hc
      generalize hclr : (assoc pol.clr id).getD [] = clr at hc
      generalize hpp : (assoc pol.ord id).getD (List.range ops.size) = p at hc
      split at hc
      · rename_i hok
        simp only [Bool.and_eq_true] at hok
        obtain ⟨hord, hdraw⟩ := hok
        simp only [Option.map_eq_some_iff] at hc
        obtain ⟨l', hl', rfl⟩ := hc
        let od : Nat → DOp := fun i => ((l.toArray[i]?).map fun (o : DOp) => (⟨o.dst, o.gd, usOf (Region.before ops) l.toArray clr i o.ins, o.ins⟩ : DOp)).getD ⟨none, none, [], .pan (.k .un)⟩
        have hod : l' = p.map od := by
          refine List.ext_getElem? fun n => ?_
          rw [List.getElem?_map]
          cases hn : l'[n]? with
          | none =>
            have : p.length ≤ n := by
              have h1 := allSome_len hl'
              have h2 := List.getElem?_eq_none_iff.1 hn
              omega
            rw [List.getElem?_eq_none this]; rfl
          | some o =>
            obtain ⟨i, h1, h2⟩ := allSome_get hl' n o hn
            rw [h1]
            simp only [Option.map_some, Option.some.injEq, od]
            rw [h2]; rfl
        simp only [orderOk, Bool.and_eq_true, List.all_eq_true] at hord
        obtain ⟨⟨_, hcov⟩, hordp⟩ := hord
        have hzip : ∀ k i, p[k]? = some i → (i, k) ∈ p.zipIdx := fun k i h => List.mem_iff_getElem?.2 ⟨k, by rw [List.getElem?_zipIdx]; simp [h]⟩
        have hat : ∀ k i, p[k]? = some i → ∃ o, ops[i]? = some o ∧ i ∉ p.take k ∧ ∀ e, e ∈ o.after → Region.binds .any e = true → e.on ∈ p.take k := by
          intro k i hk
          have := hordp (i, k) (hzip k i hk)
          simp only [] at this
          cases ho : ops[i]? with
          | none => simp [ho] at this
          | some o =>
            simp only [ho, Bool.and_eq_true, Bool.not_eq_true', Array.all_eq_true_iff_forall_mem, Bool.or_eq_true] at this
            refine ⟨o, rfl, fun q => ?_, fun e he hbn => ?_⟩
            · rw [hasN_of q] at this; cases this.1
            · rcases this.2 e he with q | q
              · rw [hbn] at q; cases q
              · exact hasN_mem q
        have hlt : ∀ i, i ∈ p → i < ops.size := fun i hi => by
          obtain ⟨k, hk⟩ := List.mem_iff_getElem?.1 hi
          obtain ⟨o, ho, _⟩ := hat k i hk
          exact (Array.getElem?_eq_some_iff.1 ho).1
        have hli : ∀ i, i ∈ p → ∃ o, l[i]? = some o ∧ od i = ⟨o.dst, o.gd, usOf (Region.before ops) l.toArray clr i o.ins, o.ins⟩ := fun i hi => by
          have : i < l.length := by rw [hlen]; exact hlt i hi
          refine ⟨l[i], List.getElem?_eq_getElem this, ?_⟩
          simp only [od, List.getElem?_toArray, List.getElem?_eq_getElem this, Option.map_some, Option.getD_some]
        have C0 : Dc P pol ntm clr ops call p od := by
          refine ⟨fun i hi => hasN_mem (hcov i (List.mem_range.2 hi)), fun k i hk => (hat k i hk).choose_spec.2.1, fun k i o hk ho => ?_, fun i hi => ?_, ?_, ?_, hkc⟩
          · obtain ⟨o', h1, _, h3⟩ := hat k i hk
            rw [h1] at ho; cases ho; exact h3
          · obtain ⟨o, h1, h2⟩ := hli i hi
            rw [h2]
            refine rel_of hl h1 fun hbx t ht => ?_
            cases hins : o.ins <;> simp only [hins, I.boxes, Bool.false_eq_true] at hbx <;> exact List.mem_append_left _ (hasN_mem ht)
          · intro k r i j hkr hk hr hlo
            obtain ⟨x, y, q1, q2, q3, q4, q5⟩ := drawOk_spec p [] hdraw k r i j hkr hk hr hlo
            obtain ⟨xi, h1, h2⟩ := hli i (List.mem_of_getElem? hk)
            obtain ⟨xj, h3, h4⟩ := hli j (List.mem_of_getElem? hr)
            simp only [List.getElem?_toArray] at q1 q2
            rw [h1] at q1; cases q1
            rw [h3] at q2; cases q2
            rw [h2, h4]
            refine ⟨q3, fun z hz => ?_, q4⟩
            obtain ⟨zz, z1, z2⟩ := q5 z (.inr hz)
            obtain ⟨xz, h5, h6⟩ := hli z (by obtain ⟨m', _, hm⟩ := mem_take_lt hz; exact List.mem_of_getElem? hm)
            simp only [List.getElem?_toArray] at z1
            rw [h5] at z1; cases z1
            rw [h6]; exact z2
          · intro i j hi hj hne hlo hmd t ht
            obtain ⟨xi, h1, h2⟩ := hli i hi
            obtain ⟨xj, h3, h4⟩ := hli j hj
            rw [h4] at hmd ⊢
            rw [h2] at ht
            have hne' : (i != j) = true := by simpa using hne
            have hlo' := loose_symm hlo
            have hil : i < l.toArray.size := by simpa using lt_of_get h1
            have hx : l.toArray[i]? = some xi := by simpa using h1
            cases hins : xj.ins <;> simp only [hins, I.minds, Bool.false_eq_true] at hmd
            · refine List.mem_append_right _ (List.mem_flatMap.2 ⟨i, List.mem_range.2 hil, ?_⟩)
              simp only [hx, hne', hlo', Bool.and_self, if_true]; exact ht
            · refine List.mem_append_right _ (List.mem_flatMap.2 ⟨i, List.mem_range.2 hil, ?_⟩)
              simp only [hx, hne', hlo', Bool.and_self, if_true]; exact ht
            · refine List.mem_flatMap.2 ⟨i, List.mem_range.2 hil, ?_⟩
              simp only [hx, hne', hlo', Bool.and_self, if_true]; exact List.mem_append_left _ ht
            all_goals
              refine List.mem_flatMap.2 ⟨i, List.mem_range.2 hil, ?_⟩
              simp only [hx, hne', hlo', Bool.and_self, if_true]; exact ht
        refine wp_region_any hm ?_
        simp only [C.den, cond_true, cReg] at hrun
        have hmap : (alone l').map DGr.den = p.map fun i => sg (od i) := by
          rw [hod]; unfold alone sg; simp only [List.map_map]; rfl
        rw [hmap] at hrun
        have hstr : StR E ntm clr g ν st a { w with drawn := w.drawn + 1 } := ⟨hs.size, hs.defers, hs.tm, (hs.weaken (clr := clr)).lps, hs.mem.same rfl ⟨rfl, rfl⟩⟩
        refine draw_any hcall C0 hb (K := fun x => match x with | .pan _ _ => .bad | x => k x) (fun _ _ => rfl) (fun st' a' w' g' ν' h1 h2 => hp.norm st' a' w' g' ν' h1 h2) ops.size 0 _ st st a _ ⟨by simp, fun i o h => ?_, fun k' i _ _ => ?_, ?_, ⟨g, ν, hstr⟩, rfl, rfl, fun k' i d h => by omega, fun t _ => rfl, fun k' i h => by omega⟩ ?_
        · simp only [Array.getD_eq_getD_getElem?, Array.getElem?_replicate] at h
          split at h <;> cases h
        · simp only [Array.getD_eq_getD_getElem?, Array.getElem?_replicate]; split <;> rfl
        · rw [List.drop_zero]; exact hrun
        · exact Nat.le_trans List.countP_le_length (by simp)
      · cases hc

end
end Ev

namespace Ev
open Go

section
variable {P : Program} {pol : Pol} {call : Call} {L : Nat} {E : Ent} {ntm : Nat}

theorem keepF_eq {α : Type} : ∀ (l : List Nat) (k : Tm → α) (tm : Tm), ∃ tm', keepF k l tm = k tm' ∧ ∀ t, tm' t = .un ∨ tm' t = tm t := by
  intro l
  induction l with
  | nil => intro k tm; exact ⟨fun _ => .un, rfl, fun _ => .inl rfl⟩
  | cons s r ih =>
    intro k tm
    simp only [keepF, force_eq]
    obtain ⟨tm', h1, h2⟩ := ih (fun t => k fun j => bif Nat.beq j s then tm s else t j) tm
    refine ⟨_, h1, fun t => ?_⟩
    by_cases e : t = s
    · subst e; simp
    · simp only [beqF e, cond_false]; exact h2 t

def goOn (body : St → R) (keep drop : List Nat) (n : Nat) : R → R
  | .norm s => iter body keep drop n s
  | x => x

theorem iter_succ (body : St → R) (keep drop : List Nat) (n : Nat) (st : St) : iter body keep drop (n + 1) st = keepF (fun t => goOn body keep drop n (body ⟨t, shed drop st.lo, st.hp⟩)) keep st.tm := by
  have : (fun t => goOn body keep drop n (body ⟨t, shed drop st.lo, st.hp⟩)) = fun t => match body ⟨t, shed drop st.lo, st.hp⟩ with
      | .norm s => iter body keep drop n s
      | x => x := by
    funext t; cases body ⟨t, shed drop st.lo, st.hp⟩ <;> rfl
  rw [this]; rfl

theorem LoR.shed {g : G} {ν : Nat → Option Nat} {lo lo' : Lo} {hp : Hp} {w : World} (h : LoR E g ν lo hp w) (hs : ∀ t, lo' t = none ∨ lo' t = lo t) : LoR E g ν lo' hp w := by
  refine ⟨fun t cs x => ?_, fun t t' b htt h1 h2 => ?_⟩
  · rcases hs t with q | q
    · rw [q] at x; cases x
    · rw [q] at x; exact h.box t cs x
  · refine h.inj t t' b htt ?_ ?_
    · rcases hs t with q | q
      · exact absurd q h1
      · rw [← q]; exact h1
    · rcases hs t' with q | q
      · exact absurd q h2
      · rw [← q]; exact h2

theorem StR.shed {g : G} {ν : Nat → Option Nat} {st : St} {a : Act} {w : World} (h : StR E ntm [] g ν st a w) {tm' : Tm} {lo' : Lo} (ht : ∀ t, tm' t = .un ∨ tm' t = st.tm t) (hl : ∀ t, lo' t = none ∨ lo' t = st.lo t) :
    StR E ntm [] g ν ⟨tm', lo', st.hp⟩ a w := by
  refine ⟨h.size, h.defers, fun t => ?_, fun t d off x => ?_, ⟨h.mem.hr, h.mem.lo.shed hl, h.mem.evo⟩⟩
  · show RepT g ν (tm' t) _
    rcases ht t with q | q
    · rw [q]; exact RepA.un _
    · rw [q]; exact h.tm t
  · have x : tm' t = .lp d off := x
    rcases ht t with q | q
    · rw [q] at x; cases x
    · rw [q] at x; exact h.lps t d off x

theorem code_ok (hcall : CallOK P call) (hm : P.follows .mixedOrders = true) (hkc : ∀ f, pol.mds f ≠ .rw → KeepC call f) : ∀ (code : Code) (c : C), cC P pol ntm code = some c →
    ∀ (st : St) (a : Act) (w : World) (g : G) (ν : Nat → Option Nat) (k : R → D) (r0 : R) (Q : Exit → Act → World → Prop), StR E ntm [] g ν st a w → run call L (c.den st k) = r0 → r0 ≠ .bad → CPost call L E ntm k r0 Q → code.wp P Q a w := by
  intro code
  induction code with
  | skip =>
    intro c hc st a w g ν k r0 Q hs hrun hb hp
    simp only [cC, Option.some.injEq] at hc; subst hc
    exact wp_skip (hp.norm st a w g ν hs hrun)
  | region id ops draw =>
    intro c hc st a w g ν k r0 Q hs hrun hb hp
    exact reg_ok hcall hm hkc hc hs hrun hb hp
  | seq x y ihx ihy =>
    intro c hc st a w g ν k r0 Q hs hrun hb hp
    simp only [cC] at hc
    cases hx : cC P pol ntm x with
    | none => simp [hx] at hc
    | some cx =>
      cases hy : cC P pol ntm y with
      | none => simp [hx, hy] at hc
      | some cy =>
        simp only [hx, hy, Option.some.injEq] at hc; subst hc
        refine wp_seq (ihx cx hx st a w g ν _ r0 _ hs hrun hb ⟨hp.bad, fun st' a' w' g' ν' h1 h2 => ?_, fun id st' a' w' g' ν' h1 h2 => hp.exit id st' a' w' g' ν' h1 h2, fun st' a' w' g' ν' h1 h2 => hp.ret st' a' w' g' ν' h1 h2, fun v s a' w' cv h1 h2 h3 => hp.pan v s a' w' cv h1 h2 h3⟩)
        exact ihy cy hy st' a' w' g' ν' k r0 Q h1 h2 hb hp
  | cond co x y ihx ihy =>
    intro c hc st a w g ν k r0 Q hs hrun hb hp
    simp only [cC] at hc
    cases ho : cA co with
    | none => simp [ho] at hc
    | some ca =>
      cases hx : cC P pol ntm x with
      | none => simp [ho, hx] at hc
      | some cx =>
        cases hy : cC P pol ntm y with
        | none => simp [ho, hx, hy] at hc
        | some cy =>
          simp only [ho, hx, hy, Option.some.injEq] at hc; subst hc
          have hr := cA_rep ho hs.tm
          simp only [C.den, cIf] at hrun
          cases hv : get st.tm ca with
          | bo t =>
            rw [hv] at hr
            simp only [hv, run] at hrun
            refine wp_cond_split (t := t) (RepA.bo_inv hr) (fun ht => ?_) (fun ht => ?_)
            · subst ht; exact ihx cx hx st a w g ν k r0 Q hs hrun hb hp
            · subst ht; exact ihy cy hy st a w g ν k r0 Q hs hrun hb hp
          | _ => simp only [hv, run] at hrun; exact absurd hrun.symm hb
  | block id x ih =>
    intro c hc st a w g ν k r0 Q hs hrun hb hp
    simp only [cC, Option.map_eq_some_iff] at hc
    obtain ⟨cx, hx, rfl⟩ := hc
    refine wp_block (ih cx hx st a w g ν _ r0 _ hs hrun hb ⟨hp.bad, fun st' a' w' g' ν' h1 h2 => hp.norm st' a' w' g' ν' h1 h2, fun id' st' a' w' g' ν' h1 h2 => ?_, fun st' a' w' g' ν' h1 h2 => hp.ret st' a' w' g' ν' h1 h2, fun v s a' w' cv h1 h2 h3 => hp.pan v s a' w' cv h1 h2 h3⟩)
    simp only [] at h2
    simp only [Exit.inBlock]
    by_cases e : id' = id
    · subst e
      simp only [Nat.beq_refl, cond_true] at h2
      simp only [if_true]
      exact hp.norm st' a' w' g' ν' h1 h2
    · simp only [beqF e, cond_false] at h2
      simp only [e, if_false]
      exact hp.exit id' st' a' w' g' ν' h1 h2
  | loop x ih =>
    intro c hc st a w g ν k r0 Q hs hrun hb hp
    simp only [cC] at hc
    cases hf : firstRegion x with
    | none => simp [hf] at hc
    | some rg =>
      cases hx : cC P pol ntm x with
      | none => simp [hf, hx] at hc
      | some cx =>
        simp only [hf, hx, Option.map_eq_some_iff] at hc
        obtain ⟨⟨keep, drop⟩, _, rfl⟩ := hc
        simp only [C.den, cLoop, run] at hrun
        have key : ∀ (n : Nat) (st : St) (a : Act) (w : World) (g : G) (ν : Nat → Option Nat) (y : R), StR E ntm [] g ν st a w → iter (fun s => run call L (cx.den s .done)) keep drop n st = y → run call L (k y) = r0 → Code.rounds P x Q n a w := by
          intro n
          induction n with
          | zero =>
            intro st a w g ν y _ hy hk
            simp only [iter] at hy; subst hy
            rw [hp.bad] at hk; exact absurd hk.symm hb
          | succ n ihn =>
            intro st a w g ν y hs hy hk
            rw [iter_succ] at hy
            obtain ⟨tm', e1, e2⟩ := keepF_eq keep (fun t => goOn (fun s => run call L (cx.den s .done)) keep drop n (run call L (cx.den ⟨t, shed drop st.lo, st.hp⟩ .done))) st.tm
            rw [e1] at hy
            have hs' : StR E ntm [] g ν ⟨tm', shed drop st.lo, st.hp⟩ a w := hs.shed e2 fun t => by unfold Ev.shed; cases hasN drop t <;> simp
            generalize hbody : run call L (cx.den ⟨tm', shed drop st.lo, st.hp⟩ .done) = rb at hy
            have hrb : rb ≠ .bad := fun e => by
              rw [e] at hy; simp only [goOn] at hy; subst hy; rw [hp.bad] at hk; exact hb hk.symm
            rw [rounds_succ]
            refine ih cx hx _ a w g ν .done rb _ hs' hbody hrb ⟨rfl, fun st' a' w' g' ν' h1 h2 => ?_, fun id st' a' w' g' ν' h1 h2 => ?_, fun st' a' w' g' ν' h1 h2 => ?_, fun v s a' w' cv h1 h2 h3 => ?_⟩
            · simp only [run] at h2; subst h2
              simp only [goOn] at hy
              exact ihn st' a' w' g' ν' y h1 hy hk
            · simp only [run] at h2; subst h2
              simp only [goOn] at hy; subst hy
              exact hp.exit id st' a' w' g' ν' h1 hk
            · simp only [run] at h2; subst h2
              simp only [goOn] at hy; subst hy
              exact hp.ret st' a' w' g' ν' h1 hk
            · simp only [run] at h3; subst h3
              simp only [goOn] at hy; subst hy
              exact hp.pan v s a' w' cv h1 h2 hk
        exact wp_loop_rounds L (key L st a w g ν _ hs rfl hrun)
  | scope x ih =>
    intro c hc st a w g ν k r0 Q hs hrun hb hp
    simp only [cC] at hc
    refine wp_scope_straight (ih c hc st a w g ν k r0 _ hs hrun hb ⟨hp.bad, fun st' a' w' g' ν' h1 h2 => hp.norm st' a' w' g' ν' h1 h2, fun id st' a' w' g' ν' h1 h2 => hp.exit id st' a' w' g' ν' h1 h2, fun st' a' w' g' ν' h1 h2 => hp.ret st' a' w' g' ν' h1 h2, fun v s a' w' cv h1 h2 h3 => hp.pan v s a' w' cv h1 h2 h3⟩)
  | exit id =>
    intro c hc st a w g ν k r0 Q hs hrun hb hp
    simp only [cC, Option.some.injEq] at hc; subst hc
    exact wp_exit (hp.exit id st a w g ν hs hrun)
  | ret =>
    intro c hc st a w g ν k r0 Q hs hrun hb hp
    simp only [cC, Option.some.injEq] at hc; subst hc
    exact wp_ret (hp.ret st a w g ν hs hrun)
  | _ => intro c hc; simp [cC] at hc

/-- cells read, for real -/
theorem load_real {g : G} {ν : Nat → Option Nat} {st : St} {a : Act} {w : World} (h : StR E ntm [] g ν st a w) {n : Nat} {v : V} {cv : Value} (hr : RepT g ν v cv) {k : List V → D} {r0 : R} (hrun : run call L (loadD st n v k) = r0) (hb : r0 ≠ .bad) :
    ∃ (cs : List V) (b o : Nat) (f : Nat → Value), cv = .pointer (some (ad b o)) ∧ cs.length = n ∧ (∀ (j : Nat) (c : V), cs[j]? = some c → c.keep = true ∧ w.cell? (ad b (o + j)) = some (f j) ∧ RepA g c (f j)) ∧ run call L (k cs) = r0 := by
  have hgt : ∀ (cs : List V) (off j : Nat) (c : V), ((cs.drop off).take n)[j]? = some c → cs[off + j]? = some c := by
    intro cs off j c hj
    have := lt_of_get hj
    rw [List.getElem?_take_of_lt (by simp at this; omega), List.getElem?_drop] at hj
    exact hj
  have hcut : ∀ (off : Nat) (cs : List V), run call L (cutD n off cs k) = r0 → off + n ≤ cs.length ∧ run call L (k ((cs.drop off).take n)) = r0 := by
    intro off cs h
    simp only [cutD, run] at h
    cases hb' : Nat.ble (off + n) cs.length with
    | false => simp only [hb', cond_false] at h; exact absurd h.symm hb
    | true => simp only [hb', cond_true] at h; exact ⟨Nat.le_of_ble_eq_true hb', h⟩
  cases v with
  | ip cs =>
    obtain ⟨b, o, f, rfl, h1, h2⟩ := RepA.ip_inv hr
    obtain ⟨hl, hk⟩ := hcut 0 cs hrun
    refine ⟨_, b, o, f, rfl, by simp; omega, fun j c hj => ?_, hk⟩
    have := hgt cs 0 j c hj
    rw [Nat.zero_add] at this
    exact ⟨(h1 j c this).1, h.mem.hr.kap _ _ _ (h1 j c this).2, .c _ _ (h2 j c this)⟩
  | lp t off =>
    obtain ⟨b, hb', rfl⟩ := hr
    simp only [loadD] at hrun
    cases hlo : st.lo t with
    | none => simp only [hlo, run] at hrun; exact absurd hrun.symm hb
    | some cs =>
      simp only [hlo] at hrun
      obtain ⟨b', hb'', hx, _⟩ := h.mem.lo.box t cs hlo
      rw [hb'] at hb''; cases hb''
      obtain ⟨hl, hk⟩ := hcut off cs hrun
      refine ⟨_, b, off, fun j => (w.cell? (ad b (off + j))).getD undef, rfl, by simp; omega, fun j c hj => ?_, hk⟩
      obtain ⟨a1, ⟨u, a2, a3⟩, _⟩ := hx (off + j) c (hgt cs off j c hj)
      refine ⟨a1, ?_, ?_⟩
      · simp only [a2, Option.getD_some]
      · simp only [a2, Option.getD_some]; exact a3
  | pt id i off =>
    obtain ⟨a, rfl, hx⟩ := RepA.pt_inv hr
    simp only [loadD] at hrun
    cases hg : hget st.hp id with
    | none => simp only [hg, run] at hrun; exact absurd hrun.symm hb
    | some bk =>
      simp only [hg, run] at hrun
      cases hi : Nat.blt i bk.es.length with
      | false => simp only [hi, cond_false] at hrun; exact absurd hrun.symm hb
      | true =>
        simp only [hi, cond_true] at hrun
        obtain ⟨hl, hk⟩ := hcut off _ hrun
        rcases hx with hx | ⟨r, hl1, rfl⟩
        · have := h.mem.hr.dead id hx; rw [this] at hg; cases hg
        · obtain ⟨bk0, e0, z⟩ := h.mem.hr.live id r hl1
          rw [hg] at e0; cases e0
          have hi' : i < bk.es.length := Nat.le_of_ble_eq_true hi
          have hrow : bk.es[i]? = some (bk.es.getD i []) := by simp [List.getD, List.getElem?_eq_getElem hi']
          refine ⟨_, r.b, _, fun j => (w.cell? (ad r.b (r.base + i * r.sz + off + j))).getD undef, rfl, by rw [List.length_take, List.length_drop]; omega, fun j c hj => ?_, hk⟩
          obtain ⟨a1, u, a2, a3⟩ := z.cont i (off + j) _ c hrow (hgt _ off j c hj)
          rw [show r.base + i * r.sz + (off + j) = r.base + i * r.sz + off + j by omega] at a2
          refine ⟨a1, ?_, ?_⟩
          · simp only [a2, Option.getD_some]
          · simp only [a2, Option.getD_some]; exact a3
  | _ => simp only [loadD, run] at hrun; exact absurd hrun.symm hb

/-- a result is read -/
def resSem (tmps : Array Value) : ResultVar → Sem Value
  | .tmp t => pure (tmps.getD t undef)
  | .cell a t => do loadVar t (← asAddr (tmps.getD a undef))

theorem results_real {g : G} {ν : Nat → Option Nat} {st : St} {a : Act} {w : World} (h : StR E ntm [] g ν st a w) : ∀ (rvs : List ResultVar) (res : List Rv), allSome (cRv P) rvs = some res → ∀ (k : List V → D) (r0 : R), run call L (resultsD st res k) = r0 → r0 ≠ .bad →
    ∃ (vs : List V) (cvs : List Value), (rvs.mapM (resSem a.tmps)).run P w = .ok cvs w ∧ vs.length = cvs.length ∧ (∀ x, x ∈ vs → isLp x = false) ∧ (∀ (i : Nat) (v : V), vs[i]? = some v → RepA g v (cvs.getD i undef)) ∧ run call L (k vs) = r0 := by
  intro rvs
  induction rvs with
  | nil =>
    intro res hres k r0 hrun hb
    simp only [allSome, Option.some.injEq] at hres; subst hres
    exact ⟨[], [], by simp, rfl, fun x hx => by (cases hx), fun i v hv => by simp at hv, hrun⟩
  | cons rv rvs ih =>
    intro res hres k r0 hrun hb
    simp only [allSome] at hres
    cases h1 : cRv P rv with
    | none => simp [h1] at hres
    | some q =>
      cases h2 : allSome (cRv P) rvs with
      | none => simp [h1, h2] at hres
      | some qs =>
        simp only [h1, h2, Option.some.injEq] at hres; subst hres
        have fin : ∀ (v : V) (cv : Value), (resSem a.tmps rv).run P w = .ok cv w → RepA g v cv → isLp v = false → run call L (resultsD st qs fun s => k (v :: s)) = r0 →
            ∃ (vs : List V) (cvs : List Value), ((rv :: rvs).mapM (resSem a.tmps)).run P w = .ok cvs w ∧ vs.length = cvs.length ∧ (∀ x, x ∈ vs → isLp x = false) ∧ (∀ (i : Nat) (v : V), vs[i]? = some v → RepA g v (cvs.getD i undef)) ∧ run call L (k vs) = r0 := by
          intro v cv hr1 hr2 hl hrun'
          obtain ⟨vs, cvs, q1, q2, q3, q4, q5⟩ := ih qs h2 _ r0 hrun' hb
          refine ⟨v :: vs, cv :: cvs, ?_, by simp [q2], fun x hx => ?_, fun i x hx => ?_, q5⟩
          · rw [List.mapM_cons]
            simp only [Sem.run_bind, hr1, Result.andThen_ok, q1, Sem.run_pure]
          · rcases List.mem_cons.1 hx with rfl | hx
            · exact hl
            · exact q3 x hx
          · cases i with
            | zero => simp only [List.getElem?_cons_zero, Option.some.injEq] at hx; subst hx; exact hr2
            | succ i => simp only [List.getElem?_cons_succ] at hx; exact q4 i x hx
        cases rv with
        | tmp t =>
          simp only [cRv, Option.some.injEq] at h1; subst h1
          simp only [resultsD] at hrun
          cases hl : isLp (st.tm t) with
          | true =>
            exfalso
            cases hv : st.tm t <;> simp only [hv, isLp, Bool.false_eq_true] at hl
            simp only [hv, notLpD, run] at hrun; exact hb hrun.symm
          | false =>
            have : notLpD (st.tm t) (fun v => resultsD st qs fun s => k (v :: s)) = resultsD st qs fun s => k (st.tm t :: s) := by
              cases hv : st.tm t <;> first | rfl | (simp [hv, isLp] at hl)
            rw [this] at hrun
            exact fin (st.tm t) _ (by simp [resSem]) ((h.tm t).toA hl) hl hrun
        | cell t ty =>
          simp only [cRv] at h1
          cases hsz : Ev.size P ty with
          | none => simp [hsz] at h1
          | some n =>
            cases hag : Ev.isAgg P ty with
            | none => simp [hsz, hag] at h1
            | some gg =>
              simp only [hsz, hag, Option.some.injEq] at h1; subst h1
              simp only [resultsD] at hrun
              obtain ⟨cs, b, o, f, hcv, hn, hcs, hrun'⟩ := load_real h (h.tm t) hrun hb
              cases hp : pickC n gg cs with
              | none => simp only [hp, oneD, run] at hrun'; exact absurd hrun'.symm hb
              | some v =>
                simp only [hp, oneD] at hrun'
                obtain ⟨k1, k2, k3⟩ := pickC_rep (g := g) (f := f) hn (fun c hc => by obtain ⟨j, hj⟩ := List.getElem?_of_mem hc; exact (hcs j c hj).1) (fun j c hj => (hcs j c hj).2.2) hp
                have hnl : notLpD v (fun v => resultsD st qs fun s => k (v :: s)) = resultsD st qs fun s => k (v :: s) := by
                  cases v <;> first | rfl | (simp [isLp] at k3)
                rw [hnl] at hrun'
                have hld := run_loadVar (P := P) hsz hag (w := w) (b := b) (o := o) (f := f) (fun j hj => (hcs j (cs[j]'(by omega)) (by rw [List.getElem?_eq_getElem])).2.1) k1
                exact fin v _ (by simp [resSem, hcv, asAddr, hld]) k2 k3 hrun'

theorem run_results {fn : Func} {tmps : Array Value} {w : World} {cvs : List Value} (h : (fn.results.toList.mapM (resSem tmps)).run P w = .ok cvs w) :
    (results fn tmps).run P w = .ok (if h : cvs.length = 1 then cvs[0]'(by omega) else .tuple cvs.toArray) w := by
  have : results fn tmps = (do
      let vs ← fn.results.mapM (resSem tmps)
      pure (if h : vs.size = 1 then vs[0] else .tuple vs)) := by
    unfold results
    congr 1
  rw [this]
  rw [Array.mapM_eq_mapM_toList]
  simp only [Sem.run_bind, Sem.run_map, h, Result.andThen_ok, Sem.run_pure]
  simp
end
end Ev

namespace Ev
open Go

section
variable {P : Program} {pol : Pol} {call : Call} {L : Nat}

theorem tuple_repA {g : G} {vs : List V} {cvs : List Value} (hl : vs.length = cvs.length) (h1 : ∀ x, x ∈ vs → isLp x = false) (h2 : ∀ (i : Nat) (v : V), vs[i]? = some v → RepA g v (cvs.getD i undef)) :
    RepA g (tuple vs) (if h : cvs.length = 1 then cvs[0]'(by omega) else .tuple cvs.toArray) ∧ isLp (tuple vs) = false := by
  by_cases h : cvs.length = 1
  · simp only [h, dif_pos]
    match vs, hl with
    | [v], _ =>
      have := h2 0 v rfl
      refine ⟨?_, h1 v (by simp)⟩
      have e : cvs.getD 0 undef = cvs[0]'(by omega) := by simp [List.getD, h]
      rw [← e]; exact this
    | [], hl => simp at hl; omega
    | _ :: _ :: _, hl => simp at hl; omega
  · simp only [h, dif_neg, not_false_eq_true]
    have ht : tuple vs = .tu vs := by
      match vs, hl with
      | [], _ => rfl
      | [v], hl => exact absurd hl.symm (by simpa using h)
      | _ :: _ :: _, _ => rfl
    rw [ht]
    refine ⟨.tu vs _ (by simp [hl]) h1 fun i x hx => ?_, rfl⟩
    have := h2 i x hx
    simpa [Array.getD_eq_getD_getElem?, List.getD_eq_getElem?_getD] using this

theorem entry {g : G} {hp : Hp} {w : World} {xs : List V} {cs : Array Value} (hr : HR g hp w) (ha : Args g xs cs) {ntm : Nat} (hn : xs.length ≤ ntm) :
    StR ⟨g, hp, w⟩ ntm [] g (fun _ => none) ⟨argT xs, fun _ => none, hp⟩ { tmps := cs ++ Array.replicate (ntm - cs.size) undef, defers := [] } w := by
  have hsz := ha.size
  refine ⟨by simp; omega, rfl, fun t => ?_, fun t d off x => ?_, ⟨hr, ⟨fun t cs x => by simp at x, fun t t' b _ h => by simp at h⟩, .refl _ _ _⟩⟩
  · simp only [argT]
    rcases Nat.lt_or_ge t xs.length with h | h
    · have hx : xs[t]? = some xs[t] := List.getElem?_eq_getElem h
      have e : xs.getD t .un = xs[t] := by simp [List.getD, hx]
      rw [e]
      have := ha.rep t _ hx
      have e2 : (cs ++ Array.replicate (ntm - cs.size) undef).getD t undef = cs.getD t undef := by
        simp only [Array.getD_eq_getD_getElem?]; rw [Array.getElem?_append_left (by omega)]
      simp only [e2]
      exact .ofA this
    · have e : xs.getD t .un = .un := by simp [List.getD, List.getElem?_eq_none h]
      rw [e]; exact RepA.un _
  · exfalso
    simp only [argT] at x
    rcases Nat.lt_or_ge t xs.length with h | h
    · have hx : xs[t]? = some xs[t] := List.getElem?_eq_getElem h
      have e : xs.getD t .un = xs[t] := by simp [List.getD, hx]
      rw [e] at x
      have := ha.lp _ (List.getElem_mem h)
      rw [x] at this; simp [isLp] at this
    · have e : xs.getD t .un = .un := by simp [List.getD, List.getElem?_eq_none h]
      rw [e] at x; cases x

theorem fn_ok (hcall : CallOK P call) (hm : P.follows .mixedOrders = true) (hkc : ∀ f, pol.mds f ≠ .rw → KeepC call f) {f : FuncId} {fn : Func} {d : DFn} (hf : P.funcs[f]? = some fn) (hname : fn.name ≠ "runtime.NumGoroutine") (hc : cFn P pol fn = some d) :
    RunOK P call L f d.den := by
  unfold cFn at hc
  split at hc
  · rename_i b ps rs res hbody hps hrs hres
    split at hc
    · rename_i hnt
      simp only [Option.map_eq_some_iff] at hc
      obtain ⟨c, hcc, rfl⟩ := hc
      intro xs cs g hp w hr ha
      have hent : Enters P f := ⟨fn, hf, hname, by rw [hbody]; rfl⟩
      unfold runF
      cases hlen : Nat.beq xs.length (DFn.den ⟨ps ++ List.replicate fn.nfree (.c .one), rs, pol.md, res, c⟩).ps.length with
      | false => trivial
      | true =>
        simp only [cond_true]
        have hxl : xs.length = fn.params.size + fn.nfree := by
          have h1 := Nat.eq_of_beq_eq_true hlen
          have h2 := allSome_len hps
          simp only [DFn.den, List.length_append, List.length_replicate] at h1
          simp at h2; omega
        generalize hrun : run call L (bodyD (DFn.den ⟨ps ++ List.replicate fn.nfree (.c .one), rs, pol.md, res, c⟩) xs hp) = r0
        by_cases hb : r0 = .bad
        · subst hb; trivial
        have main : ∀ R : Ending → World → Prop, (∀ v s g' w' cv, r0 = .ret ⟨fun _ => v, fun _ => none, s⟩ → HR g' s w' → Evo g hp w g' s w' → RepA g' v cv → isLp v = false → R (.returned cv) w') →
            (∀ v s g' w' cv, r0 = .pan v ⟨fun _ => .un, fun _ => none, s⟩ → HR g' s w' → Evo g hp w g' s w' → RepA g' v cv → isLp v = false → R (.panicked [{ v := cv, recovered := false }]) w') → Calls P f cs w R := by
          intro R hR1 hR2
          refine calls_of_wp hf hbody ?_
          have hst := entry hr ha (ntm := fn.ntmps) (by omega)
          have fin : ∀ st a w' g' ν', StR ⟨g, hp, w⟩ fn.ntmps [] g' ν' st a w' → run call L (resultsD st res fun vs => .done (.ret ⟨fun _ => tuple vs, fun _ => none, st.hp⟩)) = r0 →
              a.defers = [] ∧ ∃ v, (results fn a.tmps).run P w' = .ok v w' ∧ R (.returned v) w' := by
            intro st a w' g' ν' h1 h2
            obtain ⟨vs, cvs, q1, q2, q3, q4, q5⟩ := results_real h1 _ _ hres _ _ h2 hb
            obtain ⟨k1, k2⟩ := tuple_repA q2 q3 q4
            exact ⟨h1.defers, _, run_results q1, hR1 (tuple vs) st.hp g' w' _ (by simp only [run] at q5; exact q5.symm) h1.mem.hr h1.mem.evo k1 k2⟩
          refine code_ok (E := ⟨g, hp, w⟩) hcall hm hkc b c hcc _ _ w g _ _ r0 _ hst hrun hb ⟨rfl, fun st a w' g' ν' h1 h2 => fin st a w' g' ν' h1 h2, fun id st a w' g' ν' h1 h2 => ?_, fun st a w' g' ν' h1 h2 => fin st a w' g' ν' h1 h2, fun v s a w' cv h1 h2 h3 => ?_⟩
          · exact absurd h2.symm hb
          · obtain ⟨g', ν', m1, m2, m3⟩ := h2
            exact ⟨h1, hR2 v s.hp g' w' cv (by simp only [run] at h3; exact h3.symm) m1.hr m1.evo m2 m3⟩
        cases hr0 : r0 with
        | ret st =>
          refine ⟨hent, main _ (fun v s g' w' cv h1 h2 h3 h4 h5 => ?_) (fun v s g' w' cv h1 _ _ _ _ => ?_)⟩
          · rw [hr0] at h1; simp only [R.ret.injEq] at h1; subst h1
            exact ⟨cv, g', rfl, h2, h3, h4, h5⟩
          · rw [hr0] at h1; cases h1
        | pan v st =>
          refine ⟨hent, main _ (fun v s g' w' cv h1 _ _ _ _ => ?_) (fun v s g' w' cv h1 h2 h3 h4 h5 => ?_)⟩
          · rw [hr0] at h1; cases h1
          · rw [hr0] at h1; simp only [R.pan.injEq] at h1; obtain ⟨rfl, rfl⟩ := h1
            exact ⟨cv, g', rfl, h2, h3, h4, h5⟩
        | _ => trivial
    · cases hc
  · cases hc

/-- a function that was read off, or one whose runs were shown by hand -/
def FnOK (P : Program) (mds : Nat → Md) (f : Nat) (fn : Fn) : Prop :=
  fn.md = mds f ∧ ((∃ gf pol d, P.funcs[f]? = some gf ∧ gf.name ≠ "runtime.NumGoroutine" ∧ cFn P pol gf = some d ∧ d.den = fn ∧ pol.mds = mds) ∨ ∀ call L, CallOK P call → RunOK P call L f fn)

theorem FnOK.read {P : Program} {mds : Nat → Md} {f : Nat} {c : Fn} {gf : Func} {pol : Pol} (h1 : P.funcs[f]? = some gf) (h2 : (gf.name == "runtime.NumGoroutine") = false) {d : DFn} (h3 : cFn P pol gf = some d) (h6 : d.den = c) (h4 : pol.mds = mds) (h5 : c.md = mds f) : FnOK P mds f c :=
  ⟨h5, .inl ⟨gf, pol, d, h1, by simpa using h2, h3, h6, h4⟩⟩

/-- a table of functions -/
structure Table (P : Program) (F : Nat → Option Fn) (mds : Nat → Md) : Prop where
  mixed : P.follows .mixedOrders = true
  fns : ∀ f fn, F f = some fn → FnOK P mds f fn

theorem Table.run {F : Nat → Option Fn} {mds : Nat → Md} (T : Table P F mds) {call : Call} (hc : CallOK P call) (hk : ∀ f, mds f ≠ .rw → KeepC call f) {f : Nat} {fn : Fn} (hF : F f = some fn) : RunOK P call L f fn := by
  obtain ⟨h0, ⟨gf, pol, d, h1, h2, h3, rfl, h5⟩ | h⟩ := T.fns f fn hF
  · exact fn_ok hc T.mixed (fun f' hf' => hk f' (by rw [← h5]; exact hf')) h1 h2 h3
  · exact h call L hc

theorem callF_ok {F : Nat → Option Fn} {mds : Nat → Md} (T : Table P F mds) : ∀ n, CallOK P (callF F L n) ∧ ∀ f, mds f ≠ .rw → KeepC (callF F L n) f := by
  intro n
  induction n with
  | zero =>
    refine ⟨fun own f xs cs E g ν lo hp w _ _ => trivial, fun f _ own xs hp v hp' _ h => by simp [callF] at h⟩
  | succ n ih =>
    obtain ⟨ih1, ih2⟩ := ih
    refine ⟨fun own f xs cs E g ν lo hp w hm ha => ?_, fun f hmd own xs hp v hp' hn h => ?_⟩
    · simp only [callF]
      cases hF : F f with
      | none => trivial
      | some fn =>
        have hrun : RunOK P (callF F L n) L f fn := T.run ih1 ih2 hF
        simp only []
        cases fn.md with
        | pure => exact pure_ok hrun hm ha
        | ro => exact ro_ok hrun hm ha
        | rw => exact rw_ok hrun hm ha
    · simp only [callF] at h
      cases hF : F f with
      | none => simp [hF] at h
      | some fn =>
        have h6 := (T.fns f fn hF).1
        simp only [hF] at h
        rw [h6] at h
        cases hq : mds f with
        | pure => simp only [hq] at h; exact runP_keep hn h
        | ro => simp only [hq] at h; exact runR_keep h
        | rw => exact absurd hq hmd

/-- what a run of the table says of the program -/
theorem sound {F : Nat → Option Fn} {mds : Nat → Md} (T : Table P F mds) {n : Nat} {f : Nat} {fn : Fn} (hF : F f = some fn) {xs : List V} {cs : Array Value} {κ : K} {w : World} (hκ : ∀ b o v, κ b o = some v → w.cell? (ad b o) = some v)
    (ha : Args ⟨κ, fun _ => .unb⟩ xs cs) {v : V} {hp' : Hp} (hr : runF (callF F L n) L fn xs h0 = .ret v hp') :
    Calls P f cs w (EndR fun cv w' g' => HR g' hp' w' ∧ Evo ⟨κ, fun _ => .unb⟩ h0 w g' hp' w' ∧ RepA g' v cv ∧ isLp v = false) := by
  obtain ⟨ih1, ih2⟩ := callF_ok (L := L) T n
  have hrun : RunOK P (callF F L n) L f fn := T.run ih1 ih2 hF
  have := hrun xs cs _ h0 w (HR.empty hκ) ha
  rw [hr] at this
  exact this.2

end
end Ev

namespace Ev
open Go Go.ChangeShapes Go.WideShapes Go.ChangeAt Go.RowKit

/-- no slice of a type without cells -/
def fullB (P : Program) : Bool := (List.range P.types.size).all fun t => match P.underlying t with | some (.slice e) => decide (0 < P.cellsOf e) | _ => true

/-- all that is there is known -/
def kAll (W : World) : K := fun b o => W.cell? (ad b o)

/-- what was there is as it was -/
structure Kept (W W' : World) : Prop where
  os : W'.os = W.os
  out : W'.output = W.output
  size : W.heap.size ≤ W'.heap.size
  heap : ∀ b, b < W.heap.size → W'.heap[b]? = W.heap[b]?

theorem law_calls {P : Program} {F : Nat → Option Fn} {mds : Nat → Md} (T : Table P F mds) {L n f : Nat} {fn : Fn} (hF : F f = some fn) {xs : List V} {cs : Array Value} {W : World} (ha : Args ⟨kAll W, fun _ => .unb⟩ xs cs) {hp : Hp}
    (hr : runF (callF F L n) L fn xs h0 = .ret (.bo true) hp) : Calls P f cs W fun e W' => e = .returned (.bool true) ∧ Kept W W' := by
  refine Calls.mono (sound T hF (κ := kAll W) (fun b o v h => h) ha hr) fun e W' h => ?_
  obtain ⟨cv, g', rfl, _, ev, hv, _⟩ := h
  have := RepA.bo_inv hv
  subst this
  exact ⟨rfl, ev.wd.1.1, ev.wd.1.2, ev.size, fun b hb => ev.wd.2.2.1 b hb (fun o h => own_empty h) (fun ⟨_, q⟩ => by cases q)⟩

theorem Kept.kept {W W' : World} (h : Kept W W') (may : MemPlace → Prop) : W.keptBut W' may := by
  refine ⟨h.os, h.out, fun i hi => ?_⟩
  rw [h.heap i hi]
  cases e : W.heap[i]? with
  | none => rfl
  | some o => cases o <;> first | exact ⟨rfl, rfl, rfl, fun _ _ => rfl⟩ | exact .inr ⟨rfl, rfl⟩ | rfl

theorem Kept.same {W W' : World} (h : Kept W W') {p : MemPlace} (hp : p.block < W.heap.size) : W.sameAt W' p := by
  cases p with
  | cell b off => simp only [World.sameAt, World.cell?]; rw [h.heap b hp]
  | map b => exact h.heap b hp

theorem Kept.frozen {W W' : World} (h : Kept W W') {b off : Nat} (hb : b < W.heap.size) : W'.frozen? ⟨b, off, none⟩ = W.frozen? ⟨b, off, none⟩ := by
  simp only [World.frozen?]; rw [h.heap b hb]

section
variable {H : Type} {enc : TypeId × Value → H} {P : Program}

theorem TrodAll.kept {W W' : World} (h : Kept W W') {base : Nat} {sp : Nat → Bool} {held : Bool} : ∀ {ts : List TypeId} {vs : List Value} {ds : List (DataW H)} {ps : List MemPlace}, DataW.TrodAll enc P W base sp held ts vs ds ps → DataW.TrodAll enc P W' base sp held ts vs ds ps
  | [], [], [], _, x => x
  | t :: ts, v :: vs, d :: ds, _, ⟨p, q, ⟨n, h1⟩, h2, e⟩ => ⟨p, q, ⟨n, DataW.trod_carry n _ _ _ h1 fun x hx => h.same (DataW.trod_lt n _ _ _ h1 x hx)⟩, TrodAll.kept h h2, e⟩
  | [], [], _ :: _, _, x => by cases x
  | [], _ :: _, _, _, x => by cases x
  | _ :: _, [], _, _, x => by cases x
  | _ :: _, _ :: _, [], _, x => by cases x

/-- the law's end: true; each argument reads as it did -/
theorem post_kept {f : Func} {s : ChangeSpec} {apart fresh handsOn again : Bool} {W W' : World} {args : Array Value} {ds gs : List (DataW H)} {before : List MemPlace} {tb : TypeId}
    (hW : DataW.Whole enc P f.params.toList s.vars apart W args.toList ds gs before) (hvars : s.vars = []) (hfn : s.fn H (ds ++ gs) = { results := [.lit (.bool true)], args := ds }) (hrt : f.resultTypes = #[tb]) (htb : P.underlying tb = some .bool)
    (hlo : laidOutB P = true) (hmr : mapsRowed P = true) (hz : fullB P = true) (hpt : ∀ t, t ∈ f.params.toList → t < P.types.size) (hk : Kept W W') : s.post enc P f apart fresh handsOn again W args (.bool true) W' := by
  have hlt := hW.lt
  have hW' := hW
  obtain ⟨p, q, hA, hV, hps, hfz, hnd⟩ := hW
  rw [hvars] at hV
  obtain ⟨hgs, hq⟩ := trodVars_none hV
  subst hq
  rw [List.append_nil] at hps
  subst hps
  have hA' : ∀ sp : Nat → Bool, (∀ x ∈ before, sp x.block = true) → DataW.TrodAll enc P W' 0 sp true f.params.toList args.toList ds before := fun sp hsp =>
    DataW.TrodAll.respare (kids_rows hlo hmr) (slices_full_of P (by exact hz)) hpt (TrodAll.kept hk hA) hsp
  have hres : ∀ (b : Nat) (sp : Nat → Bool) (hd : Bool), DataW.TrodAll enc P W' b sp hd f.resultTypes.toList ((Value.bool true).resultList f.resultTypes.size) (s.fn H (ds ++ gs)).results [] := by
    intro b sp hd
    rw [hfn, hrt]
    exact trodAll_cons_mk (shut_bool htb _) trodAll_mk0
  have hvv : ∀ sp, DataW.TrodVars enc P W' sp s.vars (s.fn H (ds ++ gs)).vars [] := by
    intro sp; rw [hvars, hfn]; rfl
  have hold : ∀ x ∈ before, (fun b => decide (b < W.heap.size)) x.block = true := fun x hx => by simpa using hlt x hx
  refine ⟨ds, gs, before, [], before, [], hW', hres _ _ _, by rw [hfn]; exact hA' _ hold, hvv _, World.keptBut_mono (fun x hx => ⟨hx, .inr (.inl hx)⟩) (hk.kept _), fun _ => ?_⟩
  refine ⟨?_, _, _, ([] ++ before) ++ [], ⟨[] ++ before, [], trodAll_append (hA' _ (fun _ _ => rfl)) (hres _ _ _), hvv _, rfl, ?_, ?_⟩, ?_⟩
  · exact ok_one hrt rfl (okWide_bool_mk htb true)
  · intro b off hp
    have hp' : MemPlace.cell b off ∈ before := by simpa using hp
    rw [hk.frozen (show b < W.heap.size from hlt _ hp')]
    exact hfz b off hp'
  · intro ha
    simpa using hnd ha
  · intro x hx _
    simpa using hx
end
/-- a run answers yes -/
def yes : CR → Bool
  | .ret (.bo b) _ => b
  | _ => false

theorem yes_ret {r : CR} (h : yes r = true) : ∃ hp, r = .ret (.bo true) hp := by
  unfold yes at h
  split at h
  · subst h; exact ⟨_, rfl⟩
  · cases h
end Ev
