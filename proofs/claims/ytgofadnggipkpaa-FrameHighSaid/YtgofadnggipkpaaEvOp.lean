import Derived.Test.YtgofadnggipkpaaEvCall3
namespace Ev
open Go

theorem force_eq {α : Type} (k : V → α) (v : V) : force k v = k v := by
  cases v with
  | bo x => cases x <;> rfl
  | _ => rfl
theorem forceL_eq {α : Type} : ∀ (l : List V) (k : List V → α), forceL k l = k l
  | [], _ => rfl
  | v :: r, k => by simp only [forceL]; rw [force_eq, forceL_eq r]

/-- a value that a panic bears -/
structure PanA (E : Ent) (g : G) (ν : Nat → Option Nat) (st s : St) (v : V) (cv : Value) (w' : World) (g' : G) : Prop where
  mem : MemR E g' ν s.lo s.hp w'
  le : GLe g g'
  val : RepA g' v cv
  lp : isLp v = false

theorem run_callFunc {P : Program} {w : World} {f : FuncId} {args : Array Value} (h : Enters P f) : (callFunc f args).run P w = .ok (.enter f args) w := by
  obtain ⟨fn, h1, h2, h3⟩ := h
  obtain ⟨b, hb⟩ := Option.isSome_iff_exists.1 h3
  simp [callFunc, h1, h2, hb]

theorem args_of {g : G} {ν : Nat → Option Nat} {tm : Tm} {a : Act} (ht : ∀ t, RepT g ν (tm t) (a.tmps.getD t undef)) {ops : Array Operand} {as : List A} (ha : allSome cA ops.toList = some as) (hl : (as.map (get tm)).any isLp = false) :
    Args g (as.map (get tm)) (ops.map a.eval) := by
  have hall : ∀ x, x ∈ as.map (get tm) → isLp x = false := fun x hx => by
    have := List.any_eq_false.1 hl x hx; simpa using this
  refine ⟨by have := allSome_len ha; simp at this ⊢; omega, hall, fun i x hx => ?_⟩
  have hm := hall x (List.mem_of_getElem? hx)
  rw [List.getElem?_map] at hx
  cases hq : as[i]? with
  | none => simp [hq] at hx
  | some q =>
    simp only [hq, Option.map_some, Option.some.injEq] at hx; subst hx
    obtain ⟨y, hy, hcy⟩ := allSome_get ha i q hq
    have : (ops.map a.eval).getD i undef = a.eval y := by
      simp only [Array.getElem?_toList] at hy
      simp [Array.getD_eq_getD_getElem?, hy]
    rw [this]; exact (cA_rep hcy ht).toA hm

theorem Args.append {g : G} {xs ys : List V} {a b : Array Value} (h : Args g xs a) (h' : Args g ys b) : Args g (xs ++ ys) (a ++ b) := by
  refine ⟨by simp [h.size, h'.size], fun x hx => (List.mem_append.1 hx).elim (h.lp x) (h'.lp x), fun i x hx => ?_⟩
  by_cases hi : i < xs.length
  · rw [List.getElem?_append_left hi] at hx
    have : (a ++ b).getD i undef = a.getD i undef := by
      rw [Array.getD_eq_getD_getElem?, Array.getElem?_append_left (by rw [h.size]; exact hi), Array.getD_eq_getD_getElem?]
    rw [this]; exact h.rep i x hx
  · rw [List.getElem?_append_right (by omega)] at hx
    have : (a ++ b).getD i undef = b.getD (i - xs.length) undef := by
      rw [Array.getD_eq_getD_getElem?, Array.getElem?_append_right (by rw [h.size]; omega), h.size, Array.getD_eq_getD_getElem?]
    rw [this]; exact h'.rep _ x hx

section
variable {e : Env}

/-- a call in a function -/
theorem callD_ok (h : e.St) (hcall : CallOK e.P e.call) {own : Bool} {f : FuncId} {vs : List V} {cs : Array Value} (ha : vs.any isLp = false → Args e.g vs cs) (hx : Enters e.P f → (execOp e.a.eval e.o).run e.P e.w = .ok (.enter f cs) e.w)
    {k kp : V → St → D} {r0 : R} (hrun : run e.call e.L (callD own f vs e.st k kp) = r0) (hb : r0 ≠ .bad) {next : Act → World → Prop} {Q : Exit → Act → World → Prop}
    (hk : ∀ v s cv w' g' ν', run e.call e.L (k v s) = r0 → After e.E e.clr e.dst e.g e.ν e.st v s cv w' g' ν' → next (e.a.put e.o.dst cv) w')
    (hp : ∀ v s cv w' g', run e.call e.L (kp v s) = r0 → PanA e.E e.g e.ν e.st s v cv w' g' → Q (.panic [{ v := cv, recovered := false }]) e.a w') : e.o.wp e.P e.a e.w next Q := by
  unfold callD at hrun
  cases hl : vs.any isLp with
  | true => simp only [hl, cond_true, run] at hrun; exact absurd hrun.symm hb
  | false =>
    simp only [hl, cond_false, run, forceL_eq] at hrun
    have hok := hcall own f vs cs e.E e.g e.ν e.st.lo e.st.hp e.w h.mem (ha hl)
    cases hc : e.call own f vs e.st.hp with
    | bad => simp only [hc, run] at hrun; exact absurd hrun.symm hb
    | ret v hp' =>
      simp only [hc] at hrun hok
      unfold Oper.wp
      rw [hx hok.1, Oper.upon_enter]
      refine Calls.mono hok.2 fun en w' x => ?_
      obtain ⟨cv, g', rfl, h1, h2, h3, h4⟩ := x
      exact hk v (e.st.setHp hp') cv w' g' e.ν hrun ⟨rfl, h1, h2, .inl rfl, .ofA h3, fun _ _ _ _ q => by subst q; simp [isLp] at h4⟩
    | pan v hp' =>
      simp only [hc] at hrun hok
      unfold Oper.wp
      rw [hx hok.1, Oper.upon_enter]
      refine Calls.mono hok.2 fun en w' x => ?_
      obtain ⟨cv, g', rfl, h1, h2, h3, h4⟩ := x
      exact hp v (e.st.setHp hp') cv w' g' hrun ⟨h1, h2, h3, h4⟩

/-- an operation does what its instruction says -/
theorem op_ok (h : e.St) (hcall : CallOK e.P e.call) {pol : Pol} {i : I} {d : Nat} {us : List Nat} (hi : cIns e.P pol e.o = some i) (hde : e.dst = e.o.dst) (hd : ∀ d', e.dst = some d' → d' = d) (hus : i.boxes = true → ∀ t, hasN e.clr t = true → t ∈ us)
    {k kp : V → St → D} {r0 : R} (hrun : run e.call e.L (i.den us e.clr d e.st k kp) = r0) (hb : r0 ≠ .bad) {next : Act → World → Prop} {Q : Exit → Act → World → Prop}
    (hk : ∀ v s cv w' g' ν', run e.call e.L (k v s) = r0 → After e.E e.clr e.dst e.g e.ν e.st v s cv w' g' ν' → next (e.a.put e.o.dst cv) w')
    (hp : ∀ v s cv w' g', run e.call e.L (kp v s) = r0 → PanA e.E e.g e.ν e.st s v cv w' g' → Q (.panic [{ v := cv, recovered := false }]) e.a w') : e.o.wp e.P e.a e.w next Q := by
  by_cases hnc : i.calls = false
  · rcases ins_ok h (us := us) hi hnc hde hd hus with hbad | ⟨v, s, cv, w', g', ν', ho, hf, ha⟩
    · rw [hbad] at hrun; exact absurd hrun.symm hb
    · have := hk v s cv w' g' ν' ((ho k kp).symm.trans hrun) ha
      unfold Oper.wp
      cases hf with
      | value _ _ hf => rw [hf]; exact this
      | skip _ hf => rw [hf]; exact this
  · unfold cIns at hi
    cases ho : e.o.op <;> simp only [ho, reduceCtorEq] at hi
    case panic x =>
      cases hx : cA x <;> simp only [hx, Option.map_none, Option.map_some, reduceCtorEq, Option.some.injEq] at hi
      subst hi
      rename_i xa
      have hr := h.rep hx
      simp only [I.den, iPan] at hrun
      cases hg : get e.st.tm xa with
      | fc t v =>
        rw [hg] at hr
        simp only [hg] at hrun
        obtain ⟨cv, hcv, _, _⟩ := RepA.fc_inv hr
        unfold Oper.wp
        have : (execOp e.a.eval e.o).run e.P e.w = .halt (.panic (.iface t cv)) e.w := by simp [execOp, ho, hcv, Instr.panic]
        rw [this, Oper.upon_panic]
        exact hp (.fc t v) e.st _ e.w e.g hrun ⟨h.mem, GLe.refl _, by rw [hcv] at hr; exact hr, rfl⟩
      | _ => simp only [hg, run] at hrun; exact absurd hrun.symm hb
    case call c =>
      split at hi
      · rename_i f xs hcal ha
        split at hi
        · exfalso
          split at hi
          · simp only [Option.some.injEq] at hi; subst hi; exact hnc rfl
          · cases hi
        simp only [Option.some.injEq] at hi; subst hi
        refine callD_ok h hcall (fun hl => args_of h.tm ha hl) (fun hen => ?_) hrun hb hk hp
        simp only [execOp, ho, resolve, hcal, Deferred.ofValue, Sem.run_bind, Act.eval, Sem.run_pure, Result.andThen_ok, invoke]
        simp [run_callFunc hen]
      · rename_i fx xs _ hcal ha
        cases hf : cA fx <;> simp only [hf, Option.map_none, Option.map_some, reduceCtorEq, Option.some.injEq] at hi
        subst hi
        rename_i fa
        have hr := h.rep hf
        simp only [I.den, iClv] at hrun
        cases hg : get e.st.tm fa with
        | fn f first cap =>
          rw [hg] at hr
          simp only [hg] at hrun
          cases hgf : goodF (bif pol.fns.all (fun g => notRw (pol.mds g)) then pol.fns else []) f with
          | false => simp only [hgf, cond_false, run] at hrun; exact absurd hrun.symm hb
          | true =>
          simp only [hgf, cond_true] at hrun
          obtain ⟨a1, a2, hcv, n1, n2, l1, l2, r1, r2⟩ := RepA.fn_inv hr
          refine callD_ok h hcall (cs := a1 ++ c.args.map e.a.eval ++ a2) (fun hl => ?_) (fun hen => ?_) hrun hb hk hp
          · have hl' : (xs.map (get e.st.tm)).any isLp = false := by
              rw [List.any_append, List.any_append, Bool.or_eq_false_iff, Bool.or_eq_false_iff] at hl
              exact hl.1.2
            exact (Args.append (Args.append ⟨n1, l1, r1⟩ (args_of h.tm ha hl')) ⟨n2, l2, r2⟩)
          · simp only [execOp, ho, resolve, hcal, hcv, Deferred.ofValue, Sem.run_bind, Sem.run_pure, Result.andThen_ok, invoke]
            simp [run_callFunc hen]
        | _ => simp only [hg, run] at hrun; exact absurd hrun.symm hb
      · rename_i b xs hcal ha
        exfalso
        apply hnc
        clear hk hp hrun hcall
        repeat' (split at hi)
        all_goals first | (simp only [Option.some.injEq] at hi; subst hi; rfl) | cases hi
      · cases hi
    case' makeFunc f first cap => cases f <;> simp only [reduceCtorEq] at hi
    case' makeMap t hint => cases hint <;> simp only [reduceCtorEq] at hi
    case' slice t x lo hh mx => cases mx <;> simp only [reduceCtorEq] at hi
    all_goals
      exfalso
      apply hnc
      clear hk hp hrun hcall
      revert hi
      repeat' split
      all_goals intro hi
      all_goals first | (simp only [Option.some.injEq] at hi; subst hi; rfl) | (simp only [reduceCtorEq] at hi; done) | (simp only [Option.map_eq_some_iff] at hi; obtain ⟨_, _, rfl⟩ := hi; rfl) | skip
end
end Ev
