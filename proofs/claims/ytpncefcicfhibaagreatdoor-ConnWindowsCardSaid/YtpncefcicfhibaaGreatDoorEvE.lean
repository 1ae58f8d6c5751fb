import Derived.Test.YtpncefcicfhibaaGreatDoorEvD
import Derived.ChangeSame
import Derived.ReadAgain
import Derived.OpenShut
import Derived.ProofKit
import Derived.JoinedCond
import Derived.WalkKit
import Derived.ChangeArms
set_option linter.unusedVariables false
set_option linter.unusedSimpArgs false
set_option linter.unusedSectionVars false
set_option linter.constructorNameAsVariable false
namespace Ev
variable [Glob]
open Go
section
variable {P : Program} {pol : Pol} {call : Call} {L : Nat}
theorem tuple_repA {g : G} {vs : List V} {cvs : List Value} (hl : vs.length = cvs.length) (h1 : ∀ x, x ∈ vs → isLp x = false) (h2 : ∀ (i : Nat) (v : V), vs[i]? = some v → RepA g v (cvs.getD i undef)) :
    RepA g (tuple vs) (if h : cvs.length = 1 then cvs[0]'(by omega) else .tuple cvs.toArray) ∧ isLp (tuple vs) = false := by
  by_cases h : cvs.length = 1
  · simp only [h, dif_pos]
    match vs, hl with
    | [v], _ =>
      have := h2 0 v rfl
      refine ⟨?_, h1 v (by simp)⟩
      have e : cvs.getD 0 undef = cvs[0]'(by omega) := by simp [List.getD, h]
      rw [← e]; exact this
    | [], hl => simp at hl; omega
    | _ :: _ :: _, hl => simp at hl; omega
  · simp only [h, dif_neg, not_false_eq_true]
    have ht : tuple vs = .tu vs := by
      match vs, hl with
      | [], _ => rfl
      | [v], hl => exact absurd hl.symm (by simpa using h)
      | _ :: _ :: _, _ => rfl
    rw [ht]
    refine ⟨.tu vs _ (by simp [hl]) h1 fun i x hx => ?_, rfl⟩
    have := h2 i x hx
    simpa [Array.getD_eq_getD_getElem?, List.getD_eq_getElem?_getD] using this
theorem entry {g : G} {hp : Hp} {w : World} {xs : List V} {cs : Array Value} (hgl : GlobW g hp w) (hr : HR g hp w) (ha : Args g xs cs) {ntm : Nat} (hn : xs.length ≤ ntm) :
    StR ⟨g, hp, w, hgl⟩ ntm [] g (fun _ => none) ⟨argT xs, fun _ => none, hp⟩ { tmps := cs ++ Array.replicate (ntm - cs.size) undef, defers := [] } w := by
  have hsz := ha.size
  refine ⟨by simp; omega, rfl, fun t => ?_, fun t d off x => ?_, ⟨hr, ⟨fun t cs b x _ => by simp at x, fun t t' b _ h => by simp at h⟩, .refl _ _ _⟩⟩
  · simp only [argT]
    rcases Nat.lt_or_ge t xs.length with h | h
    · have hx : xs[t]? = some xs[t] := List.getElem?_eq_getElem h
      have e : xs.getD t .un = xs[t] := by simp [List.getD, hx]
      rw [e]
      have := ha.rep t _ hx
      have e2 : (cs ++ Array.replicate (ntm - cs.size) undef).getD t undef = cs.getD t undef := by
        simp only [Array.getD_eq_getD_getElem?]; rw [Array.getElem?_append_left (by omega)]
      simp only [e2]
      exact .ofA this
    · have e : xs.getD t .un = .un := by simp [List.getD, List.getElem?_eq_none h]
      rw [e]; exact RepA.un _
  · exfalso
    simp only [argT] at x
    rcases Nat.lt_or_ge t xs.length with h | h
    · have hx : xs[t]? = some xs[t] := List.getElem?_eq_getElem h
      have e : xs.getD t .un = xs[t] := by simp [List.getD, hx]
      rw [e] at x
      have := ha.lp _ (List.getElem_mem h)
      rw [x] at this; simp [isLp] at this
    · have e : xs.getD t .un = .un := by simp [List.getD, List.getElem?_eq_none h]
      rw [e] at x; cases x
theorem fn_ok (hcall : CallOK P call) (hm : P.follows .mixedOrders = true) (hkc : ∀ f, pol.mds f ≠ .rw → KeepC call f) (hfl : ∀ f, pol.mds f = .pure → FlatC call f) {f : FuncId} {fn : Func} {d : DFn} (hf : P.funcs[f]? = some fn) (hname : fn.name ≠ "runtime.NumGoroutine") (hc : cFn P pol fn = some d) :
    RunOK P call L f d.den := by
  unfold cFn at hc
  split at hc
  · rename_i b ps rs res hbody hps hrs hres
    split at hc
    · rename_i hnt
      simp only [Option.map_eq_some_iff] at hc
      obtain ⟨c, hcc, rfl⟩ := hc
      intro xs cs g hp w hgl hr ha
      have hent : Enters P f := ⟨fn, hf, hname, by rw [hbody]; rfl⟩
      unfold runF
      cases hlen : Nat.beq xs.length (DFn.den ⟨ps ++ List.replicate fn.nfree (.c .one), rs, pol.md, res, c⟩).ps.length with
      | false => trivial
      | true =>
        simp only [cond_true]
        have hxl : xs.length = fn.params.size + fn.nfree := by
          have h1 := Nat.eq_of_beq_eq_true hlen
          have h2 := allSome_len hps
          simp only [DFn.den, List.length_append, List.length_replicate] at h1
          simp at h2; omega
        generalize hrun : run call L (bodyD (DFn.den ⟨ps ++ List.replicate fn.nfree (.c .one), rs, pol.md, res, c⟩) xs hp) = r0
        by_cases hb : r0 = .bad
        · subst hb; trivial
        have main : ∀ R : Ending → World → Prop, (∀ v s g' w' cv, r0 = .ret ⟨fun _ => v, fun _ => none, s⟩ → HR g' s w' → Evo g hp w g' s w' → RepA g' v cv → isLp v = false → R (.returned cv) w') →
            (∀ v s g' w' cv, r0 = .pan v ⟨fun _ => .un, fun _ => none, s⟩ → HR g' s w' → Evo g hp w g' s w' → RepA g' v cv → isLp v = false → R (.panicked [{ v := cv, recovered := false }]) w') → Calls P f cs w R := by
          intro R hR1 hR2
          refine calls_of_wp hf hbody ?_
          have hst := entry hgl hr ha (ntm := fn.ntmps) (by omega)
          have fin : ∀ st a w' g' ν', StR ⟨g, hp, w, hgl⟩ fn.ntmps [] g' ν' st a w' → run call L (resultsD st res fun vs => .done (.ret ⟨fun _ => tuple vs, fun _ => none, st.hp⟩)) = r0 →
              a.defers = [] ∧ ∃ v, (results fn a.tmps).run P w' = .ok v w' ∧ R (.returned v) w' := by
            intro st a w' g' ν' h1 h2
            obtain ⟨vs, cvs, q1, q2, q3, q4, q5⟩ := results_real h1 _ _ hres _ _ h2 hb
            obtain ⟨k1, k2⟩ := tuple_repA q2 q3 q4
            exact ⟨h1.defers, _, run_results q1, hR1 (tuple vs) st.hp g' w' _ (by simp only [run] at q5; exact q5.symm) h1.mem.hr h1.mem.evo k1 k2⟩
          refine code_ok (E := ⟨g, hp, w, hgl⟩) hcall hm hkc hfl b c hcc _ _ w g _ _ r0 _ hst hrun hb ⟨rfl, fun st a w' g' ν' h1 h2 => fin st a w' g' ν' h1 h2, fun id st a w' g' ν' h1 h2 => ?_, fun st a w' g' ν' h1 h2 => fin st a w' g' ν' h1 h2, fun v s a w' cv h1 h2 h3 => ?_⟩
          · exact absurd h2.symm hb
          · obtain ⟨g', ν', m1, m2, m3⟩ := h2
            exact ⟨h1, hR2 v s.hp g' w' cv (by simp only [run] at h3; exact h3.symm) m1.hr m1.evo m2 m3⟩
        cases hr0 : r0 with
        | ret st =>
          refine ⟨hent, main _ (fun v s g' w' cv h1 h2 h3 h4 h5 => ?_) (fun v s g' w' cv h1 _ _ _ _ => ?_)⟩
          · rw [hr0] at h1; simp only [R.ret.injEq] at h1; subst h1
            exact ⟨cv, g', rfl, h2, h3, h4, h5⟩
          · rw [hr0] at h1; cases h1
        | pan v st =>
          refine ⟨hent, main _ (fun v s g' w' cv h1 _ _ _ _ => ?_) (fun v s g' w' cv h1 h2 h3 h4 h5 => ?_)⟩
          · rw [hr0] at h1; cases h1
          · rw [hr0] at h1; simp only [R.pan.injEq] at h1; obtain ⟨rfl, rfl⟩ := h1
            exact ⟨cv, g', rfl, h2, h3, h4, h5⟩
        | _ => trivial
    · cases hc
  · cases hc
def FnOK (P : Program) (mds : Nat → Md) (f : Nat) (fn : Fn) : Prop :=
  fn.md = mds f ∧ ((∃ gf pol d, P.funcs[f]? = some gf ∧ gf.name ≠ "runtime.NumGoroutine" ∧ cFn P pol gf = some d ∧ d.den = fn ∧ pol.mds = mds) ∨ ∀ call L, CallOK P call → RunOK P call L f fn)
theorem FnOK.read {P : Program} {mds : Nat → Md} {f : Nat} {c : Fn} {gf : Func} {pol : Pol} (h1 : P.funcs[f]? = some gf) (h2 : (gf.name == "runtime.NumGoroutine") = false) {d : DFn} (h3 : cFn P pol gf = some d) (h6 : d.den = c) (h4 : pol.mds = mds) (h5 : c.md = mds f) : FnOK P mds f c :=
  ⟨h5, .inl ⟨gf, pol, d, h1, by simpa using h2, h3, h6, h4⟩⟩
theorem closeC_flat {n : Nat} {t : Ty} {v x : V} {hp h' : Hp} (hv : flatC v = true) (h : closeC n t v hp = some (x, h')) : h' = hp ∧ ∀ hp2, closeC n t v hp2 = some (x, hp2) := by
  cases n with
  | zero => unfold closeC at h; cases h
  | succ n =>
    cases t with
    | one =>
      cases v <;> simp only [flatC, Bool.false_eq_true, reduceCtorEq] at hv <;> simp only [closeC, Option.some.injEq, Prod.mk.injEq, reduceCtorEq] at h <;> (obtain ⟨rfl, rfl⟩ := h; exact ⟨rfl, fun _ => by simp only [closeC]⟩)
    | sl cs =>
      cases v <;> simp only [flatC, Bool.false_eq_true, reduceCtorEq] at hv <;> simp only [closeC, Option.some.injEq, Prod.mk.injEq, reduceCtorEq] at h
      case ns => obtain ⟨rfl, rfl⟩ := h; exact ⟨rfl, fun _ => by simp only [closeC]⟩
      case vs sz es =>
        cases hb : Nat.beq sz cs.length with
        | false => simp only [hb, cond_false, reduceCtorEq] at h
        | true =>
          simp only [hb, cond_true, Option.some.injEq, Prod.mk.injEq] at h
          obtain ⟨rfl, rfl⟩ := h
          exact ⟨rfl, fun _ => by simp only [closeC, hb, cond_true]⟩
theorem closeCs_flat : ∀ {n : Nat} {ts : List Ty} {vs xs : List V} {hp h' : Hp}, vs.all flatC = true → closeCs n ts vs hp = some (xs, h') → h' = hp ∧ ∀ hp2, closeCs n ts vs hp2 = some (xs, hp2) := by
  intro n
  induction n with
  | zero => intro ts vs xs hp h' _ h; unfold closeCs at h; cases h
  | succ n ih =>
    intro ts vs xs hp h' hv h
    cases ts with
    | nil =>
      cases vs with
      | nil => simp only [closeCs, Option.some.injEq, Prod.mk.injEq] at h; obtain ⟨rfl, rfl⟩ := h; exact ⟨rfl, fun _ => by simp only [closeCs]⟩
      | cons v vs => simp [closeCs] at h
    | cons t ts =>
      cases vs with
      | nil => simp [closeCs] at h
      | cons v vs =>
        simp only [List.all_cons, Bool.and_eq_true] at hv
        simp only [closeCs] at h
        cases hc : closeC n t v hp with
        | none => simp [hc] at h
        | some q =>
          obtain ⟨x, h1⟩ := q
          obtain ⟨rfl, e⟩ := closeC_flat hv.1 hc
          simp only [hc] at h
          cases hd : closeCs n ts vs h1 with
          | none => simp [hd] at h
          | some q =>
            obtain ⟨y, h2⟩ := q
            obtain ⟨rfl, e2⟩ := ih hv.2 hd
            simp only [hd, Option.some.injEq, Prod.mk.injEq] at h
            obtain ⟨rfl, rfl⟩ := h
            exact ⟨rfl, fun hp2 => by simp only [closeCs, e hp2, e2 hp2]⟩
theorem closeP_flat {t : PT} {v x : V} {hp h' : Hp} (hv : flatV v = true) (h : closeP t v hp = some (x, h')) : h' = hp ∧ ∀ hp2, closeP t v hp2 = some (x, hp2) := by
  cases t with
  | c t =>
    have hf : flatC v = true := by
      cases v <;> first | exact hv | (unfold closeP at h; unfold depth at h; cases t <;> simp [closeC] at h)
    obtain ⟨e1, e2⟩ := closeC_flat (n := depth) (t := t) hf (by unfold closeP at h; exact h)
    exact ⟨e1, fun hp2 => by unfold closeP; exact e2 hp2⟩
  | g ts =>
    cases v <;> try (simp [closeP] at h; done)
    rename_i cs
    simp only [closeP] at h
    cases hc : closeCs depth ts cs hp with
    | none => simp [hc] at h
    | some q =>
      obtain ⟨y, h1⟩ := q
      obtain ⟨rfl, e⟩ := closeCs_flat hv hc
      simp only [hc, Option.some.injEq, Prod.mk.injEq] at h
      obtain ⟨rfl, rfl⟩ := h
      exact ⟨rfl, fun hp2 => by simp only [closeP, e hp2]⟩
theorem closeAll_flat : ∀ {ts : List PT} {vs xs : List V} {hp h' : Hp}, vs.all flatV = true → closeAll ts vs hp = some (xs, h') → h' = hp ∧ ∀ hp2, closeAll ts vs hp2 = some (xs, hp2) := by
  intro ts
  induction ts with
  | nil =>
    intro vs xs hp h' _ h
    cases vs with
    | nil => simp only [closeAll, Option.some.injEq, Prod.mk.injEq] at h; obtain ⟨rfl, rfl⟩ := h; exact ⟨rfl, fun _ => by simp only [closeAll]⟩
    | cons v vs => simp [closeAll] at h
  | cons t ts ih =>
    intro vs xs hp h' hv h
    cases vs with
    | nil => simp [closeAll] at h
    | cons v vs =>
      simp only [List.all_cons, Bool.and_eq_true] at hv
      simp only [closeAll] at h
      cases hc : closeP t v hp with
      | none => simp [hc] at h
      | some q =>
        obtain ⟨x, h1⟩ := q
        obtain ⟨rfl, e⟩ := closeP_flat hv.1 hc
        simp only [hc] at h
        cases hd : closeAll ts vs h1 with
        | none => simp [hd] at h
        | some q =>
          obtain ⟨y, h2⟩ := q
          obtain ⟨rfl, e2⟩ := ih hv.2 hd
          simp only [hd, Option.some.injEq, Prod.mk.injEq] at h
          obtain ⟨rfl, rfl⟩ := h
          exact ⟨rfl, fun hp2 => by simp only [closeAll, e hp2, e2 hp2]⟩
theorem back_false {fn : Fn} {hp h : Hp} {v : V} : back false fn hp (.ret v h) = match closeAll fn.rs (untuple fn.rs.length v) h with
    | some (xs, _) => .ret (tuple xs) hp
    | none => .bad := rfl
theorem runP_flat {call : Call} {fn : Fn} {xs : List V} {v : V} {h' hp : Hp} (hx : xs.all flatV = true) (h : runP false call L fn xs h0 = .ret v h') : runP false call L fn xs hp = .ret v hp := by
  unfold runP at h ⊢
  cases hc : closeAll fn.ps xs h0 with
  | none => simp [hc] at h
  | some q =>
    obtain ⟨ys, h1⟩ := q
    obtain ⟨rfl, e⟩ := closeAll_flat hx hc
    simp only [hc] at h
    simp only [e hp]
    cases hr : runF call L fn ys h0 with
    | bad => rw [hr] at h; simp [back] at h
    | pan v h1 => rw [hr] at h; simp [back] at h
    | ret u h2 =>
      rw [hr, back_false] at h
      rw [back_false]
      cases hd : closeAll fn.rs (untuple fn.rs.length u) h2 with
      | none => simp [hd] at h
      | some q =>
        simp only [hd, CR.ret.injEq] at h ⊢
        exact ⟨h.1, trivial⟩
structure Table (P : Program) (F : Nat → Option Fn) (mds : Nat → Md) : Prop where
  mixed : P.follows .mixedOrders = true
  fns : ∀ f fn, F f = some fn → FnOK P mds f fn
theorem Table.run {F : Nat → Option Fn} {mds : Nat → Md} (T : Table P F mds) {call : Call} (hc : CallOK P call) (hk : ∀ f, mds f ≠ .rw → KeepC call f) (hl : ∀ f, mds f = .pure → FlatC call f) {f : Nat} {fn : Fn} (hF : F f = some fn) : RunOK P call L f fn := by
  obtain ⟨h0, ⟨gf, pol, d, h1, h2, h3, rfl, h5⟩ | h⟩ := T.fns f fn hF
  · exact fn_ok hc T.mixed (fun f' hf' => hk f' (by rw [← h5]; exact hf')) (fun f' hf' => hl f' (by rw [← h5]; exact hf')) h1 h2 h3
  · exact h call L hc
theorem callF_ok {F : Nat → Option Fn} {mds : Nat → Md} (T : Table P F mds) : ∀ n, CallOK P (callF F L n) ∧ (∀ f, mds f ≠ .rw → KeepC (callF F L n) f) ∧ ∀ f, mds f = .pure → FlatC (callF F L n) f := by
  intro n
  induction n with
  | zero =>
    refine ⟨fun own f xs cs E g ν lo hp w _ _ => trivial, fun f _ own xs hp v hp' _ h => by simp [callF] at h, fun f _ xs hp v h' _ h => by simp [callF] at h⟩
  | succ n ih =>
    obtain ⟨ih1, ih2, ih3⟩ := ih
    refine ⟨fun own f xs cs E g ν lo hp w hm ha => ?_, fun f hmd own xs hp v hp' hn h => ?_, fun f hmd xs hp v h' hx h => ?_⟩
    · simp only [callF]
      cases hF : F f with
      | none => trivial
      | some fn =>
        have hrun : RunOK P (callF F L n) L f fn := T.run ih1 ih2 ih3 hF
        simp only []
        cases fn.md with
        | pure => exact pure_ok hrun hm ha
        | ro => exact ro_ok hrun hm ha
        | rw => exact rw_ok hrun hm ha
    · simp only [callF] at h
      cases hF : F f with
      | none => simp [hF] at h
      | some fn =>
        have h6 := (T.fns f fn hF).1
        simp only [hF] at h
        rw [h6] at h
        cases hq : mds f with
        | pure => simp only [hq] at h; exact runP_keep hn h
        | ro => simp only [hq] at h; exact runR_keep h
        | rw => exact absurd hq hmd
    · simp only [callF] at h ⊢
      cases hF : F f with
      | none => simp [hF] at h
      | some fn =>
        have h6 := (T.fns f fn hF).1
        simp only [hF] at h ⊢
        rw [h6, hmd] at h ⊢
        exact runP_flat hx h
theorem sound {F : Nat → Option Fn} {mds : Nat → Md} (T : Table P F mds) {n : Nat} {f : Nat} {fn : Fn} (hF : F f = some fn) {xs : List V} {cs : Array Value} {κ : K} {w : World} (hgl : GlobW ⟨κ, fun _ => .unb⟩ h0 w) (hκ : ∀ b o v, κ b o = some v → w.cell? (ad b o) = some v)
    (ha : Args ⟨κ, fun _ => .unb⟩ xs cs) {v : V} {hp' : Hp} (hr : runF (callF F L n) L fn xs h0 = .ret v hp') :
    Calls P f cs w (EndR fun cv w' g' => HR g' hp' w' ∧ Evo ⟨κ, fun _ => .unb⟩ h0 w g' hp' w' ∧ RepA g' v cv ∧ isLp v = false) := by
  obtain ⟨ih1, ih2, ih3⟩ := callF_ok (L := L) T n
  have hrun : RunOK P (callF F L n) L f fn := T.run ih1 ih2 ih3 hF
  have := hrun xs cs _ h0 w hgl (HR.empty hκ) ha
  rw [hr] at this
  exact this.2
end
end Ev
namespace Ev
variable [Glob]
open Go Go.ChangeShapes Go.WideShapes Go.ChangeAt Go.RowKit
def fullB (P : Program) : Bool := (List.range P.types.size).all fun t => match P.underlying t with | some (.slice e) => decide (0 < P.cellsOf e) | _ => true
def kAll (W : World) : K := fun b o => W.cell? (ad b o)
structure Kept (W W' : World) : Prop where
  os : W'.os = W.os
  out : W'.output = W.output
  size : W.heap.size ≤ W'.heap.size
  heap : ∀ b, b < W.heap.size → W'.heap[b]? = W.heap[b]?
theorem law_calls {P : Program} {F : Nat → Option Fn} {mds : Nat → Md} (T : Table P F mds) {L n f : Nat} {fn : Fn} (hF : F f = some fn) {xs : List V} {cs : Array Value} {W : World} (hgl : GlobW ⟨kAll W, fun _ => .unb⟩ h0 W) (ha : Args ⟨kAll W, fun _ => .unb⟩ xs cs) {hp : Hp}
    (hr : runF (callF F L n) L fn xs h0 = .ret (.bo true) hp) : Calls P f cs W fun e W' => e = .returned (.bool true) ∧ Kept W W' := by
  refine Calls.mono (sound T hF (κ := kAll W) hgl (fun b o v h => h) ha hr) fun e W' h => ?_
  obtain ⟨cv, g', rfl, _, ev, hv, _⟩ := h
  have := RepA.bo_inv hv
  subst this
  exact ⟨rfl, ev.wd.1.1, ev.wd.1.2, ev.size, fun b hb => ev.wd.2.2.1 b hb (fun o h => own_empty h) (fun ⟨_, q⟩ => by cases q)⟩
theorem Kept.kept {W W' : World} (h : Kept W W') (may : MemPlace → Prop) : W.keptBut W' may := by
  refine ⟨h.os, h.out, fun i hi => ?_⟩
  rw [h.heap i hi]
  cases e : W.heap[i]? with
  | none => rfl
  | some o => cases o <;> first | exact ⟨rfl, rfl, rfl, fun _ _ => rfl⟩ | exact .inr ⟨rfl, rfl⟩ | rfl
theorem Kept.same {W W' : World} (h : Kept W W') {p : MemPlace} (hp : p.block < W.heap.size) : W.sameAt W' p := by
  cases p with
  | cell b off => simp only [World.sameAt, World.cell?]; rw [h.heap b hp]
  | map b => exact h.heap b hp
theorem Kept.frozen {W W' : World} (h : Kept W W') {b off : Nat} (hb : b < W.heap.size) : W'.frozen? ⟨b, off, none⟩ = W.frozen? ⟨b, off, none⟩ := by
  simp only [World.frozen?]; rw [h.heap b hb]
section
variable {H : Type} {enc : TypeId × Value → H} {P : Program}
theorem TrodAll.kept {W W' : World} (h : Kept W W') {base : Nat} {sp : Nat → Bool} {held : Bool} : ∀ {ts : List TypeId} {vs : List Value} {ds : List (DataW H)} {ps : List MemPlace}, DataW.TrodAll enc P W base sp held ts vs ds ps → DataW.TrodAll enc P W' base sp held ts vs ds ps
  | [], [], [], _, x => x
  | t :: ts, v :: vs, d :: ds, _, ⟨p, q, ⟨n, h1⟩, h2, e⟩ => ⟨p, q, ⟨n, DataW.trod_carry n _ _ _ h1 fun x hx => h.same (DataW.trod_lt n _ _ _ h1 x hx)⟩, TrodAll.kept h h2, e⟩
  | [], [], _ :: _, _, x => by cases x
  | [], _ :: _, _, _, x => by cases x
  | _ :: _, [], _, _, x => by cases x
  | _ :: _, _ :: _, [], _, x => by cases x
theorem post_kept {f : Func} {s : ChangeSpec} {apart fresh handsOn again : Bool} {W W' : World} {args : Array Value} {ds gs : List (DataW H)} {before : List MemPlace} {tb : TypeId}
    (hW : DataW.Whole enc P f.params.toList s.vars apart W args.toList ds gs before) (hvars : s.vars = []) (hfn : s.fn H (ds ++ gs) = { results := [.lit (.bool true)], args := ds }) (hrt : f.resultTypes = #[tb]) (htb : P.underlying tb = some .bool)
    (hlo : laidOutB P = true) (hmr : mapsRowed P = true) (hz : fullB P = true) (hpt : ∀ t, t ∈ f.params.toList → t < P.types.size) (hk : Kept W W') : s.post enc P f apart fresh handsOn again W args (.bool true) W' := by
  have hlt := hW.lt
  have hW' := hW
  obtain ⟨p, q, hA, hV, hps, hfz, hnd⟩ := hW
  rw [hvars] at hV
  obtain ⟨hgs, hq⟩ := trodVars_none hV
  subst hq
  rw [List.append_nil] at hps
  subst hps
  have hA' : ∀ sp : Nat → Bool, (∀ x ∈ before, sp x.block = true) → DataW.TrodAll enc P W' 0 sp true f.params.toList args.toList ds before := fun sp hsp =>
    DataW.TrodAll.respare (kids_rows hlo hmr) (slices_full_of P (by exact hz)) hpt (TrodAll.kept hk hA) hsp
  have hres : ∀ (b : Nat) (sp : Nat → Bool) (hd : Bool), DataW.TrodAll enc P W' b sp hd f.resultTypes.toList ((Value.bool true).resultList f.resultTypes.size) (s.fn H (ds ++ gs)).results [] := by
    intro b sp hd
    rw [hfn, hrt]
    exact trodAll_cons_mk (shut_bool htb _) trodAll_mk0
  have hvv : ∀ sp, DataW.TrodVars enc P W' sp s.vars (s.fn H (ds ++ gs)).vars [] := by
    intro sp; rw [hvars, hfn]; rfl
  have hold : ∀ x ∈ before, (fun b => decide (b < W.heap.size)) x.block = true := fun x hx => by simpa using hlt x hx
  refine ⟨ds, gs, before, [], before, [], hW', hres _ _ _, by rw [hfn]; exact hA' _ hold, hvv _, World.keptBut_mono (fun x hx => ⟨hx, .inr (.inl hx)⟩) (hk.kept _), fun _ => ?_⟩
  refine ⟨?_, _, _, ([] ++ before) ++ [], ⟨[] ++ before, [], trodAll_append (hA' _ (fun _ _ => rfl)) (hres _ _ _), hvv _, rfl, ?_, ?_⟩, ?_⟩
  · exact ok_one hrt rfl (okWide_bool_mk htb true)
  · intro b off hp
    have hp' : MemPlace.cell b off ∈ before := by simpa using hp
    rw [hk.frozen (show b < W.heap.size from hlt _ hp')]
    exact hfz b off hp'
  · intro ha
    simpa using hnd ha
  · intro x hx _
    simpa using hx
end
end Ev
namespace Ev
variable [Glob]
open Go
def EvC (F : Nat → Option Ev.Fn) (own : Bool) (f : Nat) (xs : List V) (hp : Hp) (r : CR) : Prop :=
  ∃ N, ∀ L n, N ≤ L → N ≤ n → callF F L n own f xs hp = r
def EvD (F : Nat → Option Ev.Fn) (d : D) (r : R) : Prop :=
  ∃ N, ∀ L n, N ≤ L → N ≤ n → run (callF F L n) L d = r
def EvL (F : Nat → Option Ev.Fn) (keep drop : List Nat) (body : St → D) (st : St) (r : R) : Prop :=
  ∃ N, ∀ L n, N ≤ L → N ≤ n → ∀ q, N ≤ q → iter (fun s => run (callF F L n) L (body s)) keep drop q st = r
theorem keepF_id {α : Type} : ∀ (l : List Nat) (k : Tm → α) (tm : Tm), keepF k l tm = k (keepF (fun t => t) l tm)
  | [], _, _ => rfl
  | a :: l, k, tm => by
    simp only [keepF, force_eq]
    rw [keepF_id l (fun t => k fun j => bif Nat.beq j a then tm a else t j), keepF_id l (fun t => fun j => bif Nat.beq j a then tm a else t j)]
section
variable {F : Nat → Option Ev.Fn}
theorem EvD.done (r : R) : EvD F (.done r) r := ⟨0, fun _ _ _ _ => rfl⟩
theorem EvD.br {b : Bool} {x y : D} {r : R} (h : b = true → EvD F x r) (h' : b = false → EvD F y r) : EvD F (.br b x y) r := by
  cases b with
  | true => obtain ⟨N, h⟩ := h rfl; exact ⟨N, fun L n hL hn => h L n hL hn⟩
  | false => obtain ⟨N, h⟩ := h' rfl; exact ⟨N, fun L n hL hn => h L n hL hn⟩
theorem EvD.chk {b : Bool} {x : D} {r : R} (hb : b = true) (h : EvD F x r) : EvD F (.chk b x) r := by
  subst hb; obtain ⟨N, h⟩ := h; exact ⟨N, fun L n hL hn => h L n hL hn⟩
theorem EvD.call {own : Bool} {f : Nat} {xs : List V} {hp : Hp} {k : CR → D} {c : CR} {r : R} (h : EvC F own f xs hp c) (h' : EvD F (k c) r) : EvD F (.call own f xs hp k) r := by
  obtain ⟨N, h⟩ := h
  obtain ⟨M, h'⟩ := h'
  refine ⟨max N M, fun L n hL hn => ?_⟩
  simp only [run, forceL_eq]
  rw [h L n (by omega) (by omega)]
  exact h' L n (by omega) (by omega)
theorem EvD.loop {keep drop : List Nat} {body : St → D} {st : St} {k : R → D} {x r : R} (h : EvL F keep drop body st x) (h' : EvD F (k x) r) : EvD F (.loop keep drop body st k) r := by
  obtain ⟨N, h⟩ := h
  obtain ⟨M, h'⟩ := h'
  refine ⟨max N M, fun L n hL hn => ?_⟩
  simp only [run]
  rw [h L n (by omega) (by omega) L (by omega)]
  exact h' L n (by omega) (by omega)
theorem EvL.round {keep drop : List Nat} {body : St → D} {st s : St} {r : R} (h : ∀ tm', keepF (fun t => t) keep st.tm = tm' → EvD F (body ⟨tm', shed drop st.lo, st.hp⟩) (.norm s)) (h' : EvL F keep drop body s r) : EvL F keep drop body st r := by
  obtain ⟨N, h⟩ := h _ rfl
  obtain ⟨M, h'⟩ := h'
  refine ⟨max N M + 1, fun L n hL hn q hq => ?_⟩
  cases q with
  | zero => omega
  | succ q =>
    rw [iter_succ]
    rw [keepF_id, h L n (by omega) (by omega)]
    exact h' L n (by omega) (by omega) q (by omega)
theorem EvL.last {keep drop : List Nat} {body : St → D} {st : St} {r : R} (h : ∀ tm', keepF (fun t => t) keep st.tm = tm' → EvD F (body ⟨tm', shed drop st.lo, st.hp⟩) r) (hr : ∀ s, r ≠ .norm s) : EvL F keep drop body st r := by
  obtain ⟨N, h⟩ := h _ rfl
  refine ⟨N + 1, fun L n hL hn q hq => ?_⟩
  cases q with
  | zero => omega
  | succ q =>
    rw [iter_succ]
    rw [keepF_id, h L n (by omega) (by omega)]
    cases r with
    | norm s => exact absurd rfl (hr s)
    | _ => rfl
theorem EvC.pure {own : Bool} {f : Nat} {fn : Ev.Fn} {xs ys : List V} {hp hp1 : Hp} {r : R} {c : CR} (hF : F f = some fn) (hm : fn.md = .pure) (hc : closeAll fn.ps xs hp = some (ys, hp1)) (hl : Nat.beq ys.length fn.ps.length = true) (h : EvD F (bodyD fn ys h0) r)
    (hb : back own fn hp1 (crOf r) = c) : EvC F own f xs hp c := by
  obtain ⟨N, h⟩ := h
  refine ⟨N + 1, fun L n hL hn => ?_⟩
  cases n with
  | zero => omega
  | succ n =>
    simp only [callF, hF, hm, runP, hc, runF, hl, cond_true]
    rw [h L n (by omega) (by omega), hb]
theorem EvC.rw {own : Bool} {f : Nat} {fn : Ev.Fn} {xs : List V} {hp : Hp} {r : R} {c : CR} (hF : F f = some fn) (hm : fn.md = .rw) (hl : Nat.beq xs.length fn.ps.length = true) (h : EvD F (bodyD fn xs hp) r)
    (hb : crOf r = c) : EvC F own f xs hp c := by
  obtain ⟨N, h⟩ := h
  refine ⟨N + 1, fun L n hL hn => ?_⟩
  cases n with
  | zero => omega
  | succ n =>
    simp only [callF, hF, hm, runF, hl, cond_true]
    rw [h L n (by omega) (by omega), hb]
theorem EvC.run {fn : Ev.Fn} {xs : List V} {r : R} {v : V} {hp' : Hp} (hl : Nat.beq xs.length fn.ps.length = true) (h : EvD F (bodyD fn xs h0) r) (hb : crOf r = .ret v hp') : ∃ L n, runF (callF F L n) L fn xs h0 = .ret v hp' := by
  obtain ⟨N, h⟩ := h
  refine ⟨N, N, ?_⟩
  simp only [runF, hl, cond_true]
  rw [h N N (by omega) (by omega), hb]
end
end Ev
namespace Ev
variable [Glob]
open Go Go.ChangeShapes Go.WideShapes Go.ChangeAt Go.RowKit
inductive TD where
  | bo
  | it (k : IntKind)
  | fl (k : FloatKind)
  | st
  | sl (ts : List TD)
  deriving Inhabited
def tdFields (P : Program) (r : TypeId → Option (List TD)) : Nat → List Field → Option (Nat × List TD)
  | off, [] => some (off, [])
  | off, f :: fs =>
    if f.offset = off then
      match r f.type with
      | some ts => if ts.length = P.cellsOf f.type then (tdFields P r (off + P.cellsOf f.type) fs).map fun x => (x.1, ts ++ x.2) else none
      | none => none
    else none
def tdOf (P : Program) : Nat → TypeId → Option (List TD)
  | 0, _ => none
  | n + 1, t => match P.underlying t with
    | some .bool => some [.bo]
    | some (.int k) => some [.it k]
    | some (.float k) => some [.fl k]
    | some .string => some [.st]
    | some (.slice e) => match tdOf P n e with
      | some ts => if ts.length = P.cellsOf e ∧ 0 < ts.length then some [.sl ts] else none
      | none => none
    | some (.struct fs) => match tdFields P (tdOf P n) 0 fs.toList with
      | some (m, ts) => if m = P.cellsOf t then some ts else none
      | none => none
    | _ => none
mutual
inductive Sh1 : TD → V → Prop
  | bo (b : Bool) : Sh1 .bo (.bo b)
  | it (k : IntKind) (n : Int) (h : (Lit.int k n).wf = true) : Sh1 (.it k) (.it k n)
  | fl (k : FloatKind) (b : Nat) : Sh1 (.fl k) (.fl k b)
  | st (l : List UInt8) : Sh1 .st (.st (l.map UInt8.toNat))
  | sl (ts : List TD) (n : Nat) (hn : ts.length = n) (es : List (List V)) (h : ShE ts es) : Sh1 (.sl ts) (.vs n es)
inductive ShL : List TD → List V → Prop
  | nil : ShL [] []
  | cons {t : TD} {v : V} {ts : List TD} {vs : List V} (h : Sh1 t v) (r : ShL ts vs) : ShL (t :: ts) (v :: vs)
inductive ShE : List TD → List (List V) → Prop
  | nil (ts : List TD) : ShE ts []
  | cons {ts : List TD} {e : List V} {es : List (List V)} (h : ShL ts e) (r : ShE ts es) : ShE ts (e :: es)
end
mutual
def siz : V → Nat
  | .st l => l.length + 1
  | .vs _ es => sizE es + 1
  | _ => 1
def sizL : List V → Nat
  | [] => 0
  | v :: r => siz v + sizL r
def sizE : List (List V) → Nat
  | [] => 0
  | e :: r => sizL e + sizE r
end
theorem sizL_append (a b : List V) : sizL (a ++ b) = sizL a + sizL b := by
  induction a with
  | nil => simp [sizL]
  | cons x a ih => simp only [List.cons_append, sizL, ih]; omega
theorem ShL.length {ts : List TD} {vs : List V} (h : ShL ts vs) : vs.length = ts.length := by
  induction vs generalizing ts with
  | nil => cases h; rfl
  | cons v vs ih => cases h with | cons a r => simp [ih r]
theorem ShL.append {ts us : List TD} {vs ws : List V} (h : ShL ts vs) (h' : ShL us ws) : ShL (ts ++ us) (vs ++ ws) := by
  induction vs generalizing ts with
  | nil => cases h; exact h'
  | cons v vs ih => cases h with | cons a r => exact .cons a (ih r)
theorem Sh1.keep {t : TD} {v : V} (h : Sh1 t v) : v.keep = true ∧ isLp v = false := by cases h <;> exact ⟨rfl, rfl⟩
theorem ShL.mem {ts : List TD} {vs : List V} (h : ShL ts vs) {v : V} (hv : v ∈ vs) : ∃ t, Sh1 t v := by
  induction vs generalizing ts with
  | nil => cases hv
  | cons x vs ih =>
    cases h with
    | cons a r =>
      rcases List.mem_cons.1 hv with e | e
      · subst e; exact ⟨_, a⟩
      · exact ih r e
inductive RepL (κ : K) : List V → List Value → Prop
  | nil : RepL κ [] []
  | cons {v : V} {c : Value} {vs : List V} {cs : List Value} (h : RepC κ v c) (r : RepL κ vs cs) : RepL κ (v :: vs) (c :: cs)
theorem RepC.keep' {κ : K} {v : V} {c : Value} (h : RepC κ v c) : v.keep = true := by cases h <;> rfl
theorem RepL.append {κ : K} {a b : List V} {x y : List Value} (h : RepL κ a x) (h' : RepL κ b y) : RepL κ (a ++ b) (x ++ y) := by
  induction h with
  | nil => exact h'
  | cons h r ih => exact .cons h ih
theorem RepL.length {κ : K} {a : List V} {x : List Value} (h : RepL κ a x) : a.length = x.length := by
  induction h with
  | nil => rfl
  | cons h r ih => simp [ih]
theorem RepL.get {κ : K} {a : List V} {x : List Value} (h : RepL κ a x) : ∀ (i : Nat) (v : V), a[i]? = some v → RepC κ v (x.getD i undef) := by
  induction h with
  | nil => intro i v h; simp at h
  | cons h r ih =>
    intro i v e
    cases i with
    | zero => simp at e; subst e; simpa using h
    | succ i => simpa using ih i v (by simpa using e)
structure Bulk {H : Type} (u : DataW H → Nat) (ul : List (DataW H) → Nat) : Prop where
  nil : ul [] = 0
  cons : ∀ d r, ul (d :: r) = u d + ul r
  str : ∀ b, u (.lit (.string b)) = b.length + 1
  one : ∀ d, 1 ≤ u d
  sl : ∀ a b, u (.slice a b) = ul a + ul b + 1
  ag : ∀ a, u (.agg a) = ul a + 1
section
variable {H : Type} {enc : TypeId × Value → H} {P : Program} {w : World} {u : DataW H → Nat} {ul : List (DataW H) → Nat}
theorem cells_get {base n : Nat} {a : Addr} {cs : List Value} (h : w.cells? base a n = some cs) : cs.length = n ∧ ∀ i, i < n → w.cell? (a.add i) = some (cs.getD i undef) := by
  unfold World.cells? at h
  split at h
  · refine ⟨by simpa using mapM_some_length h, fun i hi => ?_⟩
    have := mapM_some_get h i i (by simp [hi])
    rw [this]
    have hl : cs.length = n := by simpa using mapM_some_length h
    have : i < cs.length := by omega
    simp [List.getD, this]
  · cases h
theorem rows_read (hB : Bulk u ul) {base n sz : Nat} {a : Addr} {ts : List TD} {tr : List Value → Option (DataW H × List MemPlace)}
    (ih : ∀ cs d ps, tr cs = some (d, ps) → ∃ vs, RepL (kAll w) vs cs ∧ ShL ts vs ∧ sizL vs ≤ u d) :
    ∀ (elems : List (DataW H × List MemPlace)) (k : Nat), (∀ i, i < elems.length → (w.cells? base (a.add ((k + i) * sz)) sz).bind tr = elems[i]?) →
      ∃ (es : List (List V)) (f : Nat → List Value), es.length = elems.length ∧ ShE ts es ∧ sizE es ≤ ul (elems.map (·.1)) ∧
        ∀ i e, es[i]? = some e → w.cells? base (a.add ((k + i) * sz)) sz = some (f i) ∧ RepL (kAll w) e (f i)
  | [], k, _ => ⟨[], fun _ => [], rfl, .nil _, by simp [sizE], by simp⟩
  | x :: r, k, h => by
    obtain ⟨es, f, h1, h2, h3, h4⟩ := rows_read hB (base := base) (n := n) (a := a) ih r (k + 1) (fun i hi => by
      have := h (i + 1) (by simp; omega)
      rw [show k + 1 + i = k + (i + 1) by omega]; simpa using this)
    have h0 := h 0 (by simp)
    simp only [Nat.add_zero, List.getElem?_cons_zero] at h0
    cases hc : w.cells? base (a.add (k * sz)) sz with
    | none => rw [hc] at h0; simp at h0
    | some cs =>
      rw [hc] at h0
      simp only [Option.bind_some] at h0
      obtain ⟨vs, q1, q2, q3⟩ := ih cs x.1 x.2 h0
      refine ⟨vs :: es, fun i => match i with | 0 => cs | i + 1 => f i, by simp [h1], .cons q2 h2, ?_, fun i e he => ?_⟩
      · simp only [sizE, List.map_cons, hB.cons]; omega
      · cases i with
        | zero => simp at he; subst he; exact ⟨by simpa using hc, q1⟩
        | succ i =>
          have := h4 i e (by simpa using he)
          rw [show k + 1 + i = k + (i + 1) by omega] at this
          exact this
theorem fields_read {m : Nat} (hB : Bulk u ul) {base : Nat} {sp : Nat → Bool} {hd : Bool} {n : Nat}
    (ih : ∀ t cs d ps ts, tdOf P m t = some ts → DataW.trod enc P w base sp hd n t cs = some (d, ps) → ∃ vs, RepL (kAll w) vs cs ∧ ShL ts vs ∧ sizL vs ≤ u d) (cs : List Value) :
    ∀ (fs : List Field) (off e : Nat) (ts : List TD) (xs : List (DataW H × List MemPlace)), tdFields P (tdOf P m) off fs = some (e, ts) → xs.length = fs.length → e ≤ cs.length →
      (∀ (i : Nat) (f : Field), fs[i]? = some f → DataW.trod enc P w base sp hd n f.type ((cs.drop f.offset).take (P.cellsOf f.type)) = xs[i]?) →
      off ≤ e ∧ ∃ vs, RepL (kAll w) vs ((cs.drop off).take (e - off)) ∧ ShL ts vs ∧ sizL vs ≤ ul (xs.map (·.1))
  | [], off, e, ts, xs, h, hl, he, hx => by
    simp only [tdFields, Option.some.injEq, Prod.mk.injEq] at h
    obtain ⟨rfl, rfl⟩ := h
    exact ⟨Nat.le_refl _, [], by simp; exact .nil, .nil, by simp [sizL]⟩
  | f :: fs, off, e, ts, [], h, hl, he, hx => by simp at hl
  | f :: fs, off, e, ts, x :: xs, h, hl, he, hx => by
    simp only [tdFields] at h
    split at h
    · rename_i ho
      split at h
      · rename_i us hus
        split at h
        · rename_i hlen
          simp only [Option.map_eq_some_iff] at h
          obtain ⟨⟨e', ts'⟩, h1, h2⟩ := h
          simp only [Prod.mk.injEq] at h2
          obtain ⟨rfl, rfl⟩ := h2
          obtain ⟨q0, vs', q1, q2, q3⟩ := fields_read hB ih cs fs _ _ _ xs h1 (by simpa using hl) he (fun i g hg => by have := hx (i + 1) g (by simpa using hg); simpa using this)
          have h0 := hx 0 f (by simp)
          simp only [List.getElem?_cons_zero] at h0
          obtain ⟨vs, p1, p2, p3⟩ := ih _ _ x.1 x.2 us hus h0
          refine ⟨by omega, vs ++ vs', ?_, p2.append q2, ?_⟩
          · have := p1.append q1
            rw [ho] at this
            have e1 : ((cs.drop off).take (P.cellsOf f.type)) ++ ((cs.drop (off + P.cellsOf f.type)).take (e' - (off + P.cellsOf f.type))) = (cs.drop off).take (e' - off) := by
              have := List.take_append_drop (P.cellsOf f.type) ((cs.drop off).take (e' - off))
              rw [List.take_take, List.drop_take, List.drop_drop, Nat.min_eq_left (by omega)] at this
              rw [show e' - (off + P.cellsOf f.type) = e' - off - P.cellsOf f.type by omega]
              exact this
            rw [e1] at this
            exact this
          · rw [sizL_append]; simp only [List.map_cons, hB.cons]; omega
        · cases h
      · cases h
    · cases h
theorem data_read (hB : Bulk u ul) {base : Nat} {sp : Nat → Bool} {hd : Bool} : ∀ (m n : Nat) (t : TypeId) (cs : List Value) (d : DataW H) (ps : List MemPlace) (ts : List TD),
    tdOf P m t = some ts → DataW.trod enc P w base sp hd n t cs = some (d, ps) → ∃ vs, RepL (kAll w) vs cs ∧ ShL ts vs ∧ sizL vs ≤ u d
  | 0, _, _, _, _, _, _, h, _ => by simp [tdOf] at h
  | m + 1, n, t, cs, d, ps, ts, h, hr => by
    simp only [tdOf] at h
    split at h
    · rename_i ht
      simp only [Option.some.injEq] at h; subst h
      obtain ⟨b, rfl, hx⟩ := DataW.trod_bool ht hr
      exact ⟨[.bo b], .cons (.bo b) .nil, .cons (.bo b) .nil, by have := hB.one d; simpa [sizL, siz] using this⟩
    · rename_i k ht
      simp only [Option.some.injEq] at h; subst h
      obtain ⟨b, rfl, hx, hw⟩ := DataW.trod_int ht hr
      exact ⟨[.it k b], .cons (.it k b) .nil, .cons (.it k b hw) .nil, by have := hB.one d; simpa [sizL, siz] using this⟩
    · rename_i k ht
      simp only [Option.some.injEq] at h; subst h
      cases n with
      | zero => simp [DataW.trod] at hr
      | succ n =>
        unfold DataW.trod at hr
        rw [ht] at hr
        split at hr <;> simp_all
        refine ⟨[.fl _ _], .cons (.fl _ _) .nil, .cons (.fl _ _) .nil, ?_⟩
        have := hB.one d; simpa [sizL, siz] using this
    · rename_i ht
      simp only [Option.some.injEq] at h; subst h
      obtain ⟨s, rfl, hx, hw⟩ := DataW.trod_string ht hr
      simp only [Prod.mk.injEq] at hx
      obtain ⟨rfl, rfl⟩ := hx
      refine ⟨[.st (s.data.toList.map UInt8.toNat)], .cons (.st _ _ rfl) .nil, .cons (.st _) .nil, ?_⟩
      rw [hB.str]; simp [sizL, siz]
    · rename_i e ht
      split at h
      · rename_i us hus
        split at h
        · rename_i hlen
          simp only [Option.some.injEq] at h; subst h
          rcases DataW.trod_slice ht hr with ⟨rfl, hx⟩ | ⟨a, len, cap, elems, rest, n', rfl, rfl, hx, hb, hlc, _, hel, hread, _, _⟩
          · refine ⟨[.vs us.length []], .cons ?_ .nil, .cons (.sl us _ rfl [] (.nil _)) .nil, ?_⟩
            · exact .vs us.length [] none 0 0 0 (fun _ _ => undef) (by simp) (by simp) (by simp) (by simp) (by simp)
            · have := hB.one d; simpa [sizL, siz, sizE] using this
          · simp only [Prod.mk.injEq] at hx
            obtain ⟨rfl, rfl⟩ := hx
            obtain ⟨es, f, h1, h2, h3, h4⟩ := rows_read hB (ts := us) (n := 0) (fun cs d ps hc => data_read hB m n' e cs d ps us hus hc) elems 0 (fun i hi => by rw [Nat.zero_add]; exact hread i (by omega))
            refine ⟨[.vs us.length es], .cons ?_ .nil, .cons (.sl us _ rfl es h2) .nil, ?_⟩
            · obtain ⟨ab, ao, as⟩ := a
              have hrow : ∀ (i : Nat) (x : List V), es[i]? = some x → x.length = us.length := by
                intro i x hx
                have := (h4 i x hx).2.length
                have h5 := (cells_get (h4 i x hx).1).1
                omega
              have hlen2 : es.length = len := by omega
              have spot : ∀ (i : Nat) (x : List V), es[i]? = some x → as = none := by
                intro i x hx
                have h0 : 0 < es.length := by
                  rcases Nat.lt_or_ge i es.length with q | q
                  · omega
                  · simp [List.getElem?_eq_none q] at hx
                have h5 := cells_get (h4 0 es[0] (by simp [h0])).1
                have h6 := h5.2 0 (by omega)
                have := World.cell?_spot h6
                simpa [Addr.add] using this
              rw [← hlen2]
              refine .vs us.length es _ cap ab ao (fun i j => (f i).getD j undef) ?_ ?_ (by omega) ?_ ?_
              · intro x hx
                obtain ⟨i, hi, rfl⟩ := List.mem_iff_getElem.1 hx
                exact hrow i _ (List.getElem?_eq_getElem hi)
              · intro hne
                cases hes : es with
                | nil => exact absurd hes hne
                | cons x r =>
                  rw [spot 0 x (by rw [hes]; rfl)]; rfl
              · intro i j x c hx hc
                have hl := hrow i x hx
                have hj : j < x.length := by
                  rcases Nat.lt_or_ge j x.length with q | q
                  · exact q
                  · simp [List.getElem?_eq_none q] at hc
                have h5 := cells_get (h4 i x hx).1
                have h6 := h5.2 j (by omega)
                have h7 := spot i x hx
                subst h7
                refine ⟨((h4 i x hx).2.get j c hc).keep', ?_⟩
                simp only [kAll]
                have e1 : ad ab (ao + i * us.length + j) = (Addr.add (Addr.add ⟨ab, ao, none⟩ ((0 + i) * P.cellsOf e)) j) := by
                  rw [add_plain, add_plain, Nat.zero_add, hlen.1]; rfl
                rw [e1]
                exact h6
              · intro i j x c hx hc
                exact (h4 i x hx).2.get j c hc
            · simp only [sizL, siz, hB.sl]; omega
        · cases h
      · cases h
    · rename_i fs ht
      split at h
      · rename_i e us hus
        split at h
        · rename_i hm
          simp only [Option.some.injEq] at h; subst h
          obtain ⟨xs, n', rfl, hx, hlen, hxl, hxs⟩ := DataW.trod_struct ht hr
          simp only [Prod.mk.injEq] at hx
          obtain ⟨rfl, rfl⟩ := hx
          obtain ⟨_, vs, q1, q2, q3⟩ := fields_read hB (n := n') (fun t cs d ps ts a b => data_read hB m n' t cs d ps ts a b) cs fs.toList 0 e us xs hus (by simpa using hxl) (by omega) (fun i f hf => hxs i f (by simpa using hf))
          refine ⟨vs, ?_, q2, by rw [hB.ag]; omega⟩
          have : (cs.drop 0).take (e - 0) = cs := by simp only [List.drop_zero, Nat.sub_zero]; exact List.take_of_length_le (by omega)
          rw [this] at q1
          exact q1
        · cases h
      · cases h
    · cases h
end
end Ev
namespace Ev
variable [Glob]
open Go
def Rt (v : V) (hp : Hp) : R := .ret ⟨fun _ => v, fun _ => none, hp⟩
theorem beqD (a b : Nat) : Nat.beq a b = decide (a = b) := by
  by_cases h : a = b
  · rw [beqT h]; simp [h]
  · rw [beqF h]; simp [h]
theorem bleD (a b : Nat) : Nat.ble a b = decide (a ≤ b) := by
  cases h : Nat.ble a b
  · simp only [Bool.false_eq, decide_eq_false_iff_not]; intro q; rw [Nat.ble_eq_true_of_le q] at h; cases h
  · simp only [Bool.true_eq, decide_eq_true_eq]; exact Nat.le_of_ble_eq_true h
theorem bltD (a b : Nat) : Nat.blt a b = decide (a < b) := by
  unfold Nat.blt; rw [bleD]; rfl
theorem ieqD (a b : Int) : ieq a b = decide (a = b) := by rw [ieq_eq]; rfl
theorem beqLD (a b : List Nat) : beqL a b = decide (a = b) := by rw [beqL_eq, Bool.eq_iff_iff]; simp
theorem wr64 {n : Int} (h1 : -9223372036854775808 ≤ n) (h2 : n < 9223372036854775808) : wr .i64 n = n := by
  rw [wr_eq]; simp [IntKind.wrap, IntKind.bits, IntKind.signed]; split <;> omega
theorem wr_inc {i : Nat} (h : i ≤ 1000000000) : V.it .i64 (wr .i64 (Int.ofNat i + 1)) = .it .i64 (Int.ofNat (i + 1)) := by
  have e : (Int.ofNat i + 1 : Int) = Int.ofNat (i + 1) := rfl
  rw [e, wr64 (by simp; omega) (by simp; omega)]
theorem wr_add_nat {a b : Nat} (h : a + b ≤ 1000000000) : (wr .i64 (Int.ofNat a + Int.ofNat b)).toNat = a + b := by
  have e : (Int.ofNat a + Int.ofNat b : Int) = Int.ofNat (a + b) := rfl
  rw [e, wr64 (by simp; omega) (by simp; omega)]; rfl
theorem wr8 {n : Int} (h1 : 0 ≤ n) (h2 : n < 256) : wr .u8 n = n := by
  rw [wr_eq]; simp [IntKind.wrap, IntKind.bits, IntKind.signed]; omega
theorem wr8m (n : Int) : wr .u8 n = n % 256 := by
  rw [wr_eq]; simp [IntKind.wrap, IntKind.bits, IntKind.signed]
theorem lset_self {lo : Lo} {j : Nat} {cs : List V} (h : lo j = some cs) : lset lo j cs = lo := by
  funext i; unfold lset
  cases q : Nat.beq i j
  · rfl
  · rw [Nat.eq_of_beq_eq_true q]; exact h.symm
def tmOf : List (Nat × V) → Tm
  | [] => fun _ => .un
  | (k, v) :: r => fun j => bif Nat.beq j k then v else tmOf r j
theorem keepF_tm : ∀ (keep : List Nat) (tm : Tm), keepF (fun t => t) keep tm = tmOf (keep.map fun s => (s, tm s))
  | [], _ => rfl
  | a :: l, tm => by
    simp only [keepF, force_eq]
    rw [keepF_id l (fun t => fun j => bif Nat.beq j a then tm a else t j), keepF_tm l tm]
    rfl
def Clo (t : Ty) (v : V) : Prop := ∀ n hp, closeC (n + 1) t v hp = some (v, hp)
inductive CloL : List Ty → List V → Prop
  | nil : CloL [] []
  | cons {t : Ty} {v : V} {ts : List Ty} {vs : List V} (h : Clo t v) (r : CloL ts vs) : CloL (t :: ts) (v :: vs)
theorem CloL.length {ts : List Ty} {vs : List V} (h : CloL ts vs) : vs.length = ts.length := by
  induction h with
  | nil => rfl
  | cons h r ih => simp [ih]
theorem closeCs_clo {ts : List Ty} {vs : List V} (h : CloL ts vs) : ∀ n hp, ts.length + 1 ≤ n → closeCs n ts vs hp = some (vs, hp) := by
  induction h with
  | nil => intro n hp hn; cases n with | zero => omega | succ n => rfl
  | cons h r ih =>
    intro n hp hn
    cases n with
    | zero => omega
    | succ n =>
      simp only [List.length_cons] at hn
      cases n with
      | zero => omega
      | succ n => simp only [closeCs, h n hp, ih (n + 1) hp (by omega)]
theorem closeEs_clo {ts : List Ty} {es : List (List V)} : ∀ n hp, (∀ e, e ∈ es → CloL ts e) → es.length + ts.length + 2 ≤ n → closeEs n ts es hp = some (es, hp) := by
  induction es with
  | nil => intro n hp _ hn; cases n with | zero => omega | succ n => rfl
  | cons e r ih =>
    intro n hp h hn
    cases n with
    | zero => omega
    | succ n =>
      simp only [List.length_cons] at hn
      simp only [closeEs, closeCs_clo (h e (by simp)) n hp (by omega), ih n hp (fun x hx => h x (by simp [hx])) (by omega)]
theorem clo_bo (b : Bool) : Clo .one (.bo b) := fun _ _ => rfl
theorem clo_it (k : IntKind) (n : Int) : Clo .one (.it k n) := fun _ _ => rfl
theorem clo_st (l : List Nat) : Clo .one (.st l) := fun _ _ => rfl
theorem clo_vs (ts : List Ty) (es : List (List V)) : Clo (.sl ts) (.vs ts.length es) := fun n hp => by
  simp only [closeC, Nat.beq_refl, cond_true]
theorem closeC_hs {n : Nat} {ts : List Ty} {id i len sz : Nat} {fr : Bool} {es : List (List V)} {hp : Hp} (hg : hget hp id = some ⟨sz, fr, es⟩) (hl : hp.lim ≤ id) (hz : sz = ts.length) (hb : i + len ≤ es.length)
    (hc : ∀ e, e ∈ (es.drop i).take len → CloL ts e) (hn : len + ts.length + 3 ≤ n) : closeC n ((.sl ts) : Ty) (.hs id i len) hp = some (.vs sz ((es.drop i).take len), hset hp id (some ⟨sz, true, es⟩)) := by
  cases n with
  | zero => omega
  | succ n =>
    have hlt : Nat.blt id hp.lim = false := by rw [bltD]; simp; omega
    have hq : Nat.beq sz ts.length = true := by rw [beqD]; simp [hz]
    have hq2 : Nat.ble (i + len) es.length = true := by rw [bleD]; simp [hb]
    have hfz : freeze hp id = hset hp id (some ⟨sz, true, es⟩) := by unfold freeze; rw [hg]
    have hlen : ((es.drop i).take len).length = len := by simp; omega
    simp only [closeC, hg, hlt, cond_false, hq, cond_true, hq2, hfz, closeEs_clo n _ hc (by omega)]
def bs (l : List Int) : List (List V) := l.map fun n => [.it .u8 n]
theorem bs_length (l : List Int) : (bs l).length = l.length := by simp [bs]
theorem bs_append (a b : List Int) : bs a ++ bs b = bs (a ++ b) := by simp [bs]
theorem bs_take (a : List Int) (n : Nat) : (bs a).take n = bs (a.take n) := by simp [bs, List.map_take]
theorem bs_drop (a : List Int) (n : Nat) : (bs a).drop n = bs (a.drop n) := by simp [bs, List.map_drop]
theorem bs_clo (l : List Int) : ∀ e, e ∈ bs l → CloL [.one] e := by
  intro e he
  simp only [bs, List.mem_map] at he
  obtain ⟨n, _, rfl⟩ := he
  exact .cons (clo_it _ _) .nil
theorem depth_succ : depth = 99999999 + 1 := rfl
theorem clo_depth {t : Ty} {v : V} (h : Clo t v) (hp : Hp) : closeC depth t v hp = some (v, hp) := by rw [depth_succ]; exact h _ _
inductive ClP : List PT → List V → Hp → List V → Hp → Prop
  | nil (hp : Hp) : ClP [] [] hp [] hp
  | c {t : Ty} {v w : V} {ts : List PT} {vs ws : List V} {hp h1 h2 : Hp} (h : closeC depth t v hp = some (w, h1)) (r : ClP ts vs h1 ws h2) : ClP (.c t :: ts) (v :: vs) hp (w :: ws) h2
  | g {us : List Ty} {cs ds : List V} {ts : List PT} {vs ws : List V} {hp h1 h2 : Hp} (h : closeCs depth us cs hp = some (ds, h1)) (r : ClP ts vs h1 ws h2) : ClP (.g us :: ts) (.ag cs :: vs) hp (.ag ds :: ws) h2
theorem ClP.s {t : Ty} {v : V} {ts : List PT} {vs ws : List V} {hp h2 : Hp} (h : Clo t v) (r : ClP ts vs hp ws h2) : ClP (.c t :: ts) (v :: vs) hp (v :: ws) h2 := .c (clo_depth h hp) r
theorem ClP.gs {us : List Ty} {cs : List V} {ts : List PT} {vs ws : List V} {hp h2 : Hp} (h : CloL us cs) (r : ClP ts vs hp ws h2) (hl : us.length + 1 ≤ depth := by decide) : ClP (.g us :: ts) (.ag cs :: vs) hp (.ag cs :: ws) h2 :=
  .g (closeCs_clo h _ _ hl) r
def Clo2 (t : Ty) (v w : V) : Prop := ∀ n hp, closeC (n + 1) t v hp = some (w, hp)
inductive CloL2 : List Ty → List V → List V → Prop
  | nil : CloL2 [] [] []
  | cons {t : Ty} {v w : V} {ts : List Ty} {vs ws : List V} (h : Clo2 t v w) (r : CloL2 ts vs ws) : CloL2 (t :: ts) (v :: vs) (w :: ws)
theorem clo_ns (ts : List Ty) : Clo2 (.sl ts) .ns (.vs ts.length []) := fun _ _ => rfl
theorem closeCs_clo2 {ts : List Ty} {vs ws : List V} (h : CloL2 ts vs ws) : ∀ n hp, ts.length + 1 ≤ n → closeCs n ts vs hp = some (ws, hp) := by
  induction h with
  | nil => intro n hp hn; cases n with | zero => omega | succ n => rfl
  | cons h r ih =>
    intro n hp hn
    cases n with
    | zero => omega
    | succ n =>
      simp only [List.length_cons] at hn
      cases n with
      | zero => omega
      | succ n => simp only [closeCs, h n hp, ih (n + 1) hp (by omega)]
theorem ClP.s2 {t : Ty} {v w : V} {ts : List PT} {vs ws : List V} {hp h2 : Hp} (h : Clo2 t v w) (r : ClP ts vs hp ws h2) : ClP (.c t :: ts) (v :: vs) hp (w :: ws) h2 := .c (by rw [depth_succ]; exact h _ _) r
theorem ClP.close {ts : List PT} {vs ws : List V} {hp h2 : Hp} (h : ClP ts vs hp ws h2) : closeAll ts vs hp = some (ws, h2) := by
  induction h with
  | nil hp => rfl
  | c h r ih => unfold closeAll; unfold closeP; simp only [h, ih]
  | g h r ih => unfold closeAll; unfold closeP; simp only [h, ih]
section
variable {F : Nat → Option Ev.Fn}
theorem EvL.go {keep drop : List Nat} {body : St → D} {tm : Tm} {lo : Lo} {hp : Hp} (kv : List (Nat × V)) {s : St} {r : R} (hk : keep.map (fun s => (s, tm s)) = kv) (h : EvD F (body ⟨tmOf kv, shed drop lo, hp⟩) (.norm s))
    (h' : EvL F keep drop body s r) : EvL F keep drop body ⟨tm, lo, hp⟩ r :=
  .round (fun tm' e => by rw [keepF_tm, show keep.map (fun s => (s, (St.mk tm lo hp).tm s)) = kv from hk] at e; subst e; exact h) h'
theorem EvL.stop {keep drop : List Nat} {body : St → D} {tm : Tm} {lo : Lo} {hp : Hp} (kv : List (Nat × V)) {r : R} (hk : keep.map (fun s => (s, tm s)) = kv) (h : EvD F (body ⟨tmOf kv, shed drop lo, hp⟩) r)
    (hr : ∀ s, r ≠ .norm s) : EvL F keep drop body ⟨tm, lo, hp⟩ r :=
  .last (fun tm' e => by rw [keepF_tm, show keep.map (fun s => (s, (St.mk tm lo hp).tm s)) = kv from hk] at e; subst e; exact h) hr
theorem EvL.congr {keep drop : List Nat} {body : St → D} {st st' : St} {r : R} (h : EvL F keep drop body st' r) (h1 : keep.map (fun s => (s, st.tm s)) = keep.map (fun s => (s, st'.tm s))) (h2 : shed drop st.lo = shed drop st'.lo) (h3 : st.hp = st'.hp) :
    EvL F keep drop body st r := by
  obtain ⟨N, h⟩ := h
  refine ⟨N, fun L n hL hn q hq => ?_⟩
  rw [← h L n hL hn q hq]
  cases q with
  | zero => rfl
  | succ q => rw [iter_succ, iter_succ, keepF_id, keepF_id _ _ st'.tm, keepF_tm, keepF_tm, h1, h2, h3]
def EvP (F : Nat → Option Ev.Fn) (f : Nat) (fn : Ev.Fn) (ys zs : List V) : Prop :=
  F f = some fn ∧ fn.md = .pure ∧ Nat.beq ys.length fn.ps.length = true ∧
  ∃ v h h', EvD F (bodyD fn ys h0) (Rt v h) ∧ ClP fn.rs (untuple fn.rs.length v) h zs h'
def EvO (F : Nat → Option Ev.Fn) (f : Nat) (fn : Ev.Fn) (ys : List V) (sz : Nat) (es : List (List V)) : Prop :=
  F f = some fn ∧ fn.md = .pure ∧ Nat.beq ys.length fn.ps.length = true ∧
  ∃ v h t, fn.rs = [t] ∧ EvD F (bodyD fn ys h0) (Rt v h) ∧
    ((∃ h', closeP t v h = some (.vs sz es, h')) ∧
     ((∀ hp, ownP t v h hp = some (.hs hp.next 0 es.length, hnew hp ⟨sz, false, es⟩)) ∨ (es = [] ∧ ∀ hp, ownP t v h hp = some (.vs sz [], hp))))
theorem EvC.of {f : Nat} {fn : Ev.Fn} {ys xs zs : List V} {hp hp1 : Hp} (h : EvP F f fn ys zs) (hc : ClP fn.ps xs hp ys hp1) : EvC F false f xs hp (.ret (tuple zs) hp1) := by
  obtain ⟨h1, h2, h3, v, h, h', h4, h5⟩ := h
  refine EvC.pure h1 h2 hc.close h3 h4 ?_
  show (match closeAll fn.rs (untuple fn.rs.length v) h with | some (xs, _) => CR.ret (tuple xs) hp1 | none => CR.bad) = _
  rw [h5.close]
theorem EvO.toP {f : Nat} {fn : Ev.Fn} {ys : List V} {sz : Nat} {es : List (List V)} (h : EvO F f fn ys sz es) : EvP F f fn ys [.vs sz es] := by
  obtain ⟨h1, h2, h3, v, h, t, h4, h5, ⟨h', h6⟩, _⟩ := h
  refine ⟨h1, h2, h3, v, h, h', h5, ?_⟩
  rw [h4]
  cases t with
  | c t => exact .c h6 (.nil _)
  | g ts =>
    exfalso
    unfold closeP at h6
    cases v <;> simp at h6
    split at h6 <;> simp at h6
theorem EvC.ofO {f : Nat} {fn : Ev.Fn} {ys xs : List V} {sz : Nat} {es : List (List V)} {hp hp1 : Hp} (h : EvO F f fn ys sz es) (hc : ClP fn.ps xs hp ys hp1) :
    EvC F true f xs hp (.ret (.hs hp1.next 0 es.length) (hnew hp1 ⟨sz, false, es⟩)) ∨ (es = [] ∧ EvC F true f xs hp (.ret (.vs sz []) hp1)) := by
  obtain ⟨h1, h2, h3, v, h, t, h4, h5, _, h7 | ⟨h7, h8⟩⟩ := h
  · refine .inl (EvC.pure h1 h2 hc.close h3 h5 ?_)
    show back true fn hp1 (.ret v h) = _
    unfold back
    rw [h4]
    simp only [h7]
  · refine .inr ⟨h7, EvC.pure h1 h2 hc.close h3 h5 ?_⟩
    show back true fn hp1 (.ret v h) = _
    unfold back
    rw [h4]
    simp only [h8]
theorem law_run {fn : Ev.Fn} {xs : List V} {v : V} {h : Hp} (hl : Nat.beq xs.length fn.ps.length = true) (h : EvD F (bodyD fn xs h0) (Rt v h)) : ∃ L n hp', runF (callF F L n) L fn xs h0 = .ret v hp' := by
  obtain ⟨L, n, e⟩ := EvC.run hl h rfl
  exact ⟨L, n, _, e⟩
end
theorem hnew_next (hp : Hp) (b : Bk) : (hnew hp b).next = hp.next + 1 := rfl
theorem hset_next (hp : Hp) (id : Nat) (b : Option Bk) : (hset hp id b).next = hp.next := rfl
theorem hnew_lim (hp : Hp) (b : Bk) : (hnew hp b).lim = hp.lim := rfl
theorem hset_lim (hp : Hp) (id : Nat) (b : Option Bk) : (hset hp id b).lim = hp.lim := rfl
theorem hget_new (hp : Hp) (b : Bk) : hget (hnew hp b) hp.next = some b := by rw [hget_hnew]; simp
theorem hget_old {hp : Hp} {b : Bk} {id : Nat} (h : id ≠ hp.next) : hget (hnew hp b) id = hget hp id := by rw [hget_hnew]; simp [h]
theorem hget_set (hp : Hp) (id : Nat) (b : Option Bk) : hget (hset hp id b) id = b := by rw [hget_hset]; simp
theorem hget_other {hp : Hp} {b : Option Bk} {id j : Nat} (h : j ≠ id) : hget (hset hp id b) j = hget hp j := by rw [hget_hset]; simp [h]
end Ev
namespace Ev
variable [Glob]
open Go
def forceV {α : Type} (k : V → α) : V → α
  | .un => k .un
  | .bo b => k (.bo b)
  | .it a n => k (.it a n)
  | .fl a n => k (.fl a n)
  | .st l => k (.st l)
  | .np => k .np
  | .pt a b c => k (.pt a b c)
  | .lp a b => k (.lp a b)
  | .ip l => k (.ip l)
  | .ns => k .ns
  | .vs n l => k (.vs n l)
  | .hs a b c => k (.hs a b c)
  | .ag l => k (.ag l)
  | .tu l => k (.tu l)
  | .fc t v => k (.fc t v)
  | .nf => k .nf
  | .fn a b c => k (.fn a b c)
  | .nfn => k .nfn
  | .mp a => k (.mp a)
  | .nm => k .nm
theorem forceV_eq {α : Type} (k : V → α) (v : V) : forceV k v = k v := by cases v <;> rfl
def evLs (clr : List Nat) : List DOp → St → (R → D) → D
  | [], st, k => k (.norm st)
  | o :: r, st, k => o.ins.den o.us clr (o.dst.getD 0) st (fun v s => forceV (fun v => evLs clr r (put s o.dst v) k) v) (fun v s => k (.pan v s))
theorem evLs_eq (clr : List Nat) : ∀ (l : List DOp) (st : St) (k : R → D), evLs clr l st k = evL clr (l.map DOp.den) st k
  | [], _, _ => rfl
  | o :: r, st, k => by
    simp only [evLs, List.map_cons, evL, forceV_eq, evLs_eq clr r]
    rfl
def undos : List DOp → St → St
  | [], st => st
  | o :: r, st => undos r (put st o.dst (.tu []))
theorem undos_eq : ∀ (l : List DOp) (st : St), undos l st = undo (l.map DOp.den) st
  | [], _ => rfl
  | o :: r, st => by simp only [undos, List.map_cons, undo, undos_eq r]; rfl
def evGd (clr : List Nat) (g : DGr) (st : St) (k : R → D) : D :=
  match g.gd with
  | none => evLs clr g.ops st k
  | some (t, w) =>
    match st.tm t with
    | .bo b => .br (bif w then b else !b) (evLs clr g.ops ⟨upd st.tm t (.bo w), st.lo, st.hp⟩ k)
        (k (.norm (undos g.ops ⟨upd st.tm t (.bo (!w)), st.lo, st.hp⟩)))
    | .tu [] => k (.norm (undos g.ops st))
    | _ => .bad
theorem evGd_eq (clr : List Nat) (g : DGr) (st : St) (k : R → D) : evGd clr g st k = evG clr g.den st k := by
  unfold evGd evG DGr.den
  cases g.gd with
  | none => exact evLs_eq clr _ _ _
  | some x =>
    obtain ⟨t, w⟩ := x
    simp only
    split <;> simp only [*, evLs_eq, undos_eq]
def evGds (clr : List Nat) : List DGr → St → (R → D) → D
  | [], st, k => k (.norm ⟨clear clr st.tm, st.lo, st.hp⟩)
  | g :: r, st, k => evGd clr g st fun x => match x with
    | .norm s => evGds clr r s k
    | x => k x
theorem evGds_eq (clr : List Nat) : ∀ (l : List DGr) (st : St) (k : R → D), evGds clr l st k = evGs clr (l.map DGr.den) st k
  | [], _, _ => rfl
  | g :: r, st, k => by
    simp only [evGds, List.map_cons, evGs, evGd_eq, evGds_eq clr r]
    congr 1
def cRegs (draw : Bool) (gs : List DGr) (clr : List Nat) : Sh := fun st k =>
  bif draw then evGds clr gs st fun x => match x with
    | .pan _ _ => .bad
    | x => k x
  else evGds clr gs st k
def C.run : C → Sh
  | .skip => cSkip
  | .bad => cBad
  | .reg draw ops clr => cRegs draw (bif draw then alone ops else group ops) clr
  | .seq a b => cSeq a.run b.run
  | .cond c x y => cIf c x.run y.run
  | .blk id c => cBlk id c.run
  | .loop k d c => cLoop k d c.run
  | .exit id => cExit id
  | .ret => cRet
theorem C.run_eq : ∀ c : C, c.run = c.den
  | .skip => rfl
  | .bad => rfl
  | .reg draw ops clr => by
    funext st k
    simp only [C.run, C.den, cRegs, cReg, evGds_eq]
    cases draw
    · rfl
    · simp only [cond_true]
      congr 1
  | .seq a b => by simp only [C.run, C.den, C.run_eq a, C.run_eq b]
  | .cond c x y => by simp only [C.run, C.den, C.run_eq x, C.run_eq y]
  | .blk id c => by simp only [C.run, C.den, C.run_eq c]
  | .loop k d c => by simp only [C.run, C.den, C.run_eq c]
  | .exit id => rfl
  | .ret => rfl
def stepD (d : DFn) (args : List V) (hp : Hp) : D :=
  d.body.run ⟨argT args, fun _ => none, hp⟩ fun x => match x with
    | .norm st | .ret st => resultsD st d.res fun vs => .done (.ret ⟨fun _ => tuple vs, fun _ => none, st.hp⟩)
    | .pan v st => .done (.pan v ⟨fun _ => .un, fun _ => none, st.hp⟩)
    | _ => .bad
theorem stepD_eq (d : DFn) (args : List V) (hp : Hp) : stepD d args hp = bodyD d.den args hp := by
  unfold stepD bodyD DFn.den
  rw [C.run_eq]
  congr 1
def C.lps : C → List C
  | .seq a b => a.lps ++ b.lps
  | .cond _ x y => x.lps ++ y.lps
  | .blk _ c => c.lps
  | .loop _ _ c => c :: c.lps
  | _ => []
def lp (d : DFn) (n : Nat) : St → D := fun s => (d.body.lps.getD n .skip).run s .done
section
variable {F : Nat → Option Ev.Fn}
theorem EvP.of {f : Nat} (d : DFn) {ys zs : List V} (h1 : F f = some d.den) (h2 : d.md = .pure) (h3 : Nat.beq ys.length d.ps.length = true) {v : V} {h h' : Hp} (h4 : EvD F (stepD d ys h0) (Rt v h))
    (h5 : ClP d.rs (untuple d.rs.length v) h zs h') : EvP F f d.den ys zs := ⟨h1, h2, h3, v, h, h', by rw [stepD_eq] at h4; exact h4, h5⟩
theorem EvO.of {f : Nat} (d : DFn) {ys : List V} {ts : List Ty} {rows : List (List V)} (h1 : F f = some d.den) (h2 : d.md = .pure) (h3 : Nat.beq ys.length d.ps.length = true) (h4 : d.rs = [.c (.sl ts)])
    {id i len : Nat} {h : Hp} {es : List (List V)} (h5 : EvD F (stepD d ys h0) (Rt (.hs id i len) h)) (hg : hget h id = some ⟨ts.length, false, es⟩) (hl : h.lim ≤ id) (hb : i + len ≤ es.length)
    (he : (es.drop i).take len = rows) (hc : ∀ e, e ∈ rows → CloL ts e) (hn : len + ts.length + 3 ≤ depth) : EvO F f d.den ys ts.length rows := by
  subst he
  have hlen : ((es.drop i).take len).length = len := by simp; omega
  refine ⟨h1, h2, h3, _, h, _, h4, by rw [stepD_eq] at h5; exact h5, ⟨hset h id (some ⟨ts.length, true, es⟩), ?_⟩, .inl fun hp => ?_⟩
  · unfold closeP; simp only []; exact closeC_hs hg hl rfl hb hc hn
  · unfold ownP
    have hlt : Nat.blt id h.lim = false := by rw [bltD]; simp; omega
    have hq2 : Nat.ble (i + len) es.length = true := by rw [bleD]; simp [hb]
    simp only [hg, cond_false, hlt, Nat.beq_refl, cond_true, hq2, closeEs_clo depth _ hc (by omega), hlen]
theorem EvO.ofN {f : Nat} (d : DFn) {ys : List V} {ts : List Ty} (h1 : F f = some d.den) (h2 : d.md = .pure) (h3 : Nat.beq ys.length d.ps.length = true) (h4 : d.rs = [.c (.sl ts)])
    {h : Hp} (h5 : EvD F (stepD d ys h0) (Rt .ns h)) : EvO F f d.den ys ts.length [] := by
  have e : closeP (.c (.sl ts)) .ns h = some (.vs ts.length [], h) := by unfold closeP; rw [depth_succ]; rfl
  refine ⟨h1, h2, h3, _, h, _, h4, by rw [stepD_eq] at h5; exact h5, ⟨_, e⟩, .inr ⟨rfl, fun hp => ?_⟩⟩
  unfold ownP; simp only [e]
end
end Ev
namespace Ev
variable [Glob]
open Go
def sK (b : C) (k : R → D) : R → D := fun x => match x with | .norm s => b.run s k | x => k x
def bK (id : Nat) (k : R → D) : R → D := fun x => match x with | .exit i s => k (bif Nat.beq i id then .norm s else .exit i s) | x => k x
def gK (clr : List Nat) (gs : List DGr) (k : R → D) : R → D := fun x => match x with | .norm s => evGds clr gs s k | x => k x
def pK (k : R → D) : R → D := fun x => match x with | .pan _ _ => .bad | x => k x
def fK (d : DFn) : R → D := fun x => match x with
    | .norm st | .ret st => resultsD st d.res fun vs => .done (.ret ⟨fun _ => tuple vs, fun _ => none, st.hp⟩)
    | .pan v st => .done (.pan v ⟨fun _ => .un, fun _ => none, st.hp⟩)
    | _ => .bad
def lpB (c : C) : St → D := fun s => c.run s .done
def undoT : List DOp → Tm → Tm
  | [], tm => tm
  | o :: r, tm => undoT r (match o.dst with | some d => upd tm d (.tu []) | none => tm)
theorem undoT_eq (lo : Lo) (hp : Hp) : ∀ (l : List DOp) (tm : Tm), undos l ⟨tm, lo, hp⟩ = ⟨undoT l tm, lo, hp⟩
  | [], _ => rfl
  | o :: r, tm => by
    unfold undos undoT put
    cases o.dst <;> exact undoT_eq lo hp r _
abbrev FV (K : V → St → D) : V → St → D := fun v s => forceV (fun v => K v s) v
section
variable {F : Nat → Option Ev.Fn} {R : R} {k : Ev.R → D} {clr : List Nat} {tm : Tm} {lo : Lo} {hp : Hp} {r : List DOp} {us : List Nat} {g : Option (Nat × Bool)}
theorem X.fn {d : DFn} {args : List V} (h : EvD F (d.body.run ⟨argT args, fun _ => none, hp⟩ (fK d)) R) : EvD F (stepD d args hp) R := h
theorem X.seq {a b : C} {st : St} (h : EvD F (a.run st (sK b k)) R) : EvD F ((C.seq a b).run st k) R := h
theorem X.skip {st : St} (h : EvD F (k (.norm st)) R) : EvD F (C.skip.run st k) R := h
theorem X.ret {st : St} (h : EvD F (k (.ret st)) R) : EvD F (C.ret.run st k) R := h
theorem X.exit {id : Nat} {st : St} (h : EvD F (k (.exit id st)) R) : EvD F ((C.exit id).run st k) R := h
theorem X.blk {id : Nat} {c : C} {st : St} (h : EvD F (c.run st (bK id k)) R) : EvD F ((C.blk id c).run st k) R := h
theorem X.reg0 {ops : List DOp} {st : St} {gs : List DGr} (hg : group ops = gs) (h : EvD F (evGds clr gs st k) R) : EvD F ((C.reg false ops clr).run st k) R := by subst hg; exact h
theorem X.reg1 {ops : List DOp} {st : St} {gs : List DGr} (hg : alone ops = gs) (h : EvD F (evGds clr gs st (pK k)) R) : EvD F ((C.reg true ops clr).run st k) R := by subst hg; exact h
theorem X.cond {c : A} {x y : C} {b : Bool} (hc : get tm c = .bo b) (h1 : b = true → EvD F (x.run ⟨tm, lo, hp⟩ k) R) (h2 : b = false → EvD F (y.run ⟨tm, lo, hp⟩ k) R) : EvD F ((C.cond c x y).run ⟨tm, lo, hp⟩ k) R := by
  have e : (C.cond c x y).run ⟨tm, lo, hp⟩ k = .br b (x.run ⟨tm, lo, hp⟩ k) (y.run ⟨tm, lo, hp⟩ k) := by
    show (match get tm c with | .bo t => D.br t (x.run ⟨tm, lo, hp⟩ k) (y.run ⟨tm, lo, hp⟩ k) | _ => .bad) = _
    rw [hc]
  rw [e]; exact .br h1 h2
theorem X.loop {keep drop : List Nat} {c : C} {st : St} {x : Ev.R} (h : EvL F keep drop (lpB c) st x) (h' : EvD F (k x) R) : EvD F ((C.loop keep drop c).run st k) R := .loop h h'
theorem X.lpb {c : C} {st : St} (h : EvD F (c.run st .done) R) : EvD F (lpB c st) R := h
theorem X.sn {b : C} {s : St} (h : EvD F (b.run s k) R) : EvD F (sK b k (.norm s)) R := h
theorem X.se {b : C} {i : Nat} {s : St} (h : EvD F (k (.exit i s)) R) : EvD F (sK b k (.exit i s)) R := h
theorem X.sr {b : C} {s : St} (h : EvD F (k (.ret s)) R) : EvD F (sK b k (.ret s)) R := h
theorem X.bn {id : Nat} {s : St} (h : EvD F (k (.norm s)) R) : EvD F (bK id k (.norm s)) R := h
theorem X.br {id : Nat} {s : St} (h : EvD F (k (.ret s)) R) : EvD F (bK id k (.ret s)) R := h
theorem X.bh {id : Nat} {s : St} (h : EvD F (k (.norm s)) R) : EvD F (bK id k (.exit id s)) R := by
  show EvD F (k (bif Nat.beq id id then .norm s else .exit id s)) R
  rw [Nat.beq_refl]; exact h
theorem X.bm {id i : Nat} {s : St} (hn : Nat.beq i id = false) (h : EvD F (k (.exit i s)) R) : EvD F (bK id k (.exit i s)) R := by
  show EvD F (k (bif Nat.beq i id then .norm s else .exit i s)) R
  rw [hn]; exact h
theorem X.pn {s : St} (h : EvD F (k (.norm s)) R) : EvD F (pK k (.norm s)) R := h
theorem X.gn (h : EvD F (k (.norm ⟨clear clr tm, lo, hp⟩)) R) : EvD F (evGds clr [] ⟨tm, lo, hp⟩ k) R := h
theorem X.g0 {ops : List DOp} {gs : List DGr} {st : St} (h : EvD F (evLs clr ops st (gK clr gs k)) R) : EvD F (evGds clr (⟨none, ops⟩ :: gs) st k) R := h
theorem X.g1 {ops : List DOp} {gs : List DGr} {t : Nat} {w b : Bool} (ht : tm t = .bo b) (h1 : b = w → EvD F (evLs clr ops ⟨upd tm t (.bo w), lo, hp⟩ (gK clr gs k)) R)
    (h2 : b = (!w) → EvD F (evGds clr gs ⟨undoT ops (upd tm t (.bo (!w))), lo, hp⟩ k) R) : EvD F (evGds clr (⟨some (t, w), ops⟩ :: gs) ⟨tm, lo, hp⟩ k) R := by
  have e : evGds clr (⟨some (t, w), ops⟩ :: gs) ⟨tm, lo, hp⟩ k = .br (bif w then b else !b) (evLs clr ops ⟨upd tm t (.bo w), lo, hp⟩ (gK clr gs k)) (evGds clr gs ⟨undoT ops (upd tm t (.bo (!w))), lo, hp⟩ k) := by
    rw [← undoT_eq]
    simp only [evGds, evGd, ht]
    rfl
  rw [e]
  exact .br (fun q => h1 (by cases w <;> cases b <;> first | rfl | cases q)) (fun q => h2 (by cases w <;> cases b <;> first | rfl | cases q))
theorem X.gt {ops : List DOp} {gs : List DGr} {t : Nat} {w : Bool} (ht : tm t = .tu []) (h : EvD F (evGds clr gs ⟨undoT ops tm, lo, hp⟩ k) R) : EvD F (evGds clr (⟨some (t, w), ops⟩ :: gs) ⟨tm, lo, hp⟩ k) R := by
  have e : evGds clr (⟨some (t, w), ops⟩ :: gs) ⟨tm, lo, hp⟩ k = evGds clr gs ⟨undoT ops tm, lo, hp⟩ k := by
    rw [← undoT_eq]
    simp only [evGds, evGd, ht]
  rw [e]; exact h
theorem X.ln {gs : List DGr} {st : St} (h : EvD F (evGds clr gs st k) R) : EvD F (evLs clr [] st (gK clr gs k)) R := h
variable {i : I} {d : Nat} {v v2 : V} {b1 b2 b3 : Bool}
theorem X.o0 (h : ∀ K KP, i.den us clr d ⟨tm, lo, hp⟩ (FV K) KP = K v ⟨tm, lo, hp⟩) (n : EvD F (evLs clr r ⟨upd tm d v, lo, hp⟩ k) R) : EvD F (evLs clr (⟨some d, g, us, i⟩ :: r) ⟨tm, lo, hp⟩ k) R := by
  have := h (fun v s => evLs clr r (put s (some d) v) k) (fun v s => k (.pan v s))
  show EvD F (i.den us clr d ⟨tm, lo, hp⟩ (FV fun v s => evLs clr r (put s (some d) v) k) fun v s => k (.pan v s)) R
  rw [this]
  exact n
theorem X.o1 (h : ∀ K KP, i.den us clr d ⟨tm, lo, hp⟩ (FV K) KP = .chk b1 (K v ⟨tm, lo, hp⟩)) (hb : b1 = true) (n : EvD F (evLs clr r ⟨upd tm d v, lo, hp⟩ k) R) : EvD F (evLs clr (⟨some d, g, us, i⟩ :: r) ⟨tm, lo, hp⟩ k) R := by
  have := h (fun v s => evLs clr r (put s (some d) v) k) (fun v s => k (.pan v s))
  have n' := EvD.chk hb n
  show EvD F (i.den us clr d ⟨tm, lo, hp⟩ (FV fun v s => evLs clr r (put s (some d) v) k) fun v s => k (.pan v s)) R
  rw [this]
  exact n'
theorem X.o2 (h : ∀ K KP, i.den us clr d ⟨tm, lo, hp⟩ (FV K) KP = .chk b1 (.chk b2 (K v ⟨tm, lo, hp⟩))) (hb : b1 = true) (hb2 : b2 = true) (n : EvD F (evLs clr r ⟨upd tm d v, lo, hp⟩ k) R) :
    EvD F (evLs clr (⟨some d, g, us, i⟩ :: r) ⟨tm, lo, hp⟩ k) R := by
  have := h (fun v s => evLs clr r (put s (some d) v) k) (fun v s => k (.pan v s))
  have n' := EvD.chk hb (EvD.chk hb2 n)
  show EvD F (i.den us clr d ⟨tm, lo, hp⟩ (FV fun v s => evLs clr r (put s (some d) v) k) fun v s => k (.pan v s)) R
  rw [this]
  exact n'
theorem X.pick {c x y : A} {b : Bool} (hc : get tm c = .bo b) (h1 : b = true → ∃ v, (∀ K : V → D, notLpD (get tm x) (forceV K) = K v) ∧ EvD F (evLs clr r ⟨upd tm d v, lo, hp⟩ k) R)
    (h2 : b = false → ∃ v, (∀ K : V → D, notLpD (get tm y) (forceV K) = K v) ∧ EvD F (evLs clr r ⟨upd tm d v, lo, hp⟩ k) R) : EvD F (evLs clr (⟨some d, g, us, .pick c x y⟩ :: r) ⟨tm, lo, hp⟩ k) R := by
  have e : evLs clr (⟨some d, g, us, .pick c x y⟩ :: r) ⟨tm, lo, hp⟩ k = .br b (notLpD (get tm x) (forceV fun v => evLs clr r ⟨upd tm d v, lo, hp⟩ k)) (notLpD (get tm y) (forceV fun v => evLs clr r ⟨upd tm d v, lo, hp⟩ k)) := by
    show (match get tm c with | .bo t => D.br t (notLpD (get tm x) (forceV fun v => evLs clr r ⟨upd tm d v, lo, hp⟩ k)) (notLpD (get tm y) (forceV fun v => evLs clr r ⟨upd tm d v, lo, hp⟩ k)) | _ => .bad) = _
    rw [hc]
  rw [e]
  refine .br (fun q => ?_) (fun q => ?_)
  · obtain ⟨v, e1, e2⟩ := h1 q; rw [e1]; exact e2
  · obtain ⟨v, e1, e2⟩ := h2 q; rw [e1]; exact e2
theorem X.pickT {c x y : A} (hc : get tm c = .bo true) {v : V} (hv : ∀ K : V → D, notLpD (get tm x) (forceV K) = K v) (n : EvD F (evLs clr r ⟨upd tm d v, lo, hp⟩ k) R) : EvD F (evLs clr (⟨some d, g, us, .pick c x y⟩ :: r) ⟨tm, lo, hp⟩ k) R :=
  X.pick hc (fun _ => ⟨v, hv, n⟩) (fun h => by cases h)
theorem X.pickF {c x y : A} (hc : get tm c = .bo false) {v : V} (hv : ∀ K : V → D, notLpD (get tm y) (forceV K) = K v) (n : EvD F (evLs clr r ⟨upd tm d v, lo, hp⟩ k) R) : EvD F (evLs clr (⟨some d, g, us, .pick c x y⟩ :: r) ⟨tm, lo, hp⟩ k) R :=
  X.pick hc (fun h => by cases h) (fun _ => ⟨v, hv, n⟩)
theorem X.condT {c : A} {x y : C} (hc : get tm c = .bo true) (h1 : EvD F (x.run ⟨tm, lo, hp⟩ k) R) : EvD F ((C.cond c x y).run ⟨tm, lo, hp⟩ k) R := X.cond hc (fun _ => h1) (fun h => by cases h)
theorem X.condF {c : A} {x y : C} (hc : get tm c = .bo false) (h1 : EvD F (y.run ⟨tm, lo, hp⟩ k) R) : EvD F ((C.cond c x y).run ⟨tm, lo, hp⟩ k) R := X.cond hc (fun h => by cases h) (fun _ => h1)
theorem X.g1T {ops : List DOp} {gs : List DGr} {t : Nat} {w : Bool} (ht : tm t = .bo w) (h1 : EvD F (evLs clr ops ⟨upd tm t (.bo w), lo, hp⟩ (gK clr gs k)) R) : EvD F (evGds clr (⟨some (t, w), ops⟩ :: gs) ⟨tm, lo, hp⟩ k) R :=
  X.g1 ht (fun _ => h1) (fun h => by cases w <;> cases h)
theorem X.g1F {ops : List DOp} {gs : List DGr} {t : Nat} {w : Bool} (ht : tm t = .bo (!w)) (h1 : EvD F (evGds clr gs ⟨undoT ops (upd tm t (.bo (!w))), lo, hp⟩ k) R) : EvD F (evGds clr (⟨some (t, w), ops⟩ :: gs) ⟨tm, lo, hp⟩ k) R :=
  X.g1 ht (fun h => by cases w <;> cases h) (fun _ => h1)
theorem X.condTs {c : A} {x y : C} {b : Bool} (hc : get tm c = .bo b) (hb : b = true) (h1 : EvD F (x.run ⟨tm, lo, hp⟩ k) R) : EvD F ((C.cond c x y).run ⟨tm, lo, hp⟩ k) R := X.condT (hb ▸ hc) h1
theorem X.condFs {c : A} {x y : C} {b : Bool} (hc : get tm c = .bo b) (hb : b = false) (h1 : EvD F (y.run ⟨tm, lo, hp⟩ k) R) : EvD F ((C.cond c x y).run ⟨tm, lo, hp⟩ k) R := X.condF (hb ▸ hc) h1
theorem X.g1Ts {ops : List DOp} {gs : List DGr} {t : Nat} {w b : Bool} (ht : tm t = .bo b) (hb : b = w) (h1 : EvD F (evLs clr ops ⟨upd tm t (.bo w), lo, hp⟩ (gK clr gs k)) R) : EvD F (evGds clr (⟨some (t, w), ops⟩ :: gs) ⟨tm, lo, hp⟩ k) R := X.g1T (hb ▸ ht) h1
theorem X.g1Fs {ops : List DOp} {gs : List DGr} {t : Nat} {w b : Bool} (ht : tm t = .bo b) (hb : b = (!w)) (h1 : EvD F (evGds clr gs ⟨undoT ops (upd tm t (.bo (!w))), lo, hp⟩ k) R) : EvD F (evGds clr (⟨some (t, w), ops⟩ :: gs) ⟨tm, lo, hp⟩ k) R := X.g1F (hb ▸ ht) h1
theorem X.alc {z : List V} (hf : fresh us tm d = true) (n : EvD F (evLs clr r ⟨upd tm d (.lp d 0), lset lo d z, hp⟩ k) R) : EvD F (evLs clr (⟨some d, g, us, .alc z⟩ :: r) ⟨tm, lo, hp⟩ k) R := by
  have e : evLs clr (⟨some d, g, us, .alc z⟩ :: r) ⟨tm, lo, hp⟩ k = bif fresh us tm d then evLs clr r ⟨upd tm d (.lp d 0), lset lo d z, hp⟩ k else .bad := rfl
  rw [e, hf]; exact n
theorem X.box {x : A} {v : V} (hx : get tm x = v) (ha : v.cells.all V.keep = true) (hf : fresh us tm d = true) (n : EvD F (evLs clr r ⟨upd tm d (.lp d 0), lset lo d v.cells, hp⟩ k) R) : EvD F (evLs clr (⟨some d, g, us, .box x⟩ :: r) ⟨tm, lo, hp⟩ k) R := by
  have e : evLs clr (⟨some d, g, us, .box x⟩ :: r) ⟨tm, lo, hp⟩ k = bif (get tm x).cells.all V.keep then (bif fresh us tm d then evLs clr r ⟨upd tm d (.lp d 0), lset lo d (get tm x).cells, hp⟩ k else .bad) else .bad := rfl
  rw [e, hx, ha, hf]; exact n
theorem X.stl {n : Nat} {a x : A} {v : V} {t off : Nat} {cs : List V} (hx : get tm x = v) (ha : get tm a = .lp t off) (hl : lo t = some cs) (h1 : Nat.beq v.cells.length n = true) (h2 : v.cells.all V.keep = true) (h3 : fresh us tm t = true)
    (h4 : Nat.ble (off + v.cells.length) cs.length = true) {cs' : List V} (hc : over off v.cells cs = cs') (nx : EvD F (evLs clr r ⟨tm, lset lo t cs', hp⟩ k) R) : EvD F (evLs clr (⟨none, g, us, .sto n a x⟩ :: r) ⟨tm, lo, hp⟩ k) R := by
  subst hc
  have e : evLs clr (⟨none, g, us, .sto n a x⟩ :: r) ⟨tm, lo, hp⟩ k = bif Nat.beq (get tm x).cells.length n then (bif (get tm x).cells.all V.keep then storeD us ⟨tm, lo, hp⟩ (get tm x).cells (get tm a) (fun s => evLs clr r s k) else .bad) else .bad := rfl
  rw [e, hx, h1, h2, ha]
  show EvD F (match lo t with | some cs => bif fresh us tm t then D.chk (Nat.ble (off + v.cells.length) cs.length) (evLs clr r ⟨tm, lset lo t (over off v.cells cs), hp⟩ k) else .bad | none => .bad) R
  rw [hl, h3]
  exact .chk h4 nx
theorem X.stp {n : Nat} {a x : A} {v : V} {id j off : Nat} {b : Bk} {row : List V} (hx : get tm x = v) (ha : get tm a = .pt id j off) (hg : hget hp id = some b) (hfr : b.fr = false) (hlim : hp.lim ≤ id) (h1 : Nat.beq v.cells.length n = true) (h2 : v.cells.all V.keep = true) (h3 : freshH us tm id = true)
    (hj : j < b.es.length) (hrow : b.es.getD j [] = row) (h4 : off + v.cells.length ≤ row.length) (nx : EvD F (evLs clr r ⟨tm, lo, hset hp id (some ⟨b.sz, false, b.es.set j (over off v.cells row)⟩)⟩ k) R) :
    EvD F (evLs clr (⟨none, g, us, .sto n a x⟩ :: r) ⟨tm, lo, hp⟩ k) R := by
  subst hrow
  have e : evLs clr (⟨none, g, us, .sto n a x⟩ :: r) ⟨tm, lo, hp⟩ k = bif Nat.beq (get tm x).cells.length n then (bif (get tm x).cells.all V.keep then storeD us ⟨tm, lo, hp⟩ (get tm x).cells (get tm a) (fun s => evLs clr r s k) else .bad) else .bad := rfl
  rw [e, hx, h1, h2, ha]
  have hlt : Nat.blt id hp.lim = false := by rw [bltD]; simp; omega
  show EvD F (match hget hp id with | some b => bif b.fr then D.bad else bif Nat.blt id hp.lim then .bad else bif freshH us tm id then D.chk (Nat.blt j b.es.length) (D.chk (Nat.ble (off + v.cells.length) (b.es.getD j []).length)
        (evLs clr r ⟨tm, lo, hset hp id (some ⟨b.sz, b.fr, b.es.set j (over off v.cells (b.es.getD j []))⟩)⟩ k)) else .bad | none => .bad) R
  rw [hg]
  simp only [hfr, cond_false, hlt, h3, cond_true]
  exact .chk (by rw [bltD]; simpa using hj) (.chk (by rw [bleD]; simpa using h4) nx)
theorem X.ldp {n : Nat} {q : Bool} {a : A} {id j off : Nat} {b : Bk} {row : List V} (ha : get tm a = .pt id j off) (hg : hget hp id = some b) (hj : j < b.es.length) (hrow : b.es.getD j [] = row) (h4 : off + n ≤ row.length) {w : V} (hw : pickC n q ((row.drop off).take n) = some w)
    (nx : EvD F (evLs clr r ⟨upd tm d w, lo, hp⟩ k) R) : EvD F (evLs clr (⟨some d, g, us, .ld n q a⟩ :: r) ⟨tm, lo, hp⟩ k) R := by
  subst hrow
  have e : evLs clr (⟨some d, g, us, .ld n q a⟩ :: r) ⟨tm, lo, hp⟩ k = loadD ⟨tm, lo, hp⟩ n (get tm a) (fun cs => oneD (pickC n q cs) fun v => forceV (fun v => evLs clr r ⟨upd tm d v, lo, hp⟩ k) v) := rfl
  rw [e, ha]
  show EvD F (match hget hp id with | some b => D.chk (Nat.blt j b.es.length) (cutD n off (b.es.getD j []) (fun cs => oneD (pickC n q cs) fun v => forceV (fun v => evLs clr r ⟨upd tm d v, lo, hp⟩ k) v)) | none => .bad) R
  rw [hg]
  refine .chk (by rw [bltD]; simpa using hj) (.chk (by rw [bleD]; simpa using h4) ?_)
  show EvD F (oneD (pickC n q (((b.es.getD j []).drop off).take n)) fun v => forceV (fun v => evLs clr r ⟨upd tm d v, lo, hp⟩ k) v) R
  rw [hw]
  show EvD F (forceV (fun v => evLs clr r ⟨upd tm d v, lo, hp⟩ k) w) R
  rw [forceV_eq]; exact nx
theorem X.call {own : Bool} {md : Md} {f : Nat} {xs : List A} {ys : List V} {w : V} {hp' : Hp} (hx : xs.map (get tm) = ys) (hl : ys.any isLp = false) (h : EvC F own f ys hp (.ret w hp')) (n : EvD F (evLs clr r ⟨upd tm d w, lo, hp'⟩ k) R) :
    EvD F (evLs clr (⟨some d, g, [], .call own md f xs⟩ :: r) ⟨tm, lo, hp⟩ k) R := by
  have e : evLs clr (⟨some d, g, [], .call own md f xs⟩ :: r) ⟨tm, lo, hp⟩ k = callD own f (xs.map (get tm)) ⟨tm, lo, hp⟩ (fun v s => forceV (fun v => evLs clr r (put s (some d) v) k) v) (fun v s => k (.pan v s)) := rfl
  rw [e, hx]
  unfold callD
  rw [hl]
  refine .call h ?_
  show EvD F (forceV (fun v => evLs clr r (put ⟨tm, lo, hp'⟩ (some d) v) k) w) R
  rw [forceV_eq]; exact n
theorem X.pcall {md : Md} {f : Nat} {xs : List A} {ys ys' zs : List V} {w : V} {fn : Ev.Fn} {hp' : Hp} (h : EvP F f fn ys' zs) (hc : ClP fn.ps ys hp ys' hp') (hx : xs.map (get tm) = ys) (hl : ys.any isLp = false) (hw : tuple zs = w)
    (n : EvD F (evLs clr r ⟨upd tm d w, lo, hp'⟩ k) R) : EvD F (evLs clr (⟨some d, g, [], .call false md f xs⟩ :: r) ⟨tm, lo, hp⟩ k) R := by
  subst hw; exact X.call hx hl (EvC.of h hc) n
theorem X.ocall {md : Md} {f : Nat} {xs : List A} {ys ys' : List V} {sz : Nat} {es : List (List V)} {fn : Ev.Fn} {hp' : Hp} (h : EvO F f fn ys' sz es) (hc : ClP fn.ps ys hp ys' hp') (hx : xs.map (get tm) = ys) (hl : ys.any isLp = false)
    (n : EvD F (evLs clr r ⟨upd tm d (.hs hp'.next 0 es.length), lo, hnew hp' ⟨sz, false, es⟩⟩ k) R) (n0 : es = [] → EvD F (evLs clr r ⟨upd tm d (.vs sz []), lo, hp'⟩ k) R) : EvD F (evLs clr (⟨some d, g, [], .call true md f xs⟩ :: r) ⟨tm, lo, hp⟩ k) R := by
  rcases EvC.ofO h hc with q | ⟨q, q'⟩
  · exact X.call hx hl q n
  · exact X.call hx hl q' (n0 q)
def Els (hp : Hp) (sz : Nat) (v : V) (rows : List (List V)) : Prop := ∀ (F : Nat → Option Ev.Fn) (k : List (List V) → D) (R : Ev.R), EvD F (k rows) R → EvD F (rowsD hp sz v k) R
theorem Els.vs {hp : Hp} {sz : Nat} (es : List (List V)) : Els hp sz (.vs sz es) es := fun F k R h => by
  show EvD F (bif Nat.beq sz sz then k es else .bad) R
  rw [Nat.beq_refl]; exact h
theorem Els.ns {hp : Hp} {sz : Nat} : Els hp sz .ns [] := fun F k R h => h
theorem Els.st {hp : Hp} (l : List Nat) : Els hp 1 (.st l) (l.map fun n => [byte n]) := fun F k R h => h
theorem Els.hs {hp : Hp} {sz id i n : Nat} {fr : Bool} {es : List (List V)} (hg : hget hp id = some ⟨sz, fr, es⟩) (hb : i + n ≤ es.length) : Els hp sz (.hs id i n) ((es.drop i).take n) := fun F k R h => by
  show EvD F (match hget hp id with | some b => bif Nat.beq b.sz sz then .chk (Nat.ble (i + n) b.es.length) (k ((b.es.drop i).take n)) else .bad | none => .bad) R
  rw [hg]
  simp only [Nat.beq_refl, cond_true]
  exact .chk (by rw [bleD]; simpa using hb) h
theorem bs_getD {l : List Int} {j : Nat} (h : j < l.length) : (bs l).getD j [] = [.it .u8 (l[j]?.getD 0)] := by
  simp [bs, List.getD, h]
theorem X.app {sz bytes : Nat} {x y : A} {vx vy : V} {new : List (List V)} (hx : get tm x = vx) (hy : get tm y = vy) (hr : Els hp sz vy new)
    (n : EvD F (appendD us ⟨tm, lo, hp⟩ sz bytes vx new (fun v s => forceV (fun v => evLs clr r (put s (some d) v) k) v)) R) : EvD F (evLs clr (⟨some d, g, us, .app sz bytes x y⟩ :: r) ⟨tm, lo, hp⟩ k) R := by
  have e : evLs clr (⟨some d, g, us, .app sz bytes x y⟩ :: r) ⟨tm, lo, hp⟩ k = rowsD hp sz (get tm y) (fun new => appendD us ⟨tm, lo, hp⟩ sz bytes (get tm x) new (fun v s => forceV (fun v => evLs clr r (put s (some d) v) k) v)) := rfl
  rw [e, hx, hy]
  exact hr _ _ _ n
theorem X.apf {sz bytes : Nat} {x y : A} {vy : V} {id n : Nat} {es new : List (List V)} (hx : get tm x = .hs id 0 n) (hy : get tm y = vy) (hr : Els hp sz vy new) (hg : hget hp id = some ⟨sz, false, es⟩) (hlim : Nat.ble hp.lim id = true)
    (hf : freshH us tm id = true) (hn : es.length = n) (h2 : Nat.ble ((n + new.length) * bytes) maxB = true) {id' : Nat} (hid : hp.next = id')
    (nx : EvD F (evLs clr r ⟨upd tm d (.hs id' 0 (n + new.length)), lo, hnew (hset hp id none) ⟨sz, false, es ++ new⟩⟩ k) R) : EvD F (evLs clr (⟨some d, g, us, .app sz bytes x y⟩ :: r) ⟨tm, lo, hp⟩ k) R := by
  refine X.app hx hy hr ?_
  subst hid
  have hlt : Nat.blt id hp.lim = false := by rw [bltD]; rw [bleD] at hlim; simp at hlim; simp; omega
  unfold appendD
  simp only [hg, cond_false, hlt, Nat.beq_refl, cond_true, hf]
  refine .chk (by rw [bleD]; simp [hn]) (.chk h2 ?_)
  rw [forceV_eq]
  show EvD F (evLs clr r ⟨upd tm d (.hs hp.next 0 (n + new.length)), lo, hnew (hset hp id none) ⟨sz, false, (es.drop 0).take n ++ new⟩⟩ k) R
  rw [List.drop_zero, ← hn, List.take_length, hn]
  exact nx
theorem X.apn {sz bytes : Nat} {x y : A} {vy : V} {new : List (List V)} (hx : get tm x = .ns) (hy : get tm y = vy) (hr : Els hp sz vy new) (hne : new ≠ []) (h2 : Nat.ble (new.length * bytes) maxB = true) {id' : Nat} (hid : hp.next = id')
    (nx : EvD F (evLs clr r ⟨upd tm d (.hs id' 0 new.length), lo, hnew hp ⟨sz, false, new⟩⟩ k) R) : EvD F (evLs clr (⟨some d, g, us, .app sz bytes x y⟩ :: r) ⟨tm, lo, hp⟩ k) R := by
  refine X.app hx hy hr ?_
  subst hid
  cases new with
  | nil => exact absurd rfl hne
  | cons a l =>
    unfold appendD
    refine .chk h2 ?_
    exact nx
theorem X.ape {sz bytes : Nat} {x y : A} {vy : V} {new : List (List V)} (hx : get tm x = .ns) (hy : get tm y = vy) (hr : Els hp sz vy new) (hne : new = [])
    (nx : EvD F (evLs clr r ⟨upd tm d .ns, lo, hp⟩ k) R) : EvD F (evLs clr (⟨some d, g, us, .app sz bytes x y⟩ :: r) ⟨tm, lo, hp⟩ k) R := by
  refine X.app hx hy hr ?_
  subst hne
  exact nx
theorem X.mks {sz bytes : Nat} {z : List V} {l c : A} {nl nc : Int} (hl : get tm l = .it .i64 nl) (hc : get tm c = .it .i64 nc) (h0 : 0 ≤ nl) (h1 : nl ≤ nc) (h2 : nc ≤ 1000000000) (h3 : bytes ≤ 100000) {id' m : Nat} (hid : hp.next = id') (hm : nl.toNat = m)
    (nx : EvD F (evLs clr r ⟨upd tm d (.hs id' 0 m), lo, hnew hp ⟨sz, false, List.replicate m z⟩⟩ k) R) : EvD F (evLs clr (⟨some d, g, us, .mks sz bytes z l c⟩ :: r) ⟨tm, lo, hp⟩ k) R := by
  subst hid; subst hm
  have e : evLs clr (⟨some d, g, us, .mks sz bytes z l c⟩ :: r) ⟨tm, lo, hp⟩ k = natD (get tm l) fun l => natD (get tm c) fun c =>
    .chk (Nat.ble l c) (.chk (Nat.ble c 9223372036854775807) (.chk (Nat.ble (c * bytes) maxB) (evLs clr r ⟨upd tm d (.hs hp.next 0 l), lo, hnew hp ⟨sz, false, List.replicate l z⟩⟩ k))) := rfl
  rw [e, hl, hc]
  have h4 : nc.toNat * bytes ≤ 1000000000 * 100000 := Nat.mul_le_mul (by omega) h3
  refine .chk ?_ (.chk ?_ (.chk ?_ (.chk ?_ (.chk ?_ nx))))
  · rw [ilt_eq, decide_eq_false (by omega)]; rfl
  · rw [ilt_eq, decide_eq_false (by omega)]; rfl
  · rw [bleD]; exact decide_eq_true (by omega)
  · rw [bleD]; exact decide_eq_true (by omega)
  · rw [bleD]; exact decide_eq_true (by unfold maxB; omega)
theorem X.mov {x : A} {v : V} (hx : get tm x = v) (hl : isLp v = false) (n : EvD F (evLs clr r ⟨upd tm d v, lo, hp⟩ k) R) : EvD F (evLs clr (⟨some d, g, us, .mov x⟩ :: r) ⟨tm, lo, hp⟩ k) R := by
  have e : evLs clr (⟨some d, g, us, .mov x⟩ :: r) ⟨tm, lo, hp⟩ k = notLpD (get tm x) fun v => forceV (fun v => evLs clr r ⟨upd tm d v, lo, hp⟩ k) v := rfl
  rw [e, hx]
  have : (notLpD v fun v => forceV (fun v => evLs clr r ⟨upd tm d v, lo, hp⟩ k) v) = evLs clr r ⟨upd tm d v, lo, hp⟩ k := by
    simp only [forceV_eq]
    cases v <;> first | rfl | cases hl
  rw [this]; exact n
theorem X.len {s : Bool} {x : A} {v : V} {m : Nat} (hx : get tm x = v) (hl : lenOf s v = some m) (n : EvD F (evLs clr r ⟨upd tm d (.it .i64 (Int.ofNat m)), lo, hp⟩ k) R) : EvD F (evLs clr (⟨some d, g, us, .len s x⟩ :: r) ⟨tm, lo, hp⟩ k) R := by
  have e : evLs clr (⟨some d, g, us, .len s x⟩ :: r) ⟨tm, lo, hp⟩ k = oneD (lenOf s (get tm x)) fun m => evLs clr r ⟨upd tm d (.it .i64 (Int.ofNat m)), lo, hp⟩ k := rfl
  rw [e, hx, hl]; exact n
theorem X.bsl {sz : Nat} {es es' : List (List V)} {ps : List (Nat × A)} {id' : Nat} (hf : fillE sz (ps.map fun (i, a) => (i, get tm a)) es = some es') (hid : hp.next = id')
    (nx : EvD F (evLs clr r ⟨upd tm d (.hs id' 0 es'.length), lo, hnew hp ⟨sz, false, es'⟩⟩ k) R) : EvD F (evLs clr (⟨some d, g, us, .bsl sz es ps⟩ :: r) ⟨tm, lo, hp⟩ k) R := by
  subst hid
  have e : evLs clr (⟨some d, g, us, .bsl sz es ps⟩ :: r) ⟨tm, lo, hp⟩ k = match fillE sz (ps.map fun (i, a) => (i, get tm a)) es with
    | some es => evLs clr r ⟨upd tm d (.hs hp.next 0 es.length), lo, hnew hp ⟨sz, false, es⟩⟩ k
    | none => .bad := rfl
  rw [e, hf]; exact nx
theorem X.iav {sz : Nat} {x ix : A} {es : List (List V)} {kk : IntKind} {j : Nat} {row : List V} (hx : get tm x = .vs sz es) (hi : get tm ix = .it kk (Int.ofNat j)) (hj : j < es.length) (hr : es.getD j [] = row)
    (nx : EvD F (evLs clr r ⟨upd tm d (.ip row), lo, hp⟩ k) R) : EvD F (evLs clr (⟨some d, g, us, .ias sz x ix⟩ :: r) ⟨tm, lo, hp⟩ k) R := by
  subst hr
  have e : evLs clr (⟨some d, g, us, .ias sz x ix⟩ :: r) ⟨tm, lo, hp⟩ k = iIas sz x ix us clr d ⟨tm, lo, hp⟩ (fun v s => forceV (fun v => evLs clr r (put s (some d) v) k) v) (fun v s => k (.pan v s)) := rfl
  rw [e]
  unfold iIas
  simp only [hx, hi]
  refine .chk (by rw [ilt_eq]; rfl) ?_
  simp only [Nat.beq_refl, cond_true]
  exact .chk (by rw [bltD]; exact decide_eq_true hj) nx
theorem X.iah {sz : Nat} {x ix : A} {kk : IntKind} {j id i0 len : Nat} {b : Bk} (hx : get tm x = .hs id i0 len) (hi : get tm ix = .it kk (Int.ofNat j)) (hg : hget hp id = some b) (hz : b.sz = sz) (hj : j < len)
    (nx : EvD F (evLs clr r ⟨upd tm d (.pt id (i0 + j) 0), lo, hp⟩ k) R) : EvD F (evLs clr (⟨some d, g, us, .ias sz x ix⟩ :: r) ⟨tm, lo, hp⟩ k) R := by
  subst hz
  have e : evLs clr (⟨some d, g, us, .ias b.sz x ix⟩ :: r) ⟨tm, lo, hp⟩ k = iIas b.sz x ix us clr d ⟨tm, lo, hp⟩ (fun v s => forceV (fun v => evLs clr r (put s (some d) v) k) v) (fun v s => k (.pan v s)) := rfl
  rw [e]
  unfold iIas
  simp only [hx, hi, hg]
  refine .chk (by rw [ilt_eq]; rfl) ?_
  simp only [Nat.beq_refl, cond_true]
  exact .chk (by rw [bltD]; exact decide_eq_true hj) nx
theorem X.fin {dd : DFn} {vs : List V} {w : V} {hp' : Hp} (h : ∀ K : List V → D, resultsD ⟨tm, lo, hp⟩ dd.res K = K vs) (hw : tuple vs = w) (hh : hp = hp') : EvD F (fK dd (.ret ⟨tm, lo, hp⟩)) (Rt w hp') := by
  subst hw; subst hh
  show EvD F (resultsD ⟨tm, lo, hp⟩ dd.res fun vs => .done (.ret ⟨fun _ => tuple vs, fun _ => none, hp⟩)) _
  rw [h]; exact .done _
theorem X.fin1 {dd : DFn} {vs : List V} {w : V} {hp' : Hp} (h : ∀ K : List V → D, resultsD ⟨tm, lo, hp⟩ dd.res K = .chk b1 (K vs)) (hb : b1 = true) (hw : tuple vs = w) (hh : hp = hp') : EvD F (fK dd (.ret ⟨tm, lo, hp⟩)) (Rt w hp') := by
  subst hw; subst hh
  show EvD F (resultsD ⟨tm, lo, hp⟩ dd.res fun vs => .done (.ret ⟨fun _ => tuple vs, fun _ => none, hp⟩)) _
  rw [h]; exact .chk hb (.done _)
theorem X.finn {dd : DFn} {st : St} (h : EvD F (fK dd (.ret st)) R) : EvD F (fK dd (.norm st)) R := h
end
end Ev
namespace Ev
variable [Glob]
open Go
def hpOf : R → Hp
  | .ret st => st.hp
  | _ => h0
theorem EvP.closed {F : Nat → Option Ev.Fn} {f : Nat} {fn : Ev.Fn} (L0 n0 : Nat) (h1 : F f = some fn) (h2 : fn.md = .pure) (h3 : fn.ps = []) (h4 : fn.rs = [.c .one])
    (h : ∀ N M, run (callF F (N + L0) (M + n0)) (N + L0) (bodyD fn [] h0) = Rt (.bo true) (hpOf (run (callF F L0 n0) L0 (bodyD fn [] h0)))) : EvP F f fn [] [.bo true] := by
  refine ⟨h1, h2, by rw [h3]; rfl, .bo true, hpOf (run (callF F L0 n0) L0 (bodyD fn [] h0)), hpOf (run (callF F L0 n0) L0 (bodyD fn [] h0)), ⟨max L0 n0, fun L n hL hn => ?_⟩, ?_⟩
  · have := h (L - L0) (n - n0)
    rw [show L - L0 + L0 = L by omega, show n - n0 + n0 = n by omega] at this
    exact this
  · rw [h4]; exact .s (clo_bo true) (.nil _)
end Ev
namespace Ev
variable [Glob]
open Go
theorem sd : (∀ (α : Type) (a b : List α), (a ++ b).length = a.length + b.length) ∧ (∀ (α : Type) (x : α) (a : List α), (x :: a).length = a.length + 1) ∧ (∀ (α : Type), ([] : List α).length = 0) ∧ (∀ (α : Type) (n : Nat) (x : α), (List.replicate n x).length = n) ∧
    (∀ a b, Nat.ble a b = decide (a ≤ b)) ∧ (∀ a b, Nat.blt a b = decide (a < b)) ∧ (∀ a b : Int, ilt a b = decide (a < b)) ∧ (∀ a b : Int, ieq a b = decide (a = b)) ∧ (∀ a b, Nat.beq a b = decide (a = b)) ∧ (∀ a b, beqL a b = decide (a = b)) ∧ (∀ l, (bs l).length = l.length) ∧
    maxB = 140737488355328 ∧ (∀ n : Int, -9223372036854775808 ≤ n → n < 9223372036854775808 → wr .i64 n = n) :=
  ⟨fun _ _ _ => List.length_append, fun _ _ _ => List.length_cons, fun _ => List.length_nil, fun _ _ _ => List.length_replicate, bleD, bltD, ilt_eq, ieqD, beqD, beqLD, bs_length, rfl, fun _ h1 h2 => wr64 h1 h2⟩
theorem sb : (∀ b : Bool, ((!b) = true) = (b = false)) ∧ (∀ b : Bool, ((!b) = false) = (b = true)) ∧ (∀ (p : Prop) [Decidable p], (decide p = true) = p) ∧ (∀ (p : Prop) [Decidable p], (decide p = false) = ¬ p) ∧ (∀ a b : Bool, ((a && b) = true) = (a = true ∧ b = true)) ∧
    (∀ a b : Bool, ((a || b) = true) = (a = true ∨ b = true)) ∧ (∀ n : Nat, Int.ofNat n = (n : Int)) ∧ (∀ n : Nat, (n : Int).toNat = n) :=
  ⟨fun b => by cases b <;> simp, fun b => by cases b <;> simp, fun p _ => by simp, fun p _ => by simp, fun a b => by simp, fun a b => by simp, fun _ => rfl, fun n => by simp⟩
theorem hgs : (∀ hp b j, hget (hnew hp b) j = if j = hp.next then some b else hget hp j) ∧ (∀ hp id b j, hget (hset hp id b) j = if j = id then b else hget hp j) ∧ (∀ hp b, (hnew hp b).next = hp.next + 1) ∧ (∀ hp id b, (hset hp id b).next = hp.next) :=
  ⟨hget_hnew, hget_hset, fun _ _ => rfl, fun _ _ _ => rfl⟩
end Ev
namespace Ev
variable [Glob]
open Go
theorem EvD.kern {F : Nat → Option Ev.Fn} {d : D} {v : V} (L0 n0 : Nat) (h : ∀ N M, run (callF F (N + L0) (M + n0)) (N + L0) d = Rt v (hpOf (run (callF F L0 n0) L0 d))) : ∃ hp, EvD F d (Rt v hp) := by
  refine ⟨hpOf (run (callF F L0 n0) L0 d), max L0 n0, fun L n hL hn => ?_⟩
  have := h (L - L0) (n - n0)
  rw [show L - L0 + L0 = L by omega, show n - n0 + n0 = n by omega] at this
  exact this
end Ev
namespace Ev
variable [Glob]
open Go
theorem EvC.kern {F : Nat → Option Ev.Fn} {own : Bool} {f : Nat} {xs : List V} {hp : Hp} {r : CR} (L0 n0 : Nat) (h : ∀ N M, callF F (N + L0) (M + n0) own f xs hp = r) : EvC F own f xs hp r := by
  refine ⟨max L0 n0, fun L n hL hn => ?_⟩
  have := h (L - L0) (n - n0)
  rw [show L - L0 + L0 = L by omega, show n - n0 + n0 = n by omega] at this
  exact this
end Ev
namespace Ev
variable [Glob]
open Go
structure Box (p : Prop) : Prop where
  un : p
end Ev
namespace Ev
variable [Glob]
theorem nlb {a b : Nat} (h : Nat.ble a b = true) : a ≤ b := Nat.le_of_ble_eq_true h
end Ev
namespace Ev
variable [Glob]
open Go
def By (hp : Hp) (v : V) (l : List Int) : Prop :=
  (v = .ns ∧ l = []) ∨ v = .vs 1 (bs l) ∨
  ∃ id i fr rows, v = .hs id i l.length ∧ id < hp.next ∧ hp.lim ≤ id ∧ hget hp id = some ⟨1, fr, bs rows⟩ ∧ i + l.length ≤ rows.length ∧ (rows.drop i).take l.length = l
theorem By.ns (hp : Hp) : By hp .ns [] := .inl ⟨rfl, rfl⟩
theorem By.vs (hp : Hp) (l : List Int) : By hp (.vs 1 (bs l)) l := .inr (.inl rfl)
theorem By.new {hp : Hp} {id : Nat} {fr : Bool} {l : List Int} (h1 : id < hp.next) (h2 : hp.lim ≤ id) (h3 : hget hp id = some ⟨1, fr, bs l⟩) : By hp (.hs id 0 l.length) l :=
  .inr (.inr ⟨id, 0, fr, l, rfl, h1, h2, h3, by simp, by simp⟩)
section
variable {hp hp' : Hp} {v : V} {l : List Int}
theorem By.lp (h : By hp v l) : isLp v = false := by
  rcases h with ⟨rfl, _⟩ | rfl | ⟨_, _, _, _, rfl, _⟩ <;> rfl
theorem By.cells (h : By hp v l) : v.cells = [v] := by
  rcases h with ⟨rfl, _⟩ | rfl | ⟨_, _, _, _, rfl, _⟩ <;> rfl
theorem By.keep (h : By hp v l) : v.keep = true := by
  rcases h with ⟨rfl, _⟩ | rfl | ⟨_, _, _, _, rfl, _⟩ <;> rfl
theorem By.len (h : By hp v l) : lenOf false v = some l.length := by
  rcases h with ⟨rfl, rfl⟩ | rfl | ⟨_, _, _, _, rfl, _⟩
  · rfl
  · show some (bs l).length = _; rw [bs_length]
  · rfl
theorem By.els (h : By hp v l) : Els hp 1 v (bs l) := by
  rcases h with ⟨rfl, rfl⟩ | rfl | ⟨id, i, fr, rows, rfl, h1, h2, h3, h4, h5⟩
  · exact .ns
  · exact .vs _
  · have e : ((bs rows).drop i).take l.length = bs l := by rw [bs_drop, bs_take, h5]
    have := Els.hs (sz := 1) (i := i) (n := l.length) h3 (by rw [bs_length]; exact h4)
    rw [e] at this; exact this
theorem By.slice (h : By hp v l) {a b : Nat} (h1 : a ≤ b) (h2 : b ≤ l.length) : ∃ v', sliceV v a b = some v' ∧ By hp v' ((l.drop a).take (b - a)) := by
  rcases h with ⟨rfl, rfl⟩ | rfl | ⟨id, i, fr, rows, rfl, q1, q2, q3, q4, q5⟩
  · exact ⟨.ns, rfl, by simp; exact .ns hp⟩
  · refine ⟨_, rfl, ?_⟩
    rw [bs_drop, bs_take]; exact .vs hp _
  · refine ⟨.hs id (i + a) (b - a), rfl, .inr (.inr ⟨id, i + a, fr, rows, ?_, q1, q2, q3, ?_, ?_⟩)⟩
    · congr 1; simp; omega
    · simp; omega
    · have el : ((l.drop a).take (b - a)).length = b - a := by simp; omega
      rw [el]
      conv => rhs; rw [← q5]
      rw [List.drop_take, List.drop_drop, List.take_take, Nat.min_eq_left (by omega)]
theorem By.sz (h : By hp v l) {D1 : D} : szD hp 1 v D1 = D1 := by
  rcases h with ⟨rfl, rfl⟩ | rfl | ⟨id, i, fr, rows, rfl, q1, q2, q3, q4, q5⟩
  · rfl
  · rfl
  · unfold szD; simp only [q3]; rfl
structure Ex (hp hp' : Hp) (R : Nat) : Prop where
  next : hp.next ≤ hp'.next
  lim : hp'.lim = hp.lim
  get : ∀ j b, j ≠ R → hget hp j = some b → hget hp' j = some b
theorem Ex.refl (hp : Hp) (R : Nat) : Ex hp hp R := ⟨Nat.le_refl _, rfl, fun j b _ h => h⟩
theorem Ex.trans {a b c : Hp} {R : Nat} (h : Ex a b R) (h' : Ex b c R) : Ex a c R :=
  ⟨Nat.le_trans h.next h'.next, h'.lim.trans h.lim, fun j x hj hx => h'.get j _ hj (h.get j x hj hx)⟩
theorem Ex.new (hp : Hp) (b : Bk) (R : Nat) (hn : ∀ j, hp.next ≤ j → hget hp j = none) : Ex hp (hnew hp b) R :=
  ⟨by rw [hnew_next]; omega, rfl, fun j x _ hx => by
    rw [hget_old (fun e => by rw [e, hn _ (Nat.le_refl _)] at hx; cases hx)]; exact hx⟩
theorem Ex.set (hp : Hp) (b : Option Bk) (R : Nat) : Ex hp (hset hp R b) R :=
  ⟨Nat.le_refl _, rfl, fun j x hj hx => by rw [hget_other hj]; exact hx⟩
theorem By.mono {R : Nat} (h : By hp v l) (e : Ex hp hp' R) (hR : ∀ b, hget hp R = some b → b.sz ≠ 1) : By hp' v l := by
  rcases h with h | h | ⟨id, i, fr, rows, rfl, q1, q2, q3, q4, q5⟩
  · exact .inl h
  · exact .inr (.inl h)
  · have x := e.get id _ (fun q => by subst q; exact hR _ q3 rfl) q3
    exact .inr (.inr ⟨id, i, fr, rows, rfl, Nat.lt_of_lt_of_le q1 e.next, by rw [e.lim]; exact q2, x, q4, q5⟩)
end
def Nil (hp : Hp) : Prop := ∀ j, hp.next ≤ j → hget hp j = none
theorem Nil.new {hp : Hp} (h : Nil hp) (b : Bk) : Nil (hnew hp b) := fun j hj => by
  rw [hnew_next] at hj
  rw [hget_old (by omega)]; exact h j (by omega)
theorem Nil.set {hp : Hp} (h : Nil hp) {id : Nat} (hid : id < hp.next) (b : Option Bk) : Nil (hset hp id b) := fun j hj => by
  rw [hset_next] at hj
  rw [hget_other (by omega)]; exact h j hj
section
variable {F : Nat → Option Ev.Fn} {R : R} {k : Ev.R → D} {clr : List Nat} {tm : Tm} {lo : Lo} {hp : Hp} {r : List DOp} {us : List Nat} {g : Option (Nat × Bool)} {d : Nat} {v : V} {l : List Int}
def bnd (tm : Tm) (d : Nat) (o : Option A) (a : Nat) : Prop := match o with | none => d = a | some y => ∃ kk, get tm y = .it kk (Int.ofNat a)
theorem bnd_D {o : Option A} {dd a : Nat} {K : Nat → D} (h : bnd tm dd o a) (n : EvD F (K a) R) : EvD F (boundD tm dd o K) R := by
  cases o with
  | none => cases h; exact n
  | some y =>
    obtain ⟨kk, e⟩ := h
    unfold boundD natD
    simp only [e]
    exact .chk (by rw [ilt_eq]; rfl) n
def Pv (hp : Hp) (w : V) (y : Int) : Prop := w = .ip [.it .u8 y] ∨ ∃ id j b, w = .pt id j 0 ∧ hget hp id = some b ∧ j < b.es.length ∧ b.es.getD j [] = [.it .u8 y]
theorem Pv.lp {w : V} {y : Int} (h : Pv hp w y) : isLp w = false := by rcases h with rfl | ⟨_, _, _, rfl, _⟩ <;> rfl
theorem X.iaB {x ix : A} {kk : IntKind} {j : Nat} (hx : get tm x = v) (hB : By hp v l) (hi : get tm ix = .it kk (Int.ofNat j)) (hj : j < l.length)
    (nx : ∀ w, Pv hp w (l[j]?.getD 0) → isLp w = false → EvD F (evLs clr r ⟨upd tm d w, lo, hp⟩ k) R) : EvD F (evLs clr (⟨some d, g, us, .ias 1 x ix⟩ :: r) ⟨tm, lo, hp⟩ k) R := by
  rcases hB with ⟨rfl, rfl⟩ | rfl | ⟨id, i, fr, rows, rfl, q1, q2, q3, q4, q5⟩
  · simp at hj
  · exact X.iav hx hi (by rw [bs_length]; exact hj) (bs_getD hj) (nx _ (.inl rfl) rfl)
  · refine X.iah hx hi q3 rfl hj (nx _ (.inr ⟨id, i + j, _, rfl, q3, ?_, ?_⟩) rfl)
    · rw [bs_length]; omega
    · rw [bs_getD (by omega)]
      have : l[j]? = rows[i + j]? := by
        conv => lhs; rw [← q5]
        rw [List.getElem?_take_of_lt hj, List.getElem?_drop]
      rw [this]
theorem X.ldB {a : A} {w : V} {y : Int} (ha : get tm a = w) (hP : Pv hp w y) (nx : EvD F (evLs clr r ⟨upd tm d (.it .u8 y), lo, hp⟩ k) R) : EvD F (evLs clr (⟨some d, g, us, .ld 1 false a⟩ :: r) ⟨tm, lo, hp⟩ k) R := by
  rcases hP with rfl | ⟨id, j, b, rfl, q1, q2, q3⟩
  · have e : evLs clr (⟨some d, g, us, .ld 1 false a⟩ :: r) ⟨tm, lo, hp⟩ k = loadD ⟨tm, lo, hp⟩ 1 (get tm a) (fun cs => oneD (pickC 1 false cs) fun v => forceV (fun v => evLs clr r ⟨upd tm d v, lo, hp⟩ k) v) := rfl
    rw [e, ha]
    exact .chk rfl nx
  · exact X.ldp ha q1 q2 q3 (by simp) rfl nx
theorem X.stB {a x : A} {w : V} {id off : Nat} {sz : Nat} {row row' : List V} (hx : get tm x = w) (hc : w.cells = [w]) (hkp : w.keep = true) (ha : get tm a = .pt id 0 off) (hg : hget hp id = some ⟨sz, false, [row]⟩) (hlim : hp.lim ≤ id) (h3 : freshH us tm id = true)
    (h4 : off + 1 ≤ row.length) (hrow : over off [w] row = row') (nx : EvD F (evLs clr r ⟨tm, lo, hset hp id (some ⟨sz, false, [row']⟩)⟩ k) R) : EvD F (evLs clr (⟨none, g, us, .sto 1 a x⟩ :: r) ⟨tm, lo, hp⟩ k) R := by
  subst hrow
  refine X.stp hx ha hg rfl hlim (by rw [hc]; rfl) (by rw [hc]; simp [hkp]) h3 (by simp) rfl (by rw [hc]; exact h4) ?_
  rw [hc]
  exact nx
end
theorem wrN {a : Nat} (h : a < 9223372036854775808) : wr .i64 (a : Int) = (a : Int) := wr64 (by omega) (by omega)
def orI (x y : Int) : Int := wr .i64 (.ofNat (Nat.lor (toU (2 ^ kbits .i64) x) (toU (2 ^ kbits .i64) y)))
theorem orN {a b : Nat} (ha : a < 4611686018427387904) (hb : b < 4611686018427387904) : orI (a : Int) (b : Int) = ((a ||| b : Nat) : Int) := by
  unfold orI
  have e1 : toU (2 ^ kbits .i64) (a : Int) = a := Nat.mod_eq_of_lt (by show a < 2 ^ 64; omega)
  have e2 : toU (2 ^ kbits .i64) (b : Int) = b := Nat.mod_eq_of_lt (by show b < 2 ^ 64; omega)
  rw [e1, e2]
  have : a ||| b < 2 ^ 62 := Nat.or_lt_two_pow ha hb
  exact wrN (a := a ||| b) (by omega)
theorem or_add {a b i : Nat} (h : b < 2 ^ i) : (a * 2 ^ i) ||| b = a * 2 ^ i + b := by
  rw [← Nat.shiftLeft_eq, Nat.shiftLeft_add_eq_or_of_lt h]
theorem num3 {a b c : Int} (ha : 0 ≤ a ∧ a ≤ 255) (hb : 0 ≤ b ∧ b ≤ 255) (hc : 0 ≤ c ∧ c ≤ 255) :
    orI (orI (wr .i64 (wr .i64 a * 65536)) (wr .i64 (wr .i64 b * 256))) (wr .i64 c) = a * 65536 + b * 256 + c := by
  obtain ⟨a, rfl⟩ := Int.eq_ofNat_of_zero_le ha.1
  obtain ⟨b, rfl⟩ := Int.eq_ofNat_of_zero_le hb.1
  obtain ⟨c, rfl⟩ := Int.eq_ofNat_of_zero_le hc.1
  rw [wrN (a := a) (by omega), wrN (a := b) (by omega), wrN (a := c) (by omega)]
  have e1 : wr .i64 ((a : Int) * 65536) = ((a * 2 ^ 16 : Nat) : Int) := by rw [show (a : Int) * 65536 = ((a * 2 ^ 16 : Nat) : Int) by simp]; exact wrN (by omega)
  have e2 : wr .i64 ((b : Int) * 256) = ((b * 256 : Nat) : Int) := by rw [show (b : Int) * 256 = ((b * 256 : Nat) : Int) by simp]; exact wrN (by omega)
  rw [e1, e2, orN (by omega) (by omega), or_add (by omega)]
  have e3 : a * 2 ^ 16 + b * 256 = (a * 256 + b) * 2 ^ 8 := by omega
  rw [e3, orN (by omega) (by omega), or_add (by omega)]
  omega
theorem num4 {a b c e : Int} (ha : 0 ≤ a ∧ a ≤ 255) (hb : 0 ≤ b ∧ b ≤ 255) (hc : 0 ≤ c ∧ c ≤ 255) (he : 0 ≤ e ∧ e ≤ 255) :
    orI (orI (orI (wr .i64 (wr .i64 (wr .u8 (.ofNat (Nat.land (toU (2 ^ kbits .u8) a) (toU (2 ^ kbits .u8) 127)))) * 16777216)) (wr .i64 (wr .i64 b * 65536))) (wr .i64 (wr .i64 c * 256))) (wr .i64 e) = a % 128 * 16777216 + b * 65536 + c * 256 + e := by
  obtain ⟨a, rfl⟩ := Int.eq_ofNat_of_zero_le ha.1
  obtain ⟨b, rfl⟩ := Int.eq_ofNat_of_zero_le hb.1
  obtain ⟨c, rfl⟩ := Int.eq_ofNat_of_zero_le hc.1
  obtain ⟨e, rfl⟩ := Int.eq_ofNat_of_zero_le he.1
  have l1 : Nat.land (toU (2 ^ kbits .u8) (a : Int)) (toU (2 ^ kbits .u8) 127) = a % 128 := by
    have e1 : toU (2 ^ kbits .u8) (a : Int) = a := Nat.mod_eq_of_lt (by show a < 2 ^ 8; omega)
    rw [e1]
    exact Nat.and_two_pow_sub_one_eq_mod a 7
  rw [l1]
  have l2 : wr .u8 (.ofNat (a % 128)) = ((a % 128 : Nat) : Int) := by
    have q : ((a % 128 : Nat) : Int) < 256 := by omega
    exact wr8 (n := ((a % 128 : Nat) : Int)) (by omega) q
  rw [l2, wrN (a := a % 128) (by omega), wrN (a := b) (by omega), wrN (a := c) (by omega), wrN (a := e) (by omega)]
  have e0 : wr .i64 (((a % 128 : Nat) : Int) * 16777216) = ((a % 128 * 2 ^ 24 : Nat) : Int) := by rw [show ((a % 128 : Nat) : Int) * 16777216 = ((a % 128 * 2 ^ 24 : Nat) : Int) by simp]; exact wrN (by omega)
  have e1 : wr .i64 ((b : Int) * 65536) = ((b * 65536 : Nat) : Int) := by rw [show (b : Int) * 65536 = ((b * 65536 : Nat) : Int) by simp]; exact wrN (by omega)
  have e2 : wr .i64 ((c : Int) * 256) = ((c * 256 : Nat) : Int) := by rw [show (c : Int) * 256 = ((c * 256 : Nat) : Int) by simp]; exact wrN (by omega)
  rw [e0, e1, e2, orN (by omega) (by omega), or_add (by omega)]
  have e3 : ∀ q b : Nat, q * 2 ^ 24 + b * 65536 = (q * 256 + b) * 2 ^ 16 := by intro q b; omega
  rw [e3 (a % 128) b, orN (by omega) (by omega), or_add (by omega)]
  have e4 : ∀ q c : Nat, q * 2 ^ 16 + c * 256 = (q * 256 + c) * 2 ^ 8 := by intro q c; omega
  rw [e4 (a % 128 * 256 + b) c, orN (by omega) (by omega), or_add (by omega)]
  omega
def andI (x y : Int) : Int := wr .u8 (.ofNat (Nat.land (toU (2 ^ kbits .u8) x) (toU (2 ^ kbits .u8) y)))
theorem num3' {a b c : Int} (ha : 0 ≤ a ∧ a ≤ 255) (hb : 0 ≤ b ∧ b ≤ 255) (hc : 0 ≤ c ∧ c ≤ 255) :
    orI (orI (wr .i64 (wr .i64 a * Int.ofNat 65536)) (wr .i64 (wr .i64 b * Int.ofNat 256))) (wr .i64 c) = a * 65536 + b * 256 + c := num3 ha hb hc
theorem num4' {a b c e : Int} (ha : 0 ≤ a ∧ a ≤ 255) (hb : 0 ≤ b ∧ b ≤ 255) (hc : 0 ≤ c ∧ c ≤ 255) (he : 0 ≤ e ∧ e ≤ 255) :
    orI (orI (orI (wr .i64 (wr .i64 (andI a (Int.ofNat 127)) * Int.ofNat 16777216)) (wr .i64 (wr .i64 b * Int.ofNat 65536))) (wr .i64 (wr .i64 c * Int.ofNat 256))) (wr .i64 e) = a % 128 * 16777216 + b * 65536 + c * 256 + e := num4 ha hb hc he
section
variable {F : Nat → Option Ev.Fn} {R : R} {k : Ev.R → D} {clr : List Nat} {tm : Tm} {lo : Lo} {hp : Hp} {r : List DOp} {us : List Nat} {g : Option (Nat × Bool)} {d : Nat} {q : Qk} {x y : A} {A1 B1 : Int}
theorem X.orr (hx : get tm x = .it .i64 A1) (hy : get tm y = .it .i64 B1) (n : EvD F (evLs clr r ⟨upd tm d (.it .i64 (orI A1 B1)), lo, hp⟩ k) R) : EvD F (evLs clr (⟨some d, g, us, .bin q .or x y⟩ :: r) ⟨tm, lo, hp⟩ k) R := by
  have e : evLs clr (⟨some d, g, us, .bin q .or x y⟩ :: r) ⟨tm, lo, hp⟩ k = binD hp q .or (get tm x) (get tm y) (fun v => forceV (fun v => evLs clr r ⟨upd tm d v, lo, hp⟩ k) v) := rfl
  rw [e, hx, hy]; exact n
theorem X.andr (hx : get tm x = .it .u8 A1) (hy : get tm y = .it .u8 B1) (n : EvD F (evLs clr r ⟨upd tm d (.it .u8 (andI A1 B1)), lo, hp⟩ k) R) : EvD F (evLs clr (⟨some d, g, us, .bin q .and x y⟩ :: r) ⟨tm, lo, hp⟩ k) R := by
  have e : evLs clr (⟨some d, g, us, .bin q .and x y⟩ :: r) ⟨tm, lo, hp⟩ k = binD hp q .and (get tm x) (get tm y) (fun v => forceV (fun v => evLs clr r ⟨upd tm d v, lo, hp⟩ k) v) := rfl
  rw [e, hx, hy]; exact n
theorem X.shl {kk : IntKind} {s : Nat} {p : Int} (hx : get tm x = .it .i64 A1) (hy : get tm y = .it kk (Int.ofNat s)) (hs : Int.ofNat (2 ^ Nat.min s 64) = p) (n : EvD F (evLs clr r ⟨upd tm d (.it .i64 (wr .i64 (A1 * p))), lo, hp⟩ k) R) :
    EvD F (evLs clr (⟨some d, g, us, .bin q .shl x y⟩ :: r) ⟨tm, lo, hp⟩ k) R := by
  subst hs
  have e : evLs clr (⟨some d, g, us, .bin q .shl x y⟩ :: r) ⟨tm, lo, hp⟩ k = binD hp q .shl (get tm x) (get tm y) (fun v => forceV (fun v => evLs clr r ⟨upd tm d v, lo, hp⟩ k) v) := rfl
  rw [e, hx, hy]
  exact .chk (by rw [ilt_eq]; rfl) n
theorem EvC.ofRw {own : Bool} {f : Nat} (dd : DFn) {ys : List V} {w : V} {hp' : Hp} (h1 : F f = some dd.den) (h2 : dd.md = .rw) (h3 : Nat.beq ys.length dd.ps.length = true) (h4 : EvD F (stepD dd ys hp) (Rt w hp')) : EvC F own f ys hp (.ret w hp') := by
  rw [stepD_eq] at h4
  exact EvC.rw h1 h2 h3 h4 rfl
end
theorem fresh_cons {t d : Nat} {us : List Nat} {tm : Tm} (h : isLp (tm t) = false) (r : fresh us tm d = true) : fresh (t :: us) tm d = true := by
  unfold fresh
  cases e : tm t <;> first | exact r | (rw [e] at h; cases h)
section
variable {F : Nat → Option Ev.Fn} {R : R} {k : Ev.R → D} {clr : List Nat} {tm : Tm} {lo : Lo} {hp : Hp} {r : List DOp} {us : List Nat} {g : Option (Nat × Bool)}
theorem X.stlB {a x : A} {w : V} {t off : Nat} {cs cs' : List V} (hx : get tm x = w) (hc : w.cells = [w]) (hkp : w.keep = true) (ha : get tm a = .lp t off) (hl : lo t = some cs) (h3 : fresh us tm t = true) (h4 : off + 1 ≤ cs.length) (hcs : over off [w] cs = cs')
    (nx : EvD F (evLs clr r ⟨tm, lset lo t cs', hp⟩ k) R) : EvD F (evLs clr (⟨none, g, us, .sto 1 a x⟩ :: r) ⟨tm, lo, hp⟩ k) R :=
  X.stl hx ha hl (by rw [hc]; rfl) (by rw [hc]; simp [hkp]) h3 (by rw [hc, bleD]; exact decide_eq_true h4) (by rw [hc]; exact hcs) nx
end
def slv (v : V) (a b : Nat) : V := (sliceV v a b).getD .ns
def pw (v : V) (j : Nat) : V := match v with | .vs _ es => .ip (es.getD j []) | .hs id i _ => .pt id (i + j) 0 | _ => .ns
def apv (hp : Hp) (l : List Int) : V := if l = [] then .ns else .hs hp.next 0 l.length
def aph (hp : Hp) (l : List Int) : Hp := if l = [] then hp else hnew hp ⟨1, false, bs l⟩
theorem slv_lp (v : V) (a b : Nat) : isLp (slv v a b) = false := by cases v <;> rfl
theorem pw_lp (v : V) (j : Nat) : isLp (pw v j) = false := by cases v <;> rfl
theorem apv_lp (hp : Hp) (l : List Int) : isLp (apv hp l) = false := by unfold apv; split <;> rfl
theorem apv_cells (hp : Hp) (l : List Int) : (apv hp l).cells = [apv hp l] := by unfold apv; split <;> rfl
theorem apv_keep (hp : Hp) (l : List Int) : (apv hp l).keep = true := by unfold apv; split <;> rfl
theorem aph_lim (hp : Hp) (l : List Int) : (aph hp l).lim = hp.lim := by unfold aph; split <;> rfl
theorem aph_next (hp : Hp) (l : List Int) : hp.next ≤ (aph hp l).next := by
  unfold aph; split
  · exact Nat.le_refl _
  · rw [hnew_next]; omega
theorem aph_get {hp : Hp} (hN : Nil hp) (l : List Int) {j : Nat} {b : Bk} (h : hget hp j = some b) : hget (aph hp l) j = some b := by
  unfold aph; split
  · exact h
  · rw [hget_old (fun e => by rw [e, hN _ (Nat.le_refl _)] at h; cases h)]; exact h
theorem aph_nil {hp : Hp} (hN : Nil hp) (l : List Int) : Nil (aph hp l) := by
  unfold aph; split
  · exact hN
  · exact hN.new _
theorem aph_ex {hp : Hp} (hN : Nil hp) (l : List Int) (Q : Nat) : Ex hp (aph hp l) Q :=
  ⟨aph_next hp l, aph_lim hp l, fun j b _ h => aph_get hN l h⟩
theorem apv_by {hp : Hp} (hlim : hp.lim ≤ hp.next) (l : List Int) : By (aph hp l) (apv hp l) l := by
  unfold apv aph
  by_cases h : l = []
  · subst h; exact .ns hp
  · rw [if_neg h, if_neg h]
    exact .new (by rw [hnew_next]; omega) (by rw [hnew_lim]; exact hlim) (hget_new _ _)
section
variable {F : Nat → Option Ev.Fn} {R : R} {k : Ev.R → D} {clr : List Nat} {tm : Tm} {lo : Lo} {hp : Hp} {r : List DOp} {us : List Nat} {g : Option (Nat × Bool)} {d : Nat} {v : V} {l : List Int}
theorem By.slv (h : By hp v l) {a b : Nat} (h1 : a ≤ b) (h2 : b ≤ l.length) : By hp (slv v a b) ((l.drop a).take (b - a)) := by
  obtain ⟨v', e, h'⟩ := h.slice h1 h2
  unfold Ev.slv; rw [e]; exact h'
theorem X.slcE {x : A} {o1 o2 : Option A} {a b : Nat} (hx : get tm x = v) (hB : By hp v l) (h1 : bnd tm 0 o1 a) (h2 : bnd tm l.length o2 b) (hab : a ≤ b) (hb : b ≤ l.length)
    (nx : EvD F (evLs clr r ⟨upd tm d (slv v a b), lo, hp⟩ k) R) : EvD F (evLs clr (⟨some d, g, us, .slc false 1 x o1 o2⟩ :: r) ⟨tm, lo, hp⟩ k) R := by
  have e : evLs clr (⟨some d, g, us, .slc false 1 x o1 o2⟩ :: r) ⟨tm, lo, hp⟩ k = szD hp 1 (get tm x) (oneD (lenOf false (get tm x)) fun n => boundD tm 0 o1 fun l => boundD tm n o2 fun h =>
      .chk (Nat.ble l h) (.chk (Nat.ble h n) (oneD (sliceV (get tm x) l h) fun v => forceV (fun v => evLs clr r ⟨upd tm d v, lo, hp⟩ k) v))) := rfl
  obtain ⟨v', e1, e2⟩ := hB.slice hab hb
  have e3 : slv v a b = v' := by unfold slv; rw [e1]; rfl
  rw [e3] at nx
  rw [e, hx, hB.sz, hB.len]
  show EvD F (boundD tm 0 o1 fun a => boundD tm l.length o2 fun h => .chk (Nat.ble a h) (.chk (Nat.ble h l.length) (oneD (sliceV v a h) fun v => forceV (fun v => evLs clr r ⟨upd tm d v, lo, hp⟩ k) v))) R
  apply bnd_D h1
  show EvD F (boundD tm l.length o2 fun h => .chk (Nat.ble a h) (.chk (Nat.ble h l.length) (oneD (sliceV v a h) fun v => forceV (fun v => evLs clr r ⟨upd tm d v, lo, hp⟩ k) v))) R
  apply bnd_D h2
  refine .chk (by rw [bleD]; exact decide_eq_true hab) (.chk (by rw [bleD]; exact decide_eq_true hb) ?_)
  rw [e1]
  show EvD F (forceV (fun v => evLs clr r ⟨upd tm d v, lo, hp⟩ k) v') R
  rw [forceV_eq]; exact nx
theorem By.pv (hB : By hp v l) {j : Nat} (hj : j < l.length) : Pv hp (pw v j) (l[j]?.getD 0) := by
  rcases hB with ⟨rfl, rfl⟩ | rfl | ⟨id, i, fr, rows, rfl, q1, q2, q3, q4, q5⟩
  · simp at hj
  · exact .inl (by show V.ip ((bs l).getD j []) = _; rw [bs_getD hj])
  · refine .inr ⟨id, i + j, _, rfl, q3, by rw [bs_length]; omega, ?_⟩
    rw [bs_getD (by omega)]
    have : l[j]? = rows[i + j]? := by
      conv => lhs; rw [← q5]
      rw [List.getElem?_take_of_lt hj, List.getElem?_drop]
    rw [this]
theorem X.iaE {x ix : A} {kk : IntKind} {j : Nat} (hx : get tm x = v) (hB : By hp v l) (hi : get tm ix = .it kk (Int.ofNat j)) (hj : j < l.length)
    (nx : EvD F (evLs clr r ⟨upd tm d (pw v j), lo, hp⟩ k) R) : EvD F (evLs clr (⟨some d, g, us, .ias 1 x ix⟩ :: r) ⟨tm, lo, hp⟩ k) R := by
  rcases hB with ⟨rfl, rfl⟩ | rfl | ⟨id, i, fr, rows, rfl, q1, q2, q3, q4, q5⟩
  · simp at hj
  · exact X.iav hx hi (by rw [bs_length]; exact hj) rfl nx
  · exact X.iah hx hi q3 rfl hj nx
theorem X.ldE {a : A} {j : Nat} (ha : get tm a = pw v j) (hB : By hp v l) (hj : j < l.length) (nx : EvD F (evLs clr r ⟨upd tm d (.it .u8 (l[j]?.getD 0)), lo, hp⟩ k) R) :
    EvD F (evLs clr (⟨some d, g, us, .ld 1 false a⟩ :: r) ⟨tm, lo, hp⟩ k) R := X.ldB ha (hB.pv hj) nx
theorem X.apE {bytes : Nat} {x y : A} (hx : get tm x = .ns) (hy : get tm y = v) (hB : By hp v l) (h2 : l.length * bytes ≤ 140737488355328) (nx : EvD F (evLs clr r ⟨upd tm d (apv hp l), lo, aph hp l⟩ k) R) :
    EvD F (evLs clr (⟨some d, g, us, .app 1 bytes x y⟩ :: r) ⟨tm, lo, hp⟩ k) R := by
  unfold apv aph at nx
  by_cases h : l = []
  · subst h
    exact X.ape hx hy hB.els rfl nx
  · rw [if_neg h, if_neg h] at nx
    refine X.apn hx hy hB.els (by simp [bs]; exact h) (by rw [bleD, bs_length]; exact decide_eq_true h2) rfl ?_
    rw [bs_length]
    exact nx
end
theorem notLp_eq {v : V} (h : isLp v = false) (K : V → D) : notLpD v K = K v := by cases v <;> first | rfl | cases h
section
variable {F : Nat → Option Ev.Fn} {tm : Tm} {lo : Lo} {hp : Hp}
theorem X.fin_t {dd : DFn} {t : Nat} {v : V} {hp' : Hp} (hr : dd.res = [.tmp t]) (ht : tm t = v) (hl : isLp v = false) (hh : hp = hp') : EvD F (fK dd (.ret ⟨tm, lo, hp⟩)) (Rt v hp') := by
  subst hh
  show EvD F (resultsD ⟨tm, lo, hp⟩ dd.res fun vs => .done (.ret ⟨fun _ => tuple vs, fun _ => none, hp⟩)) _
  rw [hr]
  show EvD F (notLpD (tm t) fun v => .done (.ret ⟨fun _ => tuple [v], fun _ => none, hp⟩)) _
  rw [ht, notLp_eq hl]
  exact .done _
theorem X.fin_tc {dd : DFn} {t u n b : Nat} {v : V} {cs : List V} {hp' : Hp} (hr : dd.res = [.tmp t, .cell u n true]) (ht : tm t = v) (hl : isLp v = false) (hu : tm u = .lp b 0) (hb : lo b = some cs) (hn : cs.length = n) (hh : hp = hp') :
    EvD F (fK dd (.ret ⟨tm, lo, hp⟩)) (Rt (.tu [v, .ag cs]) hp') := by
  subst hh; subst hn
  show EvD F (resultsD ⟨tm, lo, hp⟩ dd.res fun vs => .done (.ret ⟨fun _ => tuple vs, fun _ => none, hp⟩)) _
  rw [hr]
  show EvD F (notLpD (tm t) fun v => loadD ⟨tm, lo, hp⟩ cs.length (tm u) fun cs' => .done (.ret ⟨fun _ => tuple [v, .ag cs'], fun _ => none, hp⟩)) _
  rw [ht, notLp_eq hl, hu]
  show EvD F (match lo b with | some cs' => cutD cs.length 0 cs' fun cs' => .done (.ret ⟨fun _ => tuple [v, .ag cs'], fun _ => none, hp⟩) | none => .bad) _
  rw [hb]
  refine .chk (by rw [bleD]; simp) ?_
  rw [List.drop_zero, List.take_length]
  exact .done _
end
def apv2 (hp : Hp) (l m : List Int) : V := if l = [] then apv hp m else .hs (hp.next + 1) 0 (l.length + m.length)
def aph2 (hp : Hp) (l m : List Int) : Hp := if l = [] then aph hp m else hnew (hset (hnew hp ⟨1, false, bs l⟩) hp.next none) ⟨1, false, bs (l ++ m)⟩
section
variable {hp : Hp} {l m : List Int}
theorem aph2_lim : (aph2 hp l m).lim = hp.lim := by
  unfold aph2; split
  · exact aph_lim _ _
  · rfl
theorem aph2_next : hp.next ≤ (aph2 hp l m).next := by
  unfold aph2; split
  · exact aph_next _ _
  · rw [hnew_next, hset_next, hnew_next]; omega
theorem aph2_get (hN : Nil hp) {j : Nat} {b : Bk} (h : hget hp j = some b) : hget (aph2 hp l m) j = some b := by
  unfold aph2; split
  · exact aph_get hN _ h
  · have hj : j < hp.next := by
      rcases Nat.lt_or_ge j hp.next with q | q
      · exact q
      · rw [hN j q] at h; cases h
    rw [hget_old (by rw [hset_next, hnew_next]; omega), hget_other (by omega), hget_old (by omega)]; exact h
theorem aph2_nil (hN : Nil hp) : Nil (aph2 hp l m) := by
  unfold aph2; split
  · exact aph_nil hN _
  · exact ((hN.new _).set (by rw [hnew_next]; omega) _).new _
theorem aph2_ex (hN : Nil hp) (Q : Nat) : Ex hp (aph2 hp l m) Q := ⟨aph2_next, aph2_lim, fun j b _ h => aph2_get hN h⟩
theorem apv2_by (hlim : hp.lim ≤ hp.next) : By (aph2 hp l m) (apv2 hp l m) (l ++ m) := by
  unfold apv2 aph2
  by_cases h : l = []
  · subst h; exact apv_by hlim m
  · rw [if_neg h, if_neg h]
    have := By.new (hp := hnew (hset (hnew hp ⟨1, false, bs l⟩) hp.next none) ⟨1, false, bs (l ++ m)⟩) (id := hp.next + 1) (fr := false) (l := l ++ m) (by rw [hnew_next, hset_next, hnew_next]; omega)
      (by show hp.lim ≤ hp.next + 1; omega) (hget_new (hset (hnew hp ⟨1, false, bs l⟩) hp.next none) _)
    rw [List.length_append] at this
    exact this
end
section
variable {F : Nat → Option Ev.Fn} {R : R} {k : Ev.R → D} {clr : List Nat} {tm : Tm} {lo : Lo} {hp : Hp} {r : List DOp} {us : List Nat} {g : Option (Nat × Bool)} {d : Nat} {v : V} {l m : List Int}
theorem X.apE2 {x y : A} (hx : get tm x = apv hp l) (hy : get tm y = v) (hB : By (aph hp l) v m) (hlim : hp.lim ≤ hp.next) (hu : us = []) (h2 : l.length + m.length ≤ 100000000)
    (nx : EvD F (evLs clr r ⟨upd tm d (apv2 hp l m), lo, aph2 hp l m⟩ k) R) : EvD F (evLs clr (⟨some d, g, us, .app 1 1 x y⟩ :: r) ⟨tm, lo, aph hp l⟩ k) R := by
  subst hu
  unfold apv2 aph2 at nx
  by_cases h : l = []
  · subst h
    exact X.apE (hp := hp) hx hy hB (by omega) nx
  · rw [if_neg h, if_neg h] at nx
    have ex : apv hp l = .hs hp.next 0 l.length := by unfold apv; rw [if_neg h]
    have eh : aph hp l = hnew hp ⟨1, false, bs l⟩ := by unfold aph; rw [if_neg h]
    rw [ex] at hx
    rw [eh] at hB ⊢
    refine X.apf hx hy hB.els (hget_new _ _) (by rw [bleD, hnew_lim]; exact decide_eq_true hlim) rfl (by rw [bs_length]) (by rw [bleD, bs_length]; exact decide_eq_true (by unfold maxB; omega)) (id' := hp.next + 1) (hnew_next _ _) ?_
    rw [bs_length, bs_append]
    exact nx
end
structure Ex1 (hp hp' : Hp) : Prop where
  next : hp.next ≤ hp'.next
  lim : hp'.lim = hp.lim
  get : ∀ j b, hget hp j = some b → b.sz = 1 → ∃ fr, hget hp' j = some ⟨1, fr, b.es⟩
theorem Ex.to1 {hp hp' : Hp} {Q : Nat} (h : Ex hp hp' Q) (hQ : ∀ b, hget hp Q = some b → b.sz ≠ 1) : Ex1 hp hp' :=
  ⟨h.next, h.lim, fun j b hb h1 => ⟨b.fr, by rw [h.get j b (fun e => by subst e; exact hQ b hb h1) hb, ← h1]⟩⟩
theorem Ex1.trans {a b c : Hp} (h : Ex1 a b) (h' : Ex1 b c) : Ex1 a c :=
  ⟨Nat.le_trans h.next h'.next, h'.lim.trans h.lim, fun j x hx h1 => by
    obtain ⟨f, e⟩ := h.get j x hx h1
    exact h'.get j ⟨1, f, x.es⟩ e rfl⟩
theorem Ex1.new {hp : Hp} (hN : Nil hp) (b : Bk) : Ex1 hp (hnew hp b) := ⟨by rw [hnew_next]; omega, rfl, fun j x hx h1 => ⟨x.fr, by
  rw [hget_old (fun e => by rw [e, hN _ (Nat.le_refl _)] at hx; cases hx), hx, ← h1]⟩⟩
theorem Ex1.kill {hp : Hp} {id : Nat} {b : Option Bk} (h : ∀ x, hget hp id = some x → x.sz ≠ 1) : Ex1 hp (hset hp id b) := ⟨Nat.le_refl _, rfl, fun j x hx h1 => ⟨x.fr, by
  rw [hget_other (fun e => by subst e; exact h x hx h1), hx, ← h1]⟩⟩
theorem By.mono1 {hp hp' : Hp} {v : V} {l : List Int} (h : By hp v l) (e : Ex1 hp hp') : By hp' v l := by
  rcases h with h | h | ⟨id, i, fr, rows, rfl, q1, q2, q3, q4, q5⟩
  · exact .inl h
  · exact .inr (.inl h)
  · obtain ⟨f, x⟩ := e.get id _ q3 rfl
    exact .inr (.inr ⟨id, i, f, rows, rfl, Nat.lt_of_lt_of_le q1 e.next, by rw [e.lim]; exact q2, x, q4, q5⟩)
theorem fill1 {row z : List V} {n : Nat} (h4 : row.length = n) (hall : row.all V.keep = true) : fillE n [(0, .ag row)] [z] = some [row] := by
  have e1 : Nat.beq (V.ag row).cells.length n = true := by show Nat.beq row.length n = true; rw [h4]; exact Nat.beq_refl _
  have e2 : (V.ag row).cells.all V.keep = true := hall
  unfold fillE
  rw [e1, e2]
  rfl
theorem Ex.kill {a b : Hp} {Q id : Nat} {x : Option Bk} (h : Ex a b Q) (hN : Nil a) (hid : a.next ≤ id) : Ex a (hset b id x) Q := ⟨by rw [hset_next]; exact h.next, by rw [hset_lim]; exact h.lim, fun j y hj hy => by
  rw [hget_other (fun e => by subst e; rw [hN j hid] at hy; cases hy)]; exact h.get j y hj hy⟩
structure Ez (hp hp' : Hp) : Prop where
  next : hp'.next = hp.next
  lim : hp'.lim = hp.lim
  get : ∀ j b, hget hp j = some b → ∃ fr, hget hp' j = some ⟨b.sz, fr, b.es⟩ ∧ (b.sz = 6 → fr = b.fr)
  nil : Nil hp → Nil hp'
theorem Ez.refl (hp : Hp) : Ez hp hp := ⟨rfl, rfl, fun j b h => ⟨b.fr, h, fun _ => rfl⟩, id⟩
theorem Ez.freeze {hp : Hp} {id sz : Nat} {fr : Bool} {es : List (List V)} (h : hget hp id = some ⟨sz, fr, es⟩) (h6 : sz ≠ 6) : Ez hp (hset hp id (some ⟨sz, true, es⟩)) :=
  ⟨rfl, rfl, fun j b hb => by
    by_cases q : j = id
    · subst q
      rw [h] at hb; cases hb
      exact ⟨true, hget_set _ _ _, fun e => absurd e h6⟩
    · exact ⟨b.fr, by rw [hget_other q]; exact hb, fun _ => rfl⟩, fun n j hj => by
    rw [hset_next] at hj
    by_cases q : j = id
    · subst q; rw [n j hj] at h; cases h
    · rw [hget_other q]; exact n j hj⟩
theorem Ez.to1 {hp hp' : Hp} (e : Ez hp hp') : Ex1 hp hp' := ⟨by rw [e.next]; exact Nat.le_refl _, e.lim, fun j b hb h1 => by
  obtain ⟨f, e1, _⟩ := e.get j b hb
  exact ⟨f, by rw [e1, h1]⟩⟩
theorem close_by {hp : Hp} {v : V} {l : List Int} (h : By hp v l) : ∃ hp', Ez hp hp' ∧ ∀ n, l.length + 5 ≤ n → closeC n (.sl [.one]) v hp = some (.vs 1 (bs l), hp') := by
  rcases h with ⟨rfl, rfl⟩ | rfl | ⟨id, i, fr, rows, rfl, q1, q2, q3, q4, q5⟩
  · refine ⟨hp, .refl _, fun n hn => ?_⟩
    cases n with
    | zero => omega
    | succ n => rfl
  · refine ⟨hp, .refl _, fun n hn => ?_⟩
    cases n with
    | zero => omega
    | succ n => exact clo_vs [.one] _ n hp
  · refine ⟨_, .freeze q3 (by decide), fun n hn => ?_⟩
    have e : ((bs rows).drop i).take l.length = bs l := by rw [bs_drop, bs_take, q5]
    have := closeC_hs (ts := [.one]) (len := l.length) q3 q2 rfl (by rw [bs_length]; exact q4) (by rw [e]; exact bs_clo l) (n := n) (by simp; omega)
    rw [e] at this
    exact this
section
variable {F : Nat → Option Ev.Fn} {R : R} {k : Ev.R → D} {clr : List Nat} {tm : Tm} {lo : Lo} {hp : Hp} {r : List DOp} {us : List Nat} {g : Option (Nat × Bool)} {d : Nat}
end
end Ev
namespace Ev
variable [Glob]
open Go
theorem X.s {p : Prop} (h : p := by first | rfl | assumption | omega | exact nlb rfl | (simp (disch := omega) only [sd, sb, Bool.not_true, Bool.not_false] <;> first | omega | assumption) | (simp (disch := omega) [sd] <;> omega)) : p := h
theorem X.w {α : Type} {a b : α} (h : a = b := by (conv => lhs; whnf); all_goals fail) : a = b := h
theorem X.r {α : Type} {a b : α} (h : a = b := by (conv => lhs; reduce); all_goals fail) : a = b := h
theorem X.h {p : Prop} (h : p := by first | rfl | (simp only [hgs, if_true]; rfl)) : p := h
theorem X.a {p : Prop} (h : p := by first | assumption | rfl | (simp only [hgs, if_true]; rfl)) : p := h
theorem X.g {p : Prop} (h : p := by first | assumption | exact bs_getD X.s | rfl) : p := h
theorem X.l {v : V} (h : isLp v = false := by first | rfl | assumption | exact slv_lp _ _ _ | exact pw_lp _ _ | exact apv_lp _ _) : isLp v = false := h
theorem X.ra {p : Prop} (h : p := by first | rfl | assumption) : p := h
theorem X.e {hp : Hp} {sz : Nat} {v : V} {rows : List (List V)} (h : Els hp sz v rows := by first | exact Els.vs _ | exact Els.st _ | exact Els.ns) : Els hp sz v rows := h
theorem X.li {p : Prop} (h : p := by first | omega | exact nlb rfl | assumption) : p := h
theorem X.wi {p : Prop} (h : p := by first | exact wr_add_nat X.s | ((conv => lhs; whnf); all_goals fail)) : p := h
theorem X.fr {p : Prop} (h : p := by first | rfl | (repeat (first | rfl | refine fresh_cons X.l ?_))) : p := h
end Ev
namespace Ev
variable [Glob]
open Go
def Sl (hp : Hp) (v : V) (sz : Nat) (rows : List (List V)) : Prop :=
  (v = .ns ∧ rows = []) ∨ v = .vs sz rows ∨
  ∃ id i fr all, v = .hs id i rows.length ∧ id < hp.next ∧ hp.lim ≤ id ∧ hget hp id = some ⟨sz, fr, all⟩ ∧ i + rows.length ≤ all.length ∧ (all.drop i).take rows.length = rows
def Ow (hp : Hp) (v : V) (sz : Nat) (rows : List (List V)) : Prop :=
  (v = .ns ∧ rows = []) ∨ ∃ id, v = .hs id 0 rows.length ∧ id < hp.next ∧ hp.lim ≤ id ∧ hget hp id = some ⟨sz, false, rows⟩
def idOf : V → Option Nat
  | .hs id _ _ => some id
  | _ => none
def kil (hp : Hp) : V → Hp
  | .hs id _ _ => hset hp id none
  | _ => hp
def oah (hp : Hp) (v : V) (sz : Nat) (rows : List (List V)) : Hp := hnew (kil hp v) ⟨sz, false, rows⟩
def gav (hp : Hp) (v : V) (n m : Nat) : V := match v with | .ns => if m = 0 then .ns else .hs hp.next 0 (n + m) | _ => .hs hp.next 0 (n + m)
def gah (hp : Hp) (v : V) (sz : Nat) (rows new : List (List V)) : Hp := match v with | .ns => if new.length = 0 then hp else oah hp v sz (rows ++ new) | _ => oah hp v sz (rows ++ new)
section
variable {hp hp' : Hp} {v w : V} {sz : Nat} {rows new : List (List V)}
theorem kil_next : (kil hp v).next = hp.next := by cases v <;> rfl
theorem kil_lim : (kil hp v).lim = hp.lim := by cases v <;> rfl
theorem kil_get {id : Nat} (h : idOf v ≠ some id) : hget (kil hp v) id = hget hp id := by
  cases v <;> first | rfl | (rename_i a b c; exact hget_other (fun e => h (by rw [e]; rfl)))
theorem oah_lim : (oah hp v sz rows).lim = hp.lim := kil_lim
theorem oah_get {id : Nat} (h : idOf v ≠ some id) (hid : id < hp.next) : hget (oah hp v sz rows) id = hget hp id := by
  show hget (hnew (kil hp v) _) id = _
  rw [hget_old (by rw [kil_next]; omega), kil_get h]
theorem Ow.lp (h : Ow hp v sz rows) : isLp v = false := by rcases h with ⟨rfl, _⟩ | ⟨_, rfl, _⟩ <;> rfl
theorem Ow.len (h : Ow hp v sz rows) : lenOf false v = some rows.length := by rcases h with ⟨rfl, rfl⟩ | ⟨_, rfl, _⟩ <;> rfl
theorem Ow.cells (h : Ow hp v sz rows) : v.cells = [v] := by rcases h with ⟨rfl, _⟩ | ⟨_, rfl, _⟩ <;> rfl
theorem Ow.keep (h : Ow hp v sz rows) : v.keep = true := by rcases h with ⟨rfl, _⟩ | ⟨_, rfl, _⟩ <;> rfl
theorem Ow.get (h : Ow hp v sz rows) (h1 : hp.next ≤ hp'.next) (h2 : hp'.lim = hp.lim) (h3 : ∀ id, idOf v = some id → hget hp' id = hget hp id) : Ow hp' v sz rows := by
  rcases h with h | ⟨id, rfl, q1, q2, q3⟩
  · exact .inl h
  · exact .inr ⟨id, rfl, by omega, by omega, by rw [h3 id rfl]; exact q3⟩
theorem gav_lp {n m : Nat} : isLp (gav hp v n m) = false := by unfold gav; split <;> first | rfl | (split <;> rfl)
theorem gah_lim : (gah hp v sz rows new).lim = hp.lim := by unfold gah; split <;> first | exact oah_lim | (split <;> first | rfl | exact oah_lim)
theorem gah_get {id : Nat} (h : idOf v ≠ some id) (hid : id < hp.next) : hget (gah hp v sz rows new) id = hget hp id := by
  unfold gah; split
  · split
    · rfl
    · exact oah_get h hid
  · exact oah_get h hid
theorem Sl.vs : Sl hp (.vs sz rows) sz rows := .inr (.inl rfl)
theorem Sl.lp (h : Sl hp v sz rows) : isLp v = false := by rcases h with ⟨rfl, _⟩ | rfl | ⟨_, _, _, _, rfl, _⟩ <;> rfl
theorem Sl.els (h : Sl hp v sz rows) : Els hp sz v rows := by
  rcases h with ⟨rfl, rfl⟩ | rfl | ⟨id, i, fr, all, rfl, q1, q2, q3, q4, q5⟩
  · exact .ns
  · exact .vs _
  · have := Els.hs (sz := sz) (i := i) (n := rows.length) q3 q4
    rw [q5] at this; exact this
def pwo (v : V) (j off : Nat) : V := match v with | .vs _ es => .ip ((es.getD j []).drop off) | .hs id i _ => .pt id (i + j) off | _ => .ns
theorem pwo_lp (v : V) (j off : Nat) : isLp (pwo v j off) = false := by cases v <;> rfl
end
structure Fz (o : Option Nat) (hp hp' : Hp) : Prop where
  next : hp'.next = hp.next
  lim : hp'.lim = hp.lim
  get : ∀ j b, hget hp j = some b → ∃ fr, hget hp' j = some ⟨b.sz, fr, b.es⟩ ∧ (o ≠ some j → fr = b.fr)
  nil : Nil hp → Nil hp'
section
variable {hp hp' : Hp} {v w : V} {sz : Nat} {rows new : List (List V)}
end
section
variable {F : Nat → Option Ev.Fn} {R : R} {k : Ev.R → D} {clr : List Nat} {tm : Tm} {lo : Lo} {hp : Hp} {r : List DOp} {us : List Nat} {g : Option (Nat × Bool)} {d : Nat} {v vy : V} {sz bytes : Nat} {rows new : List (List V)} {x y : A}
end
end Ev
namespace Ev
variable [Glob]
open Go
theorem X.l2 {v : V} (h : isLp v = false := by first | rfl | assumption | exact slv_lp _ _ _ | exact pwo_lp _ _ _ | exact gav_lp | exact pw_lp _ _ | exact apv_lp _ _) : isLp v = false := h
section
variable {F : Nat → Option Ev.Fn} {R : R} {k : Ev.R → D} {clr : List Nat} {tm : Tm} {lo : Lo} {hp : Hp} {r : List DOp} {us : List Nat} {g : Option (Nat × Bool)} {d : Nat}
theorem X.bsv1 {a : A} {z : V} {kk : IntKind} {n : Int} (ha : get tm a = .it kk n) (nx : EvD F (evLs clr r ⟨upd tm d (.vs 1 [[.it kk n]]), lo, hp⟩ k) R) : EvD F (evLs clr (⟨some d, g, us, .bsv [.one] 1 [[z]] [(0, a)]⟩ :: r) ⟨tm, lo, hp⟩ k) R := by
  have e : evLs clr (⟨some d, g, us, .bsv [.one] 1 [[z]] [(0, a)]⟩ :: r) ⟨tm, lo, hp⟩ k = match fillE 1 [(0, get tm a)] [[z]] with
    | some es => (match closeEs depth [.one] es Ev.h0 with
      | some (es, _) => forceV (fun v => evLs clr r ⟨upd tm d v, lo, hp⟩ k) (.vs 1 es)
      | none => .bad)
    | none => .bad := rfl
  have e2 : fillE 1 [(0, V.it kk n)] [[z]] = some [[.it kk n]] := rfl
  have e3 : closeEs depth [.one] [[V.it kk n]] Ev.h0 = some ([[.it kk n]], Ev.h0) := closeEs_clo depth Ev.h0 (fun e he => by
    simp only [List.mem_singleton] at he; subst he; exact .cons (clo_it _ _) .nil) (by simp [depth])
  rw [e, ha, e2]
  simp only [e3]
  exact nx
end
end Ev
namespace Ev
variable [Glob]
open Go
section
variable {F : Nat → Option Ev.Fn} {R : R} {k : Ev.R → D} {clr : List Nat} {tm : Tm} {lo : Lo} {hp : Hp} {r : List DOp} {us : List Nat} {g : Option (Nat × Bool)} {d : Nat}
end
end Ev
namespace Ev
variable [Glob]
open Go
section
variable {F : Nat → Option Ev.Fn} {keep drop : List Nat} {body : St → D}
theorem EvL.inv {S : Type} (kv : S → List (Nat × V)) (J : S → Lo → Hp → Prop) (μ : S → Nat) (Q : R → Prop)
    (hstep : ∀ s lo hp, J s lo hp → (∃ tm' lo' hp' s', EvD F (body ⟨tmOf (kv s), shed drop lo, hp⟩) (.norm ⟨tm', lo', hp'⟩) ∧ keep.map (fun x => (x, tm' x)) = kv s' ∧ J s' lo' hp' ∧ μ s' < μ s) ∨
      (∃ r, EvD F (body ⟨tmOf (kv s), shed drop lo, hp⟩) r ∧ (∀ st, r ≠ .norm st) ∧ Q r)) :
    ∀ s tm lo hp, J s lo hp → keep.map (fun x => (x, tm x)) = kv s → ∃ r, EvL F keep drop body ⟨tm, lo, hp⟩ r ∧ Q r := by
  suffices ∀ n s tm lo hp, μ s < n → J s lo hp → keep.map (fun x => (x, tm x)) = kv s → ∃ r, EvL F keep drop body ⟨tm, lo, hp⟩ r ∧ Q r from fun s tm lo hp => this (μ s + 1) s tm lo hp (by omega)
  intro n
  induction n with
  | zero => intro s tm lo hp h; omega
  | succ n ih =>
    intro s tm lo hp hn hJ hk
    rcases hstep s lo hp hJ with ⟨tm', lo', hp', s', h1, h2, h3, h4⟩ | ⟨r, h1, h2, h3⟩
    · obtain ⟨r, q1, q2⟩ := ih s' tm' lo' hp' (by omega) h3 h2
      exact ⟨r, EvL.go _ hk h1 q1, q2⟩
    · exact ⟨r, EvL.stop _ hk h1 h2, h3⟩
end
theorem no_exit {k : Nat} {s : St} : ∀ st, R.exit k s ≠ .norm st := fun _ h => by cases h
theorem no_ret {s : St} : ∀ st, R.ret s ≠ .norm st := fun _ h => by cases h
abbrev Fld := List Nat × List Nat
def fd (f : Fld) : List V := [.st f.1, .st f.2]
def fds (l : List Fld) : List (List V) := l.map fd
theorem fd_clo (f : Fld) : CloL [.one, .one] (fd f) := .cons (clo_st _) (.cons (clo_st _) .nil)
theorem fds_length (l : List Fld) : (fds l).length = l.length := by simp [fds]
theorem fds_getD {l : List Fld} {i : Nat} (h : i < l.length) : (fds l).getD i [] = fd l[i] := by simp [fds, List.getD, h]
end Ev
namespace Ev
variable [Glob]
open Go
theorem kvc {a : Nat} {v w : V} {l m : List (Nat × V)} (h : v = w) (r : l = m) : (a, v) :: l = (a, w) :: m := by rw [h, r]
theorem X.kv {l m : List (Nat × V)} (h : l = m := by repeat (first | rfl | refine kvc (by first | rfl | exact wr_inc X.s | assumption) ?_)) : l = m := h
section
variable {F : Nat → Option Ev.Fn} {R : R} {k : Ev.R → D} {clr : List Nat} {tm : Tm} {lo : Lo} {hp : Hp} {r : List DOp} {us : List Nat} {g : Option (Nat × Bool)} {d : Nat}
end
end Ev
namespace Ev
variable [Glob]
open Go
end Ev
namespace Ev
variable [Glob]
open Go
section
variable {F : Nat → Option Ev.Fn} {R : R} {k : Ev.R → D} {clr : List Nat} {tm : Tm} {lo : Lo} {hp : Hp} {r : List DOp} {us : List Nat} {g : Option (Nat × Bool)} {d : Nat}
theorem unbytes : ∀ (l : List Nat), (∀ n, n ∈ l → n < 256) → allSome unbyte (bs (l.map Int.ofNat)) = some l
  | [], _ => rfl
  | n :: l, h => by
    have h1 := unbytes l fun m hm => h m (List.mem_cons_of_mem _ hm)
    have h2 := h n List.mem_cons_self
    have h3 : unbyte [V.it .u8 (Int.ofNat n)] = some n := by
      show some ((Int.ofNat n).toNat % 256) = _
      rw [show (Int.ofNat n).toNat % 256 = n from Nat.mod_eq_of_lt h2]
    show allSome unbyte ([V.it .u8 (Int.ofNat n)] :: bs (l.map Int.ofNat)) = _
    unfold allSome
    rw [h1, h3]
theorem X.b2s {x : A} {v : V} {l : List Nat} (hx : get tm x = v) (hS : Sl hp v 1 (bs (l.map Int.ofNat))) (hl : ∀ n, n ∈ l → n < 256) (nx : EvD F (evLs clr r ⟨upd tm d (.st l), lo, hp⟩ k) R) :
    EvD F (evLs clr (⟨some d, g, us, .cnv .b2s x⟩ :: r) ⟨tm, lo, hp⟩ k) R := by
  have hv : ∀ (K : List (List V) → D), rowsD hp 1 v K = elemsD hp 1 v K := by
    intro K
    rcases hS with ⟨rfl, _⟩ | rfl | ⟨_, _, _, _, rfl, _⟩ <;> rfl
  have e : evLs clr (⟨some d, g, us, .cnv .b2s x⟩ :: r) ⟨tm, lo, hp⟩ k = convD ⟨tm, lo, hp⟩ .b2s (get tm x) (fun v s => forceV (fun v => evLs clr r (put s (some d) v) k) v) := rfl
  rw [e, hx]
  have e2 : convD ⟨tm, lo, hp⟩ .b2s v (fun v s => forceV (fun v => evLs clr r (put s (some d) v) k) v) = elemsD hp 1 v fun es => oneD ((allSome unbyte es).map .st) fun v => forceV (fun v => evLs clr r ⟨upd tm d v, lo, hp⟩ k) v := by
    rcases hS with ⟨rfl, _⟩ | rfl | ⟨_, _, _, _, rfl, _⟩ <;> rfl
  rw [e2, ← hv]
  refine hS.els _ _ _ ?_
  rw [unbytes l hl]
  exact nx
theorem EvC.ofT {f : Nat} {fn : Ev.Fn} {ys xs zs : List V} {hp hp1 : Hp} (h : EvP F f fn ys zs) (hc : ClP fn.ps xs hp ys hp1) (hr : fn.rs.length ≠ 1) : EvC F true f xs hp (.ret (tuple zs) hp1) := by
  obtain ⟨h1, h2, h3, v, h, h', h4, h5⟩ := h
  refine EvC.pure h1 h2 hc.close h3 h4 ?_
  show back true fn hp1 (.ret v h) = _
  unfold back
  have hcl := h5.close
  match hrs : fn.rs, hr, hcl with
  | [], _, hcl => simp only [hcl]
  | [_], hr, _ => exact absurd rfl hr
  | a :: b :: c, _, hcl => simp only [hcl]
theorem X.pcallT {md : Md} {f : Nat} {xs : List A} {ys ys' zs : List V} {w : V} {fn : Ev.Fn} {hp' : Hp} (h : EvP F f fn ys' zs) (hr : fn.rs.length ≠ 1) (hc : ClP fn.ps ys hp ys' hp') (hx : xs.map (get tm) = ys) (hl : ys.any isLp = false) (hw : tuple zs = w)
    (n : EvD F (evLs clr r ⟨upd tm d w, lo, hp'⟩ k) R) : EvD F (evLs clr (⟨some d, g, [], .call true md f xs⟩ :: r) ⟨tm, lo, hp⟩ k) R := by
  subst hw; exact X.call hx hl (EvC.ofT h hc hr) n
end
end Ev
namespace Ev
variable [Glob]
open Go
section
variable {F : Nat → Option Ev.Fn} {R : R} {k : Ev.R → D} {clr : List Nat} {tm : Tm} {lo : Lo} {hp : Hp} {r : List DOp} {us : List Nat} {g : Option (Nat × Bool)} {d : Nat}
end
end Ev
namespace Ev
variable [Glob]
open Go Go.ChangeShapes Go.WideShapes Go.ChangeAt Go.RowKit
abbrev Par := Bool × List TD
def parOf (P : Program) (t : TypeId) : Option Par :=
  match P.underlying t with
  | some (.struct _) => (tdOf P 40 t).map fun ts => (true, ts)
  | some .bool | some (.int _) | some .string | some (.slice _) => (tdOf P 40 t).map fun ts => (false, ts)
  | _ => none
def parsOf (P : Program) : List TypeId → Option (List Par)
  | [] => some []
  | t :: r => match parOf P t, parsOf P r with
    | some p, some ps => some (p :: ps)
    | _, _ => none
inductive ShP : List Par → List V → Prop
  | nil : ShP [] []
  | one {t : TD} {v : V} {ps : List Par} {xs : List V} (h : Sh1 t v) (r : ShP ps xs) : ShP ((false, [t]) :: ps) (v :: xs)
  | grp {ts : List TD} {vs : List V} {ps : List Par} {xs : List V} (h : ShL ts vs) (r : ShP ps xs) : ShP ((true, ts) :: ps) (.ag vs :: xs)
def sizP : List V → Nat
  | [] => 0
  | .ag vs :: r => sizL vs + sizP r
  | v :: r => siz v + sizP r
theorem ShP.length {ps : List Par} {xs : List V} (h : ShP ps xs) : xs.length = ps.length := by
  induction h <;> simp_all
theorem Sh1.sizP {t : TD} {v : V} {r : List V} (h : Sh1 t v) : sizP (v :: r) = siz v + sizP r := by cases h <;> rfl
section
variable {H : Type} {enc : TypeId × Value → H} {P : Program} {w : World} {u : DataW H → Nat} {ul : List (DataW H) → Nat}
theorem param_read (hB : Bulk u ul) {base b0 : Nat} {sp : Nat → Bool} {hd : Bool} {t : TypeId} {v : Value} {d : DataW H} {ps : List MemPlace} {p : Par} (hp : parOf P t = some p)
    (hv : Value.okWide P w .any b0 t v) (h : DataW.Trod enc P w base sp hd t v d ps) :
    ∃ x, isLp x = false ∧ RepA ⟨kAll w, fun _ => .unb⟩ x v ∧ (∀ qs xs, ShP qs xs → ShP (p :: qs) (x :: xs)) ∧ ∀ xs, sizP (x :: xs) ≤ u d + sizP xs := by
  obtain ⟨n, h⟩ := h
  have single : ∀ ts, tdOf P 40 t = some ts → v.cells.toList = [v] → p = (false, ts) → ∃ x, isLp x = false ∧ RepA ⟨kAll w, fun _ => .unb⟩ x v ∧ (∀ qs xs, ShP qs xs → ShP (p :: qs) (x :: xs)) ∧ ∀ xs, sizP (x :: xs) ≤ u d + sizP xs := by
    intro ts hts hc hpe
    obtain ⟨vs, q1, q2, q3⟩ := data_read hB 40 n t _ d ps ts hts h
    rw [hc] at q1
    cases q1 with
    | cons a r =>
      cases r
      cases q2 with
      | cons b r2 =>
        cases r2
        refine ⟨_, b.keep.2, .c _ _ a, fun qs xs hx => hpe ▸ .one b hx, fun xs => ?_⟩
        rw [b.sizP]; simp only [sizL] at q3; omega
  unfold parOf at hp
  split at hp
  · rename_i fs ht
    simp only [Option.map_eq_some_iff] at hp
    obtain ⟨ts, hts, rfl⟩ := hp
    obtain ⟨cs, rfl, _⟩ := okWide_struct ht hv
    obtain ⟨vs, q1, q2, q3⟩ := data_read hB 40 n t _ d ps ts hts h
    have q1 : RepL (kAll w) vs cs.toList := q1
    refine ⟨.ag vs, rfl, .ag vs cs ?_ ?_ ?_, fun qs xs hx => .grp q2 hx, fun xs => ?_⟩
    · have := q1.length; simpa using this.symm
    · intro c hc
      obtain ⟨t, ht⟩ := q2.mem hc
      exact ht.keep.1
    · intro i c hc
      have := q1.get i c hc
      refine .c _ _ ?_
      simpa [Array.getD_eq_getD_getElem?, List.getD_eq_getElem?_getD] using this
    · simp only [sizP]; omega
  · rename_i ht
    simp only [Option.map_eq_some_iff] at hp
    obtain ⟨ts, hts, e⟩ := hp
    obtain ⟨b, rfl⟩ := okWide_bool ht hv
    exact single ts hts rfl e.symm
  · rename_i k ht
    simp only [Option.map_eq_some_iff] at hp
    obtain ⟨ts, hts, e⟩ := hp
    obtain ⟨b, rfl⟩ := okWide_int ht hv
    exact single ts hts rfl e.symm
  · rename_i ht
    simp only [Option.map_eq_some_iff] at hp
    obtain ⟨ts, hts, e⟩ := hp
    obtain ⟨b, rfl⟩ := okWide_string ht hv
    exact single ts hts rfl e.symm
  · rename_i el ht
    simp only [Option.map_eq_some_iff] at hp
    obtain ⟨ts, hts, e⟩ := hp
    obtain ⟨a, l, c, rfl⟩ := okWide_slice ht hv
    exact single ts hts rfl e.symm
  · cases hp
theorem params_read (hB : Bulk u ul) {base b0 : Nat} {sp : Nat → Bool} {hd : Bool} : ∀ (ts : List TypeId) (vs : List Value) (ds : List (DataW H)) (ps : List MemPlace) (pts : List Par),
    parsOf P ts = some pts → (∀ (j : Nat) t v, ts[j]? = some t → vs[j]? = some v → Value.okWide P w .any b0 t v) → DataW.TrodAll enc P w base sp hd ts vs ds ps →
    ∃ xs, ShP pts xs ∧ vs.length = xs.length ∧ (∀ x, x ∈ xs → isLp x = false) ∧ (∀ (i : Nat) (x : V), xs[i]? = some x → RepA ⟨kAll w, fun _ => .unb⟩ x (vs.getD i undef)) ∧ sizP xs ≤ ul ds ∧ ds.length = pts.length
  | [], vs, ds, ps, pts, hp, _, h => by
    simp only [parsOf, Option.some.injEq] at hp; subst hp
    obtain ⟨rfl, rfl, rfl⟩ := trodAll_nil h
    exact ⟨[], .nil, rfl, by simp, by simp, by simp [sizP], rfl⟩
  | t :: ts, vs, ds, ps, pts, hp, hv, h => by
    simp only [parsOf] at hp
    split at hp
    · rename_i p qs h1 h2
      simp only [Option.some.injEq] at hp; subst hp
      obtain ⟨v, vs', d, ds', p', q', rfl, rfl, rfl, g1, g2⟩ := trodAll_cons h
      obtain ⟨xs, a1, a2, a3, a4, a5, a6⟩ := params_read hB ts vs' ds' q' qs h2 (fun j t v x y => hv (j + 1) t v (by simpa using x) (by simpa using y)) g2
      obtain ⟨x, b1, b2, b3, b4⟩ := param_read hB h1 (hv 0 t v rfl rfl) g1
      refine ⟨x :: xs, b3 _ _ a1, by simp [a2], ?_, ?_, ?_, by simp [a6]⟩
      · intro y hy
        rcases List.mem_cons.1 hy with e | e
        · subst e; exact b1
        · exact a3 y e
      · intro i y hy
        cases i with
        | zero => simp at hy; subst hy; simpa using b2
        | succ i => simpa using a4 i y (by simpa using hy)
      · rw [hB.cons]; have := b4 xs; omega
    · cases hp
def smallB (P : Program) (f : Func) : Bool := f.params.toList.all fun t => decide (t < P.types.size)
theorem law_contract {F : Nat → Option Ev.Fn} {mds : Nat → Md} (T : Table P F mds) {n : Nat} {fn : Ev.Fn} (hF : F n = some fn) (hB : Bulk u ul) {f : Func} {s : ChangeSpec} {W : World} {args : Array Value} {ds gs : List (DataW H)}
    {before : List MemPlace} {tb b0 : Nat} {pts : List Par} (hpar : parsOf P f.params.toList = some pts)
    (hval : ∀ (j : Nat) t v, f.params[j]? = some t → args[j]? = some v → Value.okWide P W .any b0 t v)
    (hW : DataW.Whole enc P f.params.toList s.vars false W args.toList ds gs before) (hvars : s.vars = [])
    (hfn : ∀ ds : List (DataW H), ds.length = pts.length → s.fn H (ds ++ []) = { results := [.lit (.bool true)], args := ds }) (hrt : f.resultTypes = #[tb]) (htb : P.underlying tb = some .bool)
    (hlo : laidOutB P = true) (hmr : mapsRowed P = true) (hz : fullB P = true) (hpt : smallB P f = true) (hgl : GlobW ⟨kAll W, fun _ => .unb⟩ h0 W)
    (hrun : ∀ xs, ShP pts xs → sizP xs ≤ ul (ds ++ gs) → ∃ L k hp', runF (callF F L k) L fn xs h0 = .ret (.bo true) hp') :
    Calls P n args W fun e W' => ∃ v, e = .returned v ∧ s.post enc P f false true false false W args v W' := by
  have hW' := hW
  obtain ⟨p, q, hA, hV, _⟩ := hW
  rw [hvars] at hV
  obtain ⟨hgs, _⟩ := trodVars_none hV
  subst hgs
  obtain ⟨xs, h1, h2, h3, h4, h5, h6⟩ := params_read hB _ _ _ _ _ hpar (fun j t v x y => hval j t v (by simpa using x) (by simpa using y)) hA
  obtain ⟨L, k, hp', hr⟩ := hrun xs h1 (by rw [List.append_nil]; exact h5)
  have ha : Args ⟨kAll W, fun _ => .unb⟩ xs args := ⟨by simpa using h2, h3, fun i x hx => by
    have := h4 i x hx
    simpa [Array.getD_eq_getD_getElem?, List.getD_eq_getElem?_getD] using this⟩
  refine Calls.mono (law_calls T hF hgl ha hr) fun e W' ⟨he, hk⟩ => ⟨_, he, ?_⟩
  refine post_kept (tb := tb) hW' hvars ?_ hrt htb hlo hmr hz (fun t ht => by simpa using List.all_eq_true.1 (show (f.params.toList.all fun t => decide (t < P.types.size)) = true from hpt) t ht) hk
  exact hfn ds h6
end
end Ev
namespace Ev
variable [Glob]
open Go
theorem slice_of {ts : List TD} {v : V} (h : Sh1 (.sl ts) v) : ∃ es, v = .vs ts.length es ∧ ShE ts es ∧ siz v = sizE es + 1 := by
  cases h with
  | sl ts n hn es h => subst hn; exact ⟨es, rfl, h, rfl⟩
theorem int_of {k : IntKind} {v : V} (h : Sh1 (.it k) v) : ∃ n, v = .it k n ∧ (Lit.int k n).wf = true := by
  cases h with | it k n hw => exact ⟨n, rfl, hw⟩
theorem ShP.one' {t : TD} {ps : List Par} {xs : List V} (h : ShP ((false, [t]) :: ps) xs) : ∃ v r, xs = v :: r ∧ Sh1 t v ∧ ShP ps r ∧ sizP xs = siz v + sizP r := by
  cases h with | one a r => exact ⟨_, _, rfl, a, r, a.sizP⟩
theorem ShP.nil' {xs : List V} (h : ShP [] xs) : xs = [] := by cases h; rfl
theorem ShL.cons' {t : TD} {ts : List TD} {vs : List V} (h : ShL (t :: ts) vs) : ∃ v r, vs = v :: r ∧ Sh1 t v ∧ ShL ts r ∧ sizL vs = siz v + sizL r := by
  cases h with | cons a r => exact ⟨_, _, rfl, a, r, rfl⟩
theorem ShL.nil' {vs : List V} (h : ShL [] vs) : vs = [] := by cases h; rfl
end Ev
namespace Ev
variable [Glob]
open Go
theorem law_of {F : Nat → Option Ev.Fn} (d : DFn) {xs : List V} (hl : Nat.beq xs.length d.ps.length = true) (h : ∃ hp, EvD F (stepD d xs h0) (Rt (.bo true) hp)) : ∃ L k hp', runF (callF F L k) L d.den xs h0 = .ret (.bo true) hp' := by
  obtain ⟨hp, h⟩ := h
  rw [stepD_eq] at h
  exact law_run (fn := d.den) hl h
end Ev
namespace Ev
variable [Glob]
open Go
def EvQ (F : Nat → Option Ev.Fn) (d : D) (Q : R → Prop) : Prop := ∃ r, EvD F d r ∧ Q r
section
variable {F : Nat → Option Ev.Fn} {Q Q' : R → Prop} {k : Ev.R → D} {clr : List Nat} {tm : Tm} {lo : Lo} {hp : Hp} {r : List DOp} {us : List Nat} {g : Option (Nat × Bool)} {d : Nat}
theorem EvQ.lift {d d' : D} (f : ∀ R, EvD F d' R → EvD F d R) (h : EvQ F d' Q) : EvQ F d Q := let ⟨r, h, q⟩ := h; ⟨r, f r h, q⟩
theorem EvQ.done {x : R} (q : Q x) : EvQ F (.done x) Q := ⟨x, .done x, q⟩
theorem EvQ.of {d : D} {x : R} (h : EvD F d x) (q : Q x) : EvQ F d Q := ⟨x, h, q⟩
theorem EvQ.cond {c : A} {x y : C} {b : Bool} (hc : get tm c = .bo b) (h1 : b = true → EvQ F (x.run ⟨tm, lo, hp⟩ k) Q) (h2 : b = false → EvQ F (y.run ⟨tm, lo, hp⟩ k) Q) : EvQ F ((C.cond c x y).run ⟨tm, lo, hp⟩ k) Q := by
  cases b with
  | true => exact (h1 rfl).lift fun R n => X.condT hc n
  | false => exact (h2 rfl).lift fun R n => X.condF hc n
theorem EvQ.g1 {ops : List DOp} {gs : List DGr} {t : Nat} {w b : Bool} (ht : tm t = .bo b) (h1 : b = w → EvQ F (evLs clr ops ⟨upd tm t (.bo w), lo, hp⟩ (gK clr gs k)) Q)
    (h2 : b = (!w) → EvQ F (evGds clr gs ⟨undoT ops (upd tm t (.bo (!w))), lo, hp⟩ k) Q) : EvQ F (evGds clr (⟨some (t, w), ops⟩ :: gs) ⟨tm, lo, hp⟩ k) Q := by
  cases w <;> cases b
  · exact (h1 rfl).lift fun R n => X.g1T ht n
  · exact (h2 rfl).lift fun R n => X.g1F ht n
  · exact (h2 rfl).lift fun R n => X.g1F ht n
  · exact (h1 rfl).lift fun R n => X.g1T ht n
theorem EvQ.loop {keep drop : List Nat} {c : C} {st : St} {QL : R → Prop} (h : ∃ x, EvL F keep drop (lpB c) st x ∧ QL x) (h' : ∀ x, QL x → EvQ F (k x) Q) : EvQ F ((C.loop keep drop c).run st k) Q := by
  obtain ⟨x, h1, h2⟩ := h
  exact (h' x h2).lift fun R n => X.loop h1 n
theorem EvQ.fin {dd : DFn} {vs : List V} (h : ∀ K : List V → D, resultsD ⟨tm, lo, hp⟩ dd.res K = K vs) (q : Q (Rt (tuple vs) hp)) : EvQ F (fK dd (.ret ⟨tm, lo, hp⟩)) Q := ⟨_, X.fin h rfl rfl, q⟩
theorem EvQ.fin1 {dd : DFn} {vs : List V} {b1 : Bool} (h : ∀ K : List V → D, resultsD ⟨tm, lo, hp⟩ dd.res K = .chk b1 (K vs)) (hb : b1 = true) (q : Q (Rt (tuple vs) hp)) : EvQ F (fK dd (.ret ⟨tm, lo, hp⟩)) Q := ⟨_, X.fin1 h hb rfl rfl, q⟩
structure PQ (rs : List PT) (zs : List V) (r : R) : Prop where
  un : ∃ v h h', r = Rt v h ∧ ClP rs (untuple rs.length v) h zs h'
theorem PQ.of {rs : List PT} {zs : List V} {v : V} {h h' : Hp} (e : ClP rs (untuple rs.length v) h zs h') : PQ rs zs (Rt v h) := ⟨v, h, h', rfl, e⟩
theorem PQ.bo {x b : Bool} {h : Hp} (e : x = b) : PQ [.c .one] [.bo b] (Rt (.bo x) h) := ⟨_, h, h, rfl, by subst e; exact .s (clo_bo _) (.nil _)⟩
theorem PQ.it {x b : Int} {kk : IntKind} {h : Hp} (e : x = b) : PQ [.c .one] [.it kk b] (Rt (.it kk x) h) := ⟨_, h, h, rfl, by subst e; exact .s (clo_it _ _) (.nil _)⟩
theorem PQ.st {x b : List Nat} {h : Hp} (e : x = b) : PQ [.c .one] [.st b] (Rt (.st x) h) := ⟨_, h, h, rfl, by subst e; exact .s (clo_st _) (.nil _)⟩
theorem EvP.ofQ {f : Nat} (d : DFn) {ys zs : List V} (h1 : F f = some d.den) (h2 : d.md = .pure) (h3 : Nat.beq ys.length d.ps.length = true) (h4 : EvQ F (d.body.run ⟨argT ys, fun _ => none, h0⟩ (fK d)) (PQ d.rs zs)) : EvP F f d.den ys zs := by
  obtain ⟨r, h, ⟨v, hp, hp', rfl, e⟩⟩ := h4
  exact .of d h1 h2 h3 (X.fn h) e
theorem EvQ.law {dd : DFn} {ys : List V} (h : EvQ F (dd.body.run ⟨argT ys, fun _ => none, h0⟩ (fK dd)) (fun r => ∃ hp, r = Rt (.bo true) hp)) : ∃ hp, EvD F (stepD dd ys h0) (Rt (.bo true) hp) := by
  obtain ⟨r, h, hp, rfl⟩ := h
  exact ⟨hp, X.fn h⟩
structure RQ {S : Type} (keep : List Nat) (kv : S → List (Nat × V)) (J : S → Lo → Hp → Prop) (μ : S → Nat) (m : Nat) (Q : R → Prop) (r : R) : Prop where
  un : (∃ tm' lo' hp' s', r = .norm ⟨tm', lo', hp'⟩ ∧ keep.map (fun x => (x, tm' x)) = kv s' ∧ J s' lo' hp' ∧ μ s' < m) ∨ ((∀ st, r ≠ .norm st) ∧ Q r)
section
variable {S : Type} {keep : List Nat} {kv : S → List (Nat × V)} {J : S → Lo → Hp → Prop} {μ : S → Nat} {m : Nat}
theorem EvQ.go (s' : S) (h1 : keep.map (fun x => (x, tm x)) = kv s') (h2 : J s' lo hp) (h3 : μ s' < m) : EvQ F (.done (.norm ⟨tm, lo, hp⟩)) (RQ keep kv J μ m Q) := .done ⟨.inl ⟨_, _, _, s', rfl, h1, h2, h3⟩⟩
theorem EvQ.xt {i : Nat} {st : St} (q : Q (.exit i st)) : EvQ F (.done (.exit i st)) (RQ keep kv J μ m Q) := .done ⟨.inr ⟨no_exit, q⟩⟩
theorem EvQ.rt {st : St} (q : Q (.ret st)) : EvQ F (.done (.ret st)) (RQ keep kv J μ m Q) := .done ⟨.inr ⟨no_ret, q⟩⟩
end
theorem EvL.invQ {S : Type} {keep drop : List Nat} {c : C} (kv : S → List (Nat × V)) (J : S → Lo → Hp → Prop) (μ : S → Nat) (Q : R → Prop)
    (hstep : ∀ s lo hp, J s lo hp → EvQ F (c.run ⟨tmOf (kv s), shed drop lo, hp⟩ .done) (RQ keep kv J μ (μ s) Q)) :
    ∀ s tm lo hp, J s lo hp → keep.map (fun x => (x, tm x)) = kv s → ∃ r, EvL F keep drop (lpB c) ⟨tm, lo, hp⟩ r ∧ Q r := by
  refine EvL.inv kv J μ Q fun s lo hp hJ => ?_
  obtain ⟨r, h, ⟨⟨tm', lo', hp', s', rfl, h1, h2, h3⟩ | ⟨h1, h2⟩⟩⟩ := hstep s lo hp hJ
  · exact .inl ⟨tm', lo', hp', s', X.lpb h, h1, h2, h3⟩
  · exact .inr ⟨r, X.lpb h, h1, h2⟩
end
def upds : List (Nat × V) → Tm → Tm
  | [], tm => tm
  | (d, v) :: l, tm => upd (upds l tm) d v
theorem upds_self : ∀ (l : List (Nat × V)) {tm : Tm}, l.map (fun x => (x.1, tm x.1)) = l → upds l tm = tm
  | [], _, _ => rfl
  | (d, v) :: l, tm, h => by
    simp only [List.map_cons, List.cons.injEq, Prod.mk.injEq, true_and] at h
    unfold upds
    rw [upds_self l h.2, upd_self h.1]
structure XtQ (i : Nat) (l : List (Nat × V)) (P : Lo → Hp → Prop) (r : R) : Prop where
  un : ∃ tm lo hp, r = .exit i ⟨upds l tm, lo, hp⟩ ∧ P lo hp
structure RtQ (l : List (Nat × V)) (P : Lo → Hp → Prop) (r : R) : Prop where
  un : ∃ tm lo hp, r = .ret ⟨upds l tm, lo, hp⟩ ∧ P lo hp
theorem XtQ.mk' {i : Nat} {l : List (Nat × V)} {P : Lo → Hp → Prop} {tm : Tm} {lo : Lo} {hp : Hp} (h : l.map (fun x => (x.1, tm x.1)) = l) (p : P lo hp) : XtQ i l P (.exit i ⟨tm, lo, hp⟩) := ⟨tm, lo, hp, by rw [upds_self l h], p⟩
theorem RtQ.mk' {l : List (Nat × V)} {P : Lo → Hp → Prop} {tm : Tm} {lo : Lo} {hp : Hp} (h : l.map (fun x => (x.1, tm x.1)) = l) (p : P lo hp) : RtQ l P (.ret ⟨tm, lo, hp⟩) := ⟨tm, lo, hp, by rw [upds_self l h], p⟩
end Ev
namespace Ev
variable [Glob]
open Go
abbrev f0 : Fld := ([], [])
theorem fds_getD' {l : List Fld} {i : Nat} (h : i < l.length) : (fds l).getD i [] = fd (l.getD i f0) := by rw [fds_getD h]; simp [List.getD, h]
def txs (l : List (List Nat)) : List (List V) := l.map fun s => [.st s]
theorem txs_length (l : List (List Nat)) : (txs l).length = l.length := by simp [txs]
theorem txs_getD' {l : List (List Nat)} {i : Nat} (h : i < l.length) : (txs l).getD i [] = [.st (l.getD i [])] := by simp [txs, List.getD, h]
theorem sdq : (∀ l : List Fld, (fds l).length = l.length) ∧ (∀ l : List (List Nat), (txs l).length = l.length) := ⟨fds_length, txs_length⟩
theorem X.sq {p : Prop} (h : p := by first | rfl | assumption | omega | exact nlb rfl | (simp (disch := omega) only [sd, sb, sdq, Bool.not_true, Bool.not_false] <;> first | omega | assumption) | (simp (disch := omega) [sd, sdq] <;> omega)) : p := h
theorem X.gq {p : Prop} (h : p := by first | assumption | exact bs_getD X.s | exact fds_getD' X.sq | exact txs_getD' X.sq | rfl) : p := h
theorem any_cons {v : V} {xs : List V} (h : isLp v = false) (h' : xs.any isLp = false) : (v :: xs).any isLp = false := by rw [List.any_cons, h, h']; rfl
theorem X.al {xs : List V} (h : xs.any isLp = false := by (first | rfl | (repeat (first | rfl | refine any_cons X.l2 ?_))); all_goals fail) : xs.any isLp = false := h
theorem X.cq {ts : List PT} {vs : List V} {hp : Hp} {ws : List V} {hp' : Hp} (h : ClP ts vs hp ws hp' := by (repeat (first | exact ClP.nil _ | apply ClP.s (clo_it _ _) | apply ClP.s (clo_st _) | apply ClP.s (clo_bo _) | apply ClP.s (clo_vs [.one] _) | apply ClP.s (clo_vs [.one, .one] _) | apply ClP.c (by assumption) | apply ClP.s2 (clo_ns _) | apply ClP.gs (fd_clo _) | apply ClP.gs (by assumption))); all_goals fail) : ClP ts vs hp ws hp' := h
theorem X.lq {p : Prop} (h : p := by first | exact congrArg some (fds_length _) | exact congrArg some (txs_length _) | rfl | assumption) : p := h
section
variable {F : Nat → Option Ev.Fn} {R : R} {k : Ev.R → D} {clr : List Nat} {tm : Tm} {lo : Lo} {hp : Hp} {r : List DOp} {us : List Nat} {g : Option (Nat × Bool)} {d : Nat}
theorem slc_go {s : Bool} {sz : Nat} {x : A} {o1 o2 : Option A} {v w : V} {n a b : Nat} (hx : get tm x = v) (hz : ∀ K : D, szD hp sz v K = K) (hn : lenOf s v = some n) (h1 : bnd tm 0 o1 a) (h2 : bnd tm n o2 b) (hab : a ≤ b) (hb : b ≤ n) (hw : sliceV v a b = some w)
    (nx : EvD F (evLs clr r ⟨upd tm d w, lo, hp⟩ k) R) : EvD F (evLs clr (⟨some d, g, us, .slc s sz x o1 o2⟩ :: r) ⟨tm, lo, hp⟩ k) R := by
  have e : evLs clr (⟨some d, g, us, .slc s sz x o1 o2⟩ :: r) ⟨tm, lo, hp⟩ k = szD hp sz (get tm x) (oneD (lenOf s (get tm x)) fun n => boundD tm 0 o1 fun l => boundD tm n o2 fun h =>
      .chk (Nat.ble l h) (.chk (Nat.ble h n) (oneD (sliceV (get tm x) l h) fun v => forceV (fun v => evLs clr r ⟨upd tm d v, lo, hp⟩ k) v))) := rfl
  rw [e, hx, hz, hn]
  show EvD F (boundD tm 0 o1 fun a => boundD tm n o2 fun h => .chk (Nat.ble a h) (.chk (Nat.ble h n) (oneD (sliceV v a h) fun v => forceV (fun v => evLs clr r ⟨upd tm d v, lo, hp⟩ k) v))) R
  apply bnd_D h1
  show EvD F (boundD tm n o2 fun h => .chk (Nat.ble a h) (.chk (Nat.ble h n) (oneD (sliceV v a h) fun v => forceV (fun v => evLs clr r ⟨upd tm d v, lo, hp⟩ k) v))) R
  apply bnd_D h2
  refine .chk (by rw [bleD]; exact decide_eq_true hab) (.chk (by rw [bleD]; exact decide_eq_true hb) ?_)
  rw [hw]
  show EvD F (forceV (fun v => evLs clr r ⟨upd tm d v, lo, hp⟩ k) w) R
  rw [forceV_eq]; exact nx
theorem X.slS1 {sz : Nat} {x o : A} {s : List Nat} {kk : IntKind} {a : Nat} (hx : get tm x = .st s) (h1 : get tm o = .it kk (Int.ofNat a)) (ha : a ≤ s.length) (nx : EvD F (evLs clr r ⟨upd tm d (.st (s.drop a)), lo, hp⟩ k) R) :
    EvD F (evLs clr (⟨some d, g, us, .slc true sz x (some o) none⟩ :: r) ⟨tm, lo, hp⟩ k) R :=
  slc_go hx (fun _ => rfl) rfl ⟨kk, h1⟩ rfl ha (Nat.le_refl _) (by show some (V.st ((s.drop a).take (s.length - a))) = _; rw [← List.length_drop, List.take_length]) nx
theorem X.slS3 {sz : Nat} {x o1 o2 : A} {s : List Nat} {k1 k2 : IntKind} {a b : Nat} (hx : get tm x = .st s) (h1 : get tm o1 = .it k1 (Int.ofNat a)) (h2 : get tm o2 = .it k2 (Int.ofNat b)) (ha : a ≤ b) (hb : b ≤ s.length) (nx : EvD F (evLs clr r ⟨upd tm d (.st ((s.drop a).take (b - a))), lo, hp⟩ k) R) :
    EvD F (evLs clr (⟨some d, g, us, .slc true sz x (some o1) (some o2)⟩ :: r) ⟨tm, lo, hp⟩ k) R :=
  slc_go hx (fun _ => rfl) rfl ⟨k1, h1⟩ ⟨k2, h2⟩ ha hb rfl nx
end
end Ev
namespace Ev
variable [Glob]
open Go
section
variable {F : Nat → Option Ev.Fn} {R : R} {k : Ev.R → D} {clr : List Nat} {tm : Tm} {lo : Lo} {hp : Hp} {r : List DOp} {us : List Nat} {g : Option (Nat × Bool)} {d : Nat}
theorem X.addN {q : Qk} {x y : A} {a b : Nat} (hx : get tm x = .it .i64 (Int.ofNat a)) (hy : get tm y = .it .i64 (Int.ofNat b)) (h : a + b ≤ 1000000000000) (nx : EvD F (evLs clr r ⟨upd tm d (.it .i64 (Int.ofNat (a + b))), lo, hp⟩ k) R) :
    EvD F (evLs clr (⟨some d, g, us, .bin q .add x y⟩ :: r) ⟨tm, lo, hp⟩ k) R := by
  have e : evLs clr (⟨some d, g, us, .bin q .add x y⟩ :: r) ⟨tm, lo, hp⟩ k = binD hp q .add (get tm x) (get tm y) fun v => forceV (fun v => evLs clr r ⟨upd tm d v, lo, hp⟩ k) v := rfl
  rw [e, hx, hy]
  show EvD F (evLs clr r ⟨upd tm d (.it .i64 (wr .i64 (Int.ofNat a + Int.ofNat b))), lo, hp⟩ k) R
  have e2 : (Int.ofNat a + Int.ofNat b : Int) = Int.ofNat (a + b) := rfl
  rw [e2, wr64 (by simp; omega) (by simp; omega)]; exact nx
theorem X.subN {q : Qk} {x y : A} {a b : Nat} (hx : get tm x = .it .i64 (Int.ofNat a)) (hy : get tm y = .it .i64 (Int.ofNat b)) (h : b ≤ a ∧ a ≤ 1000000000000) (nx : EvD F (evLs clr r ⟨upd tm d (.it .i64 (Int.ofNat (a - b))), lo, hp⟩ k) R) :
    EvD F (evLs clr (⟨some d, g, us, .bin q .sub x y⟩ :: r) ⟨tm, lo, hp⟩ k) R := by
  have e : evLs clr (⟨some d, g, us, .bin q .sub x y⟩ :: r) ⟨tm, lo, hp⟩ k = binD hp q .sub (get tm x) (get tm y) fun v => forceV (fun v => evLs clr r ⟨upd tm d v, lo, hp⟩ k) v := rfl
  rw [e, hx, hy]
  show EvD F (evLs clr r ⟨upd tm d (.it .i64 (wr .i64 (Int.ofNat a - Int.ofNat b))), lo, hp⟩ k) R
  have e2 : (Int.ofNat a - Int.ofNat b : Int) = Int.ofNat (a - b) := by simp; omega
  rw [e2, wr64 (by simp) (by simp; omega)]; exact nx
end
end Ev
namespace Ev
variable [Glob]
open Go
theorem X.hq {p : Prop} (h : p := by first | assumption | rfl | (simp only [hgs, if_true]; rfl) | (simp only [hgs]; (repeat (first | rw [if_pos (by omega)] | rw [if_neg (by omega)])); first | rfl | assumption) | (refine (oah_get ?_ ?_).trans ?_ <;> first | assumption | omega) | (refine (gah_get ?_ ?_).trans ?_ <;> first | assumption | omega)) : p := h
theorem h0_next : h0.next = 0 := rfl
theorem X.hn {a b : Nat} (h : a = b := by first | ((conv => lhs; simp only [hgs, h0_next, Nat.zero_add, Nat.reduceAdd]); all_goals fail) | rfl) : a = b := h
theorem X.hl {p : Prop} (h : p := by first | rfl | assumption | omega | exact nlb rfl | (simp only [hgs, hnew_lim, hset_lim, oah_lim, gah_lim]; first | omega | assumption)) : p := h
section
variable {F : Nat → Option Ev.Fn} {Q Q' : R → Prop} {k : Ev.R → D} {clr : List Nat} {tm : Tm} {lo : Lo} {hp : Hp} {r : List DOp} {us : List Nat} {g : Option (Nat × Bool)} {d : Nat}
structure RwQ (P : V → Hp → Prop) (r : R) : Prop where
  un : ∃ v hp', r = Rt v hp' ∧ P v hp'
theorem EvC.ofQ {own : Bool} {f : Nat} (dd : DFn) {xs : List V} {P : V → Hp → Prop} (h1 : F f = some dd.den) (h2 : dd.md = .rw) (h3 : Nat.beq xs.length dd.ps.length = true) (h4 : EvQ F (dd.body.run ⟨argT xs, fun _ => none, hp⟩ (fK dd)) (RwQ P)) :
    ∃ v hp', EvC F own f xs hp (.ret v hp') ∧ P v hp' := by
  obtain ⟨r, h, ⟨v, hp', rfl, e⟩⟩ := h4
  refine ⟨v, hp', EvC.rw (r := Rt v hp') h1 h2 h3 ?_ rfl, e⟩
  have := X.fn h
  rw [stepD_eq] at this
  exact this
theorem EvQ.call {own : Bool} {md : Md} {f : Nat} {xs : List A} {ys : List V} {P : V → Hp → Prop} (hx : xs.map (get tm) = ys) (hl : ys.any isLp = false) (h : ∃ v hp', EvC F own f ys hp (.ret v hp') ∧ P v hp')
    (n : ∀ v hp', P v hp' → EvQ F (evLs clr r ⟨upd tm d v, lo, hp'⟩ k) Q) : EvQ F (evLs clr (⟨some d, g, [], .call own md f xs⟩ :: r) ⟨tm, lo, hp⟩ k) Q := by
  obtain ⟨v, hp', h1, h2⟩ := h
  exact (n v hp' h2).lift fun R n => X.call hx hl h1 n
end
structure Up (n : Nat) (hp hp' : Hp) : Prop where
  next : hp.next ≤ hp'.next
  lim : hp'.lim = hp.lim
  get : ∀ j, j < n → hget hp' j = hget hp j
end Ev
namespace Ev
variable [Glob]
open Go
theorem res_tmp {st : St} {t : Nat} {r : List Rv} {K : List V → D} (h : isLp (st.tm t) = false) : resultsD st (.tmp t :: r) K = resultsD st r (fun s => K (st.tm t :: s)) := by
  show (notLpD (st.tm t) fun v => resultsD st r fun s => K (v :: s)) = _
  generalize st.tm t = v at h
  cases v <;> first | rfl | cases h
theorem X.rs {st : St} {l : List Rv} {vs : List V} (h : ∀ K : List V → D, resultsD st l K = K vs := by (first | exact fun _ => rfl | (intro K; repeat (first | rfl | refine (res_tmp X.l2).trans ?_))); all_goals fail) : ∀ K : List V → D, resultsD st l K = K vs := h
end Ev
namespace Ev
variable [Glob]
open Go
section
variable {F : Nat → Option Ev.Fn} {R : R} {k : Ev.R → D} {clr : List Nat} {tm : Tm} {lo : Lo} {hp : Hp} {r : List DOp} {us : List Nat} {g : Option (Nat × Bool)} {d : Nat}
end
end Ev
namespace Ev
variable [Glob]
open Go
section
variable {F : Nat → Option Ev.Fn} {R : R} {k : Ev.R → D} {clr : List Nat} {tm : Tm} {lo : Lo} {hp : Hp} {r : List DOp} {us : List Nat} {g : Option (Nat × Bool)} {d : Nat}
end
end Ev
namespace Ev
variable [Glob]
open Go
section
variable {F : Nat → Option Ev.Fn} {R : R} {k : Ev.R → D} {clr : List Nat} {tm : Tm} {lo : Lo} {hp : Hp} {r : List DOp} {us : List Nat} {g : Option (Nat × Bool)} {d : Nat} {i : I} {v : V} {b1 : Bool}
theorem kp_cons {v : V} {xs : List V} (h : v.keep = true) (h' : xs.all V.keep = true) : (v :: xs).all V.keep = true := by rw [List.all_cons, h, h']; rfl
theorem X.kp {p : Prop} (h : p := by (repeat (first | rfl | refine kp_cons (by first | rfl | assumption) ?_)); all_goals fail) : p := h
end
end Ev
namespace Ev
variable [Glob]
open Go
def Rd (hp : Hp) (v : V) (sz : Nat) (rows : List (List V)) : Prop :=
  (v = .ns ∧ rows = []) ∨ v = .vs sz rows ∨
  ∃ id i fr all, v = .hs id i rows.length ∧ id < hp.next ∧ hget hp id = some ⟨sz, fr, all⟩ ∧ i + rows.length ≤ all.length ∧ (all.drop i).take rows.length = rows
section
variable {hp hp' : Hp} {v : V} {sz : Nat} {rows : List (List V)}
theorem Rd.vs : Rd hp (.vs sz rows) sz rows := .inr (.inl rfl)
theorem Rd.lp (h : Rd hp v sz rows) : isLp v = false := by rcases h with ⟨rfl, _⟩ | rfl | ⟨_, _, _, _, rfl, _⟩ <;> rfl
end
section
variable {F : Nat → Option Ev.Fn} {R : R} {k : Ev.R → D} {clr : List Nat} {tm : Tm} {lo : Lo} {hp : Hp} {r : List DOp} {us : List Nat} {g : Option (Nat × Bool)} {d : Nat} {v vy : V} {sz bytes : Nat} {rows new : List (List V)} {x y : A}
end
end Ev
namespace Ev
variable [Glob]
open Go
section
variable {F : Nat → Option Ev.Fn} {R : R} {k : Ev.R → D} {clr : List Nat} {tm : Tm} {lo : Lo} {hp : Hp} {r : List DOp} {us : List Nat} {g : Option (Nat × Bool)} {d : Nat} {v : V} {sz : Nat} {rows : List (List V)}
end
end Ev
namespace Ev
variable [Glob]
theorem shed_none {drop : List Nat} : shed drop (fun _ => none) = fun _ => none := by
  funext t; unfold shed; cases hasN drop t <;> rfl
theorem shed_dup {drop : List Nat} {lo : Lo} {d : Nat} {a b : List V} : shed drop (lset (lset lo d a) d b) = shed drop (lset lo d b) := by
  funext t; unfold shed lset; cases Nat.beq t d <;> rfl
theorem shed_hit {drop : List Nat} {lo : Lo} {d : Nat} {a : List V} (h : hasN drop d = true) : shed drop (lset lo d a) = shed drop lo := by
  funext t; unfold shed lset
  cases q : Nat.beq t d with
  | false => rfl
  | true => rw [Nat.eq_of_beq_eq_true q, h]; rfl
theorem shed_cong {drop : List Nat} {lo lo' : Lo} {d : Nat} {a b : List V} (h : hasN drop d = false) (h' : shed drop lo = lo') (e : a = b) : shed drop (lset lo d a) = lset lo' d b := by
  subst h'; subst e
  funext t; unfold shed lset
  cases q : Nat.beq t d with
  | false => rfl
  | true => rw [Nat.eq_of_beq_eq_true q, h]; rfl
theorem X.lo {a b : Lo} (h : a = b := by (repeat (first | rfl | exact shed_none | refine (shed_dup).trans ?_ | refine (shed_hit (by rfl)).trans ?_ | refine shed_cong (by rfl) ?_ (by rfl))); all_goals fail) : a = b := h
end Ev
namespace Ev
variable [Glob]
open Go
section
variable {F : Nat → Option Ev.Fn} {R : R} {k : Ev.R → D} {clr : List Nat} {tm : Tm} {lo : Lo} {hp : Hp} {r : List DOp} {us : List Nat} {g : Option (Nat × Bool)} {d : Nat}
end
end Ev
namespace Ev
variable [Glob]
open Go
section
variable {F : Nat → Option Ev.Fn} {R : R} {k : Ev.R → D} {clr : List Nat} {tm : Tm} {lo : Lo} {hp : Hp} {r : List DOp} {us : List Nat} {g : Option (Nat × Bool)} {d : Nat}
end
end Ev
namespace Ev
variable [Glob]
open Go
theorem X.run {F : Nat → Option Ev.Fn} {d d1 : D} {R : R} (n : EvD F d1 R) (f : EvD F d1 R → EvD F d R := by
    intro n
    repeat (first
      | refine X.lpb ?_
      | refine X.seq ?_
      | refine X.skip ?_
      | refine X.ret ?_
      | refine X.exit ?_
      | refine X.blk ?_
      | refine X.sn ?_
      | refine X.se ?_
      | refine X.sr ?_
      | refine X.bn ?_
      | refine X.br ?_
      | refine X.bh ?_
      | refine X.bm rfl ?_
      | refine X.pn ?_
      | refine X.gn ?_
      | refine X.g0 ?_
      | refine X.ln ?_
      | refine X.finn ?_
      | refine X.reg0 X.r ?_
      | refine X.reg1 X.r ?_
      | refine X.gt rfl ?_
      | refine X.orr X.w X.w ?_
      | refine X.andr X.w X.w ?_
      | refine X.shl X.w X.w X.r ?_
      | (refine X.iaE X.w (by assumption) rfl ?_ ?_; · exact X.s)
      | (refine X.ldE rfl (by assumption) ?_ ?_; · exact X.s)
      | (refine X.iaS X.w (by assumption) rfl ?_ ?_; · exact X.s)
      | (refine X.ldS (off := 0) rfl (by assumption) ?_ X.g ?_ rfl ?_; iterate 2 (· exact X.s))
      | refine X.bsv1 X.w ?_
      | (refine X.ixsV X.w X.w (by assumption) ?_ ?_; · exact X.s)
      | (refine X.ixsE X.w X.w ?_ ?_; · exact X.s)
      | refine X.s2b X.w X.w ?_
      | refine X.bsl1 X.w rfl rfl rfl X.w ?_
      | (refine X.iav X.w X.w ?_ X.g ?_; · exact X.s)
      | refine X.o0 (fun _ _ => rfl) ?_
      | (refine X.o1 (fun _ _ => rfl) ?_ ?_; · exact X.s)
      | (refine X.o2 (fun _ _ => rfl) ?_ ?_ ?_; iterate 2 (· exact X.s))
      | (refine X.o3 (fun _ _ => rfl) ?_ ?_ ?_ ?_; iterate 3 (· exact X.s))
      | refine X.pickT rfl (fun _ => rfl) ?_
      | refine X.pickF rfl (fun _ => rfl) ?_
      | refine X.condT rfl ?_
      | refine X.condF rfl ?_
      | refine X.g1T rfl ?_
      | refine X.g1F rfl ?_
      | refine X.alc X.fr ?_
      | refine X.box X.w rfl rfl ?_
      | refine X.stl X.w rfl rfl rfl rfl rfl rfl rfl ?_
      | (refine X.apf X.w X.w X.e X.h rfl rfl ?_ ?_ X.w ?_; iterate 2 (· exact X.s))
      | refine X.bsl rfl X.w ?_
      | refine X.alh X.w ?_
      | refine X.bxh X.w rfl X.w ?_
      | (refine X.mks X.w X.w ?_ ?_ ?_ (by decide) X.w X.wi ?_; iterate 3 (· exact X.s))
      | (refine X.cpy X.w X.w (elems_vs _) X.a rfl rfl ?_ ?_ ?_; iterate 2 (· exact X.s))
      | (refine X.iah X.w X.w X.a rfl ?_ ?_; · exact X.s)
      | (refine X.stp X.w X.w X.a rfl X.li rfl rfl rfl ?_ X.g ?_ ?_; iterate 2 (· exact X.s))
      | (refine X.ldp X.w X.a ?_ X.g ?_ rfl ?_; iterate 2 (· exact X.s))
      | refine X.len X.w X.ra ?_
      | ((first | refine X.condTs rfl ?_ ?_ | refine X.g1Ts rfl ?_ ?_ | refine X.pickTs rfl ?_ (fun _ => rfl) ?_); · exact X.s)
      | ((first | refine X.condFs rfl ?_ ?_ | refine X.g1Fs rfl ?_ ?_ | refine X.pickFs rfl ?_ (fun _ => rfl) ?_); · exact X.s)
      | refine X.ext X.w rfl X.ra ?_
      | refine X.mov X.w X.l2 ?_)
    exact n) : EvD F d R := f n
theorem X.run1 {F : Nat → Option Ev.Fn} {d d1 : D} {R : R} (n : EvD F d1 R) (f : EvD F d1 R → EvD F d R := by
    intro n
    (first
      | refine X.lpb ?_
      | refine X.seq ?_
      | refine X.skip ?_
      | refine X.ret ?_
      | refine X.exit ?_
      | refine X.blk ?_
      | refine X.sn ?_
      | refine X.se ?_
      | refine X.sr ?_
      | refine X.bn ?_
      | refine X.br ?_
      | refine X.bh ?_
      | refine X.bm rfl ?_
      | refine X.pn ?_
      | refine X.gn ?_
      | refine X.g0 ?_
      | refine X.ln ?_
      | refine X.finn ?_
      | refine X.reg0 X.r ?_
      | refine X.reg1 X.r ?_
      | refine X.gt rfl ?_
      | refine X.orr X.w X.w ?_
      | refine X.andr X.w X.w ?_
      | refine X.shl X.w X.w X.r ?_
      | (refine X.iaE X.w (by assumption) rfl ?_ ?_; · exact X.s)
      | (refine X.ldE rfl (by assumption) ?_ ?_; · exact X.s)
      | (refine X.iaS X.w (by assumption) rfl ?_ ?_; · exact X.s)
      | (refine X.ldS (off := 0) rfl (by assumption) ?_ X.g ?_ rfl ?_; iterate 2 (· exact X.s))
      | refine X.bsv1 X.w ?_
      | (refine X.ixsV X.w X.w (by assumption) ?_ ?_; · exact X.s)
      | (refine X.ixsE X.w X.w ?_ ?_; · exact X.s)
      | refine X.s2b X.w X.w ?_
      | refine X.bsl1 X.w rfl rfl rfl X.w ?_
      | (refine X.iav X.w X.w ?_ X.g ?_; · exact X.s)
      | refine X.o0 (fun _ _ => rfl) ?_
      | (refine X.o1 (fun _ _ => rfl) ?_ ?_; · exact X.s)
      | (refine X.o2 (fun _ _ => rfl) ?_ ?_ ?_; iterate 2 (· exact X.s))
      | (refine X.o3 (fun _ _ => rfl) ?_ ?_ ?_ ?_; iterate 3 (· exact X.s))
      | refine X.pickT rfl (fun _ => rfl) ?_
      | refine X.pickF rfl (fun _ => rfl) ?_
      | refine X.condT rfl ?_
      | refine X.condF rfl ?_
      | refine X.g1T rfl ?_
      | refine X.g1F rfl ?_
      | refine X.alc X.fr ?_
      | refine X.box X.w rfl rfl ?_
      | refine X.stl X.w rfl rfl rfl rfl rfl rfl rfl ?_
      | (refine X.apf X.w X.w X.e X.h rfl rfl ?_ ?_ X.w ?_; iterate 2 (· exact X.s))
      | refine X.bsl rfl X.w ?_
      | refine X.alh X.w ?_
      | refine X.bxh X.w rfl X.w ?_
      | (refine X.mks X.w X.w ?_ ?_ ?_ (by decide) X.w X.wi ?_; iterate 3 (· exact X.s))
      | (refine X.cpy X.w X.w (elems_vs _) X.a rfl rfl ?_ ?_ ?_; iterate 2 (· exact X.s))
      | (refine X.iah X.w X.w X.a rfl ?_ ?_; · exact X.s)
      | (refine X.stp X.w X.w X.a rfl X.li rfl rfl rfl ?_ X.g ?_ ?_; iterate 2 (· exact X.s))
      | (refine X.ldp X.w X.a ?_ X.g ?_ rfl ?_; iterate 2 (· exact X.s))
      | refine X.len X.w X.ra ?_
      | ((first | refine X.condTs rfl ?_ ?_ | refine X.g1Ts rfl ?_ ?_ | refine X.pickTs rfl ?_ (fun _ => rfl) ?_); · exact X.s)
      | ((first | refine X.condFs rfl ?_ ?_ | refine X.g1Fs rfl ?_ ?_ | refine X.pickFs rfl ?_ (fun _ => rfl) ?_); · exact X.s)
      | refine X.ext X.w rfl X.ra ?_
      | refine X.mov X.w X.l2 ?_)
    repeat (first
      | refine X.lpb ?_
      | refine X.seq ?_
      | refine X.skip ?_
      | refine X.ret ?_
      | refine X.exit ?_
      | refine X.blk ?_
      | refine X.sn ?_
      | refine X.se ?_
      | refine X.sr ?_
      | refine X.bn ?_
      | refine X.br ?_
      | refine X.bh ?_
      | refine X.bm rfl ?_
      | refine X.pn ?_
      | refine X.gn ?_
      | refine X.g0 ?_
      | refine X.ln ?_
      | refine X.finn ?_
      | refine X.reg0 X.r ?_
      | refine X.reg1 X.r ?_
      | refine X.gt rfl ?_
      | refine X.orr X.w X.w ?_
      | refine X.andr X.w X.w ?_
      | refine X.shl X.w X.w X.r ?_
      | (refine X.iaE X.w (by assumption) rfl ?_ ?_; · exact X.s)
      | (refine X.ldE rfl (by assumption) ?_ ?_; · exact X.s)
      | (refine X.iaS X.w (by assumption) rfl ?_ ?_; · exact X.s)
      | (refine X.ldS (off := 0) rfl (by assumption) ?_ X.g ?_ rfl ?_; iterate 2 (· exact X.s))
      | refine X.bsv1 X.w ?_
      | (refine X.ixsV X.w X.w (by assumption) ?_ ?_; · exact X.s)
      | (refine X.ixsE X.w X.w ?_ ?_; · exact X.s)
      | refine X.s2b X.w X.w ?_
      | refine X.bsl1 X.w rfl rfl rfl X.w ?_
      | (refine X.iav X.w X.w ?_ X.g ?_; · exact X.s)
      | refine X.o0 (fun _ _ => rfl) ?_
      | (refine X.o1 (fun _ _ => rfl) ?_ ?_; · exact X.s)
      | (refine X.o2 (fun _ _ => rfl) ?_ ?_ ?_; iterate 2 (· exact X.s))
      | (refine X.o3 (fun _ _ => rfl) ?_ ?_ ?_ ?_; iterate 3 (· exact X.s))
      | refine X.pickT rfl (fun _ => rfl) ?_
      | refine X.pickF rfl (fun _ => rfl) ?_
      | refine X.condT rfl ?_
      | refine X.condF rfl ?_
      | refine X.g1T rfl ?_
      | refine X.g1F rfl ?_
      | refine X.alc X.fr ?_
      | refine X.box X.w rfl rfl ?_
      | refine X.stl X.w rfl rfl rfl rfl rfl rfl rfl ?_
      | (refine X.apf X.w X.w X.e X.h rfl rfl ?_ ?_ X.w ?_; iterate 2 (· exact X.s))
      | refine X.bsl rfl X.w ?_
      | refine X.alh X.w ?_
      | refine X.bxh X.w rfl X.w ?_
      | (refine X.mks X.w X.w ?_ ?_ ?_ (by decide) X.w X.wi ?_; iterate 3 (· exact X.s))
      | (refine X.cpy X.w X.w (elems_vs _) X.a rfl rfl ?_ ?_ ?_; iterate 2 (· exact X.s))
      | (refine X.iah X.w X.w X.a rfl ?_ ?_; · exact X.s)
      | (refine X.stp X.w X.w X.a rfl X.li rfl rfl rfl ?_ X.g ?_ ?_; iterate 2 (· exact X.s))
      | (refine X.ldp X.w X.a ?_ X.g ?_ rfl ?_; iterate 2 (· exact X.s))
      | refine X.len X.w X.ra ?_
      | ((first | refine X.condTs rfl ?_ ?_ | refine X.g1Ts rfl ?_ ?_ | refine X.pickTs rfl ?_ (fun _ => rfl) ?_); · exact X.s)
      | ((first | refine X.condFs rfl ?_ ?_ | refine X.g1Fs rfl ?_ ?_ | refine X.pickFs rfl ?_ (fun _ => rfl) ?_); · exact X.s)
      | refine X.ext X.w rfl X.ra ?_
      | refine X.mov X.w X.l2 ?_)
    exact n) : EvD F d R := f n
theorem EvQ.run {F : Nat → Option Ev.Fn} {d d' : D} {Q : R → Prop} (h : EvQ F d' Q) (f : ∀ R, EvD F d' R → EvD F d R := by
    intro R n
    (first
      | refine X.lpb ?_
      | refine X.seq ?_
      | refine X.skip ?_
      | refine X.ret ?_
      | refine X.exit ?_
      | refine X.blk ?_
      | refine X.sn ?_
      | refine X.se ?_
      | refine X.sr ?_
      | refine X.bn ?_
      | refine X.br ?_
      | refine X.bh ?_
      | refine X.bm rfl ?_
      | refine X.pn ?_
      | refine X.gn ?_
      | refine X.g0 ?_
      | refine X.ln ?_
      | refine X.finn ?_
      | refine X.reg0 X.r ?_
      | refine X.reg1 X.r ?_
      | refine X.gt rfl ?_
      | refine X.orr X.w X.w ?_
      | refine X.andr X.w X.w ?_
      | refine X.shl X.w X.w X.r ?_
      | (refine X.iaE X.w (by assumption) rfl ?_ ?_; · exact X.sq)
      | (refine X.ldE rfl (by assumption) ?_ ?_; · exact X.sq)
      | (refine X.iaR X.w (by assumption) rfl ?_ ?_; · exact X.sq)
      | (refine X.ldR (off := 0) rfl (by assumption) ?_ X.gq ?_ rfl ?_; iterate 2 (· exact X.sq))
      | (refine X.fadR rfl X.rd ?_ X.gq ?_ ?_; iterate 2 (· exact X.sq))
      | (refine X.ldR rfl X.rd ?_ X.gq ?_ rfl ?_; iterate 2 (· exact X.sq))
      | (refine X.slS1 X.w X.w ?_ ?_; · exact X.sq)
      | (refine X.slS2 X.w X.w ?_ ?_; · exact X.sq)
      | (refine X.slS3 X.w X.w X.w ?_ ?_ ?_; iterate 2 (· exact X.sq))
      | (refine X.slF1 X.w X.w ?_ ?_; · exact X.sq)
      | (refine X.slF2 X.w X.w ?_ ?_; · exact X.sq)
      | (refine X.addN X.w X.w ?_ ?_; · exact X.sq)
      | (refine X.subN X.w X.w ?_ ?_; · exact X.sq)
      | refine X.len X.w X.lq ?_
      | (refine X.apo X.w X.w (by assumption) X.e (List.cons_ne_nil _ _) (fun _ => rfl) ?_ ?_; · exact X.sq)
      | (refine X.apg X.w X.w (by assumption) X.e (fun _ => rfl) ?_ ?_; · exact X.sq)
      | (refine X.iaS X.w (by assumption) rfl ?_ ?_; · exact X.sq)
      | (refine X.ldS (off := 0) rfl (by assumption) ?_ X.gq ?_ rfl ?_; iterate 2 (· exact X.sq))
      | refine X.bsv1 X.w ?_
      | (refine X.ixsV X.w X.w (by assumption) ?_ ?_; · exact X.sq)
      | (refine X.ixsE X.w X.w ?_ ?_; · exact X.sq)
      | refine X.s2b X.w X.hn ?_
      | refine X.bsl1 X.w rfl rfl rfl X.hn ?_
      | (refine X.iav X.w X.w ?_ X.gq ?_; · exact X.sq)
      | refine X.o0 (fun _ _ => rfl) ?_
      | (refine X.o1 (fun _ _ => rfl) ?_ ?_; · exact X.sq)
      | (refine X.o2 (fun _ _ => rfl) ?_ ?_ ?_; iterate 2 (· exact X.sq))
      | (refine X.o3 (fun _ _ => rfl) ?_ ?_ ?_ ?_; iterate 3 (· exact X.sq))
      | refine X.pickT rfl (fun _ => rfl) ?_
      | refine X.pickF rfl (fun _ => rfl) ?_
      | refine X.condT rfl ?_
      | refine X.condF rfl ?_
      | refine X.g1T rfl ?_
      | refine X.g1F rfl ?_
      | refine X.alc X.fr ?_
      | refine X.box X.w rfl rfl ?_
      | refine X.stl X.w rfl rfl rfl rfl rfl rfl rfl ?_
      | (refine X.apf X.w X.w X.e X.hq rfl rfl ?_ ?_ X.hn ?_; iterate 2 (· exact X.sq))
      | refine X.bsl rfl X.hn ?_
      | refine X.alh X.hn ?_
      | refine X.bxh X.w rfl X.hn ?_
      | (refine X.mks X.w X.w ?_ ?_ ?_ (by decide) X.hn X.wi ?_; iterate 3 (· exact X.sq))
      | (refine X.cpy X.w X.w (elems_vs _) X.hq rfl rfl ?_ ?_ ?_; iterate 2 (· exact X.sq))
      | (refine X.iah X.w X.w X.hq rfl ?_ ?_; · exact X.sq)
      | (refine X.stp X.w X.w X.hq rfl X.hl rfl rfl rfl ?_ X.gq ?_ ?_; iterate 2 (· exact X.sq))
      | (refine X.ldp X.w X.hq ?_ X.gq ?_ rfl ?_; iterate 2 (· exact X.sq))
      | refine X.len X.w X.lq ?_
      | ((first | refine X.condTs rfl ?_ ?_ | refine X.g1Ts rfl ?_ ?_ | refine X.pickTs rfl ?_ (fun _ => rfl) ?_); · exact X.sq)
      | ((first | refine X.condFs rfl ?_ ?_ | refine X.g1Fs rfl ?_ ?_ | refine X.pickFs rfl ?_ (fun _ => rfl) ?_); · exact X.sq)
      | refine X.ext X.w rfl X.ra ?_
      | refine X.mov X.w X.l2 ?_
      | refine X.bldq X.fl ?_
      | refine X.q0 (fun _ _ => rfl) ?_
      | (refine X.q1 (fun _ _ => rfl) ?_ ?_; · exact X.sq)
      | refine X.box X.w X.kp rfl ?_
      | refine X.stl X.w rfl rfl rfl X.kp rfl rfl rfl ?_
      | refine X.stl1 X.w rfl rfl (by assumption) (by assumption) rfl rfl rfl ?_
      | (refine X.stp1 X.w X.w X.hq rfl X.hl (by assumption) (by assumption) rfl ?_ X.gq ?_ ?_; iterate 2 (· exact X.sq)))
    repeat (first
      | refine X.lpb ?_
      | refine X.seq ?_
      | refine X.skip ?_
      | refine X.ret ?_
      | refine X.exit ?_
      | refine X.blk ?_
      | refine X.sn ?_
      | refine X.se ?_
      | refine X.sr ?_
      | refine X.bn ?_
      | refine X.br ?_
      | refine X.bh ?_
      | refine X.bm rfl ?_
      | refine X.pn ?_
      | refine X.gn ?_
      | refine X.g0 ?_
      | refine X.ln ?_
      | refine X.finn ?_
      | refine X.reg0 X.r ?_
      | refine X.reg1 X.r ?_
      | refine X.gt rfl ?_
      | refine X.orr X.w X.w ?_
      | refine X.andr X.w X.w ?_
      | refine X.shl X.w X.w X.r ?_
      | (refine X.iaE X.w (by assumption) rfl ?_ ?_; · exact X.sq)
      | (refine X.ldE rfl (by assumption) ?_ ?_; · exact X.sq)
      | (refine X.iaR X.w (by assumption) rfl ?_ ?_; · exact X.sq)
      | (refine X.ldR (off := 0) rfl (by assumption) ?_ X.gq ?_ rfl ?_; iterate 2 (· exact X.sq))
      | (refine X.fadR rfl X.rd ?_ X.gq ?_ ?_; iterate 2 (· exact X.sq))
      | (refine X.ldR rfl X.rd ?_ X.gq ?_ rfl ?_; iterate 2 (· exact X.sq))
      | (refine X.slS1 X.w X.w ?_ ?_; · exact X.sq)
      | (refine X.slS2 X.w X.w ?_ ?_; · exact X.sq)
      | (refine X.slS3 X.w X.w X.w ?_ ?_ ?_; iterate 2 (· exact X.sq))
      | (refine X.slF1 X.w X.w ?_ ?_; · exact X.sq)
      | (refine X.slF2 X.w X.w ?_ ?_; · exact X.sq)
      | (refine X.addN X.w X.w ?_ ?_; · exact X.sq)
      | (refine X.subN X.w X.w ?_ ?_; · exact X.sq)
      | refine X.len X.w X.lq ?_
      | (refine X.apo X.w X.w (by assumption) X.e (List.cons_ne_nil _ _) (fun _ => rfl) ?_ ?_; · exact X.sq)
      | (refine X.apg X.w X.w (by assumption) X.e (fun _ => rfl) ?_ ?_; · exact X.sq)
      | (refine X.iaS X.w (by assumption) rfl ?_ ?_; · exact X.sq)
      | (refine X.ldS (off := 0) rfl (by assumption) ?_ X.gq ?_ rfl ?_; iterate 2 (· exact X.sq))
      | refine X.bsv1 X.w ?_
      | (refine X.ixsV X.w X.w (by assumption) ?_ ?_; · exact X.sq)
      | (refine X.ixsE X.w X.w ?_ ?_; · exact X.sq)
      | refine X.s2b X.w X.hn ?_
      | refine X.bsl1 X.w rfl rfl rfl X.hn ?_
      | (refine X.iav X.w X.w ?_ X.gq ?_; · exact X.sq)
      | refine X.o0 (fun _ _ => rfl) ?_
      | (refine X.o1 (fun _ _ => rfl) ?_ ?_; · exact X.sq)
      | (refine X.o2 (fun _ _ => rfl) ?_ ?_ ?_; iterate 2 (· exact X.sq))
      | (refine X.o3 (fun _ _ => rfl) ?_ ?_ ?_ ?_; iterate 3 (· exact X.sq))
      | refine X.pickT rfl (fun _ => rfl) ?_
      | refine X.pickF rfl (fun _ => rfl) ?_
      | refine X.condT rfl ?_
      | refine X.condF rfl ?_
      | refine X.g1T rfl ?_
      | refine X.g1F rfl ?_
      | refine X.alc X.fr ?_
      | refine X.box X.w rfl rfl ?_
      | refine X.stl X.w rfl rfl rfl rfl rfl rfl rfl ?_
      | (refine X.apf X.w X.w X.e X.hq rfl rfl ?_ ?_ X.hn ?_; iterate 2 (· exact X.sq))
      | refine X.bsl rfl X.hn ?_
      | refine X.alh X.hn ?_
      | refine X.bxh X.w rfl X.hn ?_
      | (refine X.mks X.w X.w ?_ ?_ ?_ (by decide) X.hn X.wi ?_; iterate 3 (· exact X.sq))
      | (refine X.cpy X.w X.w (elems_vs _) X.hq rfl rfl ?_ ?_ ?_; iterate 2 (· exact X.sq))
      | (refine X.iah X.w X.w X.hq rfl ?_ ?_; · exact X.sq)
      | (refine X.stp X.w X.w X.hq rfl X.hl rfl rfl rfl ?_ X.gq ?_ ?_; iterate 2 (· exact X.sq))
      | (refine X.ldp X.w X.hq ?_ X.gq ?_ rfl ?_; iterate 2 (· exact X.sq))
      | refine X.len X.w X.lq ?_
      | ((first | refine X.condTs rfl ?_ ?_ | refine X.g1Ts rfl ?_ ?_ | refine X.pickTs rfl ?_ (fun _ => rfl) ?_); · exact X.sq)
      | ((first | refine X.condFs rfl ?_ ?_ | refine X.g1Fs rfl ?_ ?_ | refine X.pickFs rfl ?_ (fun _ => rfl) ?_); · exact X.sq)
      | refine X.ext X.w rfl X.ra ?_
      | refine X.mov X.w X.l2 ?_
      | refine X.bldq X.fl ?_
      | refine X.q0 (fun _ _ => rfl) ?_
      | (refine X.q1 (fun _ _ => rfl) ?_ ?_; · exact X.sq)
      | refine X.box X.w X.kp rfl ?_
      | refine X.stl X.w rfl rfl rfl X.kp rfl rfl rfl ?_
      | refine X.stl1 X.w rfl rfl (by assumption) (by assumption) rfl rfl rfl ?_
      | (refine X.stp1 X.w X.w X.hq rfl X.hl (by assumption) (by assumption) rfl ?_ X.gq ?_ ?_; iterate 2 (· exact X.sq)))
    exact n) : EvQ F d Q := h.lift f
theorem X.nm {p q : Prop} (h : p) (f : p → q := by
    intro h
    (try simp only [sd, sb, Bool.not_true, Bool.not_false, Bool.not_not, Bool.and_eq_false_iff, Bool.or_eq_false_iff, Bool.not_eq_true, Bool.not_eq_false, Int.ofNat_lt, Int.ofNat_le, Int.ofNat_inj] at h)
    exact h) : q := f h
end Ev
namespace Ev
variable [Glob]
open Go
def headD : D → Option (Nat × List V)
  | .call _ f xs _ _ => some (f, xs)
  | _ => none
def EvU (F : Nat → Option Ev.Fn) (f : Nat) (xs : List V) (v : V) : Prop := ∃ N, ∀ L n own hp, N ≤ L → N ≤ n → callF F L n own f xs hp = .ret v hp
end Ev
set_option linter.unusedSectionVars false
namespace Ev
variable [Glob]
open Go
abbrev Lg := List (Nat × List V)
abbrev CallO := Bool → Nat → List V → Hp → Lg → CR × Lg
def iterO (body : St → Lg → R × Lg) (keep drop : List Nat) : Nat → St → Lg → R × Lg
  | 0, _, l => (.bad, l)
  | n + 1, st, l =>
    keepF (fun t =>
      match body ⟨t, shed drop st.lo, st.hp⟩ l with
      | (.norm s, l) => iterO body keep drop n s l
      | x => x) keep st.tm
def runO (call : CallO) (L : Nat) : D → Lg → R × Lg
  | .bad, l => (.bad, l)
  | .done r, l => (r, l)
  | .chk b d, l => bif b then runO call L d l else (.bad, l)
  | .br b x y, l => bif b then runO call L x l else runO call L y l
  | .call own f xs hp k, l => forceL (fun xs =>
      match call own f xs hp l with
      | (.ret v hp, l) => runO call L (k (.ret v hp)) l
      | (_, l) => (.bad, l)) xs
  | .loop keep drop body st k, l =>
    match iterO (fun s l => runO call L (body s) l) keep drop L st l with
    | (.bad, l) => (.bad, l)
    | (x, l) => runO call L (k x) l
def runFO (call : CallO) (L : Nat) (fn : Fn) (args : List V) (hp : Hp) (l : Lg) : CR × Lg :=
  bif Nat.beq args.length fn.ps.length then (match runO call L (bodyD fn args hp) l with | (r, l) => (crOf r, l)) else (.bad, l)
def callO (F : Nat → Option Fn) (orc : Nat → Option (List V → V)) (L : Nat) : Nat → CallO
  | 0, _, _, _, _, l => (.bad, l)
  | n + 1, own, f, args, hp, l =>
    match orc f with
    | some g => (.ret (g args) hp, (f, args) :: l)
    | none => match F f with
      | none => (.bad, l)
      | some fn => match fn.md with
        | .pure => match closeAll fn.ps args hp with
          | none => (.bad, l)
          | some (xs, hp) => match runFO (callO F orc L n) L fn xs h0 l with
            | (c, l) => (back own fn hp c, l)
        | .ro => match runFO (callO F orc L n) L fn args ⟨hp.next, hp.next, hp.tr⟩ l with
          | (.ret v _, l) => (bif oldT hp.next v then .ret v hp else .bad, l)
          | (_, l) => (.bad, l)
        | .rw => runFO (callO F orc L n) L fn args hp l
section
variable (F : Nat → Option Fn) (orc : Nat → Option (List V → V))
def GoodO (l : Lg) : Prop := ∀ e ∈ l, ∀ g, orc e.1 = some g → EvU F e.1 e.2 (g e.2)
def CalloOK (call : CallO) : Prop := ∀ own f xs hp l c l', call own f xs hp l = (c, l') → (∀ e ∈ l, e ∈ l') ∧ (GoodO F orc l' → c ≠ .bad → EvC F own f xs hp c)
def RunOK1 (d : D) (l : Lg) (x : R × Lg) : Prop := (∀ e ∈ l, e ∈ x.2) ∧ (GoodO F orc x.2 → x.1 ≠ .bad → EvD F d x.1)
variable {F orc}
theorem GoodO.mono {l l' : Lg} (h : GoodO F orc l') (s : ∀ e ∈ l, e ∈ l') : GoodO F orc l := fun e he => h e (s e he)
theorem iterO_ok {body : St → D} {bo : St → Lg → R × Lg} (keep drop : List Nat) (hb : ∀ s l, RunOK1 F orc (body s) l (bo s l)) : ∀ n st l, (∀ e ∈ l, e ∈ (iterO bo keep drop n st l).2) ∧ (GoodO F orc (iterO bo keep drop n st l).2 → (iterO bo keep drop n st l).1 ≠ .bad → EvL F keep drop body st (iterO bo keep drop n st l).1) := by
  intro n
  induction n with
  | zero => intro st l; exact ⟨fun e he => he, fun _ h => absurd rfl h⟩
  | succ n ih =>
    intro st l
    have e : iterO bo keep drop (n + 1) st l = (match bo ⟨keepF (fun t => t) keep st.tm, shed drop st.lo, st.hp⟩ l with
      | (.norm s, l) => iterO bo keep drop n s l
      | x => x) := by
      show keepF (fun t => match bo ⟨t, shed drop st.lo, st.hp⟩ l with
        | (.norm s, l) => iterO bo keep drop n s l
        | x => x) keep st.tm = _
      rw [keepF_id]
    rw [e]
    have h1 := hb ⟨keepF (fun t => t) keep st.tm, shed drop st.lo, st.hp⟩ l
    generalize bo ⟨keepF (fun t => t) keep st.tm, shed drop st.lo, st.hp⟩ l = x at h1
    obtain ⟨r, l1⟩ := x
    obtain ⟨s1, h1⟩ := h1
    cases r with
    | norm s =>
      obtain ⟨s2, h2⟩ := ih s l1
      refine ⟨fun e he => s2 e (s1 e he), fun g hr => ?_⟩
      refine EvL.round (s := s) (fun tm' ht => ?_) (h2 g hr)
      subst ht
      exact h1 (g.mono s2) (by intro h; cases h)
    | bad => exact ⟨s1, fun _ h => absurd rfl h⟩
    | exit i s => exact ⟨s1, fun g hr => EvL.last (fun tm' ht => by subst ht; exact h1 g hr) (by intro s h; cases h)⟩
    | ret s => exact ⟨s1, fun g hr => EvL.last (fun tm' ht => by subst ht; exact h1 g hr) (by intro s h; cases h)⟩
    | pan v s => exact ⟨s1, fun g hr => EvL.last (fun tm' ht => by subst ht; exact h1 g hr) (by intro s h; cases h)⟩
theorem runO_ok {call : CallO} (hc : CalloOK F orc call) (L : Nat) : ∀ d l, RunOK1 F orc d l (runO call L d l) := by
  intro d
  induction d with
  | bad => intro l; exact ⟨fun e he => he, fun _ h => absurd rfl h⟩
  | done r => intro l; exact ⟨fun e he => he, fun _ _ => EvD.done r⟩
  | chk b d ih =>
    intro l
    cases b with
    | true => exact ⟨(ih l).1, fun g h => EvD.chk rfl ((ih l).2 g h)⟩
    | false => exact ⟨fun e he => he, fun _ h => absurd rfl h⟩
  | br b x y ih1 ih2 =>
    intro l
    cases b with
    | true => exact ⟨(ih1 l).1, fun g h => EvD.br (fun _ => (ih1 l).2 g h) (fun e => by cases e)⟩
    | false => exact ⟨(ih2 l).1, fun g h => EvD.br (fun e => by cases e) (fun _ => (ih2 l).2 g h)⟩
  | call own f xs hp k ih =>
    intro l
    have e : runO call L (.call own f xs hp k) l = (match call own f xs hp l with
      | (.ret v hp, l) => runO call L (k (.ret v hp)) l
      | (_, l) => (.bad, l)) := by
      simp only [runO, forceL_eq]
    rw [e]
    have h1 := hc own f xs hp l
    generalize call own f xs hp l = x at h1
    obtain ⟨c, l1⟩ := x
    obtain ⟨s1, h1⟩ := h1 c l1 rfl
    cases c with
    | ret v hp' =>
      obtain ⟨s2, h2⟩ := ih (.ret v hp') l1
      exact ⟨fun e he => s2 e (s1 e he), fun g hr => EvD.call (h1 (g.mono s2) (by intro h; cases h)) (h2 g hr)⟩
    | bad => exact ⟨s1, fun _ h => absurd rfl h⟩
    | pan v hp' => exact ⟨s1, fun _ h => absurd rfl h⟩
  | loop keep drop body st k ih1 ih2 =>
    intro l
    have h1 := iterO_ok keep drop (bo := fun s l => runO call L (body s) l) (fun s l => ih1 s l) L st l
    have e : runO call L (.loop keep drop body st k) l = (fun x : R × Lg => match x with
      | (.bad, l) => ((.bad, l) : R × Lg)
      | (x, l) => runO call L (k x) l) (iterO (fun s l => runO call L (body s) l) keep drop L st l) := by
      simp only [runO]
    rw [e]
    generalize iterO (fun s l => runO call L (body s) l) keep drop L st l = x at h1
    obtain ⟨r, l1⟩ := x
    obtain ⟨s1, h1⟩ := h1
    cases r with
    | bad => exact ⟨s1, fun _ h => absurd rfl h⟩
    | norm s => exact ⟨fun e he => (ih2 _ l1).1 e (s1 e he), fun g hr => EvD.loop (h1 (g.mono (ih2 _ l1).1) (by intro h; cases h)) ((ih2 _ l1).2 g hr)⟩
    | exit i s => exact ⟨fun e he => (ih2 _ l1).1 e (s1 e he), fun g hr => EvD.loop (h1 (g.mono (ih2 _ l1).1) (by intro h; cases h)) ((ih2 _ l1).2 g hr)⟩
    | ret s => exact ⟨fun e he => (ih2 _ l1).1 e (s1 e he), fun g hr => EvD.loop (h1 (g.mono (ih2 _ l1).1) (by intro h; cases h)) ((ih2 _ l1).2 g hr)⟩
    | pan v s => exact ⟨fun e he => (ih2 _ l1).1 e (s1 e he), fun g hr => EvD.loop (h1 (g.mono (ih2 _ l1).1) (by intro h; cases h)) ((ih2 _ l1).2 g hr)⟩
theorem runFO_ok {call : CallO} (hc : CalloOK F orc call) (L : Nat) (fn : Fn) (xs : List V) (hp : Hp) (l : Lg) :
    (∀ e ∈ l, e ∈ (runFO call L fn xs hp l).2) ∧ (GoodO F orc (runFO call L fn xs hp l).2 → (runFO call L fn xs hp l).1 ≠ .bad → Nat.beq xs.length fn.ps.length = true ∧ ∃ r, EvD F (bodyD fn xs hp) r ∧ crOf r = (runFO call L fn xs hp l).1) := by
  unfold runFO
  cases e : Nat.beq xs.length fn.ps.length with
  | false => exact ⟨fun e he => he, fun _ h => absurd rfl h⟩
  | true =>
    have h1 := runO_ok hc L (bodyD fn xs hp) l
    simp only [cond_true]
    generalize runO call L (bodyD fn xs hp) l = x at h1
    obtain ⟨r, l1⟩ := x
    exact ⟨h1.1, fun g hr => ⟨trivial, r, h1.2 g (by intro h; subst h; exact hr rfl), rfl⟩⟩
theorem callO_ok (L : Nat) : ∀ n, CalloOK F orc (callO F orc L n) := by
  intro n
  induction n with
  | zero => intro own f xs hp l c l' e; cases e; exact ⟨fun e he => he, fun _ h => absurd rfl h⟩
  | succ n ih =>
    intro own f xs hp l c l' e
    unfold callO at e
    cases ho : orc f with
    | some g =>
      rw [ho] at e
      cases e
      refine ⟨fun e he => List.mem_cons_of_mem _ he, fun gd _ => ?_⟩
      obtain ⟨N, h⟩ := gd (f, xs) (List.mem_cons_self ..) g ho
      exact ⟨N, fun L n hL hn => h L n own hp hL hn⟩
    | none =>
      rw [ho] at e
      cases hF : F f with
      | none => rw [hF] at e; cases e; exact ⟨fun e he => he, fun _ h => absurd rfl h⟩
      | some fn =>
        rw [hF] at e
        cases hm : fn.md with
        | pure =>
          simp only [hm] at e
          cases hcl : closeAll fn.ps xs hp with
          | none => rw [hcl] at e; cases e; exact ⟨fun e he => he, fun _ h => absurd rfl h⟩
          | some q =>
            obtain ⟨ys, hp1⟩ := q
            rw [hcl] at e
            simp only at e
            have h1 := runFO_ok ih L fn ys h0 l
            generalize runFO (callO F orc L n) L fn ys h0 l = x at h1 e
            obtain ⟨c1, l1⟩ := x
            cases e
            refine ⟨h1.1, fun gd hr => ?_⟩
            obtain ⟨hl, r, hr1, hr2⟩ := h1.2 gd (by intro h; simp only at h; subst h; exact hr (by cases own <;> rfl))
            exact EvC.pure hF hm hcl hl hr1 (by rw [hr2])
        | ro =>
          simp only [hm] at e
          have h1 := runFO_ok ih L fn xs ⟨hp.next, hp.next, hp.tr⟩ l
          generalize runFO (callO F orc L n) L fn xs ⟨hp.next, hp.next, hp.tr⟩ l = x at h1 e
          obtain ⟨c1, l1⟩ := x
          cases c1 with
          | bad => cases e; exact ⟨h1.1, fun _ h => absurd rfl h⟩
          | pan v h => cases e; exact ⟨h1.1, fun _ h => absurd rfl h⟩
          | ret v hq =>
            cases e
            refine ⟨h1.1, fun gd hr => ?_⟩
            obtain ⟨hl, r, ⟨N, hr1⟩, hr2⟩ := h1.2 gd (by intro h; cases h)
            refine ⟨N + 1, fun L n hL hn => ?_⟩
            cases n with
            | zero => omega
            | succ n =>
              simp only [callF, hF, hm, runR, runF, hl, cond_true]
              rw [hr1 L n (by omega) (by omega), hr2]
        | rw =>
          simp only [hm] at e
          have h1 := runFO_ok ih L fn xs hp l
          rw [e] at h1
          refine ⟨h1.1, fun gd hr => ?_⟩
          obtain ⟨hl, r, hr1, hr2⟩ := h1.2 gd hr
          exact EvC.rw hF hm hl hr1 hr2
theorem EvC.told {own : Bool} {f : Nat} {xs : List V} {hp : Hp} {r : CR} {l : Lg} (L n : Nat) (h : callO F orc L n own f xs hp [] = (r, l)) (hl : GoodO F orc l) (hr : r ≠ .bad) : EvC F own f xs hp r := (callO_ok L n own f xs hp [] r l h).2 hl hr
theorem GoodO.nil : GoodO F orc [] := fun e he => by cases he
theorem GoodO.cons {f : Nat} {xs : List V} {l : Lg} (h : ∀ g, orc f = some g → EvU F f xs (g xs)) (h' : GoodO F orc l) : GoodO F orc ((f, xs) :: l) := by
  intro e he
  rcases List.mem_cons.1 he with rfl | he
  · exact h
  · exact h' e he
end
end Ev
namespace Ev
variable [Glob]
open Go
theorem EvU.ofP {F : Nat → Option Ev.Fn} {f : Nat} {fn : Ev.Fn} {xs : List V} {z : V} (h : EvP F f fn xs [z]) (hr : fn.rs = [.c .one]) (hc : ∀ hp, ClP fn.ps xs hp xs hp) : EvU F f xs z := by
  obtain ⟨h1, h2, h3, v, h, h', ⟨N, h4⟩, h5⟩ := h
  refine ⟨N + 1, fun L n own hp hL hn => ?_⟩
  cases n with
  | zero => omega
  | succ n =>
    simp only [callF, h1, h2, runP, (hc hp).close, runF, h3, cond_true]
    rw [h4 L n (by omega) (by omega)]
    show back own fn hp (.ret v h) = _
    rw [hr] at h5
    unfold back
    rw [hr]
    cases h5 with
    | c hq r =>
      cases r
      cases own with
      | true =>
        have e : ownP (.c .one) v h hp = (match closeP (.c .one) v h with | some (x, _) => some (x, hp) | none => none) := by
          unfold ownP
          cases v <;> rfl
        have hq' : closeC depth .one v h = some (z, h') := hq
        simp only [e, closeP, hq', tuple]
      | false =>
        have hq' : closeC depth .one v h = some (z, h') := hq
        show (match closeAll [PT.c .one] [v] h with | some (xs, _) => CR.ret (tuple xs) hp | none => .bad) = _
        simp only [closeAll, closeP, hq', tuple]
end Ev