import Derived.Test.YtmlmljnjgoekiaaGreatDoorEvD
import Derived.ChangeSame
import Derived.ReadAgain
import Derived.OpenShut
import Derived.ProofKit
import Derived.JoinedCond
import Derived.WalkKit
import Derived.ChangeArms
set_option linter.unusedVariables false
set_option linter.unusedSimpArgs false
set_option linter.unusedSectionVars false
set_option linter.constructorNameAsVariable false
namespace Ev
variable [Glob]
open Go
section
variable {P : Program} {pol : Pol} {call : Call} {L : Nat}
theorem tuple_repA {g : G} {vs : List V} {cvs : List Value} (hl : vs.length = cvs.length) (h1 : ∀ x, x ∈ vs → isLp x = false) (h2 : ∀ (i : Nat) (v : V), vs[i]? = some v → RepA g v (cvs.getD i undef)) :
    RepA g (tuple vs) (if h : cvs.length = 1 then cvs[0]'(by omega) else .tuple cvs.toArray) ∧ isLp (tuple vs) = false := by
  by_cases h : cvs.length = 1
  · simp only [h, dif_pos]
    match vs, hl with
    | [v], _ =>
      have := h2 0 v rfl
      refine ⟨?_, h1 v (by simp)⟩
      have e : cvs.getD 0 undef = cvs[0]'(by omega) := by simp [List.getD, h]
      rw [← e]; exact this
    | [], hl => simp at hl; omega
    | _ :: _ :: _, hl => simp at hl; omega
  · simp only [h, dif_neg, not_false_eq_true]
    have ht : tuple vs = .tu vs := by
      match vs, hl with
      | [], _ => rfl
      | [v], hl => exact absurd hl.symm (by simpa using h)
      | _ :: _ :: _, _ => rfl
    rw [ht]
    refine ⟨.tu vs _ (by simp [hl]) h1 fun i x hx => ?_, rfl⟩
    have := h2 i x hx
    simpa [Array.getD_eq_getD_getElem?, List.getD_eq_getElem?_getD] using this
theorem entry {g : G} {hp : Hp} {w : World} {xs : List V} {cs : Array Value} (hgl : GlobW g hp w) (hr : HR g hp w) (ha : Args g xs cs) {ntm : Nat} (hn : xs.length ≤ ntm) :
    StR ⟨g, hp, w, hgl⟩ ntm [] g (fun _ => none) ⟨argT xs, fun _ => none, hp⟩ { tmps := cs ++ Array.replicate (ntm - cs.size) undef, defers := [] } w := by
  have hsz := ha.size
  refine ⟨by simp; omega, rfl, fun t => ?_, fun t d off x => ?_, ⟨hr, ⟨fun t cs b x _ => by simp at x, fun t t' b _ h => by simp at h⟩, .refl _ _ _⟩⟩
  · simp only [argT]
    rcases Nat.lt_or_ge t xs.length with h | h
    · have hx : xs[t]? = some xs[t] := List.getElem?_eq_getElem h
      have e : xs.getD t .un = xs[t] := by simp [List.getD, hx]
      rw [e]
      have := ha.rep t _ hx
      have e2 : (cs ++ Array.replicate (ntm - cs.size) undef).getD t undef = cs.getD t undef := by
        simp only [Array.getD_eq_getD_getElem?]; rw [Array.getElem?_append_left (by omega)]
      simp only [e2]
      exact .ofA this
    · have e : xs.getD t .un = .un := by simp [List.getD, List.getElem?_eq_none h]
      rw [e]; exact RepA.un _
  · exfalso
    simp only [argT] at x
    rcases Nat.lt_or_ge t xs.length with h | h
    · have hx : xs[t]? = some xs[t] := List.getElem?_eq_getElem h
      have e : xs.getD t .un = xs[t] := by simp [List.getD, hx]
      rw [e] at x
      have := ha.lp _ (List.getElem_mem h)
      rw [x] at this; simp [isLp] at this
    · have e : xs.getD t .un = .un := by simp [List.getD, List.getElem?_eq_none h]
      rw [e] at x; cases x
theorem fn_ok (hcall : CallOK P call) (hm : P.follows .mixedOrders = true) (hkc : ∀ f, pol.mds f ≠ .rw → KeepC call f) (hfl : ∀ f, pol.mds f = .pure → FlatC call f) {f : FuncId} {fn : Func} {d : DFn} (hf : P.funcs[f]? = some fn) (hname : fn.name ≠ "runtime.NumGoroutine") (hc : cFn P pol fn = some d) :
    RunOK P call L f d.den := by
  unfold cFn at hc
  split at hc
  · rename_i b ps rs res hbody hps hrs hres
    split at hc
    · rename_i hnt
      simp only [Option.map_eq_some_iff] at hc
      obtain ⟨c, hcc, rfl⟩ := hc
      intro xs cs g hp w hgl hr ha
      have hent : Enters P f := ⟨fn, hf, hname, by rw [hbody]; rfl⟩
      unfold runF
      cases hlen : Nat.beq xs.length (DFn.den ⟨ps ++ List.replicate fn.nfree (.c .one), rs, pol.md, res, c⟩).ps.length with
      | false => trivial
      | true =>
        simp only [cond_true]
        have hxl : xs.length = fn.params.size + fn.nfree := by
          have h1 := Nat.eq_of_beq_eq_true hlen
          have h2 := allSome_len hps
          simp only [DFn.den, List.length_append, List.length_replicate] at h1
          simp at h2; omega
        generalize hrun : run call L (bodyD (DFn.den ⟨ps ++ List.replicate fn.nfree (.c .one), rs, pol.md, res, c⟩) xs hp) = r0
        by_cases hb : r0 = .bad
        · subst hb; trivial
        have main : ∀ R : Ending → World → Prop, (∀ v s g' w' cv, r0 = .ret ⟨fun _ => v, fun _ => none, s⟩ → HR g' s w' → Evo g hp w g' s w' → RepA g' v cv → isLp v = false → R (.returned cv) w') →
            (∀ v s g' w' cv, r0 = .pan v ⟨fun _ => .un, fun _ => none, s⟩ → HR g' s w' → Evo g hp w g' s w' → RepA g' v cv → isLp v = false → R (.panicked [{ v := cv, recovered := false }]) w') → Calls P f cs w R := by
          intro R hR1 hR2
          refine calls_of_wp hf hbody ?_
          have hst := entry hgl hr ha (ntm := fn.ntmps) (by omega)
          have fin : ∀ st a w' g' ν', StR ⟨g, hp, w, hgl⟩ fn.ntmps [] g' ν' st a w' → run call L (resultsD st res fun vs => .done (.ret ⟨fun _ => tuple vs, fun _ => none, st.hp⟩)) = r0 →
              a.defers = [] ∧ ∃ v, (results fn a.tmps).run P w' = .ok v w' ∧ R (.returned v) w' := by
            intro st a w' g' ν' h1 h2
            obtain ⟨vs, cvs, q1, q2, q3, q4, q5⟩ := results_real h1 _ _ hres _ _ h2 hb
            obtain ⟨k1, k2⟩ := tuple_repA q2 q3 q4
            exact ⟨h1.defers, _, run_results q1, hR1 (tuple vs) st.hp g' w' _ (by simp only [run] at q5; exact q5.symm) h1.mem.hr h1.mem.evo k1 k2⟩
          refine code_ok (E := ⟨g, hp, w, hgl⟩) hcall hm hkc hfl b c hcc _ _ w g _ _ r0 _ hst hrun hb ⟨rfl, fun st a w' g' ν' h1 h2 => fin st a w' g' ν' h1 h2, fun id st a w' g' ν' h1 h2 => ?_, fun st a w' g' ν' h1 h2 => fin st a w' g' ν' h1 h2, fun v s a w' cv h1 h2 h3 => ?_⟩
          · exact absurd h2.symm hb
          · obtain ⟨g', ν', m1, m2, m3⟩ := h2
            exact ⟨h1, hR2 v s.hp g' w' cv (by simp only [run] at h3; exact h3.symm) m1.hr m1.evo m2 m3⟩
        cases hr0 : r0 with
        | ret st =>
          refine ⟨hent, main _ (fun v s g' w' cv h1 h2 h3 h4 h5 => ?_) (fun v s g' w' cv h1 _ _ _ _ => ?_)⟩
          · rw [hr0] at h1; simp only [R.ret.injEq] at h1; subst h1
            exact ⟨cv, g', rfl, h2, h3, h4, h5⟩
          · rw [hr0] at h1; cases h1
        | pan v st =>
          refine ⟨hent, main _ (fun v s g' w' cv h1 _ _ _ _ => ?_) (fun v s g' w' cv h1 h2 h3 h4 h5 => ?_)⟩
          · rw [hr0] at h1; cases h1
          · rw [hr0] at h1; simp only [R.pan.injEq] at h1; obtain ⟨rfl, rfl⟩ := h1
            exact ⟨cv, g', rfl, h2, h3, h4, h5⟩
        | _ => trivial
    · cases hc
  · cases hc
def FnOK (P : Program) (mds : Nat → Md) (f : Nat) (fn : Fn) : Prop :=
  fn.md = mds f ∧ ((∃ gf pol d, P.funcs[f]? = some gf ∧ gf.name ≠ "runtime.NumGoroutine" ∧ cFn P pol gf = some d ∧ d.den = fn ∧ pol.mds = mds) ∨ ∀ call L, CallOK P call → RunOK P call L f fn)
theorem FnOK.read {P : Program} {mds : Nat → Md} {f : Nat} {c : Fn} {gf : Func} {pol : Pol} (h1 : P.funcs[f]? = some gf) (h2 : (gf.name == "runtime.NumGoroutine") = false) {d : DFn} (h3 : cFn P pol gf = some d) (h6 : d.den = c) (h4 : pol.mds = mds) (h5 : c.md = mds f) : FnOK P mds f c :=
  ⟨h5, .inl ⟨gf, pol, d, h1, by simpa using h2, h3, h6, h4⟩⟩
theorem closeC_flat {n : Nat} {t : Ty} {v x : V} {hp h' : Hp} (hv : flatC v = true) (h : closeC n t v hp = some (x, h')) : h' = hp ∧ ∀ hp2, closeC n t v hp2 = some (x, hp2) := by
  cases n with
  | zero => unfold closeC at h; cases h
  | succ n =>
    cases t with
    | one =>
      cases v <;> simp only [flatC, Bool.false_eq_true, reduceCtorEq] at hv <;> simp only [closeC, Option.some.injEq, Prod.mk.injEq, reduceCtorEq] at h <;> (obtain ⟨rfl, rfl⟩ := h; exact ⟨rfl, fun _ => by simp only [closeC]⟩)
    | sl cs =>
      cases v <;> simp only [flatC, Bool.false_eq_true, reduceCtorEq] at hv <;> simp only [closeC, Option.some.injEq, Prod.mk.injEq, reduceCtorEq] at h
      case ns => obtain ⟨rfl, rfl⟩ := h; exact ⟨rfl, fun _ => by simp only [closeC]⟩
      case vs sz es =>
        cases hb : Nat.beq sz cs.length with
        | false => simp only [hb, cond_false, reduceCtorEq] at h
        | true =>
          simp only [hb, cond_true, Option.some.injEq, Prod.mk.injEq] at h
          obtain ⟨rfl, rfl⟩ := h
          exact ⟨rfl, fun _ => by simp only [closeC, hb, cond_true]⟩
theorem closeCs_flat : ∀ {n : Nat} {ts : List Ty} {vs xs : List V} {hp h' : Hp}, vs.all flatC = true → closeCs n ts vs hp = some (xs, h') → h' = hp ∧ ∀ hp2, closeCs n ts vs hp2 = some (xs, hp2) := by
  intro n
  induction n with
  | zero => intro ts vs xs hp h' _ h; unfold closeCs at h; cases h
  | succ n ih =>
    intro ts vs xs hp h' hv h
    cases ts with
    | nil =>
      cases vs with
      | nil => simp only [closeCs, Option.some.injEq, Prod.mk.injEq] at h; obtain ⟨rfl, rfl⟩ := h; exact ⟨rfl, fun _ => by simp only [closeCs]⟩
      | cons v vs => simp [closeCs] at h
    | cons t ts =>
      cases vs with
      | nil => simp [closeCs] at h
      | cons v vs =>
        simp only [List.all_cons, Bool.and_eq_true] at hv
        simp only [closeCs] at h
        cases hc : closeC n t v hp with
        | none => simp [hc] at h
        | some q =>
          obtain ⟨x, h1⟩ := q
          obtain ⟨rfl, e⟩ := closeC_flat hv.1 hc
          simp only [hc] at h
          cases hd : closeCs n ts vs h1 with
          | none => simp [hd] at h
          | some q =>
            obtain ⟨y, h2⟩ := q
            obtain ⟨rfl, e2⟩ := ih hv.2 hd
            simp only [hd, Option.some.injEq, Prod.mk.injEq] at h
            obtain ⟨rfl, rfl⟩ := h
            exact ⟨rfl, fun hp2 => by simp only [closeCs, e hp2, e2 hp2]⟩
theorem closeP_flat {t : PT} {v x : V} {hp h' : Hp} (hv : flatV v = true) (h : closeP t v hp = some (x, h')) : h' = hp ∧ ∀ hp2, closeP t v hp2 = some (x, hp2) := by
  cases t with
  | c t =>
    have hf : flatC v = true := by
      cases v <;> first | exact hv | (unfold closeP at h; unfold depth at h; cases t <;> simp [closeC] at h)
    obtain ⟨e1, e2⟩ := closeC_flat (n := depth) (t := t) hf (by unfold closeP at h; exact h)
    exact ⟨e1, fun hp2 => by unfold closeP; exact e2 hp2⟩
  | g ts =>
    cases v <;> try (simp [closeP] at h; done)
    rename_i cs
    simp only [closeP] at h
    cases hc : closeCs depth ts cs hp with
    | none => simp [hc] at h
    | some q =>
      obtain ⟨y, h1⟩ := q
      obtain ⟨rfl, e⟩ := closeCs_flat hv hc
      simp only [hc, Option.some.injEq, Prod.mk.injEq] at h
      obtain ⟨rfl, rfl⟩ := h
      exact ⟨rfl, fun hp2 => by simp only [closeP, e hp2]⟩
theorem closeAll_flat : ∀ {ts : List PT} {vs xs : List V} {hp h' : Hp}, vs.all flatV = true → closeAll ts vs hp = some (xs, h') → h' = hp ∧ ∀ hp2, closeAll ts vs hp2 = some (xs, hp2) := by
  intro ts
  induction ts with
  | nil =>
    intro vs xs hp h' _ h
    cases vs with
    | nil => simp only [closeAll, Option.some.injEq, Prod.mk.injEq] at h; obtain ⟨rfl, rfl⟩ := h; exact ⟨rfl, fun _ => by simp only [closeAll]⟩
    | cons v vs => simp [closeAll] at h
  | cons t ts ih =>
    intro vs xs hp h' hv h
    cases vs with
    | nil => simp [closeAll] at h
    | cons v vs =>
      simp only [List.all_cons, Bool.and_eq_true] at hv
      simp only [closeAll] at h
      cases hc : closeP t v hp with
      | none => simp [hc] at h
      | some q =>
        obtain ⟨x, h1⟩ := q
        obtain ⟨rfl, e⟩ := closeP_flat hv.1 hc
        simp only [hc] at h
        cases hd : closeAll ts vs h1 with
        | none => simp [hd] at h
        | some q =>
          obtain ⟨y, h2⟩ := q
          obtain ⟨rfl, e2⟩ := ih hv.2 hd
          simp only [hd, Option.some.injEq, Prod.mk.injEq] at h
          obtain ⟨rfl, rfl⟩ := h
          exact ⟨rfl, fun hp2 => by simp only [closeAll, e hp2, e2 hp2]⟩
theorem back_false {fn : Fn} {hp h : Hp} {v : V} : back false fn hp (.ret v h) = match closeAll fn.rs (untuple fn.rs.length v) h with
    | some (xs, _) => .ret (tuple xs) hp
    | none => .bad := rfl
theorem runP_flat {call : Call} {fn : Fn} {xs : List V} {v : V} {h' hp : Hp} (hx : xs.all flatV = true) (h : runP false call L fn xs h0 = .ret v h') : runP false call L fn xs hp = .ret v hp := by
  unfold runP at h ⊢
  cases hc : closeAll fn.ps xs h0 with
  | none => simp [hc] at h
  | some q =>
    obtain ⟨ys, h1⟩ := q
    obtain ⟨rfl, e⟩ := closeAll_flat hx hc
    simp only [hc] at h
    simp only [e hp]
    cases hr : runF call L fn ys h0 with
    | bad => rw [hr] at h; simp [back] at h
    | pan v h1 => rw [hr] at h; simp [back] at h
    | ret u h2 =>
      rw [hr, back_false] at h
      rw [back_false]
      cases hd : closeAll fn.rs (untuple fn.rs.length u) h2 with
      | none => simp [hd] at h
      | some q =>
        simp only [hd, CR.ret.injEq] at h ⊢
        exact ⟨h.1, trivial⟩
structure Table (P : Program) (F : Nat → Option Fn) (mds : Nat → Md) : Prop where
  mixed : P.follows .mixedOrders = true
  fns : ∀ f fn, F f = some fn → FnOK P mds f fn
theorem Table.run {F : Nat → Option Fn} {mds : Nat → Md} (T : Table P F mds) {call : Call} (hc : CallOK P call) (hk : ∀ f, mds f ≠ .rw → KeepC call f) (hl : ∀ f, mds f = .pure → FlatC call f) {f : Nat} {fn : Fn} (hF : F f = some fn) : RunOK P call L f fn := by
  obtain ⟨h0, ⟨gf, pol, d, h1, h2, h3, rfl, h5⟩ | h⟩ := T.fns f fn hF
  · exact fn_ok hc T.mixed (fun f' hf' => hk f' (by rw [← h5]; exact hf')) (fun f' hf' => hl f' (by rw [← h5]; exact hf')) h1 h2 h3
  · exact h call L hc
theorem callF_ok {F : Nat → Option Fn} {mds : Nat → Md} (T : Table P F mds) : ∀ n, CallOK P (callF F L n) ∧ (∀ f, mds f ≠ .rw → KeepC (callF F L n) f) ∧ ∀ f, mds f = .pure → FlatC (callF F L n) f := by
  intro n
  induction n with
  | zero =>
    refine ⟨fun own f xs cs E g ν lo hp w _ _ => trivial, fun f _ own xs hp v hp' _ h => by simp [callF] at h, fun f _ xs hp v h' _ h => by simp [callF] at h⟩
  | succ n ih =>
    obtain ⟨ih1, ih2, ih3⟩ := ih
    refine ⟨fun own f xs cs E g ν lo hp w hm ha => ?_, fun f hmd own xs hp v hp' hn h => ?_, fun f hmd xs hp v h' hx h => ?_⟩
    · simp only [callF]
      cases hF : F f with
      | none => trivial
      | some fn =>
        have hrun : RunOK P (callF F L n) L f fn := T.run ih1 ih2 ih3 hF
        simp only []
        cases fn.md with
        | pure => exact pure_ok hrun hm ha
        | ro => exact ro_ok hrun hm ha
        | rw => exact rw_ok hrun hm ha
    · simp only [callF] at h
      cases hF : F f with
      | none => simp [hF] at h
      | some fn =>
        have h6 := (T.fns f fn hF).1
        simp only [hF] at h
        rw [h6] at h
        cases hq : mds f with
        | pure => simp only [hq] at h; exact runP_keep hn h
        | ro => simp only [hq] at h; exact runR_keep h
        | rw => exact absurd hq hmd
    · simp only [callF] at h ⊢
      cases hF : F f with
      | none => simp [hF] at h
      | some fn =>
        have h6 := (T.fns f fn hF).1
        simp only [hF] at h ⊢
        rw [h6, hmd] at h ⊢
        exact runP_flat hx h
theorem sound {F : Nat → Option Fn} {mds : Nat → Md} (T : Table P F mds) {n : Nat} {f : Nat} {fn : Fn} (hF : F f = some fn) {xs : List V} {cs : Array Value} {κ : K} {w : World} (hgl : GlobW ⟨κ, fun _ => .unb⟩ h0 w) (hκ : ∀ b o v, κ b o = some v → w.cell? (ad b o) = some v)
    (ha : Args ⟨κ, fun _ => .unb⟩ xs cs) {v : V} {hp' : Hp} (hr : runF (callF F L n) L fn xs h0 = .ret v hp') :
    Calls P f cs w (EndR fun cv w' g' => HR g' hp' w' ∧ Evo ⟨κ, fun _ => .unb⟩ h0 w g' hp' w' ∧ RepA g' v cv ∧ isLp v = false) := by
  obtain ⟨ih1, ih2, ih3⟩ := callF_ok (L := L) T n
  have hrun : RunOK P (callF F L n) L f fn := T.run ih1 ih2 ih3 hF
  have := hrun xs cs _ h0 w hgl (HR.empty hκ) ha
  rw [hr] at this
  exact this.2
end
end Ev
namespace Ev
variable [Glob]
open Go Go.ChangeShapes Go.WideShapes Go.ChangeAt Go.RowKit
def fullB (P : Program) : Bool := (List.range P.types.size).all fun t => match P.underlying t with | some (.slice e) => decide (0 < P.cellsOf e) | _ => true
def kAll (W : World) : K := fun b o => W.cell? (ad b o)
structure Kept (W W' : World) : Prop where
  os : W'.os = W.os
  out : W'.output = W.output
  size : W.heap.size ≤ W'.heap.size
  heap : ∀ b, b < W.heap.size → W'.heap[b]? = W.heap[b]?
theorem law_calls {P : Program} {F : Nat → Option Fn} {mds : Nat → Md} (T : Table P F mds) {L n f : Nat} {fn : Fn} (hF : F f = some fn) {xs : List V} {cs : Array Value} {W : World} (hgl : GlobW ⟨kAll W, fun _ => .unb⟩ h0 W) (ha : Args ⟨kAll W, fun _ => .unb⟩ xs cs) {hp : Hp}
    (hr : runF (callF F L n) L fn xs h0 = .ret (.bo true) hp) : Calls P f cs W fun e W' => e = .returned (.bool true) ∧ Kept W W' := by
  refine Calls.mono (sound T hF (κ := kAll W) hgl (fun b o v h => h) ha hr) fun e W' h => ?_
  obtain ⟨cv, g', rfl, _, ev, hv, _⟩ := h
  have := RepA.bo_inv hv
  subst this
  exact ⟨rfl, ev.wd.1.1, ev.wd.1.2, ev.size, fun b hb => ev.wd.2.2.1 b hb (fun o h => own_empty h) (fun ⟨_, q⟩ => by cases q)⟩
theorem Kept.kept {W W' : World} (h : Kept W W') (may : MemPlace → Prop) : W.keptBut W' may := by
  refine ⟨h.os, h.out, fun i hi => ?_⟩
  rw [h.heap i hi]
  cases e : W.heap[i]? with
  | none => rfl
  | some o => cases o <;> first | exact ⟨rfl, rfl, rfl, fun _ _ => rfl⟩ | exact .inr ⟨rfl, rfl⟩ | rfl
theorem Kept.same {W W' : World} (h : Kept W W') {p : MemPlace} (hp : p.block < W.heap.size) : W.sameAt W' p := by
  cases p with
  | cell b off => simp only [World.sameAt, World.cell?]; rw [h.heap b hp]
  | map b => exact h.heap b hp
theorem Kept.frozen {W W' : World} (h : Kept W W') {b off : Nat} (hb : b < W.heap.size) : W'.frozen? ⟨b, off, none⟩ = W.frozen? ⟨b, off, none⟩ := by
  simp only [World.frozen?]; rw [h.heap b hb]
section
variable {H : Type} {enc : TypeId × Value → H} {P : Program}
theorem TrodAll.kept {W W' : World} (h : Kept W W') {base : Nat} {sp : Nat → Bool} {held : Bool} : ∀ {ts : List TypeId} {vs : List Value} {ds : List (DataW H)} {ps : List MemPlace}, DataW.TrodAll enc P W base sp held ts vs ds ps → DataW.TrodAll enc P W' base sp held ts vs ds ps
  | [], [], [], _, x => x
  | t :: ts, v :: vs, d :: ds, _, ⟨p, q, ⟨n, h1⟩, h2, e⟩ => ⟨p, q, ⟨n, DataW.trod_carry n _ _ _ h1 fun x hx => h.same (DataW.trod_lt n _ _ _ h1 x hx)⟩, TrodAll.kept h h2, e⟩
  | [], [], _ :: _, _, x => by cases x
  | [], _ :: _, _, _, x => by cases x
  | _ :: _, [], _, _, x => by cases x
  | _ :: _, _ :: _, [], _, x => by cases x
theorem post_kept {f : Func} {s : ChangeSpec} {apart fresh handsOn again : Bool} {W W' : World} {args : Array Value} {ds gs : List (DataW H)} {before : List MemPlace} {tb : TypeId}
    (hW : DataW.Whole enc P f.params.toList s.vars apart W args.toList ds gs before) (hvars : s.vars = []) (hfn : s.fn H (ds ++ gs) = { results := [.lit (.bool true)], args := ds }) (hrt : f.resultTypes = #[tb]) (htb : P.underlying tb = some .bool)
    (hlo : laidOutB P = true) (hmr : mapsRowed P = true) (hz : fullB P = true) (hpt : ∀ t, t ∈ f.params.toList → t < P.types.size) (hk : Kept W W') : s.post enc P f apart fresh handsOn again W args (.bool true) W' := by
  have hlt := hW.lt
  have hW' := hW
  obtain ⟨p, q, hA, hV, hps, hfz, hnd⟩ := hW
  rw [hvars] at hV
  obtain ⟨hgs, hq⟩ := trodVars_none hV
  subst hq
  rw [List.append_nil] at hps
  subst hps
  have hA' : ∀ sp : Nat → Bool, (∀ x ∈ before, sp x.block = true) → DataW.TrodAll enc P W' 0 sp true f.params.toList args.toList ds before := fun sp hsp =>
    DataW.TrodAll.respare (kids_rows hlo hmr) (slices_full_of P (by exact hz)) hpt (TrodAll.kept hk hA) hsp
  have hres : ∀ (b : Nat) (sp : Nat → Bool) (hd : Bool), DataW.TrodAll enc P W' b sp hd f.resultTypes.toList ((Value.bool true).resultList f.resultTypes.size) (s.fn H (ds ++ gs)).results [] := by
    intro b sp hd
    rw [hfn, hrt]
    exact trodAll_cons_mk (shut_bool htb _) trodAll_mk0
  have hvv : ∀ sp, DataW.TrodVars enc P W' sp s.vars (s.fn H (ds ++ gs)).vars [] := by
    intro sp; rw [hvars, hfn]; rfl
  have hold : ∀ x ∈ before, (fun b => decide (b < W.heap.size)) x.block = true := fun x hx => by simpa using hlt x hx
  refine ⟨ds, gs, before, [], before, [], hW', hres _ _ _, by rw [hfn]; exact hA' _ hold, hvv _, World.keptBut_mono (fun x hx => ⟨hx, .inr (.inl hx)⟩) (hk.kept _), fun _ => ?_⟩
  refine ⟨?_, _, _, ([] ++ before) ++ [], ⟨[] ++ before, [], trodAll_append (hA' _ (fun _ _ => rfl)) (hres _ _ _), hvv _, rfl, ?_, ?_⟩, ?_⟩
  · exact ok_one hrt rfl (okWide_bool_mk htb true)
  · intro b off hp
    have hp' : MemPlace.cell b off ∈ before := by simpa using hp
    rw [hk.frozen (show b < W.heap.size from hlt _ hp')]
    exact hfz b off hp'
  · intro ha
    simpa using hnd ha
  · intro x hx _
    simpa using hx
end
def yes : CR → Bool
  | .ret (.bo b) _ => b
  | _ => false
theorem yes_ret {r : CR} (h : yes r = true) : ∃ hp, r = .ret (.bo true) hp := by
  unfold yes at h
  split at h
  · subst h; exact ⟨_, rfl⟩
  · cases h
end Ev
namespace Ev
variable [Glob]
open Go
def isH0 : Hp → Bool
  | ⟨0, 0, .e⟩ => true
  | _ => false
theorem isH0_eq {hp : Hp} (h : isH0 hp = true) : hp = h0 := by
  obtain ⟨a, b, c⟩ := hp
  unfold isH0 at h
  split at h
  · rename_i e; exact e
  · cases h
variable {P : Program} {F : Nat → Option Fn} {mds : Nat → Md}
end Ev
namespace Ev
variable [Glob]
open Go
section
variable {F : Nat → Option Ev.Fn}
end
end Ev
namespace Ev
variable [Glob]
open Go Go.ChangeShapes Go.WideShapes Go.ChangeAt Go.RowKit
inductive TD where
  | bo
  | it (k : IntKind)
  | fl (k : FloatKind)
  | st
  | sl (ts : List TD)
  deriving Inhabited
mutual
inductive Sh1 : TD → V → Prop
  | bo (b : Bool) : Sh1 .bo (.bo b)
  | it (k : IntKind) (n : Int) (h : (Lit.int k n).wf = true) : Sh1 (.it k) (.it k n)
  | fl (k : FloatKind) (b : Nat) : Sh1 (.fl k) (.fl k b)
  | st (l : List UInt8) : Sh1 .st (.st (l.map UInt8.toNat))
  | sl (ts : List TD) (n : Nat) (hn : ts.length = n) (es : List (List V)) (h : ShE ts es) : Sh1 (.sl ts) (.vs n es)
inductive ShL : List TD → List V → Prop
  | nil : ShL [] []
  | cons {t : TD} {v : V} {ts : List TD} {vs : List V} (h : Sh1 t v) (r : ShL ts vs) : ShL (t :: ts) (v :: vs)
inductive ShE : List TD → List (List V) → Prop
  | nil (ts : List TD) : ShE ts []
  | cons {ts : List TD} {e : List V} {es : List (List V)} (h : ShL ts e) (r : ShE ts es) : ShE ts (e :: es)
end
inductive RepL (κ : K) : List V → List Value → Prop
  | nil : RepL κ [] []
  | cons {v : V} {c : Value} {vs : List V} {cs : List Value} (h : RepC κ v c) (r : RepL κ vs cs) : RepL κ (v :: vs) (c :: cs)
structure Bulk {H : Type} (u : DataW H → Nat) (ul : List (DataW H) → Nat) : Prop where
  nil : ul [] = 0
  cons : ∀ d r, ul (d :: r) = u d + ul r
  str : ∀ b, u (.lit (.string b)) = b.length + 1
  one : ∀ d, 1 ≤ u d
  sl : ∀ a b, u (.slice a b) = ul a + ul b + 1
  ag : ∀ a, u (.agg a) = ul a + 1
section
variable {H : Type} {enc : TypeId × Value → H} {P : Program} {w : World} {u : DataW H → Nat} {ul : List (DataW H) → Nat}
end
end Ev
namespace Ev
variable [Glob]
open Go
def Clo (t : Ty) (v : V) : Prop := ∀ n hp, closeC (n + 1) t v hp = some (v, hp)
inductive CloL : List Ty → List V → Prop
  | nil : CloL [] []
  | cons {t : Ty} {v : V} {ts : List Ty} {vs : List V} (h : Clo t v) (r : CloL ts vs) : CloL (t :: ts) (v :: vs)
def bs (l : List Int) : List (List V) := l.map fun n => [.it .u8 n]
inductive ClP : List PT → List V → Hp → List V → Hp → Prop
  | nil (hp : Hp) : ClP [] [] hp [] hp
  | c {t : Ty} {v w : V} {ts : List PT} {vs ws : List V} {hp h1 h2 : Hp} (h : closeC depth t v hp = some (w, h1)) (r : ClP ts vs h1 ws h2) : ClP (.c t :: ts) (v :: vs) hp (w :: ws) h2
  | g {us : List Ty} {cs ds : List V} {ts : List PT} {vs ws : List V} {hp h1 h2 : Hp} (h : closeCs depth us cs hp = some (ds, h1)) (r : ClP ts vs h1 ws h2) : ClP (.g us :: ts) (.ag cs :: vs) hp (.ag ds :: ws) h2
def Clo2 (t : Ty) (v w : V) : Prop := ∀ n hp, closeC (n + 1) t v hp = some (w, hp)
inductive CloL2 : List Ty → List V → List V → Prop
  | nil : CloL2 [] [] []
  | cons {t : Ty} {v w : V} {ts : List Ty} {vs ws : List V} (h : Clo2 t v w) (r : CloL2 ts vs ws) : CloL2 (t :: ts) (v :: vs) (w :: ws)
section
variable {F : Nat → Option Ev.Fn}
end
end Ev
namespace Ev
variable [Glob]
open Go Go.ChangeShapes Go.WideShapes Go.ChangeAt Go.RowKit
abbrev Par := Bool × List TD
inductive ShP : List Par → List V → Prop
  | nil : ShP [] []
  | one {t : TD} {v : V} {ps : List Par} {xs : List V} (h : Sh1 t v) (r : ShP ps xs) : ShP ((false, [t]) :: ps) (v :: xs)
  | grp {ts : List TD} {vs : List V} {ps : List Par} {xs : List V} (h : ShL ts vs) (r : ShP ps xs) : ShP ((true, ts) :: ps) (.ag vs :: xs)
section
variable {H : Type} {enc : TypeId × Value → H} {P : Program} {w : World} {u : DataW H → Nat} {ul : List (DataW H) → Nat}
end
end Ev