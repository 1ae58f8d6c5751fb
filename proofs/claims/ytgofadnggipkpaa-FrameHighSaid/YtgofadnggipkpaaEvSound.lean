import Derived.Test.YtgofadnggipkpaaEvCode2
namespace Ev
open Go

section
variable {P : Program} {pol : Pol} {call : Call} {L : Nat}

theorem tuple_repA {g : G} {vs : List V} {cvs : List Value} (hl : vs.length = cvs.length) (h1 : ∀ x, x ∈ vs → isLp x = false) (h2 : ∀ (i : Nat) (v : V), vs[i]? = some v → RepA g v (cvs.getD i undef)) :
    RepA g (tuple vs) (if h : cvs.length = 1 then cvs[0]'(by omega) else .tuple cvs.toArray) ∧ isLp (tuple vs) = false := by
  by_cases h : cvs.length = 1
  · simp only [h, dif_pos]
    match vs, hl with
    | [v], _ =>
      have := h2 0 v rfl
      refine ⟨?_, h1 v (by simp)⟩
      have e : cvs.getD 0 undef = cvs[0]'(by omega) := by simp [List.getD, h]
      rw [← e]; exact this
    | [], hl => simp at hl; omega
    | _ :: _ :: _, hl => simp at hl; omega
  · simp only [h, dif_neg, not_false_eq_true]
    have ht : tuple vs = .tu vs := by
      match vs, hl with
      | [], _ => rfl
      | [v], hl => exact absurd hl.symm (by simpa using h)
      | _ :: _ :: _, _ => rfl
    rw [ht]
    refine ⟨.tu vs _ (by simp [hl]) h1 fun i x hx => ?_, rfl⟩
    have := h2 i x hx
    simpa [Array.getD_eq_getD_getElem?, List.getD_eq_getElem?_getD] using this

theorem entry {g : G} {hp : Hp} {w : World} {xs : List V} {cs : Array Value} (hr : HR g hp w) (ha : Args g xs cs) {ntm : Nat} (hn : xs.length ≤ ntm) :
    StR ⟨g, hp, w⟩ ntm [] g (fun _ => none) ⟨argT xs, fun _ => none, hp⟩ { tmps := cs ++ Array.replicate (ntm - cs.size) undef, defers := [] } w := by
  have hsz := ha.size
  refine ⟨by simp; omega, rfl, fun t => ?_, fun t d off x => ?_, ⟨hr, ⟨fun t cs x => by simp at x, fun t t' b _ h => by simp at h⟩, .refl _ _ _⟩⟩
  · simp only [argT]
    rcases Nat.lt_or_ge t xs.length with h | h
    · have hx : xs[t]? = some xs[t] := List.getElem?_eq_getElem h
      have e : xs.getD t .un = xs[t] := by simp [List.getD, hx]
      rw [e]
      have := ha.rep t _ hx
      have e2 : (cs ++ Array.replicate (ntm - cs.size) undef).getD t undef = cs.getD t undef := by
        simp only [Array.getD_eq_getD_getElem?]; rw [Array.getElem?_append_left (by omega)]
      simp only [e2]
      exact .ofA this
    · have e : xs.getD t .un = .un := by simp [List.getD, List.getElem?_eq_none h]
      rw [e]; exact RepA.un _
  · exfalso
    simp only [argT] at x
    rcases Nat.lt_or_ge t xs.length with h | h
    · have hx : xs[t]? = some xs[t] := List.getElem?_eq_getElem h
      have e : xs.getD t .un = xs[t] := by simp [List.getD, hx]
      rw [e] at x
      have := ha.lp _ (List.getElem_mem h)
      rw [x] at this; simp [isLp] at this
    · have e : xs.getD t .un = .un := by simp [List.getD, List.getElem?_eq_none h]
      rw [e] at x; cases x

theorem fn_ok (hcall : CallOK P call) (hm : P.follows .mixedOrders = true) (hkc : ∀ f, pol.mds f ≠ .rw → KeepC call f) {f : FuncId} {fn : Func} {d : DFn} (hf : P.funcs[f]? = some fn) (hname : fn.name ≠ "runtime.NumGoroutine") (hc : cFn P pol fn = some d) :
    RunOK P call L f d.den := by
  unfold cFn at hc
  split at hc
  · rename_i b ps rs res hbody hps hrs hres
    split at hc
    · rename_i hnt
      simp only [Option.map_eq_some_iff] at hc
      obtain ⟨c, hcc, rfl⟩ := hc
      intro xs cs g hp w hr ha
      have hent : Enters P f := ⟨fn, hf, hname, by rw [hbody]; rfl⟩
      unfold runF
      cases hlen : Nat.beq xs.length (DFn.den ⟨ps ++ List.replicate fn.nfree (.c .one), rs, pol.md, res, c⟩).ps.length with
      | false => trivial
      | true =>
        simp only [cond_true]
        have hxl : xs.length = fn.params.size + fn.nfree := by
          have h1 := Nat.eq_of_beq_eq_true hlen
          have h2 := allSome_len hps
          simp only [DFn.den, List.length_append, List.length_replicate] at h1
          simp at h2; omega
        generalize hrun : run call L (bodyD (DFn.den ⟨ps ++ List.replicate fn.nfree (.c .one), rs, pol.md, res, c⟩) xs hp) = r0
        by_cases hb : r0 = .bad
        · subst hb; trivial
        have main : ∀ R : Ending → World → Prop, (∀ v s g' w' cv, r0 = .ret ⟨fun _ => v, fun _ => none, s⟩ → HR g' s w' → Evo g hp w g' s w' → RepA g' v cv → isLp v = false → R (.returned cv) w') →
            (∀ v s g' w' cv, r0 = .pan v ⟨fun _ => .un, fun _ => none, s⟩ → HR g' s w' → Evo g hp w g' s w' → RepA g' v cv → isLp v = false → R (.panicked [{ v := cv, recovered := false }]) w') → Calls P f cs w R := by
          intro R hR1 hR2
          refine calls_of_wp hf hbody ?_
          have hst := entry hr ha (ntm := fn.ntmps) (by omega)
          have fin : ∀ st a w' g' ν', StR ⟨g, hp, w⟩ fn.ntmps [] g' ν' st a w' → run call L (resultsD st res fun vs => .done (.ret ⟨fun _ => tuple vs, fun _ => none, st.hp⟩)) = r0 →
              a.defers = [] ∧ ∃ v, (results fn a.tmps).run P w' = .ok v w' ∧ R (.returned v) w' := by
            intro st a w' g' ν' h1 h2
            obtain ⟨vs, cvs, q1, q2, q3, q4, q5⟩ := results_real h1 _ _ hres _ _ h2 hb
            obtain ⟨k1, k2⟩ := tuple_repA q2 q3 q4
            exact ⟨h1.defers, _, run_results q1, hR1 (tuple vs) st.hp g' w' _ (by simp only [run] at q5; exact q5.symm) h1.mem.hr h1.mem.evo k1 k2⟩
          refine code_ok (E := ⟨g, hp, w⟩) hcall hm hkc b c hcc _ _ w g _ _ r0 _ hst hrun hb ⟨rfl, fun st a w' g' ν' h1 h2 => fin st a w' g' ν' h1 h2, fun id st a w' g' ν' h1 h2 => ?_, fun st a w' g' ν' h1 h2 => fin st a w' g' ν' h1 h2, fun v s a w' cv h1 h2 h3 => ?_⟩
          · exact absurd h2.symm hb
          · obtain ⟨g', ν', m1, m2, m3⟩ := h2
            exact ⟨h1, hR2 v s.hp g' w' cv (by simp only [run] at h3; exact h3.symm) m1.hr m1.evo m2 m3⟩
        cases hr0 : r0 with
        | ret st =>
          refine ⟨hent, main _ (fun v s g' w' cv h1 h2 h3 h4 h5 => ?_) (fun v s g' w' cv h1 _ _ _ _ => ?_)⟩
          · rw [hr0] at h1; simp only [R.ret.injEq] at h1; subst h1
            exact ⟨cv, g', rfl, h2, h3, h4, h5⟩
          · rw [hr0] at h1; cases h1
        | pan v st =>
          refine ⟨hent, main _ (fun v s g' w' cv h1 _ _ _ _ => ?_) (fun v s g' w' cv h1 h2 h3 h4 h5 => ?_)⟩
          · rw [hr0] at h1; cases h1
          · rw [hr0] at h1; simp only [R.pan.injEq] at h1; obtain ⟨rfl, rfl⟩ := h1
            exact ⟨cv, g', rfl, h2, h3, h4, h5⟩
        | _ => trivial
    · cases hc
  · cases hc

/-- a table of functions that were read off a program -/
structure Table (P : Program) (F : Nat → Option Fn) (mds : Nat → Md) : Prop where
  mixed : P.follows .mixedOrders = true
  fns : ∀ f fn, F f = some fn → ∃ gf pol d, P.funcs[f]? = some gf ∧ gf.name ≠ "runtime.NumGoroutine" ∧ cFn P pol gf = some d ∧ d.den = fn ∧ pol.mds = mds ∧ fn.md = mds f

theorem callF_ok {F : Nat → Option Fn} {mds : Nat → Md} (T : Table P F mds) : ∀ n, CallOK P (callF F L n) ∧ ∀ f, mds f ≠ .rw → KeepC (callF F L n) f := by
  intro n
  induction n with
  | zero =>
    refine ⟨fun own f xs cs E g ν lo hp w _ _ => trivial, fun f _ own xs hp v hp' _ h => by simp [callF] at h⟩
  | succ n ih =>
    obtain ⟨ih1, ih2⟩ := ih
    refine ⟨fun own f xs cs E g ν lo hp w hm ha => ?_, fun f hmd own xs hp v hp' hn h => ?_⟩
    · simp only [callF]
      cases hF : F f with
      | none => trivial
      | some fn =>
        obtain ⟨gf, pol, d, h1, h2, h3, rfl, h5, h6⟩ := T.fns f fn hF
        have hrun : RunOK P (callF F L n) L f d.den := fn_ok ih1 T.mixed (fun f' hf' => ih2 f' (by rw [← h5]; exact hf')) h1 h2 h3
        simp only []
        cases d.den.md with
        | pure => exact pure_ok hrun hm ha
        | ro => exact ro_ok hrun hm ha
        | rw => exact rw_ok hrun hm ha
    · simp only [callF] at h
      cases hF : F f with
      | none => simp [hF] at h
      | some fn =>
        obtain ⟨gf, pol, d, h1, h2, h3, rfl, h5, h6⟩ := T.fns f fn hF
        simp only [hF] at h
        rw [h6] at h
        cases hq : mds f with
        | pure => simp only [hq] at h; exact runP_keep hn h
        | ro => simp only [hq] at h; exact runR_keep h
        | rw => exact absurd hq hmd

/-- what a run of the table says of the program -/
theorem sound {F : Nat → Option Fn} {mds : Nat → Md} (T : Table P F mds) {n : Nat} {f : Nat} {fn : Fn} (hF : F f = some fn) {xs : List V} {cs : Array Value} {κ : K} {w : World} (hκ : ∀ b o v, κ b o = some v → w.cell? (ad b o) = some v)
    (ha : Args ⟨κ, fun _ => .unb⟩ xs cs) {v : V} {hp' : Hp} (hr : runF (callF F L n) L fn xs h0 = .ret v hp') :
    Calls P f cs w (EndR fun cv w' g' => HR g' hp' w' ∧ Evo ⟨κ, fun _ => .unb⟩ h0 w g' hp' w' ∧ RepA g' v cv ∧ isLp v = false) := by
  obtain ⟨gf, pol, d, h1, h2, h3, rfl, h5, h6⟩ := T.fns f fn hF
  obtain ⟨ih1, ih2⟩ := callF_ok (L := L) T n
  have hrun : RunOK P (callF F L n) L f d.den := fn_ok ih1 T.mixed (fun f' hf' => ih2 f' (by rw [← h5]; exact hf')) h1 h2 h3
  have := hrun xs cs _ h0 w (HR.empty hκ) ha
  rw [hr] at this
  exact this.2

end
end Ev
