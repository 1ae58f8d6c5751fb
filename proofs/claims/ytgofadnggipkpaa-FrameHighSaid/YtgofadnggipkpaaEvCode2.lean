import Derived.Test.YtgofadnggipkpaaEvCode
namespace Ev
open Go

section
variable {P : Program} {pol : Pol} {call : Call} {L : Nat} {E : Ent} {ntm : Nat}

theorem keepF_eq {α : Type} : ∀ (l : List Nat) (k : Tm → α) (tm : Tm), ∃ tm', keepF k l tm = k tm' ∧ ∀ t, tm' t = .un ∨ tm' t = tm t := by
  intro l
  induction l with
  | nil => intro k tm; exact ⟨fun _ => .un, rfl, fun _ => .inl rfl⟩
  | cons s r ih =>
    intro k tm
    simp only [keepF, force_eq]
    obtain ⟨tm', h1, h2⟩ := ih (fun t => k fun j => bif Nat.beq j s then tm s else t j) tm
    refine ⟨_, h1, fun t => ?_⟩
    by_cases e : t = s
    · subst e; simp
    · simp only [beqF e, cond_false]; exact h2 t

def goOn (body : St → R) (keep drop : List Nat) (n : Nat) : R → R
  | .norm s => iter body keep drop n s
  | x => x

theorem iter_succ (body : St → R) (keep drop : List Nat) (n : Nat) (st : St) : iter body keep drop (n + 1) st = keepF (fun t => goOn body keep drop n (body ⟨t, shed drop st.lo, st.hp⟩)) keep st.tm := by
  have : (fun t => goOn body keep drop n (body ⟨t, shed drop st.lo, st.hp⟩)) = fun t => match body ⟨t, shed drop st.lo, st.hp⟩ with
      | .norm s => iter body keep drop n s
      | x => x := by
    funext t; cases body ⟨t, shed drop st.lo, st.hp⟩ <;> rfl
  rw [this]; rfl

theorem LoR.shed {g : G} {ν : Nat → Option Nat} {lo lo' : Lo} {hp : Hp} {w : World} (h : LoR E g ν lo hp w) (hs : ∀ t, lo' t = none ∨ lo' t = lo t) : LoR E g ν lo' hp w := by
  refine ⟨fun t cs x => ?_, fun t t' b htt h1 h2 => ?_⟩
  · rcases hs t with q | q
    · rw [q] at x; cases x
    · rw [q] at x; exact h.box t cs x
  · refine h.inj t t' b htt ?_ ?_
    · rcases hs t with q | q
      · exact absurd q h1
      · rw [← q]; exact h1
    · rcases hs t' with q | q
      · exact absurd q h2
      · rw [← q]; exact h2

theorem StR.shed {g : G} {ν : Nat → Option Nat} {st : St} {a : Act} {w : World} (h : StR E ntm [] g ν st a w) {tm' : Tm} {lo' : Lo} (ht : ∀ t, tm' t = .un ∨ tm' t = st.tm t) (hl : ∀ t, lo' t = none ∨ lo' t = st.lo t) :
    StR E ntm [] g ν ⟨tm', lo', st.hp⟩ a w := by
  refine ⟨h.size, h.defers, fun t => ?_, fun t d off x => ?_, ⟨h.mem.hr, h.mem.lo.shed hl, h.mem.evo⟩⟩
  · show RepT g ν (tm' t) _
    rcases ht t with q | q
    · rw [q]; exact RepA.un _
    · rw [q]; exact h.tm t
  · have x : tm' t = .lp d off := x
    rcases ht t with q | q
    · rw [q] at x; cases x
    · rw [q] at x; exact h.lps t d off x

theorem code_ok (hcall : CallOK P call) (hm : P.follows .mixedOrders = true) (hkc : ∀ f, pol.mds f ≠ .rw → KeepC call f) : ∀ (code : Code) (c : C), cC P pol ntm code = some c →
    ∀ (st : St) (a : Act) (w : World) (g : G) (ν : Nat → Option Nat) (k : R → D) (r0 : R) (Q : Exit → Act → World → Prop), StR E ntm [] g ν st a w → run call L (c.den st k) = r0 → r0 ≠ .bad → CPost call L E ntm k r0 Q → code.wp P Q a w := by
  intro code
  induction code with
  | skip =>
    intro c hc st a w g ν k r0 Q hs hrun hb hp
    simp only [cC, Option.some.injEq] at hc; subst hc
    exact wp_skip (hp.norm st a w g ν hs hrun)
  | region id ops draw =>
    intro c hc st a w g ν k r0 Q hs hrun hb hp
    exact reg_ok hcall hm hkc hc hs hrun hb hp
  | seq x y ihx ihy =>
    intro c hc st a w g ν k r0 Q hs hrun hb hp
    simp only [cC] at hc
    cases hx : cC P pol ntm x with
    | none => simp [hx] at hc
    | some cx =>
      cases hy : cC P pol ntm y with
      | none => simp [hx, hy] at hc
      | some cy =>
        simp only [hx, hy, Option.some.injEq] at hc; subst hc
        refine wp_seq (ihx cx hx st a w g ν _ r0 _ hs hrun hb ⟨hp.bad, fun st' a' w' g' ν' h1 h2 => ?_, fun id st' a' w' g' ν' h1 h2 => hp.exit id st' a' w' g' ν' h1 h2, fun st' a' w' g' ν' h1 h2 => hp.ret st' a' w' g' ν' h1 h2, fun v s a' w' cv h1 h2 h3 => hp.pan v s a' w' cv h1 h2 h3⟩)
        exact ihy cy hy st' a' w' g' ν' k r0 Q h1 h2 hb hp
  | cond co x y ihx ihy =>
    intro c hc st a w g ν k r0 Q hs hrun hb hp
    simp only [cC] at hc
    cases ho : cA co with
    | none => simp [ho] at hc
    | some ca =>
      cases hx : cC P pol ntm x with
      | none => simp [ho, hx] at hc
      | some cx =>
        cases hy : cC P pol ntm y with
        | none => simp [ho, hx, hy] at hc
        | some cy =>
          simp only [ho, hx, hy, Option.some.injEq] at hc; subst hc
          have hr := cA_rep ho hs.tm
          simp only [C.den, cIf] at hrun
          cases hv : get st.tm ca with
          | bo t =>
            rw [hv] at hr
            simp only [hv, run] at hrun
            refine wp_cond_split (t := t) (RepA.bo_inv hr) (fun ht => ?_) (fun ht => ?_)
            · subst ht; exact ihx cx hx st a w g ν k r0 Q hs hrun hb hp
            · subst ht; exact ihy cy hy st a w g ν k r0 Q hs hrun hb hp
          | _ => simp only [hv, run] at hrun; exact absurd hrun.symm hb
  | block id x ih =>
    intro c hc st a w g ν k r0 Q hs hrun hb hp
    simp only [cC, Option.map_eq_some_iff] at hc
    obtain ⟨cx, hx, rfl⟩ := hc
    refine wp_block (ih cx hx st a w g ν _ r0 _ hs hrun hb ⟨hp.bad, fun st' a' w' g' ν' h1 h2 => hp.norm st' a' w' g' ν' h1 h2, fun id' st' a' w' g' ν' h1 h2 => ?_, fun st' a' w' g' ν' h1 h2 => hp.ret st' a' w' g' ν' h1 h2, fun v s a' w' cv h1 h2 h3 => hp.pan v s a' w' cv h1 h2 h3⟩)
    simp only [] at h2
    simp only [Exit.inBlock]
    by_cases e : id' = id
    · subst e
      simp only [Nat.beq_refl, cond_true] at h2
      simp only [if_true]
      exact hp.norm st' a' w' g' ν' h1 h2
    · simp only [beqF e, cond_false] at h2
      simp only [e, if_false]
      exact hp.exit id' st' a' w' g' ν' h1 h2
  | loop x ih =>
    intro c hc st a w g ν k r0 Q hs hrun hb hp
    simp only [cC] at hc
    cases hf : firstRegion x with
    | none => simp [hf] at hc
    | some rg =>
      cases hx : cC P pol ntm x with
      | none => simp [hf, hx] at hc
      | some cx =>
        simp only [hf, hx, Option.map_eq_some_iff] at hc
        obtain ⟨⟨keep, drop⟩, _, rfl⟩ := hc
        simp only [C.den, cLoop, run] at hrun
        have key : ∀ (n : Nat) (st : St) (a : Act) (w : World) (g : G) (ν : Nat → Option Nat) (y : R), StR E ntm [] g ν st a w → iter (fun s => run call L (cx.den s .done)) keep drop n st = y → run call L (k y) = r0 → Code.rounds P x Q n a w := by
          intro n
          induction n with
          | zero =>
            intro st a w g ν y _ hy hk
            simp only [iter] at hy; subst hy
            rw [hp.bad] at hk; exact absurd hk.symm hb
          | succ n ihn =>
            intro st a w g ν y hs hy hk
            rw [iter_succ] at hy
            obtain ⟨tm', e1, e2⟩ := keepF_eq keep (fun t => goOn (fun s => run call L (cx.den s .done)) keep drop n (run call L (cx.den ⟨t, shed drop st.lo, st.hp⟩ .done))) st.tm
            rw [e1] at hy
            have hs' : StR E ntm [] g ν ⟨tm', shed drop st.lo, st.hp⟩ a w := hs.shed e2 fun t => by unfold Ev.shed; cases hasN drop t <;> simp
            generalize hbody : run call L (cx.den ⟨tm', shed drop st.lo, st.hp⟩ .done) = rb at hy
            have hrb : rb ≠ .bad := fun e => by
              rw [e] at hy; simp only [goOn] at hy; subst hy; rw [hp.bad] at hk; exact hb hk.symm
            rw [rounds_succ]
            refine ih cx hx _ a w g ν .done rb _ hs' hbody hrb ⟨rfl, fun st' a' w' g' ν' h1 h2 => ?_, fun id st' a' w' g' ν' h1 h2 => ?_, fun st' a' w' g' ν' h1 h2 => ?_, fun v s a' w' cv h1 h2 h3 => ?_⟩
            · simp only [run] at h2; subst h2
              simp only [goOn] at hy
              exact ihn st' a' w' g' ν' y h1 hy hk
            · simp only [run] at h2; subst h2
              simp only [goOn] at hy; subst hy
              exact hp.exit id st' a' w' g' ν' h1 hk
            · simp only [run] at h2; subst h2
              simp only [goOn] at hy; subst hy
              exact hp.ret st' a' w' g' ν' h1 hk
            · simp only [run] at h3; subst h3
              simp only [goOn] at hy; subst hy
              exact hp.pan v s a' w' cv h1 h2 hk
        exact wp_loop_rounds L (key L st a w g ν _ hs rfl hrun)
  | scope x ih =>
    intro c hc st a w g ν k r0 Q hs hrun hb hp
    simp only [cC] at hc
    refine wp_scope_straight (ih c hc st a w g ν k r0 _ hs hrun hb ⟨hp.bad, fun st' a' w' g' ν' h1 h2 => hp.norm st' a' w' g' ν' h1 h2, fun id st' a' w' g' ν' h1 h2 => hp.exit id st' a' w' g' ν' h1 h2, fun st' a' w' g' ν' h1 h2 => hp.ret st' a' w' g' ν' h1 h2, fun v s a' w' cv h1 h2 h3 => hp.pan v s a' w' cv h1 h2 h3⟩)
  | exit id =>
    intro c hc st a w g ν k r0 Q hs hrun hb hp
    simp only [cC, Option.some.injEq] at hc; subst hc
    exact wp_exit (hp.exit id st a w g ν hs hrun)
  | ret =>
    intro c hc st a w g ν k r0 Q hs hrun hb hp
    simp only [cC, Option.some.injEq] at hc; subst hc
    exact wp_ret (hp.ret st a w g ν hs hrun)
  | _ => intro c hc; simp [cC] at hc

/-- cells read, for real -/
theorem load_real {g : G} {ν : Nat → Option Nat} {st : St} {a : Act} {w : World} (h : StR E ntm [] g ν st a w) {n : Nat} {v : V} {cv : Value} (hr : RepT g ν v cv) {k : List V → D} {r0 : R} (hrun : run call L (loadD st n v k) = r0) (hb : r0 ≠ .bad) :
    ∃ (cs : List V) (b o : Nat) (f : Nat → Value), cv = .pointer (some (ad b o)) ∧ cs.length = n ∧ (∀ (j : Nat) (c : V), cs[j]? = some c → c.keep = true ∧ w.cell? (ad b (o + j)) = some (f j) ∧ RepA g c (f j)) ∧ run call L (k cs) = r0 := by
  have hgt : ∀ (cs : List V) (off j : Nat) (c : V), ((cs.drop off).take n)[j]? = some c → cs[off + j]? = some c := by
    intro cs off j c hj
    have := lt_of_get hj
    rw [List.getElem?_take_of_lt (by simp at this; omega), List.getElem?_drop] at hj
    exact hj
  have hcut : ∀ (off : Nat) (cs : List V), run call L (cutD n off cs k) = r0 → off + n ≤ cs.length ∧ run call L (k ((cs.drop off).take n)) = r0 := by
    intro off cs h
    simp only [cutD, run] at h
    cases hb' : Nat.ble (off + n) cs.length with
    | false => simp only [hb', cond_false] at h; exact absurd h.symm hb
    | true => simp only [hb', cond_true] at h; exact ⟨Nat.le_of_ble_eq_true hb', h⟩
  cases v with
  | ip cs =>
    obtain ⟨b, o, f, rfl, h1, h2⟩ := RepA.ip_inv hr
    obtain ⟨hl, hk⟩ := hcut 0 cs hrun
    refine ⟨_, b, o, f, rfl, by simp; omega, fun j c hj => ?_, hk⟩
    have := hgt cs 0 j c hj
    rw [Nat.zero_add] at this
    exact ⟨(h1 j c this).1, h.mem.hr.kap _ _ _ (h1 j c this).2, .c _ _ (h2 j c this)⟩
  | lp t off =>
    obtain ⟨b, hb', rfl⟩ := hr
    simp only [loadD] at hrun
    cases hlo : st.lo t with
    | none => simp only [hlo, run] at hrun; exact absurd hrun.symm hb
    | some cs =>
      simp only [hlo] at hrun
      obtain ⟨b', hb'', hx, _⟩ := h.mem.lo.box t cs hlo
      rw [hb'] at hb''; cases hb''
      obtain ⟨hl, hk⟩ := hcut off cs hrun
      refine ⟨_, b, off, fun j => (w.cell? (ad b (off + j))).getD undef, rfl, by simp; omega, fun j c hj => ?_, hk⟩
      obtain ⟨a1, ⟨u, a2, a3⟩, _⟩ := hx (off + j) c (hgt cs off j c hj)
      refine ⟨a1, ?_, ?_⟩
      · simp only [a2, Option.getD_some]
      · simp only [a2, Option.getD_some]; exact a3
  | pt id i off =>
    obtain ⟨a, rfl, hx⟩ := RepA.pt_inv hr
    simp only [loadD] at hrun
    cases hg : hget st.hp id with
    | none => simp only [hg, run] at hrun; exact absurd hrun.symm hb
    | some bk =>
      simp only [hg, run] at hrun
      cases hi : Nat.blt i bk.es.length with
      | false => simp only [hi, cond_false] at hrun; exact absurd hrun.symm hb
      | true =>
        simp only [hi, cond_true] at hrun
        obtain ⟨hl, hk⟩ := hcut off _ hrun
        rcases hx with hx | ⟨r, hl1, rfl⟩
        · have := h.mem.hr.dead id hx; rw [this] at hg; cases hg
        · obtain ⟨bk0, e0, z⟩ := h.mem.hr.live id r hl1
          rw [hg] at e0; cases e0
          have hi' : i < bk.es.length := Nat.le_of_ble_eq_true hi
          have hrow : bk.es[i]? = some (bk.es.getD i []) := by simp [List.getD, List.getElem?_eq_getElem hi']
          refine ⟨_, r.b, _, fun j => (w.cell? (ad r.b (r.base + i * r.sz + off + j))).getD undef, rfl, by rw [List.length_take, List.length_drop]; omega, fun j c hj => ?_, hk⟩
          obtain ⟨a1, u, a2, a3⟩ := z.cont i (off + j) _ c hrow (hgt _ off j c hj)
          rw [show r.base + i * r.sz + (off + j) = r.base + i * r.sz + off + j by omega] at a2
          refine ⟨a1, ?_, ?_⟩
          · simp only [a2, Option.getD_some]
          · simp only [a2, Option.getD_some]; exact a3
  | _ => simp only [loadD, run] at hrun; exact absurd hrun.symm hb

/-- a result is read -/
def resSem (tmps : Array Value) : ResultVar → Sem Value
  | .tmp t => pure (tmps.getD t undef)
  | .cell a t => do loadVar t (← asAddr (tmps.getD a undef))

theorem results_real {g : G} {ν : Nat → Option Nat} {st : St} {a : Act} {w : World} (h : StR E ntm [] g ν st a w) : ∀ (rvs : List ResultVar) (res : List Rv), allSome (cRv P) rvs = some res → ∀ (k : List V → D) (r0 : R), run call L (resultsD st res k) = r0 → r0 ≠ .bad →
    ∃ (vs : List V) (cvs : List Value), (rvs.mapM (resSem a.tmps)).run P w = .ok cvs w ∧ vs.length = cvs.length ∧ (∀ x, x ∈ vs → isLp x = false) ∧ (∀ (i : Nat) (v : V), vs[i]? = some v → RepA g v (cvs.getD i undef)) ∧ run call L (k vs) = r0 := by
  intro rvs
  induction rvs with
  | nil =>
    intro res hres k r0 hrun hb
    simp only [allSome, Option.some.injEq] at hres; subst hres
    exact ⟨[], [], by simp, rfl, fun x hx => by (cases hx), fun i v hv => by simp at hv, hrun⟩
  | cons rv rvs ih =>
    intro res hres k r0 hrun hb
    simp only [allSome] at hres
    cases h1 : cRv P rv with
    | none => simp [h1] at hres
    | some q =>
      cases h2 : allSome (cRv P) rvs with
      | none => simp [h1, h2] at hres
      | some qs =>
        simp only [h1, h2, Option.some.injEq] at hres; subst hres
        have fin : ∀ (v : V) (cv : Value), (resSem a.tmps rv).run P w = .ok cv w → RepA g v cv → isLp v = false → run call L (resultsD st qs fun s => k (v :: s)) = r0 →
            ∃ (vs : List V) (cvs : List Value), ((rv :: rvs).mapM (resSem a.tmps)).run P w = .ok cvs w ∧ vs.length = cvs.length ∧ (∀ x, x ∈ vs → isLp x = false) ∧ (∀ (i : Nat) (v : V), vs[i]? = some v → RepA g v (cvs.getD i undef)) ∧ run call L (k vs) = r0 := by
          intro v cv hr1 hr2 hl hrun'
          obtain ⟨vs, cvs, q1, q2, q3, q4, q5⟩ := ih qs h2 _ r0 hrun' hb
          refine ⟨v :: vs, cv :: cvs, ?_, by simp [q2], fun x hx => ?_, fun i x hx => ?_, q5⟩
          · rw [List.mapM_cons]
            simp only [Sem.run_bind, hr1, Result.andThen_ok, q1, Sem.run_pure]
          · rcases List.mem_cons.1 hx with rfl | hx
            · exact hl
            · exact q3 x hx
          · cases i with
            | zero => simp only [List.getElem?_cons_zero, Option.some.injEq] at hx; subst hx; exact hr2
            | succ i => simp only [List.getElem?_cons_succ] at hx; exact q4 i x hx
        cases rv with
        | tmp t =>
          simp only [cRv, Option.some.injEq] at h1; subst h1
          simp only [resultsD] at hrun
          cases hl : isLp (st.tm t) with
          | true =>
            exfalso
            cases hv : st.tm t <;> simp only [hv, isLp, Bool.false_eq_true] at hl
            simp only [hv, notLpD, run] at hrun; exact hb hrun.symm
          | false =>
            have : notLpD (st.tm t) (fun v => resultsD st qs fun s => k (v :: s)) = resultsD st qs fun s => k (st.tm t :: s) := by
              cases hv : st.tm t <;> first | rfl | (simp [hv, isLp] at hl)
            rw [this] at hrun
            exact fin (st.tm t) _ (by simp [resSem]) ((h.tm t).toA hl) hl hrun
        | cell t ty =>
          simp only [cRv] at h1
          cases hsz : Ev.size P ty with
          | none => simp [hsz] at h1
          | some n =>
            cases hag : Ev.isAgg P ty with
            | none => simp [hsz, hag] at h1
            | some gg =>
              simp only [hsz, hag, Option.some.injEq] at h1; subst h1
              simp only [resultsD] at hrun
              obtain ⟨cs, b, o, f, hcv, hn, hcs, hrun'⟩ := load_real h (h.tm t) hrun hb
              cases hp : pickC n gg cs with
              | none => simp only [hp, oneD, run] at hrun'; exact absurd hrun'.symm hb
              | some v =>
                simp only [hp, oneD] at hrun'
                obtain ⟨k1, k2, k3⟩ := pickC_rep (g := g) (f := f) hn (fun c hc => by obtain ⟨j, hj⟩ := List.getElem?_of_mem hc; exact (hcs j c hj).1) (fun j c hj => (hcs j c hj).2.2) hp
                have hnl : notLpD v (fun v => resultsD st qs fun s => k (v :: s)) = resultsD st qs fun s => k (v :: s) := by
                  cases v <;> first | rfl | (simp [isLp] at k3)
                rw [hnl] at hrun'
                have hld := run_loadVar (P := P) hsz hag (w := w) (b := b) (o := o) (f := f) (fun j hj => (hcs j (cs[j]'(by omega)) (by rw [List.getElem?_eq_getElem])).2.1) k1
                exact fin v _ (by simp [resSem, hcv, asAddr, hld]) k2 k3 hrun'

theorem run_results {fn : Func} {tmps : Array Value} {w : World} {cvs : List Value} (h : (fn.results.toList.mapM (resSem tmps)).run P w = .ok cvs w) :
    (results fn tmps).run P w = .ok (if h : cvs.length = 1 then cvs[0]'(by omega) else .tuple cvs.toArray) w := by
  have : results fn tmps = (do
      let vs ← fn.results.mapM (resSem tmps)
      pure (if h : vs.size = 1 then vs[0] else .tuple vs)) := by
    unfold results
    congr 1
  rw [this]
  rw [Array.mapM_eq_mapM_toList]
  simp only [Sem.run_bind, Sem.run_map, h, Result.andThen_ok, Sem.run_pure]
  simp
end
end Ev
