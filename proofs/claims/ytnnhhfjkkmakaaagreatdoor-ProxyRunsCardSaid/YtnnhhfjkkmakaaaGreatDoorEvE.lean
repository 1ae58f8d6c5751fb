import Derived.Test.YtnnhhfjkkmakaaaGreatDoorEvD
import Derived.ChangeSame
import Derived.ReadAgain
import Derived.OpenShut
import Derived.ProofKit
import Derived.JoinedCond
import Derived.WalkKit
import Derived.ChangeArms
set_option linter.unusedVariables false
set_option linter.unusedSimpArgs false
set_option linter.unusedSectionVars false
set_option linter.constructorNameAsVariable false
namespace Ev
variable [Glob]
open Go
section
variable {P : Program} {pol : Pol} {call : Call} {L : Nat}
theorem tuple_repA {g : G} {vs : List V} {cvs : List Value} (hl : vs.length = cvs.length) (h1 : ∀ x, x ∈ vs → isLp x = false) (h2 : ∀ (i : Nat) (v : V), vs[i]? = some v → RepA g v (cvs.getD i undef)) :
    RepA g (tuple vs) (if h : cvs.length = 1 then cvs[0]'(by omega) else .tuple cvs.toArray) ∧ isLp (tuple vs) = false := by
  by_cases h : cvs.length = 1
  · simp only [h, dif_pos]
    match vs, hl with
    | [v], _ =>
      have := h2 0 v rfl
      refine ⟨?_, h1 v (by simp)⟩
      have e : cvs.getD 0 undef = cvs[0]'(by omega) := by simp [List.getD, h]
      rw [← e]; exact this
    | [], hl => simp at hl; omega
    | _ :: _ :: _, hl => simp at hl; omega
  · simp only [h, dif_neg, not_false_eq_true]
    have ht : tuple vs = .tu vs := by
      match vs, hl with
      | [], _ => rfl
      | [v], hl => exact absurd hl.symm (by simpa using h)
      | _ :: _ :: _, _ => rfl
    rw [ht]
    refine ⟨.tu vs _ (by simp [hl]) h1 fun i x hx => ?_, rfl⟩
    have := h2 i x hx
    simpa [Array.getD_eq_getD_getElem?, List.getD_eq_getElem?_getD] using this
theorem entry {g : G} {hp : Hp} {w : World} {xs : List V} {cs : Array Value} (hgl : GlobW g hp w) (hr : HR g hp w) (ha : Args g xs cs) {ntm : Nat} (hn : xs.length ≤ ntm) :
    StR ⟨g, hp, w, hgl⟩ ntm [] g (fun _ => none) ⟨argT xs, fun _ => none, hp⟩ { tmps := cs ++ Array.replicate (ntm - cs.size) undef, defers := [] } w := by
  have hsz := ha.size
  refine ⟨by simp; omega, rfl, fun t => ?_, fun t d off x => ?_, ⟨hr, ⟨fun t cs b x _ => by simp at x, fun t t' b _ h => by simp at h⟩, .refl _ _ _⟩⟩
  · simp only [argT]
    rcases Nat.lt_or_ge t xs.length with h | h
    · have hx : xs[t]? = some xs[t] := List.getElem?_eq_getElem h
      have e : xs.getD t .un = xs[t] := by simp [List.getD, hx]
      rw [e]
      have := ha.rep t _ hx
      have e2 : (cs ++ Array.replicate (ntm - cs.size) undef).getD t undef = cs.getD t undef := by
        simp only [Array.getD_eq_getD_getElem?]; rw [Array.getElem?_append_left (by omega)]
      simp only [e2]
      exact .ofA this
    · have e : xs.getD t .un = .un := by simp [List.getD, List.getElem?_eq_none h]
      rw [e]; exact RepA.un _
  · exfalso
    simp only [argT] at x
    rcases Nat.lt_or_ge t xs.length with h | h
    · have hx : xs[t]? = some xs[t] := List.getElem?_eq_getElem h
      have e : xs.getD t .un = xs[t] := by simp [List.getD, hx]
      rw [e] at x
      have := ha.lp _ (List.getElem_mem h)
      rw [x] at this; simp [isLp] at this
    · have e : xs.getD t .un = .un := by simp [List.getD, List.getElem?_eq_none h]
      rw [e] at x; cases x
theorem fn_ok (hcall : CallOK P call) (hm : P.follows .mixedOrders = true) (hkc : ∀ f, pol.mds f ≠ .rw → KeepC call f) {f : FuncId} {fn : Func} {d : DFn} (hf : P.funcs[f]? = some fn) (hname : fn.name ≠ "runtime.NumGoroutine") (hc : cFn P pol fn = some d) :
    RunOK P call L f d.den := by
  unfold cFn at hc
  split at hc
  · rename_i b ps rs res hbody hps hrs hres
    split at hc
    · rename_i hnt
      simp only [Option.map_eq_some_iff] at hc
      obtain ⟨c, hcc, rfl⟩ := hc
      intro xs cs g hp w hgl hr ha
      have hent : Enters P f := ⟨fn, hf, hname, by rw [hbody]; rfl⟩
      unfold runF
      cases hlen : Nat.beq xs.length (DFn.den ⟨ps ++ List.replicate fn.nfree (.c .one), rs, pol.md, res, c⟩).ps.length with
      | false => trivial
      | true =>
        simp only [cond_true]
        have hxl : xs.length = fn.params.size + fn.nfree := by
          have h1 := Nat.eq_of_beq_eq_true hlen
          have h2 := allSome_len hps
          simp only [DFn.den, List.length_append, List.length_replicate] at h1
          simp at h2; omega
        generalize hrun : run call L (bodyD (DFn.den ⟨ps ++ List.replicate fn.nfree (.c .one), rs, pol.md, res, c⟩) xs hp) = r0
        by_cases hb : r0 = .bad
        · subst hb; trivial
        have main : ∀ R : Ending → World → Prop, (∀ v s g' w' cv, r0 = .ret ⟨fun _ => v, fun _ => none, s⟩ → HR g' s w' → Evo g hp w g' s w' → RepA g' v cv → isLp v = false → R (.returned cv) w') →
            (∀ v s g' w' cv, r0 = .pan v ⟨fun _ => .un, fun _ => none, s⟩ → HR g' s w' → Evo g hp w g' s w' → RepA g' v cv → isLp v = false → R (.panicked [{ v := cv, recovered := false }]) w') → Calls P f cs w R := by
          intro R hR1 hR2
          refine calls_of_wp hf hbody ?_
          have hst := entry hgl hr ha (ntm := fn.ntmps) (by omega)
          have fin : ∀ st a w' g' ν', StR ⟨g, hp, w, hgl⟩ fn.ntmps [] g' ν' st a w' → run call L (resultsD st res fun vs => .done (.ret ⟨fun _ => tuple vs, fun _ => none, st.hp⟩)) = r0 →
              a.defers = [] ∧ ∃ v, (results fn a.tmps).run P w' = .ok v w' ∧ R (.returned v) w' := by
            intro st a w' g' ν' h1 h2
            obtain ⟨vs, cvs, q1, q2, q3, q4, q5⟩ := results_real h1 _ _ hres _ _ h2 hb
            obtain ⟨k1, k2⟩ := tuple_repA q2 q3 q4
            exact ⟨h1.defers, _, run_results q1, hR1 (tuple vs) st.hp g' w' _ (by simp only [run] at q5; exact q5.symm) h1.mem.hr h1.mem.evo k1 k2⟩
          refine code_ok (E := ⟨g, hp, w, hgl⟩) hcall hm hkc b c hcc _ _ w g _ _ r0 _ hst hrun hb ⟨rfl, fun st a w' g' ν' h1 h2 => fin st a w' g' ν' h1 h2, fun id st a w' g' ν' h1 h2 => ?_, fun st a w' g' ν' h1 h2 => fin st a w' g' ν' h1 h2, fun v s a w' cv h1 h2 h3 => ?_⟩
          · exact absurd h2.symm hb
          · obtain ⟨g', ν', m1, m2, m3⟩ := h2
            exact ⟨h1, hR2 v s.hp g' w' cv (by simp only [run] at h3; exact h3.symm) m1.hr m1.evo m2 m3⟩
        cases hr0 : r0 with
        | ret st =>
          refine ⟨hent, main _ (fun v s g' w' cv h1 h2 h3 h4 h5 => ?_) (fun v s g' w' cv h1 _ _ _ _ => ?_)⟩
          · rw [hr0] at h1; simp only [R.ret.injEq] at h1; subst h1
            exact ⟨cv, g', rfl, h2, h3, h4, h5⟩
          · rw [hr0] at h1; cases h1
        | pan v st =>
          refine ⟨hent, main _ (fun v s g' w' cv h1 _ _ _ _ => ?_) (fun v s g' w' cv h1 h2 h3 h4 h5 => ?_)⟩
          · rw [hr0] at h1; cases h1
          · rw [hr0] at h1; simp only [R.pan.injEq] at h1; obtain ⟨rfl, rfl⟩ := h1
            exact ⟨cv, g', rfl, h2, h3, h4, h5⟩
        | _ => trivial
    · cases hc
  · cases hc
def FnOK (P : Program) (mds : Nat → Md) (f : Nat) (fn : Fn) : Prop :=
  fn.md = mds f ∧ ((∃ gf pol d, P.funcs[f]? = some gf ∧ gf.name ≠ "runtime.NumGoroutine" ∧ cFn P pol gf = some d ∧ d.den = fn ∧ pol.mds = mds) ∨ ∀ call L, CallOK P call → RunOK P call L f fn)
theorem FnOK.read {P : Program} {mds : Nat → Md} {f : Nat} {c : Fn} {gf : Func} {pol : Pol} (h1 : P.funcs[f]? = some gf) (h2 : (gf.name == "runtime.NumGoroutine") = false) {d : DFn} (h3 : cFn P pol gf = some d) (h6 : d.den = c) (h4 : pol.mds = mds) (h5 : c.md = mds f) : FnOK P mds f c :=
  ⟨h5, .inl ⟨gf, pol, d, h1, by simpa using h2, h3, h6, h4⟩⟩
structure Table (P : Program) (F : Nat → Option Fn) (mds : Nat → Md) : Prop where
  mixed : P.follows .mixedOrders = true
  fns : ∀ f fn, F f = some fn → FnOK P mds f fn
theorem Table.run {F : Nat → Option Fn} {mds : Nat → Md} (T : Table P F mds) {call : Call} (hc : CallOK P call) (hk : ∀ f, mds f ≠ .rw → KeepC call f) {f : Nat} {fn : Fn} (hF : F f = some fn) : RunOK P call L f fn := by
  obtain ⟨h0, ⟨gf, pol, d, h1, h2, h3, rfl, h5⟩ | h⟩ := T.fns f fn hF
  · exact fn_ok hc T.mixed (fun f' hf' => hk f' (by rw [← h5]; exact hf')) h1 h2 h3
  · exact h call L hc
theorem callF_ok {F : Nat → Option Fn} {mds : Nat → Md} (T : Table P F mds) : ∀ n, CallOK P (callF F L n) ∧ ∀ f, mds f ≠ .rw → KeepC (callF F L n) f := by
  intro n
  induction n with
  | zero =>
    refine ⟨fun own f xs cs E g ν lo hp w _ _ => trivial, fun f _ own xs hp v hp' _ h => by simp [callF] at h⟩
  | succ n ih =>
    obtain ⟨ih1, ih2⟩ := ih
    refine ⟨fun own f xs cs E g ν lo hp w hm ha => ?_, fun f hmd own xs hp v hp' hn h => ?_⟩
    · simp only [callF]
      cases hF : F f with
      | none => trivial
      | some fn =>
        have hrun : RunOK P (callF F L n) L f fn := T.run ih1 ih2 hF
        simp only []
        cases fn.md with
        | pure => exact pure_ok hrun hm ha
        | ro => exact ro_ok hrun hm ha
        | rw => exact rw_ok hrun hm ha
    · simp only [callF] at h
      cases hF : F f with
      | none => simp [hF] at h
      | some fn =>
        have h6 := (T.fns f fn hF).1
        simp only [hF] at h
        rw [h6] at h
        cases hq : mds f with
        | pure => simp only [hq] at h; exact runP_keep hn h
        | ro => simp only [hq] at h; exact runR_keep h
        | rw => exact absurd hq hmd
theorem sound {F : Nat → Option Fn} {mds : Nat → Md} (T : Table P F mds) {n : Nat} {f : Nat} {fn : Fn} (hF : F f = some fn) {xs : List V} {cs : Array Value} {κ : K} {w : World} (hgl : GlobW ⟨κ, fun _ => .unb⟩ h0 w) (hκ : ∀ b o v, κ b o = some v → w.cell? (ad b o) = some v)
    (ha : Args ⟨κ, fun _ => .unb⟩ xs cs) {v : V} {hp' : Hp} (hr : runF (callF F L n) L fn xs h0 = .ret v hp') :
    Calls P f cs w (EndR fun cv w' g' => HR g' hp' w' ∧ Evo ⟨κ, fun _ => .unb⟩ h0 w g' hp' w' ∧ RepA g' v cv ∧ isLp v = false) := by
  obtain ⟨ih1, ih2⟩ := callF_ok (L := L) T n
  have hrun : RunOK P (callF F L n) L f fn := T.run ih1 ih2 hF
  have := hrun xs cs _ h0 w hgl (HR.empty hκ) ha
  rw [hr] at this
  exact this.2
end
end Ev
namespace Ev
variable [Glob]
open Go Go.ChangeShapes Go.WideShapes Go.ChangeAt Go.RowKit
def fullB (P : Program) : Bool := (List.range P.types.size).all fun t => match P.underlying t with | some (.slice e) => decide (0 < P.cellsOf e) | _ => true
def kAll (W : World) : K := fun b o => W.cell? (ad b o)
structure Kept (W W' : World) : Prop where
  os : W'.os = W.os
  out : W'.output = W.output
  size : W.heap.size ≤ W'.heap.size
  heap : ∀ b, b < W.heap.size → W'.heap[b]? = W.heap[b]?
theorem law_calls {P : Program} {F : Nat → Option Fn} {mds : Nat → Md} (T : Table P F mds) {L n f : Nat} {fn : Fn} (hF : F f = some fn) {xs : List V} {cs : Array Value} {W : World} (hgl : GlobW ⟨kAll W, fun _ => .unb⟩ h0 W) (ha : Args ⟨kAll W, fun _ => .unb⟩ xs cs) {hp : Hp}
    (hr : runF (callF F L n) L fn xs h0 = .ret (.bo true) hp) : Calls P f cs W fun e W' => e = .returned (.bool true) ∧ Kept W W' := by
  refine Calls.mono (sound T hF (κ := kAll W) hgl (fun b o v h => h) ha hr) fun e W' h => ?_
  obtain ⟨cv, g', rfl, _, ev, hv, _⟩ := h
  have := RepA.bo_inv hv
  subst this
  exact ⟨rfl, ev.wd.1.1, ev.wd.1.2, ev.size, fun b hb => ev.wd.2.2.1 b hb (fun o h => own_empty h) (fun ⟨_, q⟩ => by cases q)⟩
theorem Kept.kept {W W' : World} (h : Kept W W') (may : MemPlace → Prop) : W.keptBut W' may := by
  refine ⟨h.os, h.out, fun i hi => ?_⟩
  rw [h.heap i hi]
  cases e : W.heap[i]? with
  | none => rfl
  | some o => cases o <;> first | exact ⟨rfl, rfl, rfl, fun _ _ => rfl⟩ | exact .inr ⟨rfl, rfl⟩ | rfl
theorem Kept.same {W W' : World} (h : Kept W W') {p : MemPlace} (hp : p.block < W.heap.size) : W.sameAt W' p := by
  cases p with
  | cell b off => simp only [World.sameAt, World.cell?]; rw [h.heap b hp]
  | map b => exact h.heap b hp
theorem Kept.frozen {W W' : World} (h : Kept W W') {b off : Nat} (hb : b < W.heap.size) : W'.frozen? ⟨b, off, none⟩ = W.frozen? ⟨b, off, none⟩ := by
  simp only [World.frozen?]; rw [h.heap b hb]
section
variable {H : Type} {enc : TypeId × Value → H} {P : Program}
theorem TrodAll.kept {W W' : World} (h : Kept W W') {base : Nat} {sp : Nat → Bool} {held : Bool} : ∀ {ts : List TypeId} {vs : List Value} {ds : List (DataW H)} {ps : List MemPlace}, DataW.TrodAll enc P W base sp held ts vs ds ps → DataW.TrodAll enc P W' base sp held ts vs ds ps
  | [], [], [], _, x => x
  | t :: ts, v :: vs, d :: ds, _, ⟨p, q, ⟨n, h1⟩, h2, e⟩ => ⟨p, q, ⟨n, DataW.trod_carry n _ _ _ h1 fun x hx => h.same (DataW.trod_lt n _ _ _ h1 x hx)⟩, TrodAll.kept h h2, e⟩
  | [], [], _ :: _, _, x => by cases x
  | [], _ :: _, _, _, x => by cases x
  | _ :: _, [], _, _, x => by cases x
  | _ :: _, _ :: _, [], _, x => by cases x
theorem post_kept {f : Func} {s : ChangeSpec} {apart fresh handsOn again : Bool} {W W' : World} {args : Array Value} {ds gs : List (DataW H)} {before : List MemPlace} {tb : TypeId}
    (hW : DataW.Whole enc P f.params.toList s.vars apart W args.toList ds gs before) (hvars : s.vars = []) (hfn : s.fn H (ds ++ gs) = { results := [.lit (.bool true)], args := ds }) (hrt : f.resultTypes = #[tb]) (htb : P.underlying tb = some .bool)
    (hlo : laidOutB P = true) (hmr : mapsRowed P = true) (hz : fullB P = true) (hpt : ∀ t, t ∈ f.params.toList → t < P.types.size) (hk : Kept W W') : s.post enc P f apart fresh handsOn again W args (.bool true) W' := by
  have hlt := hW.lt
  have hW' := hW
  obtain ⟨p, q, hA, hV, hps, hfz, hnd⟩ := hW
  rw [hvars] at hV
  obtain ⟨hgs, hq⟩ := trodVars_none hV
  subst hq
  rw [List.append_nil] at hps
  subst hps
  have hA' : ∀ sp : Nat → Bool, (∀ x ∈ before, sp x.block = true) → DataW.TrodAll enc P W' 0 sp true f.params.toList args.toList ds before := fun sp hsp =>
    DataW.TrodAll.respare (kids_rows hlo hmr) (slices_full_of P (by exact hz)) hpt (TrodAll.kept hk hA) hsp
  have hres : ∀ (b : Nat) (sp : Nat → Bool) (hd : Bool), DataW.TrodAll enc P W' b sp hd f.resultTypes.toList ((Value.bool true).resultList f.resultTypes.size) (s.fn H (ds ++ gs)).results [] := by
    intro b sp hd
    rw [hfn, hrt]
    exact trodAll_cons_mk (shut_bool htb _) trodAll_mk0
  have hvv : ∀ sp, DataW.TrodVars enc P W' sp s.vars (s.fn H (ds ++ gs)).vars [] := by
    intro sp; rw [hvars, hfn]; rfl
  have hold : ∀ x ∈ before, (fun b => decide (b < W.heap.size)) x.block = true := fun x hx => by simpa using hlt x hx
  refine ⟨ds, gs, before, [], before, [], hW', hres _ _ _, by rw [hfn]; exact hA' _ hold, hvv _, World.keptBut_mono (fun x hx => ⟨hx, .inr (.inl hx)⟩) (hk.kept _), fun _ => ?_⟩
  refine ⟨?_, _, _, ([] ++ before) ++ [], ⟨[] ++ before, [], trodAll_append (hA' _ (fun _ _ => rfl)) (hres _ _ _), hvv _, rfl, ?_, ?_⟩, ?_⟩
  · exact ok_one hrt rfl (okWide_bool_mk htb true)
  · intro b off hp
    have hp' : MemPlace.cell b off ∈ before := by simpa using hp
    rw [hk.frozen (show b < W.heap.size from hlt _ hp')]
    exact hfz b off hp'
  · intro ha
    simpa using hnd ha
  · intro x hx _
    simpa using hx
end
def yes : CR → Bool
  | .ret (.bo b) _ => b
  | _ => false
theorem yes_ret {r : CR} (h : yes r = true) : ∃ hp, r = .ret (.bo true) hp := by
  unfold yes at h
  split at h
  · subst h; exact ⟨_, rfl⟩
  · cases h
end Ev
namespace Ev
variable [Glob]
open Go
def isH0 : Hp → Bool
  | ⟨0, 0, .e⟩ => true
  | _ => false
theorem isH0_eq {hp : Hp} (h : isH0 hp = true) : hp = h0 := by
  obtain ⟨a, b, c⟩ := hp
  unfold isH0 at h
  split at h
  · rename_i e; exact e
  · cases h
def memoFn (fn : Fn) (v : V) (h : Hp) : Fn := ⟨fn.ps, fn.rs, fn.md, [], fun st _ => bif isH0 st.hp then .done (.ret ⟨fun _ => v, fun _ => none, h⟩) else .bad⟩
variable {P : Program} {F : Nat → Option Fn} {mds : Nat → Md}
theorem memo_run {call : Call} {L : Nat} {fn : Fn} {v : V} {h : Hp} {xs : List V} {hp : Hp} (hn : fn.ps = []) : runF call L (memoFn fn v h) xs hp = .bad ∨ (xs = [] ∧ hp = h0 ∧ runF call L (memoFn fn v h) xs hp = .ret v h) := by
  cases xs with
  | cons x xs =>
    left
    have : Nat.beq (x :: xs).length (memoFn fn v h).ps.length = false := by rw [show (memoFn fn v h).ps = [] from hn]; rfl
    unfold runF
    rw [this]; rfl
  | nil =>
    cases e : isH0 hp with
    | false => left; simp [runF, memoFn, hn, bodyD, e, run, crOf]
    | true => right; refine ⟨rfl, isH0_eq e, ?_⟩; simp [runF, memoFn, hn, bodyD, e, run, crOf]
theorem memo_ok (T : Table P F mds) {f : Nat} {fn : Fn} (hF : F f = some fn) (hn : fn.ps = []) {L n : Nat} {v : V} {h : Hp} (hr : runF (callF F L n) L fn [] h0 = .ret v h) : FnOK P mds f (memoFn fn v h) := by
  refine ⟨(T.fns f fn hF).1, .inr fun call L' _ xs cs g hp w hgl hh ha => ?_⟩
  rcases memo_run (call := call) (L := L') (v := v) (h := h) (xs := xs) (hp := hp) hn with e | ⟨rfl, rfl, e⟩
  · rw [e]; trivial
  · rw [e]
    obtain ⟨i1, i2⟩ := callF_ok (L := L) T n
    have := (T.run i1 i2 hF : RunOK P (callF F L n) L f fn) [] cs g h0 w hgl hh ha
    rw [hr] at this
    exact this
theorem Table.memo (T : Table P F mds) {F' : Nat → Option Fn} (T' : Table P F' mds) {f : Nat} {fn : Fn} (hF : F f = some fn) (hn : fn.ps = []) {L n : Nat} {v : V} {h : Hp} (hr : runF (callF F L n) L fn [] h0 = .ret v h) :
    Table P (fun i => bif Nat.beq i f then some (memoFn fn v h) else F' i) mds := by
  refine ⟨T.mixed, fun i fn' hi => ?_⟩
  cases e : Nat.beq i f with
  | false => simp only [e, cond_false] at hi; exact T'.fns i fn' hi
  | true =>
    simp only [e, cond_true, Option.some.injEq] at hi
    subst hi
    rw [Nat.eq_of_beq_eq_true e]
    exact memo_ok T hF hn hr
theorem Table.put (T : Table P F mds) {f : Nat} {fn : Fn} (h : FnOK P mds f fn) : Table P (fun i => bif Nat.beq i f then some fn else F i) mds := by
  refine ⟨T.mixed, fun i fn' hi => ?_⟩
  cases e : Nat.beq i f with
  | false => simp only [e, cond_false] at hi; exact T.fns i fn' hi
  | true =>
    simp only [e, cond_true, Option.some.injEq] at hi
    subst hi
    rw [Nat.eq_of_beq_eq_true e]
    exact h
theorem bld_den {z cs : List V} {ps : List (Nat × Nat × A)} {qs : List (Nat × Nat × V)} (hp : ps = qs.map fun (o, n, v) => (o, n, .k v)) (h : fill qs z = some cs) : I.den (.bld z ps) = I.den (.mov (.k (.ag cs))) := by
  subst hp
  funext us ps d st k k'
  have e : ((qs.map fun (o, n, v) => (o, n, A.k v)).map fun (o, n, a) => (o, n, get st.tm a)) = qs := by
    rw [List.map_map]
    have : ((fun (x : Nat × Nat × A) => (x.1, x.2.1, get st.tm x.2.2)) ∘ fun (x : Nat × Nat × V) => (x.1, x.2.1, A.k x.2.2)) = id := by funext x; rfl
    exact (congrArg (fun f => qs.map f) this).trans (List.map_id qs)
  show oneD ((fill ((qs.map fun (o, n, v) => (o, n, A.k v)).map fun (o, n, a) => (o, n, get st.tm a)) z).map .ag) (fun v => k v st) = _
  rw [e, h]
  rfl
end Ev
namespace Ev
variable [Glob]
open Go
def EvC (F : Nat → Option Ev.Fn) (own : Bool) (f : Nat) (xs : List V) (hp : Hp) (r : CR) : Prop :=
  ∃ N, ∀ L n, N ≤ L → N ≤ n → callF F L n own f xs hp = r
def EvD (F : Nat → Option Ev.Fn) (d : D) (r : R) : Prop :=
  ∃ N, ∀ L n, N ≤ L → N ≤ n → run (callF F L n) L d = r
def EvL (F : Nat → Option Ev.Fn) (keep drop : List Nat) (body : St → D) (st : St) (r : R) : Prop :=
  ∃ N, ∀ L n, N ≤ L → N ≤ n → ∀ q, N ≤ q → iter (fun s => run (callF F L n) L (body s)) keep drop q st = r
theorem keepF_id {α : Type} : ∀ (l : List Nat) (k : Tm → α) (tm : Tm), keepF k l tm = k (keepF (fun t => t) l tm)
  | [], _, _ => rfl
  | a :: l, k, tm => by
    simp only [keepF, force_eq]
    rw [keepF_id l (fun t => k fun j => bif Nat.beq j a then tm a else t j), keepF_id l (fun t => fun j => bif Nat.beq j a then tm a else t j)]
section
variable {F : Nat → Option Ev.Fn}
theorem EvD.done (r : R) : EvD F (.done r) r := ⟨0, fun _ _ _ _ => rfl⟩
theorem EvD.br {b : Bool} {x y : D} {r : R} (h : b = true → EvD F x r) (h' : b = false → EvD F y r) : EvD F (.br b x y) r := by
  cases b with
  | true => obtain ⟨N, h⟩ := h rfl; exact ⟨N, fun L n hL hn => h L n hL hn⟩
  | false => obtain ⟨N, h⟩ := h' rfl; exact ⟨N, fun L n hL hn => h L n hL hn⟩
theorem EvD.chk {b : Bool} {x : D} {r : R} (hb : b = true) (h : EvD F x r) : EvD F (.chk b x) r := by
  subst hb; obtain ⟨N, h⟩ := h; exact ⟨N, fun L n hL hn => h L n hL hn⟩
theorem EvD.call {own : Bool} {f : Nat} {xs : List V} {hp : Hp} {k : CR → D} {c : CR} {r : R} (h : EvC F own f xs hp c) (h' : EvD F (k c) r) : EvD F (.call own f xs hp k) r := by
  obtain ⟨N, h⟩ := h
  obtain ⟨M, h'⟩ := h'
  refine ⟨max N M, fun L n hL hn => ?_⟩
  simp only [run, forceL_eq]
  rw [h L n (by omega) (by omega)]
  exact h' L n (by omega) (by omega)
theorem EvD.loop {keep drop : List Nat} {body : St → D} {st : St} {k : R → D} {x r : R} (h : EvL F keep drop body st x) (h' : EvD F (k x) r) : EvD F (.loop keep drop body st k) r := by
  obtain ⟨N, h⟩ := h
  obtain ⟨M, h'⟩ := h'
  refine ⟨max N M, fun L n hL hn => ?_⟩
  simp only [run]
  rw [h L n (by omega) (by omega) L (by omega)]
  exact h' L n (by omega) (by omega)
theorem EvL.round {keep drop : List Nat} {body : St → D} {st s : St} {r : R} (h : ∀ tm', keepF (fun t => t) keep st.tm = tm' → EvD F (body ⟨tm', shed drop st.lo, st.hp⟩) (.norm s)) (h' : EvL F keep drop body s r) : EvL F keep drop body st r := by
  obtain ⟨N, h⟩ := h _ rfl
  obtain ⟨M, h'⟩ := h'
  refine ⟨max N M + 1, fun L n hL hn q hq => ?_⟩
  cases q with
  | zero => omega
  | succ q =>
    rw [iter_succ]
    rw [keepF_id, h L n (by omega) (by omega)]
    exact h' L n (by omega) (by omega) q (by omega)
theorem EvL.last {keep drop : List Nat} {body : St → D} {st : St} {r : R} (h : ∀ tm', keepF (fun t => t) keep st.tm = tm' → EvD F (body ⟨tm', shed drop st.lo, st.hp⟩) r) (hr : ∀ s, r ≠ .norm s) : EvL F keep drop body st r := by
  obtain ⟨N, h⟩ := h _ rfl
  refine ⟨N + 1, fun L n hL hn q hq => ?_⟩
  cases q with
  | zero => omega
  | succ q =>
    rw [iter_succ]
    rw [keepF_id, h L n (by omega) (by omega)]
    cases r with
    | norm s => exact absurd rfl (hr s)
    | _ => rfl
theorem EvC.pure {own : Bool} {f : Nat} {fn : Ev.Fn} {xs ys : List V} {hp hp1 : Hp} {r : R} {c : CR} (hF : F f = some fn) (hm : fn.md = .pure) (hc : closeAll fn.ps xs hp = some (ys, hp1)) (hl : Nat.beq ys.length fn.ps.length = true) (h : EvD F (bodyD fn ys h0) r)
    (hb : back own fn hp1 (crOf r) = c) : EvC F own f xs hp c := by
  obtain ⟨N, h⟩ := h
  refine ⟨N + 1, fun L n hL hn => ?_⟩
  cases n with
  | zero => omega
  | succ n =>
    simp only [callF, hF, hm, runP, hc, runF, hl, cond_true]
    rw [h L n (by omega) (by omega), hb]
theorem EvC.rw {own : Bool} {f : Nat} {fn : Ev.Fn} {xs : List V} {hp : Hp} {r : R} {c : CR} (hF : F f = some fn) (hm : fn.md = .rw) (hl : Nat.beq xs.length fn.ps.length = true) (h : EvD F (bodyD fn xs hp) r)
    (hb : crOf r = c) : EvC F own f xs hp c := by
  obtain ⟨N, h⟩ := h
  refine ⟨N + 1, fun L n hL hn => ?_⟩
  cases n with
  | zero => omega
  | succ n =>
    simp only [callF, hF, hm, runF, hl, cond_true]
    rw [h L n (by omega) (by omega), hb]
theorem EvC.run {fn : Ev.Fn} {xs : List V} {r : R} {v : V} {hp' : Hp} (hl : Nat.beq xs.length fn.ps.length = true) (h : EvD F (bodyD fn xs h0) r) (hb : crOf r = .ret v hp') : ∃ L n, runF (callF F L n) L fn xs h0 = .ret v hp' := by
  obtain ⟨N, h⟩ := h
  refine ⟨N, N, ?_⟩
  simp only [runF, hl, cond_true]
  rw [h N N (by omega) (by omega), hb]
end
end Ev
namespace Ev
variable [Glob]
open Go Go.ChangeShapes Go.WideShapes Go.ChangeAt Go.RowKit
inductive TD where
  | bo
  | it (k : IntKind)
  | fl (k : FloatKind)
  | st
  | sl (ts : List TD)
  deriving Inhabited
def tdFields (P : Program) (r : TypeId → Option (List TD)) : Nat → List Field → Option (Nat × List TD)
  | off, [] => some (off, [])
  | off, f :: fs =>
    if f.offset = off then
      match r f.type with
      | some ts => if ts.length = P.cellsOf f.type then (tdFields P r (off + P.cellsOf f.type) fs).map fun x => (x.1, ts ++ x.2) else none
      | none => none
    else none
def tdOf (P : Program) : Nat → TypeId → Option (List TD)
  | 0, _ => none
  | n + 1, t => match P.underlying t with
    | some .bool => some [.bo]
    | some (.int k) => some [.it k]
    | some (.float k) => some [.fl k]
    | some .string => some [.st]
    | some (.slice e) => match tdOf P n e with
      | some ts => if ts.length = P.cellsOf e ∧ 0 < ts.length then some [.sl ts] else none
      | none => none
    | some (.struct fs) => match tdFields P (tdOf P n) 0 fs.toList with
      | some (m, ts) => if m = P.cellsOf t then some ts else none
      | none => none
    | _ => none
mutual
inductive Sh1 : TD → V → Prop
  | bo (b : Bool) : Sh1 .bo (.bo b)
  | it (k : IntKind) (n : Int) (h : (Lit.int k n).wf = true) : Sh1 (.it k) (.it k n)
  | fl (k : FloatKind) (b : Nat) : Sh1 (.fl k) (.fl k b)
  | st (l : List UInt8) : Sh1 .st (.st (l.map UInt8.toNat))
  | sl (ts : List TD) (n : Nat) (hn : ts.length = n) (es : List (List V)) (h : ShE ts es) : Sh1 (.sl ts) (.vs n es)
inductive ShL : List TD → List V → Prop
  | nil : ShL [] []
  | cons {t : TD} {v : V} {ts : List TD} {vs : List V} (h : Sh1 t v) (r : ShL ts vs) : ShL (t :: ts) (v :: vs)
inductive ShE : List TD → List (List V) → Prop
  | nil (ts : List TD) : ShE ts []
  | cons {ts : List TD} {e : List V} {es : List (List V)} (h : ShL ts e) (r : ShE ts es) : ShE ts (e :: es)
end
mutual
def siz : V → Nat
  | .st l => l.length + 1
  | .vs _ es => sizE es + 1
  | _ => 1
def sizL : List V → Nat
  | [] => 0
  | v :: r => siz v + sizL r
def sizE : List (List V) → Nat
  | [] => 0
  | e :: r => sizL e + sizE r
end
theorem sizL_append (a b : List V) : sizL (a ++ b) = sizL a + sizL b := by
  induction a with
  | nil => simp [sizL]
  | cons x a ih => simp only [List.cons_append, sizL, ih]; omega
theorem ShL.length {ts : List TD} {vs : List V} (h : ShL ts vs) : vs.length = ts.length := by
  induction vs generalizing ts with
  | nil => cases h; rfl
  | cons v vs ih => cases h with | cons a r => simp [ih r]
theorem ShL.append {ts us : List TD} {vs ws : List V} (h : ShL ts vs) (h' : ShL us ws) : ShL (ts ++ us) (vs ++ ws) := by
  induction vs generalizing ts with
  | nil => cases h; exact h'
  | cons v vs ih => cases h with | cons a r => exact .cons a (ih r)
theorem Sh1.keep {t : TD} {v : V} (h : Sh1 t v) : v.keep = true ∧ isLp v = false := by cases h <;> exact ⟨rfl, rfl⟩
theorem ShL.mem {ts : List TD} {vs : List V} (h : ShL ts vs) {v : V} (hv : v ∈ vs) : ∃ t, Sh1 t v := by
  induction vs generalizing ts with
  | nil => cases hv
  | cons x vs ih =>
    cases h with
    | cons a r =>
      rcases List.mem_cons.1 hv with e | e
      · subst e; exact ⟨_, a⟩
      · exact ih r e
inductive RepL (κ : K) : List V → List Value → Prop
  | nil : RepL κ [] []
  | cons {v : V} {c : Value} {vs : List V} {cs : List Value} (h : RepC κ v c) (r : RepL κ vs cs) : RepL κ (v :: vs) (c :: cs)
theorem RepC.keep' {κ : K} {v : V} {c : Value} (h : RepC κ v c) : v.keep = true := by cases h <;> rfl
theorem RepL.append {κ : K} {a b : List V} {x y : List Value} (h : RepL κ a x) (h' : RepL κ b y) : RepL κ (a ++ b) (x ++ y) := by
  induction h with
  | nil => exact h'
  | cons h r ih => exact .cons h ih
theorem RepL.length {κ : K} {a : List V} {x : List Value} (h : RepL κ a x) : a.length = x.length := by
  induction h with
  | nil => rfl
  | cons h r ih => simp [ih]
theorem RepL.get {κ : K} {a : List V} {x : List Value} (h : RepL κ a x) : ∀ (i : Nat) (v : V), a[i]? = some v → RepC κ v (x.getD i undef) := by
  induction h with
  | nil => intro i v h; simp at h
  | cons h r ih =>
    intro i v e
    cases i with
    | zero => simp at e; subst e; simpa using h
    | succ i => simpa using ih i v (by simpa using e)
structure Bulk {H : Type} (u : DataW H → Nat) (ul : List (DataW H) → Nat) : Prop where
  nil : ul [] = 0
  cons : ∀ d r, ul (d :: r) = u d + ul r
  str : ∀ b, u (.lit (.string b)) = b.length + 1
  one : ∀ d, 1 ≤ u d
  sl : ∀ a b, u (.slice a b) = ul a + ul b + 1
  ag : ∀ a, u (.agg a) = ul a + 1
section
variable {H : Type} {enc : TypeId × Value → H} {P : Program} {w : World} {u : DataW H → Nat} {ul : List (DataW H) → Nat}
theorem cells_get {base n : Nat} {a : Addr} {cs : List Value} (h : w.cells? base a n = some cs) : cs.length = n ∧ ∀ i, i < n → w.cell? (a.add i) = some (cs.getD i undef) := by
  unfold World.cells? at h
  split at h
  · refine ⟨by simpa using mapM_some_length h, fun i hi => ?_⟩
    have := mapM_some_get h i i (by simp [hi])
    rw [this]
    have hl : cs.length = n := by simpa using mapM_some_length h
    have : i < cs.length := by omega
    simp [List.getD, this]
  · cases h
theorem rows_read (hB : Bulk u ul) {base n sz : Nat} {a : Addr} {ts : List TD} {tr : List Value → Option (DataW H × List MemPlace)}
    (ih : ∀ cs d ps, tr cs = some (d, ps) → ∃ vs, RepL (kAll w) vs cs ∧ ShL ts vs ∧ sizL vs ≤ u d) :
    ∀ (elems : List (DataW H × List MemPlace)) (k : Nat), (∀ i, i < elems.length → (w.cells? base (a.add ((k + i) * sz)) sz).bind tr = elems[i]?) →
      ∃ (es : List (List V)) (f : Nat → List Value), es.length = elems.length ∧ ShE ts es ∧ sizE es ≤ ul (elems.map (·.1)) ∧
        ∀ i e, es[i]? = some e → w.cells? base (a.add ((k + i) * sz)) sz = some (f i) ∧ RepL (kAll w) e (f i)
  | [], k, _ => ⟨[], fun _ => [], rfl, .nil _, by simp [sizE], by simp⟩
  | x :: r, k, h => by
    obtain ⟨es, f, h1, h2, h3, h4⟩ := rows_read hB (base := base) (n := n) (a := a) ih r (k + 1) (fun i hi => by
      have := h (i + 1) (by simp; omega)
      rw [show k + 1 + i = k + (i + 1) by omega]; simpa using this)
    have h0 := h 0 (by simp)
    simp only [Nat.add_zero, List.getElem?_cons_zero] at h0
    cases hc : w.cells? base (a.add (k * sz)) sz with
    | none => rw [hc] at h0; simp at h0
    | some cs =>
      rw [hc] at h0
      simp only [Option.bind_some] at h0
      obtain ⟨vs, q1, q2, q3⟩ := ih cs x.1 x.2 h0
      refine ⟨vs :: es, fun i => match i with | 0 => cs | i + 1 => f i, by simp [h1], .cons q2 h2, ?_, fun i e he => ?_⟩
      · simp only [sizE, List.map_cons, hB.cons]; omega
      · cases i with
        | zero => simp at he; subst he; exact ⟨by simpa using hc, q1⟩
        | succ i =>
          have := h4 i e (by simpa using he)
          rw [show k + 1 + i = k + (i + 1) by omega] at this
          exact this
theorem fields_read {m : Nat} (hB : Bulk u ul) {base : Nat} {sp : Nat → Bool} {hd : Bool} {n : Nat}
    (ih : ∀ t cs d ps ts, tdOf P m t = some ts → DataW.trod enc P w base sp hd n t cs = some (d, ps) → ∃ vs, RepL (kAll w) vs cs ∧ ShL ts vs ∧ sizL vs ≤ u d) (cs : List Value) :
    ∀ (fs : List Field) (off e : Nat) (ts : List TD) (xs : List (DataW H × List MemPlace)), tdFields P (tdOf P m) off fs = some (e, ts) → xs.length = fs.length → e ≤ cs.length →
      (∀ (i : Nat) (f : Field), fs[i]? = some f → DataW.trod enc P w base sp hd n f.type ((cs.drop f.offset).take (P.cellsOf f.type)) = xs[i]?) →
      off ≤ e ∧ ∃ vs, RepL (kAll w) vs ((cs.drop off).take (e - off)) ∧ ShL ts vs ∧ sizL vs ≤ ul (xs.map (·.1))
  | [], off, e, ts, xs, h, hl, he, hx => by
    simp only [tdFields, Option.some.injEq, Prod.mk.injEq] at h
    obtain ⟨rfl, rfl⟩ := h
    exact ⟨Nat.le_refl _, [], by simp; exact .nil, .nil, by simp [sizL]⟩
  | f :: fs, off, e, ts, [], h, hl, he, hx => by simp at hl
  | f :: fs, off, e, ts, x :: xs, h, hl, he, hx => by
    simp only [tdFields] at h
    split at h
    · rename_i ho
      split at h
      · rename_i us hus
        split at h
        · rename_i hlen
          simp only [Option.map_eq_some_iff] at h
          obtain ⟨⟨e', ts'⟩, h1, h2⟩ := h
          simp only [Prod.mk.injEq] at h2
          obtain ⟨rfl, rfl⟩ := h2
          obtain ⟨q0, vs', q1, q2, q3⟩ := fields_read hB ih cs fs _ _ _ xs h1 (by simpa using hl) he (fun i g hg => by have := hx (i + 1) g (by simpa using hg); simpa using this)
          have h0 := hx 0 f (by simp)
          simp only [List.getElem?_cons_zero] at h0
          obtain ⟨vs, p1, p2, p3⟩ := ih _ _ x.1 x.2 us hus h0
          refine ⟨by omega, vs ++ vs', ?_, p2.append q2, ?_⟩
          · have := p1.append q1
            rw [ho] at this
            have e1 : ((cs.drop off).take (P.cellsOf f.type)) ++ ((cs.drop (off + P.cellsOf f.type)).take (e' - (off + P.cellsOf f.type))) = (cs.drop off).take (e' - off) := by
              have := List.take_append_drop (P.cellsOf f.type) ((cs.drop off).take (e' - off))
              rw [List.take_take, List.drop_take, List.drop_drop, Nat.min_eq_left (by omega)] at this
              rw [show e' - (off + P.cellsOf f.type) = e' - off - P.cellsOf f.type by omega]
              exact this
            rw [e1] at this
            exact this
          · rw [sizL_append]; simp only [List.map_cons, hB.cons]; omega
        · cases h
      · cases h
    · cases h
theorem data_read (hB : Bulk u ul) {base : Nat} {sp : Nat → Bool} {hd : Bool} : ∀ (m n : Nat) (t : TypeId) (cs : List Value) (d : DataW H) (ps : List MemPlace) (ts : List TD),
    tdOf P m t = some ts → DataW.trod enc P w base sp hd n t cs = some (d, ps) → ∃ vs, RepL (kAll w) vs cs ∧ ShL ts vs ∧ sizL vs ≤ u d
  | 0, _, _, _, _, _, _, h, _ => by simp [tdOf] at h
  | m + 1, n, t, cs, d, ps, ts, h, hr => by
    simp only [tdOf] at h
    split at h
    · rename_i ht
      simp only [Option.some.injEq] at h; subst h
      obtain ⟨b, rfl, hx⟩ := DataW.trod_bool ht hr
      exact ⟨[.bo b], .cons (.bo b) .nil, .cons (.bo b) .nil, by have := hB.one d; simpa [sizL, siz] using this⟩
    · rename_i k ht
      simp only [Option.some.injEq] at h; subst h
      obtain ⟨b, rfl, hx, hw⟩ := DataW.trod_int ht hr
      exact ⟨[.it k b], .cons (.it k b) .nil, .cons (.it k b hw) .nil, by have := hB.one d; simpa [sizL, siz] using this⟩
    · rename_i k ht
      simp only [Option.some.injEq] at h; subst h
      cases n with
      | zero => simp [DataW.trod] at hr
      | succ n =>
        unfold DataW.trod at hr
        rw [ht] at hr
        split at hr <;> simp_all
        refine ⟨[.fl _ _], .cons (.fl _ _) .nil, .cons (.fl _ _) .nil, ?_⟩
        have := hB.one d; simpa [sizL, siz] using this
    · rename_i ht
      simp only [Option.some.injEq] at h; subst h
      obtain ⟨s, rfl, hx, hw⟩ := DataW.trod_string ht hr
      simp only [Prod.mk.injEq] at hx
      obtain ⟨rfl, rfl⟩ := hx
      refine ⟨[.st (s.data.toList.map UInt8.toNat)], .cons (.st _ _ rfl) .nil, .cons (.st _) .nil, ?_⟩
      rw [hB.str]; simp [sizL, siz]
    · rename_i e ht
      split at h
      · rename_i us hus
        split at h
        · rename_i hlen
          simp only [Option.some.injEq] at h; subst h
          rcases DataW.trod_slice ht hr with ⟨rfl, hx⟩ | ⟨a, len, cap, elems, rest, n', rfl, rfl, hx, hb, hlc, _, hel, hread, _, _⟩
          · refine ⟨[.vs us.length []], .cons ?_ .nil, .cons (.sl us _ rfl [] (.nil _)) .nil, ?_⟩
            · exact .vs us.length [] none 0 0 0 (fun _ _ => undef) (by simp) (by simp) (by simp) (by simp) (by simp)
            · have := hB.one d; simpa [sizL, siz, sizE] using this
          · simp only [Prod.mk.injEq] at hx
            obtain ⟨rfl, rfl⟩ := hx
            obtain ⟨es, f, h1, h2, h3, h4⟩ := rows_read hB (ts := us) (n := 0) (fun cs d ps hc => data_read hB m n' e cs d ps us hus hc) elems 0 (fun i hi => by rw [Nat.zero_add]; exact hread i (by omega))
            refine ⟨[.vs us.length es], .cons ?_ .nil, .cons (.sl us _ rfl es h2) .nil, ?_⟩
            · obtain ⟨ab, ao, as⟩ := a
              have hrow : ∀ (i : Nat) (x : List V), es[i]? = some x → x.length = us.length := by
                intro i x hx
                have := (h4 i x hx).2.length
                have h5 := (cells_get (h4 i x hx).1).1
                omega
              have hlen2 : es.length = len := by omega
              have spot : ∀ (i : Nat) (x : List V), es[i]? = some x → as = none := by
                intro i x hx
                have h0 : 0 < es.length := by
                  rcases Nat.lt_or_ge i es.length with q | q
                  · omega
                  · simp [List.getElem?_eq_none q] at hx
                have h5 := cells_get (h4 0 es[0] (by simp [h0])).1
                have h6 := h5.2 0 (by omega)
                have := World.cell?_spot h6
                simpa [Addr.add] using this
              rw [← hlen2]
              refine .vs us.length es _ cap ab ao (fun i j => (f i).getD j undef) ?_ ?_ (by omega) ?_ ?_
              · intro x hx
                obtain ⟨i, hi, rfl⟩ := List.mem_iff_getElem.1 hx
                exact hrow i _ (List.getElem?_eq_getElem hi)
              · intro hne
                cases hes : es with
                | nil => exact absurd hes hne
                | cons x r =>
                  rw [spot 0 x (by rw [hes]; rfl)]; rfl
              · intro i j x c hx hc
                have hl := hrow i x hx
                have hj : j < x.length := by
                  rcases Nat.lt_or_ge j x.length with q | q
                  · exact q
                  · simp [List.getElem?_eq_none q] at hc
                have h5 := cells_get (h4 i x hx).1
                have h6 := h5.2 j (by omega)
                have h7 := spot i x hx
                subst h7
                refine ⟨((h4 i x hx).2.get j c hc).keep', ?_⟩
                simp only [kAll]
                have e1 : ad ab (ao + i * us.length + j) = (Addr.add (Addr.add ⟨ab, ao, none⟩ ((0 + i) * P.cellsOf e)) j) := by
                  rw [add_plain, add_plain, Nat.zero_add, hlen.1]; rfl
                rw [e1]
                exact h6
              · intro i j x c hx hc
                exact (h4 i x hx).2.get j c hc
            · simp only [sizL, siz, hB.sl]; omega
        · cases h
      · cases h
    · rename_i fs ht
      split at h
      · rename_i e us hus
        split at h
        · rename_i hm
          simp only [Option.some.injEq] at h; subst h
          obtain ⟨xs, n', rfl, hx, hlen, hxl, hxs⟩ := DataW.trod_struct ht hr
          simp only [Prod.mk.injEq] at hx
          obtain ⟨rfl, rfl⟩ := hx
          obtain ⟨_, vs, q1, q2, q3⟩ := fields_read hB (n := n') (fun t cs d ps ts a b => data_read hB m n' t cs d ps ts a b) cs fs.toList 0 e us xs hus (by simpa using hxl) (by omega) (fun i f hf => hxs i f (by simpa using hf))
          refine ⟨vs, ?_, q2, by rw [hB.ag]; omega⟩
          have : (cs.drop 0).take (e - 0) = cs := by simp only [List.drop_zero, Nat.sub_zero]; exact List.take_of_length_le (by omega)
          rw [this] at q1
          exact q1
        · cases h
      · cases h
    · cases h
end
end Ev
namespace Ev
variable [Glob]
open Go
def Rt (v : V) (hp : Hp) : R := .ret ⟨fun _ => v, fun _ => none, hp⟩
theorem beqD (a b : Nat) : Nat.beq a b = decide (a = b) := by
  by_cases h : a = b
  · rw [beqT h]; simp [h]
  · rw [beqF h]; simp [h]
theorem bleD (a b : Nat) : Nat.ble a b = decide (a ≤ b) := by
  cases h : Nat.ble a b
  · simp only [Bool.false_eq, decide_eq_false_iff_not]; intro q; rw [Nat.ble_eq_true_of_le q] at h; cases h
  · simp only [Bool.true_eq, decide_eq_true_eq]; exact Nat.le_of_ble_eq_true h
theorem bltD (a b : Nat) : Nat.blt a b = decide (a < b) := by
  unfold Nat.blt; rw [bleD]; rfl
theorem ieqD (a b : Int) : ieq a b = decide (a = b) := by rw [ieq_eq]; rfl
theorem beqLD (a b : List Nat) : beqL a b = decide (a = b) := by rw [beqL_eq, Bool.eq_iff_iff]; simp
theorem wr64 {n : Int} (h1 : -9223372036854775808 ≤ n) (h2 : n < 9223372036854775808) : wr .i64 n = n := by
  rw [wr_eq]; simp [IntKind.wrap, IntKind.bits, IntKind.signed]; split <;> omega
theorem wr_inc {i : Nat} (h : i ≤ 1000000000) : V.it .i64 (wr .i64 (Int.ofNat i + 1)) = .it .i64 (Int.ofNat (i + 1)) := by
  have e : (Int.ofNat i + 1 : Int) = Int.ofNat (i + 1) := rfl
  rw [e, wr64 (by simp; omega) (by simp; omega)]
theorem wr_add_nat {a b : Nat} (h : a + b ≤ 1000000000) : (wr .i64 (Int.ofNat a + Int.ofNat b)).toNat = a + b := by
  have e : (Int.ofNat a + Int.ofNat b : Int) = Int.ofNat (a + b) := rfl
  rw [e, wr64 (by simp; omega) (by simp; omega)]; rfl
theorem wr8 {n : Int} (h1 : 0 ≤ n) (h2 : n < 256) : wr .u8 n = n := by
  rw [wr_eq]; simp [IntKind.wrap, IntKind.bits, IntKind.signed]; omega
theorem wr8m (n : Int) : wr .u8 n = n % 256 := by
  rw [wr_eq]; simp [IntKind.wrap, IntKind.bits, IntKind.signed]
theorem wr64m (n : Int) : wr .i64 n = if n % 18446744073709551616 ≥ 9223372036854775808 then n % 18446744073709551616 - 18446744073709551616 else n % 18446744073709551616 := by
  rw [wr_eq]; simp [IntKind.wrap, IntKind.bits, IntKind.signed]
theorem lset_self {lo : Lo} {j : Nat} {cs : List V} (h : lo j = some cs) : lset lo j cs = lo := by
  funext i; unfold lset
  cases q : Nat.beq i j
  · rfl
  · rw [Nat.eq_of_beq_eq_true q]; exact h.symm
def tmOf : List (Nat × V) → Tm
  | [] => fun _ => .un
  | (k, v) :: r => fun j => bif Nat.beq j k then v else tmOf r j
theorem keepF_tm : ∀ (keep : List Nat) (tm : Tm), keepF (fun t => t) keep tm = tmOf (keep.map fun s => (s, tm s))
  | [], _ => rfl
  | a :: l, tm => by
    simp only [keepF, force_eq]
    rw [keepF_id l (fun t => fun j => bif Nat.beq j a then tm a else t j), keepF_tm l tm]
    rfl
def Clo (t : Ty) (v : V) : Prop := ∀ n hp, closeC (n + 1) t v hp = some (v, hp)
inductive CloL : List Ty → List V → Prop
  | nil : CloL [] []
  | cons {t : Ty} {v : V} {ts : List Ty} {vs : List V} (h : Clo t v) (r : CloL ts vs) : CloL (t :: ts) (v :: vs)
theorem CloL.length {ts : List Ty} {vs : List V} (h : CloL ts vs) : vs.length = ts.length := by
  induction h with
  | nil => rfl
  | cons h r ih => simp [ih]
theorem closeCs_clo {ts : List Ty} {vs : List V} (h : CloL ts vs) : ∀ n hp, ts.length + 1 ≤ n → closeCs n ts vs hp = some (vs, hp) := by
  induction h with
  | nil => intro n hp hn; cases n with | zero => omega | succ n => rfl
  | cons h r ih =>
    intro n hp hn
    cases n with
    | zero => omega
    | succ n =>
      simp only [List.length_cons] at hn
      cases n with
      | zero => omega
      | succ n => simp only [closeCs, h n hp, ih (n + 1) hp (by omega)]
theorem closeEs_clo {ts : List Ty} {es : List (List V)} : ∀ n hp, (∀ e, e ∈ es → CloL ts e) → es.length + ts.length + 2 ≤ n → closeEs n ts es hp = some (es, hp) := by
  induction es with
  | nil => intro n hp _ hn; cases n with | zero => omega | succ n => rfl
  | cons e r ih =>
    intro n hp h hn
    cases n with
    | zero => omega
    | succ n =>
      simp only [List.length_cons] at hn
      simp only [closeEs, closeCs_clo (h e (by simp)) n hp (by omega), ih n hp (fun x hx => h x (by simp [hx])) (by omega)]
theorem clo_bo (b : Bool) : Clo .one (.bo b) := fun _ _ => rfl
theorem clo_it (k : IntKind) (n : Int) : Clo .one (.it k n) := fun _ _ => rfl
theorem clo_st (l : List Nat) : Clo .one (.st l) := fun _ _ => rfl
theorem clo_vs (ts : List Ty) (es : List (List V)) : Clo (.sl ts) (.vs ts.length es) := fun n hp => by
  simp only [closeC, Nat.beq_refl, cond_true]
theorem closeC_hs {n : Nat} {ts : List Ty} {id i len sz : Nat} {fr : Bool} {es : List (List V)} {hp : Hp} (hg : hget hp id = some ⟨sz, fr, es⟩) (hl : hp.lim ≤ id) (hz : sz = ts.length) (hb : i + len ≤ es.length)
    (hc : ∀ e, e ∈ (es.drop i).take len → CloL ts e) (hn : len + ts.length + 3 ≤ n) : closeC n ((.sl ts) : Ty) (.hs id i len) hp = some (.vs sz ((es.drop i).take len), hset hp id (some ⟨sz, true, es⟩)) := by
  cases n with
  | zero => omega
  | succ n =>
    have hlt : Nat.blt id hp.lim = false := by rw [bltD]; simp; omega
    have hq : Nat.beq sz ts.length = true := by rw [beqD]; simp [hz]
    have hq2 : Nat.ble (i + len) es.length = true := by rw [bleD]; simp [hb]
    have hfz : freeze hp id = hset hp id (some ⟨sz, true, es⟩) := by unfold freeze; rw [hg]
    have hlen : ((es.drop i).take len).length = len := by simp; omega
    simp only [closeC, hg, hlt, cond_false, hq, cond_true, hq2, hfz, closeEs_clo n _ hc (by omega)]
def bs (l : List Int) : List (List V) := l.map fun n => [.it .u8 n]
theorem bs_length (l : List Int) : (bs l).length = l.length := by simp [bs]
theorem bs_append (a b : List Int) : bs a ++ bs b = bs (a ++ b) := by simp [bs]
theorem bs_take (a : List Int) (n : Nat) : (bs a).take n = bs (a.take n) := by simp [bs, List.map_take]
theorem bs_drop (a : List Int) (n : Nat) : (bs a).drop n = bs (a.drop n) := by simp [bs, List.map_drop]
theorem bs_clo (l : List Int) : ∀ e, e ∈ bs l → CloL [.one] e := by
  intro e he
  simp only [bs, List.mem_map] at he
  obtain ⟨n, _, rfl⟩ := he
  exact .cons (clo_it _ _) .nil
theorem bs_inj {a b : List Int} (h : bs a = bs b) : a = b := by
  induction a generalizing b with
  | nil => cases b with | nil => rfl | cons y b => simp [bs] at h
  | cons x a ih =>
    cases b with
    | nil => simp [bs] at h
    | cons y b =>
      simp only [bs, List.map_cons, List.cons.injEq, V.it.injEq, and_true, true_and] at h
      obtain ⟨h1, h2⟩ := h
      rw [h1, ih h2]
theorem depth_succ : depth = 99999999 + 1 := rfl
theorem clo_depth {t : Ty} {v : V} (h : Clo t v) (hp : Hp) : closeC depth t v hp = some (v, hp) := by rw [depth_succ]; exact h _ _
inductive ClP : List PT → List V → Hp → List V → Hp → Prop
  | nil (hp : Hp) : ClP [] [] hp [] hp
  | c {t : Ty} {v w : V} {ts : List PT} {vs ws : List V} {hp h1 h2 : Hp} (h : closeC depth t v hp = some (w, h1)) (r : ClP ts vs h1 ws h2) : ClP (.c t :: ts) (v :: vs) hp (w :: ws) h2
  | g {us : List Ty} {cs ds : List V} {ts : List PT} {vs ws : List V} {hp h1 h2 : Hp} (h : closeCs depth us cs hp = some (ds, h1)) (r : ClP ts vs h1 ws h2) : ClP (.g us :: ts) (.ag cs :: vs) hp (.ag ds :: ws) h2
theorem ClP.s {t : Ty} {v : V} {ts : List PT} {vs ws : List V} {hp h2 : Hp} (h : Clo t v) (r : ClP ts vs hp ws h2) : ClP (.c t :: ts) (v :: vs) hp (v :: ws) h2 := .c (clo_depth h hp) r
theorem ClP.gs {us : List Ty} {cs : List V} {ts : List PT} {vs ws : List V} {hp h2 : Hp} (h : CloL us cs) (r : ClP ts vs hp ws h2) (hl : us.length + 1 ≤ depth := by decide) : ClP (.g us :: ts) (.ag cs :: vs) hp (.ag cs :: ws) h2 :=
  .g (closeCs_clo h _ _ hl) r
def Clo2 (t : Ty) (v w : V) : Prop := ∀ n hp, closeC (n + 1) t v hp = some (w, hp)
inductive CloL2 : List Ty → List V → List V → Prop
  | nil : CloL2 [] [] []
  | cons {t : Ty} {v w : V} {ts : List Ty} {vs ws : List V} (h : Clo2 t v w) (r : CloL2 ts vs ws) : CloL2 (t :: ts) (v :: vs) (w :: ws)
theorem clo_ns (ts : List Ty) : Clo2 (.sl ts) .ns (.vs ts.length []) := fun _ _ => rfl
theorem closeCs_clo2 {ts : List Ty} {vs ws : List V} (h : CloL2 ts vs ws) : ∀ n hp, ts.length + 1 ≤ n → closeCs n ts vs hp = some (ws, hp) := by
  induction h with
  | nil => intro n hp hn; cases n with | zero => omega | succ n => rfl
  | cons h r ih =>
    intro n hp hn
    cases n with
    | zero => omega
    | succ n =>
      simp only [List.length_cons] at hn
      cases n with
      | zero => omega
      | succ n => simp only [closeCs, h n hp, ih (n + 1) hp (by omega)]
theorem ClP.s2 {t : Ty} {v w : V} {ts : List PT} {vs ws : List V} {hp h2 : Hp} (h : Clo2 t v w) (r : ClP ts vs hp ws h2) : ClP (.c t :: ts) (v :: vs) hp (w :: ws) h2 := .c (by rw [depth_succ]; exact h _ _) r
theorem ClP.gs2 {us : List Ty} {cs ds : List V} {ts : List PT} {vs ws : List V} {hp h2 : Hp} (h : CloL2 us cs ds) (r : ClP ts vs hp ws h2) (hl : us.length + 1 ≤ depth := by decide) : ClP (.g us :: ts) (.ag cs :: vs) hp (.ag ds :: ws) h2 :=
  .g (closeCs_clo2 h _ _ hl) r
theorem ClP.close {ts : List PT} {vs ws : List V} {hp h2 : Hp} (h : ClP ts vs hp ws h2) : closeAll ts vs hp = some (ws, h2) := by
  induction h with
  | nil hp => rfl
  | c h r ih => unfold closeAll; unfold closeP; simp only [h, ih]
  | g h r ih => unfold closeAll; unfold closeP; simp only [h, ih]
section
variable {F : Nat → Option Ev.Fn}
theorem EvD.brT {b : Bool} {x y : D} {r : R} (hb : b = true) (h : EvD F x r) : EvD F (.br b x y) r := .br (fun _ => h) (fun e => by rw [hb] at e; cases e)
theorem EvD.brF {b : Bool} {x y : D} {r : R} (hb : b = false) (h : EvD F y r) : EvD F (.br b x y) r := .br (fun e => by rw [hb] at e; cases e) (fun _ => h)
theorem EvD.rt {v v' : V} {hp hp' : Hp} (hv : v = v') (hh : hp = hp') : EvD F (.done (.ret ⟨fun _ => v, fun _ => none, hp⟩)) (Rt v' hp') := by
  subst hv; subst hh; exact .done _
theorem EvD.fin {d : D} {r r' : R} (h : EvD F d r) (e : r = r') : EvD F d r' := e ▸ h
theorem EvD.hg {hp : Hp} {id : Nat} {b : Bk} {k1 : Bk → D} {r : R} (h : hget hp id = some b) (h2 : EvD F (k1 b) r) :
    EvD F (match hget hp id with | some b => k1 b | none => .bad) r := by rw [h]; exact h2
theorem EvL.go {keep drop : List Nat} {body : St → D} {tm : Tm} {lo : Lo} {hp : Hp} (kv : List (Nat × V)) {s : St} {r : R} (hk : keep.map (fun s => (s, tm s)) = kv) (h : EvD F (body ⟨tmOf kv, shed drop lo, hp⟩) (.norm s))
    (h' : EvL F keep drop body s r) : EvL F keep drop body ⟨tm, lo, hp⟩ r :=
  .round (fun tm' e => by rw [keepF_tm, show keep.map (fun s => (s, (St.mk tm lo hp).tm s)) = kv from hk] at e; subst e; exact h) h'
theorem EvL.stop {keep drop : List Nat} {body : St → D} {tm : Tm} {lo : Lo} {hp : Hp} (kv : List (Nat × V)) {r : R} (hk : keep.map (fun s => (s, tm s)) = kv) (h : EvD F (body ⟨tmOf kv, shed drop lo, hp⟩) r)
    (hr : ∀ s, r ≠ .norm s) : EvL F keep drop body ⟨tm, lo, hp⟩ r :=
  .last (fun tm' e => by rw [keepF_tm, show keep.map (fun s => (s, (St.mk tm lo hp).tm s)) = kv from hk] at e; subst e; exact h) hr
theorem EvL.congr {keep drop : List Nat} {body : St → D} {st st' : St} {r : R} (h : EvL F keep drop body st' r) (h1 : keep.map (fun s => (s, st.tm s)) = keep.map (fun s => (s, st'.tm s))) (h2 : shed drop st.lo = shed drop st'.lo) (h3 : st.hp = st'.hp) :
    EvL F keep drop body st r := by
  obtain ⟨N, h⟩ := h
  refine ⟨N, fun L n hL hn q hq => ?_⟩
  rw [← h L n hL hn q hq]
  cases q with
  | zero => rfl
  | succ q => rw [iter_succ, iter_succ, keepF_id, keepF_id _ _ st'.tm, keepF_tm, keepF_tm, h1, h2, h3]
def EvP (F : Nat → Option Ev.Fn) (f : Nat) (fn : Ev.Fn) (ys zs : List V) : Prop :=
  F f = some fn ∧ fn.md = .pure ∧ Nat.beq ys.length fn.ps.length = true ∧
  ∃ v h h', EvD F (bodyD fn ys h0) (Rt v h) ∧ ClP fn.rs (untuple fn.rs.length v) h zs h'
def EvO (F : Nat → Option Ev.Fn) (f : Nat) (fn : Ev.Fn) (ys : List V) (sz : Nat) (es : List (List V)) : Prop :=
  F f = some fn ∧ fn.md = .pure ∧ Nat.beq ys.length fn.ps.length = true ∧
  ∃ v h t, fn.rs = [t] ∧ EvD F (bodyD fn ys h0) (Rt v h) ∧
    ((∃ h', closeP t v h = some (.vs sz es, h')) ∧
     ((∀ hp, ownP t v h hp = some (.hs hp.next 0 es.length, hnew hp ⟨sz, false, es⟩)) ∨ (es = [] ∧ ∀ hp, ownP t v h hp = some (.vs sz [], hp))))
theorem EvC.of {f : Nat} {fn : Ev.Fn} {ys xs zs : List V} {hp hp1 : Hp} (h : EvP F f fn ys zs) (hc : ClP fn.ps xs hp ys hp1) : EvC F false f xs hp (.ret (tuple zs) hp1) := by
  obtain ⟨h1, h2, h3, v, h, h', h4, h5⟩ := h
  refine EvC.pure h1 h2 hc.close h3 h4 ?_
  show (match closeAll fn.rs (untuple fn.rs.length v) h with | some (xs, _) => CR.ret (tuple xs) hp1 | none => CR.bad) = _
  rw [h5.close]
theorem EvO.toP {f : Nat} {fn : Ev.Fn} {ys : List V} {sz : Nat} {es : List (List V)} (h : EvO F f fn ys sz es) : EvP F f fn ys [.vs sz es] := by
  obtain ⟨h1, h2, h3, v, h, t, h4, h5, ⟨h', h6⟩, _⟩ := h
  refine ⟨h1, h2, h3, v, h, h', h5, ?_⟩
  rw [h4]
  cases t with
  | c t => exact .c h6 (.nil _)
  | g ts =>
    exfalso
    unfold closeP at h6
    cases v <;> simp at h6
    split at h6 <;> simp at h6
theorem EvC.ofO {f : Nat} {fn : Ev.Fn} {ys xs : List V} {sz : Nat} {es : List (List V)} {hp hp1 : Hp} (h : EvO F f fn ys sz es) (hc : ClP fn.ps xs hp ys hp1) :
    EvC F true f xs hp (.ret (.hs hp1.next 0 es.length) (hnew hp1 ⟨sz, false, es⟩)) ∨ (es = [] ∧ EvC F true f xs hp (.ret (.vs sz []) hp1)) := by
  obtain ⟨h1, h2, h3, v, h, t, h4, h5, _, h7 | ⟨h7, h8⟩⟩ := h
  · refine .inl (EvC.pure h1 h2 hc.close h3 h5 ?_)
    show back true fn hp1 (.ret v h) = _
    unfold back
    rw [h4]
    simp only [h7]
  · refine .inr ⟨h7, EvC.pure h1 h2 hc.close h3 h5 ?_⟩
    show back true fn hp1 (.ret v h) = _
    unfold back
    rw [h4]
    simp only [h8]
theorem EvD.pc {f : Nat} {fn : Ev.Fn} {ys xs zs : List V} {hp : Hp} {k : CR → D} {r : R} (h : EvP F f fn ys zs) {hp1 : Hp} (hc : ClP fn.ps xs hp ys hp1) (hk : EvD F (k (.ret (tuple zs) hp1)) r) :
    EvD F (.call false f xs hp k) r := .call (EvC.of h hc) hk
theorem EvD.oc {f : Nat} {fn : Ev.Fn} {ys xs : List V} {sz : Nat} {es : List (List V)} {hp : Hp} {k : CR → D} {r : R} (h : EvO F f fn ys sz es) {hp1 : Hp} (hc : ClP fn.ps xs hp ys hp1)
    (hk : EvD F (k (.ret (.hs hp1.next 0 es.length) (hnew hp1 ⟨sz, false, es⟩))) r) (hk0 : es = [] → EvD F (k (.ret (.vs sz []) hp1)) r) :
    EvD F (.call true f xs hp k) r := by
  rcases EvC.ofO h hc with q | ⟨q, q'⟩
  · exact .call q hk
  · exact .call q' (hk0 q)
theorem law_run {fn : Ev.Fn} {xs : List V} {v : V} {h : Hp} (hl : Nat.beq xs.length fn.ps.length = true) (h : EvD F (bodyD fn xs h0) (Rt v h)) : ∃ L n hp', runF (callF F L n) L fn xs h0 = .ret v hp' := by
  obtain ⟨L, n, e⟩ := EvC.run hl h rfl
  exact ⟨L, n, _, e⟩
end
theorem hnew_next (hp : Hp) (b : Bk) : (hnew hp b).next = hp.next + 1 := rfl
theorem hset_next (hp : Hp) (id : Nat) (b : Option Bk) : (hset hp id b).next = hp.next := rfl
theorem hnew_lim (hp : Hp) (b : Bk) : (hnew hp b).lim = hp.lim := rfl
theorem hset_lim (hp : Hp) (id : Nat) (b : Option Bk) : (hset hp id b).lim = hp.lim := rfl
theorem hget_new (hp : Hp) (b : Bk) : hget (hnew hp b) hp.next = some b := by rw [hget_hnew]; simp
theorem hget_old {hp : Hp} {b : Bk} {id : Nat} (h : id ≠ hp.next) : hget (hnew hp b) id = hget hp id := by rw [hget_hnew]; simp [h]
theorem hget_set (hp : Hp) (id : Nat) (b : Option Bk) : hget (hset hp id b) id = b := by rw [hget_hset]; simp
theorem hget_other {hp : Hp} {b : Option Bk} {id j : Nat} (h : j ≠ id) : hget (hset hp id b) j = hget hp j := by rw [hget_hset]; simp [h]
end Ev
namespace Ev
variable [Glob]
open Go Go.ChangeShapes Go.WideShapes Go.ChangeAt Go.RowKit
abbrev Par := Bool × List TD
def parOf (P : Program) (t : TypeId) : Option Par :=
  match P.underlying t with
  | some (.struct _) => (tdOf P 40 t).map fun ts => (true, ts)
  | some .bool | some (.int _) | some .string | some (.slice _) => (tdOf P 40 t).map fun ts => (false, ts)
  | _ => none
def parsOf (P : Program) : List TypeId → Option (List Par)
  | [] => some []
  | t :: r => match parOf P t, parsOf P r with
    | some p, some ps => some (p :: ps)
    | _, _ => none
inductive ShP : List Par → List V → Prop
  | nil : ShP [] []
  | one {t : TD} {v : V} {ps : List Par} {xs : List V} (h : Sh1 t v) (r : ShP ps xs) : ShP ((false, [t]) :: ps) (v :: xs)
  | grp {ts : List TD} {vs : List V} {ps : List Par} {xs : List V} (h : ShL ts vs) (r : ShP ps xs) : ShP ((true, ts) :: ps) (.ag vs :: xs)
def sizP : List V → Nat
  | [] => 0
  | .ag vs :: r => sizL vs + sizP r
  | v :: r => siz v + sizP r
theorem ShP.length {ps : List Par} {xs : List V} (h : ShP ps xs) : xs.length = ps.length := by
  induction h <;> simp_all
theorem Sh1.sizP {t : TD} {v : V} {r : List V} (h : Sh1 t v) : sizP (v :: r) = siz v + sizP r := by cases h <;> rfl
section
variable {H : Type} {enc : TypeId × Value → H} {P : Program} {w : World} {u : DataW H → Nat} {ul : List (DataW H) → Nat}
theorem param_read (hB : Bulk u ul) {base b0 : Nat} {sp : Nat → Bool} {hd : Bool} {t : TypeId} {v : Value} {d : DataW H} {ps : List MemPlace} {p : Par} (hp : parOf P t = some p)
    (hv : Value.okWide P w .any b0 t v) (h : DataW.Trod enc P w base sp hd t v d ps) :
    ∃ x, isLp x = false ∧ RepA ⟨kAll w, fun _ => .unb⟩ x v ∧ (∀ qs xs, ShP qs xs → ShP (p :: qs) (x :: xs)) ∧ ∀ xs, sizP (x :: xs) ≤ u d + sizP xs := by
  obtain ⟨n, h⟩ := h
  have single : ∀ ts, tdOf P 40 t = some ts → v.cells.toList = [v] → p = (false, ts) → ∃ x, isLp x = false ∧ RepA ⟨kAll w, fun _ => .unb⟩ x v ∧ (∀ qs xs, ShP qs xs → ShP (p :: qs) (x :: xs)) ∧ ∀ xs, sizP (x :: xs) ≤ u d + sizP xs := by
    intro ts hts hc hpe
    obtain ⟨vs, q1, q2, q3⟩ := data_read hB 40 n t _ d ps ts hts h
    rw [hc] at q1
    cases q1 with
    | cons a r =>
      cases r
      cases q2 with
      | cons b r2 =>
        cases r2
        refine ⟨_, b.keep.2, .c _ _ a, fun qs xs hx => hpe ▸ .one b hx, fun xs => ?_⟩
        rw [b.sizP]; simp only [sizL] at q3; omega
  unfold parOf at hp
  split at hp
  · rename_i fs ht
    simp only [Option.map_eq_some_iff] at hp
    obtain ⟨ts, hts, rfl⟩ := hp
    obtain ⟨cs, rfl, _⟩ := okWide_struct ht hv
    obtain ⟨vs, q1, q2, q3⟩ := data_read hB 40 n t _ d ps ts hts h
    have q1 : RepL (kAll w) vs cs.toList := q1
    refine ⟨.ag vs, rfl, .ag vs cs ?_ ?_ ?_, fun qs xs hx => .grp q2 hx, fun xs => ?_⟩
    · have := q1.length; simpa using this.symm
    · intro c hc
      obtain ⟨t, ht⟩ := q2.mem hc
      exact ht.keep.1
    · intro i c hc
      have := q1.get i c hc
      refine .c _ _ ?_
      simpa [Array.getD_eq_getD_getElem?, List.getD_eq_getElem?_getD] using this
    · simp only [sizP]; omega
  · rename_i ht
    simp only [Option.map_eq_some_iff] at hp
    obtain ⟨ts, hts, e⟩ := hp
    obtain ⟨b, rfl⟩ := okWide_bool ht hv
    exact single ts hts rfl e.symm
  · rename_i k ht
    simp only [Option.map_eq_some_iff] at hp
    obtain ⟨ts, hts, e⟩ := hp
    obtain ⟨b, rfl⟩ := okWide_int ht hv
    exact single ts hts rfl e.symm
  · rename_i ht
    simp only [Option.map_eq_some_iff] at hp
    obtain ⟨ts, hts, e⟩ := hp
    obtain ⟨b, rfl⟩ := okWide_string ht hv
    exact single ts hts rfl e.symm
  · rename_i el ht
    simp only [Option.map_eq_some_iff] at hp
    obtain ⟨ts, hts, e⟩ := hp
    obtain ⟨a, l, c, rfl⟩ := okWide_slice ht hv
    exact single ts hts rfl e.symm
  · cases hp
theorem params_read (hB : Bulk u ul) {base b0 : Nat} {sp : Nat → Bool} {hd : Bool} : ∀ (ts : List TypeId) (vs : List Value) (ds : List (DataW H)) (ps : List MemPlace) (pts : List Par),
    parsOf P ts = some pts → (∀ (j : Nat) t v, ts[j]? = some t → vs[j]? = some v → Value.okWide P w .any b0 t v) → DataW.TrodAll enc P w base sp hd ts vs ds ps →
    ∃ xs, ShP pts xs ∧ vs.length = xs.length ∧ (∀ x, x ∈ xs → isLp x = false) ∧ (∀ (i : Nat) (x : V), xs[i]? = some x → RepA ⟨kAll w, fun _ => .unb⟩ x (vs.getD i undef)) ∧ sizP xs ≤ ul ds ∧ ds.length = pts.length
  | [], vs, ds, ps, pts, hp, _, h => by
    simp only [parsOf, Option.some.injEq] at hp; subst hp
    obtain ⟨rfl, rfl, rfl⟩ := trodAll_nil h
    exact ⟨[], .nil, rfl, by simp, by simp, by simp [sizP], rfl⟩
  | t :: ts, vs, ds, ps, pts, hp, hv, h => by
    simp only [parsOf] at hp
    split at hp
    · rename_i p qs h1 h2
      simp only [Option.some.injEq] at hp; subst hp
      obtain ⟨v, vs', d, ds', p', q', rfl, rfl, rfl, g1, g2⟩ := trodAll_cons h
      obtain ⟨xs, a1, a2, a3, a4, a5, a6⟩ := params_read hB ts vs' ds' q' qs h2 (fun j t v x y => hv (j + 1) t v (by simpa using x) (by simpa using y)) g2
      obtain ⟨x, b1, b2, b3, b4⟩ := param_read hB h1 (hv 0 t v rfl rfl) g1
      refine ⟨x :: xs, b3 _ _ a1, by simp [a2], ?_, ?_, ?_, by simp [a6]⟩
      · intro y hy
        rcases List.mem_cons.1 hy with e | e
        · subst e; exact b1
        · exact a3 y e
      · intro i y hy
        cases i with
        | zero => simp at hy; subst hy; simpa using b2
        | succ i => simpa using a4 i y (by simpa using hy)
      · rw [hB.cons]; have := b4 xs; omega
    · cases hp
def smallB (P : Program) (f : Func) : Bool := f.params.toList.all fun t => decide (t < P.types.size)
theorem law_contract {F : Nat → Option Ev.Fn} {mds : Nat → Md} (T : Table P F mds) {n : Nat} {fn : Ev.Fn} (hF : F n = some fn) (hB : Bulk u ul) {f : Func} {s : ChangeSpec} {W : World} {args : Array Value} {ds gs : List (DataW H)}
    {before : List MemPlace} {tb b0 : Nat} {pts : List Par} (hpar : parsOf P f.params.toList = some pts)
    (hval : ∀ (j : Nat) t v, f.params[j]? = some t → args[j]? = some v → Value.okWide P W .any b0 t v)
    (hW : DataW.Whole enc P f.params.toList s.vars false W args.toList ds gs before) (hvars : s.vars = [])
    (hfn : ∀ ds : List (DataW H), ds.length = pts.length → s.fn H (ds ++ []) = { results := [.lit (.bool true)], args := ds }) (hrt : f.resultTypes = #[tb]) (htb : P.underlying tb = some .bool)
    (hlo : laidOutB P = true) (hmr : mapsRowed P = true) (hz : fullB P = true) (hpt : smallB P f = true) (hgl : GlobW ⟨kAll W, fun _ => .unb⟩ h0 W)
    (hrun : ∀ xs, ShP pts xs → sizP xs ≤ ul (ds ++ gs) → ∃ L k hp', runF (callF F L k) L fn xs h0 = .ret (.bo true) hp') :
    Calls P n args W fun e W' => ∃ v, e = .returned v ∧ s.post enc P f false true false false W args v W' := by
  have hW' := hW
  obtain ⟨p, q, hA, hV, _⟩ := hW
  rw [hvars] at hV
  obtain ⟨hgs, _⟩ := trodVars_none hV
  subst hgs
  obtain ⟨xs, h1, h2, h3, h4, h5, h6⟩ := params_read hB _ _ _ _ _ hpar (fun j t v x y => hval j t v (by simpa using x) (by simpa using y)) hA
  obtain ⟨L, k, hp', hr⟩ := hrun xs h1 (by rw [List.append_nil]; exact h5)
  have ha : Args ⟨kAll W, fun _ => .unb⟩ xs args := ⟨by simpa using h2, h3, fun i x hx => by
    have := h4 i x hx
    simpa [Array.getD_eq_getD_getElem?, List.getD_eq_getElem?_getD] using this⟩
  refine Calls.mono (law_calls T hF hgl ha hr) fun e W' ⟨he, hk⟩ => ⟨_, he, ?_⟩
  refine post_kept (tb := tb) hW' hvars ?_ hrt htb hlo hmr hz (fun t ht => by simpa using List.all_eq_true.1 (show (f.params.toList.all fun t => decide (t < P.types.size)) = true from hpt) t ht) hk
  exact hfn ds h6
end
end Ev