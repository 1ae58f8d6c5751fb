import Derived.Test.YtgofadnggipkpaaEvDraw
namespace Ev
open Go

/-- a region whose order is drawn, as it is read -/
structure Dc (P : Program) (pol : Pol) (ntm : Nat) (clr : List Nat) (ops : Array Oper) (call : Call) (p : List Nat) (od : Nat → DOp) : Prop where
  cov : ∀ i, i < ops.size → i ∈ p
  nd : ∀ k i, p[k]? = some i → i ∉ p.take k
  ord : ∀ k i o, p[k]? = some i → ops[i]? = some o → ∀ e, e ∈ o.after → Region.binds .any e = true → e.on ∈ p.take k
  rel : ∀ i, i ∈ p → ∃ op, Rel P pol ntm clr ops i (od i) op
  draw : ∀ k r i j, k < r → p[k]? = some i → p[r]? = some j → loose (Region.before ops) i j = true → pairOk (od i) (od j) = true ∧ (∀ z, z ∈ p.take k → leaves (od z) (od i) = true) ∧ ownOk (od i) = true
  us : ∀ i j, i ∈ p → j ∈ p → i ≠ j → loose (Region.before ops) i j = true → (od j).ins.minds = true → ∀ t, t ∈ (od i).ins.rd → t ∈ (od j).us
  kc : ∀ f, pol.mds f ≠ .rw → KeepC call f

structure Inv (P : Program) (call : Call) (L : Nat) (E : Ent) (ntm : Nat) (clr : List Nat) (ops : Array Oper) (p : List Nat) (od : Nat → DOp) (K : R → D) (r0 : R) (q : Nat) (listed : Array Bool) (st m : St) (a : Act) (w : World) : Prop where
  size : listed.size = ops.size
  closed : ∀ i o, listed.getD i false = true → ops[i]? = some o → ∀ e, e ∈ o.after → Region.binds .any e = true → listed.getD e.on false = true
  todo : ∀ k i, q ≤ k → p[k]? = some i → listed.getD i false = false
  run : run call L (evGs clr ((p.drop q).map fun i => sg (od i)) st K) = r0
  str : ∃ g ν, StR E ntm clr g ν m a w
  lo : m.lo = st.lo
  hp : m.hp = st.hp
  owed : ∀ k i d, k < q → p[k]? = some i → listed.getD i false = false → (od i).dst = some d → m.tm d = .un
  rest : ∀ t, (∀ k i, k < q → p[k]? = some i → listed.getD i false = false → (od i).dst ≠ some t) → m.tm t = st.tm t
  pend : ∀ k i, k < q → p[k]? = some i → listed.getD i false = false → Pend call L clr (od i) st ∧ (od i).ins.easy = true ∧ ownOk (od i) = true ∧ ∀ z, z ∈ p.take k → leaves (od z) (od i) = true

section
variable {P : Program} {pol : Pol} {call : Call} {L : Nat} {E : Ent} {ntm : Nat} {clr : List Nat} {ops : Array Oper} {p : List Nat} {od : Nat → DOp} {K : R → D} {r0 : R} {Q : Exit → Act → World → Prop}

theorem loose_symm {b : Array Nat} {i j : Nat} (h : loose b i j = true) : loose b j i = true := by
  unfold loose at *; rw [Nat.max_comm, Nat.min_comm]; exact h

theorem mem_take_lt {l : List Nat} {k i : Nat} (h : i ∈ l.take k) : ∃ m, m < k ∧ l[m]? = some i := by
  obtain ⟨m, hm⟩ := List.mem_iff_getElem?.1 h
  rw [List.getElem?_take] at hm
  split at hm
  · exact ⟨m, ‹_›, hm⟩
  · cases hm

theorem take_mem {l : List Nat} {k m i : Nat} (hm : m < k) (h : l[m]? = some i) : i ∈ l.take k :=
  List.mem_iff_getElem?.2 ⟨m, by rw [List.getElem?_take]; simp [hm, h]⟩

theorem Dc.lt (C : Dc P pol ntm clr ops call p od) {i : Nat} (h : i ∈ p) : i < ops.size := by
  obtain ⟨op, r⟩ := C.rel i h
  rcases Nat.lt_or_ge i ops.size with q | q
  · exact q
  · have := r.at_; simp [Array.getElem?_eq_none q] at this

theorem Dc.pos (C : Dc P pol ntm clr ops call p od) {k m i : Nat} (hk : p[k]? = some i) (hm : p[m]? = some i) : k = m := by
  rcases Nat.lt_trichotomy k m with q | q | q
  · exact absurd (take_mem q hk) (C.nd m i hm)
  · exact q
  · exact absurd (take_mem q hm) (C.nd k i hk)

/-- what stands ahead by the order stands ahead in the list -/
theorem Dc.before (C : Dc P pol ntm clr ops call p od) {i : Nat} : ∀ j k, p[k]? = some j → ((Region.before ops).getD j 0).testBit i = true → i ∈ p.take k := by
  intro j
  induction j using Nat.strongRecOn with
  | _ j ih =>
    intro k hk h
    obtain ⟨o, h1, e, h2, h3, h4⟩ := before_on h
    have hon := C.ord k j o hk h1 e h2 h3
    rcases h4 with rfl | ⟨h5, h6⟩
    · exact hon
    · obtain ⟨m, hm, hpm⟩ := mem_take_lt hon
      obtain ⟨m', hm', hpm'⟩ := mem_take_lt (ih e.on h5 m hpm h6)
      exact take_mem (Nat.lt_trans hm' hm) hpm'

theorem listed_closed {listed : Array Bool} (hc : ∀ i o, listed.getD i false = true → ops[i]? = some o → ∀ e, e ∈ o.after → Region.binds .any e = true → listed.getD e.on false = true) {i : Nat} :
    ∀ j, (∀ o, ops[j]? = some o → ∀ e, e ∈ o.after → Region.binds .any e = true → listed.getD e.on false = true) → ((Region.before ops).getD j 0).testBit i = true → listed.getD i false = true := by
  intro j
  induction j using Nat.strongRecOn with
  | _ j ih =>
    intro hj h
    obtain ⟨o, h1, e, h2, h3, h4⟩ := before_on h
    have hl := hj o h1 e h2 h3
    rcases h4 with rfl | ⟨h5, h6⟩
    · exact hl
    · exact ih e.on h5 (fun o' ho' => hc e.on o' hl ho') h6

/-- what isn't listed and stands ahead of one that is ready has no order with it -/
theorem Dc.loose_of (C : Dc P pol ntm clr ops call p od) {listed : Array Bool} (hc : ∀ i o, listed.getD i false = true → ops[i]? = some o → ∀ e, e ∈ o.after → Region.binds .any e = true → listed.getD e.on false = true)
    {k r i j : Nat} (hkr : k < r) (hk : p[k]? = some i) (hr : p[r]? = some j) (hi : listed.getD i false = false)
    (hj : ∀ o, ops[j]? = some o → ∀ e, e ∈ o.after → Region.binds .any e = true → listed.getD e.on false = true) : loose (Region.before ops) i j = true := by
  unfold loose
  cases hb : ((Region.before ops).getD (max i j) 0).testBit (min i j) with
  | false => rfl
  | true =>
    exfalso
    rcases Nat.lt_trichotomy i j with q | q | q
    · rw [Nat.max_eq_right (Nat.le_of_lt q), Nat.min_eq_left (Nat.le_of_lt q)] at hb
      rw [listed_closed hc j hj hb] at hi; cases hi
    · subst q
      exact absurd (C.pos hk hr) (by omega)
    · rw [Nat.max_eq_left (Nat.le_of_lt q), Nat.min_eq_right (Nat.le_of_lt q)] at hb
      obtain ⟨m, hm, hpm⟩ := mem_take_lt (C.before i k hk hb)
      exact absurd (C.pos hpm hr) (by omega)

theorem get_set {listed : Array Bool} {i j : Nat} (hi : i < listed.size) : (listed.setIfInBounds i true).getD j false = if j = i then true else listed.getD j false := by
  by_cases h : j = i
  · subst h; simp [Array.getD_eq_getD_getElem?, hi]
  · simp [Array.getD_eq_getD_getElem?, Ne.symm h, h]

theorem pairOk_spec {x y : DOp} (h : pairOk x y = true) : leaves x y = true ∧ dIn x.dst (y.ins.sl ++ y.gs) = false ∧ Ev.apart x.ins y.ins = true := by
  simp only [pairOk, Bool.and_eq_true, Bool.not_eq_true'] at h
  exact ⟨h.1.1, h.1.2, h.2⟩
theorem leaves_spec {x y : DOp} (h : leaves x y = true) : dIn y.dst (x.ins.sl ++ x.gs) = false ∧ sameD x.dst y.dst = false := by
  simpa [leaves] using h
theorem apart_easy {i j : I} (h : Ev.apart i j = true) : i.easy = true ∧ (i.cl = .p ∨ (i.cl = .r ∧ j.cl ≠ .x)) := by
  unfold Ev.apart at h
  cases hi : i.cl <;> simp only [hi] at h
  · exact ⟨by simp [I.easy, hi], .inl rfl⟩
  · refine ⟨by simp [I.easy, hi], .inr ⟨rfl, fun q => ?_⟩⟩
    rw [q] at h; cases h
  all_goals simp at h

theorem put_get {s : St} {dst : Option Nat} {v : V} {t : Nat} : (Ev.put s dst v).tm t = if dst = some t then v else s.tm t := by
  cases dst with
  | none => simp [Ev.put]
  | some d =>
    simp only [Ev.put, upd, Option.some.injEq]
    by_cases e : t = d
    · subst e; simp
    · simp [beqF e, Ne.symm e]
theorem put_lo {s : St} {dst : Option Nat} {v : V} : (Ev.put s dst v).lo = s.lo := by cases dst <;> rfl
theorem put_hp {s : St} {dst : Option Nat} {v : V} : (Ev.put s dst v).hp = s.hp := by cases dst <;> rfl

/-- an operation that is easy changes its slot alone -/
theorem AStep.easy {o : DOp} {st st' : St} (h : AStep call L clr o st st') (he : o.ins.easy = true) : ∃ v, st' = Ev.put st o.dst v ∧ ((wantA o st = some true ∧ DO call L (o.ins.den o.us clr (o.dst.getD 0) st) v st) ∨ (wantA o st = some false ∧ v = .tu [])) := by
  rcases h with ⟨h1, v, s, h2, h3, _, rfl⟩ | ⟨h1, rfl⟩
  · rw [h3 he] at h2 ⊢
    exact ⟨v, rfl, .inl ⟨h1, h2⟩⟩
  · exact ⟨_, rfl, .inr ⟨h1, rfl⟩⟩

/-- slots that are not known -/
theorem StR.un {g : G} {ν : Nat → Option Nat} {st st' : St} {a : Act} {w : World} (h : StR E ntm clr g ν st a w) (ht : ∀ t, st'.tm t = .un ∨ st'.tm t = st.tm t) (hl : st'.lo = st.lo) (hh : st'.hp = st.hp) : StR E ntm clr g ν st' a w := by
  refine ⟨h.size, h.defers, fun t => ?_, fun t d off x => ?_, ?_⟩
  · rcases ht t with q | q
    · rw [q]; exact RepA.un _
    · rw [q]; exact h.tm t
  · rcases ht t with q | q
    · rw [q] at x; cases x
    · rw [q] at x; exact h.lps t d off x
  · rw [hl, hh]; exact h.mem

theorem calls_kc (C : Dc P pol ntm clr ops call p od) {i : Nat} (hi : i ∈ p) : CallsK call (od i).ins := by
  obtain ⟨op, r⟩ := C.rel i hi
  have hc := r.ins
  refine ⟨fun own md f xs h hmd => C.kc f fun q => hmd ?_, fun fs f xs h g hg => C.kc g fun q => ?_⟩
  · rw [h] at hc
    unfold cIns at hc
    split at hc
    all_goals try (revert hc; repeat' split)
    all_goals try (intro hc; first | (simp only [reduceCtorEq] at hc; done) | (simp only [Option.some.injEq, reduceCtorEq] at hc; done) | (simp only [Option.map_eq_some_iff, reduceCtorEq, and_false, exists_false] at hc; done))
    all_goals (intro hc; simp only [Option.some.injEq, I.call.injEq] at hc; obtain ⟨_, rfl, rfl, _⟩ := hc; exact q)
  · rw [h] at hc
    unfold cIns at hc
    split at hc
    all_goals try (revert hc; repeat' split)
    all_goals try (intro hc; first | (simp only [reduceCtorEq] at hc; done) | (simp only [Option.some.injEq, reduceCtorEq] at hc; done) | (simp only [Option.map_eq_some_iff, reduceCtorEq, and_false, exists_false] at hc; done))
    intro hc
    simp only [Option.map_eq_some_iff, I.calv.injEq] at hc
    obtain ⟨_, _, rfl, _, _⟩ := hc
    cases hall : pol.fns.all (fun g => notRw (pol.mds g)) with
    | false => simp [hall, hasN] at hg
    | true =>
      simp only [hall, cond_true] at hg
      have := List.all_eq_true.1 hall g (hasN_mem hg)
      rw [q] at this; simp [notRw] at this

/-- one operation is put off -/
theorem Inv.advance (C : Dc P pol ntm clr ops call p od) (hb : r0 ≠ .bad) (hkp : ∀ v s, Ev.run call L (K (.pan v s)) = .bad) {q : Nat} {listed : Array Bool} {st m : St} {a : Act} {w : World}
    (h : Inv P call L E ntm clr ops p od K r0 q listed st m a w) {r j : Nat} (hqr : q < r) (hr : p[r]? = some j)
    (hj : ∀ o, ops[j]? = some o → ∀ e, e ∈ o.after → Region.binds .any e = true → listed.getD e.on false = true) : ∃ st' m', Inv P call L E ntm clr ops p od K r0 (q + 1) listed st' m' a w := by
  have hq : q < p.length := by
    rcases Nat.lt_or_ge r p.length with z | z
    · omega
    · simp [List.getElem?_eq_none z] at hr
  have hpx : p[q]? = some p[q] := List.getElem?_eq_getElem hq
  generalize hx : p[q] = x at hpx
  have hxm : x ∈ p := List.mem_of_getElem? hpx
  have hun := h.todo q x (Nat.le_refl _) hpx
  have hloose := C.loose_of h.closed hqr hpx hr hun hj
  obtain ⟨h1, h2, h3⟩ := C.draw q r x j hqr hpx hr hloose
  obtain ⟨h4, h5, h6⟩ := pairOk_spec h1
  obtain ⟨he, _⟩ := apart_easy h6
  obtain ⟨g, ν, hstr⟩ := h.str
  have hdrop : p.drop q = x :: p.drop (q + 1) := by rw [List.drop_eq_getElem_cons hq, hx]
  have hrun := h.run
  rw [hdrop, List.map_cons] at hrun
  have hn : HpNil st.hp := by have := hstr.mem.hr.nil; rw [h.hp] at this; exact this
  obtain ⟨st', hst, hrun'⟩ := evGs_step hn (calls_kc C hxm) hkp hrun hb
  obtain ⟨v, hv, hw⟩ := hst.easy he
  have hown : dIn (od x).dst ((od x).ins.sl ++ (od x).gs) = false := by
    simp only [ownOk, Bool.and_eq_true, Bool.not_eq_true'] at h3; exact h3.1
  have htm : ∀ t, (od x).dst ≠ some t → st'.tm t = st.tm t := fun t ht => by rw [hv, put_get]; simp [ht]
  have hlo : st'.lo = st.lo := by rw [hv, put_lo]
  have hhp : st'.hp = st.hp := by rw [hv, put_hp]
  refine ⟨st', ⟨fun t => if (od x).dst = some t then .un else m.tm t, m.lo, m.hp⟩, ⟨h.size, h.closed, fun k i hk => h.todo k i (by omega), hrun', ⟨g, ν, hstr.un (fun t => ?_) rfl rfl⟩, h.lo.trans hlo.symm, h.hp.trans hhp.symm, ?_, ?_, ?_⟩⟩
  · simp only []; split
    · exact .inl rfl
    · exact .inr rfl
  · intro k i d hk hi hl hd
    simp only []
    split
    · rfl
    · rename_i hne
      have : k ≠ q := fun e => by subst e; rw [hpx] at hi; cases hi; exact hne hd
      exact h.owed k i d (by omega) hi hl hd
  · intro t ht
    have h7 : (od x).dst ≠ some t := ht q x (by omega) hpx hun
    simp only [h7, if_false]
    rw [htm t h7]
    exact h.rest t fun k i hk => ht k i (by omega)
  · intro k i hk hi hl
    by_cases hkq : k = q
    · subst hkq; rw [hpx] at hi; cases hi
      refine ⟨?_, he, h3, h2⟩
      have hslots : ∀ t, t ∈ (od x).ins.sl ++ (od x).gs → st'.tm t = st.tm t := fun t ht => htm t (dIn_not hown ht)
      rcases hw with ⟨w1, w2⟩ | ⟨w1, rfl⟩
      · refine .inl ⟨(wantA_eq fun t ht => hslots t (by simp [ht])).trans w1, v, ?_, fun d hd => by rw [hv, put_get]; simp [hd]⟩
        rcases easy_frame (call := call) (L := L) (st := st) (st' := st') (us := (od x).us) (us' := (od x).us) (clr := clr) (d := (od x).dst.getD 0) he (fun t ht => hslots t (by simp [ht])) (fun y _ => same_refl hlo hhp _) with hbd | ⟨v', k1, k2⟩
        · exact (w2.not_bad hbd).elim
        · have : v = v' := (w2.val_eq (fun k kp _ => k1 k kp)).1
          subst this
          exact fun k kp _ => k2 k kp
      · exact .inr ⟨(wantA_eq fun t ht => hslots t (by simp [ht])).trans w1, fun d hd => by rw [hv, put_get]; simp [hd]⟩
    · obtain ⟨k1, k2, k3, k4⟩ := h.pend k i (by omega) hi hl
      refine ⟨?_, k2, k3, k4⟩
      obtain ⟨l1, l2⟩ := leaves_spec (h2 i (take_mem (by omega) hi))
      refine k1.step k2 (fun t ht => htm t (dIn_not l1 ht)) (fun d hd => htm d (sameD_not l2 hd)) (fun y _ _ => same_refl hlo hhp _)

end
end Ev
