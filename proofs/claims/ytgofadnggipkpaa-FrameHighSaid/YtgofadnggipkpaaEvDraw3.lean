import Derived.Test.YtgofadnggipkpaaEvDraw2
namespace Ev
open Go
section
variable {P : Program} {pol : Pol} {call : Call} {L : Nat} {E : Ent} {ntm : Nat} {clr : List Nat} {ops : Array Oper} {p : List Nat} {od : Nat → DOp} {K : R → D} {r0 : R} {Q : Exit → Act → World → Prop}

theorem wantA_real {i : Nat} {o : DOp} {op : Oper} (r : Rel P pol ntm clr ops i o op) {g : G} {ν : Nat → Option Nat} {m : St} {a : Act} {w : World} (hs : StR E ntm clr g ν m a w) {b : Bool} (h : wantA o m = some b) : Region.wanted op (yielded ops a.tmps) = b := by
  unfold wantA at h
  cases hgd : o.gd with
  | none => simp only [hgd, Option.some.injEq] at h; rw [wanted_none r hgd, h]
  | some q =>
    obtain ⟨t, w'⟩ := q
    simp only [hgd] at h
    obtain ⟨h1, h2⟩ := wanted_some r hgd (tmps := a.tmps)
    have h3 := hs.tm t
    split at h
    · rename_i b' hv
      rw [hv] at h3
      rw [h1 b' (RepA.bo_inv h3)]; simpa using h
    · rename_i hv
      rw [hv] at h3
      obtain ⟨x, hx⟩ := h3.tup_nil
      rw [h2 x hx]; simpa using h
    · cases h

theorem Same.congr {st s st' : St} {u : V} (h : Same st s u) (hl : st'.lo = s.lo) (hh : st'.hp = s.hp) : Same st st' u := by
  cases u <;> simp only [Same, hl, hh] at * <;> exact h

theorem getD_set_mono {listed : Array Bool} {i j : Nat} (hi : i < listed.size) (h : listed.getD j false = true) : (listed.setIfInBounds i true).getD j false = true := by
  rw [get_set hi]; split
  · rfl
  · exact h

theorem getD_set_un {listed : Array Bool} {i j : Nat} (hi : i < listed.size) (h : (listed.setIfInBounds i true).getD j false = false) : j ≠ i ∧ listed.getD j false = false := by
  rw [get_set hi] at h
  split at h
  · cases h
  · exact ⟨‹_›, h⟩

/-- what makes an operation ready -/
structure Rdy (ops : Array Oper) (listed : Array Bool) (i : Nat) : Prop where
  un : listed.getD i false = false
  pre : ∀ o, ops[i]? = some o → ∀ e, e ∈ o.after → Region.binds .any e = true → listed.getD e.on false = true

theorem Inv.closed' {q : Nat} {listed : Array Bool} {st m : St} {a : Act} {w : World} (h : Inv P call L E ntm clr ops p od K r0 q listed st m a w) {i : Nat} (hi : i < listed.size) (hr : Rdy ops listed i) :
    ∀ j o, (listed.setIfInBounds i true).getD j false = true → ops[j]? = some o → ∀ e, e ∈ o.after → Region.binds .any e = true → (listed.setIfInBounds i true).getD e.on false = true := by
  intro j o hj ho e he hbn
  refine getD_set_mono hi ?_
  rw [get_set hi] at hj
  split at hj
  · rename_i q; subst q; exact hr.pre o ho e he hbn
  · exact h.closed j o hj ho e he hbn

/-- one that is owed is done -/
theorem Inv.owe (hcall : CallOK P call) (C : Dc P pol ntm clr ops call p od) {q : Nat} {listed : Array Bool} {st m : St} {a : Act} {w : World}
    (h : Inv P call L E ntm clr ops p od K r0 q listed st m a w) {k i : Nat} (hk : k < q) (hp : p[k]? = some i) (hr : Rdy ops listed i) {N : Act → World → Prop}
    (hN : ∀ st m a w, Inv P call L E ntm clr ops p od K r0 q (listed.setIfInBounds i true) st m a w → N a w) : wpOp P ops Q i N a w := by
  have him : i ∈ p := List.mem_of_getElem? hp
  have hil : i < listed.size := by rw [h.size]; exact C.lt him
  obtain ⟨op, rel⟩ := C.rel i him
  obtain ⟨hpd, he, hown, hearly⟩ := h.pend k i hk hp hr.un
  obtain ⟨g, ν, hs⟩ := h.str
  have hother : ∀ k' i', k' < q → p[k']? = some i' → listed.getD i' false = false → i' ≠ i → dIn (od i').dst ((od i).ins.sl ++ (od i).gs) = false ∧ (∀ d, (od i').dst = some d → (od i).dst ≠ some d) := by
    intro k' i' hk' hp' hl' hne
    have hkk : k' ≠ k := fun e => by subst e; rw [hp] at hp'; cases hp'; exact hne rfl
    rcases Nat.lt_or_ge k' k with z | z
    · have hlo := C.loose_of h.closed z hp' hp hl' hr.pre
      obtain ⟨h1, _, _⟩ := C.draw k' k i' i z hp' hp hlo
      obtain ⟨h4, h5, _⟩ := pairOk_spec h1
      exact ⟨h5, fun d hd => sameD_not (leaves_spec h4).2 hd⟩
    · obtain ⟨_, _, _, h4⟩ := h.pend k' i' hk' hp' hl'
      obtain ⟨l1, l2⟩ := leaves_spec (h4 i (take_mem (by omega) hp))
      exact ⟨l1, fun d hd hd' => sameD_not l2 hd' hd⟩
  have hownd : dIn (od i).dst ((od i).ins.sl ++ (od i).gs) = false := by
    simp only [ownOk, Bool.and_eq_true, Bool.not_eq_true'] at hown; exact hown.1
  have hslots : ∀ t, t ∈ (od i).ins.sl ++ (od i).gs → m.tm t = st.tm t := fun t ht => h.rest t fun k' i' hk' hp' hl' => by
    by_cases hne : i' = i
    · subst hne; exact dIn_not hownd ht
    · exact dIn_not (hother k' i' hk' hp' hl' hne).1 ht
  have next : ∀ v, (∀ d, (od i).dst = some d → st.tm d = v) → ∀ cv w' g' ν', StR E ntm clr g' ν' (Ev.put m (od i).dst v) (a.put op.dst cv) w' → N (a.put op.dst cv) w' := by
    intro v hv cv w' g' ν' hs'
    refine hN st (Ev.put m (od i).dst v) _ _ ⟨by simpa using h.size, h.closed' hil hr, fun k' i' hk' hp' => ?_, h.run, ⟨g', ν', hs'⟩, put_lo.trans h.lo, put_hp.trans h.hp, ?_, ?_, ?_⟩
    · have hne : i' ≠ i := fun e => by subst e; have := C.pos hp hp'; omega
      rw [get_set hil]; simp only [hne, if_false]; exact h.todo k' i' hk' hp'
    · intro k' i' d hk' hp' hl' hd
      obtain ⟨hne, hl⟩ := getD_set_un hil hl'
      rw [put_get]
      simp only [(hother k' i' hk' hp' hl hne).2 d hd, if_false]
      exact h.owed k' i' d hk' hp' hl hd
    · intro t ht
      rw [put_get]
      by_cases hd : (od i).dst = some t
      · simp only [hd, if_true]; exact (hv t hd).symm
      · simp only [hd, if_false]
        refine h.rest t fun k' i' hk' hp' hl => ?_
        by_cases hne : i' = i
        · subst hne; exact hd
        · exact ht k' i' hk' hp' (by rw [get_set hil]; simp only [hne, if_false]; exact hl)
    · intro k' i' hk' hp' hl'
      exact h.pend k' i' hk' hp' (getD_set_un hil hl').2
  unfold wpOp
  simp only [rel.at_]
  have hwm : wantA (od i) m = wantA (od i) st := wantA_eq fun t ht => hslots t (by simp [ht])
  rcases hpd with ⟨h1, v, h2, h3⟩ | ⟨h1, h2⟩
  · rw [wantA_real rel hs (hwm.trans h1)]
    simp only [if_true]
    refine .inl ?_
    have hdo : ∀ k kp, Ev.run call L ((od i).ins.den (od i).us clr ((od i).dst.getD 0) m k kp) = Ev.run call L (k v m) := by
      rcases easy_frame (call := call) (L := L) (st := st) (st' := m) (us := (od i).us) (us' := (od i).us) (clr := clr) (d := (od i).dst.getD 0) he (fun t ht => hslots t (by simp [ht])) (fun y _ => same_refl h.lo h.hp _) with hbd | ⟨v', k1, k2⟩
      · exact (h2.not_bad hbd).elim
      · have : v = v' := (h2.val_eq (fun k kp _ => k1 k kp)).1
        subst this; exact k2
    have hrun := hdo (fun v s => .done (.norm (Ev.put s (od i).dst v))) (fun _ _ => .bad)
    refine op_ok (e := ⟨P, E, ntm, clr, (od i).dst, g, ν, m, a, w, op, call, L⟩) hs hcall (pol := pol) (i := (od i).ins) (d := (od i).dst.getD 0) (us := (od i).us) rel.ins rel.dst (fun d' hd' => by have z : (od i).dst = some d' := hd'; simp [z]) rel.us hrun (by simp [Ev.run]) ?_ ?_
    · intro v2 s2 cv w' g' ν' hrun2 ha
      have hst := hs.put rel.less ha
      simp only [Ev.run, R.norm.injEq] at hrun2
      rw [hrun2] at hst
      show N (a.put op.dst cv) w'
      rw [rel.dst] at hst
      rw [← rel.dst] at hst
      have hst' : StR E ntm clr g' ν' (Ev.put m (od i).dst v) (a.put op.dst cv) w' := by rw [← rel.dst]; exact hst
      exact next v h3 cv w' g' ν' hst'
    · intro v2 s2 cv w' g' hrun2 _
      simp [Ev.run] at hrun2
  · rw [wantA_real rel hs (hwm.trans h1)]
    simp only [Bool.false_eq_true, if_false]
    have hst := hs.skip rel.less
    rw [rel.dst] at hst
    have hst' : StR E ntm clr g ν (Ev.put m (od i).dst (.tu [])) (a.put op.dst undef) w := by rw [rel.dst]; exact hst
    exact next (.tu []) h2 undef w g ν hst'

/-- the next one in the list is done -/
theorem Inv.take (hcall : CallOK P call) (C : Dc P pol ntm clr ops call p od) (hb : r0 ≠ .bad) (hkp : ∀ v s, Ev.run call L (K (.pan v s)) = .bad) {q : Nat} {listed : Array Bool} {st m : St} {a : Act} {w : World}
    (h : Inv P call L E ntm clr ops p od K r0 q listed st m a w) {j : Nat} (hp : p[q]? = some j) (hr : Rdy ops listed j) {N : Act → World → Prop}
    (hN : ∀ st m a w, Inv P call L E ntm clr ops p od K r0 (q + 1) (listed.setIfInBounds j true) st m a w → N a w) : wpOp P ops Q j N a w := by
  have hjm : j ∈ p := List.mem_of_getElem? hp
  have hjl : j < listed.size := by rw [h.size]; exact C.lt hjm
  have hq : q < p.length := lt_of_get hp
  obtain ⟨op, rel⟩ := C.rel j hjm
  obtain ⟨g, ν, hs⟩ := h.str
  have hdrop : p.drop q = j :: p.drop (q + 1) := by
    rw [List.drop_eq_getElem_cons hq]
    have : p[q] = j := by rw [List.getElem?_eq_getElem hq] at hp; simpa using hp
    rw [this]
  have hrun := h.run
  rw [hdrop, List.map_cons] at hrun
  have hn : HpNil st.hp := by have := hs.mem.hr.nil; rw [h.hp] at this; exact this
  obtain ⟨st', hst, hrun'⟩ := evGs_step hn (calls_kc C hjm) hkp hrun hb
  have hother : ∀ k' i', k' < q → p[k']? = some i' → listed.getD i' false = false → i' ≠ j ∧ pairOk (od i') (od j) = true ∧ loose (Region.before ops) i' j = true := by
    intro k' i' hk' hp' hl'
    have hlo := C.loose_of h.closed hk' hp' hp hl' hr.pre
    obtain ⟨h1, _, _⟩ := C.draw k' q i' j hk' hp' hp hlo
    exact ⟨fun e => by subst e; have := C.pos hp' hp; omega, h1, hlo⟩
  have hslots : ∀ t, t ∈ (od j).ins.sl ++ (od j).gs → m.tm t = st.tm t := fun t ht => h.rest t fun k' i' hk' hp' hl' =>
    dIn_not (pairOk_spec (hother k' i' hk' hp' hl').2.1).2.1 ht
  have hun : ∀ t, m.tm t = st.tm t ∨ m.tm t = .un := fun t => by
    by_cases hc : ∀ k i, k < q → p[k]? = some i → listed.getD i false = false → (od i).dst ≠ some t
    · exact .inl (h.rest t hc)
    · simp only [Classical.not_forall] at hc
      obtain ⟨k', i', h1, h2, h3, h4⟩ := hc
      exact .inr (h.owed k' i' t h1 h2 h3 (Classical.not_not.1 h4))
  have hwm : wantA (od j) m = wantA (od j) st := wantA_eq fun t ht => hslots t (by simp [ht])
  have next : ∀ v s, s.tm = st.tm → (∀ i', i' ∈ p → loose (Region.before ops) i' j = true → i' ≠ j → (od i').ins.cl = .r → (od j).ins.cl ≠ .x → ∀ t, t ∈ (od i').ins.rd → Same st s (st.tm t)) → st' = Ev.put s (od j).dst v →
      ∀ cv w' g' ν', StR E ntm clr g' ν' (Ev.put ⟨m.tm, s.lo, s.hp⟩ (od j).dst v) (a.put op.dst cv) w' → N (a.put op.dst cv) w' := by
    intro v s hstm hkeep hst' cv w' g' ν' hs'
    refine hN st' (Ev.put ⟨m.tm, s.lo, s.hp⟩ (od j).dst v) _ _ ⟨by simpa using h.size, h.closed' hjl hr, fun k' i' hk' hp' => ?_, hrun', ⟨g', ν', hs'⟩, ?_, ?_, ?_, ?_, ?_⟩
    · have hne : i' ≠ j := fun e => by subst e; have := C.pos hp hp'; omega
      rw [get_set hjl]; simp only [hne, if_false]; exact h.todo k' i' (by omega) hp'
    · rw [hst', put_lo, put_lo]
    · rw [hst', put_hp, put_hp]
    · intro k' i' d hk' hp' hl' hd
      obtain ⟨hne, hl⟩ := getD_set_un hjl hl'
      have hkq : k' ≠ q := fun e => by subst e; rw [hp] at hp'; cases hp'; exact hne rfl
      rw [put_get]
      have hds : (od j).dst ≠ some d := sameD_not (leaves_spec (pairOk_spec (hother k' i' (by omega) hp' hl).2.1).1).2 hd
      simp only [hds, if_false]
      exact h.owed k' i' d (by omega) hp' hl hd
    · intro t ht
      rw [hst', put_get, put_get]
      by_cases hd : (od j).dst = some t
      · simp only [hd, if_true]
      · simp only [hd, if_false]
        rw [hstm]
        refine h.rest t fun k' i' hk' hp' hl => ?_
        have hne := (hother k' i' hk' hp' hl).1
        exact ht k' i' (by omega) hp' (by rw [get_set hjl]; simp only [hne, if_false]; exact hl)
    · intro k' i' hk' hp' hl'
      obtain ⟨hne, hl⟩ := getD_set_un hjl hl'
      have hkq : k' ≠ q := fun e => by subst e; rw [hp] at hp'; cases hp'; exact hne rfl
      obtain ⟨k1, k2, k3, k4⟩ := h.pend k' i' (by omega) hp' hl
      obtain ⟨_, hpo, hlo⟩ := hother k' i' (by omega) hp' hl
      obtain ⟨h4, h5, h6⟩ := pairOk_spec hpo
      obtain ⟨l1, l2⟩ := leaves_spec h4
      refine ⟨?_, k2, k3, k4⟩
      refine k1.step k2 (fun t ht => ?_) (fun d hd => ?_) ?_
      · rw [hst', put_get]; simp only [dIn_not l1 ht, if_false]; rw [hstm]
      · rw [hst', put_get]; simp only [sameD_not l2 hd, if_false]; rw [hstm]
      · rcases (apart_easy h6).2 with hcp | ⟨hcr, hnx⟩
        · exact p_same hcp
        · intro x hx _
          have hko : (od i').ins.rdA.all constOk = true := by simp only [ownOk, Bool.and_eq_true] at k3; exact k3.2
          refine Same.congr (s := s) (rd_same hko (fun t ht => hkeep i' (List.mem_of_getElem? hp') hlo hne hcr hnx t ht) x hx) ?_ ?_
          · rw [hst', put_lo]
          · rw [hst', put_hp]
  unfold wpOp
  simp only [rel.at_]
  rcases hst with ⟨h1, v, s, h2, h3, h4, h5⟩ | ⟨h1, h2⟩
  · rw [wantA_real rel hs (hwm.trans h1)]
    simp only [if_true]
    refine .inl ?_
    have heta : (⟨st.tm, st.lo, st.hp⟩ : St) = st := rfl
    have hmeta : (⟨m.tm, st.lo, st.hp⟩ : St) = m := by rw [← h.lo, ← h.hp]
    have hstm : s.tm = st.tm := by
      have fr := frame (call := call) (L := L) (tm := st.tm) (tm' := st.tm) (lo := st.lo) (hp := st.hp) (i := (od j).ins) (us := (od j).us) (us' := (od j).us) (clr := clr) (d := (od j).dst.getD 0) (fun _ _ => rfl) (fun t ht => ⟨ht, .inl rfl⟩)
      rcases fr with hbd | fr
      · exact (h2.not_bad hbd).elim
      · have h6 : DO call L ((od j).ins.den (od j).us clr ((od j).dst.getD 0) st) v ⟨st.tm, s.lo, s.hp⟩ := fun k kp hk => by
          have := fr k kp
          rw [heta] at this
          rw [this]
          exact h2 _ _ fun v s => hk v _
        have h7 := (h2.val_eq h6).2
        rw [h7]
    have fr := frame (call := call) (L := L) (tm := st.tm) (tm' := m.tm) (lo := st.lo) (hp := st.hp) (i := (od j).ins) (us := (od j).us) (us' := (od j).us) (clr := clr) (d := (od j).dst.getD 0) (fun t ht => hslots t (by simp [ht])) (fun t ht => ⟨ht, hun t⟩)
    rcases fr with hbd | fr
    · exact (h2.not_bad hbd).elim
    · rw [heta, hmeta] at fr
      have hrun2 := fr (fun v s => .done (.norm (Ev.put ⟨m.tm, s.lo, s.hp⟩ (od j).dst v))) (fun _ _ => .bad)
      rw [h2 _ _ (fun _ _ => rfl)] at hrun2
      refine op_ok (e := ⟨P, E, ntm, clr, (od j).dst, g, ν, m, a, w, op, call, L⟩) hs hcall (pol := pol) (i := (od j).ins) (d := (od j).dst.getD 0) (us := (od j).us) rel.ins rel.dst (fun d' hd' => by have z : (od j).dst = some d' := hd'; simp [z]) rel.us hrun2.symm (by simp [Ev.run]) ?_ ?_
      · intro v2 s2 cv w' g' ν' hrun3 ha
        have hst := hs.put rel.less ha
        simp only [Ev.run, R.norm.injEq] at hrun3
        have hs2 : (⟨m.tm, s2.lo, s2.hp⟩ : St) = s2 := by have := ha.tmeq; simp only [] at this; rw [← this]
        rw [hs2] at hrun3
        have hst' : StR E ntm clr g' ν' (Ev.put ⟨m.tm, s.lo, s.hp⟩ (od j).dst v) (a.put op.dst cv) w' := by rw [← rel.dst, ← hrun3]; exact hst
        refine next v s hstm ?_ h5 cv w' g' ν' hst'
        intro i' hi' hlo hne _ hnx t ht
        exact h4 hnx _ fun hm => ⟨t, C.us i' j hi' hjm hne hlo hm t ht, rfl⟩
      · intro v2 s2 cv w' g' hrun3 _
        simp [Ev.run] at hrun3
  · rw [wantA_real rel hs (hwm.trans h1)]
    simp only [Bool.false_eq_true, if_false]
    have hst := hs.skip rel.less
    have hmeta : (⟨m.tm, st.lo, st.hp⟩ : St) = m := by rw [← h.lo, ← h.hp]
    have hst' : StR E ntm clr g ν (Ev.put ⟨m.tm, st.lo, st.hp⟩ (od j).dst (.tu [])) (a.put op.dst undef) w := by rw [hmeta, ← rel.dst]; exact hst
    exact next (.tu []) st rfl (fun _ _ _ _ _ _ t _ => same_refl rfl rfl _) h2 undef w g ν hst'

theorem countP_lt {p' p0 : Nat → Bool} (himp : ∀ x, p' x = true → p0 x = true) : ∀ (l : List Nat) (i : Nat), i ∈ l → p0 i = true → p' i = false → l.countP p' < l.countP p0 := by
  intro l
  have hle : ∀ l : List Nat, l.countP p' ≤ l.countP p0 := by
    intro l
    induction l with
    | nil => simp
    | cons a r ih =>
      simp only [List.countP_cons]
      cases h : p' a with
      | false => simp; omega
      | true => simp [himp a h]; omega
  induction l with
  | nil => intro i h; cases h
  | cons a r ih =>
    intro i hi h1 h2
    simp only [List.countP_cons]
    rcases List.mem_cons.1 hi with rfl | hi
    · have := hle r; simp [h1, h2]; omega
    · have := ih i hi h1 h2
      cases h : p' a with
      | false => simp; omega
      | true => simp [himp a h]; omega

theorem draw_any (hcall : CallOK P call) (C : Dc P pol ntm clr ops call p od) (hb : r0 ≠ .bad) (hkp : ∀ v s, Ev.run call L (K (.pan v s)) = .bad)
    (hQ : ∀ st a w g ν, StR E ntm [] g ν st a w → Ev.run call L (K (.norm st)) = r0 → Q .normal a w) :
    ∀ fuel q listed st m a w, Inv P call L E ntm clr ops p od K r0 q listed st m a w → (List.range ops.size).countP (fun i => !listed.getD i false) ≤ fuel → wpAny P .any ops Q fuel listed a w := by
  have ready_of : ∀ {q listed st m a w}, Inv P call L E ntm clr ops p od K r0 q listed st m a w → ∀ (k i : Nat), p[k]? = some i → listed.getD i false = false → (∀ x, x ∈ p.take k → listed.getD x false = true) → i ∈ Region.ready .any ops listed := by
    intro q listed st m a w h k i hk hl hx
    have him := List.mem_of_getElem? hk
    obtain ⟨op, rel⟩ := C.rel i him
    rw [mem_ready]
    refine ⟨?_, op, rel.at_, fun e he hbn => hx _ (C.ord k i op hk rel.at_ e he hbn)⟩
    have hil : i < listed.size := by rw [h.size]; exact C.lt him
    rw [Array.getD_eq_getD_getElem?, Array.getElem?_eq_getElem hil] at hl ⊢
    exact hl
  have done : ∀ {q listed st m a w}, Inv P call L E ntm clr ops p od K r0 q listed st m a w → Region.ready .any ops listed = [] → Q .normal a w := by
    intro q listed st m a w h hnil
    have hall : ∀ (k i : Nat), p[k]? = some i → listed.getD i false = true := by
      intro k
      induction k using Nat.strongRecOn with
      | _ k ih =>
        intro i hk
        cases hl : listed.getD i false with
        | true => rfl
        | false =>
          have := ready_of h k i hk hl fun x hx => by
            obtain ⟨m', hm', hpm'⟩ := mem_take_lt hx
            exact ih m' hm' x hpm'
          rw [hnil] at this; cases this
    have hq : p.length ≤ q := by
      rcases Nat.lt_or_ge q p.length with z | z
      · have h1 := h.todo q p[q] (Nat.le_refl _) (List.getElem?_eq_getElem z)
        rw [hall q p[q] (List.getElem?_eq_getElem z)] at h1; cases h1
      · exact z
    have hrun := h.run
    rw [List.drop_eq_nil_of_le hq] at hrun
    simp only [List.map_nil, evGs] at hrun
    obtain ⟨g, ν, hs⟩ := h.str
    have hm : m = st := by
      have : m.tm = st.tm := by
        funext t
        refine h.rest t fun k i hk hp hl => ?_
        rw [hall k i hp] at hl; cases hl
      cases m; cases st
      simp only [St.mk.injEq]
      exact ⟨this, h.lo, h.hp⟩
    subst hm
    exact hQ _ a w g ν hs.clear hrun
  intro fuel
  induction fuel with
  | zero =>
    intro q listed st m a w h hc
    have hnil : Region.ready .any ops listed = [] := by
      cases hr : Region.ready .any ops listed with
      | nil => rfl
      | cons x xs =>
        exfalso
        have hx : x ∈ Region.ready .any ops listed := by rw [hr]; simp
        obtain ⟨h1, o, ho, _⟩ := mem_ready.1 hx
        have hxs : x < ops.size := (Array.getElem?_eq_some_iff.1 ho).1
        have hxl : x < listed.size := by rw [h.size]; exact hxs
        have : listed.getD x false = false := by
          rw [Array.getD_eq_getD_getElem?, Array.getElem?_eq_getElem hxl] at h1 ⊢; exact h1
        have h0 : (List.range ops.size).countP (fun i => !listed.getD i false) = 0 := by omega
        rw [List.countP_eq_zero] at h0
        have := h0 x (List.mem_range.2 hxs)
        simp_all
    exact ⟨hnil, done h hnil⟩
  | succ fuel ih =>
    intro q listed st m a w h hc
    refine ⟨fun hnil => done h hnil, fun i hi => ?_⟩
    obtain ⟨h1, o, ho, hpre⟩ := mem_ready.1 hi
    have his : i < ops.size := (Array.getElem?_eq_some_iff.1 ho).1
    have hil : i < listed.size := by rw [h.size]; exact his
    have hun : listed.getD i false = false := by
      rw [Array.getD_eq_getD_getElem?, Array.getElem?_eq_getElem hil] at h1 ⊢; exact h1
    have hr : Rdy ops listed i := ⟨hun, fun o' ho' => by rw [ho] at ho'; cases ho'; exact hpre⟩
    have hcnt : (List.range ops.size).countP (fun x => !(listed.setIfInBounds i true).getD x false) ≤ fuel := by
      have := countP_lt (p' := fun x => !(listed.setIfInBounds i true).getD x false) (p0 := fun x => !listed.getD x false) (fun x hx => by
        simp only [Bool.not_eq_true'] at hx ⊢
        exact (getD_set_un hil hx).2) (List.range ops.size) i (List.mem_range.2 his) (by simp [hun]) (by rw [get_set hil]; simp)
      omega
    obtain ⟨k, hk⟩ := List.mem_iff_getElem?.1 (C.cov i his)
    rcases Nat.lt_or_ge k q with z | z
    · exact h.owe hcall C z hk hr fun st m a w h' => ih q _ st m a w h' hcnt
    · have adv : ∀ n q st m, q + n = k → Inv P call L E ntm clr ops p od K r0 q listed st m a w → ∃ st m, Inv P call L E ntm clr ops p od K r0 k listed st m a w := by
        intro n
        induction n with
        | zero => intro q st m e h; have : q = k := by omega
                  subst this; exact ⟨st, m, h⟩
        | succ n ihn =>
          intro q st m e h
          obtain ⟨st', m', h'⟩ := h.advance C hb hkp (by omega : q < k) hk hr.pre
          exact ihn (q + 1) st' m' (by omega) h'
      obtain ⟨st', m', h'⟩ := adv (k - q) q st m (by omega) h
      exact h'.take hcall C hb hkp hk hr fun st m a w h'' => ih (k + 1) _ st m a w h'' hcnt

end
end Ev
