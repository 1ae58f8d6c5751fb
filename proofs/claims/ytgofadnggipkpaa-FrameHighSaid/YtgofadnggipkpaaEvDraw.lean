import Derived.Test.YtgofadnggipkpaaEvKeep2
import Derived.Orders
namespace Ev
open Go

/-- is an operation wanted? -/
def wantA (o : DOp) (st : St) : Option Bool :=
  match o.gd with
  | none => some true
  | some (t, w) => match st.tm t with
    | .bo b => some (b == w)
    | .tu [] => some false
    | _ => none

def KpU (o : DOp) (st s : St) : Prop := o.ins.cl ≠ .x → ∀ u, (o.ins.minds = true → ∃ t, t ∈ o.us ∧ u = st.tm t) → Same st s u

/-- an operation by itself, abstract -/
def AStep (call : Call) (L : Nat) (clr : List Nat) (o : DOp) (st st' : St) : Prop :=
  (wantA o st = some true ∧ ∃ v s, DO call L (o.ins.den o.us clr (o.dst.getD 0) st) v s ∧ (o.ins.easy = true → s = st) ∧ KpU o st s ∧ st' = Ev.put s o.dst v) ∨
  (wantA o st = some false ∧ st' = Ev.put st o.dst (.tu []))

/-- an operation that is owed, and what it will give -/
def Pend (call : Call) (L : Nat) (clr : List Nat) (o : DOp) (st : St) : Prop :=
  (wantA o st = some true ∧ ∃ v, DO call L (o.ins.den o.us clr (o.dst.getD 0) st) v st ∧ ∀ d, o.dst = some d → st.tm d = v) ∨
  (wantA o st = some false ∧ ∀ d, o.dst = some d → st.tm d = .tu [])

section
variable {call : Call} {L : Nat} {clr : List Nat}

theorem DO.val_eq {F : FF} {v v' : V} {s s' : St} (h : DO call L F v s) (h' : DO call L F v' s') : v = v' ∧ s = s' := by
  have k1 := h (fun v _ => .done (.ret ⟨fun _ => v, fun _ => none, h0⟩)) (fun _ _ => .bad) (fun _ _ => rfl)
  have k2 := h' (fun v _ => .done (.ret ⟨fun _ => v, fun _ => none, h0⟩)) (fun _ _ => .bad) (fun _ _ => rfl)
  have k3 := h (fun _ s => .done (.norm s)) (fun _ _ => .bad) (fun _ _ => rfl)
  have k4 := h' (fun _ s => .done (.norm s)) (fun _ _ => .bad) (fun _ _ => rfl)
  rw [k1] at k2
  rw [k3] at k4
  simp only [run, R.ret.injEq, R.norm.injEq, St.mk.injEq] at k2 k4
  exact ⟨congrFun k2.1 0, k4⟩

theorem DO.not_bad {F : FF} {v : V} {s : St} (h : DO call L F v s) (hb : Bad call L F) : False := by
  have k1 := h (fun _ s => .done (.norm s)) (fun _ _ => .bad) (fun _ _ => rfl)
  rw [hb] at k1
  simp [run] at k1

def sg (o : DOp) : Gr := DGr.den ⟨o.gd, [o]⟩

theorem evGs_step {o : DOp} {gs : List Gr} {st : St} {K : R → D} {r0 : R} (hn : HpNil st.hp) (hc : CallsK call o.ins)
    (hkp : ∀ v s, run call L (K (.pan v s)) = .bad) (h : run call L (evGs clr (sg o :: gs) st K) = r0) (hb : r0 ≠ .bad) : ∃ st', AStep call L clr o st st' ∧ run call L (evGs clr gs st' K) = r0 := by
  have main : wantA o st = some true → run call L (evL clr [o.den] st fun x => match x with
      | .norm s => evGs clr gs s K
      | x => K x) = r0 → ∃ st', AStep call L clr o st st' ∧ run call L (evGs clr gs st' K) = r0 := by
    intro hw h
    rcases ko_any (call := call) (L := L) (i := o.ins) (us := o.us) (clr := clr) (d := o.dst.getD 0) hn hc with ⟨v, s, ⟨h1, h2⟩, h3⟩ | hbad
    · refine ⟨Ev.put s o.dst v, .inl ⟨hw, v, s, h3, h1, h2, rfl⟩, ?_⟩
      rw [← h]
      exact (h3 (fun v s => evGs clr gs (Ev.put s o.dst v) K) (fun v s => K (.pan v s)) hkp).symm
    · exfalso
      apply hb
      rw [← h]
      exact hbad (fun v s => evGs clr gs (Ev.put s o.dst v) K) (fun v s => K (.pan v s)) hkp
  simp only [evGs, sg, DGr.den, evG] at h
  cases hgd : o.gd with
  | none =>
    simp only [hgd] at h
    exact main (by simp [wantA, hgd]) h
  | some q =>
    obtain ⟨gt, gb⟩ := q
    simp only [hgd] at h
    cases hv : st.tm gt with
    | bo b =>
      simp only [hv, run] at h
      by_cases hbw : b = gb
      · subst hbw
        have : (bif b then b else !b) = true := by cases b <;> rfl
        simp only [this, cond_true, upd_self hv] at h
        exact main (by simp [wantA, hgd, hv]) h
      · have h1 : (bif gb then b else !b) = false := by cases b <;> cases gb <;> simp_all
        have hbe : b = !gb := by cases b <;> cases gb <;> simp_all
        rw [hbe] at hv
        simp only [h1, cond_false, upd_self hv] at h
        exact ⟨_, .inr ⟨by cases gb <;> simp [wantA, hgd, hv], rfl⟩, h⟩
    | tu xs =>
      cases xs with
      | nil => simp only [hv] at h; exact ⟨_, .inr ⟨by simp [wantA, hgd, hv], rfl⟩, h⟩
      | cons => simp only [hv, run] at h; exact absurd h.symm hb
    | _ => simp only [hv, run] at h; exact absurd h.symm hb

theorem wantA_eq {o : DOp} {st st' : St} (h : ∀ t, t ∈ o.gs → st'.tm t = st.tm t) : wantA o st' = wantA o st := by
  unfold wantA
  unfold DOp.gs at h
  cases hgd : o.gd with
  | none => rfl
  | some q =>
    obtain ⟨t, w⟩ := q
    rw [hgd] at h
    simp only [h t (by simp)]

theorem dIn_not {d : Option Nat} {l : List Nat} (h : dIn d l = false) {t : Nat} (ht : t ∈ l) : d ≠ some t := by
  intro e
  subst e
  have : hasN l t = true := by
    clear h
    induction l with
    | nil => cases ht
    | cons a r ih =>
      simp only [hasN]
      rcases List.mem_cons.1 ht with rfl | ht
      · simp
      · rw [ih ht]; cases Nat.beq a t <;> rfl
  simp [dIn, this] at h

theorem sameD_not {a b : Option Nat} (h : sameD a b = false) {d : Nat} (ha : a = some d) : b ≠ some d := by
  intro e; subst ha e; simp [sameD] at h

/-- what is read by the state stays, for the owed one -/
theorem rd_same {i : I} {st st' : St} (hk : i.rdA.all constOk = true) (h : ∀ t, t ∈ i.rd → Same st st' (st.tm t)) : ∀ x, x ∈ i.rdA → Same st st' (get st.tm x) := by
  have gen : ∀ x : A, constOk x = true → (∀ t, t ∈ slotsA x → Same st st' (st.tm t)) → Same st st' (get st.tm x) := by
    intro x hx hh
    cases x with
    | t n => exact hh n (by simp [slotsA])
    | k v => cases v <;> first | trivial | (simp [constOk] at hx)
  intro x hx
  cases i <;> simp only [I.rdA, List.mem_singleton, List.not_mem_nil] at hx <;> subst hx <;> simp only [I.rdA, List.all_cons, List.all_nil, Bool.and_true] at hk <;> exact gen _ hk h

theorem Pend.step {o : DOp} {st st' : St} (h : Pend call L clr o st) (he : o.ins.easy = true) (hs : ∀ t, t ∈ o.ins.sl ++ o.gs → st'.tm t = st.tm t) (hd : ∀ d, o.dst = some d → st'.tm d = st.tm d)
    (hr : ∀ x, x ∈ o.ins.rdA → (∃ v, DO call L (o.ins.den o.us clr (o.dst.getD 0) st) v st) → Same st st' (get st.tm x)) : Pend call L clr o st' := by
  have hw : wantA o st' = wantA o st := wantA_eq fun t ht => hs t (by simp [ht])
  rcases h with ⟨h1, v, h2, h3⟩ | ⟨h1, h2⟩
  · refine .inl ⟨hw.trans h1, v, ?_, fun d q => (hd d q).trans (h3 d q)⟩
    rcases easy_frame (call := call) (L := L) (st := st) (st' := st') (us := o.us) (us' := o.us) (clr := clr) (d := o.dst.getD 0) he (fun t ht => hs t (by simp [ht])) (fun x hx => hr x hx ⟨v, h2⟩) with hb | ⟨v', h4, h5⟩
    · exact (h2.not_bad hb).elim
    · have : v = v' := (h2.val_eq (fun k kp _ => h4 k kp)).1
      subst this
      exact fun k kp _ => h5 k kp
  · exact .inr ⟨hw.trans h1, fun d q => (hd d q).trans (h2 d q)⟩

/-- the conversions that read no memory -/
theorem p_same {o : DOp} {st st' : St} (hp : o.ins.cl = .p) : ∀ x, x ∈ o.ins.rdA → (∃ v, DO call L (o.ins.den o.us clr (o.dst.getD 0) st) v st) → Same st st' (get st.tm x) := by
  intro x hx ⟨v, h⟩
  cases hi : o.ins <;> simp only [hi, I.cl, reduceCtorEq] at hp <;> simp only [hi, I.rdA, List.mem_singleton, List.not_mem_nil] at hx
  · rename_i c y
    subst hx
    have hbad : Bad call L (o.ins.den o.us clr (o.dst.getD 0) st) → False := fun q => h.not_bad q
    rw [hi] at hbad
    cases hv : get st.tm x <;> first | trivial | (exfalso; apply hbad; intro k kp; cases c <;> simp only [I.den, iCnv, convD, hv, run] <;> (simp only [reduceCtorEq] at hp))

theorem before_on {ops : Array Oper} {j i : Nat} (h : ((Region.before ops).getD j 0).testBit i = true) :
    ∃ o, ops[j]? = some o ∧ ∃ e, e ∈ o.after ∧ Region.binds .any e = true ∧ (e.on = i ∨ (e.on < j ∧ ((Region.before ops).getD e.on 0).testBit i = true)) := by
  let Ok (acc : Array Nat) (done : List Oper) : Prop := acc.size = done.length ∧ ∀ j i, (acc.getD j 0).testBit i = true → ∃ o, done[j]? = some o ∧ ∃ e, e ∈ o.after ∧ Region.binds .any e = true ∧ (e.on = i ∨ (e.on < j ∧ (acc.getD e.on 0).testBit i = true))
  have hbit : ∀ (acc : Array Nat) (es : List Edge) (s i : Nat), (es.foldl (fun s e => if Region.binds .any e then s ||| 2 ^ e.on ||| acc.getD e.on 0 else s) s).testBit i = true →
      s.testBit i = true ∨ ∃ e, e ∈ es ∧ Region.binds .any e = true ∧ (e.on = i ∨ (acc.getD e.on 0).testBit i = true) := by
    intro acc es
    induction es with
    | nil => exact fun s i h => .inl h
    | cons e es ih =>
      intro s i h
      simp only [List.foldl_cons] at h
      rcases ih _ _ h with h | ⟨e', h1, h2, h3⟩
      · cases hb : Region.binds .any e with
        | false => simp only [hb] at h; exact .inl h
        | true =>
          simp only [hb, if_true, Nat.testBit_or, Bool.or_eq_true] at h
          rcases h with (h | h) | h
          · exact .inl h
          · rw [Nat.testBit_two_pow] at h
            exact .inr ⟨e, by simp, hb, .inl (by simpa using h)⟩
          · exact .inr ⟨e, by simp, hb, .inr h⟩
      · exact .inr ⟨e', by simp [h1], h2, h3⟩
  have hstep : ∀ (acc : Array Nat) (done : List Oper) (o : Oper), Ok acc done → Ok (acc.push (o.after.foldl (fun s e => if Region.binds .any e then s ||| 2 ^ e.on ||| acc.getD e.on 0 else s) 0)) (done ++ [o]) := by
    intro acc done o ⟨hs, hok⟩
    refine ⟨by simp [hs], fun j i h => ?_⟩
    have hget : ∀ x, x < acc.size → (acc.push (o.after.foldl (fun s e => if Region.binds .any e then s ||| 2 ^ e.on ||| acc.getD e.on 0 else s) 0)).getD x 0 = acc.getD x 0 := fun x hx => by
      simp [Array.getD_eq_getD_getElem?, Array.getElem?_push, show x ≠ acc.size by omega]
    rcases Nat.lt_trichotomy j acc.size with hj | hj | hj
    · rw [hget j hj] at h
      obtain ⟨o', h1, e, h2, h3, h4⟩ := hok j i h
      refine ⟨o', by rw [List.getElem?_append_left (by omega)]; exact h1, e, h2, h3, h4.imp id fun ⟨a, b⟩ => ⟨a, by rw [hget _ (by omega)]; exact b⟩⟩
    · subst hj
      have : (acc.push (o.after.foldl (fun s e => if Region.binds .any e then s ||| 2 ^ e.on ||| acc.getD e.on 0 else s) 0)).getD acc.size 0 = o.after.foldl (fun s e => if Region.binds .any e then s ||| 2 ^ e.on ||| acc.getD e.on 0 else s) 0 := by
        simp [Array.getD_eq_getD_getElem?]
      rw [this, ← Array.foldl_toList] at h
      rcases hbit _ _ _ _ h with h | ⟨e, h1, h2, h3⟩
      · simp at h
      · refine ⟨o, by rw [hs]; simp, e, by simpa using h1, h2, ?_⟩
        rcases h3 with h3 | h3
        · exact .inl h3
        · have hlt : e.on < acc.size := by
            rcases Nat.lt_or_ge e.on acc.size with q | q
            · exact q
            · simp [Array.getD_eq_getD_getElem?, Array.getElem?_eq_none q] at h3
          exact .inr ⟨hlt, by rw [hget _ hlt]; exact h3⟩
    · rw [Array.getD_eq_getD_getElem?, Array.getElem?_eq_none (by simp; omega)] at h
      simp at h
  have hall : ∀ (l : List Oper) (acc : Array Nat) (done : List Oper), Ok acc done → Ok (l.foldl (fun acc o => acc.push (o.after.foldl (fun s e => if Region.binds .any e then s ||| 2 ^ e.on ||| acc.getD e.on 0 else s) 0)) acc) (done ++ l) := by
    intro l
    induction l with
    | nil => intro acc done h; simpa using h
    | cons o l ih =>
      intro acc done h
      have := ih _ _ (hstep acc done o h)
      simpa using this
  have hfin := hall ops.toList #[] [] ⟨rfl, fun j i h => by simp at h⟩
  have heq : Region.before ops = ops.toList.foldl (fun acc o => acc.push (o.after.foldl (fun s e => if Region.binds .any e then s ||| 2 ^ e.on ||| acc.getD e.on 0 else s) 0)) #[] := by
    unfold Region.before
    rw [← Array.foldl_toList]
  rw [← heq] at hfin
  obtain ⟨o, h1, e, h2⟩ := hfin.2 j i h
  exact ⟨o, by simpa using h1, e, h2⟩

end
end Ev
