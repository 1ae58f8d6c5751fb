import Derived.Test.YtgofadnggipkpaaEvReg
namespace Ev
open Go

/-- what was there stays as it was -/
def HpKeep (hp hp' : Hp) : Prop := ∀ id bk, hget hp id = some bk → ∃ bk', hget hp' id = some bk' ∧ bk'.sz = bk.sz ∧ bk'.es = bk.es

def HpNil (hp : Hp) : Prop := ∀ id, hp.next ≤ id → hget hp id = none

theorem HpKeep.refl (hp : Hp) : HpKeep hp hp := fun _ bk h => ⟨bk, h, rfl, rfl⟩
theorem HpKeep.trans {a b c : Hp} (h : HpKeep a b) (h' : HpKeep b c) : HpKeep a c := fun id bk x => by
  obtain ⟨b1, h1, h2, h3⟩ := h id bk x
  obtain ⟨b2, k1, k2, k3⟩ := h' id b1 h1
  exact ⟨b2, k1, k2.trans h2, k3.trans h3⟩

theorem HpKeep.new {hp : Hp} (hn : HpNil hp) (b : Bk) : HpKeep hp (hnew hp b) := fun id bk x => by
  rw [hget_hnew]
  have : id ≠ hp.next := fun e => by rw [hn id (by omega)] at x; cases x
  simp only [this, if_false]; exact ⟨bk, x, rfl, rfl⟩

theorem HpKeep.freeze (hp : Hp) (id : Nat) : HpKeep hp (freeze hp id) := fun j bk x => by
  unfold Ev.freeze
  cases h : hget hp id with
  | none => exact ⟨bk, x, rfl, rfl⟩
  | some b =>
    simp only [hget_hset]
    by_cases e : j = id
    · subst e; rw [h] at x; cases x; simp
    · simp only [e, if_false]; exact ⟨bk, x, rfl, rfl⟩

theorem freeze_old (hp : Hp) (id j : Nat) (h : hget hp j = none) : hget (freeze hp id) j = none := by
  unfold Ev.freeze
  cases e : hget hp id with
  | none => exact h
  | some b =>
    simp only [hget_hset]
    by_cases q : j = id
    · subst q; rw [e] at h; cases h
    · simp [q, h]


structure Kp (hp hp' : Hp) : Prop where
  keep : HpKeep hp hp'
  none : ∀ id, hget hp id = none → hget hp' id = none
  next : hp'.next = hp.next

theorem Kp.refl (hp : Hp) : Kp hp hp := ⟨.refl hp, fun _ h => h, rfl⟩
theorem Kp.trans {a b c : Hp} (h : Kp a b) (h' : Kp b c) : Kp a c := ⟨h.keep.trans h'.keep, fun id x => h'.none id (h.none id x), h'.next.trans h.next⟩
theorem Kp.freeze (hp : Hp) (id : Nat) : Kp hp (Ev.freeze hp id) := ⟨.freeze hp id, fun j h => freeze_old hp id j h, by unfold Ev.freeze; cases hget hp id <;> rfl⟩

/-- closing makes nothing but what is written no more -/
theorem close_keep : ∀ n,
    (∀ t v hp x hp', closeC n t v hp = some (x, hp') → Kp hp hp') ∧
    (∀ ts vs hp xs hp', closeCs n ts vs hp = some (xs, hp') → Kp hp hp') ∧
    (∀ ts es hp xs hp', closeEs n ts es hp = some (xs, hp') → Kp hp hp') := by
  intro n
  induction n with
  | zero => refine ⟨?_, ?_, ?_⟩ <;> intros <;> simp_all [closeC, closeCs, closeEs]
  | succ n ih =>
    obtain ⟨ih1, ih2, ih3⟩ := ih
    refine ⟨?_, ?_, ?_⟩
    · intro t v hp x hp' h
      cases t with
      | one =>
        cases v <;> simp only [closeC, Option.some.injEq, Prod.mk.injEq, reduceCtorEq] at h <;> (obtain ⟨_, rfl⟩ := h; exact .refl _)
      | sl cs =>
        cases v with
        | ns => simp only [closeC, Option.some.injEq, Prod.mk.injEq] at h; obtain ⟨_, rfl⟩ := h; exact .refl _
        | vs sz es =>
          simp only [closeC] at h
          cases hb : Nat.beq sz cs.length <;> simp only [hb, cond_true, cond_false, Option.some.injEq, Prod.mk.injEq, reduceCtorEq] at h
          obtain ⟨_, rfl⟩ := h; exact .refl _
        | hs id i len =>
          simp only [closeC] at h
          cases hg : hget hp id with
          | none => simp [hg] at h
          | some b =>
            simp only [hg] at h
            cases hb1 : Nat.blt id hp.lim <;> simp only [hb1, cond_true, cond_false, reduceCtorEq] at h
            cases hb2 : Nat.beq b.sz cs.length <;> simp only [hb2, cond_true, cond_false, reduceCtorEq] at h
            cases hb3 : Nat.ble (i + len) b.es.length <;> simp only [hb3, cond_true, cond_false, reduceCtorEq] at h
            cases hc : closeEs n cs ((b.es.drop i).take len) (freeze hp id) with
            | none => simp [hc] at h
            | some q =>
              obtain ⟨es, hh⟩ := q
              simp only [hc, Option.some.injEq, Prod.mk.injEq] at h
              obtain ⟨_, rfl⟩ := h
              exact (Kp.freeze hp id).trans (ih3 _ _ _ _ _ hc)
        | _ => simp [closeC] at h
    · intro ts vs hp xs hp' h
      cases ts with
      | nil => cases vs with
        | nil => simp only [closeCs, Option.some.injEq, Prod.mk.injEq] at h; obtain ⟨_, rfl⟩ := h; exact .refl _
        | cons => simp [closeCs] at h
      | cons t ts => cases vs with
        | nil => simp [closeCs] at h
        | cons v vs =>
          simp only [closeCs] at h
          cases hc : closeC n t v hp with
          | none => simp [hc] at h
          | some q =>
            obtain ⟨x, h1⟩ := q
            simp only [hc] at h
            cases hc2 : closeCs n ts vs h1 with
            | none => simp [hc2] at h
            | some q =>
              obtain ⟨ys, h2⟩ := q
              simp only [hc2, Option.some.injEq, Prod.mk.injEq] at h
              obtain ⟨_, rfl⟩ := h
              exact (ih1 _ _ _ _ _ hc).trans (ih2 _ _ _ _ _ hc2)
    · intro ts es hp xs hp' h
      cases es with
      | nil => simp only [closeEs, Option.some.injEq, Prod.mk.injEq] at h; obtain ⟨_, rfl⟩ := h; exact .refl _
      | cons e r =>
        simp only [closeEs] at h
        cases hc : closeCs n ts e hp with
        | none => simp [hc] at h
        | some q =>
          obtain ⟨x, h1⟩ := q
          simp only [hc] at h
          cases hc2 : closeEs n ts r h1 with
          | none => simp [hc2] at h
          | some q =>
            obtain ⟨ys, h2⟩ := q
            simp only [hc2, Option.some.injEq, Prod.mk.injEq] at h
            obtain ⟨_, rfl⟩ := h
            exact (ih2 _ _ _ _ _ hc).trans (ih3 _ _ _ _ _ hc2)

theorem closeP_keep {t : PT} {v x : V} {hp hp' : Hp} (h : closeP t v hp = some (x, hp')) : Kp hp hp' := by
  cases t with
  | c t => exact (close_keep _).1 _ _ _ _ _ h
  | g ts =>
    cases v with
    | ag cs =>
      simp only [closeP] at h
      cases hc : closeCs depth ts cs hp with
      | none => simp [hc] at h
      | some q =>
        obtain ⟨y, h1⟩ := q
        simp only [hc, Option.some.injEq, Prod.mk.injEq] at h
        obtain ⟨_, rfl⟩ := h
        exact (close_keep _).2.1 _ _ _ _ _ hc
    | _ => simp [closeP] at h

theorem closeAll_keep : ∀ {ts : List PT} {vs xs : List V} {hp hp' : Hp}, closeAll ts vs hp = some (xs, hp') → Kp hp hp' := by
  intro ts
  induction ts with
  | nil =>
    intro vs xs hp hp' h
    cases vs with
    | nil => simp only [closeAll, Option.some.injEq, Prod.mk.injEq] at h; obtain ⟨_, rfl⟩ := h; exact .refl _
    | cons => simp [closeAll] at h
  | cons t ts ih =>
    intro vs xs hp hp' h
    cases vs with
    | nil => simp [closeAll] at h
    | cons v vs =>
      simp only [closeAll] at h
      cases hc : closeP t v hp with
      | none => simp [hc] at h
      | some q =>
        obtain ⟨x, h1⟩ := q
        simp only [hc] at h
        cases hc2 : closeAll ts vs h1 with
        | none => simp [hc2] at h
        | some q =>
          obtain ⟨ys, h2⟩ := q
          simp only [hc2, Option.some.injEq, Prod.mk.injEq] at h
          obtain ⟨_, rfl⟩ := h
          exact (closeP_keep hc).trans (ih hc2)

/-- a call that changes nothing of what is there -/
def KeepC (call : Call) (f : Nat) : Prop := ∀ own xs hp v hp', HpNil hp → call own f xs hp = .ret v hp' → HpKeep hp hp'

theorem ownP_keep {t : PT} {v x : V} {h hp hp' : Hp} (hn : HpNil hp) (e : ownP t v h hp = some (x, hp')) : HpKeep hp hp' := by
  have gen : (match closeP t v h with
    | some (x, _) => some (x, hp)
    | none => none) = some (x, hp') → HpKeep hp hp' := fun q => by
    cases hc : closeP t v h with
    | none => simp [hc] at q
    | some y => obtain ⟨a, b⟩ := y; simp only [hc, Option.some.injEq, Prod.mk.injEq] at q; obtain ⟨_, rfl⟩ := q; exact .refl _
  unfold ownP at e
  split at e
  · rename_i ts id i len
    cases hg : hget h id with
    | none => simp [hg] at e
    | some b =>
      simp only [hg] at e
      cases hb0 : b.fr <;> simp only [hb0, cond_true, cond_false, reduceCtorEq] at e
      cases hb1 : Nat.blt id h.lim <;> simp only [hb1, cond_true, cond_false, reduceCtorEq] at e
      cases hb2 : Nat.beq b.sz ts.length <;> simp only [hb2, cond_true, cond_false, reduceCtorEq] at e
      cases hb3 : Nat.ble (i + len) b.es.length <;> simp only [hb3, cond_true, cond_false, reduceCtorEq] at e
      cases hc : closeEs depth ts ((b.es.drop i).take len) (hset h id none) with
      | none => simp [hc] at e
      | some q =>
        simp only [hc, Option.some.injEq, Prod.mk.injEq] at e
        obtain ⟨_, rfl⟩ := e
        exact .new hn _
  · exact gen e

theorem runP_keep {own : Bool} {call : Call} {L : Nat} {fn : Fn} {args : List V} {hp : Hp} {v : V} {hp' : Hp} (hn : HpNil hp) (h : runP own call L fn args hp = .ret v hp') : HpKeep hp hp' := by
  unfold runP at h
  cases hc : closeAll fn.ps args hp with
  | none => simp [hc] at h
  | some q =>
    obtain ⟨xs, h1⟩ := q
    simp only [hc] at h
    obtain ⟨k1, k3, k2⟩ := closeAll_keep hc
    have hn1 : HpNil h1 := fun id hid => k3 id (hn id (by omega))
    refine k1.trans ?_
    cases hr : runF call L fn xs h0 with
    | bad => simp [hr, back] at h
    | pan => simp [hr, back] at h
    | ret v1 hh =>
      simp only [hr, back] at h
      have gen : (match closeAll fn.rs (untuple fn.rs.length v1) hh with
        | some (xs, _) => CR.ret (tuple xs) h1
        | none => .bad) = .ret v hp' → HpKeep h1 hp' := fun q => by
        cases hq : closeAll fn.rs (untuple fn.rs.length v1) hh with
        | none => simp [hq] at q
        | some y => obtain ⟨a, b⟩ := y; simp only [hq, CR.ret.injEq] at q; obtain ⟨_, rfl⟩ := q; exact .refl _
      split at h
      · rename_i t hrs
        cases ho : ownP t v1 hh h1 with
        | none => simp [ho] at h
        | some q => obtain ⟨a, b⟩ := q; simp only [ho, CR.ret.injEq] at h; obtain ⟨_, rfl⟩ := h; exact ownP_keep hn1 ho
      · exact gen h

theorem runR_keep {call : Call} {L : Nat} {fn : Fn} {args : List V} {hp : Hp} {v : V} {hp' : Hp} (h : runR call L fn args hp = .ret v hp') : HpKeep hp hp' := by
  unfold runR at h
  split at h
  · rename_i v1 _ _
    cases hb : oldT hp.next v1 <;> simp only [hb, cond_true, cond_false, CR.ret.injEq, reduceCtorEq] at h
    obtain ⟨_, rfl⟩ := h; exact .refl _
  · cases h

end Ev
