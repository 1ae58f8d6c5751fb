import Derived.Test.YtgofadnggipkpaaEvClose
import Derived.Laws.Sem
import Derived.Laws.Cells
import Derived.Laws.Entries
import Derived.Laws.IdiomCopy
import Derived.ChangeKeysEq
namespace Ev
open Go

/-- a function's state, abstract and real -/
structure StR (E : Ent) (ntm : Nat) (clr : List Nat) (g : G) (ν : Nat → Option Nat) (st : St) (a : Act) (w : World) : Prop where
  size : a.tmps.size = ntm
  defers : a.defers = []
  tm : ∀ t, RepT g ν (st.tm t) (a.tmps.getD t undef)
  lps : ∀ t d off, st.tm t = .lp d off → t = d ∨ hasN clr t = true
  mem : MemR E g ν st.lo st.hp w

theorem ofAtom_rep {κ : K} {v : Value} {x : V} (h : ofAtom v = some x) : RepC κ x v := by
  unfold ofAtom at h
  split at h <;> simp only [Option.some.injEq, reduceCtorEq] at h <;> subst h
  · exact .bo _
  · exact .it _ _
  · exact .fl _ _
  · exact .st _ _ rfl
  · exact .np
  · exact .ns
  · exact .nfn
  · exact .nf
  · exact .nm

theorem ofAtom_keep {v : Value} {x : V} (h : ofAtom v = some x) : x.keep = true := by
  unfold ofAtom at h
  split at h <;> simp only [Option.some.injEq, reduceCtorEq] at h <;> subst h <;> rfl

theorem allSome_len {α β : Type} {f : α → Option β} : ∀ {l : List α} {r : List β}, allSome f l = some r → r.length = l.length
  | [], r, h => by simp only [allSome, Option.some.injEq] at h; subst h; rfl
  | x :: l, r, h => by
    simp only [allSome] at h
    cases hx : f x with
    | none => simp [hx] at h
    | some y => cases hl : allSome f l with
      | none => simp [hx, hl] at h
      | some s => simp only [hx, hl, Option.some.injEq] at h; subst h; simp [allSome_len hl]

theorem allSome_get {α β : Type} {f : α → Option β} : ∀ {l : List α} {r : List β}, allSome f l = some r → ∀ (i : Nat) (y : β), r[i]? = some y → ∃ x, l[i]? = some x ∧ f x = some y
  | [], r, h, i, y, hy => by simp only [allSome, Option.some.injEq] at h; subst h; simp at hy
  | x :: l, r, h, i, y, hy => by
    simp only [allSome] at h
    cases hx : f x with
    | none => simp [hx] at h
    | some z => cases hl : allSome f l with
      | none => simp [hx, hl] at h
      | some s =>
        simp only [hx, hl, Option.some.injEq] at h; subst h
        cases i with
        | zero => simp only [List.getElem?_cons_zero, Option.some.injEq] at hy; subst hy; exact ⟨x, rfl, hx⟩
        | succ i => simpa using allSome_get hl i y (by simpa using hy)

theorem ofVal_rep {g : G} {v : Value} {x : V} (h : ofVal v = some x) : RepA g x v ∧ isLp x = false ∧ x.cells.all V.keep = true := by
  unfold ofVal at h
  split at h
  · rename_i cs
    cases hl : allSome ofAtom cs.toList with
    | none => simp [hl] at h
    | some l =>
      simp only [hl, Option.map_some, Option.some.injEq] at h; subst h
      have hk : ∀ c, c ∈ l → c.keep = true := fun c hc => by
        obtain ⟨i, hi⟩ := List.getElem?_of_mem hc
        obtain ⟨y, _, hy⟩ := allSome_get hl i c hi
        exact ofAtom_keep hy
      refine ⟨.ag l cs ?_ hk ?_, rfl, by simpa [V.cells] using hk⟩
      · have := allSome_len hl; simpa using this.symm
      · intro i c hc
        obtain ⟨y, hy, he⟩ := allSome_get hl i c hc
        have : cs.getD i undef = y := by
          simp only [Array.getElem?_toList] at hy
          simp [Array.getD_eq_getD_getElem?, hy]
        rw [this]; exact .c _ _ (ofAtom_rep he)
  · have hk := ofAtom_keep h
    have hr : RepA g x v := .c _ _ (ofAtom_rep h)
    refine ⟨hr, ?_, ?_⟩
    · cases x <;> simp_all [V.keep, isLp]
    · cases x <;> simp_all [V.keep, V.cells]

theorem cA_rep {g : G} {ν : Nat → Option Nat} {tm : Tm} {a : Act} {x : Operand} {xa : A} (h : cA x = some xa) (ht : ∀ t, RepT g ν (tm t) (a.tmps.getD t undef)) :
    RepT g ν (get tm xa) (a.eval x) := by
  cases x with
  | tmp t => simp only [cA, Option.some.injEq] at h; subst h; exact ht t
  | const v =>
    simp only [cA] at h
    cases hv : ofVal v with
    | none => simp [hv] at h
    | some y => simp only [hv, Option.map_some, Option.some.injEq] at h; subst h; exact .ofA (ofVal_rep hv).1
  | global _ => simp [cA] at h
  | func f => simp only [cA, Option.some.injEq] at h; subst h; exact .ofA (.fn f [] [] #[] #[] rfl rfl (by simp) (by simp) (by simp) (by simp))

/-- a value's cells -/
theorem RepA.cells {g : G} {v : V} {cv : Value} (h : RepA g v cv) (k : v.cells.all V.keep = true) :
    cv.cells.size = v.cells.length ∧ (∀ c, c ∈ v.cells → c.keep = true) ∧ (∀ (j : Nat) (c : V), v.cells[j]? = some c → RepA g c (cv.cells.getD j undef)) := by
  have hk : ∀ c, c ∈ v.cells → c.keep = true := fun c hc => List.all_eq_true.1 k c hc
  by_cases hag : ∃ cs, v = .ag cs
  · obtain ⟨cs, rfl⟩ := hag
    obtain ⟨arr, rfl, h1, h2, h3⟩ := h.ag_inv
    exact ⟨h1, hk, h3⟩
  · have hc : v.cells = [v] := by cases v <;> first | rfl | exact absurd ⟨_, rfl⟩ hag
    rw [hc] at hk ⊢
    have ho := h.oneC (hk v (by simp))
    have hcc : cv.cells = #[cv] := by cases cv <;> first | rfl | simp [Ev.oneC] at ho
    rw [hcc]
    refine ⟨rfl, hk, fun j c hj => ?_⟩
    cases j with
    | zero => simp only [List.getElem?_cons_zero, Option.some.injEq] at hj; subst hj; exact h
    | succ j => simp at hj

/-- how a piece of a run goes on, whatever comes behind it -/
def Out (call : Call) (L : Nat) (F : (V → St → D) → (V → St → D) → D) (v : V) (s : St) : Prop := ∀ k kp, run call L (F k kp) = run call L (k v s)
def Bad (call : Call) (L : Nat) (F : (V → St → D) → (V → St → D) → D) : Prop := ∀ k kp, run call L (F k kp) = .bad

/-- what an operation of the program gives, that calls nothing -/
inductive Fin (P : Program) (o : Oper) (a : Act) (w : World) : Value → World → Prop
  | value (cv : Value) (w' : World) (h : (execOp a.eval o).run P w = .ok (.value cv) w') : Fin P o a w cv w'
  | skip (w' : World) (h : (execOp a.eval o).run P w = .ok .skip w') : Fin P o a w undef w'

structure After (E : Ent) (clr : List Nat) (dst : Option Nat) (g : G) (ν : Nat → Option Nat) (st : St) (v : V) (s : St) (cv : Value) (w' : World) (g' : G) (ν' : Nat → Option Nat) : Prop where
  tmeq : s.tm = st.tm
  mem : MemR E g' ν' s.lo s.hp w'
  le : GLe g g'
  nu : ν' = ν ∨ ∃ d, dst = some d ∧ (∃ x, ν' = fun t => if t = d then some x else ν t) ∧ ∀ t, t ≠ d → ∀ off, st.tm t ≠ .lp d off
  val : RepT g' ν' v cv
  lp : ∀ d, dst = some d → ∀ e off, v = .lp e off → d = e ∨ hasN clr d = true

structure Env where
  P : Program
  E : Ent
  ntm : Nat
  clr : List Nat
  dst : Option Nat
  g : G
  ν : Nat → Option Nat
  st : St
  a : Act
  w : World
  o : Oper
  call : Call
  L : Nat

/-- an instruction does what its operation does -/
def Res (e : Env) (F : (V → St → D) → (V → St → D) → D) : Prop :=
  Bad e.call e.L F ∨ ∃ v s cv w' g' ν', Out e.call e.L F v s ∧ Fin e.P e.o e.a e.w cv w' ∧ After e.E e.clr e.dst e.g e.ν e.st v s cv w' g' ν'

def Env.St (e : Env) : Prop := StR e.E e.ntm e.clr e.g e.ν e.st e.a e.w

section
variable {e : Env}

theorem Res.bad {F : (V → St → D) → (V → St → D) → D} (h : ∀ k kp, F k kp = .bad) : Res e F := .inl fun k kp => by rw [h]; rfl

theorem Res.eq {F F' : (V → St → D) → (V → St → D) → D} (h : ∀ k kp, F k kp = F' k kp) (r : Res e F') : Res e F := by
  have : F = F' := by funext k kp; exact h k kp
  rw [this]; exact r

theorem Res.runEq {F F' : (V → St → D) → (V → St → D) → D} (h : ∀ k kp, run e.call e.L (F k kp) = run e.call e.L (F' k kp)) (r : Res e F') : Res e F := by
  rcases r with r | ⟨v, s, cv, w', g', ν', r, r1, r2⟩
  · exact .inl fun k kp => (h k kp).trans (r k kp)
  · exact .inr ⟨v, s, cv, w', g', ν', fun k kp => (h k kp).trans (r k kp), r1, r2⟩

theorem Res.chk {b : Bool} {F : (V → St → D) → (V → St → D) → D} (h : b = true → Res e F) : Res e (fun k kp => .chk b (F k kp)) := by
  cases b with
  | false => exact .inl fun k kp => by simp [run]
  | true => exact .runEq (fun k kp => by simp [run]) (h rfl)

theorem Res.br {b : Bool} {F G : (V → St → D) → (V → St → D) → D} (h : b = true → Res e F) (h' : b = false → Res e G) : Res e (fun k kp => .br b (F k kp) (G k kp)) := by
  cases b with
  | false => exact .runEq (fun k kp => by simp [run]) (h' rfl)
  | true => exact .runEq (fun k kp => by simp [run]) (h rfl)

theorem Res.bif {b : Bool} {F G : (V → St → D) → (V → St → D) → D} (h : b = true → Res e F) (h' : b = false → Res e G) : Res e (fun k kp => bif b then F k kp else G k kp) := by
  cases b with
  | false => exact h' rfl
  | true => exact h rfl

theorem Res.oneD {α : Type} {o : Option α} {f : α → (V → St → D) → (V → St → D) → D} (h : ∀ v, o = some v → Res e (f v)) : Res e (fun k kp => Ev.oneD o fun v => f v k kp) := by
  cases o with
  | none => exact .bad fun k kp => rfl
  | some v => exact h v rfl

theorem Res.notLp {v : V} {f : V → (V → St → D) → (V → St → D) → D} (h : isLp v = false → Res e (f v)) : Res e (fun k kp => notLpD v fun v => f v k kp) := by
  cases v <;> first | exact h rfl | exact .bad fun k kp => rfl

theorem Res.nat {v : V} {f : Nat → (V → St → D) → (V → St → D) → D} (h : ∀ k n, v = .it k n → 0 ≤ n → Res e (f n.toNat)) : Res e (fun k kp => natD v fun v => f v k kp) := by
  cases v with
  | it kk n =>
    refine .chk fun hb => h kk n rfl ?_
    cases n with
    | ofNat n => exact Int.natCast_nonneg n
    | negSucc n => simp [ilt] at hb
  | _ => exact .bad fun k kp => rfl

theorem Res.cut {n off : Nat} {cs : List V} {f : List V → (V → St → D) → (V → St → D) → D} (h : off + n ≤ cs.length → Res e (f ((cs.drop off).take n))) :
    Res e (fun k kp => cutD n off cs fun v => f v k kp) := .chk fun hb => h (Nat.le_of_ble_eq_true hb)

theorem Res.out {v : V} {s : St} {cv : Value} {w' : World} {g' : G} {ν' : Nat → Option Nat} (hf : Fin e.P e.o e.a e.w cv w') (ha : After e.E e.clr e.dst e.g e.ν e.st v s cv w' g' ν') :
    Res e (fun k _ => k v s) := .inr ⟨v, s, cv, w', g', ν', fun _ _ => rfl, hf, ha⟩

/-- a value, nothing else -/
theorem Res.val (h : e.St) {v : V} {cv : Value} (hf : (execOp e.a.eval e.o).run e.P e.w = .ok (.value cv) e.w) (hr : RepA e.g v cv) (hl : isLp v = false) :
    Res e (fun k _ => k v e.st) :=
  .out (.value cv e.w hf) ⟨rfl, h.mem, GLe.refl _, .inl rfl, .ofA hr, fun _ _ d off x => by subst x; simp [isLp] at hl⟩

/-- a value, the world changed aside from its heap -/
theorem Res.valW (h : e.St) {v : V} {cv : Value} {w' : World} (hf : (execOp e.a.eval e.o).run e.P e.w = .ok (.value cv) w') (hw : w'.heap = e.w.heap) (ho : w'.os = e.w.os ∧ w'.output = e.w.output) (hr : RepA e.g v cv) (hl : isLp v = false) :
    Res e (fun k _ => k v e.st) :=
  .out (.value cv w' hf) ⟨rfl, h.mem.same hw ho, GLe.refl _, .inl rfl, .ofA hr, fun _ _ d off x => by subst x; simp [isLp] at hl⟩

theorem Env.St.rep (h : e.St) {x : Operand} {xa : A} (hx : cA x = some xa) : RepT e.g e.ν (get e.st.tm xa) (e.a.eval x) := cA_rep hx h.tm

end
end Ev
