import Derived.Test.YtfnoiklmcmboeaaGreatDoorEvE
/- functions of one text, run once for some texts -/
set_option linter.unusedSectionVars false
set_option linter.unusedVariables false
set_option linter.unusedSimpArgs false
namespace Ev
variable [Glob]
open Go
variable {P : Program} {F : Nat -> Option Fn} {mds : Nat -> Md}
def eqNs : List Nat -> List Nat -> Bool
 | [], [] => true
 | a :: r, b :: s => bif Nat.beq a b then eqNs r s else false
 | _, _ => false
theorem eqNs_eq : ∀ {a b : List Nat}, eqNs a b = true -> a = b
 | [], [], _ => rfl
 | a :: r, b :: s, h => by
  unfold eqNs at h
  cases e : Nat.beq a b with
  | false => rw [e] at h; cases h
  | true => rw [e] at h; rw [Nat.eq_of_beq_eq_true e, eqNs_eq h]
def eqRs : List (List V) -> List Nat -> Bool
 | [], [] => true
 | [.it .u8 (.ofNat a)] :: r, b :: s => bif Nat.beq a b then eqRs r s else false
 | _, _ => false
theorem eqRs_eq : ∀ (l : List (List V)) (m : List Nat), eqRs l m = true -> l = m.map fun n => [.it .u8 (.ofNat n)]
 | [], m, h => by cases m with
  | nil => rfl
  | cons => cases h
 | r :: l, m, h => by
  cases m with
  | nil => unfold eqRs at h; split at h <;> simp_all
  | cons b s =>
   unfold eqRs at h
   split at h
   ·simp_all
   ·rename_i a r' b' s' e1 e2
    cases e : Nat.beq a b' with
    | false => rw [e] at h; cases h
    | true =>
     rw [e] at h
     simp only [List.cons.injEq] at e1 e2
     obtain ⟨rfl, rfl⟩ := e1
     obtain ⟨rfl, rfl⟩ := e2
     rw [eqRs_eq _ _ h, Nat.eq_of_beq_eq_true e]; rfl
   ·cases h
/-- is a value this text, or these bytes? -/
def eqB (bytes : Bool) : V -> List Nat -> Bool
 | .st l, m => bif bytes then false else eqNs l m
 | .vs n es, m => bif bytes then bif Nat.beq n 1 then eqRs es m else false else false
 | _, _ => false
def mkB (bytes : Bool) (m : List Nat) : V := bif bytes then .vs 1 (m.map fun n => [.it .u8 (.ofNat n)]) else .st m
theorem eqB_eq {bytes : Bool} {x : V} {m : List Nat} (h : eqB bytes x m = true) : x = mkB bytes m := by
 unfold eqB at h
 split at h
 ·cases bytes with
  | true => cases h
  | false => rw [cond_false] at h; rw [eqNs_eq h]; rfl
 ·cases bytes with
  | false => cases h
  | true =>
   rw [cond_true] at h
   rename_i n es
   cases e : Nat.beq n 1 with
   | false => rw [e] at h; cases h
   | true =>
    rw [e, cond_true] at h
    rw [Nat.eq_of_beq_eq_true e, eqRs_eq _ _ h]; rfl
 ·cases h
def findB (bytes : Bool) (x : V) : List (List Nat × V × Hp) -> D
 | [] => .bad
 | (m, v, h) :: r => bif eqB bytes x m then .done (.ret ⟨fun _ => v, fun _ => none, h⟩) else findB bytes x r
/-- a function of one text, run in an empty heap: what was shown to come of some texts -/
def memoB (fn : Fn) (bytes : Bool) (tb : List (List Nat × V × Hp)) : Fn := ⟨fn.ps, fn.rs, fn.md, [], fun st _ => bif isH0 st.hp then findB bytes (st.tm 0) tb else .bad⟩
theorem find_run {call : Call} {L : Nat} {bytes : Bool} {x : V} : ∀ {tb : List (List Nat × V × Hp)}, run call L (findB bytes x tb) = .bad \/ ∃ m v h, (m, v, h) ∈ tb /\ x = mkB bytes m /\ run call L (findB bytes x tb) = .ret ⟨fun _ => v, fun _ => none, h⟩
 | [] => .inl rfl
 | (m, v, h) :: r => by
  cases e : eqB bytes x m with
  | true => exact .inr ⟨m, v, h, by simp, eqB_eq e, by simp [findB, e, run]⟩
  | false =>
   have e' : run call L (findB bytes x ((m, v, h) :: r)) = run call L (findB bytes x r) := by simp [findB, e]
   rw [e']
   rcases find_run (call := call) (L := L) (bytes := bytes) (x := x) (tb := r) with q | ⟨m', v', h', q1, q2, q3⟩
   ·exact .inl q
   ·exact .inr ⟨m', v', h', List.mem_cons_of_mem _ q1, q2, q3⟩
theorem memoB_ok (T : Table P F mds) {f : Nat} {fn : Fn} (hF : F f = some fn) {p : PT} (hn : fn.ps = [p]) {bytes : Bool} {tb : List (List Nat × V × Hp)}
  (hr : ∀ m v h, (m, v, h) ∈ tb -> ∃ L n, runF (callF F L n) L fn [mkB bytes m] h0 = .ret v h) : FnOK P mds f (memoB fn bytes tb) := by
 refine ⟨(T.fns f fn hF).1, .inr fun call L' _ xs cs g hp w hgl hh ha => ?_⟩
 cases hl : Nat.beq xs.length (memoB fn bytes tb).ps.length with
 | false => unfold runF; rw [hl]; trivial
 | true =>
  have hx : ∃ x, xs = [x] := by
   have h1 := Nat.eq_of_beq_eq_true hl
   rw [show (memoB fn bytes tb).ps = [p] from hn] at h1
   match xs, h1 with
   | [x], _ => exact ⟨x, rfl⟩
  obtain ⟨x, rfl⟩ := hx
  cases e : isH0 hp with
  | false =>
   have e' : runF call L' (memoB fn bytes tb) [x] hp = .bad := by unfold runF; rw [hl]; simp [memoB, bodyD, e, run, crOf]
   rw [e']; trivial
  | true =>
   have := isH0_eq e
   subst this
   have e' : runF call L' (memoB fn bytes tb) [x] h0 = crOf (run call L' (findB bytes x tb)) := by unfold runF; rw [hl]; simp [memoB, bodyD, e, argT]
   rw [e']
   rcases find_run (call := call) (L := L') (bytes := bytes) (x := x) (tb := tb) with q | ⟨m, v, h, q1, rfl, q3⟩
   ·rw [q]; trivial
   ·rw [q3]
    obtain ⟨L, n, hr⟩ := hr m v h q1
    obtain ⟨i1, i2⟩ := callF_ok (L := L) T n
    have := (T.run i1 i2 hF : RunOK P (callF F L n) L f fn) [mkB bytes m] cs g h0 w hgl hh ha
    rw [hr] at this
    exact this
end Ev
