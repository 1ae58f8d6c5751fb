import Derived.Test.YtfnoiklmcmboeaaGreatDoorMemB
/- functions in an empty heap, run once for some values -/
set_option linter.unusedSectionVars false
set_option linter.unusedVariables false
set_option linter.unusedSimpArgs false
namespace Ev
variable [Glob]
open Go
variable {P : Program} {F : Nat -> Option Fn} {mds : Nat -> Md}
def eqL (f : V -> V -> Bool) : List V -> List V -> Bool
 | [], [] => true
 | a :: r, b :: s => bif f a b then eqL f r s else false
 | _, _ => false
def eqLL (f : V -> V -> Bool) : List (List V) -> List (List V) -> Bool
 | [], [] => true
 | a :: r, b :: s => bif eqL f a b then eqLL f r s else false
 | _, _ => false
theorem eqL_eq {f : V -> V -> Bool} (hf : ∀ a b, f a b = true -> a = b) : ∀ a b, eqL f a b = true -> a = b
 | [], [], _ => rfl
 | a :: r, b :: s, h => by
  unfold eqL at h
  cases e : f a b with
  | false => rw [e] at h; cases h
  | true => rw [e] at h; rw [hf _ _ e, eqL_eq hf _ _ h]
theorem eqLL_eq {f : V -> V -> Bool} (hf : ∀ a b, f a b = true -> a = b) : ∀ a b, eqLL f a b = true -> a = b
 | [], [], _ => rfl
 | a :: r, b :: s, h => by
  unfold eqLL at h
  cases e : eqL f a b with
  | false => rw [e] at h; cases h
  | true => rw [e] at h; rw [eqL_eq hf _ _ e, eqLL_eq hf _ _ h]
def eqV : Nat -> V -> V -> Bool
 | 0, _, _ => false
 | _ + 1, .bo a, .bo b => a == b
 | _ + 1, .it k a, .it l b => bif decide (k = l) then decide (a = b) else false
 | _ + 1, .fl k a, .fl l b => bif decide (k = l) then Nat.beq a b else false
 | _ + 1, .st a, .st b => eqNs a b
 | _ + 1, .ns, .ns => true
 | _ + 1, .np, .np => true
 | n + 1, .vs c a, .vs d b => bif Nat.beq c d then eqLL (eqV n) a b else false
 | n + 1, .ag a, .ag b => eqL (eqV n) a b
 | _, _, _ => false
theorem eqV_eq : ∀ n a b, eqV n a b = true -> a = b := by
 intro n
 induction n with
 | zero => intro a b h; cases h
 | succ n ih =>
  intro a b h
  unfold eqV at h
  split at h
  ·cases h
  ·rw [eq_of_beq h]
  ·rename_i n' k a l b _
   by_cases e : k = l
   ·subst e
    simp only [decide_true, cond_true, decide_eq_true_eq] at h
    rw [h]
   ·rw [show decide (k = l) = false from decide_eq_false e] at h; cases h
  ·rename_i n' k a l b _
   by_cases e : k = l
   ·subst e
    simp only [decide_true, cond_true] at h
    rw [Nat.eq_of_beq_eq_true h]
   ·rw [show decide (k = l) = false from decide_eq_false e] at h; cases h
  ·rw [eqNs_eq h]
  ·rfl
  ·rfl
  ·rename_i m c a d b e1
   cases e : Nat.beq c d with
   | false => rw [e] at h; cases h
   | true =>
    rw [e, cond_true] at h
    cases e1
    rw [Nat.eq_of_beq_eq_true e, eqLL_eq ih _ _ h]
  ·rename_i m a b e1
   cases e1
   rw [eqL_eq ih _ _ h]
  ·cases h
def tms (tm : Tm) : Nat -> Nat -> List V
 | 0, _ => []
 | n + 1, i => tm i :: tms tm n (i + 1)
def findV (xs : List V) : List (List V × V × Hp) -> D
 | [] => .bad
 | (m, v, h) :: r => bif eqL (eqV 6) xs m then .done (.ret ⟨fun _ => v, fun _ => none, h⟩) else findV xs r
/-- a function run in an empty heap: what was shown to come of some values -/
def memoV (fn : Fn) (tb : List (List V × V × Hp)) : Fn := ⟨fn.ps, fn.rs, fn.md, [], fun st _ => bif isH0 st.hp then findV (tms st.tm fn.ps.length 0) tb else .bad⟩
theorem tms_arg (xs : List V) : ∀ (n i : Nat), i + n = xs.length -> tms (argT xs) n i = xs.drop i
 | 0, i, h => by rw [List.drop_of_length_le (by omega)]; rfl
 | n + 1, i, h => by
  have hi : i < xs.length := by omega
  rw [tms, tms_arg xs n (i + 1) (by omega), List.drop_eq_getElem_cons hi]
  simp [argT, List.getD, hi]
theorem findV_run {call : Call} {L : Nat} {x : List V} : ∀ {tb : List (List V × V × Hp)}, run call L (findV x tb) = .bad \/ ∃ v h, (x, v, h) ∈ tb /\ run call L (findV x tb) = .ret ⟨fun _ => v, fun _ => none, h⟩
 | [] => .inl rfl
 | (m, v, h) :: r => by
  cases e : eqL (eqV 6) x m with
  | true =>
   have := eqL_eq (eqV_eq 6) _ _ e
   subst this
   exact .inr ⟨v, h, by simp, by simp [findV, e, run]⟩
  | false =>
   have e' : run call L (findV x ((m, v, h) :: r)) = run call L (findV x r) := by simp [findV, e]
   rw [e']
   rcases findV_run (call := call) (L := L) (x := x) (tb := r) with q | ⟨v', h', q1, q3⟩
   ·exact .inl q
   ·exact .inr ⟨v', h', List.mem_cons_of_mem _ q1, q3⟩
theorem memoV_ok (T : Table P F mds) {f : Nat} {fn : Fn} (hF : F f = some fn) {tb : List (List V × V × Hp)}
  (hr : ∀ m v h, (m, v, h) ∈ tb -> ∃ L n, runF (callF F L n) L fn m h0 = .ret v h) : FnOK P mds f (memoV fn tb) := by
 refine ⟨(T.fns f fn hF).1, .inr fun call L' _ xs cs g hp w hgl hh ha => ?_⟩
 cases hl : Nat.beq xs.length (memoV fn tb).ps.length with
 | false => unfold runF; rw [hl]; trivial
 | true =>
  have hxl : xs.length = fn.ps.length := Nat.eq_of_beq_eq_true hl
  cases e : isH0 hp with
  | false =>
   have e' : runF call L' (memoV fn tb) xs hp = .bad := by unfold runF; rw [hl]; simp [memoV, bodyD, e, run, crOf]
   rw [e']; trivial
  | true =>
   have := isH0_eq e
   subst this
   have e' : runF call L' (memoV fn tb) xs h0 = crOf (run call L' (findV xs tb)) := by
    unfold runF; rw [hl]
    simp only [cond_true, memoV, bodyD, e]
    rw [tms_arg xs _ 0 (by omega), List.drop_zero]
   rw [e']
   rcases findV_run (call := call) (L := L') (x := xs) (tb := tb) with q | ⟨v, h, q1, q3⟩
   ·rw [q]; trivial
   ·rw [q3]
    obtain ⟨L, n, hr⟩ := hr xs v h q1
    obtain ⟨i1, i2⟩ := callF_ok (L := L) T n
    have := (T.run i1 i2 hF : RunOK P (callF F L n) L f fn) xs cs g h0 w hgl hh ha
    rw [hr] at this
    exact this
end Ev
