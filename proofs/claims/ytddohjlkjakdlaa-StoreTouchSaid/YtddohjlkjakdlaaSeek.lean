import Derived.Test.YtddohjlkjakdlaaEvE
import Derived.Test.YtddohjlkjakdlaaEvE
set_option linter.unusedVariables false
namespace Ev
open Go
/-- a run up to a call that is left open -/
def seek (call : Call) (L : Nat) (stop : Nat → Bool) : D → D
  | .bad => .bad
  | .done r => .done r
  | .chk b d => bif b then seek call L stop d else .bad
  | .br b x y => bif b then seek call L stop x else seek call L stop y
  | .call own f xs hp k => bif stop f then .call own f xs hp k else forceL (fun xs => seek call L stop (k (call own f xs hp))) xs
  | .loop keep drop body st k => seek call L stop (k (iter (fun s => run call L (body s)) keep drop L st))

theorem seek_run (call : Call) (L : Nat) (stop : Nat → Bool) : ∀ d, run call L (seek call L stop d) = run call L d := by
  intro d
  induction d with
  | bad => rfl
  | done r => rfl
  | chk b d ih =>
    cases b with
    | true => exact ih
    | false => rfl
  | br b x y ih1 ih2 =>
    cases b with
    | true => exact ih1
    | false => exact ih2
  | call own f xs hp k ih =>
    show run call L (bif stop f then D.call own f xs hp k else forceL (fun xs => seek call L stop (k (call own f xs hp))) xs) = _
    cases stop f with
    | true => rfl
    | false =>
      simp only [cond_false, Ev.run, forceL_eq]
      exact ih _
  | loop keep drop body st k ih1 ih2 =>
    simp only [seek, Ev.run]
    exact ih2 _

/-- the call at which a run stands -/
def headD : D → Option (Nat × List V)
  | .call _ f xs _ _ => some (f, xs)
  | _ => none
/-- the call's answer, the heap left alone -/
def resume (v : V) : D → D
  | .call _ _ _ hp k => k (.ret v hp)
  | _ => .bad

/-- a call that answers alike in each heap -/
def EvU (F : Nat → Option Ev.Fn) (f : Nat) (xs : List V) (v : V) : Prop := ∃ N, ∀ L n own hp, N ≤ L → N ≤ n → callF F L n own f xs hp = .ret v hp

theorem EvU.ofP {F : Nat → Option Ev.Fn} {f : Nat} {fn : Ev.Fn} {xs : List V} {z : V} (h : EvP F f fn xs [z]) (hr : fn.rs = [.c .one]) (hc : ∀ hp, ClP fn.ps xs hp xs hp) : EvU F f xs z := by
  obtain ⟨h1, h2, h3, v, h, h', ⟨N, h4⟩, h5⟩ := h
  refine ⟨N + 1, fun L n own hp hL hn => ?_⟩
  cases n with
  | zero => omega
  | succ n =>
    simp only [callF, h1, h2, runP, (hc hp).close, runF, h3, cond_true]
    rw [h4 L n (by omega) (by omega)]
    show back own fn hp (.ret v h) = _
    rw [hr] at h5
    unfold back
    rw [hr]
    cases h5 with
    | c hq r =>
      cases r
      cases own with
      | true =>
        have e : ownP (.c .one) v h hp = (match closeP (.c .one) v h with | some (x, _) => some (x, hp) | none => none) := by
          unfold ownP
          cases v <;> rfl
        have hq' : closeC depth .one v h = some (z, h') := hq
        simp only [e, closeP, hq', tuple]
      | false =>
        have hq' : closeC depth .one v h = some (z, h') := hq
        show (match closeAll [PT.c .one] [v] h with | some (xs, _) => CR.ret (tuple xs) hp | none => .bad) = _
        simp only [closeAll, closeP, hq', tuple]

theorem seek_step {F : Nat → Option Ev.Fn} {L n : Nat} {stop : Nat → Bool} {d : D} {f : Nat} {xs : List V} {v : V} (hh : headD (seek (callF F L n) L stop d) = some (f, xs)) (hc : ∀ own hp, callF F L n own f xs hp = .ret v hp) :
    run (callF F L n) L d = run (callF F L n) L (resume v (seek (callF F L n) L stop d)) := by
  rw [← seek_run (callF F L n) L stop d]
  cases e : seek (callF F L n) L stop d with
  | call own g ys hp k =>
    rw [e] at hh
    simp only [headD, Option.some.injEq, Prod.mk.injEq] at hh
    obtain ⟨rfl, rfl⟩ := hh
    simp only [Ev.run, forceL_eq, resume, hc]
  | _ => rw [e] at hh; cases hh
end Ev
