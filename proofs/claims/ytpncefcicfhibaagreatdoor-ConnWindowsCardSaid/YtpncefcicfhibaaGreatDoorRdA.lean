import Derived.Test.YtpncefcicfhibaaGreatDoorEvE
import Derived.Test.YtpncefcicfhibaaGreatDoorTabx2
set_option linter.unusedVariables false
set_option linter.unusedSimpArgs false
set_option linter.unusedSectionVars false
set_option linter.unusedVariables false
set_option linter.unusedSimpArgs false
-- (EvHp EvOwn)
namespace Go.Proofs.YtpncefcicfhibaaGreatDoor
open Go hiding Fn
open Ev tab
attribute [local irreducible] EvP EvD EvL EvC evGds evLs C.run sK bK gK pK fK lpB stepD
def rightB (ty fl s : Int) (n : Nat) : Bool := decide (0 ≤ ty ∧ ty ≤ 255 ∧ 0 ≤ fl ∧ fl ≤ 255 ∧ 0 ≤ s ∧ s ≤ 2147483647 ∧ n ≤ 16777215)
def fr (ty fl s : Int) (p : List Int) : List V := [.it .i64 ty, .it .i64 fl, .it .i64 s, .vs 1 (bs p)]

theorem fr_clo (ty fl s : Int) (p : List Int) : CloL [.one, .one, .one, .sl [.one]] (fr ty fl s p) :=
  .cons (clo_it _ _) (.cons (clo_it _ _) (.cons (clo_it _ _) (.cons (clo_vs [.one] _) .nil)))

set_option maxHeartbeats 8000000 in
theorem right_ok (ty fl s : Int) (p : List Int) : EvP F 50 c50 [.ag (fr ty fl s p)] [.bo (rightB ty fl s p.length)] := by
  have hl := bs_length p
  unfold fr
  refine EvP.ofQ d50 rfl rfl rfl ?_
  repeat' (first | refine EvQ.run ?_ | (refine EvQ.pickB rfl rfl rfl ?_) | (refine EvQ.cond rfl (fun h => ?_) (fun h => ?_) <;> ((first | replace h := X.nm h | skip); try have hne := ne_len h)) | (refine EvQ.g1 rfl (fun h => ?_) (fun h => ?_) <;> ((first | replace h := X.nm h | skip); try have hne := ne_len h)) | (refine EvQ.pick rfl (fun _ => rfl) (fun _ => rfl) (fun h => ?_) (fun h => ?_) <;> ((first | replace h := X.nm h | skip); try have hne := ne_len h)) | refine EvQ.fin X.rs ?_ | refine EvQ.fin1 (fun _ => rfl) rfl ?_)
  all_goals
    refine PQ.bo ?_
    rw [Bool.eq_iff_iff]
    simp [rightB, ilt_eq, bs_length] at *
    try omega
end Go.Proofs.YtpncefcicfhibaaGreatDoor
