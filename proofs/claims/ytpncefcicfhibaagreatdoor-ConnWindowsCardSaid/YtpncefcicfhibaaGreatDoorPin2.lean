import Derived.Test.YtpncefcicfhibaaGreatDoorEvE
import Derived.Test.YtpncefcicfhibaaGreatDoorPin1
set_option linter.unusedVariables false
set_option linter.unusedSimpArgs false
set_option linter.unusedSectionVars false
set_option linter.unusedVariables false
set_option linter.unusedSimpArgs false
-- a PING (EvHp EvOwn)
namespace Go.Proofs.YtpncefcicfhibaaGreatDoor
open Go hiding Fn
open Ev tab
section
variable {tm : Tm} {lo : Lo} {hp : Hp}
/-- the end, of two boxes -/
theorem fin2 {dd : DFn} {vs : List V} {b1 b2 : Bool} {Q : R → Prop} (h : ∀ K : List V → D, resultsD ⟨tm, lo, hp⟩ dd.res K = .chk b1 (.chk b2 (K vs))) (h1 : b1 = true) (h2 : b2 = true) (q : Q (Rt (tuple vs) hp)) : EvQ F (fK dd (.ret ⟨tm, lo, hp⟩)) Q := by
  refine EvQ.of (x := Rt (tuple vs) hp) ?_ q
  show EvD F (resultsD ⟨tm, lo, hp⟩ dd.res fun vs => .done (.ret ⟨fun _ => tuple vs, fun _ => none, hp⟩)) _
  rw [h]; exact .chk h1 (.chk h2 (.done _))
end
attribute [local irreducible] EvP EvD EvL EvC evGds evLs C.run sK bK gK pK fK lpB stepD
set_option maxHeartbeats 8000000 in
theorem copied_ok (p : List Int) (hp : p.length ≤ 20000000) : EvP F 89 c89 [.vs 1 (bs p)] [.vs 1 (bs p)] := by
  have hB := apv_by (hp := h0) (by decide) p
  have hl := hB.lp
  obtain ⟨h1, z1, e1⟩ := close_by hB
  refine EvP.ofQ d89 rfl rfl rfl ?_
  refine EvQ.run ?_
  refine EvQ.lift (fun _ zn => X.apE (v := .vs 1 (bs p)) rfl rfl (By.vs h0 p) (by simp only [Nat.mul_one]; omega) zn) ?_
  repeat (first | refine EvQ.run ?_ | refine EvQ.fin X.rs ?_ | refine EvQ.fin1 (fun _ => rfl) rfl ?_)
  exact PQ.of (.c (e1 _ (by show p.length + 5 ≤ 100000000; omega)) (.nil _))
theorem bad_clo {a b c : Int} : CloL [.one, .one, .one] [.it .i64 a, .it .i64 b, .it .i64 c] := .cons (clo_it _ _) (.cons (clo_it _ _) (.cons (clo_it _ _) .nil))
end Go.Proofs.YtpncefcicfhibaaGreatDoor
