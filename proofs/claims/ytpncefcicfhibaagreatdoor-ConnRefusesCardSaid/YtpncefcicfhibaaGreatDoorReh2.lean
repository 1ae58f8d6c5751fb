import Derived.Test.YtpncefcicfhibaaGreatDoorReg2
set_option linter.unusedVariables false
set_option linter.unusedSimpArgs false
namespace Go.Proofs.YtpncefcicfhibaaGreatDoor.refuses
open Go hiding Fn
open Ev tab
theorem allC2 (N : Nat) (b : Int) : AllC N (E2 b) :=
  ⟨⟨by kernel_rfl, by kernel_rfl⟩, ⟨by kernel_rfl, by kernel_rfl⟩, ⟨by kernel_rfl, by kernel_rfl⟩, ⟨by kernel_rfl, by kernel_rfl⟩, ⟨by kernel_rfl, by kernel_rfl⟩⟩
theorem factsB2 (N : Nat) (b : Int) : FactsB N b (E2 b) := factsB_of (allB2 N b) (allC2 N b)
end Go.Proofs.YtpncefcicfhibaaGreatDoor.refuses
