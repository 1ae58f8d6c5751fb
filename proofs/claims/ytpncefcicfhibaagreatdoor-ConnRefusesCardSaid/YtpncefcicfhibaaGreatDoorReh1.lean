import Derived.Test.YtpncefcicfhibaaGreatDoorReg1
set_option linter.unusedVariables false
set_option linter.unusedSimpArgs false
namespace Go.Proofs.YtpncefcicfhibaaGreatDoor.refuses
open Go hiding Fn
open Ev tab
theorem allC1 (N : Nat) (b : Int) : AllC N (E1 b) :=
  ⟨⟨by kernel_rfl, by kernel_rfl⟩, ⟨by kernel_rfl, by kernel_rfl⟩, ⟨by kernel_rfl, by kernel_rfl⟩, ⟨by kernel_rfl, by kernel_rfl⟩, ⟨by kernel_rfl, by kernel_rfl⟩⟩
theorem factsB1 (N : Nat) (b : Int) : FactsB N b (E1 b) := factsB_of (allB1 N b) (allC1 N b)
end Go.Proofs.YtpncefcicfhibaaGreatDoor.refuses
