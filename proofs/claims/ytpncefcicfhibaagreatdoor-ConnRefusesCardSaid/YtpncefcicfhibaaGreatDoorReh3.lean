import Derived.Test.YtpncefcicfhibaaGreatDoorReg3
set_option linter.unusedVariables false
set_option linter.unusedSimpArgs false
namespace Go.Proofs.YtpncefcicfhibaaGreatDoor.refuses
open Go hiding Fn
open Ev tab
theorem allC3 (N : Nat) (b : Int) : AllC N (E3 b) :=
  ⟨⟨by kernel_rfl, by kernel_rfl⟩, ⟨by kernel_rfl, by kernel_rfl⟩, ⟨by kernel_rfl, by kernel_rfl⟩, ⟨by kernel_rfl, by kernel_rfl⟩, ⟨by kernel_rfl, by kernel_rfl⟩⟩
theorem factsB3 (N : Nat) (b : Int) : FactsB N b (E3 b) := factsB_of (allB3 N b) (allC3 N b)
end Go.Proofs.YtpncefcicfhibaaGreatDoor.refuses
