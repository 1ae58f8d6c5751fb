import Derived.Test.YtpncefcicfhibaaGreatDoorReg5
set_option linter.unusedVariables false
set_option linter.unusedSimpArgs false
namespace Go.Proofs.YtpncefcicfhibaaGreatDoor.refuses
open Go hiding Fn
open Ev tab
theorem allC5 (N : Nat) (b : Int) : AllC N (E5 b) :=
  ⟨⟨by kernel_rfl, by kernel_rfl⟩, ⟨by kernel_rfl, by kernel_rfl⟩, ⟨by kernel_rfl, by kernel_rfl⟩, ⟨by kernel_rfl, by kernel_rfl⟩, ⟨by kernel_rfl, by kernel_rfl⟩⟩
theorem factsB5 (N : Nat) (b : Int) : FactsB N b (E5 b) := factsB_of (allB5 N b) (allC5 N b)
end Go.Proofs.YtpncefcicfhibaaGreatDoor.refuses
