import Derived.Test.YtpncefcicfhibaaGreatDoorReg9
set_option linter.unusedVariables false
set_option linter.unusedSimpArgs false
namespace Go.Proofs.YtpncefcicfhibaaGreatDoor.refuses
open Go hiding Fn
open Ev tab
theorem allC9 (N : Nat) (b : Int) : AllC N (E9 b) :=
  ⟨⟨by kernel_rfl, by kernel_rfl⟩, ⟨by kernel_rfl, by kernel_rfl⟩, ⟨by kernel_rfl, by kernel_rfl⟩, ⟨by kernel_rfl, by kernel_rfl⟩, ⟨by kernel_rfl, by kernel_rfl⟩⟩
theorem factsB9 (N : Nat) (b : Int) : FactsB N b (E9 b) := factsB_of (allB9 N b) (allC9 N b)
end Go.Proofs.YtpncefcicfhibaaGreatDoor.refuses
