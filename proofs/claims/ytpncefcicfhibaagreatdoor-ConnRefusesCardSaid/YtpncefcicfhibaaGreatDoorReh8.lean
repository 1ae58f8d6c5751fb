import Derived.Test.YtpncefcicfhibaaGreatDoorReg8
set_option linter.unusedVariables false
set_option linter.unusedSimpArgs false
namespace Go.Proofs.YtpncefcicfhibaaGreatDoor.refuses
open Go hiding Fn
open Ev tab
theorem allC8 (N : Nat) (b : Int) : AllC N (E8 b) :=
  ⟨⟨by kernel_rfl, by kernel_rfl⟩, ⟨by kernel_rfl, by kernel_rfl⟩, ⟨by kernel_rfl, by kernel_rfl⟩, ⟨by kernel_rfl, by kernel_rfl⟩, ⟨by kernel_rfl, by kernel_rfl⟩⟩
theorem factsB8 (N : Nat) (b : Int) : FactsB N b (E8 b) := factsB_of (allB8 N b) (allC8 N b)
end Go.Proofs.YtpncefcicfhibaaGreatDoor.refuses
