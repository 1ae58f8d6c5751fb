import Derived.Test.YtpncefcicfhibaaGreatDoorReg7
set_option linter.unusedVariables false
set_option linter.unusedSimpArgs false
namespace Go.Proofs.YtpncefcicfhibaaGreatDoor.refuses
open Go hiding Fn
open Ev tab
theorem allC7 (N : Nat) (b : Int) : AllC N (E7 b) :=
  ⟨⟨by kernel_rfl, by kernel_rfl⟩, ⟨by kernel_rfl, by kernel_rfl⟩, ⟨by kernel_rfl, by kernel_rfl⟩, ⟨by kernel_rfl, by kernel_rfl⟩, ⟨by kernel_rfl, by kernel_rfl⟩⟩
theorem factsB7 (N : Nat) (b : Int) : FactsB N b (E7 b) := factsB_of (allB7 N b) (allC7 N b)
end Go.Proofs.YtpncefcicfhibaaGreatDoor.refuses
