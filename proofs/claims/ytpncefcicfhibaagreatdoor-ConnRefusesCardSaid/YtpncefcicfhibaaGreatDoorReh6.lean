import Derived.Test.YtpncefcicfhibaaGreatDoorReg6
set_option linter.unusedVariables false
set_option linter.unusedSimpArgs false
namespace Go.Proofs.YtpncefcicfhibaaGreatDoor.refuses
open Go hiding Fn
open Ev tab
theorem allC6 (N : Nat) (b : Int) : AllC N (E6 b) :=
  ⟨⟨by kernel_rfl, by kernel_rfl⟩, ⟨by kernel_rfl, by kernel_rfl⟩, ⟨by kernel_rfl, by kernel_rfl⟩, ⟨by kernel_rfl, by kernel_rfl⟩, ⟨by kernel_rfl, by kernel_rfl⟩⟩
theorem factsB6 (N : Nat) (b : Int) : FactsB N b (E6 b) := factsB_of (allB6 N b) (allC6 N b)
end Go.Proofs.YtpncefcicfhibaaGreatDoor.refuses
