import Derived.Test.YtpncefcicfhibaaGreatDoorReg4
set_option linter.unusedVariables false
set_option linter.unusedSimpArgs false
namespace Go.Proofs.YtpncefcicfhibaaGreatDoor.refuses
open Go hiding Fn
open Ev tab
theorem allC4 (N : Nat) (b : Int) : AllC N (E4 b) :=
  ⟨⟨by kernel_rfl, by kernel_rfl⟩, ⟨by kernel_rfl, by kernel_rfl⟩, ⟨by kernel_rfl, by kernel_rfl⟩, ⟨by kernel_rfl, by kernel_rfl⟩, ⟨by kernel_rfl, by kernel_rfl⟩⟩
theorem factsB4 (N : Nat) (b : Int) : FactsB N b (E4 b) := factsB_of (allB4 N b) (allC4 N b)
end Go.Proofs.YtpncefcicfhibaaGreatDoor.refuses
