import Derived.Test.YtpncefcicfhibaaGreatDoorFloE
set_option linter.unusedVariables false
set_option linter.unusedSimpArgs false
namespace Go.Proofs.YtpncefcicfhibaaGreatDoor.flow
open Go hiding Fn
open Ev tab refuses
theorem end1 (N : Nat) (b : Int) : En N b 1 = true := by kernel_rfl
theorem end2 (N : Nat) (b : Int) : En N b 2 = true := by kernel_rfl
theorem end3 (N : Nat) (b : Int) : En N b 3 = true := by kernel_rfl
theorem end4 (N : Nat) (b : Int) : En N b 4 = true := by kernel_rfl
theorem end5 (N : Nat) (b : Int) : En N b 5 = true := by kernel_rfl
theorem end6 (N : Nat) (b : Int) : En N b 6 = true := by kernel_rfl
theorem end7 (N : Nat) (b : Int) : En N b 7 = true := by kernel_rfl
theorem end8 (N : Nat) (b : Int) : En N b 8 = true := by kernel_rfl
theorem end9 (N : Nat) (b : Int) : En N b 9 = true := by kernel_rfl
theorem end10 (N : Nat) (b : Int) : En N b 10 = true := by kernel_rfl
theorem end11 (N : Nat) (b : Int) : En N b 11 = true := by kernel_rfl
theorem end12 (N : Nat) (b : Int) : En N b 12 = true := by kernel_rfl
theorem end13 (N : Nat) (b : Int) : En N b 13 = true := by kernel_rfl
theorem end14 (N : Nat) (b : Int) : En N b 14 = true := by kernel_rfl
theorem end15 (N : Nat) (b : Int) : En N b 15 = true := by kernel_rfl
theorem end16 (N : Nat) (b : Int) : En N b 16 = true := by kernel_rfl
theorem end17 (N : Nat) (b : Int) : En N b 17 = true := by kernel_rfl
theorem end18 (N : Nat) (b : Int) : En N b 18 = true := by kernel_rfl
theorem end19 (N : Nat) (b : Int) : En N b 19 = true := by kernel_rfl
theorem end20 (N : Nat) (b : Int) : En N b 20 = true := by kernel_rfl
theorem ends0 (N : Nat) (b k : Int) (h1 : 1 ≤ k) (h2 : k < 21) : En N b k = true := by
  have q : k = 1 ∨ k = 2 ∨ k = 3 ∨ k = 4 ∨ k = 5 ∨ k = 6 ∨ k = 7 ∨ k = 8 ∨ k = 9 ∨ k = 10 ∨ k = 11 ∨ k = 12 ∨ k = 13 ∨ k = 14 ∨ k = 15 ∨ k = 16 ∨ k = 17 ∨ k = 18 ∨ k = 19 ∨ k = 20 := by omega
  rcases q with rfl | rfl | rfl | rfl | rfl | rfl | rfl | rfl | rfl | rfl | rfl | rfl | rfl | rfl | rfl | rfl | rfl | rfl | rfl | rfl
  · exact end1 N b
  · exact end2 N b
  · exact end3 N b
  · exact end4 N b
  · exact end5 N b
  · exact end6 N b
  · exact end7 N b
  · exact end8 N b
  · exact end9 N b
  · exact end10 N b
  · exact end11 N b
  · exact end12 N b
  · exact end13 N b
  · exact end14 N b
  · exact end15 N b
  · exact end16 N b
  · exact end17 N b
  · exact end18 N b
  · exact end19 N b
  · exact end20 N b
end Go.Proofs.YtpncefcicfhibaaGreatDoor.flow
