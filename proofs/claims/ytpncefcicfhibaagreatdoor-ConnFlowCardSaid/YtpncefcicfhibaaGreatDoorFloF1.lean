import Derived.Test.YtpncefcicfhibaaGreatDoorFloE
set_option linter.unusedVariables false
set_option linter.unusedSimpArgs false
namespace Go.Proofs.YtpncefcicfhibaaGreatDoor.flow
open Go hiding Fn
open Ev tab refuses
theorem end21 (N : Nat) (b : Int) : En N b 21 = true := by kernel_rfl
theorem end22 (N : Nat) (b : Int) : En N b 22 = true := by kernel_rfl
theorem end23 (N : Nat) (b : Int) : En N b 23 = true := by kernel_rfl
theorem end24 (N : Nat) (b : Int) : En N b 24 = true := by kernel_rfl
theorem end25 (N : Nat) (b : Int) : En N b 25 = true := by kernel_rfl
theorem end26 (N : Nat) (b : Int) : En N b 26 = true := by kernel_rfl
theorem end27 (N : Nat) (b : Int) : En N b 27 = true := by kernel_rfl
theorem end28 (N : Nat) (b : Int) : En N b 28 = true := by kernel_rfl
theorem end29 (N : Nat) (b : Int) : En N b 29 = true := by kernel_rfl
theorem end30 (N : Nat) (b : Int) : En N b 30 = true := by kernel_rfl
theorem end31 (N : Nat) (b : Int) : En N b 31 = true := by kernel_rfl
theorem end32 (N : Nat) (b : Int) : En N b 32 = true := by kernel_rfl
theorem end33 (N : Nat) (b : Int) : En N b 33 = true := by kernel_rfl
theorem end34 (N : Nat) (b : Int) : En N b 34 = true := by kernel_rfl
theorem end35 (N : Nat) (b : Int) : En N b 35 = true := by kernel_rfl
theorem end36 (N : Nat) (b : Int) : En N b 36 = true := by kernel_rfl
theorem end37 (N : Nat) (b : Int) : En N b 37 = true := by kernel_rfl
theorem end38 (N : Nat) (b : Int) : En N b 38 = true := by kernel_rfl
theorem end39 (N : Nat) (b : Int) : En N b 39 = true := by kernel_rfl
theorem end40 (N : Nat) (b : Int) : En N b 40 = true := by kernel_rfl
theorem ends1 (N : Nat) (b k : Int) (h1 : 21 ≤ k) (h2 : k < 41) : En N b k = true := by
  have q : k = 21 ∨ k = 22 ∨ k = 23 ∨ k = 24 ∨ k = 25 ∨ k = 26 ∨ k = 27 ∨ k = 28 ∨ k = 29 ∨ k = 30 ∨ k = 31 ∨ k = 32 ∨ k = 33 ∨ k = 34 ∨ k = 35 ∨ k = 36 ∨ k = 37 ∨ k = 38 ∨ k = 39 ∨ k = 40 := by omega
  rcases q with rfl | rfl | rfl | rfl | rfl | rfl | rfl | rfl | rfl | rfl | rfl | rfl | rfl | rfl | rfl | rfl | rfl | rfl | rfl | rfl
  · exact end21 N b
  · exact end22 N b
  · exact end23 N b
  · exact end24 N b
  · exact end25 N b
  · exact end26 N b
  · exact end27 N b
  · exact end28 N b
  · exact end29 N b
  · exact end30 N b
  · exact end31 N b
  · exact end32 N b
  · exact end33 N b
  · exact end34 N b
  · exact end35 N b
  · exact end36 N b
  · exact end37 N b
  · exact end38 N b
  · exact end39 N b
  · exact end40 N b
end Go.Proofs.YtpncefcicfhibaaGreatDoor.flow
