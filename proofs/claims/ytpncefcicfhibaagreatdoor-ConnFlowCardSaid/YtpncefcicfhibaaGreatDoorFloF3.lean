import Derived.Test.YtpncefcicfhibaaGreatDoorFloE
set_option linter.unusedVariables false
set_option linter.unusedSimpArgs false
namespace Go.Proofs.YtpncefcicfhibaaGreatDoor.flow
open Go hiding Fn
open Ev tab refuses
theorem end61 (N : Nat) (b : Int) : En N b 61 = true := by kernel_rfl
theorem end62 (N : Nat) (b : Int) : En N b 62 = true := by kernel_rfl
theorem end63 (N : Nat) (b : Int) : En N b 63 = true := by kernel_rfl
theorem end64 (N : Nat) (b : Int) : En N b 64 = true := by kernel_rfl
theorem end65 (N : Nat) (b : Int) : En N b 65 = true := by kernel_rfl
theorem end66 (N : Nat) (b : Int) : En N b 66 = true := by kernel_rfl
theorem end67 (N : Nat) (b : Int) : En N b 67 = true := by kernel_rfl
theorem end68 (N : Nat) (b : Int) : En N b 68 = true := by kernel_rfl
theorem end69 (N : Nat) (b : Int) : En N b 69 = true := by kernel_rfl
theorem end70 (N : Nat) (b : Int) : En N b 70 = true := by kernel_rfl
theorem end71 (N : Nat) (b : Int) : En N b 71 = true := by kernel_rfl
theorem end72 (N : Nat) (b : Int) : En N b 72 = true := by kernel_rfl
theorem end73 (N : Nat) (b : Int) : En N b 73 = true := by kernel_rfl
theorem end74 (N : Nat) (b : Int) : En N b 74 = true := by kernel_rfl
theorem end75 (N : Nat) (b : Int) : En N b 75 = true := by kernel_rfl
theorem end76 (N : Nat) (b : Int) : En N b 76 = true := by kernel_rfl
theorem end77 (N : Nat) (b : Int) : En N b 77 = true := by kernel_rfl
theorem end78 (N : Nat) (b : Int) : En N b 78 = true := by kernel_rfl
theorem end79 (N : Nat) (b : Int) : En N b 79 = true := by kernel_rfl
theorem end80 (N : Nat) (b : Int) : En N b 80 = true := by kernel_rfl
theorem ends3 (N : Nat) (b k : Int) (h1 : 61 ≤ k) (h2 : k < 81) : En N b k = true := by
  have q : k = 61 ∨ k = 62 ∨ k = 63 ∨ k = 64 ∨ k = 65 ∨ k = 66 ∨ k = 67 ∨ k = 68 ∨ k = 69 ∨ k = 70 ∨ k = 71 ∨ k = 72 ∨ k = 73 ∨ k = 74 ∨ k = 75 ∨ k = 76 ∨ k = 77 ∨ k = 78 ∨ k = 79 ∨ k = 80 := by omega
  rcases q with rfl | rfl | rfl | rfl | rfl | rfl | rfl | rfl | rfl | rfl | rfl | rfl | rfl | rfl | rfl | rfl | rfl | rfl | rfl | rfl
  · exact end61 N b
  · exact end62 N b
  · exact end63 N b
  · exact end64 N b
  · exact end65 N b
  · exact end66 N b
  · exact end67 N b
  · exact end68 N b
  · exact end69 N b
  · exact end70 N b
  · exact end71 N b
  · exact end72 N b
  · exact end73 N b
  · exact end74 N b
  · exact end75 N b
  · exact end76 N b
  · exact end77 N b
  · exact end78 N b
  · exact end79 N b
  · exact end80 N b
end Go.Proofs.YtpncefcicfhibaaGreatDoor.flow
