import Derived.Test.YtpncefcicfhibaaGreatDoorFloE
set_option linter.unusedVariables false
set_option linter.unusedSimpArgs false
namespace Go.Proofs.YtpncefcicfhibaaGreatDoor.flow
open Go hiding Fn
open Ev tab refuses
theorem end81 (N : Nat) (b : Int) : En N b 81 = true := by kernel_rfl
theorem end82 (N : Nat) (b : Int) : En N b 82 = true := by kernel_rfl
theorem end83 (N : Nat) (b : Int) : En N b 83 = true := by kernel_rfl
theorem end84 (N : Nat) (b : Int) : En N b 84 = true := by kernel_rfl
theorem end85 (N : Nat) (b : Int) : En N b 85 = true := by kernel_rfl
theorem end86 (N : Nat) (b : Int) : En N b 86 = true := by kernel_rfl
theorem end87 (N : Nat) (b : Int) : En N b 87 = true := by kernel_rfl
theorem end88 (N : Nat) (b : Int) : En N b 88 = true := by kernel_rfl
theorem end89 (N : Nat) (b : Int) : En N b 89 = true := by kernel_rfl
theorem end90 (N : Nat) (b : Int) : En N b 90 = true := by kernel_rfl
theorem end91 (N : Nat) (b : Int) : En N b 91 = true := by kernel_rfl
theorem end92 (N : Nat) (b : Int) : En N b 92 = true := by kernel_rfl
theorem end93 (N : Nat) (b : Int) : En N b 93 = true := by kernel_rfl
theorem end94 (N : Nat) (b : Int) : En N b 94 = true := by kernel_rfl
theorem end95 (N : Nat) (b : Int) : En N b 95 = true := by kernel_rfl
theorem end96 (N : Nat) (b : Int) : En N b 96 = true := by kernel_rfl
theorem end97 (N : Nat) (b : Int) : En N b 97 = true := by kernel_rfl
theorem end98 (N : Nat) (b : Int) : En N b 98 = true := by kernel_rfl
theorem end99 (N : Nat) (b : Int) : En N b 99 = true := by kernel_rfl
theorem end100 (N : Nat) (b : Int) : En N b 100 = true := by kernel_rfl
theorem ends4 (N : Nat) (b k : Int) (h1 : 81 ≤ k) (h2 : k < 101) : En N b k = true := by
  have q : k = 81 ∨ k = 82 ∨ k = 83 ∨ k = 84 ∨ k = 85 ∨ k = 86 ∨ k = 87 ∨ k = 88 ∨ k = 89 ∨ k = 90 ∨ k = 91 ∨ k = 92 ∨ k = 93 ∨ k = 94 ∨ k = 95 ∨ k = 96 ∨ k = 97 ∨ k = 98 ∨ k = 99 ∨ k = 100 := by omega
  rcases q with rfl | rfl | rfl | rfl | rfl | rfl | rfl | rfl | rfl | rfl | rfl | rfl | rfl | rfl | rfl | rfl | rfl | rfl | rfl | rfl
  · exact end81 N b
  · exact end82 N b
  · exact end83 N b
  · exact end84 N b
  · exact end85 N b
  · exact end86 N b
  · exact end87 N b
  · exact end88 N b
  · exact end89 N b
  · exact end90 N b
  · exact end91 N b
  · exact end92 N b
  · exact end93 N b
  · exact end94 N b
  · exact end95 N b
  · exact end96 N b
  · exact end97 N b
  · exact end98 N b
  · exact end99 N b
  · exact end100 N b
end Go.Proofs.YtpncefcicfhibaaGreatDoor.flow
