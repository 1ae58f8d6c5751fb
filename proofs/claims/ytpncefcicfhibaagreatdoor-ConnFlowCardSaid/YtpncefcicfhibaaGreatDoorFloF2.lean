import Derived.Test.YtpncefcicfhibaaGreatDoorFloE
set_option linter.unusedVariables false
set_option linter.unusedSimpArgs false
namespace Go.Proofs.YtpncefcicfhibaaGreatDoor.flow
open Go hiding Fn
open Ev tab refuses
theorem end41 (N : Nat) (b : Int) : En N b 41 = true := by kernel_rfl
theorem end42 (N : Nat) (b : Int) : En N b 42 = true := by kernel_rfl
theorem end43 (N : Nat) (b : Int) : En N b 43 = true := by kernel_rfl
theorem end44 (N : Nat) (b : Int) : En N b 44 = true := by kernel_rfl
theorem end45 (N : Nat) (b : Int) : En N b 45 = true := by kernel_rfl
theorem end46 (N : Nat) (b : Int) : En N b 46 = true := by kernel_rfl
theorem end47 (N : Nat) (b : Int) : En N b 47 = true := by kernel_rfl
theorem end48 (N : Nat) (b : Int) : En N b 48 = true := by kernel_rfl
theorem end49 (N : Nat) (b : Int) : En N b 49 = true := by kernel_rfl
theorem end50 (N : Nat) (b : Int) : En N b 50 = true := by kernel_rfl
theorem end51 (N : Nat) (b : Int) : En N b 51 = true := by kernel_rfl
theorem end52 (N : Nat) (b : Int) : En N b 52 = true := by kernel_rfl
theorem end53 (N : Nat) (b : Int) : En N b 53 = true := by kernel_rfl
theorem end54 (N : Nat) (b : Int) : En N b 54 = true := by kernel_rfl
theorem end55 (N : Nat) (b : Int) : En N b 55 = true := by kernel_rfl
theorem end56 (N : Nat) (b : Int) : En N b 56 = true := by kernel_rfl
theorem end57 (N : Nat) (b : Int) : En N b 57 = true := by kernel_rfl
theorem end58 (N : Nat) (b : Int) : En N b 58 = true := by kernel_rfl
theorem end59 (N : Nat) (b : Int) : En N b 59 = true := by kernel_rfl
theorem end60 (N : Nat) (b : Int) : En N b 60 = true := by kernel_rfl
theorem ends2 (N : Nat) (b k : Int) (h1 : 41 ≤ k) (h2 : k < 61) : En N b k = true := by
  have q : k = 41 ∨ k = 42 ∨ k = 43 ∨ k = 44 ∨ k = 45 ∨ k = 46 ∨ k = 47 ∨ k = 48 ∨ k = 49 ∨ k = 50 ∨ k = 51 ∨ k = 52 ∨ k = 53 ∨ k = 54 ∨ k = 55 ∨ k = 56 ∨ k = 57 ∨ k = 58 ∨ k = 59 ∨ k = 60 := by omega
  rcases q with rfl | rfl | rfl | rfl | rfl | rfl | rfl | rfl | rfl | rfl | rfl | rfl | rfl | rfl | rfl | rfl | rfl | rfl | rfl | rfl
  · exact end41 N b
  · exact end42 N b
  · exact end43 N b
  · exact end44 N b
  · exact end45 N b
  · exact end46 N b
  · exact end47 N b
  · exact end48 N b
  · exact end49 N b
  · exact end50 N b
  · exact end51 N b
  · exact end52 N b
  · exact end53 N b
  · exact end54 N b
  · exact end55 N b
  · exact end56 N b
  · exact end57 N b
  · exact end58 N b
  · exact end59 N b
  · exact end60 N b
end Go.Proofs.YtpncefcicfhibaaGreatDoor.flow
