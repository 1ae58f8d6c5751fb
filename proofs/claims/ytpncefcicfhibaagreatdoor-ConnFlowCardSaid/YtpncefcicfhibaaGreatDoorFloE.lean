import Derived.Test.YtpncefcicfhibaaGreatDoorFloS
set_option linter.unusedVariables false
set_option linter.unusedSimpArgs false
namespace Go.Proofs.YtpncefcicfhibaaGreatDoor.flow
open Go hiding Fn
open Ev tab refuses
def D5 (N : Nat) (b : Int) : D := lpK Af5 (run (cl N) (N + 3000) (lpBody Af5 (E5 b)))
theorem last (N : Nat) (b : Int) : isNorm (run (cl N) (N + 3000) (lpBody Af5 (E5 b))) = false := by kernel_rfl
theorem headW (N : Nat) (b : Int) : headD (seek (cl N) (N + 3000) isW (D5 N b)) = some (25, [.it .i64 b, .it .i64 1, .it .i64 100]) := by kernel_rfl
def En (N : Nat) (b k : Int) : Bool := yes (crOf (run (cl N) (N + 3000) (resume (.it .i64 k) (seek (cl N) (N + 3000) isW (D5 N b)))))
end Go.Proofs.YtpncefcicfhibaaGreatDoor.flow
