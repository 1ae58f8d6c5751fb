import Derived.Test.YtpncefcicfhibaaGreatDoorFloS
set_option linter.unusedVariables false
set_option linter.unusedSimpArgs false
namespace Go.Proofs.YtpncefcicfhibaaGreatDoor.flow
open Go hiding Fn
open Ev tab refuses
set_option maxRecDepth 100000000 in
theorem step2 (N : Nat) (b : Int) : isNorm (run (cl N) (N + 3000) (lpBody Af5 (E2 b))) = true ∧ prepS Af5 (normSt (run (cl N) (N + 3000) (lpBody Af5 (E2 b)))) = E3 b := ⟨by kernel_rfl, by kernel_rfl⟩
end Go.Proofs.YtpncefcicfhibaaGreatDoor.flow
