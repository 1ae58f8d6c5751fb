import Derived.Test.YtfnoiklmcmboeaaGreatDoorMemo
set_option linter.unusedVariables false
set_option linter.unusedSimpArgs false
set_option linter.unusedSectionVars false
/- the closed run ScriptRuns -/
namespace Go.Proofs.YtfnoiklmcmboeaaGreatDoor
open Go hiding Fn
open Ev tab
theorem runs11 : yes (runF (callF F2 20000 200) 20000 c11 [] h0) = true := by kernel_rfl
end Go.Proofs.YtfnoiklmcmboeaaGreatDoor
