import Derived.Test.YtfnoiklmcmboeaaGreatDoorMemo3
set_option linter.unusedVariables false
set_option linter.unusedSimpArgs false
set_option linter.unusedSectionVars false
/- the closed run ProxyRuns -/
namespace Go.Proofs.YtfnoiklmcmboeaaGreatDoor
open Go hiding Fn
open Ev tab
theorem runs9 : yes (runF (callF F11 20000 200) 20000 c9 [] h0) = true := by kernel_rfl
end Go.Proofs.YtfnoiklmcmboeaaGreatDoor
