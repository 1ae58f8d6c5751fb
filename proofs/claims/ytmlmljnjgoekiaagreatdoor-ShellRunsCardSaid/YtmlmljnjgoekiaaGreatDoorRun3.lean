import Derived.Test.YtmlmljnjgoekiaaGreatDoorTabx1
set_option linter.unusedVariables false
set_option linter.unusedSimpArgs false
set_option linter.unusedSectionVars false
set_option linter.unusedVariables false
-- chapter 30's closed run, by the kernel
namespace Go.Proofs.YtmlmljnjgoekiaaGreatDoor
open Go hiding Fn
open Ev tab
theorem runs3 : yes (runF (callF F 20000 200) 20000 c3 [] h0) = true := by kernel_rfl
end Go.Proofs.YtmlmljnjgoekiaaGreatDoor
