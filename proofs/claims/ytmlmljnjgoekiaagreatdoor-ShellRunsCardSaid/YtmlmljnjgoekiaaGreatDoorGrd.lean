import Derived.Test.YtmlmljnjgoekiaaGreatDoorGl
import Derived.Test.YtmlmljnjgoekiaaGreatDoorEvF
import Derived.Test.YtmlmljnjgoekiaaGreatDoorGrd0
set_option linter.unusedVariables false
set_option linter.unusedSimpArgs false
set_option linter.unusedSectionVars false
-- guard.Call in the evaluator
namespace Go.Proofs.YtmlmljnjgoekiaaGreatDoor
open Go Go.Proofs
theorem grd_real : Ev.GrdReal Tryz.prog 20 60 4 := fun a1 a2 w R f' hen hcall => grd.grd_call a1 a2 w R f' hen hcall
def cGrd : Ev.Fn := Ev.grdFn 60
theorem grd_run (call : Ev.Call) (L : Nat) (h : Ev.CallOK Tryz.prog call) : Ev.RunOK Tryz.prog call L 20 cGrd := Ev.grd_ok ⟨_, Tryz.func20, by decide +kernel, by kernel_rfl⟩ grd_real call L h
end Go.Proofs.YtmlmljnjgoekiaaGreatDoor
