import Derived.Test.YtnnhhfjkkmakaaaGreatDoorGl
import Derived.Test.YtnnhhfjkkmakaaaGreatDoorEvF
import Derived.Test.YtnnhhfjkkmakaaaGreatDoorGrd0
-- guard.Call in the evaluator
namespace Go.Proofs.YtnnhhfjkkmakaaaGreatDoor
open Go Go.Proofs
theorem grd_real : Ev.GrdReal Tryz.prog 247 316 4 := fun a1 a2 w R f' hen hcall => grd.grd_call a1 a2 w R f' hen hcall
def cGrd : Ev.Fn := Ev.grdFn 316
theorem grd_run (call : Ev.Call) (L : Nat) (h : Ev.CallOK Tryz.prog call) : Ev.RunOK Tryz.prog call L 247 cGrd := Ev.grd_ok ⟨_, Tryz.func247, by decide +kernel, by kernel_rfl⟩ grd_real call L h
end Go.Proofs.YtnnhhfjkkmakaaaGreatDoor
