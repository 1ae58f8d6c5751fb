import Derived.Test.YtnnhhfjkkmakaaaGreatDoorMemo
/- the closed run ScriptRuns -/
namespace Go.Proofs.YtnnhhfjkkmakaaaGreatDoor
open Go hiding Fn
open Ev tab
theorem runs5 : yes (runF (callF F2 20000 200) 20000 c5 [] h0) = true := by kernel_rfl
end Go.Proofs.YtnnhhfjkkmakaaaGreatDoor
