import Derived.Test.YtnnhhfjkkmakaaaGreatDoorMemo
/- the closed run CalmRuns -/
namespace Go.Proofs.YtnnhhfjkkmakaaaGreatDoor
open Go hiding Fn
open Ev tab
theorem runs6 : yes (runF (callF F2 20000 200) 20000 c6 [] h0) = true := by kernel_rfl
end Go.Proofs.YtnnhhfjkkmakaaaGreatDoor
