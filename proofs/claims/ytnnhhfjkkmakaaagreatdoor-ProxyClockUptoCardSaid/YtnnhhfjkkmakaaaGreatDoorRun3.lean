import Derived.Test.YtnnhhfjkkmakaaaGreatDoorMemo3
/- the closed run ProxyRuns -/
namespace Go.Proofs.YtnnhhfjkkmakaaaGreatDoor
open Go hiding Fn
open Ev tab
theorem runs3 : yes (runF (callF F11 20000 200) 20000 c3 [] h0) = true := by kernel_rfl
end Go.Proofs.YtnnhhfjkkmakaaaGreatDoor
