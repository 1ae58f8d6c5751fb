import Derived.Test.YtgofadnggipkpaaTab
import Derived.Test.YtgofadnggipkpaaEvStep
namespace Go.Proofs.Ytgofadnggipkpaa
open Go hiding Fn
open Ev tab
theorem runs_go : ∀ N M, run (callF F (N + 2000) (M + 60)) (N + 2000) (bodyD c3 [] h0) = Rt (.bo true) (hpOf (run (callF F 2000 60) 2000 (bodyD c3 [] h0))) := by
  intro N M; kernel_rfl
theorem runs_ok : EvP F 3 c3 [] [.bo true] := .closed 2000 60 rfl rfl rfl rfl runs_go
end Go.Proofs.Ytgofadnggipkpaa
