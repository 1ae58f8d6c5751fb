import Derived.Test.YtgofadnggipkpaaTab
namespace Go.Proofs.Ytgofadnggipkpaa.tab
open Go hiding Fn
open Ev
theorem runs : yes (runF (callF F 100 20) 100 c3 [] h0) = true := by kernel_rfl
end Go.Proofs.Ytgofadnggipkpaa.tab
