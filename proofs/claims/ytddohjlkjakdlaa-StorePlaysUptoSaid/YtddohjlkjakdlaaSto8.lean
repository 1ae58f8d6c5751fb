import Derived.Test.YtddohjlkjakdlaaEvE
import Derived.Test.YtddohjlkjakdlaaSto7
set_option linter.unusedVariables false
set_option linter.unusedSimpArgs false
set_option linter.unusedSectionVars false
set_option linter.unusedVariables false
set_option linter.unusedSimpArgs false
-- what the store's laws share
namespace Go.Proofs.Ytddohjlkjakdlaa
open Go hiding Fn
open Ev tab
theorem storeruns_go : ∀ N M, run (callF F (N + 3000) (M + 100)) (N + 3000) (bodyD c3 [] h0) = Rt (.bo true) (hpOf (run (callF F 3000 100) 3000 (bodyD c3 [] h0))) := by intro N M; kernel_rfl
theorem storeruns_ok : EvP F 3 c3 [] [.bo true] := .closed 3000 100 rfl rfl rfl rfl storeruns_go
/-- numbers, as a slice's elements -/
def iv (l : List Int) : List (List V) := l.map fun n => [.it .i64 n]
/-- entries without fields -/
def Plain (e : En) : Prop := e.q.fs = [] ∧ e.s.fs = []
def keysL (l : List En) : List (List Nat) := l.map fun e => keyS e.q
/-- plain entries, each of a key of its own -/
structure PL (l : List En) : Prop where
  p : ∀ e, e ∈ l → Plain e
  n : (keysL l).Nodup
end Go.Proofs.Ytddohjlkjakdlaa
