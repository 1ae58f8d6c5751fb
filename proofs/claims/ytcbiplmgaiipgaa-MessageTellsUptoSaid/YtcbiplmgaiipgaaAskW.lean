import Derived.Test.YtcbiplmgaiipgaaEvE
import Derived.Test.YtcbiplmgaiipgaaAskM
set_option linter.unusedVariables false
set_option linter.unusedSimpArgs false
set_option linter.unusedSectionVars false
-- merge.Ask
namespace Go.Proofs.Ytcbiplmgaiipgaa
open Go hiding Fn
open Ev tab
attribute [local irreducible] EvD EvL EvC evGds evLs C.run sK bK gK pK fK lpB stepD

theorem shed_eq {drop : List Nat} {lo LS : Lo} (h : ∀ t, (hasN drop t = true → LS t = none) ∧ (hasN drop t = false → lo t = LS t)) : shed drop lo = LS := by
  funext t
  unfold shed
  cases hh : hasN drop t with
  | true => exact ((h t).1 hh).symm
  | false => exact (h t).2 hh
theorem lset_ne {lo : Lo} {d j : Nat} {cs : List V} (h : j ≠ d) : lset lo d cs j = lo j := by
  unfold lset; rw [beqD, decide_eq_false h]; rfl
def askP (a b : Bool) (f : Fld) : Bool := (!a && !b) || !condB f.1
def askL (a b : Option (List Nat)) (l : List Fld) : List Fld := l.filter (askP a.isSome b.isSome) ++ (if a.isSome then [(sInm, a.getD [])] else []) ++ (if b.isSome then [(sSince, b.getD [])] else [])
def LSa (q : Rq) : Lo := lset (lset (fun _ => none) 3 (rowRq q)) 4 [.st [], .st [], .st [], .st [], .ns, .it .i64 0]
def withF2 (q : Rq) (l : List Fld) : Rq := { q with fs := l }
end Go.Proofs.Ytcbiplmgaiipgaa
