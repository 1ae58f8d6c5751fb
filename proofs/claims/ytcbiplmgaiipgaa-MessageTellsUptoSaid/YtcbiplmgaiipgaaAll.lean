import Derived.Test.YtcbiplmgaiipgaaEvE
import Derived.Test.YtcbiplmgaiipgaaTok
set_option linter.unusedVariables false
set_option linter.unusedSimpArgs false
set_option linter.unusedSectionVars false
-- the fields of a name, joined; texts without blanks at their ends
namespace Go.Proofs.Ytcbiplmgaiipgaa
open Go hiding Fn
open Ev tab

/-- the values of the fields of a name -/
def valsF (l : List Fld) (name : List Nat) : List (List Nat) := (l.filter fun f => decide (f.1 = name)).map (·.2)
def sSep : List Nat := [44, 32]
def allF (l : List Fld) (name : List Nat) : List Nat := joinL (valsF l name) sSep
/-- fields whose values are not too long together -/
def JOK (l : List Fld) : Prop := l.length ≤ 3100 ∧ ∀ f, f ∈ l → f.1.length ≤ 3100 ∧ f.2.length ≤ 3100
attribute [local irreducible] EvD EvL EvC evGds evLs C.run sK bK gK pK fK lpB stepD
end Go.Proofs.Ytcbiplmgaiipgaa
