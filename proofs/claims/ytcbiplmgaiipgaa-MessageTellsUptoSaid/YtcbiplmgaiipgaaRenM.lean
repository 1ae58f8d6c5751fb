import Derived.Test.YtcbiplmgaiipgaaEvE
import Derived.Test.YtcbiplmgaiipgaaAskM
set_option linter.unusedVariables false
set_option linter.unusedSimpArgs false
set_option linter.unusedSectionVars false
-- renewed entries: the plain law
namespace Go.Proofs.Ytcbiplmgaiipgaa
open Go hiding Fn
open Ev tab
def sAge : List Nat := [97, 103, 101]
def renP (s : List Fld) (f : Fld) : Bool := (contB f.1 || !hasF s f.1) && (hasF s sAge || !decide (f.1 = sAge))
def renQ (f : Fld) : Bool := !contB f.1
def renL (l s : List Fld) : List Fld := l.filter (renP s) ++ s.filter renQ
def renE (e : En) (s : Rs) (a c : Int) : En := { e with s := { e.s with fs := renL e.s.fs s.fs }, asked := a, came := c }
/-- the document's own -/
def mrgP (s : List Fld) (f : Fld) : Bool := contB f.1 || !hasF s f.1
end Go.Proofs.Ytcbiplmgaiipgaa
