import Derived.Test.YtndodhmfdjcjgaaGreatDoorEvE
import Derived.Test.YtndodhmfdjcjgaaGreatDoorRdA
set_option linter.unusedSectionVars false
set_option linter.unusedVariables false
set_option linter.unusedSimpArgs false
-- (EvHp)
namespace Go.Proofs.YtndodhmfdjcjgaaGreatDoor
open Go hiding Fn
open Ev tab
attribute [local irreducible] EvP EvD EvL EvC evGds evLs C.run sK bK gK pK fK lpB stepD
/-- a frame's head -/
def h9 (ty fl s : Int) (n : Nat) : List Int := [(n : Int) / 65536 % 256, (n : Int) / 256 % 256, (n : Int) % 256, ty % 256, fl % 256, s / 16777216 % 256, s / 65536 % 256, s / 256 % 256, s % 256]
/-- what Put writes -/
def putL (b : List Int) (ty fl s : Int) (p : List Int) : List Int := if rightB ty fl s p.length then b ++ h9 ty fl s p.length ++ p else b
end Go.Proofs.YtndodhmfdjcjgaaGreatDoor
