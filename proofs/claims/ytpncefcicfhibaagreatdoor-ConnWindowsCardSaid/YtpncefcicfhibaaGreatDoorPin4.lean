import Derived.Test.YtpncefcicfhibaaGreatDoorEvE
import Derived.Test.YtpncefcicfhibaaGreatDoorPin3
set_option linter.unusedVariables false
set_option linter.unusedSimpArgs false
set_option linter.unusedSectionVars false
set_option linter.unusedVariables false
set_option linter.unusedSimpArgs false
-- a PING, heard by a connection (EvHp EvOwn)
namespace Go.Proofs.YtpncefcicfhibaaGreatDoor
open Go hiding Fn
open Ev tab
attribute [local irreducible] EvP EvD EvL EvC evGds evLs C.run sK bK gK pK fK lpB stepD
/-- a connection and what waits -/
structure PS (hp : Hp) (c : CnV) (q : List Int) : Prop where
  cn : CnO hp c
  q : Ow hp c.q 1 (bs q)
  q0 : ∀ id, idOf c.q = some id → 2 ≤ id
  rd : RdE hp
  nil : Nil hp
  lim : hp.lim = 0
  next : 2 ≤ hp.next
end Go.Proofs.YtpncefcicfhibaaGreatDoor
