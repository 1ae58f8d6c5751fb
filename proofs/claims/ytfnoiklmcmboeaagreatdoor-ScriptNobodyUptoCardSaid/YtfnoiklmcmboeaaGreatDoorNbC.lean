import Derived.Test.YtfnoiklmcmboeaaGreatDoorEvE
import Derived.Test.YtfnoiklmcmboeaaGreatDoorNbB
import Derived.Test.YtfnoiklmcmboeaaGreatDoorRun11
set_option linter.unusedVariables false
set_option linter.unusedSimpArgs false
set_option linter.unusedSectionVars false
/- the table, in which the closed run is known -/
namespace Go.Proofs.YtfnoiklmcmboeaaGreatDoor.cnw
open Go hiding Fn
open Ev tab
attribute [local irreducible] hp11
theorem tableQ : Table Tryz.prog Fq mds := Table.memo table2 table2 (f := 11) (fn := c11) (by rfl) rfl (by unfold hp11; exact yes_hp runs11)
end Go.Proofs.YtfnoiklmcmboeaaGreatDoor.cnw
