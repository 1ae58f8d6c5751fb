import Derived.Test.YtndodhmfdjcjgaaGreatDoorEvE
import Derived.Test.YtndodhmfdjcjgaaGreatDoorRdP
set_option linter.unusedSectionVars false
set_option linter.unusedVariables false
set_option linter.unusedSimpArgs false
-- (EvHp EvOwn)
