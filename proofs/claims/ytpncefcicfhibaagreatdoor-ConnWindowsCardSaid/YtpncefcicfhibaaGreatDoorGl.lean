import Derived.Test.YtpncefcicfhibaaGreatDoorEvE
set_option linter.unusedVariables false
set_option linter.unusedSimpArgs false
set_option linter.unusedSectionVars false
/- nothing is known of this seat's package variables but what the evaluator never asks -/
namespace Go.Proofs.YtpncefcicfhibaaGreatDoor
instance noGlobals : Ev.Glob := ⟨fun _ => none⟩
theorem globOK {g : Ev.G} {hp : Ev.Hp} (w : Go.World) : Ev.GlobW g hp w := ⟨⟨fun _ _ h => nomatch h⟩, fun _ _ h => nomatch h⟩
end Go.Proofs.YtpncefcicfhibaaGreatDoor
