import Derived.Test.YtcbiplmgaiipgaaEvD
/- nothing is known of this seat's package variables but what the evaluator never asks -/
namespace Go.Proofs.Ytcbiplmgaiipgaa
instance noGlobals : Ev.Glob := ⟨fun _ => none⟩
theorem globOK (κ : Ev.K) : Ev.GlobOK κ := ⟨fun _ _ h => nomatch h⟩
end Go.Proofs.Ytcbiplmgaiipgaa
