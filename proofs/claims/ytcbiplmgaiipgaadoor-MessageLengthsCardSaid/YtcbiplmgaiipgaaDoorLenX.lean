import Derived.Test.YtcbiplmgaiipgaaDoorEvE
import Derived.Test.YtcbiplmgaiipgaaDoorLenW
set_option linter.unusedVariables false
set_option linter.unusedSimpArgs false
set_option linter.unusedSectionVars false
-- MessageLengths: its arguments
namespace Go.Proofs.YtcbiplmgaiipgaaDoor
open Go hiding Fn
open Ev tab
theorem len_law (xs : List V) (h : ShP [(false, [.it .u32]), (false, [.it .u32]), (false, [.bo])] xs) : ∃ L k hp', runF (callF F L k) L c3 xs h0 = .ret (.bo true) hp' := by
  obtain ⟨v, r, rfl, h1, h, e1⟩ := h.one'
  obtain ⟨w, r, rfl, h2, h, e2⟩ := h.one'
  obtain ⟨x, r, rfl, h3, h, e3⟩ := h.one'
  cases h.nil'
  obtain ⟨a, rfl, wa⟩ := int_of h1
  obtain ⟨b, rfl, wb⟩ := int_of h2
  obtain ⟨lg, rfl⟩ := bool_of h3
  have ba := bounds_u32 wa
  have bb := bounds_u32 wb
  exact law_of d3 rfl (len_run a b ba.1 (by omega) bb.1 (by omega) lg)
end Go.Proofs.YtcbiplmgaiipgaaDoor
