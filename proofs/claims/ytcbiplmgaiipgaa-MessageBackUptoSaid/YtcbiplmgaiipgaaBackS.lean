import Derived.Test.YtcbiplmgaiipgaaEvE
import Derived.Test.YtcbiplmgaiipgaaBackR
set_option linter.unusedVariables false
set_option linter.unusedSimpArgs false
set_option linter.unusedSectionVars false
-- MessageBack: its arguments
namespace Go.Proofs.Ytcbiplmgaiipgaa
open Go hiding Fn
open Ev tab
theorem back_law (xs : List V) (h : ShP [(false, [.sl [.st, .st]])] xs) (hb : sizP xs ≤ 1048576) : ∃ L k hp', runF (callF F L k) L c4 xs h0 = .ret (.bo true) hp' := by
  obtain ⟨v, r, rfl, h1, h, e1⟩ := h.one'
  cases h.nil'
  obtain ⟨es, rfl, he, ze⟩ := slice_of h1
  obtain ⟨l, rfl, tm, lm, lq⟩ := fields_of he
  refine law_of d4 rfl (back_run l tm ?_ ?_)
  · intro f hf; have := lq f hf; omega
  · omega
end Go.Proofs.Ytcbiplmgaiipgaa
