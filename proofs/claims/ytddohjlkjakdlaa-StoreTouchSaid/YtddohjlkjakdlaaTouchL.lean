import Derived.Test.YtddohjlkjakdlaaEvE
import Derived.Test.YtddohjlkjakdlaaTouch
import Derived.Test.YtddohjlkjakdlaaEvE
set_option linter.unusedVariables false
namespace Go.Proofs.Ytddohjlkjakdlaa
open Go hiding Fn
open Ev tab
theorem touch_law (xs : List V) (h : ShP [(false, [.it .i64]), (false, [.it .i64]), (false, [.bo])] xs) : ∃ L k hp', runF (callF F L k) L c5 xs h0 = .ret (.bo true) hp' := by
  obtain ⟨y, r, rfl, h3, h, e3⟩ := h.one'
  obtain ⟨z, r, rfl, h4, h, e4⟩ := h.one'
  obtain ⟨u, r, rfl, h5, h, e5⟩ := h.one'
  cases h.nil'
  obtain ⟨a, rfl, _⟩ := int_of h3
  obtain ⟨c, rfl, _⟩ := int_of h4
  obtain ⟨p, rfl⟩ := bool_of h5
  exact touch_run a c p
end Go.Proofs.Ytddohjlkjakdlaa
