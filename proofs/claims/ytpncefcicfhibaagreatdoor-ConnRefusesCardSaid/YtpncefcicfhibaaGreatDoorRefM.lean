import Derived.Test.YtpncefcicfhibaaGreatDoorRefL
import Derived.Test.YtpncefcicfhibaaGreatDoorEvD
namespace Go.Proofs.YtpncefcicfhibaaGreatDoor.connRefuses
open Go hiding Fn
open Ev tab
theorem law (xs : List V) (hx : ShP [(false, [.it .i64]), (false, [.it .i64])] xs) : ∃ L k hp', runF (callF F L k) L c8 xs h0 = .ret (.bo true) hp' := by
  obtain ⟨y, r, rfl, h3, h, e3⟩ := hx.one'
  obtain ⟨z, r, rfl, h4, h, e4⟩ := h.one'
  cases h.nil'
  obtain ⟨a, rfl, _⟩ := int_of h3
  obtain ⟨c, rfl, _⟩ := int_of h4
  exact refuses.refuses_run a c
end Go.Proofs.YtpncefcicfhibaaGreatDoor.connRefuses
