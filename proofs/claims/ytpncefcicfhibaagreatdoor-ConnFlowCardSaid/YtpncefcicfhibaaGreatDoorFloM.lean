import Derived.Test.YtpncefcicfhibaaGreatDoorFloL
import Derived.Test.YtpncefcicfhibaaGreatDoorEvD
namespace Go.Proofs.YtpncefcicfhibaaGreatDoor.connFlow
open Go hiding Fn
open Ev tab
theorem law (xs : List V) (hx : ShP [(false, [.it .i64])] xs) : ∃ L k hp', runF (callF F L k) L c5 xs h0 = .ret (.bo true) hp' := by
  obtain ⟨y, r, rfl, h3, h, e3⟩ := hx.one'
  cases h.nil'
  obtain ⟨a, rfl, _⟩ := int_of h3
  exact flow.flow_run a
end Go.Proofs.YtpncefcicfhibaaGreatDoor.connFlow
