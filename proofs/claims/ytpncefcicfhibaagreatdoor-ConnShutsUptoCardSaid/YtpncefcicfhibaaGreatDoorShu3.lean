import Derived.Test.YtpncefcicfhibaaGreatDoorEvE
import Derived.Test.YtpncefcicfhibaaGreatDoorShu2
-- ConnShuts: its arguments read
namespace Go.Proofs.YtpncefcicfhibaaGreatDoor.connShuts
open Go hiding Fn
open Ev tab
theorem law (xs : List V) (hx : ShP [(false, [.it .u8]), (false, [.sl [.it .i64, .it .i64, .it .i64, .it .i64, .it .i64, .it .i64, .sl [.it .u8], .sl [.it .u8], .sl [.st, .st, .it .i64], .st, .bo]])] xs) (hb : sizP xs ≤ 1048576) : ∃ L k hp', runF (callF F L k) L c9 xs h0 = .ret (.bo true) hp' := by
  obtain ⟨y, r, rfl, h3, h, e3⟩ := hx.one'
  obtain ⟨z, r, rfl, h4, h, e4⟩ := h.one'
  cases h.nil'
  obtain ⟨a, rfl, _⟩ := int_of h3
  obtain ⟨es, rfl, h5, e5⟩ := slice_of h4
  obtain ⟨l, rfl, hn, hr⟩ := asks_of h5
  exact law_of d9 rfl (shuts.shuts_run a l (by omega) fun x hx => by have := hr x hx; omega)
end Go.Proofs.YtpncefcicfhibaaGreatDoor.connShuts
