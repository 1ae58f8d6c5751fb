import Derived.Test.YtpncefcicfhibaaGreatDoorEvE
import Derived.Test.YtpncefcicfhibaaGreatDoorBk5
-- ConnBack: its arguments read
namespace Go.Proofs.YtpncefcicfhibaaGreatDoor.connBack
open Go hiding Fn
open Ev tab
theorem law (xs : List V) (hx : ShP [(false, [.it .i64]), (false, [.it .u8])] xs) : ∃ L k hp', runF (callF F L k) L c7 xs h0 = .ret (.bo true) hp' := by
  obtain ⟨y, r, rfl, h3, h, e3⟩ := hx.one'
  obtain ⟨z, r, rfl, h4, h, e4⟩ := h.one'
  cases h.nil'
  obtain ⟨a, rfl, _⟩ := int_of h3
  obtain ⟨b, rfl, hw⟩ := int_of h4
  have hb := bounds_u8 hw
  obtain ⟨n, rfl⟩ : ∃ n : Nat, b = Int.ofNat n := ⟨b.toNat, by simp only [Int.ofNat_eq_natCast]; omega⟩
  exact law_of d7 rfl (back.back_run a n (by simp only [Int.ofNat_eq_natCast] at hb; omega))
end Go.Proofs.YtpncefcicfhibaaGreatDoor.connBack
