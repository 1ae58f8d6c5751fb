import Derived.Test.YtpncefcicfhibaaGreatDoorEvE
import Derived.Test.YtpncefcicfhibaaGreatDoorCw7
set_option linter.unusedVariables false
set_option linter.unusedSimpArgs false
set_option linter.unusedSectionVars false
-- ConnWindows: its arguments read
namespace Go.Proofs.YtpncefcicfhibaaGreatDoor.connWindows
open Go hiding Fn
open Ev tab
theorem is_of {es : List (List V)} (h : ShE [.it .i64] es) : ∃ l : List Int, es = win.is l := by
  induction es with
  | nil => exact ⟨[], rfl⟩
  | cons e es ih =>
    cases h with
    | cons a r =>
      obtain ⟨l, rfl⟩ := ih r
      obtain ⟨v, q, rfl, a1, a, z1⟩ := a.cons'
      cases a.nil'
      obtain ⟨n, rfl, _⟩ := int_of a1
      exact ⟨n :: l, rfl⟩
theorem law (xs : List V) (hx : ShP [(false, [.it .i64]), (false, [.sl [.it .i64]]), (false, [.it .i64])] xs) : ∃ L k hp', runF (callF F L k) L c6 xs h0 = .ret (.bo true) hp' := by
  obtain ⟨x, r, rfl, h1, h, e1⟩ := hx.one'
  obtain ⟨y, r, rfl, h2, h, e2⟩ := h.one'
  obtain ⟨z, r, rfl, h3, h, e3⟩ := h.one'
  cases h.nil'
  obtain ⟨a, rfl, _⟩ := int_of h1
  obtain ⟨es, rfl, h5, e5⟩ := slice_of h2
  obtain ⟨l, rfl⟩ := is_of h5
  obtain ⟨b, rfl, _⟩ := int_of h3
  exact law_of d6 rfl (win.win_run a l b)
end Go.Proofs.YtpncefcicfhibaaGreatDoor.connWindows
