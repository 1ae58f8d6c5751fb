import Derived.Test.YtnnhhfjkkmakaaaGreatDoorEvE
import Derived.Test.YtnnhhfjkkmakaaaGreatDoorClk1
-- ProxyClock: its arguments read
namespace Go.Proofs.YtnnhhfjkkmakaaaGreatDoor.proxyClock
open Go hiding Fn
open Ev tab
theorem is_of {es : List (List V)} (h : ShE [.it .i64] es) : ∃ l : List Int, es = clk.is l ∧ l.length ≤ sizE es := by
  induction es with
  | nil => exact ⟨[], rfl, Nat.zero_le _⟩
  | cons e es ih =>
    cases h with
    | cons a r =>
      obtain ⟨l, rfl, h1⟩ := ih r
      obtain ⟨v, q, rfl, a1, a, z1⟩ := a.cons'
      cases a.nil'
      obtain ⟨n, rfl, _⟩ := int_of a1
      refine ⟨n :: l, rfl, ?_⟩
      simp only [sizE, sizL, siz, List.length_cons]; omega
theorem law (xs : List V) (hx : ShP [(false, [.sl [.it .i64]])] xs) (hb : sizP xs ≤ 1048576) : ∃ L k hp', runF (callF clk.Fk L k) L c4 xs h0 = .ret (.bo true) hp' := by
  obtain ⟨y, r, rfl, h3, h, e3⟩ := hx.one'
  cases h.nil'
  obtain ⟨es, rfl, h5, e5⟩ := slice_of h3
  obtain ⟨l, rfl, hn⟩ := is_of h5
  exact law_of d4 rfl (clk.clk_run l (by omega))
end Go.Proofs.YtnnhhfjkkmakaaaGreatDoor.proxyClock
