import Derived.Test.YtpncefcicfhibaaGreatDoorEvE
import Derived.Test.YtpncefcicfhibaaGreatDoorPin7
-- ConnPings: its arguments read
namespace Go.Proofs.YtpncefcicfhibaaGreatDoor.connPings
open Go hiding Fn
open Ev tab
theorem us_of {es : List (List V)} (h : ShE [.it .u32] es) : ∃ l : List Int, es = us l ∧ l.length ≤ sizE es := by
  induction es with
  | nil => exact ⟨[], rfl, Nat.zero_le _⟩
  | cons e es ih =>
    cases h with
    | cons a r =>
      obtain ⟨l, rfl, h1⟩ := ih r
      obtain ⟨v, q, rfl, a1, a, z1⟩ := a.cons'
      cases a.nil'
      obtain ⟨n, rfl, _⟩ := int_of a1
      refine ⟨n :: l, rfl, ?_⟩
      simp only [sizE, sizL, siz, List.length_cons]; omega
theorem bls_of {es : List (List V)} (h : ShE [.bo] es) : ∃ l : List Bool, es = bls l ∧ l.length ≤ sizE es := by
  induction es with
  | nil => exact ⟨[], rfl, Nat.zero_le _⟩
  | cons e es ih =>
    cases h with
    | cons a r =>
      obtain ⟨l, rfl, h1⟩ := ih r
      obtain ⟨v, q, rfl, a1, a, z1⟩ := a.cons'
      cases a.nil'
      obtain ⟨b, rfl⟩ := bool_of a1
      refine ⟨b :: l, rfl, ?_⟩
      simp only [sizE, sizL, siz, List.length_cons]; omega
theorem law (xs : List V) (hx : ShP [(false, [.sl [.it .u32]]), (false, [.sl [.bo]])] xs) (hb : sizP xs ≤ 1048576) : ∃ L k hp', runF (callF F L k) L c4 xs h0 = .ret (.bo true) hp' := by
  obtain ⟨y, r, rfl, h3, h, e3⟩ := hx.one'
  obtain ⟨z, r, rfl, h4, h, e4⟩ := h.one'
  cases h.nil'
  obtain ⟨es, rfl, h5, e5⟩ := slice_of h3
  obtain ⟨fs, rfl, h6, e6⟩ := slice_of h4
  obtain ⟨l, rfl, hn⟩ := us_of h5
  obtain ⟨m, rfl, hm⟩ := bls_of h6
  exact law_of d4 rfl (pings.pings_run l m (by omega) (by omega))
end Go.Proofs.YtpncefcicfhibaaGreatDoor.connPings
