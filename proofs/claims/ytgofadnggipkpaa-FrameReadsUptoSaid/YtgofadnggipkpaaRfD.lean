import Derived.Test.YtgofadnggipkpaaEvE
import Derived.Test.YtgofadnggipkpaaRfC
set_option linter.unusedVariables false
set_option linter.unusedSimpArgs false
set_option linter.unusedSectionVars false
-- both readers tell the same
namespace Go.Proofs.Ytgofadnggipkpaa.rf
open Go hiding Fn
open Ev tab
theorem strip_eta (p : List Nat) (b : List Int) : strip p b = ((strip p b).1, (strip p b).2.1, (strip p b).2.2) := rfl
/-- while the preface is still to come nothing waits -/
theorem same_feed (most : Int) (pre : List Nat) (buf b : List Int) (h : pre = [] ∨ buf = []) : rfeedG most pre buf b = feedG most pre buf b ∧ ((feedG most pre buf b).2.1 = [] ∨ (feedG most pre buf b).2.2.1 = []) := by
  by_cases hp : pre = []
  · subst hp
    have e1 : strip [] (buf ++ b) = ([], buf ++ b, false) := strip_nil _
    have e2 : strip [] b = ([], b, false) := strip_nil _
    constructor
    · simp only [rfeedG, feedG, e1, e2]; rfl
    · left; simp only [feedG, e2]; rfl
  · have hb : buf = [] := h.resolve_left hp
    subst hb
    have hse := strip_end pre b
    unfold rfeedG feedG
    rw [List.nil_append]
    generalize strip pre b = t at *
    obtain ⟨p', b', e⟩ := t
    cases e with
    | true => exact ⟨rfl, .inr rfl⟩
    | false =>
      cases p' with
      | nil => exact ⟨by simp, .inl rfl⟩
      | cons q qs =>
        have hb0 : b' = [] := hse.resolve_left (by simp)
        subst hb0
        have e3 : feedA most [] = ([], [], false) := by show feedM most (0 + 1) [] = _; unfold feedM; rfl
        refine ⟨?_, .inr ?_⟩
        · simp [e3, badC]
        · simp [e3]
theorem feedG_bytes (most : Int) (pre : List Nat) (buf b : List Int) (hb : Bytes buf) (hby : Bytes b) (hm : ∀ l, Bytes l → Bytes (feedA most l).2.1) : Bytes (feedG most pre buf b).2.2.1 := by
  unfold feedG
  have hs := strip_bytes pre hby
  generalize strip pre b = t at *
  obtain ⟨p', b', e⟩ := t
  cases e with
  | true => exact fun x hx => by cases hx
  | false => exact hm _ (hb.append hs)
theorem strip_pre_len : ∀ (p : List Nat) (b : List Int), (strip p b).1.length ≤ p.length
  | [], b => by rw [strip_nil]; exact Nat.le_refl _
  | p :: ps, [] => Nat.le_refl _
  | p :: ps, x :: xs => by
    unfold strip
    split
    · have := strip_pre_len ps xs; simp only [List.length_cons]; omega
    · exact Nat.le_refl _
end Go.Proofs.Ytgofadnggipkpaa.rf
