import Derived.Test.YtnnhhfjkkmakaaaGreatDoorEvF
set_option linter.unusedVariables false
set_option linter.unusedSimpArgs false
set_option linter.unusedSectionVars false
-- CalmReplies: a number's last three digits
namespace Go.Proofs.YtnnhhfjkkmakaaaGreatDoor.rep
open Go hiding Fn
open Ev
def dig3 (m : Nat) : List Nat := [48 + m / 100 % 10, 48 + m / 10 % 10, 48 + m % 10]
variable [Glob]
theorem dgs_cases (f u : Nat) : (u < 10 ∧ dgs (f + 1) u = [48 + u]) ∨ (¬ u < 10 ∧ dgs (f + 1) u = dgs f (u / 10) ++ [48 + u % 10]) := by
  by_cases h : u < 10
  · exact .inl ⟨h, dgs_lt h⟩
  · exact .inr ⟨h, dgs_ge h⟩
theorem tail3 (x : List Nat) (a b c : Nat) {s : List Nat} (h : s = x ++ [a, b, c]) : s.drop (s.length - 3) = [a, b, c] := by
  subst h
  rw [List.length_append, show x.length + [a, b, c].length - 3 = x.length from Nat.add_sub_cancel _ 3, List.drop_left]
theorem digs3 (f m : Nat) : ([48, 48, 48] ++ dgs (f + 3) m).drop (([48, 48, 48] ++ dgs (f + 3) m).length - 3) = dig3 m := by
  unfold dig3
  rcases dgs_cases (f + 2) m with ⟨h1, e1⟩ | ⟨h1, e1⟩
  · rw [show m / 100 % 10 = 0 by omega, show m / 10 % 10 = 0 by omega, show m % 10 = m by omega]
    exact tail3 [48] _ _ _ (by rw [e1]; rfl)
  · rcases dgs_cases (f + 1) (m / 10) with ⟨h2, e2⟩ | ⟨h2, e2⟩
    · rw [show m / 100 % 10 = 0 by omega, show m / 10 % 10 = m / 10 by omega]
      exact tail3 [48, 48] _ _ _ (by rw [e1, e2]; rfl)
    · rcases dgs_cases f (m / 10 / 10) with ⟨h3, e3⟩ | ⟨h3, e3⟩
      · rw [show m / 100 % 10 = m / 10 / 10 by omega]
        exact tail3 [48, 48, 48] _ _ _ (by rw [e1, e2, e3]; rfl)
      · rw [show m / 100 % 10 = m / 10 / 10 % 10 by omega]
        exact tail3 ([48, 48, 48] ++ dgs f (m / 10 / 10 / 10)) _ _ _ (by rw [e1, e2, e3]; simp)
end Go.Proofs.YtnnhhfjkkmakaaaGreatDoor.rep
