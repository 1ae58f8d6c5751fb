import Derived.Test.YtpncefcicfhibaaGreatDoorEvE
import Derived.Test.YtpncefcicfhibaaGreatDoorPin4
import Derived.Test.YtpncefcicfhibaaGreatDoorRdP
import Derived.Test.YtpncefcicfhibaaGreatDoorRdS
set_option linter.unusedVariables false
set_option linter.unusedSimpArgs false
set_option linter.unusedSectionVars false
set_option linter.unusedVariables false
set_option linter.unusedSimpArgs false
-- ConnPings (EvHp EvOwn)
namespace Go.Proofs.YtpncefcicfhibaaGreatDoor
open Go hiding Fn
open Ev tab
attribute [local irreducible] EvP EvD EvL EvC evGds evLs C.run sK bK gK pK fK lpB stepD
theorem wr8_b (n : Int) : 0 ≤ wr .u8 n ∧ wr .u8 n ≤ 255 := by rw [wr8m]; omega
def us (l : List Int) : List (List V) := l.map fun n => [.it .u32 n]
theorem ow_by {hp : Hp} {v : V} {q : List Int} (h : Ow hp v 1 (bs q)) : By hp v q := by
  rcases h with ⟨rfl, e⟩ | ⟨id, rfl, q1, q2, q3⟩
  · have : q = [] := by cases q with
      | nil => rfl
      | cons a l => simp [bs] at e
    subst this; exact .ns _
  · have := By.new (fr := false) q1 q2 q3
    rw [bs_length]; exact this
end Go.Proofs.YtpncefcicfhibaaGreatDoor
