import Derived.Test.YtpncefcicfhibaaGreatDoorRef1
import Derived.Test.YtpncefcicfhibaaGreatDoorReh1
import Derived.Test.YtpncefcicfhibaaGreatDoorRef2
import Derived.Test.YtpncefcicfhibaaGreatDoorReh2
import Derived.Test.YtpncefcicfhibaaGreatDoorRef3
import Derived.Test.YtpncefcicfhibaaGreatDoorReh3
import Derived.Test.YtpncefcicfhibaaGreatDoorRef4
import Derived.Test.YtpncefcicfhibaaGreatDoorReh4
import Derived.Test.YtpncefcicfhibaaGreatDoorRef5
import Derived.Test.YtpncefcicfhibaaGreatDoorReh5
import Derived.Test.YtpncefcicfhibaaGreatDoorRef6
import Derived.Test.YtpncefcicfhibaaGreatDoorReh6
import Derived.Test.YtpncefcicfhibaaGreatDoorRef7
import Derived.Test.YtpncefcicfhibaaGreatDoorReh7
import Derived.Test.YtpncefcicfhibaaGreatDoorRef8
import Derived.Test.YtpncefcicfhibaaGreatDoorReh8
import Derived.Test.YtpncefcicfhibaaGreatDoorRef9
import Derived.Test.YtpncefcicfhibaaGreatDoorReh9
import Derived.Test.YtpncefcicfhibaaGreatDoorWit
set_option linter.unusedVariables false
set_option linter.unusedSimpArgs false
namespace Go.Proofs.YtpncefcicfhibaaGreatDoor.refuses
open Go hiding Fn
open Ev tab
theorem facts (N : Nat) (k w a : Int) (n : Nat) (h1 : 1 ≤ a) (h2 : a ≤ 9) (hn : n ≤ 20) : yes (crOf (run (cl N) (N + 3000) (A2 N k w a (Int.ofNat n)))) = true := by
  have q : a = 1 ∨ a = 2 ∨ a = 3 ∨ a = 4 ∨ a = 5 ∨ a = 6 ∨ a = 7 ∨ a = 8 ∨ a = 9 := by omega
  rcases q with rfl | rfl | rfl | rfl | rfl | rfl | rfl | rfl | rfl
  · exact yes_of (factsA1 N k w _) (factsB1 N _) hn
  · exact yes_of (factsA2 N k w _) (factsB2 N _) hn
  · exact yes_of (factsA3 N k w _) (factsB3 N _) hn
  · exact yes_of (factsA4 N k w _) (factsB4 N _) hn
  · exact yes_of (factsA5 N k w _) (factsB5 N _) hn
  · exact yes_of (factsA6 N k w _) (factsB6 N _) hn
  · exact yes_of (factsA7 N k w _) (factsB7 N _) hn
  · exact yes_of (factsA8 N k w _) (factsB8 N _) hn
  · exact yes_of (factsA9 N k w _) (factsB9 N _) hn
theorem refuses_run (k w : Int) : ∃ L n hp', runF (callF F L n) L c8 [.it .i64 k, .it .i64 w] h0 = .ret (.bo true) hp' := by
  obtain ⟨a, h1, h2, N1, u1⟩ := within_u k 1 9 (by decide) (by decide) (by decide)
  obtain ⟨b, h3, h4, N2, u2⟩ := within_u w 0 20 (by decide) (by omega) (by omega)
  obtain ⟨n, rfl⟩ : ∃ n : Nat, b = Int.ofNat n := ⟨b.toNat, by simp; omega⟩
  have e := facts (max N1 N2) k w a n h1 h2 (by simp at h4; omega)
  have s1 := seek_step (stop := isW) (by have := head1 (max N1 N2) k w; rw [clEq] at this; exact this) (fun own hp => u1 _ _ own hp (by omega) (by omega))
  have s2 := seek_step (stop := isW) (by have := head2 (max N1 N2) k w a; rw [clEq] at this; exact this) (fun own hp => u2 _ _ own hp (by omega) (by omega))
  unfold A2 at e
  rw [seekL_run, clEq, ← s2] at e
  unfold A1 at e
  rw [clEq, ← s1] at e
  obtain ⟨hp', hr⟩ := yes_ret e
  exact ⟨_, _, hp', hr⟩
end Go.Proofs.YtpncefcicfhibaaGreatDoor.refuses
