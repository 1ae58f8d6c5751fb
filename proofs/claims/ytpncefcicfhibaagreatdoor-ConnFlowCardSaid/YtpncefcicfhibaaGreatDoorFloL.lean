import Derived.Test.YtpncefcicfhibaaGreatDoorFlo0
import Derived.Test.YtpncefcicfhibaaGreatDoorFlo1
import Derived.Test.YtpncefcicfhibaaGreatDoorFlo2
import Derived.Test.YtpncefcicfhibaaGreatDoorFlo3
import Derived.Test.YtpncefcicfhibaaGreatDoorFlo4
import Derived.Test.YtpncefcicfhibaaGreatDoorFloF0
import Derived.Test.YtpncefcicfhibaaGreatDoorFloF1
import Derived.Test.YtpncefcicfhibaaGreatDoorFloF2
import Derived.Test.YtpncefcicfhibaaGreatDoorFloF3
import Derived.Test.YtpncefcicfhibaaGreatDoorFloF4
import Derived.Test.YtpncefcicfhibaaGreatDoorWit
set_option linter.unusedVariables false
set_option linter.unusedSimpArgs false
namespace Go.Proofs.YtpncefcicfhibaaGreatDoor.flow
open Go hiding Fn
open Ev tab refuses
theorem ends (N : Nat) (b k : Int) (h1 : 1 ≤ k) (h2 : k ≤ 100) : En N b k = true := by
  by_cases q1 : k < 21
  · exact ends0 N b k h1 q1
  by_cases q2 : k < 41
  · exact ends1 N b k (by omega) q2
  by_cases q3 : k < 61
  · exact ends2 N b k (by omega) q3
  by_cases q4 : k < 81
  · exact ends3 N b k (by omega) q4
  · exact ends4 N b k (by omega) (by omega)
def P (b : Int) : Nat → St
  | 0 => E0 b
  | 1 => E1 b
  | 2 => E2 b
  | 3 => E3 b
  | 4 => E4 b
  | _ => E5 b
theorem runF_of {call : Ev.Call} {L : Nat} {fn : Ev.Fn} {xs : List V} {hp : Hp} (hl : Nat.beq xs.length fn.ps.length = true) : runF call L fn xs hp = crOf (run call L (bodyD fn xs hp)) := by
  unfold runF; rw [hl]; rfl
theorem p0 (b : Int) : P b 0 = E0 b := rfl
theorem p1 (b : Int) : P b 1 = E1 b := rfl
theorem p2 (b : Int) : P b 2 = E2 b := rfl
theorem p3 (b : Int) : P b 3 = E3 b := rfl
theorem p4 (b : Int) : P b 4 = E4 b := rfl
theorem p5 (b : Int) : P b 5 = E5 b := rfl
attribute [local irreducible] P A Af5 E0 E1 E2 E3 E4 E5 cl Ev.run prepS normSt lpBody lpK lpSt isNorm
theorem steps (N : Nat) (b : Int) (i : Nat) (hi : i < 5) : isNorm (run (cl N) (N + 3000) (lpBody Af5 (P b i))) = true ∧ prepS Af5 (normSt (run (cl N) (N + 3000) (lpBody Af5 (P b i)))) = P b (i + 1) := by
  have q : i = 0 ∨ i = 1 ∨ i = 2 ∨ i = 3 ∨ i = 4 := by omega
  rcases q with rfl | rfl | rfl | rfl | rfl
  · rw [p0, show 0 + 1 = 1 from rfl, p1]; exact step0 N b
  · rw [p1, show 1 + 1 = 2 from rfl, p2]; exact step1 N b
  · rw [p2, show 2 + 1 = 3 from rfl, p3]; exact step2 N b
  · rw [p3, show 3 + 1 = 4 from rfl, p4]; exact step3 N b
  · rw [p4, show 4 + 1 = 5 from rfl, p5]; exact step4 N b
theorem all_rounds (N : Nat) (b : Int) : run (cl N) (N + 3000) (A N b) = run (cl N) (N + 3000) (D5 N b) := by
  obtain ⟨s1, s2, s3, s4, s5, s6⟩ := start N b
  have hp : ∀ s, prepS (A N b) s = prepS Af5 s := prepS_cong s2 s3
  have h := run_to (call := cl N) (L := N + 3000) s1 (P b) 5 (fun i hi => by rw [s4, hp]; exact steps N b i hi) (by rw [s4, p5]; exact last N b) (by omega) (by rw [p0]; exact s6)
  rw [h, s4, s5, p5]
  unfold D5
  rfl
theorem ends_run (N : Nat) (b k : Int) (e : En N b k = true) (u : ∀ own hp, callF F (N + 3000) (N + 100) own 25 [.it .i64 b, .it .i64 1, .it .i64 100] hp = .ret (.it .i64 k) hp) : yes (crOf (run (cl N) (N + 3000) (D5 N b))) = true := by
  have w1 := seek_step (stop := isW) (F := F) (L := N + 3000) (n := N + 100) (d := D5 N b) (by have := headW N b; rw [clEq] at this; exact this) u
  unfold En at e
  rw [clEq, ← w1, ← clEq] at e
  exact e
theorem flow_run (b : Int) : ∃ L n hp', runF (callF F L n) L c5 [.it .i64 b] h0 = .ret (.bo true) hp' := by
  obtain ⟨k, h1, h2, N, u1⟩ := within_u b 1 100 (by decide) (by decide) (by decide)
  have e := ends_run N b k (ends N b k h1 h2) (fun own hp => u1 _ _ own hp (by omega) (by omega))
  rw [← all_rounds] at e
  unfold A at e
  rw [seekL_run, clEq] at e
  obtain ⟨hp', hr⟩ := yes_ret e
  exact ⟨_, _, hp', (runF_of rfl).trans hr⟩
end Go.Proofs.YtpncefcicfhibaaGreatDoor.flow
