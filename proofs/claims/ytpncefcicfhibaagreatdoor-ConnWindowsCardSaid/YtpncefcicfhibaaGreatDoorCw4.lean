import Derived.Test.YtpncefcicfhibaaGreatDoorEvE
import Derived.Test.YtpncefcicfhibaaGreatDoorCw3
set_option linter.unusedVariables false
set_option linter.unusedSimpArgs false
set_option linter.unusedSectionVars false
-- DATA, said (EvHp EvOwn)
namespace Go.Proofs.YtpncefcicfhibaaGreatDoor.win
open Go hiding Fn
open Ev tab back
attribute [local irreducible] EvP EvD EvL EvC EvO evGds evLs C.run sK bK gK pK fK lpB stepD numE bareE
set_option maxHeartbeats 16000000 in
theorem least_ok (L o w : Nat) (h : L ≤ o) : EvP F 47 c47 [.it .i64 (Int.ofNat L), .vs 1 [[.it .i64 (Int.ofNat o)], [.it .i64 (Int.ofNat w)]]] [.it .i64 (Int.ofNat (min L w))] := by
  have e1 : (bif ilt (Int.ofNat o) (Int.ofNat L) then Int.ofNat o else Int.ofNat L) = Int.ofNat L := by
    have : ilt (Int.ofNat o) (Int.ofNat L) = false := by rw [ilt_eq]; exact decide_eq_false (by simp only [Int.ofNat_eq_natCast]; omega)
    rw [this]; rfl
  have e2 : (bif ilt (Int.ofNat w) (Int.ofNat L) then Int.ofNat w else Int.ofNat L) = Int.ofNat (min L w) := by
    by_cases hw : w < L
    · have : ilt (Int.ofNat w) (Int.ofNat L) = true := by rw [ilt_eq]; exact decide_eq_true (by simp only [Int.ofNat_eq_natCast]; omega)
      rw [this, Nat.min_eq_right (by omega)]; rfl
    · have : ilt (Int.ofNat w) (Int.ofNat L) = false := by rw [ilt_eq]; exact decide_eq_false (by simp only [Int.ofNat_eq_natCast]; omega)
      rw [this, Nat.min_eq_left (by omega)]; rfl
  have e3 : (bif ilt (Int.ofNat (min L w)) (Int.ofNat 0) then Int.ofNat 0 else Int.ofNat (min L w)) = Int.ofNat (min L w) := by
    have : ilt (Int.ofNat (min L w)) (Int.ofNat 0) = false := by rw [ilt_eq]; exact decide_eq_false (by simp only [Int.ofNat_eq_natCast]; omega)
    rw [this]; rfl
  generalize min L w = m at *
  refine EvP.ofQ d47 rfl rfl rfl ?_
  repeat (first | refine EvQ.run ?_ | refine EvQ.fin X.rs ?_ | refine EvQ.fin1 (fun _ => rfl) rfl ?_)
  refine EvQ.loop (QL := XtQ 0 [(0, .it .i64 (Int.ofNat m))] (fun _ _ => True)) ?_ ?_
  · refine EvL.invQ (S := Nat × Int) (fun y => [(0, .it .i64 y.2), (7, .vs 1 [[.it .i64 (Int.ofNat o)], [.it .i64 (Int.ofNat w)]]), (8, .it .i64 (Int.ofNat 2)), (9, .it .i64 (Int.ofNat y.1))])
      (fun y lo hp => shed [6] lo = (fun _ => none) ∧ hp = h0 ∧ ((y.1 = 0 ∧ y.2 = Int.ofNat L) ∨ (y.1 = 1 ∧ y.2 = Int.ofNat L) ∨ (y.1 = 2 ∧ y.2 = Int.ofNat m))) (fun y => 2 - y.1) _ ?_ (0, Int.ofNat L) _ _ _ ⟨X.lo, rfl, .inl ⟨rfl, rfl⟩⟩ X.kv
    rintro ⟨i, x⟩ lo hp ⟨q1, rfl, ⟨rfl, rfl⟩ | ⟨rfl, rfl⟩ | ⟨rfl, rfl⟩⟩
    · rw [q1]
      repeat (first | refine EvQ.run ?_ | refine EvQ.fin X.rs ?_ | refine EvQ.fin1 (fun _ => rfl) rfl ?_)
      refine EvQ.go (1, bif ilt (Int.ofNat o) (Int.ofNat L) then Int.ofNat o else Int.ofNat L) X.kv ⟨X.lo, rfl, .inr (.inl ⟨rfl, e1⟩)⟩ (by show 2 - 1 < 2 - 0; decide)
    · rw [q1]
      repeat (first | refine EvQ.run ?_ | refine EvQ.fin X.rs ?_ | refine EvQ.fin1 (fun _ => rfl) rfl ?_)
      refine EvQ.go (2, bif ilt (Int.ofNat w) (Int.ofNat L) then Int.ofNat w else Int.ofNat L) X.kv ⟨X.lo, rfl, .inr (.inr ⟨rfl, e2⟩)⟩ (by show 2 - 2 < 2 - 1; decide)
    · rw [q1]
      repeat (first | refine EvQ.run ?_ | refine EvQ.fin X.rs ?_ | refine EvQ.fin1 (fun _ => rfl) rfl ?_)
      exact EvQ.xt (.mk' X.kv trivial)
  · rintro _ ⟨tm, lo, hp, rfl, -⟩
    repeat (first | refine EvQ.run ?_ | refine EvQ.fin X.rs ?_ | refine EvQ.fin1 (fun _ => rfl) rfl ?_)
    exact PQ.it e3
end Go.Proofs.YtpncefcicfhibaaGreatDoor.win
