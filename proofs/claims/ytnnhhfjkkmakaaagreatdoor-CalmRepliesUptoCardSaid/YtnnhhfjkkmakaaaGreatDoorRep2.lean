import Derived.Test.YtnnhhfjkkmakaaaGreatDoorEvE
import Derived.Test.YtnnhhfjkkmakaaaGreatDoorRep1
set_option linter.unusedSectionVars false
set_option linter.unusedVariables false
set_option linter.unusedSimpArgs false
-- CalmReplies: digits, light, rows held against each other (EvHp EvOwn)
namespace Go.Proofs.YtnnhhfjkkmakaaaGreatDoor.rep
open Go hiding Fn
open Ev tab
attribute [local irreducible] EvP EvD EvL EvC evGds evLs C.run sK bK gK pK fK lpB stepD hp6 itoaL
set_option maxHeartbeats 8000000 in
theorem digits_ok (n : Int) (h1 : n < 9223372036854775808) : EvP Fq 72 c72 [.it .i64 n] [.st (dig3 n.toNat)] := by
  have i1 := itoa_ok (Int.ofNat n.toNat) (by show n.toNat ≤ _; omega)
  have hm : (bif true then (bif ilt n (Int.ofNat 0) then Int.ofNat 0 else n) else (bif ilt (Int.ofNat 0) n then Int.ofNat 0 else n)) = Int.ofNat n.toNat := mx_nat n
  have t1 := itoaL_tail n.toNat
  have l1 := itoaL_len n.toNat
  refine EvP.ofQ d72 rfl rfl rfl ?_
  refine EvQ.run ?_
  rw [hm]
  generalize itoaL (Int.ofNat n.toNat) = s at *
  first | refine EvQ.lift (fun _ zn => X.pcall (i1) X.cq rfl X.al rfl zn) ?_ | refine EvQ.lift (fun _ zn => X.pcallG (i1) rfl X.cq rfl X.al rfl zn) ?_ | refine EvQ.lift (fun _ zn => X.pcallC (i1) rfl X.cq rfl X.al rfl zn) ?_ | refine EvQ.lift (fun _ zn => X.pcallT (i1) (by decide) X.cq rfl X.al rfl zn) ?_ | refine EvQ.lift (fun _ zn => X.call rfl X.al (i1) zn) ?_
  try refine EvQ.run ?_
  have e : (([48, 48, 48] : List Nat) ++ s).length = s.length + 3 := by simp
  rw [e, show s.length + 3 - 3 = s.length by omega] at t1
  rw [show (([48, 48, 48] : List Nat) ++ s).length - 3 = s.length by rw [e]; omega, t1]
  refine EvQ.fin X.rs ?_
  exact PQ.st rfl
end Go.Proofs.YtnnhhfjkkmakaaaGreatDoor.rep
