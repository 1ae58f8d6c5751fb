import Derived.Test.YtndodhmfdjcjgaaGreatDoorEvE
import Derived.Test.YtndodhmfdjcjgaaGreatDoorShR
set_option linter.unusedSectionVars false
set_option linter.unusedVariables false
set_option linter.unusedSimpArgs false
-- the shape of any frame: what Of calls (EvHp EvOwn)
namespace Ev
variable [Glob]
open Go
section
variable {F' : Nat -> Option Ev.Fn} {R : Ev.R} {k : Ev.R -> D} {clr : List Nat} {tm : Tm} {lo : Lo} {hp hp' : Hp} {r : List DOp} {us : List Nat} {g : Option (Nat × Bool)} {d : Nat}
end
section
variable {F : Nat -> Option Ev.Fn} {tm : Tm} {lo : Lo} {hp : Hp}
/-- the end, of two boxes -/
theorem fin2 {dd : DFn} {vs : List V} {b1 b2 : Bool} {Q : R -> Prop} (h : ∀ K : List V -> D, resultsD ⟨tm, lo, hp⟩ dd.res K = .chk b1 (.chk b2 (K vs))) (h1 : b1 = true) (h2 : b2 = true) (q : Q (Rt (tuple vs) hp)) : EvQ F (fK dd (.ret ⟨tm, lo, hp⟩)) Q := by
 refine EvQ.of (x := Rt (tuple vs) hp) ?_ q
 show EvD F (resultsD ⟨tm, lo, hp⟩ dd.res fun vs => .done (.ret ⟨fun _ => tuple vs, fun _ => none, hp⟩)) _
 rw [h]; exact .chk h1 (.chk h2 (.done _))
end
end Ev
namespace Go.Proofs.YtndodhmfdjcjgaaGreatDoor
open Go hiding Fn
open Ev tab
attribute [local irreducible] EvP EvD EvL EvC evGds evLs C.run sK bK gK pK fK lpB stepD
set_option maxHeartbeats 8000000 in
theorem misplaced_any (ty fl s : Int) (p : List Int) : ∃ b, EvP F 41 c41 [.ag (fr ty fl s p)] [.bo b] /\ (ty = 4 -> b = decide (s ≠ 0)) := by
 unfold fr
 have main : EvQ F (d41.body.run ⟨argT [.ag [.it .i64 ty, .it .i64 fl, .it .i64 s, .vs 1 (bs p)]], fun _ => none, h0⟩ (fK d41)) (fun r => ∃ b, PQ d41.rs [.bo b] r /\ (ty = 4 -> b = decide (s ≠ 0))) := by
  repeat' (first | refine EvQ.run ?_ | (refine EvQ.pickB rfl rfl rfl ?_) | (refine EvQ.cond rfl (fun h => ?_) (fun h => ?_) <;> ((first | replace h := X.nm h | skip); try have hne := ne_len h)) | (refine EvQ.g1 rfl (fun h => ?_) (fun h => ?_) <;> ((first | replace h := X.nm h | skip); try have hne := ne_len h)) | (refine EvQ.pick rfl (fun _ => rfl) (fun _ => rfl) (fun h => ?_) (fun h => ?_) <;> ((first | replace h := X.nm h | skip); try have hne := ne_len h)) | refine EvQ.fin X.rs ?_ | refine EvQ.fin1 (fun _ => rfl) rfl ?_)
  all_goals
   refine ⟨_, PQ.bo rfl, fun e => ?_⟩
   first
    | (exfalso; omega)
    | (simp [ieqD]; done)
    | (rw [Bool.eq_iff_iff]; simp [ieqD])
 obtain ⟨r, h, b, q, z⟩ := main
 exact ⟨b, EvP.ofQ d41 rfl rfl rfl ⟨r, h, q⟩, z⟩
/-- a number of four bytes, as it is put together -/
def numE (p : List Int) : Int := orI (orI (orI (wr .i64 (wr .i64 (p[0]?.getD 0) * Int.ofNat 16777216)) (wr .i64 (wr .i64 (p[1]?.getD 0) * Int.ofNat 65536))) (wr .i64 (wr .i64 (p[2]?.getD 0) * Int.ofNat 256))) (wr .i64 (p[3]?.getD 0))
set_option maxHeartbeats 8000000 in
theorem number_any (p : List Int) (h : 4 <= p.length) : EvP F 46 c46 [.vs 1 (bs p)] [.it .i64 (numE p)] := by
 have hl := bs_length p
 refine EvP.ofQ d46 rfl rfl rfl ?_
 repeat (first | refine EvQ.run ?_ | refine EvQ.fin X.rs ?_ | refine EvQ.fin1 (fun _ => rfl) rfl ?_)
 exact PQ.it rfl
set_option maxHeartbeats 8000000 in
theorem copied_any (p : List Int) (hp : p.length <= 20000000) : EvP F 48 c48 [.vs 1 (bs p)] [.vs 1 (bs p)] := by
 have hB := apv_by (hp := h0) (by decide) p
 have hl := hB.lp
 obtain ⟨h1, z1, e1⟩ := close_by hB
 refine EvP.ofQ d48 rfl rfl rfl ?_
 refine EvQ.run ?_
 refine EvQ.lift (fun _ zn => X.apE (v := .vs 1 (bs p)) rfl rfl (By.vs h0 p) (by simp only [Nat.mul_one]; omega) zn) ?_
 repeat (first | refine EvQ.run ?_ | refine EvQ.fin X.rs ?_ | refine EvQ.fin1 (fun _ => rfl) rfl ?_)
 exact PQ.of (.c (e1 _ (by show p.length + 5 <= 100000000; omega)) (.nil _))
/-- is a setting's value right? -/
def valB (id v : Int) : Bool := if id = 2 then decide (0 <= v /\ v <= 1) else if id = 4 then decide (0 <= v /\ v <= 2147483647) else if id = 5 then decide (16384 <= v /\ v <= 16777215) else true
set_option maxHeartbeats 8000000 in
theorem within_any (a b c : Int) : EvP F 66 c66 [.it .i64 a, .it .i64 b, .it .i64 c] [.bo (decide (b <= a /\ a <= c))] := by
 refine EvP.ofQ d66 rfl rfl rfl ?_
 repeat' (first | refine EvQ.run ?_ | (refine EvQ.pickB rfl rfl rfl ?_) | (refine EvQ.cond rfl (fun h => ?_) (fun h => ?_) <;> ((first | replace h := X.nm h | skip); try have hne := ne_len h)) | (refine EvQ.g1 rfl (fun h => ?_) (fun h => ?_) <;> ((first | replace h := X.nm h | skip); try have hne := ne_len h)) | (refine EvQ.pick rfl (fun _ => rfl) (fun _ => rfl) (fun h => ?_) (fun h => ?_) <;> ((first | replace h := X.nm h | skip); try have hne := ne_len h)) | refine EvQ.fin X.rs ?_ | refine EvQ.fin1 (fun _ => rfl) rfl ?_)
 all_goals
  refine PQ.bo ?_
  rw [Bool.eq_iff_iff]
  simp [ilt_eq] at *
  try omega
set_option maxHeartbeats 16000000 in
theorem value_any (id v : Int) : ∃ n, EvP F 58 c58 [.ag [.it .i64 id, .it .i64 v]] [.it .i64 n] /\ (n = 0 ↔ valB id v = true) := by
 have w2 := within_any v (Int.ofNat 0) (Int.ofNat 1)
 have w4 := within_any v (Int.ofNat 0) (Int.ofNat 2147483647)
 have w5 := within_any v (Int.ofNat 16384) (Int.ofNat 16777215)
 have e2 : id = 2 -> valB id v = decide (Int.ofNat 0 <= v /\ v <= Int.ofNat 1) := fun h => by subst h; rfl
 have e4 : id = 4 -> valB id v = decide (Int.ofNat 0 <= v /\ v <= Int.ofNat 2147483647) := fun h => by subst h; rfl
 have e5 : id = 5 -> valB id v = decide (Int.ofNat 16384 <= v /\ v <= Int.ofNat 16777215) := fun h => by subst h; rfl
 have e0 : id ≠ 2 -> id ≠ 4 -> id ≠ 5 -> valB id v = true := fun h1 h2 h3 => by unfold valB; rw [if_neg h1, if_neg h2, if_neg h3]
 generalize decide (Int.ofNat 0 <= v /\ v <= Int.ofNat 1) = b2 at *
 generalize decide (Int.ofNat 0 <= v /\ v <= Int.ofNat 2147483647) = b4 at *
 generalize decide (Int.ofNat 16384 <= v /\ v <= Int.ofNat 16777215) = b5 at *
 have main : EvQ F (d58.body.run ⟨argT [.ag [.it .i64 id, .it .i64 v]], fun _ => none, h0⟩ (fK d58)) (fun r => ∃ n, PQ d58.rs [.it .i64 n] r /\ (n = 0 ↔ valB id v = true)) := by
  by_cases h2 : id = 2
  ·have z2 : ieq id (Int.ofNat 2) = true := by rw [ieqD]; exact decide_eq_true h2
   have z4 : ieq id (Int.ofNat 4) = false := by rw [ieqD]; exact decide_eq_false (by rw [h2]; decide)
   have z5 : ieq id (Int.ofNat 5) = false := by rw [ieqD]; exact decide_eq_false (by rw [h2]; decide)
   rw [e2 h2]
   cases b2 with
   | false =>
    repeat (first | refine EvQ.run ?_ | refine EvQ.lift (fun _ zn => X.pcall (w2) X.cq rfl X.al rfl zn) ?_ | refine EvQ.lift (fun _ zn => X.pcallG (w2) rfl X.cq rfl X.al rfl zn) ?_ | refine EvQ.lift (fun _ zn => X.pcallC (w2) rfl X.cq rfl X.al rfl zn) ?_ | refine EvQ.lift (fun _ zn => X.pcallT (w2) (by decide) X.cq rfl X.al rfl zn) ?_ | refine EvQ.lift (fun _ zn => X.call rfl X.al (w2) zn) ?_ | refine EvQ.fin X.rs ?_ | refine EvQ.fin1 (fun _ => rfl) rfl ?_)
    exact ⟨_, PQ.it rfl, by decide⟩
   | true =>
    repeat (first | refine EvQ.run ?_ | refine EvQ.lift (fun _ zn => X.pcall (w2) X.cq rfl X.al rfl zn) ?_ | refine EvQ.lift (fun _ zn => X.pcallG (w2) rfl X.cq rfl X.al rfl zn) ?_ | refine EvQ.lift (fun _ zn => X.pcallC (w2) rfl X.cq rfl X.al rfl zn) ?_ | refine EvQ.lift (fun _ zn => X.pcallT (w2) (by decide) X.cq rfl X.al rfl zn) ?_ | refine EvQ.lift (fun _ zn => X.call rfl X.al (w2) zn) ?_ | refine EvQ.fin X.rs ?_ | refine EvQ.fin1 (fun _ => rfl) rfl ?_)
    exact ⟨_, PQ.it rfl, by decide⟩
  ·have z2 : ieq id (Int.ofNat 2) = false := by rw [ieqD]; exact decide_eq_false h2
   by_cases h4 : id = 4
   ·have z4 : ieq id (Int.ofNat 4) = true := by rw [ieqD]; exact decide_eq_true h4
    have z5 : ieq id (Int.ofNat 5) = false := by rw [ieqD]; exact decide_eq_false (by rw [h4]; decide)
    rw [e4 h4]
    cases b4 with
    | false =>
     repeat (first | refine EvQ.run ?_ | refine EvQ.lift (fun _ zn => X.pcall (w4) X.cq rfl X.al rfl zn) ?_ | refine EvQ.lift (fun _ zn => X.pcallG (w4) rfl X.cq rfl X.al rfl zn) ?_ | refine EvQ.lift (fun _ zn => X.pcallC (w4) rfl X.cq rfl X.al rfl zn) ?_ | refine EvQ.lift (fun _ zn => X.pcallT (w4) (by decide) X.cq rfl X.al rfl zn) ?_ | refine EvQ.lift (fun _ zn => X.call rfl X.al (w4) zn) ?_ | refine EvQ.fin X.rs ?_ | refine EvQ.fin1 (fun _ => rfl) rfl ?_)
     exact ⟨_, PQ.it rfl, by decide⟩
    | true =>
     repeat (first | refine EvQ.run ?_ | refine EvQ.lift (fun _ zn => X.pcall (w4) X.cq rfl X.al rfl zn) ?_ | refine EvQ.lift (fun _ zn => X.pcallG (w4) rfl X.cq rfl X.al rfl zn) ?_ | refine EvQ.lift (fun _ zn => X.pcallC (w4) rfl X.cq rfl X.al rfl zn) ?_ | refine EvQ.lift (fun _ zn => X.pcallT (w4) (by decide) X.cq rfl X.al rfl zn) ?_ | refine EvQ.lift (fun _ zn => X.call rfl X.al (w4) zn) ?_ | refine EvQ.fin X.rs ?_ | refine EvQ.fin1 (fun _ => rfl) rfl ?_)
     exact ⟨_, PQ.it rfl, by decide⟩
   ·have z4 : ieq id (Int.ofNat 4) = false := by rw [ieqD]; exact decide_eq_false h4
    by_cases h5 : id = 5
    ·have z5 : ieq id (Int.ofNat 5) = true := by rw [ieqD]; exact decide_eq_true h5
     rw [e5 h5]
     cases b5 with
     | false =>
      repeat (first | refine EvQ.run ?_ | refine EvQ.lift (fun _ zn => X.pcall (w5) X.cq rfl X.al rfl zn) ?_ | refine EvQ.lift (fun _ zn => X.pcallG (w5) rfl X.cq rfl X.al rfl zn) ?_ | refine EvQ.lift (fun _ zn => X.pcallC (w5) rfl X.cq rfl X.al rfl zn) ?_ | refine EvQ.lift (fun _ zn => X.pcallT (w5) (by decide) X.cq rfl X.al rfl zn) ?_ | refine EvQ.lift (fun _ zn => X.call rfl X.al (w5) zn) ?_ | refine EvQ.fin X.rs ?_ | refine EvQ.fin1 (fun _ => rfl) rfl ?_)
      exact ⟨_, PQ.it rfl, by decide⟩
     | true =>
      repeat (first | refine EvQ.run ?_ | refine EvQ.lift (fun _ zn => X.pcall (w5) X.cq rfl X.al rfl zn) ?_ | refine EvQ.lift (fun _ zn => X.pcallG (w5) rfl X.cq rfl X.al rfl zn) ?_ | refine EvQ.lift (fun _ zn => X.pcallC (w5) rfl X.cq rfl X.al rfl zn) ?_ | refine EvQ.lift (fun _ zn => X.pcallT (w5) (by decide) X.cq rfl X.al rfl zn) ?_ | refine EvQ.lift (fun _ zn => X.call rfl X.al (w5) zn) ?_ | refine EvQ.fin X.rs ?_ | refine EvQ.fin1 (fun _ => rfl) rfl ?_)
      exact ⟨_, PQ.it rfl, by decide⟩
    ·have z5 : ieq id (Int.ofNat 5) = false := by rw [ieqD]; exact decide_eq_false h5
     rw [e0 h2 h4 h5]
     repeat (first | refine EvQ.run ?_ | refine EvQ.fin X.rs ?_ | refine EvQ.fin1 (fun _ => rfl) rfl ?_)
     exact ⟨_, PQ.it rfl, by decide⟩
 obtain ⟨r, h, n, q, z⟩ := main
 exact ⟨n, EvP.ofQ d58 rfl rfl rfl ⟨r, h, q⟩, z⟩
end Go.Proofs.YtndodhmfdjcjgaaGreatDoor
