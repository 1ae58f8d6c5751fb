import Derived.Test.YtndodhmfdjcjgaaGreatDoorEvE
import Derived.Test.YtndodhmfdjcjgaaGreatDoorRdG
import Derived.KernelRfl
set_option linter.unusedSectionVars false
set_option linter.unusedVariables false
set_option linter.unusedSimpArgs false
-- a judge at its beginning (EvHp EvOwn)
namespace Go.Proofs.YtndodhmfdjcjgaaGreatDoor
open Go hiding Fn
open Ev tab
def rowsOf : CR -> V
 | .ret v _ => v
 | _ => .un
/-- the table that never changes -/
def stat : V := rowsOf (callF F 3000 20 false 33 [] h0)
theorem stat_eq : ∃ es, stat = .vs 2 es := ⟨(match stat with | .vs _ es => es | _ => []), by kernel_rfl⟩
theorem all_go (N M : Nat) (hp : Hp) : callF F (N + 3000) (M + 20) false 33 [] hp = .ret stat hp := by kernel_rfl
theorem all_ok (hp : Hp) : EvC F false 33 [] hp (.ret stat hp) := ⟨3000, fun L n h1 h2 => by
 obtain ⟨N, rfl⟩ : ∃ N, L = N + 3000 := ⟨L - 3000, by omega⟩
 obtain ⟨M, rfl⟩ : ∃ M, n = M + 20 := ⟨n - 20, by omega⟩
 exact all_go N M hp⟩
/-- what a client says first -/
def pref : List Nat := [80, 82, 73, 32, 42, 32, 72, 84, 84, 80, 47, 50, 46, 48, 13, 10, 13, 10, 83, 77, 13, 10, 13, 10]
attribute [local irreducible] EvP EvD EvL EvC EvO evGds evLs C.run sK bK gK pK fK lpB stepD stat
theorem may_ok (m : Int) (h : m = 16777215 \/ m = 16384) : EvP F 22 c22 [.it .i64 m] [.bo true] := by
 refine EvP.ofQ d22 rfl rfl rfl ?_
 rcases h with rfl | rfl
 all_goals
  repeat' (first | refine EvQ.run ?_ | (refine EvQ.pickB rfl rfl rfl ?_) | (refine EvQ.cond rfl (fun h => ?_) (fun h => ?_) <;> ((first | replace h := X.nm h | skip); try have hne := ne_len h)) | (refine EvQ.g1 rfl (fun h => ?_) (fun h => ?_) <;> ((first | replace h := X.nm h | skip); try have hne := ne_len h)) | (refine EvQ.pick rfl (fun _ => rfl) (fun _ => rfl) (fun h => ?_) (fun h => ?_) <;> ((first | replace h := X.nm h | skip); try have hne := ne_len h)) | refine EvQ.fin X.rs ?_ | refine EvQ.fin1 (fun _ => rfl) rfl ?_)
  all_goals exact PQ.bo rfl
theorem may2_ok : EvP F 32 c32 [.it .i64 4096] [.bo true] := by
 refine EvP.ofQ d32 rfl rfl rfl ?_
 repeat' (first | refine EvQ.run ?_ | (refine EvQ.pickB rfl rfl rfl ?_) | (refine EvQ.cond rfl (fun h => ?_) (fun h => ?_) <;> ((first | replace h := X.nm h | skip); try have hne := ne_len h)) | (refine EvQ.g1 rfl (fun h => ?_) (fun h => ?_) <;> ((first | replace h := X.nm h | skip); try have hne := ne_len h)) | (refine EvQ.pick rfl (fun _ => rfl) (fun _ => rfl) (fun h => ?_) (fun h => ?_) <;> ((first | replace h := X.nm h | skip); try have hne := ne_len h)) | refine EvQ.fin X.rs ?_ | refine EvQ.fin1 (fun _ => rfl) rfl ?_)
 all_goals exact PQ.bo rfl
theorem first_ok : EvP F 10 c10 [] [.ag [.it .i64 4096, .it .i64 2147483647, .it .i64 65535, .it .i64 16384, .it .i64 2147483647]] := by
 refine EvP.ofQ d10 rfl rfl rfl ?_
 repeat' (first | refine EvQ.run ?_ | (refine EvQ.pickB rfl rfl rfl ?_) | (refine EvQ.cond rfl (fun h => ?_) (fun h => ?_) <;> ((first | replace h := X.nm h | skip); try have hne := ne_len h)) | (refine EvQ.g1 rfl (fun h => ?_) (fun h => ?_) <;> ((first | replace h := X.nm h | skip); try have hne := ne_len h)) | (refine EvQ.pick rfl (fun _ => rfl) (fun _ => rfl) (fun h => ?_) (fun h => ?_) <;> ((first | replace h := X.nm h | skip); try have hne := ne_len h)) | refine EvQ.fin X.rs ?_ | refine EvQ.fin1 (fun _ => rfl) rfl ?_)
 exact PQ.of (.gs (.cons (clo_it _ _) (.cons (clo_it _ _) (.cons (clo_it _ _) (.cons (clo_it _ _) (.cons (clo_it _ _) .nil))))) (.nil _))
set_option maxHeartbeats 8000000 in
theorem frF_ok (hp : Hp) (m : Int) (h : m = 16777215 \/ m = 16384) : EvC F false 12 [.it .i64 m, .bo false] hp (.ret (.tu [.pt hp.next 0 0, .it .i64 0]) (hnew hp ⟨6, false, [rowR m [] .ns 0 0]⟩)) := by
 have y := may_ok m h
 have main : ∃ w hp', EvC F false 12 [.it .i64 m, .bo false] hp (.ret w hp') /\ (w = .tu [.pt hp.next 0 0, .it .i64 0] /\ hp' = hnew hp ⟨6, false, [rowR m [] .ns 0 0]⟩) := by
  refine EvC.ofQ d12 rfl rfl rfl ?_
  repeat' (first | refine EvQ.run ?_ | refine EvQ.lift (fun _ zn => X.pcall (y) X.cq rfl X.al rfl zn) ?_ | refine EvQ.lift (fun _ zn => X.pcallG (y) rfl X.cq rfl X.al rfl zn) ?_ | refine EvQ.lift (fun _ zn => X.pcallC (y) rfl X.cq rfl X.al rfl zn) ?_ | refine EvQ.lift (fun _ zn => X.pcallT (y) (by decide) X.cq rfl X.al rfl zn) ?_ | refine EvQ.lift (fun _ zn => X.call rfl X.al (y) zn) ?_ | (refine EvQ.pickB rfl rfl rfl ?_) | (refine EvQ.cond rfl (fun h => ?_) (fun h => ?_) <;> ((first | replace h := X.nm h | skip); try have hne := ne_len h)) | (refine EvQ.g1 rfl (fun h => ?_) (fun h => ?_) <;> ((first | replace h := X.nm h | skip); try have hne := ne_len h)) | (refine EvQ.pick rfl (fun _ => rfl) (fun _ => rfl) (fun h => ?_) (fun h => ?_) <;> ((first | replace h := X.nm h | skip); try have hne := ne_len h)) | refine EvQ.fin X.rs ?_ | refine EvQ.fin1 (fun _ => rfl) rfl ?_)
  exact ⟨_, _, rfl, rfl, rfl⟩
 obtain ⟨_, _, e, rfl, rfl⟩ := main
 exact e
set_option maxHeartbeats 8000000 in
theorem frT_ok (hp : Hp) (hl : hp.lim <= hp.next) (m : Int) (h : m = 16777215 \/ m = 16384) : EvC F false 12 [.it .i64 m, .bo true] hp (.ret (.tu [.pt hp.next 0 0, .it .i64 0]) (hset (hnew hp ⟨6, false, [rowR m [] .ns 0 0]⟩) hp.next (some ⟨6, false, [rowR m pref .ns 0 0]⟩))) := by
 have y := may_ok m h
 have g : ∀ r, hget (hnew hp r) hp.next = some r := fun r => hget_new _ _
 have main : ∃ w hp', EvC F false 12 [.it .i64 m, .bo true] hp (.ret w hp') /\ (w = .tu [.pt hp.next 0 0, .it .i64 0] /\ hp' = hset (hnew hp ⟨6, false, [rowR m [] .ns 0 0]⟩) hp.next (some ⟨6, false, [rowR m pref .ns 0 0]⟩)) := by
  refine EvC.ofQ d12 rfl rfl rfl ?_
  repeat' (first | refine EvQ.run ?_ | refine EvQ.lift (fun _ zn => X.pcall (y) X.cq rfl X.al rfl zn) ?_ | refine EvQ.lift (fun _ zn => X.pcallG (y) rfl X.cq rfl X.al rfl zn) ?_ | refine EvQ.lift (fun _ zn => X.pcallC (y) rfl X.cq rfl X.al rfl zn) ?_ | refine EvQ.lift (fun _ zn => X.pcallT (y) (by decide) X.cq rfl X.al rfl zn) ?_ | refine EvQ.lift (fun _ zn => X.call rfl X.al (y) zn) ?_ | (refine EvQ.pickB rfl rfl rfl ?_) | (refine EvQ.cond rfl (fun h => ?_) (fun h => ?_) <;> ((first | replace h := X.nm h | skip); try have hne := ne_len h)) | (refine EvQ.g1 rfl (fun h => ?_) (fun h => ?_) <;> ((first | replace h := X.nm h | skip); try have hne := ne_len h)) | (refine EvQ.pick rfl (fun _ => rfl) (fun _ => rfl) (fun h => ?_) (fun h => ?_) <;> ((first | replace h := X.nm h | skip); try have hne := ne_len h)) | refine EvQ.fin X.rs ?_ | refine EvQ.fin1 (fun _ => rfl) rfl ?_)
  exact ⟨_, _, rfl, rfl, rfl⟩
 obtain ⟨_, _, e, rfl, rfl⟩ := main
 exact e
set_option maxHeartbeats 8000000 in
theorem tabN_ok (hp : Hp) : EvC F false 21 [.it .i64 4096] hp (.ret (.tu [.pt hp.next 0 0, .it .i64 0]) (hnew hp ⟨4, false, [[.ns, stat, .it .i64 0, .it .i64 4096]]⟩)) := by
 have y := may2_ok
 have a := all_ok
 obtain ⟨es, he⟩ := stat_eq
 rw [he] at a ⊢
 have main : ∃ w hp', EvC F false 21 [.it .i64 4096] hp (.ret w hp') /\ (w = .tu [.pt hp.next 0 0, .it .i64 0] /\ hp' = hnew hp ⟨4, false, [[.ns, .vs 2 es, .it .i64 0, .it .i64 4096]]⟩) := by
  refine EvC.ofQ d21 rfl rfl rfl ?_
  repeat' (first | refine EvQ.run ?_ | refine EvQ.lift (fun _ zn => X.pcall (y) X.cq rfl X.al rfl zn) ?_ | refine EvQ.lift (fun _ zn => X.pcallG (y) rfl X.cq rfl X.al rfl zn) ?_ | refine EvQ.lift (fun _ zn => X.pcallC (y) rfl X.cq rfl X.al rfl zn) ?_ | refine EvQ.lift (fun _ zn => X.pcallT (y) (by decide) X.cq rfl X.al rfl zn) ?_ | refine EvQ.lift (fun _ zn => X.call rfl X.al (y) zn) ?_ | refine EvQ.lift (fun _ zn => X.pcall (a _) X.cq rfl X.al rfl zn) ?_ | refine EvQ.lift (fun _ zn => X.pcallG (a _) rfl X.cq rfl X.al rfl zn) ?_ | refine EvQ.lift (fun _ zn => X.pcallC (a _) rfl X.cq rfl X.al rfl zn) ?_ | refine EvQ.lift (fun _ zn => X.pcallT (a _) (by decide) X.cq rfl X.al rfl zn) ?_ | refine EvQ.lift (fun _ zn => X.call rfl X.al (a _) zn) ?_ | (refine EvQ.pickB rfl rfl rfl ?_) | (refine EvQ.cond rfl (fun h => ?_) (fun h => ?_) <;> ((first | replace h := X.nm h | skip); try have hne := ne_len h)) | (refine EvQ.g1 rfl (fun h => ?_) (fun h => ?_) <;> ((first | replace h := X.nm h | skip); try have hne := ne_len h)) | (refine EvQ.pick rfl (fun _ => rfl) (fun _ => rfl) (fun h => ?_) (fun h => ?_) <;> ((first | replace h := X.nm h | skip); try have hne := ne_len h)) | refine EvQ.fin X.rs ?_ | refine EvQ.fin1 (fun _ => rfl) rfl ?_)
  exact ⟨_, _, rfl, rfl, rfl⟩
 obtain ⟨_, _, e, rfl, rfl⟩ := main
 exact e
set_option maxHeartbeats 8000000 in
theorem unpN_ok (hp : Hp) : EvC F true 11 [.it .i64 4096, .it .i64 2147483647] hp (.ret (.tu [.pt (hp.next + 1) 0 0, .it .i64 0]) (hnew (hnew hp ⟨4, false, [[.ns, stat, .it .i64 0, .it .i64 4096]]⟩) ⟨4, false, [[.pt hp.next 0 0, .it .i64 4096, .it .i64 2147483647, .bo false]]⟩)) := by
 have t := tabN_ok hp
 have main : ∃ w hp', EvC F true 11 [.it .i64 4096, .it .i64 2147483647] hp (.ret w hp') /\ (w = .tu [.pt (hp.next + 1) 0 0, .it .i64 0] /\ hp' = hnew (hnew hp ⟨4, false, [[.ns, stat, .it .i64 0, .it .i64 4096]]⟩) ⟨4, false, [[.pt hp.next 0 0, .it .i64 4096, .it .i64 2147483647, .bo false]]⟩) := by
  refine EvC.ofQ d11 rfl rfl rfl ?_
  repeat' (first | refine EvQ.run ?_ | refine EvQ.lift (fun _ zn => X.pcall (t) X.cq rfl X.al rfl zn) ?_ | refine EvQ.lift (fun _ zn => X.pcallG (t) rfl X.cq rfl X.al rfl zn) ?_ | refine EvQ.lift (fun _ zn => X.pcallC (t) rfl X.cq rfl X.al rfl zn) ?_ | refine EvQ.lift (fun _ zn => X.pcallT (t) (by decide) X.cq rfl X.al rfl zn) ?_ | refine EvQ.lift (fun _ zn => X.call rfl X.al (t) zn) ?_ | (refine EvQ.pickB rfl rfl rfl ?_) | (refine EvQ.cond rfl (fun h => ?_) (fun h => ?_) <;> ((first | replace h := X.nm h | skip); try have hne := ne_len h)) | (refine EvQ.g1 rfl (fun h => ?_) (fun h => ?_) <;> ((first | replace h := X.nm h | skip); try have hne := ne_len h)) | (refine EvQ.pick rfl (fun _ => rfl) (fun _ => rfl) (fun h => ?_) (fun h => ?_) <;> ((first | replace h := X.nm h | skip); try have hne := ne_len h)) | refine EvQ.fin X.rs ?_ | refine EvQ.fin1 (fun _ => rfl) rfl ?_)
  exact ⟨_, _, rfl, rfl, rfl⟩
 obtain ⟨_, _, e, rfl, rfl⟩ := main
 exact e
end Go.Proofs.YtndodhmfdjcjgaaGreatDoor
