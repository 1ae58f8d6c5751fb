import Derived.Test.YtfnoiklmcmboeaaGreatDoorEvE
import Derived.Test.YtfnoiklmcmboeaaGreatDoorCnw3
set_option linter.unusedSectionVars false
set_option linter.unusedVariables false
set_option linter.unusedSimpArgs false
-- conn.New: the parts of a connection (EvHp EvOwn)
namespace Go.Proofs.YtfnoiklmcmboeaaGreatDoor.cnw
open Go hiding Fn
open Ev tab
attribute [local irreducible] EvP EvD EvL EvC EvO evGds evLs C.run sK bK gK pK fK lpB stepD stat
theorem in_ok (n lo hi : Int) : EvP Fq 51 c51 [.it .i64 n, .it .i64 lo, .it .i64 hi] [.bo (decide (lo ≤ n ∧ n ≤ hi))] := by
  refine EvP.ofQ d51 rfl rfl rfl ?_
  repeat' (first | refine EvQ.run ?_ | (refine EvQ.pickB rfl rfl rfl ?_) | (refine EvQ.cond rfl (fun h => ?_) (fun h => ?_) <;> ((first | replace h := X.nm h | skip); try have hne := ne_len h)) | (refine EvQ.g1 rfl (fun h => ?_) (fun h => ?_) <;> ((first | replace h := X.nm h | skip); try have hne := ne_len h)) | (refine EvQ.pick rfl (fun _ => rfl) (fun _ => rfl) (fun h => ?_) (fun h => ?_) <;> ((first | replace h := X.nm h | skip); try have hne := ne_len h)) | refine EvQ.fin X.rs ?_ | refine EvQ.fin1 (fun _ => rfl) rfl ?_)
  all_goals
    refine PQ.bo ?_
    rw [Bool.eq_iff_iff]
    simp [ilt_eq] at *
    try omega
theorem may1_ok : EvP Fq 91 c91 [.it .i64 16384] [.bo true] := by
  refine EvP.ofQ d91 rfl rfl rfl ?_
  repeat' (first | refine EvQ.run ?_ | (refine EvQ.pickB rfl rfl rfl ?_) | (refine EvQ.cond rfl (fun h => ?_) (fun h => ?_) <;> ((first | replace h := X.nm h | skip); try have hne := ne_len h)) | (refine EvQ.g1 rfl (fun h => ?_) (fun h => ?_) <;> ((first | replace h := X.nm h | skip); try have hne := ne_len h)) | (refine EvQ.pick rfl (fun _ => rfl) (fun _ => rfl) (fun h => ?_) (fun h => ?_) <;> ((first | replace h := X.nm h | skip); try have hne := ne_len h)) | refine EvQ.fin X.rs ?_ | refine EvQ.fin1 (fun _ => rfl) rfl ?_)
  all_goals exact PQ.bo rfl
theorem may2_ok : EvP Fq 127 c127 [.it .i64 4096] [.bo true] := by
  refine EvP.ofQ d127 rfl rfl rfl ?_
  repeat' (first | refine EvQ.run ?_ | (refine EvQ.pickB rfl rfl rfl ?_) | (refine EvQ.cond rfl (fun h => ?_) (fun h => ?_) <;> ((first | replace h := X.nm h | skip); try have hne := ne_len h)) | (refine EvQ.g1 rfl (fun h => ?_) (fun h => ?_) <;> ((first | replace h := X.nm h | skip); try have hne := ne_len h)) | (refine EvQ.pick rfl (fun _ => rfl) (fun _ => rfl) (fun h => ?_) (fun h => ?_) <;> ((first | replace h := X.nm h | skip); try have hne := ne_len h)) | refine EvQ.fin X.rs ?_ | refine EvQ.fin1 (fun _ => rfl) rfl ?_)
  all_goals exact PQ.bo rfl
theorem win1_ok : EvP Fq 93 c93 [.it .i64 65535] [.bo true] := by
  refine EvP.ofQ d93 rfl rfl rfl ?_
  repeat' (first | refine EvQ.run ?_ | (refine EvQ.pickB rfl rfl rfl ?_) | (refine EvQ.cond rfl (fun h => ?_) (fun h => ?_) <;> ((first | replace h := X.nm h | skip); try have hne := ne_len h)) | (refine EvQ.g1 rfl (fun h => ?_) (fun h => ?_) <;> ((first | replace h := X.nm h | skip); try have hne := ne_len h)) | (refine EvQ.pick rfl (fun _ => rfl) (fun _ => rfl) (fun h => ?_) (fun h => ?_) <;> ((first | replace h := X.nm h | skip); try have hne := ne_len h)) | refine EvQ.fin X.rs ?_ | refine EvQ.fin1 (fun _ => rfl) rfl ?_)
  all_goals exact PQ.bo rfl
theorem win_ok : EvP Fq 56 c56 [.it .i64 65535] [.ag [.it .i64 65535], .it .i64 0] := by
  refine EvP.ofQ d56 rfl rfl rfl ?_
  repeat' (first | refine EvQ.run ?_ | refine EvQ.lift (fun _ zn => X.pcall (win1_ok) X.cq rfl X.al rfl zn) ?_ | refine EvQ.lift (fun _ zn => X.pcallG (win1_ok) rfl X.cq rfl X.al rfl zn) ?_ | refine EvQ.lift (fun _ zn => X.pcallC (win1_ok) rfl X.cq rfl X.al rfl zn) ?_ | refine EvQ.lift (fun _ zn => X.pcallT (win1_ok) (by decide) X.cq rfl X.al rfl zn) ?_ | refine EvQ.lift (fun _ zn => X.call rfl X.al (win1_ok) zn) ?_ | (refine EvQ.pickB rfl rfl rfl ?_) | (refine EvQ.cond rfl (fun h => ?_) (fun h => ?_) <;> ((first | replace h := X.nm h | skip); try have hne := ne_len h)) | (refine EvQ.g1 rfl (fun h => ?_) (fun h => ?_) <;> ((first | replace h := X.nm h | skip); try have hne := ne_len h)) | (refine EvQ.pick rfl (fun _ => rfl) (fun _ => rfl) (fun h => ?_) (fun h => ?_) <;> ((first | replace h := X.nm h | skip); try have hne := ne_len h)) | refine EvQ.fin X.rs ?_ | refine EvQ.fin1 (fun _ => rfl) rfl ?_)
  exact PQ.of (.gs (.cons (clo_it _ _) .nil) (.s (clo_it _ _) (.nil _)))
theorem first_ok : EvP Fq 52 c52 [] [.ag [.it .i64 4096, .it .i64 2147483647, .it .i64 65535, .it .i64 16384, .it .i64 2147483647]] := by
  refine EvP.ofQ d52 rfl rfl rfl ?_
  repeat' (first | refine EvQ.run ?_ | (refine EvQ.pickB rfl rfl rfl ?_) | (refine EvQ.cond rfl (fun h => ?_) (fun h => ?_) <;> ((first | replace h := X.nm h | skip); try have hne := ne_len h)) | (refine EvQ.g1 rfl (fun h => ?_) (fun h => ?_) <;> ((first | replace h := X.nm h | skip); try have hne := ne_len h)) | (refine EvQ.pick rfl (fun _ => rfl) (fun _ => rfl) (fun h => ?_) (fun h => ?_) <;> ((first | replace h := X.nm h | skip); try have hne := ne_len h)) | refine EvQ.fin X.rs ?_ | refine EvQ.fin1 (fun _ => rfl) rfl ?_)
  exact PQ.of (.gs (.cons (clo_it _ _) (.cons (clo_it _ _) (.cons (clo_it _ _) (.cons (clo_it _ _) (.cons (clo_it _ _) .nil))))) (.nil _))
/-- something new was made -/
def Made (hp : Hp) (w : V) (hp' : Hp) : Prop := ∃ p, w = .tu [.pt p 0 0, .it .i64 0] ∧ hp.next ≤ p ∧ p < hp'.next ∧ Up hp.next hp hp'
set_option maxHeartbeats 8000000 in
theorem frN_ok {own : Bool} (hp : Hp) (b : Bool) (hl : hp.lim ≤ hp.next) : ∃ w hp', EvC Fq own 53 [.it .i64 16384, .bo b] hp (.ret w hp') ∧ Made hp w hp' := by
  have m := may1_ok
  have u1 := fun r => Up.new (n := hp.next) hp r (Nat.le_refl _)
  refine EvC.ofQ d53 rfl rfl rfl ?_
  cases b with
  | false =>
    repeat' (first | refine EvQ.run ?_ | refine EvQ.lift (fun _ zn => X.pcall (m) X.cq rfl X.al rfl zn) ?_ | refine EvQ.lift (fun _ zn => X.pcallG (m) rfl X.cq rfl X.al rfl zn) ?_ | refine EvQ.lift (fun _ zn => X.pcallC (m) rfl X.cq rfl X.al rfl zn) ?_ | refine EvQ.lift (fun _ zn => X.pcallT (m) (by decide) X.cq rfl X.al rfl zn) ?_ | refine EvQ.lift (fun _ zn => X.call rfl X.al (m) zn) ?_ | (refine EvQ.pickB rfl rfl rfl ?_) | (refine EvQ.cond rfl (fun h => ?_) (fun h => ?_) <;> ((first | replace h := X.nm h | skip); try have hne := ne_len h)) | (refine EvQ.g1 rfl (fun h => ?_) (fun h => ?_) <;> ((first | replace h := X.nm h | skip); try have hne := ne_len h)) | (refine EvQ.pick rfl (fun _ => rfl) (fun _ => rfl) (fun h => ?_) (fun h => ?_) <;> ((first | replace h := X.nm h | skip); try have hne := ne_len h)) | refine EvQ.fin X.rs ?_ | refine EvQ.fin1 (fun _ => rfl) rfl ?_)
    refine ⟨_, _, rfl, ?_⟩
    exact ⟨hp.next, rfl, Nat.le_refl _, Nat.lt_succ_self _, u1 _⟩
  | true =>
    have g : ∀ r, hget (hnew hp r) hp.next = some r := fun r => hget_new _ _
    repeat' (first | refine EvQ.run ?_ | refine EvQ.lift (fun _ zn => X.pcall (m) X.cq rfl X.al rfl zn) ?_ | refine EvQ.lift (fun _ zn => X.pcallG (m) rfl X.cq rfl X.al rfl zn) ?_ | refine EvQ.lift (fun _ zn => X.pcallC (m) rfl X.cq rfl X.al rfl zn) ?_ | refine EvQ.lift (fun _ zn => X.pcallT (m) (by decide) X.cq rfl X.al rfl zn) ?_ | refine EvQ.lift (fun _ zn => X.call rfl X.al (m) zn) ?_ | (refine EvQ.pickB rfl rfl rfl ?_) | (refine EvQ.cond rfl (fun h => ?_) (fun h => ?_) <;> ((first | replace h := X.nm h | skip); try have hne := ne_len h)) | (refine EvQ.g1 rfl (fun h => ?_) (fun h => ?_) <;> ((first | replace h := X.nm h | skip); try have hne := ne_len h)) | (refine EvQ.pick rfl (fun _ => rfl) (fun _ => rfl) (fun h => ?_) (fun h => ?_) <;> ((first | replace h := X.nm h | skip); try have hne := ne_len h)) | refine EvQ.fin X.rs ?_ | refine EvQ.fin1 (fun _ => rfl) rfl ?_)
    refine ⟨_, _, rfl, ?_⟩
    exact ⟨hp.next, rfl, Nat.le_refl _, Nat.lt_succ_self _, (u1 _).trans (Up.set _ _ _ (Nat.le_refl _))⟩
set_option maxHeartbeats 8000000 in
theorem tabN_ok {own : Bool} (hp : Hp) : ∃ w hp', EvC Fq own 92 [.it .i64 4096] hp (.ret w hp') ∧ Made hp w hp' := by
  have m := may2_ok
  have a := all_ok
  have u1 := fun r => Up.new (n := hp.next) hp r (Nat.le_refl _)
  obtain ⟨es, -, he⟩ := stat_eq
  refine EvC.ofQ d92 rfl rfl rfl ?_
  rw [he] at a
  repeat' (first | refine EvQ.run ?_ | refine EvQ.lift (fun _ zn => X.pcall (m) X.cq rfl X.al rfl zn) ?_ | refine EvQ.lift (fun _ zn => X.pcallG (m) rfl X.cq rfl X.al rfl zn) ?_ | refine EvQ.lift (fun _ zn => X.pcallC (m) rfl X.cq rfl X.al rfl zn) ?_ | refine EvQ.lift (fun _ zn => X.pcallT (m) (by decide) X.cq rfl X.al rfl zn) ?_ | refine EvQ.lift (fun _ zn => X.call rfl X.al (m) zn) ?_ | refine EvQ.lift (fun _ zn => X.pcall (a _) X.cq rfl X.al rfl zn) ?_ | refine EvQ.lift (fun _ zn => X.pcallG (a _) rfl X.cq rfl X.al rfl zn) ?_ | refine EvQ.lift (fun _ zn => X.pcallC (a _) rfl X.cq rfl X.al rfl zn) ?_ | refine EvQ.lift (fun _ zn => X.pcallT (a _) (by decide) X.cq rfl X.al rfl zn) ?_ | refine EvQ.lift (fun _ zn => X.call rfl X.al (a _) zn) ?_ | (refine EvQ.pickB rfl rfl rfl ?_) | (refine EvQ.cond rfl (fun h => ?_) (fun h => ?_) <;> ((first | replace h := X.nm h | skip); try have hne := ne_len h)) | (refine EvQ.g1 rfl (fun h => ?_) (fun h => ?_) <;> ((first | replace h := X.nm h | skip); try have hne := ne_len h)) | (refine EvQ.pick rfl (fun _ => rfl) (fun _ => rfl) (fun h => ?_) (fun h => ?_) <;> ((first | replace h := X.nm h | skip); try have hne := ne_len h)) | refine EvQ.fin X.rs ?_ | refine EvQ.fin1 (fun _ => rfl) rfl ?_)
  refine ⟨_, _, rfl, ?_⟩
  exact ⟨hp.next, rfl, Nat.le_refl _, Nat.lt_succ_self _, u1 _⟩
set_option maxHeartbeats 8000000 in
theorem unpN_ok {own : Bool} (hp : Hp) (ls : Int) (h1 : 0 ≤ ls) (h2 : ls ≤ 2147483647) : ∃ w hp', EvC Fq own 54 [.it .i64 4096, .it .i64 ls] hp (.ret w hp') ∧ Made hp w hp' := by
  have t := tabN_ok (own := false) hp
  have q1 : ilt ls (Int.ofNat 0) = false := by rw [ilt_eq]; exact decide_eq_false (by show ¬ ls < 0; omega)
  have q2 : ilt (Int.ofNat 2147483647) ls = false := by rw [ilt_eq]; exact decide_eq_false (by show ¬ (2147483647 : Int) < ls; omega)
  refine EvC.ofQ d54 rfl rfl rfl ?_
  repeat (first | refine EvQ.run ?_ | refine EvQ.fin X.rs ?_ | refine EvQ.fin1 (fun _ => rfl) rfl ?_)
  refine EvQ.call rfl X.al t ?_
  rintro _ hp1 ⟨p, rfl, p1, p2, u1⟩
  repeat' (first | refine EvQ.run ?_ | (refine EvQ.pickB rfl rfl rfl ?_) | (refine EvQ.cond rfl (fun h => ?_) (fun h => ?_) <;> ((first | replace h := X.nm h | skip); try have hne := ne_len h)) | (refine EvQ.g1 rfl (fun h => ?_) (fun h => ?_) <;> ((first | replace h := X.nm h | skip); try have hne := ne_len h)) | (refine EvQ.pick rfl (fun _ => rfl) (fun _ => rfl) (fun h => ?_) (fun h => ?_) <;> ((first | replace h := X.nm h | skip); try have hne := ne_len h)) | refine EvQ.fin X.rs ?_ | refine EvQ.fin1 (fun _ => rfl) rfl ?_)
  refine ⟨_, _, rfl, ?_⟩
  exact ⟨hp1.next, rfl, u1.next, Nat.lt_succ_self _, u1.trans (Up.new _ _ u1.next)⟩
set_option maxHeartbeats 8000000 in
theorem pacN_ok {own : Bool} (hp : Hp) : ∃ w hp', EvC Fq own 55 [.it .i64 4096] hp (.ret w hp') ∧ Made hp w hp' := by
  have t := tabN_ok (own := false) hp
  refine EvC.ofQ d55 rfl rfl rfl ?_
  repeat (first | refine EvQ.run ?_ | refine EvQ.fin X.rs ?_ | refine EvQ.fin1 (fun _ => rfl) rfl ?_)
  refine EvQ.call rfl X.al t ?_
  rintro _ hp1 ⟨p, rfl, p1, p2, u1⟩
  repeat' (first | refine EvQ.run ?_ | (refine EvQ.pickB rfl rfl rfl ?_) | (refine EvQ.cond rfl (fun h => ?_) (fun h => ?_) <;> ((first | replace h := X.nm h | skip); try have hne := ne_len h)) | (refine EvQ.g1 rfl (fun h => ?_) (fun h => ?_) <;> ((first | replace h := X.nm h | skip); try have hne := ne_len h)) | (refine EvQ.pick rfl (fun _ => rfl) (fun _ => rfl) (fun h => ?_) (fun h => ?_) <;> ((first | replace h := X.nm h | skip); try have hne := ne_len h)) | refine EvQ.fin X.rs ?_ | refine EvQ.fin1 (fun _ => rfl) rfl ?_)
  refine ⟨_, _, rfl, ?_⟩
  exact ⟨hp1.next, rfl, u1.next, Nat.lt_succ_self _, u1.trans (Up.new _ _ u1.next)⟩
end Go.Proofs.YtfnoiklmcmboeaaGreatDoor.cnw
