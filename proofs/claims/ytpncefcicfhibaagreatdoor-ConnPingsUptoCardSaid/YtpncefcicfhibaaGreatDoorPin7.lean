import Derived.Test.YtpncefcicfhibaaGreatDoorEvE
import Derived.Test.YtpncefcicfhibaaGreatDoorPin6
import Derived.Test.YtpncefcicfhibaaGreatDoorPin0
set_option linter.unusedVariables false
set_option linter.unusedSimpArgs false
-- ConnPings, whole (EvHp EvOwn)
namespace Go.Proofs.YtpncefcicfhibaaGreatDoor.pings
open Go hiding Fn
open Ev tab
def c0 : CnV := ⟨65535, .ns, 65535, 65535, .ns, 0, .ns, .ns⟩
theorem ps0 : PS hpA c0 [] where
  cn := rowA
  q := .ns
  q0 := fun _ e => by cases e
  rd := ⟨.hs 9 9 0, readA, .inr (.inr ⟨9, 9, false, [0, 0, 0, 4, 0, 0, 0, 0, 0], rfl, by decide, Nat.zero_le _, restA, by decide, rfl⟩)⟩
  nil := fun j hj => by
    cases h : hget hpA j with
    | none => rfl
    | some b =>
      have := keysA j (keys_of _ _ b h)
      exact absurd hj (by show ¬ 14 ≤ j; omega)
  lim := rfl
  next := by decide
attribute [local irreducible] EvP EvD EvL EvC evGds evLs C.run sK bK gK pK fK lpB stepD hpA
set_option maxHeartbeats 8000000 in
theorem dead_ok {hp : Hp} {f : Bool} {c : CnV} (h : hget hp 0 = some ⟨26, f, [rowC c]⟩) : ∃ w hp', EvC F false 22 [.pt 0 0 0] hp (.ret w hp') ∧ (w = .bo false ∧ hp' = hp) := by
  refine EvC.ofQ d22 rfl rfl rfl ?_
  repeat (first | refine EvQ.run ?_ | refine EvQ.fin X.rs ?_ | refine EvQ.fin1 (fun _ => rfl) rfl ?_)
  exact ⟨_, _, rfl, rfl, rfl⟩
set_option maxHeartbeats 32000000 in
theorem pings_run (l : List Int) (as' : List Bool) (hl : l.length ≤ 10000000) (hla : as'.length ≤ 10000000) : ∃ h, EvD F (stepD d4 [.vs 1 (us l), .vs 1 (bls as')] h0) (Rt (.bo true) h) := by
  have b1 := own_ok
  have b2 := new_ok
  refine EvQ.law ?_
  repeat (first | refine EvQ.run ?_ | refine EvQ.lift (fun _ zn => X.pcall (b1) X.cq rfl X.al rfl zn) ?_ | refine EvQ.lift (fun _ zn => X.pcallG (b1) rfl X.cq rfl X.al rfl zn) ?_ | refine EvQ.lift (fun _ zn => X.pcallC (b1) rfl X.cq rfl X.al rfl zn) ?_ | refine EvQ.lift (fun _ zn => X.pcallT (b1) (by decide) X.cq rfl X.al rfl zn) ?_ | refine EvQ.lift (fun _ zn => X.call rfl X.al (b1) zn) ?_ | refine EvQ.lift (fun _ zn => X.pcall (b2) X.cq rfl X.al rfl zn) ?_ | refine EvQ.lift (fun _ zn => X.pcallG (b2) rfl X.cq rfl X.al rfl zn) ?_ | refine EvQ.lift (fun _ zn => X.pcallC (b2) rfl X.cq rfl X.al rfl zn) ?_ | refine EvQ.lift (fun _ zn => X.pcallT (b2) (by decide) X.cq rfl X.al rfl zn) ?_ | refine EvQ.lift (fun _ zn => X.call rfl X.al (b2) zn) ?_ | refine EvQ.fin X.rs ?_ | refine EvQ.fin1 (fun _ => rfl) rfl ?_)
  refine EvQ.loop (pings_loop l as' hl hla c0 hpA ps0 _ ?_ _ ?_) ?_
  · exact X.lo
  · exact X.kv
  rintro _ ⟨q, w, hq, hW, tm, lo, hp, rfl, c, hS⟩
  have ou := out_all hS (by omega)
  have hwl : isLp w = false := by rcases hW with ⟨rfl, _⟩ | rfl <;> rfl
  repeat (first | refine EvQ.run ?_ | refine EvQ.fin X.rs ?_ | refine EvQ.fin1 (fun _ => rfl) rfl ?_)
  refine EvQ.call rfl X.al ou ?_
  rintro v hp2 ⟨hv, c2, hc2⟩
  have hvl := hv.lp
  obtain ⟨hpZ, z1, -, e1⟩ := close_by2 hv
  obtain ⟨f, hz, -⟩ := z1.get 0 _ hc2
  have hcl : ClP c12.ps [v, w] hp2 [.vs 1 (bs q), .vs 1 (bs q)] hpZ := .c (e1 _ (by show q.length + 5 ≤ 100000000; omega)) (by
    rcases hW with ⟨rfl, rfl⟩ | rfl
    · exact .s2 (clo_ns [.one]) (.nil _)
    · exact .s (clo_vs [.one] _) (.nil _))
  have sm := same_ok q q (by omega)
  rw [decide_eq_true rfl] at sm
  have dd := dead_ok hz
  have cr := cr_ok hpZ
  repeat (first | refine EvQ.run ?_ | refine EvQ.fin X.rs ?_ | refine EvQ.fin1 (fun _ => rfl) rfl ?_)
  refine EvQ.lift (fun _ zn => X.pcall sm hcl rfl X.al rfl zn) ?_
  repeat (first | refine EvQ.run ?_ | refine EvQ.fin X.rs ?_ | refine EvQ.fin1 (fun _ => rfl) rfl ?_)
  refine EvQ.call rfl X.al dd ?_
  rintro _ hp3 ⟨rfl, rfl⟩
  repeat (first | refine EvQ.run ?_ | refine EvQ.lift (fun _ zn => X.pcall (cr) X.cq rfl X.al rfl zn) ?_ | refine EvQ.lift (fun _ zn => X.pcallG (cr) rfl X.cq rfl X.al rfl zn) ?_ | refine EvQ.lift (fun _ zn => X.pcallC (cr) rfl X.cq rfl X.al rfl zn) ?_ | refine EvQ.lift (fun _ zn => X.pcallT (cr) (by decide) X.cq rfl X.al rfl zn) ?_ | refine EvQ.lift (fun _ zn => X.call rfl X.al (cr) zn) ?_ | refine EvQ.fin X.rs ?_ | refine EvQ.fin1 (fun _ => rfl) rfl ?_)
  exact ⟨_, rfl⟩
end Go.Proofs.YtpncefcicfhibaaGreatDoor.pings
