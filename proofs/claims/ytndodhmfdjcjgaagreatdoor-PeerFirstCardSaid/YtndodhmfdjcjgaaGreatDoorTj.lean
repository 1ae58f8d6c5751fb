import Derived.Test.YtndodhmfdjcjgaaGreatDoorEvE
import Derived.Test.YtndodhmfdjcjgaaGreatDoorTf
import Derived.Test.YtndodhmfdjcjgaaGreatDoorTg
import Derived.Test.YtndodhmfdjcjgaaGreatDoorTh
import Derived.Test.YtndodhmfdjcjgaaGreatDoorTi
set_option linter.unusedSectionVars false
set_option linter.unusedVariables false
set_option linter.unusedSimpArgs false
-- the document's shape of any frame (EvHp EvOwn)
namespace Go.Proofs.YtndodhmfdjcjgaaGreatDoor
open Go hiding Fn
open Ev tab
attribute [local irreducible] EvP EvD EvL EvC EvO evGds evLs C.run sK bK gK pK fK lpB stepD numE setB ackE
set_option maxHeartbeats 64000000 in
theorem rshape_any (ty fl s : Int) (p : List Int) (hb : ByL p) (hp : p.length <= 1000) : ∃ P a b c, EvP F 8 c8 [.ag (fr ty fl s p)] [.ag P, .ag [.it .i64 a, .it .i64 b, .it .i64 c]] /\ PtF P /\ ErQ ty a b c /\ RsX ty fl s p a := by
 have rt := rright_ok ty fl s p
 have clo := fr_clo ty fl s p
 have main : ShQ ty fl s p := by
  cases hr : rightB ty fl s p.length with
  | false =>
   rw [hr] at rt
   unfold ShQ
   unfold fr at *
   repeat (first | refine EvQ.run ?_ | refine EvQ.lift (fun _ zn => X.pcall (rt) X.cq rfl X.al rfl zn) ?_ | refine EvQ.lift (fun _ zn => X.pcallG (rt) rfl X.cq rfl X.al rfl zn) ?_ | refine EvQ.lift (fun _ zn => X.pcallC (rt) rfl X.cq rfl X.al rfl zn) ?_ | refine EvQ.lift (fun _ zn => X.pcallT (rt) (by decide) X.cq rfl X.al rfl zn) ?_ | refine EvQ.lift (fun _ zn => X.call rfl X.al (rt) zn) ?_ | refine EvQ.fin X.rs ?_ | refine EvQ.fin1 (fun _ => rfl) rfl ?_)
   refine fin2 (fun _ => rfl) rfl rfl ?_
   exact ⟨_, _, _, _, PQ.of (.g (closeCs_clo2 pt_clo0 _ _ (by decide)) (.gs bd_clo (.nil _))), ⟨_, _, _, _, _, _, _, _, _, _, _, rfl⟩, (fun _ _ => ⟨rfl, rfl⟩), fun _ _ q => by rw [hr] at q; cases q⟩
  | true =>
   have h0t : 0 <= ty := by unfold rightB at hr; exact (of_decide_eq_true hr).1
   by_cases h9 : 9 < ty
   ·rw [hr] at rt
    have z9 : ilt (Int.ofNat 9) ty = true := by rw [ilt_eq]; exact decide_eq_true h9
    unfold ShQ
    unfold fr at *
    repeat (first | refine EvQ.run ?_ | refine EvQ.lift (fun _ zn => X.pcall (rt) X.cq rfl X.al rfl zn) ?_ | refine EvQ.lift (fun _ zn => X.pcallG (rt) rfl X.cq rfl X.al rfl zn) ?_ | refine EvQ.lift (fun _ zn => X.pcallC (rt) rfl X.cq rfl X.al rfl zn) ?_ | refine EvQ.lift (fun _ zn => X.pcallT (rt) (by decide) X.cq rfl X.al rfl zn) ?_ | refine EvQ.lift (fun _ zn => X.call rfl X.al (rt) zn) ?_ | refine EvQ.fin X.rs ?_ | refine EvQ.fin1 (fun _ => rfl) rfl ?_)
    refine fin2 (fun _ => rfl) rfl rfl ?_
    exact ⟨_, _, _, _, PQ.of (.g (closeCs_clo2 pt_clo0 _ _ (by decide)) (.gs bd_clo (.nil _))), ⟨_, _, _, _, _, _, _, _, _, _, _, rfl⟩, (fun _ _ => ⟨rfl, rfl⟩), .no (by omega)⟩
   ·have h10 : ty = 0 \/ ty = 1 \/ ty = 2 \/ ty = 3 \/ ty = 4 \/ ty = 5 \/ ty = 6 \/ ty = 7 \/ ty = 8 \/ ty = 9 := by omega
    rcases h10 with rfl | rfl | rfl | rfl | rfl | rfl | rfl | rfl | rfl | rfl
    ·exact sh_0 fl s p hb hp hr
    ·exact sh_1 fl s p hb hp hr
    ·exact sh_2 fl s p hb hp hr
    ·exact sh_3 fl s p hb hp hr
    ·exact sh_4 fl s p hb hp hr
    ·exact sh_5 fl s p hb hp hr
    ·exact sh_6 fl s p hb hp hr
    ·exact sh_7 fl s p hb hp hr
    ·exact sh_8 fl s p hb hp hr
    ·exact sh_9 fl s p hb hp hr
 obtain ⟨r, h, P, a, b, c, q, z⟩ := main
 exact ⟨P, a, b, c, EvP.ofQ d8 rfl rfl rfl ⟨r, h, q⟩, z⟩
end Go.Proofs.YtndodhmfdjcjgaaGreatDoor
