import Derived.Test.YtndodhmfdjcjgaaGreatDoorEvE
import Derived.Test.YtndodhmfdjcjgaaGreatDoorTe
set_option linter.unusedSectionVars false
set_option linter.unusedVariables false
set_option linter.unusedSimpArgs false
-- the document's shape of any frame (EvHp EvOwn)
namespace Go.Proofs.YtndodhmfdjcjgaaGreatDoor
open Go hiding Fn
open Ev tab
attribute [local irreducible] EvP EvD EvL EvC EvO evGds evLs C.run sK bK gK pK fK lpB stepD numE setB ackE
set_option maxHeartbeats 64000000 in
theorem sh_0 (fl s : Int) (p : List Int) (hb : ByL p) (hp : p.length <= 1000) (hr : rightB 0 fl s p.length = true) : ShQ 0 fl s p := by
 have rt := rright_ok 0 fl s p
 rw [hr] at rt
 have b6 := bad2_any (Int.ofNat 6) (Int.ofNat 0)
 have b1 := bad2_any (Int.ofNat 1) (Int.ofNat 0)
 have s6 := bad1_any (Int.ofNat 6) s
 have s1 := bad1_any (Int.ofNat 1) s
 have clo := fr_clo 0 fl s p
 have hl := bs_length p
 unfold ShQ
 by_cases hs : s = 0
 ·have zs : ieq s (Int.ofNat 0) = true := by rw [ieqD]; exact decide_eq_true hs
  unfold fr at *
  repeat (first | refine EvQ.run ?_ | refine EvQ.lift (fun _ zn => X.pcall (rt) X.cq rfl X.al rfl zn) ?_ | refine EvQ.lift (fun _ zn => X.pcallG (rt) rfl X.cq rfl X.al rfl zn) ?_ | refine EvQ.lift (fun _ zn => X.pcallC (rt) rfl X.cq rfl X.al rfl zn) ?_ | refine EvQ.lift (fun _ zn => X.pcallT (rt) (by decide) X.cq rfl X.al rfl zn) ?_ | refine EvQ.lift (fun _ zn => X.call rfl X.al (rt) zn) ?_ | refine EvQ.lift (fun _ zn => X.pcall (b1) X.cq rfl X.al rfl zn) ?_ | refine EvQ.lift (fun _ zn => X.pcallG (b1) rfl X.cq rfl X.al rfl zn) ?_ | refine EvQ.lift (fun _ zn => X.pcallC (b1) rfl X.cq rfl X.al rfl zn) ?_ | refine EvQ.lift (fun _ zn => X.pcallT (b1) (by decide) X.cq rfl X.al rfl zn) ?_ | refine EvQ.lift (fun _ zn => X.call rfl X.al (b1) zn) ?_ | refine EvQ.fin X.rs ?_ | refine EvQ.fin1 (fun _ => rfl) rfl ?_)
  refine fin2 (fun _ => rfl) rfl rfl ?_
  exact ⟨_, _, _, _, PQ.of (.gs pt_clo (.gs bd_clo (.nil _))), ⟨_, _, _, _, _, _, _, _, _, _, _, rfl⟩, (fun _ q => by cases q), .no (by decide)⟩
 ·have zs : ieq s (Int.ofNat 0) = false := by rw [ieqD]; exact decide_eq_false hs
  obtain ⟨P, a, b, c, sp, x1, x2, x3, x4, x5, x6, x7, x8, x9, xa, xb, rfl⟩ := long_any 0 fl s p hb hp (.inl rfl)
  unfold fr at *
  repeat (first | refine EvQ.run ?_ | refine EvQ.lift (fun _ zn => X.pcall (rt) X.cq rfl X.al rfl zn) ?_ | refine EvQ.lift (fun _ zn => X.pcallG (rt) rfl X.cq rfl X.al rfl zn) ?_ | refine EvQ.lift (fun _ zn => X.pcallC (rt) rfl X.cq rfl X.al rfl zn) ?_ | refine EvQ.lift (fun _ zn => X.pcallT (rt) (by decide) X.cq rfl X.al rfl zn) ?_ | refine EvQ.lift (fun _ zn => X.call rfl X.al (rt) zn) ?_ | refine EvQ.fin X.rs ?_ | refine EvQ.fin1 (fun _ => rfl) rfl ?_)
  refine EvQ.lift (fun _ zn => X.pcall sp (.gs clo (.g (closeCs_clo2 pt_clo0 _ _ (by decide)) (.nil _))) rfl X.al rfl zn) ?_
  repeat (first | refine EvQ.run ?_ | refine EvQ.fin X.rs ?_ | refine EvQ.fin1 (fun _ => rfl) rfl ?_)
  refine fin2 (fun _ => rfl) rfl rfl ?_
  exact ⟨_, _, _, _, PQ.of (.gs pt_clo (.gs bd_clo (.nil _))), ⟨_, _, _, _, _, _, _, _, _, _, _, rfl⟩, (fun e => absurd e (by decide)), .no (by decide)⟩
set_option maxHeartbeats 64000000 in
theorem sh_1 (fl s : Int) (p : List Int) (hb : ByL p) (hp : p.length <= 1000) (hr : rightB 1 fl s p.length = true) : ShQ 1 fl s p := by
 have rt := rright_ok 1 fl s p
 rw [hr] at rt
 have b6 := bad2_any (Int.ofNat 6) (Int.ofNat 0)
 have b1 := bad2_any (Int.ofNat 1) (Int.ofNat 0)
 have s6 := bad1_any (Int.ofNat 6) s
 have s1 := bad1_any (Int.ofNat 1) s
 have clo := fr_clo 1 fl s p
 have hl := bs_length p
 unfold ShQ
 by_cases hs : s = 0
 ·have zs : ieq s (Int.ofNat 0) = true := by rw [ieqD]; exact decide_eq_true hs
  unfold fr at *
  repeat (first | refine EvQ.run ?_ | refine EvQ.lift (fun _ zn => X.pcall (rt) X.cq rfl X.al rfl zn) ?_ | refine EvQ.lift (fun _ zn => X.pcallG (rt) rfl X.cq rfl X.al rfl zn) ?_ | refine EvQ.lift (fun _ zn => X.pcallC (rt) rfl X.cq rfl X.al rfl zn) ?_ | refine EvQ.lift (fun _ zn => X.pcallT (rt) (by decide) X.cq rfl X.al rfl zn) ?_ | refine EvQ.lift (fun _ zn => X.call rfl X.al (rt) zn) ?_ | refine EvQ.lift (fun _ zn => X.pcall (b1) X.cq rfl X.al rfl zn) ?_ | refine EvQ.lift (fun _ zn => X.pcallG (b1) rfl X.cq rfl X.al rfl zn) ?_ | refine EvQ.lift (fun _ zn => X.pcallC (b1) rfl X.cq rfl X.al rfl zn) ?_ | refine EvQ.lift (fun _ zn => X.pcallT (b1) (by decide) X.cq rfl X.al rfl zn) ?_ | refine EvQ.lift (fun _ zn => X.call rfl X.al (b1) zn) ?_ | refine EvQ.fin X.rs ?_ | refine EvQ.fin1 (fun _ => rfl) rfl ?_)
  refine fin2 (fun _ => rfl) rfl rfl ?_
  exact ⟨_, _, _, _, PQ.of (.gs pt_clo (.gs bd_clo (.nil _))), ⟨_, _, _, _, _, _, _, _, _, _, _, rfl⟩, (fun _ q => by cases q), .no (by decide)⟩
 ·have zs : ieq s (Int.ofNat 0) = false := by rw [ieqD]; exact decide_eq_false hs
  obtain ⟨P, a, b, c, sp, x1, x2, x3, x4, x5, x6, x7, x8, x9, xa, xb, rfl⟩ := long_any 1 fl s p hb hp (.inr rfl)
  unfold fr at *
  repeat (first | refine EvQ.run ?_ | refine EvQ.lift (fun _ zn => X.pcall (rt) X.cq rfl X.al rfl zn) ?_ | refine EvQ.lift (fun _ zn => X.pcallG (rt) rfl X.cq rfl X.al rfl zn) ?_ | refine EvQ.lift (fun _ zn => X.pcallC (rt) rfl X.cq rfl X.al rfl zn) ?_ | refine EvQ.lift (fun _ zn => X.pcallT (rt) (by decide) X.cq rfl X.al rfl zn) ?_ | refine EvQ.lift (fun _ zn => X.call rfl X.al (rt) zn) ?_ | refine EvQ.fin X.rs ?_ | refine EvQ.fin1 (fun _ => rfl) rfl ?_)
  refine EvQ.lift (fun _ zn => X.pcall sp (.gs clo (.g (closeCs_clo2 pt_clo0 _ _ (by decide)) (.nil _))) rfl X.al rfl zn) ?_
  repeat (first | refine EvQ.run ?_ | refine EvQ.fin X.rs ?_ | refine EvQ.fin1 (fun _ => rfl) rfl ?_)
  refine fin2 (fun _ => rfl) rfl rfl ?_
  exact ⟨_, _, _, _, PQ.of (.gs pt_clo (.gs bd_clo (.nil _))), ⟨_, _, _, _, _, _, _, _, _, _, _, rfl⟩, (fun e => absurd e (by decide)), .no (by decide)⟩
set_option maxHeartbeats 64000000 in
theorem sh_5 (fl s : Int) (p : List Int) (hb : ByL p) (hp : p.length <= 1000) (hr : rightB 5 fl s p.length = true) : ShQ 5 fl s p := by
 have rt := rright_ok 5 fl s p
 rw [hr] at rt
 have b6 := bad2_any (Int.ofNat 6) (Int.ofNat 0)
 have b1 := bad2_any (Int.ofNat 1) (Int.ofNat 0)
 have s6 := bad1_any (Int.ofNat 6) s
 have s1 := bad1_any (Int.ofNat 1) s
 have clo := fr_clo 5 fl s p
 have hl := bs_length p
 unfold ShQ
 by_cases hs : s = 0
 ·have zs : ieq s (Int.ofNat 0) = true := by rw [ieqD]; exact decide_eq_true hs
  unfold fr at *
  repeat (first | refine EvQ.run ?_ | refine EvQ.lift (fun _ zn => X.pcall (rt) X.cq rfl X.al rfl zn) ?_ | refine EvQ.lift (fun _ zn => X.pcallG (rt) rfl X.cq rfl X.al rfl zn) ?_ | refine EvQ.lift (fun _ zn => X.pcallC (rt) rfl X.cq rfl X.al rfl zn) ?_ | refine EvQ.lift (fun _ zn => X.pcallT (rt) (by decide) X.cq rfl X.al rfl zn) ?_ | refine EvQ.lift (fun _ zn => X.call rfl X.al (rt) zn) ?_ | refine EvQ.lift (fun _ zn => X.pcall (b1) X.cq rfl X.al rfl zn) ?_ | refine EvQ.lift (fun _ zn => X.pcallG (b1) rfl X.cq rfl X.al rfl zn) ?_ | refine EvQ.lift (fun _ zn => X.pcallC (b1) rfl X.cq rfl X.al rfl zn) ?_ | refine EvQ.lift (fun _ zn => X.pcallT (b1) (by decide) X.cq rfl X.al rfl zn) ?_ | refine EvQ.lift (fun _ zn => X.call rfl X.al (b1) zn) ?_ | refine EvQ.fin X.rs ?_ | refine EvQ.fin1 (fun _ => rfl) rfl ?_)
  refine fin2 (fun _ => rfl) rfl rfl ?_
  exact ⟨_, _, _, _, PQ.of (.gs pt_clo (.gs bd_clo (.nil _))), ⟨_, _, _, _, _, _, _, _, _, _, _, rfl⟩, (fun _ q => by cases q), .no (by decide)⟩
 ·have zs : ieq s (Int.ofNat 0) = false := by rw [ieqD]; exact decide_eq_false hs
  unfold fr at *
  repeat (first | refine EvQ.run ?_ | refine EvQ.lift (fun _ zn => X.pcall (rt) X.cq rfl X.al rfl zn) ?_ | refine EvQ.lift (fun _ zn => X.pcallG (rt) rfl X.cq rfl X.al rfl zn) ?_ | refine EvQ.lift (fun _ zn => X.pcallC (rt) rfl X.cq rfl X.al rfl zn) ?_ | refine EvQ.lift (fun _ zn => X.pcallT (rt) (by decide) X.cq rfl X.al rfl zn) ?_ | refine EvQ.lift (fun _ zn => X.call rfl X.al (rt) zn) ?_ | refine EvQ.lift (fun _ zn => X.pcall (b1) X.cq rfl X.al rfl zn) ?_ | refine EvQ.lift (fun _ zn => X.pcallG (b1) rfl X.cq rfl X.al rfl zn) ?_ | refine EvQ.lift (fun _ zn => X.pcallC (b1) rfl X.cq rfl X.al rfl zn) ?_ | refine EvQ.lift (fun _ zn => X.pcallT (b1) (by decide) X.cq rfl X.al rfl zn) ?_ | refine EvQ.lift (fun _ zn => X.call rfl X.al (b1) zn) ?_ | refine EvQ.fin X.rs ?_ | refine EvQ.fin1 (fun _ => rfl) rfl ?_)
  refine fin2 (fun _ => rfl) rfl rfl ?_
  exact ⟨_, _, _, _, PQ.of (.gs pt_clo (.gs bd_clo (.nil _))), ⟨_, _, _, _, _, _, _, _, _, _, _, rfl⟩, (fun _ q => by cases q), .no (by decide)⟩
end Go.Proofs.YtndodhmfdjcjgaaGreatDoor
