import Derived.Test.YtndodhmfdjcjgaaGreatDoorEvE
import Derived.Test.YtndodhmfdjcjgaaGreatDoorTe
set_option linter.unusedSectionVars false
set_option linter.unusedVariables false
set_option linter.unusedSimpArgs false
-- the document's shape of any frame (EvHp EvOwn)
namespace Go.Proofs.YtndodhmfdjcjgaaGreatDoor
open Go hiding Fn
open Ev tab
attribute [local irreducible] EvP EvD EvL EvC EvO evGds evLs C.run sK bK gK pK fK lpB stepD numE setB ackE
set_option maxHeartbeats 64000000 in
theorem sh_2 (fl s : Int) (p : List Int) (hb : ByL p) (hp : p.length <= 1000) (hr : rightB 2 fl s p.length = true) : ShQ 2 fl s p := by
 have rt := rright_ok 2 fl s p
 rw [hr] at rt
 have b6 := bad2_any (Int.ofNat 6) (Int.ofNat 0)
 have b1 := bad2_any (Int.ofNat 1) (Int.ofNat 0)
 have s6 := bad1_any (Int.ofNat 6) s
 have s1 := bad1_any (Int.ofNat 1) s
 have clo := fr_clo 2 fl s p
 have hl := bs_length p
 unfold ShQ
 by_cases hs : s = 0
 ·have zs : ieq s (Int.ofNat 0) = true := by rw [ieqD]; exact decide_eq_true hs
  unfold fr at *
  repeat (first | refine EvQ.run ?_ | refine EvQ.lift (fun _ zn => X.pcall (rt) X.cq rfl X.al rfl zn) ?_ | refine EvQ.lift (fun _ zn => X.pcallG (rt) rfl X.cq rfl X.al rfl zn) ?_ | refine EvQ.lift (fun _ zn => X.pcallC (rt) rfl X.cq rfl X.al rfl zn) ?_ | refine EvQ.lift (fun _ zn => X.pcallT (rt) (by decide) X.cq rfl X.al rfl zn) ?_ | refine EvQ.lift (fun _ zn => X.call rfl X.al (rt) zn) ?_ | refine EvQ.lift (fun _ zn => X.pcall (b1) X.cq rfl X.al rfl zn) ?_ | refine EvQ.lift (fun _ zn => X.pcallG (b1) rfl X.cq rfl X.al rfl zn) ?_ | refine EvQ.lift (fun _ zn => X.pcallC (b1) rfl X.cq rfl X.al rfl zn) ?_ | refine EvQ.lift (fun _ zn => X.pcallT (b1) (by decide) X.cq rfl X.al rfl zn) ?_ | refine EvQ.lift (fun _ zn => X.call rfl X.al (b1) zn) ?_ | refine EvQ.fin X.rs ?_ | refine EvQ.fin1 (fun _ => rfl) rfl ?_)
  refine fin2 (fun _ => rfl) rfl rfl ?_
  exact ⟨_, _, _, _, PQ.of (.gs pt_clo (.gs bd_clo (.nil _))), ⟨_, _, _, _, _, _, _, _, _, _, _, rfl⟩, (fun _ q => by cases q), .no (by decide)⟩
 ·have zs : ieq s (Int.ofNat 0) = false := by rw [ieqD]; exact decide_eq_false hs
  unfold fr at *
  by_cases h5 : p.length = 5
  ·have z5 : ieq (Int.ofNat (bs p).length) (Int.ofNat 5) = true := by rw [hl, h5]; rfl
   obtain ⟨n, fo⟩ := four_any p (by omega)
   by_cases hn : n = s
   ·have zn0 : ieq n s = true := by rw [ieqD]; exact decide_eq_true hn
    repeat (first | refine EvQ.run ?_ | refine EvQ.lift (fun _ zn => X.pcall (rt) X.cq rfl X.al rfl zn) ?_ | refine EvQ.lift (fun _ zn => X.pcallG (rt) rfl X.cq rfl X.al rfl zn) ?_ | refine EvQ.lift (fun _ zn => X.pcallC (rt) rfl X.cq rfl X.al rfl zn) ?_ | refine EvQ.lift (fun _ zn => X.pcallT (rt) (by decide) X.cq rfl X.al rfl zn) ?_ | refine EvQ.lift (fun _ zn => X.call rfl X.al (rt) zn) ?_ | refine EvQ.lift (fun _ zn => X.pcall (fo) X.cq rfl X.al rfl zn) ?_ | refine EvQ.lift (fun _ zn => X.pcallG (fo) rfl X.cq rfl X.al rfl zn) ?_ | refine EvQ.lift (fun _ zn => X.pcallC (fo) rfl X.cq rfl X.al rfl zn) ?_ | refine EvQ.lift (fun _ zn => X.pcallT (fo) (by decide) X.cq rfl X.al rfl zn) ?_ | refine EvQ.lift (fun _ zn => X.call rfl X.al (fo) zn) ?_ | refine EvQ.lift (fun _ zn => X.pcall (s1) X.cq rfl X.al rfl zn) ?_ | refine EvQ.lift (fun _ zn => X.pcallG (s1) rfl X.cq rfl X.al rfl zn) ?_ | refine EvQ.lift (fun _ zn => X.pcallC (s1) rfl X.cq rfl X.al rfl zn) ?_ | refine EvQ.lift (fun _ zn => X.pcallT (s1) (by decide) X.cq rfl X.al rfl zn) ?_ | refine EvQ.lift (fun _ zn => X.call rfl X.al (s1) zn) ?_ | refine EvQ.fin X.rs ?_ | refine EvQ.fin1 (fun _ => rfl) rfl ?_)
    refine fin2 (fun _ => rfl) rfl rfl ?_
    exact ⟨_, _, _, _, PQ.of (.gs pt_clo (.gs bd_clo (.nil _))), ⟨_, _, _, _, _, _, _, _, _, _, _, rfl⟩, (fun _ q => by cases q), .no (by decide)⟩
   ·have zn0 : ieq n s = false := by rw [ieqD]; exact decide_eq_false hn
    repeat (first | refine EvQ.run ?_ | refine EvQ.lift (fun _ zn => X.pcall (rt) X.cq rfl X.al rfl zn) ?_ | refine EvQ.lift (fun _ zn => X.pcallG (rt) rfl X.cq rfl X.al rfl zn) ?_ | refine EvQ.lift (fun _ zn => X.pcallC (rt) rfl X.cq rfl X.al rfl zn) ?_ | refine EvQ.lift (fun _ zn => X.pcallT (rt) (by decide) X.cq rfl X.al rfl zn) ?_ | refine EvQ.lift (fun _ zn => X.call rfl X.al (rt) zn) ?_ | refine EvQ.lift (fun _ zn => X.pcall (fo) X.cq rfl X.al rfl zn) ?_ | refine EvQ.lift (fun _ zn => X.pcallG (fo) rfl X.cq rfl X.al rfl zn) ?_ | refine EvQ.lift (fun _ zn => X.pcallC (fo) rfl X.cq rfl X.al rfl zn) ?_ | refine EvQ.lift (fun _ zn => X.pcallT (fo) (by decide) X.cq rfl X.al rfl zn) ?_ | refine EvQ.lift (fun _ zn => X.call rfl X.al (fo) zn) ?_ | refine EvQ.fin X.rs ?_ | refine EvQ.fin1 (fun _ => rfl) rfl ?_)
    refine fin2 (fun _ => rfl) rfl rfl ?_
    exact ⟨_, _, _, _, PQ.of (.g (closeCs_clo2 pt_clo0 _ _ (by decide)) (.gs bd_clo (.nil _))), ⟨_, _, _, _, _, _, _, _, _, _, _, rfl⟩, (fun _ _ => ⟨rfl, rfl⟩), .no (by decide)⟩
  ·have z5 : ieq (Int.ofNat (bs p).length) (Int.ofNat 5) = false := by rw [hl, ieqD]; exact decide_eq_false (by simp only [Int.ofNat_eq_natCast]; omega)
   repeat (first | refine EvQ.run ?_ | refine EvQ.lift (fun _ zn => X.pcall (rt) X.cq rfl X.al rfl zn) ?_ | refine EvQ.lift (fun _ zn => X.pcallG (rt) rfl X.cq rfl X.al rfl zn) ?_ | refine EvQ.lift (fun _ zn => X.pcallC (rt) rfl X.cq rfl X.al rfl zn) ?_ | refine EvQ.lift (fun _ zn => X.pcallT (rt) (by decide) X.cq rfl X.al rfl zn) ?_ | refine EvQ.lift (fun _ zn => X.call rfl X.al (rt) zn) ?_ | refine EvQ.lift (fun _ zn => X.pcall (s6) X.cq rfl X.al rfl zn) ?_ | refine EvQ.lift (fun _ zn => X.pcallG (s6) rfl X.cq rfl X.al rfl zn) ?_ | refine EvQ.lift (fun _ zn => X.pcallC (s6) rfl X.cq rfl X.al rfl zn) ?_ | refine EvQ.lift (fun _ zn => X.pcallT (s6) (by decide) X.cq rfl X.al rfl zn) ?_ | refine EvQ.lift (fun _ zn => X.call rfl X.al (s6) zn) ?_ | refine EvQ.fin X.rs ?_ | refine EvQ.fin1 (fun _ => rfl) rfl ?_)
   refine fin2 (fun _ => rfl) rfl rfl ?_
   exact ⟨_, _, _, _, PQ.of (.gs pt_clo (.gs bd_clo (.nil _))), ⟨_, _, _, _, _, _, _, _, _, _, _, rfl⟩, (fun _ q => by cases q), .no (by decide)⟩
set_option maxHeartbeats 64000000 in
theorem sh_3 (fl s : Int) (p : List Int) (hb : ByL p) (hp : p.length <= 1000) (hr : rightB 3 fl s p.length = true) : ShQ 3 fl s p := by
 have rt := rright_ok 3 fl s p
 rw [hr] at rt
 have b6 := bad2_any (Int.ofNat 6) (Int.ofNat 0)
 have b1 := bad2_any (Int.ofNat 1) (Int.ofNat 0)
 have s6 := bad1_any (Int.ofNat 6) s
 have s1 := bad1_any (Int.ofNat 1) s
 have clo := fr_clo 3 fl s p
 have hl := bs_length p
 unfold ShQ
 by_cases hs : s = 0
 ·have zs : ieq s (Int.ofNat 0) = true := by rw [ieqD]; exact decide_eq_true hs
  unfold fr at *
  repeat (first | refine EvQ.run ?_ | refine EvQ.lift (fun _ zn => X.pcall (rt) X.cq rfl X.al rfl zn) ?_ | refine EvQ.lift (fun _ zn => X.pcallG (rt) rfl X.cq rfl X.al rfl zn) ?_ | refine EvQ.lift (fun _ zn => X.pcallC (rt) rfl X.cq rfl X.al rfl zn) ?_ | refine EvQ.lift (fun _ zn => X.pcallT (rt) (by decide) X.cq rfl X.al rfl zn) ?_ | refine EvQ.lift (fun _ zn => X.call rfl X.al (rt) zn) ?_ | refine EvQ.lift (fun _ zn => X.pcall (b1) X.cq rfl X.al rfl zn) ?_ | refine EvQ.lift (fun _ zn => X.pcallG (b1) rfl X.cq rfl X.al rfl zn) ?_ | refine EvQ.lift (fun _ zn => X.pcallC (b1) rfl X.cq rfl X.al rfl zn) ?_ | refine EvQ.lift (fun _ zn => X.pcallT (b1) (by decide) X.cq rfl X.al rfl zn) ?_ | refine EvQ.lift (fun _ zn => X.call rfl X.al (b1) zn) ?_ | refine EvQ.fin X.rs ?_ | refine EvQ.fin1 (fun _ => rfl) rfl ?_)
  refine fin2 (fun _ => rfl) rfl rfl ?_
  exact ⟨_, _, _, _, PQ.of (.gs pt_clo (.gs bd_clo (.nil _))), ⟨_, _, _, _, _, _, _, _, _, _, _, rfl⟩, (fun _ q => by cases q), .no (by decide)⟩
 ·have zs : ieq s (Int.ofNat 0) = false := by rw [ieqD]; exact decide_eq_false hs
  unfold fr at *
  by_cases h4 : p.length = 4
  ·have z4 : ieq (Int.ofNat (bs p).length) (Int.ofNat 4) = true := by rw [hl, h4]; rfl
   have na := all_any p (by omega)
   repeat (first | refine EvQ.run ?_ | refine EvQ.lift (fun _ zn => X.pcall (rt) X.cq rfl X.al rfl zn) ?_ | refine EvQ.lift (fun _ zn => X.pcallG (rt) rfl X.cq rfl X.al rfl zn) ?_ | refine EvQ.lift (fun _ zn => X.pcallC (rt) rfl X.cq rfl X.al rfl zn) ?_ | refine EvQ.lift (fun _ zn => X.pcallT (rt) (by decide) X.cq rfl X.al rfl zn) ?_ | refine EvQ.lift (fun _ zn => X.call rfl X.al (rt) zn) ?_ | refine EvQ.lift (fun _ zn => X.pcall (na) X.cq rfl X.al rfl zn) ?_ | refine EvQ.lift (fun _ zn => X.pcallG (na) rfl X.cq rfl X.al rfl zn) ?_ | refine EvQ.lift (fun _ zn => X.pcallC (na) rfl X.cq rfl X.al rfl zn) ?_ | refine EvQ.lift (fun _ zn => X.pcallT (na) (by decide) X.cq rfl X.al rfl zn) ?_ | refine EvQ.lift (fun _ zn => X.call rfl X.al (na) zn) ?_ | refine EvQ.fin X.rs ?_ | refine EvQ.fin1 (fun _ => rfl) rfl ?_)
   refine fin2 (fun _ => rfl) rfl rfl ?_
   exact ⟨_, _, _, _, PQ.of (.g (closeCs_clo2 pt_clo0 _ _ (by decide)) (.gs bd_clo (.nil _))), ⟨_, _, _, _, _, _, _, _, _, _, _, rfl⟩, (fun _ _ => ⟨rfl, rfl⟩), .no (by decide)⟩
  ·have z4 : ieq (Int.ofNat (bs p).length) (Int.ofNat 4) = false := by rw [hl, ieqD]; exact decide_eq_false (by simp only [Int.ofNat_eq_natCast]; omega)
   repeat (first | refine EvQ.run ?_ | refine EvQ.lift (fun _ zn => X.pcall (rt) X.cq rfl X.al rfl zn) ?_ | refine EvQ.lift (fun _ zn => X.pcallG (rt) rfl X.cq rfl X.al rfl zn) ?_ | refine EvQ.lift (fun _ zn => X.pcallC (rt) rfl X.cq rfl X.al rfl zn) ?_ | refine EvQ.lift (fun _ zn => X.pcallT (rt) (by decide) X.cq rfl X.al rfl zn) ?_ | refine EvQ.lift (fun _ zn => X.call rfl X.al (rt) zn) ?_ | refine EvQ.lift (fun _ zn => X.pcall (b6) X.cq rfl X.al rfl zn) ?_ | refine EvQ.lift (fun _ zn => X.pcallG (b6) rfl X.cq rfl X.al rfl zn) ?_ | refine EvQ.lift (fun _ zn => X.pcallC (b6) rfl X.cq rfl X.al rfl zn) ?_ | refine EvQ.lift (fun _ zn => X.pcallT (b6) (by decide) X.cq rfl X.al rfl zn) ?_ | refine EvQ.lift (fun _ zn => X.call rfl X.al (b6) zn) ?_ | refine EvQ.fin X.rs ?_ | refine EvQ.fin1 (fun _ => rfl) rfl ?_)
   refine fin2 (fun _ => rfl) rfl rfl ?_
   exact ⟨_, _, _, _, PQ.of (.gs pt_clo (.gs bd_clo (.nil _))), ⟨_, _, _, _, _, _, _, _, _, _, _, rfl⟩, (fun _ q => by cases q), .no (by decide)⟩
set_option maxHeartbeats 64000000 in
theorem sh_9 (fl s : Int) (p : List Int) (hb : ByL p) (hp : p.length <= 1000) (hr : rightB 9 fl s p.length = true) : ShQ 9 fl s p := by
 have rt := rright_ok 9 fl s p
 rw [hr] at rt
 have b6 := bad2_any (Int.ofNat 6) (Int.ofNat 0)
 have b1 := bad2_any (Int.ofNat 1) (Int.ofNat 0)
 have s6 := bad1_any (Int.ofNat 6) s
 have s1 := bad1_any (Int.ofNat 1) s
 have clo := fr_clo 9 fl s p
 have hl := bs_length p
 unfold ShQ
 by_cases hs : s = 0
 ·have zs : ieq s (Int.ofNat 0) = true := by rw [ieqD]; exact decide_eq_true hs
  unfold fr at *
  repeat (first | refine EvQ.run ?_ | refine EvQ.lift (fun _ zn => X.pcall (rt) X.cq rfl X.al rfl zn) ?_ | refine EvQ.lift (fun _ zn => X.pcallG (rt) rfl X.cq rfl X.al rfl zn) ?_ | refine EvQ.lift (fun _ zn => X.pcallC (rt) rfl X.cq rfl X.al rfl zn) ?_ | refine EvQ.lift (fun _ zn => X.pcallT (rt) (by decide) X.cq rfl X.al rfl zn) ?_ | refine EvQ.lift (fun _ zn => X.call rfl X.al (rt) zn) ?_ | refine EvQ.lift (fun _ zn => X.pcall (b1) X.cq rfl X.al rfl zn) ?_ | refine EvQ.lift (fun _ zn => X.pcallG (b1) rfl X.cq rfl X.al rfl zn) ?_ | refine EvQ.lift (fun _ zn => X.pcallC (b1) rfl X.cq rfl X.al rfl zn) ?_ | refine EvQ.lift (fun _ zn => X.pcallT (b1) (by decide) X.cq rfl X.al rfl zn) ?_ | refine EvQ.lift (fun _ zn => X.call rfl X.al (b1) zn) ?_ | refine EvQ.fin X.rs ?_ | refine EvQ.fin1 (fun _ => rfl) rfl ?_)
  refine fin2 (fun _ => rfl) rfl rfl ?_
  exact ⟨_, _, _, _, PQ.of (.gs pt_clo (.gs bd_clo (.nil _))), ⟨_, _, _, _, _, _, _, _, _, _, _, rfl⟩, (fun _ q => by cases q), .no (by decide)⟩
 ·have zs : ieq s (Int.ofNat 0) = false := by rw [ieqD]; exact decide_eq_false hs
  unfold fr at *
  repeat (first | refine EvQ.run ?_ | refine EvQ.lift (fun _ zn => X.pcall (rt) X.cq rfl X.al rfl zn) ?_ | refine EvQ.lift (fun _ zn => X.pcallG (rt) rfl X.cq rfl X.al rfl zn) ?_ | refine EvQ.lift (fun _ zn => X.pcallC (rt) rfl X.cq rfl X.al rfl zn) ?_ | refine EvQ.lift (fun _ zn => X.pcallT (rt) (by decide) X.cq rfl X.al rfl zn) ?_ | refine EvQ.lift (fun _ zn => X.call rfl X.al (rt) zn) ?_ | refine EvQ.fin X.rs ?_ | refine EvQ.fin1 (fun _ => rfl) rfl ?_)
  refine fin2 (fun _ => rfl) rfl rfl ?_
  refine ⟨_, _, _, _, PQ.of (.g (ptB_close (id := 1) (x := p) rfl (Nat.le_of_ble_eq_true rfl) (List.nil_append _) ?_ hp ys_ns) (.gs bd_clo (.nil _))), ⟨_, _, _, _, _, _, _, _, _, _, _, rfl⟩, (fun _ _ => ⟨rfl, rfl⟩), .no (by decide)⟩
  rw [bs_length]; exact Nat.zero_add _
end Go.Proofs.YtndodhmfdjcjgaaGreatDoor
