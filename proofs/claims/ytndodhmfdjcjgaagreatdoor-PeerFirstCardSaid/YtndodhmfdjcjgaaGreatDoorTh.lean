import Derived.Test.YtndodhmfdjcjgaaGreatDoorEvE
import Derived.Test.YtndodhmfdjcjgaaGreatDoorTe
set_option linter.unusedSectionVars false
set_option linter.unusedVariables false
set_option linter.unusedSimpArgs false
-- the document's shape of any frame (EvHp EvOwn)
namespace Go.Proofs.YtndodhmfdjcjgaaGreatDoor
open Go hiding Fn
open Ev tab
attribute [local irreducible] EvP EvD EvL EvC EvO evGds evLs C.run sK bK gK pK fK lpB stepD numE setB ackE
set_option maxHeartbeats 64000000 in
theorem sh_4 (fl s : Int) (p : List Int) (hb : ByL p) (hp : p.length <= 1000) (hr : rightB 4 fl s p.length = true) : ShQ 4 fl s p := by
 have rt := rright_ok 4 fl s p
 rw [hr] at rt
 have b6 := bad2_any (Int.ofNat 6) (Int.ofNat 0)
 have b1 := bad2_any (Int.ofNat 1) (Int.ofNat 0)
 have s6 := bad1_any (Int.ofNat 6) s
 have s1 := bad1_any (Int.ofNat 1) s
 have clo := fr_clo 4 fl s p
 have hl := bs_length p
 unfold ShQ
 by_cases hs : s = 0
 ·have zs : ieq s (Int.ofNat 0) = true := by rw [ieqD]; exact decide_eq_true hs
  obtain ⟨w, hp', e1, hU, e2⟩ := rsettings_any h0 (Nat.le_refl _) fl s p hp
  unfold fr at *
  repeat (first | refine EvQ.run ?_ | refine EvQ.lift (fun _ zn => X.pcall (rt) X.cq rfl X.al rfl zn) ?_ | refine EvQ.lift (fun _ zn => X.pcallG (rt) rfl X.cq rfl X.al rfl zn) ?_ | refine EvQ.lift (fun _ zn => X.pcallC (rt) rfl X.cq rfl X.al rfl zn) ?_ | refine EvQ.lift (fun _ zn => X.pcallT (rt) (by decide) X.cq rfl X.al rfl zn) ?_ | refine EvQ.lift (fun _ zn => X.call rfl X.al (rt) zn) ?_ | refine EvQ.fin X.rs ?_ | refine EvQ.fin1 (fun _ => rfl) rfl ?_)
  refine EvQ.call (P := fun w2 hp2 => w2 = w /\ hp2 = hp') rfl X.al ⟨w, hp', e1, rfl, rfl⟩ ?_
  rintro _ _ ⟨rfl, rfl⟩
  rcases e2 with ⟨c, hc, rfl, hx⟩ | ⟨v, rows, rfl, hO, hrl, he, hx⟩
  ·repeat (first | refine EvQ.run ?_ | refine EvQ.fin X.rs ?_ | refine EvQ.fin1 (fun _ => rfl) rfl ?_)
   refine fin2 (fun _ => rfl) rfl rfl ?_
   exact ⟨_, _, _, _, PQ.of (.gs pt_clo (.gs bd_clo (.nil _))), ⟨_, _, _, _, _, _, _, _, _, _, _, rfl⟩, (fun _ q => by cases q), fun _ ea _ => ⟨(fun q => by cases q), (fun q => absurd q.2 (hx ea))⟩⟩
  ·have vl := hO.lp
   have vc := hO.cells
   have vk := hO.keep
   obtain ⟨h', hcl⟩ := ptS_close (st := s) (ack := ackE fl) hO hrl he
   repeat (first | refine EvQ.run ?_ | refine EvQ.fin X.rs ?_ | refine EvQ.fin1 (fun _ => rfl) rfl ?_)
   refine fin2 (fun _ => rfl) rfl rfl ?_
   exact ⟨_, _, _, _, PQ.of (.g hcl (.gs bd_clo (.nil _))), ⟨_, _, _, _, _, _, _, _, _, _, _, rfl⟩, (fun _ _ => ⟨rfl, rfl⟩), fun _ ea _ => ⟨(fun _ => ⟨hs, hx ea⟩), (fun _ => rfl)⟩⟩
 ·have zs : ieq s (Int.ofNat 0) = false := by rw [ieqD]; exact decide_eq_false hs
  unfold fr at *
  repeat (first | refine EvQ.run ?_ | refine EvQ.lift (fun _ zn => X.pcall (rt) X.cq rfl X.al rfl zn) ?_ | refine EvQ.lift (fun _ zn => X.pcallG (rt) rfl X.cq rfl X.al rfl zn) ?_ | refine EvQ.lift (fun _ zn => X.pcallC (rt) rfl X.cq rfl X.al rfl zn) ?_ | refine EvQ.lift (fun _ zn => X.pcallT (rt) (by decide) X.cq rfl X.al rfl zn) ?_ | refine EvQ.lift (fun _ zn => X.call rfl X.al (rt) zn) ?_ | refine EvQ.lift (fun _ zn => X.pcall (b1) X.cq rfl X.al rfl zn) ?_ | refine EvQ.lift (fun _ zn => X.pcallG (b1) rfl X.cq rfl X.al rfl zn) ?_ | refine EvQ.lift (fun _ zn => X.pcallC (b1) rfl X.cq rfl X.al rfl zn) ?_ | refine EvQ.lift (fun _ zn => X.pcallT (b1) (by decide) X.cq rfl X.al rfl zn) ?_ | refine EvQ.lift (fun _ zn => X.call rfl X.al (b1) zn) ?_ | refine EvQ.fin X.rs ?_ | refine EvQ.fin1 (fun _ => rfl) rfl ?_)
  refine fin2 (fun _ => rfl) rfl rfl ?_
  exact ⟨_, _, _, _, PQ.of (.gs pt_clo (.gs bd_clo (.nil _))), ⟨_, _, _, _, _, _, _, _, _, _, _, rfl⟩, (fun _ q => by cases q), fun _ _ _ => ⟨(fun q => by cases q), (fun q => absurd q.1 hs)⟩⟩
set_option maxHeartbeats 64000000 in
theorem sh_6 (fl s : Int) (p : List Int) (hb : ByL p) (hp : p.length <= 1000) (hr : rightB 6 fl s p.length = true) : ShQ 6 fl s p := by
 have rt := rright_ok 6 fl s p
 rw [hr] at rt
 have b6 := bad2_any (Int.ofNat 6) (Int.ofNat 0)
 have b1 := bad2_any (Int.ofNat 1) (Int.ofNat 0)
 have s6 := bad1_any (Int.ofNat 6) s
 have s1 := bad1_any (Int.ofNat 1) s
 have clo := fr_clo 6 fl s p
 have hl := bs_length p
 unfold ShQ
 by_cases hs : s = 0
 ·have zs : ieq s (Int.ofNat 0) = true := by rw [ieqD]; exact decide_eq_true hs
  unfold fr at *
  by_cases h8 : p.length = 8
  ·have z8 : ieq (Int.ofNat (bs p).length) (Int.ofNat 8) = true := by rw [hl, h8]; rfl
   repeat (first | refine EvQ.run ?_ | refine EvQ.lift (fun _ zn => X.pcall (rt) X.cq rfl X.al rfl zn) ?_ | refine EvQ.lift (fun _ zn => X.pcallG (rt) rfl X.cq rfl X.al rfl zn) ?_ | refine EvQ.lift (fun _ zn => X.pcallC (rt) rfl X.cq rfl X.al rfl zn) ?_ | refine EvQ.lift (fun _ zn => X.pcallT (rt) (by decide) X.cq rfl X.al rfl zn) ?_ | refine EvQ.lift (fun _ zn => X.call rfl X.al (rt) zn) ?_ | refine EvQ.fin X.rs ?_ | refine EvQ.fin1 (fun _ => rfl) rfl ?_)
   refine fin2 (fun _ => rfl) rfl rfl ?_
   refine ⟨_, _, _, _, PQ.of (.g (ptB_close (id := 1) (x := p) rfl (Nat.le_of_ble_eq_true rfl) (List.nil_append _) ?_ hp ys_ns) (.gs bd_clo (.nil _))), ⟨_, _, _, _, _, _, _, _, _, _, _, rfl⟩, (fun _ _ => ⟨rfl, rfl⟩), .no (by decide)⟩
   rw [bs_length]; exact Nat.zero_add _
  ·have z8 : ieq (Int.ofNat (bs p).length) (Int.ofNat 8) = false := by rw [hl, ieqD]; exact decide_eq_false (by simp only [Int.ofNat_eq_natCast]; omega)
   repeat (first | refine EvQ.run ?_ | refine EvQ.lift (fun _ zn => X.pcall (rt) X.cq rfl X.al rfl zn) ?_ | refine EvQ.lift (fun _ zn => X.pcallG (rt) rfl X.cq rfl X.al rfl zn) ?_ | refine EvQ.lift (fun _ zn => X.pcallC (rt) rfl X.cq rfl X.al rfl zn) ?_ | refine EvQ.lift (fun _ zn => X.pcallT (rt) (by decide) X.cq rfl X.al rfl zn) ?_ | refine EvQ.lift (fun _ zn => X.call rfl X.al (rt) zn) ?_ | refine EvQ.lift (fun _ zn => X.pcall (b6) X.cq rfl X.al rfl zn) ?_ | refine EvQ.lift (fun _ zn => X.pcallG (b6) rfl X.cq rfl X.al rfl zn) ?_ | refine EvQ.lift (fun _ zn => X.pcallC (b6) rfl X.cq rfl X.al rfl zn) ?_ | refine EvQ.lift (fun _ zn => X.pcallT (b6) (by decide) X.cq rfl X.al rfl zn) ?_ | refine EvQ.lift (fun _ zn => X.call rfl X.al (b6) zn) ?_ | refine EvQ.fin X.rs ?_ | refine EvQ.fin1 (fun _ => rfl) rfl ?_)
   refine fin2 (fun _ => rfl) rfl rfl ?_
   exact ⟨_, _, _, _, PQ.of (.gs pt_clo (.gs bd_clo (.nil _))), ⟨_, _, _, _, _, _, _, _, _, _, _, rfl⟩, (fun _ q => by cases q), .no (by decide)⟩
 ·have zs : ieq s (Int.ofNat 0) = false := by rw [ieqD]; exact decide_eq_false hs
  unfold fr at *
  repeat (first | refine EvQ.run ?_ | refine EvQ.lift (fun _ zn => X.pcall (rt) X.cq rfl X.al rfl zn) ?_ | refine EvQ.lift (fun _ zn => X.pcallG (rt) rfl X.cq rfl X.al rfl zn) ?_ | refine EvQ.lift (fun _ zn => X.pcallC (rt) rfl X.cq rfl X.al rfl zn) ?_ | refine EvQ.lift (fun _ zn => X.pcallT (rt) (by decide) X.cq rfl X.al rfl zn) ?_ | refine EvQ.lift (fun _ zn => X.call rfl X.al (rt) zn) ?_ | refine EvQ.lift (fun _ zn => X.pcall (b1) X.cq rfl X.al rfl zn) ?_ | refine EvQ.lift (fun _ zn => X.pcallG (b1) rfl X.cq rfl X.al rfl zn) ?_ | refine EvQ.lift (fun _ zn => X.pcallC (b1) rfl X.cq rfl X.al rfl zn) ?_ | refine EvQ.lift (fun _ zn => X.pcallT (b1) (by decide) X.cq rfl X.al rfl zn) ?_ | refine EvQ.lift (fun _ zn => X.call rfl X.al (b1) zn) ?_ | refine EvQ.fin X.rs ?_ | refine EvQ.fin1 (fun _ => rfl) rfl ?_)
  refine fin2 (fun _ => rfl) rfl rfl ?_
  exact ⟨_, _, _, _, PQ.of (.gs pt_clo (.gs bd_clo (.nil _))), ⟨_, _, _, _, _, _, _, _, _, _, _, rfl⟩, (fun _ q => by cases q), .no (by decide)⟩
end Go.Proofs.YtndodhmfdjcjgaaGreatDoor
