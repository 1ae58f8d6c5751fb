import Derived.Test.YtndodhmfdjcjgaaGreatDoorEvE
import Derived.Test.YtndodhmfdjcjgaaGreatDoorPb
set_option linter.unusedSectionVars false
set_option linter.unusedVariables false
set_option linter.unusedSimpArgs false
-- what is said first (EvHp EvOwn)
namespace Go.Proofs.YtndodhmfdjcjgaaGreatDoor
open Go hiding Fn
open Ev tab
attribute [local irreducible] EvP EvD EvL EvC EvO evGds evLs C.run sK bK gK pK fK lpB stepD ackE numE setB
set_option maxHeartbeats 32000000 in
theorem say_first {hp : Hp} {sv : Bool} {u pv : V} {p : List Int} {ty fl s : Int} (hJ : hget hp 0 = some ⟨13, false, [jrow0 sv u]⟩) (hpv : By hp pv p) (hz : ∀ id, idOf pv = some id -> 1 <= id) (hlim : hp.lim = 0) (hb : ByL p) (hl : p.length <= 1000) (hu : u.keep = true) (hr : rightB ty fl s p.length = true) :
  ∃ w hp', EvC F false 23 [.pt 0 0 0, .ag [.it .i64 ty, .it .i64 fl, .it .i64 s, pv]] hp (.ret w hp') /\ ∃ ok, w = .bo ok /\ (ok = true ↔ ty = 4 /\ ackE fl = false /\ s = 0 /\ p.length % 6 = 0 /\ setB p = true) := by
 obtain ⟨P, a, b, c, so, ⟨x1, x2, x3, x4, x5, x6, x7, x8, x9, xa, xb, rfl⟩, sx⟩ := of_any ty fl s p hb hl
 obtain ⟨hpB, z1, g1, e1⟩ := close_by2 hpv
 have hcl : ClP c26.ps [.ag [.it .i64 ty, .it .i64 fl, .it .i64 s, pv]] hp [.ag (fr ty fl s p)] hpB := .g (close_fr e1 _ (by show p.length + 10 <= 100000000; omega)) (.nil _)
 have pl := hpv.len
 have pc := hpv.cells
 have pk := hpv.keep
 have pp := hpv.lp
 have hJB : hget hpB 0 = some ⟨13, false, [jrow0 sv u]⟩ := by rw [g1 0 (fun e => by have := hz 0 e; omega)]; exact hJ
 have hlB : hpB.lim = 0 := by rw [z1.lim]; exact hlim
 have ff := frame_first (ty := ty) (fl := fl) (s := s) hJB (hpv.mono1 z1.to1) hlB (by omega) hu
 refine EvC.ofQ d23 rfl rfl rfl ?_
 repeat (first | refine EvQ.run ?_ | refine EvQ.fin X.rs ?_ | refine EvQ.fin1 (fun _ => rfl) rfl ?_)
 refine EvQ.lift (fun _ zn => X.pcall so hcl rfl X.al rfl zn) ?_
 by_cases ha : a = 0
 ·have za : ieq a (Int.ofNat 0) = true := by rw [ieqD]; exact decide_eq_true ha
  repeat (first | refine EvQ.run ?_ | refine EvQ.fin X.rs ?_ | refine EvQ.fin1 (fun _ => rfl) rfl ?_)
  refine EvQ.call rfl X.al ff ?_
  rintro w hp' rfl
  by_cases h4 : ty = 4
  ·cases hk : ackE fl with
   | true =>
    rw [decide_eq_true h4]
    repeat (first | refine EvQ.run ?_ | refine EvQ.fin X.rs ?_ | refine EvQ.fin1 (fun _ => rfl) rfl ?_)
    exact ⟨_, _, rfl, false, rfl, by simp⟩
   | false =>
    obtain ⟨⟨q1, q2, q3⟩, y1, y2, y3, y4, y5, y6, y7⟩ := (sx h4 hk hr).1 ha
    simp only [List.cons.injEq, V.it.injEq, V.bo.injEq, true_and] at y7
    obtain ⟨rfl, -, -, -, rfl, -⟩ := y7
    rw [decide_eq_true h4]
    repeat (first | refine EvQ.run ?_ | refine EvQ.fin X.rs ?_ | refine EvQ.fin1 (fun _ => rfl) rfl ?_)
    exact ⟨_, _, rfl, true, rfl, by simp [h4, q1, q2, q3]⟩
  ·rw [decide_eq_false h4]
   repeat (first | refine EvQ.run ?_ | refine EvQ.fin X.rs ?_ | refine EvQ.fin1 (fun _ => rfl) rfl ?_)
   exact ⟨_, _, rfl, false, rfl, by simp [h4]⟩
 ·have za : ieq a (Int.ofNat 0) = false := by rw [ieqD]; exact decide_eq_false ha
  repeat (first | refine EvQ.run ?_ | refine EvQ.fin X.rs ?_ | refine EvQ.fin1 (fun _ => rfl) rfl ?_)
  refine ⟨_, _, rfl, false, rfl, (fun q => by cases q), fun ⟨q1, q2, q3, q4, q5⟩ => ?_⟩
  exact absurd ((sx q1 q2 hr).2 q3 q4 q5) ha
end Go.Proofs.YtndodhmfdjcjgaaGreatDoor
