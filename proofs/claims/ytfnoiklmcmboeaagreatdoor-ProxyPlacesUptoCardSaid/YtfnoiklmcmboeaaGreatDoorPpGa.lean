import Derived.Test.YtfnoiklmcmboeaaGreatDoorEvE
import Derived.Test.YtfnoiklmcmboeaaGreatDoorLawE
set_option linter.unusedSectionVars false
set_option linter.unusedVariables false
set_option linter.unusedSimpArgs false
-- ProxyPlaces: the rounds (EvHp EvOwn)
namespace Go.Proofs.YtfnoiklmcmboeaaGreatDoor.cnw
open Go hiding Fn
open Ev tab
attribute [local irreducible] EvP EvD EvL EvC EvO evGds evLs C.run sK bK gK pK fK lpB stepD stat hp9
section
variable (l : List ActV) (hl : l.length <= 2000000) (c : Cfg) (hok : okC c.st c.wn c.ls) (p s i : Nat) (hp : Hp) (x0 x1 x2 x3 x4 x5 x6 x7 : V) (hJ : PxJ hp c p s [x0, x1, x2, x3, x4, x5, x6, x7]) (hi : i < l.length) (h60 : i < 60) (sz : Int) (b : List (List V))
include hl hok hJ hi h60
set_option maxHeartbeats 640000000 in
theorem rnd1f (m : Nat) (hm : m < 8) (hT : isT ([x0, x1, x2, x3, x4, x5, x6, x7].getD m .np) = false) (ha : l.getD i av0 = ⟨Int.ofNat 1, Int.ofNat m, sz, b⟩) : EvQ Fq ((d3.body.lps.getD 0 .skip).run ⟨tmOf [(0, .vs 4 (acts l)), (3, .pt p 0 0), (5, .lp 5 0), (6, .it .i64 (Int.ofNat i))], lset (fun _ => none) 5 (thR [x0, x1, x2, x3, x4, x5, x6, x7]), hp⟩ .done) (RP l c p s i) := by
 have hge : (acts l).getD i [] = [.it .i64 (Int.ofNat 1), .it .i64 (Int.ofNat m), .it .i64 sz, .vs 1 b] := (acts_getD hi).trans (by rw [ha]; rfl)
 have hal := acts_length l
 have dp := doG (own := false) (sz := sz) (b := b) hJ hok (kn := 1) (by decide) hm hT
 have h9 : m = 0 \/ m = 1 \/ m = 2 \/ m = 3 \/ m = 4 \/ m = 5 \/ m = 6 \/ m = 7 := by omega
 clear ha
 unfold thR
 rcases h9 with rfl | rfl | rfl | rfl | rfl | rfl | rfl | rfl
 all_goals
  rw [hT]
  repeat (first | refine EvQ.run ?_ | refine EvQ.fin X.rs ?_ | refine EvQ.fin1 (fun _ => rfl) rfl ?_)
  refine EvQ.call rfl X.al dp ?_
  rintro _ hp2 ⟨x, d', rfl, ⟨xl, xc, xk⟩, hJ2, hD⟩
  unfold thR at hD
  rw [hT] at hD
  repeat (first | refine EvQ.run ?_ | refine EvQ.fin X.rs ?_ | refine EvQ.fin1 (fun _ => rfl) rfl ?_)
  refine EvQ.call rfl X.al (waiting_ok (own := false) hJ2) ?_
  rintro _ hp3 ⟨v1, v2, li, rfl, ow, ll, tl, vl2, u3⟩
  have hJ3 := hJ2.up u3
  have vl := ow.lp
  repeat (first | refine EvQ.run ?_ | refine EvQ.fin X.rs ?_ | refine EvQ.fin1 (fun _ => rfl) rfl ?_)
  refine EvQ.loop (inner_ok hp3 v1 li ow ll d' tl (.vs 4 (acts l)) (.pt p 0 0) (.it .i64 (Int.ofNat i)) _ ?_ _ ?_) ?_
  ·unfold thR; rw [hD]; exact lo3 rfl
  ·exact X.kv
  rintro _ ⟨tm, lo, hp4, rfl, rfl, rfl⟩
  repeat (first | refine EvQ.run ?_ | refine EvQ.fin X.rs ?_ | refine EvQ.fin1 (fun _ => rfl) rfl ?_)
  exact EvQ.go (S := Nat × List V) (i + 1, d') X.kv ⟨X.lo, by show i + 1 <= l.length; omega, hJ3⟩ (by show l.length - (i + 1) < l.length - i; omega)
end
end Go.Proofs.YtfnoiklmcmboeaaGreatDoor.cnw
