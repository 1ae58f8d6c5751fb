import Derived.Test.YtndodhmfdjcjgaaGreatDoorEvE
import Derived.Test.YtndodhmfdjcjgaaGreatDoorPi
set_option linter.unusedSectionVars false
set_option linter.unusedVariables false
set_option linter.unusedSimpArgs false
-- two of chapter 25's checks (EvHp EvOwn)
namespace Go.Proofs.YtndodhmfdjcjgaaGreatDoor
open Go hiding Fn
open Ev tab
def cL : List Int := [0, 0, 0, 4, 0, 0, 0, 0, 0, 0, 0, 0, 0, 0, 0, 0, 0, 1]
def Hc : Hp := crHp (callF F 3000 60 false 13 [.pt 0 0 0, .pt 3 0 0, .vs 1 (bs cL)] H0)
theorem kf6 : EvC F false 13 [.pt 0 0 0, .pt 3 0 0, .vs 1 (bs cL)] H0 (.ret (.bo false) Hc) := EvC.kern 3000 60 fun N M => by kernel_rfl
theorem h0_eq : hset (hnew (hnew (hset (hnew (hnew (hnew h0 ⟨13, false, [jrow0 true .np]⟩) ⟨4, false, [[.ns, stat, .it .i64 0, .it .i64 4096]]⟩) ⟨4, false, [[.pt 1 0 0, .it .i64 4096, .it .i64 2147483647, .bo false]]⟩) 0 (some ⟨13, false, [jrow0 true (.pt 2 0 0)]⟩)) ⟨6, false, [rowR 16777215 [] .ns 0 0]⟩) ⟨6, false, [rowR 16384 [] .ns 0 0]⟩) 4 (some ⟨6, false, [rowR 16384 pref .ns 0 0]⟩) = H0 := by kernel_rfl
theorem h4_eq : hset H3 0 (some ⟨13, false, [jrw (.hs 12 0 1) (.hs 15 0 1) 65535 1 false]⟩) = H4 := rfl
abbrev mvsD : List (List V) := [[.bo false, .vs 1 (bs m1L)], [.bo true, .vs 1 (bs m2L)], [.bo true, .vs 1 (bs m3L)], [.bo true, .vs 1 (bs d4L)]]
attribute [local irreducible] EvP EvD EvL EvC EvO evGds evLs C.run sK bK gK pK fK lpB stepD ackE numE setB feedG feedA feedM d4L z16 H0 H1 H2 H3 H4 H5 H6 Hc stat m1L m2L m3L cL
set_option maxHeartbeats 32000000 in
theorem chk_c : EvP F 6 c6 [.bo true, .vs 2 [[.bo true, .vs 1 (bs cL)]]] [.it .i64 0] := by
 have f1 := first_ok
 have un := unpN_ok (hnew h0 ⟨13, false, [jrow0 true .np]⟩)
 refine EvP.ofQ d6 rfl rfl rfl ?_
 repeat (first | refine EvQ.run ?_ | refine EvQ.lift (fun _ zn => X.pcall (f1) X.cq rfl X.al rfl zn) ?_ | refine EvQ.lift (fun _ zn => X.pcallG (f1) rfl X.cq rfl X.al rfl zn) ?_ | refine EvQ.lift (fun _ zn => X.pcallC (f1) rfl X.cq rfl X.al rfl zn) ?_ | refine EvQ.lift (fun _ zn => X.pcallT (f1) (by decide) X.cq rfl X.al rfl zn) ?_ | refine EvQ.lift (fun _ zn => X.call rfl X.al (f1) zn) ?_ | refine EvQ.lift (fun _ zn => X.pcall (un) X.cq rfl X.al rfl zn) ?_ | refine EvQ.lift (fun _ zn => X.pcallG (un) rfl X.cq rfl X.al rfl zn) ?_ | refine EvQ.lift (fun _ zn => X.pcallC (un) rfl X.cq rfl X.al rfl zn) ?_ | refine EvQ.lift (fun _ zn => X.pcallT (un) (by decide) X.cq rfl X.al rfl zn) ?_ | refine EvQ.lift (fun _ zn => X.call rfl X.al (un) zn) ?_ | refine EvQ.fin X.rs ?_ | refine EvQ.fin1 (fun _ => rfl) rfl ?_)
 refine EvQ.lift (fun _ zn => X.call rfl X.al (frF_at (k := 3) rfl (.inl rfl)) zn) ?_
 repeat (first | refine EvQ.run ?_ | refine EvQ.fin X.rs ?_ | refine EvQ.fin1 (fun _ => rfl) rfl ?_)
 refine EvQ.lift (fun _ zn => X.call rfl X.al (frT_at (k := 4) rfl (Nat.zero_le _) (.inr rfl)) zn) ?_
 repeat (first | refine EvQ.run ?_ | refine EvQ.fin X.rs ?_ | refine EvQ.fin1 (fun _ => rfl) rfl ?_)
 refine EvQ.loop (QL := RtQ [(4, .it .i64 0)] (fun lo hp' => True)) ?_ ?_
 ·refine EvL.invQ (S := Unit) (fun _ => [(5, .pt 0 0 0), (6, .pt 3 0 0), (8, .pt 4 0 0), (39, .vs 2 [[.bo true, .vs 1 (bs cL)]]), (40, .it .i64 (Int.ofNat 1)), (41, .it .i64 (Int.ofNat 0))]) (fun _ lo hp' => shed [11, 13, 15] lo = (fun _ => none) /\ hp' = H0) (fun _ => 0) _ ?_ () _ _ _ ⟨X.lo, h0_eq⟩ X.kv
  rintro _ lo hp' ⟨e1, rfl⟩
  rw [e1]
  repeat (first | refine EvQ.run ?_ | refine EvQ.fin X.rs ?_ | refine EvQ.fin1 (fun _ => rfl) rfl ?_)
  refine EvQ.lift (fun _ zn => X.call rfl X.al kf6 zn) ?_
  repeat (first | refine EvQ.run ?_ | refine EvQ.fin X.rs ?_ | refine EvQ.fin1 (fun _ => rfl) rfl ?_)
  exact EvQ.rt (.mk' X.kv trivial)
 ·rintro _ ⟨tm, lo, hp', rfl, -⟩
  repeat (first | refine EvQ.run ?_ | refine EvQ.fin X.rs ?_ | refine EvQ.fin1 (fun _ => rfl) rfl ?_)
  exact PQ.it rfl
set_option maxHeartbeats 64000000 in
theorem chk_d : EvP F 6 c6 [.bo true, .vs 2 mvsD] [.it .i64 3] := by
 obtain ⟨hp7, c7⟩ := mv_d
 obtain ⟨fa, fb⟩ := f1
 obtain ⟨ga, gb, gc, la, lb, lc⟩ := f2
 have f1 := ()
 clear f1
 have f1 := first_ok
 have un := unpN_ok (hnew h0 ⟨13, false, [jrow0 true .np]⟩)
 refine EvP.ofQ d6 rfl rfl rfl ?_
 repeat (first | refine EvQ.run ?_ | refine EvQ.lift (fun _ zn => X.pcall (f1) X.cq rfl X.al rfl zn) ?_ | refine EvQ.lift (fun _ zn => X.pcallG (f1) rfl X.cq rfl X.al rfl zn) ?_ | refine EvQ.lift (fun _ zn => X.pcallC (f1) rfl X.cq rfl X.al rfl zn) ?_ | refine EvQ.lift (fun _ zn => X.pcallT (f1) (by decide) X.cq rfl X.al rfl zn) ?_ | refine EvQ.lift (fun _ zn => X.call rfl X.al (f1) zn) ?_ | refine EvQ.lift (fun _ zn => X.pcall (un) X.cq rfl X.al rfl zn) ?_ | refine EvQ.lift (fun _ zn => X.pcallG (un) rfl X.cq rfl X.al rfl zn) ?_ | refine EvQ.lift (fun _ zn => X.pcallC (un) rfl X.cq rfl X.al rfl zn) ?_ | refine EvQ.lift (fun _ zn => X.pcallT (un) (by decide) X.cq rfl X.al rfl zn) ?_ | refine EvQ.lift (fun _ zn => X.call rfl X.al (un) zn) ?_ | refine EvQ.fin X.rs ?_ | refine EvQ.fin1 (fun _ => rfl) rfl ?_)
 refine EvQ.lift (fun _ zn => X.call rfl X.al (frF_at (k := 3) rfl (.inl rfl)) zn) ?_
 repeat (first | refine EvQ.run ?_ | refine EvQ.fin X.rs ?_ | refine EvQ.fin1 (fun _ => rfl) rfl ?_)
 refine EvQ.lift (fun _ zn => X.call rfl X.al (frT_at (k := 4) rfl (Nat.zero_le _) (.inr rfl)) zn) ?_
 repeat (first | refine EvQ.run ?_ | refine EvQ.fin X.rs ?_ | refine EvQ.fin1 (fun _ => rfl) rfl ?_)
 refine EvQ.loop (QL := RtQ [(4, .it .i64 3)] (fun lo hp' => True)) ?_ ?_
 ·refine EvL.invQ (S := Nat) (fun i => [(5, .pt 0 0 0), (6, .pt 3 0 0), (8, .pt 4 0 0), (39, .vs 2 mvsD), (40, .it .i64 (Int.ofNat 4)), (41, .it .i64 (Int.ofNat i))]) (fun i lo hp' => shed [11, 13, 15] lo = (fun _ => none) /\ ((i = 0 /\ hp' = H0) \/ (i = 1 /\ hp' = H4) \/ (i = 2 /\ hp' = H5) \/ (i = 3 /\ hp' = H6))) (fun i => 4 - i) _ ?_ 0 _ _ _ ⟨X.lo, .inl ⟨rfl, h0_eq⟩⟩ X.kv
  rintro i lo hp' ⟨e1, ⟨rfl, rfl⟩ | ⟨rfl, rfl⟩ | ⟨rfl, rfl⟩ | ⟨rfl, rfl⟩⟩
  ·rw [e1]
   repeat (first | refine EvQ.run ?_ | refine EvQ.fin X.rs ?_ | refine EvQ.fin1 (fun _ => rfl) rfl ?_)
   refine EvQ.lift (fun _ zn => X.call rfl X.al kf1 zn) ?_
   repeat (first | refine EvQ.run ?_ | refine EvQ.fin X.rs ?_ | refine EvQ.fin1 (fun _ => rfl) rfl ?_)
   refine EvQ.loop (QL := XtQ 2 [(5, .pt 0 0 0), (6, .pt 3 0 0), (8, .pt 4 0 0), (13, .lp 13 0), (39, .vs 2 mvsD), (40, .it .i64 (Int.ofNat 4)), (41, .it .i64 (Int.ofNat 0))] (fun lo hp' => lo = lset (fun _ => none) 13 [.it .i64 0, .it .i64 0, .it .i64 0] /\ hp' = H3)) ?_ ?_
   ·refine EvL.invQ (S := Nat) (fun k => [(5, .pt 0 0 0), (6, .pt 3 0 0), (8, .pt 4 0 0), (13, .lp 13 0), (39, .vs 2 mvsD), (40, .it .i64 (Int.ofNat 4)), (41, .it .i64 (Int.ofNat 0)), (62, .hs 10 0 2), (63, .it .i64 (Int.ofNat 2)), (64, .it .i64 (Int.ofNat k))]) (fun k lo hp' => shed [11, 15] lo = lset (fun _ => none) 13 [.it .i64 0, .it .i64 0, .it .i64 0] /\ ((k = 0 /\ hp' = H1) \/ (k = 1 /\ hp' = H2) \/ (k = 2 /\ hp' = H3))) (fun k => 2 - k) _ ?_ 0 _ _ _ ⟨X.lo, .inl ⟨rfl, rfl⟩⟩ X.kv
    rintro k lo hp' ⟨e1, ⟨rfl, rfl⟩ | ⟨rfl, rfl⟩ | ⟨rfl, rfl⟩⟩
    ·rw [e1]
     repeat (first | refine EvQ.run ?_ | refine EvQ.fin X.rs ?_ | refine EvQ.fin1 (fun _ => rfl) rfl ?_)
     refine EvQ.lift (fun _ zn => X.call rfl X.al kf2 zn) ?_
     repeat (first | refine EvQ.run ?_ | refine EvQ.fin X.rs ?_ | refine EvQ.fin1 (fun _ => rfl) rfl ?_)
     exact EvQ.go 1 X.kv ⟨X.lo, .inr (.inl ⟨rfl, rfl⟩)⟩ (by decide)
    ·rw [e1]
     repeat (first | refine EvQ.run ?_ | refine EvQ.fin X.rs ?_ | refine EvQ.fin1 (fun _ => rfl) rfl ?_)
     refine EvQ.lift (fun _ zn => X.call rfl X.al kf3 zn) ?_
     repeat (first | refine EvQ.run ?_ | refine EvQ.fin X.rs ?_ | refine EvQ.fin1 (fun _ => rfl) rfl ?_)
     exact EvQ.go 2 X.kv ⟨X.lo, .inr (.inr ⟨rfl, rfl⟩)⟩ (by decide)
    ·rw [e1]
     repeat (first | refine EvQ.run ?_ | refine EvQ.fin X.rs ?_ | refine EvQ.fin1 (fun _ => rfl) rfl ?_)
     exact EvQ.xt (.mk' X.kv ⟨X.lo, rfl⟩)
   ·rintro _ ⟨tm, lo, hp', rfl, rfl, rfl⟩
    repeat (first | refine EvQ.run ?_ | refine EvQ.fin X.rs ?_ | refine EvQ.fin1 (fun _ => rfl) rfl ?_)
    exact EvQ.go 1 X.kv ⟨X.lo, .inr (.inl ⟨rfl, h4_eq⟩)⟩ (by decide)
  ·rw [e1]
   repeat (first | refine EvQ.run ?_ | refine EvQ.fin X.rs ?_ | refine EvQ.fin1 (fun _ => rfl) rfl ?_)
   refine EvQ.lift (fun _ zn => X.call rfl X.al kf4 zn) ?_
   repeat (first | refine EvQ.run ?_ | refine EvQ.fin X.rs ?_ | refine EvQ.fin1 (fun _ => rfl) rfl ?_)
   exact EvQ.go 2 X.kv ⟨X.lo, .inr (.inr (.inl ⟨rfl, rfl⟩))⟩ (by decide)
  ·rw [e1]
   repeat (first | refine EvQ.run ?_ | refine EvQ.fin X.rs ?_ | refine EvQ.fin1 (fun _ => rfl) rfl ?_)
   refine EvQ.lift (fun _ zn => X.call rfl X.al kf5 zn) ?_
   repeat (first | refine EvQ.run ?_ | refine EvQ.fin X.rs ?_ | refine EvQ.fin1 (fun _ => rfl) rfl ?_)
   exact EvQ.go 3 X.kv ⟨X.lo, .inr (.inr (.inr ⟨rfl, rfl⟩))⟩ (by decide)
  ·rw [e1]
   repeat (first | refine EvQ.run ?_ | refine EvQ.fin X.rs ?_ | refine EvQ.fin1 (fun _ => rfl) rfl ?_)
   refine EvQ.lift (fun _ zn => X.call rfl X.al c7 zn) ?_
   repeat (first | refine EvQ.run ?_ | refine EvQ.fin X.rs ?_ | refine EvQ.fin1 (fun _ => rfl) rfl ?_)
   exact EvQ.rt (.mk' X.kv trivial)
 ·rintro _ ⟨tm, lo, hp', rfl, -⟩
  repeat (first | refine EvQ.run ?_ | refine EvQ.fin X.rs ?_ | refine EvQ.fin1 (fun _ => rfl) rfl ?_)
  exact PQ.it rfl
end Go.Proofs.YtndodhmfdjcjgaaGreatDoor
