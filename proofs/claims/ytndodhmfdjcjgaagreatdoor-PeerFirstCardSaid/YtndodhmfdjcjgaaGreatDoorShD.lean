import Derived.Test.YtndodhmfdjcjgaaGreatDoorEvE
import Derived.Test.YtndodhmfdjcjgaaGreatDoorShC
set_option linter.unusedSectionVars false
set_option linter.unusedVariables false
set_option linter.unusedSimpArgs false
-- the shape of HEADERS, PRIORITY, WINDOW_UPDATE (EvHp EvOwn)
namespace Go.Proofs.YtndodhmfdjcjgaaGreatDoor
open Go hiding Fn
open Ev tab
attribute [local irreducible] EvP EvD EvL EvC EvO evGds evLs C.run sK bK gK pK fK lpB stepD numE
set_option maxHeartbeats 32000000 in
theorem headers_any (ty fl s : Int) (p : List Int) (hb : ByL p) (hp : p.length <= 1000) : ∃ P a b c, EvP F 44 c44 [.ag (fr ty fl s p), .ag (ptV ty s)] [.ag P, .ag [.it .i64 a, .it .i64 b, .it .i64 c]] /\ PtF P := by
 obtain ⟨k, b, ok, pd, hbl, hk⟩ := padded_any ty fl s p hb
 have c6 := conn_any (Int.ofNat 6)
 have c1 := conn_any (Int.ofNat 1)
 have s1 := stream_any (Int.ofNat 1) s
 have clo := fr_clo ty fl s p
 have hl := bs_length b
 have main : EvQ F (d44.body.run ⟨argT [.ag (fr ty fl s p), .ag (ptV ty s)], fun _ => none, h0⟩ (fK d44)) (fun r => ∃ P a b c, PQ d44.rs [.ag P, .ag [.it .i64 a, .it .i64 b, .it .i64 c]] r /\ PtF P) := by
  unfold fr at *
  cases ok with
  | false =>
   repeat (first | refine EvQ.run ?_ | refine EvQ.lift (fun _ zn => X.pcall (pd) X.cq rfl X.al rfl zn) ?_ | refine EvQ.lift (fun _ zn => X.pcallG (pd) rfl X.cq rfl X.al rfl zn) ?_ | refine EvQ.lift (fun _ zn => X.pcallC (pd) rfl X.cq rfl X.al rfl zn) ?_ | refine EvQ.lift (fun _ zn => X.pcallT (pd) (by decide) X.cq rfl X.al rfl zn) ?_ | refine EvQ.lift (fun _ zn => X.call rfl X.al (pd) zn) ?_ | refine EvQ.lift (fun _ zn => X.pcall (c6) X.cq rfl X.al rfl zn) ?_ | refine EvQ.lift (fun _ zn => X.pcallG (c6) rfl X.cq rfl X.al rfl zn) ?_ | refine EvQ.lift (fun _ zn => X.pcallC (c6) rfl X.cq rfl X.al rfl zn) ?_ | refine EvQ.lift (fun _ zn => X.pcallT (c6) (by decide) X.cq rfl X.al rfl zn) ?_ | refine EvQ.lift (fun _ zn => X.call rfl X.al (c6) zn) ?_ | refine EvQ.fin X.rs ?_ | refine EvQ.fin1 (fun _ => rfl) rfl ?_)
   refine fin2 (fun _ => rfl) rfl rfl ?_
   exact ⟨_, _, _, _, PQ.of (.g (closeCs_clo2 pt_clo0 _ _ (by decide)) (.gs bd_clo (.nil _))), _, _, _, _, _, _, _, _, _, _, _, rfl⟩
  | true =>
   repeat (first | refine EvQ.run ?_ | refine EvQ.lift (fun _ zn => X.pcall (pd) X.cq rfl X.al rfl zn) ?_ | refine EvQ.lift (fun _ zn => X.pcallG (pd) rfl X.cq rfl X.al rfl zn) ?_ | refine EvQ.lift (fun _ zn => X.pcallC (pd) rfl X.cq rfl X.al rfl zn) ?_ | refine EvQ.lift (fun _ zn => X.pcallT (pd) (by decide) X.cq rfl X.al rfl zn) ?_ | refine EvQ.lift (fun _ zn => X.call rfl X.al (pd) zn) ?_ | refine EvQ.fin X.rs ?_ | refine EvQ.fin1 (fun _ => rfl) rfl ?_)
   refine EvQ.cond rfl (fun h => ?_) (fun h => ?_)
   ·clear h
    by_cases h5 : b.length < 5
    ·have z5 : ilt (Int.ofNat (bs b).length) (Int.ofNat 5) = true := by rw [hl, ilt_eq]; exact decide_eq_true (by simp only [Int.ofNat_eq_natCast]; omega)
     repeat (first | refine EvQ.run ?_ | refine EvQ.lift (fun _ zn => X.pcall (c6) X.cq rfl X.al rfl zn) ?_ | refine EvQ.lift (fun _ zn => X.pcallG (c6) rfl X.cq rfl X.al rfl zn) ?_ | refine EvQ.lift (fun _ zn => X.pcallC (c6) rfl X.cq rfl X.al rfl zn) ?_ | refine EvQ.lift (fun _ zn => X.pcallT (c6) (by decide) X.cq rfl X.al rfl zn) ?_ | refine EvQ.lift (fun _ zn => X.call rfl X.al (c6) zn) ?_ | refine EvQ.fin X.rs ?_ | refine EvQ.fin1 (fun _ => rfl) rfl ?_)
     refine fin2 (fun _ => rfl) rfl rfl ?_
     exact ⟨_, _, _, _, PQ.of (.g (closeCs_clo2 pt_clo0 _ _ (by decide)) (.gs bd_clo (.nil _))), _, _, _, _, _, _, _, _, _, _, _, rfl⟩
    ·have z5 : ilt (Int.ofNat (bs b).length) (Int.ofNat 5) = false := by rw [hl, ilt_eq]; exact decide_eq_false (by simp only [Int.ofNat_eq_natCast]; omega)
     obtain ⟨n, ba⟩ := bare_any b (by omega)
     repeat (first | refine EvQ.run ?_ | refine EvQ.lift (fun _ zn => X.pcall (ba) X.cq rfl X.al rfl zn) ?_ | refine EvQ.lift (fun _ zn => X.pcallG (ba) rfl X.cq rfl X.al rfl zn) ?_ | refine EvQ.lift (fun _ zn => X.pcallC (ba) rfl X.cq rfl X.al rfl zn) ?_ | refine EvQ.lift (fun _ zn => X.pcallT (ba) (by decide) X.cq rfl X.al rfl zn) ?_ | refine EvQ.lift (fun _ zn => X.call rfl X.al (ba) zn) ?_ | refine EvQ.fin X.rs ?_ | refine EvQ.fin1 (fun _ => rfl) rfl ?_)
     refine EvQ.cond rfl (fun h => ?_) (fun h => ?_)
     ·repeat (first | refine EvQ.run ?_ | refine EvQ.lift (fun _ zn => X.pcall (s1) X.cq rfl X.al rfl zn) ?_ | refine EvQ.lift (fun _ zn => X.pcallG (s1) rfl X.cq rfl X.al rfl zn) ?_ | refine EvQ.lift (fun _ zn => X.pcallC (s1) rfl X.cq rfl X.al rfl zn) ?_ | refine EvQ.lift (fun _ zn => X.pcallT (s1) (by decide) X.cq rfl X.al rfl zn) ?_ | refine EvQ.lift (fun _ zn => X.call rfl X.al (s1) zn) ?_ | refine EvQ.fin X.rs ?_ | refine EvQ.fin1 (fun _ => rfl) rfl ?_)
      refine fin2 (fun _ => rfl) rfl rfl ?_
      exact ⟨_, _, _, _, PQ.of (.g (closeCs_clo2 pt_clo0 _ _ (by decide)) (.gs bd_clo (.nil _))), _, _, _, _, _, _, _, _, _, _, _, rfl⟩
     ·clear h
      repeat (first | refine EvQ.run ?_ | refine EvQ.fin X.rs ?_ | refine EvQ.fin1 (fun _ => rfl) rfl ?_)
      have eb : List.take ((bs b).length - (Int.ofNat 5).toNat) (List.drop (Int.ofNat 5).toNat (bs b)) = bs (b.drop 5) := by
       rw [List.take_of_length_le (by simp)]
       simp [bs, List.map_drop]
      rw [eb]
      have hb2 : (b.drop 5).length <= 1000 := by simp; omega
      generalize b.drop 5 = b2 at *
      clear eb
      have hl2 := bs_length (b2)
      by_cases hg : (b2).length < k
      ·have z : ilt (Int.ofNat (bs (b2)).length) (Int.ofNat k) = true := by rw [hl2, ilt_eq]; exact decide_eq_true (by simp only [Int.ofNat_eq_natCast]; omega)
       repeat (first | refine EvQ.run ?_ | refine EvQ.lift (fun _ zn => X.pcall (c1) X.cq rfl X.al rfl zn) ?_ | refine EvQ.lift (fun _ zn => X.pcallG (c1) rfl X.cq rfl X.al rfl zn) ?_ | refine EvQ.lift (fun _ zn => X.pcallC (c1) rfl X.cq rfl X.al rfl zn) ?_ | refine EvQ.lift (fun _ zn => X.pcallT (c1) (by decide) X.cq rfl X.al rfl zn) ?_ | refine EvQ.lift (fun _ zn => X.call rfl X.al (c1) zn) ?_ | refine EvQ.fin X.rs ?_ | refine EvQ.fin1 (fun _ => rfl) rfl ?_)
       refine fin2 (fun _ => rfl) rfl rfl ?_
       exact ⟨_, _, _, _, PQ.of (.g (closeCs_clo2 pt_clo0 _ _ (by decide)) (.gs bd_clo (.nil _))), _, _, _, _, _, _, _, _, _, _, _, rfl⟩
      ·have z : ilt (Int.ofNat (bs (b2)).length) (Int.ofNat k) = false := by rw [hl2, ilt_eq]; exact decide_eq_false (by simp only [Int.ofNat_eq_natCast]; omega)
       have cp := copied_any ((b2).take ((b2).length - k)) (by simp; omega)
       have e37 : List.take ((Int.ofNat ((bs (b2)).length - k)).toNat - 0) (List.drop 0 (bs (b2))) = bs ((b2).take ((b2).length - k)) := by
        show List.take ((bs (b2)).length - k) (bs (b2)) = _
        rw [hl2, bs_take]
       repeat (first | refine EvQ.run ?_ | refine EvQ.fin X.rs ?_ | refine EvQ.fin1 (fun _ => rfl) rfl ?_)
       refine EvQ.lift (fun _ zn => X.pcall cp (.s (clo_vs [.one] _) (.nil _)) (congrArg (fun z => [V.vs 1 z]) e37) X.al rfl zn) ?_
       repeat (first | refine EvQ.run ?_ | refine EvQ.fin X.rs ?_ | refine EvQ.fin1 (fun _ => rfl) rfl ?_)
       refine fin2 (fun _ => rfl) rfl rfl ?_
       exact ⟨_, _, _, _, PQ.of (.gs pt_clo (.gs bd_clo (.nil _))), _, _, _, _, _, _, _, _, _, _, _, rfl⟩
   ·clear h
    repeat (first | refine EvQ.run ?_ | refine EvQ.fin X.rs ?_ | refine EvQ.fin1 (fun _ => rfl) rfl ?_)
    have hl2 := bs_length (b)
    by_cases hg : (b).length < k
    ·have z : ilt (Int.ofNat (bs (b)).length) (Int.ofNat k) = true := by rw [hl2, ilt_eq]; exact decide_eq_true (by simp only [Int.ofNat_eq_natCast]; omega)
     repeat (first | refine EvQ.run ?_ | refine EvQ.lift (fun _ zn => X.pcall (c1) X.cq rfl X.al rfl zn) ?_ | refine EvQ.lift (fun _ zn => X.pcallG (c1) rfl X.cq rfl X.al rfl zn) ?_ | refine EvQ.lift (fun _ zn => X.pcallC (c1) rfl X.cq rfl X.al rfl zn) ?_ | refine EvQ.lift (fun _ zn => X.pcallT (c1) (by decide) X.cq rfl X.al rfl zn) ?_ | refine EvQ.lift (fun _ zn => X.call rfl X.al (c1) zn) ?_ | refine EvQ.fin X.rs ?_ | refine EvQ.fin1 (fun _ => rfl) rfl ?_)
     refine fin2 (fun _ => rfl) rfl rfl ?_
     exact ⟨_, _, _, _, PQ.of (.g (closeCs_clo2 pt_clo0 _ _ (by decide)) (.gs bd_clo (.nil _))), _, _, _, _, _, _, _, _, _, _, _, rfl⟩
    ·have z : ilt (Int.ofNat (bs (b)).length) (Int.ofNat k) = false := by rw [hl2, ilt_eq]; exact decide_eq_false (by simp only [Int.ofNat_eq_natCast]; omega)
     have cp := copied_any ((b).take ((b).length - k)) (by simp; omega)
     have e37 : List.take ((Int.ofNat ((bs (b)).length - k)).toNat - 0) (List.drop 0 (bs (b))) = bs ((b).take ((b).length - k)) := by
      show List.take ((bs (b)).length - k) (bs (b)) = _
      rw [hl2, bs_take]
     repeat (first | refine EvQ.run ?_ | refine EvQ.fin X.rs ?_ | refine EvQ.fin1 (fun _ => rfl) rfl ?_)
     refine EvQ.lift (fun _ zn => X.pcall cp (.s (clo_vs [.one] _) (.nil _)) (congrArg (fun z => [V.vs 1 z]) e37) X.al rfl zn) ?_
     repeat (first | refine EvQ.run ?_ | refine EvQ.fin X.rs ?_ | refine EvQ.fin1 (fun _ => rfl) rfl ?_)
     refine fin2 (fun _ => rfl) rfl rfl ?_
     exact ⟨_, _, _, _, PQ.of (.gs pt_clo (.gs bd_clo (.nil _))), _, _, _, _, _, _, _, _, _, _, _, rfl⟩
 obtain ⟨r, h, P, a, b, c, q, z⟩ := main
 exact ⟨P, a, b, c, EvP.ofQ d44 rfl rfl rfl ⟨r, h, q⟩, z⟩
set_option maxHeartbeats 32000000 in
theorem priority_any (ty fl s : Int) (p : List Int) : ∃ P a b c, EvP F 45 c45 [.ag (fr ty fl s p), .ag (ptV ty s)] [.ag P, .ag [.it .i64 a, .it .i64 b, .it .i64 c]] /\ PtF P := by
 have s6 := stream_any (Int.ofNat 6) s
 have s1 := stream_any (Int.ofNat 1) s
 have clo := fr_clo ty fl s p
 have hl := bs_length p
 have main : EvQ F (d45.body.run ⟨argT [.ag (fr ty fl s p), .ag (ptV ty s)], fun _ => none, h0⟩ (fK d45)) (fun r => ∃ P a b c, PQ d45.rs [.ag P, .ag [.it .i64 a, .it .i64 b, .it .i64 c]] r /\ PtF P) := by
  unfold fr at *
  by_cases h5 : p.length = 5
  ·have z5 : ieq (Int.ofNat (bs p).length) (Int.ofNat 5) = true := by rw [hl, h5]; rfl
   obtain ⟨n, ba⟩ := bare_any p (by omega)
   repeat (first | refine EvQ.run ?_ | refine EvQ.lift (fun _ zn => X.pcall (ba) X.cq rfl X.al rfl zn) ?_ | refine EvQ.lift (fun _ zn => X.pcallG (ba) rfl X.cq rfl X.al rfl zn) ?_ | refine EvQ.lift (fun _ zn => X.pcallC (ba) rfl X.cq rfl X.al rfl zn) ?_ | refine EvQ.lift (fun _ zn => X.pcallT (ba) (by decide) X.cq rfl X.al rfl zn) ?_ | refine EvQ.lift (fun _ zn => X.call rfl X.al (ba) zn) ?_ | refine EvQ.fin X.rs ?_ | refine EvQ.fin1 (fun _ => rfl) rfl ?_)
   refine EvQ.cond rfl (fun h => ?_) (fun h => ?_)
   ·repeat (first | refine EvQ.run ?_ | refine EvQ.lift (fun _ zn => X.pcall (s1) X.cq rfl X.al rfl zn) ?_ | refine EvQ.lift (fun _ zn => X.pcallG (s1) rfl X.cq rfl X.al rfl zn) ?_ | refine EvQ.lift (fun _ zn => X.pcallC (s1) rfl X.cq rfl X.al rfl zn) ?_ | refine EvQ.lift (fun _ zn => X.pcallT (s1) (by decide) X.cq rfl X.al rfl zn) ?_ | refine EvQ.lift (fun _ zn => X.call rfl X.al (s1) zn) ?_ | refine EvQ.fin X.rs ?_ | refine EvQ.fin1 (fun _ => rfl) rfl ?_)
    refine fin2 (fun _ => rfl) rfl rfl ?_
    exact ⟨_, _, _, _, PQ.of (.g (closeCs_clo2 pt_clo0 _ _ (by decide)) (.gs bd_clo (.nil _))), _, _, _, _, _, _, _, _, _, _, _, rfl⟩
   ·repeat (first | refine EvQ.run ?_ | refine EvQ.fin X.rs ?_ | refine EvQ.fin1 (fun _ => rfl) rfl ?_)
    refine fin2 (fun _ => rfl) rfl rfl ?_
    exact ⟨_, _, _, _, PQ.of (.gs pt_clo (.gs bd_clo (.nil _))), _, _, _, _, _, _, _, _, _, _, _, rfl⟩
  ·have z5 : ieq (Int.ofNat (bs p).length) (Int.ofNat 5) = false := by rw [hl, ieqD]; exact decide_eq_false (by simp only [Int.ofNat_eq_natCast]; omega)
   repeat (first | refine EvQ.run ?_ | refine EvQ.lift (fun _ zn => X.pcall (s6) X.cq rfl X.al rfl zn) ?_ | refine EvQ.lift (fun _ zn => X.pcallG (s6) rfl X.cq rfl X.al rfl zn) ?_ | refine EvQ.lift (fun _ zn => X.pcallC (s6) rfl X.cq rfl X.al rfl zn) ?_ | refine EvQ.lift (fun _ zn => X.pcallT (s6) (by decide) X.cq rfl X.al rfl zn) ?_ | refine EvQ.lift (fun _ zn => X.call rfl X.al (s6) zn) ?_ | refine EvQ.fin X.rs ?_ | refine EvQ.fin1 (fun _ => rfl) rfl ?_)
   refine fin2 (fun _ => rfl) rfl rfl ?_
   exact ⟨_, _, _, _, PQ.of (.g (closeCs_clo2 pt_clo0 _ _ (by decide)) (.gs bd_clo (.nil _))), _, _, _, _, _, _, _, _, _, _, _, rfl⟩
 obtain ⟨r, h, P, a, b, c, q, z⟩ := main
 exact ⟨P, a, b, c, EvP.ofQ d45 rfl rfl rfl ⟨r, h, q⟩, z⟩
set_option maxHeartbeats 32000000 in
theorem window_any (ty fl s : Int) (p : List Int) : ∃ P a b c, EvP F 50 c50 [.ag (fr ty fl s p), .ag (ptV ty s)] [.ag P, .ag [.it .i64 a, .it .i64 b, .it .i64 c]] /\ PtF P := by
 have c6 := conn_any (Int.ofNat 6)
 have c1 := conn_any (Int.ofNat 1)
 have s1 := stream_any (Int.ofNat 1) s
 have clo := fr_clo ty fl s p
 have hl := bs_length p
 have main : EvQ F (d50.body.run ⟨argT [.ag (fr ty fl s p), .ag (ptV ty s)], fun _ => none, h0⟩ (fK d50)) (fun r => ∃ P a b c, PQ d50.rs [.ag P, .ag [.it .i64 a, .it .i64 b, .it .i64 c]] r /\ PtF P) := by
  unfold fr at *
  by_cases h5 : p.length = 4
  ·have z5 : ieq (Int.ofNat (bs p).length) (Int.ofNat 4) = true := by rw [hl, h5]; rfl
   obtain ⟨n, ba⟩ := bare_any p (by omega)
   repeat (first | refine EvQ.run ?_ | refine EvQ.lift (fun _ zn => X.pcall (ba) X.cq rfl X.al rfl zn) ?_ | refine EvQ.lift (fun _ zn => X.pcallG (ba) rfl X.cq rfl X.al rfl zn) ?_ | refine EvQ.lift (fun _ zn => X.pcallC (ba) rfl X.cq rfl X.al rfl zn) ?_ | refine EvQ.lift (fun _ zn => X.pcallT (ba) (by decide) X.cq rfl X.al rfl zn) ?_ | refine EvQ.lift (fun _ zn => X.call rfl X.al (ba) zn) ?_ | refine EvQ.fin X.rs ?_ | refine EvQ.fin1 (fun _ => rfl) rfl ?_)
   refine EvQ.cond rfl (fun h => ?_) (fun h => ?_)
   ·repeat (first | refine EvQ.run ?_ | refine EvQ.fin X.rs ?_ | refine EvQ.fin1 (fun _ => rfl) rfl ?_)
    refine fin2 (fun _ => rfl) rfl rfl ?_
    exact ⟨_, _, _, _, PQ.of (.gs pt_clo (.gs bd_clo (.nil _))), _, _, _, _, _, _, _, _, _, _, _, rfl⟩
   ·repeat (first | refine EvQ.run ?_ | refine EvQ.fin X.rs ?_ | refine EvQ.fin1 (fun _ => rfl) rfl ?_)
    refine EvQ.cond rfl (fun h => ?_) (fun h => ?_)
    ·repeat (first | refine EvQ.run ?_ | refine EvQ.lift (fun _ zn => X.pcall (c1) X.cq rfl X.al rfl zn) ?_ | refine EvQ.lift (fun _ zn => X.pcallG (c1) rfl X.cq rfl X.al rfl zn) ?_ | refine EvQ.lift (fun _ zn => X.pcallC (c1) rfl X.cq rfl X.al rfl zn) ?_ | refine EvQ.lift (fun _ zn => X.pcallT (c1) (by decide) X.cq rfl X.al rfl zn) ?_ | refine EvQ.lift (fun _ zn => X.call rfl X.al (c1) zn) ?_ | refine EvQ.fin X.rs ?_ | refine EvQ.fin1 (fun _ => rfl) rfl ?_)
     refine fin2 (fun _ => rfl) rfl rfl ?_
     exact ⟨_, _, _, _, PQ.of (.g (closeCs_clo2 pt_clo0 _ _ (by decide)) (.gs bd_clo (.nil _))), _, _, _, _, _, _, _, _, _, _, _, rfl⟩
    ·repeat (first | refine EvQ.run ?_ | refine EvQ.lift (fun _ zn => X.pcall (s1) X.cq rfl X.al rfl zn) ?_ | refine EvQ.lift (fun _ zn => X.pcallG (s1) rfl X.cq rfl X.al rfl zn) ?_ | refine EvQ.lift (fun _ zn => X.pcallC (s1) rfl X.cq rfl X.al rfl zn) ?_ | refine EvQ.lift (fun _ zn => X.pcallT (s1) (by decide) X.cq rfl X.al rfl zn) ?_ | refine EvQ.lift (fun _ zn => X.call rfl X.al (s1) zn) ?_ | refine EvQ.fin X.rs ?_ | refine EvQ.fin1 (fun _ => rfl) rfl ?_)
     refine fin2 (fun _ => rfl) rfl rfl ?_
     exact ⟨_, _, _, _, PQ.of (.g (closeCs_clo2 pt_clo0 _ _ (by decide)) (.gs bd_clo (.nil _))), _, _, _, _, _, _, _, _, _, _, _, rfl⟩
  ·have z5 : ieq (Int.ofNat (bs p).length) (Int.ofNat 4) = false := by rw [hl, ieqD]; exact decide_eq_false (by simp only [Int.ofNat_eq_natCast]; omega)
   repeat (first | refine EvQ.run ?_ | refine EvQ.lift (fun _ zn => X.pcall (c6) X.cq rfl X.al rfl zn) ?_ | refine EvQ.lift (fun _ zn => X.pcallG (c6) rfl X.cq rfl X.al rfl zn) ?_ | refine EvQ.lift (fun _ zn => X.pcallC (c6) rfl X.cq rfl X.al rfl zn) ?_ | refine EvQ.lift (fun _ zn => X.pcallT (c6) (by decide) X.cq rfl X.al rfl zn) ?_ | refine EvQ.lift (fun _ zn => X.call rfl X.al (c6) zn) ?_ | refine EvQ.fin X.rs ?_ | refine EvQ.fin1 (fun _ => rfl) rfl ?_)
   refine fin2 (fun _ => rfl) rfl rfl ?_
   exact ⟨_, _, _, _, PQ.of (.g (closeCs_clo2 pt_clo0 _ _ (by decide)) (.gs bd_clo (.nil _))), _, _, _, _, _, _, _, _, _, _, _, rfl⟩
 obtain ⟨r, h, P, a, b, c, q, z⟩ := main
 exact ⟨P, a, b, c, EvP.ofQ d50 rfl rfl rfl ⟨r, h, q⟩, z⟩
end Go.Proofs.YtndodhmfdjcjgaaGreatDoor
