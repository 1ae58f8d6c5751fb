import Derived.Test.YtndodhmfdjcjgaaGreatDoorEvE
import Derived.Test.YtndodhmfdjcjgaaGreatDoorShA
set_option linter.unusedSectionVars false
set_option linter.unusedVariables false
set_option linter.unusedSimpArgs false
-- the shape of DATA, HEADERS, PRIORITY, WINDOW_UPDATE (EvHp EvOwn)
namespace Go.Proofs.YtndodhmfdjcjgaaGreatDoor
open Go hiding Fn
open Ev tab
attribute [local irreducible] EvP EvD EvL EvC EvO evGds evLs C.run sK bK gK pK fK lpB stepD numE
set_option maxHeartbeats 8000000 in
theorem conn_any (c : Int) : EvP F 42 c42 [.it .i64 c] [.ag [.it .i64 2, .it .i64 c, .it .i64 0]] := by
 refine EvP.ofQ d42 rfl rfl rfl ?_
 repeat (first | refine EvQ.run ?_ | refine EvQ.fin X.rs ?_ | refine EvQ.fin1 (fun _ => rfl) rfl ?_)
 exact PQ.of (.gs (.cons (clo_it _ _) (.cons (clo_it _ _) (.cons (clo_it _ _) .nil))) (.nil _))
set_option maxHeartbeats 8000000 in
theorem stream_any (c s : Int) : EvP F 57 c57 [.it .i64 c, .it .i64 s] [.ag [.it .i64 1, .it .i64 c, .it .i64 s]] := by
 refine EvP.ofQ d57 rfl rfl rfl ?_
 repeat (first | refine EvQ.run ?_ | refine EvQ.fin X.rs ?_ | refine EvQ.fin1 (fun _ => rfl) rfl ?_)
 exact PQ.of (.gs (.cons (clo_it _ _) (.cons (clo_it _ _) (.cons (clo_it _ _) .nil))) (.nil _))
set_option maxHeartbeats 8000000 in
theorem bare_any (p : List Int) (h : 4 <= p.length) : ∃ n, EvP F 49 c49 [.vs 1 (bs p)] [.it .i64 n] := by
 have na := number_any p h
 have main : EvQ F (d49.body.run ⟨argT [.vs 1 (bs p)], fun _ => none, h0⟩ (fK d49)) (fun r => ∃ n, PQ d49.rs [.it .i64 n] r) := by
  repeat (first | refine EvQ.run ?_ | refine EvQ.lift (fun _ zn => X.pcall (na) X.cq rfl X.al rfl zn) ?_ | refine EvQ.lift (fun _ zn => X.pcallG (na) rfl X.cq rfl X.al rfl zn) ?_ | refine EvQ.lift (fun _ zn => X.pcallC (na) rfl X.cq rfl X.al rfl zn) ?_ | refine EvQ.lift (fun _ zn => X.pcallT (na) (by decide) X.cq rfl X.al rfl zn) ?_ | refine EvQ.lift (fun _ zn => X.call rfl X.al (na) zn) ?_ | refine EvQ.fin X.rs ?_ | refine EvQ.fin1 (fun _ => rfl) rfl ?_)
  exact ⟨_, PQ.it rfl⟩
 obtain ⟨r, h, n, q⟩ := main
 exact ⟨n, EvP.ofQ d49 rfl rfl rfl ⟨r, h, q⟩⟩
def ByL (p : List Int) : Prop := ∀ n, n ∈ p -> 0 <= n /\ n <= 255
set_option maxHeartbeats 16000000 in
theorem padded_any (ty fl s : Int) (p : List Int) (hb : ByL p) : ∃ (k : Nat) (b : List Int) (ok : Bool), EvP F 56 c56 [.ag (fr ty fl s p)] [.it .i64 (Int.ofNat k), .vs 1 (bs b), .bo ok] /\ b.length <= p.length /\ k <= 255 := by
 have hl := bs_length p
 have main : EvQ F (d56.body.run ⟨argT [.ag (fr ty fl s p)], fun _ => none, h0⟩ (fK d56)) (fun r => ∃ (k : Nat) (b : List Int) (ok : Bool), PQ d56.rs [.it .i64 (Int.ofNat k), .vs 1 (bs b), .bo ok] r /\ b.length <= p.length /\ k <= 255) := by
  unfold fr
  repeat (first | refine EvQ.run ?_ | refine EvQ.fin X.rs ?_ | refine EvQ.fin1 (fun _ => rfl) rfl ?_)
  refine EvQ.cond rfl (fun h => ?_) (fun h => ?_)
  ·repeat (first | refine EvQ.run ?_ | refine EvQ.fin X.rs ?_ | refine EvQ.fin1 (fun _ => rfl) rfl ?_)
   exact ⟨0, p, true, PQ.of (.s (clo_it _ _) (.s (clo_vs [.one] _) (.s (clo_bo _) (.nil _)))), Nat.le_refl _, by omega⟩
  ·clear h
   match p, hb with
   | [], _ =>
    repeat (first | refine EvQ.run ?_ | refine EvQ.fin X.rs ?_ | refine EvQ.fin1 (fun _ => rfl) rfl ?_)
    exact ⟨0, [], false, PQ.of (.s (clo_it _ _) (.s2 (clo_ns [.one]) (.s (clo_bo _) (.nil _)))), Nat.le_refl _, by omega⟩
   | x :: xs, hb =>
    obtain ⟨k, hk, rfl⟩ : ∃ k : Nat, k <= 255 /\ x = Int.ofNat k := by
     obtain ⟨h1, h2⟩ := hb x (by simp)
     exact ⟨x.toNat, by omega, by simp only [Int.ofNat_eq_natCast]; omega⟩
    have e1 : wr .i64 (Int.ofNat k) = Int.ofNat k := wr64 (by simp only [Int.ofNat_eq_natCast]; omega) (by simp only [Int.ofNat_eq_natCast]; omega)
    have e2 : List.take ((bs (Int.ofNat k :: xs)).length - (Int.ofNat 1).toNat) (List.drop (Int.ofNat 1).toNat (bs (Int.ofNat k :: xs))) = bs xs :=
     List.take_of_length_le (by show (bs xs).length <= _; rw [bs_length, bs_length]; show xs.length <= xs.length + 1 - 1; omega)
    have fin : ∀ (a : Int) (b : List (List V)), a = Int.ofNat k -> b = bs xs -> PQ [.c .one, .c (.sl [.one]), .c .one] [.it .i64 (Int.ofNat k), .vs 1 (bs xs), .bo true] (Rt (.tu [.it .i64 a, .vs 1 b, .bo true]) h0) := by
     rintro _ _ rfl rfl
     exact PQ.of (.s (clo_it _ _) (.s (clo_vs [.one] _) (.s (clo_bo _) (.nil _))))
    repeat (first | refine EvQ.run ?_ | refine EvQ.fin X.rs ?_ | refine EvQ.fin1 (fun _ => rfl) rfl ?_)
    exact ⟨k, xs, true, fin _ _ e1 e2, by simp, hk⟩
 obtain ⟨r, h, k, b, ok, q, z⟩ := main
 exact ⟨k, b, ok, EvP.ofQ d56 rfl rfl rfl ⟨r, h, q⟩, z⟩
/-- a part; an error -/
def PtF (P : List V) : Prop := ∃ (a b : Int) (c d e : Bool) (x : List Int) (f g h i : Int) (y : List (List V)), P = [.it .i64 a, .it .i64 b, .bo c, .bo d, .bo e, .vs 1 (bs x), .it .i64 f, .it .i64 g, .it .i64 h, .it .i64 i, .vs 2 y]
abbrev ptV (ty s : Int) : List V := [.it .i64 ty, .it .i64 s, .bo false, .bo false, .bo false, .vs 1 (bs []), .it .i64 0, .it .i64 0, .it .i64 0, .it .i64 0, .vs 2 []]
theorem pt_clo {a b : Int} {c d e : Bool} {x : List Int} {f g h i : Int} {y : List (List V)} : CloL [.one, .one, .one, .one, .one, .sl [.one], .one, .one, .one, .one, .sl [.one, .one]] [.it .i64 a, .it .i64 b, .bo c, .bo d, .bo e, .vs 1 (bs x), .it .i64 f, .it .i64 g, .it .i64 h, .it .i64 i, .vs 2 y] :=
 .cons (clo_it _ _) (.cons (clo_it _ _) (.cons (clo_bo _) (.cons (clo_bo _) (.cons (clo_bo _) (.cons (clo_vs [.one] _) (.cons (clo_it _ _) (.cons (clo_it _ _) (.cons (clo_it _ _) (.cons (clo_it _ _) (.cons (clo_vs [.one, .one] _) .nil))))))))))
theorem pt_clo0 {a b c d e f : Int} {x y z : Bool} : CloL2 [.one, .one, .one, .one, .one, .sl [.one], .one, .one, .one, .one, .sl [.one, .one]] [.it .i64 a, .it .i64 b, .bo x, .bo y, .bo z, .ns, .it .i64 c, .it .i64 d, .it .i64 e, .it .i64 f, .ns] [.it .i64 a, .it .i64 b, .bo x, .bo y, .bo z, .vs 1 (bs []), .it .i64 c, .it .i64 d, .it .i64 e, .it .i64 f, .vs 2 []] :=
 .cons (clo_it _ _) (.cons (clo_it _ _) (.cons (clo_bo _) (.cons (clo_bo _) (.cons (clo_bo _) (.cons (clo_ns [.one]) (.cons (clo_it _ _) (.cons (clo_it _ _) (.cons (clo_it _ _) (.cons (clo_it _ _) (.cons (clo_ns [.one, .one]) .nil))))))))))
theorem bd_clo {a b c : Int} : CloL [.one, .one, .one] [.it .i64 a, .it .i64 b, .it .i64 c] := .cons (clo_it _ _) (.cons (clo_it _ _) (.cons (clo_it _ _) .nil))
theorem bs_take (b : List Int) (n : Nat) : List.take n (bs b) = bs (b.take n) := by simp [bs, List.map_take]
set_option maxHeartbeats 32000000 in
theorem data_any (ty fl s : Int) (p : List Int) (hb : ByL p) (hp : p.length <= 1000) : ∃ P a b c, EvP F 43 c43 [.ag (fr ty fl s p), .ag (ptV ty s)] [.ag P, .ag [.it .i64 a, .it .i64 b, .it .i64 c]] /\ PtF P := by
 obtain ⟨k, b, ok, pd, hbl, hk⟩ := padded_any ty fl s p hb
 have c6 := conn_any (Int.ofNat 6)
 have c1 := conn_any (Int.ofNat 1)
 have clo := fr_clo ty fl s p
 have hl := bs_length b
 have main : EvQ F (d43.body.run ⟨argT [.ag (fr ty fl s p), .ag (ptV ty s)], fun _ => none, h0⟩ (fK d43)) (fun r => ∃ P a b c, PQ d43.rs [.ag P, .ag [.it .i64 a, .it .i64 b, .it .i64 c]] r /\ PtF P) := by
  unfold fr at *
  cases ok with
  | false =>
   repeat (first | refine EvQ.run ?_ | refine EvQ.lift (fun _ zn => X.pcall (pd) X.cq rfl X.al rfl zn) ?_ | refine EvQ.lift (fun _ zn => X.pcallG (pd) rfl X.cq rfl X.al rfl zn) ?_ | refine EvQ.lift (fun _ zn => X.pcallC (pd) rfl X.cq rfl X.al rfl zn) ?_ | refine EvQ.lift (fun _ zn => X.pcallT (pd) (by decide) X.cq rfl X.al rfl zn) ?_ | refine EvQ.lift (fun _ zn => X.call rfl X.al (pd) zn) ?_ | refine EvQ.lift (fun _ zn => X.pcall (c6) X.cq rfl X.al rfl zn) ?_ | refine EvQ.lift (fun _ zn => X.pcallG (c6) rfl X.cq rfl X.al rfl zn) ?_ | refine EvQ.lift (fun _ zn => X.pcallC (c6) rfl X.cq rfl X.al rfl zn) ?_ | refine EvQ.lift (fun _ zn => X.pcallT (c6) (by decide) X.cq rfl X.al rfl zn) ?_ | refine EvQ.lift (fun _ zn => X.call rfl X.al (c6) zn) ?_ | refine EvQ.fin X.rs ?_ | refine EvQ.fin1 (fun _ => rfl) rfl ?_)
   refine fin2 (fun _ => rfl) rfl rfl ?_
   exact ⟨_, _, _, _, PQ.of (.g (closeCs_clo2 pt_clo0 _ _ (by decide)) (.gs bd_clo (.nil _))), _, _, _, _, _, _, _, _, _, _, _, rfl⟩
  | true =>
   by_cases hg : b.length < k
   ·have z : ilt (Int.ofNat b.length) (Int.ofNat k) = true := by rw [ilt_eq]; exact decide_eq_true (by simp only [Int.ofNat_eq_natCast]; omega)
    repeat (first | refine EvQ.run ?_ | refine EvQ.lift (fun _ zn => X.pcall (pd) X.cq rfl X.al rfl zn) ?_ | refine EvQ.lift (fun _ zn => X.pcallG (pd) rfl X.cq rfl X.al rfl zn) ?_ | refine EvQ.lift (fun _ zn => X.pcallC (pd) rfl X.cq rfl X.al rfl zn) ?_ | refine EvQ.lift (fun _ zn => X.pcallT (pd) (by decide) X.cq rfl X.al rfl zn) ?_ | refine EvQ.lift (fun _ zn => X.call rfl X.al (pd) zn) ?_ | refine EvQ.lift (fun _ zn => X.pcall (c1) X.cq rfl X.al rfl zn) ?_ | refine EvQ.lift (fun _ zn => X.pcallG (c1) rfl X.cq rfl X.al rfl zn) ?_ | refine EvQ.lift (fun _ zn => X.pcallC (c1) rfl X.cq rfl X.al rfl zn) ?_ | refine EvQ.lift (fun _ zn => X.pcallT (c1) (by decide) X.cq rfl X.al rfl zn) ?_ | refine EvQ.lift (fun _ zn => X.call rfl X.al (c1) zn) ?_ | refine EvQ.fin X.rs ?_ | refine EvQ.fin1 (fun _ => rfl) rfl ?_)
    refine fin2 (fun _ => rfl) rfl rfl ?_
    exact ⟨_, _, _, _, PQ.of (.g (closeCs_clo2 pt_clo0 _ _ (by decide)) (.gs bd_clo (.nil _))), _, _, _, _, _, _, _, _, _, _, _, rfl⟩
   ·have z : ilt (Int.ofNat b.length) (Int.ofNat k) = false := by rw [ilt_eq]; exact decide_eq_false (by simp only [Int.ofNat_eq_natCast]; omega)
    have cp := copied_any (b.take (b.length - k)) (by simp; omega)
    have e37 : List.take ((Int.ofNat ((bs b).length - k)).toNat - 0) (List.drop 0 (bs b)) = bs (b.take (b.length - k)) := by
     show List.take ((bs b).length - k) (bs b) = _
     rw [hl, bs_take]
    repeat (first | refine EvQ.run ?_ | refine EvQ.lift (fun _ zn => X.pcall (pd) X.cq rfl X.al rfl zn) ?_ | refine EvQ.lift (fun _ zn => X.pcallG (pd) rfl X.cq rfl X.al rfl zn) ?_ | refine EvQ.lift (fun _ zn => X.pcallC (pd) rfl X.cq rfl X.al rfl zn) ?_ | refine EvQ.lift (fun _ zn => X.pcallT (pd) (by decide) X.cq rfl X.al rfl zn) ?_ | refine EvQ.lift (fun _ zn => X.call rfl X.al (pd) zn) ?_ | refine EvQ.fin X.rs ?_ | refine EvQ.fin1 (fun _ => rfl) rfl ?_)
    refine EvQ.lift (fun _ zn => X.pcall cp (.s (clo_vs [.one] _) (.nil _)) (congrArg (fun z => [V.vs 1 z]) e37) X.al rfl zn) ?_
    repeat (first | refine EvQ.run ?_ | refine EvQ.fin X.rs ?_ | refine EvQ.fin1 (fun _ => rfl) rfl ?_)
    refine fin2 (fun _ => rfl) rfl rfl ?_
    exact ⟨_, _, _, _, PQ.of (.gs pt_clo (.gs bd_clo (.nil _))), _, _, _, _, _, _, _, _, _, _, _, rfl⟩
 obtain ⟨r, h, P, a, b, c, q, z⟩ := main
 exact ⟨P, a, b, c, EvP.ofQ d43 rfl rfl rfl ⟨r, h, q⟩, z⟩
end Go.Proofs.YtndodhmfdjcjgaaGreatDoor
