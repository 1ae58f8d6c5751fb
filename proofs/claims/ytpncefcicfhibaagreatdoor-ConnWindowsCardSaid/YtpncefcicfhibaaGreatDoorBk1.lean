import Derived.Test.YtpncefcicfhibaaGreatDoorEvE
import Derived.Test.YtpncefcicfhibaaGreatDoorPin5
set_option linter.unusedVariables false
set_option linter.unusedSimpArgs false
set_option linter.unusedSectionVars false
set_option linter.unusedVariables false
set_option linter.unusedSimpArgs false
-- DATA with padding (EvHp EvOwn)
namespace Go.Proofs.YtpncefcicfhibaaGreatDoor.back
open Go hiding Fn
open Ev tab
attribute [local irreducible] EvP EvD EvL EvC evGds evLs C.run sK bK gK pK fK lpB stepD
abbrev part0 : List V := [.it .i64 0, .it .i64 1, .bo false, .bo false, .bo false, .vs 1 (bs []), .it .i64 0, .it .i64 0, .it .i64 0, .it .i64 0, .vs 2 []]
abbrev partData (b : List Int) : List V := [.it .i64 0, .it .i64 1, .bo false, .bo false, .bo false, .vs 1 (bs b), .it .i64 0, .it .i64 0, .it .i64 0, .it .i64 16001, .vs 2 []]
theorem part_cloV {a b c d e f : Int} {x y z : Bool} {p : List Int} : CloL [.one, .one, .one, .one, .one, .sl [.one], .one, .one, .one, .one, .sl [.one, .one]] [.it .i64 a, .it .i64 b, .bo x, .bo y, .bo z, .vs 1 (bs p), .it .i64 c, .it .i64 d, .it .i64 e, .it .i64 f, .vs 2 []] :=
  .cons (clo_it _ _) (.cons (clo_it _ _) (.cons (clo_bo _) (.cons (clo_bo _) (.cons (clo_bo _) (.cons (clo_vs [.one] _) (.cons (clo_it _ _) (.cons (clo_it _ _) (.cons (clo_it _ _) (.cons (clo_it _ _) (.cons (clo_vs [.one, .one] _) .nil))))))))))
theorem part_clo0 {a b c d e f : Int} {x y z : Bool} : CloL2 [.one, .one, .one, .one, .one, .sl [.one], .one, .one, .one, .one, .sl [.one, .one]] [.it .i64 a, .it .i64 b, .bo x, .bo y, .bo z, .ns, .it .i64 c, .it .i64 d, .it .i64 e, .it .i64 f, .ns] [.it .i64 a, .it .i64 b, .bo x, .bo y, .bo z, .vs 1 [], .it .i64 c, .it .i64 d, .it .i64 e, .it .i64 f, .vs 2 []] :=
  .cons (clo_it _ _) (.cons (clo_it _ _) (.cons (clo_bo _) (.cons (clo_bo _) (.cons (clo_bo _) (.cons (clo_ns [.one]) (.cons (clo_it _ _) (.cons (clo_it _ _) (.cons (clo_it _ _) (.cons (clo_it _ _) (.cons (clo_ns [.one, .one]) .nil))))))))))
set_option maxHeartbeats 8000000 in
theorem take_ok (w n : Int) (h1 : 0 ≤ n) (h2 : n ≤ w) (h3 : w ≤ 2147483647) : EvP F 48 c48 [.ag [.it .i64 w], .it .i64 n] [.ag [.it .i64 (w - n)], .bo true] := by
  have c1 : ilt n 0 = false := by rw [ilt_eq]; exact decide_eq_false (by omega)
  have c2 : ilt w n = false := by rw [ilt_eq]; exact decide_eq_false (by omega)
  have e1 : wr .i64 (w - n) = w - n := wr64 (by omega) (by omega)
  refine EvP.ofQ d48 rfl rfl rfl ?_
  repeat (first | refine EvQ.run ?_ | refine EvQ.fin X.rs ?_ | refine EvQ.fin1 (fun _ => rfl) rfl ?_)
  have fin : ∀ (a : Int), a = w - n → PQ [.g [.one], .c .one] [.ag [.it .i64 (w - n)], .bo true] (Rt (.tu [.ag [.it .i64 a], .bo true]) h0) := by
    rintro _ rfl
    exact PQ.of (.gs (.cons (clo_it _ _) .nil) (.s (clo_bo _) (.nil _)))
  exact fin _ e1
set_option maxHeartbeats 8000000 in
theorem wwithin_ok (n : Int) (h1 : 0 ≤ n) (h2 : n ≤ 2147483647) : EvP F 58 c58 [.it .i64 n] [.bo true] := by
  have c1 : ilt n 0 = false := by rw [ilt_eq]; exact decide_eq_false (by omega)
  have c2 : ilt 2147483647 n = false := by rw [ilt_eq]; exact decide_eq_false (by omega)
  refine EvP.ofQ d58 rfl rfl rfl ?_
  repeat (first | refine EvQ.run ?_ | refine EvQ.fin X.rs ?_ | refine EvQ.fin1 (fun _ => rfl) rfl ?_)
  exact PQ.bo (by show (!ilt 2147483647 n) = true; rw [c2]; rfl)
set_option maxHeartbeats 8000000 in
theorem credit_ok (w n : Int) (h1 : 0 ≤ n) (h2 : n ≤ 100000) (h0' : 0 ≤ w) (h3 : w ≤ 65535) : EvP F 54 c54 [.ag [.it .i64 w], .it .i64 n] [.ag [.it .i64 (w + n)], .bo true] := by
  have e1 : wr .i64 (w + n) = w + n := wr64 (by omega) (by omega)
  have e2 : wr .i64 (2147483647 - w) = 2147483647 - w := wr64 (by omega) (by omega)
  have c1 : ilt (2147483647 - w) n = false := by rw [ilt_eq]; exact decide_eq_false (by omega)
  have hw := wwithin_ok n h1 (by omega)
  refine EvP.ofQ d54 rfl rfl rfl ?_
  have fin : ∀ (a : Int), a = w + n → PQ [.g [.one], .c .one] [.ag [.it .i64 (w + n)], .bo true] (Rt (.tu [.ag [.it .i64 a], .bo true]) h0) := by
    rintro _ rfl
    exact PQ.of (.gs (.cons (clo_it _ _) .nil) (.s (clo_bo _) (.nil _)))
  have c3 : ilt (wr .i64 (2147483647 - w)) n = false := by rw [e2]; exact c1
  repeat (first | refine EvQ.run ?_ | refine EvQ.lift (fun _ zn => X.pcall (hw) X.cq rfl X.al rfl zn) ?_ | refine EvQ.lift (fun _ zn => X.pcallG (hw) rfl X.cq rfl X.al rfl zn) ?_ | refine EvQ.lift (fun _ zn => X.pcallC (hw) rfl X.cq rfl X.al rfl zn) ?_ | refine EvQ.lift (fun _ zn => X.pcallT (hw) (by decide) X.cq rfl X.al rfl zn) ?_ | refine EvQ.lift (fun _ zn => X.call rfl X.al (hw) zn) ?_ | refine EvQ.fin X.rs ?_ | refine EvQ.fin1 (fun _ => rfl) rfl ?_)
  exact fin _ e1
end Go.Proofs.YtpncefcicfhibaaGreatDoor.back
