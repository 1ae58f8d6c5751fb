import Derived.Test.YtpncefcicfhibaaGreatDoorEvE
import Derived.Test.YtpncefcicfhibaaGreatDoorPin1
set_option linter.unusedVariables false
set_option linter.unusedSimpArgs false
-- a PING (EvHp EvOwn)
namespace Go.Proofs.YtpncefcicfhibaaGreatDoor
open Go hiding Fn
open Ev tab
section
variable {tm : Tm} {lo : Lo} {hp : Hp}
/-- the end, of two boxes -/
theorem fin2 {dd : DFn} {vs : List V} {b1 b2 : Bool} {Q : R → Prop} (h : ∀ K : List V → D, resultsD ⟨tm, lo, hp⟩ dd.res K = .chk b1 (.chk b2 (K vs))) (h1 : b1 = true) (h2 : b2 = true) (q : Q (Rt (tuple vs) hp)) : EvQ F (fK dd (.ret ⟨tm, lo, hp⟩)) Q := by
  refine EvQ.of (x := Rt (tuple vs) hp) ?_ q
  show EvD F (resultsD ⟨tm, lo, hp⟩ dd.res fun vs => .done (.ret ⟨fun _ => tuple vs, fun _ => none, hp⟩)) _
  rw [h]; exact .chk h1 (.chk h2 (.done _))
end
attribute [local irreducible] EvP EvD EvL EvC evGds evLs C.run sK bK gK pK fK lpB stepD
set_option maxHeartbeats 8000000 in
theorem misplaced_ping (fl : Int) (p : List Int) : EvP F 82 c82 [.ag (fr 6 fl 0 p)] [.bo false] := by
  unfold fr
  refine EvP.ofQ d82 rfl rfl rfl ?_
  repeat (first | refine EvQ.run ?_ | refine EvQ.fin X.rs ?_ | refine EvQ.fin1 (fun _ => rfl) rfl ?_)
  exact PQ.bo rfl
set_option maxHeartbeats 8000000 in
theorem copied_ok (p : List Int) (hp : p.length ≤ 20000000) : EvP F 89 c89 [.vs 1 (bs p)] [.vs 1 (bs p)] := by
  have hB := apv_by (hp := h0) (by decide) p
  have hl := hB.lp
  obtain ⟨h1, z1, e1⟩ := close_by hB
  refine EvP.ofQ d89 rfl rfl rfl ?_
  refine EvQ.run ?_
  refine EvQ.lift (fun _ zn => X.apE (v := .vs 1 (bs p)) rfl rfl (By.vs h0 p) (by simp only [Nat.mul_one]; omega) zn) ?_
  repeat (first | refine EvQ.run ?_ | refine EvQ.fin X.rs ?_ | refine EvQ.fin1 (fun _ => rfl) rfl ?_)
  exact PQ.of (.c (e1 _ (by show p.length + 5 ≤ 100000000; omega)) (.nil _))
abbrev partPing (ack : Bool) (p : List Int) : List V := [.it .i64 6, .it .i64 0, .bo false, .bo false, .bo ack, .vs 1 (bs p), .it .i64 0, .it .i64 0, .it .i64 0, .it .i64 0, .vs 2 []]
theorem part_clo {a b c d e f : Int} {x y z : Bool} {p : List Int} : CloL2 [.one, .one, .one, .one, .one, .sl [.one], .one, .one, .one, .one, .sl [.one, .one]] [.it .i64 a, .it .i64 b, .bo x, .bo y, .bo z, .vs 1 (bs p), .it .i64 c, .it .i64 d, .it .i64 e, .it .i64 f, .ns] [.it .i64 a, .it .i64 b, .bo x, .bo y, .bo z, .vs 1 (bs p), .it .i64 c, .it .i64 d, .it .i64 e, .it .i64 f, .vs 2 []] :=
  .cons (clo_it _ _) (.cons (clo_it _ _) (.cons (clo_bo _) (.cons (clo_bo _) (.cons (clo_bo _) (.cons (clo_vs [.one] _) (.cons (clo_it _ _) (.cons (clo_it _ _) (.cons (clo_it _ _) (.cons (clo_it _ _) (.cons (clo_ns [.one, .one]) .nil))))))))))
theorem bad_clo {a b c : Int} : CloL [.one, .one, .one] [.it .i64 a, .it .i64 b, .it .i64 c] := .cons (clo_it _ _) (.cons (clo_it _ _) (.cons (clo_it _ _) .nil))
set_option maxHeartbeats 16000000 in
theorem shape_ping (fl : Int) (ack : Bool) (p : List Int) (hp : p.length = 8) (hf : (fl = 0 ∧ ack = false) ∨ (fl = 1 ∧ ack = true)) : EvP F 64 c64 [.ag (fr 6 fl 0 p)] [.ag (partPing ack p), .ag [.it .i64 0, .it .i64 0, .it .i64 0]] := by
  have hr := right_ok 6 fl 0 p
  have hm := misplaced_ping fl p
  have hc := copied_ok p (by omega)
  have hrb : rightB 6 fl 0 p.length = true := by unfold rightB; rw [hp]; rcases hf with ⟨rfl, _⟩ | ⟨rfl, _⟩ <;> rfl
  rw [hrb] at hr
  have clo := fr_clo 6 fl 0 p
  have hl := bs_length p
  unfold fr at *
  refine EvP.ofQ d64 rfl rfl rfl ?_
  rcases hf with ⟨rfl, rfl⟩ | ⟨rfl, rfl⟩
  · repeat (first | refine EvQ.run ?_ | refine EvQ.lift (fun _ zn => X.pcall (hr) X.cq rfl X.al rfl zn) ?_ | refine EvQ.lift (fun _ zn => X.pcallG (hr) rfl X.cq rfl X.al rfl zn) ?_ | refine EvQ.lift (fun _ zn => X.pcallC (hr) rfl X.cq rfl X.al rfl zn) ?_ | refine EvQ.lift (fun _ zn => X.pcallT (hr) (by decide) X.cq rfl X.al rfl zn) ?_ | refine EvQ.lift (fun _ zn => X.call rfl X.al (hr) zn) ?_ | refine EvQ.lift (fun _ zn => X.pcall (hm) X.cq rfl X.al rfl zn) ?_ | refine EvQ.lift (fun _ zn => X.pcallG (hm) rfl X.cq rfl X.al rfl zn) ?_ | refine EvQ.lift (fun _ zn => X.pcallC (hm) rfl X.cq rfl X.al rfl zn) ?_ | refine EvQ.lift (fun _ zn => X.pcallT (hm) (by decide) X.cq rfl X.al rfl zn) ?_ | refine EvQ.lift (fun _ zn => X.call rfl X.al (hm) zn) ?_ | refine EvQ.lift (fun _ zn => X.pcall (hc) X.cq rfl X.al rfl zn) ?_ | refine EvQ.lift (fun _ zn => X.pcallG (hc) rfl X.cq rfl X.al rfl zn) ?_ | refine EvQ.lift (fun _ zn => X.pcallC (hc) rfl X.cq rfl X.al rfl zn) ?_ | refine EvQ.lift (fun _ zn => X.pcallT (hc) (by decide) X.cq rfl X.al rfl zn) ?_ | refine EvQ.lift (fun _ zn => X.call rfl X.al (hc) zn) ?_ | refine EvQ.fin X.rs ?_ | refine EvQ.fin1 (fun _ => rfl) rfl ?_)
    refine fin2 (fun _ => rfl) rfl rfl ?_
    exact PQ.of (.g (closeCs_clo2 (part_clo (x := false) (y := false) (z := false)) _ _ (by decide)) (.gs bad_clo (.nil _)))
  · repeat (first | refine EvQ.run ?_ | refine EvQ.lift (fun _ zn => X.pcall (hr) X.cq rfl X.al rfl zn) ?_ | refine EvQ.lift (fun _ zn => X.pcallG (hr) rfl X.cq rfl X.al rfl zn) ?_ | refine EvQ.lift (fun _ zn => X.pcallC (hr) rfl X.cq rfl X.al rfl zn) ?_ | refine EvQ.lift (fun _ zn => X.pcallT (hr) (by decide) X.cq rfl X.al rfl zn) ?_ | refine EvQ.lift (fun _ zn => X.call rfl X.al (hr) zn) ?_ | refine EvQ.lift (fun _ zn => X.pcall (hm) X.cq rfl X.al rfl zn) ?_ | refine EvQ.lift (fun _ zn => X.pcallG (hm) rfl X.cq rfl X.al rfl zn) ?_ | refine EvQ.lift (fun _ zn => X.pcallC (hm) rfl X.cq rfl X.al rfl zn) ?_ | refine EvQ.lift (fun _ zn => X.pcallT (hm) (by decide) X.cq rfl X.al rfl zn) ?_ | refine EvQ.lift (fun _ zn => X.call rfl X.al (hm) zn) ?_ | refine EvQ.lift (fun _ zn => X.pcall (hc) X.cq rfl X.al rfl zn) ?_ | refine EvQ.lift (fun _ zn => X.pcallG (hc) rfl X.cq rfl X.al rfl zn) ?_ | refine EvQ.lift (fun _ zn => X.pcallC (hc) rfl X.cq rfl X.al rfl zn) ?_ | refine EvQ.lift (fun _ zn => X.pcallT (hc) (by decide) X.cq rfl X.al rfl zn) ?_ | refine EvQ.lift (fun _ zn => X.call rfl X.al (hc) zn) ?_ | refine EvQ.fin X.rs ?_ | refine EvQ.fin1 (fun _ => rfl) rfl ?_)
    refine fin2 (fun _ => rfl) rfl rfl ?_
    exact PQ.of (.g (closeCs_clo2 (part_clo (x := false) (y := false) (z := true)) _ _ (by decide)) (.gs bad_clo (.nil _)))
end Go.Proofs.YtpncefcicfhibaaGreatDoor
