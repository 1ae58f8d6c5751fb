import Derived.Test.YtpncefcicfhibaaGreatDoorEvE
import Derived.Test.YtpncefcicfhibaaGreatDoorCw1
set_option linter.unusedVariables false
set_option linter.unusedSimpArgs false
set_option linter.unusedSectionVars false
set_option linter.unusedVariables false
set_option linter.unusedSimpArgs false
-- WINDOW_UPDATE: its shape (EvHp EvOwn)
namespace Go.Proofs.YtpncefcicfhibaaGreatDoor.win
open Go hiding Fn
open Ev tab back
attribute [local irreducible] EvP EvD EvL EvC evGds evLs C.run sK bK gK pK fK lpB stepD numE bareE
set_option maxHeartbeats 8000000 in
theorem number_ok (a b c d : Int) : EvP F 87 c87 [.vs 1 (bs [a, b, c, d])] [.it .i64 (numE a b c d)] := by
  refine EvP.ofQ d87 rfl rfl rfl ?_
  unfold numE
  repeat (first | refine EvQ.run ?_ | refine EvQ.fin X.rs ?_ | refine EvQ.fin1 (fun _ => rfl) rfl ?_)
  exact PQ.it rfl
set_option maxHeartbeats 8000000 in
theorem bare_ok (a b c d : Int) : EvP F 90 c90 [.vs 1 (bs [a, b, c, d])] [.it .i64 (bareE a b c d)] := by
  have n := number_ok a b c d
  refine EvP.ofQ d90 rfl rfl rfl ?_
  unfold bareE
  repeat (first | refine EvQ.run ?_ | refine EvQ.lift (fun _ zn => X.pcall (n) X.cq rfl X.al rfl zn) ?_ | refine EvQ.lift (fun _ zn => X.pcallG (n) rfl X.cq rfl X.al rfl zn) ?_ | refine EvQ.lift (fun _ zn => X.pcallC (n) rfl X.cq rfl X.al rfl zn) ?_ | refine EvQ.lift (fun _ zn => X.pcallT (n) (by decide) X.cq rfl X.al rfl zn) ?_ | refine EvQ.lift (fun _ zn => X.call rfl X.al (n) zn) ?_ | refine EvQ.fin X.rs ?_ | refine EvQ.fin1 (fun _ => rfl) rfl ?_)
  exact PQ.it rfl
set_option maxHeartbeats 8000000 in
theorem misplaced_win (p : List Int) : EvP F 82 c82 [.ag (fr 8 0 1 p)] [.bo false] := by
  unfold fr
  refine EvP.ofQ d82 rfl rfl rfl ?_
  repeat (first | refine EvQ.run ?_ | refine EvQ.fin X.rs ?_ | refine EvQ.fin1 (fun _ => rfl) rfl ?_)
  exact PQ.bo rfl
abbrev part8 (k : Int) : List V := [.it .i64 8, .it .i64 1, .bo false, .bo false, .bo false, .vs 1 (bs []), .it .i64 0, .it .i64 0, .it .i64 k, .it .i64 0, .vs 2 []]
abbrev part8n : List V := [.it .i64 8, .it .i64 1, .bo false, .bo false, .bo false, .ns, .it .i64 0, .it .i64 0, .it .i64 0, .it .i64 0, .ns]
set_option maxHeartbeats 16000000 in
theorem window_ok (a b c d : Int) (k : Nat) (hk : bareE a b c d = Int.ofNat k) (h0' : 0 < k) : EvP F 91 c91 [.ag (fr 8 0 1 [a, b, c, d]), .ag (part8 0)] [.ag (part8 (Int.ofNat k)), .ag [.it .i64 0, .it .i64 0, .it .i64 0]] := by
  have ba := bare_ok a b c d
  rw [hk] at ba
  have clo := fr_clo 8 0 1 [a, b, c, d]
  have hl := bs_length [a, b, c, d]
  have z1 : ilt (Int.ofNat 0) (Int.ofNat k) = true := by rw [ilt_eq]; exact decide_eq_true (by simp only [Int.ofNat_eq_natCast]; omega)
  unfold fr at *
  refine EvP.ofQ d91 rfl rfl rfl ?_
  repeat (first | refine EvQ.run ?_ | refine EvQ.lift (fun _ zn => X.pcall (ba) X.cq rfl X.al rfl zn) ?_ | refine EvQ.lift (fun _ zn => X.pcallG (ba) rfl X.cq rfl X.al rfl zn) ?_ | refine EvQ.lift (fun _ zn => X.pcallC (ba) rfl X.cq rfl X.al rfl zn) ?_ | refine EvQ.lift (fun _ zn => X.pcallT (ba) (by decide) X.cq rfl X.al rfl zn) ?_ | refine EvQ.lift (fun _ zn => X.call rfl X.al (ba) zn) ?_ | refine EvQ.fin X.rs ?_ | refine EvQ.fin1 (fun _ => rfl) rfl ?_)
  refine fin2 (fun _ => rfl) rfl rfl ?_
  exact PQ.of (.gs part_cloV (.gs bad_clo (.nil _)))
set_option maxHeartbeats 16000000 in
theorem shape_win (a b c d : Int) (k : Nat) (hk : bareE a b c d = Int.ofNat k) (h0' : 0 < k) : EvP F 64 c64 [.ag (fr 8 0 1 [a, b, c, d])] [.ag (part8 (Int.ofNat k)), .ag [.it .i64 0, .it .i64 0, .it .i64 0]] := by
  have hr := right_ok 8 0 1 [a, b, c, d]
  have hrb : rightB 8 0 1 [a, b, c, d].length = true := rfl
  rw [hrb] at hr
  have hm := misplaced_win [a, b, c, d]
  have hd := window_ok a b c d k hk h0'
  have clo := fr_clo 8 0 1 [a, b, c, d]
  have fin : PQ d64.rs [.ag (part8 (Int.ofNat k)), .ag [.it .i64 0, .it .i64 0, .it .i64 0]] (Rt (.tu [.ag (part8 (Int.ofNat k)), .ag [.it .i64 0, .it .i64 0, .it .i64 0]]) h0) :=
    PQ.of (.gs part_cloV (.gs bad_clo (.nil _)))
  have hcl : ClP c91.ps [.ag (fr 8 0 1 [a, b, c, d]), .ag part8n] h0 [.ag (fr 8 0 1 [a, b, c, d]), .ag (part8 0)] h0 := .gs clo (.g (closeCs_clo2 (part_clo0 (a := 8) (b := 1) (c := 0) (d := 0) (e := 0) (f := 0) (x := false) (y := false) (z := false)) _ _ (by decide)) (.nil _))
  generalize [a, b, c, d] = p at *
  unfold fr at *
  refine EvP.ofQ d64 rfl rfl rfl ?_
  repeat (first | refine EvQ.run ?_ | refine EvQ.lift (fun _ zn => X.pcall (hr) X.cq rfl X.al rfl zn) ?_ | refine EvQ.lift (fun _ zn => X.pcallG (hr) rfl X.cq rfl X.al rfl zn) ?_ | refine EvQ.lift (fun _ zn => X.pcallC (hr) rfl X.cq rfl X.al rfl zn) ?_ | refine EvQ.lift (fun _ zn => X.pcallT (hr) (by decide) X.cq rfl X.al rfl zn) ?_ | refine EvQ.lift (fun _ zn => X.call rfl X.al (hr) zn) ?_ | refine EvQ.lift (fun _ zn => X.pcall (hm) X.cq rfl X.al rfl zn) ?_ | refine EvQ.lift (fun _ zn => X.pcallG (hm) rfl X.cq rfl X.al rfl zn) ?_ | refine EvQ.lift (fun _ zn => X.pcallC (hm) rfl X.cq rfl X.al rfl zn) ?_ | refine EvQ.lift (fun _ zn => X.pcallT (hm) (by decide) X.cq rfl X.al rfl zn) ?_ | refine EvQ.lift (fun _ zn => X.call rfl X.al (hm) zn) ?_ | refine EvQ.fin X.rs ?_ | refine EvQ.fin1 (fun _ => rfl) rfl ?_)
  refine EvQ.lift (fun _ zn => X.pcall hd hcl rfl X.al rfl zn) ?_
  repeat (first | refine EvQ.run ?_ | refine EvQ.fin X.rs ?_ | refine EvQ.fin1 (fun _ => rfl) rfl ?_)
  refine fin2 (fun _ => rfl) rfl rfl ?_
  exact fin
end Go.Proofs.YtpncefcicfhibaaGreatDoor.win
