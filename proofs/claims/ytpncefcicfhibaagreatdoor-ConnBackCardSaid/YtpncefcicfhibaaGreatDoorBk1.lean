import Derived.Test.YtpncefcicfhibaaGreatDoorEvE
import Derived.Test.YtpncefcicfhibaaGreatDoorPin5
set_option linter.unusedVariables false
set_option linter.unusedSimpArgs false
-- DATA with padding (EvHp EvOwn)
namespace Go.Proofs.YtpncefcicfhibaaGreatDoor.back
open Go hiding Fn
open Ev tab
theorem contains_ok : EvP F 116 c116 [.vs 1 [[.it .i64 1]], .it .i64 1] [.bo true] := by
  obtain ⟨hp, h⟩ := EvD.kern (F := F) (d := bodyD c116 [.vs 1 [[.it .i64 1]], .it .i64 1] h0) (v := .bo true) 3000 100 (fun N M => by kernel_rfl)
  exact ⟨rfl, rfl, rfl, .bo true, hp, hp, h, .s (clo_bo _) (.nil _)⟩
theorem four_ok (hp : Hp) : EvC F false 67 [.it .i64 16001] hp (.ret (.vs 1 (bs [0, 0, 62, 129])) hp) := .kern 3000 100 fun N M => by kernel_rfl
attribute [local irreducible] EvP EvD EvL EvC evGds evLs C.run sK bK gK pK fK lpB stepD
abbrev part0 : List V := [.it .i64 0, .it .i64 1, .bo false, .bo false, .bo false, .vs 1 (bs []), .it .i64 0, .it .i64 0, .it .i64 0, .it .i64 0, .vs 2 []]
abbrev partData (b : List Int) : List V := [.it .i64 0, .it .i64 1, .bo false, .bo false, .bo false, .vs 1 (bs b), .it .i64 0, .it .i64 0, .it .i64 0, .it .i64 16001, .vs 2 []]
theorem part_cloV {a b c d e f : Int} {x y z : Bool} {p : List Int} : CloL [.one, .one, .one, .one, .one, .sl [.one], .one, .one, .one, .one, .sl [.one, .one]] [.it .i64 a, .it .i64 b, .bo x, .bo y, .bo z, .vs 1 (bs p), .it .i64 c, .it .i64 d, .it .i64 e, .it .i64 f, .vs 2 []] :=
  .cons (clo_it _ _) (.cons (clo_it _ _) (.cons (clo_bo _) (.cons (clo_bo _) (.cons (clo_bo _) (.cons (clo_vs [.one] _) (.cons (clo_it _ _) (.cons (clo_it _ _) (.cons (clo_it _ _) (.cons (clo_it _ _) (.cons (clo_vs [.one, .one] _) .nil))))))))))
theorem part_clo0 {a b c d e f : Int} {x y z : Bool} : CloL2 [.one, .one, .one, .one, .one, .sl [.one], .one, .one, .one, .one, .sl [.one, .one]] [.it .i64 a, .it .i64 b, .bo x, .bo y, .bo z, .ns, .it .i64 c, .it .i64 d, .it .i64 e, .it .i64 f, .ns] [.it .i64 a, .it .i64 b, .bo x, .bo y, .bo z, .vs 1 [], .it .i64 c, .it .i64 d, .it .i64 e, .it .i64 f, .vs 2 []] :=
  .cons (clo_it _ _) (.cons (clo_it _ _) (.cons (clo_bo _) (.cons (clo_bo _) (.cons (clo_bo _) (.cons (clo_ns [.one]) (.cons (clo_it _ _) (.cons (clo_it _ _) (.cons (clo_it _ _) (.cons (clo_it _ _) (.cons (clo_ns [.one, .one]) .nil))))))))))
set_option maxHeartbeats 8000000 in
theorem padded_ok (x : Int) (zs : List Int) (hx : 0 ≤ x ∧ x ≤ 255) (hz : zs.length = 16000) : EvP F 113 c113 [.ag (fr 0 8 1 (x :: zs))] [.it .i64 x, .vs 1 (bs zs), .bo true] := by
  have hl := bs_length (x :: zs)
  rw [List.length_cons, hz] at hl
  have hB := By.vs h0 (x :: zs)
  have hB1 := hB.slv (a := 1) (b := (x :: zs).length) (by simp) (Nat.le_refl _)
  unfold fr
  refine EvP.ofQ d113 rfl rfl rfl ?_
  have fin : ∀ (a : Int) (b : List (List V)), a = x → b = bs zs → PQ [.c .one, .c (.sl [.one]), .c .one] [.it .i64 x, .vs 1 (bs zs), .bo true] (Rt (.tu [.it .i64 a, .vs 1 b, .bo true]) h0) := by
    rintro _ _ rfl rfl
    exact PQ.of (.s (clo_it _ _) (.s (clo_vs [.one] _) (.s (clo_bo _) (.nil _))))
  repeat (first | refine EvQ.run ?_ | refine EvQ.fin X.rs ?_ | refine EvQ.fin1 (fun _ => rfl) rfl ?_)
  refine fin _ _ (wr64 (by omega) (by omega)) ?_
  show List.take ((bs (x :: zs)).length - 1) (List.drop 1 (bs (x :: zs))) = bs zs
  rw [hl]
  show List.take 16000 (bs zs) = bs zs
  exact List.take_of_length_le (by rw [bs_length]; omega)
set_option maxHeartbeats 8000000 in
theorem misplaced_data (fl : Int) (p : List Int) : EvP F 82 c82 [.ag (fr 0 fl 1 p)] [.bo false] := by
  unfold fr
  refine EvP.ofQ d82 rfl rfl rfl ?_
  repeat (first | refine EvQ.run ?_ | refine EvQ.fin X.rs ?_ | refine EvQ.fin1 (fun _ => rfl) rfl ?_)
  exact PQ.bo rfl
set_option maxHeartbeats 8000000 in
theorem take_ok (w n : Int) (h1 : 0 ≤ n) (h2 : n ≤ w) (h3 : w ≤ 2147483647) : EvP F 48 c48 [.ag [.it .i64 w], .it .i64 n] [.ag [.it .i64 (w - n)], .bo true] := by
  have c1 : ilt n 0 = false := by rw [ilt_eq]; exact decide_eq_false (by omega)
  have c2 : ilt w n = false := by rw [ilt_eq]; exact decide_eq_false (by omega)
  have e1 : wr .i64 (w - n) = w - n := wr64 (by omega) (by omega)
  refine EvP.ofQ d48 rfl rfl rfl ?_
  repeat (first | refine EvQ.run ?_ | refine EvQ.fin X.rs ?_ | refine EvQ.fin1 (fun _ => rfl) rfl ?_)
  have fin : ∀ (a : Int), a = w - n → PQ [.g [.one], .c .one] [.ag [.it .i64 (w - n)], .bo true] (Rt (.tu [.ag [.it .i64 a], .bo true]) h0) := by
    rintro _ rfl
    exact PQ.of (.gs (.cons (clo_it _ _) .nil) (.s (clo_bo _) (.nil _)))
  exact fin _ e1
set_option maxHeartbeats 8000000 in
theorem wwithin_ok (n : Int) (h1 : 0 ≤ n) (h2 : n ≤ 2147483647) : EvP F 58 c58 [.it .i64 n] [.bo true] := by
  have c1 : ilt n 0 = false := by rw [ilt_eq]; exact decide_eq_false (by omega)
  have c2 : ilt 2147483647 n = false := by rw [ilt_eq]; exact decide_eq_false (by omega)
  refine EvP.ofQ d58 rfl rfl rfl ?_
  repeat (first | refine EvQ.run ?_ | refine EvQ.fin X.rs ?_ | refine EvQ.fin1 (fun _ => rfl) rfl ?_)
  exact PQ.bo (by show (!ilt 2147483647 n) = true; rw [c2]; rfl)
set_option maxHeartbeats 8000000 in
theorem credit_ok (w n : Int) (h1 : 0 ≤ n) (h2 : n ≤ 100000) (h0' : 0 ≤ w) (h3 : w ≤ 65535) : EvP F 54 c54 [.ag [.it .i64 w], .it .i64 n] [.ag [.it .i64 (w + n)], .bo true] := by
  have e1 : wr .i64 (w + n) = w + n := wr64 (by omega) (by omega)
  have e2 : wr .i64 (2147483647 - w) = 2147483647 - w := wr64 (by omega) (by omega)
  have c1 : ilt (2147483647 - w) n = false := by rw [ilt_eq]; exact decide_eq_false (by omega)
  have hw := wwithin_ok n h1 (by omega)
  refine EvP.ofQ d54 rfl rfl rfl ?_
  have fin : ∀ (a : Int), a = w + n → PQ [.g [.one], .c .one] [.ag [.it .i64 (w + n)], .bo true] (Rt (.tu [.ag [.it .i64 a], .bo true]) h0) := by
    rintro _ rfl
    exact PQ.of (.gs (.cons (clo_it _ _) .nil) (.s (clo_bo _) (.nil _)))
  have c3 : ilt (wr .i64 (2147483647 - w)) n = false := by rw [e2]; exact c1
  repeat (first | refine EvQ.run ?_ | refine EvQ.lift (fun _ zn => X.pcall (hw) X.cq rfl X.al rfl zn) ?_ | refine EvQ.lift (fun _ zn => X.pcallG (hw) rfl X.cq rfl X.al rfl zn) ?_ | refine EvQ.lift (fun _ zn => X.pcallC (hw) rfl X.cq rfl X.al rfl zn) ?_ | refine EvQ.lift (fun _ zn => X.pcallT (hw) (by decide) X.cq rfl X.al rfl zn) ?_ | refine EvQ.lift (fun _ zn => X.call rfl X.al (hw) zn) ?_ | refine EvQ.fin X.rs ?_ | refine EvQ.fin1 (fun _ => rfl) rfl ?_)
  exact fin _ e1
set_option maxHeartbeats 16000000 in
theorem data_ok (xn : Nat) (zs : List Int) (hx : xn ≤ 255) (hz : zs.length = 16000) : EvP F 84 c84 [.ag (fr 0 8 1 (Int.ofNat xn :: zs)), .ag part0] [.ag (partData (zs.take (16000 - xn))), .ag [.it .i64 0, .it .i64 0, .it .i64 0]] := by
  have pd := padded_ok (Int.ofNat xn) zs (by simp only [Int.ofNat_eq_natCast]; omega) hz
  have clo := fr_clo 0 8 1 (Int.ofNat xn :: zs)
  have hl := bs_length (Int.ofNat xn :: zs)
  have hlz := bs_length zs
  rw [List.length_cons, hz] at hl
  rw [hz] at hlz
  have et : List.take ((Int.ofNat ((bs zs).length - xn)).toNat - 0) (List.drop 0 (bs zs)) = bs (zs.take (16000 - xn)) := by
    rw [hlz]
    show (bs zs).take (16000 - xn) = _
    rw [bs_take]
  have cp : EvP F 89 c89 [.vs 1 (List.take ((Int.ofNat ((bs zs).length - xn)).toNat - 0) (List.drop 0 (bs zs)))] [.vs 1 (bs (zs.take (16000 - xn)))] := by
    rw [et]; exact copied_ok _ (by rw [List.length_take]; omega)
  generalize zs.take (16000 - xn) = body at *
  have fin : ∀ (f : Int), f = 16001 → PQ d84.rs [.ag (partData body), .ag [.it .i64 0, .it .i64 0, .it .i64 0]] (Rt (.tu [.ag [.it .i64 0, .it .i64 1, .bo false, .bo false, .bo false, .vs 1 (bs body), .it .i64 0, .it .i64 0, .it .i64 0, .it .i64 f, .vs 2 []], .ag [.it .i64 0, .it .i64 0, .it .i64 0]]) h0) := by
    rintro _ rfl
    exact PQ.of (.gs part_cloV (.gs bad_clo (.nil _)))
  have pcl := part_cloV (a := 0) (b := 1) (c := 0) (d := 0) (e := 0) (f := 0) (x := false) (y := false) (z := false) (p := [])
  unfold fr at *
  refine EvP.ofQ d84 rfl rfl rfl ?_
  repeat (first | refine EvQ.run ?_ | refine EvQ.lift (fun _ zn => X.pcall (pd) X.cq rfl X.al rfl zn) ?_ | refine EvQ.lift (fun _ zn => X.pcallG (pd) rfl X.cq rfl X.al rfl zn) ?_ | refine EvQ.lift (fun _ zn => X.pcallC (pd) rfl X.cq rfl X.al rfl zn) ?_ | refine EvQ.lift (fun _ zn => X.pcallT (pd) (by decide) X.cq rfl X.al rfl zn) ?_ | refine EvQ.lift (fun _ zn => X.call rfl X.al (pd) zn) ?_ | refine EvQ.lift (fun _ zn => X.pcall (cp) X.cq rfl X.al rfl zn) ?_ | refine EvQ.lift (fun _ zn => X.pcallG (cp) rfl X.cq rfl X.al rfl zn) ?_ | refine EvQ.lift (fun _ zn => X.pcallC (cp) rfl X.cq rfl X.al rfl zn) ?_ | refine EvQ.lift (fun _ zn => X.pcallT (cp) (by decide) X.cq rfl X.al rfl zn) ?_ | refine EvQ.lift (fun _ zn => X.call rfl X.al (cp) zn) ?_ | refine EvQ.fin X.rs ?_ | refine EvQ.fin1 (fun _ => rfl) rfl ?_)
  refine fin2 (fun _ => rfl) rfl rfl ?_
  exact fin _ (by rw [hl]; rfl)
abbrev part1 : List V := [.it .i64 0, .it .i64 1, .bo false, .bo false, .bo false, .ns, .it .i64 0, .it .i64 0, .it .i64 0, .it .i64 0, .ns]
set_option maxHeartbeats 16000000 in
theorem shape_data (xn : Nat) (zs : List Int) (hx : xn ≤ 255) (hz : zs.length = 16000) : EvP F 64 c64 [.ag (fr 0 8 1 (Int.ofNat xn :: zs))] [.ag (partData (zs.take (16000 - xn))), .ag [.it .i64 0, .it .i64 0, .it .i64 0]] := by
  have hr := right_ok 0 8 1 (Int.ofNat xn :: zs)
  have hrb : rightB 0 8 1 (Int.ofNat xn :: zs).length = true := by unfold rightB; rw [List.length_cons, hz]; rfl
  rw [hrb] at hr
  have hm := misplaced_data 8 (Int.ofNat xn :: zs)
  have hd := data_ok xn zs hx hz
  have clo := fr_clo 0 8 1 (Int.ofNat xn :: zs)
  generalize zs.take (16000 - xn) = body at *
  generalize Int.ofNat xn :: zs = p at *
  have fin : PQ d64.rs [.ag (partData body), .ag [.it .i64 0, .it .i64 0, .it .i64 0]] (Rt (.tu [.ag [.it .i64 0, .it .i64 1, .bo false, .bo false, .bo false, .vs 1 (bs body), .it .i64 0, .it .i64 0, .it .i64 0, .it .i64 16001, .vs 2 []], .ag [.it .i64 0, .it .i64 0, .it .i64 0]]) h0) :=
    PQ.of (.gs part_cloV (.gs bad_clo (.nil _)))
  have hcl : ClP c84.ps [.ag (fr 0 8 1 p), .ag part1] h0 [.ag (fr 0 8 1 p), .ag part0] h0 := .gs clo (.g (closeCs_clo2 (part_clo0 (a := 0) (b := 1) (c := 0) (d := 0) (e := 0) (f := 0) (x := false) (y := false) (z := false)) _ _ (by decide)) (.nil _))
  unfold fr at *
  refine EvP.ofQ d64 rfl rfl rfl ?_
  repeat (first | refine EvQ.run ?_ | refine EvQ.lift (fun _ zn => X.pcall (hr) X.cq rfl X.al rfl zn) ?_ | refine EvQ.lift (fun _ zn => X.pcallG (hr) rfl X.cq rfl X.al rfl zn) ?_ | refine EvQ.lift (fun _ zn => X.pcallC (hr) rfl X.cq rfl X.al rfl zn) ?_ | refine EvQ.lift (fun _ zn => X.pcallT (hr) (by decide) X.cq rfl X.al rfl zn) ?_ | refine EvQ.lift (fun _ zn => X.call rfl X.al (hr) zn) ?_ | refine EvQ.lift (fun _ zn => X.pcall (hm) X.cq rfl X.al rfl zn) ?_ | refine EvQ.lift (fun _ zn => X.pcallG (hm) rfl X.cq rfl X.al rfl zn) ?_ | refine EvQ.lift (fun _ zn => X.pcallC (hm) rfl X.cq rfl X.al rfl zn) ?_ | refine EvQ.lift (fun _ zn => X.pcallT (hm) (by decide) X.cq rfl X.al rfl zn) ?_ | refine EvQ.lift (fun _ zn => X.call rfl X.al (hm) zn) ?_ | refine EvQ.fin X.rs ?_ | refine EvQ.fin1 (fun _ => rfl) rfl ?_)
  refine EvQ.lift (fun _ zn => X.pcall hd hcl rfl X.al rfl zn) ?_
  repeat (first | refine EvQ.run ?_ | refine EvQ.fin X.rs ?_ | refine EvQ.fin1 (fun _ => rfl) rfl ?_)
  refine fin2 (fun _ => rfl) rfl rfl ?_
  exact fin
end Go.Proofs.YtpncefcicfhibaaGreatDoor.back
