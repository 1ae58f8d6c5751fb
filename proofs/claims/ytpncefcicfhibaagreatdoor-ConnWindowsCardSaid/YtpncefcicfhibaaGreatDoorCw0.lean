import Derived.Test.YtpncefcicfhibaaGreatDoorEvE
import Derived.Test.YtpncefcicfhibaaGreatDoorTabx2
set_option linter.unusedVariables false
set_option linter.unusedSimpArgs false
set_option linter.unusedSectionVars false
set_option linter.unusedVariables false
-- ConnWindows: its beginning, by the kernel; what is asked of unknown numbers is written down
namespace Go.Proofs.YtpncefcicfhibaaGreatDoor.win
open Go hiding Fn
open Ev tab
def crHp : CR → Hp
  | .ret _ h => h
  | _ => h0
def crV : CR → V
  | .ret v _ => v
  | _ => .un
/-- setting.Value, window.New -/
def orc (f : Nat) : Option (List V → V) := bif Nat.beq f 115 then some (fun _ => .it .i64 0) else bif Nat.beq f 37 then some (fun xs => match xs with | v :: _ => .tu [.ag [v], .it .i64 0] | [] => .un) else none
abbrev vOwn : V := .ag [.it .i64 2, .it .i64 65535, .it .i64 65536]
theorem own_ok : EvP F 11 c11 [] [vOwn] := by
  obtain ⟨hp, h⟩ := EvD.kern (F := F) (d := bodyD c11 [] h0) (v := vOwn) 300 30 (fun N M => by kernel_rfl)
  exact ⟨rfl, rfl, rfl, vOwn, hp, hp, h, .gs (.cons (clo_it _ _) (.cons (clo_it _ _) (.cons (clo_it _ _) .nil))) (.nil _)⟩
def hA : Hp := crHp (callF F 3000 60 false 23 [vOwn] h0)
theorem begun_ok : EvC F false 23 [vOwn] h0 (.ret (.pt 0 0 0) hA) := .kern 3000 60 fun N M => by kernel_rfl
/-- and a block beside -/
def hA2 (z : List (List V)) : Hp := hnew hA ⟨1, false, z⟩
abbrev setL (x y : Int) : List Int := [0, 0, 6, 4, 0, 0, 0, 0, 0, 0, 4, 0, 0, x, y]
def oS (x y : Int) (z : List (List V)) : CR × Lg := callO F orc 3000 60 false 17 [.pt 0 0 0, .vs 1 (bs (setL x y))] (hA2 z) []
def hB (x y : Int) (z : List (List V)) : Hp := crHp (oS x y z).1
def numE (a b c d : Int) : Int := orI (orI (orI (wr .i64 (wr .i64 a * Int.ofNat 16777216)) (wr .i64 (wr .i64 b * Int.ofNat 65536))) (wr .i64 (wr .i64 c * Int.ofNat 256))) (wr .i64 d)
theorem oS_eq (x y : Int) (z : List (List V)) : oS x y z = (.ret .ns (hB x y z), [(115, [.ag [.it .i64 4, .it .i64 (numE 0 0 x y)]]), (115, [.ag [.it .i64 4, .it .i64 (numE 0 0 x y)]])]) := by kernel_rfl
def numOf : V → Int
  | .it _ n => n
  | _ => 0
def rowOf (h : Hp) (i : Nat) : List V := match hget h i with
  | some b => b.es.headD []
  | none => []
def pwE (x y : Int) (z : List (List V)) : Int := numOf ((rowOf (hB x y z) 0).getD 6 .un)
abbrev headL : List Int := [0, 0, 1, 1, 5, 0, 0, 0, 1, 130]
def oH (x y : Int) (z : List (List V)) : CR × Lg := callO F orc 3000 60 false 17 [.pt 0 0 0, .vs 1 (bs headL)] (hB x y z) []
def hC (x y : Int) (z : List (List V)) : Hp := crHp (oH x y z).1
def vC (x y : Int) (z : List (List V)) : V := crV (oH x y z).1
theorem oH_eq (x y : Int) (z : List (List V)) : oH x y z = (.ret (vC x y z) (hC x y z), [(37, [.it .i64 65535]), (37, [.it .i64 (pwE x y z)])]) := by kernel_rfl
abbrev rowsV : V := .vs 3 [[.st [58, 115, 116, 97, 116, 117, 115], .st [50, 48, 48], .it .i64 1]]
def oD (x y : Int) (z : List (List V)) : CR × Lg := callO F orc 3000 60 false 18 [.pt 0 0 0, .it .i64 1, rowsV, .bo false] (hC x y z) []
def hD (x y : Int) (z : List (List V)) : Hp := crHp (oD x y z).1
theorem oD_eq (x y : Int) (z : List (List V)) : oD x y z = (.ret (.bo true) (hD x y z), []) := by kernel_rfl
theorem cr_ok (hp : Hp) : EvC F false 3 [] hp (.ret (.bo true) hp) := .kern 3000 60 fun N M => by kernel_rfl
end Go.Proofs.YtpncefcicfhibaaGreatDoor.win
