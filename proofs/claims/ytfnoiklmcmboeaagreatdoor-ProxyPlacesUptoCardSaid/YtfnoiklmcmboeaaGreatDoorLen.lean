import Derived.Test.YtfnoiklmcmboeaaGreatDoorTabx3
import Derived.Test.YtfnoiklmcmboeaaGreatDoorEvE
set_option linter.unusedVariables false
set_option linter.unusedSimpArgs false
set_option linter.unusedSectionVars false
/- api.Length: the literal is made once -/
namespace Go.Proofs.YtfnoiklmcmboeaaGreatDoor.tab
open Go hiding Fn
open Ev
abbrev iN (n : Nat) : V := .it .i64 (.ofNat n)
abbrev uN (n : Nat) : V := .it .u8 (.ofNat n)
def lens : List V := [iN 13, iN 23, iN 28, iN 28, iN 28, iN 28, iN 28, iN 28, iN 28, iN 24, iN 30, iN 28, iN 28, iN 30, iN 28, iN 28, iN 28, iN 28, iN 28, iN 28, iN 28, iN 28, iN 30, iN 28, iN 28, iN 28, iN 28, iN 28, iN 28, iN 28, iN 28, iN 28, iN 6, iN 10, iN 10, iN 12, iN 13, iN 6, iN 8, iN 11, iN 10, iN 10, iN 8, iN 11, iN 8, iN 6, iN 6, iN 6, iN 5, iN 5, iN 5, iN 6, iN 6, iN 6, iN 6, iN 6, iN 6, iN 6, iN 7, iN 8, iN 15, iN 6, iN 12, iN 10, iN 13, iN 6, iN 7, iN 7, iN 7, iN 7, iN 7, iN 7, iN 7, iN 7, iN 7, iN 7, iN 7, iN 7, iN 7, iN 7, iN 7, iN 7, iN 7, iN 7, iN 7, iN 7, iN 7, iN 7, iN 8, iN 7, iN 8, iN 13, iN 19, iN 13, iN 14, iN 6, iN 15, iN 5, iN 6, iN 5, iN 6, iN 5, iN 6, iN 6, iN 6, iN 5, iN 7, iN 7, iN 6, iN 6, iN 6, iN 5, iN 6, iN 7, iN 6, iN 5, iN 5, iN 6, iN 7, iN 7, iN 7, iN 7, iN 7, iN 15, iN 11, iN 14, iN 13, iN 28, iN 20, iN 22, iN 20, iN 20, iN 22, iN 22, iN 22, iN 23, iN 22, iN 23, iN 23, iN 23, iN 23, iN 23, iN 24, iN 23, iN 24, iN 24, iN 22, iN 23, iN 24, iN 23, iN 23, iN 23, iN 23, iN 21, iN 22, iN 23, iN 22, iN 23, iN 23, iN 24, iN 22, iN 21, iN 20, iN 22, iN 22, iN 23, iN 23, iN 21, iN 23, iN 22, iN 22, iN 24, iN 21, iN 22, iN 23, iN 23, iN 21, iN 21, iN 22, iN 21, iN 23, iN 22, iN 23, iN 23, iN 20, iN 22, iN 22, iN 22, iN 23, iN 22, iN 22, iN 23, iN 26, iN 26, iN 20, iN 19, iN 22, iN 23, iN 22, iN 25, iN 26, iN 26, iN 26, iN 27, iN 27, iN 26, iN 24, iN 25, iN 19, iN 21, iN 26, iN 27, iN 27, iN 26, iN 27, iN 24, iN 21, iN 21, iN 26, iN 26, iN 28, iN 27, iN 27, iN 27, iN 20, iN 24, iN 20, iN 21, iN 22, iN 21, iN 21, iN 23, iN 22, iN 22, iN 25, iN 25, iN 24, iN 24, iN 26, iN 23, iN 26, iN 27, iN 26, iN 26, iN 27, iN 27, iN 27, iN 27, iN 27, iN 28, iN 27, iN 27, iN 27, iN 27, iN 27, iN 26, iN 30]
def d296g (i : I) : DFn := ⟨[(.c .one)], [(.c .one)], .pure, [.tmp 2],
(s [mK 2 (.it .i64 0)]
(s [o 4 i, o 3 (.alc (List.replicate 257 (.it .i64 0))), sO 257 3 4]
(.seq (s [mV 5 0, o 6 (b .lss (t 5) (k 0)), mV 7 6, x 8 7 (.mov (t 0)), x 9 7 (b .geq (t 8) (k 257)), o 10 (.pick (t 7) (.k (.bo true)) (t 9))]
(.cond (t 10)
(s [mK 2 (.it .i64 0)]
.ret)
.skip))
(.seq (.reg false [
mV 11 0, o 12 (.iaa 257 1 (t 3) (t 11)), lD 13 1 12, mV 2 13] [12])
.ret))))⟩
def lps : List (Nat × Nat × A) := lens.zipIdx.map fun (v, j) => (j, 1, .k v)
theorem lens_den : I.den (.bld (List.replicate 257 (.it .i64 0)) lps) = I.den (.mov (.k (.ag lens))) :=
 bld_den (qs := lens.zipIdx.map fun (v, j) => (j, 1, v)) (by kernel_rfl) (by kernel_rfl)
theorem e296 : d296.den = (d296g (.mov (.k (.ag lens)))).den := by
 rw [show d296 = d296g (.bld (List.replicate 257 (.it .i64 0)) lps) by kernel_rfl]
 have key : ∀ a b : I, a.den = b.den -> (d296g a).den = (d296g b).den := fun a b h => by
  show Ev.Fn.mk _ _ _ _ (cSeq _ (cSeq (cReg false [⟨none, [⟨some 4, _, a.den⟩, _, _]⟩] _) _)) = Ev.Fn.mk _ _ _ _ (cSeq _ (cSeq (cReg false [⟨none, [⟨some 4, _, b.den⟩, _, _]⟩] _) _))
  rw [h]; rfl
 exact key _ _ lens_den
def c296f : Ev.Fn := (d296g (.mov (.k (.ag lens)))).den
theorem r296f : FnOK Tryz.prog mds 296 c296f := by
 have h : c296f = c296 := e296.symm
 rw [h]; exact r296
def F0 : Nat -> Option Ev.Fn := fun i => bif Nat.beq i 296 then some c296f else F i
theorem table0 : Table Tryz.prog F0 mds := Table.put table r296f
end Go.Proofs.YtfnoiklmcmboeaaGreatDoor.tab
