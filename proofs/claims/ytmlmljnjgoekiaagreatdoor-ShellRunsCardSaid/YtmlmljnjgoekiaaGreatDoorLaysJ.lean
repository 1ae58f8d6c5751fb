import Derived.Test.YtmlmljnjgoekiaaGreatDoorEvF
import Derived.Test.YtmlmljnjgoekiaaGreatDoorGl
import Derived.Test.YtmlmljnjgoekiaaGreatDoorRows
import Derived.Test.YtmlmljnjgoekiaaGreatDoorProg
import Derived.KernelRfl
set_option linter.unusedVariables false
set_option linter.unusedSimpArgs false
set_option linter.unusedSectionVars false
/- strings.Join at this seat's program: what the shelf's contract asks of it -/
namespace Go.Proofs.YtmlmljnjgoekiaaGreatDoor
open Go hiding Fn
open Ev
def ren156 : Go.Shelf.Ren := ⟨fun | 156 => 18 | 165 => 37 | 166 => 26 | 169 => 30 | 240 => 59 | 241 => 65 | 276 => 85 | 277 => 92 | n => n, fun | 31 => 47 | 9 => 9 | 3 => 3 | 4 => 4 | 0 => 0 | 20 => 20 | 72 => 73 | 76 => 79 | 70 => 70 | 37 => 71 | 75 => 78 | 127 => 132 | 164 => 162 | 5 => 5 | 80 => 89 | n => n, fun n => n⟩
theorem lays156 : Go.Proofs.Lays.n156 Tryz.prog ren156 := {
  mixed := (by kernel_rfl),
  f156 := Tryz.func18.trans (congrArg some (by kernel_rfl)),
  f165 := Tryz.func37.trans (congrArg some (by kernel_rfl)),
  f166 := Tryz.func26.trans (congrArg some (by kernel_rfl)),
  f169 := Tryz.func30.trans (congrArg some (by kernel_rfl)),
  f240 := Tryz.func59.trans (congrArg some (by kernel_rfl)),
  f241 := Tryz.func65.trans (congrArg some (by kernel_rfl)),
  f276 := Tryz.func85.trans (congrArg some (by kernel_rfl)),
  f277 := Tryz.func92.trans (congrArg some (by kernel_rfl)),
  t0 := Tryz.underlying0,
  a0 := Tryz.isAgg0,
  z0 := Tryz.sizeOf0,
  v0 := Tryz.zeroValue0,
  t3 := Tryz.underlying3,
  a3 := Tryz.isAgg3,
  z3 := Tryz.sizeOf3,
  v3 := Tryz.zeroValue3,
  t4 := Tryz.underlying4,
  a4 := Tryz.isAgg4,
  z4 := Tryz.sizeOf4,
  v4 := Tryz.zeroValue4,
  t9 := Tryz.underlying9,
  a9 := Tryz.isAgg9,
  z9 := Tryz.sizeOf9,
  v9 := Tryz.zeroValue9,
  t20 := Tryz.underlying20,
  a20 := Tryz.isAgg20,
  z20 := Tryz.sizeOf20,
  v20 := Tryz.zeroValue20,
  t31 := Tryz.underlying47,
  a31 := Tryz.isAgg47,
  z31 := Tryz.sizeOf47,
  v31 := Tryz.zeroValue47,
  t37 := Tryz.underlying71,
  a37 := Tryz.isAgg71,
  z37 := Tryz.sizeOf71,
  v37 := Tryz.zeroValue71,
  t70 := Tryz.underlying70,
  a70 := Tryz.isAgg70,
  z70 := Tryz.sizeOf70,
  v70 := Tryz.zeroValue70,
  t72 := Tryz.underlying73,
  a72 := Tryz.isAgg73,
  z72 := Tryz.sizeOf73,
  v72 := Tryz.zeroValue73,
  t75 := Tryz.underlying78,
  a75 := Tryz.isAgg78,
  z75 := Tryz.sizeOf78,
  v75 := Tryz.zeroValue78,
  t76 := Tryz.underlying79,
  a76 := Tryz.isAgg79,
  z76 := Tryz.sizeOf79,
  v76 := Tryz.zeroValue79,
  t127 := Tryz.underlying132,
  a127 := Tryz.isAgg132,
  z127 := Tryz.sizeOf132,
  v127 := Tryz.zeroValue132,
  t164 := Tryz.underlying162,
  a164 := Tryz.isAgg162,
  z164 := Tryz.sizeOf162,
  v164 := Tryz.zeroValue162 }
theorem extra156 : Go.Proofs.Builder.Extra Tryz.prog ren156 := {
  sizeBuilder := (by kernel_rfl),
  liesBuilder := (by kernel_rfl),
  t5 := Tryz.underlying5,
  a5 := Tryz.isAgg5,
  z5 := Tryz.sizeOf5,
  v5 := Tryz.zeroValue5,
  infoByte := (by kernel_rfl),
  cellsByte := (by kernel_rfl),
  sizeByte := (by kernel_rfl),
  neB5 := (by decide) }
theorem join_run (call : Ev.Call) (L : Nat) : RunOK Tryz.prog call L 18 joinFn := join_ok lays156 extra156 rfl ⟨_, Tryz.func18, by decide +kernel, by kernel_rfl⟩ call L
end Go.Proofs.YtmlmljnjgoekiaaGreatDoor
