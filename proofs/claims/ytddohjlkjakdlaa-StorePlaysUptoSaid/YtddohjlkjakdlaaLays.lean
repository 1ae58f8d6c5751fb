import Derived.Test.YtddohjlkjakdlaaGl
import Derived.Test.YtddohjlkjakdlaaEvF
import Derived.Test.YtddohjlkjakdlaaRows
import Derived.Test.YtddohjlkjakdlaaProg
import Derived.KernelRfl
set_option linter.unusedVariables false
set_option linter.unusedSimpArgs false
set_option linter.unusedSectionVars false
/- strings.Join at this seat's program: what the shelf's contract asks of it -/
namespace Go.Proofs.Ytddohjlkjakdlaa
open Go hiding Fn
open Ev
def ren156 : Go.Shelf.Ren := ⟨fun | 156 => 67 | 165 => 73 | 166 => 74 | 169 => 75 | 240 => 78 | 241 => 79 | 276 => 81 | 277 => 82 | n => n, fun | 31 => 38 | 9 => 9 | 3 => 3 | 4 => 4 | 0 => 0 | 20 => 20 | 72 => 94 | 76 => 97 | 70 => 92 | 37 => 45 | 75 => 96 | 127 => 102 | 164 => 103 | 5 => 5 | 80 => 99 | n => n, fun n => n⟩
theorem lays156 : Go.Proofs.Lays.n156 Try.prog ren156 := {
  mixed := (by kernel_rfl),
  f156 := Try.func67.trans (congrArg some (by kernel_rfl)),
  f165 := Try.func73.trans (congrArg some (by kernel_rfl)),
  f166 := Try.func74.trans (congrArg some (by kernel_rfl)),
  f169 := Try.func75.trans (congrArg some (by kernel_rfl)),
  f240 := Try.func78.trans (congrArg some (by kernel_rfl)),
  f241 := Try.func79.trans (congrArg some (by kernel_rfl)),
  f276 := Try.func81.trans (congrArg some (by kernel_rfl)),
  f277 := Try.func82.trans (congrArg some (by kernel_rfl)),
  t0 := Try.underlying0,
  a0 := Try.isAgg0,
  z0 := Try.sizeOf0,
  v0 := Try.zeroValue0,
  t3 := Try.underlying3,
  a3 := Try.isAgg3,
  z3 := Try.sizeOf3,
  v3 := Try.zeroValue3,
  t4 := Try.underlying4,
  a4 := Try.isAgg4,
  z4 := Try.sizeOf4,
  v4 := Try.zeroValue4,
  t9 := Try.underlying9,
  a9 := Try.isAgg9,
  z9 := Try.sizeOf9,
  v9 := Try.zeroValue9,
  t20 := Try.underlying20,
  a20 := Try.isAgg20,
  z20 := Try.sizeOf20,
  v20 := Try.zeroValue20,
  t31 := Try.underlying38,
  a31 := Try.isAgg38,
  z31 := Try.sizeOf38,
  v31 := Try.zeroValue38,
  t37 := Try.underlying45,
  a37 := Try.isAgg45,
  z37 := Try.sizeOf45,
  v37 := Try.zeroValue45,
  t70 := Try.underlying92,
  a70 := Try.isAgg92,
  z70 := Try.sizeOf92,
  v70 := Try.zeroValue92,
  t72 := Try.underlying94,
  a72 := Try.isAgg94,
  z72 := Try.sizeOf94,
  v72 := Try.zeroValue94,
  t75 := Try.underlying96,
  a75 := Try.isAgg96,
  z75 := Try.sizeOf96,
  v75 := Try.zeroValue96,
  t76 := Try.underlying97,
  a76 := Try.isAgg97,
  z76 := Try.sizeOf97,
  v76 := Try.zeroValue97,
  t127 := Try.underlying102,
  a127 := Try.isAgg102,
  z127 := Try.sizeOf102,
  v127 := Try.zeroValue102,
  t164 := Try.underlying103,
  a164 := Try.isAgg103,
  z164 := Try.sizeOf103,
  v164 := Try.zeroValue103 }
theorem extra156 : Go.Proofs.Builder.Extra Try.prog ren156 := {
  sizeBuilder := (by kernel_rfl),
  liesBuilder := (by kernel_rfl),
  t5 := Try.underlying5,
  a5 := Try.isAgg5,
  z5 := Try.sizeOf5,
  v5 := Try.zeroValue5,
  infoByte := (by kernel_rfl),
  cellsByte := (by kernel_rfl),
  sizeByte := (by kernel_rfl),
  neB5 := (by decide) }
theorem join_run (call : Ev.Call) (L : Nat) : RunOK Try.prog call L 67 joinFn := join_ok lays156 extra156 rfl ⟨_, Try.func67, by decide +kernel, by kernel_rfl⟩ call L
end Go.Proofs.Ytddohjlkjakdlaa
