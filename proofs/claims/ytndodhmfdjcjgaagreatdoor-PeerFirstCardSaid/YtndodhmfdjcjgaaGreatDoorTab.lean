import Derived.Test.YtndodhmfdjcjgaaGreatDoorHand
import Derived.Test.YtndodhmfdjcjgaaGreatDoorRows
import Derived.KernelRfl
set_option linter.unusedVariables false
set_option linter.unusedSimpArgs false
set_option linter.unusedSectionVars false
/- the functions of the seat, read off the program -/
namespace Go.Proofs.YtndodhmfdjcjgaaGreatDoor.tab
open Go hiding Fn
open Ev
abbrev mV (d s : Nat) : DOp := ⟨some d, none, [], .mov (.t s)⟩
abbrev fA (d o s : Nat) : DOp := ⟨some d, none, [], .fad o (.t s)⟩
abbrev lD (d n s : Nat) : DOp := ⟨some d, none, [], .ld n false (.t s)⟩
abbrev lQ (d n s : Nat) : DOp := ⟨some d, none, [], .ld n true (.t s)⟩
abbrev nK (d s : Nat) : DOp := ⟨some d, none, [], .nck (.t s)⟩
abbrev sO (n a s : Nat) : DOp := ⟨none, none, [], .sto n (.t a) (.t s)⟩
abbrev eX (d s i : Nat) : DOp := ⟨some d, none, [], .ext (.t s) i⟩
abbrev mK (d : Nat) (v : V) : DOp := ⟨some d, none, [], .mov (.k v)⟩
abbrev cR (d f : Nat) (l : List A) : DOp := ⟨some d, none, [], .call false .rw f l⟩
abbrev cP (d f : Nat) (l : List A) : DOp := ⟨some d, none, [], .call false .pure f l⟩
abbrev lN (d : Nat) (q : Bool) (s : Nat) : DOp := ⟨some d, none, [], .len q (.t s)⟩
abbrev cV (d : Nat) (k : IntKind) (s : Nat) : DOp := ⟨some d, none, [], .cnv (.int k) (.t s)⟩
def mdl : List Md := [.pure, .pure, .pure, .pure, .pure, .pure, .pure, .pure, .pure, .pure, .pure, .rw, .rw, .rw, .rw, .rw, .pure, .pure, .pure, .pure, .rw, .rw, .pure, .rw, .rw, .rw, .pure, .rw, .rw, .rw, .pure, .pure, .pure, .pure, .rw, .rw, .rw, .rw, .rw, .rw, .pure, .pure, .pure, .pure, .pure, .pure, .pure, .rw, .pure, .pure, .pure, .pure, .pure, .pure, .rw, .rw, .pure, .pure, .pure, .pure, .pure, .pure, .pure, .rw, .rw, .rw, .pure, .pure, .pure, .pure, .pure, .rw, .rw, .rw, .rw, .rw, .rw, .rw, .pure, .pure, .pure, .pure, .pure, .pure, .pure, .pure, .rw, .rw, .pure, .rw, .rw, .rw, .rw, .pure, .pure, .pure, .rw, .pure, .pure, .pure, .pure, .rw, .rw, .pure, .pure, .pure, .pure, .pure, .pure, .pure, .pure, .pure, .pure, .pure, .rw, .rw, .rw, .rw, .rw, .rw, .rw, .rw, .rw, .rw, .pure, .pure, .pure, .pure, .pure, .pure]
def mds (n : Nat) : Md := mdl.getD n .rw
abbrev OK (n : Nat) (c : Ev.Fn) : Prop := FnOK Tryz.prog mds n c
theorem rd {n : Nat} {gf : Func} {c : Ev.Fn} (d : DFn) (pol : Pol) (h1 : Tryz.prog.funcs[n]? = some gf) (h2 : (gf.name == "runtime.NumGoroutine") = false := by kernel_rfl) (h3 : cFn Tryz.prog pol gf = some d := by kernel_rfl) (h6 : d.den = c := by exact rfl) (h4 : pol.mds = mds := by exact rfl) (h5 : c.md = mds n := by kernel_rfl) : OK n c := .read h1 h2 h3 h6 h4 h5
def d3 : DFn := ⟨[(.c .one), (.g [.one, .one, .one, (.sl [.one])])], [(.c .one)], .pure, [.tmp 4],
(.seq (.reg false [
⟨some 3, none, [], .box (.t 1)⟩, mK 4 (.bo false)] [])
(.seq (.seq (.reg false [
fA 10 3 3, lD 11 1 10, lN 12 false 11, ⟨some 13, none, [], .bin .no .gtr (.t 12) (.k (.it .i64 500))⟩] [10])
(.cond (.t 13)
(.seq (.reg false [
cP 14 4 [], mV 4 14] [])
.ret)
.skip))
(.seq (.reg false [
lQ 15 4 3, cP 16 5 [(.k .ns), (.t 15)], mV 5 16] [])
(.seq (.seq (.reg false [
mV 17 0, ⟨some 18, none, [], .un .not (.t 17)⟩] [])
(.cond (.t 18)
(.reg false [
⟨some 19, none, [], .bsl 1 (List.replicate 24 [(.it .u8 0)]) [(0, (.k (.it .u8 80))), (1, (.k (.it .u8 82))), (2, (.k (.it .u8 73))), (3, (.k (.it .u8 32))), (4, (.k (.it .u8 42))), (5, (.k (.it .u8 32))), (6, (.k (.it .u8 72))), (7, (.k (.it .u8 84))), (8, (.k (.it .u8 84))), (9, (.k (.it .u8 80))), (10, (.k (.it .u8 47))), (11, (.k (.it .u8 50))), (12, (.k (.it .u8 46))), (13, (.k (.it .u8 48))), (14, (.k (.it .u8 13))), (15, (.k (.it .u8 10))), (16, (.k (.it .u8 13))), (17, (.k (.it .u8 10))), (18, (.k (.it .u8 83))), (19, (.k (.it .u8 77))), (20, (.k (.it .u8 13))), (21, (.k (.it .u8 10))), (22, (.k (.it .u8 13))), (23, (.k (.it .u8 10)))]⟩, ⟨some 20, none, [], .mrk (.t 19)⟩, mV 21 5, ⟨some 22, none, [], .app 1 1 (.t 20) (.t 21)⟩, mV 5 22] [])
.skip))
(.seq (.reg false [
mV 23 0, mV 24 5, ⟨some 25, none, [], .bld [(.bo false), .ns] [(0, 1, (.k (.bo true))), (1, 1, (.t 24))]⟩, ⟨some 26, none, [], .bsl 2 [[(.bo false), .ns]] [(0, (.t 25))]⟩, cP 27 6 [(.t 23), (.t 26)], mV 6 27] [])
(.seq (.reg false [
lQ 28 4 3, cP 29 7 [(.t 28)], mV 30 29, ⟨some 31, some (30, true), [], .fad 0 (.t 3)⟩, ⟨some 32, some (30, true), [], .ld 1 false (.t 31)⟩, ⟨some 33, some (30, true), [], .bin .no .eql (.t 32) (.k (.it .i64 4))⟩, ⟨some 34, none, [], .pick (.t 30) (.t 33) (.k (.bo false))⟩, mV 35 34, ⟨some 36, some (35, true), [], .fad 1 (.t 3)⟩, ⟨some 37, some (35, true), [], .ld 1 false (.t 36)⟩, ⟨some 38, some (35, true), [], .bin .no .and (.t 37) (.k (.it .i64 1))⟩, ⟨some 39, some (35, true), [], .bin .no .eql (.t 38) (.k (.it .i64 0))⟩, ⟨some 40, none, [], .pick (.t 35) (.t 39) (.k (.bo false))⟩, mV 7 40] [31, 36])
(.seq (.reg false [
lQ 42 4 3, cP 43 8 [(.t 42)], mV 41 43, eX 44 41 0, eX 45 41 1, ⟨some 8, none, [], .alc [(.it .i64 0), (.it .i64 0), (.bo false), (.bo false), (.bo false), .ns, (.it .i64 0), (.it .i64 0), (.it .i64 0), (.it .i64 0), .ns]⟩, ⟨some 9, none, [], .alc [(.it .i64 0), (.it .i64 0), (.it .i64 0)]⟩, sO 11 8 44, sO 3 9 45] [])
(.seq (.seq (.reg false [
lQ 46 4 3, cP 47 7 [(.t 46)], ⟨some 48, none, [], .un .not (.t 47)⟩] [])
(.cond (.t 48)
(.seq (.reg false [
mV 49 6, ⟨some 50, none, [], .bin .no .eql (.t 49) (.k (.it .i64 (-1)))⟩, mV 51 50, ⟨some 52, some (51, true), [], .call false .pure 4 []⟩, ⟨some 53, none, [], .pick (.t 51) (.t 52) (.k (.bo false))⟩, mV 4 53] [])
.ret)
.skip))
(.seq (.reg false [
mV 54 6, ⟨some 55, none, [], .bin .no .eql (.t 54) (.k (.it .i64 (-1)))⟩, mV 56 7, mV 57 56, ⟨some 58, some (57, true), [], .ld 3 true (.t 9)⟩, ⟨some 59, some (57, true), [], .bld [(.it .i64 0), (.it .i64 0), (.it .i64 0)] []⟩, ⟨some 60, some (57, true), [], .bin (.ag [0, 0, 0]) .eql (.t 58) (.t 59)⟩, ⟨some 61, none, [], .pick (.t 57) (.t 60) (.k (.bo false))⟩, ⟨some 62, none, [], .bin .bo .eql (.t 55) (.t 61)⟩, mV 63 62, ⟨some 64, some (63, true), [], .call false .pure 4 []⟩, ⟨some 65, none, [], .pick (.t 63) (.t 64) (.k (.bo false))⟩, mV 4 65] [])
.ret)))))))))⟩
def c3 : Ev.Fn := d3.den
theorem r3 : OK 3 c3 := rd d3 { loc := [3, 8, 9], md := .pure, mds := mds, heap := [19, 20, 26], own := [19, 20], ord := [(0, [1, 0]), (5, [2, 0, 1, 3, 4]), (8, [0, 5, 6, 1, 2, 3, 4, 7, 8])], clr := [(1, [10]), (7, [31, 36])], mask := [], fns := [], lcl := [], hnd := [], pro := [] } Tryz.func3
def d4 : DFn := ⟨[], [(.c .one)], .pure, [.tmp 0],
(.seq (.reg false [
mK 0 (.bo false)] [])
(.seq (.reg false [
⟨some 9, none, [], .bld [(.it .i64 0), (.it .i64 0), (.it .i64 0), .ns] [(0, 1, (.k (.it .i64 4)))]⟩, ⟨some 1, none, [], .alc [(.it .i64 0), (.it .i64 0), (.it .i64 0), .ns]⟩, sO 4 1 9] [])
(.seq (.reg false [
lQ 10 4 1, ⟨some 11, none, [], .bsl 4 [[(.it .i64 0), (.it .i64 0), (.it .i64 0), .ns]] [(0, (.t 10))]⟩, cP 12 9 [(.k (.bo true)), (.t 11)], ⟨some 13, none, [], .bsl 2 [[(.bo false), .ns]] [(0, (.t 12))]⟩, cP 14 6 [(.k (.bo true)), (.t 13)], mV 2 14] [])
(.seq (.reg false [
⟨some 15, none, [], .mks 1 1 [(.it .u8 0)] (.k (.it .i64 8)) (.k (.it .i64 8))⟩, ⟨some 16, none, [], .bld [(.it .i64 0), (.it .i64 0), (.it .i64 0), .ns] [(0, 1, (.k (.it .i64 6))), (3, 1, (.t 15))]⟩, ⟨some 17, none, [], .bsl 4 [[(.it .i64 0), (.it .i64 0), (.it .i64 0), .ns]] [(0, (.t 16))]⟩, cP 18 9 [(.k (.bo true)), (.t 17)], ⟨some 19, none, [], .bsl 2 [[(.bo false), .ns]] [(0, (.t 18))]⟩, cP 20 6 [(.k (.bo true)), (.t 19)], mV 3 20] [])
(.seq (.reg false [
lQ 21 4 1, ⟨some 22, none, [], .bld [(.it .i64 0), (.it .i64 0), (.it .i64 0), .ns] [(2, 1, (.k (.it .i64 1)))]⟩, ⟨some 23, none, [], .bsl 4 [[(.it .i64 0), (.it .i64 0), (.it .i64 0), .ns], [(.it .i64 0), (.it .i64 0), (.it .i64 0), .ns]] [(0, (.t 21)), (1, (.t 22))]⟩, cP 24 9 [(.k (.bo true)), (.t 23)], ⟨some 25, none, [], .bsl 2 [[(.bo false), .ns]] [(0, (.t 24))]⟩, cP 26 6 [(.k (.bo true)), (.t 25)], mV 4 26] [])
(.seq (.reg false [
mK 5 .ns] [])
(.seq (.seq (.reg false [
mK 6 (.it .i64 0)] [])
(.blk 0 (.loop [1, 2, 3, 4, 5, 6] []
(.seq (.seq (.reg false [
mV 27 6, ⟨some 28, none, [], .bin .no .lss (.t 27) (.k (.it .i64 5))⟩] [])
(.cond (.t 28)
.skip
(.exit 0)))
(.seq (.blk 1 (.seq (.reg false [
mK 7 (.it .i64 16384)] [])
(.seq (.seq (.reg false [
mV 31 6, ⟨some 32, none, [], .bin .no .eql (.t 31) (.k (.it .i64 4))⟩] [])
(.cond (.t 32)
(.reg false [
mK 7 (.it .i64 0)] [])
.skip))
(.reg false [
mV 33 5, mV 34 7, ⟨some 35, none, [], .mks 1 1 [(.it .u8 0)] (.t 34) (.t 34)⟩, ⟨some 36, none, [], .bld [(.it .i64 0), (.it .i64 0), (.it .i64 0), .ns] [(2, 1, (.k (.it .i64 1))), (3, 1, (.t 35))]⟩, ⟨some 37, none, [], .bsl 4 [[(.it .i64 0), (.it .i64 0), (.it .i64 0), .ns]] [(0, (.t 36))]⟩, ⟨some 38, none, [], .app 4 48 (.t 33) (.t 37)⟩, mV 5 38] []))))
(.reg false [
mV 29 6, ⟨some 30, none, [], .bin .no .add (.t 29) (.k (.it .i64 1))⟩, mV 6 30] []))))))
(.seq (.reg true [
lQ 41 4 1, ⟨some 42, none, [], .bsv [.one] 1 [[(.it .u8 0)]] [(0, (.k (.it .u8 130)))]⟩, ⟨some 43, none, [], .bld [(.it .i64 0), (.it .i64 0), (.it .i64 0), .ns] [(0, 1, (.k (.it .i64 1))), (1, 1, (.k (.it .i64 5))), (2, 1, (.k (.it .i64 1))), (3, 1, (.t 42))]⟩, ⟨some 44, none, [], .bsv [.one, .one, .one, (.sl [.one])] 4 [[(.it .i64 0), (.it .i64 0), (.it .i64 0), .ns], [(.it .i64 0), (.it .i64 0), (.it .i64 0), .ns]] [(0, (.t 41)), (1, (.t 43))]⟩, ⟨some 45, none, [], .cpf 9 [(.k (.bo false)), (.t 44)]⟩, ⟨some 46, none, [], .fld 1 1 false (.t 45)⟩, lQ 49 4 1, ⟨some 50, none, [], .bsv [.one, .one, .one, (.sl [.one])] 4 [[(.it .i64 0), (.it .i64 0), (.it .i64 0), .ns]] [(0, (.t 49))]⟩, ⟨some 52, none, [], .bsv [.one] 1 [[(.it .u8 0)]] [(0, (.k (.it .u8 136)))]⟩, ⟨some 53, none, [], .bld [(.it .i64 0), (.it .i64 0), (.it .i64 0), .ns] [(0, 1, (.k (.it .i64 1))), (1, 1, (.k (.it .i64 4))), (2, 1, (.k (.it .i64 1))), (3, 1, (.t 52))]⟩, ⟨some 54, none, [], .bsv [.one, .one, .one, (.sl [.one])] 4 [[(.it .i64 0), (.it .i64 0), (.it .i64 0), .ns]] [(0, (.t 53))]⟩, mV 56 5, ⟨some 39, none, [], .bsl 1 (List.replicate 24 [(.it .u8 0)]) [(0, (.k (.it .u8 80))), (1, (.k (.it .u8 82))), (2, (.k (.it .u8 73))), (3, (.k (.it .u8 32))), (4, (.k (.it .u8 42))), (5, (.k (.it .u8 32))), (6, (.k (.it .u8 72))), (7, (.k (.it .u8 84))), (8, (.k (.it .u8 84))), (9, (.k (.it .u8 80))), (10, (.k (.it .u8 47))), (11, (.k (.it .u8 50))), (12, (.k (.it .u8 46))), (13, (.k (.it .u8 48))), (14, (.k (.it .u8 13))), (15, (.k (.it .u8 10))), (16, (.k (.it .u8 13))), (17, (.k (.it .u8 10))), (18, (.k (.it .u8 83))), (19, (.k (.it .u8 77))), (20, (.k (.it .u8 13))), (21, (.k (.it .u8 10))), (22, (.k (.it .u8 13))), (23, (.k (.it .u8 10)))]⟩, ⟨some 40, none, [], .mrk (.t 39)⟩, ⟨some 47, none, [1], .app 1 1 (.t 40) (.t 46)⟩, ⟨some 48, none, [], .bld [(.bo false), .ns] [(1, 1, (.t 47))]⟩, ⟨some 51, none, [], .cpf 9 [(.k (.bo true)), (.t 50)]⟩, ⟨some 55, none, [], .cpf 9 [(.k (.bo true)), (.t 54)]⟩, cP 57 9 [(.k (.bo true)), (.t 56)], ⟨some 58, none, [], .bsl 2 (List.replicate 4 [(.bo false), .ns]) [(0, (.t 48)), (1, (.t 51)), (2, (.t 55)), (3, (.t 57))]⟩, cP 59 6 [(.k (.bo true)), (.t 58)], mV 8 59] [])
(.seq (.reg false [
mV 60 2, ⟨some 61, none, [], .bin .no .eql (.t 60) (.k (.it .i64 (-1)))⟩, mV 62 61, ⟨some 63, some (62, true), [], .mov (.t 3)⟩, ⟨some 64, some (62, true), [], .bin .no .eql (.t 63) (.k (.it .i64 0))⟩, ⟨some 65, none, [], .pick (.t 62) (.t 64) (.k (.bo false))⟩, mV 66 65, ⟨some 67, some (66, true), [], .mov (.t 4)⟩, ⟨some 68, some (66, true), [], .bin .no .eql (.t 67) (.k (.it .i64 0))⟩, ⟨some 69, none, [], .pick (.t 66) (.t 68) (.k (.bo false))⟩, mV 70 69, ⟨some 71, some (70, true), [], .mov (.t 8)⟩, ⟨some 72, some (70, true), [], .bin .no .eql (.t 71) (.k (.it .i64 3))⟩, ⟨some 73, none, [], .pick (.t 70) (.t 72) (.k (.bo false))⟩, mV 0 73] [])
.ret)))))))))⟩
def c4 : Ev.Fn := d4.den
theorem r4 : OK 4 c4 := rd d4 { loc := [1], md := .pure, mds := mds, heap := [38, 39, 40, 11, 13, 17, 19, 23, 25, 37, 58], own := [38, 39, 40], ord := [(13, [2, 3, 4, 5, 6, 7, 10, 11, 13, 14, 15, 17, 0, 1, 8, 9, 12, 16, 18, 19, 20, 21])], clr := [], mask := [(7, [1, 2, 3, 4, 5, 6], [])], fns := [], lcl := [45, 51, 55], hnd := [], pro := [] } Tryz.func4
def d5 : DFn := ⟨[(.c (.sl [.one])), (.g [.one, .one, .one, (.sl [.one])])], [(.c (.sl [.one]))], .pure, [.tmp 4],
(.seq (.reg false [
⟨some 3, none, [], .box (.t 1)⟩, mK 4 .ns] [])
(.seq (.reg false [
⟨some 7, none, [], .bsl 1 [] []⟩, mV 8 0, ⟨some 9, none, [], .app 1 1 (.t 7) (.t 8)⟩, mV 5 9] [])
(.seq (.seq (.reg false [
lQ 10 4 3, cP 11 7 [(.t 10)], ⟨some 12, none, [], .un .not (.t 11)⟩] [])
(.cond (.t 12)
(.seq (.reg false [
mV 13 5, mV 4 13] [])
.ret)
.skip))
(.seq (.reg false [
fA 14 3 3, lD 15 1 14, lN 16 false 15, mV 6 16] [14])
(.seq (.reg false [
mV 17 5, mV 18 6, ⟨some 19, none, [], .bin .no .shr (.t 18) (.k (.it .u64 16))⟩, cV 20 .u8 19, mV 21 6, ⟨some 22, none, [], .bin .no .shr (.t 21) (.k (.it .u64 8))⟩, cV 23 .u8 22, mV 24 6, cV 25 .u8 24, fA 26 0 3, lD 27 1 26, cV 28 .u8 27, fA 29 1 3, lD 30 1 29, cV 31 .u8 30, fA 32 2 3, lD 33 1 32, ⟨some 34, none, [], .bin .no .shr (.t 33) (.k (.it .u64 24))⟩, cV 35 .u8 34, fA 36 2 3, lD 37 1 36, ⟨some 38, none, [], .bin .no .shr (.t 37) (.k (.it .u64 16))⟩, cV 39 .u8 38, fA 40 2 3, lD 41 1 40, ⟨some 42, none, [], .bin .no .shr (.t 41) (.k (.it .u64 8))⟩, cV 43 .u8 42, fA 44 2 3, lD 45 1 44, cV 46 .u8 45, ⟨some 47, none, [], .bsv [.one] 1 (List.replicate 9 [(.it .u8 0)]) [(0, (.t 20)), (1, (.t 23)), (2, (.t 25)), (3, (.t 28)), (4, (.t 31)), (5, (.t 35)), (6, (.t 39)), (7, (.t 43)), (8, (.t 46))]⟩, ⟨some 48, none, [], .app 1 1 (.t 17) (.t 47)⟩, mV 5 48] [26, 29, 32, 36, 40, 44])
(.seq (.reg false [
mV 49 5, fA 50 3 3, lD 51 1 50, ⟨some 52, none, [], .app 1 1 (.t 49) (.t 51)⟩, mV 4 52] [50])
.ret))))))⟩
def c5 : Ev.Fn := d5.den
theorem r5 : OK 5 c5 := rd d5 { loc := [3], md := .pure, mds := mds, heap := [7, 9, 48], own := [7, 9, 48], ord := [(0, [1, 0]), (1, [1, 0, 2, 3])], clr := [(4, [14]), (5, [26, 29, 32, 36, 40, 44]), (6, [50])], mask := [], fns := [], lcl := [], hnd := [], pro := [] } Tryz.func5
def d6 : DFn := ⟨[(.c .one), (.c (.sl [.one, (.sl [.one])]))], [(.c .one)], .pure, [.tmp 4],
(.seq (.reg false [
mK 4 (.it .i64 0)] [])
(.seq (.reg false [
mV 16 0, cP 17 10 [], ⟨some 18, none, [], .fld 2 1 false (.t 17)⟩, ⟨some 19, none, [], .bld [(.bo false), (.bo false), .ns, .ns, (.it .i64 0), (.it .i64 0), (.it .i64 0), (.it .i64 0), (.bo false), (.bo false), (.it .i64 0), .ns, .np] [(0, 1, (.t 16)), (4, 1, (.t 18)), (5, 1, (.k (.it .i64 65535))), (6, 1, (.k (.it .i64 16384)))]⟩, ⟨some 20, none, [], .bxh (.t 19)⟩, mV 5 20] [])
(.seq (.reg false [
mV 22 5, ⟨some 23, none, [], .call true .rw 11 [(.k (.it .i64 4096)), (.k (.it .i64 2147483647))]⟩, mV 21 23, eX 24 21 0, eX 25 21 1, nK 26 22, fA 27 12 26, sO 1 27 24] [])
(.seq (.reg false [
mV 29 0, ⟨some 30, none, [], .un .not (.t 29)⟩, cR 31 12 [(.k (.it .i64 16777215)), (.t 30)], mV 28 31, eX 32 28 0, eX 33 28 1, mV 6 32, mV 7 33] [])
(.seq (.reg false [
mV 35 0, cR 36 12 [(.k (.it .i64 16384)), (.t 35)], mV 34 36, eX 37 34 0, eX 38 34 1, mV 8 37, mV 9 38] [])
(.seq (.seq (.reg false [
mV 39 1, lN 40 false 39, mK 41 (.it .i64 0)] [])
(.blk 0 (.loop [5, 6, 8, 39, 40, 41] [11, 13, 15]
(.seq (.reg false [
⟨some 42, none, [], .bin .no .lss (.t 41) (.t 40)⟩] [])
(.seq (.cond (.t 42)
.skip
(.exit 0))
(.seq (.blk 1 (.seq (.reg false [
mV 43 41, ⟨some 44, none, [], .ias 2 (.t 39) (.t 41)⟩, lQ 45 2 44, ⟨some 11, none, [], .alc [(.bo false), .ns]⟩, mV 10 43, sO 2 11 45] [])
(.seq (.seq (.reg false [
fA 46 0 11, lD 47 1 46] [46])
(.cond (.t 47)
(.seq (.seq (.reg false [
mV 48 5, mV 49 6, fA 50 1 11, lD 51 1 50, cR 52 13 [(.t 48), (.t 49), (.t 51)], ⟨some 53, none, [], .un .not (.t 52)⟩] [50])
(.cond (.t 53)
(.seq (.reg false [
mV 54 10, mV 4 54] [])
.ret)
.skip))
(.exit 1))
.skip))
(.seq (.reg false [
mV 56 8, fA 57 1 11, lD 58 1 57, cR 59 14 [(.t 56), (.t 58)], mV 55 59, eX 60 55 0, eX 61 55 1, ⟨some 13, none, [57], .alc [(.it .i64 0), (.it .i64 0), (.it .i64 0)]⟩, mV 12 60, sO 3 13 61] [57])
(.seq (.seq (.reg false [
mV 62 12, lN 63 false 62, mK 64 (.it .i64 0)] [])
(.blk 2 (.loop [5, 6, 8, 13, 39, 40, 41, 62, 63, 64] [11, 15]
(.seq (.reg false [
⟨some 65, none, [], .bin .no .lss (.t 64) (.t 63)⟩] [])
(.seq (.cond (.t 65)
.skip
(.exit 2))
(.seq (.blk 3 (.seq (.reg false [
⟨some 66, none, [], .ias 4 (.t 62) (.t 64)⟩, lQ 67 4 66, ⟨some 15, none, [], .alc [(.it .i64 0), (.it .i64 0), (.it .i64 0), .ns]⟩, sO 4 15 67] [])
(.seq (.reg false [
mV 68 5, nK 69 68, fA 70 1 69, lD 71 1 70, ⟨some 72, none, [], .un .not (.t 71)⟩] [])
(.cond (.t 72)
(.reg false [
mV 73 5, lQ 74 4 15, cR 75 15 [(.t 73), (.t 74)]] [])
.skip))))
(.reg false [
⟨some 76, none, [], .bin .no .add (.t 64) (.k (.it .i64 1))⟩, mV 64 76] [])))))))
(.reg false [
mV 77 5, mV 78 5, nK 79 78, fA 80 1 79, lD 81 1 80, mV 82 81, ⟨some 83, some (82, false), [], .fad 0 (.t 13)⟩, ⟨some 84, some (82, false), [], .ld 1 false (.t 83)⟩, ⟨some 85, some (82, false), [], .bin .no .neq (.t 84) (.k (.it .i64 0))⟩, ⟨some 86, none, [], .pick (.t 82) (.k (.bo true)) (.t 85)⟩, nK 87 77, fA 88 1 87, sO 1 88 86] [83]))))))
(.reg false [
⟨some 89, none, [], .bin .no .add (.t 41) (.k (.it .i64 1))⟩, mV 41 89] [])))))))
(.seq (.reg false [
mK 4 (.it .i64 (-1))] [])
.ret)))))))⟩
def c6 : Ev.Fn := d6.den
theorem r6 : OK 6 c6 := rd d6 { loc := [11, 13, 15], md := .pure, mds := mds, heap := [23], own := [23], ord := [(11, [0, 1, 2, 7, 3, 4, 5, 6, 8, 9])], clr := [(8, [46]), (9, [50]), (11, [57]), (18, [83])], mask := [(6, [5, 6, 8, 39, 40, 41], [11, 13, 15]), (13, [5, 6, 8, 13, 39, 40, 41, 62, 63, 64], [11, 15])], fns := [], lcl := [], hnd := [], pro := [] } Tryz.func6
def d7 : DFn := ⟨[(.g [.one, .one, .one, (.sl [.one])])], [(.c .one)], .pure, [.tmp 2],
(.seq (.reg false [
⟨some 1, none, [], .box (.t 0)⟩, mK 2 (.bo false)] [])
(.seq (.reg false [
fA 3 0 1, lD 4 1 3, ⟨some 5, none, [], .bin .no .geq (.t 4) (.k (.it .i64 0))⟩, mV 6 5, ⟨some 7, some (6, true), [], .fad 0 (.t 1)⟩, ⟨some 8, some (6, true), [], .ld 1 false (.t 7)⟩, ⟨some 9, some (6, true), [], .bin .no .lss (.t 8) (.k (.it .i64 256))⟩, ⟨some 10, none, [], .pick (.t 6) (.t 9) (.k (.bo false))⟩, mV 11 10, ⟨some 12, some (11, true), [], .fad 1 (.t 1)⟩, ⟨some 13, some (11, true), [], .ld 1 false (.t 12)⟩, ⟨some 14, some (11, true), [], .bin .no .geq (.t 13) (.k (.it .i64 0))⟩, ⟨some 15, none, [], .pick (.t 11) (.t 14) (.k (.bo false))⟩, mV 16 15, ⟨some 17, some (16, true), [], .fad 1 (.t 1)⟩, ⟨some 18, some (16, true), [], .ld 1 false (.t 17)⟩, ⟨some 19, some (16, true), [], .bin .no .lss (.t 18) (.k (.it .i64 256))⟩, ⟨some 20, none, [], .pick (.t 16) (.t 19) (.k (.bo false))⟩, mV 21 20, ⟨some 22, some (21, true), [], .fad 2 (.t 1)⟩, ⟨some 23, some (21, true), [], .ld 1 false (.t 22)⟩, ⟨some 24, some (21, true), [], .bin .no .geq (.t 23) (.k (.it .i64 0))⟩, ⟨some 25, none, [], .pick (.t 21) (.t 24) (.k (.bo false))⟩, mV 26 25, ⟨some 27, some (26, true), [], .fad 2 (.t 1)⟩, ⟨some 28, some (26, true), [], .ld 1 false (.t 27)⟩, ⟨some 29, some (26, true), [], .bin .no .leq (.t 28) (.k (.it .i64 2147483647))⟩, ⟨some 30, none, [], .pick (.t 26) (.t 29) (.k (.bo false))⟩, mV 31 30, ⟨some 32, some (31, true), [], .fad 3 (.t 1)⟩, ⟨some 33, some (31, true), [], .ld 1 false (.t 32)⟩, ⟨some 34, some (31, true), [], .len false (.t 33)⟩, ⟨some 35, some (31, true), [], .bin .no .leq (.t 34) (.k (.it .i64 16777215))⟩, ⟨some 36, none, [], .pick (.t 31) (.t 35) (.k (.bo false))⟩, mV 2 36] [3, 7, 12, 17, 22, 27, 32])
.ret))⟩
def c7 : Ev.Fn := d7.den
theorem r7 : OK 7 c7 := rd d7 { loc := [1], md := .pure, mds := mds, heap := [], own := [], ord := [(0, [1, 0])], clr := [(1, [3, 7, 12, 17, 22, 27, 32])], mask := [], fns := [], lcl := [], hnd := [], pro := [] } Tryz.func7
def d8 : DFn := ⟨[(.g [.one, .one, .one, (.sl [.one])])], [(.g [.one, .one, .one, .one, .one, (.sl [.one]), .one, .one, .one, .one, (.sl [.one, .one])]), (.g [.one, .one, .one])], .pure, [.cell 2 11 true, .cell 3 3 true],
(.seq (.reg false [
⟨some 1, none, [], .box (.t 0)⟩, ⟨some 2, none, [], .alc [(.it .i64 0), (.it .i64 0), (.bo false), (.bo false), (.bo false), .ns, (.it .i64 0), (.it .i64 0), (.it .i64 0), (.it .i64 0), .ns]⟩, ⟨some 3, none, [], .alc [(.it .i64 0), (.it .i64 0), (.it .i64 0)]⟩] [])
(.seq (.reg false [
fA 7 0 1, lD 8 1 7, fA 9 2 1, lD 10 1 9, ⟨some 11, none, [], .bld [(.it .i64 0), (.it .i64 0), (.bo false), (.bo false), (.bo false), .ns, (.it .i64 0), (.it .i64 0), (.it .i64 0), (.it .i64 0), .ns] [(0, 1, (.t 8)), (1, 1, (.t 10))]⟩, ⟨some 4, none, [7, 9], .alc [(.it .i64 0), (.it .i64 0), (.bo false), (.bo false), (.bo false), .ns, (.it .i64 0), (.it .i64 0), (.it .i64 0), (.it .i64 0), .ns]⟩, sO 11 4 11] [7, 9])
(.seq (.seq (.reg false [
lQ 12 4 1, cP 13 7 [(.t 12)], ⟨some 14, none, [], .un .not (.t 13)⟩, mV 15 14, ⟨some 16, some (15, false), [], .fad 0 (.t 1)⟩, ⟨some 17, some (15, false), [], .ld 1 false (.t 16)⟩, ⟨some 18, some (15, false), [], .bin .no .gtr (.t 17) (.k (.it .i64 9))⟩, ⟨some 19, none, [], .pick (.t 15) (.k (.bo true)) (.t 18)⟩] [16])
(.cond (.t 19)
(.seq (.reg false [
lQ 20 11 4, ⟨some 21, none, [], .bld [(.it .i64 0), (.it .i64 0), (.it .i64 0)] []⟩, sO 11 2 20, sO 3 3 21] [])
.ret)
.skip))
(.seq (.reg false [
fA 22 3 1, lD 23 1 22, mV 5 23] [22])
(.seq (.reg false [
fA 24 0 1, lD 25 1 24, ⟨some 26, none, [], .bin .no .eql (.t 25) (.k (.it .i64 4))⟩, mV 27 26, ⟨some 28, some (27, false), [], .fad 0 (.t 1)⟩, ⟨some 29, some (27, false), [], .ld 1 false (.t 28)⟩, ⟨some 30, some (27, false), [], .bin .no .eql (.t 29) (.k (.it .i64 6))⟩, ⟨some 31, none, [], .pick (.t 27) (.k (.bo true)) (.t 30)⟩, mV 32 31, ⟨some 33, some (32, false), [], .fad 0 (.t 1)⟩, ⟨some 34, some (32, false), [], .ld 1 false (.t 33)⟩, ⟨some 35, some (32, false), [], .bin .no .eql (.t 34) (.k (.it .i64 7))⟩, ⟨some 36, none, [], .pick (.t 32) (.k (.bo true)) (.t 35)⟩, mV 6 36] [24, 28, 33])
(.seq (.seq (.reg false [
mV 37 6, mV 38 37, ⟨some 39, some (38, true), [], .fad 2 (.t 1)⟩, ⟨some 40, some (38, true), [], .ld 1 false (.t 39)⟩, ⟨some 41, some (38, true), [], .bin .no .neq (.t 40) (.k (.it .i64 0))⟩, ⟨some 42, none, [], .pick (.t 38) (.t 41) (.k (.bo false))⟩, mV 43 42, ⟨some 44, some (43, false), [], .mov (.t 6)⟩, ⟨some 45, some (43, false), [], .un .not (.t 44)⟩, ⟨some 46, some (43, false), [], .mov (.t 45)⟩, ⟨some 47, some (46, true), [], .fad 0 (.t 1)⟩, ⟨some 48, some (46, true), [], .ld 1 false (.t 47)⟩, ⟨some 49, some (46, true), [], .bin .no .neq (.t 48) (.k (.it .i64 8))⟩, ⟨some 50, some (43, false), [], .pick (.t 46) (.t 49) (.k (.bo false))⟩, ⟨some 51, some (43, false), [], .mov (.t 50)⟩, ⟨some 52, some (51, true), [], .fad 2 (.t 1)⟩, ⟨some 53, some (51, true), [], .ld 1 false (.t 52)⟩, ⟨some 54, some (51, true), [], .bin .no .eql (.t 53) (.k (.it .i64 0))⟩, ⟨some 55, some (43, false), [], .pick (.t 51) (.t 54) (.k (.bo false))⟩, ⟨some 56, none, [], .pick (.t 43) (.k (.bo true)) (.t 55)⟩, mV 57 56, ⟨some 58, some (57, false), [], .fad 0 (.t 1)⟩, ⟨some 59, some (57, false), [], .ld 1 false (.t 58)⟩, ⟨some 60, some (57, false), [], .bin .no .eql (.t 59) (.k (.it .i64 5))⟩, ⟨some 61, none, [], .pick (.t 57) (.k (.bo true)) (.t 60)⟩] [39, 47, 52, 58])
(.cond (.t 61)
(.seq (.reg false [
cP 62 16 [(.k (.it .i64 2)), (.k (.it .i64 1)), (.k (.it .i64 0))], eX 63 62 0, eX 64 62 1, sO 11 2 63, sO 3 3 64] [])
.ret)
.skip))
(.seq (.seq (.reg false [
fA 65 0 1, lD 66 1 65] [65])
(.blk 0 (.seq (.seq (.reg false [
⟨some 68, none, [], .bin .no .eql (.t 66) (.k (.it .i64 0))⟩, mV 67 68] [])
(.cond (.t 67)
.skip
(.reg false [
⟨some 69, none, [], .bin .no .eql (.t 66) (.k (.it .i64 1))⟩, mV 67 69] [])))
(.cond (.t 67)
(.seq (.reg false [
lQ 70 4 1, lQ 71 11 4, cP 72 17 [(.t 70), (.t 71)], eX 73 72 0, eX 74 72 1, sO 11 2 73, sO 3 3 74] [])
.ret)
(.seq (.reg false [
⟨some 76, none, [], .bin .no .eql (.t 66) (.k (.it .i64 2))⟩, mV 75 76] [])
(.cond (.t 75)
(.seq (.seq (.reg false [
mV 77 5, lN 78 false 77, ⟨some 79, none, [], .bin .no .neq (.t 78) (.k (.it .i64 5))⟩] [])
(.cond (.t 79)
(.seq (.reg false [
fA 80 2 1, lD 81 1 80, cP 82 16 [(.k (.it .i64 1)), (.k (.it .i64 6)), (.t 81)], eX 83 82 0, eX 84 82 1, sO 11 2 83, sO 3 3 84] [80])
.ret)
.skip))
(.seq (.reg true [
mV 85 5, fA 87 2 1, lD 88 1 87, cP 86 18 [(.t 85)], ⟨some 89, none, [], .bin .no .eql (.t 86) (.t 88)⟩] [87])
(.cond (.t 89)
(.seq (.reg false [
fA 90 2 1, lD 91 1 90, cP 92 16 [(.k (.it .i64 1)), (.k (.it .i64 1)), (.t 91)], eX 93 92 0, eX 94 92 1, sO 11 2 93, sO 3 3 94] [90])
.ret)
.skip)))
(.seq (.reg false [
⟨some 96, none, [], .bin .no .eql (.t 66) (.k (.it .i64 3))⟩, mV 95 96] [])
(.cond (.t 95)
(.seq (.seq (.reg false [
mV 97 5, lN 98 false 97, ⟨some 99, none, [], .bin .no .neq (.t 98) (.k (.it .i64 4))⟩] [])
(.cond (.t 99)
(.seq (.reg false [
cP 100 16 [(.k (.it .i64 2)), (.k (.it .i64 6)), (.k (.it .i64 0))], eX 101 100 0, eX 102 100 1, sO 11 2 101, sO 3 3 102] [])
.ret)
.skip))
(.reg false [
mV 103 5, cP 104 19 [(.t 103)], fA 105 6 4, sO 1 105 104] [105]))
(.seq (.reg false [
⟨some 107, none, [], .bin .no .eql (.t 66) (.k (.it .i64 4))⟩, mV 106 107] [])
(.cond (.t 106)
(.seq (.reg false [
lQ 108 4 1, lQ 109 11 4, cR 110 20 [(.t 108), (.t 109)], eX 111 110 0, eX 112 110 1, sO 11 2 111, sO 3 3 112] [])
.ret)
(.seq (.reg false [
⟨some 114, none, [], .bin .no .eql (.t 66) (.k (.it .i64 6))⟩, mV 113 114] [])
(.cond (.t 113)
(.seq (.seq (.reg false [
mV 115 5, lN 116 false 115, ⟨some 117, none, [], .bin .no .neq (.t 116) (.k (.it .i64 8))⟩] [])
(.cond (.t 117)
(.seq (.reg false [
cP 118 16 [(.k (.it .i64 2)), (.k (.it .i64 6)), (.k (.it .i64 0))], eX 119 118 0, eX 120 118 1, sO 11 2 119, sO 3 3 120] [])
.ret)
.skip))
(.reg true [
fA 121 1 1, lD 122 1 121, ⟨some 123, none, [], .bin .no .and (.t 122) (.k (.it .i64 1))⟩, ⟨some 124, none, [], .bin .no .neq (.t 123) (.k (.it .i64 0))⟩, mV 126 5, fA 128 4 4, ⟨some 125, none, [], .bsl 1 [] []⟩, ⟨some 127, none, [121], .app 1 1 (.t 125) (.t 126)⟩, sO 1 128 124, fA 129 5 4, sO 1 129 127] [121, 128, 129]))
(.seq (.reg false [
⟨some 131, none, [], .bin .no .eql (.t 66) (.k (.it .i64 7))⟩, mV 130 131] [])
(.cond (.t 130)
(.seq (.seq (.reg false [
mV 132 5, lN 133 false 132, ⟨some 134, none, [], .bin .no .lss (.t 133) (.k (.it .i64 8))⟩] [])
(.cond (.t 134)
(.seq (.reg false [
cP 135 16 [(.k (.it .i64 2)), (.k (.it .i64 6)), (.k (.it .i64 0))], eX 136 135 0, eX 137 135 1, sO 11 2 136, sO 3 3 137] [])
.ret)
.skip))
(.reg true [
mV 138 5, ⟨some 139, none, [], .cpf 18 [(.t 138)]⟩, mV 140 5, ⟨some 141, none, [], .slc false 1 (.t 140) (some (.k (.it .i64 4))) none⟩, ⟨some 142, none, [], .cpf 19 [(.t 141)]⟩, mV 144 5, ⟨some 145, none, [], .slc false 1 (.t 144) (some (.k (.it .i64 8))) none⟩, fA 147 7 4, ⟨some 143, none, [], .bsl 1 [] []⟩, ⟨some 146, none, [], .app 1 1 (.t 143) (.t 145)⟩, sO 1 147 139, fA 148 6 4, sO 1 148 142, fA 149 5 4, sO 1 149 146] [147, 148, 149]))
(.seq (.reg false [
⟨some 151, none, [], .bin .no .eql (.t 66) (.k (.it .i64 8))⟩, mV 150 151] [])
(.cond (.t 150)
(.seq (.seq (.reg false [
mV 152 5, lN 153 false 152, ⟨some 154, none, [], .bin .no .neq (.t 153) (.k (.it .i64 4))⟩] [])
(.cond (.t 154)
(.seq (.reg false [
cP 155 16 [(.k (.it .i64 2)), (.k (.it .i64 6)), (.k (.it .i64 0))], eX 156 155 0, eX 157 155 1, sO 11 2 156, sO 3 3 157] [])
.ret)
.skip))
(.seq (.reg false [
mV 158 5, cP 159 18 [(.t 158)], fA 160 8 4, sO 1 160 159] [160])
(.seq (.seq (.reg false [
fA 161 8 4, lD 162 1 161, ⟨some 163, none, [], .bin .no .eql (.t 162) (.k (.it .i64 0))⟩, mV 164 163, ⟨some 165, some (164, true), [], .fad 2 (.t 1)⟩, ⟨some 166, some (164, true), [], .ld 1 false (.t 165)⟩, ⟨some 167, some (164, true), [], .bin .no .eql (.t 166) (.k (.it .i64 0))⟩, ⟨some 168, none, [], .pick (.t 164) (.t 167) (.k (.bo false))⟩] [161, 165])
(.cond (.t 168)
(.seq (.reg false [
cP 169 16 [(.k (.it .i64 2)), (.k (.it .i64 1)), (.k (.it .i64 0))], eX 170 169 0, eX 171 169 1, sO 11 2 170, sO 3 3 171] [])
.ret)
.skip))
(.seq (.reg false [
fA 172 8 4, lD 173 1 172, ⟨some 174, none, [], .bin .no .eql (.t 173) (.k (.it .i64 0))⟩] [172])
(.cond (.t 174)
(.seq (.reg false [
fA 175 2 1, lD 176 1 175, cP 177 16 [(.k (.it .i64 1)), (.k (.it .i64 1)), (.t 176)], eX 178 177 0, eX 179 177 1, sO 11 2 178, sO 3 3 179] [175])
.ret)
.skip)))))
(.seq (.reg false [
⟨some 181, none, [], .bin .no .eql (.t 66) (.k (.it .i64 9))⟩, mV 180 181] [])
(.cond (.t 180)
(.reg true [
fA 182 1 1, lD 183 1 182, ⟨some 184, none, [], .bin .no .and (.t 183) (.k (.it .i64 4))⟩, ⟨some 185, none, [], .bin .no .neq (.t 184) (.k (.it .i64 0))⟩, mV 187 5, fA 189 3 4, ⟨some 186, none, [], .bsl 1 [] []⟩, ⟨some 188, none, [182], .app 1 1 (.t 186) (.t 187)⟩, sO 1 189 185, fA 190 5 4, sO 1 190 188] [182, 189, 190])
.skip))))))))))))))))))
(.seq (.reg false [
lQ 191 11 4, ⟨some 192, none, [], .bld [(.it .i64 0), (.it .i64 0), (.it .i64 0)] []⟩, sO 11 2 191, sO 3 3 192] [])
.ret))))))))⟩
def c8 : Ev.Fn := d8.den
theorem r8 : OK 8 c8 := rd d8 { loc := [1, 2, 3, 4], md := .pure, mds := mds, heap := [125, 143, 186], own := [125, 143, 186], ord := [(15, [0, 2, 3, 1, 4]), (26, [0, 1, 2, 3, 5, 7, 4, 6, 8, 9, 10]), (30, [0, 1, 2, 3, 4, 6, 7, 9, 5, 8, 10, 11, 12, 13, 14]), (40, [0, 1, 2, 3, 5, 7, 4, 6, 8, 9, 10])], clr := [(1, [7, 9]), (2, [16]), (4, [22]), (5, [24, 28, 33]), (6, [39, 47, 52, 58]), (8, [65]), (14, [80]), (15, [87]), (16, [90]), (20, [105]), (26, [121, 128, 129]), (30, [147, 148, 149]), (34, [160]), (35, [161, 165]), (37, [172]), (38, [175]), (40, [182, 189, 190])], mask := [], fns := [], lcl := [139, 142], hnd := [], pro := [] } Tryz.func8
def d9 : DFn := ⟨[(.c .one), (.c (.sl [.one, .one, .one, (.sl [.one])]))], [(.g [.one, (.sl [.one])])], .pure, [.cell 4 2 true],
(.seq (.reg false [
⟨some 4, none, [], .alc [(.bo false), .ns]⟩] [])
(.seq (.reg false [
mK 5 .ns] [])
(.seq (.seq (.reg false [
mK 6 (.it .i64 0)] [])
(.blk 0 (.loop [0, 1, 4, 5, 6] []
(.seq (.seq (.reg false [
mV 7 6, mV 8 1, lN 9 false 8, ⟨some 10, none, [], .bin .no .lss (.t 7) (.t 9)⟩] [])
(.cond (.t 10)
.skip
(.exit 0)))
(.seq (.blk 1 (.reg false [
mV 13 5, mV 14 1, mV 15 6, ⟨some 16, none, [], .ias 4 (.t 14) (.t 15)⟩, lQ 17 4 16, cP 18 5 [(.t 13), (.t 17)], mV 5 18] []))
(.reg false [
mV 11 6, ⟨some 12, none, [], .bin .no .add (.t 11) (.k (.it .i64 1))⟩, mV 6 12] []))))))
(.seq (.reg false [
mV 19 0, mV 20 5, ⟨some 21, none, [], .bld [(.bo false), .ns] [(0, 1, (.t 19)), (1, 1, (.t 20))]⟩, sO 2 4 21] [])
.ret))))⟩
def c9 : Ev.Fn := d9.den
theorem r9 : OK 9 c9 := rd d9 { loc := [4], md := .pure, mds := mds, heap := [], own := [], ord := [], clr := [], mask := [(3, [0, 1, 4, 5, 6], [])], fns := [], lcl := [], hnd := [], pro := [] } Tryz.func9
def d10 : DFn := ⟨[], [(.g [.one, .one, .one, .one, .one])], .pure, [.cell 0 5 true],
(.seq (.reg false [
⟨some 0, none, [], .alc [(.it .i64 0), (.it .i64 0), (.it .i64 0), (.it .i64 0), (.it .i64 0)]⟩] [])
(.seq (.reg false [
⟨some 1, none, [], .bld [(.it .i64 0), (.it .i64 0), (.it .i64 0), (.it .i64 0), (.it .i64 0)] [(0, 1, (.k (.it .i64 4096))), (1, 1, (.k (.it .i64 2147483647))), (2, 1, (.k (.it .i64 65535))), (3, 1, (.k (.it .i64 16384))), (4, 1, (.k (.it .i64 2147483647)))]⟩, sO 5 0 1] [])
.ret))⟩
def c10 : Ev.Fn := d10.den
theorem r10 : OK 10 c10 := rd d10 { loc := [0], md := .pure, mds := mds, heap := [], own := [], ord := [], clr := [], mask := [], fns := [], lcl := [], hnd := [], pro := [] } Tryz.func10
def d11 : DFn := ⟨[(.c .one), (.c .one)], [(.c .one), (.c .one)], .rw, [.tmp 4, .tmp 5],
(.seq (.reg false [
mK 4 .np, mK 5 (.it .i64 0)] [])
(.seq (.seq (.reg false [
mV 8 1, ⟨some 9, none, [], .bin .no .lss (.t 8) (.k (.it .i64 0))⟩, mV 10 9, ⟨some 11, some (10, false), [], .mov (.t 1)⟩, ⟨some 12, some (10, false), [], .bin .no .gtr (.t 11) (.k (.it .i64 2147483647))⟩, ⟨some 13, none, [], .pick (.t 10) (.k (.bo true)) (.t 12)⟩] [])
(.cond (.t 13)
(.seq (.reg false [
mK 4 .np, mK 5 (.it .i64 1)] [])
.ret)
.skip))
(.seq (.reg false [
mV 15 0, cR 16 21 [(.t 15)], mV 14 16, eX 17 14 0, eX 18 14 1, mV 6 17, mV 7 18] [])
(.seq (.seq (.reg false [
mV 19 7, ⟨some 20, none, [], .bin .no .neq (.t 19) (.k (.it .i64 0))⟩] [])
(.cond (.t 20)
(.seq (.reg false [
mV 21 7, mK 4 .np, mV 5 21] [])
.ret)
.skip))
(.seq (.reg false [
mV 22 6, mV 23 0, mV 24 1, ⟨some 25, none, [], .bld [.np, (.it .i64 0), (.it .i64 0), (.bo false)] [(0, 1, (.t 22)), (1, 1, (.t 23)), (2, 1, (.t 24))]⟩, ⟨some 26, none, [], .bxh (.t 25)⟩, mV 4 26, mK 5 (.it .i64 0)] [])
.ret)))))⟩
def c11 : Ev.Fn := d11.den
theorem r11 : OK 11 c11 := rd d11 { loc := [], md := .rw, mds := mds, heap := [], own := [], ord := [], clr := [], mask := [], fns := [], lcl := [], hnd := [], pro := [] } Tryz.func11
def d12 : DFn := ⟨[(.c .one), (.c .one)], [(.c .one), (.c .one)], .rw, [.tmp 4, .tmp 5],
(.seq (.reg false [
mK 4 .np, mK 5 (.it .i64 0)] [])
(.seq (.seq (.reg false [
mV 7 0, cP 8 22 [(.t 7)], ⟨some 9, none, [], .un .not (.t 8)⟩] [])
(.cond (.t 9)
(.seq (.reg false [
mK 4 .np, mK 5 (.it .i64 1)] [])
.ret)
.skip))
(.seq (.reg false [
mV 10 0, ⟨some 11, none, [], .bld [(.it .i64 0), (.st []), .ns, (.it .i64 0), (.it .i64 0), (.it .i64 0)] [(0, 1, (.t 10))]⟩, ⟨some 12, none, [], .bxh (.t 11)⟩, mV 6 12] [])
(.seq (.seq (.reg false [
mV 13 1] [])
(.cond (.t 13)
(.reg false [
mV 14 6, nK 15 14, fA 16 1 15, ⟨none, none, [], .sto 1 (.t 16) (.k (.st [80, 82, 73, 32, 42, 32, 72, 84, 84, 80, 47, 50, 46, 48, 13, 10, 13, 10, 83, 77, 13, 10, 13, 10]))⟩] [])
.skip))
(.seq (.reg false [
mV 17 6, mV 4 17, mK 5 (.it .i64 0)] [])
.ret)))))⟩
def c12 : Ev.Fn := d12.den
theorem r12 : OK 12 c12 := rd d12 { loc := [], md := .rw, mds := mds, heap := [], own := [], ord := [], clr := [], mask := [], fns := [], lcl := [], hnd := [], pro := [] } Tryz.func12
def d13 : DFn := ⟨[(.c .one), (.c .one), (.c (.sl [.one]))], [(.c .one)], .rw, [.tmp 6],
(.seq (.reg false [
mK 6 (.bo false)] [])
(.seq (.reg false [
mV 12 1, mV 13 2, cR 14 14 [(.t 12), (.t 13)], mV 11 14, eX 15 11 0, eX 16 11 1, ⟨some 8, none, [], .alc [(.it .i64 0), (.it .i64 0), (.it .i64 0)]⟩, mV 7 15, sO 3 8 16] [])
(.seq (.seq (.reg false [
mV 17 7, lN 18 false 17, mK 19 (.it .i64 0)] [])
(.blk 0 (.loop [0, 8, 17, 18, 19] [10]
(.seq (.reg false [
⟨some 20, none, [], .bin .no .lss (.t 19) (.t 18)⟩] [])
(.seq (.cond (.t 20)
.skip
(.exit 0))
(.seq (.blk 1 (.seq (.reg false [
⟨some 21, none, [], .ias 4 (.t 17) (.t 19)⟩, lQ 22 4 21, ⟨some 10, none, [], .alc [(.it .i64 0), (.it .i64 0), (.it .i64 0), .ns]⟩, sO 4 10 22] [])
(.seq (.reg false [
mV 23 0, lQ 24 4 10, cR 25 23 [(.t 23), (.t 24)], ⟨some 26, none, [], .un .not (.t 25)⟩] [])
(.cond (.t 26)
(.seq (.reg false [
mK 6 (.bo false)] [])
.ret)
.skip))))
(.reg false [
⟨some 27, none, [], .bin .no .add (.t 19) (.k (.it .i64 1))⟩, mV 19 27] [])))))))
(.seq (.reg false [
fA 28 0 8, lD 29 1 28, ⟨some 30, none, [], .bin .no .eql (.t 29) (.k (.it .i64 0))⟩, mV 6 30] [28])
.ret))))⟩
def c13 : Ev.Fn := d13.den
theorem r13 : OK 13 c13 := rd d13 { loc := [8, 10], md := .rw, mds := mds, heap := [], own := [], ord := [(1, [0, 1, 6, 2, 3, 4, 5, 7, 8])], clr := [(8, [28])], mask := [(3, [0, 8, 17, 18, 19], [10])], fns := [], lcl := [], hnd := [], pro := [] } Tryz.func13
def d14 : DFn := ⟨[(.c .one), (.c (.sl [.one]))], [(.c (.sl [.one, .one, .one, (.sl [.one])])), (.g [.one, .one, .one])], .rw, [.tmp 4, .cell 5 3 true],
(.seq (.reg false [
mK 4 .ns, ⟨some 5, none, [], .alc [(.it .i64 0), (.it .i64 0), (.it .i64 0)]⟩] [])
(.seq (.seq (.reg false [
mV 9 0, nK 10 9, fA 11 3 10, lQ 12 3 11, ⟨some 13, none, [], .bld [(.it .i64 0), (.it .i64 0), (.it .i64 0)] []⟩, ⟨some 14, none, [], .bin (.ag [0, 0, 0]) .neq (.t 12) (.t 13)⟩] [])
(.cond (.t 14)
(.seq (.reg true [
mV 15 0, nK 16 15, fA 17 3 16, lQ 18 3 17, mK 4 .ns, sO 3 5 18] [])
.ret)
.skip))
(.seq (.reg false [
mV 19 0, mV 20 1, cR 21 24 [(.t 19), (.t 20)], mV 1 21] [])
(.seq (.reg false [
mV 22 0, mV 23 0, nK 24 23, fA 25 2 24, lD 26 1 25, ⟨some 27, none, [], .app 1 1 (.k .ns) (.t 26)⟩, mV 28 1, ⟨some 29, none, [], .app 1 1 (.t 27) (.t 28)⟩, nK 30 22, fA 31 2 30, sO 1 31 29] [])
(.seq (.reg false [
mK 6 .ns] [])
(.seq (.blk 0 (.loop [0, 5, 6] [7]
(.seq (.seq (.reg false [
mV 32 0, nK 33 32, fA 34 3 33, lQ 35 3 34, ⟨some 36, none, [], .bld [(.it .i64 0), (.it .i64 0), (.it .i64 0)] []⟩, ⟨some 37, none, [], .bin (.ag [0, 0, 0]) .eql (.t 35) (.t 36)⟩] [])
(.cond (.t 37)
.skip
(.exit 0)))
(.blk 1 (.seq (.reg false [
mV 39 0, cR 40 25 [(.t 39)], mV 38 40, eX 41 38 0, eX 42 38 1, ⟨some 7, none, [], .alc [(.it .i64 0), (.it .i64 0), (.it .i64 0), .ns]⟩, sO 4 7 41, mV 8 42] [])
(.seq (.seq (.reg false [
mV 43 8, ⟨some 44, none, [], .un .not (.t 43)⟩] [])
(.cond (.t 44)
(.exit 0)
.skip))
(.reg false [
mV 45 6, lQ 46 4 7, ⟨some 47, none, [], .bsl 4 [[(.it .i64 0), (.it .i64 0), (.it .i64 0), .ns]] [(0, (.t 46))]⟩, ⟨some 48, none, [], .app 4 48 (.t 45) (.t 47)⟩, mV 6 48] [])))))))
(.seq (.reg true [
mV 49 6, mV 50 0, nK 51 50, fA 52 3 51, lQ 53 3 52, mV 4 49, sO 3 5 53] [])
.ret)))))))⟩
def c14 : Ev.Fn := d14.den
theorem r14 : OK 14 c14 := rd d14 { loc := [5, 7], md := .rw, mds := mds, heap := [27, 29, 48, 47], own := [27, 29, 48], ord := [(4, [0, 1, 2, 3, 4, 6, 5, 7, 8, 9, 10]), (7, [0, 5, 1, 2, 3, 4, 6, 7])], clr := [], mask := [(6, [0, 5, 6], [7])], fns := [], lcl := [], hnd := [], pro := [] } Tryz.func14
def d15 : DFn := ⟨[(.c .one), (.g [.one, .one, .one, (.sl [.one])])], [], .rw, [],
(.seq (.reg false [
⟨some 3, none, [], .box (.t 1)⟩] [])
(.seq (.reg false [
lQ 8 4 3, cP 9 26 [(.t 8)], mV 7 9, eX 10 7 0, eX 11 7 1, ⟨some 4, none, [], .alc [(.it .i64 0), (.it .i64 0), (.bo false), (.bo false), (.bo false), .ns, (.it .i64 0), (.it .i64 0), (.it .i64 0), (.it .i64 0), .ns]⟩, ⟨some 5, none, [], .alc [(.it .i64 0), (.it .i64 0), (.it .i64 0)]⟩, sO 11 4 10, sO 3 5 11] [])
(.seq (.seq (.reg false [
fA 12 0 5, lD 13 1 12, ⟨some 14, none, [], .bin .no .eql (.t 13) (.k (.it .i64 2))⟩] [12])
(.cond (.t 14)
(.reg false [
mV 15 0, nK 16 15, fA 17 1 16, ⟨none, none, [], .sto 1 (.t 17) (.k (.bo true))⟩] [])
.skip))
(.seq (.seq (.reg false [
fA 18 0 5, lD 19 1 18, ⟨some 20, none, [], .bin .no .neq (.t 19) (.k (.it .i64 0))⟩] [18])
(.cond (.t 20)
.ret
.skip))
(.seq (.reg false [
mV 21 0, fA 22 1 4, lD 23 1 22, cR 24 27 [(.t 21), (.t 23)], mV 6 24] [22])
(.seq (.reg false [
fA 25 0 4, lD 26 1 25] [25])
(.blk 0 (.seq (.reg false [
⟨some 28, none, [], .bin .no .eql (.t 26) (.k (.it .i64 4))⟩, mV 27 28] [])
(.cond (.t 27)
(.seq (.reg false [
fA 29 4 4, lD 30 1 29, ⟨some 31, none, [], .un .not (.t 30)⟩] [29])
(.cond (.t 31)
(.reg true [
mV 32 0, mV 33 0, nK 34 33, fA 35 2 34, lD 36 1 35, fA 37 10 4, lD 38 1 37, ⟨some 39, none, [], .bsl 1 [[.ns]] [(0, (.t 38))]⟩, ⟨some 40, none, [], .app 1 24 (.t 36) (.t 39)⟩, nK 41 32, fA 42 2 41, sO 1 42 40] [37])
.skip))
(.seq (.reg false [
⟨some 44, none, [], .bin .no .eql (.t 26) (.k (.it .i64 8))⟩, mV 43 44] [])
(.cond (.t 43)
(.seq (.seq (.reg false [
fA 45 1 4, lD 46 1 45, ⟨some 47, none, [], .bin .no .eql (.t 46) (.k (.it .i64 0))⟩] [45])
(.cond (.t 47)
(.seq (.reg true [
mV 48 0, mV 49 0, nK 50 49, fA 51 5 50, lD 52 1 51, fA 53 8 4, lD 54 1 53, ⟨some 55, none, [], .bin .no .add (.t 52) (.t 54)⟩, ⟨some 56, none, [], .mnx false (.t 55) (.k (.it .i64 2147483647))⟩, nK 57 48, fA 58 5 57, sO 1 58 56] [53])
.ret)
.skip))
(.seq (.seq (.reg true [
mV 59 6, ⟨some 60, none, [], .bin .ptr .eql (.t 59) (.k .np)⟩, mV 61 60, ⟨some 62, some (61, true), [], .mov (.t 0)⟩, ⟨some 63, some (61, true), [], .nck (.t 62)⟩, ⟨some 64, some (61, true), [], .fad 0 (.t 63)⟩, ⟨some 65, some (61, true), [], .ld 1 false (.t 64)⟩, ⟨some 66, some (61, true), [], .un .not (.t 65)⟩, ⟨some 67, none, [], .pick (.t 61) (.t 66) (.k (.bo false))⟩, mV 68 67, ⟨some 69, some (68, true), [], .fad 1 (.t 4)⟩, ⟨some 70, some (68, true), [], .ld 1 false (.t 69)⟩, ⟨some 71, some (68, true), [], .bin .no .rem (.t 70) (.k (.it .i64 2))⟩, ⟨some 72, some (68, true), [], .bin .no .eql (.t 71) (.k (.it .i64 1))⟩, ⟨some 73, none, [], .pick (.t 68) (.t 72) (.k (.bo false))⟩, mV 74 73, ⟨some 75, some (74, true), [], .fad 1 (.t 4)⟩, ⟨some 76, some (74, true), [], .ld 1 false (.t 75)⟩, ⟨some 77, some (74, true), [], .mov (.t 0)⟩, ⟨some 78, some (74, true), [], .nck (.t 77)⟩, ⟨some 79, some (74, true), [], .fad 7 (.t 78)⟩, ⟨some 80, some (74, true), [], .ld 1 false (.t 79)⟩, ⟨some 81, some (74, true), [], .bin .no .gtr (.t 76) (.t 80)⟩, ⟨some 82, none, [], .pick (.t 74) (.t 81) (.k (.bo false))⟩] [69, 75])
(.cond (.t 82)
(.reg false [
mV 83 0, fA 84 1 4, lD 85 1 84, cR 86 28 [(.t 83), (.t 85)], mV 6 86] [84])
.skip))
(.seq (.reg false [
mV 87 6, ⟨some 88, none, [], .bin .ptr .neq (.t 87) (.k .np)⟩] [])
(.cond (.t 88)
(.reg true [
mV 89 6, nK 90 89, fA 91 2 90, lD 92 1 91, fA 93 8 4, lD 94 1 93, ⟨some 95, none, [], .bin .no .add (.t 92) (.t 94)⟩, nK 96 89, fA 97 2 96, sO 1 97 95] [93])
.skip))))
(.seq (.reg false [
⟨some 99, none, [], .bin .no .eql (.t 26) (.k (.it .i64 0))⟩, mV 98 99] [])
(.cond (.t 98)
(.reg false [
mV 100 6, fA 101 2 4, lD 102 1 101, cP 103 30 [(.k (.it .i64 3)), (.k (.it .i64 4)), (.t 102)], cR 104 29 [(.t 100), (.t 103)]] [101])
(.seq (.reg false [
⟨some 106, none, [], .bin .no .eql (.t 26) (.k (.it .i64 1))⟩, mV 105 106] [])
(.cond (.t 105)
(.seq (.seq (.reg false [
mV 107 6, ⟨some 108, none, [], .bin .ptr .eql (.t 107) (.k .np)⟩, mV 109 108, ⟨some 110, some (109, true), [], .mov (.t 0)⟩, ⟨some 111, some (109, true), [], .nck (.t 110)⟩, ⟨some 112, some (109, true), [], .fad 0 (.t 111)⟩, ⟨some 113, some (109, true), [], .ld 1 false (.t 112)⟩, ⟨some 114, none, [], .pick (.t 109) (.t 113) (.k (.bo false))⟩, mV 115 114, ⟨some 116, some (115, true), [], .fad 1 (.t 4)⟩, ⟨some 117, some (115, true), [], .ld 1 false (.t 116)⟩, ⟨some 118, some (115, true), [], .bin .no .rem (.t 117) (.k (.it .i64 2))⟩, ⟨some 119, some (115, true), [], .bin .no .eql (.t 118) (.k (.it .i64 1))⟩, ⟨some 120, none, [], .pick (.t 115) (.t 119) (.k (.bo false))⟩] [116])
(.cond (.t 120)
(.seq (.reg false [
mV 121 0, fA 122 1 4, lD 123 1 122, cR 124 28 [(.t 121), (.t 123)], mV 6 124] [122])
(.reg true [
mV 125 0, mV 126 0, nK 127 126, fA 128 7 127, lD 129 1 128, fA 130 1 4, lD 131 1 130, ⟨some 132, none, [], .mnx true (.t 129) (.t 131)⟩, nK 133 125, fA 134 7 133, sO 1 134 132] [130]))
.skip))
(.reg false [
mV 135 6, fA 136 2 4, lD 137 1 136, cP 138 30 [(.k (.it .i64 1)), (.k (.it .i64 2)), (.t 137)], cR 139 29 [(.t 135), (.t 138)]] [136]))
.skip)))))))))))))))⟩
def c15 : Ev.Fn := d15.den
theorem r15 : OK 15 c15 := rd d15 { loc := [3, 4, 5], md := .rw, mds := mds, heap := [40, 56, 132, 39], own := [40, 56, 132], ord := [(1, [0, 5, 6, 1, 2, 3, 4, 7, 8])], clr := [(2, [12]), (4, [18]), (5, [22]), (6, [25]), (8, [29]), (9, [37]), (11, [45]), (12, [53]), (13, [69, 75]), (14, [84]), (16, [93]), (18, [101]), (20, [116]), (21, [122]), (22, [130]), (23, [136])], mask := [], fns := [], lcl := [], hnd := [], pro := [] } Tryz.func15
def d16 : DFn := ⟨[(.c .one), (.c .one), (.c .one)], [(.g [.one, .one, .one, .one, .one, (.sl [.one]), .one, .one, .one, .one, (.sl [.one, .one])]), (.g [.one, .one, .one])], .pure, [.cell 6 11 true, .cell 7 3 true],
(.seq (.reg false [
⟨some 6, none, [], .alc [(.it .i64 0), (.it .i64 0), (.bo false), (.bo false), (.bo false), .ns, (.it .i64 0), (.it .i64 0), (.it .i64 0), (.it .i64 0), .ns]⟩, ⟨some 7, none, [], .alc [(.it .i64 0), (.it .i64 0), (.it .i64 0)]⟩] [])
(.seq (.seq (.reg false [
mV 8 0, ⟨some 9, none, [], .bin .no .eql (.t 8) (.k (.it .i64 2))⟩] [])
(.cond (.t 9)
(.reg false [
mK 2 (.it .i64 0)] [])
.skip))
(.seq (.reg false [
⟨some 10, none, [], .bld [(.it .i64 0), (.it .i64 0), (.bo false), (.bo false), (.bo false), .ns, (.it .i64 0), (.it .i64 0), (.it .i64 0), (.it .i64 0), .ns] []⟩, mV 11 0, mV 12 1, mV 13 2, ⟨some 14, none, [], .bld [(.it .i64 0), (.it .i64 0), (.it .i64 0)] [(0, 1, (.t 11)), (1, 1, (.t 12)), (2, 1, (.t 13))]⟩, sO 11 6 10, sO 3 7 14] [])
.ret)))⟩
def c16 : Ev.Fn := d16.den
theorem r16 : OK 16 c16 := rd d16 { loc := [6, 7], md := .pure, mds := mds, heap := [], own := [], ord := [], clr := [], mask := [], fns := [], lcl := [], hnd := [], pro := [] } Tryz.func16
def d17 : DFn := ⟨[(.g [.one, .one, .one, (.sl [.one])]), (.g [.one, .one, .one, .one, .one, (.sl [.one]), .one, .one, .one, .one, (.sl [.one, .one])])], [(.g [.one, .one, .one, .one, .one, (.sl [.one]), .one, .one, .one, .one, (.sl [.one, .one])]), (.g [.one, .one, .one])], .pure, [.cell 4 11 true, .cell 5 3 true],
(.seq (.reg false [
⟨some 2, none, [], .box (.t 0)⟩, ⟨some 3, none, [], .box (.t 1)⟩, ⟨some 4, none, [], .alc [(.it .i64 0), (.it .i64 0), (.bo false), (.bo false), (.bo false), .ns, (.it .i64 0), (.it .i64 0), (.it .i64 0), (.it .i64 0), .ns]⟩, ⟨some 5, none, [], .alc [(.it .i64 0), (.it .i64 0), (.it .i64 0)]⟩] [])
(.seq (.reg false [
fA 8 3 2, lD 9 1 8, mV 6 9] [8])
(.seq (.reg false [
fA 10 1 2, lD 11 1 10, ⟨some 12, none, [], .bin .no .and (.t 11) (.k (.it .i64 1))⟩, ⟨some 13, none, [], .bin .no .neq (.t 12) (.k (.it .i64 0))⟩, fA 14 2 3, sO 1 14 13] [10, 14])
(.seq (.seq (.reg false [
fA 15 0 2, lD 16 1 15, ⟨some 17, none, [], .bin .no .eql (.t 16) (.k (.it .i64 0))⟩] [15])
(.cond (.t 17)
(.reg false [
mV 18 6, lN 19 false 18, fA 20 9 3, sO 1 20 19] [20])
(.reg false [
fA 21 1 2, lD 22 1 21, ⟨some 23, none, [], .bin .no .and (.t 22) (.k (.it .i64 4))⟩, ⟨some 24, none, [], .bin .no .neq (.t 23) (.k (.it .i64 0))⟩, fA 25 3 3, sO 1 25 24] [21, 25])))
(.seq (.reg false [
mK 7 (.it .i64 0)] [])
(.seq (.seq (.reg false [
fA 26 1 2, lD 27 1 26, ⟨some 28, none, [], .bin .no .and (.t 27) (.k (.it .i64 8))⟩, ⟨some 29, none, [], .bin .no .neq (.t 28) (.k (.it .i64 0))⟩] [26])
(.cond (.t 29)
(.seq (.seq (.reg false [
mV 30 6, lN 31 false 30, ⟨some 32, none, [], .bin .no .eql (.t 31) (.k (.it .i64 0))⟩] [])
(.cond (.t 32)
(.seq (.reg false [
cP 33 16 [(.k (.it .i64 2)), (.k (.it .i64 6)), (.k (.it .i64 0))], eX 34 33 0, eX 35 33 1, sO 11 4 34, sO 3 5 35] [])
.ret)
.skip))
(.seq (.reg false [
mV 36 6, ⟨some 37, none, [], .ias 1 (.t 36) (.k (.it .i64 0))⟩, lD 38 1 37, cV 39 .i64 38, mV 7 39] [])
(.reg false [
mV 40 6, ⟨some 41, none, [], .slc false 1 (.t 40) (some (.k (.it .i64 1))) none⟩, mV 6 41] [])))
.skip))
(.seq (.seq (.reg false [
fA 42 0 2, lD 43 1 42, ⟨some 44, none, [], .bin .no .eql (.t 43) (.k (.it .i64 1))⟩, mV 45 44, ⟨some 46, some (45, true), [], .fad 1 (.t 2)⟩, ⟨some 47, some (45, true), [], .ld 1 false (.t 46)⟩, ⟨some 48, some (45, true), [], .bin .no .and (.t 47) (.k (.it .i64 32))⟩, ⟨some 49, some (45, true), [], .bin .no .neq (.t 48) (.k (.it .i64 0))⟩, ⟨some 50, none, [], .pick (.t 45) (.t 49) (.k (.bo false))⟩] [42, 46])
(.cond (.t 50)
(.seq (.seq (.reg false [
mV 51 6, lN 52 false 51, ⟨some 53, none, [], .bin .no .lss (.t 52) (.k (.it .i64 5))⟩] [])
(.cond (.t 53)
(.seq (.reg false [
cP 54 16 [(.k (.it .i64 2)), (.k (.it .i64 6)), (.k (.it .i64 0))], eX 55 54 0, eX 56 54 1, sO 11 4 55, sO 3 5 56] [])
.ret)
.skip))
(.seq (.seq (.reg true [
mV 57 6, fA 59 2 2, lD 60 1 59, cP 58 18 [(.t 57)], ⟨some 61, none, [], .bin .no .eql (.t 58) (.t 60)⟩] [59])
(.cond (.t 61)
(.seq (.reg false [
fA 62 2 2, lD 63 1 62, cP 64 16 [(.k (.it .i64 1)), (.k (.it .i64 1)), (.t 63)], eX 65 64 0, eX 66 64 1, sO 11 4 65, sO 3 5 66] [62])
.ret)
.skip))
(.reg false [
mV 67 6, ⟨some 68, none, [], .slc false 1 (.t 67) (some (.k (.it .i64 5))) none⟩, mV 6 68] [])))
.skip))
(.seq (.seq (.reg false [
mV 69 7, mV 70 6, lN 71 false 70, ⟨some 72, none, [], .bin .no .gtr (.t 69) (.t 71)⟩] [])
(.cond (.t 72)
(.seq (.reg false [
cP 73 16 [(.k (.it .i64 2)), (.k (.it .i64 1)), (.k (.it .i64 0))], eX 74 73 0, eX 75 73 1, sO 11 4 74, sO 3 5 75] [])
.ret)
.skip))
(.seq (.reg false [
⟨some 76, none, [], .bsl 1 [] []⟩, mV 77 6, mV 78 6, lN 79 false 78, mV 80 7, ⟨some 81, none, [], .bin .no .sub (.t 79) (.t 80)⟩, ⟨some 82, none, [], .slc false 1 (.t 77) none (some (.t 81))⟩, ⟨some 83, none, [], .app 1 1 (.t 76) (.t 82)⟩, fA 84 5 3, sO 1 84 83] [84])
(.seq (.reg false [
lQ 85 11 3, ⟨some 86, none, [], .bld [(.it .i64 0), (.it .i64 0), (.it .i64 0)] []⟩, sO 11 4 85, sO 3 5 86] [])
.ret))))))))))⟩
def c17 : Ev.Fn := d17.den
theorem r17 : OK 17 c17 := rd d17 { loc := [2, 3, 4, 5], md := .pure, mds := mds, heap := [76], own := [76], ord := [(15, [0, 2, 3, 1, 4]), (20, [1, 2, 3, 4, 5, 6, 0, 7, 8, 9])], clr := [(1, [8]), (2, [10, 14]), (3, [15]), (4, [20]), (5, [21, 25]), (7, [26]), (12, [42, 46]), (15, [59]), (16, [62]), (20, [84])], mask := [], fns := [], lcl := [], hnd := [], pro := [] } Tryz.func17
def d18 : DFn := ⟨[(.c (.sl [.one]))], [(.c .one)], .pure, [.tmp 2],
(.seq (.reg false [
mK 2 (.it .i64 0)] [])
(.seq (.reg true [
mV 3 0, ⟨some 4, none, [], .ias 1 (.t 3) (.k (.it .i64 0))⟩, lD 5 1 4, ⟨some 6, none, [], .bin .no .and (.t 5) (.k (.it .u8 127))⟩, cV 7 .i64 6, ⟨some 8, none, [], .bin .no .shl (.t 7) (.k (.it .u64 24))⟩, mV 9 0, ⟨some 10, none, [], .ias 1 (.t 9) (.k (.it .i64 1))⟩, lD 11 1 10, cV 12 .i64 11, ⟨some 13, none, [], .bin .no .shl (.t 12) (.k (.it .u64 16))⟩, ⟨some 14, none, [], .bin .no .or (.t 8) (.t 13)⟩, mV 15 0, ⟨some 16, none, [], .ias 1 (.t 15) (.k (.it .i64 2))⟩, lD 17 1 16, cV 18 .i64 17, ⟨some 19, none, [], .bin .no .shl (.t 18) (.k (.it .u64 8))⟩, ⟨some 20, none, [], .bin .no .or (.t 14) (.t 19)⟩, mV 21 0, ⟨some 22, none, [], .ias 1 (.t 21) (.k (.it .i64 3))⟩, lD 23 1 22, cV 24 .i64 23, ⟨some 25, none, [], .bin .no .or (.t 20) (.t 24)⟩, mV 2 25] [])
.ret))⟩
def c18 : Ev.Fn := d18.den
theorem r18 : OK 18 c18 := rd d18 { loc := [], md := .pure, mds := mds, heap := [], own := [], ord := [], clr := [], mask := [], fns := [], lcl := [], hnd := [], pro := [] } Tryz.func18
def d19 : DFn := ⟨[(.c (.sl [.one]))], [(.c .one)], .pure, [.tmp 2],
(.seq (.reg false [
mK 2 (.it .i64 0)] [])
(.seq (.reg true [
mV 3 0, ⟨some 4, none, [], .ias 1 (.t 3) (.k (.it .i64 0))⟩, lD 5 1 4, cV 6 .i64 5, ⟨some 7, none, [], .bin .no .shl (.t 6) (.k (.it .u64 24))⟩, mV 8 0, ⟨some 9, none, [], .ias 1 (.t 8) (.k (.it .i64 1))⟩, lD 10 1 9, cV 11 .i64 10, ⟨some 12, none, [], .bin .no .shl (.t 11) (.k (.it .u64 16))⟩, ⟨some 13, none, [], .bin .no .or (.t 7) (.t 12)⟩, mV 14 0, ⟨some 15, none, [], .ias 1 (.t 14) (.k (.it .i64 2))⟩, lD 16 1 15, cV 17 .i64 16, ⟨some 18, none, [], .bin .no .shl (.t 17) (.k (.it .u64 8))⟩, ⟨some 19, none, [], .bin .no .or (.t 13) (.t 18)⟩, mV 20 0, ⟨some 21, none, [], .ias 1 (.t 20) (.k (.it .i64 3))⟩, lD 22 1 21, cV 23 .i64 22, ⟨some 24, none, [], .bin .no .or (.t 19) (.t 23)⟩, mV 2 24] [])
.ret))⟩
def c19 : Ev.Fn := d19.den
theorem r19 : OK 19 c19 := rd d19 { loc := [], md := .pure, mds := mds, heap := [], own := [], ord := [], clr := [], mask := [], fns := [], lcl := [], hnd := [], pro := [] } Tryz.func19
def d20 : DFn := ⟨[(.g [.one, .one, .one, (.sl [.one])]), (.g [.one, .one, .one, .one, .one, (.sl [.one]), .one, .one, .one, .one, (.sl [.one, .one])])], [(.g [.one, .one, .one, .one, .one, (.sl [.one]), .one, .one, .one, .one, (.sl [.one, .one])]), (.g [.one, .one, .one])], .rw, [.cell 4 11 true, .cell 5 3 true],
(.seq (.reg false [
⟨some 2, none, [], .box (.t 0)⟩, ⟨some 3, none, [], .box (.t 1)⟩, ⟨some 4, none, [], .alc [(.it .i64 0), (.it .i64 0), (.bo false), (.bo false), (.bo false), .ns, (.it .i64 0), (.it .i64 0), (.it .i64 0), (.it .i64 0), .ns]⟩, ⟨some 5, none, [], .alc [(.it .i64 0), (.it .i64 0), (.it .i64 0)]⟩] [])
(.seq (.reg false [
fA 10 3 2, lD 11 1 10, mV 6 11] [10])
(.seq (.reg false [
fA 12 1 2, lD 13 1 12, ⟨some 14, none, [], .bin .no .and (.t 13) (.k (.it .i64 1))⟩, ⟨some 15, none, [], .bin .no .neq (.t 14) (.k (.it .i64 0))⟩, fA 16 4 3, sO 1 16 15] [12, 16])
(.seq (.seq (.reg false [
fA 17 4 3, lD 18 1 17, mV 19 18, ⟨some 20, some (19, true), [], .mov (.t 6)⟩, ⟨some 21, some (19, true), [], .len false (.t 20)⟩, ⟨some 22, some (19, true), [], .bin .no .gtr (.t 21) (.k (.it .i64 0))⟩, ⟨some 23, none, [], .pick (.t 19) (.t 22) (.k (.bo false))⟩, mV 24 23, ⟨some 25, some (24, false), [], .mov (.t 6)⟩, ⟨some 26, some (24, false), [], .len false (.t 25)⟩, ⟨some 27, some (24, false), [], .bin .no .rem (.t 26) (.k (.it .i64 6))⟩, ⟨some 28, some (24, false), [], .bin .no .neq (.t 27) (.k (.it .i64 0))⟩, ⟨some 29, none, [], .pick (.t 24) (.k (.bo true)) (.t 28)⟩] [17])
(.cond (.t 29)
(.seq (.reg false [
cP 30 16 [(.k (.it .i64 2)), (.k (.it .i64 6)), (.k (.it .i64 0))], eX 31 30 0, eX 32 30 1, sO 11 4 31, sO 3 5 32] [])
.ret)
.skip))
(.seq (.seq (.reg false [
mK 7 (.it .i64 0)] [])
(.blk 0 (.loop [3, 4, 5, 6, 7] [2, 8]
(.seq (.seq (.reg false [
mV 33 7, mV 34 6, lN 35 false 34, ⟨some 36, none, [], .bin .no .lss (.t 33) (.t 35)⟩] [])
(.cond (.t 36)
.skip
(.exit 0)))
(.seq (.blk 1 (.seq (.reg true [
mV 39 6, mV 40 7, ⟨some 41, none, [], .ias 1 (.t 39) (.t 40)⟩, lD 42 1 41, cV 43 .i64 42, ⟨some 44, none, [], .bin .no .shl (.t 43) (.k (.it .u64 8))⟩, mV 45 6, mV 46 7, ⟨some 47, none, [], .bin .no .add (.t 46) (.k (.it .i64 1))⟩, ⟨some 48, none, [], .ias 1 (.t 45) (.t 47)⟩, lD 49 1 48, cV 50 .i64 49, ⟨some 51, none, [], .bin .no .or (.t 44) (.t 50)⟩, mV 52 6, mV 53 7, ⟨some 54, none, [], .bin .no .add (.t 53) (.k (.it .i64 2))⟩, ⟨some 55, none, [], .slc false 1 (.t 52) (some (.t 54)) none⟩, ⟨some 8, none, [39, 41, 42, 45, 48, 49, 52], .alc [(.it .i64 0), (.it .i64 0)]⟩, cP 56 19 [(.t 55)], ⟨some 57, none, [], .bld [(.it .i64 0), (.it .i64 0)] [(0, 1, (.t 51)), (1, 1, (.t 56))]⟩, sO 2 8 57] [])
(.seq (.seq (.reg false [
lQ 58 2 8, cP 59 31 [(.t 58)], mV 9 59] [])
(.seq (.reg false [
mV 60 9, ⟨some 61, none, [], .bin .no .neq (.t 60) (.k (.it .i64 0))⟩] [])
(.cond (.t 61)
(.seq (.reg false [
mV 62 9, cP 63 16 [(.k (.it .i64 2)), (.t 62), (.k (.it .i64 0))], eX 64 63 0, eX 65 63 1, sO 11 4 64, sO 3 5 65] [])
.ret)
.skip)))
(.reg false [
fA 66 10 3, lD 67 1 66, lQ 68 2 8, ⟨some 69, none, [], .bsv [.one, .one] 2 [[(.it .i64 0), (.it .i64 0)]] [(0, (.t 68))]⟩, ⟨some 70, none, [], .app 2 16 (.t 67) (.t 69)⟩, fA 71 10 3, sO 1 71 70] [66, 71]))))
(.reg false [
mV 37 7, ⟨some 38, none, [], .bin .no .add (.t 37) (.k (.it .i64 6))⟩, mV 7 38] []))))))
(.seq (.reg false [
lQ 72 11 3, ⟨some 73, none, [], .bld [(.it .i64 0), (.it .i64 0), (.it .i64 0)] []⟩, sO 11 4 72, sO 3 5 73] [])
.ret))))))⟩
def c20 : Ev.Fn := d20.den
theorem r20 : OK 20 c20 := rd d20 { loc := [2, 3, 4, 5, 8], md := .rw, mds := mds, heap := [], own := [], ord := [(8, [0, 1, 2, 3, 4, 5, 6, 7, 8, 9, 10, 11, 12, 13, 14, 15, 16, 19, 17, 18, 20])], clr := [(1, [10]), (2, [12, 16]), (3, [17]), (12, [66, 71])], mask := [(6, [3, 4, 5, 6, 7], [2, 8])], fns := [], lcl := [], hnd := [], pro := [] } Tryz.func20
def d21 : DFn := ⟨[(.c .one)], [(.c .one), (.c .one)], .rw, [.tmp 2, .tmp 3],
(.seq (.reg false [
mK 2 .np, mK 3 (.it .i64 0)] [])
(.seq (.seq (.reg false [
mV 4 0, cP 5 32 [(.t 4)], ⟨some 6, none, [], .un .not (.t 5)⟩] [])
(.cond (.t 6)
(.seq (.reg false [
mK 2 .np, mK 3 (.it .i64 1)] [])
.ret)
.skip))
(.seq (.reg false [
cP 7 33 [], mV 8 0, ⟨some 9, none, [], .bld [.ns, .ns, (.it .i64 0), (.it .i64 0)] [(1, 1, (.t 7)), (3, 1, (.t 8))]⟩, ⟨some 10, none, [], .bxh (.t 9)⟩, mV 2 10, mK 3 (.it .i64 0)] [])
.ret)))⟩
def c21 : Ev.Fn := d21.den
theorem r21 : OK 21 c21 := rd d21 { loc := [], md := .rw, mds := mds, heap := [], own := [], ord := [(3, [1, 0, 2, 3, 4, 5])], clr := [], mask := [], fns := [], lcl := [], hnd := [], pro := [] } Tryz.func21
def d22 : DFn := ⟨[(.c .one)], [(.c .one)], .pure, [.tmp 2],
(.seq (.reg false [
mK 2 (.bo false)] [])
(.seq (.reg false [
mV 3 0, ⟨some 4, none, [], .bin .no .geq (.t 3) (.k (.it .i64 16384))⟩, mV 5 4, ⟨some 6, some (5, true), [], .mov (.t 0)⟩, ⟨some 7, some (5, true), [], .bin .no .leq (.t 6) (.k (.it .i64 16777215))⟩, ⟨some 8, none, [], .pick (.t 5) (.t 7) (.k (.bo false))⟩, mV 2 8] [])
.ret))⟩
def c22 : Ev.Fn := d22.den
theorem r22 : OK 22 c22 := rd d22 { loc := [], md := .pure, mds := mds, heap := [], own := [], ord := [], clr := [], mask := [], fns := [], lcl := [], hnd := [], pro := [] } Tryz.func22
def d23 : DFn := ⟨[(.c .one), (.g [.one, .one, .one, (.sl [.one])])], [(.c .one)], .rw, [.tmp 4],
(.seq (.reg false [
⟨some 3, none, [], .box (.t 1)⟩, mK 4 (.bo false)] [])
(.seq (.reg false [
lQ 9 4 3, cP 10 26 [(.t 9)], mV 8 10, eX 11 8 0, eX 12 8 1, ⟨some 5, none, [], .alc [(.it .i64 0), (.it .i64 0), (.bo false), (.bo false), (.bo false), .ns, (.it .i64 0), (.it .i64 0), (.it .i64 0), (.it .i64 0), .ns]⟩, ⟨some 6, none, [], .alc [(.it .i64 0), (.it .i64 0), (.it .i64 0)]⟩, sO 11 5 11, sO 3 6 12] [])
(.seq (.seq (.reg false [
fA 13 0 6, lD 14 1 13, ⟨some 15, none, [], .bin .no .neq (.t 14) (.k (.it .i64 0))⟩, mV 16 15, ⟨some 17, some (16, false), [], .mov (.t 0)⟩, ⟨some 18, some (16, false), [], .ld 4 true (.t 3)⟩, ⟨some 19, some (16, false), [], .call false .rw 34 [(.t 17), (.t 18)]⟩, ⟨some 20, some (16, false), [], .un .not (.t 19)⟩, ⟨some 21, none, [], .pick (.t 16) (.k (.bo true)) (.t 20)⟩] [13])
(.cond (.t 21)
(.seq (.reg false [
mK 4 (.bo false)] [])
.ret)
.skip))
(.seq (.seq (.reg false [
fA 22 0 5, lD 23 1 22] [22])
(.blk 0 (.seq (.reg false [
⟨some 25, none, [], .bin .no .eql (.t 23) (.k (.it .i64 4))⟩, mV 24 25] [])
(.cond (.t 24)
(.seq (.reg false [
fA 26 4 5, lD 27 1 26, ⟨some 28, none, [], .un .not (.t 27)⟩, mV 29 28, ⟨some 30, some (29, false), [], .mov (.t 0)⟩, ⟨some 31, some (29, false), [], .call false .rw 35 [(.t 30)]⟩, ⟨some 32, none, [], .pick (.t 29) (.k (.bo true)) (.t 31)⟩, mV 4 32] [26])
.ret)
(.seq (.reg false [
⟨some 34, none, [], .bin .no .eql (.t 23) (.k (.it .i64 7))⟩, mV 33 34] [])
(.cond (.t 33)
(.reg false [
mV 35 0, nK 36 35, fA 37 9 36, ⟨none, none, [], .sto 1 (.t 37) (.k (.bo true))⟩] [])
(.seq (.reg false [
⟨some 39, none, [], .bin .no .eql (.t 23) (.k (.it .i64 3))⟩, mV 38 39] [])
(.cond (.t 38)
(.seq (.seq (.reg true [
fA 40 1 5, lD 41 1 40, ⟨some 42, none, [], .bin .no .rem (.t 41) (.k (.it .i64 2))⟩, ⟨some 43, none, [], .bin .no .eql (.t 42) (.k (.it .i64 0))⟩, mV 44 43, ⟨some 45, some (44, false), [], .fad 1 (.t 5)⟩, ⟨some 46, some (44, false), [], .ld 1 false (.t 45)⟩, ⟨some 47, some (44, false), [], .mov (.t 0)⟩, ⟨some 48, some (44, false), [], .nck (.t 47)⟩, ⟨some 49, some (44, false), [], .fad 7 (.t 48)⟩, ⟨some 50, some (44, false), [], .ld 1 false (.t 49)⟩, ⟨some 51, some (44, false), [], .bin .no .gtr (.t 46) (.t 50)⟩, ⟨some 52, none, [], .pick (.t 44) (.k (.bo true)) (.t 51)⟩] [40, 45])
(.cond (.t 52)
(.seq (.reg false [
mK 4 (.bo false)] [])
.ret)
.skip))
(.seq (.reg false [
mV 53 0, fA 54 1 5, lD 55 1 54, cR 56 27 [(.t 53), (.t 55)], mV 7 56] [54])
(.seq (.reg false [
mV 57 7, ⟨some 58, none, [], .bin .ptr .neq (.t 57) (.k .np)⟩] [])
(.cond (.t 58)
(.reg false [
mV 59 7, nK 60 59, fA 61 1 60, ⟨none, none, [], .sto 1 (.t 61) (.k (.it .i64 4))⟩] [])
.skip))))
(.seq (.reg false [
⟨some 63, none, [], .bin .no .eql (.t 23) (.k (.it .i64 0))⟩, mV 62 63] [])
(.cond (.t 62)
(.seq (.reg false [
mV 64 0, lQ 65 11 5, cR 66 36 [(.t 64), (.t 65)], mV 4 66] [])
.ret)
(.seq (.reg false [
⟨some 68, none, [], .bin .no .eql (.t 23) (.k (.it .i64 1))⟩, mV 67 68] [])
(.cond (.t 67)
(.seq (.reg false [
mV 69 0, lQ 70 11 5, cR 71 37 [(.t 69), (.t 70)], mV 4 71] [])
.ret)
(.seq (.reg false [
⟨some 73, none, [], .bin .no .eql (.t 23) (.k (.it .i64 9))⟩, mV 72 73] [])
(.cond (.t 72)
(.seq (.reg false [
mV 74 0, lQ 75 11 5, cR 76 38 [(.t 74), (.t 75)], mV 4 76] [])
.ret)
.skip))))))))))))))
(.seq (.reg false [
mK 4 (.bo true)] [])
.ret)))))⟩
def c23 : Ev.Fn := d23.den
theorem r23 : OK 23 c23 := rd d23 { loc := [3, 5, 6], md := .rw, mds := mds, heap := [], own := [], ord := [(0, [1, 0]), (1, [0, 5, 6, 1, 2, 3, 4, 7, 8])], clr := [(2, [13]), (4, [22]), (6, [26]), (10, [40, 45]), (12, [54])], mask := [], fns := [], lcl := [], hnd := [], pro := [] } Tryz.func23
def d24 : DFn := ⟨[(.c .one), (.c (.sl [.one]))], [(.c (.sl [.one]))], .rw, [.tmp 4],
(.seq (.reg false [
mK 4 .ns] [])
(.seq (.blk 0 (.loop [0, 1] []
(.seq (.seq (.reg false [
mV 5 1, lN 6 false 5, ⟨some 7, none, [], .bin .no .gtr (.t 6) (.k (.it .i64 0))⟩, mV 8 7, ⟨some 9, some (8, true), [], .mov (.t 0)⟩, ⟨some 10, some (8, true), [], .nck (.t 9)⟩, ⟨some 11, some (8, true), [], .fad 1 (.t 10)⟩, ⟨some 12, some (8, true), [], .ld 1 false (.t 11)⟩, ⟨some 13, some (8, true), [], .bin .no .neq (.t 12) (.k (.st []))⟩, ⟨some 14, none, [], .pick (.t 8) (.t 13) (.k (.bo false))⟩] [])
(.cond (.t 14)
.skip
(.exit 0)))
(.blk 1 (.seq (.seq (.reg true [
mV 15 1, ⟨some 16, none, [], .ias 1 (.t 15) (.k (.it .i64 0))⟩, lD 17 1 16, mV 18 0, nK 19 18, fA 20 1 19, lD 21 1 20, ⟨some 22, none, [], .ixs (.t 21) (.k (.it .i64 0))⟩, ⟨some 23, none, [], .bin .no .neq (.t 17) (.t 22)⟩] [])
(.cond (.t 23)
(.seq (.reg false [
mV 24 0, cR 25 39 [(.t 24), (.k (.it .i64 1))]] [])
(.seq (.reg false [
mK 4 .ns] [])
.ret))
.skip))
(.reg true [
mV 26 0, mV 27 1, ⟨some 28, none, [], .slc false 1 (.t 27) (some (.k (.it .i64 1))) none⟩, mV 29 0, nK 30 29, fA 31 1 30, lD 32 1 31, ⟨some 33, none, [], .slc true 0 (.t 32) (some (.k (.it .i64 1))) none⟩, mV 1 28, nK 34 26, fA 35 1 34, sO 1 35 33] []))))))
(.seq (.reg false [
mV 36 1, mV 4 36] [])
.ret)))⟩
def c24 : Ev.Fn := d24.den
theorem r24 : OK 24 c24 := rd d24 { loc := [], md := .rw, mds := mds, heap := [], own := [], ord := [], clr := [], mask := [(1, [0, 1], [])], fns := [], lcl := [], hnd := [], pro := [] } Tryz.func24
def d25 : DFn := ⟨[(.c .one)], [(.g [.one, .one, .one, (.sl [.one])]), (.c .one)], .rw, [.cell 2 4 true, .tmp 3],
(.seq (.reg false [
⟨some 2, none, [], .alc [(.it .i64 0), (.it .i64 0), (.it .i64 0), .ns]⟩, mK 3 (.bo false)] [])
(.seq (.seq (.reg false [
mV 7 0, nK 8 7, fA 9 2 8, lD 10 1 9, lN 11 false 10, ⟨some 12, none, [], .bin .no .lss (.t 11) (.k (.it .i64 9))⟩] [])
(.cond (.t 12)
(.seq (.reg false [
⟨some 13, none, [], .bld [(.it .i64 0), (.it .i64 0), (.it .i64 0), .ns] []⟩, sO 4 2 13, mK 3 (.bo false)] [])
.ret)
.skip))
(.seq (.reg false [
mV 14 0, nK 15 14, fA 16 2 15, lD 17 1 16, ⟨some 18, none, [], .slc false 1 (.t 17) none (some (.k (.it .i64 9)))⟩, mV 4 18] [])
(.seq (.reg true [
mV 19 4, ⟨some 20, none, [], .ias 1 (.t 19) (.k (.it .i64 0))⟩, lD 21 1 20, cV 22 .i64 21, ⟨some 23, none, [], .bin .no .shl (.t 22) (.k (.it .u64 16))⟩, mV 24 4, ⟨some 25, none, [], .ias 1 (.t 24) (.k (.it .i64 1))⟩, lD 26 1 25, cV 27 .i64 26, ⟨some 28, none, [], .bin .no .shl (.t 27) (.k (.it .u64 8))⟩, ⟨some 29, none, [], .bin .no .or (.t 23) (.t 28)⟩, mV 30 4, ⟨some 31, none, [], .ias 1 (.t 30) (.k (.it .i64 2))⟩, lD 32 1 31, cV 33 .i64 32, ⟨some 34, none, [], .bin .no .or (.t 29) (.t 33)⟩, mV 5 34] [])
(.seq (.seq (.reg false [
mV 35 5, mV 36 0, nK 37 36, fA 38 0 37, lD 39 1 38, ⟨some 40, none, [], .bin .no .gtr (.t 35) (.t 39)⟩] [])
(.cond (.t 40)
(.seq (.reg false [
mV 41 0, cR 42 39 [(.t 41), (.k (.it .i64 6))]] [])
(.seq (.reg false [
⟨some 43, none, [], .bld [(.it .i64 0), (.it .i64 0), (.it .i64 0), .ns] []⟩, sO 4 2 43, mK 3 (.bo false)] [])
.ret))
.skip))
(.seq (.seq (.reg false [
mV 44 0, nK 45 44, fA 46 2 45, lD 47 1 46, lN 48 false 47, mV 49 5, ⟨some 50, none, [], .bin .no .add (.k (.it .i64 9)) (.t 49)⟩, ⟨some 51, none, [], .bin .no .lss (.t 48) (.t 50)⟩] [])
(.cond (.t 51)
(.seq (.reg false [
⟨some 52, none, [], .bld [(.it .i64 0), (.it .i64 0), (.it .i64 0), .ns] []⟩, sO 4 2 52, mK 3 (.bo false)] [])
.ret)
.skip))
(.seq (.reg true [
mV 53 4, ⟨some 54, none, [], .ias 1 (.t 53) (.k (.it .i64 3))⟩, lD 55 1 54, cV 56 .i64 55, mV 57 4, ⟨some 58, none, [], .ias 1 (.t 57) (.k (.it .i64 4))⟩, lD 59 1 58, cV 60 .i64 59, mV 61 4, ⟨some 62, none, [], .ias 1 (.t 61) (.k (.it .i64 5))⟩, lD 63 1 62, ⟨some 64, none, [], .bin .no .and (.t 63) (.k (.it .u8 127))⟩, cV 65 .i64 64, ⟨some 66, none, [], .bin .no .shl (.t 65) (.k (.it .u64 24))⟩, mV 67 4, ⟨some 68, none, [], .ias 1 (.t 67) (.k (.it .i64 6))⟩, lD 69 1 68, cV 70 .i64 69, ⟨some 71, none, [], .bin .no .shl (.t 70) (.k (.it .u64 16))⟩, ⟨some 72, none, [], .bin .no .or (.t 66) (.t 71)⟩, mV 73 4, ⟨some 74, none, [], .ias 1 (.t 73) (.k (.it .i64 7))⟩, lD 75 1 74, cV 76 .i64 75, ⟨some 77, none, [], .bin .no .shl (.t 76) (.k (.it .u64 8))⟩, ⟨some 78, none, [], .bin .no .or (.t 72) (.t 77)⟩, mV 79 4, ⟨some 80, none, [], .ias 1 (.t 79) (.k (.it .i64 8))⟩, lD 81 1 80, cV 82 .i64 81, ⟨some 83, none, [], .bin .no .or (.t 78) (.t 82)⟩, ⟨some 84, none, [], .bld [(.it .i64 0), (.it .i64 0), (.it .i64 0), .ns] [(0, 1, (.t 56)), (1, 1, (.t 60)), (2, 1, (.t 83))]⟩, ⟨some 6, none, [53, 54, 55, 57, 58, 59, 61, 62, 64, 67, 68, 69, 73, 74, 75, 79, 80, 81], .alc [(.it .i64 0), (.it .i64 0), (.it .i64 0), .ns]⟩, sO 4 6 84] [])
(.seq (.reg false [
mV 85 0, nK 86 85, fA 87 2 86, lD 88 1 87, mV 89 5, ⟨some 90, none, [], .bin .no .add (.k (.it .i64 9)) (.t 89)⟩, ⟨some 91, none, [], .slc false 1 (.t 88) (some (.k (.it .i64 9))) (some (.t 90))⟩, ⟨some 92, none, [], .app 1 1 (.k .ns) (.t 91)⟩, fA 93 3 6, sO 1 93 92] [93])
(.seq (.reg false [
mV 94 0, mV 95 0, nK 96 95, fA 97 2 96, lD 98 1 97, mV 99 5, ⟨some 100, none, [], .bin .no .add (.k (.it .i64 9)) (.t 99)⟩, ⟨some 101, none, [], .slc false 1 (.t 98) (some (.t 100)) none⟩, nK 102 94, fA 103 2 102, sO 1 103 101] [])
(.seq (.reg false [
lQ 104 4 6, sO 4 2 104, mK 3 (.bo true)] [])
.ret))))))))))⟩
def c25 : Ev.Fn := d25.den
theorem r25 : OK 25 c25 := rd d25 { loc := [2, 6], md := .rw, mds := mds, heap := [], own := [], ord := [(0, [1, 0])], clr := [(11, [93])], mask := [], fns := [], lcl := [], hnd := [], pro := [] } Tryz.func25
def d26 : DFn := ⟨[(.g [.one, .one, .one, (.sl [.one])])], [(.g [.one, .one, .one, .one, .one, (.sl [.one]), .one, .one, .one, .one, (.sl [.one, .one])]), (.g [.one, .one, .one])], .pure, [.cell 2 11 true, .cell 3 3 true],
(.seq (.reg false [
⟨some 1, none, [], .box (.t 0)⟩, ⟨some 2, none, [], .alc [(.it .i64 0), (.it .i64 0), (.bo false), (.bo false), (.bo false), .ns, (.it .i64 0), (.it .i64 0), (.it .i64 0), (.it .i64 0), .ns]⟩, ⟨some 3, none, [], .alc [(.it .i64 0), (.it .i64 0), (.it .i64 0)]⟩] [])
(.seq (.reg false [
fA 6 0 1, lD 7 1 6, fA 8 2 1, lD 9 1 8, ⟨some 10, none, [], .bld [(.it .i64 0), (.it .i64 0), (.bo false), (.bo false), (.bo false), .ns, (.it .i64 0), (.it .i64 0), (.it .i64 0), (.it .i64 0), .ns] [(0, 1, (.t 7)), (1, 1, (.t 9))]⟩, ⟨some 4, none, [6, 8], .alc [(.it .i64 0), (.it .i64 0), (.bo false), (.bo false), (.bo false), .ns, (.it .i64 0), (.it .i64 0), (.it .i64 0), (.it .i64 0), .ns]⟩, sO 11 4 10] [6, 8])
(.seq (.seq (.reg false [
lQ 11 4 1, cP 12 40 [(.t 11)], ⟨some 13, none, [], .un .not (.t 12)⟩, mV 14 13, ⟨some 15, some (14, false), [], .fad 0 (.t 1)⟩, ⟨some 16, some (14, false), [], .ld 1 false (.t 15)⟩, ⟨some 17, some (14, false), [], .bin .no .gtr (.t 16) (.k (.it .i64 9))⟩, ⟨some 18, none, [], .pick (.t 14) (.k (.bo true)) (.t 17)⟩] [15])
(.cond (.t 18)
(.seq (.reg false [
lQ 19 11 4, ⟨some 20, none, [], .bld [(.it .i64 0), (.it .i64 0), (.it .i64 0)] []⟩, sO 11 2 19, sO 3 3 20] [])
.ret)
.skip))
(.seq (.seq (.reg false [
lQ 21 4 1, cP 22 41 [(.t 21)]] [])
(.cond (.t 22)
(.seq (.reg false [
⟨some 23, none, [], .bld [(.it .i64 0), (.it .i64 0), (.bo false), (.bo false), (.bo false), .ns, (.it .i64 0), (.it .i64 0), (.it .i64 0), (.it .i64 0), .ns] []⟩, cP 24 42 [(.k (.it .i64 1))], sO 11 2 23, sO 3 3 24] [])
.ret)
.skip))
(.seq (.reg false [
fA 25 3 1, lD 26 1 25, mV 5 26] [25])
(.seq (.seq (.reg false [
fA 27 0 1, lD 28 1 27] [27])
(.blk 0 (.seq (.reg false [
⟨some 30, none, [], .bin .no .eql (.t 28) (.k (.it .i64 0))⟩, mV 29 30] [])
(.cond (.t 29)
(.seq (.reg false [
lQ 31 4 1, lQ 32 11 4, cP 33 43 [(.t 31), (.t 32)], eX 34 33 0, eX 35 33 1, sO 11 2 34, sO 3 3 35] [])
.ret)
(.seq (.reg false [
⟨some 37, none, [], .bin .no .eql (.t 28) (.k (.it .i64 1))⟩, mV 36 37] [])
(.cond (.t 36)
(.seq (.reg false [
lQ 38 4 1, lQ 39 11 4, cP 40 44 [(.t 38), (.t 39)], eX 41 40 0, eX 42 40 1, sO 11 2 41, sO 3 3 42] [])
.ret)
(.seq (.reg false [
⟨some 44, none, [], .bin .no .eql (.t 28) (.k (.it .i64 2))⟩, mV 43 44] [])
(.cond (.t 43)
(.seq (.reg false [
lQ 45 4 1, lQ 46 11 4, cP 47 45 [(.t 45), (.t 46)], eX 48 47 0, eX 49 47 1, sO 11 2 48, sO 3 3 49] [])
.ret)
(.seq (.reg false [
⟨some 51, none, [], .bin .no .eql (.t 28) (.k (.it .i64 3))⟩, mV 50 51] [])
(.cond (.t 50)
(.seq (.seq (.reg false [
mV 52 5, lN 53 false 52, ⟨some 54, none, [], .bin .no .neq (.t 53) (.k (.it .i64 4))⟩] [])
(.cond (.t 54)
(.seq (.reg false [
⟨some 55, none, [], .bld [(.it .i64 0), (.it .i64 0), (.bo false), (.bo false), (.bo false), .ns, (.it .i64 0), (.it .i64 0), (.it .i64 0), (.it .i64 0), .ns] []⟩, cP 56 42 [(.k (.it .i64 6))], sO 11 2 55, sO 3 3 56] [])
.ret)
.skip))
(.reg false [
mV 57 5, cP 58 46 [(.t 57)], fA 59 6 4, sO 1 59 58] [59]))
(.seq (.reg false [
⟨some 61, none, [], .bin .no .eql (.t 28) (.k (.it .i64 4))⟩, mV 60 61] [])
(.cond (.t 60)
(.seq (.reg false [
lQ 62 4 1, lQ 63 11 4, cR 64 47 [(.t 62), (.t 63)], eX 65 64 0, eX 66 64 1, sO 11 2 65, sO 3 3 66] [])
.ret)
(.seq (.reg false [
⟨some 68, none, [], .bin .no .eql (.t 28) (.k (.it .i64 6))⟩, mV 67 68] [])
(.cond (.t 67)
(.seq (.seq (.reg false [
mV 69 5, lN 70 false 69, ⟨some 71, none, [], .bin .no .neq (.t 70) (.k (.it .i64 8))⟩] [])
(.cond (.t 71)
(.seq (.reg false [
⟨some 72, none, [], .bld [(.it .i64 0), (.it .i64 0), (.bo false), (.bo false), (.bo false), .ns, (.it .i64 0), (.it .i64 0), (.it .i64 0), (.it .i64 0), .ns] []⟩, cP 73 42 [(.k (.it .i64 6))], sO 11 2 72, sO 3 3 73] [])
.ret)
.skip))
(.reg true [
fA 74 1 1, lD 75 1 74, ⟨some 76, none, [], .bin .no .and (.t 75) (.k (.it .i64 1))⟩, ⟨some 77, none, [], .bin .no .neq (.t 76) (.k (.it .i64 0))⟩, mV 78 5, fA 80 4 4, cP 79 48 [(.t 78)], sO 1 80 77, fA 81 5 4, sO 1 81 79] [74, 80, 81]))
(.seq (.reg false [
⟨some 83, none, [], .bin .no .eql (.t 28) (.k (.it .i64 7))⟩, mV 82 83] [])
(.cond (.t 82)
(.seq (.seq (.reg false [
mV 84 5, lN 85 false 84, ⟨some 86, none, [], .bin .no .lss (.t 85) (.k (.it .i64 8))⟩] [])
(.cond (.t 86)
(.seq (.reg false [
⟨some 87, none, [], .bld [(.it .i64 0), (.it .i64 0), (.bo false), (.bo false), (.bo false), .ns, (.it .i64 0), (.it .i64 0), (.it .i64 0), (.it .i64 0), .ns] []⟩, cP 88 42 [(.k (.it .i64 6))], sO 11 2 87, sO 3 3 88] [])
.ret)
.skip))
(.reg true [
mV 89 5, mV 91 5, ⟨some 92, none, [], .slc false 1 (.t 91) (some (.k (.it .i64 4))) none⟩, mV 94 5, ⟨some 95, none, [], .slc false 1 (.t 94) (some (.k (.it .i64 8))) none⟩, cP 90 49 [(.t 89)], fA 97 7 4, cP 93 46 [(.t 92)], cP 96 48 [(.t 95)], sO 1 97 90, fA 98 6 4, sO 1 98 93, fA 99 5 4, sO 1 99 96] [97, 98, 99]))
(.seq (.reg false [
⟨some 101, none, [], .bin .no .eql (.t 28) (.k (.it .i64 8))⟩, mV 100 101] [])
(.cond (.t 100)
(.seq (.reg false [
lQ 102 4 1, lQ 103 11 4, cP 104 50 [(.t 102), (.t 103)], eX 105 104 0, eX 106 104 1, sO 11 2 105, sO 3 3 106] [])
.ret)
(.seq (.reg false [
⟨some 108, none, [], .bin .no .eql (.t 28) (.k (.it .i64 9))⟩, mV 107 108] [])
(.cond (.t 107)
(.reg true [
fA 109 1 1, lD 110 1 109, ⟨some 111, none, [], .bin .no .and (.t 110) (.k (.it .i64 4))⟩, ⟨some 112, none, [], .bin .no .neq (.t 111) (.k (.it .i64 0))⟩, mV 113 5, fA 115 3 4, cP 114 48 [(.t 113)], sO 1 115 112, fA 116 5 4, sO 1 116 114] [109, 115, 116])
.skip))))))))))))))))))))
(.seq (.reg false [
lQ 117 11 4, ⟨some 118, none, [], .bld [(.it .i64 0), (.it .i64 0), (.it .i64 0)] []⟩, sO 11 2 117, sO 3 3 118] [])
.ret)))))))⟩
def c26 : Ev.Fn := d26.den
theorem r26 : OK 26 c26 := rd d26 { loc := [1, 2, 3, 4], md := .pure, mds := mds, heap := [], own := [], ord := [(23, [0, 1, 2, 3, 4, 6, 5, 7, 8, 9]), (27, [0, 2, 3, 5, 6, 1, 8, 4, 7, 9, 10, 11, 12, 13]), (31, [0, 1, 2, 3, 4, 6, 5, 7, 8, 9])], clr := [(1, [6, 8]), (2, [15]), (6, [25]), (7, [27]), (17, [59]), (23, [74, 80, 81]), (27, [97, 98, 99]), (31, [109, 115, 116])], mask := [], fns := [], lcl := [], hnd := [], pro := [] } Tryz.func26
def d27 : DFn := ⟨[(.c .one), (.c .one)], [(.c .one)], .rw, [.tmp 4],
(.seq (.reg false [
mK 4 .np] [])
(.seq (.seq (.reg false [
mV 7 0, nK 8 7, fA 9 3 8, lD 10 1 9, lN 11 false 10, mK 12 (.it .i64 0)] [])
(.blk 0 (.loop [1, 10, 11, 12] []
(.seq (.reg false [
⟨some 13, none, [], .bin .no .lss (.t 12) (.t 11)⟩] [])
(.seq (.cond (.t 13)
.skip
(.exit 0))
(.seq (.blk 1 (.seq (.reg false [
⟨some 14, none, [], .ias 1 (.t 10) (.t 12)⟩, lD 15 1 14, mV 6 15] [])
(.seq (.reg false [
mV 16 6, nK 17 16, fA 18 0 17, lD 19 1 18, mV 20 1, ⟨some 21, none, [], .bin .no .eql (.t 19) (.t 20)⟩] [])
(.cond (.t 21)
(.seq (.reg false [
mV 22 6, mV 4 22] [])
.ret)
.skip))))
(.reg false [
⟨some 23, none, [], .bin .no .add (.t 12) (.k (.it .i64 1))⟩, mV 12 23] [])))))))
(.seq (.reg false [
mK 4 .np] [])
.ret)))⟩
def c27 : Ev.Fn := d27.den
theorem r27 : OK 27 c27 := rd d27 { loc := [], md := .rw, mds := mds, heap := [], own := [], ord := [], clr := [], mask := [(2, [1, 10, 11, 12], [])], fns := [], lcl := [], hnd := [], pro := [] } Tryz.func27
def d28 : DFn := ⟨[(.c .one), (.c .one)], [(.c .one)], .rw, [.tmp 4],
(.seq (.reg false [
mK 4 .np] [])
(.seq (.reg false [
mV 6 1, mV 7 0, nK 8 7, fA 9 4 8, lD 10 1 9, ⟨some 11, none, [], .bld [(.it .i64 0), (.it .i64 0), (.it .i64 0)] [(0, 1, (.t 6)), (1, 1, (.k (.it .i64 0))), (2, 1, (.t 10))]⟩, ⟨some 12, none, [], .bxh (.t 11)⟩, mV 5 12] [])
(.seq (.reg false [
mV 13 0, mV 14 0, nK 15 14, fA 16 3 15, lD 17 1 16, mV 18 5, ⟨some 19, none, [], .bsl 1 [[.np]] [(0, (.t 18))]⟩, ⟨some 20, none, [], .app 1 8 (.t 17) (.t 19)⟩, nK 21 13, fA 22 3 21, sO 1 22 20] [])
(.seq (.reg false [
mV 23 5, mV 4 23] [])
.ret))))⟩
def c28 : Ev.Fn := d28.den
theorem r28 : OK 28 c28 := rd d28 { loc := [], md := .rw, mds := mds, heap := [20, 19], own := [20], ord := [], clr := [], mask := [], fns := [], lcl := [], hnd := [], pro := [] } Tryz.func28
def d29 : DFn := ⟨[(.c .one), (.c .one)], [], .rw, [],
(.seq (.seq (.reg false [
mV 6 0, ⟨some 7, none, [], .bin .ptr .eql (.t 6) (.k .np)⟩] [])
(.cond (.t 7)
.ret
.skip))
(.seq (.reg false [
mV 9 0, nK 10 9, fA 11 1 10, lD 12 1 11, mV 13 1, ⟨some 14, none, [], .call true .pure 51 [(.t 12), (.t 13)]⟩, mV 8 14, eX 15 8 0, eX 16 8 1, mV 4 15, mV 5 16] [])
(.seq (.reg false [
mV 17 5] [])
(.cond (.t 17)
(.reg false [
mV 18 0, mV 19 4, nK 20 18, fA 21 1 20, sO 1 21 19] [])
.skip))))⟩
def c29 : Ev.Fn := d29.den
theorem r29 : OK 29 c29 := rd d29 { loc := [], md := .rw, mds := mds, heap := [14], own := [14], ord := [], clr := [], mask := [], fns := [], lcl := [], hnd := [], pro := [] } Tryz.func29
def d30 : DFn := ⟨[(.c .one), (.c .one), (.c .one)], [(.c .one)], .pure, [.tmp 6],
(.seq (.reg false [
mK 6 (.it .i64 0)] [])
(.seq (.seq (.reg false [
mV 7 2] [])
(.cond (.t 7)
(.seq (.reg false [
mV 8 0, mV 6 8] [])
.ret)
.skip))
(.seq (.reg false [
mV 9 1, mV 6 9] [])
.ret)))⟩
def c30 : Ev.Fn := d30.den
theorem r30 : OK 30 c30 := rd d30 { loc := [], md := .pure, mds := mds, heap := [], own := [], ord := [], clr := [], mask := [], fns := [], lcl := [], hnd := [], pro := [] } Tryz.func30
def d31 : DFn := ⟨[(.g [.one, .one])], [(.c .one)], .pure, [.tmp 2],
(.seq (.reg false [
⟨some 1, none, [], .box (.t 0)⟩, mK 2 (.it .i64 0)] [])
(.seq (.seq (.reg false [
fA 3 0 1, lD 4 1 3] [3])
(.blk 0 (.seq (.reg false [
⟨some 6, none, [], .bin .no .eql (.t 4) (.k (.it .i64 2))⟩, mV 5 6] [])
(.cond (.t 5)
(.seq (.reg false [
fA 7 1 1, lD 8 1 7, ⟨some 9, none, [], .bin .no .lss (.t 8) (.k (.it .i64 0))⟩, mV 10 9, ⟨some 11, some (10, false), [], .fad 1 (.t 1)⟩, ⟨some 12, some (10, false), [], .ld 1 false (.t 11)⟩, ⟨some 13, some (10, false), [], .bin .no .gtr (.t 12) (.k (.it .i64 1))⟩, ⟨some 14, none, [], .pick (.t 10) (.k (.bo true)) (.t 13)⟩] [7, 11])
(.cond (.t 14)
(.seq (.reg false [
mK 2 (.it .i64 1)] [])
.ret)
.skip))
(.seq (.reg false [
⟨some 16, none, [], .bin .no .eql (.t 4) (.k (.it .i64 4))⟩, mV 15 16] [])
(.cond (.t 15)
(.seq (.reg false [
fA 17 1 1, lD 18 1 17, ⟨some 19, none, [], .bin .no .lss (.t 18) (.k (.it .i64 0))⟩, mV 20 19, ⟨some 21, some (20, false), [], .fad 1 (.t 1)⟩, ⟨some 22, some (20, false), [], .ld 1 false (.t 21)⟩, ⟨some 23, some (20, false), [], .bin .no .gtr (.t 22) (.k (.it .i64 2147483647))⟩, ⟨some 24, none, [], .pick (.t 20) (.k (.bo true)) (.t 23)⟩] [17, 21])
(.cond (.t 24)
(.seq (.reg false [
mK 2 (.it .i64 3)] [])
.ret)
.skip))
(.seq (.reg false [
⟨some 26, none, [], .bin .no .eql (.t 4) (.k (.it .i64 5))⟩, mV 25 26] [])
(.cond (.t 25)
(.seq (.reg false [
fA 27 1 1, lD 28 1 27, ⟨some 29, none, [], .bin .no .lss (.t 28) (.k (.it .i64 16384))⟩, mV 30 29, ⟨some 31, some (30, false), [], .fad 1 (.t 1)⟩, ⟨some 32, some (30, false), [], .ld 1 false (.t 31)⟩, ⟨some 33, some (30, false), [], .bin .no .gtr (.t 32) (.k (.it .i64 16777215))⟩, ⟨some 34, none, [], .pick (.t 30) (.k (.bo true)) (.t 33)⟩] [27, 31])
(.cond (.t 34)
(.seq (.reg false [
mK 2 (.it .i64 1)] [])
.ret)
.skip))
.skip))))))))
(.seq (.reg false [
mK 2 (.it .i64 0)] [])
.ret)))⟩
def c31 : Ev.Fn := d31.den
theorem r31 : OK 31 c31 := rd d31 { loc := [1], md := .pure, mds := mds, heap := [], own := [], ord := [(0, [1, 0])], clr := [(1, [3]), (3, [7, 11]), (6, [17, 21]), (9, [27, 31])], mask := [], fns := [], lcl := [], hnd := [], pro := [] } Tryz.func31
def d32 : DFn := ⟨[(.c .one)], [(.c .one)], .pure, [.tmp 2],
(.seq (.reg false [
mK 2 (.bo false)] [])
(.seq (.reg false [
mV 3 0, ⟨some 4, none, [], .bin .no .geq (.t 3) (.k (.it .i64 0))⟩, mV 5 4, ⟨some 6, some (5, true), [], .mov (.t 0)⟩, ⟨some 7, some (5, true), [], .bin .no .leq (.t 6) (.k (.it .i64 65536))⟩, ⟨some 8, none, [], .pick (.t 5) (.t 7) (.k (.bo false))⟩, mV 2 8] [])
.ret))⟩
def c32 : Ev.Fn := d32.den
theorem r32 : OK 32 c32 := rd d32 { loc := [], md := .pure, mds := mds, heap := [], own := [], ord := [], clr := [], mask := [], fns := [], lcl := [], hnd := [], pro := [] } Tryz.func32
def d33 : DFn := ⟨[], [(.c (.sl [.one, .one]))], .pure, [.tmp 0],
(.seq (.reg false [
mK 0 .ns] [])
(.seq (.reg false [
mK 1 .ns] [])
(.seq (.seq (.reg false [
⟨some 7, none, [], .call false .pure 52 [(.k (.st [58, 97, 117, 116, 104, 111, 114, 105, 116, 121, 124, 58, 109, 101, 116, 104, 111, 100, 61, 71, 69, 84, 124, 58, 109, 101, 116, 104, 111, 100, 61, 80, 79, 83, 84, 124, 58, 112, 97, 116, 104, 61, 47, 124, 58, 112, 97, 116, 104, 61, 47, 105, 110, 100, 101, 120, 46, 104, 116, 109, 108, 124, 58, 115, 99, 104, 101, 109, 101, 61, 104, 116, 116, 112, 124, 58, 115, 99, 104, 101, 109, 101, 61, 104, 116, 116, 112, 115, 124, 58, 115, 116, 97, 116, 117, 115, 61, 50, 48, 48, 124, 58, 115, 116, 97, 116, 117, 115, 61, 50, 48, 52, 124, 58, 115, 116, 97, 116, 117, 115, 61, 50, 48, 54, 124, 58, 115, 116, 97, 116, 117, 115, 61, 51, 48, 52, 124, 58, 115, 116, 97, 116, 117, 115, 61, 52, 48, 48, 124, 58, 115, 116, 97, 116, 117, 115, 61, 52, 48, 52, 124, 58, 115, 116, 97, 116, 117, 115, 61, 53, 48, 48, 124, 97, 99, 99, 101, 112, 116, 45, 99, 104, 97, 114, 115, 101, 116, 124, 97, 99, 99, 101, 112, 116, 45, 101, 110, 99, 111, 100, 105, 110, 103, 61, 103, 122, 105, 112, 44, 32, 100, 101, 102, 108, 97, 116, 101, 124, 97, 99, 99, 101, 112, 116, 45, 108, 97, 110, 103, 117, 97, 103, 101, 124, 97, 99, 99, 101, 112, 116, 45, 114, 97, 110, 103, 101, 115, 124, 97, 99, 99, 101, 112, 116, 124, 97, 99, 99, 101, 115, 115, 45, 99, 111, 110, 116, 114, 111, 108, 45, 97, 108, 108, 111, 119, 45, 111, 114, 105, 103, 105, 110, 124, 97, 103, 101, 124, 97, 108, 108, 111, 119, 124, 97, 117, 116, 104, 111, 114, 105, 122, 97, 116, 105, 111, 110, 124, 99, 97, 99, 104, 101, 45, 99, 111, 110, 116, 114, 111, 108, 124, 99, 111, 110, 116, 101, 110, 116, 45, 100, 105, 115, 112, 111, 115, 105, 116, 105, 111, 110, 124, 99, 111, 110, 116, 101, 110, 116, 45, 101, 110, 99, 111, 100, 105, 110, 103, 124, 99, 111, 110, 116, 101, 110, 116, 45, 108, 97, 110, 103, 117, 97, 103, 101, 124, 99, 111, 110, 116, 101, 110, 116, 45, 108, 101, 110, 103, 116, 104, 124, 99, 111, 110, 116, 101, 110, 116, 45, 108, 111, 99, 97, 116, 105, 111, 110, 124, 99, 111, 110, 116, 101, 110, 116, 45, 114, 97, 110, 103, 101, 124, 99, 111, 110, 116, 101, 110, 116, 45, 116, 121, 112, 101, 124, 99, 111, 111, 107, 105, 101, 124, 100, 97, 116, 101, 124, 101, 116, 97, 103, 124, 101, 120, 112, 101, 99, 116, 124, 101, 120, 112, 105, 114, 101, 115, 124, 102, 114, 111, 109, 124, 104, 111, 115, 116, 124, 105, 102, 45, 109, 97, 116, 99, 104, 124, 105, 102, 45, 109, 111, 100, 105, 102, 105, 101, 100, 45, 115, 105, 110, 99, 101, 124, 105, 102, 45, 110, 111, 110, 101, 45, 109, 97, 116, 99, 104, 124, 105, 102, 45, 114, 97, 110, 103, 101, 124, 105, 102, 45, 117, 110, 109, 111, 100, 105, 102, 105, 101, 100, 45, 115, 105, 110, 99, 101, 124, 108, 97, 115, 116, 45, 109, 111, 100, 105, 102, 105, 101, 100, 124, 108, 105, 110, 107, 124, 108, 111, 99, 97, 116, 105, 111, 110, 124, 109, 97, 120, 45, 102, 111, 114, 119, 97, 114, 100, 115, 124, 112, 114, 111, 120, 121, 45, 97, 117, 116, 104, 101, 110, 116, 105, 99, 97, 116, 101, 124, 112, 114, 111, 120, 121, 45, 97, 117, 116, 104, 111, 114, 105, 122, 97, 116, 105, 111, 110, 124, 114, 97, 110, 103, 101, 124, 114, 101, 102, 101, 114, 101, 114, 124, 114, 101, 102, 114, 101, 115, 104, 124, 114, 101, 116, 114, 121, 45, 97, 102, 116, 101, 114, 124, 115, 101, 114, 118, 101, 114, 124, 115, 101, 116, 45, 99, 111, 111, 107, 105, 101, 124, 115, 116, 114, 105, 99, 116, 45, 116, 114, 97, 110, 115, 112, 111, 114, 116, 45, 115, 101, 99, 117, 114, 105, 116, 121, 124, 116, 114, 97, 110, 115, 102, 101, 114, 45, 101, 110, 99, 111, 100, 105, 110, 103, 124, 117, 115, 101, 114, 45, 97, 103, 101, 110, 116, 124, 118, 97, 114, 121, 124, 118, 105, 97, 124, 119, 119, 119, 45, 97, 117, 116, 104, 101, 110, 116, 105, 99, 97, 116, 101])), (.k (.st [124]))]⟩, lN 8 false 7, mK 9 (.it .i64 0)] [])
(.blk 0 (.loop [1, 7, 8, 9] []
(.seq (.reg false [
⟨some 10, none, [], .bin .no .lss (.t 9) (.t 8)⟩] [])
(.seq (.cond (.t 10)
.skip
(.exit 0))
(.seq (.blk 1 (.seq (.reg false [
⟨some 11, none, [], .ias 1 (.t 7) (.t 9)⟩, lD 12 1 11, mV 3 12] [])
(.seq (.reg false [
mV 14 3, ⟨some 15, none, [], .call false .pure 53 [(.t 14), (.k (.st [61]))]⟩, mV 13 15, eX 16 13 0, eX 17 13 1, eX 18 13 2, mV 4 16, mV 5 17, mV 6 18] [])
(.reg false [
mV 19 1, mV 20 4, mV 21 5, ⟨some 22, none, [], .bld [(.st []), (.st [])] [(0, 1, (.t 20)), (1, 1, (.t 21))]⟩, ⟨some 23, none, [], .bsv [.one, .one] 2 [[(.st []), (.st [])]] [(0, (.t 22))]⟩, ⟨some 24, none, [], .app 2 32 (.t 19) (.t 23)⟩, mV 1 24] []))))
(.reg false [
⟨some 25, none, [], .bin .no .add (.t 9) (.k (.it .i64 1))⟩, mV 9 25] [])))))))
(.seq (.reg false [
mV 26 1, mV 0 26] [])
.ret))))⟩
def c33 : Ev.Fn := d33.den
theorem r33 : OK 33 c33 := rd d33 { loc := [], md := .pure, mds := mds, heap := [24], own := [24], ord := [(2, [2, 0, 1])], clr := [], mask := [(3, [1, 7, 8, 9], [])], fns := [], lcl := [], hnd := [], pro := [] } Tryz.func33
def d34 : DFn := ⟨[(.c .one), (.g [.one, .one, .one, (.sl [.one])])], [(.c .one)], .rw, [.tmp 4],
(.seq (.reg false [
⟨some 3, none, [], .box (.t 1)⟩, mK 4 (.bo false)] [])
(.seq (.seq (.reg true [
mV 5 0, nK 6 5, fA 7 9 6, lD 8 1 7, mV 9 8, ⟨some 10, some (9, false), [], .fad 3 (.t 3)⟩, ⟨some 11, some (9, false), [], .ld 1 false (.t 10)⟩, ⟨some 12, some (9, false), [], .len false (.t 11)⟩, ⟨some 13, some (9, false), [], .mov (.t 0)⟩, ⟨some 14, some (9, false), [], .nck (.t 13)⟩, ⟨some 15, some (9, false), [], .fad 6 (.t 14)⟩, ⟨some 16, some (9, false), [], .ld 1 false (.t 15)⟩, ⟨some 17, some (9, false), [], .bin .no .gtr (.t 12) (.t 16)⟩, ⟨some 18, none, [], .pick (.t 9) (.k (.bo true)) (.t 17)⟩, mV 19 18, ⟨some 20, some (19, false), [], .fad 0 (.t 3)⟩, ⟨some 21, some (19, false), [], .ld 1 false (.t 20)⟩, ⟨some 22, some (19, false), [], .bin .no .gtr (.t 21) (.k (.it .i64 9))⟩, ⟨some 23, none, [], .pick (.t 19) (.k (.bo true)) (.t 22)⟩, mV 24 23, ⟨some 25, some (24, false), [], .mov (.t 0)⟩, ⟨some 26, some (24, false), [], .nck (.t 25)⟩, ⟨some 27, some (24, false), [], .fad 8 (.t 26)⟩, ⟨some 28, some (24, false), [], .ld 1 false (.t 27)⟩, ⟨some 29, some (24, false), [], .un .not (.t 28)⟩, ⟨some 30, some (24, false), [], .mov (.t 29)⟩, ⟨some 31, some (30, true), [], .fad 0 (.t 3)⟩, ⟨some 32, some (30, true), [], .ld 1 false (.t 31)⟩, ⟨some 33, some (30, true), [], .bin .no .neq (.t 32) (.k (.it .i64 4))⟩, ⟨some 34, some (30, true), [], .mov (.t 33)⟩, ⟨some 35, some (34, false), [], .fad 1 (.t 3)⟩, ⟨some 36, some (34, false), [], .ld 1 false (.t 35)⟩, ⟨some 37, some (34, false), [], .bin .no .and (.t 36) (.k (.it .i64 1))⟩, ⟨some 38, some (34, false), [], .bin .no .neq (.t 37) (.k (.it .i64 0))⟩, ⟨some 39, some (30, true), [], .pick (.t 34) (.k (.bo true)) (.t 38)⟩, ⟨some 40, some (24, false), [], .pick (.t 30) (.t 39) (.k (.bo false))⟩, ⟨some 41, none, [], .pick (.t 24) (.k (.bo true)) (.t 40)⟩] [10, 20, 31, 35])
(.cond (.t 41)
(.seq (.reg false [
mK 4 (.bo false)] [])
.ret)
.skip))
(.seq (.reg false [
mV 42 0, nK 43 42, fA 44 8 43, ⟨none, none, [], .sto 1 (.t 44) (.k (.bo true))⟩] [])
(.seq (.reg true [
mV 45 0, nK 46 45, fA 47 10 46, lD 48 1 47, ⟨some 49, none, [], .bin .no .neq (.t 48) (.k (.it .i64 0))⟩, fA 50 0 3, lD 51 1 50, ⟨some 52, none, [], .bin .no .eql (.t 51) (.k (.it .i64 9))⟩, ⟨some 53, none, [], .bin .bo .eql (.t 49) (.t 52)⟩, mV 54 53, ⟨some 55, some (54, true), [], .mov (.t 0)⟩, ⟨some 56, some (54, true), [], .nck (.t 55)⟩, ⟨some 57, some (54, true), [], .fad 10 (.t 56)⟩, ⟨some 58, some (54, true), [], .ld 1 false (.t 57)⟩, ⟨some 59, some (54, true), [], .bin .no .eql (.t 58) (.k (.it .i64 0))⟩, ⟨some 60, some (54, true), [], .mov (.t 59)⟩, ⟨some 61, some (60, false), [], .fad 2 (.t 3)⟩, ⟨some 62, some (60, false), [], .ld 1 false (.t 61)⟩, ⟨some 63, some (60, false), [], .mov (.t 0)⟩, ⟨some 64, some (60, false), [], .nck (.t 63)⟩, ⟨some 65, some (60, false), [], .fad 10 (.t 64)⟩, ⟨some 66, some (60, false), [], .ld 1 false (.t 65)⟩, ⟨some 67, some (60, false), [], .bin .no .eql (.t 62) (.t 66)⟩, ⟨some 68, some (54, true), [], .pick (.t 60) (.k (.bo true)) (.t 67)⟩, ⟨some 69, none, [], .pick (.t 54) (.t 68) (.k (.bo false))⟩, mV 4 69] [50, 61])
.ret))))⟩
def c34 : Ev.Fn := d34.den
theorem r34 : OK 34 c34 := rd d34 { loc := [3], md := .rw, mds := mds, heap := [], own := [], ord := [(0, [1, 0])], clr := [(1, [10, 20, 31, 35]), (4, [50, 61])], mask := [], fns := [], lcl := [], hnd := [], pro := [] } Tryz.func34
def d35 : DFn := ⟨[(.c .one)], [(.c .one)], .rw, [.tmp 2],
(.seq (.reg false [
mK 2 (.bo false)] [])
(.seq (.seq (.reg false [
mV 7 0, nK 8 7, fA 9 2 8, lD 10 1 9, lN 11 false 10, ⟨some 12, none, [], .bin .no .eql (.t 11) (.k (.it .i64 0))⟩] [])
(.cond (.t 12)
(.seq (.reg false [
mK 2 (.bo false)] [])
.ret)
.skip))
(.seq (.seq (.reg false [
mV 13 0, nK 14 13, fA 15 2 14, lD 16 1 15, ⟨some 17, none, [], .ias 1 (.t 16) (.k (.it .i64 0))⟩, lD 18 1 17, lN 19 false 18, mK 20 (.it .i64 0)] [])
(.blk 0 (.loop [0, 18, 19, 20] [4]
(.seq (.reg false [
⟨some 21, none, [], .bin .no .lss (.t 20) (.t 19)⟩] [])
(.seq (.cond (.t 21)
.skip
(.exit 0))
(.seq (.blk 1 (.seq (.reg false [
⟨some 22, none, [], .ias 2 (.t 18) (.t 20)⟩, lQ 23 2 22, ⟨some 4, none, [], .alc [(.it .i64 0), (.it .i64 0)]⟩, sO 2 4 23] [])
(.seq (.reg false [
fA 24 0 4, lD 25 1 24] [24])
(.blk 2 (.seq (.reg false [
⟨some 27, none, [], .bin .no .eql (.t 25) (.k (.it .i64 5))⟩, mV 26 27] [])
(.cond (.t 26)
(.reg false [
mV 28 0, fA 29 1 4, lD 30 1 29, nK 31 28, fA 32 6 31, sO 1 32 30] [29])
(.seq (.reg false [
⟨some 34, none, [], .bin .no .eql (.t 25) (.k (.it .i64 4))⟩, mV 33 34] [])
(.cond (.t 33)
(.seq (.seq (.reg false [
mV 35 0, nK 36 35, fA 37 3 36, lD 38 1 37, lN 39 false 38, mK 40 (.it .i64 0)] [])
(.blk 3 (.loop [0, 4, 18, 19, 20, 38, 39, 40] []
(.seq (.reg false [
⟨some 41, none, [], .bin .no .lss (.t 40) (.t 39)⟩] [])
(.seq (.cond (.t 41)
.skip
(.exit 3))
(.seq (.blk 4 (.seq (.reg false [
⟨some 42, none, [], .ias 1 (.t 38) (.t 40)⟩, lD 43 1 42, mV 6 43] [])
(.reg true [
mV 44 6, nK 45 44, fA 46 2 45, lD 47 1 46, fA 48 1 4, lD 49 1 48, mV 50 0, nK 51 50, fA 52 4 51, lD 53 1 52, ⟨some 54, none, [], .bin .no .sub (.t 49) (.t 53)⟩, ⟨some 55, none, [], .bin .no .add (.t 47) (.t 54)⟩, nK 56 44, fA 57 2 56, sO 1 57 55] [48])))
(.reg false [
⟨some 58, none, [], .bin .no .add (.t 40) (.k (.it .i64 1))⟩, mV 40 58] [])))))))
(.reg false [
mV 59 0, fA 60 1 4, lD 61 1 60, nK 62 59, fA 63 4 62, sO 1 63 61] [60]))
.skip))))))))
(.reg false [
⟨some 64, none, [], .bin .no .add (.t 20) (.k (.it .i64 1))⟩, mV 20 64] [])))))))
(.seq (.reg false [
mV 65 0, mV 66 0, nK 67 66, fA 68 2 67, lD 69 1 68, ⟨some 70, none, [], .slc false 1 (.t 69) (some (.k (.it .i64 1))) none⟩, nK 71 65, fA 72 2 71, sO 1 72 70] [])
(.seq (.reg false [
mK 2 (.bo true)] [])
.ret)))))⟩
def c35 : Ev.Fn := d35.den
theorem r35 : OK 35 c35 := rd d35 { loc := [4], md := .rw, mds := mds, heap := [], own := [], ord := [], clr := [(6, [24]), (8, [29]), (13, [48]), (15, [60])], mask := [(4, [0, 18, 19, 20], [4]), (11, [0, 4, 18, 19, 20, 38, 39, 40], [])], fns := [], lcl := [], hnd := [], pro := [] } Tryz.func35
def d36 : DFn := ⟨[(.c .one), (.g [.one, .one, .one, .one, .one, (.sl [.one]), .one, .one, .one, .one, (.sl [.one, .one])])], [(.c .one)], .rw, [.tmp 4],
(.seq (.reg false [
⟨some 3, none, [], .box (.t 1)⟩, mK 4 (.bo false)] [])
(.seq (.reg false [
mV 6 0, fA 7 1 3, lD 8 1 7, cR 9 27 [(.t 6), (.t 8)], mV 5 9] [7])
(.seq (.seq (.reg true [
mV 10 5, ⟨some 11, none, [], .bin .ptr .eql (.t 10) (.k .np)⟩, mV 12 11, ⟨some 13, some (12, false), [], .fad 9 (.t 3)⟩, ⟨some 14, some (12, false), [], .ld 1 false (.t 13)⟩, ⟨some 15, some (12, false), [], .bin .no .gtr (.t 14) (.k (.it .i64 0))⟩, ⟨some 16, some (12, false), [], .mov (.t 15)⟩, ⟨some 17, some (16, true), [], .fad 9 (.t 3)⟩, ⟨some 18, some (16, true), [], .ld 1 false (.t 17)⟩, ⟨some 19, some (16, true), [], .mov (.t 0)⟩, ⟨some 20, some (16, true), [], .nck (.t 19)⟩, ⟨some 21, some (16, true), [], .fad 5 (.t 20)⟩, ⟨some 22, some (16, true), [], .ld 1 false (.t 21)⟩, ⟨some 23, some (16, true), [], .bin .no .gtr (.t 18) (.t 22)⟩, ⟨some 24, some (16, true), [], .mov (.t 23)⟩, ⟨some 25, some (24, false), [], .fad 9 (.t 3)⟩, ⟨some 26, some (24, false), [], .ld 1 false (.t 25)⟩, ⟨some 27, some (24, false), [], .mov (.t 5)⟩, ⟨some 28, some (24, false), [], .nck (.t 27)⟩, ⟨some 29, some (24, false), [], .fad 2 (.t 28)⟩, ⟨some 30, some (24, false), [], .ld 1 false (.t 29)⟩, ⟨some 31, some (24, false), [], .bin .no .gtr (.t 26) (.t 30)⟩, ⟨some 32, some (16, true), [], .pick (.t 24) (.k (.bo true)) (.t 31)⟩, ⟨some 33, some (12, false), [], .pick (.t 16) (.t 32) (.k (.bo false))⟩, ⟨some 34, none, [], .pick (.t 12) (.k (.bo true)) (.t 33)⟩] [13, 17, 25])
(.cond (.t 34)
(.seq (.reg false [
mK 4 (.bo false)] [])
.ret)
.skip))
(.seq (.reg true [
mV 35 0, nK 36 35, fA 37 5 36, lD 38 1 37, fA 39 9 3, lD 40 1 39, ⟨some 41, none, [], .bin .no .sub (.t 38) (.t 40)⟩, nK 42 35, fA 43 5 42, sO 1 43 41] [39])
(.seq (.reg true [
mV 44 5, nK 45 44, fA 46 2 45, lD 47 1 46, fA 48 9 3, lD 49 1 48, ⟨some 50, none, [], .bin .no .sub (.t 47) (.t 49)⟩, nK 51 44, fA 52 2 51, sO 1 52 50] [48])
(.seq (.reg false [
mV 53 5, fA 54 2 3, lD 55 1 54, cP 56 30 [(.k (.it .i64 3)), (.k (.it .i64 4)), (.t 55)], cR 57 54 [(.t 53), (.t 56)], mV 4 57] [54])
.ret))))))⟩
def c36 : Ev.Fn := d36.den
theorem r36 : OK 36 c36 := rd d36 { loc := [3], md := .rw, mds := mds, heap := [], own := [], ord := [(0, [1, 0])], clr := [(1, [7]), (2, [13, 17, 25]), (4, [39]), (5, [48]), (6, [54])], mask := [], fns := [], lcl := [], hnd := [], pro := [] } Tryz.func36
def d37 : DFn := ⟨[(.c .one), (.g [.one, .one, .one, .one, .one, (.sl [.one]), .one, .one, .one, .one, (.sl [.one, .one])])], [(.c .one)], .rw, [.tmp 4],
(.seq (.reg false [
⟨some 3, none, [], .box (.t 1)⟩, mK 4 (.bo false)] [])
(.seq (.reg false [
mV 6 0, fA 7 1 3, lD 8 1 7, cR 9 27 [(.t 6), (.t 8)], mV 5 9] [7])
(.seq (.seq (.reg false [
mV 10 5, ⟨some 11, none, [], .bin .ptr .eql (.t 10) (.k .np)⟩] [])
(.cond (.t 11)
(.seq (.seq (.reg true [
mV 12 0, nK 13 12, fA 14 0 13, lD 15 1 14, mV 16 15, ⟨some 17, some (16, false), [], .fad 1 (.t 3)⟩, ⟨some 18, some (16, false), [], .ld 1 false (.t 17)⟩, ⟨some 19, some (16, false), [], .bin .no .rem (.t 18) (.k (.it .i64 2))⟩, ⟨some 20, some (16, false), [], .bin .no .eql (.t 19) (.k (.it .i64 0))⟩, ⟨some 21, none, [], .pick (.t 16) (.k (.bo true)) (.t 20)⟩, mV 22 21, ⟨some 23, some (22, false), [], .fad 1 (.t 3)⟩, ⟨some 24, some (22, false), [], .ld 1 false (.t 23)⟩, ⟨some 25, some (22, false), [], .mov (.t 0)⟩, ⟨some 26, some (22, false), [], .nck (.t 25)⟩, ⟨some 27, some (22, false), [], .fad 7 (.t 26)⟩, ⟨some 28, some (22, false), [], .ld 1 false (.t 27)⟩, ⟨some 29, some (22, false), [], .bin .no .leq (.t 24) (.t 28)⟩, ⟨some 30, none, [], .pick (.t 22) (.k (.bo true)) (.t 29)⟩] [17, 23])
(.cond (.t 30)
(.seq (.reg false [
mK 4 (.bo false)] [])
.ret)
.skip))
(.reg false [
mV 31 0, fA 32 1 3, lD 33 1 32, cR 34 28 [(.t 31), (.t 33)], mV 5 34] [32]))
.skip))
(.seq (.seq (.reg false [
mV 35 0, nK 36 35, fA 37 0 36, lD 38 1 37, ⟨some 39, none, [], .un .not (.t 38)⟩] [])
(.cond (.t 39)
(.reg true [
mV 40 0, mV 41 0, nK 42 41, fA 43 7 42, lD 44 1 43, fA 45 1 3, lD 46 1 45, ⟨some 47, none, [], .mnx true (.t 44) (.t 46)⟩, nK 48 40, fA 49 7 48, sO 1 49 47] [45])
.skip))
(.seq (.reg false [
mV 50 5, fA 51 2 3, lD 52 1 51, cP 53 30 [(.k (.it .i64 1)), (.k (.it .i64 2)), (.t 52)], cR 54 54 [(.t 50), (.t 53)], mV 55 54, ⟨some 56, some (55, true), [], .mov (.t 0)⟩, ⟨some 57, some (55, true), [], .ld 11 true (.t 3)⟩, ⟨some 58, some (55, true), [], .call false .rw 38 [(.t 56), (.t 57)]⟩, ⟨some 59, none, [], .pick (.t 55) (.t 58) (.k (.bo false))⟩, mV 4 59] [51])
.ret)))))⟩
def c37 : Ev.Fn := d37.den
theorem r37 : OK 37 c37 := rd d37 { loc := [3], md := .rw, mds := mds, heap := [47], own := [47], ord := [(0, [1, 0])], clr := [(1, [7]), (3, [17, 23]), (5, [32]), (7, [45]), (8, [51])], mask := [], fns := [], lcl := [], hnd := [], pro := [] } Tryz.func37
def d38 : DFn := ⟨[(.c .one), (.g [.one, .one, .one, .one, .one, (.sl [.one]), .one, .one, .one, .one, (.sl [.one, .one])])], [(.c .one)], .rw, [.tmp 4],
(.seq (.reg false [
⟨some 3, none, [], .box (.t 1)⟩, mK 4 (.bo false)] [])
(.seq (.reg true [
mV 7 0, mV 8 0, nK 9 8, fA 10 11 9, lD 11 1 10, fA 12 5 3, lD 13 1 12, ⟨some 14, none, [], .app 1 1 (.t 11) (.t 13)⟩, nK 15 7, fA 16 11 15, sO 1 16 14] [12])
(.seq (.reg false [
mV 17 0, fA 18 1 3, lD 19 1 18, nK 20 17, fA 21 10 20, sO 1 21 19] [18])
(.seq (.seq (.reg false [
fA 22 3 3, lD 23 1 22, ⟨some 24, none, [], .un .not (.t 23)⟩] [22])
(.cond (.t 24)
(.seq (.reg false [
mK 4 (.bo true)] [])
.ret)
.skip))
(.seq (.reg true [
mV 26 0, nK 27 26, fA 28 12 27, lD 29 1 28, mV 30 0, nK 31 30, fA 32 11 31, lD 33 1 32, cR 34 55 [(.t 29), (.t 33)], mV 25 34, eX 35 25 0, eX 36 25 1, mV 5 35, mV 6 36] [])
(.seq (.reg false [
mV 37 0, mV 38 0, nK 39 37, fA 40 10 39, ⟨none, none, [], .sto 1 (.t 40) (.k (.it .i64 0))⟩, nK 41 38, fA 42 11 41, ⟨none, none, [], .sto 1 (.t 42) (.k .ns)⟩] [])
(.seq (.reg false [
mV 43 6, ⟨some 44, none, [], .bin .no .eql (.t 43) (.k (.it .i64 0))⟩, mV 4 44] [])
.ret)))))))⟩
def c38 : Ev.Fn := d38.den
theorem r38 : OK 38 c38 := rd d38 { loc := [3], md := .rw, mds := mds, heap := [14], own := [14], ord := [(0, [1, 0])], clr := [(1, [12]), (2, [18]), (3, [22])], mask := [], fns := [], lcl := [], hnd := [], pro := [] } Tryz.func38
def d39 : DFn := ⟨[(.c .one), (.c .one)], [], .rw, [],
(.seq (.reg false [
mV 4 0, mV 5 1, ⟨some 6, none, [], .bld [(.it .i64 0), (.it .i64 0), (.it .i64 0)] [(0, 1, (.k (.it .i64 2))), (1, 1, (.t 5))]⟩, nK 7 4, fA 8 3 7, sO 3 8 6] [])
(.reg false [
mV 9 0, nK 10 9, fA 11 2 10, ⟨none, none, [], .sto 1 (.t 11) (.k .ns)⟩] []))⟩
def c39 : Ev.Fn := d39.den
theorem r39 : OK 39 c39 := rd d39 { loc := [], md := .rw, mds := mds, heap := [], own := [], ord := [], clr := [], mask := [], fns := [], lcl := [], hnd := [], pro := [] } Tryz.func39
def d40 : DFn := ⟨[(.g [.one, .one, .one, (.sl [.one])])], [(.c .one)], .pure, [.tmp 2],
(.seq (.reg false [
⟨some 1, none, [], .box (.t 0)⟩, mK 2 (.bo false)] [])
(.seq (.reg false [
fA 3 0 1, lD 4 1 3, ⟨some 5, none, [], .bin .no .geq (.t 4) (.k (.it .i64 0))⟩, mV 6 5, ⟨some 7, some (6, true), [], .fad 0 (.t 1)⟩, ⟨some 8, some (6, true), [], .ld 1 false (.t 7)⟩, ⟨some 9, some (6, true), [], .bin .no .leq (.t 8) (.k (.it .i64 255))⟩, ⟨some 10, none, [], .pick (.t 6) (.t 9) (.k (.bo false))⟩, mV 11 10, ⟨some 12, some (11, true), [], .fad 1 (.t 1)⟩, ⟨some 13, some (11, true), [], .ld 1 false (.t 12)⟩, ⟨some 14, some (11, true), [], .bin .no .geq (.t 13) (.k (.it .i64 0))⟩, ⟨some 15, none, [], .pick (.t 11) (.t 14) (.k (.bo false))⟩, mV 16 15, ⟨some 17, some (16, true), [], .fad 1 (.t 1)⟩, ⟨some 18, some (16, true), [], .ld 1 false (.t 17)⟩, ⟨some 19, some (16, true), [], .bin .no .leq (.t 18) (.k (.it .i64 255))⟩, ⟨some 20, none, [], .pick (.t 16) (.t 19) (.k (.bo false))⟩, mV 21 20, ⟨some 22, some (21, true), [], .fad 2 (.t 1)⟩, ⟨some 23, some (21, true), [], .ld 1 false (.t 22)⟩, ⟨some 24, some (21, true), [], .bin .no .geq (.t 23) (.k (.it .i64 0))⟩, ⟨some 25, none, [], .pick (.t 21) (.t 24) (.k (.bo false))⟩, mV 26 25, ⟨some 27, some (26, true), [], .fad 2 (.t 1)⟩, ⟨some 28, some (26, true), [], .ld 1 false (.t 27)⟩, ⟨some 29, some (26, true), [], .bin .no .leq (.t 28) (.k (.it .i64 2147483647))⟩, ⟨some 30, none, [], .pick (.t 26) (.t 29) (.k (.bo false))⟩, mV 31 30, ⟨some 32, some (31, true), [], .fad 3 (.t 1)⟩, ⟨some 33, some (31, true), [], .ld 1 false (.t 32)⟩, ⟨some 34, some (31, true), [], .len false (.t 33)⟩, ⟨some 35, some (31, true), [], .bin .no .leq (.t 34) (.k (.it .i64 16777215))⟩, ⟨some 36, none, [], .pick (.t 31) (.t 35) (.k (.bo false))⟩, mV 2 36] [3, 7, 12, 17, 22, 27, 32])
.ret))⟩
def c40 : Ev.Fn := d40.den
theorem r40 : OK 40 c40 := rd d40 { loc := [1], md := .pure, mds := mds, heap := [], own := [], ord := [(0, [1, 0])], clr := [(1, [3, 7, 12, 17, 22, 27, 32])], mask := [], fns := [], lcl := [], hnd := [], pro := [] } Tryz.func40
def d41 : DFn := ⟨[(.g [.one, .one, .one, (.sl [.one])])], [(.c .one)], .pure, [.tmp 2],
(.seq (.reg false [
⟨some 1, none, [], .box (.t 0)⟩, mK 2 (.bo false)] [])
(.seq (.seq (.reg false [
fA 3 0 1, lD 4 1 3] [3])
(.blk 0 (.seq (.seq (.reg false [
⟨some 6, none, [], .bin .no .eql (.t 4) (.k (.it .i64 4))⟩, mV 5 6] [])
(.cond (.t 5)
.skip
(.seq (.reg false [
⟨some 7, none, [], .bin .no .eql (.t 4) (.k (.it .i64 6))⟩, mV 5 7] [])
(.cond (.t 5)
.skip
(.reg false [
⟨some 8, none, [], .bin .no .eql (.t 4) (.k (.it .i64 7))⟩, mV 5 8] [])))))
(.cond (.t 5)
(.seq (.reg false [
fA 9 2 1, lD 10 1 9, ⟨some 11, none, [], .bin .no .neq (.t 10) (.k (.it .i64 0))⟩, mV 2 11] [9])
.ret)
(.seq (.reg false [
⟨some 13, none, [], .bin .no .eql (.t 4) (.k (.it .i64 8))⟩, mV 12 13] [])
(.cond (.t 12)
(.seq (.reg false [
mK 2 (.bo false)] [])
.ret)
(.seq (.reg false [
⟨some 15, none, [], .bin .no .eql (.t 4) (.k (.it .i64 5))⟩, mV 14 15] [])
(.cond (.t 14)
(.seq (.reg false [
mK 2 (.bo true)] [])
.ret)
.skip))))))))
(.seq (.reg false [
fA 16 2 1, lD 17 1 16, ⟨some 18, none, [], .bin .no .eql (.t 17) (.k (.it .i64 0))⟩, mV 2 18] [16])
.ret)))⟩
def c41 : Ev.Fn := d41.den
theorem r41 : OK 41 c41 := rd d41 { loc := [1], md := .pure, mds := mds, heap := [], own := [], ord := [(0, [1, 0])], clr := [(1, [3]), (5, [9]), (10, [16])], mask := [], fns := [], lcl := [], hnd := [], pro := [] } Tryz.func41
def d42 : DFn := ⟨[(.c .one)], [(.g [.one, .one, .one])], .pure, [.cell 2 3 true],
(.seq (.reg false [
⟨some 2, none, [], .alc [(.it .i64 0), (.it .i64 0), (.it .i64 0)]⟩] [])
(.seq (.reg false [
mV 3 0, ⟨some 4, none, [], .bld [(.it .i64 0), (.it .i64 0), (.it .i64 0)] [(0, 1, (.k (.it .i64 2))), (1, 1, (.t 3))]⟩, sO 3 2 4] [])
.ret))⟩
def c42 : Ev.Fn := d42.den
theorem r42 : OK 42 c42 := rd d42 { loc := [2], md := .pure, mds := mds, heap := [], own := [], ord := [], clr := [], mask := [], fns := [], lcl := [], hnd := [], pro := [] } Tryz.func42
def d43 : DFn := ⟨[(.g [.one, .one, .one, (.sl [.one])]), (.g [.one, .one, .one, .one, .one, (.sl [.one]), .one, .one, .one, .one, (.sl [.one, .one])])], [(.g [.one, .one, .one, .one, .one, (.sl [.one]), .one, .one, .one, .one, (.sl [.one, .one])]), (.g [.one, .one, .one])], .pure, [.cell 4 11 true, .cell 5 3 true],
(.seq (.reg false [
⟨some 2, none, [], .box (.t 0)⟩, ⟨some 3, none, [], .box (.t 1)⟩, ⟨some 4, none, [], .alc [(.it .i64 0), (.it .i64 0), (.bo false), (.bo false), (.bo false), .ns, (.it .i64 0), (.it .i64 0), (.it .i64 0), (.it .i64 0), .ns]⟩, ⟨some 5, none, [], .alc [(.it .i64 0), (.it .i64 0), (.it .i64 0)]⟩] [])
(.seq (.reg false [
lQ 10 4 2, cP 11 56 [(.t 10)], mV 9 11, eX 12 9 0, eX 13 9 1, eX 14 9 2, mV 6 12, mV 7 13, mV 8 14] [])
(.seq (.seq (.reg false [
mV 15 8, ⟨some 16, none, [], .un .not (.t 15)⟩] [])
(.cond (.t 16)
(.seq (.reg false [
⟨some 17, none, [], .bld [(.it .i64 0), (.it .i64 0), (.bo false), (.bo false), (.bo false), .ns, (.it .i64 0), (.it .i64 0), (.it .i64 0), (.it .i64 0), .ns] []⟩, cP 18 42 [(.k (.it .i64 6))], sO 11 4 17, sO 3 5 18] [])
.ret)
.skip))
(.seq (.seq (.reg false [
mV 19 6, mV 20 7, lN 21 false 20, ⟨some 22, none, [], .bin .no .gtr (.t 19) (.t 21)⟩] [])
(.cond (.t 22)
(.seq (.reg false [
⟨some 23, none, [], .bld [(.it .i64 0), (.it .i64 0), (.bo false), (.bo false), (.bo false), .ns, (.it .i64 0), (.it .i64 0), (.it .i64 0), (.it .i64 0), .ns] []⟩, cP 24 42 [(.k (.it .i64 1))], sO 11 4 23, sO 3 5 24] [])
.ret)
.skip))
(.seq (.reg true [
fA 25 1 2, lD 26 1 25, ⟨some 27, none, [], .bin .no .and (.t 26) (.k (.it .i64 1))⟩, ⟨some 28, none, [], .bin .no .neq (.t 27) (.k (.it .i64 0))⟩, fA 29 3 2, lD 30 1 29, lN 31 false 30, mV 32 7, mV 33 7, lN 34 false 33, mV 35 6, ⟨some 36, none, [], .bin .no .sub (.t 34) (.t 35)⟩, ⟨some 37, none, [], .slc false 1 (.t 32) none (some (.t 36))⟩, fA 39 2 3, cP 38 48 [(.t 37)], ⟨none, none, [29], .sto 1 (.t 39) (.t 28)⟩, fA 40 9 3, sO 1 40 31, fA 41 5 3, sO 1 41 38] [25, 29, 39, 40, 41])
(.seq (.reg false [
lQ 42 11 3, ⟨some 43, none, [], .bld [(.it .i64 0), (.it .i64 0), (.it .i64 0)] []⟩, sO 11 4 42, sO 3 5 43] [])
.ret))))))⟩
def c43 : Ev.Fn := d43.den
theorem r43 : OK 43 c43 := rd d43 { loc := [2, 3, 4, 5], md := .pure, mds := mds, heap := [], own := [], ord := [(6, [0, 1, 2, 3, 4, 5, 6, 7, 8, 9, 10, 11, 12, 14, 13, 15, 16, 17, 18, 19])], clr := [(6, [25, 29, 39, 40, 41])], mask := [], fns := [], lcl := [], hnd := [], pro := [] } Tryz.func43
def d44 : DFn := ⟨[(.g [.one, .one, .one, (.sl [.one])]), (.g [.one, .one, .one, .one, .one, (.sl [.one]), .one, .one, .one, .one, (.sl [.one, .one])])], [(.g [.one, .one, .one, .one, .one, (.sl [.one]), .one, .one, .one, .one, (.sl [.one, .one])]), (.g [.one, .one, .one])], .pure, [.cell 4 11 true, .cell 5 3 true],
(.seq (.reg false [
⟨some 2, none, [], .box (.t 0)⟩, ⟨some 3, none, [], .box (.t 1)⟩, ⟨some 4, none, [], .alc [(.it .i64 0), (.it .i64 0), (.bo false), (.bo false), (.bo false), .ns, (.it .i64 0), (.it .i64 0), (.it .i64 0), (.it .i64 0), .ns]⟩, ⟨some 5, none, [], .alc [(.it .i64 0), (.it .i64 0), (.it .i64 0)]⟩] [])
(.seq (.reg false [
lQ 10 4 2, cP 11 56 [(.t 10)], mV 9 11, eX 12 9 0, eX 13 9 1, eX 14 9 2, mV 6 12, mV 7 13, mV 8 14] [])
(.seq (.seq (.reg false [
mV 15 8, ⟨some 16, none, [], .un .not (.t 15)⟩] [])
(.cond (.t 16)
(.seq (.reg false [
⟨some 17, none, [], .bld [(.it .i64 0), (.it .i64 0), (.bo false), (.bo false), (.bo false), .ns, (.it .i64 0), (.it .i64 0), (.it .i64 0), (.it .i64 0), .ns] []⟩, cP 18 42 [(.k (.it .i64 6))], sO 11 4 17, sO 3 5 18] [])
.ret)
.skip))
(.seq (.seq (.reg false [
fA 19 1 2, lD 20 1 19, ⟨some 21, none, [], .bin .no .and (.t 20) (.k (.it .i64 32))⟩, ⟨some 22, none, [], .bin .no .neq (.t 21) (.k (.it .i64 0))⟩] [19])
(.cond (.t 22)
(.seq (.seq (.reg false [
mV 23 7, lN 24 false 23, ⟨some 25, none, [], .bin .no .lss (.t 24) (.k (.it .i64 5))⟩] [])
(.cond (.t 25)
(.seq (.reg false [
⟨some 26, none, [], .bld [(.it .i64 0), (.it .i64 0), (.bo false), (.bo false), (.bo false), .ns, (.it .i64 0), (.it .i64 0), (.it .i64 0), (.it .i64 0), .ns] []⟩, cP 27 42 [(.k (.it .i64 6))], sO 11 4 26, sO 3 5 27] [])
.ret)
.skip))
(.seq (.seq (.reg true [
mV 28 7, fA 30 2 2, lD 31 1 30, cP 29 49 [(.t 28)], ⟨some 32, none, [], .bin .no .eql (.t 29) (.t 31)⟩] [30])
(.cond (.t 32)
(.seq (.reg false [
⟨some 33, none, [], .bld [(.it .i64 0), (.it .i64 0), (.bo false), (.bo false), (.bo false), .ns, (.it .i64 0), (.it .i64 0), (.it .i64 0), (.it .i64 0), .ns] []⟩, fA 34 2 2, lD 35 1 34, cP 36 57 [(.k (.it .i64 1)), (.t 35)], sO 11 4 33, sO 3 5 36] [34])
.ret)
.skip))
(.reg false [
mV 37 7, ⟨some 38, none, [], .slc false 1 (.t 37) (some (.k (.it .i64 5))) none⟩, mV 7 38] [])))
.skip))
(.seq (.seq (.reg false [
mV 39 6, mV 40 7, lN 41 false 40, ⟨some 42, none, [], .bin .no .gtr (.t 39) (.t 41)⟩] [])
(.cond (.t 42)
(.seq (.reg false [
⟨some 43, none, [], .bld [(.it .i64 0), (.it .i64 0), (.bo false), (.bo false), (.bo false), .ns, (.it .i64 0), (.it .i64 0), (.it .i64 0), (.it .i64 0), .ns] []⟩, cP 44 42 [(.k (.it .i64 1))], sO 11 4 43, sO 3 5 44] [])
.ret)
.skip))
(.seq (.reg true [
fA 45 1 2, lD 46 1 45, ⟨some 47, none, [], .bin .no .and (.t 46) (.k (.it .i64 1))⟩, ⟨some 48, none, [], .bin .no .neq (.t 47) (.k (.it .i64 0))⟩, fA 49 1 2, lD 50 1 49, ⟨some 51, none, [], .bin .no .and (.t 50) (.k (.it .i64 4))⟩, ⟨some 52, none, [], .bin .no .neq (.t 51) (.k (.it .i64 0))⟩, mV 53 7, mV 54 7, lN 55 false 54, mV 56 6, ⟨some 57, none, [], .bin .no .sub (.t 55) (.t 56)⟩, ⟨some 58, none, [], .slc false 1 (.t 53) none (some (.t 57))⟩, fA 60 2 3, cP 59 48 [(.t 58)], ⟨none, none, [49], .sto 1 (.t 60) (.t 48)⟩, fA 61 3 3, sO 1 61 52, fA 62 5 3, sO 1 62 59] [45, 49, 60, 61, 62])
(.seq (.reg false [
lQ 63 11 3, ⟨some 64, none, [], .bld [(.it .i64 0), (.it .i64 0), (.it .i64 0)] []⟩, sO 11 4 63, sO 3 5 64] [])
.ret)))))))⟩
def c44 : Ev.Fn := d44.den
theorem r44 : OK 44 c44 := rd d44 { loc := [2, 3, 4, 5], md := .pure, mds := mds, heap := [], own := [], ord := [(7, [0, 2, 3, 1, 4]), (12, [0, 1, 2, 3, 4, 5, 6, 7, 8, 9, 10, 11, 12, 13, 15, 14, 16, 17, 18, 19, 20])], clr := [(4, [19]), (7, [30]), (8, [34]), (12, [45, 49, 60, 61, 62])], mask := [], fns := [], lcl := [], hnd := [], pro := [] } Tryz.func44
def d45 : DFn := ⟨[(.g [.one, .one, .one, (.sl [.one])]), (.g [.one, .one, .one, .one, .one, (.sl [.one]), .one, .one, .one, .one, (.sl [.one, .one])])], [(.g [.one, .one, .one, .one, .one, (.sl [.one]), .one, .one, .one, .one, (.sl [.one, .one])]), (.g [.one, .one, .one])], .pure, [.cell 4 11 true, .cell 5 3 true],
(.seq (.reg false [
⟨some 2, none, [], .box (.t 0)⟩, ⟨some 3, none, [], .box (.t 1)⟩, ⟨some 4, none, [], .alc [(.it .i64 0), (.it .i64 0), (.bo false), (.bo false), (.bo false), .ns, (.it .i64 0), (.it .i64 0), (.it .i64 0), (.it .i64 0), .ns]⟩, ⟨some 5, none, [], .alc [(.it .i64 0), (.it .i64 0), (.it .i64 0)]⟩] [])
(.seq (.seq (.reg false [
fA 6 3 2, lD 7 1 6, lN 8 false 7, ⟨some 9, none, [], .bin .no .neq (.t 8) (.k (.it .i64 5))⟩] [6])
(.cond (.t 9)
(.seq (.reg false [
⟨some 10, none, [], .bld [(.it .i64 0), (.it .i64 0), (.bo false), (.bo false), (.bo false), .ns, (.it .i64 0), (.it .i64 0), (.it .i64 0), (.it .i64 0), .ns] []⟩, fA 11 2 2, lD 12 1 11, cP 13 57 [(.k (.it .i64 6)), (.t 12)], sO 11 4 10, sO 3 5 13] [11])
.ret)
.skip))
(.seq (.seq (.reg true [
fA 14 3 2, lD 15 1 14, fA 17 2 2, lD 18 1 17, cP 16 49 [(.t 15)], ⟨some 19, none, [], .bin .no .eql (.t 16) (.t 18)⟩] [14, 17])
(.cond (.t 19)
(.seq (.reg false [
⟨some 20, none, [], .bld [(.it .i64 0), (.it .i64 0), (.bo false), (.bo false), (.bo false), .ns, (.it .i64 0), (.it .i64 0), (.it .i64 0), (.it .i64 0), .ns] []⟩, fA 21 2 2, lD 22 1 21, cP 23 57 [(.k (.it .i64 1)), (.t 22)], sO 11 4 20, sO 3 5 23] [21])
.ret)
.skip))
(.seq (.reg false [
lQ 24 11 3, ⟨some 25, none, [], .bld [(.it .i64 0), (.it .i64 0), (.it .i64 0)] []⟩, sO 11 4 24, sO 3 5 25] [])
.ret))))⟩
def c45 : Ev.Fn := d45.den
theorem r45 : OK 45 c45 := rd d45 { loc := [2, 3, 4, 5], md := .pure, mds := mds, heap := [], own := [], ord := [(3, [0, 1, 3, 4, 2, 5])], clr := [(1, [6]), (2, [11]), (3, [14, 17]), (4, [21])], mask := [], fns := [], lcl := [], hnd := [], pro := [] } Tryz.func45
def d46 : DFn := ⟨[(.c (.sl [.one]))], [(.c .one)], .pure, [.tmp 2],
(.seq (.reg false [
mK 2 (.it .i64 0)] [])
(.seq (.reg true [
mV 3 0, ⟨some 4, none, [], .ias 1 (.t 3) (.k (.it .i64 0))⟩, lD 5 1 4, cV 6 .i64 5, ⟨some 7, none, [], .bin .no .shl (.t 6) (.k (.it .u64 24))⟩, mV 8 0, ⟨some 9, none, [], .ias 1 (.t 8) (.k (.it .i64 1))⟩, lD 10 1 9, cV 11 .i64 10, ⟨some 12, none, [], .bin .no .shl (.t 11) (.k (.it .u64 16))⟩, ⟨some 13, none, [], .bin .no .or (.t 7) (.t 12)⟩, mV 14 0, ⟨some 15, none, [], .ias 1 (.t 14) (.k (.it .i64 2))⟩, lD 16 1 15, cV 17 .i64 16, ⟨some 18, none, [], .bin .no .shl (.t 17) (.k (.it .u64 8))⟩, ⟨some 19, none, [], .bin .no .or (.t 13) (.t 18)⟩, mV 20 0, ⟨some 21, none, [], .ias 1 (.t 20) (.k (.it .i64 3))⟩, lD 22 1 21, cV 23 .i64 22, ⟨some 24, none, [], .bin .no .or (.t 19) (.t 23)⟩, mV 2 24] [])
.ret))⟩
def c46 : Ev.Fn := d46.den
theorem r46 : OK 46 c46 := rd d46 { loc := [], md := .pure, mds := mds, heap := [], own := [], ord := [], clr := [], mask := [], fns := [], lcl := [], hnd := [], pro := [] } Tryz.func46
def d47 : DFn := ⟨[(.g [.one, .one, .one, (.sl [.one])]), (.g [.one, .one, .one, .one, .one, (.sl [.one]), .one, .one, .one, .one, (.sl [.one, .one])])], [(.g [.one, .one, .one, .one, .one, (.sl [.one]), .one, .one, .one, .one, (.sl [.one, .one])]), (.g [.one, .one, .one])], .rw, [.cell 4 11 true, .cell 5 3 true],
(.seq (.reg false [
⟨some 2, none, [], .box (.t 0)⟩, ⟨some 3, none, [], .box (.t 1)⟩, ⟨some 4, none, [], .alc [(.it .i64 0), (.it .i64 0), (.bo false), (.bo false), (.bo false), .ns, (.it .i64 0), (.it .i64 0), (.it .i64 0), (.it .i64 0), .ns]⟩, ⟨some 5, none, [], .alc [(.it .i64 0), (.it .i64 0), (.it .i64 0)]⟩] [])
(.seq (.reg false [
fA 9 1 2, lD 10 1 9, ⟨some 11, none, [], .bin .no .and (.t 10) (.k (.it .i64 1))⟩, ⟨some 12, none, [], .bin .no .neq (.t 11) (.k (.it .i64 0))⟩, fA 13 4 3, sO 1 13 12] [9, 13])
(.seq (.reg false [
fA 14 3 2, lD 15 1 14, mV 6 15] [14])
(.seq (.seq (.reg false [
fA 16 4 3, lD 17 1 16, mV 18 17, ⟨some 19, some (18, true), [], .mov (.t 6)⟩, ⟨some 20, some (18, true), [], .len false (.t 19)⟩, ⟨some 21, some (18, true), [], .bin .no .gtr (.t 20) (.k (.it .i64 0))⟩, ⟨some 22, none, [], .pick (.t 18) (.t 21) (.k (.bo false))⟩, mV 23 22, ⟨some 24, some (23, false), [], .mov (.t 6)⟩, ⟨some 25, some (23, false), [], .len false (.t 24)⟩, ⟨some 26, some (23, false), [], .bin .no .rem (.t 25) (.k (.it .i64 6))⟩, ⟨some 27, some (23, false), [], .bin .no .neq (.t 26) (.k (.it .i64 0))⟩, ⟨some 28, none, [], .pick (.t 23) (.k (.bo true)) (.t 27)⟩] [16])
(.cond (.t 28)
(.seq (.reg false [
⟨some 29, none, [], .bld [(.it .i64 0), (.it .i64 0), (.bo false), (.bo false), (.bo false), .ns, (.it .i64 0), (.it .i64 0), (.it .i64 0), (.it .i64 0), .ns] []⟩, cP 30 42 [(.k (.it .i64 6))], sO 11 4 29, sO 3 5 30] [])
.ret)
.skip))
(.seq (.blk 0 (.loop [3, 4, 5, 6] [2, 7]
(.seq (.seq (.reg false [
mV 31 6, lN 32 false 31, ⟨some 33, none, [], .bin .no .gtr (.t 32) (.k (.it .i64 0))⟩] [])
(.cond (.t 33)
.skip
(.exit 0)))
(.seq (.blk 1 (.seq (.reg true [
mV 36 6, ⟨some 37, none, [], .ias 1 (.t 36) (.k (.it .i64 0))⟩, lD 38 1 37, cV 39 .i64 38, ⟨some 40, none, [], .bin .no .shl (.t 39) (.k (.it .u64 8))⟩, mV 41 6, ⟨some 42, none, [], .ias 1 (.t 41) (.k (.it .i64 1))⟩, lD 43 1 42, cV 44 .i64 43, ⟨some 45, none, [], .bin .no .or (.t 40) (.t 44)⟩, mV 46 6, ⟨some 47, none, [], .slc false 1 (.t 46) (some (.k (.it .i64 2))) none⟩, ⟨some 7, none, [36, 37, 38, 41, 42, 43, 46], .alc [(.it .i64 0), (.it .i64 0)]⟩, cP 48 46 [(.t 47)], ⟨some 49, none, [], .bld [(.it .i64 0), (.it .i64 0)] [(0, 1, (.t 45)), (1, 1, (.t 48))]⟩, sO 2 7 49] [])
(.seq (.seq (.reg false [
lQ 50 2 7, cP 51 58 [(.t 50)], mV 8 51] [])
(.seq (.reg false [
mV 52 8, ⟨some 53, none, [], .bin .no .neq (.t 52) (.k (.it .i64 0))⟩] [])
(.cond (.t 53)
(.seq (.reg false [
⟨some 54, none, [], .bld [(.it .i64 0), (.it .i64 0), (.bo false), (.bo false), (.bo false), .ns, (.it .i64 0), (.it .i64 0), (.it .i64 0), (.it .i64 0), .ns] []⟩, mV 55 8, cP 56 42 [(.t 55)], sO 11 4 54, sO 3 5 56] [])
.ret)
.skip)))
(.reg false [
fA 57 10 3, lD 58 1 57, lQ 59 2 7, ⟨some 60, none, [], .bsv [.one, .one] 2 [[(.it .i64 0), (.it .i64 0)]] [(0, (.t 59))]⟩, ⟨some 61, none, [], .app 2 16 (.t 58) (.t 60)⟩, fA 62 10 3, sO 1 62 61] [57, 62]))))
(.reg false [
mV 34 6, ⟨some 35, none, [], .slc false 1 (.t 34) (some (.k (.it .i64 6))) none⟩, mV 6 35] [])))))
(.seq (.reg false [
lQ 63 11 3, ⟨some 64, none, [], .bld [(.it .i64 0), (.it .i64 0), (.it .i64 0)] []⟩, sO 11 4 63, sO 3 5 64] [])
.ret))))))⟩
def c47 : Ev.Fn := d47.den
theorem r47 : OK 47 c47 := rd d47 { loc := [2, 3, 4, 5, 7], md := .rw, mds := mds, heap := [], own := [], ord := [(7, [0, 1, 2, 3, 4, 5, 6, 7, 8, 9, 10, 11, 14, 12, 13, 15])], clr := [(1, [9, 13]), (2, [14]), (3, [16]), (11, [57, 62])], mask := [(5, [3, 4, 5, 6], [2, 7])], fns := [], lcl := [], hnd := [], pro := [] } Tryz.func47
def d48 : DFn := ⟨[(.c (.sl [.one]))], [(.c (.sl [.one]))], .pure, [.tmp 2],
(.seq (.reg false [
mK 2 .ns] [])
(.seq (.reg false [
mV 3 0, ⟨some 4, none, [], .app 1 1 (.k .ns) (.t 3)⟩, mV 2 4] [])
.ret))⟩
def c48 : Ev.Fn := d48.den
theorem r48 : OK 48 c48 := rd d48 { loc := [], md := .pure, mds := mds, heap := [], own := [], ord := [], clr := [], mask := [], fns := [], lcl := [], hnd := [], pro := [] } Tryz.func48
def d49 : DFn := ⟨[(.c (.sl [.one]))], [(.c .one)], .pure, [.tmp 2],
(.seq (.reg false [
mK 2 (.it .i64 0)] [])
(.seq (.reg false [
mV 3 0, cP 4 46 [(.t 3)], ⟨some 5, none, [], .bin .no .and (.t 4) (.k (.it .i64 2147483647))⟩, mV 2 5] [])
.ret))⟩
def c49 : Ev.Fn := d49.den
theorem r49 : OK 49 c49 := rd d49 { loc := [], md := .pure, mds := mds, heap := [], own := [], ord := [], clr := [], mask := [], fns := [], lcl := [], hnd := [], pro := [] } Tryz.func49
def d50 : DFn := ⟨[(.g [.one, .one, .one, (.sl [.one])]), (.g [.one, .one, .one, .one, .one, (.sl [.one]), .one, .one, .one, .one, (.sl [.one, .one])])], [(.g [.one, .one, .one, .one, .one, (.sl [.one]), .one, .one, .one, .one, (.sl [.one, .one])]), (.g [.one, .one, .one])], .pure, [.cell 4 11 true, .cell 5 3 true],
(.seq (.reg false [
⟨some 2, none, [], .box (.t 0)⟩, ⟨some 3, none, [], .box (.t 1)⟩, ⟨some 4, none, [], .alc [(.it .i64 0), (.it .i64 0), (.bo false), (.bo false), (.bo false), .ns, (.it .i64 0), (.it .i64 0), (.it .i64 0), (.it .i64 0), .ns]⟩, ⟨some 5, none, [], .alc [(.it .i64 0), (.it .i64 0), (.it .i64 0)]⟩] [])
(.seq (.seq (.reg false [
fA 6 3 2, lD 7 1 6, lN 8 false 7, ⟨some 9, none, [], .bin .no .neq (.t 8) (.k (.it .i64 4))⟩] [6])
(.cond (.t 9)
(.seq (.reg false [
⟨some 10, none, [], .bld [(.it .i64 0), (.it .i64 0), (.bo false), (.bo false), (.bo false), .ns, (.it .i64 0), (.it .i64 0), (.it .i64 0), (.it .i64 0), .ns] []⟩, cP 11 42 [(.k (.it .i64 6))], sO 11 4 10, sO 3 5 11] [])
.ret)
.skip))
(.seq (.reg false [
fA 12 3 2, lD 13 1 12, cP 14 49 [(.t 13)], fA 15 8 3, sO 1 15 14] [12, 15])
(.seq (.seq (.reg false [
fA 16 8 3, lD 17 1 16, ⟨some 18, none, [], .bin .no .gtr (.t 17) (.k (.it .i64 0))⟩] [16])
(.cond (.t 18)
(.seq (.reg false [
lQ 19 11 3, ⟨some 20, none, [], .bld [(.it .i64 0), (.it .i64 0), (.it .i64 0)] []⟩, sO 11 4 19, sO 3 5 20] [])
.ret)
.skip))
(.seq (.seq (.reg false [
fA 21 2 2, lD 22 1 21, ⟨some 23, none, [], .bin .no .eql (.t 22) (.k (.it .i64 0))⟩] [21])
(.cond (.t 23)
(.seq (.reg false [
⟨some 24, none, [], .bld [(.it .i64 0), (.it .i64 0), (.bo false), (.bo false), (.bo false), .ns, (.it .i64 0), (.it .i64 0), (.it .i64 0), (.it .i64 0), .ns] []⟩, cP 25 42 [(.k (.it .i64 1))], sO 11 4 24, sO 3 5 25] [])
.ret)
.skip))
(.seq (.reg false [
⟨some 26, none, [], .bld [(.it .i64 0), (.it .i64 0), (.bo false), (.bo false), (.bo false), .ns, (.it .i64 0), (.it .i64 0), (.it .i64 0), (.it .i64 0), .ns] []⟩, fA 27 2 2, lD 28 1 27, cP 29 57 [(.k (.it .i64 1)), (.t 28)], sO 11 4 26, sO 3 5 29] [27])
.ret))))))⟩
def c50 : Ev.Fn := d50.den
theorem r50 : OK 50 c50 := rd d50 { loc := [2, 3, 4, 5], md := .pure, mds := mds, heap := [], own := [], ord := [], clr := [(1, [6]), (3, [12, 15]), (4, [16]), (6, [21]), (8, [27])], mask := [], fns := [], lcl := [], hnd := [], pro := [] } Tryz.func50
def d51 : DFn := ⟨[(.c .one), (.c .one)], [(.c .one), (.c .one)], .pure, [.tmp 4, .tmp 5],
(.seq (.reg false [
mK 4 (.it .i64 0), mK 5 (.bo false)] [])
(.seq (.reg false [
mV 7 1, ⟨some 8, none, [], .bin .no .gtr (.t 7) (.k (.it .i64 10))⟩, mV 6 8] [])
(.seq (.seq (.reg false [
mV 9 6] [])
(.cond (.t 9)
(.reg false [
mV 10 1, ⟨some 11, none, [], .bin .no .sub (.t 10) (.k (.it .i64 10))⟩, mV 1 11] [])
.skip))
(.seq (.seq (.reg false [
mV 12 1, ⟨some 13, none, [], .bin .no .lss (.t 12) (.k (.it .i64 1))⟩, mV 14 13, ⟨some 15, some (14, false), [], .mov (.t 1)⟩, ⟨some 16, some (14, false), [], .bin .no .gtr (.t 15) (.k (.it .i64 5))⟩, ⟨some 17, none, [], .pick (.t 14) (.k (.bo true)) (.t 16)⟩] [])
(.cond (.t 17)
(.seq (.reg false [
mV 18 0, mV 4 18, mK 5 (.bo false)] [])
.ret)
.skip))
(.seq (.seq (.reg false [
mV 19 0] [])
(.blk 0 (.seq (.reg false [
⟨some 21, none, [], .bin .no .eql (.t 19) (.k (.it .i64 0))⟩, mV 20 21] [])
(.cond (.t 20)
(.seq (.seq (.reg false [
mV 22 1] [])
(.blk 1 (.seq (.reg false [
⟨some 24, none, [], .bin .no .eql (.t 22) (.k (.it .i64 2))⟩, mV 23 24] [])
(.cond (.t 23)
(.seq (.reg false [
mK 4 (.it .i64 1), mK 5 (.bo true)] [])
.ret)
(.seq (.reg false [
⟨some 26, none, [], .bin .no .eql (.t 22) (.k (.it .i64 1))⟩, mV 25 26] [])
(.cond (.t 25)
(.seq (.reg false [
mV 27 6, cP 28 59 [(.t 27)], mV 4 28, mK 5 (.bo true)] [])
.ret)
.skip))))))
(.seq (.reg false [
mK 4 (.it .i64 0), mK 5 (.bo false)] [])
.ret))
(.seq (.reg false [
⟨some 30, none, [], .bin .no .eql (.t 19) (.k (.it .i64 1))⟩, mV 29 30] [])
(.cond (.t 29)
(.seq (.seq (.reg false [
mV 31 1, ⟨some 32, none, [], .bin .no .eql (.t 31) (.k (.it .i64 5))⟩] [])
(.cond (.t 32)
(.seq (.reg false [
mK 4 (.it .i64 4), mK 5 (.bo true)] [])
.ret)
.skip))
(.seq (.seq (.reg false [
mV 33 1, cP 34 60 [(.t 33)]] [])
(.cond (.t 34)
(.seq (.reg false [
mV 35 6, cP 36 59 [(.t 35)], mV 4 36, mK 5 (.bo true)] [])
.ret)
.skip))
(.seq (.reg false [
mK 4 (.it .i64 1), mK 5 (.bo true)] [])
.ret)))
(.seq (.seq (.reg false [
⟨some 38, none, [], .bin .no .eql (.t 19) (.k (.it .i64 2))⟩, mV 37 38] [])
(.cond (.t 37)
.skip
(.reg false [
⟨some 39, none, [], .bin .no .eql (.t 19) (.k (.it .i64 3))⟩, mV 37 39] [])))
(.cond (.t 37)
(.seq (.seq (.reg false [
mV 40 1, ⟨some 41, none, [], .bin .no .eql (.t 40) (.k (.it .i64 5))⟩] [])
(.cond (.t 41)
(.seq (.reg false [
mK 4 (.it .i64 4), mK 5 (.bo true)] [])
.ret)
.skip))
(.seq (.seq (.reg false [
mV 42 0, mV 43 6, cP 44 59 [(.t 43)], ⟨some 45, none, [], .bin .no .eql (.t 42) (.t 44)⟩] [])
(.cond (.t 45)
(.seq (.reg false [
mV 46 0, mV 4 46, mK 5 (.bo false)] [])
.ret)
.skip))
(.seq (.seq (.reg false [
mV 47 1, cP 48 60 [(.t 47)]] [])
(.cond (.t 48)
(.seq (.reg false [
mK 4 (.it .i64 4), mK 5 (.bo true)] [])
.ret)
.skip))
(.seq (.reg false [
mV 49 0, mV 4 49, mK 5 (.bo true)] [])
.ret))))
.skip))))))))
(.seq (.reg false [
mV 50 0, mV 4 50, mK 5 (.bo false)] [])
.ret))))))⟩
def c51 : Ev.Fn := d51.den
theorem r51 : OK 51 c51 := rd d51 { loc := [], md := .pure, mds := mds, heap := [], own := [], ord := [], clr := [], mask := [], fns := [], lcl := [], hnd := [], pro := [] } Tryz.func51
def d52 : DFn := ⟨[(.c .one), (.c .one)], [(.c (.sl [.one]))], .pure, [.tmp 4],
(.seq (.reg false [
mK 4 .ns] [])
(.seq (.reg false [
mV 5 0, mV 6 1, cP 7 61 [(.t 5), (.t 6), (.k (.it .i64 0)), (.k (.it .i64 (-1)))], mV 4 7] [])
.ret))⟩
def c52 : Ev.Fn := d52.den
theorem r52 : OK 52 c52 := rd d52 { loc := [], md := .pure, mds := mds, heap := [], own := [], ord := [], clr := [], mask := [], fns := [], lcl := [], hnd := [], pro := [] } Tryz.func52
def d53 : DFn := ⟨[(.c .one), (.c .one)], [(.c .one), (.c .one), (.c .one)], .pure, [.tmp 4, .tmp 5, .tmp 6],
(.seq (.reg false [
mK 4 (.st []), mK 5 (.st []), mK 6 (.bo false)] [])
(.seq (.reg false [
mV 7 0, mV 8 1, cP 9 62 [(.t 7), (.t 8)], eX 10 9 0, eX 11 9 1, eX 12 9 2, mV 4 10, mV 5 11, mV 6 12] [])
.ret))⟩
def c53 : Ev.Fn := d53.den
theorem r53 : OK 53 c53 := rd d53 { loc := [], md := .pure, mds := mds, heap := [], own := [], ord := [], clr := [], mask := [], fns := [], lcl := [], hnd := [], pro := [] } Tryz.func53
def d54 : DFn := ⟨[(.c .one), (.c .one)], [(.c .one)], .rw, [.tmp 4],
(.seq (.reg false [
mK 4 (.bo false)] [])
(.seq (.reg false [
mV 8 0, nK 9 8, fA 10 1 9, lD 11 1 10, mV 12 1, ⟨some 13, none, [], .bin .no .add (.k (.it .i64 10)) (.t 12)⟩, ⟨some 14, none, [], .call true .pure 51 [(.t 11), (.t 13)]⟩, mV 7 14, eX 15 7 0, eX 16 7 1, mV 5 15, mV 6 16] [])
(.seq (.reg false [
mV 17 0, mV 18 5, nK 19 17, fA 20 1 19, sO 1 20 18] [])
(.seq (.reg false [
mV 21 6, mV 4 21] [])
.ret))))⟩
def c54 : Ev.Fn := d54.den
theorem r54 : OK 54 c54 := rd d54 { loc := [], md := .rw, mds := mds, heap := [14], own := [14], ord := [], clr := [], mask := [], fns := [], lcl := [], hnd := [], pro := [] } Tryz.func54
def d55 : DFn := ⟨[(.c .one), (.c (.sl [.one]))], [(.c (.sl [.one, .one, .one])), (.c .one)], .rw, [.tmp 4, .tmp 5],
(.seq (.reg false [
⟨some 3, none, [], .bxh (.t 1)⟩, mK 4 .ns, mK 5 (.it .i64 0)] [])
(.seq (.seq (.reg false [
mV 9 0, nK 10 9, fA 11 3 10, lD 12 1 11] [])
(.cond (.t 12)
(.seq (.reg false [
mK 4 .ns, mK 5 (.it .i64 1)] [])
.ret)
.skip))
(.seq (.reg false [
mV 13 0, lD 14 1 3, ⟨some 15, none, [], .bld [.np, .ns, (.it .i64 0), .ns, (.it .i64 0), (.it .i64 0)] [(0, 1, (.t 13)), (1, 1, (.t 14))]⟩, ⟨some 16, none, [], .bxh (.t 15)⟩, ⟨some 6, none, [], .alh [.np]⟩, sO 1 6 16] [])
(.seq (.reg false [
⟨some 18, none, [], .mkf 64 [] [(.t 6), (.t 3)]⟩, cR 19 63 [(.t 18)], mV 17 19, eX 20 17 0, eX 21 17 1, ⟨some 7, none, [], .alc [(.it .i64 0), (.it .i64 0)]⟩, sO 2 7 20, mV 8 21] [])
(.seq (.seq (.reg false [
mV 22 8] [])
(.cond (.t 22)
(.seq (.reg false [
mV 23 0, nK 24 23, fA 25 3 24, ⟨none, none, [], .sto 1 (.t 25) (.k (.bo true))⟩] [])
(.seq (.reg true [
fA 26 0 7, lD 27 1 26, mK 4 .ns, mV 5 27] [26])
.ret))
.skip))
(.seq (.reg false [
lD 28 1 6, nK 29 28, fA 30 3 29, lD 31 1 30, mV 4 31, mK 5 (.it .i64 0)] [])
.ret))))))⟩
def c55 : Ev.Fn := d55.den
theorem r55 : OK 55 c55 := rd d55 { loc := [7], md := .rw, mds := mds, heap := [], own := [], ord := [(0, [1, 2, 0]), (4, [0, 5, 1, 2, 3, 4, 6, 7])], clr := [(7, [26])], mask := [], fns := [64], lcl := [], hnd := [], pro := [] } Tryz.func55
def d56 : DFn := ⟨[(.g [.one, .one, .one, (.sl [.one])])], [(.c .one), (.c (.sl [.one])), (.c .one)], .pure, [.tmp 2, .tmp 3, .tmp 4],
(.seq (.reg false [
⟨some 1, none, [], .box (.t 0)⟩, mK 2 (.it .i64 0), mK 3 .ns, mK 4 (.bo false)] [])
(.seq (.seq (.reg false [
fA 5 1 1, lD 6 1 5, ⟨some 7, none, [], .bin .no .and (.t 6) (.k (.it .i64 8))⟩, ⟨some 8, none, [], .bin .no .eql (.t 7) (.k (.it .i64 0))⟩] [5])
(.cond (.t 8)
(.seq (.reg true [
fA 9 3 1, lD 10 1 9, mK 2 (.it .i64 0), mV 3 10, mK 4 (.bo true)] [9])
.ret)
.skip))
(.seq (.seq (.reg false [
fA 11 3 1, lD 12 1 11, lN 13 false 12, ⟨some 14, none, [], .bin .no .eql (.t 13) (.k (.it .i64 0))⟩] [11])
(.cond (.t 14)
(.seq (.reg false [
mK 2 (.it .i64 0), mK 3 .ns, mK 4 (.bo false)] [])
.ret)
.skip))
(.seq (.reg true [
fA 15 3 1, lD 16 1 15, ⟨some 17, none, [], .ias 1 (.t 16) (.k (.it .i64 0))⟩, lD 18 1 17, cV 19 .i64 18, fA 20 3 1, lD 21 1 20, ⟨some 22, none, [], .slc false 1 (.t 21) (some (.k (.it .i64 1))) none⟩, mV 2 19, mV 3 22, mK 4 (.bo true)] [15, 20])
.ret))))⟩
def c56 : Ev.Fn := d56.den
theorem r56 : OK 56 c56 := rd d56 { loc := [1], md := .pure, mds := mds, heap := [], own := [], ord := [(0, [1, 2, 3, 0])], clr := [(1, [5]), (2, [9]), (3, [11]), (5, [15, 20])], mask := [], fns := [], lcl := [], hnd := [], pro := [] } Tryz.func56
def d57 : DFn := ⟨[(.c .one), (.c .one)], [(.g [.one, .one, .one])], .pure, [.cell 4 3 true],
(.seq (.reg false [
⟨some 4, none, [], .alc [(.it .i64 0), (.it .i64 0), (.it .i64 0)]⟩] [])
(.seq (.reg false [
mV 5 0, mV 6 1, ⟨some 7, none, [], .bld [(.it .i64 0), (.it .i64 0), (.it .i64 0)] [(0, 1, (.k (.it .i64 1))), (1, 1, (.t 5)), (2, 1, (.t 6))]⟩, sO 3 4 7] [])
.ret))⟩
def c57 : Ev.Fn := d57.den
theorem r57 : OK 57 c57 := rd d57 { loc := [4], md := .pure, mds := mds, heap := [], own := [], ord := [], clr := [], mask := [], fns := [], lcl := [], hnd := [], pro := [] } Tryz.func57
def d58 : DFn := ⟨[(.g [.one, .one])], [(.c .one)], .pure, [.tmp 2],
(.seq (.reg false [
⟨some 1, none, [], .box (.t 0)⟩, mK 2 (.it .i64 0)] [])
(.seq (.blk 0 (.seq (.reg false [
fA 4 0 1, lD 5 1 4, ⟨some 6, none, [], .bin .no .eql (.t 5) (.k (.it .i64 2))⟩, mV 7 6, ⟨some 8, some (7, true), [], .fad 1 (.t 1)⟩, ⟨some 9, some (7, true), [], .ld 1 false (.t 8)⟩, ⟨some 10, some (7, true), [], .call false .pure 66 [(.t 9), (.k (.it .i64 0)), (.k (.it .i64 1))]⟩, ⟨some 11, some (7, true), [], .un .not (.t 10)⟩, ⟨some 12, none, [], .pick (.t 7) (.t 11) (.k (.bo false))⟩, mV 3 12] [4, 8])
(.cond (.t 3)
(.seq (.reg false [
mK 2 (.it .i64 1)] [])
.ret)
(.seq (.reg false [
fA 14 0 1, lD 15 1 14, ⟨some 16, none, [], .bin .no .eql (.t 15) (.k (.it .i64 4))⟩, mV 17 16, ⟨some 18, some (17, true), [], .fad 1 (.t 1)⟩, ⟨some 19, some (17, true), [], .ld 1 false (.t 18)⟩, ⟨some 20, some (17, true), [], .call false .pure 66 [(.t 19), (.k (.it .i64 0)), (.k (.it .i64 2147483647))]⟩, ⟨some 21, some (17, true), [], .un .not (.t 20)⟩, ⟨some 22, none, [], .pick (.t 17) (.t 21) (.k (.bo false))⟩, mV 13 22] [14, 18])
(.cond (.t 13)
(.seq (.reg false [
mK 2 (.it .i64 3)] [])
.ret)
(.seq (.reg false [
fA 24 0 1, lD 25 1 24, ⟨some 26, none, [], .bin .no .eql (.t 25) (.k (.it .i64 5))⟩, mV 27 26, ⟨some 28, some (27, true), [], .fad 1 (.t 1)⟩, ⟨some 29, some (27, true), [], .ld 1 false (.t 28)⟩, ⟨some 30, some (27, true), [], .call false .pure 66 [(.t 29), (.k (.it .i64 16384)), (.k (.it .i64 16777215))]⟩, ⟨some 31, some (27, true), [], .un .not (.t 30)⟩, ⟨some 32, none, [], .pick (.t 27) (.t 31) (.k (.bo false))⟩, mV 23 32] [24, 28])
(.cond (.t 23)
(.seq (.reg false [
mK 2 (.it .i64 1)] [])
.ret)
.skip)))))))
(.seq (.reg false [
mK 2 (.it .i64 0)] [])
.ret)))⟩
def c58 : Ev.Fn := d58.den
theorem r58 : OK 58 c58 := rd d58 { loc := [1], md := .pure, mds := mds, heap := [], own := [], ord := [(0, [1, 0])], clr := [(1, [4, 8]), (3, [14, 18]), (5, [24, 28])], mask := [], fns := [], lcl := [], hnd := [], pro := [] } Tryz.func58
def d59 : DFn := ⟨[(.c .one)], [(.c .one)], .pure, [.tmp 2],
(.seq (.reg false [
mK 2 (.it .i64 0)] [])
(.seq (.seq (.reg false [
mV 3 0] [])
(.cond (.t 3)
(.seq (.reg false [
mK 2 (.it .i64 2)] [])
.ret)
.skip))
(.seq (.reg false [
mK 2 (.it .i64 3)] [])
.ret)))⟩
def c59 : Ev.Fn := d59.den
theorem r59 : OK 59 c59 := rd d59 { loc := [], md := .pure, mds := mds, heap := [], own := [], ord := [], clr := [], mask := [], fns := [], lcl := [], hnd := [], pro := [] } Tryz.func59
def d60 : DFn := ⟨[(.c .one)], [(.c .one)], .pure, [.tmp 2],
(.seq (.reg false [
mK 2 (.bo false)] [])
(.seq (.reg false [
mV 3 0, ⟨some 4, none, [], .bin .no .eql (.t 3) (.k (.it .i64 1))⟩, mV 5 4, ⟨some 6, some (5, false), [], .mov (.t 0)⟩, ⟨some 7, some (5, false), [], .bin .no .eql (.t 6) (.k (.it .i64 3))⟩, ⟨some 8, none, [], .pick (.t 5) (.k (.bo true)) (.t 7)⟩, mV 2 8] [])
.ret))⟩
def c60 : Ev.Fn := d60.den
theorem r60 : OK 60 c60 := rd d60 { loc := [], md := .pure, mds := mds, heap := [], own := [], ord := [], clr := [], mask := [], fns := [], lcl := [], hnd := [], pro := [] } Tryz.func60
def d61 : DFn := ⟨[(.c .one), (.c .one), (.c .one), (.c .one)], [(.c (.sl [.one]))], .pure, [.tmp 8],
(.seq (.reg false [
mK 8 .ns] [])
(.seq (.seq (.reg false [
mV 12 3, ⟨some 13, none, [], .bin .no .eql (.t 12) (.k (.it .i64 0))⟩] [])
(.cond (.t 13)
(.seq (.reg false [
mK 8 .ns] [])
.ret)
.skip))
(.seq (.seq (.reg false [
mV 14 1, ⟨some 15, none, [], .bin .no .eql (.t 14) (.k (.st []))⟩] [])
(.cond (.t 15)
(.seq (.reg false [
mV 16 0, mV 17 3, cP 18 67 [(.t 16), (.t 17)], mV 8 18] [])
.ret)
.skip))
(.seq (.seq (.reg false [
mV 19 3, ⟨some 20, none, [], .bin .no .lss (.t 19) (.k (.it .i64 0))⟩] [])
(.cond (.t 20)
(.reg false [
mV 21 0, mV 22 1, cP 23 68 [(.t 21), (.t 22)], ⟨some 24, none, [], .bin .no .add (.t 23) (.k (.it .i64 1))⟩, mV 3 24] [])
.skip))
(.seq (.reg false [
mV 25 3, mV 26 0, lN 27 true 26, ⟨some 28, none, [], .bin .no .add (.t 27) (.k (.it .i64 1))⟩, ⟨some 29, none, [], .mnx false (.t 25) (.t 28)⟩, mV 3 29] [])
(.seq (.reg false [
mV 30 3, ⟨some 31, none, [], .mks 1 16 [(.st [])] (.t 30) (.t 30)⟩, mV 9 31] [])
(.seq (.reg false [
mV 32 3, ⟨some 33, none, [], .bin .no .sub (.t 32) (.k (.it .i64 1))⟩, mV 3 33] [])
(.seq (.reg false [
mK 10 (.it .i64 0)] [])
(.seq (.blk 0 (.loop [0, 1, 2, 3, 9, 10] []
(.seq (.seq (.reg false [
mV 34 10, mV 35 3, ⟨some 36, none, [], .bin .no .lss (.t 34) (.t 35)⟩] [])
(.cond (.t 36)
.skip
(.exit 0)))
(.blk 1 (.seq (.reg false [
mV 37 0, mV 38 1, cP 39 69 [(.t 37), (.t 38)], mV 11 39] [])
(.seq (.seq (.reg false [
mV 40 11, ⟨some 41, none, [], .bin .no .lss (.t 40) (.k (.it .i64 0))⟩] [])
(.cond (.t 41)
(.exit 0)
.skip))
(.seq (.reg false [
mV 42 9, mV 43 10, mV 44 0, mV 45 11, mV 46 2, ⟨some 47, none, [], .bin .no .add (.t 45) (.t 46)⟩, ⟨some 48, none, [], .slc true 0 (.t 44) none (some (.t 47))⟩, ⟨some 49, none, [], .ias 1 (.t 42) (.t 43)⟩, sO 1 49 48] [])
(.seq (.reg false [
mV 50 0, mV 51 11, mV 52 1, lN 53 true 52, ⟨some 54, none, [], .bin .no .add (.t 51) (.t 53)⟩, ⟨some 55, none, [], .slc true 0 (.t 50) (some (.t 54)) none⟩, mV 0 55] [])
(.reg false [
mV 56 10, ⟨some 57, none, [], .bin .no .add (.t 56) (.k (.it .i64 1))⟩, mV 10 57] [])))))))))
(.seq (.reg false [
mV 58 9, mV 59 10, mV 60 0, ⟨some 61, none, [], .ias 1 (.t 58) (.t 59)⟩, sO 1 61 60] [])
(.seq (.reg false [
mV 62 9, mV 63 10, ⟨some 64, none, [], .bin .no .add (.t 63) (.k (.it .i64 1))⟩, ⟨some 65, none, [], .slc false 1 (.t 62) none (some (.t 64))⟩, mV 8 65] [])
.ret)))))))))))⟩
def c61 : Ev.Fn := d61.den
theorem r61 : OK 61 c61 := rd d61 { loc := [], md := .pure, mds := mds, heap := [], own := [], ord := [], clr := [], mask := [(11, [0, 1, 2, 3, 9, 10], [])], fns := [], lcl := [], hnd := [], pro := [] } Tryz.func61
def d62 : DFn := ⟨[(.c .one), (.c .one)], [(.c .one), (.c .one), (.c .one)], .pure, [.tmp 4, .tmp 5, .tmp 6],
(.seq (.reg false [
mK 4 (.st []), mK 5 (.st []), mK 6 (.bo false)] [])
(.seq (.seq (.reg false [
mV 8 0, mV 9 1, cP 10 70 [(.t 8), (.t 9)], mV 7 10] [])
(.seq (.reg false [
mV 11 7, ⟨some 12, none, [], .bin .no .geq (.t 11) (.k (.it .i64 0))⟩] [])
(.cond (.t 12)
(.seq (.reg true [
mV 13 0, mV 14 7, ⟨some 15, none, [], .slc true 0 (.t 13) none (some (.t 14))⟩, mV 16 0, mV 17 7, mV 18 1, lN 19 true 18, ⟨some 20, none, [], .bin .no .add (.t 17) (.t 19)⟩, ⟨some 21, none, [], .slc true 0 (.t 16) (some (.t 20)) none⟩, mV 4 15, mV 5 21, mK 6 (.bo true)] [])
.ret)
.skip)))
(.seq (.reg false [
mV 22 0, mV 4 22, mK 5 (.st []), mK 6 (.bo false)] [])
.ret)))⟩
def c62 : Ev.Fn := d62.den
theorem r62 : OK 62 c62 := rd d62 { loc := [], md := .pure, mds := mds, heap := [], own := [], ord := [], clr := [], mask := [], fns := [], lcl := [], hnd := [], pro := [] } Tryz.func62
end Go.Proofs.YtndodhmfdjcjgaaGreatDoor.tab
