import Derived.Test.YtpncefcicfhibaaGreatDoorTabx1
import Derived.KernelRfl
set_option linter.unusedVariables false
set_option linter.unusedSimpArgs false
set_option linter.unusedSectionVars false
/- the functions of the seat, read off the program -/
namespace Go.Proofs.YtpncefcicfhibaaGreatDoor.tab
open Go hiding Fn
open Ev

def d138 : DFn := ⟨[(.c .one)], [], .rw, [],
(.seq (.reg true [
mV 4 0, nK 5 4, fA 6 1 5, lD 7 1 6, mV 8 0, nK 9 8, fA 10 2 9, lD 11 1 10, ⟨some 12, none, [], .ias 1 (.t 7) (.t 11)⟩, lD 13 1 12, mV 2 13] [])
(.blk 0 (.seq (.reg false [
mV 19 2, ⟨some 20, none, [], .bin .no .geq (.t 19) (.k (.it .u8 128))⟩, mV 18 20] [])
(.cond (.t 18)
(.reg false [
mV 21 0, mV 22 0, mV 23 0, cR 24 154 [(.t 23), (.k (.it .i64 7))], cR 25 153 [(.t 22), (.t 24)], cR 26 152 [(.t 21), (.t 25), (.k (.it .i64 1))]] [])
(.seq (.reg false [
mV 28 2, ⟨some 29, none, [], .bin .no .geq (.t 28) (.k (.it .u8 64))⟩, mV 27 29] [])
(.cond (.t 27)
(.seq (.reg false [
mV 30 0, cR 31 155 [(.t 30), (.k (.it .i64 6))], ⟨some 3, none, [], .alc [(.st []), (.st [])]⟩, sO 2 3 31] [])
(.seq (.reg true [
mV 32 0, nK 33 32, fA 34 0 33, lD 35 1 34, nK 36 35, fA 37 0 36, lD 38 1 37, lQ 39 2 3, cR 40 80 [(.t 38), (.t 39)]] [])
(.reg false [
mV 41 0, lQ 42 2 3, cR 43 152 [(.t 41), (.t 42), (.k (.it .i64 1))]] [])))
(.seq (.reg false [
mV 45 2, ⟨some 46, none, [], .bin .no .geq (.t 45) (.k (.it .u8 32))⟩, mV 44 46] [])
(.cond (.t 44)
(.reg false [
mV 47 0, cR 48 156 [(.t 47)]] [])
(.seq (.reg false [
mV 50 2, ⟨some 51, none, [], .bin .no .geq (.t 50) (.k (.it .u8 16))⟩, mV 49 51] [])
(.cond (.t 49)
(.reg false [
mV 52 0, mV 53 0, cR 54 155 [(.t 53), (.k (.it .i64 4))], cR 55 152 [(.t 52), (.t 54), (.k (.it .i64 3))]] [])
(.reg false [
mV 14 0, mV 15 0, cR 16 155 [(.t 15), (.k (.it .i64 4))], cR 17 152 [(.t 14), (.t 16), (.k (.it .i64 2))]] [])))))))))))⟩
def c138 : Ev.Fn := d138.den
theorem r138 : OK 138 c138 := rd d138 { loc := [3], md := .rw, mds := mds, heap := [], own := [], ord := [(5, [0, 2, 1, 3])], clr := [], mask := [], fns := [], lcl := [], hnd := [], pro := [] } Tryz.func138

def d139 : DFn := ⟨[(.c .one), (.c .one)], [(.c .one)], .rw, [.tmp 4],
(.seq (.reg false [
mK 4 .np] [])
(.seq (.seq (.reg false [
mV 5 0, nK 6 5, fA 7 0 6, lD 8 1 7, ⟨some 9, none, [], .un .not (.t 8)⟩, mV 10 9, ⟨some 11, some (10, false), [], .mov (.t 1)⟩, ⟨some 12, some (10, false), [], .bin .no .rem (.t 11) (.k (.it .i64 2))⟩, ⟨some 13, some (10, false), [], .bin .no .eql (.t 12) (.k (.it .i64 0))⟩, ⟨some 14, none, [], .pick (.t 10) (.k (.bo true)) (.t 13)⟩] [])
(.cond (.t 14)
(.seq (.reg false [
mV 15 0, cR 16 44 [(.t 15), (.k (.it .i64 1))]] [])
(.seq (.reg false [
mK 4 .np] [])
.ret))
.skip))
(.seq (.reg false [
mV 17 0, mV 18 1, nK 19 17, fA 20 16 19, sO 1 20 18] [])
(.seq (.seq (.reg true [
mV 21 0, nK 22 21, fA 23 15 22, lD 24 1 23, lN 25 false 24, mV 26 0, nK 27 26, fA 28 1 27, fA 29 0 28, lD 30 1 29, ⟨some 31, none, [], .bin .no .geq (.t 25) (.t 30)⟩] [])
(.cond (.t 31)
(.seq (.reg false [
mV 32 0, mV 33 1, cR 34 94 [(.t 32), (.t 33), (.k (.it .i64 7))]] [])
(.seq (.reg false [
mK 4 .np] [])
.ret))
.skip))
(.seq (.reg false [
mV 35 0, mV 36 1, cR 37 40 [(.t 35), (.t 36)], mV 4 37] [])
.ret)))))⟩
def c139 : Ev.Fn := d139.den
theorem r139 : OK 139 c139 := rd d139 { loc := [], md := .rw, mds := mds, heap := [], own := [], ord := [], clr := [], mask := [], fns := [], lcl := [], hnd := [], pro := [] } Tryz.func139

def d140 : DFn := ⟨[(.c (.sl [.one, .one]))], [(.c .one)], .pure, [.tmp 2],
(.seq (.reg false [
mK 2 (.bo false)] [])
(.seq (.reg false [
mV 3 0, lN 4 false 3, ⟨some 5, none, [], .bin .no .gtr (.t 4) (.k (.it .i64 0))⟩, mV 6 5, ⟨some 7, some (6, true), [], .mov (.t 0)⟩, ⟨some 8, some (6, true), [], .ias 2 (.t 7) (.k (.it .i64 0))⟩, ⟨some 9, some (6, true), [], .fad 0 (.t 8)⟩, ⟨some 10, some (6, true), [], .ld 1 false (.t 9)⟩, ⟨some 11, some (6, true), [], .bin .no .eql (.t 10) (.k (.st [58, 115, 116, 97, 116, 117, 115]))⟩, ⟨some 12, none, [], .pick (.t 6) (.t 11) (.k (.bo false))⟩, mV 13 12, ⟨some 14, some (13, true), [], .mov (.t 0)⟩, ⟨some 15, some (13, true), [], .ias 2 (.t 14) (.k (.it .i64 0))⟩, ⟨some 16, some (13, true), [], .fad 1 (.t 15)⟩, ⟨some 17, some (13, true), [], .ld 1 false (.t 16)⟩, ⟨some 18, some (13, true), [], .len true (.t 17)⟩, ⟨some 19, some (13, true), [], .bin .no .eql (.t 18) (.k (.it .i64 3))⟩, ⟨some 20, none, [], .pick (.t 13) (.t 19) (.k (.bo false))⟩, mV 21 20, ⟨some 22, some (21, true), [], .mov (.t 0)⟩, ⟨some 23, some (21, true), [], .ias 2 (.t 22) (.k (.it .i64 0))⟩, ⟨some 24, some (21, true), [], .fad 1 (.t 23)⟩, ⟨some 25, some (21, true), [], .ld 1 false (.t 24)⟩, ⟨some 26, some (21, true), [], .ixs (.t 25) (.k (.it .i64 0))⟩, ⟨some 27, some (21, true), [], .bin .no .eql (.t 26) (.k (.it .u8 49))⟩, ⟨some 28, none, [], .pick (.t 21) (.t 27) (.k (.bo false))⟩, mV 2 28] [])
.ret))⟩
def c140 : Ev.Fn := d140.den
theorem r140 : OK 140 c140 := rd d140 { loc := [], md := .pure, mds := mds, heap := [], own := [], ord := [], clr := [], mask := [], fns := [], lcl := [], hnd := [], pro := [] } Tryz.func140

def d141 : DFn := ⟨[(.c .one)], [(.c .one)], .rw, [.tmp 2],
(.seq (.reg false [
mK 2 (.it .i64 0)] [])
(.seq (.reg false [
mV 3 0, nK 4 3, fA 5 0 4, lD 6 1 5, lN 7 false 6, mV 2 7] [])
.ret))⟩
def c141 : Ev.Fn := d141.den
theorem r141 : OK 141 c141 := rd d141 { loc := [], md := .rw, mds := mds, heap := [], own := [], ord := [], clr := [], mask := [], fns := [], lcl := [], hnd := [], pro := [] } Tryz.func141

def d142 : DFn := ⟨[(.c .one)], [(.c .one)], .rw, [.tmp 2],
(.seq (.reg false [
mK 2 (.it .i64 0)] [])
(.seq (.reg false [
mV 3 0, nK 4 3, fA 5 2 4, lD 6 1 5, mV 2 6] [])
.ret))⟩
def c142 : Ev.Fn := d142.den
theorem r142 : OK 142 c142 := rd d142 { loc := [], md := .rw, mds := mds, heap := [], own := [], ord := [], clr := [], mask := [], fns := [], lcl := [], hnd := [], pro := [] } Tryz.func142

def d143 : DFn := ⟨[(.c .one), (.c .one)], [(.c .one)], .rw, [.tmp 4],
(.seq (.reg false [
mK 4 (.it .i64 0)] [])
(.seq (.seq (.reg false [
mV 5 1, cP 6 74 [(.t 5)], ⟨some 7, none, [], .un .not (.t 6)⟩] [])
(.cond (.t 7)
(.seq (.reg false [
mK 4 (.it .i64 1)] [])
.ret)
.skip))
(.seq (.reg false [
mV 8 0, mV 9 1, nK 10 8, fA 11 3 10, sO 1 11 9] [])
(.seq (.reg false [
mV 12 0, mV 13 1, cR 14 111 [(.t 12), (.t 13)]] [])
(.seq (.reg false [
mK 4 (.it .i64 0)] [])
.ret)))))⟩
def c143 : Ev.Fn := d143.den
theorem r143 : OK 143 c143 := rd d143 { loc := [], md := .rw, mds := mds, heap := [], own := [], ord := [], clr := [], mask := [], fns := [], lcl := [], hnd := [], pro := [] } Tryz.func143

def d144 : DFn := ⟨[(.c .one), (.c .one)], [(.c (.sl [.one]))], .pure, [.tmp 4],
(.seq (.reg false [
mK 4 .ns] [])
(.seq (.reg false [
mV 10 0, cP 11 157 [(.t 10)], mV 5 11] [])
(.seq (.seq (.reg false [
mV 12 1, ⟨some 13, none, [], .bin .no .lss (.t 12) (.k (.it .i64 0))⟩, mV 14 13, ⟨some 15, some (14, false), [], .mov (.t 1)⟩, ⟨some 16, some (14, false), [], .mov (.t 5)⟩, ⟨some 17, some (14, false), [], .bin .no .gtr (.t 15) (.t 16)⟩, ⟨some 18, none, [], .pick (.t 14) (.k (.bo true)) (.t 17)⟩] [])
(.cond (.t 18)
(.reg false [
mV 19 5, mV 1 19] [])
.skip))
(.seq (.reg false [
mV 20 1, ⟨some 21, none, [], .mks 1 16 [(.st [])] (.t 20) (.t 20)⟩, mV 6 21] [])
(.seq (.seq (.reg false [
mK 7 (.it .i64 0)] [])
(.blk 0 (.loop [0, 1, 6, 7] []
(.seq (.seq (.reg false [
mV 22 7, mV 23 1, ⟨some 24, none, [], .bin .no .sub (.t 23) (.k (.it .i64 1))⟩, ⟨some 25, none, [], .bin .no .lss (.t 22) (.t 24)⟩] [])
(.cond (.t 25)
.skip
(.exit 0)))
(.seq (.blk 1 (.seq (.reg false [
mV 29 0, cP 30 158 [(.t 29)], mV 28 30, eX 31 28 0, eX 32 28 1, mV 8 31, mV 9 32] [])
(.seq (.reg false [
mV 33 6, mV 34 7, mV 35 0, mV 36 9, ⟨some 37, none, [], .slc true 0 (.t 35) none (some (.t 36))⟩, ⟨some 38, none, [], .ias 1 (.t 33) (.t 34)⟩, sO 1 38 37] [])
(.reg false [
mV 39 0, mV 40 9, ⟨some 41, none, [], .slc true 0 (.t 39) (some (.t 40)) none⟩, mV 0 41] []))))
(.reg false [
mV 26 7, ⟨some 27, none, [], .bin .no .add (.t 26) (.k (.it .i64 1))⟩, mV 7 27] []))))))
(.seq (.seq (.reg false [
mV 42 1, ⟨some 43, none, [], .bin .no .gtr (.t 42) (.k (.it .i64 0))⟩] [])
(.cond (.t 43)
(.reg false [
mV 44 6, mV 45 1, ⟨some 46, none, [], .bin .no .sub (.t 45) (.k (.it .i64 1))⟩, mV 47 0, ⟨some 48, none, [], .ias 1 (.t 44) (.t 46)⟩, sO 1 48 47] [])
.skip))
(.seq (.reg false [
mV 49 6, mV 4 49] [])
.ret)))))))⟩
def c144 : Ev.Fn := d144.den
theorem r144 : OK 144 c144 := rd d144 { loc := [], md := .pure, mds := mds, heap := [], own := [], ord := [], clr := [], mask := [(6, [0, 1, 6, 7], [])], fns := [], lcl := [], hnd := [], pro := [] } Tryz.func144

def d145 : DFn := ⟨[(.c .one), (.c .one)], [(.c .one)], .pure, [.tmp 4],
(.seq (.reg false [
mK 4 (.it .i64 0)] [])
(.seq (.seq (.reg false [
mV 7 1, lN 8 true 7, ⟨some 9, none, [], .bin .no .eql (.t 8) (.k (.it .i64 0))⟩] [])
(.cond (.t 9)
(.seq (.reg false [
mV 10 0, cP 11 157 [(.t 10)], ⟨some 12, none, [], .bin .no .add (.t 11) (.k (.it .i64 1))⟩, mV 4 12] [])
.ret)
.skip))
(.seq (.seq (.reg false [
mV 13 1, lN 14 true 13, ⟨some 15, none, [], .bin .no .eql (.t 14) (.k (.it .i64 1))⟩] [])
(.cond (.t 15)
(.seq (.reg false [
mV 16 0, mV 17 1, ⟨some 18, none, [], .ixs (.t 17) (.k (.it .i64 0))⟩, ⟨some 19, none, [], .ctb (.t 16) (.t 18)⟩, mV 4 19] [])
.ret)
.skip))
(.seq (.reg false [
mK 5 (.it .i64 0)] [])
(.blk 0 (.loop [0, 1, 5] []
(.blk 1 (.seq (.reg false [
mV 20 0, mV 21 1, cP 22 146 [(.t 20), (.t 21)], mV 6 22] [])
(.seq (.seq (.reg false [
mV 23 6, ⟨some 24, none, [], .bin .no .eql (.t 23) (.k (.it .i64 (-1)))⟩] [])
(.cond (.t 24)
(.seq (.reg false [
mV 25 5, mV 4 25] [])
.ret)
.skip))
(.seq (.reg false [
mV 26 5, ⟨some 27, none, [], .bin .no .add (.t 26) (.k (.it .i64 1))⟩, mV 5 27] [])
(.reg false [
mV 28 0, mV 29 6, mV 30 1, lN 31 true 30, ⟨some 32, none, [], .bin .no .add (.t 29) (.t 31)⟩, ⟨some 33, none, [], .slc true 0 (.t 28) (some (.t 32)) none⟩, mV 0 33] [])))))))))))⟩
def c145 : Ev.Fn := d145.den
theorem r145 : OK 145 c145 := rd d145 { loc := [], md := .pure, mds := mds, heap := [], own := [], ord := [], clr := [], mask := [(6, [0, 1, 5], [])], fns := [], lcl := [], hnd := [], pro := [] } Tryz.func145

def d146 : DFn := ⟨[(.c .one), (.c .one)], [(.c .one)], .pure, [.tmp 4],
(.seq (.reg false [
mK 4 (.it .i64 0)] [])
(.seq (.reg false [
mV 5 0, mV 6 1, cP 7 147 [(.t 5), (.t 6)], mV 4 7] [])
.ret))⟩
def c146 : Ev.Fn := d146.den
theorem r146 : OK 146 c146 := rd d146 { loc := [], md := .pure, mds := mds, heap := [], own := [], ord := [], clr := [], mask := [], fns := [], lcl := [], hnd := [], pro := [] } Tryz.func146

def d147 : DFn := ⟨[(.c .one), (.c .one)], [(.c .one)], .pure, [.tmp 4],
(.seq (.reg false [
mK 4 (.it .i64 0)] [])
(.seq (.reg false [
mV 14 1, lN 15 true 14, mV 5 15] [])
(.seq (.blk 0 (.seq (.reg false [
mV 17 5, ⟨some 18, none, [], .bin .no .eql (.t 17) (.k (.it .i64 0))⟩, mV 19 18, ⟨some 20, some (19, false), [], .mov (.t 1)⟩, ⟨some 21, some (19, false), [], .mov (.t 0)⟩, ⟨some 22, some (19, false), [], .bin .no .eql (.t 20) (.t 21)⟩, ⟨some 23, none, [], .pick (.t 19) (.k (.bo true)) (.t 22)⟩, mV 16 23] [])
(.cond (.t 16)
(.seq (.reg false [
mK 4 (.it .i64 0)] [])
.ret)
(.seq (.reg false [
mV 25 5, ⟨some 26, none, [], .bin .no .eql (.t 25) (.k (.it .i64 1))⟩, mV 24 26] [])
(.cond (.t 24)
(.seq (.reg false [
mV 27 0, mV 28 1, ⟨some 29, none, [], .ixs (.t 28) (.k (.it .i64 0))⟩, cP 30 160 [(.t 27), (.t 29)], mV 4 30] [])
.ret)
(.seq (.reg false [
mV 32 5, mV 33 0, lN 34 true 33, ⟨some 35, none, [], .bin .no .geq (.t 32) (.t 34)⟩, mV 31 35] [])
(.cond (.t 31)
(.seq (.reg false [
mK 4 (.it .i64 (-1))] [])
.ret)
(.seq (.reg false [
mV 37 5, ⟨some 38, none, [], .ld 1 false (.k .un)⟩, ⟨some 39, none, [], .bin .no .leq (.t 37) (.t 38)⟩, mV 40 39, ⟨some 41, some (40, true), [], .mov (.t 0)⟩, ⟨some 42, some (40, true), [], .len true (.t 41)⟩, ⟨some 43, some (40, true), [], .bin .no .leq (.t 42) (.k (.it .i64 64))⟩, ⟨some 44, none, [], .pick (.t 40) (.t 43) (.k (.bo false))⟩, mV 36 44] [])
(.cond (.t 36)
(.seq (.reg false [
mV 45 0, mV 46 1, cP 47 161 [(.t 45), (.t 46)], mV 4 47] [])
.ret)
.skip)))))))))
(.seq (.reg false [
mV 48 1, ⟨some 49, none, [], .ixs (.t 48) (.k (.it .i64 0))⟩, mV 6 49] [])
(.seq (.reg false [
mV 50 1, ⟨some 51, none, [], .ixs (.t 50) (.k (.it .i64 1))⟩, mV 7 51] [])
(.seq (.reg false [
mK 8 (.it .i64 0)] [])
(.seq (.reg false [
mV 52 0, lN 53 true 52, mV 54 5, ⟨some 55, none, [], .bin .no .sub (.t 53) (.t 54)⟩, ⟨some 56, none, [], .bin .no .add (.t 55) (.k (.it .i64 1))⟩, mV 9 56] [])
(.seq (.reg false [
mK 10 (.it .i64 0)] [])
(.seq (.blk 1 (.loop [0, 1, 5, 6, 7, 8, 9, 10] []
(.seq (.seq (.reg false [
mV 57 8, mV 58 9, ⟨some 59, none, [], .bin .no .lss (.t 57) (.t 58)⟩] [])
(.cond (.t 59)
.skip
(.exit 1)))
(.blk 2 (.seq (.seq (.reg false [
mV 60 0, mV 61 8, ⟨some 62, none, [], .ixs (.t 60) (.t 61)⟩, mV 63 6, ⟨some 64, none, [], .bin .no .neq (.t 62) (.t 63)⟩] [])
(.cond (.t 64)
(.seq (.reg false [
mV 65 0, mV 66 8, ⟨some 67, none, [], .bin .no .add (.t 66) (.k (.it .i64 1))⟩, mV 68 9, ⟨some 69, none, [], .slc true 0 (.t 65) (some (.t 67)) (some (.t 68))⟩, mV 70 6, cP 71 160 [(.t 69), (.t 70)], mV 11 71] [])
(.seq (.seq (.reg false [
mV 72 11, ⟨some 73, none, [], .bin .no .lss (.t 72) (.k (.it .i64 0))⟩] [])
(.cond (.t 73)
(.seq (.reg false [
mK 4 (.it .i64 (-1))] [])
.ret)
.skip))
(.reg false [
mV 74 8, mV 75 11, ⟨some 76, none, [], .bin .no .add (.t 75) (.k (.it .i64 1))⟩, ⟨some 77, none, [], .bin .no .add (.t 74) (.t 76)⟩, mV 8 77] [])))
.skip))
(.seq (.seq (.reg false [
mV 78 0, mV 79 8, ⟨some 80, none, [], .bin .no .add (.t 79) (.k (.it .i64 1))⟩, ⟨some 81, none, [], .ixs (.t 78) (.t 80)⟩, mV 82 7, ⟨some 83, none, [], .bin .no .eql (.t 81) (.t 82)⟩, mV 84 83, ⟨some 85, some (84, true), [], .mov (.t 0)⟩, ⟨some 86, some (84, true), [], .mov (.t 8)⟩, ⟨some 87, some (84, true), [], .mov (.t 8)⟩, ⟨some 88, some (84, true), [], .mov (.t 5)⟩, ⟨some 89, some (84, true), [], .bin .no .add (.t 87) (.t 88)⟩, ⟨some 90, some (84, true), [], .slc true 0 (.t 85) (some (.t 86)) (some (.t 89))⟩, ⟨some 91, some (84, true), [], .mov (.t 1)⟩, ⟨some 92, some (84, true), [], .bin .no .eql (.t 90) (.t 91)⟩, ⟨some 93, none, [], .pick (.t 84) (.t 92) (.k (.bo false))⟩] [])
(.cond (.t 93)
(.seq (.reg false [
mV 94 8, mV 4 94] [])
.ret)
.skip))
(.seq (.reg false [
mV 95 8, ⟨some 96, none, [], .bin .no .add (.t 95) (.k (.it .i64 1))⟩, mV 8 96] [])
(.seq (.reg false [
mV 97 10, ⟨some 98, none, [], .bin .no .add (.t 97) (.k (.it .i64 1))⟩, mV 10 98] [])
(.seq (.reg false [
mV 99 5, ⟨some 100, none, [], .ld 1 false (.k .un)⟩, ⟨some 101, none, [], .bin .no .leq (.t 99) (.t 100)⟩, mV 102 101, ⟨some 103, some (102, true), [], .mov (.t 10)⟩, ⟨some 104, some (102, true), [], .mov (.t 8)⟩, ⟨some 105, some (102, true), [], .call false .pure 162 [(.t 104)]⟩, ⟨some 106, some (102, true), [], .bin .no .gtr (.t 103) (.t 105)⟩, ⟨some 107, none, [], .pick (.t 102) (.t 106) (.k (.bo false))⟩] [])
(.cond (.t 107)
(.seq (.reg false [
mV 108 0, mV 109 8, ⟨some 110, none, [], .slc true 0 (.t 108) (some (.t 109)) none⟩, mV 111 1, cP 112 161 [(.t 110), (.t 111)], mV 12 112] [])
(.seq (.seq (.reg false [
mV 113 12, ⟨some 114, none, [], .bin .no .geq (.t 113) (.k (.it .i64 0))⟩] [])
(.cond (.t 114)
(.seq (.reg false [
mV 115 12, mV 116 8, ⟨some 117, none, [], .bin .no .add (.t 115) (.t 116)⟩, mV 4 117] [])
.ret)
.skip))
(.seq (.reg false [
mK 4 (.it .i64 (-1))] [])
.ret)))
(.seq (.reg false [
mV 118 5, ⟨some 119, none, [], .ld 1 false (.k .un)⟩, ⟨some 120, none, [], .bin .no .gtr (.t 118) (.t 119)⟩, mV 121 120, ⟨some 122, some (121, true), [], .mov (.t 10)⟩, ⟨some 123, some (121, true), [], .mov (.t 8)⟩, ⟨some 124, some (121, true), [], .bin .no .shr (.t 123) (.k (.it .u64 4))⟩, ⟨some 125, some (121, true), [], .bin .no .add (.k (.it .i64 4)) (.t 124)⟩, ⟨some 126, some (121, true), [], .bin .no .geq (.t 122) (.t 125)⟩, ⟨some 127, none, [], .pick (.t 121) (.t 126) (.k (.bo false))⟩, mV 128 127, ⟨some 129, some (128, true), [], .mov (.t 8)⟩, ⟨some 130, some (128, true), [], .mov (.t 9)⟩, ⟨some 131, some (128, true), [], .bin .no .lss (.t 129) (.t 130)⟩, ⟨some 132, none, [], .pick (.t 128) (.t 131) (.k (.bo false))⟩] [])
(.cond (.t 132)
(.seq (.reg false [
mV 133 0, mV 134 8, ⟨some 135, none, [], .slc true 0 (.t 133) (some (.t 134)) none⟩, mV 136 1, cP 137 163 [(.t 135), (.t 136)], mV 13 137] [])
(.seq (.seq (.reg false [
mV 138 13, ⟨some 139, none, [], .bin .no .lss (.t 138) (.k (.it .i64 0))⟩] [])
(.cond (.t 139)
(.seq (.reg false [
mK 4 (.it .i64 (-1))] [])
.ret)
.skip))
(.seq (.reg false [
mV 140 8, mV 141 13, ⟨some 142, none, [], .bin .no .add (.t 140) (.t 141)⟩, mV 4 142] [])
.ret)))
.skip))))))))))))
(.seq (.reg false [
mK 4 (.it .i64 (-1))] [])
.ret))))))))))⟩
def c147 : Ev.Fn := d147.den
theorem r147 : OK 147 c147 := rd d147 { loc := [], md := .pure, mds := mds, heap := [], own := [], ord := [], clr := [], mask := [(15, [0, 1, 5, 6, 7, 8, 9, 10], [])], fns := [], lcl := [], hnd := [], pro := [] } Tryz.func147

def d148 : DFn := ⟨[(.c .one)], [(.c .one)], .pure, [.tmp 2],
(.seq (.reg false [
mK 2 (.it .i64 0)] [])
(.seq (.reg false [
⟨some 4, none, [], .bld (List.replicate 257 (.it .i64 0)) [(0, 1, (.k (.it .i64 13))), (1, 1, (.k (.it .i64 23))), (2, 1, (.k (.it .i64 28))), (3, 1, (.k (.it .i64 28))), (4, 1, (.k (.it .i64 28))), (5, 1, (.k (.it .i64 28))), (6, 1, (.k (.it .i64 28))), (7, 1, (.k (.it .i64 28))), (8, 1, (.k (.it .i64 28))), (9, 1, (.k (.it .i64 24))), (10, 1, (.k (.it .i64 30))), (11, 1, (.k (.it .i64 28))), (12, 1, (.k (.it .i64 28))), (13, 1, (.k (.it .i64 30))), (14, 1, (.k (.it .i64 28))), (15, 1, (.k (.it .i64 28))), (16, 1, (.k (.it .i64 28))), (17, 1, (.k (.it .i64 28))), (18, 1, (.k (.it .i64 28))), (19, 1, (.k (.it .i64 28))), (20, 1, (.k (.it .i64 28))), (21, 1, (.k (.it .i64 28))), (22, 1, (.k (.it .i64 30))), (23, 1, (.k (.it .i64 28))), (24, 1, (.k (.it .i64 28))), (25, 1, (.k (.it .i64 28))), (26, 1, (.k (.it .i64 28))), (27, 1, (.k (.it .i64 28))), (28, 1, (.k (.it .i64 28))), (29, 1, (.k (.it .i64 28))), (30, 1, (.k (.it .i64 28))), (31, 1, (.k (.it .i64 28))), (32, 1, (.k (.it .i64 6))), (33, 1, (.k (.it .i64 10))), (34, 1, (.k (.it .i64 10))), (35, 1, (.k (.it .i64 12))), (36, 1, (.k (.it .i64 13))), (37, 1, (.k (.it .i64 6))), (38, 1, (.k (.it .i64 8))), (39, 1, (.k (.it .i64 11))), (40, 1, (.k (.it .i64 10))), (41, 1, (.k (.it .i64 10))), (42, 1, (.k (.it .i64 8))), (43, 1, (.k (.it .i64 11))), (44, 1, (.k (.it .i64 8))), (45, 1, (.k (.it .i64 6))), (46, 1, (.k (.it .i64 6))), (47, 1, (.k (.it .i64 6))), (48, 1, (.k (.it .i64 5))), (49, 1, (.k (.it .i64 5))), (50, 1, (.k (.it .i64 5))), (51, 1, (.k (.it .i64 6))), (52, 1, (.k (.it .i64 6))), (53, 1, (.k (.it .i64 6))), (54, 1, (.k (.it .i64 6))), (55, 1, (.k (.it .i64 6))), (56, 1, (.k (.it .i64 6))), (57, 1, (.k (.it .i64 6))), (58, 1, (.k (.it .i64 7))), (59, 1, (.k (.it .i64 8))), (60, 1, (.k (.it .i64 15))), (61, 1, (.k (.it .i64 6))), (62, 1, (.k (.it .i64 12))), (63, 1, (.k (.it .i64 10))), (64, 1, (.k (.it .i64 13))), (65, 1, (.k (.it .i64 6))), (66, 1, (.k (.it .i64 7))), (67, 1, (.k (.it .i64 7))), (68, 1, (.k (.it .i64 7))), (69, 1, (.k (.it .i64 7))), (70, 1, (.k (.it .i64 7))), (71, 1, (.k (.it .i64 7))), (72, 1, (.k (.it .i64 7))), (73, 1, (.k (.it .i64 7))), (74, 1, (.k (.it .i64 7))), (75, 1, (.k (.it .i64 7))), (76, 1, (.k (.it .i64 7))), (77, 1, (.k (.it .i64 7))), (78, 1, (.k (.it .i64 7))), (79, 1, (.k (.it .i64 7))), (80, 1, (.k (.it .i64 7))), (81, 1, (.k (.it .i64 7))), (82, 1, (.k (.it .i64 7))), (83, 1, (.k (.it .i64 7))), (84, 1, (.k (.it .i64 7))), (85, 1, (.k (.it .i64 7))), (86, 1, (.k (.it .i64 7))), (87, 1, (.k (.it .i64 7))), (88, 1, (.k (.it .i64 8))), (89, 1, (.k (.it .i64 7))), (90, 1, (.k (.it .i64 8))), (91, 1, (.k (.it .i64 13))), (92, 1, (.k (.it .i64 19))), (93, 1, (.k (.it .i64 13))), (94, 1, (.k (.it .i64 14))), (95, 1, (.k (.it .i64 6))), (96, 1, (.k (.it .i64 15))), (97, 1, (.k (.it .i64 5))), (98, 1, (.k (.it .i64 6))), (99, 1, (.k (.it .i64 5))), (100, 1, (.k (.it .i64 6))), (101, 1, (.k (.it .i64 5))), (102, 1, (.k (.it .i64 6))), (103, 1, (.k (.it .i64 6))), (104, 1, (.k (.it .i64 6))), (105, 1, (.k (.it .i64 5))), (106, 1, (.k (.it .i64 7))), (107, 1, (.k (.it .i64 7))), (108, 1, (.k (.it .i64 6))), (109, 1, (.k (.it .i64 6))), (110, 1, (.k (.it .i64 6))), (111, 1, (.k (.it .i64 5))), (112, 1, (.k (.it .i64 6))), (113, 1, (.k (.it .i64 7))), (114, 1, (.k (.it .i64 6))), (115, 1, (.k (.it .i64 5))), (116, 1, (.k (.it .i64 5))), (117, 1, (.k (.it .i64 6))), (118, 1, (.k (.it .i64 7))), (119, 1, (.k (.it .i64 7))), (120, 1, (.k (.it .i64 7))), (121, 1, (.k (.it .i64 7))), (122, 1, (.k (.it .i64 7))), (123, 1, (.k (.it .i64 15))), (124, 1, (.k (.it .i64 11))), (125, 1, (.k (.it .i64 14))), (126, 1, (.k (.it .i64 13))), (127, 1, (.k (.it .i64 28))), (128, 1, (.k (.it .i64 20))), (129, 1, (.k (.it .i64 22))), (130, 1, (.k (.it .i64 20))), (131, 1, (.k (.it .i64 20))), (132, 1, (.k (.it .i64 22))), (133, 1, (.k (.it .i64 22))), (134, 1, (.k (.it .i64 22))), (135, 1, (.k (.it .i64 23))), (136, 1, (.k (.it .i64 22))), (137, 1, (.k (.it .i64 23))), (138, 1, (.k (.it .i64 23))), (139, 1, (.k (.it .i64 23))), (140, 1, (.k (.it .i64 23))), (141, 1, (.k (.it .i64 23))), (142, 1, (.k (.it .i64 24))), (143, 1, (.k (.it .i64 23))), (144, 1, (.k (.it .i64 24))), (145, 1, (.k (.it .i64 24))), (146, 1, (.k (.it .i64 22))), (147, 1, (.k (.it .i64 23))), (148, 1, (.k (.it .i64 24))), (149, 1, (.k (.it .i64 23))), (150, 1, (.k (.it .i64 23))), (151, 1, (.k (.it .i64 23))), (152, 1, (.k (.it .i64 23))), (153, 1, (.k (.it .i64 21))), (154, 1, (.k (.it .i64 22))), (155, 1, (.k (.it .i64 23))), (156, 1, (.k (.it .i64 22))), (157, 1, (.k (.it .i64 23))), (158, 1, (.k (.it .i64 23))), (159, 1, (.k (.it .i64 24))), (160, 1, (.k (.it .i64 22))), (161, 1, (.k (.it .i64 21))), (162, 1, (.k (.it .i64 20))), (163, 1, (.k (.it .i64 22))), (164, 1, (.k (.it .i64 22))), (165, 1, (.k (.it .i64 23))), (166, 1, (.k (.it .i64 23))), (167, 1, (.k (.it .i64 21))), (168, 1, (.k (.it .i64 23))), (169, 1, (.k (.it .i64 22))), (170, 1, (.k (.it .i64 22))), (171, 1, (.k (.it .i64 24))), (172, 1, (.k (.it .i64 21))), (173, 1, (.k (.it .i64 22))), (174, 1, (.k (.it .i64 23))), (175, 1, (.k (.it .i64 23))), (176, 1, (.k (.it .i64 21))), (177, 1, (.k (.it .i64 21))), (178, 1, (.k (.it .i64 22))), (179, 1, (.k (.it .i64 21))), (180, 1, (.k (.it .i64 23))), (181, 1, (.k (.it .i64 22))), (182, 1, (.k (.it .i64 23))), (183, 1, (.k (.it .i64 23))), (184, 1, (.k (.it .i64 20))), (185, 1, (.k (.it .i64 22))), (186, 1, (.k (.it .i64 22))), (187, 1, (.k (.it .i64 22))), (188, 1, (.k (.it .i64 23))), (189, 1, (.k (.it .i64 22))), (190, 1, (.k (.it .i64 22))), (191, 1, (.k (.it .i64 23))), (192, 1, (.k (.it .i64 26))), (193, 1, (.k (.it .i64 26))), (194, 1, (.k (.it .i64 20))), (195, 1, (.k (.it .i64 19))), (196, 1, (.k (.it .i64 22))), (197, 1, (.k (.it .i64 23))), (198, 1, (.k (.it .i64 22))), (199, 1, (.k (.it .i64 25))), (200, 1, (.k (.it .i64 26))), (201, 1, (.k (.it .i64 26))), (202, 1, (.k (.it .i64 26))), (203, 1, (.k (.it .i64 27))), (204, 1, (.k (.it .i64 27))), (205, 1, (.k (.it .i64 26))), (206, 1, (.k (.it .i64 24))), (207, 1, (.k (.it .i64 25))), (208, 1, (.k (.it .i64 19))), (209, 1, (.k (.it .i64 21))), (210, 1, (.k (.it .i64 26))), (211, 1, (.k (.it .i64 27))), (212, 1, (.k (.it .i64 27))), (213, 1, (.k (.it .i64 26))), (214, 1, (.k (.it .i64 27))), (215, 1, (.k (.it .i64 24))), (216, 1, (.k (.it .i64 21))), (217, 1, (.k (.it .i64 21))), (218, 1, (.k (.it .i64 26))), (219, 1, (.k (.it .i64 26))), (220, 1, (.k (.it .i64 28))), (221, 1, (.k (.it .i64 27))), (222, 1, (.k (.it .i64 27))), (223, 1, (.k (.it .i64 27))), (224, 1, (.k (.it .i64 20))), (225, 1, (.k (.it .i64 24))), (226, 1, (.k (.it .i64 20))), (227, 1, (.k (.it .i64 21))), (228, 1, (.k (.it .i64 22))), (229, 1, (.k (.it .i64 21))), (230, 1, (.k (.it .i64 21))), (231, 1, (.k (.it .i64 23))), (232, 1, (.k (.it .i64 22))), (233, 1, (.k (.it .i64 22))), (234, 1, (.k (.it .i64 25))), (235, 1, (.k (.it .i64 25))), (236, 1, (.k (.it .i64 24))), (237, 1, (.k (.it .i64 24))), (238, 1, (.k (.it .i64 26))), (239, 1, (.k (.it .i64 23))), (240, 1, (.k (.it .i64 26))), (241, 1, (.k (.it .i64 27))), (242, 1, (.k (.it .i64 26))), (243, 1, (.k (.it .i64 26))), (244, 1, (.k (.it .i64 27))), (245, 1, (.k (.it .i64 27))), (246, 1, (.k (.it .i64 27))), (247, 1, (.k (.it .i64 27))), (248, 1, (.k (.it .i64 27))), (249, 1, (.k (.it .i64 28))), (250, 1, (.k (.it .i64 27))), (251, 1, (.k (.it .i64 27))), (252, 1, (.k (.it .i64 27))), (253, 1, (.k (.it .i64 27))), (254, 1, (.k (.it .i64 27))), (255, 1, (.k (.it .i64 26))), (256, 1, (.k (.it .i64 30)))]⟩, ⟨some 3, none, [], .alc (List.replicate 257 (.it .i64 0))⟩, sO 257 3 4] [])
(.seq (.seq (.reg false [
mV 5 0, ⟨some 6, none, [], .bin .no .lss (.t 5) (.k (.it .i64 0))⟩, mV 7 6, ⟨some 8, some (7, false), [], .mov (.t 0)⟩, ⟨some 9, some (7, false), [], .bin .no .geq (.t 8) (.k (.it .i64 257))⟩, ⟨some 10, none, [], .pick (.t 7) (.k (.bo true)) (.t 9)⟩] [])
(.cond (.t 10)
(.seq (.reg false [
mK 2 (.it .i64 0)] [])
.ret)
.skip))
(.seq (.reg false [
mV 11 0, ⟨some 12, none, [], .iaa 257 1 (.t 3) (.t 11)⟩, lD 13 1 12, mV 2 13] [12])
.ret))))⟩
def c148 : Ev.Fn := d148.den
theorem r148 : OK 148 c148 := rd d148 { loc := [3], md := .pure, mds := mds, heap := [], own := [], ord := [], clr := [(4, [12])], mask := [], fns := [], lcl := [], hnd := [], pro := [] } Tryz.func148

def d149 : DFn := ⟨[], [(.c .one)], .rw, [.tmp 0],
(.seq (.reg false [
mK 0 .np] [])
(.seq (.reg false [
⟨some 8, none, [], .bld (List.replicate 610 (.it .i64 0)) []⟩, ⟨some 9, none, [], .bxh (.t 8)⟩, mV 1 9] [])
(.seq (.seq (.reg false [
mK 10 (.it .i64 0)] [])
(.blk 0 (.loop [1, 10] [3, 4]
(.seq (.reg false [
⟨some 11, none, [], .bin .no .lss (.t 10) (.k (.it .i64 257))⟩] [])
(.seq (.cond (.t 11)
.skip
(.exit 0))
(.seq (.blk 1 (.seq (.reg false [
mV 12 10, mV 2 12] [])
(.reg true [
mV 13 1, mV 14 2, nK 16 13, fA 17 32 16, nK 21 13, fA 22 32 21, cP 15 148 [(.t 14)], ⟨some 18, none, [], .iaa 32 1 (.t 17) (.t 15)⟩, lD 19 1 18, ⟨some 20, none, [], .bin .no .add (.t 19) (.k (.it .i64 1))⟩, ⟨some 23, none, [], .iaa 32 1 (.t 22) (.t 15)⟩, sO 1 23 20] [])))
(.reg false [
⟨some 24, none, [], .bin .no .add (.t 10) (.k (.it .i64 1))⟩, mV 10 24] [])))))))
(.seq (.reg false [
⟨some 3, none, [], .alc (List.replicate 32 (.it .i64 0))⟩, ⟨some 4, none, [], .alc (List.replicate 32 (.it .i64 0))⟩] [])
(.seq (.seq (.reg false [
mK 5 (.it .i64 1)] [])
(.blk 2 (.loop [1, 3, 4, 5] []
(.seq (.seq (.reg false [
mV 25 5, ⟨some 26, none, [], .bin .no .lss (.t 25) (.k (.it .i64 32))⟩] [])
(.cond (.t 26)
.skip
(.exit 2)))
(.seq (.blk 3 (.seq (.reg true [
mV 29 5, mV 30 1, mV 31 5, ⟨some 32, none, [], .bin .no .sub (.t 31) (.k (.it .i64 1))⟩, nK 33 30, fA 34 0 33, ⟨some 35, none, [], .iaa 32 1 (.t 34) (.t 32)⟩, lD 36 1 35, mV 37 1, mV 38 5, ⟨some 39, none, [], .bin .no .sub (.t 38) (.k (.it .i64 1))⟩, nK 40 37, fA 41 32 40, ⟨some 42, none, [], .iaa 32 1 (.t 41) (.t 39)⟩, lD 43 1 42, ⟨some 44, none, [], .bin .no .add (.t 36) (.t 43)⟩, ⟨some 45, none, [], .bin .no .mul (.k (.it .i64 2)) (.t 44)⟩, ⟨some 46, none, [], .iaa 32 1 (.t 3) (.t 29)⟩, sO 1 46 45] [46])
(.seq (.reg true [
mV 47 5, mV 48 5, ⟨some 49, none, [], .bin .no .sub (.t 48) (.k (.it .i64 1))⟩, ⟨some 50, none, [], .iaa 32 1 (.t 4) (.t 49)⟩, lD 51 1 50, mV 52 1, mV 53 5, ⟨some 54, none, [], .bin .no .sub (.t 53) (.k (.it .i64 1))⟩, nK 55 52, fA 56 32 55, ⟨some 57, none, [], .iaa 32 1 (.t 56) (.t 54)⟩, lD 58 1 57, ⟨some 59, none, [], .bin .no .add (.t 51) (.t 58)⟩, ⟨some 60, none, [], .iaa 32 1 (.t 4) (.t 47)⟩, sO 1 60 59] [50, 60])
(.reg true [
mV 61 1, mV 62 5, mV 63 1, mV 64 5, mV 65 5, ⟨some 66, none, [], .iaa 32 1 (.t 3) (.t 65)⟩, lD 67 1 66, mV 68 5, ⟨some 69, none, [], .iaa 32 1 (.t 4) (.t 68)⟩, lD 70 1 69, nK 71 61, fA 72 0 71, ⟨some 73, none, [], .iaa 32 1 (.t 72) (.t 62)⟩, nK 74 63, fA 75 64 74, ⟨none, none, [69], .sto 1 (.t 73) (.t 67)⟩, ⟨some 76, none, [], .iaa 32 1 (.t 75) (.t 64)⟩, sO 1 76 70] [66, 69]))))
(.reg false [
mV 27 5, ⟨some 28, none, [], .bin .no .add (.t 27) (.k (.it .i64 1))⟩, mV 5 28] []))))))
(.seq (.seq (.reg false [
mK 77 (.it .i64 0)] [])
(.blk 4 (.loop [1, 3, 4, 77] []
(.seq (.reg false [
⟨some 78, none, [], .bin .no .lss (.t 77) (.k (.it .i64 257))⟩] [])
(.seq (.cond (.t 78)
.skip
(.exit 4))
(.seq (.blk 5 (.seq (.reg false [
mV 79 77, mV 6 79] [])
(.seq (.reg false [
mV 80 6, cP 81 148 [(.t 80)], mV 7 81] [])
(.seq (.reg true [
mV 82 1, mV 83 6, mV 84 1, mV 85 7, ⟨some 86, none, [], .iaa 32 1 (.t 4) (.t 85)⟩, lD 87 1 86, mV 88 7, ⟨some 89, none, [], .iaa 32 1 (.t 3) (.t 88)⟩, lD 90 1 89, mV 91 6, nK 92 82, fA 93 353 92, ⟨some 94, none, [], .iaa 257 1 (.t 93) (.t 83)⟩, nK 95 84, fA 96 96 95, ⟨none, none, [86], .sto 1 (.t 94) (.t 90)⟩, ⟨some 97, none, [], .iaa 257 1 (.t 96) (.t 87)⟩, sO 1 97 91] [86, 89])
(.seq (.reg false [
mV 98 7, ⟨some 99, none, [], .iaa 32 1 (.t 3) (.t 98)⟩, lD 100 1 99, ⟨some 101, none, [], .bin .no .add (.t 100) (.k (.it .i64 1))⟩, ⟨some 102, none, [], .iaa 32 1 (.t 3) (.t 98)⟩, sO 1 102 101] [99, 102])
(.reg false [
mV 103 7, ⟨some 104, none, [], .iaa 32 1 (.t 4) (.t 103)⟩, lD 105 1 104, ⟨some 106, none, [], .bin .no .add (.t 105) (.k (.it .i64 1))⟩, ⟨some 107, none, [], .iaa 32 1 (.t 4) (.t 103)⟩, sO 1 107 106] [104, 107]))))))
(.reg false [
⟨some 108, none, [], .bin .no .add (.t 77) (.k (.it .i64 1))⟩, mV 77 108] [])))))))
(.seq (.reg false [
mV 109 1, mV 0 109] [])
.ret)))))))⟩
def c149 : Ev.Fn := d149.den
theorem r149 : OK 149 c149 := rd d149 { loc := [3, 4], md := .rw, mds := mds, heap := [], own := [], ord := [(5, [0, 1, 3, 4, 8, 9, 2, 5, 6, 7, 10, 11]), (13, [0, 1, 2, 3, 4, 5, 6, 7, 8, 9, 10, 11, 12, 14, 15, 13, 16, 17]), (18, [0, 1, 2, 3, 4, 5, 6, 7, 8, 9, 10, 11, 12, 14, 15, 13, 16, 17])], clr := [(11, [46]), (12, [50, 60]), (13, [66, 69]), (18, [86, 89]), (19, [99, 102]), (20, [104, 107])], mask := [(3, [1, 10], [3, 4]), (9, [1, 3, 4, 5], []), (15, [1, 3, 4, 77], [])], fns := [], lcl := [], hnd := [], pro := [] } Tryz.func149

def d152 : DFn := ⟨[(.c .one), (.g [.one, .one]), (.c .one)], [], .rw, [],
(.seq (.reg false [
⟨some 4, none, [], .box (.t 1)⟩] [])
(.seq (.reg true [
mV 6 0, mV 7 0, nK 8 7, fA 9 3 8, lD 10 1 9, lQ 11 2 4, mV 12 2, ⟨some 13, none, [], .bld [(.st []), (.st []), (.it .i64 0)] [(0, 2, (.t 11)), (2, 1, (.t 12))]⟩, ⟨some 14, none, [], .bsv [.one, .one, .one] 3 [[(.st []), (.st []), (.it .i64 0)]] [(0, (.t 13))]⟩, ⟨some 15, none, [], .app 3 40 (.t 10) (.t 14)⟩, nK 16 6, fA 17 3 16, sO 1 17 15] [])
(.seq (.reg true [
mV 18 0, nK 19 18, fA 20 4 19, lD 21 1 20, lQ 22 2 4, cP 23 59 [(.t 22)], ⟨some 24, none, [], .bin .no .add (.t 21) (.t 23)⟩, nK 25 18, fA 26 4 25, sO 1 26 24] [])
(.seq (.reg true [
mV 27 0, nK 28 27, fA 29 4 28, lD 30 1 29, mV 31 0, nK 32 31, fA 33 0 32, lD 34 1 33, nK 35 34, fA 36 2 35, lD 37 1 36, ⟨some 38, none, [], .bin .no .gtr (.t 30) (.t 37)⟩] [])
(.cond (.t 38)
(.reg false [
mV 39 0, cR 40 165 [(.t 39), (.k (.it .i64 2))]] [])
.skip)))))⟩
def c152 : Ev.Fn := d152.den
theorem r152 : OK 152 c152 := rd d152 { loc := [4], md := .rw, mds := mds, heap := [15], own := [15], ord := [], clr := [], mask := [], fns := [], lcl := [], hnd := [], pro := [] } Tryz.func152

def d153 : DFn := ⟨[(.c .one), (.c .one)], [(.g [.one, .one])], .rw, [.cell 4 2 true],
(.seq (.reg false [
⟨some 4, none, [], .alc [(.st []), (.st [])]⟩] [])
(.seq (.reg false [
mV 8 0, nK 9 8, fA 10 0 9, lD 11 1 10, nK 12 11, fA 13 0 12, lD 14 1 13, mV 15 1, cR 16 166 [(.t 14), (.t 15)], mV 7 16, eX 17 7 0, eX 18 7 1, ⟨some 5, none, [], .alc [(.st []), (.st [])]⟩, sO 2 5 17, mV 6 18] [])
(.seq (.seq (.reg false [
mV 19 6, ⟨some 20, none, [], .un .not (.t 19)⟩] [])
(.cond (.t 20)
(.reg false [
mV 21 0, cR 22 165 [(.t 21), (.k (.it .i64 5))]] [])
.skip))
(.seq (.reg false [
lQ 23 2 5, sO 2 4 23] [])
.ret))))⟩
def c153 : Ev.Fn := d153.den
theorem r153 : OK 153 c153 := rd d153 { loc := [4, 5], md := .rw, mds := mds, heap := [], own := [], ord := [(1, [0, 1, 2, 3, 4, 5, 6, 7, 12, 8, 9, 10, 11, 13, 14])], clr := [], mask := [], fns := [], lcl := [], hnd := [], pro := [] } Tryz.func153

def d154 : DFn := ⟨[(.c .one), (.c .one)], [(.c .one)], .rw, [.tmp 4],
(.seq (.reg false [
mK 4 (.it .i64 0)] [])
(.seq (.reg true [
mV 9 0, nK 10 9, fA 11 1 10, lD 12 1 11, mV 13 0, nK 14 13, fA 15 2 14, lD 16 1 15, mV 17 1, ⟨some 18, none, [], .call true .pure 167 [(.t 12), (.t 16), (.t 17)]⟩, mV 8 18, eX 19 8 0, eX 20 8 1, eX 21 8 2, mV 5 19, mV 6 20, mV 7 21] [])
(.seq (.seq (.reg false [
mV 22 7, ⟨some 23, none, [], .bin .no .neq (.t 22) (.k (.it .i64 0))⟩] [])
(.cond (.t 23)
(.reg false [
mV 24 0, mV 25 7, cR 26 165 [(.t 24), (.t 25)]] [])
.skip))
(.seq (.reg false [
mV 27 0, mV 28 6, nK 29 27, fA 30 2 29, sO 1 30 28] [])
(.seq (.reg false [
mV 31 5, mV 4 31] [])
.ret)))))⟩
def c154 : Ev.Fn := d154.den
theorem r154 : OK 154 c154 := rd d154 { loc := [], md := .rw, mds := mds, heap := [18], own := [18], ord := [], clr := [], mask := [], fns := [], lcl := [], hnd := [], pro := [] } Tryz.func154

def d155 : DFn := ⟨[(.c .one), (.c .one)], [(.g [.one, .one])], .rw, [.cell 4 2 true],
(.seq (.reg false [
⟨some 4, none, [], .alc [(.st []), (.st [])]⟩] [])
(.seq (.reg false [
⟨some 5, none, [], .alc [(.st []), (.st [])]⟩] [])
(.seq (.seq (.reg false [
mV 7 0, mV 8 1, cR 9 154 [(.t 7), (.t 8)], mV 6 9] [])
(.seq (.reg false [
mV 10 6, ⟨some 11, none, [], .bin .no .gtr (.t 10) (.k (.it .i64 0))⟩] [])
(.cond (.t 11)
(.reg false [
mV 12 0, mV 13 6, cR 14 153 [(.t 12), (.t 13)], ⟨some 15, none, [], .fld 0 1 false (.t 14)⟩, fA 16 0 5, sO 1 16 15] [16])
(.reg false [
mV 17 0, cR 18 168 [(.t 17)], fA 19 0 5, sO 1 19 18] [19]))))
(.seq (.reg false [
mV 20 0, cR 21 168 [(.t 20)], fA 22 1 5, sO 1 22 21] [22])
(.seq (.reg false [
lQ 23 2 5, sO 2 4 23] [])
.ret)))))⟩
def c155 : Ev.Fn := d155.den
theorem r155 : OK 155 c155 := rd d155 { loc := [4, 5], md := .rw, mds := mds, heap := [], own := [], ord := [], clr := [(4, [16]), (5, [19]), (6, [22])], mask := [], fns := [], lcl := [], hnd := [], pro := [] } Tryz.func155

def d156 : DFn := ⟨[(.c .one)], [], .rw, [],
(.seq (.reg false [
mV 3 0, cR 4 154 [(.t 3), (.k (.it .i64 5))], mV 2 4] [])
(.seq (.seq (.reg false [
mV 5 0, nK 6 5, fA 7 3 6, lD 8 1 7, lN 9 false 8, ⟨some 10, none, [], .bin .no .gtr (.t 9) (.k (.it .i64 0))⟩, mV 11 10, ⟨some 12, some (11, false), [], .mov (.t 0)⟩, ⟨some 13, some (11, false), [], .nck (.t 12)⟩, ⟨some 14, some (11, false), [], .fad 5 (.t 13)⟩, ⟨some 15, some (11, false), [], .ld 1 false (.t 14)⟩, ⟨some 16, some (11, false), [], .bin .no .geq (.t 15) (.k (.it .i64 2))⟩, ⟨some 17, none, [], .pick (.t 11) (.k (.bo true)) (.t 16)⟩, mV 18 17, ⟨some 19, some (18, false), [], .mov (.t 2)⟩, ⟨some 20, some (18, false), [], .mov (.t 0)⟩, ⟨some 21, some (18, false), [], .nck (.t 20)⟩, ⟨some 22, some (18, false), [], .fad 0 (.t 21)⟩, ⟨some 23, some (18, false), [], .ld 1 false (.t 22)⟩, ⟨some 24, some (18, false), [], .nck (.t 23)⟩, ⟨some 25, some (18, false), [], .fad 1 (.t 24)⟩, ⟨some 26, some (18, false), [], .ld 1 false (.t 25)⟩, ⟨some 27, some (18, false), [], .bin .no .gtr (.t 19) (.t 26)⟩, ⟨some 28, none, [], .pick (.t 18) (.k (.bo true)) (.t 27)⟩, mV 29 28, ⟨some 30, some (29, false), [], .mov (.t 0)⟩, ⟨some 31, some (29, false), [], .nck (.t 30)⟩, ⟨some 32, some (29, false), [], .fad 0 (.t 31)⟩, ⟨some 33, some (29, false), [], .ld 1 false (.t 32)⟩, ⟨some 34, some (29, false), [], .nck (.t 33)⟩, ⟨some 35, some (29, false), [], .fad 0 (.t 34)⟩, ⟨some 36, some (29, false), [], .ld 1 false (.t 35)⟩, ⟨some 37, some (29, false), [], .mov (.t 2)⟩, ⟨some 38, some (29, false), [], .call false .rw 143 [(.t 36), (.t 37)]⟩, ⟨some 39, some (29, false), [], .bin .no .neq (.t 38) (.k (.it .i64 0))⟩, ⟨some 40, none, [], .pick (.t 29) (.k (.bo true)) (.t 39)⟩] [])
(.cond (.t 40)
(.reg false [
mV 41 0, cR 42 165 [(.t 41), (.k (.it .i64 6))]] [])
.skip))
(.reg false [
mV 43 0, nK 44 43, fA 45 5 44, lD 46 1 45, ⟨some 47, none, [], .bin .no .add (.t 46) (.k (.it .i64 1))⟩, nK 48 43, fA 49 5 48, sO 1 49 47] [])))⟩
def c156 : Ev.Fn := d156.den
theorem r156 : OK 156 c156 := rd d156 { loc := [], md := .rw, mds := mds, heap := [], own := [], ord := [], clr := [], mask := [], fns := [], lcl := [], hnd := [], pro := [] } Tryz.func156

def d157 : DFn := ⟨[(.c .one)], [(.c .one)], .pure, [.tmp 2],
(.seq (.reg false [
mK 2 (.it .i64 0)] [])
(.seq (.seq (.reg false [
mV 3 0, ⟨some 4, none, [], .hnd .bad []⟩] [])
(.blk 0 (.loop [2, 4] []
(.seq (.reg false [
⟨some 5, none, [], .hnd .bad []⟩, eX 6 5 0] [])
(.seq (.cond (.t 6)
.skip
(.exit 0))
(.blk 1 (.reg false [
mV 7 2, ⟨some 8, none, [], .bin .no .add (.t 7) (.k (.it .i64 1))⟩, mV 2 8] [])))))))
(.seq (.reg false [
mV 9 2, mV 2 9] [])
.ret)))⟩
def c157 : Ev.Fn := d157.den
theorem r157 : OK 157 c157 := rd d157 { loc := [], md := .pure, mds := mds, heap := [], own := [], ord := [], clr := [], mask := [(2, [2, 4], [])], fns := [], lcl := [], hnd := [], pro := [] } Tryz.func157

def d158 : DFn := ⟨[(.c .one)], [(.c .one), (.c .one)], .pure, [.tmp 2, .tmp 3],
(.seq (.reg false [
mK 2 (.it .i32 0), mK 3 (.it .i64 0)] [])
(.seq (.seq (.reg false [
mV 4 0, ⟨some 5, none, [], .bin .no .neq (.t 4) (.k (.st []))⟩, mV 6 5, ⟨some 7, some (6, true), [], .mov (.t 0)⟩, ⟨some 8, some (6, true), [], .ixs (.t 7) (.k (.it .i64 0))⟩, ⟨some 9, some (6, true), [], .bin .no .lss (.t 8) (.k (.it .u8 128))⟩, ⟨some 10, none, [], .pick (.t 6) (.t 9) (.k (.bo false))⟩] [])
(.cond (.t 10)
(.seq (.reg false [
mV 11 0, ⟨some 12, none, [], .ixs (.t 11) (.k (.it .i64 0))⟩, cV 13 .i32 12, mV 2 13, mK 3 (.it .i64 1)] [])
.ret)
(.reg false [
mV 15 0, cP 16 169 [(.t 15)], mV 14 16, eX 17 14 0, eX 18 14 1, mV 2 17, mV 3 18] [])))
.ret))⟩
def c158 : Ev.Fn := d158.den
theorem r158 : OK 158 c158 := rd d158 { loc := [], md := .pure, mds := mds, heap := [], own := [], ord := [], clr := [], mask := [], fns := [], lcl := [], hnd := [], pro := [] } Tryz.func158

def d160 : DFn := ⟨[(.c .one), (.c .one)], [(.c .one)], .pure, [.tmp 4],
(.seq (.reg false [
mK 4 (.it .i64 0)] [])
(.seq (.reg false [
mV 5 0, mV 6 1, ⟨some 7, none, [], .ixb (.t 5) (.t 6)⟩, mV 4 7] [])
.ret))⟩
def c160 : Ev.Fn := d160.den
theorem r160 : OK 160 c160 := rd d160 { loc := [], md := .pure, mds := mds, heap := [], own := [], ord := [], clr := [], mask := [], fns := [], lcl := [], hnd := [], pro := [] } Tryz.func160

def d162 : DFn := ⟨[(.c .one)], [(.c .one)], .pure, [.tmp 2],
(.seq (.reg false [
mK 2 (.it .i64 0)] [])
(.seq (.reg false [
mV 3 0, ⟨some 4, none, [], .bin .no .add (.t 3) (.k (.it .i64 16))⟩, ⟨some 5, none, [], .bin .no .quo (.t 4) (.k (.it .i64 8))⟩, mV 2 5] [])
.ret))⟩
def c162 : Ev.Fn := d162.den
theorem r162 : OK 162 c162 := rd d162 { loc := [], md := .pure, mds := mds, heap := [], own := [], ord := [], clr := [], mask := [], fns := [], lcl := [], hnd := [], pro := [] } Tryz.func162

def d163 : DFn := ⟨[(.c .one), (.c .one)], [(.c .one)], .pure, [.tmp 4],
(.seq (.reg false [
mK 4 (.it .i64 0)] [])
(.seq (.reg false [
mV 12 1, cP 13 171 [(.t 12)], mV 11 13, eX 14 11 0, eX 15 11 1, mV 5 14, mV 6 15] [])
(.seq (.reg false [
mV 16 1, lN 17 true 16, mV 7 17] [])
(.seq (.reg false [
mK 8 (.it .u32 0)] [])
(.seq (.seq (.reg false [
mK 9 (.it .i64 0)] [])
(.blk 0 (.loop [0, 1, 5, 6, 7, 8, 9] []
(.seq (.seq (.reg false [
mV 18 9, mV 19 7, ⟨some 20, none, [], .bin .no .lss (.t 18) (.t 19)⟩] [])
(.cond (.t 20)
.skip
(.exit 0)))
(.seq (.blk 1 (.reg false [
mV 23 8, ⟨some 24, none, [], .bin .no .mul (.t 23) (.k (.it .u32 16777619))⟩, mV 25 0, mV 26 9, ⟨some 27, none, [], .ixs (.t 25) (.t 26)⟩, cV 28 .u32 27, ⟨some 29, none, [], .bin .no .add (.t 24) (.t 28)⟩, mV 8 29] []))
(.reg false [
mV 21 9, ⟨some 22, none, [], .bin .no .add (.t 21) (.k (.it .i64 1))⟩, mV 9 22] []))))))
(.seq (.seq (.reg false [
mV 30 8, mV 31 5, ⟨some 32, none, [], .bin .no .eql (.t 30) (.t 31)⟩, mV 33 32, ⟨some 34, some (33, true), [], .mov (.t 0)⟩, ⟨some 35, some (33, true), [], .mov (.t 7)⟩, ⟨some 36, some (33, true), [], .slc true 0 (.t 34) none (some (.t 35))⟩, ⟨some 37, some (33, true), [], .mov (.t 1)⟩, ⟨some 38, some (33, true), [], .bin .no .eql (.t 36) (.t 37)⟩, ⟨some 39, none, [], .pick (.t 33) (.t 38) (.k (.bo false))⟩] [])
(.cond (.t 39)
(.seq (.reg false [
mK 4 (.it .i64 0)] [])
.ret)
.skip))
(.seq (.seq (.reg false [
mV 40 7, mV 10 40] [])
(.blk 2 (.loop [0, 1, 5, 6, 7, 8, 10] []
(.seq (.seq (.reg false [
mV 41 10, mV 42 0, lN 43 true 42, ⟨some 44, none, [], .bin .no .lss (.t 41) (.t 43)⟩] [])
(.cond (.t 44)
.skip
(.exit 2)))
(.blk 3 (.seq (.reg false [
mV 45 8, ⟨some 46, none, [], .bin .no .mul (.t 45) (.k (.it .u32 16777619))⟩, mV 8 46] [])
(.seq (.reg false [
mV 47 8, mV 48 0, mV 49 10, ⟨some 50, none, [], .ixs (.t 48) (.t 49)⟩, cV 51 .u32 50, ⟨some 52, none, [], .bin .no .add (.t 47) (.t 51)⟩, mV 8 52] [])
(.seq (.reg false [
mV 53 8, mV 54 6, mV 55 0, mV 56 10, mV 57 7, ⟨some 58, none, [], .bin .no .sub (.t 56) (.t 57)⟩, ⟨some 59, none, [], .ixs (.t 55) (.t 58)⟩, cV 60 .u32 59, ⟨some 61, none, [], .bin .no .mul (.t 54) (.t 60)⟩, ⟨some 62, none, [], .bin .no .sub (.t 53) (.t 61)⟩, mV 8 62] [])
(.seq (.reg false [
mV 63 10, ⟨some 64, none, [], .bin .no .add (.t 63) (.k (.it .i64 1))⟩, mV 10 64] [])
(.seq (.reg false [
mV 65 8, mV 66 5, ⟨some 67, none, [], .bin .no .eql (.t 65) (.t 66)⟩, mV 68 67, ⟨some 69, some (68, true), [], .mov (.t 0)⟩, ⟨some 70, some (68, true), [], .mov (.t 10)⟩, ⟨some 71, some (68, true), [], .mov (.t 7)⟩, ⟨some 72, some (68, true), [], .bin .no .sub (.t 70) (.t 71)⟩, ⟨some 73, some (68, true), [], .mov (.t 10)⟩, ⟨some 74, some (68, true), [], .slc true 0 (.t 69) (some (.t 72)) (some (.t 73))⟩, ⟨some 75, some (68, true), [], .mov (.t 1)⟩, ⟨some 76, some (68, true), [], .bin .no .eql (.t 74) (.t 75)⟩, ⟨some 77, none, [], .pick (.t 68) (.t 76) (.k (.bo false))⟩] [])
(.cond (.t 77)
(.seq (.reg false [
mV 78 10, mV 79 7, ⟨some 80, none, [], .bin .no .sub (.t 78) (.t 79)⟩, mV 4 80] [])
.ret)
.skip)))))))))))
(.seq (.reg false [
mK 4 (.it .i64 (-1))] [])
.ret))))))))⟩
def c163 : Ev.Fn := d163.den
theorem r163 : OK 163 c163 := rd d163 { loc := [], md := .pure, mds := mds, heap := [], own := [], ord := [], clr := [], mask := [(5, [0, 1, 5, 6, 7, 8, 9], []), (11, [0, 1, 5, 6, 7, 8, 10], [])], fns := [], lcl := [], hnd := [], pro := [] } Tryz.func163

def d165 : DFn := ⟨[(.c .one), (.c .one)], [], .rw, [],
(.reg false [
mV 4 1, mV 5 0, nK 6 5, fA 7 2 6, lD 8 1 7, cP 9 172 [(.t 4), (.t 8)]] [])⟩
def c165 : Ev.Fn := d165.den
theorem r165 : OK 165 c165 := rd d165 { loc := [], md := .rw, mds := mds, heap := [], own := [], ord := [], clr := [], mask := [], fns := [], lcl := [], hnd := [], pro := [] } Tryz.func165

def d166 : DFn := ⟨[(.c .one), (.c .one)], [(.g [.one, .one]), (.c .one)], .rw, [.cell 4 2 true, .tmp 5],
(.seq (.reg false [
⟨some 4, none, [], .alc [(.st []), (.st [])]⟩, mK 5 (.bo false)] [])
(.seq (.reg false [
mV 7 0, nK 8 7, fA 9 1 8, lD 10 1 9, lN 11 false 10, mV 6 11] [])
(.seq (.blk 0 (.seq (.reg false [
mV 13 1, ⟨some 14, none, [], .bin .no .geq (.t 13) (.k (.it .i64 1))⟩, mV 15 14, ⟨some 16, some (15, true), [], .mov (.t 1)⟩, ⟨some 17, some (15, true), [], .mov (.t 6)⟩, ⟨some 18, some (15, true), [], .bin .no .leq (.t 16) (.t 17)⟩, ⟨some 19, none, [], .pick (.t 15) (.t 18) (.k (.bo false))⟩, mV 12 19] [])
(.cond (.t 12)
(.seq (.reg false [
mV 20 0, nK 21 20, fA 22 1 21, lD 23 1 22, mV 24 1, ⟨some 25, none, [], .bin .no .sub (.t 24) (.k (.it .i64 1))⟩, ⟨some 26, none, [], .ias 2 (.t 23) (.t 25)⟩, lQ 27 2 26, sO 2 4 27, mK 5 (.bo true)] [])
.ret)
(.seq (.reg false [
mV 29 1, mV 30 6, ⟨some 31, none, [], .bin .no .gtr (.t 29) (.t 30)⟩, mV 32 31, ⟨some 33, some (32, true), [], .mov (.t 1)⟩, ⟨some 34, some (32, true), [], .mov (.t 6)⟩, ⟨some 35, some (32, true), [], .bin .no .sub (.t 33) (.t 34)⟩, ⟨some 36, some (32, true), [], .mov (.t 0)⟩, ⟨some 37, some (32, true), [], .nck (.t 36)⟩, ⟨some 38, some (32, true), [], .fad 0 (.t 37)⟩, ⟨some 39, some (32, true), [], .ld 1 false (.t 38)⟩, ⟨some 40, some (32, true), [], .len false (.t 39)⟩, ⟨some 41, some (32, true), [], .bin .no .leq (.t 35) (.t 40)⟩, ⟨some 42, none, [], .pick (.t 32) (.t 41) (.k (.bo false))⟩, mV 28 42] [])
(.cond (.t 28)
(.seq (.reg false [
mV 43 0, nK 44 43, fA 45 0 44, lD 46 1 45, mV 47 1, mV 48 6, ⟨some 49, none, [], .bin .no .sub (.t 47) (.t 48)⟩, ⟨some 50, none, [], .bin .no .sub (.t 49) (.k (.it .i64 1))⟩, ⟨some 51, none, [], .ias 2 (.t 46) (.t 50)⟩, lQ 52 2 51, sO 2 4 52, mK 5 (.bo true)] [])
.ret)
.skip)))))
(.seq (.reg false [
⟨some 53, none, [], .bld [(.st []), (.st [])] []⟩, sO 2 4 53, mK 5 (.bo false)] [])
.ret))))⟩
def c166 : Ev.Fn := d166.den
theorem r166 : OK 166 c166 := rd d166 { loc := [4], md := .rw, mds := mds, heap := [], own := [], ord := [(0, [1, 0])], clr := [], mask := [], fns := [], lcl := [], hnd := [], pro := [] } Tryz.func166

def d167 : DFn := ⟨[(.c (.sl [.one])), (.c .one), (.c .one)], [(.c .one), (.c .one), (.c .one)], .pure, [.tmp 6, .tmp 7, .tmp 8],
(.seq (.reg false [
mK 6 (.it .i64 0), mK 7 (.it .i64 0), mK 8 (.it .i64 0)] [])
(.seq (.seq (.reg false [
mV 13 2, ⟨some 14, none, [], .bin .no .lss (.t 13) (.k (.it .i64 1))⟩, mV 15 14, ⟨some 16, some (15, false), [], .mov (.t 2)⟩, ⟨some 17, some (15, false), [], .bin .no .gtr (.t 16) (.k (.it .i64 8))⟩, ⟨some 18, none, [], .pick (.t 15) (.k (.bo true)) (.t 17)⟩, mV 19 18, ⟨some 20, some (19, false), [], .mov (.t 1)⟩, ⟨some 21, some (19, false), [], .bin .no .lss (.t 20) (.k (.it .i64 0))⟩, ⟨some 22, none, [], .pick (.t 19) (.k (.bo true)) (.t 21)⟩, mV 23 22, ⟨some 24, some (23, false), [], .mov (.t 1)⟩, ⟨some 25, some (23, false), [], .mov (.t 0)⟩, ⟨some 26, some (23, false), [], .len false (.t 25)⟩, ⟨some 27, some (23, false), [], .bin .no .gtr (.t 24) (.t 26)⟩, ⟨some 28, none, [], .pick (.t 23) (.k (.bo true)) (.t 27)⟩] [])
(.cond (.t 28)
(.seq (.reg false [
mK 6 (.it .i64 0), mK 7 (.it .i64 0), mK 8 (.it .i64 1)] [])
.ret)
.skip))
(.seq (.seq (.reg false [
mV 29 1, mV 30 0, lN 31 false 30, ⟨some 32, none, [], .bin .no .eql (.t 29) (.t 31)⟩] [])
(.cond (.t 32)
(.seq (.reg false [
mK 6 (.it .i64 0), mK 7 (.it .i64 0), mK 8 (.it .i64 3)] [])
.ret)
.skip))
(.seq (.reg false [
mV 33 2, cP 34 109 [(.t 33)], mV 9 34] [])
(.seq (.reg false [
mV 35 0, mV 36 1, ⟨some 37, none, [], .ias 1 (.t 35) (.t 36)⟩, lD 38 1 37, cV 39 .i64 38, mV 40 9, ⟨some 41, none, [], .bin .no .and (.t 39) (.t 40)⟩, mV 10 41] [])
(.seq (.reg false [
mV 42 1, ⟨some 43, none, [], .bin .no .add (.t 42) (.k (.it .i64 1))⟩, mV 1 43] [])
(.seq (.seq (.reg false [
mV 44 10, mV 45 9, ⟨some 46, none, [], .bin .no .lss (.t 44) (.t 45)⟩] [])
(.cond (.t 46)
(.seq (.reg false [
mV 47 10, mV 48 1, mV 6 47, mV 7 48, mK 8 (.it .i64 0)] [])
.ret)
.skip))
(.seq (.reg false [
mK 11 (.it .i64 0)] [])
(.blk 0 (.loop [0, 1, 10, 11] []
(.seq (.blk 1 (.seq (.seq (.reg false [
mV 51 11, ⟨some 52, none, [], .bin .no .eql (.t 51) (.k (.it .i64 5))⟩] [])
(.cond (.t 52)
(.seq (.reg false [
mK 6 (.it .i64 0), mK 7 (.it .i64 0), mK 8 (.it .i64 2)] [])
.ret)
.skip))
(.seq (.seq (.reg false [
mV 53 1, mV 54 0, lN 55 false 54, ⟨some 56, none, [], .bin .no .eql (.t 53) (.t 55)⟩] [])
(.cond (.t 56)
(.seq (.reg false [
mK 6 (.it .i64 0), mK 7 (.it .i64 0), mK 8 (.it .i64 3)] [])
.ret)
.skip))
(.seq (.reg false [
mV 57 0, mV 58 1, ⟨some 59, none, [], .ias 1 (.t 57) (.t 58)⟩, lD 60 1 59, cV 61 .i64 60, mV 12 61] [])
(.seq (.reg false [
mV 62 1, ⟨some 63, none, [], .bin .no .add (.t 62) (.k (.it .i64 1))⟩, mV 1 63] [])
(.seq (.reg false [
mV 64 10, mV 65 12, ⟨some 66, none, [], .bin .no .and (.t 65) (.k (.it .i64 127))⟩, mV 67 11, ⟨some 68, none, [], .bin .no .mul (.k (.it .i64 7)) (.t 67)⟩, cV 69 .u64 68, ⟨some 70, none, [], .bin .no .shl (.t 66) (.t 69)⟩, ⟨some 71, none, [], .bin .no .add (.t 64) (.t 70)⟩, mV 10 71] [])
(.seq (.seq (.reg false [
mV 72 10, ⟨some 73, none, [], .bin .no .gtr (.t 72) (.k (.it .i64 2147483647))⟩] [])
(.cond (.t 73)
(.seq (.reg false [
mK 6 (.it .i64 0), mK 7 (.it .i64 0), mK 8 (.it .i64 2)] [])
.ret)
.skip))
(.seq (.reg false [
mV 74 12, ⟨some 75, none, [], .bin .no .lss (.t 74) (.k (.it .i64 128))⟩] [])
(.cond (.t 75)
(.seq (.reg false [
mV 76 10, mV 77 1, mV 6 76, mV 7 77, mK 8 (.it .i64 0)] [])
.ret)
.skip)))))))))
(.reg false [
mV 49 11, ⟨some 50, none, [], .bin .no .add (.t 49) (.k (.it .i64 1))⟩, mV 11 50] []))))))))))))⟩
def c167 : Ev.Fn := d167.den
theorem r167 : OK 167 c167 := rd d167 { loc := [], md := .pure, mds := mds, heap := [], own := [], ord := [], clr := [], mask := [(12, [0, 1, 10, 11], [])], fns := [], lcl := [], hnd := [], pro := [] } Tryz.func167

def d168 : DFn := ⟨[(.c .one)], [(.c .one)], .rw, [.tmp 2],
(.seq (.reg false [
mK 2 (.st [])] [])
(.seq (.seq (.reg true [
mV 8 0, nK 9 8, fA 10 2 9, lD 11 1 10, mV 12 0, nK 13 12, fA 14 1 13, lD 15 1 14, lN 16 false 15, ⟨some 17, none, [], .bin .no .eql (.t 11) (.t 16)⟩] [])
(.cond (.t 17)
(.reg false [
mV 18 0, cR 19 165 [(.t 18), (.k (.it .i64 3))]] [])
.skip))
(.seq (.reg true [
mV 20 0, nK 21 20, fA 22 1 21, lD 23 1 22, mV 24 0, nK 25 24, fA 26 2 25, lD 27 1 26, ⟨some 28, none, [], .ias 1 (.t 23) (.t 27)⟩, lD 29 1 28, ⟨some 30, none, [], .bin .no .geq (.t 29) (.k (.it .u8 128))⟩, mV 3 30] [])
(.seq (.reg false [
mV 31 0, cR 32 154 [(.t 31), (.k (.it .i64 7))], mV 4 32] [])
(.seq (.seq (.reg false [
mV 33 4, ⟨some 34, none, [], .bin .no .gtr (.t 33) (.k (.it .i64 65536))⟩] [])
(.cond (.t 34)
(.reg false [
mV 35 0, cR 36 165 [(.t 35), (.k (.it .i64 2))]] [])
.skip))
(.seq (.seq (.reg true [
mV 37 4, mV 38 0, nK 39 38, fA 40 1 39, lD 41 1 40, lN 42 false 41, mV 43 0, nK 44 43, fA 45 2 44, lD 46 1 45, ⟨some 47, none, [], .bin .no .sub (.t 42) (.t 46)⟩, ⟨some 48, none, [], .bin .no .gtr (.t 37) (.t 47)⟩] [])
(.cond (.t 48)
(.reg false [
mV 49 0, cR 50 165 [(.t 49), (.k (.it .i64 3))]] [])
.skip))
(.seq (.reg true [
mV 51 0, nK 52 51, fA 53 1 52, lD 54 1 53, mV 55 0, nK 56 55, fA 57 2 56, lD 58 1 57, mV 59 0, nK 60 59, fA 61 2 60, lD 62 1 61, mV 63 4, ⟨some 64, none, [], .bin .no .add (.t 62) (.t 63)⟩, ⟨some 65, none, [], .slc false 1 (.t 54) (some (.t 58)) (some (.t 64))⟩, mV 5 65] [])
(.seq (.reg false [
mV 66 0, nK 67 66, fA 68 2 67, lD 69 1 68, mV 70 4, ⟨some 71, none, [], .bin .no .add (.t 69) (.t 70)⟩, nK 72 66, fA 73 2 72, sO 1 73 71] [])
(.seq (.seq (.reg false [
mV 74 3, ⟨some 75, none, [], .un .not (.t 74)⟩] [])
(.cond (.t 75)
(.seq (.reg false [
mV 76 5, ⟨some 77, none, [], .cnv .b2s (.t 76)⟩, mV 2 77] [])
.ret)
.skip))
(.seq (.reg false [
mV 79 5, cP 80 173 [(.t 79)], mV 78 80, eX 81 78 0, eX 82 78 1, mV 6 81, mV 7 82] [])
(.seq (.seq (.reg false [
mV 83 7, ⟨some 84, none, [], .bin .no .neq (.t 83) (.k (.it .i64 0))⟩] [])
(.cond (.t 84)
(.reg false [
mV 85 0, mV 86 7, cR 87 165 [(.t 85), (.t 86)]] [])
.skip))
(.seq (.seq (.reg false [
mV 88 6, lN 89 true 88, ⟨some 90, none, [], .bin .no .gtr (.t 89) (.k (.it .i64 65536))⟩] [])
(.cond (.t 90)
(.reg false [
mV 91 0, cR 92 165 [(.t 91), (.k (.it .i64 2))]] [])
.skip))
(.seq (.reg false [
mV 93 6, mV 2 93] [])
.ret)))))))))))))⟩
def c168 : Ev.Fn := d168.den
theorem r168 : OK 168 c168 := rd d168 { loc := [], md := .rw, mds := mds, heap := [], own := [], ord := [], clr := [], mask := [], fns := [], lcl := [], hnd := [], pro := [] } Tryz.func168

def d169 : DFn := ⟨[(.c .one)], [(.c .one), (.c .one)], .pure, [.tmp 2, .tmp 3],
(.seq (.reg false [
mK 2 (.it .i32 0), mK 3 (.it .i64 0)] [])
(.seq (.reg false [
mV 13 0, lN 14 true 13, mV 4 14] [])
(.seq (.seq (.reg false [
mV 15 4, ⟨some 16, none, [], .bin .no .lss (.t 15) (.k (.it .i64 1))⟩] [])
(.cond (.t 16)
(.seq (.reg false [
mK 2 (.it .i32 65533), mK 3 (.it .i64 0)] [])
.ret)
.skip))
(.seq (.reg false [
mV 17 0, ⟨some 18, none, [], .ixs (.t 17) (.k (.it .i64 0))⟩, mV 5 18] [])
(.seq (.reg false [
mV 19 5, ⟨some 20, none, [], .iaa 256 1 (.k .un) (.t 19)⟩, lD 21 1 20, mV 6 21] [])
(.seq (.seq (.reg false [
mV 22 6, ⟨some 23, none, [], .bin .no .geq (.t 22) (.k (.it .u8 240))⟩] [])
(.cond (.t 23)
(.seq (.reg false [
mV 24 6, cV 25 .i32 24, ⟨some 26, none, [], .bin .no .shl (.t 25) (.k (.it .u64 31))⟩, ⟨some 27, none, [], .bin .no .shr (.t 26) (.k (.it .u64 31))⟩, mV 7 27] [])
(.seq (.reg false [
mV 28 0, ⟨some 29, none, [], .ixs (.t 28) (.k (.it .i64 0))⟩, cV 30 .i32 29, mV 31 7, ⟨some 32, none, [], .bin .no .andNot (.t 30) (.t 31)⟩, mV 33 7, ⟨some 34, none, [], .bin .no .and (.k (.it .i32 65533)) (.t 33)⟩, ⟨some 35, none, [], .bin .no .or (.t 32) (.t 34)⟩, mV 2 35, mK 3 (.it .i64 1)] [])
.ret))
.skip))
(.seq (.reg false [
mV 36 6, ⟨some 37, none, [], .bin .no .and (.t 36) (.k (.it .u8 7))⟩, cV 38 .i64 37, mV 8 38] [])
(.seq (.reg false [
mV 39 6, ⟨some 40, none, [], .bin .no .shr (.t 39) (.k (.it .u64 4))⟩, ⟨some 41, none, [], .iaa 16 2 (.k .un) (.t 40)⟩, lQ 42 2 41, ⟨some 9, none, [], .alc [(.it .u8 0), (.it .u8 0)]⟩, sO 2 9 42] [])
(.seq (.seq (.reg false [
mV 43 4, mV 44 8, ⟨some 45, none, [], .bin .no .lss (.t 43) (.t 44)⟩] [])
(.cond (.t 45)
(.seq (.reg false [
mK 2 (.it .i32 65533), mK 3 (.it .i64 1)] [])
.ret)
.skip))
(.seq (.reg false [
mV 46 0, ⟨some 47, none, [], .ixs (.t 46) (.k (.it .i64 1))⟩, mV 10 47] [])
(.seq (.seq (.reg false [
mV 48 10, fA 49 0 9, lD 50 1 49, ⟨some 51, none, [], .bin .no .lss (.t 48) (.t 50)⟩, mV 52 51, ⟨some 53, some (52, false), [], .fad 1 (.t 9)⟩, ⟨some 54, some (52, false), [], .ld 1 false (.t 53)⟩, ⟨some 55, some (52, false), [], .mov (.t 10)⟩, ⟨some 56, some (52, false), [], .bin .no .lss (.t 54) (.t 55)⟩, ⟨some 57, none, [], .pick (.t 52) (.k (.bo true)) (.t 56)⟩] [49, 53])
(.cond (.t 57)
(.seq (.reg false [
mK 2 (.it .i32 65533), mK 3 (.it .i64 1)] [])
.ret)
.skip))
(.seq (.seq (.reg false [
mV 58 8, ⟨some 59, none, [], .bin .no .leq (.t 58) (.k (.it .i64 2))⟩] [])
(.cond (.t 59)
(.seq (.reg false [
mV 60 5, ⟨some 61, none, [], .bin .no .and (.t 60) (.k (.it .u8 31))⟩, cV 62 .i32 61, ⟨some 63, none, [], .bin .no .shl (.t 62) (.k (.it .u64 6))⟩, mV 64 10, ⟨some 65, none, [], .bin .no .and (.t 64) (.k (.it .u8 63))⟩, cV 66 .i32 65, ⟨some 67, none, [], .bin .no .or (.t 63) (.t 66)⟩, mV 2 67, mK 3 (.it .i64 2)] [])
.ret)
.skip))
(.seq (.reg false [
mV 68 0, ⟨some 69, none, [], .ixs (.t 68) (.k (.it .i64 2))⟩, mV 11 69] [])
(.seq (.seq (.reg false [
mV 70 11, ⟨some 71, none, [], .bin .no .lss (.t 70) (.k (.it .u8 128))⟩, mV 72 71, ⟨some 73, some (72, false), [], .mov (.t 11)⟩, ⟨some 74, some (72, false), [], .bin .no .lss (.k (.it .u8 191)) (.t 73)⟩, ⟨some 75, none, [], .pick (.t 72) (.k (.bo true)) (.t 74)⟩] [])
(.cond (.t 75)
(.seq (.reg false [
mK 2 (.it .i32 65533), mK 3 (.it .i64 1)] [])
.ret)
.skip))
(.seq (.seq (.reg false [
mV 76 8, ⟨some 77, none, [], .bin .no .leq (.t 76) (.k (.it .i64 3))⟩] [])
(.cond (.t 77)
(.seq (.reg false [
mV 78 5, ⟨some 79, none, [], .bin .no .and (.t 78) (.k (.it .u8 15))⟩, cV 80 .i32 79, ⟨some 81, none, [], .bin .no .shl (.t 80) (.k (.it .u64 12))⟩, mV 82 10, ⟨some 83, none, [], .bin .no .and (.t 82) (.k (.it .u8 63))⟩, cV 84 .i32 83, ⟨some 85, none, [], .bin .no .shl (.t 84) (.k (.it .u64 6))⟩, ⟨some 86, none, [], .bin .no .or (.t 81) (.t 85)⟩, mV 87 11, ⟨some 88, none, [], .bin .no .and (.t 87) (.k (.it .u8 63))⟩, cV 89 .i32 88, ⟨some 90, none, [], .bin .no .or (.t 86) (.t 89)⟩, mV 2 90, mK 3 (.it .i64 3)] [])
.ret)
.skip))
(.seq (.reg false [
mV 91 0, ⟨some 92, none, [], .ixs (.t 91) (.k (.it .i64 3))⟩, mV 12 92] [])
(.seq (.seq (.reg false [
mV 93 12, ⟨some 94, none, [], .bin .no .lss (.t 93) (.k (.it .u8 128))⟩, mV 95 94, ⟨some 96, some (95, false), [], .mov (.t 12)⟩, ⟨some 97, some (95, false), [], .bin .no .lss (.k (.it .u8 191)) (.t 96)⟩, ⟨some 98, none, [], .pick (.t 95) (.k (.bo true)) (.t 97)⟩] [])
(.cond (.t 98)
(.seq (.reg false [
mK 2 (.it .i32 65533), mK 3 (.it .i64 1)] [])
.ret)
.skip))
(.seq (.reg false [
mV 99 5, ⟨some 100, none, [], .bin .no .and (.t 99) (.k (.it .u8 7))⟩, cV 101 .i32 100, ⟨some 102, none, [], .bin .no .shl (.t 101) (.k (.it .u64 18))⟩, mV 103 10, ⟨some 104, none, [], .bin .no .and (.t 103) (.k (.it .u8 63))⟩, cV 105 .i32 104, ⟨some 106, none, [], .bin .no .shl (.t 105) (.k (.it .u64 12))⟩, ⟨some 107, none, [], .bin .no .or (.t 102) (.t 106)⟩, mV 108 11, ⟨some 109, none, [], .bin .no .and (.t 108) (.k (.it .u8 63))⟩, cV 110 .i32 109, ⟨some 111, none, [], .bin .no .shl (.t 110) (.k (.it .u64 6))⟩, ⟨some 112, none, [], .bin .no .or (.t 107) (.t 111)⟩, mV 113 12, ⟨some 114, none, [], .bin .no .and (.t 113) (.k (.it .u8 63))⟩, cV 115 .i32 114, ⟨some 116, none, [], .bin .no .or (.t 112) (.t 115)⟩, mV 2 116, mK 3 (.it .i64 4)] [])
.ret))))))))))))))))))⟩
def c169 : Ev.Fn := d169.den
theorem r169 : OK 169 c169 := rd d169 { loc := [9], md := .pure, mds := mds, heap := [], own := [], ord := [], clr := [(14, [49, 53])], mask := [], fns := [], lcl := [], hnd := [], pro := [] } Tryz.func169

def d171 : DFn := ⟨[(.c .one)], [(.c .one), (.c .one)], .pure, [.tmp 2, .tmp 3],
(.seq (.reg false [
mK 2 (.it .u32 0), mK 3 (.it .u32 0)] [])
(.seq (.reg false [
mK 4 (.it .u32 0)] [])
(.seq (.seq (.reg false [
mK 5 (.it .i64 0)] [])
(.blk 0 (.loop [0, 4, 5] []
(.seq (.seq (.reg false [
mV 9 5, mV 10 0, lN 11 true 10, ⟨some 12, none, [], .bin .no .lss (.t 9) (.t 11)⟩] [])
(.cond (.t 12)
.skip
(.exit 0)))
(.seq (.blk 1 (.reg false [
mV 15 4, ⟨some 16, none, [], .bin .no .mul (.t 15) (.k (.it .u32 16777619))⟩, mV 17 0, mV 18 5, ⟨some 19, none, [], .ixs (.t 17) (.t 18)⟩, cV 20 .u32 19, ⟨some 21, none, [], .bin .no .add (.t 16) (.t 20)⟩, mV 4 21] []))
(.reg false [
mV 13 5, ⟨some 14, none, [], .bin .no .add (.t 13) (.k (.it .i64 1))⟩, mV 5 14] []))))))
(.seq (.reg false [
mK 6 (.it .u32 1), mK 7 (.it .u32 16777619)] [])
(.seq (.seq (.reg false [
mV 22 0, lN 23 true 22, mV 8 23] [])
(.blk 2 (.loop [4, 6, 7, 8] []
(.seq (.seq (.reg false [
mV 24 8, ⟨some 25, none, [], .bin .no .gtr (.t 24) (.k (.it .i64 0))⟩] [])
(.cond (.t 25)
.skip
(.exit 2)))
(.seq (.blk 3 (.seq (.seq (.reg false [
mV 28 8, ⟨some 29, none, [], .bin .no .and (.t 28) (.k (.it .i64 1))⟩, ⟨some 30, none, [], .bin .no .neq (.t 29) (.k (.it .i64 0))⟩] [])
(.cond (.t 30)
(.reg false [
mV 31 6, mV 32 7, ⟨some 33, none, [], .bin .no .mul (.t 31) (.t 32)⟩, mV 6 33] [])
.skip))
(.reg false [
mV 34 7, mV 35 7, ⟨some 36, none, [], .bin .no .mul (.t 34) (.t 35)⟩, mV 7 36] [])))
(.reg false [
mV 26 8, ⟨some 27, none, [], .bin .no .shr (.t 26) (.k (.it .u64 1))⟩, mV 8 27] []))))))
(.seq (.reg false [
mV 37 4, mV 38 6, mV 2 37, mV 3 38] [])
.ret))))))⟩
def c171 : Ev.Fn := d171.den
theorem r171 : OK 171 c171 := rd d171 { loc := [], md := .pure, mds := mds, heap := [], own := [], ord := [], clr := [], mask := [(3, [0, 4, 5], []), (8, [4, 6, 7, 8], [])], fns := [], lcl := [], hnd := [], pro := [] } Tryz.func171

def d172 : DFn := ⟨[(.c .one), (.c .one)], [], .pure, [],
(.reg false [
mV 4 0, mV 5 1, ⟨some 6, none, [], .bld [(.it .i64 0), (.it .i64 0)] [(0, 1, (.t 4)), (1, 1, (.t 5))]⟩, ⟨some 7, none, [], .mki 197 (.t 6)⟩, ⟨none, none, [], .pan (.t 7)⟩] [])⟩
def c172 : Ev.Fn := d172.den
theorem r172 : OK 172 c172 := rd d172 { loc := [], md := .pure, mds := mds, heap := [], own := [], ord := [], clr := [], mask := [], fns := [], lcl := [], hnd := [], pro := [] } Tryz.func172

def d173 : DFn := ⟨[(.c (.sl [.one]))], [(.c .one), (.c .one)], .pure, [.tmp 2, .tmp 3],
(.seq (.reg false [
mK 2 (.st []), mK 3 (.it .i64 0)] [])
(.seq (.reg false [
cR 10 149 [], mV 4 10] [])
(.seq (.reg false [
mK 5 .ns] [])
(.seq (.reg false [
mK 6 (.it .i64 0), mK 7 (.it .i64 0)] [])
(.seq (.seq (.reg false [
mV 11 0, lN 12 false 11, ⟨some 13, none, [], .bin .no .mul (.k (.it .i64 8)) (.t 12)⟩, mK 14 (.it .i64 0)] [])
(.blk 0 (.loop [0, 4, 5, 6, 7, 13, 14] []
(.seq (.reg false [
⟨some 15, none, [], .bin .no .lss (.t 14) (.t 13)⟩] [])
(.seq (.cond (.t 15)
.skip
(.exit 0))
(.seq (.blk 1 (.seq (.reg false [
mV 16 14, mV 8 16] [])
(.seq (.reg false [
mV 17 6, ⟨some 18, none, [], .bin .no .shl (.t 17) (.k (.it .u64 1))⟩, mV 19 0, mV 20 8, ⟨some 21, none, [], .bin .no .quo (.t 20) (.k (.it .i64 8))⟩, ⟨some 22, none, [], .ias 1 (.t 19) (.t 21)⟩, lD 23 1 22, mV 24 8, ⟨some 25, none, [], .bin .no .rem (.t 24) (.k (.it .i64 8))⟩, ⟨some 26, none, [], .bin .no .sub (.k (.it .i64 7)) (.t 25)⟩, cV 27 .u64 26, ⟨some 28, none, [], .bin .no .shr (.t 23) (.t 27)⟩, ⟨some 29, none, [], .bin .no .and (.t 28) (.k (.it .u8 1))⟩, cV 30 .i64 29, ⟨some 31, none, [], .bin .no .or (.t 18) (.t 30)⟩, mV 6 31] [])
(.seq (.reg false [
mV 32 7, ⟨some 33, none, [], .bin .no .add (.t 32) (.k (.it .i64 1))⟩, mV 7 33] [])
(.seq (.reg false [
mV 34 4, mV 35 6, mV 36 7, cR 37 174 [(.t 34), (.t 35), (.t 36)], mV 9 37] [])
(.seq (.seq (.reg false [
mV 38 9, ⟨some 39, none, [], .bin .no .eql (.t 38) (.k (.it .i64 256))⟩] [])
(.cond (.t 39)
(.seq (.reg false [
mK 2 (.st []), mK 3 (.it .i64 4)] [])
.ret)
.skip))
(.seq (.reg false [
mV 40 9, ⟨some 41, none, [], .bin .no .geq (.t 40) (.k (.it .i64 0))⟩] [])
(.cond (.t 41)
(.seq (.reg false [
mV 42 5, mV 43 9, cV 44 .u8 43, ⟨some 45, none, [], .bsv [.one] 1 [[(.it .u8 0)]] [(0, (.t 44))]⟩, ⟨some 46, none, [], .app 1 1 (.t 42) (.t 45)⟩, mV 5 46] [])
(.reg false [
mK 6 (.it .i64 0), mK 7 (.it .i64 0)] []))
.skip))))))))
(.reg false [
⟨some 47, none, [], .bin .no .add (.t 14) (.k (.it .i64 1))⟩, mV 14 47] [])))))))
(.seq (.seq (.reg false [
mV 48 7, ⟨some 49, none, [], .bin .no .gtr (.t 48) (.k (.it .i64 7))⟩, mV 50 49, ⟨some 51, some (50, false), [], .mov (.t 6)⟩, ⟨some 52, some (50, false), [], .mov (.t 7)⟩, ⟨some 53, some (50, false), [], .cnv (.int .u64) (.t 52)⟩, ⟨some 54, some (50, false), [], .bin .no .shl (.k (.it .i64 1)) (.t 53)⟩, ⟨some 55, some (50, false), [], .bin .no .sub (.t 54) (.k (.it .i64 1))⟩, ⟨some 56, some (50, false), [], .bin .no .neq (.t 51) (.t 55)⟩, ⟨some 57, none, [], .pick (.t 50) (.k (.bo true)) (.t 56)⟩] [])
(.cond (.t 57)
(.seq (.reg false [
mK 2 (.st []), mK 3 (.it .i64 4)] [])
.ret)
.skip))
(.seq (.reg false [
mV 58 5, ⟨some 59, none, [], .cnv .b2s (.t 58)⟩, mV 2 59, mK 3 (.it .i64 0)] [])
.ret)))))))⟩
def c173 : Ev.Fn := d173.den
theorem r173 : OK 173 c173 := rd d173 { loc := [], md := .pure, mds := mds, heap := [46], own := [46], ord := [], clr := [], mask := [(5, [0, 4, 5, 6, 7, 13, 14], [])], fns := [], lcl := [], hnd := [], pro := [] } Tryz.func173

def d174 : DFn := ⟨[(.c .one), (.c .one), (.c .one)], [(.c .one)], .rw, [.tmp 6],
(.seq (.reg false [
mK 6 (.it .i64 0)] [])
(.seq (.reg false [
mV 8 1, mV 9 0, mV 10 2, nK 11 9, fA 12 0 11, ⟨some 13, none, [], .iaa 32 1 (.t 12) (.t 10)⟩, lD 14 1 13, ⟨some 15, none, [], .bin .no .sub (.t 8) (.t 14)⟩, mV 7 15] [])
(.seq (.seq (.reg false [
mV 16 7, ⟨some 17, none, [], .bin .no .lss (.t 16) (.k (.it .i64 0))⟩, mV 18 17, ⟨some 19, some (18, false), [], .mov (.t 7)⟩, ⟨some 20, some (18, false), [], .mov (.t 0)⟩, ⟨some 21, some (18, false), [], .mov (.t 2)⟩, ⟨some 22, some (18, false), [], .nck (.t 20)⟩, ⟨some 23, some (18, false), [], .fad 32 (.t 22)⟩, ⟨some 24, some (18, false), [], .iaa 32 1 (.t 23) (.t 21)⟩, ⟨some 25, some (18, false), [], .ld 1 false (.t 24)⟩, ⟨some 26, some (18, false), [], .bin .no .geq (.t 19) (.t 25)⟩, ⟨some 27, none, [], .pick (.t 18) (.k (.bo true)) (.t 26)⟩] [])
(.cond (.t 27)
(.seq (.reg false [
mK 6 (.it .i64 (-1))] [])
.ret)
.skip))
(.seq (.reg true [
mV 28 0, mV 29 0, mV 30 2, nK 31 29, fA 32 64 31, ⟨some 33, none, [], .iaa 32 1 (.t 32) (.t 30)⟩, lD 34 1 33, mV 35 7, ⟨some 36, none, [], .bin .no .add (.t 34) (.t 35)⟩, nK 37 28, fA 38 96 37, ⟨some 39, none, [], .iaa 257 1 (.t 38) (.t 36)⟩, lD 40 1 39, mV 6 40] [])
.ret))))⟩
def c174 : Ev.Fn := d174.den
theorem r174 : OK 174 c174 := rd d174 { loc := [], md := .rw, mds := mds, heap := [], own := [], ord := [], clr := [], mask := [], fns := [], lcl := [], hnd := [], pro := [] } Tryz.func174

def c112 : Ev.Fn := fn112
theorem r112 : FnOK Tryz.prog mds 112 c112 := ⟨by kernel_rfl, .inr fun call L h => ins_run call L⟩

def c136 : Ev.Fn := cGrd
theorem r136 : FnOK Tryz.prog mds 136 c136 := ⟨by kernel_rfl, .inr fun call L h => grd_run call L h⟩

def tab : List (Option Ev.Fn) := [none, none, none, some c3, none, none, some c6, none, none, none, some c10, some c11, some c12, some c13, some c14, some c15, some c16, some c17, some c18, some c19, some c20, some c21, some c22, some c23, some c24, some c25, none, none, none, none, none, none, some c32, some c33, some c34, some c35, some c36, some c37, some c38, some c39, some c40, some c41, some c42, some c43, some c44, some c45, some c46, some c47, some c48, some c49, some c50, some c51, some c52, some c53, some c54, some c55, some c56, some c57, some c58, some c59, some c60, some c61, some c62, some c63, some c64, some c65, some c66, some c67, some c68, some c69, some c70, some c71, some c72, some c73, some c74, some c75, some c76, some c77, some c78, some c79, some c80, some c81, some c82, some c83, some c84, some c85, some c86, some c87, some c88, some c89, some c90, some c91, some c92, some c93, some c94, some c95, some c96, some c97, some c98, some c99, some c100, some c101, some c102, some c103, some c104, some c105, some c106, some c107, some c108, some c109, some c110, some c111, some c112, some c113, some c114, some c115, some c116, some c117, some c118, some c119, some c120, some c121, some c122, some c123, some c124, some c125, some c126, some c127, some c128, some c129, some c130, none, none, some c133, some c134, some c135, some c136, some c137, some c138, some c139, some c140, some c141, some c142, some c143, some c144, some c145, some c146, some c147, some c148, some c149, none, none, some c152, some c153, some c154, some c155, some c156, some c157, some c158, none, some c160, none, some c162, some c163, none, some c165, some c166, some c167, some c168, some c169, none, some c171, some c172, some c173, some c174]
def F (n : Nat) : Option Ev.Fn := (tab[n]?).join

inductive Good : Nat → List (Option Ev.Fn) → Prop
  | nil (k : Nat) : Good k []
  | none {k : Nat} {l : List (Option Ev.Fn)} (h : Good (k + 1) l) : Good k (none :: l)
  | some {k : Nat} {c : Ev.Fn} {l : List (Option Ev.Fn)} (h : FnOK Tryz.prog mds k c) (t : Good (k + 1) l) : Good k (some c :: l)

theorem Good.get {k : Nat} {l : List (Option Ev.Fn)} (h : Good k l) : ∀ (n : Nat) (c : Ev.Fn), (l[n]?).join = Option.some c → FnOK Tryz.prog mds (k + n) c := by
  induction h with
  | nil k => intro n c h; simp at h
  | none h ih =>
    intro n c hc
    cases n with
    | zero => simp at hc
    | succ n => have := ih n c (by simpa using hc); rw [Nat.add_assoc, Nat.add_comm 1 n] at this; exact this
  | some h t ih =>
    intro n c hc
    cases n with
    | zero => simp at hc; subst hc; exact h
    | succ n => have := ih n c (by simpa using hc); rw [Nat.add_assoc, Nat.add_comm 1 n] at this; exact this

theorem good : Good 0 tab := by
  unfold tab
  refine .none ?_
  refine .none ?_
  refine .none ?_
  refine .some r3 ?_
  refine .none ?_
  refine .none ?_
  refine .some r6 ?_
  refine .none ?_
  refine .none ?_
  refine .none ?_
  refine .some r10 ?_
  refine .some r11 ?_
  refine .some r12 ?_
  refine .some r13 ?_
  refine .some r14 ?_
  refine .some r15 ?_
  refine .some r16 ?_
  refine .some r17 ?_
  refine .some r18 ?_
  refine .some r19 ?_
  refine .some r20 ?_
  refine .some r21 ?_
  refine .some r22 ?_
  refine .some r23 ?_
  refine .some r24 ?_
  refine .some r25 ?_
  refine .none ?_
  refine .none ?_
  refine .none ?_
  refine .none ?_
  refine .none ?_
  refine .none ?_
  refine .some r32 ?_
  refine .some r33 ?_
  refine .some r34 ?_
  refine .some r35 ?_
  refine .some r36 ?_
  refine .some r37 ?_
  refine .some r38 ?_
  refine .some r39 ?_
  refine .some r40 ?_
  refine .some r41 ?_
  refine .some r42 ?_
  refine .some r43 ?_
  refine .some r44 ?_
  refine .some r45 ?_
  refine .some r46 ?_
  refine .some r47 ?_
  refine .some r48 ?_
  refine .some r49 ?_
  refine .some r50 ?_
  refine .some r51 ?_
  refine .some r52 ?_
  refine .some r53 ?_
  refine .some r54 ?_
  refine .some r55 ?_
  refine .some r56 ?_
  refine .some r57 ?_
  refine .some r58 ?_
  refine .some r59 ?_
  refine .some r60 ?_
  refine .some r61 ?_
  refine .some r62 ?_
  refine .some r63 ?_
  refine .some r64 ?_
  refine .some r65 ?_
  refine .some r66 ?_
  refine .some r67 ?_
  refine .some r68 ?_
  refine .some r69 ?_
  refine .some r70 ?_
  refine .some r71 ?_
  refine .some r72 ?_
  refine .some r73 ?_
  refine .some r74 ?_
  refine .some r75 ?_
  refine .some r76 ?_
  refine .some r77 ?_
  refine .some r78 ?_
  refine .some r79 ?_
  refine .some r80 ?_
  refine .some r81 ?_
  refine .some r82 ?_
  refine .some r83 ?_
  refine .some r84 ?_
  refine .some r85 ?_
  refine .some r86 ?_
  refine .some r87 ?_
  refine .some r88 ?_
  refine .some r89 ?_
  refine .some r90 ?_
  refine .some r91 ?_
  refine .some r92 ?_
  refine .some r93 ?_
  refine .some r94 ?_
  refine .some r95 ?_
  refine .some r96 ?_
  refine .some r97 ?_
  refine .some r98 ?_
  refine .some r99 ?_
  refine .some r100 ?_
  refine .some r101 ?_
  refine .some r102 ?_
  refine .some r103 ?_
  refine .some r104 ?_
  refine .some r105 ?_
  refine .some r106 ?_
  refine .some r107 ?_
  refine .some r108 ?_
  refine .some r109 ?_
  refine .some r110 ?_
  refine .some r111 ?_
  refine .some r112 ?_
  refine .some r113 ?_
  refine .some r114 ?_
  refine .some r115 ?_
  refine .some r116 ?_
  refine .some r117 ?_
  refine .some r118 ?_
  refine .some r119 ?_
  refine .some r120 ?_
  refine .some r121 ?_
  refine .some r122 ?_
  refine .some r123 ?_
  refine .some r124 ?_
  refine .some r125 ?_
  refine .some r126 ?_
  refine .some r127 ?_
  refine .some r128 ?_
  refine .some r129 ?_
  refine .some r130 ?_
  refine .none ?_
  refine .none ?_
  refine .some r133 ?_
  refine .some r134 ?_
  refine .some r135 ?_
  refine .some r136 ?_
  refine .some r137 ?_
  refine .some r138 ?_
  refine .some r139 ?_
  refine .some r140 ?_
  refine .some r141 ?_
  refine .some r142 ?_
  refine .some r143 ?_
  refine .some r144 ?_
  refine .some r145 ?_
  refine .some r146 ?_
  refine .some r147 ?_
  refine .some r148 ?_
  refine .some r149 ?_
  refine .none ?_
  refine .none ?_
  refine .some r152 ?_
  refine .some r153 ?_
  refine .some r154 ?_
  refine .some r155 ?_
  refine .some r156 ?_
  refine .some r157 ?_
  refine .some r158 ?_
  refine .none ?_
  refine .some r160 ?_
  refine .none ?_
  refine .some r162 ?_
  refine .some r163 ?_
  refine .none ?_
  refine .some r165 ?_
  refine .some r166 ?_
  refine .some r167 ?_
  refine .some r168 ?_
  refine .some r169 ?_
  refine .none ?_
  refine .some r171 ?_
  refine .some r172 ?_
  refine .some r173 ?_
  refine .some r174 ?_
  exact .nil _

theorem table : Table Tryz.prog F mds where
  mixed := by kernel_rfl
  fns := fun f fn h => by
    have := good.get f fn h
    rw [Nat.zero_add] at this
    exact this

end Go.Proofs.YtpncefcicfhibaaGreatDoor.tab
