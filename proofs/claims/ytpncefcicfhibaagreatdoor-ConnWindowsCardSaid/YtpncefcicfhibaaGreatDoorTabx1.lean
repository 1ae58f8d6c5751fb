import Derived.Test.YtpncefcicfhibaaGreatDoorTab
import Derived.KernelRfl
set_option linter.unusedVariables false
set_option linter.unusedSimpArgs false
set_option linter.unusedSectionVars false
/- the functions of the seat, read off the program -/
namespace Go.Proofs.YtpncefcicfhibaaGreatDoor.tab
open Go hiding Fn
open Ev

def d74 : DFn := ⟨[(.c .one)], [(.c .one)], .pure, [.tmp 2],
(.seq (.reg false [
mK 2 (.bo false)] [])
(.seq (.reg false [
mV 3 0, ⟨some 4, none, [], .bin .no .geq (.t 3) (.k (.it .i64 0))⟩, mV 5 4, ⟨some 6, some (5, true), [], .mov (.t 0)⟩, ⟨some 7, some (5, true), [], .bin .no .leq (.t 6) (.k (.it .i64 65536))⟩, ⟨some 8, none, [], .pick (.t 5) (.t 7) (.k (.bo false))⟩, mV 2 8] [])
.ret))⟩
def c74 : Ev.Fn := d74.den
theorem r74 : OK 74 c74 := rd d74 { loc := [], md := .pure, mds := mds, heap := [], own := [], ord := [], clr := [], mask := [], fns := [], lcl := [], hnd := [], pro := [] } Tryz.func74

def d75 : DFn := ⟨[], [(.c (.sl [.one, .one]))], .pure, [.tmp 0],
(.seq (.reg false [
mK 0 .ns] [])
(.seq (.reg false [
mK 1 .ns] [])
(.seq (.seq (.reg false [
⟨some 7, none, [], .call false .pure 106 [(.k (.st [58, 97, 117, 116, 104, 111, 114, 105, 116, 121, 124, 58, 109, 101, 116, 104, 111, 100, 61, 71, 69, 84, 124, 58, 109, 101, 116, 104, 111, 100, 61, 80, 79, 83, 84, 124, 58, 112, 97, 116, 104, 61, 47, 124, 58, 112, 97, 116, 104, 61, 47, 105, 110, 100, 101, 120, 46, 104, 116, 109, 108, 124, 58, 115, 99, 104, 101, 109, 101, 61, 104, 116, 116, 112, 124, 58, 115, 99, 104, 101, 109, 101, 61, 104, 116, 116, 112, 115, 124, 58, 115, 116, 97, 116, 117, 115, 61, 50, 48, 48, 124, 58, 115, 116, 97, 116, 117, 115, 61, 50, 48, 52, 124, 58, 115, 116, 97, 116, 117, 115, 61, 50, 48, 54, 124, 58, 115, 116, 97, 116, 117, 115, 61, 51, 48, 52, 124, 58, 115, 116, 97, 116, 117, 115, 61, 52, 48, 48, 124, 58, 115, 116, 97, 116, 117, 115, 61, 52, 48, 52, 124, 58, 115, 116, 97, 116, 117, 115, 61, 53, 48, 48, 124, 97, 99, 99, 101, 112, 116, 45, 99, 104, 97, 114, 115, 101, 116, 124, 97, 99, 99, 101, 112, 116, 45, 101, 110, 99, 111, 100, 105, 110, 103, 61, 103, 122, 105, 112, 44, 32, 100, 101, 102, 108, 97, 116, 101, 124, 97, 99, 99, 101, 112, 116, 45, 108, 97, 110, 103, 117, 97, 103, 101, 124, 97, 99, 99, 101, 112, 116, 45, 114, 97, 110, 103, 101, 115, 124, 97, 99, 99, 101, 112, 116, 124, 97, 99, 99, 101, 115, 115, 45, 99, 111, 110, 116, 114, 111, 108, 45, 97, 108, 108, 111, 119, 45, 111, 114, 105, 103, 105, 110, 124, 97, 103, 101, 124, 97, 108, 108, 111, 119, 124, 97, 117, 116, 104, 111, 114, 105, 122, 97, 116, 105, 111, 110, 124, 99, 97, 99, 104, 101, 45, 99, 111, 110, 116, 114, 111, 108, 124, 99, 111, 110, 116, 101, 110, 116, 45, 100, 105, 115, 112, 111, 115, 105, 116, 105, 111, 110, 124, 99, 111, 110, 116, 101, 110, 116, 45, 101, 110, 99, 111, 100, 105, 110, 103, 124, 99, 111, 110, 116, 101, 110, 116, 45, 108, 97, 110, 103, 117, 97, 103, 101, 124, 99, 111, 110, 116, 101, 110, 116, 45, 108, 101, 110, 103, 116, 104, 124, 99, 111, 110, 116, 101, 110, 116, 45, 108, 111, 99, 97, 116, 105, 111, 110, 124, 99, 111, 110, 116, 101, 110, 116, 45, 114, 97, 110, 103, 101, 124, 99, 111, 110, 116, 101, 110, 116, 45, 116, 121, 112, 101, 124, 99, 111, 111, 107, 105, 101, 124, 100, 97, 116, 101, 124, 101, 116, 97, 103, 124, 101, 120, 112, 101, 99, 116, 124, 101, 120, 112, 105, 114, 101, 115, 124, 102, 114, 111, 109, 124, 104, 111, 115, 116, 124, 105, 102, 45, 109, 97, 116, 99, 104, 124, 105, 102, 45, 109, 111, 100, 105, 102, 105, 101, 100, 45, 115, 105, 110, 99, 101, 124, 105, 102, 45, 110, 111, 110, 101, 45, 109, 97, 116, 99, 104, 124, 105, 102, 45, 114, 97, 110, 103, 101, 124, 105, 102, 45, 117, 110, 109, 111, 100, 105, 102, 105, 101, 100, 45, 115, 105, 110, 99, 101, 124, 108, 97, 115, 116, 45, 109, 111, 100, 105, 102, 105, 101, 100, 124, 108, 105, 110, 107, 124, 108, 111, 99, 97, 116, 105, 111, 110, 124, 109, 97, 120, 45, 102, 111, 114, 119, 97, 114, 100, 115, 124, 112, 114, 111, 120, 121, 45, 97, 117, 116, 104, 101, 110, 116, 105, 99, 97, 116, 101, 124, 112, 114, 111, 120, 121, 45, 97, 117, 116, 104, 111, 114, 105, 122, 97, 116, 105, 111, 110, 124, 114, 97, 110, 103, 101, 124, 114, 101, 102, 101, 114, 101, 114, 124, 114, 101, 102, 114, 101, 115, 104, 124, 114, 101, 116, 114, 121, 45, 97, 102, 116, 101, 114, 124, 115, 101, 114, 118, 101, 114, 124, 115, 101, 116, 45, 99, 111, 111, 107, 105, 101, 124, 115, 116, 114, 105, 99, 116, 45, 116, 114, 97, 110, 115, 112, 111, 114, 116, 45, 115, 101, 99, 117, 114, 105, 116, 121, 124, 116, 114, 97, 110, 115, 102, 101, 114, 45, 101, 110, 99, 111, 100, 105, 110, 103, 124, 117, 115, 101, 114, 45, 97, 103, 101, 110, 116, 124, 118, 97, 114, 121, 124, 118, 105, 97, 124, 119, 119, 119, 45, 97, 117, 116, 104, 101, 110, 116, 105, 99, 97, 116, 101])), (.k (.st [124]))]⟩, lN 8 false 7, mK 9 (.it .i64 0)] [])
(.blk 0 (.loop [1, 7, 8, 9] []
(.seq (.reg false [
⟨some 10, none, [], .bin .no .lss (.t 9) (.t 8)⟩] [])
(.seq (.cond (.t 10)
.skip
(.exit 0))
(.seq (.blk 1 (.seq (.reg false [
⟨some 11, none, [], .ias 1 (.t 7) (.t 9)⟩, lD 12 1 11, mV 3 12] [])
(.seq (.reg false [
mV 14 3, ⟨some 15, none, [], .call false .pure 107 [(.t 14), (.k (.st [61]))]⟩, mV 13 15, eX 16 13 0, eX 17 13 1, eX 18 13 2, mV 4 16, mV 5 17, mV 6 18] [])
(.reg false [
mV 19 1, mV 20 4, mV 21 5, ⟨some 22, none, [], .bld [(.st []), (.st [])] [(0, 1, (.t 20)), (1, 1, (.t 21))]⟩, ⟨some 23, none, [], .bsv [.one, .one] 2 [[(.st []), (.st [])]] [(0, (.t 22))]⟩, ⟨some 24, none, [], .app 2 32 (.t 19) (.t 23)⟩, mV 1 24] []))))
(.reg false [
⟨some 25, none, [], .bin .no .add (.t 9) (.k (.it .i64 1))⟩, mV 9 25] [])))))))
(.seq (.reg false [
mV 26 1, mV 0 26] [])
.ret))))⟩
def c75 : Ev.Fn := d75.den
theorem r75 : OK 75 c75 := rd d75 { loc := [], md := .pure, mds := mds, heap := [24], own := [24], ord := [(2, [2, 0, 1])], clr := [], mask := [(3, [1, 7, 8, 9], [])], fns := [], lcl := [], hnd := [], pro := [] } Tryz.func75

def d76 : DFn := ⟨[(.c .one)], [(.c (.sl [.one]))], .rw, [.tmp 2],
(.seq (.reg false [
mK 2 .ns] [])
(.seq (.seq (.reg false [
mV 4 0, nK 5 4, fA 6 1 5, lD 7 1 6] [])
(.cond (.t 7)
(.seq (.reg false [
mK 2 .ns] [])
.ret)
.skip))
(.seq (.reg false [
mK 3 .ns] [])
(.seq (.reg false [
mV 8 0, nK 9 8, fA 10 1 9, ⟨none, none, [], .sto 1 (.t 10) (.k (.bo true))⟩] [])
(.seq (.seq (.reg true [
mV 11 0, nK 12 11, fA 13 2 12, lD 14 1 13, mV 15 0, nK 16 15, fA 17 0 16, lD 18 1 17, ⟨some 19, none, [13], .call false .rw 108 [(.t 18)]⟩, ⟨some 20, none, [], .bin .no .lss (.t 14) (.t 19)⟩] [])
(.cond (.t 20)
(.reg false [
mV 21 3, mV 22 0, nK 23 22, fA 24 2 23, lD 25 1 24, cP 26 78 [(.t 21), (.k (.it .i64 5)), (.k (.it .u8 32)), (.t 25)], mV 3 26] [])
.skip))
(.seq (.reg false [
mV 27 3, mV 28 0, nK 29 28, fA 30 0 29, lD 31 1 30, cR 32 108 [(.t 31)], cP 33 78 [(.t 27), (.k (.it .i64 5)), (.k (.it .u8 32)), (.t 32)], mV 2 33] [])
.ret))))))⟩
def c76 : Ev.Fn := d76.den
theorem r76 : OK 76 c76 := rd d76 { loc := [], md := .rw, mds := mds, heap := [], own := [], ord := [], clr := [], mask := [], fns := [], lcl := [], hnd := [], pro := [] } Tryz.func76

def d77 : DFn := ⟨[(.c .one), (.g [.one, .one])], [(.c .one), (.c .one)], .rw, [.tmp 4, .tmp 5],
(.seq (.reg false [
⟨some 3, none, [], .box (.t 1)⟩, mK 4 (.it .i64 0), mK 5 (.bo false)] [])
(.seq (.reg false [
mK 6 (.it .i64 0)] [])
(.seq (.seq (.reg true [
mV 12 0, nK 13 12, fA 14 1 13, lD 15 1 14, mV 16 0, nK 17 16, fA 18 0 17, lD 19 1 18, mK 22 (.it .i64 0), ⟨some 20, none, [], .bsl 1 [[.ns], [.ns]] [(0, (.t 15)), (1, (.t 19))]⟩, lN 21 false 20] [])
(.blk 0 (.loop [0, 3, 6, 20, 21, 22] [10]
(.seq (.reg false [
⟨some 23, none, [], .bin .no .lss (.t 22) (.t 21)⟩] [])
(.seq (.cond (.t 23)
.skip
(.exit 0))
(.seq (.blk 1 (.seq (.reg false [
mV 24 22, ⟨some 25, none, [], .ias 1 (.t 20) (.t 22)⟩, lD 26 1 25, mV 7 24, mV 8 26] [])
(.seq (.reg false [
mV 27 8, lN 28 false 27, mK 29 (.it .i64 0)] [])
(.blk 2 (.loop [0, 3, 6, 7, 20, 21, 22, 27, 28, 29] [10]
(.seq (.reg false [
⟨some 30, none, [], .bin .no .lss (.t 29) (.t 28)⟩] [])
(.seq (.cond (.t 30)
.skip
(.exit 2))
(.seq (.blk 3 (.seq (.reg false [
mV 31 29, ⟨some 32, none, [], .ias 2 (.t 27) (.t 29)⟩, lQ 33 2 32, ⟨some 10, none, [], .alc [(.st []), (.st [])]⟩, mV 9 31, sO 2 10 33] [])
(.seq (.reg false [
mV 34 7, mV 35 0, nK 36 35, fA 37 1 36, lD 38 1 37, lN 39 false 38, ⟨some 40, none, [], .bin .no .mul (.t 34) (.t 39)⟩, mV 41 9, ⟨some 42, none, [], .bin .no .add (.t 40) (.t 41)⟩, ⟨some 43, none, [], .bin .no .add (.t 42) (.k (.it .i64 1))⟩, mV 11 43] [])
(.seq (.seq (.reg false [
lQ 44 2 10, lQ 45 2 3, ⟨some 46, none, [], .bin (.ag [1, 1]) .eql (.t 44) (.t 45)⟩] [])
(.cond (.t 46)
(.seq (.reg false [
mV 47 11, mV 4 47, mK 5 (.bo true)] [])
.ret)
.skip))
(.seq (.reg false [
fA 48 0 10, lD 49 1 48, fA 50 0 3, lD 51 1 50, ⟨some 52, none, [], .bin .no .eql (.t 49) (.t 51)⟩, mV 53 52, ⟨some 54, some (53, true), [], .mov (.t 6)⟩, ⟨some 55, some (53, true), [], .bin .no .eql (.t 54) (.k (.it .i64 0))⟩, ⟨some 56, none, [], .pick (.t 53) (.t 55) (.k (.bo false))⟩] [48, 50])
(.cond (.t 56)
(.reg false [
mV 57 11, mV 6 57] [])
.skip))))))
(.reg false [
⟨some 58, none, [], .bin .no .add (.t 29) (.k (.it .i64 1))⟩, mV 29 58] [])))))))))
(.reg false [
⟨some 59, none, [], .bin .no .add (.t 22) (.k (.it .i64 1))⟩, mV 22 59] [])))))))
(.seq (.reg false [
mV 60 6, mV 4 60, mK 5 (.bo false)] [])
.ret))))⟩
def c77 : Ev.Fn := d77.den
theorem r77 : OK 77 c77 := rd d77 { loc := [3, 10], md := .rw, mds := mds, heap := [20], own := [], ord := [(0, [1, 2, 0]), (2, [0, 1, 2, 3, 4, 5, 6, 7, 10, 8, 9])], clr := [(11, [48, 50])], mask := [(3, [0, 3, 6, 20, 21, 22], [10]), (6, [0, 3, 6, 7, 20, 21, 22, 27, 28, 29], [10])], fns := [], lcl := [], hnd := [], pro := [] } Tryz.func77

def d78 : DFn := ⟨[(.c (.sl [.one])), (.c .one), (.c .one), (.c .one)], [(.c (.sl [.one]))], .pure, [.tmp 8],
(.seq (.reg false [
mK 8 .ns] [])
(.seq (.reg false [
mV 11 0, lN 12 false 11, ⟨some 13, none, [], .bin .no .add (.t 12) (.k (.it .i64 1))⟩, ⟨some 14, none, [], .bin .no .add (.t 13) (.k (.it .i64 5))⟩, ⟨some 15, none, [], .mks 1 1 [(.it .u8 0)] (.k (.it .i64 0)) (.t 14)⟩, mV 9 15] [])
(.seq (.reg false [
mV 16 9, mV 17 0, ⟨some 18, none, [], .app 1 1 (.t 16) (.t 17)⟩, mV 9 18] [])
(.seq (.seq (.reg false [
mV 19 1, ⟨some 20, none, [], .bin .no .lss (.t 19) (.k (.it .i64 1))⟩, mV 21 20, ⟨some 22, some (21, false), [], .mov (.t 1)⟩, ⟨some 23, some (21, false), [], .bin .no .gtr (.t 22) (.k (.it .i64 8))⟩, ⟨some 24, none, [], .pick (.t 21) (.k (.bo true)) (.t 23)⟩, mV 25 24, ⟨some 26, some (25, false), [], .mov (.t 3)⟩, ⟨some 27, some (25, false), [], .bin .no .lss (.t 26) (.k (.it .i64 0))⟩, ⟨some 28, none, [], .pick (.t 25) (.k (.bo true)) (.t 27)⟩, mV 29 28, ⟨some 30, some (29, false), [], .mov (.t 3)⟩, ⟨some 31, some (29, false), [], .bin .no .gtr (.t 30) (.k (.it .i64 2147483647))⟩, ⟨some 32, none, [], .pick (.t 29) (.k (.bo true)) (.t 31)⟩] [])
(.cond (.t 32)
(.seq (.reg false [
mV 33 9, mV 8 33] [])
.ret)
.skip))
(.seq (.reg false [
mV 34 1, cP 35 109 [(.t 34)], mV 10 35] [])
(.seq (.seq (.reg false [
mV 36 3, mV 37 10, ⟨some 38, none, [], .bin .no .lss (.t 36) (.t 37)⟩] [])
(.cond (.t 38)
(.seq (.reg false [
mV 39 9, mV 40 2, mV 41 10, cV 42 .u8 41, ⟨some 43, none, [], .bin .no .andNot (.t 40) (.t 42)⟩, mV 44 3, cV 45 .u8 44, ⟨some 46, none, [], .bin .no .or (.t 43) (.t 45)⟩, ⟨some 47, none, [], .bsv [.one] 1 [[(.it .u8 0)]] [(0, (.t 46))]⟩, ⟨some 48, none, [], .app 1 1 (.t 39) (.t 47)⟩, mV 8 48] [])
.ret)
.skip))
(.seq (.reg false [
mV 49 9, mV 50 2, mV 51 10, cV 52 .u8 51, ⟨some 53, none, [], .bin .no .or (.t 50) (.t 52)⟩, ⟨some 54, none, [], .bsv [.one] 1 [[(.it .u8 0)]] [(0, (.t 53))]⟩, ⟨some 55, none, [], .app 1 1 (.t 49) (.t 54)⟩, mV 9 55] [])
(.seq (.reg false [
mV 56 3, mV 57 10, ⟨some 58, none, [], .bin .no .sub (.t 56) (.t 57)⟩, mV 3 58] [])
(.seq (.blk 0 (.loop [3, 9] []
(.seq (.seq (.reg false [
mV 59 3, ⟨some 60, none, [], .bin .no .geq (.t 59) (.k (.it .i64 128))⟩] [])
(.cond (.t 60)
.skip
(.exit 0)))
(.blk 1 (.seq (.reg false [
mV 61 9, mV 62 3, cV 63 .u8 62, ⟨some 64, none, [], .bin .no .or (.t 63) (.k (.it .u8 128))⟩, ⟨some 65, none, [], .bsv [.one] 1 [[(.it .u8 0)]] [(0, (.t 64))]⟩, ⟨some 66, none, [], .app 1 1 (.t 61) (.t 65)⟩, mV 9 66] [])
(.reg false [
mV 67 3, ⟨some 68, none, [], .bin .no .shr (.t 67) (.k (.it .u64 7))⟩, mV 3 68] []))))))
(.seq (.reg false [
mV 69 9, mV 70 3, cV 71 .u8 70, ⟨some 72, none, [], .bsv [.one] 1 [[(.it .u8 0)]] [(0, (.t 71))]⟩, ⟨some 73, none, [], .app 1 1 (.t 69) (.t 72)⟩, mV 8 73] [])
.ret))))))))))⟩
def c78 : Ev.Fn := d78.den
theorem r78 : OK 78 c78 := rd d78 { loc := [], md := .pure, mds := mds, heap := [18, 55, 66], own := [18, 55, 66], ord := [], clr := [], mask := [(10, [3, 9], [])], fns := [], lcl := [], hnd := [], pro := [] } Tryz.func78

def d79 : DFn := ⟨[(.c (.sl [.one])), (.c .one), (.c .one), (.c .one), (.g [.one, .one])], [(.c (.sl [.one]))], .pure, [.tmp 10],
(.seq (.reg false [
⟨some 9, none, [], .box (.t 4)⟩, mK 10 .ns] [])
(.seq (.reg false [
mV 11 0, mV 12 2, mV 13 3, mV 14 1, cP 15 78 [(.t 11), (.t 12), (.t 13), (.t 14)], mV 0 15] [])
(.seq (.seq (.reg false [
mV 16 1, ⟨some 17, none, [], .bin .no .eql (.t 16) (.k (.it .i64 0))⟩] [])
(.cond (.t 17)
(.reg false [
mV 18 0, fA 19 0 9, lD 20 1 19, cP 21 110 [(.t 18), (.t 20)], mV 0 21] [19])
.skip))
(.seq (.reg false [
mV 22 0, fA 23 1 9, lD 24 1 23, cP 25 110 [(.t 22), (.t 24)], mV 10 25] [23])
.ret))))⟩
def c79 : Ev.Fn := d79.den
theorem r79 : OK 79 c79 := rd d79 { loc := [9], md := .pure, mds := mds, heap := [], own := [], ord := [(0, [1, 0])], clr := [(3, [19]), (4, [23])], mask := [], fns := [], lcl := [], hnd := [], pro := [] } Tryz.func79

def d80 : DFn := ⟨[(.c .one), (.g [.one, .one])], [], .rw, [],
(.seq (.reg false [
⟨some 3, none, [], .box (.t 1)⟩] [])
(.seq (.reg false [
lQ 5 2 3, cP 6 59 [(.t 5)], mV 4 6] [])
(.seq (.reg false [
mV 7 0, mV 8 0, nK 9 8, fA 10 3 9, lD 11 1 10, mV 12 4, ⟨some 13, none, [], .bin .no .sub (.t 11) (.t 12)⟩, cR 14 111 [(.t 7), (.t 13)]] [])
(.seq (.seq (.reg false [
mV 15 4, mV 16 0, nK 17 16, fA 18 3 17, lD 19 1 18, ⟨some 20, none, [], .bin .no .gtr (.t 15) (.t 19)⟩] [])
(.cond (.t 20)
.ret
.skip))
(.seq (.reg true [
mV 21 0, mV 22 0, nK 23 22, fA 24 0 23, lD 25 1 24, lQ 26 2 3, ⟨some 27, none, [], .bsl 2 [[(.st []), (.st [])]] [(0, (.t 26))]⟩, ⟨some 28, none, [], .call true .rw 112 [(.t 25), (.k (.it .i64 0)), (.t 27)]⟩, nK 29 21, fA 30 0 29, sO 1 30 28] [])
(.reg false [
mV 31 0, nK 32 31, fA 33 2 32, lD 34 1 33, mV 35 4, ⟨some 36, none, [], .bin .no .add (.t 34) (.t 35)⟩, nK 37 31, fA 38 2 37, sO 1 38 36] []))))))⟩
def c80 : Ev.Fn := d80.den
theorem r80 : OK 80 c80 := rd d80 { loc := [3], md := .rw, mds := mds, heap := [28, 27], own := [28], ord := [], clr := [], mask := [], fns := [], lcl := [], hnd := [], pro := [] } Tryz.func80

def d81 : DFn := ⟨[(.c .one), (.c .one)], [], .rw, [],
(.seq (.reg false [
mV 4 0, mV 5 1, ⟨some 6, none, [], .bld [(.it .i64 0), (.it .i64 0), (.it .i64 0)] [(0, 1, (.k (.it .i64 2))), (1, 1, (.t 5))]⟩, nK 7 4, fA 8 3 7, sO 3 8 6] [])
(.reg false [
mV 9 0, nK 10 9, fA 11 2 10, ⟨none, none, [], .sto 1 (.t 11) (.k .ns)⟩] []))⟩
def c81 : Ev.Fn := d81.den
theorem r81 : OK 81 c81 := rd d81 { loc := [], md := .rw, mds := mds, heap := [], own := [], ord := [], clr := [], mask := [], fns := [], lcl := [], hnd := [], pro := [] } Tryz.func81

def d82 : DFn := ⟨[(.g [.one, .one, .one, (.sl [.one])])], [(.c .one)], .pure, [.tmp 2],
(.seq (.reg false [
⟨some 1, none, [], .box (.t 0)⟩, mK 2 (.bo false)] [])
(.seq (.seq (.reg false [
fA 3 0 1, lD 4 1 3] [3])
(.blk 0 (.seq (.seq (.reg false [
⟨some 6, none, [], .bin .no .eql (.t 4) (.k (.it .i64 4))⟩, mV 5 6] [])
(.cond (.t 5)
.skip
(.seq (.reg false [
⟨some 7, none, [], .bin .no .eql (.t 4) (.k (.it .i64 6))⟩, mV 5 7] [])
(.cond (.t 5)
.skip
(.reg false [
⟨some 8, none, [], .bin .no .eql (.t 4) (.k (.it .i64 7))⟩, mV 5 8] [])))))
(.cond (.t 5)
(.seq (.reg false [
fA 9 2 1, lD 10 1 9, ⟨some 11, none, [], .bin .no .neq (.t 10) (.k (.it .i64 0))⟩, mV 2 11] [9])
.ret)
(.seq (.reg false [
⟨some 13, none, [], .bin .no .eql (.t 4) (.k (.it .i64 8))⟩, mV 12 13] [])
(.cond (.t 12)
(.seq (.reg false [
mK 2 (.bo false)] [])
.ret)
(.seq (.reg false [
⟨some 15, none, [], .bin .no .eql (.t 4) (.k (.it .i64 5))⟩, mV 14 15] [])
(.cond (.t 14)
(.seq (.reg false [
mK 2 (.bo true)] [])
.ret)
.skip))))))))
(.seq (.reg false [
fA 16 2 1, lD 17 1 16, ⟨some 18, none, [], .bin .no .eql (.t 17) (.k (.it .i64 0))⟩, mV 2 18] [16])
.ret)))⟩
def c82 : Ev.Fn := d82.den
theorem r82 : OK 82 c82 := rd d82 { loc := [1], md := .pure, mds := mds, heap := [], own := [], ord := [(0, [1, 0])], clr := [(1, [3]), (5, [9]), (10, [16])], mask := [], fns := [], lcl := [], hnd := [], pro := [] } Tryz.func82

def d83 : DFn := ⟨[(.c .one)], [(.g [.one, .one, .one])], .pure, [.cell 2 3 true],
(.seq (.reg false [
⟨some 2, none, [], .alc [(.it .i64 0), (.it .i64 0), (.it .i64 0)]⟩] [])
(.seq (.reg false [
mV 3 0, ⟨some 4, none, [], .bld [(.it .i64 0), (.it .i64 0), (.it .i64 0)] [(0, 1, (.k (.it .i64 2))), (1, 1, (.t 3))]⟩, sO 3 2 4] [])
.ret))⟩
def c83 : Ev.Fn := d83.den
theorem r83 : OK 83 c83 := rd d83 { loc := [2], md := .pure, mds := mds, heap := [], own := [], ord := [], clr := [], mask := [], fns := [], lcl := [], hnd := [], pro := [] } Tryz.func83

def d84 : DFn := ⟨[(.g [.one, .one, .one, (.sl [.one])]), (.g [.one, .one, .one, .one, .one, (.sl [.one]), .one, .one, .one, .one, (.sl [.one, .one])])], [(.g [.one, .one, .one, .one, .one, (.sl [.one]), .one, .one, .one, .one, (.sl [.one, .one])]), (.g [.one, .one, .one])], .pure, [.cell 4 11 true, .cell 5 3 true],
(.seq (.reg false [
⟨some 2, none, [], .box (.t 0)⟩, ⟨some 3, none, [], .box (.t 1)⟩, ⟨some 4, none, [], .alc [(.it .i64 0), (.it .i64 0), (.bo false), (.bo false), (.bo false), .ns, (.it .i64 0), (.it .i64 0), (.it .i64 0), (.it .i64 0), .ns]⟩, ⟨some 5, none, [], .alc [(.it .i64 0), (.it .i64 0), (.it .i64 0)]⟩] [])
(.seq (.reg false [
lQ 10 4 2, cP 11 113 [(.t 10)], mV 9 11, eX 12 9 0, eX 13 9 1, eX 14 9 2, mV 6 12, mV 7 13, mV 8 14] [])
(.seq (.seq (.reg false [
mV 15 8, ⟨some 16, none, [], .un .not (.t 15)⟩] [])
(.cond (.t 16)
(.seq (.reg false [
⟨some 17, none, [], .bld [(.it .i64 0), (.it .i64 0), (.bo false), (.bo false), (.bo false), .ns, (.it .i64 0), (.it .i64 0), (.it .i64 0), (.it .i64 0), .ns] []⟩, cP 18 83 [(.k (.it .i64 6))], sO 11 4 17, sO 3 5 18] [])
.ret)
.skip))
(.seq (.seq (.reg false [
mV 19 6, mV 20 7, lN 21 false 20, ⟨some 22, none, [], .bin .no .gtr (.t 19) (.t 21)⟩] [])
(.cond (.t 22)
(.seq (.reg false [
⟨some 23, none, [], .bld [(.it .i64 0), (.it .i64 0), (.bo false), (.bo false), (.bo false), .ns, (.it .i64 0), (.it .i64 0), (.it .i64 0), (.it .i64 0), .ns] []⟩, cP 24 83 [(.k (.it .i64 1))], sO 11 4 23, sO 3 5 24] [])
.ret)
.skip))
(.seq (.reg true [
fA 25 1 2, lD 26 1 25, ⟨some 27, none, [], .bin .no .and (.t 26) (.k (.it .i64 1))⟩, ⟨some 28, none, [], .bin .no .neq (.t 27) (.k (.it .i64 0))⟩, fA 29 3 2, lD 30 1 29, lN 31 false 30, mV 32 7, mV 33 7, lN 34 false 33, mV 35 6, ⟨some 36, none, [], .bin .no .sub (.t 34) (.t 35)⟩, ⟨some 37, none, [], .slc false 1 (.t 32) none (some (.t 36))⟩, fA 39 2 3, cP 38 89 [(.t 37)], ⟨none, none, [29], .sto 1 (.t 39) (.t 28)⟩, fA 40 9 3, sO 1 40 31, fA 41 5 3, sO 1 41 38] [25, 29, 39, 40, 41])
(.seq (.reg false [
lQ 42 11 3, ⟨some 43, none, [], .bld [(.it .i64 0), (.it .i64 0), (.it .i64 0)] []⟩, sO 11 4 42, sO 3 5 43] [])
.ret))))))⟩
def c84 : Ev.Fn := d84.den
theorem r84 : OK 84 c84 := rd d84 { loc := [2, 3, 4, 5], md := .pure, mds := mds, heap := [], own := [], ord := [(6, [0, 1, 2, 3, 4, 5, 6, 7, 8, 9, 10, 11, 12, 14, 13, 15, 16, 17, 18, 19])], clr := [(6, [25, 29, 39, 40, 41])], mask := [], fns := [], lcl := [], hnd := [], pro := [] } Tryz.func84

def d85 : DFn := ⟨[(.g [.one, .one, .one, (.sl [.one])]), (.g [.one, .one, .one, .one, .one, (.sl [.one]), .one, .one, .one, .one, (.sl [.one, .one])])], [(.g [.one, .one, .one, .one, .one, (.sl [.one]), .one, .one, .one, .one, (.sl [.one, .one])]), (.g [.one, .one, .one])], .pure, [.cell 4 11 true, .cell 5 3 true],
(.seq (.reg false [
⟨some 2, none, [], .box (.t 0)⟩, ⟨some 3, none, [], .box (.t 1)⟩, ⟨some 4, none, [], .alc [(.it .i64 0), (.it .i64 0), (.bo false), (.bo false), (.bo false), .ns, (.it .i64 0), (.it .i64 0), (.it .i64 0), (.it .i64 0), .ns]⟩, ⟨some 5, none, [], .alc [(.it .i64 0), (.it .i64 0), (.it .i64 0)]⟩] [])
(.seq (.reg false [
lQ 10 4 2, cP 11 113 [(.t 10)], mV 9 11, eX 12 9 0, eX 13 9 1, eX 14 9 2, mV 6 12, mV 7 13, mV 8 14] [])
(.seq (.seq (.reg false [
mV 15 8, ⟨some 16, none, [], .un .not (.t 15)⟩] [])
(.cond (.t 16)
(.seq (.reg false [
⟨some 17, none, [], .bld [(.it .i64 0), (.it .i64 0), (.bo false), (.bo false), (.bo false), .ns, (.it .i64 0), (.it .i64 0), (.it .i64 0), (.it .i64 0), .ns] []⟩, cP 18 83 [(.k (.it .i64 6))], sO 11 4 17, sO 3 5 18] [])
.ret)
.skip))
(.seq (.seq (.reg false [
fA 19 1 2, lD 20 1 19, ⟨some 21, none, [], .bin .no .and (.t 20) (.k (.it .i64 32))⟩, ⟨some 22, none, [], .bin .no .neq (.t 21) (.k (.it .i64 0))⟩] [19])
(.cond (.t 22)
(.seq (.seq (.reg false [
mV 23 7, lN 24 false 23, ⟨some 25, none, [], .bin .no .lss (.t 24) (.k (.it .i64 5))⟩] [])
(.cond (.t 25)
(.seq (.reg false [
⟨some 26, none, [], .bld [(.it .i64 0), (.it .i64 0), (.bo false), (.bo false), (.bo false), .ns, (.it .i64 0), (.it .i64 0), (.it .i64 0), (.it .i64 0), .ns] []⟩, cP 27 83 [(.k (.it .i64 6))], sO 11 4 26, sO 3 5 27] [])
.ret)
.skip))
(.seq (.seq (.reg true [
mV 28 7, fA 30 2 2, lD 31 1 30, cP 29 90 [(.t 28)], ⟨some 32, none, [], .bin .no .eql (.t 29) (.t 31)⟩] [30])
(.cond (.t 32)
(.seq (.reg false [
⟨some 33, none, [], .bld [(.it .i64 0), (.it .i64 0), (.bo false), (.bo false), (.bo false), .ns, (.it .i64 0), (.it .i64 0), (.it .i64 0), (.it .i64 0), .ns] []⟩, fA 34 2 2, lD 35 1 34, cP 36 114 [(.k (.it .i64 1)), (.t 35)], sO 11 4 33, sO 3 5 36] [34])
.ret)
.skip))
(.reg false [
mV 37 7, ⟨some 38, none, [], .slc false 1 (.t 37) (some (.k (.it .i64 5))) none⟩, mV 7 38] [])))
.skip))
(.seq (.seq (.reg false [
mV 39 6, mV 40 7, lN 41 false 40, ⟨some 42, none, [], .bin .no .gtr (.t 39) (.t 41)⟩] [])
(.cond (.t 42)
(.seq (.reg false [
⟨some 43, none, [], .bld [(.it .i64 0), (.it .i64 0), (.bo false), (.bo false), (.bo false), .ns, (.it .i64 0), (.it .i64 0), (.it .i64 0), (.it .i64 0), .ns] []⟩, cP 44 83 [(.k (.it .i64 1))], sO 11 4 43, sO 3 5 44] [])
.ret)
.skip))
(.seq (.reg true [
fA 45 1 2, lD 46 1 45, ⟨some 47, none, [], .bin .no .and (.t 46) (.k (.it .i64 1))⟩, ⟨some 48, none, [], .bin .no .neq (.t 47) (.k (.it .i64 0))⟩, fA 49 1 2, lD 50 1 49, ⟨some 51, none, [], .bin .no .and (.t 50) (.k (.it .i64 4))⟩, ⟨some 52, none, [], .bin .no .neq (.t 51) (.k (.it .i64 0))⟩, mV 53 7, mV 54 7, lN 55 false 54, mV 56 6, ⟨some 57, none, [], .bin .no .sub (.t 55) (.t 56)⟩, ⟨some 58, none, [], .slc false 1 (.t 53) none (some (.t 57))⟩, fA 60 2 3, cP 59 89 [(.t 58)], ⟨none, none, [49], .sto 1 (.t 60) (.t 48)⟩, fA 61 3 3, sO 1 61 52, fA 62 5 3, sO 1 62 59] [45, 49, 60, 61, 62])
(.seq (.reg false [
lQ 63 11 3, ⟨some 64, none, [], .bld [(.it .i64 0), (.it .i64 0), (.it .i64 0)] []⟩, sO 11 4 63, sO 3 5 64] [])
.ret)))))))⟩
def c85 : Ev.Fn := d85.den
theorem r85 : OK 85 c85 := rd d85 { loc := [2, 3, 4, 5], md := .pure, mds := mds, heap := [], own := [], ord := [(7, [0, 2, 3, 1, 4]), (12, [0, 1, 2, 3, 4, 5, 6, 7, 8, 9, 10, 11, 12, 13, 15, 14, 16, 17, 18, 19, 20])], clr := [(4, [19]), (7, [30]), (8, [34]), (12, [45, 49, 60, 61, 62])], mask := [], fns := [], lcl := [], hnd := [], pro := [] } Tryz.func85

def d86 : DFn := ⟨[(.g [.one, .one, .one, (.sl [.one])]), (.g [.one, .one, .one, .one, .one, (.sl [.one]), .one, .one, .one, .one, (.sl [.one, .one])])], [(.g [.one, .one, .one, .one, .one, (.sl [.one]), .one, .one, .one, .one, (.sl [.one, .one])]), (.g [.one, .one, .one])], .pure, [.cell 4 11 true, .cell 5 3 true],
(.seq (.reg false [
⟨some 2, none, [], .box (.t 0)⟩, ⟨some 3, none, [], .box (.t 1)⟩, ⟨some 4, none, [], .alc [(.it .i64 0), (.it .i64 0), (.bo false), (.bo false), (.bo false), .ns, (.it .i64 0), (.it .i64 0), (.it .i64 0), (.it .i64 0), .ns]⟩, ⟨some 5, none, [], .alc [(.it .i64 0), (.it .i64 0), (.it .i64 0)]⟩] [])
(.seq (.seq (.reg false [
fA 6 3 2, lD 7 1 6, lN 8 false 7, ⟨some 9, none, [], .bin .no .neq (.t 8) (.k (.it .i64 5))⟩] [6])
(.cond (.t 9)
(.seq (.reg false [
⟨some 10, none, [], .bld [(.it .i64 0), (.it .i64 0), (.bo false), (.bo false), (.bo false), .ns, (.it .i64 0), (.it .i64 0), (.it .i64 0), (.it .i64 0), .ns] []⟩, fA 11 2 2, lD 12 1 11, cP 13 114 [(.k (.it .i64 6)), (.t 12)], sO 11 4 10, sO 3 5 13] [11])
.ret)
.skip))
(.seq (.seq (.reg true [
fA 14 3 2, lD 15 1 14, fA 17 2 2, lD 18 1 17, cP 16 90 [(.t 15)], ⟨some 19, none, [], .bin .no .eql (.t 16) (.t 18)⟩] [14, 17])
(.cond (.t 19)
(.seq (.reg false [
⟨some 20, none, [], .bld [(.it .i64 0), (.it .i64 0), (.bo false), (.bo false), (.bo false), .ns, (.it .i64 0), (.it .i64 0), (.it .i64 0), (.it .i64 0), .ns] []⟩, fA 21 2 2, lD 22 1 21, cP 23 114 [(.k (.it .i64 1)), (.t 22)], sO 11 4 20, sO 3 5 23] [21])
.ret)
.skip))
(.seq (.reg false [
lQ 24 11 3, ⟨some 25, none, [], .bld [(.it .i64 0), (.it .i64 0), (.it .i64 0)] []⟩, sO 11 4 24, sO 3 5 25] [])
.ret))))⟩
def c86 : Ev.Fn := d86.den
theorem r86 : OK 86 c86 := rd d86 { loc := [2, 3, 4, 5], md := .pure, mds := mds, heap := [], own := [], ord := [(3, [0, 1, 3, 4, 2, 5])], clr := [(1, [6]), (2, [11]), (3, [14, 17]), (4, [21])], mask := [], fns := [], lcl := [], hnd := [], pro := [] } Tryz.func86

def d87 : DFn := ⟨[(.c (.sl [.one]))], [(.c .one)], .pure, [.tmp 2],
(.seq (.reg false [
mK 2 (.it .i64 0)] [])
(.seq (.reg true [
mV 3 0, ⟨some 4, none, [], .ias 1 (.t 3) (.k (.it .i64 0))⟩, lD 5 1 4, cV 6 .i64 5, ⟨some 7, none, [], .bin .no .shl (.t 6) (.k (.it .u64 24))⟩, mV 8 0, ⟨some 9, none, [], .ias 1 (.t 8) (.k (.it .i64 1))⟩, lD 10 1 9, cV 11 .i64 10, ⟨some 12, none, [], .bin .no .shl (.t 11) (.k (.it .u64 16))⟩, ⟨some 13, none, [], .bin .no .or (.t 7) (.t 12)⟩, mV 14 0, ⟨some 15, none, [], .ias 1 (.t 14) (.k (.it .i64 2))⟩, lD 16 1 15, cV 17 .i64 16, ⟨some 18, none, [], .bin .no .shl (.t 17) (.k (.it .u64 8))⟩, ⟨some 19, none, [], .bin .no .or (.t 13) (.t 18)⟩, mV 20 0, ⟨some 21, none, [], .ias 1 (.t 20) (.k (.it .i64 3))⟩, lD 22 1 21, cV 23 .i64 22, ⟨some 24, none, [], .bin .no .or (.t 19) (.t 23)⟩, mV 2 24] [])
.ret))⟩
def c87 : Ev.Fn := d87.den
theorem r87 : OK 87 c87 := rd d87 { loc := [], md := .pure, mds := mds, heap := [], own := [], ord := [], clr := [], mask := [], fns := [], lcl := [], hnd := [], pro := [] } Tryz.func87

def d88 : DFn := ⟨[(.g [.one, .one, .one, (.sl [.one])]), (.g [.one, .one, .one, .one, .one, (.sl [.one]), .one, .one, .one, .one, (.sl [.one, .one])])], [(.g [.one, .one, .one, .one, .one, (.sl [.one]), .one, .one, .one, .one, (.sl [.one, .one])]), (.g [.one, .one, .one])], .rw, [.cell 4 11 true, .cell 5 3 true],
(.seq (.reg false [
⟨some 2, none, [], .box (.t 0)⟩, ⟨some 3, none, [], .box (.t 1)⟩, ⟨some 4, none, [], .alc [(.it .i64 0), (.it .i64 0), (.bo false), (.bo false), (.bo false), .ns, (.it .i64 0), (.it .i64 0), (.it .i64 0), (.it .i64 0), .ns]⟩, ⟨some 5, none, [], .alc [(.it .i64 0), (.it .i64 0), (.it .i64 0)]⟩] [])
(.seq (.reg false [
fA 9 1 2, lD 10 1 9, ⟨some 11, none, [], .bin .no .and (.t 10) (.k (.it .i64 1))⟩, ⟨some 12, none, [], .bin .no .neq (.t 11) (.k (.it .i64 0))⟩, fA 13 4 3, sO 1 13 12] [9, 13])
(.seq (.reg false [
fA 14 3 2, lD 15 1 14, mV 6 15] [14])
(.seq (.seq (.reg false [
fA 16 4 3, lD 17 1 16, mV 18 17, ⟨some 19, some (18, true), [], .mov (.t 6)⟩, ⟨some 20, some (18, true), [], .len false (.t 19)⟩, ⟨some 21, some (18, true), [], .bin .no .gtr (.t 20) (.k (.it .i64 0))⟩, ⟨some 22, none, [], .pick (.t 18) (.t 21) (.k (.bo false))⟩, mV 23 22, ⟨some 24, some (23, false), [], .mov (.t 6)⟩, ⟨some 25, some (23, false), [], .len false (.t 24)⟩, ⟨some 26, some (23, false), [], .bin .no .rem (.t 25) (.k (.it .i64 6))⟩, ⟨some 27, some (23, false), [], .bin .no .neq (.t 26) (.k (.it .i64 0))⟩, ⟨some 28, none, [], .pick (.t 23) (.k (.bo true)) (.t 27)⟩] [16])
(.cond (.t 28)
(.seq (.reg false [
⟨some 29, none, [], .bld [(.it .i64 0), (.it .i64 0), (.bo false), (.bo false), (.bo false), .ns, (.it .i64 0), (.it .i64 0), (.it .i64 0), (.it .i64 0), .ns] []⟩, cP 30 83 [(.k (.it .i64 6))], sO 11 4 29, sO 3 5 30] [])
.ret)
.skip))
(.seq (.blk 0 (.loop [3, 4, 5, 6] [2, 7]
(.seq (.seq (.reg false [
mV 31 6, lN 32 false 31, ⟨some 33, none, [], .bin .no .gtr (.t 32) (.k (.it .i64 0))⟩] [])
(.cond (.t 33)
.skip
(.exit 0)))
(.seq (.blk 1 (.seq (.reg true [
mV 36 6, ⟨some 37, none, [], .ias 1 (.t 36) (.k (.it .i64 0))⟩, lD 38 1 37, cV 39 .i64 38, ⟨some 40, none, [], .bin .no .shl (.t 39) (.k (.it .u64 8))⟩, mV 41 6, ⟨some 42, none, [], .ias 1 (.t 41) (.k (.it .i64 1))⟩, lD 43 1 42, cV 44 .i64 43, ⟨some 45, none, [], .bin .no .or (.t 40) (.t 44)⟩, mV 46 6, ⟨some 47, none, [], .slc false 1 (.t 46) (some (.k (.it .i64 2))) none⟩, ⟨some 7, none, [36, 37, 38, 41, 42, 43, 46], .alc [(.it .i64 0), (.it .i64 0)]⟩, cP 48 87 [(.t 47)], ⟨some 49, none, [], .bld [(.it .i64 0), (.it .i64 0)] [(0, 1, (.t 45)), (1, 1, (.t 48))]⟩, sO 2 7 49] [])
(.seq (.seq (.reg false [
lQ 50 2 7, cP 51 115 [(.t 50)], mV 8 51] [])
(.seq (.reg false [
mV 52 8, ⟨some 53, none, [], .bin .no .neq (.t 52) (.k (.it .i64 0))⟩] [])
(.cond (.t 53)
(.seq (.reg false [
⟨some 54, none, [], .bld [(.it .i64 0), (.it .i64 0), (.bo false), (.bo false), (.bo false), .ns, (.it .i64 0), (.it .i64 0), (.it .i64 0), (.it .i64 0), .ns] []⟩, mV 55 8, cP 56 83 [(.t 55)], sO 11 4 54, sO 3 5 56] [])
.ret)
.skip)))
(.reg false [
fA 57 10 3, lD 58 1 57, lQ 59 2 7, ⟨some 60, none, [], .bsv [.one, .one] 2 [[(.it .i64 0), (.it .i64 0)]] [(0, (.t 59))]⟩, ⟨some 61, none, [], .app 2 16 (.t 58) (.t 60)⟩, fA 62 10 3, sO 1 62 61] [57, 62]))))
(.reg false [
mV 34 6, ⟨some 35, none, [], .slc false 1 (.t 34) (some (.k (.it .i64 6))) none⟩, mV 6 35] [])))))
(.seq (.reg false [
lQ 63 11 3, ⟨some 64, none, [], .bld [(.it .i64 0), (.it .i64 0), (.it .i64 0)] []⟩, sO 11 4 63, sO 3 5 64] [])
.ret))))))⟩
def c88 : Ev.Fn := d88.den
theorem r88 : OK 88 c88 := rd d88 { loc := [2, 3, 4, 5, 7], md := .rw, mds := mds, heap := [], own := [], ord := [(7, [0, 1, 2, 3, 4, 5, 6, 7, 8, 9, 10, 11, 14, 12, 13, 15])], clr := [(1, [9, 13]), (2, [14]), (3, [16]), (11, [57, 62])], mask := [(5, [3, 4, 5, 6], [2, 7])], fns := [], lcl := [], hnd := [], pro := [] } Tryz.func88

def d89 : DFn := ⟨[(.c (.sl [.one]))], [(.c (.sl [.one]))], .pure, [.tmp 2],
(.seq (.reg false [
mK 2 .ns] [])
(.seq (.reg false [
mV 3 0, ⟨some 4, none, [], .app 1 1 (.k .ns) (.t 3)⟩, mV 2 4] [])
.ret))⟩
def c89 : Ev.Fn := d89.den
theorem r89 : OK 89 c89 := rd d89 { loc := [], md := .pure, mds := mds, heap := [], own := [], ord := [], clr := [], mask := [], fns := [], lcl := [], hnd := [], pro := [] } Tryz.func89

def d90 : DFn := ⟨[(.c (.sl [.one]))], [(.c .one)], .pure, [.tmp 2],
(.seq (.reg false [
mK 2 (.it .i64 0)] [])
(.seq (.reg false [
mV 3 0, cP 4 87 [(.t 3)], ⟨some 5, none, [], .bin .no .and (.t 4) (.k (.it .i64 2147483647))⟩, mV 2 5] [])
.ret))⟩
def c90 : Ev.Fn := d90.den
theorem r90 : OK 90 c90 := rd d90 { loc := [], md := .pure, mds := mds, heap := [], own := [], ord := [], clr := [], mask := [], fns := [], lcl := [], hnd := [], pro := [] } Tryz.func90

def d91 : DFn := ⟨[(.g [.one, .one, .one, (.sl [.one])]), (.g [.one, .one, .one, .one, .one, (.sl [.one]), .one, .one, .one, .one, (.sl [.one, .one])])], [(.g [.one, .one, .one, .one, .one, (.sl [.one]), .one, .one, .one, .one, (.sl [.one, .one])]), (.g [.one, .one, .one])], .pure, [.cell 4 11 true, .cell 5 3 true],
(.seq (.reg false [
⟨some 2, none, [], .box (.t 0)⟩, ⟨some 3, none, [], .box (.t 1)⟩, ⟨some 4, none, [], .alc [(.it .i64 0), (.it .i64 0), (.bo false), (.bo false), (.bo false), .ns, (.it .i64 0), (.it .i64 0), (.it .i64 0), (.it .i64 0), .ns]⟩, ⟨some 5, none, [], .alc [(.it .i64 0), (.it .i64 0), (.it .i64 0)]⟩] [])
(.seq (.seq (.reg false [
fA 6 3 2, lD 7 1 6, lN 8 false 7, ⟨some 9, none, [], .bin .no .neq (.t 8) (.k (.it .i64 4))⟩] [6])
(.cond (.t 9)
(.seq (.reg false [
⟨some 10, none, [], .bld [(.it .i64 0), (.it .i64 0), (.bo false), (.bo false), (.bo false), .ns, (.it .i64 0), (.it .i64 0), (.it .i64 0), (.it .i64 0), .ns] []⟩, cP 11 83 [(.k (.it .i64 6))], sO 11 4 10, sO 3 5 11] [])
.ret)
.skip))
(.seq (.reg false [
fA 12 3 2, lD 13 1 12, cP 14 90 [(.t 13)], fA 15 8 3, sO 1 15 14] [12, 15])
(.seq (.seq (.reg false [
fA 16 8 3, lD 17 1 16, ⟨some 18, none, [], .bin .no .gtr (.t 17) (.k (.it .i64 0))⟩] [16])
(.cond (.t 18)
(.seq (.reg false [
lQ 19 11 3, ⟨some 20, none, [], .bld [(.it .i64 0), (.it .i64 0), (.it .i64 0)] []⟩, sO 11 4 19, sO 3 5 20] [])
.ret)
.skip))
(.seq (.seq (.reg false [
fA 21 2 2, lD 22 1 21, ⟨some 23, none, [], .bin .no .eql (.t 22) (.k (.it .i64 0))⟩] [21])
(.cond (.t 23)
(.seq (.reg false [
⟨some 24, none, [], .bld [(.it .i64 0), (.it .i64 0), (.bo false), (.bo false), (.bo false), .ns, (.it .i64 0), (.it .i64 0), (.it .i64 0), (.it .i64 0), .ns] []⟩, cP 25 83 [(.k (.it .i64 1))], sO 11 4 24, sO 3 5 25] [])
.ret)
.skip))
(.seq (.reg false [
⟨some 26, none, [], .bld [(.it .i64 0), (.it .i64 0), (.bo false), (.bo false), (.bo false), .ns, (.it .i64 0), (.it .i64 0), (.it .i64 0), (.it .i64 0), .ns] []⟩, fA 27 2 2, lD 28 1 27, cP 29 114 [(.k (.it .i64 1)), (.t 28)], sO 11 4 26, sO 3 5 29] [27])
.ret))))))⟩
def c91 : Ev.Fn := d91.den
theorem r91 : OK 91 c91 := rd d91 { loc := [2, 3, 4, 5], md := .pure, mds := mds, heap := [], own := [], ord := [], clr := [(1, [6]), (3, [12, 15]), (4, [16]), (6, [21]), (8, [27])], mask := [], fns := [], lcl := [], hnd := [], pro := [] } Tryz.func91

def d92 : DFn := ⟨[(.c .one), (.c .one)], [(.c .one)], .rw, [.tmp 4],
(.seq (.reg false [
mK 4 (.bo false)] [])
(.seq (.seq (.reg false [
mV 5 1, ⟨some 6, none, [], .bin .no .rem (.t 5) (.k (.it .i64 2))⟩, ⟨some 7, none, [], .bin .no .eql (.t 6) (.k (.it .i64 0))⟩] [])
(.cond (.t 7)
(.seq (.reg false [
mK 4 (.bo true)] [])
.ret)
.skip))
(.seq (.seq (.reg false [
mV 8 0, nK 9 8, fA 10 0 9, lD 11 1 10] [])
(.cond (.t 11)
(.seq (.reg false [
mV 12 1, mV 13 0, nK 14 13, fA 15 16 14, lD 16 1 15, ⟨some 17, none, [], .bin .no .gtr (.t 12) (.t 16)⟩, mV 4 17] [])
.ret)
.skip))
(.seq (.reg false [
mV 18 1, mV 19 0, nK 20 19, fA 21 17 20, lD 22 1 21, ⟨some 23, none, [], .bin .no .geq (.t 18) (.t 22)⟩, mV 4 23] [])
.ret))))⟩
def c92 : Ev.Fn := d92.den
theorem r92 : OK 92 c92 := rd d92 { loc := [], md := .rw, mds := mds, heap := [], own := [], ord := [], clr := [], mask := [], fns := [], lcl := [], hnd := [], pro := [] } Tryz.func92

def d93 : DFn := ⟨[(.c .one), (.c .one)], [(.c .one)], .rw, [.tmp 4],
(.seq (.reg false [
mK 4 (.bo false)] [])
(.seq (.reg false [
mV 5 0, nK 6 5, fA 7 18 6, lD 8 1 7, mV 9 1, cP 10 116 [(.t 8), (.t 9)], mV 4 10] [])
.ret))⟩
def c93 : Ev.Fn := d93.den
theorem r93 : OK 93 c93 := rd d93 { loc := [], md := .rw, mds := mds, heap := [], own := [], ord := [], clr := [], mask := [], fns := [], lcl := [], hnd := [], pro := [] } Tryz.func93

def d94 : DFn := ⟨[(.c .one), (.c .one), (.c .one)], [(.c .one)], .rw, [.tmp 6],
(.seq (.reg false [
mK 6 (.bo false)] [])
(.seq (.reg false [
mV 8 0, mV 9 1, cR 10 45 [(.t 8), (.t 9)], ⟨some 11, none, [], .bin .ptr .neq (.t 10) (.k .np)⟩, mV 7 11] [])
(.seq (.seq (.reg false [
mV 12 0, mV 13 1, mV 14 2, cR 15 53 [(.t 12), (.t 13), (.t 14)], ⟨some 16, none, [], .un .not (.t 15)⟩] [])
(.cond (.t 16)
(.seq (.reg false [
mK 6 (.bo false)] [])
.ret)
.skip))
(.seq (.seq (.reg false [
mV 17 7] [])
(.cond (.t 17)
(.reg false [
mV 18 0, mV 19 1, mV 20 2, ⟨some 21, none, [], .bld [(.it .i64 0), (.it .i64 0), .ns, (.st []), (.bo false), (.it .i64 0)] [(0, 1, (.k (.it .i64 4))), (1, 1, (.t 19)), (5, 1, (.t 20))]⟩, cR 22 68 [(.t 18), (.t 21)]] [])
.skip))
(.seq (.reg false [
mK 6 (.bo true)] [])
.ret)))))⟩
def c94 : Ev.Fn := d94.den
theorem r94 : OK 94 c94 := rd d94 { loc := [], md := .rw, mds := mds, heap := [], own := [], ord := [], clr := [], mask := [], fns := [], lcl := [], hnd := [], pro := [] } Tryz.func94

def d95 : DFn := ⟨[(.c .one), (.g [.one, .one, .one, .one, .one, (.sl [.one]), .one, .one, .one, .one, (.sl [.one, .one])])], [], .rw, [],
(.seq (.reg false [
⟨some 3, none, [], .box (.t 1)⟩] [])
(.seq (.seq (.reg false [
mV 7 0, fA 8 1 3, lD 9 1 8, cR 10 92 [(.t 7), (.t 9)]] [8])
(.cond (.t 10)
(.seq (.reg false [
mV 11 0, cR 12 44 [(.t 11), (.k (.it .i64 1))]] [])
.ret)
.skip))
(.seq (.reg false [
mK 4 (.bo false)] [])
(.seq (.seq (.reg true [
mV 14 0, mV 15 0, nK 16 15, fA 17 14 16, lQ 18 1 17, fA 19 9 3, lD 20 1 19, ⟨some 21, none, [], .call true .pure 48 [(.t 18), (.t 20)]⟩, mV 13 21, eX 22 13 0, eX 23 13 1, nK 24 14, fA 25 14 24, sO 1 25 22, mV 4 23] [19])
(.seq (.reg false [
mV 26 4, ⟨some 27, none, [], .un .not (.t 26)⟩] [])
(.cond (.t 27)
(.seq (.reg false [
mV 28 0, cR 29 44 [(.t 28), (.k (.it .i64 3))]] [])
.ret)
.skip)))
(.seq (.seq (.reg false [
mV 30 0, fA 31 1 3, lD 32 1 31, cR 33 93 [(.t 30), (.t 32)]] [31])
(.cond (.t 33)
(.seq (.reg false [
mV 34 0, fA 35 1 3, lD 36 1 35, fA 37 9 3, lD 38 1 37, cR 39 55 [(.t 34), (.t 36), (.t 38)]] [35, 37])
.ret)
.skip))
(.seq (.reg false [
mV 40 0, fA 41 1 3, lD 42 1 41, cR 43 45 [(.t 40), (.t 42)], mV 5 43] [41])
(.seq (.seq (.reg false [
mV 44 5, fA 45 9 3, lD 46 1 45, cR 47 117 [(.t 44), (.t 46)], mV 6 47] [45])
(.seq (.reg false [
mV 48 6, ⟨some 49, none, [], .bin .no .neq (.t 48) (.k (.it .i64 0))⟩] [])
(.cond (.t 49)
(.seq (.seq (.reg false [
mV 50 0, fA 51 1 3, lD 52 1 51, mV 53 6, cR 54 94 [(.t 50), (.t 52), (.t 53)]] [51])
(.cond (.t 54)
(.reg false [
mV 55 0, fA 56 1 3, lD 57 1 56, fA 58 9 3, lD 59 1 58, cR 60 55 [(.t 55), (.t 57), (.t 59)]] [56, 58])
.skip))
.ret)
.skip)))
(.seq (.reg true [
mV 62 5, mV 63 5, nK 64 63, fA 65 3 64, lQ 66 1 65, fA 67 9 3, lD 68 1 67, ⟨some 69, none, [], .call true .pure 48 [(.t 66), (.t 68)]⟩, mV 61 69, eX 70 61 0, eX 71 61 1, nK 72 62, fA 73 3 72, sO 1 73 70] [67])
(.seq (.seq (.reg false [
fA 74 2 3, lD 75 1 74] [74])
(.cond (.t 75)
(.reg false [
mV 76 0, mV 77 5, cR 78 49 [(.t 76), (.t 77), (.k (.it .i64 3))]] [])
.skip))
(.seq (.reg false [
mV 79 0, fA 80 1 3, lD 81 1 80, fA 82 9 3, lD 83 1 82, fA 84 5 3, lD 85 1 84, lN 86 false 85, ⟨some 87, none, [], .bin .no .sub (.t 83) (.t 86)⟩, cR 88 55 [(.t 79), (.t 81), (.t 87)]] [80, 82, 84])
(.cond (.t 88)
(.reg false [
mV 89 0, fA 90 1 3, lD 91 1 90, fA 92 5 3, lD 93 1 92, ⟨some 94, none, [], .cnv .b2s (.t 93)⟩, fA 95 2 3, lD 96 1 95, ⟨some 97, none, [], .bld [(.it .i64 0), (.it .i64 0), .ns, (.st []), (.bo false), (.it .i64 0)] [(0, 1, (.k (.it .i64 3))), (1, 1, (.t 91)), (3, 1, (.t 94)), (4, 1, (.t 96))]⟩, cR 98 68 [(.t 89), (.t 97)]] [90, 92, 95])
.skip)))))))))))⟩
def c95 : Ev.Fn := d95.den
theorem r95 : OK 95 c95 := rd d95 { loc := [3], md := .rw, mds := mds, heap := [21, 69], own := [21, 69], ord := [], clr := [(1, [8]), (4, [19]), (7, [31]), (8, [35, 37]), (9, [41]), (10, [45]), (12, [51]), (13, [56, 58]), (14, [67]), (15, [74]), (17, [80, 82, 84]), (18, [90, 92, 95])], mask := [], fns := [], lcl := [], hnd := [], pro := [] } Tryz.func95

def d96 : DFn := ⟨[(.c .one), (.c .one)], [], .rw, [],
(.seq (.seq (.reg false [
mV 11 1, ⟨some 12, none, [], .un .not (.t 11)⟩] [])
(.cond (.t 12)
.ret
.skip))
(.seq (.reg false [
mV 13 0, nK 14 13, fA 15 19 14, lQ 16 3 15, ⟨some 4, none, [], .alc [(.it .i64 0), (.bo false), .ns]⟩, sO 3 4 16] [])
(.seq (.reg false [
mV 17 0, ⟨some 18, none, [], .bld [(.it .i64 0), (.bo false), .ns] []⟩, nK 19 17, fA 20 19 19, sO 3 20 18] [])
(.seq (.reg true [
mV 22 0, nK 23 22, fA 24 10 23, lD 25 1 24, fA 26 2 4, lD 27 1 26, cR 28 118 [(.t 25), (.t 27)], mV 21 28, eX 29 21 0, eX 30 21 1, mV 5 29, mV 6 30] [26])
(.seq (.seq (.reg false [
mV 31 6, ⟨some 32, none, [], .bin .no .eql (.t 31) (.k (.it .i64 2))⟩] [])
(.cond (.t 32)
(.seq (.reg false [
mV 33 0, cR 34 44 [(.t 33), (.k (.it .i64 11))]] [])
.ret)
.skip))
(.seq (.seq (.reg false [
mV 35 6, ⟨some 36, none, [], .bin .no .neq (.t 35) (.k (.it .i64 0))⟩] [])
(.cond (.t 36)
(.seq (.reg false [
mV 37 0, cR 38 44 [(.t 37), (.k (.it .i64 9))]] [])
.ret)
.skip))
(.seq (.reg false [
mK 7 .ns] [])
(.seq (.seq (.reg false [
mV 39 5, lN 40 false 39, mK 41 (.it .i64 0)] [])
(.blk 0 (.loop [0, 4, 7, 39, 40, 41] [9]
(.seq (.reg false [
⟨some 42, none, [], .bin .no .lss (.t 41) (.t 40)⟩] [])
(.seq (.cond (.t 42)
.skip
(.exit 0))
(.seq (.blk 1 (.seq (.reg false [
⟨some 43, none, [], .ias 3 (.t 39) (.t 41)⟩, lQ 44 3 43, ⟨some 9, none, [], .alc [(.st []), (.st []), (.it .i64 0)]⟩, sO 3 9 44] [])
(.reg false [
mV 45 7, fA 46 0 9, lQ 47 2 46, ⟨some 48, none, [], .bsv [.one, .one] 2 [[(.st []), (.st [])]] [(0, (.t 47))]⟩, ⟨some 49, none, [], .app 2 32 (.t 45) (.t 48)⟩, mV 7 49] [46])))
(.reg false [
⟨some 50, none, [], .bin .no .add (.t 41) (.k (.it .i64 1))⟩, mV 41 50] [])))))))
(.seq (.reg false [
mV 51 0, fA 52 0 4, lD 53 1 52, cR 54 119 [(.t 51), (.t 53)], mV 10 54] [52])
(.seq (.reg false [
mV 55 10, ⟨some 56, none, [], .bin .ptr .neq (.t 55) (.k .np)⟩] [])
(.cond (.t 56)
(.reg false [
mV 57 0, mV 58 10, mV 59 7, fA 60 1 4, lD 61 1 60, cR 62 120 [(.t 57), (.t 58), (.t 59), (.t 61)]] [60])
.skip)))))))))))⟩
def c96 : Ev.Fn := d96.den
theorem r96 : OK 96 c96 := rd d96 { loc := [4, 9], md := .rw, mds := mds, heap := [49], own := [49], ord := [], clr := [(3, [26]), (12, [46]), (14, [52]), (16, [60])], mask := [(10, [0, 4, 7, 39, 40, 41], [9])], fns := [], lcl := [], hnd := [], pro := [] } Tryz.func96

def d97 : DFn := ⟨[(.c .one), (.g [.one, .one, .one, .one, .one, (.sl [.one]), .one, .one, .one, .one, (.sl [.one, .one])])], [], .rw, [],
(.seq (.reg false [
⟨some 3, none, [], .box (.t 1)⟩] [])
(.seq (.seq (.reg false [
mV 4 0, fA 5 1 3, lD 6 1 5, cR 7 92 [(.t 4), (.t 6)]] [5])
(.cond (.t 7)
(.seq (.reg false [
mV 8 0, cR 9 44 [(.t 8), (.k (.it .i64 1))]] [])
.ret)
.skip))
(.seq (.reg false [
mV 10 0, fA 11 1 3, lD 12 1 11, cR 13 45 [(.t 10), (.t 12)], ⟨some 14, none, [], .bin .ptr .neq (.t 13) (.k .np)⟩] [11])
(.cond (.t 14)
(.seq (.reg false [
mV 15 0, fA 16 1 3, lD 17 1 16, cR 18 70 [(.t 15), (.t 17)]] [16])
(.reg false [
mV 19 0, fA 20 1 3, lD 21 1 20, fA 22 6 3, lD 23 1 22, ⟨some 24, none, [], .bld [(.it .i64 0), (.it .i64 0), .ns, (.st []), (.bo false), (.it .i64 0)] [(0, 1, (.k (.it .i64 4))), (1, 1, (.t 21)), (5, 1, (.t 23))]⟩, cR 25 68 [(.t 19), (.t 24)]] [20, 22]))
.skip))))⟩
def c97 : Ev.Fn := d97.den
theorem r97 : OK 97 c97 := rd d97 { loc := [3], md := .rw, mds := mds, heap := [], own := [], ord := [], clr := [(1, [5]), (3, [11]), (4, [16]), (5, [20, 22])], mask := [], fns := [], lcl := [], hnd := [], pro := [] } Tryz.func97

def d98 : DFn := ⟨[(.c .one), (.c (.sl [.one, .one]))], [], .rw, [],
(.seq (.seq (.reg false [
mV 14 1, lN 15 false 14, mK 16 (.it .i64 0)] [])
(.blk 0 (.loop [0, 14, 15, 16] [5, 6]
(.seq (.reg false [
⟨some 17, none, [], .bin .no .lss (.t 16) (.t 15)⟩] [])
(.seq (.cond (.t 17)
.skip
(.exit 0))
(.seq (.blk 1 (.seq (.reg false [
⟨some 18, none, [], .ias 2 (.t 14) (.t 16)⟩, lQ 19 2 18, ⟨some 5, none, [], .alc [(.it .i64 0), (.it .i64 0)]⟩, sO 2 5 19] [])
(.seq (.reg false [
mV 20 0, nK 21 20, fA 22 4 21, lQ 23 5 22, ⟨some 6, none, [], .alc [(.it .i64 0), (.it .i64 0), (.it .i64 0), (.it .i64 0), (.it .i64 0)]⟩, sO 5 6 23] [])
(.seq (.reg false [
mV 25 0, lQ 26 5 6, lQ 27 2 5, ⟨some 28, none, [], .bsv [.one, .one] 2 [[(.it .i64 0), (.it .i64 0)]] [(0, (.t 27))]⟩, ⟨some 29, none, [], .call true .pure 121 [(.t 26), (.t 28)]⟩, mV 24 29, eX 30 24 0, eX 31 24 1, nK 32 25, fA 33 4 32, sO 5 33 30] [])
(.seq (.seq (.reg false [
mV 34 0, nK 35 34, fA 36 4 35, fA 37 0 36, lD 38 1 37, ⟨some 39, none, [], .mnx false (.t 38) (.k (.it .i64 4096))⟩, mV 7 39] [])
(.seq (.reg false [
fA 40 0 5, lD 41 1 40, ⟨some 42, none, [], .bin .no .eql (.t 41) (.k (.it .i64 1))⟩] [40])
(.cond (.t 42)
(.seq (.reg false [
mV 44 0, nK 45 44, fA 46 11 45, lD 47 1 46, cR 48 122 [(.t 47)], mV 43 48, eX 49 43 0, eX 50 43 1, eX 51 43 2, mV 8 49, mV 9 50, mV 10 51] [])
(.seq (.reg false [
mV 52 10, mV 53 7, ⟨some 54, none, [], .bin .no .neq (.t 52) (.t 53)⟩] [])
(.cond (.t 54)
(.reg false [
mV 55 0, nK 56 55, fA 57 11 56, lD 58 1 57, mV 59 7, cR 60 123 [(.t 58), (.t 59)]] [])
.skip)))
.skip)))
(.seq (.seq (.reg false [
fA 61 0 5, lD 62 1 61, ⟨some 63, none, [], .bin .no .neq (.t 62) (.k (.it .i64 4))⟩] [61])
(.cond (.t 63)
(.exit 1)
.skip))
(.seq (.reg false [
mV 64 0, nK 65 64, fA 66 15 65, lD 67 1 66, lN 68 false 67, mK 69 (.it .i64 0)] [])
(.blk 2 (.loop [0, 6, 14, 15, 16, 67, 68, 69] [5]
(.seq (.reg false [
⟨some 70, none, [], .bin .no .lss (.t 69) (.t 68)⟩] [])
(.seq (.cond (.t 70)
.skip
(.exit 2))
(.seq (.blk 3 (.seq (.reg false [
⟨some 71, none, [], .ias 1 (.t 67) (.t 69)⟩, lD 72 1 71, mV 12 72] [])
(.seq (.reg false [
mK 13 (.bo false)] [])
(.seq (.reg true [
mV 74 12, mV 75 12, nK 76 75, fA 77 2 76, lQ 78 1 77, fA 79 2 6, lD 80 1 79, mV 81 0, nK 82 81, fA 83 4 82, fA 84 2 83, lD 85 1 84, ⟨some 86, none, [], .call true .pure 124 [(.t 78), (.t 80), (.t 85)]⟩, mV 73 86, eX 87 73 0, eX 88 73 1, nK 89 74, fA 90 2 89, sO 1 90 87, mV 13 88] [79])
(.seq (.reg false [
mV 91 13, ⟨some 92, none, [], .un .not (.t 91)⟩] [])
(.cond (.t 92)
(.seq (.reg false [
mV 93 0, cR 94 44 [(.t 93), (.k (.it .i64 3))]] [])
.ret)
.skip))))))
(.reg false [
⟨some 95, none, [], .bin .no .add (.t 69) (.k (.it .i64 1))⟩, mV 69 95] [])))))))))))))
(.reg false [
⟨some 96, none, [], .bin .no .add (.t 16) (.k (.it .i64 1))⟩, mV 16 96] [])))))))
(.reg false [
mV 97 0, ⟨some 98, none, [], .bld [(.it .i64 0), (.it .i64 0), (.it .i64 0), .ns] [(0, 1, (.k (.it .i64 4))), (1, 1, (.k (.it .i64 1)))]⟩, cR 99 71 [(.t 97), (.t 98)]] []))⟩
def c98 : Ev.Fn := d98.den
theorem r98 : OK 98 c98 := rd d98 { loc := [5, 6], md := .rw, mds := mds, heap := [29, 86], own := [29, 86], ord := [], clr := [(6, [40]), (10, [61]), (15, [79])], mask := [(1, [0, 14, 15, 16], [5, 6]), (12, [0, 6, 14, 15, 16, 67, 68, 69], [5])], fns := [], lcl := [], hnd := [], pro := [] } Tryz.func98

def d99 : DFn := ⟨[(.c .one), (.g [.one, .one, .one, .one, .one, (.sl [.one]), .one, .one, .one, .one, (.sl [.one, .one])])], [], .rw, [],
(.seq (.reg false [
⟨some 3, none, [], .box (.t 1)⟩] [])
(.seq (.reg false [
mK 4 (.bo false)] [])
(.seq (.seq (.reg false [
fA 6 1 3, lD 7 1 6, ⟨some 8, none, [], .bin .no .eql (.t 7) (.k (.it .i64 0))⟩] [6])
(.cond (.t 8)
(.seq (.seq (.reg true [
mV 10 0, mV 11 0, nK 12 11, fA 13 13 12, lQ 14 1 13, fA 15 8 3, lD 16 1 15, ⟨some 17, none, [], .call true .pure 54 [(.t 14), (.t 16)]⟩, mV 9 17, eX 18 9 0, eX 19 9 1, nK 20 10, fA 21 13 20, sO 1 21 18, mV 4 19] [15])
(.seq (.reg false [
mV 22 4, ⟨some 23, none, [], .un .not (.t 22)⟩] [])
(.cond (.t 23)
(.reg false [
mV 24 0, cR 25 44 [(.t 24), (.k (.it .i64 3))]] [])
.skip)))
.ret)
.skip))
(.seq (.seq (.reg false [
mV 26 0, fA 27 1 3, lD 28 1 27, cR 29 92 [(.t 26), (.t 28)]] [27])
(.cond (.t 29)
(.seq (.reg false [
mV 30 0, cR 31 44 [(.t 30), (.k (.it .i64 1))]] [])
.ret)
.skip))
(.seq (.reg false [
mV 32 0, fA 33 1 3, lD 34 1 33, cR 35 45 [(.t 32), (.t 34)], mV 5 35] [33])
(.seq (.seq (.reg false [
mV 36 5, ⟨some 37, none, [], .bin .ptr .eql (.t 36) (.k .np)⟩] [])
(.cond (.t 37)
.ret
.skip))
(.seq (.reg true [
mV 39 5, mV 40 5, nK 41 40, fA 42 2 41, lQ 43 1 42, fA 44 8 3, lD 45 1 44, ⟨some 46, none, [], .call true .pure 54 [(.t 43), (.t 45)]⟩, mV 38 46, eX 47 38 0, eX 48 38 1, nK 49 39, fA 50 2 49, sO 1 50 47, mV 4 48] [44])
(.seq (.reg false [
mV 51 4, ⟨some 52, none, [], .un .not (.t 51)⟩] [])
(.cond (.t 52)
(.reg false [
mV 53 0, fA 54 1 3, lD 55 1 54, cR 56 94 [(.t 53), (.t 55), (.k (.it .i64 3))]] [54])
.skip)))))))))⟩
def c99 : Ev.Fn := d99.den
theorem r99 : OK 99 c99 := rd d99 { loc := [3], md := .rw, mds := mds, heap := [17, 46], own := [17, 46], ord := [], clr := [(2, [6]), (3, [15]), (6, [27]), (8, [33]), (10, [44]), (12, [54])], mask := [], fns := [], lcl := [], hnd := [], pro := [] } Tryz.func99

def d100 : DFn := ⟨[(.c .one)], [(.c .one)], .pure, [.tmp 2],
(.seq (.reg false [
mK 2 (.it .i64 0)] [])
(.seq (.seq (.reg false [
mV 3 0] [])
(.cond (.t 3)
(.seq (.reg false [
mK 2 (.it .i64 2)] [])
.ret)
.skip))
(.seq (.reg false [
mK 2 (.it .i64 3)] [])
.ret)))⟩
def c100 : Ev.Fn := d100.den
theorem r100 : OK 100 c100 := rd d100 { loc := [], md := .pure, mds := mds, heap := [], own := [], ord := [], clr := [], mask := [], fns := [], lcl := [], hnd := [], pro := [] } Tryz.func100

def d101 : DFn := ⟨[(.c .one)], [(.c .one)], .pure, [.tmp 2],
(.seq (.reg false [
mK 2 (.bo false)] [])
(.seq (.reg false [
mV 3 0, ⟨some 4, none, [], .bin .no .eql (.t 3) (.k (.it .i64 1))⟩, mV 5 4, ⟨some 6, some (5, false), [], .mov (.t 0)⟩, ⟨some 7, some (5, false), [], .bin .no .eql (.t 6) (.k (.it .i64 3))⟩, ⟨some 8, none, [], .pick (.t 5) (.k (.bo true)) (.t 7)⟩, mV 2 8] [])
.ret))⟩
def c101 : Ev.Fn := d101.den
theorem r101 : OK 101 c101 := rd d101 { loc := [], md := .pure, mds := mds, heap := [], own := [], ord := [], clr := [], mask := [], fns := [], lcl := [], hnd := [], pro := [] } Tryz.func101

def d102 : DFn := ⟨[(.c (.sl [.one])), (.c .one)], [(.c (.sl [.one]))], .rw, [.tmp 4],
(.seq (.reg false [
mK 4 .ns] [])
(.seq (.reg false [
mV 8 0, mV 9 1, cR 10 125 [(.t 8), (.t 9)], mV 5 10] [])
(.seq (.seq (.reg false [
mV 11 5, ⟨some 12, none, [], .bin .no .eql (.t 11) (.k (.it .i64 (-1)))⟩] [])
(.cond (.t 12)
(.seq (.reg false [
mV 13 0, mV 4 13] [])
.ret)
.skip))
(.seq (.seq (.reg false [
mV 14 5, ⟨some 15, none, [], .bin .no .add (.t 14) (.k (.it .i64 1))⟩, mV 6 15] [])
(.blk 0 (.loop [0, 1, 5, 6] []
(.seq (.seq (.reg false [
mV 16 6, mV 17 0, lN 18 false 17, ⟨some 19, none, [], .bin .no .lss (.t 16) (.t 18)⟩] [])
(.cond (.t 19)
.skip
(.exit 0)))
(.seq (.blk 1 (.seq (.reg false [
mV 22 0, mV 23 6, ⟨some 24, none, [], .ias 1 (.t 22) (.t 23)⟩, lD 25 1 24, mV 7 25] [])
(.seq (.reg false [
mV 26 1, mV 27 7, ⟨some 28, none, [], .calv [] (.t 26) [(.t 27)]⟩, ⟨some 29, none, [], .un .not (.t 28)⟩] [])
(.cond (.t 29)
(.seq (.reg false [
mV 30 0, mV 31 5, mV 32 7, ⟨some 33, none, [], .ias 1 (.t 30) (.t 31)⟩, sO 1 33 32] [])
(.reg false [
mV 34 5, ⟨some 35, none, [], .bin .no .add (.t 34) (.k (.it .i64 1))⟩, mV 5 35] []))
.skip))))
(.reg false [
mV 20 6, ⟨some 21, none, [], .bin .no .add (.t 20) (.k (.it .i64 1))⟩, mV 6 21] []))))))
(.seq (.reg false [
mV 36 0, mV 37 5, ⟨some 38, none, [], .slc false 1 (.t 36) (some (.t 37)) none⟩, ⟨none, none, [], .clr 1 [.np] (.t 38)⟩] [])
(.seq (.reg false [
mV 39 0, mV 40 5, ⟨some 41, none, [], .slc false 1 (.t 39) none (some (.t 40))⟩, mV 4 41] [])
.ret))))))⟩
def c102 : Ev.Fn := d102.den
theorem r102 : OK 102 c102 := rd d102 { loc := [], md := .rw, mds := mds, heap := [], own := [], ord := [], clr := [], mask := [(5, [0, 1, 5, 6], [])], fns := [], lcl := [], hnd := [], pro := [] } Tryz.func102

def d103 : DFn := ⟨[(.c .one), (.c .one)], [(.c .one)], .rw, [.tmp 3],
(.seq (.reg false [
mK 3 (.bo false)] [])
(.seq (.reg true [
mV 4 0, nK 5 4, fA 6 0 5, lD 7 1 6, lD 8 1 1, ⟨some 9, none, [], .bin .no .eql (.t 7) (.t 8)⟩, mV 3 9] [])
.ret))⟩
def c103 : Ev.Fn := d103.den
theorem r103 : OK 103 c103 := rd d103 { loc := [], md := .rw, mds := mds, heap := [], own := [], ord := [], clr := [], mask := [], fns := [], lcl := [], hnd := [], pro := [] } Tryz.func103

def d104 : DFn := ⟨[(.c (.sl [.one])), (.c .one)], [(.c (.sl [.one]))], .rw, [.tmp 4],
(.seq (.reg false [
mK 4 .ns] [])
(.seq (.reg false [
mV 8 0, mV 9 1, cR 10 126 [(.t 8), (.t 9)], mV 5 10] [])
(.seq (.seq (.reg false [
mV 11 5, ⟨some 12, none, [], .bin .no .eql (.t 11) (.k (.it .i64 (-1)))⟩] [])
(.cond (.t 12)
(.seq (.reg false [
mV 13 0, mV 4 13] [])
.ret)
.skip))
(.seq (.seq (.reg false [
mV 14 5, ⟨some 15, none, [], .bin .no .add (.t 14) (.k (.it .i64 1))⟩, mV 6 15] [])
(.blk 0 (.loop [0, 1, 5, 6] []
(.seq (.seq (.reg false [
mV 16 6, mV 17 0, lN 18 false 17, ⟨some 19, none, [], .bin .no .lss (.t 16) (.t 18)⟩] [])
(.cond (.t 19)
.skip
(.exit 0)))
(.seq (.blk 1 (.seq (.reg false [
mV 22 0, mV 23 6, ⟨some 24, none, [], .ias 1 (.t 22) (.t 23)⟩, lD 25 1 24, mV 7 25] [])
(.seq (.reg false [
mV 26 1, mV 27 7, ⟨some 28, none, [], .calv [] (.t 26) [(.t 27)]⟩, ⟨some 29, none, [], .un .not (.t 28)⟩] [])
(.cond (.t 29)
(.seq (.reg false [
mV 30 0, mV 31 5, mV 32 7, ⟨some 33, none, [], .ias 1 (.t 30) (.t 31)⟩, sO 1 33 32] [])
(.reg false [
mV 34 5, ⟨some 35, none, [], .bin .no .add (.t 34) (.k (.it .i64 1))⟩, mV 5 35] []))
.skip))))
(.reg false [
mV 20 6, ⟨some 21, none, [], .bin .no .add (.t 20) (.k (.it .i64 1))⟩, mV 6 21] []))))))
(.seq (.reg false [
mV 36 0, mV 37 5, ⟨some 38, none, [], .slc false 1 (.t 36) (some (.t 37)) none⟩, ⟨none, none, [], .clr 1 [(.it .i64 0)] (.t 38)⟩] [])
(.seq (.reg false [
mV 39 0, mV 40 5, ⟨some 41, none, [], .slc false 1 (.t 39) none (some (.t 40))⟩, mV 4 41] [])
.ret))))))⟩
def c104 : Ev.Fn := d104.den
theorem r104 : OK 104 c104 := rd d104 { loc := [], md := .rw, mds := mds, heap := [], own := [], ord := [], clr := [], mask := [(5, [0, 1, 5, 6], [])], fns := [], lcl := [], hnd := [], pro := [] } Tryz.func104

def d105 : DFn := ⟨[(.c .one), (.c .one)], [(.c .one)], .rw, [.tmp 3],
(.seq (.reg false [
mK 3 (.bo false)] [])
(.seq (.reg false [
mV 4 0, lD 5 1 1, ⟨some 6, none, [], .bin .no .eql (.t 4) (.t 5)⟩, mV 3 6] [])
.ret))⟩
def c105 : Ev.Fn := d105.den
theorem r105 : OK 105 c105 := rd d105 { loc := [], md := .rw, mds := mds, heap := [], own := [], ord := [], clr := [], mask := [], fns := [], lcl := [], hnd := [], pro := [] } Tryz.func105

def d106 : DFn := ⟨[(.c .one), (.c .one)], [(.c (.sl [.one]))], .pure, [.tmp 4],
(.seq (.reg false [
mK 4 .ns] [])
(.seq (.reg false [
mV 5 0, mV 6 1, cP 7 127 [(.t 5), (.t 6), (.k (.it .i64 0)), (.k (.it .i64 (-1)))], mV 4 7] [])
.ret))⟩
def c106 : Ev.Fn := d106.den
theorem r106 : OK 106 c106 := rd d106 { loc := [], md := .pure, mds := mds, heap := [], own := [], ord := [], clr := [], mask := [], fns := [], lcl := [], hnd := [], pro := [] } Tryz.func106

def d107 : DFn := ⟨[(.c .one), (.c .one)], [(.c .one), (.c .one), (.c .one)], .pure, [.tmp 4, .tmp 5, .tmp 6],
(.seq (.reg false [
mK 4 (.st []), mK 5 (.st []), mK 6 (.bo false)] [])
(.seq (.reg false [
mV 7 0, mV 8 1, cP 9 128 [(.t 7), (.t 8)], eX 10 9 0, eX 11 9 1, eX 12 9 2, mV 4 10, mV 5 11, mV 6 12] [])
.ret))⟩
def c107 : Ev.Fn := d107.den
theorem r107 : OK 107 c107 := rd d107 { loc := [], md := .pure, mds := mds, heap := [], own := [], ord := [], clr := [], mask := [], fns := [], lcl := [], hnd := [], pro := [] } Tryz.func107

def d108 : DFn := ⟨[(.c .one)], [(.c .one)], .rw, [.tmp 2],
(.seq (.reg false [
mK 2 (.it .i64 0)] [])
(.seq (.reg false [
mV 3 0, nK 4 3, fA 5 3 4, lD 6 1 5, mV 2 6] [])
.ret))⟩
def c108 : Ev.Fn := d108.den
theorem r108 : OK 108 c108 := rd d108 { loc := [], md := .rw, mds := mds, heap := [], own := [], ord := [], clr := [], mask := [], fns := [], lcl := [], hnd := [], pro := [] } Tryz.func108

def d109 : DFn := ⟨[(.c .one)], [(.c .one)], .pure, [.tmp 2],
(.seq (.reg false [
mK 2 (.it .i64 0)] [])
(.seq (.reg false [
mV 3 0, cV 4 .u64 3, ⟨some 5, none, [], .bin .no .shl (.k (.it .i64 1)) (.t 4)⟩, ⟨some 6, none, [], .bin .no .sub (.t 5) (.k (.it .i64 1))⟩, mV 2 6] [])
.ret))⟩
def c109 : Ev.Fn := d109.den
theorem r109 : OK 109 c109 := rd d109 { loc := [], md := .pure, mds := mds, heap := [], own := [], ord := [], clr := [], mask := [], fns := [], lcl := [], hnd := [], pro := [] } Tryz.func109

def d110 : DFn := ⟨[(.c (.sl [.one])), (.c .one)], [(.c (.sl [.one]))], .pure, [.tmp 4],
(.seq (.reg false [
mK 4 .ns] [])
(.seq (.seq (.reg false [
mV 6 1, cP 7 129 [(.t 6)], mV 5 7] [])
(.seq (.reg false [
mV 8 5, mV 9 1, lN 10 true 9, ⟨some 11, none, [], .bin .no .lss (.t 8) (.t 10)⟩] [])
(.cond (.t 11)
(.seq (.reg false [
mV 12 0, mV 13 5, ⟨some 14, none, [], .call true .pure 78 [(.t 12), (.k (.it .i64 7)), (.k (.it .u8 128)), (.t 13)]⟩, mV 15 1, cP 16 130 [(.t 15)], ⟨some 17, none, [], .app 1 1 (.t 14) (.t 16)⟩, mV 4 17] [])
.ret)
.skip)))
(.seq (.reg false [
mV 18 0, mV 19 1, lN 20 true 19, ⟨some 21, none, [], .call true .pure 78 [(.t 18), (.k (.it .i64 7)), (.k (.it .u8 0)), (.t 20)]⟩, mV 22 1, ⟨some 23, none, [], .app 1 1 (.t 21) (.t 22)⟩, mV 4 23] [])
.ret)))⟩
def c110 : Ev.Fn := d110.den
theorem r110 : OK 110 c110 := rd d110 { loc := [], md := .pure, mds := mds, heap := [14, 21], own := [14, 21], ord := [(3, [0, 1, 3, 2, 4, 5, 6]), (4, [0, 1, 2, 4, 3, 5, 6])], clr := [], mask := [], fns := [], lcl := [], hnd := [], pro := [] } Tryz.func110

def d111 : DFn := ⟨[(.c .one), (.c .one)], [], .rw, [],
(.blk 0 (.loop [0, 1] []
(.seq (.seq (.reg false [
mV 5 0, nK 6 5, fA 7 2 6, lD 8 1 7, mV 9 1, ⟨some 10, none, [], .bin .no .gtr (.t 8) (.t 9)⟩, mV 11 10, ⟨some 12, some (11, true), [], .mov (.t 0)⟩, ⟨some 13, some (11, true), [], .nck (.t 12)⟩, ⟨some 14, some (11, true), [], .fad 0 (.t 13)⟩, ⟨some 15, some (11, true), [], .ld 1 false (.t 14)⟩, ⟨some 16, some (11, true), [], .len false (.t 15)⟩, ⟨some 17, some (11, true), [], .bin .no .gtr (.t 16) (.k (.it .i64 0))⟩, ⟨some 18, none, [], .pick (.t 11) (.t 17) (.k (.bo false))⟩] [])
(.cond (.t 18)
.skip
(.exit 0)))
(.blk 1 (.seq (.reg false [
mV 19 0, nK 20 19, fA 21 0 20, lD 22 1 21, lN 23 false 22, ⟨some 24, none, [], .bin .no .sub (.t 23) (.k (.it .i64 1))⟩, mV 4 24] [])
(.seq (.reg true [
mV 25 0, nK 26 25, fA 27 2 26, lD 28 1 27, mV 29 0, nK 30 29, fA 31 0 30, lD 32 1 31, mV 33 4, ⟨some 34, none, [], .ias 2 (.t 32) (.t 33)⟩, lQ 35 2 34, cP 36 59 [(.t 35)], ⟨some 37, none, [], .bin .no .sub (.t 28) (.t 36)⟩, nK 38 25, fA 39 2 38, sO 1 39 37] [])
(.reg false [
mV 40 0, mV 41 0, nK 42 41, fA 43 0 42, lD 44 1 43, mV 45 4, ⟨some 46, none, [], .slc false 2 (.t 44) none (some (.t 45))⟩, nK 47 40, fA 48 0 47, sO 1 48 46] [])))))))⟩
def c111 : Ev.Fn := d111.den
theorem r111 : OK 111 c111 := rd d111 { loc := [], md := .rw, mds := mds, heap := [], own := [], ord := [], clr := [], mask := [(0, [0, 1], [])], fns := [], lcl := [], hnd := [], pro := [] } Tryz.func111

def d113 : DFn := ⟨[(.g [.one, .one, .one, (.sl [.one])])], [(.c .one), (.c (.sl [.one])), (.c .one)], .pure, [.tmp 2, .tmp 3, .tmp 4],
(.seq (.reg false [
⟨some 1, none, [], .box (.t 0)⟩, mK 2 (.it .i64 0), mK 3 .ns, mK 4 (.bo false)] [])
(.seq (.seq (.reg false [
fA 5 1 1, lD 6 1 5, ⟨some 7, none, [], .bin .no .and (.t 6) (.k (.it .i64 8))⟩, ⟨some 8, none, [], .bin .no .eql (.t 7) (.k (.it .i64 0))⟩] [5])
(.cond (.t 8)
(.seq (.reg true [
fA 9 3 1, lD 10 1 9, mK 2 (.it .i64 0), mV 3 10, mK 4 (.bo true)] [9])
.ret)
.skip))
(.seq (.seq (.reg false [
fA 11 3 1, lD 12 1 11, lN 13 false 12, ⟨some 14, none, [], .bin .no .eql (.t 13) (.k (.it .i64 0))⟩] [11])
(.cond (.t 14)
(.seq (.reg false [
mK 2 (.it .i64 0), mK 3 .ns, mK 4 (.bo false)] [])
.ret)
.skip))
(.seq (.reg true [
fA 15 3 1, lD 16 1 15, ⟨some 17, none, [], .ias 1 (.t 16) (.k (.it .i64 0))⟩, lD 18 1 17, cV 19 .i64 18, fA 20 3 1, lD 21 1 20, ⟨some 22, none, [], .slc false 1 (.t 21) (some (.k (.it .i64 1))) none⟩, mV 2 19, mV 3 22, mK 4 (.bo true)] [15, 20])
.ret))))⟩
def c113 : Ev.Fn := d113.den
theorem r113 : OK 113 c113 := rd d113 { loc := [1], md := .pure, mds := mds, heap := [], own := [], ord := [(0, [1, 2, 3, 0])], clr := [(1, [5]), (2, [9]), (3, [11]), (5, [15, 20])], mask := [], fns := [], lcl := [], hnd := [], pro := [] } Tryz.func113

def d114 : DFn := ⟨[(.c .one), (.c .one)], [(.g [.one, .one, .one])], .pure, [.cell 4 3 true],
(.seq (.reg false [
⟨some 4, none, [], .alc [(.it .i64 0), (.it .i64 0), (.it .i64 0)]⟩] [])
(.seq (.reg false [
mV 5 0, mV 6 1, ⟨some 7, none, [], .bld [(.it .i64 0), (.it .i64 0), (.it .i64 0)] [(0, 1, (.k (.it .i64 1))), (1, 1, (.t 5)), (2, 1, (.t 6))]⟩, sO 3 4 7] [])
.ret))⟩
def c114 : Ev.Fn := d114.den
theorem r114 : OK 114 c114 := rd d114 { loc := [4], md := .pure, mds := mds, heap := [], own := [], ord := [], clr := [], mask := [], fns := [], lcl := [], hnd := [], pro := [] } Tryz.func114

def d115 : DFn := ⟨[(.g [.one, .one])], [(.c .one)], .pure, [.tmp 2],
(.seq (.reg false [
⟨some 1, none, [], .box (.t 0)⟩, mK 2 (.it .i64 0)] [])
(.seq (.blk 0 (.seq (.reg false [
fA 4 0 1, lD 5 1 4, ⟨some 6, none, [], .bin .no .eql (.t 5) (.k (.it .i64 2))⟩, mV 7 6, ⟨some 8, some (7, true), [], .fad 1 (.t 1)⟩, ⟨some 9, some (7, true), [], .ld 1 false (.t 8)⟩, ⟨some 10, some (7, true), [], .call false .pure 133 [(.t 9), (.k (.it .i64 0)), (.k (.it .i64 1))]⟩, ⟨some 11, some (7, true), [], .un .not (.t 10)⟩, ⟨some 12, none, [], .pick (.t 7) (.t 11) (.k (.bo false))⟩, mV 3 12] [4, 8])
(.cond (.t 3)
(.seq (.reg false [
mK 2 (.it .i64 1)] [])
.ret)
(.seq (.reg false [
fA 14 0 1, lD 15 1 14, ⟨some 16, none, [], .bin .no .eql (.t 15) (.k (.it .i64 4))⟩, mV 17 16, ⟨some 18, some (17, true), [], .fad 1 (.t 1)⟩, ⟨some 19, some (17, true), [], .ld 1 false (.t 18)⟩, ⟨some 20, some (17, true), [], .call false .pure 133 [(.t 19), (.k (.it .i64 0)), (.k (.it .i64 2147483647))]⟩, ⟨some 21, some (17, true), [], .un .not (.t 20)⟩, ⟨some 22, none, [], .pick (.t 17) (.t 21) (.k (.bo false))⟩, mV 13 22] [14, 18])
(.cond (.t 13)
(.seq (.reg false [
mK 2 (.it .i64 3)] [])
.ret)
(.seq (.reg false [
fA 24 0 1, lD 25 1 24, ⟨some 26, none, [], .bin .no .eql (.t 25) (.k (.it .i64 5))⟩, mV 27 26, ⟨some 28, some (27, true), [], .fad 1 (.t 1)⟩, ⟨some 29, some (27, true), [], .ld 1 false (.t 28)⟩, ⟨some 30, some (27, true), [], .call false .pure 133 [(.t 29), (.k (.it .i64 16384)), (.k (.it .i64 16777215))]⟩, ⟨some 31, some (27, true), [], .un .not (.t 30)⟩, ⟨some 32, none, [], .pick (.t 27) (.t 31) (.k (.bo false))⟩, mV 23 32] [24, 28])
(.cond (.t 23)
(.seq (.reg false [
mK 2 (.it .i64 1)] [])
.ret)
.skip)))))))
(.seq (.reg false [
mK 2 (.it .i64 0)] [])
.ret)))⟩
def c115 : Ev.Fn := d115.den
theorem r115 : OK 115 c115 := rd d115 { loc := [1], md := .pure, mds := mds, heap := [], own := [], ord := [(0, [1, 0])], clr := [(1, [4, 8]), (3, [14, 18]), (5, [24, 28])], mask := [], fns := [], lcl := [], hnd := [], pro := [] } Tryz.func115

def d116 : DFn := ⟨[(.c (.sl [.one])), (.c .one)], [(.c .one)], .pure, [.tmp 4],
(.seq (.reg false [
mK 4 (.bo false)] [])
(.seq (.reg false [
mV 5 0, mV 6 1, cP 7 134 [(.t 5), (.t 6)], ⟨some 8, none, [], .bin .no .geq (.t 7) (.k (.it .i64 0))⟩, mV 4 8] [])
.ret))⟩
def c116 : Ev.Fn := d116.den
theorem r116 : OK 116 c116 := rd d116 { loc := [], md := .pure, mds := mds, heap := [], own := [], ord := [], clr := [], mask := [], fns := [], lcl := [], hnd := [], pro := [] } Tryz.func116

def d117 : DFn := ⟨[(.c .one), (.c .one)], [(.c .one)], .rw, [.tmp 4],
(.seq (.reg false [
mK 4 (.it .i64 0)] [])
(.seq (.blk 0 (.seq (.reg false [
mV 6 0, ⟨some 7, none, [], .bin .ptr .eql (.t 6) (.k .np)⟩, mV 8 7, ⟨some 9, some (8, false), [], .mov (.t 0)⟩, ⟨some 10, some (8, false), [], .call false .rw 73 [(.t 9)]⟩, ⟨some 11, some (8, false), [], .un .not (.t 10)⟩, ⟨some 12, none, [], .pick (.t 8) (.k (.bo true)) (.t 11)⟩, mV 5 12] [])
(.cond (.t 5)
(.seq (.reg false [
mK 4 (.it .i64 5)] [])
.ret)
(.seq (.reg false [
mV 14 0, nK 15 14, fA 16 4 15, lD 17 1 16, ⟨some 18, none, [], .un .not (.t 17)⟩, mV 13 18] [])
(.cond (.t 13)
(.seq (.reg false [
mK 4 (.it .i64 1)] [])
.ret)
(.seq (.reg false [
mV 20 1, mV 21 0, nK 22 21, fA 23 3 22, lQ 24 1 23, cP 25 135 [(.t 24)], ⟨some 26, none, [], .bin .no .gtr (.t 20) (.t 25)⟩, mV 19 26] [])
(.cond (.t 19)
(.seq (.reg false [
mK 4 (.it .i64 3)] [])
.ret)
.skip)))))))
(.seq (.reg false [
mK 4 (.it .i64 0)] [])
.ret)))⟩
def c117 : Ev.Fn := d117.den
theorem r117 : OK 117 c117 := rd d117 { loc := [], md := .rw, mds := mds, heap := [], own := [], ord := [], clr := [], mask := [], fns := [], lcl := [], hnd := [], pro := [] } Tryz.func117

def d118 : DFn := ⟨[(.c .one), (.c (.sl [.one]))], [(.c (.sl [.one, .one, .one])), (.c .one)], .rw, [.tmp 4, .tmp 5],
(.seq (.reg false [
⟨some 3, none, [], .bxh (.t 1)⟩, mK 4 .ns, mK 5 (.it .i64 0)] [])
(.seq (.seq (.reg false [
mV 9 0, nK 10 9, fA 11 3 10, lD 12 1 11] [])
(.cond (.t 12)
(.seq (.reg false [
mK 4 .ns, mK 5 (.it .i64 1)] [])
.ret)
.skip))
(.seq (.reg false [
mV 13 0, lD 14 1 3, ⟨some 15, none, [], .bld [.np, .ns, (.it .i64 0), .ns, (.it .i64 0), (.it .i64 0)] [(0, 1, (.t 13)), (1, 1, (.t 14))]⟩, ⟨some 16, none, [], .bxh (.t 15)⟩, ⟨some 6, none, [], .alh [.np]⟩, sO 1 6 16] [])
(.seq (.reg false [
⟨some 18, none, [], .mkf 137 [] [(.t 6), (.t 3)]⟩, cR 19 136 [(.t 18)], mV 17 19, eX 20 17 0, eX 21 17 1, ⟨some 7, none, [], .alc [(.it .i64 0), (.it .i64 0)]⟩, sO 2 7 20, mV 8 21] [])
(.seq (.seq (.reg false [
mV 22 8] [])
(.cond (.t 22)
(.seq (.reg false [
mV 23 0, nK 24 23, fA 25 3 24, ⟨none, none, [], .sto 1 (.t 25) (.k (.bo true))⟩] [])
(.seq (.reg true [
fA 26 0 7, lD 27 1 26, mK 4 .ns, mV 5 27] [26])
.ret))
.skip))
(.seq (.reg false [
lD 28 1 6, nK 29 28, fA 30 3 29, lD 31 1 30, mV 4 31, mK 5 (.it .i64 0)] [])
.ret))))))⟩
def c118 : Ev.Fn := d118.den
theorem r118 : OK 118 c118 := rd d118 { loc := [7], md := .rw, mds := mds, heap := [], own := [], ord := [(0, [1, 2, 0]), (4, [0, 5, 1, 2, 3, 4, 6, 7])], clr := [(7, [26])], mask := [], fns := [137], lcl := [], hnd := [], pro := [] } Tryz.func118

def d119 : DFn := ⟨[(.c .one), (.c .one)], [(.c .one)], .rw, [.tmp 4],
(.seq (.reg false [
mK 4 .np] [])
(.seq (.seq (.reg false [
mV 6 0, mV 7 1, cR 8 92 [(.t 6), (.t 7)]] [])
(.cond (.t 8)
(.seq (.reg false [
mV 9 0, mV 10 1, cR 11 139 [(.t 9), (.t 10)], mV 4 11] [])
.ret)
.skip))
(.seq (.reg false [
mV 12 0, mV 13 1, cR 14 45 [(.t 12), (.t 13)], mV 5 14] [])
(.seq (.seq (.reg false [
mV 15 5, ⟨some 16, none, [], .bin .ptr .eql (.t 15) (.k .np)⟩, mV 17 16, ⟨some 18, some (17, true), [], .mov (.t 0)⟩, ⟨some 19, some (17, true), [], .mov (.t 1)⟩, ⟨some 20, some (17, true), [], .call false .rw 93 [(.t 18), (.t 19)]⟩, ⟨some 21, some (17, true), [], .un .not (.t 20)⟩, ⟨some 22, none, [], .pick (.t 17) (.t 21) (.k (.bo false))⟩] [])
(.cond (.t 22)
(.reg false [
mV 23 0, mV 24 1, cR 25 94 [(.t 23), (.t 24), (.k (.it .i64 5))]] [])
.skip))
(.seq (.reg false [
mV 26 5, mV 4 26] [])
.ret)))))⟩
def c119 : Ev.Fn := d119.den
theorem r119 : OK 119 c119 := rd d119 { loc := [], md := .rw, mds := mds, heap := [], own := [], ord := [], clr := [], mask := [], fns := [], lcl := [], hnd := [], pro := [] } Tryz.func119

def d120 : DFn := ⟨[(.c .one), (.c .one), (.c (.sl [.one, .one])), (.c .one)], [], .rw, [],
(.seq (.seq (.reg false [
mV 9 1, nK 10 9, fA 11 1 10, lD 12 1 11, ⟨some 13, none, [], .bin .no .neq (.t 12) (.k (.it .i64 0))⟩, mV 14 13, ⟨some 15, some (14, true), [], .mov (.t 1)⟩, ⟨some 16, some (14, true), [], .call false .rw 73 [(.t 15)]⟩, ⟨some 17, some (14, true), [], .un .not (.t 16)⟩, ⟨some 18, none, [], .pick (.t 14) (.t 17) (.k (.bo false))⟩] [])
(.cond (.t 18)
(.seq (.reg false [
mV 19 0, mV 20 1, nK 21 20, fA 22 0 21, lD 23 1 22, cR 24 94 [(.t 19), (.t 23), (.k (.it .i64 5))]] [])
.ret)
.skip))
(.seq (.seq (.reg false [
mV 25 1, nK 26 25, fA 27 4 26, lD 28 1 27, mV 29 28, ⟨some 30, some (29, true), [], .mov (.t 3)⟩, ⟨some 31, some (29, true), [], .un .not (.t 30)⟩, ⟨some 32, none, [], .pick (.t 29) (.t 31) (.k (.bo false))⟩] [])
(.cond (.t 32)
(.seq (.reg false [
mV 33 0, mV 34 1, nK 35 34, fA 36 0 35, lD 37 1 36, cR 38 94 [(.t 33), (.t 37), (.k (.it .i64 1))]] [])
.ret)
.skip))
(.seq (.reg false [
mK 8 (.it .i64 1)] [])
(.seq (.seq (.reg false [
mV 39 1, nK 40 39, fA 41 4 40, lD 42 1 41] [])
(.cond (.t 42)
(.reg false [
mK 8 (.it .i64 2)] [])
.skip))
(.seq (.reg false [
mV 43 0, mV 44 8, mV 45 1, nK 46 45, fA 47 0 46, lD 48 1 47, mV 49 2, mV 50 3, ⟨some 51, none, [], .bld [(.it .i64 0), (.it .i64 0), .ns, (.st []), (.bo false), (.it .i64 0)] [(0, 1, (.t 44)), (1, 1, (.t 48)), (2, 1, (.t 49)), (4, 1, (.t 50))]⟩, cR 52 68 [(.t 43), (.t 51)]] [])
(.seq (.seq (.reg false [
mV 53 0, nK 54 53, fA 55 0 54, lD 56 1 55, mV 57 56, ⟨some 58, some (57, false), [], .mov (.t 3)⟩, ⟨some 59, none, [], .pick (.t 57) (.k (.bo true)) (.t 58)⟩, mV 60 59, ⟨some 61, some (60, false), [], .mov (.t 2)⟩, ⟨some 62, some (60, false), [], .call false .pure 140 [(.t 61)]⟩, ⟨some 63, some (60, false), [], .un .not (.t 62)⟩, ⟨some 64, none, [], .pick (.t 60) (.k (.bo true)) (.t 63)⟩] [])
(.cond (.t 64)
(.reg false [
mV 65 1, nK 66 65, fA 67 4 66, ⟨none, none, [], .sto 1 (.t 67) (.k (.bo true))⟩] [])
.skip))
(.reg false [
mV 68 0, mV 69 1, mV 70 3, cP 71 61 [(.t 70)], cR 72 49 [(.t 68), (.t 69), (.t 71)]] [])))))))⟩
def c120 : Ev.Fn := d120.den
theorem r120 : OK 120 c120 := rd d120 { loc := [], md := .rw, mds := mds, heap := [], own := [], ord := [], clr := [], mask := [], fns := [], lcl := [], hnd := [], pro := [] } Tryz.func120

def d121 : DFn := ⟨[(.g [.one, .one, .one, .one, .one]), (.c (.sl [.one, .one]))], [(.g [.one, .one, .one, .one, .one]), (.c .one)], .pure, [.cell 4 5 true, .tmp 5],
(.seq (.reg false [
⟨some 2, none, [], .box (.t 0)⟩, ⟨some 4, none, [], .alc [(.it .i64 0), (.it .i64 0), (.it .i64 0), (.it .i64 0), (.it .i64 0)]⟩, mK 5 (.it .i64 0)] [])
(.seq (.reg false [
lQ 11 5 2, ⟨some 6, none, [], .alc [(.it .i64 0), (.it .i64 0), (.it .i64 0), (.it .i64 0), (.it .i64 0)]⟩, sO 5 6 11] [])
(.seq (.seq (.reg false [
mV 12 1, lN 13 false 12, mK 14 (.it .i64 0)] [])
(.blk 0 (.loop [2, 4, 6, 12, 13, 14] [8]
(.seq (.reg false [
⟨some 15, none, [], .bin .no .lss (.t 14) (.t 13)⟩] [])
(.seq (.cond (.t 15)
.skip
(.exit 0))
(.seq (.blk 1 (.seq (.reg false [
⟨some 16, none, [], .ias 2 (.t 12) (.t 14)⟩, lQ 17 2 16, ⟨some 8, none, [], .alc [(.it .i64 0), (.it .i64 0)]⟩, sO 2 8 17] [])
(.seq (.seq (.reg false [
lQ 18 2 8, cP 19 115 [(.t 18)], mV 9 19] [])
(.seq (.reg false [
mV 20 9, ⟨some 21, none, [], .bin .no .neq (.t 20) (.k (.it .i64 0))⟩] [])
(.cond (.t 21)
(.seq (.reg false [
lQ 22 5 2, mV 23 9, sO 5 4 22, mV 5 23] [])
.ret)
.skip)))
(.seq (.reg false [
fA 24 1 8, lD 25 1 24, ⟨some 26, none, [], .mnx true (.t 25) (.k (.it .i64 0))⟩, ⟨some 27, none, [], .mnx false (.t 26) (.k (.it .i64 2147483647))⟩, mV 10 27] [24])
(.seq (.reg false [
fA 28 0 8, lD 29 1 28] [28])
(.blk 2 (.seq (.reg false [
⟨some 31, none, [], .bin .no .eql (.t 29) (.k (.it .i64 1))⟩, mV 30 31] [])
(.cond (.t 30)
(.reg false [
mV 32 10, fA 33 0 6, sO 1 33 32] [33])
(.seq (.reg false [
⟨some 35, none, [], .bin .no .eql (.t 29) (.k (.it .i64 3))⟩, mV 34 35] [])
(.cond (.t 34)
(.reg false [
mV 36 10, fA 37 1 6, sO 1 37 36] [37])
(.seq (.reg false [
⟨some 39, none, [], .bin .no .eql (.t 29) (.k (.it .i64 4))⟩, mV 38 39] [])
(.cond (.t 38)
(.reg false [
mV 40 10, fA 41 2 6, sO 1 41 40] [41])
(.seq (.reg false [
⟨some 43, none, [], .bin .no .eql (.t 29) (.k (.it .i64 5))⟩, mV 42 43] [])
(.cond (.t 42)
(.reg false [
mV 44 10, fA 45 3 6, sO 1 45 44] [45])
(.seq (.reg false [
⟨some 47, none, [], .bin .no .eql (.t 29) (.k (.it .i64 6))⟩, mV 46 47] [])
(.cond (.t 46)
(.reg false [
mV 48 10, fA 49 4 6, sO 1 49 48] [49])
.skip))))))))))))))))
(.reg false [
⟨some 50, none, [], .bin .no .add (.t 14) (.k (.it .i64 1))⟩, mV 14 50] [])))))))
(.seq (.reg false [
lQ 51 5 6, sO 5 4 51, mK 5 (.it .i64 0)] [])
.ret))))⟩
def c121 : Ev.Fn := d121.den
theorem r121 : OK 121 c121 := rd d121 { loc := [2, 4, 6, 8], md := .pure, mds := mds, heap := [], own := [], ord := [(0, [2, 0, 1])], clr := [(8, [24]), (9, [28]), (11, [33]), (13, [37]), (15, [41]), (17, [45]), (19, [49])], mask := [(3, [2, 4, 6, 12, 13, 14], [8])], fns := [], lcl := [], hnd := [], pro := [] } Tryz.func121

def d122 : DFn := ⟨[(.c .one)], [(.c .one), (.c .one), (.c .one)], .rw, [.tmp 2, .tmp 3, .tmp 4],
(.seq (.reg false [
mK 2 (.it .i64 0), mK 3 (.it .i64 0), mK 4 (.it .i64 0)] [])
(.seq (.reg true [
mV 5 0, nK 6 5, fA 7 0 6, lD 8 1 7, mV 10 0, nK 11 10, fA 12 0 11, lD 13 1 12, mV 15 0, nK 16 15, fA 17 0 16, lD 18 1 17, ⟨some 9, none, [12, 17], .call false .rw 141 [(.t 8)]⟩, ⟨some 14, none, [17], .call false .rw 142 [(.t 13)]⟩, cR 19 108 [(.t 18)], mV 2 9, mV 3 14, mV 4 19] [])
.ret))⟩
def c122 : Ev.Fn := d122.den
theorem r122 : OK 122 c122 := rd d122 { loc := [], md := .rw, mds := mds, heap := [], own := [], ord := [(1, [0, 1, 2, 3, 5, 6, 7, 8, 10, 11, 12, 13, 4, 9, 14, 15, 16, 17])], clr := [], mask := [], fns := [], lcl := [], hnd := [], pro := [] } Tryz.func122

def d123 : DFn := ⟨[(.c .one), (.c .one)], [(.c .one)], .rw, [.tmp 4],
(.seq (.reg false [
mK 4 (.it .i64 0)] [])
(.seq (.seq (.reg false [
mV 6 0, nK 7 6, fA 8 0 7, lD 9 1 8, mV 10 1, cR 11 143 [(.t 9), (.t 10)], mV 5 11] [])
(.seq (.reg false [
mV 12 5, ⟨some 13, none, [], .bin .no .neq (.t 12) (.k (.it .i64 0))⟩] [])
(.cond (.t 13)
(.seq (.reg false [
mV 14 5, mV 4 14] [])
.ret)
.skip)))
(.seq (.seq (.reg false [
mV 15 0, nK 16 15, fA 17 1 16, lD 18 1 17, mV 19 18, ⟨some 20, some (19, false), [], .mov (.t 1)⟩, ⟨some 21, some (19, false), [], .mov (.t 0)⟩, ⟨some 22, some (19, false), [], .nck (.t 21)⟩, ⟨some 23, some (19, false), [], .fad 2 (.t 22)⟩, ⟨some 24, some (19, false), [], .ld 1 false (.t 23)⟩, ⟨some 25, some (19, false), [], .bin .no .lss (.t 20) (.t 24)⟩, ⟨some 26, none, [], .pick (.t 19) (.k (.bo true)) (.t 25)⟩] [])
(.cond (.t 26)
(.reg false [
mV 27 0, mV 28 1, nK 29 27, fA 30 2 29, sO 1 30 28] [])
.skip))
(.seq (.reg false [
mV 31 0, nK 32 31, fA 33 1 32, ⟨none, none, [], .sto 1 (.t 33) (.k (.bo false))⟩] [])
(.seq (.reg false [
mK 4 (.it .i64 0)] [])
.ret)))))⟩
def c123 : Ev.Fn := d123.den
theorem r123 : OK 123 c123 := rd d123 { loc := [], md := .rw, mds := mds, heap := [], own := [], ord := [], clr := [], mask := [], fns := [], lcl := [], hnd := [], pro := [] } Tryz.func123

def d124 : DFn := ⟨[(.g [.one]), (.c .one), (.c .one)], [(.g [.one]), (.c .one)], .pure, [.cell 6 1 true, .tmp 7],
(.seq (.reg false [
⟨some 3, none, [], .box (.t 0)⟩, ⟨some 6, none, [], .alc [(.it .i64 0)]⟩, mK 7 (.bo false)] [])
(.seq (.seq (.reg false [
mV 9 1, cP 10 58 [(.t 9)], ⟨some 11, none, [], .un .not (.t 10)⟩, mV 12 11, ⟨some 13, some (12, false), [], .mov (.t 2)⟩, ⟨some 14, some (12, false), [], .call false .pure 58 [(.t 13)]⟩, ⟨some 15, some (12, false), [], .un .not (.t 14)⟩, ⟨some 16, none, [], .pick (.t 12) (.k (.bo true)) (.t 15)⟩] [])
(.cond (.t 16)
(.seq (.reg false [
lQ 17 1 3, sO 1 6 17, mK 7 (.bo false)] [])
.ret)
.skip))
(.seq (.reg false [
fA 18 0 3, lD 19 1 18, mV 20 2, ⟨some 21, none, [], .bin .no .add (.t 19) (.t 20)⟩, mV 22 1, ⟨some 23, none, [], .bin .no .sub (.t 21) (.t 22)⟩, mV 8 23] [18])
(.seq (.seq (.reg false [
mV 24 8, ⟨some 25, none, [], .bin .no .gtr (.t 24) (.k (.it .i64 2147483647))⟩, mV 26 25, ⟨some 27, some (26, false), [], .mov (.t 8)⟩, ⟨some 28, some (26, false), [], .bin .no .lss (.t 27) (.k (.it .i64 (-2147483647)))⟩, ⟨some 29, none, [], .pick (.t 26) (.k (.bo true)) (.t 28)⟩] [])
(.cond (.t 29)
(.seq (.reg false [
lQ 30 1 3, sO 1 6 30, mK 7 (.bo false)] [])
.ret)
.skip))
(.seq (.reg false [
mV 31 8, ⟨some 32, none, [], .bld [(.it .i64 0)] [(0, 1, (.t 31))]⟩, sO 1 6 32, mK 7 (.bo true)] [])
.ret)))))⟩
def c124 : Ev.Fn := d124.den
theorem r124 : OK 124 c124 := rd d124 { loc := [3, 6], md := .pure, mds := mds, heap := [], own := [], ord := [(0, [2, 0, 1])], clr := [(3, [18])], mask := [], fns := [], lcl := [], hnd := [], pro := [] } Tryz.func124

def d125 : DFn := ⟨[(.c (.sl [.one])), (.c .one)], [(.c .one)], .rw, [.tmp 4],
(.seq (.reg false [
mK 4 (.it .i64 0)] [])
(.seq (.seq (.reg false [
mV 6 0, lN 7 false 6, mK 8 (.it .i64 0)] [])
(.blk 0 (.loop [0, 1, 7, 8] []
(.seq (.reg false [
⟨some 9, none, [], .bin .no .lss (.t 8) (.t 7)⟩] [])
(.seq (.cond (.t 9)
.skip
(.exit 0))
(.seq (.blk 1 (.seq (.reg false [
mV 10 8, mV 5 10] [])
(.seq (.reg false [
mV 11 1, mV 12 0, mV 13 5, ⟨some 14, none, [], .ias 1 (.t 12) (.t 13)⟩, lD 15 1 14, ⟨some 16, none, [], .calv [] (.t 11) [(.t 15)]⟩] [])
(.cond (.t 16)
(.seq (.reg false [
mV 17 5, mV 4 17] [])
.ret)
.skip))))
(.reg false [
⟨some 18, none, [], .bin .no .add (.t 8) (.k (.it .i64 1))⟩, mV 8 18] [])))))))
(.seq (.reg false [
mK 4 (.it .i64 (-1))] [])
.ret)))⟩
def c125 : Ev.Fn := d125.den
theorem r125 : OK 125 c125 := rd d125 { loc := [], md := .rw, mds := mds, heap := [], own := [], ord := [], clr := [], mask := [(2, [0, 1, 7, 8], [])], fns := [], lcl := [], hnd := [], pro := [] } Tryz.func125

def d126 : DFn := ⟨[(.c (.sl [.one])), (.c .one)], [(.c .one)], .rw, [.tmp 4],
(.seq (.reg false [
mK 4 (.it .i64 0)] [])
(.seq (.seq (.reg false [
mV 6 0, lN 7 false 6, mK 8 (.it .i64 0)] [])
(.blk 0 (.loop [0, 1, 7, 8] []
(.seq (.reg false [
⟨some 9, none, [], .bin .no .lss (.t 8) (.t 7)⟩] [])
(.seq (.cond (.t 9)
.skip
(.exit 0))
(.seq (.blk 1 (.seq (.reg false [
mV 10 8, mV 5 10] [])
(.seq (.reg false [
mV 11 1, mV 12 0, mV 13 5, ⟨some 14, none, [], .ias 1 (.t 12) (.t 13)⟩, lD 15 1 14, ⟨some 16, none, [], .calv [] (.t 11) [(.t 15)]⟩] [])
(.cond (.t 16)
(.seq (.reg false [
mV 17 5, mV 4 17] [])
.ret)
.skip))))
(.reg false [
⟨some 18, none, [], .bin .no .add (.t 8) (.k (.it .i64 1))⟩, mV 8 18] [])))))))
(.seq (.reg false [
mK 4 (.it .i64 (-1))] [])
.ret)))⟩
def c126 : Ev.Fn := d126.den
theorem r126 : OK 126 c126 := rd d126 { loc := [], md := .rw, mds := mds, heap := [], own := [], ord := [], clr := [], mask := [(2, [0, 1, 7, 8], [])], fns := [], lcl := [], hnd := [], pro := [] } Tryz.func126

def d127 : DFn := ⟨[(.c .one), (.c .one), (.c .one), (.c .one)], [(.c (.sl [.one]))], .pure, [.tmp 8],
(.seq (.reg false [
mK 8 .ns] [])
(.seq (.seq (.reg false [
mV 12 3, ⟨some 13, none, [], .bin .no .eql (.t 12) (.k (.it .i64 0))⟩] [])
(.cond (.t 13)
(.seq (.reg false [
mK 8 .ns] [])
.ret)
.skip))
(.seq (.seq (.reg false [
mV 14 1, ⟨some 15, none, [], .bin .no .eql (.t 14) (.k (.st []))⟩] [])
(.cond (.t 15)
(.seq (.reg false [
mV 16 0, mV 17 3, cP 18 144 [(.t 16), (.t 17)], mV 8 18] [])
.ret)
.skip))
(.seq (.seq (.reg false [
mV 19 3, ⟨some 20, none, [], .bin .no .lss (.t 19) (.k (.it .i64 0))⟩] [])
(.cond (.t 20)
(.reg false [
mV 21 0, mV 22 1, cP 23 145 [(.t 21), (.t 22)], ⟨some 24, none, [], .bin .no .add (.t 23) (.k (.it .i64 1))⟩, mV 3 24] [])
.skip))
(.seq (.reg false [
mV 25 3, mV 26 0, lN 27 true 26, ⟨some 28, none, [], .bin .no .add (.t 27) (.k (.it .i64 1))⟩, ⟨some 29, none, [], .mnx false (.t 25) (.t 28)⟩, mV 3 29] [])
(.seq (.reg false [
mV 30 3, ⟨some 31, none, [], .mks 1 16 [(.st [])] (.t 30) (.t 30)⟩, mV 9 31] [])
(.seq (.reg false [
mV 32 3, ⟨some 33, none, [], .bin .no .sub (.t 32) (.k (.it .i64 1))⟩, mV 3 33] [])
(.seq (.reg false [
mK 10 (.it .i64 0)] [])
(.seq (.blk 0 (.loop [0, 1, 2, 3, 9, 10] []
(.seq (.seq (.reg false [
mV 34 10, mV 35 3, ⟨some 36, none, [], .bin .no .lss (.t 34) (.t 35)⟩] [])
(.cond (.t 36)
.skip
(.exit 0)))
(.blk 1 (.seq (.reg false [
mV 37 0, mV 38 1, cP 39 146 [(.t 37), (.t 38)], mV 11 39] [])
(.seq (.seq (.reg false [
mV 40 11, ⟨some 41, none, [], .bin .no .lss (.t 40) (.k (.it .i64 0))⟩] [])
(.cond (.t 41)
(.exit 0)
.skip))
(.seq (.reg false [
mV 42 9, mV 43 10, mV 44 0, mV 45 11, mV 46 2, ⟨some 47, none, [], .bin .no .add (.t 45) (.t 46)⟩, ⟨some 48, none, [], .slc true 0 (.t 44) none (some (.t 47))⟩, ⟨some 49, none, [], .ias 1 (.t 42) (.t 43)⟩, sO 1 49 48] [])
(.seq (.reg false [
mV 50 0, mV 51 11, mV 52 1, lN 53 true 52, ⟨some 54, none, [], .bin .no .add (.t 51) (.t 53)⟩, ⟨some 55, none, [], .slc true 0 (.t 50) (some (.t 54)) none⟩, mV 0 55] [])
(.reg false [
mV 56 10, ⟨some 57, none, [], .bin .no .add (.t 56) (.k (.it .i64 1))⟩, mV 10 57] [])))))))))
(.seq (.reg false [
mV 58 9, mV 59 10, mV 60 0, ⟨some 61, none, [], .ias 1 (.t 58) (.t 59)⟩, sO 1 61 60] [])
(.seq (.reg false [
mV 62 9, mV 63 10, ⟨some 64, none, [], .bin .no .add (.t 63) (.k (.it .i64 1))⟩, ⟨some 65, none, [], .slc false 1 (.t 62) none (some (.t 64))⟩, mV 8 65] [])
.ret)))))))))))⟩
def c127 : Ev.Fn := d127.den
theorem r127 : OK 127 c127 := rd d127 { loc := [], md := .pure, mds := mds, heap := [], own := [], ord := [], clr := [], mask := [(11, [0, 1, 2, 3, 9, 10], [])], fns := [], lcl := [], hnd := [], pro := [] } Tryz.func127

def d128 : DFn := ⟨[(.c .one), (.c .one)], [(.c .one), (.c .one), (.c .one)], .pure, [.tmp 4, .tmp 5, .tmp 6],
(.seq (.reg false [
mK 4 (.st []), mK 5 (.st []), mK 6 (.bo false)] [])
(.seq (.seq (.reg false [
mV 8 0, mV 9 1, cP 10 147 [(.t 8), (.t 9)], mV 7 10] [])
(.seq (.reg false [
mV 11 7, ⟨some 12, none, [], .bin .no .geq (.t 11) (.k (.it .i64 0))⟩] [])
(.cond (.t 12)
(.seq (.reg true [
mV 13 0, mV 14 7, ⟨some 15, none, [], .slc true 0 (.t 13) none (some (.t 14))⟩, mV 16 0, mV 17 7, mV 18 1, lN 19 true 18, ⟨some 20, none, [], .bin .no .add (.t 17) (.t 19)⟩, ⟨some 21, none, [], .slc true 0 (.t 16) (some (.t 20)) none⟩, mV 4 15, mV 5 21, mK 6 (.bo true)] [])
.ret)
.skip)))
(.seq (.reg false [
mV 22 0, mV 4 22, mK 5 (.st []), mK 6 (.bo false)] [])
.ret)))⟩
def c128 : Ev.Fn := d128.den
theorem r128 : OK 128 c128 := rd d128 { loc := [], md := .pure, mds := mds, heap := [], own := [], ord := [], clr := [], mask := [], fns := [], lcl := [], hnd := [], pro := [] } Tryz.func128

def d129 : DFn := ⟨[(.c .one)], [(.c .one)], .pure, [.tmp 2],
(.seq (.reg false [
mK 2 (.it .i64 0)] [])
(.seq (.reg false [
mK 3 (.it .i64 0)] [])
(.seq (.seq (.reg false [
mV 5 0, lN 6 true 5, mK 7 (.it .i64 0)] [])
(.blk 0 (.loop [0, 3, 6, 7] []
(.seq (.reg false [
⟨some 8, none, [], .bin .no .lss (.t 7) (.t 6)⟩] [])
(.seq (.cond (.t 8)
.skip
(.exit 0))
(.seq (.blk 1 (.seq (.reg false [
mV 9 7, mV 4 9] [])
(.reg false [
mV 10 3, mV 11 0, mV 12 4, ⟨some 13, none, [], .ixs (.t 11) (.t 12)⟩, cV 14 .i64 13, cP 15 148 [(.t 14)], ⟨some 16, none, [], .bin .no .add (.t 10) (.t 15)⟩, mV 3 16] [])))
(.reg false [
⟨some 17, none, [], .bin .no .add (.t 7) (.k (.it .i64 1))⟩, mV 7 17] [])))))))
(.seq (.reg false [
mV 18 3, ⟨some 19, none, [], .bin .no .add (.t 18) (.k (.it .i64 7))⟩, ⟨some 20, none, [], .bin .no .quo (.t 19) (.k (.it .i64 8))⟩, mV 2 20] [])
.ret))))⟩
def c129 : Ev.Fn := d129.den
theorem r129 : OK 129 c129 := rd d129 { loc := [], md := .pure, mds := mds, heap := [], own := [], ord := [], clr := [], mask := [(3, [0, 3, 6, 7], [])], fns := [], lcl := [], hnd := [], pro := [] } Tryz.func129

def d130 : DFn := ⟨[(.c .one)], [(.c (.sl [.one]))], .pure, [.tmp 2],
(.seq (.reg false [
mK 2 .ns] [])
(.seq (.reg false [
cR 9 149 [], mV 3 9] [])
(.seq (.reg false [
mV 10 0, cP 11 129 [(.t 10)], ⟨some 12, none, [], .mks 1 1 [(.it .u8 0)] (.k (.it .i64 0)) (.t 11)⟩, mV 4 12] [])
(.seq (.reg false [
mK 5 (.it .u64 0), mK 6 (.it .i64 0)] [])
(.seq (.seq (.reg false [
mV 13 0, lN 14 true 13, mK 15 (.it .i64 0)] [])
(.blk 0 (.loop [0, 3, 4, 5, 6, 14, 15] []
(.seq (.reg false [
⟨some 16, none, [], .bin .no .lss (.t 15) (.t 14)⟩] [])
(.seq (.cond (.t 16)
.skip
(.exit 0))
(.seq (.blk 1 (.seq (.reg false [
mV 17 15, mV 7 17] [])
(.seq (.reg false [
mV 18 0, mV 19 7, ⟨some 20, none, [], .ixs (.t 18) (.t 19)⟩, cV 21 .i64 20, cP 22 148 [(.t 21)], mV 8 22] [])
(.seq (.reg true [
mV 23 5, mV 24 8, cV 25 .u64 24, ⟨some 26, none, [], .bin .no .shl (.t 23) (.t 25)⟩, mV 27 3, mV 28 0, mV 29 7, ⟨some 30, none, [], .ixs (.t 28) (.t 29)⟩, nK 31 27, fA 32 353 31, ⟨some 33, none, [], .iaa 257 1 (.t 32) (.t 30)⟩, lD 34 1 33, cV 35 .u64 34, ⟨some 36, none, [], .bin .no .or (.t 26) (.t 35)⟩, mV 5 36] [])
(.seq (.reg false [
mV 37 6, mV 38 8, ⟨some 39, none, [], .bin .no .add (.t 37) (.t 38)⟩, mV 6 39] [])
(.blk 2 (.loop [0, 3, 4, 5, 6, 14, 15] []
(.seq (.seq (.reg false [
mV 40 6, ⟨some 41, none, [], .bin .no .geq (.t 40) (.k (.it .i64 8))⟩] [])
(.cond (.t 41)
.skip
(.exit 2)))
(.blk 3 (.seq (.reg false [
mV 42 6, ⟨some 43, none, [], .bin .no .sub (.t 42) (.k (.it .i64 8))⟩, mV 6 43] [])
(.reg false [
mV 44 4, mV 45 5, mV 46 6, cV 47 .u64 46, ⟨some 48, none, [], .bin .no .shr (.t 45) (.t 47)⟩, cV 49 .u8 48, ⟨some 50, none, [], .bsv [.one] 1 [[(.it .u8 0)]] [(0, (.t 49))]⟩, ⟨some 51, none, [], .app 1 1 (.t 44) (.t 50)⟩, mV 4 51] [])))))))))))
(.reg false [
⟨some 52, none, [], .bin .no .add (.t 15) (.k (.it .i64 1))⟩, mV 15 52] [])))))))
(.seq (.seq (.reg false [
mV 53 6, ⟨some 54, none, [], .bin .no .gtr (.t 53) (.k (.it .i64 0))⟩] [])
(.cond (.t 54)
(.reg false [
mV 55 4, mV 56 5, mV 57 6, ⟨some 58, none, [], .bin .no .sub (.k (.it .i64 8)) (.t 57)⟩, cV 59 .u64 58, ⟨some 60, none, [], .bin .no .shl (.t 56) (.t 59)⟩, cV 61 .u8 60, mV 62 6, cV 63 .u64 62, ⟨some 64, none, [], .bin .no .shr (.k (.it .u8 255)) (.t 63)⟩, ⟨some 65, none, [], .bin .no .or (.t 61) (.t 64)⟩, ⟨some 66, none, [], .bsv [.one] 1 [[(.it .u8 0)]] [(0, (.t 65))]⟩, ⟨some 67, none, [], .app 1 1 (.t 55) (.t 66)⟩, mV 4 67] [])
.skip))
(.seq (.reg false [
mV 68 4, mV 2 68] [])
.ret)))))))⟩
def c130 : Ev.Fn := d130.den
theorem r130 : OK 130 c130 := rd d130 { loc := [], md := .pure, mds := mds, heap := [51, 67], own := [51, 67], ord := [], clr := [], mask := [(5, [0, 3, 4, 5, 6, 14, 15], []), (10, [0, 3, 4, 5, 6, 14, 15], [])], fns := [], lcl := [], hnd := [], pro := [] } Tryz.func130

def d133 : DFn := ⟨[(.c .one), (.c .one), (.c .one)], [(.c .one)], .pure, [.tmp 6],
(.seq (.reg false [
mK 6 (.bo false)] [])
(.seq (.reg false [
mV 7 0, mV 8 1, ⟨some 9, none, [], .bin .no .geq (.t 7) (.t 8)⟩, mV 10 9, ⟨some 11, some (10, true), [], .mov (.t 0)⟩, ⟨some 12, some (10, true), [], .mov (.t 2)⟩, ⟨some 13, some (10, true), [], .bin .no .leq (.t 11) (.t 12)⟩, ⟨some 14, none, [], .pick (.t 10) (.t 13) (.k (.bo false))⟩, mV 6 14] [])
.ret))⟩
def c133 : Ev.Fn := d133.den
theorem r133 : OK 133 c133 := rd d133 { loc := [], md := .pure, mds := mds, heap := [], own := [], ord := [], clr := [], mask := [], fns := [], lcl := [], hnd := [], pro := [] } Tryz.func133

def d134 : DFn := ⟨[(.c (.sl [.one])), (.c .one)], [(.c .one)], .pure, [.tmp 4],
(.seq (.reg false [
mK 4 (.it .i64 0)] [])
(.seq (.seq (.reg false [
mV 6 0, lN 7 false 6, mK 8 (.it .i64 0)] [])
(.blk 0 (.loop [0, 1, 7, 8] []
(.seq (.reg false [
⟨some 9, none, [], .bin .no .lss (.t 8) (.t 7)⟩] [])
(.seq (.cond (.t 9)
.skip
(.exit 0))
(.seq (.blk 1 (.seq (.reg false [
mV 10 8, mV 5 10] [])
(.seq (.reg false [
mV 11 1, mV 12 0, mV 13 5, ⟨some 14, none, [], .ias 1 (.t 12) (.t 13)⟩, lD 15 1 14, ⟨some 16, none, [], .bin .no .eql (.t 11) (.t 15)⟩] [])
(.cond (.t 16)
(.seq (.reg false [
mV 17 5, mV 4 17] [])
.ret)
.skip))))
(.reg false [
⟨some 18, none, [], .bin .no .add (.t 8) (.k (.it .i64 1))⟩, mV 8 18] [])))))))
(.seq (.reg false [
mK 4 (.it .i64 (-1))] [])
.ret)))⟩
def c134 : Ev.Fn := d134.den
theorem r134 : OK 134 c134 := rd d134 { loc := [], md := .pure, mds := mds, heap := [], own := [], ord := [], clr := [], mask := [(2, [0, 1, 7, 8], [])], fns := [], lcl := [], hnd := [], pro := [] } Tryz.func134

def d135 : DFn := ⟨[(.g [.one])], [(.c .one)], .pure, [.tmp 2],
(.seq (.reg false [
⟨some 1, none, [], .box (.t 0)⟩, mK 2 (.it .i64 0)] [])
(.seq (.reg false [
fA 3 0 1, lD 4 1 3, mV 2 4] [3])
.ret))⟩
def c135 : Ev.Fn := d135.den
theorem r135 : OK 135 c135 := rd d135 { loc := [1], md := .pure, mds := mds, heap := [], own := [], ord := [(0, [1, 0])], clr := [(1, [3])], mask := [], fns := [], lcl := [], hnd := [], pro := [] } Tryz.func135

def d137 : DFn := ⟨[(.c .one), (.c .one)], [], .rw, [],
(.blk 0 (.loop [0, 1] []
(.seq (.seq (.reg true [
lD 2 1 0, nK 3 2, fA 4 2 3, lD 5 1 4, lD 6 1 1, lN 7 false 6, ⟨some 8, none, [], .bin .no .lss (.t 5) (.t 7)⟩] [])
(.cond (.t 8)
.skip
(.exit 0)))
(.blk 1 (.reg false [
lD 9 1 0, cR 10 138 [(.t 9)]] [])))))⟩
def c137 : Ev.Fn := d137.den
theorem r137 : OK 137 c137 := rd d137 { loc := [], md := .rw, mds := mds, heap := [], own := [], ord := [], clr := [], mask := [(0, [0, 1], [])], fns := [], lcl := [], hnd := [], pro := [] } Tryz.func137

end Go.Proofs.YtpncefcicfhibaaGreatDoor.tab
