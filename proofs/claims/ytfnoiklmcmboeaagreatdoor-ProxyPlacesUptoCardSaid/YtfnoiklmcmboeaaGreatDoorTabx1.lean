import Derived.Test.YtfnoiklmcmboeaaGreatDoorTab
import Derived.KernelRfl
set_option linter.unusedVariables false
set_option linter.unusedSimpArgs false
set_option linter.unusedSectionVars false
/- the functions of the seat, read off the program -/
namespace Go.Proofs.YtfnoiklmcmboeaaGreatDoor.tab
open Go hiding Fn
open Ev
def d95 : DFn := ⟨[(.c .one), (.c .one), (.g [.one, .one, (.sl [.one, .one]), .one, .one, .one])], [], .rw, [],
(s [o 5 (.box (t 2))]
(.seq (.reg false [
fA 7 0 5, lD 8 1 7] [7])
(.blk 0 (.seq (.reg false [
o 10 (b .eql (t 8) (k 1)), mV 9 10] [])
(.cond (t 9)
(r [mV 11 0, mV 12 1, lQ 13 6 5, cR 14 129 [t 11, t 12, t 13]])
(.seq (s [o 16 (b .eql (t 8) (k 3)), mV 15 16]
(.cond (t 15)
.skip
(r [o 17 (b .eql (t 8) (k 2)), mV 15 17])))
(.cond (t 15)
(r [mV 18 0, mV 19 1, lQ 20 6 5, cR 21 130 [t 18, t 19, t 20]])
(s [o 23 (b .eql (t 8) (k 4)), mV 22 23]
(.cond (t 22)
(.seq (.reg false [
mV 24 0, mV 25 1, fA 26 1 5, lD 27 1 26, cR 28 131 [t 24, t 25, t 27], mV 6 28] [26])
(.seq (.reg false [
mV 29 6, o 30 (.bin .ptr .neq (t 29) (.k .np))] [])
(.cond (t 30)
(r [mV 31 0, mV 32 6, cR 33 98 [t 31, t 32]])
.skip)))
(s [o 35 (b .eql (t 8) (k 6)), mV 34 35]
(.cond (t 34)
(r [mV 36 0, mV 37 1, cR 38 63 [t 36, t 37]])
.skip)))))))))))⟩
def c95 : Ev.Fn := d95.den
theorem r95 : OK 95 c95 := rd d95 { P0 .rw with loc := [5], clr := [(1, [7]), (8, [26])] } Tryz.func95
def d96 : DFn := ⟨[(.c .one), (.c .one), (.g [.one, .one, (.sl [.one, .one]), .one, .one, .one])], [], .rw, [],
(s [o 5 (.box (t 2))]
(.seq (.seq (.reg false [
fA 7 0 5, lD 8 1 7] [7])
(.blk 0 (.seq (.reg false [
o 10 (b .eql (t 8) (k 5)), mV 9 10] [])
(.cond (t 9)
(s [mV 11 0, mV 12 1, nK 13 11, fA 14 15 13, o 15 (.iaa 8 1 (t 14) (t 12)), lD 16 1 15, nK 17 16, fA 18 2 17, n (.sto 1 (t 18) (.k (.bo true)))]
(.seq (.reg false [
mV 19 0, mV 20 1, fA 21 1 5, lD 22 1 21, cR 23 64 [t 19, t 20, t 22]] [21])
.ret))
(.seq (.reg false [
o 25 (b .eql (t 8) (k 6)), mV 24 25] [])
(.cond (t 24)
(s [mV 26 0, mV 27 1, cR 28 64 [t 26, t 27, (.k (.it .i64 (-1)))]]
.ret)
.skip))))))
(.seq (.reg false [
mV 29 0, mV 30 1, fA 31 1 5, lD 32 1 31, cR 33 132 [t 29, t 30, t 32], mV 6 33] [31])
(.seq (.seq (.reg false [
mV 34 6, o 35 (.bin .ptr .eql (t 34) (.k .np))] [])
(.cond (t 35)
(.seq (.reg true [
mV 36 0, mV 37 1, nK 38 36, fA 39 15 38, o 40 (.iaa 8 1 (t 39) (t 37)), lD 41 1 40, nK 42 41, fA 43 0 42, lD 44 1 43, fA 45 1 5, lD 46 1 45, fA 47 3 5, lD 48 1 47, lN 49 true 48, cR 50 126 [t 44, t 46, t 49]] [45, 47])
.ret)
.skip))
(.seq (.reg false [
fA 51 0 5, lD 52 1 51] [51])
(.blk 1 (.seq (.reg false [
o 54 (b .eql (t 52) (k 1)), mV 53 54] [])
(.cond (t 53)
(r [mV 55 0, mV 56 6, lQ 57 6 5, cR 58 133 [t 55, t 56, t 57]])
(.seq (s [o 60 (b .eql (t 52) (k 3)), mV 59 60]
(.cond (t 59)
.skip
(r [o 61 (b .eql (t 52) (k 2)), mV 59 61])))
(.cond (t 59)
(r [mV 62 0, mV 63 6, lQ 64 6 5, cR 65 134 [t 62, t 63, t 64]])
(s [o 67 (b .eql (t 52) (k 4)), mV 66 67]
(.cond (t 66)
(r [mV 68 0, mV 69 6, cR 70 100 [t 68, t 69]])
.skip))))))))))))⟩
def c96 : Ev.Fn := d96.den
theorem r96 : OK 96 c96 := rd d96 { P0 .rw with loc := [5], clr := [(1, [7]), (4, [21]), (7, [31]), (9, [45, 47]), (10, [51])] } Tryz.func96
def d97 : DFn := ⟨[(.c .one), (.c .one), (.c .one)], [], .rw, [],
(.seq (.reg true [
mV 4 0, nK 5 4, fA 6 0 5, lD 7 1 6, lD 8 1 1, o 9 (b .eql (t 7) (t 8))] [])
(.cond (t 9)
(r [lD 10 1 2, mV 11 0, cR 12 98 [t 10, t 11]])
.skip))⟩
def c97 : Ev.Fn := d97.den
theorem r97 : OK 97 c97 := rd d97 (P0 .rw) Tryz.func97
def d101 : DFn := ⟨[(.c (.sl [.one]))], [(.c (.sl [.one]))], .rw, [.tmp 2],
(s [mK 2 .ns]
(.seq (s [mV 3 0, o 4 (.hnd (.eqs .eql) [t 3, (.k .ns)])]
(.cond (t 4)
(s [mK 2 .ns]
.ret)
.skip))
(s [o 5 (.bsl 1 [] []), mV 6 0, o 7 (.app 1 8 (t 5) (t 6)), mV 2 7]
.ret)))⟩
def c101 : Ev.Fn := d101.den
theorem r101 : OK 101 c101 := rd d101 { P0 .rw with heap := [5], own := [5], ord := [(3, [1, 0, 2, 3])], hnd := [4] } Tryz.func101
def d102 : DFn := ⟨[(.c .one), (.c .one)], [(.c .one)], .rw, [.tmp 4],
(s [mK 4 (.it .i64 0)]
(s [mK 5 (.it .i64 (-1))]
(.seq (s [mV 10 0, nK 11 10, fA 12 15 11, lQ 13 8 12, mK 14 (.it .i64 0)]
(.blk 0 (.loop [0, 1, 5, 13, 14] []
(s [o 15 (b .lss (t 14) (k 8))]
(.seq (.cond (t 15)
.skip
(.exit 0))
(.seq (.blk 1 (s [mV 16 14, o 17 (.ixa 8 1 false (t 13) (t 14)), mV 6 16, mV 7 17]
(.seq (s [mV 18 7, o 19 (.bin .ptr .neq (t 18) (.k .np)), mV 20 19, w 21 20 (.mov (t 7)), w 22 20 (.nck (t 21)), w 23 20 (.fad 1 (t 22)), w 24 20 (.ld 1 false (t 23)), w 25 20 (.mov (t 1)), w 26 20 (b .eql (t 24) (t 25)), o 27 (.pick (t 20) (t 26) (.k (.bo false)))]
(.cond (t 27)
(s [mV 28 6, mV 4 28]
.ret)
.skip))
(s [mV 29 7, o 30 (.bin .ptr .eql (t 29) (.k .np)), mV 31 30, w 32 31 (.mov (t 5)), w 33 31 (b .lss (t 32) (k 0)), o 34 (.pick (t 31) (t 33) (.k (.bo false))), mV 35 34, w 36 35 (.mov (t 6)), w 37 35 (.mov (t 0)), w 38 35 (.nck (t 37)), w 39 35 (.fad 0 (t 38)), w 40 35 (.fad 6 (t 39)), w 41 35 (.ld 1 false (t 40)), w 42 35 (b .lss (t 36) (t 41)), o 43 (.pick (t 35) (t 42) (.k (.bo false)))]
(.cond (t 43)
(r [mV 44 6, mV 5 44])
.skip)))))
(r [o 45 (b .add (t 14) (k 1)), mV 14 45])))))))
(.seq (s [mV 46 5, o 47 (b .geq (t 46) (k 0))]
(.cond (t 47)
(s [mV 49 0, nK 50 49, fA 51 0 50, fA 52 2 51, lQ 53 3 52, cR 54 19 [(.k (.bo false)), t 53], mV 48 54, eX 55 48 0, eX 56 48 1, mV 8 55, mV 9 56]
(s [mV 57 0, mV 58 5, mV 59 8, mV 60 1, o 61 (.bld [.np, (.st []), (.bo false)] [(0, 1, (t 59)), (1, 1, (t 60))]), o 62 (.bxh (t 61)), nK 63 57, fA 64 15 63, o 65 (.iaa 8 1 (t 64) (t 58)), sO 1 65 62]
(r [mV 66 0, mV 67 0, nK 68 67, fA 69 26 68, lD 70 1 69, mV 71 5, mV 72 1, o 73 (.bld [(.it .i64 0), (.st [])] [(0, 1, (t 71)), (1, 1, (t 72))]), o 74 (.bsv [.one, .one] 2 [[(.it .i64 0), (.st [])]] [(0, (t 73))]), o 75 (.app 2 24 (t 70) (t 74)), nK 76 66, fA 77 26 76, sO 1 77 75])))
.skip))
(s [mV 78 5, mV 4 78]
.ret)))))⟩
def c102 : Ev.Fn := d102.den
theorem r102 : OK 102 c102 := rd d102 { P0 .rw with heap := [75], own := [75], ord := [(12, [0, 1, 2, 3, 4, 6, 7, 5, 8, 9])], mask := [(3, [0, 1, 5, 13, 14], [])] } Tryz.func102
def d104 : DFn := ⟨[(.c (.sl [.one, .one]))], [(.c (.sl [.one, .one]))], .pure, [.tmp 2],
(s [mK 2 .ns]
(s [mV 12 0, o 13 (.call false .pure 140 [t 12, (.k (.st [99, 111, 110, 110, 101, 99, 116, 105, 111, 110]))]), mV 11 13, eX 14 11 0, eX 15 11 1, mV 3 14, mV 4 15]
(s [mV 17 3, o 18 (.call true .pure 141 [t 17]), mV 16 18, eX 19 16 0, eX 20 16 1, mV 5 19, mV 6 20]
(.seq (s [mV 21 5, lN 22 false 21, mK 23 (.it .i64 0)]
(.blk 0 (.loop [0, 5, 22, 23] [10]
(s [o 24 (b .lss (t 23) (t 22))]
(.seq (.cond (t 24)
.skip
(.exit 0))
(.seq (.blk 1 (s [mV 25 23, mV 7 25]
(r [mV 26 5, mV 27 7, mV 28 5, mV 29 7, o 30 (.ias 1 (t 28) (t 29)), lD 31 1 30, o 32 (.call true .pure 142 [t 31]), o 33 (.ias 1 (t 26) (t 27)), sO 1 33 32])))
(r [o 34 (b .add (t 23) (k 1)), mV 23 34])))))))
(s [mK 8 .ns]
(.seq (s [mV 35 0, lN 36 false 35, mK 37 (.it .i64 0)]
(.blk 2 (.loop [5, 8, 35, 36, 37] [10]
(s [o 38 (b .lss (t 37) (t 36))]
(.seq (.cond (t 38)
.skip
(.exit 2))
(.seq (.blk 3 (s [o 39 (.ias 2 (t 35) (t 37)), lQ 40 2 39, o 10 (.alc [(.st []), (.st [])]), sO 2 10 40]
(.seq (.reg false [
fA 41 0 10, lD 42 1 41, cP 43 143 [t 42], o 44 (.un .not (t 43)), mV 45 44, w 46 45 (.fad 0 (t 10)), w 47 45 (.ld 1 false (t 46)), w 48 45 (b .neq (t 47) (.k (.st [116, 101]))), o 49 (.pick (t 45) (t 48) (.k (.bo false))), mV 50 49, w 51 50 (.mov (t 5)), w 52 50 (.fad 0 (t 10)), w 53 50 (.ld 1 false (t 52)), w 54 50 (.call false .pure 144 [t 51, t 53]), w 55 50 (.un .not (t 54)), o 56 (.pick (t 50) (t 55) (.k (.bo false)))] [41, 46, 52])
(.cond (t 56)
(.reg false [
mV 57 8, lQ 58 2 10, o 59 (.bsv [.one, .one] 2 [[(.st []), (.st [])]] [(0, (t 58))]), o 60 (.app 2 32 (t 57) (t 59)), mV 8 60] [])
.skip))))
(r [o 61 (b .add (t 37) (k 1)), mV 37 61])))))))
(s [mV 62 8, mV 2 62]
.ret)))))))⟩
def c104 : Ev.Fn := d104.den
theorem r104 : OK 104 c104 := rd d104 { P0 .pure with loc := [10], heap := [18, 32, 60], own := [18, 32, 60], clr := [(12, [41, 46, 52])], mask := [(4, [0, 5, 22, 23], [10]), (10, [5, 8, 35, 36, 37], [10])] } Tryz.func104
def d105 : DFn := ⟨[], [(.g [.one, .one])], .pure, [.cell 0 2 true],
(s [o 0 (.alc [(.st []), (.st [])])]
(s [o 1 (.bld [(.st []), (.st [])] [(0, 1, (.k (.st [118, 105, 97]))), (1, 1, (.k (.st [50, 32, 114, 101, 115, 101, 114, 118, 111, 105, 114])))]), sO 2 0 1]
.ret))⟩
def c105 : Ev.Fn := d105.den
theorem r105 : OK 105 c105 := rd d105 { P0 .pure with loc := [0] } Tryz.func105
def d106 : DFn := ⟨[(.c (.sl [.one, .one]))], [(.c .one)], .pure, [.tmp 2],
(s [mK 2 (.bo false)]
(.seq (s [mV 5 0, lN 6 false 5, mK 7 (.it .i64 0)]
(.blk 0 (.loop [0, 5, 6, 7] [4]
(s [o 8 (b .lss (t 7) (t 6))]
(.seq (.cond (t 8)
.skip
(.exit 0))
(.seq (.blk 1 (s [o 9 (.ias 2 (t 5) (t 7)), lQ 10 2 9, o 4 (.alc [(.st []), (.st [])]), sO 2 4 10]
(.seq (.reg false [
fA 11 0 4, lD 12 1 11, lN 13 true 12, o 14 (b .gtr (t 13) (k 65536)), mV 15 14, x 16 15 (.fad 1 (t 4)), x 17 15 (.ld 1 false (t 16)), x 18 15 (.len true (t 17)), x 19 15 (b .gtr (t 18) (k 65536)), o 20 (.pick (t 15) (.k (.bo true)) (t 19))] [11, 16])
(.cond (t 20)
(.seq (.reg false [
mK 2 (.bo false)] [])
.ret)
.skip))))
(r [o 21 (b .add (t 7) (k 1)), mV 7 21])))))))
(s [mV 22 0, cP 23 145 [t 22], o 24 (b .leq (t 23) (k 65536)), mV 2 24]
.ret)))⟩
def c106 : Ev.Fn := d106.den
theorem r106 : OK 106 c106 := rd d106 { P0 .pure with loc := [4], clr := [(4, [11, 16])], mask := [(2, [0, 5, 6, 7], [4])] } Tryz.func106
def d107 : DFn := ⟨[(.c (.sl [.one, .one]))], [(.c (.sl [.one, .one, .one]))], .pure, [.tmp 2],
(s [mK 2 .ns]
(s [mK 3 .ns]
(.seq (s [mV 7 0, lN 8 false 7, mK 9 (.it .i64 0)]
(.blk 0 (.loop [3, 7, 8, 9] [5]
(s [o 10 (b .lss (t 9) (t 8))]
(.seq (.cond (t 10)
.skip
(.exit 0))
(.seq (.blk 1 (s [o 11 (.ias 2 (t 7) (t 9)), lQ 12 2 11, o 5 (.alc [(.st []), (.st [])]), sO 2 5 12]
(s [mK 6 (.it .i64 1)]
(.seq (.seq (.reg false [
fA 13 0 5, lD 14 1 13] [13])
(.blk 2 (.seq (.seq (.reg false [
o 16 (b .eql (t 14) (.k (.st [97, 117, 116, 104, 111, 114, 105, 122, 97, 116, 105, 111, 110]))), mV 15 16] [])
(.cond (t 15)
.skip
(s [o 17 (b .eql (t 14) (.k (.st [99, 111, 111, 107, 105, 101]))), mV 15 17]
(.cond (t 15)
.skip
(r [o 18 (b .eql (t 14) (.k (.st [115, 101, 116, 45, 99, 111, 111, 107, 105, 101]))), mV 15 18])))))
(.cond (t 15)
(r [mK 6 (.it .i64 3)])
(s [o 20 (b .eql (t 14) (.k (.st [97, 103, 101]))), mV 19 20]
(.cond (t 19)
(r [mK 6 (.it .i64 2)])
.skip))))))
(r [mV 21 3, lQ 22 2 5, mV 23 6, o 24 (.bld [(.st []), (.st []), (.it .i64 0)] [(0, 2, (t 22)), (2, 1, (t 23))]), o 25 (.bsv [.one, .one, .one] 3 [[(.st []), (.st []), (.it .i64 0)]] [(0, (t 24))]), o 26 (.app 3 40 (t 21) (t 25)), mV 3 26])))))
(r [o 27 (b .add (t 9) (k 1)), mV 9 27])))))))
(s [mV 28 3, mV 2 28]
.ret))))⟩
def c107 : Ev.Fn := d107.den
theorem r107 : OK 107 c107 := rd d107 { P0 .pure with loc := [5], heap := [26], own := [26], clr := [(6, [13])], mask := [(3, [3, 7, 8, 9], [5])] } Tryz.func107
def d108 : DFn := ⟨[(.c .one), (.c .one), (.c .one)], [], .rw, [],
(s [mV 7 0, mV 8 1, nK 9 8, fA 10 0 9, lD 11 1 10, cR 12 23 [t 7, t 11], mV 6 12]
(s [mV 13 6, o 14 (.bin .ptr .neq (t 13) (.k .np))]
(.cond (t 14)
(r [mV 15 6, mV 16 1, nK 17 16, fA 18 1 17, lD 19 1 18, mV 20 2, cR 21 126 [t 15, t 19, t 20]])
.skip)))⟩
def c108 : Ev.Fn := d108.den
theorem r108 : OK 108 c108 := rd d108 (P0 .rw) Tryz.func108
def d109 : DFn := ⟨[(.c .one), (.c .one), (.c .one)], [], .rw, [],
(s [mV 6 1, nK 7 6, fA 8 20 7, lD 9 1 8, mV 10 9, w 11 10 (.mov (t 1)), w 12 10 (.nck (t 11)), w 13 10 (.fad 28 (t 12)), w 14 10 (.ld 1 false (t 13)), o 15 (.pick (t 10) (t 14) (.k (.bo false))), mV 16 15, w 17 16 (.mov (t 2)), w 18 16 (b .gtr (t 17) (k 0)), o 19 (.pick (t 16) (t 18) (.k (.bo false)))]
(.cond (t 19)
(.reg true [
mV 20 0, mV 21 1, nK 22 21, fA 23 21 22, lD 24 1 23, nK 25 20, fA 26 15 25, o 27 (.iaa 8 1 (t 26) (t 24)), lD 28 1 27, nK 29 28, fA 30 0 29, lD 31 1 30, mV 32 1, nK 33 32, fA 34 22 33, lD 35 1 34, mV 36 2, cR 37 126 [t 31, t 35, t 36]] [])
.skip))⟩
def c109 : Ev.Fn := d109.den
theorem r109 : OK 109 c109 := rd d109 (P0 .rw) Tryz.func109
def d110 : DFn := ⟨[(.c .one), (.c .one)], [], .rw, [],
(.seq (s [mV 4 1, nK 5 4, fA 6 10 5, lD 7 1 6, o 8 (.un .not (t 7))]
(.cond (t 8)
(.reg true [
mV 9 0, mV 10 1, nK 11 10, fA 12 0 11, lD 13 1 12, nK 14 9, fA 15 7 14, o 16 (.iaa 8 1 (t 15) (t 13)), lD 17 1 16, mV 18 1, nK 19 18, fA 20 1 19, lD 21 1 20, cR 22 45 [t 17, t 21, (k 0)]] [])
.skip))
(.seq (s [mV 23 1, nK 24 23, fA 25 23 24, lD 26 1 25, o 27 (.un .not (t 26))]
(.cond (t 27)
(r [mV 28 0, mV 29 1, cR 30 136 [t 28, t 29]])
.skip))
(r [mV 31 0, mV 32 1, cR 33 137 [t 31, t 32]])))⟩
def c110 : Ev.Fn := d110.den
theorem r110 : OK 110 c110 := rd d110 (P0 .rw) Tryz.func110
def d111 : DFn := ⟨[(.g [.one, .one])], [(.c .one)], .pure, [.tmp 2],
(s [o 1 (.box (t 0)), mK 2 (.it .i64 0)]
(.seq (.reg false [
fA 3 0 1, lD 4 1 3, lN 5 true 4, fA 6 1 1, lD 7 1 6, lN 8 true 7, o 9 (b .add (t 5) (t 8)), o 10 (b .add (t 9) (k 32)), mV 2 10] [3, 6])
.ret))⟩
def c111 : Ev.Fn := d111.den
theorem r111 : OK 111 c111 := rd d111 { P0 .pure with loc := [1], ord := [(0, [1, 0])], clr := [(1, [3, 6])] } Tryz.func111
def d112 : DFn := ⟨[(.c .one), (.c (.sl [.one, .one, .one]))], [(.c (.sl [.one]))], .rw, [.tmp 4],
(.seq (.reg false [
mK 4 .ns] [])
(s [mV 10 0, cR 11 146 [t 10], mV 5 11]
(.seq (s [mV 12 1, lN 13 false 12, mK 14 (.it .i64 0)]
(.blk 0 (.loop [0, 5, 12, 13, 14] [7]
(s [o 15 (b .lss (t 14) (t 13))]
(.seq (.cond (t 15)
.skip
(.exit 0))
(.seq (.blk 1 (s [o 16 (.ias 3 (t 12) (t 14)), lQ 17 3 16, o 7 (.alc [(.st []), (.st []), (.it .i64 0)]), sO 3 7 17]
(.seq (.reg true [
mV 19 0, nK 20 19, fA 21 0 20, lD 22 1 21, fA 23 0 7, lQ 24 2 23, cR 25 147 [t 22, t 24], mV 18 25, eX 26 18 0, eX 27 18 1, mV 8 26, mV 9 27] [23])
(.blk 2 (.seq (.reg false [
mV 34 9, mV 35 34, w 36 35 (.fad 2 (t 7)), w 37 35 (.ld 1 false (t 36)), w 38 35 (b .neq (t 37) (k 3)), o 39 (.pick (t 35) (t 38) (.k (.bo false))), mV 33 39] [36])
(.cond (t 33)
(.reg false [
mV 40 5, mV 41 8, cP 42 148 [t 40, (k 7), (.k (.it .u8 128)), t 41], mV 5 42] [])
(.seq (.reg false [
fA 44 2 7, lD 45 1 44, o 46 (b .eql (t 45) (k 1)), mV 43 46] [44])
(.cond (t 43)
(.seq (.reg false [
mV 47 5, mV 48 8, fA 49 0 7, lQ 50 2 49, cP 51 149 [t 47, t 48, (k 6), (.k (.it .u8 64)), t 50], mV 5 51] [49])
(.reg true [
mV 52 0, nK 53 52, fA 54 0 53, lD 55 1 54, fA 56 0 7, lQ 57 2 56, cR 58 150 [t 55, t 57]] [56]))
(.seq (.reg false [
fA 60 2 7, lD 61 1 60, o 62 (b .eql (t 61) (k 3)), mV 59 62] [60])
(.cond (t 59)
(.reg false [
mV 63 5, mV 64 8, fA 65 0 7, lQ 66 2 65, cP 67 149 [t 63, t 64, (k 4), (.k (.it .u8 16)), t 66], mV 5 67] [65])
(.reg false [
mV 28 5, mV 29 8, fA 30 0 7, lQ 31 2 30, cP 32 149 [t 28, t 29, (k 4), (.k (.it .u8 0)), t 31], mV 5 32] [30])))))))))))
(.reg false [
o 68 (b .add (t 14) (k 1)), mV 14 68] [])))))))
(.seq (r [mV 69 5, mV 4 69])
.ret))))⟩
def c112 : Ev.Fn := d112.den
theorem r112 : OK 112 c112 := rd d112 { P0 .rw with loc := [7], clr := [(5, [23]), (7, [36]), (9, [44]), (10, [49]), (11, [56]), (12, [60]), (13, [65]), (6, [30])], mask := [(3, [0, 5, 12, 13, 14], [7])] } Tryz.func112
def d113 : DFn := ⟨[(.c .one)], [(.c .one)], .pure, [.tmp 2],
(s [mK 2 (.it .i64 0)]
(.seq (s [mV 3 0]
(.cond (t 3)
(s [mK 2 (.it .i64 1)]
.ret)
.skip))
(s [mK 2 (.it .i64 2)]
.ret)))⟩
def c113 : Ev.Fn := d113.den
theorem r113 : OK 113 c113 := rd d113 (P0 .pure) Tryz.func113
def d114 : DFn := ⟨[(.c .one), (.c (.sl [.one]))], [(.c (.sl [.one]))], .rw, [.tmp 4],
(s [mK 4 .ns]
(.seq (.blk 0 (.loop [0, 1] []
(.seq (s [mV 5 1, lN 6 false 5, o 7 (b .gtr (t 6) (k 0)), mV 8 7, w 9 8 (.mov (t 0)), w 10 8 (.nck (t 9)), w 11 8 (.fad 1 (t 10)), w 12 8 (.ld 1 false (t 11)), w 13 8 (b .neq (t 12) (.k (.st []))), o 14 (.pick (t 8) (t 13) (.k (.bo false)))]
(.cond (t 14)
.skip
(.exit 0)))
(.blk 1 (.seq (.seq (.reg true [
mV 15 1, o 16 (.ias 1 (t 15) (k 0)), lD 17 1 16, mV 18 0, nK 19 18, fA 20 1 19, lD 21 1 20, o 22 (.ixs (t 21) (k 0)), o 23 (b .neq (t 17) (t 22))] [])
(.cond (t 23)
(s [mV 24 0, cR 25 151 [t 24, (k 1)]]
(s [mK 4 .ns]
.ret))
.skip))
(.reg true [
mV 26 0, mV 27 1, o 28 (.slc false 1 (t 27) (some (k 1)) none), mV 29 0, nK 30 29, fA 31 1 30, lD 32 1 31, o 33 (.slc true 0 (t 32) (some (k 1)) none), mV 1 28, nK 34 26, fA 35 1 34, sO 1 35 33] []))))))
(s [mV 36 1, mV 4 36]
.ret)))⟩
def c114 : Ev.Fn := d114.den
theorem r114 : OK 114 c114 := rd d114 { P0 .rw with mask := [(1, [0, 1], [])] } Tryz.func114
def d115 : DFn := ⟨[(.c .one)], [(.g [.one, .one, .one, (.sl [.one])]), (.c .one)], .rw, [.cell 2 4 true, .tmp 3],
(s [o 2 (.alc [(.it .i64 0), (.it .i64 0), (.it .i64 0), .ns]), mK 3 (.bo false)]
(.seq (s [mV 7 0, nK 8 7, fA 9 2 8, lD 10 1 9, lN 11 false 10, o 12 (b .lss (t 11) (k 9))]
(.cond (t 12)
(s [o 13 (.bld [(.it .i64 0), (.it .i64 0), (.it .i64 0), .ns] []), sO 4 2 13, mK 3 (.bo false)]
.ret)
.skip))
(s [mV 14 0, nK 15 14, fA 16 2 15, lD 17 1 16, o 18 (.slc false 1 (t 17) none (some (k 9))), mV 4 18]
(.seq (.reg true [
mV 19 4, o 20 (.ias 1 (t 19) (k 0)), lD 21 1 20, cV 22 .i64 21, o 23 (b .shl (t 22) (.k (.it .u64 16))), mV 24 4, o 25 (.ias 1 (t 24) (k 1)), lD 26 1 25, cV 27 .i64 26, o 28 (b .shl (t 27) (.k (.it .u64 8))), o 29 (b .or (t 23) (t 28)), mV 30 4, o 31 (.ias 1 (t 30) (k 2)), lD 32 1 31, cV 33 .i64 32, o 34 (b .or (t 29) (t 33)), mV 5 34] [])
(.seq (s [mV 35 5, mV 36 0, nK 37 36, fA 38 0 37, lD 39 1 38, o 40 (b .gtr (t 35) (t 39))]
(.cond (t 40)
(s [mV 41 0, cR 42 151 [t 41, (k 6)]]
(s [o 43 (.bld [(.it .i64 0), (.it .i64 0), (.it .i64 0), .ns] []), sO 4 2 43, mK 3 (.bo false)]
.ret))
.skip))
(.seq (s [mV 44 0, nK 45 44, fA 46 2 45, lD 47 1 46, lN 48 false 47, mV 49 5, o 50 (b .add (k 9) (t 49)), o 51 (b .lss (t 48) (t 50))]
(.cond (t 51)
(s [o 52 (.bld [(.it .i64 0), (.it .i64 0), (.it .i64 0), .ns] []), sO 4 2 52, mK 3 (.bo false)]
.ret)
.skip))
(.seq (.reg true [
mV 53 4, o 54 (.ias 1 (t 53) (k 3)), lD 55 1 54, cV 56 .i64 55, mV 57 4, o 58 (.ias 1 (t 57) (k 4)), lD 59 1 58, cV 60 .i64 59, mV 61 4, o 62 (.ias 1 (t 61) (k 5)), lD 63 1 62, o 64 (b .and (t 63) (.k (.it .u8 127))), cV 65 .i64 64, o 66 (b .shl (t 65) (.k (.it .u64 24))), mV 67 4, o 68 (.ias 1 (t 67) (k 6)), lD 69 1 68, cV 70 .i64 69, o 71 (b .shl (t 70) (.k (.it .u64 16))), o 72 (b .or (t 66) (t 71)), mV 73 4, o 74 (.ias 1 (t 73) (k 7)), lD 75 1 74, cV 76 .i64 75, o 77 (b .shl (t 76) (.k (.it .u64 8))), o 78 (b .or (t 72) (t 77)), mV 79 4, o 80 (.ias 1 (t 79) (k 8)), lD 81 1 80, cV 82 .i64 81, o 83 (b .or (t 78) (t 82)), o 84 (.bld [(.it .i64 0), (.it .i64 0), (.it .i64 0), .ns] [(0, 1, (t 56)), (1, 1, (t 60)), (2, 1, (t 83))]), u 6 [53, 54, 55, 57, 58, 59, 61, 62, 64, 67, 68, 69, 73, 74, 75, 79, 80, 81] (.alc [(.it .i64 0), (.it .i64 0), (.it .i64 0), .ns]), sO 4 6 84] [])
(.seq (.reg false [
mV 85 0, nK 86 85, fA 87 2 86, lD 88 1 87, mV 89 5, o 90 (b .add (k 9) (t 89)), o 91 (.slc false 1 (t 88) (some (k 9)) (some (t 90))), o 92 (.app 1 1 (.k .ns) (t 91)), fA 93 3 6, sO 1 93 92] [93])
(.seq (.reg false [
mV 94 0, mV 95 0, nK 96 95, fA 97 2 96, lD 98 1 97, mV 99 5, o 100 (b .add (k 9) (t 99)), o 101 (.slc false 1 (t 98) (some (t 100)) none), nK 102 94, fA 103 2 102, sO 1 103 101] [])
(s [lQ 104 4 6, sO 4 2 104, mK 3 (.bo true)]
.ret))))))))))⟩
def c115 : Ev.Fn := d115.den
theorem r115 : OK 115 c115 := rd d115 { P0 .rw with loc := [2, 6], ord := [(0, [1, 0])], clr := [(11, [93])] } Tryz.func115
def d116 : DFn := ⟨[(.g [.one, .one, .one, (.sl [.one])])], [(.g [.one, .one, .one, .one, .one, (.sl [.one]), .one, .one, .one, .one, (.sl [.one, .one])]), (.g [.one, .one, .one])], .pure, [.cell 2 11 true, .cell 3 3 true],
(s [o 1 (.box (t 0)), o 2 (.alc [(.it .i64 0), (.it .i64 0), (.bo false), (.bo false), (.bo false), .ns, (.it .i64 0), (.it .i64 0), (.it .i64 0), (.it .i64 0), .ns]), o 3 (.alc [(.it .i64 0), (.it .i64 0), (.it .i64 0)])]
(.seq (.reg false [
fA 6 0 1, lD 7 1 6, fA 8 2 1, lD 9 1 8, o 10 (.bld [(.it .i64 0), (.it .i64 0), (.bo false), (.bo false), (.bo false), .ns, (.it .i64 0), (.it .i64 0), (.it .i64 0), (.it .i64 0), .ns] [(0, 1, (t 7)), (1, 1, (t 9))]), u 4 [6, 8] (.alc [(.it .i64 0), (.it .i64 0), (.bo false), (.bo false), (.bo false), .ns, (.it .i64 0), (.it .i64 0), (.it .i64 0), (.it .i64 0), .ns]), sO 11 4 10] [6, 8])
(.seq (.seq (.reg false [
lQ 11 4 1, cP 12 94 [t 11], o 13 (.un .not (t 12)), mV 14 13, x 15 14 (.fad 0 (t 1)), x 16 14 (.ld 1 false (t 15)), x 17 14 (b .gtr (t 16) (k 9)), o 18 (.pick (t 14) (.k (.bo true)) (t 17))] [15])
(.cond (t 18)
(.seq (.reg false [
lQ 19 11 4, o 20 (.bld [(.it .i64 0), (.it .i64 0), (.it .i64 0)] []), sO 11 2 19, sO 3 3 20] [])
.ret)
.skip))
(.seq (s [lQ 21 4 1, cP 22 152 [t 21]]
(.cond (t 22)
(s [o 23 (.bld [(.it .i64 0), (.it .i64 0), (.bo false), (.bo false), (.bo false), .ns, (.it .i64 0), (.it .i64 0), (.it .i64 0), (.it .i64 0), .ns] []), cP 24 153 [(k 1)], sO 11 2 23, sO 3 3 24]
.ret)
.skip))
(.seq (.reg false [
fA 25 3 1, lD 26 1 25, mV 5 26] [25])
(.seq (.seq (.reg false [
fA 27 0 1, lD 28 1 27] [27])
(.blk 0 (.seq (.reg false [
o 30 (b .eql (t 28) (k 0)), mV 29 30] [])
(.cond (t 29)
(s [lQ 31 4 1, lQ 32 11 4, cP 33 154 [t 31, t 32], eX 34 33 0, eX 35 33 1, sO 11 2 34, sO 3 3 35]
.ret)
(s [o 37 (b .eql (t 28) (k 1)), mV 36 37]
(.cond (t 36)
(s [lQ 38 4 1, lQ 39 11 4, cP 40 155 [t 38, t 39], eX 41 40 0, eX 42 40 1, sO 11 2 41, sO 3 3 42]
.ret)
(s [o 44 (b .eql (t 28) (k 2)), mV 43 44]
(.cond (t 43)
(s [lQ 45 4 1, lQ 46 11 4, cP 47 156 [t 45, t 46], eX 48 47 0, eX 49 47 1, sO 11 2 48, sO 3 3 49]
.ret)
(s [o 51 (b .eql (t 28) (k 3)), mV 50 51]
(.cond (t 50)
(.seq (s [mV 52 5, lN 53 false 52, o 54 (b .neq (t 53) (k 4))]
(.cond (t 54)
(s [o 55 (.bld [(.it .i64 0), (.it .i64 0), (.bo false), (.bo false), (.bo false), .ns, (.it .i64 0), (.it .i64 0), (.it .i64 0), (.it .i64 0), .ns] []), cP 56 153 [(k 6)], sO 11 2 55, sO 3 3 56]
.ret)
.skip))
(.reg false [
mV 57 5, cP 58 157 [t 57], fA 59 6 4, sO 1 59 58] [59]))
(s [o 61 (b .eql (t 28) (k 4)), mV 60 61]
(.cond (t 60)
(s [lQ 62 4 1, lQ 63 11 4, cR 64 158 [t 62, t 63], eX 65 64 0, eX 66 64 1, sO 11 2 65, sO 3 3 66]
.ret)
(s [o 68 (b .eql (t 28) (k 6)), mV 67 68]
(.cond (t 67)
(.seq (s [mV 69 5, lN 70 false 69, o 71 (b .neq (t 70) (k 8))]
(.cond (t 71)
(s [o 72 (.bld [(.it .i64 0), (.it .i64 0), (.bo false), (.bo false), (.bo false), .ns, (.it .i64 0), (.it .i64 0), (.it .i64 0), (.it .i64 0), .ns] []), cP 73 153 [(k 6)], sO 11 2 72, sO 3 3 73]
.ret)
.skip))
(.reg true [
fA 74 1 1, lD 75 1 74, o 76 (b .and (t 75) (k 1)), o 77 (b .neq (t 76) (k 0)), mV 78 5, fA 80 4 4, cP 79 159 [t 78], sO 1 80 77, fA 81 5 4, sO 1 81 79] [74, 80, 81]))
(s [o 83 (b .eql (t 28) (k 7)), mV 82 83]
(.cond (t 82)
(.seq (s [mV 84 5, lN 85 false 84, o 86 (b .lss (t 85) (k 8))]
(.cond (t 86)
(s [o 87 (.bld [(.it .i64 0), (.it .i64 0), (.bo false), (.bo false), (.bo false), .ns, (.it .i64 0), (.it .i64 0), (.it .i64 0), (.it .i64 0), .ns] []), cP 88 153 [(k 6)], sO 11 2 87, sO 3 3 88]
.ret)
.skip))
(.reg true [
mV 89 5, mV 91 5, o 92 (.slc false 1 (t 91) (some (k 4)) none), mV 94 5, o 95 (.slc false 1 (t 94) (some (k 8)) none), cP 90 160 [t 89], fA 97 7 4, cP 93 157 [t 92], cP 96 159 [t 95], sO 1 97 90, fA 98 6 4, sO 1 98 93, fA 99 5 4, sO 1 99 96] [97, 98, 99]))
(s [o 101 (b .eql (t 28) (k 8)), mV 100 101]
(.cond (t 100)
(s [lQ 102 4 1, lQ 103 11 4, cP 104 161 [t 102, t 103], eX 105 104 0, eX 106 104 1, sO 11 2 105, sO 3 3 106]
.ret)
(s [o 108 (b .eql (t 28) (k 9)), mV 107 108]
(.cond (t 107)
(.reg true [
fA 109 1 1, lD 110 1 109, o 111 (b .and (t 110) (k 4)), o 112 (b .neq (t 111) (k 0)), mV 113 5, fA 115 3 4, cP 114 159 [t 113], sO 1 115 112, fA 116 5 4, sO 1 116 114] [109, 115, 116])
.skip))))))))))))))))))))
(s [lQ 117 11 4, o 118 (.bld [(.it .i64 0), (.it .i64 0), (.it .i64 0)] []), sO 11 2 117, sO 3 3 118]
.ret)))))))⟩
def c116 : Ev.Fn := d116.den
theorem r116 : OK 116 c116 := rd d116 { P0 .pure with loc := [1, 2, 3, 4], ord := [(23, [0, 1, 2, 3, 4, 6, 5, 7, 8, 9]), (27, [0, 2, 3, 5, 6, 1, 8, 4, 7, 9, 10, 11, 12, 13]), (31, [0, 1, 2, 3, 4, 6, 5, 7, 8, 9])], clr := [(1, [6, 8]), (2, [15]), (6, [25]), (7, [27]), (17, [59]), (23, [74, 80, 81]), (27, [97, 98, 99]), (31, [109, 115, 116])] } Tryz.func116
def d118 : DFn := ⟨[(.c .one), (.g [.one, .one, .one, .one, .one, (.sl [.one]), .one, .one, .one, .one, (.sl [.one, .one])])], [], .rw, [],
(s [o 3 (.box (t 1))]
(.seq (.reg false [
fA 4 0 3, lD 5 1 4] [4])
(.blk 0 (.seq (.reg false [
o 7 (b .eql (t 5) (k 0)), mV 6 7] [])
(.cond (t 6)
(r [mV 8 0, lQ 9 11 3, cR 10 165 [t 8, t 9]])
(s [o 12 (b .eql (t 5) (k 1)), mV 11 12]
(.cond (t 11)
(.seq (.reg false [
mV 13 0, fA 14 1 3, lD 15 1 14, fA 16 2 3, lD 17 1 16, fA 18 5 3, lD 19 1 18, o 20 (.bld [(.it .i64 0), (.bo false), .ns] [(0, 1, (t 15)), (1, 1, (t 17)), (2, 1, (t 19))]), nK 21 13, fA 22 19 21, sO 3 22 20] [14, 16, 18])
(.reg false [
mV 23 0, fA 24 3 3, lD 25 1 24, cR 26 166 [t 23, t 25]] [24]))
(.seq (.reg false [
o 28 (b .eql (t 5) (k 9)), mV 27 28] [])
(.cond (t 27)
(.seq (.seq (.reg true [
mV 29 0, nK 30 29, fA 31 19 30, fA 32 2 31, lD 33 1 32, lN 34 false 33, fA 35 5 3, lD 36 1 35, lN 37 false 36, o 38 (b .add (t 34) (t 37)), o 39 (b .gtr (t 38) (k 131072))] [35])
(.cond (t 39)
(s [mV 40 0, cR 41 77 [t 40, (k 11)]]
.ret)
.skip))
(.seq (.reg true [
mV 42 0, mV 43 0, nK 44 43, fA 45 19 44, fA 46 2 45, lD 47 1 46, fA 48 5 3, lD 49 1 48, o 50 (.app 1 1 (t 47) (t 49)), nK 51 42, fA 52 19 51, fA 53 2 52, sO 1 53 50] [48])
(.reg false [
mV 54 0, fA 55 3 3, lD 56 1 55, cR 57 166 [t 54, t 56]] [55])))
(s [o 59 (b .eql (t 5) (k 3)), mV 58 59]
(.cond (t 58)
(.reg false [
mV 60 0, lQ 61 11 3, cR 62 167 [t 60, t 61]] [])
(s [o 64 (b .eql (t 5) (k 4)), mV 63 64]
(.cond (t 63)
(.seq (.reg false [
fA 65 4 3, lD 66 1 65, o 67 (.un .not (t 66))] [65])
(.cond (t 67)
(.reg false [
mV 68 0, fA 69 10 3, lD 70 1 69, cR 71 168 [t 68, t 70]] [69])
.skip))
(.seq (.reg false [
o 73 (b .eql (t 5) (k 6)), mV 72 73] [])
(.cond (t 72)
(.seq (.reg false [
fA 74 4 3, lD 75 1 74, o 76 (.un .not (t 75))] [74])
(.cond (t 76)
(.reg false [
mV 77 0, fA 78 5 3, lD 79 1 78, o 80 (.bld [(.it .i64 0), (.it .i64 0), (.it .i64 0), .ns] [(0, 1, (k 6)), (1, 1, (k 1)), (3, 1, (t 79))]), cR 81 123 [t 77, t 80]] [78])
.skip))
(.seq (.reg false [
o 83 (b .eql (t 5) (k 7)), mV 82 83] [])
(.cond (t 82)
(s [mV 84 0, nK 85 84, fA 86 23 85, n (.sto 1 (t 86) (.k (.bo true)))]
(.reg false [
mV 87 0, fA 88 7 3, lD 89 1 88, fA 90 6 3, lD 91 1 90, o 92 (.bld [(.it .i64 0), (.it .i64 0), .ns, (.st []), (.bo false), (.it .i64 0)] [(0, 1, (k 5)), (1, 1, (t 89)), (5, 1, (t 91))]), cR 93 120 [t 87, t 92]] [88, 90]))
(s [o 95 (b .eql (t 5) (k 8)), mV 94 95]
(.cond (t 94)
(.reg false [
mV 96 0, lQ 97 11 3, cR 98 169 [t 96, t 97]] [])
.skip)))))))))))))))))))⟩
def c118 : Ev.Fn := d118.den
theorem r118 : OK 118 c118 := rd d118 { P0 .rw with loc := [3], heap := [50], own := [50], clr := [(1, [4]), (5, [14, 16, 18]), (6, [24]), (8, [35]), (10, [48]), (11, [55]), (15, [65]), (16, [69]), (18, [74]), (19, [78]), (22, [88, 90])] } Tryz.func118
def d119 : DFn := ⟨[(.c .one)], [(.c (.sl [.one]))], .pure, [.tmp 2],
(s [mK 2 .ns]
(s [mV 3 0, o 4 (b .shr (t 3) (.k (.it .u64 24))), cV 5 .u8 4, mV 6 0, o 7 (b .shr (t 6) (.k (.it .u64 16))), cV 8 .u8 7, mV 9 0, o 10 (b .shr (t 9) (.k (.it .u64 8))), cV 11 .u8 10, mV 12 0, cV 13 .u8 12, o 14 (.bsl 1 (List.replicate 4 [(.it .u8 0)]) [(0, (t 5)), (1, (t 8)), (2, (t 11)), (3, (t 13))]), mV 2 14]
.ret))⟩
def c119 : Ev.Fn := d119.den
theorem r119 : OK 119 c119 := rd d119 { P0 .pure with heap := [14], own := [14] } Tryz.func119
def d120 : DFn := ⟨[(.c .one), (.g [.one, .one, (.sl [.one, .one]), .one, .one, .one])], [], .rw, [],
(s [o 3 (.box (t 1))]
(.reg true [
mV 4 0, mV 5 0, nK 6 5, fA 7 25 6, lD 8 1 7, lQ 9 6 3, o 10 (.bsl 6 [[(.it .i64 0), (.it .i64 0), .ns, (.st []), (.bo false), (.it .i64 0)]] [(0, (t 9))]), o 11 (.app 6 72 (t 8) (t 10)), nK 12 4, fA 13 25 12, sO 1 13 11] []))⟩
def c120 : Ev.Fn := d120.den
theorem r120 : OK 120 c120 := rd d120 { P0 .rw with loc := [3], heap := [11, 10], own := [11] } Tryz.func120
def d121 : DFn := ⟨[(.c .one), (.c .one)], [(.c .one), (.c .one)], .pure, [.tmp 4, .tmp 5],
(s [mK 4 (.it .i64 0), mK 5 (.bo false)]
(s [mV 7 1, o 8 (b .gtr (t 7) (k 10)), mV 6 8]
(.seq (s [mV 9 6]
(.cond (t 9)
(r [mV 10 1, o 11 (b .sub (t 10) (k 10)), mV 1 11])
.skip))
(.seq (s [mV 12 1, o 13 (b .lss (t 12) (k 1)), mV 14 13, x 15 14 (.mov (t 1)), x 16 14 (b .gtr (t 15) (k 5)), o 17 (.pick (t 14) (.k (.bo true)) (t 16))]
(.cond (t 17)
(s [mV 18 0, mV 4 18, mK 5 (.bo false)]
.ret)
.skip))
(.seq (s [mV 19 0]
(.blk 0 (s [o 21 (b .eql (t 19) (k 0)), mV 20 21]
(.cond (t 20)
(.seq (s [mV 22 1]
(.blk 1 (s [o 24 (b .eql (t 22) (k 2)), mV 23 24]
(.cond (t 23)
(s [mK 4 (.it .i64 1), mK 5 (.bo true)]
.ret)
(s [o 26 (b .eql (t 22) (k 1)), mV 25 26]
(.cond (t 25)
(s [mV 27 6, cP 28 170 [t 27], mV 4 28, mK 5 (.bo true)]
.ret)
.skip))))))
(s [mK 4 (.it .i64 0), mK 5 (.bo false)]
.ret))
(s [o 30 (b .eql (t 19) (k 1)), mV 29 30]
(.cond (t 29)
(.seq (s [mV 31 1, o 32 (b .eql (t 31) (k 5))]
(.cond (t 32)
(s [mK 4 (.it .i64 4), mK 5 (.bo true)]
.ret)
.skip))
(.seq (s [mV 33 1, cP 34 171 [t 33]]
(.cond (t 34)
(s [mV 35 6, cP 36 170 [t 35], mV 4 36, mK 5 (.bo true)]
.ret)
.skip))
(s [mK 4 (.it .i64 1), mK 5 (.bo true)]
.ret)))
(.seq (s [o 38 (b .eql (t 19) (k 2)), mV 37 38]
(.cond (t 37)
.skip
(r [o 39 (b .eql (t 19) (k 3)), mV 37 39])))
(.cond (t 37)
(.seq (s [mV 40 1, o 41 (b .eql (t 40) (k 5))]
(.cond (t 41)
(s [mK 4 (.it .i64 4), mK 5 (.bo true)]
.ret)
.skip))
(.seq (s [mV 42 0, mV 43 6, cP 44 170 [t 43], o 45 (b .eql (t 42) (t 44))]
(.cond (t 45)
(s [mV 46 0, mV 4 46, mK 5 (.bo false)]
.ret)
.skip))
(.seq (s [mV 47 1, cP 48 171 [t 47]]
(.cond (t 48)
(s [mK 4 (.it .i64 4), mK 5 (.bo true)]
.ret)
.skip))
(s [mV 49 0, mV 4 49, mK 5 (.bo true)]
.ret))))
.skip))))))))
(s [mV 50 0, mV 4 50, mK 5 (.bo false)]
.ret))))))⟩
def c121 : Ev.Fn := d121.den
theorem r121 : OK 121 c121 := rd d121 (P0 .pure) Tryz.func121
def d122 : DFn := ⟨[(.c .one), (.c .one)], [], .rw, [],
(s [o 3 (.bxh (t 1))]
(r [mV 4 0, mV 5 0, nK 6 5, fA 7 15 6, lD 8 1 7, o 9 (.mkf 173 [] [t 3]), o 10 (.call true .rw 172 [t 8, t 9]), nK 11 4, fA 12 15 11, sO 1 12 10]))⟩
def c122 : Ev.Fn := d122.den
theorem r122 : OK 122 c122 := rd d122 { P0 .rw with heap := [10], own := [10], fns := [173] } Tryz.func122
def d123 : DFn := ⟨[(.c .one), (.g [.one, .one, .one, (.sl [.one])])], [(.c .one)], .rw, [.tmp 4],
(s [o 3 (.box (t 1)), mK 4 (.bo false)]
(s [lQ 6 4 3, cP 7 57 [(.k .ns), t 6], mV 5 7]
(.seq (s [mV 8 0, nK 9 8, fA 10 12 9, lD 11 1 10, lN 12 false 11, mV 13 5, lN 14 false 13, o 15 (b .add (t 12) (t 14)), o 16 (b .gtr (t 15) (k 262144))]
(.cond (t 16)
(s [mV 17 0, cR 18 77 [t 17, (k 11)]]
(s [mK 4 (.bo false)]
.ret))
.skip))
(s [mV 19 0, mV 20 0, nK 21 20, fA 22 12 21, lD 23 1 22, mV 24 5, o 25 (.app 1 1 (t 23) (t 24)), nK 26 19, fA 27 12 26, sO 1 27 25]
(s [mK 4 (.bo true)]
.ret)))))⟩
def c123 : Ev.Fn := d123.den
theorem r123 : OK 123 c123 := rd d123 { P0 .rw with loc := [3], heap := [25], own := [25], ord := [(0, [1, 0])] } Tryz.func123
def d126 : DFn := ⟨[(.c .one), (.c .one), (.c .one)], [(.c .one)], .rw, [.tmp 6],
(s [mK 6 (.bo false)]
(.seq (s [mV 12 0, nK 13 12, fA 14 24 13, lD 15 1 14, mV 16 15, x 17 16 (.mov (t 2)), x 18 16 (b .lss (t 17) (k 1)), o 19 (.pick (t 16) (.k (.bo true)) (t 18))]
(.cond (t 19)
(s [mK 6 (.bo false)]
.ret)
.skip))
(.seq (s [mV 21 0, nK 22 21, fA 23 14 22, lQ 24 1 23, mV 25 2, cP 26 176 [t 24, t 25], mV 20 26, eX 27 20 0, eX 28 20 1, o 7 (.alc [(.it .i64 0)]), sO 1 7 27, mV 8 28]
(s [mV 29 8, o 30 (.un .not (t 29))]
(.cond (t 30)
(s [mK 6 (.bo false)]
.ret)
.skip)))
(.seq (s [mV 31 0, mV 32 1, cR 33 78 [t 31, t 32], mV 9 33]
(s [mV 34 9, o 35 (.bin .ptr .neq (t 34) (.k .np))]
(.cond (t 35)
(s [mV 37 9, nK 38 37, fA 39 3 38, lQ 40 1 39, mV 41 2, cP 42 176 [t 40, t 41], mV 36 42, eX 43 36 0, eX 44 36 1, o 10 (.alc [(.it .i64 0)]), sO 1 10 43, mV 11 44]
(s [mV 45 11, o 46 (.un .not (t 45))]
(.cond (t 46)
(s [mK 6 (.bo false)]
.ret)
.skip)))
.skip)))
(s [mV 47 0, mV 48 1, mV 49 2, cR 50 177 [t 47, t 48, t 49], mV 6 50]
.ret)))))⟩
def c126 : Ev.Fn := d126.den
theorem r126 : OK 126 c126 := rd d126 { P0 .rw with loc := [7, 10], ord := [(3, [0, 1, 2, 3, 4, 9, 5, 6, 7, 8, 10, 11]), (8, [0, 1, 2, 3, 4, 9, 5, 6, 7, 8, 10, 11])] } Tryz.func126
def d127 : DFn := ⟨[(.c .one)], [(.c .one)], .pure, [.tmp 2],
(s [mK 2 (.bo false)]
(s [mV 3 0, o 4 (b .geq (t 3) (k 0)), mV 5 4, w 6 5 (.mov (t 0)), w 7 5 (b .leq (t 6) (k 65536)), o 8 (.pick (t 5) (t 7) (.k (.bo false))), mV 2 8]
.ret))⟩
def c127 : Ev.Fn := d127.den
theorem r127 : OK 127 c127 := rd d127 (P0 .pure) Tryz.func127
def d128 : DFn := ⟨[], [(.c (.sl [.one, .one]))], .pure, [.tmp 0],
(s [mK 0 .ns]
(s [mK 1 .ns]
(.seq (s [o 7 (.call false .pure 178 [(.k (.st [58, 97, 117, 116, 104, 111, 114, 105, 116, 121, 124, 58, 109, 101, 116, 104, 111, 100, 61, 71, 69, 84, 124, 58, 109, 101, 116, 104, 111, 100, 61, 80, 79, 83, 84, 124, 58, 112, 97, 116, 104, 61, 47, 124, 58, 112, 97, 116, 104, 61, 47, 105, 110, 100, 101, 120, 46, 104, 116, 109, 108, 124, 58, 115, 99, 104, 101, 109, 101, 61, 104, 116, 116, 112, 124, 58, 115, 99, 104, 101, 109, 101, 61, 104, 116, 116, 112, 115, 124, 58, 115, 116, 97, 116, 117, 115, 61, 50, 48, 48, 124, 58, 115, 116, 97, 116, 117, 115, 61, 50, 48, 52, 124, 58, 115, 116, 97, 116, 117, 115, 61, 50, 48, 54, 124, 58, 115, 116, 97, 116, 117, 115, 61, 51, 48, 52, 124, 58, 115, 116, 97, 116, 117, 115, 61, 52, 48, 48, 124, 58, 115, 116, 97, 116, 117, 115, 61, 52, 48, 52, 124, 58, 115, 116, 97, 116, 117, 115, 61, 53, 48, 48, 124, 97, 99, 99, 101, 112, 116, 45, 99, 104, 97, 114, 115, 101, 116, 124, 97, 99, 99, 101, 112, 116, 45, 101, 110, 99, 111, 100, 105, 110, 103, 61, 103, 122, 105, 112, 44, 32, 100, 101, 102, 108, 97, 116, 101, 124, 97, 99, 99, 101, 112, 116, 45, 108, 97, 110, 103, 117, 97, 103, 101, 124, 97, 99, 99, 101, 112, 116, 45, 114, 97, 110, 103, 101, 115, 124, 97, 99, 99, 101, 112, 116, 124, 97, 99, 99, 101, 115, 115, 45, 99, 111, 110, 116, 114, 111, 108, 45, 97, 108, 108, 111, 119, 45, 111, 114, 105, 103, 105, 110, 124, 97, 103, 101, 124, 97, 108, 108, 111, 119, 124, 97, 117, 116, 104, 111, 114, 105, 122, 97, 116, 105, 111, 110, 124, 99, 97, 99, 104, 101, 45, 99, 111, 110, 116, 114, 111, 108, 124, 99, 111, 110, 116, 101, 110, 116, 45, 100, 105, 115, 112, 111, 115, 105, 116, 105, 111, 110, 124, 99, 111, 110, 116, 101, 110, 116, 45, 101, 110, 99, 111, 100, 105, 110, 103, 124, 99, 111, 110, 116, 101, 110, 116, 45, 108, 97, 110, 103, 117, 97, 103, 101, 124, 99, 111, 110, 116, 101, 110, 116, 45, 108, 101, 110, 103, 116, 104, 124, 99, 111, 110, 116, 101, 110, 116, 45, 108, 111, 99, 97, 116, 105, 111, 110, 124, 99, 111, 110, 116, 101, 110, 116, 45, 114, 97, 110, 103, 101, 124, 99, 111, 110, 116, 101, 110, 116, 45, 116, 121, 112, 101, 124, 99, 111, 111, 107, 105, 101, 124, 100, 97, 116, 101, 124, 101, 116, 97, 103, 124, 101, 120, 112, 101, 99, 116, 124, 101, 120, 112, 105, 114, 101, 115, 124, 102, 114, 111, 109, 124, 104, 111, 115, 116, 124, 105, 102, 45, 109, 97, 116, 99, 104, 124, 105, 102, 45, 109, 111, 100, 105, 102, 105, 101, 100, 45, 115, 105, 110, 99, 101, 124, 105, 102, 45, 110, 111, 110, 101, 45, 109, 97, 116, 99, 104, 124, 105, 102, 45, 114, 97, 110, 103, 101, 124, 105, 102, 45, 117, 110, 109, 111, 100, 105, 102, 105, 101, 100, 45, 115, 105, 110, 99, 101, 124, 108, 97, 115, 116, 45, 109, 111, 100, 105, 102, 105, 101, 100, 124, 108, 105, 110, 107, 124, 108, 111, 99, 97, 116, 105, 111, 110, 124, 109, 97, 120, 45, 102, 111, 114, 119, 97, 114, 100, 115, 124, 112, 114, 111, 120, 121, 45, 97, 117, 116, 104, 101, 110, 116, 105, 99, 97, 116, 101, 124, 112, 114, 111, 120, 121, 45, 97, 117, 116, 104, 111, 114, 105, 122, 97, 116, 105, 111, 110, 124, 114, 97, 110, 103, 101, 124, 114, 101, 102, 101, 114, 101, 114, 124, 114, 101, 102, 114, 101, 115, 104, 124, 114, 101, 116, 114, 121, 45, 97, 102, 116, 101, 114, 124, 115, 101, 114, 118, 101, 114, 124, 115, 101, 116, 45, 99, 111, 111, 107, 105, 101, 124, 115, 116, 114, 105, 99, 116, 45, 116, 114, 97, 110, 115, 112, 111, 114, 116, 45, 115, 101, 99, 117, 114, 105, 116, 121, 124, 116, 114, 97, 110, 115, 102, 101, 114, 45, 101, 110, 99, 111, 100, 105, 110, 103, 124, 117, 115, 101, 114, 45, 97, 103, 101, 110, 116, 124, 118, 97, 114, 121, 124, 118, 105, 97, 124, 119, 119, 119, 45, 97, 117, 116, 104, 101, 110, 116, 105, 99, 97, 116, 101])), (.k (.st [124]))]), lN 8 false 7, mK 9 (.it .i64 0)]
(.blk 0 (.loop [1, 7, 8, 9] []
(s [o 10 (b .lss (t 9) (t 8))]
(.seq (.cond (t 10)
.skip
(.exit 0))
(.seq (.blk 1 (s [o 11 (.ias 1 (t 7) (t 9)), lD 12 1 11, mV 3 12]
(s [mV 14 3, o 15 (.call false .pure 179 [t 14, (.k (.st [61]))]), mV 13 15, eX 16 13 0, eX 17 13 1, eX 18 13 2, mV 4 16, mV 5 17, mV 6 18]
(r [mV 19 1, mV 20 4, mV 21 5, o 22 (.bld [(.st []), (.st [])] [(0, 1, (t 20)), (1, 1, (t 21))]), o 23 (.bsv [.one, .one] 2 [[(.st []), (.st [])]] [(0, (t 22))]), o 24 (.app 2 32 (t 19) (t 23)), mV 1 24]))))
(r [o 25 (b .add (t 9) (k 1)), mV 9 25])))))))
(s [mV 26 1, mV 0 26]
.ret))))⟩
def c128 : Ev.Fn := d128.den
theorem r128 : OK 128 c128 := rd d128 { P0 .pure with heap := [24], own := [24], ord := [(2, [2, 0, 1])], mask := [(3, [1, 7, 8, 9], [])] } Tryz.func128
def d129 : DFn := ⟨[(.c .one), (.c .one), (.g [.one, .one, (.sl [.one, .one]), .one, .one, .one])], [], .rw, [],
(s [o 5 (.box (t 2))]
(.seq (.reg false [
fA 10 2 5, lD 11 1 10, cP 12 180 [t 11], mV 9 12, eX 13 9 0, eX 14 9 1, u 6 [10] (.alc [(.st []), (.st []), (.st []), (.st []), .ns, (.it .i64 0)]), sO 6 6 13, mV 7 14] [10])
(.blk 0 (.seq (.reg false [
mV 37 7, o 38 (.un .not (t 37)), mV 39 38, x 40 39 (.fad 4 (t 5)), x 41 39 (.ld 1 false (t 40)), x 42 39 (.mov (t 41)), w 43 42 (.fad 5 (t 6)), w 44 42 (.ld 1 false (t 43)), w 45 42 (b .gtr (t 44) (k 0)), x 46 39 (.pick (t 42) (t 45) (.k (.bo false))), o 47 (.pick (t 39) (.k (.bo true)) (t 46)), mV 36 47] [40, 43])
(.cond (t 36)
(.reg true [
mV 48 0, mV 49 1, nK 50 48, fA 51 7 50, o 52 (.iaa 8 1 (t 51) (t 49)), lD 53 1 52, fA 54 1 5, lD 55 1 54, cR 56 45 [t 53, t 55, (k 1)]] [54])
(.seq (.reg true [
mV 58 0, nK 59 58, fA 60 25 59, lD 61 1 60, lN 62 false 61, mV 63 0, nK 64 63, fA 65 0 64, fA 66 5 65, lD 67 1 66, o 68 (b .geq (t 62) (t 67)), mV 57 68] [])
(.cond (t 57)
(.reg true [
mV 69 0, mV 70 1, nK 71 69, fA 72 7 71, o 73 (.iaa 8 1 (t 72) (t 70)), lD 74 1 73, fA 75 1 5, lD 76 1 75, cR 77 45 [t 74, t 76, (k 7)]] [75])
(.seq (.reg false [
mV 15 1, fA 16 1 5, lD 17 1 16, lQ 18 6 6, fA 19 4 5, lD 20 1 19, o 21 (.bld [(.it .i64 0), (.it .i64 0), (.st []), (.st []), (.st []), (.st []), .ns, (.it .i64 0), (.st []), (.it .i64 0), (.bo false), (.bo false), .np, .np, (.st []), (.st []), (.st []), (.st []), .ns, (.it .i64 0), (.bo false), (.it .i64 0), (.it .i64 0), (.bo false), (.it .i64 0), .ns, (.bo false), (.st []), (.bo false), (.bo false), (.it .i64 0), (.bo false), (.it .i64 0), (.bo false), (.st []), (.st []), (.st []), (.st []), .ns, (.it .i64 0), (.it .i64 0), .ns, (.it .i64 0), (.st []), (.it .i64 0), (.it .i64 0), (.bo false)] [(0, 1, (t 15)), (1, 1, (t 17)), (2, 6, (t 18)), (10, 1, (t 20)), (30, 1, (.k (.it .i64 (-1))))]), o 22 (.bxh (t 21)), mV 8 22] [16, 19])
(.seq (.reg false [
mV 23 0, mV 24 0, nK 25 24, fA 26 25 25, lD 27 1 26, mV 28 8, o 29 (.bsl 1 [[.np]] [(0, (t 28))]), o 30 (.app 1 8 (t 27) (t 29)), nK 31 23, fA 32 25 31, sO 1 32 30] [])
(r [mV 33 0, mV 34 8, cR 35 181 [t 33, t 34]]))))))))))⟩
def c129 : Ev.Fn := d129.den
theorem r129 : OK 129 c129 := rd d129 { P0 .rw with loc := [5, 6], heap := [30, 29], own := [30], ord := [(1, [0, 1, 6, 2, 3, 4, 5, 7, 8])], clr := [(1, [10]), (5, [40, 43]), (6, [54]), (8, [75]), (2, [16, 19])] } Tryz.func129
def d132 : DFn := ⟨[(.c .one), (.c .one), (.c .one)], [(.c .one)], .rw, [.tmp 6],
(s [mK 6 .np]
(.seq (s [mV 9 0, nK 10 9, fA 11 25 10, lD 12 1 11, lN 13 false 12, mK 14 (.it .i64 0)]
(.blk 0 (.loop [1, 2, 12, 13, 14] []
(s [o 15 (b .lss (t 14) (t 13))]
(.seq (.cond (t 15)
.skip
(.exit 0))
(.seq (.blk 1 (s [o 16 (.ias 1 (t 12) (t 14)), lD 17 1 16, mV 8 17]
(s [mV 18 8, nK 19 18, fA 20 20 19, lD 21 1 20, mV 22 21, w 23 22 (.mov (t 8)), w 24 22 (.nck (t 23)), w 25 22 (.fad 21 (t 24)), w 26 22 (.ld 1 false (t 25)), w 27 22 (.mov (t 1)), w 28 22 (b .eql (t 26) (t 27)), o 29 (.pick (t 22) (t 28) (.k (.bo false))), mV 30 29, w 31 30 (.mov (t 8)), w 32 30 (.nck (t 31)), w 33 30 (.fad 22 (t 32)), w 34 30 (.ld 1 false (t 33)), w 35 30 (.mov (t 2)), w 36 30 (b .eql (t 34) (t 35)), o 37 (.pick (t 30) (t 36) (.k (.bo false)))]
(.cond (t 37)
(s [mV 38 8, mV 6 38]
.ret)
.skip))))
(r [o 39 (b .add (t 14) (k 1)), mV 14 39])))))))
(s [mK 6 .np]
.ret)))⟩
def c132 : Ev.Fn := d132.den
theorem r132 : OK 132 c132 := rd d132 { P0 .rw with mask := [(2, [1, 2, 12, 13, 14], [])] } Tryz.func132
def d133 : DFn := ⟨[(.c .one), (.c .one), (.g [.one, .one, (.sl [.one, .one]), .one, .one, .one])], [], .rw, [],
(s [o 5 (.box (t 2))]
(.seq (.reg false [
fA 11 2 5, lD 12 1 11, cP 13 182 [t 12], mV 10 13, eX 14 10 0, eX 15 10 1, u 6 [11] (.alc [(.it .i64 0), .ns, (.it .i64 0)]), sO 3 6 14, mV 7 15] [11])
(.seq (.seq (.reg false [
mV 16 7, o 17 (.un .not (t 16)), mV 18 17, x 19 18 (.fad 0 (t 6)), x 20 18 (.ld 1 false (t 19)), x 21 18 (b .lss (t 20) (k 200)), x 22 18 (.mov (t 21)), w 23 22 (.fad 4 (t 5)), w 24 22 (.ld 1 false (t 23)), x 25 18 (.pick (t 22) (t 24) (.k (.bo false))), o 26 (.pick (t 18) (.k (.bo true)) (t 25))] [19, 23])
(.cond (t 26)
(.seq (.reg true [
mV 27 0, mV 28 1, nK 29 28, fA 30 21 29, lD 31 1 30, nK 32 27, fA 33 15 32, o 34 (.iaa 8 1 (t 33) (t 31)), lD 35 1 34, nK 36 35, fA 37 0 36, lD 38 1 37, mV 39 1, nK 40 39, fA 41 22 40, lD 42 1 41, cR 43 45 [t 38, t 42, (k 1)]] [])
(s [mV 44 0, mV 45 1, cR 46 100 [t 44, t 45]]
.ret))
.skip))
(.seq (.seq (.reg false [
fA 47 0 6, lD 48 1 47, o 49 (b .lss (t 48) (k 200))] [47])
(.cond (t 49)
.ret
.skip))
(.seq (.reg false [
fA 50 1 6, lD 51 1 50, cP 52 104 [t 51], mV 8 52] [50])
(.seq (.seq (.reg false [
mV 53 1, nK 54 53, fA 55 13 54, lD 56 1 55, o 57 (.bin .ptr .neq (t 56) (.k .np)), mV 58 57, w 59 58 (.fad 0 (t 6)), w 60 58 (.ld 1 false (t 59)), w 61 58 (b .eql (t 60) (k 304)), o 62 (.pick (t 58) (t 61) (.k (.bo false)))] [59])
(.cond (t 62)
(.seq (.reg true [
mV 63 1, nK 64 63, fA 65 13 64, lD 66 1 65, nK 67 66, lQ 68 12 67, mV 69 8, o 70 (.bld [(.it .i64 0), .ns, (.it .i64 0)] [(0, 1, (k 304)), (1, 1, (t 69))]), mV 71 1, nK 72 71, fA 73 24 72, lD 74 1 73, mV 75 0, nK 76 75, fA 77 24 76, lD 78 1 77, u 9 [65, 67, 73, 77] (.alc [(.st []), (.st []), (.st []), (.st []), .ns, (.it .i64 0), (.it .i64 0), .ns, (.it .i64 0), (.st []), (.it .i64 0), (.it .i64 0)]), cP 79 183 [t 68, t 70, t 74, t 78], sO 12 9 79] [])
(.seq (.reg true [
mV 80 0, nK 81 80, fA 82 23 81, lD 83 1 82, lQ 84 12 9, cR 85 184 [t 83, t 84]] [])
(.seq (.seq (.reg false [
fA 86 4 5, lD 87 1 86, o 88 (.un .not (t 87))] [86])
(.cond (t 88)
(.reg false [
mV 89 0, mV 90 1, cR 91 136 [t 89, t 90]] [])
.skip))
(s [mV 92 0, mV 93 1, lQ 94 12 9, cR 95 185 [t 92, t 93, t 94]]
.ret))))
.skip))
(.seq (.reg true [
mV 96 1, mV 97 1, fA 98 2 6, lD 99 1 98, nK 100 96, fA 101 28 100, ⟨none, none, [98], .sto 1 (t 101) (.k (.bo true))⟩, nK 102 97, fA 103 30 102, sO 1 103 99] [98])
(.seq (.reg false [
mV 104 1, mV 105 1, nK 106 105, fA 107 2 106, fA 108 0 107, lD 109 1 108, o 110 (b .eql (t 109) (.k (.st [72, 69, 65, 68]))), mV 111 110, x 112 111 (.fad 0 (t 6)), x 113 111 (.ld 1 false (t 112)), x 114 111 (b .eql (t 113) (k 204)), o 115 (.pick (t 111) (.k (.bo true)) (t 114)), mV 116 115, x 117 116 (.fad 0 (t 6)), x 118 116 (.ld 1 false (t 117)), x 119 116 (b .eql (t 118) (k 304)), o 120 (.pick (t 116) (.k (.bo true)) (t 119)), nK 121 104, fA 122 31 121, sO 1 122 120] [112, 117])
(.seq (.reg false [
mV 123 1, fA 124 0 6, lD 125 1 124, cP 126 186 [t 125], o 127 (.bld [(.st []), (.st [])] [(0, 1, (.k (.st [58, 115, 116, 97, 116, 117, 115]))), (1, 1, (t 126))]), o 128 (.bsl 2 [[(.st []), (.st [])]] [(0, (t 127))]), mV 129 8, o 130 (.app 2 32 (t 128) (t 129)), cP 131 105 [], o 132 (.bsv [.one, .one] 2 [[(.st []), (.st [])]] [(0, (t 131))]), o 133 (.app 2 32 (t 130) (t 132)), nK 134 123, fA 135 25 134, sO 1 135 133] [124])
(.seq (.seq (.reg true [
mV 136 1, nK 137 136, fA 138 2 137, lQ 139 6 138, lQ 140 3 6, cP 141 187 [t 139, t 140]] [])
(.cond (t 141)
(.reg true [
mV 142 0, nK 143 142, fA 144 23 143, lD 145 1 144, mV 146 1, nK 147 146, fA 148 2 147, lQ 149 6 148, cP 150 189 [t 149], cR 151 188 [t 145, t 150]] [])
.skip))
(.seq (.reg true [
mV 152 1, mV 153 1, nK 154 153, fA 155 2 154, lQ 156 6 155, fA 157 0 6, lD 158 1 157, mV 159 8, fA 160 2 6, lD 161 1 160, o 162 (.bld [(.it .i64 0), .ns, (.it .i64 0)] [(0, 1, (t 158)), (1, 1, (t 159)), (2, 1, (t 161))]), mV 163 1, nK 164 163, fA 165 24 164, lD 166 1 165, mV 167 0, nK 168 167, fA 169 24 168, lD 170 1 169, o 171 (.bld [(.st []), (.st []), (.st []), (.st []), .ns, (.it .i64 0), (.it .i64 0), .ns, (.it .i64 0), (.st []), (.it .i64 0), (.it .i64 0)] [(0, 6, (t 156)), (6, 3, (t 162)), (10, 1, (t 166)), (11, 1, (t 170))]), nK 172 152, fA 173 34 172, sO 12 173 171] [157, 160])
(.seq (.reg true [
mV 174 1, mV 175 1, nK 176 175, fA 177 10 176, lD 178 1 177, mV 179 178, w 180 179 (.mov (t 1)), w 181 179 (.nck (t 180)), w 182 179 (.fad 2 (t 181)), w 183 179 (.ld 6 true (t 182)), w 184 179 (.mov (t 1)), w 185 179 (.nck (t 184)), w 186 179 (.fad 34 (t 185)), w 187 179 (.fad 6 (t 186)), w 188 179 (.ld 3 true (t 187)), w 189 179 (.call true .pure 190 [t 183, t 188]), o 190 (.pick (t 179) (t 189) (.k (.bo false))), nK 191 174, fA 192 33 191, sO 1 192 190] [])
(s [mV 193 0, mV 194 1, cR 195 191 [t 193, t 194]]
(.seq (.reg false [
fA 196 4 5, lD 197 1 196] [196])
(.cond (t 197)
(.reg false [
mV 198 0, mV 199 1, cR 200 192 [t 198, t 199]] [])
.skip)))))))))))))))⟩
def c133 : Ev.Fn := d133.den
theorem r133 : OK 133 c133 := rd d133 { P0 .rw with loc := [5, 6, 9], heap := [128, 130, 133, 189], own := [128, 130, 133, 189], ord := [(1, [0, 1, 6, 2, 3, 4, 5, 7, 8]), (8, [0, 1, 2, 3, 4, 5, 6, 7, 8, 9, 10, 11, 12, 13, 14, 15, 17, 16, 18]), (15, [0, 1, 2, 6, 3, 4, 5, 7, 8, 9, 10, 11, 12, 13])], clr := [(1, [11]), (2, [19, 23]), (5, [47]), (6, [50]), (7, [59]), (10, [86]), (13, [98]), (14, [112, 117]), (15, [124]), (18, [157, 160]), (21, [196])] } Tryz.func133
def d134 : DFn := ⟨[(.c .one), (.c .one), (.g [.one, .one, (.sl [.one, .one]), .one, .one, .one])], [], .rw, [],
(s [o 5 (.box (t 2))]
(.seq (.reg true [
mV 6 1, nK 7 6, fA 8 32 7, lD 9 1 8, fA 10 3 5, lD 11 1 10, lN 12 true 11, o 13 (b .add (t 9) (t 12)), nK 14 6, fA 15 32 14, sO 1 15 13] [10])
(.seq (s [mV 16 1, nK 17 16, fA 18 0 17, lD 19 1 18, o 20 (b .lss (t 19) (k 0))]
(.cond (t 20)
(.reg false [
mV 21 0, mV 22 1, fA 23 3 5, lD 24 1 23, lN 25 true 24, cR 26 109 [t 21, t 22, t 25]] [23])
(.reg true [
mV 27 1, nK 28 27, fA 29 27 28, lD 30 1 29, fA 31 3 5, lD 32 1 31, o 33 (b .add (t 30) (t 32)), nK 34 27, fA 35 27 34, sO 1 35 33] [31])))
(.seq (s [mV 36 1, nK 37 36, fA 38 33 37, lD 39 1 38]
(.cond (t 39)
(.seq (.reg true [
mV 40 1, nK 41 40, fA 42 34 41, fA 43 9 42, lD 44 1 43, fA 45 3 5, lD 46 1 45, o 47 (b .add (t 44) (t 46)), nK 48 40, fA 49 34 48, fA 50 9 49, sO 1 50 47] [45])
(.reg false [
mV 51 0, mV 52 1, cR 53 191 [t 51, t 52]] []))
.skip))
(.seq (.reg false [
fA 54 4 5, lD 55 1 54] [54])
(.cond (t 55)
(.reg false [
mV 56 0, mV 57 1, cR 58 192 [t 56, t 57]] [])
.skip))))))⟩
def c134 : Ev.Fn := d134.den
theorem r134 : OK 134 c134 := rd d134 { P0 .rw with loc := [5], clr := [(1, [10]), (3, [23]), (4, [31]), (6, [45]), (8, [54])] } Tryz.func134
def d135 : DFn := ⟨[(.c .one), (.c .one)], [(.c (.sl [.one]))], .rw, [.tmp 4],
(s [mK 4 .ns]
(s [mK 5 .ns]
(.seq (s [mV 8 0, nK 9 8, fA 10 25 9, lD 11 1 10, lN 12 false 11, mK 13 (.it .i64 0)]
(.blk 0 (.loop [1, 5, 11, 12, 13] []
(s [o 14 (b .lss (t 13) (t 12))]
(.seq (.cond (t 14)
.skip
(.exit 0))
(.seq (.blk 1 (s [o 15 (.ias 1 (t 11) (t 13)), lD 16 1 15, mV 7 16]
(s [mV 17 7, nK 18 17, fA 19 12 18, lD 20 1 19, mV 21 1, o 22 (.hnd (.eqp .eql) [t 20, t 21])]
(.cond (t 22)
(r [mV 23 5, mV 24 7, o 25 (.bsl 1 [[.np]] [(0, (t 24))]), o 26 (.app 1 8 (t 23) (t 25)), mV 5 26])
.skip))))
(r [o 27 (b .add (t 13) (k 1)), mV 13 27])))))))
(s [mV 28 5, mV 4 28]
.ret))))⟩
def c135 : Ev.Fn := d135.den
theorem r135 : OK 135 c135 := rd d135 { P0 .rw with heap := [26, 25], own := [26], mask := [(3, [1, 5, 11, 12, 13], [])], hnd := [22] } Tryz.func135
def d136 : DFn := ⟨[(.c .one), (.c .one)], [], .rw, [],
(s [mV 4 1, nK 5 4, fA 6 20 5, lD 7 1 6]
(.cond (t 7)
(.seq (.reg true [
mV 8 0, mV 9 1, nK 10 9, fA 11 21 10, lD 12 1 11, nK 13 8, fA 14 15 13, o 15 (.iaa 8 1 (t 14) (t 12)), lD 16 1 15, nK 17 16, fA 18 0 17, lD 19 1 18, mV 20 1, nK 21 20, fA 22 22 21, lD 23 1 22, cR 24 45 [t 19, t 23, (k 8)]] [])
(s [mV 25 0, mV 26 1, mV 27 1, nK 28 27, fA 29 27 28, lD 30 1 29, lN 31 true 30, cR 32 109 [t 25, t 26, t 31]]
(r [mV 33 1, nK 34 33, fA 35 20 34, n (.sto 1 (t 35) (.k (.bo false)))])))
.skip))⟩
def c136 : Ev.Fn := d136.den
theorem r136 : OK 136 c136 := rd d136 (P0 .rw) Tryz.func136
def d137 : DFn := ⟨[(.c .one), (.c .one)], [], .rw, [],
(s [o 3 (.bxh (t 1))]
(s [lD 4 1 3, nK 5 4, fA 6 46 5, n (.sto 1 (t 6) (.k (.bo true)))]
(s [mV 7 0, mV 8 0, nK 9 8, fA 10 25 9, lD 11 1 10, o 12 (.mkf 194 [] [t 3]), o 13 (.call true .rw 193 [t 11, t 12]), nK 14 7, fA 15 25 14, sO 1 15 13]
(.reg true [
mV 16 0, lD 17 1 3, lD 18 1 3, nK 19 18, fA 20 8 19, lD 21 1 20, lN 22 true 21, cR 23 108 [t 16, t 17, t 22]] []))))⟩
def c137 : Ev.Fn := d137.den
theorem r137 : OK 137 c137 := rd d137 { P0 .rw with heap := [13], own := [13], fns := [194] } Tryz.func137
def d140 : DFn := ⟨[(.c (.sl [.one, .one])), (.c .one)], [(.c .one), (.c .one)], .pure, [.tmp 4, .tmp 5],
(s [mK 4 (.st []), mK 5 (.it .i64 0)]
(s [mK 6 .ns]
(.seq (s [mV 9 0, lN 10 false 9, mK 11 (.it .i64 0)]
(.blk 0 (.loop [1, 6, 9, 10, 11] [8]
(s [o 12 (b .lss (t 11) (t 10))]
(.seq (.cond (t 12)
.skip
(.exit 0))
(.seq (.blk 1 (s [o 13 (.ias 2 (t 9) (t 11)), lQ 14 2 13, o 8 (.alc [(.st []), (.st [])]), sO 2 8 14]
(.seq (.reg false [
fA 15 0 8, lD 16 1 15, mV 17 1, o 18 (b .eql (t 16) (t 17))] [15])
(.cond (t 18)
(.reg false [
mV 19 6, fA 20 1 8, lD 21 1 20, o 22 (.bsv [.one] 1 [[(.st [])]] [(0, (t 21))]), o 23 (.app 1 16 (t 19) (t 22)), mV 6 23] [20])
.skip))))
(.reg false [
o 24 (b .add (t 11) (k 1)), mV 11 24] [])))))))
(.seq (r [mV 25 6, o 26 (.call false .pure 196 [t 25, (.k (.st [44, 32]))]), mV 27 6, lN 28 false 27, mV 4 26, mV 5 28])
.ret))))⟩
def c140 : Ev.Fn := d140.den
theorem r140 : OK 140 c140 := rd d140 { P0 .pure with loc := [8], heap := [23], own := [23], ord := [(8, [0, 2, 3, 1, 4, 5])], clr := [(5, [15]), (6, [20])], mask := [(3, [1, 6, 9, 10, 11], [8])] } Tryz.func140
def d141 : DFn := ⟨[(.c .one)], [(.c (.sl [.one])), (.c .one)], .pure, [.tmp 2, .tmp 3],
(s [o 1 (.bxh (t 0)), mK 2 .ns, mK 3 (.bo false)]
(s [o 4 (.alh [.ns])]
(s [o 5 (.alh [(.it .i64 0)]), n (.sto 1 (t 5) (k 0))]
(s [o 10 (.mkf 197 [] [t 1, t 5, t 4]), mV 6 10]
(.seq (s [mK 7 (.it .i64 0)]
(.blk 0 (.loop [1, 4, 5, 6, 7] []
(.seq (s [mV 11 7, lD 12 1 1, lN 13 true 12, o 14 (b .lss (t 11) (t 13))]
(.cond (t 14)
.skip
(.exit 0)))
(.blk 1 (s [lD 15 1 1, mV 16 7, o 17 (.ixs (t 15) (t 16))]
(.blk 2 (s [o 21 (b .eql (t 17) (.k (.it .u8 44))), mV 20 21]
(.cond (t 20)
(s [mV 22 6, mV 23 7, o 24 (.calv [] (t 22) [t 23])]
(s [mV 25 7, o 26 (b .add (t 25) (k 1)), mV 7 26]
(r [mV 27 7, sO 1 5 27])))
(s [o 29 (b .eql (t 17) (.k (.it .u8 34))), mV 28 29]
(.cond (t 28)
(s [lD 31 1 1, mV 32 7, o 33 (.call true .pure 199 [t 31, t 32]), mV 30 33, eX 34 30 0, eX 35 30 1, mV 8 34, mV 9 35]
(.seq (s [mV 36 9, o 37 (.un .not (t 36))]
(.cond (t 37)
(s [mK 2 .ns, mK 3 (.bo false)]
.ret)
.skip))
(r [mV 38 8, mV 7 38])))
(r [mV 18 7, o 19 (b .add (t 18) (k 1)), mV 7 19]))))))))))))
(s [mV 39 6, lD 40 1 1, lN 41 true 40, o 42 (.calv [] (t 39) [t 41])]
(s [lD 43 1 4, mV 2 43, mK 3 (.bo true)]
.ret)))))))⟩
def c141 : Ev.Fn := d141.den
theorem r141 : OK 141 c141 := rd d141 { P0 .pure with heap := [33], own := [33], ord := [(0, [1, 2, 0])], mask := [(5, [1, 4, 5, 6, 7], [])], fns := [197] } Tryz.func141
def d142 : DFn := ⟨[(.c .one)], [(.c .one)], .pure, [.tmp 2],
(s [mK 2 (.st [])]
(s [mV 6 0, o 7 (.cnv .s2b (t 6)), mV 3 7]
(.seq (s [mV 8 3, lN 9 false 8, mK 10 (.it .i64 0)]
(.blk 0 (.loop [3, 8, 9, 10] []
(s [o 11 (b .lss (t 10) (t 9))]
(.seq (.cond (t 11)
.skip
(.exit 0))
(.seq (.blk 1 (s [mV 12 10, o 13 (.ias 1 (t 8) (t 10)), lD 14 1 13, mV 4 12, mV 5 14]
(s [mV 15 5, o 16 (b .geq (t 15) (.k (.it .u8 65))), mV 17 16, w 18 17 (.mov (t 5)), w 19 17 (b .leq (t 18) (.k (.it .u8 90))), o 20 (.pick (t 17) (t 19) (.k (.bo false)))]
(.cond (t 20)
(r [mV 21 3, mV 22 4, mV 23 5, o 24 (b .add (t 23) (.k (.it .u8 32))), o 25 (.ias 1 (t 21) (t 22)), sO 1 25 24])
.skip))))
(r [o 26 (b .add (t 10) (k 1)), mV 10 26])))))))
(s [mV 27 3, o 28 (.cnv .b2s (t 27)), mV 2 28]
.ret))))⟩
def c142 : Ev.Fn := d142.den
theorem r142 : OK 142 c142 := rd d142 { P0 .pure with heap := [7], own := [7], mask := [(3, [3, 8, 9, 10], [])] } Tryz.func142
def d143 : DFn := ⟨[(.c .one)], [(.c .one)], .pure, [.tmp 2],
(s [mK 2 (.bo false)]
(.seq (s [mV 3 0]
(.blk 0 (.seq (s [o 5 (b .eql (t 3) (.k (.st [99, 111, 110, 110, 101, 99, 116, 105, 111, 110]))), mV 4 5]
(.cond (t 4)
.skip
(s [o 6 (b .eql (t 3) (.k (.st [112, 114, 111, 120, 121, 45, 99, 111, 110, 110, 101, 99, 116, 105, 111, 110]))), mV 4 6]
(.cond (t 4)
.skip
(s [o 7 (b .eql (t 3) (.k (.st [107, 101, 101, 112, 45, 97, 108, 105, 118, 101]))), mV 4 7]
(.cond (t 4)
.skip
(s [o 8 (b .eql (t 3) (.k (.st [116, 114, 97, 110, 115, 102, 101, 114, 45, 101, 110, 99, 111, 100, 105, 110, 103]))), mV 4 8]
(.cond (t 4)
.skip
(r [o 9 (b .eql (t 3) (.k (.st [117, 112, 103, 114, 97, 100, 101]))), mV 4 9])))))))))
(.cond (t 4)
(s [mK 2 (.bo true)]
.ret)
.skip))))
(s [mK 2 (.bo false)]
.ret)))⟩
def c143 : Ev.Fn := d143.den
theorem r143 : OK 143 c143 := rd d143 (P0 .pure) Tryz.func143
def d144 : DFn := ⟨[(.c (.sl [.one])), (.c .one)], [(.c .one)], .pure, [.tmp 4],
(s [mK 4 (.bo false)]
(s [mV 5 0, mV 6 1, cP 7 200 [t 5, t 6], o 8 (b .geq (t 7) (k 0)), mV 4 8]
.ret))⟩
def c144 : Ev.Fn := d144.den
theorem r144 : OK 144 c144 := rd d144 (P0 .pure) Tryz.func144
def d145 : DFn := ⟨[(.c (.sl [.one, .one]))], [(.c .one)], .pure, [.tmp 2],
(s [mK 2 (.it .i64 0)]
(s [mK 3 (.it .i64 0)]
(.seq (s [mV 6 0, lN 7 false 6, mK 8 (.it .i64 0)]
(.blk 0 (.loop [3, 6, 7, 8] [5]
(s [o 9 (b .lss (t 8) (t 7))]
(.seq (.cond (t 9)
.skip
(.exit 0))
(.seq (.blk 1 (s [o 10 (.ias 2 (t 6) (t 8)), lQ 11 2 10, o 5 (.alc [(.st []), (.st [])]), sO 2 5 11]
(r [mV 12 3, lQ 13 2 5, cP 14 111 [t 13], o 15 (b .add (t 12) (t 14)), mV 3 15])))
(r [o 16 (b .add (t 8) (k 1)), mV 8 16])))))))
(s [mV 17 3, mV 2 17]
.ret))))⟩
def c145 : Ev.Fn := d145.den
theorem r145 : OK 145 c145 := rd d145 { P0 .pure with loc := [5], mask := [(3, [3, 6, 7, 8], [5])] } Tryz.func145
def d146 : DFn := ⟨[(.c .one)], [(.c (.sl [.one]))], .rw, [.tmp 2],
(s [mK 2 .ns]
(.seq (s [mV 4 0, nK 5 4, fA 6 1 5, lD 7 1 6]
(.cond (t 7)
(s [mK 2 .ns]
.ret)
.skip))
(s [mK 3 .ns]
(s [mV 8 0, nK 9 8, fA 10 1 9, n (.sto 1 (t 10) (.k (.bo true)))]
(.seq (.seq (.reg true [
mV 11 0, nK 12 11, fA 13 2 12, lD 14 1 13, mV 15 0, nK 16 15, fA 17 0 16, lD 18 1 17, u 19 [13] (.call false .rw 201 [t 18]), o 20 (b .lss (t 14) (t 19))] [])
(.cond (t 20)
(r [mV 21 3, mV 22 0, nK 23 22, fA 24 2 23, lD 25 1 24, cP 26 148 [t 21, (k 5), (.k (.it .u8 32)), t 25], mV 3 26])
.skip))
(s [mV 27 3, mV 28 0, nK 29 28, fA 30 0 29, lD 31 1 30, cR 32 201 [t 31], cP 33 148 [t 27, (k 5), (.k (.it .u8 32)), t 32], mV 2 33]
.ret))))))⟩
def c146 : Ev.Fn := d146.den
theorem r146 : OK 146 c146 := rd d146 (P0 .rw) Tryz.func146
def d147 : DFn := ⟨[(.c .one), (.g [.one, .one])], [(.c .one), (.c .one)], .rw, [.tmp 4, .tmp 5],
(s [o 3 (.box (t 1)), mK 4 (.it .i64 0), mK 5 (.bo false)]
(s [mK 6 (.it .i64 0)]
(.seq (.seq (.reg true [
mV 12 0, nK 13 12, fA 14 1 13, lD 15 1 14, mV 16 0, nK 17 16, fA 18 0 17, lD 19 1 18, mK 22 (.it .i64 0), o 20 (.bsl 1 [[.ns], [.ns]] [(0, (t 15)), (1, (t 19))]), lN 21 false 20] [])
(.blk 0 (.loop [0, 3, 6, 20, 21, 22] [10]
(s [o 23 (b .lss (t 22) (t 21))]
(.seq (.cond (t 23)
.skip
(.exit 0))
(.seq (.blk 1 (s [mV 24 22, o 25 (.ias 1 (t 20) (t 22)), lD 26 1 25, mV 7 24, mV 8 26]
(s [mV 27 8, lN 28 false 27, mK 29 (.it .i64 0)]
(.blk 2 (.loop [0, 3, 6, 7, 20, 21, 22, 27, 28, 29] [10]
(s [o 30 (b .lss (t 29) (t 28))]
(.seq (.cond (t 30)
.skip
(.exit 2))
(.seq (.blk 3 (s [mV 31 29, o 32 (.ias 2 (t 27) (t 29)), lQ 33 2 32, o 10 (.alc [(.st []), (.st [])]), mV 9 31, sO 2 10 33]
(s [mV 34 7, mV 35 0, nK 36 35, fA 37 1 36, lD 38 1 37, lN 39 false 38, o 40 (b .mul (t 34) (t 39)), mV 41 9, o 42 (b .add (t 40) (t 41)), o 43 (b .add (t 42) (k 1)), mV 11 43]
(.seq (s [lQ 44 2 10, lQ 45 2 3, o 46 (.bin (.ag [1, 1]) .eql (t 44) (t 45))]
(.cond (t 46)
(s [mV 47 11, mV 4 47, mK 5 (.bo true)]
.ret)
.skip))
(.seq (.reg false [
fA 48 0 10, lD 49 1 48, fA 50 0 3, lD 51 1 50, o 52 (b .eql (t 49) (t 51)), mV 53 52, w 54 53 (.mov (t 6)), w 55 53 (b .eql (t 54) (k 0)), o 56 (.pick (t 53) (t 55) (.k (.bo false)))] [48, 50])
(.cond (t 56)
(.reg false [
mV 57 11, mV 6 57] [])
.skip))))))
(r [o 58 (b .add (t 29) (k 1)), mV 29 58])))))))))
(r [o 59 (b .add (t 22) (k 1)), mV 22 59])))))))
(s [mV 60 6, mV 4 60, mK 5 (.bo false)]
.ret))))⟩
def c147 : Ev.Fn := d147.den
theorem r147 : OK 147 c147 := rd d147 { P0 .rw with loc := [3, 10], heap := [20], ord := [(0, [1, 2, 0]), (2, [0, 1, 2, 3, 4, 5, 6, 7, 10, 8, 9])], clr := [(11, [48, 50])], mask := [(3, [0, 3, 6, 20, 21, 22], [10]), (6, [0, 3, 6, 7, 20, 21, 22, 27, 28, 29], [10])] } Tryz.func147
def d148 : DFn := ⟨[(.c (.sl [.one])), (.c .one), (.c .one), (.c .one)], [(.c (.sl [.one]))], .pure, [.tmp 8],
(s [mK 8 .ns]
(s [mV 11 0, lN 12 false 11, o 13 (b .add (t 12) (k 1)), o 14 (b .add (t 13) (k 5)), o 15 (.mks 1 1 [(.it .u8 0)] (k 0) (t 14)), mV 9 15]
(s [mV 16 9, mV 17 0, o 18 (.app 1 1 (t 16) (t 17)), mV 9 18]
(.seq (s [mV 19 1, o 20 (b .lss (t 19) (k 1)), mV 21 20, x 22 21 (.mov (t 1)), x 23 21 (b .gtr (t 22) (k 8)), o 24 (.pick (t 21) (.k (.bo true)) (t 23)), mV 25 24, x 26 25 (.mov (t 3)), x 27 25 (b .lss (t 26) (k 0)), o 28 (.pick (t 25) (.k (.bo true)) (t 27)), mV 29 28, x 30 29 (.mov (t 3)), x 31 29 (b .gtr (t 30) (k 2147483647)), o 32 (.pick (t 29) (.k (.bo true)) (t 31))]
(.cond (t 32)
(s [mV 33 9, mV 8 33]
.ret)
.skip))
(s [mV 34 1, cP 35 202 [t 34], mV 10 35]
(.seq (s [mV 36 3, mV 37 10, o 38 (b .lss (t 36) (t 37))]
(.cond (t 38)
(s [mV 39 9, mV 40 2, mV 41 10, cV 42 .u8 41, o 43 (b .andNot (t 40) (t 42)), mV 44 3, cV 45 .u8 44, o 46 (b .or (t 43) (t 45)), o 47 (.bsv [.one] 1 [[(.it .u8 0)]] [(0, (t 46))]), o 48 (.app 1 1 (t 39) (t 47)), mV 8 48]
.ret)
.skip))
(s [mV 49 9, mV 50 2, mV 51 10, cV 52 .u8 51, o 53 (b .or (t 50) (t 52)), o 54 (.bsv [.one] 1 [[(.it .u8 0)]] [(0, (t 53))]), o 55 (.app 1 1 (t 49) (t 54)), mV 9 55]
(s [mV 56 3, mV 57 10, o 58 (b .sub (t 56) (t 57)), mV 3 58]
(.seq (.blk 0 (.loop [3, 9] []
(.seq (s [mV 59 3, o 60 (b .geq (t 59) (k 128))]
(.cond (t 60)
.skip
(.exit 0)))
(.blk 1 (s [mV 61 9, mV 62 3, cV 63 .u8 62, o 64 (b .or (t 63) (.k (.it .u8 128))), o 65 (.bsv [.one] 1 [[(.it .u8 0)]] [(0, (t 64))]), o 66 (.app 1 1 (t 61) (t 65)), mV 9 66]
(r [mV 67 3, o 68 (b .shr (t 67) (.k (.it .u64 7))), mV 3 68]))))))
(s [mV 69 9, mV 70 3, cV 71 .u8 70, o 72 (.bsv [.one] 1 [[(.it .u8 0)]] [(0, (t 71))]), o 73 (.app 1 1 (t 69) (t 72)), mV 8 73]
.ret))))))))))⟩
def c148 : Ev.Fn := d148.den
theorem r148 : OK 148 c148 := rd d148 { P0 .pure with heap := [18, 55, 66], own := [18, 55, 66], mask := [(10, [3, 9], [])] } Tryz.func148
def d149 : DFn := ⟨[(.c (.sl [.one])), (.c .one), (.c .one), (.c .one), (.g [.one, .one])], [(.c (.sl [.one]))], .pure, [.tmp 10],
(s [o 9 (.box (t 4)), mK 10 .ns]
(s [mV 11 0, mV 12 2, mV 13 3, mV 14 1, cP 15 148 [t 11, t 12, t 13, t 14], mV 0 15]
(.seq (s [mV 16 1, o 17 (b .eql (t 16) (k 0))]
(.cond (t 17)
(.reg false [
mV 18 0, fA 19 0 9, lD 20 1 19, cP 21 203 [t 18, t 20], mV 0 21] [19])
.skip))
(.seq (.reg false [
mV 22 0, fA 23 1 9, lD 24 1 23, cP 25 203 [t 22, t 24], mV 10 25] [23])
.ret))))⟩
def c149 : Ev.Fn := d149.den
theorem r149 : OK 149 c149 := rd d149 { P0 .pure with loc := [9], ord := [(0, [1, 0])], clr := [(3, [19]), (4, [23])] } Tryz.func149
def d150 : DFn := ⟨[(.c .one), (.g [.one, .one])], [], .rw, [],
(.seq (.reg false [
o 3 (.box (t 1))] [])
(s [lQ 5 2 3, cP 6 111 [t 5], mV 4 6]
(s [mV 7 0, mV 8 0, nK 9 8, fA 10 3 9, lD 11 1 10, mV 12 4, o 13 (b .sub (t 11) (t 12)), cR 14 204 [t 7, t 13]]
(.seq (s [mV 15 4, mV 16 0, nK 17 16, fA 18 3 17, lD 19 1 18, o 20 (b .gtr (t 15) (t 19))]
(.cond (t 20)
.ret
.skip))
(.seq (.reg true [
mV 21 0, mV 22 0, nK 23 22, fA 24 0 23, lD 25 1 24, lQ 26 2 3, o 27 (.bsl 2 [[(.st []), (.st [])]] [(0, (t 26))]), o 28 (.call true .rw 205 [t 25, (k 0), t 27]), nK 29 21, fA 30 0 29, sO 1 30 28] [])
(r [mV 31 0, nK 32 31, fA 33 2 32, lD 34 1 33, mV 35 4, o 36 (b .add (t 34) (t 35)), nK 37 31, fA 38 2 37, sO 1 38 36]))))))⟩
def c150 : Ev.Fn := d150.den
theorem r150 : OK 150 c150 := rd d150 { P0 .rw with loc := [3], heap := [28, 27], own := [28] } Tryz.func150
def d152 : DFn := ⟨[(.g [.one, .one, .one, (.sl [.one])])], [(.c .one)], .pure, [.tmp 2],
(s [o 1 (.box (t 0)), mK 2 (.bo false)]
(.seq (.seq (.reg false [
fA 3 0 1, lD 4 1 3] [3])
(.blk 0 (.seq (.seq (.reg false [
o 6 (b .eql (t 4) (k 4)), mV 5 6] [])
(.cond (t 5)
.skip
(s [o 7 (b .eql (t 4) (k 6)), mV 5 7]
(.cond (t 5)
.skip
(r [o 8 (b .eql (t 4) (k 7)), mV 5 8])))))
(.cond (t 5)
(.seq (.reg false [
fA 9 2 1, lD 10 1 9, o 11 (b .neq (t 10) (k 0)), mV 2 11] [9])
.ret)
(.seq (.reg false [
o 13 (b .eql (t 4) (k 8)), mV 12 13] [])
(.cond (t 12)
(s [mK 2 (.bo false)]
.ret)
(s [o 15 (b .eql (t 4) (k 5)), mV 14 15]
(.cond (t 14)
(s [mK 2 (.bo true)]
.ret)
.skip))))))))
(.seq (.reg false [
fA 16 2 1, lD 17 1 16, o 18 (b .eql (t 17) (k 0)), mV 2 18] [16])
.ret)))⟩
def c152 : Ev.Fn := d152.den
theorem r152 : OK 152 c152 := rd d152 { P0 .pure with loc := [1], ord := [(0, [1, 0])], clr := [(1, [3]), (5, [9]), (10, [16])] } Tryz.func152
def d154 : DFn := ⟨[(.g [.one, .one, .one, (.sl [.one])]), (.g [.one, .one, .one, .one, .one, (.sl [.one]), .one, .one, .one, .one, (.sl [.one, .one])])], [(.g [.one, .one, .one, .one, .one, (.sl [.one]), .one, .one, .one, .one, (.sl [.one, .one])]), (.g [.one, .one, .one])], .pure, [.cell 4 11 true, .cell 5 3 true],
(.seq (.reg false [
o 2 (.box (t 0)), o 3 (.box (t 1)), o 4 (.alc [(.it .i64 0), (.it .i64 0), (.bo false), (.bo false), (.bo false), .ns, (.it .i64 0), (.it .i64 0), (.it .i64 0), (.it .i64 0), .ns]), o 5 (.alc [(.it .i64 0), (.it .i64 0), (.it .i64 0)])] [])
(s [lQ 10 4 2, cP 11 206 [t 10], mV 9 11, eX 12 9 0, eX 13 9 1, eX 14 9 2, mV 6 12, mV 7 13, mV 8 14]
(.seq (s [mV 15 8, o 16 (.un .not (t 15))]
(.cond (t 16)
(s [o 17 (.bld [(.it .i64 0), (.it .i64 0), (.bo false), (.bo false), (.bo false), .ns, (.it .i64 0), (.it .i64 0), (.it .i64 0), (.it .i64 0), .ns] []), cP 18 153 [(k 6)], sO 11 4 17, sO 3 5 18]
.ret)
.skip))
(.seq (s [mV 19 6, mV 20 7, lN 21 false 20, o 22 (b .gtr (t 19) (t 21))]
(.cond (t 22)
(s [o 23 (.bld [(.it .i64 0), (.it .i64 0), (.bo false), (.bo false), (.bo false), .ns, (.it .i64 0), (.it .i64 0), (.it .i64 0), (.it .i64 0), .ns] []), cP 24 153 [(k 1)], sO 11 4 23, sO 3 5 24]
.ret)
.skip))
(.seq (.reg true [
fA 25 1 2, lD 26 1 25, o 27 (b .and (t 26) (k 1)), o 28 (b .neq (t 27) (k 0)), fA 29 3 2, lD 30 1 29, lN 31 false 30, mV 32 7, mV 33 7, lN 34 false 33, mV 35 6, o 36 (b .sub (t 34) (t 35)), o 37 (.slc false 1 (t 32) none (some (t 36))), fA 39 2 3, cP 38 159 [t 37], ⟨none, none, [29], .sto 1 (t 39) (t 28)⟩, fA 40 9 3, sO 1 40 31, fA 41 5 3, sO 1 41 38] [25, 29, 39, 40, 41])
(s [lQ 42 11 3, o 43 (.bld [(.it .i64 0), (.it .i64 0), (.it .i64 0)] []), sO 11 4 42, sO 3 5 43]
.ret))))))⟩
def c154 : Ev.Fn := d154.den
theorem r154 : OK 154 c154 := rd d154 { P0 .pure with loc := [2, 3, 4, 5], ord := [(6, [0, 1, 2, 3, 4, 5, 6, 7, 8, 9, 10, 11, 12, 14, 13, 15, 16, 17, 18, 19])], clr := [(6, [25, 29, 39, 40, 41])] } Tryz.func154
def d155 : DFn := ⟨[(.g [.one, .one, .one, (.sl [.one])]), (.g [.one, .one, .one, .one, .one, (.sl [.one]), .one, .one, .one, .one, (.sl [.one, .one])])], [(.g [.one, .one, .one, .one, .one, (.sl [.one]), .one, .one, .one, .one, (.sl [.one, .one])]), (.g [.one, .one, .one])], .pure, [.cell 4 11 true, .cell 5 3 true],
(s [o 2 (.box (t 0)), o 3 (.box (t 1)), o 4 (.alc [(.it .i64 0), (.it .i64 0), (.bo false), (.bo false), (.bo false), .ns, (.it .i64 0), (.it .i64 0), (.it .i64 0), (.it .i64 0), .ns]), o 5 (.alc [(.it .i64 0), (.it .i64 0), (.it .i64 0)])]
(s [lQ 10 4 2, cP 11 206 [t 10], mV 9 11, eX 12 9 0, eX 13 9 1, eX 14 9 2, mV 6 12, mV 7 13, mV 8 14]
(.seq (s [mV 15 8, o 16 (.un .not (t 15))]
(.cond (t 16)
(s [o 17 (.bld [(.it .i64 0), (.it .i64 0), (.bo false), (.bo false), (.bo false), .ns, (.it .i64 0), (.it .i64 0), (.it .i64 0), (.it .i64 0), .ns] []), cP 18 153 [(k 6)], sO 11 4 17, sO 3 5 18]
.ret)
.skip))
(.seq (.seq (.reg false [
fA 19 1 2, lD 20 1 19, o 21 (b .and (t 20) (k 32)), o 22 (b .neq (t 21) (k 0))] [19])
(.cond (t 22)
(.seq (.seq (.reg false [
mV 23 7, lN 24 false 23, o 25 (b .lss (t 24) (k 5))] [])
(.cond (t 25)
(s [o 26 (.bld [(.it .i64 0), (.it .i64 0), (.bo false), (.bo false), (.bo false), .ns, (.it .i64 0), (.it .i64 0), (.it .i64 0), (.it .i64 0), .ns] []), cP 27 153 [(k 6)], sO 11 4 26, sO 3 5 27]
.ret)
.skip))
(.seq (.seq (.reg true [
mV 28 7, fA 30 2 2, lD 31 1 30, cP 29 160 [t 28], o 32 (b .eql (t 29) (t 31))] [30])
(.cond (t 32)
(.seq (.reg false [
o 33 (.bld [(.it .i64 0), (.it .i64 0), (.bo false), (.bo false), (.bo false), .ns, (.it .i64 0), (.it .i64 0), (.it .i64 0), (.it .i64 0), .ns] []), fA 34 2 2, lD 35 1 34, cP 36 207 [(k 1), t 35], sO 11 4 33, sO 3 5 36] [34])
.ret)
.skip))
(.reg false [
mV 37 7, o 38 (.slc false 1 (t 37) (some (k 5)) none), mV 7 38] [])))
.skip))
(.seq (.seq (r [mV 39 6, mV 40 7, lN 41 false 40, o 42 (b .gtr (t 39) (t 41))])
(.cond (t 42)
(s [o 43 (.bld [(.it .i64 0), (.it .i64 0), (.bo false), (.bo false), (.bo false), .ns, (.it .i64 0), (.it .i64 0), (.it .i64 0), (.it .i64 0), .ns] []), cP 44 153 [(k 1)], sO 11 4 43, sO 3 5 44]
.ret)
.skip))
(.seq (.reg true [
fA 45 1 2, lD 46 1 45, o 47 (b .and (t 46) (k 1)), o 48 (b .neq (t 47) (k 0)), fA 49 1 2, lD 50 1 49, o 51 (b .and (t 50) (k 4)), o 52 (b .neq (t 51) (k 0)), mV 53 7, mV 54 7, lN 55 false 54, mV 56 6, o 57 (b .sub (t 55) (t 56)), o 58 (.slc false 1 (t 53) none (some (t 57))), fA 60 2 3, cP 59 159 [t 58], ⟨none, none, [49], .sto 1 (t 60) (t 48)⟩, fA 61 3 3, sO 1 61 52, fA 62 5 3, sO 1 62 59] [45, 49, 60, 61, 62])
(s [lQ 63 11 3, o 64 (.bld [(.it .i64 0), (.it .i64 0), (.it .i64 0)] []), sO 11 4 63, sO 3 5 64]
.ret)))))))⟩
def c155 : Ev.Fn := d155.den
theorem r155 : OK 155 c155 := rd d155 { P0 .pure with loc := [2, 3, 4, 5], ord := [(7, [0, 2, 3, 1, 4]), (12, [0, 1, 2, 3, 4, 5, 6, 7, 8, 9, 10, 11, 12, 13, 15, 14, 16, 17, 18, 19, 20])], clr := [(4, [19]), (7, [30]), (8, [34]), (12, [45, 49, 60, 61, 62])] } Tryz.func155
def d157 : DFn := ⟨[(.c (.sl [.one]))], [(.c .one)], .pure, [.tmp 2],
(s [mK 2 (.it .i64 0)]
(.seq (.reg true [
mV 3 0, o 4 (.ias 1 (t 3) (k 0)), lD 5 1 4, cV 6 .i64 5, o 7 (b .shl (t 6) (.k (.it .u64 24))), mV 8 0, o 9 (.ias 1 (t 8) (k 1)), lD 10 1 9, cV 11 .i64 10, o 12 (b .shl (t 11) (.k (.it .u64 16))), o 13 (b .or (t 7) (t 12)), mV 14 0, o 15 (.ias 1 (t 14) (k 2)), lD 16 1 15, cV 17 .i64 16, o 18 (b .shl (t 17) (.k (.it .u64 8))), o 19 (b .or (t 13) (t 18)), mV 20 0, o 21 (.ias 1 (t 20) (k 3)), lD 22 1 21, cV 23 .i64 22, o 24 (b .or (t 19) (t 23)), mV 2 24] [])
.ret))⟩
def c157 : Ev.Fn := d157.den
theorem r157 : OK 157 c157 := rd d157 (P0 .pure) Tryz.func157
def d158 : DFn := ⟨[(.g [.one, .one, .one, (.sl [.one])]), (.g [.one, .one, .one, .one, .one, (.sl [.one]), .one, .one, .one, .one, (.sl [.one, .one])])], [(.g [.one, .one, .one, .one, .one, (.sl [.one]), .one, .one, .one, .one, (.sl [.one, .one])]), (.g [.one, .one, .one])], .rw, [.cell 4 11 true, .cell 5 3 true],
(s [o 2 (.box (t 0)), o 3 (.box (t 1)), o 4 (.alc [(.it .i64 0), (.it .i64 0), (.bo false), (.bo false), (.bo false), .ns, (.it .i64 0), (.it .i64 0), (.it .i64 0), (.it .i64 0), .ns]), o 5 (.alc [(.it .i64 0), (.it .i64 0), (.it .i64 0)])]
(.seq (.reg false [
fA 9 1 2, lD 10 1 9, o 11 (b .and (t 10) (k 1)), o 12 (b .neq (t 11) (k 0)), fA 13 4 3, sO 1 13 12] [9, 13])
(.seq (.reg false [
fA 14 3 2, lD 15 1 14, mV 6 15] [14])
(.seq (.seq (.reg false [
fA 16 4 3, lD 17 1 16, mV 18 17, w 19 18 (.mov (t 6)), w 20 18 (.len false (t 19)), w 21 18 (b .gtr (t 20) (k 0)), o 22 (.pick (t 18) (t 21) (.k (.bo false))), mV 23 22, x 24 23 (.mov (t 6)), x 25 23 (.len false (t 24)), x 26 23 (b .rem (t 25) (k 6)), x 27 23 (b .neq (t 26) (k 0)), o 28 (.pick (t 23) (.k (.bo true)) (t 27))] [16])
(.cond (t 28)
(.seq (.reg false [
o 29 (.bld [(.it .i64 0), (.it .i64 0), (.bo false), (.bo false), (.bo false), .ns, (.it .i64 0), (.it .i64 0), (.it .i64 0), (.it .i64 0), .ns] []), cP 30 153 [(k 6)], sO 11 4 29, sO 3 5 30] [])
.ret)
.skip))
(.seq (.blk 0 (.loop [3, 4, 5, 6] [2, 7]
(.seq (s [mV 31 6, lN 32 false 31, o 33 (b .gtr (t 32) (k 0))]
(.cond (t 33)
.skip
(.exit 0)))
(.seq (.blk 1 (.seq (.reg true [
mV 36 6, o 37 (.ias 1 (t 36) (k 0)), lD 38 1 37, cV 39 .i64 38, o 40 (b .shl (t 39) (.k (.it .u64 8))), mV 41 6, o 42 (.ias 1 (t 41) (k 1)), lD 43 1 42, cV 44 .i64 43, o 45 (b .or (t 40) (t 44)), mV 46 6, o 47 (.slc false 1 (t 46) (some (k 2)) none), u 7 [36, 37, 38, 41, 42, 43, 46] (.alc [(.it .i64 0), (.it .i64 0)]), cP 48 157 [t 47], o 49 (.bld [(.it .i64 0), (.it .i64 0)] [(0, 1, (t 45)), (1, 1, (t 48))]), sO 2 7 49] [])
(.seq (s [lQ 50 2 7, cP 51 208 [t 50], mV 8 51]
(s [mV 52 8, o 53 (b .neq (t 52) (k 0))]
(.cond (t 53)
(s [o 54 (.bld [(.it .i64 0), (.it .i64 0), (.bo false), (.bo false), (.bo false), .ns, (.it .i64 0), (.it .i64 0), (.it .i64 0), (.it .i64 0), .ns] []), mV 55 8, cP 56 153 [t 55], sO 11 4 54, sO 3 5 56]
.ret)
.skip)))
(.reg false [
fA 57 10 3, lD 58 1 57, lQ 59 2 7, o 60 (.bsv [.one, .one] 2 [[(.it .i64 0), (.it .i64 0)]] [(0, (t 59))]), o 61 (.app 2 16 (t 58) (t 60)), fA 62 10 3, sO 1 62 61] [57, 62]))))
(.reg false [
mV 34 6, o 35 (.slc false 1 (t 34) (some (k 6)) none), mV 6 35] [])))))
(s [lQ 63 11 3, o 64 (.bld [(.it .i64 0), (.it .i64 0), (.it .i64 0)] []), sO 11 4 63, sO 3 5 64]
.ret))))))⟩
def c158 : Ev.Fn := d158.den
theorem r158 : OK 158 c158 := rd d158 { P0 .rw with loc := [2, 3, 4, 5, 7], ord := [(7, [0, 1, 2, 3, 4, 5, 6, 7, 8, 9, 10, 11, 14, 12, 13, 15])], clr := [(1, [9, 13]), (2, [14]), (3, [16]), (11, [57, 62])], mask := [(5, [3, 4, 5, 6], [2, 7])] } Tryz.func158
def d159 : DFn := ⟨[(.c (.sl [.one]))], [(.c (.sl [.one]))], .pure, [.tmp 2],
(s [mK 2 .ns]
(s [mV 3 0, o 4 (.app 1 1 (.k .ns) (t 3)), mV 2 4]
.ret))⟩
def c159 : Ev.Fn := d159.den
theorem r159 : OK 159 c159 := rd d159 (P0 .pure) Tryz.func159
def d162 : DFn := ⟨[(.c .one), (.c .one)], [(.c .one)], .rw, [.tmp 4],
(s [mK 4 (.bo false)]
(.seq (s [mV 5 1, o 6 (b .rem (t 5) (k 2)), o 7 (b .eql (t 6) (k 0))]
(.cond (t 7)
(s [mK 4 (.bo true)]
.ret)
.skip))
(.seq (s [mV 8 0, nK 9 8, fA 10 0 9, lD 11 1 10]
(.cond (t 11)
(s [mV 12 1, mV 13 0, nK 14 13, fA 15 16 14, lD 16 1 15, o 17 (b .gtr (t 12) (t 16)), mV 4 17]
.ret)
.skip))
(s [mV 18 1, mV 19 0, nK 20 19, fA 21 17 20, lD 22 1 21, o 23 (b .geq (t 18) (t 22)), mV 4 23]
.ret))))⟩
def c162 : Ev.Fn := d162.den
theorem r162 : OK 162 c162 := rd d162 (P0 .rw) Tryz.func162
def d163 : DFn := ⟨[(.c .one), (.c .one)], [(.c .one)], .rw, [.tmp 4],
(s [mK 4 (.bo false)]
(s [mV 5 0, nK 6 5, fA 7 18 6, lD 8 1 7, mV 9 1, cP 10 209 [t 8, t 9], mV 4 10]
.ret))⟩
def c163 : Ev.Fn := d163.den
theorem r163 : OK 163 c163 := rd d163 (P0 .rw) Tryz.func163
def d165 : DFn := ⟨[(.c .one), (.g [.one, .one, .one, .one, .one, (.sl [.one]), .one, .one, .one, .one, (.sl [.one, .one])])], [], .rw, [],
(s [o 3 (.box (t 1))]
(.seq (.seq (.reg false [
mV 7 0, fA 8 1 3, lD 9 1 8, cR 10 162 [t 7, t 9]] [8])
(.cond (t 10)
(.seq (.reg false [
mV 11 0, cR 12 77 [t 11, (k 1)]] [])
.ret)
.skip))
(s [mK 4 (.bo false)]
(.seq (.seq (.reg true [
mV 14 0, mV 15 0, nK 16 15, fA 17 14 16, lQ 18 1 17, fA 19 9 3, lD 20 1 19, o 21 (.call true .pure 81 [t 18, t 20]), mV 13 21, eX 22 13 0, eX 23 13 1, nK 24 14, fA 25 14 24, sO 1 25 22, mV 4 23] [19])
(s [mV 26 4, o 27 (.un .not (t 26))]
(.cond (t 27)
(s [mV 28 0, cR 29 77 [t 28, (k 3)]]
.ret)
.skip)))
(.seq (.seq (.reg false [
mV 30 0, fA 31 1 3, lD 32 1 31, cR 33 163 [t 30, t 32]] [31])
(.cond (t 33)
(.seq (.reg false [
mV 34 0, fA 35 1 3, lD 36 1 35, fA 37 9 3, lD 38 1 37, cR 39 177 [t 34, t 36, t 38]] [35, 37])
.ret)
.skip))
(.seq (.reg false [
mV 40 0, fA 41 1 3, lD 42 1 41, cR 43 78 [t 40, t 42], mV 5 43] [41])
(.seq (.seq (.reg false [
mV 44 5, fA 45 9 3, lD 46 1 45, cR 47 210 [t 44, t 46], mV 6 47] [45])
(.seq (.reg false [
mV 48 6, o 49 (b .neq (t 48) (k 0))] [])
(.cond (t 49)
(.seq (.seq (.reg false [
mV 50 0, fA 51 1 3, lD 52 1 51, mV 53 6, cR 54 164 [t 50, t 52, t 53]] [51])
(.cond (t 54)
(.reg false [
mV 55 0, fA 56 1 3, lD 57 1 56, fA 58 9 3, lD 59 1 58, cR 60 177 [t 55, t 57, t 59]] [56, 58])
.skip))
.ret)
.skip)))
(.seq (.reg true [
mV 62 5, mV 63 5, nK 64 63, fA 65 3 64, lQ 66 1 65, fA 67 9 3, lD 68 1 67, o 69 (.call true .pure 81 [t 66, t 68]), mV 61 69, eX 70 61 0, eX 71 61 1, nK 72 62, fA 73 3 72, sO 1 73 70] [67])
(.seq (.seq (.reg false [
fA 74 2 3, lD 75 1 74] [74])
(.cond (t 75)
(.reg false [
mV 76 0, mV 77 5, cR 78 82 [t 76, t 77, (k 3)]] [])
.skip))
(.seq (.reg false [
mV 79 0, fA 80 1 3, lD 81 1 80, fA 82 9 3, lD 83 1 82, fA 84 5 3, lD 85 1 84, lN 86 false 85, o 87 (b .sub (t 83) (t 86)), cR 88 177 [t 79, t 81, t 87]] [80, 82, 84])
(.cond (t 88)
(.reg false [
mV 89 0, fA 90 1 3, lD 91 1 90, fA 92 5 3, lD 93 1 92, o 94 (.cnv .b2s (t 93)), fA 95 2 3, lD 96 1 95, o 97 (.bld [(.it .i64 0), (.it .i64 0), .ns, (.st []), (.bo false), (.it .i64 0)] [(0, 1, (k 3)), (1, 1, (t 91)), (3, 1, (t 94)), (4, 1, (t 96))]), cR 98 120 [t 89, t 97]] [90, 92, 95])
.skip)))))))))))⟩
def c165 : Ev.Fn := d165.den
theorem r165 : OK 165 c165 := rd d165 { P0 .rw with loc := [3], heap := [21, 69], own := [21, 69], clr := [(1, [8]), (4, [19]), (7, [31]), (8, [35, 37]), (9, [41]), (10, [45]), (12, [51]), (13, [56, 58]), (14, [67]), (15, [74]), (17, [80, 82, 84]), (18, [90, 92, 95])] } Tryz.func165
def d166 : DFn := ⟨[(.c .one), (.c .one)], [], .rw, [],
(.seq (.seq (.reg false [
mV 11 1, o 12 (.un .not (t 11))] [])
(.cond (t 12)
.ret
.skip))
(s [mV 13 0, nK 14 13, fA 15 19 14, lQ 16 3 15, o 4 (.alc [(.it .i64 0), (.bo false), .ns]), sO 3 4 16]
(s [mV 17 0, o 18 (.bld [(.it .i64 0), (.bo false), .ns] []), nK 19 17, fA 20 19 19, sO 3 20 18]
(.seq (.reg true [
mV 22 0, nK 23 22, fA 24 10 23, lD 25 1 24, fA 26 2 4, lD 27 1 26, cR 28 211 [t 25, t 27], mV 21 28, eX 29 21 0, eX 30 21 1, mV 5 29, mV 6 30] [26])
(.seq (s [mV 31 6, o 32 (b .eql (t 31) (k 2))]
(.cond (t 32)
(s [mV 33 0, cR 34 77 [t 33, (k 11)]]
.ret)
.skip))
(.seq (s [mV 35 6, o 36 (b .neq (t 35) (k 0))]
(.cond (t 36)
(s [mV 37 0, cR 38 77 [t 37, (k 9)]]
.ret)
.skip))
(s [mK 7 .ns]
(.seq (s [mV 39 5, lN 40 false 39, mK 41 (.it .i64 0)]
(.blk 0 (.loop [0, 4, 7, 39, 40, 41] [9]
(s [o 42 (b .lss (t 41) (t 40))]
(.seq (.cond (t 42)
.skip
(.exit 0))
(.seq (.blk 1 (s [o 43 (.ias 3 (t 39) (t 41)), lQ 44 3 43, o 9 (.alc [(.st []), (.st []), (.it .i64 0)]), sO 3 9 44]
(.reg false [
mV 45 7, fA 46 0 9, lQ 47 2 46, o 48 (.bsv [.one, .one] 2 [[(.st []), (.st [])]] [(0, (t 47))]), o 49 (.app 2 32 (t 45) (t 48)), mV 7 49] [46])))
(.reg false [
o 50 (b .add (t 41) (k 1)), mV 41 50] [])))))))
(.seq (.reg false [
mV 51 0, fA 52 0 4, lD 53 1 52, cR 54 212 [t 51, t 53], mV 10 54] [52])
(.seq (.reg false [
mV 55 10, o 56 (.bin .ptr .neq (t 55) (.k .np))] [])
(.cond (t 56)
(.reg false [
mV 57 0, mV 58 10, mV 59 7, fA 60 1 4, lD 61 1 60, cR 62 213 [t 57, t 58, t 59, t 61]] [60])
.skip)))))))))))⟩
def c166 : Ev.Fn := d166.den
theorem r166 : OK 166 c166 := rd d166 { P0 .rw with loc := [4, 9], heap := [49], own := [49], clr := [(3, [26]), (12, [46]), (14, [52]), (16, [60])], mask := [(10, [0, 4, 7, 39, 40, 41], [9])] } Tryz.func166
def d168 : DFn := ⟨[(.c .one), (.c (.sl [.one, .one]))], [], .rw, [],
(.seq (s [mV 14 1, lN 15 false 14, mK 16 (.it .i64 0)]
(.blk 0 (.loop [0, 14, 15, 16] [5, 6]
(s [o 17 (b .lss (t 16) (t 15))]
(.seq (.cond (t 17)
.skip
(.exit 0))
(.seq (.blk 1 (s [o 18 (.ias 2 (t 14) (t 16)), lQ 19 2 18, o 5 (.alc [(.it .i64 0), (.it .i64 0)]), sO 2 5 19]
(s [mV 20 0, nK 21 20, fA 22 4 21, lQ 23 5 22, o 6 (.alc [(.it .i64 0), (.it .i64 0), (.it .i64 0), (.it .i64 0), (.it .i64 0)]), sO 5 6 23]
(s [mV 25 0, lQ 26 5 6, lQ 27 2 5, o 28 (.bsv [.one, .one] 2 [[(.it .i64 0), (.it .i64 0)]] [(0, (t 27))]), o 29 (.call true .pure 214 [t 26, t 28]), mV 24 29, eX 30 24 0, eX 31 24 1, nK 32 25, fA 33 4 32, sO 5 33 30]
(.seq (s [mV 34 0, nK 35 34, fA 36 4 35, fA 37 0 36, lD 38 1 37, o 39 (.mnx false (t 38) (k 4096)), mV 7 39]
(.seq (.reg false [
fA 40 0 5, lD 41 1 40, o 42 (b .eql (t 41) (k 1))] [40])
(.cond (t 42)
(.seq (.reg false [
mV 44 0, nK 45 44, fA 46 11 45, lD 47 1 46, cR 48 215 [t 47], mV 43 48, eX 49 43 0, eX 50 43 1, eX 51 43 2, mV 8 49, mV 9 50, mV 10 51] [])
(s [mV 52 10, mV 53 7, o 54 (b .neq (t 52) (t 53))]
(.cond (t 54)
(r [mV 55 0, nK 56 55, fA 57 11 56, lD 58 1 57, mV 59 7, cR 60 216 [t 58, t 59]])
.skip)))
.skip)))
(.seq (.seq (.reg false [
fA 61 0 5, lD 62 1 61, o 63 (b .neq (t 62) (k 4))] [61])
(.cond (t 63)
(.exit 1)
.skip))
(.seq (.reg false [
mV 64 0, nK 65 64, fA 66 15 65, lD 67 1 66, lN 68 false 67, mK 69 (.it .i64 0)] [])
(.blk 2 (.loop [0, 6, 14, 15, 16, 67, 68, 69] [5]
(s [o 70 (b .lss (t 69) (t 68))]
(.seq (.cond (t 70)
.skip
(.exit 2))
(.seq (.blk 3 (s [o 71 (.ias 1 (t 67) (t 69)), lD 72 1 71, mV 12 72]
(s [mK 13 (.bo false)]
(.seq (.reg true [
mV 74 12, mV 75 12, nK 76 75, fA 77 2 76, lQ 78 1 77, fA 79 2 6, lD 80 1 79, mV 81 0, nK 82 81, fA 83 4 82, fA 84 2 83, lD 85 1 84, o 86 (.call true .pure 217 [t 78, t 80, t 85]), mV 73 86, eX 87 73 0, eX 88 73 1, nK 89 74, fA 90 2 89, sO 1 90 87, mV 13 88] [79])
(s [mV 91 13, o 92 (.un .not (t 91))]
(.cond (t 92)
(s [mV 93 0, cR 94 77 [t 93, (k 3)]]
.ret)
.skip))))))
(r [o 95 (b .add (t 69) (k 1)), mV 69 95])))))))))))))
(r [o 96 (b .add (t 16) (k 1)), mV 16 96])))))))
(r [mV 97 0, o 98 (.bld [(.it .i64 0), (.it .i64 0), (.it .i64 0), .ns] [(0, 1, (k 4)), (1, 1, (k 1))]), cR 99 123 [t 97, t 98]]))⟩
def c168 : Ev.Fn := d168.den
theorem r168 : OK 168 c168 := rd d168 { P0 .rw with loc := [5, 6], heap := [29, 86], own := [29, 86], clr := [(6, [40]), (10, [61]), (15, [79])], mask := [(1, [0, 14, 15, 16], [5, 6]), (12, [0, 6, 14, 15, 16, 67, 68, 69], [5])] } Tryz.func168
def d170 : DFn := ⟨[(.c .one)], [(.c .one)], .pure, [.tmp 2],
(s [mK 2 (.it .i64 0)]
(.seq (s [mV 3 0]
(.cond (t 3)
(s [mK 2 (.it .i64 2)]
.ret)
.skip))
(s [mK 2 (.it .i64 3)]
.ret)))⟩
def c170 : Ev.Fn := d170.den
theorem r170 : OK 170 c170 := rd d170 (P0 .pure) Tryz.func170
def d171 : DFn := ⟨[(.c .one)], [(.c .one)], .pure, [.tmp 2],
(s [mK 2 (.bo false)]
(s [mV 3 0, o 4 (b .eql (t 3) (k 1)), mV 5 4, x 6 5 (.mov (t 0)), x 7 5 (b .eql (t 6) (k 3)), o 8 (.pick (t 5) (.k (.bo true)) (t 7)), mV 2 8]
.ret))⟩
def c171 : Ev.Fn := d171.den
theorem r171 : OK 171 c171 := rd d171 (P0 .pure) Tryz.func171
def d172 : DFn := ⟨[(.c (.sl [.one])), (.c .one)], [(.c (.sl [.one]))], .rw, [.tmp 4],
(s [mK 4 .ns]
(s [mV 8 0, mV 9 1, cR 10 218 [t 8, t 9], mV 5 10]
(.seq (s [mV 11 5, o 12 (b .eql (t 11) (.k (.it .i64 (-1))))]
(.cond (t 12)
(s [mV 13 0, mV 4 13]
.ret)
.skip))
(.seq (s [mV 14 5, o 15 (b .add (t 14) (k 1)), mV 6 15]
(.blk 0 (.loop [0, 1, 5, 6] []
(.seq (s [mV 16 6, mV 17 0, lN 18 false 17, o 19 (b .lss (t 16) (t 18))]
(.cond (t 19)
.skip
(.exit 0)))
(.seq (.blk 1 (s [mV 22 0, mV 23 6, o 24 (.ias 1 (t 22) (t 23)), lD 25 1 24, mV 7 25]
(s [mV 26 1, mV 27 7, o 28 (.calv [] (t 26) [t 27]), o 29 (.un .not (t 28))]
(.cond (t 29)
(s [mV 30 0, mV 31 5, mV 32 7, o 33 (.ias 1 (t 30) (t 31)), sO 1 33 32]
(r [mV 34 5, o 35 (b .add (t 34) (k 1)), mV 5 35]))
.skip))))
(r [mV 20 6, o 21 (b .add (t 20) (k 1)), mV 6 21]))))))
(s [mV 36 0, mV 37 5, o 38 (.slc false 1 (t 36) (some (t 37)) none), n (.clr 1 [.np] (t 38))]
(s [mV 39 0, mV 40 5, o 41 (.slc false 1 (t 39) none (some (t 40))), mV 4 41]
.ret))))))⟩
def c172 : Ev.Fn := d172.den
theorem r172 : OK 172 c172 := rd d172 { P0 .rw with mask := [(5, [0, 1, 5, 6], [])] } Tryz.func172
def d173 : DFn := ⟨[(.c .one), (.c .one)], [(.c .one)], .rw, [.tmp 3],
(s [mK 3 (.bo false)]
(.seq (.reg true [
mV 4 0, nK 5 4, fA 6 0 5, lD 7 1 6, lD 8 1 1, o 9 (b .eql (t 7) (t 8)), mV 3 9] [])
.ret))⟩
def c173 : Ev.Fn := d173.den
theorem r173 : OK 173 c173 := rd d173 (P0 .rw) Tryz.func173
end Go.Proofs.YtfnoiklmcmboeaaGreatDoor.tab
