import Derived.Test.YtfnoiklmcmboeaaGreatDoorTabx2
import Derived.KernelRfl
set_option linter.unusedVariables false
set_option linter.unusedSimpArgs false
set_option linter.unusedSectionVars false
/- the functions of the seat, read off the program -/
namespace Go.Proofs.YtfnoiklmcmboeaaGreatDoor.tab
open Go hiding Fn
open Ev
def d253 : DFn := ⟨[(.c .one)], [(.c .one)], .pure, [.tmp 2],
(s [mK 2 (.bo false)]
(s [mV 3 0, o 4 (b .eql (t 3) (.k (.it .u8 32))), mV 5 4, x 6 5 (.mov (t 0)), x 7 5 (b .eql (t 6) (.k (.it .u8 9))), o 8 (.pick (t 5) (.k (.bo true)) (t 7)), mV 2 8]
.ret))⟩
def c253 : Ev.Fn := d253.den
theorem r253 : OK 253 c253 := rd d253 (P0 .pure) Tryz.func253
def d254 : DFn := ⟨[(.c .one)], [(.c .one)], .pure, [.tmp 2],
(s [mK 2 (.it .i64 0)]
(s [mK 3 (.it .i64 0)]
(.seq (s [mV 5 0, lN 6 true 5, mK 7 (.it .i64 0)]
(.blk 0 (.loop [0, 3, 6, 7] []
(s [o 8 (b .lss (t 7) (t 6))]
(.seq (.cond (t 8)
.skip
(.exit 0))
(.seq (.blk 1 (s [mV 9 7, mV 4 9]
(r [mV 10 3, mV 11 0, mV 12 4, o 13 (.ixs (t 11) (t 12)), cV 14 .i64 13, cP 15 296 [t 14], o 16 (b .add (t 10) (t 15)), mV 3 16])))
(r [o 17 (b .add (t 7) (k 1)), mV 7 17])))))))
(s [mV 18 3, o 19 (b .add (t 18) (k 7)), o 20 (b .quo (t 19) (k 8)), mV 2 20]
.ret))))⟩
def c254 : Ev.Fn := d254.den
theorem r254 : OK 254 c254 := rd d254 { P0 .pure with mask := [(3, [0, 3, 6, 7], [])] } Tryz.func254
def d255 : DFn := ⟨[(.c .one)], [(.c (.sl [.one]))], .pure, [.tmp 2],
(s [mK 2 .ns]
(s [cR 9 297 [], mV 3 9]
(s [mV 10 0, cP 11 254 [t 10], o 12 (.mks 1 1 [(.it .u8 0)] (k 0) (t 11)), mV 4 12]
(s [mK 5 (.it .u64 0), mK 6 (.it .i64 0)]
(.seq (s [mV 13 0, lN 14 true 13, mK 15 (.it .i64 0)]
(.blk 0 (.loop [0, 3, 4, 5, 6, 14, 15] []
(s [o 16 (b .lss (t 15) (t 14))]
(.seq (.cond (t 16)
.skip
(.exit 0))
(.seq (.blk 1 (s [mV 17 15, mV 7 17]
(s [mV 18 0, mV 19 7, o 20 (.ixs (t 18) (t 19)), cV 21 .i64 20, cP 22 296 [t 21], mV 8 22]
(.seq (.reg true [
mV 23 5, mV 24 8, cV 25 .u64 24, o 26 (b .shl (t 23) (t 25)), mV 27 3, mV 28 0, mV 29 7, o 30 (.ixs (t 28) (t 29)), nK 31 27, fA 32 353 31, o 33 (.iaa 257 1 (t 32) (t 30)), lD 34 1 33, cV 35 .u64 34, o 36 (b .or (t 26) (t 35)), mV 5 36] [])
(s [mV 37 6, mV 38 8, o 39 (b .add (t 37) (t 38)), mV 6 39]
(.blk 2 (.loop [0, 3, 4, 5, 6, 14, 15] []
(.seq (s [mV 40 6, o 41 (b .geq (t 40) (k 8))]
(.cond (t 41)
.skip
(.exit 2)))
(.blk 3 (s [mV 42 6, o 43 (b .sub (t 42) (k 8)), mV 6 43]
(r [mV 44 4, mV 45 5, mV 46 6, cV 47 .u64 46, o 48 (b .shr (t 45) (t 47)), cV 49 .u8 48, o 50 (.bsv [.one] 1 [[(.it .u8 0)]] [(0, (t 49))]), o 51 (.app 1 1 (t 44) (t 50)), mV 4 51])))))))))))
(r [o 52 (b .add (t 15) (k 1)), mV 15 52])))))))
(.seq (s [mV 53 6, o 54 (b .gtr (t 53) (k 0))]
(.cond (t 54)
(r [mV 55 4, mV 56 5, mV 57 6, o 58 (b .sub (k 8) (t 57)), cV 59 .u64 58, o 60 (b .shl (t 56) (t 59)), cV 61 .u8 60, mV 62 6, cV 63 .u64 62, o 64 (b .shr (.k (.it .u8 255)) (t 63)), o 65 (b .or (t 61) (t 64)), o 66 (.bsv [.one] 1 [[(.it .u8 0)]] [(0, (t 65))]), o 67 (.app 1 1 (t 55) (t 66)), mV 4 67])
.skip))
(s [mV 68 4, mV 2 68]
.ret)))))))⟩
def c255 : Ev.Fn := d255.den
theorem r255 : OK 255 c255 := rd d255 { P0 .pure with heap := [51, 67], own := [51, 67], mask := [(5, [0, 3, 4, 5, 6, 14, 15], []), (10, [0, 3, 4, 5, 6, 14, 15], [])] } Tryz.func255
def d258 : DFn := ⟨[(.c .one), (.c .one), (.c .one)], [(.c .one)], .pure, [.tmp 6],
(s [mK 6 (.bo false)]
(s [mV 7 0, mV 8 1, o 9 (b .geq (t 7) (t 8)), mV 10 9, w 11 10 (.mov (t 0)), w 12 10 (.mov (t 2)), w 13 10 (b .leq (t 11) (t 12)), o 14 (.pick (t 10) (t 13) (.k (.bo false))), mV 6 14]
.ret))⟩
def c258 : Ev.Fn := d258.den
theorem r258 : OK 258 c258 := rd d258 (P0 .pure) Tryz.func258
def d259 : DFn := ⟨[(.c (.sl [.one])), (.c .one)], [(.c .one)], .pure, [.tmp 4],
(s [mK 4 (.it .i64 0)]
(.seq (s [mV 6 0, lN 7 false 6, mK 8 (.it .i64 0)]
(.blk 0 (.loop [0, 1, 7, 8] []
(s [o 9 (b .lss (t 8) (t 7))]
(.seq (.cond (t 9)
.skip
(.exit 0))
(.seq (.blk 1 (s [mV 10 8, mV 5 10]
(s [mV 11 1, mV 12 0, mV 13 5, o 14 (.ias 1 (t 12) (t 13)), lD 15 1 14, o 16 (b .eql (t 11) (t 15))]
(.cond (t 16)
(s [mV 17 5, mV 4 17]
.ret)
.skip))))
(r [o 18 (b .add (t 8) (k 1)), mV 8 18])))))))
(s [mK 4 (.it .i64 (-1))]
.ret)))⟩
def c259 : Ev.Fn := d259.den
theorem r259 : OK 259 c259 := rd d259 { P0 .pure with mask := [(2, [0, 1, 7, 8], [])] } Tryz.func259
def d260 : DFn := ⟨[(.g [.one])], [(.c .one)], .pure, [.tmp 2],
(s [o 1 (.box (t 0)), mK 2 (.it .i64 0)]
(.seq (.reg false [
fA 3 0 1, lD 4 1 3, mV 2 4] [3])
.ret))⟩
def c260 : Ev.Fn := d260.den
theorem r260 : OK 260 c260 := rd d260 { P0 .pure with loc := [1], ord := [(0, [1, 0])], clr := [(1, [3])] } Tryz.func260
def d262 : DFn := ⟨[(.c .one), (.c .one)], [], .rw, [],
(.blk 0 (.loop [0, 1] []
(.seq (.seq (.reg true [
lD 2 1 0, nK 3 2, fA 4 2 3, lD 5 1 4, lD 6 1 1, lN 7 false 6, o 8 (b .lss (t 5) (t 7))] [])
(.cond (t 8)
.skip
(.exit 0)))
(.blk 1 (r [lD 9 1 0, cR 10 263 [t 9]])))))⟩
def c262 : Ev.Fn := d262.den
theorem r262 : OK 262 c262 := rd d262 { P0 .rw with mask := [(0, [0, 1], [])] } Tryz.func262
def d263 : DFn := ⟨[(.c .one)], [], .rw, [],
(.seq (.reg true [
mV 4 0, nK 5 4, fA 6 1 5, lD 7 1 6, mV 8 0, nK 9 8, fA 10 2 9, lD 11 1 10, o 12 (.ias 1 (t 7) (t 11)), lD 13 1 12, mV 2 13] [])
(.blk 0 (s [mV 19 2, o 20 (b .geq (t 19) (.k (.it .u8 128))), mV 18 20]
(.cond (t 18)
(r [mV 21 0, mV 22 0, mV 23 0, cR 24 302 [t 23, (k 7)], cR 25 301 [t 22, t 24], cR 26 300 [t 21, t 25, (k 1)]])
(s [mV 28 2, o 29 (b .geq (t 28) (.k (.it .u8 64))), mV 27 29]
(.cond (t 27)
(s [mV 30 0, cR 31 303 [t 30, (k 6)], o 3 (.alc [(.st []), (.st [])]), sO 2 3 31]
(.seq (.reg true [
mV 32 0, nK 33 32, fA 34 0 33, lD 35 1 34, nK 36 35, fA 37 0 36, lD 38 1 37, lQ 39 2 3, cR 40 150 [t 38, t 39]] [])
(r [mV 41 0, lQ 42 2 3, cR 43 300 [t 41, t 42, (k 1)]])))
(s [mV 45 2, o 46 (b .geq (t 45) (.k (.it .u8 32))), mV 44 46]
(.cond (t 44)
(r [mV 47 0, cR 48 304 [t 47]])
(s [mV 50 2, o 51 (b .geq (t 50) (.k (.it .u8 16))), mV 49 51]
(.cond (t 49)
(r [mV 52 0, mV 53 0, cR 54 303 [t 53, (k 4)], cR 55 300 [t 52, t 54, (k 3)]])
(r [mV 14 0, mV 15 0, cR 16 303 [t 15, (k 4)], cR 17 300 [t 14, t 16, (k 2)]])))))))))))⟩
def c263 : Ev.Fn := d263.den
theorem r263 : OK 263 c263 := rd d263 { P0 .rw with loc := [3], ord := [(5, [0, 2, 1, 3])] } Tryz.func263
def d264 : DFn := ⟨[(.c .one), (.c .one)], [(.c .one)], .rw, [.tmp 4],
(s [mK 4 .np]
(.seq (s [mV 5 0, nK 6 5, fA 7 0 6, lD 8 1 7, o 9 (.un .not (t 8)), mV 10 9, x 11 10 (.mov (t 1)), x 12 10 (b .rem (t 11) (k 2)), x 13 10 (b .eql (t 12) (k 0)), o 14 (.pick (t 10) (.k (.bo true)) (t 13))]
(.cond (t 14)
(s [mV 15 0, cR 16 77 [t 15, (k 1)]]
(s [mK 4 .np]
.ret))
.skip))
(s [mV 17 0, mV 18 1, nK 19 17, fA 20 16 19, sO 1 20 18]
(.seq (.seq (.reg true [
mV 21 0, nK 22 21, fA 23 15 22, lD 24 1 23, lN 25 false 24, mV 26 0, nK 27 26, fA 28 1 27, fA 29 0 28, lD 30 1 29, o 31 (b .geq (t 25) (t 30))] [])
(.cond (t 31)
(s [mV 32 0, mV 33 1, cR 34 164 [t 32, t 33, (k 7)]]
(s [mK 4 .np]
.ret))
.skip))
(s [mV 35 0, mV 36 1, cR 37 73 [t 35, t 36], mV 4 37]
.ret)))))⟩
def c264 : Ev.Fn := d264.den
theorem r264 : OK 264 c264 := rd d264 (P0 .rw) Tryz.func264
def d265 : DFn := ⟨[(.c (.sl [.one, .one]))], [(.c .one)], .pure, [.tmp 2],
(s [mK 2 (.bo false)]
(s [mV 3 0, lN 4 false 3, o 5 (b .gtr (t 4) (k 0)), mV 6 5, w 7 6 (.mov (t 0)), w 8 6 (.ias 2 (t 7) (k 0)), w 9 6 (.fad 0 (t 8)), w 10 6 (.ld 1 false (t 9)), w 11 6 (b .eql (t 10) (.k (.st [58, 115, 116, 97, 116, 117, 115]))), o 12 (.pick (t 6) (t 11) (.k (.bo false))), mV 13 12, w 14 13 (.mov (t 0)), w 15 13 (.ias 2 (t 14) (k 0)), w 16 13 (.fad 1 (t 15)), w 17 13 (.ld 1 false (t 16)), w 18 13 (.len true (t 17)), w 19 13 (b .eql (t 18) (k 3)), o 20 (.pick (t 13) (t 19) (.k (.bo false))), mV 21 20, w 22 21 (.mov (t 0)), w 23 21 (.ias 2 (t 22) (k 0)), w 24 21 (.fad 1 (t 23)), w 25 21 (.ld 1 false (t 24)), w 26 21 (.ixs (t 25) (k 0)), w 27 21 (b .eql (t 26) (.k (.it .u8 49))), o 28 (.pick (t 21) (t 27) (.k (.bo false))), mV 2 28]
.ret))⟩
def c265 : Ev.Fn := d265.den
theorem r265 : OK 265 c265 := rd d265 (P0 .pure) Tryz.func265
def d270 : DFn := ⟨[(.c .one), (.c .one)], [(.c .one)], .pure, [.tmp 4],
(s [mK 4 (.it .i64 0)]
(.seq (s [mV 7 1, lN 8 true 7, o 9 (b .eql (t 8) (k 0))]
(.cond (t 9)
(s [mV 10 0, cP 11 305 [t 10], o 12 (b .add (t 11) (k 1)), mV 4 12]
.ret)
.skip))
(.seq (s [mV 13 1, lN 14 true 13, o 15 (b .eql (t 14) (k 1))]
(.cond (t 15)
(s [mV 16 0, mV 17 1, o 18 (.ixs (t 17) (k 0)), o 19 (.ctb (t 16) (t 18)), mV 4 19]
.ret)
.skip))
(s [mK 5 (.it .i64 0)]
(.blk 0 (.loop [0, 1, 5] []
(.blk 1 (s [mV 20 0, mV 21 1, cP 22 271 [t 20, t 21], mV 6 22]
(.seq (s [mV 23 6, o 24 (b .eql (t 23) (.k (.it .i64 (-1))))]
(.cond (t 24)
(s [mV 25 5, mV 4 25]
.ret)
.skip))
(s [mV 26 5, o 27 (b .add (t 26) (k 1)), mV 5 27]
(r [mV 28 0, mV 29 6, mV 30 1, lN 31 true 30, o 32 (b .add (t 29) (t 31)), o 33 (.slc true 0 (t 28) (some (t 32)) none), mV 0 33])))))))))))⟩
def c270 : Ev.Fn := d270.den
theorem r270 : OK 270 c270 := rd d270 { P0 .pure with mask := [(6, [0, 1, 5], [])] } Tryz.func270
def d271 : DFn := ⟨[(.c .one), (.c .one)], [(.c .one)], .pure, [.tmp 4],
(s [mK 4 (.it .i64 0)]
(s [mV 5 0, mV 6 1, cP 7 272 [t 5, t 6], mV 4 7]
.ret))⟩
def c271 : Ev.Fn := d271.den
theorem r271 : OK 271 c271 := rd d271 (P0 .pure) Tryz.func271
def d272 : DFn := ⟨[(.c .one), (.c .one)], [(.c .one)], .pure, [.tmp 4],
(s [mK 4 (.it .i64 0)]
(s [mV 14 1, lN 15 true 14, mV 5 15]
(.seq (.blk 0 (s [mV 17 5, o 18 (b .eql (t 17) (k 0)), mV 19 18, x 20 19 (.mov (t 1)), x 21 19 (.mov (t 0)), x 22 19 (b .eql (t 20) (t 21)), o 23 (.pick (t 19) (.k (.bo true)) (t 22)), mV 16 23]
(.cond (t 16)
(s [mK 4 (.it .i64 0)]
.ret)
(s [mV 25 5, o 26 (b .eql (t 25) (k 1)), mV 24 26]
(.cond (t 24)
(s [mV 27 0, mV 28 1, o 29 (.ixs (t 28) (k 0)), cP 30 308 [t 27, t 29], mV 4 30]
.ret)
(s [mV 32 5, mV 33 0, lN 34 true 33, o 35 (b .geq (t 32) (t 34)), mV 31 35]
(.cond (t 31)
(s [mK 4 (.it .i64 (-1))]
.ret)
(s [mV 37 5, o 38 (.ld 1 false (.k .un)), o 39 (b .leq (t 37) (t 38)), mV 40 39, w 41 40 (.mov (t 0)), w 42 40 (.len true (t 41)), w 43 40 (b .leq (t 42) (k 64)), o 44 (.pick (t 40) (t 43) (.k (.bo false))), mV 36 44]
(.cond (t 36)
(s [mV 45 0, mV 46 1, cP 47 309 [t 45, t 46], mV 4 47]
.ret)
.skip)))))))))
(s [mV 48 1, o 49 (.ixs (t 48) (k 0)), mV 6 49]
(s [mV 50 1, o 51 (.ixs (t 50) (k 1)), mV 7 51]
(s [mK 8 (.it .i64 0)]
(s [mV 52 0, lN 53 true 52, mV 54 5, o 55 (b .sub (t 53) (t 54)), o 56 (b .add (t 55) (k 1)), mV 9 56]
(s [mK 10 (.it .i64 0)]
(.seq (.blk 1 (.loop [0, 1, 5, 6, 7, 8, 9, 10] []
(.seq (s [mV 57 8, mV 58 9, o 59 (b .lss (t 57) (t 58))]
(.cond (t 59)
.skip
(.exit 1)))
(.blk 2 (.seq (s [mV 60 0, mV 61 8, o 62 (.ixs (t 60) (t 61)), mV 63 6, o 64 (b .neq (t 62) (t 63))]
(.cond (t 64)
(s [mV 65 0, mV 66 8, o 67 (b .add (t 66) (k 1)), mV 68 9, o 69 (.slc true 0 (t 65) (some (t 67)) (some (t 68))), mV 70 6, cP 71 308 [t 69, t 70], mV 11 71]
(.seq (s [mV 72 11, o 73 (b .lss (t 72) (k 0))]
(.cond (t 73)
(s [mK 4 (.it .i64 (-1))]
.ret)
.skip))
(r [mV 74 8, mV 75 11, o 76 (b .add (t 75) (k 1)), o 77 (b .add (t 74) (t 76)), mV 8 77])))
.skip))
(.seq (s [mV 78 0, mV 79 8, o 80 (b .add (t 79) (k 1)), o 81 (.ixs (t 78) (t 80)), mV 82 7, o 83 (b .eql (t 81) (t 82)), mV 84 83, w 85 84 (.mov (t 0)), w 86 84 (.mov (t 8)), w 87 84 (.mov (t 8)), w 88 84 (.mov (t 5)), w 89 84 (b .add (t 87) (t 88)), w 90 84 (.slc true 0 (t 85) (some (t 86)) (some (t 89))), w 91 84 (.mov (t 1)), w 92 84 (b .eql (t 90) (t 91)), o 93 (.pick (t 84) (t 92) (.k (.bo false)))]
(.cond (t 93)
(s [mV 94 8, mV 4 94]
.ret)
.skip))
(s [mV 95 8, o 96 (b .add (t 95) (k 1)), mV 8 96]
(s [mV 97 10, o 98 (b .add (t 97) (k 1)), mV 10 98]
(s [mV 99 5, o 100 (.ld 1 false (.k .un)), o 101 (b .leq (t 99) (t 100)), mV 102 101, w 103 102 (.mov (t 10)), w 104 102 (.mov (t 8)), w 105 102 (.call false .pure 310 [t 104]), w 106 102 (b .gtr (t 103) (t 105)), o 107 (.pick (t 102) (t 106) (.k (.bo false)))]
(.cond (t 107)
(s [mV 108 0, mV 109 8, o 110 (.slc true 0 (t 108) (some (t 109)) none), mV 111 1, cP 112 309 [t 110, t 111], mV 12 112]
(.seq (s [mV 113 12, o 114 (b .geq (t 113) (k 0))]
(.cond (t 114)
(s [mV 115 12, mV 116 8, o 117 (b .add (t 115) (t 116)), mV 4 117]
.ret)
.skip))
(s [mK 4 (.it .i64 (-1))]
.ret)))
(s [mV 118 5, o 119 (.ld 1 false (.k .un)), o 120 (b .gtr (t 118) (t 119)), mV 121 120, w 122 121 (.mov (t 10)), w 123 121 (.mov (t 8)), w 124 121 (b .shr (t 123) (.k (.it .u64 4))), w 125 121 (b .add (k 4) (t 124)), w 126 121 (b .geq (t 122) (t 125)), o 127 (.pick (t 121) (t 126) (.k (.bo false))), mV 128 127, w 129 128 (.mov (t 8)), w 130 128 (.mov (t 9)), w 131 128 (b .lss (t 129) (t 130)), o 132 (.pick (t 128) (t 131) (.k (.bo false)))]
(.cond (t 132)
(s [mV 133 0, mV 134 8, o 135 (.slc true 0 (t 133) (some (t 134)) none), mV 136 1, cP 137 311 [t 135, t 136], mV 13 137]
(.seq (s [mV 138 13, o 139 (b .lss (t 138) (k 0))]
(.cond (t 139)
(s [mK 4 (.it .i64 (-1))]
.ret)
.skip))
(s [mV 140 8, mV 141 13, o 142 (b .add (t 140) (t 141)), mV 4 142]
.ret)))
.skip))))))))))))
(s [mK 4 (.it .i64 (-1))]
.ret))))))))))⟩
def c272 : Ev.Fn := d272.den
theorem r272 : OK 272 c272 := rd d272 { P0 .pure with mask := [(15, [0, 1, 5, 6, 7, 8, 9, 10], [])] } Tryz.func272
def d273 : DFn := ⟨[(.c .one)], [(.c .one)], .pure, [.tmp 2],
(s [mK 2 (.bo false)]
(.seq (s [mV 4 0, lN 5 true 4, mK 6 (.it .i64 0)]
(.blk 0 (.loop [0, 5, 6] []
(s [o 7 (b .lss (t 6) (t 5))]
(.seq (.cond (t 7)
.skip
(.exit 0))
(.seq (.blk 1 (s [mV 8 6, mV 3 8]
(s [mV 9 0, mV 10 3, o 11 (.ixs (t 9) (t 10)), cP 12 312 [t 11], o 13 (.un .not (t 12))]
(.cond (t 13)
(s [mK 2 (.bo false)]
.ret)
.skip))))
(r [o 14 (b .add (t 6) (k 1)), mV 6 14])))))))
(s [mV 15 0, o 16 (b .eql (t 15) (.k (.st []))), mV 17 16, x 18 17 (.mov (t 0)), x 19 17 (.ixs (t 18) (k 0)), x 20 17 (.call false .pure 253 [t 19]), x 21 17 (.un .not (t 20)), x 22 17 (.mov (t 21)), w 23 22 (.mov (t 0)), w 24 22 (.mov (t 0)), w 25 22 (.len true (t 24)), w 26 22 (b .sub (t 25) (k 1)), w 27 22 (.ixs (t 23) (t 26)), w 28 22 (.call false .pure 253 [t 27]), w 29 22 (.un .not (t 28)), x 30 17 (.pick (t 22) (t 29) (.k (.bo false))), o 31 (.pick (t 17) (.k (.bo true)) (t 30)), mV 2 31]
.ret)))⟩
def c273 : Ev.Fn := d273.den
theorem r273 : OK 273 c273 := rd d273 { P0 .pure with mask := [(2, [0, 5, 6], [])] } Tryz.func273
def d274 : DFn := ⟨[(.c .one)], [(.c .one)], .pure, [.tmp 2],
(s [mK 2 (.bo false)]
(.seq (s [mV 4 0, lN 5 true 4, mK 6 (.it .i64 0)]
(.blk 0 (.loop [0, 5, 6] []
(s [o 7 (b .lss (t 6) (t 5))]
(.seq (.cond (t 7)
.skip
(.exit 0))
(.seq (.blk 1 (s [mV 8 6, mV 3 8]
(s [mV 9 0, mV 10 3, o 11 (.ixs (t 9) (t 10)), cP 12 313 [t 11], o 13 (.un .not (t 12))]
(.cond (t 13)
(s [mK 2 (.bo false)]
.ret)
.skip))))
(r [o 14 (b .add (t 6) (k 1)), mV 6 14])))))))
(s [mV 15 0, o 16 (b .neq (t 15) (.k (.st []))), mV 2 16]
.ret)))⟩
def c274 : Ev.Fn := d274.den
theorem r274 : OK 274 c274 := rd d274 { P0 .pure with mask := [(2, [0, 5, 6], [])] } Tryz.func274
def d275 : DFn := ⟨[(.c (.sl [.one, .one])), (.c .one)], [(.c .one)], .rw, [.tmp 4],
(s [mK 4 (.bo false)]
(s [mV 5 0, mV 6 1, cR 7 314 [t 5, t 6], o 8 (b .geq (t 7) (k 0)), mV 4 8]
.ret))⟩
def c275 : Ev.Fn := d275.den
theorem r275 : OK 275 c275 := rd d275 (P0 .rw) Tryz.func275
def d276 : DFn := ⟨[(.c (.sl [.one, .one]))], [(.c .one)], .pure, [.tmp 2],
(s [mK 2 (.bo false)]
(.seq (s [mV 5 0, lN 6 false 5, mK 7 (.it .i64 0)]
(.blk 0 (.loop [5, 6, 7] [4]
(s [o 8 (b .lss (t 7) (t 6))]
(.seq (.cond (t 8)
.skip
(.exit 0))
(.seq (.blk 1 (s [o 9 (.ias 2 (t 5) (t 7)), lQ 10 2 9, o 4 (.alc [(.st []), (.st [])]), sO 2 4 10]
(.seq (.reg false [
fA 11 0 4, lD 12 1 11, cP 13 315 [t 12], o 14 (.un .not (t 13)), mV 15 14, x 16 15 (.fad 1 (t 4)), x 17 15 (.ld 1 false (t 16)), x 18 15 (.call false .pure 273 [t 17]), x 19 15 (.un .not (t 18)), o 20 (.pick (t 15) (.k (.bo true)) (t 19)), mV 21 20, x 22 21 (.fad 0 (t 4)), x 23 21 (.ld 1 false (t 22)), x 24 21 (.call false .pure 143 [t 23]), o 25 (.pick (t 21) (.k (.bo true)) (t 24)), mV 26 25, x 27 26 (.fad 0 (t 4)), x 28 26 (.ld 1 false (t 27)), x 29 26 (b .eql (t 28) (.k (.st [116, 101]))), x 30 26 (.mov (t 29)), w 31 30 (.fad 1 (t 4)), w 32 30 (.ld 1 false (t 31)), w 33 30 (b .neq (t 32) (.k (.st [116, 114, 97, 105, 108, 101, 114, 115]))), x 34 26 (.pick (t 30) (t 33) (.k (.bo false))), o 35 (.pick (t 26) (.k (.bo true)) (t 34))] [11, 16, 22, 27, 31])
(.cond (t 35)
(.seq (.reg false [
mK 2 (.bo false)] [])
.ret)
.skip))))
(r [o 36 (b .add (t 7) (k 1)), mV 7 36])))))))
(s [mK 2 (.bo true)]
.ret)))⟩
def c276 : Ev.Fn := d276.den
theorem r276 : OK 276 c276 := rd d276 { P0 .pure with loc := [4], clr := [(4, [11, 16, 22, 27, 31])], mask := [(2, [5, 6, 7], [4])] } Tryz.func276
def d277 : DFn := ⟨[(.c (.sl [.one, .one]))], [(.c .one), (.c .one)], .pure, [.tmp 2, .tmp 3],
(s [mK 2 (.it .i64 0), mK 3 (.bo false)]
(s [mK 4 (.it .i64 (-1))]
(.seq (s [mV 8 0, lN 9 false 8, mK 10 (.it .i64 0)]
(.blk 0 (.loop [4, 8, 9, 10] [6]
(s [o 11 (b .lss (t 10) (t 9))]
(.seq (.cond (t 11)
.skip
(.exit 0))
(.seq (.blk 1 (s [o 12 (.ias 2 (t 8) (t 10)), lQ 13 2 12, o 6 (.alc [(.st []), (.st [])]), sO 2 6 13]
(.seq (.seq (.reg false [
fA 14 0 6, lD 15 1 14, o 16 (b .neq (t 15) (.k (.st [99, 111, 110, 116, 101, 110, 116, 45, 108, 101, 110, 103, 116, 104])))] [14])
(.cond (t 16)
(.exit 1)
.skip))
(.seq (.reg false [
fA 17 1 6, lD 18 1 17, cP 19 233 [t 18], mV 7 19] [17])
(.seq (.seq (.reg false [
mV 20 7, o 21 (b .lss (t 20) (k 0)), mV 22 21, x 23 22 (.mov (t 4)), x 24 22 (b .geq (t 23) (k 0)), x 25 22 (.mov (t 24)), w 26 25 (.mov (t 7)), w 27 25 (.mov (t 4)), w 28 25 (b .neq (t 26) (t 27)), x 29 22 (.pick (t 25) (t 28) (.k (.bo false))), o 30 (.pick (t 22) (.k (.bo true)) (t 29))] [])
(.cond (t 30)
(s [mK 2 (.it .i64 0), mK 3 (.bo false)]
.ret)
.skip))
(r [mV 31 7, mV 4 31]))))))
(r [o 32 (b .add (t 10) (k 1)), mV 10 32])))))))
(s [mV 33 4, mV 2 33, mK 3 (.bo true)]
.ret))))⟩
def c277 : Ev.Fn := d277.den
theorem r277 : OK 277 c277 := rd d277 { P0 .pure with loc := [6], clr := [(5, [14]), (6, [17])], mask := [(3, [4, 8, 9, 10], [6])] } Tryz.func277
def d278 : DFn := ⟨[(.c .one), (.g [.one, .one, .one, .one, (.sl [.one, .one]), .one])], [(.c .one)], .ro, [.tmp 4],
(s [o 3 (.bxh (t 1)), mK 4 (.it .i64 0)]
(s [mV 5 0, nK 6 5, fA 7 0 6, lD 8 1 7, o 9 (.mkf 317 [] [t 3]), cR 10 316 [t 8, t 9], mV 4 10]
.ret))⟩
def c278 : Ev.Fn := d278.den
theorem r278 : OK 278 c278 := rd d278 { P0 .ro with ord := [(0, [1, 0])], fns := [317] } Tryz.func278
def d279 : DFn := ⟨[(.g [.one, .one, .one, .one, (.sl [.one, .one]), .one])], [(.c .one)], .pure, [.tmp 2],
(s [o 1 (.box (t 0)), mK 2 (.bo false)]
(.seq (.seq (.reg false [
fA 5 4 1, lD 6 1 5, lN 7 false 6, mK 8 (.it .i64 0)] [5])
(.blk 0 (.loop [6, 7, 8] [1, 4]
(.seq (.reg false [
o 9 (b .lss (t 8) (t 7))] [])
(.seq (.cond (t 9)
.skip
(.exit 0))
(.seq (.blk 1 (s [o 10 (.ias 2 (t 6) (t 8)), lQ 11 2 10, o 4 (.alc [(.st []), (.st [])]), sO 2 4 11]
(.seq (.reg false [
fA 12 0 4, lD 13 1 12] [12])
(.blk 2 (.seq (.seq (.reg false [
o 15 (b .eql (t 13) (.k (.st [99, 97, 99, 104, 101, 45, 99, 111, 110, 116, 114, 111, 108]))), mV 14 15] [])
(.cond (t 14)
.skip
(s [o 16 (b .eql (t 13) (.k (.st [112, 114, 97, 103, 109, 97]))), mV 14 16]
(.cond (t 14)
.skip
(s [o 17 (b .eql (t 13) (.k (.st [97, 117, 116, 104, 111, 114, 105, 122, 97, 116, 105, 111, 110]))), mV 14 17]
(.cond (t 14)
.skip
(s [o 18 (b .eql (t 13) (.k (.st [114, 97, 110, 103, 101]))), mV 14 18]
(.cond (t 14)
.skip
(s [o 19 (b .eql (t 13) (.k (.st [105, 102, 45, 109, 97, 116, 99, 104]))), mV 14 19]
(.cond (t 14)
.skip
(s [o 20 (b .eql (t 13) (.k (.st [105, 102, 45, 110, 111, 110, 101, 45, 109, 97, 116, 99, 104]))), mV 14 20]
(.cond (t 14)
.skip
(s [o 21 (b .eql (t 13) (.k (.st [105, 102, 45, 109, 111, 100, 105, 102, 105, 101, 100, 45, 115, 105, 110, 99, 101]))), mV 14 21]
(.cond (t 14)
.skip
(s [o 22 (b .eql (t 13) (.k (.st [105, 102, 45, 117, 110, 109, 111, 100, 105, 102, 105, 101, 100, 45, 115, 105, 110, 99, 101]))), mV 14 22]
(.cond (t 14)
.skip
(r [o 23 (b .eql (t 13) (.k (.st [105, 102, 45, 114, 97, 110, 103, 101]))), mV 14 23])))))))))))))))))
(.cond (t 14)
(s [mK 2 (.bo false)]
.ret)
.skip))))))
(r [o 24 (b .add (t 8) (k 1)), mV 8 24])))))))
(s [mK 2 (.bo true)]
.ret)))⟩
def c279 : Ev.Fn := d279.den
theorem r279 : OK 279 c279 := rd d279 { P0 .pure with loc := [1, 4], ord := [(0, [1, 0])], clr := [(1, [5]), (4, [12])], mask := [(2, [6, 7, 8], [1, 4])] } Tryz.func279
def d280 : DFn := ⟨[(.g [.one, .one, .one, .one, (.sl [.one, .one]), .one, .one, (.sl [.one, .one]), .one, .one, .one, .one]), (.g [.one, .one, .one, .one, (.sl [.one, .one]), .one]), (.c .one), (.c .one)], [(.c .one)], .pure, [.tmp 8],
(s [o 4 (.box (t 0)), o 5 (.box (t 1)), mK 8 (.bo false)]
(.seq (.reg true [
fA 13 6 4, fA 14 1 13, lD 15 1 14, fA 17 4 5, lD 18 1 17, u 9 [13, 14, 17, 14, 17, 10] (.alc [(.bo false), (.bo false), (.bo false), (.bo false), (.bo false), (.bo false), (.it .i64 0), (.it .i64 0), (.it .i64 0), (.it .i64 0)]), u 10 [13, 14, 17, 14, 17, 9] (.alc [(.bo false), (.bo false), (.bo false), (.bo false), (.bo false), (.bo false), (.it .i64 0), (.it .i64 0), (.it .i64 0), (.it .i64 0)]), cP 16 244 [t 15], cP 19 244 [t 18], sO 10 9 16, sO 10 10 19] [13, 14, 17])
(.seq (.reg true [
lQ 20 12 4, mV 21 2, lQ 23 12 4, mV 24 3, cP 22 242 [t 20, t 21], cP 25 318 [t 23, t 24], mV 11 22, mV 12 25] [])
(.seq (.seq (.reg false [
fA 26 1 9, lD 27 1 26, mV 28 27, x 29 28 (.fad 1 (t 10)), x 30 28 (.ld 1 false (t 29)), o 31 (.pick (t 28) (.k (.bo true)) (t 30)), mV 32 31, x 33 32 (.ld 6 true (t 5)), x 34 32 (.call false .pure 319 [t 33]), o 35 (.pick (t 32) (.k (.bo true)) (t 34)), mV 36 35, x 37 36 (.fad 6 (t 10)), x 38 36 (.ld 1 false (t 37)), x 39 36 (b .geq (t 38) (k 0)), x 40 36 (.mov (t 39)), w 41 40 (.fad 6 (t 10)), w 42 40 (.ld 1 false (t 41)), w 43 40 (.mov (t 11)), w 44 40 (b .lss (t 42) (t 43)), x 45 36 (.pick (t 40) (t 44) (.k (.bo false))), o 46 (.pick (t 36) (.k (.bo true)) (t 45))] [26, 29, 37, 41])
(.cond (t 46)
(.seq (.reg false [
mK 8 (.bo false)] [])
.ret)
.skip))
(.seq (s [mV 47 11, mV 48 12, o 49 (b .lss (t 47) (t 48))]
(.cond (t 49)
(.seq (.reg false [
fA 50 9 10, lD 51 1 50, mV 52 12, mV 53 11, o 54 (b .sub (t 52) (t 53)), o 55 (b .leq (t 51) (t 54)), mV 8 55] [50])
.ret)
.skip))
(.seq (.reg false [
fA 56 8 10, lD 57 1 56, o 58 (b .geq (t 57) (k 0)), mV 59 58, w 60 59 (.fad 8 (t 10)), w 61 59 (.ld 1 false (t 60)), w 62 59 (.mov (t 11)), w 63 59 (.mov (t 12)), w 64 59 (b .sub (t 62) (t 63)), w 65 59 (b .geq (t 61) (t 64)), o 66 (.pick (t 59) (t 65) (.k (.bo false))), mV 67 66, w 68 67 (.fad 4 (t 9)), w 69 67 (.ld 1 false (t 68)), w 70 67 (.un .not (t 69)), o 71 (.pick (t 67) (t 70) (.k (.bo false))), mV 72 71, w 73 72 (.fad 7 (t 9)), w 74 72 (.ld 1 false (t 73)), w 75 72 (b .lss (t 74) (k 0)), o 76 (.pick (t 72) (t 75) (.k (.bo false))), mV 77 76, w 78 77 (.fad 9 (t 10)), w 79 77 (.ld 1 false (t 78)), w 80 77 (b .lss (t 79) (k 0)), o 81 (.pick (t 77) (t 80) (.k (.bo false))), mV 8 81] [56, 60, 68, 73, 78])
.ret))))))⟩
def c280 : Ev.Fn := d280.den
theorem r280 : OK 280 c280 := rd d280 { P0 .pure with loc := [4, 5, 9, 10], ord := [(0, [2, 0, 1]), (1, [0, 1, 2, 4, 5, 7, 8, 3, 6, 9, 10]), (2, [0, 1, 3, 4, 2, 5, 6, 7])], clr := [(1, [13, 14, 17]), (3, [26, 29, 37, 41]), (6, [50]), (7, [56, 60, 68, 73, 78])] } Tryz.func280
def d281 : DFn := ⟨[(.c (.sl [.one, .one])), (.c .one)], [(.c .one), (.c .one)], .pure, [.tmp 4, .tmp 5],
(.seq (.reg false [
mK 4 (.st []), mK 5 (.bo false)] [])
(s [mV 9 0, mV 10 1, cP 11 140 [t 9, t 10], mV 8 11, eX 12 8 0, eX 13 8 1, mV 6 12, mV 7 13]
(.seq (s [mV 14 7, o 15 (b .neq (t 14) (k 1))]
(.cond (t 15)
(s [mK 4 (.st []), mK 5 (.bo false)]
.ret)
.skip))
(s [mV 16 6, mV 4 16, mK 5 (.bo true)]
.ret))))⟩
def c281 : Ev.Fn := d281.den
theorem r281 : OK 281 c281 := rd d281 (P0 .pure) Tryz.func281
def d284 : DFn := ⟨[(.c (.sl [.one, .one]))], [(.c .one)], .pure, [.tmp 2],
(s [mK 2 (.it .i64 0)]
(s [mK 3 (.it .i64 0)]
(.seq (s [mV 6 0, lN 7 false 6, mK 8 (.it .i64 0)]
(.blk 0 (.loop [3, 6, 7, 8] [5]
(s [o 9 (b .lss (t 8) (t 7))]
(.seq (.cond (t 9)
.skip
(.exit 0))
(.seq (.blk 1 (s [o 10 (.ias 2 (t 6) (t 8)), lQ 11 2 10, o 5 (.alc [(.st []), (.st [])]), sO 2 5 11]
(.reg false [
mV 12 3, fA 13 0 5, lD 14 1 13, lN 15 true 14, fA 16 1 5, lD 17 1 16, lN 18 true 17, o 19 (b .add (t 15) (t 18)), o 20 (b .add (t 12) (t 19)), mV 3 20] [13, 16])))
(.reg false [
o 21 (b .add (t 8) (k 1)), mV 8 21] [])))))))
(s [mV 22 3, mV 2 22]
.ret))))⟩
def c284 : Ev.Fn := d284.den
theorem r284 : OK 284 c284 := rd d284 { P0 .pure with loc := [5], clr := [(5, [13, 16])], mask := [(3, [3, 6, 7, 8], [5])] } Tryz.func284
def d287 : DFn := ⟨[(.c .one)], [(.c .one)], .pure, [.tmp 2],
(s [mK 2 (.it .i64 0)]
(s [mV 3 0, o 4 (.mnx true (t 3) (k 0)), o 5 (.mnx false (t 4) (k 2147483647)), mV 2 5]
.ret))⟩
def c287 : Ev.Fn := d287.den
theorem r287 : OK 287 c287 := rd d287 (P0 .pure) Tryz.func287
def d288 : DFn := ⟨[(.g [.one, .one, .one, .one, (.sl [.one, .one]), .one, .one, (.sl [.one, .one]), .one, .one, .one, .one])], [(.c .one)], .pure, [.tmp 2],
(s [o 1 (.box (t 0)), mK 2 (.it .i64 0)]
(.seq (.seq (.reg false [
fA 7 6 1, fA 8 1 7, lD 9 1 8, o 10 (.call false .pure 323 [t 9, (.k (.st [100, 97, 116, 101]))]), mV 6 10, eX 11 6 0, eX 12 6 1, eX 13 6 2, mV 3 11, mV 4 12, mV 5 13] [7, 8])
(.seq (.reg false [
mV 14 4] [])
(.cond (t 14)
(s [mV 15 3, mV 2 15]
.ret)
.skip)))
(.seq (.reg false [
fA 16 11 1, lD 17 1 16, cP 18 287 [t 17], mV 2 18] [16])
.ret)))⟩
def c288 : Ev.Fn := d288.den
theorem r288 : OK 288 c288 := rd d288 { P0 .pure with loc := [1], ord := [(0, [1, 0])], clr := [(1, [7, 8]), (4, [16])] } Tryz.func288
def d289 : DFn := ⟨[(.c (.sl [.one, .one]))], [(.c .one)], .pure, [.tmp 2],
(.seq (.reg false [
mK 2 (.it .i64 0)] [])
(s [mV 6 0, o 7 (.call false .pure 140 [t 6, (.k (.st [97, 103, 101]))]), mV 5 7, eX 8 5 0, eX 9 5 1, mV 3 8, mV 4 9]
(.seq (s [mV 10 4, o 11 (b .neq (t 10) (k 1))]
(.cond (t 11)
(s [mK 2 (.it .i64 0)]
.ret)
.skip))
(s [mV 12 3, cP 13 324 [t 12], o 14 (.mnx true (t 13) (k 0)), mV 2 14]
.ret))))⟩
def c289 : Ev.Fn := d289.den
theorem r289 : OK 289 c289 := rd d289 (P0 .pure) Tryz.func289
def d291 : DFn := ⟨[(.c (.sl [.one, .one])), (.c .one)], [(.c (.sl [.one, .one, .one]))], .pure, [.tmp 4],
(s [mK 4 .ns]
(s [mV 15 0, mV 16 1, cP 17 140 [t 15, t 16], mV 14 17, eX 18 14 0, eX 19 14 1, mV 5 18, mV 6 19]
(s [mV 21 5, cP 22 141 [t 21], mV 20 22, eX 23 20 0, eX 24 20 1, mV 7 23, mV 8 24]
(s [mK 9 .ns]
(.seq (s [mV 25 7, lN 26 false 25, mK 27 (.it .i64 0)]
(.blk 0 (.loop [9, 25, 26, 27] [12]
(s [o 28 (b .lss (t 27) (t 26))]
(.seq (.cond (t 28)
.skip
(.exit 0))
(.seq (.blk 1 (s [o 29 (.ias 1 (t 25) (t 27)), lD 30 1 29, mV 11 30]
(s [mV 32 11, cP 33 329 [t 32], mV 31 33, eX 34 31 0, eX 35 31 1, o 12 (.alc [(.st []), (.st []), (.bo false)]), sO 3 12 34, mV 13 35]
(s [mV 36 13]
(.cond (t 36)
(r [mV 37 9, lQ 38 3 12, o 39 (.bsv [.one, .one, .one] 3 [[(.st []), (.st []), (.bo false)]] [(0, (t 38))]), o 40 (.app 3 40 (t 37) (t 39)), mV 9 40])
.skip)))))
(r [o 41 (b .add (t 27) (k 1)), mV 27 41])))))))
(s [mV 42 9, mV 4 42]
.ret))))))⟩
def c291 : Ev.Fn := d291.den
theorem r291 : OK 291 c291 := rd d291 { P0 .pure with loc := [12], heap := [40], own := [40], ord := [(7, [0, 5, 1, 2, 3, 4, 6, 7])], mask := [(5, [9, 25, 26, 27], [12])] } Tryz.func291
def d292 : DFn := ⟨[(.c .one), (.c .one)], [(.c .one)], .pure, [.tmp 4],
(s [mK 4 (.it .i64 0)]
(.seq (s [mV 5 0, o 6 (b .lss (t 5) (k 0))]
(.cond (t 6)
(s [mV 7 1, mV 4 7]
.ret)
.skip))
(s [mV 8 0, mV 9 1, o 10 (.mnx false (t 8) (t 9)), mV 4 10]
.ret)))⟩
def c292 : Ev.Fn := d292.den
theorem r292 : OK 292 c292 := rd d292 (P0 .pure) Tryz.func292
def d293 : DFn := ⟨[(.g [.one, .one, .one]), (.c .one)], [(.c .one)], .pure, [.tmp 4],
(s [o 2 (.box (t 0)), mK 4 (.it .i64 0)]
(.seq (.seq (.reg false [
fA 5 2 2, lD 6 1 5, o 7 (.un .not (t 6))] [5])
(.cond (t 7)
(.seq (.reg false [
mV 8 1, mV 4 8] [])
.ret)
.skip))
(.seq (.reg false [
fA 9 1 2, lD 10 1 9, cP 11 324 [t 10], o 12 (.mnx true (t 11) (k 0)), mV 4 12] [9])
.ret)))⟩
def c293 : Ev.Fn := d293.den
theorem r293 : OK 293 c293 := rd d293 { P0 .pure with loc := [2], ord := [(0, [1, 0])], clr := [(1, [5]), (3, [9])] } Tryz.func293
def d296 : DFn := ⟨[(.c .one)], [(.c .one)], .pure, [.tmp 2],
(.seq (.reg false [
mK 2 (.it .i64 0)] [])
(s [o 4 (.bld (List.replicate 257 (.it .i64 0)) [(0, 1, (k 13)), (1, 1, (k 23)), (2, 1, (k 28)), (3, 1, (k 28)), (4, 1, (k 28)), (5, 1, (k 28)), (6, 1, (k 28)), (7, 1, (k 28)), (8, 1, (k 28)), (9, 1, (k 24)), (10, 1, (k 30)), (11, 1, (k 28)), (12, 1, (k 28)), (13, 1, (k 30)), (14, 1, (k 28)), (15, 1, (k 28)), (16, 1, (k 28)), (17, 1, (k 28)), (18, 1, (k 28)), (19, 1, (k 28)), (20, 1, (k 28)), (21, 1, (k 28)), (22, 1, (k 30)), (23, 1, (k 28)), (24, 1, (k 28)), (25, 1, (k 28)), (26, 1, (k 28)), (27, 1, (k 28)), (28, 1, (k 28)), (29, 1, (k 28)), (30, 1, (k 28)), (31, 1, (k 28)), (32, 1, (k 6)), (33, 1, (k 10)), (34, 1, (k 10)), (35, 1, (k 12)), (36, 1, (k 13)), (37, 1, (k 6)), (38, 1, (k 8)), (39, 1, (k 11)), (40, 1, (k 10)), (41, 1, (k 10)), (42, 1, (k 8)), (43, 1, (k 11)), (44, 1, (k 8)), (45, 1, (k 6)), (46, 1, (k 6)), (47, 1, (k 6)), (48, 1, (k 5)), (49, 1, (k 5)), (50, 1, (k 5)), (51, 1, (k 6)), (52, 1, (k 6)), (53, 1, (k 6)), (54, 1, (k 6)), (55, 1, (k 6)), (56, 1, (k 6)), (57, 1, (k 6)), (58, 1, (k 7)), (59, 1, (k 8)), (60, 1, (k 15)), (61, 1, (k 6)), (62, 1, (k 12)), (63, 1, (k 10)), (64, 1, (k 13)), (65, 1, (k 6)), (66, 1, (k 7)), (67, 1, (k 7)), (68, 1, (k 7)), (69, 1, (k 7)), (70, 1, (k 7)), (71, 1, (k 7)), (72, 1, (k 7)), (73, 1, (k 7)), (74, 1, (k 7)), (75, 1, (k 7)), (76, 1, (k 7)), (77, 1, (k 7)), (78, 1, (k 7)), (79, 1, (k 7)), (80, 1, (k 7)), (81, 1, (k 7)), (82, 1, (k 7)), (83, 1, (k 7)), (84, 1, (k 7)), (85, 1, (k 7)), (86, 1, (k 7)), (87, 1, (k 7)), (88, 1, (k 8)), (89, 1, (k 7)), (90, 1, (k 8)), (91, 1, (k 13)), (92, 1, (k 19)), (93, 1, (k 13)), (94, 1, (k 14)), (95, 1, (k 6)), (96, 1, (k 15)), (97, 1, (k 5)), (98, 1, (k 6)), (99, 1, (k 5)), (100, 1, (k 6)), (101, 1, (k 5)), (102, 1, (k 6)), (103, 1, (k 6)), (104, 1, (k 6)), (105, 1, (k 5)), (106, 1, (k 7)), (107, 1, (k 7)), (108, 1, (k 6)), (109, 1, (k 6)), (110, 1, (k 6)), (111, 1, (k 5)), (112, 1, (k 6)), (113, 1, (k 7)), (114, 1, (k 6)), (115, 1, (k 5)), (116, 1, (k 5)), (117, 1, (k 6)), (118, 1, (k 7)), (119, 1, (k 7)), (120, 1, (k 7)), (121, 1, (k 7)), (122, 1, (k 7)), (123, 1, (k 15)), (124, 1, (k 11)), (125, 1, (k 14)), (126, 1, (k 13)), (127, 1, (k 28)), (128, 1, (k 20)), (129, 1, (k 22)), (130, 1, (k 20)), (131, 1, (k 20)), (132, 1, (k 22)), (133, 1, (k 22)), (134, 1, (k 22)), (135, 1, (k 23)), (136, 1, (k 22)), (137, 1, (k 23)), (138, 1, (k 23)), (139, 1, (k 23)), (140, 1, (k 23)), (141, 1, (k 23)), (142, 1, (k 24)), (143, 1, (k 23)), (144, 1, (k 24)), (145, 1, (k 24)), (146, 1, (k 22)), (147, 1, (k 23)), (148, 1, (k 24)), (149, 1, (k 23)), (150, 1, (k 23)), (151, 1, (k 23)), (152, 1, (k 23)), (153, 1, (k 21)), (154, 1, (k 22)), (155, 1, (k 23)), (156, 1, (k 22)), (157, 1, (k 23)), (158, 1, (k 23)), (159, 1, (k 24)), (160, 1, (k 22)), (161, 1, (k 21)), (162, 1, (k 20)), (163, 1, (k 22)), (164, 1, (k 22)), (165, 1, (k 23)), (166, 1, (k 23)), (167, 1, (k 21)), (168, 1, (k 23)), (169, 1, (k 22)), (170, 1, (k 22)), (171, 1, (k 24)), (172, 1, (k 21)), (173, 1, (k 22)), (174, 1, (k 23)), (175, 1, (k 23)), (176, 1, (k 21)), (177, 1, (k 21)), (178, 1, (k 22)), (179, 1, (k 21)), (180, 1, (k 23)), (181, 1, (k 22)), (182, 1, (k 23)), (183, 1, (k 23)), (184, 1, (k 20)), (185, 1, (k 22)), (186, 1, (k 22)), (187, 1, (k 22)), (188, 1, (k 23)), (189, 1, (k 22)), (190, 1, (k 22)), (191, 1, (k 23)), (192, 1, (k 26)), (193, 1, (k 26)), (194, 1, (k 20)), (195, 1, (k 19)), (196, 1, (k 22)), (197, 1, (k 23)), (198, 1, (k 22)), (199, 1, (k 25)), (200, 1, (k 26)), (201, 1, (k 26)), (202, 1, (k 26)), (203, 1, (k 27)), (204, 1, (k 27)), (205, 1, (k 26)), (206, 1, (k 24)), (207, 1, (k 25)), (208, 1, (k 19)), (209, 1, (k 21)), (210, 1, (k 26)), (211, 1, (k 27)), (212, 1, (k 27)), (213, 1, (k 26)), (214, 1, (k 27)), (215, 1, (k 24)), (216, 1, (k 21)), (217, 1, (k 21)), (218, 1, (k 26)), (219, 1, (k 26)), (220, 1, (k 28)), (221, 1, (k 27)), (222, 1, (k 27)), (223, 1, (k 27)), (224, 1, (k 20)), (225, 1, (k 24)), (226, 1, (k 20)), (227, 1, (k 21)), (228, 1, (k 22)), (229, 1, (k 21)), (230, 1, (k 21)), (231, 1, (k 23)), (232, 1, (k 22)), (233, 1, (k 22)), (234, 1, (k 25)), (235, 1, (k 25)), (236, 1, (k 24)), (237, 1, (k 24)), (238, 1, (k 26)), (239, 1, (k 23)), (240, 1, (k 26)), (241, 1, (k 27)), (242, 1, (k 26)), (243, 1, (k 26)), (244, 1, (k 27)), (245, 1, (k 27)), (246, 1, (k 27)), (247, 1, (k 27)), (248, 1, (k 27)), (249, 1, (k 28)), (250, 1, (k 27)), (251, 1, (k 27)), (252, 1, (k 27)), (253, 1, (k 27)), (254, 1, (k 27)), (255, 1, (k 26)), (256, 1, (k 30))]), o 3 (.alc (List.replicate 257 (.it .i64 0))), sO 257 3 4]
(.seq (s [mV 5 0, o 6 (b .lss (t 5) (k 0)), mV 7 6, x 8 7 (.mov (t 0)), x 9 7 (b .geq (t 8) (k 257)), o 10 (.pick (t 7) (.k (.bo true)) (t 9))]
(.cond (t 10)
(s [mK 2 (.it .i64 0)]
.ret)
.skip))
(.seq (.reg false [
mV 11 0, o 12 (.iaa 257 1 (t 3) (t 11)), lD 13 1 12, mV 2 13] [12])
.ret))))⟩
def c296 : Ev.Fn := d296.den
theorem r296 : OK 296 c296 := rd d296 { P0 .pure with loc := [3], clr := [(4, [12])] } Tryz.func296
def d297 : DFn := ⟨[], [(.c .one)], .rw, [.tmp 0],
(.seq (.reg false [
mK 0 .np] [])
(s [o 8 (.bld (List.replicate 610 (.it .i64 0)) []), o 9 (.bxh (t 8)), mV 1 9]
(.seq (s [mK 10 (.it .i64 0)]
(.blk 0 (.loop [1, 10] [3, 4]
(s [o 11 (b .lss (t 10) (k 257))]
(.seq (.cond (t 11)
.skip
(.exit 0))
(.seq (.blk 1 (s [mV 12 10, mV 2 12]
(.reg true [
mV 13 1, mV 14 2, nK 16 13, fA 17 32 16, nK 21 13, fA 22 32 21, cP 15 296 [t 14], o 18 (.iaa 32 1 (t 17) (t 15)), lD 19 1 18, o 20 (b .add (t 19) (k 1)), o 23 (.iaa 32 1 (t 22) (t 15)), sO 1 23 20] [])))
(r [o 24 (b .add (t 10) (k 1)), mV 10 24])))))))
(s [o 3 (.alc (List.replicate 32 (.it .i64 0))), o 4 (.alc (List.replicate 32 (.it .i64 0)))]
(.seq (s [mK 5 (.it .i64 1)]
(.blk 2 (.loop [1, 3, 4, 5] []
(.seq (s [mV 25 5, o 26 (b .lss (t 25) (k 32))]
(.cond (t 26)
.skip
(.exit 2)))
(.seq (.blk 3 (.seq (.reg true [
mV 29 5, mV 30 1, mV 31 5, o 32 (b .sub (t 31) (k 1)), nK 33 30, fA 34 0 33, o 35 (.iaa 32 1 (t 34) (t 32)), lD 36 1 35, mV 37 1, mV 38 5, o 39 (b .sub (t 38) (k 1)), nK 40 37, fA 41 32 40, o 42 (.iaa 32 1 (t 41) (t 39)), lD 43 1 42, o 44 (b .add (t 36) (t 43)), o 45 (b .mul (k 2) (t 44)), o 46 (.iaa 32 1 (t 3) (t 29)), sO 1 46 45] [46])
(.seq (.reg true [
mV 47 5, mV 48 5, o 49 (b .sub (t 48) (k 1)), o 50 (.iaa 32 1 (t 4) (t 49)), lD 51 1 50, mV 52 1, mV 53 5, o 54 (b .sub (t 53) (k 1)), nK 55 52, fA 56 32 55, o 57 (.iaa 32 1 (t 56) (t 54)), lD 58 1 57, o 59 (b .add (t 51) (t 58)), o 60 (.iaa 32 1 (t 4) (t 47)), sO 1 60 59] [50, 60])
(.reg true [
mV 61 1, mV 62 5, mV 63 1, mV 64 5, mV 65 5, o 66 (.iaa 32 1 (t 3) (t 65)), lD 67 1 66, mV 68 5, o 69 (.iaa 32 1 (t 4) (t 68)), lD 70 1 69, nK 71 61, fA 72 0 71, o 73 (.iaa 32 1 (t 72) (t 62)), nK 74 63, fA 75 64 74, ⟨none, none, [69], .sto 1 (t 73) (t 67)⟩, o 76 (.iaa 32 1 (t 75) (t 64)), sO 1 76 70] [66, 69]))))
(r [mV 27 5, o 28 (b .add (t 27) (k 1)), mV 5 28]))))))
(.seq (s [mK 77 (.it .i64 0)]
(.blk 4 (.loop [1, 3, 4, 77] []
(s [o 78 (b .lss (t 77) (k 257))]
(.seq (.cond (t 78)
.skip
(.exit 4))
(.seq (.blk 5 (s [mV 79 77, mV 6 79]
(s [mV 80 6, cP 81 296 [t 80], mV 7 81]
(.seq (.reg true [
mV 82 1, mV 83 6, mV 84 1, mV 85 7, o 86 (.iaa 32 1 (t 4) (t 85)), lD 87 1 86, mV 88 7, o 89 (.iaa 32 1 (t 3) (t 88)), lD 90 1 89, mV 91 6, nK 92 82, fA 93 353 92, o 94 (.iaa 257 1 (t 93) (t 83)), nK 95 84, fA 96 96 95, ⟨none, none, [86], .sto 1 (t 94) (t 90)⟩, o 97 (.iaa 257 1 (t 96) (t 87)), sO 1 97 91] [86, 89])
(.seq (.reg false [
mV 98 7, o 99 (.iaa 32 1 (t 3) (t 98)), lD 100 1 99, o 101 (b .add (t 100) (k 1)), o 102 (.iaa 32 1 (t 3) (t 98)), sO 1 102 101] [99, 102])
(.reg false [
mV 103 7, o 104 (.iaa 32 1 (t 4) (t 103)), lD 105 1 104, o 106 (b .add (t 105) (k 1)), o 107 (.iaa 32 1 (t 4) (t 103)), sO 1 107 106] [104, 107]))))))
(.reg false [
o 108 (b .add (t 77) (k 1)), mV 77 108] [])))))))
(.seq (r [mV 109 1, mV 0 109])
.ret)))))))⟩
def c297 : Ev.Fn := d297.den
theorem r297 : OK 297 c297 := rd d297 { P0 .rw with loc := [3, 4], ord := [(5, [0, 1, 3, 4, 8, 9, 2, 5, 6, 7, 10, 11]), (13, [0, 1, 2, 3, 4, 5, 6, 7, 8, 9, 10, 11, 12, 14, 15, 13, 16, 17]), (18, [0, 1, 2, 3, 4, 5, 6, 7, 8, 9, 10, 11, 12, 14, 15, 13, 16, 17])], clr := [(11, [46]), (12, [50, 60]), (13, [66, 69]), (18, [86, 89]), (19, [99, 102]), (20, [104, 107])], mask := [(3, [1, 10], [3, 4]), (9, [1, 3, 4, 5], []), (15, [1, 3, 4, 77], [])] } Tryz.func297
def d300 : DFn := ⟨[(.c .one), (.g [.one, .one]), (.c .one)], [], .rw, [],
(s [o 4 (.box (t 1))]
(.seq (.reg true [
mV 6 0, mV 7 0, nK 8 7, fA 9 3 8, lD 10 1 9, lQ 11 2 4, mV 12 2, o 13 (.bld [(.st []), (.st []), (.it .i64 0)] [(0, 2, (t 11)), (2, 1, (t 12))]), o 14 (.bsv [.one, .one, .one] 3 [[(.st []), (.st []), (.it .i64 0)]] [(0, (t 13))]), o 15 (.app 3 40 (t 10) (t 14)), nK 16 6, fA 17 3 16, sO 1 17 15] [])
(.seq (.reg true [
mV 18 0, nK 19 18, fA 20 4 19, lD 21 1 20, lQ 22 2 4, cP 23 111 [t 22], o 24 (b .add (t 21) (t 23)), nK 25 18, fA 26 4 25, sO 1 26 24] [])
(.seq (.reg true [
mV 27 0, nK 28 27, fA 29 4 28, lD 30 1 29, mV 31 0, nK 32 31, fA 33 0 32, lD 34 1 33, nK 35 34, fA 36 2 35, lD 37 1 36, o 38 (b .gtr (t 30) (t 37))] [])
(.cond (t 38)
(r [mV 39 0, cR 40 333 [t 39, (k 2)]])
.skip)))))⟩
def c300 : Ev.Fn := d300.den
theorem r300 : OK 300 c300 := rd d300 { P0 .rw with loc := [4], heap := [15], own := [15] } Tryz.func300
def d301 : DFn := ⟨[(.c .one), (.c .one)], [(.g [.one, .one])], .rw, [.cell 4 2 true],
(s [o 4 (.alc [(.st []), (.st [])])]
(s [mV 8 0, nK 9 8, fA 10 0 9, lD 11 1 10, nK 12 11, fA 13 0 12, lD 14 1 13, mV 15 1, cR 16 334 [t 14, t 15], mV 7 16, eX 17 7 0, eX 18 7 1, o 5 (.alc [(.st []), (.st [])]), sO 2 5 17, mV 6 18]
(.seq (s [mV 19 6, o 20 (.un .not (t 19))]
(.cond (t 20)
(r [mV 21 0, cR 22 333 [t 21, (k 5)]])
.skip))
(s [lQ 23 2 5, sO 2 4 23]
.ret))))⟩
def c301 : Ev.Fn := d301.den
theorem r301 : OK 301 c301 := rd d301 { P0 .rw with loc := [4, 5], ord := [(1, [0, 1, 2, 3, 4, 5, 6, 7, 12, 8, 9, 10, 11, 13, 14])] } Tryz.func301
def d302 : DFn := ⟨[(.c .one), (.c .one)], [(.c .one)], .rw, [.tmp 4],
(s [mK 4 (.it .i64 0)]
(.seq (.reg true [
mV 9 0, nK 10 9, fA 11 1 10, lD 12 1 11, mV 13 0, nK 14 13, fA 15 2 14, lD 16 1 15, mV 17 1, o 18 (.call true .pure 335 [t 12, t 16, t 17]), mV 8 18, eX 19 8 0, eX 20 8 1, eX 21 8 2, mV 5 19, mV 6 20, mV 7 21] [])
(.seq (s [mV 22 7, o 23 (b .neq (t 22) (k 0))]
(.cond (t 23)
(r [mV 24 0, mV 25 7, cR 26 333 [t 24, t 25]])
.skip))
(s [mV 27 0, mV 28 6, nK 29 27, fA 30 2 29, sO 1 30 28]
(s [mV 31 5, mV 4 31]
.ret)))))⟩
def c302 : Ev.Fn := d302.den
theorem r302 : OK 302 c302 := rd d302 { P0 .rw with heap := [18], own := [18] } Tryz.func302
def d303 : DFn := ⟨[(.c .one), (.c .one)], [(.g [.one, .one])], .rw, [.cell 4 2 true],
(s [o 4 (.alc [(.st []), (.st [])])]
(s [o 5 (.alc [(.st []), (.st [])])]
(.seq (s [mV 7 0, mV 8 1, cR 9 302 [t 7, t 8], mV 6 9]
(s [mV 10 6, o 11 (b .gtr (t 10) (k 0))]
(.cond (t 11)
(.reg false [
mV 12 0, mV 13 6, cR 14 301 [t 12, t 13], o 15 (.fld 0 1 false (t 14)), fA 16 0 5, sO 1 16 15] [16])
(.reg false [
mV 17 0, cR 18 336 [t 17], fA 19 0 5, sO 1 19 18] [19]))))
(.seq (.reg false [
mV 20 0, cR 21 336 [t 20], fA 22 1 5, sO 1 22 21] [22])
(.seq (.reg false [
lQ 23 2 5, sO 2 4 23] [])
.ret)))))⟩
def c303 : Ev.Fn := d303.den
theorem r303 : OK 303 c303 := rd d303 { P0 .rw with loc := [4, 5], clr := [(4, [16]), (5, [19]), (6, [22])] } Tryz.func303
def d308 : DFn := ⟨[(.c .one), (.c .one)], [(.c .one)], .pure, [.tmp 4],
(s [mK 4 (.it .i64 0)]
(s [mV 5 0, mV 6 1, o 7 (.ixb (t 5) (t 6)), mV 4 7]
.ret))⟩
def c308 : Ev.Fn := d308.den
theorem r308 : OK 308 c308 := rd d308 (P0 .pure) Tryz.func308
def d312 : DFn := ⟨[(.c .one)], [(.c .one)], .pure, [.tmp 2],
(s [mK 2 (.bo false)]
(s [mV 3 0, o 4 (b .geq (t 3) (.k (.it .u8 32))), mV 5 4, w 6 5 (.mov (t 0)), w 7 5 (b .neq (t 6) (.k (.it .u8 127))), o 8 (.pick (t 5) (t 7) (.k (.bo false))), mV 9 8, x 10 9 (.mov (t 0)), x 11 9 (b .eql (t 10) (.k (.it .u8 9))), o 12 (.pick (t 9) (.k (.bo true)) (t 11)), mV 2 12]
.ret))⟩
def c312 : Ev.Fn := d312.den
theorem r312 : OK 312 c312 := rd d312 (P0 .pure) Tryz.func312
def d313 : DFn := ⟨[(.c .one)], [(.c .one)], .pure, [.tmp 2],
(s [mK 2 (.bo false)]
(.seq (.blk 0 (.seq (s [mV 4 0, o 5 (b .geq (t 4) (.k (.it .u8 97))), mV 6 5, w 7 6 (.mov (t 0)), w 8 6 (b .leq (t 7) (.k (.it .u8 122))), o 9 (.pick (t 6) (t 8) (.k (.bo false))), mV 3 9]
(.cond (t 3)
.skip
(s [mV 10 0, o 11 (b .geq (t 10) (.k (.it .u8 65))), mV 12 11, w 13 12 (.mov (t 0)), w 14 12 (b .leq (t 13) (.k (.it .u8 90))), o 15 (.pick (t 12) (t 14) (.k (.bo false))), mV 3 15]
(.cond (t 3)
.skip
(r [mV 16 0, o 17 (b .geq (t 16) (.k (.it .u8 48))), mV 18 17, w 19 18 (.mov (t 0)), w 20 18 (b .leq (t 19) (.k (.it .u8 57))), o 21 (.pick (t 18) (t 20) (.k (.bo false))), mV 3 21])))))
(.cond (t 3)
(s [mK 2 (.bo true)]
.ret)
.skip)))
(s [mV 22 0, o 23 (.call false .pure 340 [(.k (.st [33, 35, 36, 37, 38, 39, 42, 43, 45, 46, 94, 95, 124, 126, 96])), t 22]), o 24 (b .geq (t 23) (k 0)), mV 2 24]
.ret)))⟩
def c313 : Ev.Fn := d313.den
theorem r313 : OK 313 c313 := rd d313 (P0 .pure) Tryz.func313
def d314 : DFn := ⟨[(.c (.sl [.one, .one])), (.c .one)], [(.c .one)], .rw, [.tmp 4],
(s [mK 4 (.it .i64 0)]
(.seq (s [mV 6 0, lN 7 false 6, mK 8 (.it .i64 0)]
(.blk 0 (.loop [0, 1, 7, 8] []
(s [o 9 (b .lss (t 8) (t 7))]
(.seq (.cond (t 9)
.skip
(.exit 0))
(.seq (.blk 1 (s [mV 10 8, mV 5 10]
(s [mV 11 1, mV 12 0, mV 13 5, o 14 (.ias 2 (t 12) (t 13)), lQ 15 2 14, o 16 (.calv [] (t 11) [t 15])]
(.cond (t 16)
(s [mV 17 5, mV 4 17]
.ret)
.skip))))
(r [o 18 (b .add (t 8) (k 1)), mV 8 18])))))))
(s [mK 4 (.it .i64 (-1))]
.ret)))⟩
def c314 : Ev.Fn := d314.den
theorem r314 : OK 314 c314 := rd d314 { P0 .rw with mask := [(2, [0, 1, 7, 8], [])] } Tryz.func314
def d315 : DFn := ⟨[(.c .one)], [(.c .one)], .pure, [.tmp 2],
(s [mK 2 (.bo false)]
(s [mV 3 0, cP 4 274 [t 3], mV 5 4, w 6 5 (.mov (t 0)), w 7 5 (.call false .pure 142 [t 6]), w 8 5 (.mov (t 0)), w 9 5 (b .eql (t 7) (t 8)), o 10 (.pick (t 5) (t 9) (.k (.bo false))), mV 2 10]
.ret))⟩
def c315 : Ev.Fn := d315.den
theorem r315 : OK 315 c315 := rd d315 { P0 .pure with ord := [(1, [0, 1, 2, 3, 5, 4, 6, 7, 8])] } Tryz.func315
def d316 : DFn := ⟨[(.c (.sl [.one, .one, .one, .one, (.sl [.one, .one]), .one, .one, (.sl [.one, .one]), .one, .one, .one, .one])), (.c .one)], [(.c .one)], .rw, [.tmp 4],
(s [mK 4 (.it .i64 0)]
(.seq (s [mV 6 0, lN 7 false 6, mK 8 (.it .i64 0)]
(.blk 0 (.loop [0, 1, 7, 8] []
(s [o 9 (b .lss (t 8) (t 7))]
(.seq (.cond (t 9)
.skip
(.exit 0))
(.seq (.blk 1 (s [mV 10 8, mV 5 10]
(s [mV 11 1, mV 12 0, mV 13 5, o 14 (.ias 12 (t 12) (t 13)), lQ 15 12 14, o 16 (.calv [] (t 11) [t 15])]
(.cond (t 16)
(s [mV 17 5, mV 4 17]
.ret)
.skip))))
(r [o 18 (b .add (t 8) (k 1)), mV 8 18])))))))
(s [mK 4 (.it .i64 (-1))]
.ret)))⟩
def c316 : Ev.Fn := d316.den
theorem r316 : OK 316 c316 := rd d316 { P0 .rw with mask := [(2, [0, 1, 7, 8], [])] } Tryz.func316
def d317 : DFn := ⟨[(.g [.one, .one, .one, .one, (.sl [.one, .one]), .one, .one, (.sl [.one, .one]), .one, .one, .one, .one]), (.c .one)], [(.c .one)], .rw, [.tmp 3],
(s [o 2 (.box (t 0)), mK 3 (.bo false)]
(s [lQ 4 12 2, lQ 5 6 1, cP 6 236 [t 4, t 5], mV 3 6]
.ret))⟩
def c317 : Ev.Fn := d317.den
theorem r317 : OK 317 c317 := rd d317 { P0 .rw with loc := [2], ord := [(0, [1, 0])] } Tryz.func317
def d318 : DFn := ⟨[(.g [.one, .one, .one, .one, (.sl [.one, .one]), .one, .one, (.sl [.one, .one]), .one, .one, .one, .one]), (.c .one)], [(.c .one)], .pure, [.tmp 4],
(s [o 2 (.box (t 0)), mK 4 (.it .i64 0)]
(.seq (.reg false [
fA 14 6 2, fA 15 1 14, lD 16 1 15, mV 5 16] [14, 15])
(.seq (.reg false [
mV 17 5, cP 18 244 [t 17], o 6 (.alc [(.bo false), (.bo false), (.bo false), (.bo false), (.bo false), (.bo false), (.it .i64 0), (.it .i64 0), (.it .i64 0), (.it .i64 0)]), sO 10 6 18] [])
(.seq (.seq (.reg false [
fA 19 7 6, lD 20 1 19, o 21 (b .geq (t 20) (k 0))] [19])
(.cond (t 21)
(.seq (.reg false [
fA 22 7 6, lD 23 1 22, mV 4 23] [22])
.ret)
.skip))
(.seq (.seq (.reg false [
fA 24 6 6, lD 25 1 24, o 26 (b .geq (t 25) (k 0))] [24])
(.cond (t 26)
(.seq (.reg false [
fA 27 6 6, lD 28 1 27, mV 4 28] [27])
.ret)
.skip))
(.seq (.reg false [
lQ 29 12 2, cP 30 288 [t 29], mV 7 30] [])
(.seq (s [mV 32 5, o 33 (.call false .pure 323 [t 32, (.k (.st [101, 120, 112, 105, 114, 101, 115]))]), mV 31 33, eX 34 31 0, eX 35 31 1, eX 36 31 2, mV 8 34, mV 9 35, mV 10 36]
(s [mV 37 10, o 38 (b .gtr (t 37) (k 0))]
(.cond (t 38)
(.seq (s [mV 39 9, o 40 (.un .not (t 39))]
(.cond (t 40)
(s [mK 4 (.it .i64 0)]
.ret)
.skip))
(s [mV 41 8, mV 42 7, o 43 (b .sub (t 41) (t 42)), o 44 (.mnx true (t 43) (k 0)), mV 4 44]
.ret))
.skip)))
(.seq (s [mV 46 5, o 47 (.call false .pure 323 [t 46, (.k (.st [108, 97, 115, 116, 45, 109, 111, 100, 105, 102, 105, 101, 100]))]), mV 45 47, eX 48 45 0, eX 49 45 1, eX 50 45 2, mV 11 48, mV 12 49, mV 13 50]
(.seq (.reg false [
mV 51 12, mV 52 51, w 53 52 (.mov (t 11)), w 54 52 (.mov (t 7)), w 55 52 (b .leq (t 53) (t 54)), o 56 (.pick (t 52) (t 55) (.k (.bo false))), mV 57 56, w 58 57 (.fad 6 (t 2)), w 59 57 (.fad 0 (t 58)), w 60 57 (.ld 1 false (t 59)), w 61 57 (.call false .pure 247 [t 60]), o 62 (.pick (t 57) (t 61) (.k (.bo false)))] [58, 59])
(.cond (t 62)
(.seq (.reg false [
mV 63 7, mV 64 11, o 65 (b .sub (t 63) (t 64)), mV 66 1, cP 67 341 [t 65, t 66], mV 4 67] [])
.ret)
.skip)))
(s [mK 4 (.it .i64 0)]
.ret)))))))))⟩
def c318 : Ev.Fn := d318.den
theorem r318 : OK 318 c318 := rd d318 { P0 .pure with loc := [2, 6], ord := [(0, [1, 0]), (2, [0, 2, 1, 3])], clr := [(1, [14, 15]), (3, [19]), (4, [22]), (5, [24]), (6, [27]), (14, [58, 59])] } Tryz.func318
def d319 : DFn := ⟨[(.g [.one, .one, .one, .one, (.sl [.one, .one]), .one])], [(.c .one)], .pure, [.tmp 2],
(s [o 1 (.box (t 0)), mK 2 (.bo false)]
(.seq (.seq (.reg false [
fA 8 4 1, lD 9 1 8, o 10 (.call false .pure 140 [t 9, (.k (.st [99, 97, 99, 104, 101, 45, 99, 111, 110, 116, 114, 111, 108]))]), mV 7 10, eX 11 7 0, eX 12 7 1, mV 3 11, mV 4 12] [8])
(.seq (.reg false [
mV 13 4, o 14 (b .gtr (t 13) (k 0))] [])
(.cond (t 14)
(s [mK 2 (.bo false)]
.ret)
.skip)))
(.seq (.seq (.reg false [
fA 15 4 1, lD 16 1 15, o 17 (.call false .pure 291 [t 16, (.k (.st [112, 114, 97, 103, 109, 97]))]), lN 18 false 17, mK 19 (.it .i64 0)] [15])
(.blk 0 (.loop [17, 18, 19] [1, 6]
(.seq (.reg false [
o 20 (b .lss (t 19) (t 18))] [])
(.seq (.cond (t 20)
.skip
(.exit 0))
(.seq (.blk 1 (s [o 21 (.ias 3 (t 17) (t 19)), lQ 22 3 21, o 6 (.alc [(.st []), (.st []), (.bo false)]), sO 3 6 22]
(.seq (.reg false [
fA 23 0 6, lD 24 1 23, o 25 (b .eql (t 24) (.k (.st [110, 111, 45, 99, 97, 99, 104, 101])))] [23])
(.cond (t 25)
(.seq (.reg false [
mK 2 (.bo true)] [])
.ret)
.skip))))
(r [o 26 (b .add (t 19) (k 1)), mV 19 26])))))))
(s [mK 2 (.bo false)]
.ret))))⟩
def c319 : Ev.Fn := d319.den
theorem r319 : OK 319 c319 := rd d319 { P0 .pure with loc := [1, 6], ord := [(0, [1, 0]), (4, [0, 1, 4, 2, 3])], clr := [(1, [8]), (4, [15]), (7, [23])], mask := [(5, [17, 18, 19], [1, 6])] } Tryz.func319
def d323 : DFn := ⟨[(.c (.sl [.one, .one])), (.c .one)], [(.c .one), (.c .one), (.c .one)], .pure, [.tmp 4, .tmp 5, .tmp 6],
(s [mK 4 (.it .i64 0), mK 5 (.bo false), mK 6 (.it .i64 0)]
(s [mV 12 0, mV 13 1, cP 14 140 [t 12, t 13], mV 11 14, eX 15 11 0, eX 16 11 1, mV 7 15, mV 8 16]
(.seq (s [mV 17 8, o 18 (b .neq (t 17) (k 1))]
(.cond (t 18)
(s [mV 19 8, mK 4 (.it .i64 0), mK 5 (.bo false), mV 6 19]
.ret)
.skip))
(s [mV 21 7, cP 22 344 [t 21], mV 20 22, eX 23 20 0, eX 24 20 1, mV 9 23, mV 10 24]
(s [mV 25 9, mV 26 10, mV 27 8, mV 4 25, mV 5 26, mV 6 27]
.ret)))))⟩
def c323 : Ev.Fn := d323.den
theorem r323 : OK 323 c323 := rd d323 (P0 .pure) Tryz.func323
def d324 : DFn := ⟨[(.c .one)], [(.c .one)], .pure, [.tmp 2],
(s [mK 2 (.it .i64 0)]
(s [mK 3 (.it .i64 0)]
(.seq (s [mV 5 0, lN 6 true 5, mK 7 (.it .i64 0)]
(.blk 0 (.loop [0, 3, 6, 7] []
(s [o 8 (b .lss (t 7) (t 6))]
(.seq (.cond (t 8)
.skip
(.exit 0))
(.seq (.blk 1 (s [mV 9 7, mV 4 9]
(.seq (s [mV 10 0, mV 11 4, o 12 (.ixs (t 10) (t 11)), o 13 (b .lss (t 12) (.k (.it .u8 48))), mV 14 13, x 15 14 (.mov (t 0)), x 16 14 (.mov (t 4)), x 17 14 (.ixs (t 15) (t 16)), x 18 14 (b .gtr (t 17) (.k (.it .u8 57))), o 19 (.pick (t 14) (.k (.bo true)) (t 18))]
(.cond (t 19)
(s [mK 2 (.it .i64 (-1))]
.ret)
.skip))
(r [mV 20 3, o 21 (b .mul (k 10) (t 20)), mV 22 0, mV 23 4, o 24 (.ixs (t 22) (t 23)), o 25 (b .sub (t 24) (.k (.it .u8 48))), cV 26 .i64 25, o 27 (b .add (t 21) (t 26)), o 28 (.mnx false (t 27) (k 2147483647)), mV 3 28]))))
(r [o 29 (b .add (t 7) (k 1)), mV 7 29])))))))
(.seq (s [mV 30 0, o 31 (b .eql (t 30) (.k (.st [])))]
(.cond (t 31)
(s [mK 2 (.it .i64 (-1))]
.ret)
.skip))
(s [mV 32 3, mV 2 32]
.ret)))))⟩
def c324 : Ev.Fn := d324.den
theorem r324 : OK 324 c324 := rd d324 { P0 .pure with mask := [(3, [0, 3, 6, 7], [])] } Tryz.func324
def d329 : DFn := ⟨[(.c .one)], [(.g [.one, .one, .one]), (.c .one)], .pure, [.cell 2 3 true, .tmp 3],
(s [o 2 (.alc [(.st []), (.st []), (.bo false)]), mK 3 (.bo false)]
(.seq (s [mV 9 0, cP 10 274 [t 9]]
(.cond (t 10)
(s [mV 11 0, cP 12 142 [t 11], o 13 (.bld [(.st []), (.st []), (.bo false)] [(0, 1, (t 12))]), sO 3 2 13, mK 3 (.bo true)]
.ret)
.skip))
(s [mV 15 0, o 16 (.call false .pure 179 [t 15, (.k (.st [61]))]), mV 14 16, eX 17 14 0, eX 18 14 1, eX 19 14 2, mV 4 17, mV 5 18, mV 6 19]
(.seq (s [mV 20 6, o 21 (.un .not (t 20)), mV 22 21, x 23 22 (.mov (t 4)), x 24 22 (.call false .pure 274 [t 23]), x 25 22 (.un .not (t 24)), o 26 (.pick (t 22) (.k (.bo true)) (t 25))]
(.cond (t 26)
(s [o 27 (.bld [(.st []), (.st []), (.bo false)] []), sO 3 2 27, mK 3 (.bo false)]
.ret)
.skip))
(s [mV 29 5, cP 30 350 [t 29], mV 28 30, eX 31 28 0, eX 32 28 1, mV 7 31, mV 8 32]
(.seq (s [mV 33 8, o 34 (.un .not (t 33))]
(.cond (t 34)
(s [o 35 (.bld [(.st []), (.st []), (.bo false)] []), sO 3 2 35, mK 3 (.bo false)]
.ret)
.skip))
(s [mV 36 4, cP 37 142 [t 36], mV 38 7, o 39 (.bld [(.st []), (.st []), (.bo false)] [(0, 1, (t 37)), (1, 1, (t 38)), (2, 1, (.k (.bo true)))]), sO 3 2 39, mK 3 (.bo true)]
.ret)))))))⟩
def c329 : Ev.Fn := d329.den
theorem r329 : OK 329 c329 := rd d329 { P0 .pure with loc := [2], ord := [(0, [1, 0]), (9, [0, 2, 1, 3, 4, 5])] } Tryz.func329
def d334 : DFn := ⟨[(.c .one), (.c .one)], [(.g [.one, .one]), (.c .one)], .rw, [.cell 4 2 true, .tmp 5],
(s [o 4 (.alc [(.st []), (.st [])]), mK 5 (.bo false)]
(s [mV 7 0, nK 8 7, fA 9 1 8, lD 10 1 9, lN 11 false 10, mV 6 11]
(.seq (.blk 0 (s [mV 13 1, o 14 (b .geq (t 13) (k 1)), mV 15 14, w 16 15 (.mov (t 1)), w 17 15 (.mov (t 6)), w 18 15 (b .leq (t 16) (t 17)), o 19 (.pick (t 15) (t 18) (.k (.bo false))), mV 12 19]
(.cond (t 12)
(s [mV 20 0, nK 21 20, fA 22 1 21, lD 23 1 22, mV 24 1, o 25 (b .sub (t 24) (k 1)), o 26 (.ias 2 (t 23) (t 25)), lQ 27 2 26, sO 2 4 27, mK 5 (.bo true)]
.ret)
(s [mV 29 1, mV 30 6, o 31 (b .gtr (t 29) (t 30)), mV 32 31, w 33 32 (.mov (t 1)), w 34 32 (.mov (t 6)), w 35 32 (b .sub (t 33) (t 34)), w 36 32 (.mov (t 0)), w 37 32 (.nck (t 36)), w 38 32 (.fad 0 (t 37)), w 39 32 (.ld 1 false (t 38)), w 40 32 (.len false (t 39)), w 41 32 (b .leq (t 35) (t 40)), o 42 (.pick (t 32) (t 41) (.k (.bo false))), mV 28 42]
(.cond (t 28)
(s [mV 43 0, nK 44 43, fA 45 0 44, lD 46 1 45, mV 47 1, mV 48 6, o 49 (b .sub (t 47) (t 48)), o 50 (b .sub (t 49) (k 1)), o 51 (.ias 2 (t 46) (t 50)), lQ 52 2 51, sO 2 4 52, mK 5 (.bo true)]
.ret)
.skip)))))
(s [o 53 (.bld [(.st []), (.st [])] []), sO 2 4 53, mK 5 (.bo false)]
.ret))))⟩
def c334 : Ev.Fn := d334.den
theorem r334 : OK 334 c334 := rd d334 { P0 .rw with loc := [4], ord := [(0, [1, 0])] } Tryz.func334
def d335 : DFn := ⟨[(.c (.sl [.one])), (.c .one), (.c .one)], [(.c .one), (.c .one), (.c .one)], .pure, [.tmp 6, .tmp 7, .tmp 8],
(s [mK 6 (.it .i64 0), mK 7 (.it .i64 0), mK 8 (.it .i64 0)]
(.seq (s [mV 13 2, o 14 (b .lss (t 13) (k 1)), mV 15 14, x 16 15 (.mov (t 2)), x 17 15 (b .gtr (t 16) (k 8)), o 18 (.pick (t 15) (.k (.bo true)) (t 17)), mV 19 18, x 20 19 (.mov (t 1)), x 21 19 (b .lss (t 20) (k 0)), o 22 (.pick (t 19) (.k (.bo true)) (t 21)), mV 23 22, x 24 23 (.mov (t 1)), x 25 23 (.mov (t 0)), x 26 23 (.len false (t 25)), x 27 23 (b .gtr (t 24) (t 26)), o 28 (.pick (t 23) (.k (.bo true)) (t 27))]
(.cond (t 28)
(s [mK 6 (.it .i64 0), mK 7 (.it .i64 0), mK 8 (.it .i64 1)]
.ret)
.skip))
(.seq (s [mV 29 1, mV 30 0, lN 31 false 30, o 32 (b .eql (t 29) (t 31))]
(.cond (t 32)
(s [mK 6 (.it .i64 0), mK 7 (.it .i64 0), mK 8 (.it .i64 3)]
.ret)
.skip))
(s [mV 33 2, cP 34 202 [t 33], mV 9 34]
(s [mV 35 0, mV 36 1, o 37 (.ias 1 (t 35) (t 36)), lD 38 1 37, cV 39 .i64 38, mV 40 9, o 41 (b .and (t 39) (t 40)), mV 10 41]
(s [mV 42 1, o 43 (b .add (t 42) (k 1)), mV 1 43]
(.seq (s [mV 44 10, mV 45 9, o 46 (b .lss (t 44) (t 45))]
(.cond (t 46)
(s [mV 47 10, mV 48 1, mV 6 47, mV 7 48, mK 8 (.it .i64 0)]
.ret)
.skip))
(s [mK 11 (.it .i64 0)]
(.blk 0 (.loop [0, 1, 10, 11] []
(.seq (.blk 1 (.seq (s [mV 51 11, o 52 (b .eql (t 51) (k 5))]
(.cond (t 52)
(s [mK 6 (.it .i64 0), mK 7 (.it .i64 0), mK 8 (.it .i64 2)]
.ret)
.skip))
(.seq (s [mV 53 1, mV 54 0, lN 55 false 54, o 56 (b .eql (t 53) (t 55))]
(.cond (t 56)
(s [mK 6 (.it .i64 0), mK 7 (.it .i64 0), mK 8 (.it .i64 3)]
.ret)
.skip))
(s [mV 57 0, mV 58 1, o 59 (.ias 1 (t 57) (t 58)), lD 60 1 59, cV 61 .i64 60, mV 12 61]
(s [mV 62 1, o 63 (b .add (t 62) (k 1)), mV 1 63]
(s [mV 64 10, mV 65 12, o 66 (b .and (t 65) (k 127)), mV 67 11, o 68 (b .mul (k 7) (t 67)), cV 69 .u64 68, o 70 (b .shl (t 66) (t 69)), o 71 (b .add (t 64) (t 70)), mV 10 71]
(.seq (s [mV 72 10, o 73 (b .gtr (t 72) (k 2147483647))]
(.cond (t 73)
(s [mK 6 (.it .i64 0), mK 7 (.it .i64 0), mK 8 (.it .i64 2)]
.ret)
.skip))
(s [mV 74 12, o 75 (b .lss (t 74) (k 128))]
(.cond (t 75)
(s [mV 76 10, mV 77 1, mV 6 76, mV 7 77, mK 8 (.it .i64 0)]
.ret)
.skip)))))))))
(r [mV 49 11, o 50 (b .add (t 49) (k 1)), mV 11 50]))))))))))))⟩
def c335 : Ev.Fn := d335.den
theorem r335 : OK 335 c335 := rd d335 { P0 .pure with mask := [(12, [0, 1, 10, 11], [])] } Tryz.func335
def d336 : DFn := ⟨[(.c .one)], [(.c .one)], .rw, [.tmp 2],
(s [mK 2 (.st [])]
(.seq (.seq (.reg true [
mV 8 0, nK 9 8, fA 10 2 9, lD 11 1 10, mV 12 0, nK 13 12, fA 14 1 13, lD 15 1 14, lN 16 false 15, o 17 (b .eql (t 11) (t 16))] [])
(.cond (t 17)
(r [mV 18 0, cR 19 333 [t 18, (k 3)]])
.skip))
(.seq (.reg true [
mV 20 0, nK 21 20, fA 22 1 21, lD 23 1 22, mV 24 0, nK 25 24, fA 26 2 25, lD 27 1 26, o 28 (.ias 1 (t 23) (t 27)), lD 29 1 28, o 30 (b .geq (t 29) (.k (.it .u8 128))), mV 3 30] [])
(s [mV 31 0, cR 32 302 [t 31, (k 7)], mV 4 32]
(.seq (s [mV 33 4, o 34 (b .gtr (t 33) (k 65536))]
(.cond (t 34)
(r [mV 35 0, cR 36 333 [t 35, (k 2)]])
.skip))
(.seq (.seq (.reg true [
mV 37 4, mV 38 0, nK 39 38, fA 40 1 39, lD 41 1 40, lN 42 false 41, mV 43 0, nK 44 43, fA 45 2 44, lD 46 1 45, o 47 (b .sub (t 42) (t 46)), o 48 (b .gtr (t 37) (t 47))] [])
(.cond (t 48)
(r [mV 49 0, cR 50 333 [t 49, (k 3)]])
.skip))
(.seq (.reg true [
mV 51 0, nK 52 51, fA 53 1 52, lD 54 1 53, mV 55 0, nK 56 55, fA 57 2 56, lD 58 1 57, mV 59 0, nK 60 59, fA 61 2 60, lD 62 1 61, mV 63 4, o 64 (b .add (t 62) (t 63)), o 65 (.slc false 1 (t 54) (some (t 58)) (some (t 64))), mV 5 65] [])
(s [mV 66 0, nK 67 66, fA 68 2 67, lD 69 1 68, mV 70 4, o 71 (b .add (t 69) (t 70)), nK 72 66, fA 73 2 72, sO 1 73 71]
(.seq (s [mV 74 3, o 75 (.un .not (t 74))]
(.cond (t 75)
(s [mV 76 5, o 77 (.cnv .b2s (t 76)), mV 2 77]
.ret)
.skip))
(s [mV 79 5, cP 80 352 [t 79], mV 78 80, eX 81 78 0, eX 82 78 1, mV 6 81, mV 7 82]
(.seq (s [mV 83 7, o 84 (b .neq (t 83) (k 0))]
(.cond (t 84)
(r [mV 85 0, mV 86 7, cR 87 333 [t 85, t 86]])
.skip))
(.seq (s [mV 88 6, lN 89 true 88, o 90 (b .gtr (t 89) (k 65536))]
(.cond (t 90)
(r [mV 91 0, cR 92 333 [t 91, (k 2)]])
.skip))
(s [mV 93 6, mV 2 93]
.ret)))))))))))))⟩
def c336 : Ev.Fn := d336.den
theorem r336 : OK 336 c336 := rd d336 (P0 .rw) Tryz.func336
def d340 : DFn := ⟨[(.c .one), (.c .one)], [(.c .one)], .pure, [.tmp 4],
(s [mK 4 (.it .i64 0)]
(s [mV 5 0, mV 6 1, cP 7 308 [t 5, t 6], mV 4 7]
.ret))⟩
def c340 : Ev.Fn := d340.den
theorem r340 : OK 340 c340 := rd d340 (P0 .pure) Tryz.func340
def d350 : DFn := ⟨[(.c .one)], [(.c .one), (.c .one)], .pure, [.tmp 2, .tmp 3],
(s [mK 2 (.st []), mK 3 (.bo false)]
(.seq (s [mV 8 0, cP 9 274 [t 8]]
(.cond (t 9)
(s [mV 10 0, mV 2 10, mK 3 (.bo true)]
.ret)
.skip))
(.seq (s [mV 11 0, lN 12 true 11, o 13 (b .lss (t 12) (k 2)), mV 14 13, x 15 14 (.mov (t 0)), x 16 14 (.ixs (t 15) (k 0)), x 17 14 (b .neq (t 16) (.k (.it .u8 34))), o 18 (.pick (t 14) (.k (.bo true)) (t 17)), mV 19 18, x 20 19 (.mov (t 0)), x 21 19 (.mov (t 0)), x 22 19 (.len true (t 21)), x 23 19 (b .sub (t 22) (k 1)), x 24 19 (.ixs (t 20) (t 23)), x 25 19 (b .neq (t 24) (.k (.it .u8 34))), o 26 (.pick (t 19) (.k (.bo true)) (t 25))]
(.cond (t 26)
(s [mK 2 (.st []), mK 3 (.bo false)]
.ret)
.skip))
(s [mV 27 0, mV 28 0, lN 29 true 28, o 30 (b .sub (t 29) (k 1)), o 31 (.slc true 0 (t 27) (some (k 1)) (some (t 30))), mV 4 31]
(s [mK 5 .ns]
(.seq (s [mK 6 (.it .i64 0)]
(.blk 0 (.loop [4, 5, 6] []
(.seq (s [mV 32 6, mV 33 4, lN 34 true 33, o 35 (b .lss (t 32) (t 34))]
(.cond (t 35)
.skip
(.exit 0)))
(.seq (.blk 1 (s [mV 38 4, mV 39 6, o 40 (.ixs (t 38) (t 39)), mV 7 40]
(.seq (s [mV 41 7, o 42 (b .eql (t 41) (.k (.it .u8 34)))]
(.cond (t 42)
(s [mK 2 (.st []), mK 3 (.bo false)]
.ret)
.skip))
(.seq (s [mV 43 7, o 44 (b .eql (t 43) (.k (.it .u8 92)))]
(.cond (t 44)
(s [mV 45 6, o 46 (b .add (t 45) (k 1)), mV 6 46]
(.seq (s [mV 47 6, mV 48 4, lN 49 true 48, o 50 (b .eql (t 47) (t 49))]
(.cond (t 50)
(s [mK 2 (.st []), mK 3 (.bo false)]
.ret)
.skip))
(r [mV 51 4, mV 52 6, o 53 (.ixs (t 51) (t 52)), mV 7 53])))
.skip))
(.seq (s [mV 54 7, cP 55 312 [t 54], o 56 (.un .not (t 55))]
(.cond (t 56)
(s [mK 2 (.st []), mK 3 (.bo false)]
.ret)
.skip))
(r [mV 57 5, mV 58 7, o 59 (.bsv [.one] 1 [[(.it .u8 0)]] [(0, (t 58))]), o 60 (.app 1 1 (t 57) (t 59)), mV 5 60]))))))
(r [mV 36 6, o 37 (b .add (t 36) (k 1)), mV 6 37]))))))
(s [mV 61 5, o 62 (.cnv .b2s (t 61)), mV 2 62, mK 3 (.bo true)]
.ret)))))))⟩
def c350 : Ev.Fn := d350.den
theorem r350 : OK 350 c350 := rd d350 { P0 .pure with heap := [60], own := [60], mask := [(8, [4, 5, 6], [])] } Tryz.func350
def d352 : DFn := ⟨[(.c (.sl [.one]))], [(.c .one), (.c .one)], .pure, [.tmp 2, .tmp 3],
(s [mK 2 (.st []), mK 3 (.it .i64 0)]
(s [cR 10 297 [], mV 4 10]
(s [mK 5 .ns]
(s [mK 6 (.it .i64 0), mK 7 (.it .i64 0)]
(.seq (s [mV 11 0, lN 12 false 11, o 13 (b .mul (k 8) (t 12)), mK 14 (.it .i64 0)]
(.blk 0 (.loop [0, 4, 5, 6, 7, 13, 14] []
(s [o 15 (b .lss (t 14) (t 13))]
(.seq (.cond (t 15)
.skip
(.exit 0))
(.seq (.blk 1 (s [mV 16 14, mV 8 16]
(s [mV 17 6, o 18 (b .shl (t 17) (.k (.it .u64 1))), mV 19 0, mV 20 8, o 21 (b .quo (t 20) (k 8)), o 22 (.ias 1 (t 19) (t 21)), lD 23 1 22, mV 24 8, o 25 (b .rem (t 24) (k 8)), o 26 (b .sub (k 7) (t 25)), cV 27 .u64 26, o 28 (b .shr (t 23) (t 27)), o 29 (b .and (t 28) (.k (.it .u8 1))), cV 30 .i64 29, o 31 (b .or (t 18) (t 30)), mV 6 31]
(s [mV 32 7, o 33 (b .add (t 32) (k 1)), mV 7 33]
(s [mV 34 4, mV 35 6, mV 36 7, cR 37 363 [t 34, t 35, t 36], mV 9 37]
(.seq (s [mV 38 9, o 39 (b .eql (t 38) (k 256))]
(.cond (t 39)
(s [mK 2 (.st []), mK 3 (.it .i64 4)]
.ret)
.skip))
(s [mV 40 9, o 41 (b .geq (t 40) (k 0))]
(.cond (t 41)
(s [mV 42 5, mV 43 9, cV 44 .u8 43, o 45 (.bsv [.one] 1 [[(.it .u8 0)]] [(0, (t 44))]), o 46 (.app 1 1 (t 42) (t 45)), mV 5 46]
(r [mK 6 (.it .i64 0), mK 7 (.it .i64 0)]))
.skip))))))))
(r [o 47 (b .add (t 14) (k 1)), mV 14 47])))))))
(.seq (s [mV 48 7, o 49 (b .gtr (t 48) (k 7)), mV 50 49, x 51 50 (.mov (t 6)), x 52 50 (.mov (t 7)), x 53 50 (.cnv (.int .u64) (t 52)), x 54 50 (b .shl (k 1) (t 53)), x 55 50 (b .sub (t 54) (k 1)), x 56 50 (b .neq (t 51) (t 55)), o 57 (.pick (t 50) (.k (.bo true)) (t 56))]
(.cond (t 57)
(s [mK 2 (.st []), mK 3 (.it .i64 4)]
.ret)
.skip))
(s [mV 58 5, o 59 (.cnv .b2s (t 58)), mV 2 59, mK 3 (.it .i64 0)]
.ret)))))))⟩
def c352 : Ev.Fn := d352.den
theorem r352 : OK 352 c352 := rd d352 { P0 .pure with heap := [46], own := [46], mask := [(5, [0, 4, 5, 6, 7, 13, 14], [])] } Tryz.func352
def d363 : DFn := ⟨[(.c .one), (.c .one), (.c .one)], [(.c .one)], .rw, [.tmp 6],
(s [mK 6 (.it .i64 0)]
(s [mV 8 1, mV 9 0, mV 10 2, nK 11 9, fA 12 0 11, o 13 (.iaa 32 1 (t 12) (t 10)), lD 14 1 13, o 15 (b .sub (t 8) (t 14)), mV 7 15]
(.seq (s [mV 16 7, o 17 (b .lss (t 16) (k 0)), mV 18 17, x 19 18 (.mov (t 7)), x 20 18 (.mov (t 0)), x 21 18 (.mov (t 2)), x 22 18 (.nck (t 20)), x 23 18 (.fad 32 (t 22)), x 24 18 (.iaa 32 1 (t 23) (t 21)), x 25 18 (.ld 1 false (t 24)), x 26 18 (b .geq (t 19) (t 25)), o 27 (.pick (t 18) (.k (.bo true)) (t 26))]
(.cond (t 27)
(s [mK 6 (.it .i64 (-1))]
.ret)
.skip))
(.seq (.reg true [
mV 28 0, mV 29 0, mV 30 2, nK 31 29, fA 32 64 31, o 33 (.iaa 32 1 (t 32) (t 30)), lD 34 1 33, mV 35 7, o 36 (b .add (t 34) (t 35)), nK 37 28, fA 38 96 37, o 39 (.iaa 257 1 (t 38) (t 36)), lD 40 1 39, mV 6 40] [])
.ret))))⟩
def c363 : Ev.Fn := d363.den
theorem r363 : OK 363 c363 := rd d363 (P0 .rw) Tryz.func363
def c186 : Ev.Fn := itoaFn
theorem r186 : FnOK Tryz.prog mds 186 c186 := ⟨by kernel_rfl, .inr fun call L h => itoa_run call L⟩
def c205 : Ev.Fn := fn205
theorem r205 : FnOK Tryz.prog mds 205 c205 := ⟨by kernel_rfl, .inr fun call L h => ins_run call L⟩
def c261 : Ev.Fn := cGrd
theorem r261 : FnOK Tryz.prog mds 261 c261 := ⟨by kernel_rfl, .inr fun call L h => grd_run call L h⟩
def c283 : Ev.Fn := del.fn283
theorem r283 : FnOK Tryz.prog mds 283 c283 := ⟨by kernel_rfl, .inr fun call L h => del.del_run call L⟩
def c285 : Ev.Fn := ins2.fn285
theorem r285 : FnOK Tryz.prog mds 285 c285 := ⟨by kernel_rfl, .inr fun call L h => ins2.ins_run call L⟩
def tab : List (Option Ev.Fn) := [none, none, none, some c3, none, some c5, some c6, some c7, some c8, some c9, none, none, none, none, none, none, none, none, some c18, some c19, some c20, some c21, some c22, some c23, some c24, some c25, some c26, some c27, some c28, some c29, some c30, some c31, some c32, some c33, some c34, none, none, none, none, none, none, none, none, none, none, none, none, none, none, none, none, some c51, some c52, some c53, some c54, some c55, some c56, some c57, some c58, some c59, some c60, some c61, some c62, some c63, some c64, some c65, some c66, some c67, some c68, some c69, some c70, some c71, some c72, some c73, some c74, some c75, some c76, none, some c78, some c79, some c80, some c81, some c82, some c83, some c84, none, none, none, none, none, none, some c91, some c92, some c93, some c94, some c95, some c96, some c97, none, none, none, some c101, some c102, none, some c104, some c105, some c106, some c107, some c108, some c109, some c110, some c111, some c112, some c113, some c114, some c115, some c116, none, some c118, some c119, some c120, some c121, some c122, some c123, none, none, some c126, some c127, some c128, some c129, none, none, some c132, some c133, some c134, some c135, some c136, some c137, none, none, some c140, some c141, some c142, some c143, some c144, some c145, some c146, some c147, some c148, some c149, some c150, none, some c152, none, some c154, some c155, none, some c157, some c158, some c159, none, none, some c162, some c163, none, some c165, some c166, none, some c168, none, some c170, some c171, some c172, some c173, none, none, some c176, some c177, some c178, some c179, some c180, some c181, some c182, none, some c184, some c185, some c186, some c187, none, some c189, some c190, some c191, some c192, some c193, some c194, some c195, some c196, some c197, some c198, none, some c200, none, some c202, some c203, some c204, some c205, some c206, none, some c208, some c209, some c210, some c211, some c212, some c213, some c214, none, none, some c217, some c218, none, some c220, some c221, some c222, some c223, some c224, some c225, some c226, some c227, some c228, some c229, some c230, some c231, none, some c233, some c234, none, some c236, some c237, some c238, some c239, some c240, some c241, some c242, none, some c244, some c245, some c246, none, some c248, some c249, none, none, none, some c253, some c254, some c255, none, none, some c258, some c259, some c260, some c261, some c262, some c263, some c264, some c265, none, none, none, none, some c270, some c271, some c272, some c273, some c274, some c275, some c276, some c277, some c278, some c279, some c280, some c281, none, some c283, some c284, some c285, none, some c287, some c288, some c289, none, some c291, some c292, some c293, none, none, some c296, some c297, none, none, some c300, some c301, some c302, some c303, none, none, none, none, some c308, none, none, none, some c312, some c313, some c314, some c315, some c316, some c317, some c318, some c319, none, none, none, some c323, some c324, none, none, none, none, some c329, none, none, none, none, some c334, some c335, some c336, none, none, none, some c340, none, none, none, none, none, none, none, none, none, some c350, none, some c352, none, none, none, none, none, none, none, none, none, none, some c363]
def F (n : Nat) : Option Ev.Fn := (tab[n]?).join
inductive Good : Nat -> List (Option Ev.Fn) -> Prop
 | nil (k : Nat) : Good k []
 | none {k : Nat} {l : List (Option Ev.Fn)} (h : Good (k + 1) l) : Good k (none :: l)
 | some {k : Nat} {c : Ev.Fn} {l : List (Option Ev.Fn)} (h : FnOK Tryz.prog mds k c) (t : Good (k + 1) l) : Good k (some c :: l)
theorem Good.get {k : Nat} {l : List (Option Ev.Fn)} (h : Good k l) : ∀ (n : Nat) (c : Ev.Fn), (l[n]?).join = Option.some c -> FnOK Tryz.prog mds (k + n) c := by
 induction h with
 | nil k => intro n c h; simp at h
 | none h ih =>
  intro n c hc
  cases n with
  | zero => simp at hc
  | succ n => have := ih n c (by simpa using hc); rw [Nat.add_assoc, Nat.add_comm 1 n] at this; exact this
 | some h t ih =>
  intro n c hc
  cases n with
  | zero => simp at hc; subst hc; exact h
  | succ n => have := ih n c (by simpa using hc); rw [Nat.add_assoc, Nat.add_comm 1 n] at this; exact this
theorem good : Good 0 tab := by
 unfold tab
 refine .none ?_
 refine .none ?_
 refine .none ?_
 refine .some r3 ?_
 refine .none ?_
 refine .some r5 ?_
 refine .some r6 ?_
 refine .some r7 ?_
 refine .some r8 ?_
 refine .some r9 ?_
 refine .none ?_
 refine .none ?_
 refine .none ?_
 refine .none ?_
 refine .none ?_
 refine .none ?_
 refine .none ?_
 refine .none ?_
 refine .some r18 ?_
 refine .some r19 ?_
 refine .some r20 ?_
 refine .some r21 ?_
 refine .some r22 ?_
 refine .some r23 ?_
 refine .some r24 ?_
 refine .some r25 ?_
 refine .some r26 ?_
 refine .some r27 ?_
 refine .some r28 ?_
 refine .some r29 ?_
 refine .some r30 ?_
 refine .some r31 ?_
 refine .some r32 ?_
 refine .some r33 ?_
 refine .some r34 ?_
 refine .none ?_
 refine .none ?_
 refine .none ?_
 refine .none ?_
 refine .none ?_
 refine .none ?_
 refine .none ?_
 refine .none ?_
 refine .none ?_
 refine .none ?_
 refine .none ?_
 refine .none ?_
 refine .none ?_
 refine .none ?_
 refine .none ?_
 refine .none ?_
 refine .some r51 ?_
 refine .some r52 ?_
 refine .some r53 ?_
 refine .some r54 ?_
 refine .some r55 ?_
 refine .some r56 ?_
 refine .some r57 ?_
 refine .some r58 ?_
 refine .some r59 ?_
 refine .some r60 ?_
 refine .some r61 ?_
 refine .some r62 ?_
 refine .some r63 ?_
 refine .some r64 ?_
 refine .some r65 ?_
 refine .some r66 ?_
 refine .some r67 ?_
 refine .some r68 ?_
 refine .some r69 ?_
 refine .some r70 ?_
 refine .some r71 ?_
 refine .some r72 ?_
 refine .some r73 ?_
 refine .some r74 ?_
 refine .some r75 ?_
 refine .some r76 ?_
 refine .none ?_
 refine .some r78 ?_
 refine .some r79 ?_
 refine .some r80 ?_
 refine .some r81 ?_
 refine .some r82 ?_
 refine .some r83 ?_
 refine .some r84 ?_
 refine .none ?_
 refine .none ?_
 refine .none ?_
 refine .none ?_
 refine .none ?_
 refine .none ?_
 refine .some r91 ?_
 refine .some r92 ?_
 refine .some r93 ?_
 refine .some r94 ?_
 refine .some r95 ?_
 refine .some r96 ?_
 refine .some r97 ?_
 refine .none ?_
 refine .none ?_
 refine .none ?_
 refine .some r101 ?_
 refine .some r102 ?_
 refine .none ?_
 refine .some r104 ?_
 refine .some r105 ?_
 refine .some r106 ?_
 refine .some r107 ?_
 refine .some r108 ?_
 refine .some r109 ?_
 refine .some r110 ?_
 refine .some r111 ?_
 refine .some r112 ?_
 refine .some r113 ?_
 refine .some r114 ?_
 refine .some r115 ?_
 refine .some r116 ?_
 refine .none ?_
 refine .some r118 ?_
 refine .some r119 ?_
 refine .some r120 ?_
 refine .some r121 ?_
 refine .some r122 ?_
 refine .some r123 ?_
 refine .none ?_
 refine .none ?_
 refine .some r126 ?_
 refine .some r127 ?_
 refine .some r128 ?_
 refine .some r129 ?_
 refine .none ?_
 refine .none ?_
 refine .some r132 ?_
 refine .some r133 ?_
 refine .some r134 ?_
 refine .some r135 ?_
 refine .some r136 ?_
 refine .some r137 ?_
 refine .none ?_
 refine .none ?_
 refine .some r140 ?_
 refine .some r141 ?_
 refine .some r142 ?_
 refine .some r143 ?_
 refine .some r144 ?_
 refine .some r145 ?_
 refine .some r146 ?_
 refine .some r147 ?_
 refine .some r148 ?_
 refine .some r149 ?_
 refine .some r150 ?_
 refine .none ?_
 refine .some r152 ?_
 refine .none ?_
 refine .some r154 ?_
 refine .some r155 ?_
 refine .none ?_
 refine .some r157 ?_
 refine .some r158 ?_
 refine .some r159 ?_
 refine .none ?_
 refine .none ?_
 refine .some r162 ?_
 refine .some r163 ?_
 refine .none ?_
 refine .some r165 ?_
 refine .some r166 ?_
 refine .none ?_
 refine .some r168 ?_
 refine .none ?_
 refine .some r170 ?_
 refine .some r171 ?_
 refine .some r172 ?_
 refine .some r173 ?_
 refine .none ?_
 refine .none ?_
 refine .some r176 ?_
 refine .some r177 ?_
 refine .some r178 ?_
 refine .some r179 ?_
 refine .some r180 ?_
 refine .some r181 ?_
 refine .some r182 ?_
 refine .none ?_
 refine .some r184 ?_
 refine .some r185 ?_
 refine .some r186 ?_
 refine .some r187 ?_
 refine .none ?_
 refine .some r189 ?_
 refine .some r190 ?_
 refine .some r191 ?_
 refine .some r192 ?_
 refine .some r193 ?_
 refine .some r194 ?_
 refine .some r195 ?_
 refine .some r196 ?_
 refine .some r197 ?_
 refine .some r198 ?_
 refine .none ?_
 refine .some r200 ?_
 refine .none ?_
 refine .some r202 ?_
 refine .some r203 ?_
 refine .some r204 ?_
 refine .some r205 ?_
 refine .some r206 ?_
 refine .none ?_
 refine .some r208 ?_
 refine .some r209 ?_
 refine .some r210 ?_
 refine .some r211 ?_
 refine .some r212 ?_
 refine .some r213 ?_
 refine .some r214 ?_
 refine .none ?_
 refine .none ?_
 refine .some r217 ?_
 refine .some r218 ?_
 refine .none ?_
 refine .some r220 ?_
 refine .some r221 ?_
 refine .some r222 ?_
 refine .some r223 ?_
 refine .some r224 ?_
 refine .some r225 ?_
 refine .some r226 ?_
 refine .some r227 ?_
 refine .some r228 ?_
 refine .some r229 ?_
 refine .some r230 ?_
 refine .some r231 ?_
 refine .none ?_
 refine .some r233 ?_
 refine .some r234 ?_
 refine .none ?_
 refine .some r236 ?_
 refine .some r237 ?_
 refine .some r238 ?_
 refine .some r239 ?_
 refine .some r240 ?_
 refine .some r241 ?_
 refine .some r242 ?_
 refine .none ?_
 refine .some r244 ?_
 refine .some r245 ?_
 refine .some r246 ?_
 refine .none ?_
 refine .some r248 ?_
 refine .some r249 ?_
 refine .none ?_
 refine .none ?_
 refine .none ?_
 refine .some r253 ?_
 refine .some r254 ?_
 refine .some r255 ?_
 refine .none ?_
 refine .none ?_
 refine .some r258 ?_
 refine .some r259 ?_
 refine .some r260 ?_
 refine .some r261 ?_
 refine .some r262 ?_
 refine .some r263 ?_
 refine .some r264 ?_
 refine .some r265 ?_
 refine .none ?_
 refine .none ?_
 refine .none ?_
 refine .none ?_
 refine .some r270 ?_
 refine .some r271 ?_
 refine .some r272 ?_
 refine .some r273 ?_
 refine .some r274 ?_
 refine .some r275 ?_
 refine .some r276 ?_
 refine .some r277 ?_
 refine .some r278 ?_
 refine .some r279 ?_
 refine .some r280 ?_
 refine .some r281 ?_
 refine .none ?_
 refine .some r283 ?_
 refine .some r284 ?_
 refine .some r285 ?_
 refine .none ?_
 refine .some r287 ?_
 refine .some r288 ?_
 refine .some r289 ?_
 refine .none ?_
 refine .some r291 ?_
 refine .some r292 ?_
 refine .some r293 ?_
 refine .none ?_
 refine .none ?_
 refine .some r296 ?_
 refine .some r297 ?_
 refine .none ?_
 refine .none ?_
 refine .some r300 ?_
 refine .some r301 ?_
 refine .some r302 ?_
 refine .some r303 ?_
 refine .none ?_
 refine .none ?_
 refine .none ?_
 refine .none ?_
 refine .some r308 ?_
 refine .none ?_
 refine .none ?_
 refine .none ?_
 refine .some r312 ?_
 refine .some r313 ?_
 refine .some r314 ?_
 refine .some r315 ?_
 refine .some r316 ?_
 refine .some r317 ?_
 refine .some r318 ?_
 refine .some r319 ?_
 refine .none ?_
 refine .none ?_
 refine .none ?_
 refine .some r323 ?_
 refine .some r324 ?_
 refine .none ?_
 refine .none ?_
 refine .none ?_
 refine .none ?_
 refine .some r329 ?_
 refine .none ?_
 refine .none ?_
 refine .none ?_
 refine .none ?_
 refine .some r334 ?_
 refine .some r335 ?_
 refine .some r336 ?_
 refine .none ?_
 refine .none ?_
 refine .none ?_
 refine .some r340 ?_
 refine .none ?_
 refine .none ?_
 refine .none ?_
 refine .none ?_
 refine .none ?_
 refine .none ?_
 refine .none ?_
 refine .none ?_
 refine .none ?_
 refine .some r350 ?_
 refine .none ?_
 refine .some r352 ?_
 refine .none ?_
 refine .none ?_
 refine .none ?_
 refine .none ?_
 refine .none ?_
 refine .none ?_
 refine .none ?_
 refine .none ?_
 refine .none ?_
 refine .none ?_
 refine .some r363 ?_
 exact .nil _
theorem table : Table Tryz.prog F mds where
 mixed := by kernel_rfl
 fns := fun f fn h => by
  have := good.get f fn h
  rw [Nat.zero_add] at this
  exact this
end Go.Proofs.YtfnoiklmcmboeaaGreatDoor.tab
