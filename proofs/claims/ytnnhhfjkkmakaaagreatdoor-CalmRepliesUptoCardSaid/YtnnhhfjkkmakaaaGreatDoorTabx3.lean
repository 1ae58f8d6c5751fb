import Derived.Test.YtnnhhfjkkmakaaaGreatDoorTabx2
import Derived.KernelRfl
/- the functions of the seat, read off the program -/
namespace Go.Proofs.YtnnhhfjkkmakaaaGreatDoor.tab
open Go hiding Fn
open Ev

def d243 : DFn := ⟨[(.c .one), (.c .one), (.c .one)], [(.c .one)], .pure, [.tmp 6],
(s [mK 6 (.bo false)]
(s [mV 7 0, mV 8 1, o 9 (b .geq (t 7) (t 8)), mV 10 9, w 11 10 (.mov (t 0)), w 12 10 (.mov (t 2)), w 13 10 (b .leq (t 11) (t 12)), o 14 (.pick (t 10) (t 13) (.k (.bo false))), mV 6 14]
.ret))⟩
def c243 : Ev.Fn := d243.den
def p243 : Pol := P0 .pure
theorem r243 : FnOK Tryz.prog mds 243 c243 := .read (pol := p243) (d := d243) Tryz.func243 (by kernel_rfl) (by kernel_rfl) rfl rfl (by kernel_rfl)

def d244 : DFn := ⟨[(.c (.sl [.one])), (.c .one)], [(.c .one)], .pure, [.tmp 4],
(s [mK 4 (.it .i64 0)]
(.seq (s [mV 6 0, lN 7 false 6, mK 8 (.it .i64 0)]
(.blk 0 (.loop [0, 1, 7, 8] []
(s [o 9 (b .lss (t 8) (t 7))]
(.seq (.cond (t 9)
.skip
(.exit 0))
(.seq (.blk 1 (s [mV 10 8, mV 5 10]
(s [mV 11 1, mV 12 0, mV 13 5, o 14 (.ias 1 (t 12) (t 13)), lD 15 1 14, o 16 (b .eql (t 11) (t 15))]
(.cond (t 16)
(s [mV 17 5, mV 4 17]
.ret)
.skip))))
(r [o 18 (b .add (t 8) (k 1)), mV 8 18])))))))
(s [mK 4 (.it .i64 (-1))]
.ret)))⟩
def c244 : Ev.Fn := d244.den
def p244 : Pol := { P0 .pure with mask := [(2, [0, 1, 7, 8], [])] }
theorem r244 : FnOK Tryz.prog mds 244 c244 := .read (pol := p244) (d := d244) Tryz.func244 (by kernel_rfl) (by kernel_rfl) rfl rfl (by kernel_rfl)

def d245 : DFn := ⟨[(.c .one)], [(.c .one)], .rw, [.tmp 2],
(s [mK 2 (.bo false)]
(s [mV 3 0, nK 4 3, fA 5 1 4, lD 6 1 5, o 7 (b .eql (t 6) (k 1)), mV 8 7, x 9 8 (.mov (t 0)), x 10 8 (.nck (t 9)), x 11 8 (.fad 1 (t 10)), x 12 8 (.ld 1 false (t 11)), x 13 8 (b .eql (t 12) (k 2)), o 14 (.pick (t 8) (.k (.bo true)) (t 13)), mV 2 14]
.ret))⟩
def c245 : Ev.Fn := d245.den
def p245 : Pol := P0 .rw
theorem r245 : FnOK Tryz.prog mds 245 c245 := .read (pol := p245) (d := d245) Tryz.func245 (by kernel_rfl) (by kernel_rfl) rfl rfl (by kernel_rfl)

def d246 : DFn := ⟨[(.g [.one])], [(.c .one)], .pure, [.tmp 2],
(s [o 1 (.box (t 0)), mK 2 (.it .i64 0)]
(.seq (.reg false [
fA 3 0 1, lD 4 1 3, mV 2 4] [3])
.ret))⟩
def c246 : Ev.Fn := d246.den
def p246 : Pol := { P0 .pure with loc := [1], ord := [(0, [1, 0])], clr := [(1, [3])] }
theorem r246 : FnOK Tryz.prog mds 246 c246 := .read (pol := p246) (d := d246) Tryz.func246 (by kernel_rfl) (by kernel_rfl) rfl rfl (by kernel_rfl)

def d248 : DFn := ⟨[(.c .one), (.c .one)], [], .rw, [],
(.blk 0 (.loop [0, 1] []
(.seq (.seq (.reg true [
lD 2 1 0, nK 3 2, fA 4 2 3, lD 5 1 4, lD 6 1 1, lN 7 false 6, o 8 (b .lss (t 5) (t 7))] [])
(.cond (t 8)
.skip
(.exit 0)))
(.blk 1 (r [lD 9 1 0, cR 10 249 [t 9]])))))⟩
def c248 : Ev.Fn := d248.den
def p248 : Pol := { P0 .rw with mask := [(0, [0, 1], [])] }
theorem r248 : FnOK Tryz.prog mds 248 c248 := .read (pol := p248) (d := d248) Tryz.func248 (by kernel_rfl) (by kernel_rfl) rfl rfl (by kernel_rfl)

def d249 : DFn := ⟨[(.c .one)], [], .rw, [],
(.seq (.reg true [
mV 4 0, nK 5 4, fA 6 1 5, lD 7 1 6, mV 8 0, nK 9 8, fA 10 2 9, lD 11 1 10, o 12 (.ias 1 (t 7) (t 11)), lD 13 1 12, mV 2 13] [])
(.blk 0 (s [mV 19 2, o 20 (b .geq (t 19) (.k (.it .u8 128))), mV 18 20]
(.cond (t 18)
(r [mV 21 0, mV 22 0, mV 23 0, cR 24 300 [t 23, (k 7)], cR 25 299 [t 22, t 24], cR 26 298 [t 21, t 25, (k 1)]])
(s [mV 28 2, o 29 (b .geq (t 28) (.k (.it .u8 64))), mV 27 29]
(.cond (t 27)
(s [mV 30 0, cR 31 301 [t 30, (k 6)], o 3 (.alc [(.st []), (.st [])]), sO 2 3 31]
(.seq (.reg true [
mV 32 0, nK 33 32, fA 34 0 33, lD 35 1 34, nK 36 35, fA 37 0 36, lD 38 1 37, lQ 39 2 3, cR 40 146 [t 38, t 39]] [])
(r [mV 41 0, lQ 42 2 3, cR 43 298 [t 41, t 42, (k 1)]])))
(s [mV 45 2, o 46 (b .geq (t 45) (.k (.it .u8 32))), mV 44 46]
(.cond (t 44)
(r [mV 47 0, cR 48 302 [t 47]])
(s [mV 50 2, o 51 (b .geq (t 50) (.k (.it .u8 16))), mV 49 51]
(.cond (t 49)
(r [mV 52 0, mV 53 0, cR 54 301 [t 53, (k 4)], cR 55 298 [t 52, t 54, (k 3)]])
(r [mV 14 0, mV 15 0, cR 16 301 [t 15, (k 4)], cR 17 298 [t 14, t 16, (k 2)]])))))))))))⟩
def c249 : Ev.Fn := d249.den
def p249 : Pol := { P0 .rw with loc := [3], ord := [(5, [0, 2, 1, 3])] }
theorem r249 : FnOK Tryz.prog mds 249 c249 := .read (pol := p249) (d := d249) Tryz.func249 (by kernel_rfl) (by kernel_rfl) rfl rfl (by kernel_rfl)

def d250 : DFn := ⟨[(.c .one), (.c .one)], [(.c .one)], .rw, [.tmp 4],
(s [mK 4 .np]
(.seq (s [mV 5 0, nK 6 5, fA 7 0 6, lD 8 1 7, o 9 (.un .not (t 8)), mV 10 9, x 11 10 (.mov (t 1)), x 12 10 (b .rem (t 11) (k 2)), x 13 10 (b .eql (t 12) (k 0)), o 14 (.pick (t 10) (.k (.bo true)) (t 13))]
(.cond (t 14)
(s [mV 15 0, cR 16 60 [t 15, (k 1)]]
(s [mK 4 .np]
.ret))
.skip))
(s [mV 17 0, mV 18 1, nK 19 17, fA 20 16 19, sO 1 20 18]
(.seq (.seq (.reg true [
mV 21 0, nK 22 21, fA 23 15 22, lD 24 1 23, lN 25 false 24, mV 26 0, nK 27 26, fA 28 1 27, fA 29 0 28, lD 30 1 29, o 31 (b .geq (t 25) (t 30))] [])
(.cond (t 31)
(s [mV 32 0, mV 33 1, cR 34 160 [t 32, t 33, (k 7)]]
(s [mK 4 .np]
.ret))
.skip))
(s [mV 35 0, mV 36 1, cR 37 56 [t 35, t 36], mV 4 37]
.ret)))))⟩
def c250 : Ev.Fn := d250.den
def p250 : Pol := P0 .rw
theorem r250 : FnOK Tryz.prog mds 250 c250 := .read (pol := p250) (d := d250) Tryz.func250 (by kernel_rfl) (by kernel_rfl) rfl rfl (by kernel_rfl)

def d251 : DFn := ⟨[(.c (.sl [.one, .one]))], [(.c .one)], .pure, [.tmp 2],
(s [mK 2 (.bo false)]
(s [mV 3 0, lN 4 false 3, o 5 (b .gtr (t 4) (k 0)), mV 6 5, w 7 6 (.mov (t 0)), w 8 6 (.ias 2 (t 7) (k 0)), w 9 6 (.fad 0 (t 8)), w 10 6 (.ld 1 false (t 9)), w 11 6 (b .eql (t 10) (.k (.st [58, 115, 116, 97, 116, 117, 115]))), o 12 (.pick (t 6) (t 11) (.k (.bo false))), mV 13 12, w 14 13 (.mov (t 0)), w 15 13 (.ias 2 (t 14) (k 0)), w 16 13 (.fad 1 (t 15)), w 17 13 (.ld 1 false (t 16)), w 18 13 (.len true (t 17)), w 19 13 (b .eql (t 18) (k 3)), o 20 (.pick (t 13) (t 19) (.k (.bo false))), mV 21 20, w 22 21 (.mov (t 0)), w 23 21 (.ias 2 (t 22) (k 0)), w 24 21 (.fad 1 (t 23)), w 25 21 (.ld 1 false (t 24)), w 26 21 (.ixs (t 25) (k 0)), w 27 21 (b .eql (t 26) (.k (.it .u8 49))), o 28 (.pick (t 21) (t 27) (.k (.bo false))), mV 2 28]
.ret))⟩
def c251 : Ev.Fn := d251.den
def p251 : Pol := P0 .pure
theorem r251 : FnOK Tryz.prog mds 251 c251 := .read (pol := p251) (d := d251) Tryz.func251 (by kernel_rfl) (by kernel_rfl) rfl rfl (by kernel_rfl)

def d261 : DFn := ⟨[(.c .one), (.c .one)], [(.c .one)], .pure, [.tmp 4],
(s [mK 4 (.it .i64 0)]
(.seq (s [mV 7 1, lN 8 true 7, o 9 (b .eql (t 8) (k 0))]
(.cond (t 9)
(s [mV 10 0, cP 11 308 [t 10], o 12 (b .add (t 11) (k 1)), mV 4 12]
.ret)
.skip))
(.seq (s [mV 13 1, lN 14 true 13, o 15 (b .eql (t 14) (k 1))]
(.cond (t 15)
(s [mV 16 0, mV 17 1, o 18 (.ixs (t 17) (k 0)), o 19 (.ctb (t 16) (t 18)), mV 4 19]
.ret)
.skip))
(s [mK 5 (.it .i64 0)]
(.blk 0 (.loop [0, 1, 5] []
(.blk 1 (s [mV 20 0, mV 21 1, cP 22 262 [t 20, t 21], mV 6 22]
(.seq (s [mV 23 6, o 24 (b .eql (t 23) (.k (.it .i64 (-1))))]
(.cond (t 24)
(s [mV 25 5, mV 4 25]
.ret)
.skip))
(s [mV 26 5, o 27 (b .add (t 26) (k 1)), mV 5 27]
(r [mV 28 0, mV 29 6, mV 30 1, lN 31 true 30, o 32 (b .add (t 29) (t 31)), o 33 (.slc true 0 (t 28) (some (t 32)) none), mV 0 33])))))))))))⟩
def c261 : Ev.Fn := d261.den
def p261 : Pol := { P0 .pure with mask := [(6, [0, 1, 5], [])] }
theorem r261 : FnOK Tryz.prog mds 261 c261 := .read (pol := p261) (d := d261) Tryz.func261 (by kernel_rfl) (by kernel_rfl) rfl rfl (by kernel_rfl)

def d262 : DFn := ⟨[(.c .one), (.c .one)], [(.c .one)], .pure, [.tmp 4],
(s [mK 4 (.it .i64 0)]
(s [mV 5 0, mV 6 1, cP 7 263 [t 5, t 6], mV 4 7]
.ret))⟩
def c262 : Ev.Fn := d262.den
def p262 : Pol := P0 .pure
theorem r262 : FnOK Tryz.prog mds 262 c262 := .read (pol := p262) (d := d262) Tryz.func262 (by kernel_rfl) (by kernel_rfl) rfl rfl (by kernel_rfl)

def d263 : DFn := ⟨[(.c .one), (.c .one)], [(.c .one)], .pure, [.tmp 4],
(s [mK 4 (.it .i64 0)]
(s [mV 14 1, lN 15 true 14, mV 5 15]
(.seq (.blk 0 (s [mV 17 5, o 18 (b .eql (t 17) (k 0)), mV 19 18, x 20 19 (.mov (t 1)), x 21 19 (.mov (t 0)), x 22 19 (b .eql (t 20) (t 21)), o 23 (.pick (t 19) (.k (.bo true)) (t 22)), mV 16 23]
(.cond (t 16)
(s [mK 4 (.it .i64 0)]
.ret)
(s [mV 25 5, o 26 (b .eql (t 25) (k 1)), mV 24 26]
(.cond (t 24)
(s [mV 27 0, mV 28 1, o 29 (.ixs (t 28) (k 0)), cP 30 311 [t 27, t 29], mV 4 30]
.ret)
(s [mV 32 5, mV 33 0, lN 34 true 33, o 35 (b .geq (t 32) (t 34)), mV 31 35]
(.cond (t 31)
(s [mK 4 (.it .i64 (-1))]
.ret)
(s [mV 37 5, o 38 (.ld 1 false (.k .un)), o 39 (b .leq (t 37) (t 38)), mV 40 39, w 41 40 (.mov (t 0)), w 42 40 (.len true (t 41)), w 43 40 (b .leq (t 42) (k 64)), o 44 (.pick (t 40) (t 43) (.k (.bo false))), mV 36 44]
(.cond (t 36)
(s [mV 45 0, mV 46 1, cP 47 312 [t 45, t 46], mV 4 47]
.ret)
.skip)))))))))
(s [mV 48 1, o 49 (.ixs (t 48) (k 0)), mV 6 49]
(s [mV 50 1, o 51 (.ixs (t 50) (k 1)), mV 7 51]
(s [mK 8 (.it .i64 0)]
(s [mV 52 0, lN 53 true 52, mV 54 5, o 55 (b .sub (t 53) (t 54)), o 56 (b .add (t 55) (k 1)), mV 9 56]
(s [mK 10 (.it .i64 0)]
(.seq (.blk 1 (.loop [0, 1, 5, 6, 7, 8, 9, 10] []
(.seq (s [mV 57 8, mV 58 9, o 59 (b .lss (t 57) (t 58))]
(.cond (t 59)
.skip
(.exit 1)))
(.blk 2 (.seq (s [mV 60 0, mV 61 8, o 62 (.ixs (t 60) (t 61)), mV 63 6, o 64 (b .neq (t 62) (t 63))]
(.cond (t 64)
(s [mV 65 0, mV 66 8, o 67 (b .add (t 66) (k 1)), mV 68 9, o 69 (.slc true 0 (t 65) (some (t 67)) (some (t 68))), mV 70 6, cP 71 311 [t 69, t 70], mV 11 71]
(.seq (s [mV 72 11, o 73 (b .lss (t 72) (k 0))]
(.cond (t 73)
(s [mK 4 (.it .i64 (-1))]
.ret)
.skip))
(r [mV 74 8, mV 75 11, o 76 (b .add (t 75) (k 1)), o 77 (b .add (t 74) (t 76)), mV 8 77])))
.skip))
(.seq (s [mV 78 0, mV 79 8, o 80 (b .add (t 79) (k 1)), o 81 (.ixs (t 78) (t 80)), mV 82 7, o 83 (b .eql (t 81) (t 82)), mV 84 83, w 85 84 (.mov (t 0)), w 86 84 (.mov (t 8)), w 87 84 (.mov (t 8)), w 88 84 (.mov (t 5)), w 89 84 (b .add (t 87) (t 88)), w 90 84 (.slc true 0 (t 85) (some (t 86)) (some (t 89))), w 91 84 (.mov (t 1)), w 92 84 (b .eql (t 90) (t 91)), o 93 (.pick (t 84) (t 92) (.k (.bo false)))]
(.cond (t 93)
(s [mV 94 8, mV 4 94]
.ret)
.skip))
(s [mV 95 8, o 96 (b .add (t 95) (k 1)), mV 8 96]
(s [mV 97 10, o 98 (b .add (t 97) (k 1)), mV 10 98]
(s [mV 99 5, o 100 (.ld 1 false (.k .un)), o 101 (b .leq (t 99) (t 100)), mV 102 101, w 103 102 (.mov (t 10)), w 104 102 (.mov (t 8)), w 105 102 (.call false .pure 313 [t 104]), w 106 102 (b .gtr (t 103) (t 105)), o 107 (.pick (t 102) (t 106) (.k (.bo false)))]
(.cond (t 107)
(s [mV 108 0, mV 109 8, o 110 (.slc true 0 (t 108) (some (t 109)) none), mV 111 1, cP 112 312 [t 110, t 111], mV 12 112]
(.seq (s [mV 113 12, o 114 (b .geq (t 113) (k 0))]
(.cond (t 114)
(s [mV 115 12, mV 116 8, o 117 (b .add (t 115) (t 116)), mV 4 117]
.ret)
.skip))
(s [mK 4 (.it .i64 (-1))]
.ret)))
(s [mV 118 5, o 119 (.ld 1 false (.k .un)), o 120 (b .gtr (t 118) (t 119)), mV 121 120, w 122 121 (.mov (t 10)), w 123 121 (.mov (t 8)), w 124 121 (b .shr (t 123) (.k (.it .u64 4))), w 125 121 (b .add (k 4) (t 124)), w 126 121 (b .geq (t 122) (t 125)), o 127 (.pick (t 121) (t 126) (.k (.bo false))), mV 128 127, w 129 128 (.mov (t 8)), w 130 128 (.mov (t 9)), w 131 128 (b .lss (t 129) (t 130)), o 132 (.pick (t 128) (t 131) (.k (.bo false)))]
(.cond (t 132)
(s [mV 133 0, mV 134 8, o 135 (.slc true 0 (t 133) (some (t 134)) none), mV 136 1, cP 137 314 [t 135, t 136], mV 13 137]
(.seq (s [mV 138 13, o 139 (b .lss (t 138) (k 0))]
(.cond (t 139)
(s [mK 4 (.it .i64 (-1))]
.ret)
.skip))
(s [mV 140 8, mV 141 13, o 142 (b .add (t 140) (t 141)), mV 4 142]
.ret)))
.skip))))))))))))
(s [mK 4 (.it .i64 (-1))]
.ret))))))))))⟩
def c263 : Ev.Fn := d263.den
def p263 : Pol := { P0 .pure with mask := [(15, [0, 1, 5, 6, 7, 8, 9, 10], [])] }
theorem r263 : FnOK Tryz.prog mds 263 c263 := .read (pol := p263) (d := d263) Tryz.func263 (by kernel_rfl) (by kernel_rfl) rfl rfl (by kernel_rfl)

def d264 : DFn := ⟨[(.g [.one, .one])], [(.c .one)], .pure, [.tmp 2],
(s [o 1 (.box (t 0)), mK 2 (.bo false)]
(.seq (.reg false [
fA 3 0 1, lD 4 1 3, lN 5 true 4, o 6 (b .gtr (t 5) (k 0)), mV 7 6, w 8 7 (.fad 0 (t 1)), w 9 7 (.ld 1 false (t 8)), w 10 7 (.ixs (t 9) (k 0)), w 11 7 (b .eql (t 10) (.k (.it .u8 58))), o 12 (.pick (t 7) (t 11) (.k (.bo false))), mV 2 12] [3, 8])
.ret))⟩
def c264 : Ev.Fn := d264.den
def p264 : Pol := { P0 .pure with loc := [1], ord := [(0, [1, 0])], clr := [(1, [3, 8])] }
theorem r264 : FnOK Tryz.prog mds 264 c264 := .read (pol := p264) (d := d264) Tryz.func264 (by kernel_rfl) (by kernel_rfl) rfl rfl (by kernel_rfl)

def d265 : DFn := ⟨[(.c (.sl [.one, .one])), (.c .one)], [(.c .one)], .rw, [.tmp 4],
(.seq (.reg false [
mK 4 (.bo false)] [])
(s [o 8 (.mmk), mV 5 8]
(.seq (s [mV 9 0, lN 10 false 9, mK 11 (.it .i64 0)]
(.blk 0 (.loop [1, 5, 9, 10, 11] [7]
(s [o 12 (b .lss (t 11) (t 10))]
(.seq (.cond (t 12)
.skip
(.exit 0))
(.seq (.blk 1 (s [o 13 (.ias 2 (t 9) (t 11)), lQ 14 2 13, o 7 (.alc [(.st []), (.st [])]), sO 2 7 14]
(.seq (.reg false [
mV 15 5, fA 16 0 7, lD 17 1 16, o 18 (.mlk false (.it .i64 0) (t 15) (t 17)), o 19 (b .add (t 18) (k 1)), n (.mup (t 15) (t 17) (t 19))] [16])
(.seq (.seq (.reg false [
mV 20 5, fA 21 0 7, lD 22 1 21, o 23 (.mlk false (.it .i64 0) (t 20) (t 22)), o 24 (b .gtr (t 23) (k 1)), mV 25 24, x 26 25 (.fad 1 (t 7)), x 27 25 (.ld 1 false (t 26)), x 28 25 (.call false .pure 315 [t 27]), x 29 25 (.un .not (t 28)), o 30 (.pick (t 25) (.k (.bo true)) (t 29))] [21, 26])
(.cond (t 30)
(.seq (.reg false [
mK 4 (.bo false)] [])
.ret)
.skip))
(.seq (.reg false [
fA 31 0 7, lD 32 1 31] [31])
(.blk 2 (.seq (.reg false [
o 34 (b .eql (t 32) (.k (.st [58, 109, 101, 116, 104, 111, 100]))), mV 33 34] [])
(.cond (t 33)
(.reg false [
mV 35 1, fA 36 1 7, lD 37 1 36, nK 38 35, fA 39 0 38, sO 1 39 37] [36])
(s [o 41 (b .eql (t 32) (.k (.st [58, 115, 99, 104, 101, 109, 101]))), mV 40 41]
(.cond (t 40)
(.reg false [
mV 42 1, fA 43 1 7, lD 44 1 43, nK 45 42, fA 46 1 45, sO 1 46 44] [43])
(s [o 48 (b .eql (t 32) (.k (.st [58, 97, 117, 116, 104, 111, 114, 105, 116, 121]))), mV 47 48]
(.cond (t 47)
(.reg false [
mV 49 1, fA 50 1 7, lD 51 1 50, nK 52 49, fA 53 2 52, sO 1 53 51] [50])
(s [o 55 (b .eql (t 32) (.k (.st [58, 112, 97, 116, 104]))), mV 54 55]
(.cond (t 54)
(.reg false [
mV 56 1, fA 57 1 7, lD 58 1 57, nK 59 56, fA 60 3 59, sO 1 60 58] [57])
(s [mK 4 (.bo false)]
.ret)))))))))))))))
(.reg false [
o 61 (b .add (t 11) (k 1)), mV 11 61] [])))))))
(s [mK 4 (.bo true)]
.ret))))⟩
def c265 : Ev.Fn := d265.den
def p265 : Pol := { P0 .rw with loc := [7], clr := [(5, [16]), (6, [21, 26]), (8, [31]), (11, [36]), (13, [43]), (15, [50]), (17, [57])], mask := [(3, [1, 5, 9, 10, 11], [7])] }
theorem r265 : FnOK Tryz.prog mds 265 c265 := .read (pol := p265) (d := d265) Tryz.func265 (by kernel_rfl) (by kernel_rfl) rfl rfl (by kernel_rfl)

def d266 : DFn := ⟨[(.g [.one, .one, .one, .one, (.sl [.one, .one]), .one])], [(.c .one)], .pure, [.tmp 2],
(s [o 1 (.box (t 0)), mK 2 (.bo false)]
(.seq (.seq (.reg false [
fA 3 0 1, lD 4 1 3, cP 5 316 [t 4], o 6 (.un .not (t 5)), mV 7 6, x 8 7 (.fad 0 (t 1)), x 9 7 (.ld 1 false (t 8)), x 10 7 (b .eql (t 9) (.k (.st [67, 79, 78, 78, 69, 67, 84]))), o 11 (.pick (t 7) (.k (.bo true)) (t 10)), mV 12 11, x 13 12 (.fad 1 (t 1)), x 14 12 (.ld 1 false (t 13)), x 15 12 (b .neq (t 14) (.k (.st [104, 116, 116, 112]))), x 16 12 (.mov (t 15)), w 17 16 (.fad 1 (t 1)), w 18 16 (.ld 1 false (t 17)), w 19 16 (b .neq (t 18) (.k (.st [104, 116, 116, 112, 115]))), x 20 12 (.pick (t 16) (t 19) (.k (.bo false))), o 21 (.pick (t 12) (.k (.bo true)) (t 20)), mV 22 21, x 23 22 (.fad 2 (t 1)), x 24 22 (.ld 1 false (t 23)), x 25 22 (b .eql (t 24) (.k (.st []))), o 26 (.pick (t 22) (.k (.bo true)) (t 25)), mV 27 26, x 28 27 (.fad 3 (t 1)), x 29 27 (.ld 1 false (t 28)), x 30 27 (b .eql (t 29) (.k (.st []))), o 31 (.pick (t 27) (.k (.bo true)) (t 30))] [3, 8, 13, 17, 23, 28])
(.cond (t 31)
(.seq (.reg false [
mK 2 (.bo false)] [])
.ret)
.skip))
(.seq (.reg false [
fA 32 3 1, lD 33 1 32, o 34 (.ixs (t 33) (k 0)), o 35 (b .eql (t 34) (.k (.it .u8 47))), mV 36 35, x 37 36 (.fad 3 (t 1)), x 38 36 (.ld 1 false (t 37)), x 39 36 (b .eql (t 38) (.k (.st [42]))), x 40 36 (.mov (t 39)), w 41 40 (.fad 0 (t 1)), w 42 40 (.ld 1 false (t 41)), w 43 40 (b .eql (t 42) (.k (.st [79, 80, 84, 73, 79, 78, 83]))), x 44 36 (.pick (t 40) (t 43) (.k (.bo false))), o 45 (.pick (t 36) (.k (.bo true)) (t 44)), mV 2 45] [32, 37, 41])
.ret)))⟩
def c266 : Ev.Fn := d266.den
def p266 : Pol := { P0 .pure with loc := [1], ord := [(0, [1, 0])], clr := [(1, [3, 8, 13, 17, 23, 28]), (3, [32, 37, 41])] }
theorem r266 : FnOK Tryz.prog mds 266 c266 := .read (pol := p266) (d := d266) Tryz.func266 (by kernel_rfl) (by kernel_rfl) rfl rfl (by kernel_rfl)

def d267 : DFn := ⟨[(.c (.sl [.one, .one]))], [(.c (.sl [.one, .one])), (.c .one), (.c .one)], .pure, [.tmp 2, .tmp 3, .tmp 4],
(.seq (.reg false [
mK 2 .ns, mK 3 (.it .i64 0), mK 4 (.bo false)] [])
(.seq (s [mV 7 0, o 8 (.call false .rw 317 [t 7, (.k (.fn 264 [] []))]), mV 9 8, x 10 9 (.mov (t 0)), x 11 9 (.call false .pure 318 [t 10]), x 12 9 (.un .not (t 11)), o 13 (.pick (t 9) (.k (.bo true)) (t 12))]
(.cond (t 13)
(s [mK 2 .ns, mK 3 (.it .i64 0), mK 4 (.bo false)]
.ret)
.skip))
(s [mV 15 0, cP 16 319 [t 15], mV 14 16, eX 17 14 0, eX 18 14 1, mV 5 17, mV 6 18]
(s [mV 19 0, o 20 (.app 2 32 (.k .ns) (t 19)), mV 21 5, mV 22 6, mV 2 20, mV 3 21, mV 4 22]
.ret))))⟩
def c267 : Ev.Fn := d267.den
def p267 : Pol := { P0 .pure with ord := [(4, [0, 2, 3, 1, 4, 5, 6])], fns := [264] }
theorem r267 : FnOK Tryz.prog mds 267 c267 := .read (pol := p267) (d := d267) Tryz.func267 (by kernel_rfl) (by kernel_rfl) rfl rfl (by kernel_rfl)

def d268 : DFn := ⟨[(.c .one)], [(.c .one)], .rw, [.tmp 2],
(s [mK 2 (.bo false)]
(s [mV 3 0, nK 4 3, fA 5 2 4, fA 6 0 5, lD 7 1 6, o 8 (b .eql (t 7) (.k (.st [71, 69, 84]))), mV 9 8, w 10 9 (.mov (t 0)), w 11 9 (.nck (t 10)), w 12 9 (.fad 10 (t 11)), w 13 9 (.ld 1 false (t 12)), o 14 (.pick (t 9) (t 13) (.k (.bo false))), mV 2 14]
.ret))⟩
def c268 : Ev.Fn := d268.den
def p268 : Pol := P0 .rw
theorem r268 : FnOK Tryz.prog mds 268 c268 := .read (pol := p268) (d := d268) Tryz.func268 (by kernel_rfl) (by kernel_rfl) rfl rfl (by kernel_rfl)

def d269 : DFn := ⟨[(.c .one), (.g [.one, .one, .one, .one, (.sl [.one, .one]), .one])], [(.g [.one, .one, .one, .one, (.sl [.one, .one]), .one, .one, (.sl [.one, .one]), .one, .one, .one, .one]), (.c .one)], .rw, [.cell 4 12 true, .tmp 5],
(s [o 3 (.box (t 1)), o 4 (.alc [(.st []), (.st []), (.st []), (.st []), .ns, (.it .i64 0), (.it .i64 0), .ns, (.it .i64 0), (.st []), (.it .i64 0), (.it .i64 0)]), mK 5 (.bo false)]
(s [mV 8 0, lQ 9 6 3, o 10 (.call false .ro 320 [t 8, t 9]), mV 6 10]
(.seq (s [mV 11 6, o 12 (b .lss (t 11) (k 0))]
(.cond (t 12)
(s [o 13 (.bld [(.st []), (.st []), (.st []), (.st []), .ns, (.it .i64 0), (.it .i64 0), .ns, (.it .i64 0), (.st []), (.it .i64 0), (.it .i64 0)] []), sO 12 4 13, mK 5 (.bo false)]
.ret)
.skip))
(s [mV 14 0, mV 15 6, cR 16 278 [t 14, t 15], o 7 (.alc [(.st []), (.st []), (.st []), (.st []), .ns, (.it .i64 0), (.it .i64 0), .ns, (.it .i64 0), (.st []), (.it .i64 0), (.it .i64 0)]), sO 12 7 16]
(s [mV 17 0, lQ 18 12 7, cR 19 280 [t 17, t 18]]
(s [lQ 20 12 7, cP 21 281 [t 20], sO 12 4 21, mK 5 (.bo true)]
.ret))))))⟩
def c269 : Ev.Fn := d269.den
def p269 : Pol := { P0 .rw with loc := [3, 4, 7], ord := [(0, [2, 0, 1]), (4, [0, 1, 3, 2, 4])] }
theorem r269 : FnOK Tryz.prog mds 269 c269 := .read (pol := p269) (d := d269) Tryz.func269 (by kernel_rfl) (by kernel_rfl) rfl rfl (by kernel_rfl)

def d270 : DFn := ⟨[(.g [.one, .one, .one, .one, (.sl [.one, .one]), .one])], [(.c .one)], .pure, [.tmp 2],
(s [o 1 (.box (t 0)), mK 2 (.it .i64 0)]
(.seq (.seq (.reg false [
fA 3 4 1, lD 4 1 3, cP 5 284 [t 4], o 6 (.fld 5 1 false (t 5))] [3])
(.cond (t 6)
(.seq (.reg false [
mK 2 (.it .i64 4)] [])
.ret)
.skip))
(s [mK 2 (.it .i64 3)]
.ret)))⟩
def c270 : Ev.Fn := d270.den
def p270 : Pol := { P0 .pure with loc := [1], ord := [(0, [1, 0])], clr := [(1, [3])] }
theorem r270 : FnOK Tryz.prog mds 270 c270 := .read (pol := p270) (d := d270) Tryz.func270 (by kernel_rfl) (by kernel_rfl) rfl rfl (by kernel_rfl)

def d271 : DFn := ⟨[(.c .one), (.c .one)], [(.c .one)], .rw, [.tmp 4],
(s [mK 4 .np]
(.seq (s [mV 7 1, nK 8 7, fA 9 2 8, lQ 10 6 9, cP 11 321 [t 10], o 12 (.un .not (t 11))]
(.cond (t 12)
(s [mK 4 .np]
.ret)
.skip))
(.seq (s [mV 13 0, nK 14 13, fA 15 25 14, lD 16 1 15, lN 17 false 16, mK 18 (.it .i64 0)]
(.blk 0 (.loop [1, 16, 17, 18] []
(s [o 19 (b .lss (t 18) (t 17))]
(.seq (.cond (t 19)
.skip
(.exit 0))
(.seq (.blk 1 (s [o 20 (.ias 1 (t 16) (t 18)), lD 21 1 20, mV 6 21]
(.seq (s [mV 22 6, mV 23 1, o 24 (.hnd (.eqp .eql) [t 22, t 23])]
(.cond (t 24)
(s [mK 4 .np]
.ret)
.skip))
(.seq (.reg true [
mV 25 6, cR 26 268 [t 25], mV 27 26, w 28 27 (.mov (t 6)), w 29 27 (.nck (t 28)), w 30 27 (.fad 2 (t 29)), w 31 27 (.ld 6 true (t 30)), w 32 27 (.call false .pure 321 [t 31]), o 33 (.pick (t 27) (t 32) (.k (.bo false))), mV 34 33, w 35 34 (.mov (t 6)), w 36 34 (.nck (t 35)), w 37 34 (.fad 2 (t 36)), w 38 34 (.ld 6 true (t 37)), w 40 34 (.mov (t 1)), w 41 34 (.nck (t 40)), w 42 34 (.fad 2 (t 41)), w 43 34 (.ld 6 true (t 42)), w 39 34 (.call false .pure 227 [t 38]), w 44 34 (.call false .pure 227 [t 43]), w 45 34 (b .eql (t 39) (t 44)), o 46 (.pick (t 34) (t 45) (.k (.bo false))), mV 47 46, w 48 47 (.mov (t 6)), w 49 47 (.nck (t 48)), w 50 47 (.fad 12 (t 49)), w 51 47 (.ld 1 false (t 50)), w 52 47 (.bin .ptr .eql (t 51) (.k .np)), o 53 (.pick (t 47) (t 52) (.k (.bo false))), mV 54 53, w 55 54 (.mov (t 6)), w 56 54 (.nck (t 55)), w 57 54 (.fad 13 (t 56)), w 58 54 (.ld 1 false (t 57)), w 59 54 (.bin .ptr .eql (t 58) (.k .np)), o 60 (.pick (t 54) (t 59) (.k (.bo false))), mV 61 60, w 62 61 (.mov (t 6)), w 63 61 (.nck (t 62)), w 64 61 (.fad 25 (t 63)), w 65 61 (.ld 1 false (t 64)), w 66 61 (.hnd (.eqs .eql) [t 65, (.k .ns)]), o 67 (.pick (t 61) (t 66) (.k (.bo false)))] [])
(.cond (t 67)
(s [mV 68 6, mV 4 68]
.ret)
.skip)))))
(r [o 69 (b .add (t 18) (k 1)), mV 18 69])))))))
(s [mK 4 .np]
.ret))))⟩
def c271 : Ev.Fn := d271.den
def p271 : Pol := { P0 .rw with ord := [(8, [0, 1, 2, 3, 4, 5, 6, 7, 8, 9, 10, 11, 12, 13, 15, 16, 17, 18, 14, 19, 20, 21, 22, 23, 24, 25, 26, 27, 28, 29, 30, 31, 32, 33, 34, 35, 36, 37, 38, 39, 40, 41, 42])], mask := [(4, [1, 16, 17, 18], [])], hnd := [24, 66] }
theorem r271 : FnOK Tryz.prog mds 271 c271 := .read (pol := p271) (d := d271) Tryz.func271 (by kernel_rfl) (by kernel_rfl) rfl rfl (by kernel_rfl)

def d274 : DFn := ⟨[(.c .one)], [(.c .one)], .pure, [.tmp 2],
(s [mK 2 (.it .i64 0)]
(.seq (s [mV 5 0, lN 6 true 5, o 7 (b .lss (t 6) (k 1)), mV 8 7, x 9 8 (.mov (t 0)), x 10 8 (.len true (t 9)), x 11 8 (b .gtr (t 10) (k 9)), o 12 (.pick (t 8) (.k (.bo true)) (t 11))]
(.cond (t 12)
(s [mK 2 (.it .i64 (-1))]
.ret)
.skip))
(s [mK 3 (.it .i64 0)]
(.seq (s [mV 13 0, lN 14 true 13, mK 15 (.it .i64 0)]
(.blk 0 (.loop [0, 3, 14, 15] []
(s [o 16 (b .lss (t 15) (t 14))]
(.seq (.cond (t 16)
.skip
(.exit 0))
(.seq (.blk 1 (s [mV 17 15, mV 4 17]
(.seq (s [mV 18 0, mV 19 4, o 20 (.ixs (t 18) (t 19)), o 21 (b .lss (t 20) (.k (.it .u8 48))), mV 22 21, x 23 22 (.mov (t 0)), x 24 22 (.mov (t 4)), x 25 22 (.ixs (t 23) (t 24)), x 26 22 (b .gtr (t 25) (.k (.it .u8 57))), o 27 (.pick (t 22) (.k (.bo true)) (t 26))]
(.cond (t 27)
(s [mK 2 (.it .i64 (-1))]
.ret)
.skip))
(r [mV 28 3, o 29 (b .mul (k 10) (t 28)), mV 30 0, mV 31 4, o 32 (.ixs (t 30) (t 31)), o 33 (b .sub (t 32) (.k (.it .u8 48))), cV 34 .i64 33, o 35 (b .add (t 29) (t 34)), mV 3 35]))))
(r [o 36 (b .add (t 15) (k 1)), mV 15 36])))))))
(s [mV 37 3, mV 2 37]
.ret)))))⟩
def c274 : Ev.Fn := d274.den
def p274 : Pol := { P0 .pure with mask := [(5, [0, 3, 14, 15], [])] }
theorem r274 : FnOK Tryz.prog mds 274 c274 := .read (pol := p274) (d := d274) Tryz.func274 (by kernel_rfl) (by kernel_rfl) rfl rfl (by kernel_rfl)

def d279 : DFn := ⟨[(.g [.one, .one, .one, .one, (.sl [.one, .one]), .one, .one, (.sl [.one, .one]), .one, .one, .one, .one])], [(.c .one)], .pure, [.tmp 2],
(s [o 1 (.box (t 0)), mK 2 (.it .i64 0)]
(.seq (.reg true [
fA 3 0 1, lQ 4 6 3, fA 8 0 1, fA 9 4 8, lD 10 1 9, fA 13 6 1, fA 14 1 13, lD 15 1 14, fA 18 9 1, lD 19 1 18, lN 20 true 19, cP 5 227 [t 4], lN 6 true 5, o 7 (b .add (k 100) (t 6)), cP 11 326 [t 10], o 12 (b .add (t 7) (t 11)), cP 16 326 [t 15], o 17 (b .add (t 12) (t 16)), o 21 (b .add (t 17) (t 20)), mV 2 21] [3, 8, 9, 13, 14, 18])
.ret))⟩
def c279 : Ev.Fn := d279.den
def p279 : Pol := { P0 .pure with loc := [1], ord := [(0, [1, 0]), (1, [0, 1, 5, 6, 7, 10, 11, 12, 15, 16, 17, 2, 3, 4, 8, 9, 13, 14, 18, 19])], clr := [(1, [3, 8, 9, 13, 14, 18])] }
theorem r279 : FnOK Tryz.prog mds 279 c279 := .read (pol := p279) (d := d279) Tryz.func279 (by kernel_rfl) (by kernel_rfl) rfl rfl (by kernel_rfl)

def d280 : DFn := ⟨[(.c .one), (.g [.one, .one, .one, .one, (.sl [.one, .one]), .one, .one, (.sl [.one, .one]), .one, .one, .one, .one])], [], .rw, [],
(s [o 3 (.box (t 1))]
(.seq (.reg true [
mV 4 0, mV 5 0, nK 6 5, fA 7 0 6, lD 8 1 7, lQ 9 12 3, o 10 (.bsl 12 [[(.st []), (.st []), (.st []), (.st []), .ns, (.it .i64 0), (.it .i64 0), .ns, (.it .i64 0), (.st []), (.it .i64 0), (.it .i64 0)]] [(0, (t 9))]), o 11 (.call true .rw 327 [t 8, (k 0), t 10]), nK 12 4, fA 13 0 12, sO 1 13 11] [])
(.reg true [
mV 14 0, nK 15 14, fA 16 1 15, lD 17 1 16, lQ 18 12 3, cP 19 279 [t 18], o 20 (b .add (t 17) (t 19)), nK 21 14, fA 22 1 21, sO 1 22 20] [])))⟩
def c280 : Ev.Fn := d280.den
def p280 : Pol := { P0 .rw with loc := [3], heap := [11, 10], own := [11] }
theorem r280 : FnOK Tryz.prog mds 280 c280 := .read (pol := p280) (d := d280) Tryz.func280 (by kernel_rfl) (by kernel_rfl) rfl rfl (by kernel_rfl)

def d281 : DFn := ⟨[(.g [.one, .one, .one, .one, (.sl [.one, .one]), .one, .one, (.sl [.one, .one]), .one, .one, .one, .one])], [(.g [.one, .one, .one, .one, (.sl [.one, .one]), .one, .one, (.sl [.one, .one]), .one, .one, .one, .one])], .pure, [.cell 2 12 true],
(s [o 1 (.box (t 0)), o 2 (.alc [(.st []), (.st []), (.st []), (.st []), .ns, (.it .i64 0), (.it .i64 0), .ns, (.it .i64 0), (.st []), (.it .i64 0), (.it .i64 0)])]
(.seq (.reg false [
fA 3 0 1, fA 4 4 3, lD 5 1 4, o 6 (.app 2 32 (.k .ns) (t 5)), fA 7 0 1, fA 8 4 7, sO 1 8 6] [3, 4, 7, 8])
(.seq (.reg false [
fA 9 6 1, fA 10 1 9, lD 11 1 10, o 12 (.app 2 32 (.k .ns) (t 11)), fA 13 6 1, fA 14 1 13, sO 1 14 12] [9, 10, 13, 14])
(.seq (.reg false [
lQ 15 12 1, sO 12 2 15] [])
.ret))))⟩
def c281 : Ev.Fn := d281.den
def p281 : Pol := { P0 .pure with loc := [1, 2], clr := [(1, [3, 4, 7, 8]), (2, [9, 10, 13, 14])] }
theorem r281 : FnOK Tryz.prog mds 281 c281 := .read (pol := p281) (d := d281) Tryz.func281 (by kernel_rfl) (by kernel_rfl) rfl rfl (by kernel_rfl)

def d284 : DFn := ⟨[(.c (.sl [.one, .one]))], [(.g [.one, .one, .one, .one, .one, .one, .one, .one, .one, .one])], .pure, [.cell 2 10 true],
(s [o 2 (.alc [(.bo false), (.bo false), (.bo false), (.bo false), (.bo false), (.bo false), (.it .i64 0), (.it .i64 0), (.it .i64 0), (.it .i64 0)])]
(s [o 6 (.bld [(.bo false), (.bo false), (.bo false), (.bo false), (.bo false), (.bo false), (.it .i64 0), (.it .i64 0), (.it .i64 0), (.it .i64 0)] [(6, 1, (.k (.it .i64 (-1)))), (7, 1, (.k (.it .i64 (-1)))), (8, 1, (.k (.it .i64 (-1)))), (9, 1, (.k (.it .i64 (-1))))]), o 3 (.alc [(.bo false), (.bo false), (.bo false), (.bo false), (.bo false), (.bo false), (.it .i64 0), (.it .i64 0), (.it .i64 0), (.it .i64 0)]), sO 10 3 6]
(.seq (s [mV 7 0, o 8 (.call false .pure 332 [t 7, (.k (.st [99, 97, 99, 104, 101, 45, 99, 111, 110, 116, 114, 111, 108]))]), lN 9 false 8, mK 10 (.it .i64 0)]
(.blk 0 (.loop [2, 3, 8, 9, 10] [5]
(s [o 11 (b .lss (t 10) (t 9))]
(.seq (.cond (t 11)
.skip
(.exit 0))
(.seq (.blk 1 (s [o 12 (.ias 3 (t 8) (t 10)), lQ 13 3 12, o 5 (.alc [(.st []), (.st []), (.bo false)]), sO 3 5 13]
(.seq (.reg false [
fA 14 0 5, lD 15 1 14] [14])
(.blk 2 (.seq (.reg false [
o 17 (b .eql (t 15) (.k (.st [110, 111, 45, 115, 116, 111, 114, 101]))), mV 16 17] [])
(.cond (t 16)
(.reg false [
fA 18 0 3, n (.sto 1 (t 18) (.k (.bo true)))] [18])
(s [o 20 (b .eql (t 15) (.k (.st [110, 111, 45, 99, 97, 99, 104, 101]))), mV 19 20]
(.cond (t 19)
(.reg false [
fA 21 1 3, n (.sto 1 (t 21) (.k (.bo true)))] [21])
(s [o 23 (b .eql (t 15) (.k (.st [112, 114, 105, 118, 97, 116, 101]))), mV 22 23]
(.cond (t 22)
(.reg false [
fA 24 2 3, n (.sto 1 (t 24) (.k (.bo true)))] [24])
(s [o 26 (b .eql (t 15) (.k (.st [112, 117, 98, 108, 105, 99]))), mV 25 26]
(.cond (t 25)
(.reg false [
fA 27 3 3, n (.sto 1 (t 27) (.k (.bo true)))] [27])
(s [o 29 (b .eql (t 15) (.k (.st [111, 110, 108, 121, 45, 105, 102, 45, 99, 97, 99, 104, 101, 100]))), mV 28 29]
(.cond (t 28)
(.reg false [
fA 30 5 3, n (.sto 1 (t 30) (.k (.bo true)))] [30])
(.seq (s [o 32 (b .eql (t 15) (.k (.st [109, 117, 115, 116, 45, 114, 101, 118, 97, 108, 105, 100, 97, 116, 101]))), mV 31 32]
(.cond (t 31)
.skip
(.reg false [
o 33 (b .eql (t 15) (.k (.st [112, 114, 111, 120, 121, 45, 114, 101, 118, 97, 108, 105, 100, 97, 116, 101]))), mV 31 33] [])))
(.cond (t 31)
(.reg false [
fA 34 4 3, n (.sto 1 (t 34) (.k (.bo true)))] [34])
(s [o 36 (b .eql (t 15) (.k (.st [109, 97, 120, 45, 97, 103, 101]))), mV 35 36]
(.cond (t 35)
(.reg true [
fA 37 6 3, lD 38 1 37, lQ 39 3 5, cP 40 334 [t 39, (k 0)], cP 41 333 [t 38, t 40], fA 42 6 3, sO 1 42 41] [37, 42])
(s [o 44 (b .eql (t 15) (.k (.st [115, 45, 109, 97, 120, 97, 103, 101]))), mV 43 44]
(.cond (t 43)
(.reg true [
fA 45 7 3, lD 46 1 45, lQ 47 3 5, cP 48 334 [t 47, (k 0)], cP 49 333 [t 46, t 48], fA 50 7 3, sO 1 50 49] [45, 50])
(s [o 52 (b .eql (t 15) (.k (.st [109, 105, 110, 45, 102, 114, 101, 115, 104]))), mV 51 52]
(.cond (t 51)
(.reg true [
fA 53 9 3, lD 54 1 53, lQ 55 3 5, cP 56 334 [t 55, (k 0)], cP 57 333 [t 54, t 56], fA 58 9 3, sO 1 58 57] [53, 58])
(s [o 60 (b .eql (t 15) (.k (.st [109, 97, 120, 45, 115, 116, 97, 108, 101]))), mV 59 60]
(.cond (t 59)
(.reg true [
fA 61 8 3, lD 62 1 61, lQ 63 3 5, cP 64 334 [t 63, (k 2147483647)], cP 65 333 [t 62, t 64], fA 66 8 3, sO 1 66 65] [61, 66])
.skip))))))))))))))))))))))))
(.reg false [
o 67 (b .add (t 10) (k 1)), mV 10 67] [])))))))
(s [lQ 68 10 3, sO 10 2 68]
.ret))))⟩
def c284 : Ev.Fn := d284.den
def p284 : Pol := { P0 .pure with loc := [2, 3, 5], ord := [(2, [0, 3, 1, 2])], clr := [(5, [14]), (7, [18]), (9, [21]), (11, [24]), (13, [27]), (15, [30]), (18, [34]), (20, [37, 42]), (22, [45, 50]), (24, [53, 58]), (26, [61, 66])], mask := [(3, [2, 3, 8, 9, 10], [5])] }
theorem r284 : FnOK Tryz.prog mds 284 c284 := .read (pol := p284) (d := d284) Tryz.func284 (by kernel_rfl) (by kernel_rfl) rfl rfl (by kernel_rfl)

def d285 : DFn := ⟨[(.c (.sl [.one, .one]))], [(.c (.sl [.one])), (.c .one)], .pure, [.tmp 2, .tmp 3],
(s [mK 2 .ns, mK 3 (.bo false)]
(s [mV 11 0, o 12 (.call false .pure 188 [t 11, (.k (.st [118, 97, 114, 121]))]), mV 10 12, eX 13 10 0, eX 14 10 1, mV 4 13, mV 5 14]
(s [mV 16 4, o 17 (.call true .pure 189 [t 16]), mV 15 17, eX 18 15 0, eX 19 15 1, mV 6 18, mV 7 19]
(.seq (s [mV 20 7, o 21 (.un .not (t 20))]
(.cond (t 21)
(s [mK 2 .ns, mK 3 (.bo true)]
.ret)
.skip))
(.seq (s [mV 22 6, lN 23 false 22, mK 24 (.it .i64 0)]
(.blk 0 (.loop [6, 22, 23, 24] []
(s [o 25 (b .lss (t 24) (t 23))]
(.seq (.cond (t 25)
.skip
(.exit 0))
(.seq (.blk 1 (s [mV 26 24, o 27 (.ias 1 (t 22) (t 24)), lD 28 1 27, mV 8 26, mV 9 28]
(.seq (s [mV 29 9, o 30 (b .eql (t 29) (.k (.st [42]))), mV 31 30, x 32 31 (.mov (t 9)), x 33 31 (.call false .pure 316 [t 32]), x 34 31 (.un .not (t 33)), o 35 (.pick (t 31) (.k (.bo true)) (t 34))]
(.cond (t 35)
(s [mK 2 .ns, mK 3 (.bo true)]
.ret)
.skip))
(r [mV 36 6, mV 37 8, mV 38 9, o 39 (.call true .pure 190 [t 38]), o 40 (.ias 1 (t 36) (t 37)), sO 1 40 39]))))
(r [o 41 (b .add (t 24) (k 1)), mV 24 41])))))))
(s [mV 42 6, mV 2 42, mK 3 (.bo false)]
.ret))))))⟩
def c285 : Ev.Fn := d285.den
def p285 : Pol := { P0 .pure with heap := [17, 39], own := [17, 39], mask := [(6, [6, 22, 23, 24], [])] }
theorem r285 : FnOK Tryz.prog mds 285 c285 := .read (pol := p285) (d := d285) Tryz.func285 (by kernel_rfl) (by kernel_rfl) rfl rfl (by kernel_rfl)

def d286 : DFn := ⟨[(.c (.sl [.one, .one])), (.c .one)], [(.c .one)], .pure, [.tmp 4],
(s [mK 4 (.bo false)]
(s [mV 8 0, mV 9 1, cP 10 188 [t 8, t 9], mV 7 10, eX 11 7 0, eX 12 7 1, mV 5 11, mV 6 12]
(s [mV 13 6, o 14 (b .gtr (t 13) (k 0)), mV 4 14]
.ret)))⟩
def c286 : Ev.Fn := d286.den
def p286 : Pol := P0 .pure
theorem r286 : FnOK Tryz.prog mds 286 c286 := .read (pol := p286) (d := d286) Tryz.func286 (by kernel_rfl) (by kernel_rfl) rfl rfl (by kernel_rfl)

def d287 : DFn := ⟨[(.c .one)], [(.c .one)], .pure, [.tmp 2],
(s [mK 2 (.bo false)]
(.seq (s [mV 3 0]
(.blk 0 (.seq (s [o 5 (b .eql (t 3) (k 200)), mV 4 5]
(.cond (t 4)
.skip
(s [o 6 (b .eql (t 3) (k 203)), mV 4 6]
(.cond (t 4)
.skip
(s [o 7 (b .eql (t 3) (k 204)), mV 4 7]
(.cond (t 4)
.skip
(s [o 8 (b .eql (t 3) (k 300)), mV 4 8]
(.cond (t 4)
.skip
(s [o 9 (b .eql (t 3) (k 301)), mV 4 9]
(.cond (t 4)
.skip
(s [o 10 (b .eql (t 3) (k 308)), mV 4 10]
(.cond (t 4)
.skip
(s [o 11 (b .eql (t 3) (k 404)), mV 4 11]
(.cond (t 4)
.skip
(s [o 12 (b .eql (t 3) (k 405)), mV 4 12]
(.cond (t 4)
.skip
(s [o 13 (b .eql (t 3) (k 410)), mV 4 13]
(.cond (t 4)
.skip
(s [o 14 (b .eql (t 3) (k 414)), mV 4 14]
(.cond (t 4)
.skip
(r [o 15 (b .eql (t 3) (k 501)), mV 4 15])))))))))))))))))))))
(.cond (t 4)
(s [mK 2 (.bo true)]
.ret)
.skip))))
(s [mK 2 (.bo false)]
.ret)))⟩
def c287 : Ev.Fn := d287.den
def p287 : Pol := P0 .pure
theorem r287 : FnOK Tryz.prog mds 287 c287 := .read (pol := p287) (d := d287) Tryz.func287 (by kernel_rfl) (by kernel_rfl) rfl rfl (by kernel_rfl)

def d289 : DFn := ⟨[(.c (.sl [.one])), (.c .one)], [(.c .one)], .rw, [.tmp 4],
(s [mK 4 (.it .i64 0)]
(.seq (s [mV 6 0, lN 7 false 6, mK 8 (.it .i64 0)]
(.blk 0 (.loop [0, 1, 7, 8] []
(s [o 9 (b .lss (t 8) (t 7))]
(.seq (.cond (t 9)
.skip
(.exit 0))
(.seq (.blk 1 (s [mV 10 8, mV 5 10]
(s [mV 11 1, mV 12 0, mV 13 5, o 14 (.ias 1 (t 12) (t 13)), lD 15 1 14, o 16 (.calv [] (t 11) [t 15])]
(.cond (t 16)
(s [mV 17 5, mV 4 17]
.ret)
.skip))))
(r [o 18 (b .add (t 8) (k 1)), mV 8 18])))))))
(s [mK 4 (.it .i64 (-1))]
.ret)))⟩
def c289 : Ev.Fn := d289.den
def p289 : Pol := { P0 .rw with mask := [(2, [0, 1, 7, 8], [])] }
theorem r289 : FnOK Tryz.prog mds 289 c289 := .read (pol := p289) (d := d289) Tryz.func289 (by kernel_rfl) (by kernel_rfl) rfl rfl (by kernel_rfl)

def d293 : DFn := ⟨[(.c .one)], [(.c .one)], .pure, [.tmp 2],
(s [mK 2 (.bo false)]
(s [mV 3 0, o 4 (b .eql (t 3) (.k (.it .u8 32))), mV 5 4, x 6 5 (.mov (t 0)), x 7 5 (b .eql (t 6) (.k (.it .u8 9))), o 8 (.pick (t 5) (.k (.bo true)) (t 7)), mV 2 8]
.ret))⟩
def c293 : Ev.Fn := d293.den
def p293 : Pol := P0 .pure
theorem r293 : FnOK Tryz.prog mds 293 c293 := .read (pol := p293) (d := d293) Tryz.func293 (by kernel_rfl) (by kernel_rfl) rfl rfl (by kernel_rfl)

def d294 : DFn := ⟨[(.c .one)], [(.c .one)], .pure, [.tmp 2],
(s [mK 2 (.it .i64 0)]
(s [o 4 (.bld (List.replicate 257 (.it .i64 0)) [(0, 1, (k 13)), (1, 1, (k 23)), (2, 1, (k 28)), (3, 1, (k 28)), (4, 1, (k 28)), (5, 1, (k 28)), (6, 1, (k 28)), (7, 1, (k 28)), (8, 1, (k 28)), (9, 1, (k 24)), (10, 1, (k 30)), (11, 1, (k 28)), (12, 1, (k 28)), (13, 1, (k 30)), (14, 1, (k 28)), (15, 1, (k 28)), (16, 1, (k 28)), (17, 1, (k 28)), (18, 1, (k 28)), (19, 1, (k 28)), (20, 1, (k 28)), (21, 1, (k 28)), (22, 1, (k 30)), (23, 1, (k 28)), (24, 1, (k 28)), (25, 1, (k 28)), (26, 1, (k 28)), (27, 1, (k 28)), (28, 1, (k 28)), (29, 1, (k 28)), (30, 1, (k 28)), (31, 1, (k 28)), (32, 1, (k 6)), (33, 1, (k 10)), (34, 1, (k 10)), (35, 1, (k 12)), (36, 1, (k 13)), (37, 1, (k 6)), (38, 1, (k 8)), (39, 1, (k 11)), (40, 1, (k 10)), (41, 1, (k 10)), (42, 1, (k 8)), (43, 1, (k 11)), (44, 1, (k 8)), (45, 1, (k 6)), (46, 1, (k 6)), (47, 1, (k 6)), (48, 1, (k 5)), (49, 1, (k 5)), (50, 1, (k 5)), (51, 1, (k 6)), (52, 1, (k 6)), (53, 1, (k 6)), (54, 1, (k 6)), (55, 1, (k 6)), (56, 1, (k 6)), (57, 1, (k 6)), (58, 1, (k 7)), (59, 1, (k 8)), (60, 1, (k 15)), (61, 1, (k 6)), (62, 1, (k 12)), (63, 1, (k 10)), (64, 1, (k 13)), (65, 1, (k 6)), (66, 1, (k 7)), (67, 1, (k 7)), (68, 1, (k 7)), (69, 1, (k 7)), (70, 1, (k 7)), (71, 1, (k 7)), (72, 1, (k 7)), (73, 1, (k 7)), (74, 1, (k 7)), (75, 1, (k 7)), (76, 1, (k 7)), (77, 1, (k 7)), (78, 1, (k 7)), (79, 1, (k 7)), (80, 1, (k 7)), (81, 1, (k 7)), (82, 1, (k 7)), (83, 1, (k 7)), (84, 1, (k 7)), (85, 1, (k 7)), (86, 1, (k 7)), (87, 1, (k 7)), (88, 1, (k 8)), (89, 1, (k 7)), (90, 1, (k 8)), (91, 1, (k 13)), (92, 1, (k 19)), (93, 1, (k 13)), (94, 1, (k 14)), (95, 1, (k 6)), (96, 1, (k 15)), (97, 1, (k 5)), (98, 1, (k 6)), (99, 1, (k 5)), (100, 1, (k 6)), (101, 1, (k 5)), (102, 1, (k 6)), (103, 1, (k 6)), (104, 1, (k 6)), (105, 1, (k 5)), (106, 1, (k 7)), (107, 1, (k 7)), (108, 1, (k 6)), (109, 1, (k 6)), (110, 1, (k 6)), (111, 1, (k 5)), (112, 1, (k 6)), (113, 1, (k 7)), (114, 1, (k 6)), (115, 1, (k 5)), (116, 1, (k 5)), (117, 1, (k 6)), (118, 1, (k 7)), (119, 1, (k 7)), (120, 1, (k 7)), (121, 1, (k 7)), (122, 1, (k 7)), (123, 1, (k 15)), (124, 1, (k 11)), (125, 1, (k 14)), (126, 1, (k 13)), (127, 1, (k 28)), (128, 1, (k 20)), (129, 1, (k 22)), (130, 1, (k 20)), (131, 1, (k 20)), (132, 1, (k 22)), (133, 1, (k 22)), (134, 1, (k 22)), (135, 1, (k 23)), (136, 1, (k 22)), (137, 1, (k 23)), (138, 1, (k 23)), (139, 1, (k 23)), (140, 1, (k 23)), (141, 1, (k 23)), (142, 1, (k 24)), (143, 1, (k 23)), (144, 1, (k 24)), (145, 1, (k 24)), (146, 1, (k 22)), (147, 1, (k 23)), (148, 1, (k 24)), (149, 1, (k 23)), (150, 1, (k 23)), (151, 1, (k 23)), (152, 1, (k 23)), (153, 1, (k 21)), (154, 1, (k 22)), (155, 1, (k 23)), (156, 1, (k 22)), (157, 1, (k 23)), (158, 1, (k 23)), (159, 1, (k 24)), (160, 1, (k 22)), (161, 1, (k 21)), (162, 1, (k 20)), (163, 1, (k 22)), (164, 1, (k 22)), (165, 1, (k 23)), (166, 1, (k 23)), (167, 1, (k 21)), (168, 1, (k 23)), (169, 1, (k 22)), (170, 1, (k 22)), (171, 1, (k 24)), (172, 1, (k 21)), (173, 1, (k 22)), (174, 1, (k 23)), (175, 1, (k 23)), (176, 1, (k 21)), (177, 1, (k 21)), (178, 1, (k 22)), (179, 1, (k 21)), (180, 1, (k 23)), (181, 1, (k 22)), (182, 1, (k 23)), (183, 1, (k 23)), (184, 1, (k 20)), (185, 1, (k 22)), (186, 1, (k 22)), (187, 1, (k 22)), (188, 1, (k 23)), (189, 1, (k 22)), (190, 1, (k 22)), (191, 1, (k 23)), (192, 1, (k 26)), (193, 1, (k 26)), (194, 1, (k 20)), (195, 1, (k 19)), (196, 1, (k 22)), (197, 1, (k 23)), (198, 1, (k 22)), (199, 1, (k 25)), (200, 1, (k 26)), (201, 1, (k 26)), (202, 1, (k 26)), (203, 1, (k 27)), (204, 1, (k 27)), (205, 1, (k 26)), (206, 1, (k 24)), (207, 1, (k 25)), (208, 1, (k 19)), (209, 1, (k 21)), (210, 1, (k 26)), (211, 1, (k 27)), (212, 1, (k 27)), (213, 1, (k 26)), (214, 1, (k 27)), (215, 1, (k 24)), (216, 1, (k 21)), (217, 1, (k 21)), (218, 1, (k 26)), (219, 1, (k 26)), (220, 1, (k 28)), (221, 1, (k 27)), (222, 1, (k 27)), (223, 1, (k 27)), (224, 1, (k 20)), (225, 1, (k 24)), (226, 1, (k 20)), (227, 1, (k 21)), (228, 1, (k 22)), (229, 1, (k 21)), (230, 1, (k 21)), (231, 1, (k 23)), (232, 1, (k 22)), (233, 1, (k 22)), (234, 1, (k 25)), (235, 1, (k 25)), (236, 1, (k 24)), (237, 1, (k 24)), (238, 1, (k 26)), (239, 1, (k 23)), (240, 1, (k 26)), (241, 1, (k 27)), (242, 1, (k 26)), (243, 1, (k 26)), (244, 1, (k 27)), (245, 1, (k 27)), (246, 1, (k 27)), (247, 1, (k 27)), (248, 1, (k 27)), (249, 1, (k 28)), (250, 1, (k 27)), (251, 1, (k 27)), (252, 1, (k 27)), (253, 1, (k 27)), (254, 1, (k 27)), (255, 1, (k 26)), (256, 1, (k 30))]), o 3 (.alc (List.replicate 257 (.it .i64 0))), sO 257 3 4]
(.seq (s [mV 5 0, o 6 (b .lss (t 5) (k 0)), mV 7 6, x 8 7 (.mov (t 0)), x 9 7 (b .geq (t 8) (k 257)), o 10 (.pick (t 7) (.k (.bo true)) (t 9))]
(.cond (t 10)
(s [mK 2 (.it .i64 0)]
.ret)
.skip))
(.seq (.reg false [
mV 11 0, o 12 (.iaa 257 1 (t 3) (t 11)), lD 13 1 12, mV 2 13] [12])
.ret))))⟩
def c294 : Ev.Fn := d294.den
def p294 : Pol := { P0 .pure with loc := [3], clr := [(4, [12])] }
theorem r294 : FnOK Tryz.prog mds 294 c294 := .read (pol := p294) (d := d294) Tryz.func294 (by kernel_rfl) (by kernel_rfl) rfl rfl (by kernel_rfl)

def d295 : DFn := ⟨[], [(.c .one)], .rw, [.tmp 0],
(.seq (.reg false [
mK 0 .np] [])
(s [o 8 (.bld (List.replicate 610 (.it .i64 0)) []), o 9 (.bxh (t 8)), mV 1 9]
(.seq (s [mK 10 (.it .i64 0)]
(.blk 0 (.loop [1, 10] [3, 4]
(s [o 11 (b .lss (t 10) (k 257))]
(.seq (.cond (t 11)
.skip
(.exit 0))
(.seq (.blk 1 (s [mV 12 10, mV 2 12]
(.reg true [
mV 13 1, mV 14 2, nK 16 13, fA 17 32 16, nK 21 13, fA 22 32 21, cP 15 294 [t 14], o 18 (.iaa 32 1 (t 17) (t 15)), lD 19 1 18, o 20 (b .add (t 19) (k 1)), o 23 (.iaa 32 1 (t 22) (t 15)), sO 1 23 20] [])))
(r [o 24 (b .add (t 10) (k 1)), mV 10 24])))))))
(s [o 3 (.alc (List.replicate 32 (.it .i64 0))), o 4 (.alc (List.replicate 32 (.it .i64 0)))]
(.seq (s [mK 5 (.it .i64 1)]
(.blk 2 (.loop [1, 3, 4, 5] []
(.seq (s [mV 25 5, o 26 (b .lss (t 25) (k 32))]
(.cond (t 26)
.skip
(.exit 2)))
(.seq (.blk 3 (.seq (.reg true [
mV 29 5, mV 30 1, mV 31 5, o 32 (b .sub (t 31) (k 1)), nK 33 30, fA 34 0 33, o 35 (.iaa 32 1 (t 34) (t 32)), lD 36 1 35, mV 37 1, mV 38 5, o 39 (b .sub (t 38) (k 1)), nK 40 37, fA 41 32 40, o 42 (.iaa 32 1 (t 41) (t 39)), lD 43 1 42, o 44 (b .add (t 36) (t 43)), o 45 (b .mul (k 2) (t 44)), o 46 (.iaa 32 1 (t 3) (t 29)), sO 1 46 45] [46])
(.seq (.reg true [
mV 47 5, mV 48 5, o 49 (b .sub (t 48) (k 1)), o 50 (.iaa 32 1 (t 4) (t 49)), lD 51 1 50, mV 52 1, mV 53 5, o 54 (b .sub (t 53) (k 1)), nK 55 52, fA 56 32 55, o 57 (.iaa 32 1 (t 56) (t 54)), lD 58 1 57, o 59 (b .add (t 51) (t 58)), o 60 (.iaa 32 1 (t 4) (t 47)), sO 1 60 59] [50, 60])
(.reg true [
mV 61 1, mV 62 5, mV 63 1, mV 64 5, mV 65 5, o 66 (.iaa 32 1 (t 3) (t 65)), lD 67 1 66, mV 68 5, o 69 (.iaa 32 1 (t 4) (t 68)), lD 70 1 69, nK 71 61, fA 72 0 71, o 73 (.iaa 32 1 (t 72) (t 62)), nK 74 63, fA 75 64 74, ⟨none, none, [69], .sto 1 (t 73) (t 67)⟩, o 76 (.iaa 32 1 (t 75) (t 64)), sO 1 76 70] [66, 69]))))
(r [mV 27 5, o 28 (b .add (t 27) (k 1)), mV 5 28]))))))
(.seq (s [mK 77 (.it .i64 0)]
(.blk 4 (.loop [1, 3, 4, 77] []
(s [o 78 (b .lss (t 77) (k 257))]
(.seq (.cond (t 78)
.skip
(.exit 4))
(.seq (.blk 5 (s [mV 79 77, mV 6 79]
(s [mV 80 6, cP 81 294 [t 80], mV 7 81]
(.seq (.reg true [
mV 82 1, mV 83 6, mV 84 1, mV 85 7, o 86 (.iaa 32 1 (t 4) (t 85)), lD 87 1 86, mV 88 7, o 89 (.iaa 32 1 (t 3) (t 88)), lD 90 1 89, mV 91 6, nK 92 82, fA 93 353 92, o 94 (.iaa 257 1 (t 93) (t 83)), nK 95 84, fA 96 96 95, ⟨none, none, [86], .sto 1 (t 94) (t 90)⟩, o 97 (.iaa 257 1 (t 96) (t 87)), sO 1 97 91] [86, 89])
(.seq (.reg false [
mV 98 7, o 99 (.iaa 32 1 (t 3) (t 98)), lD 100 1 99, o 101 (b .add (t 100) (k 1)), o 102 (.iaa 32 1 (t 3) (t 98)), sO 1 102 101] [99, 102])
(.reg false [
mV 103 7, o 104 (.iaa 32 1 (t 4) (t 103)), lD 105 1 104, o 106 (b .add (t 105) (k 1)), o 107 (.iaa 32 1 (t 4) (t 103)), sO 1 107 106] [104, 107]))))))
(.reg false [
o 108 (b .add (t 77) (k 1)), mV 77 108] [])))))))
(.seq (r [mV 109 1, mV 0 109])
.ret)))))))⟩
def c295 : Ev.Fn := d295.den
def p295 : Pol := { P0 .rw with loc := [3, 4], ord := [(5, [0, 1, 3, 4, 8, 9, 2, 5, 6, 7, 10, 11]), (13, [0, 1, 2, 3, 4, 5, 6, 7, 8, 9, 10, 11, 12, 14, 15, 13, 16, 17]), (18, [0, 1, 2, 3, 4, 5, 6, 7, 8, 9, 10, 11, 12, 14, 15, 13, 16, 17])], clr := [(11, [46]), (12, [50, 60]), (13, [66, 69]), (18, [86, 89]), (19, [99, 102]), (20, [104, 107])], mask := [(3, [1, 10], [3, 4]), (9, [1, 3, 4, 5], []), (15, [1, 3, 4, 77], [])] }
theorem r295 : FnOK Tryz.prog mds 295 c295 := .read (pol := p295) (d := d295) Tryz.func295 (by kernel_rfl) (by kernel_rfl) rfl rfl (by kernel_rfl)

def d298 : DFn := ⟨[(.c .one), (.g [.one, .one]), (.c .one)], [], .rw, [],
(s [o 4 (.box (t 1))]
(.seq (.reg true [
mV 6 0, mV 7 0, nK 8 7, fA 9 3 8, lD 10 1 9, lQ 11 2 4, mV 12 2, o 13 (.bld [(.st []), (.st []), (.it .i64 0)] [(0, 2, (t 11)), (2, 1, (t 12))]), o 14 (.bsv [.one, .one, .one] 3 [[(.st []), (.st []), (.it .i64 0)]] [(0, (t 13))]), o 15 (.app 3 40 (t 10) (t 14)), nK 16 6, fA 17 3 16, sO 1 17 15] [])
(.seq (.reg true [
mV 18 0, nK 19 18, fA 20 4 19, lD 21 1 20, lQ 22 2 4, cP 23 105 [t 22], o 24 (b .add (t 21) (t 23)), nK 25 18, fA 26 4 25, sO 1 26 24] [])
(.seq (.reg true [
mV 27 0, nK 28 27, fA 29 4 28, lD 30 1 29, mV 31 0, nK 32 31, fA 33 0 32, lD 34 1 33, nK 35 34, fA 36 2 35, lD 37 1 36, o 38 (b .gtr (t 30) (t 37))] [])
(.cond (t 38)
(r [mV 39 0, cR 40 338 [t 39, (k 2)]])
.skip)))))⟩
def c298 : Ev.Fn := d298.den
def p298 : Pol := { P0 .rw with loc := [4], heap := [15], own := [15] }
theorem r298 : FnOK Tryz.prog mds 298 c298 := .read (pol := p298) (d := d298) Tryz.func298 (by kernel_rfl) (by kernel_rfl) rfl rfl (by kernel_rfl)

def d299 : DFn := ⟨[(.c .one), (.c .one)], [(.g [.one, .one])], .rw, [.cell 4 2 true],
(s [o 4 (.alc [(.st []), (.st [])])]
(s [mV 8 0, nK 9 8, fA 10 0 9, lD 11 1 10, nK 12 11, fA 13 0 12, lD 14 1 13, mV 15 1, cR 16 339 [t 14, t 15], mV 7 16, eX 17 7 0, eX 18 7 1, o 5 (.alc [(.st []), (.st [])]), sO 2 5 17, mV 6 18]
(.seq (s [mV 19 6, o 20 (.un .not (t 19))]
(.cond (t 20)
(r [mV 21 0, cR 22 338 [t 21, (k 5)]])
.skip))
(s [lQ 23 2 5, sO 2 4 23]
.ret))))⟩
def c299 : Ev.Fn := d299.den
def p299 : Pol := { P0 .rw with loc := [4, 5], ord := [(1, [0, 1, 2, 3, 4, 5, 6, 7, 12, 8, 9, 10, 11, 13, 14])] }
theorem r299 : FnOK Tryz.prog mds 299 c299 := .read (pol := p299) (d := d299) Tryz.func299 (by kernel_rfl) (by kernel_rfl) rfl rfl (by kernel_rfl)

def d300 : DFn := ⟨[(.c .one), (.c .one)], [(.c .one)], .rw, [.tmp 4],
(s [mK 4 (.it .i64 0)]
(.seq (.reg true [
mV 9 0, nK 10 9, fA 11 1 10, lD 12 1 11, mV 13 0, nK 14 13, fA 15 2 14, lD 16 1 15, mV 17 1, o 18 (.call true .pure 340 [t 12, t 16, t 17]), mV 8 18, eX 19 8 0, eX 20 8 1, eX 21 8 2, mV 5 19, mV 6 20, mV 7 21] [])
(.seq (s [mV 22 7, o 23 (b .neq (t 22) (k 0))]
(.cond (t 23)
(r [mV 24 0, mV 25 7, cR 26 338 [t 24, t 25]])
.skip))
(s [mV 27 0, mV 28 6, nK 29 27, fA 30 2 29, sO 1 30 28]
(s [mV 31 5, mV 4 31]
.ret)))))⟩
def c300 : Ev.Fn := d300.den
def p300 : Pol := { P0 .rw with heap := [18], own := [18] }
theorem r300 : FnOK Tryz.prog mds 300 c300 := .read (pol := p300) (d := d300) Tryz.func300 (by kernel_rfl) (by kernel_rfl) rfl rfl (by kernel_rfl)

def d301 : DFn := ⟨[(.c .one), (.c .one)], [(.g [.one, .one])], .rw, [.cell 4 2 true],
(s [o 4 (.alc [(.st []), (.st [])])]
(s [o 5 (.alc [(.st []), (.st [])])]
(.seq (s [mV 7 0, mV 8 1, cR 9 300 [t 7, t 8], mV 6 9]
(s [mV 10 6, o 11 (b .gtr (t 10) (k 0))]
(.cond (t 11)
(.reg false [
mV 12 0, mV 13 6, cR 14 299 [t 12, t 13], o 15 (.fld 0 1 false (t 14)), fA 16 0 5, sO 1 16 15] [16])
(.reg false [
mV 17 0, cR 18 341 [t 17], fA 19 0 5, sO 1 19 18] [19]))))
(.seq (.reg false [
mV 20 0, cR 21 341 [t 20], fA 22 1 5, sO 1 22 21] [22])
(.seq (.reg false [
lQ 23 2 5, sO 2 4 23] [])
.ret)))))⟩
def c301 : Ev.Fn := d301.den
def p301 : Pol := { P0 .rw with loc := [4, 5], clr := [(4, [16]), (5, [19]), (6, [22])] }
theorem r301 : FnOK Tryz.prog mds 301 c301 := .read (pol := p301) (d := d301) Tryz.func301 (by kernel_rfl) (by kernel_rfl) rfl rfl (by kernel_rfl)

def d311 : DFn := ⟨[(.c .one), (.c .one)], [(.c .one)], .pure, [.tmp 4],
(s [mK 4 (.it .i64 0)]
(s [mV 5 0, mV 6 1, o 7 (.ixb (t 5) (t 6)), mV 4 7]
.ret))⟩
def c311 : Ev.Fn := d311.den
def p311 : Pol := P0 .pure
theorem r311 : FnOK Tryz.prog mds 311 c311 := .read (pol := p311) (d := d311) Tryz.func311 (by kernel_rfl) (by kernel_rfl) rfl rfl (by kernel_rfl)

def d315 : DFn := ⟨[(.c .one)], [(.c .one)], .pure, [.tmp 2],
(s [mK 2 (.bo false)]
(.seq (s [mV 4 0, lN 5 true 4, mK 6 (.it .i64 0)]
(.blk 0 (.loop [0, 5, 6] []
(s [o 7 (b .lss (t 6) (t 5))]
(.seq (.cond (t 7)
.skip
(.exit 0))
(.seq (.blk 1 (s [mV 8 6, mV 3 8]
(s [mV 9 0, mV 10 3, o 11 (.ixs (t 9) (t 10)), cP 12 347 [t 11], o 13 (.un .not (t 12))]
(.cond (t 13)
(s [mK 2 (.bo false)]
.ret)
.skip))))
(r [o 14 (b .add (t 6) (k 1)), mV 6 14])))))))
(s [mV 15 0, o 16 (b .eql (t 15) (.k (.st []))), mV 17 16, x 18 17 (.mov (t 0)), x 19 17 (.ixs (t 18) (k 0)), x 20 17 (.call false .pure 293 [t 19]), x 21 17 (.un .not (t 20)), x 22 17 (.mov (t 21)), w 23 22 (.mov (t 0)), w 24 22 (.mov (t 0)), w 25 22 (.len true (t 24)), w 26 22 (b .sub (t 25) (k 1)), w 27 22 (.ixs (t 23) (t 26)), w 28 22 (.call false .pure 293 [t 27]), w 29 22 (.un .not (t 28)), x 30 17 (.pick (t 22) (t 29) (.k (.bo false))), o 31 (.pick (t 17) (.k (.bo true)) (t 30)), mV 2 31]
.ret)))⟩
def c315 : Ev.Fn := d315.den
def p315 : Pol := { P0 .pure with mask := [(2, [0, 5, 6], [])] }
theorem r315 : FnOK Tryz.prog mds 315 c315 := .read (pol := p315) (d := d315) Tryz.func315 (by kernel_rfl) (by kernel_rfl) rfl rfl (by kernel_rfl)

def d316 : DFn := ⟨[(.c .one)], [(.c .one)], .pure, [.tmp 2],
(s [mK 2 (.bo false)]
(.seq (s [mV 4 0, lN 5 true 4, mK 6 (.it .i64 0)]
(.blk 0 (.loop [0, 5, 6] []
(s [o 7 (b .lss (t 6) (t 5))]
(.seq (.cond (t 7)
.skip
(.exit 0))
(.seq (.blk 1 (s [mV 8 6, mV 3 8]
(s [mV 9 0, mV 10 3, o 11 (.ixs (t 9) (t 10)), cP 12 348 [t 11], o 13 (.un .not (t 12))]
(.cond (t 13)
(s [mK 2 (.bo false)]
.ret)
.skip))))
(r [o 14 (b .add (t 6) (k 1)), mV 6 14])))))))
(s [mV 15 0, o 16 (b .neq (t 15) (.k (.st []))), mV 2 16]
.ret)))⟩
def c316 : Ev.Fn := d316.den
def p316 : Pol := { P0 .pure with mask := [(2, [0, 5, 6], [])] }
theorem r316 : FnOK Tryz.prog mds 316 c316 := .read (pol := p316) (d := d316) Tryz.func316 (by kernel_rfl) (by kernel_rfl) rfl rfl (by kernel_rfl)

def d317 : DFn := ⟨[(.c (.sl [.one, .one])), (.c .one)], [(.c .one)], .rw, [.tmp 4],
(s [mK 4 (.bo false)]
(s [mV 5 0, mV 6 1, cR 7 349 [t 5, t 6], o 8 (b .geq (t 7) (k 0)), mV 4 8]
.ret))⟩
def c317 : Ev.Fn := d317.den
def p317 : Pol := P0 .rw
theorem r317 : FnOK Tryz.prog mds 317 c317 := .read (pol := p317) (d := d317) Tryz.func317 (by kernel_rfl) (by kernel_rfl) rfl rfl (by kernel_rfl)

def d318 : DFn := ⟨[(.c (.sl [.one, .one]))], [(.c .one)], .pure, [.tmp 2],
(s [mK 2 (.bo false)]
(.seq (s [mV 5 0, lN 6 false 5, mK 7 (.it .i64 0)]
(.blk 0 (.loop [5, 6, 7] [4]
(s [o 8 (b .lss (t 7) (t 6))]
(.seq (.cond (t 8)
.skip
(.exit 0))
(.seq (.blk 1 (s [o 9 (.ias 2 (t 5) (t 7)), lQ 10 2 9, o 4 (.alc [(.st []), (.st [])]), sO 2 4 10]
(.seq (.reg false [
fA 11 0 4, lD 12 1 11, cP 13 350 [t 12], o 14 (.un .not (t 13)), mV 15 14, x 16 15 (.fad 1 (t 4)), x 17 15 (.ld 1 false (t 16)), x 18 15 (.call false .pure 315 [t 17]), x 19 15 (.un .not (t 18)), o 20 (.pick (t 15) (.k (.bo true)) (t 19)), mV 21 20, x 22 21 (.fad 0 (t 4)), x 23 21 (.ld 1 false (t 22)), x 24 21 (.call false .pure 191 [t 23]), o 25 (.pick (t 21) (.k (.bo true)) (t 24)), mV 26 25, x 27 26 (.fad 0 (t 4)), x 28 26 (.ld 1 false (t 27)), x 29 26 (b .eql (t 28) (.k (.st [116, 101]))), x 30 26 (.mov (t 29)), w 31 30 (.fad 1 (t 4)), w 32 30 (.ld 1 false (t 31)), w 33 30 (b .neq (t 32) (.k (.st [116, 114, 97, 105, 108, 101, 114, 115]))), x 34 26 (.pick (t 30) (t 33) (.k (.bo false))), o 35 (.pick (t 26) (.k (.bo true)) (t 34))] [11, 16, 22, 27, 31])
(.cond (t 35)
(.seq (.reg false [
mK 2 (.bo false)] [])
.ret)
.skip))))
(r [o 36 (b .add (t 7) (k 1)), mV 7 36])))))))
(s [mK 2 (.bo true)]
.ret)))⟩
def c318 : Ev.Fn := d318.den
def p318 : Pol := { P0 .pure with loc := [4], clr := [(4, [11, 16, 22, 27, 31])], mask := [(2, [5, 6, 7], [4])] }
theorem r318 : FnOK Tryz.prog mds 318 c318 := .read (pol := p318) (d := d318) Tryz.func318 (by kernel_rfl) (by kernel_rfl) rfl rfl (by kernel_rfl)

def d319 : DFn := ⟨[(.c (.sl [.one, .one]))], [(.c .one), (.c .one)], .pure, [.tmp 2, .tmp 3],
(s [mK 2 (.it .i64 0), mK 3 (.bo false)]
(s [mK 4 (.it .i64 (-1))]
(.seq (s [mV 8 0, lN 9 false 8, mK 10 (.it .i64 0)]
(.blk 0 (.loop [4, 8, 9, 10] [6]
(s [o 11 (b .lss (t 10) (t 9))]
(.seq (.cond (t 11)
.skip
(.exit 0))
(.seq (.blk 1 (s [o 12 (.ias 2 (t 8) (t 10)), lQ 13 2 12, o 6 (.alc [(.st []), (.st [])]), sO 2 6 13]
(.seq (.seq (.reg false [
fA 14 0 6, lD 15 1 14, o 16 (b .neq (t 15) (.k (.st [99, 111, 110, 116, 101, 110, 116, 45, 108, 101, 110, 103, 116, 104])))] [14])
(.cond (t 16)
(.exit 1)
.skip))
(.seq (.reg false [
fA 17 1 6, lD 18 1 17, cP 19 274 [t 18], mV 7 19] [17])
(.seq (.seq (.reg false [
mV 20 7, o 21 (b .lss (t 20) (k 0)), mV 22 21, x 23 22 (.mov (t 4)), x 24 22 (b .geq (t 23) (k 0)), x 25 22 (.mov (t 24)), w 26 25 (.mov (t 7)), w 27 25 (.mov (t 4)), w 28 25 (b .neq (t 26) (t 27)), x 29 22 (.pick (t 25) (t 28) (.k (.bo false))), o 30 (.pick (t 22) (.k (.bo true)) (t 29))] [])
(.cond (t 30)
(s [mK 2 (.it .i64 0), mK 3 (.bo false)]
.ret)
.skip))
(r [mV 31 7, mV 4 31]))))))
(r [o 32 (b .add (t 10) (k 1)), mV 10 32])))))))
(s [mV 33 4, mV 2 33, mK 3 (.bo true)]
.ret))))⟩
def c319 : Ev.Fn := d319.den
def p319 : Pol := { P0 .pure with loc := [6], clr := [(5, [14]), (6, [17])], mask := [(3, [4, 8, 9, 10], [6])] }
theorem r319 : FnOK Tryz.prog mds 319 c319 := .read (pol := p319) (d := d319) Tryz.func319 (by kernel_rfl) (by kernel_rfl) rfl rfl (by kernel_rfl)

def d320 : DFn := ⟨[(.c .one), (.g [.one, .one, .one, .one, (.sl [.one, .one]), .one])], [(.c .one)], .ro, [.tmp 4],
(s [o 3 (.bxh (t 1)), mK 4 (.it .i64 0)]
(s [mV 5 0, nK 6 5, fA 7 0 6, lD 8 1 7, o 9 (.mkf 352 [] [t 3]), cR 10 351 [t 8, t 9], mV 4 10]
.ret))⟩
def c320 : Ev.Fn := d320.den
def p320 : Pol := { P0 .ro with ord := [(0, [1, 0])], fns := [352] }
theorem r320 : FnOK Tryz.prog mds 320 c320 := .read (pol := p320) (d := d320) Tryz.func320 (by kernel_rfl) (by kernel_rfl) rfl rfl (by kernel_rfl)

def d321 : DFn := ⟨[(.g [.one, .one, .one, .one, (.sl [.one, .one]), .one])], [(.c .one)], .pure, [.tmp 2],
(s [o 1 (.box (t 0)), mK 2 (.bo false)]
(.seq (.seq (.reg false [
fA 5 4 1, lD 6 1 5, lN 7 false 6, mK 8 (.it .i64 0)] [5])
(.blk 0 (.loop [6, 7, 8] [1, 4]
(.seq (.reg false [
o 9 (b .lss (t 8) (t 7))] [])
(.seq (.cond (t 9)
.skip
(.exit 0))
(.seq (.blk 1 (s [o 10 (.ias 2 (t 6) (t 8)), lQ 11 2 10, o 4 (.alc [(.st []), (.st [])]), sO 2 4 11]
(.seq (.reg false [
fA 12 0 4, lD 13 1 12] [12])
(.blk 2 (.seq (.seq (.reg false [
o 15 (b .eql (t 13) (.k (.st [99, 97, 99, 104, 101, 45, 99, 111, 110, 116, 114, 111, 108]))), mV 14 15] [])
(.cond (t 14)
.skip
(s [o 16 (b .eql (t 13) (.k (.st [112, 114, 97, 103, 109, 97]))), mV 14 16]
(.cond (t 14)
.skip
(s [o 17 (b .eql (t 13) (.k (.st [97, 117, 116, 104, 111, 114, 105, 122, 97, 116, 105, 111, 110]))), mV 14 17]
(.cond (t 14)
.skip
(s [o 18 (b .eql (t 13) (.k (.st [114, 97, 110, 103, 101]))), mV 14 18]
(.cond (t 14)
.skip
(s [o 19 (b .eql (t 13) (.k (.st [105, 102, 45, 109, 97, 116, 99, 104]))), mV 14 19]
(.cond (t 14)
.skip
(s [o 20 (b .eql (t 13) (.k (.st [105, 102, 45, 110, 111, 110, 101, 45, 109, 97, 116, 99, 104]))), mV 14 20]
(.cond (t 14)
.skip
(s [o 21 (b .eql (t 13) (.k (.st [105, 102, 45, 109, 111, 100, 105, 102, 105, 101, 100, 45, 115, 105, 110, 99, 101]))), mV 14 21]
(.cond (t 14)
.skip
(s [o 22 (b .eql (t 13) (.k (.st [105, 102, 45, 117, 110, 109, 111, 100, 105, 102, 105, 101, 100, 45, 115, 105, 110, 99, 101]))), mV 14 22]
(.cond (t 14)
.skip
(r [o 23 (b .eql (t 13) (.k (.st [105, 102, 45, 114, 97, 110, 103, 101]))), mV 14 23])))))))))))))))))
(.cond (t 14)
(s [mK 2 (.bo false)]
.ret)
.skip))))))
(r [o 24 (b .add (t 8) (k 1)), mV 8 24])))))))
(s [mK 2 (.bo true)]
.ret)))⟩
def c321 : Ev.Fn := d321.den
def p321 : Pol := { P0 .pure with loc := [1, 4], ord := [(0, [1, 0])], clr := [(1, [5]), (4, [12])], mask := [(2, [6, 7, 8], [1, 4])] }
theorem r321 : FnOK Tryz.prog mds 321 c321 := .read (pol := p321) (d := d321) Tryz.func321 (by kernel_rfl) (by kernel_rfl) rfl rfl (by kernel_rfl)

def d326 : DFn := ⟨[(.c (.sl [.one, .one]))], [(.c .one)], .pure, [.tmp 2],
(s [mK 2 (.it .i64 0)]
(s [mK 3 (.it .i64 0)]
(.seq (s [mV 6 0, lN 7 false 6, mK 8 (.it .i64 0)]
(.blk 0 (.loop [3, 6, 7, 8] [5]
(s [o 9 (b .lss (t 8) (t 7))]
(.seq (.cond (t 9)
.skip
(.exit 0))
(.seq (.blk 1 (s [o 10 (.ias 2 (t 6) (t 8)), lQ 11 2 10, o 5 (.alc [(.st []), (.st [])]), sO 2 5 11]
(.reg false [
mV 12 3, fA 13 0 5, lD 14 1 13, lN 15 true 14, fA 16 1 5, lD 17 1 16, lN 18 true 17, o 19 (b .add (t 15) (t 18)), o 20 (b .add (t 12) (t 19)), mV 3 20] [13, 16])))
(.reg false [
o 21 (b .add (t 8) (k 1)), mV 8 21] [])))))))
(s [mV 22 3, mV 2 22]
.ret))))⟩
def c326 : Ev.Fn := d326.den
def p326 : Pol := { P0 .pure with loc := [5], clr := [(5, [13, 16])], mask := [(3, [3, 6, 7, 8], [5])] }
theorem r326 : FnOK Tryz.prog mds 326 c326 := .read (pol := p326) (d := d326) Tryz.func326 (by kernel_rfl) (by kernel_rfl) rfl rfl (by kernel_rfl)

def d332 : DFn := ⟨[(.c (.sl [.one, .one])), (.c .one)], [(.c (.sl [.one, .one, .one]))], .pure, [.tmp 4],
(s [mK 4 .ns]
(s [mV 15 0, mV 16 1, cP 17 188 [t 15, t 16], mV 14 17, eX 18 14 0, eX 19 14 1, mV 5 18, mV 6 19]
(s [mV 21 5, cP 22 189 [t 21], mV 20 22, eX 23 20 0, eX 24 20 1, mV 7 23, mV 8 24]
(s [mK 9 .ns]
(.seq (s [mV 25 7, lN 26 false 25, mK 27 (.it .i64 0)]
(.blk 0 (.loop [9, 25, 26, 27] [12]
(s [o 28 (b .lss (t 27) (t 26))]
(.seq (.cond (t 28)
.skip
(.exit 0))
(.seq (.blk 1 (s [o 29 (.ias 1 (t 25) (t 27)), lD 30 1 29, mV 11 30]
(s [mV 32 11, cP 33 360 [t 32], mV 31 33, eX 34 31 0, eX 35 31 1, o 12 (.alc [(.st []), (.st []), (.bo false)]), sO 3 12 34, mV 13 35]
(s [mV 36 13]
(.cond (t 36)
(r [mV 37 9, lQ 38 3 12, o 39 (.bsv [.one, .one, .one] 3 [[(.st []), (.st []), (.bo false)]] [(0, (t 38))]), o 40 (.app 3 40 (t 37) (t 39)), mV 9 40])
.skip)))))
(r [o 41 (b .add (t 27) (k 1)), mV 27 41])))))))
(s [mV 42 9, mV 4 42]
.ret))))))⟩
def c332 : Ev.Fn := d332.den
def p332 : Pol := { P0 .pure with loc := [12], heap := [40], own := [40], ord := [(7, [0, 5, 1, 2, 3, 4, 6, 7])], mask := [(5, [9, 25, 26, 27], [12])] }
theorem r332 : FnOK Tryz.prog mds 332 c332 := .read (pol := p332) (d := d332) Tryz.func332 (by kernel_rfl) (by kernel_rfl) rfl rfl (by kernel_rfl)

def d339 : DFn := ⟨[(.c .one), (.c .one)], [(.g [.one, .one]), (.c .one)], .rw, [.cell 4 2 true, .tmp 5],
(s [o 4 (.alc [(.st []), (.st [])]), mK 5 (.bo false)]
(s [mV 7 0, nK 8 7, fA 9 1 8, lD 10 1 9, lN 11 false 10, mV 6 11]
(.seq (.blk 0 (s [mV 13 1, o 14 (b .geq (t 13) (k 1)), mV 15 14, w 16 15 (.mov (t 1)), w 17 15 (.mov (t 6)), w 18 15 (b .leq (t 16) (t 17)), o 19 (.pick (t 15) (t 18) (.k (.bo false))), mV 12 19]
(.cond (t 12)
(s [mV 20 0, nK 21 20, fA 22 1 21, lD 23 1 22, mV 24 1, o 25 (b .sub (t 24) (k 1)), o 26 (.ias 2 (t 23) (t 25)), lQ 27 2 26, sO 2 4 27, mK 5 (.bo true)]
.ret)
(s [mV 29 1, mV 30 6, o 31 (b .gtr (t 29) (t 30)), mV 32 31, w 33 32 (.mov (t 1)), w 34 32 (.mov (t 6)), w 35 32 (b .sub (t 33) (t 34)), w 36 32 (.mov (t 0)), w 37 32 (.nck (t 36)), w 38 32 (.fad 0 (t 37)), w 39 32 (.ld 1 false (t 38)), w 40 32 (.len false (t 39)), w 41 32 (b .leq (t 35) (t 40)), o 42 (.pick (t 32) (t 41) (.k (.bo false))), mV 28 42]
(.cond (t 28)
(s [mV 43 0, nK 44 43, fA 45 0 44, lD 46 1 45, mV 47 1, mV 48 6, o 49 (b .sub (t 47) (t 48)), o 50 (b .sub (t 49) (k 1)), o 51 (.ias 2 (t 46) (t 50)), lQ 52 2 51, sO 2 4 52, mK 5 (.bo true)]
.ret)
.skip)))))
(s [o 53 (.bld [(.st []), (.st [])] []), sO 2 4 53, mK 5 (.bo false)]
.ret))))⟩
def c339 : Ev.Fn := d339.den
def p339 : Pol := { P0 .rw with loc := [4], ord := [(0, [1, 0])] }
theorem r339 : FnOK Tryz.prog mds 339 c339 := .read (pol := p339) (d := d339) Tryz.func339 (by kernel_rfl) (by kernel_rfl) rfl rfl (by kernel_rfl)

def d340 : DFn := ⟨[(.c (.sl [.one])), (.c .one), (.c .one)], [(.c .one), (.c .one), (.c .one)], .pure, [.tmp 6, .tmp 7, .tmp 8],
(s [mK 6 (.it .i64 0), mK 7 (.it .i64 0), mK 8 (.it .i64 0)]
(.seq (s [mV 13 2, o 14 (b .lss (t 13) (k 1)), mV 15 14, x 16 15 (.mov (t 2)), x 17 15 (b .gtr (t 16) (k 8)), o 18 (.pick (t 15) (.k (.bo true)) (t 17)), mV 19 18, x 20 19 (.mov (t 1)), x 21 19 (b .lss (t 20) (k 0)), o 22 (.pick (t 19) (.k (.bo true)) (t 21)), mV 23 22, x 24 23 (.mov (t 1)), x 25 23 (.mov (t 0)), x 26 23 (.len false (t 25)), x 27 23 (b .gtr (t 24) (t 26)), o 28 (.pick (t 23) (.k (.bo true)) (t 27))]
(.cond (t 28)
(s [mK 6 (.it .i64 0), mK 7 (.it .i64 0), mK 8 (.it .i64 1)]
.ret)
.skip))
(.seq (s [mV 29 1, mV 30 0, lN 31 false 30, o 32 (b .eql (t 29) (t 31))]
(.cond (t 32)
(s [mK 6 (.it .i64 0), mK 7 (.it .i64 0), mK 8 (.it .i64 3)]
.ret)
.skip))
(s [mV 33 2, cP 34 195 [t 33], mV 9 34]
(s [mV 35 0, mV 36 1, o 37 (.ias 1 (t 35) (t 36)), lD 38 1 37, cV 39 .i64 38, mV 40 9, o 41 (b .and (t 39) (t 40)), mV 10 41]
(s [mV 42 1, o 43 (b .add (t 42) (k 1)), mV 1 43]
(.seq (s [mV 44 10, mV 45 9, o 46 (b .lss (t 44) (t 45))]
(.cond (t 46)
(s [mV 47 10, mV 48 1, mV 6 47, mV 7 48, mK 8 (.it .i64 0)]
.ret)
.skip))
(s [mK 11 (.it .i64 0)]
(.blk 0 (.loop [0, 1, 10, 11] []
(.seq (.blk 1 (.seq (s [mV 51 11, o 52 (b .eql (t 51) (k 5))]
(.cond (t 52)
(s [mK 6 (.it .i64 0), mK 7 (.it .i64 0), mK 8 (.it .i64 2)]
.ret)
.skip))
(.seq (s [mV 53 1, mV 54 0, lN 55 false 54, o 56 (b .eql (t 53) (t 55))]
(.cond (t 56)
(s [mK 6 (.it .i64 0), mK 7 (.it .i64 0), mK 8 (.it .i64 3)]
.ret)
.skip))
(s [mV 57 0, mV 58 1, o 59 (.ias 1 (t 57) (t 58)), lD 60 1 59, cV 61 .i64 60, mV 12 61]
(s [mV 62 1, o 63 (b .add (t 62) (k 1)), mV 1 63]
(s [mV 64 10, mV 65 12, o 66 (b .and (t 65) (k 127)), mV 67 11, o 68 (b .mul (k 7) (t 67)), cV 69 .u64 68, o 70 (b .shl (t 66) (t 69)), o 71 (b .add (t 64) (t 70)), mV 10 71]
(.seq (s [mV 72 10, o 73 (b .gtr (t 72) (k 2147483647))]
(.cond (t 73)
(s [mK 6 (.it .i64 0), mK 7 (.it .i64 0), mK 8 (.it .i64 2)]
.ret)
.skip))
(s [mV 74 12, o 75 (b .lss (t 74) (k 128))]
(.cond (t 75)
(s [mV 76 10, mV 77 1, mV 6 76, mV 7 77, mK 8 (.it .i64 0)]
.ret)
.skip)))))))))
(r [mV 49 11, o 50 (b .add (t 49) (k 1)), mV 11 50]))))))))))))⟩
def c340 : Ev.Fn := d340.den
def p340 : Pol := { P0 .pure with mask := [(12, [0, 1, 10, 11], [])] }
theorem r340 : FnOK Tryz.prog mds 340 c340 := .read (pol := p340) (d := d340) Tryz.func340 (by kernel_rfl) (by kernel_rfl) rfl rfl (by kernel_rfl)

def d341 : DFn := ⟨[(.c .one)], [(.c .one)], .rw, [.tmp 2],
(s [mK 2 (.st [])]
(.seq (.seq (.reg true [
mV 8 0, nK 9 8, fA 10 2 9, lD 11 1 10, mV 12 0, nK 13 12, fA 14 1 13, lD 15 1 14, lN 16 false 15, o 17 (b .eql (t 11) (t 16))] [])
(.cond (t 17)
(r [mV 18 0, cR 19 338 [t 18, (k 3)]])
.skip))
(.seq (.reg true [
mV 20 0, nK 21 20, fA 22 1 21, lD 23 1 22, mV 24 0, nK 25 24, fA 26 2 25, lD 27 1 26, o 28 (.ias 1 (t 23) (t 27)), lD 29 1 28, o 30 (b .geq (t 29) (.k (.it .u8 128))), mV 3 30] [])
(s [mV 31 0, cR 32 300 [t 31, (k 7)], mV 4 32]
(.seq (s [mV 33 4, o 34 (b .gtr (t 33) (k 65536))]
(.cond (t 34)
(r [mV 35 0, cR 36 338 [t 35, (k 2)]])
.skip))
(.seq (.seq (.reg true [
mV 37 4, mV 38 0, nK 39 38, fA 40 1 39, lD 41 1 40, lN 42 false 41, mV 43 0, nK 44 43, fA 45 2 44, lD 46 1 45, o 47 (b .sub (t 42) (t 46)), o 48 (b .gtr (t 37) (t 47))] [])
(.cond (t 48)
(r [mV 49 0, cR 50 338 [t 49, (k 3)]])
.skip))
(.seq (.reg true [
mV 51 0, nK 52 51, fA 53 1 52, lD 54 1 53, mV 55 0, nK 56 55, fA 57 2 56, lD 58 1 57, mV 59 0, nK 60 59, fA 61 2 60, lD 62 1 61, mV 63 4, o 64 (b .add (t 62) (t 63)), o 65 (.slc false 1 (t 54) (some (t 58)) (some (t 64))), mV 5 65] [])
(s [mV 66 0, nK 67 66, fA 68 2 67, lD 69 1 68, mV 70 4, o 71 (b .add (t 69) (t 70)), nK 72 66, fA 73 2 72, sO 1 73 71]
(.seq (s [mV 74 3, o 75 (.un .not (t 74))]
(.cond (t 75)
(s [mV 76 5, o 77 (.cnv .b2s (t 76)), mV 2 77]
.ret)
.skip))
(s [mV 79 5, cP 80 364 [t 79], mV 78 80, eX 81 78 0, eX 82 78 1, mV 6 81, mV 7 82]
(.seq (s [mV 83 7, o 84 (b .neq (t 83) (k 0))]
(.cond (t 84)
(r [mV 85 0, mV 86 7, cR 87 338 [t 85, t 86]])
.skip))
(.seq (s [mV 88 6, lN 89 true 88, o 90 (b .gtr (t 89) (k 65536))]
(.cond (t 90)
(r [mV 91 0, cR 92 338 [t 91, (k 2)]])
.skip))
(s [mV 93 6, mV 2 93]
.ret)))))))))))))⟩
def c341 : Ev.Fn := d341.den
def p341 : Pol := P0 .rw
theorem r341 : FnOK Tryz.prog mds 341 c341 := .read (pol := p341) (d := d341) Tryz.func341 (by kernel_rfl) (by kernel_rfl) rfl rfl (by kernel_rfl)

def d347 : DFn := ⟨[(.c .one)], [(.c .one)], .pure, [.tmp 2],
(s [mK 2 (.bo false)]
(s [mV 3 0, o 4 (b .geq (t 3) (.k (.it .u8 32))), mV 5 4, w 6 5 (.mov (t 0)), w 7 5 (b .neq (t 6) (.k (.it .u8 127))), o 8 (.pick (t 5) (t 7) (.k (.bo false))), mV 9 8, x 10 9 (.mov (t 0)), x 11 9 (b .eql (t 10) (.k (.it .u8 9))), o 12 (.pick (t 9) (.k (.bo true)) (t 11)), mV 2 12]
.ret))⟩
def c347 : Ev.Fn := d347.den
def p347 : Pol := P0 .pure
theorem r347 : FnOK Tryz.prog mds 347 c347 := .read (pol := p347) (d := d347) Tryz.func347 (by kernel_rfl) (by kernel_rfl) rfl rfl (by kernel_rfl)

def d348 : DFn := ⟨[(.c .one)], [(.c .one)], .pure, [.tmp 2],
(s [mK 2 (.bo false)]
(.seq (.blk 0 (.seq (s [mV 4 0, o 5 (b .geq (t 4) (.k (.it .u8 97))), mV 6 5, w 7 6 (.mov (t 0)), w 8 6 (b .leq (t 7) (.k (.it .u8 122))), o 9 (.pick (t 6) (t 8) (.k (.bo false))), mV 3 9]
(.cond (t 3)
.skip
(s [mV 10 0, o 11 (b .geq (t 10) (.k (.it .u8 65))), mV 12 11, w 13 12 (.mov (t 0)), w 14 12 (b .leq (t 13) (.k (.it .u8 90))), o 15 (.pick (t 12) (t 14) (.k (.bo false))), mV 3 15]
(.cond (t 3)
.skip
(r [mV 16 0, o 17 (b .geq (t 16) (.k (.it .u8 48))), mV 18 17, w 19 18 (.mov (t 0)), w 20 18 (b .leq (t 19) (.k (.it .u8 57))), o 21 (.pick (t 18) (t 20) (.k (.bo false))), mV 3 21])))))
(.cond (t 3)
(s [mK 2 (.bo true)]
.ret)
.skip)))
(s [mV 22 0, o 23 (.call false .pure 365 [(.k (.st [33, 35, 36, 37, 38, 39, 42, 43, 45, 46, 94, 95, 124, 126, 96])), t 22]), o 24 (b .geq (t 23) (k 0)), mV 2 24]
.ret)))⟩
def c348 : Ev.Fn := d348.den
def p348 : Pol := P0 .pure
theorem r348 : FnOK Tryz.prog mds 348 c348 := .read (pol := p348) (d := d348) Tryz.func348 (by kernel_rfl) (by kernel_rfl) rfl rfl (by kernel_rfl)

def d349 : DFn := ⟨[(.c (.sl [.one, .one])), (.c .one)], [(.c .one)], .rw, [.tmp 4],
(s [mK 4 (.it .i64 0)]
(.seq (s [mV 6 0, lN 7 false 6, mK 8 (.it .i64 0)]
(.blk 0 (.loop [0, 1, 7, 8] []
(s [o 9 (b .lss (t 8) (t 7))]
(.seq (.cond (t 9)
.skip
(.exit 0))
(.seq (.blk 1 (s [mV 10 8, mV 5 10]
(s [mV 11 1, mV 12 0, mV 13 5, o 14 (.ias 2 (t 12) (t 13)), lQ 15 2 14, o 16 (.calv [] (t 11) [t 15])]
(.cond (t 16)
(s [mV 17 5, mV 4 17]
.ret)
.skip))))
(r [o 18 (b .add (t 8) (k 1)), mV 8 18])))))))
(s [mK 4 (.it .i64 (-1))]
.ret)))⟩
def c349 : Ev.Fn := d349.den
def p349 : Pol := { P0 .rw with mask := [(2, [0, 1, 7, 8], [])] }
theorem r349 : FnOK Tryz.prog mds 349 c349 := .read (pol := p349) (d := d349) Tryz.func349 (by kernel_rfl) (by kernel_rfl) rfl rfl (by kernel_rfl)

def d351 : DFn := ⟨[(.c (.sl [.one, .one, .one, .one, (.sl [.one, .one]), .one, .one, (.sl [.one, .one]), .one, .one, .one, .one])), (.c .one)], [(.c .one)], .rw, [.tmp 4],
(s [mK 4 (.it .i64 0)]
(.seq (s [mV 6 0, lN 7 false 6, mK 8 (.it .i64 0)]
(.blk 0 (.loop [0, 1, 7, 8] []
(s [o 9 (b .lss (t 8) (t 7))]
(.seq (.cond (t 9)
.skip
(.exit 0))
(.seq (.blk 1 (s [mV 10 8, mV 5 10]
(s [mV 11 1, mV 12 0, mV 13 5, o 14 (.ias 12 (t 12) (t 13)), lQ 15 12 14, o 16 (.calv [] (t 11) [t 15])]
(.cond (t 16)
(s [mV 17 5, mV 4 17]
.ret)
.skip))))
(r [o 18 (b .add (t 8) (k 1)), mV 8 18])))))))
(s [mK 4 (.it .i64 (-1))]
.ret)))⟩
def c351 : Ev.Fn := d351.den
def p351 : Pol := { P0 .rw with mask := [(2, [0, 1, 7, 8], [])] }
theorem r351 : FnOK Tryz.prog mds 351 c351 := .read (pol := p351) (d := d351) Tryz.func351 (by kernel_rfl) (by kernel_rfl) rfl rfl (by kernel_rfl)

def d364 : DFn := ⟨[(.c (.sl [.one]))], [(.c .one), (.c .one)], .pure, [.tmp 2, .tmp 3],
(s [mK 2 (.st []), mK 3 (.it .i64 0)]
(s [cR 10 295 [], mV 4 10]
(s [mK 5 .ns]
(s [mK 6 (.it .i64 0), mK 7 (.it .i64 0)]
(.seq (s [mV 11 0, lN 12 false 11, o 13 (b .mul (k 8) (t 12)), mK 14 (.it .i64 0)]
(.blk 0 (.loop [0, 4, 5, 6, 7, 13, 14] []
(s [o 15 (b .lss (t 14) (t 13))]
(.seq (.cond (t 15)
.skip
(.exit 0))
(.seq (.blk 1 (s [mV 16 14, mV 8 16]
(s [mV 17 6, o 18 (b .shl (t 17) (.k (.it .u64 1))), mV 19 0, mV 20 8, o 21 (b .quo (t 20) (k 8)), o 22 (.ias 1 (t 19) (t 21)), lD 23 1 22, mV 24 8, o 25 (b .rem (t 24) (k 8)), o 26 (b .sub (k 7) (t 25)), cV 27 .u64 26, o 28 (b .shr (t 23) (t 27)), o 29 (b .and (t 28) (.k (.it .u8 1))), cV 30 .i64 29, o 31 (b .or (t 18) (t 30)), mV 6 31]
(s [mV 32 7, o 33 (b .add (t 32) (k 1)), mV 7 33]
(s [mV 34 4, mV 35 6, mV 36 7, cR 37 371 [t 34, t 35, t 36], mV 9 37]
(.seq (s [mV 38 9, o 39 (b .eql (t 38) (k 256))]
(.cond (t 39)
(s [mK 2 (.st []), mK 3 (.it .i64 4)]
.ret)
.skip))
(s [mV 40 9, o 41 (b .geq (t 40) (k 0))]
(.cond (t 41)
(s [mV 42 5, mV 43 9, cV 44 .u8 43, o 45 (.bsv [.one] 1 [[(.it .u8 0)]] [(0, (t 44))]), o 46 (.app 1 1 (t 42) (t 45)), mV 5 46]
(r [mK 6 (.it .i64 0), mK 7 (.it .i64 0)]))
.skip))))))))
(r [o 47 (b .add (t 14) (k 1)), mV 14 47])))))))
(.seq (s [mV 48 7, o 49 (b .gtr (t 48) (k 7)), mV 50 49, x 51 50 (.mov (t 6)), x 52 50 (.mov (t 7)), x 53 50 (.cnv (.int .u64) (t 52)), x 54 50 (b .shl (k 1) (t 53)), x 55 50 (b .sub (t 54) (k 1)), x 56 50 (b .neq (t 51) (t 55)), o 57 (.pick (t 50) (.k (.bo true)) (t 56))]
(.cond (t 57)
(s [mK 2 (.st []), mK 3 (.it .i64 4)]
.ret)
.skip))
(s [mV 58 5, o 59 (.cnv .b2s (t 58)), mV 2 59, mK 3 (.it .i64 0)]
.ret)))))))⟩
def c364 : Ev.Fn := d364.den
def p364 : Pol := { P0 .pure with heap := [46], own := [46], mask := [(5, [0, 4, 5, 6, 7, 13, 14], [])] }
theorem r364 : FnOK Tryz.prog mds 364 c364 := .read (pol := p364) (d := d364) Tryz.func364 (by kernel_rfl) (by kernel_rfl) rfl rfl (by kernel_rfl)

def d371 : DFn := ⟨[(.c .one), (.c .one), (.c .one)], [(.c .one)], .rw, [.tmp 6],
(s [mK 6 (.it .i64 0)]
(s [mV 8 1, mV 9 0, mV 10 2, nK 11 9, fA 12 0 11, o 13 (.iaa 32 1 (t 12) (t 10)), lD 14 1 13, o 15 (b .sub (t 8) (t 14)), mV 7 15]
(.seq (s [mV 16 7, o 17 (b .lss (t 16) (k 0)), mV 18 17, x 19 18 (.mov (t 7)), x 20 18 (.mov (t 0)), x 21 18 (.mov (t 2)), x 22 18 (.nck (t 20)), x 23 18 (.fad 32 (t 22)), x 24 18 (.iaa 32 1 (t 23) (t 21)), x 25 18 (.ld 1 false (t 24)), x 26 18 (b .geq (t 19) (t 25)), o 27 (.pick (t 18) (.k (.bo true)) (t 26))]
(.cond (t 27)
(s [mK 6 (.it .i64 (-1))]
.ret)
.skip))
(.seq (.reg true [
mV 28 0, mV 29 0, mV 30 2, nK 31 29, fA 32 64 31, o 33 (.iaa 32 1 (t 32) (t 30)), lD 34 1 33, mV 35 7, o 36 (b .add (t 34) (t 35)), nK 37 28, fA 38 96 37, o 39 (.iaa 257 1 (t 38) (t 36)), lD 40 1 39, mV 6 40] [])
.ret))))⟩
def c371 : Ev.Fn := d371.den
def p371 : Pol := P0 .rw
theorem r371 : FnOK Tryz.prog mds 371 c371 := .read (pol := p371) (d := d371) Tryz.func371 (by kernel_rfl) (by kernel_rfl) rfl rfl (by kernel_rfl)

def c119 : Ev.Fn := itoaFn
theorem r119 : FnOK Tryz.prog mds 119 c119 := ⟨by kernel_rfl, .inr fun call L h => itoa_run call L⟩

def c198 : Ev.Fn := fn198
theorem r198 : FnOK Tryz.prog mds 198 c198 := ⟨by kernel_rfl, .inr fun call L h => ins_run call L⟩

def c247 : Ev.Fn := cGrd
theorem r247 : FnOK Tryz.prog mds 247 c247 := ⟨by kernel_rfl, .inr fun call L h => grd_run call L h⟩

def c325 : Ev.Fn := del.fn325
theorem r325 : FnOK Tryz.prog mds 325 c325 := ⟨by kernel_rfl, .inr fun call L h => del.del_run call L⟩

def c327 : Ev.Fn := ins2.fn327
theorem r327 : FnOK Tryz.prog mds 327 c327 := ⟨by kernel_rfl, .inr fun call L h => ins2.ins_run call L⟩

def tab : List (Option Ev.Fn) := [none, none, none, none, none, none, some c6, some c7, some c8, none, some c10, some c11, none, some c13, some c14, some c15, some c16, some c17, some c18, none, some c20, none, some c22, none, none, none, some c26, none, some c28, some c29, some c30, some c31, some c32, some c33, some c34, some c35, some c36, some c37, some c38, some c39, some c40, some c41, some c42, some c43, some c44, some c45, some c46, some c47, some c48, some c49, some c50, some c51, some c52, some c53, some c54, some c55, some c56, some c57, some c58, some c59, none, some c61, some c62, some c63, some c64, some c65, none, none, some c68, some c69, some c70, some c71, some c72, some c73, some c74, some c75, some c76, some c77, some c78, none, none, some c81, some c82, some c83, some c84, some c85, some c86, some c87, some c88, some c89, some c90, some c91, some c92, some c93, some c94, some c95, none, none, some c98, some c99, some c100, some c101, some c102, some c103, some c104, some c105, some c106, some c107, some c108, some c109, some c110, none, some c112, some c113, some c114, some c115, some c116, some c117, some c118, some c119, some c120, none, some c122, some c123, some c124, some c125, some c126, some c127, none, none, none, none, some c132, some c133, none, some c135, some c136, some c137, some c138, some c139, some c140, some c141, some c142, some c143, some c144, some c145, some c146, none, some c148, none, some c150, some c151, none, some c153, some c154, some c155, none, none, some c158, some c159, none, some c161, some c162, none, some c164, some c165, none, some c167, some c168, some c169, some c170, none, none, some c173, some c174, some c175, some c176, some c177, none, none, some c180, some c181, some c182, some c183, none, some c185, none, none, some c188, some c189, none, none, none, some c193, none, some c195, some c196, some c197, some c198, some c199, none, some c201, some c202, some c203, some c204, some c205, some c206, some c207, some c208, none, none, some c211, some c212, some c213, none, none, none, some c217, some c218, some c219, some c220, some c221, none, some c223, none, some c225, none, some c227, some c228, some c229, some c230, some c231, some c232, none, some c234, some c235, some c236, none, none, some c239, some c240, none, none, some c243, some c244, some c245, some c246, some c247, some c248, some c249, some c250, some c251, none, none, none, none, none, none, none, none, none, some c261, some c262, some c263, some c264, some c265, some c266, some c267, some c268, some c269, some c270, some c271, none, none, some c274, none, none, none, none, some c279, some c280, some c281, none, none, some c284, some c285, some c286, some c287, none, some c289, none, none, none, some c293, some c294, some c295, none, none, some c298, some c299, some c300, some c301, none, none, none, none, none, none, none, none, none, some c311, none, none, none, some c315, some c316, some c317, some c318, some c319, some c320, some c321, none, none, none, some c325, some c326, some c327, none, none, none, none, some c332, none, none, none, none, none, none, some c339, some c340, some c341, none, none, none, none, none, some c347, some c348, some c349, none, some c351, none, none, none, none, none, none, none, none, none, none, none, none, some c364, none, none, none, none, none, none, some c371]
def F (n : Nat) : Option Ev.Fn := (tab[n]?).join

inductive Good : Nat → List (Option Ev.Fn) → Prop
  | nil (k : Nat) : Good k []
  | none {k : Nat} {l : List (Option Ev.Fn)} (h : Good (k + 1) l) : Good k (none :: l)
  | some {k : Nat} {c : Ev.Fn} {l : List (Option Ev.Fn)} (h : FnOK Tryz.prog mds k c) (t : Good (k + 1) l) : Good k (some c :: l)

theorem Good.get {k : Nat} {l : List (Option Ev.Fn)} (h : Good k l) : ∀ (n : Nat) (c : Ev.Fn), (l[n]?).join = Option.some c → FnOK Tryz.prog mds (k + n) c := by
  induction h with
  | nil k => intro n c h; simp at h
  | none h ih =>
    intro n c hc
    cases n with
    | zero => simp at hc
    | succ n => have := ih n c (by simpa using hc); rw [Nat.add_assoc, Nat.add_comm 1 n] at this; exact this
  | some h t ih =>
    intro n c hc
    cases n with
    | zero => simp at hc; subst hc; exact h
    | succ n => have := ih n c (by simpa using hc); rw [Nat.add_assoc, Nat.add_comm 1 n] at this; exact this

theorem good : Good 0 tab := by
  unfold tab
  refine .none ?_
  refine .none ?_
  refine .none ?_
  refine .none ?_
  refine .none ?_
  refine .none ?_
  refine .some r6 ?_
  refine .some r7 ?_
  refine .some r8 ?_
  refine .none ?_
  refine .some r10 ?_
  refine .some r11 ?_
  refine .none ?_
  refine .some r13 ?_
  refine .some r14 ?_
  refine .some r15 ?_
  refine .some r16 ?_
  refine .some r17 ?_
  refine .some r18 ?_
  refine .none ?_
  refine .some r20 ?_
  refine .none ?_
  refine .some r22 ?_
  refine .none ?_
  refine .none ?_
  refine .none ?_
  refine .some r26 ?_
  refine .none ?_
  refine .some r28 ?_
  refine .some r29 ?_
  refine .some r30 ?_
  refine .some r31 ?_
  refine .some r32 ?_
  refine .some r33 ?_
  refine .some r34 ?_
  refine .some r35 ?_
  refine .some r36 ?_
  refine .some r37 ?_
  refine .some r38 ?_
  refine .some r39 ?_
  refine .some r40 ?_
  refine .some r41 ?_
  refine .some r42 ?_
  refine .some r43 ?_
  refine .some r44 ?_
  refine .some r45 ?_
  refine .some r46 ?_
  refine .some r47 ?_
  refine .some r48 ?_
  refine .some r49 ?_
  refine .some r50 ?_
  refine .some r51 ?_
  refine .some r52 ?_
  refine .some r53 ?_
  refine .some r54 ?_
  refine .some r55 ?_
  refine .some r56 ?_
  refine .some r57 ?_
  refine .some r58 ?_
  refine .some r59 ?_
  refine .none ?_
  refine .some r61 ?_
  refine .some r62 ?_
  refine .some r63 ?_
  refine .some r64 ?_
  refine .some r65 ?_
  refine .none ?_
  refine .none ?_
  refine .some r68 ?_
  refine .some r69 ?_
  refine .some r70 ?_
  refine .some r71 ?_
  refine .some r72 ?_
  refine .some r73 ?_
  refine .some r74 ?_
  refine .some r75 ?_
  refine .some r76 ?_
  refine .some r77 ?_
  refine .some r78 ?_
  refine .none ?_
  refine .none ?_
  refine .some r81 ?_
  refine .some r82 ?_
  refine .some r83 ?_
  refine .some r84 ?_
  refine .some r85 ?_
  refine .some r86 ?_
  refine .some r87 ?_
  refine .some r88 ?_
  refine .some r89 ?_
  refine .some r90 ?_
  refine .some r91 ?_
  refine .some r92 ?_
  refine .some r93 ?_
  refine .some r94 ?_
  refine .some r95 ?_
  refine .none ?_
  refine .none ?_
  refine .some r98 ?_
  refine .some r99 ?_
  refine .some r100 ?_
  refine .some r101 ?_
  refine .some r102 ?_
  refine .some r103 ?_
  refine .some r104 ?_
  refine .some r105 ?_
  refine .some r106 ?_
  refine .some r107 ?_
  refine .some r108 ?_
  refine .some r109 ?_
  refine .some r110 ?_
  refine .none ?_
  refine .some r112 ?_
  refine .some r113 ?_
  refine .some r114 ?_
  refine .some r115 ?_
  refine .some r116 ?_
  refine .some r117 ?_
  refine .some r118 ?_
  refine .some r119 ?_
  refine .some r120 ?_
  refine .none ?_
  refine .some r122 ?_
  refine .some r123 ?_
  refine .some r124 ?_
  refine .some r125 ?_
  refine .some r126 ?_
  refine .some r127 ?_
  refine .none ?_
  refine .none ?_
  refine .none ?_
  refine .none ?_
  refine .some r132 ?_
  refine .some r133 ?_
  refine .none ?_
  refine .some r135 ?_
  refine .some r136 ?_
  refine .some r137 ?_
  refine .some r138 ?_
  refine .some r139 ?_
  refine .some r140 ?_
  refine .some r141 ?_
  refine .some r142 ?_
  refine .some r143 ?_
  refine .some r144 ?_
  refine .some r145 ?_
  refine .some r146 ?_
  refine .none ?_
  refine .some r148 ?_
  refine .none ?_
  refine .some r150 ?_
  refine .some r151 ?_
  refine .none ?_
  refine .some r153 ?_
  refine .some r154 ?_
  refine .some r155 ?_
  refine .none ?_
  refine .none ?_
  refine .some r158 ?_
  refine .some r159 ?_
  refine .none ?_
  refine .some r161 ?_
  refine .some r162 ?_
  refine .none ?_
  refine .some r164 ?_
  refine .some r165 ?_
  refine .none ?_
  refine .some r167 ?_
  refine .some r168 ?_
  refine .some r169 ?_
  refine .some r170 ?_
  refine .none ?_
  refine .none ?_
  refine .some r173 ?_
  refine .some r174 ?_
  refine .some r175 ?_
  refine .some r176 ?_
  refine .some r177 ?_
  refine .none ?_
  refine .none ?_
  refine .some r180 ?_
  refine .some r181 ?_
  refine .some r182 ?_
  refine .some r183 ?_
  refine .none ?_
  refine .some r185 ?_
  refine .none ?_
  refine .none ?_
  refine .some r188 ?_
  refine .some r189 ?_
  refine .none ?_
  refine .none ?_
  refine .none ?_
  refine .some r193 ?_
  refine .none ?_
  refine .some r195 ?_
  refine .some r196 ?_
  refine .some r197 ?_
  refine .some r198 ?_
  refine .some r199 ?_
  refine .none ?_
  refine .some r201 ?_
  refine .some r202 ?_
  refine .some r203 ?_
  refine .some r204 ?_
  refine .some r205 ?_
  refine .some r206 ?_
  refine .some r207 ?_
  refine .some r208 ?_
  refine .none ?_
  refine .none ?_
  refine .some r211 ?_
  refine .some r212 ?_
  refine .some r213 ?_
  refine .none ?_
  refine .none ?_
  refine .none ?_
  refine .some r217 ?_
  refine .some r218 ?_
  refine .some r219 ?_
  refine .some r220 ?_
  refine .some r221 ?_
  refine .none ?_
  refine .some r223 ?_
  refine .none ?_
  refine .some r225 ?_
  refine .none ?_
  refine .some r227 ?_
  refine .some r228 ?_
  refine .some r229 ?_
  refine .some r230 ?_
  refine .some r231 ?_
  refine .some r232 ?_
  refine .none ?_
  refine .some r234 ?_
  refine .some r235 ?_
  refine .some r236 ?_
  refine .none ?_
  refine .none ?_
  refine .some r239 ?_
  refine .some r240 ?_
  refine .none ?_
  refine .none ?_
  refine .some r243 ?_
  refine .some r244 ?_
  refine .some r245 ?_
  refine .some r246 ?_
  refine .some r247 ?_
  refine .some r248 ?_
  refine .some r249 ?_
  refine .some r250 ?_
  refine .some r251 ?_
  refine .none ?_
  refine .none ?_
  refine .none ?_
  refine .none ?_
  refine .none ?_
  refine .none ?_
  refine .none ?_
  refine .none ?_
  refine .none ?_
  refine .some r261 ?_
  refine .some r262 ?_
  refine .some r263 ?_
  refine .some r264 ?_
  refine .some r265 ?_
  refine .some r266 ?_
  refine .some r267 ?_
  refine .some r268 ?_
  refine .some r269 ?_
  refine .some r270 ?_
  refine .some r271 ?_
  refine .none ?_
  refine .none ?_
  refine .some r274 ?_
  refine .none ?_
  refine .none ?_
  refine .none ?_
  refine .none ?_
  refine .some r279 ?_
  refine .some r280 ?_
  refine .some r281 ?_
  refine .none ?_
  refine .none ?_
  refine .some r284 ?_
  refine .some r285 ?_
  refine .some r286 ?_
  refine .some r287 ?_
  refine .none ?_
  refine .some r289 ?_
  refine .none ?_
  refine .none ?_
  refine .none ?_
  refine .some r293 ?_
  refine .some r294 ?_
  refine .some r295 ?_
  refine .none ?_
  refine .none ?_
  refine .some r298 ?_
  refine .some r299 ?_
  refine .some r300 ?_
  refine .some r301 ?_
  refine .none ?_
  refine .none ?_
  refine .none ?_
  refine .none ?_
  refine .none ?_
  refine .none ?_
  refine .none ?_
  refine .none ?_
  refine .none ?_
  refine .some r311 ?_
  refine .none ?_
  refine .none ?_
  refine .none ?_
  refine .some r315 ?_
  refine .some r316 ?_
  refine .some r317 ?_
  refine .some r318 ?_
  refine .some r319 ?_
  refine .some r320 ?_
  refine .some r321 ?_
  refine .none ?_
  refine .none ?_
  refine .none ?_
  refine .some r325 ?_
  refine .some r326 ?_
  refine .some r327 ?_
  refine .none ?_
  refine .none ?_
  refine .none ?_
  refine .none ?_
  refine .some r332 ?_
  refine .none ?_
  refine .none ?_
  refine .none ?_
  refine .none ?_
  refine .none ?_
  refine .none ?_
  refine .some r339 ?_
  refine .some r340 ?_
  refine .some r341 ?_
  refine .none ?_
  refine .none ?_
  refine .none ?_
  refine .none ?_
  refine .none ?_
  refine .some r347 ?_
  refine .some r348 ?_
  refine .some r349 ?_
  refine .none ?_
  refine .some r351 ?_
  refine .none ?_
  refine .none ?_
  refine .none ?_
  refine .none ?_
  refine .none ?_
  refine .none ?_
  refine .none ?_
  refine .none ?_
  refine .none ?_
  refine .none ?_
  refine .none ?_
  refine .none ?_
  refine .some r364 ?_
  refine .none ?_
  refine .none ?_
  refine .none ?_
  refine .none ?_
  refine .none ?_
  refine .none ?_
  refine .some r371 ?_
  exact .nil _

theorem table : Table Tryz.prog F mds where
  mixed := by kernel_rfl
  fns := fun f fn h => by
    have := good.get f fn h
    rw [Nat.zero_add] at this
    exact this

end Go.Proofs.YtnnhhfjkkmakaaaGreatDoor.tab
