import Derived.Test.YtnnhhfjkkmakaaaGreatDoorTabx1
import Derived.KernelRfl
/- the functions of the seat, read off the program -/
namespace Go.Proofs.YtnnhhfjkkmakaaaGreatDoor.tab
open Go hiding Fn
open Ev

def d151 : DFn := ⟨[(.g [.one, .one, .one, (.sl [.one])]), (.g [.one, .one, .one, .one, .one, (.sl [.one]), .one, .one, .one, .one, (.sl [.one, .one])])], [(.g [.one, .one, .one, .one, .one, (.sl [.one]), .one, .one, .one, .one, (.sl [.one, .one])]), (.g [.one, .one, .one])], .pure, [.cell 4 11 true, .cell 5 3 true],
(s [o 2 (.box (t 0)), o 3 (.box (t 1)), o 4 (.alc [(.it .i64 0), (.it .i64 0), (.bo false), (.bo false), (.bo false), .ns, (.it .i64 0), (.it .i64 0), (.it .i64 0), (.it .i64 0), .ns]), o 5 (.alc [(.it .i64 0), (.it .i64 0), (.it .i64 0)])]
(s [lQ 10 4 2, cP 11 199 [t 10], mV 9 11, eX 12 9 0, eX 13 9 1, eX 14 9 2, mV 6 12, mV 7 13, mV 8 14]
(.seq (s [mV 15 8, o 16 (.un .not (t 15))]
(.cond (t 16)
(s [o 17 (.bld [(.it .i64 0), (.it .i64 0), (.bo false), (.bo false), (.bo false), .ns, (.it .i64 0), (.it .i64 0), (.it .i64 0), (.it .i64 0), .ns] []), cP 18 149 [(k 6)], sO 11 4 17, sO 3 5 18]
.ret)
.skip))
(.seq (.seq (.reg false [
fA 19 1 2, lD 20 1 19, o 21 (b .and (t 20) (k 32)), o 22 (b .neq (t 21) (k 0))] [19])
(.cond (t 22)
(.seq (.seq (.reg false [
mV 23 7, lN 24 false 23, o 25 (b .lss (t 24) (k 5))] [])
(.cond (t 25)
(s [o 26 (.bld [(.it .i64 0), (.it .i64 0), (.bo false), (.bo false), (.bo false), .ns, (.it .i64 0), (.it .i64 0), (.it .i64 0), (.it .i64 0), .ns] []), cP 27 149 [(k 6)], sO 11 4 26, sO 3 5 27]
.ret)
.skip))
(.seq (.seq (.reg true [
mV 28 7, fA 30 2 2, lD 31 1 30, cP 29 156 [t 28], o 32 (b .eql (t 29) (t 31))] [30])
(.cond (t 32)
(.seq (.reg false [
o 33 (.bld [(.it .i64 0), (.it .i64 0), (.bo false), (.bo false), (.bo false), .ns, (.it .i64 0), (.it .i64 0), (.it .i64 0), (.it .i64 0), .ns] []), fA 34 2 2, lD 35 1 34, cP 36 200 [(k 1), t 35], sO 11 4 33, sO 3 5 36] [34])
.ret)
.skip))
(.reg false [
mV 37 7, o 38 (.slc false 1 (t 37) (some (k 5)) none), mV 7 38] [])))
.skip))
(.seq (.seq (r [mV 39 6, mV 40 7, lN 41 false 40, o 42 (b .gtr (t 39) (t 41))])
(.cond (t 42)
(s [o 43 (.bld [(.it .i64 0), (.it .i64 0), (.bo false), (.bo false), (.bo false), .ns, (.it .i64 0), (.it .i64 0), (.it .i64 0), (.it .i64 0), .ns] []), cP 44 149 [(k 1)], sO 11 4 43, sO 3 5 44]
.ret)
.skip))
(.seq (.reg true [
fA 45 1 2, lD 46 1 45, o 47 (b .and (t 46) (k 1)), o 48 (b .neq (t 47) (k 0)), fA 49 1 2, lD 50 1 49, o 51 (b .and (t 50) (k 4)), o 52 (b .neq (t 51) (k 0)), mV 53 7, mV 54 7, lN 55 false 54, mV 56 6, o 57 (b .sub (t 55) (t 56)), o 58 (.slc false 1 (t 53) none (some (t 57))), fA 60 2 3, cP 59 155 [t 58], ⟨none, none, [49], .sto 1 (t 60) (t 48)⟩, fA 61 3 3, sO 1 61 52, fA 62 5 3, sO 1 62 59] [45, 49, 60, 61, 62])
(s [lQ 63 11 3, o 64 (.bld [(.it .i64 0), (.it .i64 0), (.it .i64 0)] []), sO 11 4 63, sO 3 5 64]
.ret)))))))⟩
def c151 : Ev.Fn := d151.den
def p151 : Pol := { P0 .pure with loc := [2, 3, 4, 5], ord := [(7, [0, 2, 3, 1, 4]), (12, [0, 1, 2, 3, 4, 5, 6, 7, 8, 9, 10, 11, 12, 13, 15, 14, 16, 17, 18, 19, 20])], clr := [(4, [19]), (7, [30]), (8, [34]), (12, [45, 49, 60, 61, 62])] }
theorem r151 : FnOK Tryz.prog mds 151 c151 := .read (pol := p151) (d := d151) Tryz.func151 (by kernel_rfl) (by kernel_rfl) rfl rfl (by kernel_rfl)

def d153 : DFn := ⟨[(.c (.sl [.one]))], [(.c .one)], .pure, [.tmp 2],
(s [mK 2 (.it .i64 0)]
(.seq (.reg true [
mV 3 0, o 4 (.ias 1 (t 3) (k 0)), lD 5 1 4, cV 6 .i64 5, o 7 (b .shl (t 6) (.k (.it .u64 24))), mV 8 0, o 9 (.ias 1 (t 8) (k 1)), lD 10 1 9, cV 11 .i64 10, o 12 (b .shl (t 11) (.k (.it .u64 16))), o 13 (b .or (t 7) (t 12)), mV 14 0, o 15 (.ias 1 (t 14) (k 2)), lD 16 1 15, cV 17 .i64 16, o 18 (b .shl (t 17) (.k (.it .u64 8))), o 19 (b .or (t 13) (t 18)), mV 20 0, o 21 (.ias 1 (t 20) (k 3)), lD 22 1 21, cV 23 .i64 22, o 24 (b .or (t 19) (t 23)), mV 2 24] [])
.ret))⟩
def c153 : Ev.Fn := d153.den
def p153 : Pol := P0 .pure
theorem r153 : FnOK Tryz.prog mds 153 c153 := .read (pol := p153) (d := d153) Tryz.func153 (by kernel_rfl) (by kernel_rfl) rfl rfl (by kernel_rfl)

def d154 : DFn := ⟨[(.g [.one, .one, .one, (.sl [.one])]), (.g [.one, .one, .one, .one, .one, (.sl [.one]), .one, .one, .one, .one, (.sl [.one, .one])])], [(.g [.one, .one, .one, .one, .one, (.sl [.one]), .one, .one, .one, .one, (.sl [.one, .one])]), (.g [.one, .one, .one])], .rw, [.cell 4 11 true, .cell 5 3 true],
(s [o 2 (.box (t 0)), o 3 (.box (t 1)), o 4 (.alc [(.it .i64 0), (.it .i64 0), (.bo false), (.bo false), (.bo false), .ns, (.it .i64 0), (.it .i64 0), (.it .i64 0), (.it .i64 0), .ns]), o 5 (.alc [(.it .i64 0), (.it .i64 0), (.it .i64 0)])]
(.seq (.reg false [
fA 9 1 2, lD 10 1 9, o 11 (b .and (t 10) (k 1)), o 12 (b .neq (t 11) (k 0)), fA 13 4 3, sO 1 13 12] [9, 13])
(.seq (.reg false [
fA 14 3 2, lD 15 1 14, mV 6 15] [14])
(.seq (.seq (.reg false [
fA 16 4 3, lD 17 1 16, mV 18 17, w 19 18 (.mov (t 6)), w 20 18 (.len false (t 19)), w 21 18 (b .gtr (t 20) (k 0)), o 22 (.pick (t 18) (t 21) (.k (.bo false))), mV 23 22, x 24 23 (.mov (t 6)), x 25 23 (.len false (t 24)), x 26 23 (b .rem (t 25) (k 6)), x 27 23 (b .neq (t 26) (k 0)), o 28 (.pick (t 23) (.k (.bo true)) (t 27))] [16])
(.cond (t 28)
(.seq (.reg false [
o 29 (.bld [(.it .i64 0), (.it .i64 0), (.bo false), (.bo false), (.bo false), .ns, (.it .i64 0), (.it .i64 0), (.it .i64 0), (.it .i64 0), .ns] []), cP 30 149 [(k 6)], sO 11 4 29, sO 3 5 30] [])
.ret)
.skip))
(.seq (.blk 0 (.loop [3, 4, 5, 6] [2, 7]
(.seq (s [mV 31 6, lN 32 false 31, o 33 (b .gtr (t 32) (k 0))]
(.cond (t 33)
.skip
(.exit 0)))
(.seq (.blk 1 (.seq (.reg true [
mV 36 6, o 37 (.ias 1 (t 36) (k 0)), lD 38 1 37, cV 39 .i64 38, o 40 (b .shl (t 39) (.k (.it .u64 8))), mV 41 6, o 42 (.ias 1 (t 41) (k 1)), lD 43 1 42, cV 44 .i64 43, o 45 (b .or (t 40) (t 44)), mV 46 6, o 47 (.slc false 1 (t 46) (some (k 2)) none), u 7 [36, 37, 38, 41, 42, 43, 46] (.alc [(.it .i64 0), (.it .i64 0)]), cP 48 153 [t 47], o 49 (.bld [(.it .i64 0), (.it .i64 0)] [(0, 1, (t 45)), (1, 1, (t 48))]), sO 2 7 49] [])
(.seq (s [lQ 50 2 7, cP 51 201 [t 50], mV 8 51]
(s [mV 52 8, o 53 (b .neq (t 52) (k 0))]
(.cond (t 53)
(s [o 54 (.bld [(.it .i64 0), (.it .i64 0), (.bo false), (.bo false), (.bo false), .ns, (.it .i64 0), (.it .i64 0), (.it .i64 0), (.it .i64 0), .ns] []), mV 55 8, cP 56 149 [t 55], sO 11 4 54, sO 3 5 56]
.ret)
.skip)))
(.reg false [
fA 57 10 3, lD 58 1 57, lQ 59 2 7, o 60 (.bsv [.one, .one] 2 [[(.it .i64 0), (.it .i64 0)]] [(0, (t 59))]), o 61 (.app 2 16 (t 58) (t 60)), fA 62 10 3, sO 1 62 61] [57, 62]))))
(.reg false [
mV 34 6, o 35 (.slc false 1 (t 34) (some (k 6)) none), mV 6 35] [])))))
(s [lQ 63 11 3, o 64 (.bld [(.it .i64 0), (.it .i64 0), (.it .i64 0)] []), sO 11 4 63, sO 3 5 64]
.ret))))))⟩
def c154 : Ev.Fn := d154.den
def p154 : Pol := { P0 .rw with loc := [2, 3, 4, 5, 7], ord := [(7, [0, 1, 2, 3, 4, 5, 6, 7, 8, 9, 10, 11, 14, 12, 13, 15])], clr := [(1, [9, 13]), (2, [14]), (3, [16]), (11, [57, 62])], mask := [(5, [3, 4, 5, 6], [2, 7])] }
theorem r154 : FnOK Tryz.prog mds 154 c154 := .read (pol := p154) (d := d154) Tryz.func154 (by kernel_rfl) (by kernel_rfl) rfl rfl (by kernel_rfl)

def d155 : DFn := ⟨[(.c (.sl [.one]))], [(.c (.sl [.one]))], .pure, [.tmp 2],
(s [mK 2 .ns]
(s [mV 3 0, o 4 (.app 1 1 (.k .ns) (t 3)), mV 2 4]
.ret))⟩
def c155 : Ev.Fn := d155.den
def p155 : Pol := P0 .pure
theorem r155 : FnOK Tryz.prog mds 155 c155 := .read (pol := p155) (d := d155) Tryz.func155 (by kernel_rfl) (by kernel_rfl) rfl rfl (by kernel_rfl)

def d158 : DFn := ⟨[(.c .one), (.c .one)], [(.c .one)], .rw, [.tmp 4],
(s [mK 4 (.bo false)]
(.seq (s [mV 5 1, o 6 (b .rem (t 5) (k 2)), o 7 (b .eql (t 6) (k 0))]
(.cond (t 7)
(s [mK 4 (.bo true)]
.ret)
.skip))
(.seq (s [mV 8 0, nK 9 8, fA 10 0 9, lD 11 1 10]
(.cond (t 11)
(s [mV 12 1, mV 13 0, nK 14 13, fA 15 16 14, lD 16 1 15, o 17 (b .gtr (t 12) (t 16)), mV 4 17]
.ret)
.skip))
(s [mV 18 1, mV 19 0, nK 20 19, fA 21 17 20, lD 22 1 21, o 23 (b .geq (t 18) (t 22)), mV 4 23]
.ret))))⟩
def c158 : Ev.Fn := d158.den
def p158 : Pol := P0 .rw
theorem r158 : FnOK Tryz.prog mds 158 c158 := .read (pol := p158) (d := d158) Tryz.func158 (by kernel_rfl) (by kernel_rfl) rfl rfl (by kernel_rfl)

def d159 : DFn := ⟨[(.c .one), (.c .one)], [(.c .one)], .rw, [.tmp 4],
(s [mK 4 (.bo false)]
(s [mV 5 0, nK 6 5, fA 7 18 6, lD 8 1 7, mV 9 1, cP 10 202 [t 8, t 9], mV 4 10]
.ret))⟩
def c159 : Ev.Fn := d159.den
def p159 : Pol := P0 .rw
theorem r159 : FnOK Tryz.prog mds 159 c159 := .read (pol := p159) (d := d159) Tryz.func159 (by kernel_rfl) (by kernel_rfl) rfl rfl (by kernel_rfl)

def d161 : DFn := ⟨[(.c .one), (.g [.one, .one, .one, .one, .one, (.sl [.one]), .one, .one, .one, .one, (.sl [.one, .one])])], [], .rw, [],
(s [o 3 (.box (t 1))]
(.seq (.seq (.reg false [
mV 7 0, fA 8 1 3, lD 9 1 8, cR 10 158 [t 7, t 9]] [8])
(.cond (t 10)
(.seq (.reg false [
mV 11 0, cR 12 60 [t 11, (k 1)]] [])
.ret)
.skip))
(s [mK 4 (.bo false)]
(.seq (.seq (.reg true [
mV 14 0, mV 15 0, nK 16 15, fA 17 14 16, lQ 18 1 17, fA 19 9 3, lD 20 1 19, o 21 (.call true .pure 64 [t 18, t 20]), mV 13 21, eX 22 13 0, eX 23 13 1, nK 24 14, fA 25 14 24, sO 1 25 22, mV 4 23] [19])
(s [mV 26 4, o 27 (.un .not (t 26))]
(.cond (t 27)
(s [mV 28 0, cR 29 60 [t 28, (k 3)]]
.ret)
.skip)))
(.seq (.seq (.reg false [
mV 30 0, fA 31 1 3, lD 32 1 31, cR 33 159 [t 30, t 32]] [31])
(.cond (t 33)
(.seq (.reg false [
mV 34 0, fA 35 1 3, lD 36 1 35, fA 37 9 3, lD 38 1 37, cR 39 203 [t 34, t 36, t 38]] [35, 37])
.ret)
.skip))
(.seq (.reg false [
mV 40 0, fA 41 1 3, lD 42 1 41, cR 43 61 [t 40, t 42], mV 5 43] [41])
(.seq (.seq (.reg false [
mV 44 5, fA 45 9 3, lD 46 1 45, cR 47 204 [t 44, t 46], mV 6 47] [45])
(.seq (.reg false [
mV 48 6, o 49 (b .neq (t 48) (k 0))] [])
(.cond (t 49)
(.seq (.seq (.reg false [
mV 50 0, fA 51 1 3, lD 52 1 51, mV 53 6, cR 54 160 [t 50, t 52, t 53]] [51])
(.cond (t 54)
(.reg false [
mV 55 0, fA 56 1 3, lD 57 1 56, fA 58 9 3, lD 59 1 58, cR 60 203 [t 55, t 57, t 59]] [56, 58])
.skip))
.ret)
.skip)))
(.seq (.reg true [
mV 62 5, mV 63 5, nK 64 63, fA 65 3 64, lQ 66 1 65, fA 67 9 3, lD 68 1 67, o 69 (.call true .pure 64 [t 66, t 68]), mV 61 69, eX 70 61 0, eX 71 61 1, nK 72 62, fA 73 3 72, sO 1 73 70] [67])
(.seq (.seq (.reg false [
fA 74 2 3, lD 75 1 74] [74])
(.cond (t 75)
(.reg false [
mV 76 0, mV 77 5, cR 78 65 [t 76, t 77, (k 3)]] [])
.skip))
(.seq (.reg false [
mV 79 0, fA 80 1 3, lD 81 1 80, fA 82 9 3, lD 83 1 82, fA 84 5 3, lD 85 1 84, lN 86 false 85, o 87 (b .sub (t 83) (t 86)), cR 88 203 [t 79, t 81, t 87]] [80, 82, 84])
(.cond (t 88)
(.reg false [
mV 89 0, fA 90 1 3, lD 91 1 90, fA 92 5 3, lD 93 1 92, o 94 (.cnv .b2s (t 93)), fA 95 2 3, lD 96 1 95, o 97 (.bld [(.it .i64 0), (.it .i64 0), .ns, (.st []), (.bo false), (.it .i64 0)] [(0, 1, (k 3)), (1, 1, (t 91)), (3, 1, (t 94)), (4, 1, (t 96))]), cR 98 114 [t 89, t 97]] [90, 92, 95])
.skip)))))))))))⟩
def c161 : Ev.Fn := d161.den
def p161 : Pol := { P0 .rw with loc := [3], heap := [21, 69], own := [21, 69], clr := [(1, [8]), (4, [19]), (7, [31]), (8, [35, 37]), (9, [41]), (10, [45]), (12, [51]), (13, [56, 58]), (14, [67]), (15, [74]), (17, [80, 82, 84]), (18, [90, 92, 95])] }
theorem r161 : FnOK Tryz.prog mds 161 c161 := .read (pol := p161) (d := d161) Tryz.func161 (by kernel_rfl) (by kernel_rfl) rfl rfl (by kernel_rfl)

def d162 : DFn := ⟨[(.c .one), (.c .one)], [], .rw, [],
(.seq (.seq (.reg false [
mV 11 1, o 12 (.un .not (t 11))] [])
(.cond (t 12)
.ret
.skip))
(s [mV 13 0, nK 14 13, fA 15 19 14, lQ 16 3 15, o 4 (.alc [(.it .i64 0), (.bo false), .ns]), sO 3 4 16]
(s [mV 17 0, o 18 (.bld [(.it .i64 0), (.bo false), .ns] []), nK 19 17, fA 20 19 19, sO 3 20 18]
(.seq (.reg true [
mV 22 0, nK 23 22, fA 24 10 23, lD 25 1 24, fA 26 2 4, lD 27 1 26, cR 28 205 [t 25, t 27], mV 21 28, eX 29 21 0, eX 30 21 1, mV 5 29, mV 6 30] [26])
(.seq (s [mV 31 6, o 32 (b .eql (t 31) (k 2))]
(.cond (t 32)
(s [mV 33 0, cR 34 60 [t 33, (k 11)]]
.ret)
.skip))
(.seq (s [mV 35 6, o 36 (b .neq (t 35) (k 0))]
(.cond (t 36)
(s [mV 37 0, cR 38 60 [t 37, (k 9)]]
.ret)
.skip))
(s [mK 7 .ns]
(.seq (s [mV 39 5, lN 40 false 39, mK 41 (.it .i64 0)]
(.blk 0 (.loop [0, 4, 7, 39, 40, 41] [9]
(s [o 42 (b .lss (t 41) (t 40))]
(.seq (.cond (t 42)
.skip
(.exit 0))
(.seq (.blk 1 (s [o 43 (.ias 3 (t 39) (t 41)), lQ 44 3 43, o 9 (.alc [(.st []), (.st []), (.it .i64 0)]), sO 3 9 44]
(.reg false [
mV 45 7, fA 46 0 9, lQ 47 2 46, o 48 (.bsv [.one, .one] 2 [[(.st []), (.st [])]] [(0, (t 47))]), o 49 (.app 2 32 (t 45) (t 48)), mV 7 49] [46])))
(.reg false [
o 50 (b .add (t 41) (k 1)), mV 41 50] [])))))))
(.seq (.reg false [
mV 51 0, fA 52 0 4, lD 53 1 52, cR 54 206 [t 51, t 53], mV 10 54] [52])
(.seq (.reg false [
mV 55 10, o 56 (.bin .ptr .neq (t 55) (.k .np))] [])
(.cond (t 56)
(.reg false [
mV 57 0, mV 58 10, mV 59 7, fA 60 1 4, lD 61 1 60, cR 62 207 [t 57, t 58, t 59, t 61]] [60])
.skip)))))))))))⟩
def c162 : Ev.Fn := d162.den
def p162 : Pol := { P0 .rw with loc := [4, 9], heap := [49], own := [49], clr := [(3, [26]), (12, [46]), (14, [52]), (16, [60])], mask := [(10, [0, 4, 7, 39, 40, 41], [9])] }
theorem r162 : FnOK Tryz.prog mds 162 c162 := .read (pol := p162) (d := d162) Tryz.func162 (by kernel_rfl) (by kernel_rfl) rfl rfl (by kernel_rfl)

def d164 : DFn := ⟨[(.c .one), (.c (.sl [.one, .one]))], [], .rw, [],
(.seq (s [mV 14 1, lN 15 false 14, mK 16 (.it .i64 0)]
(.blk 0 (.loop [0, 14, 15, 16] [5, 6]
(s [o 17 (b .lss (t 16) (t 15))]
(.seq (.cond (t 17)
.skip
(.exit 0))
(.seq (.blk 1 (s [o 18 (.ias 2 (t 14) (t 16)), lQ 19 2 18, o 5 (.alc [(.it .i64 0), (.it .i64 0)]), sO 2 5 19]
(s [mV 20 0, nK 21 20, fA 22 4 21, lQ 23 5 22, o 6 (.alc [(.it .i64 0), (.it .i64 0), (.it .i64 0), (.it .i64 0), (.it .i64 0)]), sO 5 6 23]
(s [mV 25 0, lQ 26 5 6, lQ 27 2 5, o 28 (.bsv [.one, .one] 2 [[(.it .i64 0), (.it .i64 0)]] [(0, (t 27))]), o 29 (.call true .pure 208 [t 26, t 28]), mV 24 29, eX 30 24 0, eX 31 24 1, nK 32 25, fA 33 4 32, sO 5 33 30]
(.seq (s [mV 34 0, nK 35 34, fA 36 4 35, fA 37 0 36, lD 38 1 37, o 39 (.mnx false (t 38) (k 4096)), mV 7 39]
(.seq (.reg false [
fA 40 0 5, lD 41 1 40, o 42 (b .eql (t 41) (k 1))] [40])
(.cond (t 42)
(.seq (.reg false [
mV 44 0, nK 45 44, fA 46 11 45, lD 47 1 46, cR 48 209 [t 47], mV 43 48, eX 49 43 0, eX 50 43 1, eX 51 43 2, mV 8 49, mV 9 50, mV 10 51] [])
(s [mV 52 10, mV 53 7, o 54 (b .neq (t 52) (t 53))]
(.cond (t 54)
(r [mV 55 0, nK 56 55, fA 57 11 56, lD 58 1 57, mV 59 7, cR 60 210 [t 58, t 59]])
.skip)))
.skip)))
(.seq (.seq (.reg false [
fA 61 0 5, lD 62 1 61, o 63 (b .neq (t 62) (k 4))] [61])
(.cond (t 63)
(.exit 1)
.skip))
(.seq (.reg false [
mV 64 0, nK 65 64, fA 66 15 65, lD 67 1 66, lN 68 false 67, mK 69 (.it .i64 0)] [])
(.blk 2 (.loop [0, 6, 14, 15, 16, 67, 68, 69] [5]
(s [o 70 (b .lss (t 69) (t 68))]
(.seq (.cond (t 70)
.skip
(.exit 2))
(.seq (.blk 3 (s [o 71 (.ias 1 (t 67) (t 69)), lD 72 1 71, mV 12 72]
(s [mK 13 (.bo false)]
(.seq (.reg true [
mV 74 12, mV 75 12, nK 76 75, fA 77 2 76, lQ 78 1 77, fA 79 2 6, lD 80 1 79, mV 81 0, nK 82 81, fA 83 4 82, fA 84 2 83, lD 85 1 84, o 86 (.call true .pure 211 [t 78, t 80, t 85]), mV 73 86, eX 87 73 0, eX 88 73 1, nK 89 74, fA 90 2 89, sO 1 90 87, mV 13 88] [79])
(s [mV 91 13, o 92 (.un .not (t 91))]
(.cond (t 92)
(s [mV 93 0, cR 94 60 [t 93, (k 3)]]
.ret)
.skip))))))
(r [o 95 (b .add (t 69) (k 1)), mV 69 95])))))))))))))
(r [o 96 (b .add (t 16) (k 1)), mV 16 96])))))))
(r [mV 97 0, o 98 (.bld [(.it .i64 0), (.it .i64 0), (.it .i64 0), .ns] [(0, 1, (k 4)), (1, 1, (k 1))]), cR 99 165 [t 97, t 98]]))⟩
def c164 : Ev.Fn := d164.den
def p164 : Pol := { P0 .rw with loc := [5, 6], heap := [29, 86], own := [29, 86], clr := [(6, [40]), (10, [61]), (15, [79])], mask := [(1, [0, 14, 15, 16], [5, 6]), (12, [0, 6, 14, 15, 16, 67, 68, 69], [5])] }
theorem r164 : FnOK Tryz.prog mds 164 c164 := .read (pol := p164) (d := d164) Tryz.func164 (by kernel_rfl) (by kernel_rfl) rfl rfl (by kernel_rfl)

def d165 : DFn := ⟨[(.c .one), (.g [.one, .one, .one, (.sl [.one])])], [(.c .one)], .rw, [.tmp 4],
(s [o 3 (.box (t 1)), mK 4 (.bo false)]
(s [lQ 6 4 3, cP 7 49 [(.k .ns), t 6], mV 5 7]
(.seq (s [mV 8 0, nK 9 8, fA 10 12 9, lD 11 1 10, lN 12 false 11, mV 13 5, lN 14 false 13, o 15 (b .add (t 12) (t 14)), o 16 (b .gtr (t 15) (k 262144))]
(.cond (t 16)
(s [mV 17 0, cR 18 60 [t 17, (k 11)]]
(s [mK 4 (.bo false)]
.ret))
.skip))
(s [mV 19 0, mV 20 0, nK 21 20, fA 22 12 21, lD 23 1 22, mV 24 5, o 25 (.app 1 1 (t 23) (t 24)), nK 26 19, fA 27 12 26, sO 1 27 25]
(s [mK 4 (.bo true)]
.ret)))))⟩
def c165 : Ev.Fn := d165.den
def p165 : Pol := { P0 .rw with loc := [3], heap := [25], own := [25], ord := [(0, [1, 0])] }
theorem r165 : FnOK Tryz.prog mds 165 c165 := .read (pol := p165) (d := d165) Tryz.func165 (by kernel_rfl) (by kernel_rfl) rfl rfl (by kernel_rfl)

def d167 : DFn := ⟨[(.c .one)], [(.c .one)], .pure, [.tmp 2],
(s [mK 2 (.it .i64 0)]
(.seq (s [mV 3 0]
(.cond (t 3)
(s [mK 2 (.it .i64 2)]
.ret)
.skip))
(s [mK 2 (.it .i64 3)]
.ret)))⟩
def c167 : Ev.Fn := d167.den
def p167 : Pol := P0 .pure
theorem r167 : FnOK Tryz.prog mds 167 c167 := .read (pol := p167) (d := d167) Tryz.func167 (by kernel_rfl) (by kernel_rfl) rfl rfl (by kernel_rfl)

def d168 : DFn := ⟨[(.c .one)], [(.c .one)], .pure, [.tmp 2],
(s [mK 2 (.bo false)]
(s [mV 3 0, o 4 (b .eql (t 3) (k 1)), mV 5 4, x 6 5 (.mov (t 0)), x 7 5 (b .eql (t 6) (k 3)), o 8 (.pick (t 5) (.k (.bo true)) (t 7)), mV 2 8]
.ret))⟩
def c168 : Ev.Fn := d168.den
def p168 : Pol := P0 .pure
theorem r168 : FnOK Tryz.prog mds 168 c168 := .read (pol := p168) (d := d168) Tryz.func168 (by kernel_rfl) (by kernel_rfl) rfl rfl (by kernel_rfl)

def d169 : DFn := ⟨[(.c (.sl [.one])), (.c .one)], [(.c (.sl [.one]))], .rw, [.tmp 4],
(s [mK 4 .ns]
(s [mV 8 0, mV 9 1, cR 10 213 [t 8, t 9], mV 5 10]
(.seq (s [mV 11 5, o 12 (b .eql (t 11) (.k (.it .i64 (-1))))]
(.cond (t 12)
(s [mV 13 0, mV 4 13]
.ret)
.skip))
(.seq (s [mV 14 5, o 15 (b .add (t 14) (k 1)), mV 6 15]
(.blk 0 (.loop [0, 1, 5, 6] []
(.seq (s [mV 16 6, mV 17 0, lN 18 false 17, o 19 (b .lss (t 16) (t 18))]
(.cond (t 19)
.skip
(.exit 0)))
(.seq (.blk 1 (s [mV 22 0, mV 23 6, o 24 (.ias 1 (t 22) (t 23)), lD 25 1 24, mV 7 25]
(s [mV 26 1, mV 27 7, o 28 (.calv [] (t 26) [t 27]), o 29 (.un .not (t 28))]
(.cond (t 29)
(s [mV 30 0, mV 31 5, mV 32 7, o 33 (.ias 1 (t 30) (t 31)), sO 1 33 32]
(r [mV 34 5, o 35 (b .add (t 34) (k 1)), mV 5 35]))
.skip))))
(r [mV 20 6, o 21 (b .add (t 20) (k 1)), mV 6 21]))))))
(s [mV 36 0, mV 37 5, o 38 (.slc false 1 (t 36) (some (t 37)) none), n (.clr 1 [.np] (t 38))]
(s [mV 39 0, mV 40 5, o 41 (.slc false 1 (t 39) none (some (t 40))), mV 4 41]
.ret))))))⟩
def c169 : Ev.Fn := d169.den
def p169 : Pol := { P0 .rw with mask := [(5, [0, 1, 5, 6], [])] }
theorem r169 : FnOK Tryz.prog mds 169 c169 := .read (pol := p169) (d := d169) Tryz.func169 (by kernel_rfl) (by kernel_rfl) rfl rfl (by kernel_rfl)

def d170 : DFn := ⟨[(.c .one), (.c .one)], [(.c .one)], .rw, [.tmp 3],
(s [mK 3 (.bo false)]
(.seq (.reg true [
mV 4 0, nK 5 4, fA 6 0 5, lD 7 1 6, lD 8 1 1, o 9 (b .eql (t 7) (t 8)), mV 3 9] [])
.ret))⟩
def c170 : Ev.Fn := d170.den
def p170 : Pol := P0 .rw
theorem r170 : FnOK Tryz.prog mds 170 c170 := .read (pol := p170) (d := d170) Tryz.func170 (by kernel_rfl) (by kernel_rfl) rfl rfl (by kernel_rfl)

def d173 : DFn := ⟨[(.c .one), (.c .one), (.c .one), (.c .one)], [(.c .one)], .rw, [.tmp 8],
(s [mK 8 .np]
(s [mV 12 0, mV 13 1, mV 14 2, cR 15 69 [t 12, t 13, t 14], nK 16 15, fA 17 1 16, lD 18 1 17, mV 9 18]
(.seq (s [mV 19 0, mV 20 1, nK 21 19, fA 22 10 21, o 23 (.iaa 2 1 (t 22) (t 20)), lD 24 1 23, lN 25 false 24, mK 26 (.it .i64 0)]
(.blk 0 (.loop [0, 1, 2, 3, 9, 25, 26] []
(s [o 27 (b .lss (t 26) (t 25))]
(.seq (.cond (t 27)
.skip
(.exit 0))
(.seq (.blk 1 (s [mV 28 26, mV 10 28]
(s [mV 29 0, mV 30 1, nK 31 29, fA 32 10 31, o 33 (.iaa 2 1 (t 32) (t 30)), lD 34 1 33, mV 35 10, o 36 (.ias 9 (t 34) (t 35)), mV 11 36]
(s [mV 37 11, nK 38 37, fA 39 0 38, lD 40 1 39, mV 41 2, o 42 (b .eql (t 40) (t 41)), mV 43 42, w 44 43 (.mov (t 11)), w 45 43 (.nck (t 44)), w 46 43 (.fad 1 (t 45)), w 47 43 (.ld 1 false (t 46)), w 48 43 (.mov (t 9)), w 49 43 (b .eql (t 47) (t 48)), o 50 (.pick (t 43) (t 49) (.k (.bo false))), mV 51 50, w 52 51 (.mov (t 11)), w 53 51 (.nck (t 52)), w 54 51 (.fad 2 (t 53)), w 55 51 (.ld 1 false (t 54)), w 56 51 (.mov (t 3)), w 57 51 (b .eql (t 55) (t 56)), o 58 (.pick (t 51) (t 57) (.k (.bo false)))]
(.cond (t 58)
(s [mV 59 11, mV 8 59]
.ret)
.skip)))))
(r [o 60 (b .add (t 26) (k 1)), mV 26 60])))))))
(.seq (.reg true [
mV 61 0, mV 62 1, mV 63 0, mV 64 1, nK 65 63, fA 66 10 65, o 67 (.iaa 2 1 (t 66) (t 64)), lD 68 1 67, mV 69 2, mV 70 9, mV 71 3, mV 72 0, nK 73 72, fA 74 7 73, lD 75 1 74, nK 80 61, fA 81 10 80, o 76 (.call false .ro 15 [t 75]), o 77 (.bld [(.it .i64 0), (.it .i64 0), (.it .i64 0), .ns, (.st []), (.bo false), (.bo false), (.it .i64 0), (.it .i64 0)] [(0, 1, (t 69)), (1, 1, (t 70)), (2, 1, (t 71)), (8, 1, (t 76))]), o 78 (.bsl 9 [[(.it .i64 0), (.it .i64 0), (.it .i64 0), .ns, (.st []), (.bo false), (.bo false), (.it .i64 0), (.it .i64 0)]] [(0, (t 77))]), o 79 (.app 9 88 (t 68) (t 78)), o 82 (.iaa 2 1 (t 81) (t 62)), sO 1 82 79] [])
(.seq (.reg true [
mV 83 0, mV 84 1, nK 85 83, fA 86 10 85, o 87 (.iaa 2 1 (t 86) (t 84)), lD 88 1 87, mV 89 0, mV 90 1, nK 91 89, fA 92 10 91, o 93 (.iaa 2 1 (t 92) (t 90)), lD 94 1 93, lN 95 false 94, o 96 (b .sub (t 95) (k 1)), o 97 (.ias 9 (t 88) (t 96)), mV 8 97] [])
.ret)))))⟩
def c173 : Ev.Fn := d173.den
def p173 : Pol := { P0 .rw with heap := [79, 78], own := [79], ord := [(9, [0, 1, 2, 3, 4, 5, 6, 7, 8, 9, 10, 11, 12, 13, 14, 19, 20, 15, 16, 17, 18, 21, 22])], mask := [(3, [0, 1, 2, 3, 9, 25, 26], [])] }
theorem r173 : FnOK Tryz.prog mds 173 c173 := .read (pol := p173) (d := d173) Tryz.func173 (by kernel_rfl) (by kernel_rfl) rfl rfl (by kernel_rfl)

def d174 : DFn := ⟨[(.c .one), (.c .one), (.c .one)], [(.c .one)], .rw, [.tmp 6],
(s [mK 6 (.bo false)]
(.seq (s [mV 12 0, nK 13 12, fA 14 24 13, lD 15 1 14, mV 16 15, x 17 16 (.mov (t 2)), x 18 16 (b .lss (t 17) (k 1)), o 19 (.pick (t 16) (.k (.bo true)) (t 18))]
(.cond (t 19)
(s [mK 6 (.bo false)]
.ret)
.skip))
(.seq (s [mV 21 0, nK 22 21, fA 23 14 22, lQ 24 1 23, mV 25 2, cP 26 212 [t 24, t 25], mV 20 26, eX 27 20 0, eX 28 20 1, o 7 (.alc [(.it .i64 0)]), sO 1 7 27, mV 8 28]
(s [mV 29 8, o 30 (.un .not (t 29))]
(.cond (t 30)
(s [mK 6 (.bo false)]
.ret)
.skip)))
(.seq (s [mV 31 0, mV 32 1, cR 33 61 [t 31, t 32], mV 9 33]
(s [mV 34 9, o 35 (.bin .ptr .neq (t 34) (.k .np))]
(.cond (t 35)
(s [mV 37 9, nK 38 37, fA 39 3 38, lQ 40 1 39, mV 41 2, cP 42 212 [t 40, t 41], mV 36 42, eX 43 36 0, eX 44 36 1, o 10 (.alc [(.it .i64 0)]), sO 1 10 43, mV 11 44]
(s [mV 45 11, o 46 (.un .not (t 45))]
(.cond (t 46)
(s [mK 6 (.bo false)]
.ret)
.skip)))
.skip)))
(s [mV 47 0, mV 48 1, mV 49 2, cR 50 203 [t 47, t 48, t 49], mV 6 50]
.ret)))))⟩
def c174 : Ev.Fn := d174.den
def p174 : Pol := { P0 .rw with loc := [7, 10], ord := [(3, [0, 1, 2, 3, 4, 9, 5, 6, 7, 8, 10, 11]), (8, [0, 1, 2, 3, 4, 9, 5, 6, 7, 8, 10, 11])] }
theorem r174 : FnOK Tryz.prog mds 174 c174 := .read (pol := p174) (d := d174) Tryz.func174 (by kernel_rfl) (by kernel_rfl) rfl rfl (by kernel_rfl)

def d175 : DFn := ⟨[(.c .one), (.c .one)], [(.c (.sl [.one]))], .pure, [.tmp 4],
(s [mK 4 .ns]
(s [mV 5 0, mV 6 1, cP 7 217 [t 5, t 6, (k 0), (.k (.it .i64 (-1)))], mV 4 7]
.ret))⟩
def c175 : Ev.Fn := d175.den
def p175 : Pol := P0 .pure
theorem r175 : FnOK Tryz.prog mds 175 c175 := .read (pol := p175) (d := d175) Tryz.func175 (by kernel_rfl) (by kernel_rfl) rfl rfl (by kernel_rfl)

def d176 : DFn := ⟨[(.c .one), (.c .one)], [(.c .one), (.c .one), (.c .one)], .pure, [.tmp 4, .tmp 5, .tmp 6],
(s [mK 4 (.st []), mK 5 (.st []), mK 6 (.bo false)]
(s [mV 7 0, mV 8 1, cP 9 218 [t 7, t 8], eX 10 9 0, eX 11 9 1, eX 12 9 2, mV 4 10, mV 5 11, mV 6 12]
.ret))⟩
def c176 : Ev.Fn := d176.den
def p176 : Pol := P0 .pure
theorem r176 : FnOK Tryz.prog mds 176 c176 := .read (pol := p176) (d := d176) Tryz.func176 (by kernel_rfl) (by kernel_rfl) rfl rfl (by kernel_rfl)

def d177 : DFn := ⟨[(.c .one), (.c .one), (.g [.one, .one, (.sl [.one, .one]), .one, .one, .one])], [], .rw, [],
(s [o 5 (.box (t 2))]
(.seq (.reg false [
fA 10 2 5, lD 11 1 10, cP 12 219 [t 11], mV 9 12, eX 13 9 0, eX 14 9 1, u 6 [10] (.alc [(.st []), (.st []), (.st []), (.st []), .ns, (.it .i64 0)]), sO 6 6 13, mV 7 14] [10])
(.blk 0 (.seq (.reg false [
mV 37 7, o 38 (.un .not (t 37)), mV 39 38, x 40 39 (.fad 4 (t 5)), x 41 39 (.ld 1 false (t 40)), x 42 39 (.mov (t 41)), w 43 42 (.fad 5 (t 6)), w 44 42 (.ld 1 false (t 43)), w 45 42 (b .gtr (t 44) (k 0)), x 46 39 (.pick (t 42) (t 45) (.k (.bo false))), o 47 (.pick (t 39) (.k (.bo true)) (t 46)), mV 36 47] [40, 43])
(.cond (t 36)
(.reg true [
mV 48 0, mV 49 1, nK 50 48, fA 51 7 50, o 52 (.iaa 8 1 (t 51) (t 49)), lD 53 1 52, fA 54 1 5, lD 55 1 54, cR 56 79 [t 53, t 55, (k 1)]] [54])
(.seq (.reg true [
mV 58 0, nK 59 58, fA 60 25 59, lD 61 1 60, lN 62 false 61, mV 63 0, nK 64 63, fA 65 0 64, fA 66 5 65, lD 67 1 66, o 68 (b .geq (t 62) (t 67)), mV 57 68] [])
(.cond (t 57)
(.reg true [
mV 69 0, mV 70 1, nK 71 69, fA 72 7 71, o 73 (.iaa 8 1 (t 72) (t 70)), lD 74 1 73, fA 75 1 5, lD 76 1 75, cR 77 79 [t 74, t 76, (k 7)]] [75])
(.seq (.reg false [
mV 15 1, fA 16 1 5, lD 17 1 16, lQ 18 6 6, fA 19 4 5, lD 20 1 19, o 21 (.bld [(.it .i64 0), (.it .i64 0), (.st []), (.st []), (.st []), (.st []), .ns, (.it .i64 0), (.st []), (.it .i64 0), (.bo false), (.bo false), .np, .np, (.st []), (.st []), (.st []), (.st []), .ns, (.it .i64 0), (.bo false), (.it .i64 0), (.it .i64 0), (.bo false), (.it .i64 0), .ns, (.bo false), (.st []), (.bo false), (.bo false), (.it .i64 0), (.bo false), (.it .i64 0), (.bo false), (.st []), (.st []), (.st []), (.st []), .ns, (.it .i64 0), (.it .i64 0), .ns, (.it .i64 0), (.st []), (.it .i64 0), (.it .i64 0), (.bo false)] [(0, 1, (t 15)), (1, 1, (t 17)), (2, 6, (t 18)), (10, 1, (t 20)), (30, 1, (.k (.it .i64 (-1))))]), o 22 (.bxh (t 21)), mV 8 22] [16, 19])
(.seq (.reg false [
mV 23 0, mV 24 0, nK 25 24, fA 26 25 25, lD 27 1 26, mV 28 8, o 29 (.bsl 1 [[.np]] [(0, (t 28))]), o 30 (.app 1 8 (t 27) (t 29)), nK 31 23, fA 32 25 31, sO 1 32 30] [])
(r [mV 33 0, mV 34 8, cR 35 220 [t 33, t 34]]))))))))))⟩
def c177 : Ev.Fn := d177.den
def p177 : Pol := { P0 .rw with loc := [5, 6], heap := [30, 29], own := [30], ord := [(1, [0, 1, 6, 2, 3, 4, 5, 7, 8])], clr := [(1, [10]), (5, [40, 43]), (6, [54]), (8, [75]), (2, [16, 19])] }
theorem r177 : FnOK Tryz.prog mds 177 c177 := .read (pol := p177) (d := d177) Tryz.func177 (by kernel_rfl) (by kernel_rfl) rfl rfl (by kernel_rfl)

def d180 : DFn := ⟨[(.c .one), (.c .one), (.c .one)], [(.c .one)], .rw, [.tmp 6],
(s [mK 6 .np]
(.seq (s [mV 9 0, nK 10 9, fA 11 25 10, lD 12 1 11, lN 13 false 12, mK 14 (.it .i64 0)]
(.blk 0 (.loop [1, 2, 12, 13, 14] []
(s [o 15 (b .lss (t 14) (t 13))]
(.seq (.cond (t 15)
.skip
(.exit 0))
(.seq (.blk 1 (s [o 16 (.ias 1 (t 12) (t 14)), lD 17 1 16, mV 8 17]
(s [mV 18 8, nK 19 18, fA 20 20 19, lD 21 1 20, mV 22 21, w 23 22 (.mov (t 8)), w 24 22 (.nck (t 23)), w 25 22 (.fad 21 (t 24)), w 26 22 (.ld 1 false (t 25)), w 27 22 (.mov (t 1)), w 28 22 (b .eql (t 26) (t 27)), o 29 (.pick (t 22) (t 28) (.k (.bo false))), mV 30 29, w 31 30 (.mov (t 8)), w 32 30 (.nck (t 31)), w 33 30 (.fad 22 (t 32)), w 34 30 (.ld 1 false (t 33)), w 35 30 (.mov (t 2)), w 36 30 (b .eql (t 34) (t 35)), o 37 (.pick (t 30) (t 36) (.k (.bo false)))]
(.cond (t 37)
(s [mV 38 8, mV 6 38]
.ret)
.skip))))
(r [o 39 (b .add (t 14) (k 1)), mV 14 39])))))))
(s [mK 6 .np]
.ret)))⟩
def c180 : Ev.Fn := d180.den
def p180 : Pol := { P0 .rw with mask := [(2, [1, 2, 12, 13, 14], [])] }
theorem r180 : FnOK Tryz.prog mds 180 c180 := .read (pol := p180) (d := d180) Tryz.func180 (by kernel_rfl) (by kernel_rfl) rfl rfl (by kernel_rfl)

def d181 : DFn := ⟨[(.c .one), (.c .one), (.g [.one, .one, (.sl [.one, .one]), .one, .one, .one])], [], .rw, [],
(s [o 5 (.box (t 2))]
(.seq (.reg false [
fA 11 2 5, lD 12 1 11, cP 13 221 [t 12], mV 10 13, eX 14 10 0, eX 15 10 1, u 6 [11] (.alc [(.it .i64 0), .ns, (.it .i64 0)]), sO 3 6 14, mV 7 15] [11])
(.seq (.seq (.reg false [
mV 16 7, o 17 (.un .not (t 16)), mV 18 17, x 19 18 (.fad 0 (t 6)), x 20 18 (.ld 1 false (t 19)), x 21 18 (b .lss (t 20) (k 200)), x 22 18 (.mov (t 21)), w 23 22 (.fad 4 (t 5)), w 24 22 (.ld 1 false (t 23)), x 25 18 (.pick (t 22) (t 24) (.k (.bo false))), o 26 (.pick (t 18) (.k (.bo true)) (t 25))] [19, 23])
(.cond (t 26)
(.seq (.reg true [
mV 27 0, mV 28 1, nK 29 28, fA 30 21 29, lD 31 1 30, nK 32 27, fA 33 15 32, o 34 (.iaa 8 1 (t 33) (t 31)), lD 35 1 34, nK 36 35, fA 37 0 36, lD 38 1 37, mV 39 1, nK 40 39, fA 41 22 40, lD 42 1 41, cR 43 79 [t 38, t 42, (k 1)]] [])
(s [mV 44 0, mV 45 1, cR 46 131 [t 44, t 45]]
.ret))
.skip))
(.seq (.seq (.reg false [
fA 47 0 6, lD 48 1 47, o 49 (b .lss (t 48) (k 200))] [47])
(.cond (t 49)
.ret
.skip))
(.seq (.reg false [
fA 50 1 6, lD 51 1 50, cP 52 135 [t 51], mV 8 52] [50])
(.seq (.seq (.reg false [
mV 53 1, nK 54 53, fA 55 13 54, lD 56 1 55, o 57 (.bin .ptr .neq (t 56) (.k .np)), mV 58 57, w 59 58 (.fad 0 (t 6)), w 60 58 (.ld 1 false (t 59)), w 61 58 (b .eql (t 60) (k 304)), o 62 (.pick (t 58) (t 61) (.k (.bo false)))] [59])
(.cond (t 62)
(.seq (.reg true [
mV 63 1, nK 64 63, fA 65 13 64, lD 66 1 65, nK 67 66, lQ 68 12 67, mV 69 8, o 70 (.bld [(.it .i64 0), .ns, (.it .i64 0)] [(0, 1, (k 304)), (1, 1, (t 69))]), mV 71 1, nK 72 71, fA 73 24 72, lD 74 1 73, mV 75 0, nK 76 75, fA 77 24 76, lD 78 1 77, u 9 [65, 67, 73, 77] (.alc [(.st []), (.st []), (.st []), (.st []), .ns, (.it .i64 0), (.it .i64 0), .ns, (.it .i64 0), (.st []), (.it .i64 0), (.it .i64 0)]), cP 79 222 [t 68, t 70, t 74, t 78], sO 12 9 79] [])
(.seq (.reg true [
mV 80 0, nK 81 80, fA 82 23 81, lD 83 1 82, lQ 84 12 9, cR 85 223 [t 83, t 84]] [])
(.seq (.seq (.reg false [
fA 86 4 5, lD 87 1 86, o 88 (.un .not (t 87))] [86])
(.cond (t 88)
(.reg false [
mV 89 0, mV 90 1, cR 91 184 [t 89, t 90]] [])
.skip))
(s [mV 92 0, mV 93 1, lQ 94 12 9, cR 95 224 [t 92, t 93, t 94]]
.ret))))
.skip))
(.seq (.reg true [
mV 96 1, mV 97 1, fA 98 2 6, lD 99 1 98, nK 100 96, fA 101 28 100, ⟨none, none, [98], .sto 1 (t 101) (.k (.bo true))⟩, nK 102 97, fA 103 30 102, sO 1 103 99] [98])
(.seq (.reg false [
mV 104 1, mV 105 1, nK 106 105, fA 107 2 106, fA 108 0 107, lD 109 1 108, o 110 (b .eql (t 109) (.k (.st [72, 69, 65, 68]))), mV 111 110, x 112 111 (.fad 0 (t 6)), x 113 111 (.ld 1 false (t 112)), x 114 111 (b .eql (t 113) (k 204)), o 115 (.pick (t 111) (.k (.bo true)) (t 114)), mV 116 115, x 117 116 (.fad 0 (t 6)), x 118 116 (.ld 1 false (t 117)), x 119 116 (b .eql (t 118) (k 304)), o 120 (.pick (t 116) (.k (.bo true)) (t 119)), nK 121 104, fA 122 31 121, sO 1 122 120] [112, 117])
(.seq (.reg false [
mV 123 1, fA 124 0 6, lD 125 1 124, cP 126 119 [t 125], o 127 (.bld [(.st []), (.st [])] [(0, 1, (.k (.st [58, 115, 116, 97, 116, 117, 115]))), (1, 1, (t 126))]), o 128 (.bsl 2 [[(.st []), (.st [])]] [(0, (t 127))]), mV 129 8, o 130 (.app 2 32 (t 128) (t 129)), cP 131 136 [], o 132 (.bsv [.one, .one] 2 [[(.st []), (.st [])]] [(0, (t 131))]), o 133 (.app 2 32 (t 130) (t 132)), nK 134 123, fA 135 25 134, sO 1 135 133] [124])
(.seq (.seq (.reg true [
mV 136 1, nK 137 136, fA 138 2 137, lQ 139 6 138, lQ 140 3 6, cP 141 225 [t 139, t 140]] [])
(.cond (t 141)
(.reg true [
mV 142 0, nK 143 142, fA 144 23 143, lD 145 1 144, mV 146 1, nK 147 146, fA 148 2 147, lQ 149 6 148, cP 150 227 [t 149], cR 151 226 [t 145, t 150]] [])
.skip))
(.seq (.reg true [
mV 152 1, mV 153 1, nK 154 153, fA 155 2 154, lQ 156 6 155, fA 157 0 6, lD 158 1 157, mV 159 8, fA 160 2 6, lD 161 1 160, o 162 (.bld [(.it .i64 0), .ns, (.it .i64 0)] [(0, 1, (t 158)), (1, 1, (t 159)), (2, 1, (t 161))]), mV 163 1, nK 164 163, fA 165 24 164, lD 166 1 165, mV 167 0, nK 168 167, fA 169 24 168, lD 170 1 169, o 171 (.bld [(.st []), (.st []), (.st []), (.st []), .ns, (.it .i64 0), (.it .i64 0), .ns, (.it .i64 0), (.st []), (.it .i64 0), (.it .i64 0)] [(0, 6, (t 156)), (6, 3, (t 162)), (10, 1, (t 166)), (11, 1, (t 170))]), nK 172 152, fA 173 34 172, sO 12 173 171] [157, 160])
(.seq (.reg true [
mV 174 1, mV 175 1, nK 176 175, fA 177 10 176, lD 178 1 177, mV 179 178, w 180 179 (.mov (t 1)), w 181 179 (.nck (t 180)), w 182 179 (.fad 2 (t 181)), w 183 179 (.ld 6 true (t 182)), w 184 179 (.mov (t 1)), w 185 179 (.nck (t 184)), w 186 179 (.fad 34 (t 185)), w 187 179 (.fad 6 (t 186)), w 188 179 (.ld 3 true (t 187)), w 189 179 (.call true .pure 228 [t 183, t 188]), o 190 (.pick (t 179) (t 189) (.k (.bo false))), nK 191 174, fA 192 33 191, sO 1 192 190] [])
(s [mV 193 0, mV 194 1, cR 195 229 [t 193, t 194]]
(.seq (.reg false [
fA 196 4 5, lD 197 1 196] [196])
(.cond (t 197)
(.reg false [
mV 198 0, mV 199 1, cR 200 230 [t 198, t 199]] [])
.skip)))))))))))))))⟩
def c181 : Ev.Fn := d181.den
def p181 : Pol := { P0 .rw with loc := [5, 6, 9], heap := [128, 130, 133, 189], own := [128, 130, 133, 189], ord := [(1, [0, 1, 6, 2, 3, 4, 5, 7, 8]), (8, [0, 1, 2, 3, 4, 5, 6, 7, 8, 9, 10, 11, 12, 13, 14, 15, 17, 16, 18]), (15, [0, 1, 2, 6, 3, 4, 5, 7, 8, 9, 10, 11, 12, 13])], clr := [(1, [11]), (2, [19, 23]), (5, [47]), (6, [50]), (7, [59]), (10, [86]), (13, [98]), (14, [112, 117]), (15, [124]), (18, [157, 160]), (21, [196])] }
theorem r181 : FnOK Tryz.prog mds 181 c181 := .read (pol := p181) (d := d181) Tryz.func181 (by kernel_rfl) (by kernel_rfl) rfl rfl (by kernel_rfl)

def d182 : DFn := ⟨[(.c .one), (.c .one), (.g [.one, .one, (.sl [.one, .one]), .one, .one, .one])], [], .rw, [],
(s [o 5 (.box (t 2))]
(.seq (.reg true [
mV 6 1, nK 7 6, fA 8 32 7, lD 9 1 8, fA 10 3 5, lD 11 1 10, lN 12 true 11, o 13 (b .add (t 9) (t 12)), nK 14 6, fA 15 32 14, sO 1 15 13] [10])
(.seq (s [mV 16 1, nK 17 16, fA 18 0 17, lD 19 1 18, o 20 (b .lss (t 19) (k 0))]
(.cond (t 20)
(.reg false [
mV 21 0, mV 22 1, fA 23 3 5, lD 24 1 23, lN 25 true 24, cR 26 140 [t 21, t 22, t 25]] [23])
(.reg true [
mV 27 1, nK 28 27, fA 29 27 28, lD 30 1 29, fA 31 3 5, lD 32 1 31, o 33 (b .add (t 30) (t 32)), nK 34 27, fA 35 27 34, sO 1 35 33] [31])))
(.seq (s [mV 36 1, nK 37 36, fA 38 33 37, lD 39 1 38]
(.cond (t 39)
(.seq (.reg true [
mV 40 1, nK 41 40, fA 42 34 41, fA 43 9 42, lD 44 1 43, fA 45 3 5, lD 46 1 45, o 47 (b .add (t 44) (t 46)), nK 48 40, fA 49 34 48, fA 50 9 49, sO 1 50 47] [45])
(.reg false [
mV 51 0, mV 52 1, cR 53 229 [t 51, t 52]] []))
.skip))
(.seq (.reg false [
fA 54 4 5, lD 55 1 54] [54])
(.cond (t 55)
(.reg false [
mV 56 0, mV 57 1, cR 58 230 [t 56, t 57]] [])
.skip))))))⟩
def c182 : Ev.Fn := d182.den
def p182 : Pol := { P0 .rw with loc := [5], clr := [(1, [10]), (3, [23]), (4, [31]), (6, [45]), (8, [54])] }
theorem r182 : FnOK Tryz.prog mds 182 c182 := .read (pol := p182) (d := d182) Tryz.func182 (by kernel_rfl) (by kernel_rfl) rfl rfl (by kernel_rfl)

def d183 : DFn := ⟨[(.c .one), (.c .one)], [(.c (.sl [.one]))], .rw, [.tmp 4],
(s [mK 4 .ns]
(s [mK 5 .ns]
(.seq (s [mV 8 0, nK 9 8, fA 10 25 9, lD 11 1 10, lN 12 false 11, mK 13 (.it .i64 0)]
(.blk 0 (.loop [1, 5, 11, 12, 13] []
(s [o 14 (b .lss (t 13) (t 12))]
(.seq (.cond (t 14)
.skip
(.exit 0))
(.seq (.blk 1 (s [o 15 (.ias 1 (t 11) (t 13)), lD 16 1 15, mV 7 16]
(s [mV 17 7, nK 18 17, fA 19 12 18, lD 20 1 19, mV 21 1, o 22 (.hnd (.eqp .eql) [t 20, t 21])]
(.cond (t 22)
(r [mV 23 5, mV 24 7, o 25 (.bsl 1 [[.np]] [(0, (t 24))]), o 26 (.app 1 8 (t 23) (t 25)), mV 5 26])
.skip))))
(r [o 27 (b .add (t 13) (k 1)), mV 13 27])))))))
(s [mV 28 5, mV 4 28]
.ret))))⟩
def c183 : Ev.Fn := d183.den
def p183 : Pol := { P0 .rw with heap := [26, 25], own := [26], mask := [(3, [1, 5, 11, 12, 13], [])], hnd := [22] }
theorem r183 : FnOK Tryz.prog mds 183 c183 := .read (pol := p183) (d := d183) Tryz.func183 (by kernel_rfl) (by kernel_rfl) rfl rfl (by kernel_rfl)

def d185 : DFn := ⟨[(.c .one), (.c .one)], [], .rw, [],
(s [o 3 (.bxh (t 1))]
(s [lD 4 1 3, nK 5 4, fA 6 46 5, n (.sto 1 (t 6) (.k (.bo true)))]
(s [mV 7 0, mV 8 0, nK 9 8, fA 10 25 9, lD 11 1 10, o 12 (.mkf 232 [] [t 3]), o 13 (.call true .rw 231 [t 11, t 12]), nK 14 7, fA 15 25 14, sO 1 15 13]
(.reg true [
mV 16 0, lD 17 1 3, lD 18 1 3, nK 19 18, fA 20 8 19, lD 21 1 20, lN 22 true 21, cR 23 139 [t 16, t 17, t 22]] []))))⟩
def c185 : Ev.Fn := d185.den
def p185 : Pol := { P0 .rw with heap := [13], own := [13], fns := [232] }
theorem r185 : FnOK Tryz.prog mds 185 c185 := .read (pol := p185) (d := d185) Tryz.func185 (by kernel_rfl) (by kernel_rfl) rfl rfl (by kernel_rfl)

def d188 : DFn := ⟨[(.c (.sl [.one, .one])), (.c .one)], [(.c .one), (.c .one)], .pure, [.tmp 4, .tmp 5],
(s [mK 4 (.st []), mK 5 (.it .i64 0)]
(s [mK 6 .ns]
(.seq (s [mV 9 0, lN 10 false 9, mK 11 (.it .i64 0)]
(.blk 0 (.loop [1, 6, 9, 10, 11] [8]
(s [o 12 (b .lss (t 11) (t 10))]
(.seq (.cond (t 12)
.skip
(.exit 0))
(.seq (.blk 1 (s [o 13 (.ias 2 (t 9) (t 11)), lQ 14 2 13, o 8 (.alc [(.st []), (.st [])]), sO 2 8 14]
(.seq (.reg false [
fA 15 0 8, lD 16 1 15, mV 17 1, o 18 (b .eql (t 16) (t 17))] [15])
(.cond (t 18)
(.reg false [
mV 19 6, fA 20 1 8, lD 21 1 20, o 22 (.bsv [.one] 1 [[(.st [])]] [(0, (t 21))]), o 23 (.app 1 16 (t 19) (t 22)), mV 6 23] [20])
.skip))))
(.reg false [
o 24 (b .add (t 11) (k 1)), mV 11 24] [])))))))
(.seq (r [mV 25 6, o 26 (.call false .pure 234 [t 25, (.k (.st [44, 32]))]), mV 27 6, lN 28 false 27, mV 4 26, mV 5 28])
.ret))))⟩
def c188 : Ev.Fn := d188.den
def p188 : Pol := { P0 .pure with loc := [8], heap := [23], own := [23], ord := [(8, [0, 2, 3, 1, 4, 5])], clr := [(5, [15]), (6, [20])], mask := [(3, [1, 6, 9, 10, 11], [8])] }
theorem r188 : FnOK Tryz.prog mds 188 c188 := .read (pol := p188) (d := d188) Tryz.func188 (by kernel_rfl) (by kernel_rfl) rfl rfl (by kernel_rfl)

def d189 : DFn := ⟨[(.c .one)], [(.c (.sl [.one])), (.c .one)], .pure, [.tmp 2, .tmp 3],
(s [o 1 (.bxh (t 0)), mK 2 .ns, mK 3 (.bo false)]
(s [o 4 (.alh [.ns])]
(s [o 5 (.alh [(.it .i64 0)]), n (.sto 1 (t 5) (k 0))]
(s [o 10 (.mkf 235 [] [t 1, t 5, t 4]), mV 6 10]
(.seq (s [mK 7 (.it .i64 0)]
(.blk 0 (.loop [1, 4, 5, 6, 7] []
(.seq (s [mV 11 7, lD 12 1 1, lN 13 true 12, o 14 (b .lss (t 11) (t 13))]
(.cond (t 14)
.skip
(.exit 0)))
(.blk 1 (s [lD 15 1 1, mV 16 7, o 17 (.ixs (t 15) (t 16))]
(.blk 2 (s [o 21 (b .eql (t 17) (.k (.it .u8 44))), mV 20 21]
(.cond (t 20)
(s [mV 22 6, mV 23 7, o 24 (.calv [] (t 22) [t 23])]
(s [mV 25 7, o 26 (b .add (t 25) (k 1)), mV 7 26]
(r [mV 27 7, sO 1 5 27])))
(s [o 29 (b .eql (t 17) (.k (.it .u8 34))), mV 28 29]
(.cond (t 28)
(s [lD 31 1 1, mV 32 7, o 33 (.call true .pure 237 [t 31, t 32]), mV 30 33, eX 34 30 0, eX 35 30 1, mV 8 34, mV 9 35]
(.seq (s [mV 36 9, o 37 (.un .not (t 36))]
(.cond (t 37)
(s [mK 2 .ns, mK 3 (.bo false)]
.ret)
.skip))
(r [mV 38 8, mV 7 38])))
(r [mV 18 7, o 19 (b .add (t 18) (k 1)), mV 7 19]))))))))))))
(s [mV 39 6, lD 40 1 1, lN 41 true 40, o 42 (.calv [] (t 39) [t 41])]
(s [lD 43 1 4, mV 2 43, mK 3 (.bo true)]
.ret)))))))⟩
def c189 : Ev.Fn := d189.den
def p189 : Pol := { P0 .pure with heap := [33], own := [33], ord := [(0, [1, 2, 0])], mask := [(5, [1, 4, 5, 6, 7], [])], fns := [235] }
theorem r189 : FnOK Tryz.prog mds 189 c189 := .read (pol := p189) (d := d189) Tryz.func189 (by kernel_rfl) (by kernel_rfl) rfl rfl (by kernel_rfl)

def d193 : DFn := ⟨[(.c (.sl [.one, .one]))], [(.c .one)], .pure, [.tmp 2],
(s [mK 2 (.it .i64 0)]
(s [mK 3 (.it .i64 0)]
(.seq (s [mV 6 0, lN 7 false 6, mK 8 (.it .i64 0)]
(.blk 0 (.loop [3, 6, 7, 8] [5]
(s [o 9 (b .lss (t 8) (t 7))]
(.seq (.cond (t 9)
.skip
(.exit 0))
(.seq (.blk 1 (s [o 10 (.ias 2 (t 6) (t 8)), lQ 11 2 10, o 5 (.alc [(.st []), (.st [])]), sO 2 5 11]
(r [mV 12 3, lQ 13 2 5, cP 14 105 [t 13], o 15 (b .add (t 12) (t 14)), mV 3 15])))
(r [o 16 (b .add (t 8) (k 1)), mV 8 16])))))))
(s [mV 17 3, mV 2 17]
.ret))))⟩
def c193 : Ev.Fn := d193.den
def p193 : Pol := { P0 .pure with loc := [5], mask := [(3, [3, 6, 7, 8], [5])] }
theorem r193 : FnOK Tryz.prog mds 193 c193 := .read (pol := p193) (d := d193) Tryz.func193 (by kernel_rfl) (by kernel_rfl) rfl rfl (by kernel_rfl)

def d195 : DFn := ⟨[(.c .one)], [(.c .one)], .pure, [.tmp 2],
(s [mK 2 (.it .i64 0)]
(s [mV 3 0, cV 4 .u64 3, o 5 (b .shl (k 1) (t 4)), o 6 (b .sub (t 5) (k 1)), mV 2 6]
.ret))⟩
def c195 : Ev.Fn := d195.den
def p195 : Pol := P0 .pure
theorem r195 : FnOK Tryz.prog mds 195 c195 := .read (pol := p195) (d := d195) Tryz.func195 (by kernel_rfl) (by kernel_rfl) rfl rfl (by kernel_rfl)

def d196 : DFn := ⟨[(.c (.sl [.one])), (.c .one)], [(.c (.sl [.one]))], .pure, [.tmp 4],
(s [mK 4 .ns]
(.seq (s [mV 6 1, cP 7 239 [t 6], mV 5 7]
(s [mV 8 5, mV 9 1, lN 10 true 9, o 11 (b .lss (t 8) (t 10))]
(.cond (t 11)
(s [mV 12 0, mV 13 5, o 14 (.call true .pure 144 [t 12, (k 7), (.k (.it .u8 128)), t 13]), mV 15 1, cP 16 240 [t 15], o 17 (.app 1 1 (t 14) (t 16)), mV 4 17]
.ret)
.skip)))
(s [mV 18 0, mV 19 1, lN 20 true 19, o 21 (.call true .pure 144 [t 18, (k 7), (.k (.it .u8 0)), t 20]), mV 22 1, o 23 (.app 1 1 (t 21) (t 22)), mV 4 23]
.ret)))⟩
def c196 : Ev.Fn := d196.den
def p196 : Pol := { P0 .pure with heap := [14, 21], own := [14, 21], ord := [(3, [0, 1, 3, 2, 4, 5, 6]), (4, [0, 1, 2, 4, 3, 5, 6])] }
theorem r196 : FnOK Tryz.prog mds 196 c196 := .read (pol := p196) (d := d196) Tryz.func196 (by kernel_rfl) (by kernel_rfl) rfl rfl (by kernel_rfl)

def d197 : DFn := ⟨[(.c .one), (.c .one)], [], .rw, [],
(.blk 0 (.loop [0, 1] []
(.seq (s [mV 5 0, nK 6 5, fA 7 2 6, lD 8 1 7, mV 9 1, o 10 (b .gtr (t 8) (t 9)), mV 11 10, w 12 11 (.mov (t 0)), w 13 11 (.nck (t 12)), w 14 11 (.fad 0 (t 13)), w 15 11 (.ld 1 false (t 14)), w 16 11 (.len false (t 15)), w 17 11 (b .gtr (t 16) (k 0)), o 18 (.pick (t 11) (t 17) (.k (.bo false)))]
(.cond (t 18)
.skip
(.exit 0)))
(.blk 1 (s [mV 19 0, nK 20 19, fA 21 0 20, lD 22 1 21, lN 23 false 22, o 24 (b .sub (t 23) (k 1)), mV 4 24]
(.seq (.reg true [
mV 25 0, nK 26 25, fA 27 2 26, lD 28 1 27, mV 29 0, nK 30 29, fA 31 0 30, lD 32 1 31, mV 33 4, o 34 (.ias 2 (t 32) (t 33)), lQ 35 2 34, cP 36 105 [t 35], o 37 (b .sub (t 28) (t 36)), nK 38 25, fA 39 2 38, sO 1 39 37] [])
(r [mV 40 0, mV 41 0, nK 42 41, fA 43 0 42, lD 44 1 43, mV 45 4, o 46 (.slc false 2 (t 44) none (some (t 45))), nK 47 40, fA 48 0 47, sO 1 48 46])))))))⟩
def c197 : Ev.Fn := d197.den
def p197 : Pol := { P0 .rw with mask := [(0, [0, 1], [])] }
theorem r197 : FnOK Tryz.prog mds 197 c197 := .read (pol := p197) (d := d197) Tryz.func197 (by kernel_rfl) (by kernel_rfl) rfl rfl (by kernel_rfl)

def d199 : DFn := ⟨[(.g [.one, .one, .one, (.sl [.one])])], [(.c .one), (.c (.sl [.one])), (.c .one)], .pure, [.tmp 2, .tmp 3, .tmp 4],
(s [o 1 (.box (t 0)), mK 2 (.it .i64 0), mK 3 .ns, mK 4 (.bo false)]
(.seq (.seq (.reg false [
fA 5 1 1, lD 6 1 5, o 7 (b .and (t 6) (k 8)), o 8 (b .eql (t 7) (k 0))] [5])
(.cond (t 8)
(.seq (.reg true [
fA 9 3 1, lD 10 1 9, mK 2 (.it .i64 0), mV 3 10, mK 4 (.bo true)] [9])
.ret)
.skip))
(.seq (.seq (.reg false [
fA 11 3 1, lD 12 1 11, lN 13 false 12, o 14 (b .eql (t 13) (k 0))] [11])
(.cond (t 14)
(.seq (.reg false [
mK 2 (.it .i64 0), mK 3 .ns, mK 4 (.bo false)] [])
.ret)
.skip))
(.seq (.reg true [
fA 15 3 1, lD 16 1 15, o 17 (.ias 1 (t 16) (k 0)), lD 18 1 17, cV 19 .i64 18, fA 20 3 1, lD 21 1 20, o 22 (.slc false 1 (t 21) (some (k 1)) none), mV 2 19, mV 3 22, mK 4 (.bo true)] [15, 20])
.ret))))⟩
def c199 : Ev.Fn := d199.den
def p199 : Pol := { P0 .pure with loc := [1], ord := [(0, [1, 2, 3, 0])], clr := [(1, [5]), (2, [9]), (3, [11]), (5, [15, 20])] }
theorem r199 : FnOK Tryz.prog mds 199 c199 := .read (pol := p199) (d := d199) Tryz.func199 (by kernel_rfl) (by kernel_rfl) rfl rfl (by kernel_rfl)

def d201 : DFn := ⟨[(.g [.one, .one])], [(.c .one)], .pure, [.tmp 2],
(s [o 1 (.box (t 0)), mK 2 (.it .i64 0)]
(.seq (.blk 0 (.seq (.reg false [
fA 4 0 1, lD 5 1 4, o 6 (b .eql (t 5) (k 2)), mV 7 6, w 8 7 (.fad 1 (t 1)), w 9 7 (.ld 1 false (t 8)), w 10 7 (.call false .pure 243 [t 9, (k 0), (k 1)]), w 11 7 (.un .not (t 10)), o 12 (.pick (t 7) (t 11) (.k (.bo false))), mV 3 12] [4, 8])
(.cond (t 3)
(.seq (.reg false [
mK 2 (.it .i64 1)] [])
.ret)
(.seq (.reg false [
fA 14 0 1, lD 15 1 14, o 16 (b .eql (t 15) (k 4)), mV 17 16, w 18 17 (.fad 1 (t 1)), w 19 17 (.ld 1 false (t 18)), w 20 17 (.call false .pure 243 [t 19, (k 0), (k 2147483647)]), w 21 17 (.un .not (t 20)), o 22 (.pick (t 17) (t 21) (.k (.bo false))), mV 13 22] [14, 18])
(.cond (t 13)
(.seq (.reg false [
mK 2 (.it .i64 3)] [])
.ret)
(.seq (.reg false [
fA 24 0 1, lD 25 1 24, o 26 (b .eql (t 25) (k 5)), mV 27 26, w 28 27 (.fad 1 (t 1)), w 29 27 (.ld 1 false (t 28)), w 30 27 (.call false .pure 243 [t 29, (k 16384), (k 16777215)]), w 31 27 (.un .not (t 30)), o 32 (.pick (t 27) (t 31) (.k (.bo false))), mV 23 32] [24, 28])
(.cond (t 23)
(.seq (.reg false [
mK 2 (.it .i64 1)] [])
.ret)
.skip)))))))
(s [mK 2 (.it .i64 0)]
.ret)))⟩
def c201 : Ev.Fn := d201.den
def p201 : Pol := { P0 .pure with loc := [1], ord := [(0, [1, 0])], clr := [(1, [4, 8]), (3, [14, 18]), (5, [24, 28])] }
theorem r201 : FnOK Tryz.prog mds 201 c201 := .read (pol := p201) (d := d201) Tryz.func201 (by kernel_rfl) (by kernel_rfl) rfl rfl (by kernel_rfl)

def d202 : DFn := ⟨[(.c (.sl [.one])), (.c .one)], [(.c .one)], .pure, [.tmp 4],
(s [mK 4 (.bo false)]
(s [mV 5 0, mV 6 1, cP 7 244 [t 5, t 6], o 8 (b .geq (t 7) (k 0)), mV 4 8]
.ret))⟩
def c202 : Ev.Fn := d202.den
def p202 : Pol := P0 .pure
theorem r202 : FnOK Tryz.prog mds 202 c202 := .read (pol := p202) (d := d202) Tryz.func202 (by kernel_rfl) (by kernel_rfl) rfl rfl (by kernel_rfl)

def d203 : DFn := ⟨[(.c .one), (.c .one), (.c .one)], [(.c .one)], .rw, [.tmp 6],
(s [mK 6 (.bo false)]
(.seq (s [mV 8 2, o 9 (b .eql (t 8) (k 0))]
(.cond (t 9)
(s [mK 6 (.bo true)]
.ret)
.skip))
(.seq (s [mV 10 0, mV 11 1, cR 12 61 [t 10, t 11], mV 7 12]
(s [mV 13 7, o 14 (.bin .ptr .neq (t 13) (.k .np)), mV 15 14, w 16 15 (.mov (t 7)), w 17 15 (.call false .rw 245 [t 16]), o 18 (.pick (t 15) (t 17) (.k (.bo false)))]
(.cond (t 18)
(.seq (s [mV 19 0, mV 20 1, mV 21 2, cP 22 113 [t 21], o 23 (.bld [(.it .i64 0), (.it .i64 0), (.it .i64 0), .ns] [(0, 1, (k 8)), (2, 1, (t 20)), (3, 1, (t 22))]), cR 24 165 [t 19, t 23], o 25 (.un .not (t 24))]
(.cond (t 25)
(s [mK 6 (.bo false)]
.ret)
.skip))
(r [mV 27 7, mV 28 7, nK 29 28, fA 30 3 29, lQ 31 1 30, mV 32 2, o 33 (.call true .pure 212 [t 31, t 32]), mV 26 33, eX 34 26 0, eX 35 26 1, nK 36 27, fA 37 3 36, sO 1 37 34]))
.skip)))
(.seq (s [mV 38 0, mV 39 2, cP 40 113 [t 39], o 41 (.bld [(.it .i64 0), (.it .i64 0), (.it .i64 0), .ns] [(0, 1, (k 8)), (3, 1, (t 40))]), cR 42 165 [t 38, t 41], o 43 (.un .not (t 42))]
(.cond (t 43)
(s [mK 6 (.bo false)]
.ret)
.skip))
(s [mV 45 0, mV 46 0, nK 47 46, fA 48 14 47, lQ 49 1 48, mV 50 2, o 51 (.call true .pure 212 [t 49, t 50]), mV 44 51, eX 52 44 0, eX 53 44 1, nK 54 45, fA 55 14 54, sO 1 55 52]
(s [mK 6 (.bo true)]
.ret))))))⟩
def c203 : Ev.Fn := d203.den
def p203 : Pol := { P0 .rw with heap := [33, 51], own := [33, 51] }
theorem r203 : FnOK Tryz.prog mds 203 c203 := .read (pol := p203) (d := d203) Tryz.func203 (by kernel_rfl) (by kernel_rfl) rfl rfl (by kernel_rfl)

def d204 : DFn := ⟨[(.c .one), (.c .one)], [(.c .one)], .rw, [.tmp 4],
(s [mK 4 (.it .i64 0)]
(.seq (.blk 0 (s [mV 6 0, o 7 (.bin .ptr .eql (t 6) (.k .np)), mV 8 7, x 9 8 (.mov (t 0)), x 10 8 (.call false .rw 245 [t 9]), x 11 8 (.un .not (t 10)), o 12 (.pick (t 8) (.k (.bo true)) (t 11)), mV 5 12]
(.cond (t 5)
(s [mK 4 (.it .i64 5)]
.ret)
(s [mV 14 0, nK 15 14, fA 16 4 15, lD 17 1 16, o 18 (.un .not (t 17)), mV 13 18]
(.cond (t 13)
(s [mK 4 (.it .i64 1)]
.ret)
(s [mV 20 1, mV 21 0, nK 22 21, fA 23 3 22, lQ 24 1 23, cP 25 246 [t 24], o 26 (b .gtr (t 20) (t 25)), mV 19 26]
(.cond (t 19)
(s [mK 4 (.it .i64 3)]
.ret)
.skip)))))))
(s [mK 4 (.it .i64 0)]
.ret)))⟩
def c204 : Ev.Fn := d204.den
def p204 : Pol := P0 .rw
theorem r204 : FnOK Tryz.prog mds 204 c204 := .read (pol := p204) (d := d204) Tryz.func204 (by kernel_rfl) (by kernel_rfl) rfl rfl (by kernel_rfl)

def d205 : DFn := ⟨[(.c .one), (.c (.sl [.one]))], [(.c (.sl [.one, .one, .one])), (.c .one)], .rw, [.tmp 4, .tmp 5],
(s [o 3 (.bxh (t 1)), mK 4 .ns, mK 5 (.it .i64 0)]
(.seq (s [mV 9 0, nK 10 9, fA 11 3 10, lD 12 1 11]
(.cond (t 12)
(s [mK 4 .ns, mK 5 (.it .i64 1)]
.ret)
.skip))
(s [mV 13 0, lD 14 1 3, o 15 (.bld [.np, .ns, (.it .i64 0), .ns, (.it .i64 0), (.it .i64 0)] [(0, 1, (t 13)), (1, 1, (t 14))]), o 16 (.bxh (t 15)), o 6 (.alh [.np]), sO 1 6 16]
(s [o 18 (.mkf 248 [] [t 6, t 3]), cR 19 247 [t 18], mV 17 19, eX 20 17 0, eX 21 17 1, o 7 (.alc [(.it .i64 0), (.it .i64 0)]), sO 2 7 20, mV 8 21]
(.seq (s [mV 22 8]
(.cond (t 22)
(s [mV 23 0, nK 24 23, fA 25 3 24, n (.sto 1 (t 25) (.k (.bo true)))]
(.seq (.reg true [
fA 26 0 7, lD 27 1 26, mK 4 .ns, mV 5 27] [26])
.ret))
.skip))
(s [lD 28 1 6, nK 29 28, fA 30 3 29, lD 31 1 30, mV 4 31, mK 5 (.it .i64 0)]
.ret))))))⟩
def c205 : Ev.Fn := d205.den
def p205 : Pol := { P0 .rw with loc := [7], ord := [(0, [1, 2, 0]), (4, [0, 5, 1, 2, 3, 4, 6, 7])], clr := [(7, [26])], fns := [248] }
theorem r205 : FnOK Tryz.prog mds 205 c205 := .read (pol := p205) (d := d205) Tryz.func205 (by kernel_rfl) (by kernel_rfl) rfl rfl (by kernel_rfl)

def d206 : DFn := ⟨[(.c .one), (.c .one)], [(.c .one)], .rw, [.tmp 4],
(s [mK 4 .np]
(.seq (s [mV 6 0, mV 7 1, cR 8 158 [t 6, t 7]]
(.cond (t 8)
(s [mV 9 0, mV 10 1, cR 11 250 [t 9, t 10], mV 4 11]
.ret)
.skip))
(s [mV 12 0, mV 13 1, cR 14 61 [t 12, t 13], mV 5 14]
(.seq (s [mV 15 5, o 16 (.bin .ptr .eql (t 15) (.k .np)), mV 17 16, w 18 17 (.mov (t 0)), w 19 17 (.mov (t 1)), w 20 17 (.call false .rw 159 [t 18, t 19]), w 21 17 (.un .not (t 20)), o 22 (.pick (t 17) (t 21) (.k (.bo false)))]
(.cond (t 22)
(r [mV 23 0, mV 24 1, cR 25 160 [t 23, t 24, (k 5)]])
.skip))
(s [mV 26 5, mV 4 26]
.ret)))))⟩
def c206 : Ev.Fn := d206.den
def p206 : Pol := P0 .rw
theorem r206 : FnOK Tryz.prog mds 206 c206 := .read (pol := p206) (d := d206) Tryz.func206 (by kernel_rfl) (by kernel_rfl) rfl rfl (by kernel_rfl)

def d207 : DFn := ⟨[(.c .one), (.c .one), (.c (.sl [.one, .one])), (.c .one)], [], .rw, [],
(.seq (s [mV 9 1, nK 10 9, fA 11 1 10, lD 12 1 11, o 13 (b .neq (t 12) (k 0)), mV 14 13, w 15 14 (.mov (t 1)), w 16 14 (.call false .rw 245 [t 15]), w 17 14 (.un .not (t 16)), o 18 (.pick (t 14) (t 17) (.k (.bo false)))]
(.cond (t 18)
(s [mV 19 0, mV 20 1, nK 21 20, fA 22 0 21, lD 23 1 22, cR 24 160 [t 19, t 23, (k 5)]]
.ret)
.skip))
(.seq (s [mV 25 1, nK 26 25, fA 27 4 26, lD 28 1 27, mV 29 28, w 30 29 (.mov (t 3)), w 31 29 (.un .not (t 30)), o 32 (.pick (t 29) (t 31) (.k (.bo false)))]
(.cond (t 32)
(s [mV 33 0, mV 34 1, nK 35 34, fA 36 0 35, lD 37 1 36, cR 38 160 [t 33, t 37, (k 1)]]
.ret)
.skip))
(s [mK 8 (.it .i64 1)]
(.seq (s [mV 39 1, nK 40 39, fA 41 4 40, lD 42 1 41]
(.cond (t 42)
(r [mK 8 (.it .i64 2)])
.skip))
(s [mV 43 0, mV 44 8, mV 45 1, nK 46 45, fA 47 0 46, lD 48 1 47, mV 49 2, mV 50 3, o 51 (.bld [(.it .i64 0), (.it .i64 0), .ns, (.st []), (.bo false), (.it .i64 0)] [(0, 1, (t 44)), (1, 1, (t 48)), (2, 1, (t 49)), (4, 1, (t 50))]), cR 52 114 [t 43, t 51]]
(.seq (s [mV 53 0, nK 54 53, fA 55 0 54, lD 56 1 55, mV 57 56, x 58 57 (.mov (t 3)), o 59 (.pick (t 57) (.k (.bo true)) (t 58)), mV 60 59, x 61 60 (.mov (t 2)), x 62 60 (.call false .pure 251 [t 61]), x 63 60 (.un .not (t 62)), o 64 (.pick (t 60) (.k (.bo true)) (t 63))]
(.cond (t 64)
(r [mV 65 1, nK 66 65, fA 67 4 66, n (.sto 1 (t 67) (.k (.bo true)))])
.skip))
(r [mV 68 0, mV 69 1, mV 70 3, cP 71 107 [t 70], cR 72 65 [t 68, t 69, t 71]])))))))⟩
def c207 : Ev.Fn := d207.den
def p207 : Pol := P0 .rw
theorem r207 : FnOK Tryz.prog mds 207 c207 := .read (pol := p207) (d := d207) Tryz.func207 (by kernel_rfl) (by kernel_rfl) rfl rfl (by kernel_rfl)

def d208 : DFn := ⟨[(.g [.one, .one, .one, .one, .one]), (.c (.sl [.one, .one]))], [(.g [.one, .one, .one, .one, .one]), (.c .one)], .pure, [.cell 4 5 true, .tmp 5],
(s [o 2 (.box (t 0)), o 4 (.alc [(.it .i64 0), (.it .i64 0), (.it .i64 0), (.it .i64 0), (.it .i64 0)]), mK 5 (.it .i64 0)]
(s [lQ 11 5 2, o 6 (.alc [(.it .i64 0), (.it .i64 0), (.it .i64 0), (.it .i64 0), (.it .i64 0)]), sO 5 6 11]
(.seq (s [mV 12 1, lN 13 false 12, mK 14 (.it .i64 0)]
(.blk 0 (.loop [2, 4, 6, 12, 13, 14] [8]
(s [o 15 (b .lss (t 14) (t 13))]
(.seq (.cond (t 15)
.skip
(.exit 0))
(.seq (.blk 1 (s [o 16 (.ias 2 (t 12) (t 14)), lQ 17 2 16, o 8 (.alc [(.it .i64 0), (.it .i64 0)]), sO 2 8 17]
(.seq (s [lQ 18 2 8, cP 19 201 [t 18], mV 9 19]
(s [mV 20 9, o 21 (b .neq (t 20) (k 0))]
(.cond (t 21)
(s [lQ 22 5 2, mV 23 9, sO 5 4 22, mV 5 23]
.ret)
.skip)))
(.seq (.reg false [
fA 24 1 8, lD 25 1 24, o 26 (.mnx true (t 25) (k 0)), o 27 (.mnx false (t 26) (k 2147483647)), mV 10 27] [24])
(.seq (.reg false [
fA 28 0 8, lD 29 1 28] [28])
(.blk 2 (.seq (.reg false [
o 31 (b .eql (t 29) (k 1)), mV 30 31] [])
(.cond (t 30)
(.reg false [
mV 32 10, fA 33 0 6, sO 1 33 32] [33])
(s [o 35 (b .eql (t 29) (k 3)), mV 34 35]
(.cond (t 34)
(.reg false [
mV 36 10, fA 37 1 6, sO 1 37 36] [37])
(s [o 39 (b .eql (t 29) (k 4)), mV 38 39]
(.cond (t 38)
(.reg false [
mV 40 10, fA 41 2 6, sO 1 41 40] [41])
(s [o 43 (b .eql (t 29) (k 5)), mV 42 43]
(.cond (t 42)
(.reg false [
mV 44 10, fA 45 3 6, sO 1 45 44] [45])
(s [o 47 (b .eql (t 29) (k 6)), mV 46 47]
(.cond (t 46)
(.reg false [
mV 48 10, fA 49 4 6, sO 1 49 48] [49])
.skip))))))))))))))))
(.reg false [
o 50 (b .add (t 14) (k 1)), mV 14 50] [])))))))
(s [lQ 51 5 6, sO 5 4 51, mK 5 (.it .i64 0)]
.ret))))⟩
def c208 : Ev.Fn := d208.den
def p208 : Pol := { P0 .pure with loc := [2, 4, 6, 8], ord := [(0, [2, 0, 1])], clr := [(8, [24]), (9, [28]), (11, [33]), (13, [37]), (15, [41]), (17, [45]), (19, [49])], mask := [(3, [2, 4, 6, 12, 13, 14], [8])] }
theorem r208 : FnOK Tryz.prog mds 208 c208 := .read (pol := p208) (d := d208) Tryz.func208 (by kernel_rfl) (by kernel_rfl) rfl rfl (by kernel_rfl)

def d211 : DFn := ⟨[(.g [.one]), (.c .one), (.c .one)], [(.g [.one]), (.c .one)], .pure, [.cell 6 1 true, .tmp 7],
(s [o 3 (.box (t 0)), o 6 (.alc [(.it .i64 0)]), mK 7 (.bo false)]
(.seq (s [mV 9 1, cP 10 90 [t 9], o 11 (.un .not (t 10)), mV 12 11, x 13 12 (.mov (t 2)), x 14 12 (.call false .pure 90 [t 13]), x 15 12 (.un .not (t 14)), o 16 (.pick (t 12) (.k (.bo true)) (t 15))]
(.cond (t 16)
(s [lQ 17 1 3, sO 1 6 17, mK 7 (.bo false)]
.ret)
.skip))
(.seq (.reg false [
fA 18 0 3, lD 19 1 18, mV 20 2, o 21 (b .add (t 19) (t 20)), mV 22 1, o 23 (b .sub (t 21) (t 22)), mV 8 23] [18])
(.seq (.seq (.reg false [
mV 24 8, o 25 (b .gtr (t 24) (k 2147483647)), mV 26 25, x 27 26 (.mov (t 8)), x 28 26 (b .lss (t 27) (.k (.it .i64 (-2147483647)))), o 29 (.pick (t 26) (.k (.bo true)) (t 28))] [])
(.cond (t 29)
(s [lQ 30 1 3, sO 1 6 30, mK 7 (.bo false)]
.ret)
.skip))
(s [mV 31 8, o 32 (.bld [(.it .i64 0)] [(0, 1, (t 31))]), sO 1 6 32, mK 7 (.bo true)]
.ret)))))⟩
def c211 : Ev.Fn := d211.den
def p211 : Pol := { P0 .pure with loc := [3, 6], ord := [(0, [2, 0, 1])], clr := [(3, [18])] }
theorem r211 : FnOK Tryz.prog mds 211 c211 := .read (pol := p211) (d := d211) Tryz.func211 (by kernel_rfl) (by kernel_rfl) rfl rfl (by kernel_rfl)

def d212 : DFn := ⟨[(.g [.one]), (.c .one)], [(.g [.one]), (.c .one)], .pure, [.cell 4 1 true, .tmp 5],
(s [o 2 (.box (t 0)), o 4 (.alc [(.it .i64 0)]), mK 5 (.bo false)]
(.seq (.seq (.reg false [
mV 6 1, cP 7 90 [t 6], o 8 (.un .not (t 7)), mV 9 8, x 10 9 (.mov (t 1)), x 11 9 (.fad 0 (t 2)), x 12 9 (.ld 1 false (t 11)), x 13 9 (b .sub (k 2147483647) (t 12)), x 14 9 (b .gtr (t 10) (t 13)), o 15 (.pick (t 9) (.k (.bo true)) (t 14))] [11])
(.cond (t 15)
(.seq (.reg false [
lQ 16 1 2, sO 1 4 16, mK 5 (.bo false)] [])
.ret)
.skip))
(.seq (.reg false [
fA 17 0 2, lD 18 1 17, mV 19 1, o 20 (b .add (t 18) (t 19)), o 21 (.bld [(.it .i64 0)] [(0, 1, (t 20))]), sO 1 4 21, mK 5 (.bo true)] [17])
.ret)))⟩
def c212 : Ev.Fn := d212.den
def p212 : Pol := { P0 .pure with loc := [2, 4], ord := [(0, [2, 0, 1])], clr := [(1, [11]), (3, [17])] }
theorem r212 : FnOK Tryz.prog mds 212 c212 := .read (pol := p212) (d := d212) Tryz.func212 (by kernel_rfl) (by kernel_rfl) rfl rfl (by kernel_rfl)

def d213 : DFn := ⟨[(.c (.sl [.one])), (.c .one)], [(.c .one)], .rw, [.tmp 4],
(.seq (.reg false [
mK 4 (.it .i64 0)] [])
(.seq (s [mV 6 0, lN 7 false 6, mK 8 (.it .i64 0)]
(.blk 0 (.loop [0, 1, 7, 8] []
(s [o 9 (b .lss (t 8) (t 7))]
(.seq (.cond (t 9)
.skip
(.exit 0))
(.seq (.blk 1 (s [mV 10 8, mV 5 10]
(s [mV 11 1, mV 12 0, mV 13 5, o 14 (.ias 1 (t 12) (t 13)), lD 15 1 14, o 16 (.calv [] (t 11) [t 15])]
(.cond (t 16)
(s [mV 17 5, mV 4 17]
.ret)
.skip))))
(r [o 18 (b .add (t 8) (k 1)), mV 8 18])))))))
(s [mK 4 (.it .i64 (-1))]
.ret)))⟩
def c213 : Ev.Fn := d213.den
def p213 : Pol := { P0 .rw with mask := [(2, [0, 1, 7, 8], [])] }
theorem r213 : FnOK Tryz.prog mds 213 c213 := .read (pol := p213) (d := d213) Tryz.func213 (by kernel_rfl) (by kernel_rfl) rfl rfl (by kernel_rfl)

def d217 : DFn := ⟨[(.c .one), (.c .one), (.c .one), (.c .one)], [(.c (.sl [.one]))], .pure, [.tmp 8],
(s [mK 8 .ns]
(.seq (s [mV 12 3, o 13 (b .eql (t 12) (k 0))]
(.cond (t 13)
(s [mK 8 .ns]
.ret)
.skip))
(.seq (s [mV 14 1, o 15 (b .eql (t 14) (.k (.st [])))]
(.cond (t 15)
(s [mV 16 0, mV 17 3, cP 18 260 [t 16, t 17], mV 8 18]
.ret)
.skip))
(.seq (s [mV 19 3, o 20 (b .lss (t 19) (k 0))]
(.cond (t 20)
(r [mV 21 0, mV 22 1, cP 23 261 [t 21, t 22], o 24 (b .add (t 23) (k 1)), mV 3 24])
.skip))
(s [mV 25 3, mV 26 0, lN 27 true 26, o 28 (b .add (t 27) (k 1)), o 29 (.mnx false (t 25) (t 28)), mV 3 29]
(s [mV 30 3, o 31 (.mks 1 16 [(.st [])] (t 30) (t 30)), mV 9 31]
(s [mV 32 3, o 33 (b .sub (t 32) (k 1)), mV 3 33]
(s [mK 10 (.it .i64 0)]
(.seq (.blk 0 (.loop [0, 1, 2, 3, 9, 10] []
(.seq (s [mV 34 10, mV 35 3, o 36 (b .lss (t 34) (t 35))]
(.cond (t 36)
.skip
(.exit 0)))
(.blk 1 (s [mV 37 0, mV 38 1, cP 39 262 [t 37, t 38], mV 11 39]
(.seq (s [mV 40 11, o 41 (b .lss (t 40) (k 0))]
(.cond (t 41)
(.exit 0)
.skip))
(s [mV 42 9, mV 43 10, mV 44 0, mV 45 11, mV 46 2, o 47 (b .add (t 45) (t 46)), o 48 (.slc true 0 (t 44) none (some (t 47))), o 49 (.ias 1 (t 42) (t 43)), sO 1 49 48]
(s [mV 50 0, mV 51 11, mV 52 1, lN 53 true 52, o 54 (b .add (t 51) (t 53)), o 55 (.slc true 0 (t 50) (some (t 54)) none), mV 0 55]
(r [mV 56 10, o 57 (b .add (t 56) (k 1)), mV 10 57])))))))))
(s [mV 58 9, mV 59 10, mV 60 0, o 61 (.ias 1 (t 58) (t 59)), sO 1 61 60]
(s [mV 62 9, mV 63 10, o 64 (b .add (t 63) (k 1)), o 65 (.slc false 1 (t 62) none (some (t 64))), mV 8 65]
.ret)))))))))))⟩
def c217 : Ev.Fn := d217.den
def p217 : Pol := { P0 .pure with mask := [(11, [0, 1, 2, 3, 9, 10], [])] }
theorem r217 : FnOK Tryz.prog mds 217 c217 := .read (pol := p217) (d := d217) Tryz.func217 (by kernel_rfl) (by kernel_rfl) rfl rfl (by kernel_rfl)

def d218 : DFn := ⟨[(.c .one), (.c .one)], [(.c .one), (.c .one), (.c .one)], .pure, [.tmp 4, .tmp 5, .tmp 6],
(s [mK 4 (.st []), mK 5 (.st []), mK 6 (.bo false)]
(.seq (s [mV 8 0, mV 9 1, cP 10 263 [t 8, t 9], mV 7 10]
(s [mV 11 7, o 12 (b .geq (t 11) (k 0))]
(.cond (t 12)
(.seq (.reg true [
mV 13 0, mV 14 7, o 15 (.slc true 0 (t 13) none (some (t 14))), mV 16 0, mV 17 7, mV 18 1, lN 19 true 18, o 20 (b .add (t 17) (t 19)), o 21 (.slc true 0 (t 16) (some (t 20)) none), mV 4 15, mV 5 21, mK 6 (.bo true)] [])
.ret)
.skip)))
(s [mV 22 0, mV 4 22, mK 5 (.st []), mK 6 (.bo false)]
.ret)))⟩
def c218 : Ev.Fn := d218.den
def p218 : Pol := P0 .pure
theorem r218 : FnOK Tryz.prog mds 218 c218 := .read (pol := p218) (d := d218) Tryz.func218 (by kernel_rfl) (by kernel_rfl) rfl rfl (by kernel_rfl)

def d219 : DFn := ⟨[(.c (.sl [.one, .one]))], [(.g [.one, .one, .one, .one, (.sl [.one, .one]), .one]), (.c .one)], .pure, [.cell 2 6 true, .tmp 3],
(s [o 2 (.alc [(.st []), (.st []), (.st []), (.st []), .ns, (.it .i64 0)]), mK 3 (.bo false)]
(s [mK 4 (.it .i64 0)]
(.seq (.blk 0 (.loop [0, 2, 4] []
(.seq (s [mV 9 4, mV 10 0, lN 11 false 10, o 12 (b .lss (t 9) (t 11)), mV 13 12, w 14 13 (.mov (t 0)), w 15 13 (.mov (t 4)), w 16 13 (.ias 2 (t 14) (t 15)), w 17 13 (.ld 2 true (t 16)), w 18 13 (.call false .pure 264 [t 17]), o 19 (.pick (t 13) (t 18) (.k (.bo false)))]
(.cond (t 19)
.skip
(.exit 0)))
(.blk 1 (r [mV 20 4, o 21 (b .add (t 20) (k 1)), mV 4 21])))))
(s [o 5 (.alh [(.st []), (.st []), (.st []), (.st []), .ns, (.it .i64 0)])]
(.seq (s [mV 22 0, mV 23 4, o 24 (.slc false 2 (t 22) none (some (t 23))), cR 25 265 [t 24, t 5], o 26 (.un .not (t 25)), mV 27 26, x 28 27 (.ld 6 true (t 5)), x 29 27 (.call false .pure 266 [t 28]), x 30 27 (.un .not (t 29)), o 31 (.pick (t 27) (.k (.bo true)) (t 30))]
(.cond (t 31)
(s [o 32 (.bld [(.st []), (.st []), (.st []), (.st []), .ns, (.it .i64 0)] []), sO 6 2 32, mK 3 (.bo false)]
.ret)
.skip))
(s [mV 34 0, mV 35 4, o 36 (.slc false 2 (t 34) (some (t 35)) none), o 37 (.call true .pure 267 [t 36]), mV 33 37, eX 38 33 0, eX 39 33 1, eX 40 33 2, mV 6 38, mV 7 39, mV 8 40]
(.seq (s [mV 41 8, o 42 (.un .not (t 41))]
(.cond (t 42)
(s [o 43 (.bld [(.st []), (.st []), (.st []), (.st []), .ns, (.it .i64 0)] []), sO 6 2 43, mK 3 (.bo false)]
.ret)
.skip))
(s [mV 44 6, mV 45 7, fA 46 4 5, sO 1 46 44, fA 47 5 5, sO 1 47 45]
(s [lQ 48 6 5, sO 6 2 48, mK 3 (.bo true)]
.ret)))))))))⟩
def c219 : Ev.Fn := d219.den
def p219 : Pol := { P0 .pure with loc := [2], heap := [37], own := [37], ord := [(0, [1, 0])], mask := [(2, [0, 2, 4], [])] }
theorem r219 : FnOK Tryz.prog mds 219 c219 := .read (pol := p219) (d := d219) Tryz.func219 (by kernel_rfl) (by kernel_rfl) rfl rfl (by kernel_rfl)

def d220 : DFn := ⟨[(.c .one), (.c .one)], [], .rw, [],
(s [mV 9 1, mV 10 1, nK 11 10, fA 12 2 11, lQ 13 6 12, nK 14 9, fA 15 14 14, sO 6 15 13]
(.seq (s [mV 16 1, cR 17 268 [t 16], o 18 (.un .not (t 17))]
(.cond (t 18)
(s [mV 19 1, nK 20 19, fA 21 11 20, n (.sto 1 (t 21) (.k (.bo true)))]
.ret)
.skip))
(.seq (.reg true [
mV 23 0, nK 24 23, fA 25 23 24, lD 26 1 25, mV 27 1, nK 28 27, fA 29 2 28, lQ 30 6 29, u 4 [25, 29] (.alc [(.st []), (.st []), (.st []), (.st []), .ns, (.it .i64 0), (.it .i64 0), .ns, (.it .i64 0), (.st []), (.it .i64 0), (.it .i64 0)]), cR 31 269 [t 26, t 30], mV 22 31, eX 32 22 0, eX 33 22 1, sO 12 4 32, mV 5 33] [])
(.seq (s [mV 34 5, o 35 (.un .not (t 34))]
(.cond (t 35)
(.seq (s [mV 36 1, nK 37 36, fA 38 2 37, lQ 39 6 38, cP 40 270 [t 39], o 41 (b .eql (t 40) (k 4))]
(.cond (t 41)
(r [mV 42 1, cR 43 187 [t 42, (k 504)]])
(s [mV 44 0, mV 45 1, o 46 (.call true .rw 271 [t 44, t 45]), mV 6 46]
(s [mV 47 6, o 48 (.bin .ptr .neq (t 47) (.k .np))]
(.cond (t 48)
(r [mV 49 1, mV 50 6, nK 51 49, fA 52 12 51, sO 1 52 50])
(r [mV 53 1, nK 54 53, fA 55 11 54, n (.sto 1 (t 55) (.k (.bo true)))]))))))
.ret)
.skip))
(.seq (.reg true [
lQ 56 12 4, mV 57 1, nK 58 57, fA 59 2 58, lQ 60 6 59, mV 61 0, nK 62 61, fA 63 24 62, lD 64 1 63, mV 65 0, nK 66 65, fA 67 0 66, fA 68 1 67, lD 69 1 68, cP 70 272 [t 56, t 60, t 64, t 69]] [])
(.blk 0 (s [o 92 (b .eql (t 70) (k 1)), mV 91 92]
(.cond (t 91)
(r [mV 93 0, mV 94 1, lQ 95 12 4, cR 96 224 [t 93, t 94, t 95]])
(s [o 98 (b .eql (t 70) (k 4)), mV 97 98]
(.cond (t 97)
(r [mV 99 1, cR 100 187 [t 99, (k 504)]])
(s [mV 71 1, nK 72 71, fA 73 11 72, n (.sto 1 (t 73) (.k (.bo true)))]
(.seq (.reg true [
lQ 75 12 4, mV 76 1, nK 77 76, fA 78 2 77, lQ 79 6 78, u 7 [4, 78] (.alc [(.st []), (.st []), (.st []), (.st []), .ns, (.it .i64 0)]), cP 80 273 [t 75, t 79], mV 74 80, eX 81 74 0, eX 82 74 1, sO 6 7 81, mV 8 82] [])
(s [mV 83 8]
(.cond (t 83)
(r [mV 84 1, mV 85 1, lQ 86 6 7, nK 87 84, fA 88 14 87, sO 6 88 86, nK 89 85, fA 90 13 89, n (.stp (t 90) (t 4))])
.skip))))))))))))))⟩
def c220 : Ev.Fn := d220.den
def p220 : Pol := { P0 .rw with loc := [4, 7], heap := [46], own := [46], ord := [(3, [0, 1, 2, 3, 4, 5, 6, 7, 12, 8, 9, 10, 11, 13, 14]), (13, [0, 1, 2, 3, 4, 9, 5, 6, 7, 8, 10, 11])], pro := [4] }
theorem r220 : FnOK Tryz.prog mds 220 c220 := .read (pol := p220) (d := d220) Tryz.func220 (by kernel_rfl) (by kernel_rfl) rfl rfl (by kernel_rfl)

def d221 : DFn := ⟨[(.c (.sl [.one, .one]))], [(.g [.one, (.sl [.one, .one]), .one]), (.c .one)], .pure, [.cell 2 3 true, .tmp 3],
(s [o 2 (.alc [(.it .i64 0), .ns, (.it .i64 0)]), mK 3 (.bo false)]
(.seq (s [mV 8 0, lN 9 false 8, o 10 (b .eql (t 9) (k 0)), mV 11 10, x 12 11 (.mov (t 0)), x 13 11 (.ias 2 (t 12) (k 0)), x 14 11 (.fad 0 (t 13)), x 15 11 (.ld 1 false (t 14)), x 16 11 (b .neq (t 15) (.k (.st [58, 115, 116, 97, 116, 117, 115]))), o 17 (.pick (t 11) (.k (.bo true)) (t 16)), mV 18 17, x 19 18 (.mov (t 0)), x 20 18 (.ias 2 (t 19) (k 0)), x 21 18 (.fad 1 (t 20)), x 22 18 (.ld 1 false (t 21)), x 23 18 (.len true (t 22)), x 24 18 (b .neq (t 23) (k 3)), o 25 (.pick (t 18) (.k (.bo true)) (t 24))]
(.cond (t 25)
(s [o 26 (.bld [(.it .i64 0), .ns, (.it .i64 0)] []), sO 3 2 26, mK 3 (.bo false)]
.ret)
.skip))
(s [mV 27 0, o 28 (.ias 2 (t 27) (k 0)), fA 29 1 28, lD 30 1 29, cP 31 274 [t 30], mV 4 31]
(.seq (s [mV 32 4, o 33 (b .lss (t 32) (k 100)), mV 34 33, x 35 34 (.mov (t 4)), x 36 34 (b .gtr (t 35) (k 599)), o 37 (.pick (t 34) (.k (.bo true)) (t 36)), mV 38 37, x 39 38 (.mov (t 4)), x 40 38 (b .eql (t 39) (k 101)), o 41 (.pick (t 38) (.k (.bo true)) (t 40))]
(.cond (t 41)
(s [o 42 (.bld [(.it .i64 0), .ns, (.it .i64 0)] []), sO 3 2 42, mK 3 (.bo false)]
.ret)
.skip))
(s [mV 44 0, o 45 (.slc false 2 (t 44) (some (k 1)) none), cP 46 267 [t 45], mV 43 46, eX 47 43 0, eX 48 43 1, eX 49 43 2, mV 5 47, mV 6 48, mV 7 49]
(.seq (s [mV 50 7, o 51 (.un .not (t 50))]
(.cond (t 51)
(s [o 52 (.bld [(.it .i64 0), .ns, (.it .i64 0)] []), sO 3 2 52, mK 3 (.bo false)]
.ret)
.skip))
(s [mV 53 4, mV 54 5, mV 55 6, o 56 (.bld [(.it .i64 0), .ns, (.it .i64 0)] [(0, 1, (t 53)), (1, 1, (t 54)), (2, 1, (t 55))]), sO 3 2 56, mK 3 (.bo true)]
.ret)))))))⟩
def c221 : Ev.Fn := d221.den
def p221 : Pol := { P0 .pure with loc := [2], ord := [(0, [1, 0])] }
theorem r221 : FnOK Tryz.prog mds 221 c221 := .read (pol := p221) (d := d221) Tryz.func221 (by kernel_rfl) (by kernel_rfl) rfl rfl (by kernel_rfl)

def d223 : DFn := ⟨[(.c .one), (.g [.one, .one, .one, .one, (.sl [.one, .one]), .one, .one, (.sl [.one, .one]), .one, .one, .one, .one])], [(.c .one)], .rw, [.tmp 4],
(s [o 3 (.box (t 1)), mK 4 (.bo false)]
(.seq (s [mV 7 0, nK 8 7, fA 9 0 8, lD 10 1 9, lN 11 false 10, o 12 (b .sub (t 11) (k 1)), mV 5 12]
(.blk 0 (.loop [0, 3, 5] []
(.seq (s [mV 13 5, o 14 (b .geq (t 13) (k 0))]
(.cond (t 14)
.skip
(.exit 0)))
(.seq (.blk 1 (.seq (.reg true [
mV 17 0, nK 18 17, fA 19 0 18, lD 20 1 19, mV 21 5, o 22 (.ias 12 (t 20) (t 21)), lQ 23 12 22, fA 24 0 3, lQ 25 6 24, cP 26 277 [t 23, t 25]] [24])
(.cond (t 26)
(r [mV 27 0, mV 28 5, cR 29 278 [t 27, t 28]])
.skip)))
(r [mV 15 5, o 16 (b .sub (t 15) (k 1)), mV 5 16]))))))
(s [lQ 30 12 3, cP 31 279 [t 30], mV 6 31]
(.seq (s [mV 32 6, mV 33 0, nK 34 33, fA 35 2 34, lD 36 1 35, o 37 (b .gtr (t 32) (t 36))]
(.cond (t 37)
(s [mK 4 (.bo false)]
.ret)
.skip))
(.seq (.blk 2 (.loop [0, 3, 6] []
(.seq (.seq (.reg true [
mV 38 0, nK 39 38, fA 40 1 39, lD 41 1 40, mV 42 0, nK 43 42, fA 44 2 43, lD 45 1 44, mV 46 6, o 47 (b .sub (t 45) (t 46)), o 48 (b .gtr (t 41) (t 47))] [])
(.cond (t 48)
.skip
(.exit 2)))
(.blk 3 (r [mV 49 0, mV 50 0, nK 51 50, fA 52 0 51, lD 53 1 52, lN 54 false 53, o 55 (b .sub (t 54) (k 1)), cR 56 278 [t 49, t 55]])))))
(s [mV 57 0, lQ 58 12 3, cP 59 281 [t 58], cR 60 280 [t 57, t 59]]
(s [mK 4 (.bo true)]
.ret)))))))⟩
def c223 : Ev.Fn := d223.den
def p223 : Pol := { P0 .rw with loc := [3], ord := [(0, [1, 0])], clr := [(4, [24])], mask := [(2, [0, 3, 5], []), (9, [0, 3, 6], [])] }
theorem r223 : FnOK Tryz.prog mds 223 c223 := .read (pol := p223) (d := d223) Tryz.func223 (by kernel_rfl) (by kernel_rfl) rfl rfl (by kernel_rfl)

def d225 : DFn := ⟨[(.g [.one, .one, .one, .one, (.sl [.one, .one]), .one]), (.g [.one, (.sl [.one, .one]), .one])], [(.c .one)], .pure, [.tmp 4],
(s [o 2 (.box (t 0)), o 3 (.box (t 1)), mK 4 (.bo false)]
(.seq (.seq (.reg false [
fA 5 0 2, lD 6 1 5] [5])
(.blk 0 (.seq (.seq (.reg false [
o 8 (b .eql (t 6) (.k (.st [71, 69, 84]))), mV 7 8] [])
(.cond (t 7)
.skip
(s [o 9 (b .eql (t 6) (.k (.st [72, 69, 65, 68]))), mV 7 9]
(.cond (t 7)
.skip
(s [o 10 (b .eql (t 6) (.k (.st [79, 80, 84, 73, 79, 78, 83]))), mV 7 10]
(.cond (t 7)
.skip
(r [o 11 (b .eql (t 6) (.k (.st [84, 82, 65, 67, 69]))), mV 7 11])))))))
(.cond (t 7)
(s [mK 4 (.bo false)]
.ret)
.skip))))
(.seq (.reg false [
fA 12 0 3, lD 13 1 12, o 14 (b .geq (t 13) (k 200)), mV 15 14, w 16 15 (.fad 0 (t 3)), w 17 15 (.ld 1 false (t 16)), w 18 15 (b .lss (t 17) (k 400)), o 19 (.pick (t 15) (t 18) (.k (.bo false))), mV 4 19] [12, 16])
.ret)))⟩
def c225 : Ev.Fn := d225.den
def p225 : Pol := { P0 .pure with loc := [2, 3], ord := [(0, [2, 0, 1])], clr := [(1, [5]), (7, [12, 16])] }
theorem r225 : FnOK Tryz.prog mds 225 c225 := .read (pol := p225) (d := d225) Tryz.func225 (by kernel_rfl) (by kernel_rfl) rfl rfl (by kernel_rfl)

def d227 : DFn := ⟨[(.g [.one, .one, .one, .one, (.sl [.one, .one]), .one])], [(.c .one)], .pure, [.tmp 2],
(.seq (.reg false [
o 1 (.box (t 0)), mK 2 (.st [])] [])
(.seq (.reg false [
fA 3 1 1, lD 4 1 3, o 5 (b .add (t 4) (.k (.st [58, 47, 47]))), fA 6 2 1, lD 7 1 6, o 8 (b .add (t 5) (t 7)), fA 9 3 1, lD 10 1 9, o 11 (b .add (t 8) (t 10)), mV 2 11] [3, 6, 9])
.ret))⟩
def c227 : Ev.Fn := d227.den
def p227 : Pol := { P0 .pure with loc := [1], ord := [(0, [1, 0])], clr := [(1, [3, 6, 9])] }
theorem r227 : FnOK Tryz.prog mds 227 c227 := .read (pol := p227) (d := d227) Tryz.func227 (by kernel_rfl) (by kernel_rfl) rfl rfl (by kernel_rfl)

def d228 : DFn := ⟨[(.g [.one, .one, .one, .one, (.sl [.one, .one]), .one]), (.g [.one, (.sl [.one, .one]), .one])], [(.c .one)], .pure, [.tmp 4],
(.seq (.reg false [
o 2 (.box (t 0)), o 3 (.box (t 1)), mK 4 (.bo false)] [])
(.seq (.seq (.reg false [
fA 10 0 2, lD 11 1 10, o 12 (b .neq (t 11) (.k (.st [71, 69, 84]))), mV 13 12, x 14 13 (.fad 0 (t 3)), x 15 13 (.ld 1 false (t 14)), x 16 13 (b .lss (t 15) (k 200)), o 17 (.pick (t 13) (.k (.bo true)) (t 16)), mV 18 17, x 19 18 (.fad 0 (t 3)), x 20 18 (.ld 1 false (t 19)), x 21 18 (b .eql (t 20) (k 206)), o 22 (.pick (t 18) (.k (.bo true)) (t 21)), mV 23 22, x 24 23 (.fad 0 (t 3)), x 25 23 (.ld 1 false (t 24)), x 26 23 (b .eql (t 25) (k 304)), o 27 (.pick (t 23) (.k (.bo true)) (t 26))] [10, 14, 19, 24])
(.cond (t 27)
(.seq (.reg false [
mK 4 (.bo false)] [])
.ret)
.skip))
(.seq (.reg true [
fA 28 4 2, lD 29 1 28, fA 31 1 3, lD 32 1 31, u 5 [28, 31, 28, 31, 6] (.alc [(.bo false), (.bo false), (.bo false), (.bo false), (.bo false), (.bo false), (.it .i64 0), (.it .i64 0), (.it .i64 0), (.it .i64 0)]), u 6 [28, 31, 28, 31, 5] (.alc [(.bo false), (.bo false), (.bo false), (.bo false), (.bo false), (.bo false), (.it .i64 0), (.it .i64 0), (.it .i64 0), (.it .i64 0)]), cP 30 284 [t 29], cP 33 284 [t 32], sO 10 5 30, sO 10 6 33] [28, 31])
(.seq (.seq (.reg false [
fA 34 0 5, lD 35 1 34, mV 36 35, x 37 36 (.fad 0 (t 6)), x 38 36 (.ld 1 false (t 37)), o 39 (.pick (t 36) (.k (.bo true)) (t 38)), mV 40 39, x 41 40 (.fad 2 (t 6)), x 42 40 (.ld 1 false (t 41)), o 43 (.pick (t 40) (.k (.bo true)) (t 42))] [34, 37, 41])
(.cond (t 43)
(.seq (.reg false [
mK 4 (.bo false)] [])
.ret)
.skip))
(.seq (.seq (.reg false [
fA 45 1 3, lD 46 1 45, cP 47 285 [t 46], mV 44 47, eX 48 44 0, eX 49 44 1, mV 7 48, mV 8 49] [45])
(.seq (.reg false [
mV 50 8] [])
(.cond (t 50)
(s [mK 4 (.bo false)]
.ret)
.skip)))
(.seq (.reg false [
fA 51 7 6, lD 52 1 51, o 53 (b .geq (t 52) (k 0)), mV 9 53] [51])
(.seq (.seq (.reg false [
fA 54 4 2, lD 55 1 54, o 56 (.call false .pure 286 [t 55, (.k (.st [97, 117, 116, 104, 111, 114, 105, 122, 97, 116, 105, 111, 110]))]), mV 57 56, w 58 57 (.fad 4 (t 6)), w 59 57 (.ld 1 false (t 58)), w 60 57 (.un .not (t 59)), o 61 (.pick (t 57) (t 60) (.k (.bo false))), mV 62 61, w 63 62 (.fad 3 (t 6)), w 64 62 (.ld 1 false (t 63)), w 65 62 (.un .not (t 64)), o 66 (.pick (t 62) (t 65) (.k (.bo false))), mV 67 66, w 68 67 (.mov (t 9)), w 69 67 (.un .not (t 68)), o 70 (.pick (t 67) (t 69) (.k (.bo false)))] [54, 58, 63])
(.cond (t 70)
(.seq (.reg false [
mK 4 (.bo false)] [])
.ret)
.skip))
(.seq (.reg false [
fA 71 3 6, lD 72 1 71, mV 73 72, x 74 73 (.mov (t 9)), o 75 (.pick (t 73) (.k (.bo true)) (t 74)), mV 76 75, x 77 76 (.fad 6 (t 6)), x 78 76 (.ld 1 false (t 77)), x 79 76 (b .geq (t 78) (k 0)), o 80 (.pick (t 76) (.k (.bo true)) (t 79)), mV 81 80, x 82 81 (.fad 1 (t 3)), x 83 81 (.ld 1 false (t 82)), x 84 81 (.call false .pure 286 [t 83, (.k (.st [101, 120, 112, 105, 114, 101, 115]))]), o 85 (.pick (t 81) (.k (.bo true)) (t 84)), mV 86 85, x 87 86 (.fad 0 (t 3)), x 88 86 (.ld 1 false (t 87)), x 89 86 (.call false .pure 287 [t 88]), o 90 (.pick (t 86) (.k (.bo true)) (t 89)), mV 4 90] [71, 77, 82, 87])
.ret))))))))⟩
def c228 : Ev.Fn := d228.den
def p228 : Pol := { P0 .pure with loc := [2, 3, 5, 6], ord := [(0, [2, 0, 1]), (3, [0, 1, 3, 4, 6, 7, 2, 5, 8, 9])], clr := [(1, [10, 14, 19, 24]), (3, [28, 31]), (4, [34, 37, 41]), (6, [45]), (9, [51]), (10, [54, 58, 63]), (12, [71, 77, 82, 87])] }
theorem r228 : FnOK Tryz.prog mds 228 c228 := .read (pol := p228) (d := d228) Tryz.func228 (by kernel_rfl) (by kernel_rfl) rfl rfl (by kernel_rfl)

def d229 : DFn := ⟨[(.c .one), (.c .one)], [], .rw, [],
(.seq (.reg true [
mV 6 1, mV 7 1, nK 8 7, fA 9 33 8, lD 10 1 9, mV 11 10, w 12 11 (.mov (t 1)), w 13 11 (.nck (t 12)), w 14 11 (.fad 34 (t 13)), w 15 11 (.ld 12 true (t 14)), w 17 11 (.mov (t 0)), w 18 11 (.nck (t 17)), w 19 11 (.fad 0 (t 18)), w 20 11 (.fad 0 (t 19)), w 21 11 (.ld 1 false (t 20)), w 16 11 (.call false .pure 279 [t 15]), w 22 11 (b .leq (t 16) (t 21)), o 23 (.pick (t 11) (t 22) (.k (.bo false))), nK 24 6, fA 25 33 24, sO 1 25 23] [])
(s [mV 26 0, mV 27 1, cR 28 183 [t 26, t 27], lN 29 false 28, mK 30 (.it .i64 0)]
(.blk 0 (.loop [1, 28, 29, 30] []
(s [o 31 (b .lss (t 30) (t 29))]
(.seq (.cond (t 31)
.skip
(.exit 0))
(.seq (.blk 1 (s [o 32 (.ias 1 (t 28) (t 30)), lD 33 1 32, mV 5 33]
(.seq (.reg true [
mV 34 1, nK 35 34, fA 36 33 35, lD 37 1 36, o 38 (.un .not (t 37)), mV 39 38, x 40 39 (.mov (t 1)), x 41 39 (.nck (t 40)), x 42 39 (.fad 34 (t 41)), x 43 39 (.ld 12 true (t 42)), x 44 39 (.mov (t 5)), x 45 39 (.nck (t 44)), x 46 39 (.fad 2 (t 45)), x 47 39 (.ld 6 true (t 46)), x 48 39 (.call false .pure 288 [t 43, t 47]), x 49 39 (.un .not (t 48)), o 50 (.pick (t 39) (.k (.bo true)) (t 49))] [])
(.cond (t 50)
(r [mV 51 5, mV 52 5, nK 53 51, fA 54 12 53, n (.sto 1 (t 54) (.k .np)), nK 55 52, fA 56 11 55, n (.sto 1 (t 56) (.k (.bo true)))])
.skip))))
(r [o 57 (b .add (t 30) (k 1)), mV 30 57]))))))))⟩
def c229 : Ev.Fn := d229.den
def p229 : Pol := { P0 .rw with ord := [(0, [0, 1, 2, 3, 4, 5, 6, 7, 8, 9, 11, 12, 13, 14, 15, 10, 16, 17, 18, 19, 20]), (1, [0, 1, 4, 2, 3])], mask := [(2, [1, 28, 29, 30], [])] }
theorem r229 : FnOK Tryz.prog mds 229 c229 := .read (pol := p229) (d := d229) Tryz.func229 (by kernel_rfl) (by kernel_rfl) rfl rfl (by kernel_rfl)

def d230 : DFn := ⟨[(.c .one), (.c .one)], [], .rw, [],
(.seq (.seq (.reg true [
mV 8 1, nK 9 8, fA 10 30 9, lD 11 1 10, o 12 (b .geq (t 11) (k 0)), mV 13 12, w 14 13 (.mov (t 1)), w 15 13 (.nck (t 14)), w 16 13 (.fad 32 (t 15)), w 17 13 (.ld 1 false (t 16)), w 18 13 (.mov (t 1)), w 19 13 (.nck (t 18)), w 20 13 (.fad 30 (t 19)), w 21 13 (.ld 1 false (t 20)), w 22 13 (b .neq (t 17) (t 21)), o 23 (.pick (t 13) (t 22) (.k (.bo false))), mV 24 23, w 25 24 (.mov (t 1)), w 26 24 (.nck (t 25)), w 27 24 (.fad 31 (t 26)), w 28 24 (.ld 1 false (t 27)), w 29 24 (.mov (t 28)), w 30 29 (.mov (t 1)), w 31 29 (.nck (t 30)), w 32 29 (.fad 32 (t 31)), w 33 29 (.ld 1 false (t 32)), w 34 29 (b .eql (t 33) (k 0)), w 35 24 (.pick (t 29) (t 34) (.k (.bo false))), w 36 24 (.un .not (t 35)), o 37 (.pick (t 24) (t 36) (.k (.bo false)))] [])
(.cond (t 37)
(s [mV 38 0, mV 39 1, cR 40 184 [t 38, t 39]]
(s [mV 41 0, mV 42 1, cR 43 131 [t 41, t 42]]
.ret))
.skip))
(s [mV 44 1, nK 45 44, fA 46 29 45, n (.sto 1 (t 46) (.k (.bo true)))]
(.seq (s [mV 47 1, nK 48 47, fA 49 33 48, lD 50 1 49]
(.cond (t 50)
(.reg true [
mV 51 0, nK 52 51, fA 53 23 52, lD 54 1 53, mV 55 1, nK 56 55, fA 57 34 56, lQ 58 12 57, cR 59 223 [t 54, t 58]] [])
.skip))
(.seq (s [mV 60 0, mV 61 1, cR 62 183 [t 60, t 61], lN 63 false 62, mK 64 (.it .i64 0)]
(.blk 0 (.loop [0, 1, 62, 63, 64] [6]
(s [o 65 (b .lss (t 64) (t 63))]
(.seq (.cond (t 65)
.skip
(.exit 0))
(.seq (.blk 1 (s [o 66 (.ias 1 (t 62) (t 64)), lD 67 1 66, mV 5 67]
(s [mV 68 5, nK 69 68, fA 70 12 69, n (.sto 1 (t 70) (.k .np))]
(s [o 71 (.bld [(.st []), (.st []), (.st []), (.st []), .ns, (.it .i64 0), (.it .i64 0), .ns, (.it .i64 0), (.st []), (.it .i64 0), (.it .i64 0)] []), o 6 (.alc [(.st []), (.st []), (.st []), (.st []), .ns, (.it .i64 0), (.it .i64 0), .ns, (.it .i64 0), (.st []), (.it .i64 0), (.it .i64 0)]), sO 12 6 71, mK 7 (.bo false)]
(.seq (s [mV 72 1, nK 73 72, fA 74 33 73, lD 75 1 74]
(.cond (t 75)
(.reg true [
mV 77 0, nK 78 77, fA 79 23 78, lD 80 1 79, mV 81 5, nK 82 81, fA 83 2 82, lQ 84 6 83, cR 85 269 [t 80, t 84], mV 76 85, eX 86 76 0, eX 87 76 1, sO 12 6 86, mV 7 87] [])
.skip))
(s [mV 88 7]
(.cond (t 88)
(r [mV 89 0, mV 90 5, lQ 91 12 6, cR 92 224 [t 89, t 90, t 91]])
(r [mV 93 5, nK 94 93, fA 95 11 94, n (.sto 1 (t 95) (.k (.bo true)))]))))))))
(r [o 96 (b .add (t 64) (k 1)), mV 64 96])))))))
(s [mV 97 1, nK 98 97, fA 99 0 98, lD 100 1 99, o 101 (b .lss (t 100) (k 0))]
(.cond (t 101)
(s [mV 102 0, mV 103 1, cR 104 184 [t 102, t 103]]
(r [mV 105 0, mV 106 1, cR 107 185 [t 105, t 106]]))
.skip))))))⟩
def c230 : Ev.Fn := d230.den
def p230 : Pol := { P0 .rw with loc := [6], ord := [(6, [0, 1, 4, 2, 3])], mask := [(7, [0, 1, 62, 63, 64], [6])] }
theorem r230 : FnOK Tryz.prog mds 230 c230 := .read (pol := p230) (d := d230) Tryz.func230 (by kernel_rfl) (by kernel_rfl) rfl rfl (by kernel_rfl)

def d231 : DFn := ⟨[(.c (.sl [.one])), (.c .one)], [(.c (.sl [.one]))], .rw, [.tmp 4],
(s [mK 4 .ns]
(s [mV 8 0, mV 9 1, cR 10 289 [t 8, t 9], mV 5 10]
(.seq (s [mV 11 5, o 12 (b .eql (t 11) (.k (.it .i64 (-1))))]
(.cond (t 12)
(s [mV 13 0, mV 4 13]
.ret)
.skip))
(.seq (s [mV 14 5, o 15 (b .add (t 14) (k 1)), mV 6 15]
(.blk 0 (.loop [0, 1, 5, 6] []
(.seq (s [mV 16 6, mV 17 0, lN 18 false 17, o 19 (b .lss (t 16) (t 18))]
(.cond (t 19)
.skip
(.exit 0)))
(.seq (.blk 1 (s [mV 22 0, mV 23 6, o 24 (.ias 1 (t 22) (t 23)), lD 25 1 24, mV 7 25]
(s [mV 26 1, mV 27 7, o 28 (.calv [] (t 26) [t 27]), o 29 (.un .not (t 28))]
(.cond (t 29)
(s [mV 30 0, mV 31 5, mV 32 7, o 33 (.ias 1 (t 30) (t 31)), sO 1 33 32]
(r [mV 34 5, o 35 (b .add (t 34) (k 1)), mV 5 35]))
.skip))))
(r [mV 20 6, o 21 (b .add (t 20) (k 1)), mV 6 21]))))))
(s [mV 36 0, mV 37 5, o 38 (.slc false 1 (t 36) (some (t 37)) none), n (.clr 1 [.np] (t 38))]
(s [mV 39 0, mV 40 5, o 41 (.slc false 1 (t 39) none (some (t 40))), mV 4 41]
.ret))))))⟩
def c231 : Ev.Fn := d231.den
def p231 : Pol := { P0 .rw with mask := [(5, [0, 1, 5, 6], [])] }
theorem r231 : FnOK Tryz.prog mds 231 c231 := .read (pol := p231) (d := d231) Tryz.func231 (by kernel_rfl) (by kernel_rfl) rfl rfl (by kernel_rfl)

def d232 : DFn := ⟨[(.c .one), (.c .one)], [(.c .one)], .rw, [.tmp 3],
(s [mK 3 (.bo false)]
(s [mV 4 0, lD 5 1 1, o 6 (.hnd (.eqp .eql) [t 4, t 5]), mV 3 6]
.ret))⟩
def c232 : Ev.Fn := d232.den
def p232 : Pol := { P0 .rw with hnd := [6] }
theorem r232 : FnOK Tryz.prog mds 232 c232 := .read (pol := p232) (d := d232) Tryz.func232 (by kernel_rfl) (by kernel_rfl) rfl rfl (by kernel_rfl)

def d234 : DFn := ⟨[(.c (.sl [.one])), (.c .one)], [(.c .one)], .pure, [.tmp 4],
(s [mK 4 (.st [])]
(.seq (s [mV 11 0, lN 12 false 11]
(.blk 0 (s [o 14 (b .eql (t 12) (k 0)), mV 13 14]
(.cond (t 13)
(s [mK 4 (.st [])]
.ret)
(s [o 16 (b .eql (t 12) (k 1)), mV 15 16]
(.cond (t 15)
(s [mV 17 0, o 18 (.ias 1 (t 17) (k 0)), lD 19 1 18, mV 4 19]
.ret)
.skip))))))
(s [mK 5 (.it .i64 0)]
(.seq (s [mV 20 1, lN 21 true 20, o 22 (b .gtr (t 21) (k 0))]
(.cond (t 22)
(.seq (s [mV 23 1, lN 24 true 23, mV 25 0, lN 26 false 25, o 27 (b .sub (t 26) (k 1)), o 28 (b .quo (k 9223372036854775807) (t 27)), o 29 (b .geq (t 24) (t 28))]
(.cond (t 29)
(r [o 30 (.mki 9 (.k (.st [115, 116, 114, 105, 110, 103, 115, 58, 32, 74, 111, 105, 110, 32, 111, 117, 116, 112, 117, 116, 32, 108, 101, 110, 103, 116, 104, 32, 111, 118, 101, 114, 102, 108, 111, 119]))), n (.pan (t 30))])
.skip))
(r [mV 31 5, mV 32 1, lN 33 true 32, mV 34 0, lN 35 false 34, o 36 (b .sub (t 35) (k 1)), o 37 (b .mul (t 33) (t 36)), o 38 (b .add (t 31) (t 37)), mV 5 38]))
.skip))
(.seq (s [mV 39 0, lN 40 false 39, mK 41 (.it .i64 0)]
(.blk 1 (.loop [0, 1, 5, 39, 40, 41] []
(s [o 42 (b .lss (t 41) (t 40))]
(.seq (.cond (t 42)
.skip
(.exit 1))
(.seq (.blk 2 (s [o 43 (.ias 1 (t 39) (t 41)), lD 44 1 43, mV 7 44]
(.seq (s [mV 45 7, lN 46 true 45, mV 47 5, o 48 (b .sub (k 9223372036854775807) (t 47)), o 49 (b .gtr (t 46) (t 48))]
(.cond (t 49)
(r [o 50 (.mki 9 (.k (.st [115, 116, 114, 105, 110, 103, 115, 58, 32, 74, 111, 105, 110, 32, 111, 117, 116, 112, 117, 116, 32, 108, 101, 110, 103, 116, 104, 32, 111, 118, 101, 114, 102, 108, 111, 119]))), n (.pan (t 50))])
.skip))
(r [mV 51 5, mV 52 7, lN 53 true 52, o 54 (b .add (t 51) (t 53)), mV 5 54]))))
(r [o 55 (b .add (t 41) (k 1)), mV 41 55])))))))
(s [o 8 (.alh [.np, .ns])]
(s [mV 56 5, cR 57 290 [t 8, t 56]]
(s [mV 58 0, o 59 (.ias 1 (t 58) (k 0)), lD 60 1 59, cR 61 291 [t 8, t 60]]
(.seq (s [mV 62 0, o 63 (.slc false 1 (t 62) (some (k 1)) none), lN 64 false 63, mK 65 (.it .i64 0)]
(.blk 3 (.loop [1, 8, 63, 64, 65] []
(s [o 66 (b .lss (t 65) (t 64))]
(.seq (.cond (t 66)
.skip
(.exit 3))
(.seq (.blk 4 (s [o 67 (.ias 1 (t 63) (t 65)), lD 68 1 67, mV 10 68]
(s [mV 69 1, cR 70 291 [t 8, t 69]]
(r [mV 71 10, cR 72 291 [t 8, t 71]]))))
(r [o 73 (b .add (t 65) (k 1)), mV 65 73])))))))
(s [cR 74 292 [t 8], mV 4 74]
.ret))))))))))⟩
def c234 : Ev.Fn := d234.den
def p234 : Pol := { P0 .pure with mask := [(12, [0, 1, 5, 39, 40, 41], []), (22, [1, 8, 63, 64, 65], [])] }
theorem r234 : FnOK Tryz.prog mds 234 c234 := .read (pol := p234) (d := d234) Tryz.func234 (by kernel_rfl) (by kernel_rfl) rfl rfl (by kernel_rfl)

def d235 : DFn := ⟨[(.c .one), (.c .one), (.c .one), (.c .one)], [], .rw, [],
(s [lD 6 1 1, lD 7 1 2, mV 8 0, o 9 (.slc true 0 (t 6) (some (t 7)) (some (t 8))), cP 10 236 [t 9], mV 5 10]
(s [mV 11 5, o 12 (b .neq (t 11) (.k (.st [])))]
(.cond (t 12)
(r [lD 13 1 3, mV 14 5, o 15 (.bsv [.one] 1 [[(.st [])]] [(0, (t 14))]), o 16 (.app 1 16 (t 13) (t 15)), sO 1 3 16])
.skip)))⟩
def c235 : Ev.Fn := d235.den
def p235 : Pol := { P0 .rw with heap := [16], own := [16] }
theorem r235 : FnOK Tryz.prog mds 235 c235 := .read (pol := p235) (d := d235) Tryz.func235 (by kernel_rfl) (by kernel_rfl) rfl rfl (by kernel_rfl)

def d236 : DFn := ⟨[(.c .one)], [(.c .one)], .pure, [.tmp 2],
(s [mK 2 (.st [])]
(.seq (.blk 0 (.loop [0] []
(.seq (s [mV 3 0, o 4 (b .neq (t 3) (.k (.st []))), mV 5 4, w 6 5 (.mov (t 0)), w 7 5 (.ixs (t 6) (k 0)), w 8 5 (.call false .pure 293 [t 7]), o 9 (.pick (t 5) (t 8) (.k (.bo false)))]
(.cond (t 9)
.skip
(.exit 0)))
(.blk 1 (r [mV 10 0, o 11 (.slc true 0 (t 10) (some (k 1)) none), mV 0 11])))))
(.seq (.blk 2 (.loop [0] []
(.seq (s [mV 12 0, o 13 (b .neq (t 12) (.k (.st []))), mV 14 13, w 15 14 (.mov (t 0)), w 16 14 (.mov (t 0)), w 17 14 (.len true (t 16)), w 18 14 (b .sub (t 17) (k 1)), w 19 14 (.ixs (t 15) (t 18)), w 20 14 (.call false .pure 293 [t 19]), o 21 (.pick (t 14) (t 20) (.k (.bo false)))]
(.cond (t 21)
.skip
(.exit 2)))
(.blk 3 (r [mV 22 0, mV 23 0, lN 24 true 23, o 25 (b .sub (t 24) (k 1)), o 26 (.slc true 0 (t 22) none (some (t 25))), mV 0 26])))))
(s [mV 27 0, mV 2 27]
.ret))))⟩
def c236 : Ev.Fn := d236.den
def p236 : Pol := { P0 .pure with mask := [(1, [0], []), (3, [0], [])] }
theorem r236 : FnOK Tryz.prog mds 236 c236 := .read (pol := p236) (d := d236) Tryz.func236 (by kernel_rfl) (by kernel_rfl) rfl rfl (by kernel_rfl)

def d239 : DFn := ⟨[(.c .one)], [(.c .one)], .pure, [.tmp 2],
(s [mK 2 (.it .i64 0)]
(s [mK 3 (.it .i64 0)]
(.seq (s [mV 5 0, lN 6 true 5, mK 7 (.it .i64 0)]
(.blk 0 (.loop [0, 3, 6, 7] []
(s [o 8 (b .lss (t 7) (t 6))]
(.seq (.cond (t 8)
.skip
(.exit 0))
(.seq (.blk 1 (s [mV 9 7, mV 4 9]
(r [mV 10 3, mV 11 0, mV 12 4, o 13 (.ixs (t 11) (t 12)), cV 14 .i64 13, cP 15 294 [t 14], o 16 (b .add (t 10) (t 15)), mV 3 16])))
(r [o 17 (b .add (t 7) (k 1)), mV 7 17])))))))
(s [mV 18 3, o 19 (b .add (t 18) (k 7)), o 20 (b .quo (t 19) (k 8)), mV 2 20]
.ret))))⟩
def c239 : Ev.Fn := d239.den
def p239 : Pol := { P0 .pure with mask := [(3, [0, 3, 6, 7], [])] }
theorem r239 : FnOK Tryz.prog mds 239 c239 := .read (pol := p239) (d := d239) Tryz.func239 (by kernel_rfl) (by kernel_rfl) rfl rfl (by kernel_rfl)

def d240 : DFn := ⟨[(.c .one)], [(.c (.sl [.one]))], .pure, [.tmp 2],
(s [mK 2 .ns]
(s [cR 9 295 [], mV 3 9]
(s [mV 10 0, cP 11 239 [t 10], o 12 (.mks 1 1 [(.it .u8 0)] (k 0) (t 11)), mV 4 12]
(s [mK 5 (.it .u64 0), mK 6 (.it .i64 0)]
(.seq (s [mV 13 0, lN 14 true 13, mK 15 (.it .i64 0)]
(.blk 0 (.loop [0, 3, 4, 5, 6, 14, 15] []
(s [o 16 (b .lss (t 15) (t 14))]
(.seq (.cond (t 16)
.skip
(.exit 0))
(.seq (.blk 1 (s [mV 17 15, mV 7 17]
(s [mV 18 0, mV 19 7, o 20 (.ixs (t 18) (t 19)), cV 21 .i64 20, cP 22 294 [t 21], mV 8 22]
(.seq (.reg true [
mV 23 5, mV 24 8, cV 25 .u64 24, o 26 (b .shl (t 23) (t 25)), mV 27 3, mV 28 0, mV 29 7, o 30 (.ixs (t 28) (t 29)), nK 31 27, fA 32 353 31, o 33 (.iaa 257 1 (t 32) (t 30)), lD 34 1 33, cV 35 .u64 34, o 36 (b .or (t 26) (t 35)), mV 5 36] [])
(s [mV 37 6, mV 38 8, o 39 (b .add (t 37) (t 38)), mV 6 39]
(.blk 2 (.loop [0, 3, 4, 5, 6, 14, 15] []
(.seq (s [mV 40 6, o 41 (b .geq (t 40) (k 8))]
(.cond (t 41)
.skip
(.exit 2)))
(.blk 3 (s [mV 42 6, o 43 (b .sub (t 42) (k 8)), mV 6 43]
(r [mV 44 4, mV 45 5, mV 46 6, cV 47 .u64 46, o 48 (b .shr (t 45) (t 47)), cV 49 .u8 48, o 50 (.bsv [.one] 1 [[(.it .u8 0)]] [(0, (t 49))]), o 51 (.app 1 1 (t 44) (t 50)), mV 4 51])))))))))))
(r [o 52 (b .add (t 15) (k 1)), mV 15 52])))))))
(.seq (s [mV 53 6, o 54 (b .gtr (t 53) (k 0))]
(.cond (t 54)
(r [mV 55 4, mV 56 5, mV 57 6, o 58 (b .sub (k 8) (t 57)), cV 59 .u64 58, o 60 (b .shl (t 56) (t 59)), cV 61 .u8 60, mV 62 6, cV 63 .u64 62, o 64 (b .shr (.k (.it .u8 255)) (t 63)), o 65 (b .or (t 61) (t 64)), o 66 (.bsv [.one] 1 [[(.it .u8 0)]] [(0, (t 65))]), o 67 (.app 1 1 (t 55) (t 66)), mV 4 67])
.skip))
(s [mV 68 4, mV 2 68]
.ret)))))))⟩
def c240 : Ev.Fn := d240.den
def p240 : Pol := { P0 .pure with heap := [51, 67], own := [51, 67], mask := [(5, [0, 3, 4, 5, 6, 14, 15], []), (10, [0, 3, 4, 5, 6, 14, 15], [])] }
theorem r240 : FnOK Tryz.prog mds 240 c240 := .read (pol := p240) (d := d240) Tryz.func240 (by kernel_rfl) (by kernel_rfl) rfl rfl (by kernel_rfl)

end Go.Proofs.YtnnhhfjkkmakaaaGreatDoor.tab
