import Derived.Test.YtnnhhfjkkmakaaaGreatDoorTab
import Derived.KernelRfl
/- the functions of the seat, read off the program -/
namespace Go.Proofs.YtnnhhfjkkmakaaaGreatDoor.tab
open Go hiding Fn
open Ev

def d77 : DFn := ⟨[(.c .one), (.g [.one, .one, .one, .one, (.sl [.one, .one, .one]), .one, .one])], [(.g [.one, .one, .one])], .rw, [.cell 4 3 true],
(s [o 3 (.box (t 1)), o 4 (.alc [(.bo false), (.it .i64 0), (.it .i64 0)])]
(.seq (.reg true [
mV 9 0, nK 10 9, fA 11 0 10, lD 12 1 11, fA 13 4 3, lD 14 1 13, fA 15 6 3, lD 16 1 15, mV 17 16, w 18 17 (.fad 5 (t 3)), w 19 17 (.ld 1 false (t 18)), w 20 17 (b .eql (t 19) (.k (.st []))), o 21 (.pick (t 17) (t 20) (.k (.bo false))), cR 22 13 [t 12, t 14, t 21], mV 8 22, eX 23 8 0, eX 24 8 1, mV 5 23, mV 6 24] [13, 15, 18])
(s [mV 25 6, mV 26 5, o 27 (.bld [(.bo false), (.it .i64 0), (.it .i64 0)] [(0, 1, (t 25)), (1, 1, (t 26))]), o 7 (.alc [(.bo false), (.it .i64 0), (.it .i64 0)]), sO 3 7 27]
(.seq (.seq (.reg false [
mV 28 6, mV 29 28, w 30 29 (.fad 5 (t 3)), w 31 29 (.ld 1 false (t 30)), w 32 29 (b .neq (t 31) (.k (.st []))), o 33 (.pick (t 29) (t 32) (.k (.bo false)))] [30])
(.cond (t 33)
(.reg false [
mV 34 0, mV 35 5, lQ 36 7 3, cR 37 78 [t 34, t 35, t 36], o 38 (.fld 2 1 false (t 37)), fA 39 2 7, sO 1 39 38] [39])
.skip))
(.seq (.reg false [
lQ 40 3 7, sO 3 4 40] [])
.ret)))))⟩
def c77 : Ev.Fn := d77.den
def p77 : Pol := { P0 .rw with loc := [3, 4, 7], clr := [(1, [13, 15, 18]), (3, [30]), (4, [39])] }
theorem r77 : FnOK Tryz.prog mds 77 c77 := .read (pol := p77) (d := d77) Tryz.func77 (by kernel_rfl) (by kernel_rfl) rfl rfl (by kernel_rfl)

def d78 : DFn := ⟨[(.c .one), (.c .one), (.g [.one, .one, .one, .one, (.sl [.one, .one, .one]), .one, .one])], [(.g [.one, .one, .one])], .rw, [.cell 6 3 true],
(s [o 5 (.box (t 2)), o 6 (.alc [(.bo false), (.it .i64 0), (.it .i64 0)])]
(.seq (.reg true [
mV 10 0, nK 11 10, fA 12 0 11, lD 13 1 12, mV 14 1, fA 15 5 5, lD 16 1 15, fA 17 6 5, lD 18 1 17, cR 19 18 [t 13, t 14, t 16, t 18], mV 9 19, eX 20 9 0, eX 21 9 1, mV 7 20, mV 8 21] [15, 17])
(s [mV 22 8, mV 23 7, o 24 (.bld [(.bo false), (.it .i64 0), (.it .i64 0)] [(0, 1, (t 22)), (2, 1, (t 23))]), sO 3 6 24]
.ret)))⟩
def c78 : Ev.Fn := d78.den
def p78 : Pol := { P0 .rw with loc := [5, 6], clr := [(1, [15, 17])] }
theorem r78 : FnOK Tryz.prog mds 78 c78 := .read (pol := p78) (d := d78) Tryz.func78 (by kernel_rfl) (by kernel_rfl) rfl rfl (by kernel_rfl)

def d81 : DFn := ⟨[(.c .one), (.g [.one, .one, .one, .one, (.sl [.one, .one, .one]), .one, .one])], [(.g [.one, .one, .one])], .rw, [.cell 4 3 true],
(s [o 3 (.box (t 1)), o 4 (.alc [(.bo false), (.it .i64 0), (.it .i64 0)])]
(.seq (.seq (.reg true [
mV 5 0, nK 6 5, fA 7 0 6, lD 8 1 7, fA 9 3 3, lD 10 1 9, fA 11 4 3, lD 12 1 11, fA 13 6 3, lD 14 1 13, mV 15 14, w 16 15 (.fad 5 (t 3)), w 17 15 (.ld 1 false (t 16)), w 18 15 (b .eql (t 17) (.k (.st []))), o 19 (.pick (t 15) (t 18) (.k (.bo false))), cR 20 17 [t 8, t 10, t 12, t 19], o 21 (.un .not (t 20))] [9, 11, 13, 16])
(.cond (t 21)
(s [o 22 (.bld [(.bo false), (.it .i64 0), (.it .i64 0)] []), sO 3 4 22]
.ret)
.skip))
(.seq (.seq (.reg false [
fA 23 5 3, lD 24 1 23, o 25 (b .eql (t 24) (.k (.st [])))] [23])
(.cond (t 25)
(.seq (.reg false [
o 26 (.bld [(.bo false), (.it .i64 0), (.it .i64 0)] [(0, 1, (.k (.bo true)))]), sO 3 4 26] [])
.ret)
.skip))
(.seq (.reg false [
mV 27 0, fA 28 3 3, lD 29 1 28, lQ 30 7 3, cR 31 78 [t 27, t 29, t 30], sO 3 4 31] [28])
.ret))))⟩
def c81 : Ev.Fn := d81.den
def p81 : Pol := { P0 .rw with loc := [3, 4], clr := [(1, [9, 11, 13, 16]), (3, [23]), (5, [28])] }
theorem r81 : FnOK Tryz.prog mds 81 c81 := .read (pol := p81) (d := d81) Tryz.func81 (by kernel_rfl) (by kernel_rfl) rfl rfl (by kernel_rfl)

def d82 : DFn := ⟨[(.c .one), (.c .one), (.g [.one, .one, .one, .one, (.sl [.one, .one, .one]), .one, .one]), (.c .one)], [(.g [.one, .one, .one])], .rw, [.cell 8 3 true],
(.seq (.reg false [
o 6 (.box (t 2)), o 8 (.alc [(.bo false), (.it .i64 0), (.it .i64 0)])] [])
(.seq (.reg true [
mV 10 1, nK 11 10, fA 12 0 11, lD 13 1 12, fA 14 2 6, lD 15 1 14, cR 16 14 [t 13, t 15], mV 9 16] [14])
(s [mV 17 1, mV 18 9, cR 19 122 [t 17, (.k (.bo false)), t 18]]
(.seq (.reg false [
mV 20 0, mV 21 3, fA 22 1 6, lD 23 1 22, mV 24 9, o 25 (.bld [(.it .i64 0), (.it .i64 0), (.it .i64 0), .ns] [(0, 1, (t 21)), (1, 1, (t 23)), (3, 1, (t 24))]), cR 26 75 [t 20, t 25], o 27 (.fld 0 1 false (t 26)), mV 28 9, lN 29 false 28, o 30 (.bld [(.bo false), (.it .i64 0), (.it .i64 0)] [(0, 1, (t 27)), (2, 1, (t 29))]), sO 3 8 30] [22])
.ret))))⟩
def c82 : Ev.Fn := d82.den
def p82 : Pol := { P0 .rw with loc := [6, 8], ord := [(3, [0, 1, 2, 3, 4, 5, 8, 9, 6, 7, 10, 11])], clr := [(1, [14]), (3, [22])] }
theorem r82 : FnOK Tryz.prog mds 82 c82 := .read (pol := p82) (d := d82) Tryz.func82 (by kernel_rfl) (by kernel_rfl) rfl rfl (by kernel_rfl)

def d83 : DFn := ⟨[(.c .one), (.c .one), (.c .one), (.g [.one, .one, .one, .one, (.sl [.one, .one, .one]), .one, .one]), (.c .one)], [(.g [.one, .one, .one])], .rw, [.cell 10 3 true],
(.seq (.reg false [
o 8 (.box (t 3)), o 10 (.alc [(.bo false), (.it .i64 0), (.it .i64 0)])] [])
(.seq (.reg false [
mV 12 0, mV 13 4, fA 14 1 8, lD 15 1 14, fA 16 2 8, lD 17 1 16, o 18 (.bld [(.it .i64 0), (.it .i64 0), (.it .i64 0), .ns] [(0, 1, (t 13)), (1, 1, (t 15)), (2, 1, (t 17))]), cR 19 75 [t 12, t 18], u 11 [14, 16] (.alc [(.bo false), .ns, .ns]), sO 3 11 19] [14, 16])
(.seq (.reg false [
mV 20 2, fA 21 1 11, lD 22 1 21, cR 23 122 [t 20, (.k (.bo true)), t 22]] [21])
(.seq (.reg false [
mV 24 0, mV 25 1, fA 26 1 8, lD 27 1 26, fA 28 1 11, lD 29 1 28, cR 30 123 [t 24, t 25, t 27, t 29]] [26, 28])
(.seq (.reg false [
fA 31 0 11, lD 32 1 31, fA 33 1 11, lD 34 1 33, lN 35 false 34, o 36 (.bld [(.bo false), (.it .i64 0), (.it .i64 0)] [(0, 1, (t 32)), (2, 1, (t 35))]), sO 3 10 36] [31, 33])
.ret)))))⟩
def c83 : Ev.Fn := d83.den
def p83 : Pol := { P0 .rw with loc := [8, 10, 11], ord := [(1, [0, 1, 2, 3, 4, 5, 6, 8, 7, 9])], clr := [(1, [14, 16]), (2, [21]), (3, [26, 28]), (4, [31, 33])] }
theorem r83 : FnOK Tryz.prog mds 83 c83 := .read (pol := p83) (d := d83) Tryz.func83 (by kernel_rfl) (by kernel_rfl) rfl rfl (by kernel_rfl)

def d84 : DFn := ⟨[(.c .one), (.c .one), (.c .one)], [], .rw, [],
(.seq (.reg false [
mV 7 2, mK 8 (.it .i64 0)] [])
(.blk 0 (.loop [0, 1, 7, 8] []
(s [o 9 (b .lss (t 8) (t 7))]
(.seq (.cond (t 9)
.skip
(.exit 0))
(.seq (.blk 1 (s [mV 10 8, mV 6 10]
(r [mV 11 0, nK 12 11, fA 13 0 12, lD 14 1 13, mV 15 1, mV 16 6, o 17 (.bld [(.it .i64 0), (.it .i64 0), (.it .i64 0), (.it .i64 0), .ns, (.st []), (.bo false)] [(0, 1, (t 15)), (1, 1, (t 16)), (2, 1, (k 262144))]), cR 18 33 [t 14, t 17]])))
(r [o 19 (b .add (t 8) (k 1)), mV 8 19])))))))⟩
def c84 : Ev.Fn := d84.den
def p84 : Pol := { P0 .rw with mask := [(1, [0, 1, 7, 8], [])] }
theorem r84 : FnOK Tryz.prog mds 84 c84 := .read (pol := p84) (d := d84) Tryz.func84 (by kernel_rfl) (by kernel_rfl) rfl rfl (by kernel_rfl)

def d85 : DFn := ⟨[(.c .one), (.g [.one, .one, .one, (.sl [.one, .one]), .one, .one, .one, .one, .one])], [], .rw, [],
(s [o 3 (.box (t 1))]
(.seq (.reg false [
fA 9 0 3, lD 10 1 9, fA 11 1 3, lD 12 1 11, fA 13 2 3, lD 14 1 13, o 15 (.bld [(.it .i64 0), (.it .i64 0), (.it .i64 0)] [(0, 1, (t 10)), (1, 1, (t 12)), (2, 1, (t 14))]), u 4 [9, 11, 13] (.alc [(.it .i64 0), (.it .i64 0), (.it .i64 0)]), sO 3 4 15] [9, 11, 13])
(.seq (.reg true [
mV 17 0, nK 18 17, fA 19 6 18, lD 20 1 19, lQ 21 3 4, o 22 (.hnd (.klk 3 true (.st [])) [t 20, t 21]), mV 16 22, eX 23 16 0, eX 24 16 1, mV 5 23, mV 6 24] [])
(.seq (s [mV 25 6, o 26 (.un .not (t 25))]
(.cond (t 26)
(s [mK 7 .ns]
(.seq (.reg true [
mV 28 0, nK 29 28, fA 30 1 29, lQ 31 5 30, lQ 32 9 3, cP 33 30 [t 31, t 32], mV 27 33, eX 34 27 0, eX 35 27 1, mV 7 34, mV 5 35] [])
(.seq (.seq (.reg true [
mV 36 0, nK 37 36, fA 38 0 37, lD 39 1 38, fA 40 0 3, lD 41 1 40, fA 42 2 3, lD 43 1 42, mV 44 7, mV 45 5, o 46 (b .eql (t 45) (.k (.st []))), o 47 (.bld [(.it .i64 0), (.it .i64 0), (.it .i64 0), (.it .i64 0), .ns, (.st []), (.bo false)] [(0, 1, (k 6)), (1, 1, (t 41)), (3, 1, (t 43)), (4, 1, (t 44)), (6, 1, (t 46))]), cR 48 33 [t 39, t 47], o 49 (.fld 0 1 false (t 48)), o 50 (.un .not (t 49))] [40, 42])
(.cond (t 50)
.ret
.skip))
(r [mV 51 0, nK 52 51, fA 53 7 52, lD 54 1 53, o 55 (b .add (t 54) (k 1)), nK 56 51, fA 57 7 56, sO 1 57 55]))))
.skip))
(.seq (s [mV 58 5, o 59 (b .neq (t 58) (.k (.st [])))]
(.cond (t 59)
(.seq (.reg true [
mV 60 0, nK 61 60, fA 62 0 61, lD 63 1 62, fA 64 0 3, lD 65 1 64, fA 66 2 3, lD 67 1 66, mV 68 5, o 69 (.bld [(.it .i64 0), (.it .i64 0), (.it .i64 0), (.it .i64 0), .ns, (.st []), (.bo false)] [(0, 1, (k 7)), (1, 1, (t 65)), (3, 1, (t 67)), (5, 1, (t 68)), (6, 1, (.k (.bo true)))]), u 8 [64, 66, 62, 64, 66] (.alc [(.bo false), (.it .i64 0), (.it .i64 0)]), cR 70 33 [t 63, t 69], sO 3 8 70] [64, 66])
(.reg false [
mV 71 5, fA 72 2 8, lD 73 1 72, o 74 (.slc true 0 (t 71) (some (t 73)) none), mV 5 74] [72]))
.skip))
(.reg true [
mV 75 0, nK 76 75, fA 77 6 76, lD 78 1 77, lQ 79 3 4, mV 80 5, n (.hnd (.kup 3) [t 78, t 79, t 80])] []))))))⟩
def c85 : Ev.Fn := d85.den
def p85 : Pol := { P0 .rw with loc := [3, 4, 8], ord := [(9, [0, 1, 2, 3, 4, 5, 6, 7, 8, 9, 11, 10, 12])], clr := [(1, [9, 11, 13]), (6, [40, 42]), (9, [64, 66]), (10, [72])] }
theorem r85 : FnOK Tryz.prog mds 85 c85 := .read (pol := p85) (d := d85) Tryz.func85 (by kernel_rfl) (by kernel_rfl) rfl rfl (by kernel_rfl)

def d86 : DFn := ⟨[(.g [.one, .one, .one, (.sl [.one, .one]), .one, .one, .one, .one, .one]), (.c .one)], [(.c .one)], .pure, [.tmp 4],
(s [o 2 (.box (t 0)), mK 4 (.st [])]
(.seq (s [mK 5 (.it .i64 0)]
(.blk 0 (.loop [1, 2, 5] []
(.seq (.seq (.reg false [
mV 6 5, fA 7 3 2, lD 8 1 7, lN 9 false 8, o 10 (b .lss (t 6) (t 9))] [7])
(.cond (t 10)
.skip
(.exit 0)))
(.seq (.blk 1 (.seq (.reg false [
fA 13 3 2, lD 14 1 13, mV 15 5, o 16 (.ias 2 (t 14) (t 15)), fA 17 0 16, lD 18 1 17, mV 19 1, o 20 (b .eql (t 18) (t 19))] [13])
(.cond (t 20)
(.seq (.reg false [
fA 21 3 2, lD 22 1 21, mV 23 5, o 24 (.ias 2 (t 22) (t 23)), fA 25 1 24, lD 26 1 25, mV 4 26] [21])
.ret)
.skip)))
(.reg false [
mV 11 5, o 12 (b .add (t 11) (k 1)), mV 5 12] []))))))
(.seq (r [mK 4 (.st [])])
.ret)))⟩
def c86 : Ev.Fn := d86.den
def p86 : Pol := { P0 .pure with loc := [2], ord := [(0, [1, 0])], clr := [(2, [7]), (4, [13]), (5, [21])], mask := [(2, [1, 2, 5], [])] }
theorem r86 : FnOK Tryz.prog mds 86 c86 := .read (pol := p86) (d := d86) Tryz.func86 (by kernel_rfl) (by kernel_rfl) rfl rfl (by kernel_rfl)

def d87 : DFn := ⟨[(.c .one)], [(.c .one)], .pure, [.tmp 2],
(s [mK 2 (.st [])]
(s [mV 3 0, o 4 (.mnx true (t 3) (k 0)), mV 0 4]
(s [mV 5 0, o 6 (b .quo (t 5) (k 100)), o 7 (b .rem (t 6) (k 10)), o 8 (b .add (k 48) (t 7)), cV 9 .u8 8, mV 10 0, o 11 (b .quo (t 10) (k 10)), o 12 (b .rem (t 11) (k 10)), o 13 (b .add (k 48) (t 12)), cV 14 .u8 13, mV 15 0, o 16 (b .rem (t 15) (k 10)), o 17 (b .add (k 48) (t 16)), cV 18 .u8 17, o 19 (.bsl 1 [[(.it .u8 0)], [(.it .u8 0)], [(.it .u8 0)]] [(0, (t 9)), (1, (t 14)), (2, (t 18))]), o 20 (.cnv .b2s (t 19)), mV 2 20]
.ret)))⟩
def c87 : Ev.Fn := d87.den
def p87 : Pol := { P0 .pure with heap := [19], own := [19] }
theorem r87 : FnOK Tryz.prog mds 87 c87 := .read (pol := p87) (d := d87) Tryz.func87 (by kernel_rfl) (by kernel_rfl) rfl rfl (by kernel_rfl)

def d88 : DFn := ⟨[(.c .one)], [(.c .one)], .pure, [.tmp 2],
(s [mK 2 (.bo false)]
(s [mV 3 0, o 4 (b .geq (t 3) (k 16384)), mV 5 4, w 6 5 (.mov (t 0)), w 7 5 (b .leq (t 6) (k 16777215)), o 8 (.pick (t 5) (t 7) (.k (.bo false))), mV 2 8]
.ret))⟩
def c88 : Ev.Fn := d88.den
def p88 : Pol := P0 .pure
theorem r88 : FnOK Tryz.prog mds 88 c88 := .read (pol := p88) (d := d88) Tryz.func88 (by kernel_rfl) (by kernel_rfl) rfl rfl (by kernel_rfl)

def d89 : DFn := ⟨[(.c .one)], [(.c .one), (.c .one)], .rw, [.tmp 2, .tmp 3],
(s [mK 2 .np, mK 3 (.it .i64 0)]
(.seq (s [mV 4 0, cP 5 124 [t 4], o 6 (.un .not (t 5))]
(.cond (t 6)
(s [mK 2 .np, mK 3 (.it .i64 1)]
.ret)
.skip))
(s [cP 7 125 [], mV 8 0, o 9 (.bld [.ns, .ns, (.it .i64 0), (.it .i64 0)] [(1, 1, (t 7)), (3, 1, (t 8))]), o 10 (.bxh (t 9)), mV 2 10, mK 3 (.it .i64 0)]
.ret)))⟩
def c89 : Ev.Fn := d89.den
def p89 : Pol := { P0 .rw with ord := [(3, [1, 0, 2, 3, 4, 5])] }
theorem r89 : FnOK Tryz.prog mds 89 c89 := .read (pol := p89) (d := d89) Tryz.func89 (by kernel_rfl) (by kernel_rfl) rfl rfl (by kernel_rfl)

def d90 : DFn := ⟨[(.c .one)], [(.c .one)], .pure, [.tmp 2],
(s [mK 2 (.bo false)]
(s [mV 3 0, o 4 (b .geq (t 3) (k 0)), mV 5 4, w 6 5 (.mov (t 0)), w 7 5 (b .leq (t 6) (k 2147483647)), o 8 (.pick (t 5) (t 7) (.k (.bo false))), mV 2 8]
.ret))⟩
def c90 : Ev.Fn := d90.den
def p90 : Pol := P0 .pure
theorem r90 : FnOK Tryz.prog mds 90 c90 := .read (pol := p90) (d := d90) Tryz.func90 (by kernel_rfl) (by kernel_rfl) rfl rfl (by kernel_rfl)

def d91 : DFn := ⟨[(.g [.one, .one, .one, (.sl [.one])])], [(.c .one)], .pure, [.tmp 2],
(s [o 1 (.box (t 0)), mK 2 (.bo false)]
(.seq (.reg false [
fA 3 0 1, lD 4 1 3, o 5 (b .geq (t 4) (k 0)), mV 6 5, w 7 6 (.fad 0 (t 1)), w 8 6 (.ld 1 false (t 7)), w 9 6 (b .leq (t 8) (k 255)), o 10 (.pick (t 6) (t 9) (.k (.bo false))), mV 11 10, w 12 11 (.fad 1 (t 1)), w 13 11 (.ld 1 false (t 12)), w 14 11 (b .geq (t 13) (k 0)), o 15 (.pick (t 11) (t 14) (.k (.bo false))), mV 16 15, w 17 16 (.fad 1 (t 1)), w 18 16 (.ld 1 false (t 17)), w 19 16 (b .leq (t 18) (k 255)), o 20 (.pick (t 16) (t 19) (.k (.bo false))), mV 21 20, w 22 21 (.fad 2 (t 1)), w 23 21 (.ld 1 false (t 22)), w 24 21 (b .geq (t 23) (k 0)), o 25 (.pick (t 21) (t 24) (.k (.bo false))), mV 26 25, w 27 26 (.fad 2 (t 1)), w 28 26 (.ld 1 false (t 27)), w 29 26 (b .leq (t 28) (k 2147483647)), o 30 (.pick (t 26) (t 29) (.k (.bo false))), mV 31 30, w 32 31 (.fad 3 (t 1)), w 33 31 (.ld 1 false (t 32)), w 34 31 (.len false (t 33)), w 35 31 (b .leq (t 34) (k 16777215)), o 36 (.pick (t 31) (t 35) (.k (.bo false))), mV 2 36] [3, 7, 12, 17, 22, 27, 32])
.ret))⟩
def c91 : Ev.Fn := d91.den
def p91 : Pol := { P0 .pure with loc := [1], ord := [(0, [1, 0])], clr := [(1, [3, 7, 12, 17, 22, 27, 32])] }
theorem r91 : FnOK Tryz.prog mds 91 c91 := .read (pol := p91) (d := d91) Tryz.func91 (by kernel_rfl) (by kernel_rfl) rfl rfl (by kernel_rfl)

def d92 : DFn := ⟨[(.c .one), (.c .one)], [(.c .one)], .rw, [.tmp 4],
(.seq (.reg false [
mK 4 (.bo false)] [])
(.seq (s [mV 5 1, o 6 (b .lss (t 5) (k 0)), mV 7 6, x 8 7 (.mov (t 1)), x 9 7 (b .geq (t 8) (k 8)), o 10 (.pick (t 7) (.k (.bo true)) (t 9)), mV 11 10, x 12 11 (.mov (t 0)), x 13 11 (.mov (t 1)), x 14 11 (.nck (t 12)), x 15 11 (.fad 7 (t 14)), x 16 11 (.iaa 8 1 (t 15) (t 13)), x 17 11 (.ld 1 false (t 16)), x 18 11 (.bin .ptr .neq (t 17) (.k .np)), o 19 (.pick (t 11) (.k (.bo true)) (t 18))]
(.cond (t 19)
(s [mK 4 (.bo false)]
.ret)
.skip))
(.seq (.reg true [
mV 21 0, mV 22 1, mV 23 0, nK 24 23, fA 25 0 24, fA 26 2 25, lQ 27 3 26, nK 31 21, fA 32 7 31, o 28 (.call true .rw 10 [(.k (.bo true)), t 27]), mV 20 28, eX 29 20 0, eX 30 20 1, o 33 (.iaa 8 1 (t 32) (t 22)), sO 1 33 29] [])
(s [mK 4 (.bo true)]
.ret))))⟩
def c92 : Ev.Fn := d92.den
def p92 : Pol := { P0 .rw with heap := [28], own := [28], ord := [(3, [0, 1, 2, 3, 4, 5, 6, 11, 12, 7, 8, 9, 10, 13, 14])] }
theorem r92 : FnOK Tryz.prog mds 92 c92 := .read (pol := p92) (d := d92) Tryz.func92 (by kernel_rfl) (by kernel_rfl) rfl rfl (by kernel_rfl)

def d93 : DFn := ⟨[(.c .one), (.g [.one, .one, .one, (.sl [.one])])], [(.c .one)], .rw, [.tmp 4],
(s [o 3 (.box (t 1)), mK 4 (.bo false)]
(.seq (.reg false [
mV 8 0, fA 9 1 3, lD 10 1 9, cR 11 53 [t 8, t 10], mV 5 11] [9])
(.seq (.seq (.reg false [
mV 12 5, o 13 (.bin .ptr .eql (t 12) (.k .np))] [])
(.cond (t 13)
(s [mK 4 (.bo false)]
.ret)
.skip))
(.seq (.seq (.reg false [
fA 14 0 3, lD 15 1 14] [14])
(.blk 0 (.seq (.reg false [
o 17 (b .eql (t 15) (k 2)), mV 16 17] [])
(.cond (t 16)
(.seq (.reg false [
mV 18 5, fA 19 3 3, lD 20 1 19, cR 21 16 [t 18, t 20], lN 22 false 21, mK 23 (.it .i64 0)] [19])
(.blk 1 (.loop [0, 3, 21, 22, 23] [7]
(.seq (.reg false [
o 24 (b .lss (t 23) (t 22))] [])
(.seq (.cond (t 24)
.skip
(.exit 1))
(.seq (.blk 2 (s [o 25 (.ias 6 (t 21) (t 23)), lQ 26 6 25, o 7 (.alc [(.it .i64 0), (.it .i64 0), .ns, (.st []), (.bo false), (.it .i64 0)]), sO 6 7 26]
(.reg false [
mV 27 0, fA 28 1 3, lD 29 1 28, lQ 30 6 7, cR 31 126 [t 27, t 29, t 30]] [28])))
(.reg false [
o 32 (b .add (t 23) (k 1)), mV 23 32] [])))))))
(s [o 34 (b .eql (t 15) (k 3)), mV 33 34]
(.cond (t 33)
(.seq (.reg true [
mV 35 0, fA 36 1 3, lD 37 1 36, nK 38 35, fA 39 7 38, o 40 (.iaa 8 1 (t 39) (t 37)), n (.sto 1 (t 40) (.k .np))] [36])
(.reg false [
mV 41 0, fA 42 1 3, lD 43 1 42, cR 44 96 [t 41, t 43]] [42]))
.skip))))))
(s [mK 4 (.bo true)]
.ret)))))⟩
def c93 : Ev.Fn := d93.den
def p93 : Pol := { P0 .rw with loc := [3, 7], ord := [(0, [1, 0]), (6, [0, 1, 2, 5, 3, 4])], clr := [(1, [9]), (4, [14]), (6, [19]), (9, [28]), (12, [36]), (13, [42])], mask := [(7, [0, 3, 21, 22, 23], [7])] }
theorem r93 : FnOK Tryz.prog mds 93 c93 := .read (pol := p93) (d := d93) Tryz.func93 (by kernel_rfl) (by kernel_rfl) rfl rfl (by kernel_rfl)

def d94 : DFn := ⟨[(.c .one), (.g [.one, .one, .one, (.sl [.one])])], [(.c .one)], .rw, [.tmp 4],
(s [o 3 (.box (t 1)), mK 4 (.bo false)]
(.seq (.reg false [
mV 8 0, fA 9 1 3, lD 10 1 9, cR 11 54 [t 8, t 10], mV 5 11] [9])
(.seq (.seq (.reg false [
mV 12 5, o 13 (.bin .ptr .eql (t 12) (.k .np))] [])
(.cond (t 13)
(s [mK 4 (.bo false)]
.ret)
.skip))
(.seq (.seq (.reg false [
fA 14 0 3, lD 15 1 14] [14])
(.blk 0 (.seq (.reg false [
o 17 (b .eql (t 15) (k 5)), mV 16 17] [])
(.cond (t 16)
(.seq (.reg true [
mV 18 5, nK 19 18, fA 20 0 19, lD 21 1 20, fA 22 3 3, lD 23 1 22, mK 26 (.it .i64 0), cR 24 16 [t 21, t 23], lN 25 false 24] [22])
(.blk 1 (.loop [0, 3, 24, 25, 26] [7]
(s [o 27 (b .lss (t 26) (t 25))]
(.seq (.cond (t 27)
.skip
(.exit 1))
(.seq (.blk 2 (s [o 28 (.ias 6 (t 24) (t 26)), lQ 29 6 28, o 7 (.alc [(.it .i64 0), (.it .i64 0), .ns, (.st []), (.bo false), (.it .i64 0)]), sO 6 7 29]
(.reg false [
mV 30 0, fA 31 1 3, lD 32 1 31, lQ 33 6 7, cR 34 127 [t 30, t 32, t 33]] [31])))
(.reg false [
o 35 (b .add (t 26) (k 1)), mV 26 35] [])))))))
(s [o 37 (b .eql (t 15) (k 6)), mV 36 37]
(.cond (t 36)
(.seq (.reg false [
mV 38 0, fA 39 1 3, lD 40 1 39, cR 41 97 [t 38, t 40, (.k (.it .i64 (-1)))]] [39])
(.reg true [
mV 42 0, fA 43 1 3, lD 44 1 43, nK 45 42, fA 46 15 45, o 47 (.iaa 8 1 (t 46) (t 44)), n (.sto 1 (t 47) (.k .np))] [43]))
.skip))))))
(.seq (.reg false [
mK 4 (.bo true)] [])
.ret)))))⟩
def c94 : Ev.Fn := d94.den
def p94 : Pol := { P0 .rw with loc := [3, 7], ord := [(0, [1, 0]), (6, [0, 1, 2, 3, 4, 5, 8, 6, 7])], clr := [(1, [9]), (4, [14]), (6, [22]), (9, [31]), (12, [39]), (13, [43])], mask := [(7, [0, 3, 24, 25, 26], [7])] }
theorem r94 : FnOK Tryz.prog mds 94 c94 := .read (pol := p94) (d := d94) Tryz.func94 (by kernel_rfl) (by kernel_rfl) rfl rfl (by kernel_rfl)

def d95 : DFn := ⟨[(.c .one)], [(.c .one)], .rw, [.tmp 2],
(s [mK 2 (.bo false)]
(s [mV 3 0, nK 4 3, fA 5 24 4, lD 6 1 5, mV 2 6]
.ret))⟩
def c95 : Ev.Fn := d95.den
def p95 : Pol := P0 .rw
theorem r95 : FnOK Tryz.prog mds 95 c95 := .read (pol := p95) (d := d95) Tryz.func95 (by kernel_rfl) (by kernel_rfl) rfl rfl (by kernel_rfl)

def d98 : DFn := ⟨[(.c .one), (.c .one)], [], .rw, [],
(s [mV 6 0, nK 7 6, fA 8 25 7, lD 9 1 8, cR 10 132 [t 9], lN 11 false 10, mK 12 (.it .i64 0)]
(.blk 0 (.loop [1, 10, 11, 12] []
(s [o 13 (b .lss (t 12) (t 11))]
(.seq (.cond (t 13)
.skip
(.exit 0))
(.seq (.blk 1 (s [o 14 (.ias 1 (t 10) (t 12)), lD 15 1 14, mV 5 15]
(s [mV 16 5, nK 17 16, fA 18 46 17, lD 19 1 18, o 20 (.un .not (t 19))]
(.cond (t 20)
(r [mV 21 1, mV 22 5, o 23 (.calv [] (t 21) [t 22])])
.skip))))
(r [o 24 (b .add (t 12) (k 1)), mV 12 24])))))))⟩
def c98 : Ev.Fn := d98.den
def p98 : Pol := { P0 .rw with ord := [(0, [0, 1, 2, 3, 6, 4, 5])], mask := [(1, [1, 10, 11, 12], [])] }
theorem r98 : FnOK Tryz.prog mds 98 c98 := .read (pol := p98) (d := d98) Tryz.func98 (by kernel_rfl) (by kernel_rfl) rfl rfl (by kernel_rfl)

def d99 : DFn := ⟨[(.c .one), (.c .one)], [], .rw, [],
(s [mV 3 0, nK 4 3, fA 5 11 4, lD 6 1 5]
(.cond (t 6)
(r [lD 7 1 1, mV 8 0, cR 9 100 [t 7, t 8]])
.skip))⟩
def c99 : Ev.Fn := d99.den
def p99 : Pol := P0 .rw
theorem r99 : FnOK Tryz.prog mds 99 c99 := .read (pol := p99) (d := d99) Tryz.func99 (by kernel_rfl) (by kernel_rfl) rfl rfl (by kernel_rfl)

def d100 : DFn := ⟨[(.c .one), (.c .one)], [], .rw, [],
(s [mV 11 1, nK 12 11, fA 13 14 12, lQ 14 6 13, o 4 (.alc [(.st []), (.st []), (.st []), (.st []), .ns, (.it .i64 0)]), sO 6 4 14]
(.seq (.reg false [
mV 15 0, fA 16 2 4, lD 17 1 16, o 18 (.call true .rw 133 [t 15, t 17]), mV 5 18] [16])
(.seq (.seq (.reg false [
mV 19 5, o 20 (b .lss (t 19) (k 0))] [])
(.cond (t 20)
(s [mV 21 0, mV 22 1, cR 23 134 [t 21, t 22, (k 503)]]
.ret)
.skip))
(.seq (.reg false [
fA 24 0 4, lD 25 1 24, o 26 (.bld [(.st []), (.st [])] [(0, 1, (.k (.st [58, 109, 101, 116, 104, 111, 100]))), (1, 1, (t 25))]), fA 27 1 4, lD 28 1 27, o 29 (.bld [(.st []), (.st [])] [(0, 1, (.k (.st [58, 115, 99, 104, 101, 109, 101]))), (1, 1, (t 28))]), fA 30 2 4, lD 31 1 30, o 32 (.bld [(.st []), (.st [])] [(0, 1, (.k (.st [58, 97, 117, 116, 104, 111, 114, 105, 116, 121]))), (1, 1, (t 31))]), fA 33 3 4, lD 34 1 33, o 35 (.bld [(.st []), (.st [])] [(0, 1, (.k (.st [58, 112, 97, 116, 104]))), (1, 1, (t 34))]), o 36 (.bsl 2 (List.replicate 4 [(.st []), (.st [])]) [(0, (t 26)), (1, (t 29)), (2, (t 32)), (3, (t 35))]), mV 6 36] [24, 27, 30, 33])
(.seq (.reg false [
mV 37 6, fA 38 4 4, lD 39 1 38, cP 40 135 [t 39], o 41 (.app 2 32 (t 37) (t 40)), cP 42 136 [], o 43 (.bsv [.one, .one] 2 [[(.st []), (.st [])]] [(0, (t 42))]), o 44 (.app 2 32 (t 41) (t 43)), mV 6 44] [38])
(.seq (.reg false [
mV 45 0, mV 46 5, nK 47 45, fA 48 15 47, o 49 (.iaa 8 1 (t 48) (t 46)), lD 50 1 49, mV 7 50] [])
(.seq (s [mV 51 7, nK 52 51, fA 53 0 52, lD 54 1 53, cR 55 95 [t 54], mV 56 55, x 57 56 (.mov (t 7)), x 58 56 (.nck (t 57)), x 59 56 (.fad 2 (t 58)), x 60 56 (.ld 1 false (t 59)), o 61 (.pick (t 56) (.k (.bo true)) (t 60)), mV 62 61, x 63 62 (.mov (t 6)), x 64 62 (.call false .pure 137 [t 63]), x 65 62 (.un .not (t 64)), o 66 (.pick (t 62) (.k (.bo true)) (t 65))]
(.cond (t 66)
(s [mV 67 0, mV 68 1, cR 69 134 [t 67, t 68, (k 502)]]
.ret)
.skip))
(s [mV 70 1, nK 71 70, fA 72 10 71, lD 73 1 72, mV 74 73, w 75 74 (.mov (t 1)), w 76 74 (.nck (t 75)), w 77 74 (.fad 8 (t 76)), w 78 74 (.ld 1 false (t 77)), w 79 74 (b .eql (t 78) (.k (.st []))), o 80 (.pick (t 74) (t 79) (.k (.bo false))), mV 8 80]
(.seq (.reg true [
mV 82 7, nK 83 82, fA 84 0 83, lD 85 1 84, mV 86 6, mV 88 8, cP 87 138 [t 86], o 89 (.call true .rw 13 [t 85, t 87, t 88]), mV 81 89, eX 90 81 0, eX 91 81 1, mV 9 90, mV 10 91] [])
(s [mV 92 10]
(.cond (t 92)
(r [mV 93 1, mV 94 1, mV 95 1, mV 96 1, mV 97 1, mV 98 1, mV 99 5, mV 100 9, mV 101 8, mV 102 0, nK 103 102, fA 104 24 103, lD 105 1 104, nK 106 93, fA 107 11 106, n (.sto 1 (t 107) (.k (.bo false))), nK 108 94, fA 109 20 108, n (.sto 1 (t 109) (.k (.bo true))), nK 110 95, fA 111 21 110, sO 1 111 99, nK 112 96, fA 113 22 112, sO 1 113 100, nK 114 97, fA 115 23 114, sO 1 115 101, nK 116 98, fA 117 24 116, sO 1 117 105])
.skip)))))))))))⟩
def c100 : Ev.Fn := d100.den
def p100 : Pol := { P0 .rw with loc := [4], heap := [18, 36, 41, 44, 89], own := [18, 36, 41, 44, 89], ord := [(10, [0, 1, 2, 3, 4, 6, 5, 7, 8, 9, 10, 11, 12])], clr := [(1, [16]), (4, [24, 27, 30, 33]), (5, [38])] }
theorem r100 : FnOK Tryz.prog mds 100 c100 := .read (pol := p100) (d := d100) Tryz.func100 (by kernel_rfl) (by kernel_rfl) rfl rfl (by kernel_rfl)

def d101 : DFn := ⟨[(.c .one), (.c .one)], [], .rw, [],
(s [mV 3 0, nK 4 3, fA 5 20 4, lD 6 1 5]
(.cond (t 6)
(r [lD 7 1 1, mV 8 0, cR 9 102 [t 7, t 8]])
.skip))⟩
def c101 : Ev.Fn := d101.den
def p101 : Pol := P0 .rw
theorem r101 : FnOK Tryz.prog mds 101 c101 := .read (pol := p101) (d := d101) Tryz.func101 (by kernel_rfl) (by kernel_rfl) rfl rfl (by kernel_rfl)

def d102 : DFn := ⟨[(.c .one), (.c .one)], [], .rw, [],
(.seq (s [mV 6 1, nK 7 6, fA 8 23 7, lD 9 1 8, mV 10 9, x 11 10 (.mov (t 1)), x 12 10 (.nck (t 11)), x 13 10 (.fad 8 (t 12)), x 14 10 (.ld 1 false (t 13)), x 15 10 (b .eql (t 14) (.k (.st []))), x 16 10 (.mov (t 15)), w 17 16 (.mov (t 1)), w 18 16 (.nck (t 17)), w 19 16 (.fad 10 (t 18)), w 20 16 (.ld 1 false (t 19)), w 21 16 (.un .not (t 20)), x 22 10 (.pick (t 16) (t 21) (.k (.bo false))), o 23 (.pick (t 10) (.k (.bo true)) (t 22))]
(.cond (t 23)
.ret
.skip))
(.seq (.reg true [
mV 25 0, mV 26 1, nK 27 26, fA 28 21 27, lD 29 1 28, nK 30 25, fA 31 15 30, o 32 (.iaa 8 1 (t 31) (t 29)), lD 33 1 32, nK 34 33, fA 35 0 34, lD 36 1 35, mV 37 1, nK 38 37, fA 39 22 38, lD 40 1 39, mV 41 1, nK 42 41, fA 43 8 42, lD 44 1 43, mV 45 1, nK 46 45, fA 47 10 46, lD 48 1 47, cR 49 18 [t 36, t 40, t 44, t 48], mV 24 49, eX 50 24 0, eX 51 24 1, mV 4 50, mV 5 51] [])
(.seq (s [mV 52 5, o 53 (.un .not (t 52))]
(.cond (t 53)
.ret
.skip))
(s [mV 54 1, mV 55 1, nK 56 55, fA 57 8 56, lD 58 1 57, mV 59 4, o 60 (.slc true 0 (t 58) (some (t 59)) none), nK 61 54, fA 62 8 61, sO 1 62 60]
(s [mV 63 1, mV 64 1, nK 65 64, fA 66 10 65, lD 67 1 66, mV 68 67, w 69 68 (.mov (t 1)), w 70 68 (.nck (t 69)), w 71 68 (.fad 8 (t 70)), w 72 68 (.ld 1 false (t 71)), w 73 68 (b .eql (t 72) (.k (.st []))), o 74 (.pick (t 68) (t 73) (.k (.bo false))), nK 75 63, fA 76 23 75, sO 1 76 74]
(r [mV 77 0, mV 78 1, mV 79 4, cR 80 139 [t 77, t 78, t 79]]))))))⟩
def c102 : Ev.Fn := d102.den
def p102 : Pol := P0 .rw
theorem r102 : FnOK Tryz.prog mds 102 c102 := .read (pol := p102) (d := d102) Tryz.func102 (by kernel_rfl) (by kernel_rfl) rfl rfl (by kernel_rfl)

def d103 : DFn := ⟨[(.c .one), (.c .one)], [], .rw, [],
(s [mV 3 0, nK 4 3, fA 5 0 4, lD 6 1 5, o 7 (b .geq (t 6) (k 0))]
(.cond (t 7)
(r [lD 8 1 1, mV 9 0, cR 10 104 [t 8, t 9]])
.skip))⟩
def c103 : Ev.Fn := d103.den
def p103 : Pol := P0 .rw
theorem r103 : FnOK Tryz.prog mds 103 c103 := .read (pol := p103) (d := d103) Tryz.func103 (by kernel_rfl) (by kernel_rfl) rfl rfl (by kernel_rfl)

def d104 : DFn := ⟨[(.c .one), (.c .one)], [], .rw, [],
(.seq (.reg true [
mV 8 0, mV 9 1, nK 10 9, fA 11 0 10, lD 12 1 11, nK 13 8, fA 14 7 13, o 15 (.iaa 8 1 (t 14) (t 12)), lD 16 1 15, mV 4 16] [])
(.seq (s [mV 17 1, nK 18 17, fA 19 25 18, lD 20 1 19, o 21 (.hnd (.eqs .eql) [t 20, (.k .ns)])]
(.cond (t 21)
.ret
.skip))
(s [mK 5 (.bo false)]
(.seq (s [mV 22 1, nK 23 22, fA 24 26 23, lD 25 1 24, o 26 (.un .not (t 25))]
(.cond (t 26)
(.seq (s [mV 27 1, nK 28 27, fA 29 25 28, lD 30 1 29, cP 31 137 [t 30], o 32 (.un .not (t 31))]
(.cond (t 32)
(s [mV 33 4, mV 34 1, nK 35 34, fA 36 1 35, lD 37 1 36, cR 38 79 [t 33, t 37, (k 2)]]
(s [mV 39 0, mV 40 1, cR 41 129 [t 39, t 40]]
.ret))
.skip))
(s [mV 42 1, nK 43 42, fA 44 29 43, lD 45 1 44, mV 46 45, w 47 46 (.mov (t 1)), w 48 46 (.nck (t 47)), w 49 46 (.fad 27 (t 48)), w 50 46 (.ld 1 false (t 49)), w 51 46 (b .eql (t 50) (.k (.st []))), o 52 (.pick (t 46) (t 51) (.k (.bo false))), mV 5 52]
(.seq (.seq (.reg true [
mV 53 4, mV 54 1, nK 55 54, fA 56 1 55, lD 57 1 56, mV 58 1, nK 59 58, fA 60 25 59, lD 61 1 60, mV 63 5, cP 62 138 [t 61], cR 64 17 [t 53, t 57, t 62, t 63], o 65 (.un .not (t 64))] [])
(.cond (t 65)
.ret
.skip))
(r [mV 66 1, nK 67 66, fA 68 26 67, n (.sto 1 (t 68) (.k (.bo true)))]))))
.skip))
(.seq (s [mV 69 5, o 70 (.un .not (t 69)), mV 71 70, w 72 71 (.mov (t 1)), w 73 71 (.nck (t 72)), w 74 71 (.fad 27 (t 73)), w 75 71 (.ld 1 false (t 74)), w 76 71 (b .neq (t 75) (.k (.st []))), w 77 71 (.mov (t 76)), x 78 77 (.mov (t 1)), x 79 77 (.nck (t 78)), x 80 77 (.fad 29 (t 79)), x 81 77 (.ld 1 false (t 80)), w 82 71 (.pick (t 77) (.k (.bo true)) (t 81)), o 83 (.pick (t 71) (t 82) (.k (.bo false)))]
(.cond (t 83)
(.seq (.reg true [
mV 85 4, mV 86 1, nK 87 86, fA 88 1 87, lD 89 1 88, mV 90 1, nK 91 90, fA 92 27 91, lD 93 1 92, mV 94 1, nK 95 94, fA 96 29 95, lD 97 1 96, cR 98 18 [t 85, t 89, t 93, t 97], mV 84 98, eX 99 84 0, eX 100 84 1, mV 6 99, mV 7 100] [])
(.seq (s [mV 101 7, o 102 (.un .not (t 101))]
(.cond (t 102)
.ret
.skip))
(s [mV 103 1, mV 104 1, nK 105 104, fA 106 27 105, lD 107 1 106, mV 108 6, o 109 (.slc true 0 (t 107) (some (t 108)) none), nK 110 103, fA 111 27 110, sO 1 111 109]
(s [mV 112 0, mV 113 1, mV 114 6, cR 115 140 [t 112, t 113, t 114]]
(r [mV 116 1, nK 117 116, fA 118 29 117, lD 119 1 118, mV 120 119, w 121 120 (.mov (t 1)), w 122 120 (.nck (t 121)), w 123 120 (.fad 27 (t 122)), w 124 120 (.ld 1 false (t 123)), w 125 120 (b .eql (t 124) (.k (.st []))), o 126 (.pick (t 120) (t 125) (.k (.bo false))), mV 5 126])))))
.skip))
(s [mV 127 5]
(.cond (t 127)
(r [mV 128 0, mV 129 1, cR 130 141 [t 128, t 129]])
.skip)))))))⟩
def c104 : Ev.Fn := d104.den
def p104 : Pol := { P0 .rw with ord := [(8, [0, 1, 2, 3, 4, 5, 6, 7, 8, 10, 9, 11, 12])], hnd := [21] }
theorem r104 : FnOK Tryz.prog mds 104 c104 := .read (pol := p104) (d := d104) Tryz.func104 (by kernel_rfl) (by kernel_rfl) rfl rfl (by kernel_rfl)

def d105 : DFn := ⟨[(.g [.one, .one])], [(.c .one)], .pure, [.tmp 2],
(s [o 1 (.box (t 0)), mK 2 (.it .i64 0)]
(.seq (.reg false [
fA 3 0 1, lD 4 1 3, lN 5 true 4, fA 6 1 1, lD 7 1 6, lN 8 true 7, o 9 (b .add (t 5) (t 8)), o 10 (b .add (t 9) (k 32)), mV 2 10] [3, 6])
.ret))⟩
def c105 : Ev.Fn := d105.den
def p105 : Pol := { P0 .pure with loc := [1], ord := [(0, [1, 0])], clr := [(1, [3, 6])] }
theorem r105 : FnOK Tryz.prog mds 105 c105 := .read (pol := p105) (d := d105) Tryz.func105 (by kernel_rfl) (by kernel_rfl) rfl rfl (by kernel_rfl)

def d106 : DFn := ⟨[(.c .one), (.c (.sl [.one, .one, .one]))], [(.c (.sl [.one]))], .rw, [.tmp 4],
(.seq (.reg false [
mK 4 .ns] [])
(s [mV 10 0, cR 11 142 [t 10], mV 5 11]
(.seq (s [mV 12 1, lN 13 false 12, mK 14 (.it .i64 0)]
(.blk 0 (.loop [0, 5, 12, 13, 14] [7]
(s [o 15 (b .lss (t 14) (t 13))]
(.seq (.cond (t 15)
.skip
(.exit 0))
(.seq (.blk 1 (s [o 16 (.ias 3 (t 12) (t 14)), lQ 17 3 16, o 7 (.alc [(.st []), (.st []), (.it .i64 0)]), sO 3 7 17]
(.seq (.reg true [
mV 19 0, nK 20 19, fA 21 0 20, lD 22 1 21, fA 23 0 7, lQ 24 2 23, cR 25 143 [t 22, t 24], mV 18 25, eX 26 18 0, eX 27 18 1, mV 8 26, mV 9 27] [23])
(.blk 2 (.seq (.reg false [
mV 34 9, mV 35 34, w 36 35 (.fad 2 (t 7)), w 37 35 (.ld 1 false (t 36)), w 38 35 (b .neq (t 37) (k 3)), o 39 (.pick (t 35) (t 38) (.k (.bo false))), mV 33 39] [36])
(.cond (t 33)
(.reg false [
mV 40 5, mV 41 8, cP 42 144 [t 40, (k 7), (.k (.it .u8 128)), t 41], mV 5 42] [])
(.seq (.reg false [
fA 44 2 7, lD 45 1 44, o 46 (b .eql (t 45) (k 1)), mV 43 46] [44])
(.cond (t 43)
(.seq (.reg false [
mV 47 5, mV 48 8, fA 49 0 7, lQ 50 2 49, cP 51 145 [t 47, t 48, (k 6), (.k (.it .u8 64)), t 50], mV 5 51] [49])
(.reg true [
mV 52 0, nK 53 52, fA 54 0 53, lD 55 1 54, fA 56 0 7, lQ 57 2 56, cR 58 146 [t 55, t 57]] [56]))
(.seq (.reg false [
fA 60 2 7, lD 61 1 60, o 62 (b .eql (t 61) (k 3)), mV 59 62] [60])
(.cond (t 59)
(.reg false [
mV 63 5, mV 64 8, fA 65 0 7, lQ 66 2 65, cP 67 145 [t 63, t 64, (k 4), (.k (.it .u8 16)), t 66], mV 5 67] [65])
(.reg false [
mV 28 5, mV 29 8, fA 30 0 7, lQ 31 2 30, cP 32 145 [t 28, t 29, (k 4), (.k (.it .u8 0)), t 31], mV 5 32] [30])))))))))))
(.reg false [
o 68 (b .add (t 14) (k 1)), mV 14 68] [])))))))
(.seq (r [mV 69 5, mV 4 69])
.ret))))⟩
def c106 : Ev.Fn := d106.den
def p106 : Pol := { P0 .rw with loc := [7], clr := [(5, [23]), (7, [36]), (9, [44]), (10, [49]), (11, [56]), (12, [60]), (13, [65]), (6, [30])], mask := [(3, [0, 5, 12, 13, 14], [7])] }
theorem r106 : FnOK Tryz.prog mds 106 c106 := .read (pol := p106) (d := d106) Tryz.func106 (by kernel_rfl) (by kernel_rfl) rfl rfl (by kernel_rfl)

def d107 : DFn := ⟨[(.c .one)], [(.c .one)], .pure, [.tmp 2],
(s [mK 2 (.it .i64 0)]
(.seq (s [mV 3 0]
(.cond (t 3)
(s [mK 2 (.it .i64 1)]
.ret)
.skip))
(s [mK 2 (.it .i64 2)]
.ret)))⟩
def c107 : Ev.Fn := d107.den
def p107 : Pol := P0 .pure
theorem r107 : FnOK Tryz.prog mds 107 c107 := .read (pol := p107) (d := d107) Tryz.func107 (by kernel_rfl) (by kernel_rfl) rfl rfl (by kernel_rfl)

def d108 : DFn := ⟨[(.c .one), (.c (.sl [.one]))], [(.c (.sl [.one]))], .rw, [.tmp 4],
(s [mK 4 .ns]
(.seq (.blk 0 (.loop [0, 1] []
(.seq (s [mV 5 1, lN 6 false 5, o 7 (b .gtr (t 6) (k 0)), mV 8 7, w 9 8 (.mov (t 0)), w 10 8 (.nck (t 9)), w 11 8 (.fad 1 (t 10)), w 12 8 (.ld 1 false (t 11)), w 13 8 (b .neq (t 12) (.k (.st []))), o 14 (.pick (t 8) (t 13) (.k (.bo false)))]
(.cond (t 14)
.skip
(.exit 0)))
(.blk 1 (.seq (.seq (.reg true [
mV 15 1, o 16 (.ias 1 (t 15) (k 0)), lD 17 1 16, mV 18 0, nK 19 18, fA 20 1 19, lD 21 1 20, o 22 (.ixs (t 21) (k 0)), o 23 (b .neq (t 17) (t 22))] [])
(.cond (t 23)
(s [mV 24 0, cR 25 147 [t 24, (k 1)]]
(s [mK 4 .ns]
.ret))
.skip))
(.reg true [
mV 26 0, mV 27 1, o 28 (.slc false 1 (t 27) (some (k 1)) none), mV 29 0, nK 30 29, fA 31 1 30, lD 32 1 31, o 33 (.slc true 0 (t 32) (some (k 1)) none), mV 1 28, nK 34 26, fA 35 1 34, sO 1 35 33] []))))))
(s [mV 36 1, mV 4 36]
.ret)))⟩
def c108 : Ev.Fn := d108.den
def p108 : Pol := { P0 .rw with mask := [(1, [0, 1], [])] }
theorem r108 : FnOK Tryz.prog mds 108 c108 := .read (pol := p108) (d := d108) Tryz.func108 (by kernel_rfl) (by kernel_rfl) rfl rfl (by kernel_rfl)

def d109 : DFn := ⟨[(.c .one)], [(.g [.one, .one, .one, (.sl [.one])]), (.c .one)], .rw, [.cell 2 4 true, .tmp 3],
(s [o 2 (.alc [(.it .i64 0), (.it .i64 0), (.it .i64 0), .ns]), mK 3 (.bo false)]
(.seq (s [mV 7 0, nK 8 7, fA 9 2 8, lD 10 1 9, lN 11 false 10, o 12 (b .lss (t 11) (k 9))]
(.cond (t 12)
(s [o 13 (.bld [(.it .i64 0), (.it .i64 0), (.it .i64 0), .ns] []), sO 4 2 13, mK 3 (.bo false)]
.ret)
.skip))
(s [mV 14 0, nK 15 14, fA 16 2 15, lD 17 1 16, o 18 (.slc false 1 (t 17) none (some (k 9))), mV 4 18]
(.seq (.reg true [
mV 19 4, o 20 (.ias 1 (t 19) (k 0)), lD 21 1 20, cV 22 .i64 21, o 23 (b .shl (t 22) (.k (.it .u64 16))), mV 24 4, o 25 (.ias 1 (t 24) (k 1)), lD 26 1 25, cV 27 .i64 26, o 28 (b .shl (t 27) (.k (.it .u64 8))), o 29 (b .or (t 23) (t 28)), mV 30 4, o 31 (.ias 1 (t 30) (k 2)), lD 32 1 31, cV 33 .i64 32, o 34 (b .or (t 29) (t 33)), mV 5 34] [])
(.seq (s [mV 35 5, mV 36 0, nK 37 36, fA 38 0 37, lD 39 1 38, o 40 (b .gtr (t 35) (t 39))]
(.cond (t 40)
(s [mV 41 0, cR 42 147 [t 41, (k 6)]]
(s [o 43 (.bld [(.it .i64 0), (.it .i64 0), (.it .i64 0), .ns] []), sO 4 2 43, mK 3 (.bo false)]
.ret))
.skip))
(.seq (s [mV 44 0, nK 45 44, fA 46 2 45, lD 47 1 46, lN 48 false 47, mV 49 5, o 50 (b .add (k 9) (t 49)), o 51 (b .lss (t 48) (t 50))]
(.cond (t 51)
(s [o 52 (.bld [(.it .i64 0), (.it .i64 0), (.it .i64 0), .ns] []), sO 4 2 52, mK 3 (.bo false)]
.ret)
.skip))
(.seq (.reg true [
mV 53 4, o 54 (.ias 1 (t 53) (k 3)), lD 55 1 54, cV 56 .i64 55, mV 57 4, o 58 (.ias 1 (t 57) (k 4)), lD 59 1 58, cV 60 .i64 59, mV 61 4, o 62 (.ias 1 (t 61) (k 5)), lD 63 1 62, o 64 (b .and (t 63) (.k (.it .u8 127))), cV 65 .i64 64, o 66 (b .shl (t 65) (.k (.it .u64 24))), mV 67 4, o 68 (.ias 1 (t 67) (k 6)), lD 69 1 68, cV 70 .i64 69, o 71 (b .shl (t 70) (.k (.it .u64 16))), o 72 (b .or (t 66) (t 71)), mV 73 4, o 74 (.ias 1 (t 73) (k 7)), lD 75 1 74, cV 76 .i64 75, o 77 (b .shl (t 76) (.k (.it .u64 8))), o 78 (b .or (t 72) (t 77)), mV 79 4, o 80 (.ias 1 (t 79) (k 8)), lD 81 1 80, cV 82 .i64 81, o 83 (b .or (t 78) (t 82)), o 84 (.bld [(.it .i64 0), (.it .i64 0), (.it .i64 0), .ns] [(0, 1, (t 56)), (1, 1, (t 60)), (2, 1, (t 83))]), u 6 [53, 54, 55, 57, 58, 59, 61, 62, 64, 67, 68, 69, 73, 74, 75, 79, 80, 81] (.alc [(.it .i64 0), (.it .i64 0), (.it .i64 0), .ns]), sO 4 6 84] [])
(.seq (.reg false [
mV 85 0, nK 86 85, fA 87 2 86, lD 88 1 87, mV 89 5, o 90 (b .add (k 9) (t 89)), o 91 (.slc false 1 (t 88) (some (k 9)) (some (t 90))), o 92 (.app 1 1 (.k .ns) (t 91)), fA 93 3 6, sO 1 93 92] [93])
(.seq (.reg false [
mV 94 0, mV 95 0, nK 96 95, fA 97 2 96, lD 98 1 97, mV 99 5, o 100 (b .add (k 9) (t 99)), o 101 (.slc false 1 (t 98) (some (t 100)) none), nK 102 94, fA 103 2 102, sO 1 103 101] [])
(s [lQ 104 4 6, sO 4 2 104, mK 3 (.bo true)]
.ret))))))))))⟩
def c109 : Ev.Fn := d109.den
def p109 : Pol := { P0 .rw with loc := [2, 6], ord := [(0, [1, 0])], clr := [(11, [93])] }
theorem r109 : FnOK Tryz.prog mds 109 c109 := .read (pol := p109) (d := d109) Tryz.func109 (by kernel_rfl) (by kernel_rfl) rfl rfl (by kernel_rfl)

def d110 : DFn := ⟨[(.g [.one, .one, .one, (.sl [.one])])], [(.g [.one, .one, .one, .one, .one, (.sl [.one]), .one, .one, .one, .one, (.sl [.one, .one])]), (.g [.one, .one, .one])], .pure, [.cell 2 11 true, .cell 3 3 true],
(s [o 1 (.box (t 0)), o 2 (.alc [(.it .i64 0), (.it .i64 0), (.bo false), (.bo false), (.bo false), .ns, (.it .i64 0), (.it .i64 0), (.it .i64 0), (.it .i64 0), .ns]), o 3 (.alc [(.it .i64 0), (.it .i64 0), (.it .i64 0)])]
(.seq (.reg false [
fA 6 0 1, lD 7 1 6, fA 8 2 1, lD 9 1 8, o 10 (.bld [(.it .i64 0), (.it .i64 0), (.bo false), (.bo false), (.bo false), .ns, (.it .i64 0), (.it .i64 0), (.it .i64 0), (.it .i64 0), .ns] [(0, 1, (t 7)), (1, 1, (t 9))]), u 4 [6, 8] (.alc [(.it .i64 0), (.it .i64 0), (.bo false), (.bo false), (.bo false), .ns, (.it .i64 0), (.it .i64 0), (.it .i64 0), (.it .i64 0), .ns]), sO 11 4 10] [6, 8])
(.seq (.seq (.reg false [
lQ 11 4 1, cP 12 91 [t 11], o 13 (.un .not (t 12)), mV 14 13, x 15 14 (.fad 0 (t 1)), x 16 14 (.ld 1 false (t 15)), x 17 14 (b .gtr (t 16) (k 9)), o 18 (.pick (t 14) (.k (.bo true)) (t 17))] [15])
(.cond (t 18)
(.seq (.reg false [
lQ 19 11 4, o 20 (.bld [(.it .i64 0), (.it .i64 0), (.it .i64 0)] []), sO 11 2 19, sO 3 3 20] [])
.ret)
.skip))
(.seq (s [lQ 21 4 1, cP 22 148 [t 21]]
(.cond (t 22)
(s [o 23 (.bld [(.it .i64 0), (.it .i64 0), (.bo false), (.bo false), (.bo false), .ns, (.it .i64 0), (.it .i64 0), (.it .i64 0), (.it .i64 0), .ns] []), cP 24 149 [(k 1)], sO 11 2 23, sO 3 3 24]
.ret)
.skip))
(.seq (.reg false [
fA 25 3 1, lD 26 1 25, mV 5 26] [25])
(.seq (.seq (.reg false [
fA 27 0 1, lD 28 1 27] [27])
(.blk 0 (.seq (.reg false [
o 30 (b .eql (t 28) (k 0)), mV 29 30] [])
(.cond (t 29)
(s [lQ 31 4 1, lQ 32 11 4, cP 33 150 [t 31, t 32], eX 34 33 0, eX 35 33 1, sO 11 2 34, sO 3 3 35]
.ret)
(s [o 37 (b .eql (t 28) (k 1)), mV 36 37]
(.cond (t 36)
(s [lQ 38 4 1, lQ 39 11 4, cP 40 151 [t 38, t 39], eX 41 40 0, eX 42 40 1, sO 11 2 41, sO 3 3 42]
.ret)
(s [o 44 (b .eql (t 28) (k 2)), mV 43 44]
(.cond (t 43)
(s [lQ 45 4 1, lQ 46 11 4, cP 47 152 [t 45, t 46], eX 48 47 0, eX 49 47 1, sO 11 2 48, sO 3 3 49]
.ret)
(s [o 51 (b .eql (t 28) (k 3)), mV 50 51]
(.cond (t 50)
(.seq (s [mV 52 5, lN 53 false 52, o 54 (b .neq (t 53) (k 4))]
(.cond (t 54)
(s [o 55 (.bld [(.it .i64 0), (.it .i64 0), (.bo false), (.bo false), (.bo false), .ns, (.it .i64 0), (.it .i64 0), (.it .i64 0), (.it .i64 0), .ns] []), cP 56 149 [(k 6)], sO 11 2 55, sO 3 3 56]
.ret)
.skip))
(.reg false [
mV 57 5, cP 58 153 [t 57], fA 59 6 4, sO 1 59 58] [59]))
(s [o 61 (b .eql (t 28) (k 4)), mV 60 61]
(.cond (t 60)
(s [lQ 62 4 1, lQ 63 11 4, cR 64 154 [t 62, t 63], eX 65 64 0, eX 66 64 1, sO 11 2 65, sO 3 3 66]
.ret)
(s [o 68 (b .eql (t 28) (k 6)), mV 67 68]
(.cond (t 67)
(.seq (s [mV 69 5, lN 70 false 69, o 71 (b .neq (t 70) (k 8))]
(.cond (t 71)
(s [o 72 (.bld [(.it .i64 0), (.it .i64 0), (.bo false), (.bo false), (.bo false), .ns, (.it .i64 0), (.it .i64 0), (.it .i64 0), (.it .i64 0), .ns] []), cP 73 149 [(k 6)], sO 11 2 72, sO 3 3 73]
.ret)
.skip))
(.reg true [
fA 74 1 1, lD 75 1 74, o 76 (b .and (t 75) (k 1)), o 77 (b .neq (t 76) (k 0)), mV 78 5, fA 80 4 4, cP 79 155 [t 78], sO 1 80 77, fA 81 5 4, sO 1 81 79] [74, 80, 81]))
(s [o 83 (b .eql (t 28) (k 7)), mV 82 83]
(.cond (t 82)
(.seq (s [mV 84 5, lN 85 false 84, o 86 (b .lss (t 85) (k 8))]
(.cond (t 86)
(s [o 87 (.bld [(.it .i64 0), (.it .i64 0), (.bo false), (.bo false), (.bo false), .ns, (.it .i64 0), (.it .i64 0), (.it .i64 0), (.it .i64 0), .ns] []), cP 88 149 [(k 6)], sO 11 2 87, sO 3 3 88]
.ret)
.skip))
(.reg true [
mV 89 5, mV 91 5, o 92 (.slc false 1 (t 91) (some (k 4)) none), mV 94 5, o 95 (.slc false 1 (t 94) (some (k 8)) none), cP 90 156 [t 89], fA 97 7 4, cP 93 153 [t 92], cP 96 155 [t 95], sO 1 97 90, fA 98 6 4, sO 1 98 93, fA 99 5 4, sO 1 99 96] [97, 98, 99]))
(s [o 101 (b .eql (t 28) (k 8)), mV 100 101]
(.cond (t 100)
(s [lQ 102 4 1, lQ 103 11 4, cP 104 157 [t 102, t 103], eX 105 104 0, eX 106 104 1, sO 11 2 105, sO 3 3 106]
.ret)
(s [o 108 (b .eql (t 28) (k 9)), mV 107 108]
(.cond (t 107)
(.reg true [
fA 109 1 1, lD 110 1 109, o 111 (b .and (t 110) (k 4)), o 112 (b .neq (t 111) (k 0)), mV 113 5, fA 115 3 4, cP 114 155 [t 113], sO 1 115 112, fA 116 5 4, sO 1 116 114] [109, 115, 116])
.skip))))))))))))))))))))
(s [lQ 117 11 4, o 118 (.bld [(.it .i64 0), (.it .i64 0), (.it .i64 0)] []), sO 11 2 117, sO 3 3 118]
.ret)))))))⟩
def c110 : Ev.Fn := d110.den
def p110 : Pol := { P0 .pure with loc := [1, 2, 3, 4], ord := [(23, [0, 1, 2, 3, 4, 6, 5, 7, 8, 9]), (27, [0, 2, 3, 5, 6, 1, 8, 4, 7, 9, 10, 11, 12, 13]), (31, [0, 1, 2, 3, 4, 6, 5, 7, 8, 9])], clr := [(1, [6, 8]), (2, [15]), (6, [25]), (7, [27]), (17, [59]), (23, [74, 80, 81]), (27, [97, 98, 99]), (31, [109, 115, 116])] }
theorem r110 : FnOK Tryz.prog mds 110 c110 := .read (pol := p110) (d := d110) Tryz.func110 (by kernel_rfl) (by kernel_rfl) rfl rfl (by kernel_rfl)

def d112 : DFn := ⟨[(.c .one), (.g [.one, .one, .one, .one, .one, (.sl [.one]), .one, .one, .one, .one, (.sl [.one, .one])])], [], .rw, [],
(s [o 3 (.box (t 1))]
(.seq (.reg false [
fA 4 0 3, lD 5 1 4] [4])
(.blk 0 (.seq (.reg false [
o 7 (b .eql (t 5) (k 0)), mV 6 7] [])
(.cond (t 6)
(r [mV 8 0, lQ 9 11 3, cR 10 161 [t 8, t 9]])
(s [o 12 (b .eql (t 5) (k 1)), mV 11 12]
(.cond (t 11)
(.seq (.reg false [
mV 13 0, fA 14 1 3, lD 15 1 14, fA 16 2 3, lD 17 1 16, fA 18 5 3, lD 19 1 18, o 20 (.bld [(.it .i64 0), (.bo false), .ns] [(0, 1, (t 15)), (1, 1, (t 17)), (2, 1, (t 19))]), nK 21 13, fA 22 19 21, sO 3 22 20] [14, 16, 18])
(.reg false [
mV 23 0, fA 24 3 3, lD 25 1 24, cR 26 162 [t 23, t 25]] [24]))
(.seq (.reg false [
o 28 (b .eql (t 5) (k 9)), mV 27 28] [])
(.cond (t 27)
(.seq (.seq (.reg true [
mV 29 0, nK 30 29, fA 31 19 30, fA 32 2 31, lD 33 1 32, lN 34 false 33, fA 35 5 3, lD 36 1 35, lN 37 false 36, o 38 (b .add (t 34) (t 37)), o 39 (b .gtr (t 38) (k 131072))] [35])
(.cond (t 39)
(s [mV 40 0, cR 41 60 [t 40, (k 11)]]
.ret)
.skip))
(.seq (.reg true [
mV 42 0, mV 43 0, nK 44 43, fA 45 19 44, fA 46 2 45, lD 47 1 46, fA 48 5 3, lD 49 1 48, o 50 (.app 1 1 (t 47) (t 49)), nK 51 42, fA 52 19 51, fA 53 2 52, sO 1 53 50] [48])
(.reg false [
mV 54 0, fA 55 3 3, lD 56 1 55, cR 57 162 [t 54, t 56]] [55])))
(s [o 59 (b .eql (t 5) (k 3)), mV 58 59]
(.cond (t 58)
(.reg false [
mV 60 0, lQ 61 11 3, cR 62 163 [t 60, t 61]] [])
(s [o 64 (b .eql (t 5) (k 4)), mV 63 64]
(.cond (t 63)
(.seq (.reg false [
fA 65 4 3, lD 66 1 65, o 67 (.un .not (t 66))] [65])
(.cond (t 67)
(.reg false [
mV 68 0, fA 69 10 3, lD 70 1 69, cR 71 164 [t 68, t 70]] [69])
.skip))
(.seq (.reg false [
o 73 (b .eql (t 5) (k 6)), mV 72 73] [])
(.cond (t 72)
(.seq (.reg false [
fA 74 4 3, lD 75 1 74, o 76 (.un .not (t 75))] [74])
(.cond (t 76)
(.reg false [
mV 77 0, fA 78 5 3, lD 79 1 78, o 80 (.bld [(.it .i64 0), (.it .i64 0), (.it .i64 0), .ns] [(0, 1, (k 6)), (1, 1, (k 1)), (3, 1, (t 79))]), cR 81 165 [t 77, t 80]] [78])
.skip))
(.seq (.reg false [
o 83 (b .eql (t 5) (k 7)), mV 82 83] [])
(.cond (t 82)
(s [mV 84 0, nK 85 84, fA 86 23 85, n (.sto 1 (t 86) (.k (.bo true)))]
(.reg false [
mV 87 0, fA 88 7 3, lD 89 1 88, fA 90 6 3, lD 91 1 90, o 92 (.bld [(.it .i64 0), (.it .i64 0), .ns, (.st []), (.bo false), (.it .i64 0)] [(0, 1, (k 5)), (1, 1, (t 89)), (5, 1, (t 91))]), cR 93 114 [t 87, t 92]] [88, 90]))
(s [o 95 (b .eql (t 5) (k 8)), mV 94 95]
(.cond (t 94)
(.reg false [
mV 96 0, lQ 97 11 3, cR 98 166 [t 96, t 97]] [])
.skip)))))))))))))))))))⟩
def c112 : Ev.Fn := d112.den
def p112 : Pol := { P0 .rw with loc := [3], heap := [50], own := [50], clr := [(1, [4]), (5, [14, 16, 18]), (6, [24]), (8, [35]), (10, [48]), (11, [55]), (15, [65]), (16, [69]), (18, [74]), (19, [78]), (22, [88, 90])] }
theorem r112 : FnOK Tryz.prog mds 112 c112 := .read (pol := p112) (d := d112) Tryz.func112 (by kernel_rfl) (by kernel_rfl) rfl rfl (by kernel_rfl)

def d113 : DFn := ⟨[(.c .one)], [(.c (.sl [.one]))], .pure, [.tmp 2],
(s [mK 2 .ns]
(s [mV 3 0, o 4 (b .shr (t 3) (.k (.it .u64 24))), cV 5 .u8 4, mV 6 0, o 7 (b .shr (t 6) (.k (.it .u64 16))), cV 8 .u8 7, mV 9 0, o 10 (b .shr (t 9) (.k (.it .u64 8))), cV 11 .u8 10, mV 12 0, cV 13 .u8 12, o 14 (.bsl 1 (List.replicate 4 [(.it .u8 0)]) [(0, (t 5)), (1, (t 8)), (2, (t 11)), (3, (t 13))]), mV 2 14]
.ret))⟩
def c113 : Ev.Fn := d113.den
def p113 : Pol := { P0 .pure with heap := [14], own := [14] }
theorem r113 : FnOK Tryz.prog mds 113 c113 := .read (pol := p113) (d := d113) Tryz.func113 (by kernel_rfl) (by kernel_rfl) rfl rfl (by kernel_rfl)

def d114 : DFn := ⟨[(.c .one), (.g [.one, .one, (.sl [.one, .one]), .one, .one, .one])], [], .rw, [],
(s [o 3 (.box (t 1))]
(.reg true [
mV 4 0, mV 5 0, nK 6 5, fA 7 25 6, lD 8 1 7, lQ 9 6 3, o 10 (.bsl 6 [[(.it .i64 0), (.it .i64 0), .ns, (.st []), (.bo false), (.it .i64 0)]] [(0, (t 9))]), o 11 (.app 6 72 (t 8) (t 10)), nK 12 4, fA 13 25 12, sO 1 13 11] []))⟩
def c114 : Ev.Fn := d114.den
def p114 : Pol := { P0 .rw with loc := [3], heap := [11, 10], own := [11] }
theorem r114 : FnOK Tryz.prog mds 114 c114 := .read (pol := p114) (d := d114) Tryz.func114 (by kernel_rfl) (by kernel_rfl) rfl rfl (by kernel_rfl)

def d115 : DFn := ⟨[(.c .one), (.c .one)], [(.c .one), (.c .one)], .pure, [.tmp 4, .tmp 5],
(s [mK 4 (.it .i64 0), mK 5 (.bo false)]
(s [mV 7 1, o 8 (b .gtr (t 7) (k 10)), mV 6 8]
(.seq (s [mV 9 6]
(.cond (t 9)
(r [mV 10 1, o 11 (b .sub (t 10) (k 10)), mV 1 11])
.skip))
(.seq (s [mV 12 1, o 13 (b .lss (t 12) (k 1)), mV 14 13, x 15 14 (.mov (t 1)), x 16 14 (b .gtr (t 15) (k 5)), o 17 (.pick (t 14) (.k (.bo true)) (t 16))]
(.cond (t 17)
(s [mV 18 0, mV 4 18, mK 5 (.bo false)]
.ret)
.skip))
(.seq (s [mV 19 0]
(.blk 0 (s [o 21 (b .eql (t 19) (k 0)), mV 20 21]
(.cond (t 20)
(.seq (s [mV 22 1]
(.blk 1 (s [o 24 (b .eql (t 22) (k 2)), mV 23 24]
(.cond (t 23)
(s [mK 4 (.it .i64 1), mK 5 (.bo true)]
.ret)
(s [o 26 (b .eql (t 22) (k 1)), mV 25 26]
(.cond (t 25)
(s [mV 27 6, cP 28 167 [t 27], mV 4 28, mK 5 (.bo true)]
.ret)
.skip))))))
(s [mK 4 (.it .i64 0), mK 5 (.bo false)]
.ret))
(s [o 30 (b .eql (t 19) (k 1)), mV 29 30]
(.cond (t 29)
(.seq (s [mV 31 1, o 32 (b .eql (t 31) (k 5))]
(.cond (t 32)
(s [mK 4 (.it .i64 4), mK 5 (.bo true)]
.ret)
.skip))
(.seq (s [mV 33 1, cP 34 168 [t 33]]
(.cond (t 34)
(s [mV 35 6, cP 36 167 [t 35], mV 4 36, mK 5 (.bo true)]
.ret)
.skip))
(s [mK 4 (.it .i64 1), mK 5 (.bo true)]
.ret)))
(.seq (s [o 38 (b .eql (t 19) (k 2)), mV 37 38]
(.cond (t 37)
.skip
(r [o 39 (b .eql (t 19) (k 3)), mV 37 39])))
(.cond (t 37)
(.seq (s [mV 40 1, o 41 (b .eql (t 40) (k 5))]
(.cond (t 41)
(s [mK 4 (.it .i64 4), mK 5 (.bo true)]
.ret)
.skip))
(.seq (s [mV 42 0, mV 43 6, cP 44 167 [t 43], o 45 (b .eql (t 42) (t 44))]
(.cond (t 45)
(s [mV 46 0, mV 4 46, mK 5 (.bo false)]
.ret)
.skip))
(.seq (s [mV 47 1, cP 48 168 [t 47]]
(.cond (t 48)
(s [mK 4 (.it .i64 4), mK 5 (.bo true)]
.ret)
.skip))
(s [mV 49 0, mV 4 49, mK 5 (.bo true)]
.ret))))
.skip))))))))
(s [mV 50 0, mV 4 50, mK 5 (.bo false)]
.ret))))))⟩
def c115 : Ev.Fn := d115.den
def p115 : Pol := P0 .pure
theorem r115 : FnOK Tryz.prog mds 115 c115 := .read (pol := p115) (d := d115) Tryz.func115 (by kernel_rfl) (by kernel_rfl) rfl rfl (by kernel_rfl)

def d116 : DFn := ⟨[(.c .one), (.c .one)], [], .rw, [],
(s [o 3 (.bxh (t 1))]
(r [mV 4 0, mV 5 0, nK 6 5, fA 7 15 6, lD 8 1 7, o 9 (.mkf 170 [] [t 3]), o 10 (.call true .rw 169 [t 8, t 9]), nK 11 4, fA 12 15 11, sO 1 12 10]))⟩
def c116 : Ev.Fn := d116.den
def p116 : Pol := { P0 .rw with heap := [10], own := [10], fns := [170] }
theorem r116 : FnOK Tryz.prog mds 116 c116 := .read (pol := p116) (d := d116) Tryz.func116 (by kernel_rfl) (by kernel_rfl) rfl rfl (by kernel_rfl)

def d117 : DFn := ⟨[(.c (.sl [.one, .one, .one, (.sl [.one, .one]), .one, .one, .one, .one, .one]))], [(.c (.sl [.one, .one, .one, (.sl [.one, .one]), .one, .one, .one, .one, .one]))], .pure, [.tmp 2],
(s [mK 2 .ns]
(.seq (s [mV 3 0, o 4 (.hnd (.eqs .eql) [t 3, (.k .ns)])]
(.cond (t 4)
(s [mK 2 .ns]
.ret)
.skip))
(s [o 5 (.bsl 9 [] []), mV 6 0, o 7 (.app 9 88 (t 5) (t 6)), mV 2 7]
.ret)))⟩
def c117 : Ev.Fn := d117.den
def p117 : Pol := { P0 .pure with heap := [5], own := [5], ord := [(3, [1, 0, 2, 3])], hnd := [4] }
theorem r117 : FnOK Tryz.prog mds 117 c117 := .read (pol := p117) (d := d117) Tryz.func117 (by kernel_rfl) (by kernel_rfl) rfl rfl (by kernel_rfl)

def d118 : DFn := ⟨[(.c (.sl [.one, .one]))], [(.c (.sl [.one, .one]))], .pure, [.tmp 2],
(s [mK 2 .ns]
(.seq (s [mV 3 0, o 4 (.hnd (.eqs .eql) [t 3, (.k .ns)])]
(.cond (t 4)
(s [mK 2 .ns]
.ret)
.skip))
(s [o 5 (.bsl 2 [] []), mV 6 0, o 7 (.app 2 32 (t 5) (t 6)), mV 2 7]
.ret)))⟩
def c118 : Ev.Fn := d118.den
def p118 : Pol := { P0 .pure with heap := [5], own := [5], ord := [(3, [1, 0, 2, 3])], hnd := [4] }
theorem r118 : FnOK Tryz.prog mds 118 c118 := .read (pol := p118) (d := d118) Tryz.func118 (by kernel_rfl) (by kernel_rfl) rfl rfl (by kernel_rfl)

def d120 : DFn := ⟨[(.c .one), (.c .one), (.c .one)], [], .rw, [],
(s [mV 7 0, mV 8 1, mV 9 2, cR 10 69 [t 7, t 8, t 9], mV 6 10]
(s [mV 12 6, mV 13 1, o 14 (b .eql (t 13) (k 1)), mV 15 0, nK 16 15, fA 17 0 16, fA 18 2 17, lQ 19 3 18, o 20 (.call true .rw 10 [t 14, t 19]), mV 11 20, eX 21 11 0, eX 22 11 1, nK 23 12, fA 24 0 23, sO 1 24 21]
(s [mV 25 6, nK 26 25, fA 27 1 26, lD 28 1 27, o 29 (b .add (t 28) (k 1)), nK 30 25, fA 31 1 30, sO 1 31 29]
(r [mV 32 6, nK 33 32, fA 34 2 33, n (.sto 1 (t 34) (.k .ns))]))))⟩
def c120 : Ev.Fn := d120.den
def p120 : Pol := { P0 .rw with heap := [20], own := [20] }
theorem r120 : FnOK Tryz.prog mds 120 c120 := .read (pol := p120) (d := d120) Tryz.func120 (by kernel_rfl) (by kernel_rfl) rfl rfl (by kernel_rfl)

def d122 : DFn := ⟨[(.c .one), (.c .one), (.c (.sl [.one]))], [], .rw, [],
(s [mV 6 2, lN 7 false 6, o 8 (b .gtr (t 7) (k 0))]
(.cond (t 8)
(.reg true [
mV 9 0, mV 10 0, nK 11 10, fA 12 2 11, lD 13 1 12, mV 14 1, mV 15 2, u 16 [12] (.app 1 1 (.k .ns) (t 15)), o 17 (.bld [(.bo false), .ns] [(0, 1, (t 14)), (1, 1, (t 16))]), o 18 (.bsl 2 [[(.bo false), .ns]] [(0, (t 17))]), o 19 (.app 2 32 (t 13) (t 18)), nK 20 9, fA 21 2 20, sO 1 21 19] [])
.skip))⟩
def c122 : Ev.Fn := d122.den
def p122 : Pol := { P0 .rw with heap := [19, 18], own := [19] }
theorem r122 : FnOK Tryz.prog mds 122 c122 := .read (pol := p122) (d := d122) Tryz.func122 (by kernel_rfl) (by kernel_rfl) rfl rfl (by kernel_rfl)

def d123 : DFn := ⟨[(.c .one), (.c .one), (.c .one), (.c (.sl [.one]))], [], .rw, [],
(s [mV 12 0, mV 13 1, mV 14 2, cR 15 69 [t 12, t 13, t 14], mV 8 15]
(s [mV 16 8, nK 17 16, fA 18 0 17, lD 19 1 18, mV 20 3, cR 21 16 [t 19, t 20], lN 22 false 21, mK 23 (.it .i64 0)]
(.blk 0 (.loop [0, 1, 2, 8, 21, 22, 23] [10]
(s [o 24 (b .lss (t 23) (t 22))]
(.seq (.cond (t 24)
.skip
(.exit 0))
(.seq (.blk 1 (s [o 25 (.ias 6 (t 21) (t 23)), lQ 26 6 25, o 10 (.alc [(.it .i64 0), (.it .i64 0), .ns, (.st []), (.bo false), (.it .i64 0)]), sO 6 10 26]
(.seq (.seq (.reg false [
fA 27 0 10, lD 28 1 27, o 29 (b .eql (t 28) (k 5)), mV 30 29, x 31 30 (.fad 0 (t 10)), x 32 30 (.ld 1 false (t 31)), x 33 30 (b .eql (t 32) (k 6)), o 34 (.pick (t 30) (.k (.bo true)) (t 33))] [27, 31])
(.cond (t 34)
(.exit 1)
.skip))
(.seq (.reg false [
mV 35 0, mV 36 1, mV 37 2, fA 38 1 10, lD 39 1 38, cR 40 173 [t 35, t 36, t 37, t 39], mV 11 40] [38])
(.seq (.reg false [
fA 41 0 10, lD 42 1 41] [41])
(.blk 2 (.seq (.reg false [
o 44 (b .eql (t 42) (k 1)), mV 43 44] [])
(.cond (t 43)
(.reg true [
mV 45 11, mV 46 11, mV 47 11, fA 48 2 10, lD 49 1 48, fA 50 4 10, lD 51 1 50, mV 52 0, nK 53 52, fA 54 7 53, lD 55 1 54, o 56 (.call true .ro 15 [t 55]), nK 57 45, fA 58 3 57, ⟨none, none, [50], .sto 1 (t 58) (t 49)⟩, nK 59 46, fA 60 5 59, sO 1 60 51, nK 61 47, fA 62 8 61, sO 1 62 56] [48, 50])
(s [o 64 (b .eql (t 42) (k 3)), mV 63 64]
(.cond (t 63)
(.seq (.reg true [
mV 65 11, nK 66 65, fA 67 4 66, lD 68 1 67, fA 69 3 10, lD 70 1 69, o 71 (b .add (t 68) (t 70)), nK 72 65, fA 73 4 72, sO 1 73 71] [69])
(.seq (.reg false [
mV 74 11, fA 75 4 10, lD 76 1 75, nK 77 74, fA 78 5 77, sO 1 78 76] [75])
(.reg true [
mV 79 8, nK 80 79, fA 81 0 80, lD 82 1 81, fA 83 1 10, lD 84 1 83, fA 85 3 10, lD 86 1 85, lN 87 true 86, cR 88 174 [t 82, t 84, t 87]] [83, 85])))
(.seq (.reg false [
o 90 (b .eql (t 42) (k 2)), mV 89 90] [])
(.cond (t 89)
(r [mV 91 11, nK 92 91, fA 93 5 92, n (.sto 1 (t 93) (.k (.bo true)))])
(s [o 95 (b .eql (t 42) (k 4)), mV 94 95]
(.cond (t 94)
(.reg true [
mV 96 11, mV 97 11, fA 98 5 10, lD 99 1 98, nK 100 96, fA 101 6 100, ⟨none, none, [98], .sto 1 (t 101) (.k (.bo true))⟩, nK 102 97, fA 103 7 102, sO 1 103 99] [98])
.skip))))))))))))))
(r [o 104 (b .add (t 23) (k 1)), mV 23 104]))))))))⟩
def c123 : Ev.Fn := d123.den
def p123 : Pol := { P0 .rw with loc := [10], heap := [56], own := [56], ord := [(1, [0, 1, 2, 3, 4, 7, 5, 6])], clr := [(4, [27, 31]), (5, [38]), (6, [41]), (8, [48, 50]), (10, [69]), (11, [75]), (12, [83, 85]), (16, [98])], mask := [(2, [0, 1, 2, 8, 21, 22, 23], [10])] }
theorem r123 : FnOK Tryz.prog mds 123 c123 := .read (pol := p123) (d := d123) Tryz.func123 (by kernel_rfl) (by kernel_rfl) rfl rfl (by kernel_rfl)

def d124 : DFn := ⟨[(.c .one)], [(.c .one)], .pure, [.tmp 2],
(s [mK 2 (.bo false)]
(s [mV 3 0, o 4 (b .geq (t 3) (k 0)), mV 5 4, w 6 5 (.mov (t 0)), w 7 5 (b .leq (t 6) (k 65536)), o 8 (.pick (t 5) (t 7) (.k (.bo false))), mV 2 8]
.ret))⟩
def c124 : Ev.Fn := d124.den
def p124 : Pol := P0 .pure
theorem r124 : FnOK Tryz.prog mds 124 c124 := .read (pol := p124) (d := d124) Tryz.func124 (by kernel_rfl) (by kernel_rfl) rfl rfl (by kernel_rfl)

def d125 : DFn := ⟨[], [(.c (.sl [.one, .one]))], .pure, [.tmp 0],
(s [mK 0 .ns]
(s [mK 1 .ns]
(.seq (s [o 7 (.call false .pure 175 [(.k (.st [58, 97, 117, 116, 104, 111, 114, 105, 116, 121, 124, 58, 109, 101, 116, 104, 111, 100, 61, 71, 69, 84, 124, 58, 109, 101, 116, 104, 111, 100, 61, 80, 79, 83, 84, 124, 58, 112, 97, 116, 104, 61, 47, 124, 58, 112, 97, 116, 104, 61, 47, 105, 110, 100, 101, 120, 46, 104, 116, 109, 108, 124, 58, 115, 99, 104, 101, 109, 101, 61, 104, 116, 116, 112, 124, 58, 115, 99, 104, 101, 109, 101, 61, 104, 116, 116, 112, 115, 124, 58, 115, 116, 97, 116, 117, 115, 61, 50, 48, 48, 124, 58, 115, 116, 97, 116, 117, 115, 61, 50, 48, 52, 124, 58, 115, 116, 97, 116, 117, 115, 61, 50, 48, 54, 124, 58, 115, 116, 97, 116, 117, 115, 61, 51, 48, 52, 124, 58, 115, 116, 97, 116, 117, 115, 61, 52, 48, 48, 124, 58, 115, 116, 97, 116, 117, 115, 61, 52, 48, 52, 124, 58, 115, 116, 97, 116, 117, 115, 61, 53, 48, 48, 124, 97, 99, 99, 101, 112, 116, 45, 99, 104, 97, 114, 115, 101, 116, 124, 97, 99, 99, 101, 112, 116, 45, 101, 110, 99, 111, 100, 105, 110, 103, 61, 103, 122, 105, 112, 44, 32, 100, 101, 102, 108, 97, 116, 101, 124, 97, 99, 99, 101, 112, 116, 45, 108, 97, 110, 103, 117, 97, 103, 101, 124, 97, 99, 99, 101, 112, 116, 45, 114, 97, 110, 103, 101, 115, 124, 97, 99, 99, 101, 112, 116, 124, 97, 99, 99, 101, 115, 115, 45, 99, 111, 110, 116, 114, 111, 108, 45, 97, 108, 108, 111, 119, 45, 111, 114, 105, 103, 105, 110, 124, 97, 103, 101, 124, 97, 108, 108, 111, 119, 124, 97, 117, 116, 104, 111, 114, 105, 122, 97, 116, 105, 111, 110, 124, 99, 97, 99, 104, 101, 45, 99, 111, 110, 116, 114, 111, 108, 124, 99, 111, 110, 116, 101, 110, 116, 45, 100, 105, 115, 112, 111, 115, 105, 116, 105, 111, 110, 124, 99, 111, 110, 116, 101, 110, 116, 45, 101, 110, 99, 111, 100, 105, 110, 103, 124, 99, 111, 110, 116, 101, 110, 116, 45, 108, 97, 110, 103, 117, 97, 103, 101, 124, 99, 111, 110, 116, 101, 110, 116, 45, 108, 101, 110, 103, 116, 104, 124, 99, 111, 110, 116, 101, 110, 116, 45, 108, 111, 99, 97, 116, 105, 111, 110, 124, 99, 111, 110, 116, 101, 110, 116, 45, 114, 97, 110, 103, 101, 124, 99, 111, 110, 116, 101, 110, 116, 45, 116, 121, 112, 101, 124, 99, 111, 111, 107, 105, 101, 124, 100, 97, 116, 101, 124, 101, 116, 97, 103, 124, 101, 120, 112, 101, 99, 116, 124, 101, 120, 112, 105, 114, 101, 115, 124, 102, 114, 111, 109, 124, 104, 111, 115, 116, 124, 105, 102, 45, 109, 97, 116, 99, 104, 124, 105, 102, 45, 109, 111, 100, 105, 102, 105, 101, 100, 45, 115, 105, 110, 99, 101, 124, 105, 102, 45, 110, 111, 110, 101, 45, 109, 97, 116, 99, 104, 124, 105, 102, 45, 114, 97, 110, 103, 101, 124, 105, 102, 45, 117, 110, 109, 111, 100, 105, 102, 105, 101, 100, 45, 115, 105, 110, 99, 101, 124, 108, 97, 115, 116, 45, 109, 111, 100, 105, 102, 105, 101, 100, 124, 108, 105, 110, 107, 124, 108, 111, 99, 97, 116, 105, 111, 110, 124, 109, 97, 120, 45, 102, 111, 114, 119, 97, 114, 100, 115, 124, 112, 114, 111, 120, 121, 45, 97, 117, 116, 104, 101, 110, 116, 105, 99, 97, 116, 101, 124, 112, 114, 111, 120, 121, 45, 97, 117, 116, 104, 111, 114, 105, 122, 97, 116, 105, 111, 110, 124, 114, 97, 110, 103, 101, 124, 114, 101, 102, 101, 114, 101, 114, 124, 114, 101, 102, 114, 101, 115, 104, 124, 114, 101, 116, 114, 121, 45, 97, 102, 116, 101, 114, 124, 115, 101, 114, 118, 101, 114, 124, 115, 101, 116, 45, 99, 111, 111, 107, 105, 101, 124, 115, 116, 114, 105, 99, 116, 45, 116, 114, 97, 110, 115, 112, 111, 114, 116, 45, 115, 101, 99, 117, 114, 105, 116, 121, 124, 116, 114, 97, 110, 115, 102, 101, 114, 45, 101, 110, 99, 111, 100, 105, 110, 103, 124, 117, 115, 101, 114, 45, 97, 103, 101, 110, 116, 124, 118, 97, 114, 121, 124, 118, 105, 97, 124, 119, 119, 119, 45, 97, 117, 116, 104, 101, 110, 116, 105, 99, 97, 116, 101])), (.k (.st [124]))]), lN 8 false 7, mK 9 (.it .i64 0)]
(.blk 0 (.loop [1, 7, 8, 9] []
(s [o 10 (b .lss (t 9) (t 8))]
(.seq (.cond (t 10)
.skip
(.exit 0))
(.seq (.blk 1 (s [o 11 (.ias 1 (t 7) (t 9)), lD 12 1 11, mV 3 12]
(s [mV 14 3, o 15 (.call false .pure 176 [t 14, (.k (.st [61]))]), mV 13 15, eX 16 13 0, eX 17 13 1, eX 18 13 2, mV 4 16, mV 5 17, mV 6 18]
(r [mV 19 1, mV 20 4, mV 21 5, o 22 (.bld [(.st []), (.st [])] [(0, 1, (t 20)), (1, 1, (t 21))]), o 23 (.bsv [.one, .one] 2 [[(.st []), (.st [])]] [(0, (t 22))]), o 24 (.app 2 32 (t 19) (t 23)), mV 1 24]))))
(r [o 25 (b .add (t 9) (k 1)), mV 9 25])))))))
(s [mV 26 1, mV 0 26]
.ret))))⟩
def c125 : Ev.Fn := d125.den
def p125 : Pol := { P0 .pure with heap := [24], own := [24], ord := [(2, [2, 0, 1])], mask := [(3, [1, 7, 8, 9], [])] }
theorem r125 : FnOK Tryz.prog mds 125 c125 := .read (pol := p125) (d := d125) Tryz.func125 (by kernel_rfl) (by kernel_rfl) rfl rfl (by kernel_rfl)

def d126 : DFn := ⟨[(.c .one), (.c .one), (.g [.one, .one, (.sl [.one, .one]), .one, .one, .one])], [], .rw, [],
(s [o 5 (.box (t 2))]
(.seq (.reg false [
fA 7 0 5, lD 8 1 7] [7])
(.blk 0 (.seq (.reg false [
o 10 (b .eql (t 8) (k 1)), mV 9 10] [])
(.cond (t 9)
(r [mV 11 0, mV 12 1, lQ 13 6 5, cR 14 177 [t 11, t 12, t 13]])
(.seq (s [o 16 (b .eql (t 8) (k 3)), mV 15 16]
(.cond (t 15)
.skip
(r [o 17 (b .eql (t 8) (k 2)), mV 15 17])))
(.cond (t 15)
(r [mV 18 0, mV 19 1, lQ 20 6 5, cR 21 178 [t 18, t 19, t 20]])
(s [o 23 (b .eql (t 8) (k 4)), mV 22 23]
(.cond (t 22)
(.seq (.reg false [
mV 24 0, mV 25 1, fA 26 1 5, lD 27 1 26, cR 28 179 [t 24, t 25, t 27], mV 6 28] [26])
(.seq (.reg false [
mV 29 6, o 30 (.bin .ptr .neq (t 29) (.k .np))] [])
(.cond (t 30)
(r [mV 31 0, mV 32 6, cR 33 129 [t 31, t 32]])
.skip)))
(s [o 35 (b .eql (t 8) (k 6)), mV 34 35]
(.cond (t 34)
(r [mV 36 0, mV 37 1, cR 38 96 [t 36, t 37]])
.skip)))))))))))⟩
def c126 : Ev.Fn := d126.den
def p126 : Pol := { P0 .rw with loc := [5], clr := [(1, [7]), (8, [26])] }
theorem r126 : FnOK Tryz.prog mds 126 c126 := .read (pol := p126) (d := d126) Tryz.func126 (by kernel_rfl) (by kernel_rfl) rfl rfl (by kernel_rfl)

def d127 : DFn := ⟨[(.c .one), (.c .one), (.g [.one, .one, (.sl [.one, .one]), .one, .one, .one])], [], .rw, [],
(s [o 5 (.box (t 2))]
(.seq (.seq (.reg false [
fA 7 0 5, lD 8 1 7] [7])
(.blk 0 (.seq (.reg false [
o 10 (b .eql (t 8) (k 5)), mV 9 10] [])
(.cond (t 9)
(s [mV 11 0, mV 12 1, nK 13 11, fA 14 15 13, o 15 (.iaa 8 1 (t 14) (t 12)), lD 16 1 15, nK 17 16, fA 18 2 17, n (.sto 1 (t 18) (.k (.bo true)))]
(.seq (.reg false [
mV 19 0, mV 20 1, fA 21 1 5, lD 22 1 21, cR 23 97 [t 19, t 20, t 22]] [21])
.ret))
(.seq (.reg false [
o 25 (b .eql (t 8) (k 6)), mV 24 25] [])
(.cond (t 24)
(s [mV 26 0, mV 27 1, cR 28 97 [t 26, t 27, (.k (.it .i64 (-1)))]]
.ret)
.skip))))))
(.seq (.reg false [
mV 29 0, mV 30 1, fA 31 1 5, lD 32 1 31, cR 33 180 [t 29, t 30, t 32], mV 6 33] [31])
(.seq (.seq (.reg false [
mV 34 6, o 35 (.bin .ptr .eql (t 34) (.k .np))] [])
(.cond (t 35)
(.seq (.reg true [
mV 36 0, mV 37 1, nK 38 36, fA 39 15 38, o 40 (.iaa 8 1 (t 39) (t 37)), lD 41 1 40, nK 42 41, fA 43 0 42, lD 44 1 43, fA 45 1 5, lD 46 1 45, fA 47 3 5, lD 48 1 47, lN 49 true 48, cR 50 174 [t 44, t 46, t 49]] [45, 47])
.ret)
.skip))
(.seq (.reg false [
fA 51 0 5, lD 52 1 51] [51])
(.blk 1 (.seq (.reg false [
o 54 (b .eql (t 52) (k 1)), mV 53 54] [])
(.cond (t 53)
(r [mV 55 0, mV 56 6, lQ 57 6 5, cR 58 181 [t 55, t 56, t 57]])
(.seq (s [o 60 (b .eql (t 52) (k 3)), mV 59 60]
(.cond (t 59)
.skip
(r [o 61 (b .eql (t 52) (k 2)), mV 59 61])))
(.cond (t 59)
(r [mV 62 0, mV 63 6, lQ 64 6 5, cR 65 182 [t 62, t 63, t 64]])
(s [o 67 (b .eql (t 52) (k 4)), mV 66 67]
(.cond (t 66)
(r [mV 68 0, mV 69 6, cR 70 131 [t 68, t 69]])
.skip))))))))))))⟩
def c127 : Ev.Fn := d127.den
def p127 : Pol := { P0 .rw with loc := [5], clr := [(1, [7]), (4, [21]), (7, [31]), (9, [45, 47]), (10, [51])] }
theorem r127 : FnOK Tryz.prog mds 127 c127 := .read (pol := p127) (d := d127) Tryz.func127 (by kernel_rfl) (by kernel_rfl) rfl rfl (by kernel_rfl)

def d132 : DFn := ⟨[(.c (.sl [.one]))], [(.c (.sl [.one]))], .rw, [.tmp 2],
(s [mK 2 .ns]
(.seq (s [mV 3 0, o 4 (.hnd (.eqs .eql) [t 3, (.k .ns)])]
(.cond (t 4)
(s [mK 2 .ns]
.ret)
.skip))
(s [o 5 (.bsl 1 [] []), mV 6 0, o 7 (.app 1 8 (t 5) (t 6)), mV 2 7]
.ret)))⟩
def c132 : Ev.Fn := d132.den
def p132 : Pol := { P0 .rw with heap := [5], own := [5], ord := [(3, [1, 0, 2, 3])], hnd := [4] }
theorem r132 : FnOK Tryz.prog mds 132 c132 := .read (pol := p132) (d := d132) Tryz.func132 (by kernel_rfl) (by kernel_rfl) rfl rfl (by kernel_rfl)

def d133 : DFn := ⟨[(.c .one), (.c .one)], [(.c .one)], .rw, [.tmp 4],
(s [mK 4 (.it .i64 0)]
(s [mK 5 (.it .i64 (-1))]
(.seq (s [mV 10 0, nK 11 10, fA 12 15 11, lQ 13 8 12, mK 14 (.it .i64 0)]
(.blk 0 (.loop [0, 1, 5, 13, 14] []
(s [o 15 (b .lss (t 14) (k 8))]
(.seq (.cond (t 15)
.skip
(.exit 0))
(.seq (.blk 1 (s [mV 16 14, o 17 (.ixa 8 1 false (t 13) (t 14)), mV 6 16, mV 7 17]
(.seq (s [mV 18 7, o 19 (.bin .ptr .neq (t 18) (.k .np)), mV 20 19, w 21 20 (.mov (t 7)), w 22 20 (.nck (t 21)), w 23 20 (.fad 1 (t 22)), w 24 20 (.ld 1 false (t 23)), w 25 20 (.mov (t 1)), w 26 20 (b .eql (t 24) (t 25)), o 27 (.pick (t 20) (t 26) (.k (.bo false)))]
(.cond (t 27)
(s [mV 28 6, mV 4 28]
.ret)
.skip))
(s [mV 29 7, o 30 (.bin .ptr .eql (t 29) (.k .np)), mV 31 30, w 32 31 (.mov (t 5)), w 33 31 (b .lss (t 32) (k 0)), o 34 (.pick (t 31) (t 33) (.k (.bo false))), mV 35 34, w 36 35 (.mov (t 6)), w 37 35 (.mov (t 0)), w 38 35 (.nck (t 37)), w 39 35 (.fad 0 (t 38)), w 40 35 (.fad 6 (t 39)), w 41 35 (.ld 1 false (t 40)), w 42 35 (b .lss (t 36) (t 41)), o 43 (.pick (t 35) (t 42) (.k (.bo false)))]
(.cond (t 43)
(r [mV 44 6, mV 5 44])
.skip)))))
(r [o 45 (b .add (t 14) (k 1)), mV 14 45])))))))
(.seq (s [mV 46 5, o 47 (b .geq (t 46) (k 0))]
(.cond (t 47)
(s [mV 49 0, nK 50 49, fA 51 0 50, fA 52 2 51, lQ 53 3 52, cR 54 10 [(.k (.bo false)), t 53], mV 48 54, eX 55 48 0, eX 56 48 1, mV 8 55, mV 9 56]
(s [mV 57 0, mV 58 5, mV 59 8, mV 60 1, o 61 (.bld [.np, (.st []), (.bo false)] [(0, 1, (t 59)), (1, 1, (t 60))]), o 62 (.bxh (t 61)), nK 63 57, fA 64 15 63, o 65 (.iaa 8 1 (t 64) (t 58)), sO 1 65 62]
(r [mV 66 0, mV 67 0, nK 68 67, fA 69 26 68, lD 70 1 69, mV 71 5, mV 72 1, o 73 (.bld [(.it .i64 0), (.st [])] [(0, 1, (t 71)), (1, 1, (t 72))]), o 74 (.bsv [.one, .one] 2 [[(.it .i64 0), (.st [])]] [(0, (t 73))]), o 75 (.app 2 24 (t 70) (t 74)), nK 76 66, fA 77 26 76, sO 1 77 75])))
.skip))
(s [mV 78 5, mV 4 78]
.ret)))))⟩
def c133 : Ev.Fn := d133.den
def p133 : Pol := { P0 .rw with heap := [75], own := [75], ord := [(12, [0, 1, 2, 3, 4, 6, 7, 5, 8, 9])], mask := [(3, [0, 1, 5, 13, 14], [])] }
theorem r133 : FnOK Tryz.prog mds 133 c133 := .read (pol := p133) (d := d133) Tryz.func133 (by kernel_rfl) (by kernel_rfl) rfl rfl (by kernel_rfl)

def d135 : DFn := ⟨[(.c (.sl [.one, .one]))], [(.c (.sl [.one, .one]))], .pure, [.tmp 2],
(s [mK 2 .ns]
(s [mV 12 0, o 13 (.call false .pure 188 [t 12, (.k (.st [99, 111, 110, 110, 101, 99, 116, 105, 111, 110]))]), mV 11 13, eX 14 11 0, eX 15 11 1, mV 3 14, mV 4 15]
(s [mV 17 3, o 18 (.call true .pure 189 [t 17]), mV 16 18, eX 19 16 0, eX 20 16 1, mV 5 19, mV 6 20]
(.seq (s [mV 21 5, lN 22 false 21, mK 23 (.it .i64 0)]
(.blk 0 (.loop [0, 5, 22, 23] [10]
(s [o 24 (b .lss (t 23) (t 22))]
(.seq (.cond (t 24)
.skip
(.exit 0))
(.seq (.blk 1 (s [mV 25 23, mV 7 25]
(r [mV 26 5, mV 27 7, mV 28 5, mV 29 7, o 30 (.ias 1 (t 28) (t 29)), lD 31 1 30, o 32 (.call true .pure 190 [t 31]), o 33 (.ias 1 (t 26) (t 27)), sO 1 33 32])))
(r [o 34 (b .add (t 23) (k 1)), mV 23 34])))))))
(s [mK 8 .ns]
(.seq (s [mV 35 0, lN 36 false 35, mK 37 (.it .i64 0)]
(.blk 2 (.loop [5, 8, 35, 36, 37] [10]
(s [o 38 (b .lss (t 37) (t 36))]
(.seq (.cond (t 38)
.skip
(.exit 2))
(.seq (.blk 3 (s [o 39 (.ias 2 (t 35) (t 37)), lQ 40 2 39, o 10 (.alc [(.st []), (.st [])]), sO 2 10 40]
(.seq (.reg false [
fA 41 0 10, lD 42 1 41, cP 43 191 [t 42], o 44 (.un .not (t 43)), mV 45 44, w 46 45 (.fad 0 (t 10)), w 47 45 (.ld 1 false (t 46)), w 48 45 (b .neq (t 47) (.k (.st [116, 101]))), o 49 (.pick (t 45) (t 48) (.k (.bo false))), mV 50 49, w 51 50 (.mov (t 5)), w 52 50 (.fad 0 (t 10)), w 53 50 (.ld 1 false (t 52)), w 54 50 (.call false .pure 192 [t 51, t 53]), w 55 50 (.un .not (t 54)), o 56 (.pick (t 50) (t 55) (.k (.bo false)))] [41, 46, 52])
(.cond (t 56)
(.reg false [
mV 57 8, lQ 58 2 10, o 59 (.bsv [.one, .one] 2 [[(.st []), (.st [])]] [(0, (t 58))]), o 60 (.app 2 32 (t 57) (t 59)), mV 8 60] [])
.skip))))
(r [o 61 (b .add (t 37) (k 1)), mV 37 61])))))))
(s [mV 62 8, mV 2 62]
.ret)))))))⟩
def c135 : Ev.Fn := d135.den
def p135 : Pol := { P0 .pure with loc := [10], heap := [18, 32, 60], own := [18, 32, 60], clr := [(12, [41, 46, 52])], mask := [(4, [0, 5, 22, 23], [10]), (10, [5, 8, 35, 36, 37], [10])] }
theorem r135 : FnOK Tryz.prog mds 135 c135 := .read (pol := p135) (d := d135) Tryz.func135 (by kernel_rfl) (by kernel_rfl) rfl rfl (by kernel_rfl)

def d136 : DFn := ⟨[], [(.g [.one, .one])], .pure, [.cell 0 2 true],
(s [o 0 (.alc [(.st []), (.st [])])]
(s [o 1 (.bld [(.st []), (.st [])] [(0, 1, (.k (.st [118, 105, 97]))), (1, 1, (.k (.st [50, 32, 114, 101, 115, 101, 114, 118, 111, 105, 114])))]), sO 2 0 1]
.ret))⟩
def c136 : Ev.Fn := d136.den
def p136 : Pol := { P0 .pure with loc := [0] }
theorem r136 : FnOK Tryz.prog mds 136 c136 := .read (pol := p136) (d := d136) Tryz.func136 (by kernel_rfl) (by kernel_rfl) rfl rfl (by kernel_rfl)

def d137 : DFn := ⟨[(.c (.sl [.one, .one]))], [(.c .one)], .pure, [.tmp 2],
(s [mK 2 (.bo false)]
(.seq (s [mV 5 0, lN 6 false 5, mK 7 (.it .i64 0)]
(.blk 0 (.loop [0, 5, 6, 7] [4]
(s [o 8 (b .lss (t 7) (t 6))]
(.seq (.cond (t 8)
.skip
(.exit 0))
(.seq (.blk 1 (s [o 9 (.ias 2 (t 5) (t 7)), lQ 10 2 9, o 4 (.alc [(.st []), (.st [])]), sO 2 4 10]
(.seq (.reg false [
fA 11 0 4, lD 12 1 11, lN 13 true 12, o 14 (b .gtr (t 13) (k 65536)), mV 15 14, x 16 15 (.fad 1 (t 4)), x 17 15 (.ld 1 false (t 16)), x 18 15 (.len true (t 17)), x 19 15 (b .gtr (t 18) (k 65536)), o 20 (.pick (t 15) (.k (.bo true)) (t 19))] [11, 16])
(.cond (t 20)
(.seq (.reg false [
mK 2 (.bo false)] [])
.ret)
.skip))))
(r [o 21 (b .add (t 7) (k 1)), mV 7 21])))))))
(s [mV 22 0, cP 23 193 [t 22], o 24 (b .leq (t 23) (k 65536)), mV 2 24]
.ret)))⟩
def c137 : Ev.Fn := d137.den
def p137 : Pol := { P0 .pure with loc := [4], clr := [(4, [11, 16])], mask := [(2, [0, 5, 6, 7], [4])] }
theorem r137 : FnOK Tryz.prog mds 137 c137 := .read (pol := p137) (d := d137) Tryz.func137 (by kernel_rfl) (by kernel_rfl) rfl rfl (by kernel_rfl)

def d138 : DFn := ⟨[(.c (.sl [.one, .one]))], [(.c (.sl [.one, .one, .one]))], .pure, [.tmp 2],
(s [mK 2 .ns]
(s [mK 3 .ns]
(.seq (s [mV 7 0, lN 8 false 7, mK 9 (.it .i64 0)]
(.blk 0 (.loop [3, 7, 8, 9] [5]
(s [o 10 (b .lss (t 9) (t 8))]
(.seq (.cond (t 10)
.skip
(.exit 0))
(.seq (.blk 1 (s [o 11 (.ias 2 (t 7) (t 9)), lQ 12 2 11, o 5 (.alc [(.st []), (.st [])]), sO 2 5 12]
(s [mK 6 (.it .i64 1)]
(.seq (.seq (.reg false [
fA 13 0 5, lD 14 1 13] [13])
(.blk 2 (.seq (.seq (.reg false [
o 16 (b .eql (t 14) (.k (.st [97, 117, 116, 104, 111, 114, 105, 122, 97, 116, 105, 111, 110]))), mV 15 16] [])
(.cond (t 15)
.skip
(s [o 17 (b .eql (t 14) (.k (.st [99, 111, 111, 107, 105, 101]))), mV 15 17]
(.cond (t 15)
.skip
(r [o 18 (b .eql (t 14) (.k (.st [115, 101, 116, 45, 99, 111, 111, 107, 105, 101]))), mV 15 18])))))
(.cond (t 15)
(r [mK 6 (.it .i64 3)])
(s [o 20 (b .eql (t 14) (.k (.st [97, 103, 101]))), mV 19 20]
(.cond (t 19)
(r [mK 6 (.it .i64 2)])
.skip))))))
(r [mV 21 3, lQ 22 2 5, mV 23 6, o 24 (.bld [(.st []), (.st []), (.it .i64 0)] [(0, 2, (t 22)), (2, 1, (t 23))]), o 25 (.bsv [.one, .one, .one] 3 [[(.st []), (.st []), (.it .i64 0)]] [(0, (t 24))]), o 26 (.app 3 40 (t 21) (t 25)), mV 3 26])))))
(r [o 27 (b .add (t 9) (k 1)), mV 9 27])))))))
(s [mV 28 3, mV 2 28]
.ret))))⟩
def c138 : Ev.Fn := d138.den
def p138 : Pol := { P0 .pure with loc := [5], heap := [26], own := [26], clr := [(6, [13])], mask := [(3, [3, 7, 8, 9], [5])] }
theorem r138 : FnOK Tryz.prog mds 138 c138 := .read (pol := p138) (d := d138) Tryz.func138 (by kernel_rfl) (by kernel_rfl) rfl rfl (by kernel_rfl)

def d139 : DFn := ⟨[(.c .one), (.c .one), (.c .one)], [], .rw, [],
(s [mV 7 0, mV 8 1, nK 9 8, fA 10 0 9, lD 11 1 10, cR 12 53 [t 7, t 11], mV 6 12]
(s [mV 13 6, o 14 (.bin .ptr .neq (t 13) (.k .np))]
(.cond (t 14)
(r [mV 15 6, mV 16 1, nK 17 16, fA 18 1 17, lD 19 1 18, mV 20 2, cR 21 174 [t 15, t 19, t 20]])
.skip)))⟩
def c139 : Ev.Fn := d139.den
def p139 : Pol := P0 .rw
theorem r139 : FnOK Tryz.prog mds 139 c139 := .read (pol := p139) (d := d139) Tryz.func139 (by kernel_rfl) (by kernel_rfl) rfl rfl (by kernel_rfl)

def d140 : DFn := ⟨[(.c .one), (.c .one), (.c .one)], [], .rw, [],
(s [mV 6 1, nK 7 6, fA 8 20 7, lD 9 1 8, mV 10 9, w 11 10 (.mov (t 1)), w 12 10 (.nck (t 11)), w 13 10 (.fad 28 (t 12)), w 14 10 (.ld 1 false (t 13)), o 15 (.pick (t 10) (t 14) (.k (.bo false))), mV 16 15, w 17 16 (.mov (t 2)), w 18 16 (b .gtr (t 17) (k 0)), o 19 (.pick (t 16) (t 18) (.k (.bo false)))]
(.cond (t 19)
(.reg true [
mV 20 0, mV 21 1, nK 22 21, fA 23 21 22, lD 24 1 23, nK 25 20, fA 26 15 25, o 27 (.iaa 8 1 (t 26) (t 24)), lD 28 1 27, nK 29 28, fA 30 0 29, lD 31 1 30, mV 32 1, nK 33 32, fA 34 22 33, lD 35 1 34, mV 36 2, cR 37 174 [t 31, t 35, t 36]] [])
.skip))⟩
def c140 : Ev.Fn := d140.den
def p140 : Pol := P0 .rw
theorem r140 : FnOK Tryz.prog mds 140 c140 := .read (pol := p140) (d := d140) Tryz.func140 (by kernel_rfl) (by kernel_rfl) rfl rfl (by kernel_rfl)

def d141 : DFn := ⟨[(.c .one), (.c .one)], [], .rw, [],
(.seq (s [mV 4 1, nK 5 4, fA 6 10 5, lD 7 1 6, o 8 (.un .not (t 7))]
(.cond (t 8)
(.reg true [
mV 9 0, mV 10 1, nK 11 10, fA 12 0 11, lD 13 1 12, nK 14 9, fA 15 7 14, o 16 (.iaa 8 1 (t 15) (t 13)), lD 17 1 16, mV 18 1, nK 19 18, fA 20 1 19, lD 21 1 20, cR 22 79 [t 17, t 21, (k 0)]] [])
.skip))
(.seq (s [mV 23 1, nK 24 23, fA 25 23 24, lD 26 1 25, o 27 (.un .not (t 26))]
(.cond (t 27)
(r [mV 28 0, mV 29 1, cR 30 184 [t 28, t 29]])
.skip))
(r [mV 31 0, mV 32 1, cR 33 185 [t 31, t 32]])))⟩
def c141 : Ev.Fn := d141.den
def p141 : Pol := P0 .rw
theorem r141 : FnOK Tryz.prog mds 141 c141 := .read (pol := p141) (d := d141) Tryz.func141 (by kernel_rfl) (by kernel_rfl) rfl rfl (by kernel_rfl)

def d142 : DFn := ⟨[(.c .one)], [(.c (.sl [.one]))], .rw, [.tmp 2],
(s [mK 2 .ns]
(.seq (s [mV 4 0, nK 5 4, fA 6 1 5, lD 7 1 6]
(.cond (t 7)
(s [mK 2 .ns]
.ret)
.skip))
(s [mK 3 .ns]
(s [mV 8 0, nK 9 8, fA 10 1 9, n (.sto 1 (t 10) (.k (.bo true)))]
(.seq (.seq (.reg true [
mV 11 0, nK 12 11, fA 13 2 12, lD 14 1 13, mV 15 0, nK 16 15, fA 17 0 16, lD 18 1 17, u 19 [13] (.call false .rw 194 [t 18]), o 20 (b .lss (t 14) (t 19))] [])
(.cond (t 20)
(r [mV 21 3, mV 22 0, nK 23 22, fA 24 2 23, lD 25 1 24, cP 26 144 [t 21, (k 5), (.k (.it .u8 32)), t 25], mV 3 26])
.skip))
(s [mV 27 3, mV 28 0, nK 29 28, fA 30 0 29, lD 31 1 30, cR 32 194 [t 31], cP 33 144 [t 27, (k 5), (.k (.it .u8 32)), t 32], mV 2 33]
.ret))))))⟩
def c142 : Ev.Fn := d142.den
def p142 : Pol := P0 .rw
theorem r142 : FnOK Tryz.prog mds 142 c142 := .read (pol := p142) (d := d142) Tryz.func142 (by kernel_rfl) (by kernel_rfl) rfl rfl (by kernel_rfl)

def d143 : DFn := ⟨[(.c .one), (.g [.one, .one])], [(.c .one), (.c .one)], .rw, [.tmp 4, .tmp 5],
(s [o 3 (.box (t 1)), mK 4 (.it .i64 0), mK 5 (.bo false)]
(s [mK 6 (.it .i64 0)]
(.seq (.seq (.reg true [
mV 12 0, nK 13 12, fA 14 1 13, lD 15 1 14, mV 16 0, nK 17 16, fA 18 0 17, lD 19 1 18, mK 22 (.it .i64 0), o 20 (.bsl 1 [[.ns], [.ns]] [(0, (t 15)), (1, (t 19))]), lN 21 false 20] [])
(.blk 0 (.loop [0, 3, 6, 20, 21, 22] [10]
(s [o 23 (b .lss (t 22) (t 21))]
(.seq (.cond (t 23)
.skip
(.exit 0))
(.seq (.blk 1 (s [mV 24 22, o 25 (.ias 1 (t 20) (t 22)), lD 26 1 25, mV 7 24, mV 8 26]
(s [mV 27 8, lN 28 false 27, mK 29 (.it .i64 0)]
(.blk 2 (.loop [0, 3, 6, 7, 20, 21, 22, 27, 28, 29] [10]
(s [o 30 (b .lss (t 29) (t 28))]
(.seq (.cond (t 30)
.skip
(.exit 2))
(.seq (.blk 3 (s [mV 31 29, o 32 (.ias 2 (t 27) (t 29)), lQ 33 2 32, o 10 (.alc [(.st []), (.st [])]), mV 9 31, sO 2 10 33]
(s [mV 34 7, mV 35 0, nK 36 35, fA 37 1 36, lD 38 1 37, lN 39 false 38, o 40 (b .mul (t 34) (t 39)), mV 41 9, o 42 (b .add (t 40) (t 41)), o 43 (b .add (t 42) (k 1)), mV 11 43]
(.seq (s [lQ 44 2 10, lQ 45 2 3, o 46 (.bin (.ag [1, 1]) .eql (t 44) (t 45))]
(.cond (t 46)
(s [mV 47 11, mV 4 47, mK 5 (.bo true)]
.ret)
.skip))
(.seq (.reg false [
fA 48 0 10, lD 49 1 48, fA 50 0 3, lD 51 1 50, o 52 (b .eql (t 49) (t 51)), mV 53 52, w 54 53 (.mov (t 6)), w 55 53 (b .eql (t 54) (k 0)), o 56 (.pick (t 53) (t 55) (.k (.bo false)))] [48, 50])
(.cond (t 56)
(.reg false [
mV 57 11, mV 6 57] [])
.skip))))))
(r [o 58 (b .add (t 29) (k 1)), mV 29 58])))))))))
(r [o 59 (b .add (t 22) (k 1)), mV 22 59])))))))
(s [mV 60 6, mV 4 60, mK 5 (.bo false)]
.ret))))⟩
def c143 : Ev.Fn := d143.den
def p143 : Pol := { P0 .rw with loc := [3, 10], heap := [20], ord := [(0, [1, 2, 0]), (2, [0, 1, 2, 3, 4, 5, 6, 7, 10, 8, 9])], clr := [(11, [48, 50])], mask := [(3, [0, 3, 6, 20, 21, 22], [10]), (6, [0, 3, 6, 7, 20, 21, 22, 27, 28, 29], [10])] }
theorem r143 : FnOK Tryz.prog mds 143 c143 := .read (pol := p143) (d := d143) Tryz.func143 (by kernel_rfl) (by kernel_rfl) rfl rfl (by kernel_rfl)

def d144 : DFn := ⟨[(.c (.sl [.one])), (.c .one), (.c .one), (.c .one)], [(.c (.sl [.one]))], .pure, [.tmp 8],
(s [mK 8 .ns]
(s [mV 11 0, lN 12 false 11, o 13 (b .add (t 12) (k 1)), o 14 (b .add (t 13) (k 5)), o 15 (.mks 1 1 [(.it .u8 0)] (k 0) (t 14)), mV 9 15]
(s [mV 16 9, mV 17 0, o 18 (.app 1 1 (t 16) (t 17)), mV 9 18]
(.seq (s [mV 19 1, o 20 (b .lss (t 19) (k 1)), mV 21 20, x 22 21 (.mov (t 1)), x 23 21 (b .gtr (t 22) (k 8)), o 24 (.pick (t 21) (.k (.bo true)) (t 23)), mV 25 24, x 26 25 (.mov (t 3)), x 27 25 (b .lss (t 26) (k 0)), o 28 (.pick (t 25) (.k (.bo true)) (t 27)), mV 29 28, x 30 29 (.mov (t 3)), x 31 29 (b .gtr (t 30) (k 2147483647)), o 32 (.pick (t 29) (.k (.bo true)) (t 31))]
(.cond (t 32)
(s [mV 33 9, mV 8 33]
.ret)
.skip))
(s [mV 34 1, cP 35 195 [t 34], mV 10 35]
(.seq (s [mV 36 3, mV 37 10, o 38 (b .lss (t 36) (t 37))]
(.cond (t 38)
(s [mV 39 9, mV 40 2, mV 41 10, cV 42 .u8 41, o 43 (b .andNot (t 40) (t 42)), mV 44 3, cV 45 .u8 44, o 46 (b .or (t 43) (t 45)), o 47 (.bsv [.one] 1 [[(.it .u8 0)]] [(0, (t 46))]), o 48 (.app 1 1 (t 39) (t 47)), mV 8 48]
.ret)
.skip))
(s [mV 49 9, mV 50 2, mV 51 10, cV 52 .u8 51, o 53 (b .or (t 50) (t 52)), o 54 (.bsv [.one] 1 [[(.it .u8 0)]] [(0, (t 53))]), o 55 (.app 1 1 (t 49) (t 54)), mV 9 55]
(s [mV 56 3, mV 57 10, o 58 (b .sub (t 56) (t 57)), mV 3 58]
(.seq (.blk 0 (.loop [3, 9] []
(.seq (s [mV 59 3, o 60 (b .geq (t 59) (k 128))]
(.cond (t 60)
.skip
(.exit 0)))
(.blk 1 (s [mV 61 9, mV 62 3, cV 63 .u8 62, o 64 (b .or (t 63) (.k (.it .u8 128))), o 65 (.bsv [.one] 1 [[(.it .u8 0)]] [(0, (t 64))]), o 66 (.app 1 1 (t 61) (t 65)), mV 9 66]
(r [mV 67 3, o 68 (b .shr (t 67) (.k (.it .u64 7))), mV 3 68]))))))
(s [mV 69 9, mV 70 3, cV 71 .u8 70, o 72 (.bsv [.one] 1 [[(.it .u8 0)]] [(0, (t 71))]), o 73 (.app 1 1 (t 69) (t 72)), mV 8 73]
.ret))))))))))⟩
def c144 : Ev.Fn := d144.den
def p144 : Pol := { P0 .pure with heap := [18, 55, 66], own := [18, 55, 66], mask := [(10, [3, 9], [])] }
theorem r144 : FnOK Tryz.prog mds 144 c144 := .read (pol := p144) (d := d144) Tryz.func144 (by kernel_rfl) (by kernel_rfl) rfl rfl (by kernel_rfl)

def d145 : DFn := ⟨[(.c (.sl [.one])), (.c .one), (.c .one), (.c .one), (.g [.one, .one])], [(.c (.sl [.one]))], .pure, [.tmp 10],
(s [o 9 (.box (t 4)), mK 10 .ns]
(s [mV 11 0, mV 12 2, mV 13 3, mV 14 1, cP 15 144 [t 11, t 12, t 13, t 14], mV 0 15]
(.seq (s [mV 16 1, o 17 (b .eql (t 16) (k 0))]
(.cond (t 17)
(.reg false [
mV 18 0, fA 19 0 9, lD 20 1 19, cP 21 196 [t 18, t 20], mV 0 21] [19])
.skip))
(.seq (.reg false [
mV 22 0, fA 23 1 9, lD 24 1 23, cP 25 196 [t 22, t 24], mV 10 25] [23])
.ret))))⟩
def c145 : Ev.Fn := d145.den
def p145 : Pol := { P0 .pure with loc := [9], ord := [(0, [1, 0])], clr := [(3, [19]), (4, [23])] }
theorem r145 : FnOK Tryz.prog mds 145 c145 := .read (pol := p145) (d := d145) Tryz.func145 (by kernel_rfl) (by kernel_rfl) rfl rfl (by kernel_rfl)

def d146 : DFn := ⟨[(.c .one), (.g [.one, .one])], [], .rw, [],
(.seq (.reg false [
o 3 (.box (t 1))] [])
(s [lQ 5 2 3, cP 6 105 [t 5], mV 4 6]
(s [mV 7 0, mV 8 0, nK 9 8, fA 10 3 9, lD 11 1 10, mV 12 4, o 13 (b .sub (t 11) (t 12)), cR 14 197 [t 7, t 13]]
(.seq (s [mV 15 4, mV 16 0, nK 17 16, fA 18 3 17, lD 19 1 18, o 20 (b .gtr (t 15) (t 19))]
(.cond (t 20)
.ret
.skip))
(.seq (.reg true [
mV 21 0, mV 22 0, nK 23 22, fA 24 0 23, lD 25 1 24, lQ 26 2 3, o 27 (.bsl 2 [[(.st []), (.st [])]] [(0, (t 26))]), o 28 (.call true .rw 198 [t 25, (k 0), t 27]), nK 29 21, fA 30 0 29, sO 1 30 28] [])
(r [mV 31 0, nK 32 31, fA 33 2 32, lD 34 1 33, mV 35 4, o 36 (b .add (t 34) (t 35)), nK 37 31, fA 38 2 37, sO 1 38 36]))))))⟩
def c146 : Ev.Fn := d146.den
def p146 : Pol := { P0 .rw with loc := [3], heap := [28, 27], own := [28] }
theorem r146 : FnOK Tryz.prog mds 146 c146 := .read (pol := p146) (d := d146) Tryz.func146 (by kernel_rfl) (by kernel_rfl) rfl rfl (by kernel_rfl)

def d148 : DFn := ⟨[(.g [.one, .one, .one, (.sl [.one])])], [(.c .one)], .pure, [.tmp 2],
(s [o 1 (.box (t 0)), mK 2 (.bo false)]
(.seq (.seq (.reg false [
fA 3 0 1, lD 4 1 3] [3])
(.blk 0 (.seq (.seq (.reg false [
o 6 (b .eql (t 4) (k 4)), mV 5 6] [])
(.cond (t 5)
.skip
(s [o 7 (b .eql (t 4) (k 6)), mV 5 7]
(.cond (t 5)
.skip
(r [o 8 (b .eql (t 4) (k 7)), mV 5 8])))))
(.cond (t 5)
(.seq (.reg false [
fA 9 2 1, lD 10 1 9, o 11 (b .neq (t 10) (k 0)), mV 2 11] [9])
.ret)
(.seq (.reg false [
o 13 (b .eql (t 4) (k 8)), mV 12 13] [])
(.cond (t 12)
(s [mK 2 (.bo false)]
.ret)
(s [o 15 (b .eql (t 4) (k 5)), mV 14 15]
(.cond (t 14)
(s [mK 2 (.bo true)]
.ret)
.skip))))))))
(.seq (.reg false [
fA 16 2 1, lD 17 1 16, o 18 (b .eql (t 17) (k 0)), mV 2 18] [16])
.ret)))⟩
def c148 : Ev.Fn := d148.den
def p148 : Pol := { P0 .pure with loc := [1], ord := [(0, [1, 0])], clr := [(1, [3]), (5, [9]), (10, [16])] }
theorem r148 : FnOK Tryz.prog mds 148 c148 := .read (pol := p148) (d := d148) Tryz.func148 (by kernel_rfl) (by kernel_rfl) rfl rfl (by kernel_rfl)

def d150 : DFn := ⟨[(.g [.one, .one, .one, (.sl [.one])]), (.g [.one, .one, .one, .one, .one, (.sl [.one]), .one, .one, .one, .one, (.sl [.one, .one])])], [(.g [.one, .one, .one, .one, .one, (.sl [.one]), .one, .one, .one, .one, (.sl [.one, .one])]), (.g [.one, .one, .one])], .pure, [.cell 4 11 true, .cell 5 3 true],
(.seq (.reg false [
o 2 (.box (t 0)), o 3 (.box (t 1)), o 4 (.alc [(.it .i64 0), (.it .i64 0), (.bo false), (.bo false), (.bo false), .ns, (.it .i64 0), (.it .i64 0), (.it .i64 0), (.it .i64 0), .ns]), o 5 (.alc [(.it .i64 0), (.it .i64 0), (.it .i64 0)])] [])
(s [lQ 10 4 2, cP 11 199 [t 10], mV 9 11, eX 12 9 0, eX 13 9 1, eX 14 9 2, mV 6 12, mV 7 13, mV 8 14]
(.seq (s [mV 15 8, o 16 (.un .not (t 15))]
(.cond (t 16)
(s [o 17 (.bld [(.it .i64 0), (.it .i64 0), (.bo false), (.bo false), (.bo false), .ns, (.it .i64 0), (.it .i64 0), (.it .i64 0), (.it .i64 0), .ns] []), cP 18 149 [(k 6)], sO 11 4 17, sO 3 5 18]
.ret)
.skip))
(.seq (s [mV 19 6, mV 20 7, lN 21 false 20, o 22 (b .gtr (t 19) (t 21))]
(.cond (t 22)
(s [o 23 (.bld [(.it .i64 0), (.it .i64 0), (.bo false), (.bo false), (.bo false), .ns, (.it .i64 0), (.it .i64 0), (.it .i64 0), (.it .i64 0), .ns] []), cP 24 149 [(k 1)], sO 11 4 23, sO 3 5 24]
.ret)
.skip))
(.seq (.reg true [
fA 25 1 2, lD 26 1 25, o 27 (b .and (t 26) (k 1)), o 28 (b .neq (t 27) (k 0)), fA 29 3 2, lD 30 1 29, lN 31 false 30, mV 32 7, mV 33 7, lN 34 false 33, mV 35 6, o 36 (b .sub (t 34) (t 35)), o 37 (.slc false 1 (t 32) none (some (t 36))), fA 39 2 3, cP 38 155 [t 37], ⟨none, none, [29], .sto 1 (t 39) (t 28)⟩, fA 40 9 3, sO 1 40 31, fA 41 5 3, sO 1 41 38] [25, 29, 39, 40, 41])
(s [lQ 42 11 3, o 43 (.bld [(.it .i64 0), (.it .i64 0), (.it .i64 0)] []), sO 11 4 42, sO 3 5 43]
.ret))))))⟩
def c150 : Ev.Fn := d150.den
def p150 : Pol := { P0 .pure with loc := [2, 3, 4, 5], ord := [(6, [0, 1, 2, 3, 4, 5, 6, 7, 8, 9, 10, 11, 12, 14, 13, 15, 16, 17, 18, 19])], clr := [(6, [25, 29, 39, 40, 41])] }
theorem r150 : FnOK Tryz.prog mds 150 c150 := .read (pol := p150) (d := d150) Tryz.func150 (by kernel_rfl) (by kernel_rfl) rfl rfl (by kernel_rfl)

end Go.Proofs.YtnnhhfjkkmakaaaGreatDoor.tab
