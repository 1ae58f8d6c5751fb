import Derived.Test.YtnnhhfjkkmakaaaGreatDoorTabx1
import Derived.KernelRfl
/- the functions of the seat, read off the program -/
namespace Go.Proofs.YtnnhhfjkkmakaaaGreatDoor.tab
open Go hiding Fn
open Ev

def d197 : DFn := ⟨[(.c .one), (.c .one)], [], .rw, [],
(.blk 0 (.loop [0, 1] []
(.seq (s [mV 5 0, nK 6 5, fA 7 2 6, lD 8 1 7, mV 9 1, o 10 (b .gtr (t 8) (t 9)), mV 11 10, w 12 11 (.mov (t 0)), w 13 11 (.nck (t 12)), w 14 11 (.fad 0 (t 13)), w 15 11 (.ld 1 false (t 14)), w 16 11 (.len false (t 15)), w 17 11 (b .gtr (t 16) (k 0)), o 18 (.pick (t 11) (t 17) (.k (.bo false)))]
(.cond (t 18)
.skip
(.exit 0)))
(.blk 1 (s [mV 19 0, nK 20 19, fA 21 0 20, lD 22 1 21, lN 23 false 22, o 24 (b .sub (t 23) (k 1)), mV 4 24]
(.seq (.reg true [
mV 25 0, nK 26 25, fA 27 2 26, lD 28 1 27, mV 29 0, nK 30 29, fA 31 0 30, lD 32 1 31, mV 33 4, o 34 (.ias 2 (t 32) (t 33)), lQ 35 2 34, cP 36 105 [t 35], o 37 (b .sub (t 28) (t 36)), nK 38 25, fA 39 2 38, sO 1 39 37] [])
(r [mV 40 0, mV 41 0, nK 42 41, fA 43 0 42, lD 44 1 43, mV 45 4, o 46 (.slc false 2 (t 44) none (some (t 45))), nK 47 40, fA 48 0 47, sO 1 48 46])))))))⟩
def c197 : Ev.Fn := d197.den
def p197 : Pol := { P0 .rw with mask := [(0, [0, 1], [])] }
theorem r197 : FnOK Tryz.prog mds 197 c197 := .read (pol := p197) (d := d197) Tryz.func197 (by kernel_rfl) (by kernel_rfl) rfl rfl (by kernel_rfl)

def d199 : DFn := ⟨[(.g [.one, .one, .one, (.sl [.one])])], [(.c .one), (.c (.sl [.one])), (.c .one)], .pure, [.tmp 2, .tmp 3, .tmp 4],
(s [o 1 (.box (t 0)), mK 2 (.it .i64 0), mK 3 .ns, mK 4 (.bo false)]
(.seq (.seq (.reg false [
fA 5 1 1, lD 6 1 5, o 7 (b .and (t 6) (k 8)), o 8 (b .eql (t 7) (k 0))] [5])
(.cond (t 8)
(.seq (.reg true [
fA 9 3 1, lD 10 1 9, mK 2 (.it .i64 0), mV 3 10, mK 4 (.bo true)] [9])
.ret)
.skip))
(.seq (.seq (.reg false [
fA 11 3 1, lD 12 1 11, lN 13 false 12, o 14 (b .eql (t 13) (k 0))] [11])
(.cond (t 14)
(.seq (.reg false [
mK 2 (.it .i64 0), mK 3 .ns, mK 4 (.bo false)] [])
.ret)
.skip))
(.seq (.reg true [
fA 15 3 1, lD 16 1 15, o 17 (.ias 1 (t 16) (k 0)), lD 18 1 17, cV 19 .i64 18, fA 20 3 1, lD 21 1 20, o 22 (.slc false 1 (t 21) (some (k 1)) none), mV 2 19, mV 3 22, mK 4 (.bo true)] [15, 20])
.ret))))⟩
def c199 : Ev.Fn := d199.den
def p199 : Pol := { P0 .pure with loc := [1], ord := [(0, [1, 2, 3, 0])], clr := [(1, [5]), (2, [9]), (3, [11]), (5, [15, 20])] }
theorem r199 : FnOK Tryz.prog mds 199 c199 := .read (pol := p199) (d := d199) Tryz.func199 (by kernel_rfl) (by kernel_rfl) rfl rfl (by kernel_rfl)

def d201 : DFn := ⟨[(.g [.one, .one])], [(.c .one)], .pure, [.tmp 2],
(s [o 1 (.box (t 0)), mK 2 (.it .i64 0)]
(.seq (.blk 0 (.seq (.reg false [
fA 4 0 1, lD 5 1 4, o 6 (b .eql (t 5) (k 2)), mV 7 6, w 8 7 (.fad 1 (t 1)), w 9 7 (.ld 1 false (t 8)), w 10 7 (.call false .pure 243 [t 9, (k 0), (k 1)]), w 11 7 (.un .not (t 10)), o 12 (.pick (t 7) (t 11) (.k (.bo false))), mV 3 12] [4, 8])
(.cond (t 3)
(.seq (.reg false [
mK 2 (.it .i64 1)] [])
.ret)
(.seq (.reg false [
fA 14 0 1, lD 15 1 14, o 16 (b .eql (t 15) (k 4)), mV 17 16, w 18 17 (.fad 1 (t 1)), w 19 17 (.ld 1 false (t 18)), w 20 17 (.call false .pure 243 [t 19, (k 0), (k 2147483647)]), w 21 17 (.un .not (t 20)), o 22 (.pick (t 17) (t 21) (.k (.bo false))), mV 13 22] [14, 18])
(.cond (t 13)
(.seq (.reg false [
mK 2 (.it .i64 3)] [])
.ret)
(.seq (.reg false [
fA 24 0 1, lD 25 1 24, o 26 (b .eql (t 25) (k 5)), mV 27 26, w 28 27 (.fad 1 (t 1)), w 29 27 (.ld 1 false (t 28)), w 30 27 (.call false .pure 243 [t 29, (k 16384), (k 16777215)]), w 31 27 (.un .not (t 30)), o 32 (.pick (t 27) (t 31) (.k (.bo false))), mV 23 32] [24, 28])
(.cond (t 23)
(.seq (.reg false [
mK 2 (.it .i64 1)] [])
.ret)
.skip)))))))
(s [mK 2 (.it .i64 0)]
.ret)))⟩
def c201 : Ev.Fn := d201.den
def p201 : Pol := { P0 .pure with loc := [1], ord := [(0, [1, 0])], clr := [(1, [4, 8]), (3, [14, 18]), (5, [24, 28])] }
theorem r201 : FnOK Tryz.prog mds 201 c201 := .read (pol := p201) (d := d201) Tryz.func201 (by kernel_rfl) (by kernel_rfl) rfl rfl (by kernel_rfl)

def d202 : DFn := ⟨[(.c (.sl [.one])), (.c .one)], [(.c .one)], .pure, [.tmp 4],
(s [mK 4 (.bo false)]
(s [mV 5 0, mV 6 1, cP 7 244 [t 5, t 6], o 8 (b .geq (t 7) (k 0)), mV 4 8]
.ret))⟩
def c202 : Ev.Fn := d202.den
def p202 : Pol := P0 .pure
theorem r202 : FnOK Tryz.prog mds 202 c202 := .read (pol := p202) (d := d202) Tryz.func202 (by kernel_rfl) (by kernel_rfl) rfl rfl (by kernel_rfl)

def d203 : DFn := ⟨[(.c .one), (.c .one), (.c .one)], [(.c .one)], .rw, [.tmp 6],
(s [mK 6 (.bo false)]
(.seq (s [mV 8 2, o 9 (b .eql (t 8) (k 0))]
(.cond (t 9)
(s [mK 6 (.bo true)]
.ret)
.skip))
(.seq (s [mV 10 0, mV 11 1, cR 12 61 [t 10, t 11], mV 7 12]
(s [mV 13 7, o 14 (.bin .ptr .neq (t 13) (.k .np)), mV 15 14, w 16 15 (.mov (t 7)), w 17 15 (.call false .rw 245 [t 16]), o 18 (.pick (t 15) (t 17) (.k (.bo false)))]
(.cond (t 18)
(.seq (s [mV 19 0, mV 20 1, mV 21 2, cP 22 113 [t 21], o 23 (.bld [(.it .i64 0), (.it .i64 0), (.it .i64 0), .ns] [(0, 1, (k 8)), (2, 1, (t 20)), (3, 1, (t 22))]), cR 24 165 [t 19, t 23], o 25 (.un .not (t 24))]
(.cond (t 25)
(s [mK 6 (.bo false)]
.ret)
.skip))
(r [mV 27 7, mV 28 7, nK 29 28, fA 30 3 29, lQ 31 1 30, mV 32 2, o 33 (.call true .pure 212 [t 31, t 32]), mV 26 33, eX 34 26 0, eX 35 26 1, nK 36 27, fA 37 3 36, sO 1 37 34]))
.skip)))
(.seq (s [mV 38 0, mV 39 2, cP 40 113 [t 39], o 41 (.bld [(.it .i64 0), (.it .i64 0), (.it .i64 0), .ns] [(0, 1, (k 8)), (3, 1, (t 40))]), cR 42 165 [t 38, t 41], o 43 (.un .not (t 42))]
(.cond (t 43)
(s [mK 6 (.bo false)]
.ret)
.skip))
(s [mV 45 0, mV 46 0, nK 47 46, fA 48 14 47, lQ 49 1 48, mV 50 2, o 51 (.call true .pure 212 [t 49, t 50]), mV 44 51, eX 52 44 0, eX 53 44 1, nK 54 45, fA 55 14 54, sO 1 55 52]
(s [mK 6 (.bo true)]
.ret))))))⟩
def c203 : Ev.Fn := d203.den
def p203 : Pol := { P0 .rw with heap := [33, 51], own := [33, 51] }
theorem r203 : FnOK Tryz.prog mds 203 c203 := .read (pol := p203) (d := d203) Tryz.func203 (by kernel_rfl) (by kernel_rfl) rfl rfl (by kernel_rfl)

def d204 : DFn := ⟨[(.c .one), (.c .one)], [(.c .one)], .rw, [.tmp 4],
(s [mK 4 (.it .i64 0)]
(.seq (.blk 0 (s [mV 6 0, o 7 (.bin .ptr .eql (t 6) (.k .np)), mV 8 7, x 9 8 (.mov (t 0)), x 10 8 (.call false .rw 245 [t 9]), x 11 8 (.un .not (t 10)), o 12 (.pick (t 8) (.k (.bo true)) (t 11)), mV 5 12]
(.cond (t 5)
(s [mK 4 (.it .i64 5)]
.ret)
(s [mV 14 0, nK 15 14, fA 16 4 15, lD 17 1 16, o 18 (.un .not (t 17)), mV 13 18]
(.cond (t 13)
(s [mK 4 (.it .i64 1)]
.ret)
(s [mV 20 1, mV 21 0, nK 22 21, fA 23 3 22, lQ 24 1 23, cP 25 246 [t 24], o 26 (b .gtr (t 20) (t 25)), mV 19 26]
(.cond (t 19)
(s [mK 4 (.it .i64 3)]
.ret)
.skip)))))))
(s [mK 4 (.it .i64 0)]
.ret)))⟩
def c204 : Ev.Fn := d204.den
def p204 : Pol := P0 .rw
theorem r204 : FnOK Tryz.prog mds 204 c204 := .read (pol := p204) (d := d204) Tryz.func204 (by kernel_rfl) (by kernel_rfl) rfl rfl (by kernel_rfl)

def d205 : DFn := ⟨[(.c .one), (.c (.sl [.one]))], [(.c (.sl [.one, .one, .one])), (.c .one)], .rw, [.tmp 4, .tmp 5],
(s [o 3 (.bxh (t 1)), mK 4 .ns, mK 5 (.it .i64 0)]
(.seq (s [mV 9 0, nK 10 9, fA 11 3 10, lD 12 1 11]
(.cond (t 12)
(s [mK 4 .ns, mK 5 (.it .i64 1)]
.ret)
.skip))
(s [mV 13 0, lD 14 1 3, o 15 (.bld [.np, .ns, (.it .i64 0), .ns, (.it .i64 0), (.it .i64 0)] [(0, 1, (t 13)), (1, 1, (t 14))]), o 16 (.bxh (t 15)), o 6 (.alh [.np]), sO 1 6 16]
(s [o 18 (.mkf 248 [] [t 6, t 3]), cR 19 247 [t 18], mV 17 19, eX 20 17 0, eX 21 17 1, o 7 (.alc [(.it .i64 0), (.it .i64 0)]), sO 2 7 20, mV 8 21]
(.seq (s [mV 22 8]
(.cond (t 22)
(s [mV 23 0, nK 24 23, fA 25 3 24, n (.sto 1 (t 25) (.k (.bo true)))]
(.seq (.reg true [
fA 26 0 7, lD 27 1 26, mK 4 .ns, mV 5 27] [26])
.ret))
.skip))
(s [lD 28 1 6, nK 29 28, fA 30 3 29, lD 31 1 30, mV 4 31, mK 5 (.it .i64 0)]
.ret))))))⟩
def c205 : Ev.Fn := d205.den
def p205 : Pol := { P0 .rw with loc := [7], ord := [(0, [1, 2, 0]), (4, [0, 5, 1, 2, 3, 4, 6, 7])], clr := [(7, [26])], fns := [248] }
theorem r205 : FnOK Tryz.prog mds 205 c205 := .read (pol := p205) (d := d205) Tryz.func205 (by kernel_rfl) (by kernel_rfl) rfl rfl (by kernel_rfl)

def d206 : DFn := ⟨[(.c .one), (.c .one)], [(.c .one)], .rw, [.tmp 4],
(s [mK 4 .np]
(.seq (s [mV 6 0, mV 7 1, cR 8 158 [t 6, t 7]]
(.cond (t 8)
(s [mV 9 0, mV 10 1, cR 11 250 [t 9, t 10], mV 4 11]
.ret)
.skip))
(s [mV 12 0, mV 13 1, cR 14 61 [t 12, t 13], mV 5 14]
(.seq (s [mV 15 5, o 16 (.bin .ptr .eql (t 15) (.k .np)), mV 17 16, w 18 17 (.mov (t 0)), w 19 17 (.mov (t 1)), w 20 17 (.call false .rw 159 [t 18, t 19]), w 21 17 (.un .not (t 20)), o 22 (.pick (t 17) (t 21) (.k (.bo false)))]
(.cond (t 22)
(r [mV 23 0, mV 24 1, cR 25 160 [t 23, t 24, (k 5)]])
.skip))
(s [mV 26 5, mV 4 26]
.ret)))))⟩
def c206 : Ev.Fn := d206.den
def p206 : Pol := P0 .rw
theorem r206 : FnOK Tryz.prog mds 206 c206 := .read (pol := p206) (d := d206) Tryz.func206 (by kernel_rfl) (by kernel_rfl) rfl rfl (by kernel_rfl)

def d207 : DFn := ⟨[(.c .one), (.c .one), (.c (.sl [.one, .one])), (.c .one)], [], .rw, [],
(.seq (s [mV 9 1, nK 10 9, fA 11 1 10, lD 12 1 11, o 13 (b .neq (t 12) (k 0)), mV 14 13, w 15 14 (.mov (t 1)), w 16 14 (.call false .rw 245 [t 15]), w 17 14 (.un .not (t 16)), o 18 (.pick (t 14) (t 17) (.k (.bo false)))]
(.cond (t 18)
(s [mV 19 0, mV 20 1, nK 21 20, fA 22 0 21, lD 23 1 22, cR 24 160 [t 19, t 23, (k 5)]]
.ret)
.skip))
(.seq (s [mV 25 1, nK 26 25, fA 27 4 26, lD 28 1 27, mV 29 28, w 30 29 (.mov (t 3)), w 31 29 (.un .not (t 30)), o 32 (.pick (t 29) (t 31) (.k (.bo false)))]
(.cond (t 32)
(s [mV 33 0, mV 34 1, nK 35 34, fA 36 0 35, lD 37 1 36, cR 38 160 [t 33, t 37, (k 1)]]
.ret)
.skip))
(s [mK 8 (.it .i64 1)]
(.seq (s [mV 39 1, nK 40 39, fA 41 4 40, lD 42 1 41]
(.cond (t 42)
(r [mK 8 (.it .i64 2)])
.skip))
(s [mV 43 0, mV 44 8, mV 45 1, nK 46 45, fA 47 0 46, lD 48 1 47, mV 49 2, mV 50 3, o 51 (.bld [(.it .i64 0), (.it .i64 0), .ns, (.st []), (.bo false), (.it .i64 0)] [(0, 1, (t 44)), (1, 1, (t 48)), (2, 1, (t 49)), (4, 1, (t 50))]), cR 52 114 [t 43, t 51]]
(.seq (s [mV 53 0, nK 54 53, fA 55 0 54, lD 56 1 55, mV 57 56, x 58 57 (.mov (t 3)), o 59 (.pick (t 57) (.k (.bo true)) (t 58)), mV 60 59, x 61 60 (.mov (t 2)), x 62 60 (.call false .pure 251 [t 61]), x 63 60 (.un .not (t 62)), o 64 (.pick (t 60) (.k (.bo true)) (t 63))]
(.cond (t 64)
(r [mV 65 1, nK 66 65, fA 67 4 66, n (.sto 1 (t 67) (.k (.bo true)))])
.skip))
(r [mV 68 0, mV 69 1, mV 70 3, cP 71 107 [t 70], cR 72 65 [t 68, t 69, t 71]])))))))⟩
def c207 : Ev.Fn := d207.den
def p207 : Pol := P0 .rw
theorem r207 : FnOK Tryz.prog mds 207 c207 := .read (pol := p207) (d := d207) Tryz.func207 (by kernel_rfl) (by kernel_rfl) rfl rfl (by kernel_rfl)

def d208 : DFn := ⟨[(.g [.one, .one, .one, .one, .one]), (.c (.sl [.one, .one]))], [(.g [.one, .one, .one, .one, .one]), (.c .one)], .pure, [.cell 4 5 true, .tmp 5],
(s [o 2 (.box (t 0)), o 4 (.alc [(.it .i64 0), (.it .i64 0), (.it .i64 0), (.it .i64 0), (.it .i64 0)]), mK 5 (.it .i64 0)]
(s [lQ 11 5 2, o 6 (.alc [(.it .i64 0), (.it .i64 0), (.it .i64 0), (.it .i64 0), (.it .i64 0)]), sO 5 6 11]
(.seq (s [mV 12 1, lN 13 false 12, mK 14 (.it .i64 0)]
(.blk 0 (.loop [2, 4, 6, 12, 13, 14] [8]
(s [o 15 (b .lss (t 14) (t 13))]
(.seq (.cond (t 15)
.skip
(.exit 0))
(.seq (.blk 1 (s [o 16 (.ias 2 (t 12) (t 14)), lQ 17 2 16, o 8 (.alc [(.it .i64 0), (.it .i64 0)]), sO 2 8 17]
(.seq (s [lQ 18 2 8, cP 19 201 [t 18], mV 9 19]
(s [mV 20 9, o 21 (b .neq (t 20) (k 0))]
(.cond (t 21)
(s [lQ 22 5 2, mV 23 9, sO 5 4 22, mV 5 23]
.ret)
.skip)))
(.seq (.reg false [
fA 24 1 8, lD 25 1 24, o 26 (.mnx true (t 25) (k 0)), o 27 (.mnx false (t 26) (k 2147483647)), mV 10 27] [24])
(.seq (.reg false [
fA 28 0 8, lD 29 1 28] [28])
(.blk 2 (.seq (.reg false [
o 31 (b .eql (t 29) (k 1)), mV 30 31] [])
(.cond (t 30)
(.reg false [
mV 32 10, fA 33 0 6, sO 1 33 32] [33])
(s [o 35 (b .eql (t 29) (k 3)), mV 34 35]
(.cond (t 34)
(.reg false [
mV 36 10, fA 37 1 6, sO 1 37 36] [37])
(s [o 39 (b .eql (t 29) (k 4)), mV 38 39]
(.cond (t 38)
(.reg false [
mV 40 10, fA 41 2 6, sO 1 41 40] [41])
(s [o 43 (b .eql (t 29) (k 5)), mV 42 43]
(.cond (t 42)
(.reg false [
mV 44 10, fA 45 3 6, sO 1 45 44] [45])
(s [o 47 (b .eql (t 29) (k 6)), mV 46 47]
(.cond (t 46)
(.reg false [
mV 48 10, fA 49 4 6, sO 1 49 48] [49])
.skip))))))))))))))))
(.reg false [
o 50 (b .add (t 14) (k 1)), mV 14 50] [])))))))
(s [lQ 51 5 6, sO 5 4 51, mK 5 (.it .i64 0)]
.ret))))⟩
def c208 : Ev.Fn := d208.den
def p208 : Pol := { P0 .pure with loc := [2, 4, 6, 8], ord := [(0, [2, 0, 1])], clr := [(8, [24]), (9, [28]), (11, [33]), (13, [37]), (15, [41]), (17, [45]), (19, [49])], mask := [(3, [2, 4, 6, 12, 13, 14], [8])] }
theorem r208 : FnOK Tryz.prog mds 208 c208 := .read (pol := p208) (d := d208) Tryz.func208 (by kernel_rfl) (by kernel_rfl) rfl rfl (by kernel_rfl)

def d211 : DFn := ⟨[(.g [.one]), (.c .one), (.c .one)], [(.g [.one]), (.c .one)], .pure, [.cell 6 1 true, .tmp 7],
(s [o 3 (.box (t 0)), o 6 (.alc [(.it .i64 0)]), mK 7 (.bo false)]
(.seq (s [mV 9 1, cP 10 90 [t 9], o 11 (.un .not (t 10)), mV 12 11, x 13 12 (.mov (t 2)), x 14 12 (.call false .pure 90 [t 13]), x 15 12 (.un .not (t 14)), o 16 (.pick (t 12) (.k (.bo true)) (t 15))]
(.cond (t 16)
(s [lQ 17 1 3, sO 1 6 17, mK 7 (.bo false)]
.ret)
.skip))
(.seq (.reg false [
fA 18 0 3, lD 19 1 18, mV 20 2, o 21 (b .add (t 19) (t 20)), mV 22 1, o 23 (b .sub (t 21) (t 22)), mV 8 23] [18])
(.seq (.seq (.reg false [
mV 24 8, o 25 (b .gtr (t 24) (k 2147483647)), mV 26 25, x 27 26 (.mov (t 8)), x 28 26 (b .lss (t 27) (.k (.it .i64 (-2147483647)))), o 29 (.pick (t 26) (.k (.bo true)) (t 28))] [])
(.cond (t 29)
(s [lQ 30 1 3, sO 1 6 30, mK 7 (.bo false)]
.ret)
.skip))
(s [mV 31 8, o 32 (.bld [(.it .i64 0)] [(0, 1, (t 31))]), sO 1 6 32, mK 7 (.bo true)]
.ret)))))⟩
def c211 : Ev.Fn := d211.den
def p211 : Pol := { P0 .pure with loc := [3, 6], ord := [(0, [2, 0, 1])], clr := [(3, [18])] }
theorem r211 : FnOK Tryz.prog mds 211 c211 := .read (pol := p211) (d := d211) Tryz.func211 (by kernel_rfl) (by kernel_rfl) rfl rfl (by kernel_rfl)

def d212 : DFn := ⟨[(.g [.one]), (.c .one)], [(.g [.one]), (.c .one)], .pure, [.cell 4 1 true, .tmp 5],
(s [o 2 (.box (t 0)), o 4 (.alc [(.it .i64 0)]), mK 5 (.bo false)]
(.seq (.seq (.reg false [
mV 6 1, cP 7 90 [t 6], o 8 (.un .not (t 7)), mV 9 8, x 10 9 (.mov (t 1)), x 11 9 (.fad 0 (t 2)), x 12 9 (.ld 1 false (t 11)), x 13 9 (b .sub (k 2147483647) (t 12)), x 14 9 (b .gtr (t 10) (t 13)), o 15 (.pick (t 9) (.k (.bo true)) (t 14))] [11])
(.cond (t 15)
(.seq (.reg false [
lQ 16 1 2, sO 1 4 16, mK 5 (.bo false)] [])
.ret)
.skip))
(.seq (.reg false [
fA 17 0 2, lD 18 1 17, mV 19 1, o 20 (b .add (t 18) (t 19)), o 21 (.bld [(.it .i64 0)] [(0, 1, (t 20))]), sO 1 4 21, mK 5 (.bo true)] [17])
.ret)))⟩
def c212 : Ev.Fn := d212.den
def p212 : Pol := { P0 .pure with loc := [2, 4], ord := [(0, [2, 0, 1])], clr := [(1, [11]), (3, [17])] }
theorem r212 : FnOK Tryz.prog mds 212 c212 := .read (pol := p212) (d := d212) Tryz.func212 (by kernel_rfl) (by kernel_rfl) rfl rfl (by kernel_rfl)

def d213 : DFn := ⟨[(.c (.sl [.one])), (.c .one)], [(.c .one)], .rw, [.tmp 4],
(.seq (.reg false [
mK 4 (.it .i64 0)] [])
(.seq (s [mV 6 0, lN 7 false 6, mK 8 (.it .i64 0)]
(.blk 0 (.loop [0, 1, 7, 8] []
(s [o 9 (b .lss (t 8) (t 7))]
(.seq (.cond (t 9)
.skip
(.exit 0))
(.seq (.blk 1 (s [mV 10 8, mV 5 10]
(s [mV 11 1, mV 12 0, mV 13 5, o 14 (.ias 1 (t 12) (t 13)), lD 15 1 14, o 16 (.calv [] (t 11) [t 15])]
(.cond (t 16)
(s [mV 17 5, mV 4 17]
.ret)
.skip))))
(r [o 18 (b .add (t 8) (k 1)), mV 8 18])))))))
(s [mK 4 (.it .i64 (-1))]
.ret)))⟩
def c213 : Ev.Fn := d213.den
def p213 : Pol := { P0 .rw with mask := [(2, [0, 1, 7, 8], [])] }
theorem r213 : FnOK Tryz.prog mds 213 c213 := .read (pol := p213) (d := d213) Tryz.func213 (by kernel_rfl) (by kernel_rfl) rfl rfl (by kernel_rfl)

def d217 : DFn := ⟨[(.c .one), (.c .one), (.c .one), (.c .one)], [(.c (.sl [.one]))], .pure, [.tmp 8],
(s [mK 8 .ns]
(.seq (s [mV 12 3, o 13 (b .eql (t 12) (k 0))]
(.cond (t 13)
(s [mK 8 .ns]
.ret)
.skip))
(.seq (s [mV 14 1, o 15 (b .eql (t 14) (.k (.st [])))]
(.cond (t 15)
(s [mV 16 0, mV 17 3, cP 18 260 [t 16, t 17], mV 8 18]
.ret)
.skip))
(.seq (s [mV 19 3, o 20 (b .lss (t 19) (k 0))]
(.cond (t 20)
(r [mV 21 0, mV 22 1, cP 23 261 [t 21, t 22], o 24 (b .add (t 23) (k 1)), mV 3 24])
.skip))
(s [mV 25 3, mV 26 0, lN 27 true 26, o 28 (b .add (t 27) (k 1)), o 29 (.mnx false (t 25) (t 28)), mV 3 29]
(s [mV 30 3, o 31 (.mks 1 16 [(.st [])] (t 30) (t 30)), mV 9 31]
(s [mV 32 3, o 33 (b .sub (t 32) (k 1)), mV 3 33]
(s [mK 10 (.it .i64 0)]
(.seq (.blk 0 (.loop [0, 1, 2, 3, 9, 10] []
(.seq (s [mV 34 10, mV 35 3, o 36 (b .lss (t 34) (t 35))]
(.cond (t 36)
.skip
(.exit 0)))
(.blk 1 (s [mV 37 0, mV 38 1, cP 39 262 [t 37, t 38], mV 11 39]
(.seq (s [mV 40 11, o 41 (b .lss (t 40) (k 0))]
(.cond (t 41)
(.exit 0)
.skip))
(s [mV 42 9, mV 43 10, mV 44 0, mV 45 11, mV 46 2, o 47 (b .add (t 45) (t 46)), o 48 (.slc true 0 (t 44) none (some (t 47))), o 49 (.ias 1 (t 42) (t 43)), sO 1 49 48]
(s [mV 50 0, mV 51 11, mV 52 1, lN 53 true 52, o 54 (b .add (t 51) (t 53)), o 55 (.slc true 0 (t 50) (some (t 54)) none), mV 0 55]
(r [mV 56 10, o 57 (b .add (t 56) (k 1)), mV 10 57])))))))))
(s [mV 58 9, mV 59 10, mV 60 0, o 61 (.ias 1 (t 58) (t 59)), sO 1 61 60]
(s [mV 62 9, mV 63 10, o 64 (b .add (t 63) (k 1)), o 65 (.slc false 1 (t 62) none (some (t 64))), mV 8 65]
.ret)))))))))))⟩
def c217 : Ev.Fn := d217.den
def p217 : Pol := { P0 .pure with mask := [(11, [0, 1, 2, 3, 9, 10], [])] }
theorem r217 : FnOK Tryz.prog mds 217 c217 := .read (pol := p217) (d := d217) Tryz.func217 (by kernel_rfl) (by kernel_rfl) rfl rfl (by kernel_rfl)

def d218 : DFn := ⟨[(.c .one), (.c .one)], [(.c .one), (.c .one), (.c .one)], .pure, [.tmp 4, .tmp 5, .tmp 6],
(s [mK 4 (.st []), mK 5 (.st []), mK 6 (.bo false)]
(.seq (s [mV 8 0, mV 9 1, cP 10 263 [t 8, t 9], mV 7 10]
(s [mV 11 7, o 12 (b .geq (t 11) (k 0))]
(.cond (t 12)
(.seq (.reg true [
mV 13 0, mV 14 7, o 15 (.slc true 0 (t 13) none (some (t 14))), mV 16 0, mV 17 7, mV 18 1, lN 19 true 18, o 20 (b .add (t 17) (t 19)), o 21 (.slc true 0 (t 16) (some (t 20)) none), mV 4 15, mV 5 21, mK 6 (.bo true)] [])
.ret)
.skip)))
(s [mV 22 0, mV 4 22, mK 5 (.st []), mK 6 (.bo false)]
.ret)))⟩
def c218 : Ev.Fn := d218.den
def p218 : Pol := P0 .pure
theorem r218 : FnOK Tryz.prog mds 218 c218 := .read (pol := p218) (d := d218) Tryz.func218 (by kernel_rfl) (by kernel_rfl) rfl rfl (by kernel_rfl)

def d219 : DFn := ⟨[(.c (.sl [.one, .one]))], [(.g [.one, .one, .one, .one, (.sl [.one, .one]), .one]), (.c .one)], .pure, [.cell 2 6 true, .tmp 3],
(s [o 2 (.alc [(.st []), (.st []), (.st []), (.st []), .ns, (.it .i64 0)]), mK 3 (.bo false)]
(s [mK 4 (.it .i64 0)]
(.seq (.blk 0 (.loop [0, 2, 4] []
(.seq (s [mV 9 4, mV 10 0, lN 11 false 10, o 12 (b .lss (t 9) (t 11)), mV 13 12, w 14 13 (.mov (t 0)), w 15 13 (.mov (t 4)), w 16 13 (.ias 2 (t 14) (t 15)), w 17 13 (.ld 2 true (t 16)), w 18 13 (.call false .pure 264 [t 17]), o 19 (.pick (t 13) (t 18) (.k (.bo false)))]
(.cond (t 19)
.skip
(.exit 0)))
(.blk 1 (r [mV 20 4, o 21 (b .add (t 20) (k 1)), mV 4 21])))))
(s [o 5 (.alh [(.st []), (.st []), (.st []), (.st []), .ns, (.it .i64 0)])]
(.seq (s [mV 22 0, mV 23 4, o 24 (.slc false 2 (t 22) none (some (t 23))), cR 25 265 [t 24, t 5], o 26 (.un .not (t 25)), mV 27 26, x 28 27 (.ld 6 true (t 5)), x 29 27 (.call false .pure 266 [t 28]), x 30 27 (.un .not (t 29)), o 31 (.pick (t 27) (.k (.bo true)) (t 30))]
(.cond (t 31)
(s [o 32 (.bld [(.st []), (.st []), (.st []), (.st []), .ns, (.it .i64 0)] []), sO 6 2 32, mK 3 (.bo false)]
.ret)
.skip))
(s [mV 34 0, mV 35 4, o 36 (.slc false 2 (t 34) (some (t 35)) none), o 37 (.call true .pure 267 [t 36]), mV 33 37, eX 38 33 0, eX 39 33 1, eX 40 33 2, mV 6 38, mV 7 39, mV 8 40]
(.seq (s [mV 41 8, o 42 (.un .not (t 41))]
(.cond (t 42)
(s [o 43 (.bld [(.st []), (.st []), (.st []), (.st []), .ns, (.it .i64 0)] []), sO 6 2 43, mK 3 (.bo false)]
.ret)
.skip))
(s [mV 44 6, mV 45 7, fA 46 4 5, sO 1 46 44, fA 47 5 5, sO 1 47 45]
(s [lQ 48 6 5, sO 6 2 48, mK 3 (.bo true)]
.ret)))))))))⟩
def c219 : Ev.Fn := d219.den
def p219 : Pol := { P0 .pure with loc := [2], heap := [37], own := [37], ord := [(0, [1, 0])], mask := [(2, [0, 2, 4], [])] }
theorem r219 : FnOK Tryz.prog mds 219 c219 := .read (pol := p219) (d := d219) Tryz.func219 (by kernel_rfl) (by kernel_rfl) rfl rfl (by kernel_rfl)

def d220 : DFn := ⟨[(.c .one), (.c .one)], [], .rw, [],
(s [mV 9 1, mV 10 1, nK 11 10, fA 12 2 11, lQ 13 6 12, nK 14 9, fA 15 14 14, sO 6 15 13]
(.seq (s [mV 16 1, cR 17 268 [t 16], o 18 (.un .not (t 17))]
(.cond (t 18)
(s [mV 19 1, nK 20 19, fA 21 11 20, n (.sto 1 (t 21) (.k (.bo true)))]
.ret)
.skip))
(.seq (.reg true [
mV 23 0, nK 24 23, fA 25 23 24, lD 26 1 25, mV 27 1, nK 28 27, fA 29 2 28, lQ 30 6 29, u 4 [25, 29] (.alc [(.st []), (.st []), (.st []), (.st []), .ns, (.it .i64 0), (.it .i64 0), .ns, (.it .i64 0), (.st []), (.it .i64 0), (.it .i64 0)]), cR 31 269 [t 26, t 30], mV 22 31, eX 32 22 0, eX 33 22 1, sO 12 4 32, mV 5 33] [])
(.seq (s [mV 34 5, o 35 (.un .not (t 34))]
(.cond (t 35)
(.seq (s [mV 36 1, nK 37 36, fA 38 2 37, lQ 39 6 38, cP 40 270 [t 39], o 41 (b .eql (t 40) (k 4))]
(.cond (t 41)
(r [mV 42 1, cR 43 187 [t 42, (k 504)]])
(s [mV 44 0, mV 45 1, o 46 (.call true .rw 271 [t 44, t 45]), mV 6 46]
(s [mV 47 6, o 48 (.bin .ptr .neq (t 47) (.k .np))]
(.cond (t 48)
(r [mV 49 1, mV 50 6, nK 51 49, fA 52 12 51, sO 1 52 50])
(r [mV 53 1, nK 54 53, fA 55 11 54, n (.sto 1 (t 55) (.k (.bo true)))]))))))
.ret)
.skip))
(.seq (.reg true [
lQ 56 12 4, mV 57 1, nK 58 57, fA 59 2 58, lQ 60 6 59, mV 61 0, nK 62 61, fA 63 24 62, lD 64 1 63, mV 65 0, nK 66 65, fA 67 0 66, fA 68 1 67, lD 69 1 68, cP 70 272 [t 56, t 60, t 64, t 69]] [])
(.blk 0 (s [o 92 (b .eql (t 70) (k 1)), mV 91 92]
(.cond (t 91)
(r [mV 93 0, mV 94 1, lQ 95 12 4, cR 96 224 [t 93, t 94, t 95]])
(s [o 98 (b .eql (t 70) (k 4)), mV 97 98]
(.cond (t 97)
(r [mV 99 1, cR 100 187 [t 99, (k 504)]])
(s [mV 71 1, nK 72 71, fA 73 11 72, n (.sto 1 (t 73) (.k (.bo true)))]
(.seq (.reg true [
lQ 75 12 4, mV 76 1, nK 77 76, fA 78 2 77, lQ 79 6 78, u 7 [4, 78] (.alc [(.st []), (.st []), (.st []), (.st []), .ns, (.it .i64 0)]), cP 80 273 [t 75, t 79], mV 74 80, eX 81 74 0, eX 82 74 1, sO 6 7 81, mV 8 82] [])
(s [mV 83 8]
(.cond (t 83)
(r [mV 84 1, mV 85 1, lQ 86 6 7, nK 87 84, fA 88 14 87, sO 6 88 86, nK 89 85, fA 90 13 89, n (.stp (t 90) (t 4))])
.skip))))))))))))))⟩
def c220 : Ev.Fn := d220.den
def p220 : Pol := { P0 .rw with loc := [4, 7], heap := [46], own := [46], ord := [(3, [0, 1, 2, 3, 4, 5, 6, 7, 12, 8, 9, 10, 11, 13, 14]), (13, [0, 1, 2, 3, 4, 9, 5, 6, 7, 8, 10, 11])], pro := [4] }
theorem r220 : FnOK Tryz.prog mds 220 c220 := .read (pol := p220) (d := d220) Tryz.func220 (by kernel_rfl) (by kernel_rfl) rfl rfl (by kernel_rfl)

def d221 : DFn := ⟨[(.c (.sl [.one, .one]))], [(.g [.one, (.sl [.one, .one]), .one]), (.c .one)], .pure, [.cell 2 3 true, .tmp 3],
(s [o 2 (.alc [(.it .i64 0), .ns, (.it .i64 0)]), mK 3 (.bo false)]
(.seq (s [mV 8 0, lN 9 false 8, o 10 (b .eql (t 9) (k 0)), mV 11 10, x 12 11 (.mov (t 0)), x 13 11 (.ias 2 (t 12) (k 0)), x 14 11 (.fad 0 (t 13)), x 15 11 (.ld 1 false (t 14)), x 16 11 (b .neq (t 15) (.k (.st [58, 115, 116, 97, 116, 117, 115]))), o 17 (.pick (t 11) (.k (.bo true)) (t 16)), mV 18 17, x 19 18 (.mov (t 0)), x 20 18 (.ias 2 (t 19) (k 0)), x 21 18 (.fad 1 (t 20)), x 22 18 (.ld 1 false (t 21)), x 23 18 (.len true (t 22)), x 24 18 (b .neq (t 23) (k 3)), o 25 (.pick (t 18) (.k (.bo true)) (t 24))]
(.cond (t 25)
(s [o 26 (.bld [(.it .i64 0), .ns, (.it .i64 0)] []), sO 3 2 26, mK 3 (.bo false)]
.ret)
.skip))
(s [mV 27 0, o 28 (.ias 2 (t 27) (k 0)), fA 29 1 28, lD 30 1 29, cP 31 274 [t 30], mV 4 31]
(.seq (s [mV 32 4, o 33 (b .lss (t 32) (k 100)), mV 34 33, x 35 34 (.mov (t 4)), x 36 34 (b .gtr (t 35) (k 599)), o 37 (.pick (t 34) (.k (.bo true)) (t 36)), mV 38 37, x 39 38 (.mov (t 4)), x 40 38 (b .eql (t 39) (k 101)), o 41 (.pick (t 38) (.k (.bo true)) (t 40))]
(.cond (t 41)
(s [o 42 (.bld [(.it .i64 0), .ns, (.it .i64 0)] []), sO 3 2 42, mK 3 (.bo false)]
.ret)
.skip))
(s [mV 44 0, o 45 (.slc false 2 (t 44) (some (k 1)) none), cP 46 267 [t 45], mV 43 46, eX 47 43 0, eX 48 43 1, eX 49 43 2, mV 5 47, mV 6 48, mV 7 49]
(.seq (s [mV 50 7, o 51 (.un .not (t 50))]
(.cond (t 51)
(s [o 52 (.bld [(.it .i64 0), .ns, (.it .i64 0)] []), sO 3 2 52, mK 3 (.bo false)]
.ret)
.skip))
(s [mV 53 4, mV 54 5, mV 55 6, o 56 (.bld [(.it .i64 0), .ns, (.it .i64 0)] [(0, 1, (t 53)), (1, 1, (t 54)), (2, 1, (t 55))]), sO 3 2 56, mK 3 (.bo true)]
.ret)))))))⟩
def c221 : Ev.Fn := d221.den
def p221 : Pol := { P0 .pure with loc := [2], ord := [(0, [1, 0])] }
theorem r221 : FnOK Tryz.prog mds 221 c221 := .read (pol := p221) (d := d221) Tryz.func221 (by kernel_rfl) (by kernel_rfl) rfl rfl (by kernel_rfl)

def d223 : DFn := ⟨[(.c .one), (.g [.one, .one, .one, .one, (.sl [.one, .one]), .one, .one, (.sl [.one, .one]), .one, .one, .one, .one])], [(.c .one)], .rw, [.tmp 4],
(s [o 3 (.box (t 1)), mK 4 (.bo false)]
(.seq (s [mV 7 0, nK 8 7, fA 9 0 8, lD 10 1 9, lN 11 false 10, o 12 (b .sub (t 11) (k 1)), mV 5 12]
(.blk 0 (.loop [0, 3, 5] []
(.seq (s [mV 13 5, o 14 (b .geq (t 13) (k 0))]
(.cond (t 14)
.skip
(.exit 0)))
(.seq (.blk 1 (.seq (.reg true [
mV 17 0, nK 18 17, fA 19 0 18, lD 20 1 19, mV 21 5, o 22 (.ias 12 (t 20) (t 21)), lQ 23 12 22, fA 24 0 3, lQ 25 6 24, cP 26 277 [t 23, t 25]] [24])
(.cond (t 26)
(r [mV 27 0, mV 28 5, cR 29 278 [t 27, t 28]])
.skip)))
(r [mV 15 5, o 16 (b .sub (t 15) (k 1)), mV 5 16]))))))
(s [lQ 30 12 3, cP 31 279 [t 30], mV 6 31]
(.seq (s [mV 32 6, mV 33 0, nK 34 33, fA 35 2 34, lD 36 1 35, o 37 (b .gtr (t 32) (t 36))]
(.cond (t 37)
(s [mK 4 (.bo false)]
.ret)
.skip))
(.seq (.blk 2 (.loop [0, 3, 6] []
(.seq (.seq (.reg true [
mV 38 0, nK 39 38, fA 40 1 39, lD 41 1 40, mV 42 0, nK 43 42, fA 44 2 43, lD 45 1 44, mV 46 6, o 47 (b .sub (t 45) (t 46)), o 48 (b .gtr (t 41) (t 47))] [])
(.cond (t 48)
.skip
(.exit 2)))
(.blk 3 (r [mV 49 0, mV 50 0, nK 51 50, fA 52 0 51, lD 53 1 52, lN 54 false 53, o 55 (b .sub (t 54) (k 1)), cR 56 278 [t 49, t 55]])))))
(s [mV 57 0, lQ 58 12 3, cP 59 281 [t 58], cR 60 280 [t 57, t 59]]
(s [mK 4 (.bo true)]
.ret)))))))⟩
def c223 : Ev.Fn := d223.den
def p223 : Pol := { P0 .rw with loc := [3], ord := [(0, [1, 0])], clr := [(4, [24])], mask := [(2, [0, 3, 5], []), (9, [0, 3, 6], [])] }
theorem r223 : FnOK Tryz.prog mds 223 c223 := .read (pol := p223) (d := d223) Tryz.func223 (by kernel_rfl) (by kernel_rfl) rfl rfl (by kernel_rfl)

def d224 : DFn := ⟨[(.c .one), (.c .one), (.g [.one, .one, .one, .one, (.sl [.one, .one]), .one, .one, (.sl [.one, .one]), .one, .one, .one, .one])], [], .rw, [],
(s [o 5 (.box (t 2))]
(.seq (.reg true [
fA 11 6 5, fA 12 0 11, lD 13 1 12, fA 14 9 5, lD 15 1 14, mV 6 13, mV 7 15] [11, 12, 14])
(.seq (.seq (.reg true [
mV 16 6, o 17 (b .eql (t 16) (k 200)), mV 18 17, w 19 18 (.ld 12 true (t 5)), w 20 18 (.mov (t 1)), w 21 18 (.nck (t 20)), w 22 18 (.fad 2 (t 21)), w 23 18 (.ld 6 true (t 22)), w 24 18 (.call false .pure 282 [t 19, t 23]), o 25 (.pick (t 18) (t 24) (.k (.bo false)))] [])
(.cond (t 25)
(r [mK 6 (.it .i64 304)])
.skip))
(s [mV 26 6, cP 27 119 [t 26], o 28 (.bld [(.st []), (.st [])] [(0, 1, (.k (.st [58, 115, 116, 97, 116, 117, 115]))), (1, 1, (t 27))]), o 29 (.bsl 2 [[(.st []), (.st [])]] [(0, (t 28))]), mV 8 29]
(.seq (.seq (.reg false [
fA 30 6 5, fA 31 1 30, lD 32 1 31, lN 33 false 32, mK 34 (.it .i64 0)] [30, 31])
(.blk 0 (.loop [0, 1, 5, 6, 7, 8, 32, 33, 34] [10]
(.seq (.reg false [
o 35 (b .lss (t 34) (t 33))] [])
(.seq (.cond (t 35)
.skip
(.exit 0))
(.seq (.blk 1 (s [o 36 (.ias 2 (t 32) (t 34)), lQ 37 2 36, o 10 (.alc [(.st []), (.st [])]), sO 2 10 37]
(.seq (.seq (.reg false [
fA 38 0 10, lD 39 1 38] [38])
(.blk 2 (.seq (.reg false [
o 41 (b .eql (t 39) (.k (.st [97, 103, 101]))), mV 40 41] [])
(.cond (t 40)
(.exit 1)
(.seq (s [o 43 (b .eql (t 39) (.k (.st [99, 111, 110, 116, 101, 110, 116, 45, 108, 101, 110, 103, 116, 104]))), mV 42 43]
(.cond (t 42)
.skip
(s [o 44 (b .eql (t 39) (.k (.st [99, 111, 110, 116, 101, 110, 116, 45, 116, 121, 112, 101]))), mV 42 44]
(.cond (t 42)
.skip
(r [o 45 (b .eql (t 39) (.k (.st [99, 111, 110, 116, 101, 110, 116, 45, 101, 110, 99, 111, 100, 105, 110, 103]))), mV 42 45])))))
(.cond (t 42)
(s [mV 46 6, o 47 (b .eql (t 46) (k 304))]
(.cond (t 47)
(.exit 1)
.skip))
.skip))))))
(r [mV 48 8, lQ 49 2 10, o 50 (.bsv [.one, .one] 2 [[(.st []), (.st [])]] [(0, (t 49))]), o 51 (.app 2 32 (t 48) (t 50)), mV 8 51]))))
(r [o 52 (b .add (t 34) (k 1)), mV 34 52])))))))
(.seq (s [mV 53 6, o 54 (b .eql (t 53) (k 304))]
(.cond (t 54)
(r [mK 7 (.st [])])
.skip))
(.reg true [
mV 55 1, mV 56 8, lQ 57 12 5, mV 58 0, nK 59 58, fA 60 24 59, lD 61 1 60, mV 68 7, cP 62 283 [t 57, t 61], cP 63 119 [t 62], o 64 (.bld [(.st []), (.st [])] [(0, 1, (.k (.st [97, 103, 101]))), (1, 1, (t 63))]), cP 65 136 [], o 66 (.bsv [.one, .one] 2 [[(.st []), (.st [])], [(.st []), (.st [])]] [(0, (t 64)), (1, (t 65))]), o 67 (.app 2 32 (t 56) (t 66)), cR 69 233 [t 55, t 67, t 68]] [])))))))⟩
def c224 : Ev.Fn := d224.den
def p224 : Pol := { P0 .rw with loc := [5, 10], heap := [29, 51], own := [29, 51], ord := [(18, [0, 1, 2, 3, 4, 5, 6, 13, 7, 8, 9, 10, 11, 12, 14])], clr := [(1, [11, 12, 14]), (5, [30, 31]), (8, [38])], mask := [(6, [0, 1, 5, 6, 7, 8, 32, 33, 34], [10])] }
theorem r224 : FnOK Tryz.prog mds 224 c224 := .read (pol := p224) (d := d224) Tryz.func224 (by kernel_rfl) (by kernel_rfl) rfl rfl (by kernel_rfl)

def d225 : DFn := ⟨[(.g [.one, .one, .one, .one, (.sl [.one, .one]), .one]), (.g [.one, (.sl [.one, .one]), .one])], [(.c .one)], .pure, [.tmp 4],
(s [o 2 (.box (t 0)), o 3 (.box (t 1)), mK 4 (.bo false)]
(.seq (.seq (.reg false [
fA 5 0 2, lD 6 1 5] [5])
(.blk 0 (.seq (.seq (.reg false [
o 8 (b .eql (t 6) (.k (.st [71, 69, 84]))), mV 7 8] [])
(.cond (t 7)
.skip
(s [o 9 (b .eql (t 6) (.k (.st [72, 69, 65, 68]))), mV 7 9]
(.cond (t 7)
.skip
(s [o 10 (b .eql (t 6) (.k (.st [79, 80, 84, 73, 79, 78, 83]))), mV 7 10]
(.cond (t 7)
.skip
(r [o 11 (b .eql (t 6) (.k (.st [84, 82, 65, 67, 69]))), mV 7 11])))))))
(.cond (t 7)
(s [mK 4 (.bo false)]
.ret)
.skip))))
(.seq (.reg false [
fA 12 0 3, lD 13 1 12, o 14 (b .geq (t 13) (k 200)), mV 15 14, w 16 15 (.fad 0 (t 3)), w 17 15 (.ld 1 false (t 16)), w 18 15 (b .lss (t 17) (k 400)), o 19 (.pick (t 15) (t 18) (.k (.bo false))), mV 4 19] [12, 16])
.ret)))⟩
def c225 : Ev.Fn := d225.den
def p225 : Pol := { P0 .pure with loc := [2, 3], ord := [(0, [2, 0, 1])], clr := [(1, [5]), (7, [12, 16])] }
theorem r225 : FnOK Tryz.prog mds 225 c225 := .read (pol := p225) (d := d225) Tryz.func225 (by kernel_rfl) (by kernel_rfl) rfl rfl (by kernel_rfl)

def d227 : DFn := ⟨[(.g [.one, .one, .one, .one, (.sl [.one, .one]), .one])], [(.c .one)], .pure, [.tmp 2],
(.seq (.reg false [
o 1 (.box (t 0)), mK 2 (.st [])] [])
(.seq (.reg false [
fA 3 1 1, lD 4 1 3, o 5 (b .add (t 4) (.k (.st [58, 47, 47]))), fA 6 2 1, lD 7 1 6, o 8 (b .add (t 5) (t 7)), fA 9 3 1, lD 10 1 9, o 11 (b .add (t 8) (t 10)), mV 2 11] [3, 6, 9])
.ret))⟩
def c227 : Ev.Fn := d227.den
def p227 : Pol := { P0 .pure with loc := [1], ord := [(0, [1, 0])], clr := [(1, [3, 6, 9])] }
theorem r227 : FnOK Tryz.prog mds 227 c227 := .read (pol := p227) (d := d227) Tryz.func227 (by kernel_rfl) (by kernel_rfl) rfl rfl (by kernel_rfl)

def d228 : DFn := ⟨[(.g [.one, .one, .one, .one, (.sl [.one, .one]), .one]), (.g [.one, (.sl [.one, .one]), .one])], [(.c .one)], .pure, [.tmp 4],
(.seq (.reg false [
o 2 (.box (t 0)), o 3 (.box (t 1)), mK 4 (.bo false)] [])
(.seq (.seq (.reg false [
fA 10 0 2, lD 11 1 10, o 12 (b .neq (t 11) (.k (.st [71, 69, 84]))), mV 13 12, x 14 13 (.fad 0 (t 3)), x 15 13 (.ld 1 false (t 14)), x 16 13 (b .lss (t 15) (k 200)), o 17 (.pick (t 13) (.k (.bo true)) (t 16)), mV 18 17, x 19 18 (.fad 0 (t 3)), x 20 18 (.ld 1 false (t 19)), x 21 18 (b .eql (t 20) (k 206)), o 22 (.pick (t 18) (.k (.bo true)) (t 21)), mV 23 22, x 24 23 (.fad 0 (t 3)), x 25 23 (.ld 1 false (t 24)), x 26 23 (b .eql (t 25) (k 304)), o 27 (.pick (t 23) (.k (.bo true)) (t 26))] [10, 14, 19, 24])
(.cond (t 27)
(.seq (.reg false [
mK 4 (.bo false)] [])
.ret)
.skip))
(.seq (.reg true [
fA 28 4 2, lD 29 1 28, fA 31 1 3, lD 32 1 31, u 5 [28, 31, 28, 31, 6] (.alc [(.bo false), (.bo false), (.bo false), (.bo false), (.bo false), (.bo false), (.it .i64 0), (.it .i64 0), (.it .i64 0), (.it .i64 0)]), u 6 [28, 31, 28, 31, 5] (.alc [(.bo false), (.bo false), (.bo false), (.bo false), (.bo false), (.bo false), (.it .i64 0), (.it .i64 0), (.it .i64 0), (.it .i64 0)]), cP 30 284 [t 29], cP 33 284 [t 32], sO 10 5 30, sO 10 6 33] [28, 31])
(.seq (.seq (.reg false [
fA 34 0 5, lD 35 1 34, mV 36 35, x 37 36 (.fad 0 (t 6)), x 38 36 (.ld 1 false (t 37)), o 39 (.pick (t 36) (.k (.bo true)) (t 38)), mV 40 39, x 41 40 (.fad 2 (t 6)), x 42 40 (.ld 1 false (t 41)), o 43 (.pick (t 40) (.k (.bo true)) (t 42))] [34, 37, 41])
(.cond (t 43)
(.seq (.reg false [
mK 4 (.bo false)] [])
.ret)
.skip))
(.seq (.seq (.reg false [
fA 45 1 3, lD 46 1 45, cP 47 285 [t 46], mV 44 47, eX 48 44 0, eX 49 44 1, mV 7 48, mV 8 49] [45])
(.seq (.reg false [
mV 50 8] [])
(.cond (t 50)
(s [mK 4 (.bo false)]
.ret)
.skip)))
(.seq (.reg false [
fA 51 7 6, lD 52 1 51, o 53 (b .geq (t 52) (k 0)), mV 9 53] [51])
(.seq (.seq (.reg false [
fA 54 4 2, lD 55 1 54, o 56 (.call false .pure 286 [t 55, (.k (.st [97, 117, 116, 104, 111, 114, 105, 122, 97, 116, 105, 111, 110]))]), mV 57 56, w 58 57 (.fad 4 (t 6)), w 59 57 (.ld 1 false (t 58)), w 60 57 (.un .not (t 59)), o 61 (.pick (t 57) (t 60) (.k (.bo false))), mV 62 61, w 63 62 (.fad 3 (t 6)), w 64 62 (.ld 1 false (t 63)), w 65 62 (.un .not (t 64)), o 66 (.pick (t 62) (t 65) (.k (.bo false))), mV 67 66, w 68 67 (.mov (t 9)), w 69 67 (.un .not (t 68)), o 70 (.pick (t 67) (t 69) (.k (.bo false)))] [54, 58, 63])
(.cond (t 70)
(.seq (.reg false [
mK 4 (.bo false)] [])
.ret)
.skip))
(.seq (.reg false [
fA 71 3 6, lD 72 1 71, mV 73 72, x 74 73 (.mov (t 9)), o 75 (.pick (t 73) (.k (.bo true)) (t 74)), mV 76 75, x 77 76 (.fad 6 (t 6)), x 78 76 (.ld 1 false (t 77)), x 79 76 (b .geq (t 78) (k 0)), o 80 (.pick (t 76) (.k (.bo true)) (t 79)), mV 81 80, x 82 81 (.fad 1 (t 3)), x 83 81 (.ld 1 false (t 82)), x 84 81 (.call false .pure 286 [t 83, (.k (.st [101, 120, 112, 105, 114, 101, 115]))]), o 85 (.pick (t 81) (.k (.bo true)) (t 84)), mV 86 85, x 87 86 (.fad 0 (t 3)), x 88 86 (.ld 1 false (t 87)), x 89 86 (.call false .pure 287 [t 88]), o 90 (.pick (t 86) (.k (.bo true)) (t 89)), mV 4 90] [71, 77, 82, 87])
.ret))))))))⟩
def c228 : Ev.Fn := d228.den
def p228 : Pol := { P0 .pure with loc := [2, 3, 5, 6], ord := [(0, [2, 0, 1]), (3, [0, 1, 3, 4, 6, 7, 2, 5, 8, 9])], clr := [(1, [10, 14, 19, 24]), (3, [28, 31]), (4, [34, 37, 41]), (6, [45]), (9, [51]), (10, [54, 58, 63]), (12, [71, 77, 82, 87])] }
theorem r228 : FnOK Tryz.prog mds 228 c228 := .read (pol := p228) (d := d228) Tryz.func228 (by kernel_rfl) (by kernel_rfl) rfl rfl (by kernel_rfl)

def d229 : DFn := ⟨[(.c .one), (.c .one)], [], .rw, [],
(.seq (.reg true [
mV 6 1, mV 7 1, nK 8 7, fA 9 33 8, lD 10 1 9, mV 11 10, w 12 11 (.mov (t 1)), w 13 11 (.nck (t 12)), w 14 11 (.fad 34 (t 13)), w 15 11 (.ld 12 true (t 14)), w 17 11 (.mov (t 0)), w 18 11 (.nck (t 17)), w 19 11 (.fad 0 (t 18)), w 20 11 (.fad 0 (t 19)), w 21 11 (.ld 1 false (t 20)), w 16 11 (.call false .pure 279 [t 15]), w 22 11 (b .leq (t 16) (t 21)), o 23 (.pick (t 11) (t 22) (.k (.bo false))), nK 24 6, fA 25 33 24, sO 1 25 23] [])
(s [mV 26 0, mV 27 1, cR 28 183 [t 26, t 27], lN 29 false 28, mK 30 (.it .i64 0)]
(.blk 0 (.loop [1, 28, 29, 30] []
(s [o 31 (b .lss (t 30) (t 29))]
(.seq (.cond (t 31)
.skip
(.exit 0))
(.seq (.blk 1 (s [o 32 (.ias 1 (t 28) (t 30)), lD 33 1 32, mV 5 33]
(.seq (.reg true [
mV 34 1, nK 35 34, fA 36 33 35, lD 37 1 36, o 38 (.un .not (t 37)), mV 39 38, x 40 39 (.mov (t 1)), x 41 39 (.nck (t 40)), x 42 39 (.fad 34 (t 41)), x 43 39 (.ld 12 true (t 42)), x 44 39 (.mov (t 5)), x 45 39 (.nck (t 44)), x 46 39 (.fad 2 (t 45)), x 47 39 (.ld 6 true (t 46)), x 48 39 (.call false .pure 288 [t 43, t 47]), x 49 39 (.un .not (t 48)), o 50 (.pick (t 39) (.k (.bo true)) (t 49))] [])
(.cond (t 50)
(r [mV 51 5, mV 52 5, nK 53 51, fA 54 12 53, n (.sto 1 (t 54) (.k .np)), nK 55 52, fA 56 11 55, n (.sto 1 (t 56) (.k (.bo true)))])
.skip))))
(r [o 57 (b .add (t 30) (k 1)), mV 30 57]))))))))⟩
def c229 : Ev.Fn := d229.den
def p229 : Pol := { P0 .rw with ord := [(0, [0, 1, 2, 3, 4, 5, 6, 7, 8, 9, 11, 12, 13, 14, 15, 10, 16, 17, 18, 19, 20]), (1, [0, 1, 4, 2, 3])], mask := [(2, [1, 28, 29, 30], [])] }
theorem r229 : FnOK Tryz.prog mds 229 c229 := .read (pol := p229) (d := d229) Tryz.func229 (by kernel_rfl) (by kernel_rfl) rfl rfl (by kernel_rfl)

def d230 : DFn := ⟨[(.c .one), (.c .one)], [], .rw, [],
(.seq (.seq (.reg true [
mV 8 1, nK 9 8, fA 10 30 9, lD 11 1 10, o 12 (b .geq (t 11) (k 0)), mV 13 12, w 14 13 (.mov (t 1)), w 15 13 (.nck (t 14)), w 16 13 (.fad 32 (t 15)), w 17 13 (.ld 1 false (t 16)), w 18 13 (.mov (t 1)), w 19 13 (.nck (t 18)), w 20 13 (.fad 30 (t 19)), w 21 13 (.ld 1 false (t 20)), w 22 13 (b .neq (t 17) (t 21)), o 23 (.pick (t 13) (t 22) (.k (.bo false))), mV 24 23, w 25 24 (.mov (t 1)), w 26 24 (.nck (t 25)), w 27 24 (.fad 31 (t 26)), w 28 24 (.ld 1 false (t 27)), w 29 24 (.mov (t 28)), w 30 29 (.mov (t 1)), w 31 29 (.nck (t 30)), w 32 29 (.fad 32 (t 31)), w 33 29 (.ld 1 false (t 32)), w 34 29 (b .eql (t 33) (k 0)), w 35 24 (.pick (t 29) (t 34) (.k (.bo false))), w 36 24 (.un .not (t 35)), o 37 (.pick (t 24) (t 36) (.k (.bo false)))] [])
(.cond (t 37)
(s [mV 38 0, mV 39 1, cR 40 184 [t 38, t 39]]
(s [mV 41 0, mV 42 1, cR 43 131 [t 41, t 42]]
.ret))
.skip))
(s [mV 44 1, nK 45 44, fA 46 29 45, n (.sto 1 (t 46) (.k (.bo true)))]
(.seq (s [mV 47 1, nK 48 47, fA 49 33 48, lD 50 1 49]
(.cond (t 50)
(.reg true [
mV 51 0, nK 52 51, fA 53 23 52, lD 54 1 53, mV 55 1, nK 56 55, fA 57 34 56, lQ 58 12 57, cR 59 223 [t 54, t 58]] [])
.skip))
(.seq (s [mV 60 0, mV 61 1, cR 62 183 [t 60, t 61], lN 63 false 62, mK 64 (.it .i64 0)]
(.blk 0 (.loop [0, 1, 62, 63, 64] [6]
(s [o 65 (b .lss (t 64) (t 63))]
(.seq (.cond (t 65)
.skip
(.exit 0))
(.seq (.blk 1 (s [o 66 (.ias 1 (t 62) (t 64)), lD 67 1 66, mV 5 67]
(s [mV 68 5, nK 69 68, fA 70 12 69, n (.sto 1 (t 70) (.k .np))]
(s [o 71 (.bld [(.st []), (.st []), (.st []), (.st []), .ns, (.it .i64 0), (.it .i64 0), .ns, (.it .i64 0), (.st []), (.it .i64 0), (.it .i64 0)] []), o 6 (.alc [(.st []), (.st []), (.st []), (.st []), .ns, (.it .i64 0), (.it .i64 0), .ns, (.it .i64 0), (.st []), (.it .i64 0), (.it .i64 0)]), sO 12 6 71, mK 7 (.bo false)]
(.seq (s [mV 72 1, nK 73 72, fA 74 33 73, lD 75 1 74]
(.cond (t 75)
(.reg true [
mV 77 0, nK 78 77, fA 79 23 78, lD 80 1 79, mV 81 5, nK 82 81, fA 83 2 82, lQ 84 6 83, cR 85 269 [t 80, t 84], mV 76 85, eX 86 76 0, eX 87 76 1, sO 12 6 86, mV 7 87] [])
.skip))
(s [mV 88 7]
(.cond (t 88)
(r [mV 89 0, mV 90 5, lQ 91 12 6, cR 92 224 [t 89, t 90, t 91]])
(r [mV 93 5, nK 94 93, fA 95 11 94, n (.sto 1 (t 95) (.k (.bo true)))]))))))))
(r [o 96 (b .add (t 64) (k 1)), mV 64 96])))))))
(s [mV 97 1, nK 98 97, fA 99 0 98, lD 100 1 99, o 101 (b .lss (t 100) (k 0))]
(.cond (t 101)
(s [mV 102 0, mV 103 1, cR 104 184 [t 102, t 103]]
(r [mV 105 0, mV 106 1, cR 107 185 [t 105, t 106]]))
.skip))))))⟩
def c230 : Ev.Fn := d230.den
def p230 : Pol := { P0 .rw with loc := [6], ord := [(6, [0, 1, 4, 2, 3])], mask := [(7, [0, 1, 62, 63, 64], [6])] }
theorem r230 : FnOK Tryz.prog mds 230 c230 := .read (pol := p230) (d := d230) Tryz.func230 (by kernel_rfl) (by kernel_rfl) rfl rfl (by kernel_rfl)

def d231 : DFn := ⟨[(.c (.sl [.one])), (.c .one)], [(.c (.sl [.one]))], .rw, [.tmp 4],
(s [mK 4 .ns]
(s [mV 8 0, mV 9 1, cR 10 289 [t 8, t 9], mV 5 10]
(.seq (s [mV 11 5, o 12 (b .eql (t 11) (.k (.it .i64 (-1))))]
(.cond (t 12)
(s [mV 13 0, mV 4 13]
.ret)
.skip))
(.seq (s [mV 14 5, o 15 (b .add (t 14) (k 1)), mV 6 15]
(.blk 0 (.loop [0, 1, 5, 6] []
(.seq (s [mV 16 6, mV 17 0, lN 18 false 17, o 19 (b .lss (t 16) (t 18))]
(.cond (t 19)
.skip
(.exit 0)))
(.seq (.blk 1 (s [mV 22 0, mV 23 6, o 24 (.ias 1 (t 22) (t 23)), lD 25 1 24, mV 7 25]
(s [mV 26 1, mV 27 7, o 28 (.calv [] (t 26) [t 27]), o 29 (.un .not (t 28))]
(.cond (t 29)
(s [mV 30 0, mV 31 5, mV 32 7, o 33 (.ias 1 (t 30) (t 31)), sO 1 33 32]
(r [mV 34 5, o 35 (b .add (t 34) (k 1)), mV 5 35]))
.skip))))
(r [mV 20 6, o 21 (b .add (t 20) (k 1)), mV 6 21]))))))
(s [mV 36 0, mV 37 5, o 38 (.slc false 1 (t 36) (some (t 37)) none), n (.clr 1 [.np] (t 38))]
(s [mV 39 0, mV 40 5, o 41 (.slc false 1 (t 39) none (some (t 40))), mV 4 41]
.ret))))))⟩
def c231 : Ev.Fn := d231.den
def p231 : Pol := { P0 .rw with mask := [(5, [0, 1, 5, 6], [])] }
theorem r231 : FnOK Tryz.prog mds 231 c231 := .read (pol := p231) (d := d231) Tryz.func231 (by kernel_rfl) (by kernel_rfl) rfl rfl (by kernel_rfl)

def d232 : DFn := ⟨[(.c .one), (.c .one)], [(.c .one)], .rw, [.tmp 3],
(s [mK 3 (.bo false)]
(s [mV 4 0, lD 5 1 1, o 6 (.hnd (.eqp .eql) [t 4, t 5]), mV 3 6]
.ret))⟩
def c232 : Ev.Fn := d232.den
def p232 : Pol := { P0 .rw with hnd := [6] }
theorem r232 : FnOK Tryz.prog mds 232 c232 := .read (pol := p232) (d := d232) Tryz.func232 (by kernel_rfl) (by kernel_rfl) rfl rfl (by kernel_rfl)

def d233 : DFn := ⟨[(.c .one), (.c (.sl [.one, .one])), (.c .one)], [], .rw, [],
(r [mV 6 0, mV 7 0, mV 8 0, mV 9 0, mV 10 0, mV 11 1, mV 12 2, nK 13 6, fA 14 25 13, sO 1 14 11, nK 15 7, fA 16 27 15, sO 1 16 12, nK 17 8, fA 18 29 17, n (.sto 1 (t 18) (.k (.bo true))), nK 19 9, fA 20 11 19, n (.sto 1 (t 20) (.k (.bo false))), nK 21 10, fA 22 20 21, n (.sto 1 (t 22) (.k (.bo false)))])⟩
def c233 : Ev.Fn := d233.den
def p233 : Pol := P0 .rw
theorem r233 : FnOK Tryz.prog mds 233 c233 := .read (pol := p233) (d := d233) Tryz.func233 (by kernel_rfl) (by kernel_rfl) rfl rfl (by kernel_rfl)

def d234 : DFn := ⟨[(.c (.sl [.one])), (.c .one)], [(.c .one)], .pure, [.tmp 4],
(s [mK 4 (.st [])]
(.seq (s [mV 11 0, lN 12 false 11]
(.blk 0 (s [o 14 (b .eql (t 12) (k 0)), mV 13 14]
(.cond (t 13)
(s [mK 4 (.st [])]
.ret)
(s [o 16 (b .eql (t 12) (k 1)), mV 15 16]
(.cond (t 15)
(s [mV 17 0, o 18 (.ias 1 (t 17) (k 0)), lD 19 1 18, mV 4 19]
.ret)
.skip))))))
(s [mK 5 (.it .i64 0)]
(.seq (s [mV 20 1, lN 21 true 20, o 22 (b .gtr (t 21) (k 0))]
(.cond (t 22)
(.seq (s [mV 23 1, lN 24 true 23, mV 25 0, lN 26 false 25, o 27 (b .sub (t 26) (k 1)), o 28 (b .quo (k 9223372036854775807) (t 27)), o 29 (b .geq (t 24) (t 28))]
(.cond (t 29)
(r [o 30 (.mki 9 (.k (.st [115, 116, 114, 105, 110, 103, 115, 58, 32, 74, 111, 105, 110, 32, 111, 117, 116, 112, 117, 116, 32, 108, 101, 110, 103, 116, 104, 32, 111, 118, 101, 114, 102, 108, 111, 119]))), n (.pan (t 30))])
.skip))
(r [mV 31 5, mV 32 1, lN 33 true 32, mV 34 0, lN 35 false 34, o 36 (b .sub (t 35) (k 1)), o 37 (b .mul (t 33) (t 36)), o 38 (b .add (t 31) (t 37)), mV 5 38]))
.skip))
(.seq (s [mV 39 0, lN 40 false 39, mK 41 (.it .i64 0)]
(.blk 1 (.loop [0, 1, 5, 39, 40, 41] []
(s [o 42 (b .lss (t 41) (t 40))]
(.seq (.cond (t 42)
.skip
(.exit 1))
(.seq (.blk 2 (s [o 43 (.ias 1 (t 39) (t 41)), lD 44 1 43, mV 7 44]
(.seq (s [mV 45 7, lN 46 true 45, mV 47 5, o 48 (b .sub (k 9223372036854775807) (t 47)), o 49 (b .gtr (t 46) (t 48))]
(.cond (t 49)
(r [o 50 (.mki 9 (.k (.st [115, 116, 114, 105, 110, 103, 115, 58, 32, 74, 111, 105, 110, 32, 111, 117, 116, 112, 117, 116, 32, 108, 101, 110, 103, 116, 104, 32, 111, 118, 101, 114, 102, 108, 111, 119]))), n (.pan (t 50))])
.skip))
(r [mV 51 5, mV 52 7, lN 53 true 52, o 54 (b .add (t 51) (t 53)), mV 5 54]))))
(r [o 55 (b .add (t 41) (k 1)), mV 41 55])))))))
(s [o 8 (.alh [.np, .ns])]
(s [mV 56 5, cR 57 290 [t 8, t 56]]
(s [mV 58 0, o 59 (.ias 1 (t 58) (k 0)), lD 60 1 59, cR 61 291 [t 8, t 60]]
(.seq (s [mV 62 0, o 63 (.slc false 1 (t 62) (some (k 1)) none), lN 64 false 63, mK 65 (.it .i64 0)]
(.blk 3 (.loop [1, 8, 63, 64, 65] []
(s [o 66 (b .lss (t 65) (t 64))]
(.seq (.cond (t 66)
.skip
(.exit 3))
(.seq (.blk 4 (s [o 67 (.ias 1 (t 63) (t 65)), lD 68 1 67, mV 10 68]
(s [mV 69 1, cR 70 291 [t 8, t 69]]
(r [mV 71 10, cR 72 291 [t 8, t 71]]))))
(r [o 73 (b .add (t 65) (k 1)), mV 65 73])))))))
(s [cR 74 292 [t 8], mV 4 74]
.ret))))))))))⟩
def c234 : Ev.Fn := d234.den
def p234 : Pol := { P0 .pure with mask := [(12, [0, 1, 5, 39, 40, 41], []), (22, [1, 8, 63, 64, 65], [])] }
theorem r234 : FnOK Tryz.prog mds 234 c234 := .read (pol := p234) (d := d234) Tryz.func234 (by kernel_rfl) (by kernel_rfl) rfl rfl (by kernel_rfl)

def d235 : DFn := ⟨[(.c .one), (.c .one), (.c .one), (.c .one)], [], .rw, [],
(s [lD 6 1 1, lD 7 1 2, mV 8 0, o 9 (.slc true 0 (t 6) (some (t 7)) (some (t 8))), cP 10 236 [t 9], mV 5 10]
(s [mV 11 5, o 12 (b .neq (t 11) (.k (.st [])))]
(.cond (t 12)
(r [lD 13 1 3, mV 14 5, o 15 (.bsv [.one] 1 [[(.st [])]] [(0, (t 14))]), o 16 (.app 1 16 (t 13) (t 15)), sO 1 3 16])
.skip)))⟩
def c235 : Ev.Fn := d235.den
def p235 : Pol := { P0 .rw with heap := [16], own := [16] }
theorem r235 : FnOK Tryz.prog mds 235 c235 := .read (pol := p235) (d := d235) Tryz.func235 (by kernel_rfl) (by kernel_rfl) rfl rfl (by kernel_rfl)

def d236 : DFn := ⟨[(.c .one)], [(.c .one)], .pure, [.tmp 2],
(s [mK 2 (.st [])]
(.seq (.blk 0 (.loop [0] []
(.seq (s [mV 3 0, o 4 (b .neq (t 3) (.k (.st []))), mV 5 4, w 6 5 (.mov (t 0)), w 7 5 (.ixs (t 6) (k 0)), w 8 5 (.call false .pure 293 [t 7]), o 9 (.pick (t 5) (t 8) (.k (.bo false)))]
(.cond (t 9)
.skip
(.exit 0)))
(.blk 1 (r [mV 10 0, o 11 (.slc true 0 (t 10) (some (k 1)) none), mV 0 11])))))
(.seq (.blk 2 (.loop [0] []
(.seq (s [mV 12 0, o 13 (b .neq (t 12) (.k (.st []))), mV 14 13, w 15 14 (.mov (t 0)), w 16 14 (.mov (t 0)), w 17 14 (.len true (t 16)), w 18 14 (b .sub (t 17) (k 1)), w 19 14 (.ixs (t 15) (t 18)), w 20 14 (.call false .pure 293 [t 19]), o 21 (.pick (t 14) (t 20) (.k (.bo false)))]
(.cond (t 21)
.skip
(.exit 2)))
(.blk 3 (r [mV 22 0, mV 23 0, lN 24 true 23, o 25 (b .sub (t 24) (k 1)), o 26 (.slc true 0 (t 22) none (some (t 25))), mV 0 26])))))
(s [mV 27 0, mV 2 27]
.ret))))⟩
def c236 : Ev.Fn := d236.den
def p236 : Pol := { P0 .pure with mask := [(1, [0], []), (3, [0], [])] }
theorem r236 : FnOK Tryz.prog mds 236 c236 := .read (pol := p236) (d := d236) Tryz.func236 (by kernel_rfl) (by kernel_rfl) rfl rfl (by kernel_rfl)

def d238 : DFn := ⟨[(.c (.sl [.one])), (.c .one)], [(.c .one)], .pure, [.tmp 4],
(s [mK 4 (.it .i64 0)]
(.seq (s [mV 6 0, lN 7 false 6, mK 8 (.it .i64 0)]
(.blk 0 (.loop [0, 1, 7, 8] []
(s [o 9 (b .lss (t 8) (t 7))]
(.seq (.cond (t 9)
.skip
(.exit 0))
(.seq (.blk 1 (s [mV 10 8, mV 5 10]
(s [mV 11 1, mV 12 0, mV 13 5, o 14 (.ias 1 (t 12) (t 13)), lD 15 1 14, o 16 (b .eql (t 11) (t 15))]
(.cond (t 16)
(s [mV 17 5, mV 4 17]
.ret)
.skip))))
(r [o 18 (b .add (t 8) (k 1)), mV 8 18])))))))
(s [mK 4 (.it .i64 (-1))]
.ret)))⟩
def c238 : Ev.Fn := d238.den
def p238 : Pol := { P0 .pure with mask := [(2, [0, 1, 7, 8], [])] }
theorem r238 : FnOK Tryz.prog mds 238 c238 := .read (pol := p238) (d := d238) Tryz.func238 (by kernel_rfl) (by kernel_rfl) rfl rfl (by kernel_rfl)

def d239 : DFn := ⟨[(.c .one)], [(.c .one)], .pure, [.tmp 2],
(s [mK 2 (.it .i64 0)]
(s [mK 3 (.it .i64 0)]
(.seq (s [mV 5 0, lN 6 true 5, mK 7 (.it .i64 0)]
(.blk 0 (.loop [0, 3, 6, 7] []
(s [o 8 (b .lss (t 7) (t 6))]
(.seq (.cond (t 8)
.skip
(.exit 0))
(.seq (.blk 1 (s [mV 9 7, mV 4 9]
(r [mV 10 3, mV 11 0, mV 12 4, o 13 (.ixs (t 11) (t 12)), cV 14 .i64 13, cP 15 294 [t 14], o 16 (b .add (t 10) (t 15)), mV 3 16])))
(r [o 17 (b .add (t 7) (k 1)), mV 7 17])))))))
(s [mV 18 3, o 19 (b .add (t 18) (k 7)), o 20 (b .quo (t 19) (k 8)), mV 2 20]
.ret))))⟩
def c239 : Ev.Fn := d239.den
def p239 : Pol := { P0 .pure with mask := [(3, [0, 3, 6, 7], [])] }
theorem r239 : FnOK Tryz.prog mds 239 c239 := .read (pol := p239) (d := d239) Tryz.func239 (by kernel_rfl) (by kernel_rfl) rfl rfl (by kernel_rfl)

def d240 : DFn := ⟨[(.c .one)], [(.c (.sl [.one]))], .pure, [.tmp 2],
(s [mK 2 .ns]
(s [cR 9 295 [], mV 3 9]
(s [mV 10 0, cP 11 239 [t 10], o 12 (.mks 1 1 [(.it .u8 0)] (k 0) (t 11)), mV 4 12]
(s [mK 5 (.it .u64 0), mK 6 (.it .i64 0)]
(.seq (s [mV 13 0, lN 14 true 13, mK 15 (.it .i64 0)]
(.blk 0 (.loop [0, 3, 4, 5, 6, 14, 15] []
(s [o 16 (b .lss (t 15) (t 14))]
(.seq (.cond (t 16)
.skip
(.exit 0))
(.seq (.blk 1 (s [mV 17 15, mV 7 17]
(s [mV 18 0, mV 19 7, o 20 (.ixs (t 18) (t 19)), cV 21 .i64 20, cP 22 294 [t 21], mV 8 22]
(.seq (.reg true [
mV 23 5, mV 24 8, cV 25 .u64 24, o 26 (b .shl (t 23) (t 25)), mV 27 3, mV 28 0, mV 29 7, o 30 (.ixs (t 28) (t 29)), nK 31 27, fA 32 353 31, o 33 (.iaa 257 1 (t 32) (t 30)), lD 34 1 33, cV 35 .u64 34, o 36 (b .or (t 26) (t 35)), mV 5 36] [])
(s [mV 37 6, mV 38 8, o 39 (b .add (t 37) (t 38)), mV 6 39]
(.blk 2 (.loop [0, 3, 4, 5, 6, 14, 15] []
(.seq (s [mV 40 6, o 41 (b .geq (t 40) (k 8))]
(.cond (t 41)
.skip
(.exit 2)))
(.blk 3 (s [mV 42 6, o 43 (b .sub (t 42) (k 8)), mV 6 43]
(r [mV 44 4, mV 45 5, mV 46 6, cV 47 .u64 46, o 48 (b .shr (t 45) (t 47)), cV 49 .u8 48, o 50 (.bsv [.one] 1 [[(.it .u8 0)]] [(0, (t 49))]), o 51 (.app 1 1 (t 44) (t 50)), mV 4 51])))))))))))
(r [o 52 (b .add (t 15) (k 1)), mV 15 52])))))))
(.seq (s [mV 53 6, o 54 (b .gtr (t 53) (k 0))]
(.cond (t 54)
(r [mV 55 4, mV 56 5, mV 57 6, o 58 (b .sub (k 8) (t 57)), cV 59 .u64 58, o 60 (b .shl (t 56) (t 59)), cV 61 .u8 60, mV 62 6, cV 63 .u64 62, o 64 (b .shr (.k (.it .u8 255)) (t 63)), o 65 (b .or (t 61) (t 64)), o 66 (.bsv [.one] 1 [[(.it .u8 0)]] [(0, (t 65))]), o 67 (.app 1 1 (t 55) (t 66)), mV 4 67])
.skip))
(s [mV 68 4, mV 2 68]
.ret)))))))⟩
def c240 : Ev.Fn := d240.den
def p240 : Pol := { P0 .pure with heap := [51, 67], own := [51, 67], mask := [(5, [0, 3, 4, 5, 6, 14, 15], []), (10, [0, 3, 4, 5, 6, 14, 15], [])] }
theorem r240 : FnOK Tryz.prog mds 240 c240 := .read (pol := p240) (d := d240) Tryz.func240 (by kernel_rfl) (by kernel_rfl) rfl rfl (by kernel_rfl)

def d243 : DFn := ⟨[(.c .one), (.c .one), (.c .one)], [(.c .one)], .pure, [.tmp 6],
(s [mK 6 (.bo false)]
(s [mV 7 0, mV 8 1, o 9 (b .geq (t 7) (t 8)), mV 10 9, w 11 10 (.mov (t 0)), w 12 10 (.mov (t 2)), w 13 10 (b .leq (t 11) (t 12)), o 14 (.pick (t 10) (t 13) (.k (.bo false))), mV 6 14]
.ret))⟩
def c243 : Ev.Fn := d243.den
def p243 : Pol := P0 .pure
theorem r243 : FnOK Tryz.prog mds 243 c243 := .read (pol := p243) (d := d243) Tryz.func243 (by kernel_rfl) (by kernel_rfl) rfl rfl (by kernel_rfl)

def d244 : DFn := ⟨[(.c (.sl [.one])), (.c .one)], [(.c .one)], .pure, [.tmp 4],
(s [mK 4 (.it .i64 0)]
(.seq (s [mV 6 0, lN 7 false 6, mK 8 (.it .i64 0)]
(.blk 0 (.loop [0, 1, 7, 8] []
(s [o 9 (b .lss (t 8) (t 7))]
(.seq (.cond (t 9)
.skip
(.exit 0))
(.seq (.blk 1 (s [mV 10 8, mV 5 10]
(s [mV 11 1, mV 12 0, mV 13 5, o 14 (.ias 1 (t 12) (t 13)), lD 15 1 14, o 16 (b .eql (t 11) (t 15))]
(.cond (t 16)
(s [mV 17 5, mV 4 17]
.ret)
.skip))))
(r [o 18 (b .add (t 8) (k 1)), mV 8 18])))))))
(s [mK 4 (.it .i64 (-1))]
.ret)))⟩
def c244 : Ev.Fn := d244.den
def p244 : Pol := { P0 .pure with mask := [(2, [0, 1, 7, 8], [])] }
theorem r244 : FnOK Tryz.prog mds 244 c244 := .read (pol := p244) (d := d244) Tryz.func244 (by kernel_rfl) (by kernel_rfl) rfl rfl (by kernel_rfl)

def d245 : DFn := ⟨[(.c .one)], [(.c .one)], .rw, [.tmp 2],
(s [mK 2 (.bo false)]
(s [mV 3 0, nK 4 3, fA 5 1 4, lD 6 1 5, o 7 (b .eql (t 6) (k 1)), mV 8 7, x 9 8 (.mov (t 0)), x 10 8 (.nck (t 9)), x 11 8 (.fad 1 (t 10)), x 12 8 (.ld 1 false (t 11)), x 13 8 (b .eql (t 12) (k 2)), o 14 (.pick (t 8) (.k (.bo true)) (t 13)), mV 2 14]
.ret))⟩
def c245 : Ev.Fn := d245.den
def p245 : Pol := P0 .rw
theorem r245 : FnOK Tryz.prog mds 245 c245 := .read (pol := p245) (d := d245) Tryz.func245 (by kernel_rfl) (by kernel_rfl) rfl rfl (by kernel_rfl)

def d246 : DFn := ⟨[(.g [.one])], [(.c .one)], .pure, [.tmp 2],
(s [o 1 (.box (t 0)), mK 2 (.it .i64 0)]
(.seq (.reg false [
fA 3 0 1, lD 4 1 3, mV 2 4] [3])
.ret))⟩
def c246 : Ev.Fn := d246.den
def p246 : Pol := { P0 .pure with loc := [1], ord := [(0, [1, 0])], clr := [(1, [3])] }
theorem r246 : FnOK Tryz.prog mds 246 c246 := .read (pol := p246) (d := d246) Tryz.func246 (by kernel_rfl) (by kernel_rfl) rfl rfl (by kernel_rfl)

def d248 : DFn := ⟨[(.c .one), (.c .one)], [], .rw, [],
(.blk 0 (.loop [0, 1] []
(.seq (.seq (.reg true [
lD 2 1 0, nK 3 2, fA 4 2 3, lD 5 1 4, lD 6 1 1, lN 7 false 6, o 8 (b .lss (t 5) (t 7))] [])
(.cond (t 8)
.skip
(.exit 0)))
(.blk 1 (r [lD 9 1 0, cR 10 249 [t 9]])))))⟩
def c248 : Ev.Fn := d248.den
def p248 : Pol := { P0 .rw with mask := [(0, [0, 1], [])] }
theorem r248 : FnOK Tryz.prog mds 248 c248 := .read (pol := p248) (d := d248) Tryz.func248 (by kernel_rfl) (by kernel_rfl) rfl rfl (by kernel_rfl)

def d249 : DFn := ⟨[(.c .one)], [], .rw, [],
(.seq (.reg true [
mV 4 0, nK 5 4, fA 6 1 5, lD 7 1 6, mV 8 0, nK 9 8, fA 10 2 9, lD 11 1 10, o 12 (.ias 1 (t 7) (t 11)), lD 13 1 12, mV 2 13] [])
(.blk 0 (s [mV 19 2, o 20 (b .geq (t 19) (.k (.it .u8 128))), mV 18 20]
(.cond (t 18)
(r [mV 21 0, mV 22 0, mV 23 0, cR 24 300 [t 23, (k 7)], cR 25 299 [t 22, t 24], cR 26 298 [t 21, t 25, (k 1)]])
(s [mV 28 2, o 29 (b .geq (t 28) (.k (.it .u8 64))), mV 27 29]
(.cond (t 27)
(s [mV 30 0, cR 31 301 [t 30, (k 6)], o 3 (.alc [(.st []), (.st [])]), sO 2 3 31]
(.seq (.reg true [
mV 32 0, nK 33 32, fA 34 0 33, lD 35 1 34, nK 36 35, fA 37 0 36, lD 38 1 37, lQ 39 2 3, cR 40 146 [t 38, t 39]] [])
(r [mV 41 0, lQ 42 2 3, cR 43 298 [t 41, t 42, (k 1)]])))
(s [mV 45 2, o 46 (b .geq (t 45) (.k (.it .u8 32))), mV 44 46]
(.cond (t 44)
(r [mV 47 0, cR 48 302 [t 47]])
(s [mV 50 2, o 51 (b .geq (t 50) (.k (.it .u8 16))), mV 49 51]
(.cond (t 49)
(r [mV 52 0, mV 53 0, cR 54 301 [t 53, (k 4)], cR 55 298 [t 52, t 54, (k 3)]])
(r [mV 14 0, mV 15 0, cR 16 301 [t 15, (k 4)], cR 17 298 [t 14, t 16, (k 2)]])))))))))))⟩
def c249 : Ev.Fn := d249.den
def p249 : Pol := { P0 .rw with loc := [3], ord := [(5, [0, 2, 1, 3])] }
theorem r249 : FnOK Tryz.prog mds 249 c249 := .read (pol := p249) (d := d249) Tryz.func249 (by kernel_rfl) (by kernel_rfl) rfl rfl (by kernel_rfl)

def d250 : DFn := ⟨[(.c .one), (.c .one)], [(.c .one)], .rw, [.tmp 4],
(s [mK 4 .np]
(.seq (s [mV 5 0, nK 6 5, fA 7 0 6, lD 8 1 7, o 9 (.un .not (t 8)), mV 10 9, x 11 10 (.mov (t 1)), x 12 10 (b .rem (t 11) (k 2)), x 13 10 (b .eql (t 12) (k 0)), o 14 (.pick (t 10) (.k (.bo true)) (t 13))]
(.cond (t 14)
(s [mV 15 0, cR 16 60 [t 15, (k 1)]]
(s [mK 4 .np]
.ret))
.skip))
(s [mV 17 0, mV 18 1, nK 19 17, fA 20 16 19, sO 1 20 18]
(.seq (.seq (.reg true [
mV 21 0, nK 22 21, fA 23 15 22, lD 24 1 23, lN 25 false 24, mV 26 0, nK 27 26, fA 28 1 27, fA 29 0 28, lD 30 1 29, o 31 (b .geq (t 25) (t 30))] [])
(.cond (t 31)
(s [mV 32 0, mV 33 1, cR 34 160 [t 32, t 33, (k 7)]]
(s [mK 4 .np]
.ret))
.skip))
(s [mV 35 0, mV 36 1, cR 37 56 [t 35, t 36], mV 4 37]
.ret)))))⟩
def c250 : Ev.Fn := d250.den
def p250 : Pol := P0 .rw
theorem r250 : FnOK Tryz.prog mds 250 c250 := .read (pol := p250) (d := d250) Tryz.func250 (by kernel_rfl) (by kernel_rfl) rfl rfl (by kernel_rfl)

def d251 : DFn := ⟨[(.c (.sl [.one, .one]))], [(.c .one)], .pure, [.tmp 2],
(s [mK 2 (.bo false)]
(s [mV 3 0, lN 4 false 3, o 5 (b .gtr (t 4) (k 0)), mV 6 5, w 7 6 (.mov (t 0)), w 8 6 (.ias 2 (t 7) (k 0)), w 9 6 (.fad 0 (t 8)), w 10 6 (.ld 1 false (t 9)), w 11 6 (b .eql (t 10) (.k (.st [58, 115, 116, 97, 116, 117, 115]))), o 12 (.pick (t 6) (t 11) (.k (.bo false))), mV 13 12, w 14 13 (.mov (t 0)), w 15 13 (.ias 2 (t 14) (k 0)), w 16 13 (.fad 1 (t 15)), w 17 13 (.ld 1 false (t 16)), w 18 13 (.len true (t 17)), w 19 13 (b .eql (t 18) (k 3)), o 20 (.pick (t 13) (t 19) (.k (.bo false))), mV 21 20, w 22 21 (.mov (t 0)), w 23 21 (.ias 2 (t 22) (k 0)), w 24 21 (.fad 1 (t 23)), w 25 21 (.ld 1 false (t 24)), w 26 21 (.ixs (t 25) (k 0)), w 27 21 (b .eql (t 26) (.k (.it .u8 49))), o 28 (.pick (t 21) (t 27) (.k (.bo false))), mV 2 28]
.ret))⟩
def c251 : Ev.Fn := d251.den
def p251 : Pol := P0 .pure
theorem r251 : FnOK Tryz.prog mds 251 c251 := .read (pol := p251) (d := d251) Tryz.func251 (by kernel_rfl) (by kernel_rfl) rfl rfl (by kernel_rfl)

def d261 : DFn := ⟨[(.c .one), (.c .one)], [(.c .one)], .pure, [.tmp 4],
(s [mK 4 (.it .i64 0)]
(.seq (s [mV 7 1, lN 8 true 7, o 9 (b .eql (t 8) (k 0))]
(.cond (t 9)
(s [mV 10 0, cP 11 308 [t 10], o 12 (b .add (t 11) (k 1)), mV 4 12]
.ret)
.skip))
(.seq (s [mV 13 1, lN 14 true 13, o 15 (b .eql (t 14) (k 1))]
(.cond (t 15)
(s [mV 16 0, mV 17 1, o 18 (.ixs (t 17) (k 0)), o 19 (.ctb (t 16) (t 18)), mV 4 19]
.ret)
.skip))
(s [mK 5 (.it .i64 0)]
(.blk 0 (.loop [0, 1, 5] []
(.blk 1 (s [mV 20 0, mV 21 1, cP 22 262 [t 20, t 21], mV 6 22]
(.seq (s [mV 23 6, o 24 (b .eql (t 23) (.k (.it .i64 (-1))))]
(.cond (t 24)
(s [mV 25 5, mV 4 25]
.ret)
.skip))
(s [mV 26 5, o 27 (b .add (t 26) (k 1)), mV 5 27]
(r [mV 28 0, mV 29 6, mV 30 1, lN 31 true 30, o 32 (b .add (t 29) (t 31)), o 33 (.slc true 0 (t 28) (some (t 32)) none), mV 0 33])))))))))))⟩
def c261 : Ev.Fn := d261.den
def p261 : Pol := { P0 .pure with mask := [(6, [0, 1, 5], [])] }
theorem r261 : FnOK Tryz.prog mds 261 c261 := .read (pol := p261) (d := d261) Tryz.func261 (by kernel_rfl) (by kernel_rfl) rfl rfl (by kernel_rfl)

def d262 : DFn := ⟨[(.c .one), (.c .one)], [(.c .one)], .pure, [.tmp 4],
(s [mK 4 (.it .i64 0)]
(s [mV 5 0, mV 6 1, cP 7 263 [t 5, t 6], mV 4 7]
.ret))⟩
def c262 : Ev.Fn := d262.den
def p262 : Pol := P0 .pure
theorem r262 : FnOK Tryz.prog mds 262 c262 := .read (pol := p262) (d := d262) Tryz.func262 (by kernel_rfl) (by kernel_rfl) rfl rfl (by kernel_rfl)

def d263 : DFn := ⟨[(.c .one), (.c .one)], [(.c .one)], .pure, [.tmp 4],
(s [mK 4 (.it .i64 0)]
(s [mV 14 1, lN 15 true 14, mV 5 15]
(.seq (.blk 0 (s [mV 17 5, o 18 (b .eql (t 17) (k 0)), mV 19 18, x 20 19 (.mov (t 1)), x 21 19 (.mov (t 0)), x 22 19 (b .eql (t 20) (t 21)), o 23 (.pick (t 19) (.k (.bo true)) (t 22)), mV 16 23]
(.cond (t 16)
(s [mK 4 (.it .i64 0)]
.ret)
(s [mV 25 5, o 26 (b .eql (t 25) (k 1)), mV 24 26]
(.cond (t 24)
(s [mV 27 0, mV 28 1, o 29 (.ixs (t 28) (k 0)), cP 30 311 [t 27, t 29], mV 4 30]
.ret)
(s [mV 32 5, mV 33 0, lN 34 true 33, o 35 (b .geq (t 32) (t 34)), mV 31 35]
(.cond (t 31)
(s [mK 4 (.it .i64 (-1))]
.ret)
(s [mV 37 5, o 38 (.ld 1 false (.k .un)), o 39 (b .leq (t 37) (t 38)), mV 40 39, w 41 40 (.mov (t 0)), w 42 40 (.len true (t 41)), w 43 40 (b .leq (t 42) (k 64)), o 44 (.pick (t 40) (t 43) (.k (.bo false))), mV 36 44]
(.cond (t 36)
(s [mV 45 0, mV 46 1, cP 47 312 [t 45, t 46], mV 4 47]
.ret)
.skip)))))))))
(s [mV 48 1, o 49 (.ixs (t 48) (k 0)), mV 6 49]
(s [mV 50 1, o 51 (.ixs (t 50) (k 1)), mV 7 51]
(s [mK 8 (.it .i64 0)]
(s [mV 52 0, lN 53 true 52, mV 54 5, o 55 (b .sub (t 53) (t 54)), o 56 (b .add (t 55) (k 1)), mV 9 56]
(s [mK 10 (.it .i64 0)]
(.seq (.blk 1 (.loop [0, 1, 5, 6, 7, 8, 9, 10] []
(.seq (s [mV 57 8, mV 58 9, o 59 (b .lss (t 57) (t 58))]
(.cond (t 59)
.skip
(.exit 1)))
(.blk 2 (.seq (s [mV 60 0, mV 61 8, o 62 (.ixs (t 60) (t 61)), mV 63 6, o 64 (b .neq (t 62) (t 63))]
(.cond (t 64)
(s [mV 65 0, mV 66 8, o 67 (b .add (t 66) (k 1)), mV 68 9, o 69 (.slc true 0 (t 65) (some (t 67)) (some (t 68))), mV 70 6, cP 71 311 [t 69, t 70], mV 11 71]
(.seq (s [mV 72 11, o 73 (b .lss (t 72) (k 0))]
(.cond (t 73)
(s [mK 4 (.it .i64 (-1))]
.ret)
.skip))
(r [mV 74 8, mV 75 11, o 76 (b .add (t 75) (k 1)), o 77 (b .add (t 74) (t 76)), mV 8 77])))
.skip))
(.seq (s [mV 78 0, mV 79 8, o 80 (b .add (t 79) (k 1)), o 81 (.ixs (t 78) (t 80)), mV 82 7, o 83 (b .eql (t 81) (t 82)), mV 84 83, w 85 84 (.mov (t 0)), w 86 84 (.mov (t 8)), w 87 84 (.mov (t 8)), w 88 84 (.mov (t 5)), w 89 84 (b .add (t 87) (t 88)), w 90 84 (.slc true 0 (t 85) (some (t 86)) (some (t 89))), w 91 84 (.mov (t 1)), w 92 84 (b .eql (t 90) (t 91)), o 93 (.pick (t 84) (t 92) (.k (.bo false)))]
(.cond (t 93)
(s [mV 94 8, mV 4 94]
.ret)
.skip))
(s [mV 95 8, o 96 (b .add (t 95) (k 1)), mV 8 96]
(s [mV 97 10, o 98 (b .add (t 97) (k 1)), mV 10 98]
(s [mV 99 5, o 100 (.ld 1 false (.k .un)), o 101 (b .leq (t 99) (t 100)), mV 102 101, w 103 102 (.mov (t 10)), w 104 102 (.mov (t 8)), w 105 102 (.call false .pure 313 [t 104]), w 106 102 (b .gtr (t 103) (t 105)), o 107 (.pick (t 102) (t 106) (.k (.bo false)))]
(.cond (t 107)
(s [mV 108 0, mV 109 8, o 110 (.slc true 0 (t 108) (some (t 109)) none), mV 111 1, cP 112 312 [t 110, t 111], mV 12 112]
(.seq (s [mV 113 12, o 114 (b .geq (t 113) (k 0))]
(.cond (t 114)
(s [mV 115 12, mV 116 8, o 117 (b .add (t 115) (t 116)), mV 4 117]
.ret)
.skip))
(s [mK 4 (.it .i64 (-1))]
.ret)))
(s [mV 118 5, o 119 (.ld 1 false (.k .un)), o 120 (b .gtr (t 118) (t 119)), mV 121 120, w 122 121 (.mov (t 10)), w 123 121 (.mov (t 8)), w 124 121 (b .shr (t 123) (.k (.it .u64 4))), w 125 121 (b .add (k 4) (t 124)), w 126 121 (b .geq (t 122) (t 125)), o 127 (.pick (t 121) (t 126) (.k (.bo false))), mV 128 127, w 129 128 (.mov (t 8)), w 130 128 (.mov (t 9)), w 131 128 (b .lss (t 129) (t 130)), o 132 (.pick (t 128) (t 131) (.k (.bo false)))]
(.cond (t 132)
(s [mV 133 0, mV 134 8, o 135 (.slc true 0 (t 133) (some (t 134)) none), mV 136 1, cP 137 314 [t 135, t 136], mV 13 137]
(.seq (s [mV 138 13, o 139 (b .lss (t 138) (k 0))]
(.cond (t 139)
(s [mK 4 (.it .i64 (-1))]
.ret)
.skip))
(s [mV 140 8, mV 141 13, o 142 (b .add (t 140) (t 141)), mV 4 142]
.ret)))
.skip))))))))))))
(s [mK 4 (.it .i64 (-1))]
.ret))))))))))⟩
def c263 : Ev.Fn := d263.den
def p263 : Pol := { P0 .pure with mask := [(15, [0, 1, 5, 6, 7, 8, 9, 10], [])] }
theorem r263 : FnOK Tryz.prog mds 263 c263 := .read (pol := p263) (d := d263) Tryz.func263 (by kernel_rfl) (by kernel_rfl) rfl rfl (by kernel_rfl)

def d264 : DFn := ⟨[(.g [.one, .one])], [(.c .one)], .pure, [.tmp 2],
(s [o 1 (.box (t 0)), mK 2 (.bo false)]
(.seq (.reg false [
fA 3 0 1, lD 4 1 3, lN 5 true 4, o 6 (b .gtr (t 5) (k 0)), mV 7 6, w 8 7 (.fad 0 (t 1)), w 9 7 (.ld 1 false (t 8)), w 10 7 (.ixs (t 9) (k 0)), w 11 7 (b .eql (t 10) (.k (.it .u8 58))), o 12 (.pick (t 7) (t 11) (.k (.bo false))), mV 2 12] [3, 8])
.ret))⟩
def c264 : Ev.Fn := d264.den
def p264 : Pol := { P0 .pure with loc := [1], ord := [(0, [1, 0])], clr := [(1, [3, 8])] }
theorem r264 : FnOK Tryz.prog mds 264 c264 := .read (pol := p264) (d := d264) Tryz.func264 (by kernel_rfl) (by kernel_rfl) rfl rfl (by kernel_rfl)

def d265 : DFn := ⟨[(.c (.sl [.one, .one])), (.c .one)], [(.c .one)], .rw, [.tmp 4],
(.seq (.reg false [
mK 4 (.bo false)] [])
(s [o 8 (.mmk), mV 5 8]
(.seq (s [mV 9 0, lN 10 false 9, mK 11 (.it .i64 0)]
(.blk 0 (.loop [1, 5, 9, 10, 11] [7]
(s [o 12 (b .lss (t 11) (t 10))]
(.seq (.cond (t 12)
.skip
(.exit 0))
(.seq (.blk 1 (s [o 13 (.ias 2 (t 9) (t 11)), lQ 14 2 13, o 7 (.alc [(.st []), (.st [])]), sO 2 7 14]
(.seq (.reg false [
mV 15 5, fA 16 0 7, lD 17 1 16, o 18 (.mlk false (.it .i64 0) (t 15) (t 17)), o 19 (b .add (t 18) (k 1)), n (.mup (t 15) (t 17) (t 19))] [16])
(.seq (.seq (.reg false [
mV 20 5, fA 21 0 7, lD 22 1 21, o 23 (.mlk false (.it .i64 0) (t 20) (t 22)), o 24 (b .gtr (t 23) (k 1)), mV 25 24, x 26 25 (.fad 1 (t 7)), x 27 25 (.ld 1 false (t 26)), x 28 25 (.call false .pure 315 [t 27]), x 29 25 (.un .not (t 28)), o 30 (.pick (t 25) (.k (.bo true)) (t 29))] [21, 26])
(.cond (t 30)
(.seq (.reg false [
mK 4 (.bo false)] [])
.ret)
.skip))
(.seq (.reg false [
fA 31 0 7, lD 32 1 31] [31])
(.blk 2 (.seq (.reg false [
o 34 (b .eql (t 32) (.k (.st [58, 109, 101, 116, 104, 111, 100]))), mV 33 34] [])
(.cond (t 33)
(.reg false [
mV 35 1, fA 36 1 7, lD 37 1 36, nK 38 35, fA 39 0 38, sO 1 39 37] [36])
(s [o 41 (b .eql (t 32) (.k (.st [58, 115, 99, 104, 101, 109, 101]))), mV 40 41]
(.cond (t 40)
(.reg false [
mV 42 1, fA 43 1 7, lD 44 1 43, nK 45 42, fA 46 1 45, sO 1 46 44] [43])
(s [o 48 (b .eql (t 32) (.k (.st [58, 97, 117, 116, 104, 111, 114, 105, 116, 121]))), mV 47 48]
(.cond (t 47)
(.reg false [
mV 49 1, fA 50 1 7, lD 51 1 50, nK 52 49, fA 53 2 52, sO 1 53 51] [50])
(s [o 55 (b .eql (t 32) (.k (.st [58, 112, 97, 116, 104]))), mV 54 55]
(.cond (t 54)
(.reg false [
mV 56 1, fA 57 1 7, lD 58 1 57, nK 59 56, fA 60 3 59, sO 1 60 58] [57])
(s [mK 4 (.bo false)]
.ret)))))))))))))))
(.reg false [
o 61 (b .add (t 11) (k 1)), mV 11 61] [])))))))
(s [mK 4 (.bo true)]
.ret))))⟩
def c265 : Ev.Fn := d265.den
def p265 : Pol := { P0 .rw with loc := [7], clr := [(5, [16]), (6, [21, 26]), (8, [31]), (11, [36]), (13, [43]), (15, [50]), (17, [57])], mask := [(3, [1, 5, 9, 10, 11], [7])] }
theorem r265 : FnOK Tryz.prog mds 265 c265 := .read (pol := p265) (d := d265) Tryz.func265 (by kernel_rfl) (by kernel_rfl) rfl rfl (by kernel_rfl)

def d266 : DFn := ⟨[(.g [.one, .one, .one, .one, (.sl [.one, .one]), .one])], [(.c .one)], .pure, [.tmp 2],
(s [o 1 (.box (t 0)), mK 2 (.bo false)]
(.seq (.seq (.reg false [
fA 3 0 1, lD 4 1 3, cP 5 316 [t 4], o 6 (.un .not (t 5)), mV 7 6, x 8 7 (.fad 0 (t 1)), x 9 7 (.ld 1 false (t 8)), x 10 7 (b .eql (t 9) (.k (.st [67, 79, 78, 78, 69, 67, 84]))), o 11 (.pick (t 7) (.k (.bo true)) (t 10)), mV 12 11, x 13 12 (.fad 1 (t 1)), x 14 12 (.ld 1 false (t 13)), x 15 12 (b .neq (t 14) (.k (.st [104, 116, 116, 112]))), x 16 12 (.mov (t 15)), w 17 16 (.fad 1 (t 1)), w 18 16 (.ld 1 false (t 17)), w 19 16 (b .neq (t 18) (.k (.st [104, 116, 116, 112, 115]))), x 20 12 (.pick (t 16) (t 19) (.k (.bo false))), o 21 (.pick (t 12) (.k (.bo true)) (t 20)), mV 22 21, x 23 22 (.fad 2 (t 1)), x 24 22 (.ld 1 false (t 23)), x 25 22 (b .eql (t 24) (.k (.st []))), o 26 (.pick (t 22) (.k (.bo true)) (t 25)), mV 27 26, x 28 27 (.fad 3 (t 1)), x 29 27 (.ld 1 false (t 28)), x 30 27 (b .eql (t 29) (.k (.st []))), o 31 (.pick (t 27) (.k (.bo true)) (t 30))] [3, 8, 13, 17, 23, 28])
(.cond (t 31)
(.seq (.reg false [
mK 2 (.bo false)] [])
.ret)
.skip))
(.seq (.reg false [
fA 32 3 1, lD 33 1 32, o 34 (.ixs (t 33) (k 0)), o 35 (b .eql (t 34) (.k (.it .u8 47))), mV 36 35, x 37 36 (.fad 3 (t 1)), x 38 36 (.ld 1 false (t 37)), x 39 36 (b .eql (t 38) (.k (.st [42]))), x 40 36 (.mov (t 39)), w 41 40 (.fad 0 (t 1)), w 42 40 (.ld 1 false (t 41)), w 43 40 (b .eql (t 42) (.k (.st [79, 80, 84, 73, 79, 78, 83]))), x 44 36 (.pick (t 40) (t 43) (.k (.bo false))), o 45 (.pick (t 36) (.k (.bo true)) (t 44)), mV 2 45] [32, 37, 41])
.ret)))⟩
def c266 : Ev.Fn := d266.den
def p266 : Pol := { P0 .pure with loc := [1], ord := [(0, [1, 0])], clr := [(1, [3, 8, 13, 17, 23, 28]), (3, [32, 37, 41])] }
theorem r266 : FnOK Tryz.prog mds 266 c266 := .read (pol := p266) (d := d266) Tryz.func266 (by kernel_rfl) (by kernel_rfl) rfl rfl (by kernel_rfl)

def d267 : DFn := ⟨[(.c (.sl [.one, .one]))], [(.c (.sl [.one, .one])), (.c .one), (.c .one)], .pure, [.tmp 2, .tmp 3, .tmp 4],
(.seq (.reg false [
mK 2 .ns, mK 3 (.it .i64 0), mK 4 (.bo false)] [])
(.seq (s [mV 7 0, o 8 (.call false .rw 317 [t 7, (.k (.fn 264 [] []))]), mV 9 8, x 10 9 (.mov (t 0)), x 11 9 (.call false .pure 318 [t 10]), x 12 9 (.un .not (t 11)), o 13 (.pick (t 9) (.k (.bo true)) (t 12))]
(.cond (t 13)
(s [mK 2 .ns, mK 3 (.it .i64 0), mK 4 (.bo false)]
.ret)
.skip))
(s [mV 15 0, cP 16 319 [t 15], mV 14 16, eX 17 14 0, eX 18 14 1, mV 5 17, mV 6 18]
(s [mV 19 0, o 20 (.app 2 32 (.k .ns) (t 19)), mV 21 5, mV 22 6, mV 2 20, mV 3 21, mV 4 22]
.ret))))⟩
def c267 : Ev.Fn := d267.den
def p267 : Pol := { P0 .pure with ord := [(4, [0, 2, 3, 1, 4, 5, 6])], fns := [264] }
theorem r267 : FnOK Tryz.prog mds 267 c267 := .read (pol := p267) (d := d267) Tryz.func267 (by kernel_rfl) (by kernel_rfl) rfl rfl (by kernel_rfl)

def d268 : DFn := ⟨[(.c .one)], [(.c .one)], .rw, [.tmp 2],
(s [mK 2 (.bo false)]
(s [mV 3 0, nK 4 3, fA 5 2 4, fA 6 0 5, lD 7 1 6, o 8 (b .eql (t 7) (.k (.st [71, 69, 84]))), mV 9 8, w 10 9 (.mov (t 0)), w 11 9 (.nck (t 10)), w 12 9 (.fad 10 (t 11)), w 13 9 (.ld 1 false (t 12)), o 14 (.pick (t 9) (t 13) (.k (.bo false))), mV 2 14]
.ret))⟩
def c268 : Ev.Fn := d268.den
def p268 : Pol := P0 .rw
theorem r268 : FnOK Tryz.prog mds 268 c268 := .read (pol := p268) (d := d268) Tryz.func268 (by kernel_rfl) (by kernel_rfl) rfl rfl (by kernel_rfl)

def d269 : DFn := ⟨[(.c .one), (.g [.one, .one, .one, .one, (.sl [.one, .one]), .one])], [(.g [.one, .one, .one, .one, (.sl [.one, .one]), .one, .one, (.sl [.one, .one]), .one, .one, .one, .one]), (.c .one)], .rw, [.cell 4 12 true, .tmp 5],
(s [o 3 (.box (t 1)), o 4 (.alc [(.st []), (.st []), (.st []), (.st []), .ns, (.it .i64 0), (.it .i64 0), .ns, (.it .i64 0), (.st []), (.it .i64 0), (.it .i64 0)]), mK 5 (.bo false)]
(s [mV 8 0, lQ 9 6 3, o 10 (.call false .ro 320 [t 8, t 9]), mV 6 10]
(.seq (s [mV 11 6, o 12 (b .lss (t 11) (k 0))]
(.cond (t 12)
(s [o 13 (.bld [(.st []), (.st []), (.st []), (.st []), .ns, (.it .i64 0), (.it .i64 0), .ns, (.it .i64 0), (.st []), (.it .i64 0), (.it .i64 0)] []), sO 12 4 13, mK 5 (.bo false)]
.ret)
.skip))
(s [mV 14 0, mV 15 6, cR 16 278 [t 14, t 15], o 7 (.alc [(.st []), (.st []), (.st []), (.st []), .ns, (.it .i64 0), (.it .i64 0), .ns, (.it .i64 0), (.st []), (.it .i64 0), (.it .i64 0)]), sO 12 7 16]
(s [mV 17 0, lQ 18 12 7, cR 19 280 [t 17, t 18]]
(s [lQ 20 12 7, cP 21 281 [t 20], sO 12 4 21, mK 5 (.bo true)]
.ret))))))⟩
def c269 : Ev.Fn := d269.den
def p269 : Pol := { P0 .rw with loc := [3, 4, 7], ord := [(0, [2, 0, 1]), (4, [0, 1, 3, 2, 4])] }
theorem r269 : FnOK Tryz.prog mds 269 c269 := .read (pol := p269) (d := d269) Tryz.func269 (by kernel_rfl) (by kernel_rfl) rfl rfl (by kernel_rfl)

def d270 : DFn := ⟨[(.g [.one, .one, .one, .one, (.sl [.one, .one]), .one])], [(.c .one)], .pure, [.tmp 2],
(s [o 1 (.box (t 0)), mK 2 (.it .i64 0)]
(.seq (.seq (.reg false [
fA 3 4 1, lD 4 1 3, cP 5 284 [t 4], o 6 (.fld 5 1 false (t 5))] [3])
(.cond (t 6)
(.seq (.reg false [
mK 2 (.it .i64 4)] [])
.ret)
.skip))
(s [mK 2 (.it .i64 3)]
.ret)))⟩
def c270 : Ev.Fn := d270.den
def p270 : Pol := { P0 .pure with loc := [1], ord := [(0, [1, 0])], clr := [(1, [3])] }
theorem r270 : FnOK Tryz.prog mds 270 c270 := .read (pol := p270) (d := d270) Tryz.func270 (by kernel_rfl) (by kernel_rfl) rfl rfl (by kernel_rfl)

def d271 : DFn := ⟨[(.c .one), (.c .one)], [(.c .one)], .rw, [.tmp 4],
(s [mK 4 .np]
(.seq (s [mV 7 1, nK 8 7, fA 9 2 8, lQ 10 6 9, cP 11 321 [t 10], o 12 (.un .not (t 11))]
(.cond (t 12)
(s [mK 4 .np]
.ret)
.skip))
(.seq (s [mV 13 0, nK 14 13, fA 15 25 14, lD 16 1 15, lN 17 false 16, mK 18 (.it .i64 0)]
(.blk 0 (.loop [1, 16, 17, 18] []
(s [o 19 (b .lss (t 18) (t 17))]
(.seq (.cond (t 19)
.skip
(.exit 0))
(.seq (.blk 1 (s [o 20 (.ias 1 (t 16) (t 18)), lD 21 1 20, mV 6 21]
(.seq (s [mV 22 6, mV 23 1, o 24 (.hnd (.eqp .eql) [t 22, t 23])]
(.cond (t 24)
(s [mK 4 .np]
.ret)
.skip))
(.seq (.reg true [
mV 25 6, cR 26 268 [t 25], mV 27 26, w 28 27 (.mov (t 6)), w 29 27 (.nck (t 28)), w 30 27 (.fad 2 (t 29)), w 31 27 (.ld 6 true (t 30)), w 32 27 (.call false .pure 321 [t 31]), o 33 (.pick (t 27) (t 32) (.k (.bo false))), mV 34 33, w 35 34 (.mov (t 6)), w 36 34 (.nck (t 35)), w 37 34 (.fad 2 (t 36)), w 38 34 (.ld 6 true (t 37)), w 40 34 (.mov (t 1)), w 41 34 (.nck (t 40)), w 42 34 (.fad 2 (t 41)), w 43 34 (.ld 6 true (t 42)), w 39 34 (.call false .pure 227 [t 38]), w 44 34 (.call false .pure 227 [t 43]), w 45 34 (b .eql (t 39) (t 44)), o 46 (.pick (t 34) (t 45) (.k (.bo false))), mV 47 46, w 48 47 (.mov (t 6)), w 49 47 (.nck (t 48)), w 50 47 (.fad 12 (t 49)), w 51 47 (.ld 1 false (t 50)), w 52 47 (.bin .ptr .eql (t 51) (.k .np)), o 53 (.pick (t 47) (t 52) (.k (.bo false))), mV 54 53, w 55 54 (.mov (t 6)), w 56 54 (.nck (t 55)), w 57 54 (.fad 13 (t 56)), w 58 54 (.ld 1 false (t 57)), w 59 54 (.bin .ptr .eql (t 58) (.k .np)), o 60 (.pick (t 54) (t 59) (.k (.bo false))), mV 61 60, w 62 61 (.mov (t 6)), w 63 61 (.nck (t 62)), w 64 61 (.fad 25 (t 63)), w 65 61 (.ld 1 false (t 64)), w 66 61 (.hnd (.eqs .eql) [t 65, (.k .ns)]), o 67 (.pick (t 61) (t 66) (.k (.bo false)))] [])
(.cond (t 67)
(s [mV 68 6, mV 4 68]
.ret)
.skip)))))
(r [o 69 (b .add (t 18) (k 1)), mV 18 69])))))))
(s [mK 4 .np]
.ret))))⟩
def c271 : Ev.Fn := d271.den
def p271 : Pol := { P0 .rw with ord := [(8, [0, 1, 2, 3, 4, 5, 6, 7, 8, 9, 10, 11, 12, 13, 15, 16, 17, 18, 14, 19, 20, 21, 22, 23, 24, 25, 26, 27, 28, 29, 30, 31, 32, 33, 34, 35, 36, 37, 38, 39, 40, 41, 42])], mask := [(4, [1, 16, 17, 18], [])], hnd := [24, 66] }
theorem r271 : FnOK Tryz.prog mds 271 c271 := .read (pol := p271) (d := d271) Tryz.func271 (by kernel_rfl) (by kernel_rfl) rfl rfl (by kernel_rfl)

def d272 : DFn := ⟨[(.g [.one, .one, .one, .one, (.sl [.one, .one]), .one, .one, (.sl [.one, .one]), .one, .one, .one, .one]), (.g [.one, .one, .one, .one, (.sl [.one, .one]), .one]), (.c .one), (.c .one)], [(.c .one)], .pure, [.tmp 8],
(s [o 4 (.box (t 0)), o 5 (.box (t 1)), mK 8 (.it .i64 0)]
(.seq (.blk 0 (s [lQ 10 12 4, lQ 11 6 5, mV 12 2, mV 13 3, cP 14 322 [t 10, t 11, t 12, t 13], mV 9 14]
(.cond (t 9)
(s [mK 8 (.it .i64 1)]
.ret)
(.seq (.reg false [
fA 16 4 5, lD 17 1 16, cP 18 284 [t 17], o 19 (.fld 5 1 false (t 18)), mV 15 19] [16])
(.cond (t 15)
(.seq (.reg false [
mK 8 (.it .i64 4)] [])
.ret)
.skip)))))
(s [mK 8 (.it .i64 2)]
.ret)))⟩
def c272 : Ev.Fn := d272.den
def p272 : Pol := { P0 .pure with loc := [4, 5], ord := [(0, [2, 0, 1])], clr := [(3, [16])] }
theorem r272 : FnOK Tryz.prog mds 272 c272 := .read (pol := p272) (d := d272) Tryz.func272 (by kernel_rfl) (by kernel_rfl) rfl rfl (by kernel_rfl)

def d274 : DFn := ⟨[(.c .one)], [(.c .one)], .pure, [.tmp 2],
(s [mK 2 (.it .i64 0)]
(.seq (s [mV 5 0, lN 6 true 5, o 7 (b .lss (t 6) (k 1)), mV 8 7, x 9 8 (.mov (t 0)), x 10 8 (.len true (t 9)), x 11 8 (b .gtr (t 10) (k 9)), o 12 (.pick (t 8) (.k (.bo true)) (t 11))]
(.cond (t 12)
(s [mK 2 (.it .i64 (-1))]
.ret)
.skip))
(s [mK 3 (.it .i64 0)]
(.seq (s [mV 13 0, lN 14 true 13, mK 15 (.it .i64 0)]
(.blk 0 (.loop [0, 3, 14, 15] []
(s [o 16 (b .lss (t 15) (t 14))]
(.seq (.cond (t 16)
.skip
(.exit 0))
(.seq (.blk 1 (s [mV 17 15, mV 4 17]
(.seq (s [mV 18 0, mV 19 4, o 20 (.ixs (t 18) (t 19)), o 21 (b .lss (t 20) (.k (.it .u8 48))), mV 22 21, x 23 22 (.mov (t 0)), x 24 22 (.mov (t 4)), x 25 22 (.ixs (t 23) (t 24)), x 26 22 (b .gtr (t 25) (.k (.it .u8 57))), o 27 (.pick (t 22) (.k (.bo true)) (t 26))]
(.cond (t 27)
(s [mK 2 (.it .i64 (-1))]
.ret)
.skip))
(r [mV 28 3, o 29 (b .mul (k 10) (t 28)), mV 30 0, mV 31 4, o 32 (.ixs (t 30) (t 31)), o 33 (b .sub (t 32) (.k (.it .u8 48))), cV 34 .i64 33, o 35 (b .add (t 29) (t 34)), mV 3 35]))))
(r [o 36 (b .add (t 15) (k 1)), mV 15 36])))))))
(s [mV 37 3, mV 2 37]
.ret)))))⟩
def c274 : Ev.Fn := d274.den
def p274 : Pol := { P0 .pure with mask := [(5, [0, 3, 14, 15], [])] }
theorem r274 : FnOK Tryz.prog mds 274 c274 := .read (pol := p274) (d := d274) Tryz.func274 (by kernel_rfl) (by kernel_rfl) rfl rfl (by kernel_rfl)

def d275 : DFn := ⟨[(.c (.sl [.one, .one])), (.c .one)], [(.c .one)], .pure, [.tmp 4],
(s [mK 4 (.bo false)]
(s [mV 8 0, mV 9 1, cP 10 188 [t 8, t 9], mV 7 10, eX 11 7 0, eX 12 7 1, mV 5 11, mV 6 12]
(s [mV 13 6, o 14 (b .gtr (t 13) (k 0)), mV 4 14]
.ret)))⟩
def c275 : Ev.Fn := d275.den
def p275 : Pol := P0 .pure
theorem r275 : FnOK Tryz.prog mds 275 c275 := .read (pol := p275) (d := d275) Tryz.func275 (by kernel_rfl) (by kernel_rfl) rfl rfl (by kernel_rfl)

def d277 : DFn := ⟨[(.g [.one, .one, .one, .one, (.sl [.one, .one]), .one, .one, (.sl [.one, .one]), .one, .one, .one, .one]), (.g [.one, .one, .one, .one, (.sl [.one, .one]), .one])], [(.c .one)], .pure, [.tmp 4],
(s [o 2 (.box (t 0)), o 3 (.box (t 1)), mK 4 (.bo false)]
(.seq (.reg true [
fA 5 0 2, lQ 6 6 5, lQ 8 6 3, cP 7 227 [t 6], cP 9 227 [t 8], o 10 (b .eql (t 7) (t 9)), mV 11 10, w 12 11 (.ld 12 true (t 2)), w 13 11 (.ld 6 true (t 3)), w 14 11 (.call false .pure 288 [t 12, t 13]), o 15 (.pick (t 11) (t 14) (.k (.bo false))), mV 4 15] [5])
.ret))⟩
def c277 : Ev.Fn := d277.den
def p277 : Pol := { P0 .pure with loc := [2, 3], ord := [(0, [2, 0, 1]), (1, [0, 1, 3, 2, 4, 5, 6, 7, 8, 9, 10, 11])], clr := [(1, [5])] }
theorem r277 : FnOK Tryz.prog mds 277 c277 := .read (pol := p277) (d := d277) Tryz.func277 (by kernel_rfl) (by kernel_rfl) rfl rfl (by kernel_rfl)

def d278 : DFn := ⟨[(.c .one), (.c .one)], [(.g [.one, .one, .one, .one, (.sl [.one, .one]), .one, .one, (.sl [.one, .one]), .one, .one, .one, .one])], .rw, [.cell 4 12 true],
(s [o 4 (.alc [(.st []), (.st []), (.st []), (.st []), .ns, (.it .i64 0), (.it .i64 0), .ns, (.it .i64 0), (.st []), (.it .i64 0), (.it .i64 0)])]
(s [mV 6 0, nK 7 6, fA 8 0 7, lD 9 1 8, mV 10 1, o 11 (.ias 12 (t 9) (t 10)), lQ 12 12 11, o 5 (.alc [(.st []), (.st []), (.st []), (.st []), .ns, (.it .i64 0), (.it .i64 0), .ns, (.it .i64 0), (.st []), (.it .i64 0), (.it .i64 0)]), sO 12 5 12]
(.seq (.reg true [
mV 13 0, nK 14 13, fA 15 1 14, lD 16 1 15, lQ 17 12 5, cP 18 279 [t 17], o 19 (b .sub (t 16) (t 18)), nK 20 13, fA 21 1 20, sO 1 21 19] [])
(s [mV 22 0, mV 23 0, nK 24 23, fA 25 0 24, lD 26 1 25, mV 27 1, mV 28 1, o 29 (b .add (t 28) (k 1)), o 30 (.call true .rw 325 [t 26, t 27, t 29]), nK 31 22, fA 32 0 31, sO 1 32 30]
(s [lQ 33 12 5, sO 12 4 33]
.ret)))))⟩
def c278 : Ev.Fn := d278.den
def p278 : Pol := { P0 .rw with loc := [4, 5], heap := [30], own := [30] }
theorem r278 : FnOK Tryz.prog mds 278 c278 := .read (pol := p278) (d := d278) Tryz.func278 (by kernel_rfl) (by kernel_rfl) rfl rfl (by kernel_rfl)

def d279 : DFn := ⟨[(.g [.one, .one, .one, .one, (.sl [.one, .one]), .one, .one, (.sl [.one, .one]), .one, .one, .one, .one])], [(.c .one)], .pure, [.tmp 2],
(s [o 1 (.box (t 0)), mK 2 (.it .i64 0)]
(.seq (.reg true [
fA 3 0 1, lQ 4 6 3, fA 8 0 1, fA 9 4 8, lD 10 1 9, fA 13 6 1, fA 14 1 13, lD 15 1 14, fA 18 9 1, lD 19 1 18, lN 20 true 19, cP 5 227 [t 4], lN 6 true 5, o 7 (b .add (k 100) (t 6)), cP 11 326 [t 10], o 12 (b .add (t 7) (t 11)), cP 16 326 [t 15], o 17 (b .add (t 12) (t 16)), o 21 (b .add (t 17) (t 20)), mV 2 21] [3, 8, 9, 13, 14, 18])
.ret))⟩
def c279 : Ev.Fn := d279.den
def p279 : Pol := { P0 .pure with loc := [1], ord := [(0, [1, 0]), (1, [0, 1, 5, 6, 7, 10, 11, 12, 15, 16, 17, 2, 3, 4, 8, 9, 13, 14, 18, 19])], clr := [(1, [3, 8, 9, 13, 14, 18])] }
theorem r279 : FnOK Tryz.prog mds 279 c279 := .read (pol := p279) (d := d279) Tryz.func279 (by kernel_rfl) (by kernel_rfl) rfl rfl (by kernel_rfl)

def d280 : DFn := ⟨[(.c .one), (.g [.one, .one, .one, .one, (.sl [.one, .one]), .one, .one, (.sl [.one, .one]), .one, .one, .one, .one])], [], .rw, [],
(s [o 3 (.box (t 1))]
(.seq (.reg true [
mV 4 0, mV 5 0, nK 6 5, fA 7 0 6, lD 8 1 7, lQ 9 12 3, o 10 (.bsl 12 [[(.st []), (.st []), (.st []), (.st []), .ns, (.it .i64 0), (.it .i64 0), .ns, (.it .i64 0), (.st []), (.it .i64 0), (.it .i64 0)]] [(0, (t 9))]), o 11 (.call true .rw 327 [t 8, (k 0), t 10]), nK 12 4, fA 13 0 12, sO 1 13 11] [])
(.reg true [
mV 14 0, nK 15 14, fA 16 1 15, lD 17 1 16, lQ 18 12 3, cP 19 279 [t 18], o 20 (b .add (t 17) (t 19)), nK 21 14, fA 22 1 21, sO 1 22 20] [])))⟩
def c280 : Ev.Fn := d280.den
def p280 : Pol := { P0 .rw with loc := [3], heap := [11, 10], own := [11] }
theorem r280 : FnOK Tryz.prog mds 280 c280 := .read (pol := p280) (d := d280) Tryz.func280 (by kernel_rfl) (by kernel_rfl) rfl rfl (by kernel_rfl)

end Go.Proofs.YtnnhhfjkkmakaaaGreatDoor.tab
