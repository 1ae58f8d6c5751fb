import Derived.Test.YtfnoiklmcmboeaaGreatDoorTabx1
import Derived.KernelRfl
set_option linter.unusedVariables false
set_option linter.unusedSimpArgs false
set_option linter.unusedSectionVars false
/- the functions of the seat, read off the program -/
namespace Go.Proofs.YtfnoiklmcmboeaaGreatDoor.tab
open Go hiding Fn
open Ev
def d176 : DFn := ⟨[(.g [.one]), (.c .one)], [(.g [.one]), (.c .one)], .pure, [.cell 4 1 true, .tmp 5],
(s [o 2 (.box (t 0)), o 4 (.alc [(.it .i64 0)]), mK 5 (.bo false)]
(.seq (.seq (.reg false [
mV 6 1, cP 7 93 [t 6], o 8 (.un .not (t 7)), mV 9 8, x 10 9 (.mov (t 1)), x 11 9 (.fad 0 (t 2)), x 12 9 (.ld 1 false (t 11)), x 13 9 (b .sub (k 2147483647) (t 12)), x 14 9 (b .gtr (t 10) (t 13)), o 15 (.pick (t 9) (.k (.bo true)) (t 14))] [11])
(.cond (t 15)
(.seq (.reg false [
lQ 16 1 2, sO 1 4 16, mK 5 (.bo false)] [])
.ret)
.skip))
(.seq (.reg false [
fA 17 0 2, lD 18 1 17, mV 19 1, o 20 (b .add (t 18) (t 19)), o 21 (.bld [(.it .i64 0)] [(0, 1, (t 20))]), sO 1 4 21, mK 5 (.bo true)] [17])
.ret)))⟩
def c176 : Ev.Fn := d176.den
theorem r176 : OK 176 c176 := rd d176 { P0 .pure with loc := [2, 4], ord := [(0, [2, 0, 1])], clr := [(1, [11]), (3, [17])] } Tryz.func176
def d177 : DFn := ⟨[(.c .one), (.c .one), (.c .one)], [(.c .one)], .rw, [.tmp 6],
(.seq (.reg false [
mK 6 (.bo false)] [])
(.seq (s [mV 8 2, o 9 (b .eql (t 8) (k 0))]
(.cond (t 9)
(s [mK 6 (.bo true)]
.ret)
.skip))
(.seq (s [mV 10 0, mV 11 1, cR 12 78 [t 10, t 11], mV 7 12]
(s [mV 13 7, o 14 (.bin .ptr .neq (t 13) (.k .np)), mV 15 14, w 16 15 (.mov (t 7)), w 17 15 (.call false .rw 220 [t 16]), o 18 (.pick (t 15) (t 17) (.k (.bo false)))]
(.cond (t 18)
(.seq (s [mV 19 0, mV 20 1, mV 21 2, cP 22 119 [t 21], o 23 (.bld [(.it .i64 0), (.it .i64 0), (.it .i64 0), .ns] [(0, 1, (k 8)), (2, 1, (t 20)), (3, 1, (t 22))]), cR 24 123 [t 19, t 23], o 25 (.un .not (t 24))]
(.cond (t 25)
(s [mK 6 (.bo false)]
.ret)
.skip))
(r [mV 27 7, mV 28 7, nK 29 28, fA 30 3 29, lQ 31 1 30, mV 32 2, o 33 (.call true .pure 176 [t 31, t 32]), mV 26 33, eX 34 26 0, eX 35 26 1, nK 36 27, fA 37 3 36, sO 1 37 34]))
.skip)))
(.seq (s [mV 38 0, mV 39 2, cP 40 119 [t 39], o 41 (.bld [(.it .i64 0), (.it .i64 0), (.it .i64 0), .ns] [(0, 1, (k 8)), (3, 1, (t 40))]), cR 42 123 [t 38, t 41], o 43 (.un .not (t 42))]
(.cond (t 43)
(s [mK 6 (.bo false)]
.ret)
.skip))
(s [mV 45 0, mV 46 0, nK 47 46, fA 48 14 47, lQ 49 1 48, mV 50 2, o 51 (.call true .pure 176 [t 49, t 50]), mV 44 51, eX 52 44 0, eX 53 44 1, nK 54 45, fA 55 14 54, sO 1 55 52]
(s [mK 6 (.bo true)]
.ret))))))⟩
def c177 : Ev.Fn := d177.den
theorem r177 : OK 177 c177 := rd d177 { P0 .rw with heap := [33, 51], own := [33, 51] } Tryz.func177
def d178 : DFn := ⟨[(.c .one), (.c .one)], [(.c (.sl [.one]))], .pure, [.tmp 4],
(s [mK 4 .ns]
(s [mV 5 0, mV 6 1, cP 7 221 [t 5, t 6, (k 0), (.k (.it .i64 (-1)))], mV 4 7]
.ret))⟩
def c178 : Ev.Fn := d178.den
theorem r178 : OK 178 c178 := rd d178 (P0 .pure) Tryz.func178
def d179 : DFn := ⟨[(.c .one), (.c .one)], [(.c .one), (.c .one), (.c .one)], .pure, [.tmp 4, .tmp 5, .tmp 6],
(s [mK 4 (.st []), mK 5 (.st []), mK 6 (.bo false)]
(s [mV 7 0, mV 8 1, cP 9 222 [t 7, t 8], eX 10 9 0, eX 11 9 1, eX 12 9 2, mV 4 10, mV 5 11, mV 6 12]
.ret))⟩
def c179 : Ev.Fn := d179.den
theorem r179 : OK 179 c179 := rd d179 (P0 .pure) Tryz.func179
def d180 : DFn := ⟨[(.c (.sl [.one, .one]))], [(.g [.one, .one, .one, .one, (.sl [.one, .one]), .one]), (.c .one)], .pure, [.cell 2 6 true, .tmp 3],
(s [o 2 (.alc [(.st []), (.st []), (.st []), (.st []), .ns, (.it .i64 0)]), mK 3 (.bo false)]
(s [mK 4 (.it .i64 0)]
(.seq (.blk 0 (.loop [0, 2, 4] []
(.seq (s [mV 9 4, mV 10 0, lN 11 false 10, o 12 (b .lss (t 9) (t 11)), mV 13 12, w 14 13 (.mov (t 0)), w 15 13 (.mov (t 4)), w 16 13 (.ias 2 (t 14) (t 15)), w 17 13 (.ld 2 true (t 16)), w 18 13 (.call false .pure 223 [t 17]), o 19 (.pick (t 13) (t 18) (.k (.bo false)))]
(.cond (t 19)
.skip
(.exit 0)))
(.blk 1 (r [mV 20 4, o 21 (b .add (t 20) (k 1)), mV 4 21])))))
(s [o 5 (.alh [(.st []), (.st []), (.st []), (.st []), .ns, (.it .i64 0)])]
(.seq (s [mV 22 0, mV 23 4, o 24 (.slc false 2 (t 22) none (some (t 23))), cR 25 224 [t 24, t 5], o 26 (.un .not (t 25)), mV 27 26, x 28 27 (.ld 6 true (t 5)), x 29 27 (.call false .pure 225 [t 28]), x 30 27 (.un .not (t 29)), o 31 (.pick (t 27) (.k (.bo true)) (t 30))]
(.cond (t 31)
(s [o 32 (.bld [(.st []), (.st []), (.st []), (.st []), .ns, (.it .i64 0)] []), sO 6 2 32, mK 3 (.bo false)]
.ret)
.skip))
(s [mV 34 0, mV 35 4, o 36 (.slc false 2 (t 34) (some (t 35)) none), o 37 (.call true .pure 226 [t 36]), mV 33 37, eX 38 33 0, eX 39 33 1, eX 40 33 2, mV 6 38, mV 7 39, mV 8 40]
(.seq (s [mV 41 8, o 42 (.un .not (t 41))]
(.cond (t 42)
(s [o 43 (.bld [(.st []), (.st []), (.st []), (.st []), .ns, (.it .i64 0)] []), sO 6 2 43, mK 3 (.bo false)]
.ret)
.skip))
(s [mV 44 6, mV 45 7, fA 46 4 5, sO 1 46 44, fA 47 5 5, sO 1 47 45]
(s [lQ 48 6 5, sO 6 2 48, mK 3 (.bo true)]
.ret)))))))))⟩
def c180 : Ev.Fn := d180.den
theorem r180 : OK 180 c180 := rd d180 { P0 .pure with loc := [2], heap := [37], own := [37], ord := [(0, [1, 0])], mask := [(2, [0, 2, 4], [])] } Tryz.func180
def d181 : DFn := ⟨[(.c .one), (.c .one)], [], .rw, [],
(s [mV 9 1, mV 10 1, nK 11 10, fA 12 2 11, lQ 13 6 12, nK 14 9, fA 15 14 14, sO 6 15 13]
(.seq (s [mV 16 1, cR 17 227 [t 16], o 18 (.un .not (t 17))]
(.cond (t 18)
(s [mV 19 1, nK 20 19, fA 21 11 20, n (.sto 1 (t 21) (.k (.bo true)))]
.ret)
.skip))
(.seq (.reg true [
mV 23 0, nK 24 23, fA 25 23 24, lD 26 1 25, mV 27 1, nK 28 27, fA 29 2 28, lQ 30 6 29, u 4 [25, 29] (.alc [(.st []), (.st []), (.st []), (.st []), .ns, (.it .i64 0), (.it .i64 0), .ns, (.it .i64 0), (.st []), (.it .i64 0), (.it .i64 0)]), cR 31 228 [t 26, t 30], mV 22 31, eX 32 22 0, eX 33 22 1, sO 12 4 32, mV 5 33] [])
(.seq (s [mV 34 5, o 35 (.un .not (t 34))]
(.cond (t 35)
(.seq (s [mV 36 1, nK 37 36, fA 38 2 37, lQ 39 6 38, cP 40 229 [t 39], o 41 (b .eql (t 40) (k 4))]
(.cond (t 41)
(r [mV 42 1, cR 43 139 [t 42, (k 504)]])
(s [mV 44 0, mV 45 1, o 46 (.call true .rw 230 [t 44, t 45]), mV 6 46]
(s [mV 47 6, o 48 (.bin .ptr .neq (t 47) (.k .np))]
(.cond (t 48)
(r [mV 49 1, mV 50 6, nK 51 49, fA 52 12 51, sO 1 52 50])
(r [mV 53 1, nK 54 53, fA 55 11 54, n (.sto 1 (t 55) (.k (.bo true)))]))))))
.ret)
.skip))
(.seq (.reg true [
lQ 56 12 4, mV 57 1, nK 58 57, fA 59 2 58, lQ 60 6 59, mV 61 0, nK 62 61, fA 63 24 62, lD 64 1 63, mV 65 0, nK 66 65, fA 67 0 66, fA 68 1 67, lD 69 1 68, cP 70 231 [t 56, t 60, t 64, t 69]] [])
(.blk 0 (s [o 92 (b .eql (t 70) (k 1)), mV 91 92]
(.cond (t 91)
(r [mV 93 0, mV 94 1, lQ 95 12 4, cR 96 185 [t 93, t 94, t 95]])
(s [o 98 (b .eql (t 70) (k 4)), mV 97 98]
(.cond (t 97)
(r [mV 99 1, cR 100 139 [t 99, (k 504)]])
(s [mV 71 1, nK 72 71, fA 73 11 72, n (.sto 1 (t 73) (.k (.bo true)))]
(.seq (.reg true [
lQ 75 12 4, mV 76 1, nK 77 76, fA 78 2 77, lQ 79 6 78, u 7 [4, 78] (.alc [(.st []), (.st []), (.st []), (.st []), .ns, (.it .i64 0)]), cP 80 232 [t 75, t 79], mV 74 80, eX 81 74 0, eX 82 74 1, sO 6 7 81, mV 8 82] [])
(s [mV 83 8]
(.cond (t 83)
(r [mV 84 1, mV 85 1, lQ 86 6 7, nK 87 84, fA 88 14 87, sO 6 88 86, nK 89 85, fA 90 13 89, n (.stp (t 90) (t 4))])
.skip))))))))))))))⟩
def c181 : Ev.Fn := d181.den
theorem r181 : OK 181 c181 := rd d181 { P0 .rw with loc := [4, 7], heap := [46], own := [46], ord := [(3, [0, 1, 2, 3, 4, 5, 6, 7, 12, 8, 9, 10, 11, 13, 14]), (13, [0, 1, 2, 3, 4, 9, 5, 6, 7, 8, 10, 11])], pro := [4] } Tryz.func181
def d182 : DFn := ⟨[(.c (.sl [.one, .one]))], [(.g [.one, (.sl [.one, .one]), .one]), (.c .one)], .pure, [.cell 2 3 true, .tmp 3],
(s [o 2 (.alc [(.it .i64 0), .ns, (.it .i64 0)]), mK 3 (.bo false)]
(.seq (s [mV 8 0, lN 9 false 8, o 10 (b .eql (t 9) (k 0)), mV 11 10, x 12 11 (.mov (t 0)), x 13 11 (.ias 2 (t 12) (k 0)), x 14 11 (.fad 0 (t 13)), x 15 11 (.ld 1 false (t 14)), x 16 11 (b .neq (t 15) (.k (.st [58, 115, 116, 97, 116, 117, 115]))), o 17 (.pick (t 11) (.k (.bo true)) (t 16)), mV 18 17, x 19 18 (.mov (t 0)), x 20 18 (.ias 2 (t 19) (k 0)), x 21 18 (.fad 1 (t 20)), x 22 18 (.ld 1 false (t 21)), x 23 18 (.len true (t 22)), x 24 18 (b .neq (t 23) (k 3)), o 25 (.pick (t 18) (.k (.bo true)) (t 24))]
(.cond (t 25)
(s [o 26 (.bld [(.it .i64 0), .ns, (.it .i64 0)] []), sO 3 2 26, mK 3 (.bo false)]
.ret)
.skip))
(s [mV 27 0, o 28 (.ias 2 (t 27) (k 0)), fA 29 1 28, lD 30 1 29, cP 31 233 [t 30], mV 4 31]
(.seq (s [mV 32 4, o 33 (b .lss (t 32) (k 100)), mV 34 33, x 35 34 (.mov (t 4)), x 36 34 (b .gtr (t 35) (k 599)), o 37 (.pick (t 34) (.k (.bo true)) (t 36)), mV 38 37, x 39 38 (.mov (t 4)), x 40 38 (b .eql (t 39) (k 101)), o 41 (.pick (t 38) (.k (.bo true)) (t 40))]
(.cond (t 41)
(s [o 42 (.bld [(.it .i64 0), .ns, (.it .i64 0)] []), sO 3 2 42, mK 3 (.bo false)]
.ret)
.skip))
(s [mV 44 0, o 45 (.slc false 2 (t 44) (some (k 1)) none), cP 46 226 [t 45], mV 43 46, eX 47 43 0, eX 48 43 1, eX 49 43 2, mV 5 47, mV 6 48, mV 7 49]
(.seq (s [mV 50 7, o 51 (.un .not (t 50))]
(.cond (t 51)
(s [o 52 (.bld [(.it .i64 0), .ns, (.it .i64 0)] []), sO 3 2 52, mK 3 (.bo false)]
.ret)
.skip))
(s [mV 53 4, mV 54 5, mV 55 6, o 56 (.bld [(.it .i64 0), .ns, (.it .i64 0)] [(0, 1, (t 53)), (1, 1, (t 54)), (2, 1, (t 55))]), sO 3 2 56, mK 3 (.bo true)]
.ret)))))))⟩
def c182 : Ev.Fn := d182.den
theorem r182 : OK 182 c182 := rd d182 { P0 .pure with loc := [2], ord := [(0, [1, 0])] } Tryz.func182
def d184 : DFn := ⟨[(.c .one), (.g [.one, .one, .one, .one, (.sl [.one, .one]), .one, .one, (.sl [.one, .one]), .one, .one, .one, .one])], [(.c .one)], .rw, [.tmp 4],
(s [o 3 (.box (t 1)), mK 4 (.bo false)]
(.seq (s [mV 7 0, nK 8 7, fA 9 0 8, lD 10 1 9, lN 11 false 10, o 12 (b .sub (t 11) (k 1)), mV 5 12]
(.blk 0 (.loop [0, 3, 5] []
(.seq (s [mV 13 5, o 14 (b .geq (t 13) (k 0))]
(.cond (t 14)
.skip
(.exit 0)))
(.seq (.blk 1 (.seq (.reg true [
mV 17 0, nK 18 17, fA 19 0 18, lD 20 1 19, mV 21 5, o 22 (.ias 12 (t 20) (t 21)), lQ 23 12 22, fA 24 0 3, lQ 25 6 24, cP 26 236 [t 23, t 25]] [24])
(.cond (t 26)
(r [mV 27 0, mV 28 5, cR 29 237 [t 27, t 28]])
.skip)))
(r [mV 15 5, o 16 (b .sub (t 15) (k 1)), mV 5 16]))))))
(s [lQ 30 12 3, cP 31 238 [t 30], mV 6 31]
(.seq (s [mV 32 6, mV 33 0, nK 34 33, fA 35 2 34, lD 36 1 35, o 37 (b .gtr (t 32) (t 36))]
(.cond (t 37)
(s [mK 4 (.bo false)]
.ret)
.skip))
(.seq (.blk 2 (.loop [0, 3, 6] []
(.seq (.seq (.reg true [
mV 38 0, nK 39 38, fA 40 1 39, lD 41 1 40, mV 42 0, nK 43 42, fA 44 2 43, lD 45 1 44, mV 46 6, o 47 (b .sub (t 45) (t 46)), o 48 (b .gtr (t 41) (t 47))] [])
(.cond (t 48)
.skip
(.exit 2)))
(.blk 3 (r [mV 49 0, mV 50 0, nK 51 50, fA 52 0 51, lD 53 1 52, lN 54 false 53, o 55 (b .sub (t 54) (k 1)), cR 56 237 [t 49, t 55]])))))
(s [mV 57 0, lQ 58 12 3, cP 59 240 [t 58], cR 60 239 [t 57, t 59]]
(s [mK 4 (.bo true)]
.ret)))))))⟩
def c184 : Ev.Fn := d184.den
theorem r184 : OK 184 c184 := rd d184 { P0 .rw with loc := [3], ord := [(0, [1, 0])], clr := [(4, [24])], mask := [(2, [0, 3, 5], []), (9, [0, 3, 6], [])] } Tryz.func184
def d185 : DFn := ⟨[(.c .one), (.c .one), (.g [.one, .one, .one, .one, (.sl [.one, .one]), .one, .one, (.sl [.one, .one]), .one, .one, .one, .one])], [], .rw, [],
(s [o 5 (.box (t 2))]
(.seq (.reg true [
fA 11 6 5, fA 12 0 11, lD 13 1 12, fA 14 9 5, lD 15 1 14, mV 6 13, mV 7 15] [11, 12, 14])
(.seq (.seq (.reg true [
mV 16 6, o 17 (b .eql (t 16) (k 200)), mV 18 17, w 19 18 (.ld 12 true (t 5)), w 20 18 (.mov (t 1)), w 21 18 (.nck (t 20)), w 22 18 (.fad 2 (t 21)), w 23 18 (.ld 6 true (t 22)), w 24 18 (.call false .pure 241 [t 19, t 23]), o 25 (.pick (t 18) (t 24) (.k (.bo false)))] [])
(.cond (t 25)
(r [mK 6 (.it .i64 304)])
.skip))
(s [mV 26 6, cP 27 186 [t 26], o 28 (.bld [(.st []), (.st [])] [(0, 1, (.k (.st [58, 115, 116, 97, 116, 117, 115]))), (1, 1, (t 27))]), o 29 (.bsl 2 [[(.st []), (.st [])]] [(0, (t 28))]), mV 8 29]
(.seq (.seq (.reg false [
fA 30 6 5, fA 31 1 30, lD 32 1 31, lN 33 false 32, mK 34 (.it .i64 0)] [30, 31])
(.blk 0 (.loop [0, 1, 5, 6, 7, 8, 32, 33, 34] [10]
(.seq (.reg false [
o 35 (b .lss (t 34) (t 33))] [])
(.seq (.cond (t 35)
.skip
(.exit 0))
(.seq (.blk 1 (s [o 36 (.ias 2 (t 32) (t 34)), lQ 37 2 36, o 10 (.alc [(.st []), (.st [])]), sO 2 10 37]
(.seq (.seq (.reg false [
fA 38 0 10, lD 39 1 38] [38])
(.blk 2 (.seq (.reg false [
o 41 (b .eql (t 39) (.k (.st [97, 103, 101]))), mV 40 41] [])
(.cond (t 40)
(.exit 1)
(.seq (s [o 43 (b .eql (t 39) (.k (.st [99, 111, 110, 116, 101, 110, 116, 45, 108, 101, 110, 103, 116, 104]))), mV 42 43]
(.cond (t 42)
.skip
(s [o 44 (b .eql (t 39) (.k (.st [99, 111, 110, 116, 101, 110, 116, 45, 116, 121, 112, 101]))), mV 42 44]
(.cond (t 42)
.skip
(r [o 45 (b .eql (t 39) (.k (.st [99, 111, 110, 116, 101, 110, 116, 45, 101, 110, 99, 111, 100, 105, 110, 103]))), mV 42 45])))))
(.cond (t 42)
(s [mV 46 6, o 47 (b .eql (t 46) (k 304))]
(.cond (t 47)
(.exit 1)
.skip))
.skip))))))
(r [mV 48 8, lQ 49 2 10, o 50 (.bsv [.one, .one] 2 [[(.st []), (.st [])]] [(0, (t 49))]), o 51 (.app 2 32 (t 48) (t 50)), mV 8 51]))))
(r [o 52 (b .add (t 34) (k 1)), mV 34 52])))))))
(.seq (s [mV 53 6, o 54 (b .eql (t 53) (k 304))]
(.cond (t 54)
(r [mK 7 (.st [])])
.skip))
(.reg true [
mV 55 1, mV 56 8, lQ 57 12 5, mV 58 0, nK 59 58, fA 60 24 59, lD 61 1 60, mV 68 7, cP 62 242 [t 57, t 61], cP 63 186 [t 62], o 64 (.bld [(.st []), (.st [])] [(0, 1, (.k (.st [97, 103, 101]))), (1, 1, (t 63))]), cP 65 105 [], o 66 (.bsv [.one, .one] 2 [[(.st []), (.st [])], [(.st []), (.st [])]] [(0, (t 64)), (1, (t 65))]), o 67 (.app 2 32 (t 56) (t 66)), cR 69 195 [t 55, t 67, t 68]] [])))))))⟩
def c185 : Ev.Fn := d185.den
theorem r185 : OK 185 c185 := rd d185 { P0 .rw with loc := [5, 10], heap := [29, 51], own := [29, 51], ord := [(18, [0, 1, 2, 3, 4, 5, 6, 13, 7, 8, 9, 10, 11, 12, 14])], clr := [(1, [11, 12, 14]), (5, [30, 31]), (8, [38])], mask := [(6, [0, 1, 5, 6, 7, 8, 32, 33, 34], [10])] } Tryz.func185
def d187 : DFn := ⟨[(.g [.one, .one, .one, .one, (.sl [.one, .one]), .one]), (.g [.one, (.sl [.one, .one]), .one])], [(.c .one)], .pure, [.tmp 4],
(s [o 2 (.box (t 0)), o 3 (.box (t 1)), mK 4 (.bo false)]
(.seq (.seq (.reg false [
fA 5 0 2, lD 6 1 5] [5])
(.blk 0 (.seq (.seq (.reg false [
o 8 (b .eql (t 6) (.k (.st [71, 69, 84]))), mV 7 8] [])
(.cond (t 7)
.skip
(s [o 9 (b .eql (t 6) (.k (.st [72, 69, 65, 68]))), mV 7 9]
(.cond (t 7)
.skip
(s [o 10 (b .eql (t 6) (.k (.st [79, 80, 84, 73, 79, 78, 83]))), mV 7 10]
(.cond (t 7)
.skip
(r [o 11 (b .eql (t 6) (.k (.st [84, 82, 65, 67, 69]))), mV 7 11])))))))
(.cond (t 7)
(s [mK 4 (.bo false)]
.ret)
.skip))))
(.seq (.reg false [
fA 12 0 3, lD 13 1 12, o 14 (b .geq (t 13) (k 200)), mV 15 14, w 16 15 (.fad 0 (t 3)), w 17 15 (.ld 1 false (t 16)), w 18 15 (b .lss (t 17) (k 400)), o 19 (.pick (t 15) (t 18) (.k (.bo false))), mV 4 19] [12, 16])
.ret)))⟩
def c187 : Ev.Fn := d187.den
theorem r187 : OK 187 c187 := rd d187 { P0 .pure with loc := [2, 3], ord := [(0, [2, 0, 1])], clr := [(1, [5]), (7, [12, 16])] } Tryz.func187
def d189 : DFn := ⟨[(.g [.one, .one, .one, .one, (.sl [.one, .one]), .one])], [(.c .one)], .pure, [.tmp 2],
(.seq (.reg false [
o 1 (.box (t 0)), mK 2 (.st [])] [])
(.seq (.reg false [
fA 3 1 1, lD 4 1 3, o 5 (b .add (t 4) (.k (.st [58, 47, 47]))), fA 6 2 1, lD 7 1 6, o 8 (b .add (t 5) (t 7)), fA 9 3 1, lD 10 1 9, o 11 (b .add (t 8) (t 10)), mV 2 11] [3, 6, 9])
.ret))⟩
def c189 : Ev.Fn := d189.den
theorem r189 : OK 189 c189 := rd d189 { P0 .pure with loc := [1], ord := [(0, [1, 0])], clr := [(1, [3, 6, 9])] } Tryz.func189
def d190 : DFn := ⟨[(.g [.one, .one, .one, .one, (.sl [.one, .one]), .one]), (.g [.one, (.sl [.one, .one]), .one])], [(.c .one)], .pure, [.tmp 4],
(.seq (.reg false [
o 2 (.box (t 0)), o 3 (.box (t 1)), mK 4 (.bo false)] [])
(.seq (.seq (.reg false [
fA 10 0 2, lD 11 1 10, o 12 (b .neq (t 11) (.k (.st [71, 69, 84]))), mV 13 12, x 14 13 (.fad 0 (t 3)), x 15 13 (.ld 1 false (t 14)), x 16 13 (b .lss (t 15) (k 200)), o 17 (.pick (t 13) (.k (.bo true)) (t 16)), mV 18 17, x 19 18 (.fad 0 (t 3)), x 20 18 (.ld 1 false (t 19)), x 21 18 (b .eql (t 20) (k 206)), o 22 (.pick (t 18) (.k (.bo true)) (t 21)), mV 23 22, x 24 23 (.fad 0 (t 3)), x 25 23 (.ld 1 false (t 24)), x 26 23 (b .eql (t 25) (k 304)), o 27 (.pick (t 23) (.k (.bo true)) (t 26))] [10, 14, 19, 24])
(.cond (t 27)
(.seq (.reg false [
mK 4 (.bo false)] [])
.ret)
.skip))
(.seq (.reg true [
fA 28 4 2, lD 29 1 28, fA 31 1 3, lD 32 1 31, u 5 [28, 31, 28, 31, 6] (.alc [(.bo false), (.bo false), (.bo false), (.bo false), (.bo false), (.bo false), (.it .i64 0), (.it .i64 0), (.it .i64 0), (.it .i64 0)]), u 6 [28, 31, 28, 31, 5] (.alc [(.bo false), (.bo false), (.bo false), (.bo false), (.bo false), (.bo false), (.it .i64 0), (.it .i64 0), (.it .i64 0), (.it .i64 0)]), cP 30 244 [t 29], cP 33 244 [t 32], sO 10 5 30, sO 10 6 33] [28, 31])
(.seq (.seq (.reg false [
fA 34 0 5, lD 35 1 34, mV 36 35, x 37 36 (.fad 0 (t 6)), x 38 36 (.ld 1 false (t 37)), o 39 (.pick (t 36) (.k (.bo true)) (t 38)), mV 40 39, x 41 40 (.fad 2 (t 6)), x 42 40 (.ld 1 false (t 41)), o 43 (.pick (t 40) (.k (.bo true)) (t 42))] [34, 37, 41])
(.cond (t 43)
(.seq (.reg false [
mK 4 (.bo false)] [])
.ret)
.skip))
(.seq (.seq (.reg false [
fA 45 1 3, lD 46 1 45, cP 47 245 [t 46], mV 44 47, eX 48 44 0, eX 49 44 1, mV 7 48, mV 8 49] [45])
(.seq (.reg false [
mV 50 8] [])
(.cond (t 50)
(s [mK 4 (.bo false)]
.ret)
.skip)))
(.seq (.reg false [
fA 51 7 6, lD 52 1 51, o 53 (b .geq (t 52) (k 0)), mV 9 53] [51])
(.seq (.seq (.reg false [
fA 54 4 2, lD 55 1 54, o 56 (.call false .pure 246 [t 55, (.k (.st [97, 117, 116, 104, 111, 114, 105, 122, 97, 116, 105, 111, 110]))]), mV 57 56, w 58 57 (.fad 4 (t 6)), w 59 57 (.ld 1 false (t 58)), w 60 57 (.un .not (t 59)), o 61 (.pick (t 57) (t 60) (.k (.bo false))), mV 62 61, w 63 62 (.fad 3 (t 6)), w 64 62 (.ld 1 false (t 63)), w 65 62 (.un .not (t 64)), o 66 (.pick (t 62) (t 65) (.k (.bo false))), mV 67 66, w 68 67 (.mov (t 9)), w 69 67 (.un .not (t 68)), o 70 (.pick (t 67) (t 69) (.k (.bo false)))] [54, 58, 63])
(.cond (t 70)
(.seq (.reg false [
mK 4 (.bo false)] [])
.ret)
.skip))
(.seq (.reg false [
fA 71 3 6, lD 72 1 71, mV 73 72, x 74 73 (.mov (t 9)), o 75 (.pick (t 73) (.k (.bo true)) (t 74)), mV 76 75, x 77 76 (.fad 6 (t 6)), x 78 76 (.ld 1 false (t 77)), x 79 76 (b .geq (t 78) (k 0)), o 80 (.pick (t 76) (.k (.bo true)) (t 79)), mV 81 80, x 82 81 (.fad 1 (t 3)), x 83 81 (.ld 1 false (t 82)), x 84 81 (.call false .pure 246 [t 83, (.k (.st [101, 120, 112, 105, 114, 101, 115]))]), o 85 (.pick (t 81) (.k (.bo true)) (t 84)), mV 86 85, x 87 86 (.fad 0 (t 3)), x 88 86 (.ld 1 false (t 87)), x 89 86 (.call false .pure 247 [t 88]), o 90 (.pick (t 86) (.k (.bo true)) (t 89)), mV 4 90] [71, 77, 82, 87])
.ret))))))))⟩
def c190 : Ev.Fn := d190.den
theorem r190 : OK 190 c190 := rd d190 { P0 .pure with loc := [2, 3, 5, 6], ord := [(0, [2, 0, 1]), (3, [0, 1, 3, 4, 6, 7, 2, 5, 8, 9])], clr := [(1, [10, 14, 19, 24]), (3, [28, 31]), (4, [34, 37, 41]), (6, [45]), (9, [51]), (10, [54, 58, 63]), (12, [71, 77, 82, 87])] } Tryz.func190
def d191 : DFn := ⟨[(.c .one), (.c .one)], [], .rw, [],
(.seq (.reg true [
mV 6 1, mV 7 1, nK 8 7, fA 9 33 8, lD 10 1 9, mV 11 10, w 12 11 (.mov (t 1)), w 13 11 (.nck (t 12)), w 14 11 (.fad 34 (t 13)), w 15 11 (.ld 12 true (t 14)), w 17 11 (.mov (t 0)), w 18 11 (.nck (t 17)), w 19 11 (.fad 0 (t 18)), w 20 11 (.fad 0 (t 19)), w 21 11 (.ld 1 false (t 20)), w 16 11 (.call false .pure 238 [t 15]), w 22 11 (b .leq (t 16) (t 21)), o 23 (.pick (t 11) (t 22) (.k (.bo false))), nK 24 6, fA 25 33 24, sO 1 25 23] [])
(s [mV 26 0, mV 27 1, cR 28 135 [t 26, t 27], lN 29 false 28, mK 30 (.it .i64 0)]
(.blk 0 (.loop [1, 28, 29, 30] []
(s [o 31 (b .lss (t 30) (t 29))]
(.seq (.cond (t 31)
.skip
(.exit 0))
(.seq (.blk 1 (s [o 32 (.ias 1 (t 28) (t 30)), lD 33 1 32, mV 5 33]
(.seq (.reg true [
mV 34 1, nK 35 34, fA 36 33 35, lD 37 1 36, o 38 (.un .not (t 37)), mV 39 38, x 40 39 (.mov (t 1)), x 41 39 (.nck (t 40)), x 42 39 (.fad 34 (t 41)), x 43 39 (.ld 12 true (t 42)), x 44 39 (.mov (t 5)), x 45 39 (.nck (t 44)), x 46 39 (.fad 2 (t 45)), x 47 39 (.ld 6 true (t 46)), x 48 39 (.call false .pure 248 [t 43, t 47]), x 49 39 (.un .not (t 48)), o 50 (.pick (t 39) (.k (.bo true)) (t 49))] [])
(.cond (t 50)
(r [mV 51 5, mV 52 5, nK 53 51, fA 54 12 53, n (.sto 1 (t 54) (.k .np)), nK 55 52, fA 56 11 55, n (.sto 1 (t 56) (.k (.bo true)))])
.skip))))
(r [o 57 (b .add (t 30) (k 1)), mV 30 57]))))))))⟩
def c191 : Ev.Fn := d191.den
theorem r191 : OK 191 c191 := rd d191 { P0 .rw with ord := [(0, [0, 1, 2, 3, 4, 5, 6, 7, 8, 9, 11, 12, 13, 14, 15, 10, 16, 17, 18, 19, 20]), (1, [0, 1, 4, 2, 3])], mask := [(2, [1, 28, 29, 30], [])] } Tryz.func191
def d192 : DFn := ⟨[(.c .one), (.c .one)], [], .rw, [],
(.seq (.seq (.reg true [
mV 8 1, nK 9 8, fA 10 30 9, lD 11 1 10, o 12 (b .geq (t 11) (k 0)), mV 13 12, w 14 13 (.mov (t 1)), w 15 13 (.nck (t 14)), w 16 13 (.fad 32 (t 15)), w 17 13 (.ld 1 false (t 16)), w 18 13 (.mov (t 1)), w 19 13 (.nck (t 18)), w 20 13 (.fad 30 (t 19)), w 21 13 (.ld 1 false (t 20)), w 22 13 (b .neq (t 17) (t 21)), o 23 (.pick (t 13) (t 22) (.k (.bo false))), mV 24 23, w 25 24 (.mov (t 1)), w 26 24 (.nck (t 25)), w 27 24 (.fad 31 (t 26)), w 28 24 (.ld 1 false (t 27)), w 29 24 (.mov (t 28)), w 30 29 (.mov (t 1)), w 31 29 (.nck (t 30)), w 32 29 (.fad 32 (t 31)), w 33 29 (.ld 1 false (t 32)), w 34 29 (b .eql (t 33) (k 0)), w 35 24 (.pick (t 29) (t 34) (.k (.bo false))), w 36 24 (.un .not (t 35)), o 37 (.pick (t 24) (t 36) (.k (.bo false)))] [])
(.cond (t 37)
(s [mV 38 0, mV 39 1, cR 40 136 [t 38, t 39]]
(s [mV 41 0, mV 42 1, cR 43 100 [t 41, t 42]]
.ret))
.skip))
(s [mV 44 1, nK 45 44, fA 46 29 45, n (.sto 1 (t 46) (.k (.bo true)))]
(.seq (s [mV 47 1, nK 48 47, fA 49 33 48, lD 50 1 49]
(.cond (t 50)
(.reg true [
mV 51 0, nK 52 51, fA 53 23 52, lD 54 1 53, mV 55 1, nK 56 55, fA 57 34 56, lQ 58 12 57, cR 59 184 [t 54, t 58]] [])
.skip))
(.seq (s [mV 60 0, mV 61 1, cR 62 135 [t 60, t 61], lN 63 false 62, mK 64 (.it .i64 0)]
(.blk 0 (.loop [0, 1, 62, 63, 64] [6]
(s [o 65 (b .lss (t 64) (t 63))]
(.seq (.cond (t 65)
.skip
(.exit 0))
(.seq (.blk 1 (s [o 66 (.ias 1 (t 62) (t 64)), lD 67 1 66, mV 5 67]
(s [mV 68 5, nK 69 68, fA 70 12 69, n (.sto 1 (t 70) (.k .np))]
(s [o 71 (.bld [(.st []), (.st []), (.st []), (.st []), .ns, (.it .i64 0), (.it .i64 0), .ns, (.it .i64 0), (.st []), (.it .i64 0), (.it .i64 0)] []), o 6 (.alc [(.st []), (.st []), (.st []), (.st []), .ns, (.it .i64 0), (.it .i64 0), .ns, (.it .i64 0), (.st []), (.it .i64 0), (.it .i64 0)]), sO 12 6 71, mK 7 (.bo false)]
(.seq (s [mV 72 1, nK 73 72, fA 74 33 73, lD 75 1 74]
(.cond (t 75)
(.reg true [
mV 77 0, nK 78 77, fA 79 23 78, lD 80 1 79, mV 81 5, nK 82 81, fA 83 2 82, lQ 84 6 83, cR 85 228 [t 80, t 84], mV 76 85, eX 86 76 0, eX 87 76 1, sO 12 6 86, mV 7 87] [])
.skip))
(s [mV 88 7]
(.cond (t 88)
(r [mV 89 0, mV 90 5, lQ 91 12 6, cR 92 185 [t 89, t 90, t 91]])
(r [mV 93 5, nK 94 93, fA 95 11 94, n (.sto 1 (t 95) (.k (.bo true)))]))))))))
(r [o 96 (b .add (t 64) (k 1)), mV 64 96])))))))
(s [mV 97 1, nK 98 97, fA 99 0 98, lD 100 1 99, o 101 (b .lss (t 100) (k 0))]
(.cond (t 101)
(s [mV 102 0, mV 103 1, cR 104 136 [t 102, t 103]]
(r [mV 105 0, mV 106 1, cR 107 137 [t 105, t 106]]))
.skip))))))⟩
def c192 : Ev.Fn := d192.den
theorem r192 : OK 192 c192 := rd d192 { P0 .rw with loc := [6], ord := [(6, [0, 1, 4, 2, 3])], mask := [(7, [0, 1, 62, 63, 64], [6])] } Tryz.func192
def d193 : DFn := ⟨[(.c (.sl [.one])), (.c .one)], [(.c (.sl [.one]))], .rw, [.tmp 4],
(s [mK 4 .ns]
(s [mV 8 0, mV 9 1, cR 10 249 [t 8, t 9], mV 5 10]
(.seq (s [mV 11 5, o 12 (b .eql (t 11) (.k (.it .i64 (-1))))]
(.cond (t 12)
(s [mV 13 0, mV 4 13]
.ret)
.skip))
(.seq (s [mV 14 5, o 15 (b .add (t 14) (k 1)), mV 6 15]
(.blk 0 (.loop [0, 1, 5, 6] []
(.seq (s [mV 16 6, mV 17 0, lN 18 false 17, o 19 (b .lss (t 16) (t 18))]
(.cond (t 19)
.skip
(.exit 0)))
(.seq (.blk 1 (s [mV 22 0, mV 23 6, o 24 (.ias 1 (t 22) (t 23)), lD 25 1 24, mV 7 25]
(s [mV 26 1, mV 27 7, o 28 (.calv [] (t 26) [t 27]), o 29 (.un .not (t 28))]
(.cond (t 29)
(s [mV 30 0, mV 31 5, mV 32 7, o 33 (.ias 1 (t 30) (t 31)), sO 1 33 32]
(r [mV 34 5, o 35 (b .add (t 34) (k 1)), mV 5 35]))
.skip))))
(r [mV 20 6, o 21 (b .add (t 20) (k 1)), mV 6 21]))))))
(s [mV 36 0, mV 37 5, o 38 (.slc false 1 (t 36) (some (t 37)) none), n (.clr 1 [.np] (t 38))]
(s [mV 39 0, mV 40 5, o 41 (.slc false 1 (t 39) none (some (t 40))), mV 4 41]
.ret))))))⟩
def c193 : Ev.Fn := d193.den
theorem r193 : OK 193 c193 := rd d193 { P0 .rw with mask := [(5, [0, 1, 5, 6], [])] } Tryz.func193
def d194 : DFn := ⟨[(.c .one), (.c .one)], [(.c .one)], .rw, [.tmp 3],
(s [mK 3 (.bo false)]
(s [mV 4 0, lD 5 1 1, o 6 (.hnd (.eqp .eql) [t 4, t 5]), mV 3 6]
.ret))⟩
def c194 : Ev.Fn := d194.den
theorem r194 : OK 194 c194 := rd d194 { P0 .rw with hnd := [6] } Tryz.func194
def d195 : DFn := ⟨[(.c .one), (.c (.sl [.one, .one])), (.c .one)], [], .rw, [],
(r [mV 6 0, mV 7 0, mV 8 0, mV 9 0, mV 10 0, mV 11 1, mV 12 2, nK 13 6, fA 14 25 13, sO 1 14 11, nK 15 7, fA 16 27 15, sO 1 16 12, nK 17 8, fA 18 29 17, n (.sto 1 (t 18) (.k (.bo true))), nK 19 9, fA 20 11 19, n (.sto 1 (t 20) (.k (.bo false))), nK 21 10, fA 22 20 21, n (.sto 1 (t 22) (.k (.bo false)))])⟩
def c195 : Ev.Fn := d195.den
theorem r195 : OK 195 c195 := rd d195 (P0 .rw) Tryz.func195
def d196 : DFn := ⟨[(.c (.sl [.one])), (.c .one)], [(.c .one)], .pure, [.tmp 4],
(s [mK 4 (.st [])]
(.seq (s [mV 11 0, lN 12 false 11]
(.blk 0 (s [o 14 (b .eql (t 12) (k 0)), mV 13 14]
(.cond (t 13)
(s [mK 4 (.st [])]
.ret)
(s [o 16 (b .eql (t 12) (k 1)), mV 15 16]
(.cond (t 15)
(s [mV 17 0, o 18 (.ias 1 (t 17) (k 0)), lD 19 1 18, mV 4 19]
.ret)
.skip))))))
(s [mK 5 (.it .i64 0)]
(.seq (s [mV 20 1, lN 21 true 20, o 22 (b .gtr (t 21) (k 0))]
(.cond (t 22)
(.seq (s [mV 23 1, lN 24 true 23, mV 25 0, lN 26 false 25, o 27 (b .sub (t 26) (k 1)), o 28 (b .quo (k 9223372036854775807) (t 27)), o 29 (b .geq (t 24) (t 28))]
(.cond (t 29)
(r [o 30 (.mki 9 (.k (.st [115, 116, 114, 105, 110, 103, 115, 58, 32, 74, 111, 105, 110, 32, 111, 117, 116, 112, 117, 116, 32, 108, 101, 110, 103, 116, 104, 32, 111, 118, 101, 114, 102, 108, 111, 119]))), n (.pan (t 30))])
.skip))
(r [mV 31 5, mV 32 1, lN 33 true 32, mV 34 0, lN 35 false 34, o 36 (b .sub (t 35) (k 1)), o 37 (b .mul (t 33) (t 36)), o 38 (b .add (t 31) (t 37)), mV 5 38]))
.skip))
(.seq (s [mV 39 0, lN 40 false 39, mK 41 (.it .i64 0)]
(.blk 1 (.loop [0, 1, 5, 39, 40, 41] []
(s [o 42 (b .lss (t 41) (t 40))]
(.seq (.cond (t 42)
.skip
(.exit 1))
(.seq (.blk 2 (s [o 43 (.ias 1 (t 39) (t 41)), lD 44 1 43, mV 7 44]
(.seq (s [mV 45 7, lN 46 true 45, mV 47 5, o 48 (b .sub (k 9223372036854775807) (t 47)), o 49 (b .gtr (t 46) (t 48))]
(.cond (t 49)
(r [o 50 (.mki 9 (.k (.st [115, 116, 114, 105, 110, 103, 115, 58, 32, 74, 111, 105, 110, 32, 111, 117, 116, 112, 117, 116, 32, 108, 101, 110, 103, 116, 104, 32, 111, 118, 101, 114, 102, 108, 111, 119]))), n (.pan (t 50))])
.skip))
(r [mV 51 5, mV 52 7, lN 53 true 52, o 54 (b .add (t 51) (t 53)), mV 5 54]))))
(r [o 55 (b .add (t 41) (k 1)), mV 41 55])))))))
(s [o 8 (.alh [.np, .ns])]
(s [mV 56 5, cR 57 250 [t 8, t 56]]
(s [mV 58 0, o 59 (.ias 1 (t 58) (k 0)), lD 60 1 59, cR 61 251 [t 8, t 60]]
(.seq (s [mV 62 0, o 63 (.slc false 1 (t 62) (some (k 1)) none), lN 64 false 63, mK 65 (.it .i64 0)]
(.blk 3 (.loop [1, 8, 63, 64, 65] []
(s [o 66 (b .lss (t 65) (t 64))]
(.seq (.cond (t 66)
.skip
(.exit 3))
(.seq (.blk 4 (s [o 67 (.ias 1 (t 63) (t 65)), lD 68 1 67, mV 10 68]
(s [mV 69 1, cR 70 251 [t 8, t 69]]
(r [mV 71 10, cR 72 251 [t 8, t 71]]))))
(r [o 73 (b .add (t 65) (k 1)), mV 65 73])))))))
(s [cR 74 252 [t 8], mV 4 74]
.ret))))))))))⟩
def c196 : Ev.Fn := d196.den
theorem r196 : OK 196 c196 := rd d196 { P0 .pure with mask := [(12, [0, 1, 5, 39, 40, 41], []), (22, [1, 8, 63, 64, 65], [])] } Tryz.func196
def d197 : DFn := ⟨[(.c .one), (.c .one), (.c .one), (.c .one)], [], .rw, [],
(s [lD 6 1 1, lD 7 1 2, mV 8 0, o 9 (.slc true 0 (t 6) (some (t 7)) (some (t 8))), cP 10 198 [t 9], mV 5 10]
(s [mV 11 5, o 12 (b .neq (t 11) (.k (.st [])))]
(.cond (t 12)
(r [lD 13 1 3, mV 14 5, o 15 (.bsv [.one] 1 [[(.st [])]] [(0, (t 14))]), o 16 (.app 1 16 (t 13) (t 15)), sO 1 3 16])
.skip)))⟩
def c197 : Ev.Fn := d197.den
theorem r197 : OK 197 c197 := rd d197 { P0 .rw with heap := [16], own := [16] } Tryz.func197
def d198 : DFn := ⟨[(.c .one)], [(.c .one)], .pure, [.tmp 2],
(s [mK 2 (.st [])]
(.seq (.blk 0 (.loop [0] []
(.seq (s [mV 3 0, o 4 (b .neq (t 3) (.k (.st []))), mV 5 4, w 6 5 (.mov (t 0)), w 7 5 (.ixs (t 6) (k 0)), w 8 5 (.call false .pure 253 [t 7]), o 9 (.pick (t 5) (t 8) (.k (.bo false)))]
(.cond (t 9)
.skip
(.exit 0)))
(.blk 1 (r [mV 10 0, o 11 (.slc true 0 (t 10) (some (k 1)) none), mV 0 11])))))
(.seq (.blk 2 (.loop [0] []
(.seq (s [mV 12 0, o 13 (b .neq (t 12) (.k (.st []))), mV 14 13, w 15 14 (.mov (t 0)), w 16 14 (.mov (t 0)), w 17 14 (.len true (t 16)), w 18 14 (b .sub (t 17) (k 1)), w 19 14 (.ixs (t 15) (t 18)), w 20 14 (.call false .pure 253 [t 19]), o 21 (.pick (t 14) (t 20) (.k (.bo false)))]
(.cond (t 21)
.skip
(.exit 2)))
(.blk 3 (r [mV 22 0, mV 23 0, lN 24 true 23, o 25 (b .sub (t 24) (k 1)), o 26 (.slc true 0 (t 22) none (some (t 25))), mV 0 26])))))
(s [mV 27 0, mV 2 27]
.ret))))⟩
def c198 : Ev.Fn := d198.den
theorem r198 : OK 198 c198 := rd d198 { P0 .pure with mask := [(1, [0], []), (3, [0], [])] } Tryz.func198
def d200 : DFn := ⟨[(.c (.sl [.one])), (.c .one)], [(.c .one)], .pure, [.tmp 4],
(s [mK 4 (.it .i64 0)]
(.seq (s [mV 6 0, lN 7 false 6, mK 8 (.it .i64 0)]
(.blk 0 (.loop [0, 1, 7, 8] []
(s [o 9 (b .lss (t 8) (t 7))]
(.seq (.cond (t 9)
.skip
(.exit 0))
(.seq (.blk 1 (s [mV 10 8, mV 5 10]
(s [mV 11 1, mV 12 0, mV 13 5, o 14 (.ias 1 (t 12) (t 13)), lD 15 1 14, o 16 (b .eql (t 11) (t 15))]
(.cond (t 16)
(s [mV 17 5, mV 4 17]
.ret)
.skip))))
(r [o 18 (b .add (t 8) (k 1)), mV 8 18])))))))
(s [mK 4 (.it .i64 (-1))]
.ret)))⟩
def c200 : Ev.Fn := d200.den
theorem r200 : OK 200 c200 := rd d200 { P0 .pure with mask := [(2, [0, 1, 7, 8], [])] } Tryz.func200
def d202 : DFn := ⟨[(.c .one)], [(.c .one)], .pure, [.tmp 2],
(s [mK 2 (.it .i64 0)]
(s [mV 3 0, cV 4 .u64 3, o 5 (b .shl (k 1) (t 4)), o 6 (b .sub (t 5) (k 1)), mV 2 6]
.ret))⟩
def c202 : Ev.Fn := d202.den
theorem r202 : OK 202 c202 := rd d202 (P0 .pure) Tryz.func202
def d203 : DFn := ⟨[(.c (.sl [.one])), (.c .one)], [(.c (.sl [.one]))], .pure, [.tmp 4],
(s [mK 4 .ns]
(.seq (s [mV 6 1, cP 7 254 [t 6], mV 5 7]
(s [mV 8 5, mV 9 1, lN 10 true 9, o 11 (b .lss (t 8) (t 10))]
(.cond (t 11)
(s [mV 12 0, mV 13 5, o 14 (.call true .pure 148 [t 12, (k 7), (.k (.it .u8 128)), t 13]), mV 15 1, cP 16 255 [t 15], o 17 (.app 1 1 (t 14) (t 16)), mV 4 17]
.ret)
.skip)))
(s [mV 18 0, mV 19 1, lN 20 true 19, o 21 (.call true .pure 148 [t 18, (k 7), (.k (.it .u8 0)), t 20]), mV 22 1, o 23 (.app 1 1 (t 21) (t 22)), mV 4 23]
.ret)))⟩
def c203 : Ev.Fn := d203.den
theorem r203 : OK 203 c203 := rd d203 { P0 .pure with heap := [14, 21], own := [14, 21], ord := [(3, [0, 1, 3, 2, 4, 5, 6]), (4, [0, 1, 2, 4, 3, 5, 6])] } Tryz.func203
def d204 : DFn := ⟨[(.c .one), (.c .one)], [], .rw, [],
(.blk 0 (.loop [0, 1] []
(.seq (s [mV 5 0, nK 6 5, fA 7 2 6, lD 8 1 7, mV 9 1, o 10 (b .gtr (t 8) (t 9)), mV 11 10, w 12 11 (.mov (t 0)), w 13 11 (.nck (t 12)), w 14 11 (.fad 0 (t 13)), w 15 11 (.ld 1 false (t 14)), w 16 11 (.len false (t 15)), w 17 11 (b .gtr (t 16) (k 0)), o 18 (.pick (t 11) (t 17) (.k (.bo false)))]
(.cond (t 18)
.skip
(.exit 0)))
(.blk 1 (s [mV 19 0, nK 20 19, fA 21 0 20, lD 22 1 21, lN 23 false 22, o 24 (b .sub (t 23) (k 1)), mV 4 24]
(.seq (.reg true [
mV 25 0, nK 26 25, fA 27 2 26, lD 28 1 27, mV 29 0, nK 30 29, fA 31 0 30, lD 32 1 31, mV 33 4, o 34 (.ias 2 (t 32) (t 33)), lQ 35 2 34, cP 36 111 [t 35], o 37 (b .sub (t 28) (t 36)), nK 38 25, fA 39 2 38, sO 1 39 37] [])
(r [mV 40 0, mV 41 0, nK 42 41, fA 43 0 42, lD 44 1 43, mV 45 4, o 46 (.slc false 2 (t 44) none (some (t 45))), nK 47 40, fA 48 0 47, sO 1 48 46])))))))⟩
def c204 : Ev.Fn := d204.den
theorem r204 : OK 204 c204 := rd d204 { P0 .rw with mask := [(0, [0, 1], [])] } Tryz.func204
def d206 : DFn := ⟨[(.g [.one, .one, .one, (.sl [.one])])], [(.c .one), (.c (.sl [.one])), (.c .one)], .pure, [.tmp 2, .tmp 3, .tmp 4],
(s [o 1 (.box (t 0)), mK 2 (.it .i64 0), mK 3 .ns, mK 4 (.bo false)]
(.seq (.seq (.reg false [
fA 5 1 1, lD 6 1 5, o 7 (b .and (t 6) (k 8)), o 8 (b .eql (t 7) (k 0))] [5])
(.cond (t 8)
(.seq (.reg true [
fA 9 3 1, lD 10 1 9, mK 2 (.it .i64 0), mV 3 10, mK 4 (.bo true)] [9])
.ret)
.skip))
(.seq (.seq (.reg false [
fA 11 3 1, lD 12 1 11, lN 13 false 12, o 14 (b .eql (t 13) (k 0))] [11])
(.cond (t 14)
(.seq (.reg false [
mK 2 (.it .i64 0), mK 3 .ns, mK 4 (.bo false)] [])
.ret)
.skip))
(.seq (.reg true [
fA 15 3 1, lD 16 1 15, o 17 (.ias 1 (t 16) (k 0)), lD 18 1 17, cV 19 .i64 18, fA 20 3 1, lD 21 1 20, o 22 (.slc false 1 (t 21) (some (k 1)) none), mV 2 19, mV 3 22, mK 4 (.bo true)] [15, 20])
.ret))))⟩
def c206 : Ev.Fn := d206.den
theorem r206 : OK 206 c206 := rd d206 { P0 .pure with loc := [1], ord := [(0, [1, 2, 3, 0])], clr := [(1, [5]), (2, [9]), (3, [11]), (5, [15, 20])] } Tryz.func206
def d208 : DFn := ⟨[(.g [.one, .one])], [(.c .one)], .pure, [.tmp 2],
(s [o 1 (.box (t 0)), mK 2 (.it .i64 0)]
(.seq (.blk 0 (.seq (.reg false [
fA 4 0 1, lD 5 1 4, o 6 (b .eql (t 5) (k 2)), mV 7 6, w 8 7 (.fad 1 (t 1)), w 9 7 (.ld 1 false (t 8)), w 10 7 (.call false .pure 258 [t 9, (k 0), (k 1)]), w 11 7 (.un .not (t 10)), o 12 (.pick (t 7) (t 11) (.k (.bo false))), mV 3 12] [4, 8])
(.cond (t 3)
(.seq (.reg false [
mK 2 (.it .i64 1)] [])
.ret)
(.seq (.reg false [
fA 14 0 1, lD 15 1 14, o 16 (b .eql (t 15) (k 4)), mV 17 16, w 18 17 (.fad 1 (t 1)), w 19 17 (.ld 1 false (t 18)), w 20 17 (.call false .pure 258 [t 19, (k 0), (k 2147483647)]), w 21 17 (.un .not (t 20)), o 22 (.pick (t 17) (t 21) (.k (.bo false))), mV 13 22] [14, 18])
(.cond (t 13)
(.seq (.reg false [
mK 2 (.it .i64 3)] [])
.ret)
(.seq (.reg false [
fA 24 0 1, lD 25 1 24, o 26 (b .eql (t 25) (k 5)), mV 27 26, w 28 27 (.fad 1 (t 1)), w 29 27 (.ld 1 false (t 28)), w 30 27 (.call false .pure 258 [t 29, (k 16384), (k 16777215)]), w 31 27 (.un .not (t 30)), o 32 (.pick (t 27) (t 31) (.k (.bo false))), mV 23 32] [24, 28])
(.cond (t 23)
(.seq (.reg false [
mK 2 (.it .i64 1)] [])
.ret)
.skip)))))))
(s [mK 2 (.it .i64 0)]
.ret)))⟩
def c208 : Ev.Fn := d208.den
theorem r208 : OK 208 c208 := rd d208 { P0 .pure with loc := [1], ord := [(0, [1, 0])], clr := [(1, [4, 8]), (3, [14, 18]), (5, [24, 28])] } Tryz.func208
def d209 : DFn := ⟨[(.c (.sl [.one])), (.c .one)], [(.c .one)], .pure, [.tmp 4],
(s [mK 4 (.bo false)]
(s [mV 5 0, mV 6 1, cP 7 259 [t 5, t 6], o 8 (b .geq (t 7) (k 0)), mV 4 8]
.ret))⟩
def c209 : Ev.Fn := d209.den
theorem r209 : OK 209 c209 := rd d209 (P0 .pure) Tryz.func209
def d210 : DFn := ⟨[(.c .one), (.c .one)], [(.c .one)], .rw, [.tmp 4],
(s [mK 4 (.it .i64 0)]
(.seq (.blk 0 (s [mV 6 0, o 7 (.bin .ptr .eql (t 6) (.k .np)), mV 8 7, x 9 8 (.mov (t 0)), x 10 8 (.call false .rw 220 [t 9]), x 11 8 (.un .not (t 10)), o 12 (.pick (t 8) (.k (.bo true)) (t 11)), mV 5 12]
(.cond (t 5)
(s [mK 4 (.it .i64 5)]
.ret)
(s [mV 14 0, nK 15 14, fA 16 4 15, lD 17 1 16, o 18 (.un .not (t 17)), mV 13 18]
(.cond (t 13)
(s [mK 4 (.it .i64 1)]
.ret)
(s [mV 20 1, mV 21 0, nK 22 21, fA 23 3 22, lQ 24 1 23, cP 25 260 [t 24], o 26 (b .gtr (t 20) (t 25)), mV 19 26]
(.cond (t 19)
(s [mK 4 (.it .i64 3)]
.ret)
.skip)))))))
(s [mK 4 (.it .i64 0)]
.ret)))⟩
def c210 : Ev.Fn := d210.den
theorem r210 : OK 210 c210 := rd d210 (P0 .rw) Tryz.func210
def d211 : DFn := ⟨[(.c .one), (.c (.sl [.one]))], [(.c (.sl [.one, .one, .one])), (.c .one)], .rw, [.tmp 4, .tmp 5],
(s [o 3 (.bxh (t 1)), mK 4 .ns, mK 5 (.it .i64 0)]
(.seq (s [mV 9 0, nK 10 9, fA 11 3 10, lD 12 1 11]
(.cond (t 12)
(s [mK 4 .ns, mK 5 (.it .i64 1)]
.ret)
.skip))
(s [mV 13 0, lD 14 1 3, o 15 (.bld [.np, .ns, (.it .i64 0), .ns, (.it .i64 0), (.it .i64 0)] [(0, 1, (t 13)), (1, 1, (t 14))]), o 16 (.bxh (t 15)), o 6 (.alh [.np]), sO 1 6 16]
(s [o 18 (.mkf 262 [] [t 6, t 3]), cR 19 261 [t 18], mV 17 19, eX 20 17 0, eX 21 17 1, o 7 (.alc [(.it .i64 0), (.it .i64 0)]), sO 2 7 20, mV 8 21]
(.seq (s [mV 22 8]
(.cond (t 22)
(s [mV 23 0, nK 24 23, fA 25 3 24, n (.sto 1 (t 25) (.k (.bo true)))]
(.seq (.reg true [
fA 26 0 7, lD 27 1 26, mK 4 .ns, mV 5 27] [26])
.ret))
.skip))
(s [lD 28 1 6, nK 29 28, fA 30 3 29, lD 31 1 30, mV 4 31, mK 5 (.it .i64 0)]
.ret))))))⟩
def c211 : Ev.Fn := d211.den
theorem r211 : OK 211 c211 := rd d211 { P0 .rw with loc := [7], ord := [(0, [1, 2, 0]), (4, [0, 5, 1, 2, 3, 4, 6, 7])], clr := [(7, [26])], fns := [262] } Tryz.func211
def d212 : DFn := ⟨[(.c .one), (.c .one)], [(.c .one)], .rw, [.tmp 4],
(s [mK 4 .np]
(.seq (s [mV 6 0, mV 7 1, cR 8 162 [t 6, t 7]]
(.cond (t 8)
(s [mV 9 0, mV 10 1, cR 11 264 [t 9, t 10], mV 4 11]
.ret)
.skip))
(s [mV 12 0, mV 13 1, cR 14 78 [t 12, t 13], mV 5 14]
(.seq (s [mV 15 5, o 16 (.bin .ptr .eql (t 15) (.k .np)), mV 17 16, w 18 17 (.mov (t 0)), w 19 17 (.mov (t 1)), w 20 17 (.call false .rw 163 [t 18, t 19]), w 21 17 (.un .not (t 20)), o 22 (.pick (t 17) (t 21) (.k (.bo false)))]
(.cond (t 22)
(r [mV 23 0, mV 24 1, cR 25 164 [t 23, t 24, (k 5)]])
.skip))
(s [mV 26 5, mV 4 26]
.ret)))))⟩
def c212 : Ev.Fn := d212.den
theorem r212 : OK 212 c212 := rd d212 (P0 .rw) Tryz.func212
def d213 : DFn := ⟨[(.c .one), (.c .one), (.c (.sl [.one, .one])), (.c .one)], [], .rw, [],
(.seq (s [mV 9 1, nK 10 9, fA 11 1 10, lD 12 1 11, o 13 (b .neq (t 12) (k 0)), mV 14 13, w 15 14 (.mov (t 1)), w 16 14 (.call false .rw 220 [t 15]), w 17 14 (.un .not (t 16)), o 18 (.pick (t 14) (t 17) (.k (.bo false)))]
(.cond (t 18)
(s [mV 19 0, mV 20 1, nK 21 20, fA 22 0 21, lD 23 1 22, cR 24 164 [t 19, t 23, (k 5)]]
.ret)
.skip))
(.seq (s [mV 25 1, nK 26 25, fA 27 4 26, lD 28 1 27, mV 29 28, w 30 29 (.mov (t 3)), w 31 29 (.un .not (t 30)), o 32 (.pick (t 29) (t 31) (.k (.bo false)))]
(.cond (t 32)
(s [mV 33 0, mV 34 1, nK 35 34, fA 36 0 35, lD 37 1 36, cR 38 164 [t 33, t 37, (k 1)]]
.ret)
.skip))
(s [mK 8 (.it .i64 1)]
(.seq (s [mV 39 1, nK 40 39, fA 41 4 40, lD 42 1 41]
(.cond (t 42)
(r [mK 8 (.it .i64 2)])
.skip))
(s [mV 43 0, mV 44 8, mV 45 1, nK 46 45, fA 47 0 46, lD 48 1 47, mV 49 2, mV 50 3, o 51 (.bld [(.it .i64 0), (.it .i64 0), .ns, (.st []), (.bo false), (.it .i64 0)] [(0, 1, (t 44)), (1, 1, (t 48)), (2, 1, (t 49)), (4, 1, (t 50))]), cR 52 120 [t 43, t 51]]
(.seq (s [mV 53 0, nK 54 53, fA 55 0 54, lD 56 1 55, mV 57 56, x 58 57 (.mov (t 3)), o 59 (.pick (t 57) (.k (.bo true)) (t 58)), mV 60 59, x 61 60 (.mov (t 2)), x 62 60 (.call false .pure 265 [t 61]), x 63 60 (.un .not (t 62)), o 64 (.pick (t 60) (.k (.bo true)) (t 63))]
(.cond (t 64)
(r [mV 65 1, nK 66 65, fA 67 4 66, n (.sto 1 (t 67) (.k (.bo true)))])
.skip))
(r [mV 68 0, mV 69 1, mV 70 3, cP 71 113 [t 70], cR 72 82 [t 68, t 69, t 71]])))))))⟩
def c213 : Ev.Fn := d213.den
theorem r213 : OK 213 c213 := rd d213 (P0 .rw) Tryz.func213
def d214 : DFn := ⟨[(.g [.one, .one, .one, .one, .one]), (.c (.sl [.one, .one]))], [(.g [.one, .one, .one, .one, .one]), (.c .one)], .pure, [.cell 4 5 true, .tmp 5],
(s [o 2 (.box (t 0)), o 4 (.alc [(.it .i64 0), (.it .i64 0), (.it .i64 0), (.it .i64 0), (.it .i64 0)]), mK 5 (.it .i64 0)]
(s [lQ 11 5 2, o 6 (.alc [(.it .i64 0), (.it .i64 0), (.it .i64 0), (.it .i64 0), (.it .i64 0)]), sO 5 6 11]
(.seq (s [mV 12 1, lN 13 false 12, mK 14 (.it .i64 0)]
(.blk 0 (.loop [2, 4, 6, 12, 13, 14] [8]
(s [o 15 (b .lss (t 14) (t 13))]
(.seq (.cond (t 15)
.skip
(.exit 0))
(.seq (.blk 1 (s [o 16 (.ias 2 (t 12) (t 14)), lQ 17 2 16, o 8 (.alc [(.it .i64 0), (.it .i64 0)]), sO 2 8 17]
(.seq (s [lQ 18 2 8, cP 19 208 [t 18], mV 9 19]
(s [mV 20 9, o 21 (b .neq (t 20) (k 0))]
(.cond (t 21)
(s [lQ 22 5 2, mV 23 9, sO 5 4 22, mV 5 23]
.ret)
.skip)))
(.seq (.reg false [
fA 24 1 8, lD 25 1 24, o 26 (.mnx true (t 25) (k 0)), o 27 (.mnx false (t 26) (k 2147483647)), mV 10 27] [24])
(.seq (.reg false [
fA 28 0 8, lD 29 1 28] [28])
(.blk 2 (.seq (.reg false [
o 31 (b .eql (t 29) (k 1)), mV 30 31] [])
(.cond (t 30)
(.reg false [
mV 32 10, fA 33 0 6, sO 1 33 32] [33])
(s [o 35 (b .eql (t 29) (k 3)), mV 34 35]
(.cond (t 34)
(.reg false [
mV 36 10, fA 37 1 6, sO 1 37 36] [37])
(s [o 39 (b .eql (t 29) (k 4)), mV 38 39]
(.cond (t 38)
(.reg false [
mV 40 10, fA 41 2 6, sO 1 41 40] [41])
(s [o 43 (b .eql (t 29) (k 5)), mV 42 43]
(.cond (t 42)
(.reg false [
mV 44 10, fA 45 3 6, sO 1 45 44] [45])
(s [o 47 (b .eql (t 29) (k 6)), mV 46 47]
(.cond (t 46)
(.reg false [
mV 48 10, fA 49 4 6, sO 1 49 48] [49])
.skip))))))))))))))))
(.reg false [
o 50 (b .add (t 14) (k 1)), mV 14 50] [])))))))
(s [lQ 51 5 6, sO 5 4 51, mK 5 (.it .i64 0)]
.ret))))⟩
def c214 : Ev.Fn := d214.den
theorem r214 : OK 214 c214 := rd d214 { P0 .pure with loc := [2, 4, 6, 8], ord := [(0, [2, 0, 1])], clr := [(8, [24]), (9, [28]), (11, [33]), (13, [37]), (15, [41]), (17, [45]), (19, [49])], mask := [(3, [2, 4, 6, 12, 13, 14], [8])] } Tryz.func214
def d217 : DFn := ⟨[(.g [.one]), (.c .one), (.c .one)], [(.g [.one]), (.c .one)], .pure, [.cell 6 1 true, .tmp 7],
(s [o 3 (.box (t 0)), o 6 (.alc [(.it .i64 0)]), mK 7 (.bo false)]
(.seq (s [mV 9 1, cP 10 93 [t 9], o 11 (.un .not (t 10)), mV 12 11, x 13 12 (.mov (t 2)), x 14 12 (.call false .pure 93 [t 13]), x 15 12 (.un .not (t 14)), o 16 (.pick (t 12) (.k (.bo true)) (t 15))]
(.cond (t 16)
(s [lQ 17 1 3, sO 1 6 17, mK 7 (.bo false)]
.ret)
.skip))
(.seq (.reg false [
fA 18 0 3, lD 19 1 18, mV 20 2, o 21 (b .add (t 19) (t 20)), mV 22 1, o 23 (b .sub (t 21) (t 22)), mV 8 23] [18])
(.seq (.seq (.reg false [
mV 24 8, o 25 (b .gtr (t 24) (k 2147483647)), mV 26 25, x 27 26 (.mov (t 8)), x 28 26 (b .lss (t 27) (.k (.it .i64 (-2147483647)))), o 29 (.pick (t 26) (.k (.bo true)) (t 28))] [])
(.cond (t 29)
(s [lQ 30 1 3, sO 1 6 30, mK 7 (.bo false)]
.ret)
.skip))
(s [mV 31 8, o 32 (.bld [(.it .i64 0)] [(0, 1, (t 31))]), sO 1 6 32, mK 7 (.bo true)]
.ret)))))⟩
def c217 : Ev.Fn := d217.den
theorem r217 : OK 217 c217 := rd d217 { P0 .pure with loc := [3, 6], ord := [(0, [2, 0, 1])], clr := [(3, [18])] } Tryz.func217
def d218 : DFn := ⟨[(.c (.sl [.one])), (.c .one)], [(.c .one)], .rw, [.tmp 4],
(s [mK 4 (.it .i64 0)]
(.seq (s [mV 6 0, lN 7 false 6, mK 8 (.it .i64 0)]
(.blk 0 (.loop [0, 1, 7, 8] []
(s [o 9 (b .lss (t 8) (t 7))]
(.seq (.cond (t 9)
.skip
(.exit 0))
(.seq (.blk 1 (s [mV 10 8, mV 5 10]
(s [mV 11 1, mV 12 0, mV 13 5, o 14 (.ias 1 (t 12) (t 13)), lD 15 1 14, o 16 (.calv [] (t 11) [t 15])]
(.cond (t 16)
(s [mV 17 5, mV 4 17]
.ret)
.skip))))
(r [o 18 (b .add (t 8) (k 1)), mV 8 18])))))))
(s [mK 4 (.it .i64 (-1))]
.ret)))⟩
def c218 : Ev.Fn := d218.den
theorem r218 : OK 218 c218 := rd d218 { P0 .rw with mask := [(2, [0, 1, 7, 8], [])] } Tryz.func218
def d220 : DFn := ⟨[(.c .one)], [(.c .one)], .rw, [.tmp 2],
(s [mK 2 (.bo false)]
(s [mV 3 0, nK 4 3, fA 5 1 4, lD 6 1 5, o 7 (b .eql (t 6) (k 1)), mV 8 7, x 9 8 (.mov (t 0)), x 10 8 (.nck (t 9)), x 11 8 (.fad 1 (t 10)), x 12 8 (.ld 1 false (t 11)), x 13 8 (b .eql (t 12) (k 2)), o 14 (.pick (t 8) (.k (.bo true)) (t 13)), mV 2 14]
.ret))⟩
def c220 : Ev.Fn := d220.den
theorem r220 : OK 220 c220 := rd d220 (P0 .rw) Tryz.func220
def d221 : DFn := ⟨[(.c .one), (.c .one), (.c .one), (.c .one)], [(.c (.sl [.one]))], .pure, [.tmp 8],
(s [mK 8 .ns]
(.seq (s [mV 12 3, o 13 (b .eql (t 12) (k 0))]
(.cond (t 13)
(s [mK 8 .ns]
.ret)
.skip))
(.seq (s [mV 14 1, o 15 (b .eql (t 14) (.k (.st [])))]
(.cond (t 15)
(s [mV 16 0, mV 17 3, cP 18 269 [t 16, t 17], mV 8 18]
.ret)
.skip))
(.seq (s [mV 19 3, o 20 (b .lss (t 19) (k 0))]
(.cond (t 20)
(r [mV 21 0, mV 22 1, cP 23 270 [t 21, t 22], o 24 (b .add (t 23) (k 1)), mV 3 24])
.skip))
(s [mV 25 3, mV 26 0, lN 27 true 26, o 28 (b .add (t 27) (k 1)), o 29 (.mnx false (t 25) (t 28)), mV 3 29]
(s [mV 30 3, o 31 (.mks 1 16 [(.st [])] (t 30) (t 30)), mV 9 31]
(s [mV 32 3, o 33 (b .sub (t 32) (k 1)), mV 3 33]
(s [mK 10 (.it .i64 0)]
(.seq (.blk 0 (.loop [0, 1, 2, 3, 9, 10] []
(.seq (s [mV 34 10, mV 35 3, o 36 (b .lss (t 34) (t 35))]
(.cond (t 36)
.skip
(.exit 0)))
(.blk 1 (s [mV 37 0, mV 38 1, cP 39 271 [t 37, t 38], mV 11 39]
(.seq (s [mV 40 11, o 41 (b .lss (t 40) (k 0))]
(.cond (t 41)
(.exit 0)
.skip))
(s [mV 42 9, mV 43 10, mV 44 0, mV 45 11, mV 46 2, o 47 (b .add (t 45) (t 46)), o 48 (.slc true 0 (t 44) none (some (t 47))), o 49 (.ias 1 (t 42) (t 43)), sO 1 49 48]
(s [mV 50 0, mV 51 11, mV 52 1, lN 53 true 52, o 54 (b .add (t 51) (t 53)), o 55 (.slc true 0 (t 50) (some (t 54)) none), mV 0 55]
(r [mV 56 10, o 57 (b .add (t 56) (k 1)), mV 10 57])))))))))
(s [mV 58 9, mV 59 10, mV 60 0, o 61 (.ias 1 (t 58) (t 59)), sO 1 61 60]
(s [mV 62 9, mV 63 10, o 64 (b .add (t 63) (k 1)), o 65 (.slc false 1 (t 62) none (some (t 64))), mV 8 65]
.ret)))))))))))⟩
def c221 : Ev.Fn := d221.den
theorem r221 : OK 221 c221 := rd d221 { P0 .pure with mask := [(11, [0, 1, 2, 3, 9, 10], [])] } Tryz.func221
def d222 : DFn := ⟨[(.c .one), (.c .one)], [(.c .one), (.c .one), (.c .one)], .pure, [.tmp 4, .tmp 5, .tmp 6],
(s [mK 4 (.st []), mK 5 (.st []), mK 6 (.bo false)]
(.seq (s [mV 8 0, mV 9 1, cP 10 272 [t 8, t 9], mV 7 10]
(s [mV 11 7, o 12 (b .geq (t 11) (k 0))]
(.cond (t 12)
(.seq (.reg true [
mV 13 0, mV 14 7, o 15 (.slc true 0 (t 13) none (some (t 14))), mV 16 0, mV 17 7, mV 18 1, lN 19 true 18, o 20 (b .add (t 17) (t 19)), o 21 (.slc true 0 (t 16) (some (t 20)) none), mV 4 15, mV 5 21, mK 6 (.bo true)] [])
.ret)
.skip)))
(s [mV 22 0, mV 4 22, mK 5 (.st []), mK 6 (.bo false)]
.ret)))⟩
def c222 : Ev.Fn := d222.den
theorem r222 : OK 222 c222 := rd d222 (P0 .pure) Tryz.func222
def d223 : DFn := ⟨[(.g [.one, .one])], [(.c .one)], .pure, [.tmp 2],
(s [o 1 (.box (t 0)), mK 2 (.bo false)]
(.seq (.reg false [
fA 3 0 1, lD 4 1 3, lN 5 true 4, o 6 (b .gtr (t 5) (k 0)), mV 7 6, w 8 7 (.fad 0 (t 1)), w 9 7 (.ld 1 false (t 8)), w 10 7 (.ixs (t 9) (k 0)), w 11 7 (b .eql (t 10) (.k (.it .u8 58))), o 12 (.pick (t 7) (t 11) (.k (.bo false))), mV 2 12] [3, 8])
.ret))⟩
def c223 : Ev.Fn := d223.den
theorem r223 : OK 223 c223 := rd d223 { P0 .pure with loc := [1], ord := [(0, [1, 0])], clr := [(1, [3, 8])] } Tryz.func223
def d224 : DFn := ⟨[(.c (.sl [.one, .one])), (.c .one)], [(.c .one)], .rw, [.tmp 4],
(.seq (.reg false [
mK 4 (.bo false)] [])
(s [o 8 (.mmk), mV 5 8]
(.seq (s [mV 9 0, lN 10 false 9, mK 11 (.it .i64 0)]
(.blk 0 (.loop [1, 5, 9, 10, 11] [7]
(s [o 12 (b .lss (t 11) (t 10))]
(.seq (.cond (t 12)
.skip
(.exit 0))
(.seq (.blk 1 (s [o 13 (.ias 2 (t 9) (t 11)), lQ 14 2 13, o 7 (.alc [(.st []), (.st [])]), sO 2 7 14]
(.seq (.reg false [
mV 15 5, fA 16 0 7, lD 17 1 16, o 18 (.mlk false (.it .i64 0) (t 15) (t 17)), o 19 (b .add (t 18) (k 1)), n (.mup (t 15) (t 17) (t 19))] [16])
(.seq (.seq (.reg false [
mV 20 5, fA 21 0 7, lD 22 1 21, o 23 (.mlk false (.it .i64 0) (t 20) (t 22)), o 24 (b .gtr (t 23) (k 1)), mV 25 24, x 26 25 (.fad 1 (t 7)), x 27 25 (.ld 1 false (t 26)), x 28 25 (.call false .pure 273 [t 27]), x 29 25 (.un .not (t 28)), o 30 (.pick (t 25) (.k (.bo true)) (t 29))] [21, 26])
(.cond (t 30)
(.seq (.reg false [
mK 4 (.bo false)] [])
.ret)
.skip))
(.seq (.reg false [
fA 31 0 7, lD 32 1 31] [31])
(.blk 2 (.seq (.reg false [
o 34 (b .eql (t 32) (.k (.st [58, 109, 101, 116, 104, 111, 100]))), mV 33 34] [])
(.cond (t 33)
(.reg false [
mV 35 1, fA 36 1 7, lD 37 1 36, nK 38 35, fA 39 0 38, sO 1 39 37] [36])
(s [o 41 (b .eql (t 32) (.k (.st [58, 115, 99, 104, 101, 109, 101]))), mV 40 41]
(.cond (t 40)
(.reg false [
mV 42 1, fA 43 1 7, lD 44 1 43, nK 45 42, fA 46 1 45, sO 1 46 44] [43])
(s [o 48 (b .eql (t 32) (.k (.st [58, 97, 117, 116, 104, 111, 114, 105, 116, 121]))), mV 47 48]
(.cond (t 47)
(.reg false [
mV 49 1, fA 50 1 7, lD 51 1 50, nK 52 49, fA 53 2 52, sO 1 53 51] [50])
(s [o 55 (b .eql (t 32) (.k (.st [58, 112, 97, 116, 104]))), mV 54 55]
(.cond (t 54)
(.reg false [
mV 56 1, fA 57 1 7, lD 58 1 57, nK 59 56, fA 60 3 59, sO 1 60 58] [57])
(s [mK 4 (.bo false)]
.ret)))))))))))))))
(.reg false [
o 61 (b .add (t 11) (k 1)), mV 11 61] [])))))))
(s [mK 4 (.bo true)]
.ret))))⟩
def c224 : Ev.Fn := d224.den
theorem r224 : OK 224 c224 := rd d224 { P0 .rw with loc := [7], clr := [(5, [16]), (6, [21, 26]), (8, [31]), (11, [36]), (13, [43]), (15, [50]), (17, [57])], mask := [(3, [1, 5, 9, 10, 11], [7])] } Tryz.func224
def d225 : DFn := ⟨[(.g [.one, .one, .one, .one, (.sl [.one, .one]), .one])], [(.c .one)], .pure, [.tmp 2],
(s [o 1 (.box (t 0)), mK 2 (.bo false)]
(.seq (.seq (.reg false [
fA 3 0 1, lD 4 1 3, cP 5 274 [t 4], o 6 (.un .not (t 5)), mV 7 6, x 8 7 (.fad 0 (t 1)), x 9 7 (.ld 1 false (t 8)), x 10 7 (b .eql (t 9) (.k (.st [67, 79, 78, 78, 69, 67, 84]))), o 11 (.pick (t 7) (.k (.bo true)) (t 10)), mV 12 11, x 13 12 (.fad 1 (t 1)), x 14 12 (.ld 1 false (t 13)), x 15 12 (b .neq (t 14) (.k (.st [104, 116, 116, 112]))), x 16 12 (.mov (t 15)), w 17 16 (.fad 1 (t 1)), w 18 16 (.ld 1 false (t 17)), w 19 16 (b .neq (t 18) (.k (.st [104, 116, 116, 112, 115]))), x 20 12 (.pick (t 16) (t 19) (.k (.bo false))), o 21 (.pick (t 12) (.k (.bo true)) (t 20)), mV 22 21, x 23 22 (.fad 2 (t 1)), x 24 22 (.ld 1 false (t 23)), x 25 22 (b .eql (t 24) (.k (.st []))), o 26 (.pick (t 22) (.k (.bo true)) (t 25)), mV 27 26, x 28 27 (.fad 3 (t 1)), x 29 27 (.ld 1 false (t 28)), x 30 27 (b .eql (t 29) (.k (.st []))), o 31 (.pick (t 27) (.k (.bo true)) (t 30))] [3, 8, 13, 17, 23, 28])
(.cond (t 31)
(.seq (.reg false [
mK 2 (.bo false)] [])
.ret)
.skip))
(.seq (.reg false [
fA 32 3 1, lD 33 1 32, o 34 (.ixs (t 33) (k 0)), o 35 (b .eql (t 34) (.k (.it .u8 47))), mV 36 35, x 37 36 (.fad 3 (t 1)), x 38 36 (.ld 1 false (t 37)), x 39 36 (b .eql (t 38) (.k (.st [42]))), x 40 36 (.mov (t 39)), w 41 40 (.fad 0 (t 1)), w 42 40 (.ld 1 false (t 41)), w 43 40 (b .eql (t 42) (.k (.st [79, 80, 84, 73, 79, 78, 83]))), x 44 36 (.pick (t 40) (t 43) (.k (.bo false))), o 45 (.pick (t 36) (.k (.bo true)) (t 44)), mV 2 45] [32, 37, 41])
.ret)))⟩
def c225 : Ev.Fn := d225.den
theorem r225 : OK 225 c225 := rd d225 { P0 .pure with loc := [1], ord := [(0, [1, 0])], clr := [(1, [3, 8, 13, 17, 23, 28]), (3, [32, 37, 41])] } Tryz.func225
def d226 : DFn := ⟨[(.c (.sl [.one, .one]))], [(.c (.sl [.one, .one])), (.c .one), (.c .one)], .pure, [.tmp 2, .tmp 3, .tmp 4],
(.seq (.reg false [
mK 2 .ns, mK 3 (.it .i64 0), mK 4 (.bo false)] [])
(.seq (s [mV 7 0, o 8 (.call false .rw 275 [t 7, (.k (.fn 223 [] []))]), mV 9 8, x 10 9 (.mov (t 0)), x 11 9 (.call false .pure 276 [t 10]), x 12 9 (.un .not (t 11)), o 13 (.pick (t 9) (.k (.bo true)) (t 12))]
(.cond (t 13)
(s [mK 2 .ns, mK 3 (.it .i64 0), mK 4 (.bo false)]
.ret)
.skip))
(s [mV 15 0, cP 16 277 [t 15], mV 14 16, eX 17 14 0, eX 18 14 1, mV 5 17, mV 6 18]
(s [mV 19 0, o 20 (.app 2 32 (.k .ns) (t 19)), mV 21 5, mV 22 6, mV 2 20, mV 3 21, mV 4 22]
.ret))))⟩
def c226 : Ev.Fn := d226.den
theorem r226 : OK 226 c226 := rd d226 { P0 .pure with ord := [(4, [0, 2, 3, 1, 4, 5, 6])], fns := [223] } Tryz.func226
def d227 : DFn := ⟨[(.c .one)], [(.c .one)], .rw, [.tmp 2],
(s [mK 2 (.bo false)]
(s [mV 3 0, nK 4 3, fA 5 2 4, fA 6 0 5, lD 7 1 6, o 8 (b .eql (t 7) (.k (.st [71, 69, 84]))), mV 9 8, w 10 9 (.mov (t 0)), w 11 9 (.nck (t 10)), w 12 9 (.fad 10 (t 11)), w 13 9 (.ld 1 false (t 12)), o 14 (.pick (t 9) (t 13) (.k (.bo false))), mV 2 14]
.ret))⟩
def c227 : Ev.Fn := d227.den
theorem r227 : OK 227 c227 := rd d227 (P0 .rw) Tryz.func227
def d228 : DFn := ⟨[(.c .one), (.g [.one, .one, .one, .one, (.sl [.one, .one]), .one])], [(.g [.one, .one, .one, .one, (.sl [.one, .one]), .one, .one, (.sl [.one, .one]), .one, .one, .one, .one]), (.c .one)], .rw, [.cell 4 12 true, .tmp 5],
(s [o 3 (.box (t 1)), o 4 (.alc [(.st []), (.st []), (.st []), (.st []), .ns, (.it .i64 0), (.it .i64 0), .ns, (.it .i64 0), (.st []), (.it .i64 0), (.it .i64 0)]), mK 5 (.bo false)]
(s [mV 8 0, lQ 9 6 3, o 10 (.call false .ro 278 [t 8, t 9]), mV 6 10]
(.seq (s [mV 11 6, o 12 (b .lss (t 11) (k 0))]
(.cond (t 12)
(s [o 13 (.bld [(.st []), (.st []), (.st []), (.st []), .ns, (.it .i64 0), (.it .i64 0), .ns, (.it .i64 0), (.st []), (.it .i64 0), (.it .i64 0)] []), sO 12 4 13, mK 5 (.bo false)]
.ret)
.skip))
(s [mV 14 0, mV 15 6, cR 16 237 [t 14, t 15], o 7 (.alc [(.st []), (.st []), (.st []), (.st []), .ns, (.it .i64 0), (.it .i64 0), .ns, (.it .i64 0), (.st []), (.it .i64 0), (.it .i64 0)]), sO 12 7 16]
(s [mV 17 0, lQ 18 12 7, cR 19 239 [t 17, t 18]]
(s [lQ 20 12 7, cP 21 240 [t 20], sO 12 4 21, mK 5 (.bo true)]
.ret))))))⟩
def c228 : Ev.Fn := d228.den
theorem r228 : OK 228 c228 := rd d228 { P0 .rw with loc := [3, 4, 7], ord := [(0, [2, 0, 1]), (4, [0, 1, 3, 2, 4])] } Tryz.func228
def d229 : DFn := ⟨[(.g [.one, .one, .one, .one, (.sl [.one, .one]), .one])], [(.c .one)], .pure, [.tmp 2],
(s [o 1 (.box (t 0)), mK 2 (.it .i64 0)]
(.seq (.seq (.reg false [
fA 3 4 1, lD 4 1 3, cP 5 244 [t 4], o 6 (.fld 5 1 false (t 5))] [3])
(.cond (t 6)
(.seq (.reg false [
mK 2 (.it .i64 4)] [])
.ret)
.skip))
(s [mK 2 (.it .i64 3)]
.ret)))⟩
def c229 : Ev.Fn := d229.den
theorem r229 : OK 229 c229 := rd d229 { P0 .pure with loc := [1], ord := [(0, [1, 0])], clr := [(1, [3])] } Tryz.func229
def d230 : DFn := ⟨[(.c .one), (.c .one)], [(.c .one)], .rw, [.tmp 4],
(s [mK 4 .np]
(.seq (s [mV 7 1, nK 8 7, fA 9 2 8, lQ 10 6 9, cP 11 279 [t 10], o 12 (.un .not (t 11))]
(.cond (t 12)
(s [mK 4 .np]
.ret)
.skip))
(.seq (s [mV 13 0, nK 14 13, fA 15 25 14, lD 16 1 15, lN 17 false 16, mK 18 (.it .i64 0)]
(.blk 0 (.loop [1, 16, 17, 18] []
(s [o 19 (b .lss (t 18) (t 17))]
(.seq (.cond (t 19)
.skip
(.exit 0))
(.seq (.blk 1 (s [o 20 (.ias 1 (t 16) (t 18)), lD 21 1 20, mV 6 21]
(.seq (s [mV 22 6, mV 23 1, o 24 (.hnd (.eqp .eql) [t 22, t 23])]
(.cond (t 24)
(s [mK 4 .np]
.ret)
.skip))
(.seq (.reg true [
mV 25 6, cR 26 227 [t 25], mV 27 26, w 28 27 (.mov (t 6)), w 29 27 (.nck (t 28)), w 30 27 (.fad 2 (t 29)), w 31 27 (.ld 6 true (t 30)), w 32 27 (.call false .pure 279 [t 31]), o 33 (.pick (t 27) (t 32) (.k (.bo false))), mV 34 33, w 35 34 (.mov (t 6)), w 36 34 (.nck (t 35)), w 37 34 (.fad 2 (t 36)), w 38 34 (.ld 6 true (t 37)), w 40 34 (.mov (t 1)), w 41 34 (.nck (t 40)), w 42 34 (.fad 2 (t 41)), w 43 34 (.ld 6 true (t 42)), w 39 34 (.call false .pure 189 [t 38]), w 44 34 (.call false .pure 189 [t 43]), w 45 34 (b .eql (t 39) (t 44)), o 46 (.pick (t 34) (t 45) (.k (.bo false))), mV 47 46, w 48 47 (.mov (t 6)), w 49 47 (.nck (t 48)), w 50 47 (.fad 12 (t 49)), w 51 47 (.ld 1 false (t 50)), w 52 47 (.bin .ptr .eql (t 51) (.k .np)), o 53 (.pick (t 47) (t 52) (.k (.bo false))), mV 54 53, w 55 54 (.mov (t 6)), w 56 54 (.nck (t 55)), w 57 54 (.fad 13 (t 56)), w 58 54 (.ld 1 false (t 57)), w 59 54 (.bin .ptr .eql (t 58) (.k .np)), o 60 (.pick (t 54) (t 59) (.k (.bo false))), mV 61 60, w 62 61 (.mov (t 6)), w 63 61 (.nck (t 62)), w 64 61 (.fad 25 (t 63)), w 65 61 (.ld 1 false (t 64)), w 66 61 (.hnd (.eqs .eql) [t 65, (.k .ns)]), o 67 (.pick (t 61) (t 66) (.k (.bo false)))] [])
(.cond (t 67)
(s [mV 68 6, mV 4 68]
.ret)
.skip)))))
(r [o 69 (b .add (t 18) (k 1)), mV 18 69])))))))
(s [mK 4 .np]
.ret))))⟩
def c230 : Ev.Fn := d230.den
theorem r230 : OK 230 c230 := rd d230 { P0 .rw with ord := [(8, [0, 1, 2, 3, 4, 5, 6, 7, 8, 9, 10, 11, 12, 13, 15, 16, 17, 18, 14, 19, 20, 21, 22, 23, 24, 25, 26, 27, 28, 29, 30, 31, 32, 33, 34, 35, 36, 37, 38, 39, 40, 41, 42])], mask := [(4, [1, 16, 17, 18], [])], hnd := [24, 66] } Tryz.func230
def d231 : DFn := ⟨[(.g [.one, .one, .one, .one, (.sl [.one, .one]), .one, .one, (.sl [.one, .one]), .one, .one, .one, .one]), (.g [.one, .one, .one, .one, (.sl [.one, .one]), .one]), (.c .one), (.c .one)], [(.c .one)], .pure, [.tmp 8],
(s [o 4 (.box (t 0)), o 5 (.box (t 1)), mK 8 (.it .i64 0)]
(.seq (.blk 0 (s [lQ 10 12 4, lQ 11 6 5, mV 12 2, mV 13 3, cP 14 280 [t 10, t 11, t 12, t 13], mV 9 14]
(.cond (t 9)
(s [mK 8 (.it .i64 1)]
.ret)
(.seq (.reg false [
fA 16 4 5, lD 17 1 16, cP 18 244 [t 17], o 19 (.fld 5 1 false (t 18)), mV 15 19] [16])
(.cond (t 15)
(.seq (.reg false [
mK 8 (.it .i64 4)] [])
.ret)
.skip)))))
(s [mK 8 (.it .i64 2)]
.ret)))⟩
def c231 : Ev.Fn := d231.den
theorem r231 : OK 231 c231 := rd d231 { P0 .pure with loc := [4, 5], ord := [(0, [2, 0, 1])], clr := [(3, [16])] } Tryz.func231
def d233 : DFn := ⟨[(.c .one)], [(.c .one)], .pure, [.tmp 2],
(s [mK 2 (.it .i64 0)]
(.seq (s [mV 5 0, lN 6 true 5, o 7 (b .lss (t 6) (k 1)), mV 8 7, x 9 8 (.mov (t 0)), x 10 8 (.len true (t 9)), x 11 8 (b .gtr (t 10) (k 9)), o 12 (.pick (t 8) (.k (.bo true)) (t 11))]
(.cond (t 12)
(s [mK 2 (.it .i64 (-1))]
.ret)
.skip))
(s [mK 3 (.it .i64 0)]
(.seq (s [mV 13 0, lN 14 true 13, mK 15 (.it .i64 0)]
(.blk 0 (.loop [0, 3, 14, 15] []
(s [o 16 (b .lss (t 15) (t 14))]
(.seq (.cond (t 16)
.skip
(.exit 0))
(.seq (.blk 1 (s [mV 17 15, mV 4 17]
(.seq (s [mV 18 0, mV 19 4, o 20 (.ixs (t 18) (t 19)), o 21 (b .lss (t 20) (.k (.it .u8 48))), mV 22 21, x 23 22 (.mov (t 0)), x 24 22 (.mov (t 4)), x 25 22 (.ixs (t 23) (t 24)), x 26 22 (b .gtr (t 25) (.k (.it .u8 57))), o 27 (.pick (t 22) (.k (.bo true)) (t 26))]
(.cond (t 27)
(s [mK 2 (.it .i64 (-1))]
.ret)
.skip))
(r [mV 28 3, o 29 (b .mul (k 10) (t 28)), mV 30 0, mV 31 4, o 32 (.ixs (t 30) (t 31)), o 33 (b .sub (t 32) (.k (.it .u8 48))), cV 34 .i64 33, o 35 (b .add (t 29) (t 34)), mV 3 35]))))
(r [o 36 (b .add (t 15) (k 1)), mV 15 36])))))))
(s [mV 37 3, mV 2 37]
.ret)))))⟩
def c233 : Ev.Fn := d233.den
theorem r233 : OK 233 c233 := rd d233 { P0 .pure with mask := [(5, [0, 3, 14, 15], [])] } Tryz.func233
def d234 : DFn := ⟨[(.c (.sl [.one, .one])), (.c .one)], [(.c .one)], .pure, [.tmp 4],
(s [mK 4 (.bo false)]
(s [mV 8 0, mV 9 1, cP 10 140 [t 8, t 9], mV 7 10, eX 11 7 0, eX 12 7 1, mV 5 11, mV 6 12]
(s [mV 13 6, o 14 (b .gtr (t 13) (k 0)), mV 4 14]
.ret)))⟩
def c234 : Ev.Fn := d234.den
theorem r234 : OK 234 c234 := rd d234 (P0 .pure) Tryz.func234
def d236 : DFn := ⟨[(.g [.one, .one, .one, .one, (.sl [.one, .one]), .one, .one, (.sl [.one, .one]), .one, .one, .one, .one]), (.g [.one, .one, .one, .one, (.sl [.one, .one]), .one])], [(.c .one)], .pure, [.tmp 4],
(s [o 2 (.box (t 0)), o 3 (.box (t 1)), mK 4 (.bo false)]
(.seq (.reg true [
fA 5 0 2, lQ 6 6 5, lQ 8 6 3, cP 7 189 [t 6], cP 9 189 [t 8], o 10 (b .eql (t 7) (t 9)), mV 11 10, w 12 11 (.ld 12 true (t 2)), w 13 11 (.ld 6 true (t 3)), w 14 11 (.call false .pure 248 [t 12, t 13]), o 15 (.pick (t 11) (t 14) (.k (.bo false))), mV 4 15] [5])
.ret))⟩
def c236 : Ev.Fn := d236.den
theorem r236 : OK 236 c236 := rd d236 { P0 .pure with loc := [2, 3], ord := [(0, [2, 0, 1]), (1, [0, 1, 3, 2, 4, 5, 6, 7, 8, 9, 10, 11])], clr := [(1, [5])] } Tryz.func236
def d237 : DFn := ⟨[(.c .one), (.c .one)], [(.g [.one, .one, .one, .one, (.sl [.one, .one]), .one, .one, (.sl [.one, .one]), .one, .one, .one, .one])], .rw, [.cell 4 12 true],
(s [o 4 (.alc [(.st []), (.st []), (.st []), (.st []), .ns, (.it .i64 0), (.it .i64 0), .ns, (.it .i64 0), (.st []), (.it .i64 0), (.it .i64 0)])]
(s [mV 6 0, nK 7 6, fA 8 0 7, lD 9 1 8, mV 10 1, o 11 (.ias 12 (t 9) (t 10)), lQ 12 12 11, o 5 (.alc [(.st []), (.st []), (.st []), (.st []), .ns, (.it .i64 0), (.it .i64 0), .ns, (.it .i64 0), (.st []), (.it .i64 0), (.it .i64 0)]), sO 12 5 12]
(.seq (.reg true [
mV 13 0, nK 14 13, fA 15 1 14, lD 16 1 15, lQ 17 12 5, cP 18 238 [t 17], o 19 (b .sub (t 16) (t 18)), nK 20 13, fA 21 1 20, sO 1 21 19] [])
(s [mV 22 0, mV 23 0, nK 24 23, fA 25 0 24, lD 26 1 25, mV 27 1, mV 28 1, o 29 (b .add (t 28) (k 1)), o 30 (.call true .rw 283 [t 26, t 27, t 29]), nK 31 22, fA 32 0 31, sO 1 32 30]
(s [lQ 33 12 5, sO 12 4 33]
.ret)))))⟩
def c237 : Ev.Fn := d237.den
theorem r237 : OK 237 c237 := rd d237 { P0 .rw with loc := [4, 5], heap := [30], own := [30] } Tryz.func237
def d238 : DFn := ⟨[(.g [.one, .one, .one, .one, (.sl [.one, .one]), .one, .one, (.sl [.one, .one]), .one, .one, .one, .one])], [(.c .one)], .pure, [.tmp 2],
(s [o 1 (.box (t 0)), mK 2 (.it .i64 0)]
(.seq (.reg true [
fA 3 0 1, lQ 4 6 3, fA 8 0 1, fA 9 4 8, lD 10 1 9, fA 13 6 1, fA 14 1 13, lD 15 1 14, fA 18 9 1, lD 19 1 18, lN 20 true 19, cP 5 189 [t 4], lN 6 true 5, o 7 (b .add (k 100) (t 6)), cP 11 284 [t 10], o 12 (b .add (t 7) (t 11)), cP 16 284 [t 15], o 17 (b .add (t 12) (t 16)), o 21 (b .add (t 17) (t 20)), mV 2 21] [3, 8, 9, 13, 14, 18])
.ret))⟩
def c238 : Ev.Fn := d238.den
theorem r238 : OK 238 c238 := rd d238 { P0 .pure with loc := [1], ord := [(0, [1, 0]), (1, [0, 1, 5, 6, 7, 10, 11, 12, 15, 16, 17, 2, 3, 4, 8, 9, 13, 14, 18, 19])], clr := [(1, [3, 8, 9, 13, 14, 18])] } Tryz.func238
def d239 : DFn := ⟨[(.c .one), (.g [.one, .one, .one, .one, (.sl [.one, .one]), .one, .one, (.sl [.one, .one]), .one, .one, .one, .one])], [], .rw, [],
(s [o 3 (.box (t 1))]
(.seq (.reg true [
mV 4 0, mV 5 0, nK 6 5, fA 7 0 6, lD 8 1 7, lQ 9 12 3, o 10 (.bsl 12 [[(.st []), (.st []), (.st []), (.st []), .ns, (.it .i64 0), (.it .i64 0), .ns, (.it .i64 0), (.st []), (.it .i64 0), (.it .i64 0)]] [(0, (t 9))]), o 11 (.call true .rw 285 [t 8, (k 0), t 10]), nK 12 4, fA 13 0 12, sO 1 13 11] [])
(.reg true [
mV 14 0, nK 15 14, fA 16 1 15, lD 17 1 16, lQ 18 12 3, cP 19 238 [t 18], o 20 (b .add (t 17) (t 19)), nK 21 14, fA 22 1 21, sO 1 22 20] [])))⟩
def c239 : Ev.Fn := d239.den
theorem r239 : OK 239 c239 := rd d239 { P0 .rw with loc := [3], heap := [11, 10], own := [11] } Tryz.func239
def d240 : DFn := ⟨[(.g [.one, .one, .one, .one, (.sl [.one, .one]), .one, .one, (.sl [.one, .one]), .one, .one, .one, .one])], [(.g [.one, .one, .one, .one, (.sl [.one, .one]), .one, .one, (.sl [.one, .one]), .one, .one, .one, .one])], .pure, [.cell 2 12 true],
(s [o 1 (.box (t 0)), o 2 (.alc [(.st []), (.st []), (.st []), (.st []), .ns, (.it .i64 0), (.it .i64 0), .ns, (.it .i64 0), (.st []), (.it .i64 0), (.it .i64 0)])]
(.seq (.reg false [
fA 3 0 1, fA 4 4 3, lD 5 1 4, o 6 (.app 2 32 (.k .ns) (t 5)), fA 7 0 1, fA 8 4 7, sO 1 8 6] [3, 4, 7, 8])
(.seq (.reg false [
fA 9 6 1, fA 10 1 9, lD 11 1 10, o 12 (.app 2 32 (.k .ns) (t 11)), fA 13 6 1, fA 14 1 13, sO 1 14 12] [9, 10, 13, 14])
(.seq (.reg false [
lQ 15 12 1, sO 12 2 15] [])
.ret))))⟩
def c240 : Ev.Fn := d240.den
theorem r240 : OK 240 c240 := rd d240 { P0 .pure with loc := [1, 2], clr := [(1, [3, 4, 7, 8]), (2, [9, 10, 13, 14])] } Tryz.func240
def d241 : DFn := ⟨[(.g [.one, .one, .one, .one, (.sl [.one, .one]), .one, .one, (.sl [.one, .one]), .one, .one, .one, .one]), (.g [.one, .one, .one, .one, (.sl [.one, .one]), .one])], [(.c .one)], .pure, [.tmp 4],
(s [o 2 (.box (t 0)), o 3 (.box (t 1)), mK 4 (.bo false)]
(.seq (.seq (.reg false [
fA 17 4 3, lD 18 1 17, o 19 (.call false .pure 234 [t 18, (.k (.st [105, 102, 45, 110, 111, 110, 101, 45, 109, 97, 116, 99, 104]))]), o 20 (.un .not (t 19))] [17])
(.cond (t 20)
(.seq (.reg false [
fA 22 6 2, fA 23 1 22, lD 24 1 23, o 25 (.call false .pure 281 [t 24, (.k (.st [108, 97, 115, 116, 45, 109, 111, 100, 105, 102, 105, 101, 100]))]), mV 21 25, eX 26 21 0, eX 27 21 1, mV 5 26, mV 6 27] [22, 23])
(.seq (.reg false [
fA 29 4 3, lD 30 1 29, o 31 (.call false .pure 281 [t 30, (.k (.st [105, 102, 45, 109, 111, 100, 105, 102, 105, 101, 100, 45, 115, 105, 110, 99, 101]))]), mV 28 31, eX 32 28 0, eX 33 28 1, mV 7 32, mV 8 33] [29])
(.seq (.reg false [
mV 34 6, mV 35 34, w 36 35 (.mov (t 8)), o 37 (.pick (t 35) (t 36) (.k (.bo false))), mV 38 37, w 39 38 (.mov (t 5)), w 40 38 (.mov (t 7)), w 41 38 (b .eql (t 39) (t 40)), o 42 (.pick (t 38) (t 41) (.k (.bo false))), mV 4 42] [])
.ret)))
.skip))
(.seq (.reg false [
fA 44 6 2, fA 45 1 44, lD 46 1 45, o 47 (.call false .pure 281 [t 46, (.k (.st [101, 116, 97, 103]))]), mV 43 47, eX 48 43 0, eX 49 43 1, mV 9 48, mV 10 49] [44, 45])
(.seq (.reg false [
fA 51 4 3, lD 52 1 51, o 53 (.call false .pure 140 [t 52, (.k (.st [105, 102, 45, 110, 111, 110, 101, 45, 109, 97, 116, 99, 104]))]), mV 50 53, eX 54 50 0, eX 55 50 1, mV 11 54, mV 12 55] [51])
(.seq (.reg false [
mV 57 11, cP 58 141 [t 57], mV 56 58, eX 59 56 0, eX 60 56 1, mV 13 59, mV 14 60] [])
(.seq (s [mV 61 13, lN 62 false 61, mK 63 (.it .i64 0)]
(.blk 0 (.loop [9, 10, 61, 62, 63] [2, 3]
(s [o 64 (b .lss (t 63) (t 62))]
(.seq (.cond (t 64)
.skip
(.exit 0))
(.seq (.blk 1 (s [o 65 (.ias 1 (t 61) (t 63)), lD 66 1 65, mV 16 66]
(s [mV 67 16, o 68 (b .eql (t 67) (.k (.st [42]))), mV 69 68, x 70 69 (.mov (t 10)), x 71 69 (.mov (t 70)), w 72 71 (.mov (t 16)), w 73 71 (.call false .pure 286 [t 72]), w 74 71 (.mov (t 9)), w 75 71 (.call false .pure 286 [t 74]), w 76 71 (b .eql (t 73) (t 75)), x 77 69 (.pick (t 71) (t 76) (.k (.bo false))), o 78 (.pick (t 69) (.k (.bo true)) (t 77))]
(.cond (t 78)
(s [mK 4 (.bo true)]
.ret)
.skip))))
(r [o 79 (b .add (t 63) (k 1)), mV 63 79])))))))
(s [mK 4 (.bo false)]
.ret)))))))⟩
def c241 : Ev.Fn := d241.den
theorem r241 : OK 241 c241 := rd d241 { P0 .pure with loc := [2, 3], ord := [(0, [2, 0, 1]), (11, [0, 1, 2, 3, 4, 5, 7, 6, 8, 9, 10, 11])], clr := [(1, [17]), (2, [22, 23]), (3, [29]), (5, [44, 45]), (6, [51])], mask := [(9, [9, 10, 61, 62, 63], [2, 3])] } Tryz.func241
def d242 : DFn := ⟨[(.g [.one, .one, .one, .one, (.sl [.one, .one]), .one, .one, (.sl [.one, .one]), .one, .one, .one, .one]), (.c .one)], [(.c .one)], .pure, [.tmp 4],
(s [o 2 (.box (t 0)), mK 4 (.it .i64 0)]
(.seq (.reg false [
fA 8 10 2, lD 9 1 8, cP 10 287 [t 9], mV 5 10] [8])
(.seq (.reg false [
mV 11 5, fA 12 11 2, lD 13 1 12, cP 14 287 [t 13], o 15 (.mnx true (t 11) (t 14)), mV 6 15] [12])
(.seq (.reg false [
mV 16 6, mV 17 1, cP 18 287 [t 17], o 19 (.mnx true (t 16) (t 18)), mV 1 19] [])
(.seq (.reg true [
mV 20 6, lQ 21 12 2, fA 24 6 2, fA 25 1 24, lD 26 1 25, mV 28 6, mV 30 5, cP 22 288 [t 21], o 23 (b .sub (t 20) (t 22)), cP 27 289 [t 26], o 29 (b .add (t 27) (t 28)), o 31 (b .sub (t 29) (t 30)), o 32 (.mn3 true (k 0) (t 23) (t 31)), mV 7 32] [24, 25])
(s [mV 33 7, mV 34 1, o 35 (b .add (t 33) (t 34)), mV 36 6, o 37 (b .sub (t 35) (t 36)), o 38 (.mnx false (t 37) (k 2147483647)), mV 4 38]
.ret))))))⟩
def c242 : Ev.Fn := d242.den
theorem r242 : OK 242 c242 := rd d242 { P0 .pure with loc := [2], ord := [(0, [1, 0]), (4, [0, 1, 4, 5, 6, 8, 10, 2, 3, 7, 9, 11, 12, 13])], clr := [(1, [8]), (2, [12]), (4, [24, 25])] } Tryz.func242
def d244 : DFn := ⟨[(.c (.sl [.one, .one]))], [(.g [.one, .one, .one, .one, .one, .one, .one, .one, .one, .one])], .pure, [.cell 2 10 true],
(s [o 2 (.alc [(.bo false), (.bo false), (.bo false), (.bo false), (.bo false), (.bo false), (.it .i64 0), (.it .i64 0), (.it .i64 0), (.it .i64 0)])]
(s [o 6 (.bld [(.bo false), (.bo false), (.bo false), (.bo false), (.bo false), (.bo false), (.it .i64 0), (.it .i64 0), (.it .i64 0), (.it .i64 0)] [(6, 1, (.k (.it .i64 (-1)))), (7, 1, (.k (.it .i64 (-1)))), (8, 1, (.k (.it .i64 (-1)))), (9, 1, (.k (.it .i64 (-1))))]), o 3 (.alc [(.bo false), (.bo false), (.bo false), (.bo false), (.bo false), (.bo false), (.it .i64 0), (.it .i64 0), (.it .i64 0), (.it .i64 0)]), sO 10 3 6]
(.seq (s [mV 7 0, o 8 (.call false .pure 291 [t 7, (.k (.st [99, 97, 99, 104, 101, 45, 99, 111, 110, 116, 114, 111, 108]))]), lN 9 false 8, mK 10 (.it .i64 0)]
(.blk 0 (.loop [2, 3, 8, 9, 10] [5]
(s [o 11 (b .lss (t 10) (t 9))]
(.seq (.cond (t 11)
.skip
(.exit 0))
(.seq (.blk 1 (s [o 12 (.ias 3 (t 8) (t 10)), lQ 13 3 12, o 5 (.alc [(.st []), (.st []), (.bo false)]), sO 3 5 13]
(.seq (.reg false [
fA 14 0 5, lD 15 1 14] [14])
(.blk 2 (.seq (.reg false [
o 17 (b .eql (t 15) (.k (.st [110, 111, 45, 115, 116, 111, 114, 101]))), mV 16 17] [])
(.cond (t 16)
(.reg false [
fA 18 0 3, n (.sto 1 (t 18) (.k (.bo true)))] [18])
(s [o 20 (b .eql (t 15) (.k (.st [110, 111, 45, 99, 97, 99, 104, 101]))), mV 19 20]
(.cond (t 19)
(.reg false [
fA 21 1 3, n (.sto 1 (t 21) (.k (.bo true)))] [21])
(s [o 23 (b .eql (t 15) (.k (.st [112, 114, 105, 118, 97, 116, 101]))), mV 22 23]
(.cond (t 22)
(.reg false [
fA 24 2 3, n (.sto 1 (t 24) (.k (.bo true)))] [24])
(s [o 26 (b .eql (t 15) (.k (.st [112, 117, 98, 108, 105, 99]))), mV 25 26]
(.cond (t 25)
(.reg false [
fA 27 3 3, n (.sto 1 (t 27) (.k (.bo true)))] [27])
(s [o 29 (b .eql (t 15) (.k (.st [111, 110, 108, 121, 45, 105, 102, 45, 99, 97, 99, 104, 101, 100]))), mV 28 29]
(.cond (t 28)
(.reg false [
fA 30 5 3, n (.sto 1 (t 30) (.k (.bo true)))] [30])
(.seq (s [o 32 (b .eql (t 15) (.k (.st [109, 117, 115, 116, 45, 114, 101, 118, 97, 108, 105, 100, 97, 116, 101]))), mV 31 32]
(.cond (t 31)
.skip
(.reg false [
o 33 (b .eql (t 15) (.k (.st [112, 114, 111, 120, 121, 45, 114, 101, 118, 97, 108, 105, 100, 97, 116, 101]))), mV 31 33] [])))
(.cond (t 31)
(.reg false [
fA 34 4 3, n (.sto 1 (t 34) (.k (.bo true)))] [34])
(s [o 36 (b .eql (t 15) (.k (.st [109, 97, 120, 45, 97, 103, 101]))), mV 35 36]
(.cond (t 35)
(.reg true [
fA 37 6 3, lD 38 1 37, lQ 39 3 5, cP 40 293 [t 39, (k 0)], cP 41 292 [t 38, t 40], fA 42 6 3, sO 1 42 41] [37, 42])
(s [o 44 (b .eql (t 15) (.k (.st [115, 45, 109, 97, 120, 97, 103, 101]))), mV 43 44]
(.cond (t 43)
(.reg true [
fA 45 7 3, lD 46 1 45, lQ 47 3 5, cP 48 293 [t 47, (k 0)], cP 49 292 [t 46, t 48], fA 50 7 3, sO 1 50 49] [45, 50])
(s [o 52 (b .eql (t 15) (.k (.st [109, 105, 110, 45, 102, 114, 101, 115, 104]))), mV 51 52]
(.cond (t 51)
(.reg true [
fA 53 9 3, lD 54 1 53, lQ 55 3 5, cP 56 293 [t 55, (k 0)], cP 57 292 [t 54, t 56], fA 58 9 3, sO 1 58 57] [53, 58])
(s [o 60 (b .eql (t 15) (.k (.st [109, 97, 120, 45, 115, 116, 97, 108, 101]))), mV 59 60]
(.cond (t 59)
(.reg true [
fA 61 8 3, lD 62 1 61, lQ 63 3 5, cP 64 293 [t 63, (k 2147483647)], cP 65 292 [t 62, t 64], fA 66 8 3, sO 1 66 65] [61, 66])
.skip))))))))))))))))))))))))
(.reg false [
o 67 (b .add (t 10) (k 1)), mV 10 67] [])))))))
(s [lQ 68 10 3, sO 10 2 68]
.ret))))⟩
def c244 : Ev.Fn := d244.den
theorem r244 : OK 244 c244 := rd d244 { P0 .pure with loc := [2, 3, 5], ord := [(2, [0, 3, 1, 2])], clr := [(5, [14]), (7, [18]), (9, [21]), (11, [24]), (13, [27]), (15, [30]), (18, [34]), (20, [37, 42]), (22, [45, 50]), (24, [53, 58]), (26, [61, 66])], mask := [(3, [2, 3, 8, 9, 10], [5])] } Tryz.func244
def d245 : DFn := ⟨[(.c (.sl [.one, .one]))], [(.c (.sl [.one])), (.c .one)], .pure, [.tmp 2, .tmp 3],
(s [mK 2 .ns, mK 3 (.bo false)]
(s [mV 11 0, o 12 (.call false .pure 140 [t 11, (.k (.st [118, 97, 114, 121]))]), mV 10 12, eX 13 10 0, eX 14 10 1, mV 4 13, mV 5 14]
(s [mV 16 4, o 17 (.call true .pure 141 [t 16]), mV 15 17, eX 18 15 0, eX 19 15 1, mV 6 18, mV 7 19]
(.seq (s [mV 20 7, o 21 (.un .not (t 20))]
(.cond (t 21)
(s [mK 2 .ns, mK 3 (.bo true)]
.ret)
.skip))
(.seq (s [mV 22 6, lN 23 false 22, mK 24 (.it .i64 0)]
(.blk 0 (.loop [6, 22, 23, 24] []
(s [o 25 (b .lss (t 24) (t 23))]
(.seq (.cond (t 25)
.skip
(.exit 0))
(.seq (.blk 1 (s [mV 26 24, o 27 (.ias 1 (t 22) (t 24)), lD 28 1 27, mV 8 26, mV 9 28]
(.seq (s [mV 29 9, o 30 (b .eql (t 29) (.k (.st [42]))), mV 31 30, x 32 31 (.mov (t 9)), x 33 31 (.call false .pure 274 [t 32]), x 34 31 (.un .not (t 33)), o 35 (.pick (t 31) (.k (.bo true)) (t 34))]
(.cond (t 35)
(s [mK 2 .ns, mK 3 (.bo true)]
.ret)
.skip))
(r [mV 36 6, mV 37 8, mV 38 9, o 39 (.call true .pure 142 [t 38]), o 40 (.ias 1 (t 36) (t 37)), sO 1 40 39]))))
(r [o 41 (b .add (t 24) (k 1)), mV 24 41])))))))
(s [mV 42 6, mV 2 42, mK 3 (.bo false)]
.ret))))))⟩
def c245 : Ev.Fn := d245.den
theorem r245 : OK 245 c245 := rd d245 { P0 .pure with heap := [17, 39], own := [17, 39], mask := [(6, [6, 22, 23, 24], [])] } Tryz.func245
def d246 : DFn := ⟨[(.c (.sl [.one, .one])), (.c .one)], [(.c .one)], .pure, [.tmp 4],
(s [mK 4 (.bo false)]
(s [mV 8 0, mV 9 1, cP 10 140 [t 8, t 9], mV 7 10, eX 11 7 0, eX 12 7 1, mV 5 11, mV 6 12]
(s [mV 13 6, o 14 (b .gtr (t 13) (k 0)), mV 4 14]
.ret)))⟩
def c246 : Ev.Fn := d246.den
theorem r246 : OK 246 c246 := rd d246 (P0 .pure) Tryz.func246
def d248 : DFn := ⟨[(.g [.one, .one, .one, .one, (.sl [.one, .one]), .one, .one, (.sl [.one, .one]), .one, .one, .one, .one]), (.g [.one, .one, .one, .one, (.sl [.one, .one]), .one])], [(.c .one)], .pure, [.tmp 4],
(s [o 2 (.box (t 0)), o 3 (.box (t 1)), mK 4 (.bo false)]
(.seq (.reg false [
fA 14 6 2, fA 15 1 14, lD 16 1 15, cP 17 245 [t 16], mV 13 17, eX 18 13 0, eX 19 13 1, mV 5 18, mV 6 19] [14, 15])
(.seq (.seq (.reg false [
mV 20 6] [])
(.cond (t 20)
(s [mK 4 (.bo false)]
.ret)
.skip))
(.seq (s [mV 21 5, lN 22 false 21, mK 23 (.it .i64 0)]
(.blk 0 (.loop [2, 3, 21, 22, 23] []
(s [o 24 (b .lss (t 23) (t 22))]
(.seq (.cond (t 24)
.skip
(.exit 0))
(.seq (.blk 1 (s [o 25 (.ias 1 (t 21) (t 23)), lD 26 1 25, mV 8 26]
(.seq (.reg false [
fA 28 0 2, fA 29 4 28, lD 30 1 29, mV 31 8, cP 32 140 [t 30, t 31], mV 27 32, eX 33 27 0, eX 34 27 1, mV 9 33, mV 10 34] [28, 29])
(.seq (.reg false [
fA 36 4 3, lD 37 1 36, mV 38 8, cP 39 140 [t 37, t 38], mV 35 39, eX 40 35 0, eX 41 35 1, mV 11 40, mV 12 41] [36])
(.seq (.reg false [
mV 42 10, o 43 (b .gtr (t 42) (k 0)), mV 44 12, o 45 (b .gtr (t 44) (k 0)), o 46 (.bin .bo .neq (t 43) (t 45)), mV 47 46, x 48 47 (.mov (t 9)), x 49 47 (.call false .pure 198 [t 48]), x 50 47 (.mov (t 11)), x 51 47 (.call false .pure 198 [t 50]), x 52 47 (b .neq (t 49) (t 51)), o 53 (.pick (t 47) (.k (.bo true)) (t 52))] [])
(.cond (t 53)
(s [mK 4 (.bo false)]
.ret)
.skip))))))
(r [o 54 (b .add (t 23) (k 1)), mV 23 54])))))))
(s [mK 4 (.bo true)]
.ret)))))⟩
def c248 : Ev.Fn := d248.den
theorem r248 : OK 248 c248 := rd d248 { P0 .pure with loc := [2, 3], ord := [(0, [2, 0, 1]), (9, [0, 1, 2, 3, 4, 5, 6, 8, 7, 9, 10, 11])], clr := [(1, [14, 15]), (7, [28, 29]), (8, [36])], mask := [(5, [2, 3, 21, 22, 23], [])] } Tryz.func248
def d249 : DFn := ⟨[(.c (.sl [.one])), (.c .one)], [(.c .one)], .rw, [.tmp 4],
(s [mK 4 (.it .i64 0)]
(.seq (s [mV 6 0, lN 7 false 6, mK 8 (.it .i64 0)]
(.blk 0 (.loop [0, 1, 7, 8] []
(s [o 9 (b .lss (t 8) (t 7))]
(.seq (.cond (t 9)
.skip
(.exit 0))
(.seq (.blk 1 (s [mV 10 8, mV 5 10]
(s [mV 11 1, mV 12 0, mV 13 5, o 14 (.ias 1 (t 12) (t 13)), lD 15 1 14, o 16 (.calv [] (t 11) [t 15])]
(.cond (t 16)
(s [mV 17 5, mV 4 17]
.ret)
.skip))))
(r [o 18 (b .add (t 8) (k 1)), mV 8 18])))))))
(s [mK 4 (.it .i64 (-1))]
.ret)))⟩
def c249 : Ev.Fn := d249.den
theorem r249 : OK 249 c249 := rd d249 { P0 .rw with mask := [(2, [0, 1, 7, 8], [])] } Tryz.func249
end Go.Proofs.YtfnoiklmcmboeaaGreatDoor.tab
