import Derived.Test.YtgofadnggipkpaaHand
import Derived.Test.YtgofadnggipkpaaRows
import Derived.KernelRfl
/- the functions of the seat, read off the program -/
namespace Go.Proofs.Ytgofadnggipkpaa.tab
open Go hiding Fn
open Ev

def mdl : List Md := [.pure, .pure, .pure, .pure, .pure, .pure, .pure, .pure, .pure, .pure, .pure, .pure, .pure, .rw, .rw, .ro, .pure, .pure, .pure, .pure, .pure, .pure, .pure, .rw, .pure, .pure, .rw, .rw, .rw, .pure, .pure, .pure, .pure, .pure, .pure, .pure, .pure, .rw, .rw, .rw, .rw, .rw, .rw, .rw, .pure]
def mds (n : Nat) : Md := mdl.getD n .rw

/- gosem.cut.init -/
def d2 : DFn := ⟨[], [], .pure, [],
(.reg false [
⟨some 0, none, [], .call false .pure 1 []⟩] [])⟩
def c2 : Ev.Fn := d2.den
def p2 : Pol := { loc := [], md := .pure, mds := mds, heap := [], own := [], ord := [], clr := [], mask := [], fns := [], lcl := [] }
theorem r2 : FnOK Try.prog mds 2 c2 := .read (pol := p2) (d := d2) Try.func2 (by kernel_rfl) (by kernel_rfl) rfl rfl (by kernel_rfl)

/- reservoir/reservoirlaw9.FrameRuns -/
def d3 : DFn := ⟨[], [(.c .one)], .pure, [.tmp 0],
(.seq (.reg false [
⟨some 0, none, [], .mov (.k (.bo false))⟩] [])
(.seq (.reg false [
⟨some 17, none, [], .mks 1 1 [(.it .u8 0)] (.k (.it .i64 8)) (.k (.it .i64 8))⟩,
⟨some 18, none, [], .bld [(.it .i64 0), (.it .i64 0), (.it .i64 0), .ns] [(0, 1, (.k (.it .i64 6))), (1, 1, (.k (.it .i64 1))), (3, 1, (.t 17))]⟩,
⟨some 1, none, [], .alc [(.it .i64 0), (.it .i64 0), (.it .i64 0), .ns]⟩,
⟨none, none, [], .sto 4 (.t 1) (.t 18)⟩] [])
(.seq (.reg false [
⟨some 19, none, [], .ld 4 true (.t 1)⟩,
⟨some 20, none, [], .call false .pure 11 [(.k .ns), (.t 19)]⟩,
⟨some 2, none, [], .mov (.t 20)⟩] [])
(.seq (.seq (.reg false [
⟨some 21, none, [], .mov (.t 2)⟩,
⟨some 22, none, [], .bsl 1 (List.replicate 9 [(.it .u8 0)]) [(0, (.k (.it .u8 0))), (1, (.k (.it .u8 0))), (2, (.k (.it .u8 8))), (3, (.k (.it .u8 6))), (4, (.k (.it .u8 1))), (5, (.k (.it .u8 0))), (6, (.k (.it .u8 0))), (7, (.k (.it .u8 0))), (8, (.k (.it .u8 0)))]⟩,
⟨some 23, none, [], .apz (.t 22) (.k (.it .i64 8))⟩,
⟨some 24, none, [], .call false .pure 12 [(.t 21), (.t 23)]⟩,
⟨some 25, none, [], .un .not (.t 24)⟩] [])
(.cond (.t 25)
(.seq (.reg false [
⟨some 0, none, [], .mov (.k (.bo false))⟩] [])
.ret)
.skip))
(.seq (.reg false [
⟨some 27, none, [], .call false .rw 13 [(.k (.it .i64 16384)), (.k (.bo false))]⟩,
⟨some 26, none, [], .mov (.t 27)⟩,
⟨some 28, none, [], .ext (.t 26) 0⟩,
⟨some 29, none, [], .ext (.t 26) 1⟩,
⟨some 3, none, [], .mov (.t 28)⟩,
⟨some 4, none, [], .mov (.t 29)⟩] [])
(.seq (.reg false [
⟨some 31, none, [], .call false .rw 13 [(.k (.it .i64 16384)), (.k (.bo true))]⟩,
⟨some 30, none, [], .mov (.t 31)⟩,
⟨some 32, none, [], .ext (.t 30) 0⟩,
⟨some 33, none, [], .ext (.t 30) 1⟩,
⟨some 5, none, [], .mov (.t 32)⟩,
⟨some 6, none, [], .mov (.t 33)⟩] [])
(.seq (.seq (.reg false [
⟨some 34, none, [], .mov (.t 3)⟩,
⟨some 35, none, [], .bin .ptr .eql (.t 34) (.k .np)⟩,
⟨some 36, none, [], .mov (.t 35)⟩,
⟨some 37, some (36, false), [], .mov (.t 5)⟩,
⟨some 38, some (36, false), [], .bin .ptr .eql (.t 37) (.k .np)⟩,
⟨some 39, none, [], .pick (.t 36) (.k (.bo true)) (.t 38)⟩,
⟨some 40, none, [], .mov (.t 39)⟩,
⟨some 41, some (40, false), [], .mov (.t 4)⟩,
⟨some 42, some (40, false), [], .bin .no .neq (.t 41) (.k (.it .i64 0))⟩,
⟨some 43, none, [], .pick (.t 40) (.k (.bo true)) (.t 42)⟩,
⟨some 44, none, [], .mov (.t 43)⟩,
⟨some 45, some (44, false), [], .mov (.t 6)⟩,
⟨some 46, some (44, false), [], .bin .no .neq (.t 45) (.k (.it .i64 0))⟩,
⟨some 47, none, [], .pick (.t 44) (.k (.bo true)) (.t 46)⟩] [])
(.cond (.t 47)
(.seq (.reg false [
⟨some 0, none, [], .mov (.k (.bo false))⟩] [])
.ret)
.skip))
(.seq (.reg false [
⟨some 49, none, [], .mov (.t 3)⟩,
⟨some 50, none, [], .mov (.t 2)⟩,
⟨some 51, none, [], .slc false 1 (.t 50) none (some (.k (.it .i64 10)))⟩,
⟨some 52, none, [], .call false .rw 14 [(.t 49), (.t 51)]⟩,
⟨some 48, none, [], .mov (.t 52)⟩,
⟨some 53, none, [], .ext (.t 48) 0⟩,
⟨some 54, none, [], .ext (.t 48) 1⟩,
⟨some 8, none, [], .alc [(.it .i64 0), (.it .i64 0), (.it .i64 0)]⟩,
⟨some 7, none, [], .mov (.t 53)⟩,
⟨none, none, [], .sto 3 (.t 8) (.t 54)⟩] [])
(.seq (.reg false [
⟨some 55, none, [], .mov (.t 3)⟩,
⟨some 56, none, [], .call false .ro 15 [(.t 55)]⟩,
⟨some 9, none, [], .mov (.t 56)⟩] [])
(.seq (.reg false [
⟨some 58, none, [], .mov (.t 3)⟩,
⟨some 59, none, [], .mov (.t 2)⟩,
⟨some 60, none, [], .slc false 1 (.t 59) (some (.k (.it .i64 10))) none⟩,
⟨some 61, none, [], .call false .rw 14 [(.t 58), (.t 60)]⟩,
⟨some 57, none, [], .mov (.t 61)⟩,
⟨some 62, none, [], .ext (.t 57) 0⟩,
⟨some 63, none, [], .ext (.t 57) 1⟩,
⟨some 11, none, [], .alc [(.it .i64 0), (.it .i64 0), (.it .i64 0)]⟩,
⟨some 10, none, [], .mov (.t 62)⟩,
⟨none, none, [], .sto 3 (.t 11) (.t 63)⟩] [])
(.seq (.reg false [
⟨some 65, none, [], .mov (.t 3)⟩,
⟨some 66, none, [], .bsv [.one] 1 (List.replicate 9 [(.it .u8 0)]) [(0, (.k (.it .u8 0))), (1, (.k (.it .u8 64))), (2, (.k (.it .u8 1))), (3, (.k (.it .u8 0))), (4, (.k (.it .u8 0))), (5, (.k (.it .u8 0))), (6, (.k (.it .u8 0))), (7, (.k (.it .u8 0))), (8, (.k (.it .u8 1)))]⟩,
⟨some 67, none, [], .call false .rw 14 [(.t 65), (.t 66)]⟩,
⟨some 64, none, [], .mov (.t 67)⟩,
⟨some 68, none, [], .ext (.t 64) 0⟩,
⟨some 69, none, [], .ext (.t 64) 1⟩,
⟨some 13, none, [], .alc [(.it .i64 0), (.it .i64 0), (.it .i64 0)]⟩,
⟨some 12, none, [], .mov (.t 68)⟩,
⟨none, none, [], .sto 3 (.t 13) (.t 69)⟩] [])
(.seq (.reg false [
⟨some 71, none, [], .mov (.t 5)⟩,
⟨some 72, none, [], .bsl 1 [[(.it .u8 0)], [(.it .u8 0)], [(.it .u8 0)]] [(0, (.k (.it .u8 80))), (1, (.k (.it .u8 82))), (2, (.k (.it .u8 74)))]⟩,
⟨some 73, none, [], .mrk (.t 72)⟩,
⟨some 74, none, [], .call false .rw 14 [(.t 71), (.t 73)]⟩,
⟨some 70, none, [], .mov (.t 74)⟩,
⟨some 75, none, [], .ext (.t 70) 0⟩,
⟨some 76, none, [], .ext (.t 70) 1⟩,
⟨some 15, none, [], .alc [(.it .i64 0), (.it .i64 0), (.it .i64 0)]⟩,
⟨some 14, none, [], .mov (.t 75)⟩,
⟨none, none, [], .sto 3 (.t 15) (.t 76)⟩] [])
(.seq (.reg false [
⟨some 77, none, [], .bld [(.it .i64 0), (.it .i64 0), (.it .i64 0)] []⟩,
⟨some 16, none, [], .alc [(.it .i64 0), (.it .i64 0), (.it .i64 0)]⟩,
⟨none, none, [], .sto 3 (.t 16) (.t 77)⟩] [])
(.seq (.reg false [
⟨some 78, none, [], .mov (.t 7)⟩,
⟨some 79, none, [], .len false (.t 78)⟩,
⟨some 80, none, [], .bin .no .eql (.t 79) (.k (.it .i64 0))⟩,
⟨some 81, none, [], .mov (.t 80)⟩,
⟨some 82, some (81, true), [], .ld 3 true (.t 8)⟩,
⟨some 83, some (81, true), [], .ld 3 true (.t 16)⟩,
⟨some 84, some (81, true), [], .bin (.ag [0, 0, 0]) .eql (.t 82) (.t 83)⟩,
⟨some 85, none, [], .pick (.t 81) (.t 84) (.k (.bo false))⟩,
⟨some 86, none, [], .mov (.t 85)⟩,
⟨some 87, some (86, true), [], .mov (.t 9)⟩,
⟨some 88, some (86, true), [], .bin .no .eql (.t 87) (.k (.it .i64 10))⟩,
⟨some 89, none, [], .pick (.t 86) (.t 88) (.k (.bo false))⟩,
⟨some 90, none, [], .mov (.t 89)⟩,
⟨some 91, some (90, true), [], .mov (.t 10)⟩,
⟨some 92, some (90, true), [], .ld 4 true (.t 1)⟩,
⟨some 93, some (90, true), [], .bsl 4 [[(.it .i64 0), (.it .i64 0), (.it .i64 0), .ns]] [(0, (.t 92))]⟩,
⟨some 94, some (90, true), [], .call false .pure 16 [(.t 91), (.t 93)]⟩,
⟨some 95, none, [], .pick (.t 90) (.t 94) (.k (.bo false))⟩,
⟨some 96, none, [], .mov (.t 95)⟩,
⟨some 97, some (96, true), [], .ld 3 true (.t 11)⟩,
⟨some 98, some (96, true), [], .ld 3 true (.t 16)⟩,
⟨some 99, some (96, true), [], .bin (.ag [0, 0, 0]) .eql (.t 97) (.t 98)⟩,
⟨some 100, none, [], .pick (.t 96) (.t 99) (.k (.bo false))⟩,
⟨some 101, none, [], .mov (.t 100)⟩,
⟨some 102, some (101, true), [], .ld 3 true (.t 13)⟩,
⟨some 103, some (101, true), [], .bld [(.it .i64 0), (.it .i64 0), (.it .i64 0)] [(0, 1, (.k (.it .i64 2))), (1, 1, (.k (.it .i64 6)))]⟩,
⟨some 104, some (101, true), [], .bin (.ag [0, 0, 0]) .eql (.t 102) (.t 103)⟩,
⟨some 105, none, [], .pick (.t 101) (.t 104) (.k (.bo false))⟩,
⟨some 106, none, [], .mov (.t 105)⟩,
⟨some 107, some (106, true), [], .ld 3 true (.t 15)⟩,
⟨some 108, some (106, true), [], .bld [(.it .i64 0), (.it .i64 0), (.it .i64 0)] [(0, 1, (.k (.it .i64 2))), (1, 1, (.k (.it .i64 1)))]⟩,
⟨some 109, some (106, true), [], .bin (.ag [0, 0, 0]) .eql (.t 107) (.t 108)⟩,
⟨some 110, none, [], .pick (.t 106) (.t 109) (.k (.bo false))⟩,
⟨some 0, none, [], .mov (.t 110)⟩] [])
.ret))))))))))))))⟩
def c3 : Ev.Fn := d3.den
def p3 : Pol := { loc := [1, 8, 11, 13, 15, 16], md := .pure, mds := mds, heap := [22, 72, 93], own := [22, 72], ord := [(1, [2, 0, 1, 3]), (9, [0, 1, 2, 7, 3, 4, 5, 6, 8, 9]), (11, [0, 1, 2, 7, 3, 4, 5, 6, 8, 9]), (12, [0, 1, 6, 2, 3, 4, 5, 7, 8]), (13, [0, 7, 1, 2, 3, 4, 5, 6, 8, 9])], clr := [], mask := [], fns := [], lcl := [] }
theorem r3 : FnOK Try.prog mds 3 c3 := .read (pol := p3) (d := d3) Try.func3 (by kernel_rfl) (by kernel_rfl) rfl rfl (by kernel_rfl)

/- reservoir/reservoirlaw9.FramePuts -/
def d4 : DFn := ⟨[(.c (.sl [.one])), (.g [.one, .one, .one, (.sl [.one])])], [(.c .one)], .pure, [.tmp 4],
(.seq (.reg false [
⟨some 3, none, [], .box (.t 1)⟩,
⟨some 4, none, [], .mov (.k (.bo false))⟩] [])
(.seq (.reg false [
⟨some 8, none, [], .ld 4 true (.t 3)⟩,
⟨some 9, none, [], .call false .pure 17 [(.t 8)]⟩,
⟨none, none, [], .sto 4 (.t 3) (.t 9)⟩] [])
(.seq (.reg true [
⟨some 10, none, [], .mov (.t 0)⟩,
⟨some 12, none, [], .fad 3 (.t 3)⟩,
⟨some 13, none, [], .ld 1 false (.t 12)⟩,
⟨some 11, none, [], .call false .pure 18 [(.t 10), (.k (.it .u8 7))]⟩,
⟨some 14, none, [], .call false .pure 18 [(.t 13), (.k (.it .u8 8))]⟩,
⟨some 5, none, [], .mov (.t 11)⟩,
⟨some 6, none, [], .mov (.t 14)⟩] [12])
(.seq (.reg false [
⟨some 15, none, [], .ld 4 true (.t 3)⟩,
⟨some 7, none, [], .alc [(.it .i64 0), (.it .i64 0), (.it .i64 0), .ns]⟩,
⟨none, none, [], .sto 4 (.t 7) (.t 15)⟩] [])
(.seq (.reg false [
⟨some 16, none, [], .mov (.t 6)⟩,
⟨some 17, none, [], .fad 3 (.t 3)⟩,
⟨some 18, none, [], .ld 1 false (.t 17)⟩,
⟨some 19, none, [], .len false (.t 18)⟩,
⟨some 20, none, [], .slc false 1 (.t 16) none (some (.t 19))⟩,
⟨some 21, none, [], .fad 3 (.t 7)⟩,
⟨none, none, [], .sto 1 (.t 21) (.t 20)⟩] [17, 21])
(.seq (.reg true [
⟨some 22, none, [], .ld 4 true (.t 7)⟩,
⟨some 24, none, [], .ld 4 true (.t 3)⟩,
⟨some 23, none, [], .call false .pure 19 [(.t 22)]⟩,
⟨some 25, none, [], .call false .pure 20 [(.t 24)]⟩,
⟨some 26, none, [], .bin .bo .eql (.t 23) (.t 25)⟩,
⟨some 27, none, [], .mov (.t 26)⟩,
⟨some 28, some (27, true), [], .mov (.t 5)⟩,
⟨some 29, some (27, true), [], .mov (.t 0)⟩,
⟨some 30, some (27, true), [], .len false (.t 29)⟩,
⟨some 31, some (27, true), [], .slc false 1 (.t 28) none (some (.t 30))⟩,
⟨some 32, some (27, true), [], .ld 4 true (.t 7)⟩,
⟨some 34, some (27, true), [], .mov (.t 0)⟩,
⟨some 35, some (27, true), [], .ld 4 true (.t 3)⟩,
⟨some 33, some (27, true), [], .call false .pure 11 [(.t 31), (.t 32)]⟩,
⟨some 36, some (27, true), [], .call false .pure 21 [(.t 34), (.t 35)]⟩,
⟨some 37, some (27, true), [], .call false .pure 12 [(.t 33), (.t 36)]⟩,
⟨some 38, none, [], .pick (.t 27) (.t 37) (.k (.bo false))⟩,
⟨some 39, none, [], .mov (.t 38)⟩,
⟨some 40, some (39, true), [], .mov (.t 5)⟩,
⟨some 41, some (39, true), [], .mov (.t 0)⟩,
⟨some 42, some (39, true), [], .call false .pure 22 [(.t 40), (.t 41), (.k (.it .u8 7))]⟩,
⟨some 43, none, [], .pick (.t 39) (.t 42) (.k (.bo false))⟩,
⟨some 44, none, [], .mov (.t 43)⟩,
⟨some 45, some (44, true), [], .mov (.t 6)⟩,
⟨some 46, some (44, true), [], .fad 3 (.t 3)⟩,
⟨some 47, some (44, true), [], .ld 1 false (.t 46)⟩,
⟨some 48, some (44, true), [], .call false .pure 22 [(.t 45), (.t 47), (.k (.it .u8 8))]⟩,
⟨some 49, none, [], .pick (.t 44) (.t 48) (.k (.bo false))⟩,
⟨some 50, none, [], .mov (.t 49)⟩,
⟨some 51, some (50, true), [], .call false .pure 3 []⟩,
⟨some 52, none, [], .pick (.t 50) (.t 51) (.k (.bo false))⟩,
⟨some 4, none, [], .mov (.t 52)⟩] [46])
.ret))))))⟩
def c4 : Ev.Fn := d4.den
def p4 : Pol := { loc := [3, 7], md := .pure, mds := mds, heap := [], own := [], ord := [(0, [1, 0]), (2, [0, 2, 3, 1, 4, 5, 6]), (5, [0, 2, 1, 3, 4, 5, 6, 7, 8, 9, 10, 12, 13, 11, 14, 15, 16, 17, 18, 19, 20, 21, 22, 23, 24, 25, 26, 27, 28, 29, 30, 31])], clr := [(2, [12]), (4, [17, 21]), (5, [46])], mask := [], fns := [], lcl := [] }
theorem r4 : FnOK Try.prog mds 4 c4 := .read (pol := p4) (d := d4) Try.func4 (by kernel_rfl) (by kernel_rfl) rfl rfl (by kernel_rfl)

/- reservoir/reservoirlaw9.FrameReads -/
def d5 : DFn := ⟨[(.c .one), (.c .one), (.c .one), (.c (.sl [(.sl [.one])]))], [(.c .one)], .pure, [.tmp 8],
(.seq (.reg false [
⟨some 8, none, [], .mov (.k (.bo false))⟩] [])
(.seq (.reg false [
⟨some 20, none, [], .mov (.t 0)⟩,
⟨some 21, none, [], .mov (.t 1)⟩,
⟨some 22, none, [], .call false .rw 13 [(.t 20), (.t 21)]⟩,
⟨some 19, none, [], .mov (.t 22)⟩,
⟨some 23, none, [], .ext (.t 19) 0⟩,
⟨some 24, none, [], .ext (.t 19) 1⟩,
⟨some 9, none, [], .mov (.t 23)⟩,
⟨some 10, none, [], .mov (.t 24)⟩] [])
(.seq (.seq (.reg false [
⟨some 25, none, [], .mov (.t 0)⟩,
⟨some 26, none, [], .bin .no .lss (.t 25) (.k (.it .i64 16384))⟩,
⟨some 27, none, [], .mov (.t 26)⟩,
⟨some 28, some (27, false), [], .mov (.t 0)⟩,
⟨some 29, some (27, false), [], .bin .no .gtr (.t 28) (.k (.it .i64 16777215))⟩,
⟨some 30, none, [], .pick (.t 27) (.k (.bo true)) (.t 29)⟩] [])
(.cond (.t 30)
(.seq (.reg false [
⟨some 31, none, [], .mov (.t 9)⟩,
⟨some 32, none, [], .bin .ptr .eql (.t 31) (.k .np)⟩,
⟨some 33, none, [], .mov (.t 32)⟩,
⟨some 34, some (33, true), [], .mov (.t 10)⟩,
⟨some 35, some (33, true), [], .bin .no .eql (.t 34) (.k (.it .i64 1))⟩,
⟨some 36, none, [], .pick (.t 33) (.t 35) (.k (.bo false))⟩,
⟨some 37, none, [], .mov (.t 36)⟩,
⟨some 38, some (37, true), [], .call false .pure 3 []⟩,
⟨some 39, none, [], .pick (.t 37) (.t 38) (.k (.bo false))⟩,
⟨some 8, none, [], .mov (.t 39)⟩] [])
.ret)
.skip))
(.seq (.reg false [
⟨some 40, none, [], .mov (.t 0)⟩,
⟨some 41, none, [], .bld [.ns, (.st []), (.it .i64 0), (.it .i64 0), (.it .i64 0), (.it .i64 0)] [(2, 1, (.t 40))]⟩,
⟨some 42, none, [], .bxh (.t 41)⟩,
⟨some 11, none, [], .mov (.t 42)⟩] [])
(.seq (.seq (.reg false [
⟨some 43, none, [], .mov (.t 1)⟩] [])
(.cond (.t 43)
(.reg false [
⟨some 44, none, [], .mov (.t 11)⟩,
⟨some 45, none, [], .nck (.t 44)⟩,
⟨some 46, none, [], .fad 1 (.t 45)⟩,
⟨none, none, [], .sto 1 (.t 46) (.k (.st [80, 82, 73, 32, 42, 32, 72, 84, 84, 80, 47, 50, 46, 48, 13, 10, 13, 10, 83, 77, 13, 10, 13, 10]))⟩] [])
.skip))
(.seq (.seq (.reg false [
⟨some 47, none, [], .mov (.t 9)⟩,
⟨some 48, none, [], .bin .ptr .eql (.t 47) (.k .np)⟩,
⟨some 49, none, [], .mov (.t 48)⟩,
⟨some 50, some (49, false), [], .mov (.t 10)⟩,
⟨some 51, some (49, false), [], .bin .no .neq (.t 50) (.k (.it .i64 0))⟩,
⟨some 52, none, [], .pick (.t 49) (.k (.bo true)) (.t 51)⟩] [])
(.cond (.t 52)
(.seq (.reg false [
⟨some 8, none, [], .mov (.k (.bo false))⟩] [])
.ret)
.skip))
(.seq (.seq (.reg false [
⟨some 53, none, [], .mov (.t 2)⟩] [])
(.cond (.t 53)
(.reg false [
⟨some 54, none, [], .bsl 1 (List.replicate 24 [(.it .u8 0)]) [(0, (.k (.it .u8 80))), (1, (.k (.it .u8 82))), (2, (.k (.it .u8 73))), (3, (.k (.it .u8 32))), (4, (.k (.it .u8 42))), (5, (.k (.it .u8 32))), (6, (.k (.it .u8 72))), (7, (.k (.it .u8 84))), (8, (.k (.it .u8 84))), (9, (.k (.it .u8 80))), (10, (.k (.it .u8 47))), (11, (.k (.it .u8 50))), (12, (.k (.it .u8 46))), (13, (.k (.it .u8 48))), (14, (.k (.it .u8 13))), (15, (.k (.it .u8 10))), (16, (.k (.it .u8 13))), (17, (.k (.it .u8 10))), (18, (.k (.it .u8 83))), (19, (.k (.it .u8 77))), (20, (.k (.it .u8 13))), (21, (.k (.it .u8 10))), (22, (.k (.it .u8 13))), (23, (.k (.it .u8 10)))]⟩,
⟨some 55, none, [], .mrk (.t 54)⟩,
⟨some 56, none, [], .bsl 1 [[.ns]] [(0, (.t 55))]⟩,
⟨some 57, none, [], .mov (.t 3)⟩,
⟨some 58, none, [], .app 1 24 (.t 56) (.t 57)⟩,
⟨some 3, none, [], .mov (.t 58)⟩] [])
.skip))
(.seq (.seq (.reg false [
⟨some 12, none, [], .mov (.k (.it .i64 0))⟩] [])
(.blk 0 (.loop [3, 9, 11, 12] [16, 18]
(.seq (.seq (.reg false [
⟨some 59, none, [], .mov (.t 12)⟩,
⟨some 60, none, [], .mov (.t 3)⟩,
⟨some 61, none, [], .len false (.t 60)⟩,
⟨some 62, none, [], .bin .no .lss (.t 59) (.t 61)⟩,
⟨some 63, none, [], .mov (.t 62)⟩,
⟨some 64, some (63, true), [], .mov (.t 12)⟩,
⟨some 65, some (63, true), [], .bin .no .lss (.t 64) (.k (.it .i64 20))⟩,
⟨some 66, none, [], .pick (.t 63) (.t 65) (.k (.bo false))⟩] [])
(.cond (.t 66)
.skip
(.exit 0)))
(.seq (.blk 1 (.seq (.reg false [
⟨some 69, none, [], .mov (.t 3)⟩,
⟨some 70, none, [], .mov (.t 12)⟩,
⟨some 71, none, [], .ias 1 (.t 69) (.t 70)⟩,
⟨some 72, none, [], .ld 1 false (.t 71)⟩,
⟨some 13, none, [], .mov (.t 72)⟩] [])
(.seq (.seq (.reg false [
⟨some 73, none, [], .mov (.t 13)⟩,
⟨some 74, none, [], .len false (.t 73)⟩,
⟨some 75, none, [], .bin .no .gtr (.t 74) (.k (.it .i64 400))⟩] [])
(.cond (.t 75)
(.reg false [
⟨some 76, none, [], .mov (.t 13)⟩,
⟨some 77, none, [], .slc false 1 (.t 76) none (some (.k (.it .i64 400)))⟩,
⟨some 13, none, [], .mov (.t 77)⟩] [])
.skip))
(.seq (.reg false [
⟨some 78, none, [], .mov (.t 13)⟩,
⟨some 79, none, [], .call false .pure 18 [(.t 78), (.k (.it .u8 5))]⟩,
⟨some 14, none, [], .mov (.t 79)⟩] [])
(.seq (.reg false [
⟨some 81, none, [], .mov (.t 9)⟩,
⟨some 82, none, [], .mov (.t 14)⟩,
⟨some 83, none, [], .mov (.t 13)⟩,
⟨some 84, none, [], .len false (.t 83)⟩,
⟨some 85, none, [], .slc false 1 (.t 82) none (some (.t 84))⟩,
⟨some 86, none, [], .call false .rw 14 [(.t 81), (.t 85)]⟩,
⟨some 80, none, [], .mov (.t 86)⟩,
⟨some 87, none, [], .ext (.t 80) 0⟩,
⟨some 88, none, [], .ext (.t 80) 1⟩,
⟨some 16, none, [], .alc [(.it .i64 0), (.it .i64 0), (.it .i64 0)]⟩,
⟨some 15, none, [], .mov (.t 87)⟩,
⟨none, none, [], .sto 3 (.t 16) (.t 88)⟩] [])
(.seq (.reg false [
⟨some 90, none, [], .mov (.t 11)⟩,
⟨some 91, none, [], .mov (.t 13)⟩,
⟨some 92, none, [], .call false .rw 23 [(.t 90), (.t 91)]⟩,
⟨some 89, none, [], .mov (.t 92)⟩,
⟨some 93, none, [], .ext (.t 89) 0⟩,
⟨some 94, none, [], .ext (.t 89) 1⟩,
⟨some 18, none, [], .alc [(.it .i64 0), (.it .i64 0), (.it .i64 0)]⟩,
⟨some 17, none, [], .mov (.t 93)⟩,
⟨none, none, [], .sto 3 (.t 18) (.t 94)⟩] [])
(.seq (.reg true [
⟨some 95, none, [], .mov (.t 15)⟩,
⟨some 96, none, [], .mov (.t 17)⟩,
⟨some 97, none, [], .call false .pure 16 [(.t 95), (.t 96)]⟩,
⟨some 98, none, [], .un .not (.t 97)⟩,
⟨some 99, none, [], .mov (.t 98)⟩,
⟨some 100, some (99, false), [], .ld 3 true (.t 16)⟩,
⟨some 101, some (99, false), [], .ld 3 true (.t 18)⟩,
⟨some 102, some (99, false), [], .bin (.ag [0, 0, 0]) .neq (.t 100) (.t 101)⟩,
⟨some 103, none, [], .pick (.t 99) (.k (.bo true)) (.t 102)⟩,
⟨some 104, none, [], .mov (.t 103)⟩,
⟨some 105, some (104, false), [], .mov (.t 9)⟩,
⟨some 107, some (104, false), [], .mov (.t 11)⟩,
⟨some 108, some (104, false), [], .nck (.t 107)⟩,
⟨some 109, some (104, false), [], .fad 0 (.t 108)⟩,
⟨some 110, some (104, false), [], .ld 1 false (.t 109)⟩,
⟨some 111, some (104, false), [], .len false (.t 110)⟩,
⟨some 106, some (104, false), [], .call false .ro 15 [(.t 105)]⟩,
⟨some 112, some (104, false), [], .bin .no .neq (.t 106) (.t 111)⟩,
⟨some 113, none, [], .pick (.t 104) (.k (.bo true)) (.t 112)⟩,
⟨some 114, none, [], .mov (.t 113)⟩,
⟨some 115, some (114, false), [], .mov (.t 14)⟩,
⟨some 116, some (114, false), [], .mov (.t 13)⟩,
⟨some 117, some (114, false), [], .call false .pure 22 [(.t 115), (.t 116), (.k (.it .u8 5))]⟩,
⟨some 118, some (114, false), [], .un .not (.t 117)⟩,
⟨some 119, none, [], .pick (.t 114) (.k (.bo true)) (.t 118)⟩] [])
(.cond (.t 119)
(.seq (.reg false [
⟨some 8, none, [], .mov (.k (.bo false))⟩] [])
.ret)
.skip))))))))
(.reg false [
⟨some 67, none, [], .mov (.t 12)⟩,
⟨some 68, none, [], .bin .no .add (.t 67) (.k (.it .i64 1))⟩,
⟨some 12, none, [], .mov (.t 68)⟩] []))))))
(.seq (.reg false [
⟨some 120, none, [], .call false .pure 3 []⟩,
⟨some 8, none, [], .mov (.t 120)⟩] [])
.ret)))))))))⟩
def c5 : Ev.Fn := d5.den
def p5 : Pol := { loc := [16, 18], md := .pure, mds := mds, heap := [54, 56], own := [54, 56], ord := [(10, [3, 0, 1, 2, 4, 5]), (18, [0, 1, 2, 3, 4, 9, 5, 6, 7, 8, 10, 11]), (19, [0, 1, 6, 2, 3, 4, 5, 7, 8]), (20, [0, 1, 2, 3, 4, 5, 6, 7, 8, 9, 10, 12, 13, 14, 15, 16, 11, 17, 18, 19, 20, 21, 22, 23, 24])], clr := [], mask := [(12, [3, 9, 11, 12], [16, 18])], fns := [], lcl := [] }
theorem r5 : FnOK Try.prog mds 5 c5 := .read (pol := p5) (d := d5) Try.func5 (by kernel_rfl) (by kernel_rfl) rfl rfl (by kernel_rfl)

/- reservoir/reservoirlaw9.FrameParts -/
def d6 : DFn := ⟨[(.c (.sl [.one])), (.c (.sl [.one]))], [(.c .one)], .pure, [.tmp 4],
(.seq (.reg false [
⟨some 4, none, [], .mov (.k (.bo false))⟩] [])
(.seq (.seq (.reg false [
⟨some 20, none, [], .mov (.t 0)⟩,
⟨some 21, none, [], .len false (.t 20)⟩,
⟨some 22, none, [], .bin .no .gtr (.t 21) (.k (.it .i64 800))⟩] [])
(.cond (.t 22)
(.reg false [
⟨some 23, none, [], .mov (.t 0)⟩,
⟨some 24, none, [], .slc false 1 (.t 23) none (some (.k (.it .i64 800)))⟩,
⟨some 0, none, [], .mov (.t 24)⟩] [])
.skip))
(.seq (.reg false [
⟨some 26, none, [], .call false .rw 13 [(.k (.it .i64 16384)), (.k (.bo false))]⟩,
⟨some 25, none, [], .mov (.t 26)⟩,
⟨some 27, none, [], .ext (.t 25) 0⟩,
⟨some 28, none, [], .ext (.t 25) 1⟩,
⟨some 5, none, [], .mov (.t 27)⟩,
⟨some 6, none, [], .mov (.t 28)⟩] [])
(.seq (.reg false [
⟨some 30, none, [], .call false .rw 13 [(.k (.it .i64 16384)), (.k (.bo false))]⟩,
⟨some 29, none, [], .mov (.t 30)⟩,
⟨some 31, none, [], .ext (.t 29) 0⟩,
⟨some 32, none, [], .ext (.t 29) 1⟩,
⟨some 7, none, [], .mov (.t 31)⟩,
⟨some 8, none, [], .mov (.t 32)⟩] [])
(.seq (.seq (.reg false [
⟨some 33, none, [], .mov (.t 5)⟩,
⟨some 34, none, [], .bin .ptr .eql (.t 33) (.k .np)⟩,
⟨some 35, none, [], .mov (.t 34)⟩,
⟨some 36, some (35, false), [], .mov (.t 7)⟩,
⟨some 37, some (35, false), [], .bin .ptr .eql (.t 36) (.k .np)⟩,
⟨some 38, none, [], .pick (.t 35) (.k (.bo true)) (.t 37)⟩,
⟨some 39, none, [], .mov (.t 38)⟩,
⟨some 40, some (39, false), [], .mov (.t 6)⟩,
⟨some 41, some (39, false), [], .bin .no .neq (.t 40) (.k (.it .i64 0))⟩,
⟨some 42, none, [], .pick (.t 39) (.k (.bo true)) (.t 41)⟩,
⟨some 43, none, [], .mov (.t 42)⟩,
⟨some 44, some (43, false), [], .mov (.t 8)⟩,
⟨some 45, some (43, false), [], .bin .no .neq (.t 44) (.k (.it .i64 0))⟩,
⟨some 46, none, [], .pick (.t 43) (.k (.bo true)) (.t 45)⟩] [])
(.cond (.t 46)
(.seq (.reg false [
⟨some 4, none, [], .mov (.k (.bo false))⟩] [])
.ret)
.skip))
(.seq (.reg false [
⟨some 48, none, [], .mov (.t 5)⟩,
⟨some 49, none, [], .mov (.t 0)⟩,
⟨some 50, none, [], .call false .rw 14 [(.t 48), (.t 49)]⟩,
⟨some 47, none, [], .mov (.t 50)⟩,
⟨some 51, none, [], .ext (.t 47) 0⟩,
⟨some 52, none, [], .ext (.t 47) 1⟩,
⟨some 10, none, [], .alc [(.it .i64 0), (.it .i64 0), (.it .i64 0)]⟩,
⟨some 9, none, [], .mov (.t 51)⟩,
⟨none, none, [], .sto 3 (.t 10) (.t 52)⟩] [])
(.seq (.reg false [
⟨some 11, none, [], .mov (.k .ns)⟩] [])
(.seq (.reg false [
⟨some 53, none, [], .bld [(.it .i64 0), (.it .i64 0), (.it .i64 0)] []⟩,
⟨some 12, none, [], .alc [(.it .i64 0), (.it .i64 0), (.it .i64 0)]⟩,
⟨none, none, [], .sto 3 (.t 12) (.t 53)⟩] [])
(.seq (.reg false [
⟨some 13, none, [], .mov (.k (.it .i64 0))⟩] [])
(.seq (.seq (.reg false [
⟨some 14, none, [], .mov (.k (.it .i64 0))⟩] [])
(.blk 0 (.loop [0, 1, 5, 7, 9, 10, 11, 12, 13, 14] [17, 19]
(.seq (.seq (.reg false [
⟨some 54, none, [], .mov (.t 14)⟩,
⟨some 55, none, [], .mov (.t 1)⟩,
⟨some 56, none, [], .len false (.t 55)⟩,
⟨some 57, none, [], .bin .no .lss (.t 54) (.t 56)⟩,
⟨some 58, none, [], .mov (.t 57)⟩,
⟨some 59, some (58, true), [], .mov (.t 14)⟩,
⟨some 60, some (58, true), [], .bin .no .lss (.t 59) (.k (.it .i64 40))⟩,
⟨some 61, none, [], .pick (.t 58) (.t 60) (.k (.bo false))⟩] [])
(.cond (.t 61)
.skip
(.exit 0)))
(.seq (.blk 1 (.seq (.reg false [
⟨some 64, none, [], .mov (.t 1)⟩,
⟨some 65, none, [], .mov (.t 14)⟩,
⟨some 66, none, [], .ias 1 (.t 64) (.t 65)⟩,
⟨some 67, none, [], .ld 1 false (.t 66)⟩,
⟨some 68, none, [], .mov (.t 13)⟩,
⟨some 69, none, [], .mov (.t 0)⟩,
⟨some 70, none, [], .len false (.t 69)⟩,
⟨some 71, none, [], .call false .pure 24 [(.t 67), (.t 68), (.t 70)]⟩,
⟨some 15, none, [], .mov (.t 71)⟩] [])
(.seq (.reg false [
⟨some 73, none, [], .mov (.t 7)⟩,
⟨some 74, none, [], .mov (.t 0)⟩,
⟨some 75, none, [], .mov (.t 13)⟩,
⟨some 76, none, [], .mov (.t 15)⟩,
⟨some 77, none, [], .slc false 1 (.t 74) (some (.t 75)) (some (.t 76))⟩,
⟨some 78, none, [], .call false .rw 14 [(.t 73), (.t 77)]⟩,
⟨some 72, none, [], .mov (.t 78)⟩,
⟨some 79, none, [], .ext (.t 72) 0⟩,
⟨some 80, none, [], .ext (.t 72) 1⟩,
⟨some 17, none, [], .alc [(.it .i64 0), (.it .i64 0), (.it .i64 0)]⟩,
⟨some 16, none, [], .mov (.t 79)⟩,
⟨none, none, [], .sto 3 (.t 17) (.t 80)⟩] [])
(.seq (.reg true [
⟨some 81, none, [], .mov (.t 11)⟩,
⟨some 82, none, [], .mov (.t 16)⟩,
⟨some 84, none, [], .ld 3 true (.t 17)⟩,
⟨some 83, none, [17], .app 4 48 (.t 81) (.t 82)⟩,
⟨some 11, none, [], .mov (.t 83)⟩,
⟨none, none, [], .sto 3 (.t 12) (.t 84)⟩] [])
(.reg false [
⟨some 85, none, [], .mov (.t 15)⟩,
⟨some 13, none, [], .mov (.t 85)⟩] [])))))
(.reg false [
⟨some 62, none, [], .mov (.t 14)⟩,
⟨some 63, none, [], .bin .no .add (.t 62) (.k (.it .i64 1))⟩,
⟨some 14, none, [], .mov (.t 63)⟩] []))))))
(.seq (.reg false [
⟨some 87, none, [], .mov (.t 7)⟩,
⟨some 88, none, [], .mov (.t 0)⟩,
⟨some 89, none, [], .mov (.t 13)⟩,
⟨some 90, none, [], .slc false 1 (.t 88) (some (.t 89)) none⟩,
⟨some 91, none, [], .call false .rw 14 [(.t 87), (.t 90)]⟩,
⟨some 86, none, [], .mov (.t 91)⟩,
⟨some 92, none, [], .ext (.t 86) 0⟩,
⟨some 93, none, [], .ext (.t 86) 1⟩,
⟨some 19, none, [], .alc [(.it .i64 0), (.it .i64 0), (.it .i64 0)]⟩,
⟨some 18, none, [], .mov (.t 92)⟩,
⟨none, none, [], .sto 3 (.t 19) (.t 93)⟩] [])
(.seq (.reg true [
⟨some 94, none, [], .mov (.t 11)⟩,
⟨some 95, none, [], .mov (.t 18)⟩,
⟨some 97, none, [], .ld 3 true (.t 19)⟩,
⟨some 96, none, [19], .app 4 48 (.t 94) (.t 95)⟩,
⟨some 11, none, [], .mov (.t 96)⟩,
⟨none, none, [], .sto 3 (.t 12) (.t 97)⟩] [])
(.seq (.reg false [
⟨some 98, none, [], .mov (.t 11)⟩,
⟨some 99, none, [], .mov (.t 9)⟩,
⟨some 100, none, [], .call false .pure 16 [(.t 98), (.t 99)]⟩,
⟨some 101, none, [], .mov (.t 100)⟩,
⟨some 102, some (101, true), [], .ld 3 true (.t 10)⟩,
⟨some 103, some (101, true), [], .ld 3 true (.t 12)⟩,
⟨some 104, some (101, true), [], .bin (.ag [0, 0, 0]) .eql (.t 102) (.t 103)⟩,
⟨some 105, none, [], .pick (.t 101) (.t 104) (.k (.bo false))⟩,
⟨some 106, none, [], .mov (.t 105)⟩,
⟨some 107, some (106, true), [], .mov (.t 5)⟩,
⟨some 108, some (106, true), [], .call false .ro 15 [(.t 107)]⟩,
⟨some 109, some (106, true), [], .mov (.t 7)⟩,
⟨some 110, some (106, true), [], .call false .ro 15 [(.t 109)]⟩,
⟨some 111, some (106, true), [], .bin .no .eql (.t 108) (.t 110)⟩,
⟨some 112, none, [], .pick (.t 106) (.t 111) (.k (.bo false))⟩,
⟨some 113, none, [], .mov (.t 112)⟩,
⟨some 114, some (113, true), [], .call false .pure 3 []⟩,
⟨some 115, none, [], .pick (.t 113) (.t 114) (.k (.bo false))⟩,
⟨some 4, none, [], .mov (.t 115)⟩] [])
.ret)))))))))))))⟩
def c6 : Ev.Fn := d6.den
def p6 : Pol := { loc := [10, 12, 17, 19], md := .pure, mds := mds, heap := [83, 96], own := [83, 96], ord := [(7, [0, 1, 6, 2, 3, 4, 5, 7, 8]), (15, [0, 1, 2, 3, 4, 9, 5, 6, 7, 8, 10, 11]), (16, [0, 1, 3, 2, 4, 5]), (18, [0, 1, 2, 3, 8, 4, 5, 6, 7, 9, 10]), (19, [0, 1, 3, 2, 4, 5]), (20, [0, 1, 2, 3, 4, 5, 6, 7, 8, 9, 11, 10, 12, 13, 14, 15, 16, 17, 18])], clr := [], mask := [(12, [0, 1, 5, 7, 9, 10, 11, 12, 13, 14], [17, 19])], fns := [], lcl := [] }
theorem r6 : FnOK Try.prog mds 6 c6 := .read (pol := p6) (d := d6) Try.func6 (by kernel_rfl) (by kernel_rfl) rfl rfl (by kernel_rfl)

/- reservoir/reservoirlaw9.FrameBack -/
def d7 : DFn := ⟨[(.c (.sl [.one, .one, .one, (.sl [.one])])), (.c .one)], [(.c .one)], .pure, [.tmp 4],
(.seq (.reg false [
⟨some 4, none, [], .mov (.k (.bo false))⟩] [])
(.seq (.reg false [
⟨some 5, none, [], .mov (.k .ns)⟩] [])
(.seq (.reg false [
⟨some 6, none, [], .mov (.k .ns)⟩] [])
(.seq (.reg false [
⟨some 7, none, [], .mov (.k .ns)⟩] [])
(.seq (.seq (.reg false [
⟨some 8, none, [], .mov (.k (.it .i64 0))⟩] [])
(.blk 0 (.loop [0, 1, 5, 6, 7, 8] [9, 17, 19]
(.seq (.seq (.reg false [
⟨some 20, none, [], .mov (.t 8)⟩,
⟨some 21, none, [], .mov (.t 0)⟩,
⟨some 22, none, [], .len false (.t 21)⟩,
⟨some 23, none, [], .bin .no .lss (.t 20) (.t 22)⟩,
⟨some 24, none, [], .mov (.t 23)⟩,
⟨some 25, some (24, true), [], .mov (.t 8)⟩,
⟨some 26, some (24, true), [], .bin .no .lss (.t 25) (.k (.it .i64 20))⟩,
⟨some 27, none, [], .pick (.t 24) (.t 26) (.k (.bo false))⟩] [])
(.cond (.t 27)
.skip
(.exit 0)))
(.seq (.blk 1 (.seq (.reg false [
⟨some 30, none, [], .mov (.t 0)⟩,
⟨some 31, none, [], .mov (.t 8)⟩,
⟨some 32, none, [], .ias 4 (.t 30) (.t 31)⟩,
⟨some 33, none, [], .ld 4 true (.t 32)⟩,
⟨some 34, none, [], .call false .pure 17 [(.t 33)]⟩,
⟨some 9, none, [], .alc [(.it .i64 0), (.it .i64 0), (.it .i64 0), .ns]⟩,
⟨none, none, [], .sto 4 (.t 9) (.t 34)⟩] [])
(.seq (.reg false [
⟨some 35, none, [], .mov (.t 5)⟩,
⟨some 36, none, [], .len false (.t 35)⟩,
⟨some 10, none, [], .mov (.t 36)⟩] [])
(.seq (.reg false [
⟨some 37, none, [], .mov (.t 5)⟩,
⟨some 38, none, [], .ld 4 true (.t 9)⟩,
⟨some 39, none, [], .call false .pure 11 [(.t 37), (.t 38)]⟩,
⟨some 5, none, [], .mov (.t 39)⟩] [])
(.seq (.reg false [
⟨some 40, none, [], .mov (.t 5)⟩,
⟨some 41, none, [], .len false (.t 40)⟩,
⟨some 42, none, [], .mov (.t 10)⟩,
⟨some 43, none, [], .bin .no .gtr (.t 41) (.t 42)⟩] [])
(.cond (.t 43)
(.reg false [
⟨some 44, none, [], .mov (.t 6)⟩,
⟨some 45, none, [], .ld 4 true (.t 9)⟩,
⟨some 46, none, [], .bsl 4 [[(.it .i64 0), (.it .i64 0), (.it .i64 0), .ns]] [(0, (.t 45))]⟩,
⟨some 47, none, [], .app 4 48 (.t 44) (.t 46)⟩,
⟨some 48, none, [], .mov (.t 7)⟩,
⟨some 49, none, [], .mov (.t 5)⟩,
⟨some 50, none, [], .len false (.t 49)⟩,
⟨some 51, none, [], .bsv [.one] 1 [[(.it .i64 0)]] [(0, (.t 50))]⟩,
⟨some 52, none, [], .app 1 8 (.t 48) (.t 51)⟩,
⟨some 6, none, [], .mov (.t 47)⟩,
⟨some 7, none, [], .mov (.t 52)⟩] [])
.skip))))))
(.reg false [
⟨some 28, none, [], .mov (.t 8)⟩,
⟨some 29, none, [], .bin .no .add (.t 28) (.k (.it .i64 1))⟩,
⟨some 8, none, [], .mov (.t 29)⟩] []))))))
(.seq (.reg false [
⟨some 54, none, [], .call false .rw 13 [(.k (.it .i64 16384)), (.k (.bo false))]⟩,
⟨some 53, none, [], .mov (.t 54)⟩,
⟨some 55, none, [], .ext (.t 53) 0⟩,
⟨some 56, none, [], .ext (.t 53) 1⟩,
⟨some 11, none, [], .mov (.t 55)⟩,
⟨some 12, none, [], .mov (.t 56)⟩] [])
(.seq (.seq (.reg false [
⟨some 57, none, [], .mov (.t 11)⟩,
⟨some 58, none, [], .bin .ptr .eql (.t 57) (.k .np)⟩,
⟨some 59, none, [], .mov (.t 58)⟩,
⟨some 60, some (59, false), [], .mov (.t 12)⟩,
⟨some 61, some (59, false), [], .bin .no .neq (.t 60) (.k (.it .i64 0))⟩,
⟨some 62, none, [], .pick (.t 59) (.k (.bo true)) (.t 61)⟩] [])
(.cond (.t 62)
(.seq (.reg false [
⟨some 4, none, [], .mov (.k (.bo false))⟩] [])
.ret)
.skip))
(.seq (.reg false [
⟨some 63, none, [], .mov (.t 1)⟩,
⟨some 64, none, [], .mov (.t 5)⟩,
⟨some 65, none, [], .len false (.t 64)⟩,
⟨some 66, none, [], .call false .pure 24 [(.t 63), (.k (.it .i64 0)), (.t 65)]⟩,
⟨some 13, none, [], .mov (.t 66)⟩] [])
(.seq (.reg false [
⟨some 14, none, [], .mov (.k (.it .i64 0))⟩] [])
(.seq (.blk 2 (.loop [5, 6, 7, 11, 13, 14] [9, 17, 19]
(.seq (.seq (.reg false [
⟨some 67, none, [], .mov (.t 14)⟩,
⟨some 68, none, [], .mov (.t 7)⟩,
⟨some 69, none, [], .len false (.t 68)⟩,
⟨some 70, none, [], .bin .no .lss (.t 67) (.t 69)⟩,
⟨some 71, none, [], .mov (.t 70)⟩,
⟨some 72, some (71, true), [], .mov (.t 7)⟩,
⟨some 73, some (71, true), [], .mov (.t 14)⟩,
⟨some 74, some (71, true), [], .ias 1 (.t 72) (.t 73)⟩,
⟨some 75, some (71, true), [], .ld 1 false (.t 74)⟩,
⟨some 76, some (71, true), [], .mov (.t 13)⟩,
⟨some 77, some (71, true), [], .bin .no .leq (.t 75) (.t 76)⟩,
⟨some 78, none, [], .pick (.t 71) (.t 77) (.k (.bo false))⟩] [])
(.cond (.t 78)
.skip
(.exit 2)))
(.blk 3 (.reg false [
⟨some 79, none, [], .mov (.t 14)⟩,
⟨some 80, none, [], .bin .no .add (.t 79) (.k (.it .i64 1))⟩,
⟨some 14, none, [], .mov (.t 80)⟩] [])))))
(.seq (.reg false [
⟨some 15, none, [], .mov (.k (.it .i64 0))⟩] [])
(.seq (.seq (.reg false [
⟨some 81, none, [], .mov (.t 14)⟩,
⟨some 82, none, [], .bin .no .gtr (.t 81) (.k (.it .i64 0))⟩] [])
(.cond (.t 82)
(.reg false [
⟨some 83, none, [], .mov (.t 7)⟩,
⟨some 84, none, [], .mov (.t 14)⟩,
⟨some 85, none, [], .bin .no .sub (.t 84) (.k (.it .i64 1))⟩,
⟨some 86, none, [], .ias 1 (.t 83) (.t 85)⟩,
⟨some 87, none, [], .ld 1 false (.t 86)⟩,
⟨some 15, none, [], .mov (.t 87)⟩] [])
.skip))
(.seq (.reg false [
⟨some 89, none, [], .mov (.t 11)⟩,
⟨some 90, none, [], .mov (.t 5)⟩,
⟨some 91, none, [], .mov (.t 13)⟩,
⟨some 92, none, [], .slc false 1 (.t 90) none (some (.t 91))⟩,
⟨some 93, none, [], .call false .rw 14 [(.t 89), (.t 92)]⟩,
⟨some 88, none, [], .mov (.t 93)⟩,
⟨some 94, none, [], .ext (.t 88) 0⟩,
⟨some 95, none, [], .ext (.t 88) 1⟩,
⟨some 17, none, [], .alc [(.it .i64 0), (.it .i64 0), (.it .i64 0)]⟩,
⟨some 16, none, [], .mov (.t 94)⟩,
⟨none, none, [], .sto 3 (.t 17) (.t 95)⟩] [])
(.seq (.seq (.reg false [
⟨some 96, none, [], .mov (.t 16)⟩,
⟨some 97, none, [], .mov (.t 6)⟩,
⟨some 98, none, [], .mov (.t 14)⟩,
⟨some 99, none, [], .slc false 4 (.t 97) none (some (.t 98))⟩,
⟨some 100, none, [], .call false .pure 16 [(.t 96), (.t 99)]⟩,
⟨some 101, none, [], .un .not (.t 100)⟩,
⟨some 102, none, [], .mov (.t 101)⟩,
⟨some 103, some (102, false), [], .ld 3 true (.t 17)⟩,
⟨some 104, some (102, false), [], .bld [(.it .i64 0), (.it .i64 0), (.it .i64 0)] []⟩,
⟨some 105, some (102, false), [], .bin (.ag [0, 0, 0]) .neq (.t 103) (.t 104)⟩,
⟨some 106, none, [], .pick (.t 102) (.k (.bo true)) (.t 105)⟩,
⟨some 107, none, [], .mov (.t 106)⟩,
⟨some 108, some (107, false), [], .mov (.t 11)⟩,
⟨some 109, some (107, false), [], .call false .ro 15 [(.t 108)]⟩,
⟨some 110, some (107, false), [], .mov (.t 13)⟩,
⟨some 111, some (107, false), [], .mov (.t 15)⟩,
⟨some 112, some (107, false), [], .bin .no .sub (.t 110) (.t 111)⟩,
⟨some 113, some (107, false), [], .bin .no .neq (.t 109) (.t 112)⟩,
⟨some 114, none, [], .pick (.t 107) (.k (.bo true)) (.t 113)⟩] [])
(.cond (.t 114)
(.seq (.reg false [
⟨some 4, none, [], .mov (.k (.bo false))⟩] [])
.ret)
.skip))
(.seq (.reg false [
⟨some 116, none, [], .mov (.t 11)⟩,
⟨some 117, none, [], .mov (.t 5)⟩,
⟨some 118, none, [], .mov (.t 13)⟩,
⟨some 119, none, [], .slc false 1 (.t 117) (some (.t 118)) none⟩,
⟨some 120, none, [], .call false .rw 14 [(.t 116), (.t 119)]⟩,
⟨some 115, none, [], .mov (.t 120)⟩,
⟨some 121, none, [], .ext (.t 115) 0⟩,
⟨some 122, none, [], .ext (.t 115) 1⟩,
⟨some 19, none, [], .alc [(.it .i64 0), (.it .i64 0), (.it .i64 0)]⟩,
⟨some 18, none, [], .mov (.t 121)⟩,
⟨none, none, [], .sto 3 (.t 19) (.t 122)⟩] [])
(.seq (.reg false [
⟨some 123, none, [], .mov (.t 18)⟩,
⟨some 124, none, [], .mov (.t 6)⟩,
⟨some 125, none, [], .mov (.t 14)⟩,
⟨some 126, none, [], .slc false 4 (.t 124) (some (.t 125)) none⟩,
⟨some 127, none, [], .call false .pure 16 [(.t 123), (.t 126)]⟩,
⟨some 128, none, [], .mov (.t 127)⟩,
⟨some 129, some (128, true), [], .ld 3 true (.t 19)⟩,
⟨some 130, some (128, true), [], .bld [(.it .i64 0), (.it .i64 0), (.it .i64 0)] []⟩,
⟨some 131, some (128, true), [], .bin (.ag [0, 0, 0]) .eql (.t 129) (.t 130)⟩,
⟨some 132, none, [], .pick (.t 128) (.t 131) (.k (.bo false))⟩,
⟨some 133, none, [], .mov (.t 132)⟩,
⟨some 134, some (133, true), [], .mov (.t 11)⟩,
⟨some 135, some (133, true), [], .call false .ro 15 [(.t 134)]⟩,
⟨some 136, some (133, true), [], .bin .no .eql (.t 135) (.k (.it .i64 0))⟩,
⟨some 137, none, [], .pick (.t 133) (.t 136) (.k (.bo false))⟩,
⟨some 138, none, [], .mov (.t 137)⟩,
⟨some 139, some (138, true), [], .call false .pure 3 []⟩,
⟨some 140, none, [], .pick (.t 138) (.t 139) (.k (.bo false))⟩,
⟨some 4, none, [], .mov (.t 140)⟩] [])
.ret))))))))))))))))⟩
def c7 : Ev.Fn := d7.den
def p7 : Pol := { loc := [9, 17, 19], md := .pure, mds := mds, heap := [47, 52, 46], own := [47, 52], ord := [(7, [0, 1, 2, 3, 5, 4, 6]), (11, [0, 1, 4, 5, 6, 7, 2, 3, 8, 9, 10]), (22, [0, 1, 2, 3, 8, 4, 5, 6, 7, 9, 10]), (23, [0, 1, 2, 3, 4, 5, 6, 7, 8, 9, 10, 11, 12, 14, 15, 16, 13, 17, 18]), (25, [0, 1, 2, 3, 8, 4, 5, 6, 7, 9, 10])], clr := [], mask := [(5, [0, 1, 5, 6, 7, 8], [9, 17, 19]), (17, [5, 6, 7, 11, 13, 14], [9, 17, 19])], fns := [], lcl := [] }
theorem r7 : FnOK Try.prog mds 7 c7 := .read (pol := p7) (d := d7) Try.func7 (by kernel_rfl) (by kernel_rfl) rfl rfl (by kernel_rfl)

/- reservoir/reservoirlaw9.FrameSizes -/
def d8 : DFn := ⟨[(.c (.sl [.one])), (.g [.one, .one, .one, (.sl [.one])])], [(.c .one)], .pure, [.tmp 4],
(.seq (.reg false [
⟨some 3, none, [], .box (.t 1)⟩,
⟨some 4, none, [], .mov (.k (.bo false))⟩] [])
(.seq (.reg false [
⟨some 6, none, [], .ld 4 true (.t 3)⟩,
⟨some 7, none, [], .call false .pure 17 [(.t 6)]⟩,
⟨none, none, [], .sto 4 (.t 3) (.t 7)⟩] [])
(.seq (.reg false [
⟨some 8, none, [], .mov (.t 0)⟩,
⟨some 9, none, [], .ld 4 true (.t 3)⟩,
⟨some 10, none, [], .call false .pure 11 [(.t 8), (.t 9)]⟩,
⟨some 11, none, [], .len false (.t 10)⟩,
⟨some 12, none, [], .mov (.t 0)⟩,
⟨some 13, none, [], .len false (.t 12)⟩,
⟨some 14, none, [], .bin .no .sub (.t 11) (.t 13)⟩,
⟨some 5, none, [], .mov (.t 14)⟩] [])
(.seq (.reg false [
⟨some 15, none, [], .ld 4 true (.t 3)⟩,
⟨some 16, none, [], .call false .pure 19 [(.t 15)]⟩,
⟨some 17, none, [], .mov (.t 16)⟩,
⟨some 18, some (17, true), [], .mov (.t 5)⟩,
⟨some 19, some (17, true), [], .fad 3 (.t 3)⟩,
⟨some 20, some (17, true), [], .ld 1 false (.t 19)⟩,
⟨some 21, some (17, true), [], .len false (.t 20)⟩,
⟨some 22, some (17, true), [], .bin .no .add (.k (.it .i64 9)) (.t 21)⟩,
⟨some 23, some (17, true), [], .bin .no .eql (.t 18) (.t 22)⟩,
⟨some 24, none, [], .pick (.t 17) (.t 23) (.k (.bo false))⟩,
⟨some 25, none, [], .mov (.t 24)⟩,
⟨some 26, some (25, false), [], .ld 4 true (.t 3)⟩,
⟨some 27, some (25, false), [], .call false .pure 19 [(.t 26)]⟩,
⟨some 28, some (25, false), [], .un .not (.t 27)⟩,
⟨some 29, some (25, false), [], .mov (.t 28)⟩,
⟨some 30, some (29, true), [], .mov (.t 5)⟩,
⟨some 31, some (29, true), [], .bin .no .eql (.t 30) (.k (.it .i64 0))⟩,
⟨some 32, some (25, false), [], .pick (.t 29) (.t 31) (.k (.bo false))⟩,
⟨some 33, none, [], .pick (.t 25) (.k (.bo true)) (.t 32)⟩,
⟨some 34, none, [], .mov (.t 33)⟩,
⟨some 35, some (34, true), [], .call false .pure 3 []⟩,
⟨some 36, none, [], .pick (.t 34) (.t 35) (.k (.bo false))⟩,
⟨some 4, none, [], .mov (.t 36)⟩] [19])
.ret))))⟩
def c8 : Ev.Fn := d8.den
def p8 : Pol := { loc := [3], md := .pure, mds := mds, heap := [], own := [], ord := [(0, [1, 0]), (2, [0, 1, 4, 5, 2, 3, 6, 7])], clr := [(3, [19])], mask := [], fns := [], lcl := [] }
theorem r8 : FnOK Try.prog mds 8 c8 := .read (pol := p8) (d := d8) Try.func8 (by kernel_rfl) (by kernel_rfl) rfl rfl (by kernel_rfl)

/- reservoir/reservoirlaw9.FrameLong -/
def d9 : DFn := ⟨[(.c .one), (.c (.sl [.one]))], [(.c .one)], .pure, [.tmp 4],
(.seq (.reg false [
⟨some 4, none, [], .mov (.k (.bo false))⟩] [])
(.seq (.reg false [
⟨some 12, none, [], .mov (.t 0)⟩,
⟨some 13, none, [], .call false .pure 24 [(.t 12), (.k (.it .i64 0)), (.k (.it .i64 3))]⟩,
⟨some 5, none, [], .mov (.t 13)⟩] [])
(.seq (.reg false [
⟨some 15, none, [], .call false .rw 13 [(.k (.it .i64 16384)), (.k (.bo false))]⟩,
⟨some 14, none, [], .mov (.t 15)⟩,
⟨some 16, none, [], .ext (.t 14) 0⟩,
⟨some 17, none, [], .ext (.t 14) 1⟩,
⟨some 6, none, [], .mov (.t 16)⟩,
⟨some 7, none, [], .mov (.t 17)⟩] [])
(.seq (.seq (.reg false [
⟨some 18, none, [], .mov (.t 6)⟩,
⟨some 19, none, [], .bin .ptr .eql (.t 18) (.k .np)⟩,
⟨some 20, none, [], .mov (.t 19)⟩,
⟨some 21, some (20, false), [], .mov (.t 7)⟩,
⟨some 22, some (20, false), [], .bin .no .neq (.t 21) (.k (.it .i64 0))⟩,
⟨some 23, none, [], .pick (.t 20) (.k (.bo true)) (.t 22)⟩,
⟨some 24, none, [], .mov (.t 23)⟩,
⟨some 25, some (24, false), [], .mov (.t 1)⟩,
⟨some 26, some (24, false), [], .len false (.t 25)⟩,
⟨some 27, some (24, false), [], .bin .no .gtr (.t 26) (.k (.it .i64 500))⟩,
⟨some 28, none, [], .pick (.t 24) (.k (.bo true)) (.t 27)⟩] [])
(.cond (.t 28)
(.seq (.reg false [
⟨some 29, none, [], .mov (.t 6)⟩,
⟨some 30, none, [], .bin .ptr .neq (.t 29) (.k .np)⟩,
⟨some 4, none, [], .mov (.t 30)⟩] [])
.ret)
.skip))
(.seq (.reg false [
⟨some 32, none, [], .mov (.t 6)⟩,
⟨some 33, none, [], .mov (.t 5)⟩,
⟨some 34, none, [], .bin .no .add (.k (.it .i64 16384)) (.t 33)⟩,
⟨some 35, none, [], .mks 1 1 [(.it .u8 0)] (.t 34) (.t 34)⟩,
⟨some 36, none, [], .bld [(.it .i64 0), (.it .i64 0), (.it .i64 0), .ns] [(2, 1, (.k (.it .i64 1))), (3, 1, (.t 35))]⟩,
⟨some 37, none, [], .call false .pure 11 [(.k .ns), (.t 36)]⟩,
⟨some 38, none, [], .call false .rw 14 [(.t 32), (.t 37)]⟩,
⟨some 31, none, [], .mov (.t 38)⟩,
⟨some 39, none, [], .ext (.t 31) 0⟩,
⟨some 40, none, [], .ext (.t 31) 1⟩,
⟨some 9, none, [], .alc [(.it .i64 0), (.it .i64 0), (.it .i64 0)]⟩,
⟨some 8, none, [], .mov (.t 39)⟩,
⟨none, none, [], .sto 3 (.t 9) (.t 40)⟩] [])
(.seq (.seq (.reg false [
⟨some 41, none, [], .mov (.t 5)⟩,
⟨some 42, none, [], .bin .no .eql (.t 41) (.k (.it .i64 0))⟩] [])
(.cond (.t 42)
(.seq (.reg false [
⟨some 43, none, [], .mov (.t 8)⟩,
⟨some 44, none, [], .len false (.t 43)⟩,
⟨some 45, none, [], .bin .no .eql (.t 44) (.k (.it .i64 1))⟩,
⟨some 46, none, [], .mov (.t 45)⟩,
⟨some 47, some (46, true), [], .mov (.t 8)⟩,
⟨some 48, some (46, true), [], .ias 4 (.t 47) (.k (.it .i64 0))⟩,
⟨some 49, some (46, true), [], .fad 3 (.t 48)⟩,
⟨some 50, some (46, true), [], .ld 1 false (.t 49)⟩,
⟨some 51, some (46, true), [], .len false (.t 50)⟩,
⟨some 52, some (46, true), [], .bin .no .eql (.t 51) (.k (.it .i64 16384))⟩,
⟨some 53, none, [], .pick (.t 46) (.t 52) (.k (.bo false))⟩,
⟨some 54, none, [], .mov (.t 53)⟩,
⟨some 55, some (54, true), [], .ld 3 true (.t 9)⟩,
⟨some 56, some (54, true), [], .bld [(.it .i64 0), (.it .i64 0), (.it .i64 0)] []⟩,
⟨some 57, some (54, true), [], .bin (.ag [0, 0, 0]) .eql (.t 55) (.t 56)⟩,
⟨some 58, none, [], .pick (.t 54) (.t 57) (.k (.bo false))⟩,
⟨some 59, none, [], .mov (.t 58)⟩,
⟨some 60, some (59, true), [], .call false .pure 3 []⟩,
⟨some 61, none, [], .pick (.t 59) (.t 60) (.k (.bo false))⟩,
⟨some 4, none, [], .mov (.t 61)⟩] [])
.ret)
.skip))
(.seq (.reg false [
⟨some 63, none, [], .mov (.t 6)⟩,
⟨some 64, none, [], .mov (.t 1)⟩,
⟨some 65, none, [], .call false .rw 14 [(.t 63), (.t 64)]⟩,
⟨some 62, none, [], .mov (.t 65)⟩,
⟨some 66, none, [], .ext (.t 62) 0⟩,
⟨some 67, none, [], .ext (.t 62) 1⟩,
⟨some 11, none, [], .alc [(.it .i64 0), (.it .i64 0), (.it .i64 0)]⟩,
⟨some 10, none, [], .mov (.t 66)⟩,
⟨none, none, [], .sto 3 (.t 11) (.t 67)⟩] [])
(.seq (.reg false [
⟨some 68, none, [], .mov (.t 8)⟩,
⟨some 69, none, [], .len false (.t 68)⟩,
⟨some 70, none, [], .bin .no .eql (.t 69) (.k (.it .i64 0))⟩,
⟨some 71, none, [], .mov (.t 70)⟩,
⟨some 72, some (71, true), [], .ld 3 true (.t 9)⟩,
⟨some 73, some (71, true), [], .bld [(.it .i64 0), (.it .i64 0), (.it .i64 0)] [(0, 1, (.k (.it .i64 2))), (1, 1, (.k (.it .i64 6)))]⟩,
⟨some 74, some (71, true), [], .bin (.ag [0, 0, 0]) .eql (.t 72) (.t 73)⟩,
⟨some 75, none, [], .pick (.t 71) (.t 74) (.k (.bo false))⟩,
⟨some 76, none, [], .mov (.t 75)⟩,
⟨some 77, some (76, true), [], .mov (.t 10)⟩,
⟨some 78, some (76, true), [], .len false (.t 77)⟩,
⟨some 79, some (76, true), [], .bin .no .eql (.t 78) (.k (.it .i64 0))⟩,
⟨some 80, none, [], .pick (.t 76) (.t 79) (.k (.bo false))⟩,
⟨some 81, none, [], .mov (.t 80)⟩,
⟨some 82, some (81, true), [], .ld 3 true (.t 11)⟩,
⟨some 83, some (81, true), [], .ld 3 true (.t 9)⟩,
⟨some 84, some (81, true), [], .bin (.ag [0, 0, 0]) .eql (.t 82) (.t 83)⟩,
⟨some 85, none, [], .pick (.t 81) (.t 84) (.k (.bo false))⟩,
⟨some 86, none, [], .mov (.t 85)⟩,
⟨some 87, some (86, true), [], .call false .pure 3 []⟩,
⟨some 88, none, [], .pick (.t 86) (.t 87) (.k (.bo false))⟩,
⟨some 4, none, [], .mov (.t 88)⟩] [])
.ret))))))))⟩
def c9 : Ev.Fn := d9.den
def p9 : Pol := { loc := [9, 11], md := .pure, mds := mds, heap := [], own := [], ord := [(5, [0, 1, 2, 10, 3, 4, 5, 6, 7, 8, 9, 11, 12]), (8, [0, 1, 6, 2, 3, 4, 5, 7, 8])], clr := [], mask := [], fns := [], lcl := [] }
theorem r9 : FnOK Try.prog mds 9 c9 := .read (pol := p9) (d := d9) Try.func9 (by kernel_rfl) (by kernel_rfl) rfl rfl (by kernel_rfl)

/- reservoir/reservoirlaw9.FrameHigh -/
def d10 : DFn := ⟨[(.g [.one, .one, .one, (.sl [.one])])], [(.c .one)], .pure, [.tmp 2],
(.seq (.reg false [
⟨some 1, none, [], .box (.t 0)⟩,
⟨some 2, none, [], .mov (.k (.bo false))⟩] [])
(.seq (.reg false [
⟨some 8, none, [], .ld 4 true (.t 1)⟩,
⟨some 9, none, [], .call false .pure 17 [(.t 8)]⟩,
⟨none, none, [], .sto 4 (.t 1) (.t 9)⟩] [])
(.seq (.seq (.reg false [
⟨some 10, none, [], .ld 4 true (.t 1)⟩,
⟨some 11, none, [], .call false .pure 19 [(.t 10)]⟩,
⟨some 12, none, [], .un .not (.t 11)⟩] [])
(.cond (.t 12)
(.seq (.reg false [
⟨some 13, none, [], .call false .pure 3 []⟩,
⟨some 2, none, [], .mov (.t 13)⟩] [])
.ret)
.skip))
(.seq (.reg false [
⟨some 14, none, [], .ld 4 true (.t 1)⟩,
⟨some 15, none, [], .call true .pure 11 [(.k .ns), (.t 14)]⟩,
⟨some 3, none, [], .mov (.t 15)⟩] [])
(.seq (.reg false [
⟨some 17, none, [], .call false .rw 13 [(.k (.it .i64 16384)), (.k (.bo false))]⟩,
⟨some 16, none, [], .mov (.t 17)⟩,
⟨some 18, none, [], .ext (.t 16) 0⟩,
⟨some 19, none, [], .ext (.t 16) 1⟩,
⟨some 4, none, [], .mov (.t 18)⟩,
⟨some 5, none, [], .mov (.t 19)⟩] [])
(.seq (.seq (.reg false [
⟨some 20, none, [], .mov (.t 4)⟩,
⟨some 21, none, [], .bin .ptr .eql (.t 20) (.k .np)⟩,
⟨some 22, none, [], .mov (.t 21)⟩,
⟨some 23, some (22, false), [], .mov (.t 5)⟩,
⟨some 24, some (22, false), [], .bin .no .neq (.t 23) (.k (.it .i64 0))⟩,
⟨some 25, none, [], .pick (.t 22) (.k (.bo true)) (.t 24)⟩,
⟨some 26, none, [], .mov (.t 25)⟩,
⟨some 27, some (26, false), [], .mov (.t 3)⟩,
⟨some 28, some (26, false), [], .len false (.t 27)⟩,
⟨some 29, some (26, false), [], .bin .no .lss (.t 28) (.k (.it .i64 9))⟩,
⟨some 30, none, [], .pick (.t 26) (.k (.bo true)) (.t 29)⟩] [])
(.cond (.t 30)
(.seq (.reg false [
⟨some 2, none, [], .mov (.k (.bo false))⟩] [])
.ret)
.skip))
(.seq (.reg false [
⟨some 31, none, [], .mov (.t 3)⟩,
⟨some 32, none, [], .ias 1 (.t 31) (.k (.it .i64 5))⟩,
⟨some 33, none, [], .ld 1 false (.t 32)⟩,
⟨some 34, none, [], .bin .no .or (.t 33) (.k (.it .u8 128))⟩,
⟨some 35, none, [], .ias 1 (.t 31) (.k (.it .i64 5))⟩,
⟨none, none, [], .sto 1 (.t 35) (.t 34)⟩] [])
(.seq (.reg false [
⟨some 37, none, [], .mov (.t 4)⟩,
⟨some 38, none, [], .mov (.t 3)⟩,
⟨some 39, none, [], .call false .rw 14 [(.t 37), (.t 38)]⟩,
⟨some 36, none, [], .mov (.t 39)⟩,
⟨some 40, none, [], .ext (.t 36) 0⟩,
⟨some 41, none, [], .ext (.t 36) 1⟩,
⟨some 7, none, [], .alc [(.it .i64 0), (.it .i64 0), (.it .i64 0)]⟩,
⟨some 6, none, [], .mov (.t 40)⟩,
⟨none, none, [], .sto 3 (.t 7) (.t 41)⟩] [])
(.seq (.reg false [
⟨some 42, none, [], .ld 3 true (.t 7)⟩,
⟨some 43, none, [], .bld [(.it .i64 0), (.it .i64 0), (.it .i64 0)] []⟩,
⟨some 44, none, [], .bin (.ag [0, 0, 0]) .eql (.t 42) (.t 43)⟩,
⟨some 45, none, [], .mov (.t 44)⟩,
⟨some 46, some (45, true), [], .mov (.t 6)⟩,
⟨some 47, some (45, true), [], .ld 4 true (.t 1)⟩,
⟨some 48, some (45, true), [], .bsl 4 [[(.it .i64 0), (.it .i64 0), (.it .i64 0), .ns]] [(0, (.t 47))]⟩,
⟨some 49, some (45, true), [], .call false .pure 16 [(.t 46), (.t 48)]⟩,
⟨some 50, none, [], .pick (.t 45) (.t 49) (.k (.bo false))⟩,
⟨some 51, none, [], .mov (.t 50)⟩,
⟨some 52, some (51, true), [], .call false .pure 3 []⟩,
⟨some 53, none, [], .pick (.t 51) (.t 52) (.k (.bo false))⟩,
⟨some 2, none, [], .mov (.t 53)⟩] [])
.ret)))))))))⟩
def c10 : Ev.Fn := d10.den
def p10 : Pol := { loc := [1, 7], md := .pure, mds := mds, heap := [15, 48], own := [15], ord := [(0, [1, 0]), (9, [0, 1, 6, 2, 3, 4, 5, 7, 8])], clr := [], mask := [], fns := [], lcl := [] }
theorem r10 : FnOK Try.prog mds 10 c10 := .read (pol := p10) (d := d10) Try.func10 (by kernel_rfl) (by kernel_rfl) rfl rfl (by kernel_rfl)

/- reservoir/frame.Put -/
def d11 : DFn := ⟨[(.c (.sl [.one])), (.g [.one, .one, .one, (.sl [.one])])], [(.c (.sl [.one]))], .pure, [.tmp 4],
(.seq (.reg false [
⟨some 3, none, [], .box (.t 1)⟩,
⟨some 4, none, [], .mov (.k .ns)⟩] [])
(.seq (.seq (.reg false [
⟨some 8, none, [], .ld 4 true (.t 3)⟩,
⟨some 9, none, [], .call false .pure 19 [(.t 8)]⟩,
⟨some 10, none, [], .un .not (.t 9)⟩] [])
(.cond (.t 10)
(.seq (.reg false [
⟨some 11, none, [], .mov (.t 0)⟩,
⟨some 12, none, [], .app 1 1 (.k .ns) (.t 11)⟩,
⟨some 4, none, [], .mov (.t 12)⟩] [])
.ret)
.skip))
(.seq (.reg true [
⟨some 13, none, [], .fad 3 (.t 3)⟩,
⟨some 14, none, [], .ld 1 false (.t 13)⟩,
⟨some 15, none, [], .len false (.t 14)⟩,
⟨some 16, none, [], .fad 2 (.t 3)⟩,
⟨some 17, none, [], .ld 1 false (.t 16)⟩,
⟨some 5, none, [], .mov (.t 15)⟩,
⟨some 6, none, [], .mov (.t 17)⟩] [13, 16])
(.seq (.reg false [
⟨some 18, none, [], .mov (.t 0)⟩,
⟨some 19, none, [], .len false (.t 18)⟩,
⟨some 20, none, [], .bin .no .add (.t 19) (.k (.it .i64 9))⟩,
⟨some 21, none, [], .mov (.t 5)⟩,
⟨some 22, none, [], .bin .no .add (.t 20) (.t 21)⟩,
⟨some 23, none, [], .mks 1 1 [(.it .u8 0)] (.k (.it .i64 0)) (.t 22)⟩,
⟨some 7, none, [], .mov (.t 23)⟩] [])
(.seq (.reg false [
⟨some 24, none, [], .mov (.t 7)⟩,
⟨some 25, none, [], .mov (.t 0)⟩,
⟨some 26, none, [], .app 1 1 (.t 24) (.t 25)⟩,
⟨some 7, none, [], .mov (.t 26)⟩] [])
(.seq (.reg false [
⟨some 27, none, [], .mov (.t 7)⟩,
⟨some 28, none, [], .mov (.t 5)⟩,
⟨some 29, none, [], .bin .no .shr (.t 28) (.k (.it .u64 16))⟩,
⟨some 30, none, [], .cnv (.int .u8) (.t 29)⟩,
⟨some 31, none, [], .mov (.t 5)⟩,
⟨some 32, none, [], .bin .no .shr (.t 31) (.k (.it .u64 8))⟩,
⟨some 33, none, [], .cnv (.int .u8) (.t 32)⟩,
⟨some 34, none, [], .mov (.t 5)⟩,
⟨some 35, none, [], .cnv (.int .u8) (.t 34)⟩,
⟨some 36, none, [], .fad 0 (.t 3)⟩,
⟨some 37, none, [], .ld 1 false (.t 36)⟩,
⟨some 38, none, [], .cnv (.int .u8) (.t 37)⟩,
⟨some 39, none, [], .fad 1 (.t 3)⟩,
⟨some 40, none, [], .ld 1 false (.t 39)⟩,
⟨some 41, none, [], .cnv (.int .u8) (.t 40)⟩,
⟨some 42, none, [], .mov (.t 6)⟩,
⟨some 43, none, [], .bin .no .shr (.t 42) (.k (.it .u64 24))⟩,
⟨some 44, none, [], .cnv (.int .u8) (.t 43)⟩,
⟨some 45, none, [], .mov (.t 6)⟩,
⟨some 46, none, [], .bin .no .shr (.t 45) (.k (.it .u64 16))⟩,
⟨some 47, none, [], .cnv (.int .u8) (.t 46)⟩,
⟨some 48, none, [], .mov (.t 6)⟩,
⟨some 49, none, [], .bin .no .shr (.t 48) (.k (.it .u64 8))⟩,
⟨some 50, none, [], .cnv (.int .u8) (.t 49)⟩,
⟨some 51, none, [], .mov (.t 6)⟩,
⟨some 52, none, [], .cnv (.int .u8) (.t 51)⟩,
⟨some 53, none, [], .bsv [.one] 1 (List.replicate 9 [(.it .u8 0)]) [(0, (.t 30)), (1, (.t 33)), (2, (.t 35)), (3, (.t 38)), (4, (.t 41)), (5, (.t 44)), (6, (.t 47)), (7, (.t 50)), (8, (.t 52))]⟩,
⟨some 54, none, [], .app 1 1 (.t 27) (.t 53)⟩,
⟨some 7, none, [], .mov (.t 54)⟩] [36, 39])
(.seq (.reg false [
⟨some 55, none, [], .mov (.t 7)⟩,
⟨some 56, none, [], .fad 3 (.t 3)⟩,
⟨some 57, none, [], .ld 1 false (.t 56)⟩,
⟨some 58, none, [], .app 1 1 (.t 55) (.t 57)⟩,
⟨some 4, none, [], .mov (.t 58)⟩] [56])
.ret)))))))⟩
def c11 : Ev.Fn := d11.den
def p11 : Pol := { loc := [3], md := .pure, mds := mds, heap := [26, 54], own := [26, 54], ord := [(0, [1, 0])], clr := [(3, [13, 16]), (6, [36, 39]), (7, [56])], mask := [], fns := [], lcl := [] }
theorem r11 : FnOK Try.prog mds 11 c11 := .read (pol := p11) (d := d11) Try.func11 (by kernel_rfl) (by kernel_rfl) rfl rfl (by kernel_rfl)

/- reservoir/reservoirbook.Same[byte] -/
def d12 : DFn := ⟨[(.c (.sl [.one])), (.c (.sl [.one]))], [(.c .one)], .pure, [.tmp 4],
(.seq (.reg false [
⟨some 4, none, [], .mov (.k (.bo false))⟩] [])
(.seq (.seq (.reg false [
⟨some 6, none, [], .mov (.t 0)⟩,
⟨some 7, none, [], .len false (.t 6)⟩,
⟨some 8, none, [], .mov (.t 1)⟩,
⟨some 9, none, [], .len false (.t 8)⟩,
⟨some 10, none, [], .bin .no .neq (.t 7) (.t 9)⟩] [])
(.cond (.t 10)
(.seq (.reg false [
⟨some 4, none, [], .mov (.k (.bo false))⟩] [])
.ret)
.skip))
(.seq (.seq (.reg false [
⟨some 5, none, [], .mov (.k (.it .i64 0))⟩] [])
(.blk 0 (.loop [0, 1, 5] []
(.seq (.seq (.reg false [
⟨some 11, none, [], .mov (.t 5)⟩,
⟨some 12, none, [], .mov (.t 0)⟩,
⟨some 13, none, [], .len false (.t 12)⟩,
⟨some 14, none, [], .bin .no .lss (.t 11) (.t 13)⟩] [])
(.cond (.t 14)
.skip
(.exit 0)))
(.seq (.blk 1 (.seq (.reg true [
⟨some 17, none, [], .mov (.t 0)⟩,
⟨some 18, none, [], .mov (.t 5)⟩,
⟨some 19, none, [], .ias 1 (.t 17) (.t 18)⟩,
⟨some 20, none, [], .ld 1 false (.t 19)⟩,
⟨some 21, none, [], .mov (.t 1)⟩,
⟨some 22, none, [], .mov (.t 5)⟩,
⟨some 23, none, [], .ias 1 (.t 21) (.t 22)⟩,
⟨some 24, none, [], .ld 1 false (.t 23)⟩,
⟨some 25, none, [], .bin .no .neq (.t 20) (.t 24)⟩] [])
(.cond (.t 25)
(.seq (.reg false [
⟨some 4, none, [], .mov (.k (.bo false))⟩] [])
.ret)
.skip)))
(.reg false [
⟨some 15, none, [], .mov (.t 5)⟩,
⟨some 16, none, [], .bin .no .add (.t 15) (.k (.it .i64 1))⟩,
⟨some 5, none, [], .mov (.t 16)⟩] []))))))
(.seq (.reg false [
⟨some 4, none, [], .mov (.k (.bo true))⟩] [])
.ret))))⟩
def c12 : Ev.Fn := d12.den
def p12 : Pol := { loc := [], md := .pure, mds := mds, heap := [], own := [], ord := [], clr := [], mask := [(4, [0, 1, 5], [])], fns := [], lcl := [] }
theorem r12 : FnOK Try.prog mds 12 c12 := .read (pol := p12) (d := d12) Try.func12 (by kernel_rfl) (by kernel_rfl) rfl rfl (by kernel_rfl)

/- reservoir/frame.New -/
def d13 : DFn := ⟨[(.c .one), (.c .one)], [(.c .one), (.c .one)], .rw, [.tmp 4, .tmp 5],
(.seq (.reg false [
⟨some 4, none, [], .mov (.k .np)⟩,
⟨some 5, none, [], .mov (.k (.it .i64 0))⟩] [])
(.seq (.seq (.reg false [
⟨some 7, none, [], .mov (.t 0)⟩,
⟨some 8, none, [], .call false .pure 25 [(.t 7)]⟩,
⟨some 9, none, [], .un .not (.t 8)⟩] [])
(.cond (.t 9)
(.seq (.reg false [
⟨some 4, none, [], .mov (.k .np)⟩,
⟨some 5, none, [], .mov (.k (.it .i64 1))⟩] [])
.ret)
.skip))
(.seq (.reg false [
⟨some 10, none, [], .mov (.t 0)⟩,
⟨some 11, none, [], .bld [(.it .i64 0), (.st []), .ns, (.it .i64 0), (.it .i64 0), (.it .i64 0)] [(0, 1, (.t 10))]⟩,
⟨some 12, none, [], .bxh (.t 11)⟩,
⟨some 6, none, [], .mov (.t 12)⟩] [])
(.seq (.seq (.reg false [
⟨some 13, none, [], .mov (.t 1)⟩] [])
(.cond (.t 13)
(.reg false [
⟨some 14, none, [], .mov (.t 6)⟩,
⟨some 15, none, [], .nck (.t 14)⟩,
⟨some 16, none, [], .fad 1 (.t 15)⟩,
⟨none, none, [], .sto 1 (.t 16) (.k (.st [80, 82, 73, 32, 42, 32, 72, 84, 84, 80, 47, 50, 46, 48, 13, 10, 13, 10, 83, 77, 13, 10, 13, 10]))⟩] [])
.skip))
(.seq (.reg false [
⟨some 17, none, [], .mov (.t 6)⟩,
⟨some 4, none, [], .mov (.t 17)⟩,
⟨some 5, none, [], .mov (.k (.it .i64 0))⟩] [])
.ret)))))⟩
def c13 : Ev.Fn := d13.den
def p13 : Pol := { loc := [], md := .rw, mds := mds, heap := [], own := [], ord := [], clr := [], mask := [], fns := [], lcl := [] }
theorem r13 : FnOK Try.prog mds 13 c13 := .read (pol := p13) (d := d13) Try.func13 (by kernel_rfl) (by kernel_rfl) rfl rfl (by kernel_rfl)

/- (*reservoir/frame.Reader).Feed -/
def d14 : DFn := ⟨[(.c .one), (.c (.sl [.one]))], [(.c (.sl [.one, .one, .one, (.sl [.one])])), (.g [.one, .one, .one])], .rw, [.tmp 4, .cell 5 3 true],
(.seq (.reg false [
⟨some 4, none, [], .mov (.k .ns)⟩,
⟨some 5, none, [], .alc [(.it .i64 0), (.it .i64 0), (.it .i64 0)]⟩] [])
(.seq (.seq (.reg false [
⟨some 9, none, [], .mov (.t 0)⟩,
⟨some 10, none, [], .nck (.t 9)⟩,
⟨some 11, none, [], .fad 3 (.t 10)⟩,
⟨some 12, none, [], .ld 3 true (.t 11)⟩,
⟨some 13, none, [], .bld [(.it .i64 0), (.it .i64 0), (.it .i64 0)] []⟩,
⟨some 14, none, [], .bin (.ag [0, 0, 0]) .neq (.t 12) (.t 13)⟩] [])
(.cond (.t 14)
(.seq (.reg true [
⟨some 15, none, [], .mov (.t 0)⟩,
⟨some 16, none, [], .nck (.t 15)⟩,
⟨some 17, none, [], .fad 3 (.t 16)⟩,
⟨some 18, none, [], .ld 3 true (.t 17)⟩,
⟨some 4, none, [], .mov (.k .ns)⟩,
⟨none, none, [], .sto 3 (.t 5) (.t 18)⟩] [])
.ret)
.skip))
(.seq (.reg false [
⟨some 19, none, [], .mov (.t 0)⟩,
⟨some 20, none, [], .mov (.t 1)⟩,
⟨some 21, none, [], .call false .rw 26 [(.t 19), (.t 20)]⟩,
⟨some 1, none, [], .mov (.t 21)⟩] [])
(.seq (.reg false [
⟨some 22, none, [], .mov (.t 0)⟩,
⟨some 23, none, [], .mov (.t 0)⟩,
⟨some 24, none, [], .nck (.t 23)⟩,
⟨some 25, none, [], .fad 2 (.t 24)⟩,
⟨some 26, none, [], .ld 1 false (.t 25)⟩,
⟨some 27, none, [], .app 1 1 (.k .ns) (.t 26)⟩,
⟨some 28, none, [], .mov (.t 1)⟩,
⟨some 29, none, [], .app 1 1 (.t 27) (.t 28)⟩,
⟨some 30, none, [], .nck (.t 22)⟩,
⟨some 31, none, [], .fad 2 (.t 30)⟩,
⟨none, none, [], .sto 1 (.t 31) (.t 29)⟩] [])
(.seq (.reg false [
⟨some 6, none, [], .mov (.k .ns)⟩] [])
(.seq (.blk 0 (.loop [0, 5, 6] [7]
(.seq (.seq (.reg false [
⟨some 32, none, [], .mov (.t 0)⟩,
⟨some 33, none, [], .nck (.t 32)⟩,
⟨some 34, none, [], .fad 3 (.t 33)⟩,
⟨some 35, none, [], .ld 3 true (.t 34)⟩,
⟨some 36, none, [], .bld [(.it .i64 0), (.it .i64 0), (.it .i64 0)] []⟩,
⟨some 37, none, [], .bin (.ag [0, 0, 0]) .eql (.t 35) (.t 36)⟩] [])
(.cond (.t 37)
.skip
(.exit 0)))
(.blk 1 (.seq (.reg false [
⟨some 39, none, [], .mov (.t 0)⟩,
⟨some 40, none, [], .call false .rw 27 [(.t 39)]⟩,
⟨some 38, none, [], .mov (.t 40)⟩,
⟨some 41, none, [], .ext (.t 38) 0⟩,
⟨some 42, none, [], .ext (.t 38) 1⟩,
⟨some 7, none, [], .alc [(.it .i64 0), (.it .i64 0), (.it .i64 0), .ns]⟩,
⟨none, none, [], .sto 4 (.t 7) (.t 41)⟩,
⟨some 8, none, [], .mov (.t 42)⟩] [])
(.seq (.seq (.reg false [
⟨some 43, none, [], .mov (.t 8)⟩,
⟨some 44, none, [], .un .not (.t 43)⟩] [])
(.cond (.t 44)
(.exit 0)
.skip))
(.reg false [
⟨some 45, none, [], .mov (.t 6)⟩,
⟨some 46, none, [], .ld 4 true (.t 7)⟩,
⟨some 47, none, [], .bsl 4 [[(.it .i64 0), (.it .i64 0), (.it .i64 0), .ns]] [(0, (.t 46))]⟩,
⟨some 48, none, [], .app 4 48 (.t 45) (.t 47)⟩,
⟨some 6, none, [], .mov (.t 48)⟩] [])))))))
(.seq (.reg true [
⟨some 49, none, [], .mov (.t 6)⟩,
⟨some 50, none, [], .mov (.t 0)⟩,
⟨some 51, none, [], .nck (.t 50)⟩,
⟨some 52, none, [], .fad 3 (.t 51)⟩,
⟨some 53, none, [], .ld 3 true (.t 52)⟩,
⟨some 4, none, [], .mov (.t 49)⟩,
⟨none, none, [], .sto 3 (.t 5) (.t 53)⟩] [])
.ret)))))))⟩
def c14 : Ev.Fn := d14.den
def p14 : Pol := { loc := [5, 7], md := .rw, mds := mds, heap := [27, 29, 48, 47], own := [27, 29, 48], ord := [(4, [0, 1, 2, 3, 4, 6, 5, 7, 8, 9, 10]), (7, [0, 5, 1, 2, 3, 4, 6, 7])], clr := [], mask := [(6, [0, 5, 6], [7])], fns := [], lcl := [] }
theorem r14 : FnOK Try.prog mds 14 c14 := .read (pol := p14) (d := d14) Try.func14 (by kernel_rfl) (by kernel_rfl) rfl rfl (by kernel_rfl)

/- (*reservoir/frame.Reader).Left -/
def d15 : DFn := ⟨[(.c .one)], [(.c .one)], .ro, [.tmp 2],
(.seq (.reg false [
⟨some 2, none, [], .mov (.k (.it .i64 0))⟩] [])
(.seq (.reg false [
⟨some 3, none, [], .mov (.t 0)⟩,
⟨some 4, none, [], .nck (.t 3)⟩,
⟨some 5, none, [], .fad 2 (.t 4)⟩,
⟨some 6, none, [], .ld 1 false (.t 5)⟩,
⟨some 7, none, [], .len false (.t 6)⟩,
⟨some 2, none, [], .mov (.t 7)⟩] [])
.ret))⟩
def c15 : Ev.Fn := d15.den
def p15 : Pol := { loc := [], md := .ro, mds := mds, heap := [], own := [], ord := [], clr := [], mask := [], fns := [], lcl := [] }
theorem r15 : FnOK Try.prog mds 15 c15 := .read (pol := p15) (d := d15) Try.func15 (by kernel_rfl) (by kernel_rfl) rfl rfl (by kernel_rfl)

/- reservoir/reservoirlaw9.same -/
def d16 : DFn := ⟨[(.c (.sl [.one, .one, .one, (.sl [.one])])), (.c (.sl [.one, .one, .one, (.sl [.one])]))], [(.c .one)], .pure, [.tmp 4],
(.seq (.reg false [
⟨some 4, none, [], .mov (.k (.bo false))⟩] [])
(.seq (.seq (.reg false [
⟨some 6, none, [], .mov (.t 0)⟩,
⟨some 7, none, [], .len false (.t 6)⟩,
⟨some 8, none, [], .mov (.t 1)⟩,
⟨some 9, none, [], .len false (.t 8)⟩,
⟨some 10, none, [], .bin .no .neq (.t 7) (.t 9)⟩] [])
(.cond (.t 10)
(.seq (.reg false [
⟨some 4, none, [], .mov (.k (.bo false))⟩] [])
.ret)
.skip))
(.seq (.seq (.reg false [
⟨some 5, none, [], .mov (.k (.it .i64 0))⟩] [])
(.blk 0 (.loop [0, 1, 5] []
(.seq (.seq (.reg false [
⟨some 11, none, [], .mov (.t 5)⟩,
⟨some 12, none, [], .mov (.t 0)⟩,
⟨some 13, none, [], .len false (.t 12)⟩,
⟨some 14, none, [], .bin .no .lss (.t 11) (.t 13)⟩] [])
(.cond (.t 14)
.skip
(.exit 0)))
(.seq (.blk 1 (.seq (.reg true [
⟨some 17, none, [], .mov (.t 0)⟩,
⟨some 18, none, [], .mov (.t 5)⟩,
⟨some 19, none, [], .ias 4 (.t 17) (.t 18)⟩,
⟨some 20, none, [], .fad 0 (.t 19)⟩,
⟨some 21, none, [], .ld 1 false (.t 20)⟩,
⟨some 22, none, [], .mov (.t 1)⟩,
⟨some 23, none, [], .mov (.t 5)⟩,
⟨some 24, none, [], .ias 4 (.t 22) (.t 23)⟩,
⟨some 25, none, [], .fad 0 (.t 24)⟩,
⟨some 26, none, [], .ld 1 false (.t 25)⟩,
⟨some 27, none, [], .bin .no .neq (.t 21) (.t 26)⟩,
⟨some 28, none, [], .mov (.t 27)⟩,
⟨some 29, some (28, false), [], .mov (.t 0)⟩,
⟨some 30, some (28, false), [], .mov (.t 5)⟩,
⟨some 31, some (28, false), [], .ias 4 (.t 29) (.t 30)⟩,
⟨some 32, some (28, false), [], .fad 1 (.t 31)⟩,
⟨some 33, some (28, false), [], .ld 1 false (.t 32)⟩,
⟨some 34, some (28, false), [], .mov (.t 1)⟩,
⟨some 35, some (28, false), [], .mov (.t 5)⟩,
⟨some 36, some (28, false), [], .ias 4 (.t 34) (.t 35)⟩,
⟨some 37, some (28, false), [], .fad 1 (.t 36)⟩,
⟨some 38, some (28, false), [], .ld 1 false (.t 37)⟩,
⟨some 39, some (28, false), [], .bin .no .neq (.t 33) (.t 38)⟩,
⟨some 40, none, [], .pick (.t 28) (.k (.bo true)) (.t 39)⟩,
⟨some 41, none, [], .mov (.t 40)⟩,
⟨some 42, some (41, false), [], .mov (.t 0)⟩,
⟨some 43, some (41, false), [], .mov (.t 5)⟩,
⟨some 44, some (41, false), [], .ias 4 (.t 42) (.t 43)⟩,
⟨some 45, some (41, false), [], .fad 2 (.t 44)⟩,
⟨some 46, some (41, false), [], .ld 1 false (.t 45)⟩,
⟨some 47, some (41, false), [], .mov (.t 1)⟩,
⟨some 48, some (41, false), [], .mov (.t 5)⟩,
⟨some 49, some (41, false), [], .ias 4 (.t 47) (.t 48)⟩,
⟨some 50, some (41, false), [], .fad 2 (.t 49)⟩,
⟨some 51, some (41, false), [], .ld 1 false (.t 50)⟩,
⟨some 52, some (41, false), [], .bin .no .neq (.t 46) (.t 51)⟩,
⟨some 53, none, [], .pick (.t 41) (.k (.bo true)) (.t 52)⟩,
⟨some 54, none, [], .mov (.t 53)⟩,
⟨some 55, some (54, false), [], .mov (.t 0)⟩,
⟨some 56, some (54, false), [], .mov (.t 5)⟩,
⟨some 57, some (54, false), [], .ias 4 (.t 55) (.t 56)⟩,
⟨some 58, some (54, false), [], .fad 3 (.t 57)⟩,
⟨some 59, some (54, false), [], .ld 1 false (.t 58)⟩,
⟨some 60, some (54, false), [], .mov (.t 1)⟩,
⟨some 61, some (54, false), [], .mov (.t 5)⟩,
⟨some 62, some (54, false), [], .ias 4 (.t 60) (.t 61)⟩,
⟨some 63, some (54, false), [], .fad 3 (.t 62)⟩,
⟨some 64, some (54, false), [], .ld 1 false (.t 63)⟩,
⟨some 65, some (54, false), [], .call false .pure 12 [(.t 59), (.t 64)]⟩,
⟨some 66, some (54, false), [], .un .not (.t 65)⟩,
⟨some 67, none, [], .pick (.t 54) (.k (.bo true)) (.t 66)⟩] [])
(.cond (.t 67)
(.seq (.reg false [
⟨some 4, none, [], .mov (.k (.bo false))⟩] [])
.ret)
.skip)))
(.reg false [
⟨some 15, none, [], .mov (.t 5)⟩,
⟨some 16, none, [], .bin .no .add (.t 15) (.k (.it .i64 1))⟩,
⟨some 5, none, [], .mov (.t 16)⟩] []))))))
(.seq (.reg false [
⟨some 4, none, [], .mov (.k (.bo true))⟩] [])
.ret))))⟩
def c16 : Ev.Fn := d16.den
def p16 : Pol := { loc := [], md := .pure, mds := mds, heap := [], own := [], ord := [], clr := [], mask := [(4, [0, 1, 5], [])], fns := [], lcl := [] }
theorem r16 : FnOK Try.prog mds 16 c16 := .read (pol := p16) (d := d16) Try.func16 (by kernel_rfl) (by kernel_rfl) rfl rfl (by kernel_rfl)

/- reservoir/reservoirlaw9.light -/
def d17 : DFn := ⟨[(.g [.one, .one, .one, (.sl [.one])])], [(.g [.one, .one, .one, (.sl [.one])])], .pure, [.cell 2 4 true],
(.seq (.reg false [
⟨some 1, none, [], .box (.t 0)⟩,
⟨some 2, none, [], .alc [(.it .i64 0), (.it .i64 0), (.it .i64 0), .ns]⟩] [])
(.seq (.seq (.reg false [
⟨some 3, none, [], .fad 3 (.t 1)⟩,
⟨some 4, none, [], .ld 1 false (.t 3)⟩,
⟨some 5, none, [], .len false (.t 4)⟩,
⟨some 6, none, [], .bin .no .gtr (.t 5) (.k (.it .i64 300))⟩] [3])
(.cond (.t 6)
(.reg false [
⟨some 7, none, [], .fad 3 (.t 1)⟩,
⟨some 8, none, [], .ld 1 false (.t 7)⟩,
⟨some 9, none, [], .slc false 1 (.t 8) none (some (.k (.it .i64 300)))⟩,
⟨some 10, none, [], .fad 3 (.t 1)⟩,
⟨none, none, [], .sto 1 (.t 10) (.t 9)⟩] [7, 10])
.skip))
(.seq (.reg false [
⟨some 11, none, [], .ld 4 true (.t 1)⟩,
⟨none, none, [], .sto 4 (.t 2) (.t 11)⟩] [])
.ret)))⟩
def c17 : Ev.Fn := d17.den
def p17 : Pol := { loc := [1, 2], md := .pure, mds := mds, heap := [], own := [], ord := [], clr := [(1, [3]), (2, [7, 10])], mask := [], fns := [], lcl := [] }
theorem r17 : FnOK Try.prog mds 17 c17 := .read (pol := p17) (d := d17) Try.func17 (by kernel_rfl) (by kernel_rfl) rfl rfl (by kernel_rfl)

/- reservoir/reservoirbook.Roomy[byte] -/
def d18 : DFn := ⟨[(.c (.sl [.one])), (.c .one)], [(.c (.sl [.one]))], .pure, [.tmp 4],
(.seq (.reg false [
⟨some 4, none, [], .mov (.k .ns)⟩] [])
(.seq (.reg false [
⟨some 7, none, [], .mov (.t 0)⟩,
⟨some 8, none, [], .len false (.t 7)⟩,
⟨some 9, none, [], .bin .no .add (.t 8) (.k (.it .i64 80))⟩,
⟨some 10, none, [], .mks 1 1 [(.it .u8 0)] (.t 9) (.t 9)⟩,
⟨some 5, none, [], .mov (.t 10)⟩] [])
(.seq (.reg false [
⟨some 11, none, [], .mov (.t 5)⟩,
⟨some 12, none, [], .mov (.t 0)⟩,
⟨some 13, none, [], .cpy 1 (.t 11) (.t 12)⟩] [])
(.seq (.seq (.reg false [
⟨some 14, none, [], .mov (.t 0)⟩,
⟨some 15, none, [], .len false (.t 14)⟩,
⟨some 6, none, [], .mov (.t 15)⟩] [])
(.blk 0 (.loop [1, 5, 6] []
(.seq (.seq (.reg false [
⟨some 16, none, [], .mov (.t 6)⟩,
⟨some 17, none, [], .mov (.t 5)⟩,
⟨some 18, none, [], .len false (.t 17)⟩,
⟨some 19, none, [], .bin .no .lss (.t 16) (.t 18)⟩] [])
(.cond (.t 19)
.skip
(.exit 0)))
(.seq (.blk 1 (.reg false [
⟨some 22, none, [], .mov (.t 5)⟩,
⟨some 23, none, [], .mov (.t 6)⟩,
⟨some 24, none, [], .mov (.t 1)⟩,
⟨some 25, none, [], .ias 1 (.t 22) (.t 23)⟩,
⟨none, none, [], .sto 1 (.t 25) (.t 24)⟩] []))
(.reg false [
⟨some 20, none, [], .mov (.t 6)⟩,
⟨some 21, none, [], .bin .no .add (.t 20) (.k (.it .i64 1))⟩,
⟨some 6, none, [], .mov (.t 21)⟩] []))))))
(.seq (.reg false [
⟨some 26, none, [], .mov (.t 5)⟩,
⟨some 4, none, [], .mov (.t 26)⟩] [])
.ret)))))⟩
def c18 : Ev.Fn := d18.den
def p18 : Pol := { loc := [], md := .pure, mds := mds, heap := [], own := [], ord := [], clr := [], mask := [(4, [1, 5, 6], [])], fns := [], lcl := [] }
theorem r18 : FnOK Try.prog mds 18 c18 := .read (pol := p18) (d := d18) Try.func18 (by kernel_rfl) (by kernel_rfl) rfl rfl (by kernel_rfl)

/- reservoir/frame.Right -/
def d19 : DFn := ⟨[(.g [.one, .one, .one, (.sl [.one])])], [(.c .one)], .pure, [.tmp 2],
(.seq (.reg false [
⟨some 1, none, [], .box (.t 0)⟩,
⟨some 2, none, [], .mov (.k (.bo false))⟩] [])
(.seq (.reg false [
⟨some 3, none, [], .fad 0 (.t 1)⟩,
⟨some 4, none, [], .ld 1 false (.t 3)⟩,
⟨some 5, none, [], .bin .no .geq (.t 4) (.k (.it .i64 0))⟩,
⟨some 6, none, [], .mov (.t 5)⟩,
⟨some 7, some (6, true), [], .fad 0 (.t 1)⟩,
⟨some 8, some (6, true), [], .ld 1 false (.t 7)⟩,
⟨some 9, some (6, true), [], .bin .no .leq (.t 8) (.k (.it .i64 255))⟩,
⟨some 10, none, [], .pick (.t 6) (.t 9) (.k (.bo false))⟩,
⟨some 11, none, [], .mov (.t 10)⟩,
⟨some 12, some (11, true), [], .fad 1 (.t 1)⟩,
⟨some 13, some (11, true), [], .ld 1 false (.t 12)⟩,
⟨some 14, some (11, true), [], .bin .no .geq (.t 13) (.k (.it .i64 0))⟩,
⟨some 15, none, [], .pick (.t 11) (.t 14) (.k (.bo false))⟩,
⟨some 16, none, [], .mov (.t 15)⟩,
⟨some 17, some (16, true), [], .fad 1 (.t 1)⟩,
⟨some 18, some (16, true), [], .ld 1 false (.t 17)⟩,
⟨some 19, some (16, true), [], .bin .no .leq (.t 18) (.k (.it .i64 255))⟩,
⟨some 20, none, [], .pick (.t 16) (.t 19) (.k (.bo false))⟩,
⟨some 21, none, [], .mov (.t 20)⟩,
⟨some 22, some (21, true), [], .fad 2 (.t 1)⟩,
⟨some 23, some (21, true), [], .ld 1 false (.t 22)⟩,
⟨some 24, some (21, true), [], .bin .no .geq (.t 23) (.k (.it .i64 0))⟩,
⟨some 25, none, [], .pick (.t 21) (.t 24) (.k (.bo false))⟩,
⟨some 26, none, [], .mov (.t 25)⟩,
⟨some 27, some (26, true), [], .fad 2 (.t 1)⟩,
⟨some 28, some (26, true), [], .ld 1 false (.t 27)⟩,
⟨some 29, some (26, true), [], .bin .no .leq (.t 28) (.k (.it .i64 2147483647))⟩,
⟨some 30, none, [], .pick (.t 26) (.t 29) (.k (.bo false))⟩,
⟨some 31, none, [], .mov (.t 30)⟩,
⟨some 32, some (31, true), [], .fad 3 (.t 1)⟩,
⟨some 33, some (31, true), [], .ld 1 false (.t 32)⟩,
⟨some 34, some (31, true), [], .len false (.t 33)⟩,
⟨some 35, some (31, true), [], .bin .no .leq (.t 34) (.k (.it .i64 16777215))⟩,
⟨some 36, none, [], .pick (.t 31) (.t 35) (.k (.bo false))⟩,
⟨some 2, none, [], .mov (.t 36)⟩] [3, 7, 12, 17, 22, 27, 32])
.ret))⟩
def c19 : Ev.Fn := d19.den
def p19 : Pol := { loc := [1], md := .pure, mds := mds, heap := [], own := [], ord := [(0, [1, 0])], clr := [(1, [3, 7, 12, 17, 22, 27, 32])], mask := [], fns := [], lcl := [] }
theorem r19 : FnOK Try.prog mds 19 c19 := .read (pol := p19) (d := d19) Try.func19 (by kernel_rfl) (by kernel_rfl) rfl rfl (by kernel_rfl)

/- reservoir/reservoirref9.Right -/
def d20 : DFn := ⟨[(.g [.one, .one, .one, (.sl [.one])])], [(.c .one)], .pure, [.tmp 2],
(.seq (.reg false [
⟨some 1, none, [], .box (.t 0)⟩,
⟨some 2, none, [], .mov (.k (.bo false))⟩] [])
(.seq (.reg false [
⟨some 3, none, [], .fad 0 (.t 1)⟩,
⟨some 4, none, [], .ld 1 false (.t 3)⟩,
⟨some 5, none, [], .bin .no .geq (.t 4) (.k (.it .i64 0))⟩,
⟨some 6, none, [], .mov (.t 5)⟩,
⟨some 7, some (6, true), [], .fad 0 (.t 1)⟩,
⟨some 8, some (6, true), [], .ld 1 false (.t 7)⟩,
⟨some 9, some (6, true), [], .bin .no .lss (.t 8) (.k (.it .i64 256))⟩,
⟨some 10, none, [], .pick (.t 6) (.t 9) (.k (.bo false))⟩,
⟨some 11, none, [], .mov (.t 10)⟩,
⟨some 12, some (11, true), [], .fad 1 (.t 1)⟩,
⟨some 13, some (11, true), [], .ld 1 false (.t 12)⟩,
⟨some 14, some (11, true), [], .bin .no .geq (.t 13) (.k (.it .i64 0))⟩,
⟨some 15, none, [], .pick (.t 11) (.t 14) (.k (.bo false))⟩,
⟨some 16, none, [], .mov (.t 15)⟩,
⟨some 17, some (16, true), [], .fad 1 (.t 1)⟩,
⟨some 18, some (16, true), [], .ld 1 false (.t 17)⟩,
⟨some 19, some (16, true), [], .bin .no .lss (.t 18) (.k (.it .i64 256))⟩,
⟨some 20, none, [], .pick (.t 16) (.t 19) (.k (.bo false))⟩,
⟨some 21, none, [], .mov (.t 20)⟩,
⟨some 22, some (21, true), [], .fad 2 (.t 1)⟩,
⟨some 23, some (21, true), [], .ld 1 false (.t 22)⟩,
⟨some 24, some (21, true), [], .bin .no .geq (.t 23) (.k (.it .i64 0))⟩,
⟨some 25, none, [], .pick (.t 21) (.t 24) (.k (.bo false))⟩,
⟨some 26, none, [], .mov (.t 25)⟩,
⟨some 27, some (26, true), [], .fad 2 (.t 1)⟩,
⟨some 28, some (26, true), [], .ld 1 false (.t 27)⟩,
⟨some 29, some (26, true), [], .bin .no .leq (.t 28) (.k (.it .i64 2147483647))⟩,
⟨some 30, none, [], .pick (.t 26) (.t 29) (.k (.bo false))⟩,
⟨some 31, none, [], .mov (.t 30)⟩,
⟨some 32, some (31, true), [], .fad 3 (.t 1)⟩,
⟨some 33, some (31, true), [], .ld 1 false (.t 32)⟩,
⟨some 34, some (31, true), [], .len false (.t 33)⟩,
⟨some 35, some (31, true), [], .bin .no .leq (.t 34) (.k (.it .i64 16777215))⟩,
⟨some 36, none, [], .pick (.t 31) (.t 35) (.k (.bo false))⟩,
⟨some 2, none, [], .mov (.t 36)⟩] [3, 7, 12, 17, 22, 27, 32])
.ret))⟩
def c20 : Ev.Fn := d20.den
def p20 : Pol := { loc := [1], md := .pure, mds := mds, heap := [], own := [], ord := [(0, [1, 0])], clr := [(1, [3, 7, 12, 17, 22, 27, 32])], mask := [], fns := [], lcl := [] }
theorem r20 : FnOK Try.prog mds 20 c20 := .read (pol := p20) (d := d20) Try.func20 (by kernel_rfl) (by kernel_rfl) rfl rfl (by kernel_rfl)

/- reservoir/reservoirref9.Put -/
def d21 : DFn := ⟨[(.c (.sl [.one])), (.g [.one, .one, .one, (.sl [.one])])], [(.c (.sl [.one]))], .pure, [.tmp 4],
(.seq (.reg false [
⟨some 3, none, [], .box (.t 1)⟩,
⟨some 4, none, [], .mov (.k .ns)⟩] [])
(.seq (.reg false [
⟨some 7, none, [], .bsl 1 [] []⟩,
⟨some 8, none, [], .mov (.t 0)⟩,
⟨some 9, none, [], .app 1 1 (.t 7) (.t 8)⟩,
⟨some 5, none, [], .mov (.t 9)⟩] [])
(.seq (.seq (.reg false [
⟨some 10, none, [], .ld 4 true (.t 3)⟩,
⟨some 11, none, [], .call false .pure 20 [(.t 10)]⟩,
⟨some 12, none, [], .un .not (.t 11)⟩] [])
(.cond (.t 12)
(.seq (.reg false [
⟨some 13, none, [], .mov (.t 5)⟩,
⟨some 4, none, [], .mov (.t 13)⟩] [])
.ret)
.skip))
(.seq (.reg false [
⟨some 14, none, [], .fad 3 (.t 3)⟩,
⟨some 15, none, [], .ld 1 false (.t 14)⟩,
⟨some 16, none, [], .len false (.t 15)⟩,
⟨some 6, none, [], .mov (.t 16)⟩] [14])
(.seq (.reg false [
⟨some 17, none, [], .mov (.t 5)⟩,
⟨some 18, none, [], .mov (.t 6)⟩,
⟨some 19, none, [], .bin .no .shr (.t 18) (.k (.it .u64 16))⟩,
⟨some 20, none, [], .cnv (.int .u8) (.t 19)⟩,
⟨some 21, none, [], .mov (.t 6)⟩,
⟨some 22, none, [], .bin .no .shr (.t 21) (.k (.it .u64 8))⟩,
⟨some 23, none, [], .cnv (.int .u8) (.t 22)⟩,
⟨some 24, none, [], .mov (.t 6)⟩,
⟨some 25, none, [], .cnv (.int .u8) (.t 24)⟩,
⟨some 26, none, [], .fad 0 (.t 3)⟩,
⟨some 27, none, [], .ld 1 false (.t 26)⟩,
⟨some 28, none, [], .cnv (.int .u8) (.t 27)⟩,
⟨some 29, none, [], .fad 1 (.t 3)⟩,
⟨some 30, none, [], .ld 1 false (.t 29)⟩,
⟨some 31, none, [], .cnv (.int .u8) (.t 30)⟩,
⟨some 32, none, [], .fad 2 (.t 3)⟩,
⟨some 33, none, [], .ld 1 false (.t 32)⟩,
⟨some 34, none, [], .bin .no .shr (.t 33) (.k (.it .u64 24))⟩,
⟨some 35, none, [], .cnv (.int .u8) (.t 34)⟩,
⟨some 36, none, [], .fad 2 (.t 3)⟩,
⟨some 37, none, [], .ld 1 false (.t 36)⟩,
⟨some 38, none, [], .bin .no .shr (.t 37) (.k (.it .u64 16))⟩,
⟨some 39, none, [], .cnv (.int .u8) (.t 38)⟩,
⟨some 40, none, [], .fad 2 (.t 3)⟩,
⟨some 41, none, [], .ld 1 false (.t 40)⟩,
⟨some 42, none, [], .bin .no .shr (.t 41) (.k (.it .u64 8))⟩,
⟨some 43, none, [], .cnv (.int .u8) (.t 42)⟩,
⟨some 44, none, [], .fad 2 (.t 3)⟩,
⟨some 45, none, [], .ld 1 false (.t 44)⟩,
⟨some 46, none, [], .cnv (.int .u8) (.t 45)⟩,
⟨some 47, none, [], .bsv [.one] 1 (List.replicate 9 [(.it .u8 0)]) [(0, (.t 20)), (1, (.t 23)), (2, (.t 25)), (3, (.t 28)), (4, (.t 31)), (5, (.t 35)), (6, (.t 39)), (7, (.t 43)), (8, (.t 46))]⟩,
⟨some 48, none, [], .app 1 1 (.t 17) (.t 47)⟩,
⟨some 5, none, [], .mov (.t 48)⟩] [26, 29, 32, 36, 40, 44])
(.seq (.reg false [
⟨some 49, none, [], .mov (.t 5)⟩,
⟨some 50, none, [], .fad 3 (.t 3)⟩,
⟨some 51, none, [], .ld 1 false (.t 50)⟩,
⟨some 52, none, [], .app 1 1 (.t 49) (.t 51)⟩,
⟨some 4, none, [], .mov (.t 52)⟩] [50])
.ret))))))⟩
def c21 : Ev.Fn := d21.den
def p21 : Pol := { loc := [3], md := .pure, mds := mds, heap := [7, 9, 48], own := [7, 9, 48], ord := [(0, [1, 0]), (1, [1, 0, 2, 3])], clr := [(4, [14]), (5, [26, 29, 32, 36, 40, 44]), (6, [50])], mask := [], fns := [], lcl := [] }
theorem r21 : FnOK Try.prog mds 21 c21 := .read (pol := p21) (d := d21) Try.func21 (by kernel_rfl) (by kernel_rfl) rfl rfl (by kernel_rfl)

/- reservoir/reservoirbook.Intact[byte] -/
def d22 : DFn := ⟨[(.c (.sl [.one])), (.c (.sl [.one])), (.c .one)], [(.c .one)], .pure, [.tmp 6],
(.seq (.reg false [
⟨some 6, none, [], .mov (.k (.bo false))⟩] [])
(.seq (.seq (.reg false [
⟨some 8, none, [], .mov (.t 0)⟩,
⟨some 9, none, [], .len false (.t 8)⟩,
⟨some 10, none, [], .mov (.t 1)⟩,
⟨some 11, none, [], .len false (.t 10)⟩,
⟨some 12, none, [], .bin .no .add (.t 11) (.k (.it .i64 80))⟩,
⟨some 13, none, [], .bin .no .neq (.t 9) (.t 12)⟩,
⟨some 14, none, [], .mov (.t 13)⟩,
⟨some 15, some (14, false), [], .mov (.t 0)⟩,
⟨some 16, some (14, false), [], .mov (.t 1)⟩,
⟨some 17, some (14, false), [], .len false (.t 16)⟩,
⟨some 18, some (14, false), [], .slc false 1 (.t 15) none (some (.t 17))⟩,
⟨some 19, some (14, false), [], .mov (.t 1)⟩,
⟨some 20, some (14, false), [], .call false .pure 12 [(.t 18), (.t 19)]⟩,
⟨some 21, some (14, false), [], .un .not (.t 20)⟩,
⟨some 22, none, [], .pick (.t 14) (.k (.bo true)) (.t 21)⟩] [])
(.cond (.t 22)
(.seq (.reg false [
⟨some 6, none, [], .mov (.k (.bo false))⟩] [])
.ret)
.skip))
(.seq (.seq (.reg false [
⟨some 23, none, [], .mov (.t 1)⟩,
⟨some 24, none, [], .len false (.t 23)⟩,
⟨some 7, none, [], .mov (.t 24)⟩] [])
(.blk 0 (.loop [0, 2, 7] []
(.seq (.seq (.reg false [
⟨some 25, none, [], .mov (.t 7)⟩,
⟨some 26, none, [], .mov (.t 0)⟩,
⟨some 27, none, [], .len false (.t 26)⟩,
⟨some 28, none, [], .bin .no .lss (.t 25) (.t 27)⟩] [])
(.cond (.t 28)
.skip
(.exit 0)))
(.seq (.blk 1 (.seq (.reg false [
⟨some 31, none, [], .mov (.t 0)⟩,
⟨some 32, none, [], .mov (.t 7)⟩,
⟨some 33, none, [], .ias 1 (.t 31) (.t 32)⟩,
⟨some 34, none, [], .ld 1 false (.t 33)⟩,
⟨some 35, none, [], .mov (.t 2)⟩,
⟨some 36, none, [], .bin .no .neq (.t 34) (.t 35)⟩] [])
(.cond (.t 36)
(.seq (.reg false [
⟨some 6, none, [], .mov (.k (.bo false))⟩] [])
.ret)
.skip)))
(.reg false [
⟨some 29, none, [], .mov (.t 7)⟩,
⟨some 30, none, [], .bin .no .add (.t 29) (.k (.it .i64 1))⟩,
⟨some 7, none, [], .mov (.t 30)⟩] []))))))
(.seq (.reg false [
⟨some 6, none, [], .mov (.k (.bo true))⟩] [])
.ret))))⟩
def c22 : Ev.Fn := d22.den
def p22 : Pol := { loc := [], md := .pure, mds := mds, heap := [], own := [], ord := [], clr := [], mask := [(4, [0, 2, 7], [])], fns := [], lcl := [] }
theorem r22 : FnOK Try.prog mds 22 c22 := .read (pol := p22) (d := d22) Try.func22 (by kernel_rfl) (by kernel_rfl) rfl rfl (by kernel_rfl)

/- (*reservoir/reservoirref9.Reader).Feed -/
def d23 : DFn := ⟨[(.c .one), (.c (.sl [.one]))], [(.c (.sl [.one, .one, .one, (.sl [.one])])), (.g [.one, .one, .one])], .rw, [.tmp 4, .cell 5 3 true],
(.seq (.reg false [
⟨some 4, none, [], .mov (.k .ns)⟩,
⟨some 5, none, [], .alc [(.it .i64 0), (.it .i64 0), (.it .i64 0)]⟩] [])
(.seq (.seq (.reg false [
⟨some 10, none, [], .mov (.t 0)⟩,
⟨some 11, none, [], .nck (.t 10)⟩,
⟨some 12, none, [], .fad 3 (.t 11)⟩,
⟨some 13, none, [], .fad 0 (.t 12)⟩,
⟨some 14, none, [], .ld 1 false (.t 13)⟩,
⟨some 15, none, [], .bin .no .neq (.t 14) (.k (.it .i64 0))⟩] [])
(.cond (.t 15)
(.seq (.reg true [
⟨some 16, none, [], .mov (.t 0)⟩,
⟨some 17, none, [], .nck (.t 16)⟩,
⟨some 18, none, [], .fad 3 (.t 17)⟩,
⟨some 19, none, [], .ld 3 true (.t 18)⟩,
⟨some 4, none, [], .mov (.k .ns)⟩,
⟨none, none, [], .sto 3 (.t 5) (.t 19)⟩] [])
.ret)
.skip))
(.seq (.reg false [
⟨some 20, none, [], .mov (.t 0)⟩,
⟨some 21, none, [], .bsl 1 [] []⟩,
⟨some 22, none, [], .mov (.t 0)⟩,
⟨some 23, none, [], .nck (.t 22)⟩,
⟨some 24, none, [], .fad 0 (.t 23)⟩,
⟨some 25, none, [], .ld 1 false (.t 24)⟩,
⟨some 26, none, [], .app 1 1 (.t 21) (.t 25)⟩,
⟨some 27, none, [], .mov (.t 1)⟩,
⟨some 28, none, [], .app 1 1 (.t 26) (.t 27)⟩,
⟨some 29, none, [], .nck (.t 20)⟩,
⟨some 30, none, [], .fad 0 (.t 29)⟩,
⟨none, none, [], .sto 1 (.t 30) (.t 28)⟩] [])
(.seq (.blk 0 (.loop [0, 5] []
(.seq (.seq (.reg false [
⟨some 31, none, [], .mov (.t 0)⟩,
⟨some 32, none, [], .nck (.t 31)⟩,
⟨some 33, none, [], .fad 1 (.t 32)⟩,
⟨some 34, none, [], .ld 1 false (.t 33)⟩,
⟨some 35, none, [], .len true (.t 34)⟩,
⟨some 36, none, [], .bin .no .gtr (.t 35) (.k (.it .i64 0))⟩,
⟨some 37, none, [], .mov (.t 36)⟩,
⟨some 38, some (37, true), [], .mov (.t 0)⟩,
⟨some 39, some (37, true), [], .nck (.t 38)⟩,
⟨some 40, some (37, true), [], .fad 0 (.t 39)⟩,
⟨some 41, some (37, true), [], .ld 1 false (.t 40)⟩,
⟨some 42, some (37, true), [], .len false (.t 41)⟩,
⟨some 43, some (37, true), [], .bin .no .gtr (.t 42) (.k (.it .i64 0))⟩,
⟨some 44, none, [], .pick (.t 37) (.t 43) (.k (.bo false))⟩] [])
(.cond (.t 44)
.skip
(.exit 0)))
(.blk 1 (.seq (.seq (.reg true [
⟨some 45, none, [], .mov (.t 0)⟩,
⟨some 46, none, [], .nck (.t 45)⟩,
⟨some 47, none, [], .fad 0 (.t 46)⟩,
⟨some 48, none, [], .ld 1 false (.t 47)⟩,
⟨some 49, none, [], .ias 1 (.t 48) (.k (.it .i64 0))⟩,
⟨some 50, none, [], .ld 1 false (.t 49)⟩,
⟨some 51, none, [], .mov (.t 0)⟩,
⟨some 52, none, [], .nck (.t 51)⟩,
⟨some 53, none, [], .fad 1 (.t 52)⟩,
⟨some 54, none, [], .ld 1 false (.t 53)⟩,
⟨some 55, none, [], .ixs (.t 54) (.k (.it .i64 0))⟩,
⟨some 56, none, [], .bin .no .neq (.t 50) (.t 55)⟩] [])
(.cond (.t 56)
(.seq (.reg false [
⟨some 57, none, [], .mov (.t 0)⟩,
⟨some 58, none, [], .bld [(.it .i64 0), (.it .i64 0), (.it .i64 0)] [(0, 1, (.k (.it .i64 2))), (1, 1, (.k (.it .i64 1)))]⟩,
⟨some 59, none, [], .nck (.t 57)⟩,
⟨some 60, none, [], .fad 3 (.t 59)⟩,
⟨none, none, [], .sto 3 (.t 60) (.t 58)⟩] [])
(.seq (.reg false [
⟨some 61, none, [], .mov (.t 0)⟩,
⟨some 62, none, [], .nck (.t 61)⟩,
⟨some 63, none, [], .fad 0 (.t 62)⟩,
⟨none, none, [], .sto 1 (.t 63) (.k .ns)⟩] [])
(.seq (.reg true [
⟨some 64, none, [], .mov (.t 0)⟩,
⟨some 65, none, [], .nck (.t 64)⟩,
⟨some 66, none, [], .fad 3 (.t 65)⟩,
⟨some 67, none, [], .ld 3 true (.t 66)⟩,
⟨some 4, none, [], .mov (.k .ns)⟩,
⟨none, none, [], .sto 3 (.t 5) (.t 67)⟩] [])
.ret)))
.skip))
(.reg true [
⟨some 68, none, [], .mov (.t 0)⟩,
⟨some 69, none, [], .mov (.t 0)⟩,
⟨some 70, none, [], .mov (.t 0)⟩,
⟨some 71, none, [], .nck (.t 70)⟩,
⟨some 72, none, [], .fad 0 (.t 71)⟩,
⟨some 73, none, [], .ld 1 false (.t 72)⟩,
⟨some 74, none, [], .slc false 1 (.t 73) (some (.k (.it .i64 1))) none⟩,
⟨some 75, none, [], .mov (.t 0)⟩,
⟨some 76, none, [], .nck (.t 75)⟩,
⟨some 77, none, [], .fad 1 (.t 76)⟩,
⟨some 78, none, [], .ld 1 false (.t 77)⟩,
⟨some 79, none, [], .slc true 0 (.t 78) (some (.k (.it .i64 1))) none⟩,
⟨some 80, none, [], .nck (.t 68)⟩,
⟨some 81, none, [], .fad 0 (.t 80)⟩,
⟨none, none, [78], .sto 1 (.t 81) (.t 74)⟩,
⟨some 82, none, [], .nck (.t 69)⟩,
⟨some 83, none, [], .fad 1 (.t 82)⟩,
⟨none, none, [], .sto 1 (.t 83) (.t 79)⟩] []))))))
(.seq (.reg false [
⟨some 6, none, [], .mov (.k .ns)⟩] [])
(.seq (.blk 2 (.loop [0, 5, 6] []
(.seq (.seq (.reg false [
⟨some 84, none, [], .mov (.t 0)⟩,
⟨some 85, none, [], .nck (.t 84)⟩,
⟨some 86, none, [], .fad 1 (.t 85)⟩,
⟨some 87, none, [], .ld 1 false (.t 86)⟩,
⟨some 88, none, [], .len true (.t 87)⟩,
⟨some 89, none, [], .bin .no .eql (.t 88) (.k (.it .i64 0))⟩,
⟨some 90, none, [], .mov (.t 89)⟩,
⟨some 91, some (90, true), [], .mov (.t 0)⟩,
⟨some 92, some (90, true), [], .nck (.t 91)⟩,
⟨some 93, some (90, true), [], .fad 0 (.t 92)⟩,
⟨some 94, some (90, true), [], .ld 1 false (.t 93)⟩,
⟨some 95, some (90, true), [], .len false (.t 94)⟩,
⟨some 96, some (90, true), [], .bin .no .geq (.t 95) (.k (.it .i64 9))⟩,
⟨some 97, none, [], .pick (.t 90) (.t 96) (.k (.bo false))⟩] [])
(.cond (.t 97)
.skip
(.exit 2)))
(.blk 3 (.seq (.reg false [
⟨some 98, none, [], .mov (.t 0)⟩,
⟨some 99, none, [], .nck (.t 98)⟩,
⟨some 100, none, [], .fad 0 (.t 99)⟩,
⟨some 101, none, [], .ld 1 false (.t 100)⟩,
⟨some 7, none, [], .mov (.t 101)⟩] [])
(.seq (.reg true [
⟨some 102, none, [], .mov (.t 7)⟩,
⟨some 103, none, [], .ias 1 (.t 102) (.k (.it .i64 0))⟩,
⟨some 104, none, [], .ld 1 false (.t 103)⟩,
⟨some 105, none, [], .cnv (.int .i64) (.t 104)⟩,
⟨some 106, none, [], .bin .no .shl (.t 105) (.k (.it .u64 16))⟩,
⟨some 107, none, [], .mov (.t 7)⟩,
⟨some 108, none, [], .ias 1 (.t 107) (.k (.it .i64 1))⟩,
⟨some 109, none, [], .ld 1 false (.t 108)⟩,
⟨some 110, none, [], .cnv (.int .i64) (.t 109)⟩,
⟨some 111, none, [], .bin .no .shl (.t 110) (.k (.it .u64 8))⟩,
⟨some 112, none, [], .bin .no .or (.t 106) (.t 111)⟩,
⟨some 113, none, [], .mov (.t 7)⟩,
⟨some 114, none, [], .ias 1 (.t 113) (.k (.it .i64 2))⟩,
⟨some 115, none, [], .ld 1 false (.t 114)⟩,
⟨some 116, none, [], .cnv (.int .i64) (.t 115)⟩,
⟨some 117, none, [], .bin .no .or (.t 112) (.t 116)⟩,
⟨some 8, none, [], .mov (.t 117)⟩] [])
(.seq (.seq (.reg false [
⟨some 118, none, [], .mov (.t 8)⟩,
⟨some 119, none, [], .mov (.t 0)⟩,
⟨some 120, none, [], .nck (.t 119)⟩,
⟨some 121, none, [], .fad 2 (.t 120)⟩,
⟨some 122, none, [], .ld 1 false (.t 121)⟩,
⟨some 123, none, [], .bin .no .gtr (.t 118) (.t 122)⟩] [])
(.cond (.t 123)
(.seq (.reg false [
⟨some 124, none, [], .mov (.t 0)⟩,
⟨some 125, none, [], .bld [(.it .i64 0), (.it .i64 0), (.it .i64 0)] [(0, 1, (.k (.it .i64 2))), (1, 1, (.k (.it .i64 6)))]⟩,
⟨some 126, none, [], .nck (.t 124)⟩,
⟨some 127, none, [], .fad 3 (.t 126)⟩,
⟨none, none, [], .sto 3 (.t 127) (.t 125)⟩] [])
(.seq (.reg false [
⟨some 128, none, [], .mov (.t 0)⟩,
⟨some 129, none, [], .nck (.t 128)⟩,
⟨some 130, none, [], .fad 0 (.t 129)⟩,
⟨none, none, [], .sto 1 (.t 130) (.k .ns)⟩] [])
(.seq (.reg true [
⟨some 131, none, [], .mov (.t 6)⟩,
⟨some 132, none, [], .mov (.t 0)⟩,
⟨some 133, none, [], .nck (.t 132)⟩,
⟨some 134, none, [], .fad 3 (.t 133)⟩,
⟨some 135, none, [], .ld 3 true (.t 134)⟩,
⟨some 4, none, [], .mov (.t 131)⟩,
⟨none, none, [], .sto 3 (.t 5) (.t 135)⟩] [])
.ret)))
.skip))
(.seq (.seq (.reg false [
⟨some 136, none, [], .mov (.t 7)⟩,
⟨some 137, none, [], .len false (.t 136)⟩,
⟨some 138, none, [], .mov (.t 8)⟩,
⟨some 139, none, [], .bin .no .add (.k (.it .i64 9)) (.t 138)⟩,
⟨some 140, none, [], .bin .no .lss (.t 137) (.t 139)⟩] [])
(.cond (.t 140)
(.exit 2)
.skip))
(.seq (.reg true [
⟨some 141, none, [], .mov (.t 7)⟩,
⟨some 142, none, [], .ias 1 (.t 141) (.k (.it .i64 5))⟩,
⟨some 143, none, [], .ld 1 false (.t 142)⟩,
⟨some 144, none, [], .bin .no .and (.t 143) (.k (.it .u8 127))⟩,
⟨some 145, none, [], .cnv (.int .i64) (.t 144)⟩,
⟨some 146, none, [], .bin .no .shl (.t 145) (.k (.it .u64 24))⟩,
⟨some 147, none, [], .mov (.t 7)⟩,
⟨some 148, none, [], .ias 1 (.t 147) (.k (.it .i64 6))⟩,
⟨some 149, none, [], .ld 1 false (.t 148)⟩,
⟨some 150, none, [], .cnv (.int .i64) (.t 149)⟩,
⟨some 151, none, [], .bin .no .shl (.t 150) (.k (.it .u64 16))⟩,
⟨some 152, none, [], .bin .no .or (.t 146) (.t 151)⟩,
⟨some 153, none, [], .mov (.t 7)⟩,
⟨some 154, none, [], .ias 1 (.t 153) (.k (.it .i64 7))⟩,
⟨some 155, none, [], .ld 1 false (.t 154)⟩,
⟨some 156, none, [], .cnv (.int .i64) (.t 155)⟩,
⟨some 157, none, [], .bin .no .shl (.t 156) (.k (.it .u64 8))⟩,
⟨some 158, none, [], .bin .no .or (.t 152) (.t 157)⟩,
⟨some 159, none, [], .mov (.t 7)⟩,
⟨some 160, none, [], .ias 1 (.t 159) (.k (.it .i64 8))⟩,
⟨some 161, none, [], .ld 1 false (.t 160)⟩,
⟨some 162, none, [], .cnv (.int .i64) (.t 161)⟩,
⟨some 163, none, [], .bin .no .or (.t 158) (.t 162)⟩,
⟨some 9, none, [], .mov (.t 163)⟩] [])
(.seq (.reg true [
⟨some 164, none, [], .mov (.t 6)⟩,
⟨some 165, none, [], .mov (.t 7)⟩,
⟨some 166, none, [], .ias 1 (.t 165) (.k (.it .i64 3))⟩,
⟨some 167, none, [], .ld 1 false (.t 166)⟩,
⟨some 168, none, [], .cnv (.int .i64) (.t 167)⟩,
⟨some 169, none, [], .mov (.t 7)⟩,
⟨some 170, none, [], .ias 1 (.t 169) (.k (.it .i64 4))⟩,
⟨some 171, none, [], .ld 1 false (.t 170)⟩,
⟨some 172, none, [], .cnv (.int .i64) (.t 171)⟩,
⟨some 173, none, [], .mov (.t 9)⟩,
⟨some 175, none, [], .mov (.t 7)⟩,
⟨some 176, none, [], .mov (.t 8)⟩,
⟨some 177, none, [], .bin .no .add (.k (.it .i64 9)) (.t 176)⟩,
⟨some 178, none, [], .slc false 1 (.t 175) (some (.k (.it .i64 9))) (some (.t 177))⟩,
⟨some 174, none, [], .bsl 1 [] []⟩,
⟨some 179, none, [165, 166, 167, 169, 170, 171], .app 1 1 (.t 174) (.t 178)⟩,
⟨some 180, none, [], .bld [(.it .i64 0), (.it .i64 0), (.it .i64 0), .ns] [(0, 1, (.t 168)), (1, 1, (.t 172)), (2, 1, (.t 173)), (3, 1, (.t 179))]⟩,
⟨some 181, none, [], .bsl 4 [[(.it .i64 0), (.it .i64 0), (.it .i64 0), .ns]] [(0, (.t 180))]⟩,
⟨some 182, none, [], .app 4 48 (.t 164) (.t 181)⟩,
⟨some 6, none, [], .mov (.t 182)⟩] [])
(.reg false [
⟨some 183, none, [], .mov (.t 0)⟩,
⟨some 184, none, [], .mov (.t 7)⟩,
⟨some 185, none, [], .mov (.t 8)⟩,
⟨some 186, none, [], .bin .no .add (.k (.it .i64 9)) (.t 185)⟩,
⟨some 187, none, [], .slc false 1 (.t 184) (some (.t 186)) none⟩,
⟨some 188, none, [], .nck (.t 183)⟩,
⟨some 189, none, [], .fad 0 (.t 188)⟩,
⟨none, none, [], .sto 1 (.t 189) (.t 187)⟩] [])))))))))))
(.seq (.reg false [
⟨some 190, none, [], .mov (.t 6)⟩,
⟨some 191, none, [], .bld [(.it .i64 0), (.it .i64 0), (.it .i64 0)] []⟩,
⟨some 4, none, [], .mov (.t 190)⟩,
⟨none, none, [], .sto 3 (.t 5) (.t 191)⟩] [])
.ret)))))))⟩
def c23 : Ev.Fn := d23.den
def p23 : Pol := { loc := [5], md := .rw, mds := mds, heap := [21, 26, 28, 174, 182, 181], own := [21, 26, 28, 174, 182], ord := [(3, [0, 2, 3, 4, 5, 7, 1, 6, 8, 9, 10, 11]), (20, [0, 1, 2, 3, 4, 5, 6, 7, 8, 9, 11, 12, 13, 14, 10, 15, 16, 17, 18, 19])], clr := [], mask := [(4, [0, 5], []), (11, [0, 5, 6], [])], fns := [], lcl := [] }
theorem r23 : FnOK Try.prog mds 23 c23 := .read (pol := p23) (d := d23) Try.func23 (by kernel_rfl) (by kernel_rfl) rfl rfl (by kernel_rfl)

/- reservoir/reservoirbook.Within -/
def d24 : DFn := ⟨[(.c .one), (.c .one), (.c .one)], [(.c .one)], .pure, [.tmp 6],
(.seq (.reg false [
⟨some 6, none, [], .mov (.k (.it .i64 0))⟩] [])
(.seq (.reg false [
⟨some 7, none, [], .mov (.t 0)⟩,
⟨some 8, none, [], .mov (.t 2)⟩,
⟨some 9, none, [], .mov (.t 1)⟩,
⟨some 10, none, [], .bin .no .sub (.t 8) (.t 9)⟩,
⟨some 11, none, [], .bin .no .add (.t 10) (.k (.it .i64 1))⟩,
⟨some 12, none, [], .bin .no .rem (.t 7) (.t 11)⟩,
⟨some 0, none, [], .mov (.t 12)⟩] [])
(.seq (.seq (.reg false [
⟨some 13, none, [], .mov (.t 0)⟩,
⟨some 14, none, [], .bin .no .lss (.t 13) (.k (.it .i64 0))⟩] [])
(.cond (.t 14)
(.reg false [
⟨some 15, none, [], .mov (.t 0)⟩,
⟨some 16, none, [], .mov (.t 2)⟩,
⟨some 17, none, [], .bin .no .add (.t 15) (.t 16)⟩,
⟨some 18, none, [], .mov (.t 1)⟩,
⟨some 19, none, [], .bin .no .sub (.t 17) (.t 18)⟩,
⟨some 20, none, [], .bin .no .add (.t 19) (.k (.it .i64 1))⟩,
⟨some 0, none, [], .mov (.t 20)⟩] [])
.skip))
(.seq (.reg false [
⟨some 21, none, [], .mov (.t 1)⟩,
⟨some 22, none, [], .mov (.t 0)⟩,
⟨some 23, none, [], .bin .no .add (.t 21) (.t 22)⟩,
⟨some 6, none, [], .mov (.t 23)⟩] [])
.ret))))⟩
def c24 : Ev.Fn := d24.den
def p24 : Pol := { loc := [], md := .pure, mds := mds, heap := [], own := [], ord := [], clr := [], mask := [], fns := [], lcl := [] }
theorem r24 : FnOK Try.prog mds 24 c24 := .read (pol := p24) (d := d24) Try.func24 (by kernel_rfl) (by kernel_rfl) rfl rfl (by kernel_rfl)

/- reservoir/frame.may -/
def d25 : DFn := ⟨[(.c .one)], [(.c .one)], .pure, [.tmp 2],
(.seq (.reg false [
⟨some 2, none, [], .mov (.k (.bo false))⟩] [])
(.seq (.reg false [
⟨some 3, none, [], .mov (.t 0)⟩,
⟨some 4, none, [], .bin .no .geq (.t 3) (.k (.it .i64 16384))⟩,
⟨some 5, none, [], .mov (.t 4)⟩,
⟨some 6, some (5, true), [], .mov (.t 0)⟩,
⟨some 7, some (5, true), [], .bin .no .leq (.t 6) (.k (.it .i64 16777215))⟩,
⟨some 8, none, [], .pick (.t 5) (.t 7) (.k (.bo false))⟩,
⟨some 2, none, [], .mov (.t 8)⟩] [])
.ret))⟩
def c25 : Ev.Fn := d25.den
def p25 : Pol := { loc := [], md := .pure, mds := mds, heap := [], own := [], ord := [], clr := [], mask := [], fns := [], lcl := [] }
theorem r25 : FnOK Try.prog mds 25 c25 := .read (pol := p25) (d := d25) Try.func25 (by kernel_rfl) (by kernel_rfl) rfl rfl (by kernel_rfl)

/- (*reservoir/frame.Reader).begin -/
def d26 : DFn := ⟨[(.c .one), (.c (.sl [.one]))], [(.c (.sl [.one]))], .rw, [.tmp 4],
(.seq (.reg false [
⟨some 4, none, [], .mov (.k .ns)⟩] [])
(.seq (.blk 0 (.loop [0, 1] []
(.seq (.seq (.reg false [
⟨some 5, none, [], .mov (.t 1)⟩,
⟨some 6, none, [], .len false (.t 5)⟩,
⟨some 7, none, [], .bin .no .gtr (.t 6) (.k (.it .i64 0))⟩,
⟨some 8, none, [], .mov (.t 7)⟩,
⟨some 9, some (8, true), [], .mov (.t 0)⟩,
⟨some 10, some (8, true), [], .nck (.t 9)⟩,
⟨some 11, some (8, true), [], .fad 1 (.t 10)⟩,
⟨some 12, some (8, true), [], .ld 1 false (.t 11)⟩,
⟨some 13, some (8, true), [], .bin .no .neq (.t 12) (.k (.st []))⟩,
⟨some 14, none, [], .pick (.t 8) (.t 13) (.k (.bo false))⟩] [])
(.cond (.t 14)
.skip
(.exit 0)))
(.blk 1 (.seq (.seq (.reg true [
⟨some 15, none, [], .mov (.t 1)⟩,
⟨some 16, none, [], .ias 1 (.t 15) (.k (.it .i64 0))⟩,
⟨some 17, none, [], .ld 1 false (.t 16)⟩,
⟨some 18, none, [], .mov (.t 0)⟩,
⟨some 19, none, [], .nck (.t 18)⟩,
⟨some 20, none, [], .fad 1 (.t 19)⟩,
⟨some 21, none, [], .ld 1 false (.t 20)⟩,
⟨some 22, none, [], .ixs (.t 21) (.k (.it .i64 0))⟩,
⟨some 23, none, [], .bin .no .neq (.t 17) (.t 22)⟩] [])
(.cond (.t 23)
(.seq (.reg false [
⟨some 24, none, [], .mov (.t 0)⟩,
⟨some 25, none, [], .call false .rw 28 [(.t 24), (.k (.it .i64 1))]⟩] [])
(.seq (.reg false [
⟨some 4, none, [], .mov (.k .ns)⟩] [])
.ret))
.skip))
(.reg true [
⟨some 26, none, [], .mov (.t 0)⟩,
⟨some 27, none, [], .mov (.t 1)⟩,
⟨some 28, none, [], .slc false 1 (.t 27) (some (.k (.it .i64 1))) none⟩,
⟨some 29, none, [], .mov (.t 0)⟩,
⟨some 30, none, [], .nck (.t 29)⟩,
⟨some 31, none, [], .fad 1 (.t 30)⟩,
⟨some 32, none, [], .ld 1 false (.t 31)⟩,
⟨some 33, none, [], .slc true 0 (.t 32) (some (.k (.it .i64 1))) none⟩,
⟨some 1, none, [], .mov (.t 28)⟩,
⟨some 34, none, [], .nck (.t 26)⟩,
⟨some 35, none, [], .fad 1 (.t 34)⟩,
⟨none, none, [], .sto 1 (.t 35) (.t 33)⟩] []))))))
(.seq (.reg false [
⟨some 36, none, [], .mov (.t 1)⟩,
⟨some 4, none, [], .mov (.t 36)⟩] [])
.ret)))⟩
def c26 : Ev.Fn := d26.den
def p26 : Pol := { loc := [], md := .rw, mds := mds, heap := [], own := [], ord := [], clr := [], mask := [(1, [0, 1], [])], fns := [], lcl := [] }
theorem r26 : FnOK Try.prog mds 26 c26 := .read (pol := p26) (d := d26) Try.func26 (by kernel_rfl) (by kernel_rfl) rfl rfl (by kernel_rfl)

/- (*reservoir/frame.Reader).next -/
def d27 : DFn := ⟨[(.c .one)], [(.g [.one, .one, .one, (.sl [.one])]), (.c .one)], .rw, [.cell 2 4 true, .tmp 3],
(.seq (.reg false [
⟨some 2, none, [], .alc [(.it .i64 0), (.it .i64 0), (.it .i64 0), .ns]⟩,
⟨some 3, none, [], .mov (.k (.bo false))⟩] [])
(.seq (.seq (.reg false [
⟨some 7, none, [], .mov (.t 0)⟩,
⟨some 8, none, [], .nck (.t 7)⟩,
⟨some 9, none, [], .fad 2 (.t 8)⟩,
⟨some 10, none, [], .ld 1 false (.t 9)⟩,
⟨some 11, none, [], .len false (.t 10)⟩,
⟨some 12, none, [], .bin .no .lss (.t 11) (.k (.it .i64 9))⟩] [])
(.cond (.t 12)
(.seq (.reg false [
⟨some 13, none, [], .bld [(.it .i64 0), (.it .i64 0), (.it .i64 0), .ns] []⟩,
⟨none, none, [], .sto 4 (.t 2) (.t 13)⟩,
⟨some 3, none, [], .mov (.k (.bo false))⟩] [])
.ret)
.skip))
(.seq (.reg false [
⟨some 14, none, [], .mov (.t 0)⟩,
⟨some 15, none, [], .nck (.t 14)⟩,
⟨some 16, none, [], .fad 2 (.t 15)⟩,
⟨some 17, none, [], .ld 1 false (.t 16)⟩,
⟨some 18, none, [], .slc false 1 (.t 17) none (some (.k (.it .i64 9)))⟩,
⟨some 4, none, [], .mov (.t 18)⟩] [])
(.seq (.reg true [
⟨some 19, none, [], .mov (.t 4)⟩,
⟨some 20, none, [], .ias 1 (.t 19) (.k (.it .i64 0))⟩,
⟨some 21, none, [], .ld 1 false (.t 20)⟩,
⟨some 22, none, [], .cnv (.int .i64) (.t 21)⟩,
⟨some 23, none, [], .bin .no .shl (.t 22) (.k (.it .u64 16))⟩,
⟨some 24, none, [], .mov (.t 4)⟩,
⟨some 25, none, [], .ias 1 (.t 24) (.k (.it .i64 1))⟩,
⟨some 26, none, [], .ld 1 false (.t 25)⟩,
⟨some 27, none, [], .cnv (.int .i64) (.t 26)⟩,
⟨some 28, none, [], .bin .no .shl (.t 27) (.k (.it .u64 8))⟩,
⟨some 29, none, [], .bin .no .or (.t 23) (.t 28)⟩,
⟨some 30, none, [], .mov (.t 4)⟩,
⟨some 31, none, [], .ias 1 (.t 30) (.k (.it .i64 2))⟩,
⟨some 32, none, [], .ld 1 false (.t 31)⟩,
⟨some 33, none, [], .cnv (.int .i64) (.t 32)⟩,
⟨some 34, none, [], .bin .no .or (.t 29) (.t 33)⟩,
⟨some 5, none, [], .mov (.t 34)⟩] [])
(.seq (.seq (.reg false [
⟨some 35, none, [], .mov (.t 5)⟩,
⟨some 36, none, [], .mov (.t 0)⟩,
⟨some 37, none, [], .nck (.t 36)⟩,
⟨some 38, none, [], .fad 0 (.t 37)⟩,
⟨some 39, none, [], .ld 1 false (.t 38)⟩,
⟨some 40, none, [], .bin .no .gtr (.t 35) (.t 39)⟩] [])
(.cond (.t 40)
(.seq (.reg false [
⟨some 41, none, [], .mov (.t 0)⟩,
⟨some 42, none, [], .call false .rw 28 [(.t 41), (.k (.it .i64 6))]⟩] [])
(.seq (.reg false [
⟨some 43, none, [], .bld [(.it .i64 0), (.it .i64 0), (.it .i64 0), .ns] []⟩,
⟨none, none, [], .sto 4 (.t 2) (.t 43)⟩,
⟨some 3, none, [], .mov (.k (.bo false))⟩] [])
.ret))
.skip))
(.seq (.seq (.reg false [
⟨some 44, none, [], .mov (.t 0)⟩,
⟨some 45, none, [], .nck (.t 44)⟩,
⟨some 46, none, [], .fad 2 (.t 45)⟩,
⟨some 47, none, [], .ld 1 false (.t 46)⟩,
⟨some 48, none, [], .len false (.t 47)⟩,
⟨some 49, none, [], .mov (.t 5)⟩,
⟨some 50, none, [], .bin .no .add (.k (.it .i64 9)) (.t 49)⟩,
⟨some 51, none, [], .bin .no .lss (.t 48) (.t 50)⟩] [])
(.cond (.t 51)
(.seq (.reg false [
⟨some 52, none, [], .bld [(.it .i64 0), (.it .i64 0), (.it .i64 0), .ns] []⟩,
⟨none, none, [], .sto 4 (.t 2) (.t 52)⟩,
⟨some 3, none, [], .mov (.k (.bo false))⟩] [])
.ret)
.skip))
(.seq (.reg true [
⟨some 53, none, [], .mov (.t 4)⟩,
⟨some 54, none, [], .ias 1 (.t 53) (.k (.it .i64 3))⟩,
⟨some 55, none, [], .ld 1 false (.t 54)⟩,
⟨some 56, none, [], .cnv (.int .i64) (.t 55)⟩,
⟨some 57, none, [], .mov (.t 4)⟩,
⟨some 58, none, [], .ias 1 (.t 57) (.k (.it .i64 4))⟩,
⟨some 59, none, [], .ld 1 false (.t 58)⟩,
⟨some 60, none, [], .cnv (.int .i64) (.t 59)⟩,
⟨some 61, none, [], .mov (.t 4)⟩,
⟨some 62, none, [], .ias 1 (.t 61) (.k (.it .i64 5))⟩,
⟨some 63, none, [], .ld 1 false (.t 62)⟩,
⟨some 64, none, [], .bin .no .and (.t 63) (.k (.it .u8 127))⟩,
⟨some 65, none, [], .cnv (.int .i64) (.t 64)⟩,
⟨some 66, none, [], .bin .no .shl (.t 65) (.k (.it .u64 24))⟩,
⟨some 67, none, [], .mov (.t 4)⟩,
⟨some 68, none, [], .ias 1 (.t 67) (.k (.it .i64 6))⟩,
⟨some 69, none, [], .ld 1 false (.t 68)⟩,
⟨some 70, none, [], .cnv (.int .i64) (.t 69)⟩,
⟨some 71, none, [], .bin .no .shl (.t 70) (.k (.it .u64 16))⟩,
⟨some 72, none, [], .bin .no .or (.t 66) (.t 71)⟩,
⟨some 73, none, [], .mov (.t 4)⟩,
⟨some 74, none, [], .ias 1 (.t 73) (.k (.it .i64 7))⟩,
⟨some 75, none, [], .ld 1 false (.t 74)⟩,
⟨some 76, none, [], .cnv (.int .i64) (.t 75)⟩,
⟨some 77, none, [], .bin .no .shl (.t 76) (.k (.it .u64 8))⟩,
⟨some 78, none, [], .bin .no .or (.t 72) (.t 77)⟩,
⟨some 79, none, [], .mov (.t 4)⟩,
⟨some 80, none, [], .ias 1 (.t 79) (.k (.it .i64 8))⟩,
⟨some 81, none, [], .ld 1 false (.t 80)⟩,
⟨some 82, none, [], .cnv (.int .i64) (.t 81)⟩,
⟨some 83, none, [], .bin .no .or (.t 78) (.t 82)⟩,
⟨some 84, none, [], .bld [(.it .i64 0), (.it .i64 0), (.it .i64 0), .ns] [(0, 1, (.t 56)), (1, 1, (.t 60)), (2, 1, (.t 83))]⟩,
⟨some 6, none, [53, 54, 55, 57, 58, 59, 61, 62, 64, 67, 68, 69, 73, 74, 75, 79, 80, 81], .alc [(.it .i64 0), (.it .i64 0), (.it .i64 0), .ns]⟩,
⟨none, none, [], .sto 4 (.t 6) (.t 84)⟩] [])
(.seq (.reg false [
⟨some 85, none, [], .mov (.t 0)⟩,
⟨some 86, none, [], .nck (.t 85)⟩,
⟨some 87, none, [], .fad 2 (.t 86)⟩,
⟨some 88, none, [], .ld 1 false (.t 87)⟩,
⟨some 89, none, [], .mov (.t 5)⟩,
⟨some 90, none, [], .bin .no .add (.k (.it .i64 9)) (.t 89)⟩,
⟨some 91, none, [], .slc false 1 (.t 88) (some (.k (.it .i64 9))) (some (.t 90))⟩,
⟨some 92, none, [], .app 1 1 (.k .ns) (.t 91)⟩,
⟨some 93, none, [], .fad 3 (.t 6)⟩,
⟨none, none, [], .sto 1 (.t 93) (.t 92)⟩] [93])
(.seq (.reg false [
⟨some 94, none, [], .mov (.t 0)⟩,
⟨some 95, none, [], .mov (.t 0)⟩,
⟨some 96, none, [], .nck (.t 95)⟩,
⟨some 97, none, [], .fad 2 (.t 96)⟩,
⟨some 98, none, [], .ld 1 false (.t 97)⟩,
⟨some 99, none, [], .mov (.t 5)⟩,
⟨some 100, none, [], .bin .no .add (.k (.it .i64 9)) (.t 99)⟩,
⟨some 101, none, [], .slc false 1 (.t 98) (some (.t 100)) none⟩,
⟨some 102, none, [], .nck (.t 94)⟩,
⟨some 103, none, [], .fad 2 (.t 102)⟩,
⟨none, none, [], .sto 1 (.t 103) (.t 101)⟩] [])
(.seq (.reg false [
⟨some 104, none, [], .ld 4 true (.t 6)⟩,
⟨none, none, [], .sto 4 (.t 2) (.t 104)⟩,
⟨some 3, none, [], .mov (.k (.bo true))⟩] [])
.ret))))))))))⟩
def c27 : Ev.Fn := d27.den
def p27 : Pol := { loc := [2, 6], md := .rw, mds := mds, heap := [], own := [], ord := [(0, [1, 0])], clr := [(11, [93])], mask := [], fns := [], lcl := [] }
theorem r27 : FnOK Try.prog mds 27 c27 := .read (pol := p27) (d := d27) Try.func27 (by kernel_rfl) (by kernel_rfl) rfl rfl (by kernel_rfl)

/- (*reservoir/frame.Reader).fail -/
def d28 : DFn := ⟨[(.c .one), (.c .one)], [], .rw, [],
(.seq (.reg false [
⟨some 4, none, [], .mov (.t 0)⟩,
⟨some 5, none, [], .mov (.t 1)⟩,
⟨some 6, none, [], .bld [(.it .i64 0), (.it .i64 0), (.it .i64 0)] [(0, 1, (.k (.it .i64 2))), (1, 1, (.t 5))]⟩,
⟨some 7, none, [], .nck (.t 4)⟩,
⟨some 8, none, [], .fad 3 (.t 7)⟩,
⟨none, none, [], .sto 3 (.t 8) (.t 6)⟩] [])
(.reg false [
⟨some 9, none, [], .mov (.t 0)⟩,
⟨some 10, none, [], .nck (.t 9)⟩,
⟨some 11, none, [], .fad 2 (.t 10)⟩,
⟨none, none, [], .sto 1 (.t 11) (.k .ns)⟩] []))⟩
def c28 : Ev.Fn := d28.den
def p28 : Pol := { loc := [], md := .rw, mds := mds, heap := [], own := [], ord := [], clr := [], mask := [], fns := [], lcl := [] }
theorem r28 : FnOK Try.prog mds 28 c28 := .read (pol := p28) (d := d28) Try.func28 (by kernel_rfl) (by kernel_rfl) rfl rfl (by kernel_rfl)

def tab : List (Option Ev.Fn) := [none, none, some c2, some c3, some c4, some c5, some c6, some c7, some c8, some c9, some c10, some c11, some c12, some c13, some c14, some c15, some c16, some c17, some c18, some c19, some c20, some c21, some c22, some c23, some c24, some c25, some c26, some c27, some c28]
def F (n : Nat) : Option Ev.Fn := (tab[n]?).join

inductive Good : Nat → List (Option Ev.Fn) → Prop
  | nil (k : Nat) : Good k []
  | none {k : Nat} {l : List (Option Ev.Fn)} (h : Good (k + 1) l) : Good k (none :: l)
  | some {k : Nat} {c : Ev.Fn} {l : List (Option Ev.Fn)} (h : FnOK Try.prog mds k c) (t : Good (k + 1) l) : Good k (some c :: l)

theorem Good.get {k : Nat} {l : List (Option Ev.Fn)} (h : Good k l) : ∀ (n : Nat) (c : Ev.Fn), (l[n]?).join = Option.some c → FnOK Try.prog mds (k + n) c := by
  induction h with
  | nil k => intro n c h; simp at h
  | none h ih =>
    intro n c hc
    cases n with
    | zero => simp at hc
    | succ n => have := ih n c (by simpa using hc); rw [Nat.add_assoc, Nat.add_comm 1 n] at this; exact this
  | some h t ih =>
    intro n c hc
    cases n with
    | zero => simp at hc; subst hc; exact h
    | succ n => have := ih n c (by simpa using hc); rw [Nat.add_assoc, Nat.add_comm 1 n] at this; exact this

theorem good : Good 0 tab := by
  unfold tab
  refine .none ?_
  refine .none ?_
  refine .some r2 ?_
  refine .some r3 ?_
  refine .some r4 ?_
  refine .some r5 ?_
  refine .some r6 ?_
  refine .some r7 ?_
  refine .some r8 ?_
  refine .some r9 ?_
  refine .some r10 ?_
  refine .some r11 ?_
  refine .some r12 ?_
  refine .some r13 ?_
  refine .some r14 ?_
  refine .some r15 ?_
  refine .some r16 ?_
  refine .some r17 ?_
  refine .some r18 ?_
  refine .some r19 ?_
  refine .some r20 ?_
  refine .some r21 ?_
  refine .some r22 ?_
  refine .some r23 ?_
  refine .some r24 ?_
  refine .some r25 ?_
  refine .some r26 ?_
  refine .some r27 ?_
  refine .some r28 ?_
  exact .nil _

theorem table : Table Try.prog F mds where
  mixed := by kernel_rfl
  fns := fun f fn h => by
    have := good.get f fn h
    rw [Nat.zero_add] at this
    exact this

end Go.Proofs.Ytgofadnggipkpaa.tab
