import Derived.Test.YtcbiplmgaiipgaaEvD
import Derived.Test.YtcbiplmgaiipgaaGl
import Derived.Test.YtcbiplmgaiipgaaRows
import Derived.KernelRfl
/- the functions of the seat, read off the program -/
namespace Go.Proofs.Ytcbiplmgaiipgaa.tab
open Go hiding Fn
open Ev

def mdl : List Md := [.pure, .pure, .pure, .pure, .pure, .pure, .pure, .pure, .pure, .pure, .pure, .pure, .pure, .pure, .pure, .pure, .pure, .pure, .pure, .pure, .pure, .pure, .pure, .pure, .pure, .pure, .pure, .pure, .pure, .pure, .pure, .pure, .pure, .pure, .pure, .pure, .pure, .pure, .pure, .pure, .pure, .pure, .pure, .pure, .rw, .pure, .pure, .pure, .pure, .pure, .pure, .pure, .pure, .pure, .pure, .pure, .pure, .pure, .pure, .rw, .pure, .pure, .pure, .pure, .rw, .pure, .pure, .pure, .pure, .pure, .pure, .pure, .rw, .pure, .pure, .pure, .pure, .pure, .pure, .pure, .pure, .pure, .pure, .rw, .pure, .pure, .pure, .pure, .pure, .pure, .pure, .pure, .pure, .pure, .pure, .pure, .pure, .rw, .pure, .pure, .pure, .rw, .pure, .pure, .pure, .pure, .pure, .rw, .rw, .rw, .pure, .pure, .rw, .rw, .pure, .pure, .pure, .pure, .pure, .pure, .pure, .pure, .pure, .pure, .pure, .pure, .pure, .rw, .rw, .rw, .rw, .rw, .rw, .rw, .rw, .pure]
def mds (n : Nat) : Md := mdl.getD n .rw

/- reservoir/reservoirlaw15.MessageRuns -/
def d3 : DFn := ⟨[], [(.c .one)], .pure, [.tmp 0],
(.seq (.reg false [
⟨some 0, none, [], .mov (.k (.bo false))⟩] [])
(.seq (.reg false [
⟨some 18, none, [], .call false .pure 20 [(.k (.st [58, 109, 101, 116, 104, 111, 100])), (.k (.st [71, 69, 84]))]⟩,
⟨some 19, none, [], .call false .pure 20 [(.k (.st [58, 115, 99, 104, 101, 109, 101])), (.k (.st [104, 116, 116, 112, 115]))]⟩,
⟨some 20, none, [], .call false .pure 20 [(.k (.st [58, 97, 117, 116, 104, 111, 114, 105, 116, 121])), (.k (.st [97]))]⟩,
⟨some 21, none, [], .call false .pure 20 [(.k (.st [58, 112, 97, 116, 104])), (.k (.st [47]))]⟩,
⟨some 22, none, [], .call false .pure 20 [(.k (.st [116, 101])), (.k (.st [116, 114, 97, 105, 108, 101, 114, 115]))]⟩,
⟨some 23, none, [], .bsv [.one, .one] 2 (List.replicate 5 [(.st []), (.st [])]) [(0, (.t 18)), (1, (.t 19)), (2, (.t 20)), (3, (.t 21)), (4, (.t 22))]⟩,
⟨some 1, none, [], .mov (.t 23)⟩] [])
(.seq (.reg false [
⟨some 25, none, [], .mov (.t 1)⟩,
⟨some 26, none, [], .call false .pure 21 [(.t 25)]⟩,
⟨some 24, none, [], .mov (.t 26)⟩,
⟨some 27, none, [], .ext (.t 24) 0⟩,
⟨some 28, none, [], .ext (.t 24) 1⟩,
⟨some 2, none, [], .alc [(.st []), (.st []), (.st []), (.st []), .ns, (.it .i64 0)]⟩,
⟨none, none, [], .sto 6 (.t 2) (.t 27)⟩,
⟨some 3, none, [], .mov (.t 28)⟩] [])
(.seq (.reg false [
⟨some 30, none, [], .mov (.t 1)⟩,
⟨some 31, none, [], .slc false 2 (.t 30) none (some (.k (.it .i64 3)))⟩,
⟨some 32, none, [], .call false .pure 21 [(.t 31)]⟩,
⟨some 29, none, [], .mov (.t 32)⟩,
⟨some 33, none, [], .ext (.t 29) 0⟩,
⟨some 34, none, [], .ext (.t 29) 1⟩,
⟨some 4, none, [], .alc [(.st []), (.st []), (.st []), (.st []), .ns, (.it .i64 0)]⟩,
⟨none, none, [], .sto 6 (.t 4) (.t 33)⟩,
⟨some 5, none, [], .mov (.t 34)⟩] [])
(.seq (.reg false [
⟨some 36, none, [], .bsl 2 [] []⟩,
⟨some 37, none, [], .mov (.t 1)⟩,
⟨some 38, none, [], .app 2 32 (.t 36) (.t 37)⟩,
⟨some 39, none, [], .call false .pure 20 [(.k (.st [88, 45, 97])), (.k (.st [49]))]⟩,
⟨some 40, none, [], .bsv [.one, .one] 2 [[(.st []), (.st [])]] [(0, (.t 39))]⟩,
⟨some 41, none, [], .app 2 32 (.t 38) (.t 40)⟩,
⟨some 42, none, [], .call false .pure 21 [(.t 41)]⟩,
⟨some 35, none, [], .mov (.t 42)⟩,
⟨some 43, none, [], .ext (.t 35) 0⟩,
⟨some 44, none, [], .ext (.t 35) 1⟩,
⟨some 6, none, [], .alc [(.st []), (.st []), (.st []), (.st []), .ns, (.it .i64 0)]⟩,
⟨none, none, [], .sto 6 (.t 6) (.t 43)⟩,
⟨some 7, none, [], .mov (.t 44)⟩] [])
(.seq (.reg false [
⟨some 46, none, [], .call false .pure 20 [(.k (.st [58, 112, 97, 116, 104])), (.k (.st [47]))]⟩,
⟨some 47, none, [], .bsl 2 [[(.st []), (.st [])]] [(0, (.t 46))]⟩,
⟨some 48, none, [], .mov (.t 1)⟩,
⟨some 49, none, [], .app 2 32 (.t 47) (.t 48)⟩,
⟨some 50, none, [], .call false .pure 21 [(.t 49)]⟩,
⟨some 45, none, [], .mov (.t 50)⟩,
⟨some 51, none, [], .ext (.t 45) 0⟩,
⟨some 52, none, [], .ext (.t 45) 1⟩,
⟨some 8, none, [], .alc [(.st []), (.st []), (.st []), (.st []), .ns, (.it .i64 0)]⟩,
⟨none, none, [], .sto 6 (.t 8) (.t 51)⟩,
⟨some 9, none, [], .mov (.t 52)⟩] [])
(.seq (.reg false [
⟨some 54, none, [], .bsl 2 [] []⟩,
⟨some 55, none, [], .mov (.t 1)⟩,
⟨some 56, none, [], .app 2 32 (.t 54) (.t 55)⟩,
⟨some 57, none, [], .call false .pure 20 [(.k (.st [99, 111, 110, 110, 101, 99, 116, 105, 111, 110])), (.k (.st [99, 108, 111, 115, 101]))]⟩,
⟨some 58, none, [], .bsv [.one, .one] 2 [[(.st []), (.st [])]] [(0, (.t 57))]⟩,
⟨some 59, none, [], .app 2 32 (.t 56) (.t 58)⟩,
⟨some 60, none, [], .call false .pure 21 [(.t 59)]⟩,
⟨some 53, none, [], .mov (.t 60)⟩,
⟨some 61, none, [], .ext (.t 53) 0⟩,
⟨some 62, none, [], .ext (.t 53) 1⟩,
⟨some 10, none, [], .alc [(.st []), (.st []), (.st []), (.st []), .ns, (.it .i64 0)]⟩,
⟨none, none, [], .sto 6 (.t 10) (.t 61)⟩,
⟨some 11, none, [], .mov (.t 62)⟩] [])
(.seq (.reg false [
⟨some 64, none, [], .call false .pure 20 [(.k (.st [58, 115, 116, 97, 116, 117, 115])), (.k (.st [50, 48, 48]))]⟩,
⟨some 65, none, [], .call false .pure 20 [(.k (.st [99, 111, 110, 116, 101, 110, 116, 45, 108, 101, 110, 103, 116, 104])), (.k (.st [53]))]⟩,
⟨some 66, none, [], .call false .pure 20 [(.k (.st [99, 111, 110, 116, 101, 110, 116, 45, 108, 101, 110, 103, 116, 104])), (.k (.st [53]))]⟩,
⟨some 67, none, [], .bsv [.one, .one] 2 [[(.st []), (.st [])], [(.st []), (.st [])], [(.st []), (.st [])]] [(0, (.t 64)), (1, (.t 65)), (2, (.t 66))]⟩,
⟨some 68, none, [], .call false .pure 22 [(.t 67)]⟩,
⟨some 63, none, [], .mov (.t 68)⟩,
⟨some 69, none, [], .ext (.t 63) 0⟩,
⟨some 70, none, [], .ext (.t 63) 1⟩,
⟨some 12, none, [], .alc [(.it .i64 0), .ns, (.it .i64 0)]⟩,
⟨none, none, [], .sto 3 (.t 12) (.t 69)⟩,
⟨some 13, none, [], .mov (.t 70)⟩] [])
(.seq (.reg false [
⟨some 72, none, [], .call false .pure 20 [(.k (.st [58, 115, 116, 97, 116, 117, 115])), (.k (.st [49, 48, 49]))]⟩,
⟨some 73, none, [], .bsv [.one, .one] 2 [[(.st []), (.st [])]] [(0, (.t 72))]⟩,
⟨some 74, none, [], .call false .pure 22 [(.t 73)]⟩,
⟨some 71, none, [], .mov (.t 74)⟩,
⟨some 75, none, [], .ext (.t 71) 0⟩,
⟨some 76, none, [], .ext (.t 71) 1⟩,
⟨some 14, none, [], .alc [(.it .i64 0), .ns, (.it .i64 0)]⟩,
⟨none, none, [], .sto 3 (.t 14) (.t 75)⟩,
⟨some 15, none, [], .mov (.t 76)⟩] [])
(.seq (.reg false [
⟨some 78, none, [], .call false .pure 20 [(.k (.st [58, 115, 116, 97, 116, 117, 115])), (.k (.st [50, 48, 48]))]⟩,
⟨some 79, none, [], .call false .pure 20 [(.k (.st [99, 111, 110, 116, 101, 110, 116, 45, 108, 101, 110, 103, 116, 104])), (.k (.st [53]))]⟩,
⟨some 80, none, [], .call false .pure 20 [(.k (.st [99, 111, 110, 116, 101, 110, 116, 45, 108, 101, 110, 103, 116, 104])), (.k (.st [54]))]⟩,
⟨some 81, none, [], .bsv [.one, .one] 2 [[(.st []), (.st [])], [(.st []), (.st [])], [(.st []), (.st [])]] [(0, (.t 78)), (1, (.t 79)), (2, (.t 80))]⟩,
⟨some 82, none, [], .call false .pure 22 [(.t 81)]⟩,
⟨some 77, none, [], .mov (.t 82)⟩,
⟨some 83, none, [], .ext (.t 77) 0⟩,
⟨some 84, none, [], .ext (.t 77) 1⟩,
⟨some 16, none, [], .alc [(.it .i64 0), .ns, (.it .i64 0)]⟩,
⟨none, none, [], .sto 3 (.t 16) (.t 83)⟩,
⟨some 17, none, [], .mov (.t 84)⟩] [])
(.seq (.reg true [
⟨some 85, none, [], .mov (.t 3)⟩,
⟨some 86, none, [], .mov (.t 85)⟩,
⟨some 87, some (86, true), [], .ld 6 true (.t 2)⟩,
⟨some 88, some (86, true), [], .mov (.t 1)⟩,
⟨some 89, some (86, true), [], .slc false 2 (.t 88) (some (.k (.it .i64 4))) none⟩,
⟨some 90, some (86, true), [], .bld [(.st []), (.st []), (.st []), (.st []), .ns, (.it .i64 0)] [(0, 1, (.k (.st [71, 69, 84]))), (1, 1, (.k (.st [104, 116, 116, 112, 115]))), (2, 1, (.k (.st [97]))), (3, 1, (.k (.st [47]))), (4, 1, (.t 89)), (5, 1, (.k (.it .i64 (-1))))]⟩,
⟨some 91, some (86, true), [], .call false .pure 23 [(.t 87), (.t 90)]⟩,
⟨some 92, none, [], .pick (.t 86) (.t 91) (.k (.bo false))⟩,
⟨some 93, none, [], .mov (.t 92)⟩,
⟨some 94, some (93, true), [], .mov (.t 5)⟩,
⟨some 95, some (93, true), [], .un .not (.t 94)⟩,
⟨some 96, none, [], .pick (.t 93) (.t 95) (.k (.bo false))⟩,
⟨some 97, none, [], .mov (.t 96)⟩,
⟨some 98, some (97, true), [], .mov (.t 7)⟩,
⟨some 99, some (97, true), [], .un .not (.t 98)⟩,
⟨some 100, none, [], .pick (.t 97) (.t 99) (.k (.bo false))⟩,
⟨some 101, none, [], .mov (.t 100)⟩,
⟨some 102, some (101, true), [], .mov (.t 9)⟩,
⟨some 103, some (101, true), [], .un .not (.t 102)⟩,
⟨some 104, none, [], .pick (.t 101) (.t 103) (.k (.bo false))⟩,
⟨some 105, none, [], .mov (.t 104)⟩,
⟨some 106, some (105, true), [], .mov (.t 11)⟩,
⟨some 107, some (105, true), [], .un .not (.t 106)⟩,
⟨some 108, none, [], .pick (.t 105) (.t 107) (.k (.bo false))⟩,
⟨some 109, none, [], .mov (.t 108)⟩,
⟨some 110, some (109, true), [], .mov (.t 13)⟩,
⟨some 111, none, [], .pick (.t 109) (.t 110) (.k (.bo false))⟩,
⟨some 112, none, [], .mov (.t 111)⟩,
⟨some 113, some (112, true), [], .fad 0 (.t 12)⟩,
⟨some 114, some (112, true), [], .ld 1 false (.t 113)⟩,
⟨some 115, some (112, true), [], .bin .no .eql (.t 114) (.k (.it .i64 200))⟩,
⟨some 116, none, [], .pick (.t 112) (.t 115) (.k (.bo false))⟩,
⟨some 117, none, [], .mov (.t 116)⟩,
⟨some 118, some (117, true), [], .fad 2 (.t 12)⟩,
⟨some 119, some (117, true), [], .ld 1 false (.t 118)⟩,
⟨some 120, some (117, true), [], .bin .no .eql (.t 119) (.k (.it .i64 5))⟩,
⟨some 121, none, [], .pick (.t 117) (.t 120) (.k (.bo false))⟩,
⟨some 122, none, [], .mov (.t 121)⟩,
⟨some 123, some (122, true), [], .fad 1 (.t 12)⟩,
⟨some 124, some (122, true), [], .ld 1 false (.t 123)⟩,
⟨some 125, some (122, true), [], .len false (.t 124)⟩,
⟨some 126, some (122, true), [], .bin .no .eql (.t 125) (.k (.it .i64 2))⟩,
⟨some 127, none, [], .pick (.t 122) (.t 126) (.k (.bo false))⟩,
⟨some 128, none, [], .mov (.t 127)⟩,
⟨some 129, some (128, true), [], .mov (.t 15)⟩,
⟨some 130, some (128, true), [], .un .not (.t 129)⟩,
⟨some 131, none, [], .pick (.t 128) (.t 130) (.k (.bo false))⟩,
⟨some 132, none, [], .mov (.t 131)⟩,
⟨some 133, some (132, true), [], .mov (.t 17)⟩,
⟨some 134, some (132, true), [], .un .not (.t 133)⟩,
⟨some 135, none, [], .pick (.t 132) (.t 134) (.k (.bo false))⟩,
⟨some 0, none, [], .mov (.t 135)⟩] [113, 118, 123])
.ret)))))))))))⟩
def c3 : Ev.Fn := d3.den
def p3 : Pol := { loc := [2, 4, 6, 8, 10, 12, 14, 16], md := .pure, mds := mds, heap := [36, 38, 47, 54, 56], own := [36, 38, 47, 54, 56], ord := [(2, [0, 5, 1, 2, 3, 4, 6, 7]), (3, [0, 1, 6, 2, 3, 4, 5, 7, 8]), (4, [1, 10, 0, 2, 3, 4, 5, 6, 7, 8, 9, 11, 12]), (5, [2, 8, 0, 1, 3, 4, 5, 6, 7, 9, 10]), (6, [1, 10, 0, 2, 3, 4, 5, 6, 7, 8, 9, 11, 12]), (7, [8, 0, 1, 2, 3, 4, 5, 6, 7, 9, 10]), (8, [6, 0, 1, 2, 3, 4, 5, 7, 8]), (9, [8, 0, 1, 2, 3, 4, 5, 6, 7, 9, 10])], clr := [(10, [113, 118, 123])], mask := [], fns := [], lcl := [] }
theorem r3 : FnOK Try.prog mds 3 c3 := .read (pol := p3) (d := d3) Try.func3 (by kernel_rfl) (by kernel_rfl) rfl rfl (by kernel_rfl)

/- reservoir/reservoirlaw15.MessageBack -/
def d4 : DFn := ⟨[(.c (.sl [.one, .one]))], [(.c .one)], .pure, [.tmp 2],
(.seq (.reg false [
⟨some 2, none, [], .mov (.k (.bo false))⟩] [])
(.seq (.seq (.reg false [
⟨some 13, none, [], .mov (.t 0)⟩,
⟨some 14, none, [], .call false .pure 24 [(.t 13)]⟩,
⟨some 15, none, [], .un .not (.t 14)⟩] [])
(.cond (.t 15)
(.seq (.reg false [
⟨some 16, none, [], .call false .pure 3 []⟩,
⟨some 2, none, [], .mov (.t 16)⟩] [])
.ret)
.skip))
(.seq (.seq (.reg false [
⟨some 18, none, [], .mov (.t 0)⟩,
⟨some 19, none, [], .call false .pure 21 [(.t 18)]⟩,
⟨some 17, none, [], .mov (.t 19)⟩,
⟨some 20, none, [], .ext (.t 17) 0⟩,
⟨some 21, none, [], .ext (.t 17) 1⟩,
⟨some 3, none, [], .alc [(.st []), (.st []), (.st []), (.st []), .ns, (.it .i64 0)]⟩,
⟨none, none, [], .sto 6 (.t 3) (.t 20)⟩,
⟨some 4, none, [], .mov (.t 21)⟩] [])
(.seq (.reg false [
⟨some 22, none, [], .mov (.t 4)⟩] [])
(.cond (.t 22)
(.seq (.reg true [
⟨some 23, none, [], .fad 3 (.t 3)⟩,
⟨some 24, none, [], .ld 1 false (.t 23)⟩,
⟨some 26, none, [], .fad 0 (.t 3)⟩,
⟨some 27, none, [], .ld 1 false (.t 26)⟩,
⟨some 29, none, [], .fad 2 (.t 3)⟩,
⟨some 30, none, [], .ld 1 false (.t 29)⟩,
⟨some 32, none, [], .fad 1 (.t 3)⟩,
⟨some 33, none, [], .ld 1 false (.t 32)⟩,
⟨some 36, none, [], .fad 4 (.t 3)⟩,
⟨some 37, none, [], .ld 1 false (.t 36)⟩,
⟨some 25, none, [], .call false .pure 20 [(.k (.st [58, 112, 97, 116, 104])), (.t 24)]⟩,
⟨some 28, none, [], .call false .pure 20 [(.k (.st [58, 109, 101, 116, 104, 111, 100])), (.t 27)]⟩,
⟨some 31, none, [], .call false .pure 20 [(.k (.st [58, 97, 117, 116, 104, 111, 114, 105, 116, 121])), (.t 30)]⟩,
⟨some 34, none, [], .call false .pure 20 [(.k (.st [58, 115, 99, 104, 101, 109, 101])), (.t 33)]⟩,
⟨some 35, none, [], .bsl 2 (List.replicate 4 [(.st []), (.st [])]) [(0, (.t 25)), (1, (.t 28)), (2, (.t 31)), (3, (.t 34))]⟩,
⟨some 38, none, [], .app 2 32 (.t 35) (.t 37)⟩,
⟨some 5, none, [], .mov (.t 38)⟩] [23, 26, 29, 32, 36])
(.seq (.reg false [
⟨some 40, none, [], .mov (.t 5)⟩,
⟨some 41, none, [], .call false .pure 21 [(.t 40)]⟩,
⟨some 39, none, [], .mov (.t 41)⟩,
⟨some 42, none, [], .ext (.t 39) 0⟩,
⟨some 43, none, [], .ext (.t 39) 1⟩,
⟨some 6, none, [], .alc [(.st []), (.st []), (.st []), (.st []), .ns, (.it .i64 0)]⟩,
⟨none, none, [], .sto 6 (.t 6) (.t 42)⟩,
⟨some 7, none, [], .mov (.t 43)⟩] [])
(.seq (.reg false [
⟨some 44, none, [], .mov (.t 7)⟩,
⟨some 45, none, [], .un .not (.t 44)⟩,
⟨some 46, none, [], .mov (.t 45)⟩,
⟨some 47, some (46, false), [], .ld 6 true (.t 3)⟩,
⟨some 48, some (46, false), [], .ld 6 true (.t 6)⟩,
⟨some 49, some (46, false), [], .call false .pure 23 [(.t 47), (.t 48)]⟩,
⟨some 50, some (46, false), [], .un .not (.t 49)⟩,
⟨some 51, none, [], .pick (.t 46) (.k (.bo true)) (.t 50)⟩] [])
(.cond (.t 51)
(.seq (.reg false [
⟨some 2, none, [], .mov (.k (.bo false))⟩] [])
.ret)
.skip))))
.skip)))
(.seq (.reg false [
⟨some 53, none, [], .mov (.t 0)⟩,
⟨some 54, none, [], .call false .pure 22 [(.t 53)]⟩,
⟨some 52, none, [], .mov (.t 54)⟩,
⟨some 55, none, [], .ext (.t 52) 0⟩,
⟨some 56, none, [], .ext (.t 52) 1⟩,
⟨some 8, none, [], .alc [(.it .i64 0), .ns, (.it .i64 0)]⟩,
⟨none, none, [], .sto 3 (.t 8) (.t 55)⟩,
⟨some 9, none, [], .mov (.t 56)⟩] [])
(.seq (.seq (.reg false [
⟨some 57, none, [], .mov (.t 9)⟩,
⟨some 58, none, [], .un .not (.t 57)⟩] [])
(.cond (.t 58)
(.seq (.reg false [
⟨some 59, none, [], .call false .pure 3 []⟩,
⟨some 2, none, [], .mov (.t 59)⟩] [])
.ret)
.skip))
(.seq (.reg false [
⟨some 60, none, [], .fad 0 (.t 8)⟩,
⟨some 61, none, [], .ld 1 false (.t 60)⟩,
⟨some 62, none, [], .bin .no .quo (.t 61) (.k (.it .i64 100))⟩,
⟨some 63, none, [], .bin .no .add (.k (.it .i64 48)) (.t 62)⟩,
⟨some 64, none, [], .cnv (.int .u8) (.t 63)⟩,
⟨some 65, none, [], .fad 0 (.t 8)⟩,
⟨some 66, none, [], .ld 1 false (.t 65)⟩,
⟨some 67, none, [], .bin .no .quo (.t 66) (.k (.it .i64 10))⟩,
⟨some 68, none, [], .bin .no .rem (.t 67) (.k (.it .i64 10))⟩,
⟨some 69, none, [], .bin .no .add (.k (.it .i64 48)) (.t 68)⟩,
⟨some 70, none, [], .cnv (.int .u8) (.t 69)⟩,
⟨some 71, none, [], .fad 0 (.t 8)⟩,
⟨some 72, none, [], .ld 1 false (.t 71)⟩,
⟨some 73, none, [], .bin .no .rem (.t 72) (.k (.it .i64 10))⟩,
⟨some 74, none, [], .bin .no .add (.k (.it .i64 48)) (.t 73)⟩,
⟨some 75, none, [], .cnv (.int .u8) (.t 74)⟩,
⟨some 76, none, [], .bsv [.one] 1 [[(.it .u8 0)], [(.it .u8 0)], [(.it .u8 0)]] [(0, (.t 64)), (1, (.t 70)), (2, (.t 75))]⟩,
⟨some 77, none, [], .cnv .b2s (.t 76)⟩,
⟨some 10, none, [], .mov (.t 77)⟩] [60, 65, 71])
(.seq (.reg true [
⟨some 79, none, [], .mov (.t 10)⟩,
⟨some 82, none, [], .fad 1 (.t 8)⟩,
⟨some 83, none, [], .ld 1 false (.t 82)⟩,
⟨some 11, none, [82, 82], .alc [(.it .i64 0), .ns, (.it .i64 0)]⟩,
⟨some 80, none, [], .call false .pure 20 [(.k (.st [58, 115, 116, 97, 116, 117, 115])), (.t 79)]⟩,
⟨some 81, none, [], .bsl 2 [[(.st []), (.st [])]] [(0, (.t 80))]⟩,
⟨some 84, none, [11], .app 2 32 (.t 81) (.t 83)⟩,
⟨some 85, none, [], .call false .pure 22 [(.t 84)]⟩,
⟨some 78, none, [], .mov (.t 85)⟩,
⟨some 86, none, [], .ext (.t 78) 0⟩,
⟨some 87, none, [], .ext (.t 78) 1⟩,
⟨none, none, [], .sto 3 (.t 11) (.t 86)⟩,
⟨some 12, none, [], .mov (.t 87)⟩] [82])
(.seq (.reg false [
⟨some 88, none, [], .mov (.t 12)⟩,
⟨some 89, none, [], .mov (.t 88)⟩,
⟨some 90, some (89, true), [], .ld 3 true (.t 8)⟩,
⟨some 91, some (89, true), [], .ld 3 true (.t 11)⟩,
⟨some 92, some (89, true), [], .call false .pure 25 [(.t 90), (.t 91)]⟩,
⟨some 93, none, [], .pick (.t 89) (.t 92) (.k (.bo false))⟩,
⟨some 94, none, [], .mov (.t 93)⟩,
⟨some 95, some (94, true), [], .call false .pure 3 []⟩,
⟨some 96, none, [], .pick (.t 94) (.t 95) (.k (.bo false))⟩,
⟨some 2, none, [], .mov (.t 96)⟩] [])
.ret))))))))⟩
def c4 : Ev.Fn := d4.den
def p4 : Pol := { loc := [3, 6, 8, 11], md := .pure, mds := mds, heap := [35, 81], own := [35, 81], ord := [(3, [0, 5, 1, 2, 3, 4, 6, 7]), (5, [0, 1, 3, 4, 6, 7, 9, 10, 13, 14, 2, 5, 8, 11, 12, 15, 16]), (6, [0, 5, 1, 2, 3, 4, 6, 7]), (9, [0, 5, 1, 2, 3, 4, 6, 7]), (13, [0, 3, 4, 10, 1, 2, 5, 6, 7, 8, 9, 11, 12])], clr := [(5, [23, 26, 29, 32, 36]), (12, [60, 65, 71]), (13, [82])], mask := [], fns := [], lcl := [] }
theorem r4 : FnOK Try.prog mds 4 c4 := .read (pol := p4) (d := d4) Try.func4 (by kernel_rfl) (by kernel_rfl) rfl rfl (by kernel_rfl)

/- reservoir/reservoirlaw15.of -/
def d20 : DFn := ⟨[(.c .one), (.c .one)], [(.g [.one, .one])], .pure, [.cell 4 2 true],
(.seq (.reg false [
⟨some 4, none, [], .alc [(.st []), (.st [])]⟩] [])
(.seq (.reg false [
⟨some 5, none, [], .mov (.t 0)⟩,
⟨some 6, none, [], .mov (.t 1)⟩,
⟨some 7, none, [], .bld [(.st []), (.st [])] [(0, 1, (.t 5)), (1, 1, (.t 6))]⟩,
⟨none, none, [], .sto 2 (.t 4) (.t 7)⟩] [])
.ret))⟩
def c20 : Ev.Fn := d20.den
def p20 : Pol := { loc := [4], md := .pure, mds := mds, heap := [], own := [], ord := [], clr := [], mask := [], fns := [], lcl := [] }
theorem r20 : FnOK Try.prog mds 20 c20 := .read (pol := p20) (d := d20) Try.func20 (by kernel_rfl) (by kernel_rfl) rfl rfl (by kernel_rfl)

/- reservoir/message.Request -/
def d21 : DFn := ⟨[(.c (.sl [.one, .one]))], [(.g [.one, .one, .one, .one, (.sl [.one, .one]), .one]), (.c .one)], .pure, [.cell 2 6 true, .tmp 3],
(.seq (.reg false [
⟨some 2, none, [], .alc [(.st []), (.st []), (.st []), (.st []), .ns, (.it .i64 0)]⟩,
⟨some 3, none, [], .mov (.k (.bo false))⟩] [])
(.seq (.reg false [
⟨some 4, none, [], .mov (.k (.it .i64 0))⟩] [])
(.seq (.blk 0 (.loop [0, 2, 4] []
(.seq (.seq (.reg false [
⟨some 9, none, [], .mov (.t 4)⟩,
⟨some 10, none, [], .mov (.t 0)⟩,
⟨some 11, none, [], .len false (.t 10)⟩,
⟨some 12, none, [], .bin .no .lss (.t 9) (.t 11)⟩,
⟨some 13, none, [], .mov (.t 12)⟩,
⟨some 14, some (13, true), [], .mov (.t 0)⟩,
⟨some 15, some (13, true), [], .mov (.t 4)⟩,
⟨some 16, some (13, true), [], .ias 2 (.t 14) (.t 15)⟩,
⟨some 17, some (13, true), [], .ld 2 true (.t 16)⟩,
⟨some 18, some (13, true), [], .call false .pure 63 [(.t 17)]⟩,
⟨some 19, none, [], .pick (.t 13) (.t 18) (.k (.bo false))⟩] [])
(.cond (.t 19)
.skip
(.exit 0)))
(.blk 1 (.reg false [
⟨some 20, none, [], .mov (.t 4)⟩,
⟨some 21, none, [], .bin .no .add (.t 20) (.k (.it .i64 1))⟩,
⟨some 4, none, [], .mov (.t 21)⟩] [])))))
(.seq (.reg false [
⟨some 5, none, [], .alh [(.st []), (.st []), (.st []), (.st []), .ns, (.it .i64 0)]⟩] [])
(.seq (.seq (.reg false [
⟨some 22, none, [], .mov (.t 0)⟩,
⟨some 23, none, [], .mov (.t 4)⟩,
⟨some 24, none, [], .slc false 2 (.t 22) none (some (.t 23))⟩,
⟨some 25, none, [], .call false .rw 64 [(.t 24), (.t 5)]⟩,
⟨some 26, none, [], .un .not (.t 25)⟩,
⟨some 27, none, [], .mov (.t 26)⟩,
⟨some 28, some (27, false), [], .ld 6 true (.t 5)⟩,
⟨some 29, some (27, false), [], .call false .pure 65 [(.t 28)]⟩,
⟨some 30, some (27, false), [], .un .not (.t 29)⟩,
⟨some 31, none, [], .pick (.t 27) (.k (.bo true)) (.t 30)⟩] [])
(.cond (.t 31)
(.seq (.reg false [
⟨some 32, none, [], .bld [(.st []), (.st []), (.st []), (.st []), .ns, (.it .i64 0)] []⟩,
⟨none, none, [], .sto 6 (.t 2) (.t 32)⟩,
⟨some 3, none, [], .mov (.k (.bo false))⟩] [])
.ret)
.skip))
(.seq (.reg false [
⟨some 34, none, [], .mov (.t 0)⟩,
⟨some 35, none, [], .mov (.t 4)⟩,
⟨some 36, none, [], .slc false 2 (.t 34) (some (.t 35)) none⟩,
⟨some 37, none, [], .call true .pure 66 [(.t 36)]⟩,
⟨some 33, none, [], .mov (.t 37)⟩,
⟨some 38, none, [], .ext (.t 33) 0⟩,
⟨some 39, none, [], .ext (.t 33) 1⟩,
⟨some 40, none, [], .ext (.t 33) 2⟩,
⟨some 6, none, [], .mov (.t 38)⟩,
⟨some 7, none, [], .mov (.t 39)⟩,
⟨some 8, none, [], .mov (.t 40)⟩] [])
(.seq (.seq (.reg false [
⟨some 41, none, [], .mov (.t 8)⟩,
⟨some 42, none, [], .un .not (.t 41)⟩] [])
(.cond (.t 42)
(.seq (.reg false [
⟨some 43, none, [], .bld [(.st []), (.st []), (.st []), (.st []), .ns, (.it .i64 0)] []⟩,
⟨none, none, [], .sto 6 (.t 2) (.t 43)⟩,
⟨some 3, none, [], .mov (.k (.bo false))⟩] [])
.ret)
.skip))
(.seq (.reg false [
⟨some 44, none, [], .mov (.t 6)⟩,
⟨some 45, none, [], .mov (.t 7)⟩,
⟨some 46, none, [], .fad 4 (.t 5)⟩,
⟨none, none, [], .sto 1 (.t 46) (.t 44)⟩,
⟨some 47, none, [], .fad 5 (.t 5)⟩,
⟨none, none, [], .sto 1 (.t 47) (.t 45)⟩] [])
(.seq (.reg false [
⟨some 48, none, [], .ld 6 true (.t 5)⟩,
⟨none, none, [], .sto 6 (.t 2) (.t 48)⟩,
⟨some 3, none, [], .mov (.k (.bo true))⟩] [])
.ret)))))))))⟩
def c21 : Ev.Fn := d21.den
def p21 : Pol := { loc := [2], md := .pure, mds := mds, heap := [37], own := [37], ord := [(0, [1, 0])], clr := [], mask := [(2, [0, 2, 4], [])], fns := [], lcl := [] }
theorem r21 : FnOK Try.prog mds 21 c21 := .read (pol := p21) (d := d21) Try.func21 (by kernel_rfl) (by kernel_rfl) rfl rfl (by kernel_rfl)

/- reservoir/message.Response -/
def d22 : DFn := ⟨[(.c (.sl [.one, .one]))], [(.g [.one, (.sl [.one, .one]), .one]), (.c .one)], .pure, [.cell 2 3 true, .tmp 3],
(.seq (.reg false [
⟨some 2, none, [], .alc [(.it .i64 0), .ns, (.it .i64 0)]⟩,
⟨some 3, none, [], .mov (.k (.bo false))⟩] [])
(.seq (.seq (.reg false [
⟨some 8, none, [], .mov (.t 0)⟩,
⟨some 9, none, [], .len false (.t 8)⟩,
⟨some 10, none, [], .bin .no .eql (.t 9) (.k (.it .i64 0))⟩,
⟨some 11, none, [], .mov (.t 10)⟩,
⟨some 12, some (11, false), [], .mov (.t 0)⟩,
⟨some 13, some (11, false), [], .ias 2 (.t 12) (.k (.it .i64 0))⟩,
⟨some 14, some (11, false), [], .fad 0 (.t 13)⟩,
⟨some 15, some (11, false), [], .ld 1 false (.t 14)⟩,
⟨some 16, some (11, false), [], .bin .no .neq (.t 15) (.k (.st [58, 115, 116, 97, 116, 117, 115]))⟩,
⟨some 17, none, [], .pick (.t 11) (.k (.bo true)) (.t 16)⟩,
⟨some 18, none, [], .mov (.t 17)⟩,
⟨some 19, some (18, false), [], .mov (.t 0)⟩,
⟨some 20, some (18, false), [], .ias 2 (.t 19) (.k (.it .i64 0))⟩,
⟨some 21, some (18, false), [], .fad 1 (.t 20)⟩,
⟨some 22, some (18, false), [], .ld 1 false (.t 21)⟩,
⟨some 23, some (18, false), [], .len true (.t 22)⟩,
⟨some 24, some (18, false), [], .bin .no .neq (.t 23) (.k (.it .i64 3))⟩,
⟨some 25, none, [], .pick (.t 18) (.k (.bo true)) (.t 24)⟩] [])
(.cond (.t 25)
(.seq (.reg false [
⟨some 26, none, [], .bld [(.it .i64 0), .ns, (.it .i64 0)] []⟩,
⟨none, none, [], .sto 3 (.t 2) (.t 26)⟩,
⟨some 3, none, [], .mov (.k (.bo false))⟩] [])
.ret)
.skip))
(.seq (.reg false [
⟨some 27, none, [], .mov (.t 0)⟩,
⟨some 28, none, [], .ias 2 (.t 27) (.k (.it .i64 0))⟩,
⟨some 29, none, [], .fad 1 (.t 28)⟩,
⟨some 30, none, [], .ld 1 false (.t 29)⟩,
⟨some 31, none, [], .call false .pure 67 [(.t 30)]⟩,
⟨some 4, none, [], .mov (.t 31)⟩] [])
(.seq (.seq (.reg false [
⟨some 32, none, [], .mov (.t 4)⟩,
⟨some 33, none, [], .bin .no .lss (.t 32) (.k (.it .i64 100))⟩,
⟨some 34, none, [], .mov (.t 33)⟩,
⟨some 35, some (34, false), [], .mov (.t 4)⟩,
⟨some 36, some (34, false), [], .bin .no .gtr (.t 35) (.k (.it .i64 599))⟩,
⟨some 37, none, [], .pick (.t 34) (.k (.bo true)) (.t 36)⟩,
⟨some 38, none, [], .mov (.t 37)⟩,
⟨some 39, some (38, false), [], .mov (.t 4)⟩,
⟨some 40, some (38, false), [], .bin .no .eql (.t 39) (.k (.it .i64 101))⟩,
⟨some 41, none, [], .pick (.t 38) (.k (.bo true)) (.t 40)⟩] [])
(.cond (.t 41)
(.seq (.reg false [
⟨some 42, none, [], .bld [(.it .i64 0), .ns, (.it .i64 0)] []⟩,
⟨none, none, [], .sto 3 (.t 2) (.t 42)⟩,
⟨some 3, none, [], .mov (.k (.bo false))⟩] [])
.ret)
.skip))
(.seq (.reg false [
⟨some 44, none, [], .mov (.t 0)⟩,
⟨some 45, none, [], .slc false 2 (.t 44) (some (.k (.it .i64 1))) none⟩,
⟨some 46, none, [], .call false .pure 66 [(.t 45)]⟩,
⟨some 43, none, [], .mov (.t 46)⟩,
⟨some 47, none, [], .ext (.t 43) 0⟩,
⟨some 48, none, [], .ext (.t 43) 1⟩,
⟨some 49, none, [], .ext (.t 43) 2⟩,
⟨some 5, none, [], .mov (.t 47)⟩,
⟨some 6, none, [], .mov (.t 48)⟩,
⟨some 7, none, [], .mov (.t 49)⟩] [])
(.seq (.seq (.reg false [
⟨some 50, none, [], .mov (.t 7)⟩,
⟨some 51, none, [], .un .not (.t 50)⟩] [])
(.cond (.t 51)
(.seq (.reg false [
⟨some 52, none, [], .bld [(.it .i64 0), .ns, (.it .i64 0)] []⟩,
⟨none, none, [], .sto 3 (.t 2) (.t 52)⟩,
⟨some 3, none, [], .mov (.k (.bo false))⟩] [])
.ret)
.skip))
(.seq (.reg false [
⟨some 53, none, [], .mov (.t 4)⟩,
⟨some 54, none, [], .mov (.t 5)⟩,
⟨some 55, none, [], .mov (.t 6)⟩,
⟨some 56, none, [], .bld [(.it .i64 0), .ns, (.it .i64 0)] [(0, 1, (.t 53)), (1, 1, (.t 54)), (2, 1, (.t 55))]⟩,
⟨none, none, [], .sto 3 (.t 2) (.t 56)⟩,
⟨some 3, none, [], .mov (.k (.bo true))⟩] [])
.ret)))))))⟩
def c22 : Ev.Fn := d22.den
def p22 : Pol := { loc := [2], md := .pure, mds := mds, heap := [], own := [], ord := [(0, [1, 0])], clr := [], mask := [], fns := [], lcl := [] }
theorem r22 : FnOK Try.prog mds 22 c22 := .read (pol := p22) (d := d22) Try.func22 (by kernel_rfl) (by kernel_rfl) rfl rfl (by kernel_rfl)

/- reservoir/reservoirkeep.Requests -/
def d23 : DFn := ⟨[(.g [.one, .one, .one, .one, (.sl [.one, .one]), .one]), (.g [.one, .one, .one, .one, (.sl [.one, .one]), .one])], [(.c .one)], .pure, [.tmp 4],
(.seq (.reg false [
⟨some 2, none, [], .box (.t 0)⟩,
⟨some 3, none, [], .box (.t 1)⟩,
⟨some 4, none, [], .mov (.k (.bo false))⟩] [])
(.seq (.reg false [
⟨some 5, none, [], .fad 0 (.t 2)⟩,
⟨some 6, none, [], .ld 1 false (.t 5)⟩,
⟨some 7, none, [], .fad 0 (.t 3)⟩,
⟨some 8, none, [], .ld 1 false (.t 7)⟩,
⟨some 9, none, [], .bin .no .eql (.t 6) (.t 8)⟩,
⟨some 10, none, [], .mov (.t 9)⟩,
⟨some 11, some (10, true), [], .fad 1 (.t 2)⟩,
⟨some 12, some (10, true), [], .ld 1 false (.t 11)⟩,
⟨some 13, some (10, true), [], .fad 1 (.t 3)⟩,
⟨some 14, some (10, true), [], .ld 1 false (.t 13)⟩,
⟨some 15, some (10, true), [], .bin .no .eql (.t 12) (.t 14)⟩,
⟨some 16, none, [], .pick (.t 10) (.t 15) (.k (.bo false))⟩,
⟨some 17, none, [], .mov (.t 16)⟩,
⟨some 18, some (17, true), [], .fad 2 (.t 2)⟩,
⟨some 19, some (17, true), [], .ld 1 false (.t 18)⟩,
⟨some 20, some (17, true), [], .fad 2 (.t 3)⟩,
⟨some 21, some (17, true), [], .ld 1 false (.t 20)⟩,
⟨some 22, some (17, true), [], .bin .no .eql (.t 19) (.t 21)⟩,
⟨some 23, none, [], .pick (.t 17) (.t 22) (.k (.bo false))⟩,
⟨some 24, none, [], .mov (.t 23)⟩,
⟨some 25, some (24, true), [], .fad 3 (.t 2)⟩,
⟨some 26, some (24, true), [], .ld 1 false (.t 25)⟩,
⟨some 27, some (24, true), [], .fad 3 (.t 3)⟩,
⟨some 28, some (24, true), [], .ld 1 false (.t 27)⟩,
⟨some 29, some (24, true), [], .bin .no .eql (.t 26) (.t 28)⟩,
⟨some 30, none, [], .pick (.t 24) (.t 29) (.k (.bo false))⟩,
⟨some 31, none, [], .mov (.t 30)⟩,
⟨some 32, some (31, true), [], .fad 4 (.t 2)⟩,
⟨some 33, some (31, true), [], .ld 1 false (.t 32)⟩,
⟨some 34, some (31, true), [], .fad 4 (.t 3)⟩,
⟨some 35, some (31, true), [], .ld 1 false (.t 34)⟩,
⟨some 36, some (31, true), [], .call false .pure 51 [(.t 33), (.t 35)]⟩,
⟨some 37, none, [], .pick (.t 31) (.t 36) (.k (.bo false))⟩,
⟨some 38, none, [], .mov (.t 37)⟩,
⟨some 39, some (38, true), [], .fad 5 (.t 2)⟩,
⟨some 40, some (38, true), [], .ld 1 false (.t 39)⟩,
⟨some 41, some (38, true), [], .fad 5 (.t 3)⟩,
⟨some 42, some (38, true), [], .ld 1 false (.t 41)⟩,
⟨some 43, some (38, true), [], .bin .no .eql (.t 40) (.t 42)⟩,
⟨some 44, none, [], .pick (.t 38) (.t 43) (.k (.bo false))⟩,
⟨some 4, none, [], .mov (.t 44)⟩] [5, 7, 11, 13, 18, 20, 25, 27, 32, 34, 39, 41])
.ret))⟩
def c23 : Ev.Fn := d23.den
def p23 : Pol := { loc := [2, 3], md := .pure, mds := mds, heap := [], own := [], ord := [(0, [2, 0, 1])], clr := [(1, [5, 7, 11, 13, 18, 20, 25, 27, 32, 34, 39, 41])], mask := [], fns := [], lcl := [] }
theorem r23 : FnOK Try.prog mds 23 c23 := .read (pol := p23) (d := d23) Try.func23 (by kernel_rfl) (by kernel_rfl) rfl rfl (by kernel_rfl)

/- reservoir/reservoirlaw15.light -/
def d24 : DFn := ⟨[(.c (.sl [.one, .one]))], [(.c .one)], .pure, [.tmp 2],
(.seq (.reg false [
⟨some 2, none, [], .mov (.k (.bo false))⟩] [])
(.seq (.reg false [
⟨some 3, none, [], .mov (.k (.it .i64 0))⟩] [])
(.seq (.seq (.reg false [
⟨some 4, none, [], .mov (.k (.it .i64 0))⟩] [])
(.blk 0 (.loop [0, 3, 4] []
(.seq (.seq (.reg false [
⟨some 5, none, [], .mov (.t 4)⟩,
⟨some 6, none, [], .mov (.t 0)⟩,
⟨some 7, none, [], .len false (.t 6)⟩,
⟨some 8, none, [], .bin .no .lss (.t 5) (.t 7)⟩] [])
(.cond (.t 8)
.skip
(.exit 0)))
(.seq (.blk 1 (.seq (.reg true [
⟨some 11, none, [], .mov (.t 3)⟩,
⟨some 12, none, [], .mov (.t 0)⟩,
⟨some 13, none, [], .mov (.t 4)⟩,
⟨some 14, none, [], .ias 2 (.t 12) (.t 13)⟩,
⟨some 15, none, [], .fad 0 (.t 14)⟩,
⟨some 16, none, [], .ld 1 false (.t 15)⟩,
⟨some 17, none, [], .len true (.t 16)⟩,
⟨some 18, none, [], .bin .no .add (.t 11) (.t 17)⟩,
⟨some 19, none, [], .mov (.t 0)⟩,
⟨some 20, none, [], .mov (.t 4)⟩,
⟨some 21, none, [], .ias 2 (.t 19) (.t 20)⟩,
⟨some 22, none, [], .fad 1 (.t 21)⟩,
⟨some 23, none, [], .ld 1 false (.t 22)⟩,
⟨some 24, none, [], .len true (.t 23)⟩,
⟨some 25, none, [], .bin .no .add (.t 18) (.t 24)⟩,
⟨some 26, none, [], .bin .no .add (.t 25) (.k (.it .i64 1))⟩,
⟨some 3, none, [], .mov (.t 26)⟩] [])
(.seq (.reg false [
⟨some 27, none, [], .mov (.t 3)⟩,
⟨some 28, none, [], .bin .no .gtr (.t 27) (.k (.it .i64 3000))⟩] [])
(.cond (.t 28)
(.seq (.reg false [
⟨some 2, none, [], .mov (.k (.bo false))⟩] [])
.ret)
.skip))))
(.reg false [
⟨some 9, none, [], .mov (.t 4)⟩,
⟨some 10, none, [], .bin .no .add (.t 9) (.k (.it .i64 1))⟩,
⟨some 4, none, [], .mov (.t 10)⟩] []))))))
(.seq (.reg false [
⟨some 2, none, [], .mov (.k (.bo true))⟩] [])
.ret))))⟩
def c24 : Ev.Fn := d24.den
def p24 : Pol := { loc := [], md := .pure, mds := mds, heap := [], own := [], ord := [], clr := [], mask := [(3, [0, 3, 4], [])], fns := [], lcl := [] }
theorem r24 : FnOK Try.prog mds 24 c24 := .read (pol := p24) (d := d24) Try.func24 (by kernel_rfl) (by kernel_rfl) rfl rfl (by kernel_rfl)

/- reservoir/reservoirkeep.Responses -/
def d25 : DFn := ⟨[(.g [.one, (.sl [.one, .one]), .one]), (.g [.one, (.sl [.one, .one]), .one])], [(.c .one)], .pure, [.tmp 4],
(.seq (.reg false [
⟨some 2, none, [], .box (.t 0)⟩,
⟨some 3, none, [], .box (.t 1)⟩,
⟨some 4, none, [], .mov (.k (.bo false))⟩] [])
(.seq (.reg false [
⟨some 5, none, [], .fad 0 (.t 2)⟩,
⟨some 6, none, [], .ld 1 false (.t 5)⟩,
⟨some 7, none, [], .fad 0 (.t 3)⟩,
⟨some 8, none, [], .ld 1 false (.t 7)⟩,
⟨some 9, none, [], .bin .no .eql (.t 6) (.t 8)⟩,
⟨some 10, none, [], .mov (.t 9)⟩,
⟨some 11, some (10, true), [], .fad 1 (.t 2)⟩,
⟨some 12, some (10, true), [], .ld 1 false (.t 11)⟩,
⟨some 13, some (10, true), [], .fad 1 (.t 3)⟩,
⟨some 14, some (10, true), [], .ld 1 false (.t 13)⟩,
⟨some 15, some (10, true), [], .call false .pure 51 [(.t 12), (.t 14)]⟩,
⟨some 16, none, [], .pick (.t 10) (.t 15) (.k (.bo false))⟩,
⟨some 17, none, [], .mov (.t 16)⟩,
⟨some 18, some (17, true), [], .fad 2 (.t 2)⟩,
⟨some 19, some (17, true), [], .ld 1 false (.t 18)⟩,
⟨some 20, some (17, true), [], .fad 2 (.t 3)⟩,
⟨some 21, some (17, true), [], .ld 1 false (.t 20)⟩,
⟨some 22, some (17, true), [], .bin .no .eql (.t 19) (.t 21)⟩,
⟨some 23, none, [], .pick (.t 17) (.t 22) (.k (.bo false))⟩,
⟨some 4, none, [], .mov (.t 23)⟩] [5, 7, 11, 13, 18, 20])
.ret))⟩
def c25 : Ev.Fn := d25.den
def p25 : Pol := { loc := [2, 3], md := .pure, mds := mds, heap := [], own := [], ord := [(0, [2, 0, 1])], clr := [(1, [5, 7, 11, 13, 18, 20])], mask := [], fns := [], lcl := [] }
theorem r25 : FnOK Try.prog mds 25 c25 := .read (pol := p25) (d := d25) Try.func25 (by kernel_rfl) (by kernel_rfl) rfl rfl (by kernel_rfl)

/- reservoir/reservoirbook.Same[reservoir/api.Field] -/
def d51 : DFn := ⟨[(.c (.sl [.one, .one])), (.c (.sl [.one, .one]))], [(.c .one)], .pure, [.tmp 4],
(.seq (.reg false [
⟨some 4, none, [], .mov (.k (.bo false))⟩] [])
(.seq (.seq (.reg false [
⟨some 6, none, [], .mov (.t 0)⟩,
⟨some 7, none, [], .len false (.t 6)⟩,
⟨some 8, none, [], .mov (.t 1)⟩,
⟨some 9, none, [], .len false (.t 8)⟩,
⟨some 10, none, [], .bin .no .neq (.t 7) (.t 9)⟩] [])
(.cond (.t 10)
(.seq (.reg false [
⟨some 4, none, [], .mov (.k (.bo false))⟩] [])
.ret)
.skip))
(.seq (.seq (.reg false [
⟨some 5, none, [], .mov (.k (.it .i64 0))⟩] [])
(.blk 0 (.loop [0, 1, 5] []
(.seq (.seq (.reg false [
⟨some 11, none, [], .mov (.t 5)⟩,
⟨some 12, none, [], .mov (.t 0)⟩,
⟨some 13, none, [], .len false (.t 12)⟩,
⟨some 14, none, [], .bin .no .lss (.t 11) (.t 13)⟩] [])
(.cond (.t 14)
.skip
(.exit 0)))
(.seq (.blk 1 (.seq (.reg true [
⟨some 17, none, [], .mov (.t 0)⟩,
⟨some 18, none, [], .mov (.t 5)⟩,
⟨some 19, none, [], .ias 2 (.t 17) (.t 18)⟩,
⟨some 20, none, [], .ld 2 true (.t 19)⟩,
⟨some 21, none, [], .mov (.t 1)⟩,
⟨some 22, none, [], .mov (.t 5)⟩,
⟨some 23, none, [], .ias 2 (.t 21) (.t 22)⟩,
⟨some 24, none, [], .ld 2 true (.t 23)⟩,
⟨some 25, none, [], .bin (.ag [1, 1]) .neq (.t 20) (.t 24)⟩] [])
(.cond (.t 25)
(.seq (.reg false [
⟨some 4, none, [], .mov (.k (.bo false))⟩] [])
.ret)
.skip)))
(.reg false [
⟨some 15, none, [], .mov (.t 5)⟩,
⟨some 16, none, [], .bin .no .add (.t 15) (.k (.it .i64 1))⟩,
⟨some 5, none, [], .mov (.t 16)⟩] []))))))
(.seq (.reg false [
⟨some 4, none, [], .mov (.k (.bo true))⟩] [])
.ret))))⟩
def c51 : Ev.Fn := d51.den
def p51 : Pol := { loc := [], md := .pure, mds := mds, heap := [], own := [], ord := [], clr := [], mask := [(4, [0, 1, 5], [])], fns := [], lcl := [] }
theorem r51 : FnOK Try.prog mds 51 c51 := .read (pol := p51) (d := d51) Try.func51 (by kernel_rfl) (by kernel_rfl) rfl rfl (by kernel_rfl)

/- reservoir/message.colon -/
def d63 : DFn := ⟨[(.g [.one, .one])], [(.c .one)], .pure, [.tmp 2],
(.seq (.reg false [
⟨some 1, none, [], .box (.t 0)⟩,
⟨some 2, none, [], .mov (.k (.bo false))⟩] [])
(.seq (.reg false [
⟨some 3, none, [], .fad 0 (.t 1)⟩,
⟨some 4, none, [], .ld 1 false (.t 3)⟩,
⟨some 5, none, [], .len true (.t 4)⟩,
⟨some 6, none, [], .bin .no .gtr (.t 5) (.k (.it .i64 0))⟩,
⟨some 7, none, [], .mov (.t 6)⟩,
⟨some 8, some (7, true), [], .fad 0 (.t 1)⟩,
⟨some 9, some (7, true), [], .ld 1 false (.t 8)⟩,
⟨some 10, some (7, true), [], .ixs (.t 9) (.k (.it .i64 0))⟩,
⟨some 11, some (7, true), [], .bin .no .eql (.t 10) (.k (.it .u8 58))⟩,
⟨some 12, none, [], .pick (.t 7) (.t 11) (.k (.bo false))⟩,
⟨some 2, none, [], .mov (.t 12)⟩] [3, 8])
.ret))⟩
def c63 : Ev.Fn := d63.den
def p63 : Pol := { loc := [1], md := .pure, mds := mds, heap := [], own := [], ord := [(0, [1, 0])], clr := [(1, [3, 8])], mask := [], fns := [], lcl := [] }
theorem r63 : FnOK Try.prog mds 63 c63 := .read (pol := p63) (d := d63) Try.func63 (by kernel_rfl) (by kernel_rfl) rfl rfl (by kernel_rfl)

/- reservoir/message.head -/
def d64 : DFn := ⟨[(.c (.sl [.one, .one])), (.c .one)], [(.c .one)], .rw, [.tmp 4],
(.seq (.reg false [
⟨some 4, none, [], .mov (.k (.bo false))⟩] [])
(.seq (.reg false [
⟨some 8, none, [], .mmk⟩,
⟨some 5, none, [], .mov (.t 8)⟩] [])
(.seq (.seq (.reg false [
⟨some 9, none, [], .mov (.t 0)⟩,
⟨some 10, none, [], .len false (.t 9)⟩,
⟨some 11, none, [], .mov (.k (.it .i64 0))⟩] [])
(.blk 0 (.loop [1, 5, 9, 10, 11] [7]
(.seq (.reg false [
⟨some 12, none, [], .bin .no .lss (.t 11) (.t 10)⟩] [])
(.seq (.cond (.t 12)
.skip
(.exit 0))
(.seq (.blk 1 (.seq (.reg false [
⟨some 13, none, [], .ias 2 (.t 9) (.t 11)⟩,
⟨some 14, none, [], .ld 2 true (.t 13)⟩,
⟨some 7, none, [], .alc [(.st []), (.st [])]⟩,
⟨none, none, [], .sto 2 (.t 7) (.t 14)⟩] [])
(.seq (.reg false [
⟨some 15, none, [], .mov (.t 5)⟩,
⟨some 16, none, [], .fad 0 (.t 7)⟩,
⟨some 17, none, [], .ld 1 false (.t 16)⟩,
⟨some 18, none, [], .mlk false (.it .i64 0) (.t 15) (.t 17)⟩,
⟨some 19, none, [], .bin .no .add (.t 18) (.k (.it .i64 1))⟩,
⟨none, none, [], .mup (.t 15) (.t 17) (.t 19)⟩] [16])
(.seq (.seq (.reg false [
⟨some 20, none, [], .mov (.t 5)⟩,
⟨some 21, none, [], .fad 0 (.t 7)⟩,
⟨some 22, none, [], .ld 1 false (.t 21)⟩,
⟨some 23, none, [], .mlk false (.it .i64 0) (.t 20) (.t 22)⟩,
⟨some 24, none, [], .bin .no .gtr (.t 23) (.k (.it .i64 1))⟩,
⟨some 25, none, [], .mov (.t 24)⟩,
⟨some 26, some (25, false), [], .fad 1 (.t 7)⟩,
⟨some 27, some (25, false), [], .ld 1 false (.t 26)⟩,
⟨some 28, some (25, false), [], .call false .pure 92 [(.t 27)]⟩,
⟨some 29, some (25, false), [], .un .not (.t 28)⟩,
⟨some 30, none, [], .pick (.t 25) (.k (.bo true)) (.t 29)⟩] [21, 26])
(.cond (.t 30)
(.seq (.reg false [
⟨some 4, none, [], .mov (.k (.bo false))⟩] [])
.ret)
.skip))
(.seq (.reg false [
⟨some 31, none, [], .fad 0 (.t 7)⟩,
⟨some 32, none, [], .ld 1 false (.t 31)⟩] [31])
(.blk 2 (.seq (.reg false [
⟨some 34, none, [], .bin .no .eql (.t 32) (.k (.st [58, 109, 101, 116, 104, 111, 100]))⟩,
⟨some 33, none, [], .mov (.t 34)⟩] [])
(.cond (.t 33)
(.reg false [
⟨some 35, none, [], .mov (.t 1)⟩,
⟨some 36, none, [], .fad 1 (.t 7)⟩,
⟨some 37, none, [], .ld 1 false (.t 36)⟩,
⟨some 38, none, [], .nck (.t 35)⟩,
⟨some 39, none, [], .fad 0 (.t 38)⟩,
⟨none, none, [], .sto 1 (.t 39) (.t 37)⟩] [36])
(.seq (.reg false [
⟨some 41, none, [], .bin .no .eql (.t 32) (.k (.st [58, 115, 99, 104, 101, 109, 101]))⟩,
⟨some 40, none, [], .mov (.t 41)⟩] [])
(.cond (.t 40)
(.reg false [
⟨some 42, none, [], .mov (.t 1)⟩,
⟨some 43, none, [], .fad 1 (.t 7)⟩,
⟨some 44, none, [], .ld 1 false (.t 43)⟩,
⟨some 45, none, [], .nck (.t 42)⟩,
⟨some 46, none, [], .fad 1 (.t 45)⟩,
⟨none, none, [], .sto 1 (.t 46) (.t 44)⟩] [43])
(.seq (.reg false [
⟨some 48, none, [], .bin .no .eql (.t 32) (.k (.st [58, 97, 117, 116, 104, 111, 114, 105, 116, 121]))⟩,
⟨some 47, none, [], .mov (.t 48)⟩] [])
(.cond (.t 47)
(.reg false [
⟨some 49, none, [], .mov (.t 1)⟩,
⟨some 50, none, [], .fad 1 (.t 7)⟩,
⟨some 51, none, [], .ld 1 false (.t 50)⟩,
⟨some 52, none, [], .nck (.t 49)⟩,
⟨some 53, none, [], .fad 2 (.t 52)⟩,
⟨none, none, [], .sto 1 (.t 53) (.t 51)⟩] [50])
(.seq (.reg false [
⟨some 55, none, [], .bin .no .eql (.t 32) (.k (.st [58, 112, 97, 116, 104]))⟩,
⟨some 54, none, [], .mov (.t 55)⟩] [])
(.cond (.t 54)
(.reg false [
⟨some 56, none, [], .mov (.t 1)⟩,
⟨some 57, none, [], .fad 1 (.t 7)⟩,
⟨some 58, none, [], .ld 1 false (.t 57)⟩,
⟨some 59, none, [], .nck (.t 56)⟩,
⟨some 60, none, [], .fad 3 (.t 59)⟩,
⟨none, none, [], .sto 1 (.t 60) (.t 58)⟩] [57])
(.seq (.reg false [
⟨some 4, none, [], .mov (.k (.bo false))⟩] [])
.ret)))))))))))))))
(.reg false [
⟨some 61, none, [], .bin .no .add (.t 11) (.k (.it .i64 1))⟩,
⟨some 11, none, [], .mov (.t 61)⟩] [])))))))
(.seq (.reg false [
⟨some 4, none, [], .mov (.k (.bo true))⟩] [])
.ret))))⟩
def c64 : Ev.Fn := d64.den
def p64 : Pol := { loc := [7], md := .rw, mds := mds, heap := [], own := [], ord := [], clr := [(5, [16]), (6, [21, 26]), (8, [31]), (11, [36]), (13, [43]), (15, [50]), (17, [57])], mask := [(3, [1, 5, 9, 10, 11], [7])], fns := [], lcl := [] }
theorem r64 : FnOK Try.prog mds 64 c64 := .read (pol := p64) (d := d64) Try.func64 (by kernel_rfl) (by kernel_rfl) rfl rfl (by kernel_rfl)

/- reservoir/message.right -/
def d65 : DFn := ⟨[(.g [.one, .one, .one, .one, (.sl [.one, .one]), .one])], [(.c .one)], .pure, [.tmp 2],
(.seq (.reg false [
⟨some 1, none, [], .box (.t 0)⟩,
⟨some 2, none, [], .mov (.k (.bo false))⟩] [])
(.seq (.seq (.reg false [
⟨some 3, none, [], .fad 0 (.t 1)⟩,
⟨some 4, none, [], .ld 1 false (.t 3)⟩,
⟨some 5, none, [], .call false .pure 93 [(.t 4)]⟩,
⟨some 6, none, [], .un .not (.t 5)⟩,
⟨some 7, none, [], .mov (.t 6)⟩,
⟨some 8, some (7, false), [], .fad 0 (.t 1)⟩,
⟨some 9, some (7, false), [], .ld 1 false (.t 8)⟩,
⟨some 10, some (7, false), [], .bin .no .eql (.t 9) (.k (.st [67, 79, 78, 78, 69, 67, 84]))⟩,
⟨some 11, none, [], .pick (.t 7) (.k (.bo true)) (.t 10)⟩,
⟨some 12, none, [], .mov (.t 11)⟩,
⟨some 13, some (12, false), [], .fad 1 (.t 1)⟩,
⟨some 14, some (12, false), [], .ld 1 false (.t 13)⟩,
⟨some 15, some (12, false), [], .bin .no .neq (.t 14) (.k (.st [104, 116, 116, 112]))⟩,
⟨some 16, some (12, false), [], .mov (.t 15)⟩,
⟨some 17, some (16, true), [], .fad 1 (.t 1)⟩,
⟨some 18, some (16, true), [], .ld 1 false (.t 17)⟩,
⟨some 19, some (16, true), [], .bin .no .neq (.t 18) (.k (.st [104, 116, 116, 112, 115]))⟩,
⟨some 20, some (12, false), [], .pick (.t 16) (.t 19) (.k (.bo false))⟩,
⟨some 21, none, [], .pick (.t 12) (.k (.bo true)) (.t 20)⟩,
⟨some 22, none, [], .mov (.t 21)⟩,
⟨some 23, some (22, false), [], .fad 2 (.t 1)⟩,
⟨some 24, some (22, false), [], .ld 1 false (.t 23)⟩,
⟨some 25, some (22, false), [], .bin .no .eql (.t 24) (.k (.st []))⟩,
⟨some 26, none, [], .pick (.t 22) (.k (.bo true)) (.t 25)⟩,
⟨some 27, none, [], .mov (.t 26)⟩,
⟨some 28, some (27, false), [], .fad 3 (.t 1)⟩,
⟨some 29, some (27, false), [], .ld 1 false (.t 28)⟩,
⟨some 30, some (27, false), [], .bin .no .eql (.t 29) (.k (.st []))⟩,
⟨some 31, none, [], .pick (.t 27) (.k (.bo true)) (.t 30)⟩] [3, 8, 13, 17, 23, 28])
(.cond (.t 31)
(.seq (.reg false [
⟨some 2, none, [], .mov (.k (.bo false))⟩] [])
.ret)
.skip))
(.seq (.reg false [
⟨some 32, none, [], .fad 3 (.t 1)⟩,
⟨some 33, none, [], .ld 1 false (.t 32)⟩,
⟨some 34, none, [], .ixs (.t 33) (.k (.it .i64 0))⟩,
⟨some 35, none, [], .bin .no .eql (.t 34) (.k (.it .u8 47))⟩,
⟨some 36, none, [], .mov (.t 35)⟩,
⟨some 37, some (36, false), [], .fad 3 (.t 1)⟩,
⟨some 38, some (36, false), [], .ld 1 false (.t 37)⟩,
⟨some 39, some (36, false), [], .bin .no .eql (.t 38) (.k (.st [42]))⟩,
⟨some 40, some (36, false), [], .mov (.t 39)⟩,
⟨some 41, some (40, true), [], .fad 0 (.t 1)⟩,
⟨some 42, some (40, true), [], .ld 1 false (.t 41)⟩,
⟨some 43, some (40, true), [], .bin .no .eql (.t 42) (.k (.st [79, 80, 84, 73, 79, 78, 83]))⟩,
⟨some 44, some (36, false), [], .pick (.t 40) (.t 43) (.k (.bo false))⟩,
⟨some 45, none, [], .pick (.t 36) (.k (.bo true)) (.t 44)⟩,
⟨some 2, none, [], .mov (.t 45)⟩] [32, 37, 41])
.ret)))⟩
def c65 : Ev.Fn := d65.den
def p65 : Pol := { loc := [1], md := .pure, mds := mds, heap := [], own := [], ord := [(0, [1, 0])], clr := [(1, [3, 8, 13, 17, 23, 28]), (3, [32, 37, 41])], mask := [], fns := [], lcl := [] }
theorem r65 : FnOK Try.prog mds 65 c65 := .read (pol := p65) (d := d65) Try.func65 (by kernel_rfl) (by kernel_rfl) rfl rfl (by kernel_rfl)

/- reservoir/message.rest -/
def d66 : DFn := ⟨[(.c (.sl [.one, .one]))], [(.c (.sl [.one, .one])), (.c .one), (.c .one)], .pure, [.tmp 2, .tmp 3, .tmp 4],
(.seq (.reg false [
⟨some 2, none, [], .mov (.k .ns)⟩,
⟨some 3, none, [], .mov (.k (.it .i64 0))⟩,
⟨some 4, none, [], .mov (.k (.bo false))⟩] [])
(.seq (.seq (.reg false [
⟨some 7, none, [], .mov (.t 0)⟩,
⟨some 8, none, [], .call false .rw 72 [(.t 7), (.k (.fn 63 [] []))]⟩,
⟨some 9, none, [], .mov (.t 8)⟩,
⟨some 10, some (9, false), [], .mov (.t 0)⟩,
⟨some 11, some (9, false), [], .call false .pure 73 [(.t 10)]⟩,
⟨some 12, some (9, false), [], .un .not (.t 11)⟩,
⟨some 13, none, [], .pick (.t 9) (.k (.bo true)) (.t 12)⟩] [])
(.cond (.t 13)
(.seq (.reg false [
⟨some 2, none, [], .mov (.k .ns)⟩,
⟨some 3, none, [], .mov (.k (.it .i64 0))⟩,
⟨some 4, none, [], .mov (.k (.bo false))⟩] [])
.ret)
.skip))
(.seq (.reg false [
⟨some 15, none, [], .mov (.t 0)⟩,
⟨some 16, none, [], .call false .pure 94 [(.t 15)]⟩,
⟨some 14, none, [], .mov (.t 16)⟩,
⟨some 17, none, [], .ext (.t 14) 0⟩,
⟨some 18, none, [], .ext (.t 14) 1⟩,
⟨some 5, none, [], .mov (.t 17)⟩,
⟨some 6, none, [], .mov (.t 18)⟩] [])
(.seq (.reg false [
⟨some 19, none, [], .mov (.t 0)⟩,
⟨some 20, none, [], .app 2 32 (.k .ns) (.t 19)⟩,
⟨some 21, none, [], .mov (.t 5)⟩,
⟨some 22, none, [], .mov (.t 6)⟩,
⟨some 2, none, [], .mov (.t 20)⟩,
⟨some 3, none, [], .mov (.t 21)⟩,
⟨some 4, none, [], .mov (.t 22)⟩] [])
.ret))))⟩
def c66 : Ev.Fn := d66.den
def p66 : Pol := { loc := [], md := .pure, mds := mds, heap := [], own := [], ord := [(4, [0, 2, 3, 1, 4, 5, 6])], clr := [], mask := [], fns := [63], lcl := [] }
theorem r66 : FnOK Try.prog mds 66 c66 := .read (pol := p66) (d := d66) Try.func66 (by kernel_rfl) (by kernel_rfl) rfl rfl (by kernel_rfl)

/- reservoir/message.number -/
def d67 : DFn := ⟨[(.c .one)], [(.c .one)], .pure, [.tmp 2],
(.seq (.reg false [
⟨some 2, none, [], .mov (.k (.it .i64 0))⟩] [])
(.seq (.seq (.reg false [
⟨some 5, none, [], .mov (.t 0)⟩,
⟨some 6, none, [], .len true (.t 5)⟩,
⟨some 7, none, [], .bin .no .lss (.t 6) (.k (.it .i64 1))⟩,
⟨some 8, none, [], .mov (.t 7)⟩,
⟨some 9, some (8, false), [], .mov (.t 0)⟩,
⟨some 10, some (8, false), [], .len true (.t 9)⟩,
⟨some 11, some (8, false), [], .bin .no .gtr (.t 10) (.k (.it .i64 9))⟩,
⟨some 12, none, [], .pick (.t 8) (.k (.bo true)) (.t 11)⟩] [])
(.cond (.t 12)
(.seq (.reg false [
⟨some 2, none, [], .mov (.k (.it .i64 (-1)))⟩] [])
.ret)
.skip))
(.seq (.reg false [
⟨some 3, none, [], .mov (.k (.it .i64 0))⟩] [])
(.seq (.seq (.reg false [
⟨some 13, none, [], .mov (.t 0)⟩,
⟨some 14, none, [], .len true (.t 13)⟩,
⟨some 15, none, [], .mov (.k (.it .i64 0))⟩] [])
(.blk 0 (.loop [0, 3, 14, 15] []
(.seq (.reg false [
⟨some 16, none, [], .bin .no .lss (.t 15) (.t 14)⟩] [])
(.seq (.cond (.t 16)
.skip
(.exit 0))
(.seq (.blk 1 (.seq (.reg false [
⟨some 17, none, [], .mov (.t 15)⟩,
⟨some 4, none, [], .mov (.t 17)⟩] [])
(.seq (.seq (.reg false [
⟨some 18, none, [], .mov (.t 0)⟩,
⟨some 19, none, [], .mov (.t 4)⟩,
⟨some 20, none, [], .ixs (.t 18) (.t 19)⟩,
⟨some 21, none, [], .bin .no .lss (.t 20) (.k (.it .u8 48))⟩,
⟨some 22, none, [], .mov (.t 21)⟩,
⟨some 23, some (22, false), [], .mov (.t 0)⟩,
⟨some 24, some (22, false), [], .mov (.t 4)⟩,
⟨some 25, some (22, false), [], .ixs (.t 23) (.t 24)⟩,
⟨some 26, some (22, false), [], .bin .no .gtr (.t 25) (.k (.it .u8 57))⟩,
⟨some 27, none, [], .pick (.t 22) (.k (.bo true)) (.t 26)⟩] [])
(.cond (.t 27)
(.seq (.reg false [
⟨some 2, none, [], .mov (.k (.it .i64 (-1)))⟩] [])
.ret)
.skip))
(.reg false [
⟨some 28, none, [], .mov (.t 3)⟩,
⟨some 29, none, [], .bin .no .mul (.k (.it .i64 10)) (.t 28)⟩,
⟨some 30, none, [], .mov (.t 0)⟩,
⟨some 31, none, [], .mov (.t 4)⟩,
⟨some 32, none, [], .ixs (.t 30) (.t 31)⟩,
⟨some 33, none, [], .bin .no .sub (.t 32) (.k (.it .u8 48))⟩,
⟨some 34, none, [], .cnv (.int .i64) (.t 33)⟩,
⟨some 35, none, [], .bin .no .add (.t 29) (.t 34)⟩,
⟨some 3, none, [], .mov (.t 35)⟩] []))))
(.reg false [
⟨some 36, none, [], .bin .no .add (.t 15) (.k (.it .i64 1))⟩,
⟨some 15, none, [], .mov (.t 36)⟩] [])))))))
(.seq (.reg false [
⟨some 37, none, [], .mov (.t 3)⟩,
⟨some 2, none, [], .mov (.t 37)⟩] [])
.ret)))))⟩
def c67 : Ev.Fn := d67.den
def p67 : Pol := { loc := [], md := .pure, mds := mds, heap := [], own := [], ord := [], clr := [], mask := [(5, [0, 3, 14, 15], [])], fns := [], lcl := [] }
theorem r67 : FnOK Try.prog mds 67 c67 := .read (pol := p67) (d := d67) Try.func67 (by kernel_rfl) (by kernel_rfl) rfl rfl (by kernel_rfl)

/- slices.ContainsFunc[[]reservoir/api.Field,reservoir/api.Field] -/
def d72 : DFn := ⟨[(.c (.sl [.one, .one])), (.c .one)], [(.c .one)], .rw, [.tmp 4],
(.seq (.reg false [
⟨some 4, none, [], .mov (.k (.bo false))⟩] [])
(.seq (.reg false [
⟨some 5, none, [], .mov (.t 0)⟩,
⟨some 6, none, [], .mov (.t 1)⟩,
⟨some 7, none, [], .call false .rw 97 [(.t 5), (.t 6)]⟩,
⟨some 8, none, [], .bin .no .geq (.t 7) (.k (.it .i64 0))⟩,
⟨some 4, none, [], .mov (.t 8)⟩] [])
.ret))⟩
def c72 : Ev.Fn := d72.den
def p72 : Pol := { loc := [], md := .rw, mds := mds, heap := [], own := [], ord := [], clr := [], mask := [], fns := [], lcl := [] }
theorem r72 : FnOK Try.prog mds 72 c72 := .read (pol := p72) (d := d72) Try.func72 (by kernel_rfl) (by kernel_rfl) rfl rfl (by kernel_rfl)

/- reservoir/message.plain -/
def d73 : DFn := ⟨[(.c (.sl [.one, .one]))], [(.c .one)], .pure, [.tmp 2],
(.seq (.reg false [
⟨some 2, none, [], .mov (.k (.bo false))⟩] [])
(.seq (.seq (.reg false [
⟨some 5, none, [], .mov (.t 0)⟩,
⟨some 6, none, [], .len false (.t 5)⟩,
⟨some 7, none, [], .mov (.k (.it .i64 0))⟩] [])
(.blk 0 (.loop [5, 6, 7] [4]
(.seq (.reg false [
⟨some 8, none, [], .bin .no .lss (.t 7) (.t 6)⟩] [])
(.seq (.cond (.t 8)
.skip
(.exit 0))
(.seq (.blk 1 (.seq (.reg false [
⟨some 9, none, [], .ias 2 (.t 5) (.t 7)⟩,
⟨some 10, none, [], .ld 2 true (.t 9)⟩,
⟨some 4, none, [], .alc [(.st []), (.st [])]⟩,
⟨none, none, [], .sto 2 (.t 4) (.t 10)⟩] [])
(.seq (.reg false [
⟨some 11, none, [], .fad 0 (.t 4)⟩,
⟨some 12, none, [], .ld 1 false (.t 11)⟩,
⟨some 13, none, [], .call false .pure 98 [(.t 12)]⟩,
⟨some 14, none, [], .un .not (.t 13)⟩,
⟨some 15, none, [], .mov (.t 14)⟩,
⟨some 16, some (15, false), [], .fad 1 (.t 4)⟩,
⟨some 17, some (15, false), [], .ld 1 false (.t 16)⟩,
⟨some 18, some (15, false), [], .call false .pure 92 [(.t 17)]⟩,
⟨some 19, some (15, false), [], .un .not (.t 18)⟩,
⟨some 20, none, [], .pick (.t 15) (.k (.bo true)) (.t 19)⟩,
⟨some 21, none, [], .mov (.t 20)⟩,
⟨some 22, some (21, false), [], .fad 0 (.t 4)⟩,
⟨some 23, some (21, false), [], .ld 1 false (.t 22)⟩,
⟨some 24, some (21, false), [], .call false .pure 90 [(.t 23)]⟩,
⟨some 25, none, [], .pick (.t 21) (.k (.bo true)) (.t 24)⟩,
⟨some 26, none, [], .mov (.t 25)⟩,
⟨some 27, some (26, false), [], .fad 0 (.t 4)⟩,
⟨some 28, some (26, false), [], .ld 1 false (.t 27)⟩,
⟨some 29, some (26, false), [], .bin .no .eql (.t 28) (.k (.st [116, 101]))⟩,
⟨some 30, some (26, false), [], .mov (.t 29)⟩,
⟨some 31, some (30, true), [], .fad 1 (.t 4)⟩,
⟨some 32, some (30, true), [], .ld 1 false (.t 31)⟩,
⟨some 33, some (30, true), [], .bin .no .neq (.t 32) (.k (.st [116, 114, 97, 105, 108, 101, 114, 115]))⟩,
⟨some 34, some (26, false), [], .pick (.t 30) (.t 33) (.k (.bo false))⟩,
⟨some 35, none, [], .pick (.t 26) (.k (.bo true)) (.t 34)⟩] [11, 16, 22, 27, 31])
(.cond (.t 35)
(.seq (.reg false [
⟨some 2, none, [], .mov (.k (.bo false))⟩] [])
.ret)
.skip))))
(.reg false [
⟨some 36, none, [], .bin .no .add (.t 7) (.k (.it .i64 1))⟩,
⟨some 7, none, [], .mov (.t 36)⟩] [])))))))
(.seq (.reg false [
⟨some 2, none, [], .mov (.k (.bo true))⟩] [])
.ret)))⟩
def c73 : Ev.Fn := d73.den
def p73 : Pol := { loc := [4], md := .pure, mds := mds, heap := [], own := [], ord := [], clr := [(4, [11, 16, 22, 27, 31])], mask := [(2, [5, 6, 7], [4])], fns := [], lcl := [] }
theorem r73 : FnOK Try.prog mds 73 c73 := .read (pol := p73) (d := d73) Try.func73 (by kernel_rfl) (by kernel_rfl) rfl rfl (by kernel_rfl)

/- reservoir/token.Lower -/
def d89 : DFn := ⟨[(.c .one)], [(.c .one)], .pure, [.tmp 2],
(.seq (.reg false [
⟨some 2, none, [], .mov (.k (.st []))⟩] [])
(.seq (.reg false [
⟨some 6, none, [], .mov (.t 0)⟩,
⟨some 7, none, [], .cnv .s2b (.t 6)⟩,
⟨some 3, none, [], .mov (.t 7)⟩] [])
(.seq (.seq (.reg false [
⟨some 8, none, [], .mov (.t 3)⟩,
⟨some 9, none, [], .len false (.t 8)⟩,
⟨some 10, none, [], .mov (.k (.it .i64 0))⟩] [])
(.blk 0 (.loop [3, 8, 9, 10] []
(.seq (.reg false [
⟨some 11, none, [], .bin .no .lss (.t 10) (.t 9)⟩] [])
(.seq (.cond (.t 11)
.skip
(.exit 0))
(.seq (.blk 1 (.seq (.reg false [
⟨some 12, none, [], .mov (.t 10)⟩,
⟨some 13, none, [], .ias 1 (.t 8) (.t 10)⟩,
⟨some 14, none, [], .ld 1 false (.t 13)⟩,
⟨some 4, none, [], .mov (.t 12)⟩,
⟨some 5, none, [], .mov (.t 14)⟩] [])
(.seq (.reg false [
⟨some 15, none, [], .mov (.t 5)⟩,
⟨some 16, none, [], .bin .no .geq (.t 15) (.k (.it .u8 65))⟩,
⟨some 17, none, [], .mov (.t 16)⟩,
⟨some 18, some (17, true), [], .mov (.t 5)⟩,
⟨some 19, some (17, true), [], .bin .no .leq (.t 18) (.k (.it .u8 90))⟩,
⟨some 20, none, [], .pick (.t 17) (.t 19) (.k (.bo false))⟩] [])
(.cond (.t 20)
(.reg false [
⟨some 21, none, [], .mov (.t 3)⟩,
⟨some 22, none, [], .mov (.t 4)⟩,
⟨some 23, none, [], .mov (.t 5)⟩,
⟨some 24, none, [], .bin .no .add (.t 23) (.k (.it .u8 32))⟩,
⟨some 25, none, [], .ias 1 (.t 21) (.t 22)⟩,
⟨none, none, [], .sto 1 (.t 25) (.t 24)⟩] [])
.skip))))
(.reg false [
⟨some 26, none, [], .bin .no .add (.t 10) (.k (.it .i64 1))⟩,
⟨some 10, none, [], .mov (.t 26)⟩] [])))))))
(.seq (.reg false [
⟨some 27, none, [], .mov (.t 3)⟩,
⟨some 28, none, [], .cnv .b2s (.t 27)⟩,
⟨some 2, none, [], .mov (.t 28)⟩] [])
.ret))))⟩
def c89 : Ev.Fn := d89.den
def p89 : Pol := { loc := [], md := .pure, mds := mds, heap := [7], own := [7], ord := [], clr := [], mask := [(3, [3, 8, 9, 10], [])], fns := [], lcl := [] }
theorem r89 : FnOK Try.prog mds 89 c89 := .read (pol := p89) (d := d89) Try.func89 (by kernel_rfl) (by kernel_rfl) rfl rfl (by kernel_rfl)

/- reservoir/message.hop -/
def d90 : DFn := ⟨[(.c .one)], [(.c .one)], .pure, [.tmp 2],
(.seq (.reg false [
⟨some 2, none, [], .mov (.k (.bo false))⟩] [])
(.seq (.seq (.reg false [
⟨some 3, none, [], .mov (.t 0)⟩] [])
(.blk 0 (.seq (.seq (.reg false [
⟨some 5, none, [], .bin .no .eql (.t 3) (.k (.st [99, 111, 110, 110, 101, 99, 116, 105, 111, 110]))⟩,
⟨some 4, none, [], .mov (.t 5)⟩] [])
(.cond (.t 4)
.skip
(.seq (.reg false [
⟨some 6, none, [], .bin .no .eql (.t 3) (.k (.st [112, 114, 111, 120, 121, 45, 99, 111, 110, 110, 101, 99, 116, 105, 111, 110]))⟩,
⟨some 4, none, [], .mov (.t 6)⟩] [])
(.cond (.t 4)
.skip
(.seq (.reg false [
⟨some 7, none, [], .bin .no .eql (.t 3) (.k (.st [107, 101, 101, 112, 45, 97, 108, 105, 118, 101]))⟩,
⟨some 4, none, [], .mov (.t 7)⟩] [])
(.cond (.t 4)
.skip
(.seq (.reg false [
⟨some 8, none, [], .bin .no .eql (.t 3) (.k (.st [116, 114, 97, 110, 115, 102, 101, 114, 45, 101, 110, 99, 111, 100, 105, 110, 103]))⟩,
⟨some 4, none, [], .mov (.t 8)⟩] [])
(.cond (.t 4)
.skip
(.reg false [
⟨some 9, none, [], .bin .no .eql (.t 3) (.k (.st [117, 112, 103, 114, 97, 100, 101]))⟩,
⟨some 4, none, [], .mov (.t 9)⟩] [])))))))))
(.cond (.t 4)
(.seq (.reg false [
⟨some 2, none, [], .mov (.k (.bo true))⟩] [])
.ret)
.skip))))
(.seq (.reg false [
⟨some 2, none, [], .mov (.k (.bo false))⟩] [])
.ret)))⟩
def c90 : Ev.Fn := d90.den
def p90 : Pol := { loc := [], md := .pure, mds := mds, heap := [], own := [], ord := [], clr := [], mask := [], fns := [], lcl := [] }
theorem r90 : FnOK Try.prog mds 90 c90 := .read (pol := p90) (d := d90) Try.func90 (by kernel_rfl) (by kernel_rfl) rfl rfl (by kernel_rfl)

/- reservoir/token.Value -/
def d92 : DFn := ⟨[(.c .one)], [(.c .one)], .pure, [.tmp 2],
(.seq (.reg false [
⟨some 2, none, [], .mov (.k (.bo false))⟩] [])
(.seq (.seq (.reg false [
⟨some 4, none, [], .mov (.t 0)⟩,
⟨some 5, none, [], .len true (.t 4)⟩,
⟨some 6, none, [], .mov (.k (.it .i64 0))⟩] [])
(.blk 0 (.loop [0, 5, 6] []
(.seq (.reg false [
⟨some 7, none, [], .bin .no .lss (.t 6) (.t 5)⟩] [])
(.seq (.cond (.t 7)
.skip
(.exit 0))
(.seq (.blk 1 (.seq (.reg false [
⟨some 8, none, [], .mov (.t 6)⟩,
⟨some 3, none, [], .mov (.t 8)⟩] [])
(.seq (.reg false [
⟨some 9, none, [], .mov (.t 0)⟩,
⟨some 10, none, [], .mov (.t 3)⟩,
⟨some 11, none, [], .ixs (.t 9) (.t 10)⟩,
⟨some 12, none, [], .call false .pure 105 [(.t 11)]⟩,
⟨some 13, none, [], .un .not (.t 12)⟩] [])
(.cond (.t 13)
(.seq (.reg false [
⟨some 2, none, [], .mov (.k (.bo false))⟩] [])
.ret)
.skip))))
(.reg false [
⟨some 14, none, [], .bin .no .add (.t 6) (.k (.it .i64 1))⟩,
⟨some 6, none, [], .mov (.t 14)⟩] [])))))))
(.seq (.reg false [
⟨some 15, none, [], .mov (.t 0)⟩,
⟨some 16, none, [], .bin .no .eql (.t 15) (.k (.st []))⟩,
⟨some 17, none, [], .mov (.t 16)⟩,
⟨some 18, some (17, false), [], .mov (.t 0)⟩,
⟨some 19, some (17, false), [], .ixs (.t 18) (.k (.it .i64 0))⟩,
⟨some 20, some (17, false), [], .call false .pure 100 [(.t 19)]⟩,
⟨some 21, some (17, false), [], .un .not (.t 20)⟩,
⟨some 22, some (17, false), [], .mov (.t 21)⟩,
⟨some 23, some (22, true), [], .mov (.t 0)⟩,
⟨some 24, some (22, true), [], .mov (.t 0)⟩,
⟨some 25, some (22, true), [], .len true (.t 24)⟩,
⟨some 26, some (22, true), [], .bin .no .sub (.t 25) (.k (.it .i64 1))⟩,
⟨some 27, some (22, true), [], .ixs (.t 23) (.t 26)⟩,
⟨some 28, some (22, true), [], .call false .pure 100 [(.t 27)]⟩,
⟨some 29, some (22, true), [], .un .not (.t 28)⟩,
⟨some 30, some (17, false), [], .pick (.t 22) (.t 29) (.k (.bo false))⟩,
⟨some 31, none, [], .pick (.t 17) (.k (.bo true)) (.t 30)⟩,
⟨some 2, none, [], .mov (.t 31)⟩] [])
.ret)))⟩
def c92 : Ev.Fn := d92.den
def p92 : Pol := { loc := [], md := .pure, mds := mds, heap := [], own := [], ord := [], clr := [], mask := [(2, [0, 5, 6], [])], fns := [], lcl := [] }
theorem r92 : FnOK Try.prog mds 92 c92 := .read (pol := p92) (d := d92) Try.func92 (by kernel_rfl) (by kernel_rfl) rfl rfl (by kernel_rfl)

/- reservoir/token.Token -/
def d93 : DFn := ⟨[(.c .one)], [(.c .one)], .pure, [.tmp 2],
(.seq (.reg false [
⟨some 2, none, [], .mov (.k (.bo false))⟩] [])
(.seq (.seq (.reg false [
⟨some 4, none, [], .mov (.t 0)⟩,
⟨some 5, none, [], .len true (.t 4)⟩,
⟨some 6, none, [], .mov (.k (.it .i64 0))⟩] [])
(.blk 0 (.loop [0, 5, 6] []
(.seq (.reg false [
⟨some 7, none, [], .bin .no .lss (.t 6) (.t 5)⟩] [])
(.seq (.cond (.t 7)
.skip
(.exit 0))
(.seq (.blk 1 (.seq (.reg false [
⟨some 8, none, [], .mov (.t 6)⟩,
⟨some 3, none, [], .mov (.t 8)⟩] [])
(.seq (.reg false [
⟨some 9, none, [], .mov (.t 0)⟩,
⟨some 10, none, [], .mov (.t 3)⟩,
⟨some 11, none, [], .ixs (.t 9) (.t 10)⟩,
⟨some 12, none, [], .call false .pure 106 [(.t 11)]⟩,
⟨some 13, none, [], .un .not (.t 12)⟩] [])
(.cond (.t 13)
(.seq (.reg false [
⟨some 2, none, [], .mov (.k (.bo false))⟩] [])
.ret)
.skip))))
(.reg false [
⟨some 14, none, [], .bin .no .add (.t 6) (.k (.it .i64 1))⟩,
⟨some 6, none, [], .mov (.t 14)⟩] [])))))))
(.seq (.reg false [
⟨some 15, none, [], .mov (.t 0)⟩,
⟨some 16, none, [], .bin .no .neq (.t 15) (.k (.st []))⟩,
⟨some 2, none, [], .mov (.t 16)⟩] [])
.ret)))⟩
def c93 : Ev.Fn := d93.den
def p93 : Pol := { loc := [], md := .pure, mds := mds, heap := [], own := [], ord := [], clr := [], mask := [(2, [0, 5, 6], [])], fns := [], lcl := [] }
theorem r93 : FnOK Try.prog mds 93 c93 := .read (pol := p93) (d := d93) Try.func93 (by kernel_rfl) (by kernel_rfl) rfl rfl (by kernel_rfl)

/- reservoir/message.length -/
def d94 : DFn := ⟨[(.c (.sl [.one, .one]))], [(.c .one), (.c .one)], .pure, [.tmp 2, .tmp 3],
(.seq (.reg false [
⟨some 2, none, [], .mov (.k (.it .i64 0))⟩,
⟨some 3, none, [], .mov (.k (.bo false))⟩] [])
(.seq (.reg false [
⟨some 4, none, [], .mov (.k (.it .i64 (-1)))⟩] [])
(.seq (.seq (.reg false [
⟨some 8, none, [], .mov (.t 0)⟩,
⟨some 9, none, [], .len false (.t 8)⟩,
⟨some 10, none, [], .mov (.k (.it .i64 0))⟩] [])
(.blk 0 (.loop [4, 8, 9, 10] [6]
(.seq (.reg false [
⟨some 11, none, [], .bin .no .lss (.t 10) (.t 9)⟩] [])
(.seq (.cond (.t 11)
.skip
(.exit 0))
(.seq (.blk 1 (.seq (.reg false [
⟨some 12, none, [], .ias 2 (.t 8) (.t 10)⟩,
⟨some 13, none, [], .ld 2 true (.t 12)⟩,
⟨some 6, none, [], .alc [(.st []), (.st [])]⟩,
⟨none, none, [], .sto 2 (.t 6) (.t 13)⟩] [])
(.seq (.seq (.reg false [
⟨some 14, none, [], .fad 0 (.t 6)⟩,
⟨some 15, none, [], .ld 1 false (.t 14)⟩,
⟨some 16, none, [], .bin .no .neq (.t 15) (.k (.st [99, 111, 110, 116, 101, 110, 116, 45, 108, 101, 110, 103, 116, 104]))⟩] [14])
(.cond (.t 16)
(.exit 1)
.skip))
(.seq (.reg false [
⟨some 17, none, [], .fad 1 (.t 6)⟩,
⟨some 18, none, [], .ld 1 false (.t 17)⟩,
⟨some 19, none, [], .call false .pure 67 [(.t 18)]⟩,
⟨some 7, none, [], .mov (.t 19)⟩] [17])
(.seq (.seq (.reg false [
⟨some 20, none, [], .mov (.t 7)⟩,
⟨some 21, none, [], .bin .no .lss (.t 20) (.k (.it .i64 0))⟩,
⟨some 22, none, [], .mov (.t 21)⟩,
⟨some 23, some (22, false), [], .mov (.t 4)⟩,
⟨some 24, some (22, false), [], .bin .no .geq (.t 23) (.k (.it .i64 0))⟩,
⟨some 25, some (22, false), [], .mov (.t 24)⟩,
⟨some 26, some (25, true), [], .mov (.t 7)⟩,
⟨some 27, some (25, true), [], .mov (.t 4)⟩,
⟨some 28, some (25, true), [], .bin .no .neq (.t 26) (.t 27)⟩,
⟨some 29, some (22, false), [], .pick (.t 25) (.t 28) (.k (.bo false))⟩,
⟨some 30, none, [], .pick (.t 22) (.k (.bo true)) (.t 29)⟩] [])
(.cond (.t 30)
(.seq (.reg false [
⟨some 2, none, [], .mov (.k (.it .i64 0))⟩,
⟨some 3, none, [], .mov (.k (.bo false))⟩] [])
.ret)
.skip))
(.reg false [
⟨some 31, none, [], .mov (.t 7)⟩,
⟨some 4, none, [], .mov (.t 31)⟩] []))))))
(.reg false [
⟨some 32, none, [], .bin .no .add (.t 10) (.k (.it .i64 1))⟩,
⟨some 10, none, [], .mov (.t 32)⟩] [])))))))
(.seq (.reg false [
⟨some 33, none, [], .mov (.t 4)⟩,
⟨some 2, none, [], .mov (.t 33)⟩,
⟨some 3, none, [], .mov (.k (.bo true))⟩] [])
.ret))))⟩
def c94 : Ev.Fn := d94.den
def p94 : Pol := { loc := [6], md := .pure, mds := mds, heap := [], own := [], ord := [], clr := [(5, [14]), (6, [17])], mask := [(3, [4, 8, 9, 10], [6])], fns := [], lcl := [] }
theorem r94 : FnOK Try.prog mds 94 c94 := .read (pol := p94) (d := d94) Try.func94 (by kernel_rfl) (by kernel_rfl) rfl rfl (by kernel_rfl)

/- slices.IndexFunc[[]reservoir/api.Field,reservoir/api.Field] -/
def d97 : DFn := ⟨[(.c (.sl [.one, .one])), (.c .one)], [(.c .one)], .rw, [.tmp 4],
(.seq (.reg false [
⟨some 4, none, [], .mov (.k (.it .i64 0))⟩] [])
(.seq (.seq (.reg false [
⟨some 6, none, [], .mov (.t 0)⟩,
⟨some 7, none, [], .len false (.t 6)⟩,
⟨some 8, none, [], .mov (.k (.it .i64 0))⟩] [])
(.blk 0 (.loop [0, 1, 7, 8] []
(.seq (.reg false [
⟨some 9, none, [], .bin .no .lss (.t 8) (.t 7)⟩] [])
(.seq (.cond (.t 9)
.skip
(.exit 0))
(.seq (.blk 1 (.seq (.reg false [
⟨some 10, none, [], .mov (.t 8)⟩,
⟨some 5, none, [], .mov (.t 10)⟩] [])
(.seq (.reg false [
⟨some 11, none, [], .mov (.t 1)⟩,
⟨some 12, none, [], .mov (.t 0)⟩,
⟨some 13, none, [], .mov (.t 5)⟩,
⟨some 14, none, [], .ias 2 (.t 12) (.t 13)⟩,
⟨some 15, none, [], .ld 2 true (.t 14)⟩,
⟨some 16, none, [], .calv [] (.t 11) [(.t 15)]⟩] [])
(.cond (.t 16)
(.seq (.reg false [
⟨some 17, none, [], .mov (.t 5)⟩,
⟨some 4, none, [], .mov (.t 17)⟩] [])
.ret)
.skip))))
(.reg false [
⟨some 18, none, [], .bin .no .add (.t 8) (.k (.it .i64 1))⟩,
⟨some 8, none, [], .mov (.t 18)⟩] [])))))))
(.seq (.reg false [
⟨some 4, none, [], .mov (.k (.it .i64 (-1)))⟩] [])
.ret)))⟩
def c97 : Ev.Fn := d97.den
def p97 : Pol := { loc := [], md := .rw, mds := mds, heap := [], own := [], ord := [], clr := [], mask := [(2, [0, 1, 7, 8], [])], fns := [], lcl := [] }
theorem r97 : FnOK Try.prog mds 97 c97 := .read (pol := p97) (d := d97) Try.func97 (by kernel_rfl) (by kernel_rfl) rfl rfl (by kernel_rfl)

/- reservoir/message.named -/
def d98 : DFn := ⟨[(.c .one)], [(.c .one)], .pure, [.tmp 2],
(.seq (.reg false [
⟨some 2, none, [], .mov (.k (.bo false))⟩] [])
(.seq (.reg false [
⟨some 3, none, [], .mov (.t 0)⟩,
⟨some 4, none, [], .call false .pure 93 [(.t 3)]⟩,
⟨some 5, none, [], .mov (.t 4)⟩,
⟨some 6, some (5, true), [], .mov (.t 0)⟩,
⟨some 7, some (5, true), [], .call false .pure 89 [(.t 6)]⟩,
⟨some 8, some (5, true), [], .mov (.t 0)⟩,
⟨some 9, some (5, true), [], .bin .no .eql (.t 7) (.t 8)⟩,
⟨some 10, none, [], .pick (.t 5) (.t 9) (.k (.bo false))⟩,
⟨some 2, none, [], .mov (.t 10)⟩] [])
.ret))⟩
def c98 : Ev.Fn := d98.den
def p98 : Pol := { loc := [], md := .pure, mds := mds, heap := [], own := [], ord := [(1, [0, 1, 2, 3, 5, 4, 6, 7, 8])], clr := [], mask := [], fns := [], lcl := [] }
theorem r98 : FnOK Try.prog mds 98 c98 := .read (pol := p98) (d := d98) Try.func98 (by kernel_rfl) (by kernel_rfl) rfl rfl (by kernel_rfl)

/- reservoir/token.blank -/
def d100 : DFn := ⟨[(.c .one)], [(.c .one)], .pure, [.tmp 2],
(.seq (.reg false [
⟨some 2, none, [], .mov (.k (.bo false))⟩] [])
(.seq (.reg false [
⟨some 3, none, [], .mov (.t 0)⟩,
⟨some 4, none, [], .bin .no .eql (.t 3) (.k (.it .u8 32))⟩,
⟨some 5, none, [], .mov (.t 4)⟩,
⟨some 6, some (5, false), [], .mov (.t 0)⟩,
⟨some 7, some (5, false), [], .bin .no .eql (.t 6) (.k (.it .u8 9))⟩,
⟨some 8, none, [], .pick (.t 5) (.k (.bo true)) (.t 7)⟩,
⟨some 2, none, [], .mov (.t 8)⟩] [])
.ret))⟩
def c100 : Ev.Fn := d100.den
def p100 : Pol := { loc := [], md := .pure, mds := mds, heap := [], own := [], ord := [], clr := [], mask := [], fns := [], lcl := [] }
theorem r100 : FnOK Try.prog mds 100 c100 := .read (pol := p100) (d := d100) Try.func100 (by kernel_rfl) (by kernel_rfl) rfl rfl (by kernel_rfl)

/- reservoir/token.plain -/
def d105 : DFn := ⟨[(.c .one)], [(.c .one)], .pure, [.tmp 2],
(.seq (.reg false [
⟨some 2, none, [], .mov (.k (.bo false))⟩] [])
(.seq (.reg false [
⟨some 3, none, [], .mov (.t 0)⟩,
⟨some 4, none, [], .bin .no .geq (.t 3) (.k (.it .u8 32))⟩,
⟨some 5, none, [], .mov (.t 4)⟩,
⟨some 6, some (5, true), [], .mov (.t 0)⟩,
⟨some 7, some (5, true), [], .bin .no .neq (.t 6) (.k (.it .u8 127))⟩,
⟨some 8, none, [], .pick (.t 5) (.t 7) (.k (.bo false))⟩,
⟨some 9, none, [], .mov (.t 8)⟩,
⟨some 10, some (9, false), [], .mov (.t 0)⟩,
⟨some 11, some (9, false), [], .bin .no .eql (.t 10) (.k (.it .u8 9))⟩,
⟨some 12, none, [], .pick (.t 9) (.k (.bo true)) (.t 11)⟩,
⟨some 2, none, [], .mov (.t 12)⟩] [])
.ret))⟩
def c105 : Ev.Fn := d105.den
def p105 : Pol := { loc := [], md := .pure, mds := mds, heap := [], own := [], ord := [], clr := [], mask := [], fns := [], lcl := [] }
theorem r105 : FnOK Try.prog mds 105 c105 := .read (pol := p105) (d := d105) Try.func105 (by kernel_rfl) (by kernel_rfl) rfl rfl (by kernel_rfl)

/- reservoir/token.sign -/
def d106 : DFn := ⟨[(.c .one)], [(.c .one)], .pure, [.tmp 2],
(.seq (.reg false [
⟨some 2, none, [], .mov (.k (.bo false))⟩] [])
(.seq (.blk 0 (.seq (.seq (.reg false [
⟨some 4, none, [], .mov (.t 0)⟩,
⟨some 5, none, [], .bin .no .geq (.t 4) (.k (.it .u8 97))⟩,
⟨some 6, none, [], .mov (.t 5)⟩,
⟨some 7, some (6, true), [], .mov (.t 0)⟩,
⟨some 8, some (6, true), [], .bin .no .leq (.t 7) (.k (.it .u8 122))⟩,
⟨some 9, none, [], .pick (.t 6) (.t 8) (.k (.bo false))⟩,
⟨some 3, none, [], .mov (.t 9)⟩] [])
(.cond (.t 3)
.skip
(.seq (.reg false [
⟨some 10, none, [], .mov (.t 0)⟩,
⟨some 11, none, [], .bin .no .geq (.t 10) (.k (.it .u8 65))⟩,
⟨some 12, none, [], .mov (.t 11)⟩,
⟨some 13, some (12, true), [], .mov (.t 0)⟩,
⟨some 14, some (12, true), [], .bin .no .leq (.t 13) (.k (.it .u8 90))⟩,
⟨some 15, none, [], .pick (.t 12) (.t 14) (.k (.bo false))⟩,
⟨some 3, none, [], .mov (.t 15)⟩] [])
(.cond (.t 3)
.skip
(.reg false [
⟨some 16, none, [], .mov (.t 0)⟩,
⟨some 17, none, [], .bin .no .geq (.t 16) (.k (.it .u8 48))⟩,
⟨some 18, none, [], .mov (.t 17)⟩,
⟨some 19, some (18, true), [], .mov (.t 0)⟩,
⟨some 20, some (18, true), [], .bin .no .leq (.t 19) (.k (.it .u8 57))⟩,
⟨some 21, none, [], .pick (.t 18) (.t 20) (.k (.bo false))⟩,
⟨some 3, none, [], .mov (.t 21)⟩] [])))))
(.cond (.t 3)
(.seq (.reg false [
⟨some 2, none, [], .mov (.k (.bo true))⟩] [])
.ret)
.skip)))
(.seq (.reg false [
⟨some 22, none, [], .mov (.t 0)⟩,
⟨some 23, none, [], .call false .pure 111 [(.k (.st [33, 35, 36, 37, 38, 39, 42, 43, 45, 46, 94, 95, 124, 126, 96])), (.t 22)]⟩,
⟨some 24, none, [], .bin .no .geq (.t 23) (.k (.it .i64 0))⟩,
⟨some 2, none, [], .mov (.t 24)⟩] [])
.ret)))⟩
def c106 : Ev.Fn := d106.den
def p106 : Pol := { loc := [], md := .pure, mds := mds, heap := [], own := [], ord := [], clr := [], mask := [], fns := [], lcl := [] }
theorem r106 : FnOK Try.prog mds 106 c106 := .read (pol := p106) (d := d106) Try.func106 (by kernel_rfl) (by kernel_rfl) rfl rfl (by kernel_rfl)

/- strings.IndexByte -/
def d111 : DFn := ⟨[(.c .one), (.c .one)], [(.c .one)], .pure, [.tmp 4],
(.seq (.reg false [
⟨some 4, none, [], .mov (.k (.it .i64 0))⟩] [])
(.seq (.reg false [
⟨some 5, none, [], .mov (.t 0)⟩,
⟨some 6, none, [], .mov (.t 1)⟩,
⟨some 7, none, [], .call false .pure 115 [(.t 5), (.t 6)]⟩,
⟨some 4, none, [], .mov (.t 7)⟩] [])
.ret))⟩
def c111 : Ev.Fn := d111.den
def p111 : Pol := { loc := [], md := .pure, mds := mds, heap := [], own := [], ord := [], clr := [], mask := [], fns := [], lcl := [] }
theorem r111 : FnOK Try.prog mds 111 c111 := .read (pol := p111) (d := d111) Try.func111 (by kernel_rfl) (by kernel_rfl) rfl rfl (by kernel_rfl)

/- internal/stringslite.IndexByte -/
def d115 : DFn := ⟨[(.c .one), (.c .one)], [(.c .one)], .pure, [.tmp 4],
(.seq (.reg false [
⟨some 4, none, [], .mov (.k (.it .i64 0))⟩] [])
(.seq (.reg false [
⟨some 5, none, [], .mov (.t 0)⟩,
⟨some 6, none, [], .mov (.t 1)⟩,
⟨some 7, none, [], .ixb (.t 5) (.t 6)⟩,
⟨some 4, none, [], .mov (.t 7)⟩] [])
.ret))⟩
def c115 : Ev.Fn := d115.den
def p115 : Pol := { loc := [], md := .pure, mds := mds, heap := [], own := [], ord := [], clr := [], mask := [], fns := [], lcl := [] }
theorem r115 : FnOK Try.prog mds 115 c115 := .read (pol := p115) (d := d115) Try.func115 (by kernel_rfl) (by kernel_rfl) rfl rfl (by kernel_rfl)

def tab : List (Option Ev.Fn) := [none, none, none, some c3, some c4, none, none, none, none, none, none, none, none, none, none, none, none, none, none, none, some c20, some c21, some c22, some c23, some c24, some c25, none, none, none, none, none, none, none, none, none, none, none, none, none, none, none, none, none, none, none, none, none, none, none, none, none, some c51, none, none, none, none, none, none, none, none, none, none, none, some c63, some c64, some c65, some c66, some c67, none, none, none, none, some c72, some c73, none, none, none, none, none, none, none, none, none, none, none, none, none, none, none, some c89, some c90, none, some c92, some c93, some c94, none, none, some c97, some c98, none, some c100, none, none, none, none, some c105, some c106, none, none, none, none, some c111, none, none, none, some c115]
def F (n : Nat) : Option Ev.Fn := (tab[n]?).join

inductive Good : Nat → List (Option Ev.Fn) → Prop
  | nil (k : Nat) : Good k []
  | none {k : Nat} {l : List (Option Ev.Fn)} (h : Good (k + 1) l) : Good k (none :: l)
  | some {k : Nat} {c : Ev.Fn} {l : List (Option Ev.Fn)} (h : FnOK Try.prog mds k c) (t : Good (k + 1) l) : Good k (some c :: l)

theorem Good.get {k : Nat} {l : List (Option Ev.Fn)} (h : Good k l) : ∀ (n : Nat) (c : Ev.Fn), (l[n]?).join = Option.some c → FnOK Try.prog mds (k + n) c := by
  induction h with
  | nil k => intro n c h; simp at h
  | none h ih =>
    intro n c hc
    cases n with
    | zero => simp at hc
    | succ n => have := ih n c (by simpa using hc); rw [Nat.add_assoc, Nat.add_comm 1 n] at this; exact this
  | some h t ih =>
    intro n c hc
    cases n with
    | zero => simp at hc; subst hc; exact h
    | succ n => have := ih n c (by simpa using hc); rw [Nat.add_assoc, Nat.add_comm 1 n] at this; exact this

theorem good : Good 0 tab := by
  unfold tab
  refine .none ?_
  refine .none ?_
  refine .none ?_
  refine .some r3 ?_
  refine .some r4 ?_
  refine .none ?_
  refine .none ?_
  refine .none ?_
  refine .none ?_
  refine .none ?_
  refine .none ?_
  refine .none ?_
  refine .none ?_
  refine .none ?_
  refine .none ?_
  refine .none ?_
  refine .none ?_
  refine .none ?_
  refine .none ?_
  refine .none ?_
  refine .some r20 ?_
  refine .some r21 ?_
  refine .some r22 ?_
  refine .some r23 ?_
  refine .some r24 ?_
  refine .some r25 ?_
  refine .none ?_
  refine .none ?_
  refine .none ?_
  refine .none ?_
  refine .none ?_
  refine .none ?_
  refine .none ?_
  refine .none ?_
  refine .none ?_
  refine .none ?_
  refine .none ?_
  refine .none ?_
  refine .none ?_
  refine .none ?_
  refine .none ?_
  refine .none ?_
  refine .none ?_
  refine .none ?_
  refine .none ?_
  refine .none ?_
  refine .none ?_
  refine .none ?_
  refine .none ?_
  refine .none ?_
  refine .none ?_
  refine .some r51 ?_
  refine .none ?_
  refine .none ?_
  refine .none ?_
  refine .none ?_
  refine .none ?_
  refine .none ?_
  refine .none ?_
  refine .none ?_
  refine .none ?_
  refine .none ?_
  refine .none ?_
  refine .some r63 ?_
  refine .some r64 ?_
  refine .some r65 ?_
  refine .some r66 ?_
  refine .some r67 ?_
  refine .none ?_
  refine .none ?_
  refine .none ?_
  refine .none ?_
  refine .some r72 ?_
  refine .some r73 ?_
  refine .none ?_
  refine .none ?_
  refine .none ?_
  refine .none ?_
  refine .none ?_
  refine .none ?_
  refine .none ?_
  refine .none ?_
  refine .none ?_
  refine .none ?_
  refine .none ?_
  refine .none ?_
  refine .none ?_
  refine .none ?_
  refine .none ?_
  refine .some r89 ?_
  refine .some r90 ?_
  refine .none ?_
  refine .some r92 ?_
  refine .some r93 ?_
  refine .some r94 ?_
  refine .none ?_
  refine .none ?_
  refine .some r97 ?_
  refine .some r98 ?_
  refine .none ?_
  refine .some r100 ?_
  refine .none ?_
  refine .none ?_
  refine .none ?_
  refine .none ?_
  refine .some r105 ?_
  refine .some r106 ?_
  refine .none ?_
  refine .none ?_
  refine .none ?_
  refine .none ?_
  refine .some r111 ?_
  refine .none ?_
  refine .none ?_
  refine .none ?_
  refine .some r115 ?_
  exact .nil _

theorem table : Table Try.prog F mds where
  mixed := by kernel_rfl
  fns := fun f fn h => by
    have := good.get f fn h
    rw [Nat.zero_add] at this
    exact this

end Go.Proofs.Ytcbiplmgaiipgaa.tab
