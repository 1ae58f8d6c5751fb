import Derived.Test.YtcbiplmgaiipgaaLays
import Derived.Test.YtcbiplmgaiipgaaRows
import Derived.KernelRfl
/- the functions of the seat, read off the program -/
namespace Go.Proofs.Ytcbiplmgaiipgaa.tab
open Go hiding Fn
open Ev

def mdl : List Md := [.pure, .pure, .pure, .pure, .pure, .pure, .pure, .pure, .pure, .pure, .pure, .pure, .pure, .pure, .pure, .pure, .pure, .pure, .pure, .pure, .pure, .rw, .pure, .ro, .pure, .ro, .pure, .pure, .pure, .pure, .pure, .pure, .pure, .pure, .pure, .pure, .pure, .pure, .pure, .pure, .pure, .pure, .pure, .pure, .rw, .pure, .pure, .pure, .rw, .pure, .pure, .ro, .pure, .pure, .ro, .pure, .pure, .pure, .pure, .rw, .pure, .pure, .pure, .pure, .rw, .pure, .rw, .pure, .pure, .pure, .pure, .pure, .rw, .pure, .pure, .pure, .pure, .pure, .pure, .pure, .pure, .pure, .pure, .rw, .pure, .pure, .pure, .pure, .pure, .pure, .pure, .ro, .pure, .pure, .pure, .pure, .pure, .rw, .pure, .pure, .pure, .rw, .pure, .pure, .ro, .pure, .pure, .rw, .rw, .rw, .pure, .pure, .rw, .rw, .pure, .pure, .pure, .pure, .pure, .pure, .pure, .pure, .pure, .pure, .pure, .pure, .pure, .rw, .rw, .rw, .rw, .rw, .rw, .rw, .rw, .pure]
def mds (n : Nat) : Md := mdl.getD n .rw

/- reservoir/reservoirlaw15.MessageRuns -/
def d3 : DFn := ⟨[], [(.c .one)], .pure, [.tmp 0],
(.seq (.reg false [
⟨some 0, none, [], .mov (.k (.bo false))⟩] [])
(.seq (.reg false [
⟨some 18, none, [], .call false .pure 20 [(.k (.st [58, 109, 101, 116, 104, 111, 100])), (.k (.st [71, 69, 84]))]⟩,
⟨some 19, none, [], .call false .pure 20 [(.k (.st [58, 115, 99, 104, 101, 109, 101])), (.k (.st [104, 116, 116, 112, 115]))]⟩,
⟨some 20, none, [], .call false .pure 20 [(.k (.st [58, 97, 117, 116, 104, 111, 114, 105, 116, 121])), (.k (.st [97]))]⟩,
⟨some 21, none, [], .call false .pure 20 [(.k (.st [58, 112, 97, 116, 104])), (.k (.st [47]))]⟩,
⟨some 22, none, [], .call false .pure 20 [(.k (.st [116, 101])), (.k (.st [116, 114, 97, 105, 108, 101, 114, 115]))]⟩,
⟨some 23, none, [], .bsv [.one, .one] 2 (List.replicate 5 [(.st []), (.st [])]) [(0, (.t 18)), (1, (.t 19)), (2, (.t 20)), (3, (.t 21)), (4, (.t 22))]⟩,
⟨some 1, none, [], .mov (.t 23)⟩] [])
(.seq (.reg false [
⟨some 25, none, [], .mov (.t 1)⟩,
⟨some 26, none, [], .call false .rw 21 [(.t 25)]⟩,
⟨some 24, none, [], .mov (.t 26)⟩,
⟨some 27, none, [], .ext (.t 24) 0⟩,
⟨some 28, none, [], .ext (.t 24) 1⟩,
⟨some 2, none, [], .alc [(.st []), (.st []), (.st []), (.st []), .ns, (.it .i64 0)]⟩,
⟨none, none, [], .sto 6 (.t 2) (.t 27)⟩,
⟨some 3, none, [], .mov (.t 28)⟩] [])
(.seq (.reg false [
⟨some 30, none, [], .mov (.t 1)⟩,
⟨some 31, none, [], .slc false 2 (.t 30) none (some (.k (.it .i64 3)))⟩,
⟨some 32, none, [], .call false .rw 21 [(.t 31)]⟩,
⟨some 29, none, [], .mov (.t 32)⟩,
⟨some 33, none, [], .ext (.t 29) 0⟩,
⟨some 34, none, [], .ext (.t 29) 1⟩,
⟨some 4, none, [], .alc [(.st []), (.st []), (.st []), (.st []), .ns, (.it .i64 0)]⟩,
⟨none, none, [], .sto 6 (.t 4) (.t 33)⟩,
⟨some 5, none, [], .mov (.t 34)⟩] [])
(.seq (.reg false [
⟨some 36, none, [], .bsl 2 [] []⟩,
⟨some 37, none, [], .mov (.t 1)⟩,
⟨some 38, none, [], .app 2 32 (.t 36) (.t 37)⟩,
⟨some 39, none, [], .call false .pure 20 [(.k (.st [88, 45, 97])), (.k (.st [49]))]⟩,
⟨some 40, none, [], .bsv [.one, .one] 2 [[(.st []), (.st [])]] [(0, (.t 39))]⟩,
⟨some 41, none, [], .app 2 32 (.t 38) (.t 40)⟩,
⟨some 42, none, [], .call false .rw 21 [(.t 41)]⟩,
⟨some 35, none, [], .mov (.t 42)⟩,
⟨some 43, none, [], .ext (.t 35) 0⟩,
⟨some 44, none, [], .ext (.t 35) 1⟩,
⟨some 6, none, [], .alc [(.st []), (.st []), (.st []), (.st []), .ns, (.it .i64 0)]⟩,
⟨none, none, [], .sto 6 (.t 6) (.t 43)⟩,
⟨some 7, none, [], .mov (.t 44)⟩] [])
(.seq (.reg false [
⟨some 46, none, [], .call false .pure 20 [(.k (.st [58, 112, 97, 116, 104])), (.k (.st [47]))]⟩,
⟨some 47, none, [], .bsl 2 [[(.st []), (.st [])]] [(0, (.t 46))]⟩,
⟨some 48, none, [], .mov (.t 1)⟩,
⟨some 49, none, [], .app 2 32 (.t 47) (.t 48)⟩,
⟨some 50, none, [], .call false .rw 21 [(.t 49)]⟩,
⟨some 45, none, [], .mov (.t 50)⟩,
⟨some 51, none, [], .ext (.t 45) 0⟩,
⟨some 52, none, [], .ext (.t 45) 1⟩,
⟨some 8, none, [], .alc [(.st []), (.st []), (.st []), (.st []), .ns, (.it .i64 0)]⟩,
⟨none, none, [], .sto 6 (.t 8) (.t 51)⟩,
⟨some 9, none, [], .mov (.t 52)⟩] [])
(.seq (.reg false [
⟨some 54, none, [], .bsl 2 [] []⟩,
⟨some 55, none, [], .mov (.t 1)⟩,
⟨some 56, none, [], .app 2 32 (.t 54) (.t 55)⟩,
⟨some 57, none, [], .call false .pure 20 [(.k (.st [99, 111, 110, 110, 101, 99, 116, 105, 111, 110])), (.k (.st [99, 108, 111, 115, 101]))]⟩,
⟨some 58, none, [], .bsv [.one, .one] 2 [[(.st []), (.st [])]] [(0, (.t 57))]⟩,
⟨some 59, none, [], .app 2 32 (.t 56) (.t 58)⟩,
⟨some 60, none, [], .call false .rw 21 [(.t 59)]⟩,
⟨some 53, none, [], .mov (.t 60)⟩,
⟨some 61, none, [], .ext (.t 53) 0⟩,
⟨some 62, none, [], .ext (.t 53) 1⟩,
⟨some 10, none, [], .alc [(.st []), (.st []), (.st []), (.st []), .ns, (.it .i64 0)]⟩,
⟨none, none, [], .sto 6 (.t 10) (.t 61)⟩,
⟨some 11, none, [], .mov (.t 62)⟩] [])
(.seq (.reg false [
⟨some 64, none, [], .call false .pure 20 [(.k (.st [58, 115, 116, 97, 116, 117, 115])), (.k (.st [50, 48, 48]))]⟩,
⟨some 65, none, [], .call false .pure 20 [(.k (.st [99, 111, 110, 116, 101, 110, 116, 45, 108, 101, 110, 103, 116, 104])), (.k (.st [53]))]⟩,
⟨some 66, none, [], .call false .pure 20 [(.k (.st [99, 111, 110, 116, 101, 110, 116, 45, 108, 101, 110, 103, 116, 104])), (.k (.st [53]))]⟩,
⟨some 67, none, [], .bsv [.one, .one] 2 [[(.st []), (.st [])], [(.st []), (.st [])], [(.st []), (.st [])]] [(0, (.t 64)), (1, (.t 65)), (2, (.t 66))]⟩,
⟨some 68, none, [], .call false .pure 22 [(.t 67)]⟩,
⟨some 63, none, [], .mov (.t 68)⟩,
⟨some 69, none, [], .ext (.t 63) 0⟩,
⟨some 70, none, [], .ext (.t 63) 1⟩,
⟨some 12, none, [], .alc [(.it .i64 0), .ns, (.it .i64 0)]⟩,
⟨none, none, [], .sto 3 (.t 12) (.t 69)⟩,
⟨some 13, none, [], .mov (.t 70)⟩] [])
(.seq (.reg false [
⟨some 72, none, [], .call false .pure 20 [(.k (.st [58, 115, 116, 97, 116, 117, 115])), (.k (.st [49, 48, 49]))]⟩,
⟨some 73, none, [], .bsv [.one, .one] 2 [[(.st []), (.st [])]] [(0, (.t 72))]⟩,
⟨some 74, none, [], .call false .pure 22 [(.t 73)]⟩,
⟨some 71, none, [], .mov (.t 74)⟩,
⟨some 75, none, [], .ext (.t 71) 0⟩,
⟨some 76, none, [], .ext (.t 71) 1⟩,
⟨some 14, none, [], .alc [(.it .i64 0), .ns, (.it .i64 0)]⟩,
⟨none, none, [], .sto 3 (.t 14) (.t 75)⟩,
⟨some 15, none, [], .mov (.t 76)⟩] [])
(.seq (.reg false [
⟨some 78, none, [], .call false .pure 20 [(.k (.st [58, 115, 116, 97, 116, 117, 115])), (.k (.st [50, 48, 48]))]⟩,
⟨some 79, none, [], .call false .pure 20 [(.k (.st [99, 111, 110, 116, 101, 110, 116, 45, 108, 101, 110, 103, 116, 104])), (.k (.st [53]))]⟩,
⟨some 80, none, [], .call false .pure 20 [(.k (.st [99, 111, 110, 116, 101, 110, 116, 45, 108, 101, 110, 103, 116, 104])), (.k (.st [54]))]⟩,
⟨some 81, none, [], .bsv [.one, .one] 2 [[(.st []), (.st [])], [(.st []), (.st [])], [(.st []), (.st [])]] [(0, (.t 78)), (1, (.t 79)), (2, (.t 80))]⟩,
⟨some 82, none, [], .call false .pure 22 [(.t 81)]⟩,
⟨some 77, none, [], .mov (.t 82)⟩,
⟨some 83, none, [], .ext (.t 77) 0⟩,
⟨some 84, none, [], .ext (.t 77) 1⟩,
⟨some 16, none, [], .alc [(.it .i64 0), .ns, (.it .i64 0)]⟩,
⟨none, none, [], .sto 3 (.t 16) (.t 83)⟩,
⟨some 17, none, [], .mov (.t 84)⟩] [])
(.seq (.reg true [
⟨some 85, none, [], .mov (.t 3)⟩,
⟨some 86, none, [], .mov (.t 85)⟩,
⟨some 87, some (86, true), [], .ld 6 true (.t 2)⟩,
⟨some 88, some (86, true), [], .mov (.t 1)⟩,
⟨some 89, some (86, true), [], .slc false 2 (.t 88) (some (.k (.it .i64 4))) none⟩,
⟨some 90, some (86, true), [], .bld [(.st []), (.st []), (.st []), (.st []), .ns, (.it .i64 0)] [(0, 1, (.k (.st [71, 69, 84]))), (1, 1, (.k (.st [104, 116, 116, 112, 115]))), (2, 1, (.k (.st [97]))), (3, 1, (.k (.st [47]))), (4, 1, (.t 89)), (5, 1, (.k (.it .i64 (-1))))]⟩,
⟨some 91, some (86, true), [], .call false .ro 23 [(.t 87), (.t 90)]⟩,
⟨some 92, none, [], .pick (.t 86) (.t 91) (.k (.bo false))⟩,
⟨some 93, none, [], .mov (.t 92)⟩,
⟨some 94, some (93, true), [], .mov (.t 5)⟩,
⟨some 95, some (93, true), [], .un .not (.t 94)⟩,
⟨some 96, none, [], .pick (.t 93) (.t 95) (.k (.bo false))⟩,
⟨some 97, none, [], .mov (.t 96)⟩,
⟨some 98, some (97, true), [], .mov (.t 7)⟩,
⟨some 99, some (97, true), [], .un .not (.t 98)⟩,
⟨some 100, none, [], .pick (.t 97) (.t 99) (.k (.bo false))⟩,
⟨some 101, none, [], .mov (.t 100)⟩,
⟨some 102, some (101, true), [], .mov (.t 9)⟩,
⟨some 103, some (101, true), [], .un .not (.t 102)⟩,
⟨some 104, none, [], .pick (.t 101) (.t 103) (.k (.bo false))⟩,
⟨some 105, none, [], .mov (.t 104)⟩,
⟨some 106, some (105, true), [], .mov (.t 11)⟩,
⟨some 107, some (105, true), [], .un .not (.t 106)⟩,
⟨some 108, none, [], .pick (.t 105) (.t 107) (.k (.bo false))⟩,
⟨some 109, none, [], .mov (.t 108)⟩,
⟨some 110, some (109, true), [], .mov (.t 13)⟩,
⟨some 111, none, [], .pick (.t 109) (.t 110) (.k (.bo false))⟩,
⟨some 112, none, [], .mov (.t 111)⟩,
⟨some 113, some (112, true), [], .fad 0 (.t 12)⟩,
⟨some 114, some (112, true), [], .ld 1 false (.t 113)⟩,
⟨some 115, some (112, true), [], .bin .no .eql (.t 114) (.k (.it .i64 200))⟩,
⟨some 116, none, [], .pick (.t 112) (.t 115) (.k (.bo false))⟩,
⟨some 117, none, [], .mov (.t 116)⟩,
⟨some 118, some (117, true), [], .fad 2 (.t 12)⟩,
⟨some 119, some (117, true), [], .ld 1 false (.t 118)⟩,
⟨some 120, some (117, true), [], .bin .no .eql (.t 119) (.k (.it .i64 5))⟩,
⟨some 121, none, [], .pick (.t 117) (.t 120) (.k (.bo false))⟩,
⟨some 122, none, [], .mov (.t 121)⟩,
⟨some 123, some (122, true), [], .fad 1 (.t 12)⟩,
⟨some 124, some (122, true), [], .ld 1 false (.t 123)⟩,
⟨some 125, some (122, true), [], .len false (.t 124)⟩,
⟨some 126, some (122, true), [], .bin .no .eql (.t 125) (.k (.it .i64 2))⟩,
⟨some 127, none, [], .pick (.t 122) (.t 126) (.k (.bo false))⟩,
⟨some 128, none, [], .mov (.t 127)⟩,
⟨some 129, some (128, true), [], .mov (.t 15)⟩,
⟨some 130, some (128, true), [], .un .not (.t 129)⟩,
⟨some 131, none, [], .pick (.t 128) (.t 130) (.k (.bo false))⟩,
⟨some 132, none, [], .mov (.t 131)⟩,
⟨some 133, some (132, true), [], .mov (.t 17)⟩,
⟨some 134, some (132, true), [], .un .not (.t 133)⟩,
⟨some 135, none, [], .pick (.t 132) (.t 134) (.k (.bo false))⟩,
⟨some 0, none, [], .mov (.t 135)⟩] [113, 118, 123])
.ret)))))))))))⟩
def c3 : Ev.Fn := d3.den
def p3 : Pol := { loc := [2, 4, 6, 8, 10, 12, 14, 16], md := .pure, mds := mds, heap := [36, 38, 47, 54, 56], own := [36, 38, 47, 54, 56], ord := [(2, [0, 5, 1, 2, 3, 4, 6, 7]), (3, [0, 1, 6, 2, 3, 4, 5, 7, 8]), (4, [1, 10, 0, 2, 3, 4, 5, 6, 7, 8, 9, 11, 12]), (5, [2, 8, 0, 1, 3, 4, 5, 6, 7, 9, 10]), (6, [1, 10, 0, 2, 3, 4, 5, 6, 7, 8, 9, 11, 12]), (7, [8, 0, 1, 2, 3, 4, 5, 6, 7, 9, 10]), (8, [6, 0, 1, 2, 3, 4, 5, 7, 8]), (9, [8, 0, 1, 2, 3, 4, 5, 6, 7, 9, 10])], clr := [(10, [113, 118, 123])], mask := [], fns := [], lcl := [] }
theorem r3 : FnOK Try.prog mds 3 c3 := .read (pol := p3) (d := d3) Try.func3 (by kernel_rfl) (by kernel_rfl) rfl rfl (by kernel_rfl)

/- reservoir/reservoirlaw15.MessageTells -/
def d7 : DFn := ⟨[(.c (.sl [.one, .one]))], [(.c .one)], .pure, [.tmp 2],
(.seq (.reg false [
⟨some 2, none, [], .mov (.k (.bo false))⟩] [])
(.seq (.seq (.reg false [
⟨some 16, none, [], .mov (.t 0)⟩,
⟨some 17, none, [], .call false .pure 24 [(.t 16)]⟩,
⟨some 18, none, [], .un .not (.t 17)⟩] [])
(.cond (.t 18)
(.seq (.reg false [
⟨some 19, none, [], .call false .pure 3 []⟩,
⟨some 2, none, [], .mov (.t 19)⟩] [])
.ret)
.skip))
(.seq (.reg false [
⟨some 20, none, [], .mov (.t 0)⟩,
⟨some 21, none, [], .call false .pure 20 [(.k (.st [109])), (.k (.st []))]⟩,
⟨some 22, none, [], .call false .pure 27 [(.t 20), (.t 21)]⟩,
⟨some 3, none, [], .mov (.t 22)⟩] [])
(.seq (.reg false [
⟨some 23, none, [], .mov (.t 3)⟩,
⟨some 24, none, [], .mov (.t 0)⟩,
⟨some 25, none, [], .len false (.t 24)⟩,
⟨some 26, none, [], .slc false 2 (.t 23) none (some (.t 25))⟩,
⟨some 4, none, [], .mov (.t 26)⟩] [])
(.seq (.reg false [
⟨some 28, none, [], .mov (.t 4)⟩,
⟨some 29, none, [], .call false .rw 21 [(.t 28)]⟩,
⟨some 27, none, [], .mov (.t 29)⟩,
⟨some 30, none, [], .ext (.t 27) 0⟩,
⟨some 31, none, [], .ext (.t 27) 1⟩,
⟨some 5, none, [], .alc [(.st []), (.st []), (.st []), (.st []), .ns, (.it .i64 0)]⟩,
⟨none, none, [], .sto 6 (.t 5) (.t 30)⟩,
⟨some 6, none, [], .mov (.t 31)⟩] [])
(.seq (.reg false [
⟨some 33, none, [], .mov (.t 4)⟩,
⟨some 34, none, [], .call false .pure 22 [(.t 33)]⟩,
⟨some 32, none, [], .mov (.t 34)⟩,
⟨some 35, none, [], .ext (.t 32) 0⟩,
⟨some 36, none, [], .ext (.t 32) 1⟩,
⟨some 7, none, [], .alc [(.it .i64 0), .ns, (.it .i64 0)]⟩,
⟨none, none, [], .sto 3 (.t 7) (.t 35)⟩,
⟨some 8, none, [], .mov (.t 36)⟩] [])
(.seq (.reg false [
⟨some 38, none, [], .mov (.t 0)⟩,
⟨some 39, none, [], .call false .pure 28 [(.t 38)]⟩,
⟨some 37, none, [], .mov (.t 39)⟩,
⟨some 40, none, [], .ext (.t 37) 0⟩,
⟨some 41, none, [], .ext (.t 37) 1⟩,
⟨some 9, none, [], .alc [(.st []), (.st []), (.st []), (.st []), .ns, (.it .i64 0)]⟩,
⟨none, none, [], .sto 6 (.t 9) (.t 40)⟩,
⟨some 10, none, [], .mov (.t 41)⟩] [])
(.seq (.reg false [
⟨some 43, none, [], .mov (.t 0)⟩,
⟨some 44, none, [], .call false .pure 29 [(.t 43)]⟩,
⟨some 42, none, [], .mov (.t 44)⟩,
⟨some 45, none, [], .ext (.t 42) 0⟩,
⟨some 46, none, [], .ext (.t 42) 1⟩,
⟨some 11, none, [], .alc [(.it .i64 0), .ns, (.it .i64 0)]⟩,
⟨none, none, [], .sto 3 (.t 11) (.t 45)⟩,
⟨some 12, none, [], .mov (.t 46)⟩] [])
(.seq (.reg false [
⟨some 48, none, [], .mov (.t 0)⟩,
⟨some 49, none, [], .call false .pure 30 [(.t 48)]⟩,
⟨some 47, none, [], .mov (.t 49)⟩,
⟨some 50, none, [], .ext (.t 47) 0⟩,
⟨some 51, none, [], .ext (.t 47) 1⟩,
⟨some 13, none, [], .mov (.t 50)⟩,
⟨some 14, none, [], .mov (.t 51)⟩] [])
(.seq (.seq (.reg false [
⟨some 52, none, [], .mov (.t 6)⟩,
⟨some 53, none, [], .mov (.t 10)⟩,
⟨some 54, none, [], .bin .bo .neq (.t 52) (.t 53)⟩,
⟨some 55, none, [], .mov (.t 54)⟩,
⟨some 56, some (55, false), [], .mov (.t 8)⟩,
⟨some 57, some (55, false), [], .mov (.t 12)⟩,
⟨some 58, some (55, false), [], .bin .bo .neq (.t 56) (.t 57)⟩,
⟨some 59, none, [], .pick (.t 55) (.k (.bo true)) (.t 58)⟩,
⟨some 60, none, [], .mov (.t 59)⟩,
⟨some 61, some (60, false), [], .ld 6 true (.t 5)⟩,
⟨some 62, some (60, false), [], .ld 6 true (.t 9)⟩,
⟨some 63, some (60, false), [], .call false .ro 23 [(.t 61), (.t 62)]⟩,
⟨some 64, some (60, false), [], .un .not (.t 63)⟩,
⟨some 65, none, [], .pick (.t 60) (.k (.bo true)) (.t 64)⟩,
⟨some 66, none, [], .mov (.t 65)⟩,
⟨some 67, some (66, false), [], .ld 3 true (.t 7)⟩,
⟨some 68, some (66, false), [], .ld 3 true (.t 11)⟩,
⟨some 69, some (66, false), [], .call false .ro 25 [(.t 67), (.t 68)]⟩,
⟨some 70, some (66, false), [], .un .not (.t 69)⟩,
⟨some 71, none, [], .pick (.t 66) (.k (.bo true)) (.t 70)⟩,
⟨some 72, none, [], .mov (.t 71)⟩,
⟨some 73, some (72, false), [], .mov (.t 4)⟩,
⟨some 74, some (72, false), [], .call false .pure 31 [(.t 73)]⟩,
⟨some 75, some (72, false), [], .mov (.t 13)⟩,
⟨some 76, some (72, false), [], .bin .no .eql (.t 75) (.k (.it .i64 0))⟩,
⟨some 77, some (72, false), [], .mov (.t 76)⟩,
⟨some 78, some (77, true), [], .mov (.t 0)⟩,
⟨some 79, some (77, true), [], .call false .pure 32 [(.t 78)]⟩,
⟨some 80, some (72, false), [], .pick (.t 77) (.t 79) (.k (.bo false))⟩,
⟨some 81, some (72, false), [], .bin .bo .neq (.t 74) (.t 80)⟩,
⟨some 82, none, [], .pick (.t 72) (.k (.bo true)) (.t 81)⟩] [])
(.cond (.t 82)
(.seq (.reg false [
⟨some 2, none, [], .mov (.k (.bo false))⟩] [])
.ret)
.skip))
(.seq (.seq (.reg false [
⟨some 15, none, [], .mov (.k (.it .i64 0))⟩] [])
(.blk 0 (.loop [0, 3, 5, 15] [7, 9, 11]
(.seq (.seq (.reg false [
⟨some 83, none, [], .mov (.t 15)⟩,
⟨some 84, none, [], .fad 4 (.t 5)⟩,
⟨some 85, none, [], .ld 1 false (.t 84)⟩,
⟨some 86, none, [], .len false (.t 85)⟩,
⟨some 87, none, [], .bin .no .lss (.t 83) (.t 86)⟩] [84])
(.cond (.t 87)
.skip
(.exit 0)))
(.seq (.blk 1 (.reg true [
⟨some 90, none, [], .fad 4 (.t 5)⟩,
⟨some 91, none, [], .ld 1 false (.t 90)⟩,
⟨some 92, none, [], .mov (.t 15)⟩,
⟨some 93, none, [], .call true .pure 20 [(.k (.st [116, 117, 114, 110, 101, 100])), (.k (.st []))]⟩,
⟨some 94, none, [], .ias 2 (.t 91) (.t 92)⟩,
⟨none, none, [], .sto 2 (.t 94) (.t 93)⟩] [90]))
(.reg false [
⟨some 88, none, [], .mov (.t 15)⟩,
⟨some 89, none, [], .bin .no .add (.t 88) (.k (.it .i64 1))⟩,
⟨some 15, none, [], .mov (.t 89)⟩] []))))))
(.seq (.reg false [
⟨some 95, none, [], .mov (.t 3)⟩,
⟨some 96, none, [], .mov (.t 0)⟩,
⟨some 97, none, [], .call false .pure 20 [(.k (.st [109])), (.k (.st []))]⟩,
⟨some 98, none, [], .call false .pure 33 [(.t 95), (.t 96), (.t 97)]⟩,
⟨some 99, none, [], .mov (.t 98)⟩,
⟨some 100, some (99, true), [], .call false .pure 3 []⟩,
⟨some 101, none, [], .pick (.t 99) (.t 100) (.k (.bo false))⟩,
⟨some 2, none, [], .mov (.t 101)⟩] [])
.ret))))))))))))⟩
def c7 : Ev.Fn := d7.den
def p7 : Pol := { loc := [5, 7, 9, 11], md := .pure, mds := mds, heap := [93], own := [93], ord := [(5, [0, 5, 1, 2, 3, 4, 6, 7]), (6, [0, 5, 1, 2, 3, 4, 6, 7]), (7, [0, 5, 1, 2, 3, 4, 6, 7]), (8, [0, 5, 1, 2, 3, 4, 6, 7]), (10, [0, 1, 2, 3, 4, 5, 6, 7, 8, 9, 10, 11, 12, 13, 14, 15, 16, 17, 18, 19, 20, 21, 23, 24, 22, 25, 26, 27, 28, 29, 30])], clr := [(13, [84]), (15, [90])], mask := [(13, [0, 3, 5, 15], [7, 9, 11])], fns := [], lcl := [] }
theorem r7 : FnOK Try.prog mds 7 c7 := .read (pol := p7) (d := d7) Try.func7 (by kernel_rfl) (by kernel_rfl) rfl rfl (by kernel_rfl)

/- reservoir/reservoirlaw22.MergeRuns -/
def d13 : DFn := ⟨[], [(.c .one)], .pure, [.tmp 0],
(.seq (.reg false [
⟨some 0, none, [], .mov (.k (.bo false))⟩] [])
(.seq (.reg false [
⟨some 7, none, [], .call false .pure 47 [(.k (.st [101, 116, 97, 103])), (.k (.st [34, 120, 34]))]⟩,
⟨some 8, none, [], .bsv [.one, .one] 2 [[(.st []), (.st [])]] [(0, (.t 7))]⟩,
⟨some 9, none, [], .call false .pure 46 [(.t 8)]⟩,
⟨some 10, none, [], .call false .pure 47 [(.k (.st [105, 102, 45, 110, 111, 110, 101, 45, 109, 97, 116, 99, 104])), (.k (.st [34, 121, 34]))]⟩,
⟨some 11, none, [], .call false .pure 47 [(.k (.st [97])), (.k (.st [98]))]⟩,
⟨some 12, none, [], .bsv [.one, .one] 2 [[(.st []), (.st [])], [(.st []), (.st [])]] [(0, (.t 10)), (1, (.t 11))]⟩,
⟨some 13, none, [], .bld [(.st []), (.st []), (.st []), (.st []), .ns, (.it .i64 0)] [(4, 1, (.t 12))]⟩,
⟨some 14, none, [], .call false .pure 45 [(.t 9), (.t 13)]⟩,
⟨some 6, none, [], .mov (.t 14)⟩,
⟨some 15, none, [], .ext (.t 6) 0⟩,
⟨some 16, none, [], .ext (.t 6) 1⟩,
⟨some 1, none, [], .alc [(.st []), (.st []), (.st []), (.st []), .ns, (.it .i64 0)]⟩,
⟨none, none, [], .sto 6 (.t 1) (.t 15)⟩,
⟨some 2, none, [], .mov (.t 16)⟩] [])
(.seq (.reg false [
⟨some 17, none, [], .call false .pure 47 [(.k (.st [100, 97, 116, 101])), (.k (.st [49]))]⟩,
⟨some 18, none, [], .call false .pure 47 [(.k (.st [97, 103, 101])), (.k (.st [53]))]⟩,
⟨some 19, none, [], .call false .pure 47 [(.k (.st [99, 111, 110, 116, 101, 110, 116, 45, 116, 121, 112, 101])), (.k (.st [116]))]⟩,
⟨some 20, none, [], .bsv [.one, .one] 2 [[(.st []), (.st [])], [(.st []), (.st [])], [(.st []), (.st [])]] [(0, (.t 17)), (1, (.t 18)), (2, (.t 19))]⟩,
⟨some 21, none, [], .call false .pure 46 [(.t 20)]⟩,
⟨some 22, none, [], .call false .pure 47 [(.k (.st [100, 97, 116, 101])), (.k (.st [50]))]⟩,
⟨some 23, none, [], .call false .pure 47 [(.k (.st [99, 111, 110, 116, 101, 110, 116, 45, 116, 121, 112, 101])), (.k (.st [117]))]⟩,
⟨some 24, none, [], .bsv [.one, .one] 2 [[(.st []), (.st [])], [(.st []), (.st [])]] [(0, (.t 22)), (1, (.t 23))]⟩,
⟨some 25, none, [], .bld [(.it .i64 0), .ns, (.it .i64 0)] [(1, 1, (.t 24))]⟩,
⟨some 26, none, [], .call false .rw 48 [(.t 21), (.t 25), (.k (.it .i64 3)), (.k (.it .i64 4))]⟩,
⟨some 3, none, [], .alc [(.st []), (.st []), (.st []), (.st []), .ns, (.it .i64 0), (.it .i64 0), .ns, (.it .i64 0), (.st []), (.it .i64 0), (.it .i64 0)]⟩,
⟨none, none, [], .sto 12 (.t 3) (.t 26)⟩] [])
(.seq (.reg false [
⟨some 27, none, [], .bld [(.st []), (.st []), (.st []), (.st []), .ns, (.it .i64 0)] [(0, 1, (.k (.st [80, 79, 83, 84])))]⟩,
⟨some 28, none, [], .bld [(.it .i64 0), .ns, (.it .i64 0)] [(0, 1, (.k (.it .i64 201)))]⟩,
⟨some 29, none, [], .call false .pure 49 [(.t 27), (.t 28)]⟩,
⟨some 30, none, [], .mov (.t 29)⟩,
⟨some 31, some (30, true), [], .bld [(.st []), (.st []), (.st []), (.st []), .ns, (.it .i64 0)] [(0, 1, (.k (.st [71, 69, 84])))]⟩,
⟨some 32, some (30, true), [], .bld [(.it .i64 0), .ns, (.it .i64 0)] [(0, 1, (.k (.it .i64 200)))]⟩,
⟨some 33, some (30, true), [], .call false .pure 49 [(.t 31), (.t 32)]⟩,
⟨some 34, some (30, true), [], .un .not (.t 33)⟩,
⟨some 35, none, [], .pick (.t 30) (.t 34) (.k (.bo false))⟩,
⟨some 36, none, [], .mov (.t 35)⟩,
⟨some 37, some (36, true), [], .bld [(.st []), (.st []), (.st []), (.st []), .ns, (.it .i64 0)] [(0, 1, (.k (.st [68, 69, 76, 69, 84, 69])))]⟩,
⟨some 38, some (36, true), [], .bld [(.it .i64 0), .ns, (.it .i64 0)] [(0, 1, (.k (.it .i64 404)))]⟩,
⟨some 39, some (36, true), [], .call false .pure 49 [(.t 37), (.t 38)]⟩,
⟨some 40, some (36, true), [], .un .not (.t 39)⟩,
⟨some 41, none, [], .pick (.t 36) (.t 40) (.k (.bo false))⟩,
⟨some 4, none, [], .mov (.t 41)⟩] [])
(.seq (.reg false [
⟨some 42, none, [], .call false .pure 47 [(.k (.st [101, 116, 97, 103])), (.k (.st [34, 120, 34]))]⟩,
⟨some 43, none, [], .bsv [.one, .one] 2 [[(.st []), (.st [])]] [(0, (.t 42))]⟩,
⟨some 44, none, [], .call false .pure 46 [(.t 43)]⟩,
⟨some 45, none, [], .call false .pure 47 [(.k (.st [105, 102, 45, 110, 111, 110, 101, 45, 109, 97, 116, 99, 104])), (.k (.st [87, 47, 34, 120, 34, 44, 32, 34, 121, 34]))]⟩,
⟨some 46, none, [], .bsv [.one, .one] 2 [[(.st []), (.st [])]] [(0, (.t 45))]⟩,
⟨some 47, none, [], .bld [(.st []), (.st []), (.st []), (.st []), .ns, (.it .i64 0)] [(4, 1, (.t 46))]⟩,
⟨some 48, none, [], .call false .pure 50 [(.t 44), (.t 47)]⟩,
⟨some 5, none, [], .mov (.t 48)⟩] [])
(.seq (.reg true [
⟨some 49, none, [], .mov (.t 2)⟩,
⟨some 50, none, [], .mov (.t 49)⟩,
⟨some 51, some (50, true), [], .fad 4 (.t 1)⟩,
⟨some 52, some (50, true), [], .ld 1 false (.t 51)⟩,
⟨some 53, some (50, true), [], .call false .pure 47 [(.k (.st [97])), (.k (.st [98]))]⟩,
⟨some 54, some (50, true), [], .call false .pure 47 [(.k (.st [105, 102, 45, 110, 111, 110, 101, 45, 109, 97, 116, 99, 104])), (.k (.st [34, 120, 34]))]⟩,
⟨some 55, some (50, true), [], .bsv [.one, .one] 2 [[(.st []), (.st [])], [(.st []), (.st [])]] [(0, (.t 53)), (1, (.t 54))]⟩,
⟨some 56, some (50, true), [], .call false .ro 51 [(.t 52), (.t 55)]⟩,
⟨some 57, none, [], .pick (.t 50) (.t 56) (.k (.bo false))⟩,
⟨some 58, none, [], .mov (.t 57)⟩,
⟨some 59, some (58, true), [], .fad 6 (.t 3)⟩,
⟨some 60, some (58, true), [], .fad 1 (.t 59)⟩,
⟨some 61, some (58, true), [], .ld 1 false (.t 60)⟩,
⟨some 62, some (58, true), [], .call false .pure 47 [(.k (.st [99, 111, 110, 116, 101, 110, 116, 45, 116, 121, 112, 101])), (.k (.st [116]))]⟩,
⟨some 63, some (58, true), [], .call false .pure 47 [(.k (.st [100, 97, 116, 101])), (.k (.st [50]))]⟩,
⟨some 64, some (58, true), [], .bsv [.one, .one] 2 [[(.st []), (.st [])], [(.st []), (.st [])]] [(0, (.t 62)), (1, (.t 63))]⟩,
⟨some 65, some (58, true), [], .call false .ro 51 [(.t 61), (.t 64)]⟩,
⟨some 66, none, [], .pick (.t 58) (.t 65) (.k (.bo false))⟩,
⟨some 67, none, [], .mov (.t 66)⟩,
⟨some 68, some (67, true), [], .fad 10 (.t 3)⟩,
⟨some 69, some (67, true), [], .ld 1 false (.t 68)⟩,
⟨some 70, some (67, true), [], .bin .no .eql (.t 69) (.k (.it .i64 3))⟩,
⟨some 71, none, [], .pick (.t 67) (.t 70) (.k (.bo false))⟩,
⟨some 72, none, [], .mov (.t 71)⟩,
⟨some 73, some (72, true), [], .fad 11 (.t 3)⟩,
⟨some 74, some (72, true), [], .ld 1 false (.t 73)⟩,
⟨some 75, some (72, true), [], .bin .no .eql (.t 74) (.k (.it .i64 4))⟩,
⟨some 76, none, [], .pick (.t 72) (.t 75) (.k (.bo false))⟩,
⟨some 77, none, [], .mov (.t 76)⟩,
⟨some 78, some (77, true), [], .mov (.t 4)⟩,
⟨some 79, none, [], .pick (.t 77) (.t 78) (.k (.bo false))⟩,
⟨some 80, none, [], .mov (.t 79)⟩,
⟨some 81, some (80, true), [], .mov (.t 5)⟩,
⟨some 82, none, [], .pick (.t 80) (.t 81) (.k (.bo false))⟩,
⟨some 0, none, [], .mov (.t 82)⟩] [51, 59, 60, 68, 73])
.ret))))))⟩
def c13 : Ev.Fn := d13.den
def p13 : Pol := { loc := [1, 3], md := .pure, mds := mds, heap := [], own := [], ord := [(1, [11, 0, 1, 2, 3, 4, 5, 6, 7, 8, 9, 10, 12, 13]), (2, [10, 0, 1, 2, 3, 4, 5, 6, 7, 8, 9, 11])], clr := [(5, [51, 59, 60, 68, 73])], mask := [], fns := [], lcl := [] }
theorem r13 : FnOK Try.prog mds 13 c13 := .read (pol := p13) (d := d13) Try.func13 (by kernel_rfl) (by kernel_rfl) rfl rfl (by kernel_rfl)

/- reservoir/reservoirlaw22.MergeTells -/
def d14 : DFn := ⟨[(.g [.one, .one, .one, .one, (.sl [.one, .one]), .one, .one, (.sl [.one, .one]), .one, .one, .one, .one]), (.g [.one, .one, .one, .one, (.sl [.one, .one]), .one]), (.g [.one, (.sl [.one, .one]), .one]), (.c .one), (.c .one)], [(.c .one)], .pure, [.tmp 10],
(.seq (.reg false [
⟨some 5, none, [], .box (.t 0)⟩,
⟨some 6, none, [], .box (.t 1)⟩,
⟨some 7, none, [], .box (.t 2)⟩,
⟨some 10, none, [], .mov (.k (.bo false))⟩] [])
(.seq (.seq (.reg false [
⟨some 19, none, [], .ld 12 true (.t 5)⟩,
⟨some 20, none, [], .ld 6 true (.t 6)⟩,
⟨some 21, none, [], .fad 1 (.t 7)⟩,
⟨some 22, none, [], .ld 1 false (.t 21)⟩,
⟨some 23, none, [], .call false .pure 52 [(.t 19), (.t 20), (.t 22)]⟩,
⟨some 24, none, [], .un .not (.t 23)⟩] [21])
(.cond (.t 24)
(.seq (.reg false [
⟨some 25, none, [], .call false .pure 13 []⟩,
⟨some 10, none, [], .mov (.t 25)⟩] [])
.ret)
.skip))
(.seq (.reg true [
⟨some 26, none, [], .fad 6 (.t 5)⟩,
⟨some 27, none, [], .fad 1 (.t 26)⟩,
⟨some 28, none, [], .ld 1 false (.t 27)⟩,
⟨some 29, none, [], .call false .pure 47 [(.k (.st [109])), (.k (.st []))]⟩,
⟨some 30, none, [], .call false .pure 27 [(.t 28), (.t 29)]⟩,
⟨some 11, none, [], .mov (.t 30)⟩] [26, 27])
(.seq (.reg false [
⟨some 31, none, [], .ld 12 true (.t 5)⟩,
⟨some 12, none, [], .alc [(.st []), (.st []), (.st []), (.st []), .ns, (.it .i64 0), (.it .i64 0), .ns, (.it .i64 0), (.st []), (.it .i64 0), (.it .i64 0)]⟩,
⟨none, none, [], .sto 12 (.t 12) (.t 31)⟩] [])
(.seq (.reg false [
⟨some 32, none, [], .mov (.t 11)⟩,
⟨some 33, none, [], .fad 6 (.t 5)⟩,
⟨some 34, none, [], .fad 1 (.t 33)⟩,
⟨some 35, none, [], .ld 1 false (.t 34)⟩,
⟨some 36, none, [], .len false (.t 35)⟩,
⟨some 37, none, [], .slc false 2 (.t 32) none (some (.t 36))⟩,
⟨some 38, none, [], .fad 6 (.t 12)⟩,
⟨some 39, none, [], .fad 1 (.t 38)⟩,
⟨none, none, [], .sto 1 (.t 39) (.t 37)⟩] [33, 34, 38, 39])
(.seq (.reg false [
⟨some 41, none, [], .ld 12 true (.t 12)⟩,
⟨some 42, none, [], .ld 6 true (.t 6)⟩,
⟨some 43, none, [], .call false .pure 45 [(.t 41), (.t 42)]⟩,
⟨some 40, none, [], .mov (.t 43)⟩,
⟨some 44, none, [], .ext (.t 40) 0⟩,
⟨some 45, none, [], .ext (.t 40) 1⟩,
⟨some 13, none, [], .alc [(.st []), (.st []), (.st []), (.st []), .ns, (.it .i64 0)]⟩,
⟨none, none, [], .sto 6 (.t 13) (.t 44)⟩,
⟨some 14, none, [], .mov (.t 45)⟩] [])
(.seq (.reg false [
⟨some 47, none, [], .ld 12 true (.t 5)⟩,
⟨some 48, none, [], .ld 6 true (.t 6)⟩,
⟨some 49, none, [], .call false .pure 53 [(.t 47), (.t 48)]⟩,
⟨some 46, none, [], .mov (.t 49)⟩,
⟨some 50, none, [], .ext (.t 46) 0⟩,
⟨some 51, none, [], .ext (.t 46) 1⟩,
⟨some 15, none, [], .alc [(.st []), (.st []), (.st []), (.st []), .ns, (.it .i64 0)]⟩,
⟨none, none, [], .sto 6 (.t 15) (.t 50)⟩,
⟨some 16, none, [], .mov (.t 51)⟩] [])
(.seq (.reg false [
⟨some 52, none, [], .ld 12 true (.t 12)⟩,
⟨some 53, none, [], .ld 3 true (.t 7)⟩,
⟨some 54, none, [], .mov (.t 3)⟩,
⟨some 55, none, [], .mov (.t 4)⟩,
⟨some 56, none, [], .call false .rw 48 [(.t 52), (.t 53), (.t 54), (.t 55)]⟩,
⟨some 17, none, [], .alc [(.st []), (.st []), (.st []), (.st []), .ns, (.it .i64 0), (.it .i64 0), .ns, (.it .i64 0), (.st []), (.it .i64 0), (.it .i64 0)]⟩,
⟨none, none, [], .sto 12 (.t 17) (.t 56)⟩] [])
(.seq (.seq (.reg true [
⟨some 57, none, [], .mov (.t 14)⟩,
⟨some 58, none, [], .mov (.t 16)⟩,
⟨some 59, none, [], .bin .bo .neq (.t 57) (.t 58)⟩,
⟨some 60, none, [], .mov (.t 59)⟩,
⟨some 61, some (60, false), [], .ld 6 true (.t 13)⟩,
⟨some 62, some (60, false), [], .ld 6 true (.t 15)⟩,
⟨some 63, some (60, false), [], .call false .ro 23 [(.t 61), (.t 62)]⟩,
⟨some 64, some (60, false), [], .un .not (.t 63)⟩,
⟨some 65, none, [], .pick (.t 60) (.k (.bo true)) (.t 64)⟩,
⟨some 66, none, [], .mov (.t 65)⟩,
⟨some 67, some (66, false), [], .ld 12 true (.t 17)⟩,
⟨some 68, some (66, false), [], .ld 12 true (.t 5)⟩,
⟨some 69, some (66, false), [], .ld 3 true (.t 7)⟩,
⟨some 70, some (66, false), [], .mov (.t 3)⟩,
⟨some 71, some (66, false), [], .mov (.t 4)⟩,
⟨some 72, some (66, false), [], .call false .pure 55 [(.t 68), (.t 69), (.t 70), (.t 71)]⟩,
⟨some 73, some (66, false), [], .call false .ro 54 [(.t 67), (.t 72)]⟩,
⟨some 74, some (66, false), [], .un .not (.t 73)⟩,
⟨some 75, none, [], .pick (.t 66) (.k (.bo true)) (.t 74)⟩,
⟨some 76, none, [], .mov (.t 75)⟩,
⟨some 77, some (76, false), [], .ld 6 true (.t 6)⟩,
⟨some 78, some (76, false), [], .ld 3 true (.t 7)⟩,
⟨some 80, some (76, false), [], .ld 6 true (.t 6)⟩,
⟨some 81, some (76, false), [], .ld 3 true (.t 7)⟩,
⟨some 79, some (76, false), [], .call false .pure 49 [(.t 77), (.t 78)]⟩,
⟨some 82, some (76, false), [], .call false .pure 56 [(.t 80), (.t 81)]⟩,
⟨some 83, some (76, false), [], .bin .bo .neq (.t 79) (.t 82)⟩,
⟨some 84, none, [], .pick (.t 76) (.k (.bo true)) (.t 83)⟩,
⟨some 85, none, [], .mov (.t 84)⟩,
⟨some 86, some (85, false), [], .ld 12 true (.t 12)⟩,
⟨some 87, some (85, false), [], .ld 6 true (.t 6)⟩,
⟨some 89, some (85, false), [], .ld 12 true (.t 5)⟩,
⟨some 90, some (85, false), [], .ld 6 true (.t 6)⟩,
⟨some 88, some (85, false), [], .call false .pure 50 [(.t 86), (.t 87)]⟩,
⟨some 91, some (85, false), [], .call false .pure 57 [(.t 89), (.t 90)]⟩,
⟨some 92, some (85, false), [], .bin .bo .neq (.t 88) (.t 91)⟩,
⟨some 93, none, [], .pick (.t 85) (.k (.bo true)) (.t 92)⟩] [])
(.cond (.t 93)
(.seq (.reg false [
⟨some 10, none, [], .mov (.k (.bo false))⟩] [])
.ret)
.skip))
(.seq (.seq (.reg false [
⟨some 18, none, [], .mov (.k (.it .i64 0))⟩] [])
(.blk 0 (.loop [5, 11, 17, 18] [6, 7, 12, 13, 15]
(.seq (.seq (.reg false [
⟨some 94, none, [], .mov (.t 18)⟩,
⟨some 95, none, [], .fad 6 (.t 17)⟩,
⟨some 96, none, [], .fad 1 (.t 95)⟩,
⟨some 97, none, [], .ld 1 false (.t 96)⟩,
⟨some 98, none, [], .len false (.t 97)⟩,
⟨some 99, none, [], .bin .no .lss (.t 94) (.t 98)⟩] [95, 96])
(.cond (.t 99)
.skip
(.exit 0)))
(.seq (.blk 1 (.reg true [
⟨some 102, none, [], .fad 6 (.t 17)⟩,
⟨some 103, none, [], .fad 1 (.t 102)⟩,
⟨some 104, none, [], .ld 1 false (.t 103)⟩,
⟨some 105, none, [], .mov (.t 18)⟩,
⟨some 106, none, [], .call true .pure 47 [(.k (.st [116, 117, 114, 110, 101, 100])), (.k (.st []))]⟩,
⟨some 107, none, [], .ias 2 (.t 104) (.t 105)⟩,
⟨none, none, [], .sto 2 (.t 107) (.t 106)⟩] [102, 103]))
(.reg false [
⟨some 100, none, [], .mov (.t 18)⟩,
⟨some 101, none, [], .bin .no .add (.t 100) (.k (.it .i64 1))⟩,
⟨some 18, none, [], .mov (.t 101)⟩] []))))))
(.seq (.reg true [
⟨some 108, none, [], .mov (.t 11)⟩,
⟨some 109, none, [], .fad 6 (.t 5)⟩,
⟨some 110, none, [], .fad 1 (.t 109)⟩,
⟨some 111, none, [], .ld 1 false (.t 110)⟩,
⟨some 112, none, [], .call false .pure 47 [(.k (.st [109])), (.k (.st []))]⟩,
⟨some 113, none, [], .call false .pure 33 [(.t 108), (.t 111), (.t 112)]⟩,
⟨some 114, none, [], .mov (.t 113)⟩,
⟨some 115, some (114, true), [], .call false .pure 13 []⟩,
⟨some 116, none, [], .pick (.t 114) (.t 115) (.k (.bo false))⟩,
⟨some 10, none, [], .mov (.t 116)⟩] [109, 110])
.ret)))))))))))⟩
def c14 : Ev.Fn := d14.den
def p14 : Pol := { loc := [5, 6, 7, 12, 13, 15, 17], md := .pure, mds := mds, heap := [106], own := [106], ord := [(0, [3, 0, 1, 2]), (6, [0, 1, 6, 2, 3, 4, 5, 7, 8]), (7, [0, 1, 6, 2, 3, 4, 5, 7, 8]), (8, [0, 1, 2, 3, 5, 4, 6]), (9, [0, 1, 2, 3, 4, 5, 6, 7, 8, 9, 10, 11, 12, 13, 14, 15, 16, 17, 18, 19, 20, 21, 23, 24, 22, 25, 26, 27, 28, 29, 30, 32, 33, 31, 34, 35, 36])], clr := [(1, [21]), (3, [26, 27]), (5, [33, 34, 38, 39]), (12, [95, 96]), (14, [102, 103]), (15, [109, 110])], mask := [(12, [5, 11, 17, 18], [6, 7, 12, 13, 15])], fns := [], lcl := [] }
theorem r14 : FnOK Try.prog mds 14 c14 := .read (pol := p14) (d := d14) Try.func14 (by kernel_rfl) (by kernel_rfl) rfl rfl (by kernel_rfl)

/- reservoir/reservoirlaw22.MergeTwice -/
def d15 : DFn := ⟨[(.g [.one, .one, .one, .one, (.sl [.one, .one]), .one, .one, (.sl [.one, .one]), .one, .one, .one, .one]), (.g [.one, (.sl [.one, .one]), .one]), (.c .one), (.c .one)], [(.c .one)], .pure, [.tmp 8],
(.seq (.reg false [
⟨some 4, none, [], .box (.t 0)⟩,
⟨some 5, none, [], .box (.t 1)⟩,
⟨some 8, none, [], .mov (.k (.bo false))⟩] [])
(.seq (.seq (.reg false [
⟨some 14, none, [], .ld 12 true (.t 4)⟩,
⟨some 15, none, [], .bld [(.st []), (.st []), (.st []), (.st []), .ns, (.it .i64 0)] []⟩,
⟨some 16, none, [], .fad 1 (.t 5)⟩,
⟨some 17, none, [], .ld 1 false (.t 16)⟩,
⟨some 18, none, [], .call false .pure 52 [(.t 14), (.t 15), (.t 17)]⟩,
⟨some 19, none, [], .un .not (.t 18)⟩] [16])
(.cond (.t 19)
(.seq (.reg false [
⟨some 20, none, [], .call false .pure 13 []⟩,
⟨some 8, none, [], .mov (.t 20)⟩] [])
.ret)
.skip))
(.seq (.reg false [
⟨some 21, none, [], .ld 12 true (.t 4)⟩,
⟨some 22, none, [], .ld 3 true (.t 5)⟩,
⟨some 23, none, [], .mov (.t 2)⟩,
⟨some 24, none, [], .mov (.t 3)⟩,
⟨some 25, none, [], .call false .rw 48 [(.t 21), (.t 22), (.t 23), (.t 24)]⟩,
⟨some 9, none, [], .alc [(.st []), (.st []), (.st []), (.st []), .ns, (.it .i64 0), (.it .i64 0), .ns, (.it .i64 0), (.st []), (.it .i64 0), (.it .i64 0)]⟩,
⟨none, none, [], .sto 12 (.t 9) (.t 25)⟩] [])
(.seq (.reg false [
⟨some 26, none, [], .ld 12 true (.t 9)⟩,
⟨some 27, none, [], .ld 3 true (.t 5)⟩,
⟨some 28, none, [], .mov (.t 2)⟩,
⟨some 29, none, [], .mov (.t 3)⟩,
⟨some 30, none, [], .call false .rw 48 [(.t 26), (.t 27), (.t 28), (.t 29)]⟩,
⟨some 10, none, [], .alc [(.st []), (.st []), (.st []), (.st []), .ns, (.it .i64 0), (.it .i64 0), .ns, (.it .i64 0), (.st []), (.it .i64 0), (.it .i64 0)]⟩,
⟨none, none, [], .sto 12 (.t 10) (.t 30)⟩] [])
(.seq (.reg false [
⟨some 31, none, [], .ld 12 true (.t 4)⟩,
⟨some 32, none, [], .bld [(.it .i64 0), .ns, (.it .i64 0)] [(0, 1, (.k (.it .i64 304)))]⟩,
⟨some 33, none, [], .mov (.t 2)⟩,
⟨some 34, none, [], .mov (.t 3)⟩,
⟨some 35, none, [], .call false .rw 48 [(.t 31), (.t 32), (.t 33), (.t 34)]⟩,
⟨some 11, none, [], .alc [(.st []), (.st []), (.st []), (.st []), .ns, (.it .i64 0), (.it .i64 0), .ns, (.it .i64 0), (.st []), (.it .i64 0), (.it .i64 0)]⟩,
⟨none, none, [], .sto 12 (.t 11) (.t 35)⟩] [])
(.seq (.reg false [
⟨some 12, none, [], .mov (.k .ns)⟩] [])
(.seq (.seq (.reg false [
⟨some 13, none, [], .mov (.k (.it .i64 0))⟩] [])
(.blk 0 (.loop [4, 9, 10, 11, 12, 13] [5]
(.seq (.seq (.reg false [
⟨some 36, none, [], .mov (.t 13)⟩,
⟨some 37, none, [], .fad 6 (.t 4)⟩,
⟨some 38, none, [], .fad 1 (.t 37)⟩,
⟨some 39, none, [], .ld 1 false (.t 38)⟩,
⟨some 40, none, [], .len false (.t 39)⟩,
⟨some 41, none, [], .bin .no .lss (.t 36) (.t 40)⟩] [37, 38])
(.cond (.t 41)
.skip
(.exit 0)))
(.seq (.blk 1 (.seq (.reg false [
⟨some 44, none, [], .fad 6 (.t 4)⟩,
⟨some 45, none, [], .fad 1 (.t 44)⟩,
⟨some 46, none, [], .ld 1 false (.t 45)⟩,
⟨some 47, none, [], .mov (.t 13)⟩,
⟨some 48, none, [], .ias 2 (.t 46) (.t 47)⟩,
⟨some 49, none, [], .fad 0 (.t 48)⟩,
⟨some 50, none, [], .ld 1 false (.t 49)⟩,
⟨some 51, none, [], .bin .no .neq (.t 50) (.k (.st [97, 103, 101]))⟩] [44, 45])
(.cond (.t 51)
(.reg false [
⟨some 52, none, [], .mov (.t 12)⟩,
⟨some 53, none, [], .fad 6 (.t 4)⟩,
⟨some 54, none, [], .fad 1 (.t 53)⟩,
⟨some 55, none, [], .ld 1 false (.t 54)⟩,
⟨some 56, none, [], .mov (.t 13)⟩,
⟨some 57, none, [], .ias 2 (.t 55) (.t 56)⟩,
⟨some 58, none, [], .ld 2 true (.t 57)⟩,
⟨some 59, none, [], .bsv [.one, .one] 2 [[(.st []), (.st [])]] [(0, (.t 58))]⟩,
⟨some 60, none, [], .app 2 32 (.t 52) (.t 59)⟩,
⟨some 12, none, [], .mov (.t 60)⟩] [53, 54])
.skip)))
(.reg false [
⟨some 42, none, [], .mov (.t 13)⟩,
⟨some 43, none, [], .bin .no .add (.t 42) (.k (.it .i64 1))⟩,
⟨some 13, none, [], .mov (.t 43)⟩] []))))))
(.seq (.reg false [
⟨some 61, none, [], .fad 6 (.t 9)⟩,
⟨some 62, none, [], .fad 1 (.t 61)⟩,
⟨some 63, none, [], .ld 1 false (.t 62)⟩,
⟨some 64, none, [], .fad 6 (.t 10)⟩,
⟨some 65, none, [], .fad 1 (.t 64)⟩,
⟨some 66, none, [], .ld 1 false (.t 65)⟩,
⟨some 67, none, [], .call false .pure 58 [(.t 63), (.t 66)]⟩,
⟨some 68, none, [], .mov (.t 67)⟩,
⟨some 69, some (68, true), [], .fad 6 (.t 11)⟩,
⟨some 70, some (68, true), [], .fad 1 (.t 69)⟩,
⟨some 71, some (68, true), [], .ld 1 false (.t 70)⟩,
⟨some 72, some (68, true), [], .mov (.t 12)⟩,
⟨some 73, some (68, true), [], .call false .ro 51 [(.t 71), (.t 72)]⟩,
⟨some 74, none, [], .pick (.t 68) (.t 73) (.k (.bo false))⟩,
⟨some 75, none, [], .mov (.t 74)⟩,
⟨some 76, some (75, true), [], .fad 9 (.t 9)⟩,
⟨some 77, some (75, true), [], .ld 1 false (.t 76)⟩,
⟨some 78, some (75, true), [], .fad 9 (.t 4)⟩,
⟨some 79, some (75, true), [], .ld 1 false (.t 78)⟩,
⟨some 80, some (75, true), [], .bin .no .eql (.t 77) (.t 79)⟩,
⟨some 81, none, [], .pick (.t 75) (.t 80) (.k (.bo false))⟩,
⟨some 82, none, [], .mov (.t 81)⟩,
⟨some 83, some (82, true), [], .fad 6 (.t 9)⟩,
⟨some 84, some (82, true), [], .fad 0 (.t 83)⟩,
⟨some 85, some (82, true), [], .ld 1 false (.t 84)⟩,
⟨some 86, some (82, true), [], .fad 6 (.t 4)⟩,
⟨some 87, some (82, true), [], .fad 0 (.t 86)⟩,
⟨some 88, some (82, true), [], .ld 1 false (.t 87)⟩,
⟨some 89, some (82, true), [], .bin .no .eql (.t 85) (.t 88)⟩,
⟨some 90, none, [], .pick (.t 82) (.t 89) (.k (.bo false))⟩,
⟨some 91, none, [], .mov (.t 90)⟩,
⟨some 92, some (91, true), [], .fad 0 (.t 9)⟩,
⟨some 93, some (91, true), [], .ld 6 true (.t 92)⟩,
⟨some 94, some (91, true), [], .fad 0 (.t 4)⟩,
⟨some 95, some (91, true), [], .ld 6 true (.t 94)⟩,
⟨some 96, some (91, true), [], .call false .ro 23 [(.t 93), (.t 95)]⟩,
⟨some 97, none, [], .pick (.t 91) (.t 96) (.k (.bo false))⟩,
⟨some 98, none, [], .mov (.t 97)⟩,
⟨some 99, some (98, true), [], .call false .pure 13 []⟩,
⟨some 100, none, [], .pick (.t 98) (.t 99) (.k (.bo false))⟩,
⟨some 8, none, [], .mov (.t 100)⟩] [61, 62, 64, 65, 69, 70, 76, 78, 83, 84, 86, 87, 92, 94])
.ret))))))))⟩
def c15 : Ev.Fn := d15.den
def p15 : Pol := { loc := [4, 5, 9, 10, 11], md := .pure, mds := mds, heap := [60], own := [60], ord := [(0, [2, 0, 1]), (3, [0, 1, 2, 3, 5, 4, 6]), (4, [0, 1, 2, 3, 5, 4, 6]), (5, [0, 1, 2, 3, 5, 4, 6])], clr := [(1, [16]), (8, [37, 38]), (10, [44, 45]), (11, [53, 54]), (12, [61, 62, 64, 65, 69, 70, 76, 78, 83, 84, 86, 87, 92, 94])], mask := [(8, [4, 9, 10, 11, 12, 13], [5])], fns := [], lcl := [] }
theorem r15 : FnOK Try.prog mds 15 c15 := .read (pol := p15) (d := d15) Try.func15 (by kernel_rfl) (by kernel_rfl) rfl rfl (by kernel_rfl)

/- reservoir/reservoirlaw22.MergeAsks -/
def d16 : DFn := ⟨[(.c .one), (.c .one), (.g [.one, .one, .one, .one, (.sl [.one, .one]), .one]), (.c .one)], [(.c .one)], .pure, [.tmp 8],
(.seq (.reg false [
⟨some 6, none, [], .box (.t 2)⟩,
⟨some 8, none, [], .mov (.k (.bo false))⟩] [])
(.seq (.seq (.reg false [
⟨some 18, none, [], .fad 4 (.t 6)⟩,
⟨some 19, none, [], .ld 1 false (.t 18)⟩,
⟨some 20, none, [], .call false .pure 40 [(.t 19)]⟩,
⟨some 21, none, [], .un .not (.t 20)⟩,
⟨some 22, none, [], .mov (.t 21)⟩,
⟨some 23, some (22, false), [], .mov (.t 0)⟩,
⟨some 24, some (22, false), [], .len true (.t 23)⟩,
⟨some 25, some (22, false), [], .bin .no .gtr (.t 24) (.k (.it .i64 60))⟩,
⟨some 26, none, [], .pick (.t 22) (.k (.bo true)) (.t 25)⟩] [18])
(.cond (.t 26)
(.seq (.reg false [
⟨some 27, none, [], .call false .pure 13 []⟩,
⟨some 8, none, [], .mov (.t 27)⟩] [])
.ret)
.skip))
(.seq (.seq (.reg false [
⟨some 9, none, [], .mov (.k (.it .i64 0))⟩] [])
(.blk 0 (.loop [0, 1, 6, 9] [11, 12]
(.seq (.seq (.reg false [
⟨some 28, none, [], .mov (.t 9)⟩,
⟨some 29, none, [], .mov (.t 0)⟩,
⟨some 30, none, [], .len true (.t 29)⟩,
⟨some 31, none, [], .bin .no .lss (.t 28) (.t 30)⟩] [])
(.cond (.t 31)
.skip
(.exit 0)))
(.seq (.blk 1 (.seq (.reg false [
⟨some 34, none, [], .mov (.t 0)⟩,
⟨some 35, none, [], .mov (.t 9)⟩,
⟨some 36, none, [], .ixs (.t 34) (.t 35)⟩,
⟨some 37, none, [], .bin .no .lss (.t 36) (.k (.it .u8 33))⟩,
⟨some 38, none, [], .mov (.t 37)⟩,
⟨some 39, some (38, false), [], .mov (.t 0)⟩,
⟨some 40, some (38, false), [], .mov (.t 9)⟩,
⟨some 41, some (38, false), [], .ixs (.t 39) (.t 40)⟩,
⟨some 42, some (38, false), [], .bin .no .gtr (.t 41) (.k (.it .u8 126))⟩,
⟨some 43, none, [], .pick (.t 38) (.k (.bo true)) (.t 42)⟩,
⟨some 44, none, [], .mov (.t 43)⟩,
⟨some 45, some (44, false), [], .mov (.t 0)⟩,
⟨some 46, some (44, false), [], .mov (.t 9)⟩,
⟨some 47, some (44, false), [], .ixs (.t 45) (.t 46)⟩,
⟨some 48, some (44, false), [], .bin .no .eql (.t 47) (.k (.it .u8 34))⟩,
⟨some 49, none, [], .pick (.t 44) (.k (.bo true)) (.t 48)⟩,
⟨some 50, none, [], .mov (.t 49)⟩,
⟨some 51, some (50, false), [], .mov (.t 0)⟩,
⟨some 52, some (50, false), [], .mov (.t 9)⟩,
⟨some 53, some (50, false), [], .ixs (.t 51) (.t 52)⟩,
⟨some 54, some (50, false), [], .bin .no .eql (.t 53) (.k (.it .u8 92))⟩,
⟨some 55, none, [], .pick (.t 50) (.k (.bo true)) (.t 54)⟩] [])
(.cond (.t 55)
(.seq (.reg false [
⟨some 56, none, [], .call false .pure 13 []⟩,
⟨some 8, none, [], .mov (.t 56)⟩] [])
.ret)
.skip)))
(.reg false [
⟨some 32, none, [], .mov (.t 9)⟩,
⟨some 33, none, [], .bin .no .add (.t 32) (.k (.it .i64 1))⟩,
⟨some 9, none, [], .mov (.t 33)⟩] []))))))
(.seq (.reg false [
⟨some 57, none, [], .mov (.t 0)⟩,
⟨some 58, none, [], .bin .no .add (.k (.st [34])) (.t 57)⟩,
⟨some 59, none, [], .bin .no .add (.t 58) (.k (.st [34]))⟩,
⟨some 10, none, [], .mov (.t 59)⟩] [])
(.seq (.seq (.reg false [
⟨some 60, none, [], .mov (.t 1)⟩] [])
(.cond (.t 60)
(.reg false [
⟨some 61, none, [], .mov (.t 10)⟩,
⟨some 62, none, [], .bin .no .add (.k (.st [87, 47])) (.t 61)⟩,
⟨some 10, none, [], .mov (.t 62)⟩] [])
.skip))
(.seq (.reg false [
⟨some 63, none, [], .call false .pure 47 [(.k (.st [97])), (.k (.st [98]))]⟩,
⟨some 64, none, [], .mov (.t 10)⟩,
⟨some 65, none, [], .call false .pure 47 [(.k (.st [101, 116, 97, 103])), (.t 64)]⟩,
⟨some 66, none, [], .bsv [.one, .one] 2 [[(.st []), (.st [])], [(.st []), (.st [])]] [(0, (.t 63)), (1, (.t 65))]⟩,
⟨some 67, none, [], .call false .pure 46 [(.t 66)]⟩,
⟨some 11, none, [], .alc [(.st []), (.st []), (.st []), (.st []), .ns, (.it .i64 0), (.it .i64 0), .ns, (.it .i64 0), (.st []), (.it .i64 0), (.it .i64 0)]⟩,
⟨none, none, [], .sto 12 (.t 11) (.t 67)⟩] [])
(.seq (.reg false [
⟨some 69, none, [], .ld 12 true (.t 11)⟩,
⟨some 70, none, [], .ld 6 true (.t 6)⟩,
⟨some 71, none, [], .call false .pure 45 [(.t 69), (.t 70)]⟩,
⟨some 68, none, [], .mov (.t 71)⟩,
⟨some 72, none, [], .ext (.t 68) 0⟩,
⟨some 73, none, [], .ext (.t 68) 1⟩,
⟨some 12, none, [], .alc [(.st []), (.st []), (.st []), (.st []), .ns, (.it .i64 0)]⟩,
⟨none, none, [], .sto 6 (.t 12) (.t 72)⟩,
⟨some 13, none, [], .mov (.t 73)⟩] [])
(.seq (.reg false [
⟨some 75, none, [], .fad 4 (.t 12)⟩,
⟨some 76, none, [], .ld 1 false (.t 75)⟩,
⟨some 77, none, [], .call false .pure 43 [(.t 76), (.k (.st [105, 102, 45, 110, 111, 110, 101, 45, 109, 97, 116, 99, 104]))]⟩,
⟨some 74, none, [], .mov (.t 77)⟩,
⟨some 78, none, [], .ext (.t 74) 0⟩,
⟨some 79, none, [], .ext (.t 74) 1⟩,
⟨some 14, none, [], .mov (.t 78)⟩,
⟨some 15, none, [], .mov (.t 79)⟩] [75])
(.seq (.reg false [
⟨some 81, none, [], .fad 4 (.t 12)⟩,
⟨some 82, none, [], .ld 1 false (.t 81)⟩,
⟨some 83, none, [], .call false .pure 43 [(.t 82), (.k (.st [114, 97, 110, 103, 101]))]⟩,
⟨some 80, none, [], .mov (.t 83)⟩,
⟨some 84, none, [], .ext (.t 80) 0⟩,
⟨some 85, none, [], .ext (.t 80) 1⟩,
⟨some 16, none, [], .mov (.t 84)⟩,
⟨some 17, none, [], .mov (.t 85)⟩] [81])
(.seq (.reg false [
⟨some 86, none, [], .mov (.t 13)⟩,
⟨some 87, none, [], .mov (.t 86)⟩,
⟨some 88, some (87, true), [], .mov (.t 15)⟩,
⟨some 89, some (87, true), [], .bin .no .eql (.t 88) (.k (.it .i64 1))⟩,
⟨some 90, none, [], .pick (.t 87) (.t 89) (.k (.bo false))⟩,
⟨some 91, none, [], .mov (.t 90)⟩,
⟨some 92, some (91, true), [], .mov (.t 17)⟩,
⟨some 93, some (91, true), [], .bin .no .eql (.t 92) (.k (.it .i64 0))⟩,
⟨some 94, none, [], .pick (.t 91) (.t 93) (.k (.bo false))⟩,
⟨some 95, none, [], .mov (.t 94)⟩,
⟨some 96, some (95, true), [], .ld 12 true (.t 11)⟩,
⟨some 97, some (95, true), [], .ld 6 true (.t 12)⟩,
⟨some 98, some (95, true), [], .call false .pure 50 [(.t 96), (.t 97)]⟩,
⟨some 99, none, [], .pick (.t 95) (.t 98) (.k (.bo false))⟩,
⟨some 100, none, [], .mov (.t 99)⟩,
⟨some 101, some (100, true), [], .fad 0 (.t 12)⟩,
⟨some 102, some (100, true), [], .ld 1 false (.t 101)⟩,
⟨some 103, some (100, true), [], .fad 0 (.t 6)⟩,
⟨some 104, some (100, true), [], .ld 1 false (.t 103)⟩,
⟨some 105, some (100, true), [], .bin .no .eql (.t 102) (.t 104)⟩,
⟨some 106, none, [], .pick (.t 100) (.t 105) (.k (.bo false))⟩,
⟨some 107, none, [], .mov (.t 106)⟩,
⟨some 108, some (107, true), [], .fad 3 (.t 12)⟩,
⟨some 109, some (107, true), [], .ld 1 false (.t 108)⟩,
⟨some 110, some (107, true), [], .fad 3 (.t 6)⟩,
⟨some 111, some (107, true), [], .ld 1 false (.t 110)⟩,
⟨some 112, some (107, true), [], .bin .no .eql (.t 109) (.t 111)⟩,
⟨some 113, none, [], .pick (.t 107) (.t 112) (.k (.bo false))⟩,
⟨some 114, none, [], .mov (.t 113)⟩,
⟨some 115, some (114, true), [], .call false .pure 13 []⟩,
⟨some 116, none, [], .pick (.t 114) (.t 115) (.k (.bo false))⟩,
⟨some 8, none, [], .mov (.t 116)⟩] [101, 103, 108, 110])
.ret))))))))))⟩
def c16 : Ev.Fn := d16.den
def p16 : Pol := { loc := [6, 11, 12], md := .pure, mds := mds, heap := [], own := [], ord := [(0, [1, 0]), (11, [1, 5, 0, 2, 3, 4, 6]), (12, [0, 1, 6, 2, 3, 4, 5, 7, 8])], clr := [(1, [18]), (13, [75]), (14, [81]), (15, [101, 103, 108, 110])], mask := [(4, [0, 1, 6, 9], [11, 12])], fns := [], lcl := [] }
theorem r16 : FnOK Try.prog mds 16 c16 := .read (pol := p16) (d := d16) Try.func16 (by kernel_rfl) (by kernel_rfl) rfl rfl (by kernel_rfl)

/- reservoir/reservoirlaw15.MessageHops -/
def d19 : DFn := ⟨[(.c (.sl [.one, .one]))], [(.c .one)], .pure, [.tmp 2],
(.seq (.reg false [
⟨some 2, none, [], .mov (.k (.bo false))⟩] [])
(.seq (.seq (.reg false [
⟨some 14, none, [], .mov (.t 0)⟩,
⟨some 15, none, [], .call false .pure 24 [(.t 14)]⟩,
⟨some 16, none, [], .un .not (.t 15)⟩] [])
(.cond (.t 16)
(.seq (.reg false [
⟨some 17, none, [], .call false .pure 3 []⟩,
⟨some 2, none, [], .mov (.t 17)⟩] [])
.ret)
.skip))
(.seq (.reg false [
⟨some 18, none, [], .bsl 1 (List.replicate 6 [(.st [])]) [(0, (.k (.st [99, 111, 110, 110, 101, 99, 116, 105, 111, 110]))), (1, (.k (.st [112, 114, 111, 120, 121, 45, 99, 111, 110, 110, 101, 99, 116, 105, 111, 110]))), (2, (.k (.st [107, 101, 101, 112, 45, 97, 108, 105, 118, 101]))), (3, (.k (.st [116, 114, 97, 110, 115, 102, 101, 114, 45, 101, 110, 99, 111, 100, 105, 110, 103]))), (4, (.k (.st [117, 112, 103, 114, 97, 100, 101]))), (5, (.k (.st [116, 101])))]⟩,
⟨some 3, none, [], .mov (.t 18)⟩] [])
(.seq (.reg false [
⟨some 20, none, [], .mov (.t 0)⟩,
⟨some 21, none, [], .call false .pure 43 [(.t 20), (.k (.st [99, 111, 110, 110, 101, 99, 116, 105, 111, 110]))]⟩,
⟨some 19, none, [], .mov (.t 21)⟩,
⟨some 22, none, [], .ext (.t 19) 0⟩,
⟨some 23, none, [], .ext (.t 19) 1⟩,
⟨some 4, none, [], .mov (.t 22)⟩,
⟨some 5, none, [], .mov (.t 23)⟩] [])
(.seq (.reg false [
⟨some 25, none, [], .mov (.t 4)⟩,
⟨some 26, none, [], .call false .pure 60 [(.t 25)]⟩,
⟨some 24, none, [], .mov (.t 26)⟩,
⟨some 27, none, [], .ext (.t 24) 0⟩,
⟨some 28, none, [], .ext (.t 24) 1⟩,
⟨some 6, none, [], .mov (.t 27)⟩,
⟨some 7, none, [], .mov (.t 28)⟩] [])
(.seq (.seq (.reg false [
⟨some 8, none, [], .mov (.k (.it .i64 0))⟩] [])
(.blk 0 (.loop [0, 3, 6, 8] []
(.seq (.seq (.reg false [
⟨some 29, none, [], .mov (.t 8)⟩,
⟨some 30, none, [], .mov (.t 6)⟩,
⟨some 31, none, [], .len false (.t 30)⟩,
⟨some 32, none, [], .bin .no .lss (.t 29) (.t 31)⟩] [])
(.cond (.t 32)
.skip
(.exit 0)))
(.seq (.blk 1 (.reg false [
⟨some 35, none, [], .mov (.t 3)⟩,
⟨some 36, none, [], .mov (.t 6)⟩,
⟨some 37, none, [], .mov (.t 8)⟩,
⟨some 38, none, [], .ias 1 (.t 36) (.t 37)⟩,
⟨some 39, none, [], .ld 1 false (.t 38)⟩,
⟨some 40, none, [], .call false .pure 61 [(.t 39)]⟩,
⟨some 41, none, [], .bsv [.one] 1 [[(.st [])]] [(0, (.t 40))]⟩,
⟨some 42, none, [], .app 1 16 (.t 35) (.t 41)⟩,
⟨some 3, none, [], .mov (.t 42)⟩] []))
(.reg false [
⟨some 33, none, [], .mov (.t 8)⟩,
⟨some 34, none, [], .bin .no .add (.t 33) (.k (.it .i64 1))⟩,
⟨some 8, none, [], .mov (.t 34)⟩] []))))))
(.seq (.reg false [
⟨some 9, none, [], .mov (.k .ns)⟩] [])
(.seq (.seq (.reg false [
⟨some 10, none, [], .mov (.k (.it .i64 0))⟩] [])
(.blk 2 (.loop [0, 3, 9, 10] []
(.seq (.seq (.reg false [
⟨some 43, none, [], .mov (.t 10)⟩,
⟨some 44, none, [], .mov (.t 0)⟩,
⟨some 45, none, [], .len false (.t 44)⟩,
⟨some 46, none, [], .bin .no .lss (.t 43) (.t 45)⟩] [])
(.cond (.t 46)
.skip
(.exit 2)))
(.seq (.blk 3 (.seq (.reg false [
⟨some 11, none, [], .mov (.k (.bo false))⟩] [])
(.seq (.seq (.reg false [
⟨some 12, none, [], .mov (.k (.it .i64 0))⟩] [])
(.blk 4 (.loop [0, 3, 9, 10, 11, 12] []
(.seq (.seq (.reg false [
⟨some 49, none, [], .mov (.t 12)⟩,
⟨some 50, none, [], .mov (.t 3)⟩,
⟨some 51, none, [], .len false (.t 50)⟩,
⟨some 52, none, [], .bin .no .lss (.t 49) (.t 51)⟩] [])
(.cond (.t 52)
.skip
(.exit 4)))
(.seq (.blk 5 (.reg true [
⟨some 55, none, [], .mov (.t 11)⟩,
⟨some 56, none, [], .mov (.t 55)⟩,
⟨some 57, some (56, false), [], .mov (.t 3)⟩,
⟨some 58, some (56, false), [], .mov (.t 12)⟩,
⟨some 59, some (56, false), [], .ias 1 (.t 57) (.t 58)⟩,
⟨some 60, some (56, false), [], .ld 1 false (.t 59)⟩,
⟨some 61, some (56, false), [], .mov (.t 0)⟩,
⟨some 62, some (56, false), [], .mov (.t 10)⟩,
⟨some 63, some (56, false), [], .ias 2 (.t 61) (.t 62)⟩,
⟨some 64, some (56, false), [], .fad 0 (.t 63)⟩,
⟨some 65, some (56, false), [], .ld 1 false (.t 64)⟩,
⟨some 66, some (56, false), [], .bin .no .eql (.t 60) (.t 65)⟩,
⟨some 67, none, [], .pick (.t 56) (.k (.bo true)) (.t 66)⟩,
⟨some 11, none, [], .mov (.t 67)⟩] []))
(.reg false [
⟨some 53, none, [], .mov (.t 12)⟩,
⟨some 54, none, [], .bin .no .add (.t 53) (.k (.it .i64 1))⟩,
⟨some 12, none, [], .mov (.t 54)⟩] []))))))
(.seq (.reg false [
⟨some 68, none, [], .mov (.t 11)⟩,
⟨some 69, none, [], .un .not (.t 68)⟩] [])
(.cond (.t 69)
(.reg false [
⟨some 70, none, [], .mov (.t 9)⟩,
⟨some 71, none, [], .mov (.t 0)⟩,
⟨some 72, none, [], .mov (.t 10)⟩,
⟨some 73, none, [], .ias 2 (.t 71) (.t 72)⟩,
⟨some 74, none, [], .ld 2 true (.t 73)⟩,
⟨some 75, none, [], .bsv [.one, .one] 2 [[(.st []), (.st [])]] [(0, (.t 74))]⟩,
⟨some 76, none, [], .app 2 32 (.t 70) (.t 75)⟩,
⟨some 9, none, [], .mov (.t 76)⟩] [])
.skip)))))
(.reg false [
⟨some 47, none, [], .mov (.t 10)⟩,
⟨some 48, none, [], .bin .no .add (.t 47) (.k (.it .i64 1))⟩,
⟨some 10, none, [], .mov (.t 48)⟩] []))))))
(.seq (.reg false [
⟨some 77, none, [], .mov (.t 0)⟩,
⟨some 78, none, [], .call false .pure 62 [(.t 77)]⟩,
⟨some 13, none, [], .mov (.t 78)⟩] [])
(.seq (.reg false [
⟨some 79, none, [], .mov (.t 13)⟩,
⟨some 80, none, [], .mov (.t 9)⟩,
⟨some 81, none, [], .call false .ro 51 [(.t 79), (.t 80)]⟩,
⟨some 82, none, [], .mov (.t 81)⟩,
⟨some 83, some (82, true), [], .mov (.t 13)⟩,
⟨some 84, some (82, true), [], .call false .pure 62 [(.t 83)]⟩,
⟨some 85, some (82, true), [], .mov (.t 13)⟩,
⟨some 86, some (82, true), [], .call false .ro 51 [(.t 84), (.t 85)]⟩,
⟨some 87, none, [], .pick (.t 82) (.t 86) (.k (.bo false))⟩,
⟨some 88, none, [], .mov (.t 87)⟩,
⟨some 89, some (88, true), [], .call false .pure 3 []⟩,
⟨some 90, none, [], .pick (.t 88) (.t 89) (.k (.bo false))⟩,
⟨some 2, none, [], .mov (.t 90)⟩] [])
.ret))))))))))⟩
def c19 : Ev.Fn := d19.den
def p19 : Pol := { loc := [], md := .pure, mds := mds, heap := [18, 42, 76], own := [18, 42, 76], ord := [(22, [0, 1, 2, 3, 4, 6, 5, 7, 8, 9, 10, 11, 12])], clr := [], mask := [(7, [0, 3, 6, 8], []), (12, [0, 3, 9, 10], []), (16, [0, 3, 9, 10, 11, 12], [])], fns := [], lcl := [] }
theorem r19 : FnOK Try.prog mds 19 c19 := .read (pol := p19) (d := d19) Try.func19 (by kernel_rfl) (by kernel_rfl) rfl rfl (by kernel_rfl)

/- reservoir/reservoirlaw15.of -/
def d20 : DFn := ⟨[(.c .one), (.c .one)], [(.g [.one, .one])], .pure, [.cell 4 2 true],
(.seq (.reg false [
⟨some 4, none, [], .alc [(.st []), (.st [])]⟩] [])
(.seq (.reg false [
⟨some 5, none, [], .mov (.t 0)⟩,
⟨some 6, none, [], .mov (.t 1)⟩,
⟨some 7, none, [], .bld [(.st []), (.st [])] [(0, 1, (.t 5)), (1, 1, (.t 6))]⟩,
⟨none, none, [], .sto 2 (.t 4) (.t 7)⟩] [])
.ret))⟩
def c20 : Ev.Fn := d20.den
def p20 : Pol := { loc := [4], md := .pure, mds := mds, heap := [], own := [], ord := [], clr := [], mask := [], fns := [], lcl := [] }
theorem r20 : FnOK Try.prog mds 20 c20 := .read (pol := p20) (d := d20) Try.func20 (by kernel_rfl) (by kernel_rfl) rfl rfl (by kernel_rfl)

/- reservoir/message.Request -/
def d21 : DFn := ⟨[(.c (.sl [.one, .one]))], [(.g [.one, .one, .one, .one, (.sl [.one, .one]), .one]), (.c .one)], .rw, [.cell 2 6 true, .tmp 3],
(.seq (.reg false [
⟨some 2, none, [], .alc [(.st []), (.st []), (.st []), (.st []), .ns, (.it .i64 0)]⟩,
⟨some 3, none, [], .mov (.k (.bo false))⟩] [])
(.seq (.reg false [
⟨some 4, none, [], .mov (.k (.it .i64 0))⟩] [])
(.seq (.blk 0 (.loop [0, 2, 4] []
(.seq (.seq (.reg false [
⟨some 9, none, [], .mov (.t 4)⟩,
⟨some 10, none, [], .mov (.t 0)⟩,
⟨some 11, none, [], .len false (.t 10)⟩,
⟨some 12, none, [], .bin .no .lss (.t 9) (.t 11)⟩,
⟨some 13, none, [], .mov (.t 12)⟩,
⟨some 14, some (13, true), [], .mov (.t 0)⟩,
⟨some 15, some (13, true), [], .mov (.t 4)⟩,
⟨some 16, some (13, true), [], .ias 2 (.t 14) (.t 15)⟩,
⟨some 17, some (13, true), [], .ld 2 true (.t 16)⟩,
⟨some 18, some (13, true), [], .call false .pure 63 [(.t 17)]⟩,
⟨some 19, none, [], .pick (.t 13) (.t 18) (.k (.bo false))⟩] [])
(.cond (.t 19)
.skip
(.exit 0)))
(.blk 1 (.reg false [
⟨some 20, none, [], .mov (.t 4)⟩,
⟨some 21, none, [], .bin .no .add (.t 20) (.k (.it .i64 1))⟩,
⟨some 4, none, [], .mov (.t 21)⟩] [])))))
(.seq (.reg false [
⟨some 5, none, [], .alh [(.st []), (.st []), (.st []), (.st []), .ns, (.it .i64 0)]⟩] [])
(.seq (.seq (.reg false [
⟨some 22, none, [], .mov (.t 0)⟩,
⟨some 23, none, [], .mov (.t 4)⟩,
⟨some 24, none, [], .slc false 2 (.t 22) none (some (.t 23))⟩,
⟨some 25, none, [], .call false .rw 64 [(.t 24), (.t 5)]⟩,
⟨some 26, none, [], .un .not (.t 25)⟩,
⟨some 27, none, [], .mov (.t 26)⟩,
⟨some 28, some (27, false), [], .ld 6 true (.t 5)⟩,
⟨some 29, some (27, false), [], .call false .pure 65 [(.t 28)]⟩,
⟨some 30, some (27, false), [], .un .not (.t 29)⟩,
⟨some 31, none, [], .pick (.t 27) (.k (.bo true)) (.t 30)⟩] [])
(.cond (.t 31)
(.seq (.reg false [
⟨some 32, none, [], .bld [(.st []), (.st []), (.st []), (.st []), .ns, (.it .i64 0)] []⟩,
⟨none, none, [], .sto 6 (.t 2) (.t 32)⟩,
⟨some 3, none, [], .mov (.k (.bo false))⟩] [])
.ret)
.skip))
(.seq (.reg false [
⟨some 34, none, [], .mov (.t 0)⟩,
⟨some 35, none, [], .mov (.t 4)⟩,
⟨some 36, none, [], .slc false 2 (.t 34) (some (.t 35)) none⟩,
⟨some 37, none, [], .call true .rw 66 [(.t 36)]⟩,
⟨some 33, none, [], .mov (.t 37)⟩,
⟨some 38, none, [], .ext (.t 33) 0⟩,
⟨some 39, none, [], .ext (.t 33) 1⟩,
⟨some 40, none, [], .ext (.t 33) 2⟩,
⟨some 6, none, [], .mov (.t 38)⟩,
⟨some 7, none, [], .mov (.t 39)⟩,
⟨some 8, none, [], .mov (.t 40)⟩] [])
(.seq (.seq (.reg false [
⟨some 41, none, [], .mov (.t 8)⟩,
⟨some 42, none, [], .un .not (.t 41)⟩] [])
(.cond (.t 42)
(.seq (.reg false [
⟨some 43, none, [], .bld [(.st []), (.st []), (.st []), (.st []), .ns, (.it .i64 0)] []⟩,
⟨none, none, [], .sto 6 (.t 2) (.t 43)⟩,
⟨some 3, none, [], .mov (.k (.bo false))⟩] [])
.ret)
.skip))
(.seq (.reg false [
⟨some 44, none, [], .mov (.t 6)⟩,
⟨some 45, none, [], .mov (.t 7)⟩,
⟨some 46, none, [], .fad 4 (.t 5)⟩,
⟨none, none, [], .sto 1 (.t 46) (.t 44)⟩,
⟨some 47, none, [], .fad 5 (.t 5)⟩,
⟨none, none, [], .sto 1 (.t 47) (.t 45)⟩] [])
(.seq (.reg false [
⟨some 48, none, [], .ld 6 true (.t 5)⟩,
⟨none, none, [], .sto 6 (.t 2) (.t 48)⟩,
⟨some 3, none, [], .mov (.k (.bo true))⟩] [])
.ret)))))))))⟩
def c21 : Ev.Fn := d21.den
def p21 : Pol := { loc := [2], md := .rw, mds := mds, heap := [37], own := [37], ord := [(0, [1, 0])], clr := [], mask := [(2, [0, 2, 4], [])], fns := [], lcl := [] }
theorem r21 : FnOK Try.prog mds 21 c21 := .read (pol := p21) (d := d21) Try.func21 (by kernel_rfl) (by kernel_rfl) rfl rfl (by kernel_rfl)

/- reservoir/message.Response -/
def d22 : DFn := ⟨[(.c (.sl [.one, .one]))], [(.g [.one, (.sl [.one, .one]), .one]), (.c .one)], .pure, [.cell 2 3 true, .tmp 3],
(.seq (.reg false [
⟨some 2, none, [], .alc [(.it .i64 0), .ns, (.it .i64 0)]⟩,
⟨some 3, none, [], .mov (.k (.bo false))⟩] [])
(.seq (.seq (.reg false [
⟨some 8, none, [], .mov (.t 0)⟩,
⟨some 9, none, [], .len false (.t 8)⟩,
⟨some 10, none, [], .bin .no .eql (.t 9) (.k (.it .i64 0))⟩,
⟨some 11, none, [], .mov (.t 10)⟩,
⟨some 12, some (11, false), [], .mov (.t 0)⟩,
⟨some 13, some (11, false), [], .ias 2 (.t 12) (.k (.it .i64 0))⟩,
⟨some 14, some (11, false), [], .fad 0 (.t 13)⟩,
⟨some 15, some (11, false), [], .ld 1 false (.t 14)⟩,
⟨some 16, some (11, false), [], .bin .no .neq (.t 15) (.k (.st [58, 115, 116, 97, 116, 117, 115]))⟩,
⟨some 17, none, [], .pick (.t 11) (.k (.bo true)) (.t 16)⟩,
⟨some 18, none, [], .mov (.t 17)⟩,
⟨some 19, some (18, false), [], .mov (.t 0)⟩,
⟨some 20, some (18, false), [], .ias 2 (.t 19) (.k (.it .i64 0))⟩,
⟨some 21, some (18, false), [], .fad 1 (.t 20)⟩,
⟨some 22, some (18, false), [], .ld 1 false (.t 21)⟩,
⟨some 23, some (18, false), [], .len true (.t 22)⟩,
⟨some 24, some (18, false), [], .bin .no .neq (.t 23) (.k (.it .i64 3))⟩,
⟨some 25, none, [], .pick (.t 18) (.k (.bo true)) (.t 24)⟩] [])
(.cond (.t 25)
(.seq (.reg false [
⟨some 26, none, [], .bld [(.it .i64 0), .ns, (.it .i64 0)] []⟩,
⟨none, none, [], .sto 3 (.t 2) (.t 26)⟩,
⟨some 3, none, [], .mov (.k (.bo false))⟩] [])
.ret)
.skip))
(.seq (.reg false [
⟨some 27, none, [], .mov (.t 0)⟩,
⟨some 28, none, [], .ias 2 (.t 27) (.k (.it .i64 0))⟩,
⟨some 29, none, [], .fad 1 (.t 28)⟩,
⟨some 30, none, [], .ld 1 false (.t 29)⟩,
⟨some 31, none, [], .call false .pure 67 [(.t 30)]⟩,
⟨some 4, none, [], .mov (.t 31)⟩] [])
(.seq (.seq (.reg false [
⟨some 32, none, [], .mov (.t 4)⟩,
⟨some 33, none, [], .bin .no .lss (.t 32) (.k (.it .i64 100))⟩,
⟨some 34, none, [], .mov (.t 33)⟩,
⟨some 35, some (34, false), [], .mov (.t 4)⟩,
⟨some 36, some (34, false), [], .bin .no .gtr (.t 35) (.k (.it .i64 599))⟩,
⟨some 37, none, [], .pick (.t 34) (.k (.bo true)) (.t 36)⟩,
⟨some 38, none, [], .mov (.t 37)⟩,
⟨some 39, some (38, false), [], .mov (.t 4)⟩,
⟨some 40, some (38, false), [], .bin .no .eql (.t 39) (.k (.it .i64 101))⟩,
⟨some 41, none, [], .pick (.t 38) (.k (.bo true)) (.t 40)⟩] [])
(.cond (.t 41)
(.seq (.reg false [
⟨some 42, none, [], .bld [(.it .i64 0), .ns, (.it .i64 0)] []⟩,
⟨none, none, [], .sto 3 (.t 2) (.t 42)⟩,
⟨some 3, none, [], .mov (.k (.bo false))⟩] [])
.ret)
.skip))
(.seq (.reg false [
⟨some 44, none, [], .mov (.t 0)⟩,
⟨some 45, none, [], .slc false 2 (.t 44) (some (.k (.it .i64 1))) none⟩,
⟨some 46, none, [], .call false .rw 66 [(.t 45)]⟩,
⟨some 43, none, [], .mov (.t 46)⟩,
⟨some 47, none, [], .ext (.t 43) 0⟩,
⟨some 48, none, [], .ext (.t 43) 1⟩,
⟨some 49, none, [], .ext (.t 43) 2⟩,
⟨some 5, none, [], .mov (.t 47)⟩,
⟨some 6, none, [], .mov (.t 48)⟩,
⟨some 7, none, [], .mov (.t 49)⟩] [])
(.seq (.seq (.reg false [
⟨some 50, none, [], .mov (.t 7)⟩,
⟨some 51, none, [], .un .not (.t 50)⟩] [])
(.cond (.t 51)
(.seq (.reg false [
⟨some 52, none, [], .bld [(.it .i64 0), .ns, (.it .i64 0)] []⟩,
⟨none, none, [], .sto 3 (.t 2) (.t 52)⟩,
⟨some 3, none, [], .mov (.k (.bo false))⟩] [])
.ret)
.skip))
(.seq (.reg false [
⟨some 53, none, [], .mov (.t 4)⟩,
⟨some 54, none, [], .mov (.t 5)⟩,
⟨some 55, none, [], .mov (.t 6)⟩,
⟨some 56, none, [], .bld [(.it .i64 0), .ns, (.it .i64 0)] [(0, 1, (.t 53)), (1, 1, (.t 54)), (2, 1, (.t 55))]⟩,
⟨none, none, [], .sto 3 (.t 2) (.t 56)⟩,
⟨some 3, none, [], .mov (.k (.bo true))⟩] [])
.ret)))))))⟩
def c22 : Ev.Fn := d22.den
def p22 : Pol := { loc := [2], md := .pure, mds := mds, heap := [], own := [], ord := [(0, [1, 0])], clr := [], mask := [], fns := [], lcl := [] }
theorem r22 : FnOK Try.prog mds 22 c22 := .read (pol := p22) (d := d22) Try.func22 (by kernel_rfl) (by kernel_rfl) rfl rfl (by kernel_rfl)

/- reservoir/reservoirkeep.Requests -/
def d23 : DFn := ⟨[(.g [.one, .one, .one, .one, (.sl [.one, .one]), .one]), (.g [.one, .one, .one, .one, (.sl [.one, .one]), .one])], [(.c .one)], .ro, [.tmp 4],
(.seq (.reg false [
⟨some 2, none, [], .box (.t 0)⟩,
⟨some 3, none, [], .box (.t 1)⟩,
⟨some 4, none, [], .mov (.k (.bo false))⟩] [])
(.seq (.reg false [
⟨some 5, none, [], .fad 0 (.t 2)⟩,
⟨some 6, none, [], .ld 1 false (.t 5)⟩,
⟨some 7, none, [], .fad 0 (.t 3)⟩,
⟨some 8, none, [], .ld 1 false (.t 7)⟩,
⟨some 9, none, [], .bin .no .eql (.t 6) (.t 8)⟩,
⟨some 10, none, [], .mov (.t 9)⟩,
⟨some 11, some (10, true), [], .fad 1 (.t 2)⟩,
⟨some 12, some (10, true), [], .ld 1 false (.t 11)⟩,
⟨some 13, some (10, true), [], .fad 1 (.t 3)⟩,
⟨some 14, some (10, true), [], .ld 1 false (.t 13)⟩,
⟨some 15, some (10, true), [], .bin .no .eql (.t 12) (.t 14)⟩,
⟨some 16, none, [], .pick (.t 10) (.t 15) (.k (.bo false))⟩,
⟨some 17, none, [], .mov (.t 16)⟩,
⟨some 18, some (17, true), [], .fad 2 (.t 2)⟩,
⟨some 19, some (17, true), [], .ld 1 false (.t 18)⟩,
⟨some 20, some (17, true), [], .fad 2 (.t 3)⟩,
⟨some 21, some (17, true), [], .ld 1 false (.t 20)⟩,
⟨some 22, some (17, true), [], .bin .no .eql (.t 19) (.t 21)⟩,
⟨some 23, none, [], .pick (.t 17) (.t 22) (.k (.bo false))⟩,
⟨some 24, none, [], .mov (.t 23)⟩,
⟨some 25, some (24, true), [], .fad 3 (.t 2)⟩,
⟨some 26, some (24, true), [], .ld 1 false (.t 25)⟩,
⟨some 27, some (24, true), [], .fad 3 (.t 3)⟩,
⟨some 28, some (24, true), [], .ld 1 false (.t 27)⟩,
⟨some 29, some (24, true), [], .bin .no .eql (.t 26) (.t 28)⟩,
⟨some 30, none, [], .pick (.t 24) (.t 29) (.k (.bo false))⟩,
⟨some 31, none, [], .mov (.t 30)⟩,
⟨some 32, some (31, true), [], .fad 4 (.t 2)⟩,
⟨some 33, some (31, true), [], .ld 1 false (.t 32)⟩,
⟨some 34, some (31, true), [], .fad 4 (.t 3)⟩,
⟨some 35, some (31, true), [], .ld 1 false (.t 34)⟩,
⟨some 36, some (31, true), [], .call false .ro 51 [(.t 33), (.t 35)]⟩,
⟨some 37, none, [], .pick (.t 31) (.t 36) (.k (.bo false))⟩,
⟨some 38, none, [], .mov (.t 37)⟩,
⟨some 39, some (38, true), [], .fad 5 (.t 2)⟩,
⟨some 40, some (38, true), [], .ld 1 false (.t 39)⟩,
⟨some 41, some (38, true), [], .fad 5 (.t 3)⟩,
⟨some 42, some (38, true), [], .ld 1 false (.t 41)⟩,
⟨some 43, some (38, true), [], .bin .no .eql (.t 40) (.t 42)⟩,
⟨some 44, none, [], .pick (.t 38) (.t 43) (.k (.bo false))⟩,
⟨some 4, none, [], .mov (.t 44)⟩] [5, 7, 11, 13, 18, 20, 25, 27, 32, 34, 39, 41])
.ret))⟩
def c23 : Ev.Fn := d23.den
def p23 : Pol := { loc := [2, 3], md := .ro, mds := mds, heap := [], own := [], ord := [(0, [2, 0, 1])], clr := [(1, [5, 7, 11, 13, 18, 20, 25, 27, 32, 34, 39, 41])], mask := [], fns := [], lcl := [] }
theorem r23 : FnOK Try.prog mds 23 c23 := .read (pol := p23) (d := d23) Try.func23 (by kernel_rfl) (by kernel_rfl) rfl rfl (by kernel_rfl)

/- reservoir/reservoirlaw15.light -/
def d24 : DFn := ⟨[(.c (.sl [.one, .one]))], [(.c .one)], .pure, [.tmp 2],
(.seq (.reg false [
⟨some 2, none, [], .mov (.k (.bo false))⟩] [])
(.seq (.reg false [
⟨some 3, none, [], .mov (.k (.it .i64 0))⟩] [])
(.seq (.seq (.reg false [
⟨some 4, none, [], .mov (.k (.it .i64 0))⟩] [])
(.blk 0 (.loop [0, 3, 4] []
(.seq (.seq (.reg false [
⟨some 5, none, [], .mov (.t 4)⟩,
⟨some 6, none, [], .mov (.t 0)⟩,
⟨some 7, none, [], .len false (.t 6)⟩,
⟨some 8, none, [], .bin .no .lss (.t 5) (.t 7)⟩] [])
(.cond (.t 8)
.skip
(.exit 0)))
(.seq (.blk 1 (.seq (.reg true [
⟨some 11, none, [], .mov (.t 3)⟩,
⟨some 12, none, [], .mov (.t 0)⟩,
⟨some 13, none, [], .mov (.t 4)⟩,
⟨some 14, none, [], .ias 2 (.t 12) (.t 13)⟩,
⟨some 15, none, [], .fad 0 (.t 14)⟩,
⟨some 16, none, [], .ld 1 false (.t 15)⟩,
⟨some 17, none, [], .len true (.t 16)⟩,
⟨some 18, none, [], .bin .no .add (.t 11) (.t 17)⟩,
⟨some 19, none, [], .mov (.t 0)⟩,
⟨some 20, none, [], .mov (.t 4)⟩,
⟨some 21, none, [], .ias 2 (.t 19) (.t 20)⟩,
⟨some 22, none, [], .fad 1 (.t 21)⟩,
⟨some 23, none, [], .ld 1 false (.t 22)⟩,
⟨some 24, none, [], .len true (.t 23)⟩,
⟨some 25, none, [], .bin .no .add (.t 18) (.t 24)⟩,
⟨some 26, none, [], .bin .no .add (.t 25) (.k (.it .i64 1))⟩,
⟨some 3, none, [], .mov (.t 26)⟩] [])
(.seq (.reg false [
⟨some 27, none, [], .mov (.t 3)⟩,
⟨some 28, none, [], .bin .no .gtr (.t 27) (.k (.it .i64 3000))⟩] [])
(.cond (.t 28)
(.seq (.reg false [
⟨some 2, none, [], .mov (.k (.bo false))⟩] [])
.ret)
.skip))))
(.reg false [
⟨some 9, none, [], .mov (.t 4)⟩,
⟨some 10, none, [], .bin .no .add (.t 9) (.k (.it .i64 1))⟩,
⟨some 4, none, [], .mov (.t 10)⟩] []))))))
(.seq (.reg false [
⟨some 2, none, [], .mov (.k (.bo true))⟩] [])
.ret))))⟩
def c24 : Ev.Fn := d24.den
def p24 : Pol := { loc := [], md := .pure, mds := mds, heap := [], own := [], ord := [], clr := [], mask := [(3, [0, 3, 4], [])], fns := [], lcl := [] }
theorem r24 : FnOK Try.prog mds 24 c24 := .read (pol := p24) (d := d24) Try.func24 (by kernel_rfl) (by kernel_rfl) rfl rfl (by kernel_rfl)

/- reservoir/reservoirkeep.Responses -/
def d25 : DFn := ⟨[(.g [.one, (.sl [.one, .one]), .one]), (.g [.one, (.sl [.one, .one]), .one])], [(.c .one)], .ro, [.tmp 4],
(.seq (.reg false [
⟨some 2, none, [], .box (.t 0)⟩,
⟨some 3, none, [], .box (.t 1)⟩,
⟨some 4, none, [], .mov (.k (.bo false))⟩] [])
(.seq (.reg false [
⟨some 5, none, [], .fad 0 (.t 2)⟩,
⟨some 6, none, [], .ld 1 false (.t 5)⟩,
⟨some 7, none, [], .fad 0 (.t 3)⟩,
⟨some 8, none, [], .ld 1 false (.t 7)⟩,
⟨some 9, none, [], .bin .no .eql (.t 6) (.t 8)⟩,
⟨some 10, none, [], .mov (.t 9)⟩,
⟨some 11, some (10, true), [], .fad 1 (.t 2)⟩,
⟨some 12, some (10, true), [], .ld 1 false (.t 11)⟩,
⟨some 13, some (10, true), [], .fad 1 (.t 3)⟩,
⟨some 14, some (10, true), [], .ld 1 false (.t 13)⟩,
⟨some 15, some (10, true), [], .call false .ro 51 [(.t 12), (.t 14)]⟩,
⟨some 16, none, [], .pick (.t 10) (.t 15) (.k (.bo false))⟩,
⟨some 17, none, [], .mov (.t 16)⟩,
⟨some 18, some (17, true), [], .fad 2 (.t 2)⟩,
⟨some 19, some (17, true), [], .ld 1 false (.t 18)⟩,
⟨some 20, some (17, true), [], .fad 2 (.t 3)⟩,
⟨some 21, some (17, true), [], .ld 1 false (.t 20)⟩,
⟨some 22, some (17, true), [], .bin .no .eql (.t 19) (.t 21)⟩,
⟨some 23, none, [], .pick (.t 17) (.t 22) (.k (.bo false))⟩,
⟨some 4, none, [], .mov (.t 23)⟩] [5, 7, 11, 13, 18, 20])
.ret))⟩
def c25 : Ev.Fn := d25.den
def p25 : Pol := { loc := [2, 3], md := .ro, mds := mds, heap := [], own := [], ord := [(0, [2, 0, 1])], clr := [(1, [5, 7, 11, 13, 18, 20])], mask := [], fns := [], lcl := [] }
theorem r25 : FnOK Try.prog mds 25 c25 := .read (pol := p25) (d := d25) Try.func25 (by kernel_rfl) (by kernel_rfl) rfl rfl (by kernel_rfl)

/- reservoir/reservoirbook.Roomy[reservoir/api.Field] -/
def d27 : DFn := ⟨[(.c (.sl [.one, .one])), (.g [.one, .one])], [(.c (.sl [.one, .one]))], .pure, [.tmp 4],
(.seq (.reg false [
⟨some 3, none, [], .box (.t 1)⟩,
⟨some 4, none, [], .mov (.k .ns)⟩] [])
(.seq (.reg false [
⟨some 7, none, [], .mov (.t 0)⟩,
⟨some 8, none, [], .len false (.t 7)⟩,
⟨some 9, none, [], .bin .no .add (.t 8) (.k (.it .i64 80))⟩,
⟨some 10, none, [], .mks 2 32 [(.st []), (.st [])] (.t 9) (.t 9)⟩,
⟨some 5, none, [], .mov (.t 10)⟩] [])
(.seq (.reg false [
⟨some 11, none, [], .mov (.t 5)⟩,
⟨some 12, none, [], .mov (.t 0)⟩,
⟨some 13, none, [], .cpy 2 (.t 11) (.t 12)⟩] [])
(.seq (.seq (.reg false [
⟨some 14, none, [], .mov (.t 0)⟩,
⟨some 15, none, [], .len false (.t 14)⟩,
⟨some 6, none, [], .mov (.t 15)⟩] [])
(.blk 0 (.loop [3, 5, 6] []
(.seq (.seq (.reg false [
⟨some 16, none, [], .mov (.t 6)⟩,
⟨some 17, none, [], .mov (.t 5)⟩,
⟨some 18, none, [], .len false (.t 17)⟩,
⟨some 19, none, [], .bin .no .lss (.t 16) (.t 18)⟩] [])
(.cond (.t 19)
.skip
(.exit 0)))
(.seq (.blk 1 (.reg false [
⟨some 22, none, [], .mov (.t 5)⟩,
⟨some 23, none, [], .mov (.t 6)⟩,
⟨some 24, none, [], .ld 2 true (.t 3)⟩,
⟨some 25, none, [], .ias 2 (.t 22) (.t 23)⟩,
⟨none, none, [], .sto 2 (.t 25) (.t 24)⟩] []))
(.reg false [
⟨some 20, none, [], .mov (.t 6)⟩,
⟨some 21, none, [], .bin .no .add (.t 20) (.k (.it .i64 1))⟩,
⟨some 6, none, [], .mov (.t 21)⟩] []))))))
(.seq (.reg false [
⟨some 26, none, [], .mov (.t 5)⟩,
⟨some 4, none, [], .mov (.t 26)⟩] [])
.ret)))))⟩
def c27 : Ev.Fn := d27.den
def p27 : Pol := { loc := [3], md := .pure, mds := mds, heap := [], own := [], ord := [(0, [1, 0])], clr := [], mask := [(4, [3, 5, 6], [])], fns := [], lcl := [] }
theorem r27 : FnOK Try.prog mds 27 c27 := .read (pol := p27) (d := d27) Try.func27 (by kernel_rfl) (by kernel_rfl) rfl rfl (by kernel_rfl)

/- reservoir/reservoirref14.Request -/
def d28 : DFn := ⟨[(.c (.sl [.one, .one]))], [(.g [.one, .one, .one, .one, (.sl [.one, .one]), .one]), (.c .one)], .pure, [.cell 2 6 true, .tmp 3],
(.seq (.reg false [
⟨some 2, none, [], .alc [(.st []), (.st []), (.st []), (.st []), .ns, (.it .i64 0)]⟩,
⟨some 3, none, [], .mov (.k (.bo false))⟩] [])
(.seq (.reg false [
⟨some 15, none, [], .mov (.t 0)⟩,
⟨some 16, none, [], .call false .pure 30 [(.t 15)]⟩,
⟨some 14, none, [], .mov (.t 16)⟩,
⟨some 17, none, [], .ext (.t 14) 0⟩,
⟨some 18, none, [], .ext (.t 14) 1⟩,
⟨some 4, none, [], .mov (.t 17)⟩,
⟨some 5, none, [], .mov (.t 18)⟩] [])
(.seq (.reg false [
⟨some 6, none, [], .alh [(.st []), (.st []), (.st []), (.st []), .ns, (.it .i64 0)]⟩] [])
(.seq (.reg false [
⟨some 7, none, [], .alc [(.bo false), (.bo false), (.bo false), (.bo false)]⟩] [])
(.seq (.seq (.reg false [
⟨some 19, none, [], .mov (.t 5)⟩,
⟨some 20, none, [], .un .not (.t 19)⟩] [])
(.cond (.t 20)
(.seq (.reg false [
⟨some 21, none, [], .ld 6 true (.t 6)⟩,
⟨none, none, [], .sto 6 (.t 2) (.t 21)⟩,
⟨some 3, none, [], .mov (.k (.bo false))⟩] [])
.ret)
.skip))
(.seq (.seq (.reg false [
⟨some 8, none, [], .mov (.k (.it .i64 0))⟩] [])
(.blk 0 (.loop [0, 2, 4, 6, 7, 8] []
(.seq (.seq (.reg false [
⟨some 22, none, [], .mov (.t 8)⟩,
⟨some 23, none, [], .mov (.t 4)⟩,
⟨some 24, none, [], .bin .no .lss (.t 22) (.t 23)⟩] [])
(.cond (.t 24)
.skip
(.exit 0)))
(.seq (.blk 1 (.seq (.reg false [
⟨some 27, none, [], .fad 0 (.t 6)⟩,
⟨some 9, none, [], .mov (.k (.it .i64 (-1)))⟩,
⟨some 10, none, [], .mov (.t 27)⟩] [])
(.seq (.seq (.reg false [
⟨some 28, none, [], .mov (.t 0)⟩,
⟨some 29, none, [], .mov (.t 8)⟩,
⟨some 30, none, [], .ias 2 (.t 28) (.t 29)⟩,
⟨some 31, none, [], .fad 0 (.t 30)⟩,
⟨some 32, none, [], .ld 1 false (.t 31)⟩] [])
(.blk 2 (.seq (.reg false [
⟨some 34, none, [], .bin .no .eql (.t 32) (.k (.st [58, 109, 101, 116, 104, 111, 100]))⟩,
⟨some 33, none, [], .mov (.t 34)⟩] [])
(.cond (.t 33)
(.reg false [
⟨some 9, none, [], .mov (.k (.it .i64 0))⟩] [])
(.seq (.reg false [
⟨some 36, none, [], .bin .no .eql (.t 32) (.k (.st [58, 115, 99, 104, 101, 109, 101]))⟩,
⟨some 35, none, [], .mov (.t 36)⟩] [])
(.cond (.t 35)
(.reg false [
⟨some 37, none, [], .fad 1 (.t 6)⟩,
⟨some 9, none, [], .mov (.k (.it .i64 1))⟩,
⟨some 10, none, [], .mov (.t 37)⟩] [])
(.seq (.reg false [
⟨some 39, none, [], .bin .no .eql (.t 32) (.k (.st [58, 97, 117, 116, 104, 111, 114, 105, 116, 121]))⟩,
⟨some 38, none, [], .mov (.t 39)⟩] [])
(.cond (.t 38)
(.reg false [
⟨some 40, none, [], .fad 2 (.t 6)⟩,
⟨some 9, none, [], .mov (.k (.it .i64 2))⟩,
⟨some 10, none, [], .mov (.t 40)⟩] [])
(.seq (.reg false [
⟨some 42, none, [], .bin .no .eql (.t 32) (.k (.st [58, 112, 97, 116, 104]))⟩,
⟨some 41, none, [], .mov (.t 42)⟩] [])
(.cond (.t 41)
(.reg false [
⟨some 43, none, [], .fad 3 (.t 6)⟩,
⟨some 9, none, [], .mov (.k (.it .i64 3))⟩,
⟨some 10, none, [], .mov (.t 43)⟩] [])
.skip))))))))))
(.seq (.seq (.reg false [
⟨some 44, none, [], .mov (.t 9)⟩,
⟨some 45, none, [], .bin .no .lss (.t 44) (.k (.it .i64 0))⟩,
⟨some 46, none, [], .mov (.t 45)⟩,
⟨some 47, some (46, false), [], .mov (.t 9)⟩,
⟨some 48, some (46, false), [], .iaa 4 1 (.t 7) (.t 47)⟩,
⟨some 49, some (46, false), [], .ld 1 false (.t 48)⟩,
⟨some 50, none, [], .pick (.t 46) (.k (.bo true)) (.t 49)⟩,
⟨some 51, none, [], .mov (.t 50)⟩,
⟨some 52, some (51, false), [], .mov (.t 0)⟩,
⟨some 53, some (51, false), [], .mov (.t 8)⟩,
⟨some 54, some (51, false), [], .ias 2 (.t 52) (.t 53)⟩,
⟨some 55, some (51, false), [], .fad 1 (.t 54)⟩,
⟨some 56, some (51, false), [], .ld 1 false (.t 55)⟩,
⟨some 57, some (51, false), [], .call false .pure 68 [(.t 56)]⟩,
⟨some 58, some (51, false), [], .un .not (.t 57)⟩,
⟨some 59, none, [], .pick (.t 51) (.k (.bo true)) (.t 58)⟩] [48])
(.cond (.t 59)
(.seq (.reg false [
⟨some 60, none, [], .bld [(.st []), (.st []), (.st []), (.st []), .ns, (.it .i64 0)] []⟩,
⟨none, none, [], .sto 6 (.t 2) (.t 60)⟩,
⟨some 3, none, [], .mov (.k (.bo false))⟩] [])
.ret)
.skip))
(.seq (.reg false [
⟨some 61, none, [], .mov (.t 9)⟩,
⟨some 62, none, [], .iaa 4 1 (.t 7) (.t 61)⟩,
⟨none, none, [], .sto 1 (.t 62) (.k (.bo true))⟩] [62])
(.reg false [
⟨some 63, none, [], .mov (.t 10)⟩,
⟨some 64, none, [], .mov (.t 0)⟩,
⟨some 65, none, [], .mov (.t 8)⟩,
⟨some 66, none, [], .ias 2 (.t 64) (.t 65)⟩,
⟨some 67, none, [], .fad 1 (.t 66)⟩,
⟨some 68, none, [], .ld 1 false (.t 67)⟩,
⟨some 69, none, [], .nck (.t 63)⟩,
⟨none, none, [], .sto 1 (.t 69) (.t 68)⟩] []))))))
(.reg false [
⟨some 25, none, [], .mov (.t 8)⟩,
⟨some 26, none, [], .bin .no .add (.t 25) (.k (.it .i64 1))⟩,
⟨some 8, none, [], .mov (.t 26)⟩] []))))))
(.seq (.reg false [
⟨some 70, none, [], .mov (.t 0)⟩,
⟨some 71, none, [], .mov (.t 4)⟩,
⟨some 72, none, [], .slc false 2 (.t 70) (some (.t 71)) none⟩,
⟨some 11, none, [], .mov (.t 72)⟩] [])
(.seq (.reg false [
⟨some 74, none, [], .mov (.t 11)⟩,
⟨some 75, none, [], .call true .pure 69 [(.t 74)]⟩,
⟨some 73, none, [], .mov (.t 75)⟩,
⟨some 76, none, [], .ext (.t 73) 0⟩,
⟨some 77, none, [], .ext (.t 73) 1⟩,
⟨some 12, none, [], .mov (.t 76)⟩,
⟨some 13, none, [], .mov (.t 77)⟩] [])
(.seq (.seq (.reg false [
⟨some 78, none, [], .mov (.t 11)⟩,
⟨some 79, none, [], .call false .pure 32 [(.t 78)]⟩,
⟨some 80, none, [], .un .not (.t 79)⟩,
⟨some 81, none, [], .mov (.t 80)⟩,
⟨some 82, some (81, false), [], .mov (.t 13)⟩,
⟨some 83, some (81, false), [], .un .not (.t 82)⟩,
⟨some 84, none, [], .pick (.t 81) (.k (.bo true)) (.t 83)⟩,
⟨some 85, none, [], .mov (.t 84)⟩,
⟨some 86, some (85, false), [], .fad 0 (.t 6)⟩,
⟨some 87, some (85, false), [], .ld 1 false (.t 86)⟩,
⟨some 88, some (85, false), [], .call false .pure 70 [(.t 87)]⟩,
⟨some 89, some (85, false), [], .un .not (.t 88)⟩,
⟨some 90, none, [], .pick (.t 85) (.k (.bo true)) (.t 89)⟩] [])
(.cond (.t 90)
(.seq (.reg false [
⟨some 91, none, [], .bld [(.st []), (.st []), (.st []), (.st []), .ns, (.it .i64 0)] []⟩,
⟨none, none, [], .sto 6 (.t 2) (.t 91)⟩,
⟨some 3, none, [], .mov (.k (.bo false))⟩] [])
.ret)
.skip))
(.seq (.seq (.reg false [
⟨some 92, none, [], .fad 0 (.t 6)⟩,
⟨some 93, none, [], .ld 1 false (.t 92)⟩,
⟨some 94, none, [], .bin .no .eql (.t 93) (.k (.st [67, 79, 78, 78, 69, 67, 84]))⟩,
⟨some 95, none, [], .mov (.t 94)⟩,
⟨some 96, some (95, false), [], .iaa 4 1 (.t 7) (.k (.it .i64 1))⟩,
⟨some 97, some (95, false), [], .ld 1 false (.t 96)⟩,
⟨some 98, some (95, false), [], .un .not (.t 97)⟩,
⟨some 99, none, [], .pick (.t 95) (.k (.bo true)) (.t 98)⟩,
⟨some 100, none, [], .mov (.t 99)⟩,
⟨some 101, some (100, false), [], .iaa 4 1 (.t 7) (.k (.it .i64 3))⟩,
⟨some 102, some (100, false), [], .ld 1 false (.t 101)⟩,
⟨some 103, some (100, false), [], .un .not (.t 102)⟩,
⟨some 104, none, [], .pick (.t 100) (.k (.bo true)) (.t 103)⟩,
⟨some 105, none, [], .mov (.t 104)⟩,
⟨some 106, some (105, false), [], .fad 1 (.t 6)⟩,
⟨some 107, some (105, false), [], .ld 1 false (.t 106)⟩,
⟨some 108, some (105, false), [], .bin .no .neq (.t 107) (.k (.st [104, 116, 116, 112]))⟩,
⟨some 109, some (105, false), [], .mov (.t 108)⟩,
⟨some 110, some (109, true), [], .fad 1 (.t 6)⟩,
⟨some 111, some (109, true), [], .ld 1 false (.t 110)⟩,
⟨some 112, some (109, true), [], .bin .no .neq (.t 111) (.k (.st [104, 116, 116, 112, 115]))⟩,
⟨some 113, some (105, false), [], .pick (.t 109) (.t 112) (.k (.bo false))⟩,
⟨some 114, none, [], .pick (.t 105) (.k (.bo true)) (.t 113)⟩,
⟨some 115, none, [], .mov (.t 114)⟩,
⟨some 116, some (115, false), [], .fad 2 (.t 6)⟩,
⟨some 117, some (115, false), [], .ld 1 false (.t 116)⟩,
⟨some 118, some (115, false), [], .bin .no .eql (.t 117) (.k (.st []))⟩,
⟨some 119, none, [], .pick (.t 115) (.k (.bo true)) (.t 118)⟩,
⟨some 120, none, [], .mov (.t 119)⟩,
⟨some 121, some (120, false), [], .fad 3 (.t 6)⟩,
⟨some 122, some (120, false), [], .ld 1 false (.t 121)⟩,
⟨some 123, some (120, false), [], .bin .no .eql (.t 122) (.k (.st []))⟩,
⟨some 124, none, [], .pick (.t 120) (.k (.bo true)) (.t 123)⟩,
⟨some 125, none, [], .mov (.t 124)⟩,
⟨some 126, some (125, false), [], .fad 3 (.t 6)⟩,
⟨some 127, some (125, false), [], .ld 1 false (.t 126)⟩,
⟨some 128, some (125, false), [], .ixs (.t 127) (.k (.it .i64 0))⟩,
⟨some 129, some (125, false), [], .bin .no .neq (.t 128) (.k (.it .u8 47))⟩,
⟨some 130, some (125, false), [], .mov (.t 129)⟩,
⟨some 131, some (130, true), [], .fad 3 (.t 6)⟩,
⟨some 132, some (130, true), [], .ld 1 false (.t 131)⟩,
⟨some 133, some (130, true), [], .bin .no .eql (.t 132) (.k (.st [42]))⟩,
⟨some 134, some (130, true), [], .mov (.t 133)⟩,
⟨some 135, some (134, true), [], .fad 0 (.t 6)⟩,
⟨some 136, some (134, true), [], .ld 1 false (.t 135)⟩,
⟨some 137, some (134, true), [], .bin .no .eql (.t 136) (.k (.st [79, 80, 84, 73, 79, 78, 83]))⟩,
⟨some 138, some (130, true), [], .pick (.t 134) (.t 137) (.k (.bo false))⟩,
⟨some 139, some (130, true), [], .un .not (.t 138)⟩,
⟨some 140, some (125, false), [], .pick (.t 130) (.t 139) (.k (.bo false))⟩,
⟨some 141, none, [], .pick (.t 125) (.k (.bo true)) (.t 140)⟩] [96, 101])
(.cond (.t 141)
(.seq (.reg false [
⟨some 142, none, [], .bld [(.st []), (.st []), (.st []), (.st []), .ns, (.it .i64 0)] []⟩,
⟨none, none, [], .sto 6 (.t 2) (.t 142)⟩,
⟨some 3, none, [], .mov (.k (.bo false))⟩] [])
.ret)
.skip))
(.seq (.reg false [
⟨some 143, none, [], .bsl 2 [] []⟩,
⟨some 144, none, [], .mov (.t 11)⟩,
⟨some 145, none, [], .app 2 32 (.t 143) (.t 144)⟩,
⟨some 146, none, [], .mov (.t 12)⟩,
⟨some 147, none, [], .fad 4 (.t 6)⟩,
⟨none, none, [], .sto 1 (.t 147) (.t 145)⟩,
⟨some 148, none, [], .fad 5 (.t 6)⟩,
⟨none, none, [], .sto 1 (.t 148) (.t 146)⟩] [])
(.seq (.reg false [
⟨some 149, none, [], .ld 6 true (.t 6)⟩,
⟨none, none, [], .sto 6 (.t 2) (.t 149)⟩,
⟨some 3, none, [], .mov (.k (.bo true))⟩] [])
.ret))))))))))))⟩
def c28 : Ev.Fn := d28.den
def p28 : Pol := { loc := [2, 7], md := .pure, mds := mds, heap := [75, 143, 145], own := [75, 143, 145], ord := [(0, [1, 0]), (29, [1, 3, 0, 2, 4, 5, 6, 7])], clr := [(19, [48]), (21, [62]), (27, [96, 101])], mask := [(7, [0, 2, 4, 6, 7, 8], [])], fns := [], lcl := [] }
theorem r28 : FnOK Try.prog mds 28 c28 := .read (pol := p28) (d := d28) Try.func28 (by kernel_rfl) (by kernel_rfl) rfl rfl (by kernel_rfl)

/- reservoir/reservoirref14.Response -/
def d29 : DFn := ⟨[(.c (.sl [.one, .one]))], [(.g [.one, (.sl [.one, .one]), .one]), (.c .one)], .pure, [.cell 2 3 true, .tmp 3],
(.seq (.reg false [
⟨some 2, none, [], .alc [(.it .i64 0), .ns, (.it .i64 0)]⟩,
⟨some 3, none, [], .mov (.k (.bo false))⟩] [])
(.seq (.reg false [
⟨some 11, none, [], .mov (.t 0)⟩,
⟨some 12, none, [], .call false .pure 30 [(.t 11)]⟩,
⟨some 10, none, [], .mov (.t 12)⟩,
⟨some 13, none, [], .ext (.t 10) 0⟩,
⟨some 14, none, [], .ext (.t 10) 1⟩,
⟨some 4, none, [], .mov (.t 13)⟩,
⟨some 5, none, [], .mov (.t 14)⟩] [])
(.seq (.seq (.reg false [
⟨some 15, none, [], .mov (.t 5)⟩,
⟨some 16, none, [], .un .not (.t 15)⟩,
⟨some 17, none, [], .mov (.t 16)⟩,
⟨some 18, some (17, false), [], .mov (.t 4)⟩,
⟨some 19, some (17, false), [], .bin .no .neq (.t 18) (.k (.it .i64 1))⟩,
⟨some 20, none, [], .pick (.t 17) (.k (.bo true)) (.t 19)⟩,
⟨some 21, none, [], .mov (.t 20)⟩,
⟨some 22, some (21, false), [], .mov (.t 0)⟩,
⟨some 23, some (21, false), [], .ias 2 (.t 22) (.k (.it .i64 0))⟩,
⟨some 24, some (21, false), [], .fad 0 (.t 23)⟩,
⟨some 25, some (21, false), [], .ld 1 false (.t 24)⟩,
⟨some 26, some (21, false), [], .bin .no .neq (.t 25) (.k (.st [58, 115, 116, 97, 116, 117, 115]))⟩,
⟨some 27, none, [], .pick (.t 21) (.k (.bo true)) (.t 26)⟩,
⟨some 28, none, [], .mov (.t 27)⟩,
⟨some 29, some (28, false), [], .mov (.t 0)⟩,
⟨some 30, some (28, false), [], .ias 2 (.t 29) (.k (.it .i64 0))⟩,
⟨some 31, some (28, false), [], .fad 1 (.t 30)⟩,
⟨some 32, some (28, false), [], .ld 1 false (.t 31)⟩,
⟨some 33, some (28, false), [], .len true (.t 32)⟩,
⟨some 34, some (28, false), [], .bin .no .neq (.t 33) (.k (.it .i64 3))⟩,
⟨some 35, none, [], .pick (.t 28) (.k (.bo true)) (.t 34)⟩] [])
(.cond (.t 35)
(.seq (.reg false [
⟨some 36, none, [], .bld [(.it .i64 0), .ns, (.it .i64 0)] []⟩,
⟨none, none, [], .sto 3 (.t 2) (.t 36)⟩,
⟨some 3, none, [], .mov (.k (.bo false))⟩] [])
.ret)
.skip))
(.seq (.reg false [
⟨some 37, none, [], .mov (.t 0)⟩,
⟨some 38, none, [], .ias 2 (.t 37) (.k (.it .i64 0))⟩,
⟨some 39, none, [], .fad 1 (.t 38)⟩,
⟨some 40, none, [], .ld 1 false (.t 39)⟩,
⟨some 41, none, [], .call false .pure 71 [(.t 40)]⟩,
⟨some 6, none, [], .mov (.t 41)⟩] [])
(.seq (.reg false [
⟨some 42, none, [], .mov (.t 0)⟩,
⟨some 43, none, [], .slc false 2 (.t 42) (some (.k (.it .i64 1))) none⟩,
⟨some 7, none, [], .mov (.t 43)⟩] [])
(.seq (.reg false [
⟨some 45, none, [], .mov (.t 7)⟩,
⟨some 46, none, [], .call false .pure 69 [(.t 45)]⟩,
⟨some 44, none, [], .mov (.t 46)⟩,
⟨some 47, none, [], .ext (.t 44) 0⟩,
⟨some 48, none, [], .ext (.t 44) 1⟩,
⟨some 8, none, [], .mov (.t 47)⟩,
⟨some 9, none, [], .mov (.t 48)⟩] [])
(.seq (.seq (.reg false [
⟨some 49, none, [], .mov (.t 6)⟩,
⟨some 50, none, [], .bin .no .lss (.t 49) (.k (.it .i64 100))⟩,
⟨some 51, none, [], .mov (.t 50)⟩,
⟨some 52, some (51, false), [], .mov (.t 6)⟩,
⟨some 53, some (51, false), [], .bin .no .gtr (.t 52) (.k (.it .i64 599))⟩,
⟨some 54, none, [], .pick (.t 51) (.k (.bo true)) (.t 53)⟩,
⟨some 55, none, [], .mov (.t 54)⟩,
⟨some 56, some (55, false), [], .mov (.t 6)⟩,
⟨some 57, some (55, false), [], .bin .no .eql (.t 56) (.k (.it .i64 101))⟩,
⟨some 58, none, [], .pick (.t 55) (.k (.bo true)) (.t 57)⟩,
⟨some 59, none, [], .mov (.t 58)⟩,
⟨some 60, some (59, false), [], .mov (.t 7)⟩,
⟨some 61, some (59, false), [], .call false .pure 32 [(.t 60)]⟩,
⟨some 62, some (59, false), [], .un .not (.t 61)⟩,
⟨some 63, none, [], .pick (.t 59) (.k (.bo true)) (.t 62)⟩,
⟨some 64, none, [], .mov (.t 63)⟩,
⟨some 65, some (64, false), [], .mov (.t 9)⟩,
⟨some 66, some (64, false), [], .un .not (.t 65)⟩,
⟨some 67, none, [], .pick (.t 64) (.k (.bo true)) (.t 66)⟩] [])
(.cond (.t 67)
(.seq (.reg false [
⟨some 68, none, [], .bld [(.it .i64 0), .ns, (.it .i64 0)] []⟩,
⟨none, none, [], .sto 3 (.t 2) (.t 68)⟩,
⟨some 3, none, [], .mov (.k (.bo false))⟩] [])
.ret)
.skip))
(.seq (.reg false [
⟨some 69, none, [], .mov (.t 6)⟩,
⟨some 70, none, [], .bsl 2 [] []⟩,
⟨some 71, none, [], .mov (.t 7)⟩,
⟨some 72, none, [], .app 2 32 (.t 70) (.t 71)⟩,
⟨some 73, none, [], .mov (.t 8)⟩,
⟨some 74, none, [], .bld [(.it .i64 0), .ns, (.it .i64 0)] [(0, 1, (.t 69)), (1, 1, (.t 72)), (2, 1, (.t 73))]⟩,
⟨none, none, [], .sto 3 (.t 2) (.t 74)⟩,
⟨some 3, none, [], .mov (.k (.bo true))⟩] [])
.ret))))))))⟩
def c29 : Ev.Fn := d29.den
def p29 : Pol := { loc := [2], md := .pure, mds := mds, heap := [70], own := [70], ord := [(0, [1, 0]), (9, [0, 2, 4, 1, 3, 5, 6, 7])], clr := [], mask := [], fns := [], lcl := [] }
theorem r29 : FnOK Try.prog mds 29 c29 := .read (pol := p29) (d := d29) Try.func29 (by kernel_rfl) (by kernel_rfl) rfl rfl (by kernel_rfl)

/- reservoir/reservoirref14.Bare -/
def d30 : DFn := ⟨[(.c (.sl [.one, .one]))], [(.c .one), (.c .one)], .pure, [.tmp 2, .tmp 3],
(.seq (.reg false [
⟨some 2, none, [], .mov (.k (.it .i64 0))⟩,
⟨some 3, none, [], .mov (.k (.bo false))⟩] [])
(.seq (.reg false [
⟨some 4, none, [], .mov (.k (.it .i64 0))⟩] [])
(.seq (.seq (.reg false [
⟨some 5, none, [], .mov (.k (.it .i64 0))⟩] [])
(.blk 0 (.loop [0, 4, 5] []
(.seq (.seq (.reg false [
⟨some 6, none, [], .mov (.t 5)⟩,
⟨some 7, none, [], .mov (.t 0)⟩,
⟨some 8, none, [], .len false (.t 7)⟩,
⟨some 9, none, [], .bin .no .lss (.t 6) (.t 8)⟩] [])
(.cond (.t 9)
.skip
(.exit 0)))
(.seq (.blk 1 (.seq (.reg false [
⟨some 12, none, [], .mov (.t 0)⟩,
⟨some 13, none, [], .mov (.t 5)⟩,
⟨some 14, none, [], .ias 2 (.t 12) (.t 13)⟩,
⟨some 15, none, [], .fad 0 (.t 14)⟩,
⟨some 16, none, [], .ld 1 false (.t 15)⟩,
⟨some 17, none, [], .len true (.t 16)⟩,
⟨some 18, none, [], .bin .no .gtr (.t 17) (.k (.it .i64 0))⟩,
⟨some 19, none, [], .mov (.t 18)⟩,
⟨some 20, some (19, true), [], .mov (.t 0)⟩,
⟨some 21, some (19, true), [], .mov (.t 5)⟩,
⟨some 22, some (19, true), [], .ias 2 (.t 20) (.t 21)⟩,
⟨some 23, some (19, true), [], .fad 0 (.t 22)⟩,
⟨some 24, some (19, true), [], .ld 1 false (.t 23)⟩,
⟨some 25, some (19, true), [], .ixs (.t 24) (.k (.it .i64 0))⟩,
⟨some 26, some (19, true), [], .bin .no .eql (.t 25) (.k (.it .u8 58))⟩,
⟨some 27, none, [], .pick (.t 19) (.t 26) (.k (.bo false))⟩] [])
(.cond (.t 27)
(.seq (.seq (.reg false [
⟨some 28, none, [], .mov (.t 4)⟩,
⟨some 29, none, [], .mov (.t 5)⟩,
⟨some 30, none, [], .bin .no .lss (.t 28) (.t 29)⟩] [])
(.cond (.t 30)
(.seq (.reg false [
⟨some 31, none, [], .mov (.t 4)⟩,
⟨some 2, none, [], .mov (.t 31)⟩,
⟨some 3, none, [], .mov (.k (.bo false))⟩] [])
.ret)
.skip))
(.reg false [
⟨some 32, none, [], .mov (.t 4)⟩,
⟨some 33, none, [], .bin .no .add (.t 32) (.k (.it .i64 1))⟩,
⟨some 4, none, [], .mov (.t 33)⟩] []))
.skip)))
(.reg false [
⟨some 10, none, [], .mov (.t 5)⟩,
⟨some 11, none, [], .bin .no .add (.t 10) (.k (.it .i64 1))⟩,
⟨some 5, none, [], .mov (.t 11)⟩] []))))))
(.seq (.reg false [
⟨some 34, none, [], .mov (.t 4)⟩,
⟨some 2, none, [], .mov (.t 34)⟩,
⟨some 3, none, [], .mov (.k (.bo true))⟩] [])
.ret))))⟩
def c30 : Ev.Fn := d30.den
def p30 : Pol := { loc := [], md := .pure, mds := mds, heap := [], own := [], ord := [], clr := [], mask := [(3, [0, 4, 5], [])], fns := [], lcl := [] }
theorem r30 : FnOK Try.prog mds 30 c30 := .read (pol := p30) (d := d30) Try.func30 (by kernel_rfl) (by kernel_rfl) rfl rfl (by kernel_rfl)

/- reservoir/message.Trailers -/
def d31 : DFn := ⟨[(.c (.sl [.one, .one]))], [(.c .one)], .pure, [.tmp 2],
(.seq (.reg false [
⟨some 2, none, [], .mov (.k (.bo false))⟩] [])
(.seq (.reg false [
⟨some 3, none, [], .mov (.t 0)⟩,
⟨some 4, none, [], .call false .rw 72 [(.t 3), (.k (.fn 63 [] []))]⟩,
⟨some 5, none, [], .un .not (.t 4)⟩,
⟨some 6, none, [], .mov (.t 5)⟩,
⟨some 7, some (6, true), [], .mov (.t 0)⟩,
⟨some 8, some (6, true), [], .call false .pure 73 [(.t 7)]⟩,
⟨some 9, none, [], .pick (.t 6) (.t 8) (.k (.bo false))⟩,
⟨some 2, none, [], .mov (.t 9)⟩] [])
.ret))⟩
def c31 : Ev.Fn := d31.den
def p31 : Pol := { loc := [], md := .pure, mds := mds, heap := [], own := [], ord := [], clr := [], mask := [], fns := [63], lcl := [] }
theorem r31 : FnOK Try.prog mds 31 c31 := .read (pol := p31) (d := d31) Try.func31 (by kernel_rfl) (by kernel_rfl) rfl rfl (by kernel_rfl)

/- reservoir/reservoirref14.Plain -/
def d32 : DFn := ⟨[(.c (.sl [.one, .one]))], [(.c .one)], .pure, [.tmp 2],
(.seq (.reg false [
⟨some 2, none, [], .mov (.k (.bo false))⟩] [])
(.seq (.seq (.reg false [
⟨some 3, none, [], .mov (.k (.it .i64 0))⟩] [])
(.blk 0 (.loop [0, 3] [4]
(.seq (.seq (.reg false [
⟨some 5, none, [], .mov (.t 3)⟩,
⟨some 6, none, [], .mov (.t 0)⟩,
⟨some 7, none, [], .len false (.t 6)⟩,
⟨some 8, none, [], .bin .no .lss (.t 5) (.t 7)⟩] [])
(.cond (.t 8)
.skip
(.exit 0)))
(.seq (.blk 1 (.seq (.reg false [
⟨some 11, none, [], .mov (.t 0)⟩,
⟨some 12, none, [], .mov (.t 3)⟩,
⟨some 13, none, [], .ias 2 (.t 11) (.t 12)⟩,
⟨some 14, none, [], .ld 2 true (.t 13)⟩,
⟨some 4, none, [], .alc [(.st []), (.st [])]⟩,
⟨none, none, [], .sto 2 (.t 4) (.t 14)⟩] [])
(.seq (.seq (.reg false [
⟨some 15, none, [], .fad 0 (.t 4)⟩,
⟨some 16, none, [], .ld 1 false (.t 15)⟩,
⟨some 17, none, [], .call false .pure 74 [(.t 16)]⟩,
⟨some 18, none, [], .un .not (.t 17)⟩,
⟨some 19, none, [], .mov (.t 18)⟩,
⟨some 20, some (19, false), [], .fad 1 (.t 4)⟩,
⟨some 21, some (19, false), [], .ld 1 false (.t 20)⟩,
⟨some 22, some (19, false), [], .call false .pure 68 [(.t 21)]⟩,
⟨some 23, some (19, false), [], .un .not (.t 22)⟩,
⟨some 24, none, [], .pick (.t 19) (.k (.bo true)) (.t 23)⟩] [15, 20])
(.cond (.t 24)
(.seq (.reg false [
⟨some 2, none, [], .mov (.k (.bo false))⟩] [])
.ret)
.skip))
(.seq (.reg false [
⟨some 25, none, [], .fad 0 (.t 4)⟩,
⟨some 26, none, [], .ld 1 false (.t 25)⟩] [25])
(.blk 2 (.seq (.seq (.reg false [
⟨some 28, none, [], .bin .no .eql (.t 26) (.k (.st [99, 111, 110, 110, 101, 99, 116, 105, 111, 110]))⟩,
⟨some 27, none, [], .mov (.t 28)⟩] [])
(.cond (.t 27)
.skip
(.seq (.reg false [
⟨some 29, none, [], .bin .no .eql (.t 26) (.k (.st [112, 114, 111, 120, 121, 45, 99, 111, 110, 110, 101, 99, 116, 105, 111, 110]))⟩,
⟨some 27, none, [], .mov (.t 29)⟩] [])
(.cond (.t 27)
.skip
(.seq (.reg false [
⟨some 30, none, [], .bin .no .eql (.t 26) (.k (.st [107, 101, 101, 112, 45, 97, 108, 105, 118, 101]))⟩,
⟨some 27, none, [], .mov (.t 30)⟩] [])
(.cond (.t 27)
.skip
(.seq (.reg false [
⟨some 31, none, [], .bin .no .eql (.t 26) (.k (.st [116, 114, 97, 110, 115, 102, 101, 114, 45, 101, 110, 99, 111, 100, 105, 110, 103]))⟩,
⟨some 27, none, [], .mov (.t 31)⟩] [])
(.cond (.t 27)
.skip
(.reg false [
⟨some 32, none, [], .bin .no .eql (.t 26) (.k (.st [117, 112, 103, 114, 97, 100, 101]))⟩,
⟨some 27, none, [], .mov (.t 32)⟩] [])))))))))
(.cond (.t 27)
(.seq (.reg false [
⟨some 2, none, [], .mov (.k (.bo false))⟩] [])
.ret)
(.seq (.reg false [
⟨some 34, none, [], .bin .no .eql (.t 26) (.k (.st [116, 101]))⟩,
⟨some 33, none, [], .mov (.t 34)⟩] [])
(.cond (.t 33)
(.seq (.reg false [
⟨some 35, none, [], .fad 1 (.t 4)⟩,
⟨some 36, none, [], .ld 1 false (.t 35)⟩,
⟨some 37, none, [], .bin .no .neq (.t 36) (.k (.st [116, 114, 97, 105, 108, 101, 114, 115]))⟩] [35])
(.cond (.t 37)
(.seq (.reg false [
⟨some 2, none, [], .mov (.k (.bo false))⟩] [])
.ret)
.skip))
.skip)))))))))
(.reg false [
⟨some 9, none, [], .mov (.t 3)⟩,
⟨some 10, none, [], .bin .no .add (.t 9) (.k (.it .i64 1))⟩,
⟨some 3, none, [], .mov (.t 10)⟩] []))))))
(.seq (.reg false [
⟨some 2, none, [], .mov (.k (.bo true))⟩] [])
.ret)))⟩
def c32 : Ev.Fn := d32.den
def p32 : Pol := { loc := [4], md := .pure, mds := mds, heap := [], own := [], ord := [], clr := [(5, [15, 20]), (7, [25]), (15, [35])], mask := [(2, [0, 3], [4])], fns := [], lcl := [] }
theorem r32 : FnOK Try.prog mds 32 c32 := .read (pol := p32) (d := d32) Try.func32 (by kernel_rfl) (by kernel_rfl) rfl rfl (by kernel_rfl)

/- reservoir/reservoirbook.Intact[reservoir/api.Field] -/
def d33 : DFn := ⟨[(.c (.sl [.one, .one])), (.c (.sl [.one, .one])), (.g [.one, .one])], [(.c .one)], .pure, [.tmp 6],
(.seq (.reg false [
⟨some 5, none, [], .box (.t 2)⟩,
⟨some 6, none, [], .mov (.k (.bo false))⟩] [])
(.seq (.seq (.reg false [
⟨some 8, none, [], .mov (.t 0)⟩,
⟨some 9, none, [], .len false (.t 8)⟩,
⟨some 10, none, [], .mov (.t 1)⟩,
⟨some 11, none, [], .len false (.t 10)⟩,
⟨some 12, none, [], .bin .no .add (.t 11) (.k (.it .i64 80))⟩,
⟨some 13, none, [], .bin .no .neq (.t 9) (.t 12)⟩,
⟨some 14, none, [], .mov (.t 13)⟩,
⟨some 15, some (14, false), [], .mov (.t 0)⟩,
⟨some 16, some (14, false), [], .mov (.t 1)⟩,
⟨some 17, some (14, false), [], .len false (.t 16)⟩,
⟨some 18, some (14, false), [], .slc false 2 (.t 15) none (some (.t 17))⟩,
⟨some 19, some (14, false), [], .mov (.t 1)⟩,
⟨some 20, some (14, false), [], .call false .ro 51 [(.t 18), (.t 19)]⟩,
⟨some 21, some (14, false), [], .un .not (.t 20)⟩,
⟨some 22, none, [], .pick (.t 14) (.k (.bo true)) (.t 21)⟩] [])
(.cond (.t 22)
(.seq (.reg false [
⟨some 6, none, [], .mov (.k (.bo false))⟩] [])
.ret)
.skip))
(.seq (.seq (.reg false [
⟨some 23, none, [], .mov (.t 1)⟩,
⟨some 24, none, [], .len false (.t 23)⟩,
⟨some 7, none, [], .mov (.t 24)⟩] [])
(.blk 0 (.loop [0, 5, 7] []
(.seq (.seq (.reg false [
⟨some 25, none, [], .mov (.t 7)⟩,
⟨some 26, none, [], .mov (.t 0)⟩,
⟨some 27, none, [], .len false (.t 26)⟩,
⟨some 28, none, [], .bin .no .lss (.t 25) (.t 27)⟩] [])
(.cond (.t 28)
.skip
(.exit 0)))
(.seq (.blk 1 (.seq (.reg true [
⟨some 31, none, [], .mov (.t 0)⟩,
⟨some 32, none, [], .mov (.t 7)⟩,
⟨some 33, none, [], .ias 2 (.t 31) (.t 32)⟩,
⟨some 34, none, [], .ld 2 true (.t 33)⟩,
⟨some 35, none, [], .ld 2 true (.t 5)⟩,
⟨some 36, none, [], .bin (.ag [1, 1]) .neq (.t 34) (.t 35)⟩] [])
(.cond (.t 36)
(.seq (.reg false [
⟨some 6, none, [], .mov (.k (.bo false))⟩] [])
.ret)
.skip)))
(.reg false [
⟨some 29, none, [], .mov (.t 7)⟩,
⟨some 30, none, [], .bin .no .add (.t 29) (.k (.it .i64 1))⟩,
⟨some 7, none, [], .mov (.t 30)⟩] []))))))
(.seq (.reg false [
⟨some 6, none, [], .mov (.k (.bo true))⟩] [])
.ret))))⟩
def c33 : Ev.Fn := d33.den
def p33 : Pol := { loc := [5], md := .pure, mds := mds, heap := [], own := [], ord := [(0, [1, 0])], clr := [], mask := [(4, [0, 5, 7], [])], fns := [], lcl := [] }
theorem r33 : FnOK Try.prog mds 33 c33 := .read (pol := p33) (d := d33) Try.func33 (by kernel_rfl) (by kernel_rfl) rfl rfl (by kernel_rfl)

/- reservoir/reservoirkeep.Small -/
def d39 : DFn := ⟨[(.g [.one, .one, .one, .one, (.sl [.one, .one]), .one, .one, (.sl [.one, .one]), .one, .one, .one, .one])], [(.c .one)], .pure, [.tmp 2],
(.seq (.reg false [
⟨some 1, none, [], .box (.t 0)⟩,
⟨some 2, none, [], .mov (.k (.bo false))⟩] [])
(.seq (.reg false [
⟨some 3, none, [], .fad 0 (.t 1)⟩,
⟨some 4, none, [], .fad 4 (.t 3)⟩,
⟨some 5, none, [], .ld 1 false (.t 4)⟩,
⟨some 6, none, [], .call false .pure 40 [(.t 5)]⟩,
⟨some 7, none, [], .mov (.t 6)⟩,
⟨some 8, some (7, true), [], .fad 6 (.t 1)⟩,
⟨some 9, some (7, true), [], .fad 1 (.t 8)⟩,
⟨some 10, some (7, true), [], .ld 1 false (.t 9)⟩,
⟨some 11, some (7, true), [], .call false .pure 40 [(.t 10)]⟩,
⟨some 12, none, [], .pick (.t 7) (.t 11) (.k (.bo false))⟩,
⟨some 13, none, [], .mov (.t 12)⟩,
⟨some 14, some (13, true), [], .fad 9 (.t 1)⟩,
⟨some 15, some (13, true), [], .ld 1 false (.t 14)⟩,
⟨some 16, some (13, true), [], .len true (.t 15)⟩,
⟨some 17, some (13, true), [], .bin .no .leq (.t 16) (.k (.it .i64 2000))⟩,
⟨some 18, none, [], .pick (.t 13) (.t 17) (.k (.bo false))⟩,
⟨some 2, none, [], .mov (.t 18)⟩] [3, 4, 8, 9, 14])
.ret))⟩
def c39 : Ev.Fn := d39.den
def p39 : Pol := { loc := [1], md := .pure, mds := mds, heap := [], own := [], ord := [(0, [1, 0])], clr := [(1, [3, 4, 8, 9, 14])], mask := [], fns := [], lcl := [] }
theorem r39 : FnOK Try.prog mds 39 c39 := .read (pol := p39) (d := d39) Try.func39 (by kernel_rfl) (by kernel_rfl) rfl rfl (by kernel_rfl)

/- reservoir/reservoirkeep.Light -/
def d40 : DFn := ⟨[(.c (.sl [.one, .one]))], [(.c .one)], .pure, [.tmp 2],
(.seq (.reg false [
⟨some 2, none, [], .mov (.k (.bo false))⟩] [])
(.seq (.reg false [
⟨some 3, none, [], .mov (.k (.it .i64 0))⟩] [])
(.seq (.seq (.reg false [
⟨some 4, none, [], .mov (.k (.it .i64 0))⟩] [])
(.blk 0 (.loop [0, 3, 4] []
(.seq (.seq (.reg false [
⟨some 5, none, [], .mov (.t 4)⟩,
⟨some 6, none, [], .mov (.t 0)⟩,
⟨some 7, none, [], .len false (.t 6)⟩,
⟨some 8, none, [], .bin .no .lss (.t 5) (.t 7)⟩] [])
(.cond (.t 8)
.skip
(.exit 0)))
(.seq (.blk 1 (.seq (.reg true [
⟨some 11, none, [], .mov (.t 3)⟩,
⟨some 12, none, [], .mov (.t 0)⟩,
⟨some 13, none, [], .mov (.t 4)⟩,
⟨some 14, none, [], .ias 2 (.t 12) (.t 13)⟩,
⟨some 15, none, [], .fad 0 (.t 14)⟩,
⟨some 16, none, [], .ld 1 false (.t 15)⟩,
⟨some 17, none, [], .len true (.t 16)⟩,
⟨some 18, none, [], .bin .no .add (.t 11) (.t 17)⟩,
⟨some 19, none, [], .mov (.t 0)⟩,
⟨some 20, none, [], .mov (.t 4)⟩,
⟨some 21, none, [], .ias 2 (.t 19) (.t 20)⟩,
⟨some 22, none, [], .fad 1 (.t 21)⟩,
⟨some 23, none, [], .ld 1 false (.t 22)⟩,
⟨some 24, none, [], .len true (.t 23)⟩,
⟨some 25, none, [], .bin .no .add (.t 18) (.t 24)⟩,
⟨some 26, none, [], .bin .no .add (.t 25) (.k (.it .i64 1))⟩,
⟨some 3, none, [], .mov (.t 26)⟩] [])
(.seq (.reg false [
⟨some 27, none, [], .mov (.t 3)⟩,
⟨some 28, none, [], .bin .no .gtr (.t 27) (.k (.it .i64 2000))⟩] [])
(.cond (.t 28)
(.seq (.reg false [
⟨some 2, none, [], .mov (.k (.bo false))⟩] [])
.ret)
.skip))))
(.reg false [
⟨some 9, none, [], .mov (.t 4)⟩,
⟨some 10, none, [], .bin .no .add (.t 9) (.k (.it .i64 1))⟩,
⟨some 4, none, [], .mov (.t 10)⟩] []))))))
(.seq (.reg false [
⟨some 2, none, [], .mov (.k (.bo true))⟩] [])
.ret))))⟩
def c40 : Ev.Fn := d40.den
def p40 : Pol := { loc := [], md := .pure, mds := mds, heap := [], own := [], ord := [], clr := [], mask := [(3, [0, 3, 4], [])], fns := [], lcl := [] }
theorem r40 : FnOK Try.prog mds 40 c40 := .read (pol := p40) (d := d40) Try.func40 (by kernel_rfl) (by kernel_rfl) rfl rfl (by kernel_rfl)

/- reservoir/reservoirref14.All -/
def d43 : DFn := ⟨[(.c (.sl [.one, .one])), (.c .one)], [(.c .one), (.c .one)], .pure, [.tmp 4, .tmp 5],
(.seq (.reg false [
⟨some 4, none, [], .mov (.k (.st []))⟩,
⟨some 5, none, [], .mov (.k (.it .i64 0))⟩] [])
(.seq (.reg false [
⟨some 6, none, [], .mov (.k (.st []))⟩,
⟨some 7, none, [], .mov (.k (.it .i64 0))⟩] [])
(.seq (.seq (.reg false [
⟨some 8, none, [], .mov (.k (.it .i64 0))⟩] [])
(.blk 0 (.loop [0, 1, 6, 7, 8] []
(.seq (.seq (.reg false [
⟨some 9, none, [], .mov (.t 8)⟩,
⟨some 10, none, [], .mov (.t 0)⟩,
⟨some 11, none, [], .len false (.t 10)⟩,
⟨some 12, none, [], .bin .no .lss (.t 9) (.t 11)⟩] [])
(.cond (.t 12)
.skip
(.exit 0)))
(.seq (.blk 1 (.seq (.seq (.reg false [
⟨some 15, none, [], .mov (.t 0)⟩,
⟨some 16, none, [], .mov (.t 8)⟩,
⟨some 17, none, [], .ias 2 (.t 15) (.t 16)⟩,
⟨some 18, none, [], .fad 0 (.t 17)⟩,
⟨some 19, none, [], .ld 1 false (.t 18)⟩,
⟨some 20, none, [], .mov (.t 1)⟩,
⟨some 21, none, [], .bin .no .neq (.t 19) (.t 20)⟩] [])
(.cond (.t 21)
(.exit 1)
.skip))
(.seq (.seq (.reg false [
⟨some 22, none, [], .mov (.t 7)⟩,
⟨some 23, none, [], .bin .no .gtr (.t 22) (.k (.it .i64 0))⟩] [])
(.cond (.t 23)
(.reg false [
⟨some 24, none, [], .mov (.t 6)⟩,
⟨some 25, none, [], .bin .no .add (.t 24) (.k (.st [44, 32]))⟩,
⟨some 6, none, [], .mov (.t 25)⟩] [])
.skip))
(.seq (.reg false [
⟨some 26, none, [], .mov (.t 6)⟩,
⟨some 27, none, [], .mov (.t 0)⟩,
⟨some 28, none, [], .mov (.t 8)⟩,
⟨some 29, none, [], .ias 2 (.t 27) (.t 28)⟩,
⟨some 30, none, [], .fad 1 (.t 29)⟩,
⟨some 31, none, [], .ld 1 false (.t 30)⟩,
⟨some 32, none, [], .bin .no .add (.t 26) (.t 31)⟩,
⟨some 6, none, [], .mov (.t 32)⟩] [])
(.reg false [
⟨some 33, none, [], .mov (.t 7)⟩,
⟨some 34, none, [], .bin .no .add (.t 33) (.k (.it .i64 1))⟩,
⟨some 7, none, [], .mov (.t 34)⟩] [])))))
(.reg false [
⟨some 13, none, [], .mov (.t 8)⟩,
⟨some 14, none, [], .bin .no .add (.t 13) (.k (.it .i64 1))⟩,
⟨some 8, none, [], .mov (.t 14)⟩] []))))))
(.seq (.reg false [
⟨some 35, none, [], .mov (.t 6)⟩,
⟨some 36, none, [], .mov (.t 7)⟩,
⟨some 4, none, [], .mov (.t 35)⟩,
⟨some 5, none, [], .mov (.t 36)⟩] [])
.ret))))⟩
def c43 : Ev.Fn := d43.den
def p43 : Pol := { loc := [], md := .pure, mds := mds, heap := [], own := [], ord := [], clr := [], mask := [(3, [0, 1, 6, 7, 8], [])], fns := [], lcl := [] }
theorem r43 : FnOK Try.prog mds 43 c43 := .read (pol := p43) (d := d43) Try.func43 (by kernel_rfl) (by kernel_rfl) rfl rfl (by kernel_rfl)

/- reservoir/merge.Ask -/
def d45 : DFn := ⟨[(.g [.one, .one, .one, .one, (.sl [.one, .one]), .one, .one, (.sl [.one, .one]), .one, .one, .one, .one]), (.g [.one, .one, .one, .one, (.sl [.one, .one]), .one])], [(.g [.one, .one, .one, .one, (.sl [.one, .one]), .one]), (.c .one)], .pure, [.cell 4 6 true, .tmp 5],
(.seq (.reg false [
⟨some 2, none, [], .box (.t 0)⟩,
⟨some 3, none, [], .box (.t 1)⟩,
⟨some 4, none, [], .alc [(.st []), (.st []), (.st []), (.st []), .ns, (.it .i64 0)]⟩,
⟨some 5, none, [], .mov (.k (.bo false))⟩] [])
(.seq (.reg false [
⟨some 14, none, [], .fad 6 (.t 2)⟩,
⟨some 15, none, [], .fad 1 (.t 14)⟩,
⟨some 16, none, [], .ld 1 false (.t 15)⟩,
⟨some 17, none, [], .call false .pure 79 [(.t 16), (.k (.st [101, 116, 97, 103]))]⟩,
⟨some 13, none, [], .mov (.t 17)⟩,
⟨some 18, none, [], .ext (.t 13) 0⟩,
⟨some 19, none, [], .ext (.t 13) 1⟩,
⟨some 6, none, [], .mov (.t 18)⟩,
⟨some 7, none, [], .mov (.t 19)⟩] [14, 15])
(.seq (.reg false [
⟨some 21, none, [], .fad 6 (.t 2)⟩,
⟨some 22, none, [], .fad 1 (.t 21)⟩,
⟨some 23, none, [], .ld 1 false (.t 22)⟩,
⟨some 24, none, [], .call false .pure 79 [(.t 23), (.k (.st [108, 97, 115, 116, 45, 109, 111, 100, 105, 102, 105, 101, 100]))]⟩,
⟨some 20, none, [], .mov (.t 24)⟩,
⟨some 25, none, [], .ext (.t 20) 0⟩,
⟨some 26, none, [], .ext (.t 20) 1⟩,
⟨some 8, none, [], .mov (.t 25)⟩,
⟨some 9, none, [], .mov (.t 26)⟩] [21, 22])
(.seq (.reg false [
⟨some 10, none, [], .mov (.k .ns)⟩] [])
(.seq (.seq (.reg false [
⟨some 27, none, [], .fad 4 (.t 3)⟩,
⟨some 28, none, [], .ld 1 false (.t 27)⟩,
⟨some 29, none, [], .len false (.t 28)⟩,
⟨some 30, none, [], .mov (.k (.it .i64 0))⟩] [27])
(.blk 0 (.loop [3, 4, 6, 7, 8, 9, 10, 28, 29, 30] [2, 12]
(.seq (.reg false [
⟨some 31, none, [], .bin .no .lss (.t 30) (.t 29)⟩] [])
(.seq (.cond (.t 31)
.skip
(.exit 0))
(.seq (.blk 1 (.seq (.reg false [
⟨some 32, none, [], .ias 2 (.t 28) (.t 30)⟩,
⟨some 33, none, [], .ld 2 true (.t 32)⟩,
⟨some 12, none, [], .alc [(.st []), (.st [])]⟩,
⟨none, none, [], .sto 2 (.t 12) (.t 33)⟩] [])
(.seq (.reg false [
⟨some 34, none, [], .mov (.t 7)⟩,
⟨some 35, none, [], .un .not (.t 34)⟩,
⟨some 36, none, [], .mov (.t 35)⟩,
⟨some 37, some (36, true), [], .mov (.t 9)⟩,
⟨some 38, some (36, true), [], .un .not (.t 37)⟩,
⟨some 39, none, [], .pick (.t 36) (.t 38) (.k (.bo false))⟩,
⟨some 40, none, [], .mov (.t 39)⟩,
⟨some 41, some (40, false), [], .fad 0 (.t 12)⟩,
⟨some 42, some (40, false), [], .ld 1 false (.t 41)⟩,
⟨some 43, some (40, false), [], .call false .pure 80 [(.t 42)]⟩,
⟨some 44, some (40, false), [], .un .not (.t 43)⟩,
⟨some 45, none, [], .pick (.t 40) (.k (.bo true)) (.t 44)⟩] [41])
(.cond (.t 45)
(.reg false [
⟨some 46, none, [], .mov (.t 10)⟩,
⟨some 47, none, [], .ld 2 true (.t 12)⟩,
⟨some 48, none, [], .bsv [.one, .one] 2 [[(.st []), (.st [])]] [(0, (.t 47))]⟩,
⟨some 49, none, [], .app 2 32 (.t 46) (.t 48)⟩,
⟨some 10, none, [], .mov (.t 49)⟩] [])
.skip))))
(.reg false [
⟨some 50, none, [], .bin .no .add (.t 30) (.k (.it .i64 1))⟩,
⟨some 30, none, [], .mov (.t 50)⟩] [])))))))
(.seq (.seq (.reg false [
⟨some 51, none, [], .mov (.t 7)⟩] [])
(.cond (.t 51)
(.reg false [
⟨some 52, none, [], .mov (.t 10)⟩,
⟨some 53, none, [], .mov (.t 6)⟩,
⟨some 54, none, [], .bld [(.st []), (.st [])] [(0, 1, (.k (.st [105, 102, 45, 110, 111, 110, 101, 45, 109, 97, 116, 99, 104]))), (1, 1, (.t 53))]⟩,
⟨some 55, none, [], .bsv [.one, .one] 2 [[(.st []), (.st [])]] [(0, (.t 54))]⟩,
⟨some 56, none, [], .app 2 32 (.t 52) (.t 55)⟩,
⟨some 10, none, [], .mov (.t 56)⟩] [])
.skip))
(.seq (.seq (.reg false [
⟨some 57, none, [], .mov (.t 9)⟩] [])
(.cond (.t 57)
(.reg false [
⟨some 58, none, [], .mov (.t 10)⟩,
⟨some 59, none, [], .mov (.t 8)⟩,
⟨some 60, none, [], .bld [(.st []), (.st [])] [(0, 1, (.k (.st [105, 102, 45, 109, 111, 100, 105, 102, 105, 101, 100, 45, 115, 105, 110, 99, 101]))), (1, 1, (.t 59))]⟩,
⟨some 61, none, [], .bsv [.one, .one] 2 [[(.st []), (.st [])]] [(0, (.t 60))]⟩,
⟨some 62, none, [], .app 2 32 (.t 58) (.t 61)⟩,
⟨some 10, none, [], .mov (.t 62)⟩] [])
.skip))
(.seq (.reg false [
⟨some 63, none, [], .mov (.t 10)⟩,
⟨some 64, none, [], .fad 4 (.t 3)⟩,
⟨none, none, [], .sto 1 (.t 64) (.t 63)⟩] [64])
(.seq (.reg false [
⟨some 65, none, [], .ld 6 true (.t 3)⟩,
⟨some 66, none, [], .mov (.t 7)⟩,
⟨some 67, none, [], .mov (.t 66)⟩,
⟨some 68, some (67, false), [], .mov (.t 9)⟩,
⟨some 69, none, [], .pick (.t 67) (.k (.bo true)) (.t 68)⟩,
⟨none, none, [], .sto 6 (.t 4) (.t 65)⟩,
⟨some 5, none, [], .mov (.t 69)⟩] [])
.ret)))))))))⟩
def c45 : Ev.Fn := d45.den
def p45 : Pol := { loc := [2, 3, 4, 12], md := .pure, mds := mds, heap := [49, 56, 62], own := [49, 56, 62], ord := [(0, [3, 0, 1, 2])], clr := [(1, [14, 15]), (2, [21, 22]), (4, [27]), (7, [41]), (14, [64])], mask := [(5, [3, 4, 6, 7, 8, 9, 10, 28, 29, 30], [2, 12])], fns := [], lcl := [] }
theorem r45 : FnOK Try.prog mds 45 c45 := .read (pol := p45) (d := d45) Try.func45 (by kernel_rfl) (by kernel_rfl) rfl rfl (by kernel_rfl)

/- reservoir/reservoirlaw22.entry -/
def d46 : DFn := ⟨[(.c (.sl [.one, .one]))], [(.g [.one, .one, .one, .one, (.sl [.one, .one]), .one, .one, (.sl [.one, .one]), .one, .one, .one, .one])], .pure, [.cell 2 12 true],
(.seq (.reg false [
⟨some 2, none, [], .alc [(.st []), (.st []), (.st []), (.st []), .ns, (.it .i64 0), (.it .i64 0), .ns, (.it .i64 0), (.st []), (.it .i64 0), (.it .i64 0)]⟩] [])
(.seq (.reg false [
⟨some 3, none, [], .mov (.t 0)⟩,
⟨some 4, none, [], .bld [(.it .i64 0), .ns, (.it .i64 0)] [(0, 1, (.k (.it .i64 200))), (1, 1, (.t 3))]⟩,
⟨some 5, none, [], .bld [(.st []), (.st []), (.st []), (.st []), .ns, (.it .i64 0), (.it .i64 0), .ns, (.it .i64 0), (.st []), (.it .i64 0), (.it .i64 0)] [(6, 3, (.t 4))]⟩,
⟨none, none, [], .sto 12 (.t 2) (.t 5)⟩] [])
.ret))⟩
def c46 : Ev.Fn := d46.den
def p46 : Pol := { loc := [2], md := .pure, mds := mds, heap := [], own := [], ord := [], clr := [], mask := [], fns := [], lcl := [] }
theorem r46 : FnOK Try.prog mds 46 c46 := .read (pol := p46) (d := d46) Try.func46 (by kernel_rfl) (by kernel_rfl) rfl rfl (by kernel_rfl)

/- reservoir/reservoirlaw22.of -/
def d47 : DFn := ⟨[(.c .one), (.c .one)], [(.g [.one, .one])], .pure, [.cell 4 2 true],
(.seq (.reg false [
⟨some 4, none, [], .alc [(.st []), (.st [])]⟩] [])
(.seq (.reg false [
⟨some 5, none, [], .mov (.t 0)⟩,
⟨some 6, none, [], .mov (.t 1)⟩,
⟨some 7, none, [], .bld [(.st []), (.st [])] [(0, 1, (.t 5)), (1, 1, (.t 6))]⟩,
⟨none, none, [], .sto 2 (.t 4) (.t 7)⟩] [])
.ret))⟩
def c47 : Ev.Fn := d47.den
def p47 : Pol := { loc := [4], md := .pure, mds := mds, heap := [], own := [], ord := [], clr := [], mask := [], fns := [], lcl := [] }
theorem r47 : FnOK Try.prog mds 47 c47 := .read (pol := p47) (d := d47) Try.func47 (by kernel_rfl) (by kernel_rfl) rfl rfl (by kernel_rfl)

/- reservoir/merge.Renew -/
def d48 : DFn := ⟨[(.g [.one, .one, .one, .one, (.sl [.one, .one]), .one, .one, (.sl [.one, .one]), .one, .one, .one, .one]), (.g [.one, (.sl [.one, .one]), .one]), (.c .one), (.c .one)], [(.g [.one, .one, .one, .one, (.sl [.one, .one]), .one, .one, (.sl [.one, .one]), .one, .one, .one, .one])], .rw, [.cell 8 12 true],
(.seq (.reg false [
⟨some 4, none, [], .box (.t 0)⟩,
⟨some 5, none, [], .box (.t 1)⟩,
⟨some 8, none, [], .alc [(.st []), (.st []), (.st []), (.st []), .ns, (.it .i64 0), (.it .i64 0), .ns, (.it .i64 0), (.st []), (.it .i64 0), (.it .i64 0)]⟩] [])
(.seq (.reg false [
⟨some 9, none, [], .mov (.k .ns)⟩] [])
(.seq (.reg false [
⟨some 15, none, [], .fad 1 (.t 5)⟩,
⟨some 16, none, [], .ld 1 false (.t 15)⟩,
⟨some 17, none, [], .call false .pure 81 [(.t 16), (.k (.st [97, 103, 101]))]⟩,
⟨some 10, none, [], .mov (.t 17)⟩] [15])
(.seq (.seq (.reg false [
⟨some 18, none, [], .fad 6 (.t 4)⟩,
⟨some 19, none, [], .fad 1 (.t 18)⟩,
⟨some 20, none, [], .ld 1 false (.t 19)⟩,
⟨some 21, none, [], .len false (.t 20)⟩,
⟨some 22, none, [], .mov (.k (.it .i64 0))⟩] [18, 19])
(.blk 0 (.loop [2, 3, 4, 5, 8, 9, 10, 20, 21, 22] [12, 14]
(.seq (.reg false [
⟨some 23, none, [], .bin .no .lss (.t 22) (.t 21)⟩] [])
(.seq (.cond (.t 23)
.skip
(.exit 0))
(.seq (.blk 1 (.seq (.reg false [
⟨some 24, none, [], .ias 2 (.t 20) (.t 22)⟩,
⟨some 25, none, [], .ld 2 true (.t 24)⟩,
⟨some 12, none, [], .alc [(.st []), (.st [])]⟩,
⟨none, none, [], .sto 2 (.t 12) (.t 25)⟩] [])
(.seq (.reg false [
⟨some 26, none, [], .fad 0 (.t 12)⟩,
⟨some 27, none, [], .ld 1 false (.t 26)⟩,
⟨some 28, none, [], .call false .pure 82 [(.t 27)]⟩,
⟨some 29, none, [], .mov (.t 28)⟩,
⟨some 30, some (29, false), [], .fad 1 (.t 5)⟩,
⟨some 31, some (29, false), [], .ld 1 false (.t 30)⟩,
⟨some 32, some (29, false), [], .fad 0 (.t 12)⟩,
⟨some 33, some (29, false), [], .ld 1 false (.t 32)⟩,
⟨some 34, some (29, false), [], .call false .pure 81 [(.t 31), (.t 33)]⟩,
⟨some 35, some (29, false), [], .un .not (.t 34)⟩,
⟨some 36, none, [], .pick (.t 29) (.k (.bo true)) (.t 35)⟩,
⟨some 37, none, [], .mov (.t 36)⟩,
⟨some 38, some (37, true), [], .mov (.t 10)⟩,
⟨some 39, some (37, true), [], .mov (.t 38)⟩,
⟨some 40, some (39, false), [], .fad 0 (.t 12)⟩,
⟨some 41, some (39, false), [], .ld 1 false (.t 40)⟩,
⟨some 42, some (39, false), [], .bin .no .neq (.t 41) (.k (.st [97, 103, 101]))⟩,
⟨some 43, some (37, true), [], .pick (.t 39) (.k (.bo true)) (.t 42)⟩,
⟨some 44, none, [], .pick (.t 37) (.t 43) (.k (.bo false))⟩] [26, 30, 32, 40])
(.cond (.t 44)
(.reg false [
⟨some 45, none, [], .mov (.t 9)⟩,
⟨some 46, none, [], .ld 2 true (.t 12)⟩,
⟨some 47, none, [], .bsv [.one, .one] 2 [[(.st []), (.st [])]] [(0, (.t 46))]⟩,
⟨some 48, none, [], .app 2 32 (.t 45) (.t 47)⟩,
⟨some 9, none, [], .mov (.t 48)⟩] [])
.skip))))
(.reg false [
⟨some 49, none, [], .bin .no .add (.t 22) (.k (.it .i64 1))⟩,
⟨some 22, none, [], .mov (.t 49)⟩] [])))))))
(.seq (.seq (.reg false [
⟨some 50, none, [], .fad 1 (.t 5)⟩,
⟨some 51, none, [], .ld 1 false (.t 50)⟩,
⟨some 52, none, [], .len false (.t 51)⟩,
⟨some 53, none, [], .mov (.k (.it .i64 0))⟩] [50])
(.blk 2 (.loop [2, 3, 4, 8, 9, 51, 52, 53] [5, 12, 14]
(.seq (.reg false [
⟨some 54, none, [], .bin .no .lss (.t 53) (.t 52)⟩] [])
(.seq (.cond (.t 54)
.skip
(.exit 2))
(.seq (.blk 3 (.seq (.reg false [
⟨some 55, none, [], .ias 2 (.t 51) (.t 53)⟩,
⟨some 56, none, [], .ld 2 true (.t 55)⟩,
⟨some 14, none, [], .alc [(.st []), (.st [])]⟩,
⟨none, none, [], .sto 2 (.t 14) (.t 56)⟩] [])
(.seq (.reg false [
⟨some 57, none, [], .fad 0 (.t 14)⟩,
⟨some 58, none, [], .ld 1 false (.t 57)⟩,
⟨some 59, none, [], .call false .pure 82 [(.t 58)]⟩,
⟨some 60, none, [], .un .not (.t 59)⟩] [57])
(.cond (.t 60)
(.reg false [
⟨some 61, none, [], .mov (.t 9)⟩,
⟨some 62, none, [], .ld 2 true (.t 14)⟩,
⟨some 63, none, [], .bsv [.one, .one] 2 [[(.st []), (.st [])]] [(0, (.t 62))]⟩,
⟨some 64, none, [], .app 2 32 (.t 61) (.t 63)⟩,
⟨some 9, none, [], .mov (.t 64)⟩] [])
.skip))))
(.reg false [
⟨some 65, none, [], .bin .no .add (.t 53) (.k (.it .i64 1))⟩,
⟨some 53, none, [], .mov (.t 65)⟩] [])))))))
(.seq (.reg false [
⟨some 66, none, [], .mov (.t 9)⟩,
⟨some 67, none, [], .fad 6 (.t 4)⟩,
⟨some 68, none, [], .fad 1 (.t 67)⟩,
⟨none, none, [], .sto 1 (.t 68) (.t 66)⟩] [67, 68])
(.seq (.reg false [
⟨some 69, none, [], .fad 0 (.t 4)⟩,
⟨some 70, none, [], .fad 4 (.t 69)⟩,
⟨some 71, none, [], .ld 1 false (.t 70)⟩,
⟨some 72, none, [], .app 2 32 (.k .ns) (.t 71)⟩,
⟨some 73, none, [], .fad 0 (.t 4)⟩,
⟨some 74, none, [], .fad 4 (.t 73)⟩,
⟨none, none, [], .sto 1 (.t 74) (.t 72)⟩] [69, 70, 73, 74])
(.seq (.reg false [
⟨some 75, none, [], .mov (.t 2)⟩,
⟨some 76, none, [], .mov (.t 3)⟩,
⟨some 77, none, [], .fad 10 (.t 4)⟩,
⟨none, none, [], .sto 1 (.t 77) (.t 75)⟩,
⟨some 78, none, [], .fad 11 (.t 4)⟩,
⟨none, none, [], .sto 1 (.t 78) (.t 76)⟩] [77, 78])
(.seq (.reg false [
⟨some 79, none, [], .ld 12 true (.t 4)⟩,
⟨none, none, [], .sto 12 (.t 8) (.t 79)⟩] [])
.ret)))))))))⟩
def c48 : Ev.Fn := d48.den
def p48 : Pol := { loc := [4, 5, 8, 12, 14], md := .rw, mds := mds, heap := [48, 64], own := [48, 64], ord := [], clr := [(2, [15]), (3, [18, 19]), (6, [26, 30, 32, 40]), (9, [50]), (12, [57]), (15, [67, 68]), (16, [69, 70, 73, 74]), (17, [77, 78])], mask := [(4, [2, 3, 4, 5, 8, 9, 10, 20, 21, 22], [12, 14]), (10, [2, 3, 4, 8, 9, 51, 52, 53], [5, 12, 14])], fns := [], lcl := [] }
theorem r48 : FnOK Try.prog mds 48 c48 := .read (pol := p48) (d := d48) Try.func48 (by kernel_rfl) (by kernel_rfl) rfl rfl (by kernel_rfl)

/- reservoir/merge.Clears -/
def d49 : DFn := ⟨[(.g [.one, .one, .one, .one, (.sl [.one, .one]), .one]), (.g [.one, (.sl [.one, .one]), .one])], [(.c .one)], .pure, [.tmp 4],
(.seq (.reg false [
⟨some 2, none, [], .box (.t 0)⟩,
⟨some 3, none, [], .box (.t 1)⟩,
⟨some 4, none, [], .mov (.k (.bo false))⟩] [])
(.seq (.seq (.reg false [
⟨some 5, none, [], .fad 0 (.t 2)⟩,
⟨some 6, none, [], .ld 1 false (.t 5)⟩] [5])
(.blk 0 (.seq (.seq (.reg false [
⟨some 8, none, [], .bin .no .eql (.t 6) (.k (.st [71, 69, 84]))⟩,
⟨some 7, none, [], .mov (.t 8)⟩] [])
(.cond (.t 7)
.skip
(.seq (.reg false [
⟨some 9, none, [], .bin .no .eql (.t 6) (.k (.st [72, 69, 65, 68]))⟩,
⟨some 7, none, [], .mov (.t 9)⟩] [])
(.cond (.t 7)
.skip
(.seq (.reg false [
⟨some 10, none, [], .bin .no .eql (.t 6) (.k (.st [79, 80, 84, 73, 79, 78, 83]))⟩,
⟨some 7, none, [], .mov (.t 10)⟩] [])
(.cond (.t 7)
.skip
(.reg false [
⟨some 11, none, [], .bin .no .eql (.t 6) (.k (.st [84, 82, 65, 67, 69]))⟩,
⟨some 7, none, [], .mov (.t 11)⟩] [])))))))
(.cond (.t 7)
(.seq (.reg false [
⟨some 4, none, [], .mov (.k (.bo false))⟩] [])
.ret)
.skip))))
(.seq (.reg false [
⟨some 12, none, [], .fad 0 (.t 3)⟩,
⟨some 13, none, [], .ld 1 false (.t 12)⟩,
⟨some 14, none, [], .bin .no .geq (.t 13) (.k (.it .i64 200))⟩,
⟨some 15, none, [], .mov (.t 14)⟩,
⟨some 16, some (15, true), [], .fad 0 (.t 3)⟩,
⟨some 17, some (15, true), [], .ld 1 false (.t 16)⟩,
⟨some 18, some (15, true), [], .bin .no .lss (.t 17) (.k (.it .i64 400))⟩,
⟨some 19, none, [], .pick (.t 15) (.t 18) (.k (.bo false))⟩,
⟨some 4, none, [], .mov (.t 19)⟩] [12, 16])
.ret)))⟩
def c49 : Ev.Fn := d49.den
def p49 : Pol := { loc := [2, 3], md := .pure, mds := mds, heap := [], own := [], ord := [(0, [2, 0, 1])], clr := [(1, [5]), (7, [12, 16])], mask := [], fns := [], lcl := [] }
theorem r49 : FnOK Try.prog mds 49 c49 := .read (pol := p49) (d := d49) Try.func49 (by kernel_rfl) (by kernel_rfl) rfl rfl (by kernel_rfl)

/- reservoir/merge.Same -/
def d50 : DFn := ⟨[(.g [.one, .one, .one, .one, (.sl [.one, .one]), .one, .one, (.sl [.one, .one]), .one, .one, .one, .one]), (.g [.one, .one, .one, .one, (.sl [.one, .one]), .one])], [(.c .one)], .pure, [.tmp 4],
(.seq (.reg false [
⟨some 2, none, [], .box (.t 0)⟩,
⟨some 3, none, [], .box (.t 1)⟩,
⟨some 4, none, [], .mov (.k (.bo false))⟩] [])
(.seq (.seq (.reg false [
⟨some 17, none, [], .fad 4 (.t 3)⟩,
⟨some 18, none, [], .ld 1 false (.t 17)⟩,
⟨some 19, none, [], .call false .pure 81 [(.t 18), (.k (.st [105, 102, 45, 110, 111, 110, 101, 45, 109, 97, 116, 99, 104]))]⟩,
⟨some 20, none, [], .un .not (.t 19)⟩] [17])
(.cond (.t 20)
(.seq (.reg false [
⟨some 22, none, [], .fad 6 (.t 2)⟩,
⟨some 23, none, [], .fad 1 (.t 22)⟩,
⟨some 24, none, [], .ld 1 false (.t 23)⟩,
⟨some 25, none, [], .call false .pure 79 [(.t 24), (.k (.st [108, 97, 115, 116, 45, 109, 111, 100, 105, 102, 105, 101, 100]))]⟩,
⟨some 21, none, [], .mov (.t 25)⟩,
⟨some 26, none, [], .ext (.t 21) 0⟩,
⟨some 27, none, [], .ext (.t 21) 1⟩,
⟨some 5, none, [], .mov (.t 26)⟩,
⟨some 6, none, [], .mov (.t 27)⟩] [22, 23])
(.seq (.reg false [
⟨some 29, none, [], .fad 4 (.t 3)⟩,
⟨some 30, none, [], .ld 1 false (.t 29)⟩,
⟨some 31, none, [], .call false .pure 79 [(.t 30), (.k (.st [105, 102, 45, 109, 111, 100, 105, 102, 105, 101, 100, 45, 115, 105, 110, 99, 101]))]⟩,
⟨some 28, none, [], .mov (.t 31)⟩,
⟨some 32, none, [], .ext (.t 28) 0⟩,
⟨some 33, none, [], .ext (.t 28) 1⟩,
⟨some 7, none, [], .mov (.t 32)⟩,
⟨some 8, none, [], .mov (.t 33)⟩] [29])
(.seq (.reg false [
⟨some 34, none, [], .mov (.t 6)⟩,
⟨some 35, none, [], .mov (.t 34)⟩,
⟨some 36, some (35, true), [], .mov (.t 8)⟩,
⟨some 37, none, [], .pick (.t 35) (.t 36) (.k (.bo false))⟩,
⟨some 38, none, [], .mov (.t 37)⟩,
⟨some 39, some (38, true), [], .mov (.t 5)⟩,
⟨some 40, some (38, true), [], .mov (.t 7)⟩,
⟨some 41, some (38, true), [], .bin .no .eql (.t 39) (.t 40)⟩,
⟨some 42, none, [], .pick (.t 38) (.t 41) (.k (.bo false))⟩,
⟨some 4, none, [], .mov (.t 42)⟩] [])
.ret)))
.skip))
(.seq (.reg false [
⟨some 44, none, [], .fad 6 (.t 2)⟩,
⟨some 45, none, [], .fad 1 (.t 44)⟩,
⟨some 46, none, [], .ld 1 false (.t 45)⟩,
⟨some 47, none, [], .call false .pure 79 [(.t 46), (.k (.st [101, 116, 97, 103]))]⟩,
⟨some 43, none, [], .mov (.t 47)⟩,
⟨some 48, none, [], .ext (.t 43) 0⟩,
⟨some 49, none, [], .ext (.t 43) 1⟩,
⟨some 9, none, [], .mov (.t 48)⟩,
⟨some 10, none, [], .mov (.t 49)⟩] [44, 45])
(.seq (.reg false [
⟨some 51, none, [], .fad 4 (.t 3)⟩,
⟨some 52, none, [], .ld 1 false (.t 51)⟩,
⟨some 53, none, [], .call false .pure 76 [(.t 52), (.k (.st [105, 102, 45, 110, 111, 110, 101, 45, 109, 97, 116, 99, 104]))]⟩,
⟨some 50, none, [], .mov (.t 53)⟩,
⟨some 54, none, [], .ext (.t 50) 0⟩,
⟨some 55, none, [], .ext (.t 50) 1⟩,
⟨some 11, none, [], .mov (.t 54)⟩,
⟨some 12, none, [], .mov (.t 55)⟩] [51])
(.seq (.reg false [
⟨some 57, none, [], .mov (.t 11)⟩,
⟨some 58, none, [], .call false .rw 83 [(.t 57)]⟩,
⟨some 56, none, [], .mov (.t 58)⟩,
⟨some 59, none, [], .ext (.t 56) 0⟩,
⟨some 60, none, [], .ext (.t 56) 1⟩,
⟨some 13, none, [], .mov (.t 59)⟩,
⟨some 14, none, [], .mov (.t 60)⟩] [])
(.seq (.seq (.reg false [
⟨some 61, none, [], .mov (.t 13)⟩,
⟨some 62, none, [], .len false (.t 61)⟩,
⟨some 63, none, [], .mov (.k (.it .i64 0))⟩] [])
(.blk 0 (.loop [9, 10, 61, 62, 63] [2, 3]
(.seq (.reg false [
⟨some 64, none, [], .bin .no .lss (.t 63) (.t 62)⟩] [])
(.seq (.cond (.t 64)
.skip
(.exit 0))
(.seq (.blk 1 (.seq (.reg false [
⟨some 65, none, [], .ias 1 (.t 61) (.t 63)⟩,
⟨some 66, none, [], .ld 1 false (.t 65)⟩,
⟨some 16, none, [], .mov (.t 66)⟩] [])
(.seq (.reg false [
⟨some 67, none, [], .mov (.t 16)⟩,
⟨some 68, none, [], .bin .no .eql (.t 67) (.k (.st [42]))⟩,
⟨some 69, none, [], .mov (.t 68)⟩,
⟨some 70, some (69, false), [], .mov (.t 10)⟩,
⟨some 71, some (69, false), [], .mov (.t 70)⟩,
⟨some 72, some (71, true), [], .mov (.t 16)⟩,
⟨some 73, some (71, true), [], .call false .pure 84 [(.t 72)]⟩,
⟨some 74, some (71, true), [], .mov (.t 9)⟩,
⟨some 75, some (71, true), [], .call false .pure 84 [(.t 74)]⟩,
⟨some 76, some (71, true), [], .bin .no .eql (.t 73) (.t 75)⟩,
⟨some 77, some (69, false), [], .pick (.t 71) (.t 76) (.k (.bo false))⟩,
⟨some 78, none, [], .pick (.t 69) (.k (.bo true)) (.t 77)⟩] [])
(.cond (.t 78)
(.seq (.reg false [
⟨some 4, none, [], .mov (.k (.bo true))⟩] [])
.ret)
.skip))))
(.reg false [
⟨some 79, none, [], .bin .no .add (.t 63) (.k (.it .i64 1))⟩,
⟨some 63, none, [], .mov (.t 79)⟩] [])))))))
(.seq (.reg false [
⟨some 4, none, [], .mov (.k (.bo false))⟩] [])
.ret)))))))⟩
def c50 : Ev.Fn := d50.den
def p50 : Pol := { loc := [2, 3], md := .pure, mds := mds, heap := [], own := [], ord := [(0, [2, 0, 1]), (11, [0, 1, 2, 3, 4, 5, 7, 6, 8, 9, 10, 11])], clr := [(1, [17]), (2, [22, 23]), (3, [29]), (5, [44, 45]), (6, [51])], mask := [(9, [9, 10, 61, 62, 63], [2, 3])], fns := [], lcl := [] }
theorem r50 : FnOK Try.prog mds 50 c50 := .read (pol := p50) (d := d50) Try.func50 (by kernel_rfl) (by kernel_rfl) rfl rfl (by kernel_rfl)

/- reservoir/reservoirbook.Same[reservoir/api.Field] -/
def d51 : DFn := ⟨[(.c (.sl [.one, .one])), (.c (.sl [.one, .one]))], [(.c .one)], .ro, [.tmp 4],
(.seq (.reg false [
⟨some 4, none, [], .mov (.k (.bo false))⟩] [])
(.seq (.seq (.reg false [
⟨some 6, none, [], .mov (.t 0)⟩,
⟨some 7, none, [], .len false (.t 6)⟩,
⟨some 8, none, [], .mov (.t 1)⟩,
⟨some 9, none, [], .len false (.t 8)⟩,
⟨some 10, none, [], .bin .no .neq (.t 7) (.t 9)⟩] [])
(.cond (.t 10)
(.seq (.reg false [
⟨some 4, none, [], .mov (.k (.bo false))⟩] [])
.ret)
.skip))
(.seq (.seq (.reg false [
⟨some 5, none, [], .mov (.k (.it .i64 0))⟩] [])
(.blk 0 (.loop [0, 1, 5] []
(.seq (.seq (.reg false [
⟨some 11, none, [], .mov (.t 5)⟩,
⟨some 12, none, [], .mov (.t 0)⟩,
⟨some 13, none, [], .len false (.t 12)⟩,
⟨some 14, none, [], .bin .no .lss (.t 11) (.t 13)⟩] [])
(.cond (.t 14)
.skip
(.exit 0)))
(.seq (.blk 1 (.seq (.reg true [
⟨some 17, none, [], .mov (.t 0)⟩,
⟨some 18, none, [], .mov (.t 5)⟩,
⟨some 19, none, [], .ias 2 (.t 17) (.t 18)⟩,
⟨some 20, none, [], .ld 2 true (.t 19)⟩,
⟨some 21, none, [], .mov (.t 1)⟩,
⟨some 22, none, [], .mov (.t 5)⟩,
⟨some 23, none, [], .ias 2 (.t 21) (.t 22)⟩,
⟨some 24, none, [], .ld 2 true (.t 23)⟩,
⟨some 25, none, [], .bin (.ag [1, 1]) .neq (.t 20) (.t 24)⟩] [])
(.cond (.t 25)
(.seq (.reg false [
⟨some 4, none, [], .mov (.k (.bo false))⟩] [])
.ret)
.skip)))
(.reg false [
⟨some 15, none, [], .mov (.t 5)⟩,
⟨some 16, none, [], .bin .no .add (.t 15) (.k (.it .i64 1))⟩,
⟨some 5, none, [], .mov (.t 16)⟩] []))))))
(.seq (.reg false [
⟨some 4, none, [], .mov (.k (.bo true))⟩] [])
.ret))))⟩
def c51 : Ev.Fn := d51.den
def p51 : Pol := { loc := [], md := .ro, mds := mds, heap := [], own := [], ord := [], clr := [], mask := [(4, [0, 1, 5], [])], fns := [], lcl := [] }
theorem r51 : FnOK Try.prog mds 51 c51 := .read (pol := p51) (d := d51) Try.func51 (by kernel_rfl) (by kernel_rfl) rfl rfl (by kernel_rfl)

/- reservoir/reservoirlaw22.light -/
def d52 : DFn := ⟨[(.g [.one, .one, .one, .one, (.sl [.one, .one]), .one, .one, (.sl [.one, .one]), .one, .one, .one, .one]), (.g [.one, .one, .one, .one, (.sl [.one, .one]), .one]), (.c (.sl [.one, .one]))], [(.c .one)], .pure, [.tmp 6],
(.seq (.reg false [
⟨some 3, none, [], .box (.t 0)⟩,
⟨some 4, none, [], .box (.t 1)⟩,
⟨some 6, none, [], .mov (.k (.bo false))⟩] [])
(.seq (.reg false [
⟨some 7, none, [], .ld 12 true (.t 3)⟩,
⟨some 8, none, [], .call false .pure 39 [(.t 7)]⟩,
⟨some 9, none, [], .mov (.t 8)⟩,
⟨some 10, some (9, true), [], .fad 4 (.t 4)⟩,
⟨some 11, some (9, true), [], .ld 1 false (.t 10)⟩,
⟨some 12, some (9, true), [], .call false .pure 40 [(.t 11)]⟩,
⟨some 13, none, [], .pick (.t 9) (.t 12) (.k (.bo false))⟩,
⟨some 14, none, [], .mov (.t 13)⟩,
⟨some 15, some (14, true), [], .mov (.t 2)⟩,
⟨some 16, some (14, true), [], .call false .pure 40 [(.t 15)]⟩,
⟨some 17, none, [], .pick (.t 14) (.t 16) (.k (.bo false))⟩,
⟨some 6, none, [], .mov (.t 17)⟩] [10])
.ret))⟩
def c52 : Ev.Fn := d52.den
def p52 : Pol := { loc := [3, 4], md := .pure, mds := mds, heap := [], own := [], ord := [(0, [2, 0, 1])], clr := [(1, [10])], mask := [], fns := [], lcl := [] }
theorem r52 : FnOK Try.prog mds 52 c52 := .read (pol := p52) (d := d52) Try.func52 (by kernel_rfl) (by kernel_rfl) rfl rfl (by kernel_rfl)

/- reservoir/reservoirref14.Ask -/
def d53 : DFn := ⟨[(.g [.one, .one, .one, .one, (.sl [.one, .one]), .one, .one, (.sl [.one, .one]), .one, .one, .one, .one]), (.g [.one, .one, .one, .one, (.sl [.one, .one]), .one])], [(.g [.one, .one, .one, .one, (.sl [.one, .one]), .one]), (.c .one)], .pure, [.cell 4 6 true, .tmp 5],
(.seq (.reg false [
⟨some 2, none, [], .box (.t 0)⟩,
⟨some 3, none, [], .box (.t 1)⟩,
⟨some 4, none, [], .alc [(.st []), (.st []), (.st []), (.st []), .ns, (.it .i64 0)]⟩,
⟨some 5, none, [], .mov (.k (.bo false))⟩] [])
(.seq (.reg false [
⟨some 13, none, [], .fad 6 (.t 2)⟩,
⟨some 14, none, [], .fad 1 (.t 13)⟩,
⟨some 15, none, [], .ld 1 false (.t 14)⟩,
⟨some 16, none, [], .call false .pure 85 [(.t 15), (.k (.st [101, 116, 97, 103]))]⟩,
⟨some 12, none, [], .mov (.t 16)⟩,
⟨some 17, none, [], .ext (.t 12) 0⟩,
⟨some 18, none, [], .ext (.t 12) 1⟩,
⟨some 6, none, [], .mov (.t 17)⟩,
⟨some 7, none, [], .mov (.t 18)⟩] [13, 14])
(.seq (.reg false [
⟨some 20, none, [], .fad 6 (.t 2)⟩,
⟨some 21, none, [], .fad 1 (.t 20)⟩,
⟨some 22, none, [], .ld 1 false (.t 21)⟩,
⟨some 23, none, [], .call false .pure 85 [(.t 22), (.k (.st [108, 97, 115, 116, 45, 109, 111, 100, 105, 102, 105, 101, 100]))]⟩,
⟨some 19, none, [], .mov (.t 23)⟩,
⟨some 24, none, [], .ext (.t 19) 0⟩,
⟨some 25, none, [], .ext (.t 19) 1⟩,
⟨some 8, none, [], .mov (.t 24)⟩,
⟨some 9, none, [], .mov (.t 25)⟩] [20, 21])
(.seq (.seq (.reg false [
⟨some 26, none, [], .mov (.t 7)⟩,
⟨some 27, none, [], .un .not (.t 26)⟩,
⟨some 28, none, [], .mov (.t 27)⟩,
⟨some 29, some (28, true), [], .mov (.t 9)⟩,
⟨some 30, some (28, true), [], .un .not (.t 29)⟩,
⟨some 31, none, [], .pick (.t 28) (.t 30) (.k (.bo false))⟩] [])
(.cond (.t 31)
(.seq (.reg false [
⟨some 32, none, [], .ld 6 true (.t 3)⟩,
⟨none, none, [], .sto 6 (.t 4) (.t 32)⟩,
⟨some 5, none, [], .mov (.k (.bo false))⟩] [])
.ret)
.skip))
(.seq (.reg false [
⟨some 10, none, [], .mov (.k .ns)⟩] [])
(.seq (.seq (.reg false [
⟨some 11, none, [], .mov (.k (.it .i64 0))⟩] [])
(.blk 0 (.loop [3, 4, 6, 7, 8, 9, 10, 11] [2]
(.seq (.seq (.reg false [
⟨some 33, none, [], .mov (.t 11)⟩,
⟨some 34, none, [], .fad 4 (.t 3)⟩,
⟨some 35, none, [], .ld 1 false (.t 34)⟩,
⟨some 36, none, [], .len false (.t 35)⟩,
⟨some 37, none, [], .bin .no .lss (.t 33) (.t 36)⟩] [34])
(.cond (.t 37)
.skip
(.exit 0)))
(.seq (.blk 1 (.seq (.seq (.reg false [
⟨some 40, none, [], .fad 4 (.t 3)⟩,
⟨some 41, none, [], .ld 1 false (.t 40)⟩,
⟨some 42, none, [], .mov (.t 11)⟩,
⟨some 43, none, [], .ias 2 (.t 41) (.t 42)⟩,
⟨some 44, none, [], .fad 0 (.t 43)⟩,
⟨some 45, none, [], .ld 1 false (.t 44)⟩] [40])
(.blk 2 (.seq (.seq (.reg false [
⟨some 47, none, [], .bin .no .eql (.t 45) (.k (.st [105, 102, 45, 110, 111, 110, 101, 45, 109, 97, 116, 99, 104]))⟩,
⟨some 46, none, [], .mov (.t 47)⟩] [])
(.cond (.t 46)
.skip
(.seq (.reg false [
⟨some 48, none, [], .bin .no .eql (.t 45) (.k (.st [105, 102, 45, 109, 111, 100, 105, 102, 105, 101, 100, 45, 115, 105, 110, 99, 101]))⟩,
⟨some 46, none, [], .mov (.t 48)⟩] [])
(.cond (.t 46)
.skip
(.seq (.reg false [
⟨some 49, none, [], .bin .no .eql (.t 45) (.k (.st [105, 102, 45, 109, 97, 116, 99, 104]))⟩,
⟨some 46, none, [], .mov (.t 49)⟩] [])
(.cond (.t 46)
.skip
(.seq (.reg false [
⟨some 50, none, [], .bin .no .eql (.t 45) (.k (.st [105, 102, 45, 117, 110, 109, 111, 100, 105, 102, 105, 101, 100, 45, 115, 105, 110, 99, 101]))⟩,
⟨some 46, none, [], .mov (.t 50)⟩] [])
(.cond (.t 46)
.skip
(.seq (.reg false [
⟨some 51, none, [], .bin .no .eql (.t 45) (.k (.st [105, 102, 45, 114, 97, 110, 103, 101]))⟩,
⟨some 46, none, [], .mov (.t 51)⟩] [])
(.cond (.t 46)
.skip
(.reg false [
⟨some 52, none, [], .bin .no .eql (.t 45) (.k (.st [114, 97, 110, 103, 101]))⟩,
⟨some 46, none, [], .mov (.t 52)⟩] [])))))))))))
(.cond (.t 46)
(.exit 1)
.skip))))
(.reg false [
⟨some 53, none, [], .mov (.t 10)⟩,
⟨some 54, none, [], .fad 4 (.t 3)⟩,
⟨some 55, none, [], .ld 1 false (.t 54)⟩,
⟨some 56, none, [], .mov (.t 11)⟩,
⟨some 57, none, [], .ias 2 (.t 55) (.t 56)⟩,
⟨some 58, none, [], .ld 2 true (.t 57)⟩,
⟨some 59, none, [], .bsv [.one, .one] 2 [[(.st []), (.st [])]] [(0, (.t 58))]⟩,
⟨some 60, none, [], .app 2 32 (.t 53) (.t 59)⟩,
⟨some 10, none, [], .mov (.t 60)⟩] [54])))
(.reg false [
⟨some 38, none, [], .mov (.t 11)⟩,
⟨some 39, none, [], .bin .no .add (.t 38) (.k (.it .i64 1))⟩,
⟨some 11, none, [], .mov (.t 39)⟩] []))))))
(.seq (.seq (.reg false [
⟨some 61, none, [], .mov (.t 7)⟩] [])
(.cond (.t 61)
(.reg false [
⟨some 62, none, [], .mov (.t 10)⟩,
⟨some 63, none, [], .mov (.t 6)⟩,
⟨some 64, none, [], .bld [(.st []), (.st [])] [(0, 1, (.k (.st [105, 102, 45, 110, 111, 110, 101, 45, 109, 97, 116, 99, 104]))), (1, 1, (.t 63))]⟩,
⟨some 65, none, [], .bsv [.one, .one] 2 [[(.st []), (.st [])]] [(0, (.t 64))]⟩,
⟨some 66, none, [], .app 2 32 (.t 62) (.t 65)⟩,
⟨some 10, none, [], .mov (.t 66)⟩] [])
.skip))
(.seq (.seq (.reg false [
⟨some 67, none, [], .mov (.t 9)⟩] [])
(.cond (.t 67)
(.reg false [
⟨some 68, none, [], .mov (.t 10)⟩,
⟨some 69, none, [], .mov (.t 8)⟩,
⟨some 70, none, [], .bld [(.st []), (.st [])] [(0, 1, (.k (.st [105, 102, 45, 109, 111, 100, 105, 102, 105, 101, 100, 45, 115, 105, 110, 99, 101]))), (1, 1, (.t 69))]⟩,
⟨some 71, none, [], .bsv [.one, .one] 2 [[(.st []), (.st [])]] [(0, (.t 70))]⟩,
⟨some 72, none, [], .app 2 32 (.t 68) (.t 71)⟩,
⟨some 10, none, [], .mov (.t 72)⟩] [])
.skip))
(.seq (.reg false [
⟨some 73, none, [], .mov (.t 10)⟩,
⟨some 74, none, [], .fad 4 (.t 3)⟩,
⟨none, none, [], .sto 1 (.t 74) (.t 73)⟩] [74])
(.seq (.reg false [
⟨some 75, none, [], .ld 6 true (.t 3)⟩,
⟨none, none, [], .sto 6 (.t 4) (.t 75)⟩,
⟨some 5, none, [], .mov (.k (.bo true))⟩] [])
.ret))))))))))⟩
def c53 : Ev.Fn := d53.den
def p53 : Pol := { loc := [2, 3, 4], md := .pure, mds := mds, heap := [60, 66, 72], own := [60, 66, 72], ord := [(0, [3, 0, 1, 2])], clr := [(1, [13, 14]), (2, [20, 21]), (7, [34]), (9, [40]), (16, [54]), (21, [74])], mask := [(7, [3, 4, 6, 7, 8, 9, 10, 11], [2])], fns := [], lcl := [] }
theorem r53 : FnOK Try.prog mds 53 c53 := .read (pol := p53) (d := d53) Try.func53 (by kernel_rfl) (by kernel_rfl) rfl rfl (by kernel_rfl)

/- reservoir/reservoirkeep.Entries -/
def d54 : DFn := ⟨[(.g [.one, .one, .one, .one, (.sl [.one, .one]), .one, .one, (.sl [.one, .one]), .one, .one, .one, .one]), (.g [.one, .one, .one, .one, (.sl [.one, .one]), .one, .one, (.sl [.one, .one]), .one, .one, .one, .one])], [(.c .one)], .ro, [.tmp 4],
(.seq (.reg false [
⟨some 2, none, [], .box (.t 0)⟩,
⟨some 3, none, [], .box (.t 1)⟩,
⟨some 4, none, [], .mov (.k (.bo false))⟩] [])
(.seq (.reg false [
⟨some 5, none, [], .fad 0 (.t 2)⟩,
⟨some 6, none, [], .ld 6 true (.t 5)⟩,
⟨some 7, none, [], .fad 0 (.t 3)⟩,
⟨some 8, none, [], .ld 6 true (.t 7)⟩,
⟨some 9, none, [], .call false .ro 23 [(.t 6), (.t 8)]⟩,
⟨some 10, none, [], .mov (.t 9)⟩,
⟨some 11, some (10, true), [], .fad 6 (.t 2)⟩,
⟨some 12, some (10, true), [], .ld 3 true (.t 11)⟩,
⟨some 13, some (10, true), [], .fad 6 (.t 3)⟩,
⟨some 14, some (10, true), [], .ld 3 true (.t 13)⟩,
⟨some 15, some (10, true), [], .call false .ro 25 [(.t 12), (.t 14)]⟩,
⟨some 16, none, [], .pick (.t 10) (.t 15) (.k (.bo false))⟩,
⟨some 17, none, [], .mov (.t 16)⟩,
⟨some 18, some (17, true), [], .fad 9 (.t 2)⟩,
⟨some 19, some (17, true), [], .ld 1 false (.t 18)⟩,
⟨some 20, some (17, true), [], .fad 9 (.t 3)⟩,
⟨some 21, some (17, true), [], .ld 1 false (.t 20)⟩,
⟨some 22, some (17, true), [], .bin .no .eql (.t 19) (.t 21)⟩,
⟨some 23, none, [], .pick (.t 17) (.t 22) (.k (.bo false))⟩,
⟨some 24, none, [], .mov (.t 23)⟩,
⟨some 25, some (24, true), [], .fad 10 (.t 2)⟩,
⟨some 26, some (24, true), [], .ld 1 false (.t 25)⟩,
⟨some 27, some (24, true), [], .fad 10 (.t 3)⟩,
⟨some 28, some (24, true), [], .ld 1 false (.t 27)⟩,
⟨some 29, some (24, true), [], .bin .no .eql (.t 26) (.t 28)⟩,
⟨some 30, none, [], .pick (.t 24) (.t 29) (.k (.bo false))⟩,
⟨some 31, none, [], .mov (.t 30)⟩,
⟨some 32, some (31, true), [], .fad 11 (.t 2)⟩,
⟨some 33, some (31, true), [], .ld 1 false (.t 32)⟩,
⟨some 34, some (31, true), [], .fad 11 (.t 3)⟩,
⟨some 35, some (31, true), [], .ld 1 false (.t 34)⟩,
⟨some 36, some (31, true), [], .bin .no .eql (.t 33) (.t 35)⟩,
⟨some 37, none, [], .pick (.t 31) (.t 36) (.k (.bo false))⟩,
⟨some 4, none, [], .mov (.t 37)⟩] [5, 7, 11, 13, 18, 20, 25, 27, 32, 34])
.ret))⟩
def c54 : Ev.Fn := d54.den
def p54 : Pol := { loc := [2, 3], md := .ro, mds := mds, heap := [], own := [], ord := [(0, [2, 0, 1])], clr := [(1, [5, 7, 11, 13, 18, 20, 25, 27, 32, 34])], mask := [], fns := [], lcl := [] }
theorem r54 : FnOK Try.prog mds 54 c54 := .read (pol := p54) (d := d54) Try.func54 (by kernel_rfl) (by kernel_rfl) rfl rfl (by kernel_rfl)

end Go.Proofs.Ytcbiplmgaiipgaa.tab
