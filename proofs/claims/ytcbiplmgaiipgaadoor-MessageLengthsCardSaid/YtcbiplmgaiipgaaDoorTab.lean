import Derived.Test.YtcbiplmgaiipgaaDoorEvD
import Derived.Test.YtcbiplmgaiipgaaDoorLays
import Derived.Test.YtcbiplmgaiipgaaDoorRows
import Derived.KernelRfl
/- the functions of the seat, read off the program -/
namespace Go.Proofs.YtcbiplmgaiipgaaDoor.tab
open Go hiding Fn
open Ev

def mdl : List Md := [.pure, .pure, .pure, .pure, .pure, .pure, .pure, .pure, .pure, .pure, .pure, .pure, .pure, .pure, .rw, .pure, .pure, .pure, .rw, .pure, .pure, .pure, .pure, .pure, .pure, .rw, .pure, .pure, .pure, .pure, .pure, .pure, .pure, .pure, .pure, .pure, .pure, .pure, .pure, .pure, .pure, .pure, .pure, .pure, .pure, .pure, .pure, .pure, .pure, .pure, .pure, .pure, .rw, .rw, .rw, .rw, .rw, .rw, .rw, .pure, .pure, .pure, .pure, .pure, .pure, .pure]
def mds (n : Nat) : Md := mdl.getD n .rw

/- reservoir/reservoirlaw15.MessageLengths -/
def d3 : DFn := ⟨[(.c .one), (.c .one), (.c .one)], [(.c .one)], .pure, [.tmp 6],
(.seq (.reg false [
⟨some 6, none, [], .mov (.k (.bo false))⟩] [])
(.seq (.reg false [
⟨some 18, none, [], .mov (.t 0)⟩,
⟨some 19, none, [], .bin .no .rem (.t 18) (.k (.it .u32 1000000000))⟩,
⟨some 20, none, [], .cnv (.int .i64) (.t 19)⟩,
⟨some 21, none, [], .mov (.t 1)⟩,
⟨some 22, none, [], .bin .no .rem (.t 21) (.k (.it .u32 1000000000))⟩,
⟨some 23, none, [], .cnv (.int .i64) (.t 22)⟩,
⟨some 7, none, [], .mov (.t 20)⟩,
⟨some 8, none, [], .mov (.t 23)⟩] [])
(.seq (.reg false [
⟨some 24, none, [], .call false .pure 4 [(.k (.st [58, 115, 116, 97, 116, 117, 115])), (.k (.st [50, 48, 48]))]⟩,
⟨some 25, none, [], .mov (.t 7)⟩,
⟨some 26, none, [], .call false .pure 5 [(.t 25)]⟩,
⟨some 27, none, [], .call false .pure 4 [(.k (.st [99, 111, 110, 116, 101, 110, 116, 45, 108, 101, 110, 103, 116, 104])), (.t 26)]⟩,
⟨some 28, none, [], .call false .pure 4 [(.k (.st [120])), (.k (.st [121]))]⟩,
⟨some 29, none, [], .mov (.t 8)⟩,
⟨some 30, none, [], .call false .pure 5 [(.t 29)]⟩,
⟨some 31, none, [], .call false .pure 4 [(.k (.st [99, 111, 110, 116, 101, 110, 116, 45, 108, 101, 110, 103, 116, 104])), (.t 30)]⟩,
⟨some 32, none, [], .bsv [.one, .one] 2 (List.replicate 4 [(.st []), (.st [])]) [(0, (.t 24)), (1, (.t 27)), (2, (.t 28)), (3, (.t 31))]⟩,
⟨some 9, none, [], .mov (.t 32)⟩] [])
(.seq (.reg false [
⟨some 34, none, [], .mov (.t 9)⟩,
⟨some 35, none, [], .call false .pure 6 [(.t 34)]⟩,
⟨some 33, none, [], .mov (.t 35)⟩,
⟨some 36, none, [], .ext (.t 33) 0⟩,
⟨some 37, none, [], .ext (.t 33) 1⟩,
⟨some 10, none, [], .alc [(.it .i64 0), .ns, (.it .i64 0)]⟩,
⟨none, none, [], .sto 3 (.t 10) (.t 36)⟩,
⟨some 11, none, [], .mov (.t 37)⟩] [])
(.seq (.reg false [
⟨some 39, none, [], .mov (.t 9)⟩,
⟨some 40, none, [], .slc false 2 (.t 39) none (some (.k (.it .i64 3)))⟩,
⟨some 41, none, [], .call false .pure 6 [(.t 40)]⟩,
⟨some 38, none, [], .mov (.t 41)⟩,
⟨some 42, none, [], .ext (.t 38) 0⟩,
⟨some 43, none, [], .ext (.t 38) 1⟩,
⟨some 12, none, [], .alc [(.it .i64 0), .ns, (.it .i64 0)]⟩,
⟨none, none, [], .sto 3 (.t 12) (.t 42)⟩,
⟨some 13, none, [], .mov (.t 43)⟩] [])
(.seq (.reg true [
⟨some 45, none, [], .mov (.t 9)⟩,
⟨some 46, none, [], .ias 2 (.t 45) (.k (.it .i64 0))⟩,
⟨some 47, none, [], .ld 2 true (.t 46)⟩,
⟨some 48, none, [], .mov (.t 7)⟩,
⟨some 14, none, [45, 46], .alc [(.it .i64 0), .ns, (.it .i64 0)]⟩,
⟨some 49, none, [], .call false .pure 5 [(.t 48)]⟩,
⟨some 50, none, [], .bin .no .add (.k (.st [49, 48, 48, 48, 48, 48, 48, 48, 48, 48])) (.t 49)⟩,
⟨some 51, none, [], .call false .pure 4 [(.k (.st [99, 111, 110, 116, 101, 110, 116, 45, 108, 101, 110, 103, 116, 104])), (.t 50)]⟩,
⟨some 52, none, [], .bsv [.one, .one] 2 [[(.st []), (.st [])], [(.st []), (.st [])]] [(0, (.t 47)), (1, (.t 51))]⟩,
⟨some 53, none, [], .call false .pure 6 [(.t 52)]⟩,
⟨some 44, none, [], .mov (.t 53)⟩,
⟨some 54, none, [], .ext (.t 44) 0⟩,
⟨some 55, none, [], .ext (.t 44) 1⟩,
⟨none, none, [], .sto 3 (.t 14) (.t 54)⟩,
⟨some 15, none, [], .mov (.t 55)⟩] [])
(.seq (.reg false [
⟨some 57, none, [], .mov (.t 9)⟩,
⟨some 58, none, [], .slc false 2 (.t 57) none (some (.k (.it .i64 1)))⟩,
⟨some 59, none, [], .call false .pure 6 [(.t 58)]⟩,
⟨some 56, none, [], .mov (.t 59)⟩,
⟨some 60, none, [], .ext (.t 56) 0⟩,
⟨some 61, none, [], .ext (.t 56) 1⟩,
⟨some 16, none, [], .alc [(.it .i64 0), .ns, (.it .i64 0)]⟩,
⟨none, none, [], .sto 3 (.t 16) (.t 60)⟩,
⟨some 17, none, [], .mov (.t 61)⟩] [])
(.seq (.reg false [
⟨some 62, none, [], .mov (.t 11)⟩,
⟨some 63, none, [], .mov (.t 7)⟩,
⟨some 64, none, [], .mov (.t 8)⟩,
⟨some 65, none, [], .bin .no .eql (.t 63) (.t 64)⟩,
⟨some 66, none, [], .bin .bo .eql (.t 62) (.t 65)⟩,
⟨some 67, none, [], .mov (.t 66)⟩,
⟨some 68, some (67, true), [], .mov (.t 11)⟩,
⟨some 69, some (67, true), [], .un .not (.t 68)⟩,
⟨some 70, some (67, true), [], .mov (.t 69)⟩,
⟨some 71, some (70, false), [], .fad 2 (.t 10)⟩,
⟨some 72, some (70, false), [], .ld 1 false (.t 71)⟩,
⟨some 73, some (70, false), [], .mov (.t 7)⟩,
⟨some 74, some (70, false), [], .bin .no .eql (.t 72) (.t 73)⟩,
⟨some 75, some (67, true), [], .pick (.t 70) (.k (.bo true)) (.t 74)⟩,
⟨some 76, none, [], .pick (.t 67) (.t 75) (.k (.bo false))⟩,
⟨some 77, none, [], .mov (.t 76)⟩,
⟨some 78, some (77, true), [], .mov (.t 13)⟩,
⟨some 79, none, [], .pick (.t 77) (.t 78) (.k (.bo false))⟩,
⟨some 80, none, [], .mov (.t 79)⟩,
⟨some 81, some (80, true), [], .fad 2 (.t 12)⟩,
⟨some 82, some (80, true), [], .ld 1 false (.t 81)⟩,
⟨some 83, some (80, true), [], .mov (.t 7)⟩,
⟨some 84, some (80, true), [], .bin .no .eql (.t 82) (.t 83)⟩,
⟨some 85, none, [], .pick (.t 80) (.t 84) (.k (.bo false))⟩,
⟨some 86, none, [], .mov (.t 85)⟩,
⟨some 87, some (86, true), [], .mov (.t 15)⟩,
⟨some 88, some (86, true), [], .un .not (.t 87)⟩,
⟨some 89, none, [], .pick (.t 86) (.t 88) (.k (.bo false))⟩,
⟨some 90, none, [], .mov (.t 89)⟩,
⟨some 91, some (90, true), [], .mov (.t 17)⟩,
⟨some 92, none, [], .pick (.t 90) (.t 91) (.k (.bo false))⟩,
⟨some 93, none, [], .mov (.t 92)⟩,
⟨some 94, some (93, true), [], .fad 2 (.t 16)⟩,
⟨some 95, some (93, true), [], .ld 1 false (.t 94)⟩,
⟨some 96, some (93, true), [], .bin .no .eql (.t 95) (.k (.it .i64 (-1)))⟩,
⟨some 97, none, [], .pick (.t 93) (.t 96) (.k (.bo false))⟩,
⟨some 98, none, [], .mov (.t 97)⟩,
⟨some 99, some (98, true), [], .call false .pure 7 []⟩,
⟨some 100, none, [], .pick (.t 98) (.t 99) (.k (.bo false))⟩,
⟨some 6, none, [], .mov (.t 100)⟩] [71, 81, 94])
.ret))))))))⟩
def c3 : Ev.Fn := d3.den
def p3 : Pol := { loc := [10, 12, 14, 16], md := .pure, mds := mds, heap := [], own := [], ord := [(2, [1, 5, 0, 2, 3, 4, 6, 7, 8, 9]), (3, [0, 5, 1, 2, 3, 4, 6, 7]), (4, [0, 1, 6, 2, 3, 4, 5, 7, 8]), (5, [0, 1, 2, 3, 12, 4, 5, 6, 7, 8, 9, 10, 11, 13, 14]), (6, [0, 1, 6, 2, 3, 4, 5, 7, 8])], clr := [(7, [71, 81, 94])], mask := [], fns := [], lcl := [] }
theorem r3 : FnOK Tryd.prog mds 3 c3 := .read (pol := p3) (d := d3) Tryd.func3 (by kernel_rfl) (by kernel_rfl) rfl rfl (by kernel_rfl)

/- reservoir/reservoirlaw15.of -/
def d4 : DFn := ⟨[(.c .one), (.c .one)], [(.g [.one, .one])], .pure, [.cell 4 2 true],
(.seq (.reg false [
⟨some 4, none, [], .alc [(.st []), (.st [])]⟩] [])
(.seq (.reg false [
⟨some 5, none, [], .mov (.t 0)⟩,
⟨some 6, none, [], .mov (.t 1)⟩,
⟨some 7, none, [], .bld [(.st []), (.st [])] [(0, 1, (.t 5)), (1, 1, (.t 6))]⟩,
⟨none, none, [], .sto 2 (.t 4) (.t 7)⟩] [])
.ret))⟩
def c4 : Ev.Fn := d4.den
def p4 : Pol := { loc := [4], md := .pure, mds := mds, heap := [], own := [], ord := [], clr := [], mask := [], fns := [], lcl := [] }
theorem r4 : FnOK Tryd.prog mds 4 c4 := .read (pol := p4) (d := d4) Tryd.func4 (by kernel_rfl) (by kernel_rfl) rfl rfl (by kernel_rfl)

/- reservoir/message.Response -/
def d6 : DFn := ⟨[(.c (.sl [.one, .one]))], [(.g [.one, (.sl [.one, .one]), .one]), (.c .one)], .pure, [.cell 2 3 true, .tmp 3],
(.seq (.reg false [
⟨some 2, none, [], .alc [(.it .i64 0), .ns, (.it .i64 0)]⟩,
⟨some 3, none, [], .mov (.k (.bo false))⟩] [])
(.seq (.seq (.reg false [
⟨some 8, none, [], .mov (.t 0)⟩,
⟨some 9, none, [], .len false (.t 8)⟩,
⟨some 10, none, [], .bin .no .eql (.t 9) (.k (.it .i64 0))⟩,
⟨some 11, none, [], .mov (.t 10)⟩,
⟨some 12, some (11, false), [], .mov (.t 0)⟩,
⟨some 13, some (11, false), [], .ias 2 (.t 12) (.k (.it .i64 0))⟩,
⟨some 14, some (11, false), [], .fad 0 (.t 13)⟩,
⟨some 15, some (11, false), [], .ld 1 false (.t 14)⟩,
⟨some 16, some (11, false), [], .bin .no .neq (.t 15) (.k (.st [58, 115, 116, 97, 116, 117, 115]))⟩,
⟨some 17, none, [], .pick (.t 11) (.k (.bo true)) (.t 16)⟩,
⟨some 18, none, [], .mov (.t 17)⟩,
⟨some 19, some (18, false), [], .mov (.t 0)⟩,
⟨some 20, some (18, false), [], .ias 2 (.t 19) (.k (.it .i64 0))⟩,
⟨some 21, some (18, false), [], .fad 1 (.t 20)⟩,
⟨some 22, some (18, false), [], .ld 1 false (.t 21)⟩,
⟨some 23, some (18, false), [], .len true (.t 22)⟩,
⟨some 24, some (18, false), [], .bin .no .neq (.t 23) (.k (.it .i64 3))⟩,
⟨some 25, none, [], .pick (.t 18) (.k (.bo true)) (.t 24)⟩] [])
(.cond (.t 25)
(.seq (.reg false [
⟨some 26, none, [], .bld [(.it .i64 0), .ns, (.it .i64 0)] []⟩,
⟨none, none, [], .sto 3 (.t 2) (.t 26)⟩,
⟨some 3, none, [], .mov (.k (.bo false))⟩] [])
.ret)
.skip))
(.seq (.reg false [
⟨some 27, none, [], .mov (.t 0)⟩,
⟨some 28, none, [], .ias 2 (.t 27) (.k (.it .i64 0))⟩,
⟨some 29, none, [], .fad 1 (.t 28)⟩,
⟨some 30, none, [], .ld 1 false (.t 29)⟩,
⟨some 31, none, [], .call false .pure 9 [(.t 30)]⟩,
⟨some 4, none, [], .mov (.t 31)⟩] [])
(.seq (.seq (.reg false [
⟨some 32, none, [], .mov (.t 4)⟩,
⟨some 33, none, [], .bin .no .lss (.t 32) (.k (.it .i64 100))⟩,
⟨some 34, none, [], .mov (.t 33)⟩,
⟨some 35, some (34, false), [], .mov (.t 4)⟩,
⟨some 36, some (34, false), [], .bin .no .gtr (.t 35) (.k (.it .i64 599))⟩,
⟨some 37, none, [], .pick (.t 34) (.k (.bo true)) (.t 36)⟩,
⟨some 38, none, [], .mov (.t 37)⟩,
⟨some 39, some (38, false), [], .mov (.t 4)⟩,
⟨some 40, some (38, false), [], .bin .no .eql (.t 39) (.k (.it .i64 101))⟩,
⟨some 41, none, [], .pick (.t 38) (.k (.bo true)) (.t 40)⟩] [])
(.cond (.t 41)
(.seq (.reg false [
⟨some 42, none, [], .bld [(.it .i64 0), .ns, (.it .i64 0)] []⟩,
⟨none, none, [], .sto 3 (.t 2) (.t 42)⟩,
⟨some 3, none, [], .mov (.k (.bo false))⟩] [])
.ret)
.skip))
(.seq (.reg false [
⟨some 44, none, [], .mov (.t 0)⟩,
⟨some 45, none, [], .slc false 2 (.t 44) (some (.k (.it .i64 1))) none⟩,
⟨some 46, none, [], .call false .pure 10 [(.t 45)]⟩,
⟨some 43, none, [], .mov (.t 46)⟩,
⟨some 47, none, [], .ext (.t 43) 0⟩,
⟨some 48, none, [], .ext (.t 43) 1⟩,
⟨some 49, none, [], .ext (.t 43) 2⟩,
⟨some 5, none, [], .mov (.t 47)⟩,
⟨some 6, none, [], .mov (.t 48)⟩,
⟨some 7, none, [], .mov (.t 49)⟩] [])
(.seq (.seq (.reg false [
⟨some 50, none, [], .mov (.t 7)⟩,
⟨some 51, none, [], .un .not (.t 50)⟩] [])
(.cond (.t 51)
(.seq (.reg false [
⟨some 52, none, [], .bld [(.it .i64 0), .ns, (.it .i64 0)] []⟩,
⟨none, none, [], .sto 3 (.t 2) (.t 52)⟩,
⟨some 3, none, [], .mov (.k (.bo false))⟩] [])
.ret)
.skip))
(.seq (.reg false [
⟨some 53, none, [], .mov (.t 4)⟩,
⟨some 54, none, [], .mov (.t 5)⟩,
⟨some 55, none, [], .mov (.t 6)⟩,
⟨some 56, none, [], .bld [(.it .i64 0), .ns, (.it .i64 0)] [(0, 1, (.t 53)), (1, 1, (.t 54)), (2, 1, (.t 55))]⟩,
⟨none, none, [], .sto 3 (.t 2) (.t 56)⟩,
⟨some 3, none, [], .mov (.k (.bo true))⟩] [])
.ret)))))))⟩
def c6 : Ev.Fn := d6.den
def p6 : Pol := { loc := [2], md := .pure, mds := mds, heap := [], own := [], ord := [(0, [1, 0])], clr := [], mask := [], fns := [], lcl := [] }
theorem r6 : FnOK Tryd.prog mds 6 c6 := .read (pol := p6) (d := d6) Tryd.func6 (by kernel_rfl) (by kernel_rfl) rfl rfl (by kernel_rfl)

/- reservoir/reservoirlaw15.MessageRuns -/
def d7 : DFn := ⟨[], [(.c .one)], .pure, [.tmp 0],
(.seq (.reg false [
⟨some 0, none, [], .mov (.k (.bo false))⟩] [])
(.seq (.reg false [
⟨some 18, none, [], .call false .pure 4 [(.k (.st [58, 109, 101, 116, 104, 111, 100])), (.k (.st [71, 69, 84]))]⟩,
⟨some 19, none, [], .call false .pure 4 [(.k (.st [58, 115, 99, 104, 101, 109, 101])), (.k (.st [104, 116, 116, 112, 115]))]⟩,
⟨some 20, none, [], .call false .pure 4 [(.k (.st [58, 97, 117, 116, 104, 111, 114, 105, 116, 121])), (.k (.st [97]))]⟩,
⟨some 21, none, [], .call false .pure 4 [(.k (.st [58, 112, 97, 116, 104])), (.k (.st [47]))]⟩,
⟨some 22, none, [], .call false .pure 4 [(.k (.st [116, 101])), (.k (.st [116, 114, 97, 105, 108, 101, 114, 115]))]⟩,
⟨some 23, none, [], .bsv [.one, .one] 2 (List.replicate 5 [(.st []), (.st [])]) [(0, (.t 18)), (1, (.t 19)), (2, (.t 20)), (3, (.t 21)), (4, (.t 22))]⟩,
⟨some 1, none, [], .mov (.t 23)⟩] [])
(.seq (.reg false [
⟨some 25, none, [], .mov (.t 1)⟩,
⟨some 26, none, [], .call false .pure 11 [(.t 25)]⟩,
⟨some 24, none, [], .mov (.t 26)⟩,
⟨some 27, none, [], .ext (.t 24) 0⟩,
⟨some 28, none, [], .ext (.t 24) 1⟩,
⟨some 2, none, [], .alc [(.st []), (.st []), (.st []), (.st []), .ns, (.it .i64 0)]⟩,
⟨none, none, [], .sto 6 (.t 2) (.t 27)⟩,
⟨some 3, none, [], .mov (.t 28)⟩] [])
(.seq (.reg false [
⟨some 30, none, [], .mov (.t 1)⟩,
⟨some 31, none, [], .slc false 2 (.t 30) none (some (.k (.it .i64 3)))⟩,
⟨some 32, none, [], .call false .pure 11 [(.t 31)]⟩,
⟨some 29, none, [], .mov (.t 32)⟩,
⟨some 33, none, [], .ext (.t 29) 0⟩,
⟨some 34, none, [], .ext (.t 29) 1⟩,
⟨some 4, none, [], .alc [(.st []), (.st []), (.st []), (.st []), .ns, (.it .i64 0)]⟩,
⟨none, none, [], .sto 6 (.t 4) (.t 33)⟩,
⟨some 5, none, [], .mov (.t 34)⟩] [])
(.seq (.reg false [
⟨some 36, none, [], .bsl 2 [] []⟩,
⟨some 37, none, [], .mov (.t 1)⟩,
⟨some 38, none, [], .app 2 32 (.t 36) (.t 37)⟩,
⟨some 39, none, [], .call false .pure 4 [(.k (.st [88, 45, 97])), (.k (.st [49]))]⟩,
⟨some 40, none, [], .bsv [.one, .one] 2 [[(.st []), (.st [])]] [(0, (.t 39))]⟩,
⟨some 41, none, [], .app 2 32 (.t 38) (.t 40)⟩,
⟨some 42, none, [], .call false .pure 11 [(.t 41)]⟩,
⟨some 35, none, [], .mov (.t 42)⟩,
⟨some 43, none, [], .ext (.t 35) 0⟩,
⟨some 44, none, [], .ext (.t 35) 1⟩,
⟨some 6, none, [], .alc [(.st []), (.st []), (.st []), (.st []), .ns, (.it .i64 0)]⟩,
⟨none, none, [], .sto 6 (.t 6) (.t 43)⟩,
⟨some 7, none, [], .mov (.t 44)⟩] [])
(.seq (.reg false [
⟨some 46, none, [], .call false .pure 4 [(.k (.st [58, 112, 97, 116, 104])), (.k (.st [47]))]⟩,
⟨some 47, none, [], .bsl 2 [[(.st []), (.st [])]] [(0, (.t 46))]⟩,
⟨some 48, none, [], .mov (.t 1)⟩,
⟨some 49, none, [], .app 2 32 (.t 47) (.t 48)⟩,
⟨some 50, none, [], .call false .pure 11 [(.t 49)]⟩,
⟨some 45, none, [], .mov (.t 50)⟩,
⟨some 51, none, [], .ext (.t 45) 0⟩,
⟨some 52, none, [], .ext (.t 45) 1⟩,
⟨some 8, none, [], .alc [(.st []), (.st []), (.st []), (.st []), .ns, (.it .i64 0)]⟩,
⟨none, none, [], .sto 6 (.t 8) (.t 51)⟩,
⟨some 9, none, [], .mov (.t 52)⟩] [])
(.seq (.reg false [
⟨some 54, none, [], .bsl 2 [] []⟩,
⟨some 55, none, [], .mov (.t 1)⟩,
⟨some 56, none, [], .app 2 32 (.t 54) (.t 55)⟩,
⟨some 57, none, [], .call false .pure 4 [(.k (.st [99, 111, 110, 110, 101, 99, 116, 105, 111, 110])), (.k (.st [99, 108, 111, 115, 101]))]⟩,
⟨some 58, none, [], .bsv [.one, .one] 2 [[(.st []), (.st [])]] [(0, (.t 57))]⟩,
⟨some 59, none, [], .app 2 32 (.t 56) (.t 58)⟩,
⟨some 60, none, [], .call false .pure 11 [(.t 59)]⟩,
⟨some 53, none, [], .mov (.t 60)⟩,
⟨some 61, none, [], .ext (.t 53) 0⟩,
⟨some 62, none, [], .ext (.t 53) 1⟩,
⟨some 10, none, [], .alc [(.st []), (.st []), (.st []), (.st []), .ns, (.it .i64 0)]⟩,
⟨none, none, [], .sto 6 (.t 10) (.t 61)⟩,
⟨some 11, none, [], .mov (.t 62)⟩] [])
(.seq (.reg false [
⟨some 64, none, [], .call false .pure 4 [(.k (.st [58, 115, 116, 97, 116, 117, 115])), (.k (.st [50, 48, 48]))]⟩,
⟨some 65, none, [], .call false .pure 4 [(.k (.st [99, 111, 110, 116, 101, 110, 116, 45, 108, 101, 110, 103, 116, 104])), (.k (.st [53]))]⟩,
⟨some 66, none, [], .call false .pure 4 [(.k (.st [99, 111, 110, 116, 101, 110, 116, 45, 108, 101, 110, 103, 116, 104])), (.k (.st [53]))]⟩,
⟨some 67, none, [], .bsv [.one, .one] 2 [[(.st []), (.st [])], [(.st []), (.st [])], [(.st []), (.st [])]] [(0, (.t 64)), (1, (.t 65)), (2, (.t 66))]⟩,
⟨some 68, none, [], .call false .pure 6 [(.t 67)]⟩,
⟨some 63, none, [], .mov (.t 68)⟩,
⟨some 69, none, [], .ext (.t 63) 0⟩,
⟨some 70, none, [], .ext (.t 63) 1⟩,
⟨some 12, none, [], .alc [(.it .i64 0), .ns, (.it .i64 0)]⟩,
⟨none, none, [], .sto 3 (.t 12) (.t 69)⟩,
⟨some 13, none, [], .mov (.t 70)⟩] [])
(.seq (.reg false [
⟨some 72, none, [], .call false .pure 4 [(.k (.st [58, 115, 116, 97, 116, 117, 115])), (.k (.st [49, 48, 49]))]⟩,
⟨some 73, none, [], .bsv [.one, .one] 2 [[(.st []), (.st [])]] [(0, (.t 72))]⟩,
⟨some 74, none, [], .call false .pure 6 [(.t 73)]⟩,
⟨some 71, none, [], .mov (.t 74)⟩,
⟨some 75, none, [], .ext (.t 71) 0⟩,
⟨some 76, none, [], .ext (.t 71) 1⟩,
⟨some 14, none, [], .alc [(.it .i64 0), .ns, (.it .i64 0)]⟩,
⟨none, none, [], .sto 3 (.t 14) (.t 75)⟩,
⟨some 15, none, [], .mov (.t 76)⟩] [])
(.seq (.reg false [
⟨some 78, none, [], .call false .pure 4 [(.k (.st [58, 115, 116, 97, 116, 117, 115])), (.k (.st [50, 48, 48]))]⟩,
⟨some 79, none, [], .call false .pure 4 [(.k (.st [99, 111, 110, 116, 101, 110, 116, 45, 108, 101, 110, 103, 116, 104])), (.k (.st [53]))]⟩,
⟨some 80, none, [], .call false .pure 4 [(.k (.st [99, 111, 110, 116, 101, 110, 116, 45, 108, 101, 110, 103, 116, 104])), (.k (.st [54]))]⟩,
⟨some 81, none, [], .bsv [.one, .one] 2 [[(.st []), (.st [])], [(.st []), (.st [])], [(.st []), (.st [])]] [(0, (.t 78)), (1, (.t 79)), (2, (.t 80))]⟩,
⟨some 82, none, [], .call false .pure 6 [(.t 81)]⟩,
⟨some 77, none, [], .mov (.t 82)⟩,
⟨some 83, none, [], .ext (.t 77) 0⟩,
⟨some 84, none, [], .ext (.t 77) 1⟩,
⟨some 16, none, [], .alc [(.it .i64 0), .ns, (.it .i64 0)]⟩,
⟨none, none, [], .sto 3 (.t 16) (.t 83)⟩,
⟨some 17, none, [], .mov (.t 84)⟩] [])
(.seq (.reg true [
⟨some 85, none, [], .mov (.t 3)⟩,
⟨some 86, none, [], .mov (.t 85)⟩,
⟨some 87, some (86, true), [], .ld 6 true (.t 2)⟩,
⟨some 88, some (86, true), [], .mov (.t 1)⟩,
⟨some 89, some (86, true), [], .slc false 2 (.t 88) (some (.k (.it .i64 4))) none⟩,
⟨some 90, some (86, true), [], .bld [(.st []), (.st []), (.st []), (.st []), .ns, (.it .i64 0)] [(0, 1, (.k (.st [71, 69, 84]))), (1, 1, (.k (.st [104, 116, 116, 112, 115]))), (2, 1, (.k (.st [97]))), (3, 1, (.k (.st [47]))), (4, 1, (.t 89)), (5, 1, (.k (.it .i64 (-1))))]⟩,
⟨some 91, some (86, true), [], .call false .pure 12 [(.t 87), (.t 90)]⟩,
⟨some 92, none, [], .pick (.t 86) (.t 91) (.k (.bo false))⟩,
⟨some 93, none, [], .mov (.t 92)⟩,
⟨some 94, some (93, true), [], .mov (.t 5)⟩,
⟨some 95, some (93, true), [], .un .not (.t 94)⟩,
⟨some 96, none, [], .pick (.t 93) (.t 95) (.k (.bo false))⟩,
⟨some 97, none, [], .mov (.t 96)⟩,
⟨some 98, some (97, true), [], .mov (.t 7)⟩,
⟨some 99, some (97, true), [], .un .not (.t 98)⟩,
⟨some 100, none, [], .pick (.t 97) (.t 99) (.k (.bo false))⟩,
⟨some 101, none, [], .mov (.t 100)⟩,
⟨some 102, some (101, true), [], .mov (.t 9)⟩,
⟨some 103, some (101, true), [], .un .not (.t 102)⟩,
⟨some 104, none, [], .pick (.t 101) (.t 103) (.k (.bo false))⟩,
⟨some 105, none, [], .mov (.t 104)⟩,
⟨some 106, some (105, true), [], .mov (.t 11)⟩,
⟨some 107, some (105, true), [], .un .not (.t 106)⟩,
⟨some 108, none, [], .pick (.t 105) (.t 107) (.k (.bo false))⟩,
⟨some 109, none, [], .mov (.t 108)⟩,
⟨some 110, some (109, true), [], .mov (.t 13)⟩,
⟨some 111, none, [], .pick (.t 109) (.t 110) (.k (.bo false))⟩,
⟨some 112, none, [], .mov (.t 111)⟩,
⟨some 113, some (112, true), [], .fad 0 (.t 12)⟩,
⟨some 114, some (112, true), [], .ld 1 false (.t 113)⟩,
⟨some 115, some (112, true), [], .bin .no .eql (.t 114) (.k (.it .i64 200))⟩,
⟨some 116, none, [], .pick (.t 112) (.t 115) (.k (.bo false))⟩,
⟨some 117, none, [], .mov (.t 116)⟩,
⟨some 118, some (117, true), [], .fad 2 (.t 12)⟩,
⟨some 119, some (117, true), [], .ld 1 false (.t 118)⟩,
⟨some 120, some (117, true), [], .bin .no .eql (.t 119) (.k (.it .i64 5))⟩,
⟨some 121, none, [], .pick (.t 117) (.t 120) (.k (.bo false))⟩,
⟨some 122, none, [], .mov (.t 121)⟩,
⟨some 123, some (122, true), [], .fad 1 (.t 12)⟩,
⟨some 124, some (122, true), [], .ld 1 false (.t 123)⟩,
⟨some 125, some (122, true), [], .len false (.t 124)⟩,
⟨some 126, some (122, true), [], .bin .no .eql (.t 125) (.k (.it .i64 2))⟩,
⟨some 127, none, [], .pick (.t 122) (.t 126) (.k (.bo false))⟩,
⟨some 128, none, [], .mov (.t 127)⟩,
⟨some 129, some (128, true), [], .mov (.t 15)⟩,
⟨some 130, some (128, true), [], .un .not (.t 129)⟩,
⟨some 131, none, [], .pick (.t 128) (.t 130) (.k (.bo false))⟩,
⟨some 132, none, [], .mov (.t 131)⟩,
⟨some 133, some (132, true), [], .mov (.t 17)⟩,
⟨some 134, some (132, true), [], .un .not (.t 133)⟩,
⟨some 135, none, [], .pick (.t 132) (.t 134) (.k (.bo false))⟩,
⟨some 0, none, [], .mov (.t 135)⟩] [113, 118, 123])
.ret)))))))))))⟩
def c7 : Ev.Fn := d7.den
def p7 : Pol := { loc := [2, 4, 6, 8, 10, 12, 14, 16], md := .pure, mds := mds, heap := [36, 38, 47, 54, 56], own := [36, 38, 47, 54, 56], ord := [(2, [0, 5, 1, 2, 3, 4, 6, 7]), (3, [0, 1, 6, 2, 3, 4, 5, 7, 8]), (4, [1, 10, 0, 2, 3, 4, 5, 6, 7, 8, 9, 11, 12]), (5, [2, 8, 0, 1, 3, 4, 5, 6, 7, 9, 10]), (6, [1, 10, 0, 2, 3, 4, 5, 6, 7, 8, 9, 11, 12]), (7, [8, 0, 1, 2, 3, 4, 5, 6, 7, 9, 10]), (8, [6, 0, 1, 2, 3, 4, 5, 7, 8]), (9, [8, 0, 1, 2, 3, 4, 5, 6, 7, 9, 10])], clr := [(10, [113, 118, 123])], mask := [], fns := [], lcl := [] }
theorem r7 : FnOK Tryd.prog mds 7 c7 := .read (pol := p7) (d := d7) Tryd.func7 (by kernel_rfl) (by kernel_rfl) rfl rfl (by kernel_rfl)

/- reservoir/message.number -/
def d9 : DFn := ⟨[(.c .one)], [(.c .one)], .pure, [.tmp 2],
(.seq (.reg false [
⟨some 2, none, [], .mov (.k (.it .i64 0))⟩] [])
(.seq (.seq (.reg false [
⟨some 5, none, [], .mov (.t 0)⟩,
⟨some 6, none, [], .len true (.t 5)⟩,
⟨some 7, none, [], .bin .no .lss (.t 6) (.k (.it .i64 1))⟩,
⟨some 8, none, [], .mov (.t 7)⟩,
⟨some 9, some (8, false), [], .mov (.t 0)⟩,
⟨some 10, some (8, false), [], .len true (.t 9)⟩,
⟨some 11, some (8, false), [], .bin .no .gtr (.t 10) (.k (.it .i64 9))⟩,
⟨some 12, none, [], .pick (.t 8) (.k (.bo true)) (.t 11)⟩] [])
(.cond (.t 12)
(.seq (.reg false [
⟨some 2, none, [], .mov (.k (.it .i64 (-1)))⟩] [])
.ret)
.skip))
(.seq (.reg false [
⟨some 3, none, [], .mov (.k (.it .i64 0))⟩] [])
(.seq (.seq (.reg false [
⟨some 13, none, [], .mov (.t 0)⟩,
⟨some 14, none, [], .len true (.t 13)⟩,
⟨some 15, none, [], .mov (.k (.it .i64 0))⟩] [])
(.blk 0 (.loop [0, 3, 14, 15] []
(.seq (.reg false [
⟨some 16, none, [], .bin .no .lss (.t 15) (.t 14)⟩] [])
(.seq (.cond (.t 16)
.skip
(.exit 0))
(.seq (.blk 1 (.seq (.reg false [
⟨some 17, none, [], .mov (.t 15)⟩,
⟨some 4, none, [], .mov (.t 17)⟩] [])
(.seq (.seq (.reg false [
⟨some 18, none, [], .mov (.t 0)⟩,
⟨some 19, none, [], .mov (.t 4)⟩,
⟨some 20, none, [], .ixs (.t 18) (.t 19)⟩,
⟨some 21, none, [], .bin .no .lss (.t 20) (.k (.it .u8 48))⟩,
⟨some 22, none, [], .mov (.t 21)⟩,
⟨some 23, some (22, false), [], .mov (.t 0)⟩,
⟨some 24, some (22, false), [], .mov (.t 4)⟩,
⟨some 25, some (22, false), [], .ixs (.t 23) (.t 24)⟩,
⟨some 26, some (22, false), [], .bin .no .gtr (.t 25) (.k (.it .u8 57))⟩,
⟨some 27, none, [], .pick (.t 22) (.k (.bo true)) (.t 26)⟩] [])
(.cond (.t 27)
(.seq (.reg false [
⟨some 2, none, [], .mov (.k (.it .i64 (-1)))⟩] [])
.ret)
.skip))
(.reg false [
⟨some 28, none, [], .mov (.t 3)⟩,
⟨some 29, none, [], .bin .no .mul (.k (.it .i64 10)) (.t 28)⟩,
⟨some 30, none, [], .mov (.t 0)⟩,
⟨some 31, none, [], .mov (.t 4)⟩,
⟨some 32, none, [], .ixs (.t 30) (.t 31)⟩,
⟨some 33, none, [], .bin .no .sub (.t 32) (.k (.it .u8 48))⟩,
⟨some 34, none, [], .cnv (.int .i64) (.t 33)⟩,
⟨some 35, none, [], .bin .no .add (.t 29) (.t 34)⟩,
⟨some 3, none, [], .mov (.t 35)⟩] []))))
(.reg false [
⟨some 36, none, [], .bin .no .add (.t 15) (.k (.it .i64 1))⟩,
⟨some 15, none, [], .mov (.t 36)⟩] [])))))))
(.seq (.reg false [
⟨some 37, none, [], .mov (.t 3)⟩,
⟨some 2, none, [], .mov (.t 37)⟩] [])
.ret)))))⟩
def c9 : Ev.Fn := d9.den
def p9 : Pol := { loc := [], md := .pure, mds := mds, heap := [], own := [], ord := [], clr := [], mask := [(5, [0, 3, 14, 15], [])], fns := [], lcl := [] }
theorem r9 : FnOK Tryd.prog mds 9 c9 := .read (pol := p9) (d := d9) Tryd.func9 (by kernel_rfl) (by kernel_rfl) rfl rfl (by kernel_rfl)

/- reservoir/message.rest -/
def d10 : DFn := ⟨[(.c (.sl [.one, .one]))], [(.c (.sl [.one, .one])), (.c .one), (.c .one)], .pure, [.tmp 2, .tmp 3, .tmp 4],
(.seq (.reg false [
⟨some 2, none, [], .mov (.k .ns)⟩,
⟨some 3, none, [], .mov (.k (.it .i64 0))⟩,
⟨some 4, none, [], .mov (.k (.bo false))⟩] [])
(.seq (.seq (.reg false [
⟨some 7, none, [], .mov (.t 0)⟩,
⟨some 8, none, [], .call false .rw 14 [(.t 7), (.k (.fn 15 [] []))]⟩,
⟨some 9, none, [], .mov (.t 8)⟩,
⟨some 10, some (9, false), [], .mov (.t 0)⟩,
⟨some 11, some (9, false), [], .call false .pure 16 [(.t 10)]⟩,
⟨some 12, some (9, false), [], .un .not (.t 11)⟩,
⟨some 13, none, [], .pick (.t 9) (.k (.bo true)) (.t 12)⟩] [])
(.cond (.t 13)
(.seq (.reg false [
⟨some 2, none, [], .mov (.k .ns)⟩,
⟨some 3, none, [], .mov (.k (.it .i64 0))⟩,
⟨some 4, none, [], .mov (.k (.bo false))⟩] [])
.ret)
.skip))
(.seq (.reg false [
⟨some 15, none, [], .mov (.t 0)⟩,
⟨some 16, none, [], .call false .pure 17 [(.t 15)]⟩,
⟨some 14, none, [], .mov (.t 16)⟩,
⟨some 17, none, [], .ext (.t 14) 0⟩,
⟨some 18, none, [], .ext (.t 14) 1⟩,
⟨some 5, none, [], .mov (.t 17)⟩,
⟨some 6, none, [], .mov (.t 18)⟩] [])
(.seq (.reg false [
⟨some 19, none, [], .mov (.t 0)⟩,
⟨some 20, none, [], .app 2 32 (.k .ns) (.t 19)⟩,
⟨some 21, none, [], .mov (.t 5)⟩,
⟨some 22, none, [], .mov (.t 6)⟩,
⟨some 2, none, [], .mov (.t 20)⟩,
⟨some 3, none, [], .mov (.t 21)⟩,
⟨some 4, none, [], .mov (.t 22)⟩] [])
.ret))))⟩
def c10 : Ev.Fn := d10.den
def p10 : Pol := { loc := [], md := .pure, mds := mds, heap := [], own := [], ord := [(4, [0, 2, 3, 1, 4, 5, 6])], clr := [], mask := [], fns := [15], lcl := [] }
theorem r10 : FnOK Tryd.prog mds 10 c10 := .read (pol := p10) (d := d10) Tryd.func10 (by kernel_rfl) (by kernel_rfl) rfl rfl (by kernel_rfl)

/- reservoir/message.Request -/
def d11 : DFn := ⟨[(.c (.sl [.one, .one]))], [(.g [.one, .one, .one, .one, (.sl [.one, .one]), .one]), (.c .one)], .pure, [.cell 2 6 true, .tmp 3],
(.seq (.reg false [
⟨some 2, none, [], .alc [(.st []), (.st []), (.st []), (.st []), .ns, (.it .i64 0)]⟩,
⟨some 3, none, [], .mov (.k (.bo false))⟩] [])
(.seq (.reg false [
⟨some 4, none, [], .mov (.k (.it .i64 0))⟩] [])
(.seq (.blk 0 (.loop [0, 2, 4] []
(.seq (.seq (.reg false [
⟨some 9, none, [], .mov (.t 4)⟩,
⟨some 10, none, [], .mov (.t 0)⟩,
⟨some 11, none, [], .len false (.t 10)⟩,
⟨some 12, none, [], .bin .no .lss (.t 9) (.t 11)⟩,
⟨some 13, none, [], .mov (.t 12)⟩,
⟨some 14, some (13, true), [], .mov (.t 0)⟩,
⟨some 15, some (13, true), [], .mov (.t 4)⟩,
⟨some 16, some (13, true), [], .ias 2 (.t 14) (.t 15)⟩,
⟨some 17, some (13, true), [], .ld 2 true (.t 16)⟩,
⟨some 18, some (13, true), [], .call false .pure 15 [(.t 17)]⟩,
⟨some 19, none, [], .pick (.t 13) (.t 18) (.k (.bo false))⟩] [])
(.cond (.t 19)
.skip
(.exit 0)))
(.blk 1 (.reg false [
⟨some 20, none, [], .mov (.t 4)⟩,
⟨some 21, none, [], .bin .no .add (.t 20) (.k (.it .i64 1))⟩,
⟨some 4, none, [], .mov (.t 21)⟩] [])))))
(.seq (.reg false [
⟨some 5, none, [], .alh [(.st []), (.st []), (.st []), (.st []), .ns, (.it .i64 0)]⟩] [])
(.seq (.seq (.reg false [
⟨some 22, none, [], .mov (.t 0)⟩,
⟨some 23, none, [], .mov (.t 4)⟩,
⟨some 24, none, [], .slc false 2 (.t 22) none (some (.t 23))⟩,
⟨some 25, none, [], .call false .rw 18 [(.t 24), (.t 5)]⟩,
⟨some 26, none, [], .un .not (.t 25)⟩,
⟨some 27, none, [], .mov (.t 26)⟩,
⟨some 28, some (27, false), [], .ld 6 true (.t 5)⟩,
⟨some 29, some (27, false), [], .call false .pure 19 [(.t 28)]⟩,
⟨some 30, some (27, false), [], .un .not (.t 29)⟩,
⟨some 31, none, [], .pick (.t 27) (.k (.bo true)) (.t 30)⟩] [])
(.cond (.t 31)
(.seq (.reg false [
⟨some 32, none, [], .bld [(.st []), (.st []), (.st []), (.st []), .ns, (.it .i64 0)] []⟩,
⟨none, none, [], .sto 6 (.t 2) (.t 32)⟩,
⟨some 3, none, [], .mov (.k (.bo false))⟩] [])
.ret)
.skip))
(.seq (.reg false [
⟨some 34, none, [], .mov (.t 0)⟩,
⟨some 35, none, [], .mov (.t 4)⟩,
⟨some 36, none, [], .slc false 2 (.t 34) (some (.t 35)) none⟩,
⟨some 37, none, [], .call true .pure 10 [(.t 36)]⟩,
⟨some 33, none, [], .mov (.t 37)⟩,
⟨some 38, none, [], .ext (.t 33) 0⟩,
⟨some 39, none, [], .ext (.t 33) 1⟩,
⟨some 40, none, [], .ext (.t 33) 2⟩,
⟨some 6, none, [], .mov (.t 38)⟩,
⟨some 7, none, [], .mov (.t 39)⟩,
⟨some 8, none, [], .mov (.t 40)⟩] [])
(.seq (.seq (.reg false [
⟨some 41, none, [], .mov (.t 8)⟩,
⟨some 42, none, [], .un .not (.t 41)⟩] [])
(.cond (.t 42)
(.seq (.reg false [
⟨some 43, none, [], .bld [(.st []), (.st []), (.st []), (.st []), .ns, (.it .i64 0)] []⟩,
⟨none, none, [], .sto 6 (.t 2) (.t 43)⟩,
⟨some 3, none, [], .mov (.k (.bo false))⟩] [])
.ret)
.skip))
(.seq (.reg false [
⟨some 44, none, [], .mov (.t 6)⟩,
⟨some 45, none, [], .mov (.t 7)⟩,
⟨some 46, none, [], .fad 4 (.t 5)⟩,
⟨none, none, [], .sto 1 (.t 46) (.t 44)⟩,
⟨some 47, none, [], .fad 5 (.t 5)⟩,
⟨none, none, [], .sto 1 (.t 47) (.t 45)⟩] [])
(.seq (.reg false [
⟨some 48, none, [], .ld 6 true (.t 5)⟩,
⟨none, none, [], .sto 6 (.t 2) (.t 48)⟩,
⟨some 3, none, [], .mov (.k (.bo true))⟩] [])
.ret)))))))))⟩
def c11 : Ev.Fn := d11.den
def p11 : Pol := { loc := [2], md := .pure, mds := mds, heap := [37], own := [37], ord := [(0, [1, 0])], clr := [], mask := [(2, [0, 2, 4], [])], fns := [], lcl := [] }
theorem r11 : FnOK Tryd.prog mds 11 c11 := .read (pol := p11) (d := d11) Tryd.func11 (by kernel_rfl) (by kernel_rfl) rfl rfl (by kernel_rfl)

/- reservoir/reservoirkeep.Requests -/
def d12 : DFn := ⟨[(.g [.one, .one, .one, .one, (.sl [.one, .one]), .one]), (.g [.one, .one, .one, .one, (.sl [.one, .one]), .one])], [(.c .one)], .pure, [.tmp 4],
(.seq (.reg false [
⟨some 2, none, [], .box (.t 0)⟩,
⟨some 3, none, [], .box (.t 1)⟩,
⟨some 4, none, [], .mov (.k (.bo false))⟩] [])
(.seq (.reg false [
⟨some 5, none, [], .fad 0 (.t 2)⟩,
⟨some 6, none, [], .ld 1 false (.t 5)⟩,
⟨some 7, none, [], .fad 0 (.t 3)⟩,
⟨some 8, none, [], .ld 1 false (.t 7)⟩,
⟨some 9, none, [], .bin .no .eql (.t 6) (.t 8)⟩,
⟨some 10, none, [], .mov (.t 9)⟩,
⟨some 11, some (10, true), [], .fad 1 (.t 2)⟩,
⟨some 12, some (10, true), [], .ld 1 false (.t 11)⟩,
⟨some 13, some (10, true), [], .fad 1 (.t 3)⟩,
⟨some 14, some (10, true), [], .ld 1 false (.t 13)⟩,
⟨some 15, some (10, true), [], .bin .no .eql (.t 12) (.t 14)⟩,
⟨some 16, none, [], .pick (.t 10) (.t 15) (.k (.bo false))⟩,
⟨some 17, none, [], .mov (.t 16)⟩,
⟨some 18, some (17, true), [], .fad 2 (.t 2)⟩,
⟨some 19, some (17, true), [], .ld 1 false (.t 18)⟩,
⟨some 20, some (17, true), [], .fad 2 (.t 3)⟩,
⟨some 21, some (17, true), [], .ld 1 false (.t 20)⟩,
⟨some 22, some (17, true), [], .bin .no .eql (.t 19) (.t 21)⟩,
⟨some 23, none, [], .pick (.t 17) (.t 22) (.k (.bo false))⟩,
⟨some 24, none, [], .mov (.t 23)⟩,
⟨some 25, some (24, true), [], .fad 3 (.t 2)⟩,
⟨some 26, some (24, true), [], .ld 1 false (.t 25)⟩,
⟨some 27, some (24, true), [], .fad 3 (.t 3)⟩,
⟨some 28, some (24, true), [], .ld 1 false (.t 27)⟩,
⟨some 29, some (24, true), [], .bin .no .eql (.t 26) (.t 28)⟩,
⟨some 30, none, [], .pick (.t 24) (.t 29) (.k (.bo false))⟩,
⟨some 31, none, [], .mov (.t 30)⟩,
⟨some 32, some (31, true), [], .fad 4 (.t 2)⟩,
⟨some 33, some (31, true), [], .ld 1 false (.t 32)⟩,
⟨some 34, some (31, true), [], .fad 4 (.t 3)⟩,
⟨some 35, some (31, true), [], .ld 1 false (.t 34)⟩,
⟨some 36, some (31, true), [], .call false .pure 20 [(.t 33), (.t 35)]⟩,
⟨some 37, none, [], .pick (.t 31) (.t 36) (.k (.bo false))⟩,
⟨some 38, none, [], .mov (.t 37)⟩,
⟨some 39, some (38, true), [], .fad 5 (.t 2)⟩,
⟨some 40, some (38, true), [], .ld 1 false (.t 39)⟩,
⟨some 41, some (38, true), [], .fad 5 (.t 3)⟩,
⟨some 42, some (38, true), [], .ld 1 false (.t 41)⟩,
⟨some 43, some (38, true), [], .bin .no .eql (.t 40) (.t 42)⟩,
⟨some 44, none, [], .pick (.t 38) (.t 43) (.k (.bo false))⟩,
⟨some 4, none, [], .mov (.t 44)⟩] [5, 7, 11, 13, 18, 20, 25, 27, 32, 34, 39, 41])
.ret))⟩
def c12 : Ev.Fn := d12.den
def p12 : Pol := { loc := [2, 3], md := .pure, mds := mds, heap := [], own := [], ord := [(0, [2, 0, 1])], clr := [(1, [5, 7, 11, 13, 18, 20, 25, 27, 32, 34, 39, 41])], mask := [], fns := [], lcl := [] }
theorem r12 : FnOK Tryd.prog mds 12 c12 := .read (pol := p12) (d := d12) Tryd.func12 (by kernel_rfl) (by kernel_rfl) rfl rfl (by kernel_rfl)

/- slices.ContainsFunc[[]reservoir/api.Field,reservoir/api.Field] -/
def d14 : DFn := ⟨[(.c (.sl [.one, .one])), (.c .one)], [(.c .one)], .rw, [.tmp 4],
(.seq (.reg false [
⟨some 4, none, [], .mov (.k (.bo false))⟩] [])
(.seq (.reg false [
⟨some 5, none, [], .mov (.t 0)⟩,
⟨some 6, none, [], .mov (.t 1)⟩,
⟨some 7, none, [], .call false .rw 25 [(.t 5), (.t 6)]⟩,
⟨some 8, none, [], .bin .no .geq (.t 7) (.k (.it .i64 0))⟩,
⟨some 4, none, [], .mov (.t 8)⟩] [])
.ret))⟩
def c14 : Ev.Fn := d14.den
def p14 : Pol := { loc := [], md := .rw, mds := mds, heap := [], own := [], ord := [], clr := [], mask := [], fns := [], lcl := [] }
theorem r14 : FnOK Tryd.prog mds 14 c14 := .read (pol := p14) (d := d14) Tryd.func14 (by kernel_rfl) (by kernel_rfl) rfl rfl (by kernel_rfl)

/- reservoir/message.colon -/
def d15 : DFn := ⟨[(.g [.one, .one])], [(.c .one)], .pure, [.tmp 2],
(.seq (.reg false [
⟨some 1, none, [], .box (.t 0)⟩,
⟨some 2, none, [], .mov (.k (.bo false))⟩] [])
(.seq (.reg false [
⟨some 3, none, [], .fad 0 (.t 1)⟩,
⟨some 4, none, [], .ld 1 false (.t 3)⟩,
⟨some 5, none, [], .len true (.t 4)⟩,
⟨some 6, none, [], .bin .no .gtr (.t 5) (.k (.it .i64 0))⟩,
⟨some 7, none, [], .mov (.t 6)⟩,
⟨some 8, some (7, true), [], .fad 0 (.t 1)⟩,
⟨some 9, some (7, true), [], .ld 1 false (.t 8)⟩,
⟨some 10, some (7, true), [], .ixs (.t 9) (.k (.it .i64 0))⟩,
⟨some 11, some (7, true), [], .bin .no .eql (.t 10) (.k (.it .u8 58))⟩,
⟨some 12, none, [], .pick (.t 7) (.t 11) (.k (.bo false))⟩,
⟨some 2, none, [], .mov (.t 12)⟩] [3, 8])
.ret))⟩
def c15 : Ev.Fn := d15.den
def p15 : Pol := { loc := [1], md := .pure, mds := mds, heap := [], own := [], ord := [(0, [1, 0])], clr := [(1, [3, 8])], mask := [], fns := [], lcl := [] }
theorem r15 : FnOK Tryd.prog mds 15 c15 := .read (pol := p15) (d := d15) Tryd.func15 (by kernel_rfl) (by kernel_rfl) rfl rfl (by kernel_rfl)

/- reservoir/message.plain -/
def d16 : DFn := ⟨[(.c (.sl [.one, .one]))], [(.c .one)], .pure, [.tmp 2],
(.seq (.reg false [
⟨some 2, none, [], .mov (.k (.bo false))⟩] [])
(.seq (.seq (.reg false [
⟨some 5, none, [], .mov (.t 0)⟩,
⟨some 6, none, [], .len false (.t 5)⟩,
⟨some 7, none, [], .mov (.k (.it .i64 0))⟩] [])
(.blk 0 (.loop [5, 6, 7] [4]
(.seq (.reg false [
⟨some 8, none, [], .bin .no .lss (.t 7) (.t 6)⟩] [])
(.seq (.cond (.t 8)
.skip
(.exit 0))
(.seq (.blk 1 (.seq (.reg false [
⟨some 9, none, [], .ias 2 (.t 5) (.t 7)⟩,
⟨some 10, none, [], .ld 2 true (.t 9)⟩,
⟨some 4, none, [], .alc [(.st []), (.st [])]⟩,
⟨none, none, [], .sto 2 (.t 4) (.t 10)⟩] [])
(.seq (.reg false [
⟨some 11, none, [], .fad 0 (.t 4)⟩,
⟨some 12, none, [], .ld 1 false (.t 11)⟩,
⟨some 13, none, [], .call false .pure 26 [(.t 12)]⟩,
⟨some 14, none, [], .un .not (.t 13)⟩,
⟨some 15, none, [], .mov (.t 14)⟩,
⟨some 16, some (15, false), [], .fad 1 (.t 4)⟩,
⟨some 17, some (15, false), [], .ld 1 false (.t 16)⟩,
⟨some 18, some (15, false), [], .call false .pure 27 [(.t 17)]⟩,
⟨some 19, some (15, false), [], .un .not (.t 18)⟩,
⟨some 20, none, [], .pick (.t 15) (.k (.bo true)) (.t 19)⟩,
⟨some 21, none, [], .mov (.t 20)⟩,
⟨some 22, some (21, false), [], .fad 0 (.t 4)⟩,
⟨some 23, some (21, false), [], .ld 1 false (.t 22)⟩,
⟨some 24, some (21, false), [], .call false .pure 28 [(.t 23)]⟩,
⟨some 25, none, [], .pick (.t 21) (.k (.bo true)) (.t 24)⟩,
⟨some 26, none, [], .mov (.t 25)⟩,
⟨some 27, some (26, false), [], .fad 0 (.t 4)⟩,
⟨some 28, some (26, false), [], .ld 1 false (.t 27)⟩,
⟨some 29, some (26, false), [], .bin .no .eql (.t 28) (.k (.st [116, 101]))⟩,
⟨some 30, some (26, false), [], .mov (.t 29)⟩,
⟨some 31, some (30, true), [], .fad 1 (.t 4)⟩,
⟨some 32, some (30, true), [], .ld 1 false (.t 31)⟩,
⟨some 33, some (30, true), [], .bin .no .neq (.t 32) (.k (.st [116, 114, 97, 105, 108, 101, 114, 115]))⟩,
⟨some 34, some (26, false), [], .pick (.t 30) (.t 33) (.k (.bo false))⟩,
⟨some 35, none, [], .pick (.t 26) (.k (.bo true)) (.t 34)⟩] [11, 16, 22, 27, 31])
(.cond (.t 35)
(.seq (.reg false [
⟨some 2, none, [], .mov (.k (.bo false))⟩] [])
.ret)
.skip))))
(.reg false [
⟨some 36, none, [], .bin .no .add (.t 7) (.k (.it .i64 1))⟩,
⟨some 7, none, [], .mov (.t 36)⟩] [])))))))
(.seq (.reg false [
⟨some 2, none, [], .mov (.k (.bo true))⟩] [])
.ret)))⟩
def c16 : Ev.Fn := d16.den
def p16 : Pol := { loc := [4], md := .pure, mds := mds, heap := [], own := [], ord := [], clr := [(4, [11, 16, 22, 27, 31])], mask := [(2, [5, 6, 7], [4])], fns := [], lcl := [] }
theorem r16 : FnOK Tryd.prog mds 16 c16 := .read (pol := p16) (d := d16) Tryd.func16 (by kernel_rfl) (by kernel_rfl) rfl rfl (by kernel_rfl)

/- reservoir/message.length -/
def d17 : DFn := ⟨[(.c (.sl [.one, .one]))], [(.c .one), (.c .one)], .pure, [.tmp 2, .tmp 3],
(.seq (.reg false [
⟨some 2, none, [], .mov (.k (.it .i64 0))⟩,
⟨some 3, none, [], .mov (.k (.bo false))⟩] [])
(.seq (.reg false [
⟨some 4, none, [], .mov (.k (.it .i64 (-1)))⟩] [])
(.seq (.seq (.reg false [
⟨some 8, none, [], .mov (.t 0)⟩,
⟨some 9, none, [], .len false (.t 8)⟩,
⟨some 10, none, [], .mov (.k (.it .i64 0))⟩] [])
(.blk 0 (.loop [4, 8, 9, 10] [6]
(.seq (.reg false [
⟨some 11, none, [], .bin .no .lss (.t 10) (.t 9)⟩] [])
(.seq (.cond (.t 11)
.skip
(.exit 0))
(.seq (.blk 1 (.seq (.reg false [
⟨some 12, none, [], .ias 2 (.t 8) (.t 10)⟩,
⟨some 13, none, [], .ld 2 true (.t 12)⟩,
⟨some 6, none, [], .alc [(.st []), (.st [])]⟩,
⟨none, none, [], .sto 2 (.t 6) (.t 13)⟩] [])
(.seq (.seq (.reg false [
⟨some 14, none, [], .fad 0 (.t 6)⟩,
⟨some 15, none, [], .ld 1 false (.t 14)⟩,
⟨some 16, none, [], .bin .no .neq (.t 15) (.k (.st [99, 111, 110, 116, 101, 110, 116, 45, 108, 101, 110, 103, 116, 104]))⟩] [14])
(.cond (.t 16)
(.exit 1)
.skip))
(.seq (.reg false [
⟨some 17, none, [], .fad 1 (.t 6)⟩,
⟨some 18, none, [], .ld 1 false (.t 17)⟩,
⟨some 19, none, [], .call false .pure 9 [(.t 18)]⟩,
⟨some 7, none, [], .mov (.t 19)⟩] [17])
(.seq (.seq (.reg false [
⟨some 20, none, [], .mov (.t 7)⟩,
⟨some 21, none, [], .bin .no .lss (.t 20) (.k (.it .i64 0))⟩,
⟨some 22, none, [], .mov (.t 21)⟩,
⟨some 23, some (22, false), [], .mov (.t 4)⟩,
⟨some 24, some (22, false), [], .bin .no .geq (.t 23) (.k (.it .i64 0))⟩,
⟨some 25, some (22, false), [], .mov (.t 24)⟩,
⟨some 26, some (25, true), [], .mov (.t 7)⟩,
⟨some 27, some (25, true), [], .mov (.t 4)⟩,
⟨some 28, some (25, true), [], .bin .no .neq (.t 26) (.t 27)⟩,
⟨some 29, some (22, false), [], .pick (.t 25) (.t 28) (.k (.bo false))⟩,
⟨some 30, none, [], .pick (.t 22) (.k (.bo true)) (.t 29)⟩] [])
(.cond (.t 30)
(.seq (.reg false [
⟨some 2, none, [], .mov (.k (.it .i64 0))⟩,
⟨some 3, none, [], .mov (.k (.bo false))⟩] [])
.ret)
.skip))
(.reg false [
⟨some 31, none, [], .mov (.t 7)⟩,
⟨some 4, none, [], .mov (.t 31)⟩] []))))))
(.reg false [
⟨some 32, none, [], .bin .no .add (.t 10) (.k (.it .i64 1))⟩,
⟨some 10, none, [], .mov (.t 32)⟩] [])))))))
(.seq (.reg false [
⟨some 33, none, [], .mov (.t 4)⟩,
⟨some 2, none, [], .mov (.t 33)⟩,
⟨some 3, none, [], .mov (.k (.bo true))⟩] [])
.ret))))⟩
def c17 : Ev.Fn := d17.den
def p17 : Pol := { loc := [6], md := .pure, mds := mds, heap := [], own := [], ord := [], clr := [(5, [14]), (6, [17])], mask := [(3, [4, 8, 9, 10], [6])], fns := [], lcl := [] }
theorem r17 : FnOK Tryd.prog mds 17 c17 := .read (pol := p17) (d := d17) Tryd.func17 (by kernel_rfl) (by kernel_rfl) rfl rfl (by kernel_rfl)

/- reservoir/message.head -/
def d18 : DFn := ⟨[(.c (.sl [.one, .one])), (.c .one)], [(.c .one)], .rw, [.tmp 4],
(.seq (.reg false [
⟨some 4, none, [], .mov (.k (.bo false))⟩] [])
(.seq (.reg false [
⟨some 8, none, [], .mmk⟩,
⟨some 5, none, [], .mov (.t 8)⟩] [])
(.seq (.seq (.reg false [
⟨some 9, none, [], .mov (.t 0)⟩,
⟨some 10, none, [], .len false (.t 9)⟩,
⟨some 11, none, [], .mov (.k (.it .i64 0))⟩] [])
(.blk 0 (.loop [1, 5, 9, 10, 11] [7]
(.seq (.reg false [
⟨some 12, none, [], .bin .no .lss (.t 11) (.t 10)⟩] [])
(.seq (.cond (.t 12)
.skip
(.exit 0))
(.seq (.blk 1 (.seq (.reg false [
⟨some 13, none, [], .ias 2 (.t 9) (.t 11)⟩,
⟨some 14, none, [], .ld 2 true (.t 13)⟩,
⟨some 7, none, [], .alc [(.st []), (.st [])]⟩,
⟨none, none, [], .sto 2 (.t 7) (.t 14)⟩] [])
(.seq (.reg false [
⟨some 15, none, [], .mov (.t 5)⟩,
⟨some 16, none, [], .fad 0 (.t 7)⟩,
⟨some 17, none, [], .ld 1 false (.t 16)⟩,
⟨some 18, none, [], .mlk false (.it .i64 0) (.t 15) (.t 17)⟩,
⟨some 19, none, [], .bin .no .add (.t 18) (.k (.it .i64 1))⟩,
⟨none, none, [], .mup (.t 15) (.t 17) (.t 19)⟩] [16])
(.seq (.seq (.reg false [
⟨some 20, none, [], .mov (.t 5)⟩,
⟨some 21, none, [], .fad 0 (.t 7)⟩,
⟨some 22, none, [], .ld 1 false (.t 21)⟩,
⟨some 23, none, [], .mlk false (.it .i64 0) (.t 20) (.t 22)⟩,
⟨some 24, none, [], .bin .no .gtr (.t 23) (.k (.it .i64 1))⟩,
⟨some 25, none, [], .mov (.t 24)⟩,
⟨some 26, some (25, false), [], .fad 1 (.t 7)⟩,
⟨some 27, some (25, false), [], .ld 1 false (.t 26)⟩,
⟨some 28, some (25, false), [], .call false .pure 27 [(.t 27)]⟩,
⟨some 29, some (25, false), [], .un .not (.t 28)⟩,
⟨some 30, none, [], .pick (.t 25) (.k (.bo true)) (.t 29)⟩] [21, 26])
(.cond (.t 30)
(.seq (.reg false [
⟨some 4, none, [], .mov (.k (.bo false))⟩] [])
.ret)
.skip))
(.seq (.reg false [
⟨some 31, none, [], .fad 0 (.t 7)⟩,
⟨some 32, none, [], .ld 1 false (.t 31)⟩] [31])
(.blk 2 (.seq (.reg false [
⟨some 34, none, [], .bin .no .eql (.t 32) (.k (.st [58, 109, 101, 116, 104, 111, 100]))⟩,
⟨some 33, none, [], .mov (.t 34)⟩] [])
(.cond (.t 33)
(.reg false [
⟨some 35, none, [], .mov (.t 1)⟩,
⟨some 36, none, [], .fad 1 (.t 7)⟩,
⟨some 37, none, [], .ld 1 false (.t 36)⟩,
⟨some 38, none, [], .nck (.t 35)⟩,
⟨some 39, none, [], .fad 0 (.t 38)⟩,
⟨none, none, [], .sto 1 (.t 39) (.t 37)⟩] [36])
(.seq (.reg false [
⟨some 41, none, [], .bin .no .eql (.t 32) (.k (.st [58, 115, 99, 104, 101, 109, 101]))⟩,
⟨some 40, none, [], .mov (.t 41)⟩] [])
(.cond (.t 40)
(.reg false [
⟨some 42, none, [], .mov (.t 1)⟩,
⟨some 43, none, [], .fad 1 (.t 7)⟩,
⟨some 44, none, [], .ld 1 false (.t 43)⟩,
⟨some 45, none, [], .nck (.t 42)⟩,
⟨some 46, none, [], .fad 1 (.t 45)⟩,
⟨none, none, [], .sto 1 (.t 46) (.t 44)⟩] [43])
(.seq (.reg false [
⟨some 48, none, [], .bin .no .eql (.t 32) (.k (.st [58, 97, 117, 116, 104, 111, 114, 105, 116, 121]))⟩,
⟨some 47, none, [], .mov (.t 48)⟩] [])
(.cond (.t 47)
(.reg false [
⟨some 49, none, [], .mov (.t 1)⟩,
⟨some 50, none, [], .fad 1 (.t 7)⟩,
⟨some 51, none, [], .ld 1 false (.t 50)⟩,
⟨some 52, none, [], .nck (.t 49)⟩,
⟨some 53, none, [], .fad 2 (.t 52)⟩,
⟨none, none, [], .sto 1 (.t 53) (.t 51)⟩] [50])
(.seq (.reg false [
⟨some 55, none, [], .bin .no .eql (.t 32) (.k (.st [58, 112, 97, 116, 104]))⟩,
⟨some 54, none, [], .mov (.t 55)⟩] [])
(.cond (.t 54)
(.reg false [
⟨some 56, none, [], .mov (.t 1)⟩,
⟨some 57, none, [], .fad 1 (.t 7)⟩,
⟨some 58, none, [], .ld 1 false (.t 57)⟩,
⟨some 59, none, [], .nck (.t 56)⟩,
⟨some 60, none, [], .fad 3 (.t 59)⟩,
⟨none, none, [], .sto 1 (.t 60) (.t 58)⟩] [57])
(.seq (.reg false [
⟨some 4, none, [], .mov (.k (.bo false))⟩] [])
.ret)))))))))))))))
(.reg false [
⟨some 61, none, [], .bin .no .add (.t 11) (.k (.it .i64 1))⟩,
⟨some 11, none, [], .mov (.t 61)⟩] [])))))))
(.seq (.reg false [
⟨some 4, none, [], .mov (.k (.bo true))⟩] [])
.ret))))⟩
def c18 : Ev.Fn := d18.den
def p18 : Pol := { loc := [7], md := .rw, mds := mds, heap := [], own := [], ord := [], clr := [(5, [16]), (6, [21, 26]), (8, [31]), (11, [36]), (13, [43]), (15, [50]), (17, [57])], mask := [(3, [1, 5, 9, 10, 11], [7])], fns := [], lcl := [] }
theorem r18 : FnOK Tryd.prog mds 18 c18 := .read (pol := p18) (d := d18) Tryd.func18 (by kernel_rfl) (by kernel_rfl) rfl rfl (by kernel_rfl)

/- reservoir/message.right -/
def d19 : DFn := ⟨[(.g [.one, .one, .one, .one, (.sl [.one, .one]), .one])], [(.c .one)], .pure, [.tmp 2],
(.seq (.reg false [
⟨some 1, none, [], .box (.t 0)⟩,
⟨some 2, none, [], .mov (.k (.bo false))⟩] [])
(.seq (.seq (.reg false [
⟨some 3, none, [], .fad 0 (.t 1)⟩,
⟨some 4, none, [], .ld 1 false (.t 3)⟩,
⟨some 5, none, [], .call false .pure 29 [(.t 4)]⟩,
⟨some 6, none, [], .un .not (.t 5)⟩,
⟨some 7, none, [], .mov (.t 6)⟩,
⟨some 8, some (7, false), [], .fad 0 (.t 1)⟩,
⟨some 9, some (7, false), [], .ld 1 false (.t 8)⟩,
⟨some 10, some (7, false), [], .bin .no .eql (.t 9) (.k (.st [67, 79, 78, 78, 69, 67, 84]))⟩,
⟨some 11, none, [], .pick (.t 7) (.k (.bo true)) (.t 10)⟩,
⟨some 12, none, [], .mov (.t 11)⟩,
⟨some 13, some (12, false), [], .fad 1 (.t 1)⟩,
⟨some 14, some (12, false), [], .ld 1 false (.t 13)⟩,
⟨some 15, some (12, false), [], .bin .no .neq (.t 14) (.k (.st [104, 116, 116, 112]))⟩,
⟨some 16, some (12, false), [], .mov (.t 15)⟩,
⟨some 17, some (16, true), [], .fad 1 (.t 1)⟩,
⟨some 18, some (16, true), [], .ld 1 false (.t 17)⟩,
⟨some 19, some (16, true), [], .bin .no .neq (.t 18) (.k (.st [104, 116, 116, 112, 115]))⟩,
⟨some 20, some (12, false), [], .pick (.t 16) (.t 19) (.k (.bo false))⟩,
⟨some 21, none, [], .pick (.t 12) (.k (.bo true)) (.t 20)⟩,
⟨some 22, none, [], .mov (.t 21)⟩,
⟨some 23, some (22, false), [], .fad 2 (.t 1)⟩,
⟨some 24, some (22, false), [], .ld 1 false (.t 23)⟩,
⟨some 25, some (22, false), [], .bin .no .eql (.t 24) (.k (.st []))⟩,
⟨some 26, none, [], .pick (.t 22) (.k (.bo true)) (.t 25)⟩,
⟨some 27, none, [], .mov (.t 26)⟩,
⟨some 28, some (27, false), [], .fad 3 (.t 1)⟩,
⟨some 29, some (27, false), [], .ld 1 false (.t 28)⟩,
⟨some 30, some (27, false), [], .bin .no .eql (.t 29) (.k (.st []))⟩,
⟨some 31, none, [], .pick (.t 27) (.k (.bo true)) (.t 30)⟩] [3, 8, 13, 17, 23, 28])
(.cond (.t 31)
(.seq (.reg false [
⟨some 2, none, [], .mov (.k (.bo false))⟩] [])
.ret)
.skip))
(.seq (.reg false [
⟨some 32, none, [], .fad 3 (.t 1)⟩,
⟨some 33, none, [], .ld 1 false (.t 32)⟩,
⟨some 34, none, [], .ixs (.t 33) (.k (.it .i64 0))⟩,
⟨some 35, none, [], .bin .no .eql (.t 34) (.k (.it .u8 47))⟩,
⟨some 36, none, [], .mov (.t 35)⟩,
⟨some 37, some (36, false), [], .fad 3 (.t 1)⟩,
⟨some 38, some (36, false), [], .ld 1 false (.t 37)⟩,
⟨some 39, some (36, false), [], .bin .no .eql (.t 38) (.k (.st [42]))⟩,
⟨some 40, some (36, false), [], .mov (.t 39)⟩,
⟨some 41, some (40, true), [], .fad 0 (.t 1)⟩,
⟨some 42, some (40, true), [], .ld 1 false (.t 41)⟩,
⟨some 43, some (40, true), [], .bin .no .eql (.t 42) (.k (.st [79, 80, 84, 73, 79, 78, 83]))⟩,
⟨some 44, some (36, false), [], .pick (.t 40) (.t 43) (.k (.bo false))⟩,
⟨some 45, none, [], .pick (.t 36) (.k (.bo true)) (.t 44)⟩,
⟨some 2, none, [], .mov (.t 45)⟩] [32, 37, 41])
.ret)))⟩
def c19 : Ev.Fn := d19.den
def p19 : Pol := { loc := [1], md := .pure, mds := mds, heap := [], own := [], ord := [(0, [1, 0])], clr := [(1, [3, 8, 13, 17, 23, 28]), (3, [32, 37, 41])], mask := [], fns := [], lcl := [] }
theorem r19 : FnOK Tryd.prog mds 19 c19 := .read (pol := p19) (d := d19) Tryd.func19 (by kernel_rfl) (by kernel_rfl) rfl rfl (by kernel_rfl)

/- reservoir/reservoirbook.Same[reservoir/api.Field] -/
def d20 : DFn := ⟨[(.c (.sl [.one, .one])), (.c (.sl [.one, .one]))], [(.c .one)], .pure, [.tmp 4],
(.seq (.reg false [
⟨some 4, none, [], .mov (.k (.bo false))⟩] [])
(.seq (.seq (.reg false [
⟨some 6, none, [], .mov (.t 0)⟩,
⟨some 7, none, [], .len false (.t 6)⟩,
⟨some 8, none, [], .mov (.t 1)⟩,
⟨some 9, none, [], .len false (.t 8)⟩,
⟨some 10, none, [], .bin .no .neq (.t 7) (.t 9)⟩] [])
(.cond (.t 10)
(.seq (.reg false [
⟨some 4, none, [], .mov (.k (.bo false))⟩] [])
.ret)
.skip))
(.seq (.seq (.reg false [
⟨some 5, none, [], .mov (.k (.it .i64 0))⟩] [])
(.blk 0 (.loop [0, 1, 5] []
(.seq (.seq (.reg false [
⟨some 11, none, [], .mov (.t 5)⟩,
⟨some 12, none, [], .mov (.t 0)⟩,
⟨some 13, none, [], .len false (.t 12)⟩,
⟨some 14, none, [], .bin .no .lss (.t 11) (.t 13)⟩] [])
(.cond (.t 14)
.skip
(.exit 0)))
(.seq (.blk 1 (.seq (.reg true [
⟨some 17, none, [], .mov (.t 0)⟩,
⟨some 18, none, [], .mov (.t 5)⟩,
⟨some 19, none, [], .ias 2 (.t 17) (.t 18)⟩,
⟨some 20, none, [], .ld 2 true (.t 19)⟩,
⟨some 21, none, [], .mov (.t 1)⟩,
⟨some 22, none, [], .mov (.t 5)⟩,
⟨some 23, none, [], .ias 2 (.t 21) (.t 22)⟩,
⟨some 24, none, [], .ld 2 true (.t 23)⟩,
⟨some 25, none, [], .bin (.ag [1, 1]) .neq (.t 20) (.t 24)⟩] [])
(.cond (.t 25)
(.seq (.reg false [
⟨some 4, none, [], .mov (.k (.bo false))⟩] [])
.ret)
.skip)))
(.reg false [
⟨some 15, none, [], .mov (.t 5)⟩,
⟨some 16, none, [], .bin .no .add (.t 15) (.k (.it .i64 1))⟩,
⟨some 5, none, [], .mov (.t 16)⟩] []))))))
(.seq (.reg false [
⟨some 4, none, [], .mov (.k (.bo true))⟩] [])
.ret))))⟩
def c20 : Ev.Fn := d20.den
def p20 : Pol := { loc := [], md := .pure, mds := mds, heap := [], own := [], ord := [], clr := [], mask := [(4, [0, 1, 5], [])], fns := [], lcl := [] }
theorem r20 : FnOK Tryd.prog mds 20 c20 := .read (pol := p20) (d := d20) Tryd.func20 (by kernel_rfl) (by kernel_rfl) rfl rfl (by kernel_rfl)

/- slices.IndexFunc[[]reservoir/api.Field,reservoir/api.Field] -/
def d25 : DFn := ⟨[(.c (.sl [.one, .one])), (.c .one)], [(.c .one)], .rw, [.tmp 4],
(.seq (.reg false [
⟨some 4, none, [], .mov (.k (.it .i64 0))⟩] [])
(.seq (.seq (.reg false [
⟨some 6, none, [], .mov (.t 0)⟩,
⟨some 7, none, [], .len false (.t 6)⟩,
⟨some 8, none, [], .mov (.k (.it .i64 0))⟩] [])
(.blk 0 (.loop [0, 1, 7, 8] []
(.seq (.reg false [
⟨some 9, none, [], .bin .no .lss (.t 8) (.t 7)⟩] [])
(.seq (.cond (.t 9)
.skip
(.exit 0))
(.seq (.blk 1 (.seq (.reg false [
⟨some 10, none, [], .mov (.t 8)⟩,
⟨some 5, none, [], .mov (.t 10)⟩] [])
(.seq (.reg false [
⟨some 11, none, [], .mov (.t 1)⟩,
⟨some 12, none, [], .mov (.t 0)⟩,
⟨some 13, none, [], .mov (.t 5)⟩,
⟨some 14, none, [], .ias 2 (.t 12) (.t 13)⟩,
⟨some 15, none, [], .ld 2 true (.t 14)⟩,
⟨some 16, none, [], .calv [] (.t 11) [(.t 15)]⟩] [])
(.cond (.t 16)
(.seq (.reg false [
⟨some 17, none, [], .mov (.t 5)⟩,
⟨some 4, none, [], .mov (.t 17)⟩] [])
.ret)
.skip))))
(.reg false [
⟨some 18, none, [], .bin .no .add (.t 8) (.k (.it .i64 1))⟩,
⟨some 8, none, [], .mov (.t 18)⟩] [])))))))
(.seq (.reg false [
⟨some 4, none, [], .mov (.k (.it .i64 (-1)))⟩] [])
.ret)))⟩
def c25 : Ev.Fn := d25.den
def p25 : Pol := { loc := [], md := .rw, mds := mds, heap := [], own := [], ord := [], clr := [], mask := [(2, [0, 1, 7, 8], [])], fns := [], lcl := [] }
theorem r25 : FnOK Tryd.prog mds 25 c25 := .read (pol := p25) (d := d25) Tryd.func25 (by kernel_rfl) (by kernel_rfl) rfl rfl (by kernel_rfl)

/- reservoir/message.named -/
def d26 : DFn := ⟨[(.c .one)], [(.c .one)], .pure, [.tmp 2],
(.seq (.reg false [
⟨some 2, none, [], .mov (.k (.bo false))⟩] [])
(.seq (.reg false [
⟨some 3, none, [], .mov (.t 0)⟩,
⟨some 4, none, [], .call false .pure 29 [(.t 3)]⟩,
⟨some 5, none, [], .mov (.t 4)⟩,
⟨some 6, some (5, true), [], .mov (.t 0)⟩,
⟨some 7, some (5, true), [], .call false .pure 35 [(.t 6)]⟩,
⟨some 8, some (5, true), [], .mov (.t 0)⟩,
⟨some 9, some (5, true), [], .bin .no .eql (.t 7) (.t 8)⟩,
⟨some 10, none, [], .pick (.t 5) (.t 9) (.k (.bo false))⟩,
⟨some 2, none, [], .mov (.t 10)⟩] [])
.ret))⟩
def c26 : Ev.Fn := d26.den
def p26 : Pol := { loc := [], md := .pure, mds := mds, heap := [], own := [], ord := [(1, [0, 1, 2, 3, 5, 4, 6, 7, 8])], clr := [], mask := [], fns := [], lcl := [] }
theorem r26 : FnOK Tryd.prog mds 26 c26 := .read (pol := p26) (d := d26) Tryd.func26 (by kernel_rfl) (by kernel_rfl) rfl rfl (by kernel_rfl)

/- reservoir/token.Value -/
def d27 : DFn := ⟨[(.c .one)], [(.c .one)], .pure, [.tmp 2],
(.seq (.reg false [
⟨some 2, none, [], .mov (.k (.bo false))⟩] [])
(.seq (.seq (.reg false [
⟨some 4, none, [], .mov (.t 0)⟩,
⟨some 5, none, [], .len true (.t 4)⟩,
⟨some 6, none, [], .mov (.k (.it .i64 0))⟩] [])
(.blk 0 (.loop [0, 5, 6] []
(.seq (.reg false [
⟨some 7, none, [], .bin .no .lss (.t 6) (.t 5)⟩] [])
(.seq (.cond (.t 7)
.skip
(.exit 0))
(.seq (.blk 1 (.seq (.reg false [
⟨some 8, none, [], .mov (.t 6)⟩,
⟨some 3, none, [], .mov (.t 8)⟩] [])
(.seq (.reg false [
⟨some 9, none, [], .mov (.t 0)⟩,
⟨some 10, none, [], .mov (.t 3)⟩,
⟨some 11, none, [], .ixs (.t 9) (.t 10)⟩,
⟨some 12, none, [], .call false .pure 36 [(.t 11)]⟩,
⟨some 13, none, [], .un .not (.t 12)⟩] [])
(.cond (.t 13)
(.seq (.reg false [
⟨some 2, none, [], .mov (.k (.bo false))⟩] [])
.ret)
.skip))))
(.reg false [
⟨some 14, none, [], .bin .no .add (.t 6) (.k (.it .i64 1))⟩,
⟨some 6, none, [], .mov (.t 14)⟩] [])))))))
(.seq (.reg false [
⟨some 15, none, [], .mov (.t 0)⟩,
⟨some 16, none, [], .bin .no .eql (.t 15) (.k (.st []))⟩,
⟨some 17, none, [], .mov (.t 16)⟩,
⟨some 18, some (17, false), [], .mov (.t 0)⟩,
⟨some 19, some (17, false), [], .ixs (.t 18) (.k (.it .i64 0))⟩,
⟨some 20, some (17, false), [], .call false .pure 37 [(.t 19)]⟩,
⟨some 21, some (17, false), [], .un .not (.t 20)⟩,
⟨some 22, some (17, false), [], .mov (.t 21)⟩,
⟨some 23, some (22, true), [], .mov (.t 0)⟩,
⟨some 24, some (22, true), [], .mov (.t 0)⟩,
⟨some 25, some (22, true), [], .len true (.t 24)⟩,
⟨some 26, some (22, true), [], .bin .no .sub (.t 25) (.k (.it .i64 1))⟩,
⟨some 27, some (22, true), [], .ixs (.t 23) (.t 26)⟩,
⟨some 28, some (22, true), [], .call false .pure 37 [(.t 27)]⟩,
⟨some 29, some (22, true), [], .un .not (.t 28)⟩,
⟨some 30, some (17, false), [], .pick (.t 22) (.t 29) (.k (.bo false))⟩,
⟨some 31, none, [], .pick (.t 17) (.k (.bo true)) (.t 30)⟩,
⟨some 2, none, [], .mov (.t 31)⟩] [])
.ret)))⟩
def c27 : Ev.Fn := d27.den
def p27 : Pol := { loc := [], md := .pure, mds := mds, heap := [], own := [], ord := [], clr := [], mask := [(2, [0, 5, 6], [])], fns := [], lcl := [] }
theorem r27 : FnOK Tryd.prog mds 27 c27 := .read (pol := p27) (d := d27) Tryd.func27 (by kernel_rfl) (by kernel_rfl) rfl rfl (by kernel_rfl)

/- reservoir/message.hop -/
def d28 : DFn := ⟨[(.c .one)], [(.c .one)], .pure, [.tmp 2],
(.seq (.reg false [
⟨some 2, none, [], .mov (.k (.bo false))⟩] [])
(.seq (.seq (.reg false [
⟨some 3, none, [], .mov (.t 0)⟩] [])
(.blk 0 (.seq (.seq (.reg false [
⟨some 5, none, [], .bin .no .eql (.t 3) (.k (.st [99, 111, 110, 110, 101, 99, 116, 105, 111, 110]))⟩,
⟨some 4, none, [], .mov (.t 5)⟩] [])
(.cond (.t 4)
.skip
(.seq (.reg false [
⟨some 6, none, [], .bin .no .eql (.t 3) (.k (.st [112, 114, 111, 120, 121, 45, 99, 111, 110, 110, 101, 99, 116, 105, 111, 110]))⟩,
⟨some 4, none, [], .mov (.t 6)⟩] [])
(.cond (.t 4)
.skip
(.seq (.reg false [
⟨some 7, none, [], .bin .no .eql (.t 3) (.k (.st [107, 101, 101, 112, 45, 97, 108, 105, 118, 101]))⟩,
⟨some 4, none, [], .mov (.t 7)⟩] [])
(.cond (.t 4)
.skip
(.seq (.reg false [
⟨some 8, none, [], .bin .no .eql (.t 3) (.k (.st [116, 114, 97, 110, 115, 102, 101, 114, 45, 101, 110, 99, 111, 100, 105, 110, 103]))⟩,
⟨some 4, none, [], .mov (.t 8)⟩] [])
(.cond (.t 4)
.skip
(.reg false [
⟨some 9, none, [], .bin .no .eql (.t 3) (.k (.st [117, 112, 103, 114, 97, 100, 101]))⟩,
⟨some 4, none, [], .mov (.t 9)⟩] [])))))))))
(.cond (.t 4)
(.seq (.reg false [
⟨some 2, none, [], .mov (.k (.bo true))⟩] [])
.ret)
.skip))))
(.seq (.reg false [
⟨some 2, none, [], .mov (.k (.bo false))⟩] [])
.ret)))⟩
def c28 : Ev.Fn := d28.den
def p28 : Pol := { loc := [], md := .pure, mds := mds, heap := [], own := [], ord := [], clr := [], mask := [], fns := [], lcl := [] }
theorem r28 : FnOK Tryd.prog mds 28 c28 := .read (pol := p28) (d := d28) Tryd.func28 (by kernel_rfl) (by kernel_rfl) rfl rfl (by kernel_rfl)

/- reservoir/token.Token -/
def d29 : DFn := ⟨[(.c .one)], [(.c .one)], .pure, [.tmp 2],
(.seq (.reg false [
⟨some 2, none, [], .mov (.k (.bo false))⟩] [])
(.seq (.seq (.reg false [
⟨some 4, none, [], .mov (.t 0)⟩,
⟨some 5, none, [], .len true (.t 4)⟩,
⟨some 6, none, [], .mov (.k (.it .i64 0))⟩] [])
(.blk 0 (.loop [0, 5, 6] []
(.seq (.reg false [
⟨some 7, none, [], .bin .no .lss (.t 6) (.t 5)⟩] [])
(.seq (.cond (.t 7)
.skip
(.exit 0))
(.seq (.blk 1 (.seq (.reg false [
⟨some 8, none, [], .mov (.t 6)⟩,
⟨some 3, none, [], .mov (.t 8)⟩] [])
(.seq (.reg false [
⟨some 9, none, [], .mov (.t 0)⟩,
⟨some 10, none, [], .mov (.t 3)⟩,
⟨some 11, none, [], .ixs (.t 9) (.t 10)⟩,
⟨some 12, none, [], .call false .pure 38 [(.t 11)]⟩,
⟨some 13, none, [], .un .not (.t 12)⟩] [])
(.cond (.t 13)
(.seq (.reg false [
⟨some 2, none, [], .mov (.k (.bo false))⟩] [])
.ret)
.skip))))
(.reg false [
⟨some 14, none, [], .bin .no .add (.t 6) (.k (.it .i64 1))⟩,
⟨some 6, none, [], .mov (.t 14)⟩] [])))))))
(.seq (.reg false [
⟨some 15, none, [], .mov (.t 0)⟩,
⟨some 16, none, [], .bin .no .neq (.t 15) (.k (.st []))⟩,
⟨some 2, none, [], .mov (.t 16)⟩] [])
.ret)))⟩
def c29 : Ev.Fn := d29.den
def p29 : Pol := { loc := [], md := .pure, mds := mds, heap := [], own := [], ord := [], clr := [], mask := [(2, [0, 5, 6], [])], fns := [], lcl := [] }
theorem r29 : FnOK Tryd.prog mds 29 c29 := .read (pol := p29) (d := d29) Tryd.func29 (by kernel_rfl) (by kernel_rfl) rfl rfl (by kernel_rfl)

/- reservoir/token.Lower -/
def d35 : DFn := ⟨[(.c .one)], [(.c .one)], .pure, [.tmp 2],
(.seq (.reg false [
⟨some 2, none, [], .mov (.k (.st []))⟩] [])
(.seq (.reg false [
⟨some 6, none, [], .mov (.t 0)⟩,
⟨some 7, none, [], .cnv .s2b (.t 6)⟩,
⟨some 3, none, [], .mov (.t 7)⟩] [])
(.seq (.seq (.reg false [
⟨some 8, none, [], .mov (.t 3)⟩,
⟨some 9, none, [], .len false (.t 8)⟩,
⟨some 10, none, [], .mov (.k (.it .i64 0))⟩] [])
(.blk 0 (.loop [3, 8, 9, 10] []
(.seq (.reg false [
⟨some 11, none, [], .bin .no .lss (.t 10) (.t 9)⟩] [])
(.seq (.cond (.t 11)
.skip
(.exit 0))
(.seq (.blk 1 (.seq (.reg false [
⟨some 12, none, [], .mov (.t 10)⟩,
⟨some 13, none, [], .ias 1 (.t 8) (.t 10)⟩,
⟨some 14, none, [], .ld 1 false (.t 13)⟩,
⟨some 4, none, [], .mov (.t 12)⟩,
⟨some 5, none, [], .mov (.t 14)⟩] [])
(.seq (.reg false [
⟨some 15, none, [], .mov (.t 5)⟩,
⟨some 16, none, [], .bin .no .geq (.t 15) (.k (.it .u8 65))⟩,
⟨some 17, none, [], .mov (.t 16)⟩,
⟨some 18, some (17, true), [], .mov (.t 5)⟩,
⟨some 19, some (17, true), [], .bin .no .leq (.t 18) (.k (.it .u8 90))⟩,
⟨some 20, none, [], .pick (.t 17) (.t 19) (.k (.bo false))⟩] [])
(.cond (.t 20)
(.reg false [
⟨some 21, none, [], .mov (.t 3)⟩,
⟨some 22, none, [], .mov (.t 4)⟩,
⟨some 23, none, [], .mov (.t 5)⟩,
⟨some 24, none, [], .bin .no .add (.t 23) (.k (.it .u8 32))⟩,
⟨some 25, none, [], .ias 1 (.t 21) (.t 22)⟩,
⟨none, none, [], .sto 1 (.t 25) (.t 24)⟩] [])
.skip))))
(.reg false [
⟨some 26, none, [], .bin .no .add (.t 10) (.k (.it .i64 1))⟩,
⟨some 10, none, [], .mov (.t 26)⟩] [])))))))
(.seq (.reg false [
⟨some 27, none, [], .mov (.t 3)⟩,
⟨some 28, none, [], .cnv .b2s (.t 27)⟩,
⟨some 2, none, [], .mov (.t 28)⟩] [])
.ret))))⟩
def c35 : Ev.Fn := d35.den
def p35 : Pol := { loc := [], md := .pure, mds := mds, heap := [7], own := [7], ord := [], clr := [], mask := [(3, [3, 8, 9, 10], [])], fns := [], lcl := [] }
theorem r35 : FnOK Tryd.prog mds 35 c35 := .read (pol := p35) (d := d35) Tryd.func35 (by kernel_rfl) (by kernel_rfl) rfl rfl (by kernel_rfl)

/- reservoir/token.plain -/
def d36 : DFn := ⟨[(.c .one)], [(.c .one)], .pure, [.tmp 2],
(.seq (.reg false [
⟨some 2, none, [], .mov (.k (.bo false))⟩] [])
(.seq (.reg false [
⟨some 3, none, [], .mov (.t 0)⟩,
⟨some 4, none, [], .bin .no .geq (.t 3) (.k (.it .u8 32))⟩,
⟨some 5, none, [], .mov (.t 4)⟩,
⟨some 6, some (5, true), [], .mov (.t 0)⟩,
⟨some 7, some (5, true), [], .bin .no .neq (.t 6) (.k (.it .u8 127))⟩,
⟨some 8, none, [], .pick (.t 5) (.t 7) (.k (.bo false))⟩,
⟨some 9, none, [], .mov (.t 8)⟩,
⟨some 10, some (9, false), [], .mov (.t 0)⟩,
⟨some 11, some (9, false), [], .bin .no .eql (.t 10) (.k (.it .u8 9))⟩,
⟨some 12, none, [], .pick (.t 9) (.k (.bo true)) (.t 11)⟩,
⟨some 2, none, [], .mov (.t 12)⟩] [])
.ret))⟩
def c36 : Ev.Fn := d36.den
def p36 : Pol := { loc := [], md := .pure, mds := mds, heap := [], own := [], ord := [], clr := [], mask := [], fns := [], lcl := [] }
theorem r36 : FnOK Tryd.prog mds 36 c36 := .read (pol := p36) (d := d36) Tryd.func36 (by kernel_rfl) (by kernel_rfl) rfl rfl (by kernel_rfl)

/- reservoir/token.blank -/
def d37 : DFn := ⟨[(.c .one)], [(.c .one)], .pure, [.tmp 2],
(.seq (.reg false [
⟨some 2, none, [], .mov (.k (.bo false))⟩] [])
(.seq (.reg false [
⟨some 3, none, [], .mov (.t 0)⟩,
⟨some 4, none, [], .bin .no .eql (.t 3) (.k (.it .u8 32))⟩,
⟨some 5, none, [], .mov (.t 4)⟩,
⟨some 6, some (5, false), [], .mov (.t 0)⟩,
⟨some 7, some (5, false), [], .bin .no .eql (.t 6) (.k (.it .u8 9))⟩,
⟨some 8, none, [], .pick (.t 5) (.k (.bo true)) (.t 7)⟩,
⟨some 2, none, [], .mov (.t 8)⟩] [])
.ret))⟩
def c37 : Ev.Fn := d37.den
def p37 : Pol := { loc := [], md := .pure, mds := mds, heap := [], own := [], ord := [], clr := [], mask := [], fns := [], lcl := [] }
theorem r37 : FnOK Tryd.prog mds 37 c37 := .read (pol := p37) (d := d37) Tryd.func37 (by kernel_rfl) (by kernel_rfl) rfl rfl (by kernel_rfl)

/- reservoir/token.sign -/
def d38 : DFn := ⟨[(.c .one)], [(.c .one)], .pure, [.tmp 2],
(.seq (.reg false [
⟨some 2, none, [], .mov (.k (.bo false))⟩] [])
(.seq (.blk 0 (.seq (.seq (.reg false [
⟨some 4, none, [], .mov (.t 0)⟩,
⟨some 5, none, [], .bin .no .geq (.t 4) (.k (.it .u8 97))⟩,
⟨some 6, none, [], .mov (.t 5)⟩,
⟨some 7, some (6, true), [], .mov (.t 0)⟩,
⟨some 8, some (6, true), [], .bin .no .leq (.t 7) (.k (.it .u8 122))⟩,
⟨some 9, none, [], .pick (.t 6) (.t 8) (.k (.bo false))⟩,
⟨some 3, none, [], .mov (.t 9)⟩] [])
(.cond (.t 3)
.skip
(.seq (.reg false [
⟨some 10, none, [], .mov (.t 0)⟩,
⟨some 11, none, [], .bin .no .geq (.t 10) (.k (.it .u8 65))⟩,
⟨some 12, none, [], .mov (.t 11)⟩,
⟨some 13, some (12, true), [], .mov (.t 0)⟩,
⟨some 14, some (12, true), [], .bin .no .leq (.t 13) (.k (.it .u8 90))⟩,
⟨some 15, none, [], .pick (.t 12) (.t 14) (.k (.bo false))⟩,
⟨some 3, none, [], .mov (.t 15)⟩] [])
(.cond (.t 3)
.skip
(.reg false [
⟨some 16, none, [], .mov (.t 0)⟩,
⟨some 17, none, [], .bin .no .geq (.t 16) (.k (.it .u8 48))⟩,
⟨some 18, none, [], .mov (.t 17)⟩,
⟨some 19, some (18, true), [], .mov (.t 0)⟩,
⟨some 20, some (18, true), [], .bin .no .leq (.t 19) (.k (.it .u8 57))⟩,
⟨some 21, none, [], .pick (.t 18) (.t 20) (.k (.bo false))⟩,
⟨some 3, none, [], .mov (.t 21)⟩] [])))))
(.cond (.t 3)
(.seq (.reg false [
⟨some 2, none, [], .mov (.k (.bo true))⟩] [])
.ret)
.skip)))
(.seq (.reg false [
⟨some 22, none, [], .mov (.t 0)⟩,
⟨some 23, none, [], .call false .pure 41 [(.k (.st [33, 35, 36, 37, 38, 39, 42, 43, 45, 46, 94, 95, 124, 126, 96])), (.t 22)]⟩,
⟨some 24, none, [], .bin .no .geq (.t 23) (.k (.it .i64 0))⟩,
⟨some 2, none, [], .mov (.t 24)⟩] [])
.ret)))⟩
def c38 : Ev.Fn := d38.den
def p38 : Pol := { loc := [], md := .pure, mds := mds, heap := [], own := [], ord := [], clr := [], mask := [], fns := [], lcl := [] }
theorem r38 : FnOK Tryd.prog mds 38 c38 := .read (pol := p38) (d := d38) Tryd.func38 (by kernel_rfl) (by kernel_rfl) rfl rfl (by kernel_rfl)

/- strings.IndexByte -/
def d41 : DFn := ⟨[(.c .one), (.c .one)], [(.c .one)], .pure, [.tmp 4],
(.seq (.reg false [
⟨some 4, none, [], .mov (.k (.it .i64 0))⟩] [])
(.seq (.reg false [
⟨some 5, none, [], .mov (.t 0)⟩,
⟨some 6, none, [], .mov (.t 1)⟩,
⟨some 7, none, [], .call false .pure 42 [(.t 5), (.t 6)]⟩,
⟨some 4, none, [], .mov (.t 7)⟩] [])
.ret))⟩
def c41 : Ev.Fn := d41.den
def p41 : Pol := { loc := [], md := .pure, mds := mds, heap := [], own := [], ord := [], clr := [], mask := [], fns := [], lcl := [] }
theorem r41 : FnOK Tryd.prog mds 41 c41 := .read (pol := p41) (d := d41) Tryd.func41 (by kernel_rfl) (by kernel_rfl) rfl rfl (by kernel_rfl)

/- internal/stringslite.IndexByte -/
def d42 : DFn := ⟨[(.c .one), (.c .one)], [(.c .one)], .pure, [.tmp 4],
(.seq (.reg false [
⟨some 4, none, [], .mov (.k (.it .i64 0))⟩] [])
(.seq (.reg false [
⟨some 5, none, [], .mov (.t 0)⟩,
⟨some 6, none, [], .mov (.t 1)⟩,
⟨some 7, none, [], .ixb (.t 5) (.t 6)⟩,
⟨some 4, none, [], .mov (.t 7)⟩] [])
.ret))⟩
def c42 : Ev.Fn := d42.den
def p42 : Pol := { loc := [], md := .pure, mds := mds, heap := [], own := [], ord := [], clr := [], mask := [], fns := [], lcl := [] }
theorem r42 : FnOK Tryd.prog mds 42 c42 := .read (pol := p42) (d := d42) Tryd.func42 (by kernel_rfl) (by kernel_rfl) rfl rfl (by kernel_rfl)

def c5 : Ev.Fn := itoaFn
theorem r5 : FnOK Tryd.prog mds 5 c5 := ⟨by kernel_rfl, .inr fun call L h => itoa_run call L⟩

def tab : List (Option Ev.Fn) := [none, none, none, some c3, some c4, some c5, some c6, some c7, none, some c9, some c10, some c11, some c12, none, some c14, some c15, some c16, some c17, some c18, some c19, some c20, none, none, none, none, some c25, some c26, some c27, some c28, some c29, none, none, none, none, none, some c35, some c36, some c37, some c38, none, none, some c41, some c42]
def F (n : Nat) : Option Ev.Fn := (tab[n]?).join

inductive Good : Nat → List (Option Ev.Fn) → Prop
  | nil (k : Nat) : Good k []
  | none {k : Nat} {l : List (Option Ev.Fn)} (h : Good (k + 1) l) : Good k (none :: l)
  | some {k : Nat} {c : Ev.Fn} {l : List (Option Ev.Fn)} (h : FnOK Tryd.prog mds k c) (t : Good (k + 1) l) : Good k (some c :: l)

theorem Good.get {k : Nat} {l : List (Option Ev.Fn)} (h : Good k l) : ∀ (n : Nat) (c : Ev.Fn), (l[n]?).join = Option.some c → FnOK Tryd.prog mds (k + n) c := by
  induction h with
  | nil k => intro n c h; simp at h
  | none h ih =>
    intro n c hc
    cases n with
    | zero => simp at hc
    | succ n => have := ih n c (by simpa using hc); rw [Nat.add_assoc, Nat.add_comm 1 n] at this; exact this
  | some h t ih =>
    intro n c hc
    cases n with
    | zero => simp at hc; subst hc; exact h
    | succ n => have := ih n c (by simpa using hc); rw [Nat.add_assoc, Nat.add_comm 1 n] at this; exact this

theorem good : Good 0 tab := by
  unfold tab
  refine .none ?_
  refine .none ?_
  refine .none ?_
  refine .some r3 ?_
  refine .some r4 ?_
  refine .some r5 ?_
  refine .some r6 ?_
  refine .some r7 ?_
  refine .none ?_
  refine .some r9 ?_
  refine .some r10 ?_
  refine .some r11 ?_
  refine .some r12 ?_
  refine .none ?_
  refine .some r14 ?_
  refine .some r15 ?_
  refine .some r16 ?_
  refine .some r17 ?_
  refine .some r18 ?_
  refine .some r19 ?_
  refine .some r20 ?_
  refine .none ?_
  refine .none ?_
  refine .none ?_
  refine .none ?_
  refine .some r25 ?_
  refine .some r26 ?_
  refine .some r27 ?_
  refine .some r28 ?_
  refine .some r29 ?_
  refine .none ?_
  refine .none ?_
  refine .none ?_
  refine .none ?_
  refine .none ?_
  refine .some r35 ?_
  refine .some r36 ?_
  refine .some r37 ?_
  refine .some r38 ?_
  refine .none ?_
  refine .none ?_
  refine .some r41 ?_
  refine .some r42 ?_
  exact .nil _

theorem table : Table Tryd.prog F mds where
  mixed := by kernel_rfl
  fns := fun f fn h => by
    have := good.get f fn h
    rw [Nat.zero_add] at this
    exact this

end Go.Proofs.YtcbiplmgaiipgaaDoor.tab
