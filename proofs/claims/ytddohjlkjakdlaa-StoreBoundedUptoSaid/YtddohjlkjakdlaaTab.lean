import Derived.Test.YtddohjlkjakdlaaIns
import Derived.Test.YtddohjlkjakdlaaRows
import Derived.KernelRfl
/- the functions of the seat, read off the program -/
namespace Go.Proofs.Ytddohjlkjakdlaa.tab
open Go hiding Fn
open Ev

def mdl : List Md := [.pure, .pure, .pure, .pure, .pure, .pure, .pure, .pure, .pure, .rw, .rw, .pure, .ro, .rw, .rw, .pure, .pure, .ro, .pure, .pure, .rw, .rw, .pure, .pure, .rw, .rw, .ro, .rw, .rw, .pure, .ro, .pure, .pure, .rw, .rw, .pure, .ro, .pure, .pure, .pure, .pure, .pure, .rw, .ro, .ro, .ro, .pure, .pure, .pure, .pure, .pure, .rw, .rw, .rw, .rw, .pure, .ro, .pure, .pure, .pure, .pure, .pure, .pure, .pure, .rw, .pure, .pure, .pure, .pure, .pure, .rw, .pure, .pure, .rw, .rw, .rw, .pure, .pure, .rw, .rw, .pure, .pure, .pure, .pure, .pure, .pure, .pure, .pure, .pure, .pure, .pure, .pure, .rw, .rw, .rw, .rw, .rw, .rw, .rw, .rw, .pure]
def mds (n : Nat) : Md := mdl.getD n .rw

/- reservoir/reservoirlaw23.StoreRuns -/
def d3 : DFn := ⟨[], [(.c .one)], .pure, [.tmp 0],
(.seq (.reg false [
⟨some 0, none, [], .mov (.k (.bo false))⟩] [])
(.seq (.reg false [
⟨some 14, none, [], .call false .rw 9 [(.k (.it .i64 250))]⟩,
⟨some 13, none, [], .mov (.t 14)⟩,
⟨some 15, none, [], .ext (.t 13) 0⟩,
⟨some 16, none, [], .ext (.t 13) 1⟩,
⟨some 1, none, [], .mov (.t 15)⟩,
⟨some 2, none, [], .mov (.t 16)⟩] [])
(.seq (.seq (.reg false [
⟨some 17, none, [], .mov (.t 1)⟩,
⟨some 18, none, [], .bin .ptr .eql (.t 17) (.k .np)⟩,
⟨some 19, none, [], .mov (.t 18)⟩,
⟨some 20, some (19, false), [], .mov (.t 2)⟩,
⟨some 21, some (19, false), [], .bin .no .neq (.t 20) (.k (.it .i64 0))⟩,
⟨some 22, none, [], .pick (.t 19) (.k (.bo true)) (.t 21)⟩] [])
(.cond (.t 22)
(.seq (.reg false [
⟨some 0, none, [], .mov (.k (.bo false))⟩] [])
.ret)
.skip))
(.seq (.reg false [
⟨some 23, none, [], .mov (.t 1)⟩,
⟨some 24, none, [], .call false .pure 11 [(.k (.st [97])), (.k (.it .i64 10))]⟩,
⟨some 25, none, [], .call false .rw 10 [(.t 23), (.t 24)]⟩,
⟨some 26, none, [], .mov (.t 1)⟩,
⟨some 27, none, [], .call false .pure 11 [(.k (.st [98])), (.k (.it .i64 10))]⟩,
⟨some 28, none, [], .call false .rw 10 [(.t 26), (.t 27)]⟩,
⟨some 3, none, [], .mov (.t 25)⟩,
⟨some 4, none, [], .mov (.t 28)⟩] [])
(.seq (.reg false [
⟨some 29, none, [], .mov (.t 1)⟩,
⟨some 30, none, [], .call false .ro 12 [(.t 29)]⟩,
⟨some 5, none, [], .mov (.t 30)⟩] [])
(.seq (.reg false [
⟨some 32, none, [], .mov (.t 1)⟩,
⟨some 33, none, [], .call false .pure 11 [(.k (.st [97])), (.k (.it .i64 0))]⟩,
⟨some 34, none, [], .fld 0 6 true (.t 33)⟩,
⟨some 35, none, [], .call false .rw 13 [(.t 32), (.t 34)]⟩,
⟨some 31, none, [], .mov (.t 35)⟩,
⟨some 36, none, [], .ext (.t 31) 0⟩,
⟨some 37, none, [], .ext (.t 31) 1⟩,
⟨some 6, none, [], .alc [(.st []), (.st []), (.st []), (.st []), .ns, (.it .i64 0), (.it .i64 0), .ns, (.it .i64 0), (.st []), (.it .i64 0), (.it .i64 0)]⟩,
⟨none, none, [], .sto 12 (.t 6) (.t 36)⟩,
⟨some 7, none, [], .mov (.t 37)⟩] [])
(.seq (.reg false [
⟨some 38, none, [], .mov (.t 1)⟩,
⟨some 39, none, [], .call false .pure 11 [(.k (.st [99])), (.k (.it .i64 40))]⟩,
⟨some 40, none, [], .call false .rw 10 [(.t 38), (.t 39)]⟩,
⟨some 8, none, [], .mov (.t 40)⟩] [])
(.seq (.reg false [
⟨some 41, none, [], .mov (.t 1)⟩,
⟨some 42, none, [], .call false .rw 14 [(.t 41)]⟩,
⟨some 9, none, [], .mov (.t 42)⟩] [])
(.seq (.reg false [
⟨some 43, none, [], .mov (.t 1)⟩,
⟨some 44, none, [], .call false .pure 11 [(.k (.st [99])), (.k (.it .i64 200))]⟩,
⟨some 45, none, [], .call false .rw 10 [(.t 43), (.t 44)]⟩,
⟨some 10, none, [], .mov (.t 45)⟩] [])
(.seq (.reg false [
⟨some 47, none, [], .call false .rw 9 [(.k (.it .i64 (-1)))]⟩,
⟨some 46, none, [], .mov (.t 47)⟩,
⟨some 48, none, [], .ext (.t 46) 0⟩,
⟨some 49, none, [], .ext (.t 46) 1⟩,
⟨some 11, none, [], .mov (.t 48)⟩,
⟨some 12, none, [], .mov (.t 49)⟩] [])
(.seq (.reg false [
⟨some 50, none, [], .call false .pure 11 [(.k (.st [97])), (.k (.it .i64 10))]⟩,
⟨some 51, none, [], .call false .pure 15 [(.t 50)]⟩,
⟨some 52, none, [], .bin .no .eql (.t 51) (.k (.it .i64 119))⟩,
⟨some 53, none, [], .mov (.t 52)⟩,
⟨some 54, some (53, true), [], .mov (.t 3)⟩,
⟨some 55, none, [], .pick (.t 53) (.t 54) (.k (.bo false))⟩,
⟨some 56, none, [], .mov (.t 55)⟩,
⟨some 57, some (56, true), [], .mov (.t 4)⟩,
⟨some 58, none, [], .pick (.t 56) (.t 57) (.k (.bo false))⟩,
⟨some 59, none, [], .mov (.t 58)⟩,
⟨some 60, some (59, true), [], .mov (.t 5)⟩,
⟨some 61, some (59, true), [], .bin .no .eql (.t 60) (.k (.it .i64 238))⟩,
⟨some 62, none, [], .pick (.t 59) (.t 61) (.k (.bo false))⟩,
⟨some 63, none, [], .mov (.t 62)⟩,
⟨some 64, some (63, true), [], .mov (.t 7)⟩,
⟨some 65, none, [], .pick (.t 63) (.t 64) (.k (.bo false))⟩,
⟨some 66, none, [], .mov (.t 65)⟩,
⟨some 67, some (66, true), [], .mov (.t 8)⟩,
⟨some 68, none, [], .pick (.t 66) (.t 67) (.k (.bo false))⟩,
⟨some 69, none, [], .mov (.t 68)⟩,
⟨some 70, some (69, true), [], .mov (.t 9)⟩,
⟨some 71, some (69, true), [], .bsv [.one] 1 [[(.st [])]] [(0, (.k (.st [104, 116, 116, 112, 58, 47, 47, 99, 47])))]⟩,
⟨some 72, some (69, true), [], .call false .pure 16 [(.t 70), (.t 71)]⟩,
⟨some 73, none, [], .pick (.t 69) (.t 72) (.k (.bo false))⟩,
⟨some 74, none, [], .mov (.t 73)⟩,
⟨some 75, some (74, true), [], .mov (.t 10)⟩,
⟨some 76, some (74, true), [], .un .not (.t 75)⟩,
⟨some 77, none, [], .pick (.t 74) (.t 76) (.k (.bo false))⟩,
⟨some 78, none, [], .mov (.t 77)⟩,
⟨some 79, some (78, true), [], .mov (.t 1)⟩,
⟨some 80, some (78, true), [], .call false .ro 17 [(.t 79)]⟩,
⟨some 81, some (78, true), [], .bin .no .eql (.t 80) (.k (.it .i64 0))⟩,
⟨some 82, none, [], .pick (.t 78) (.t 81) (.k (.bo false))⟩,
⟨some 83, none, [], .mov (.t 82)⟩,
⟨some 84, some (83, true), [], .mov (.t 12)⟩,
⟨some 85, some (83, true), [], .bin .no .eql (.t 84) (.k (.it .i64 1))⟩,
⟨some 86, none, [], .pick (.t 83) (.t 85) (.k (.bo false))⟩,
⟨some 0, none, [], .mov (.t 86)⟩] [])
.ret)))))))))))⟩
def c3 : Ev.Fn := d3.den
def p3 : Pol := { loc := [6], md := .pure, mds := mds, heap := [], own := [], ord := [(4, [0, 3, 1, 2, 4, 5, 6, 7]), (6, [0, 7, 1, 2, 3, 4, 5, 6, 8, 9])], clr := [], mask := [], fns := [] }
theorem r3 : FnOK Try.prog mds 3 c3 := .read (pol := p3) (d := d3) Try.func3 (by kernel_rfl) (by kernel_rfl) rfl rfl (by kernel_rfl)

/- reservoir/reservoirlaw23.StoreOldest -/
def d4 : DFn := ⟨[(.c .one), (.c (.sl [.one]))], [(.c .one)], .pure, [.tmp 4],
(.seq (.reg false [
⟨some 4, none, [], .mov (.k (.bo false))⟩] [])
(.seq (.reg false [
⟨some 18, none, [], .mov (.t 0)⟩,
⟨some 19, none, [], .call false .pure 18 [(.t 18), (.k (.it .i64 1)), (.k (.it .i64 9))]⟩,
⟨some 5, none, [], .mov (.t 19)⟩] [])
(.seq (.reg false [
⟨some 21, none, [], .mov (.t 5)⟩,
⟨some 22, none, [], .call false .pure 11 [(.k (.st [97])), (.k (.it .i64 0))]⟩,
⟨some 23, none, [], .call false .pure 15 [(.t 22)]⟩,
⟨some 24, none, [], .bin .no .mul (.t 21) (.t 23)⟩,
⟨some 25, none, [], .call false .rw 9 [(.t 24)]⟩,
⟨some 20, none, [], .mov (.t 25)⟩,
⟨some 26, none, [], .ext (.t 20) 0⟩,
⟨some 27, none, [], .ext (.t 20) 1⟩,
⟨some 6, none, [], .mov (.t 26)⟩,
⟨some 7, none, [], .mov (.t 27)⟩] [])
(.seq (.seq (.reg false [
⟨some 28, none, [], .mov (.t 6)⟩,
⟨some 29, none, [], .bin .ptr .eql (.t 28) (.k .np)⟩,
⟨some 30, none, [], .mov (.t 29)⟩,
⟨some 31, some (30, false), [], .mov (.t 7)⟩,
⟨some 32, some (30, false), [], .bin .no .neq (.t 31) (.k (.it .i64 0))⟩,
⟨some 33, none, [], .pick (.t 30) (.k (.bo true)) (.t 32)⟩] [])
(.cond (.t 33)
(.seq (.reg false [
⟨some 4, none, [], .mov (.k (.bo false))⟩] [])
.ret)
.skip))
(.seq (.reg false [
⟨some 8, none, [], .mov (.k .ns)⟩] [])
(.seq (.seq (.reg false [
⟨some 9, none, [], .mov (.k (.it .i64 0))⟩] [])
(.blk 0 (.loop [1, 5, 6, 8, 9] [11, 13]
(.seq (.seq (.reg false [
⟨some 34, none, [], .mov (.t 9)⟩,
⟨some 35, none, [], .mov (.t 1)⟩,
⟨some 36, none, [], .len false (.t 35)⟩,
⟨some 37, none, [], .bin .no .lss (.t 34) (.t 36)⟩,
⟨some 38, none, [], .mov (.t 37)⟩,
⟨some 39, some (38, true), [], .mov (.t 9)⟩,
⟨some 40, some (38, true), [], .bin .no .lss (.t 39) (.k (.it .i64 60))⟩,
⟨some 41, none, [], .pick (.t 38) (.t 40) (.k (.bo false))⟩] [])
(.cond (.t 41)
.skip
(.exit 0)))
(.seq (.blk 1 (.seq (.reg false [
⟨some 44, none, [], .mov (.t 1)⟩,
⟨some 45, none, [], .mov (.t 9)⟩,
⟨some 46, none, [], .ias 1 (.t 44) (.t 45)⟩,
⟨some 47, none, [], .ld 1 false (.t 46)⟩,
⟨some 48, none, [], .call false .pure 18 [(.t 47), (.k (.it .i64 0)), (.k (.it .i64 25))]⟩,
⟨some 10, none, [], .mov (.t 48)⟩] [])
(.seq (.reg false [
⟨some 49, none, [], .mov (.t 10)⟩,
⟨some 50, none, [], .bin .no .add (.k (.it .i64 97)) (.t 49)⟩,
⟨some 51, none, [], .cnv (.int .u8) (.t 50)⟩,
⟨some 52, none, [], .bsv [.one] 1 [[(.it .u8 0)]] [(0, (.t 51))]⟩,
⟨some 53, none, [], .cnv .b2s (.t 52)⟩,
⟨some 54, none, [], .call false .pure 11 [(.t 53), (.k (.it .i64 0))]⟩,
⟨some 11, none, [], .alc [(.st []), (.st []), (.st []), (.st []), .ns, (.it .i64 0), (.it .i64 0), .ns, (.it .i64 0), (.st []), (.it .i64 0), (.it .i64 0)]⟩,
⟨none, none, [], .sto 12 (.t 11) (.t 54)⟩] [])
(.seq (.reg false [
⟨some 55, none, [], .fad 0 (.t 11)⟩,
⟨some 56, none, [], .ld 6 true (.t 55)⟩,
⟨some 57, none, [], .call false .pure 19 [(.t 56)]⟩,
⟨some 12, none, [], .mov (.t 57)⟩] [55])
(.seq (.reg false [
⟨some 59, none, [], .mov (.t 6)⟩,
⟨some 60, none, [], .fad 0 (.t 11)⟩,
⟨some 61, none, [], .ld 6 true (.t 60)⟩,
⟨some 62, none, [], .call false .rw 13 [(.t 59), (.t 61)]⟩,
⟨some 58, none, [], .mov (.t 62)⟩,
⟨some 63, none, [], .ext (.t 58) 0⟩,
⟨some 64, none, [], .ext (.t 58) 1⟩,
⟨some 13, none, [60], .alc [(.st []), (.st []), (.st []), (.st []), .ns, (.it .i64 0), (.it .i64 0), .ns, (.it .i64 0), (.st []), (.it .i64 0), (.it .i64 0)]⟩,
⟨none, none, [], .sto 12 (.t 13) (.t 63)⟩,
⟨some 14, none, [], .mov (.t 64)⟩] [60])
(.seq (.reg false [
⟨some 15, none, [], .mov (.k .ns)⟩] [])
(.seq (.reg false [
⟨some 16, none, [], .mov (.k (.bo false))⟩] [])
(.seq (.seq (.reg false [
⟨some 17, none, [], .mov (.k (.it .i64 0))⟩] [])
(.blk 2 (.loop [1, 5, 6, 8, 9, 11, 12, 14, 15, 16, 17] [13]
(.seq (.seq (.reg false [
⟨some 65, none, [], .mov (.t 17)⟩,
⟨some 66, none, [], .mov (.t 8)⟩,
⟨some 67, none, [], .len false (.t 66)⟩,
⟨some 68, none, [], .bin .no .lss (.t 65) (.t 67)⟩] [])
(.cond (.t 68)
.skip
(.exit 2)))
(.seq (.blk 3 (.seq (.reg false [
⟨some 71, none, [], .mov (.t 8)⟩,
⟨some 72, none, [], .mov (.t 17)⟩,
⟨some 73, none, [], .ias 1 (.t 71) (.t 72)⟩,
⟨some 74, none, [], .ld 1 false (.t 73)⟩,
⟨some 75, none, [], .mov (.t 12)⟩,
⟨some 76, none, [], .bin .no .eql (.t 74) (.t 75)⟩] [])
(.cond (.t 76)
(.reg false [
⟨some 16, none, [], .mov (.k (.bo true))⟩] [])
(.reg false [
⟨some 77, none, [], .mov (.t 15)⟩,
⟨some 78, none, [], .mov (.t 8)⟩,
⟨some 79, none, [], .mov (.t 17)⟩,
⟨some 80, none, [], .ias 1 (.t 78) (.t 79)⟩,
⟨some 81, none, [], .ld 1 false (.t 80)⟩,
⟨some 82, none, [], .bsv [.one] 1 [[(.st [])]] [(0, (.t 81))]⟩,
⟨some 83, none, [], .app 1 16 (.t 77) (.t 82)⟩,
⟨some 15, none, [], .mov (.t 83)⟩] []))))
(.reg false [
⟨some 69, none, [], .mov (.t 17)⟩,
⟨some 70, none, [], .bin .no .add (.t 69) (.k (.it .i64 1))⟩,
⟨some 17, none, [], .mov (.t 70)⟩] []))))))
(.seq (.seq (.reg false [
⟨some 84, none, [], .mov (.t 14)⟩,
⟨some 85, none, [], .mov (.t 16)⟩,
⟨some 86, none, [], .bin .bo .neq (.t 84) (.t 85)⟩,
⟨some 87, none, [], .mov (.t 86)⟩,
⟨some 88, some (87, false), [], .mov (.t 14)⟩,
⟨some 89, some (87, false), [], .un .not (.t 88)⟩,
⟨some 90, some (87, false), [], .mov (.t 89)⟩,
⟨some 91, some (90, true), [], .mov (.t 6)⟩,
⟨some 92, some (90, true), [], .ld 12 true (.t 11)⟩,
⟨some 93, some (90, true), [], .call false .rw 10 [(.t 91), (.t 92)]⟩,
⟨some 94, some (90, true), [], .un .not (.t 93)⟩,
⟨some 95, some (87, false), [], .pick (.t 90) (.t 94) (.k (.bo false))⟩,
⟨some 96, none, [], .pick (.t 87) (.k (.bo true)) (.t 95)⟩] [])
(.cond (.t 96)
(.seq (.reg false [
⟨some 4, none, [], .mov (.k (.bo false))⟩] [])
.ret)
.skip))
(.seq (.reg false [
⟨some 97, none, [], .mov (.t 12)⟩,
⟨some 98, none, [], .bsl 1 [[(.st [])]] [(0, (.t 97))]⟩,
⟨some 99, none, [], .mov (.t 15)⟩,
⟨some 100, none, [], .app 1 16 (.t 98) (.t 99)⟩,
⟨some 8, none, [], .mov (.t 100)⟩] [])
(.seq (.seq (.reg false [
⟨some 101, none, [], .mov (.t 8)⟩,
⟨some 102, none, [], .len false (.t 101)⟩,
⟨some 103, none, [], .mov (.t 5)⟩,
⟨some 104, none, [], .bin .no .gtr (.t 102) (.t 103)⟩] [])
(.cond (.t 104)
(.reg false [
⟨some 105, none, [], .mov (.t 8)⟩,
⟨some 106, none, [], .mov (.t 5)⟩,
⟨some 107, none, [], .slc false 1 (.t 105) none (some (.t 106))⟩,
⟨some 8, none, [], .mov (.t 107)⟩] [])
.skip))
(.seq (.reg false [
⟨some 108, none, [], .mov (.t 6)⟩,
⟨some 109, none, [], .call false .rw 14 [(.t 108)]⟩,
⟨some 110, none, [], .mov (.t 8)⟩,
⟨some 111, none, [], .call false .pure 16 [(.t 109), (.t 110)]⟩,
⟨some 112, none, [], .un .not (.t 111)⟩] [])
(.cond (.t 112)
(.seq (.reg false [
⟨some 4, none, [], .mov (.k (.bo false))⟩] [])
.ret)
.skip)))))))))))))
(.reg false [
⟨some 42, none, [], .mov (.t 9)⟩,
⟨some 43, none, [], .bin .no .add (.t 42) (.k (.it .i64 1))⟩,
⟨some 9, none, [], .mov (.t 43)⟩] []))))))
(.seq (.reg false [
⟨some 113, none, [], .call false .pure 3 []⟩,
⟨some 4, none, [], .mov (.t 113)⟩] [])
.ret)))))))⟩
def c4 : Ev.Fn := d4.den
def p4 : Pol := { loc := [11, 13], md := .pure, mds := mds, heap := [83, 98], own := [83, 98], ord := [(10, [0, 1, 2, 3, 4, 6, 5, 7]), (12, [0, 1, 2, 7, 3, 4, 5, 6, 8, 9]), (23, [0, 2, 1, 3, 4]), (26, [0, 2, 1, 3, 4])], clr := [(11, [55]), (12, [60])], mask := [(7, [1, 5, 6, 8, 9], [11, 13]), (16, [1, 5, 6, 8, 9, 11, 12, 14, 15, 16, 17], [13])], fns := [] }
theorem r4 : FnOK Try.prog mds 4 c4 := .read (pol := p4) (d := d4) Try.func4 (by kernel_rfl) (by kernel_rfl) rfl rfl (by kernel_rfl)

/- reservoir/reservoirlaw23.StoreTouch -/
def d5 : DFn := ⟨[(.c .one), (.c .one), (.c .one)], [(.c .one)], .pure, [.tmp 6],
(.seq (.reg false [
⟨some 6, none, [], .mov (.k (.bo false))⟩] [])
(.seq (.reg false [
⟨some 18, none, [], .mov (.t 0)⟩,
⟨some 19, none, [], .call false .pure 18 [(.t 18), (.k (.it .i64 2)), (.k (.it .i64 9))]⟩,
⟨some 7, none, [], .mov (.t 19)⟩] [])
(.seq (.reg false [
⟨some 21, none, [], .mov (.t 7)⟩,
⟨some 22, none, [], .call false .pure 11 [(.k (.st [97])), (.k (.it .i64 0))]⟩,
⟨some 23, none, [], .call false .pure 15 [(.t 22)]⟩,
⟨some 24, none, [], .bin .no .mul (.t 21) (.t 23)⟩,
⟨some 25, none, [], .call false .rw 9 [(.t 24)]⟩,
⟨some 20, none, [], .mov (.t 25)⟩,
⟨some 26, none, [], .ext (.t 20) 0⟩,
⟨some 27, none, [], .ext (.t 20) 1⟩,
⟨some 8, none, [], .mov (.t 26)⟩,
⟨some 9, none, [], .mov (.t 27)⟩] [])
(.seq (.seq (.reg false [
⟨some 28, none, [], .mov (.t 8)⟩,
⟨some 29, none, [], .bin .ptr .eql (.t 28) (.k .np)⟩,
⟨some 30, none, [], .mov (.t 29)⟩,
⟨some 31, some (30, false), [], .mov (.t 9)⟩,
⟨some 32, some (30, false), [], .bin .no .neq (.t 31) (.k (.it .i64 0))⟩,
⟨some 33, none, [], .pick (.t 30) (.k (.bo true)) (.t 32)⟩] [])
(.cond (.t 33)
(.seq (.reg false [
⟨some 6, none, [], .mov (.k (.bo false))⟩] [])
.ret)
.skip))
(.seq (.seq (.reg false [
⟨some 10, none, [], .mov (.k (.it .i64 0))⟩] [])
(.blk 0 (.loop [1, 2, 7, 8, 10] [11, 13, 15]
(.seq (.seq (.reg false [
⟨some 34, none, [], .mov (.t 10)⟩,
⟨some 35, none, [], .mov (.t 7)⟩,
⟨some 36, none, [], .bin .no .lss (.t 34) (.t 35)⟩] [])
(.cond (.t 36)
.skip
(.exit 0)))
(.seq (.blk 1 (.reg false [
⟨some 39, none, [], .mov (.t 8)⟩,
⟨some 40, none, [], .mov (.t 10)⟩,
⟨some 41, none, [], .bin .no .add (.k (.it .i64 97)) (.t 40)⟩,
⟨some 42, none, [], .cnv (.int .u8) (.t 41)⟩,
⟨some 43, none, [], .bsv [.one] 1 [[(.it .u8 0)]] [(0, (.t 42))]⟩,
⟨some 44, none, [], .cnv .b2s (.t 43)⟩,
⟨some 45, none, [], .call false .pure 11 [(.t 44), (.k (.it .i64 0))]⟩,
⟨some 46, none, [], .call false .rw 10 [(.t 39), (.t 45)]⟩] []))
(.reg false [
⟨some 37, none, [], .mov (.t 10)⟩,
⟨some 38, none, [], .bin .no .add (.t 37) (.k (.it .i64 1))⟩,
⟨some 10, none, [], .mov (.t 38)⟩] []))))))
(.seq (.reg false [
⟨some 47, none, [], .mov (.t 1)⟩,
⟨some 48, none, [], .mov (.t 7)⟩,
⟨some 49, none, [], .bin .no .sub (.t 48) (.k (.it .i64 1))⟩,
⟨some 50, none, [], .call false .pure 18 [(.t 47), (.k (.it .i64 0)), (.t 49)]⟩,
⟨some 51, none, [], .bin .no .add (.k (.it .i64 97)) (.t 50)⟩,
⟨some 52, none, [], .cnv (.int .u8) (.t 51)⟩,
⟨some 53, none, [], .bsv [.one] 1 [[(.it .u8 0)]] [(0, (.t 52))]⟩,
⟨some 54, none, [], .cnv .b2s (.t 53)⟩,
⟨some 55, none, [], .call false .pure 11 [(.t 54), (.k (.it .i64 0))]⟩,
⟨some 11, none, [], .alc [(.st []), (.st []), (.st []), (.st []), .ns, (.it .i64 0), (.it .i64 0), .ns, (.it .i64 0), (.st []), (.it .i64 0), (.it .i64 0)]⟩,
⟨none, none, [], .sto 12 (.t 11) (.t 55)⟩] [])
(.seq (.reg false [
⟨some 12, none, [], .mov (.k (.bo false))⟩] [])
(.seq (.seq (.reg false [
⟨some 56, none, [], .mov (.t 2)⟩] [])
(.cond (.t 56)
(.reg false [
⟨some 58, none, [], .mov (.t 8)⟩,
⟨some 59, none, [], .fad 0 (.t 11)⟩,
⟨some 60, none, [], .ld 6 true (.t 59)⟩,
⟨some 61, none, [], .call false .rw 20 [(.t 58), (.t 60)]⟩,
⟨some 57, none, [], .mov (.t 61)⟩,
⟨some 62, none, [], .ext (.t 57) 0⟩,
⟨some 63, none, [], .ext (.t 57) 1⟩,
⟨some 12, none, [], .mov (.t 63)⟩] [59])
(.reg false [
⟨some 65, none, [], .mov (.t 8)⟩,
⟨some 66, none, [], .fad 0 (.t 11)⟩,
⟨some 67, none, [], .ld 6 true (.t 66)⟩,
⟨some 68, none, [], .call false .rw 13 [(.t 65), (.t 67)]⟩,
⟨some 64, none, [], .mov (.t 68)⟩,
⟨some 69, none, [], .ext (.t 64) 0⟩,
⟨some 70, none, [], .ext (.t 64) 1⟩,
⟨some 12, none, [], .mov (.t 70)⟩] [66])))
(.seq (.reg false [
⟨some 71, none, [], .mov (.t 8)⟩,
⟨some 72, none, [], .call false .pure 11 [(.k (.st [122])), (.k (.it .i64 0))]⟩,
⟨some 73, none, [], .call false .rw 10 [(.t 71), (.t 72)]⟩] [])
(.seq (.reg false [
⟨some 75, none, [], .mov (.t 8)⟩,
⟨some 76, none, [], .fad 0 (.t 11)⟩,
⟨some 77, none, [], .ld 6 true (.t 76)⟩,
⟨some 78, none, [], .call false .rw 20 [(.t 75), (.t 77)]⟩,
⟨some 74, none, [], .mov (.t 78)⟩,
⟨some 79, none, [], .ext (.t 74) 0⟩,
⟨some 80, none, [], .ext (.t 74) 1⟩,
⟨some 13, none, [76], .alc [(.st []), (.st []), (.st []), (.st []), .ns, (.it .i64 0), (.it .i64 0), .ns, (.it .i64 0), (.st []), (.it .i64 0), (.it .i64 0)]⟩,
⟨none, none, [], .sto 12 (.t 13) (.t 79)⟩,
⟨some 14, none, [], .mov (.t 80)⟩] [76])
(.seq (.reg false [
⟨some 82, none, [], .mov (.t 8)⟩,
⟨some 83, none, [], .call false .pure 11 [(.k (.st [97])), (.k (.it .i64 0))]⟩,
⟨some 84, none, [], .fld 0 6 true (.t 83)⟩,
⟨some 85, none, [], .call false .rw 20 [(.t 82), (.t 84)]⟩,
⟨some 81, none, [], .mov (.t 85)⟩,
⟨some 86, none, [], .ext (.t 81) 0⟩,
⟨some 87, none, [], .ext (.t 81) 1⟩,
⟨some 15, none, [], .alc [(.st []), (.st []), (.st []), (.st []), .ns, (.it .i64 0), (.it .i64 0), .ns, (.it .i64 0), (.st []), (.it .i64 0), (.it .i64 0)]⟩,
⟨none, none, [], .sto 12 (.t 15) (.t 86)⟩,
⟨some 16, none, [], .mov (.t 87)⟩] [])
(.seq (.reg false [
⟨some 88, none, [], .fad 0 (.t 11)⟩,
⟨some 89, none, [], .fad 2 (.t 88)⟩,
⟨some 90, none, [], .ld 1 false (.t 89)⟩,
⟨some 91, none, [], .bin .no .eql (.t 90) (.k (.st [97]))⟩,
⟨some 92, none, [], .mov (.t 91)⟩,
⟨some 93, some (92, true), [], .mov (.t 2)⟩,
⟨some 94, none, [], .pick (.t 92) (.t 93) (.k (.bo false))⟩,
⟨some 17, none, [], .mov (.t 94)⟩] [88, 89])
(.seq (.reg false [
⟨some 95, none, [], .mov (.t 12)⟩,
⟨some 96, none, [], .mov (.t 95)⟩,
⟨some 97, some (96, true), [], .mov (.t 14)⟩,
⟨some 98, some (96, true), [], .mov (.t 17)⟩,
⟨some 99, some (96, true), [], .un .not (.t 98)⟩,
⟨some 100, some (96, true), [], .bin .bo .eql (.t 97) (.t 99)⟩,
⟨some 101, none, [], .pick (.t 96) (.t 100) (.k (.bo false))⟩,
⟨some 102, none, [], .mov (.t 101)⟩,
⟨some 103, some (102, true), [], .mov (.t 16)⟩,
⟨some 104, some (102, true), [], .fad 0 (.t 11)⟩,
⟨some 105, some (102, true), [], .fad 2 (.t 104)⟩,
⟨some 106, some (102, true), [], .ld 1 false (.t 105)⟩,
⟨some 107, some (102, true), [], .bin .no .eql (.t 106) (.k (.st [97]))⟩,
⟨some 108, some (102, true), [], .mov (.t 107)⟩,
⟨some 109, some (108, true), [], .mov (.t 2)⟩,
⟨some 110, some (108, true), [], .un .not (.t 109)⟩,
⟨some 111, some (102, true), [], .pick (.t 108) (.t 110) (.k (.bo false))⟩,
⟨some 112, some (102, true), [], .bin .bo .eql (.t 103) (.t 111)⟩,
⟨some 113, none, [], .pick (.t 102) (.t 112) (.k (.bo false))⟩,
⟨some 114, none, [], .mov (.t 113)⟩,
⟨some 115, some (114, true), [], .mov (.t 8)⟩,
⟨some 116, some (114, true), [], .call false .ro 17 [(.t 115)]⟩,
⟨some 117, some (114, true), [], .mov (.t 7)⟩,
⟨some 118, some (114, true), [], .bin .no .eql (.t 116) (.t 117)⟩,
⟨some 119, none, [], .pick (.t 114) (.t 118) (.k (.bo false))⟩,
⟨some 120, none, [], .mov (.t 119)⟩,
⟨some 121, some (120, true), [], .call false .pure 3 []⟩,
⟨some 122, none, [], .pick (.t 120) (.t 121) (.k (.bo false))⟩,
⟨some 6, none, [], .mov (.t 122)⟩] [104, 105])
.ret)))))))))))))⟩
def c5 : Ev.Fn := d5.den
def p5 : Pol := { loc := [11, 13, 15], md := .pure, mds := mds, heap := [], own := [], ord := [(9, [0, 1, 2, 9, 3, 4, 5, 6, 7, 8, 10]), (15, [0, 1, 2, 7, 3, 4, 5, 6, 8, 9]), (16, [0, 7, 1, 2, 3, 4, 5, 6, 8, 9]), (18, [0, 1, 2, 3, 4, 5, 6, 7, 8, 9, 10, 11, 12, 13, 14, 15, 16, 17, 18, 19, 20, 22, 21, 23, 24, 25, 26, 27, 28])], clr := [(12, [59]), (13, [66]), (15, [76]), (17, [88, 89]), (18, [104, 105])], mask := [(6, [1, 2, 7, 8, 10], [11, 13, 15])], fns := [] }
theorem r5 : FnOK Try.prog mds 5 c5 := .read (pol := p5) (d := d5) Try.func5 (by kernel_rfl) (by kernel_rfl) rfl rfl (by kernel_rfl)

/- reservoir/reservoirlaw23.StoreRemoves -/
def d6 : DFn := ⟨[(.c (.sl [.one])), (.c .one)], [(.c .one)], .pure, [.tmp 4],
(.seq (.reg false [
⟨some 4, none, [], .mov (.k (.bo false))⟩] [])
(.seq (.reg false [
⟨some 15, none, [], .call false .rw 9 [(.k (.it .i64 16777216))]⟩,
⟨some 14, none, [], .mov (.t 15)⟩,
⟨some 16, none, [], .ext (.t 14) 0⟩,
⟨some 17, none, [], .ext (.t 14) 1⟩,
⟨some 5, none, [], .mov (.t 16)⟩,
⟨some 6, none, [], .mov (.t 17)⟩] [])
(.seq (.seq (.reg false [
⟨some 18, none, [], .mov (.t 5)⟩,
⟨some 19, none, [], .bin .ptr .eql (.t 18) (.k .np)⟩,
⟨some 20, none, [], .mov (.t 19)⟩,
⟨some 21, some (20, false), [], .mov (.t 6)⟩,
⟨some 22, some (20, false), [], .bin .no .neq (.t 21) (.k (.it .i64 0))⟩,
⟨some 23, none, [], .pick (.t 20) (.k (.bo true)) (.t 22)⟩] [])
(.cond (.t 23)
(.seq (.reg false [
⟨some 4, none, [], .mov (.k (.bo false))⟩] [])
.ret)
.skip))
(.seq (.reg false [
⟨some 7, none, [], .mov (.k .ns)⟩] [])
(.seq (.reg false [
⟨some 24, none, [], .mov (.t 1)⟩,
⟨some 25, none, [], .call false .pure 18 [(.t 24), (.k (.it .i64 0)), (.k (.it .i64 9))]⟩,
⟨some 26, none, [], .bin .no .add (.k (.it .i64 97)) (.t 25)⟩,
⟨some 27, none, [], .cnv (.int .u8) (.t 26)⟩,
⟨some 28, none, [], .bsv [.one] 1 [[(.it .u8 0)]] [(0, (.t 27))]⟩,
⟨some 29, none, [], .cnv .b2s (.t 28)⟩,
⟨some 30, none, [], .call false .pure 11 [(.t 29), (.k (.it .i64 0))]⟩,
⟨some 31, none, [], .fld 0 6 true (.t 30)⟩,
⟨some 32, none, [], .call false .pure 19 [(.t 31)]⟩,
⟨some 8, none, [], .mov (.t 32)⟩] [])
(.seq (.reg false [
⟨some 9, none, [], .mov (.k (.it .i64 0))⟩] [])
(.seq (.seq (.reg false [
⟨some 10, none, [], .mov (.k (.it .i64 0))⟩] [])
(.blk 0 (.loop [0, 5, 7, 8, 9, 10] [11]
(.seq (.seq (.reg false [
⟨some 33, none, [], .mov (.t 10)⟩,
⟨some 34, none, [], .mov (.t 0)⟩,
⟨some 35, none, [], .len false (.t 34)⟩,
⟨some 36, none, [], .bin .no .lss (.t 33) (.t 35)⟩,
⟨some 37, none, [], .mov (.t 36)⟩,
⟨some 38, some (37, true), [], .mov (.t 10)⟩,
⟨some 39, some (37, true), [], .bin .no .lss (.t 38) (.k (.it .i64 40))⟩,
⟨some 40, none, [], .pick (.t 37) (.t 39) (.k (.bo false))⟩] [])
(.cond (.t 40)
.skip
(.exit 0)))
(.seq (.blk 1 (.seq (.reg false [
⟨some 43, none, [], .mov (.t 0)⟩,
⟨some 44, none, [], .mov (.t 10)⟩,
⟨some 45, none, [], .ias 1 (.t 43) (.t 44)⟩,
⟨some 46, none, [], .ld 1 false (.t 45)⟩,
⟨some 47, none, [], .call false .pure 18 [(.t 46), (.k (.it .i64 0)), (.k (.it .i64 9))]⟩,
⟨some 48, none, [], .bin .no .add (.k (.it .i64 97)) (.t 47)⟩,
⟨some 49, none, [], .cnv (.int .u8) (.t 48)⟩,
⟨some 50, none, [], .bsv [.one] 1 [[(.it .u8 0)]] [(0, (.t 49))]⟩,
⟨some 51, none, [], .cnv .b2s (.t 50)⟩,
⟨some 52, none, [], .mov (.t 10)⟩,
⟨some 53, none, [], .call false .pure 11 [(.t 51), (.t 52)]⟩,
⟨some 11, none, [], .alc [(.st []), (.st []), (.st []), (.st []), .ns, (.it .i64 0), (.it .i64 0), .ns, (.it .i64 0), (.st []), (.it .i64 0), (.it .i64 0)]⟩,
⟨none, none, [], .sto 12 (.t 11) (.t 53)⟩] [])
(.seq (.reg false [
⟨some 54, none, [], .mov (.t 5)⟩,
⟨some 55, none, [], .ld 12 true (.t 11)⟩,
⟨some 56, none, [], .call false .rw 10 [(.t 54), (.t 55)]⟩,
⟨some 57, none, [], .un .not (.t 56)⟩] [])
(.cond (.t 57)
(.seq (.reg false [
⟨some 4, none, [], .mov (.k (.bo false))⟩] [])
.ret)
.skip))))
(.reg false [
⟨some 41, none, [], .mov (.t 10)⟩,
⟨some 42, none, [], .bin .no .add (.t 41) (.k (.it .i64 1))⟩,
⟨some 10, none, [], .mov (.t 42)⟩] []))))))
(.seq (.reg false [
⟨some 58, none, [], .mov (.t 5)⟩,
⟨some 59, none, [], .call false .rw 14 [(.t 58)]⟩,
⟨some 12, none, [], .mov (.t 59)⟩] [])
(.seq (.seq (.reg false [
⟨some 13, none, [], .mov (.k (.it .i64 0))⟩] [])
(.blk 2 (.loop [5, 7, 8, 9, 12, 13] [11]
(.seq (.seq (.reg false [
⟨some 60, none, [], .mov (.t 13)⟩,
⟨some 61, none, [], .mov (.t 12)⟩,
⟨some 62, none, [], .len false (.t 61)⟩,
⟨some 63, none, [], .bin .no .lss (.t 60) (.t 62)⟩] [])
(.cond (.t 63)
.skip
(.exit 2)))
(.seq (.blk 3 (.seq (.reg false [
⟨some 66, none, [], .mov (.t 12)⟩,
⟨some 67, none, [], .mov (.t 13)⟩,
⟨some 68, none, [], .ias 1 (.t 66) (.t 67)⟩,
⟨some 69, none, [], .ld 1 false (.t 68)⟩,
⟨some 70, none, [], .mov (.t 8)⟩,
⟨some 71, none, [], .bin .no .eql (.t 69) (.t 70)⟩] [])
(.cond (.t 71)
(.reg false [
⟨some 72, none, [], .mov (.t 9)⟩,
⟨some 73, none, [], .bin .no .add (.t 72) (.k (.it .i64 1))⟩,
⟨some 9, none, [], .mov (.t 73)⟩] [])
(.reg false [
⟨some 74, none, [], .mov (.t 7)⟩,
⟨some 75, none, [], .mov (.t 12)⟩,
⟨some 76, none, [], .mov (.t 13)⟩,
⟨some 77, none, [], .ias 1 (.t 75) (.t 76)⟩,
⟨some 78, none, [], .ld 1 false (.t 77)⟩,
⟨some 79, none, [], .bsv [.one] 1 [[(.st [])]] [(0, (.t 78))]⟩,
⟨some 80, none, [], .app 1 16 (.t 74) (.t 79)⟩,
⟨some 7, none, [], .mov (.t 80)⟩] []))))
(.reg false [
⟨some 64, none, [], .mov (.t 13)⟩,
⟨some 65, none, [], .bin .no .add (.t 64) (.k (.it .i64 1))⟩,
⟨some 13, none, [], .mov (.t 65)⟩] []))))))
(.seq (.reg false [
⟨some 81, none, [], .mov (.t 5)⟩,
⟨some 82, none, [], .mov (.t 8)⟩,
⟨some 83, none, [], .call false .rw 21 [(.t 81), (.t 82)]⟩,
⟨some 84, none, [], .mov (.t 9)⟩,
⟨some 85, none, [], .bin .no .eql (.t 83) (.t 84)⟩,
⟨some 86, none, [], .mov (.t 85)⟩,
⟨some 87, some (86, true), [], .mov (.t 9)⟩,
⟨some 88, some (86, true), [], .bin .no .leq (.t 87) (.k (.it .i64 1))⟩,
⟨some 89, none, [], .pick (.t 86) (.t 88) (.k (.bo false))⟩,
⟨some 90, none, [], .mov (.t 89)⟩,
⟨some 91, some (90, true), [], .mov (.t 5)⟩,
⟨some 92, some (90, true), [], .call false .rw 14 [(.t 91)]⟩,
⟨some 93, some (90, true), [], .mov (.t 7)⟩,
⟨some 94, some (90, true), [], .call false .pure 16 [(.t 92), (.t 93)]⟩,
⟨some 95, none, [], .pick (.t 90) (.t 94) (.k (.bo false))⟩,
⟨some 96, none, [], .mov (.t 95)⟩,
⟨some 97, some (96, true), [], .mov (.t 5)⟩,
⟨some 98, some (96, true), [], .mov (.t 8)⟩,
⟨some 99, some (96, true), [], .call false .rw 21 [(.t 97), (.t 98)]⟩,
⟨some 100, some (96, true), [], .bin .no .eql (.t 99) (.k (.it .i64 0))⟩,
⟨some 101, none, [], .pick (.t 96) (.t 100) (.k (.bo false))⟩,
⟨some 102, none, [], .mov (.t 101)⟩,
⟨some 103, some (102, true), [], .call false .pure 3 []⟩,
⟨some 104, none, [], .pick (.t 102) (.t 103) (.k (.bo false))⟩,
⟨some 4, none, [], .mov (.t 104)⟩] [])
.ret))))))))))⟩
def c6 : Ev.Fn := d6.den
def p6 : Pol := { loc := [11], md := .pure, mds := mds, heap := [80], own := [80], ord := [(10, [0, 1, 2, 3, 9, 11, 4, 5, 6, 7, 8, 10, 12]), (20, [0, 1, 3, 2, 4, 5, 6, 7, 8, 9, 10, 12, 11, 13, 14, 15, 16, 17, 18, 19, 20, 21, 22, 23, 24])], clr := [], mask := [(8, [0, 5, 7, 8, 9, 10], [11]), (15, [5, 7, 8, 9, 12, 13], [11])], fns := [] }
theorem r6 : FnOK Try.prog mds 6 c6 := .read (pol := p6) (d := d6) Try.func6 (by kernel_rfl) (by kernel_rfl) rfl rfl (by kernel_rfl)

/- reservoir/reservoirlaw23.StoreBounded -/
def d8 : DFn := ⟨[(.c .one), (.c (.sl [.one, .one, .one, .one, .one, (.sl [.one, .one]), .one, .one, (.sl [.one, .one]), .one, .one, .one, .one, .one, .one, .one, .one, (.sl [.one, .one]), .one, .one]))], [(.c .one)], .pure, [.tmp 4],
(.seq (.reg false [
⟨some 4, none, [], .mov (.k (.bo false))⟩] [])
(.seq (.reg false [
⟨some 16, none, [], .mov (.t 0)⟩,
⟨some 17, none, [], .call false .pure 18 [(.t 16), (.k (.it .i64 0)), (.k (.it .i64 16777216))]⟩,
⟨some 5, none, [], .mov (.t 17)⟩] [])
(.seq (.reg false [
⟨some 19, none, [], .mov (.t 5)⟩,
⟨some 20, none, [], .call false .rw 9 [(.t 19)]⟩,
⟨some 18, none, [], .mov (.t 20)⟩,
⟨some 21, none, [], .ext (.t 18) 0⟩,
⟨some 22, none, [], .ext (.t 18) 1⟩,
⟨some 6, none, [], .mov (.t 21)⟩,
⟨some 7, none, [], .mov (.t 22)⟩] [])
(.seq (.seq (.reg false [
⟨some 23, none, [], .mov (.t 6)⟩,
⟨some 24, none, [], .bin .ptr .eql (.t 23) (.k .np)⟩,
⟨some 25, none, [], .mov (.t 24)⟩,
⟨some 26, some (25, false), [], .mov (.t 7)⟩,
⟨some 27, some (25, false), [], .bin .no .neq (.t 26) (.k (.it .i64 0))⟩,
⟨some 28, none, [], .pick (.t 25) (.k (.bo true)) (.t 27)⟩] [])
(.cond (.t 28)
(.seq (.reg false [
⟨some 4, none, [], .mov (.k (.bo false))⟩] [])
.ret)
.skip))
(.seq (.seq (.reg false [
⟨some 8, none, [], .mov (.k (.it .i64 0))⟩] [])
(.blk 0 (.loop [1, 5, 6, 8] [9, 11]
(.seq (.seq (.reg false [
⟨some 29, none, [], .mov (.t 8)⟩,
⟨some 30, none, [], .mov (.t 1)⟩,
⟨some 31, none, [], .len false (.t 30)⟩,
⟨some 32, none, [], .bin .no .lss (.t 29) (.t 31)⟩,
⟨some 33, none, [], .mov (.t 32)⟩,
⟨some 34, some (33, true), [], .mov (.t 8)⟩,
⟨some 35, some (33, true), [], .bin .no .lss (.t 34) (.k (.it .i64 40))⟩,
⟨some 36, none, [], .pick (.t 33) (.t 35) (.k (.bo false))⟩] [])
(.cond (.t 36)
.skip
(.exit 0)))
(.seq (.blk 1 (.seq (.reg false [
⟨some 39, none, [], .mov (.t 1)⟩,
⟨some 40, none, [], .mov (.t 8)⟩,
⟨some 41, none, [], .ias 20 (.t 39) (.t 40)⟩,
⟨some 42, none, [], .ld 20 true (.t 41)⟩,
⟨some 9, none, [], .alc [(.it .i64 0), (.st []), (.st []), (.st []), (.st []), .ns, (.it .i64 0), (.it .i64 0), .ns, (.it .i64 0), (.st []), (.it .i64 0), (.it .i64 0), (.st []), (.st []), (.st []), (.st []), .ns, (.it .i64 0), (.st [])]⟩,
⟨none, none, [], .sto 20 (.t 9) (.t 42)⟩] [])
(.seq (.seq (.reg false [
⟨some 43, none, [], .ld 20 true (.t 9)⟩,
⟨some 44, none, [], .call false .pure 22 [(.t 43)]⟩,
⟨some 45, none, [], .un .not (.t 44)⟩] [])
(.cond (.t 45)
(.exit 1)
.skip))
(.seq (.reg false [
⟨some 46, none, [], .mov (.t 6)⟩,
⟨some 47, none, [], .fad 1 (.t 9)⟩,
⟨some 48, none, [], .ld 12 true (.t 47)⟩,
⟨some 49, none, [], .call false .rw 10 [(.t 46), (.t 48)]⟩,
⟨some 10, none, [], .mov (.t 49)⟩] [47])
(.seq (.seq (.reg false [
⟨some 50, none, [], .mov (.t 10)⟩,
⟨some 51, none, [], .fad 1 (.t 9)⟩,
⟨some 52, none, [], .ld 12 true (.t 51)⟩,
⟨some 53, none, [], .call false .pure 15 [(.t 52)]⟩,
⟨some 54, none, [], .mov (.t 5)⟩,
⟨some 55, none, [], .bin .no .leq (.t 53) (.t 54)⟩,
⟨some 56, none, [], .bin .bo .neq (.t 50) (.t 55)⟩,
⟨some 57, none, [], .mov (.t 56)⟩,
⟨some 58, some (57, false), [], .mov (.t 6)⟩,
⟨some 59, some (57, false), [], .call false .ro 12 [(.t 58)]⟩,
⟨some 60, some (57, false), [], .mov (.t 5)⟩,
⟨some 61, some (57, false), [], .bin .no .gtr (.t 59) (.t 60)⟩,
⟨some 62, none, [], .pick (.t 57) (.k (.bo true)) (.t 61)⟩,
⟨some 63, none, [], .mov (.t 62)⟩,
⟨some 64, some (63, false), [], .mov (.t 6)⟩,
⟨some 65, some (63, false), [], .call false .ro 12 [(.t 64)]⟩,
⟨some 66, some (63, false), [], .bin .no .lss (.t 65) (.k (.it .i64 0))⟩,
⟨some 67, none, [], .pick (.t 63) (.k (.bo true)) (.t 66)⟩,
⟨some 68, none, [], .mov (.t 67)⟩,
⟨some 69, some (68, false), [], .mov (.t 6)⟩,
⟨some 70, some (68, false), [], .call false .rw 14 [(.t 69)]⟩,
⟨some 71, some (68, false), [], .len false (.t 70)⟩,
⟨some 72, some (68, false), [], .mov (.t 6)⟩,
⟨some 73, some (68, false), [], .call false .ro 17 [(.t 72)]⟩,
⟨some 74, some (68, false), [], .bin .no .neq (.t 71) (.t 73)⟩,
⟨some 75, none, [], .pick (.t 68) (.k (.bo true)) (.t 74)⟩] [51])
(.cond (.t 75)
(.seq (.reg false [
⟨some 4, none, [], .mov (.k (.bo false))⟩] [])
.ret)
.skip))
(.seq (.reg false [
⟨some 77, none, [], .mov (.t 6)⟩,
⟨some 78, none, [], .fad 1 (.t 9)⟩,
⟨some 79, none, [], .fad 0 (.t 78)⟩,
⟨some 80, none, [], .ld 6 true (.t 79)⟩,
⟨some 81, none, [], .call false .rw 20 [(.t 77), (.t 80)]⟩,
⟨some 76, none, [], .mov (.t 81)⟩,
⟨some 82, none, [], .ext (.t 76) 0⟩,
⟨some 83, none, [], .ext (.t 76) 1⟩,
⟨some 11, none, [78, 79], .alc [(.st []), (.st []), (.st []), (.st []), .ns, (.it .i64 0), (.it .i64 0), .ns, (.it .i64 0), (.st []), (.it .i64 0), (.it .i64 0)]⟩,
⟨none, none, [], .sto 12 (.t 11) (.t 82)⟩,
⟨some 12, none, [], .mov (.t 83)⟩] [78, 79])
(.seq (.reg false [
⟨some 85, none, [], .fad 1 (.t 9)⟩,
⟨some 86, none, [], .fad 6 (.t 85)⟩,
⟨some 87, none, [], .fad 1 (.t 86)⟩,
⟨some 88, none, [], .ld 1 false (.t 87)⟩,
⟨some 89, none, [], .call false .pure 31 [(.t 88)]⟩,
⟨some 84, none, [], .mov (.t 89)⟩,
⟨some 90, none, [], .ext (.t 84) 0⟩,
⟨some 91, none, [], .ext (.t 84) 1⟩,
⟨some 13, none, [], .mov (.t 90)⟩,
⟨some 14, none, [], .mov (.t 91)⟩] [85, 86, 87])
(.seq (.seq (.reg false [
⟨some 92, none, [], .mov (.t 10)⟩,
⟨some 93, none, [], .mov (.t 92)⟩,
⟨some 94, some (93, true), [], .mov (.t 14)⟩,
⟨some 95, some (93, true), [], .un .not (.t 94)⟩,
⟨some 96, none, [], .pick (.t 93) (.t 95) (.k (.bo false))⟩,
⟨some 97, none, [], .mov (.t 96)⟩,
⟨some 98, some (97, true), [], .mov (.t 12)⟩,
⟨some 99, some (97, true), [], .un .not (.t 98)⟩,
⟨some 100, some (97, true), [], .mov (.t 99)⟩,
⟨some 101, some (100, false), [], .ld 12 true (.t 11)⟩,
⟨some 102, some (100, false), [], .fad 1 (.t 9)⟩,
⟨some 103, some (100, false), [], .ld 12 true (.t 102)⟩,
⟨some 104, some (100, false), [], .call false .ro 26 [(.t 101), (.t 103)]⟩,
⟨some 105, some (100, false), [], .un .not (.t 104)⟩,
⟨some 106, some (97, true), [], .pick (.t 100) (.k (.bo true)) (.t 105)⟩,
⟨some 107, none, [], .pick (.t 97) (.t 106) (.k (.bo false))⟩] [102])
(.cond (.t 107)
(.seq (.reg false [
⟨some 4, none, [], .mov (.k (.bo false))⟩] [])
.ret)
.skip))
(.seq (.reg false [
⟨some 108, none, [], .fad 0 (.t 9)⟩,
⟨some 109, none, [], .ld 1 false (.t 108)⟩,
⟨some 110, none, [], .bin .no .eql (.t 109) (.k (.it .i64 4))⟩] [108])
(.cond (.t 110)
(.seq (.reg false [
⟨some 111, none, [], .fad 1 (.t 9)⟩,
⟨some 112, none, [], .fad 0 (.t 111)⟩,
⟨some 113, none, [], .ld 6 true (.t 112)⟩,
⟨some 114, none, [], .call false .pure 19 [(.t 113)]⟩,
⟨some 15, none, [], .mov (.t 114)⟩] [111, 112])
(.seq (.reg false [
⟨some 115, none, [], .mov (.t 6)⟩,
⟨some 116, none, [], .mov (.t 15)⟩,
⟨some 117, none, [], .call false .rw 21 [(.t 115), (.t 116)]⟩] [])
(.seq (.reg false [
⟨some 119, none, [], .mov (.t 6)⟩,
⟨some 120, none, [], .fad 1 (.t 9)⟩,
⟨some 121, none, [], .fad 0 (.t 120)⟩,
⟨some 122, none, [], .ld 6 true (.t 121)⟩,
⟨some 123, none, [], .call false .rw 20 [(.t 119), (.t 122)]⟩,
⟨some 118, none, [], .mov (.t 123)⟩,
⟨some 124, none, [], .ext (.t 118) 0⟩,
⟨some 125, none, [], .ext (.t 118) 1⟩,
⟨some 12, none, [], .mov (.t 125)⟩] [120, 121])
(.seq (.reg false [
⟨some 126, none, [], .mov (.t 12)⟩,
⟨some 127, none, [], .mov (.t 126)⟩,
⟨some 128, some (127, false), [], .mov (.t 6)⟩,
⟨some 129, some (127, false), [], .mov (.t 15)⟩,
⟨some 130, some (127, false), [], .call false .rw 21 [(.t 128), (.t 129)]⟩,
⟨some 131, some (127, false), [], .bin .no .neq (.t 130) (.k (.it .i64 0))⟩,
⟨some 132, none, [], .pick (.t 127) (.k (.bo true)) (.t 131)⟩] [])
(.cond (.t 132)
(.seq (.reg false [
⟨some 4, none, [], .mov (.k (.bo false))⟩] [])
.ret)
.skip)))))
.skip))))))))))
(.reg false [
⟨some 37, none, [], .mov (.t 8)⟩,
⟨some 38, none, [], .bin .no .add (.t 37) (.k (.it .i64 1))⟩,
⟨some 8, none, [], .mov (.t 38)⟩] []))))))
(.seq (.reg false [
⟨some 133, none, [], .call false .pure 3 []⟩,
⟨some 4, none, [], .mov (.t 133)⟩] [])
.ret))))))⟩
def c8 : Ev.Fn := d8.den
def p8 : Pol := { loc := [9, 11], md := .pure, mds := mds, heap := [], own := [], ord := [(11, [0, 1, 2, 4, 3, 5, 6, 7, 8, 10, 9, 11, 12, 13, 14, 15, 16, 17, 18, 19, 22, 20, 21, 23, 24, 25]), (13, [0, 1, 2, 3, 8, 4, 5, 6, 7, 9, 10])], clr := [(10, [47]), (11, [51]), (13, [78, 79]), (14, [85, 86, 87]), (15, [102]), (17, [108]), (18, [111, 112]), (20, [120, 121])], mask := [(6, [1, 5, 6, 8], [9, 11])], fns := [] }
theorem r8 : FnOK Try.prog mds 8 c8 := .read (pol := p8) (d := d8) Try.func8 (by kernel_rfl) (by kernel_rfl) rfl rfl (by kernel_rfl)

/- reservoir/store.New -/
def d9 : DFn := ⟨[(.c .one)], [(.c .one), (.c .one)], .rw, [.tmp 2, .tmp 3],
(.seq (.reg false [
⟨some 2, none, [], .mov (.k .np)⟩,
⟨some 3, none, [], .mov (.k (.it .i64 0))⟩] [])
(.seq (.seq (.reg false [
⟨some 4, none, [], .mov (.t 0)⟩,
⟨some 5, none, [], .bin .no .lss (.t 4) (.k (.it .i64 0))⟩,
⟨some 6, none, [], .mov (.t 5)⟩,
⟨some 7, some (6, false), [], .mov (.t 0)⟩,
⟨some 8, some (6, false), [], .bin .no .gtr (.t 7) (.k (.it .i64 16777216))⟩,
⟨some 9, none, [], .pick (.t 6) (.k (.bo true)) (.t 8)⟩] [])
(.cond (.t 9)
(.seq (.reg false [
⟨some 2, none, [], .mov (.k .np)⟩,
⟨some 3, none, [], .mov (.k (.it .i64 1))⟩] [])
.ret)
.skip))
(.seq (.reg false [
⟨some 10, none, [], .mov (.t 0)⟩,
⟨some 11, none, [], .bld [.ns, (.it .i64 0), (.it .i64 0)] [(2, 1, (.t 10))]⟩,
⟨some 12, none, [], .bxh (.t 11)⟩,
⟨some 2, none, [], .mov (.t 12)⟩,
⟨some 3, none, [], .mov (.k (.it .i64 0))⟩] [])
.ret)))⟩
def c9 : Ev.Fn := d9.den
def p9 : Pol := { loc := [], md := .rw, mds := mds, heap := [], own := [], ord := [], clr := [], mask := [], fns := [] }
theorem r9 : FnOK Try.prog mds 9 c9 := .read (pol := p9) (d := d9) Try.func9 (by kernel_rfl) (by kernel_rfl) rfl rfl (by kernel_rfl)

/- (*reservoir/store.Store).Put -/
def d10 : DFn := ⟨[(.c .one), (.g [.one, .one, .one, .one, (.sl [.one, .one]), .one, .one, (.sl [.one, .one]), .one, .one, .one, .one])], [(.c .one)], .rw, [.tmp 4],
(.seq (.reg false [
⟨some 3, none, [], .box (.t 1)⟩,
⟨some 4, none, [], .mov (.k (.bo false))⟩] [])
(.seq (.seq (.reg false [
⟨some 7, none, [], .mov (.t 0)⟩,
⟨some 8, none, [], .nck (.t 7)⟩,
⟨some 9, none, [], .fad 0 (.t 8)⟩,
⟨some 10, none, [], .ld 1 false (.t 9)⟩,
⟨some 11, none, [], .len false (.t 10)⟩,
⟨some 12, none, [], .bin .no .sub (.t 11) (.k (.it .i64 1))⟩,
⟨some 5, none, [], .mov (.t 12)⟩] [])
(.blk 0 (.loop [0, 3, 5] []
(.seq (.seq (.reg false [
⟨some 13, none, [], .mov (.t 5)⟩,
⟨some 14, none, [], .bin .no .geq (.t 13) (.k (.it .i64 0))⟩] [])
(.cond (.t 14)
.skip
(.exit 0)))
(.seq (.blk 1 (.seq (.reg true [
⟨some 17, none, [], .mov (.t 0)⟩,
⟨some 18, none, [], .nck (.t 17)⟩,
⟨some 19, none, [], .fad 0 (.t 18)⟩,
⟨some 20, none, [], .ld 1 false (.t 19)⟩,
⟨some 21, none, [], .mov (.t 5)⟩,
⟨some 22, none, [], .ias 12 (.t 20) (.t 21)⟩,
⟨some 23, none, [], .ld 12 true (.t 22)⟩,
⟨some 24, none, [], .fad 0 (.t 3)⟩,
⟨some 25, none, [], .ld 6 true (.t 24)⟩,
⟨some 26, none, [], .call false .pure 32 [(.t 23), (.t 25)]⟩] [24])
(.cond (.t 26)
(.reg false [
⟨some 27, none, [], .mov (.t 0)⟩,
⟨some 28, none, [], .mov (.t 5)⟩,
⟨some 29, none, [], .call false .rw 33 [(.t 27), (.t 28)]⟩] [])
.skip)))
(.reg false [
⟨some 15, none, [], .mov (.t 5)⟩,
⟨some 16, none, [], .bin .no .sub (.t 15) (.k (.it .i64 1))⟩,
⟨some 5, none, [], .mov (.t 16)⟩] []))))))
(.seq (.reg false [
⟨some 30, none, [], .ld 12 true (.t 3)⟩,
⟨some 31, none, [], .call false .pure 15 [(.t 30)]⟩,
⟨some 6, none, [], .mov (.t 31)⟩] [])
(.seq (.seq (.reg false [
⟨some 32, none, [], .mov (.t 6)⟩,
⟨some 33, none, [], .mov (.t 0)⟩,
⟨some 34, none, [], .nck (.t 33)⟩,
⟨some 35, none, [], .fad 2 (.t 34)⟩,
⟨some 36, none, [], .ld 1 false (.t 35)⟩,
⟨some 37, none, [], .bin .no .gtr (.t 32) (.t 36)⟩] [])
(.cond (.t 37)
(.seq (.reg false [
⟨some 4, none, [], .mov (.k (.bo false))⟩] [])
.ret)
.skip))
(.seq (.blk 2 (.loop [0, 3, 6] []
(.seq (.seq (.reg true [
⟨some 38, none, [], .mov (.t 0)⟩,
⟨some 39, none, [], .nck (.t 38)⟩,
⟨some 40, none, [], .fad 1 (.t 39)⟩,
⟨some 41, none, [], .ld 1 false (.t 40)⟩,
⟨some 42, none, [], .mov (.t 0)⟩,
⟨some 43, none, [], .nck (.t 42)⟩,
⟨some 44, none, [], .fad 2 (.t 43)⟩,
⟨some 45, none, [], .ld 1 false (.t 44)⟩,
⟨some 46, none, [], .mov (.t 6)⟩,
⟨some 47, none, [], .bin .no .sub (.t 45) (.t 46)⟩,
⟨some 48, none, [], .bin .no .gtr (.t 41) (.t 47)⟩] [])
(.cond (.t 48)
.skip
(.exit 2)))
(.blk 3 (.reg false [
⟨some 49, none, [], .mov (.t 0)⟩,
⟨some 50, none, [], .mov (.t 0)⟩,
⟨some 51, none, [], .nck (.t 50)⟩,
⟨some 52, none, [], .fad 0 (.t 51)⟩,
⟨some 53, none, [], .ld 1 false (.t 52)⟩,
⟨some 54, none, [], .len false (.t 53)⟩,
⟨some 55, none, [], .bin .no .sub (.t 54) (.k (.it .i64 1))⟩,
⟨some 56, none, [], .call false .rw 33 [(.t 49), (.t 55)]⟩] [])))))
(.seq (.reg false [
⟨some 57, none, [], .mov (.t 0)⟩,
⟨some 58, none, [], .ld 12 true (.t 3)⟩,
⟨some 59, none, [], .call false .pure 35 [(.t 58)]⟩,
⟨some 60, none, [], .call false .rw 34 [(.t 57), (.t 59)]⟩] [])
(.seq (.reg false [
⟨some 4, none, [], .mov (.k (.bo true))⟩] [])
.ret)))))))⟩
def c10 : Ev.Fn := d10.den
def p10 : Pol := { loc := [3], md := .rw, mds := mds, heap := [], own := [], ord := [(0, [1, 0])], clr := [(4, [24])], mask := [(2, [0, 3, 5], []), (9, [0, 3, 6], [])], fns := [] }
theorem r10 : FnOK Try.prog mds 10 c10 := .read (pol := p10) (d := d10) Try.func10 (by kernel_rfl) (by kernel_rfl) rfl rfl (by kernel_rfl)

/- reservoir/reservoirlaw23.page -/
def d11 : DFn := ⟨[(.c .one), (.c .one)], [(.g [.one, .one, .one, .one, (.sl [.one, .one]), .one, .one, (.sl [.one, .one]), .one, .one, .one, .one])], .pure, [.cell 4 12 true],
(.seq (.reg false [
⟨some 4, none, [], .alc [(.st []), (.st []), (.st []), (.st []), .ns, (.it .i64 0), (.it .i64 0), .ns, (.it .i64 0), (.st []), (.it .i64 0), (.it .i64 0)]⟩] [])
(.seq (.reg false [
⟨some 5, none, [], .mov (.t 0)⟩,
⟨some 6, none, [], .bld [(.st []), (.st []), (.st []), (.st []), .ns, (.it .i64 0)] [(0, 1, (.k (.st [71, 69, 84]))), (1, 1, (.k (.st [104, 116, 116, 112]))), (2, 1, (.t 5)), (3, 1, (.k (.st [47])))]⟩,
⟨some 7, none, [], .mov (.t 1)⟩,
⟨some 8, none, [], .mks 1 1 [(.it .u8 0)] (.t 7) (.t 7)⟩,
⟨some 9, none, [], .cnv .b2s (.t 8)⟩,
⟨some 10, none, [], .bld [(.st []), (.st []), (.st []), (.st []), .ns, (.it .i64 0), (.it .i64 0), .ns, (.it .i64 0), (.st []), (.it .i64 0), (.it .i64 0)] [(0, 6, (.t 6)), (9, 1, (.t 9))]⟩,
⟨none, none, [], .sto 12 (.t 4) (.t 10)⟩] [])
.ret))⟩
def c11 : Ev.Fn := d11.den
def p11 : Pol := { loc := [4], md := .pure, mds := mds, heap := [], own := [], ord := [], clr := [], mask := [], fns := [] }
theorem r11 : FnOK Try.prog mds 11 c11 := .read (pol := p11) (d := d11) Try.func11 (by kernel_rfl) (by kernel_rfl) rfl rfl (by kernel_rfl)

/- (*reservoir/store.Store).Size -/
def d12 : DFn := ⟨[(.c .one)], [(.c .one)], .ro, [.tmp 2],
(.seq (.reg false [
⟨some 2, none, [], .mov (.k (.it .i64 0))⟩] [])
(.seq (.reg false [
⟨some 3, none, [], .mov (.t 0)⟩,
⟨some 4, none, [], .nck (.t 3)⟩,
⟨some 5, none, [], .fad 1 (.t 4)⟩,
⟨some 6, none, [], .ld 1 false (.t 5)⟩,
⟨some 2, none, [], .mov (.t 6)⟩] [])
.ret))⟩
def c12 : Ev.Fn := d12.den
def p12 : Pol := { loc := [], md := .ro, mds := mds, heap := [], own := [], ord := [], clr := [], mask := [], fns := [] }
theorem r12 : FnOK Try.prog mds 12 c12 := .read (pol := p12) (d := d12) Try.func12 (by kernel_rfl) (by kernel_rfl) rfl rfl (by kernel_rfl)

/- (*reservoir/store.Store).Get -/
def d13 : DFn := ⟨[(.c .one), (.g [.one, .one, .one, .one, (.sl [.one, .one]), .one])], [(.g [.one, .one, .one, .one, (.sl [.one, .one]), .one, .one, (.sl [.one, .one]), .one, .one, .one, .one]), (.c .one)], .rw, [.cell 4 12 true, .tmp 5],
(.seq (.reg false [
⟨some 3, none, [], .box (.t 1)⟩,
⟨some 4, none, [], .alc [(.st []), (.st []), (.st []), (.st []), .ns, (.it .i64 0), (.it .i64 0), .ns, (.it .i64 0), (.st []), (.it .i64 0), (.it .i64 0)]⟩,
⟨some 5, none, [], .mov (.k (.bo false))⟩] [])
(.seq (.reg false [
⟨some 8, none, [], .mov (.t 0)⟩,
⟨some 9, none, [], .ld 6 true (.t 3)⟩,
⟨some 10, none, [], .call false .ro 36 [(.t 8), (.t 9)]⟩,
⟨some 6, none, [], .mov (.t 10)⟩] [])
(.seq (.seq (.reg false [
⟨some 11, none, [], .mov (.t 6)⟩,
⟨some 12, none, [], .bin .no .lss (.t 11) (.k (.it .i64 0))⟩] [])
(.cond (.t 12)
(.seq (.reg false [
⟨some 13, none, [], .bld [(.st []), (.st []), (.st []), (.st []), .ns, (.it .i64 0), (.it .i64 0), .ns, (.it .i64 0), (.st []), (.it .i64 0), (.it .i64 0)] []⟩,
⟨none, none, [], .sto 12 (.t 4) (.t 13)⟩,
⟨some 5, none, [], .mov (.k (.bo false))⟩] [])
.ret)
.skip))
(.seq (.reg false [
⟨some 14, none, [], .mov (.t 0)⟩,
⟨some 15, none, [], .mov (.t 6)⟩,
⟨some 16, none, [], .call false .rw 33 [(.t 14), (.t 15)]⟩,
⟨some 7, none, [], .alc [(.st []), (.st []), (.st []), (.st []), .ns, (.it .i64 0), (.it .i64 0), .ns, (.it .i64 0), (.st []), (.it .i64 0), (.it .i64 0)]⟩,
⟨none, none, [], .sto 12 (.t 7) (.t 16)⟩] [])
(.seq (.reg false [
⟨some 17, none, [], .mov (.t 0)⟩,
⟨some 18, none, [], .ld 12 true (.t 7)⟩,
⟨some 19, none, [], .call false .rw 34 [(.t 17), (.t 18)]⟩] [])
(.seq (.reg false [
⟨some 20, none, [], .ld 12 true (.t 7)⟩,
⟨some 21, none, [], .call false .pure 35 [(.t 20)]⟩,
⟨none, none, [], .sto 12 (.t 4) (.t 21)⟩,
⟨some 5, none, [], .mov (.k (.bo true))⟩] [])
.ret))))))⟩
def c13 : Ev.Fn := d13.den
def p13 : Pol := { loc := [3, 4, 7], md := .rw, mds := mds, heap := [], own := [], ord := [(0, [2, 0, 1]), (4, [0, 1, 3, 2, 4])], clr := [], mask := [], fns := [] }
theorem r13 : FnOK Try.prog mds 13 c13 := .read (pol := p13) (d := d13) Try.func13 (by kernel_rfl) (by kernel_rfl) rfl rfl (by kernel_rfl)

/- (*reservoir/store.Store).Keys -/
def d14 : DFn := ⟨[(.c .one)], [(.c (.sl [.one]))], .rw, [.tmp 2],
(.seq (.reg false [
⟨some 2, none, [], .mov (.k .ns)⟩] [])
(.seq (.reg false [
⟨some 3, none, [], .mov (.k .ns)⟩] [])
(.seq (.seq (.reg false [
⟨some 6, none, [], .mov (.t 0)⟩,
⟨some 7, none, [], .nck (.t 6)⟩,
⟨some 8, none, [], .fad 0 (.t 7)⟩,
⟨some 9, none, [], .ld 1 false (.t 8)⟩,
⟨some 10, none, [], .len false (.t 9)⟩,
⟨some 11, none, [], .mov (.k (.it .i64 0))⟩] [])
(.blk 0 (.loop [3, 9, 10, 11] [5]
(.seq (.reg false [
⟨some 12, none, [], .bin .no .lss (.t 11) (.t 10)⟩] [])
(.seq (.cond (.t 12)
.skip
(.exit 0))
(.seq (.blk 1 (.seq (.reg false [
⟨some 13, none, [], .ias 12 (.t 9) (.t 11)⟩,
⟨some 14, none, [], .ld 12 true (.t 13)⟩,
⟨some 5, none, [], .alc [(.st []), (.st []), (.st []), (.st []), .ns, (.it .i64 0), (.it .i64 0), .ns, (.it .i64 0), (.st []), (.it .i64 0), (.it .i64 0)]⟩,
⟨none, none, [], .sto 12 (.t 5) (.t 14)⟩] [])
(.reg false [
⟨some 15, none, [], .mov (.t 3)⟩,
⟨some 16, none, [], .fad 0 (.t 5)⟩,
⟨some 17, none, [], .ld 6 true (.t 16)⟩,
⟨some 18, none, [], .call false .pure 19 [(.t 17)]⟩,
⟨some 19, none, [], .bsv [.one] 1 [[(.st [])]] [(0, (.t 18))]⟩,
⟨some 20, none, [], .app 1 16 (.t 15) (.t 19)⟩,
⟨some 3, none, [], .mov (.t 20)⟩] [16])))
(.reg false [
⟨some 21, none, [], .bin .no .add (.t 11) (.k (.it .i64 1))⟩,
⟨some 11, none, [], .mov (.t 21)⟩] [])))))))
(.seq (.reg false [
⟨some 22, none, [], .mov (.t 3)⟩,
⟨some 2, none, [], .mov (.t 22)⟩] [])
.ret))))⟩
def c14 : Ev.Fn := d14.den
def p14 : Pol := { loc := [5], md := .rw, mds := mds, heap := [20], own := [20], ord := [], clr := [(5, [16])], mask := [(3, [3, 9, 10, 11], [5])], fns := [] }
theorem r14 : FnOK Try.prog mds 14 c14 := .read (pol := p14) (d := d14) Try.func14 (by kernel_rfl) (by kernel_rfl) rfl rfl (by kernel_rfl)

/- reservoir/store.Cost -/
def d15 : DFn := ⟨[(.g [.one, .one, .one, .one, (.sl [.one, .one]), .one, .one, (.sl [.one, .one]), .one, .one, .one, .one])], [(.c .one)], .pure, [.tmp 2],
(.seq (.reg false [
⟨some 1, none, [], .box (.t 0)⟩,
⟨some 2, none, [], .mov (.k (.it .i64 0))⟩] [])
(.seq (.reg true [
⟨some 3, none, [], .fad 0 (.t 1)⟩,
⟨some 4, none, [], .ld 6 true (.t 3)⟩,
⟨some 8, none, [], .fad 0 (.t 1)⟩,
⟨some 9, none, [], .fad 4 (.t 8)⟩,
⟨some 10, none, [], .ld 1 false (.t 9)⟩,
⟨some 13, none, [], .fad 6 (.t 1)⟩,
⟨some 14, none, [], .fad 1 (.t 13)⟩,
⟨some 15, none, [], .ld 1 false (.t 14)⟩,
⟨some 18, none, [], .fad 9 (.t 1)⟩,
⟨some 19, none, [], .ld 1 false (.t 18)⟩,
⟨some 20, none, [], .len true (.t 19)⟩,
⟨some 5, none, [], .call false .pure 19 [(.t 4)]⟩,
⟨some 6, none, [], .len true (.t 5)⟩,
⟨some 7, none, [], .bin .no .add (.k (.it .i64 100)) (.t 6)⟩,
⟨some 11, none, [], .call false .pure 37 [(.t 10)]⟩,
⟨some 12, none, [], .bin .no .add (.t 7) (.t 11)⟩,
⟨some 16, none, [], .call false .pure 37 [(.t 15)]⟩,
⟨some 17, none, [], .bin .no .add (.t 12) (.t 16)⟩,
⟨some 21, none, [], .bin .no .add (.t 17) (.t 20)⟩,
⟨some 2, none, [], .mov (.t 21)⟩] [3, 8, 9, 13, 14, 18])
.ret))⟩
def c15 : Ev.Fn := d15.den
def p15 : Pol := { loc := [1], md := .pure, mds := mds, heap := [], own := [], ord := [(0, [1, 0]), (1, [0, 1, 5, 6, 7, 10, 11, 12, 15, 16, 17, 2, 3, 4, 8, 9, 13, 14, 18, 19])], clr := [(1, [3, 8, 9, 13, 14, 18])], mask := [], fns := [] }
theorem r15 : FnOK Try.prog mds 15 c15 := .read (pol := p15) (d := d15) Try.func15 (by kernel_rfl) (by kernel_rfl) rfl rfl (by kernel_rfl)

/- reservoir/reservoirbook.Same[string] -/
def d16 : DFn := ⟨[(.c (.sl [.one])), (.c (.sl [.one]))], [(.c .one)], .pure, [.tmp 4],
(.seq (.reg false [
⟨some 4, none, [], .mov (.k (.bo false))⟩] [])
(.seq (.seq (.reg false [
⟨some 6, none, [], .mov (.t 0)⟩,
⟨some 7, none, [], .len false (.t 6)⟩,
⟨some 8, none, [], .mov (.t 1)⟩,
⟨some 9, none, [], .len false (.t 8)⟩,
⟨some 10, none, [], .bin .no .neq (.t 7) (.t 9)⟩] [])
(.cond (.t 10)
(.seq (.reg false [
⟨some 4, none, [], .mov (.k (.bo false))⟩] [])
.ret)
.skip))
(.seq (.seq (.reg false [
⟨some 5, none, [], .mov (.k (.it .i64 0))⟩] [])
(.blk 0 (.loop [0, 1, 5] []
(.seq (.seq (.reg false [
⟨some 11, none, [], .mov (.t 5)⟩,
⟨some 12, none, [], .mov (.t 0)⟩,
⟨some 13, none, [], .len false (.t 12)⟩,
⟨some 14, none, [], .bin .no .lss (.t 11) (.t 13)⟩] [])
(.cond (.t 14)
.skip
(.exit 0)))
(.seq (.blk 1 (.seq (.reg true [
⟨some 17, none, [], .mov (.t 0)⟩,
⟨some 18, none, [], .mov (.t 5)⟩,
⟨some 19, none, [], .ias 1 (.t 17) (.t 18)⟩,
⟨some 20, none, [], .ld 1 false (.t 19)⟩,
⟨some 21, none, [], .mov (.t 1)⟩,
⟨some 22, none, [], .mov (.t 5)⟩,
⟨some 23, none, [], .ias 1 (.t 21) (.t 22)⟩,
⟨some 24, none, [], .ld 1 false (.t 23)⟩,
⟨some 25, none, [], .bin .no .neq (.t 20) (.t 24)⟩] [])
(.cond (.t 25)
(.seq (.reg false [
⟨some 4, none, [], .mov (.k (.bo false))⟩] [])
.ret)
.skip)))
(.reg false [
⟨some 15, none, [], .mov (.t 5)⟩,
⟨some 16, none, [], .bin .no .add (.t 15) (.k (.it .i64 1))⟩,
⟨some 5, none, [], .mov (.t 16)⟩] []))))))
(.seq (.reg false [
⟨some 4, none, [], .mov (.k (.bo true))⟩] [])
.ret))))⟩
def c16 : Ev.Fn := d16.den
def p16 : Pol := { loc := [], md := .pure, mds := mds, heap := [], own := [], ord := [], clr := [], mask := [(4, [0, 1, 5], [])], fns := [] }
theorem r16 : FnOK Try.prog mds 16 c16 := .read (pol := p16) (d := d16) Try.func16 (by kernel_rfl) (by kernel_rfl) rfl rfl (by kernel_rfl)

/- (*reservoir/store.Store).Len -/
def d17 : DFn := ⟨[(.c .one)], [(.c .one)], .ro, [.tmp 2],
(.seq (.reg false [
⟨some 2, none, [], .mov (.k (.it .i64 0))⟩] [])
(.seq (.reg false [
⟨some 3, none, [], .mov (.t 0)⟩,
⟨some 4, none, [], .nck (.t 3)⟩,
⟨some 5, none, [], .fad 0 (.t 4)⟩,
⟨some 6, none, [], .ld 1 false (.t 5)⟩,
⟨some 7, none, [], .len false (.t 6)⟩,
⟨some 2, none, [], .mov (.t 7)⟩] [])
.ret))⟩
def c17 : Ev.Fn := d17.den
def p17 : Pol := { loc := [], md := .ro, mds := mds, heap := [], own := [], ord := [], clr := [], mask := [], fns := [] }
theorem r17 : FnOK Try.prog mds 17 c17 := .read (pol := p17) (d := d17) Try.func17 (by kernel_rfl) (by kernel_rfl) rfl rfl (by kernel_rfl)

/- reservoir/reservoirbook.Within -/
def d18 : DFn := ⟨[(.c .one), (.c .one), (.c .one)], [(.c .one)], .pure, [.tmp 6],
(.seq (.reg false [
⟨some 6, none, [], .mov (.k (.it .i64 0))⟩] [])
(.seq (.reg false [
⟨some 7, none, [], .mov (.t 0)⟩,
⟨some 8, none, [], .mov (.t 2)⟩,
⟨some 9, none, [], .mov (.t 1)⟩,
⟨some 10, none, [], .bin .no .sub (.t 8) (.t 9)⟩,
⟨some 11, none, [], .bin .no .add (.t 10) (.k (.it .i64 1))⟩,
⟨some 12, none, [], .bin .no .rem (.t 7) (.t 11)⟩,
⟨some 0, none, [], .mov (.t 12)⟩] [])
(.seq (.seq (.reg false [
⟨some 13, none, [], .mov (.t 0)⟩,
⟨some 14, none, [], .bin .no .lss (.t 13) (.k (.it .i64 0))⟩] [])
(.cond (.t 14)
(.reg false [
⟨some 15, none, [], .mov (.t 0)⟩,
⟨some 16, none, [], .mov (.t 2)⟩,
⟨some 17, none, [], .bin .no .add (.t 15) (.t 16)⟩,
⟨some 18, none, [], .mov (.t 1)⟩,
⟨some 19, none, [], .bin .no .sub (.t 17) (.t 18)⟩,
⟨some 20, none, [], .bin .no .add (.t 19) (.k (.it .i64 1))⟩,
⟨some 0, none, [], .mov (.t 20)⟩] [])
.skip))
(.seq (.reg false [
⟨some 21, none, [], .mov (.t 1)⟩,
⟨some 22, none, [], .mov (.t 0)⟩,
⟨some 23, none, [], .bin .no .add (.t 21) (.t 22)⟩,
⟨some 6, none, [], .mov (.t 23)⟩] [])
.ret))))⟩
def c18 : Ev.Fn := d18.den
def p18 : Pol := { loc := [], md := .pure, mds := mds, heap := [], own := [], ord := [], clr := [], mask := [], fns := [] }
theorem r18 : FnOK Try.prog mds 18 c18 := .read (pol := p18) (d := d18) Try.func18 (by kernel_rfl) (by kernel_rfl) rfl rfl (by kernel_rfl)

/- reservoir/vary.Key -/
def d19 : DFn := ⟨[(.g [.one, .one, .one, .one, (.sl [.one, .one]), .one])], [(.c .one)], .pure, [.tmp 2],
(.seq (.reg false [
⟨some 1, none, [], .box (.t 0)⟩,
⟨some 2, none, [], .mov (.k (.st []))⟩] [])
(.seq (.reg false [
⟨some 3, none, [], .fad 1 (.t 1)⟩,
⟨some 4, none, [], .ld 1 false (.t 3)⟩,
⟨some 5, none, [], .bin .no .add (.t 4) (.k (.st [58, 47, 47]))⟩,
⟨some 6, none, [], .fad 2 (.t 1)⟩,
⟨some 7, none, [], .ld 1 false (.t 6)⟩,
⟨some 8, none, [], .bin .no .add (.t 5) (.t 7)⟩,
⟨some 9, none, [], .fad 3 (.t 1)⟩,
⟨some 10, none, [], .ld 1 false (.t 9)⟩,
⟨some 11, none, [], .bin .no .add (.t 8) (.t 10)⟩,
⟨some 2, none, [], .mov (.t 11)⟩] [3, 6, 9])
.ret))⟩
def c19 : Ev.Fn := d19.den
def p19 : Pol := { loc := [1], md := .pure, mds := mds, heap := [], own := [], ord := [(0, [1, 0])], clr := [(1, [3, 6, 9])], mask := [], fns := [] }
theorem r19 : FnOK Try.prog mds 19 c19 := .read (pol := p19) (d := d19) Try.func19 (by kernel_rfl) (by kernel_rfl) rfl rfl (by kernel_rfl)

/- (*reservoir/store.Store).Peek -/
def d20 : DFn := ⟨[(.c .one), (.g [.one, .one, .one, .one, (.sl [.one, .one]), .one])], [(.g [.one, .one, .one, .one, (.sl [.one, .one]), .one, .one, (.sl [.one, .one]), .one, .one, .one, .one]), (.c .one)], .rw, [.cell 4 12 true, .tmp 5],
(.seq (.reg false [
⟨some 3, none, [], .box (.t 1)⟩,
⟨some 4, none, [], .alc [(.st []), (.st []), (.st []), (.st []), .ns, (.it .i64 0), (.it .i64 0), .ns, (.it .i64 0), (.st []), (.it .i64 0), (.it .i64 0)]⟩,
⟨some 5, none, [], .mov (.k (.bo false))⟩] [])
(.seq (.reg false [
⟨some 7, none, [], .mov (.t 0)⟩,
⟨some 8, none, [], .ld 6 true (.t 3)⟩,
⟨some 9, none, [], .call false .ro 36 [(.t 7), (.t 8)]⟩,
⟨some 6, none, [], .mov (.t 9)⟩] [])
(.seq (.seq (.reg false [
⟨some 10, none, [], .mov (.t 6)⟩,
⟨some 11, none, [], .bin .no .lss (.t 10) (.k (.it .i64 0))⟩] [])
(.cond (.t 11)
(.seq (.reg false [
⟨some 12, none, [], .bld [(.st []), (.st []), (.st []), (.st []), .ns, (.it .i64 0), (.it .i64 0), .ns, (.it .i64 0), (.st []), (.it .i64 0), (.it .i64 0)] []⟩,
⟨none, none, [], .sto 12 (.t 4) (.t 12)⟩,
⟨some 5, none, [], .mov (.k (.bo false))⟩] [])
.ret)
.skip))
(.seq (.reg false [
⟨some 13, none, [], .mov (.t 0)⟩,
⟨some 14, none, [], .nck (.t 13)⟩,
⟨some 15, none, [], .fad 0 (.t 14)⟩,
⟨some 16, none, [], .ld 1 false (.t 15)⟩,
⟨some 17, none, [], .mov (.t 6)⟩,
⟨some 18, none, [], .ias 12 (.t 16) (.t 17)⟩,
⟨some 19, none, [], .ld 12 true (.t 18)⟩,
⟨some 20, none, [], .call false .pure 35 [(.t 19)]⟩,
⟨none, none, [], .sto 12 (.t 4) (.t 20)⟩,
⟨some 5, none, [], .mov (.k (.bo true))⟩] [])
.ret))))⟩
def c20 : Ev.Fn := d20.den
def p20 : Pol := { loc := [3, 4], md := .rw, mds := mds, heap := [], own := [], ord := [(0, [2, 0, 1])], clr := [], mask := [], fns := [] }
theorem r20 : FnOK Try.prog mds 20 c20 := .read (pol := p20) (d := d20) Try.func20 (by kernel_rfl) (by kernel_rfl) rfl rfl (by kernel_rfl)

/- (*reservoir/store.Store).Remove -/
def d21 : DFn := ⟨[(.c .one), (.c .one)], [(.c .one)], .rw, [.tmp 4],
(.seq (.reg false [
⟨some 4, none, [], .mov (.k (.it .i64 0))⟩] [])
(.seq (.reg false [
⟨some 7, none, [], .mov (.t 0)⟩,
⟨some 8, none, [], .nck (.t 7)⟩,
⟨some 9, none, [], .fad 0 (.t 8)⟩,
⟨some 10, none, [], .ld 1 false (.t 9)⟩,
⟨some 11, none, [], .len false (.t 10)⟩,
⟨some 5, none, [], .mov (.t 11)⟩] [])
(.seq (.seq (.reg false [
⟨some 12, none, [], .mov (.t 5)⟩,
⟨some 13, none, [], .bin .no .sub (.t 12) (.k (.it .i64 1))⟩,
⟨some 6, none, [], .mov (.t 13)⟩] [])
(.blk 0 (.loop [0, 1, 5, 6] []
(.seq (.seq (.reg false [
⟨some 14, none, [], .mov (.t 6)⟩,
⟨some 15, none, [], .bin .no .geq (.t 14) (.k (.it .i64 0))⟩] [])
(.cond (.t 15)
.skip
(.exit 0)))
(.seq (.blk 1 (.seq (.reg false [
⟨some 18, none, [], .mov (.t 0)⟩,
⟨some 19, none, [], .nck (.t 18)⟩,
⟨some 20, none, [], .fad 0 (.t 19)⟩,
⟨some 21, none, [], .ld 1 false (.t 20)⟩,
⟨some 22, none, [], .mov (.t 6)⟩,
⟨some 23, none, [], .ias 12 (.t 21) (.t 22)⟩,
⟨some 24, none, [], .fad 0 (.t 23)⟩,
⟨some 25, none, [], .ld 6 true (.t 24)⟩,
⟨some 26, none, [], .call false .pure 19 [(.t 25)]⟩,
⟨some 27, none, [], .mov (.t 1)⟩,
⟨some 28, none, [], .bin .no .eql (.t 26) (.t 27)⟩] [])
(.cond (.t 28)
(.reg false [
⟨some 29, none, [], .mov (.t 0)⟩,
⟨some 30, none, [], .mov (.t 6)⟩,
⟨some 31, none, [], .call false .rw 33 [(.t 29), (.t 30)]⟩] [])
.skip)))
(.reg false [
⟨some 16, none, [], .mov (.t 6)⟩,
⟨some 17, none, [], .bin .no .sub (.t 16) (.k (.it .i64 1))⟩,
⟨some 6, none, [], .mov (.t 17)⟩] []))))))
(.seq (.reg false [
⟨some 32, none, [], .mov (.t 5)⟩,
⟨some 33, none, [], .mov (.t 0)⟩,
⟨some 34, none, [], .nck (.t 33)⟩,
⟨some 35, none, [], .fad 0 (.t 34)⟩,
⟨some 36, none, [], .ld 1 false (.t 35)⟩,
⟨some 37, none, [], .len false (.t 36)⟩,
⟨some 38, none, [], .bin .no .sub (.t 32) (.t 37)⟩,
⟨some 4, none, [], .mov (.t 38)⟩] [])
.ret))))⟩
def c21 : Ev.Fn := d21.den
def p21 : Pol := { loc := [], md := .rw, mds := mds, heap := [], own := [], ord := [(5, [0, 1, 2, 3, 4, 5, 6, 7, 9, 8, 10])], clr := [], mask := [(3, [0, 1, 5, 6], [])], fns := [] }
theorem r21 : FnOK Try.prog mds 21 c21 := .read (pol := p21) (d := d21) Try.func21 (by kernel_rfl) (by kernel_rfl) rfl rfl (by kernel_rfl)

/- reservoir/reservoirlaw23.light -/
def d22 : DFn := ⟨[(.g [.one, .one, .one, .one, .one, (.sl [.one, .one]), .one, .one, (.sl [.one, .one]), .one, .one, .one, .one, .one, .one, .one, .one, (.sl [.one, .one]), .one, .one])], [(.c .one)], .pure, [.tmp 2],
(.seq (.reg false [
⟨some 1, none, [], .box (.t 0)⟩,
⟨some 2, none, [], .mov (.k (.bo false))⟩] [])
(.seq (.reg false [
⟨some 3, none, [], .fad 1 (.t 1)⟩,
⟨some 4, none, [], .ld 12 true (.t 3)⟩,
⟨some 5, none, [], .call false .pure 38 [(.t 4)]⟩,
⟨some 6, none, [], .mov (.t 5)⟩,
⟨some 7, some (6, true), [], .fad 13 (.t 1)⟩,
⟨some 8, some (6, true), [], .fad 4 (.t 7)⟩,
⟨some 9, some (6, true), [], .ld 1 false (.t 8)⟩,
⟨some 10, some (6, true), [], .call false .pure 39 [(.t 9)]⟩,
⟨some 11, none, [], .pick (.t 6) (.t 10) (.k (.bo false))⟩,
⟨some 12, none, [], .mov (.t 11)⟩,
⟨some 13, some (12, true), [], .fad 1 (.t 1)⟩,
⟨some 14, some (12, true), [], .fad 0 (.t 13)⟩,
⟨some 15, some (12, true), [], .fad 3 (.t 14)⟩,
⟨some 16, some (12, true), [], .ld 1 false (.t 15)⟩,
⟨some 17, some (12, true), [], .len true (.t 16)⟩,
⟨some 18, some (12, true), [], .bin .no .lss (.t 17) (.k (.it .i64 500))⟩,
⟨some 19, none, [], .pick (.t 12) (.t 18) (.k (.bo false))⟩,
⟨some 2, none, [], .mov (.t 19)⟩] [3, 7, 8, 13, 14, 15])
.ret))⟩
def c22 : Ev.Fn := d22.den
def p22 : Pol := { loc := [1], md := .pure, mds := mds, heap := [], own := [], ord := [(0, [1, 0])], clr := [(1, [3, 7, 8, 13, 14, 15])], mask := [], fns := [] }
theorem r22 : FnOK Try.prog mds 22 c22 := .read (pol := p22) (d := d22) Try.func22 (by kernel_rfl) (by kernel_rfl) rfl rfl (by kernel_rfl)

/- reservoir/reservoirkeep.Entries -/
def d26 : DFn := ⟨[(.g [.one, .one, .one, .one, (.sl [.one, .one]), .one, .one, (.sl [.one, .one]), .one, .one, .one, .one]), (.g [.one, .one, .one, .one, (.sl [.one, .one]), .one, .one, (.sl [.one, .one]), .one, .one, .one, .one])], [(.c .one)], .ro, [.tmp 4],
(.seq (.reg false [
⟨some 2, none, [], .box (.t 0)⟩,
⟨some 3, none, [], .box (.t 1)⟩,
⟨some 4, none, [], .mov (.k (.bo false))⟩] [])
(.seq (.reg false [
⟨some 5, none, [], .fad 0 (.t 2)⟩,
⟨some 6, none, [], .ld 6 true (.t 5)⟩,
⟨some 7, none, [], .fad 0 (.t 3)⟩,
⟨some 8, none, [], .ld 6 true (.t 7)⟩,
⟨some 9, none, [], .call false .ro 44 [(.t 6), (.t 8)]⟩,
⟨some 10, none, [], .mov (.t 9)⟩,
⟨some 11, some (10, true), [], .fad 6 (.t 2)⟩,
⟨some 12, some (10, true), [], .ld 3 true (.t 11)⟩,
⟨some 13, some (10, true), [], .fad 6 (.t 3)⟩,
⟨some 14, some (10, true), [], .ld 3 true (.t 13)⟩,
⟨some 15, some (10, true), [], .call false .ro 45 [(.t 12), (.t 14)]⟩,
⟨some 16, none, [], .pick (.t 10) (.t 15) (.k (.bo false))⟩,
⟨some 17, none, [], .mov (.t 16)⟩,
⟨some 18, some (17, true), [], .fad 9 (.t 2)⟩,
⟨some 19, some (17, true), [], .ld 1 false (.t 18)⟩,
⟨some 20, some (17, true), [], .fad 9 (.t 3)⟩,
⟨some 21, some (17, true), [], .ld 1 false (.t 20)⟩,
⟨some 22, some (17, true), [], .bin .no .eql (.t 19) (.t 21)⟩,
⟨some 23, none, [], .pick (.t 17) (.t 22) (.k (.bo false))⟩,
⟨some 24, none, [], .mov (.t 23)⟩,
⟨some 25, some (24, true), [], .fad 10 (.t 2)⟩,
⟨some 26, some (24, true), [], .ld 1 false (.t 25)⟩,
⟨some 27, some (24, true), [], .fad 10 (.t 3)⟩,
⟨some 28, some (24, true), [], .ld 1 false (.t 27)⟩,
⟨some 29, some (24, true), [], .bin .no .eql (.t 26) (.t 28)⟩,
⟨some 30, none, [], .pick (.t 24) (.t 29) (.k (.bo false))⟩,
⟨some 31, none, [], .mov (.t 30)⟩,
⟨some 32, some (31, true), [], .fad 11 (.t 2)⟩,
⟨some 33, some (31, true), [], .ld 1 false (.t 32)⟩,
⟨some 34, some (31, true), [], .fad 11 (.t 3)⟩,
⟨some 35, some (31, true), [], .ld 1 false (.t 34)⟩,
⟨some 36, some (31, true), [], .bin .no .eql (.t 33) (.t 35)⟩,
⟨some 37, none, [], .pick (.t 31) (.t 36) (.k (.bo false))⟩,
⟨some 4, none, [], .mov (.t 37)⟩] [5, 7, 11, 13, 18, 20, 25, 27, 32, 34])
.ret))⟩
def c26 : Ev.Fn := d26.den
def p26 : Pol := { loc := [2, 3], md := .ro, mds := mds, heap := [], own := [], ord := [(0, [2, 0, 1])], clr := [(1, [5, 7, 11, 13, 18, 20, 25, 27, 32, 34])], mask := [], fns := [] }
theorem r26 : FnOK Try.prog mds 26 c26 := .read (pol := p26) (d := d26) Try.func26 (by kernel_rfl) (by kernel_rfl) rfl rfl (by kernel_rfl)

/- reservoir/reservoirref14.Star -/
def d31 : DFn := ⟨[(.c (.sl [.one, .one]))], [(.c (.sl [.one])), (.c .one)], .pure, [.tmp 2, .tmp 3],
(.seq (.reg false [
⟨some 2, none, [], .mov (.k .ns)⟩,
⟨some 3, none, [], .mov (.k (.bo false))⟩] [])
(.seq (.reg false [
⟨some 11, none, [], .mov (.t 0)⟩,
⟨some 12, none, [], .call false .pure 46 [(.t 11), (.k (.st [118, 97, 114, 121]))]⟩,
⟨some 10, none, [], .mov (.t 12)⟩,
⟨some 13, none, [], .ext (.t 10) 0⟩,
⟨some 14, none, [], .ext (.t 10) 1⟩,
⟨some 4, none, [], .mov (.t 13)⟩,
⟨some 5, none, [], .mov (.t 14)⟩] [])
(.seq (.seq (.reg false [
⟨some 15, none, [], .mov (.t 5)⟩,
⟨some 16, none, [], .bin .no .eql (.t 15) (.k (.it .i64 0))⟩] [])
(.cond (.t 16)
(.seq (.reg false [
⟨some 2, none, [], .mov (.k .ns)⟩,
⟨some 3, none, [], .mov (.k (.bo false))⟩] [])
.ret)
.skip))
(.seq (.reg false [
⟨some 18, none, [], .mov (.t 4)⟩,
⟨some 19, none, [], .call false .pure 47 [(.t 18)]⟩,
⟨some 17, none, [], .mov (.t 19)⟩,
⟨some 20, none, [], .ext (.t 17) 0⟩,
⟨some 21, none, [], .ext (.t 17) 1⟩,
⟨some 6, none, [], .mov (.t 20)⟩,
⟨some 7, none, [], .mov (.t 21)⟩] [])
(.seq (.reg false [
⟨some 8, none, [], .mov (.k .ns)⟩] [])
(.seq (.seq (.reg false [
⟨some 9, none, [], .mov (.k (.it .i64 0))⟩] [])
(.blk 0 (.loop [6, 7, 8, 9] []
(.seq (.seq (.reg false [
⟨some 22, none, [], .mov (.t 9)⟩,
⟨some 23, none, [], .mov (.t 6)⟩,
⟨some 24, none, [], .len false (.t 23)⟩,
⟨some 25, none, [], .bin .no .lss (.t 22) (.t 24)⟩] [])
(.cond (.t 25)
.skip
(.exit 0)))
(.seq (.blk 1 (.seq (.seq (.reg false [
⟨some 28, none, [], .mov (.t 6)⟩,
⟨some 29, none, [], .mov (.t 9)⟩,
⟨some 30, none, [], .ias 1 (.t 28) (.t 29)⟩,
⟨some 31, none, [], .ld 1 false (.t 30)⟩,
⟨some 32, none, [], .bin .no .eql (.t 31) (.k (.st [42]))⟩,
⟨some 33, none, [], .mov (.t 32)⟩,
⟨some 34, some (33, false), [], .mov (.t 6)⟩,
⟨some 35, some (33, false), [], .mov (.t 9)⟩,
⟨some 36, some (33, false), [], .ias 1 (.t 34) (.t 35)⟩,
⟨some 37, some (33, false), [], .ld 1 false (.t 36)⟩,
⟨some 38, some (33, false), [], .call false .pure 48 [(.t 37)]⟩,
⟨some 39, some (33, false), [], .un .not (.t 38)⟩,
⟨some 40, none, [], .pick (.t 33) (.k (.bo true)) (.t 39)⟩] [])
(.cond (.t 40)
(.seq (.reg false [
⟨some 2, none, [], .mov (.k .ns)⟩,
⟨some 3, none, [], .mov (.k (.bo true))⟩] [])
.ret)
.skip))
(.reg false [
⟨some 41, none, [], .mov (.t 8)⟩,
⟨some 42, none, [], .mov (.t 6)⟩,
⟨some 43, none, [], .mov (.t 9)⟩,
⟨some 44, none, [], .ias 1 (.t 42) (.t 43)⟩,
⟨some 45, none, [], .ld 1 false (.t 44)⟩,
⟨some 46, none, [], .call false .pure 49 [(.t 45)]⟩,
⟨some 47, none, [], .bsv [.one] 1 [[(.st [])]] [(0, (.t 46))]⟩,
⟨some 48, none, [], .app 1 16 (.t 41) (.t 47)⟩,
⟨some 8, none, [], .mov (.t 48)⟩] [])))
(.reg false [
⟨some 26, none, [], .mov (.t 9)⟩,
⟨some 27, none, [], .bin .no .add (.t 26) (.k (.it .i64 1))⟩,
⟨some 9, none, [], .mov (.t 27)⟩] []))))))
(.seq (.reg false [
⟨some 49, none, [], .mov (.t 8)⟩,
⟨some 50, none, [], .mov (.t 7)⟩,
⟨some 51, none, [], .un .not (.t 50)⟩,
⟨some 2, none, [], .mov (.t 49)⟩,
⟨some 3, none, [], .mov (.t 51)⟩] [])
.ret)))))))⟩
def c31 : Ev.Fn := d31.den
def p31 : Pol := { loc := [], md := .pure, mds := mds, heap := [48], own := [48], ord := [], clr := [], mask := [(7, [6, 7, 8, 9], [])], fns := [] }
theorem r31 : FnOK Try.prog mds 31 c31 := .read (pol := p31) (d := d31) Try.func31 (by kernel_rfl) (by kernel_rfl) rfl rfl (by kernel_rfl)

/- reservoir/store.fits -/
def d32 : DFn := ⟨[(.g [.one, .one, .one, .one, (.sl [.one, .one]), .one, .one, (.sl [.one, .one]), .one, .one, .one, .one]), (.g [.one, .one, .one, .one, (.sl [.one, .one]), .one])], [(.c .one)], .pure, [.tmp 4],
(.seq (.reg false [
⟨some 2, none, [], .box (.t 0)⟩,
⟨some 3, none, [], .box (.t 1)⟩,
⟨some 4, none, [], .mov (.k (.bo false))⟩] [])
(.seq (.reg true [
⟨some 5, none, [], .fad 0 (.t 2)⟩,
⟨some 6, none, [], .ld 6 true (.t 5)⟩,
⟨some 8, none, [], .ld 6 true (.t 3)⟩,
⟨some 7, none, [], .call false .pure 19 [(.t 6)]⟩,
⟨some 9, none, [], .call false .pure 19 [(.t 8)]⟩,
⟨some 10, none, [], .bin .no .eql (.t 7) (.t 9)⟩,
⟨some 11, none, [], .mov (.t 10)⟩,
⟨some 12, some (11, true), [], .ld 12 true (.t 2)⟩,
⟨some 13, some (11, true), [], .ld 6 true (.t 3)⟩,
⟨some 14, some (11, true), [], .call false .pure 50 [(.t 12), (.t 13)]⟩,
⟨some 15, none, [], .pick (.t 11) (.t 14) (.k (.bo false))⟩,
⟨some 4, none, [], .mov (.t 15)⟩] [5])
.ret))⟩
def c32 : Ev.Fn := d32.den
def p32 : Pol := { loc := [2, 3], md := .pure, mds := mds, heap := [], own := [], ord := [(0, [2, 0, 1]), (1, [0, 1, 3, 2, 4, 5, 6, 7, 8, 9, 10, 11])], clr := [(1, [5])], mask := [], fns := [] }
theorem r32 : FnOK Try.prog mds 32 c32 := .read (pol := p32) (d := d32) Try.func32 (by kernel_rfl) (by kernel_rfl) rfl rfl (by kernel_rfl)

/- (*reservoir/store.Store).drop -/
def d33 : DFn := ⟨[(.c .one), (.c .one)], [(.g [.one, .one, .one, .one, (.sl [.one, .one]), .one, .one, (.sl [.one, .one]), .one, .one, .one, .one])], .rw, [.cell 4 12 true],
(.seq (.reg false [
⟨some 4, none, [], .alc [(.st []), (.st []), (.st []), (.st []), .ns, (.it .i64 0), (.it .i64 0), .ns, (.it .i64 0), (.st []), (.it .i64 0), (.it .i64 0)]⟩] [])
(.seq (.reg false [
⟨some 6, none, [], .mov (.t 0)⟩,
⟨some 7, none, [], .nck (.t 6)⟩,
⟨some 8, none, [], .fad 0 (.t 7)⟩,
⟨some 9, none, [], .ld 1 false (.t 8)⟩,
⟨some 10, none, [], .mov (.t 1)⟩,
⟨some 11, none, [], .ias 12 (.t 9) (.t 10)⟩,
⟨some 12, none, [], .ld 12 true (.t 11)⟩,
⟨some 5, none, [], .alc [(.st []), (.st []), (.st []), (.st []), .ns, (.it .i64 0), (.it .i64 0), .ns, (.it .i64 0), (.st []), (.it .i64 0), (.it .i64 0)]⟩,
⟨none, none, [], .sto 12 (.t 5) (.t 12)⟩] [])
(.seq (.reg true [
⟨some 13, none, [], .mov (.t 0)⟩,
⟨some 14, none, [], .nck (.t 13)⟩,
⟨some 15, none, [], .fad 1 (.t 14)⟩,
⟨some 16, none, [], .ld 1 false (.t 15)⟩,
⟨some 17, none, [], .ld 12 true (.t 5)⟩,
⟨some 18, none, [], .call false .pure 15 [(.t 17)]⟩,
⟨some 19, none, [], .bin .no .sub (.t 16) (.t 18)⟩,
⟨some 20, none, [], .nck (.t 13)⟩,
⟨some 21, none, [], .fad 1 (.t 20)⟩,
⟨none, none, [], .sto 1 (.t 21) (.t 19)⟩] [])
(.seq (.reg false [
⟨some 22, none, [], .mov (.t 0)⟩,
⟨some 23, none, [], .mov (.t 0)⟩,
⟨some 24, none, [], .nck (.t 23)⟩,
⟨some 25, none, [], .fad 0 (.t 24)⟩,
⟨some 26, none, [], .ld 1 false (.t 25)⟩,
⟨some 27, none, [], .mov (.t 1)⟩,
⟨some 28, none, [], .mov (.t 1)⟩,
⟨some 29, none, [], .bin .no .add (.t 28) (.k (.it .i64 1))⟩,
⟨some 30, none, [], .call true .rw 51 [(.t 26), (.t 27), (.t 29)]⟩,
⟨some 31, none, [], .nck (.t 22)⟩,
⟨some 32, none, [], .fad 0 (.t 31)⟩,
⟨none, none, [], .sto 1 (.t 32) (.t 30)⟩] [])
(.seq (.reg false [
⟨some 33, none, [], .ld 12 true (.t 5)⟩,
⟨none, none, [], .sto 12 (.t 4) (.t 33)⟩] [])
.ret)))))⟩
def c33 : Ev.Fn := d33.den
def p33 : Pol := { loc := [4, 5], md := .rw, mds := mds, heap := [30], own := [30], ord := [], clr := [], mask := [], fns := [] }
theorem r33 : FnOK Try.prog mds 33 c33 := .read (pol := p33) (d := d33) Try.func33 (by kernel_rfl) (by kernel_rfl) rfl rfl (by kernel_rfl)

/- (*reservoir/store.Store).put -/
def d34 : DFn := ⟨[(.c .one), (.g [.one, .one, .one, .one, (.sl [.one, .one]), .one, .one, (.sl [.one, .one]), .one, .one, .one, .one])], [], .rw, [],
(.seq (.reg false [
⟨some 3, none, [], .box (.t 1)⟩] [])
(.seq (.reg true [
⟨some 4, none, [], .mov (.t 0)⟩,
⟨some 5, none, [], .mov (.t 0)⟩,
⟨some 6, none, [], .nck (.t 5)⟩,
⟨some 7, none, [], .fad 0 (.t 6)⟩,
⟨some 8, none, [], .ld 1 false (.t 7)⟩,
⟨some 9, none, [], .ld 12 true (.t 3)⟩,
⟨some 10, none, [], .bsl 12 [[(.st []), (.st []), (.st []), (.st []), .ns, (.it .i64 0), (.it .i64 0), .ns, (.it .i64 0), (.st []), (.it .i64 0), (.it .i64 0)]] [(0, (.t 9))]⟩,
⟨some 11, none, [], .call true .rw 52 [(.t 8), (.k (.it .i64 0)), (.t 10)]⟩,
⟨some 12, none, [], .nck (.t 4)⟩,
⟨some 13, none, [], .fad 0 (.t 12)⟩,
⟨none, none, [], .sto 1 (.t 13) (.t 11)⟩] [])
(.reg true [
⟨some 14, none, [], .mov (.t 0)⟩,
⟨some 15, none, [], .nck (.t 14)⟩,
⟨some 16, none, [], .fad 1 (.t 15)⟩,
⟨some 17, none, [], .ld 1 false (.t 16)⟩,
⟨some 18, none, [], .ld 12 true (.t 3)⟩,
⟨some 19, none, [], .call false .pure 15 [(.t 18)]⟩,
⟨some 20, none, [], .bin .no .add (.t 17) (.t 19)⟩,
⟨some 21, none, [], .nck (.t 14)⟩,
⟨some 22, none, [], .fad 1 (.t 21)⟩,
⟨none, none, [], .sto 1 (.t 22) (.t 20)⟩] [])))⟩
def c34 : Ev.Fn := d34.den
def p34 : Pol := { loc := [3], md := .rw, mds := mds, heap := [11, 10], own := [11], ord := [], clr := [], mask := [], fns := [] }
theorem r34 : FnOK Try.prog mds 34 c34 := .read (pol := p34) (d := d34) Try.func34 (by kernel_rfl) (by kernel_rfl) rfl rfl (by kernel_rfl)

/- reservoir/store.copied -/
def d35 : DFn := ⟨[(.g [.one, .one, .one, .one, (.sl [.one, .one]), .one, .one, (.sl [.one, .one]), .one, .one, .one, .one])], [(.g [.one, .one, .one, .one, (.sl [.one, .one]), .one, .one, (.sl [.one, .one]), .one, .one, .one, .one])], .pure, [.cell 2 12 true],
(.seq (.reg false [
⟨some 1, none, [], .box (.t 0)⟩,
⟨some 2, none, [], .alc [(.st []), (.st []), (.st []), (.st []), .ns, (.it .i64 0), (.it .i64 0), .ns, (.it .i64 0), (.st []), (.it .i64 0), (.it .i64 0)]⟩] [])
(.seq (.reg false [
⟨some 3, none, [], .fad 0 (.t 1)⟩,
⟨some 4, none, [], .fad 4 (.t 3)⟩,
⟨some 5, none, [], .ld 1 false (.t 4)⟩,
⟨some 6, none, [], .app 2 32 (.k .ns) (.t 5)⟩,
⟨some 7, none, [], .fad 0 (.t 1)⟩,
⟨some 8, none, [], .fad 4 (.t 7)⟩,
⟨none, none, [], .sto 1 (.t 8) (.t 6)⟩] [3, 4, 7, 8])
(.seq (.reg false [
⟨some 9, none, [], .fad 6 (.t 1)⟩,
⟨some 10, none, [], .fad 1 (.t 9)⟩,
⟨some 11, none, [], .ld 1 false (.t 10)⟩,
⟨some 12, none, [], .app 2 32 (.k .ns) (.t 11)⟩,
⟨some 13, none, [], .fad 6 (.t 1)⟩,
⟨some 14, none, [], .fad 1 (.t 13)⟩,
⟨none, none, [], .sto 1 (.t 14) (.t 12)⟩] [9, 10, 13, 14])
(.seq (.reg false [
⟨some 15, none, [], .ld 12 true (.t 1)⟩,
⟨none, none, [], .sto 12 (.t 2) (.t 15)⟩] [])
.ret))))⟩
def c35 : Ev.Fn := d35.den
def p35 : Pol := { loc := [1, 2], md := .pure, mds := mds, heap := [], own := [], ord := [], clr := [(1, [3, 4, 7, 8]), (2, [9, 10, 13, 14])], mask := [], fns := [] }
theorem r35 : FnOK Try.prog mds 35 c35 := .read (pol := p35) (d := d35) Try.func35 (by kernel_rfl) (by kernel_rfl) rfl rfl (by kernel_rfl)

/- (*reservoir/store.Store).find -/
def d36 : DFn := ⟨[(.c .one), (.g [.one, .one, .one, .one, (.sl [.one, .one]), .one])], [(.c .one)], .ro, [.tmp 4],
(.seq (.reg false [
⟨some 3, none, [], .bxh (.t 1)⟩,
⟨some 4, none, [], .mov (.k (.it .i64 0))⟩] [])
(.seq (.reg false [
⟨some 5, none, [], .mov (.t 0)⟩,
⟨some 6, none, [], .nck (.t 5)⟩,
⟨some 7, none, [], .fad 0 (.t 6)⟩,
⟨some 8, none, [], .ld 1 false (.t 7)⟩,
⟨some 9, none, [], .mkf 54 [] [(.t 3)]⟩,
⟨some 10, none, [], .call false .rw 53 [(.t 8), (.t 9)]⟩,
⟨some 4, none, [], .mov (.t 10)⟩] [])
.ret))⟩
def c36 : Ev.Fn := d36.den
def p36 : Pol := { loc := [], md := .ro, mds := mds, heap := [], own := [], ord := [(0, [1, 0])], clr := [], mask := [], fns := [54] }
theorem r36 : FnOK Try.prog mds 36 c36 := .read (pol := p36) (d := d36) Try.func36 (by kernel_rfl) (by kernel_rfl) rfl rfl (by kernel_rfl)

/- reservoir/store.bytes -/
def d37 : DFn := ⟨[(.c (.sl [.one, .one]))], [(.c .one)], .pure, [.tmp 2],
(.seq (.reg false [
⟨some 2, none, [], .mov (.k (.it .i64 0))⟩] [])
(.seq (.reg false [
⟨some 3, none, [], .mov (.k (.it .i64 0))⟩] [])
(.seq (.seq (.reg false [
⟨some 6, none, [], .mov (.t 0)⟩,
⟨some 7, none, [], .len false (.t 6)⟩,
⟨some 8, none, [], .mov (.k (.it .i64 0))⟩] [])
(.blk 0 (.loop [3, 6, 7, 8] [5]
(.seq (.reg false [
⟨some 9, none, [], .bin .no .lss (.t 8) (.t 7)⟩] [])
(.seq (.cond (.t 9)
.skip
(.exit 0))
(.seq (.blk 1 (.seq (.reg false [
⟨some 10, none, [], .ias 2 (.t 6) (.t 8)⟩,
⟨some 11, none, [], .ld 2 true (.t 10)⟩,
⟨some 5, none, [], .alc [(.st []), (.st [])]⟩,
⟨none, none, [], .sto 2 (.t 5) (.t 11)⟩] [])
(.reg false [
⟨some 12, none, [], .mov (.t 3)⟩,
⟨some 13, none, [], .fad 0 (.t 5)⟩,
⟨some 14, none, [], .ld 1 false (.t 13)⟩,
⟨some 15, none, [], .len true (.t 14)⟩,
⟨some 16, none, [], .fad 1 (.t 5)⟩,
⟨some 17, none, [], .ld 1 false (.t 16)⟩,
⟨some 18, none, [], .len true (.t 17)⟩,
⟨some 19, none, [], .bin .no .add (.t 15) (.t 18)⟩,
⟨some 20, none, [], .bin .no .add (.t 12) (.t 19)⟩,
⟨some 3, none, [], .mov (.t 20)⟩] [13, 16])))
(.reg false [
⟨some 21, none, [], .bin .no .add (.t 8) (.k (.it .i64 1))⟩,
⟨some 8, none, [], .mov (.t 21)⟩] [])))))))
(.seq (.reg false [
⟨some 22, none, [], .mov (.t 3)⟩,
⟨some 2, none, [], .mov (.t 22)⟩] [])
.ret))))⟩
def c37 : Ev.Fn := d37.den
def p37 : Pol := { loc := [5], md := .pure, mds := mds, heap := [], own := [], ord := [], clr := [(5, [13, 16])], mask := [(3, [3, 6, 7, 8], [5])], fns := [] }
theorem r37 : FnOK Try.prog mds 37 c37 := .read (pol := p37) (d := d37) Try.func37 (by kernel_rfl) (by kernel_rfl) rfl rfl (by kernel_rfl)

/- reservoir/reservoirkeep.Small -/
def d38 : DFn := ⟨[(.g [.one, .one, .one, .one, (.sl [.one, .one]), .one, .one, (.sl [.one, .one]), .one, .one, .one, .one])], [(.c .one)], .pure, [.tmp 2],
(.seq (.reg false [
⟨some 1, none, [], .box (.t 0)⟩,
⟨some 2, none, [], .mov (.k (.bo false))⟩] [])
(.seq (.reg false [
⟨some 3, none, [], .fad 0 (.t 1)⟩,
⟨some 4, none, [], .fad 4 (.t 3)⟩,
⟨some 5, none, [], .ld 1 false (.t 4)⟩,
⟨some 6, none, [], .call false .pure 39 [(.t 5)]⟩,
⟨some 7, none, [], .mov (.t 6)⟩,
⟨some 8, some (7, true), [], .fad 6 (.t 1)⟩,
⟨some 9, some (7, true), [], .fad 1 (.t 8)⟩,
⟨some 10, some (7, true), [], .ld 1 false (.t 9)⟩,
⟨some 11, some (7, true), [], .call false .pure 39 [(.t 10)]⟩,
⟨some 12, none, [], .pick (.t 7) (.t 11) (.k (.bo false))⟩,
⟨some 13, none, [], .mov (.t 12)⟩,
⟨some 14, some (13, true), [], .fad 9 (.t 1)⟩,
⟨some 15, some (13, true), [], .ld 1 false (.t 14)⟩,
⟨some 16, some (13, true), [], .len true (.t 15)⟩,
⟨some 17, some (13, true), [], .bin .no .leq (.t 16) (.k (.it .i64 2000))⟩,
⟨some 18, none, [], .pick (.t 13) (.t 17) (.k (.bo false))⟩,
⟨some 2, none, [], .mov (.t 18)⟩] [3, 4, 8, 9, 14])
.ret))⟩
def c38 : Ev.Fn := d38.den
def p38 : Pol := { loc := [1], md := .pure, mds := mds, heap := [], own := [], ord := [(0, [1, 0])], clr := [(1, [3, 4, 8, 9, 14])], mask := [], fns := [] }
theorem r38 : FnOK Try.prog mds 38 c38 := .read (pol := p38) (d := d38) Try.func38 (by kernel_rfl) (by kernel_rfl) rfl rfl (by kernel_rfl)

/- reservoir/reservoirkeep.Light -/
def d39 : DFn := ⟨[(.c (.sl [.one, .one]))], [(.c .one)], .pure, [.tmp 2],
(.seq (.reg false [
⟨some 2, none, [], .mov (.k (.bo false))⟩] [])
(.seq (.reg false [
⟨some 3, none, [], .mov (.k (.it .i64 0))⟩] [])
(.seq (.seq (.reg false [
⟨some 4, none, [], .mov (.k (.it .i64 0))⟩] [])
(.blk 0 (.loop [0, 3, 4] []
(.seq (.seq (.reg false [
⟨some 5, none, [], .mov (.t 4)⟩,
⟨some 6, none, [], .mov (.t 0)⟩,
⟨some 7, none, [], .len false (.t 6)⟩,
⟨some 8, none, [], .bin .no .lss (.t 5) (.t 7)⟩] [])
(.cond (.t 8)
.skip
(.exit 0)))
(.seq (.blk 1 (.seq (.reg true [
⟨some 11, none, [], .mov (.t 3)⟩,
⟨some 12, none, [], .mov (.t 0)⟩,
⟨some 13, none, [], .mov (.t 4)⟩,
⟨some 14, none, [], .ias 2 (.t 12) (.t 13)⟩,
⟨some 15, none, [], .fad 0 (.t 14)⟩,
⟨some 16, none, [], .ld 1 false (.t 15)⟩,
⟨some 17, none, [], .len true (.t 16)⟩,
⟨some 18, none, [], .bin .no .add (.t 11) (.t 17)⟩,
⟨some 19, none, [], .mov (.t 0)⟩,
⟨some 20, none, [], .mov (.t 4)⟩,
⟨some 21, none, [], .ias 2 (.t 19) (.t 20)⟩,
⟨some 22, none, [], .fad 1 (.t 21)⟩,
⟨some 23, none, [], .ld 1 false (.t 22)⟩,
⟨some 24, none, [], .len true (.t 23)⟩,
⟨some 25, none, [], .bin .no .add (.t 18) (.t 24)⟩,
⟨some 26, none, [], .bin .no .add (.t 25) (.k (.it .i64 1))⟩,
⟨some 3, none, [], .mov (.t 26)⟩] [])
(.seq (.reg false [
⟨some 27, none, [], .mov (.t 3)⟩,
⟨some 28, none, [], .bin .no .gtr (.t 27) (.k (.it .i64 2000))⟩] [])
(.cond (.t 28)
(.seq (.reg false [
⟨some 2, none, [], .mov (.k (.bo false))⟩] [])
.ret)
.skip))))
(.reg false [
⟨some 9, none, [], .mov (.t 4)⟩,
⟨some 10, none, [], .bin .no .add (.t 9) (.k (.it .i64 1))⟩,
⟨some 4, none, [], .mov (.t 10)⟩] []))))))
(.seq (.reg false [
⟨some 2, none, [], .mov (.k (.bo true))⟩] [])
.ret))))⟩
def c39 : Ev.Fn := d39.den
def p39 : Pol := { loc := [], md := .pure, mds := mds, heap := [], own := [], ord := [], clr := [], mask := [(3, [0, 3, 4], [])], fns := [] }
theorem r39 : FnOK Try.prog mds 39 c39 := .read (pol := p39) (d := d39) Try.func39 (by kernel_rfl) (by kernel_rfl) rfl rfl (by kernel_rfl)

/- reservoir/reservoirkeep.Requests -/
def d44 : DFn := ⟨[(.g [.one, .one, .one, .one, (.sl [.one, .one]), .one]), (.g [.one, .one, .one, .one, (.sl [.one, .one]), .one])], [(.c .one)], .ro, [.tmp 4],
(.seq (.reg false [
⟨some 2, none, [], .box (.t 0)⟩,
⟨some 3, none, [], .box (.t 1)⟩,
⟨some 4, none, [], .mov (.k (.bo false))⟩] [])
(.seq (.reg false [
⟨some 5, none, [], .fad 0 (.t 2)⟩,
⟨some 6, none, [], .ld 1 false (.t 5)⟩,
⟨some 7, none, [], .fad 0 (.t 3)⟩,
⟨some 8, none, [], .ld 1 false (.t 7)⟩,
⟨some 9, none, [], .bin .no .eql (.t 6) (.t 8)⟩,
⟨some 10, none, [], .mov (.t 9)⟩,
⟨some 11, some (10, true), [], .fad 1 (.t 2)⟩,
⟨some 12, some (10, true), [], .ld 1 false (.t 11)⟩,
⟨some 13, some (10, true), [], .fad 1 (.t 3)⟩,
⟨some 14, some (10, true), [], .ld 1 false (.t 13)⟩,
⟨some 15, some (10, true), [], .bin .no .eql (.t 12) (.t 14)⟩,
⟨some 16, none, [], .pick (.t 10) (.t 15) (.k (.bo false))⟩,
⟨some 17, none, [], .mov (.t 16)⟩,
⟨some 18, some (17, true), [], .fad 2 (.t 2)⟩,
⟨some 19, some (17, true), [], .ld 1 false (.t 18)⟩,
⟨some 20, some (17, true), [], .fad 2 (.t 3)⟩,
⟨some 21, some (17, true), [], .ld 1 false (.t 20)⟩,
⟨some 22, some (17, true), [], .bin .no .eql (.t 19) (.t 21)⟩,
⟨some 23, none, [], .pick (.t 17) (.t 22) (.k (.bo false))⟩,
⟨some 24, none, [], .mov (.t 23)⟩,
⟨some 25, some (24, true), [], .fad 3 (.t 2)⟩,
⟨some 26, some (24, true), [], .ld 1 false (.t 25)⟩,
⟨some 27, some (24, true), [], .fad 3 (.t 3)⟩,
⟨some 28, some (24, true), [], .ld 1 false (.t 27)⟩,
⟨some 29, some (24, true), [], .bin .no .eql (.t 26) (.t 28)⟩,
⟨some 30, none, [], .pick (.t 24) (.t 29) (.k (.bo false))⟩,
⟨some 31, none, [], .mov (.t 30)⟩,
⟨some 32, some (31, true), [], .fad 4 (.t 2)⟩,
⟨some 33, some (31, true), [], .ld 1 false (.t 32)⟩,
⟨some 34, some (31, true), [], .fad 4 (.t 3)⟩,
⟨some 35, some (31, true), [], .ld 1 false (.t 34)⟩,
⟨some 36, some (31, true), [], .call false .ro 56 [(.t 33), (.t 35)]⟩,
⟨some 37, none, [], .pick (.t 31) (.t 36) (.k (.bo false))⟩,
⟨some 38, none, [], .mov (.t 37)⟩,
⟨some 39, some (38, true), [], .fad 5 (.t 2)⟩,
⟨some 40, some (38, true), [], .ld 1 false (.t 39)⟩,
⟨some 41, some (38, true), [], .fad 5 (.t 3)⟩,
⟨some 42, some (38, true), [], .ld 1 false (.t 41)⟩,
⟨some 43, some (38, true), [], .bin .no .eql (.t 40) (.t 42)⟩,
⟨some 44, none, [], .pick (.t 38) (.t 43) (.k (.bo false))⟩,
⟨some 4, none, [], .mov (.t 44)⟩] [5, 7, 11, 13, 18, 20, 25, 27, 32, 34, 39, 41])
.ret))⟩
def c44 : Ev.Fn := d44.den
def p44 : Pol := { loc := [2, 3], md := .ro, mds := mds, heap := [], own := [], ord := [(0, [2, 0, 1])], clr := [(1, [5, 7, 11, 13, 18, 20, 25, 27, 32, 34, 39, 41])], mask := [], fns := [] }
theorem r44 : FnOK Try.prog mds 44 c44 := .read (pol := p44) (d := d44) Try.func44 (by kernel_rfl) (by kernel_rfl) rfl rfl (by kernel_rfl)

/- reservoir/reservoirkeep.Responses -/
def d45 : DFn := ⟨[(.g [.one, (.sl [.one, .one]), .one]), (.g [.one, (.sl [.one, .one]), .one])], [(.c .one)], .ro, [.tmp 4],
(.seq (.reg false [
⟨some 2, none, [], .box (.t 0)⟩,
⟨some 3, none, [], .box (.t 1)⟩,
⟨some 4, none, [], .mov (.k (.bo false))⟩] [])
(.seq (.reg false [
⟨some 5, none, [], .fad 0 (.t 2)⟩,
⟨some 6, none, [], .ld 1 false (.t 5)⟩,
⟨some 7, none, [], .fad 0 (.t 3)⟩,
⟨some 8, none, [], .ld 1 false (.t 7)⟩,
⟨some 9, none, [], .bin .no .eql (.t 6) (.t 8)⟩,
⟨some 10, none, [], .mov (.t 9)⟩,
⟨some 11, some (10, true), [], .fad 1 (.t 2)⟩,
⟨some 12, some (10, true), [], .ld 1 false (.t 11)⟩,
⟨some 13, some (10, true), [], .fad 1 (.t 3)⟩,
⟨some 14, some (10, true), [], .ld 1 false (.t 13)⟩,
⟨some 15, some (10, true), [], .call false .ro 56 [(.t 12), (.t 14)]⟩,
⟨some 16, none, [], .pick (.t 10) (.t 15) (.k (.bo false))⟩,
⟨some 17, none, [], .mov (.t 16)⟩,
⟨some 18, some (17, true), [], .fad 2 (.t 2)⟩,
⟨some 19, some (17, true), [], .ld 1 false (.t 18)⟩,
⟨some 20, some (17, true), [], .fad 2 (.t 3)⟩,
⟨some 21, some (17, true), [], .ld 1 false (.t 20)⟩,
⟨some 22, some (17, true), [], .bin .no .eql (.t 19) (.t 21)⟩,
⟨some 23, none, [], .pick (.t 17) (.t 22) (.k (.bo false))⟩,
⟨some 4, none, [], .mov (.t 23)⟩] [5, 7, 11, 13, 18, 20])
.ret))⟩
def c45 : Ev.Fn := d45.den
def p45 : Pol := { loc := [2, 3], md := .ro, mds := mds, heap := [], own := [], ord := [(0, [2, 0, 1])], clr := [(1, [5, 7, 11, 13, 18, 20])], mask := [], fns := [] }
theorem r45 : FnOK Try.prog mds 45 c45 := .read (pol := p45) (d := d45) Try.func45 (by kernel_rfl) (by kernel_rfl) rfl rfl (by kernel_rfl)

/- reservoir/reservoirref14.All -/
def d46 : DFn := ⟨[(.c (.sl [.one, .one])), (.c .one)], [(.c .one), (.c .one)], .pure, [.tmp 4, .tmp 5],
(.seq (.reg false [
⟨some 4, none, [], .mov (.k (.st []))⟩,
⟨some 5, none, [], .mov (.k (.it .i64 0))⟩] [])
(.seq (.reg false [
⟨some 6, none, [], .mov (.k (.st []))⟩,
⟨some 7, none, [], .mov (.k (.it .i64 0))⟩] [])
(.seq (.seq (.reg false [
⟨some 8, none, [], .mov (.k (.it .i64 0))⟩] [])
(.blk 0 (.loop [0, 1, 6, 7, 8] []
(.seq (.seq (.reg false [
⟨some 9, none, [], .mov (.t 8)⟩,
⟨some 10, none, [], .mov (.t 0)⟩,
⟨some 11, none, [], .len false (.t 10)⟩,
⟨some 12, none, [], .bin .no .lss (.t 9) (.t 11)⟩] [])
(.cond (.t 12)
.skip
(.exit 0)))
(.seq (.blk 1 (.seq (.seq (.reg false [
⟨some 15, none, [], .mov (.t 0)⟩,
⟨some 16, none, [], .mov (.t 8)⟩,
⟨some 17, none, [], .ias 2 (.t 15) (.t 16)⟩,
⟨some 18, none, [], .fad 0 (.t 17)⟩,
⟨some 19, none, [], .ld 1 false (.t 18)⟩,
⟨some 20, none, [], .mov (.t 1)⟩,
⟨some 21, none, [], .bin .no .neq (.t 19) (.t 20)⟩] [])
(.cond (.t 21)
(.exit 1)
.skip))
(.seq (.seq (.reg false [
⟨some 22, none, [], .mov (.t 7)⟩,
⟨some 23, none, [], .bin .no .gtr (.t 22) (.k (.it .i64 0))⟩] [])
(.cond (.t 23)
(.reg false [
⟨some 24, none, [], .mov (.t 6)⟩,
⟨some 25, none, [], .bin .no .add (.t 24) (.k (.st [44, 32]))⟩,
⟨some 6, none, [], .mov (.t 25)⟩] [])
.skip))
(.seq (.reg false [
⟨some 26, none, [], .mov (.t 6)⟩,
⟨some 27, none, [], .mov (.t 0)⟩,
⟨some 28, none, [], .mov (.t 8)⟩,
⟨some 29, none, [], .ias 2 (.t 27) (.t 28)⟩,
⟨some 30, none, [], .fad 1 (.t 29)⟩,
⟨some 31, none, [], .ld 1 false (.t 30)⟩,
⟨some 32, none, [], .bin .no .add (.t 26) (.t 31)⟩,
⟨some 6, none, [], .mov (.t 32)⟩] [])
(.reg false [
⟨some 33, none, [], .mov (.t 7)⟩,
⟨some 34, none, [], .bin .no .add (.t 33) (.k (.it .i64 1))⟩,
⟨some 7, none, [], .mov (.t 34)⟩] [])))))
(.reg false [
⟨some 13, none, [], .mov (.t 8)⟩,
⟨some 14, none, [], .bin .no .add (.t 13) (.k (.it .i64 1))⟩,
⟨some 8, none, [], .mov (.t 14)⟩] []))))))
(.seq (.reg false [
⟨some 35, none, [], .mov (.t 6)⟩,
⟨some 36, none, [], .mov (.t 7)⟩,
⟨some 4, none, [], .mov (.t 35)⟩,
⟨some 5, none, [], .mov (.t 36)⟩] [])
.ret))))⟩
def c46 : Ev.Fn := d46.den
def p46 : Pol := { loc := [], md := .pure, mds := mds, heap := [], own := [], ord := [], clr := [], mask := [(3, [0, 1, 6, 7, 8], [])], fns := [] }
theorem r46 : FnOK Try.prog mds 46 c46 := .read (pol := p46) (d := d46) Try.func46 (by kernel_rfl) (by kernel_rfl) rfl rfl (by kernel_rfl)

/- reservoir/reservoirref14.Split -/
def d47 : DFn := ⟨[(.c .one)], [(.c (.sl [.one])), (.c .one)], .pure, [.tmp 2, .tmp 3],
(.seq (.reg false [
⟨some 2, none, [], .mov (.k .ns)⟩,
⟨some 3, none, [], .mov (.k (.bo false))⟩] [])
(.seq (.reg false [
⟨some 4, none, [], .mov (.k .ns)⟩] [])
(.seq (.reg false [
⟨some 5, none, [], .mov (.k (.it .i64 0))⟩] [])
(.seq (.reg false [
⟨some 6, none, [], .mov (.k (.bo false))⟩] [])
(.seq (.seq (.reg false [
⟨some 7, none, [], .mov (.k (.it .i64 0))⟩] [])
(.blk 0 (.loop [0, 4, 5, 6, 7] []
(.seq (.seq (.reg false [
⟨some 9, none, [], .mov (.t 7)⟩,
⟨some 10, none, [], .mov (.t 0)⟩,
⟨some 11, none, [], .len true (.t 10)⟩,
⟨some 12, none, [], .bin .no .leq (.t 9) (.t 11)⟩] [])
(.cond (.t 12)
.skip
(.exit 0)))
(.seq (.blk 1 (.seq (.seq (.reg false [
⟨some 15, none, [], .mov (.t 7)⟩,
⟨some 16, none, [], .mov (.t 0)⟩,
⟨some 17, none, [], .len true (.t 16)⟩,
⟨some 18, none, [], .bin .no .lss (.t 15) (.t 17)⟩,
⟨some 19, none, [], .mov (.t 18)⟩,
⟨some 20, some (19, true), [], .mov (.t 6)⟩,
⟨some 21, none, [], .pick (.t 19) (.t 20) (.k (.bo false))⟩] [])
(.cond (.t 21)
(.seq (.seq (.reg false [
⟨some 22, none, [], .mov (.t 0)⟩,
⟨some 23, none, [], .mov (.t 7)⟩,
⟨some 24, none, [], .ixs (.t 22) (.t 23)⟩,
⟨some 25, none, [], .bin .no .eql (.t 24) (.k (.it .u8 92))⟩] [])
(.cond (.t 25)
(.seq (.reg false [
⟨some 26, none, [], .mov (.t 7)⟩,
⟨some 27, none, [], .bin .no .add (.t 26) (.k (.it .i64 1))⟩,
⟨some 7, none, [], .mov (.t 27)⟩] [])
(.seq (.reg false [
⟨some 28, none, [], .mov (.t 7)⟩,
⟨some 29, none, [], .mov (.t 0)⟩,
⟨some 30, none, [], .len true (.t 29)⟩,
⟨some 31, none, [], .bin .no .geq (.t 28) (.t 30)⟩] [])
(.cond (.t 31)
(.seq (.reg false [
⟨some 2, none, [], .mov (.k .ns)⟩,
⟨some 3, none, [], .mov (.k (.bo false))⟩] [])
.ret)
.skip)))
(.seq (.reg false [
⟨some 32, none, [], .mov (.t 0)⟩,
⟨some 33, none, [], .mov (.t 7)⟩,
⟨some 34, none, [], .ixs (.t 32) (.t 33)⟩,
⟨some 35, none, [], .bin .no .eql (.t 34) (.k (.it .u8 34))⟩] [])
(.cond (.t 35)
(.reg false [
⟨some 6, none, [], .mov (.k (.bo false))⟩] [])
.skip))))
(.exit 1))
.skip))
(.seq (.reg false [
⟨some 36, none, [], .mov (.t 7)⟩,
⟨some 37, none, [], .mov (.t 0)⟩,
⟨some 38, none, [], .len true (.t 37)⟩,
⟨some 39, none, [], .bin .no .eql (.t 36) (.t 38)⟩,
⟨some 40, none, [], .mov (.t 39)⟩,
⟨some 41, some (40, false), [], .mov (.t 0)⟩,
⟨some 42, some (40, false), [], .mov (.t 7)⟩,
⟨some 43, some (40, false), [], .ixs (.t 41) (.t 42)⟩,
⟨some 44, some (40, false), [], .bin .no .eql (.t 43) (.k (.it .u8 44))⟩,
⟨some 45, none, [], .pick (.t 40) (.k (.bo true)) (.t 44)⟩] [])
(.cond (.t 45)
(.seq (.seq (.reg false [
⟨some 46, none, [], .mov (.t 0)⟩,
⟨some 47, none, [], .mov (.t 5)⟩,
⟨some 48, none, [], .mov (.t 7)⟩,
⟨some 49, none, [], .slc true 0 (.t 46) (some (.t 47)) (some (.t 48))⟩,
⟨some 50, none, [], .call false .pure 55 [(.t 49)]⟩,
⟨some 8, none, [], .mov (.t 50)⟩] [])
(.seq (.reg false [
⟨some 51, none, [], .mov (.t 8)⟩,
⟨some 52, none, [], .bin .no .neq (.t 51) (.k (.st []))⟩] [])
(.cond (.t 52)
(.reg false [
⟨some 53, none, [], .mov (.t 4)⟩,
⟨some 54, none, [], .mov (.t 8)⟩,
⟨some 55, none, [], .bsv [.one] 1 [[(.st [])]] [(0, (.t 54))]⟩,
⟨some 56, none, [], .app 1 16 (.t 53) (.t 55)⟩,
⟨some 4, none, [], .mov (.t 56)⟩] [])
.skip)))
(.reg false [
⟨some 57, none, [], .mov (.t 7)⟩,
⟨some 58, none, [], .bin .no .add (.t 57) (.k (.it .i64 1))⟩,
⟨some 5, none, [], .mov (.t 58)⟩] []))
(.seq (.reg false [
⟨some 59, none, [], .mov (.t 0)⟩,
⟨some 60, none, [], .mov (.t 7)⟩,
⟨some 61, none, [], .ixs (.t 59) (.t 60)⟩,
⟨some 62, none, [], .bin .no .eql (.t 61) (.k (.it .u8 34))⟩] [])
(.cond (.t 62)
(.reg false [
⟨some 6, none, [], .mov (.k (.bo true))⟩] [])
.skip))))))
(.reg false [
⟨some 13, none, [], .mov (.t 7)⟩,
⟨some 14, none, [], .bin .no .add (.t 13) (.k (.it .i64 1))⟩,
⟨some 7, none, [], .mov (.t 14)⟩] []))))))
(.seq (.seq (.reg false [
⟨some 63, none, [], .mov (.t 6)⟩] [])
(.cond (.t 63)
(.seq (.reg false [
⟨some 2, none, [], .mov (.k .ns)⟩,
⟨some 3, none, [], .mov (.k (.bo false))⟩] [])
.ret)
.skip))
(.seq (.reg false [
⟨some 64, none, [], .mov (.t 4)⟩,
⟨some 2, none, [], .mov (.t 64)⟩,
⟨some 3, none, [], .mov (.k (.bo true))⟩] [])
.ret)))))))⟩
def c47 : Ev.Fn := d47.den
def p47 : Pol := { loc := [], md := .pure, mds := mds, heap := [56], own := [56], ord := [], clr := [], mask := [(5, [0, 4, 5, 6, 7], [])], fns := [] }
theorem r47 : FnOK Try.prog mds 47 c47 := .read (pol := p47) (d := d47) Try.func47 (by kernel_rfl) (by kernel_rfl) rfl rfl (by kernel_rfl)

end Go.Proofs.Ytddohjlkjakdlaa.tab
