import Derived.Test.YtcbiplmgaiipgaaTab
import Derived.KernelRfl
/- the functions of the seat, read off the program -/
namespace Go.Proofs.Ytcbiplmgaiipgaa.tab
open Go hiding Fn
open Ev

/- reservoir/reservoirref14.Merge -/
def d55 : DFn := ⟨[(.g [.one, .one, .one, .one, (.sl [.one, .one]), .one, .one, (.sl [.one, .one]), .one, .one, .one, .one]), (.g [.one, (.sl [.one, .one]), .one]), (.c .one), (.c .one)], [(.g [.one, .one, .one, .one, (.sl [.one, .one]), .one, .one, (.sl [.one, .one]), .one, .one, .one, .one])], .pure, [.cell 8 12 true],
(.seq (.reg false [
⟨some 4, none, [], .box (.t 0)⟩,
⟨some 5, none, [], .box (.t 1)⟩,
⟨some 8, none, [], .alc [(.st []), (.st []), (.st []), (.st []), .ns, (.it .i64 0), (.it .i64 0), .ns, (.it .i64 0), (.st []), (.it .i64 0), (.it .i64 0)]⟩] [])
(.seq (.reg false [
⟨some 9, none, [], .mov (.k .ns)⟩] [])
(.seq (.seq (.reg false [
⟨some 10, none, [], .mov (.k (.it .i64 0))⟩] [])
(.blk 0 (.loop [2, 3, 4, 5, 8, 9, 10] [11]
(.seq (.seq (.reg false [
⟨some 15, none, [], .mov (.t 10)⟩,
⟨some 16, none, [], .fad 6 (.t 4)⟩,
⟨some 17, none, [], .fad 1 (.t 16)⟩,
⟨some 18, none, [], .ld 1 false (.t 17)⟩,
⟨some 19, none, [], .len false (.t 18)⟩,
⟨some 20, none, [], .bin .no .lss (.t 15) (.t 19)⟩] [16, 17])
(.cond (.t 20)
.skip
(.exit 0)))
(.seq (.blk 1 (.seq (.reg false [
⟨some 23, none, [], .fad 6 (.t 4)⟩,
⟨some 24, none, [], .fad 1 (.t 23)⟩,
⟨some 25, none, [], .ld 1 false (.t 24)⟩,
⟨some 26, none, [], .mov (.t 10)⟩,
⟨some 27, none, [], .ias 2 (.t 25) (.t 26)⟩,
⟨some 28, none, [], .ld 2 true (.t 27)⟩,
⟨some 11, none, [23, 24], .alc [(.st []), (.st [])]⟩,
⟨none, none, [], .sto 2 (.t 11) (.t 28)⟩] [23, 24])
(.seq (.reg false [
⟨some 29, none, [], .fad 0 (.t 11)⟩,
⟨some 30, none, [], .ld 1 false (.t 29)⟩,
⟨some 31, none, [], .call false .pure 86 [(.t 30)]⟩,
⟨some 32, none, [], .mov (.t 31)⟩,
⟨some 33, some (32, false), [], .fad 1 (.t 5)⟩,
⟨some 34, some (32, false), [], .ld 1 false (.t 33)⟩,
⟨some 35, some (32, false), [], .fad 0 (.t 11)⟩,
⟨some 36, some (32, false), [], .ld 1 false (.t 35)⟩,
⟨some 37, some (32, false), [], .call false .pure 87 [(.t 34), (.t 36)]⟩,
⟨some 38, some (32, false), [], .un .not (.t 37)⟩,
⟨some 39, none, [], .pick (.t 32) (.k (.bo true)) (.t 38)⟩] [29, 33, 35])
(.cond (.t 39)
(.reg false [
⟨some 40, none, [], .mov (.t 9)⟩,
⟨some 41, none, [], .ld 2 true (.t 11)⟩,
⟨some 42, none, [], .bsv [.one, .one] 2 [[(.st []), (.st [])]] [(0, (.t 41))]⟩,
⟨some 43, none, [], .app 2 32 (.t 40) (.t 42)⟩,
⟨some 9, none, [], .mov (.t 43)⟩] [])
.skip))))
(.reg false [
⟨some 21, none, [], .mov (.t 10)⟩,
⟨some 22, none, [], .bin .no .add (.t 21) (.k (.it .i64 1))⟩,
⟨some 10, none, [], .mov (.t 22)⟩] []))))))
(.seq (.seq (.reg false [
⟨some 12, none, [], .mov (.k (.it .i64 0))⟩] [])
(.blk 2 (.loop [2, 3, 4, 5, 8, 9, 12] [11]
(.seq (.seq (.reg false [
⟨some 44, none, [], .mov (.t 12)⟩,
⟨some 45, none, [], .fad 1 (.t 5)⟩,
⟨some 46, none, [], .ld 1 false (.t 45)⟩,
⟨some 47, none, [], .len false (.t 46)⟩,
⟨some 48, none, [], .bin .no .lss (.t 44) (.t 47)⟩] [45])
(.cond (.t 48)
.skip
(.exit 2)))
(.seq (.blk 3 (.seq (.reg false [
⟨some 51, none, [], .fad 1 (.t 5)⟩,
⟨some 52, none, [], .ld 1 false (.t 51)⟩,
⟨some 53, none, [], .mov (.t 12)⟩,
⟨some 54, none, [], .ias 2 (.t 52) (.t 53)⟩,
⟨some 55, none, [], .fad 0 (.t 54)⟩,
⟨some 56, none, [], .ld 1 false (.t 55)⟩,
⟨some 57, none, [], .call false .pure 86 [(.t 56)]⟩,
⟨some 58, none, [], .un .not (.t 57)⟩] [51])
(.cond (.t 58)
(.reg false [
⟨some 59, none, [], .mov (.t 9)⟩,
⟨some 60, none, [], .fad 1 (.t 5)⟩,
⟨some 61, none, [], .ld 1 false (.t 60)⟩,
⟨some 62, none, [], .mov (.t 12)⟩,
⟨some 63, none, [], .ias 2 (.t 61) (.t 62)⟩,
⟨some 64, none, [], .ld 2 true (.t 63)⟩,
⟨some 65, none, [], .bsv [.one, .one] 2 [[(.st []), (.st [])]] [(0, (.t 64))]⟩,
⟨some 66, none, [], .app 2 32 (.t 59) (.t 65)⟩,
⟨some 9, none, [], .mov (.t 66)⟩] [60])
.skip)))
(.reg false [
⟨some 49, none, [], .mov (.t 12)⟩,
⟨some 50, none, [], .bin .no .add (.t 49) (.k (.it .i64 1))⟩,
⟨some 12, none, [], .mov (.t 50)⟩] []))))))
(.seq (.seq (.reg false [
⟨some 67, none, [], .fad 1 (.t 5)⟩,
⟨some 68, none, [], .ld 1 false (.t 67)⟩,
⟨some 69, none, [], .call false .pure 87 [(.t 68), (.k (.st [97, 103, 101]))]⟩,
⟨some 70, none, [], .un .not (.t 69)⟩] [67])
(.cond (.t 70)
(.seq (.reg false [
⟨some 13, none, [], .mov (.k .ns)⟩] [])
(.seq (.seq (.reg false [
⟨some 14, none, [], .mov (.k (.it .i64 0))⟩] [])
(.blk 4 (.loop [2, 3, 4, 8, 9, 13, 14] [5, 11]
(.seq (.seq (.reg false [
⟨some 71, none, [], .mov (.t 14)⟩,
⟨some 72, none, [], .mov (.t 9)⟩,
⟨some 73, none, [], .len false (.t 72)⟩,
⟨some 74, none, [], .bin .no .lss (.t 71) (.t 73)⟩] [])
(.cond (.t 74)
.skip
(.exit 4)))
(.seq (.blk 5 (.seq (.reg false [
⟨some 77, none, [], .mov (.t 9)⟩,
⟨some 78, none, [], .mov (.t 14)⟩,
⟨some 79, none, [], .ias 2 (.t 77) (.t 78)⟩,
⟨some 80, none, [], .fad 0 (.t 79)⟩,
⟨some 81, none, [], .ld 1 false (.t 80)⟩,
⟨some 82, none, [], .bin .no .neq (.t 81) (.k (.st [97, 103, 101]))⟩] [])
(.cond (.t 82)
(.reg false [
⟨some 83, none, [], .mov (.t 13)⟩,
⟨some 84, none, [], .mov (.t 9)⟩,
⟨some 85, none, [], .mov (.t 14)⟩,
⟨some 86, none, [], .ias 2 (.t 84) (.t 85)⟩,
⟨some 87, none, [], .ld 2 true (.t 86)⟩,
⟨some 88, none, [], .bsv [.one, .one] 2 [[(.st []), (.st [])]] [(0, (.t 87))]⟩,
⟨some 89, none, [], .app 2 32 (.t 83) (.t 88)⟩,
⟨some 13, none, [], .mov (.t 89)⟩] [])
.skip)))
(.reg false [
⟨some 75, none, [], .mov (.t 14)⟩,
⟨some 76, none, [], .bin .no .add (.t 75) (.k (.it .i64 1))⟩,
⟨some 14, none, [], .mov (.t 76)⟩] []))))))
(.reg false [
⟨some 90, none, [], .mov (.t 13)⟩,
⟨some 9, none, [], .mov (.t 90)⟩] [])))
.skip))
(.seq (.reg false [
⟨some 91, none, [], .mov (.t 9)⟩,
⟨some 92, none, [], .fad 6 (.t 4)⟩,
⟨some 93, none, [], .fad 1 (.t 92)⟩,
⟨none, none, [], .sto 1 (.t 93) (.t 91)⟩] [92, 93])
(.seq (.reg false [
⟨some 94, none, [], .mov (.t 2)⟩,
⟨some 95, none, [], .mov (.t 3)⟩,
⟨some 96, none, [], .fad 10 (.t 4)⟩,
⟨none, none, [], .sto 1 (.t 96) (.t 94)⟩,
⟨some 97, none, [], .fad 11 (.t 4)⟩,
⟨none, none, [], .sto 1 (.t 97) (.t 95)⟩] [96, 97])
(.seq (.reg false [
⟨some 98, none, [], .ld 12 true (.t 4)⟩,
⟨none, none, [], .sto 12 (.t 8) (.t 98)⟩] [])
.ret))))))))⟩
def c55 : Ev.Fn := d55.den
def p55 : Pol := { loc := [4, 5, 8, 11], md := .pure, mds := mds, heap := [43, 66, 89], own := [43, 66, 89], ord := [], clr := [(3, [16, 17]), (5, [23, 24]), (6, [29, 33, 35]), (9, [45]), (11, [51]), (12, [60]), (13, [67]), (21, [92, 93]), (22, [96, 97])], mask := [(3, [2, 3, 4, 5, 8, 9, 10], [11]), (9, [2, 3, 4, 5, 8, 9, 12], [11]), (16, [2, 3, 4, 8, 9, 13, 14], [5, 11])], fns := [], lcl := [] }
theorem r55 : FnOK Try.prog mds 55 c55 := .read (pol := p55) (d := d55) Try.func55 (by kernel_rfl) (by kernel_rfl) rfl rfl (by kernel_rfl)

/- reservoir/reservoirref14.Clears -/
def d56 : DFn := ⟨[(.g [.one, .one, .one, .one, (.sl [.one, .one]), .one]), (.g [.one, (.sl [.one, .one]), .one])], [(.c .one)], .pure, [.tmp 4],
(.seq (.reg false [
⟨some 2, none, [], .box (.t 0)⟩,
⟨some 3, none, [], .box (.t 1)⟩,
⟨some 4, none, [], .mov (.k (.bo false))⟩] [])
(.seq (.seq (.reg false [
⟨some 5, none, [], .fad 0 (.t 2)⟩,
⟨some 6, none, [], .ld 1 false (.t 5)⟩] [5])
(.blk 0 (.seq (.seq (.reg false [
⟨some 8, none, [], .bin .no .eql (.t 6) (.k (.st [71, 69, 84]))⟩,
⟨some 7, none, [], .mov (.t 8)⟩] [])
(.cond (.t 7)
.skip
(.seq (.reg false [
⟨some 9, none, [], .bin .no .eql (.t 6) (.k (.st [72, 69, 65, 68]))⟩,
⟨some 7, none, [], .mov (.t 9)⟩] [])
(.cond (.t 7)
.skip
(.seq (.reg false [
⟨some 10, none, [], .bin .no .eql (.t 6) (.k (.st [79, 80, 84, 73, 79, 78, 83]))⟩,
⟨some 7, none, [], .mov (.t 10)⟩] [])
(.cond (.t 7)
.skip
(.reg false [
⟨some 11, none, [], .bin .no .eql (.t 6) (.k (.st [84, 82, 65, 67, 69]))⟩,
⟨some 7, none, [], .mov (.t 11)⟩] [])))))))
(.cond (.t 7)
(.seq (.reg false [
⟨some 4, none, [], .mov (.k (.bo false))⟩] [])
.ret)
.skip))))
(.seq (.reg false [
⟨some 12, none, [], .fad 0 (.t 3)⟩,
⟨some 13, none, [], .ld 1 false (.t 12)⟩,
⟨some 14, none, [], .bin .no .geq (.t 13) (.k (.it .i64 200))⟩,
⟨some 15, none, [], .mov (.t 14)⟩,
⟨some 16, some (15, true), [], .fad 0 (.t 3)⟩,
⟨some 17, some (15, true), [], .ld 1 false (.t 16)⟩,
⟨some 18, some (15, true), [], .bin .no .lss (.t 17) (.k (.it .i64 400))⟩,
⟨some 19, none, [], .pick (.t 15) (.t 18) (.k (.bo false))⟩,
⟨some 4, none, [], .mov (.t 19)⟩] [12, 16])
.ret)))⟩
def c56 : Ev.Fn := d56.den
def p56 : Pol := { loc := [2, 3], md := .pure, mds := mds, heap := [], own := [], ord := [(0, [2, 0, 1])], clr := [(1, [5]), (7, [12, 16])], mask := [], fns := [], lcl := [] }
theorem r56 : FnOK Try.prog mds 56 c56 := .read (pol := p56) (d := d56) Try.func56 (by kernel_rfl) (by kernel_rfl) rfl rfl (by kernel_rfl)

/- reservoir/reservoirref14.Unchanged -/
def d57 : DFn := ⟨[(.g [.one, .one, .one, .one, (.sl [.one, .one]), .one, .one, (.sl [.one, .one]), .one, .one, .one, .one]), (.g [.one, .one, .one, .one, (.sl [.one, .one]), .one])], [(.c .one)], .pure, [.tmp 4],
(.seq (.reg false [
⟨some 2, none, [], .box (.t 0)⟩,
⟨some 3, none, [], .box (.t 1)⟩,
⟨some 4, none, [], .mov (.k (.bo false))⟩] [])
(.seq (.reg false [
⟨some 17, none, [], .fad 4 (.t 3)⟩,
⟨some 18, none, [], .ld 1 false (.t 17)⟩,
⟨some 19, none, [], .call false .pure 43 [(.t 18), (.k (.st [105, 102, 45, 110, 111, 110, 101, 45, 109, 97, 116, 99, 104]))]⟩,
⟨some 16, none, [], .mov (.t 19)⟩,
⟨some 20, none, [], .ext (.t 16) 0⟩,
⟨some 21, none, [], .ext (.t 16) 1⟩,
⟨some 5, none, [], .mov (.t 20)⟩,
⟨some 6, none, [], .mov (.t 21)⟩] [17])
(.seq (.seq (.reg false [
⟨some 22, none, [], .mov (.t 6)⟩,
⟨some 23, none, [], .bin .no .eql (.t 22) (.k (.it .i64 0))⟩] [])
(.cond (.t 23)
(.seq (.reg false [
⟨some 25, none, [], .fad 4 (.t 3)⟩,
⟨some 26, none, [], .ld 1 false (.t 25)⟩,
⟨some 27, none, [], .call false .pure 85 [(.t 26), (.k (.st [105, 102, 45, 109, 111, 100, 105, 102, 105, 101, 100, 45, 115, 105, 110, 99, 101]))]⟩,
⟨some 24, none, [], .mov (.t 27)⟩,
⟨some 28, none, [], .ext (.t 24) 0⟩,
⟨some 29, none, [], .ext (.t 24) 1⟩,
⟨some 7, none, [], .mov (.t 28)⟩,
⟨some 8, none, [], .mov (.t 29)⟩] [25])
(.seq (.reg false [
⟨some 31, none, [], .fad 6 (.t 2)⟩,
⟨some 32, none, [], .fad 1 (.t 31)⟩,
⟨some 33, none, [], .ld 1 false (.t 32)⟩,
⟨some 34, none, [], .call false .pure 85 [(.t 33), (.k (.st [108, 97, 115, 116, 45, 109, 111, 100, 105, 102, 105, 101, 100]))]⟩,
⟨some 30, none, [], .mov (.t 34)⟩,
⟨some 35, none, [], .ext (.t 30) 0⟩,
⟨some 36, none, [], .ext (.t 30) 1⟩,
⟨some 9, none, [], .mov (.t 35)⟩,
⟨some 10, none, [], .mov (.t 36)⟩] [31, 32])
(.seq (.reg false [
⟨some 37, none, [], .mov (.t 8)⟩,
⟨some 38, none, [], .mov (.t 37)⟩,
⟨some 39, some (38, true), [], .mov (.t 10)⟩,
⟨some 40, none, [], .pick (.t 38) (.t 39) (.k (.bo false))⟩,
⟨some 41, none, [], .mov (.t 40)⟩,
⟨some 42, some (41, true), [], .mov (.t 7)⟩,
⟨some 43, some (41, true), [], .mov (.t 9)⟩,
⟨some 44, some (41, true), [], .bin .no .eql (.t 42) (.t 43)⟩,
⟨some 45, none, [], .pick (.t 41) (.t 44) (.k (.bo false))⟩,
⟨some 4, none, [], .mov (.t 45)⟩] [])
.ret)))
.skip))
(.seq (.reg false [
⟨some 47, none, [], .fad 6 (.t 2)⟩,
⟨some 48, none, [], .fad 1 (.t 47)⟩,
⟨some 49, none, [], .ld 1 false (.t 48)⟩,
⟨some 50, none, [], .call false .pure 85 [(.t 49), (.k (.st [101, 116, 97, 103]))]⟩,
⟨some 46, none, [], .mov (.t 50)⟩,
⟨some 51, none, [], .ext (.t 46) 0⟩,
⟨some 52, none, [], .ext (.t 46) 1⟩,
⟨some 11, none, [], .mov (.t 51)⟩,
⟨some 12, none, [], .mov (.t 52)⟩] [47, 48])
(.seq (.reg false [
⟨some 54, none, [], .mov (.t 5)⟩,
⟨some 55, none, [], .call false .pure 60 [(.t 54)]⟩,
⟨some 53, none, [], .mov (.t 55)⟩,
⟨some 56, none, [], .ext (.t 53) 0⟩,
⟨some 57, none, [], .ext (.t 53) 1⟩,
⟨some 13, none, [], .mov (.t 56)⟩,
⟨some 14, none, [], .mov (.t 57)⟩] [])
(.seq (.seq (.reg false [
⟨some 15, none, [], .mov (.k (.it .i64 0))⟩] [])
(.blk 0 (.loop [11, 12, 13, 15] [2, 3]
(.seq (.seq (.reg false [
⟨some 58, none, [], .mov (.t 15)⟩,
⟨some 59, none, [], .mov (.t 13)⟩,
⟨some 60, none, [], .len false (.t 59)⟩,
⟨some 61, none, [], .bin .no .lss (.t 58) (.t 60)⟩] [])
(.cond (.t 61)
.skip
(.exit 0)))
(.seq (.blk 1 (.seq (.reg false [
⟨some 64, none, [], .mov (.t 13)⟩,
⟨some 65, none, [], .mov (.t 15)⟩,
⟨some 66, none, [], .ias 1 (.t 64) (.t 65)⟩,
⟨some 67, none, [], .ld 1 false (.t 66)⟩,
⟨some 68, none, [], .bin .no .eql (.t 67) (.k (.st [42]))⟩,
⟨some 69, none, [], .mov (.t 68)⟩,
⟨some 70, some (69, false), [], .mov (.t 12)⟩,
⟨some 71, some (69, false), [], .mov (.t 70)⟩,
⟨some 72, some (71, true), [], .mov (.t 13)⟩,
⟨some 73, some (71, true), [], .mov (.t 15)⟩,
⟨some 74, some (71, true), [], .ias 1 (.t 72) (.t 73)⟩,
⟨some 75, some (71, true), [], .ld 1 false (.t 74)⟩,
⟨some 76, some (71, true), [], .call false .pure 88 [(.t 75)]⟩,
⟨some 77, some (71, true), [], .mov (.t 11)⟩,
⟨some 78, some (71, true), [], .call false .pure 88 [(.t 77)]⟩,
⟨some 79, some (71, true), [], .bin .no .eql (.t 76) (.t 78)⟩,
⟨some 80, some (69, false), [], .pick (.t 71) (.t 79) (.k (.bo false))⟩,
⟨some 81, none, [], .pick (.t 69) (.k (.bo true)) (.t 80)⟩] [])
(.cond (.t 81)
(.seq (.reg false [
⟨some 4, none, [], .mov (.k (.bo true))⟩] [])
.ret)
.skip)))
(.reg false [
⟨some 62, none, [], .mov (.t 15)⟩,
⟨some 63, none, [], .bin .no .add (.t 62) (.k (.it .i64 1))⟩,
⟨some 15, none, [], .mov (.t 63)⟩] []))))))
(.seq (.reg false [
⟨some 4, none, [], .mov (.k (.bo false))⟩] [])
.ret)))))))⟩
def c57 : Ev.Fn := d57.den
def p57 : Pol := { loc := [2, 3], md := .pure, mds := mds, heap := [], own := [], ord := [(0, [2, 0, 1]), (11, [0, 1, 2, 3, 4, 5, 6, 7, 8, 9, 10, 11, 13, 12, 14, 15, 16, 17])], clr := [(1, [17]), (3, [25]), (4, [31, 32]), (6, [47, 48])], mask := [(9, [11, 12, 13, 15], [2, 3])], fns := [], lcl := [] }
theorem r57 : FnOK Try.prog mds 57 c57 := .read (pol := p57) (d := d57) Try.func57 (by kernel_rfl) (by kernel_rfl) rfl rfl (by kernel_rfl)

/- reservoir/reservoirlaw22.same -/
def d58 : DFn := ⟨[(.c (.sl [.one, .one])), (.c (.sl [.one, .one]))], [(.c .one)], .pure, [.tmp 4],
(.seq (.reg false [
⟨some 4, none, [], .mov (.k (.bo false))⟩] [])
(.seq (.seq (.reg false [
⟨some 10, none, [], .mov (.t 0)⟩,
⟨some 11, none, [], .len false (.t 10)⟩,
⟨some 12, none, [], .mov (.t 1)⟩,
⟨some 13, none, [], .len false (.t 12)⟩,
⟨some 14, none, [], .bin .no .neq (.t 11) (.t 13)⟩] [])
(.cond (.t 14)
(.seq (.reg false [
⟨some 4, none, [], .mov (.k (.bo false))⟩] [])
.ret)
.skip))
(.seq (.seq (.reg false [
⟨some 5, none, [], .mov (.k (.it .i64 0))⟩] [])
(.blk 0 (.loop [0, 1, 5] []
(.seq (.seq (.reg false [
⟨some 15, none, [], .mov (.t 5)⟩,
⟨some 16, none, [], .mov (.t 0)⟩,
⟨some 17, none, [], .len false (.t 16)⟩,
⟨some 18, none, [], .bin .no .lss (.t 15) (.t 17)⟩] [])
(.cond (.t 18)
.skip
(.exit 0)))
(.seq (.blk 1 (.seq (.reg false [
⟨some 22, none, [], .mov (.t 0)⟩,
⟨some 23, none, [], .mov (.t 0)⟩,
⟨some 24, none, [], .mov (.t 5)⟩,
⟨some 25, none, [], .ias 2 (.t 23) (.t 24)⟩,
⟨some 26, none, [], .fad 0 (.t 25)⟩,
⟨some 27, none, [], .ld 1 false (.t 26)⟩,
⟨some 28, none, [], .call false .pure 43 [(.t 22), (.t 27)]⟩,
⟨some 21, none, [], .mov (.t 28)⟩,
⟨some 29, none, [], .ext (.t 21) 0⟩,
⟨some 30, none, [], .ext (.t 21) 1⟩,
⟨some 6, none, [], .mov (.t 29)⟩,
⟨some 7, none, [], .mov (.t 30)⟩] [])
(.seq (.reg false [
⟨some 32, none, [], .mov (.t 1)⟩,
⟨some 33, none, [], .mov (.t 0)⟩,
⟨some 34, none, [], .mov (.t 5)⟩,
⟨some 35, none, [], .ias 2 (.t 33) (.t 34)⟩,
⟨some 36, none, [], .fad 0 (.t 35)⟩,
⟨some 37, none, [], .ld 1 false (.t 36)⟩,
⟨some 38, none, [], .call false .pure 43 [(.t 32), (.t 37)]⟩,
⟨some 31, none, [], .mov (.t 38)⟩,
⟨some 39, none, [], .ext (.t 31) 0⟩,
⟨some 40, none, [], .ext (.t 31) 1⟩,
⟨some 8, none, [], .mov (.t 39)⟩,
⟨some 9, none, [], .mov (.t 40)⟩] [])
(.seq (.reg false [
⟨some 41, none, [], .mov (.t 6)⟩,
⟨some 42, none, [], .mov (.t 8)⟩,
⟨some 43, none, [], .bin .no .neq (.t 41) (.t 42)⟩,
⟨some 44, none, [], .mov (.t 43)⟩,
⟨some 45, some (44, false), [], .mov (.t 7)⟩,
⟨some 46, some (44, false), [], .mov (.t 9)⟩,
⟨some 47, some (44, false), [], .bin .no .neq (.t 45) (.t 46)⟩,
⟨some 48, none, [], .pick (.t 44) (.k (.bo true)) (.t 47)⟩] [])
(.cond (.t 48)
(.seq (.reg false [
⟨some 4, none, [], .mov (.k (.bo false))⟩] [])
.ret)
.skip)))))
(.reg false [
⟨some 19, none, [], .mov (.t 5)⟩,
⟨some 20, none, [], .bin .no .add (.t 19) (.k (.it .i64 1))⟩,
⟨some 5, none, [], .mov (.t 20)⟩] []))))))
(.seq (.reg false [
⟨some 4, none, [], .mov (.k (.bo true))⟩] [])
.ret))))⟩
def c58 : Ev.Fn := d58.den
def p58 : Pol := { loc := [], md := .pure, mds := mds, heap := [], own := [], ord := [], clr := [], mask := [(4, [0, 1, 5], [])], fns := [], lcl := [] }
theorem r58 : FnOK Try.prog mds 58 c58 := .read (pol := p58) (d := d58) Try.func58 (by kernel_rfl) (by kernel_rfl) rfl rfl (by kernel_rfl)

/- reservoir/reservoirref14.Split -/
def d60 : DFn := ⟨[(.c .one)], [(.c (.sl [.one])), (.c .one)], .pure, [.tmp 2, .tmp 3],
(.seq (.reg false [
⟨some 2, none, [], .mov (.k .ns)⟩,
⟨some 3, none, [], .mov (.k (.bo false))⟩] [])
(.seq (.reg false [
⟨some 4, none, [], .mov (.k .ns)⟩] [])
(.seq (.reg false [
⟨some 5, none, [], .mov (.k (.it .i64 0))⟩] [])
(.seq (.reg false [
⟨some 6, none, [], .mov (.k (.bo false))⟩] [])
(.seq (.seq (.reg false [
⟨some 7, none, [], .mov (.k (.it .i64 0))⟩] [])
(.blk 0 (.loop [0, 4, 5, 6, 7] []
(.seq (.seq (.reg false [
⟨some 9, none, [], .mov (.t 7)⟩,
⟨some 10, none, [], .mov (.t 0)⟩,
⟨some 11, none, [], .len true (.t 10)⟩,
⟨some 12, none, [], .bin .no .leq (.t 9) (.t 11)⟩] [])
(.cond (.t 12)
.skip
(.exit 0)))
(.seq (.blk 1 (.seq (.seq (.reg false [
⟨some 15, none, [], .mov (.t 7)⟩,
⟨some 16, none, [], .mov (.t 0)⟩,
⟨some 17, none, [], .len true (.t 16)⟩,
⟨some 18, none, [], .bin .no .lss (.t 15) (.t 17)⟩,
⟨some 19, none, [], .mov (.t 18)⟩,
⟨some 20, some (19, true), [], .mov (.t 6)⟩,
⟨some 21, none, [], .pick (.t 19) (.t 20) (.k (.bo false))⟩] [])
(.cond (.t 21)
(.seq (.seq (.reg false [
⟨some 22, none, [], .mov (.t 0)⟩,
⟨some 23, none, [], .mov (.t 7)⟩,
⟨some 24, none, [], .ixs (.t 22) (.t 23)⟩,
⟨some 25, none, [], .bin .no .eql (.t 24) (.k (.it .u8 92))⟩] [])
(.cond (.t 25)
(.seq (.reg false [
⟨some 26, none, [], .mov (.t 7)⟩,
⟨some 27, none, [], .bin .no .add (.t 26) (.k (.it .i64 1))⟩,
⟨some 7, none, [], .mov (.t 27)⟩] [])
(.seq (.reg false [
⟨some 28, none, [], .mov (.t 7)⟩,
⟨some 29, none, [], .mov (.t 0)⟩,
⟨some 30, none, [], .len true (.t 29)⟩,
⟨some 31, none, [], .bin .no .geq (.t 28) (.t 30)⟩] [])
(.cond (.t 31)
(.seq (.reg false [
⟨some 2, none, [], .mov (.k .ns)⟩,
⟨some 3, none, [], .mov (.k (.bo false))⟩] [])
.ret)
.skip)))
(.seq (.reg false [
⟨some 32, none, [], .mov (.t 0)⟩,
⟨some 33, none, [], .mov (.t 7)⟩,
⟨some 34, none, [], .ixs (.t 32) (.t 33)⟩,
⟨some 35, none, [], .bin .no .eql (.t 34) (.k (.it .u8 34))⟩] [])
(.cond (.t 35)
(.reg false [
⟨some 6, none, [], .mov (.k (.bo false))⟩] [])
.skip))))
(.exit 1))
.skip))
(.seq (.reg false [
⟨some 36, none, [], .mov (.t 7)⟩,
⟨some 37, none, [], .mov (.t 0)⟩,
⟨some 38, none, [], .len true (.t 37)⟩,
⟨some 39, none, [], .bin .no .eql (.t 36) (.t 38)⟩,
⟨some 40, none, [], .mov (.t 39)⟩,
⟨some 41, some (40, false), [], .mov (.t 0)⟩,
⟨some 42, some (40, false), [], .mov (.t 7)⟩,
⟨some 43, some (40, false), [], .ixs (.t 41) (.t 42)⟩,
⟨some 44, some (40, false), [], .bin .no .eql (.t 43) (.k (.it .u8 44))⟩,
⟨some 45, none, [], .pick (.t 40) (.k (.bo true)) (.t 44)⟩] [])
(.cond (.t 45)
(.seq (.seq (.reg false [
⟨some 46, none, [], .mov (.t 0)⟩,
⟨some 47, none, [], .mov (.t 5)⟩,
⟨some 48, none, [], .mov (.t 7)⟩,
⟨some 49, none, [], .slc true 0 (.t 46) (some (.t 47)) (some (.t 48))⟩,
⟨some 50, none, [], .call false .pure 78 [(.t 49)]⟩,
⟨some 8, none, [], .mov (.t 50)⟩] [])
(.seq (.reg false [
⟨some 51, none, [], .mov (.t 8)⟩,
⟨some 52, none, [], .bin .no .neq (.t 51) (.k (.st []))⟩] [])
(.cond (.t 52)
(.reg false [
⟨some 53, none, [], .mov (.t 4)⟩,
⟨some 54, none, [], .mov (.t 8)⟩,
⟨some 55, none, [], .bsv [.one] 1 [[(.st [])]] [(0, (.t 54))]⟩,
⟨some 56, none, [], .app 1 16 (.t 53) (.t 55)⟩,
⟨some 4, none, [], .mov (.t 56)⟩] [])
.skip)))
(.reg false [
⟨some 57, none, [], .mov (.t 7)⟩,
⟨some 58, none, [], .bin .no .add (.t 57) (.k (.it .i64 1))⟩,
⟨some 5, none, [], .mov (.t 58)⟩] []))
(.seq (.reg false [
⟨some 59, none, [], .mov (.t 0)⟩,
⟨some 60, none, [], .mov (.t 7)⟩,
⟨some 61, none, [], .ixs (.t 59) (.t 60)⟩,
⟨some 62, none, [], .bin .no .eql (.t 61) (.k (.it .u8 34))⟩] [])
(.cond (.t 62)
(.reg false [
⟨some 6, none, [], .mov (.k (.bo true))⟩] [])
.skip))))))
(.reg false [
⟨some 13, none, [], .mov (.t 7)⟩,
⟨some 14, none, [], .bin .no .add (.t 13) (.k (.it .i64 1))⟩,
⟨some 7, none, [], .mov (.t 14)⟩] []))))))
(.seq (.seq (.reg false [
⟨some 63, none, [], .mov (.t 6)⟩] [])
(.cond (.t 63)
(.seq (.reg false [
⟨some 2, none, [], .mov (.k .ns)⟩,
⟨some 3, none, [], .mov (.k (.bo false))⟩] [])
.ret)
.skip))
(.seq (.reg false [
⟨some 64, none, [], .mov (.t 4)⟩,
⟨some 2, none, [], .mov (.t 64)⟩,
⟨some 3, none, [], .mov (.k (.bo true))⟩] [])
.ret)))))))⟩
def c60 : Ev.Fn := d60.den
def p60 : Pol := { loc := [], md := .pure, mds := mds, heap := [56], own := [56], ord := [], clr := [], mask := [(5, [0, 4, 5, 6, 7], [])], fns := [], lcl := [] }
theorem r60 : FnOK Try.prog mds 60 c60 := .read (pol := p60) (d := d60) Try.func60 (by kernel_rfl) (by kernel_rfl) rfl rfl (by kernel_rfl)

/- reservoir/reservoirref14.Lower -/
def d61 : DFn := ⟨[(.c .one)], [(.c .one)], .pure, [.tmp 2],
(.seq (.reg false [
⟨some 2, none, [], .mov (.k (.st []))⟩] [])
(.seq (.reg false [
⟨some 5, none, [], .mov (.t 0)⟩,
⟨some 6, none, [], .cnv .s2b (.t 5)⟩,
⟨some 3, none, [], .mov (.t 6)⟩] [])
(.seq (.seq (.reg false [
⟨some 4, none, [], .mov (.k (.it .i64 0))⟩] [])
(.blk 0 (.loop [3, 4] []
(.seq (.seq (.reg false [
⟨some 7, none, [], .mov (.t 4)⟩,
⟨some 8, none, [], .mov (.t 3)⟩,
⟨some 9, none, [], .len false (.t 8)⟩,
⟨some 10, none, [], .bin .no .lss (.t 7) (.t 9)⟩] [])
(.cond (.t 10)
.skip
(.exit 0)))
(.seq (.blk 1 (.seq (.reg false [
⟨some 13, none, [], .mov (.t 3)⟩,
⟨some 14, none, [], .mov (.t 4)⟩,
⟨some 15, none, [], .ias 1 (.t 13) (.t 14)⟩,
⟨some 16, none, [], .ld 1 false (.t 15)⟩,
⟨some 17, none, [], .bin .no .geq (.t 16) (.k (.it .u8 65))⟩,
⟨some 18, none, [], .mov (.t 17)⟩,
⟨some 19, some (18, true), [], .mov (.t 3)⟩,
⟨some 20, some (18, true), [], .mov (.t 4)⟩,
⟨some 21, some (18, true), [], .ias 1 (.t 19) (.t 20)⟩,
⟨some 22, some (18, true), [], .ld 1 false (.t 21)⟩,
⟨some 23, some (18, true), [], .bin .no .leq (.t 22) (.k (.it .u8 90))⟩,
⟨some 24, none, [], .pick (.t 18) (.t 23) (.k (.bo false))⟩] [])
(.cond (.t 24)
(.reg false [
⟨some 25, none, [], .mov (.t 3)⟩,
⟨some 26, none, [], .mov (.t 4)⟩,
⟨some 27, none, [], .mov (.t 3)⟩,
⟨some 28, none, [], .mov (.t 4)⟩,
⟨some 29, none, [], .ias 1 (.t 27) (.t 28)⟩,
⟨some 30, none, [], .ld 1 false (.t 29)⟩,
⟨some 31, none, [], .bin .no .add (.t 30) (.k (.it .u8 32))⟩,
⟨some 32, none, [], .ias 1 (.t 25) (.t 26)⟩,
⟨none, none, [], .sto 1 (.t 32) (.t 31)⟩] [])
.skip)))
(.reg false [
⟨some 11, none, [], .mov (.t 4)⟩,
⟨some 12, none, [], .bin .no .add (.t 11) (.k (.it .i64 1))⟩,
⟨some 4, none, [], .mov (.t 12)⟩] []))))))
(.seq (.reg false [
⟨some 33, none, [], .mov (.t 3)⟩,
⟨some 34, none, [], .cnv .b2s (.t 33)⟩,
⟨some 2, none, [], .mov (.t 34)⟩] [])
.ret))))⟩
def c61 : Ev.Fn := d61.den
def p61 : Pol := { loc := [], md := .pure, mds := mds, heap := [6], own := [6], ord := [], clr := [], mask := [(3, [3, 4], [])], fns := [], lcl := [] }
theorem r61 : FnOK Try.prog mds 61 c61 := .read (pol := p61) (d := d61) Try.func61 (by kernel_rfl) (by kernel_rfl) rfl rfl (by kernel_rfl)

/- reservoir/message.Hop -/
def d62 : DFn := ⟨[(.c (.sl [.one, .one]))], [(.c (.sl [.one, .one]))], .pure, [.tmp 2],
(.seq (.reg false [
⟨some 2, none, [], .mov (.k .ns)⟩] [])
(.seq (.reg false [
⟨some 12, none, [], .mov (.t 0)⟩,
⟨some 13, none, [], .call false .pure 76 [(.t 12), (.k (.st [99, 111, 110, 110, 101, 99, 116, 105, 111, 110]))]⟩,
⟨some 11, none, [], .mov (.t 13)⟩,
⟨some 14, none, [], .ext (.t 11) 0⟩,
⟨some 15, none, [], .ext (.t 11) 1⟩,
⟨some 3, none, [], .mov (.t 14)⟩,
⟨some 4, none, [], .mov (.t 15)⟩] [])
(.seq (.reg false [
⟨some 17, none, [], .mov (.t 3)⟩,
⟨some 18, none, [], .call true .rw 83 [(.t 17)]⟩,
⟨some 16, none, [], .mov (.t 18)⟩,
⟨some 19, none, [], .ext (.t 16) 0⟩,
⟨some 20, none, [], .ext (.t 16) 1⟩,
⟨some 5, none, [], .mov (.t 19)⟩,
⟨some 6, none, [], .mov (.t 20)⟩] [])
(.seq (.seq (.reg false [
⟨some 21, none, [], .mov (.t 5)⟩,
⟨some 22, none, [], .len false (.t 21)⟩,
⟨some 23, none, [], .mov (.k (.it .i64 0))⟩] [])
(.blk 0 (.loop [0, 5, 22, 23] [10]
(.seq (.reg false [
⟨some 24, none, [], .bin .no .lss (.t 23) (.t 22)⟩] [])
(.seq (.cond (.t 24)
.skip
(.exit 0))
(.seq (.blk 1 (.seq (.reg false [
⟨some 25, none, [], .mov (.t 23)⟩,
⟨some 7, none, [], .mov (.t 25)⟩] [])
(.reg false [
⟨some 26, none, [], .mov (.t 5)⟩,
⟨some 27, none, [], .mov (.t 7)⟩,
⟨some 28, none, [], .mov (.t 5)⟩,
⟨some 29, none, [], .mov (.t 7)⟩,
⟨some 30, none, [], .ias 1 (.t 28) (.t 29)⟩,
⟨some 31, none, [], .ld 1 false (.t 30)⟩,
⟨some 32, none, [], .call true .pure 89 [(.t 31)]⟩,
⟨some 33, none, [], .ias 1 (.t 26) (.t 27)⟩,
⟨none, none, [], .sto 1 (.t 33) (.t 32)⟩] [])))
(.reg false [
⟨some 34, none, [], .bin .no .add (.t 23) (.k (.it .i64 1))⟩,
⟨some 23, none, [], .mov (.t 34)⟩] [])))))))
(.seq (.reg false [
⟨some 8, none, [], .mov (.k .ns)⟩] [])
(.seq (.seq (.reg false [
⟨some 35, none, [], .mov (.t 0)⟩,
⟨some 36, none, [], .len false (.t 35)⟩,
⟨some 37, none, [], .mov (.k (.it .i64 0))⟩] [])
(.blk 2 (.loop [5, 8, 35, 36, 37] [10]
(.seq (.reg false [
⟨some 38, none, [], .bin .no .lss (.t 37) (.t 36)⟩] [])
(.seq (.cond (.t 38)
.skip
(.exit 2))
(.seq (.blk 3 (.seq (.reg false [
⟨some 39, none, [], .ias 2 (.t 35) (.t 37)⟩,
⟨some 40, none, [], .ld 2 true (.t 39)⟩,
⟨some 10, none, [], .alc [(.st []), (.st [])]⟩,
⟨none, none, [], .sto 2 (.t 10) (.t 40)⟩] [])
(.seq (.reg false [
⟨some 41, none, [], .fad 0 (.t 10)⟩,
⟨some 42, none, [], .ld 1 false (.t 41)⟩,
⟨some 43, none, [], .call false .pure 90 [(.t 42)]⟩,
⟨some 44, none, [], .un .not (.t 43)⟩,
⟨some 45, none, [], .mov (.t 44)⟩,
⟨some 46, some (45, true), [], .fad 0 (.t 10)⟩,
⟨some 47, some (45, true), [], .ld 1 false (.t 46)⟩,
⟨some 48, some (45, true), [], .bin .no .neq (.t 47) (.k (.st [116, 101]))⟩,
⟨some 49, none, [], .pick (.t 45) (.t 48) (.k (.bo false))⟩,
⟨some 50, none, [], .mov (.t 49)⟩,
⟨some 51, some (50, true), [], .mov (.t 5)⟩,
⟨some 52, some (50, true), [], .fad 0 (.t 10)⟩,
⟨some 53, some (50, true), [], .ld 1 false (.t 52)⟩,
⟨some 54, some (50, true), [], .call false .ro 91 [(.t 51), (.t 53)]⟩,
⟨some 55, some (50, true), [], .un .not (.t 54)⟩,
⟨some 56, none, [], .pick (.t 50) (.t 55) (.k (.bo false))⟩] [41, 46, 52])
(.cond (.t 56)
(.reg false [
⟨some 57, none, [], .mov (.t 8)⟩,
⟨some 58, none, [], .ld 2 true (.t 10)⟩,
⟨some 59, none, [], .bsv [.one, .one] 2 [[(.st []), (.st [])]] [(0, (.t 58))]⟩,
⟨some 60, none, [], .app 2 32 (.t 57) (.t 59)⟩,
⟨some 8, none, [], .mov (.t 60)⟩] [])
.skip))))
(.reg false [
⟨some 61, none, [], .bin .no .add (.t 37) (.k (.it .i64 1))⟩,
⟨some 37, none, [], .mov (.t 61)⟩] [])))))))
(.seq (.reg false [
⟨some 62, none, [], .mov (.t 8)⟩,
⟨some 2, none, [], .mov (.t 62)⟩] [])
.ret)))))))⟩
def c62 : Ev.Fn := d62.den
def p62 : Pol := { loc := [10], md := .pure, mds := mds, heap := [18, 32, 60], own := [18, 32, 60], ord := [], clr := [(12, [41, 46, 52])], mask := [(4, [0, 5, 22, 23], [10]), (10, [5, 8, 35, 36, 37], [10])], fns := [], lcl := [] }
theorem r62 : FnOK Try.prog mds 62 c62 := .read (pol := p62) (d := d62) Try.func62 (by kernel_rfl) (by kernel_rfl) rfl rfl (by kernel_rfl)

/- reservoir/message.colon -/
def d63 : DFn := ⟨[(.g [.one, .one])], [(.c .one)], .pure, [.tmp 2],
(.seq (.reg false [
⟨some 1, none, [], .box (.t 0)⟩,
⟨some 2, none, [], .mov (.k (.bo false))⟩] [])
(.seq (.reg false [
⟨some 3, none, [], .fad 0 (.t 1)⟩,
⟨some 4, none, [], .ld 1 false (.t 3)⟩,
⟨some 5, none, [], .len true (.t 4)⟩,
⟨some 6, none, [], .bin .no .gtr (.t 5) (.k (.it .i64 0))⟩,
⟨some 7, none, [], .mov (.t 6)⟩,
⟨some 8, some (7, true), [], .fad 0 (.t 1)⟩,
⟨some 9, some (7, true), [], .ld 1 false (.t 8)⟩,
⟨some 10, some (7, true), [], .ixs (.t 9) (.k (.it .i64 0))⟩,
⟨some 11, some (7, true), [], .bin .no .eql (.t 10) (.k (.it .u8 58))⟩,
⟨some 12, none, [], .pick (.t 7) (.t 11) (.k (.bo false))⟩,
⟨some 2, none, [], .mov (.t 12)⟩] [3, 8])
.ret))⟩
def c63 : Ev.Fn := d63.den
def p63 : Pol := { loc := [1], md := .pure, mds := mds, heap := [], own := [], ord := [(0, [1, 0])], clr := [(1, [3, 8])], mask := [], fns := [], lcl := [] }
theorem r63 : FnOK Try.prog mds 63 c63 := .read (pol := p63) (d := d63) Try.func63 (by kernel_rfl) (by kernel_rfl) rfl rfl (by kernel_rfl)

/- reservoir/message.head -/
def d64 : DFn := ⟨[(.c (.sl [.one, .one])), (.c .one)], [(.c .one)], .rw, [.tmp 4],
(.seq (.reg false [
⟨some 4, none, [], .mov (.k (.bo false))⟩] [])
(.seq (.reg false [
⟨some 8, none, [], .mmk⟩,
⟨some 5, none, [], .mov (.t 8)⟩] [])
(.seq (.seq (.reg false [
⟨some 9, none, [], .mov (.t 0)⟩,
⟨some 10, none, [], .len false (.t 9)⟩,
⟨some 11, none, [], .mov (.k (.it .i64 0))⟩] [])
(.blk 0 (.loop [1, 5, 9, 10, 11] [7]
(.seq (.reg false [
⟨some 12, none, [], .bin .no .lss (.t 11) (.t 10)⟩] [])
(.seq (.cond (.t 12)
.skip
(.exit 0))
(.seq (.blk 1 (.seq (.reg false [
⟨some 13, none, [], .ias 2 (.t 9) (.t 11)⟩,
⟨some 14, none, [], .ld 2 true (.t 13)⟩,
⟨some 7, none, [], .alc [(.st []), (.st [])]⟩,
⟨none, none, [], .sto 2 (.t 7) (.t 14)⟩] [])
(.seq (.reg false [
⟨some 15, none, [], .mov (.t 5)⟩,
⟨some 16, none, [], .fad 0 (.t 7)⟩,
⟨some 17, none, [], .ld 1 false (.t 16)⟩,
⟨some 18, none, [], .mlk false (.it .i64 0) (.t 15) (.t 17)⟩,
⟨some 19, none, [], .bin .no .add (.t 18) (.k (.it .i64 1))⟩,
⟨none, none, [], .mup (.t 15) (.t 17) (.t 19)⟩] [16])
(.seq (.seq (.reg false [
⟨some 20, none, [], .mov (.t 5)⟩,
⟨some 21, none, [], .fad 0 (.t 7)⟩,
⟨some 22, none, [], .ld 1 false (.t 21)⟩,
⟨some 23, none, [], .mlk false (.it .i64 0) (.t 20) (.t 22)⟩,
⟨some 24, none, [], .bin .no .gtr (.t 23) (.k (.it .i64 1))⟩,
⟨some 25, none, [], .mov (.t 24)⟩,
⟨some 26, some (25, false), [], .fad 1 (.t 7)⟩,
⟨some 27, some (25, false), [], .ld 1 false (.t 26)⟩,
⟨some 28, some (25, false), [], .call false .pure 92 [(.t 27)]⟩,
⟨some 29, some (25, false), [], .un .not (.t 28)⟩,
⟨some 30, none, [], .pick (.t 25) (.k (.bo true)) (.t 29)⟩] [21, 26])
(.cond (.t 30)
(.seq (.reg false [
⟨some 4, none, [], .mov (.k (.bo false))⟩] [])
.ret)
.skip))
(.seq (.reg false [
⟨some 31, none, [], .fad 0 (.t 7)⟩,
⟨some 32, none, [], .ld 1 false (.t 31)⟩] [31])
(.blk 2 (.seq (.reg false [
⟨some 34, none, [], .bin .no .eql (.t 32) (.k (.st [58, 109, 101, 116, 104, 111, 100]))⟩,
⟨some 33, none, [], .mov (.t 34)⟩] [])
(.cond (.t 33)
(.reg false [
⟨some 35, none, [], .mov (.t 1)⟩,
⟨some 36, none, [], .fad 1 (.t 7)⟩,
⟨some 37, none, [], .ld 1 false (.t 36)⟩,
⟨some 38, none, [], .nck (.t 35)⟩,
⟨some 39, none, [], .fad 0 (.t 38)⟩,
⟨none, none, [], .sto 1 (.t 39) (.t 37)⟩] [36])
(.seq (.reg false [
⟨some 41, none, [], .bin .no .eql (.t 32) (.k (.st [58, 115, 99, 104, 101, 109, 101]))⟩,
⟨some 40, none, [], .mov (.t 41)⟩] [])
(.cond (.t 40)
(.reg false [
⟨some 42, none, [], .mov (.t 1)⟩,
⟨some 43, none, [], .fad 1 (.t 7)⟩,
⟨some 44, none, [], .ld 1 false (.t 43)⟩,
⟨some 45, none, [], .nck (.t 42)⟩,
⟨some 46, none, [], .fad 1 (.t 45)⟩,
⟨none, none, [], .sto 1 (.t 46) (.t 44)⟩] [43])
(.seq (.reg false [
⟨some 48, none, [], .bin .no .eql (.t 32) (.k (.st [58, 97, 117, 116, 104, 111, 114, 105, 116, 121]))⟩,
⟨some 47, none, [], .mov (.t 48)⟩] [])
(.cond (.t 47)
(.reg false [
⟨some 49, none, [], .mov (.t 1)⟩,
⟨some 50, none, [], .fad 1 (.t 7)⟩,
⟨some 51, none, [], .ld 1 false (.t 50)⟩,
⟨some 52, none, [], .nck (.t 49)⟩,
⟨some 53, none, [], .fad 2 (.t 52)⟩,
⟨none, none, [], .sto 1 (.t 53) (.t 51)⟩] [50])
(.seq (.reg false [
⟨some 55, none, [], .bin .no .eql (.t 32) (.k (.st [58, 112, 97, 116, 104]))⟩,
⟨some 54, none, [], .mov (.t 55)⟩] [])
(.cond (.t 54)
(.reg false [
⟨some 56, none, [], .mov (.t 1)⟩,
⟨some 57, none, [], .fad 1 (.t 7)⟩,
⟨some 58, none, [], .ld 1 false (.t 57)⟩,
⟨some 59, none, [], .nck (.t 56)⟩,
⟨some 60, none, [], .fad 3 (.t 59)⟩,
⟨none, none, [], .sto 1 (.t 60) (.t 58)⟩] [57])
(.seq (.reg false [
⟨some 4, none, [], .mov (.k (.bo false))⟩] [])
.ret)))))))))))))))
(.reg false [
⟨some 61, none, [], .bin .no .add (.t 11) (.k (.it .i64 1))⟩,
⟨some 11, none, [], .mov (.t 61)⟩] [])))))))
(.seq (.reg false [
⟨some 4, none, [], .mov (.k (.bo true))⟩] [])
.ret))))⟩
def c64 : Ev.Fn := d64.den
def p64 : Pol := { loc := [7], md := .rw, mds := mds, heap := [], own := [], ord := [], clr := [(5, [16]), (6, [21, 26]), (8, [31]), (11, [36]), (13, [43]), (15, [50]), (17, [57])], mask := [(3, [1, 5, 9, 10, 11], [7])], fns := [], lcl := [] }
theorem r64 : FnOK Try.prog mds 64 c64 := .read (pol := p64) (d := d64) Try.func64 (by kernel_rfl) (by kernel_rfl) rfl rfl (by kernel_rfl)

/- reservoir/message.right -/
def d65 : DFn := ⟨[(.g [.one, .one, .one, .one, (.sl [.one, .one]), .one])], [(.c .one)], .pure, [.tmp 2],
(.seq (.reg false [
⟨some 1, none, [], .box (.t 0)⟩,
⟨some 2, none, [], .mov (.k (.bo false))⟩] [])
(.seq (.seq (.reg false [
⟨some 3, none, [], .fad 0 (.t 1)⟩,
⟨some 4, none, [], .ld 1 false (.t 3)⟩,
⟨some 5, none, [], .call false .pure 93 [(.t 4)]⟩,
⟨some 6, none, [], .un .not (.t 5)⟩,
⟨some 7, none, [], .mov (.t 6)⟩,
⟨some 8, some (7, false), [], .fad 0 (.t 1)⟩,
⟨some 9, some (7, false), [], .ld 1 false (.t 8)⟩,
⟨some 10, some (7, false), [], .bin .no .eql (.t 9) (.k (.st [67, 79, 78, 78, 69, 67, 84]))⟩,
⟨some 11, none, [], .pick (.t 7) (.k (.bo true)) (.t 10)⟩,
⟨some 12, none, [], .mov (.t 11)⟩,
⟨some 13, some (12, false), [], .fad 1 (.t 1)⟩,
⟨some 14, some (12, false), [], .ld 1 false (.t 13)⟩,
⟨some 15, some (12, false), [], .bin .no .neq (.t 14) (.k (.st [104, 116, 116, 112]))⟩,
⟨some 16, some (12, false), [], .mov (.t 15)⟩,
⟨some 17, some (16, true), [], .fad 1 (.t 1)⟩,
⟨some 18, some (16, true), [], .ld 1 false (.t 17)⟩,
⟨some 19, some (16, true), [], .bin .no .neq (.t 18) (.k (.st [104, 116, 116, 112, 115]))⟩,
⟨some 20, some (12, false), [], .pick (.t 16) (.t 19) (.k (.bo false))⟩,
⟨some 21, none, [], .pick (.t 12) (.k (.bo true)) (.t 20)⟩,
⟨some 22, none, [], .mov (.t 21)⟩,
⟨some 23, some (22, false), [], .fad 2 (.t 1)⟩,
⟨some 24, some (22, false), [], .ld 1 false (.t 23)⟩,
⟨some 25, some (22, false), [], .bin .no .eql (.t 24) (.k (.st []))⟩,
⟨some 26, none, [], .pick (.t 22) (.k (.bo true)) (.t 25)⟩,
⟨some 27, none, [], .mov (.t 26)⟩,
⟨some 28, some (27, false), [], .fad 3 (.t 1)⟩,
⟨some 29, some (27, false), [], .ld 1 false (.t 28)⟩,
⟨some 30, some (27, false), [], .bin .no .eql (.t 29) (.k (.st []))⟩,
⟨some 31, none, [], .pick (.t 27) (.k (.bo true)) (.t 30)⟩] [3, 8, 13, 17, 23, 28])
(.cond (.t 31)
(.seq (.reg false [
⟨some 2, none, [], .mov (.k (.bo false))⟩] [])
.ret)
.skip))
(.seq (.reg false [
⟨some 32, none, [], .fad 3 (.t 1)⟩,
⟨some 33, none, [], .ld 1 false (.t 32)⟩,
⟨some 34, none, [], .ixs (.t 33) (.k (.it .i64 0))⟩,
⟨some 35, none, [], .bin .no .eql (.t 34) (.k (.it .u8 47))⟩,
⟨some 36, none, [], .mov (.t 35)⟩,
⟨some 37, some (36, false), [], .fad 3 (.t 1)⟩,
⟨some 38, some (36, false), [], .ld 1 false (.t 37)⟩,
⟨some 39, some (36, false), [], .bin .no .eql (.t 38) (.k (.st [42]))⟩,
⟨some 40, some (36, false), [], .mov (.t 39)⟩,
⟨some 41, some (40, true), [], .fad 0 (.t 1)⟩,
⟨some 42, some (40, true), [], .ld 1 false (.t 41)⟩,
⟨some 43, some (40, true), [], .bin .no .eql (.t 42) (.k (.st [79, 80, 84, 73, 79, 78, 83]))⟩,
⟨some 44, some (36, false), [], .pick (.t 40) (.t 43) (.k (.bo false))⟩,
⟨some 45, none, [], .pick (.t 36) (.k (.bo true)) (.t 44)⟩,
⟨some 2, none, [], .mov (.t 45)⟩] [32, 37, 41])
.ret)))⟩
def c65 : Ev.Fn := d65.den
def p65 : Pol := { loc := [1], md := .pure, mds := mds, heap := [], own := [], ord := [(0, [1, 0])], clr := [(1, [3, 8, 13, 17, 23, 28]), (3, [32, 37, 41])], mask := [], fns := [], lcl := [] }
theorem r65 : FnOK Try.prog mds 65 c65 := .read (pol := p65) (d := d65) Try.func65 (by kernel_rfl) (by kernel_rfl) rfl rfl (by kernel_rfl)

/- reservoir/message.rest -/
def d66 : DFn := ⟨[(.c (.sl [.one, .one]))], [(.c (.sl [.one, .one])), (.c .one), (.c .one)], .rw, [.tmp 2, .tmp 3, .tmp 4],
(.seq (.reg false [
⟨some 2, none, [], .mov (.k .ns)⟩,
⟨some 3, none, [], .mov (.k (.it .i64 0))⟩,
⟨some 4, none, [], .mov (.k (.bo false))⟩] [])
(.seq (.seq (.reg false [
⟨some 7, none, [], .mov (.t 0)⟩,
⟨some 8, none, [], .call false .rw 72 [(.t 7), (.k (.fn 63 [] []))]⟩,
⟨some 9, none, [], .mov (.t 8)⟩,
⟨some 10, some (9, false), [], .mov (.t 0)⟩,
⟨some 11, some (9, false), [], .call false .pure 73 [(.t 10)]⟩,
⟨some 12, some (9, false), [], .un .not (.t 11)⟩,
⟨some 13, none, [], .pick (.t 9) (.k (.bo true)) (.t 12)⟩] [])
(.cond (.t 13)
(.seq (.reg false [
⟨some 2, none, [], .mov (.k .ns)⟩,
⟨some 3, none, [], .mov (.k (.it .i64 0))⟩,
⟨some 4, none, [], .mov (.k (.bo false))⟩] [])
.ret)
.skip))
(.seq (.reg false [
⟨some 15, none, [], .mov (.t 0)⟩,
⟨some 16, none, [], .call false .pure 94 [(.t 15)]⟩,
⟨some 14, none, [], .mov (.t 16)⟩,
⟨some 17, none, [], .ext (.t 14) 0⟩,
⟨some 18, none, [], .ext (.t 14) 1⟩,
⟨some 5, none, [], .mov (.t 17)⟩,
⟨some 6, none, [], .mov (.t 18)⟩] [])
(.seq (.reg false [
⟨some 19, none, [], .mov (.t 0)⟩,
⟨some 20, none, [], .app 2 32 (.k .ns) (.t 19)⟩,
⟨some 21, none, [], .mov (.t 5)⟩,
⟨some 22, none, [], .mov (.t 6)⟩,
⟨some 2, none, [], .mov (.t 20)⟩,
⟨some 3, none, [], .mov (.t 21)⟩,
⟨some 4, none, [], .mov (.t 22)⟩] [])
.ret))))⟩
def c66 : Ev.Fn := d66.den
def p66 : Pol := { loc := [], md := .rw, mds := mds, heap := [], own := [], ord := [(4, [0, 2, 3, 1, 4, 5, 6])], clr := [], mask := [], fns := [63], lcl := [] }
theorem r66 : FnOK Try.prog mds 66 c66 := .read (pol := p66) (d := d66) Try.func66 (by kernel_rfl) (by kernel_rfl) rfl rfl (by kernel_rfl)

/- reservoir/message.number -/
def d67 : DFn := ⟨[(.c .one)], [(.c .one)], .pure, [.tmp 2],
(.seq (.reg false [
⟨some 2, none, [], .mov (.k (.it .i64 0))⟩] [])
(.seq (.seq (.reg false [
⟨some 5, none, [], .mov (.t 0)⟩,
⟨some 6, none, [], .len true (.t 5)⟩,
⟨some 7, none, [], .bin .no .lss (.t 6) (.k (.it .i64 1))⟩,
⟨some 8, none, [], .mov (.t 7)⟩,
⟨some 9, some (8, false), [], .mov (.t 0)⟩,
⟨some 10, some (8, false), [], .len true (.t 9)⟩,
⟨some 11, some (8, false), [], .bin .no .gtr (.t 10) (.k (.it .i64 9))⟩,
⟨some 12, none, [], .pick (.t 8) (.k (.bo true)) (.t 11)⟩] [])
(.cond (.t 12)
(.seq (.reg false [
⟨some 2, none, [], .mov (.k (.it .i64 (-1)))⟩] [])
.ret)
.skip))
(.seq (.reg false [
⟨some 3, none, [], .mov (.k (.it .i64 0))⟩] [])
(.seq (.seq (.reg false [
⟨some 13, none, [], .mov (.t 0)⟩,
⟨some 14, none, [], .len true (.t 13)⟩,
⟨some 15, none, [], .mov (.k (.it .i64 0))⟩] [])
(.blk 0 (.loop [0, 3, 14, 15] []
(.seq (.reg false [
⟨some 16, none, [], .bin .no .lss (.t 15) (.t 14)⟩] [])
(.seq (.cond (.t 16)
.skip
(.exit 0))
(.seq (.blk 1 (.seq (.reg false [
⟨some 17, none, [], .mov (.t 15)⟩,
⟨some 4, none, [], .mov (.t 17)⟩] [])
(.seq (.seq (.reg false [
⟨some 18, none, [], .mov (.t 0)⟩,
⟨some 19, none, [], .mov (.t 4)⟩,
⟨some 20, none, [], .ixs (.t 18) (.t 19)⟩,
⟨some 21, none, [], .bin .no .lss (.t 20) (.k (.it .u8 48))⟩,
⟨some 22, none, [], .mov (.t 21)⟩,
⟨some 23, some (22, false), [], .mov (.t 0)⟩,
⟨some 24, some (22, false), [], .mov (.t 4)⟩,
⟨some 25, some (22, false), [], .ixs (.t 23) (.t 24)⟩,
⟨some 26, some (22, false), [], .bin .no .gtr (.t 25) (.k (.it .u8 57))⟩,
⟨some 27, none, [], .pick (.t 22) (.k (.bo true)) (.t 26)⟩] [])
(.cond (.t 27)
(.seq (.reg false [
⟨some 2, none, [], .mov (.k (.it .i64 (-1)))⟩] [])
.ret)
.skip))
(.reg false [
⟨some 28, none, [], .mov (.t 3)⟩,
⟨some 29, none, [], .bin .no .mul (.k (.it .i64 10)) (.t 28)⟩,
⟨some 30, none, [], .mov (.t 0)⟩,
⟨some 31, none, [], .mov (.t 4)⟩,
⟨some 32, none, [], .ixs (.t 30) (.t 31)⟩,
⟨some 33, none, [], .bin .no .sub (.t 32) (.k (.it .u8 48))⟩,
⟨some 34, none, [], .cnv (.int .i64) (.t 33)⟩,
⟨some 35, none, [], .bin .no .add (.t 29) (.t 34)⟩,
⟨some 3, none, [], .mov (.t 35)⟩] []))))
(.reg false [
⟨some 36, none, [], .bin .no .add (.t 15) (.k (.it .i64 1))⟩,
⟨some 15, none, [], .mov (.t 36)⟩] [])))))))
(.seq (.reg false [
⟨some 37, none, [], .mov (.t 3)⟩,
⟨some 2, none, [], .mov (.t 37)⟩] [])
.ret)))))⟩
def c67 : Ev.Fn := d67.den
def p67 : Pol := { loc := [], md := .pure, mds := mds, heap := [], own := [], ord := [], clr := [], mask := [(5, [0, 3, 14, 15], [])], fns := [], lcl := [] }
theorem r67 : FnOK Try.prog mds 67 c67 := .read (pol := p67) (d := d67) Try.func67 (by kernel_rfl) (by kernel_rfl) rfl rfl (by kernel_rfl)

/- reservoir/reservoirref14.Value -/
def d68 : DFn := ⟨[(.c .one)], [(.c .one)], .pure, [.tmp 2],
(.seq (.reg false [
⟨some 2, none, [], .mov (.k (.bo false))⟩] [])
(.seq (.seq (.reg false [
⟨some 3, none, [], .mov (.k (.it .i64 0))⟩] [])
(.blk 0 (.loop [0, 3] []
(.seq (.seq (.reg false [
⟨some 4, none, [], .mov (.t 3)⟩,
⟨some 5, none, [], .mov (.t 0)⟩,
⟨some 6, none, [], .len true (.t 5)⟩,
⟨some 7, none, [], .bin .no .lss (.t 4) (.t 6)⟩] [])
(.cond (.t 7)
.skip
(.exit 0)))
(.seq (.blk 1 (.seq (.reg false [
⟨some 10, none, [], .mov (.t 0)⟩,
⟨some 11, none, [], .mov (.t 3)⟩,
⟨some 12, none, [], .ixs (.t 10) (.t 11)⟩,
⟨some 13, none, [], .bin .no .lss (.t 12) (.k (.it .u8 32))⟩,
⟨some 14, none, [], .mov (.t 13)⟩,
⟨some 15, some (14, true), [], .mov (.t 0)⟩,
⟨some 16, some (14, true), [], .mov (.t 3)⟩,
⟨some 17, some (14, true), [], .ixs (.t 15) (.t 16)⟩,
⟨some 18, some (14, true), [], .bin .no .neq (.t 17) (.k (.it .u8 9))⟩,
⟨some 19, none, [], .pick (.t 14) (.t 18) (.k (.bo false))⟩,
⟨some 20, none, [], .mov (.t 19)⟩,
⟨some 21, some (20, false), [], .mov (.t 0)⟩,
⟨some 22, some (20, false), [], .mov (.t 3)⟩,
⟨some 23, some (20, false), [], .ixs (.t 21) (.t 22)⟩,
⟨some 24, some (20, false), [], .bin .no .eql (.t 23) (.k (.it .u8 127))⟩,
⟨some 25, none, [], .pick (.t 20) (.k (.bo true)) (.t 24)⟩] [])
(.cond (.t 25)
(.seq (.reg false [
⟨some 2, none, [], .mov (.k (.bo false))⟩] [])
.ret)
.skip)))
(.reg false [
⟨some 8, none, [], .mov (.t 3)⟩,
⟨some 9, none, [], .bin .no .add (.t 8) (.k (.it .i64 1))⟩,
⟨some 3, none, [], .mov (.t 9)⟩] []))))))
(.seq (.reg false [
⟨some 26, none, [], .mov (.t 0)⟩,
⟨some 27, none, [], .bin .no .eql (.t 26) (.k (.st []))⟩,
⟨some 28, none, [], .mov (.t 27)⟩,
⟨some 29, some (28, false), [], .mov (.t 0)⟩,
⟨some 30, some (28, false), [], .ixs (.t 29) (.k (.it .i64 0))⟩,
⟨some 31, some (28, false), [], .call false .pure 95 [(.t 30)]⟩,
⟨some 32, some (28, false), [], .un .not (.t 31)⟩,
⟨some 33, some (28, false), [], .mov (.t 32)⟩,
⟨some 34, some (33, true), [], .mov (.t 0)⟩,
⟨some 35, some (33, true), [], .mov (.t 0)⟩,
⟨some 36, some (33, true), [], .len true (.t 35)⟩,
⟨some 37, some (33, true), [], .bin .no .sub (.t 36) (.k (.it .i64 1))⟩,
⟨some 38, some (33, true), [], .ixs (.t 34) (.t 37)⟩,
⟨some 39, some (33, true), [], .call false .pure 95 [(.t 38)]⟩,
⟨some 40, some (33, true), [], .un .not (.t 39)⟩,
⟨some 41, some (28, false), [], .pick (.t 33) (.t 40) (.k (.bo false))⟩,
⟨some 42, none, [], .pick (.t 28) (.k (.bo true)) (.t 41)⟩,
⟨some 2, none, [], .mov (.t 42)⟩] [])
.ret)))⟩
def c68 : Ev.Fn := d68.den
def p68 : Pol := { loc := [], md := .pure, mds := mds, heap := [], own := [], ord := [], clr := [], mask := [(2, [0, 3], [])], fns := [], lcl := [] }
theorem r68 : FnOK Try.prog mds 68 c68 := .read (pol := p68) (d := d68) Try.func68 (by kernel_rfl) (by kernel_rfl) rfl rfl (by kernel_rfl)

/- reservoir/reservoirref14.Length -/
def d69 : DFn := ⟨[(.c (.sl [.one, .one]))], [(.c .one), (.c .one)], .pure, [.tmp 2, .tmp 3],
(.seq (.reg false [
⟨some 2, none, [], .mov (.k (.it .i64 0))⟩,
⟨some 3, none, [], .mov (.k (.bo false))⟩] [])
(.seq (.reg false [
⟨some 4, none, [], .mov (.k (.it .i64 (-1)))⟩] [])
(.seq (.seq (.reg false [
⟨some 5, none, [], .mov (.k (.it .i64 0))⟩] [])
(.blk 0 (.loop [0, 4, 5] []
(.seq (.seq (.reg false [
⟨some 7, none, [], .mov (.t 5)⟩,
⟨some 8, none, [], .mov (.t 0)⟩,
⟨some 9, none, [], .len false (.t 8)⟩,
⟨some 10, none, [], .bin .no .lss (.t 7) (.t 9)⟩] [])
(.cond (.t 10)
.skip
(.exit 0)))
(.seq (.blk 1 (.seq (.seq (.reg false [
⟨some 13, none, [], .mov (.t 0)⟩,
⟨some 14, none, [], .mov (.t 5)⟩,
⟨some 15, none, [], .ias 2 (.t 13) (.t 14)⟩,
⟨some 16, none, [], .fad 0 (.t 15)⟩,
⟨some 17, none, [], .ld 1 false (.t 16)⟩,
⟨some 18, none, [], .bin .no .neq (.t 17) (.k (.st [99, 111, 110, 116, 101, 110, 116, 45, 108, 101, 110, 103, 116, 104]))⟩] [])
(.cond (.t 18)
(.exit 1)
.skip))
(.seq (.reg false [
⟨some 19, none, [], .mov (.t 0)⟩,
⟨some 20, none, [], .mov (.t 5)⟩,
⟨some 21, none, [], .ias 2 (.t 19) (.t 20)⟩,
⟨some 22, none, [], .fad 1 (.t 21)⟩,
⟨some 23, none, [], .ld 1 false (.t 22)⟩,
⟨some 6, none, [], .mov (.t 23)⟩] [])
(.seq (.seq (.reg false [
⟨some 24, none, [], .mov (.t 6)⟩,
⟨some 25, none, [], .len true (.t 24)⟩,
⟨some 26, none, [], .bin .no .gtr (.t 25) (.k (.it .i64 9))⟩,
⟨some 27, none, [], .mov (.t 26)⟩,
⟨some 28, some (27, false), [], .mov (.t 6)⟩,
⟨some 29, some (27, false), [], .call false .pure 71 [(.t 28)]⟩,
⟨some 30, some (27, false), [], .bin .no .lss (.t 29) (.k (.it .i64 0))⟩,
⟨some 31, none, [], .pick (.t 27) (.k (.bo true)) (.t 30)⟩,
⟨some 32, none, [], .mov (.t 31)⟩,
⟨some 33, some (32, false), [], .mov (.t 4)⟩,
⟨some 34, some (32, false), [], .bin .no .geq (.t 33) (.k (.it .i64 0))⟩,
⟨some 35, some (32, false), [], .mov (.t 34)⟩,
⟨some 36, some (35, true), [], .mov (.t 6)⟩,
⟨some 37, some (35, true), [], .call false .pure 71 [(.t 36)]⟩,
⟨some 38, some (35, true), [], .mov (.t 4)⟩,
⟨some 39, some (35, true), [], .bin .no .neq (.t 37) (.t 38)⟩,
⟨some 40, some (32, false), [], .pick (.t 35) (.t 39) (.k (.bo false))⟩,
⟨some 41, none, [], .pick (.t 32) (.k (.bo true)) (.t 40)⟩] [])
(.cond (.t 41)
(.seq (.reg false [
⟨some 2, none, [], .mov (.k (.it .i64 (-1)))⟩,
⟨some 3, none, [], .mov (.k (.bo false))⟩] [])
.ret)
.skip))
(.reg false [
⟨some 42, none, [], .mov (.t 6)⟩,
⟨some 43, none, [], .call false .pure 71 [(.t 42)]⟩,
⟨some 4, none, [], .mov (.t 43)⟩] [])))))
(.reg false [
⟨some 11, none, [], .mov (.t 5)⟩,
⟨some 12, none, [], .bin .no .add (.t 11) (.k (.it .i64 1))⟩,
⟨some 5, none, [], .mov (.t 12)⟩] []))))))
(.seq (.reg false [
⟨some 44, none, [], .mov (.t 4)⟩,
⟨some 2, none, [], .mov (.t 44)⟩,
⟨some 3, none, [], .mov (.k (.bo true))⟩] [])
.ret))))⟩
def c69 : Ev.Fn := d69.den
def p69 : Pol := { loc := [], md := .pure, mds := mds, heap := [], own := [], ord := [(7, [0, 1, 2, 3, 4, 5, 6, 7, 8, 9, 10, 11, 12, 14, 13, 15, 16, 17])], clr := [], mask := [(3, [0, 4, 5], [])], fns := [], lcl := [] }
theorem r69 : FnOK Try.prog mds 69 c69 := .read (pol := p69) (d := d69) Try.func69 (by kernel_rfl) (by kernel_rfl) rfl rfl (by kernel_rfl)

/- reservoir/reservoirref14.Token -/
def d70 : DFn := ⟨[(.c .one)], [(.c .one)], .pure, [.tmp 2],
(.seq (.reg false [
⟨some 2, none, [], .mov (.k (.bo false))⟩] [])
(.seq (.seq (.reg false [
⟨some 3, none, [], .mov (.k (.it .i64 0))⟩] [])
(.blk 0 (.loop [0, 3] []
(.seq (.seq (.reg false [
⟨some 4, none, [], .mov (.t 3)⟩,
⟨some 5, none, [], .mov (.t 0)⟩,
⟨some 6, none, [], .len true (.t 5)⟩,
⟨some 7, none, [], .bin .no .lss (.t 4) (.t 6)⟩] [])
(.cond (.t 7)
.skip
(.exit 0)))
(.seq (.blk 1 (.seq (.reg false [
⟨some 10, none, [], .mov (.t 0)⟩,
⟨some 11, none, [], .mov (.t 3)⟩,
⟨some 12, none, [], .ixs (.t 10) (.t 11)⟩,
⟨some 13, none, [], .call false .pure 96 [(.t 12)]⟩,
⟨some 14, none, [], .un .not (.t 13)⟩] [])
(.cond (.t 14)
(.seq (.reg false [
⟨some 2, none, [], .mov (.k (.bo false))⟩] [])
.ret)
.skip)))
(.reg false [
⟨some 8, none, [], .mov (.t 3)⟩,
⟨some 9, none, [], .bin .no .add (.t 8) (.k (.it .i64 1))⟩,
⟨some 3, none, [], .mov (.t 9)⟩] []))))))
(.seq (.reg false [
⟨some 15, none, [], .mov (.t 0)⟩,
⟨some 16, none, [], .bin .no .neq (.t 15) (.k (.st []))⟩,
⟨some 2, none, [], .mov (.t 16)⟩] [])
.ret)))⟩
def c70 : Ev.Fn := d70.den
def p70 : Pol := { loc := [], md := .pure, mds := mds, heap := [], own := [], ord := [], clr := [], mask := [(2, [0, 3], [])], fns := [], lcl := [] }
theorem r70 : FnOK Try.prog mds 70 c70 := .read (pol := p70) (d := d70) Try.func70 (by kernel_rfl) (by kernel_rfl) rfl rfl (by kernel_rfl)

/- reservoir/reservoirref14.Number -/
def d71 : DFn := ⟨[(.c .one)], [(.c .one)], .pure, [.tmp 2],
(.seq (.reg false [
⟨some 2, none, [], .mov (.k (.it .i64 0))⟩] [])
(.seq (.seq (.reg false [
⟨some 5, none, [], .mov (.t 0)⟩,
⟨some 6, none, [], .bin .no .eql (.t 5) (.k (.st []))⟩] [])
(.cond (.t 6)
(.seq (.reg false [
⟨some 2, none, [], .mov (.k (.it .i64 (-1)))⟩] [])
.ret)
.skip))
(.seq (.reg false [
⟨some 3, none, [], .mov (.k (.it .i64 0))⟩] [])
(.seq (.seq (.reg false [
⟨some 4, none, [], .mov (.k (.it .i64 0))⟩] [])
(.blk 0 (.loop [0, 3, 4] []
(.seq (.seq (.reg false [
⟨some 7, none, [], .mov (.t 4)⟩,
⟨some 8, none, [], .mov (.t 0)⟩,
⟨some 9, none, [], .len true (.t 8)⟩,
⟨some 10, none, [], .bin .no .lss (.t 7) (.t 9)⟩] [])
(.cond (.t 10)
.skip
(.exit 0)))
(.seq (.blk 1 (.seq (.seq (.reg false [
⟨some 13, none, [], .mov (.t 0)⟩,
⟨some 14, none, [], .mov (.t 4)⟩,
⟨some 15, none, [], .ixs (.t 13) (.t 14)⟩,
⟨some 16, none, [], .bin .no .lss (.t 15) (.k (.it .u8 48))⟩,
⟨some 17, none, [], .mov (.t 16)⟩,
⟨some 18, some (17, false), [], .mov (.t 0)⟩,
⟨some 19, some (17, false), [], .mov (.t 4)⟩,
⟨some 20, some (17, false), [], .ixs (.t 18) (.t 19)⟩,
⟨some 21, some (17, false), [], .bin .no .gtr (.t 20) (.k (.it .u8 57))⟩,
⟨some 22, none, [], .pick (.t 17) (.k (.bo true)) (.t 21)⟩] [])
(.cond (.t 22)
(.seq (.reg false [
⟨some 2, none, [], .mov (.k (.it .i64 (-1)))⟩] [])
.ret)
.skip))
(.seq (.reg false [
⟨some 23, none, [], .mov (.t 3)⟩,
⟨some 24, none, [], .bin .no .lss (.t 23) (.k (.it .i64 2147483647))⟩] [])
(.cond (.t 24)
(.reg false [
⟨some 25, none, [], .mov (.t 3)⟩,
⟨some 26, none, [], .bin .no .mul (.t 25) (.k (.it .i64 10))⟩,
⟨some 27, none, [], .mov (.t 0)⟩,
⟨some 28, none, [], .mov (.t 4)⟩,
⟨some 29, none, [], .ixs (.t 27) (.t 28)⟩,
⟨some 30, none, [], .bin .no .sub (.t 29) (.k (.it .u8 48))⟩,
⟨some 31, none, [], .cnv (.int .i64) (.t 30)⟩,
⟨some 32, none, [], .bin .no .add (.t 26) (.t 31)⟩,
⟨some 33, none, [], .mnx false (.t 32) (.k (.it .i64 2147483647))⟩,
⟨some 3, none, [], .mov (.t 33)⟩] [])
.skip))))
(.reg false [
⟨some 11, none, [], .mov (.t 4)⟩,
⟨some 12, none, [], .bin .no .add (.t 11) (.k (.it .i64 1))⟩,
⟨some 4, none, [], .mov (.t 12)⟩] []))))))
(.seq (.reg false [
⟨some 34, none, [], .mov (.t 3)⟩,
⟨some 2, none, [], .mov (.t 34)⟩] [])
.ret)))))⟩
def c71 : Ev.Fn := d71.den
def p71 : Pol := { loc := [], md := .pure, mds := mds, heap := [], own := [], ord := [], clr := [], mask := [(5, [0, 3, 4], [])], fns := [], lcl := [] }
theorem r71 : FnOK Try.prog mds 71 c71 := .read (pol := p71) (d := d71) Try.func71 (by kernel_rfl) (by kernel_rfl) rfl rfl (by kernel_rfl)

/- slices.ContainsFunc[[]reservoir/api.Field,reservoir/api.Field] -/
def d72 : DFn := ⟨[(.c (.sl [.one, .one])), (.c .one)], [(.c .one)], .rw, [.tmp 4],
(.seq (.reg false [
⟨some 4, none, [], .mov (.k (.bo false))⟩] [])
(.seq (.reg false [
⟨some 5, none, [], .mov (.t 0)⟩,
⟨some 6, none, [], .mov (.t 1)⟩,
⟨some 7, none, [], .call false .rw 97 [(.t 5), (.t 6)]⟩,
⟨some 8, none, [], .bin .no .geq (.t 7) (.k (.it .i64 0))⟩,
⟨some 4, none, [], .mov (.t 8)⟩] [])
.ret))⟩
def c72 : Ev.Fn := d72.den
def p72 : Pol := { loc := [], md := .rw, mds := mds, heap := [], own := [], ord := [], clr := [], mask := [], fns := [], lcl := [] }
theorem r72 : FnOK Try.prog mds 72 c72 := .read (pol := p72) (d := d72) Try.func72 (by kernel_rfl) (by kernel_rfl) rfl rfl (by kernel_rfl)

/- reservoir/message.plain -/
def d73 : DFn := ⟨[(.c (.sl [.one, .one]))], [(.c .one)], .pure, [.tmp 2],
(.seq (.reg false [
⟨some 2, none, [], .mov (.k (.bo false))⟩] [])
(.seq (.seq (.reg false [
⟨some 5, none, [], .mov (.t 0)⟩,
⟨some 6, none, [], .len false (.t 5)⟩,
⟨some 7, none, [], .mov (.k (.it .i64 0))⟩] [])
(.blk 0 (.loop [5, 6, 7] [4]
(.seq (.reg false [
⟨some 8, none, [], .bin .no .lss (.t 7) (.t 6)⟩] [])
(.seq (.cond (.t 8)
.skip
(.exit 0))
(.seq (.blk 1 (.seq (.reg false [
⟨some 9, none, [], .ias 2 (.t 5) (.t 7)⟩,
⟨some 10, none, [], .ld 2 true (.t 9)⟩,
⟨some 4, none, [], .alc [(.st []), (.st [])]⟩,
⟨none, none, [], .sto 2 (.t 4) (.t 10)⟩] [])
(.seq (.reg false [
⟨some 11, none, [], .fad 0 (.t 4)⟩,
⟨some 12, none, [], .ld 1 false (.t 11)⟩,
⟨some 13, none, [], .call false .pure 98 [(.t 12)]⟩,
⟨some 14, none, [], .un .not (.t 13)⟩,
⟨some 15, none, [], .mov (.t 14)⟩,
⟨some 16, some (15, false), [], .fad 1 (.t 4)⟩,
⟨some 17, some (15, false), [], .ld 1 false (.t 16)⟩,
⟨some 18, some (15, false), [], .call false .pure 92 [(.t 17)]⟩,
⟨some 19, some (15, false), [], .un .not (.t 18)⟩,
⟨some 20, none, [], .pick (.t 15) (.k (.bo true)) (.t 19)⟩,
⟨some 21, none, [], .mov (.t 20)⟩,
⟨some 22, some (21, false), [], .fad 0 (.t 4)⟩,
⟨some 23, some (21, false), [], .ld 1 false (.t 22)⟩,
⟨some 24, some (21, false), [], .call false .pure 90 [(.t 23)]⟩,
⟨some 25, none, [], .pick (.t 21) (.k (.bo true)) (.t 24)⟩,
⟨some 26, none, [], .mov (.t 25)⟩,
⟨some 27, some (26, false), [], .fad 0 (.t 4)⟩,
⟨some 28, some (26, false), [], .ld 1 false (.t 27)⟩,
⟨some 29, some (26, false), [], .bin .no .eql (.t 28) (.k (.st [116, 101]))⟩,
⟨some 30, some (26, false), [], .mov (.t 29)⟩,
⟨some 31, some (30, true), [], .fad 1 (.t 4)⟩,
⟨some 32, some (30, true), [], .ld 1 false (.t 31)⟩,
⟨some 33, some (30, true), [], .bin .no .neq (.t 32) (.k (.st [116, 114, 97, 105, 108, 101, 114, 115]))⟩,
⟨some 34, some (26, false), [], .pick (.t 30) (.t 33) (.k (.bo false))⟩,
⟨some 35, none, [], .pick (.t 26) (.k (.bo true)) (.t 34)⟩] [11, 16, 22, 27, 31])
(.cond (.t 35)
(.seq (.reg false [
⟨some 2, none, [], .mov (.k (.bo false))⟩] [])
.ret)
.skip))))
(.reg false [
⟨some 36, none, [], .bin .no .add (.t 7) (.k (.it .i64 1))⟩,
⟨some 7, none, [], .mov (.t 36)⟩] [])))))))
(.seq (.reg false [
⟨some 2, none, [], .mov (.k (.bo true))⟩] [])
.ret)))⟩
def c73 : Ev.Fn := d73.den
def p73 : Pol := { loc := [4], md := .pure, mds := mds, heap := [], own := [], ord := [], clr := [(4, [11, 16, 22, 27, 31])], mask := [(2, [5, 6, 7], [4])], fns := [], lcl := [] }
theorem r73 : FnOK Try.prog mds 73 c73 := .read (pol := p73) (d := d73) Try.func73 (by kernel_rfl) (by kernel_rfl) rfl rfl (by kernel_rfl)

/- reservoir/reservoirref14.name -/
def d74 : DFn := ⟨[(.c .one)], [(.c .one)], .pure, [.tmp 2],
(.seq (.reg false [
⟨some 2, none, [], .mov (.k (.bo false))⟩] [])
(.seq (.seq (.reg false [
⟨some 3, none, [], .mov (.k (.it .i64 0))⟩] [])
(.blk 0 (.loop [0, 3] []
(.seq (.seq (.reg false [
⟨some 4, none, [], .mov (.t 3)⟩,
⟨some 5, none, [], .mov (.t 0)⟩,
⟨some 6, none, [], .len true (.t 5)⟩,
⟨some 7, none, [], .bin .no .lss (.t 4) (.t 6)⟩] [])
(.cond (.t 7)
.skip
(.exit 0)))
(.seq (.blk 1 (.seq (.reg false [
⟨some 10, none, [], .mov (.t 0)⟩,
⟨some 11, none, [], .mov (.t 3)⟩,
⟨some 12, none, [], .ixs (.t 10) (.t 11)⟩,
⟨some 13, none, [], .bin .no .geq (.t 12) (.k (.it .u8 65))⟩,
⟨some 14, none, [], .mov (.t 13)⟩,
⟨some 15, some (14, true), [], .mov (.t 0)⟩,
⟨some 16, some (14, true), [], .mov (.t 3)⟩,
⟨some 17, some (14, true), [], .ixs (.t 15) (.t 16)⟩,
⟨some 18, some (14, true), [], .bin .no .leq (.t 17) (.k (.it .u8 90))⟩,
⟨some 19, none, [], .pick (.t 14) (.t 18) (.k (.bo false))⟩] [])
(.cond (.t 19)
(.seq (.reg false [
⟨some 2, none, [], .mov (.k (.bo false))⟩] [])
.ret)
.skip)))
(.reg false [
⟨some 8, none, [], .mov (.t 3)⟩,
⟨some 9, none, [], .bin .no .add (.t 8) (.k (.it .i64 1))⟩,
⟨some 3, none, [], .mov (.t 9)⟩] []))))))
(.seq (.reg false [
⟨some 20, none, [], .mov (.t 0)⟩,
⟨some 21, none, [], .call false .pure 70 [(.t 20)]⟩,
⟨some 2, none, [], .mov (.t 21)⟩] [])
.ret)))⟩
def c74 : Ev.Fn := d74.den
def p74 : Pol := { loc := [], md := .pure, mds := mds, heap := [], own := [], ord := [], clr := [], mask := [(2, [0, 3], [])], fns := [], lcl := [] }
theorem r74 : FnOK Try.prog mds 74 c74 := .read (pol := p74) (d := d74) Try.func74 (by kernel_rfl) (by kernel_rfl) rfl rfl (by kernel_rfl)

/- reservoir/token.All -/
def d76 : DFn := ⟨[(.c (.sl [.one, .one])), (.c .one)], [(.c .one), (.c .one)], .pure, [.tmp 4, .tmp 5],
(.seq (.reg false [
⟨some 4, none, [], .mov (.k (.st []))⟩,
⟨some 5, none, [], .mov (.k (.it .i64 0))⟩] [])
(.seq (.reg false [
⟨some 6, none, [], .mov (.k .ns)⟩] [])
(.seq (.seq (.reg false [
⟨some 9, none, [], .mov (.t 0)⟩,
⟨some 10, none, [], .len false (.t 9)⟩,
⟨some 11, none, [], .mov (.k (.it .i64 0))⟩] [])
(.blk 0 (.loop [1, 6, 9, 10, 11] [8]
(.seq (.reg false [
⟨some 12, none, [], .bin .no .lss (.t 11) (.t 10)⟩] [])
(.seq (.cond (.t 12)
.skip
(.exit 0))
(.seq (.blk 1 (.seq (.reg false [
⟨some 13, none, [], .ias 2 (.t 9) (.t 11)⟩,
⟨some 14, none, [], .ld 2 true (.t 13)⟩,
⟨some 8, none, [], .alc [(.st []), (.st [])]⟩,
⟨none, none, [], .sto 2 (.t 8) (.t 14)⟩] [])
(.seq (.reg false [
⟨some 15, none, [], .fad 0 (.t 8)⟩,
⟨some 16, none, [], .ld 1 false (.t 15)⟩,
⟨some 17, none, [], .mov (.t 1)⟩,
⟨some 18, none, [], .bin .no .eql (.t 16) (.t 17)⟩] [15])
(.cond (.t 18)
(.reg false [
⟨some 19, none, [], .mov (.t 6)⟩,
⟨some 20, none, [], .fad 1 (.t 8)⟩,
⟨some 21, none, [], .ld 1 false (.t 20)⟩,
⟨some 22, none, [], .bsv [.one] 1 [[(.st [])]] [(0, (.t 21))]⟩,
⟨some 23, none, [], .app 1 16 (.t 19) (.t 22)⟩,
⟨some 6, none, [], .mov (.t 23)⟩] [20])
.skip))))
(.reg false [
⟨some 24, none, [], .bin .no .add (.t 11) (.k (.it .i64 1))⟩,
⟨some 11, none, [], .mov (.t 24)⟩] [])))))))
(.seq (.reg false [
⟨some 25, none, [], .mov (.t 6)⟩,
⟨some 26, none, [], .call false .pure 99 [(.t 25), (.k (.st [44, 32]))]⟩,
⟨some 27, none, [], .mov (.t 6)⟩,
⟨some 28, none, [], .len false (.t 27)⟩,
⟨some 4, none, [], .mov (.t 26)⟩,
⟨some 5, none, [], .mov (.t 28)⟩] [])
.ret))))⟩
def c76 : Ev.Fn := d76.den
def p76 : Pol := { loc := [8], md := .pure, mds := mds, heap := [23], own := [23], ord := [(8, [0, 2, 3, 1, 4, 5])], clr := [(5, [15]), (6, [20])], mask := [(3, [1, 6, 9, 10, 11], [8])], fns := [], lcl := [] }
theorem r76 : FnOK Try.prog mds 76 c76 := .read (pol := p76) (d := d76) Try.func76 (by kernel_rfl) (by kernel_rfl) rfl rfl (by kernel_rfl)

/- reservoir/token.Trim -/
def d77 : DFn := ⟨[(.c .one)], [(.c .one)], .pure, [.tmp 2],
(.seq (.reg false [
⟨some 2, none, [], .mov (.k (.st []))⟩] [])
(.seq (.blk 0 (.loop [0] []
(.seq (.seq (.reg false [
⟨some 3, none, [], .mov (.t 0)⟩,
⟨some 4, none, [], .bin .no .neq (.t 3) (.k (.st []))⟩,
⟨some 5, none, [], .mov (.t 4)⟩,
⟨some 6, some (5, true), [], .mov (.t 0)⟩,
⟨some 7, some (5, true), [], .ixs (.t 6) (.k (.it .i64 0))⟩,
⟨some 8, some (5, true), [], .call false .pure 100 [(.t 7)]⟩,
⟨some 9, none, [], .pick (.t 5) (.t 8) (.k (.bo false))⟩] [])
(.cond (.t 9)
.skip
(.exit 0)))
(.blk 1 (.reg false [
⟨some 10, none, [], .mov (.t 0)⟩,
⟨some 11, none, [], .slc true 0 (.t 10) (some (.k (.it .i64 1))) none⟩,
⟨some 0, none, [], .mov (.t 11)⟩] [])))))
(.seq (.blk 2 (.loop [0] []
(.seq (.seq (.reg false [
⟨some 12, none, [], .mov (.t 0)⟩,
⟨some 13, none, [], .bin .no .neq (.t 12) (.k (.st []))⟩,
⟨some 14, none, [], .mov (.t 13)⟩,
⟨some 15, some (14, true), [], .mov (.t 0)⟩,
⟨some 16, some (14, true), [], .mov (.t 0)⟩,
⟨some 17, some (14, true), [], .len true (.t 16)⟩,
⟨some 18, some (14, true), [], .bin .no .sub (.t 17) (.k (.it .i64 1))⟩,
⟨some 19, some (14, true), [], .ixs (.t 15) (.t 18)⟩,
⟨some 20, some (14, true), [], .call false .pure 100 [(.t 19)]⟩,
⟨some 21, none, [], .pick (.t 14) (.t 20) (.k (.bo false))⟩] [])
(.cond (.t 21)
.skip
(.exit 2)))
(.blk 3 (.reg false [
⟨some 22, none, [], .mov (.t 0)⟩,
⟨some 23, none, [], .mov (.t 0)⟩,
⟨some 24, none, [], .len true (.t 23)⟩,
⟨some 25, none, [], .bin .no .sub (.t 24) (.k (.it .i64 1))⟩,
⟨some 26, none, [], .slc true 0 (.t 22) none (some (.t 25))⟩,
⟨some 0, none, [], .mov (.t 26)⟩] [])))))
(.seq (.reg false [
⟨some 27, none, [], .mov (.t 0)⟩,
⟨some 2, none, [], .mov (.t 27)⟩] [])
.ret))))⟩
def c77 : Ev.Fn := d77.den
def p77 : Pol := { loc := [], md := .pure, mds := mds, heap := [], own := [], ord := [], clr := [], mask := [(1, [0], []), (3, [0], [])], fns := [], lcl := [] }
theorem r77 : FnOK Try.prog mds 77 c77 := .read (pol := p77) (d := d77) Try.func77 (by kernel_rfl) (by kernel_rfl) rfl rfl (by kernel_rfl)

/- reservoir/reservoirref14.Trim -/
def d78 : DFn := ⟨[(.c .one)], [(.c .one)], .pure, [.tmp 2],
(.seq (.reg false [
⟨some 2, none, [], .mov (.k (.st []))⟩] [])
(.seq (.blk 0 (.loop [0] []
(.seq (.seq (.reg false [
⟨some 3, none, [], .mov (.t 0)⟩,
⟨some 4, none, [], .len true (.t 3)⟩,
⟨some 5, none, [], .bin .no .gtr (.t 4) (.k (.it .i64 0))⟩,
⟨some 6, none, [], .mov (.t 5)⟩,
⟨some 7, some (6, true), [], .mov (.t 0)⟩,
⟨some 8, some (6, true), [], .ixs (.t 7) (.k (.it .i64 0))⟩,
⟨some 9, some (6, true), [], .call false .pure 95 [(.t 8)]⟩,
⟨some 10, none, [], .pick (.t 6) (.t 9) (.k (.bo false))⟩] [])
(.cond (.t 10)
.skip
(.exit 0)))
(.blk 1 (.reg false [
⟨some 11, none, [], .mov (.t 0)⟩,
⟨some 12, none, [], .slc true 0 (.t 11) (some (.k (.it .i64 1))) none⟩,
⟨some 0, none, [], .mov (.t 12)⟩] [])))))
(.seq (.blk 2 (.loop [0] []
(.seq (.seq (.reg false [
⟨some 13, none, [], .mov (.t 0)⟩,
⟨some 14, none, [], .len true (.t 13)⟩,
⟨some 15, none, [], .bin .no .gtr (.t 14) (.k (.it .i64 0))⟩,
⟨some 16, none, [], .mov (.t 15)⟩,
⟨some 17, some (16, true), [], .mov (.t 0)⟩,
⟨some 18, some (16, true), [], .mov (.t 0)⟩,
⟨some 19, some (16, true), [], .len true (.t 18)⟩,
⟨some 20, some (16, true), [], .bin .no .sub (.t 19) (.k (.it .i64 1))⟩,
⟨some 21, some (16, true), [], .ixs (.t 17) (.t 20)⟩,
⟨some 22, some (16, true), [], .call false .pure 95 [(.t 21)]⟩,
⟨some 23, none, [], .pick (.t 16) (.t 22) (.k (.bo false))⟩] [])
(.cond (.t 23)
.skip
(.exit 2)))
(.blk 3 (.reg false [
⟨some 24, none, [], .mov (.t 0)⟩,
⟨some 25, none, [], .mov (.t 0)⟩,
⟨some 26, none, [], .len true (.t 25)⟩,
⟨some 27, none, [], .bin .no .sub (.t 26) (.k (.it .i64 1))⟩,
⟨some 28, none, [], .slc true 0 (.t 24) none (some (.t 27))⟩,
⟨some 0, none, [], .mov (.t 28)⟩] [])))))
(.seq (.reg false [
⟨some 29, none, [], .mov (.t 0)⟩,
⟨some 2, none, [], .mov (.t 29)⟩] [])
.ret))))⟩
def c78 : Ev.Fn := d78.den
def p78 : Pol := { loc := [], md := .pure, mds := mds, heap := [], own := [], ord := [], clr := [], mask := [(1, [0], []), (3, [0], [])], fns := [], lcl := [] }
theorem r78 : FnOK Try.prog mds 78 c78 := .read (pol := p78) (d := d78) Try.func78 (by kernel_rfl) (by kernel_rfl) rfl rfl (by kernel_rfl)

/- reservoir/merge.only -/
def d79 : DFn := ⟨[(.c (.sl [.one, .one])), (.c .one)], [(.c .one), (.c .one)], .pure, [.tmp 4, .tmp 5],
(.seq (.reg false [
⟨some 4, none, [], .mov (.k (.st []))⟩,
⟨some 5, none, [], .mov (.k (.bo false))⟩] [])
(.seq (.reg false [
⟨some 9, none, [], .mov (.t 0)⟩,
⟨some 10, none, [], .mov (.t 1)⟩,
⟨some 11, none, [], .call false .pure 76 [(.t 9), (.t 10)]⟩,
⟨some 8, none, [], .mov (.t 11)⟩,
⟨some 12, none, [], .ext (.t 8) 0⟩,
⟨some 13, none, [], .ext (.t 8) 1⟩,
⟨some 6, none, [], .mov (.t 12)⟩,
⟨some 7, none, [], .mov (.t 13)⟩] [])
(.seq (.seq (.reg false [
⟨some 14, none, [], .mov (.t 7)⟩,
⟨some 15, none, [], .bin .no .neq (.t 14) (.k (.it .i64 1))⟩] [])
(.cond (.t 15)
(.seq (.reg false [
⟨some 4, none, [], .mov (.k (.st []))⟩,
⟨some 5, none, [], .mov (.k (.bo false))⟩] [])
.ret)
.skip))
(.seq (.reg false [
⟨some 16, none, [], .mov (.t 6)⟩,
⟨some 4, none, [], .mov (.t 16)⟩,
⟨some 5, none, [], .mov (.k (.bo true))⟩] [])
.ret))))⟩
def c79 : Ev.Fn := d79.den
def p79 : Pol := { loc := [], md := .pure, mds := mds, heap := [], own := [], ord := [], clr := [], mask := [], fns := [], lcl := [] }
theorem r79 : FnOK Try.prog mds 79 c79 := .read (pol := p79) (d := d79) Try.func79 (by kernel_rfl) (by kernel_rfl) rfl rfl (by kernel_rfl)

/- reservoir/merge.condition -/
def d80 : DFn := ⟨[(.c .one)], [(.c .one)], .pure, [.tmp 2],
(.seq (.reg false [
⟨some 2, none, [], .mov (.k (.bo false))⟩] [])
(.seq (.seq (.reg false [
⟨some 3, none, [], .mov (.t 0)⟩] [])
(.blk 0 (.seq (.seq (.reg false [
⟨some 5, none, [], .bin .no .eql (.t 3) (.k (.st [105, 102, 45, 110, 111, 110, 101, 45, 109, 97, 116, 99, 104]))⟩,
⟨some 4, none, [], .mov (.t 5)⟩] [])
(.cond (.t 4)
.skip
(.seq (.reg false [
⟨some 6, none, [], .bin .no .eql (.t 3) (.k (.st [105, 102, 45, 109, 111, 100, 105, 102, 105, 101, 100, 45, 115, 105, 110, 99, 101]))⟩,
⟨some 4, none, [], .mov (.t 6)⟩] [])
(.cond (.t 4)
.skip
(.seq (.reg false [
⟨some 7, none, [], .bin .no .eql (.t 3) (.k (.st [105, 102, 45, 109, 97, 116, 99, 104]))⟩,
⟨some 4, none, [], .mov (.t 7)⟩] [])
(.cond (.t 4)
.skip
(.seq (.reg false [
⟨some 8, none, [], .bin .no .eql (.t 3) (.k (.st [105, 102, 45, 117, 110, 109, 111, 100, 105, 102, 105, 101, 100, 45, 115, 105, 110, 99, 101]))⟩,
⟨some 4, none, [], .mov (.t 8)⟩] [])
(.cond (.t 4)
.skip
(.seq (.reg false [
⟨some 9, none, [], .bin .no .eql (.t 3) (.k (.st [105, 102, 45, 114, 97, 110, 103, 101]))⟩,
⟨some 4, none, [], .mov (.t 9)⟩] [])
(.cond (.t 4)
.skip
(.reg false [
⟨some 10, none, [], .bin .no .eql (.t 3) (.k (.st [114, 97, 110, 103, 101]))⟩,
⟨some 4, none, [], .mov (.t 10)⟩] [])))))))))))
(.cond (.t 4)
(.seq (.reg false [
⟨some 2, none, [], .mov (.k (.bo true))⟩] [])
.ret)
.skip))))
(.seq (.reg false [
⟨some 2, none, [], .mov (.k (.bo false))⟩] [])
.ret)))⟩
def c80 : Ev.Fn := d80.den
def p80 : Pol := { loc := [], md := .pure, mds := mds, heap := [], own := [], ord := [], clr := [], mask := [], fns := [], lcl := [] }
theorem r80 : FnOK Try.prog mds 80 c80 := .read (pol := p80) (d := d80) Try.func80 (by kernel_rfl) (by kernel_rfl) rfl rfl (by kernel_rfl)

/- reservoir/merge.has -/
def d81 : DFn := ⟨[(.c (.sl [.one, .one])), (.c .one)], [(.c .one)], .pure, [.tmp 4],
(.seq (.reg false [
⟨some 4, none, [], .mov (.k (.bo false))⟩] [])
(.seq (.reg false [
⟨some 8, none, [], .mov (.t 0)⟩,
⟨some 9, none, [], .mov (.t 1)⟩,
⟨some 10, none, [], .call false .pure 76 [(.t 8), (.t 9)]⟩,
⟨some 7, none, [], .mov (.t 10)⟩,
⟨some 11, none, [], .ext (.t 7) 0⟩,
⟨some 12, none, [], .ext (.t 7) 1⟩,
⟨some 5, none, [], .mov (.t 11)⟩,
⟨some 6, none, [], .mov (.t 12)⟩] [])
(.seq (.reg false [
⟨some 13, none, [], .mov (.t 6)⟩,
⟨some 14, none, [], .bin .no .gtr (.t 13) (.k (.it .i64 0))⟩,
⟨some 4, none, [], .mov (.t 14)⟩] [])
.ret)))⟩
def c81 : Ev.Fn := d81.den
def p81 : Pol := { loc := [], md := .pure, mds := mds, heap := [], own := [], ord := [], clr := [], mask := [], fns := [], lcl := [] }
theorem r81 : FnOK Try.prog mds 81 c81 := .read (pol := p81) (d := d81) Try.func81 (by kernel_rfl) (by kernel_rfl) rfl rfl (by kernel_rfl)

/- reservoir/merge.content -/
def d82 : DFn := ⟨[(.c .one)], [(.c .one)], .pure, [.tmp 2],
(.seq (.reg false [
⟨some 2, none, [], .mov (.k (.bo false))⟩] [])
(.seq (.seq (.reg false [
⟨some 3, none, [], .mov (.t 0)⟩] [])
(.blk 0 (.seq (.seq (.reg false [
⟨some 5, none, [], .bin .no .eql (.t 3) (.k (.st [99, 111, 110, 116, 101, 110, 116, 45, 108, 101, 110, 103, 116, 104]))⟩,
⟨some 4, none, [], .mov (.t 5)⟩] [])
(.cond (.t 4)
.skip
(.seq (.reg false [
⟨some 6, none, [], .bin .no .eql (.t 3) (.k (.st [99, 111, 110, 116, 101, 110, 116, 45, 101, 110, 99, 111, 100, 105, 110, 103]))⟩,
⟨some 4, none, [], .mov (.t 6)⟩] [])
(.cond (.t 4)
.skip
(.seq (.reg false [
⟨some 7, none, [], .bin .no .eql (.t 3) (.k (.st [99, 111, 110, 116, 101, 110, 116, 45, 116, 121, 112, 101]))⟩,
⟨some 4, none, [], .mov (.t 7)⟩] [])
(.cond (.t 4)
.skip
(.reg false [
⟨some 8, none, [], .bin .no .eql (.t 3) (.k (.st [99, 111, 110, 116, 101, 110, 116, 45, 114, 97, 110, 103, 101]))⟩,
⟨some 4, none, [], .mov (.t 8)⟩] [])))))))
(.cond (.t 4)
(.seq (.reg false [
⟨some 2, none, [], .mov (.k (.bo true))⟩] [])
.ret)
.skip))))
(.seq (.reg false [
⟨some 2, none, [], .mov (.k (.bo false))⟩] [])
.ret)))⟩
def c82 : Ev.Fn := d82.den
def p82 : Pol := { loc := [], md := .pure, mds := mds, heap := [], own := [], ord := [], clr := [], mask := [], fns := [], lcl := [] }
theorem r82 : FnOK Try.prog mds 82 c82 := .read (pol := p82) (d := d82) Try.func82 (by kernel_rfl) (by kernel_rfl) rfl rfl (by kernel_rfl)

/- reservoir/token.Split -/
def d83 : DFn := ⟨[(.c .one)], [(.c (.sl [.one])), (.c .one)], .rw, [.tmp 2, .tmp 3],
(.seq (.reg false [
⟨some 1, none, [], .bxh (.t 0)⟩,
⟨some 2, none, [], .mov (.k .ns)⟩,
⟨some 3, none, [], .mov (.k (.bo false))⟩] [])
(.seq (.reg false [
⟨some 4, none, [], .alh [.ns]⟩] [])
(.seq (.reg false [
⟨some 5, none, [], .alh [(.it .i64 0)]⟩,
⟨none, none, [], .sto 1 (.t 5) (.k (.it .i64 0))⟩] [])
(.seq (.reg false [
⟨some 10, none, [], .mkf 101 [] [(.t 1), (.t 5), (.t 4)]⟩,
⟨some 6, none, [], .mov (.t 10)⟩] [])
(.seq (.seq (.reg false [
⟨some 7, none, [], .mov (.k (.it .i64 0))⟩] [])
(.blk 0 (.loop [1, 4, 5, 6, 7] []
(.seq (.seq (.reg false [
⟨some 11, none, [], .mov (.t 7)⟩,
⟨some 12, none, [], .ld 1 false (.t 1)⟩,
⟨some 13, none, [], .len true (.t 12)⟩,
⟨some 14, none, [], .bin .no .lss (.t 11) (.t 13)⟩] [])
(.cond (.t 14)
.skip
(.exit 0)))
(.blk 1 (.seq (.reg false [
⟨some 15, none, [], .ld 1 false (.t 1)⟩,
⟨some 16, none, [], .mov (.t 7)⟩,
⟨some 17, none, [], .ixs (.t 15) (.t 16)⟩] [])
(.blk 2 (.seq (.reg false [
⟨some 21, none, [], .bin .no .eql (.t 17) (.k (.it .u8 44))⟩,
⟨some 20, none, [], .mov (.t 21)⟩] [])
(.cond (.t 20)
(.seq (.reg false [
⟨some 22, none, [], .mov (.t 6)⟩,
⟨some 23, none, [], .mov (.t 7)⟩,
⟨some 24, none, [], .calv [] (.t 22) [(.t 23)]⟩] [])
(.seq (.reg false [
⟨some 25, none, [], .mov (.t 7)⟩,
⟨some 26, none, [], .bin .no .add (.t 25) (.k (.it .i64 1))⟩,
⟨some 7, none, [], .mov (.t 26)⟩] [])
(.reg false [
⟨some 27, none, [], .mov (.t 7)⟩,
⟨none, none, [], .sto 1 (.t 5) (.t 27)⟩] [])))
(.seq (.reg false [
⟨some 29, none, [], .bin .no .eql (.t 17) (.k (.it .u8 34))⟩,
⟨some 28, none, [], .mov (.t 29)⟩] [])
(.cond (.t 28)
(.seq (.reg false [
⟨some 31, none, [], .ld 1 false (.t 1)⟩,
⟨some 32, none, [], .mov (.t 7)⟩,
⟨some 33, none, [], .call true .pure 102 [(.t 31), (.t 32)]⟩,
⟨some 30, none, [], .mov (.t 33)⟩,
⟨some 34, none, [], .ext (.t 30) 0⟩,
⟨some 35, none, [], .ext (.t 30) 1⟩,
⟨some 8, none, [], .mov (.t 34)⟩,
⟨some 9, none, [], .mov (.t 35)⟩] [])
(.seq (.seq (.reg false [
⟨some 36, none, [], .mov (.t 9)⟩,
⟨some 37, none, [], .un .not (.t 36)⟩] [])
(.cond (.t 37)
(.seq (.reg false [
⟨some 2, none, [], .mov (.k .ns)⟩,
⟨some 3, none, [], .mov (.k (.bo false))⟩] [])
.ret)
.skip))
(.reg false [
⟨some 38, none, [], .mov (.t 8)⟩,
⟨some 7, none, [], .mov (.t 38)⟩] [])))
(.reg false [
⟨some 18, none, [], .mov (.t 7)⟩,
⟨some 19, none, [], .bin .no .add (.t 18) (.k (.it .i64 1))⟩,
⟨some 7, none, [], .mov (.t 19)⟩] []))))))))))))
(.seq (.reg false [
⟨some 39, none, [], .mov (.t 6)⟩,
⟨some 40, none, [], .ld 1 false (.t 1)⟩,
⟨some 41, none, [], .len true (.t 40)⟩,
⟨some 42, none, [], .calv [] (.t 39) [(.t 41)]⟩] [])
(.seq (.reg false [
⟨some 43, none, [], .ld 1 false (.t 4)⟩,
⟨some 2, none, [], .mov (.t 43)⟩,
⟨some 3, none, [], .mov (.k (.bo true))⟩] [])
.ret)))))))⟩
def c83 : Ev.Fn := d83.den
def p83 : Pol := { loc := [], md := .rw, mds := mds, heap := [33], own := [33], ord := [(0, [1, 2, 0])], clr := [], mask := [(5, [1, 4, 5, 6, 7], [])], fns := [101], lcl := [] }
theorem r83 : FnOK Try.prog mds 83 c83 := .read (pol := p83) (d := d83) Try.func83 (by kernel_rfl) (by kernel_rfl) rfl rfl (by kernel_rfl)

/- reservoir/merge.strong -/
def d84 : DFn := ⟨[(.c .one)], [(.c .one)], .pure, [.tmp 2],
(.seq (.reg false [
⟨some 2, none, [], .mov (.k (.st []))⟩] [])
(.seq (.reg false [
⟨some 3, none, [], .mov (.t 0)⟩,
⟨some 4, none, [], .call false .pure 103 [(.t 3), (.k (.st [87, 47]))]⟩,
⟨some 2, none, [], .mov (.t 4)⟩] [])
.ret))⟩
def c84 : Ev.Fn := d84.den
def p84 : Pol := { loc := [], md := .pure, mds := mds, heap := [], own := [], ord := [], clr := [], mask := [], fns := [], lcl := [] }
theorem r84 : FnOK Try.prog mds 84 c84 := .read (pol := p84) (d := d84) Try.func84 (by kernel_rfl) (by kernel_rfl) rfl rfl (by kernel_rfl)

/- reservoir/reservoirref14.one -/
def d85 : DFn := ⟨[(.c (.sl [.one, .one])), (.c .one)], [(.c .one), (.c .one)], .pure, [.tmp 4, .tmp 5],
(.seq (.reg false [
⟨some 4, none, [], .mov (.k (.st []))⟩,
⟨some 5, none, [], .mov (.k (.bo false))⟩] [])
(.seq (.reg false [
⟨some 9, none, [], .mov (.t 0)⟩,
⟨some 10, none, [], .mov (.t 1)⟩,
⟨some 11, none, [], .call false .pure 43 [(.t 9), (.t 10)]⟩,
⟨some 8, none, [], .mov (.t 11)⟩,
⟨some 12, none, [], .ext (.t 8) 0⟩,
⟨some 13, none, [], .ext (.t 8) 1⟩,
⟨some 6, none, [], .mov (.t 12)⟩,
⟨some 7, none, [], .mov (.t 13)⟩] [])
(.seq (.reg false [
⟨some 14, none, [], .mov (.t 6)⟩,
⟨some 15, none, [], .mov (.t 7)⟩,
⟨some 16, none, [], .bin .no .eql (.t 15) (.k (.it .i64 1))⟩,
⟨some 4, none, [], .mov (.t 14)⟩,
⟨some 5, none, [], .mov (.t 16)⟩] [])
.ret)))⟩
def c85 : Ev.Fn := d85.den
def p85 : Pol := { loc := [], md := .pure, mds := mds, heap := [], own := [], ord := [], clr := [], mask := [], fns := [], lcl := [] }
theorem r85 : FnOK Try.prog mds 85 c85 := .read (pol := p85) (d := d85) Try.func85 (by kernel_rfl) (by kernel_rfl) rfl rfl (by kernel_rfl)

/- reservoir/reservoirref14.kept -/
def d86 : DFn := ⟨[(.c .one)], [(.c .one)], .pure, [.tmp 2],
(.seq (.reg false [
⟨some 2, none, [], .mov (.k (.bo false))⟩] [])
(.seq (.seq (.reg false [
⟨some 3, none, [], .mov (.t 0)⟩] [])
(.blk 0 (.seq (.seq (.reg false [
⟨some 5, none, [], .bin .no .eql (.t 3) (.k (.st [99, 111, 110, 116, 101, 110, 116, 45, 108, 101, 110, 103, 116, 104]))⟩,
⟨some 4, none, [], .mov (.t 5)⟩] [])
(.cond (.t 4)
.skip
(.seq (.reg false [
⟨some 6, none, [], .bin .no .eql (.t 3) (.k (.st [99, 111, 110, 116, 101, 110, 116, 45, 101, 110, 99, 111, 100, 105, 110, 103]))⟩,
⟨some 4, none, [], .mov (.t 6)⟩] [])
(.cond (.t 4)
.skip
(.seq (.reg false [
⟨some 7, none, [], .bin .no .eql (.t 3) (.k (.st [99, 111, 110, 116, 101, 110, 116, 45, 116, 121, 112, 101]))⟩,
⟨some 4, none, [], .mov (.t 7)⟩] [])
(.cond (.t 4)
.skip
(.reg false [
⟨some 8, none, [], .bin .no .eql (.t 3) (.k (.st [99, 111, 110, 116, 101, 110, 116, 45, 114, 97, 110, 103, 101]))⟩,
⟨some 4, none, [], .mov (.t 8)⟩] [])))))))
(.cond (.t 4)
(.seq (.reg false [
⟨some 2, none, [], .mov (.k (.bo true))⟩] [])
.ret)
.skip))))
(.seq (.reg false [
⟨some 2, none, [], .mov (.k (.bo false))⟩] [])
.ret)))⟩
def c86 : Ev.Fn := d86.den
def p86 : Pol := { loc := [], md := .pure, mds := mds, heap := [], own := [], ord := [], clr := [], mask := [], fns := [], lcl := [] }
theorem r86 : FnOK Try.prog mds 86 c86 := .read (pol := p86) (d := d86) Try.func86 (by kernel_rfl) (by kernel_rfl) rfl rfl (by kernel_rfl)

/- reservoir/reservoirref14.has -/
def d87 : DFn := ⟨[(.c (.sl [.one, .one])), (.c .one)], [(.c .one)], .pure, [.tmp 4],
(.seq (.reg false [
⟨some 4, none, [], .mov (.k (.bo false))⟩] [])
(.seq (.reg false [
⟨some 8, none, [], .mov (.t 0)⟩,
⟨some 9, none, [], .mov (.t 1)⟩,
⟨some 10, none, [], .call false .pure 43 [(.t 8), (.t 9)]⟩,
⟨some 7, none, [], .mov (.t 10)⟩,
⟨some 11, none, [], .ext (.t 7) 0⟩,
⟨some 12, none, [], .ext (.t 7) 1⟩,
⟨some 5, none, [], .mov (.t 11)⟩,
⟨some 6, none, [], .mov (.t 12)⟩] [])
(.seq (.reg false [
⟨some 13, none, [], .mov (.t 6)⟩,
⟨some 14, none, [], .bin .no .gtr (.t 13) (.k (.it .i64 0))⟩,
⟨some 4, none, [], .mov (.t 14)⟩] [])
.ret)))⟩
def c87 : Ev.Fn := d87.den
def p87 : Pol := { loc := [], md := .pure, mds := mds, heap := [], own := [], ord := [], clr := [], mask := [], fns := [], lcl := [] }
theorem r87 : FnOK Try.prog mds 87 c87 := .read (pol := p87) (d := d87) Try.func87 (by kernel_rfl) (by kernel_rfl) rfl rfl (by kernel_rfl)

/- reservoir/reservoirref14.strong -/
def d88 : DFn := ⟨[(.c .one)], [(.c .one)], .pure, [.tmp 2],
(.seq (.reg false [
⟨some 2, none, [], .mov (.k (.st []))⟩] [])
(.seq (.seq (.reg false [
⟨some 3, none, [], .mov (.t 0)⟩,
⟨some 4, none, [], .len true (.t 3)⟩,
⟨some 5, none, [], .bin .no .gtr (.t 4) (.k (.it .i64 1))⟩,
⟨some 6, none, [], .mov (.t 5)⟩,
⟨some 7, some (6, true), [], .mov (.t 0)⟩,
⟨some 8, some (6, true), [], .slc true 0 (.t 7) none (some (.k (.it .i64 2)))⟩,
⟨some 9, some (6, true), [], .bin .no .eql (.t 8) (.k (.st [87, 47]))⟩,
⟨some 10, none, [], .pick (.t 6) (.t 9) (.k (.bo false))⟩] [])
(.cond (.t 10)
(.seq (.reg false [
⟨some 11, none, [], .mov (.t 0)⟩,
⟨some 12, none, [], .slc true 0 (.t 11) (some (.k (.it .i64 2))) none⟩,
⟨some 2, none, [], .mov (.t 12)⟩] [])
.ret)
.skip))
(.seq (.reg false [
⟨some 13, none, [], .mov (.t 0)⟩,
⟨some 2, none, [], .mov (.t 13)⟩] [])
.ret)))⟩
def c88 : Ev.Fn := d88.den
def p88 : Pol := { loc := [], md := .pure, mds := mds, heap := [], own := [], ord := [], clr := [], mask := [], fns := [], lcl := [] }
theorem r88 : FnOK Try.prog mds 88 c88 := .read (pol := p88) (d := d88) Try.func88 (by kernel_rfl) (by kernel_rfl) rfl rfl (by kernel_rfl)

/- reservoir/token.Lower -/
def d89 : DFn := ⟨[(.c .one)], [(.c .one)], .pure, [.tmp 2],
(.seq (.reg false [
⟨some 2, none, [], .mov (.k (.st []))⟩] [])
(.seq (.reg false [
⟨some 6, none, [], .mov (.t 0)⟩,
⟨some 7, none, [], .cnv .s2b (.t 6)⟩,
⟨some 3, none, [], .mov (.t 7)⟩] [])
(.seq (.seq (.reg false [
⟨some 8, none, [], .mov (.t 3)⟩,
⟨some 9, none, [], .len false (.t 8)⟩,
⟨some 10, none, [], .mov (.k (.it .i64 0))⟩] [])
(.blk 0 (.loop [3, 8, 9, 10] []
(.seq (.reg false [
⟨some 11, none, [], .bin .no .lss (.t 10) (.t 9)⟩] [])
(.seq (.cond (.t 11)
.skip
(.exit 0))
(.seq (.blk 1 (.seq (.reg false [
⟨some 12, none, [], .mov (.t 10)⟩,
⟨some 13, none, [], .ias 1 (.t 8) (.t 10)⟩,
⟨some 14, none, [], .ld 1 false (.t 13)⟩,
⟨some 4, none, [], .mov (.t 12)⟩,
⟨some 5, none, [], .mov (.t 14)⟩] [])
(.seq (.reg false [
⟨some 15, none, [], .mov (.t 5)⟩,
⟨some 16, none, [], .bin .no .geq (.t 15) (.k (.it .u8 65))⟩,
⟨some 17, none, [], .mov (.t 16)⟩,
⟨some 18, some (17, true), [], .mov (.t 5)⟩,
⟨some 19, some (17, true), [], .bin .no .leq (.t 18) (.k (.it .u8 90))⟩,
⟨some 20, none, [], .pick (.t 17) (.t 19) (.k (.bo false))⟩] [])
(.cond (.t 20)
(.reg false [
⟨some 21, none, [], .mov (.t 3)⟩,
⟨some 22, none, [], .mov (.t 4)⟩,
⟨some 23, none, [], .mov (.t 5)⟩,
⟨some 24, none, [], .bin .no .add (.t 23) (.k (.it .u8 32))⟩,
⟨some 25, none, [], .ias 1 (.t 21) (.t 22)⟩,
⟨none, none, [], .sto 1 (.t 25) (.t 24)⟩] [])
.skip))))
(.reg false [
⟨some 26, none, [], .bin .no .add (.t 10) (.k (.it .i64 1))⟩,
⟨some 10, none, [], .mov (.t 26)⟩] [])))))))
(.seq (.reg false [
⟨some 27, none, [], .mov (.t 3)⟩,
⟨some 28, none, [], .cnv .b2s (.t 27)⟩,
⟨some 2, none, [], .mov (.t 28)⟩] [])
.ret))))⟩
def c89 : Ev.Fn := d89.den
def p89 : Pol := { loc := [], md := .pure, mds := mds, heap := [7], own := [7], ord := [], clr := [], mask := [(3, [3, 8, 9, 10], [])], fns := [], lcl := [] }
theorem r89 : FnOK Try.prog mds 89 c89 := .read (pol := p89) (d := d89) Try.func89 (by kernel_rfl) (by kernel_rfl) rfl rfl (by kernel_rfl)

end Go.Proofs.Ytcbiplmgaiipgaa.tab
