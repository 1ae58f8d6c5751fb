import Derived.Test.YtddohjlkjakdlaaTab
import Derived.KernelRfl
/- the functions of the seat, read off the program -/
namespace Go.Proofs.Ytddohjlkjakdlaa.tab
open Go hiding Fn
open Ev

/- reservoir/reservoirref14.Token -/
def d48 : DFn := ⟨[(.c .one)], [(.c .one)], .pure, [.tmp 2],
(.seq (.reg false [
⟨some 2, none, [], .mov (.k (.bo false))⟩] [])
(.seq (.seq (.reg false [
⟨some 3, none, [], .mov (.k (.it .i64 0))⟩] [])
(.blk 0 (.loop [0, 3] []
(.seq (.seq (.reg false [
⟨some 4, none, [], .mov (.t 3)⟩,
⟨some 5, none, [], .mov (.t 0)⟩,
⟨some 6, none, [], .len true (.t 5)⟩,
⟨some 7, none, [], .bin .no .lss (.t 4) (.t 6)⟩] [])
(.cond (.t 7)
.skip
(.exit 0)))
(.seq (.blk 1 (.seq (.reg false [
⟨some 10, none, [], .mov (.t 0)⟩,
⟨some 11, none, [], .mov (.t 3)⟩,
⟨some 12, none, [], .ixs (.t 10) (.t 11)⟩,
⟨some 13, none, [], .call false .pure 57 [(.t 12)]⟩,
⟨some 14, none, [], .un .not (.t 13)⟩] [])
(.cond (.t 14)
(.seq (.reg false [
⟨some 2, none, [], .mov (.k (.bo false))⟩] [])
.ret)
.skip)))
(.reg false [
⟨some 8, none, [], .mov (.t 3)⟩,
⟨some 9, none, [], .bin .no .add (.t 8) (.k (.it .i64 1))⟩,
⟨some 3, none, [], .mov (.t 9)⟩] []))))))
(.seq (.reg false [
⟨some 15, none, [], .mov (.t 0)⟩,
⟨some 16, none, [], .bin .no .neq (.t 15) (.k (.st []))⟩,
⟨some 2, none, [], .mov (.t 16)⟩] [])
.ret)))⟩
def c48 : Ev.Fn := d48.den
def p48 : Pol := { loc := [], md := .pure, mds := mds, heap := [], own := [], ord := [], clr := [], mask := [(2, [0, 3], [])], fns := [] }
theorem r48 : FnOK Try.prog mds 48 c48 := .read (pol := p48) (d := d48) Try.func48 (by kernel_rfl) (by kernel_rfl) rfl rfl (by kernel_rfl)

/- reservoir/reservoirref14.Lower -/
def d49 : DFn := ⟨[(.c .one)], [(.c .one)], .pure, [.tmp 2],
(.seq (.reg false [
⟨some 2, none, [], .mov (.k (.st []))⟩] [])
(.seq (.reg false [
⟨some 5, none, [], .mov (.t 0)⟩,
⟨some 6, none, [], .cnv .s2b (.t 5)⟩,
⟨some 3, none, [], .mov (.t 6)⟩] [])
(.seq (.seq (.reg false [
⟨some 4, none, [], .mov (.k (.it .i64 0))⟩] [])
(.blk 0 (.loop [3, 4] []
(.seq (.seq (.reg false [
⟨some 7, none, [], .mov (.t 4)⟩,
⟨some 8, none, [], .mov (.t 3)⟩,
⟨some 9, none, [], .len false (.t 8)⟩,
⟨some 10, none, [], .bin .no .lss (.t 7) (.t 9)⟩] [])
(.cond (.t 10)
.skip
(.exit 0)))
(.seq (.blk 1 (.seq (.reg false [
⟨some 13, none, [], .mov (.t 3)⟩,
⟨some 14, none, [], .mov (.t 4)⟩,
⟨some 15, none, [], .ias 1 (.t 13) (.t 14)⟩,
⟨some 16, none, [], .ld 1 false (.t 15)⟩,
⟨some 17, none, [], .bin .no .geq (.t 16) (.k (.it .u8 65))⟩,
⟨some 18, none, [], .mov (.t 17)⟩,
⟨some 19, some (18, true), [], .mov (.t 3)⟩,
⟨some 20, some (18, true), [], .mov (.t 4)⟩,
⟨some 21, some (18, true), [], .ias 1 (.t 19) (.t 20)⟩,
⟨some 22, some (18, true), [], .ld 1 false (.t 21)⟩,
⟨some 23, some (18, true), [], .bin .no .leq (.t 22) (.k (.it .u8 90))⟩,
⟨some 24, none, [], .pick (.t 18) (.t 23) (.k (.bo false))⟩] [])
(.cond (.t 24)
(.reg false [
⟨some 25, none, [], .mov (.t 3)⟩,
⟨some 26, none, [], .mov (.t 4)⟩,
⟨some 27, none, [], .mov (.t 3)⟩,
⟨some 28, none, [], .mov (.t 4)⟩,
⟨some 29, none, [], .ias 1 (.t 27) (.t 28)⟩,
⟨some 30, none, [], .ld 1 false (.t 29)⟩,
⟨some 31, none, [], .bin .no .add (.t 30) (.k (.it .u8 32))⟩,
⟨some 32, none, [], .ias 1 (.t 25) (.t 26)⟩,
⟨none, none, [], .sto 1 (.t 32) (.t 31)⟩] [])
.skip)))
(.reg false [
⟨some 11, none, [], .mov (.t 4)⟩,
⟨some 12, none, [], .bin .no .add (.t 11) (.k (.it .i64 1))⟩,
⟨some 4, none, [], .mov (.t 12)⟩] []))))))
(.seq (.reg false [
⟨some 33, none, [], .mov (.t 3)⟩,
⟨some 34, none, [], .cnv .b2s (.t 33)⟩,
⟨some 2, none, [], .mov (.t 34)⟩] [])
.ret))))⟩
def c49 : Ev.Fn := d49.den
def p49 : Pol := { loc := [], md := .pure, mds := mds, heap := [6], own := [6], ord := [], clr := [], mask := [(3, [3, 4], [])], fns := [] }
theorem r49 : FnOK Try.prog mds 49 c49 := .read (pol := p49) (d := d49) Try.func49 (by kernel_rfl) (by kernel_rfl) rfl rfl (by kernel_rfl)

/- reservoir/vary.Match -/
def d50 : DFn := ⟨[(.g [.one, .one, .one, .one, (.sl [.one, .one]), .one, .one, (.sl [.one, .one]), .one, .one, .one, .one]), (.g [.one, .one, .one, .one, (.sl [.one, .one]), .one])], [(.c .one)], .pure, [.tmp 4],
(.seq (.reg false [
⟨some 2, none, [], .box (.t 0)⟩,
⟨some 3, none, [], .box (.t 1)⟩,
⟨some 4, none, [], .mov (.k (.bo false))⟩] [])
(.seq (.reg false [
⟨some 14, none, [], .fad 6 (.t 2)⟩,
⟨some 15, none, [], .fad 1 (.t 14)⟩,
⟨some 16, none, [], .ld 1 false (.t 15)⟩,
⟨some 17, none, [], .call false .pure 58 [(.t 16)]⟩,
⟨some 13, none, [], .mov (.t 17)⟩,
⟨some 18, none, [], .ext (.t 13) 0⟩,
⟨some 19, none, [], .ext (.t 13) 1⟩,
⟨some 5, none, [], .mov (.t 18)⟩,
⟨some 6, none, [], .mov (.t 19)⟩] [14, 15])
(.seq (.seq (.reg false [
⟨some 20, none, [], .mov (.t 6)⟩] [])
(.cond (.t 20)
(.seq (.reg false [
⟨some 4, none, [], .mov (.k (.bo false))⟩] [])
.ret)
.skip))
(.seq (.seq (.reg false [
⟨some 21, none, [], .mov (.t 5)⟩,
⟨some 22, none, [], .len false (.t 21)⟩,
⟨some 23, none, [], .mov (.k (.it .i64 0))⟩] [])
(.blk 0 (.loop [2, 3, 21, 22, 23] []
(.seq (.reg false [
⟨some 24, none, [], .bin .no .lss (.t 23) (.t 22)⟩] [])
(.seq (.cond (.t 24)
.skip
(.exit 0))
(.seq (.blk 1 (.seq (.reg false [
⟨some 25, none, [], .ias 1 (.t 21) (.t 23)⟩,
⟨some 26, none, [], .ld 1 false (.t 25)⟩,
⟨some 8, none, [], .mov (.t 26)⟩] [])
(.seq (.reg false [
⟨some 28, none, [], .fad 0 (.t 2)⟩,
⟨some 29, none, [], .fad 4 (.t 28)⟩,
⟨some 30, none, [], .ld 1 false (.t 29)⟩,
⟨some 31, none, [], .mov (.t 8)⟩,
⟨some 32, none, [], .call false .pure 59 [(.t 30), (.t 31)]⟩,
⟨some 27, none, [], .mov (.t 32)⟩,
⟨some 33, none, [], .ext (.t 27) 0⟩,
⟨some 34, none, [], .ext (.t 27) 1⟩,
⟨some 9, none, [], .mov (.t 33)⟩,
⟨some 10, none, [], .mov (.t 34)⟩] [28, 29])
(.seq (.reg false [
⟨some 36, none, [], .fad 4 (.t 3)⟩,
⟨some 37, none, [], .ld 1 false (.t 36)⟩,
⟨some 38, none, [], .mov (.t 8)⟩,
⟨some 39, none, [], .call false .pure 59 [(.t 37), (.t 38)]⟩,
⟨some 35, none, [], .mov (.t 39)⟩,
⟨some 40, none, [], .ext (.t 35) 0⟩,
⟨some 41, none, [], .ext (.t 35) 1⟩,
⟨some 11, none, [], .mov (.t 40)⟩,
⟨some 12, none, [], .mov (.t 41)⟩] [36])
(.seq (.reg false [
⟨some 42, none, [], .mov (.t 10)⟩,
⟨some 43, none, [], .bin .no .gtr (.t 42) (.k (.it .i64 0))⟩,
⟨some 44, none, [], .mov (.t 12)⟩,
⟨some 45, none, [], .bin .no .gtr (.t 44) (.k (.it .i64 0))⟩,
⟨some 46, none, [], .bin .bo .neq (.t 43) (.t 45)⟩,
⟨some 47, none, [], .mov (.t 46)⟩,
⟨some 48, some (47, false), [], .mov (.t 9)⟩,
⟨some 49, some (47, false), [], .call false .pure 60 [(.t 48)]⟩,
⟨some 50, some (47, false), [], .mov (.t 11)⟩,
⟨some 51, some (47, false), [], .call false .pure 60 [(.t 50)]⟩,
⟨some 52, some (47, false), [], .bin .no .neq (.t 49) (.t 51)⟩,
⟨some 53, none, [], .pick (.t 47) (.k (.bo true)) (.t 52)⟩] [])
(.cond (.t 53)
(.seq (.reg false [
⟨some 4, none, [], .mov (.k (.bo false))⟩] [])
.ret)
.skip))))))
(.reg false [
⟨some 54, none, [], .bin .no .add (.t 23) (.k (.it .i64 1))⟩,
⟨some 23, none, [], .mov (.t 54)⟩] [])))))))
(.seq (.reg false [
⟨some 4, none, [], .mov (.k (.bo true))⟩] [])
.ret)))))⟩
def c50 : Ev.Fn := d50.den
def p50 : Pol := { loc := [2, 3], md := .pure, mds := mds, heap := [], own := [], ord := [(0, [2, 0, 1]), (9, [0, 1, 2, 3, 4, 5, 6, 8, 7, 9, 10, 11])], clr := [(1, [14, 15]), (7, [28, 29]), (8, [36])], mask := [(5, [2, 3, 21, 22, 23], [])], fns := [] }
theorem r50 : FnOK Try.prog mds 50 c50 := .read (pol := p50) (d := d50) Try.func50 (by kernel_rfl) (by kernel_rfl) rfl rfl (by kernel_rfl)

/- slices.IndexFunc[[]reservoir/api.Entry,reservoir/api.Entry] -/
def d53 : DFn := ⟨[(.c (.sl [.one, .one, .one, .one, (.sl [.one, .one]), .one, .one, (.sl [.one, .one]), .one, .one, .one, .one])), (.c .one)], [(.c .one)], .rw, [.tmp 4],
(.seq (.reg false [
⟨some 4, none, [], .mov (.k (.it .i64 0))⟩] [])
(.seq (.seq (.reg false [
⟨some 6, none, [], .mov (.t 0)⟩,
⟨some 7, none, [], .len false (.t 6)⟩,
⟨some 8, none, [], .mov (.k (.it .i64 0))⟩] [])
(.blk 0 (.loop [0, 1, 7, 8] []
(.seq (.reg false [
⟨some 9, none, [], .bin .no .lss (.t 8) (.t 7)⟩] [])
(.seq (.cond (.t 9)
.skip
(.exit 0))
(.seq (.blk 1 (.seq (.reg false [
⟨some 10, none, [], .mov (.t 8)⟩,
⟨some 5, none, [], .mov (.t 10)⟩] [])
(.seq (.reg false [
⟨some 11, none, [], .mov (.t 1)⟩,
⟨some 12, none, [], .mov (.t 0)⟩,
⟨some 13, none, [], .mov (.t 5)⟩,
⟨some 14, none, [], .ias 12 (.t 12) (.t 13)⟩,
⟨some 15, none, [], .ld 12 true (.t 14)⟩,
⟨some 16, none, [], .calv [] (.t 11) [(.t 15)]⟩] [])
(.cond (.t 16)
(.seq (.reg false [
⟨some 17, none, [], .mov (.t 5)⟩,
⟨some 4, none, [], .mov (.t 17)⟩] [])
.ret)
.skip))))
(.reg false [
⟨some 18, none, [], .bin .no .add (.t 8) (.k (.it .i64 1))⟩,
⟨some 8, none, [], .mov (.t 18)⟩] [])))))))
(.seq (.reg false [
⟨some 4, none, [], .mov (.k (.it .i64 (-1)))⟩] [])
.ret)))⟩
def c53 : Ev.Fn := d53.den
def p53 : Pol := { loc := [], md := .rw, mds := mds, heap := [], own := [], ord := [], clr := [], mask := [(2, [0, 1, 7, 8], [])], fns := [] }
theorem r53 : FnOK Try.prog mds 53 c53 := .read (pol := p53) (d := d53) Try.func53 (by kernel_rfl) (by kernel_rfl) rfl rfl (by kernel_rfl)

/- (*reservoir/store.Store).find$1 -/
def d54 : DFn := ⟨[(.g [.one, .one, .one, .one, (.sl [.one, .one]), .one, .one, (.sl [.one, .one]), .one, .one, .one, .one]), (.c .one)], [(.c .one)], .rw, [.tmp 3],
(.seq (.reg false [
⟨some 2, none, [], .box (.t 0)⟩,
⟨some 3, none, [], .mov (.k (.bo false))⟩] [])
(.seq (.reg false [
⟨some 4, none, [], .ld 12 true (.t 2)⟩,
⟨some 5, none, [], .ld 6 true (.t 1)⟩,
⟨some 6, none, [], .call false .pure 32 [(.t 4), (.t 5)]⟩,
⟨some 3, none, [], .mov (.t 6)⟩] [])
.ret))⟩
def c54 : Ev.Fn := d54.den
def p54 : Pol := { loc := [2], md := .rw, mds := mds, heap := [], own := [], ord := [(0, [1, 0])], clr := [], mask := [], fns := [] }
theorem r54 : FnOK Try.prog mds 54 c54 := .read (pol := p54) (d := d54) Try.func54 (by kernel_rfl) (by kernel_rfl) rfl rfl (by kernel_rfl)

/- reservoir/reservoirref14.Trim -/
def d55 : DFn := ⟨[(.c .one)], [(.c .one)], .pure, [.tmp 2],
(.seq (.reg false [
⟨some 2, none, [], .mov (.k (.st []))⟩] [])
(.seq (.blk 0 (.loop [0] []
(.seq (.seq (.reg false [
⟨some 3, none, [], .mov (.t 0)⟩,
⟨some 4, none, [], .len true (.t 3)⟩,
⟨some 5, none, [], .bin .no .gtr (.t 4) (.k (.it .i64 0))⟩,
⟨some 6, none, [], .mov (.t 5)⟩,
⟨some 7, some (6, true), [], .mov (.t 0)⟩,
⟨some 8, some (6, true), [], .ixs (.t 7) (.k (.it .i64 0))⟩,
⟨some 9, some (6, true), [], .call false .pure 63 [(.t 8)]⟩,
⟨some 10, none, [], .pick (.t 6) (.t 9) (.k (.bo false))⟩] [])
(.cond (.t 10)
.skip
(.exit 0)))
(.blk 1 (.reg false [
⟨some 11, none, [], .mov (.t 0)⟩,
⟨some 12, none, [], .slc true 0 (.t 11) (some (.k (.it .i64 1))) none⟩,
⟨some 0, none, [], .mov (.t 12)⟩] [])))))
(.seq (.blk 2 (.loop [0] []
(.seq (.seq (.reg false [
⟨some 13, none, [], .mov (.t 0)⟩,
⟨some 14, none, [], .len true (.t 13)⟩,
⟨some 15, none, [], .bin .no .gtr (.t 14) (.k (.it .i64 0))⟩,
⟨some 16, none, [], .mov (.t 15)⟩,
⟨some 17, some (16, true), [], .mov (.t 0)⟩,
⟨some 18, some (16, true), [], .mov (.t 0)⟩,
⟨some 19, some (16, true), [], .len true (.t 18)⟩,
⟨some 20, some (16, true), [], .bin .no .sub (.t 19) (.k (.it .i64 1))⟩,
⟨some 21, some (16, true), [], .ixs (.t 17) (.t 20)⟩,
⟨some 22, some (16, true), [], .call false .pure 63 [(.t 21)]⟩,
⟨some 23, none, [], .pick (.t 16) (.t 22) (.k (.bo false))⟩] [])
(.cond (.t 23)
.skip
(.exit 2)))
(.blk 3 (.reg false [
⟨some 24, none, [], .mov (.t 0)⟩,
⟨some 25, none, [], .mov (.t 0)⟩,
⟨some 26, none, [], .len true (.t 25)⟩,
⟨some 27, none, [], .bin .no .sub (.t 26) (.k (.it .i64 1))⟩,
⟨some 28, none, [], .slc true 0 (.t 24) none (some (.t 27))⟩,
⟨some 0, none, [], .mov (.t 28)⟩] [])))))
(.seq (.reg false [
⟨some 29, none, [], .mov (.t 0)⟩,
⟨some 2, none, [], .mov (.t 29)⟩] [])
.ret))))⟩
def c55 : Ev.Fn := d55.den
def p55 : Pol := { loc := [], md := .pure, mds := mds, heap := [], own := [], ord := [], clr := [], mask := [(1, [0], []), (3, [0], [])], fns := [] }
theorem r55 : FnOK Try.prog mds 55 c55 := .read (pol := p55) (d := d55) Try.func55 (by kernel_rfl) (by kernel_rfl) rfl rfl (by kernel_rfl)

/- reservoir/reservoirbook.Same[reservoir/api.Field] -/
def d56 : DFn := ⟨[(.c (.sl [.one, .one])), (.c (.sl [.one, .one]))], [(.c .one)], .ro, [.tmp 4],
(.seq (.reg false [
⟨some 4, none, [], .mov (.k (.bo false))⟩] [])
(.seq (.seq (.reg false [
⟨some 6, none, [], .mov (.t 0)⟩,
⟨some 7, none, [], .len false (.t 6)⟩,
⟨some 8, none, [], .mov (.t 1)⟩,
⟨some 9, none, [], .len false (.t 8)⟩,
⟨some 10, none, [], .bin .no .neq (.t 7) (.t 9)⟩] [])
(.cond (.t 10)
(.seq (.reg false [
⟨some 4, none, [], .mov (.k (.bo false))⟩] [])
.ret)
.skip))
(.seq (.seq (.reg false [
⟨some 5, none, [], .mov (.k (.it .i64 0))⟩] [])
(.blk 0 (.loop [0, 1, 5] []
(.seq (.seq (.reg false [
⟨some 11, none, [], .mov (.t 5)⟩,
⟨some 12, none, [], .mov (.t 0)⟩,
⟨some 13, none, [], .len false (.t 12)⟩,
⟨some 14, none, [], .bin .no .lss (.t 11) (.t 13)⟩] [])
(.cond (.t 14)
.skip
(.exit 0)))
(.seq (.blk 1 (.seq (.reg true [
⟨some 17, none, [], .mov (.t 0)⟩,
⟨some 18, none, [], .mov (.t 5)⟩,
⟨some 19, none, [], .ias 2 (.t 17) (.t 18)⟩,
⟨some 20, none, [], .ld 2 true (.t 19)⟩,
⟨some 21, none, [], .mov (.t 1)⟩,
⟨some 22, none, [], .mov (.t 5)⟩,
⟨some 23, none, [], .ias 2 (.t 21) (.t 22)⟩,
⟨some 24, none, [], .ld 2 true (.t 23)⟩,
⟨some 25, none, [], .bin (.ag [1, 1]) .neq (.t 20) (.t 24)⟩] [])
(.cond (.t 25)
(.seq (.reg false [
⟨some 4, none, [], .mov (.k (.bo false))⟩] [])
.ret)
.skip)))
(.reg false [
⟨some 15, none, [], .mov (.t 5)⟩,
⟨some 16, none, [], .bin .no .add (.t 15) (.k (.it .i64 1))⟩,
⟨some 5, none, [], .mov (.t 16)⟩] []))))))
(.seq (.reg false [
⟨some 4, none, [], .mov (.k (.bo true))⟩] [])
.ret))))⟩
def c56 : Ev.Fn := d56.den
def p56 : Pol := { loc := [], md := .ro, mds := mds, heap := [], own := [], ord := [], clr := [], mask := [(4, [0, 1, 5], [])], fns := [] }
theorem r56 : FnOK Try.prog mds 56 c56 := .read (pol := p56) (d := d56) Try.func56 (by kernel_rfl) (by kernel_rfl) rfl rfl (by kernel_rfl)

/- reservoir/reservoirref14.tchar -/
def d57 : DFn := ⟨[(.c .one)], [(.c .one)], .pure, [.tmp 2],
(.seq (.reg false [
⟨some 2, none, [], .mov (.k (.bo false))⟩] [])
(.seq (.seq (.reg false [
⟨some 4, none, [], .mov (.t 0)⟩,
⟨some 5, none, [], .bin .no .geq (.t 4) (.k (.it .u8 48))⟩,
⟨some 6, none, [], .mov (.t 5)⟩,
⟨some 7, some (6, true), [], .mov (.t 0)⟩,
⟨some 8, some (6, true), [], .bin .no .leq (.t 7) (.k (.it .u8 57))⟩,
⟨some 9, none, [], .pick (.t 6) (.t 8) (.k (.bo false))⟩,
⟨some 10, none, [], .mov (.t 9)⟩,
⟨some 11, some (10, false), [], .mov (.t 0)⟩,
⟨some 12, some (10, false), [], .bin .no .geq (.t 11) (.k (.it .u8 97))⟩,
⟨some 13, some (10, false), [], .mov (.t 12)⟩,
⟨some 14, some (13, true), [], .mov (.t 0)⟩,
⟨some 15, some (13, true), [], .bin .no .leq (.t 14) (.k (.it .u8 122))⟩,
⟨some 16, some (10, false), [], .pick (.t 13) (.t 15) (.k (.bo false))⟩,
⟨some 17, none, [], .pick (.t 10) (.k (.bo true)) (.t 16)⟩,
⟨some 18, none, [], .mov (.t 17)⟩,
⟨some 19, some (18, false), [], .mov (.t 0)⟩,
⟨some 20, some (18, false), [], .bin .no .geq (.t 19) (.k (.it .u8 65))⟩,
⟨some 21, some (18, false), [], .mov (.t 20)⟩,
⟨some 22, some (21, true), [], .mov (.t 0)⟩,
⟨some 23, some (21, true), [], .bin .no .leq (.t 22) (.k (.it .u8 90))⟩,
⟨some 24, some (18, false), [], .pick (.t 21) (.t 23) (.k (.bo false))⟩,
⟨some 25, none, [], .pick (.t 18) (.k (.bo true)) (.t 24)⟩] [])
(.cond (.t 25)
(.seq (.reg false [
⟨some 2, none, [], .mov (.k (.bo true))⟩] [])
.ret)
.skip))
(.seq (.seq (.reg false [
⟨some 3, none, [], .mov (.k (.it .i64 0))⟩] [])
(.blk 0 (.loop [0, 3] []
(.seq (.seq (.reg false [
⟨some 26, none, [], .mov (.t 3)⟩,
⟨some 27, none, [], .bin .no .lss (.t 26) (.k (.it .i64 15))⟩] [])
(.cond (.t 27)
.skip
(.exit 0)))
(.seq (.blk 1 (.seq (.reg false [
⟨some 30, none, [], .mov (.t 3)⟩,
⟨some 31, none, [], .ixs (.k (.st [33, 35, 36, 37, 38, 39, 42, 43, 45, 46, 94, 95, 96, 124, 126])) (.t 30)⟩,
⟨some 32, none, [], .mov (.t 0)⟩,
⟨some 33, none, [], .bin .no .eql (.t 31) (.t 32)⟩] [])
(.cond (.t 33)
(.seq (.reg false [
⟨some 2, none, [], .mov (.k (.bo true))⟩] [])
.ret)
.skip)))
(.reg false [
⟨some 28, none, [], .mov (.t 3)⟩,
⟨some 29, none, [], .bin .no .add (.t 28) (.k (.it .i64 1))⟩,
⟨some 3, none, [], .mov (.t 29)⟩] []))))))
(.seq (.reg false [
⟨some 2, none, [], .mov (.k (.bo false))⟩] [])
.ret))))⟩
def c57 : Ev.Fn := d57.den
def p57 : Pol := { loc := [], md := .pure, mds := mds, heap := [], own := [], ord := [], clr := [], mask := [(4, [0, 3], [])], fns := [] }
theorem r57 : FnOK Try.prog mds 57 c57 := .read (pol := p57) (d := d57) Try.func57 (by kernel_rfl) (by kernel_rfl) rfl rfl (by kernel_rfl)

/- reservoir/keep.Stars -/
def d58 : DFn := ⟨[(.c (.sl [.one, .one]))], [(.c (.sl [.one])), (.c .one)], .pure, [.tmp 2, .tmp 3],
(.seq (.reg false [
⟨some 2, none, [], .mov (.k .ns)⟩,
⟨some 3, none, [], .mov (.k (.bo false))⟩] [])
(.seq (.reg false [
⟨some 11, none, [], .mov (.t 0)⟩,
⟨some 12, none, [], .call false .pure 59 [(.t 11), (.k (.st [118, 97, 114, 121]))]⟩,
⟨some 10, none, [], .mov (.t 12)⟩,
⟨some 13, none, [], .ext (.t 10) 0⟩,
⟨some 14, none, [], .ext (.t 10) 1⟩,
⟨some 4, none, [], .mov (.t 13)⟩,
⟨some 5, none, [], .mov (.t 14)⟩] [])
(.seq (.reg false [
⟨some 16, none, [], .mov (.t 4)⟩,
⟨some 17, none, [], .call true .rw 64 [(.t 16)]⟩,
⟨some 15, none, [], .mov (.t 17)⟩,
⟨some 18, none, [], .ext (.t 15) 0⟩,
⟨some 19, none, [], .ext (.t 15) 1⟩,
⟨some 6, none, [], .mov (.t 18)⟩,
⟨some 7, none, [], .mov (.t 19)⟩] [])
(.seq (.seq (.reg false [
⟨some 20, none, [], .mov (.t 7)⟩,
⟨some 21, none, [], .un .not (.t 20)⟩] [])
(.cond (.t 21)
(.seq (.reg false [
⟨some 2, none, [], .mov (.k .ns)⟩,
⟨some 3, none, [], .mov (.k (.bo true))⟩] [])
.ret)
.skip))
(.seq (.seq (.reg false [
⟨some 22, none, [], .mov (.t 6)⟩,
⟨some 23, none, [], .len false (.t 22)⟩,
⟨some 24, none, [], .mov (.k (.it .i64 0))⟩] [])
(.blk 0 (.loop [6, 22, 23, 24] []
(.seq (.reg false [
⟨some 25, none, [], .bin .no .lss (.t 24) (.t 23)⟩] [])
(.seq (.cond (.t 25)
.skip
(.exit 0))
(.seq (.blk 1 (.seq (.reg false [
⟨some 26, none, [], .mov (.t 24)⟩,
⟨some 27, none, [], .ias 1 (.t 22) (.t 24)⟩,
⟨some 28, none, [], .ld 1 false (.t 27)⟩,
⟨some 8, none, [], .mov (.t 26)⟩,
⟨some 9, none, [], .mov (.t 28)⟩] [])
(.seq (.seq (.reg false [
⟨some 29, none, [], .mov (.t 9)⟩,
⟨some 30, none, [], .bin .no .eql (.t 29) (.k (.st [42]))⟩,
⟨some 31, none, [], .mov (.t 30)⟩,
⟨some 32, some (31, false), [], .mov (.t 9)⟩,
⟨some 33, some (31, false), [], .call false .pure 65 [(.t 32)]⟩,
⟨some 34, some (31, false), [], .un .not (.t 33)⟩,
⟨some 35, none, [], .pick (.t 31) (.k (.bo true)) (.t 34)⟩] [])
(.cond (.t 35)
(.seq (.reg false [
⟨some 2, none, [], .mov (.k .ns)⟩,
⟨some 3, none, [], .mov (.k (.bo true))⟩] [])
.ret)
.skip))
(.reg false [
⟨some 36, none, [], .mov (.t 6)⟩,
⟨some 37, none, [], .mov (.t 8)⟩,
⟨some 38, none, [], .mov (.t 9)⟩,
⟨some 39, none, [], .call true .pure 66 [(.t 38)]⟩,
⟨some 40, none, [], .ias 1 (.t 36) (.t 37)⟩,
⟨none, none, [], .sto 1 (.t 40) (.t 39)⟩] []))))
(.reg false [
⟨some 41, none, [], .bin .no .add (.t 24) (.k (.it .i64 1))⟩,
⟨some 24, none, [], .mov (.t 41)⟩] [])))))))
(.seq (.reg false [
⟨some 42, none, [], .mov (.t 6)⟩,
⟨some 2, none, [], .mov (.t 42)⟩,
⟨some 3, none, [], .mov (.k (.bo false))⟩] [])
.ret))))))⟩
def c58 : Ev.Fn := d58.den
def p58 : Pol := { loc := [], md := .pure, mds := mds, heap := [17, 39], own := [17, 39], ord := [], clr := [], mask := [(6, [6, 22, 23, 24], [])], fns := [] }
theorem r58 : FnOK Try.prog mds 58 c58 := .read (pol := p58) (d := d58) Try.func58 (by kernel_rfl) (by kernel_rfl) rfl rfl (by kernel_rfl)

/- reservoir/token.All -/
def d59 : DFn := ⟨[(.c (.sl [.one, .one])), (.c .one)], [(.c .one), (.c .one)], .pure, [.tmp 4, .tmp 5],
(.seq (.reg false [
⟨some 4, none, [], .mov (.k (.st []))⟩,
⟨some 5, none, [], .mov (.k (.it .i64 0))⟩] [])
(.seq (.reg false [
⟨some 6, none, [], .mov (.k .ns)⟩] [])
(.seq (.seq (.reg false [
⟨some 9, none, [], .mov (.t 0)⟩,
⟨some 10, none, [], .len false (.t 9)⟩,
⟨some 11, none, [], .mov (.k (.it .i64 0))⟩] [])
(.blk 0 (.loop [1, 6, 9, 10, 11] [8]
(.seq (.reg false [
⟨some 12, none, [], .bin .no .lss (.t 11) (.t 10)⟩] [])
(.seq (.cond (.t 12)
.skip
(.exit 0))
(.seq (.blk 1 (.seq (.reg false [
⟨some 13, none, [], .ias 2 (.t 9) (.t 11)⟩,
⟨some 14, none, [], .ld 2 true (.t 13)⟩,
⟨some 8, none, [], .alc [(.st []), (.st [])]⟩,
⟨none, none, [], .sto 2 (.t 8) (.t 14)⟩] [])
(.seq (.reg false [
⟨some 15, none, [], .fad 0 (.t 8)⟩,
⟨some 16, none, [], .ld 1 false (.t 15)⟩,
⟨some 17, none, [], .mov (.t 1)⟩,
⟨some 18, none, [], .bin .no .eql (.t 16) (.t 17)⟩] [15])
(.cond (.t 18)
(.reg false [
⟨some 19, none, [], .mov (.t 6)⟩,
⟨some 20, none, [], .fad 1 (.t 8)⟩,
⟨some 21, none, [], .ld 1 false (.t 20)⟩,
⟨some 22, none, [], .bsv [.one] 1 [[(.st [])]] [(0, (.t 21))]⟩,
⟨some 23, none, [], .app 1 16 (.t 19) (.t 22)⟩,
⟨some 6, none, [], .mov (.t 23)⟩] [20])
.skip))))
(.reg false [
⟨some 24, none, [], .bin .no .add (.t 11) (.k (.it .i64 1))⟩,
⟨some 11, none, [], .mov (.t 24)⟩] [])))))))
(.seq (.reg false [
⟨some 25, none, [], .mov (.t 6)⟩,
⟨some 26, none, [], .call false .pure 67 [(.t 25), (.k (.st [44, 32]))]⟩,
⟨some 27, none, [], .mov (.t 6)⟩,
⟨some 28, none, [], .len false (.t 27)⟩,
⟨some 4, none, [], .mov (.t 26)⟩,
⟨some 5, none, [], .mov (.t 28)⟩] [])
.ret))))⟩
def c59 : Ev.Fn := d59.den
def p59 : Pol := { loc := [8], md := .pure, mds := mds, heap := [23], own := [23], ord := [(8, [0, 2, 3, 1, 4, 5])], clr := [(5, [15]), (6, [20])], mask := [(3, [1, 6, 9, 10, 11], [8])], fns := [] }
theorem r59 : FnOK Try.prog mds 59 c59 := .read (pol := p59) (d := d59) Try.func59 (by kernel_rfl) (by kernel_rfl) rfl rfl (by kernel_rfl)

/- reservoir/token.Trim -/
def d60 : DFn := ⟨[(.c .one)], [(.c .one)], .pure, [.tmp 2],
(.seq (.reg false [
⟨some 2, none, [], .mov (.k (.st []))⟩] [])
(.seq (.blk 0 (.loop [0] []
(.seq (.seq (.reg false [
⟨some 3, none, [], .mov (.t 0)⟩,
⟨some 4, none, [], .bin .no .neq (.t 3) (.k (.st []))⟩,
⟨some 5, none, [], .mov (.t 4)⟩,
⟨some 6, some (5, true), [], .mov (.t 0)⟩,
⟨some 7, some (5, true), [], .ixs (.t 6) (.k (.it .i64 0))⟩,
⟨some 8, some (5, true), [], .call false .pure 68 [(.t 7)]⟩,
⟨some 9, none, [], .pick (.t 5) (.t 8) (.k (.bo false))⟩] [])
(.cond (.t 9)
.skip
(.exit 0)))
(.blk 1 (.reg false [
⟨some 10, none, [], .mov (.t 0)⟩,
⟨some 11, none, [], .slc true 0 (.t 10) (some (.k (.it .i64 1))) none⟩,
⟨some 0, none, [], .mov (.t 11)⟩] [])))))
(.seq (.blk 2 (.loop [0] []
(.seq (.seq (.reg false [
⟨some 12, none, [], .mov (.t 0)⟩,
⟨some 13, none, [], .bin .no .neq (.t 12) (.k (.st []))⟩,
⟨some 14, none, [], .mov (.t 13)⟩,
⟨some 15, some (14, true), [], .mov (.t 0)⟩,
⟨some 16, some (14, true), [], .mov (.t 0)⟩,
⟨some 17, some (14, true), [], .len true (.t 16)⟩,
⟨some 18, some (14, true), [], .bin .no .sub (.t 17) (.k (.it .i64 1))⟩,
⟨some 19, some (14, true), [], .ixs (.t 15) (.t 18)⟩,
⟨some 20, some (14, true), [], .call false .pure 68 [(.t 19)]⟩,
⟨some 21, none, [], .pick (.t 14) (.t 20) (.k (.bo false))⟩] [])
(.cond (.t 21)
.skip
(.exit 2)))
(.blk 3 (.reg false [
⟨some 22, none, [], .mov (.t 0)⟩,
⟨some 23, none, [], .mov (.t 0)⟩,
⟨some 24, none, [], .len true (.t 23)⟩,
⟨some 25, none, [], .bin .no .sub (.t 24) (.k (.it .i64 1))⟩,
⟨some 26, none, [], .slc true 0 (.t 22) none (some (.t 25))⟩,
⟨some 0, none, [], .mov (.t 26)⟩] [])))))
(.seq (.reg false [
⟨some 27, none, [], .mov (.t 0)⟩,
⟨some 2, none, [], .mov (.t 27)⟩] [])
.ret))))⟩
def c60 : Ev.Fn := d60.den
def p60 : Pol := { loc := [], md := .pure, mds := mds, heap := [], own := [], ord := [], clr := [], mask := [(1, [0], []), (3, [0], [])], fns := [] }
theorem r60 : FnOK Try.prog mds 60 c60 := .read (pol := p60) (d := d60) Try.func60 (by kernel_rfl) (by kernel_rfl) rfl rfl (by kernel_rfl)

/- reservoir/reservoirref14.blank -/
def d63 : DFn := ⟨[(.c .one)], [(.c .one)], .pure, [.tmp 2],
(.seq (.reg false [
⟨some 2, none, [], .mov (.k (.bo false))⟩] [])
(.seq (.reg false [
⟨some 3, none, [], .mov (.t 0)⟩,
⟨some 4, none, [], .bin .no .eql (.t 3) (.k (.it .u8 32))⟩,
⟨some 5, none, [], .mov (.t 4)⟩,
⟨some 6, some (5, false), [], .mov (.t 0)⟩,
⟨some 7, some (5, false), [], .bin .no .eql (.t 6) (.k (.it .u8 9))⟩,
⟨some 8, none, [], .pick (.t 5) (.k (.bo true)) (.t 7)⟩,
⟨some 2, none, [], .mov (.t 8)⟩] [])
.ret))⟩
def c63 : Ev.Fn := d63.den
def p63 : Pol := { loc := [], md := .pure, mds := mds, heap := [], own := [], ord := [], clr := [], mask := [], fns := [] }
theorem r63 : FnOK Try.prog mds 63 c63 := .read (pol := p63) (d := d63) Try.func63 (by kernel_rfl) (by kernel_rfl) rfl rfl (by kernel_rfl)

/- reservoir/token.Split -/
def d64 : DFn := ⟨[(.c .one)], [(.c (.sl [.one])), (.c .one)], .rw, [.tmp 2, .tmp 3],
(.seq (.reg false [
⟨some 1, none, [], .bxh (.t 0)⟩,
⟨some 2, none, [], .mov (.k .ns)⟩,
⟨some 3, none, [], .mov (.k (.bo false))⟩] [])
(.seq (.reg false [
⟨some 4, none, [], .alh [.ns]⟩] [])
(.seq (.reg false [
⟨some 5, none, [], .alh [(.it .i64 0)]⟩,
⟨none, none, [], .sto 1 (.t 5) (.k (.it .i64 0))⟩] [])
(.seq (.reg false [
⟨some 10, none, [], .mkf 70 [] [(.t 1), (.t 5), (.t 4)]⟩,
⟨some 6, none, [], .mov (.t 10)⟩] [])
(.seq (.seq (.reg false [
⟨some 7, none, [], .mov (.k (.it .i64 0))⟩] [])
(.blk 0 (.loop [1, 4, 5, 6, 7] []
(.seq (.seq (.reg false [
⟨some 11, none, [], .mov (.t 7)⟩,
⟨some 12, none, [], .ld 1 false (.t 1)⟩,
⟨some 13, none, [], .len true (.t 12)⟩,
⟨some 14, none, [], .bin .no .lss (.t 11) (.t 13)⟩] [])
(.cond (.t 14)
.skip
(.exit 0)))
(.blk 1 (.seq (.reg false [
⟨some 15, none, [], .ld 1 false (.t 1)⟩,
⟨some 16, none, [], .mov (.t 7)⟩,
⟨some 17, none, [], .ixs (.t 15) (.t 16)⟩] [])
(.blk 2 (.seq (.reg false [
⟨some 21, none, [], .bin .no .eql (.t 17) (.k (.it .u8 44))⟩,
⟨some 20, none, [], .mov (.t 21)⟩] [])
(.cond (.t 20)
(.seq (.reg false [
⟨some 22, none, [], .mov (.t 6)⟩,
⟨some 23, none, [], .mov (.t 7)⟩,
⟨some 24, none, [], .calv [] (.t 22) [(.t 23)]⟩] [])
(.seq (.reg false [
⟨some 25, none, [], .mov (.t 7)⟩,
⟨some 26, none, [], .bin .no .add (.t 25) (.k (.it .i64 1))⟩,
⟨some 7, none, [], .mov (.t 26)⟩] [])
(.reg false [
⟨some 27, none, [], .mov (.t 7)⟩,
⟨none, none, [], .sto 1 (.t 5) (.t 27)⟩] [])))
(.seq (.reg false [
⟨some 29, none, [], .bin .no .eql (.t 17) (.k (.it .u8 34))⟩,
⟨some 28, none, [], .mov (.t 29)⟩] [])
(.cond (.t 28)
(.seq (.reg false [
⟨some 31, none, [], .ld 1 false (.t 1)⟩,
⟨some 32, none, [], .mov (.t 7)⟩,
⟨some 33, none, [], .call true .pure 71 [(.t 31), (.t 32)]⟩,
⟨some 30, none, [], .mov (.t 33)⟩,
⟨some 34, none, [], .ext (.t 30) 0⟩,
⟨some 35, none, [], .ext (.t 30) 1⟩,
⟨some 8, none, [], .mov (.t 34)⟩,
⟨some 9, none, [], .mov (.t 35)⟩] [])
(.seq (.seq (.reg false [
⟨some 36, none, [], .mov (.t 9)⟩,
⟨some 37, none, [], .un .not (.t 36)⟩] [])
(.cond (.t 37)
(.seq (.reg false [
⟨some 2, none, [], .mov (.k .ns)⟩,
⟨some 3, none, [], .mov (.k (.bo false))⟩] [])
.ret)
.skip))
(.reg false [
⟨some 38, none, [], .mov (.t 8)⟩,
⟨some 7, none, [], .mov (.t 38)⟩] [])))
(.reg false [
⟨some 18, none, [], .mov (.t 7)⟩,
⟨some 19, none, [], .bin .no .add (.t 18) (.k (.it .i64 1))⟩,
⟨some 7, none, [], .mov (.t 19)⟩] []))))))))))))
(.seq (.reg false [
⟨some 39, none, [], .mov (.t 6)⟩,
⟨some 40, none, [], .ld 1 false (.t 1)⟩,
⟨some 41, none, [], .len true (.t 40)⟩,
⟨some 42, none, [], .calv [] (.t 39) [(.t 41)]⟩] [])
(.seq (.reg false [
⟨some 43, none, [], .ld 1 false (.t 4)⟩,
⟨some 2, none, [], .mov (.t 43)⟩,
⟨some 3, none, [], .mov (.k (.bo true))⟩] [])
.ret)))))))⟩
def c64 : Ev.Fn := d64.den
def p64 : Pol := { loc := [], md := .rw, mds := mds, heap := [33], own := [33], ord := [(0, [1, 2, 0])], clr := [], mask := [(5, [1, 4, 5, 6, 7], [])], fns := [70] }
theorem r64 : FnOK Try.prog mds 64 c64 := .read (pol := p64) (d := d64) Try.func64 (by kernel_rfl) (by kernel_rfl) rfl rfl (by kernel_rfl)

/- reservoir/token.Token -/
def d65 : DFn := ⟨[(.c .one)], [(.c .one)], .pure, [.tmp 2],
(.seq (.reg false [
⟨some 2, none, [], .mov (.k (.bo false))⟩] [])
(.seq (.seq (.reg false [
⟨some 4, none, [], .mov (.t 0)⟩,
⟨some 5, none, [], .len true (.t 4)⟩,
⟨some 6, none, [], .mov (.k (.it .i64 0))⟩] [])
(.blk 0 (.loop [0, 5, 6] []
(.seq (.reg false [
⟨some 7, none, [], .bin .no .lss (.t 6) (.t 5)⟩] [])
(.seq (.cond (.t 7)
.skip
(.exit 0))
(.seq (.blk 1 (.seq (.reg false [
⟨some 8, none, [], .mov (.t 6)⟩,
⟨some 3, none, [], .mov (.t 8)⟩] [])
(.seq (.reg false [
⟨some 9, none, [], .mov (.t 0)⟩,
⟨some 10, none, [], .mov (.t 3)⟩,
⟨some 11, none, [], .ixs (.t 9) (.t 10)⟩,
⟨some 12, none, [], .call false .pure 72 [(.t 11)]⟩,
⟨some 13, none, [], .un .not (.t 12)⟩] [])
(.cond (.t 13)
(.seq (.reg false [
⟨some 2, none, [], .mov (.k (.bo false))⟩] [])
.ret)
.skip))))
(.reg false [
⟨some 14, none, [], .bin .no .add (.t 6) (.k (.it .i64 1))⟩,
⟨some 6, none, [], .mov (.t 14)⟩] [])))))))
(.seq (.reg false [
⟨some 15, none, [], .mov (.t 0)⟩,
⟨some 16, none, [], .bin .no .neq (.t 15) (.k (.st []))⟩,
⟨some 2, none, [], .mov (.t 16)⟩] [])
.ret)))⟩
def c65 : Ev.Fn := d65.den
def p65 : Pol := { loc := [], md := .pure, mds := mds, heap := [], own := [], ord := [], clr := [], mask := [(2, [0, 5, 6], [])], fns := [] }
theorem r65 : FnOK Try.prog mds 65 c65 := .read (pol := p65) (d := d65) Try.func65 (by kernel_rfl) (by kernel_rfl) rfl rfl (by kernel_rfl)

/- reservoir/token.Lower -/
def d66 : DFn := ⟨[(.c .one)], [(.c .one)], .pure, [.tmp 2],
(.seq (.reg false [
⟨some 2, none, [], .mov (.k (.st []))⟩] [])
(.seq (.reg false [
⟨some 6, none, [], .mov (.t 0)⟩,
⟨some 7, none, [], .cnv .s2b (.t 6)⟩,
⟨some 3, none, [], .mov (.t 7)⟩] [])
(.seq (.seq (.reg false [
⟨some 8, none, [], .mov (.t 3)⟩,
⟨some 9, none, [], .len false (.t 8)⟩,
⟨some 10, none, [], .mov (.k (.it .i64 0))⟩] [])
(.blk 0 (.loop [3, 8, 9, 10] []
(.seq (.reg false [
⟨some 11, none, [], .bin .no .lss (.t 10) (.t 9)⟩] [])
(.seq (.cond (.t 11)
.skip
(.exit 0))
(.seq (.blk 1 (.seq (.reg false [
⟨some 12, none, [], .mov (.t 10)⟩,
⟨some 13, none, [], .ias 1 (.t 8) (.t 10)⟩,
⟨some 14, none, [], .ld 1 false (.t 13)⟩,
⟨some 4, none, [], .mov (.t 12)⟩,
⟨some 5, none, [], .mov (.t 14)⟩] [])
(.seq (.reg false [
⟨some 15, none, [], .mov (.t 5)⟩,
⟨some 16, none, [], .bin .no .geq (.t 15) (.k (.it .u8 65))⟩,
⟨some 17, none, [], .mov (.t 16)⟩,
⟨some 18, some (17, true), [], .mov (.t 5)⟩,
⟨some 19, some (17, true), [], .bin .no .leq (.t 18) (.k (.it .u8 90))⟩,
⟨some 20, none, [], .pick (.t 17) (.t 19) (.k (.bo false))⟩] [])
(.cond (.t 20)
(.reg false [
⟨some 21, none, [], .mov (.t 3)⟩,
⟨some 22, none, [], .mov (.t 4)⟩,
⟨some 23, none, [], .mov (.t 5)⟩,
⟨some 24, none, [], .bin .no .add (.t 23) (.k (.it .u8 32))⟩,
⟨some 25, none, [], .ias 1 (.t 21) (.t 22)⟩,
⟨none, none, [], .sto 1 (.t 25) (.t 24)⟩] [])
.skip))))
(.reg false [
⟨some 26, none, [], .bin .no .add (.t 10) (.k (.it .i64 1))⟩,
⟨some 10, none, [], .mov (.t 26)⟩] [])))))))
(.seq (.reg false [
⟨some 27, none, [], .mov (.t 3)⟩,
⟨some 28, none, [], .cnv .b2s (.t 27)⟩,
⟨some 2, none, [], .mov (.t 28)⟩] [])
.ret))))⟩
def c66 : Ev.Fn := d66.den
def p66 : Pol := { loc := [], md := .pure, mds := mds, heap := [7], own := [7], ord := [], clr := [], mask := [(3, [3, 8, 9, 10], [])], fns := [] }
theorem r66 : FnOK Try.prog mds 66 c66 := .read (pol := p66) (d := d66) Try.func66 (by kernel_rfl) (by kernel_rfl) rfl rfl (by kernel_rfl)

/- reservoir/token.blank -/
def d68 : DFn := ⟨[(.c .one)], [(.c .one)], .pure, [.tmp 2],
(.seq (.reg false [
⟨some 2, none, [], .mov (.k (.bo false))⟩] [])
(.seq (.reg false [
⟨some 3, none, [], .mov (.t 0)⟩,
⟨some 4, none, [], .bin .no .eql (.t 3) (.k (.it .u8 32))⟩,
⟨some 5, none, [], .mov (.t 4)⟩,
⟨some 6, some (5, false), [], .mov (.t 0)⟩,
⟨some 7, some (5, false), [], .bin .no .eql (.t 6) (.k (.it .u8 9))⟩,
⟨some 8, none, [], .pick (.t 5) (.k (.bo true)) (.t 7)⟩,
⟨some 2, none, [], .mov (.t 8)⟩] [])
.ret))⟩
def c68 : Ev.Fn := d68.den
def p68 : Pol := { loc := [], md := .pure, mds := mds, heap := [], own := [], ord := [], clr := [], mask := [], fns := [] }
theorem r68 : FnOK Try.prog mds 68 c68 := .read (pol := p68) (d := d68) Try.func68 (by kernel_rfl) (by kernel_rfl) rfl rfl (by kernel_rfl)

/- reservoir/token.Split$1 -/
def d70 : DFn := ⟨[(.c .one), (.c .one), (.c .one), (.c .one)], [], .rw, [],
(.seq (.reg false [
⟨some 6, none, [], .ld 1 false (.t 1)⟩,
⟨some 7, none, [], .ld 1 false (.t 2)⟩,
⟨some 8, none, [], .mov (.t 0)⟩,
⟨some 9, none, [], .slc true 0 (.t 6) (some (.t 7)) (some (.t 8))⟩,
⟨some 10, none, [], .call false .pure 60 [(.t 9)]⟩,
⟨some 5, none, [], .mov (.t 10)⟩] [])
(.seq (.reg false [
⟨some 11, none, [], .mov (.t 5)⟩,
⟨some 12, none, [], .bin .no .neq (.t 11) (.k (.st []))⟩] [])
(.cond (.t 12)
(.reg false [
⟨some 13, none, [], .ld 1 false (.t 3)⟩,
⟨some 14, none, [], .mov (.t 5)⟩,
⟨some 15, none, [], .bsv [.one] 1 [[(.st [])]] [(0, (.t 14))]⟩,
⟨some 16, none, [], .app 1 16 (.t 13) (.t 15)⟩,
⟨none, none, [], .sto 1 (.t 3) (.t 16)⟩] [])
.skip)))⟩
def c70 : Ev.Fn := d70.den
def p70 : Pol := { loc := [], md := .rw, mds := mds, heap := [16], own := [16], ord := [], clr := [], mask := [], fns := [] }
theorem r70 : FnOK Try.prog mds 70 c70 := .read (pol := p70) (d := d70) Try.func70 (by kernel_rfl) (by kernel_rfl) rfl rfl (by kernel_rfl)

/- reservoir/token.quoted -/
def d71 : DFn := ⟨[(.c .one), (.c .one)], [(.c .one), (.c .one)], .pure, [.tmp 4, .tmp 5],
(.seq (.reg false [
⟨some 4, none, [], .mov (.k (.it .i64 0))⟩,
⟨some 5, none, [], .mov (.k (.bo false))⟩] [])
(.seq (.seq (.reg false [
⟨some 7, none, [], .mov (.t 1)⟩,
⟨some 8, none, [], .bin .no .add (.t 7) (.k (.it .i64 1))⟩,
⟨some 6, none, [], .mov (.t 8)⟩] [])
(.blk 0 (.loop [0, 6] []
(.seq (.seq (.reg false [
⟨some 9, none, [], .mov (.t 6)⟩,
⟨some 10, none, [], .mov (.t 0)⟩,
⟨some 11, none, [], .len true (.t 10)⟩,
⟨some 12, none, [], .bin .no .lss (.t 9) (.t 11)⟩] [])
(.cond (.t 12)
.skip
(.exit 0)))
(.seq (.blk 1 (.seq (.reg false [
⟨some 15, none, [], .mov (.t 0)⟩,
⟨some 16, none, [], .mov (.t 6)⟩,
⟨some 17, none, [], .ixs (.t 15) (.t 16)⟩] [])
(.blk 2 (.seq (.reg false [
⟨some 19, none, [], .bin .no .eql (.t 17) (.k (.it .u8 92))⟩,
⟨some 18, none, [], .mov (.t 19)⟩] [])
(.cond (.t 18)
(.reg false [
⟨some 20, none, [], .mov (.t 6)⟩,
⟨some 21, none, [], .bin .no .add (.t 20) (.k (.it .i64 1))⟩,
⟨some 6, none, [], .mov (.t 21)⟩] [])
(.seq (.reg false [
⟨some 23, none, [], .bin .no .eql (.t 17) (.k (.it .u8 34))⟩,
⟨some 22, none, [], .mov (.t 23)⟩] [])
(.cond (.t 22)
(.seq (.reg false [
⟨some 24, none, [], .mov (.t 6)⟩,
⟨some 25, none, [], .bin .no .add (.t 24) (.k (.it .i64 1))⟩,
⟨some 4, none, [], .mov (.t 25)⟩,
⟨some 5, none, [], .mov (.k (.bo true))⟩] [])
.ret)
.skip)))))))
(.reg false [
⟨some 13, none, [], .mov (.t 6)⟩,
⟨some 14, none, [], .bin .no .add (.t 13) (.k (.it .i64 1))⟩,
⟨some 6, none, [], .mov (.t 14)⟩] []))))))
(.seq (.reg false [
⟨some 4, none, [], .mov (.k (.it .i64 0))⟩,
⟨some 5, none, [], .mov (.k (.bo false))⟩] [])
.ret)))⟩
def c71 : Ev.Fn := d71.den
def p71 : Pol := { loc := [], md := .pure, mds := mds, heap := [], own := [], ord := [], clr := [], mask := [(2, [0, 6], [])], fns := [] }
theorem r71 : FnOK Try.prog mds 71 c71 := .read (pol := p71) (d := d71) Try.func71 (by kernel_rfl) (by kernel_rfl) rfl rfl (by kernel_rfl)

/- reservoir/token.sign -/
def d72 : DFn := ⟨[(.c .one)], [(.c .one)], .pure, [.tmp 2],
(.seq (.reg false [
⟨some 2, none, [], .mov (.k (.bo false))⟩] [])
(.seq (.blk 0 (.seq (.seq (.reg false [
⟨some 4, none, [], .mov (.t 0)⟩,
⟨some 5, none, [], .bin .no .geq (.t 4) (.k (.it .u8 97))⟩,
⟨some 6, none, [], .mov (.t 5)⟩,
⟨some 7, some (6, true), [], .mov (.t 0)⟩,
⟨some 8, some (6, true), [], .bin .no .leq (.t 7) (.k (.it .u8 122))⟩,
⟨some 9, none, [], .pick (.t 6) (.t 8) (.k (.bo false))⟩,
⟨some 3, none, [], .mov (.t 9)⟩] [])
(.cond (.t 3)
.skip
(.seq (.reg false [
⟨some 10, none, [], .mov (.t 0)⟩,
⟨some 11, none, [], .bin .no .geq (.t 10) (.k (.it .u8 65))⟩,
⟨some 12, none, [], .mov (.t 11)⟩,
⟨some 13, some (12, true), [], .mov (.t 0)⟩,
⟨some 14, some (12, true), [], .bin .no .leq (.t 13) (.k (.it .u8 90))⟩,
⟨some 15, none, [], .pick (.t 12) (.t 14) (.k (.bo false))⟩,
⟨some 3, none, [], .mov (.t 15)⟩] [])
(.cond (.t 3)
.skip
(.reg false [
⟨some 16, none, [], .mov (.t 0)⟩,
⟨some 17, none, [], .bin .no .geq (.t 16) (.k (.it .u8 48))⟩,
⟨some 18, none, [], .mov (.t 17)⟩,
⟨some 19, some (18, true), [], .mov (.t 0)⟩,
⟨some 20, some (18, true), [], .bin .no .leq (.t 19) (.k (.it .u8 57))⟩,
⟨some 21, none, [], .pick (.t 18) (.t 20) (.k (.bo false))⟩,
⟨some 3, none, [], .mov (.t 21)⟩] [])))))
(.cond (.t 3)
(.seq (.reg false [
⟨some 2, none, [], .mov (.k (.bo true))⟩] [])
.ret)
.skip)))
(.seq (.reg false [
⟨some 22, none, [], .mov (.t 0)⟩,
⟨some 23, none, [], .call false .pure 77 [(.k (.st [33, 35, 36, 37, 38, 39, 42, 43, 45, 46, 94, 95, 124, 126, 96])), (.t 22)]⟩,
⟨some 24, none, [], .bin .no .geq (.t 23) (.k (.it .i64 0))⟩,
⟨some 2, none, [], .mov (.t 24)⟩] [])
.ret)))⟩
def c72 : Ev.Fn := d72.den
def p72 : Pol := { loc := [], md := .pure, mds := mds, heap := [], own := [], ord := [], clr := [], mask := [], fns := [] }
theorem r72 : FnOK Try.prog mds 72 c72 := .read (pol := p72) (d := d72) Try.func72 (by kernel_rfl) (by kernel_rfl) rfl rfl (by kernel_rfl)

/- strings.IndexByte -/
def d77 : DFn := ⟨[(.c .one), (.c .one)], [(.c .one)], .pure, [.tmp 4],
(.seq (.reg false [
⟨some 4, none, [], .mov (.k (.it .i64 0))⟩] [])
(.seq (.reg false [
⟨some 5, none, [], .mov (.t 0)⟩,
⟨some 6, none, [], .mov (.t 1)⟩,
⟨some 7, none, [], .call false .pure 80 [(.t 5), (.t 6)]⟩,
⟨some 4, none, [], .mov (.t 7)⟩] [])
.ret))⟩
def c77 : Ev.Fn := d77.den
def p77 : Pol := { loc := [], md := .pure, mds := mds, heap := [], own := [], ord := [], clr := [], mask := [], fns := [] }
theorem r77 : FnOK Try.prog mds 77 c77 := .read (pol := p77) (d := d77) Try.func77 (by kernel_rfl) (by kernel_rfl) rfl rfl (by kernel_rfl)

/- internal/stringslite.IndexByte -/
def d80 : DFn := ⟨[(.c .one), (.c .one)], [(.c .one)], .pure, [.tmp 4],
(.seq (.reg false [
⟨some 4, none, [], .mov (.k (.it .i64 0))⟩] [])
(.seq (.reg false [
⟨some 5, none, [], .mov (.t 0)⟩,
⟨some 6, none, [], .mov (.t 1)⟩,
⟨some 7, none, [], .ixb (.t 5) (.t 6)⟩,
⟨some 4, none, [], .mov (.t 7)⟩] [])
.ret))⟩
def c80 : Ev.Fn := d80.den
def p80 : Pol := { loc := [], md := .pure, mds := mds, heap := [], own := [], ord := [], clr := [], mask := [], fns := [] }
theorem r80 : FnOK Try.prog mds 80 c80 := .read (pol := p80) (d := d80) Try.func80 (by kernel_rfl) (by kernel_rfl) rfl rfl (by kernel_rfl)

def c51 : Ev.Fn := fn51
theorem r51 : FnOK Try.prog mds 51 c51 := ⟨by kernel_rfl, .inr fun call L _ => del_run call L⟩

def c52 : Ev.Fn := fn52
theorem r52 : FnOK Try.prog mds 52 c52 := ⟨by kernel_rfl, .inr fun call L _ => ins_run call L⟩

def c67 : Ev.Fn := joinFn
theorem r67 : FnOK Try.prog mds 67 c67 := ⟨by kernel_rfl, .inr fun call L _ => join_run call L⟩

def tab : List (Option Ev.Fn) := [none, none, none, some c3, some c4, some c5, some c6, none, some c8, some c9, some c10, some c11, some c12, some c13, some c14, some c15, some c16, some c17, some c18, some c19, some c20, some c21, some c22, none, none, none, some c26, none, none, none, none, some c31, some c32, some c33, some c34, some c35, some c36, some c37, some c38, some c39, none, none, none, none, some c44, some c45, some c46, some c47, some c48, some c49, some c50, some c51, some c52, some c53, some c54, some c55, some c56, some c57, some c58, some c59, some c60, none, none, some c63, some c64, some c65, some c66, some c67, some c68, none, some c70, some c71, some c72, none, none, none, none, some c77, none, none, some c80]
def F (n : Nat) : Option Ev.Fn := (tab[n]?).join

inductive Good : Nat → List (Option Ev.Fn) → Prop
  | nil (k : Nat) : Good k []
  | none {k : Nat} {l : List (Option Ev.Fn)} (h : Good (k + 1) l) : Good k (none :: l)
  | some {k : Nat} {c : Ev.Fn} {l : List (Option Ev.Fn)} (h : FnOK Try.prog mds k c) (t : Good (k + 1) l) : Good k (some c :: l)

theorem Good.get {k : Nat} {l : List (Option Ev.Fn)} (h : Good k l) : ∀ (n : Nat) (c : Ev.Fn), (l[n]?).join = Option.some c → FnOK Try.prog mds (k + n) c := by
  induction h with
  | nil k => intro n c h; simp at h
  | none h ih =>
    intro n c hc
    cases n with
    | zero => simp at hc
    | succ n => have := ih n c (by simpa using hc); rw [Nat.add_assoc, Nat.add_comm 1 n] at this; exact this
  | some h t ih =>
    intro n c hc
    cases n with
    | zero => simp at hc; subst hc; exact h
    | succ n => have := ih n c (by simpa using hc); rw [Nat.add_assoc, Nat.add_comm 1 n] at this; exact this

theorem good : Good 0 tab := by
  unfold tab
  refine .none ?_
  refine .none ?_
  refine .none ?_
  refine .some r3 ?_
  refine .some r4 ?_
  refine .some r5 ?_
  refine .some r6 ?_
  refine .none ?_
  refine .some r8 ?_
  refine .some r9 ?_
  refine .some r10 ?_
  refine .some r11 ?_
  refine .some r12 ?_
  refine .some r13 ?_
  refine .some r14 ?_
  refine .some r15 ?_
  refine .some r16 ?_
  refine .some r17 ?_
  refine .some r18 ?_
  refine .some r19 ?_
  refine .some r20 ?_
  refine .some r21 ?_
  refine .some r22 ?_
  refine .none ?_
  refine .none ?_
  refine .none ?_
  refine .some r26 ?_
  refine .none ?_
  refine .none ?_
  refine .none ?_
  refine .none ?_
  refine .some r31 ?_
  refine .some r32 ?_
  refine .some r33 ?_
  refine .some r34 ?_
  refine .some r35 ?_
  refine .some r36 ?_
  refine .some r37 ?_
  refine .some r38 ?_
  refine .some r39 ?_
  refine .none ?_
  refine .none ?_
  refine .none ?_
  refine .none ?_
  refine .some r44 ?_
  refine .some r45 ?_
  refine .some r46 ?_
  refine .some r47 ?_
  refine .some r48 ?_
  refine .some r49 ?_
  refine .some r50 ?_
  refine .some r51 ?_
  refine .some r52 ?_
  refine .some r53 ?_
  refine .some r54 ?_
  refine .some r55 ?_
  refine .some r56 ?_
  refine .some r57 ?_
  refine .some r58 ?_
  refine .some r59 ?_
  refine .some r60 ?_
  refine .none ?_
  refine .none ?_
  refine .some r63 ?_
  refine .some r64 ?_
  refine .some r65 ?_
  refine .some r66 ?_
  refine .some r67 ?_
  refine .some r68 ?_
  refine .none ?_
  refine .some r70 ?_
  refine .some r71 ?_
  refine .some r72 ?_
  refine .none ?_
  refine .none ?_
  refine .none ?_
  refine .none ?_
  refine .some r77 ?_
  refine .none ?_
  refine .none ?_
  refine .some r80 ?_
  exact .nil _

theorem table : Table Try.prog F mds where
  mixed := by kernel_rfl
  fns := fun f fn h => by
    have := good.get f fn h
    rw [Nat.zero_add] at this
    exact this

end Go.Proofs.Ytddohjlkjakdlaa.tab
