import Derived.Test.YtcbiplmgaiipgaaTabx1
import Derived.KernelRfl
/- the functions of the seat, read off the program -/
namespace Go.Proofs.Ytcbiplmgaiipgaa.tab
open Go hiding Fn
open Ev

/- reservoir/message.hop -/
def d90 : DFn := ⟨[(.c .one)], [(.c .one)], .pure, [.tmp 2],
(.seq (.reg false [
⟨some 2, none, [], .mov (.k (.bo false))⟩] [])
(.seq (.seq (.reg false [
⟨some 3, none, [], .mov (.t 0)⟩] [])
(.blk 0 (.seq (.seq (.reg false [
⟨some 5, none, [], .bin .no .eql (.t 3) (.k (.st [99, 111, 110, 110, 101, 99, 116, 105, 111, 110]))⟩,
⟨some 4, none, [], .mov (.t 5)⟩] [])
(.cond (.t 4)
.skip
(.seq (.reg false [
⟨some 6, none, [], .bin .no .eql (.t 3) (.k (.st [112, 114, 111, 120, 121, 45, 99, 111, 110, 110, 101, 99, 116, 105, 111, 110]))⟩,
⟨some 4, none, [], .mov (.t 6)⟩] [])
(.cond (.t 4)
.skip
(.seq (.reg false [
⟨some 7, none, [], .bin .no .eql (.t 3) (.k (.st [107, 101, 101, 112, 45, 97, 108, 105, 118, 101]))⟩,
⟨some 4, none, [], .mov (.t 7)⟩] [])
(.cond (.t 4)
.skip
(.seq (.reg false [
⟨some 8, none, [], .bin .no .eql (.t 3) (.k (.st [116, 114, 97, 110, 115, 102, 101, 114, 45, 101, 110, 99, 111, 100, 105, 110, 103]))⟩,
⟨some 4, none, [], .mov (.t 8)⟩] [])
(.cond (.t 4)
.skip
(.reg false [
⟨some 9, none, [], .bin .no .eql (.t 3) (.k (.st [117, 112, 103, 114, 97, 100, 101]))⟩,
⟨some 4, none, [], .mov (.t 9)⟩] [])))))))))
(.cond (.t 4)
(.seq (.reg false [
⟨some 2, none, [], .mov (.k (.bo true))⟩] [])
.ret)
.skip))))
(.seq (.reg false [
⟨some 2, none, [], .mov (.k (.bo false))⟩] [])
.ret)))⟩
def c90 : Ev.Fn := d90.den
def p90 : Pol := { loc := [], md := .pure, mds := mds, heap := [], own := [], ord := [], clr := [], mask := [], fns := [], lcl := [] }
theorem r90 : FnOK Try.prog mds 90 c90 := .read (pol := p90) (d := d90) Try.func90 (by kernel_rfl) (by kernel_rfl) rfl rfl (by kernel_rfl)

/- slices.Contains[[]string,string] -/
def d91 : DFn := ⟨[(.c (.sl [.one])), (.c .one)], [(.c .one)], .ro, [.tmp 4],
(.seq (.reg false [
⟨some 4, none, [], .mov (.k (.bo false))⟩] [])
(.seq (.reg false [
⟨some 5, none, [], .mov (.t 0)⟩,
⟨some 6, none, [], .mov (.t 1)⟩,
⟨some 7, none, [], .call false .ro 104 [(.t 5), (.t 6)]⟩,
⟨some 8, none, [], .bin .no .geq (.t 7) (.k (.it .i64 0))⟩,
⟨some 4, none, [], .mov (.t 8)⟩] [])
.ret))⟩
def c91 : Ev.Fn := d91.den
def p91 : Pol := { loc := [], md := .ro, mds := mds, heap := [], own := [], ord := [], clr := [], mask := [], fns := [], lcl := [] }
theorem r91 : FnOK Try.prog mds 91 c91 := .read (pol := p91) (d := d91) Try.func91 (by kernel_rfl) (by kernel_rfl) rfl rfl (by kernel_rfl)

/- reservoir/token.Value -/
def d92 : DFn := ⟨[(.c .one)], [(.c .one)], .pure, [.tmp 2],
(.seq (.reg false [
⟨some 2, none, [], .mov (.k (.bo false))⟩] [])
(.seq (.seq (.reg false [
⟨some 4, none, [], .mov (.t 0)⟩,
⟨some 5, none, [], .len true (.t 4)⟩,
⟨some 6, none, [], .mov (.k (.it .i64 0))⟩] [])
(.blk 0 (.loop [0, 5, 6] []
(.seq (.reg false [
⟨some 7, none, [], .bin .no .lss (.t 6) (.t 5)⟩] [])
(.seq (.cond (.t 7)
.skip
(.exit 0))
(.seq (.blk 1 (.seq (.reg false [
⟨some 8, none, [], .mov (.t 6)⟩,
⟨some 3, none, [], .mov (.t 8)⟩] [])
(.seq (.reg false [
⟨some 9, none, [], .mov (.t 0)⟩,
⟨some 10, none, [], .mov (.t 3)⟩,
⟨some 11, none, [], .ixs (.t 9) (.t 10)⟩,
⟨some 12, none, [], .call false .pure 105 [(.t 11)]⟩,
⟨some 13, none, [], .un .not (.t 12)⟩] [])
(.cond (.t 13)
(.seq (.reg false [
⟨some 2, none, [], .mov (.k (.bo false))⟩] [])
.ret)
.skip))))
(.reg false [
⟨some 14, none, [], .bin .no .add (.t 6) (.k (.it .i64 1))⟩,
⟨some 6, none, [], .mov (.t 14)⟩] [])))))))
(.seq (.reg false [
⟨some 15, none, [], .mov (.t 0)⟩,
⟨some 16, none, [], .bin .no .eql (.t 15) (.k (.st []))⟩,
⟨some 17, none, [], .mov (.t 16)⟩,
⟨some 18, some (17, false), [], .mov (.t 0)⟩,
⟨some 19, some (17, false), [], .ixs (.t 18) (.k (.it .i64 0))⟩,
⟨some 20, some (17, false), [], .call false .pure 100 [(.t 19)]⟩,
⟨some 21, some (17, false), [], .un .not (.t 20)⟩,
⟨some 22, some (17, false), [], .mov (.t 21)⟩,
⟨some 23, some (22, true), [], .mov (.t 0)⟩,
⟨some 24, some (22, true), [], .mov (.t 0)⟩,
⟨some 25, some (22, true), [], .len true (.t 24)⟩,
⟨some 26, some (22, true), [], .bin .no .sub (.t 25) (.k (.it .i64 1))⟩,
⟨some 27, some (22, true), [], .ixs (.t 23) (.t 26)⟩,
⟨some 28, some (22, true), [], .call false .pure 100 [(.t 27)]⟩,
⟨some 29, some (22, true), [], .un .not (.t 28)⟩,
⟨some 30, some (17, false), [], .pick (.t 22) (.t 29) (.k (.bo false))⟩,
⟨some 31, none, [], .pick (.t 17) (.k (.bo true)) (.t 30)⟩,
⟨some 2, none, [], .mov (.t 31)⟩] [])
.ret)))⟩
def c92 : Ev.Fn := d92.den
def p92 : Pol := { loc := [], md := .pure, mds := mds, heap := [], own := [], ord := [], clr := [], mask := [(2, [0, 5, 6], [])], fns := [], lcl := [] }
theorem r92 : FnOK Try.prog mds 92 c92 := .read (pol := p92) (d := d92) Try.func92 (by kernel_rfl) (by kernel_rfl) rfl rfl (by kernel_rfl)

/- reservoir/token.Token -/
def d93 : DFn := ⟨[(.c .one)], [(.c .one)], .pure, [.tmp 2],
(.seq (.reg false [
⟨some 2, none, [], .mov (.k (.bo false))⟩] [])
(.seq (.seq (.reg false [
⟨some 4, none, [], .mov (.t 0)⟩,
⟨some 5, none, [], .len true (.t 4)⟩,
⟨some 6, none, [], .mov (.k (.it .i64 0))⟩] [])
(.blk 0 (.loop [0, 5, 6] []
(.seq (.reg false [
⟨some 7, none, [], .bin .no .lss (.t 6) (.t 5)⟩] [])
(.seq (.cond (.t 7)
.skip
(.exit 0))
(.seq (.blk 1 (.seq (.reg false [
⟨some 8, none, [], .mov (.t 6)⟩,
⟨some 3, none, [], .mov (.t 8)⟩] [])
(.seq (.reg false [
⟨some 9, none, [], .mov (.t 0)⟩,
⟨some 10, none, [], .mov (.t 3)⟩,
⟨some 11, none, [], .ixs (.t 9) (.t 10)⟩,
⟨some 12, none, [], .call false .pure 106 [(.t 11)]⟩,
⟨some 13, none, [], .un .not (.t 12)⟩] [])
(.cond (.t 13)
(.seq (.reg false [
⟨some 2, none, [], .mov (.k (.bo false))⟩] [])
.ret)
.skip))))
(.reg false [
⟨some 14, none, [], .bin .no .add (.t 6) (.k (.it .i64 1))⟩,
⟨some 6, none, [], .mov (.t 14)⟩] [])))))))
(.seq (.reg false [
⟨some 15, none, [], .mov (.t 0)⟩,
⟨some 16, none, [], .bin .no .neq (.t 15) (.k (.st []))⟩,
⟨some 2, none, [], .mov (.t 16)⟩] [])
.ret)))⟩
def c93 : Ev.Fn := d93.den
def p93 : Pol := { loc := [], md := .pure, mds := mds, heap := [], own := [], ord := [], clr := [], mask := [(2, [0, 5, 6], [])], fns := [], lcl := [] }
theorem r93 : FnOK Try.prog mds 93 c93 := .read (pol := p93) (d := d93) Try.func93 (by kernel_rfl) (by kernel_rfl) rfl rfl (by kernel_rfl)

/- reservoir/message.length -/
def d94 : DFn := ⟨[(.c (.sl [.one, .one]))], [(.c .one), (.c .one)], .pure, [.tmp 2, .tmp 3],
(.seq (.reg false [
⟨some 2, none, [], .mov (.k (.it .i64 0))⟩,
⟨some 3, none, [], .mov (.k (.bo false))⟩] [])
(.seq (.reg false [
⟨some 4, none, [], .mov (.k (.it .i64 (-1)))⟩] [])
(.seq (.seq (.reg false [
⟨some 8, none, [], .mov (.t 0)⟩,
⟨some 9, none, [], .len false (.t 8)⟩,
⟨some 10, none, [], .mov (.k (.it .i64 0))⟩] [])
(.blk 0 (.loop [4, 8, 9, 10] [6]
(.seq (.reg false [
⟨some 11, none, [], .bin .no .lss (.t 10) (.t 9)⟩] [])
(.seq (.cond (.t 11)
.skip
(.exit 0))
(.seq (.blk 1 (.seq (.reg false [
⟨some 12, none, [], .ias 2 (.t 8) (.t 10)⟩,
⟨some 13, none, [], .ld 2 true (.t 12)⟩,
⟨some 6, none, [], .alc [(.st []), (.st [])]⟩,
⟨none, none, [], .sto 2 (.t 6) (.t 13)⟩] [])
(.seq (.seq (.reg false [
⟨some 14, none, [], .fad 0 (.t 6)⟩,
⟨some 15, none, [], .ld 1 false (.t 14)⟩,
⟨some 16, none, [], .bin .no .neq (.t 15) (.k (.st [99, 111, 110, 116, 101, 110, 116, 45, 108, 101, 110, 103, 116, 104]))⟩] [14])
(.cond (.t 16)
(.exit 1)
.skip))
(.seq (.reg false [
⟨some 17, none, [], .fad 1 (.t 6)⟩,
⟨some 18, none, [], .ld 1 false (.t 17)⟩,
⟨some 19, none, [], .call false .pure 67 [(.t 18)]⟩,
⟨some 7, none, [], .mov (.t 19)⟩] [17])
(.seq (.seq (.reg false [
⟨some 20, none, [], .mov (.t 7)⟩,
⟨some 21, none, [], .bin .no .lss (.t 20) (.k (.it .i64 0))⟩,
⟨some 22, none, [], .mov (.t 21)⟩,
⟨some 23, some (22, false), [], .mov (.t 4)⟩,
⟨some 24, some (22, false), [], .bin .no .geq (.t 23) (.k (.it .i64 0))⟩,
⟨some 25, some (22, false), [], .mov (.t 24)⟩,
⟨some 26, some (25, true), [], .mov (.t 7)⟩,
⟨some 27, some (25, true), [], .mov (.t 4)⟩,
⟨some 28, some (25, true), [], .bin .no .neq (.t 26) (.t 27)⟩,
⟨some 29, some (22, false), [], .pick (.t 25) (.t 28) (.k (.bo false))⟩,
⟨some 30, none, [], .pick (.t 22) (.k (.bo true)) (.t 29)⟩] [])
(.cond (.t 30)
(.seq (.reg false [
⟨some 2, none, [], .mov (.k (.it .i64 0))⟩,
⟨some 3, none, [], .mov (.k (.bo false))⟩] [])
.ret)
.skip))
(.reg false [
⟨some 31, none, [], .mov (.t 7)⟩,
⟨some 4, none, [], .mov (.t 31)⟩] []))))))
(.reg false [
⟨some 32, none, [], .bin .no .add (.t 10) (.k (.it .i64 1))⟩,
⟨some 10, none, [], .mov (.t 32)⟩] [])))))))
(.seq (.reg false [
⟨some 33, none, [], .mov (.t 4)⟩,
⟨some 2, none, [], .mov (.t 33)⟩,
⟨some 3, none, [], .mov (.k (.bo true))⟩] [])
.ret))))⟩
def c94 : Ev.Fn := d94.den
def p94 : Pol := { loc := [6], md := .pure, mds := mds, heap := [], own := [], ord := [], clr := [(5, [14]), (6, [17])], mask := [(3, [4, 8, 9, 10], [6])], fns := [], lcl := [] }
theorem r94 : FnOK Try.prog mds 94 c94 := .read (pol := p94) (d := d94) Try.func94 (by kernel_rfl) (by kernel_rfl) rfl rfl (by kernel_rfl)

/- reservoir/reservoirref14.blank -/
def d95 : DFn := ⟨[(.c .one)], [(.c .one)], .pure, [.tmp 2],
(.seq (.reg false [
⟨some 2, none, [], .mov (.k (.bo false))⟩] [])
(.seq (.reg false [
⟨some 3, none, [], .mov (.t 0)⟩,
⟨some 4, none, [], .bin .no .eql (.t 3) (.k (.it .u8 32))⟩,
⟨some 5, none, [], .mov (.t 4)⟩,
⟨some 6, some (5, false), [], .mov (.t 0)⟩,
⟨some 7, some (5, false), [], .bin .no .eql (.t 6) (.k (.it .u8 9))⟩,
⟨some 8, none, [], .pick (.t 5) (.k (.bo true)) (.t 7)⟩,
⟨some 2, none, [], .mov (.t 8)⟩] [])
.ret))⟩
def c95 : Ev.Fn := d95.den
def p95 : Pol := { loc := [], md := .pure, mds := mds, heap := [], own := [], ord := [], clr := [], mask := [], fns := [], lcl := [] }
theorem r95 : FnOK Try.prog mds 95 c95 := .read (pol := p95) (d := d95) Try.func95 (by kernel_rfl) (by kernel_rfl) rfl rfl (by kernel_rfl)

/- reservoir/reservoirref14.tchar -/
def d96 : DFn := ⟨[(.c .one)], [(.c .one)], .pure, [.tmp 2],
(.seq (.reg false [
⟨some 2, none, [], .mov (.k (.bo false))⟩] [])
(.seq (.seq (.reg false [
⟨some 4, none, [], .mov (.t 0)⟩,
⟨some 5, none, [], .bin .no .geq (.t 4) (.k (.it .u8 48))⟩,
⟨some 6, none, [], .mov (.t 5)⟩,
⟨some 7, some (6, true), [], .mov (.t 0)⟩,
⟨some 8, some (6, true), [], .bin .no .leq (.t 7) (.k (.it .u8 57))⟩,
⟨some 9, none, [], .pick (.t 6) (.t 8) (.k (.bo false))⟩,
⟨some 10, none, [], .mov (.t 9)⟩,
⟨some 11, some (10, false), [], .mov (.t 0)⟩,
⟨some 12, some (10, false), [], .bin .no .geq (.t 11) (.k (.it .u8 97))⟩,
⟨some 13, some (10, false), [], .mov (.t 12)⟩,
⟨some 14, some (13, true), [], .mov (.t 0)⟩,
⟨some 15, some (13, true), [], .bin .no .leq (.t 14) (.k (.it .u8 122))⟩,
⟨some 16, some (10, false), [], .pick (.t 13) (.t 15) (.k (.bo false))⟩,
⟨some 17, none, [], .pick (.t 10) (.k (.bo true)) (.t 16)⟩,
⟨some 18, none, [], .mov (.t 17)⟩,
⟨some 19, some (18, false), [], .mov (.t 0)⟩,
⟨some 20, some (18, false), [], .bin .no .geq (.t 19) (.k (.it .u8 65))⟩,
⟨some 21, some (18, false), [], .mov (.t 20)⟩,
⟨some 22, some (21, true), [], .mov (.t 0)⟩,
⟨some 23, some (21, true), [], .bin .no .leq (.t 22) (.k (.it .u8 90))⟩,
⟨some 24, some (18, false), [], .pick (.t 21) (.t 23) (.k (.bo false))⟩,
⟨some 25, none, [], .pick (.t 18) (.k (.bo true)) (.t 24)⟩] [])
(.cond (.t 25)
(.seq (.reg false [
⟨some 2, none, [], .mov (.k (.bo true))⟩] [])
.ret)
.skip))
(.seq (.seq (.reg false [
⟨some 3, none, [], .mov (.k (.it .i64 0))⟩] [])
(.blk 0 (.loop [0, 3] []
(.seq (.seq (.reg false [
⟨some 26, none, [], .mov (.t 3)⟩,
⟨some 27, none, [], .bin .no .lss (.t 26) (.k (.it .i64 15))⟩] [])
(.cond (.t 27)
.skip
(.exit 0)))
(.seq (.blk 1 (.seq (.reg false [
⟨some 30, none, [], .mov (.t 3)⟩,
⟨some 31, none, [], .ixs (.k (.st [33, 35, 36, 37, 38, 39, 42, 43, 45, 46, 94, 95, 96, 124, 126])) (.t 30)⟩,
⟨some 32, none, [], .mov (.t 0)⟩,
⟨some 33, none, [], .bin .no .eql (.t 31) (.t 32)⟩] [])
(.cond (.t 33)
(.seq (.reg false [
⟨some 2, none, [], .mov (.k (.bo true))⟩] [])
.ret)
.skip)))
(.reg false [
⟨some 28, none, [], .mov (.t 3)⟩,
⟨some 29, none, [], .bin .no .add (.t 28) (.k (.it .i64 1))⟩,
⟨some 3, none, [], .mov (.t 29)⟩] []))))))
(.seq (.reg false [
⟨some 2, none, [], .mov (.k (.bo false))⟩] [])
.ret))))⟩
def c96 : Ev.Fn := d96.den
def p96 : Pol := { loc := [], md := .pure, mds := mds, heap := [], own := [], ord := [], clr := [], mask := [(4, [0, 3], [])], fns := [], lcl := [] }
theorem r96 : FnOK Try.prog mds 96 c96 := .read (pol := p96) (d := d96) Try.func96 (by kernel_rfl) (by kernel_rfl) rfl rfl (by kernel_rfl)

/- slices.IndexFunc[[]reservoir/api.Field,reservoir/api.Field] -/
def d97 : DFn := ⟨[(.c (.sl [.one, .one])), (.c .one)], [(.c .one)], .rw, [.tmp 4],
(.seq (.reg false [
⟨some 4, none, [], .mov (.k (.it .i64 0))⟩] [])
(.seq (.seq (.reg false [
⟨some 6, none, [], .mov (.t 0)⟩,
⟨some 7, none, [], .len false (.t 6)⟩,
⟨some 8, none, [], .mov (.k (.it .i64 0))⟩] [])
(.blk 0 (.loop [0, 1, 7, 8] []
(.seq (.reg false [
⟨some 9, none, [], .bin .no .lss (.t 8) (.t 7)⟩] [])
(.seq (.cond (.t 9)
.skip
(.exit 0))
(.seq (.blk 1 (.seq (.reg false [
⟨some 10, none, [], .mov (.t 8)⟩,
⟨some 5, none, [], .mov (.t 10)⟩] [])
(.seq (.reg false [
⟨some 11, none, [], .mov (.t 1)⟩,
⟨some 12, none, [], .mov (.t 0)⟩,
⟨some 13, none, [], .mov (.t 5)⟩,
⟨some 14, none, [], .ias 2 (.t 12) (.t 13)⟩,
⟨some 15, none, [], .ld 2 true (.t 14)⟩,
⟨some 16, none, [], .calv [] (.t 11) [(.t 15)]⟩] [])
(.cond (.t 16)
(.seq (.reg false [
⟨some 17, none, [], .mov (.t 5)⟩,
⟨some 4, none, [], .mov (.t 17)⟩] [])
.ret)
.skip))))
(.reg false [
⟨some 18, none, [], .bin .no .add (.t 8) (.k (.it .i64 1))⟩,
⟨some 8, none, [], .mov (.t 18)⟩] [])))))))
(.seq (.reg false [
⟨some 4, none, [], .mov (.k (.it .i64 (-1)))⟩] [])
.ret)))⟩
def c97 : Ev.Fn := d97.den
def p97 : Pol := { loc := [], md := .rw, mds := mds, heap := [], own := [], ord := [], clr := [], mask := [(2, [0, 1, 7, 8], [])], fns := [], lcl := [] }
theorem r97 : FnOK Try.prog mds 97 c97 := .read (pol := p97) (d := d97) Try.func97 (by kernel_rfl) (by kernel_rfl) rfl rfl (by kernel_rfl)

/- reservoir/message.named -/
def d98 : DFn := ⟨[(.c .one)], [(.c .one)], .pure, [.tmp 2],
(.seq (.reg false [
⟨some 2, none, [], .mov (.k (.bo false))⟩] [])
(.seq (.reg false [
⟨some 3, none, [], .mov (.t 0)⟩,
⟨some 4, none, [], .call false .pure 93 [(.t 3)]⟩,
⟨some 5, none, [], .mov (.t 4)⟩,
⟨some 6, some (5, true), [], .mov (.t 0)⟩,
⟨some 7, some (5, true), [], .call false .pure 89 [(.t 6)]⟩,
⟨some 8, some (5, true), [], .mov (.t 0)⟩,
⟨some 9, some (5, true), [], .bin .no .eql (.t 7) (.t 8)⟩,
⟨some 10, none, [], .pick (.t 5) (.t 9) (.k (.bo false))⟩,
⟨some 2, none, [], .mov (.t 10)⟩] [])
.ret))⟩
def c98 : Ev.Fn := d98.den
def p98 : Pol := { loc := [], md := .pure, mds := mds, heap := [], own := [], ord := [(1, [0, 1, 2, 3, 5, 4, 6, 7, 8])], clr := [], mask := [], fns := [], lcl := [] }
theorem r98 : FnOK Try.prog mds 98 c98 := .read (pol := p98) (d := d98) Try.func98 (by kernel_rfl) (by kernel_rfl) rfl rfl (by kernel_rfl)

/- reservoir/token.blank -/
def d100 : DFn := ⟨[(.c .one)], [(.c .one)], .pure, [.tmp 2],
(.seq (.reg false [
⟨some 2, none, [], .mov (.k (.bo false))⟩] [])
(.seq (.reg false [
⟨some 3, none, [], .mov (.t 0)⟩,
⟨some 4, none, [], .bin .no .eql (.t 3) (.k (.it .u8 32))⟩,
⟨some 5, none, [], .mov (.t 4)⟩,
⟨some 6, some (5, false), [], .mov (.t 0)⟩,
⟨some 7, some (5, false), [], .bin .no .eql (.t 6) (.k (.it .u8 9))⟩,
⟨some 8, none, [], .pick (.t 5) (.k (.bo true)) (.t 7)⟩,
⟨some 2, none, [], .mov (.t 8)⟩] [])
.ret))⟩
def c100 : Ev.Fn := d100.den
def p100 : Pol := { loc := [], md := .pure, mds := mds, heap := [], own := [], ord := [], clr := [], mask := [], fns := [], lcl := [] }
theorem r100 : FnOK Try.prog mds 100 c100 := .read (pol := p100) (d := d100) Try.func100 (by kernel_rfl) (by kernel_rfl) rfl rfl (by kernel_rfl)

/- reservoir/token.Split$1 -/
def d101 : DFn := ⟨[(.c .one), (.c .one), (.c .one), (.c .one)], [], .rw, [],
(.seq (.reg false [
⟨some 6, none, [], .ld 1 false (.t 1)⟩,
⟨some 7, none, [], .ld 1 false (.t 2)⟩,
⟨some 8, none, [], .mov (.t 0)⟩,
⟨some 9, none, [], .slc true 0 (.t 6) (some (.t 7)) (some (.t 8))⟩,
⟨some 10, none, [], .call false .pure 77 [(.t 9)]⟩,
⟨some 5, none, [], .mov (.t 10)⟩] [])
(.seq (.reg false [
⟨some 11, none, [], .mov (.t 5)⟩,
⟨some 12, none, [], .bin .no .neq (.t 11) (.k (.st []))⟩] [])
(.cond (.t 12)
(.reg false [
⟨some 13, none, [], .ld 1 false (.t 3)⟩,
⟨some 14, none, [], .mov (.t 5)⟩,
⟨some 15, none, [], .bsv [.one] 1 [[(.st [])]] [(0, (.t 14))]⟩,
⟨some 16, none, [], .app 1 16 (.t 13) (.t 15)⟩,
⟨none, none, [], .sto 1 (.t 3) (.t 16)⟩] [])
.skip)))⟩
def c101 : Ev.Fn := d101.den
def p101 : Pol := { loc := [], md := .rw, mds := mds, heap := [16], own := [16], ord := [], clr := [], mask := [], fns := [], lcl := [] }
theorem r101 : FnOK Try.prog mds 101 c101 := .read (pol := p101) (d := d101) Try.func101 (by kernel_rfl) (by kernel_rfl) rfl rfl (by kernel_rfl)

/- reservoir/token.quoted -/
def d102 : DFn := ⟨[(.c .one), (.c .one)], [(.c .one), (.c .one)], .pure, [.tmp 4, .tmp 5],
(.seq (.reg false [
⟨some 4, none, [], .mov (.k (.it .i64 0))⟩,
⟨some 5, none, [], .mov (.k (.bo false))⟩] [])
(.seq (.seq (.reg false [
⟨some 7, none, [], .mov (.t 1)⟩,
⟨some 8, none, [], .bin .no .add (.t 7) (.k (.it .i64 1))⟩,
⟨some 6, none, [], .mov (.t 8)⟩] [])
(.blk 0 (.loop [0, 6] []
(.seq (.seq (.reg false [
⟨some 9, none, [], .mov (.t 6)⟩,
⟨some 10, none, [], .mov (.t 0)⟩,
⟨some 11, none, [], .len true (.t 10)⟩,
⟨some 12, none, [], .bin .no .lss (.t 9) (.t 11)⟩] [])
(.cond (.t 12)
.skip
(.exit 0)))
(.seq (.blk 1 (.seq (.reg false [
⟨some 15, none, [], .mov (.t 0)⟩,
⟨some 16, none, [], .mov (.t 6)⟩,
⟨some 17, none, [], .ixs (.t 15) (.t 16)⟩] [])
(.blk 2 (.seq (.reg false [
⟨some 19, none, [], .bin .no .eql (.t 17) (.k (.it .u8 92))⟩,
⟨some 18, none, [], .mov (.t 19)⟩] [])
(.cond (.t 18)
(.reg false [
⟨some 20, none, [], .mov (.t 6)⟩,
⟨some 21, none, [], .bin .no .add (.t 20) (.k (.it .i64 1))⟩,
⟨some 6, none, [], .mov (.t 21)⟩] [])
(.seq (.reg false [
⟨some 23, none, [], .bin .no .eql (.t 17) (.k (.it .u8 34))⟩,
⟨some 22, none, [], .mov (.t 23)⟩] [])
(.cond (.t 22)
(.seq (.reg false [
⟨some 24, none, [], .mov (.t 6)⟩,
⟨some 25, none, [], .bin .no .add (.t 24) (.k (.it .i64 1))⟩,
⟨some 4, none, [], .mov (.t 25)⟩,
⟨some 5, none, [], .mov (.k (.bo true))⟩] [])
.ret)
.skip)))))))
(.reg false [
⟨some 13, none, [], .mov (.t 6)⟩,
⟨some 14, none, [], .bin .no .add (.t 13) (.k (.it .i64 1))⟩,
⟨some 6, none, [], .mov (.t 14)⟩] []))))))
(.seq (.reg false [
⟨some 4, none, [], .mov (.k (.it .i64 0))⟩,
⟨some 5, none, [], .mov (.k (.bo false))⟩] [])
.ret)))⟩
def c102 : Ev.Fn := d102.den
def p102 : Pol := { loc := [], md := .pure, mds := mds, heap := [], own := [], ord := [], clr := [], mask := [(2, [0, 6], [])], fns := [], lcl := [] }
theorem r102 : FnOK Try.prog mds 102 c102 := .read (pol := p102) (d := d102) Try.func102 (by kernel_rfl) (by kernel_rfl) rfl rfl (by kernel_rfl)

/- strings.TrimPrefix -/
def d103 : DFn := ⟨[(.c .one), (.c .one)], [(.c .one)], .pure, [.tmp 4],
(.seq (.reg false [
⟨some 4, none, [], .mov (.k (.st []))⟩] [])
(.seq (.reg false [
⟨some 5, none, [], .mov (.t 0)⟩,
⟨some 6, none, [], .mov (.t 1)⟩,
⟨some 7, none, [], .call false .pure 110 [(.t 5), (.t 6)]⟩,
⟨some 4, none, [], .mov (.t 7)⟩] [])
.ret))⟩
def c103 : Ev.Fn := d103.den
def p103 : Pol := { loc := [], md := .pure, mds := mds, heap := [], own := [], ord := [], clr := [], mask := [], fns := [], lcl := [] }
theorem r103 : FnOK Try.prog mds 103 c103 := .read (pol := p103) (d := d103) Try.func103 (by kernel_rfl) (by kernel_rfl) rfl rfl (by kernel_rfl)

/- slices.Index[[]string,string] -/
def d104 : DFn := ⟨[(.c (.sl [.one])), (.c .one)], [(.c .one)], .ro, [.tmp 4],
(.seq (.reg false [
⟨some 4, none, [], .mov (.k (.it .i64 0))⟩] [])
(.seq (.seq (.reg false [
⟨some 6, none, [], .mov (.t 0)⟩,
⟨some 7, none, [], .len false (.t 6)⟩,
⟨some 8, none, [], .mov (.k (.it .i64 0))⟩] [])
(.blk 0 (.loop [0, 1, 7, 8] []
(.seq (.reg false [
⟨some 9, none, [], .bin .no .lss (.t 8) (.t 7)⟩] [])
(.seq (.cond (.t 9)
.skip
(.exit 0))
(.seq (.blk 1 (.seq (.reg false [
⟨some 10, none, [], .mov (.t 8)⟩,
⟨some 5, none, [], .mov (.t 10)⟩] [])
(.seq (.reg false [
⟨some 11, none, [], .mov (.t 1)⟩,
⟨some 12, none, [], .mov (.t 0)⟩,
⟨some 13, none, [], .mov (.t 5)⟩,
⟨some 14, none, [], .ias 1 (.t 12) (.t 13)⟩,
⟨some 15, none, [], .ld 1 false (.t 14)⟩,
⟨some 16, none, [], .bin .no .eql (.t 11) (.t 15)⟩] [])
(.cond (.t 16)
(.seq (.reg false [
⟨some 17, none, [], .mov (.t 5)⟩,
⟨some 4, none, [], .mov (.t 17)⟩] [])
.ret)
.skip))))
(.reg false [
⟨some 18, none, [], .bin .no .add (.t 8) (.k (.it .i64 1))⟩,
⟨some 8, none, [], .mov (.t 18)⟩] [])))))))
(.seq (.reg false [
⟨some 4, none, [], .mov (.k (.it .i64 (-1)))⟩] [])
.ret)))⟩
def c104 : Ev.Fn := d104.den
def p104 : Pol := { loc := [], md := .ro, mds := mds, heap := [], own := [], ord := [], clr := [], mask := [(2, [0, 1, 7, 8], [])], fns := [], lcl := [] }
theorem r104 : FnOK Try.prog mds 104 c104 := .read (pol := p104) (d := d104) Try.func104 (by kernel_rfl) (by kernel_rfl) rfl rfl (by kernel_rfl)

/- reservoir/token.plain -/
def d105 : DFn := ⟨[(.c .one)], [(.c .one)], .pure, [.tmp 2],
(.seq (.reg false [
⟨some 2, none, [], .mov (.k (.bo false))⟩] [])
(.seq (.reg false [
⟨some 3, none, [], .mov (.t 0)⟩,
⟨some 4, none, [], .bin .no .geq (.t 3) (.k (.it .u8 32))⟩,
⟨some 5, none, [], .mov (.t 4)⟩,
⟨some 6, some (5, true), [], .mov (.t 0)⟩,
⟨some 7, some (5, true), [], .bin .no .neq (.t 6) (.k (.it .u8 127))⟩,
⟨some 8, none, [], .pick (.t 5) (.t 7) (.k (.bo false))⟩,
⟨some 9, none, [], .mov (.t 8)⟩,
⟨some 10, some (9, false), [], .mov (.t 0)⟩,
⟨some 11, some (9, false), [], .bin .no .eql (.t 10) (.k (.it .u8 9))⟩,
⟨some 12, none, [], .pick (.t 9) (.k (.bo true)) (.t 11)⟩,
⟨some 2, none, [], .mov (.t 12)⟩] [])
.ret))⟩
def c105 : Ev.Fn := d105.den
def p105 : Pol := { loc := [], md := .pure, mds := mds, heap := [], own := [], ord := [], clr := [], mask := [], fns := [], lcl := [] }
theorem r105 : FnOK Try.prog mds 105 c105 := .read (pol := p105) (d := d105) Try.func105 (by kernel_rfl) (by kernel_rfl) rfl rfl (by kernel_rfl)

/- reservoir/token.sign -/
def d106 : DFn := ⟨[(.c .one)], [(.c .one)], .pure, [.tmp 2],
(.seq (.reg false [
⟨some 2, none, [], .mov (.k (.bo false))⟩] [])
(.seq (.blk 0 (.seq (.seq (.reg false [
⟨some 4, none, [], .mov (.t 0)⟩,
⟨some 5, none, [], .bin .no .geq (.t 4) (.k (.it .u8 97))⟩,
⟨some 6, none, [], .mov (.t 5)⟩,
⟨some 7, some (6, true), [], .mov (.t 0)⟩,
⟨some 8, some (6, true), [], .bin .no .leq (.t 7) (.k (.it .u8 122))⟩,
⟨some 9, none, [], .pick (.t 6) (.t 8) (.k (.bo false))⟩,
⟨some 3, none, [], .mov (.t 9)⟩] [])
(.cond (.t 3)
.skip
(.seq (.reg false [
⟨some 10, none, [], .mov (.t 0)⟩,
⟨some 11, none, [], .bin .no .geq (.t 10) (.k (.it .u8 65))⟩,
⟨some 12, none, [], .mov (.t 11)⟩,
⟨some 13, some (12, true), [], .mov (.t 0)⟩,
⟨some 14, some (12, true), [], .bin .no .leq (.t 13) (.k (.it .u8 90))⟩,
⟨some 15, none, [], .pick (.t 12) (.t 14) (.k (.bo false))⟩,
⟨some 3, none, [], .mov (.t 15)⟩] [])
(.cond (.t 3)
.skip
(.reg false [
⟨some 16, none, [], .mov (.t 0)⟩,
⟨some 17, none, [], .bin .no .geq (.t 16) (.k (.it .u8 48))⟩,
⟨some 18, none, [], .mov (.t 17)⟩,
⟨some 19, some (18, true), [], .mov (.t 0)⟩,
⟨some 20, some (18, true), [], .bin .no .leq (.t 19) (.k (.it .u8 57))⟩,
⟨some 21, none, [], .pick (.t 18) (.t 20) (.k (.bo false))⟩,
⟨some 3, none, [], .mov (.t 21)⟩] [])))))
(.cond (.t 3)
(.seq (.reg false [
⟨some 2, none, [], .mov (.k (.bo true))⟩] [])
.ret)
.skip)))
(.seq (.reg false [
⟨some 22, none, [], .mov (.t 0)⟩,
⟨some 23, none, [], .call false .pure 111 [(.k (.st [33, 35, 36, 37, 38, 39, 42, 43, 45, 46, 94, 95, 124, 126, 96])), (.t 22)]⟩,
⟨some 24, none, [], .bin .no .geq (.t 23) (.k (.it .i64 0))⟩,
⟨some 2, none, [], .mov (.t 24)⟩] [])
.ret)))⟩
def c106 : Ev.Fn := d106.den
def p106 : Pol := { loc := [], md := .pure, mds := mds, heap := [], own := [], ord := [], clr := [], mask := [], fns := [], lcl := [] }
theorem r106 : FnOK Try.prog mds 106 c106 := .read (pol := p106) (d := d106) Try.func106 (by kernel_rfl) (by kernel_rfl) rfl rfl (by kernel_rfl)

/- internal/stringslite.TrimPrefix -/
def d110 : DFn := ⟨[(.c .one), (.c .one)], [(.c .one)], .pure, [.tmp 4],
(.seq (.reg false [
⟨some 4, none, [], .mov (.k (.st []))⟩] [])
(.seq (.seq (.reg false [
⟨some 5, none, [], .mov (.t 0)⟩,
⟨some 6, none, [], .mov (.t 1)⟩,
⟨some 7, none, [], .call false .pure 114 [(.t 5), (.t 6)]⟩] [])
(.cond (.t 7)
(.seq (.reg false [
⟨some 8, none, [], .mov (.t 0)⟩,
⟨some 9, none, [], .mov (.t 1)⟩,
⟨some 10, none, [], .len true (.t 9)⟩,
⟨some 11, none, [], .slc true 0 (.t 8) (some (.t 10)) none⟩,
⟨some 4, none, [], .mov (.t 11)⟩] [])
.ret)
.skip))
(.seq (.reg false [
⟨some 12, none, [], .mov (.t 0)⟩,
⟨some 4, none, [], .mov (.t 12)⟩] [])
.ret)))⟩
def c110 : Ev.Fn := d110.den
def p110 : Pol := { loc := [], md := .pure, mds := mds, heap := [], own := [], ord := [], clr := [], mask := [], fns := [], lcl := [] }
theorem r110 : FnOK Try.prog mds 110 c110 := .read (pol := p110) (d := d110) Try.func110 (by kernel_rfl) (by kernel_rfl) rfl rfl (by kernel_rfl)

/- strings.IndexByte -/
def d111 : DFn := ⟨[(.c .one), (.c .one)], [(.c .one)], .pure, [.tmp 4],
(.seq (.reg false [
⟨some 4, none, [], .mov (.k (.it .i64 0))⟩] [])
(.seq (.reg false [
⟨some 5, none, [], .mov (.t 0)⟩,
⟨some 6, none, [], .mov (.t 1)⟩,
⟨some 7, none, [], .call false .pure 115 [(.t 5), (.t 6)]⟩,
⟨some 4, none, [], .mov (.t 7)⟩] [])
.ret))⟩
def c111 : Ev.Fn := d111.den
def p111 : Pol := { loc := [], md := .pure, mds := mds, heap := [], own := [], ord := [], clr := [], mask := [], fns := [], lcl := [] }
theorem r111 : FnOK Try.prog mds 111 c111 := .read (pol := p111) (d := d111) Try.func111 (by kernel_rfl) (by kernel_rfl) rfl rfl (by kernel_rfl)

/- internal/stringslite.HasPrefix -/
def d114 : DFn := ⟨[(.c .one), (.c .one)], [(.c .one)], .pure, [.tmp 4],
(.seq (.reg false [
⟨some 4, none, [], .mov (.k (.bo false))⟩] [])
(.seq (.reg false [
⟨some 5, none, [], .mov (.t 0)⟩,
⟨some 6, none, [], .len true (.t 5)⟩,
⟨some 7, none, [], .mov (.t 1)⟩,
⟨some 8, none, [], .len true (.t 7)⟩,
⟨some 9, none, [], .bin .no .geq (.t 6) (.t 8)⟩,
⟨some 10, none, [], .mov (.t 9)⟩,
⟨some 11, some (10, true), [], .mov (.t 0)⟩,
⟨some 12, some (10, true), [], .mov (.t 1)⟩,
⟨some 13, some (10, true), [], .len true (.t 12)⟩,
⟨some 14, some (10, true), [], .slc true 0 (.t 11) none (some (.t 13))⟩,
⟨some 15, some (10, true), [], .mov (.t 1)⟩,
⟨some 16, some (10, true), [], .bin .no .eql (.t 14) (.t 15)⟩,
⟨some 17, none, [], .pick (.t 10) (.t 16) (.k (.bo false))⟩,
⟨some 4, none, [], .mov (.t 17)⟩] [])
.ret))⟩
def c114 : Ev.Fn := d114.den
def p114 : Pol := { loc := [], md := .pure, mds := mds, heap := [], own := [], ord := [], clr := [], mask := [], fns := [], lcl := [] }
theorem r114 : FnOK Try.prog mds 114 c114 := .read (pol := p114) (d := d114) Try.func114 (by kernel_rfl) (by kernel_rfl) rfl rfl (by kernel_rfl)

/- internal/stringslite.IndexByte -/
def d115 : DFn := ⟨[(.c .one), (.c .one)], [(.c .one)], .pure, [.tmp 4],
(.seq (.reg false [
⟨some 4, none, [], .mov (.k (.it .i64 0))⟩] [])
(.seq (.reg false [
⟨some 5, none, [], .mov (.t 0)⟩,
⟨some 6, none, [], .mov (.t 1)⟩,
⟨some 7, none, [], .ixb (.t 5) (.t 6)⟩,
⟨some 4, none, [], .mov (.t 7)⟩] [])
.ret))⟩
def c115 : Ev.Fn := d115.den
def p115 : Pol := { loc := [], md := .pure, mds := mds, heap := [], own := [], ord := [], clr := [], mask := [], fns := [], lcl := [] }
theorem r115 : FnOK Try.prog mds 115 c115 := .read (pol := p115) (d := d115) Try.func115 (by kernel_rfl) (by kernel_rfl) rfl rfl (by kernel_rfl)

def c99 : Ev.Fn := joinFn
theorem r99 : FnOK Try.prog mds 99 c99 := ⟨by kernel_rfl, .inr fun call L h => join_run call L⟩

def tab : List (Option Ev.Fn) := [none, none, none, some c3, none, none, none, some c7, none, none, none, none, none, some c13, some c14, some c15, some c16, none, none, some c19, some c20, some c21, some c22, some c23, some c24, some c25, none, some c27, some c28, some c29, some c30, some c31, some c32, some c33, none, none, none, none, none, some c39, some c40, none, none, some c43, none, some c45, some c46, some c47, some c48, some c49, some c50, some c51, some c52, some c53, some c54, some c55, some c56, some c57, some c58, none, some c60, some c61, some c62, some c63, some c64, some c65, some c66, some c67, some c68, some c69, some c70, some c71, some c72, some c73, some c74, none, some c76, some c77, some c78, some c79, some c80, some c81, some c82, some c83, some c84, some c85, some c86, some c87, some c88, some c89, some c90, some c91, some c92, some c93, some c94, some c95, some c96, some c97, some c98, some c99, some c100, some c101, some c102, some c103, some c104, some c105, some c106, none, none, none, some c110, some c111, none, none, some c114, some c115]
def F (n : Nat) : Option Ev.Fn := (tab[n]?).join

inductive Good : Nat → List (Option Ev.Fn) → Prop
  | nil (k : Nat) : Good k []
  | none {k : Nat} {l : List (Option Ev.Fn)} (h : Good (k + 1) l) : Good k (none :: l)
  | some {k : Nat} {c : Ev.Fn} {l : List (Option Ev.Fn)} (h : FnOK Try.prog mds k c) (t : Good (k + 1) l) : Good k (some c :: l)

theorem Good.get {k : Nat} {l : List (Option Ev.Fn)} (h : Good k l) : ∀ (n : Nat) (c : Ev.Fn), (l[n]?).join = Option.some c → FnOK Try.prog mds (k + n) c := by
  induction h with
  | nil k => intro n c h; simp at h
  | none h ih =>
    intro n c hc
    cases n with
    | zero => simp at hc
    | succ n => have := ih n c (by simpa using hc); rw [Nat.add_assoc, Nat.add_comm 1 n] at this; exact this
  | some h t ih =>
    intro n c hc
    cases n with
    | zero => simp at hc; subst hc; exact h
    | succ n => have := ih n c (by simpa using hc); rw [Nat.add_assoc, Nat.add_comm 1 n] at this; exact this

theorem good : Good 0 tab := by
  unfold tab
  refine .none ?_
  refine .none ?_
  refine .none ?_
  refine .some r3 ?_
  refine .none ?_
  refine .none ?_
  refine .none ?_
  refine .some r7 ?_
  refine .none ?_
  refine .none ?_
  refine .none ?_
  refine .none ?_
  refine .none ?_
  refine .some r13 ?_
  refine .some r14 ?_
  refine .some r15 ?_
  refine .some r16 ?_
  refine .none ?_
  refine .none ?_
  refine .some r19 ?_
  refine .some r20 ?_
  refine .some r21 ?_
  refine .some r22 ?_
  refine .some r23 ?_
  refine .some r24 ?_
  refine .some r25 ?_
  refine .none ?_
  refine .some r27 ?_
  refine .some r28 ?_
  refine .some r29 ?_
  refine .some r30 ?_
  refine .some r31 ?_
  refine .some r32 ?_
  refine .some r33 ?_
  refine .none ?_
  refine .none ?_
  refine .none ?_
  refine .none ?_
  refine .none ?_
  refine .some r39 ?_
  refine .some r40 ?_
  refine .none ?_
  refine .none ?_
  refine .some r43 ?_
  refine .none ?_
  refine .some r45 ?_
  refine .some r46 ?_
  refine .some r47 ?_
  refine .some r48 ?_
  refine .some r49 ?_
  refine .some r50 ?_
  refine .some r51 ?_
  refine .some r52 ?_
  refine .some r53 ?_
  refine .some r54 ?_
  refine .some r55 ?_
  refine .some r56 ?_
  refine .some r57 ?_
  refine .some r58 ?_
  refine .none ?_
  refine .some r60 ?_
  refine .some r61 ?_
  refine .some r62 ?_
  refine .some r63 ?_
  refine .some r64 ?_
  refine .some r65 ?_
  refine .some r66 ?_
  refine .some r67 ?_
  refine .some r68 ?_
  refine .some r69 ?_
  refine .some r70 ?_
  refine .some r71 ?_
  refine .some r72 ?_
  refine .some r73 ?_
  refine .some r74 ?_
  refine .none ?_
  refine .some r76 ?_
  refine .some r77 ?_
  refine .some r78 ?_
  refine .some r79 ?_
  refine .some r80 ?_
  refine .some r81 ?_
  refine .some r82 ?_
  refine .some r83 ?_
  refine .some r84 ?_
  refine .some r85 ?_
  refine .some r86 ?_
  refine .some r87 ?_
  refine .some r88 ?_
  refine .some r89 ?_
  refine .some r90 ?_
  refine .some r91 ?_
  refine .some r92 ?_
  refine .some r93 ?_
  refine .some r94 ?_
  refine .some r95 ?_
  refine .some r96 ?_
  refine .some r97 ?_
  refine .some r98 ?_
  refine .some r99 ?_
  refine .some r100 ?_
  refine .some r101 ?_
  refine .some r102 ?_
  refine .some r103 ?_
  refine .some r104 ?_
  refine .some r105 ?_
  refine .some r106 ?_
  refine .none ?_
  refine .none ?_
  refine .none ?_
  refine .some r110 ?_
  refine .some r111 ?_
  refine .none ?_
  refine .none ?_
  refine .some r114 ?_
  refine .some r115 ?_
  exact .nil _

theorem table : Table Try.prog F mds where
  mixed := by kernel_rfl
  fns := fun f fn h => by
    have := good.get f fn h
    rw [Nat.zero_add] at this
    exact this

end Go.Proofs.Ytcbiplmgaiipgaa.tab
