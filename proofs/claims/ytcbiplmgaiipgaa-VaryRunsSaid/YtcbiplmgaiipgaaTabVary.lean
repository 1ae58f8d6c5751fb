import Derived.Test.YtcbiplmgaiipgaaEvRow
import Derived.Test.YtcbiplmgaiipgaaRows
import Derived.KernelRfl
/- the functions of the seat, read off the program -/
namespace Go.Proofs.Ytcbiplmgaiipgaa.tabVary
open Go hiding Fn
open Ev

def mdl : List Md := [.pure, .pure, .pure, .pure, .pure, .pure, .pure, .pure, .pure, .pure, .pure, .pure, .pure, .pure, .pure, .pure, .pure, .pure, .pure, .pure, .pure, .pure, .pure, .pure, .pure, .pure, .pure, .pure, .pure, .pure, .pure, .pure, .pure, .pure, .pure, .pure, .pure, .pure, .pure, .pure, .pure, .pure, .pure, .pure, .rw, .pure, .pure, .pure, .pure, .pure, .pure, .pure, .pure, .pure, .pure, .pure, .pure, .pure, .pure, .rw, .pure, .pure, .pure, .pure, .rw, .pure, .pure, .pure, .pure, .pure, .pure, .pure, .rw, .pure, .pure, .pure, .pure, .pure, .pure, .pure, .pure, .pure, .pure, .rw, .pure, .pure, .pure, .pure, .pure, .pure, .pure, .pure, .pure, .pure, .pure, .pure, .pure, .rw, .pure, .pure, .pure, .rw, .pure, .pure, .pure, .pure, .pure, .rw, .rw, .rw, .pure, .pure, .rw, .rw, .pure, .pure, .pure, .pure, .pure, .pure, .pure, .pure, .pure, .pure, .pure, .pure, .pure, .rw, .rw, .rw, .rw, .rw, .rw, .rw, .rw, .pure]
def mds (n : Nat) : Md := mdl.getD n .rw

/-- a function that was read off -/
def FnOK (f : Nat) (c : Ev.Fn) : Prop := ∃ gf pol d, Try.prog.funcs[f]? = some gf ∧ gf.name ≠ "runtime.NumGoroutine" ∧ cFn Try.prog pol gf = some d ∧ d.den = c ∧ pol.mds = mds ∧ c.md = mds f

theorem fnOK {f : Nat} {c : Ev.Fn} {gf : Func} {pol : Pol} (h1 : Try.prog.funcs[f]? = some gf) (h2 : (gf.name == "runtime.NumGoroutine") = false) {d : DFn} (h3 : cFn Try.prog pol gf = some d) (h6 : d.den = c) (h4 : pol.mds = mds) (h5 : c.md = mds f) : FnOK f c := by
  exact ⟨gf, pol, d, h1, by simpa using h2, h3, h6, h4, h5⟩

/- reservoir/reservoirlaw20.VaryRuns -/
def d8 : DFn := ⟨[], [(.c .one)], .pure, [.tmp 0],
(.seq (.reg false [
⟨some 0, none, [], .mov (.k (.bo false))⟩] [])
(.seq (.reg false [
⟨some 1, none, [], .mov (.k (.fn 34 [] []))⟩] [])
(.seq (.reg false [
⟨some 3, none, [], .call false .pure 35 [(.k (.st [65, 99, 99, 101, 112, 116])), (.k (.st [98]))]⟩,
⟨some 2, none, [], .alc [(.st []), (.st []), (.st []), (.st []), .ns, (.it .i64 0), (.it .i64 0), .ns, (.it .i64 0), (.st []), (.it .i64 0), (.it .i64 0)]⟩,
⟨none, none, [], .sto 12 (.t 2) (.t 3)⟩] [])
(.seq (.reg true [
⟨some 4, none, [], .bld [(.st []), (.st []), (.st []), (.st []), .ns, (.it .i64 0)] [(1, 1, (.k (.st [104, 116, 116, 112, 115]))), (2, 1, (.k (.st [97]))), (3, 1, (.k (.st [47, 120])))]⟩,
⟨some 5, none, [], .call false .pure 36 [(.t 4)]⟩,
⟨some 6, none, [], .bin .no .eql (.t 5) (.k (.st [104, 116, 116, 112, 115, 58, 47, 47, 97, 47, 120]))⟩,
⟨some 7, none, [], .mov (.t 6)⟩,
⟨some 8, some (7, true), [], .ld 12 true (.t 2)⟩,
⟨some 9, some (7, true), [], .mov (.t 1)⟩,
⟨some 10, some (7, true), [], .call false .pure 38 [(.k (.st [97, 99, 99, 101, 112, 116])), (.k (.st [98]))]⟩,
⟨some 11, some (7, true), [], .bsv [.one, .one] 2 [[(.st []), (.st [])]] [(0, (.t 10))]⟩,
⟨some 12, some (7, true), [], .calv [34] (.t 9) [(.t 11)]⟩,
⟨some 13, some (7, true), [], .call false .pure 37 [(.t 8), (.t 12)]⟩,
⟨some 14, none, [], .pick (.t 7) (.t 13) (.k (.bo false))⟩,
⟨some 15, none, [], .mov (.t 14)⟩,
⟨some 16, some (15, true), [], .ld 12 true (.t 2)⟩,
⟨some 17, some (15, true), [], .mov (.t 1)⟩,
⟨some 18, some (15, true), [], .call false .pure 38 [(.k (.st [97, 99, 99, 101, 112, 116])), (.k (.st [99]))]⟩,
⟨some 19, some (15, true), [], .bsv [.one, .one] 2 [[(.st []), (.st [])]] [(0, (.t 18))]⟩,
⟨some 20, some (15, true), [], .calv [34] (.t 17) [(.t 19)]⟩,
⟨some 21, some (15, true), [], .call false .pure 37 [(.t 16), (.t 20)]⟩,
⟨some 22, some (15, true), [], .un .not (.t 21)⟩,
⟨some 23, none, [], .pick (.t 15) (.t 22) (.k (.bo false))⟩,
⟨some 24, none, [], .mov (.t 23)⟩,
⟨some 25, some (24, true), [], .ld 12 true (.t 2)⟩,
⟨some 26, some (24, true), [], .mov (.t 1)⟩,
⟨some 27, some (24, true), [], .calv [34] (.t 26) [(.k .ns)]⟩,
⟨some 28, some (24, true), [], .call false .pure 37 [(.t 25), (.t 27)]⟩,
⟨some 29, some (24, true), [], .un .not (.t 28)⟩,
⟨some 30, none, [], .pick (.t 24) (.t 29) (.k (.bo false))⟩,
⟨some 31, none, [], .mov (.t 30)⟩,
⟨some 33, some (31, true), [], .mov (.t 1)⟩,
⟨some 32, some (31, true), [], .call false .pure 35 [(.k (.st [42])), (.k (.st [98]))]⟩,
⟨some 34, some (31, true), [], .call false .pure 38 [(.k (.st [97, 99, 99, 101, 112, 116])), (.k (.st [98]))]⟩,
⟨some 35, some (31, true), [], .bsv [.one, .one] 2 [[(.st []), (.st [])]] [(0, (.t 34))]⟩,
⟨some 36, some (31, true), [], .calv [34] (.t 33) [(.t 35)]⟩,
⟨some 37, some (31, true), [], .call false .pure 37 [(.t 32), (.t 36)]⟩,
⟨some 38, some (31, true), [], .un .not (.t 37)⟩,
⟨some 39, none, [], .pick (.t 31) (.t 38) (.k (.bo false))⟩,
⟨some 0, none, [], .mov (.t 39)⟩] [])
.ret))))⟩
def c8 : Ev.Fn := d8.den
def p8 : Pol := { loc := [2], md := .pure, mds := mds, heap := [], own := [], ord := [(2, [1, 0, 2]), (3, [0, 1, 2, 3, 4, 5, 6, 7, 8, 9, 10, 11, 12, 13, 14, 15, 16, 17, 18, 19, 20, 21, 22, 23, 24, 25, 26, 27, 29, 28, 30, 31, 32, 33, 34, 35, 36])], clr := [], mask := [], fns := [34] }
theorem r8 : FnOK 8 c8 := fnOK (pol := p8) (d := d8) Try.func8 (by kernel_rfl) (by kernel_rfl) rfl rfl (by kernel_rfl)

/- reservoir/reservoirlaw20.VaryRuns$1 -/
def d34 : DFn := ⟨[(.c (.sl [.one, .one]))], [(.g [.one, .one, .one, .one, (.sl [.one, .one]), .one])], .pure, [.cell 2 6 true],
(.seq (.reg false [
⟨some 2, none, [], .alc [(.st []), (.st []), (.st []), (.st []), .ns, (.it .i64 0)]⟩] [])
(.seq (.reg false [
⟨some 3, none, [], .mov (.t 0)⟩,
⟨some 4, none, [], .bld [(.st []), (.st []), (.st []), (.st []), .ns, (.it .i64 0)] [(4, 1, (.t 3))]⟩,
⟨none, none, [], .sto 6 (.t 2) (.t 4)⟩] [])
.ret))⟩
def c34 : Ev.Fn := d34.den
def p34 : Pol := { loc := [2], md := .pure, mds := mds, heap := [], own := [], ord := [], clr := [], mask := [], fns := [] }
theorem r34 : FnOK 34 c34 := fnOK (pol := p34) (d := d34) Try.func34 (by kernel_rfl) (by kernel_rfl) rfl rfl (by kernel_rfl)

/- reservoir/reservoirlaw20.entry -/
def d35 : DFn := ⟨[(.c .one), (.c .one)], [(.g [.one, .one, .one, .one, (.sl [.one, .one]), .one, .one, (.sl [.one, .one]), .one, .one, .one, .one])], .pure, [.cell 4 12 true],
(.seq (.reg false [
⟨some 4, none, [], .alc [(.st []), (.st []), (.st []), (.st []), .ns, (.it .i64 0), (.it .i64 0), .ns, (.it .i64 0), (.st []), (.it .i64 0), (.it .i64 0)]⟩] [])
(.seq (.reg false [
⟨some 5, none, [], .mov (.t 1)⟩,
⟨some 6, none, [], .call false .pure 38 [(.k (.st [97, 99, 99, 101, 112, 116])), (.t 5)]⟩,
⟨some 7, none, [], .bsv [.one, .one] 2 [[(.st []), (.st [])]] [(0, (.t 6))]⟩,
⟨some 8, none, [], .bld [(.st []), (.st []), (.st []), (.st []), .ns, (.it .i64 0)] [(4, 1, (.t 7))]⟩,
⟨some 9, none, [], .mov (.t 0)⟩,
⟨some 10, none, [], .call false .pure 38 [(.k (.st [118, 97, 114, 121])), (.t 9)]⟩,
⟨some 11, none, [], .bsv [.one, .one] 2 [[(.st []), (.st [])]] [(0, (.t 10))]⟩,
⟨some 12, none, [], .bld [(.it .i64 0), .ns, (.it .i64 0)] [(1, 1, (.t 11))]⟩,
⟨some 13, none, [], .bld [(.st []), (.st []), (.st []), (.st []), .ns, (.it .i64 0), (.it .i64 0), .ns, (.it .i64 0), (.st []), (.it .i64 0), (.it .i64 0)] [(0, 6, (.t 8)), (6, 3, (.t 12))]⟩,
⟨none, none, [], .sto 12 (.t 4) (.t 13)⟩] [])
.ret))⟩
def c35 : Ev.Fn := d35.den
def p35 : Pol := { loc := [4], md := .pure, mds := mds, heap := [], own := [], ord := [(1, [0, 4, 1, 2, 3, 5, 6, 7, 8, 9])], clr := [], mask := [], fns := [] }
theorem r35 : FnOK 35 c35 := fnOK (pol := p35) (d := d35) Try.func35 (by kernel_rfl) (by kernel_rfl) rfl rfl (by kernel_rfl)

/- reservoir/vary.Key -/
def d36 : DFn := ⟨[(.g [.one, .one, .one, .one, (.sl [.one, .one]), .one])], [(.c .one)], .pure, [.tmp 2],
(.seq (.reg false [
⟨some 1, none, [], .box (.t 0)⟩,
⟨some 2, none, [], .mov (.k (.st []))⟩] [])
(.seq (.reg false [
⟨some 3, none, [], .fad 1 (.t 1)⟩,
⟨some 4, none, [], .ld 1 false (.t 3)⟩,
⟨some 5, none, [], .bin .no .add (.t 4) (.k (.st [58, 47, 47]))⟩,
⟨some 6, none, [], .fad 2 (.t 1)⟩,
⟨some 7, none, [], .ld 1 false (.t 6)⟩,
⟨some 8, none, [], .bin .no .add (.t 5) (.t 7)⟩,
⟨some 9, none, [], .fad 3 (.t 1)⟩,
⟨some 10, none, [], .ld 1 false (.t 9)⟩,
⟨some 11, none, [], .bin .no .add (.t 8) (.t 10)⟩,
⟨some 2, none, [], .mov (.t 11)⟩] [3, 6, 9])
.ret))⟩
def c36 : Ev.Fn := d36.den
def p36 : Pol := { loc := [1], md := .pure, mds := mds, heap := [], own := [], ord := [(0, [1, 0])], clr := [(1, [3, 6, 9])], mask := [], fns := [] }
theorem r36 : FnOK 36 c36 := fnOK (pol := p36) (d := d36) Try.func36 (by kernel_rfl) (by kernel_rfl) rfl rfl (by kernel_rfl)

/- reservoir/vary.Match -/
def d37 : DFn := ⟨[(.g [.one, .one, .one, .one, (.sl [.one, .one]), .one, .one, (.sl [.one, .one]), .one, .one, .one, .one]), (.g [.one, .one, .one, .one, (.sl [.one, .one]), .one])], [(.c .one)], .pure, [.tmp 4],
(.seq (.reg false [
⟨some 2, none, [], .box (.t 0)⟩,
⟨some 3, none, [], .box (.t 1)⟩,
⟨some 4, none, [], .mov (.k (.bo false))⟩] [])
(.seq (.reg false [
⟨some 14, none, [], .fad 6 (.t 2)⟩,
⟨some 15, none, [], .fad 1 (.t 14)⟩,
⟨some 16, none, [], .ld 1 false (.t 15)⟩,
⟨some 17, none, [], .call false .pure 75 [(.t 16)]⟩,
⟨some 13, none, [], .mov (.t 17)⟩,
⟨some 18, none, [], .ext (.t 13) 0⟩,
⟨some 19, none, [], .ext (.t 13) 1⟩,
⟨some 5, none, [], .mov (.t 18)⟩,
⟨some 6, none, [], .mov (.t 19)⟩] [14, 15])
(.seq (.seq (.reg false [
⟨some 20, none, [], .mov (.t 6)⟩] [])
(.cond (.t 20)
(.seq (.reg false [
⟨some 4, none, [], .mov (.k (.bo false))⟩] [])
.ret)
.skip))
(.seq (.seq (.reg false [
⟨some 21, none, [], .mov (.t 5)⟩,
⟨some 22, none, [], .len false (.t 21)⟩,
⟨some 23, none, [], .mov (.k (.it .i64 0))⟩] [])
(.blk 0 (.loop [2, 3, 21, 22, 23] []
(.seq (.reg false [
⟨some 24, none, [], .bin .no .lss (.t 23) (.t 22)⟩] [])
(.seq (.cond (.t 24)
.skip
(.exit 0))
(.seq (.blk 1 (.seq (.reg false [
⟨some 25, none, [], .ias 1 (.t 21) (.t 23)⟩,
⟨some 26, none, [], .ld 1 false (.t 25)⟩,
⟨some 8, none, [], .mov (.t 26)⟩] [])
(.seq (.reg false [
⟨some 28, none, [], .fad 0 (.t 2)⟩,
⟨some 29, none, [], .fad 4 (.t 28)⟩,
⟨some 30, none, [], .ld 1 false (.t 29)⟩,
⟨some 31, none, [], .mov (.t 8)⟩,
⟨some 32, none, [], .call false .pure 76 [(.t 30), (.t 31)]⟩,
⟨some 27, none, [], .mov (.t 32)⟩,
⟨some 33, none, [], .ext (.t 27) 0⟩,
⟨some 34, none, [], .ext (.t 27) 1⟩,
⟨some 9, none, [], .mov (.t 33)⟩,
⟨some 10, none, [], .mov (.t 34)⟩] [28, 29])
(.seq (.reg false [
⟨some 36, none, [], .fad 4 (.t 3)⟩,
⟨some 37, none, [], .ld 1 false (.t 36)⟩,
⟨some 38, none, [], .mov (.t 8)⟩,
⟨some 39, none, [], .call false .pure 76 [(.t 37), (.t 38)]⟩,
⟨some 35, none, [], .mov (.t 39)⟩,
⟨some 40, none, [], .ext (.t 35) 0⟩,
⟨some 41, none, [], .ext (.t 35) 1⟩,
⟨some 11, none, [], .mov (.t 40)⟩,
⟨some 12, none, [], .mov (.t 41)⟩] [36])
(.seq (.reg false [
⟨some 42, none, [], .mov (.t 10)⟩,
⟨some 43, none, [], .bin .no .gtr (.t 42) (.k (.it .i64 0))⟩,
⟨some 44, none, [], .mov (.t 12)⟩,
⟨some 45, none, [], .bin .no .gtr (.t 44) (.k (.it .i64 0))⟩,
⟨some 46, none, [], .bin .bo .neq (.t 43) (.t 45)⟩,
⟨some 47, none, [], .mov (.t 46)⟩,
⟨some 48, some (47, false), [], .mov (.t 9)⟩,
⟨some 49, some (47, false), [], .call false .pure 77 [(.t 48)]⟩,
⟨some 50, some (47, false), [], .mov (.t 11)⟩,
⟨some 51, some (47, false), [], .call false .pure 77 [(.t 50)]⟩,
⟨some 52, some (47, false), [], .bin .no .neq (.t 49) (.t 51)⟩,
⟨some 53, none, [], .pick (.t 47) (.k (.bo true)) (.t 52)⟩] [])
(.cond (.t 53)
(.seq (.reg false [
⟨some 4, none, [], .mov (.k (.bo false))⟩] [])
.ret)
.skip))))))
(.reg false [
⟨some 54, none, [], .bin .no .add (.t 23) (.k (.it .i64 1))⟩,
⟨some 23, none, [], .mov (.t 54)⟩] [])))))))
(.seq (.reg false [
⟨some 4, none, [], .mov (.k (.bo true))⟩] [])
.ret)))))⟩
def c37 : Ev.Fn := d37.den
def p37 : Pol := { loc := [2, 3], md := .pure, mds := mds, heap := [], own := [], ord := [(0, [2, 0, 1]), (9, [0, 1, 2, 3, 4, 5, 6, 8, 7, 9, 10, 11])], clr := [(1, [14, 15]), (7, [28, 29]), (8, [36])], mask := [(5, [2, 3, 21, 22, 23], [])], fns := [] }
theorem r37 : FnOK 37 c37 := fnOK (pol := p37) (d := d37) Try.func37 (by kernel_rfl) (by kernel_rfl) rfl rfl (by kernel_rfl)

/- reservoir/reservoirlaw20.of -/
def d38 : DFn := ⟨[(.c .one), (.c .one)], [(.g [.one, .one])], .pure, [.cell 4 2 true],
(.seq (.reg false [
⟨some 4, none, [], .alc [(.st []), (.st [])]⟩] [])
(.seq (.reg false [
⟨some 5, none, [], .mov (.t 0)⟩,
⟨some 6, none, [], .mov (.t 1)⟩,
⟨some 7, none, [], .bld [(.st []), (.st [])] [(0, 1, (.t 5)), (1, 1, (.t 6))]⟩,
⟨none, none, [], .sto 2 (.t 4) (.t 7)⟩] [])
.ret))⟩
def c38 : Ev.Fn := d38.den
def p38 : Pol := { loc := [4], md := .pure, mds := mds, heap := [], own := [], ord := [], clr := [], mask := [], fns := [] }
theorem r38 : FnOK 38 c38 := fnOK (pol := p38) (d := d38) Try.func38 (by kernel_rfl) (by kernel_rfl) rfl rfl (by kernel_rfl)

/- reservoir/keep.Stars -/
def d75 : DFn := ⟨[(.c (.sl [.one, .one]))], [(.c (.sl [.one])), (.c .one)], .pure, [.tmp 2, .tmp 3],
(.seq (.reg false [
⟨some 2, none, [], .mov (.k .ns)⟩,
⟨some 3, none, [], .mov (.k (.bo false))⟩] [])
(.seq (.reg false [
⟨some 11, none, [], .mov (.t 0)⟩,
⟨some 12, none, [], .call false .pure 76 [(.t 11), (.k (.st [118, 97, 114, 121]))]⟩,
⟨some 10, none, [], .mov (.t 12)⟩,
⟨some 13, none, [], .ext (.t 10) 0⟩,
⟨some 14, none, [], .ext (.t 10) 1⟩,
⟨some 4, none, [], .mov (.t 13)⟩,
⟨some 5, none, [], .mov (.t 14)⟩] [])
(.seq (.reg false [
⟨some 16, none, [], .mov (.t 4)⟩,
⟨some 17, none, [], .call true .rw 83 [(.t 16)]⟩,
⟨some 15, none, [], .mov (.t 17)⟩,
⟨some 18, none, [], .ext (.t 15) 0⟩,
⟨some 19, none, [], .ext (.t 15) 1⟩,
⟨some 6, none, [], .mov (.t 18)⟩,
⟨some 7, none, [], .mov (.t 19)⟩] [])
(.seq (.seq (.reg false [
⟨some 20, none, [], .mov (.t 7)⟩,
⟨some 21, none, [], .un .not (.t 20)⟩] [])
(.cond (.t 21)
(.seq (.reg false [
⟨some 2, none, [], .mov (.k .ns)⟩,
⟨some 3, none, [], .mov (.k (.bo true))⟩] [])
.ret)
.skip))
(.seq (.seq (.reg false [
⟨some 22, none, [], .mov (.t 6)⟩,
⟨some 23, none, [], .len false (.t 22)⟩,
⟨some 24, none, [], .mov (.k (.it .i64 0))⟩] [])
(.blk 0 (.loop [6, 22, 23, 24] []
(.seq (.reg false [
⟨some 25, none, [], .bin .no .lss (.t 24) (.t 23)⟩] [])
(.seq (.cond (.t 25)
.skip
(.exit 0))
(.seq (.blk 1 (.seq (.reg false [
⟨some 26, none, [], .mov (.t 24)⟩,
⟨some 27, none, [], .ias 1 (.t 22) (.t 24)⟩,
⟨some 28, none, [], .ld 1 false (.t 27)⟩,
⟨some 8, none, [], .mov (.t 26)⟩,
⟨some 9, none, [], .mov (.t 28)⟩] [])
(.seq (.seq (.reg false [
⟨some 29, none, [], .mov (.t 9)⟩,
⟨some 30, none, [], .bin .no .eql (.t 29) (.k (.st [42]))⟩,
⟨some 31, none, [], .mov (.t 30)⟩,
⟨some 32, some (31, false), [], .mov (.t 9)⟩,
⟨some 33, some (31, false), [], .call false .pure 93 [(.t 32)]⟩,
⟨some 34, some (31, false), [], .un .not (.t 33)⟩,
⟨some 35, none, [], .pick (.t 31) (.k (.bo true)) (.t 34)⟩] [])
(.cond (.t 35)
(.seq (.reg false [
⟨some 2, none, [], .mov (.k .ns)⟩,
⟨some 3, none, [], .mov (.k (.bo true))⟩] [])
.ret)
.skip))
(.reg false [
⟨some 36, none, [], .mov (.t 6)⟩,
⟨some 37, none, [], .mov (.t 8)⟩,
⟨some 38, none, [], .mov (.t 9)⟩,
⟨some 39, none, [], .call true .pure 89 [(.t 38)]⟩,
⟨some 40, none, [], .ias 1 (.t 36) (.t 37)⟩,
⟨none, none, [], .sto 1 (.t 40) (.t 39)⟩] []))))
(.reg false [
⟨some 41, none, [], .bin .no .add (.t 24) (.k (.it .i64 1))⟩,
⟨some 24, none, [], .mov (.t 41)⟩] [])))))))
(.seq (.reg false [
⟨some 42, none, [], .mov (.t 6)⟩,
⟨some 2, none, [], .mov (.t 42)⟩,
⟨some 3, none, [], .mov (.k (.bo false))⟩] [])
.ret))))))⟩
def c75 : Ev.Fn := d75.den
def p75 : Pol := { loc := [], md := .pure, mds := mds, heap := [17, 39], own := [17, 39], ord := [], clr := [], mask := [(6, [6, 22, 23, 24], [])], fns := [] }
theorem r75 : FnOK 75 c75 := fnOK (pol := p75) (d := d75) Try.func75 (by kernel_rfl) (by kernel_rfl) rfl rfl (by kernel_rfl)

/- reservoir/token.All -/
def d76 : DFn := ⟨[(.c (.sl [.one, .one])), (.c .one)], [(.c .one), (.c .one)], .pure, [.tmp 4, .tmp 5],
(.seq (.reg false [
⟨some 4, none, [], .mov (.k (.st []))⟩,
⟨some 5, none, [], .mov (.k (.it .i64 0))⟩] [])
(.seq (.reg false [
⟨some 6, none, [], .mov (.k .ns)⟩] [])
(.seq (.seq (.reg false [
⟨some 9, none, [], .mov (.t 0)⟩,
⟨some 10, none, [], .len false (.t 9)⟩,
⟨some 11, none, [], .mov (.k (.it .i64 0))⟩] [])
(.blk 0 (.loop [1, 6, 9, 10, 11] [8]
(.seq (.reg false [
⟨some 12, none, [], .bin .no .lss (.t 11) (.t 10)⟩] [])
(.seq (.cond (.t 12)
.skip
(.exit 0))
(.seq (.blk 1 (.seq (.reg false [
⟨some 13, none, [], .ias 2 (.t 9) (.t 11)⟩,
⟨some 14, none, [], .ld 2 true (.t 13)⟩,
⟨some 8, none, [], .alc [(.st []), (.st [])]⟩,
⟨none, none, [], .sto 2 (.t 8) (.t 14)⟩] [])
(.seq (.reg false [
⟨some 15, none, [], .fad 0 (.t 8)⟩,
⟨some 16, none, [], .ld 1 false (.t 15)⟩,
⟨some 17, none, [], .mov (.t 1)⟩,
⟨some 18, none, [], .bin .no .eql (.t 16) (.t 17)⟩] [15])
(.cond (.t 18)
(.reg false [
⟨some 19, none, [], .mov (.t 6)⟩,
⟨some 20, none, [], .fad 1 (.t 8)⟩,
⟨some 21, none, [], .ld 1 false (.t 20)⟩,
⟨some 22, none, [], .bsv [.one] 1 [[(.st [])]] [(0, (.t 21))]⟩,
⟨some 23, none, [], .app 1 16 (.t 19) (.t 22)⟩,
⟨some 6, none, [], .mov (.t 23)⟩] [20])
.skip))))
(.reg false [
⟨some 24, none, [], .bin .no .add (.t 11) (.k (.it .i64 1))⟩,
⟨some 11, none, [], .mov (.t 24)⟩] [])))))))
(.seq (.reg false [
⟨some 25, none, [], .mov (.t 6)⟩,
⟨some 26, none, [], .call false .pure 99 [(.t 25), (.k (.st [44, 32]))]⟩,
⟨some 27, none, [], .mov (.t 6)⟩,
⟨some 28, none, [], .len false (.t 27)⟩,
⟨some 4, none, [], .mov (.t 26)⟩,
⟨some 5, none, [], .mov (.t 28)⟩] [])
.ret))))⟩
def c76 : Ev.Fn := d76.den
def p76 : Pol := { loc := [8], md := .pure, mds := mds, heap := [23], own := [23], ord := [(8, [0, 2, 3, 1, 4, 5])], clr := [(5, [15]), (6, [20])], mask := [(3, [1, 6, 9, 10, 11], [8])], fns := [] }
theorem r76 : FnOK 76 c76 := fnOK (pol := p76) (d := d76) Try.func76 (by kernel_rfl) (by kernel_rfl) rfl rfl (by kernel_rfl)

/- reservoir/token.Trim -/
def d77 : DFn := ⟨[(.c .one)], [(.c .one)], .pure, [.tmp 2],
(.seq (.reg false [
⟨some 2, none, [], .mov (.k (.st []))⟩] [])
(.seq (.blk 0 (.loop [0] []
(.seq (.seq (.reg false [
⟨some 3, none, [], .mov (.t 0)⟩,
⟨some 4, none, [], .bin .no .neq (.t 3) (.k (.st []))⟩,
⟨some 5, none, [], .mov (.t 4)⟩,
⟨some 6, some (5, true), [], .mov (.t 0)⟩,
⟨some 7, some (5, true), [], .ixs (.t 6) (.k (.it .i64 0))⟩,
⟨some 8, some (5, true), [], .call false .pure 100 [(.t 7)]⟩,
⟨some 9, none, [], .pick (.t 5) (.t 8) (.k (.bo false))⟩] [])
(.cond (.t 9)
.skip
(.exit 0)))
(.blk 1 (.reg false [
⟨some 10, none, [], .mov (.t 0)⟩,
⟨some 11, none, [], .slc true 0 (.t 10) (some (.k (.it .i64 1))) none⟩,
⟨some 0, none, [], .mov (.t 11)⟩] [])))))
(.seq (.blk 2 (.loop [0] []
(.seq (.seq (.reg false [
⟨some 12, none, [], .mov (.t 0)⟩,
⟨some 13, none, [], .bin .no .neq (.t 12) (.k (.st []))⟩,
⟨some 14, none, [], .mov (.t 13)⟩,
⟨some 15, some (14, true), [], .mov (.t 0)⟩,
⟨some 16, some (14, true), [], .mov (.t 0)⟩,
⟨some 17, some (14, true), [], .len true (.t 16)⟩,
⟨some 18, some (14, true), [], .bin .no .sub (.t 17) (.k (.it .i64 1))⟩,
⟨some 19, some (14, true), [], .ixs (.t 15) (.t 18)⟩,
⟨some 20, some (14, true), [], .call false .pure 100 [(.t 19)]⟩,
⟨some 21, none, [], .pick (.t 14) (.t 20) (.k (.bo false))⟩] [])
(.cond (.t 21)
.skip
(.exit 2)))
(.blk 3 (.reg false [
⟨some 22, none, [], .mov (.t 0)⟩,
⟨some 23, none, [], .mov (.t 0)⟩,
⟨some 24, none, [], .len true (.t 23)⟩,
⟨some 25, none, [], .bin .no .sub (.t 24) (.k (.it .i64 1))⟩,
⟨some 26, none, [], .slc true 0 (.t 22) none (some (.t 25))⟩,
⟨some 0, none, [], .mov (.t 26)⟩] [])))))
(.seq (.reg false [
⟨some 27, none, [], .mov (.t 0)⟩,
⟨some 2, none, [], .mov (.t 27)⟩] [])
.ret))))⟩
def c77 : Ev.Fn := d77.den
def p77 : Pol := { loc := [], md := .pure, mds := mds, heap := [], own := [], ord := [], clr := [], mask := [(1, [0], []), (3, [0], [])], fns := [] }
theorem r77 : FnOK 77 c77 := fnOK (pol := p77) (d := d77) Try.func77 (by kernel_rfl) (by kernel_rfl) rfl rfl (by kernel_rfl)

/- reservoir/token.Split -/
def d83 : DFn := ⟨[(.c .one)], [(.c (.sl [.one])), (.c .one)], .rw, [.tmp 2, .tmp 3],
(.seq (.reg false [
⟨some 1, none, [], .bxh (.t 0)⟩,
⟨some 2, none, [], .mov (.k .ns)⟩,
⟨some 3, none, [], .mov (.k (.bo false))⟩] [])
(.seq (.reg false [
⟨some 4, none, [], .alh [.ns]⟩] [])
(.seq (.reg false [
⟨some 5, none, [], .alh [(.it .i64 0)]⟩,
⟨none, none, [], .sto 1 (.t 5) (.k (.it .i64 0))⟩] [])
(.seq (.reg false [
⟨some 10, none, [], .mkf 101 [] [(.t 1), (.t 5), (.t 4)]⟩,
⟨some 6, none, [], .mov (.t 10)⟩] [])
(.seq (.seq (.reg false [
⟨some 7, none, [], .mov (.k (.it .i64 0))⟩] [])
(.blk 0 (.loop [1, 4, 5, 6, 7] []
(.seq (.seq (.reg false [
⟨some 11, none, [], .mov (.t 7)⟩,
⟨some 12, none, [], .ld 1 false (.t 1)⟩,
⟨some 13, none, [], .len true (.t 12)⟩,
⟨some 14, none, [], .bin .no .lss (.t 11) (.t 13)⟩] [])
(.cond (.t 14)
.skip
(.exit 0)))
(.blk 1 (.seq (.reg false [
⟨some 15, none, [], .ld 1 false (.t 1)⟩,
⟨some 16, none, [], .mov (.t 7)⟩,
⟨some 17, none, [], .ixs (.t 15) (.t 16)⟩] [])
(.blk 2 (.seq (.reg false [
⟨some 21, none, [], .bin .no .eql (.t 17) (.k (.it .u8 44))⟩,
⟨some 20, none, [], .mov (.t 21)⟩] [])
(.cond (.t 20)
(.seq (.reg false [
⟨some 22, none, [], .mov (.t 6)⟩,
⟨some 23, none, [], .mov (.t 7)⟩,
⟨some 24, none, [], .calv [] (.t 22) [(.t 23)]⟩] [])
(.seq (.reg false [
⟨some 25, none, [], .mov (.t 7)⟩,
⟨some 26, none, [], .bin .no .add (.t 25) (.k (.it .i64 1))⟩,
⟨some 7, none, [], .mov (.t 26)⟩] [])
(.reg false [
⟨some 27, none, [], .mov (.t 7)⟩,
⟨none, none, [], .sto 1 (.t 5) (.t 27)⟩] [])))
(.seq (.reg false [
⟨some 29, none, [], .bin .no .eql (.t 17) (.k (.it .u8 34))⟩,
⟨some 28, none, [], .mov (.t 29)⟩] [])
(.cond (.t 28)
(.seq (.reg false [
⟨some 31, none, [], .ld 1 false (.t 1)⟩,
⟨some 32, none, [], .mov (.t 7)⟩,
⟨some 33, none, [], .call true .pure 102 [(.t 31), (.t 32)]⟩,
⟨some 30, none, [], .mov (.t 33)⟩,
⟨some 34, none, [], .ext (.t 30) 0⟩,
⟨some 35, none, [], .ext (.t 30) 1⟩,
⟨some 8, none, [], .mov (.t 34)⟩,
⟨some 9, none, [], .mov (.t 35)⟩] [])
(.seq (.seq (.reg false [
⟨some 36, none, [], .mov (.t 9)⟩,
⟨some 37, none, [], .un .not (.t 36)⟩] [])
(.cond (.t 37)
(.seq (.reg false [
⟨some 2, none, [], .mov (.k .ns)⟩,
⟨some 3, none, [], .mov (.k (.bo false))⟩] [])
.ret)
.skip))
(.reg false [
⟨some 38, none, [], .mov (.t 8)⟩,
⟨some 7, none, [], .mov (.t 38)⟩] [])))
(.reg false [
⟨some 18, none, [], .mov (.t 7)⟩,
⟨some 19, none, [], .bin .no .add (.t 18) (.k (.it .i64 1))⟩,
⟨some 7, none, [], .mov (.t 19)⟩] []))))))))))))
(.seq (.reg false [
⟨some 39, none, [], .mov (.t 6)⟩,
⟨some 40, none, [], .ld 1 false (.t 1)⟩,
⟨some 41, none, [], .len true (.t 40)⟩,
⟨some 42, none, [], .calv [] (.t 39) [(.t 41)]⟩] [])
(.seq (.reg false [
⟨some 43, none, [], .ld 1 false (.t 4)⟩,
⟨some 2, none, [], .mov (.t 43)⟩,
⟨some 3, none, [], .mov (.k (.bo true))⟩] [])
.ret)))))))⟩
def c83 : Ev.Fn := d83.den
def p83 : Pol := { loc := [], md := .rw, mds := mds, heap := [33], own := [33], ord := [(0, [1, 2, 0])], clr := [], mask := [(5, [1, 4, 5, 6, 7], [])], fns := [101] }
theorem r83 : FnOK 83 c83 := fnOK (pol := p83) (d := d83) Try.func83 (by kernel_rfl) (by kernel_rfl) rfl rfl (by kernel_rfl)

/- reservoir/token.Lower -/
def d89 : DFn := ⟨[(.c .one)], [(.c .one)], .pure, [.tmp 2],
(.seq (.reg false [
⟨some 2, none, [], .mov (.k (.st []))⟩] [])
(.seq (.reg false [
⟨some 6, none, [], .mov (.t 0)⟩,
⟨some 7, none, [], .cnv .s2b (.t 6)⟩,
⟨some 3, none, [], .mov (.t 7)⟩] [])
(.seq (.seq (.reg false [
⟨some 8, none, [], .mov (.t 3)⟩,
⟨some 9, none, [], .len false (.t 8)⟩,
⟨some 10, none, [], .mov (.k (.it .i64 0))⟩] [])
(.blk 0 (.loop [3, 8, 9, 10] []
(.seq (.reg false [
⟨some 11, none, [], .bin .no .lss (.t 10) (.t 9)⟩] [])
(.seq (.cond (.t 11)
.skip
(.exit 0))
(.seq (.blk 1 (.seq (.reg false [
⟨some 12, none, [], .mov (.t 10)⟩,
⟨some 13, none, [], .ias 1 (.t 8) (.t 10)⟩,
⟨some 14, none, [], .ld 1 false (.t 13)⟩,
⟨some 4, none, [], .mov (.t 12)⟩,
⟨some 5, none, [], .mov (.t 14)⟩] [])
(.seq (.reg false [
⟨some 15, none, [], .mov (.t 5)⟩,
⟨some 16, none, [], .bin .no .geq (.t 15) (.k (.it .u8 65))⟩,
⟨some 17, none, [], .mov (.t 16)⟩,
⟨some 18, some (17, true), [], .mov (.t 5)⟩,
⟨some 19, some (17, true), [], .bin .no .leq (.t 18) (.k (.it .u8 90))⟩,
⟨some 20, none, [], .pick (.t 17) (.t 19) (.k (.bo false))⟩] [])
(.cond (.t 20)
(.reg false [
⟨some 21, none, [], .mov (.t 3)⟩,
⟨some 22, none, [], .mov (.t 4)⟩,
⟨some 23, none, [], .mov (.t 5)⟩,
⟨some 24, none, [], .bin .no .add (.t 23) (.k (.it .u8 32))⟩,
⟨some 25, none, [], .ias 1 (.t 21) (.t 22)⟩,
⟨none, none, [], .sto 1 (.t 25) (.t 24)⟩] [])
.skip))))
(.reg false [
⟨some 26, none, [], .bin .no .add (.t 10) (.k (.it .i64 1))⟩,
⟨some 10, none, [], .mov (.t 26)⟩] [])))))))
(.seq (.reg false [
⟨some 27, none, [], .mov (.t 3)⟩,
⟨some 28, none, [], .cnv .b2s (.t 27)⟩,
⟨some 2, none, [], .mov (.t 28)⟩] [])
.ret))))⟩
def c89 : Ev.Fn := d89.den
def p89 : Pol := { loc := [], md := .pure, mds := mds, heap := [7], own := [7], ord := [], clr := [], mask := [(3, [3, 8, 9, 10], [])], fns := [] }
theorem r89 : FnOK 89 c89 := fnOK (pol := p89) (d := d89) Try.func89 (by kernel_rfl) (by kernel_rfl) rfl rfl (by kernel_rfl)

/- reservoir/token.Token -/
def d93 : DFn := ⟨[(.c .one)], [(.c .one)], .pure, [.tmp 2],
(.seq (.reg false [
⟨some 2, none, [], .mov (.k (.bo false))⟩] [])
(.seq (.seq (.reg false [
⟨some 4, none, [], .mov (.t 0)⟩,
⟨some 5, none, [], .len true (.t 4)⟩,
⟨some 6, none, [], .mov (.k (.it .i64 0))⟩] [])
(.blk 0 (.loop [0, 5, 6] []
(.seq (.reg false [
⟨some 7, none, [], .bin .no .lss (.t 6) (.t 5)⟩] [])
(.seq (.cond (.t 7)
.skip
(.exit 0))
(.seq (.blk 1 (.seq (.reg false [
⟨some 8, none, [], .mov (.t 6)⟩,
⟨some 3, none, [], .mov (.t 8)⟩] [])
(.seq (.reg false [
⟨some 9, none, [], .mov (.t 0)⟩,
⟨some 10, none, [], .mov (.t 3)⟩,
⟨some 11, none, [], .ixs (.t 9) (.t 10)⟩,
⟨some 12, none, [], .call false .pure 106 [(.t 11)]⟩,
⟨some 13, none, [], .un .not (.t 12)⟩] [])
(.cond (.t 13)
(.seq (.reg false [
⟨some 2, none, [], .mov (.k (.bo false))⟩] [])
.ret)
.skip))))
(.reg false [
⟨some 14, none, [], .bin .no .add (.t 6) (.k (.it .i64 1))⟩,
⟨some 6, none, [], .mov (.t 14)⟩] [])))))))
(.seq (.reg false [
⟨some 15, none, [], .mov (.t 0)⟩,
⟨some 16, none, [], .bin .no .neq (.t 15) (.k (.st []))⟩,
⟨some 2, none, [], .mov (.t 16)⟩] [])
.ret)))⟩
def c93 : Ev.Fn := d93.den
def p93 : Pol := { loc := [], md := .pure, mds := mds, heap := [], own := [], ord := [], clr := [], mask := [(2, [0, 5, 6], [])], fns := [] }
theorem r93 : FnOK 93 c93 := fnOK (pol := p93) (d := d93) Try.func93 (by kernel_rfl) (by kernel_rfl) rfl rfl (by kernel_rfl)

/- strings.Join -/
def d99 : DFn := ⟨[(.c (.sl [.one])), (.c .one)], [(.c .one)], .pure, [.tmp 4],
(.seq (.reg false [
⟨some 4, none, [], .mov (.k (.st []))⟩] [])
(.seq (.seq (.reg false [
⟨some 11, none, [], .mov (.t 0)⟩,
⟨some 12, none, [], .len false (.t 11)⟩] [])
(.blk 0 (.seq (.reg false [
⟨some 14, none, [], .bin .no .eql (.t 12) (.k (.it .i64 0))⟩,
⟨some 13, none, [], .mov (.t 14)⟩] [])
(.cond (.t 13)
(.seq (.reg false [
⟨some 4, none, [], .mov (.k (.st []))⟩] [])
.ret)
(.seq (.reg false [
⟨some 16, none, [], .bin .no .eql (.t 12) (.k (.it .i64 1))⟩,
⟨some 15, none, [], .mov (.t 16)⟩] [])
(.cond (.t 15)
(.seq (.reg false [
⟨some 17, none, [], .mov (.t 0)⟩,
⟨some 18, none, [], .ias 1 (.t 17) (.k (.it .i64 0))⟩,
⟨some 19, none, [], .ld 1 false (.t 18)⟩,
⟨some 4, none, [], .mov (.t 19)⟩] [])
.ret)
.skip))))))
(.seq (.reg false [
⟨some 5, none, [], .mov (.k (.it .i64 0))⟩] [])
(.seq (.seq (.reg false [
⟨some 20, none, [], .mov (.t 1)⟩,
⟨some 21, none, [], .len true (.t 20)⟩,
⟨some 22, none, [], .bin .no .gtr (.t 21) (.k (.it .i64 0))⟩] [])
(.cond (.t 22)
(.seq (.seq (.reg false [
⟨some 23, none, [], .mov (.t 1)⟩,
⟨some 24, none, [], .len true (.t 23)⟩,
⟨some 25, none, [], .mov (.t 0)⟩,
⟨some 26, none, [], .len false (.t 25)⟩,
⟨some 27, none, [], .bin .no .sub (.t 26) (.k (.it .i64 1))⟩,
⟨some 28, none, [], .bin .no .quo (.k (.it .i64 9223372036854775807)) (.t 27)⟩,
⟨some 29, none, [], .bin .no .geq (.t 24) (.t 28)⟩] [])
(.cond (.t 29)
(.reg false [
⟨some 30, none, [], .mki 9 (.k (.st [115, 116, 114, 105, 110, 103, 115, 58, 32, 74, 111, 105, 110, 32, 111, 117, 116, 112, 117, 116, 32, 108, 101, 110, 103, 116, 104, 32, 111, 118, 101, 114, 102, 108, 111, 119]))⟩,
⟨none, none, [], .pan (.t 30)⟩] [])
.skip))
(.reg false [
⟨some 31, none, [], .mov (.t 5)⟩,
⟨some 32, none, [], .mov (.t 1)⟩,
⟨some 33, none, [], .len true (.t 32)⟩,
⟨some 34, none, [], .mov (.t 0)⟩,
⟨some 35, none, [], .len false (.t 34)⟩,
⟨some 36, none, [], .bin .no .sub (.t 35) (.k (.it .i64 1))⟩,
⟨some 37, none, [], .bin .no .mul (.t 33) (.t 36)⟩,
⟨some 38, none, [], .bin .no .add (.t 31) (.t 37)⟩,
⟨some 5, none, [], .mov (.t 38)⟩] []))
.skip))
(.seq (.seq (.reg false [
⟨some 39, none, [], .mov (.t 0)⟩,
⟨some 40, none, [], .len false (.t 39)⟩,
⟨some 41, none, [], .mov (.k (.it .i64 0))⟩] [])
(.blk 1 (.loop [0, 1, 5, 39, 40, 41] []
(.seq (.reg false [
⟨some 42, none, [], .bin .no .lss (.t 41) (.t 40)⟩] [])
(.seq (.cond (.t 42)
.skip
(.exit 1))
(.seq (.blk 2 (.seq (.reg false [
⟨some 43, none, [], .ias 1 (.t 39) (.t 41)⟩,
⟨some 44, none, [], .ld 1 false (.t 43)⟩,
⟨some 7, none, [], .mov (.t 44)⟩] [])
(.seq (.seq (.reg false [
⟨some 45, none, [], .mov (.t 7)⟩,
⟨some 46, none, [], .len true (.t 45)⟩,
⟨some 47, none, [], .mov (.t 5)⟩,
⟨some 48, none, [], .bin .no .sub (.k (.it .i64 9223372036854775807)) (.t 47)⟩,
⟨some 49, none, [], .bin .no .gtr (.t 46) (.t 48)⟩] [])
(.cond (.t 49)
(.reg false [
⟨some 50, none, [], .mki 9 (.k (.st [115, 116, 114, 105, 110, 103, 115, 58, 32, 74, 111, 105, 110, 32, 111, 117, 116, 112, 117, 116, 32, 108, 101, 110, 103, 116, 104, 32, 111, 118, 101, 114, 102, 108, 111, 119]))⟩,
⟨none, none, [], .pan (.t 50)⟩] [])
.skip))
(.reg false [
⟨some 51, none, [], .mov (.t 5)⟩,
⟨some 52, none, [], .mov (.t 7)⟩,
⟨some 53, none, [], .len true (.t 52)⟩,
⟨some 54, none, [], .bin .no .add (.t 51) (.t 53)⟩,
⟨some 5, none, [], .mov (.t 54)⟩] []))))
(.reg false [
⟨some 55, none, [], .bin .no .add (.t 41) (.k (.it .i64 1))⟩,
⟨some 41, none, [], .mov (.t 55)⟩] [])))))))
(.seq (.reg false [
⟨some 8, none, [], .alh [.np, .ns]⟩] [])
(.seq (.reg false [
⟨some 56, none, [], .mov (.t 5)⟩,
⟨some 57, none, [], .call false .rw 107 [(.t 8), (.t 56)]⟩] [])
(.seq (.reg false [
⟨some 58, none, [], .mov (.t 0)⟩,
⟨some 59, none, [], .ias 1 (.t 58) (.k (.it .i64 0))⟩,
⟨some 60, none, [], .ld 1 false (.t 59)⟩,
⟨some 61, none, [], .call false .rw 108 [(.t 8), (.t 60)]⟩] [])
(.seq (.seq (.reg false [
⟨some 62, none, [], .mov (.t 0)⟩,
⟨some 63, none, [], .slc false 1 (.t 62) (some (.k (.it .i64 1))) none⟩,
⟨some 64, none, [], .len false (.t 63)⟩,
⟨some 65, none, [], .mov (.k (.it .i64 0))⟩] [])
(.blk 3 (.loop [1, 8, 63, 64, 65] []
(.seq (.reg false [
⟨some 66, none, [], .bin .no .lss (.t 65) (.t 64)⟩] [])
(.seq (.cond (.t 66)
.skip
(.exit 3))
(.seq (.blk 4 (.seq (.reg false [
⟨some 67, none, [], .ias 1 (.t 63) (.t 65)⟩,
⟨some 68, none, [], .ld 1 false (.t 67)⟩,
⟨some 10, none, [], .mov (.t 68)⟩] [])
(.seq (.reg false [
⟨some 69, none, [], .mov (.t 1)⟩,
⟨some 70, none, [], .call false .rw 108 [(.t 8), (.t 69)]⟩] [])
(.reg false [
⟨some 71, none, [], .mov (.t 10)⟩,
⟨some 72, none, [], .call false .rw 108 [(.t 8), (.t 71)]⟩] []))))
(.reg false [
⟨some 73, none, [], .bin .no .add (.t 65) (.k (.it .i64 1))⟩,
⟨some 65, none, [], .mov (.t 73)⟩] [])))))))
(.seq (.reg false [
⟨some 74, none, [], .call false .rw 109 [(.t 8)]⟩,
⟨some 4, none, [], .mov (.t 74)⟩] [])
.ret))))))))))⟩
def c99 : Ev.Fn := d99.den
def p99 : Pol := { loc := [], md := .pure, mds := mds, heap := [], own := [], ord := [], clr := [], mask := [(12, [0, 1, 5, 39, 40, 41], []), (22, [1, 8, 63, 64, 65], [])], fns := [] }
theorem r99 : FnOK 99 c99 := fnOK (pol := p99) (d := d99) Try.func99 (by kernel_rfl) (by kernel_rfl) rfl rfl (by kernel_rfl)

/- reservoir/token.blank -/
def d100 : DFn := ⟨[(.c .one)], [(.c .one)], .pure, [.tmp 2],
(.seq (.reg false [
⟨some 2, none, [], .mov (.k (.bo false))⟩] [])
(.seq (.reg false [
⟨some 3, none, [], .mov (.t 0)⟩,
⟨some 4, none, [], .bin .no .eql (.t 3) (.k (.it .u8 32))⟩,
⟨some 5, none, [], .mov (.t 4)⟩,
⟨some 6, some (5, false), [], .mov (.t 0)⟩,
⟨some 7, some (5, false), [], .bin .no .eql (.t 6) (.k (.it .u8 9))⟩,
⟨some 8, none, [], .pick (.t 5) (.k (.bo true)) (.t 7)⟩,
⟨some 2, none, [], .mov (.t 8)⟩] [])
.ret))⟩
def c100 : Ev.Fn := d100.den
def p100 : Pol := { loc := [], md := .pure, mds := mds, heap := [], own := [], ord := [], clr := [], mask := [], fns := [] }
theorem r100 : FnOK 100 c100 := fnOK (pol := p100) (d := d100) Try.func100 (by kernel_rfl) (by kernel_rfl) rfl rfl (by kernel_rfl)

/- reservoir/token.Split$1 -/
def d101 : DFn := ⟨[(.c .one), (.c .one), (.c .one), (.c .one)], [], .rw, [],
(.seq (.reg false [
⟨some 6, none, [], .ld 1 false (.t 1)⟩,
⟨some 7, none, [], .ld 1 false (.t 2)⟩,
⟨some 8, none, [], .mov (.t 0)⟩,
⟨some 9, none, [], .slc true 0 (.t 6) (some (.t 7)) (some (.t 8))⟩,
⟨some 10, none, [], .call false .pure 77 [(.t 9)]⟩,
⟨some 5, none, [], .mov (.t 10)⟩] [])
(.seq (.reg false [
⟨some 11, none, [], .mov (.t 5)⟩,
⟨some 12, none, [], .bin .no .neq (.t 11) (.k (.st []))⟩] [])
(.cond (.t 12)
(.reg false [
⟨some 13, none, [], .ld 1 false (.t 3)⟩,
⟨some 14, none, [], .mov (.t 5)⟩,
⟨some 15, none, [], .bsv [.one] 1 [[(.st [])]] [(0, (.t 14))]⟩,
⟨some 16, none, [], .app 1 16 (.t 13) (.t 15)⟩,
⟨none, none, [], .sto 1 (.t 3) (.t 16)⟩] [])
.skip)))⟩
def c101 : Ev.Fn := d101.den
def p101 : Pol := { loc := [], md := .rw, mds := mds, heap := [16], own := [16], ord := [], clr := [], mask := [], fns := [] }
theorem r101 : FnOK 101 c101 := fnOK (pol := p101) (d := d101) Try.func101 (by kernel_rfl) (by kernel_rfl) rfl rfl (by kernel_rfl)

/- reservoir/token.quoted -/
def d102 : DFn := ⟨[(.c .one), (.c .one)], [(.c .one), (.c .one)], .pure, [.tmp 4, .tmp 5],
(.seq (.reg false [
⟨some 4, none, [], .mov (.k (.it .i64 0))⟩,
⟨some 5, none, [], .mov (.k (.bo false))⟩] [])
(.seq (.seq (.reg false [
⟨some 7, none, [], .mov (.t 1)⟩,
⟨some 8, none, [], .bin .no .add (.t 7) (.k (.it .i64 1))⟩,
⟨some 6, none, [], .mov (.t 8)⟩] [])
(.blk 0 (.loop [0, 6] []
(.seq (.seq (.reg false [
⟨some 9, none, [], .mov (.t 6)⟩,
⟨some 10, none, [], .mov (.t 0)⟩,
⟨some 11, none, [], .len true (.t 10)⟩,
⟨some 12, none, [], .bin .no .lss (.t 9) (.t 11)⟩] [])
(.cond (.t 12)
.skip
(.exit 0)))
(.seq (.blk 1 (.seq (.reg false [
⟨some 15, none, [], .mov (.t 0)⟩,
⟨some 16, none, [], .mov (.t 6)⟩,
⟨some 17, none, [], .ixs (.t 15) (.t 16)⟩] [])
(.blk 2 (.seq (.reg false [
⟨some 19, none, [], .bin .no .eql (.t 17) (.k (.it .u8 92))⟩,
⟨some 18, none, [], .mov (.t 19)⟩] [])
(.cond (.t 18)
(.reg false [
⟨some 20, none, [], .mov (.t 6)⟩,
⟨some 21, none, [], .bin .no .add (.t 20) (.k (.it .i64 1))⟩,
⟨some 6, none, [], .mov (.t 21)⟩] [])
(.seq (.reg false [
⟨some 23, none, [], .bin .no .eql (.t 17) (.k (.it .u8 34))⟩,
⟨some 22, none, [], .mov (.t 23)⟩] [])
(.cond (.t 22)
(.seq (.reg false [
⟨some 24, none, [], .mov (.t 6)⟩,
⟨some 25, none, [], .bin .no .add (.t 24) (.k (.it .i64 1))⟩,
⟨some 4, none, [], .mov (.t 25)⟩,
⟨some 5, none, [], .mov (.k (.bo true))⟩] [])
.ret)
.skip)))))))
(.reg false [
⟨some 13, none, [], .mov (.t 6)⟩,
⟨some 14, none, [], .bin .no .add (.t 13) (.k (.it .i64 1))⟩,
⟨some 6, none, [], .mov (.t 14)⟩] []))))))
(.seq (.reg false [
⟨some 4, none, [], .mov (.k (.it .i64 0))⟩,
⟨some 5, none, [], .mov (.k (.bo false))⟩] [])
.ret)))⟩
def c102 : Ev.Fn := d102.den
def p102 : Pol := { loc := [], md := .pure, mds := mds, heap := [], own := [], ord := [], clr := [], mask := [(2, [0, 6], [])], fns := [] }
theorem r102 : FnOK 102 c102 := fnOK (pol := p102) (d := d102) Try.func102 (by kernel_rfl) (by kernel_rfl) rfl rfl (by kernel_rfl)

/- reservoir/token.sign -/
def d106 : DFn := ⟨[(.c .one)], [(.c .one)], .pure, [.tmp 2],
(.seq (.reg false [
⟨some 2, none, [], .mov (.k (.bo false))⟩] [])
(.seq (.blk 0 (.seq (.seq (.reg false [
⟨some 4, none, [], .mov (.t 0)⟩,
⟨some 5, none, [], .bin .no .geq (.t 4) (.k (.it .u8 97))⟩,
⟨some 6, none, [], .mov (.t 5)⟩,
⟨some 7, some (6, true), [], .mov (.t 0)⟩,
⟨some 8, some (6, true), [], .bin .no .leq (.t 7) (.k (.it .u8 122))⟩,
⟨some 9, none, [], .pick (.t 6) (.t 8) (.k (.bo false))⟩,
⟨some 3, none, [], .mov (.t 9)⟩] [])
(.cond (.t 3)
.skip
(.seq (.reg false [
⟨some 10, none, [], .mov (.t 0)⟩,
⟨some 11, none, [], .bin .no .geq (.t 10) (.k (.it .u8 65))⟩,
⟨some 12, none, [], .mov (.t 11)⟩,
⟨some 13, some (12, true), [], .mov (.t 0)⟩,
⟨some 14, some (12, true), [], .bin .no .leq (.t 13) (.k (.it .u8 90))⟩,
⟨some 15, none, [], .pick (.t 12) (.t 14) (.k (.bo false))⟩,
⟨some 3, none, [], .mov (.t 15)⟩] [])
(.cond (.t 3)
.skip
(.reg false [
⟨some 16, none, [], .mov (.t 0)⟩,
⟨some 17, none, [], .bin .no .geq (.t 16) (.k (.it .u8 48))⟩,
⟨some 18, none, [], .mov (.t 17)⟩,
⟨some 19, some (18, true), [], .mov (.t 0)⟩,
⟨some 20, some (18, true), [], .bin .no .leq (.t 19) (.k (.it .u8 57))⟩,
⟨some 21, none, [], .pick (.t 18) (.t 20) (.k (.bo false))⟩,
⟨some 3, none, [], .mov (.t 21)⟩] [])))))
(.cond (.t 3)
(.seq (.reg false [
⟨some 2, none, [], .mov (.k (.bo true))⟩] [])
.ret)
.skip)))
(.seq (.reg false [
⟨some 22, none, [], .mov (.t 0)⟩,
⟨some 23, none, [], .call false .pure 111 [(.k (.st [33, 35, 36, 37, 38, 39, 42, 43, 45, 46, 94, 95, 124, 126, 96])), (.t 22)]⟩,
⟨some 24, none, [], .bin .no .geq (.t 23) (.k (.it .i64 0))⟩,
⟨some 2, none, [], .mov (.t 24)⟩] [])
.ret)))⟩
def c106 : Ev.Fn := d106.den
def p106 : Pol := { loc := [], md := .pure, mds := mds, heap := [], own := [], ord := [], clr := [], mask := [], fns := [] }
theorem r106 : FnOK 106 c106 := fnOK (pol := p106) (d := d106) Try.func106 (by kernel_rfl) (by kernel_rfl) rfl rfl (by kernel_rfl)

/- (*strings.Builder).WriteString -/
def d108 : DFn := ⟨[(.c .one), (.c .one)], [(.c .one), (.c .one)], .rw, [.tmp 4, .tmp 5],
(.seq (.reg false [
⟨some 4, none, [], .mov (.k (.it .i64 0))⟩,
⟨some 5, none, [], .mov (.k .nf)⟩] [])
(.seq (.reg false [
⟨some 6, none, [], .mov (.t 0)⟩,
⟨some 7, none, [], .call false .rw 112 [(.t 6)]⟩] [])
(.seq (.reg false [
⟨some 8, none, [], .mov (.t 0)⟩,
⟨some 9, none, [], .mov (.t 0)⟩,
⟨some 10, none, [], .nck (.t 9)⟩,
⟨some 11, none, [], .fad 1 (.t 10)⟩,
⟨some 12, none, [], .ld 1 false (.t 11)⟩,
⟨some 13, none, [], .mov (.t 1)⟩,
⟨some 14, none, [], .app 1 1 (.t 12) (.t 13)⟩,
⟨some 15, none, [], .nck (.t 8)⟩,
⟨some 16, none, [], .fad 1 (.t 15)⟩,
⟨none, none, [], .sto 1 (.t 16) (.t 14)⟩] [])
(.seq (.reg false [
⟨some 17, none, [], .mov (.t 1)⟩,
⟨some 18, none, [], .len true (.t 17)⟩,
⟨some 4, none, [], .mov (.t 18)⟩,
⟨some 5, none, [], .mov (.k .nf)⟩] [])
.ret))))⟩
def c108 : Ev.Fn := d108.den
def p108 : Pol := { loc := [], md := .rw, mds := mds, heap := [14], own := [14], ord := [], clr := [], mask := [], fns := [] }
theorem r108 : FnOK 108 c108 := fnOK (pol := p108) (d := d108) Try.func108 (by kernel_rfl) (by kernel_rfl) rfl rfl (by kernel_rfl)

/- strings.IndexByte -/
def d111 : DFn := ⟨[(.c .one), (.c .one)], [(.c .one)], .pure, [.tmp 4],
(.seq (.reg false [
⟨some 4, none, [], .mov (.k (.it .i64 0))⟩] [])
(.seq (.reg false [
⟨some 5, none, [], .mov (.t 0)⟩,
⟨some 6, none, [], .mov (.t 1)⟩,
⟨some 7, none, [], .call false .pure 115 [(.t 5), (.t 6)]⟩,
⟨some 4, none, [], .mov (.t 7)⟩] [])
.ret))⟩
def c111 : Ev.Fn := d111.den
def p111 : Pol := { loc := [], md := .pure, mds := mds, heap := [], own := [], ord := [], clr := [], mask := [], fns := [] }
theorem r111 : FnOK 111 c111 := fnOK (pol := p111) (d := d111) Try.func111 (by kernel_rfl) (by kernel_rfl) rfl rfl (by kernel_rfl)

/- internal/stringslite.IndexByte -/
def d115 : DFn := ⟨[(.c .one), (.c .one)], [(.c .one)], .pure, [.tmp 4],
(.seq (.reg false [
⟨some 4, none, [], .mov (.k (.it .i64 0))⟩] [])
(.seq (.reg false [
⟨some 5, none, [], .mov (.t 0)⟩,
⟨some 6, none, [], .mov (.t 1)⟩,
⟨some 7, none, [], .call false .pure 118 [(.t 5), (.t 6)]⟩,
⟨some 4, none, [], .mov (.t 7)⟩] [])
.ret))⟩
def c115 : Ev.Fn := d115.den
def p115 : Pol := { loc := [], md := .pure, mds := mds, heap := [], own := [], ord := [], clr := [], mask := [], fns := [] }
theorem r115 : FnOK 115 c115 := fnOK (pol := p115) (d := d115) Try.func115 (by kernel_rfl) (by kernel_rfl) rfl rfl (by kernel_rfl)

def tab : List (Option Ev.Fn) := [none, none, none, none, none, none, none, none, some c8, none, none, none, none, none, none, none, none, none, none, none, none, none, none, none, none, none, none, none, none, none, none, none, none, none, some c34, some c35, some c36, some c37, some c38, none, none, none, none, none, none, none, none, none, none, none, none, none, none, none, none, none, none, none, none, none, none, none, none, none, none, none, none, none, none, none, none, none, none, none, none, some c75, some c76, some c77, none, none, none, none, none, some c83, none, none, none, none, none, some c89, none, none, none, some c93, none, none, none, none, none, some c99, some c100, some c101, some c102, none, none, none, some c106, none, some c108, none, none, some c111, none, none, none, some c115]
def F (n : Nat) : Option Ev.Fn := (tab[n]?).join

inductive Good : Nat → List (Option Ev.Fn) → Prop
  | nil (k : Nat) : Good k []
  | none {k : Nat} {l : List (Option Ev.Fn)} (h : Good (k + 1) l) : Good k (none :: l)
  | some {k : Nat} {c : Ev.Fn} {l : List (Option Ev.Fn)} (h : FnOK k c) (t : Good (k + 1) l) : Good k (some c :: l)

theorem Good.get {k : Nat} {l : List (Option Ev.Fn)} (h : Good k l) : ∀ (n : Nat) (c : Ev.Fn), (l[n]?).join = Option.some c → FnOK (k + n) c := by
  induction h with
  | nil k => intro n c h; simp at h
  | none h ih =>
    intro n c hc
    cases n with
    | zero => simp at hc
    | succ n => have := ih n c (by simpa using hc); rw [Nat.add_assoc, Nat.add_comm 1 n] at this; exact this
  | some h t ih =>
    intro n c hc
    cases n with
    | zero => simp at hc; subst hc; exact h
    | succ n => have := ih n c (by simpa using hc); rw [Nat.add_assoc, Nat.add_comm 1 n] at this; exact this

theorem good : Good 0 tab := by
  unfold tab
  refine .none ?_
  refine .none ?_
  refine .none ?_
  refine .none ?_
  refine .none ?_
  refine .none ?_
  refine .none ?_
  refine .none ?_
  refine .some r8 ?_
  refine .none ?_
  refine .none ?_
  refine .none ?_
  refine .none ?_
  refine .none ?_
  refine .none ?_
  refine .none ?_
  refine .none ?_
  refine .none ?_
  refine .none ?_
  refine .none ?_
  refine .none ?_
  refine .none ?_
  refine .none ?_
  refine .none ?_
  refine .none ?_
  refine .none ?_
  refine .none ?_
  refine .none ?_
  refine .none ?_
  refine .none ?_
  refine .none ?_
  refine .none ?_
  refine .none ?_
  refine .none ?_
  refine .some r34 ?_
  refine .some r35 ?_
  refine .some r36 ?_
  refine .some r37 ?_
  refine .some r38 ?_
  refine .none ?_
  refine .none ?_
  refine .none ?_
  refine .none ?_
  refine .none ?_
  refine .none ?_
  refine .none ?_
  refine .none ?_
  refine .none ?_
  refine .none ?_
  refine .none ?_
  refine .none ?_
  refine .none ?_
  refine .none ?_
  refine .none ?_
  refine .none ?_
  refine .none ?_
  refine .none ?_
  refine .none ?_
  refine .none ?_
  refine .none ?_
  refine .none ?_
  refine .none ?_
  refine .none ?_
  refine .none ?_
  refine .none ?_
  refine .none ?_
  refine .none ?_
  refine .none ?_
  refine .none ?_
  refine .none ?_
  refine .none ?_
  refine .none ?_
  refine .none ?_
  refine .none ?_
  refine .none ?_
  refine .some r75 ?_
  refine .some r76 ?_
  refine .some r77 ?_
  refine .none ?_
  refine .none ?_
  refine .none ?_
  refine .none ?_
  refine .none ?_
  refine .some r83 ?_
  refine .none ?_
  refine .none ?_
  refine .none ?_
  refine .none ?_
  refine .none ?_
  refine .some r89 ?_
  refine .none ?_
  refine .none ?_
  refine .none ?_
  refine .some r93 ?_
  refine .none ?_
  refine .none ?_
  refine .none ?_
  refine .none ?_
  refine .none ?_
  refine .some r99 ?_
  refine .some r100 ?_
  refine .some r101 ?_
  refine .some r102 ?_
  refine .none ?_
  refine .none ?_
  refine .none ?_
  refine .some r106 ?_
  refine .none ?_
  refine .some r108 ?_
  refine .none ?_
  refine .none ?_
  refine .some r111 ?_
  refine .none ?_
  refine .none ?_
  refine .none ?_
  refine .some r115 ?_
  exact .nil _

theorem table : Table Try.prog F mds where
  mixed := by kernel_rfl
  fns := fun f fn h => by
    have := good.get f fn h
    rw [Nat.zero_add] at this
    exact this

end Go.Proofs.Ytcbiplmgaiipgaa.tabVary
