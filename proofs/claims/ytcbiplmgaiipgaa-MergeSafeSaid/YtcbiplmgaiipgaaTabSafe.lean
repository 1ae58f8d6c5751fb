import Derived.Test.YtcbiplmgaiipgaaEvRow
import Derived.Test.YtcbiplmgaiipgaaRows
import Derived.KernelRfl
/- the functions of the seat, read off the program -/
namespace Go.Proofs.Ytcbiplmgaiipgaa.tabSafe
open Go hiding Fn
open Ev

def mdl : List Md := [.pure, .pure, .pure, .pure, .pure, .pure, .pure, .pure, .pure, .pure, .pure, .pure, .pure, .pure, .pure, .pure, .pure, .pure, .pure, .pure, .pure, .pure, .pure, .pure, .pure, .pure, .pure, .pure, .pure, .pure, .pure, .pure, .pure, .pure, .pure, .pure, .pure, .pure, .pure, .pure, .pure, .pure, .pure, .pure, .rw, .pure, .pure, .pure, .pure, .pure, .pure, .pure, .pure, .pure, .pure, .pure, .pure, .pure, .pure, .rw, .pure, .pure, .pure, .pure, .rw, .pure, .pure, .pure, .pure, .pure, .pure, .pure, .rw, .pure, .pure, .pure, .pure, .pure, .pure, .pure, .pure, .pure, .pure, .rw, .pure, .pure, .pure, .pure, .pure, .pure, .pure, .pure, .pure, .pure, .pure, .pure, .pure, .rw, .pure, .pure, .pure, .rw, .pure, .pure, .pure, .pure, .pure, .rw, .rw, .rw, .pure, .pure, .rw, .rw, .pure, .pure, .pure, .pure, .pure, .pure, .pure, .pure, .pure, .pure, .pure, .pure, .pure, .rw, .rw, .rw, .rw, .rw, .rw, .rw, .rw, .pure]
def mds (n : Nat) : Md := mdl.getD n .rw

/-- a function that was read off -/
def FnOK (f : Nat) (c : Ev.Fn) : Prop := ∃ gf pol d, Try.prog.funcs[f]? = some gf ∧ gf.name ≠ "runtime.NumGoroutine" ∧ cFn Try.prog pol gf = some d ∧ d.den = c ∧ pol.mds = mds ∧ c.md = mds f

theorem fnOK {f : Nat} {c : Ev.Fn} {gf : Func} {pol : Pol} (h1 : Try.prog.funcs[f]? = some gf) (h2 : (gf.name == "runtime.NumGoroutine") = false) {d : DFn} (h3 : cFn Try.prog pol gf = some d) (h6 : d.den = c) (h4 : pol.mds = mds) (h5 : c.md = mds f) : FnOK f c := by
  exact ⟨gf, pol, d, h1, by simpa using h2, h3, h6, h4, h5⟩

/- reservoir/reservoirlaw22.MergeRuns -/
def d13 : DFn := ⟨[], [(.c .one)], .pure, [.tmp 0],
(.seq (.reg false [
⟨some 0, none, [], .mov (.k (.bo false))⟩] [])
(.seq (.reg false [
⟨some 7, none, [], .call false .pure 47 [(.k (.st [101, 116, 97, 103])), (.k (.st [34, 120, 34]))]⟩,
⟨some 8, none, [], .bsv [.one, .one] 2 [[(.st []), (.st [])]] [(0, (.t 7))]⟩,
⟨some 9, none, [], .call false .pure 46 [(.t 8)]⟩,
⟨some 10, none, [], .call false .pure 47 [(.k (.st [105, 102, 45, 110, 111, 110, 101, 45, 109, 97, 116, 99, 104])), (.k (.st [34, 121, 34]))]⟩,
⟨some 11, none, [], .call false .pure 47 [(.k (.st [97])), (.k (.st [98]))]⟩,
⟨some 12, none, [], .bsv [.one, .one] 2 [[(.st []), (.st [])], [(.st []), (.st [])]] [(0, (.t 10)), (1, (.t 11))]⟩,
⟨some 13, none, [], .bld [(.st []), (.st []), (.st []), (.st []), .ns, (.it .i64 0)] [(4, 1, (.t 12))]⟩,
⟨some 14, none, [], .call false .pure 45 [(.t 9), (.t 13)]⟩,
⟨some 6, none, [], .mov (.t 14)⟩,
⟨some 15, none, [], .ext (.t 6) 0⟩,
⟨some 16, none, [], .ext (.t 6) 1⟩,
⟨some 1, none, [], .alc [(.st []), (.st []), (.st []), (.st []), .ns, (.it .i64 0)]⟩,
⟨none, none, [], .sto 6 (.t 1) (.t 15)⟩,
⟨some 2, none, [], .mov (.t 16)⟩] [])
(.seq (.reg false [
⟨some 17, none, [], .call false .pure 47 [(.k (.st [100, 97, 116, 101])), (.k (.st [49]))]⟩,
⟨some 18, none, [], .call false .pure 47 [(.k (.st [97, 103, 101])), (.k (.st [53]))]⟩,
⟨some 19, none, [], .call false .pure 47 [(.k (.st [99, 111, 110, 116, 101, 110, 116, 45, 116, 121, 112, 101])), (.k (.st [116]))]⟩,
⟨some 20, none, [], .bsv [.one, .one] 2 [[(.st []), (.st [])], [(.st []), (.st [])], [(.st []), (.st [])]] [(0, (.t 17)), (1, (.t 18)), (2, (.t 19))]⟩,
⟨some 21, none, [], .call false .pure 46 [(.t 20)]⟩,
⟨some 22, none, [], .call false .pure 47 [(.k (.st [100, 97, 116, 101])), (.k (.st [50]))]⟩,
⟨some 23, none, [], .call false .pure 47 [(.k (.st [99, 111, 110, 116, 101, 110, 116, 45, 116, 121, 112, 101])), (.k (.st [117]))]⟩,
⟨some 24, none, [], .bsv [.one, .one] 2 [[(.st []), (.st [])], [(.st []), (.st [])]] [(0, (.t 22)), (1, (.t 23))]⟩,
⟨some 25, none, [], .bld [(.it .i64 0), .ns, (.it .i64 0)] [(1, 1, (.t 24))]⟩,
⟨some 26, none, [], .call false .pure 48 [(.t 21), (.t 25), (.k (.it .i64 3)), (.k (.it .i64 4))]⟩,
⟨some 3, none, [], .alc [(.st []), (.st []), (.st []), (.st []), .ns, (.it .i64 0), (.it .i64 0), .ns, (.it .i64 0), (.st []), (.it .i64 0), (.it .i64 0)]⟩,
⟨none, none, [], .sto 12 (.t 3) (.t 26)⟩] [])
(.seq (.reg false [
⟨some 27, none, [], .bld [(.st []), (.st []), (.st []), (.st []), .ns, (.it .i64 0)] [(0, 1, (.k (.st [80, 79, 83, 84])))]⟩,
⟨some 28, none, [], .bld [(.it .i64 0), .ns, (.it .i64 0)] [(0, 1, (.k (.it .i64 201)))]⟩,
⟨some 29, none, [], .call false .pure 49 [(.t 27), (.t 28)]⟩,
⟨some 30, none, [], .mov (.t 29)⟩,
⟨some 31, some (30, true), [], .bld [(.st []), (.st []), (.st []), (.st []), .ns, (.it .i64 0)] [(0, 1, (.k (.st [71, 69, 84])))]⟩,
⟨some 32, some (30, true), [], .bld [(.it .i64 0), .ns, (.it .i64 0)] [(0, 1, (.k (.it .i64 200)))]⟩,
⟨some 33, some (30, true), [], .call false .pure 49 [(.t 31), (.t 32)]⟩,
⟨some 34, some (30, true), [], .un .not (.t 33)⟩,
⟨some 35, none, [], .pick (.t 30) (.t 34) (.k (.bo false))⟩,
⟨some 36, none, [], .mov (.t 35)⟩,
⟨some 37, some (36, true), [], .bld [(.st []), (.st []), (.st []), (.st []), .ns, (.it .i64 0)] [(0, 1, (.k (.st [68, 69, 76, 69, 84, 69])))]⟩,
⟨some 38, some (36, true), [], .bld [(.it .i64 0), .ns, (.it .i64 0)] [(0, 1, (.k (.it .i64 404)))]⟩,
⟨some 39, some (36, true), [], .call false .pure 49 [(.t 37), (.t 38)]⟩,
⟨some 40, some (36, true), [], .un .not (.t 39)⟩,
⟨some 41, none, [], .pick (.t 36) (.t 40) (.k (.bo false))⟩,
⟨some 4, none, [], .mov (.t 41)⟩] [])
(.seq (.reg false [
⟨some 42, none, [], .call false .pure 47 [(.k (.st [101, 116, 97, 103])), (.k (.st [34, 120, 34]))]⟩,
⟨some 43, none, [], .bsv [.one, .one] 2 [[(.st []), (.st [])]] [(0, (.t 42))]⟩,
⟨some 44, none, [], .call false .pure 46 [(.t 43)]⟩,
⟨some 45, none, [], .call false .pure 47 [(.k (.st [105, 102, 45, 110, 111, 110, 101, 45, 109, 97, 116, 99, 104])), (.k (.st [87, 47, 34, 120, 34, 44, 32, 34, 121, 34]))]⟩,
⟨some 46, none, [], .bsv [.one, .one] 2 [[(.st []), (.st [])]] [(0, (.t 45))]⟩,
⟨some 47, none, [], .bld [(.st []), (.st []), (.st []), (.st []), .ns, (.it .i64 0)] [(4, 1, (.t 46))]⟩,
⟨some 48, none, [], .call false .pure 50 [(.t 44), (.t 47)]⟩,
⟨some 5, none, [], .mov (.t 48)⟩] [])
(.seq (.reg true [
⟨some 49, none, [], .mov (.t 2)⟩,
⟨some 50, none, [], .mov (.t 49)⟩,
⟨some 51, some (50, true), [], .fad 4 (.t 1)⟩,
⟨some 52, some (50, true), [], .ld 1 false (.t 51)⟩,
⟨some 53, some (50, true), [], .call false .pure 47 [(.k (.st [97])), (.k (.st [98]))]⟩,
⟨some 54, some (50, true), [], .call false .pure 47 [(.k (.st [105, 102, 45, 110, 111, 110, 101, 45, 109, 97, 116, 99, 104])), (.k (.st [34, 120, 34]))]⟩,
⟨some 55, some (50, true), [], .bsv [.one, .one] 2 [[(.st []), (.st [])], [(.st []), (.st [])]] [(0, (.t 53)), (1, (.t 54))]⟩,
⟨some 56, some (50, true), [], .call false .pure 51 [(.t 52), (.t 55)]⟩,
⟨some 57, none, [], .pick (.t 50) (.t 56) (.k (.bo false))⟩,
⟨some 58, none, [], .mov (.t 57)⟩,
⟨some 59, some (58, true), [], .fad 6 (.t 3)⟩,
⟨some 60, some (58, true), [], .fad 1 (.t 59)⟩,
⟨some 61, some (58, true), [], .ld 1 false (.t 60)⟩,
⟨some 62, some (58, true), [], .call false .pure 47 [(.k (.st [99, 111, 110, 116, 101, 110, 116, 45, 116, 121, 112, 101])), (.k (.st [116]))]⟩,
⟨some 63, some (58, true), [], .call false .pure 47 [(.k (.st [100, 97, 116, 101])), (.k (.st [50]))]⟩,
⟨some 64, some (58, true), [], .bsv [.one, .one] 2 [[(.st []), (.st [])], [(.st []), (.st [])]] [(0, (.t 62)), (1, (.t 63))]⟩,
⟨some 65, some (58, true), [], .call false .pure 51 [(.t 61), (.t 64)]⟩,
⟨some 66, none, [], .pick (.t 58) (.t 65) (.k (.bo false))⟩,
⟨some 67, none, [], .mov (.t 66)⟩,
⟨some 68, some (67, true), [], .fad 10 (.t 3)⟩,
⟨some 69, some (67, true), [], .ld 1 false (.t 68)⟩,
⟨some 70, some (67, true), [], .bin .no .eql (.t 69) (.k (.it .i64 3))⟩,
⟨some 71, none, [], .pick (.t 67) (.t 70) (.k (.bo false))⟩,
⟨some 72, none, [], .mov (.t 71)⟩,
⟨some 73, some (72, true), [], .fad 11 (.t 3)⟩,
⟨some 74, some (72, true), [], .ld 1 false (.t 73)⟩,
⟨some 75, some (72, true), [], .bin .no .eql (.t 74) (.k (.it .i64 4))⟩,
⟨some 76, none, [], .pick (.t 72) (.t 75) (.k (.bo false))⟩,
⟨some 77, none, [], .mov (.t 76)⟩,
⟨some 78, some (77, true), [], .mov (.t 4)⟩,
⟨some 79, none, [], .pick (.t 77) (.t 78) (.k (.bo false))⟩,
⟨some 80, none, [], .mov (.t 79)⟩,
⟨some 81, some (80, true), [], .mov (.t 5)⟩,
⟨some 82, none, [], .pick (.t 80) (.t 81) (.k (.bo false))⟩,
⟨some 0, none, [], .mov (.t 82)⟩] [51, 59, 60, 68, 73])
.ret))))))⟩
def c13 : Ev.Fn := d13.den
def p13 : Pol := { loc := [1, 3], md := .pure, mds := mds, heap := [], own := [], ord := [(1, [11, 0, 1, 2, 3, 4, 5, 6, 7, 8, 9, 10, 12, 13]), (2, [10, 0, 1, 2, 3, 4, 5, 6, 7, 8, 9, 11])], clr := [(5, [51, 59, 60, 68, 73])], mask := [], fns := [] }
theorem r13 : FnOK 13 c13 := fnOK (pol := p13) (d := d13) Try.func13 (by kernel_rfl) (by kernel_rfl) rfl rfl (by kernel_rfl)

/- reservoir/reservoirlaw22.MergeSafe -/
def d17 : DFn := ⟨[(.c .one), (.c .one)], [(.c .one)], .pure, [.tmp 4],
(.seq (.reg false [
⟨some 4, none, [], .mov (.k (.bo false))⟩] [])
(.seq (.reg false [
⟨some 7, none, [], .mov (.t 0)⟩,
⟨some 8, none, [], .bin .no .eql (.t 7) (.k (.st [71, 69, 84]))⟩,
⟨some 9, none, [], .mov (.t 8)⟩,
⟨some 10, some (9, false), [], .mov (.t 0)⟩,
⟨some 11, some (9, false), [], .bin .no .eql (.t 10) (.k (.st [72, 69, 65, 68]))⟩,
⟨some 12, none, [], .pick (.t 9) (.k (.bo true)) (.t 11)⟩,
⟨some 13, none, [], .mov (.t 12)⟩,
⟨some 14, some (13, false), [], .mov (.t 0)⟩,
⟨some 15, some (13, false), [], .bin .no .eql (.t 14) (.k (.st [79, 80, 84, 73, 79, 78, 83]))⟩,
⟨some 16, none, [], .pick (.t 13) (.k (.bo true)) (.t 15)⟩,
⟨some 17, none, [], .mov (.t 16)⟩,
⟨some 18, some (17, false), [], .mov (.t 0)⟩,
⟨some 19, some (17, false), [], .bin .no .eql (.t 18) (.k (.st [84, 82, 65, 67, 69]))⟩,
⟨some 20, none, [], .pick (.t 17) (.k (.bo true)) (.t 19)⟩,
⟨some 5, none, [], .mov (.t 20)⟩] [])
(.seq (.reg false [
⟨some 21, none, [], .mov (.t 1)⟩,
⟨some 22, none, [], .call false .pure 26 [(.t 21), (.k (.it .i64 100)), (.k (.it .i64 599))]⟩,
⟨some 6, none, [], .mov (.t 22)⟩] [])
(.seq (.reg false [
⟨some 23, none, [], .mov (.t 0)⟩,
⟨some 24, none, [], .bld [(.st []), (.st []), (.st []), (.st []), .ns, (.it .i64 0)] [(0, 1, (.t 23))]⟩,
⟨some 25, none, [], .mov (.t 6)⟩,
⟨some 26, none, [], .bld [(.it .i64 0), .ns, (.it .i64 0)] [(0, 1, (.t 25))]⟩,
⟨some 27, none, [], .call false .pure 49 [(.t 24), (.t 26)]⟩,
⟨some 28, none, [], .mov (.t 5)⟩,
⟨some 29, none, [], .un .not (.t 28)⟩,
⟨some 30, none, [], .mov (.t 29)⟩,
⟨some 31, some (30, true), [], .mov (.t 6)⟩,
⟨some 32, some (30, true), [], .bin .no .geq (.t 31) (.k (.it .i64 200))⟩,
⟨some 33, none, [], .pick (.t 30) (.t 32) (.k (.bo false))⟩,
⟨some 34, none, [], .mov (.t 33)⟩,
⟨some 35, some (34, true), [], .mov (.t 6)⟩,
⟨some 36, some (34, true), [], .bin .no .lss (.t 35) (.k (.it .i64 400))⟩,
⟨some 37, none, [], .pick (.t 34) (.t 36) (.k (.bo false))⟩,
⟨some 38, none, [], .bin .bo .eql (.t 27) (.t 37)⟩,
⟨some 39, none, [], .mov (.t 38)⟩,
⟨some 40, some (39, true), [], .call false .pure 13 []⟩,
⟨some 41, none, [], .pick (.t 39) (.t 40) (.k (.bo false))⟩,
⟨some 4, none, [], .mov (.t 41)⟩] [])
.ret))))⟩
def c17 : Ev.Fn := d17.den
def p17 : Pol := { loc := [], md := .pure, mds := mds, heap := [], own := [], ord := [(3, [0, 1, 2, 3, 5, 6, 4, 7, 8, 9, 10, 11, 12, 13, 14, 15, 16, 17, 18, 19])], clr := [], mask := [], fns := [] }
theorem r17 : FnOK 17 c17 := fnOK (pol := p17) (d := d17) Try.func17 (by kernel_rfl) (by kernel_rfl) rfl rfl (by kernel_rfl)

/- reservoir/reservoirbook.Within -/
def d26 : DFn := ⟨[(.c .one), (.c .one), (.c .one)], [(.c .one)], .pure, [.tmp 6],
(.seq (.reg false [
⟨some 6, none, [], .mov (.k (.it .i64 0))⟩] [])
(.seq (.reg false [
⟨some 7, none, [], .mov (.t 0)⟩,
⟨some 8, none, [], .mov (.t 2)⟩,
⟨some 9, none, [], .mov (.t 1)⟩,
⟨some 10, none, [], .bin .no .sub (.t 8) (.t 9)⟩,
⟨some 11, none, [], .bin .no .add (.t 10) (.k (.it .i64 1))⟩,
⟨some 12, none, [], .bin .no .rem (.t 7) (.t 11)⟩,
⟨some 0, none, [], .mov (.t 12)⟩] [])
(.seq (.seq (.reg false [
⟨some 13, none, [], .mov (.t 0)⟩,
⟨some 14, none, [], .bin .no .lss (.t 13) (.k (.it .i64 0))⟩] [])
(.cond (.t 14)
(.reg false [
⟨some 15, none, [], .mov (.t 0)⟩,
⟨some 16, none, [], .mov (.t 2)⟩,
⟨some 17, none, [], .bin .no .add (.t 15) (.t 16)⟩,
⟨some 18, none, [], .mov (.t 1)⟩,
⟨some 19, none, [], .bin .no .sub (.t 17) (.t 18)⟩,
⟨some 20, none, [], .bin .no .add (.t 19) (.k (.it .i64 1))⟩,
⟨some 0, none, [], .mov (.t 20)⟩] [])
.skip))
(.seq (.reg false [
⟨some 21, none, [], .mov (.t 1)⟩,
⟨some 22, none, [], .mov (.t 0)⟩,
⟨some 23, none, [], .bin .no .add (.t 21) (.t 22)⟩,
⟨some 6, none, [], .mov (.t 23)⟩] [])
.ret))))⟩
def c26 : Ev.Fn := d26.den
def p26 : Pol := { loc := [], md := .pure, mds := mds, heap := [], own := [], ord := [], clr := [], mask := [], fns := [] }
theorem r26 : FnOK 26 c26 := fnOK (pol := p26) (d := d26) Try.func26 (by kernel_rfl) (by kernel_rfl) rfl rfl (by kernel_rfl)

/- reservoir/merge.Ask -/
def d45 : DFn := ⟨[(.g [.one, .one, .one, .one, (.sl [.one, .one]), .one, .one, (.sl [.one, .one]), .one, .one, .one, .one]), (.g [.one, .one, .one, .one, (.sl [.one, .one]), .one])], [(.g [.one, .one, .one, .one, (.sl [.one, .one]), .one]), (.c .one)], .pure, [.cell 4 6 true, .tmp 5],
(.seq (.reg false [
⟨some 2, none, [], .box (.t 0)⟩,
⟨some 3, none, [], .box (.t 1)⟩,
⟨some 4, none, [], .alc [(.st []), (.st []), (.st []), (.st []), .ns, (.it .i64 0)]⟩,
⟨some 5, none, [], .mov (.k (.bo false))⟩] [])
(.seq (.reg false [
⟨some 14, none, [], .fad 6 (.t 2)⟩,
⟨some 15, none, [], .fad 1 (.t 14)⟩,
⟨some 16, none, [], .ld 1 false (.t 15)⟩,
⟨some 17, none, [], .call false .pure 79 [(.t 16), (.k (.st [101, 116, 97, 103]))]⟩,
⟨some 13, none, [], .mov (.t 17)⟩,
⟨some 18, none, [], .ext (.t 13) 0⟩,
⟨some 19, none, [], .ext (.t 13) 1⟩,
⟨some 6, none, [], .mov (.t 18)⟩,
⟨some 7, none, [], .mov (.t 19)⟩] [14, 15])
(.seq (.reg false [
⟨some 21, none, [], .fad 6 (.t 2)⟩,
⟨some 22, none, [], .fad 1 (.t 21)⟩,
⟨some 23, none, [], .ld 1 false (.t 22)⟩,
⟨some 24, none, [], .call false .pure 79 [(.t 23), (.k (.st [108, 97, 115, 116, 45, 109, 111, 100, 105, 102, 105, 101, 100]))]⟩,
⟨some 20, none, [], .mov (.t 24)⟩,
⟨some 25, none, [], .ext (.t 20) 0⟩,
⟨some 26, none, [], .ext (.t 20) 1⟩,
⟨some 8, none, [], .mov (.t 25)⟩,
⟨some 9, none, [], .mov (.t 26)⟩] [21, 22])
(.seq (.reg false [
⟨some 10, none, [], .mov (.k .ns)⟩] [])
(.seq (.seq (.reg false [
⟨some 27, none, [], .fad 4 (.t 3)⟩,
⟨some 28, none, [], .ld 1 false (.t 27)⟩,
⟨some 29, none, [], .len false (.t 28)⟩,
⟨some 30, none, [], .mov (.k (.it .i64 0))⟩] [27])
(.blk 0 (.loop [3, 4, 6, 7, 8, 9, 10, 28, 29, 30] [2, 12]
(.seq (.reg false [
⟨some 31, none, [], .bin .no .lss (.t 30) (.t 29)⟩] [])
(.seq (.cond (.t 31)
.skip
(.exit 0))
(.seq (.blk 1 (.seq (.reg false [
⟨some 32, none, [], .ias 2 (.t 28) (.t 30)⟩,
⟨some 33, none, [], .ld 2 true (.t 32)⟩,
⟨some 12, none, [], .alc [(.st []), (.st [])]⟩,
⟨none, none, [], .sto 2 (.t 12) (.t 33)⟩] [])
(.seq (.reg false [
⟨some 34, none, [], .mov (.t 7)⟩,
⟨some 35, none, [], .un .not (.t 34)⟩,
⟨some 36, none, [], .mov (.t 35)⟩,
⟨some 37, some (36, true), [], .mov (.t 9)⟩,
⟨some 38, some (36, true), [], .un .not (.t 37)⟩,
⟨some 39, none, [], .pick (.t 36) (.t 38) (.k (.bo false))⟩,
⟨some 40, none, [], .mov (.t 39)⟩,
⟨some 41, some (40, false), [], .fad 0 (.t 12)⟩,
⟨some 42, some (40, false), [], .ld 1 false (.t 41)⟩,
⟨some 43, some (40, false), [], .call false .pure 80 [(.t 42)]⟩,
⟨some 44, some (40, false), [], .un .not (.t 43)⟩,
⟨some 45, none, [], .pick (.t 40) (.k (.bo true)) (.t 44)⟩] [41])
(.cond (.t 45)
(.reg false [
⟨some 46, none, [], .mov (.t 10)⟩,
⟨some 47, none, [], .ld 2 true (.t 12)⟩,
⟨some 48, none, [], .bsv [.one, .one] 2 [[(.st []), (.st [])]] [(0, (.t 47))]⟩,
⟨some 49, none, [], .app 2 32 (.t 46) (.t 48)⟩,
⟨some 10, none, [], .mov (.t 49)⟩] [])
.skip))))
(.reg false [
⟨some 50, none, [], .bin .no .add (.t 30) (.k (.it .i64 1))⟩,
⟨some 30, none, [], .mov (.t 50)⟩] [])))))))
(.seq (.seq (.reg false [
⟨some 51, none, [], .mov (.t 7)⟩] [])
(.cond (.t 51)
(.reg false [
⟨some 52, none, [], .mov (.t 10)⟩,
⟨some 53, none, [], .mov (.t 6)⟩,
⟨some 54, none, [], .bld [(.st []), (.st [])] [(0, 1, (.k (.st [105, 102, 45, 110, 111, 110, 101, 45, 109, 97, 116, 99, 104]))), (1, 1, (.t 53))]⟩,
⟨some 55, none, [], .bsv [.one, .one] 2 [[(.st []), (.st [])]] [(0, (.t 54))]⟩,
⟨some 56, none, [], .app 2 32 (.t 52) (.t 55)⟩,
⟨some 10, none, [], .mov (.t 56)⟩] [])
.skip))
(.seq (.seq (.reg false [
⟨some 57, none, [], .mov (.t 9)⟩] [])
(.cond (.t 57)
(.reg false [
⟨some 58, none, [], .mov (.t 10)⟩,
⟨some 59, none, [], .mov (.t 8)⟩,
⟨some 60, none, [], .bld [(.st []), (.st [])] [(0, 1, (.k (.st [105, 102, 45, 109, 111, 100, 105, 102, 105, 101, 100, 45, 115, 105, 110, 99, 101]))), (1, 1, (.t 59))]⟩,
⟨some 61, none, [], .bsv [.one, .one] 2 [[(.st []), (.st [])]] [(0, (.t 60))]⟩,
⟨some 62, none, [], .app 2 32 (.t 58) (.t 61)⟩,
⟨some 10, none, [], .mov (.t 62)⟩] [])
.skip))
(.seq (.reg false [
⟨some 63, none, [], .mov (.t 10)⟩,
⟨some 64, none, [], .fad 4 (.t 3)⟩,
⟨none, none, [], .sto 1 (.t 64) (.t 63)⟩] [64])
(.seq (.reg false [
⟨some 65, none, [], .ld 6 true (.t 3)⟩,
⟨some 66, none, [], .mov (.t 7)⟩,
⟨some 67, none, [], .mov (.t 66)⟩,
⟨some 68, some (67, false), [], .mov (.t 9)⟩,
⟨some 69, none, [], .pick (.t 67) (.k (.bo true)) (.t 68)⟩,
⟨none, none, [], .sto 6 (.t 4) (.t 65)⟩,
⟨some 5, none, [], .mov (.t 69)⟩] [])
.ret)))))))))⟩
def c45 : Ev.Fn := d45.den
def p45 : Pol := { loc := [2, 3, 4, 12], md := .pure, mds := mds, heap := [49, 56, 62], own := [49, 56, 62], ord := [(0, [3, 0, 1, 2])], clr := [(1, [14, 15]), (2, [21, 22]), (4, [27]), (7, [41]), (14, [64])], mask := [(5, [3, 4, 6, 7, 8, 9, 10, 28, 29, 30], [2, 12])], fns := [] }
theorem r45 : FnOK 45 c45 := fnOK (pol := p45) (d := d45) Try.func45 (by kernel_rfl) (by kernel_rfl) rfl rfl (by kernel_rfl)

/- reservoir/reservoirlaw22.entry -/
def d46 : DFn := ⟨[(.c (.sl [.one, .one]))], [(.g [.one, .one, .one, .one, (.sl [.one, .one]), .one, .one, (.sl [.one, .one]), .one, .one, .one, .one])], .pure, [.cell 2 12 true],
(.seq (.reg false [
⟨some 2, none, [], .alc [(.st []), (.st []), (.st []), (.st []), .ns, (.it .i64 0), (.it .i64 0), .ns, (.it .i64 0), (.st []), (.it .i64 0), (.it .i64 0)]⟩] [])
(.seq (.reg false [
⟨some 3, none, [], .mov (.t 0)⟩,
⟨some 4, none, [], .bld [(.it .i64 0), .ns, (.it .i64 0)] [(0, 1, (.k (.it .i64 200))), (1, 1, (.t 3))]⟩,
⟨some 5, none, [], .bld [(.st []), (.st []), (.st []), (.st []), .ns, (.it .i64 0), (.it .i64 0), .ns, (.it .i64 0), (.st []), (.it .i64 0), (.it .i64 0)] [(6, 3, (.t 4))]⟩,
⟨none, none, [], .sto 12 (.t 2) (.t 5)⟩] [])
.ret))⟩
def c46 : Ev.Fn := d46.den
def p46 : Pol := { loc := [2], md := .pure, mds := mds, heap := [], own := [], ord := [], clr := [], mask := [], fns := [] }
theorem r46 : FnOK 46 c46 := fnOK (pol := p46) (d := d46) Try.func46 (by kernel_rfl) (by kernel_rfl) rfl rfl (by kernel_rfl)

/- reservoir/reservoirlaw22.of -/
def d47 : DFn := ⟨[(.c .one), (.c .one)], [(.g [.one, .one])], .pure, [.cell 4 2 true],
(.seq (.reg false [
⟨some 4, none, [], .alc [(.st []), (.st [])]⟩] [])
(.seq (.reg false [
⟨some 5, none, [], .mov (.t 0)⟩,
⟨some 6, none, [], .mov (.t 1)⟩,
⟨some 7, none, [], .bld [(.st []), (.st [])] [(0, 1, (.t 5)), (1, 1, (.t 6))]⟩,
⟨none, none, [], .sto 2 (.t 4) (.t 7)⟩] [])
.ret))⟩
def c47 : Ev.Fn := d47.den
def p47 : Pol := { loc := [4], md := .pure, mds := mds, heap := [], own := [], ord := [], clr := [], mask := [], fns := [] }
theorem r47 : FnOK 47 c47 := fnOK (pol := p47) (d := d47) Try.func47 (by kernel_rfl) (by kernel_rfl) rfl rfl (by kernel_rfl)

/- reservoir/merge.Renew -/
def d48 : DFn := ⟨[(.g [.one, .one, .one, .one, (.sl [.one, .one]), .one, .one, (.sl [.one, .one]), .one, .one, .one, .one]), (.g [.one, (.sl [.one, .one]), .one]), (.c .one), (.c .one)], [(.g [.one, .one, .one, .one, (.sl [.one, .one]), .one, .one, (.sl [.one, .one]), .one, .one, .one, .one])], .pure, [.cell 8 12 true],
(.seq (.reg false [
⟨some 4, none, [], .box (.t 0)⟩,
⟨some 5, none, [], .box (.t 1)⟩,
⟨some 8, none, [], .alc [(.st []), (.st []), (.st []), (.st []), .ns, (.it .i64 0), (.it .i64 0), .ns, (.it .i64 0), (.st []), (.it .i64 0), (.it .i64 0)]⟩] [])
(.seq (.reg false [
⟨some 9, none, [], .mov (.k .ns)⟩] [])
(.seq (.reg false [
⟨some 15, none, [], .fad 1 (.t 5)⟩,
⟨some 16, none, [], .ld 1 false (.t 15)⟩,
⟨some 17, none, [], .call false .pure 81 [(.t 16), (.k (.st [97, 103, 101]))]⟩,
⟨some 10, none, [], .mov (.t 17)⟩] [15])
(.seq (.seq (.reg false [
⟨some 18, none, [], .fad 6 (.t 4)⟩,
⟨some 19, none, [], .fad 1 (.t 18)⟩,
⟨some 20, none, [], .ld 1 false (.t 19)⟩,
⟨some 21, none, [], .len false (.t 20)⟩,
⟨some 22, none, [], .mov (.k (.it .i64 0))⟩] [18, 19])
(.blk 0 (.loop [2, 3, 4, 5, 8, 9, 10, 20, 21, 22] [12, 14]
(.seq (.reg false [
⟨some 23, none, [], .bin .no .lss (.t 22) (.t 21)⟩] [])
(.seq (.cond (.t 23)
.skip
(.exit 0))
(.seq (.blk 1 (.seq (.reg false [
⟨some 24, none, [], .ias 2 (.t 20) (.t 22)⟩,
⟨some 25, none, [], .ld 2 true (.t 24)⟩,
⟨some 12, none, [], .alc [(.st []), (.st [])]⟩,
⟨none, none, [], .sto 2 (.t 12) (.t 25)⟩] [])
(.seq (.reg false [
⟨some 26, none, [], .fad 0 (.t 12)⟩,
⟨some 27, none, [], .ld 1 false (.t 26)⟩,
⟨some 28, none, [], .call false .pure 82 [(.t 27)]⟩,
⟨some 29, none, [], .mov (.t 28)⟩,
⟨some 30, some (29, false), [], .fad 1 (.t 5)⟩,
⟨some 31, some (29, false), [], .ld 1 false (.t 30)⟩,
⟨some 32, some (29, false), [], .fad 0 (.t 12)⟩,
⟨some 33, some (29, false), [], .ld 1 false (.t 32)⟩,
⟨some 34, some (29, false), [], .call false .pure 81 [(.t 31), (.t 33)]⟩,
⟨some 35, some (29, false), [], .un .not (.t 34)⟩,
⟨some 36, none, [], .pick (.t 29) (.k (.bo true)) (.t 35)⟩,
⟨some 37, none, [], .mov (.t 36)⟩,
⟨some 38, some (37, true), [], .mov (.t 10)⟩,
⟨some 39, some (37, true), [], .mov (.t 38)⟩,
⟨some 40, some (39, false), [], .fad 0 (.t 12)⟩,
⟨some 41, some (39, false), [], .ld 1 false (.t 40)⟩,
⟨some 42, some (39, false), [], .bin .no .neq (.t 41) (.k (.st [97, 103, 101]))⟩,
⟨some 43, some (37, true), [], .pick (.t 39) (.k (.bo true)) (.t 42)⟩,
⟨some 44, none, [], .pick (.t 37) (.t 43) (.k (.bo false))⟩] [26, 30, 32, 40])
(.cond (.t 44)
(.reg false [
⟨some 45, none, [], .mov (.t 9)⟩,
⟨some 46, none, [], .ld 2 true (.t 12)⟩,
⟨some 47, none, [], .bsv [.one, .one] 2 [[(.st []), (.st [])]] [(0, (.t 46))]⟩,
⟨some 48, none, [], .app 2 32 (.t 45) (.t 47)⟩,
⟨some 9, none, [], .mov (.t 48)⟩] [])
.skip))))
(.reg false [
⟨some 49, none, [], .bin .no .add (.t 22) (.k (.it .i64 1))⟩,
⟨some 22, none, [], .mov (.t 49)⟩] [])))))))
(.seq (.seq (.reg false [
⟨some 50, none, [], .fad 1 (.t 5)⟩,
⟨some 51, none, [], .ld 1 false (.t 50)⟩,
⟨some 52, none, [], .len false (.t 51)⟩,
⟨some 53, none, [], .mov (.k (.it .i64 0))⟩] [50])
(.blk 2 (.loop [2, 3, 4, 8, 9, 51, 52, 53] [5, 12, 14]
(.seq (.reg false [
⟨some 54, none, [], .bin .no .lss (.t 53) (.t 52)⟩] [])
(.seq (.cond (.t 54)
.skip
(.exit 2))
(.seq (.blk 3 (.seq (.reg false [
⟨some 55, none, [], .ias 2 (.t 51) (.t 53)⟩,
⟨some 56, none, [], .ld 2 true (.t 55)⟩,
⟨some 14, none, [], .alc [(.st []), (.st [])]⟩,
⟨none, none, [], .sto 2 (.t 14) (.t 56)⟩] [])
(.seq (.reg false [
⟨some 57, none, [], .fad 0 (.t 14)⟩,
⟨some 58, none, [], .ld 1 false (.t 57)⟩,
⟨some 59, none, [], .call false .pure 82 [(.t 58)]⟩,
⟨some 60, none, [], .un .not (.t 59)⟩] [57])
(.cond (.t 60)
(.reg false [
⟨some 61, none, [], .mov (.t 9)⟩,
⟨some 62, none, [], .ld 2 true (.t 14)⟩,
⟨some 63, none, [], .bsv [.one, .one] 2 [[(.st []), (.st [])]] [(0, (.t 62))]⟩,
⟨some 64, none, [], .app 2 32 (.t 61) (.t 63)⟩,
⟨some 9, none, [], .mov (.t 64)⟩] [])
.skip))))
(.reg false [
⟨some 65, none, [], .bin .no .add (.t 53) (.k (.it .i64 1))⟩,
⟨some 53, none, [], .mov (.t 65)⟩] [])))))))
(.seq (.reg false [
⟨some 66, none, [], .mov (.t 9)⟩,
⟨some 67, none, [], .fad 6 (.t 4)⟩,
⟨some 68, none, [], .fad 1 (.t 67)⟩,
⟨none, none, [], .sto 1 (.t 68) (.t 66)⟩] [67, 68])
(.seq (.reg false [
⟨some 69, none, [], .fad 0 (.t 4)⟩,
⟨some 70, none, [], .fad 4 (.t 69)⟩,
⟨some 71, none, [], .ld 1 false (.t 70)⟩,
⟨some 72, none, [], .app 2 32 (.k .ns) (.t 71)⟩,
⟨some 73, none, [], .fad 0 (.t 4)⟩,
⟨some 74, none, [], .fad 4 (.t 73)⟩,
⟨none, none, [], .sto 1 (.t 74) (.t 72)⟩] [69, 70, 73, 74])
(.seq (.reg false [
⟨some 75, none, [], .mov (.t 2)⟩,
⟨some 76, none, [], .mov (.t 3)⟩,
⟨some 77, none, [], .fad 10 (.t 4)⟩,
⟨none, none, [], .sto 1 (.t 77) (.t 75)⟩,
⟨some 78, none, [], .fad 11 (.t 4)⟩,
⟨none, none, [], .sto 1 (.t 78) (.t 76)⟩] [77, 78])
(.seq (.reg false [
⟨some 79, none, [], .ld 12 true (.t 4)⟩,
⟨none, none, [], .sto 12 (.t 8) (.t 79)⟩] [])
.ret)))))))))⟩
def c48 : Ev.Fn := d48.den
def p48 : Pol := { loc := [4, 5, 8, 12, 14], md := .pure, mds := mds, heap := [48, 64], own := [48, 64], ord := [], clr := [(2, [15]), (3, [18, 19]), (6, [26, 30, 32, 40]), (9, [50]), (12, [57]), (15, [67, 68]), (16, [69, 70, 73, 74]), (17, [77, 78])], mask := [(4, [2, 3, 4, 5, 8, 9, 10, 20, 21, 22], [12, 14]), (10, [2, 3, 4, 8, 9, 51, 52, 53], [5, 12, 14])], fns := [] }
theorem r48 : FnOK 48 c48 := fnOK (pol := p48) (d := d48) Try.func48 (by kernel_rfl) (by kernel_rfl) rfl rfl (by kernel_rfl)

/- reservoir/merge.Clears -/
def d49 : DFn := ⟨[(.g [.one, .one, .one, .one, (.sl [.one, .one]), .one]), (.g [.one, (.sl [.one, .one]), .one])], [(.c .one)], .pure, [.tmp 4],
(.seq (.reg false [
⟨some 2, none, [], .box (.t 0)⟩,
⟨some 3, none, [], .box (.t 1)⟩,
⟨some 4, none, [], .mov (.k (.bo false))⟩] [])
(.seq (.seq (.reg false [
⟨some 5, none, [], .fad 0 (.t 2)⟩,
⟨some 6, none, [], .ld 1 false (.t 5)⟩] [5])
(.blk 0 (.seq (.seq (.reg false [
⟨some 8, none, [], .bin .no .eql (.t 6) (.k (.st [71, 69, 84]))⟩,
⟨some 7, none, [], .mov (.t 8)⟩] [])
(.cond (.t 7)
.skip
(.seq (.reg false [
⟨some 9, none, [], .bin .no .eql (.t 6) (.k (.st [72, 69, 65, 68]))⟩,
⟨some 7, none, [], .mov (.t 9)⟩] [])
(.cond (.t 7)
.skip
(.seq (.reg false [
⟨some 10, none, [], .bin .no .eql (.t 6) (.k (.st [79, 80, 84, 73, 79, 78, 83]))⟩,
⟨some 7, none, [], .mov (.t 10)⟩] [])
(.cond (.t 7)
.skip
(.reg false [
⟨some 11, none, [], .bin .no .eql (.t 6) (.k (.st [84, 82, 65, 67, 69]))⟩,
⟨some 7, none, [], .mov (.t 11)⟩] [])))))))
(.cond (.t 7)
(.seq (.reg false [
⟨some 4, none, [], .mov (.k (.bo false))⟩] [])
.ret)
.skip))))
(.seq (.reg false [
⟨some 12, none, [], .fad 0 (.t 3)⟩,
⟨some 13, none, [], .ld 1 false (.t 12)⟩,
⟨some 14, none, [], .bin .no .geq (.t 13) (.k (.it .i64 200))⟩,
⟨some 15, none, [], .mov (.t 14)⟩,
⟨some 16, some (15, true), [], .fad 0 (.t 3)⟩,
⟨some 17, some (15, true), [], .ld 1 false (.t 16)⟩,
⟨some 18, some (15, true), [], .bin .no .lss (.t 17) (.k (.it .i64 400))⟩,
⟨some 19, none, [], .pick (.t 15) (.t 18) (.k (.bo false))⟩,
⟨some 4, none, [], .mov (.t 19)⟩] [12, 16])
.ret)))⟩
def c49 : Ev.Fn := d49.den
def p49 : Pol := { loc := [2, 3], md := .pure, mds := mds, heap := [], own := [], ord := [(0, [2, 0, 1])], clr := [(1, [5]), (7, [12, 16])], mask := [], fns := [] }
theorem r49 : FnOK 49 c49 := fnOK (pol := p49) (d := d49) Try.func49 (by kernel_rfl) (by kernel_rfl) rfl rfl (by kernel_rfl)

/- reservoir/merge.Same -/
def d50 : DFn := ⟨[(.g [.one, .one, .one, .one, (.sl [.one, .one]), .one, .one, (.sl [.one, .one]), .one, .one, .one, .one]), (.g [.one, .one, .one, .one, (.sl [.one, .one]), .one])], [(.c .one)], .pure, [.tmp 4],
(.seq (.reg false [
⟨some 2, none, [], .box (.t 0)⟩,
⟨some 3, none, [], .box (.t 1)⟩,
⟨some 4, none, [], .mov (.k (.bo false))⟩] [])
(.seq (.seq (.reg false [
⟨some 17, none, [], .fad 4 (.t 3)⟩,
⟨some 18, none, [], .ld 1 false (.t 17)⟩,
⟨some 19, none, [], .call false .pure 81 [(.t 18), (.k (.st [105, 102, 45, 110, 111, 110, 101, 45, 109, 97, 116, 99, 104]))]⟩,
⟨some 20, none, [], .un .not (.t 19)⟩] [17])
(.cond (.t 20)
(.seq (.reg false [
⟨some 22, none, [], .fad 6 (.t 2)⟩,
⟨some 23, none, [], .fad 1 (.t 22)⟩,
⟨some 24, none, [], .ld 1 false (.t 23)⟩,
⟨some 25, none, [], .call false .pure 79 [(.t 24), (.k (.st [108, 97, 115, 116, 45, 109, 111, 100, 105, 102, 105, 101, 100]))]⟩,
⟨some 21, none, [], .mov (.t 25)⟩,
⟨some 26, none, [], .ext (.t 21) 0⟩,
⟨some 27, none, [], .ext (.t 21) 1⟩,
⟨some 5, none, [], .mov (.t 26)⟩,
⟨some 6, none, [], .mov (.t 27)⟩] [22, 23])
(.seq (.reg false [
⟨some 29, none, [], .fad 4 (.t 3)⟩,
⟨some 30, none, [], .ld 1 false (.t 29)⟩,
⟨some 31, none, [], .call false .pure 79 [(.t 30), (.k (.st [105, 102, 45, 109, 111, 100, 105, 102, 105, 101, 100, 45, 115, 105, 110, 99, 101]))]⟩,
⟨some 28, none, [], .mov (.t 31)⟩,
⟨some 32, none, [], .ext (.t 28) 0⟩,
⟨some 33, none, [], .ext (.t 28) 1⟩,
⟨some 7, none, [], .mov (.t 32)⟩,
⟨some 8, none, [], .mov (.t 33)⟩] [29])
(.seq (.reg false [
⟨some 34, none, [], .mov (.t 6)⟩,
⟨some 35, none, [], .mov (.t 34)⟩,
⟨some 36, some (35, true), [], .mov (.t 8)⟩,
⟨some 37, none, [], .pick (.t 35) (.t 36) (.k (.bo false))⟩,
⟨some 38, none, [], .mov (.t 37)⟩,
⟨some 39, some (38, true), [], .mov (.t 5)⟩,
⟨some 40, some (38, true), [], .mov (.t 7)⟩,
⟨some 41, some (38, true), [], .bin .no .eql (.t 39) (.t 40)⟩,
⟨some 42, none, [], .pick (.t 38) (.t 41) (.k (.bo false))⟩,
⟨some 4, none, [], .mov (.t 42)⟩] [])
.ret)))
.skip))
(.seq (.reg false [
⟨some 44, none, [], .fad 6 (.t 2)⟩,
⟨some 45, none, [], .fad 1 (.t 44)⟩,
⟨some 46, none, [], .ld 1 false (.t 45)⟩,
⟨some 47, none, [], .call false .pure 79 [(.t 46), (.k (.st [101, 116, 97, 103]))]⟩,
⟨some 43, none, [], .mov (.t 47)⟩,
⟨some 48, none, [], .ext (.t 43) 0⟩,
⟨some 49, none, [], .ext (.t 43) 1⟩,
⟨some 9, none, [], .mov (.t 48)⟩,
⟨some 10, none, [], .mov (.t 49)⟩] [44, 45])
(.seq (.reg false [
⟨some 51, none, [], .fad 4 (.t 3)⟩,
⟨some 52, none, [], .ld 1 false (.t 51)⟩,
⟨some 53, none, [], .call false .pure 76 [(.t 52), (.k (.st [105, 102, 45, 110, 111, 110, 101, 45, 109, 97, 116, 99, 104]))]⟩,
⟨some 50, none, [], .mov (.t 53)⟩,
⟨some 54, none, [], .ext (.t 50) 0⟩,
⟨some 55, none, [], .ext (.t 50) 1⟩,
⟨some 11, none, [], .mov (.t 54)⟩,
⟨some 12, none, [], .mov (.t 55)⟩] [51])
(.seq (.reg false [
⟨some 57, none, [], .mov (.t 11)⟩,
⟨some 58, none, [], .call false .rw 83 [(.t 57)]⟩,
⟨some 56, none, [], .mov (.t 58)⟩,
⟨some 59, none, [], .ext (.t 56) 0⟩,
⟨some 60, none, [], .ext (.t 56) 1⟩,
⟨some 13, none, [], .mov (.t 59)⟩,
⟨some 14, none, [], .mov (.t 60)⟩] [])
(.seq (.seq (.reg false [
⟨some 61, none, [], .mov (.t 13)⟩,
⟨some 62, none, [], .len false (.t 61)⟩,
⟨some 63, none, [], .mov (.k (.it .i64 0))⟩] [])
(.blk 0 (.loop [9, 10, 61, 62, 63] [2, 3]
(.seq (.reg false [
⟨some 64, none, [], .bin .no .lss (.t 63) (.t 62)⟩] [])
(.seq (.cond (.t 64)
.skip
(.exit 0))
(.seq (.blk 1 (.seq (.reg false [
⟨some 65, none, [], .ias 1 (.t 61) (.t 63)⟩,
⟨some 66, none, [], .ld 1 false (.t 65)⟩,
⟨some 16, none, [], .mov (.t 66)⟩] [])
(.seq (.reg false [
⟨some 67, none, [], .mov (.t 16)⟩,
⟨some 68, none, [], .bin .no .eql (.t 67) (.k (.st [42]))⟩,
⟨some 69, none, [], .mov (.t 68)⟩,
⟨some 70, some (69, false), [], .mov (.t 10)⟩,
⟨some 71, some (69, false), [], .mov (.t 70)⟩,
⟨some 72, some (71, true), [], .mov (.t 16)⟩,
⟨some 73, some (71, true), [], .call false .pure 84 [(.t 72)]⟩,
⟨some 74, some (71, true), [], .mov (.t 9)⟩,
⟨some 75, some (71, true), [], .call false .pure 84 [(.t 74)]⟩,
⟨some 76, some (71, true), [], .bin .no .eql (.t 73) (.t 75)⟩,
⟨some 77, some (69, false), [], .pick (.t 71) (.t 76) (.k (.bo false))⟩,
⟨some 78, none, [], .pick (.t 69) (.k (.bo true)) (.t 77)⟩] [])
(.cond (.t 78)
(.seq (.reg false [
⟨some 4, none, [], .mov (.k (.bo true))⟩] [])
.ret)
.skip))))
(.reg false [
⟨some 79, none, [], .bin .no .add (.t 63) (.k (.it .i64 1))⟩,
⟨some 63, none, [], .mov (.t 79)⟩] [])))))))
(.seq (.reg false [
⟨some 4, none, [], .mov (.k (.bo false))⟩] [])
.ret)))))))⟩
def c50 : Ev.Fn := d50.den
def p50 : Pol := { loc := [2, 3], md := .pure, mds := mds, heap := [], own := [], ord := [(0, [2, 0, 1]), (11, [0, 1, 2, 3, 4, 5, 7, 6, 8, 9, 10, 11])], clr := [(1, [17]), (2, [22, 23]), (3, [29]), (5, [44, 45]), (6, [51])], mask := [(9, [9, 10, 61, 62, 63], [2, 3])], fns := [] }
theorem r50 : FnOK 50 c50 := fnOK (pol := p50) (d := d50) Try.func50 (by kernel_rfl) (by kernel_rfl) rfl rfl (by kernel_rfl)

/- reservoir/reservoirbook.Same[reservoir/api.Field] -/
def d51 : DFn := ⟨[(.c (.sl [.one, .one])), (.c (.sl [.one, .one]))], [(.c .one)], .pure, [.tmp 4],
(.seq (.reg false [
⟨some 4, none, [], .mov (.k (.bo false))⟩] [])
(.seq (.seq (.reg false [
⟨some 6, none, [], .mov (.t 0)⟩,
⟨some 7, none, [], .len false (.t 6)⟩,
⟨some 8, none, [], .mov (.t 1)⟩,
⟨some 9, none, [], .len false (.t 8)⟩,
⟨some 10, none, [], .bin .no .neq (.t 7) (.t 9)⟩] [])
(.cond (.t 10)
(.seq (.reg false [
⟨some 4, none, [], .mov (.k (.bo false))⟩] [])
.ret)
.skip))
(.seq (.seq (.reg false [
⟨some 5, none, [], .mov (.k (.it .i64 0))⟩] [])
(.blk 0 (.loop [0, 1, 5] []
(.seq (.seq (.reg false [
⟨some 11, none, [], .mov (.t 5)⟩,
⟨some 12, none, [], .mov (.t 0)⟩,
⟨some 13, none, [], .len false (.t 12)⟩,
⟨some 14, none, [], .bin .no .lss (.t 11) (.t 13)⟩] [])
(.cond (.t 14)
.skip
(.exit 0)))
(.seq (.blk 1 (.seq (.reg true [
⟨some 17, none, [], .mov (.t 0)⟩,
⟨some 18, none, [], .mov (.t 5)⟩,
⟨some 19, none, [], .ias 2 (.t 17) (.t 18)⟩,
⟨some 20, none, [], .ld 2 true (.t 19)⟩,
⟨some 21, none, [], .mov (.t 1)⟩,
⟨some 22, none, [], .mov (.t 5)⟩,
⟨some 23, none, [], .ias 2 (.t 21) (.t 22)⟩,
⟨some 24, none, [], .ld 2 true (.t 23)⟩,
⟨some 25, none, [], .bin (.ag [1, 1]) .neq (.t 20) (.t 24)⟩] [])
(.cond (.t 25)
(.seq (.reg false [
⟨some 4, none, [], .mov (.k (.bo false))⟩] [])
.ret)
.skip)))
(.reg false [
⟨some 15, none, [], .mov (.t 5)⟩,
⟨some 16, none, [], .bin .no .add (.t 15) (.k (.it .i64 1))⟩,
⟨some 5, none, [], .mov (.t 16)⟩] []))))))
(.seq (.reg false [
⟨some 4, none, [], .mov (.k (.bo true))⟩] [])
.ret))))⟩
def c51 : Ev.Fn := d51.den
def p51 : Pol := { loc := [], md := .pure, mds := mds, heap := [], own := [], ord := [], clr := [], mask := [(4, [0, 1, 5], [])], fns := [] }
theorem r51 : FnOK 51 c51 := fnOK (pol := p51) (d := d51) Try.func51 (by kernel_rfl) (by kernel_rfl) rfl rfl (by kernel_rfl)

/- reservoir/token.All -/
def d76 : DFn := ⟨[(.c (.sl [.one, .one])), (.c .one)], [(.c .one), (.c .one)], .pure, [.tmp 4, .tmp 5],
(.seq (.reg false [
⟨some 4, none, [], .mov (.k (.st []))⟩,
⟨some 5, none, [], .mov (.k (.it .i64 0))⟩] [])
(.seq (.reg false [
⟨some 6, none, [], .mov (.k .ns)⟩] [])
(.seq (.seq (.reg false [
⟨some 9, none, [], .mov (.t 0)⟩,
⟨some 10, none, [], .len false (.t 9)⟩,
⟨some 11, none, [], .mov (.k (.it .i64 0))⟩] [])
(.blk 0 (.loop [1, 6, 9, 10, 11] [8]
(.seq (.reg false [
⟨some 12, none, [], .bin .no .lss (.t 11) (.t 10)⟩] [])
(.seq (.cond (.t 12)
.skip
(.exit 0))
(.seq (.blk 1 (.seq (.reg false [
⟨some 13, none, [], .ias 2 (.t 9) (.t 11)⟩,
⟨some 14, none, [], .ld 2 true (.t 13)⟩,
⟨some 8, none, [], .alc [(.st []), (.st [])]⟩,
⟨none, none, [], .sto 2 (.t 8) (.t 14)⟩] [])
(.seq (.reg false [
⟨some 15, none, [], .fad 0 (.t 8)⟩,
⟨some 16, none, [], .ld 1 false (.t 15)⟩,
⟨some 17, none, [], .mov (.t 1)⟩,
⟨some 18, none, [], .bin .no .eql (.t 16) (.t 17)⟩] [15])
(.cond (.t 18)
(.reg false [
⟨some 19, none, [], .mov (.t 6)⟩,
⟨some 20, none, [], .fad 1 (.t 8)⟩,
⟨some 21, none, [], .ld 1 false (.t 20)⟩,
⟨some 22, none, [], .bsv [.one] 1 [[(.st [])]] [(0, (.t 21))]⟩,
⟨some 23, none, [], .app 1 16 (.t 19) (.t 22)⟩,
⟨some 6, none, [], .mov (.t 23)⟩] [20])
.skip))))
(.reg false [
⟨some 24, none, [], .bin .no .add (.t 11) (.k (.it .i64 1))⟩,
⟨some 11, none, [], .mov (.t 24)⟩] [])))))))
(.seq (.reg false [
⟨some 25, none, [], .mov (.t 6)⟩,
⟨some 26, none, [], .call false .pure 99 [(.t 25), (.k (.st [44, 32]))]⟩,
⟨some 27, none, [], .mov (.t 6)⟩,
⟨some 28, none, [], .len false (.t 27)⟩,
⟨some 4, none, [], .mov (.t 26)⟩,
⟨some 5, none, [], .mov (.t 28)⟩] [])
.ret))))⟩
def c76 : Ev.Fn := d76.den
def p76 : Pol := { loc := [8], md := .pure, mds := mds, heap := [23], own := [23], ord := [(8, [0, 2, 3, 1, 4, 5])], clr := [(5, [15]), (6, [20])], mask := [(3, [1, 6, 9, 10, 11], [8])], fns := [] }
theorem r76 : FnOK 76 c76 := fnOK (pol := p76) (d := d76) Try.func76 (by kernel_rfl) (by kernel_rfl) rfl rfl (by kernel_rfl)

/- reservoir/token.Trim -/
def d77 : DFn := ⟨[(.c .one)], [(.c .one)], .pure, [.tmp 2],
(.seq (.reg false [
⟨some 2, none, [], .mov (.k (.st []))⟩] [])
(.seq (.blk 0 (.loop [0] []
(.seq (.seq (.reg false [
⟨some 3, none, [], .mov (.t 0)⟩,
⟨some 4, none, [], .bin .no .neq (.t 3) (.k (.st []))⟩,
⟨some 5, none, [], .mov (.t 4)⟩,
⟨some 6, some (5, true), [], .mov (.t 0)⟩,
⟨some 7, some (5, true), [], .ixs (.t 6) (.k (.it .i64 0))⟩,
⟨some 8, some (5, true), [], .call false .pure 100 [(.t 7)]⟩,
⟨some 9, none, [], .pick (.t 5) (.t 8) (.k (.bo false))⟩] [])
(.cond (.t 9)
.skip
(.exit 0)))
(.blk 1 (.reg false [
⟨some 10, none, [], .mov (.t 0)⟩,
⟨some 11, none, [], .slc true 0 (.t 10) (some (.k (.it .i64 1))) none⟩,
⟨some 0, none, [], .mov (.t 11)⟩] [])))))
(.seq (.blk 2 (.loop [0] []
(.seq (.seq (.reg false [
⟨some 12, none, [], .mov (.t 0)⟩,
⟨some 13, none, [], .bin .no .neq (.t 12) (.k (.st []))⟩,
⟨some 14, none, [], .mov (.t 13)⟩,
⟨some 15, some (14, true), [], .mov (.t 0)⟩,
⟨some 16, some (14, true), [], .mov (.t 0)⟩,
⟨some 17, some (14, true), [], .len true (.t 16)⟩,
⟨some 18, some (14, true), [], .bin .no .sub (.t 17) (.k (.it .i64 1))⟩,
⟨some 19, some (14, true), [], .ixs (.t 15) (.t 18)⟩,
⟨some 20, some (14, true), [], .call false .pure 100 [(.t 19)]⟩,
⟨some 21, none, [], .pick (.t 14) (.t 20) (.k (.bo false))⟩] [])
(.cond (.t 21)
.skip
(.exit 2)))
(.blk 3 (.reg false [
⟨some 22, none, [], .mov (.t 0)⟩,
⟨some 23, none, [], .mov (.t 0)⟩,
⟨some 24, none, [], .len true (.t 23)⟩,
⟨some 25, none, [], .bin .no .sub (.t 24) (.k (.it .i64 1))⟩,
⟨some 26, none, [], .slc true 0 (.t 22) none (some (.t 25))⟩,
⟨some 0, none, [], .mov (.t 26)⟩] [])))))
(.seq (.reg false [
⟨some 27, none, [], .mov (.t 0)⟩,
⟨some 2, none, [], .mov (.t 27)⟩] [])
.ret))))⟩
def c77 : Ev.Fn := d77.den
def p77 : Pol := { loc := [], md := .pure, mds := mds, heap := [], own := [], ord := [], clr := [], mask := [(1, [0], []), (3, [0], [])], fns := [] }
theorem r77 : FnOK 77 c77 := fnOK (pol := p77) (d := d77) Try.func77 (by kernel_rfl) (by kernel_rfl) rfl rfl (by kernel_rfl)

/- reservoir/merge.only -/
def d79 : DFn := ⟨[(.c (.sl [.one, .one])), (.c .one)], [(.c .one), (.c .one)], .pure, [.tmp 4, .tmp 5],
(.seq (.reg false [
⟨some 4, none, [], .mov (.k (.st []))⟩,
⟨some 5, none, [], .mov (.k (.bo false))⟩] [])
(.seq (.reg false [
⟨some 9, none, [], .mov (.t 0)⟩,
⟨some 10, none, [], .mov (.t 1)⟩,
⟨some 11, none, [], .call false .pure 76 [(.t 9), (.t 10)]⟩,
⟨some 8, none, [], .mov (.t 11)⟩,
⟨some 12, none, [], .ext (.t 8) 0⟩,
⟨some 13, none, [], .ext (.t 8) 1⟩,
⟨some 6, none, [], .mov (.t 12)⟩,
⟨some 7, none, [], .mov (.t 13)⟩] [])
(.seq (.seq (.reg false [
⟨some 14, none, [], .mov (.t 7)⟩,
⟨some 15, none, [], .bin .no .neq (.t 14) (.k (.it .i64 1))⟩] [])
(.cond (.t 15)
(.seq (.reg false [
⟨some 4, none, [], .mov (.k (.st []))⟩,
⟨some 5, none, [], .mov (.k (.bo false))⟩] [])
.ret)
.skip))
(.seq (.reg false [
⟨some 16, none, [], .mov (.t 6)⟩,
⟨some 4, none, [], .mov (.t 16)⟩,
⟨some 5, none, [], .mov (.k (.bo true))⟩] [])
.ret))))⟩
def c79 : Ev.Fn := d79.den
def p79 : Pol := { loc := [], md := .pure, mds := mds, heap := [], own := [], ord := [], clr := [], mask := [], fns := [] }
theorem r79 : FnOK 79 c79 := fnOK (pol := p79) (d := d79) Try.func79 (by kernel_rfl) (by kernel_rfl) rfl rfl (by kernel_rfl)

/- reservoir/merge.condition -/
def d80 : DFn := ⟨[(.c .one)], [(.c .one)], .pure, [.tmp 2],
(.seq (.reg false [
⟨some 2, none, [], .mov (.k (.bo false))⟩] [])
(.seq (.seq (.reg false [
⟨some 3, none, [], .mov (.t 0)⟩] [])
(.blk 0 (.seq (.seq (.reg false [
⟨some 5, none, [], .bin .no .eql (.t 3) (.k (.st [105, 102, 45, 110, 111, 110, 101, 45, 109, 97, 116, 99, 104]))⟩,
⟨some 4, none, [], .mov (.t 5)⟩] [])
(.cond (.t 4)
.skip
(.seq (.reg false [
⟨some 6, none, [], .bin .no .eql (.t 3) (.k (.st [105, 102, 45, 109, 111, 100, 105, 102, 105, 101, 100, 45, 115, 105, 110, 99, 101]))⟩,
⟨some 4, none, [], .mov (.t 6)⟩] [])
(.cond (.t 4)
.skip
(.seq (.reg false [
⟨some 7, none, [], .bin .no .eql (.t 3) (.k (.st [105, 102, 45, 109, 97, 116, 99, 104]))⟩,
⟨some 4, none, [], .mov (.t 7)⟩] [])
(.cond (.t 4)
.skip
(.seq (.reg false [
⟨some 8, none, [], .bin .no .eql (.t 3) (.k (.st [105, 102, 45, 117, 110, 109, 111, 100, 105, 102, 105, 101, 100, 45, 115, 105, 110, 99, 101]))⟩,
⟨some 4, none, [], .mov (.t 8)⟩] [])
(.cond (.t 4)
.skip
(.seq (.reg false [
⟨some 9, none, [], .bin .no .eql (.t 3) (.k (.st [105, 102, 45, 114, 97, 110, 103, 101]))⟩,
⟨some 4, none, [], .mov (.t 9)⟩] [])
(.cond (.t 4)
.skip
(.reg false [
⟨some 10, none, [], .bin .no .eql (.t 3) (.k (.st [114, 97, 110, 103, 101]))⟩,
⟨some 4, none, [], .mov (.t 10)⟩] [])))))))))))
(.cond (.t 4)
(.seq (.reg false [
⟨some 2, none, [], .mov (.k (.bo true))⟩] [])
.ret)
.skip))))
(.seq (.reg false [
⟨some 2, none, [], .mov (.k (.bo false))⟩] [])
.ret)))⟩
def c80 : Ev.Fn := d80.den
def p80 : Pol := { loc := [], md := .pure, mds := mds, heap := [], own := [], ord := [], clr := [], mask := [], fns := [] }
theorem r80 : FnOK 80 c80 := fnOK (pol := p80) (d := d80) Try.func80 (by kernel_rfl) (by kernel_rfl) rfl rfl (by kernel_rfl)

/- reservoir/merge.has -/
def d81 : DFn := ⟨[(.c (.sl [.one, .one])), (.c .one)], [(.c .one)], .pure, [.tmp 4],
(.seq (.reg false [
⟨some 4, none, [], .mov (.k (.bo false))⟩] [])
(.seq (.reg false [
⟨some 8, none, [], .mov (.t 0)⟩,
⟨some 9, none, [], .mov (.t 1)⟩,
⟨some 10, none, [], .call false .pure 76 [(.t 8), (.t 9)]⟩,
⟨some 7, none, [], .mov (.t 10)⟩,
⟨some 11, none, [], .ext (.t 7) 0⟩,
⟨some 12, none, [], .ext (.t 7) 1⟩,
⟨some 5, none, [], .mov (.t 11)⟩,
⟨some 6, none, [], .mov (.t 12)⟩] [])
(.seq (.reg false [
⟨some 13, none, [], .mov (.t 6)⟩,
⟨some 14, none, [], .bin .no .gtr (.t 13) (.k (.it .i64 0))⟩,
⟨some 4, none, [], .mov (.t 14)⟩] [])
.ret)))⟩
def c81 : Ev.Fn := d81.den
def p81 : Pol := { loc := [], md := .pure, mds := mds, heap := [], own := [], ord := [], clr := [], mask := [], fns := [] }
theorem r81 : FnOK 81 c81 := fnOK (pol := p81) (d := d81) Try.func81 (by kernel_rfl) (by kernel_rfl) rfl rfl (by kernel_rfl)

/- reservoir/merge.content -/
def d82 : DFn := ⟨[(.c .one)], [(.c .one)], .pure, [.tmp 2],
(.seq (.reg false [
⟨some 2, none, [], .mov (.k (.bo false))⟩] [])
(.seq (.seq (.reg false [
⟨some 3, none, [], .mov (.t 0)⟩] [])
(.blk 0 (.seq (.seq (.reg false [
⟨some 5, none, [], .bin .no .eql (.t 3) (.k (.st [99, 111, 110, 116, 101, 110, 116, 45, 108, 101, 110, 103, 116, 104]))⟩,
⟨some 4, none, [], .mov (.t 5)⟩] [])
(.cond (.t 4)
.skip
(.seq (.reg false [
⟨some 6, none, [], .bin .no .eql (.t 3) (.k (.st [99, 111, 110, 116, 101, 110, 116, 45, 101, 110, 99, 111, 100, 105, 110, 103]))⟩,
⟨some 4, none, [], .mov (.t 6)⟩] [])
(.cond (.t 4)
.skip
(.seq (.reg false [
⟨some 7, none, [], .bin .no .eql (.t 3) (.k (.st [99, 111, 110, 116, 101, 110, 116, 45, 116, 121, 112, 101]))⟩,
⟨some 4, none, [], .mov (.t 7)⟩] [])
(.cond (.t 4)
.skip
(.reg false [
⟨some 8, none, [], .bin .no .eql (.t 3) (.k (.st [99, 111, 110, 116, 101, 110, 116, 45, 114, 97, 110, 103, 101]))⟩,
⟨some 4, none, [], .mov (.t 8)⟩] [])))))))
(.cond (.t 4)
(.seq (.reg false [
⟨some 2, none, [], .mov (.k (.bo true))⟩] [])
.ret)
.skip))))
(.seq (.reg false [
⟨some 2, none, [], .mov (.k (.bo false))⟩] [])
.ret)))⟩
def c82 : Ev.Fn := d82.den
def p82 : Pol := { loc := [], md := .pure, mds := mds, heap := [], own := [], ord := [], clr := [], mask := [], fns := [] }
theorem r82 : FnOK 82 c82 := fnOK (pol := p82) (d := d82) Try.func82 (by kernel_rfl) (by kernel_rfl) rfl rfl (by kernel_rfl)

/- reservoir/token.Split -/
def d83 : DFn := ⟨[(.c .one)], [(.c (.sl [.one])), (.c .one)], .rw, [.tmp 2, .tmp 3],
(.seq (.reg false [
⟨some 1, none, [], .bxh (.t 0)⟩,
⟨some 2, none, [], .mov (.k .ns)⟩,
⟨some 3, none, [], .mov (.k (.bo false))⟩] [])
(.seq (.reg false [
⟨some 4, none, [], .alh [.ns]⟩] [])
(.seq (.reg false [
⟨some 5, none, [], .alh [(.it .i64 0)]⟩,
⟨none, none, [], .sto 1 (.t 5) (.k (.it .i64 0))⟩] [])
(.seq (.reg false [
⟨some 10, none, [], .mkf 101 [] [(.t 1), (.t 5), (.t 4)]⟩,
⟨some 6, none, [], .mov (.t 10)⟩] [])
(.seq (.seq (.reg false [
⟨some 7, none, [], .mov (.k (.it .i64 0))⟩] [])
(.blk 0 (.loop [1, 4, 5, 6, 7] []
(.seq (.seq (.reg false [
⟨some 11, none, [], .mov (.t 7)⟩,
⟨some 12, none, [], .ld 1 false (.t 1)⟩,
⟨some 13, none, [], .len true (.t 12)⟩,
⟨some 14, none, [], .bin .no .lss (.t 11) (.t 13)⟩] [])
(.cond (.t 14)
.skip
(.exit 0)))
(.blk 1 (.seq (.reg false [
⟨some 15, none, [], .ld 1 false (.t 1)⟩,
⟨some 16, none, [], .mov (.t 7)⟩,
⟨some 17, none, [], .ixs (.t 15) (.t 16)⟩] [])
(.blk 2 (.seq (.reg false [
⟨some 21, none, [], .bin .no .eql (.t 17) (.k (.it .u8 44))⟩,
⟨some 20, none, [], .mov (.t 21)⟩] [])
(.cond (.t 20)
(.seq (.reg false [
⟨some 22, none, [], .mov (.t 6)⟩,
⟨some 23, none, [], .mov (.t 7)⟩,
⟨some 24, none, [], .calv [] (.t 22) [(.t 23)]⟩] [])
(.seq (.reg false [
⟨some 25, none, [], .mov (.t 7)⟩,
⟨some 26, none, [], .bin .no .add (.t 25) (.k (.it .i64 1))⟩,
⟨some 7, none, [], .mov (.t 26)⟩] [])
(.reg false [
⟨some 27, none, [], .mov (.t 7)⟩,
⟨none, none, [], .sto 1 (.t 5) (.t 27)⟩] [])))
(.seq (.reg false [
⟨some 29, none, [], .bin .no .eql (.t 17) (.k (.it .u8 34))⟩,
⟨some 28, none, [], .mov (.t 29)⟩] [])
(.cond (.t 28)
(.seq (.reg false [
⟨some 31, none, [], .ld 1 false (.t 1)⟩,
⟨some 32, none, [], .mov (.t 7)⟩,
⟨some 33, none, [], .call true .pure 102 [(.t 31), (.t 32)]⟩,
⟨some 30, none, [], .mov (.t 33)⟩,
⟨some 34, none, [], .ext (.t 30) 0⟩,
⟨some 35, none, [], .ext (.t 30) 1⟩,
⟨some 8, none, [], .mov (.t 34)⟩,
⟨some 9, none, [], .mov (.t 35)⟩] [])
(.seq (.seq (.reg false [
⟨some 36, none, [], .mov (.t 9)⟩,
⟨some 37, none, [], .un .not (.t 36)⟩] [])
(.cond (.t 37)
(.seq (.reg false [
⟨some 2, none, [], .mov (.k .ns)⟩,
⟨some 3, none, [], .mov (.k (.bo false))⟩] [])
.ret)
.skip))
(.reg false [
⟨some 38, none, [], .mov (.t 8)⟩,
⟨some 7, none, [], .mov (.t 38)⟩] [])))
(.reg false [
⟨some 18, none, [], .mov (.t 7)⟩,
⟨some 19, none, [], .bin .no .add (.t 18) (.k (.it .i64 1))⟩,
⟨some 7, none, [], .mov (.t 19)⟩] []))))))))))))
(.seq (.reg false [
⟨some 39, none, [], .mov (.t 6)⟩,
⟨some 40, none, [], .ld 1 false (.t 1)⟩,
⟨some 41, none, [], .len true (.t 40)⟩,
⟨some 42, none, [], .calv [] (.t 39) [(.t 41)]⟩] [])
(.seq (.reg false [
⟨some 43, none, [], .ld 1 false (.t 4)⟩,
⟨some 2, none, [], .mov (.t 43)⟩,
⟨some 3, none, [], .mov (.k (.bo true))⟩] [])
.ret)))))))⟩
def c83 : Ev.Fn := d83.den
def p83 : Pol := { loc := [], md := .rw, mds := mds, heap := [33], own := [33], ord := [(0, [1, 2, 0])], clr := [], mask := [(5, [1, 4, 5, 6, 7], [])], fns := [101] }
theorem r83 : FnOK 83 c83 := fnOK (pol := p83) (d := d83) Try.func83 (by kernel_rfl) (by kernel_rfl) rfl rfl (by kernel_rfl)

/- reservoir/merge.strong -/
def d84 : DFn := ⟨[(.c .one)], [(.c .one)], .pure, [.tmp 2],
(.seq (.reg false [
⟨some 2, none, [], .mov (.k (.st []))⟩] [])
(.seq (.reg false [
⟨some 3, none, [], .mov (.t 0)⟩,
⟨some 4, none, [], .call false .pure 103 [(.t 3), (.k (.st [87, 47]))]⟩,
⟨some 2, none, [], .mov (.t 4)⟩] [])
.ret))⟩
def c84 : Ev.Fn := d84.den
def p84 : Pol := { loc := [], md := .pure, mds := mds, heap := [], own := [], ord := [], clr := [], mask := [], fns := [] }
theorem r84 : FnOK 84 c84 := fnOK (pol := p84) (d := d84) Try.func84 (by kernel_rfl) (by kernel_rfl) rfl rfl (by kernel_rfl)

/- strings.Join -/
def d99 : DFn := ⟨[(.c (.sl [.one])), (.c .one)], [(.c .one)], .pure, [.tmp 4],
(.seq (.reg false [
⟨some 4, none, [], .mov (.k (.st []))⟩] [])
(.seq (.seq (.reg false [
⟨some 11, none, [], .mov (.t 0)⟩,
⟨some 12, none, [], .len false (.t 11)⟩] [])
(.blk 0 (.seq (.reg false [
⟨some 14, none, [], .bin .no .eql (.t 12) (.k (.it .i64 0))⟩,
⟨some 13, none, [], .mov (.t 14)⟩] [])
(.cond (.t 13)
(.seq (.reg false [
⟨some 4, none, [], .mov (.k (.st []))⟩] [])
.ret)
(.seq (.reg false [
⟨some 16, none, [], .bin .no .eql (.t 12) (.k (.it .i64 1))⟩,
⟨some 15, none, [], .mov (.t 16)⟩] [])
(.cond (.t 15)
(.seq (.reg false [
⟨some 17, none, [], .mov (.t 0)⟩,
⟨some 18, none, [], .ias 1 (.t 17) (.k (.it .i64 0))⟩,
⟨some 19, none, [], .ld 1 false (.t 18)⟩,
⟨some 4, none, [], .mov (.t 19)⟩] [])
.ret)
.skip))))))
(.seq (.reg false [
⟨some 5, none, [], .mov (.k (.it .i64 0))⟩] [])
(.seq (.seq (.reg false [
⟨some 20, none, [], .mov (.t 1)⟩,
⟨some 21, none, [], .len true (.t 20)⟩,
⟨some 22, none, [], .bin .no .gtr (.t 21) (.k (.it .i64 0))⟩] [])
(.cond (.t 22)
(.seq (.seq (.reg false [
⟨some 23, none, [], .mov (.t 1)⟩,
⟨some 24, none, [], .len true (.t 23)⟩,
⟨some 25, none, [], .mov (.t 0)⟩,
⟨some 26, none, [], .len false (.t 25)⟩,
⟨some 27, none, [], .bin .no .sub (.t 26) (.k (.it .i64 1))⟩,
⟨some 28, none, [], .bin .no .quo (.k (.it .i64 9223372036854775807)) (.t 27)⟩,
⟨some 29, none, [], .bin .no .geq (.t 24) (.t 28)⟩] [])
(.cond (.t 29)
(.reg false [
⟨some 30, none, [], .mki 9 (.k (.st [115, 116, 114, 105, 110, 103, 115, 58, 32, 74, 111, 105, 110, 32, 111, 117, 116, 112, 117, 116, 32, 108, 101, 110, 103, 116, 104, 32, 111, 118, 101, 114, 102, 108, 111, 119]))⟩,
⟨none, none, [], .pan (.t 30)⟩] [])
.skip))
(.reg false [
⟨some 31, none, [], .mov (.t 5)⟩,
⟨some 32, none, [], .mov (.t 1)⟩,
⟨some 33, none, [], .len true (.t 32)⟩,
⟨some 34, none, [], .mov (.t 0)⟩,
⟨some 35, none, [], .len false (.t 34)⟩,
⟨some 36, none, [], .bin .no .sub (.t 35) (.k (.it .i64 1))⟩,
⟨some 37, none, [], .bin .no .mul (.t 33) (.t 36)⟩,
⟨some 38, none, [], .bin .no .add (.t 31) (.t 37)⟩,
⟨some 5, none, [], .mov (.t 38)⟩] []))
.skip))
(.seq (.seq (.reg false [
⟨some 39, none, [], .mov (.t 0)⟩,
⟨some 40, none, [], .len false (.t 39)⟩,
⟨some 41, none, [], .mov (.k (.it .i64 0))⟩] [])
(.blk 1 (.loop [0, 1, 5, 39, 40, 41] []
(.seq (.reg false [
⟨some 42, none, [], .bin .no .lss (.t 41) (.t 40)⟩] [])
(.seq (.cond (.t 42)
.skip
(.exit 1))
(.seq (.blk 2 (.seq (.reg false [
⟨some 43, none, [], .ias 1 (.t 39) (.t 41)⟩,
⟨some 44, none, [], .ld 1 false (.t 43)⟩,
⟨some 7, none, [], .mov (.t 44)⟩] [])
(.seq (.seq (.reg false [
⟨some 45, none, [], .mov (.t 7)⟩,
⟨some 46, none, [], .len true (.t 45)⟩,
⟨some 47, none, [], .mov (.t 5)⟩,
⟨some 48, none, [], .bin .no .sub (.k (.it .i64 9223372036854775807)) (.t 47)⟩,
⟨some 49, none, [], .bin .no .gtr (.t 46) (.t 48)⟩] [])
(.cond (.t 49)
(.reg false [
⟨some 50, none, [], .mki 9 (.k (.st [115, 116, 114, 105, 110, 103, 115, 58, 32, 74, 111, 105, 110, 32, 111, 117, 116, 112, 117, 116, 32, 108, 101, 110, 103, 116, 104, 32, 111, 118, 101, 114, 102, 108, 111, 119]))⟩,
⟨none, none, [], .pan (.t 50)⟩] [])
.skip))
(.reg false [
⟨some 51, none, [], .mov (.t 5)⟩,
⟨some 52, none, [], .mov (.t 7)⟩,
⟨some 53, none, [], .len true (.t 52)⟩,
⟨some 54, none, [], .bin .no .add (.t 51) (.t 53)⟩,
⟨some 5, none, [], .mov (.t 54)⟩] []))))
(.reg false [
⟨some 55, none, [], .bin .no .add (.t 41) (.k (.it .i64 1))⟩,
⟨some 41, none, [], .mov (.t 55)⟩] [])))))))
(.seq (.reg false [
⟨some 8, none, [], .alh [.np, .ns]⟩] [])
(.seq (.reg false [
⟨some 56, none, [], .mov (.t 5)⟩,
⟨some 57, none, [], .call false .rw 107 [(.t 8), (.t 56)]⟩] [])
(.seq (.reg false [
⟨some 58, none, [], .mov (.t 0)⟩,
⟨some 59, none, [], .ias 1 (.t 58) (.k (.it .i64 0))⟩,
⟨some 60, none, [], .ld 1 false (.t 59)⟩,
⟨some 61, none, [], .call false .rw 108 [(.t 8), (.t 60)]⟩] [])
(.seq (.seq (.reg false [
⟨some 62, none, [], .mov (.t 0)⟩,
⟨some 63, none, [], .slc false 1 (.t 62) (some (.k (.it .i64 1))) none⟩,
⟨some 64, none, [], .len false (.t 63)⟩,
⟨some 65, none, [], .mov (.k (.it .i64 0))⟩] [])
(.blk 3 (.loop [1, 8, 63, 64, 65] []
(.seq (.reg false [
⟨some 66, none, [], .bin .no .lss (.t 65) (.t 64)⟩] [])
(.seq (.cond (.t 66)
.skip
(.exit 3))
(.seq (.blk 4 (.seq (.reg false [
⟨some 67, none, [], .ias 1 (.t 63) (.t 65)⟩,
⟨some 68, none, [], .ld 1 false (.t 67)⟩,
⟨some 10, none, [], .mov (.t 68)⟩] [])
(.seq (.reg false [
⟨some 69, none, [], .mov (.t 1)⟩,
⟨some 70, none, [], .call false .rw 108 [(.t 8), (.t 69)]⟩] [])
(.reg false [
⟨some 71, none, [], .mov (.t 10)⟩,
⟨some 72, none, [], .call false .rw 108 [(.t 8), (.t 71)]⟩] []))))
(.reg false [
⟨some 73, none, [], .bin .no .add (.t 65) (.k (.it .i64 1))⟩,
⟨some 65, none, [], .mov (.t 73)⟩] [])))))))
(.seq (.reg false [
⟨some 74, none, [], .call false .rw 109 [(.t 8)]⟩,
⟨some 4, none, [], .mov (.t 74)⟩] [])
.ret))))))))))⟩
def c99 : Ev.Fn := d99.den
def p99 : Pol := { loc := [], md := .pure, mds := mds, heap := [], own := [], ord := [], clr := [], mask := [(12, [0, 1, 5, 39, 40, 41], []), (22, [1, 8, 63, 64, 65], [])], fns := [] }
theorem r99 : FnOK 99 c99 := fnOK (pol := p99) (d := d99) Try.func99 (by kernel_rfl) (by kernel_rfl) rfl rfl (by kernel_rfl)

/- reservoir/token.blank -/
def d100 : DFn := ⟨[(.c .one)], [(.c .one)], .pure, [.tmp 2],
(.seq (.reg false [
⟨some 2, none, [], .mov (.k (.bo false))⟩] [])
(.seq (.reg false [
⟨some 3, none, [], .mov (.t 0)⟩,
⟨some 4, none, [], .bin .no .eql (.t 3) (.k (.it .u8 32))⟩,
⟨some 5, none, [], .mov (.t 4)⟩,
⟨some 6, some (5, false), [], .mov (.t 0)⟩,
⟨some 7, some (5, false), [], .bin .no .eql (.t 6) (.k (.it .u8 9))⟩,
⟨some 8, none, [], .pick (.t 5) (.k (.bo true)) (.t 7)⟩,
⟨some 2, none, [], .mov (.t 8)⟩] [])
.ret))⟩
def c100 : Ev.Fn := d100.den
def p100 : Pol := { loc := [], md := .pure, mds := mds, heap := [], own := [], ord := [], clr := [], mask := [], fns := [] }
theorem r100 : FnOK 100 c100 := fnOK (pol := p100) (d := d100) Try.func100 (by kernel_rfl) (by kernel_rfl) rfl rfl (by kernel_rfl)

/- reservoir/token.Split$1 -/
def d101 : DFn := ⟨[(.c .one), (.c .one), (.c .one), (.c .one)], [], .rw, [],
(.seq (.reg false [
⟨some 6, none, [], .ld 1 false (.t 1)⟩,
⟨some 7, none, [], .ld 1 false (.t 2)⟩,
⟨some 8, none, [], .mov (.t 0)⟩,
⟨some 9, none, [], .slc true 0 (.t 6) (some (.t 7)) (some (.t 8))⟩,
⟨some 10, none, [], .call false .pure 77 [(.t 9)]⟩,
⟨some 5, none, [], .mov (.t 10)⟩] [])
(.seq (.reg false [
⟨some 11, none, [], .mov (.t 5)⟩,
⟨some 12, none, [], .bin .no .neq (.t 11) (.k (.st []))⟩] [])
(.cond (.t 12)
(.reg false [
⟨some 13, none, [], .ld 1 false (.t 3)⟩,
⟨some 14, none, [], .mov (.t 5)⟩,
⟨some 15, none, [], .bsv [.one] 1 [[(.st [])]] [(0, (.t 14))]⟩,
⟨some 16, none, [], .app 1 16 (.t 13) (.t 15)⟩,
⟨none, none, [], .sto 1 (.t 3) (.t 16)⟩] [])
.skip)))⟩
def c101 : Ev.Fn := d101.den
def p101 : Pol := { loc := [], md := .rw, mds := mds, heap := [16], own := [16], ord := [], clr := [], mask := [], fns := [] }
theorem r101 : FnOK 101 c101 := fnOK (pol := p101) (d := d101) Try.func101 (by kernel_rfl) (by kernel_rfl) rfl rfl (by kernel_rfl)

/- reservoir/token.quoted -/
def d102 : DFn := ⟨[(.c .one), (.c .one)], [(.c .one), (.c .one)], .pure, [.tmp 4, .tmp 5],
(.seq (.reg false [
⟨some 4, none, [], .mov (.k (.it .i64 0))⟩,
⟨some 5, none, [], .mov (.k (.bo false))⟩] [])
(.seq (.seq (.reg false [
⟨some 7, none, [], .mov (.t 1)⟩,
⟨some 8, none, [], .bin .no .add (.t 7) (.k (.it .i64 1))⟩,
⟨some 6, none, [], .mov (.t 8)⟩] [])
(.blk 0 (.loop [0, 6] []
(.seq (.seq (.reg false [
⟨some 9, none, [], .mov (.t 6)⟩,
⟨some 10, none, [], .mov (.t 0)⟩,
⟨some 11, none, [], .len true (.t 10)⟩,
⟨some 12, none, [], .bin .no .lss (.t 9) (.t 11)⟩] [])
(.cond (.t 12)
.skip
(.exit 0)))
(.seq (.blk 1 (.seq (.reg false [
⟨some 15, none, [], .mov (.t 0)⟩,
⟨some 16, none, [], .mov (.t 6)⟩,
⟨some 17, none, [], .ixs (.t 15) (.t 16)⟩] [])
(.blk 2 (.seq (.reg false [
⟨some 19, none, [], .bin .no .eql (.t 17) (.k (.it .u8 92))⟩,
⟨some 18, none, [], .mov (.t 19)⟩] [])
(.cond (.t 18)
(.reg false [
⟨some 20, none, [], .mov (.t 6)⟩,
⟨some 21, none, [], .bin .no .add (.t 20) (.k (.it .i64 1))⟩,
⟨some 6, none, [], .mov (.t 21)⟩] [])
(.seq (.reg false [
⟨some 23, none, [], .bin .no .eql (.t 17) (.k (.it .u8 34))⟩,
⟨some 22, none, [], .mov (.t 23)⟩] [])
(.cond (.t 22)
(.seq (.reg false [
⟨some 24, none, [], .mov (.t 6)⟩,
⟨some 25, none, [], .bin .no .add (.t 24) (.k (.it .i64 1))⟩,
⟨some 4, none, [], .mov (.t 25)⟩,
⟨some 5, none, [], .mov (.k (.bo true))⟩] [])
.ret)
.skip)))))))
(.reg false [
⟨some 13, none, [], .mov (.t 6)⟩,
⟨some 14, none, [], .bin .no .add (.t 13) (.k (.it .i64 1))⟩,
⟨some 6, none, [], .mov (.t 14)⟩] []))))))
(.seq (.reg false [
⟨some 4, none, [], .mov (.k (.it .i64 0))⟩,
⟨some 5, none, [], .mov (.k (.bo false))⟩] [])
.ret)))⟩
def c102 : Ev.Fn := d102.den
def p102 : Pol := { loc := [], md := .pure, mds := mds, heap := [], own := [], ord := [], clr := [], mask := [(2, [0, 6], [])], fns := [] }
theorem r102 : FnOK 102 c102 := fnOK (pol := p102) (d := d102) Try.func102 (by kernel_rfl) (by kernel_rfl) rfl rfl (by kernel_rfl)

/- strings.TrimPrefix -/
def d103 : DFn := ⟨[(.c .one), (.c .one)], [(.c .one)], .pure, [.tmp 4],
(.seq (.reg false [
⟨some 4, none, [], .mov (.k (.st []))⟩] [])
(.seq (.reg false [
⟨some 5, none, [], .mov (.t 0)⟩,
⟨some 6, none, [], .mov (.t 1)⟩,
⟨some 7, none, [], .call false .pure 110 [(.t 5), (.t 6)]⟩,
⟨some 4, none, [], .mov (.t 7)⟩] [])
.ret))⟩
def c103 : Ev.Fn := d103.den
def p103 : Pol := { loc := [], md := .pure, mds := mds, heap := [], own := [], ord := [], clr := [], mask := [], fns := [] }
theorem r103 : FnOK 103 c103 := fnOK (pol := p103) (d := d103) Try.func103 (by kernel_rfl) (by kernel_rfl) rfl rfl (by kernel_rfl)

/- (*strings.Builder).WriteString -/
def d108 : DFn := ⟨[(.c .one), (.c .one)], [(.c .one), (.c .one)], .rw, [.tmp 4, .tmp 5],
(.seq (.reg false [
⟨some 4, none, [], .mov (.k (.it .i64 0))⟩,
⟨some 5, none, [], .mov (.k .nf)⟩] [])
(.seq (.reg false [
⟨some 6, none, [], .mov (.t 0)⟩,
⟨some 7, none, [], .call false .rw 112 [(.t 6)]⟩] [])
(.seq (.reg false [
⟨some 8, none, [], .mov (.t 0)⟩,
⟨some 9, none, [], .mov (.t 0)⟩,
⟨some 10, none, [], .nck (.t 9)⟩,
⟨some 11, none, [], .fad 1 (.t 10)⟩,
⟨some 12, none, [], .ld 1 false (.t 11)⟩,
⟨some 13, none, [], .mov (.t 1)⟩,
⟨some 14, none, [], .app 1 1 (.t 12) (.t 13)⟩,
⟨some 15, none, [], .nck (.t 8)⟩,
⟨some 16, none, [], .fad 1 (.t 15)⟩,
⟨none, none, [], .sto 1 (.t 16) (.t 14)⟩] [])
(.seq (.reg false [
⟨some 17, none, [], .mov (.t 1)⟩,
⟨some 18, none, [], .len true (.t 17)⟩,
⟨some 4, none, [], .mov (.t 18)⟩,
⟨some 5, none, [], .mov (.k .nf)⟩] [])
.ret))))⟩
def c108 : Ev.Fn := d108.den
def p108 : Pol := { loc := [], md := .rw, mds := mds, heap := [14], own := [14], ord := [], clr := [], mask := [], fns := [] }
theorem r108 : FnOK 108 c108 := fnOK (pol := p108) (d := d108) Try.func108 (by kernel_rfl) (by kernel_rfl) rfl rfl (by kernel_rfl)

/- internal/stringslite.TrimPrefix -/
def d110 : DFn := ⟨[(.c .one), (.c .one)], [(.c .one)], .pure, [.tmp 4],
(.seq (.reg false [
⟨some 4, none, [], .mov (.k (.st []))⟩] [])
(.seq (.seq (.reg false [
⟨some 5, none, [], .mov (.t 0)⟩,
⟨some 6, none, [], .mov (.t 1)⟩,
⟨some 7, none, [], .call false .pure 114 [(.t 5), (.t 6)]⟩] [])
(.cond (.t 7)
(.seq (.reg false [
⟨some 8, none, [], .mov (.t 0)⟩,
⟨some 9, none, [], .mov (.t 1)⟩,
⟨some 10, none, [], .len true (.t 9)⟩,
⟨some 11, none, [], .slc true 0 (.t 8) (some (.t 10)) none⟩,
⟨some 4, none, [], .mov (.t 11)⟩] [])
.ret)
.skip))
(.seq (.reg false [
⟨some 12, none, [], .mov (.t 0)⟩,
⟨some 4, none, [], .mov (.t 12)⟩] [])
.ret)))⟩
def c110 : Ev.Fn := d110.den
def p110 : Pol := { loc := [], md := .pure, mds := mds, heap := [], own := [], ord := [], clr := [], mask := [], fns := [] }
theorem r110 : FnOK 110 c110 := fnOK (pol := p110) (d := d110) Try.func110 (by kernel_rfl) (by kernel_rfl) rfl rfl (by kernel_rfl)

/- internal/stringslite.HasPrefix -/
def d114 : DFn := ⟨[(.c .one), (.c .one)], [(.c .one)], .pure, [.tmp 4],
(.seq (.reg false [
⟨some 4, none, [], .mov (.k (.bo false))⟩] [])
(.seq (.reg false [
⟨some 5, none, [], .mov (.t 0)⟩,
⟨some 6, none, [], .len true (.t 5)⟩,
⟨some 7, none, [], .mov (.t 1)⟩,
⟨some 8, none, [], .len true (.t 7)⟩,
⟨some 9, none, [], .bin .no .geq (.t 6) (.t 8)⟩,
⟨some 10, none, [], .mov (.t 9)⟩,
⟨some 11, some (10, true), [], .mov (.t 0)⟩,
⟨some 12, some (10, true), [], .mov (.t 1)⟩,
⟨some 13, some (10, true), [], .len true (.t 12)⟩,
⟨some 14, some (10, true), [], .slc true 0 (.t 11) none (some (.t 13))⟩,
⟨some 15, some (10, true), [], .mov (.t 1)⟩,
⟨some 16, some (10, true), [], .bin .no .eql (.t 14) (.t 15)⟩,
⟨some 17, none, [], .pick (.t 10) (.t 16) (.k (.bo false))⟩,
⟨some 4, none, [], .mov (.t 17)⟩] [])
.ret))⟩
def c114 : Ev.Fn := d114.den
def p114 : Pol := { loc := [], md := .pure, mds := mds, heap := [], own := [], ord := [], clr := [], mask := [], fns := [] }
theorem r114 : FnOK 114 c114 := fnOK (pol := p114) (d := d114) Try.func114 (by kernel_rfl) (by kernel_rfl) rfl rfl (by kernel_rfl)

def tab : List (Option Ev.Fn) := [none, none, none, none, none, none, none, none, none, none, none, none, none, some c13, none, none, none, some c17, none, none, none, none, none, none, none, none, some c26, none, none, none, none, none, none, none, none, none, none, none, none, none, none, none, none, none, none, some c45, some c46, some c47, some c48, some c49, some c50, some c51, none, none, none, none, none, none, none, none, none, none, none, none, none, none, none, none, none, none, none, none, none, none, none, none, some c76, some c77, none, some c79, some c80, some c81, some c82, some c83, some c84, none, none, none, none, none, none, none, none, none, none, none, none, none, none, some c99, some c100, some c101, some c102, some c103, none, none, none, none, some c108, none, some c110, none, none, none, some c114]
def F (n : Nat) : Option Ev.Fn := (tab[n]?).join

inductive Good : Nat → List (Option Ev.Fn) → Prop
  | nil (k : Nat) : Good k []
  | none {k : Nat} {l : List (Option Ev.Fn)} (h : Good (k + 1) l) : Good k (none :: l)
  | some {k : Nat} {c : Ev.Fn} {l : List (Option Ev.Fn)} (h : FnOK k c) (t : Good (k + 1) l) : Good k (some c :: l)

theorem Good.get {k : Nat} {l : List (Option Ev.Fn)} (h : Good k l) : ∀ (n : Nat) (c : Ev.Fn), (l[n]?).join = Option.some c → FnOK (k + n) c := by
  induction h with
  | nil k => intro n c h; simp at h
  | none h ih =>
    intro n c hc
    cases n with
    | zero => simp at hc
    | succ n => have := ih n c (by simpa using hc); rw [Nat.add_assoc, Nat.add_comm 1 n] at this; exact this
  | some h t ih =>
    intro n c hc
    cases n with
    | zero => simp at hc; subst hc; exact h
    | succ n => have := ih n c (by simpa using hc); rw [Nat.add_assoc, Nat.add_comm 1 n] at this; exact this

theorem good : Good 0 tab := by
  unfold tab
  refine .none ?_
  refine .none ?_
  refine .none ?_
  refine .none ?_
  refine .none ?_
  refine .none ?_
  refine .none ?_
  refine .none ?_
  refine .none ?_
  refine .none ?_
  refine .none ?_
  refine .none ?_
  refine .none ?_
  refine .some r13 ?_
  refine .none ?_
  refine .none ?_
  refine .none ?_
  refine .some r17 ?_
  refine .none ?_
  refine .none ?_
  refine .none ?_
  refine .none ?_
  refine .none ?_
  refine .none ?_
  refine .none ?_
  refine .none ?_
  refine .some r26 ?_
  refine .none ?_
  refine .none ?_
  refine .none ?_
  refine .none ?_
  refine .none ?_
  refine .none ?_
  refine .none ?_
  refine .none ?_
  refine .none ?_
  refine .none ?_
  refine .none ?_
  refine .none ?_
  refine .none ?_
  refine .none ?_
  refine .none ?_
  refine .none ?_
  refine .none ?_
  refine .none ?_
  refine .some r45 ?_
  refine .some r46 ?_
  refine .some r47 ?_
  refine .some r48 ?_
  refine .some r49 ?_
  refine .some r50 ?_
  refine .some r51 ?_
  refine .none ?_
  refine .none ?_
  refine .none ?_
  refine .none ?_
  refine .none ?_
  refine .none ?_
  refine .none ?_
  refine .none ?_
  refine .none ?_
  refine .none ?_
  refine .none ?_
  refine .none ?_
  refine .none ?_
  refine .none ?_
  refine .none ?_
  refine .none ?_
  refine .none ?_
  refine .none ?_
  refine .none ?_
  refine .none ?_
  refine .none ?_
  refine .none ?_
  refine .none ?_
  refine .none ?_
  refine .some r76 ?_
  refine .some r77 ?_
  refine .none ?_
  refine .some r79 ?_
  refine .some r80 ?_
  refine .some r81 ?_
  refine .some r82 ?_
  refine .some r83 ?_
  refine .some r84 ?_
  refine .none ?_
  refine .none ?_
  refine .none ?_
  refine .none ?_
  refine .none ?_
  refine .none ?_
  refine .none ?_
  refine .none ?_
  refine .none ?_
  refine .none ?_
  refine .none ?_
  refine .none ?_
  refine .none ?_
  refine .none ?_
  refine .some r99 ?_
  refine .some r100 ?_
  refine .some r101 ?_
  refine .some r102 ?_
  refine .some r103 ?_
  refine .none ?_
  refine .none ?_
  refine .none ?_
  refine .none ?_
  refine .some r108 ?_
  refine .none ?_
  refine .some r110 ?_
  refine .none ?_
  refine .none ?_
  refine .none ?_
  refine .some r114 ?_
  exact .nil _

theorem table : Table Try.prog F mds where
  mixed := by kernel_rfl
  fns := fun f fn h => by
    have := good.get f fn h
    rw [Nat.zero_add] at this
    exact this

end Go.Proofs.Ytcbiplmgaiipgaa.tabSafe
