import Derived.Test.YtmlmljnjgoekiaaGreatDoorHand
import Derived.Test.YtmlmljnjgoekiaaGreatDoorRows
import Derived.KernelRfl
set_option linter.unusedVariables false
set_option linter.unusedSimpArgs false
set_option linter.unusedSectionVars false
/- the functions of the seat, read off the program -/
namespace Go.Proofs.YtmlmljnjgoekiaaGreatDoor.tab
open Go hiding Fn
open Ev

abbrev mV (d s : Nat) : DOp := ⟨some d, none, [], .mov (.t s)⟩
abbrev fA (d o s : Nat) : DOp := ⟨some d, none, [], .fad o (.t s)⟩
abbrev lD (d n s : Nat) : DOp := ⟨some d, none, [], .ld n false (.t s)⟩
abbrev lQ (d n s : Nat) : DOp := ⟨some d, none, [], .ld n true (.t s)⟩
abbrev nK (d s : Nat) : DOp := ⟨some d, none, [], .nck (.t s)⟩
abbrev sO (n a s : Nat) : DOp := ⟨none, none, [], .sto n (.t a) (.t s)⟩
abbrev eX (d s i : Nat) : DOp := ⟨some d, none, [], .ext (.t s) i⟩
abbrev mK (d : Nat) (v : V) : DOp := ⟨some d, none, [], .mov (.k v)⟩
abbrev cR (d f : Nat) (l : List A) : DOp := ⟨some d, none, [], .call false .rw f l⟩
abbrev cP (d f : Nat) (l : List A) : DOp := ⟨some d, none, [], .call false .pure f l⟩
abbrev lN (d : Nat) (q : Bool) (s : Nat) : DOp := ⟨some d, none, [], .len q (.t s)⟩
abbrev cV (d : Nat) (k : IntKind) (s : Nat) : DOp := ⟨some d, none, [], .cnv (.int k) (.t s)⟩
def mdl : List Md := [.pure, .pure, .pure, .pure, .pure, .pure, .pure, .pure, .pure, .pure, .pure, .pure, .pure, .pure, .pure, .rw, .pure, .pure, .pure, .pure, .rw, .rw, .rw, .pure, .rw, .rw, .rw, .pure, .rw, .pure, .rw, .pure, .pure, .pure, .pure, .pure, .pure, .rw, .pure, .rw, .rw, .rw, .rw, .rw, .rw, .rw, .pure, .rw, .rw, .rw, .rw, .pure, .rw, .rw, .rw, .rw, .rw, .rw, .rw, .rw, .rw, .pure, .pure, .pure, .pure, .rw, .pure, .pure, .pure, .rw, .rw, .rw, .pure, .rw, .rw, .rw, .rw, .rw, .rw, .rw, .rw, .rw, .rw, .rw, .rw, .pure, .rw, .pure, .pure, .pure, .pure, .pure, .pure, .pure, .pure, .pure, .pure, .rw, .rw, .pure, .pure, .pure, .rw, .rw, .rw, .pure, .pure, .pure, .rw, .rw, .rw, .rw, .pure, .rw, .rw, .rw, .pure, .pure, .rw, .rw, .pure, .rw, .rw, .rw, .ro, .rw, .pure, .pure, .pure, .pure, .pure, .pure, .pure, .pure, .pure, .pure, .rw, .rw, .rw, .rw, .rw, .pure, .rw, .pure, .pure, .rw, .rw, .rw, .rw, .rw, .rw, .rw, .rw, .rw, .rw, .rw, .rw, .rw, .pure, .rw, .pure, .pure, .rw, .rw, .rw, .rw, .rw, .rw, .pure, .rw, .pure, .pure, .pure, .pure, .rw, .pure, .rw, .pure, .pure, .rw, .rw, .rw, .rw, .rw, .rw, .rw, .rw, .rw, .pure, .pure, .pure, .pure, .rw, .rw, .rw, .rw, .rw, .pure, .pure, .rw, .pure, .pure, .rw, .rw, .rw, .rw, .rw, .rw, .pure, .rw, .rw, .rw, .pure, .pure, .rw, .rw, .rw, .rw, .rw, .rw, .rw, .rw, .rw, .rw, .rw, .pure, .pure, .pure, .pure, .pure, .pure, .rw, .pure, .pure, .rw, .rw, .rw, .rw, .pure, .pure, .pure, .pure, .pure, .pure, .rw, .pure, .pure, .pure, .rw, .rw, .rw, .rw, .rw, .rw, .rw, .rw, .pure, .rw, .pure, .pure, .rw, .rw, .pure, .rw, .pure, .pure, .rw, .rw, .rw, .rw, .rw, .rw, .pure, .pure, .pure, .pure, .pure, .pure, .pure, .pure, .pure, .pure, .pure, .rw, .rw, .rw, .rw, .pure, .rw, .rw, .pure, .pure, .rw, .pure, .pure, .rw, .rw, .pure, .rw, .pure, .pure, .pure, .pure, .pure, .pure, .rw, .pure, .rw, .pure, .pure, .pure, .pure, .pure, .pure, .pure, .pure, .rw, .pure, .pure, .rw, .pure, .pure, .pure, .pure, .rw, .rw, .rw, .pure, .rw, .rw, .rw, .pure, .pure, .rw, .pure, .pure, .ro, .pure, .pure, .pure, .pure, .rw, .pure, .rw, .pure, .pure, .pure, .pure, .pure, .pure, .pure, .pure, .rw, .rw, .rw, .rw, .rw, .pure, .pure, .rw, .pure, .rw, .rw, .pure, .pure, .pure, .pure, .pure, .pure, .pure, .pure, .rw, .rw, .pure, .rw, .pure, .pure, .pure, .pure, .pure, .pure, .pure, .pure, .pure, .rw, .rw, .rw, .pure, .pure, .rw, .pure, .pure, .pure, .pure, .pure, .pure, .pure, .pure, .rw, .rw, .rw, .rw, .rw, .rw, .rw, .rw, .ro, .rw, .rw, .pure, .rw, .rw, .pure, .pure, .pure, .pure, .pure, .pure, .pure, .pure, .pure, .pure, .pure]
def mds (n : Nat) : Md := mdl.getD n .rw
abbrev o (d : Nat) (i : I) : DOp := ⟨some d, none, [], i⟩
abbrev u (d : Nat) (l : List Nat) (i : I) : DOp := ⟨some d, none, l, i⟩
abbrev w (d g : Nat) (i : I) : DOp := ⟨some d, some (g, true), [], i⟩
abbrev x (d g : Nat) (i : I) : DOp := ⟨some d, some (g, false), [], i⟩
abbrev n (i : I) : DOp := ⟨none, none, [], i⟩
abbrev s (l : List DOp) (c : C) : C := .seq (.reg false l []) c
abbrev r (l : List DOp) : C := .reg false l []
abbrev t (n : Nat) : A := .t n
abbrev k (n : Nat) : A := .k (.it .i64 (Int.ofNat n))
abbrev b (o : BinOp) (x y : A) : I := .bin .no o x y
abbrev P0 (m : Md) : Pol := { loc := [], md := m, mds := mds, heap := [], own := [], ord := [], clr := [], mask := [] }

def d3 : DFn := ⟨[], [(.c .one)], .pure, [.tmp 0],
(s [mK 0 (.bo false)]
(s [o 12 (.call false .pure 7 [(.k (.st [58, 112, 97, 116, 104])), (.k (.st [47, 97, 32, 98]))]), o 13 (.bsv [.one, .one, .one] 3 [[(.st []), (.st []), (.it .i64 0)]] [(0, (t 12))]), o 14 (.bld [(.it .i64 0), (.it .i64 0), (.it .i64 0), (.it .i64 0), .ns, (.st []), (.bo false)] [(0, 1, (k 2)), (6, 1, (.k (.bo true))), (4, 1, (t 13))]), cP 15 6 [t 14], mV 1 15]
(s [o 16 (.bld [(.it .i64 0), (.it .i64 0), (.it .i64 0), (.it .i64 0), .ns, (.st []), (.bo false)] [(0, 1, (k 3)), (1, 1, (k 1)), (3, 1, (k 3)), (5, 1, (.k (.st [120, 61])))]), cP 17 6 [t 16], mV 2 17]
(s [o 19 (.call false .pure 8 [(.k (.st [111, 112, 101, 110, 32, 48, 49]))]), mV 18 19, eX 20 18 0, eX 21 18 1, o 3 (.alc [(.it .i64 0), (.it .i64 0), (.it .i64 0), (.it .i64 0), .ns, (.st []), (.bo false)]), sO 7 3 20, mV 4 21]
(s [o 23 (.call false .pure 8 [(.k (.st [111, 112, 101, 110, 32, 49, 32]))]), mV 22 23, eX 24 22 0, eX 25 22 1, o 5 (.alc [(.it .i64 0), (.it .i64 0), (.it .i64 0), (.it .i64 0), .ns, (.st []), (.bo false)]), sO 7 5 24, mV 6 25]
(s [o 27 (.call false .pure 8 [(.k (.st [116, 101, 120, 116, 32, 49, 32, 51, 32, 111, 110, 32, 61, 37, 50, 70]))]), mV 26 27, eX 28 26 0, eX 29 26 1, o 7 (.alc [(.it .i64 0), (.it .i64 0), (.it .i64 0), (.it .i64 0), .ns, (.st []), (.bo false)]), sO 7 7 28, mV 8 29]
(s [o 31 (.bld [(.it .i64 0), (.it .i64 0), (.it .i64 0)] [(0, 1, (k 2)), (1, 1, (k 65535)), (2, 1, (k 65536))]), o 32 (.bld [(.it .i64 0), (.fl .f64 0), (.it .i64 0), (.it .i64 0), (.it .i64 0), (.it .i64 0), (.it .i64 0)] [(0, 1, (k 10000)), (1, 1, (.k (.fl .f64 4591870180066957722))), (2, 3, (t 31)), (5, 1, (k 4)), (6, 1, (k 1))]), o 33 (.call false .pure 9 [t 32, (.k (.st [111, 112, 101, 110, 32, 48, 10]))]), mV 30 33, eX 34 30 0, eX 35 30 1, eX 36 30 2, mV 9 34, mV 10 35, mV 11 36]
(s [mV 37 1, o 38 (b .eql (t 37) (.k (.st [97, 115, 107, 32, 48, 32, 101, 110, 100, 32, 61, 32, 49, 61, 58, 112, 97, 116, 104, 61, 47, 97, 37, 50, 48, 98]))), mV 39 38, w 40 39 (.mov (t 2)), w 41 39 (b .eql (t 40) (.k (.st [116, 101, 120, 116, 32, 49, 32, 51, 32, 111, 110, 32, 61, 120, 37, 51, 100]))), o 42 (.pick (t 39) (t 41) (.k (.bo false))), mV 43 42, w 44 43 (.mov (t 4)), w 45 43 (b .eql (t 44) (k 4)), o 46 (.pick (t 43) (t 45) (.k (.bo false))), mV 47 46, w 48 47 (.mov (t 6)), w 49 47 (b .eql (t 48) (k 4)), o 50 (.pick (t 47) (t 49) (.k (.bo false))), mV 51 50, w 52 51 (.mov (t 8)), w 53 51 (b .eql (t 52) (k 4)), o 54 (.pick (t 51) (t 53) (.k (.bo false))), mV 55 54, w 56 55 (.mov (t 9)), w 57 55 (b .eql (t 56) (.k (.st [121, 101, 115, 32, 48, 32, 48, 10]))), o 58 (.pick (t 55) (t 57) (.k (.bo false))), mV 59 58, w 60 59 (.mov (t 10)), w 61 59 (b .eql (t 60) (k 0)), o 62 (.pick (t 59) (t 61) (.k (.bo false))), mV 63 62, w 64 63 (.mov (t 11)), w 65 63 (b .eql (t 64) (k 0)), o 66 (.pick (t 63) (t 65) (.k (.bo false))), mV 0 66]
.ret))))))))⟩
def c3 : Ev.Fn := d3.den
def p3 : Pol := { P0 .pure with loc := [3, 5, 7], ord := [(3, [4, 0, 1, 2, 3, 5, 6]), (4, [4, 0, 1, 2, 3, 5, 6]), (5, [4, 0, 1, 2, 3, 5, 6])] }
theorem r3 : FnOK Tryz.prog mds 3 c3 := .read (pol := p3) (d := d3) Tryz.func3 (by kernel_rfl) (by kernel_rfl) rfl rfl (by kernel_rfl)

def d6 : DFn := ⟨[(.g [.one, .one, .one, .one, (.sl [.one, .one, .one]), .one, .one])], [(.c .one)], .pure, [.tmp 2],
(s [o 1 (.bxh (t 0)), mK 2 (.st [])]
(s [fA 13 0 1, lD 14 1 13, cP 15 14 [t 14], mV 3 15]
(.seq (s [mV 16 3, o 17 (b .eql (t 16) (.k (.st [])))]
(.cond (t 17)
(s [mK 2 (.st [])]
.ret)
.skip))
(s [mV 18 3, o 19 (.bsl 1 [[(.st [])]] [(0, (t 18))]), mV 4 19]
(s [fA 21 0 1, lD 22 1 21, cR 23 15 [t 22, t 1], mV 20 23, eX 24 20 0, eX 25 20 1, eX 26 20 2, mV 5 24, mV 6 25, mV 7 26]
(.seq (s [mV 27 5, lN 28 false 27, mK 29 (.it .i64 0)]
(.blk 0 (.loop [1, 4, 6, 7, 27, 28, 29] [12]
(s [o 30 (b .lss (t 29) (t 28))]
(.seq (.cond (t 30)
.skip
(.exit 0))
(.seq (.blk 1 (s [o 31 (.ias 1 (t 27) (t 29)), lD 32 1 31, mV 9 32]
(r [mV 33 4, mV 34 9, nK 35 34, lD 36 1 35, cP 37 16 [t 36], o 38 (.bsv [.one] 1 [[(.st [])]] [(0, (t 37))]), o 39 (.app 1 16 (t 33) (t 38)), mV 4 39])))
(r [o 40 (b .add (t 29) (k 1)), mV 29 40])))))))
(.seq (s [mV 41 6]
(.cond (t 41)
(s [mK 10 (.st [111, 110])]
(.seq (s [fA 42 6 1, lD 43 1 42]
(.cond (t 43)
(r [mK 10 (.st [101, 110, 100])])
.skip))
(r [mV 44 4, mV 45 10, fA 46 5 1, lD 47 1 46, cP 48 17 [t 47], o 49 (b .add (.k (.st [61])) (t 48)), o 50 (.bsv [.one] 1 [[(.st [])], [(.st [])]] [(0, (t 45)), (1, (t 49))]), o 51 (.app 1 16 (t 44) (t 50)), mV 4 51])))
.skip))
(.seq (s [mV 52 7]
(.cond (t 52)
(s [fA 53 4 1, lD 54 1 53, lN 55 false 54, mK 56 (.it .i64 0)]
(.blk 2 (.loop [4, 54, 55, 56] [12]
(s [o 57 (b .lss (t 56) (t 55))]
(.seq (.cond (t 57)
.skip
(.exit 2))
(.seq (.blk 3 (s [o 58 (.ias 3 (t 54) (t 56)), lQ 59 3 58, o 12 (.alc [(.st []), (.st []), (.it .i64 0)]), sO 3 12 59]
(.reg true [
mV 60 4, fA 61 2 12, lD 62 1 61, fA 65 0 12, fA 66 0 65, lD 67 1 66, fA 71 0 12, fA 72 1 71, lD 73 1 72, cP 63 16 [t 62], o 64 (b .add (t 63) (.k (.st [61]))), cP 68 17 [t 67], o 69 (b .add (t 64) (t 68)), o 70 (b .add (t 69) (.k (.st [61]))), cP 74 17 [t 73], o 75 (b .add (t 70) (t 74)), o 76 (.bsv [.one] 1 [[(.st [])]] [(0, (t 75))]), o 77 (.app 1 16 (t 60) (t 76)), mV 4 77] [61, 65, 66, 71, 72])))
(r [o 78 (b .add (t 56) (k 1)), mV 56 78])))))))
.skip))
(s [mV 79 4, o 80 (.call false .pure 18 [t 79, (.k (.st [32]))]), mV 2 80]
.ret)))))))))⟩
def c6 : Ev.Fn := d6.den
def p6 : Pol := { P0 .pure with loc := [12], heap := [19, 39, 51, 77], own := [19, 39, 51, 77], ord := [(0, [1, 0]), (20, [0, 1, 2, 5, 6, 7, 11, 12, 13, 3, 4, 8, 9, 10, 14, 15, 16, 17, 18])], clr := [(20, [61, 65, 66, 71, 72])], mask := [(7, [1, 4, 6, 7, 27, 28, 29], [12]), (18, [4, 54, 55, 56], [12])] }
theorem r6 : FnOK Tryz.prog mds 6 c6 := .read (pol := p6) (d := d6) Tryz.func6 (by kernel_rfl) (by kernel_rfl) rfl rfl (by kernel_rfl)

def d7 : DFn := ⟨[(.c .one), (.c .one)], [(.g [.one, .one, .one])], .pure, [.cell 4 3 true],
(s [o 4 (.alc [(.st []), (.st []), (.it .i64 0)])]
(s [mV 5 0, mV 6 1, o 7 (.bld [(.st []), (.st [])] [(0, 1, (t 5)), (1, 1, (t 6))]), o 8 (.bld [(.st []), (.st []), (.it .i64 0)] [(0, 2, (t 7)), (2, 1, (k 1))]), sO 3 4 8]
.ret))⟩
def c7 : Ev.Fn := d7.den
def p7 : Pol := { P0 .pure with loc := [4] }
theorem r7 : FnOK Tryz.prog mds 7 c7 := .read (pol := p7) (d := d7) Tryz.func7 (by kernel_rfl) (by kernel_rfl) rfl rfl (by kernel_rfl)

def d8 : DFn := ⟨[(.c .one)], [(.g [.one, .one, .one, .one, (.sl [.one, .one, .one]), .one, .one]), (.c .one)], .pure, [.cell 2 7 true, .tmp 3],
(s [o 2 (.alc [(.it .i64 0), (.it .i64 0), (.it .i64 0), (.it .i64 0), .ns, (.st []), (.bo false)]), mK 3 (.it .i64 0)]
(.seq (s [mV 8 0, lN 9 true 8, o 10 (b .gtr (t 9) (k 65536))]
(.cond (t 10)
(s [o 11 (.bld [(.it .i64 0), (.it .i64 0), (.it .i64 0), (.it .i64 0), .ns, (.st []), (.bo false)] []), sO 7 2 11, mK 3 (.it .i64 2)]
.ret)
.skip))
(s [o 4 (.alh [(.it .i64 0), (.it .i64 0), (.it .i64 0), (.it .i64 0), .ns, (.st []), (.bo false)])]
(s [mV 12 0, o 13 (.call false .pure 19 [t 12, (.k (.st [32]))]), o 14 (.bld [.ns] [(0, 1, (t 13))]), o 15 (.bxh (t 14)), o 5 (.alh [.np]), sO 1 5 15]
(.seq (s [o 17 (.mkf 21 [] [t 5, t 4]), cR 18 20 [t 17], mV 16 18, eX 19 16 0, eX 20 16 1, o 6 (.alc [(.it .i64 0), (.it .i64 0)]), sO 2 6 19, mV 7 20]
(s [mV 21 7]
(.cond (t 21)
(.seq (.reg true [
o 22 (.bld [(.it .i64 0), (.it .i64 0), (.it .i64 0), (.it .i64 0), .ns, (.st []), (.bo false)] []), fA 23 0 6, lD 24 1 23, ⟨none, none, [23], .sto 7 (t 2) (t 22)⟩, mV 3 24] [23])
.ret)
.skip)))
(s [lQ 25 7 4, sO 7 2 25, mK 3 (.it .i64 0)]
.ret))))))⟩
def c8 : Ev.Fn := d8.den
def p8 : Pol := { P0 .pure with loc := [2, 6], ord := [(0, [1, 0]), (4, [0, 4, 1, 2, 3, 5]), (5, [0, 5, 1, 2, 3, 4, 6, 7])], clr := [(7, [23])], fns := [21] }
theorem r8 : FnOK Tryz.prog mds 8 c8 := .read (pol := p8) (d := d8) Tryz.func8 (by kernel_rfl) (by kernel_rfl) rfl rfl (by kernel_rfl)

def d14 : DFn := ⟨[(.c .one)], [(.c .one)], .pure, [.tmp 2],
(s [mK 2 (.st [])]
(.seq (s [mV 3 0]
(.blk 0 (s [o 5 (b .eql (t 3) (k 1)), mV 4 5]
(.cond (t 4)
(s [mK 2 (.st [111, 112, 101, 110])]
.ret)
(s [o 7 (b .eql (t 3) (k 2)), mV 6 7]
(.cond (t 6)
(s [mK 2 (.st [97, 115, 107])]
.ret)
(s [o 9 (b .eql (t 3) (k 3)), mV 8 9]
(.cond (t 8)
(s [mK 2 (.st [116, 101, 120, 116])]
.ret)
(s [o 11 (b .eql (t 3) (k 4)), mV 10 11]
(.cond (t 10)
(s [mK 2 (.st [99, 97, 110, 99, 101, 108])]
.ret)
(s [o 13 (b .eql (t 3) (k 5)), mV 12 13]
(.cond (t 12)
(s [mK 2 (.st [99, 108, 111, 115, 101])]
.ret)
(s [o 15 (b .eql (t 3) (k 6)), mV 14 15]
(.cond (t 14)
(s [mK 2 (.st [97, 110, 115, 119, 101, 114])]
.ret)
(s [o 17 (b .eql (t 3) (k 7)), mV 16 17]
(.cond (t 16)
(s [mK 2 (.st [109, 111, 114, 101])]
.ret)
(s [o 19 (b .eql (t 3) (k 8)), mV 18 19]
(.cond (t 18)
(s [mK 2 (.st [98, 114, 101, 97, 107])]
.ret)
(s [o 21 (b .eql (t 3) (k 9)), mV 20 21]
(.cond (t 20)
(s [mK 2 (.st [99, 117, 116])]
.ret)
(s [o 23 (b .eql (t 3) (k 10)), mV 22 23]
(.cond (t 22)
(s [mK 2 (.st [115, 101, 110, 100])]
.ret)
(s [o 25 (b .eql (t 3) (k 11)), mV 24 25]
(.cond (t 24)
(s [mK 2 (.st [104, 101, 97, 114])]
.ret)
(s [o 27 (b .eql (t 3) (k 12)), mV 26 27]
(.cond (t 26)
(s [mK 2 (.st [112, 97, 115, 115])]
.ret)
(s [o 29 (b .eql (t 3) (k 13)), mV 28 29]
(.cond (t 28)
(s [mK 2 (.st [114, 101, 112, 108, 121])]
.ret)
(s [o 31 (b .eql (t 3) (k 14)), mV 30 31]
(.cond (t 30)
(s [mK 2 (.st [99, 108, 111, 99, 107])]
.ret)
.skip))))))))))))))))))))))))))))))
(s [mK 2 (.st [])]
.ret)))⟩
def c14 : Ev.Fn := d14.den
def p14 : Pol := P0 .pure
theorem r14 : FnOK Tryz.prog mds 14 c14 := .read (pol := p14) (d := d14) Tryz.func14 (by kernel_rfl) (by kernel_rfl) rfl rfl (by kernel_rfl)

def d15 : DFn := ⟨[(.c .one), (.c .one)], [(.c (.sl [.one])), (.c .one), (.c .one)], .rw, [.tmp 4, .tmp 5, .tmp 6],
(s [mK 4 .ns, mK 5 (.bo false), mK 6 (.bo false)]
(.seq (s [mV 7 0]
(.blk 0 (.seq (s [o 9 (b .eql (t 7) (k 1)), mV 8 9]
(.cond (t 8)
.skip
(s [o 10 (b .eql (t 7) (k 5)), mV 8 10]
(.cond (t 8)
.skip
(r [o 11 (b .eql (t 7) (k 9)), mV 8 11])))))
(.cond (t 8)
(s [mV 12 1, nK 13 12, fA 14 1 13, o 15 (.bsl 1 [[.np]] [(0, (t 14))]), mV 4 15, mK 5 (.bo false), mK 6 (.bo false)]
.ret)
(s [o 17 (b .eql (t 7) (k 14)), mV 16 17]
(.cond (t 16)
(s [mV 18 1, nK 19 18, fA 20 2 19, o 21 (.bsl 1 [[.np]] [(0, (t 20))]), mV 4 21, mK 5 (.bo false), mK 6 (.bo false)]
.ret)
(.seq (s [o 23 (b .eql (t 7) (k 10)), mV 22 23]
(.cond (t 22)
.skip
(s [o 24 (b .eql (t 7) (k 11)), mV 22 24]
(.cond (t 22)
.skip
(s [o 25 (b .eql (t 7) (k 12)), mV 22 25]
(.cond (t 22)
.skip
(r [o 26 (b .eql (t 7) (k 13)), mV 22 26])))))))
(.cond (t 22)
(.seq (.reg true [
mV 27 1, nK 28 27, fA 29 1 28, mV 30 1, nK 31 30, fA 32 2 31, o 33 (.bsl 1 [[.np], [.np]] [(0, (t 29)), (1, (t 32))]), mV 4 33, mK 5 (.bo false), mK 6 (.bo false)] [])
.ret)
(.seq (s [o 35 (b .eql (t 7) (k 4)), mV 34 35]
(.cond (t 34)
.skip
(r [o 36 (b .eql (t 7) (k 8)), mV 34 36])))
(.cond (t 34)
(.seq (.reg true [
mV 37 1, nK 38 37, fA 39 1 38, mV 40 1, nK 41 40, fA 42 3 41, o 43 (.bsl 1 [[.np], [.np]] [(0, (t 39)), (1, (t 42))]), mV 4 43, mK 5 (.bo false), mK 6 (.bo false)] [])
.ret)
(.seq (s [o 45 (b .eql (t 7) (k 3)), mV 44 45]
(.cond (t 44)
.skip
(r [o 46 (b .eql (t 7) (k 7)), mV 44 46])))
(.cond (t 44)
(.seq (.reg true [
mV 47 1, nK 48 47, fA 49 1 48, mV 50 1, nK 51 50, fA 52 3 51, o 53 (.bsl 1 [[.np], [.np]] [(0, (t 49)), (1, (t 52))]), mV 4 53, mK 5 (.bo true), mK 6 (.bo false)] [])
.ret)
(s [o 55 (b .eql (t 7) (k 2)), mV 54 55]
(.cond (t 54)
(s [mV 56 1, nK 57 56, fA 58 1 57, o 59 (.bsl 1 [[.np]] [(0, (t 58))]), mV 4 59, mK 5 (.bo true), mK 6 (.bo true)]
.ret)
.skip))))))))))))))
(.seq (.reg true [
mV 60 1, nK 61 60, fA 62 1 61, mV 63 1, nK 64 63, fA 65 3 64, o 66 (.bsl 1 [[.np], [.np]] [(0, (t 62)), (1, (t 65))]), mV 4 66, mK 5 (.bo true), mK 6 (.bo true)] [])
.ret)))⟩
def c15 : Ev.Fn := d15.den
def p15 : Pol := { P0 .rw with heap := [15, 21, 33, 43, 53, 59, 66], own := [15, 21, 33, 43, 53, 59, 66] }
theorem r15 : FnOK Tryz.prog mds 15 c15 := .read (pol := p15) (d := d15) Tryz.func15 (by kernel_rfl) (by kernel_rfl) rfl rfl (by kernel_rfl)

def d17 : DFn := ⟨[(.c .one)], [(.c .one)], .pure, [.tmp 2],
(s [mK 2 (.st [])]
(s [mK 3 .ns]
(.seq (s [mV 6 0, lN 7 true 6, mK 8 (.it .i64 0)]
(.blk 0 (.loop [0, 3, 7, 8] []
(s [o 9 (b .lss (t 8) (t 7))]
(.seq (.cond (t 9)
.skip
(.exit 0))
(.seq (.blk 1 (s [mV 10 8, mV 4 10]
(s [mV 11 0, mV 12 4, o 13 (.ixs (t 11) (t 12)), mV 5 13]
(s [mV 14 5, cP 15 36 [t 14]]
(.cond (t 15)
(r [mV 16 3, mV 17 5, o 18 (.bsv [.one] 1 [[(.it .u8 0)]] [(0, (t 17))]), o 19 (.app 1 1 (t 16) (t 18)), mV 3 19])
(.reg true [
mV 20 3, mV 21 5, o 22 (b .shr (t 21) (.k (.it .u64 4))), o 23 (.ixs (.k (.st [48, 49, 50, 51, 52, 53, 54, 55, 56, 57, 97, 98, 99, 100, 101, 102])) (t 22)), mV 24 5, o 25 (b .and (t 24) (.k (.it .u8 15))), o 26 (.ixs (.k (.st [48, 49, 50, 51, 52, 53, 54, 55, 56, 57, 97, 98, 99, 100, 101, 102])) (t 25)), o 27 (.bsv [.one] 1 [[(.it .u8 0)], [(.it .u8 0)], [(.it .u8 0)]] [(0, (.k (.it .u8 37))), (1, (t 23)), (2, (t 26))]), o 28 (.app 1 1 (t 20) (t 27)), mV 3 28] []))))))
(r [o 29 (b .add (t 8) (k 1)), mV 8 29])))))))
(s [mV 30 3, o 31 (.cnv .b2s (t 30)), mV 2 31]
.ret))))⟩
def c17 : Ev.Fn := d17.den
def p17 : Pol := { P0 .pure with heap := [19, 28], own := [19, 28], mask := [(3, [0, 3, 7, 8], [])] }
theorem r17 : FnOK Tryz.prog mds 17 c17 := .read (pol := p17) (d := d17) Tryz.func17 (by kernel_rfl) (by kernel_rfl) rfl rfl (by kernel_rfl)

def d19 : DFn := ⟨[(.c .one), (.c .one)], [(.c (.sl [.one]))], .pure, [.tmp 4],
(s [mK 4 .ns]
(s [mV 5 0, mV 6 1, cP 7 38 [t 5, t 6, (k 0), (.k (.it .i64 (-1)))], mV 4 7]
.ret))⟩
def c19 : Ev.Fn := d19.den
def p19 : Pol := P0 .pure
theorem r19 : FnOK Tryz.prog mds 19 c19 := .read (pol := p19) (d := d19) Tryz.func19 (by kernel_rfl) (by kernel_rfl) rfl rfl (by kernel_rfl)

def d21 : DFn := ⟨[(.c .one), (.c .one)], [], .rw, [],
(r [lD 2 1 0, o 3 (.call true .rw 22 [t 2]), sO 7 1 3])⟩
def c21 : Ev.Fn := d21.den
def p21 : Pol := { P0 .rw with heap := [3], own := [3] }
theorem r21 : FnOK Tryz.prog mds 21 c21 := .read (pol := p21) (d := d21) Tryz.func21 (by kernel_rfl) (by kernel_rfl) rfl rfl (by kernel_rfl)

def d22 : DFn := ⟨[(.c .one)], [(.g [.one, .one, .one, .one, (.sl [.one, .one, .one]), .one, .one])], .rw, [.cell 2 7 true],
(s [o 2 (.alc [(.it .i64 0), (.it .i64 0), (.it .i64 0), (.it .i64 0), .ns, (.st []), (.bo false)])]
(s [mV 11 0, cR 12 41 [t 11], cR 13 40 [t 12], o 14 (.bld [(.it .i64 0), (.it .i64 0), (.it .i64 0), (.it .i64 0), .ns, (.st []), (.bo false)] [(0, 1, (t 13))]), o 3 (.alh [(.it .i64 0), (.it .i64 0), (.it .i64 0), (.it .i64 0), .ns, (.st []), (.bo false)]), sO 7 3 14]
(s [fA 16 0 3, lD 17 1 16, cR 18 15 [t 17, t 3], mV 15 18, eX 19 15 0, eX 20 15 1, eX 21 15 2, mV 4 19, mV 5 20, mV 6 21]
(.seq (s [mV 22 4, lN 23 false 22, mK 24 (.it .i64 0)]
(.blk 0 (.loop [0, 2, 3, 5, 6, 22, 23, 24] []
(s [o 25 (b .lss (t 24) (t 23))]
(.seq (.cond (t 25)
.skip
(.exit 0))
(.seq (.blk 1 (s [o 26 (.ias 1 (t 22) (t 24)), lD 27 1 26, mV 8 27]
(r [mV 28 8, mV 29 0, cR 30 41 [t 29], o 31 (.call true .rw 42 [t 30]), nK 32 28, sO 1 32 31])))
(r [o 33 (b .add (t 24) (k 1)), mV 24 33])))))))
(.seq (s [mV 34 5]
(.cond (t 34)
(s [mV 35 0, cR 36 41 [t 35], mV 9 36]
(s [mV 37 9, o 38 (b .eql (t 37) (.k (.st [111, 110]))), mV 39 38, x 40 39 (.mov (t 9)), x 41 39 (b .eql (t 40) (.k (.st [101, 110, 100]))), o 42 (.pick (t 39) (.k (.bo true)) (t 41)), cR 43 43 [t 42, (k 4), (k 0)]]
(s [mV 44 9, o 45 (b .eql (t 44) (.k (.st [101, 110, 100]))), fA 46 6 3, sO 1 46 45]
(s [mV 47 0, cR 48 41 [t 47], mV 10 48]
(s [mV 49 10, o 50 (b .neq (t 49) (.k (.st []))), mV 51 50, w 52 51 (.mov (t 10)), w 53 51 (.ixs (t 52) (k 0)), w 54 51 (b .eql (t 53) (.k (.it .u8 61))), o 55 (.pick (t 51) (t 54) (.k (.bo false))), cR 56 43 [t 55, (k 4), (k 0)]]
(r [mV 57 10, o 58 (.slc true 0 (t 57) (some (k 1)) none), o 59 (.call true .rw 44 [t 58]), fA 60 5 3, sO 1 60 59]))))))
.skip))
(.seq (.blk 2 (.loop [0, 2, 3, 6] []
(.seq (s [mV 61 6, mV 62 61, w 63 62 (.mov (t 0)), w 64 62 (.nck (t 63)), w 65 62 (.fad 0 (t 64)), w 66 62 (.ld 1 false (t 65)), w 67 62 (.len false (t 66)), w 68 62 (b .gtr (t 67) (k 0)), o 69 (.pick (t 62) (t 68) (.k (.bo false)))]
(.cond (t 69)
.skip
(.exit 2)))
(.blk 3 (.reg true [
fA 70 4 3, lD 71 1 70, mV 72 0, u 73 [70] (.call false .rw 41 [t 72]), u 74 [70] (.call false .rw 45 [t 73]), o 75 (.bsv [.one, .one, .one] 3 [[(.st []), (.st []), (.it .i64 0)]] [(0, (t 74))]), o 76 (.app 3 40 (t 71) (t 75)), fA 77 4 3, sO 1 77 76] [])))))
(s [mV 78 0, nK 79 78, fA 80 0 79, lD 81 1 80, lN 82 false 81, o 83 (b .eql (t 82) (k 0)), cR 84 43 [t 83, (k 4), (k 0)]]
(s [lQ 85 7 3, sO 7 2 85]
.ret))))))))⟩
def c22 : Ev.Fn := d22.den
def p22 : Pol := { P0 .rw with loc := [2], heap := [31, 59, 76], own := [31, 59, 76], ord := [(1, [0, 4, 1, 2, 3, 5])], mask := [(4, [0, 2, 3, 5, 6, 22, 23, 24], []), (15, [0, 2, 3, 6], [])] }
theorem r22 : FnOK Tryz.prog mds 22 c22 := .read (pol := p22) (d := d22) Tryz.func22 (by kernel_rfl) (by kernel_rfl) rfl rfl (by kernel_rfl)

def d23 : DFn := ⟨[(.c .one)], [(.c (.sl [.one, .one, .one, .one, (.sl [.one, .one, .one]), .one, .one])), (.c .one), (.c .one)], .pure, [.tmp 2, .tmp 3, .tmp 4],
(s [mK 2 .ns, mK 3 (.it .i64 0), mK 4 (.it .i64 0)]
(s [mK 5 .ns]
(.seq (.blk 0 (.loop [0, 5] [9]
(.seq (s [mV 11 0, o 12 (b .neq (t 11) (.k (.st [])))]
(.cond (t 12)
.skip
(.exit 0)))
(.blk 1 (s [mV 14 0, o 15 (.call false .pure 46 [t 14, (.k (.st [10]))]), mV 13 15, eX 16 13 0, eX 17 13 1, eX 18 13 2, mV 6 16, mV 7 17, mV 8 18]
(s [mV 20 6, cP 21 8 [t 20], mV 19 21, eX 22 19 0, eX 23 19 1, o 9 (.alc [(.it .i64 0), (.it .i64 0), (.it .i64 0), (.it .i64 0), .ns, (.st []), (.bo false)]), sO 7 9 22, mV 10 23]
(.seq (s [mV 24 10, o 25 (b .neq (t 24) (k 0))]
(.cond (t 25)
(s [mV 26 5, lN 27 false 26, mV 28 10, mK 2 .ns, mV 3 27, mV 4 28]
.ret)
.skip))
(r [mV 29 5, lQ 30 7 9, o 31 (.bsl 7 [[(.it .i64 0), (.it .i64 0), (.it .i64 0), (.it .i64 0), .ns, (.st []), (.bo false)]] [(0, (t 30))]), o 32 (.app 7 80 (t 29) (t 31)), mV 33 7, mV 5 32, mV 0 33]))))))))
(s [mV 34 5, mV 2 34, mK 3 (.it .i64 0), mK 4 (.it .i64 0)]
.ret))))⟩
def c23 : Ev.Fn := d23.den
def p23 : Pol := { P0 .pure with loc := [9], heap := [32, 31], own := [32], ord := [(4, [0, 5, 1, 2, 3, 4, 6, 7]), (7, [0, 1, 4, 2, 3, 5, 6])], mask := [(2, [0, 5], [9])] }
theorem r23 : FnOK Tryz.prog mds 23 c23 := .read (pol := p23) (d := d23) Tryz.func23 (by kernel_rfl) (by kernel_rfl) rfl rfl (by kernel_rfl)

def d24 : DFn := ⟨[(.g [.one, .one, .one, .one, .one, .one, .one])], [(.c .one), (.c .one)], .rw, [.tmp 2, .tmp 3],
(s [o 1 (.box (t 0)), mK 2 .np, mK 3 (.it .i64 0)]
(s [lQ 8 7 1, cR 9 47 [t 8], mV 7 9, eX 10 7 0, eX 11 7 1, mV 4 10, mV 5 11]
(.seq (s [mV 12 5, o 13 (b .neq (t 12) (k 0))]
(.cond (t 13)
(s [mV 14 5, mK 2 .np, mV 3 14]
.ret)
.skip))
(s [lQ 15 7 1, mV 16 4, o 17 (.bld [(.it .i64 0), (.fl .f64 0), (.it .i64 0), (.it .i64 0), (.it .i64 0), (.it .i64 0), (.it .i64 0), .np, .ns, .ns, .ns, .ns] [(0, 7, (t 15)), (7, 1, (t 16))]), o 18 (.bxh (t 17)), mV 6 18]
(.seq (s [mK 19 (.it .i64 0)]
(.blk 0 (.loop [6, 19] [1]
(s [o 20 (b .lss (t 19) (k 8))]
(.seq (.cond (t 20)
.skip
(.exit 0))
(.seq (.blk 1 (.reg true [
mV 21 6, mV 22 6, nK 23 22, fA 24 8 23, o 25 (.iaa 2 1 (t 24) (k 0)), lD 26 1 25, o 27 (.bld [.np, (.it .i64 0), .ns] []), nK 31 21, fA 32 8 31, o 28 (.bxh (t 27)), o 29 (.bsl 1 [[.np]] [(0, (t 28))]), o 30 (.app 1 8 (t 26) (t 29)), o 33 (.iaa 2 1 (t 32) (k 0)), sO 1 33 30] []))
(r [o 34 (b .add (t 19) (k 1)), mV 19 34])))))))
(.seq (s [mK 35 (.it .i64 0)]
(.blk 2 (.loop [6, 35] [1]
(s [o 36 (b .lss (t 35) (k 8))]
(.seq (.cond (t 36)
.skip
(.exit 2))
(.seq (.blk 3 (.reg true [
mV 37 6, mV 38 6, nK 39 38, fA 40 8 39, o 41 (.iaa 2 1 (t 40) (k 1)), lD 42 1 41, o 43 (.bld [.np, (.it .i64 0), .ns] []), nK 47 37, fA 48 8 47, o 44 (.bxh (t 43)), o 45 (.bsl 1 [[.np]] [(0, (t 44))]), o 46 (.app 1 8 (t 42) (t 45)), o 49 (.iaa 2 1 (t 48) (k 1)), sO 1 49 46] []))
(r [o 50 (b .add (t 35) (k 1)), mV 35 50])))))))
(s [mV 51 6, mV 2 51, mK 3 (.it .i64 0)]
.ret)))))))⟩
def c24 : Ev.Fn := d24.den
def p24 : Pol := { P0 .rw with loc := [1], heap := [30, 46, 29, 45], own := [30, 46], ord := [(0, [1, 2, 0]), (7, [0, 1, 2, 3, 4, 5, 6, 10, 11, 7, 8, 9, 12, 13]), (11, [0, 1, 2, 3, 4, 5, 6, 10, 11, 7, 8, 9, 12, 13])], mask := [(6, [6, 19], [1]), (10, [6, 35], [1])] }
theorem r24 : FnOK Tryz.prog mds 24 c24 := .read (pol := p24) (d := d24) Tryz.func24 (by kernel_rfl) (by kernel_rfl) rfl rfl (by kernel_rfl)

def d25 : DFn := ⟨[(.c .one), (.g [.one, .one, .one, .one, (.sl [.one, .one, .one]), .one, .one])], [(.g [.one, .one, .one])], .rw, [.cell 4 3 true],
(s [o 3 (.box (t 1)), o 4 (.alc [(.bo false), (.it .i64 0), (.it .i64 0)])]
(.seq (.seq (.reg false [
fA 6 0 3, lD 7 1 6] [6])
(.blk 0 (.seq (.reg false [
o 9 (b .eql (t 7) (k 1)), mV 8 9] [])
(.cond (t 8)
(.seq (.reg false [
mV 10 0, fA 11 1 3, lD 12 1 11, cR 13 48 [t 10, t 12], o 14 (.bld [(.bo false), (.it .i64 0), (.it .i64 0)] [(0, 1, (t 13))]), sO 3 4 14] [11])
.ret)
(.seq (.reg false [
o 16 (b .eql (t 7) (k 14)), mV 15 16] [])
(.cond (t 15)
(.seq (.reg false [
mV 17 0, fA 18 2 3, lD 19 1 18, o 20 (.bld [(.it .i64 0), (.it .i64 0), (.it .i64 0), .ns] [(0, 1, (k 8)), (2, 1, (t 19))]), cR 21 49 [t 17, t 20], o 22 (.fld 0 1 false (t 21)), o 23 (.bld [(.bo false), (.it .i64 0), (.it .i64 0)] [(0, 1, (t 22))]), sO 3 4 23] [18])
.ret)
.skip))))))
(.seq (.reg true [
mV 24 0, fA 25 0 3, lD 26 1 25, fA 28 1 3, lD 29 1 28, cP 27 51 [t 26], cR 30 50 [t 24, t 27, t 29], mV 5 30] [25, 28])
(.seq (.seq (.reg false [
mV 31 5, o 32 (.bin .ptr .eql (t 31) (.k .np)), mV 33 32, x 34 33 (.mov (t 5)), x 35 33 (.nck (t 34)), x 36 33 (.fad 0 (t 35)), x 37 33 (.ld 1 false (t 36)), x 38 33 (.bin .ptr .eql (t 37) (.k .np)), o 39 (.pick (t 33) (.k (.bo true)) (t 38))] [])
(.cond (t 39)
(s [o 40 (.bld [(.bo false), (.it .i64 0), (.it .i64 0)] []), sO 3 4 40]
.ret)
.skip))
(.seq (.seq (.reg false [
fA 41 0 3, lD 42 1 41] [41])
(.blk 1 (.seq (.reg false [
o 44 (b .eql (t 42) (k 2)), mV 43 44] [])
(.cond (t 43)
(s [mV 45 5, lQ 46 7 3, cR 47 52 [t 45, t 46], sO 3 4 47]
.ret)
(.seq (s [o 49 (b .eql (t 42) (k 3)), mV 48 49]
(.cond (t 48)
.skip
(r [o 50 (b .eql (t 42) (k 7)), mV 48 50])))
(.cond (t 48)
(.seq (.reg false [
mV 51 5, fA 52 3 3, lD 53 1 52, lQ 54 7 3, cR 55 53 [t 51, t 53, t 54], sO 3 4 55] [52])
.ret)
(.seq (.reg false [
o 57 (b .eql (t 42) (k 4)), mV 56 57] [])
(.cond (t 56)
(.seq (.reg true [
mV 58 5, nK 59 58, fA 60 0 59, lD 61 1 60, fA 62 3 3, lD 63 1 62, cR 64 54 [t 61, t 63, (k 8)], o 65 (.bld [(.bo false), (.it .i64 0), (.it .i64 0)] [(0, 1, (t 64))]), sO 3 4 65] [62])
.ret)
(s [o 67 (b .eql (t 42) (k 8)), mV 66 67]
(.cond (t 66)
(.seq (.reg true [
mV 68 5, nK 69 68, fA 70 0 69, lD 71 1 70, fA 72 3 3, lD 73 1 72, cR 74 54 [t 71, t 73, (k 2)], o 75 (.bld [(.bo false), (.it .i64 0), (.it .i64 0)] [(0, 1, (t 74))]), sO 3 4 75] [72])
.ret)
(s [o 77 (b .eql (t 42) (k 5)), mV 76 77]
(.cond (t 76)
(s [mV 78 0, mV 79 5, lQ 80 7 3, cR 81 55 [t 78, t 79, t 80, (k 3)], sO 3 4 81]
.ret)
(s [o 83 (b .eql (t 42) (k 9)), mV 82 83]
(.cond (t 82)
(s [mV 84 0, mV 85 5, lQ 86 7 3, cR 87 55 [t 84, t 85, t 86, (k 6)], sO 3 4 87]
.ret)
(s [o 89 (b .eql (t 42) (k 6)), mV 88 89]
(.cond (t 88)
(s [mV 90 5, lQ 91 7 3, cR 92 56 [t 90, t 91], sO 3 4 92]
.ret)
(s [o 94 (b .eql (t 42) (k 10)), mV 93 94]
(.cond (t 93)
(s [mV 95 0, mV 96 5, lQ 97 7 3, cR 98 57 [t 95, t 96, t 97, (k 2)], sO 3 4 98]
.ret)
(s [o 100 (b .eql (t 42) (k 13)), mV 99 100]
(.cond (t 99)
(s [mV 101 0, mV 102 5, lQ 103 7 3, cR 104 57 [t 101, t 102, t 103, (k 5)], sO 3 4 104]
.ret)
(s [o 106 (b .eql (t 42) (k 11)), mV 105 106]
(.cond (t 105)
(s [mV 107 0, mV 108 5, lQ 109 7 3, cR 110 58 [t 107, (k 0), t 108, t 109, (k 4)], sO 3 4 110]
.ret)
(s [o 112 (b .eql (t 42) (k 12)), mV 111 112]
(.cond (t 111)
(s [mV 113 0, mV 114 5, lQ 115 7 3, cR 116 58 [t 113, (k 1), t 114, t 115, (k 7)], sO 3 4 116]
.ret)
.skip))))))))))))))))))))))))
(s [o 117 (.bld [(.bo false), (.it .i64 0), (.it .i64 0)] []), sO 3 4 117]
.ret))))))⟩
def c25 : Ev.Fn := d25.den
def p25 : Pol := { P0 .rw with loc := [3, 4], ord := [(6, [0, 1, 2, 4, 5, 3, 6, 7])], clr := [(1, [6]), (3, [11]), (5, [18]), (6, [25, 28]), (9, [41]), (14, [52]), (16, [62]), (18, [72])] }
theorem r25 : FnOK Tryz.prog mds 25 c25 := .read (pol := p25) (d := d25) Tryz.func25 (by kernel_rfl) (by kernel_rfl) rfl rfl (by kernel_rfl)

def d27 : DFn := ⟨[(.c .one), (.c (.sl [.one]))], [(.c .one)], .pure, [.tmp 4],
(s [mK 4 (.st [])]
(.seq (s [mV 7 1, lN 8 false 7, mK 9 (.it .i64 0)]
(.blk 0 (.loop [0, 7, 8, 9] []
(s [o 10 (b .lss (t 9) (t 8))]
(.seq (.cond (t 10)
.skip
(.exit 0))
(.seq (.blk 1 (s [o 11 (.ias 1 (t 7) (t 9)), lD 12 1 11, mV 6 12]
(r [mV 13 0, mV 14 6, cP 15 16 [t 14], o 16 (b .add (.k (.st [32])) (t 15)), o 17 (b .add (t 13) (t 16)), mV 0 17])))
(r [o 18 (b .add (t 9) (k 1)), mV 9 18])))))))
(s [mV 19 0, mV 4 19]
.ret)))⟩
def c27 : Ev.Fn := d27.den
def p27 : Pol := { P0 .pure with mask := [(2, [0, 7, 8, 9], [])] }
theorem r27 : FnOK Tryz.prog mds 27 c27 := .read (pol := p27) (d := d27) Tryz.func27 (by kernel_rfl) (by kernel_rfl) rfl rfl (by kernel_rfl)

def d28 : DFn := ⟨[(.c .one)], [(.c (.sl [.one, .one, .one, (.sl [.one, .one]), .one, .one, .one, .one, .one]))], .rw, [.tmp 2],
(s [mK 2 .ns]
(s [mV 3 0, nK 4 3, fA 5 10 4, o 6 (.iaa 2 1 (t 5) (k 0)), lD 7 1 6, cR 8 60 [t 7], mV 2 8]
.ret))⟩
def c28 : Ev.Fn := d28.den
def p28 : Pol := P0 .rw
theorem r28 : FnOK Tryz.prog mds 28 c28 := .read (pol := p28) (d := d28) Tryz.func28 (by kernel_rfl) (by kernel_rfl) rfl rfl (by kernel_rfl)

def d36 : DFn := ⟨[(.c .one)], [(.c .one)], .pure, [.tmp 2],
(s [mK 2 (.bo false)]
(s [mV 3 0, o 4 (b .gtr (t 3) (.k (.it .u8 32))), mV 5 4, w 6 5 (.mov (t 0)), w 7 5 (b .lss (t 6) (.k (.it .u8 127))), o 8 (.pick (t 5) (t 7) (.k (.bo false))), mV 9 8, w 10 9 (.mov (t 0)), w 11 9 (b .neq (t 10) (.k (.it .u8 37))), o 12 (.pick (t 9) (t 11) (.k (.bo false))), mV 13 12, w 14 13 (.mov (t 0)), w 15 13 (b .neq (t 14) (.k (.it .u8 61))), o 16 (.pick (t 13) (t 15) (.k (.bo false))), mV 2 16]
.ret))⟩
def c36 : Ev.Fn := d36.den
def p36 : Pol := P0 .pure
theorem r36 : FnOK Tryz.prog mds 36 c36 := .read (pol := p36) (d := d36) Tryz.func36 (by kernel_rfl) (by kernel_rfl) rfl rfl (by kernel_rfl)

def d38 : DFn := ⟨[(.c .one), (.c .one), (.c .one), (.c .one)], [(.c (.sl [.one]))], .pure, [.tmp 8],
(s [mK 8 .ns]
(.seq (s [mV 12 3, o 13 (b .eql (t 12) (k 0))]
(.cond (t 13)
(s [mK 8 .ns]
.ret)
.skip))
(.seq (s [mV 14 1, o 15 (b .eql (t 14) (.k (.st [])))]
(.cond (t 15)
(s [mV 16 0, mV 17 3, cP 18 66 [t 16, t 17], mV 8 18]
.ret)
.skip))
(.seq (s [mV 19 3, o 20 (b .lss (t 19) (k 0))]
(.cond (t 20)
(r [mV 21 0, mV 22 1, cP 23 67 [t 21, t 22], o 24 (b .add (t 23) (k 1)), mV 3 24])
.skip))
(s [mV 25 3, mV 26 0, lN 27 true 26, o 28 (b .add (t 27) (k 1)), o 29 (.mnx false (t 25) (t 28)), mV 3 29]
(s [mV 30 3, o 31 (.mks 1 16 [(.st [])] (t 30) (t 30)), mV 9 31]
(s [mV 32 3, o 33 (b .sub (t 32) (k 1)), mV 3 33]
(s [mK 10 (.it .i64 0)]
(.seq (.blk 0 (.loop [0, 1, 2, 3, 9, 10] []
(.seq (s [mV 34 10, mV 35 3, o 36 (b .lss (t 34) (t 35))]
(.cond (t 36)
.skip
(.exit 0)))
(.blk 1 (s [mV 37 0, mV 38 1, cP 39 68 [t 37, t 38], mV 11 39]
(.seq (s [mV 40 11, o 41 (b .lss (t 40) (k 0))]
(.cond (t 41)
(.exit 0)
.skip))
(s [mV 42 9, mV 43 10, mV 44 0, mV 45 11, mV 46 2, o 47 (b .add (t 45) (t 46)), o 48 (.slc true 0 (t 44) none (some (t 47))), o 49 (.ias 1 (t 42) (t 43)), sO 1 49 48]
(s [mV 50 0, mV 51 11, mV 52 1, lN 53 true 52, o 54 (b .add (t 51) (t 53)), o 55 (.slc true 0 (t 50) (some (t 54)) none), mV 0 55]
(r [mV 56 10, o 57 (b .add (t 56) (k 1)), mV 10 57])))))))))
(s [mV 58 9, mV 59 10, mV 60 0, o 61 (.ias 1 (t 58) (t 59)), sO 1 61 60]
(s [mV 62 9, mV 63 10, o 64 (b .add (t 63) (k 1)), o 65 (.slc false 1 (t 62) none (some (t 64))), mV 8 65]
.ret)))))))))))⟩
def c38 : Ev.Fn := d38.den
def p38 : Pol := { P0 .pure with mask := [(11, [0, 1, 2, 3, 9, 10], [])] }
theorem r38 : FnOK Tryz.prog mds 38 c38 := .read (pol := p38) (d := d38) Tryz.func38 (by kernel_rfl) (by kernel_rfl) rfl rfl (by kernel_rfl)

def d40 : DFn := ⟨[(.c .one)], [(.c .one)], .rw, [.tmp 2],
(s [mK 2 (.it .i64 0)]
(.seq (s [mK 3 (.it .i64 1)]
(.blk 0 (.loop [0, 3] []
(.seq (s [mV 4 3, o 5 (b .leq (t 4) (k 14))]
(.cond (t 5)
.skip
(.exit 0)))
(.seq (.blk 1 (s [mV 8 3, cP 9 14 [t 8], mV 10 0, o 11 (b .eql (t 9) (t 10))]
(.cond (t 11)
(s [mV 12 3, mV 2 12]
.ret)
.skip)))
(r [mV 6 3, o 7 (b .add (t 6) (k 1)), mV 3 7]))))))
(s [cR 13 69 [(k 4), (k 0)]]
(s [mK 2 (.it .i64 0)]
.ret))))⟩
def c40 : Ev.Fn := d40.den
def p40 : Pol := { P0 .rw with ord := [(4, [0, 2, 1, 3])], mask := [(2, [0, 3], [])] }
theorem r40 : FnOK Tryz.prog mds 40 c40 := .read (pol := p40) (d := d40) Tryz.func40 (by kernel_rfl) (by kernel_rfl) rfl rfl (by kernel_rfl)

def d41 : DFn := ⟨[(.c .one)], [(.c .one)], .rw, [.tmp 2],
(s [mK 2 (.st [])]
(s [mV 4 0, nK 5 4, fA 6 0 5, lD 7 1 6, lN 8 false 7, o 9 (b .gtr (t 8) (k 0)), cR 10 43 [t 9, (k 4), (k 0)]]
(s [mV 11 0, nK 12 11, fA 13 0 12, lD 14 1 13, o 15 (.ias 1 (t 14) (k 0)), lD 16 1 15, mV 3 16]
(s [mV 17 0, mV 18 0, nK 19 18, fA 20 0 19, lD 21 1 20, o 22 (.slc false 1 (t 21) (some (k 1)) none), nK 23 17, fA 24 0 23, sO 1 24 22]
(s [mV 25 3, mV 2 25]
.ret)))))⟩
def c41 : Ev.Fn := d41.den
def p41 : Pol := P0 .rw
theorem r41 : FnOK Tryz.prog mds 41 c41 := .read (pol := p41) (d := d41) Tryz.func41 (by kernel_rfl) (by kernel_rfl) rfl rfl (by kernel_rfl)

def d42 : DFn := ⟨[(.c .one)], [(.c .one)], .rw, [.tmp 2],
(s [mK 2 (.it .i64 0)]
(s [mV 6 0, cR 7 70 [t 6], mV 5 7, eX 8 5 0, eX 9 5 1, mV 3 8, mV 4 9]
(s [mV 10 4, o 11 (.hnd (.eqi .eql) [t 10, (.k .nf)]), mV 12 11, w 13 12 (.mov (t 3)), w 14 12 (.call false .pure 16 [t 13]), w 15 12 (.mov (t 0)), w 16 12 (b .eql (t 14) (t 15)), o 17 (.pick (t 12) (t 16) (.k (.bo false))), cR 18 43 [t 17, (k 4), (k 0)]]
(s [mV 19 3, mV 2 19]
.ret))))⟩
def c42 : Ev.Fn := d42.den
def p42 : Pol := { P0 .rw with ord := [(2, [0, 1, 2, 3, 5, 4, 6, 7, 8])] }
theorem r42 : FnOK Tryz.prog mds 42 c42 := .read (pol := p42) (d := d42) Tryz.func42 (by kernel_rfl) (by kernel_rfl) rfl rfl (by kernel_rfl)

def d43 : DFn := ⟨[(.c .one), (.c .one), (.c .one)], [], .rw, [],
(s [mV 6 0, o 7 (.un .not (t 6))]
(.cond (t 7)
(r [mV 8 1, mV 9 2, cR 10 69 [t 8, t 9]])
.skip))⟩
def c43 : Ev.Fn := d43.den
def p43 : Pol := P0 .rw
theorem r43 : FnOK Tryz.prog mds 43 c43 := .read (pol := p43) (d := d43) Tryz.func43 (by kernel_rfl) (by kernel_rfl) rfl rfl (by kernel_rfl)

def d46 : DFn := ⟨[(.c .one), (.c .one)], [(.c .one), (.c .one), (.c .one)], .pure, [.tmp 4, .tmp 5, .tmp 6],
(s [mK 4 (.st []), mK 5 (.st []), mK 6 (.bo false)]
(s [mV 7 0, mV 8 1, cP 9 72 [t 7, t 8], eX 10 9 0, eX 11 9 1, eX 12 9 2, mV 4 10, mV 5 11, mV 6 12]
.ret))⟩
def c46 : Ev.Fn := d46.den
def p46 : Pol := P0 .pure
theorem r46 : FnOK Tryz.prog mds 46 c46 := .read (pol := p46) (d := d46) Tryz.func46 (by kernel_rfl) (by kernel_rfl) rfl rfl (by kernel_rfl)

def d47 : DFn := ⟨[(.g [.one, .one, .one, .one, .one, .one, .one])], [(.c .one), (.c .one)], .rw, [.tmp 2, .tmp 3],
(s [o 1 (.box (t 0)), mK 2 .np, mK 3 (.it .i64 0)]
(.seq (.seq (.reg false [
fA 9 2 1, lQ 10 3 9, cR 11 73 [(.k (.bo true)), t 10], mV 8 11, eX 12 8 0, eX 13 8 1, mV 4 12, mV 5 13] [9])
(.seq (.reg false [
mV 14 5, o 15 (b .neq (t 14) (k 0))] [])
(.cond (t 15)
(s [mK 2 .np, mK 3 (.it .i64 1)]
.ret)
.skip)))
(.seq (.reg false [
fA 17 0 1, lD 18 1 17, cR 19 74 [t 18], mV 16 19, eX 20 16 0, eX 21 16 1, mV 6 20, mV 7 21] [17])
(.seq (.seq (.reg false [
mV 22 7, o 23 (b .neq (t 22) (k 0)), mV 24 23, x 25 24 (.fad 5 (t 1)), x 26 24 (.ld 1 false (t 25)), x 27 24 (b .lss (t 26) (k 1)), o 28 (.pick (t 24) (.k (.bo true)) (t 27)), mV 29 28, x 30 29 (.fad 5 (t 1)), x 31 29 (.ld 1 false (t 30)), x 32 29 (b .gtr (t 31) (k 64)), o 33 (.pick (t 29) (.k (.bo true)) (t 32)), mV 34 33, x 35 34 (.fad 6 (t 1)), x 36 34 (.ld 1 false (t 35)), x 37 34 (b .lss (t 36) (k 1)), o 38 (.pick (t 34) (.k (.bo true)) (t 37)), mV 39 38, x 40 39 (.fad 6 (t 1)), x 41 39 (.ld 1 false (t 40)), x 42 39 (b .gtr (t 41) (k 8)), o 43 (.pick (t 39) (.k (.bo true)) (t 42))] [25, 30, 35, 40])
(.cond (t 43)
(.seq (.reg false [
mK 2 .np, mK 3 (.it .i64 1)] [])
.ret)
.skip))
(s [lQ 44 7 1, mV 45 6, o 46 (.bld [(.it .i64 0), (.fl .f64 0), (.it .i64 0), (.it .i64 0), (.it .i64 0), (.it .i64 0), (.it .i64 0), .np, .np, .np, .np, .np, .np, .np, .np, .np, .np, .np, .np, .np, .np, .np, .np, .np, (.it .i64 0), .ns, .ns] [(0, 7, (t 44)), (23, 1, (t 45))]), o 47 (.bxh (t 46)), mV 2 47, mK 3 (.it .i64 0)]
.ret)))))⟩
def c47 : Ev.Fn := d47.den
def p47 : Pol := { P0 .rw with loc := [1], ord := [(0, [1, 2, 0])], clr := [(1, [9]), (4, [17]), (5, [25, 30, 35, 40])] }
theorem r47 : FnOK Tryz.prog mds 47 c47 := .read (pol := p47) (d := d47) Tryz.func47 (by kernel_rfl) (by kernel_rfl) rfl rfl (by kernel_rfl)

def d48 : DFn := ⟨[(.c .one), (.c .one)], [(.c .one)], .rw, [.tmp 4],
(s [mK 4 (.bo false)]
(s [mV 6 0, mV 7 1, o 8 (.bld [(.it .i64 0), (.it .i64 0), (.it .i64 0), .ns] [(0, 1, (k 1)), (1, 1, (t 7))]), cR 9 49 [t 6, t 8], o 10 (.fld 0 1 false (t 9)), mV 5 10]
(.seq (s [mV 11 5]
(.cond (t 11)
(r [mV 12 0, mV 13 1, cR 14 75 [t 12, (k 0), t 13]])
.skip))
(s [mV 15 5, mV 4 15]
.ret))))⟩
def c48 : Ev.Fn := d48.den
def p48 : Pol := P0 .rw
theorem r48 : FnOK Tryz.prog mds 48 c48 := .read (pol := p48) (d := d48) Tryz.func48 (by kernel_rfl) (by kernel_rfl) rfl rfl (by kernel_rfl)

def d49 : DFn := ⟨[(.c .one), (.g [.one, .one, .one, (.sl [.one])])], [(.g [.one, (.sl [.one]), (.sl [.one, .one])])], .rw, [.cell 4 3 true],
(s [o 3 (.box (t 1)), o 4 (.alc [(.bo false), .ns, .ns])]
(.seq (.reg true [
mV 8 0, nK 9 8, fA 10 7 9, lD 11 1 10, lQ 12 4 3, u 5 [10, 3] (.alc [(.bo false), .ns, .ns]), cR 13 76 [t 11, t 12], sO 3 5 13] [])
(.seq (.seq (.reg false [
fA 14 2 5, lD 15 1 14, lN 16 false 15, mK 17 (.it .i64 0)] [14])
(.blk 0 (.loop [0, 4, 5, 15, 16, 17] [3, 7]
(.seq (.reg false [
o 18 (b .lss (t 17) (t 16))] [])
(.seq (.cond (t 18)
.skip
(.exit 0))
(.seq (.blk 1 (s [o 19 (.ias 2 (t 15) (t 17)), lQ 20 2 19, o 7 (.alc [(.it .i64 0), (.st [])]), sO 2 7 20]
(.reg false [
mV 21 0, fA 22 0 7, lD 23 1 22, cR 24 75 [t 21, (k 1), t 23]] [22])))
(.reg false [
o 25 (b .add (t 17) (k 1)), mV 17 25] [])))))))
(s [lQ 26 3 5, sO 3 4 26]
.ret))))⟩
def c49 : Ev.Fn := d49.den
def p49 : Pol := { P0 .rw with loc := [3, 4, 5, 7], ord := [(1, [0, 1, 2, 3, 4, 6, 5, 7])], clr := [(2, [14]), (5, [22])], mask := [(3, [0, 4, 5, 15, 16, 17], [3, 7])] }
theorem r49 : FnOK Tryz.prog mds 49 c49 := .read (pol := p49) (d := d49) Tryz.func49 (by kernel_rfl) (by kernel_rfl) rfl rfl (by kernel_rfl)

def d50 : DFn := ⟨[(.c .one), (.c .one), (.c .one)], [(.c .one)], .rw, [.tmp 6],
(s [mK 6 .np]
(.seq (s [mV 7 1, o 8 (b .lss (t 7) (k 0)), mV 9 8, x 10 9 (.mov (t 1)), x 11 9 (b .geq (t 10) (k 2)), o 12 (.pick (t 9) (.k (.bo true)) (t 11)), mV 13 12, x 14 13 (.mov (t 2)), x 15 13 (b .lss (t 14) (k 0)), o 16 (.pick (t 13) (.k (.bo true)) (t 15)), mV 17 16, x 18 17 (.mov (t 2)), x 19 17 (.mov (t 0)), x 20 17 (.mov (t 1)), x 21 17 (.nck (t 19)), x 22 17 (.fad 8 (t 21)), x 23 17 (.iaa 2 1 (t 22) (t 20)), x 24 17 (.ld 1 false (t 23)), x 25 17 (.len false (t 24)), x 26 17 (b .geq (t 18) (t 25)), o 27 (.pick (t 17) (.k (.bo true)) (t 26))]
(.cond (t 27)
(s [mK 6 .np]
.ret)
.skip))
(s [mV 28 0, mV 29 1, nK 30 28, fA 31 8 30, o 32 (.iaa 2 1 (t 31) (t 29)), lD 33 1 32, mV 34 2, o 35 (.ias 1 (t 33) (t 34)), lD 36 1 35, mV 6 36]
.ret)))⟩
def c50 : Ev.Fn := d50.den
def p50 : Pol := P0 .rw
theorem r50 : FnOK Tryz.prog mds 50 c50 := .read (pol := p50) (d := d50) Tryz.func50 (by kernel_rfl) (by kernel_rfl) rfl rfl (by kernel_rfl)

def d60 : DFn := ⟨[(.c (.sl [.one, .one, .one, (.sl [.one, .one]), .one, .one, .one, .one, .one]))], [(.c (.sl [.one, .one, .one, (.sl [.one, .one]), .one, .one, .one, .one, .one]))], .rw, [.tmp 2],
(s [mK 2 .ns]
(s [mV 5 0, o 6 (.call true .rw 86 [t 5]), mV 3 6]
(.seq (s [mV 7 3, lN 8 false 7, mK 9 (.it .i64 0)]
(.blk 0 (.loop [3, 8, 9] []
(s [o 10 (b .lss (t 9) (t 8))]
(.seq (.cond (t 10)
.skip
(.exit 0))
(.seq (.blk 1 (s [mV 11 9, mV 4 11]
(r [mV 12 3, mV 13 4, mV 14 3, mV 15 4, o 16 (.ias 9 (t 14) (t 15)), fA 17 3 16, lD 18 1 17, o 19 (.call true .pure 87 [t 18]), o 20 (.ias 9 (t 12) (t 13)), fA 21 3 20, sO 1 21 19])))
(r [o 22 (b .add (t 9) (k 1)), mV 9 22])))))))
(s [mV 23 3, mV 2 23]
.ret))))⟩
def c60 : Ev.Fn := d60.den
def p60 : Pol := { P0 .rw with heap := [6, 19], own := [6, 19], mask := [(3, [3, 8, 9], [])] }
theorem r60 : FnOK Tryz.prog mds 60 c60 := .read (pol := p60) (d := d60) Tryz.func60 (by kernel_rfl) (by kernel_rfl) rfl rfl (by kernel_rfl)

def d67 : DFn := ⟨[(.c .one), (.c .one)], [(.c .one)], .pure, [.tmp 4],
(s [mK 4 (.it .i64 0)]
(.seq (s [mV 7 1, lN 8 true 7, o 9 (b .eql (t 8) (k 0))]
(.cond (t 9)
(s [mV 10 0, cP 11 93 [t 10], o 12 (b .add (t 11) (k 1)), mV 4 12]
.ret)
.skip))
(.seq (s [mV 13 1, lN 14 true 13, o 15 (b .eql (t 14) (k 1))]
(.cond (t 15)
(s [mV 16 0, mV 17 1, o 18 (.ixs (t 17) (k 0)), o 19 (.ctb (t 16) (t 18)), mV 4 19]
.ret)
.skip))
(s [mK 5 (.it .i64 0)]
(.blk 0 (.loop [0, 1, 5] []
(.blk 1 (s [mV 20 0, mV 21 1, cP 22 68 [t 20, t 21], mV 6 22]
(.seq (s [mV 23 6, o 24 (b .eql (t 23) (.k (.it .i64 (-1))))]
(.cond (t 24)
(s [mV 25 5, mV 4 25]
.ret)
.skip))
(s [mV 26 5, o 27 (b .add (t 26) (k 1)), mV 5 27]
(r [mV 28 0, mV 29 6, mV 30 1, lN 31 true 30, o 32 (b .add (t 29) (t 31)), o 33 (.slc true 0 (t 28) (some (t 32)) none), mV 0 33])))))))))))⟩
def c67 : Ev.Fn := d67.den
def p67 : Pol := { P0 .pure with mask := [(6, [0, 1, 5], [])] }
theorem r67 : FnOK Tryz.prog mds 67 c67 := .read (pol := p67) (d := d67) Tryz.func67 (by kernel_rfl) (by kernel_rfl) rfl rfl (by kernel_rfl)

def d68 : DFn := ⟨[(.c .one), (.c .one)], [(.c .one)], .pure, [.tmp 4],
(s [mK 4 (.it .i64 0)]
(s [mV 5 0, mV 6 1, cP 7 96 [t 5, t 6], mV 4 7]
.ret))⟩
def c68 : Ev.Fn := d68.den
def p68 : Pol := P0 .pure
theorem r68 : FnOK Tryz.prog mds 68 c68 := .read (pol := p68) (d := d68) Tryz.func68 (by kernel_rfl) (by kernel_rfl) rfl rfl (by kernel_rfl)

def d69 : DFn := ⟨[(.c .one), (.c .one)], [], .rw, [],
(r [mV 4 0, mV 5 1, o 6 (.bld [(.it .i64 0), (.it .i64 0)] [(0, 1, (t 4)), (1, 1, (t 5))]), o 7 (.mki 60 (t 6)), n (.pan (t 7))])⟩
def c69 : Ev.Fn := d69.den
def p69 : Pol := P0 .rw
theorem r69 : FnOK Tryz.prog mds 69 c69 := .read (pol := p69) (d := d69) Tryz.func69 (by kernel_rfl) (by kernel_rfl) rfl rfl (by kernel_rfl)

def d70 : DFn := ⟨[(.c .one)], [(.c .one), (.c .one)], .rw, [.tmp 2, .tmp 3],
(s [mK 2 (.it .i64 0), mK 3 .nf]
(s [mV 7 0, cR 8 97 [t 7], mV 6 8, eX 9 6 0, eX 10 6 1, mV 4 9, mV 5 10]
(.seq (s [mV 11 5, o 12 (.hnd (.eqi .neq) [t 11, (.k .nf)])]
(.cond (t 12)
(s [mV 13 4, mV 14 0, mV 15 5, o 16 (.call false .rw 98 [(.k (.st [65, 116, 111, 105])), t 14, (k 0), (k 0), t 15]), mV 2 13, mV 3 16]
.ret)
.skip))
(s [mV 17 4, mV 2 17, mK 3 .nf]
.ret))))⟩
def c70 : Ev.Fn := d70.den
def p70 : Pol := P0 .rw
theorem r70 : FnOK Tryz.prog mds 70 c70 := .read (pol := p70) (d := d70) Tryz.func70 (by kernel_rfl) (by kernel_rfl) rfl rfl (by kernel_rfl)

def d72 : DFn := ⟨[(.c .one), (.c .one)], [(.c .one), (.c .one), (.c .one)], .pure, [.tmp 4, .tmp 5, .tmp 6],
(s [mK 4 (.st []), mK 5 (.st []), mK 6 (.bo false)]
(.seq (s [mV 8 0, mV 9 1, cP 10 96 [t 8, t 9], mV 7 10]
(s [mV 11 7, o 12 (b .geq (t 11) (k 0))]
(.cond (t 12)
(.seq (.reg true [
mV 13 0, mV 14 7, o 15 (.slc true 0 (t 13) none (some (t 14))), mV 16 0, mV 17 7, mV 18 1, lN 19 true 18, o 20 (b .add (t 17) (t 19)), o 21 (.slc true 0 (t 16) (some (t 20)) none), mV 4 15, mV 5 21, mK 6 (.bo true)] [])
.ret)
.skip)))
(s [mV 22 0, mV 4 22, mK 5 (.st []), mK 6 (.bo false)]
.ret)))⟩
def c72 : Ev.Fn := d72.den
def p72 : Pol := P0 .pure
theorem r72 : FnOK Tryz.prog mds 72 c72 := .read (pol := p72) (d := d72) Tryz.func72 (by kernel_rfl) (by kernel_rfl) rfl rfl (by kernel_rfl)

def d73 : DFn := ⟨[(.c .one), (.g [.one, .one, .one])], [(.c .one), (.c .one)], .rw, [.tmp 4, .tmp 5],
(s [o 3 (.box (t 1)), mK 4 .np, mK 5 (.it .i64 0)]
(.seq (.seq (.reg false [
fA 8 0 3, lD 9 1 8, cP 10 100 [t 9, (k 1), (k 100)], o 11 (.un .not (t 10)), mV 12 11, x 13 12 (.fad 1 (t 3)), x 14 12 (.ld 1 false (t 13)), x 15 12 (.call false .pure 100 [t 14, (k 65535), (k 2147483647)]), x 16 12 (.un .not (t 15)), o 17 (.pick (t 12) (.k (.bo true)) (t 16)), mV 18 17, x 19 18 (.fad 2 (t 3)), x 20 18 (.ld 1 false (t 19)), x 21 18 (.call false .pure 100 [t 20, (k 1), (k 1048576)]), x 22 18 (.un .not (t 21)), o 23 (.pick (t 18) (.k (.bo true)) (t 22))] [8, 13, 19])
(.cond (t 23)
(.seq (.reg false [
mK 4 .np, mK 5 (.it .i64 1)] [])
.ret)
.skip))
(.seq (.reg true [
mV 24 0, lQ 25 3 3, cP 26 101 [], o 27 (.bld [(.bo false), (.it .i64 0), (.it .i64 0), (.it .i64 0), (.it .i64 0), (.it .i64 0), (.it .i64 0), (.it .i64 0), (.it .i64 0), .np, .np, .np, .ns, (.it .i64 0), (.it .i64 0), .ns, (.it .i64 0), (.it .i64 0), .ns, (.it .i64 0), (.bo false), .ns, (.bo false), (.bo false), (.bo false), .ns] [(0, 1, (t 24)), (1, 3, (t 25)), (4, 5, (t 26)), (17, 1, (k 1))]), o 28 (.bxh (t 27)), mV 6 28] [])
(s [mV 30 6, mV 31 0, o 32 (.call true .rw 102 [(k 16384), t 31]), mV 29 32, eX 33 29 0, eX 34 29 1, nK 35 30, fA 36 9 35, sO 1 36 33]
(.seq (.reg false [
mV 38 6, fA 39 2 3, lD 40 1 39, o 41 (.call true .rw 103 [(k 4096), t 40]), mV 37 41, eX 42 37 0, eX 43 37 1, nK 44 38, fA 45 10 44, sO 1 45 42] [39])
(.seq (.reg false [
mV 47 6, o 48 (.call true .rw 104 [(k 4096)]), mV 46 48, eX 49 46 0, eX 50 46 1, nK 51 47, fA 52 11 51, sO 1 52 49] [])
(s [mV 54 6, o 55 (.call true .pure 105 [(k 65535)]), mV 53 55, eX 56 53 0, eX 57 53 1, nK 58 54, fA 59 13 58, sO 1 59 56]
(s [mV 61 6, o 62 (.call true .pure 105 [(k 65535)]), mV 60 62, eX 63 60 0, eX 64 60 1, nK 65 61, fA 66 14 65, sO 1 66 63]
(.seq (.reg false [
fA 67 0 3, lD 68 1 67, o 69 (.bld [(.it .i64 0), (.it .i64 0)] [(0, 1, (k 3)), (1, 1, (t 68))]), fA 70 1 3, lD 71 1 70, o 72 (.bld [(.it .i64 0), (.it .i64 0)] [(0, 1, (k 4)), (1, 1, (t 71))]), fA 73 2 3, lD 74 1 73, o 75 (.bld [(.it .i64 0), (.it .i64 0)] [(0, 1, (k 6)), (1, 1, (t 74))]), o 76 (.bsv [.one, .one] 2 [[(.it .i64 0), (.it .i64 0)], [(.it .i64 0), (.it .i64 0)], [(.it .i64 0), (.it .i64 0)]] [(0, (t 69)), (1, (t 72)), (2, (t 75))]), mV 7 76] [67, 70, 73])
(.seq (.seq (.reg false [
mV 77 0, o 78 (.un .not (t 77))] [])
(.cond (t 78)
(s [mV 79 6, o 80 (.bsl 1 (List.replicate 24 [(.it .u8 0)]) [(0, (.k (.it .u8 80))), (1, (.k (.it .u8 82))), (2, (.k (.it .u8 73))), (3, (.k (.it .u8 32))), (4, (.k (.it .u8 42))), (5, (.k (.it .u8 32))), (6, (.k (.it .u8 72))), (7, (.k (.it .u8 84))), (8, (.k (.it .u8 84))), (9, (.k (.it .u8 80))), (10, (.k (.it .u8 47))), (11, (.k (.it .u8 50))), (12, (.k (.it .u8 46))), (13, (.k (.it .u8 48))), (14, (.k (.it .u8 13))), (15, (.k (.it .u8 10))), (16, (.k (.it .u8 13))), (17, (.k (.it .u8 10))), (18, (.k (.it .u8 83))), (19, (.k (.it .u8 77))), (20, (.k (.it .u8 13))), (21, (.k (.it .u8 10))), (22, (.k (.it .u8 13))), (23, (.k (.it .u8 10)))]), o 81 (.mrk (t 80)), nK 82 79, fA 83 12 82, sO 1 83 81]
(r [o 84 (.bld [(.it .i64 0), (.it .i64 0)] [(0, 1, (k 2))]), o 85 (.bsl 2 [[(.it .i64 0), (.it .i64 0)]] [(0, (t 84))]), mV 86 7, o 87 (.app 2 16 (t 85) (t 86)), mV 7 87]))
.skip))
(.seq (.reg true [
mV 88 6, mV 89 6, nK 90 89, fA 91 12 90, lD 92 1 91, mV 93 7, cP 94 107 [t 93], o 95 (.bld [(.it .i64 0), (.it .i64 0), (.it .i64 0), .ns] [(0, 1, (k 4)), (3, 1, (t 94))]), o 96 (.call true .pure 106 [t 92, t 95]), nK 97 88, fA 98 12 97, sO 1 98 96] [])
(s [mV 99 6, mV 4 99, mK 5 (.it .i64 0)]
.ret))))))))))))⟩
def c73 : Ev.Fn := d73.den
def p73 : Pol := { P0 .rw with loc := [3], heap := [32, 41, 48, 55, 62, 80, 81, 85, 96], own := [32, 41, 48, 55, 62, 80, 81, 85, 96], ord := [(0, [1, 2, 0]), (12, [0, 2, 1, 3, 4])], clr := [(1, [8, 13, 19]), (5, [39]), (9, [67, 70, 73])] }
theorem r73 : FnOK Tryz.prog mds 73 c73 := .read (pol := p73) (d := d73) Tryz.func73 (by kernel_rfl) (by kernel_rfl) rfl rfl (by kernel_rfl)

def d74 : DFn := ⟨[(.c .one)], [(.c .one), (.c .one)], .rw, [.tmp 2, .tmp 3],
(s [mK 2 .np, mK 3 (.it .i64 0)]
(.seq (s [mV 4 0, o 5 (b .lss (t 4) (k 0)), mV 6 5, x 7 6 (.mov (t 0)), x 8 6 (b .gtr (t 7) (k 16777216)), o 9 (.pick (t 6) (.k (.bo true)) (t 8))]
(.cond (t 9)
(s [mK 2 .np, mK 3 (.it .i64 1)]
.ret)
.skip))
(s [mV 10 0, o 11 (.bld [.ns, (.it .i64 0), (.it .i64 0)] [(2, 1, (t 10))]), o 12 (.bxh (t 11)), mV 2 12, mK 3 (.it .i64 0)]
.ret)))⟩
def c74 : Ev.Fn := d74.den
def p74 : Pol := P0 .rw
theorem r74 : FnOK Tryz.prog mds 74 c74 := .read (pol := p74) (d := d74) Tryz.func74 (by kernel_rfl) (by kernel_rfl) rfl rfl (by kernel_rfl)

def d75 : DFn := ⟨[(.c .one), (.c .one), (.c .one)], [], .rw, [],
(s [mV 7 0, mV 8 1, mV 9 2, cR 10 50 [t 7, t 8, t 9], mV 6 10]
(s [mV 12 6, mV 13 1, o 14 (b .eql (t 13) (k 1)), mV 15 0, nK 16 15, fA 17 0 16, fA 18 2 17, lQ 19 3 18, o 20 (.call true .rw 73 [t 14, t 19]), mV 11 20, eX 21 11 0, eX 22 11 1, nK 23 12, fA 24 0 23, sO 1 24 21]
(s [mV 25 6, nK 26 25, fA 27 1 26, lD 28 1 27, o 29 (b .add (t 28) (k 1)), nK 30 25, fA 31 1 30, sO 1 31 29]
(r [mV 32 6, nK 33 32, fA 34 2 33, n (.sto 1 (t 34) (.k .ns))]))))⟩
def c75 : Ev.Fn := d75.den
def p75 : Pol := { P0 .rw with heap := [20], own := [20] }
theorem r75 : FnOK Tryz.prog mds 75 c75 := .read (pol := p75) (d := d75) Tryz.func75 (by kernel_rfl) (by kernel_rfl) rfl rfl (by kernel_rfl)

def d76 : DFn := ⟨[(.c .one), (.g [.one, .one, .one, (.sl [.one])])], [(.g [.one, (.sl [.one]), (.sl [.one, .one])])], .rw, [.cell 4 3 true],
(s [o 3 (.box (t 1)), o 4 (.alc [(.bo false), .ns, .ns])]
(s [mV 8 0, nK 9 8, fA 10 26 9, n (.sto 1 (t 10) (.k .ns))]
(s [mV 11 0, lQ 12 4 3, cR 13 108 [t 11, t 12], o 14 (.bld [(.bo false), .ns, .ns] [(0, 1, (t 13))]), o 5 (.alc [(.bo false), .ns, .ns]), sO 3 5 14]
(s [mV 15 0, cR 16 109 [t 15]]
(.seq (.seq (.reg false [
mV 17 0, fA 18 1 3, lD 19 1 18, cR 20 110 [t 17, t 19], mV 6 20] [18])
(.seq (.reg false [
fA 21 0 3, lD 22 1 21, o 23 (b .eql (t 22) (k 4)), mV 24 23, w 25 24 (.mov (t 6)), w 26 24 (.bin .ptr .neq (t 25) (.k .np)), o 27 (.pick (t 24) (t 26) (.k (.bo false)))] [21])
(.cond (t 27)
(.seq (.reg false [
mV 28 6, fA 29 2 3, lD 30 1 29, cR 31 82 [t 28, t 30], fA 32 1 5, sO 1 32 31] [29, 32])
(.reg false [
mV 33 0, cR 34 109 [t 33]] []))
.skip)))
(.seq (.seq (.reg false [
mV 35 0, fA 36 1 3, lD 37 1 36, cR 38 111 [t 35, t 37], mV 7 38] [36])
(.seq (.reg false [
fA 39 0 3, lD 40 1 39, o 41 (b .eql (t 40) (k 7)), mV 42 41, w 43 42 (.mov (t 7)), w 44 42 (.bin .ptr .neq (t 43) (.k .np)), o 45 (.pick (t 42) (t 44) (.k (.bo false)))] [39])
(.cond (t 45)
(.seq (.reg true [
mV 46 7, nK 47 46, fA 48 0 47, lD 49 1 48, fA 50 2 3, lD 51 1 50, cR 52 82 [t 49, t 51], fA 53 1 5, sO 1 53 52] [50, 53])
(.reg false [
mV 54 0, cR 55 109 [t 54]] []))
.skip)))
(.seq (.reg false [
mV 56 0, nK 57 56, fA 58 26 57, lD 59 1 58, fA 60 2 5, sO 1 60 59] [60])
(.seq (.reg false [
mV 61 0, nK 62 61, fA 63 26 62, n (.sto 1 (t 63) (.k .ns))] [])
(s [lQ 64 3 5, sO 3 4 64]
.ret)))))))))⟩
def c76 : Ev.Fn := d76.den
def p76 : Pol := { P0 .rw with loc := [3, 4, 5], ord := [(2, [0, 1, 4, 2, 3, 5])], clr := [(4, [18]), (5, [21]), (6, [29, 32]), (8, [36]), (9, [39]), (10, [50, 53]), (12, [60])] }
theorem r76 : FnOK Tryz.prog mds 76 c76 := .read (pol := p76) (d := d76) Tryz.func76 (by kernel_rfl) (by kernel_rfl) rfl rfl (by kernel_rfl)

def d86 : DFn := ⟨[(.c (.sl [.one, .one, .one, (.sl [.one, .one]), .one, .one, .one, .one, .one]))], [(.c (.sl [.one, .one, .one, (.sl [.one, .one]), .one, .one, .one, .one, .one]))], .rw, [.tmp 2],
(s [mK 2 .ns]
(.seq (s [mV 3 0, o 4 (.hnd (.eqs .eql) [t 3, (.k .ns)])]
(.cond (t 4)
(s [mK 2 .ns]
.ret)
.skip))
(s [o 5 (.bsl 9 [] []), mV 6 0, o 7 (.app 9 88 (t 5) (t 6)), mV 2 7]
.ret)))⟩
def c86 : Ev.Fn := d86.den
def p86 : Pol := { P0 .rw with heap := [5], own := [5], ord := [(3, [1, 0, 2, 3])], hnd := [4] }
theorem r86 : FnOK Tryz.prog mds 86 c86 := .read (pol := p86) (d := d86) Tryz.func86 (by kernel_rfl) (by kernel_rfl) rfl rfl (by kernel_rfl)

def d96 : DFn := ⟨[(.c .one), (.c .one)], [(.c .one)], .pure, [.tmp 4],
(s [mK 4 (.it .i64 0)]
(s [mV 14 1, lN 15 true 14, mV 5 15]
(.seq (.blk 0 (s [mV 17 5, o 18 (b .eql (t 17) (k 0)), mV 19 18, x 20 19 (.mov (t 1)), x 21 19 (.mov (t 0)), x 22 19 (b .eql (t 20) (t 21)), o 23 (.pick (t 19) (.k (.bo true)) (t 22)), mV 16 23]
(.cond (t 16)
(s [mK 4 (.it .i64 0)]
.ret)
(s [mV 25 5, o 26 (b .eql (t 25) (k 1)), mV 24 26]
(.cond (t 24)
(s [mV 27 0, mV 28 1, o 29 (.ixs (t 28) (k 0)), cP 30 132 [t 27, t 29], mV 4 30]
.ret)
(s [mV 32 5, mV 33 0, lN 34 true 33, o 35 (b .geq (t 32) (t 34)), mV 31 35]
(.cond (t 31)
(s [mK 4 (.it .i64 (-1))]
.ret)
(s [mV 37 5, o 38 (.ld 1 false (.k .un)), o 39 (b .leq (t 37) (t 38)), mV 40 39, w 41 40 (.mov (t 0)), w 42 40 (.len true (t 41)), w 43 40 (b .leq (t 42) (k 64)), o 44 (.pick (t 40) (t 43) (.k (.bo false))), mV 36 44]
(.cond (t 36)
(s [mV 45 0, mV 46 1, cP 47 133 [t 45, t 46], mV 4 47]
.ret)
.skip)))))))))
(s [mV 48 1, o 49 (.ixs (t 48) (k 0)), mV 6 49]
(s [mV 50 1, o 51 (.ixs (t 50) (k 1)), mV 7 51]
(s [mK 8 (.it .i64 0)]
(s [mV 52 0, lN 53 true 52, mV 54 5, o 55 (b .sub (t 53) (t 54)), o 56 (b .add (t 55) (k 1)), mV 9 56]
(s [mK 10 (.it .i64 0)]
(.seq (.blk 1 (.loop [0, 1, 5, 6, 7, 8, 9, 10] []
(.seq (s [mV 57 8, mV 58 9, o 59 (b .lss (t 57) (t 58))]
(.cond (t 59)
.skip
(.exit 1)))
(.blk 2 (.seq (s [mV 60 0, mV 61 8, o 62 (.ixs (t 60) (t 61)), mV 63 6, o 64 (b .neq (t 62) (t 63))]
(.cond (t 64)
(s [mV 65 0, mV 66 8, o 67 (b .add (t 66) (k 1)), mV 68 9, o 69 (.slc true 0 (t 65) (some (t 67)) (some (t 68))), mV 70 6, cP 71 132 [t 69, t 70], mV 11 71]
(.seq (s [mV 72 11, o 73 (b .lss (t 72) (k 0))]
(.cond (t 73)
(s [mK 4 (.it .i64 (-1))]
.ret)
.skip))
(r [mV 74 8, mV 75 11, o 76 (b .add (t 75) (k 1)), o 77 (b .add (t 74) (t 76)), mV 8 77])))
.skip))
(.seq (s [mV 78 0, mV 79 8, o 80 (b .add (t 79) (k 1)), o 81 (.ixs (t 78) (t 80)), mV 82 7, o 83 (b .eql (t 81) (t 82)), mV 84 83, w 85 84 (.mov (t 0)), w 86 84 (.mov (t 8)), w 87 84 (.mov (t 8)), w 88 84 (.mov (t 5)), w 89 84 (b .add (t 87) (t 88)), w 90 84 (.slc true 0 (t 85) (some (t 86)) (some (t 89))), w 91 84 (.mov (t 1)), w 92 84 (b .eql (t 90) (t 91)), o 93 (.pick (t 84) (t 92) (.k (.bo false)))]
(.cond (t 93)
(s [mV 94 8, mV 4 94]
.ret)
.skip))
(s [mV 95 8, o 96 (b .add (t 95) (k 1)), mV 8 96]
(s [mV 97 10, o 98 (b .add (t 97) (k 1)), mV 10 98]
(s [mV 99 5, o 100 (.ld 1 false (.k .un)), o 101 (b .leq (t 99) (t 100)), mV 102 101, w 103 102 (.mov (t 10)), w 104 102 (.mov (t 8)), w 105 102 (.call false .pure 134 [t 104]), w 106 102 (b .gtr (t 103) (t 105)), o 107 (.pick (t 102) (t 106) (.k (.bo false)))]
(.cond (t 107)
(s [mV 108 0, mV 109 8, o 110 (.slc true 0 (t 108) (some (t 109)) none), mV 111 1, cP 112 133 [t 110, t 111], mV 12 112]
(.seq (s [mV 113 12, o 114 (b .geq (t 113) (k 0))]
(.cond (t 114)
(s [mV 115 12, mV 116 8, o 117 (b .add (t 115) (t 116)), mV 4 117]
.ret)
.skip))
(s [mK 4 (.it .i64 (-1))]
.ret)))
(s [mV 118 5, o 119 (.ld 1 false (.k .un)), o 120 (b .gtr (t 118) (t 119)), mV 121 120, w 122 121 (.mov (t 10)), w 123 121 (.mov (t 8)), w 124 121 (b .shr (t 123) (.k (.it .u64 4))), w 125 121 (b .add (k 4) (t 124)), w 126 121 (b .geq (t 122) (t 125)), o 127 (.pick (t 121) (t 126) (.k (.bo false))), mV 128 127, w 129 128 (.mov (t 8)), w 130 128 (.mov (t 9)), w 131 128 (b .lss (t 129) (t 130)), o 132 (.pick (t 128) (t 131) (.k (.bo false)))]
(.cond (t 132)
(s [mV 133 0, mV 134 8, o 135 (.slc true 0 (t 133) (some (t 134)) none), mV 136 1, cP 137 135 [t 135, t 136], mV 13 137]
(.seq (s [mV 138 13, o 139 (b .lss (t 138) (k 0))]
(.cond (t 139)
(s [mK 4 (.it .i64 (-1))]
.ret)
.skip))
(s [mV 140 8, mV 141 13, o 142 (b .add (t 140) (t 141)), mV 4 142]
.ret)))
.skip))))))))))))
(s [mK 4 (.it .i64 (-1))]
.ret))))))))))⟩
def c96 : Ev.Fn := d96.den
def p96 : Pol := { P0 .pure with mask := [(15, [0, 1, 5, 6, 7, 8, 9, 10], [])] }
theorem r96 : FnOK Tryz.prog mds 96 c96 := .read (pol := p96) (d := d96) Tryz.func96 (by kernel_rfl) (by kernel_rfl) rfl rfl (by kernel_rfl)

def d97 : DFn := ⟨[(.c .one)], [(.c .one), (.c .one)], .rw, [.tmp 2, .tmp 3],
(s [mK 2 (.it .i64 0), mK 3 .nf]
(s [mV 11 0, lN 12 true 11, mV 4 12]
(.seq (s [mK 13 (.bo false), w 14 13 (.mov (t 4)), w 15 13 (b .lss (k 0) (t 14)), w 16 13 (.mov (t 15)), w 17 16 (.mov (t 4)), w 18 16 (b .lss (t 17) (k 10)), w 19 13 (.pick (t 16) (t 18) (.k (.bo false))), o 20 (.pick (t 13) (t 19) (.k (.bo false))), mV 21 20, x 22 21 (.mov (.k (.bo true))), w 23 22 (.mov (t 4)), w 24 22 (b .lss (k 0) (t 23)), w 25 22 (.mov (t 24)), w 26 25 (.mov (t 4)), w 27 25 (b .lss (t 26) (k 19)), w 28 22 (.pick (t 25) (t 27) (.k (.bo false))), x 29 21 (.pick (t 22) (t 28) (.k (.bo false))), o 30 (.pick (t 21) (.k (.bo true)) (t 29))]
(.cond (t 30)
(s [mV 31 0, mV 5 31]
(.seq (s [mV 32 0, o 33 (.ixs (t 32) (k 0)), o 34 (b .eql (t 33) (.k (.it .u8 45))), mV 35 34, x 36 35 (.mov (t 0)), x 37 35 (.ixs (t 36) (k 0)), x 38 35 (b .eql (t 37) (.k (.it .u8 43))), o 39 (.pick (t 35) (.k (.bo true)) (t 38))]
(.cond (t 39)
(s [mV 40 0, o 41 (.slc true 0 (t 40) (some (k 1)) none), mV 0 41]
(s [mV 42 0, lN 43 true 42, o 44 (b .lss (t 43) (k 1))]
(.cond (t 44)
(s [o 45 (.mki 236 (k 2)), mK 2 (.it .i64 0), mV 3 45]
.ret)
.skip)))
.skip))
(s [mK 6 (.it .i64 0)]
(.seq (s [mV 46 0, o 47 (.cnv .s2v (t 46)), lN 48 false 47, mK 49 (.it .i64 0)]
(.blk 0 (.loop [5, 6, 47, 48, 49] []
(s [o 50 (b .lss (t 49) (t 48))]
(.seq (.cond (t 50)
.skip
(.exit 0))
(.seq (.blk 1 (s [o 51 (.ias 1 (t 47) (t 49)), lD 52 1 51, mV 8 52]
(s [mV 53 8, o 54 (b .sub (t 53) (.k (.it .u8 48))), mV 8 54]
(.seq (s [mV 55 8, o 56 (b .gtr (t 55) (.k (.it .u8 9)))]
(.cond (t 56)
(s [o 57 (.mki 236 (k 2)), mK 2 (.it .i64 0), mV 3 57]
.ret)
.skip))
(r [mV 58 6, o 59 (b .mul (t 58) (k 10)), mV 60 8, cV 61 .i64 60, o 62 (b .add (t 59) (t 61)), mV 6 62])))))
(r [o 63 (b .add (t 49) (k 1)), mV 49 63])))))))
(.seq (s [mV 64 5, o 65 (.ixs (t 64) (k 0)), o 66 (b .eql (t 65) (.k (.it .u8 45)))]
(.cond (t 66)
(r [mV 67 6, o 68 (.un .neg (t 67)), mV 6 68])
.skip))
(s [mV 69 6, mV 2 69, mK 3 .nf]
.ret))))))
.skip))
(s [mV 71 0, cR 72 136 [t 71, (k 10), (k 0)], mV 70 72, eX 73 70 0, eX 74 70 1, mV 9 73, mV 10 74]
(s [mV 75 9, mV 76 10, mV 2 75, mV 3 76]
.ret)))))⟩
def c97 : Ev.Fn := d97.den
def p97 : Pol := { P0 .rw with mask := [(10, [5, 6, 47, 48, 49], [])] }
theorem r97 : FnOK Tryz.prog mds 97 c97 := .read (pol := p97) (d := d97) Tryz.func97 (by kernel_rfl) (by kernel_rfl) rfl rfl (by kernel_rfl)

def d100 : DFn := ⟨[(.c .one), (.c .one), (.c .one)], [(.c .one)], .pure, [.tmp 6],
(s [mK 6 (.bo false)]
(s [mV 7 0, mV 8 1, o 9 (b .geq (t 7) (t 8)), mV 10 9, w 11 10 (.mov (t 0)), w 12 10 (.mov (t 2)), w 13 10 (b .leq (t 11) (t 12)), o 14 (.pick (t 10) (t 13) (.k (.bo false))), mV 6 14]
.ret))⟩
def c100 : Ev.Fn := d100.den
def p100 : Pol := P0 .pure
theorem r100 : FnOK Tryz.prog mds 100 c100 := .read (pol := p100) (d := d100) Tryz.func100 (by kernel_rfl) (by kernel_rfl) rfl rfl (by kernel_rfl)

def d101 : DFn := ⟨[], [(.g [.one, .one, .one, .one, .one])], .pure, [.cell 0 5 true],
(s [o 0 (.alc [(.it .i64 0), (.it .i64 0), (.it .i64 0), (.it .i64 0), (.it .i64 0)])]
(s [o 1 (.bld [(.it .i64 0), (.it .i64 0), (.it .i64 0), (.it .i64 0), (.it .i64 0)] [(0, 1, (k 4096)), (1, 1, (k 2147483647)), (2, 1, (k 65535)), (3, 1, (k 16384)), (4, 1, (k 2147483647))]), sO 5 0 1]
.ret))⟩
def c101 : Ev.Fn := d101.den
def p101 : Pol := { P0 .pure with loc := [0] }
theorem r101 : FnOK Tryz.prog mds 101 c101 := .read (pol := p101) (d := d101) Tryz.func101 (by kernel_rfl) (by kernel_rfl) rfl rfl (by kernel_rfl)

def d102 : DFn := ⟨[(.c .one), (.c .one)], [(.c .one), (.c .one)], .rw, [.tmp 4, .tmp 5],
(s [mK 4 .np, mK 5 (.it .i64 0)]
(.seq (s [mV 7 0, cP 8 141 [t 7], o 9 (.un .not (t 8))]
(.cond (t 9)
(s [mK 4 .np, mK 5 (.it .i64 1)]
.ret)
.skip))
(s [mV 10 0, o 11 (.bld [(.it .i64 0), (.st []), .ns, (.it .i64 0), (.it .i64 0), (.it .i64 0)] [(0, 1, (t 10))]), o 12 (.bxh (t 11)), mV 6 12]
(.seq (s [mV 13 1]
(.cond (t 13)
(r [mV 14 6, nK 15 14, fA 16 1 15, n (.sto 1 (t 16) (.k (.st [80, 82, 73, 32, 42, 32, 72, 84, 84, 80, 47, 50, 46, 48, 13, 10, 13, 10, 83, 77, 13, 10, 13, 10])))])
.skip))
(s [mV 17 6, mV 4 17, mK 5 (.it .i64 0)]
.ret)))))⟩
def c102 : Ev.Fn := d102.den
def p102 : Pol := P0 .rw
theorem r102 : FnOK Tryz.prog mds 102 c102 := .read (pol := p102) (d := d102) Tryz.func102 (by kernel_rfl) (by kernel_rfl) rfl rfl (by kernel_rfl)

def d103 : DFn := ⟨[(.c .one), (.c .one)], [(.c .one), (.c .one)], .rw, [.tmp 4, .tmp 5],
(s [mK 4 .np, mK 5 (.it .i64 0)]
(.seq (s [mV 8 1, o 9 (b .lss (t 8) (k 0)), mV 10 9, x 11 10 (.mov (t 1)), x 12 10 (b .gtr (t 11) (k 2147483647)), o 13 (.pick (t 10) (.k (.bo true)) (t 12))]
(.cond (t 13)
(s [mK 4 .np, mK 5 (.it .i64 1)]
.ret)
.skip))
(s [mV 15 0, cR 16 142 [t 15], mV 14 16, eX 17 14 0, eX 18 14 1, mV 6 17, mV 7 18]
(.seq (s [mV 19 7, o 20 (b .neq (t 19) (k 0))]
(.cond (t 20)
(s [mV 21 7, mK 4 .np, mV 5 21]
.ret)
.skip))
(s [mV 22 6, mV 23 0, mV 24 1, o 25 (.bld [.np, (.it .i64 0), (.it .i64 0), (.bo false)] [(0, 1, (t 22)), (1, 1, (t 23)), (2, 1, (t 24))]), o 26 (.bxh (t 25)), mV 4 26, mK 5 (.it .i64 0)]
.ret)))))⟩
def c103 : Ev.Fn := d103.den
def p103 : Pol := P0 .rw
theorem r103 : FnOK Tryz.prog mds 103 c103 := .read (pol := p103) (d := d103) Tryz.func103 (by kernel_rfl) (by kernel_rfl) rfl rfl (by kernel_rfl)

def d104 : DFn := ⟨[(.c .one)], [(.c .one), (.c .one)], .rw, [.tmp 2, .tmp 3],
(s [mK 2 .np, mK 3 (.it .i64 0)]
(s [mV 7 0, cR 8 142 [t 7], mV 6 8, eX 9 6 0, eX 10 6 1, mV 4 9, mV 5 10]
(.seq (s [mV 11 5, o 12 (b .neq (t 11) (k 0))]
(.cond (t 12)
(s [mV 13 5, mK 2 .np, mV 3 13]
.ret)
.skip))
(s [mV 14 4, o 15 (.bld [.np, (.bo false), (.it .i64 0)] [(0, 1, (t 14)), (1, 1, (.k (.bo true)))]), o 16 (.bxh (t 15)), mV 2 16, mK 3 (.it .i64 0)]
.ret))))⟩
def c104 : Ev.Fn := d104.den
def p104 : Pol := P0 .rw
theorem r104 : FnOK Tryz.prog mds 104 c104 := .read (pol := p104) (d := d104) Tryz.func104 (by kernel_rfl) (by kernel_rfl) rfl rfl (by kernel_rfl)

def d105 : DFn := ⟨[(.c .one)], [(.g [.one]), (.c .one)], .pure, [.cell 2 1 true, .tmp 3],
(s [o 2 (.alc [(.it .i64 0)]), mK 3 (.it .i64 0)]
(.seq (s [mV 4 0, cP 5 143 [t 4], o 6 (.un .not (t 5))]
(.cond (t 6)
(s [o 7 (.bld [(.it .i64 0)] []), sO 1 2 7, mK 3 (.it .i64 1)]
.ret)
.skip))
(s [mV 8 0, o 9 (.bld [(.it .i64 0)] [(0, 1, (t 8))]), sO 1 2 9, mK 3 (.it .i64 0)]
.ret)))⟩
def c105 : Ev.Fn := d105.den
def p105 : Pol := { P0 .pure with loc := [2], ord := [(0, [1, 0])] }
theorem r105 : FnOK Tryz.prog mds 105 c105 := .read (pol := p105) (d := d105) Tryz.func105 (by kernel_rfl) (by kernel_rfl) rfl rfl (by kernel_rfl)

def d106 : DFn := ⟨[(.c (.sl [.one])), (.g [.one, .one, .one, (.sl [.one])])], [(.c (.sl [.one]))], .pure, [.tmp 4],
(s [o 3 (.box (t 1)), mK 4 .ns]
(.seq (s [lQ 8 4 3, cP 9 144 [t 8], o 10 (.un .not (t 9))]
(.cond (t 10)
(s [mV 11 0, o 12 (.app 1 1 (.k .ns) (t 11)), mV 4 12]
.ret)
.skip))
(.seq (.reg true [
fA 13 3 3, lD 14 1 13, lN 15 false 14, fA 16 2 3, lD 17 1 16, mV 5 15, mV 6 17] [13, 16])
(s [mV 18 0, lN 19 false 18, o 20 (b .add (t 19) (k 9)), mV 21 5, o 22 (b .add (t 20) (t 21)), o 23 (.mks 1 1 [(.it .u8 0)] (k 0) (t 22)), mV 7 23]
(s [mV 24 7, mV 25 0, o 26 (.app 1 1 (t 24) (t 25)), mV 7 26]
(.seq (.reg false [
mV 27 7, mV 28 5, o 29 (b .shr (t 28) (.k (.it .u64 16))), cV 30 .u8 29, mV 31 5, o 32 (b .shr (t 31) (.k (.it .u64 8))), cV 33 .u8 32, mV 34 5, cV 35 .u8 34, fA 36 0 3, lD 37 1 36, cV 38 .u8 37, fA 39 1 3, lD 40 1 39, cV 41 .u8 40, mV 42 6, o 43 (b .shr (t 42) (.k (.it .u64 24))), cV 44 .u8 43, mV 45 6, o 46 (b .shr (t 45) (.k (.it .u64 16))), cV 47 .u8 46, mV 48 6, o 49 (b .shr (t 48) (.k (.it .u64 8))), cV 50 .u8 49, mV 51 6, cV 52 .u8 51, o 53 (.bsv [.one] 1 (List.replicate 9 [(.it .u8 0)]) [(0, (t 30)), (1, (t 33)), (2, (t 35)), (3, (t 38)), (4, (t 41)), (5, (t 44)), (6, (t 47)), (7, (t 50)), (8, (t 52))]), o 54 (.app 1 1 (t 27) (t 53)), mV 7 54] [36, 39])
(.seq (.reg false [
mV 55 7, fA 56 3 3, lD 57 1 56, o 58 (.app 1 1 (t 55) (t 57)), mV 4 58] [56])
.ret)))))))⟩
def c106 : Ev.Fn := d106.den
def p106 : Pol := { P0 .pure with loc := [3], heap := [26, 54], own := [26, 54], ord := [(0, [1, 0])], clr := [(3, [13, 16]), (6, [36, 39]), (7, [56])] }
theorem r106 : FnOK Tryz.prog mds 106 c106 := .read (pol := p106) (d := d106) Tryz.func106 (by kernel_rfl) (by kernel_rfl) rfl rfl (by kernel_rfl)

def d107 : DFn := ⟨[(.c (.sl [.one, .one]))], [(.c (.sl [.one]))], .pure, [.tmp 2],
(.seq (.reg false [
mK 2 .ns] [])
(s [mK 3 .ns]
(.seq (s [mV 7 0, lN 8 false 7, mK 9 (.it .i64 0)]
(.blk 0 (.loop [3, 7, 8, 9] [5]
(s [o 10 (b .lss (t 9) (t 8))]
(.seq (.cond (t 10)
.skip
(.exit 0))
(.seq (.blk 1 (s [o 11 (.ias 2 (t 7) (t 9)), lQ 12 2 11, o 5 (.alc [(.it .i64 0), (.it .i64 0)]), sO 2 5 12]
(.seq (.reg false [
fA 13 1 5, lD 14 1 13, mV 6 14] [13])
(.reg false [
mV 15 3, fA 16 0 5, lD 17 1 16, o 18 (b .shr (t 17) (.k (.it .u64 8))), cV 19 .u8 18, fA 20 0 5, lD 21 1 20, cV 22 .u8 21, mV 23 6, o 24 (b .shr (t 23) (.k (.it .u64 24))), cV 25 .u8 24, mV 26 6, o 27 (b .shr (t 26) (.k (.it .u64 16))), cV 28 .u8 27, mV 29 6, o 30 (b .shr (t 29) (.k (.it .u64 8))), cV 31 .u8 30, mV 32 6, cV 33 .u8 32, o 34 (.bsv [.one] 1 (List.replicate 6 [(.it .u8 0)]) [(0, (t 19)), (1, (t 22)), (2, (t 25)), (3, (t 28)), (4, (t 31)), (5, (t 33))]), o 35 (.app 1 1 (t 15) (t 34)), mV 3 35] [16, 20]))))
(.reg false [
o 36 (b .add (t 9) (k 1)), mV 9 36] [])))))))
(.seq (r [mV 37 3, mV 2 37])
.ret))))⟩
def c107 : Ev.Fn := d107.den
def p107 : Pol := { P0 .pure with loc := [5], heap := [35], own := [35], clr := [(5, [13]), (6, [16, 20])], mask := [(3, [3, 7, 8, 9], [5])] }
theorem r107 : FnOK Tryz.prog mds 107 c107 := .read (pol := p107) (d := d107) Tryz.func107 (by kernel_rfl) (by kernel_rfl) rfl rfl (by kernel_rfl)

def d108 : DFn := ⟨[(.c .one), (.g [.one, .one, .one, (.sl [.one])])], [(.c .one)], .rw, [.tmp 4],
(s [o 3 (.box (t 1)), mK 4 (.bo false)]
(.seq (.seq (.reg false [
fA 5 0 3, lD 6 1 5] [5])
(.blk 0 (.seq (.reg false [
o 8 (b .eql (t 6) (k 1)), mV 7 8] [])
(.cond (t 7)
(.seq (.reg false [
mV 9 0, fA 10 1 3, lD 11 1 10, cR 12 145 [t 9, t 11], mV 4 12] [10])
.ret)
(.seq (.seq (.reg false [
o 14 (b .eql (t 6) (k 2)), mV 13 14] [])
(.cond (t 13)
.skip
(s [o 15 (b .eql (t 6) (k 3)), mV 13 15]
(.cond (t 13)
.skip
(r [o 16 (b .eql (t 6) (k 4)), mV 13 16])))))
(.cond (t 13)
(s [mV 17 0, lQ 18 4 3, cR 19 146 [t 17, t 18], mV 4 19]
.ret)
(.seq (s [o 21 (b .eql (t 6) (k 5)), mV 20 21]
(.cond (t 20)
.skip
(s [o 22 (b .eql (t 6) (k 6)), mV 20 22]
(.cond (t 20)
.skip
(r [o 23 (b .eql (t 6) (k 7)), mV 20 23])))))
(.cond (t 20)
(s [mV 24 0, lQ 25 4 3, cR 26 147 [t 24, t 25], mV 4 26]
.ret)
(s [o 28 (b .eql (t 6) (k 8)), mV 27 28]
(.cond (t 27)
(.seq (.reg true [
mV 29 0, mV 30 0, nK 31 30, fA 32 24 31, lD 33 1 32, fA 34 2 3, lD 35 1 34, o 36 (.mnx true (t 33) (t 35)), o 37 (.mnx false (t 36) (k 2147483647)), nK 38 29, fA 39 24 38, sO 1 39 37] [34])
(s [mK 4 (.bo true)]
.ret))
.skip))))))))))
(s [mK 4 (.bo false)]
.ret)))⟩
def c108 : Ev.Fn := d108.den
def p108 : Pol := { P0 .rw with loc := [3], heap := [37], own := [37], ord := [(0, [1, 0])], clr := [(1, [5]), (3, [10]), (13, [34])] }
theorem r108 : FnOK Tryz.prog mds 108 c108 := .read (pol := p108) (d := d108) Tryz.func108 (by kernel_rfl) (by kernel_rfl) rfl rfl (by kernel_rfl)

def d109 : DFn := ⟨[(.c .one)], [], .rw, [],
(s [o 1 (.bxh (t 0))]
(.seq (s [lD 6 1 1, nK 7 6, fA 8 7 7, lQ 9 8 8, mK 10 (.it .i64 0)]
(.blk 0 (.loop [1, 9, 10] []
(s [o 11 (b .lss (t 10) (k 8))]
(.seq (.cond (t 11)
.skip
(.exit 0))
(.seq (.blk 1 (s [mV 12 10, o 13 (.ixa 8 1 false (t 9) (t 10)), mV 2 12, mV 3 13]
(s [mV 14 3, o 15 (.bin .ptr .neq (t 14) (.k .np)), mV 16 15, w 17 16 (.mov (t 3)), w 18 16 (.call false .rw 148 [t 17]), o 19 (.pick (t 16) (t 18) (.k (.bo false)))]
(.cond (t 19)
(r [lD 20 1 1, mV 21 2, cR 22 149 [t 20, t 21]])
.skip))))
(r [o 23 (b .add (t 10) (k 1)), mV 10 23])))))))
(.seq (s [lD 24 1 1, nK 25 24, fA 26 15 25, lQ 27 8 26, mK 28 (.it .i64 0)]
(.blk 2 (.loop [1, 27, 28] []
(s [o 29 (b .lss (t 28) (k 8))]
(.seq (.cond (t 29)
.skip
(.exit 2))
(.seq (.blk 3 (s [mV 30 28, o 31 (.ixa 8 1 false (t 27) (t 28)), mV 4 30, mV 5 31]
(s [mV 32 5, o 33 (.bin .ptr .neq (t 32) (.k .np)), mV 34 33, w 35 34 (.mov (t 5)), w 36 34 (.nck (t 35)), w 37 34 (.fad 0 (t 36)), w 38 34 (.ld 1 false (t 37)), w 39 34 (.call false .rw 148 [t 38]), o 40 (.pick (t 34) (t 39) (.k (.bo false)))]
(.cond (t 40)
(r [lD 41 1 1, mV 42 4, cR 43 150 [t 41, t 42, (.k (.it .i64 (-1)))]])
.skip))))
(r [o 44 (b .add (t 28) (k 1)), mV 28 44])))))))
(s [lD 45 1 1, o 46 (.mkf 152 [] [t 1]), cR 47 151 [t 45, t 46]]
(s [lD 48 1 1, o 49 (.mkf 154 [] [t 1]), cR 50 151 [t 48, t 49]]
(r [lD 51 1 1, o 52 (.mkf 156 [] [t 1]), cR 53 151 [t 51, t 52]]))))))⟩
def c109 : Ev.Fn := d109.den
def p109 : Pol := { P0 .rw with mask := [(2, [1, 9, 10], []), (8, [1, 27, 28], [])], fns := [152, 154, 156] }
theorem r109 : FnOK Tryz.prog mds 109 c109 := .read (pol := p109) (d := d109) Tryz.func109 (by kernel_rfl) (by kernel_rfl) rfl rfl (by kernel_rfl)

def d110 : DFn := ⟨[(.c .one), (.c .one)], [(.c .one)], .rw, [.tmp 4],
(s [mK 4 .np]
(.seq (s [mV 5 1, o 6 (b .lss (t 5) (k 0)), mV 7 6, x 8 7 (.mov (t 1)), x 9 7 (b .geq (t 8) (k 8)), o 10 (.pick (t 7) (.k (.bo true)) (t 9))]
(.cond (t 10)
(s [mK 4 .np]
.ret)
.skip))
(s [mV 11 0, mV 12 1, nK 13 11, fA 14 7 13, o 15 (.iaa 8 1 (t 14) (t 12)), lD 16 1 15, mV 4 16]
.ret)))⟩
def c110 : Ev.Fn := d110.den
def p110 : Pol := P0 .rw
theorem r110 : FnOK Tryz.prog mds 110 c110 := .read (pol := p110) (d := d110) Tryz.func110 (by kernel_rfl) (by kernel_rfl) rfl rfl (by kernel_rfl)

def d111 : DFn := ⟨[(.c .one), (.c .one)], [(.c .one)], .rw, [.tmp 4],
(s [mK 4 .np]
(.seq (s [mV 5 1, o 6 (b .lss (t 5) (k 0)), mV 7 6, x 8 7 (.mov (t 1)), x 9 7 (b .geq (t 8) (k 8)), o 10 (.pick (t 7) (.k (.bo true)) (t 9))]
(.cond (t 10)
(s [mK 4 .np]
.ret)
.skip))
(s [mV 11 0, mV 12 1, nK 13 11, fA 14 15 13, o 15 (.iaa 8 1 (t 14) (t 12)), lD 16 1 15, mV 4 16]
.ret)))⟩
def c111 : Ev.Fn := d111.den
def p111 : Pol := P0 .rw
theorem r111 : FnOK Tryz.prog mds 111 c111 := .read (pol := p111) (d := d111) Tryz.func111 (by kernel_rfl) (by kernel_rfl) rfl rfl (by kernel_rfl)

def d132 : DFn := ⟨[(.c .one), (.c .one)], [(.c .one)], .pure, [.tmp 4],
(s [mK 4 (.it .i64 0)]
(s [mV 5 0, mV 6 1, o 7 (.ixb (t 5) (t 6)), mV 4 7]
.ret))⟩
def c132 : Ev.Fn := d132.den
def p132 : Pol := P0 .pure
theorem r132 : FnOK Tryz.prog mds 132 c132 := .read (pol := p132) (d := d132) Tryz.func132 (by kernel_rfl) (by kernel_rfl) rfl rfl (by kernel_rfl)

def d141 : DFn := ⟨[(.c .one)], [(.c .one)], .pure, [.tmp 2],
(s [mK 2 (.bo false)]
(s [mV 3 0, o 4 (b .geq (t 3) (k 16384)), mV 5 4, w 6 5 (.mov (t 0)), w 7 5 (b .leq (t 6) (k 16777215)), o 8 (.pick (t 5) (t 7) (.k (.bo false))), mV 2 8]
.ret))⟩
def c141 : Ev.Fn := d141.den
def p141 : Pol := P0 .pure
theorem r141 : FnOK Tryz.prog mds 141 c141 := .read (pol := p141) (d := d141) Tryz.func141 (by kernel_rfl) (by kernel_rfl) rfl rfl (by kernel_rfl)

def d142 : DFn := ⟨[(.c .one)], [(.c .one), (.c .one)], .rw, [.tmp 2, .tmp 3],
(s [mK 2 .np, mK 3 (.it .i64 0)]
(.seq (s [mV 4 0, cP 5 177 [t 4], o 6 (.un .not (t 5))]
(.cond (t 6)
(s [mK 2 .np, mK 3 (.it .i64 1)]
.ret)
.skip))
(s [cP 7 178 [], mV 8 0, o 9 (.bld [.ns, .ns, (.it .i64 0), (.it .i64 0)] [(1, 1, (t 7)), (3, 1, (t 8))]), o 10 (.bxh (t 9)), mV 2 10, mK 3 (.it .i64 0)]
.ret)))⟩
def c142 : Ev.Fn := d142.den
def p142 : Pol := { P0 .rw with ord := [(3, [1, 0, 2, 3, 4, 5])] }
theorem r142 : FnOK Tryz.prog mds 142 c142 := .read (pol := p142) (d := d142) Tryz.func142 (by kernel_rfl) (by kernel_rfl) rfl rfl (by kernel_rfl)

def d143 : DFn := ⟨[(.c .one)], [(.c .one)], .pure, [.tmp 2],
(s [mK 2 (.bo false)]
(s [mV 3 0, o 4 (b .geq (t 3) (k 0)), mV 5 4, w 6 5 (.mov (t 0)), w 7 5 (b .leq (t 6) (k 2147483647)), o 8 (.pick (t 5) (t 7) (.k (.bo false))), mV 2 8]
.ret))⟩
def c143 : Ev.Fn := d143.den
def p143 : Pol := P0 .pure
theorem r143 : FnOK Tryz.prog mds 143 c143 := .read (pol := p143) (d := d143) Tryz.func143 (by kernel_rfl) (by kernel_rfl) rfl rfl (by kernel_rfl)

def d144 : DFn := ⟨[(.g [.one, .one, .one, (.sl [.one])])], [(.c .one)], .pure, [.tmp 2],
(s [o 1 (.box (t 0)), mK 2 (.bo false)]
(.seq (.reg false [
fA 3 0 1, lD 4 1 3, o 5 (b .geq (t 4) (k 0)), mV 6 5, w 7 6 (.fad 0 (t 1)), w 8 6 (.ld 1 false (t 7)), w 9 6 (b .leq (t 8) (k 255)), o 10 (.pick (t 6) (t 9) (.k (.bo false))), mV 11 10, w 12 11 (.fad 1 (t 1)), w 13 11 (.ld 1 false (t 12)), w 14 11 (b .geq (t 13) (k 0)), o 15 (.pick (t 11) (t 14) (.k (.bo false))), mV 16 15, w 17 16 (.fad 1 (t 1)), w 18 16 (.ld 1 false (t 17)), w 19 16 (b .leq (t 18) (k 255)), o 20 (.pick (t 16) (t 19) (.k (.bo false))), mV 21 20, w 22 21 (.fad 2 (t 1)), w 23 21 (.ld 1 false (t 22)), w 24 21 (b .geq (t 23) (k 0)), o 25 (.pick (t 21) (t 24) (.k (.bo false))), mV 26 25, w 27 26 (.fad 2 (t 1)), w 28 26 (.ld 1 false (t 27)), w 29 26 (b .leq (t 28) (k 2147483647)), o 30 (.pick (t 26) (t 29) (.k (.bo false))), mV 31 30, w 32 31 (.fad 3 (t 1)), w 33 31 (.ld 1 false (t 32)), w 34 31 (.len false (t 33)), w 35 31 (b .leq (t 34) (k 16777215)), o 36 (.pick (t 31) (t 35) (.k (.bo false))), mV 2 36] [3, 7, 12, 17, 22, 27, 32])
.ret))⟩
def c144 : Ev.Fn := d144.den
def p144 : Pol := { P0 .pure with loc := [1], ord := [(0, [1, 0])], clr := [(1, [3, 7, 12, 17, 22, 27, 32])] }
theorem r144 : FnOK Tryz.prog mds 144 c144 := .read (pol := p144) (d := d144) Tryz.func144 (by kernel_rfl) (by kernel_rfl) rfl rfl (by kernel_rfl)

def d145 : DFn := ⟨[(.c .one), (.c .one)], [(.c .one)], .rw, [.tmp 4],
(.seq (.reg false [
mK 4 (.bo false)] [])
(.seq (s [mV 5 1, o 6 (b .lss (t 5) (k 0)), mV 7 6, x 8 7 (.mov (t 1)), x 9 7 (b .geq (t 8) (k 8)), o 10 (.pick (t 7) (.k (.bo true)) (t 9)), mV 11 10, x 12 11 (.mov (t 0)), x 13 11 (.mov (t 1)), x 14 11 (.nck (t 12)), x 15 11 (.fad 7 (t 14)), x 16 11 (.iaa 8 1 (t 15) (t 13)), x 17 11 (.ld 1 false (t 16)), x 18 11 (.bin .ptr .neq (t 17) (.k .np)), o 19 (.pick (t 11) (.k (.bo true)) (t 18))]
(.cond (t 19)
(s [mK 4 (.bo false)]
.ret)
.skip))
(.seq (.reg true [
mV 21 0, mV 22 1, mV 23 0, nK 24 23, fA 25 0 24, fA 26 2 25, lQ 27 3 26, nK 31 21, fA 32 7 31, o 28 (.call true .rw 73 [(.k (.bo true)), t 27]), mV 20 28, eX 29 20 0, eX 30 20 1, o 33 (.iaa 8 1 (t 32) (t 22)), sO 1 33 29] [])
(s [mK 4 (.bo true)]
.ret))))⟩
def c145 : Ev.Fn := d145.den
def p145 : Pol := { P0 .rw with heap := [28], own := [28], ord := [(3, [0, 1, 2, 3, 4, 5, 6, 11, 12, 7, 8, 9, 10, 13, 14])] }
theorem r145 : FnOK Tryz.prog mds 145 c145 := .read (pol := p145) (d := d145) Tryz.func145 (by kernel_rfl) (by kernel_rfl) rfl rfl (by kernel_rfl)

def d148 : DFn := ⟨[(.c .one)], [(.c .one)], .rw, [.tmp 2],
(s [mK 2 (.bo false)]
(s [mV 3 0, nK 4 3, fA 5 24 4, lD 6 1 5, mV 2 6]
.ret))⟩
def c148 : Ev.Fn := d148.den
def p148 : Pol := P0 .rw
theorem r148 : FnOK Tryz.prog mds 148 c148 := .read (pol := p148) (d := d148) Tryz.func148 (by kernel_rfl) (by kernel_rfl) rfl rfl (by kernel_rfl)

def d151 : DFn := ⟨[(.c .one), (.c .one)], [], .rw, [],
(s [mV 6 0, nK 7 6, fA 8 25 7, lD 9 1 8, cR 10 185 [t 9], lN 11 false 10, mK 12 (.it .i64 0)]
(.blk 0 (.loop [1, 10, 11, 12] []
(s [o 13 (b .lss (t 12) (t 11))]
(.seq (.cond (t 13)
.skip
(.exit 0))
(.seq (.blk 1 (s [o 14 (.ias 1 (t 10) (t 12)), lD 15 1 14, mV 5 15]
(s [mV 16 5, nK 17 16, fA 18 46 17, lD 19 1 18, o 20 (.un .not (t 19))]
(.cond (t 20)
(r [mV 21 1, mV 22 5, o 23 (.calv [] (t 21) [t 22])])
.skip))))
(r [o 24 (b .add (t 12) (k 1)), mV 12 24])))))))⟩
def c151 : Ev.Fn := d151.den
def p151 : Pol := { P0 .rw with ord := [(0, [0, 1, 2, 3, 6, 4, 5])], mask := [(1, [1, 10, 11, 12], [])] }
theorem r151 : FnOK Tryz.prog mds 151 c151 := .read (pol := p151) (d := d151) Tryz.func151 (by kernel_rfl) (by kernel_rfl) rfl rfl (by kernel_rfl)

def d177 : DFn := ⟨[(.c .one)], [(.c .one)], .pure, [.tmp 2],
(s [mK 2 (.bo false)]
(s [mV 3 0, o 4 (b .geq (t 3) (k 0)), mV 5 4, w 6 5 (.mov (t 0)), w 7 5 (b .leq (t 6) (k 65536)), o 8 (.pick (t 5) (t 7) (.k (.bo false))), mV 2 8]
.ret))⟩
def c177 : Ev.Fn := d177.den
def p177 : Pol := P0 .pure
theorem r177 : FnOK Tryz.prog mds 177 c177 := .read (pol := p177) (d := d177) Tryz.func177 (by kernel_rfl) (by kernel_rfl) rfl rfl (by kernel_rfl)

end Go.Proofs.YtmlmljnjgoekiaaGreatDoor.tab
