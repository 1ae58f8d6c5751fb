import Derived.Test.YtfnoiklmcmboeaaGreatDoorHand
import Derived.Test.YtfnoiklmcmboeaaGreatDoorRows
import Derived.KernelRfl
set_option linter.unusedVariables false
set_option linter.unusedSimpArgs false
set_option linter.unusedSectionVars false
/- the functions of the seat, read off the program -/
namespace Go.Proofs.YtfnoiklmcmboeaaGreatDoor.tab
open Go hiding Fn
open Ev

abbrev mV (d s : Nat) : DOp := ⟨some d, none, [], .mov (.t s)⟩
abbrev fA (d o s : Nat) : DOp := ⟨some d, none, [], .fad o (.t s)⟩
abbrev lD (d n s : Nat) : DOp := ⟨some d, none, [], .ld n false (.t s)⟩
abbrev lQ (d n s : Nat) : DOp := ⟨some d, none, [], .ld n true (.t s)⟩
abbrev nK (d s : Nat) : DOp := ⟨some d, none, [], .nck (.t s)⟩
abbrev sO (n a s : Nat) : DOp := ⟨none, none, [], .sto n (.t a) (.t s)⟩
abbrev eX (d s i : Nat) : DOp := ⟨some d, none, [], .ext (.t s) i⟩
abbrev mK (d : Nat) (v : V) : DOp := ⟨some d, none, [], .mov (.k v)⟩
abbrev cR (d f : Nat) (l : List A) : DOp := ⟨some d, none, [], .call false .rw f l⟩
abbrev cP (d f : Nat) (l : List A) : DOp := ⟨some d, none, [], .call false .pure f l⟩
abbrev lN (d : Nat) (q : Bool) (s : Nat) : DOp := ⟨some d, none, [], .len q (.t s)⟩
abbrev cV (d : Nat) (k : IntKind) (s : Nat) : DOp := ⟨some d, none, [], .cnv (.int k) (.t s)⟩
def mdl : List Md := [.pure, .pure, .pure, .pure, .pure, .rw, .pure, .rw, .rw, .pure, .rw, .pure, .pure, .rw, .rw, .rw, .rw, .rw, .rw, .rw, .rw, .rw, .rw, .rw, .rw, .rw, .rw, .pure, .rw, .ro, .rw, .rw, .rw, .rw, .pure, .pure, .rw, .pure, .pure, .rw, .rw, .rw, .pure, .rw, .rw, .rw, .rw, .rw, .rw, .rw, .rw, .pure, .pure, .rw, .rw, .rw, .pure, .pure, .pure, .rw, .rw, .rw, .rw, .rw, .rw, .rw, .rw, .rw, .rw, .rw, .rw, .rw, .pure, .rw, .rw, .rw, .rw, .rw, .rw, .rw, .pure, .pure, .rw, .ro, .ro, .rw, .rw, .rw, .rw, .rw, .pure, .pure, .rw, .pure, .pure, .rw, .rw, .rw, .rw, .rw, .rw, .rw, .rw, .rw, .pure, .pure, .pure, .pure, .rw, .rw, .rw, .pure, .rw, .pure, .rw, .rw, .pure, .rw, .rw, .pure, .rw, .pure, .rw, .rw, .rw, .rw, .rw, .pure, .pure, .rw, .rw, .rw, .rw, .rw, .rw, .rw, .rw, .rw, .rw, .rw, .pure, .pure, .pure, .pure, .pure, .pure, .rw, .rw, .pure, .pure, .rw, .rw, .pure, .pure, .pure, .pure, .pure, .pure, .rw, .pure, .pure, .pure, .rw, .rw, .rw, .rw, .rw, .rw, .rw, .rw, .pure, .pure, .rw, .rw, .rw, .rw, .pure, .rw, .pure, .pure, .pure, .rw, .pure, .pure, .rw, .rw, .pure, .pure, .rw, .pure, .pure, .rw, .rw, .rw, .rw, .rw, .pure, .rw, .pure, .pure, .pure, .rw, .pure, .pure, .rw, .rw, .pure, .pure, .pure, .pure, .rw, .rw, .rw, .rw, .pure, .rw, .rw, .pure, .rw, .rw, .rw, .pure, .pure, .pure, .rw, .pure, .pure, .rw, .rw, .pure, .rw, .pure, .pure, .pure, .pure, .pure, .pure, .rw, .pure, .rw, .pure, .pure, .pure, .pure, .pure, .pure, .pure, .pure, .pure, .rw, .rw, .rw, .rw, .pure, .pure, .pure, .pure, .pure, .pure, .pure, .pure, .rw, .rw, .rw, .rw, .pure, .rw, .rw, .rw, .pure, .pure, .pure, .pure, .pure, .pure, .rw, .pure, .pure, .ro, .pure, .pure, .pure, .pure, .rw, .pure, .rw, .pure, .pure, .pure, .pure, .pure, .pure, .pure, .pure, .rw, .rw, .pure, .rw, .pure, .rw, .rw, .rw, .rw, .rw, .rw, .pure, .pure, .pure, .pure, .pure, .pure, .pure, .pure, .pure, .rw, .pure, .rw, .rw, .pure, .pure, .pure, .pure, .pure, .pure, .pure, .pure, .pure, .pure, .pure, .pure, .pure, .pure, .pure, .rw, .rw, .pure, .rw, .pure, .pure, .pure, .pure, .pure, .pure, .pure, .pure, .pure, .pure, .pure, .pure, .pure, .pure, .rw, .pure, .pure, .pure, .pure, .rw, .rw, .rw, .pure, .pure, .pure, .pure, .rw, .pure, .pure, .pure, .pure, .pure, .pure, .pure, .pure, .rw, .rw, .rw, .rw, .rw, .rw, .rw, .rw, .rw, .rw, .pure, .pure, .pure, .pure, .pure, .pure, .pure, .pure, .pure]
def mds (n : Nat) : Md := mdl.getD n .rw
abbrev o (d : Nat) (i : I) : DOp := ⟨some d, none, [], i⟩
abbrev u (d : Nat) (l : List Nat) (i : I) : DOp := ⟨some d, none, l, i⟩
abbrev w (d g : Nat) (i : I) : DOp := ⟨some d, some (g, true), [], i⟩
abbrev x (d g : Nat) (i : I) : DOp := ⟨some d, some (g, false), [], i⟩
abbrev n (i : I) : DOp := ⟨none, none, [], i⟩
abbrev s (l : List DOp) (c : C) : C := .seq (.reg false l []) c
abbrev r (l : List DOp) : C := .reg false l []
abbrev t (n : Nat) : A := .t n
abbrev k (n : Nat) : A := .k (.it .i64 (Int.ofNat n))
abbrev b (o : BinOp) (x y : A) : I := .bin .no o x y
abbrev P0 (m : Md) : Pol := { loc := [], md := m, mds := mds, heap := [], own := [], ord := [], clr := [], mask := [] }

abbrev OK (n : Nat) (c : Ev.Fn) : Prop := FnOK Tryz.prog mds n c
theorem rd {n : Nat} {gf : Func} {c : Ev.Fn} (d : DFn) (pol : Pol) (h1 : Tryz.prog.funcs[n]? = some gf) (h2 : (gf.name == "runtime.NumGoroutine") = false := by kernel_rfl) (h3 : cFn Tryz.prog pol gf = some d := by kernel_rfl) (h6 : d.den = c := by exact rfl) (h4 : pol.mds = mds := by exact rfl) (h5 : c.md = mds n := by kernel_rfl) : OK n c := .read h1 h2 h3 h6 h4 h5
def d4 : DFn := ⟨[(.g [.one, .one, .one, .one, .one, .one, .one]), (.c (.sl [.one, .one, .one, .one, (.sl [.one, .one, .one]), .one, .one]))], [(.c .one)], .pure, [.tmp 4],
(s [o 2 (.box (t 0)), mK 4 (.bo false)]
(s [lQ 9 7 2, cR 10 10 [t 9], mV 8 10, eX 11 8 0, eX 12 8 1, mV 5 11, mV 6 12]
(.seq (s [mV 13 5, o 14 (.bin .ptr .eql (t 13) (.k .np)), mV 15 14, x 16 15 (.mov (t 6)), x 17 15 (b .neq (t 16) (k 0)), o 18 (.pick (t 15) (.k (.bo true)) (t 17))]
(.cond (t 18)
(s [mV 19 5, o 20 (.bin .ptr .eql (t 19) (.k .np)), mV 21 20, w 22 21 (.mov (t 6)), w 23 21 (b .eql (t 22) (k 1)), o 24 (.pick (t 21) (t 23) (.k (.bo false))), mV 25 24, w 26 25 (.call false .pure 11 []), o 27 (.pick (t 25) (t 26) (.k (.bo false))), mV 4 27]
.ret)
.skip))
(.seq (s [mK 7 (.it .i64 0)]
(.blk 0 (.loop [1, 5, 7] [2]
(.seq (s [mV 28 7, mV 29 1, lN 30 false 29, o 31 (b .lss (t 28) (t 30)), mV 32 31, w 33 32 (.mov (t 7)), w 34 32 (b .lss (t 33) (k 60)), o 35 (.pick (t 32) (t 34) (.k (.bo false)))]
(.cond (t 35)
.skip
(.exit 0)))
(.seq (.blk 1 (.seq (s [mV 38 1, mV 39 7, o 40 (.ias 7 (t 38) (t 39)), lQ 41 7 40, cP 42 12 [t 41], o 43 (.un .not (t 42)), mV 44 43, x 45 44 (.mov (t 1)), x 46 44 (.mov (t 7)), x 47 44 (.ias 7 (t 45) (t 46)), x 48 44 (.fad 0 (t 47)), x 49 44 (.ld 1 false (t 48)), x 50 44 (b .eql (t 49) (k 1)), o 51 (.pick (t 44) (.k (.bo true)) (t 50)), mV 52 51, x 53 52 (.mov (t 1)), x 54 52 (.mov (t 7)), x 55 52 (.ias 7 (t 53) (t 54)), x 56 52 (.fad 0 (t 55)), x 57 52 (.ld 1 false (t 56)), x 58 52 (b .eql (t 57) (k 14)), o 59 (.pick (t 52) (.k (.bo true)) (t 58))]
(.cond (t 59)
(.exit 1)
.skip))
(s [mV 60 5, mV 61 1, mV 62 7, o 63 (.ias 7 (t 61) (t 62)), lQ 64 7 63, cR 65 13 [t 60, t 64], o 66 (.bld [(.bo false), (.it .i64 0), (.it .i64 0)] []), o 67 (.bin (.ag [2, 0, 0]) .neq (t 65) (t 66))]
(.cond (t 67)
(s [mK 4 (.bo false)]
.ret)
.skip))))
(r [mV 36 7, o 37 (b .add (t 36) (k 1)), mV 7 37]))))))
(s [mV 68 5, cR 69 14 [t 68], lN 70 false 69, o 71 (b .eql (t 70) (k 0)), mV 72 71, w 73 72 (.mov (t 5)), w 74 72 (.call false .rw 15 [t 73]), w 75 72 (.len false (t 74)), w 76 72 (b .eql (t 75) (k 0)), o 77 (.pick (t 72) (t 76) (.k (.bo false))), mV 78 77, w 79 78 (.mov (t 5)), w 80 78 (.call false .rw 16 [t 79, (k 0), (k 0)]), w 81 78 (b .eql (t 80) (k 0)), o 82 (.pick (t 78) (t 81) (.k (.bo false))), mV 83 82, w 84 83 (.mov (t 5)), w 85 83 (.call false .rw 17 [t 84]), w 86 83 (.bin .ptr .neq (t 85) (.k .np)), o 87 (.pick (t 83) (t 86) (.k (.bo false))), mV 88 87, w 89 88 (.mov (t 5)), w 90 88 (.call false .rw 17 [t 89]), w 91 88 (.call false .rw 18 [t 90]), w 92 88 (b .eql (t 91) (k 0)), o 93 (.pick (t 88) (t 92) (.k (.bo false))), mV 94 93, w 95 94 (.call false .pure 11 []), o 96 (.pick (t 94) (t 95) (.k (.bo false))), mV 4 96]
.ret)))))⟩
def c4 : Ev.Fn := d4.den
theorem r4 : OK 4 c4 := rd d4 { P0 .pure with loc := [2], ord := [(0, [1, 0]), (8, [0, 1, 2, 3, 4, 6, 5, 7])], mask := [(5, [1, 5, 7], [2])] } Tryz.func4

def d5 : DFn := ⟨[(.g [.one, .one, .one, .one, .one, .one, .one])], [(.c .one), (.c .one)], .rw, [.tmp 2, .tmp 3],
(s [o 1 (.box (t 0)), mK 2 .np, mK 3 (.it .i64 0)]
(.seq (.seq (.reg false [
fA 9 2 1, lQ 10 3 9, cR 11 19 [(.k (.bo true)), t 10], mV 8 11, eX 12 8 0, eX 13 8 1, mV 4 12, mV 5 13] [9])
(.seq (.reg false [
mV 14 5, o 15 (b .neq (t 14) (k 0))] [])
(.cond (t 15)
(s [mK 2 .np, mK 3 (.it .i64 1)]
.ret)
.skip)))
(.seq (.reg false [
fA 17 0 1, lD 18 1 17, cR 19 20 [t 18], mV 16 19, eX 20 16 0, eX 21 16 1, mV 6 20, mV 7 21] [17])
(.seq (.seq (.reg false [
mV 22 7, o 23 (b .neq (t 22) (k 0)), mV 24 23, x 25 24 (.fad 5 (t 1)), x 26 24 (.ld 1 false (t 25)), x 27 24 (b .lss (t 26) (k 1)), o 28 (.pick (t 24) (.k (.bo true)) (t 27)), mV 29 28, x 30 29 (.fad 5 (t 1)), x 31 29 (.ld 1 false (t 30)), x 32 29 (b .gtr (t 31) (k 64)), o 33 (.pick (t 29) (.k (.bo true)) (t 32)), mV 34 33, x 35 34 (.fad 6 (t 1)), x 36 34 (.ld 1 false (t 35)), x 37 34 (b .lss (t 36) (k 1)), o 38 (.pick (t 34) (.k (.bo true)) (t 37)), mV 39 38, x 40 39 (.fad 6 (t 1)), x 41 39 (.ld 1 false (t 40)), x 42 39 (b .gtr (t 41) (k 8)), o 43 (.pick (t 39) (.k (.bo true)) (t 42))] [25, 30, 35, 40])
(.cond (t 43)
(.seq (.reg false [
mK 2 .np, mK 3 (.it .i64 1)] [])
.ret)
.skip))
(s [lQ 44 7 1, mV 45 6, o 46 (.bld [(.it .i64 0), (.fl .f64 0), (.it .i64 0), (.it .i64 0), (.it .i64 0), (.it .i64 0), (.it .i64 0), .np, .np, .np, .np, .np, .np, .np, .np, .np, .np, .np, .np, .np, .np, .np, .np, .np, (.it .i64 0), .ns, .ns] [(0, 7, (t 44)), (23, 1, (t 45))]), o 47 (.bxh (t 46)), mV 2 47, mK 3 (.it .i64 0)]
.ret)))))⟩
def c5 : Ev.Fn := d5.den
theorem r5 : OK 5 c5 := rd d5 { P0 .rw with loc := [1], ord := [(0, [1, 2, 0])], clr := [(1, [9]), (4, [17]), (5, [25, 30, 35, 40])] } Tryz.func5

def d7 : DFn := ⟨[(.c .one), (.g [.one, .one, .one, (.sl [.one])])], [(.g [.one, (.sl [.one]), (.sl [.one, .one])])], .rw, [.cell 4 3 true],
(s [o 3 (.box (t 1)), o 4 (.alc [(.bo false), .ns, .ns])]
(s [mV 8 0, nK 9 8, fA 10 26 9, n (.sto 1 (t 10) (.k .ns))]
(s [mV 11 0, lQ 12 4 3, cR 13 21 [t 11, t 12], o 14 (.bld [(.bo false), .ns, .ns] [(0, 1, (t 13))]), o 5 (.alc [(.bo false), .ns, .ns]), sO 3 5 14]
(s [mV 15 0, cR 16 22 [t 15]]
(.seq (.seq (.reg false [
mV 17 0, fA 18 1 3, lD 19 1 18, cR 20 23 [t 17, t 19], mV 6 20] [18])
(.seq (.reg false [
fA 21 0 3, lD 22 1 21, o 23 (b .eql (t 22) (k 4)), mV 24 23, w 25 24 (.mov (t 6)), w 26 24 (.bin .ptr .neq (t 25) (.k .np)), o 27 (.pick (t 24) (t 26) (.k (.bo false)))] [21])
(.cond (t 27)
(.seq (.reg false [
mV 28 6, fA 29 2 3, lD 30 1 29, cR 31 24 [t 28, t 30], fA 32 1 5, sO 1 32 31] [29, 32])
(.reg false [
mV 33 0, cR 34 22 [t 33]] []))
.skip)))
(.seq (.seq (.reg false [
mV 35 0, fA 36 1 3, lD 37 1 36, cR 38 25 [t 35, t 37], mV 7 38] [36])
(.seq (.reg false [
fA 39 0 3, lD 40 1 39, o 41 (b .eql (t 40) (k 7)), mV 42 41, w 43 42 (.mov (t 7)), w 44 42 (.bin .ptr .neq (t 43) (.k .np)), o 45 (.pick (t 42) (t 44) (.k (.bo false)))] [39])
(.cond (t 45)
(.seq (.reg true [
mV 46 7, nK 47 46, fA 48 0 47, lD 49 1 48, fA 50 2 3, lD 51 1 50, cR 52 24 [t 49, t 51], fA 53 1 5, sO 1 53 52] [50, 53])
(.reg false [
mV 54 0, cR 55 22 [t 54]] []))
.skip)))
(.seq (.reg false [
mV 56 0, nK 57 56, fA 58 26 57, lD 59 1 58, fA 60 2 5, sO 1 60 59] [60])
(.seq (.reg false [
mV 61 0, nK 62 61, fA 63 26 62, n (.sto 1 (t 63) (.k .ns))] [])
(s [lQ 64 3 5, sO 3 4 64]
.ret)))))))))⟩
def c7 : Ev.Fn := d7.den
theorem r7 : OK 7 c7 := rd d7 { P0 .rw with loc := [3, 4, 5], ord := [(2, [0, 1, 4, 2, 3, 5])], clr := [(4, [18]), (5, [21]), (6, [29, 32]), (8, [36]), (9, [39]), (10, [50, 53]), (12, [60])] } Tryz.func7

def d10 : DFn := ⟨[(.g [.one, .one, .one, .one, .one, .one, .one])], [(.c .one), (.c .one)], .rw, [.tmp 2, .tmp 3],
(s [o 1 (.box (t 0)), mK 2 .np, mK 3 (.it .i64 0)]
(s [lQ 8 7 1, cR 9 5 [t 8], mV 7 9, eX 10 7 0, eX 11 7 1, mV 4 10, mV 5 11]
(.seq (s [mV 12 5, o 13 (b .neq (t 12) (k 0))]
(.cond (t 13)
(s [mV 14 5, mK 2 .np, mV 3 14]
.ret)
.skip))
(s [lQ 15 7 1, mV 16 4, o 17 (.bld [(.it .i64 0), (.fl .f64 0), (.it .i64 0), (.it .i64 0), (.it .i64 0), (.it .i64 0), (.it .i64 0), .np, .ns, .ns, .ns, .ns] [(0, 7, (t 15)), (7, 1, (t 16))]), o 18 (.bxh (t 17)), mV 6 18]
(.seq (s [mK 19 (.it .i64 0)]
(.blk 0 (.loop [6, 19] [1]
(s [o 20 (b .lss (t 19) (k 8))]
(.seq (.cond (t 20)
.skip
(.exit 0))
(.seq (.blk 1 (.reg true [
mV 21 6, mV 22 6, nK 23 22, fA 24 8 23, o 25 (.iaa 2 1 (t 24) (k 0)), lD 26 1 25, o 27 (.bld [.np, (.it .i64 0), .ns] []), nK 31 21, fA 32 8 31, o 28 (.bxh (t 27)), o 29 (.bsl 1 [[.np]] [(0, (t 28))]), o 30 (.app 1 8 (t 26) (t 29)), o 33 (.iaa 2 1 (t 32) (k 0)), sO 1 33 30] []))
(r [o 34 (b .add (t 19) (k 1)), mV 19 34])))))))
(.seq (s [mK 35 (.it .i64 0)]
(.blk 2 (.loop [6, 35] [1]
(s [o 36 (b .lss (t 35) (k 8))]
(.seq (.cond (t 36)
.skip
(.exit 2))
(.seq (.blk 3 (.reg true [
mV 37 6, mV 38 6, nK 39 38, fA 40 8 39, o 41 (.iaa 2 1 (t 40) (k 1)), lD 42 1 41, o 43 (.bld [.np, (.it .i64 0), .ns] []), nK 47 37, fA 48 8 47, o 44 (.bxh (t 43)), o 45 (.bsl 1 [[.np]] [(0, (t 44))]), o 46 (.app 1 8 (t 42) (t 45)), o 49 (.iaa 2 1 (t 48) (k 1)), sO 1 49 46] []))
(r [o 50 (b .add (t 35) (k 1)), mV 35 50])))))))
(s [mV 51 6, mV 2 51, mK 3 (.it .i64 0)]
.ret)))))))⟩
def c10 : Ev.Fn := d10.den
theorem r10 : OK 10 c10 := rd d10 { P0 .rw with loc := [1], heap := [30, 46, 29, 45], own := [30, 46], ord := [(0, [1, 2, 0]), (7, [0, 1, 2, 3, 4, 5, 6, 10, 11, 7, 8, 9, 12, 13]), (11, [0, 1, 2, 3, 4, 5, 6, 10, 11, 7, 8, 9, 12, 13])], mask := [(6, [6, 19], [1]), (10, [6, 35], [1])] } Tryz.func10

def d11 : DFn := ⟨[], [(.c .one)], .pure, [.tmp 0],
(s [mK 0 (.bo false)]
(s [cP 6 35 [], cR 7 10 [t 6], mV 5 7, eX 8 5 0, eX 9 5 1, mV 1 8, mV 2 9]
(.seq (s [mV 10 1, o 11 (.bin .ptr .eql (t 10) (.k .np)), mV 12 11, x 13 12 (.mov (t 2)), x 14 12 (b .neq (t 13) (k 0)), o 15 (.pick (t 12) (.k (.bo true)) (t 14))]
(.cond (t 15)
(s [mK 0 (.bo false)]
.ret)
.skip))
(s [mV 16 1, o 17 (.bld [(.it .i64 0), (.it .i64 0), (.it .i64 0), (.it .i64 0), .ns, (.st []), (.bo false)] [(0, 1, (k 1))]), o 18 (.call false .pure 37 [(.k (.st [47]))]), o 19 (.bld [(.it .i64 0), (.it .i64 0), (.it .i64 0), (.it .i64 0), .ns, (.st []), (.bo false)] [(0, 1, (k 2)), (4, 1, (t 18)), (6, 1, (.k (.bo true)))]), o 20 (.bld [(.it .i64 0), (.it .i64 0), (.it .i64 0), (.it .i64 0), .ns, (.st []), (.bo false)] [(0, 1, (k 10)), (2, 1, (k 1000))]), o 21 (.bld [(.it .i64 0), (.it .i64 0), (.it .i64 0), (.it .i64 0), .ns, (.st []), (.bo false)] [(0, 1, (k 12)), (2, 1, (k 1000))]), o 22 (.bsl 7 (List.replicate 4 [(.it .i64 0), (.it .i64 0), (.it .i64 0), (.it .i64 0), .ns, (.st []), (.bo false)]) [(0, (t 17)), (1, (t 19)), (2, (t 20)), (3, (t 21))]), cR 23 36 [t 16, t 22]]
(s [mV 24 1, cR 25 15 [t 24], mV 3 25]
(.seq (s [mV 26 3, lN 27 false 26, o 28 (b .neq (t 27) (k 1)), mV 29 28, x 30 29 (.mov (t 3)), x 31 29 (.ias 9 (t 30) (k 0)), x 32 29 (.fad 1 (t 31)), x 33 29 (.ld 1 false (t 32)), x 34 29 (b .neq (t 33) (k 1)), o 35 (.pick (t 29) (.k (.bo true)) (t 34)), mV 36 35, x 37 36 (.mov (t 3)), x 38 36 (.ias 9 (t 37) (k 0)), x 39 36 (.fad 2 (t 38)), x 40 36 (.ld 1 false (t 39)), x 41 36 (b .neq (t 40) (k 1)), o 42 (.pick (t 36) (.k (.bo true)) (t 41)), mV 43 42, x 44 43 (.mov (t 3)), x 45 43 (.ias 9 (t 44) (k 0)), x 46 43 (.fad 5 (t 45)), x 47 43 (.ld 1 false (t 46)), x 48 43 (.un .not (t 47)), o 49 (.pick (t 43) (.k (.bo true)) (t 48)), mV 50 49, x 51 50 (.mov (t 3)), x 52 50 (.ias 9 (t 51) (k 0)), x 53 50 (.fad 3 (t 52)), x 54 50 (.ld 1 false (t 53)), x 55 50 (.len false (t 54)), x 56 50 (b .neq (t 55) (k 5)), o 57 (.pick (t 50) (.k (.bo true)) (t 56))]
(.cond (t 57)
(s [mK 0 (.bo false)]
.ret)
.skip))
(s [mV 58 1, o 59 (.call false .pure 38 [(.k (.st [58, 115, 116, 97, 116, 117, 115])), (.k (.st [50, 48, 48]))]), o 60 (.bsv [.one, .one, .one] 3 [[(.st []), (.st []), (.it .i64 0)]] [(0, (t 59))]), o 61 (.bld [(.it .i64 0), (.it .i64 0), (.it .i64 0), (.it .i64 0), .ns, (.st []), (.bo false)] [(0, 1, (k 6)), (3, 1, (k 1)), (4, 1, (t 60)), (5, 1, (.k (.st [104, 105]))), (6, 1, (.k (.bo true)))]), o 62 (.bld [(.it .i64 0), (.it .i64 0), (.it .i64 0), (.it .i64 0), .ns, (.st []), (.bo false)] [(0, 1, (k 13)), (2, 1, (k 1000))]), o 63 (.bld [(.it .i64 0), (.it .i64 0), (.it .i64 0), (.it .i64 0), .ns, (.st []), (.bo false)] [(0, 1, (k 11)), (2, 1, (k 1000))]), o 64 (.bsl 7 [[(.it .i64 0), (.it .i64 0), (.it .i64 0), (.it .i64 0), .ns, (.st []), (.bo false)], [(.it .i64 0), (.it .i64 0), (.it .i64 0), (.it .i64 0), .ns, (.st []), (.bo false)], [(.it .i64 0), (.it .i64 0), (.it .i64 0), (.it .i64 0), .ns, (.st []), (.bo false)]] [(0, (t 61)), (1, (t 62)), (2, (t 63))]), cR 65 36 [t 58, t 64]]
(s [mV 66 1, cR 67 14 [t 66], mV 4 67]
(s [mV 68 4, lN 69 false 68, o 70 (b .eql (t 69) (k 1)), mV 71 70, w 72 71 (.mov (t 4)), w 73 71 (.ias 9 (t 72) (k 0)), w 74 71 (.fad 3 (t 73)), w 75 71 (.ld 1 false (t 74)), w 76 71 (.bld [(.st []), (.st [])] [(0, 1, (.k (.st [58, 115, 116, 97, 116, 117, 115]))), (1, 1, (.k (.st [50, 48, 48])))]), w 77 71 (.bld [(.st []), (.st [])] [(0, 1, (.k (.st [118, 105, 97]))), (1, 1, (.k (.st [50, 32, 114, 101, 115, 101, 114, 118, 111, 105, 114])))]), w 78 71 (.bsv [.one, .one] 2 [[(.st []), (.st [])], [(.st []), (.st [])]] [(0, (t 76)), (1, (t 77))]), w 79 71 (.call false .pure 34 [t 75, t 78]), o 80 (.pick (t 71) (t 79) (.k (.bo false))), mV 81 80, w 82 81 (.mov (t 4)), w 83 81 (.ias 9 (t 82) (k 0)), w 84 81 (.fad 4 (t 83)), w 85 81 (.ld 1 false (t 84)), w 86 81 (b .eql (t 85) (.k (.st [104, 105]))), o 87 (.pick (t 81) (t 86) (.k (.bo false))), mV 88 87, w 89 88 (.mov (t 4)), w 90 88 (.ias 9 (t 89) (k 0)), w 91 88 (.fad 5 (t 90)), w 92 88 (.ld 1 false (t 91)), o 93 (.pick (t 88) (t 92) (.k (.bo false))), mV 94 93, w 95 94 (.mov (t 4)), w 96 94 (.ias 9 (t 95) (k 0)), w 97 94 (.fad 6 (t 96)), w 98 94 (.ld 1 false (t 97)), w 99 94 (.un .not (t 98)), o 100 (.pick (t 94) (t 99) (.k (.bo false))), mV 101 100, w 102 101 (.mov (t 1)), w 103 101 (.call false .rw 16 [t 102, (k 0), (k 0)]), w 104 101 (b .eql (t 103) (k 1)), o 105 (.pick (t 101) (t 104) (.k (.bo false))), mV 106 105, w 107 106 (.mov (t 1)), w 108 106 (.call false .rw 16 [t 107, (k 1), (k 0)]), w 109 106 (b .eql (t 108) (k 1)), o 110 (.pick (t 106) (t 109) (.k (.bo false))), mV 111 110, w 112 111 (.mov (t 1)), w 113 111 (.call false .rw 16 [t 112, (k 2), (k 0)]), w 114 111 (b .eql (t 113) (k 0)), o 115 (.pick (t 111) (t 114) (.k (.bo false))), mV 0 115]
.ret)))))))))⟩
def c11 : Ev.Fn := d11.den
theorem r11 : OK 11 c11 := rd d11 { P0 .pure with heap := [22, 64], ord := [(4, [0, 1, 4, 5, 2, 3, 6, 7]), (8, [0, 4, 5, 1, 2, 3, 6, 7])] } Tryz.func11

def d12 : DFn := ⟨[(.g [.one, .one, .one, .one, (.sl [.one, .one, .one]), .one, .one])], [(.c .one)], .pure, [.tmp 2],
(s [o 1 (.box (t 0)), mK 2 (.bo false)]
(.seq (.reg false [
fA 5 5 1, lD 6 1 5, lN 7 true 6, mV 3 7] [5])
(.seq (.seq (.reg false [
mK 4 (.it .i64 0)] [])
(.blk 0 (.loop [1, 3, 4] []
(.seq (.seq (.reg false [
mV 8 4, fA 9 4 1, lD 10 1 9, lN 11 false 10, o 12 (b .lss (t 8) (t 11))] [9])
(.cond (t 12)
.skip
(.exit 0)))
(.seq (.blk 1 (.seq (.reg true [
mV 15 3, fA 16 4 1, lD 17 1 16, mV 18 4, o 19 (.ias 3 (t 17) (t 18)), fA 20 0 19, fA 21 0 20, lD 22 1 21, lN 23 true 22, o 24 (b .add (t 15) (t 23)), fA 25 4 1, lD 26 1 25, mV 27 4, o 28 (.ias 3 (t 26) (t 27)), fA 29 0 28, fA 30 1 29, lD 31 1 30, lN 32 true 31, o 33 (b .add (t 24) (t 32)), o 34 (b .add (t 33) (k 1)), mV 3 34] [16, 25])
(.seq (.reg false [
mV 35 3, o 36 (b .gtr (t 35) (k 4000))] [])
(.cond (t 36)
(s [mK 2 (.bo false)]
.ret)
.skip))))
(r [mV 13 4, o 14 (b .add (t 13) (k 1)), mV 4 14]))))))
(s [mV 37 3, o 38 (b .leq (t 37) (k 4000)), mV 2 38]
.ret))))⟩
def c12 : Ev.Fn := d12.den
theorem r12 : OK 12 c12 := rd d12 { P0 .pure with loc := [1], ord := [(0, [1, 0])], clr := [(1, [5]), (3, [9]), (5, [16, 25])], mask := [(3, [1, 3, 4], [])] } Tryz.func12

def d13 : DFn := ⟨[(.c .one), (.g [.one, .one, .one, .one, (.sl [.one, .one, .one]), .one, .one])], [(.g [.one, .one, .one])], .rw, [.cell 4 3 true],
(s [o 3 (.box (t 1)), o 4 (.alc [(.bo false), (.it .i64 0), (.it .i64 0)])]
(.seq (.seq (.reg false [
fA 6 0 3, lD 7 1 6] [6])
(.blk 0 (.seq (.reg false [
o 9 (b .eql (t 7) (k 1)), mV 8 9] [])
(.cond (t 8)
(.seq (.reg false [
mV 10 0, fA 11 1 3, lD 12 1 11, cR 13 39 [t 10, t 12], o 14 (.bld [(.bo false), (.it .i64 0), (.it .i64 0)] [(0, 1, (t 13))]), sO 3 4 14] [11])
.ret)
(.seq (.reg false [
o 16 (b .eql (t 7) (k 14)), mV 15 16] [])
(.cond (t 15)
(.seq (.reg false [
mV 17 0, fA 18 2 3, lD 19 1 18, o 20 (.bld [(.it .i64 0), (.it .i64 0), (.it .i64 0), .ns] [(0, 1, (k 8)), (2, 1, (t 19))]), cR 21 40 [t 17, t 20], o 22 (.fld 0 1 false (t 21)), o 23 (.bld [(.bo false), (.it .i64 0), (.it .i64 0)] [(0, 1, (t 22))]), sO 3 4 23] [18])
.ret)
.skip))))))
(.seq (.reg true [
mV 24 0, fA 25 0 3, lD 26 1 25, fA 28 1 3, lD 29 1 28, cP 27 42 [t 26], cR 30 41 [t 24, t 27, t 29], mV 5 30] [25, 28])
(.seq (.seq (.reg false [
mV 31 5, o 32 (.bin .ptr .eql (t 31) (.k .np)), mV 33 32, x 34 33 (.mov (t 5)), x 35 33 (.nck (t 34)), x 36 33 (.fad 0 (t 35)), x 37 33 (.ld 1 false (t 36)), x 38 33 (.bin .ptr .eql (t 37) (.k .np)), o 39 (.pick (t 33) (.k (.bo true)) (t 38))] [])
(.cond (t 39)
(s [o 40 (.bld [(.bo false), (.it .i64 0), (.it .i64 0)] []), sO 3 4 40]
.ret)
.skip))
(.seq (.seq (.reg false [
fA 41 0 3, lD 42 1 41] [41])
(.blk 1 (.seq (.reg false [
o 44 (b .eql (t 42) (k 2)), mV 43 44] [])
(.cond (t 43)
(s [mV 45 5, lQ 46 7 3, cR 47 43 [t 45, t 46], sO 3 4 47]
.ret)
(.seq (s [o 49 (b .eql (t 42) (k 3)), mV 48 49]
(.cond (t 48)
.skip
(r [o 50 (b .eql (t 42) (k 7)), mV 48 50])))
(.cond (t 48)
(.seq (.reg false [
mV 51 5, fA 52 3 3, lD 53 1 52, lQ 54 7 3, cR 55 44 [t 51, t 53, t 54], sO 3 4 55] [52])
.ret)
(.seq (.reg false [
o 57 (b .eql (t 42) (k 4)), mV 56 57] [])
(.cond (t 56)
(.seq (.reg true [
mV 58 5, nK 59 58, fA 60 0 59, lD 61 1 60, fA 62 3 3, lD 63 1 62, cR 64 45 [t 61, t 63, (k 8)], o 65 (.bld [(.bo false), (.it .i64 0), (.it .i64 0)] [(0, 1, (t 64))]), sO 3 4 65] [62])
.ret)
(s [o 67 (b .eql (t 42) (k 8)), mV 66 67]
(.cond (t 66)
(.seq (.reg true [
mV 68 5, nK 69 68, fA 70 0 69, lD 71 1 70, fA 72 3 3, lD 73 1 72, cR 74 45 [t 71, t 73, (k 2)], o 75 (.bld [(.bo false), (.it .i64 0), (.it .i64 0)] [(0, 1, (t 74))]), sO 3 4 75] [72])
.ret)
(s [o 77 (b .eql (t 42) (k 5)), mV 76 77]
(.cond (t 76)
(s [mV 78 0, mV 79 5, lQ 80 7 3, cR 81 46 [t 78, t 79, t 80, (k 3)], sO 3 4 81]
.ret)
(s [o 83 (b .eql (t 42) (k 9)), mV 82 83]
(.cond (t 82)
(s [mV 84 0, mV 85 5, lQ 86 7 3, cR 87 46 [t 84, t 85, t 86, (k 6)], sO 3 4 87]
.ret)
(s [o 89 (b .eql (t 42) (k 6)), mV 88 89]
(.cond (t 88)
(s [mV 90 5, lQ 91 7 3, cR 92 47 [t 90, t 91], sO 3 4 92]
.ret)
(s [o 94 (b .eql (t 42) (k 10)), mV 93 94]
(.cond (t 93)
(s [mV 95 0, mV 96 5, lQ 97 7 3, cR 98 48 [t 95, t 96, t 97, (k 2)], sO 3 4 98]
.ret)
(s [o 100 (b .eql (t 42) (k 13)), mV 99 100]
(.cond (t 99)
(s [mV 101 0, mV 102 5, lQ 103 7 3, cR 104 48 [t 101, t 102, t 103, (k 5)], sO 3 4 104]
.ret)
(s [o 106 (b .eql (t 42) (k 11)), mV 105 106]
(.cond (t 105)
(s [mV 107 0, mV 108 5, lQ 109 7 3, cR 110 49 [t 107, (k 0), t 108, t 109, (k 4)], sO 3 4 110]
.ret)
(s [o 112 (b .eql (t 42) (k 12)), mV 111 112]
(.cond (t 111)
(s [mV 113 0, mV 114 5, lQ 115 7 3, cR 116 49 [t 113, (k 1), t 114, t 115, (k 7)], sO 3 4 116]
.ret)
.skip))))))))))))))))))))))))
(s [o 117 (.bld [(.bo false), (.it .i64 0), (.it .i64 0)] []), sO 3 4 117]
.ret))))))⟩
def c13 : Ev.Fn := d13.den
theorem r13 : OK 13 c13 := rd d13 { P0 .rw with loc := [3, 4], ord := [(6, [0, 1, 2, 4, 5, 3, 6, 7])], clr := [(1, [6]), (3, [11]), (5, [18]), (6, [25, 28]), (9, [41]), (14, [52]), (16, [62]), (18, [72])] } Tryz.func13

def d14 : DFn := ⟨[(.c .one)], [(.c (.sl [.one, .one, .one, (.sl [.one, .one]), .one, .one, .one, .one, .one]))], .rw, [.tmp 2],
(s [mK 2 .ns]
(s [mV 3 0, nK 4 3, fA 5 10 4, o 6 (.iaa 2 1 (t 5) (k 0)), lD 7 1 6, cR 8 50 [t 7], mV 2 8]
.ret))⟩
def c14 : Ev.Fn := d14.den
theorem r14 : OK 14 c14 := rd d14 (P0 .rw) Tryz.func14

def d15 : DFn := ⟨[(.c .one)], [(.c (.sl [.one, .one, .one, (.sl [.one, .one]), .one, .one, .one, .one, .one]))], .rw, [.tmp 2],
(s [mK 2 .ns]
(s [mV 3 0, nK 4 3, fA 5 10 4, o 6 (.iaa 2 1 (t 5) (k 1)), lD 7 1 6, cR 8 50 [t 7], mV 2 8]
.ret))⟩
def c15 : Ev.Fn := d15.den
theorem r15 : OK 15 c15 := rd d15 (P0 .rw) Tryz.func15

def d16 : DFn := ⟨[(.c .one), (.c .one), (.c .one)], [(.c .one)], .rw, [.tmp 6],
(s [mK 6 (.it .i64 0)]
(.seq (s [mV 8 0, mV 9 1, mV 10 2, cR 11 41 [t 8, t 9, t 10], mV 7 11]
(s [mV 12 7, o 13 (.bin .ptr .neq (t 12) (.k .np))]
(.cond (t 13)
(s [mV 14 7, nK 15 14, fA 16 1 15, lD 17 1 16, mV 6 17]
.ret)
.skip)))
(s [mK 6 (.it .i64 0)]
.ret)))⟩
def c16 : Ev.Fn := d16.den
theorem r16 : OK 16 c16 := rd d16 (P0 .rw) Tryz.func16

def d17 : DFn := ⟨[(.c .one)], [(.c .one)], .rw, [.tmp 2],
(s [mK 2 .np]
(s [mV 3 0, nK 4 3, fA 5 7 4, lD 6 1 5, mV 2 6]
.ret))⟩
def c17 : Ev.Fn := d17.den
theorem r17 : OK 17 c17 := rd d17 (P0 .rw) Tryz.func17

def d18 : DFn := ⟨[(.c .one)], [(.c .one)], .rw, [.tmp 2],
(s [mK 2 (.it .i64 0)]
(s [mV 3 0, nK 4 3, fA 5 25 4, lD 6 1 5, lN 7 false 6, mV 2 7]
.ret))⟩
def c18 : Ev.Fn := d18.den
theorem r18 : OK 18 c18 := rd d18 (P0 .rw) Tryz.func18

def d19 : DFn := ⟨[(.c .one), (.g [.one, .one, .one])], [(.c .one), (.c .one)], .rw, [.tmp 4, .tmp 5],
(s [o 3 (.box (t 1)), mK 4 .np, mK 5 (.it .i64 0)]
(.seq (.seq (.reg false [
fA 8 0 3, lD 9 1 8, cP 10 51 [t 9, (k 1), (k 100)], o 11 (.un .not (t 10)), mV 12 11, x 13 12 (.fad 1 (t 3)), x 14 12 (.ld 1 false (t 13)), x 15 12 (.call false .pure 51 [t 14, (k 65535), (k 2147483647)]), x 16 12 (.un .not (t 15)), o 17 (.pick (t 12) (.k (.bo true)) (t 16)), mV 18 17, x 19 18 (.fad 2 (t 3)), x 20 18 (.ld 1 false (t 19)), x 21 18 (.call false .pure 51 [t 20, (k 1), (k 1048576)]), x 22 18 (.un .not (t 21)), o 23 (.pick (t 18) (.k (.bo true)) (t 22))] [8, 13, 19])
(.cond (t 23)
(.seq (.reg false [
mK 4 .np, mK 5 (.it .i64 1)] [])
.ret)
.skip))
(.seq (.reg true [
mV 24 0, lQ 25 3 3, cP 26 52 [], o 27 (.bld [(.bo false), (.it .i64 0), (.it .i64 0), (.it .i64 0), (.it .i64 0), (.it .i64 0), (.it .i64 0), (.it .i64 0), (.it .i64 0), .np, .np, .np, .ns, (.it .i64 0), (.it .i64 0), .ns, (.it .i64 0), (.it .i64 0), .ns, (.it .i64 0), (.bo false), .ns, (.bo false), (.bo false), (.bo false), .ns] [(0, 1, (t 24)), (1, 3, (t 25)), (4, 5, (t 26)), (17, 1, (k 1))]), o 28 (.bxh (t 27)), mV 6 28] [])
(s [mV 30 6, mV 31 0, o 32 (.call true .rw 53 [(k 16384), t 31]), mV 29 32, eX 33 29 0, eX 34 29 1, nK 35 30, fA 36 9 35, sO 1 36 33]
(.seq (.reg false [
mV 38 6, fA 39 2 3, lD 40 1 39, o 41 (.call true .rw 54 [(k 4096), t 40]), mV 37 41, eX 42 37 0, eX 43 37 1, nK 44 38, fA 45 10 44, sO 1 45 42] [39])
(.seq (.reg false [
mV 47 6, o 48 (.call true .rw 55 [(k 4096)]), mV 46 48, eX 49 46 0, eX 50 46 1, nK 51 47, fA 52 11 51, sO 1 52 49] [])
(s [mV 54 6, o 55 (.call true .pure 56 [(k 65535)]), mV 53 55, eX 56 53 0, eX 57 53 1, nK 58 54, fA 59 13 58, sO 1 59 56]
(s [mV 61 6, o 62 (.call true .pure 56 [(k 65535)]), mV 60 62, eX 63 60 0, eX 64 60 1, nK 65 61, fA 66 14 65, sO 1 66 63]
(.seq (.reg false [
fA 67 0 3, lD 68 1 67, o 69 (.bld [(.it .i64 0), (.it .i64 0)] [(0, 1, (k 3)), (1, 1, (t 68))]), fA 70 1 3, lD 71 1 70, o 72 (.bld [(.it .i64 0), (.it .i64 0)] [(0, 1, (k 4)), (1, 1, (t 71))]), fA 73 2 3, lD 74 1 73, o 75 (.bld [(.it .i64 0), (.it .i64 0)] [(0, 1, (k 6)), (1, 1, (t 74))]), o 76 (.bsv [.one, .one] 2 [[(.it .i64 0), (.it .i64 0)], [(.it .i64 0), (.it .i64 0)], [(.it .i64 0), (.it .i64 0)]] [(0, (t 69)), (1, (t 72)), (2, (t 75))]), mV 7 76] [67, 70, 73])
(.seq (.seq (.reg false [
mV 77 0, o 78 (.un .not (t 77))] [])
(.cond (t 78)
(s [mV 79 6, o 80 (.bsl 1 (List.replicate 24 [(.it .u8 0)]) [(0, (.k (.it .u8 80))), (1, (.k (.it .u8 82))), (2, (.k (.it .u8 73))), (3, (.k (.it .u8 32))), (4, (.k (.it .u8 42))), (5, (.k (.it .u8 32))), (6, (.k (.it .u8 72))), (7, (.k (.it .u8 84))), (8, (.k (.it .u8 84))), (9, (.k (.it .u8 80))), (10, (.k (.it .u8 47))), (11, (.k (.it .u8 50))), (12, (.k (.it .u8 46))), (13, (.k (.it .u8 48))), (14, (.k (.it .u8 13))), (15, (.k (.it .u8 10))), (16, (.k (.it .u8 13))), (17, (.k (.it .u8 10))), (18, (.k (.it .u8 83))), (19, (.k (.it .u8 77))), (20, (.k (.it .u8 13))), (21, (.k (.it .u8 10))), (22, (.k (.it .u8 13))), (23, (.k (.it .u8 10)))]), o 81 (.mrk (t 80)), nK 82 79, fA 83 12 82, sO 1 83 81]
(r [o 84 (.bld [(.it .i64 0), (.it .i64 0)] [(0, 1, (k 2))]), o 85 (.bsl 2 [[(.it .i64 0), (.it .i64 0)]] [(0, (t 84))]), mV 86 7, o 87 (.app 2 16 (t 85) (t 86)), mV 7 87]))
.skip))
(.seq (.reg true [
mV 88 6, mV 89 6, nK 90 89, fA 91 12 90, lD 92 1 91, mV 93 7, cP 94 58 [t 93], o 95 (.bld [(.it .i64 0), (.it .i64 0), (.it .i64 0), .ns] [(0, 1, (k 4)), (3, 1, (t 94))]), o 96 (.call true .pure 57 [t 92, t 95]), nK 97 88, fA 98 12 97, sO 1 98 96] [])
(s [mV 99 6, mV 4 99, mK 5 (.it .i64 0)]
.ret))))))))))))⟩
def c19 : Ev.Fn := d19.den
theorem r19 : OK 19 c19 := rd d19 { P0 .rw with loc := [3], heap := [32, 41, 48, 55, 62, 80, 81, 85, 96], own := [32, 41, 48, 55, 62, 80, 81, 85, 96], ord := [(0, [1, 2, 0]), (12, [0, 2, 1, 3, 4])], clr := [(1, [8, 13, 19]), (5, [39]), (9, [67, 70, 73])] } Tryz.func19

def d20 : DFn := ⟨[(.c .one)], [(.c .one), (.c .one)], .rw, [.tmp 2, .tmp 3],
(s [mK 2 .np, mK 3 (.it .i64 0)]
(.seq (s [mV 4 0, o 5 (b .lss (t 4) (k 0)), mV 6 5, x 7 6 (.mov (t 0)), x 8 6 (b .gtr (t 7) (k 16777216)), o 9 (.pick (t 6) (.k (.bo true)) (t 8))]
(.cond (t 9)
(s [mK 2 .np, mK 3 (.it .i64 1)]
.ret)
.skip))
(s [mV 10 0, o 11 (.bld [.ns, (.it .i64 0), (.it .i64 0)] [(2, 1, (t 10))]), o 12 (.bxh (t 11)), mV 2 12, mK 3 (.it .i64 0)]
.ret)))⟩
def c20 : Ev.Fn := d20.den
theorem r20 : OK 20 c20 := rd d20 (P0 .rw) Tryz.func20

def d21 : DFn := ⟨[(.c .one), (.g [.one, .one, .one, (.sl [.one])])], [(.c .one)], .rw, [.tmp 4],
(s [o 3 (.box (t 1)), mK 4 (.bo false)]
(.seq (.seq (.reg false [
fA 5 0 3, lD 6 1 5] [5])
(.blk 0 (.seq (.reg false [
o 8 (b .eql (t 6) (k 1)), mV 7 8] [])
(.cond (t 7)
(.seq (.reg false [
mV 9 0, fA 10 1 3, lD 11 1 10, cR 12 59 [t 9, t 11], mV 4 12] [10])
.ret)
(.seq (.seq (.reg false [
o 14 (b .eql (t 6) (k 2)), mV 13 14] [])
(.cond (t 13)
.skip
(s [o 15 (b .eql (t 6) (k 3)), mV 13 15]
(.cond (t 13)
.skip
(r [o 16 (b .eql (t 6) (k 4)), mV 13 16])))))
(.cond (t 13)
(s [mV 17 0, lQ 18 4 3, cR 19 60 [t 17, t 18], mV 4 19]
.ret)
(.seq (s [o 21 (b .eql (t 6) (k 5)), mV 20 21]
(.cond (t 20)
.skip
(s [o 22 (b .eql (t 6) (k 6)), mV 20 22]
(.cond (t 20)
.skip
(r [o 23 (b .eql (t 6) (k 7)), mV 20 23])))))
(.cond (t 20)
(s [mV 24 0, lQ 25 4 3, cR 26 61 [t 24, t 25], mV 4 26]
.ret)
(s [o 28 (b .eql (t 6) (k 8)), mV 27 28]
(.cond (t 27)
(.seq (.reg true [
mV 29 0, mV 30 0, nK 31 30, fA 32 24 31, lD 33 1 32, fA 34 2 3, lD 35 1 34, o 36 (.mnx true (t 33) (t 35)), o 37 (.mnx false (t 36) (k 2147483647)), nK 38 29, fA 39 24 38, sO 1 39 37] [34])
(s [mK 4 (.bo true)]
.ret))
.skip))))))))))
(s [mK 4 (.bo false)]
.ret)))⟩
def c21 : Ev.Fn := d21.den
theorem r21 : OK 21 c21 := rd d21 { P0 .rw with loc := [3], heap := [37], own := [37], ord := [(0, [1, 0])], clr := [(1, [5]), (3, [10]), (13, [34])] } Tryz.func21

def d22 : DFn := ⟨[(.c .one)], [], .rw, [],
(s [o 1 (.bxh (t 0))]
(.seq (s [lD 6 1 1, nK 7 6, fA 8 7 7, lQ 9 8 8, mK 10 (.it .i64 0)]
(.blk 0 (.loop [1, 9, 10] []
(s [o 11 (b .lss (t 10) (k 8))]
(.seq (.cond (t 11)
.skip
(.exit 0))
(.seq (.blk 1 (s [mV 12 10, o 13 (.ixa 8 1 false (t 9) (t 10)), mV 2 12, mV 3 13]
(s [mV 14 3, o 15 (.bin .ptr .neq (t 14) (.k .np)), mV 16 15, w 17 16 (.mov (t 3)), w 18 16 (.call false .rw 62 [t 17]), o 19 (.pick (t 16) (t 18) (.k (.bo false)))]
(.cond (t 19)
(r [lD 20 1 1, mV 21 2, cR 22 63 [t 20, t 21]])
.skip))))
(r [o 23 (b .add (t 10) (k 1)), mV 10 23])))))))
(.seq (s [lD 24 1 1, nK 25 24, fA 26 15 25, lQ 27 8 26, mK 28 (.it .i64 0)]
(.blk 2 (.loop [1, 27, 28] []
(s [o 29 (b .lss (t 28) (k 8))]
(.seq (.cond (t 29)
.skip
(.exit 2))
(.seq (.blk 3 (s [mV 30 28, o 31 (.ixa 8 1 false (t 27) (t 28)), mV 4 30, mV 5 31]
(s [mV 32 5, o 33 (.bin .ptr .neq (t 32) (.k .np)), mV 34 33, w 35 34 (.mov (t 5)), w 36 34 (.nck (t 35)), w 37 34 (.fad 0 (t 36)), w 38 34 (.ld 1 false (t 37)), w 39 34 (.call false .rw 62 [t 38]), o 40 (.pick (t 34) (t 39) (.k (.bo false)))]
(.cond (t 40)
(r [lD 41 1 1, mV 42 4, cR 43 64 [t 41, t 42, (.k (.it .i64 (-1)))]])
.skip))))
(r [o 44 (b .add (t 28) (k 1)), mV 28 44])))))))
(s [lD 45 1 1, o 46 (.mkf 66 [] [t 1]), cR 47 65 [t 45, t 46]]
(s [lD 48 1 1, o 49 (.mkf 68 [] [t 1]), cR 50 65 [t 48, t 49]]
(r [lD 51 1 1, o 52 (.mkf 70 [] [t 1]), cR 53 65 [t 51, t 52]]))))))⟩
def c22 : Ev.Fn := d22.den
theorem r22 : OK 22 c22 := rd d22 { P0 .rw with mask := [(2, [1, 9, 10], []), (8, [1, 27, 28], [])], fns := [66, 68, 70] } Tryz.func22

def d23 : DFn := ⟨[(.c .one), (.c .one)], [(.c .one)], .rw, [.tmp 4],
(s [mK 4 .np]
(.seq (s [mV 5 1, o 6 (b .lss (t 5) (k 0)), mV 7 6, x 8 7 (.mov (t 1)), x 9 7 (b .geq (t 8) (k 8)), o 10 (.pick (t 7) (.k (.bo true)) (t 9))]
(.cond (t 10)
(s [mK 4 .np]
.ret)
.skip))
(s [mV 11 0, mV 12 1, nK 13 11, fA 14 7 13, o 15 (.iaa 8 1 (t 14) (t 12)), lD 16 1 15, mV 4 16]
.ret)))⟩
def c23 : Ev.Fn := d23.den
theorem r23 : OK 23 c23 := rd d23 (P0 .rw) Tryz.func23

def d24 : DFn := ⟨[(.c .one), (.c .one)], [(.c (.sl [.one]))], .rw, [.tmp 4],
(s [mK 4 .ns]
(s [mV 6 1, o 7 (.mnx true (t 6) (k 0)), mV 8 0, nK 9 8, fA 10 12 9, lD 11 1 10, lN 12 false 11, o 13 (.mnx false (t 7) (t 12)), mV 1 13]
(s [mV 14 0, nK 15 14, fA 16 12 15, lD 17 1 16, mV 18 1, o 19 (.slc false 1 (t 17) none (some (t 18))), o 20 (.app 1 1 (.k .ns) (t 19)), mV 5 20]
(s [mV 21 0, mV 22 0, nK 23 22, fA 24 12 23, lD 25 1 24, mV 26 1, o 27 (.slc false 1 (t 25) (some (t 26)) none), o 28 (.app 1 1 (.k .ns) (t 27)), nK 29 21, fA 30 12 29, sO 1 30 28]
(s [mV 31 5, mV 4 31]
.ret)))))⟩
def c24 : Ev.Fn := d24.den
theorem r24 : OK 24 c24 := rd d24 { P0 .rw with heap := [28], own := [28] } Tryz.func24

def d25 : DFn := ⟨[(.c .one), (.c .one)], [(.c .one)], .rw, [.tmp 4],
(s [mK 4 .np]
(.seq (s [mV 5 1, o 6 (b .lss (t 5) (k 0)), mV 7 6, x 8 7 (.mov (t 1)), x 9 7 (b .geq (t 8) (k 8)), o 10 (.pick (t 7) (.k (.bo true)) (t 9))]
(.cond (t 10)
(s [mK 4 .np]
.ret)
.skip))
(s [mV 11 0, mV 12 1, nK 13 11, fA 14 15 13, o 15 (.iaa 8 1 (t 14) (t 12)), lD 16 1 15, mV 4 16]
.ret)))⟩
def c25 : Ev.Fn := d25.den
theorem r25 : OK 25 c25 := rd d25 (P0 .rw) Tryz.func25

def d28 : DFn := ⟨[(.c .one), (.c (.sl [.one, .one, .one])), (.c .one)], [(.c .one), (.c .one)], .rw, [.tmp 6, .tmp 7],
(s [mK 6 (.it .i64 0), mK 7 (.bo false)]
(.seq (.seq (.reg true [
mV 9 0, nK 10 9, fA 11 24 10, lD 12 1 11, mV 13 12, x 14 13 (.mov (t 0)), x 15 13 (.nck (t 14)), x 16 13 (.fad 0 (t 15)), x 17 13 (.ld 1 false (t 16)), o 18 (.pick (t 13) (.k (.bo true)) (t 17)), mV 19 18, x 20 19 (.mov (t 0)), x 21 19 (.nck (t 20)), x 22 19 (.fad 23 (t 21)), x 23 19 (.ld 1 false (t 22)), o 24 (.pick (t 19) (.k (.bo true)) (t 23)), mV 25 24, x 26 25 (.mov (t 0)), x 27 25 (.nck (t 26)), x 28 25 (.fad 17 (t 27)), x 29 25 (.ld 1 false (t 28)), x 30 25 (b .gtr (t 29) (k 2147483647)), o 31 (.pick (t 25) (.k (.bo true)) (t 30)), mV 32 31, x 33 32 (.mov (t 0)), x 34 32 (.nck (t 33)), x 35 32 (.fad 15 (t 34)), x 36 32 (.ld 1 false (t 35)), x 37 32 (.len false (t 36)), x 38 32 (.mov (t 0)), x 39 32 (.nck (t 38)), x 40 32 (.fad 4 (t 39)), x 41 32 (.fad 1 (t 40)), x 42 32 (.ld 1 false (t 41)), x 43 32 (b .geq (t 37) (t 42)), o 44 (.pick (t 32) (.k (.bo true)) (t 43)), mV 45 44, x 46 45 (.mov (t 0)), x 47 45 (.nck (t 46)), x 48 45 (.fad 12 (t 47)), x 49 45 (.ld 1 false (t 48)), x 50 45 (.len false (t 49)), x 51 45 (b .geq (t 50) (k 131072)), o 52 (.pick (t 45) (.k (.bo true)) (t 51)), mV 53 52, x 54 53 (.mov (t 1)), x 55 53 (.call false .pure 72 [t 54]), x 56 53 (.un .not (t 55)), o 57 (.pick (t 53) (.k (.bo true)) (t 56))] [])
(.cond (t 57)
(s [mK 6 (.it .i64 0), mK 7 (.bo false)]
.ret)
.skip))
(s [mV 58 0, mV 59 0, nK 60 59, fA 61 17 60, lD 62 1 61, cR 63 73 [t 58, t 62], mV 8 63]
(s [mV 64 0, nK 65 64, fA 66 17 65, lD 67 1 66, o 68 (b .add (t 67) (k 2)), nK 69 64, fA 70 17 69, sO 1 70 68]
(s [mV 71 0, mV 72 8, mV 73 1, mV 74 2, cR 75 74 [t 71, t 72, t 73, t 74]]
(s [mV 76 8, nK 77 76, fA 78 0 77, lD 79 1 78, mV 6 79, mK 7 (.bo true)]
.ret))))))⟩
def c28 : Ev.Fn := d28.den
theorem r28 : OK 28 c28 := rd d28 (P0 .rw) Tryz.func28

def d29 : DFn := ⟨[(.c .one)], [(.c .one)], .ro, [.tmp 2],
(s [mK 2 (.it .i64 0)]
(s [mV 3 0, nK 4 3, fA 5 24 4, lD 6 1 5, mV 2 6]
.ret))⟩
def c29 : Ev.Fn := d29.den
theorem r29 : OK 29 c29 := rd d29 (P0 .ro) Tryz.func29

def d30 : DFn := ⟨[(.c .one), (.c (.sl [.one]))], [(.c (.sl [.one, .one, (.sl [.one, .one]), .one, .one, .one]))], .rw, [.tmp 4],
(s [mK 4 .ns]
(.seq (s [mV 10 0, nK 11 10, fA 12 24 11, lD 13 1 12]
(.cond (t 13)
(s [mK 4 .ns]
.ret)
.skip))
(s [mV 14 0, nK 15 14, fA 16 25 15, n (.sto 1 (t 16) (.k .ns))]
(s [mV 18 0, nK 19 18, fA 20 9 19, lD 21 1 20, mV 22 1, cR 23 75 [t 21, t 22], mV 17 23, eX 24 17 0, eX 25 17 1, o 6 (.alc [(.it .i64 0), (.it .i64 0), (.it .i64 0)]), mV 5 24, sO 3 6 25]
(.seq (s [mV 26 5, lN 27 false 26, mK 28 (.it .i64 0)]
(.blk 0 (.loop [0, 6, 26, 27, 28] [8]
(s [o 29 (b .lss (t 28) (t 27))]
(.seq (.cond (t 29)
.skip
(.exit 0))
(.seq (.blk 1 (s [o 30 (.ias 4 (t 26) (t 28)), lQ 31 4 30, o 8 (.alc [(.it .i64 0), (.it .i64 0), (.it .i64 0), .ns]), sO 4 8 31]
(s [mV 32 0, nK 33 32, fA 34 24 33, lD 35 1 34, o 36 (.un .not (t 35))]
(.cond (t 36)
(r [mV 37 0, lQ 38 4 8, cR 39 76 [t 37, t 38]])
.skip))))
(r [o 40 (b .add (t 28) (k 1)), mV 28 40])))))))
(.seq (.seq (.reg false [
mV 41 0, nK 42 41, fA 43 24 42, lD 44 1 43, o 45 (.un .not (t 44)), mV 46 45, w 47 46 (.fad 0 (t 6)), w 48 46 (.ld 1 false (t 47)), w 49 46 (b .neq (t 48) (k 0)), o 50 (.pick (t 46) (t 49) (.k (.bo false)))] [47])
(.cond (t 50)
(.reg false [
mV 51 0, fA 52 1 6, lD 53 1 52, cR 54 77 [t 51, t 53]] [52])
.skip))
(.seq (.reg false [
mV 55 0, nK 56 55, fA 57 25 56, lD 58 1 57, mV 9 58] [])
(s [mV 59 0, nK 60 59, fA 61 25 60, n (.sto 1 (t 61) (.k .ns))]
(s [mV 62 9, mV 4 62]
.ret)))))))))⟩
def c30 : Ev.Fn := d30.den
theorem r30 : OK 30 c30 := rd d30 { P0 .rw with loc := [6, 8], ord := [(4, [0, 1, 2, 3, 4, 9, 5, 6, 7, 8, 10, 11])], clr := [(11, [47]), (12, [52])], mask := [(6, [0, 6, 26, 27, 28], [8])] } Tryz.func30

def d31 : DFn := ⟨[(.c .one), (.c .one), (.c (.sl [.one, .one, .one])), (.c .one)], [(.c .one)], .rw, [.tmp 8],
(s [mK 8 (.bo false)]
(s [mV 10 0, mV 11 1, cR 12 78 [t 10, t 11], mV 9 12]
(.seq (s [mV 13 9, o 14 (.bin .ptr .eql (t 13) (.k .np)), mV 15 14, x 16 15 (.mov (t 9)), x 17 15 (.call false .rw 79 [t 16]), x 18 15 (.un .not (t 17)), o 19 (.pick (t 15) (.k (.bo true)) (t 18)), mV 20 19, x 21 20 (.mov (t 9)), x 22 20 (.nck (t 21)), x 23 20 (.fad 5 (t 22)), x 24 20 (.ld 1 false (t 23)), x 25 20 (.mov (t 24)), w 26 25 (.mov (t 3)), w 27 25 (.un .not (t 26)), x 28 20 (.pick (t 25) (t 27) (.k (.bo false))), o 29 (.pick (t 20) (.k (.bo true)) (t 28)), mV 30 29, x 31 30 (.mov (t 0)), x 32 30 (.nck (t 31)), x 33 30 (.fad 12 (t 32)), x 34 30 (.ld 1 false (t 33)), x 35 30 (.len false (t 34)), x 36 30 (b .geq (t 35) (k 131072)), o 37 (.pick (t 30) (.k (.bo true)) (t 36)), mV 38 37, x 39 38 (.mov (t 2)), x 40 38 (.call false .pure 72 [t 39]), x 41 38 (.un .not (t 40)), o 42 (.pick (t 38) (.k (.bo true)) (t 41))]
(.cond (t 42)
(s [mK 8 (.bo false)]
.ret)
.skip))
(s [mV 43 0, mV 44 9, mV 45 2, mV 46 3, cR 47 74 [t 43, t 44, t 45, t 46]]
(s [mK 8 (.bo true)]
.ret)))))⟩
def c31 : Ev.Fn := d31.den
theorem r31 : OK 31 c31 := rd d31 (P0 .rw) Tryz.func31

def d32 : DFn := ⟨[(.c .one), (.c .one), (.c .one), (.c .one)], [(.c .one), (.c .one)], .rw, [.tmp 8, .tmp 9],
(s [mK 8 (.it .i64 0), mK 9 (.bo false)]
(s [mV 14 0, mV 15 1, cR 16 78 [t 14, t 15], mV 10 16]
(.seq (s [mV 17 10, o 18 (.bin .ptr .eql (t 17) (.k .np)), mV 19 18, x 20 19 (.mov (t 10)), x 21 19 (.call false .rw 79 [t 20]), x 22 19 (.un .not (t 21)), o 23 (.pick (t 19) (.k (.bo true)) (t 22)), mV 24 23, x 25 24 (.mov (t 10)), x 26 24 (.nck (t 25)), x 27 24 (.fad 5 (t 26)), x 28 24 (.ld 1 false (t 27)), x 29 24 (.un .not (t 28)), o 30 (.pick (t 24) (.k (.bo true)) (t 29)), mV 31 30, x 32 31 (.mov (t 2)), x 33 31 (b .eql (t 32) (.k (.st []))), x 34 31 (.mov (t 33)), w 35 34 (.mov (t 3)), x 36 31 (.pick (t 34) (t 35) (.k (.bo false))), x 37 31 (.mov (t 36)), w 38 37 (.mov (t 0)), w 39 37 (.nck (t 38)), w 40 37 (.fad 12 (t 39)), w 41 37 (.ld 1 false (t 40)), w 42 37 (.len false (t 41)), w 43 37 (b .geq (t 42) (k 131072)), x 44 31 (.pick (t 37) (t 43) (.k (.bo false))), o 45 (.pick (t 31) (.k (.bo true)) (t 44))]
(.cond (t 45)
(s [mK 8 (.it .i64 0), mK 9 (.bo false)]
.ret)
.skip))
(s [mK 11 (.it .i64 0)]
(.seq (.blk 0 (.loop [0, 1, 2, 3, 10, 11] [13]
(.seq (s [mV 46 11, mV 47 2, lN 48 true 47, o 49 (b .lss (t 46) (t 48))]
(.cond (t 49)
.skip
(.exit 0)))
(.blk 1 (.seq (.reg true [
mV 50 2, lN 51 true 50, mV 52 11, o 53 (b .sub (t 51) (t 52)), mV 54 0, nK 55 54, fA 56 4 55, fA 57 3 56, lD 58 1 57, mV 59 0, nK 60 59, fA 61 12 60, lD 62 1 61, lN 63 false 62, o 64 (b .sub (k 131072) (t 63)), o 65 (.mn3 false (t 53) (t 58) (t 64)), mV 66 0, nK 67 66, fA 68 13 67, lQ 69 1 68, mV 70 10, nK 71 70, fA 72 2 71, lQ 73 1 72, o 74 (.bsv [.one] 1 [[(.it .i64 0)], [(.it .i64 0)]] [(0, (t 69)), (1, (t 73))]), cP 75 80 [t 65, t 74], mV 12 75] [])
(.seq (s [mV 76 12, o 77 (b .lss (t 76) (k 1))]
(.cond (t 77)
(s [mV 78 11, mV 8 78, mK 9 (.bo true)]
.ret)
.skip))
(s [mV 79 1, mV 80 2, mV 81 11, mV 82 11, mV 83 12, o 84 (b .add (t 82) (t 83)), o 85 (.slc true 0 (t 80) (some (t 81)) (some (t 84))), o 86 (.cnv .s2v (t 85)), o 87 (.bld [(.it .i64 0), (.it .i64 0), (.it .i64 0), .ns] [(0, 1, (k 0)), (2, 1, (t 79)), (3, 1, (t 86))]), o 13 (.alc [(.it .i64 0), (.it .i64 0), (.it .i64 0), .ns]), sO 4 13 87]
(s [mV 88 11, mV 89 12, o 90 (b .add (t 88) (t 89)), mV 11 90]
(.seq (s [mV 91 3, mV 92 91, w 93 92 (.mov (t 11)), w 94 92 (.mov (t 2)), w 95 92 (.len true (t 94)), w 96 92 (b .eql (t 93) (t 95)), o 97 (.pick (t 92) (t 96) (.k (.bo false)))]
(.cond (t 97)
(.reg false [
fA 98 1 13, n (.sto 1 (t 98) (k 1))] [98])
.skip))
(.seq (.reg true [
mV 99 0, mV 100 0, nK 101 100, fA 102 12 101, lD 103 1 102, lQ 104 4 13, o 105 (.call true .pure 57 [t 103, t 104]), nK 106 99, fA 107 12 106, sO 1 107 105] [])
(s [mV 109 0, mV 110 0, nK 111 110, fA 112 13 111, lQ 113 1 112, mV 114 12, o 115 (.call true .pure 81 [t 113, t 114]), mV 108 115, eX 116 108 0, eX 117 108 1, nK 118 109, fA 119 13 118, sO 1 119 116]
(r [mV 121 10, mV 122 10, nK 123 122, fA 124 2 123, lQ 125 1 124, mV 126 12, o 127 (.call true .pure 81 [t 125, t 126]), mV 120 127, eX 128 120 0, eX 129 120 1, nK 130 121, fA 131 2 130, sO 1 131 128]))))))))))))
(.seq (s [mV 132 3, o 133 (.un .not (t 132))]
(.cond (t 133)
(s [mV 134 11, mV 8 134, mK 9 (.bo true)]
.ret)
.skip))
(.seq (s [mV 135 2, o 136 (b .eql (t 135) (.k (.st [])))]
(.cond (t 136)
(r [mV 137 0, mV 138 0, nK 139 138, fA 140 12 139, lD 141 1 140, mV 142 1, o 143 (.bld [(.it .i64 0), (.it .i64 0), (.it .i64 0), .ns] [(0, 1, (k 0)), (1, 1, (k 1)), (2, 1, (t 142))]), o 144 (.call true .pure 57 [t 141, t 143]), nK 145 137, fA 146 12 145, sO 1 146 144])
.skip))
(s [mV 147 0, mV 148 10, cR 149 82 [t 147, t 148, (k 13)]]
(s [mV 150 11, mV 8 150, mK 9 (.bo true)]
.ret)))))))))⟩
def c32 : Ev.Fn := d32.den
theorem r32 : OK 32 c32 := rd d32 { P0 .rw with loc := [13], heap := [105, 115, 127, 144], own := [105, 115, 127, 144], clr := [(12, [98])], mask := [(5, [0, 1, 2, 3, 10, 11], [13])] } Tryz.func32

def d34 : DFn := ⟨[(.c (.sl [.one, .one])), (.c (.sl [.one, .one]))], [(.c .one)], .pure, [.tmp 4],
(s [mK 4 (.bo false)]
(.seq (s [mV 6 0, lN 7 false 6, mV 8 1, lN 9 false 8, o 10 (b .neq (t 7) (t 9))]
(.cond (t 10)
(s [mK 4 (.bo false)]
.ret)
.skip))
(.seq (s [mK 5 (.it .i64 0)]
(.blk 0 (.loop [0, 1, 5] []
(.seq (s [mV 11 5, mV 12 0, lN 13 false 12, o 14 (b .lss (t 11) (t 13))]
(.cond (t 14)
.skip
(.exit 0)))
(.seq (.blk 1 (.seq (.reg true [
mV 17 0, mV 18 5, o 19 (.ias 2 (t 17) (t 18)), lQ 20 2 19, mV 21 1, mV 22 5, o 23 (.ias 2 (t 21) (t 22)), lQ 24 2 23, o 25 (.bin (.ag [1, 1]) .neq (t 20) (t 24))] [])
(.cond (t 25)
(s [mK 4 (.bo false)]
.ret)
.skip)))
(r [mV 15 5, o 16 (b .add (t 15) (k 1)), mV 5 16]))))))
(s [mK 4 (.bo true)]
.ret))))⟩
def c34 : Ev.Fn := d34.den
theorem r34 : OK 34 c34 := rd d34 { P0 .pure with mask := [(4, [0, 1, 5], [])] } Tryz.func34

def d35 : DFn := ⟨[], [(.g [.one, .one, .one, .one, .one, .one, .one])], .pure, [.cell 0 7 true],
(s [o 0 (.alc [(.it .i64 0), (.fl .f64 0), (.it .i64 0), (.it .i64 0), (.it .i64 0), (.it .i64 0), (.it .i64 0)])]
(s [o 1 (.bld [(.it .i64 0), (.it .i64 0), (.it .i64 0)] [(0, 1, (k 2)), (1, 1, (k 65535)), (2, 1, (k 65536))]), o 2 (.bld [(.it .i64 0), (.fl .f64 0), (.it .i64 0), (.it .i64 0), (.it .i64 0), (.it .i64 0), (.it .i64 0)] [(0, 1, (k 10000)), (1, 1, (.k (.fl .f64 4591870180066957722))), (2, 3, (t 1)), (5, 1, (k 4)), (6, 1, (k 1))]), sO 7 0 2]
.ret))⟩
def c35 : Ev.Fn := d35.den
theorem r35 : OK 35 c35 := rd d35 { P0 .pure with loc := [0] } Tryz.func35

def d36 : DFn := ⟨[(.c .one), (.c (.sl [.one, .one, .one, .one, (.sl [.one, .one, .one]), .one, .one]))], [(.c (.sl [.one, .one, .one]))], .rw, [.tmp 4],
(s [mK 4 .ns]
(s [mK 5 .ns]
(.seq (s [mV 8 1, lN 9 false 8, mK 10 (.it .i64 0)]
(.blk 0 (.loop [0, 5, 8, 9, 10] [7]
(s [o 11 (b .lss (t 10) (t 9))]
(.seq (.cond (t 11)
.skip
(.exit 0))
(.seq (.blk 1 (s [o 12 (.ias 7 (t 8) (t 10)), lQ 13 7 12, o 7 (.alc [(.it .i64 0), (.it .i64 0), (.it .i64 0), (.it .i64 0), .ns, (.st []), (.bo false)]), sO 7 7 13]
(r [mV 14 5, mV 15 0, lQ 16 7 7, cR 17 13 [t 15, t 16], o 18 (.bsv [.one, .one, .one] 3 [[(.bo false), (.it .i64 0), (.it .i64 0)]] [(0, (t 17))]), o 19 (.app 3 24 (t 14) (t 18)), mV 5 19])))
(r [o 20 (b .add (t 10) (k 1)), mV 10 20])))))))
(s [mV 21 5, mV 4 21]
.ret))))⟩
def c36 : Ev.Fn := d36.den
theorem r36 : OK 36 c36 := rd d36 { P0 .rw with loc := [7], heap := [19], own := [19], mask := [(3, [0, 5, 8, 9, 10], [7])] } Tryz.func36

def d37 : DFn := ⟨[(.c .one)], [(.c (.sl [.one, .one, .one]))], .pure, [.tmp 2],
(s [mK 2 .ns]
(s [o 3 (.call false .pure 38 [(.k (.st [58, 109, 101, 116, 104, 111, 100])), (.k (.st [71, 69, 84]))]), o 4 (.call false .pure 38 [(.k (.st [58, 115, 99, 104, 101, 109, 101])), (.k (.st [104, 116, 116, 112, 115]))]), o 5 (.call false .pure 38 [(.k (.st [58, 97, 117, 116, 104, 111, 114, 105, 116, 121])), (.k (.st [97]))]), mV 6 0, o 7 (.call false .pure 38 [(.k (.st [58, 112, 97, 116, 104])), t 6]), o 8 (.bsl 3 (List.replicate 4 [(.st []), (.st []), (.it .i64 0)]) [(0, (t 3)), (1, (t 4)), (2, (t 5)), (3, (t 7))]), mV 2 8]
.ret))⟩
def c37 : Ev.Fn := d37.den
theorem r37 : OK 37 c37 := rd d37 { P0 .pure with heap := [8], own := [8], ord := [(1, [3, 0, 1, 2, 4, 5, 6])] } Tryz.func37

def d38 : DFn := ⟨[(.c .one), (.c .one)], [(.g [.one, .one, .one])], .pure, [.cell 4 3 true],
(s [o 4 (.alc [(.st []), (.st []), (.it .i64 0)])]
(s [mV 5 0, mV 6 1, o 7 (.bld [(.st []), (.st [])] [(0, 1, (t 5)), (1, 1, (t 6))]), o 8 (.bld [(.st []), (.st []), (.it .i64 0)] [(0, 2, (t 7)), (2, 1, (k 1))]), sO 3 4 8]
.ret))⟩
def c38 : Ev.Fn := d38.den
theorem r38 : OK 38 c38 := rd d38 { P0 .pure with loc := [4] } Tryz.func38

def d39 : DFn := ⟨[(.c .one), (.c .one)], [(.c .one)], .rw, [.tmp 4],
(s [mK 4 (.bo false)]
(s [mV 6 0, mV 7 1, o 8 (.bld [(.it .i64 0), (.it .i64 0), (.it .i64 0), .ns] [(0, 1, (k 1)), (1, 1, (t 7))]), cR 9 40 [t 6, t 8], o 10 (.fld 0 1 false (t 9)), mV 5 10]
(.seq (s [mV 11 5]
(.cond (t 11)
(r [mV 12 0, mV 13 1, cR 14 85 [t 12, (k 0), t 13]])
.skip))
(s [mV 15 5, mV 4 15]
.ret))))⟩
def c39 : Ev.Fn := d39.den
theorem r39 : OK 39 c39 := rd d39 (P0 .rw) Tryz.func39

def d40 : DFn := ⟨[(.c .one), (.g [.one, .one, .one, (.sl [.one])])], [(.g [.one, (.sl [.one]), (.sl [.one, .one])])], .rw, [.cell 4 3 true],
(s [o 3 (.box (t 1)), o 4 (.alc [(.bo false), .ns, .ns])]
(.seq (.reg true [
mV 8 0, nK 9 8, fA 10 7 9, lD 11 1 10, lQ 12 4 3, u 5 [10, 3] (.alc [(.bo false), .ns, .ns]), cR 13 7 [t 11, t 12], sO 3 5 13] [])
(.seq (.seq (.reg false [
fA 14 2 5, lD 15 1 14, lN 16 false 15, mK 17 (.it .i64 0)] [14])
(.blk 0 (.loop [0, 4, 5, 15, 16, 17] [3, 7]
(.seq (.reg false [
o 18 (b .lss (t 17) (t 16))] [])
(.seq (.cond (t 18)
.skip
(.exit 0))
(.seq (.blk 1 (s [o 19 (.ias 2 (t 15) (t 17)), lQ 20 2 19, o 7 (.alc [(.it .i64 0), (.st [])]), sO 2 7 20]
(.reg false [
mV 21 0, fA 22 0 7, lD 23 1 22, cR 24 85 [t 21, (k 1), t 23]] [22])))
(.reg false [
o 25 (b .add (t 17) (k 1)), mV 17 25] [])))))))
(s [lQ 26 3 5, sO 3 4 26]
.ret))))⟩
def c40 : Ev.Fn := d40.den
theorem r40 : OK 40 c40 := rd d40 { P0 .rw with loc := [3, 4, 5, 7], ord := [(1, [0, 1, 2, 3, 4, 6, 5, 7])], clr := [(2, [14]), (5, [22])], mask := [(3, [0, 4, 5, 15, 16, 17], [3, 7])] } Tryz.func40

def d41 : DFn := ⟨[(.c .one), (.c .one), (.c .one)], [(.c .one)], .rw, [.tmp 6],
(s [mK 6 .np]
(.seq (s [mV 7 1, o 8 (b .lss (t 7) (k 0)), mV 9 8, x 10 9 (.mov (t 1)), x 11 9 (b .geq (t 10) (k 2)), o 12 (.pick (t 9) (.k (.bo true)) (t 11)), mV 13 12, x 14 13 (.mov (t 2)), x 15 13 (b .lss (t 14) (k 0)), o 16 (.pick (t 13) (.k (.bo true)) (t 15)), mV 17 16, x 18 17 (.mov (t 2)), x 19 17 (.mov (t 0)), x 20 17 (.mov (t 1)), x 21 17 (.nck (t 19)), x 22 17 (.fad 8 (t 21)), x 23 17 (.iaa 2 1 (t 22) (t 20)), x 24 17 (.ld 1 false (t 23)), x 25 17 (.len false (t 24)), x 26 17 (b .geq (t 18) (t 25)), o 27 (.pick (t 17) (.k (.bo true)) (t 26))]
(.cond (t 27)
(s [mK 6 .np]
.ret)
.skip))
(s [mV 28 0, mV 29 1, nK 30 28, fA 31 8 30, o 32 (.iaa 2 1 (t 31) (t 29)), lD 33 1 32, mV 34 2, o 35 (.ias 1 (t 33) (t 34)), lD 36 1 35, mV 6 36]
.ret)))⟩
def c41 : Ev.Fn := d41.den
theorem r41 : OK 41 c41 := rd d41 (P0 .rw) Tryz.func41

def d42 : DFn := ⟨[(.c .one)], [(.c .one)], .pure, [.tmp 2],
(s [mK 2 (.it .i64 0)]
(.seq (s [mV 3 0]
(.blk 0 (.seq (s [o 5 (b .eql (t 3) (k 6)), mV 4 5]
(.cond (t 4)
.skip
(s [o 6 (b .eql (t 3) (k 7)), mV 4 6]
(.cond (t 4)
.skip
(s [o 7 (b .eql (t 3) (k 8)), mV 4 7]
(.cond (t 4)
.skip
(s [o 8 (b .eql (t 3) (k 9)), mV 4 8]
(.cond (t 4)
.skip
(s [o 9 (b .eql (t 3) (k 12)), mV 4 9]
(.cond (t 4)
.skip
(r [o 10 (b .eql (t 3) (k 13)), mV 4 10])))))))))))
(.cond (t 4)
(s [mK 2 (.it .i64 1)]
.ret)
.skip))))
(s [mK 2 (.it .i64 0)]
.ret)))⟩
def c42 : Ev.Fn := d42.den
theorem r42 : OK 42 c42 := rd d42 (P0 .pure) Tryz.func42

def d43 : DFn := ⟨[(.c .one), (.g [.one, .one, .one, .one, (.sl [.one, .one, .one]), .one, .one])], [(.g [.one, .one, .one])], .rw, [.cell 4 3 true],
(s [o 3 (.box (t 1)), o 4 (.alc [(.bo false), (.it .i64 0), (.it .i64 0)])]
(.seq (.reg true [
mV 9 0, nK 10 9, fA 11 0 10, lD 12 1 11, fA 13 4 3, lD 14 1 13, fA 15 6 3, lD 16 1 15, mV 17 16, w 18 17 (.fad 5 (t 3)), w 19 17 (.ld 1 false (t 18)), w 20 17 (b .eql (t 19) (.k (.st []))), o 21 (.pick (t 17) (t 20) (.k (.bo false))), cR 22 28 [t 12, t 14, t 21], mV 8 22, eX 23 8 0, eX 24 8 1, mV 5 23, mV 6 24] [13, 15, 18])
(s [mV 25 6, mV 26 5, o 27 (.bld [(.bo false), (.it .i64 0), (.it .i64 0)] [(0, 1, (t 25)), (1, 1, (t 26))]), o 7 (.alc [(.bo false), (.it .i64 0), (.it .i64 0)]), sO 3 7 27]
(.seq (.seq (.reg false [
mV 28 6, mV 29 28, w 30 29 (.fad 5 (t 3)), w 31 29 (.ld 1 false (t 30)), w 32 29 (b .neq (t 31) (.k (.st []))), o 33 (.pick (t 29) (t 32) (.k (.bo false)))] [30])
(.cond (t 33)
(.reg false [
mV 34 0, mV 35 5, lQ 36 7 3, cR 37 44 [t 34, t 35, t 36], o 38 (.fld 2 1 false (t 37)), fA 39 2 7, sO 1 39 38] [39])
.skip))
(.seq (.reg false [
lQ 40 3 7, sO 3 4 40] [])
.ret)))))⟩
def c43 : Ev.Fn := d43.den
theorem r43 : OK 43 c43 := rd d43 { P0 .rw with loc := [3, 4, 7], clr := [(1, [13, 15, 18]), (3, [30]), (4, [39])] } Tryz.func43

def d44 : DFn := ⟨[(.c .one), (.c .one), (.g [.one, .one, .one, .one, (.sl [.one, .one, .one]), .one, .one])], [(.g [.one, .one, .one])], .rw, [.cell 6 3 true],
(s [o 5 (.box (t 2)), o 6 (.alc [(.bo false), (.it .i64 0), (.it .i64 0)])]
(.seq (.reg true [
mV 10 0, nK 11 10, fA 12 0 11, lD 13 1 12, mV 14 1, fA 15 5 5, lD 16 1 15, fA 17 6 5, lD 18 1 17, cR 19 32 [t 13, t 14, t 16, t 18], mV 9 19, eX 20 9 0, eX 21 9 1, mV 7 20, mV 8 21] [15, 17])
(s [mV 22 8, mV 23 7, o 24 (.bld [(.bo false), (.it .i64 0), (.it .i64 0)] [(0, 1, (t 22)), (2, 1, (t 23))]), sO 3 6 24]
.ret)))⟩
def c44 : Ev.Fn := d44.den
theorem r44 : OK 44 c44 := rd d44 { P0 .rw with loc := [5, 6], clr := [(1, [15, 17])] } Tryz.func44

def d47 : DFn := ⟨[(.c .one), (.g [.one, .one, .one, .one, (.sl [.one, .one, .one]), .one, .one])], [(.g [.one, .one, .one])], .rw, [.cell 4 3 true],
(s [o 3 (.box (t 1)), o 4 (.alc [(.bo false), (.it .i64 0), (.it .i64 0)])]
(.seq (.seq (.reg true [
mV 5 0, nK 6 5, fA 7 0 6, lD 8 1 7, fA 9 3 3, lD 10 1 9, fA 11 4 3, lD 12 1 11, fA 13 6 3, lD 14 1 13, mV 15 14, w 16 15 (.fad 5 (t 3)), w 17 15 (.ld 1 false (t 16)), w 18 15 (b .eql (t 17) (.k (.st []))), o 19 (.pick (t 15) (t 18) (.k (.bo false))), cR 20 31 [t 8, t 10, t 12, t 19], o 21 (.un .not (t 20))] [9, 11, 13, 16])
(.cond (t 21)
(s [o 22 (.bld [(.bo false), (.it .i64 0), (.it .i64 0)] []), sO 3 4 22]
.ret)
.skip))
(.seq (.seq (.reg false [
fA 23 5 3, lD 24 1 23, o 25 (b .eql (t 24) (.k (.st [])))] [23])
(.cond (t 25)
(.seq (.reg false [
o 26 (.bld [(.bo false), (.it .i64 0), (.it .i64 0)] [(0, 1, (.k (.bo true)))]), sO 3 4 26] [])
.ret)
.skip))
(.seq (.reg false [
mV 27 0, fA 28 3 3, lD 29 1 28, lQ 30 7 3, cR 31 44 [t 27, t 29, t 30], sO 3 4 31] [28])
.ret))))⟩
def c47 : Ev.Fn := d47.den
theorem r47 : OK 47 c47 := rd d47 { P0 .rw with loc := [3, 4], clr := [(1, [9, 11, 13, 16]), (3, [23]), (5, [28])] } Tryz.func47

def d48 : DFn := ⟨[(.c .one), (.c .one), (.g [.one, .one, .one, .one, (.sl [.one, .one, .one]), .one, .one]), (.c .one)], [(.g [.one, .one, .one])], .rw, [.cell 8 3 true],
(.seq (.reg false [
o 6 (.box (t 2)), o 8 (.alc [(.bo false), (.it .i64 0), (.it .i64 0)])] [])
(.seq (.reg true [
mV 10 1, nK 11 10, fA 12 0 11, lD 13 1 12, fA 14 2 6, lD 15 1 14, cR 16 24 [t 13, t 15], mV 9 16] [14])
(s [mV 17 1, mV 18 9, cR 19 87 [t 17, (.k (.bo false)), t 18]]
(.seq (.reg false [
mV 20 0, mV 21 3, fA 22 1 6, lD 23 1 22, mV 24 9, o 25 (.bld [(.it .i64 0), (.it .i64 0), (.it .i64 0), .ns] [(0, 1, (t 21)), (1, 1, (t 23)), (3, 1, (t 24))]), cR 26 40 [t 20, t 25], o 27 (.fld 0 1 false (t 26)), mV 28 9, lN 29 false 28, o 30 (.bld [(.bo false), (.it .i64 0), (.it .i64 0)] [(0, 1, (t 27)), (2, 1, (t 29))]), sO 3 8 30] [22])
.ret))))⟩
def c48 : Ev.Fn := d48.den
theorem r48 : OK 48 c48 := rd d48 { P0 .rw with loc := [6, 8], ord := [(3, [0, 1, 2, 3, 4, 5, 8, 9, 6, 7, 10, 11])], clr := [(1, [14]), (3, [22])] } Tryz.func48

def d49 : DFn := ⟨[(.c .one), (.c .one), (.c .one), (.g [.one, .one, .one, .one, (.sl [.one, .one, .one]), .one, .one]), (.c .one)], [(.g [.one, .one, .one])], .rw, [.cell 10 3 true],
(.seq (.reg false [
o 8 (.box (t 3)), o 10 (.alc [(.bo false), (.it .i64 0), (.it .i64 0)])] [])
(.seq (.reg false [
mV 12 0, mV 13 4, fA 14 1 8, lD 15 1 14, fA 16 2 8, lD 17 1 16, o 18 (.bld [(.it .i64 0), (.it .i64 0), (.it .i64 0), .ns] [(0, 1, (t 13)), (1, 1, (t 15)), (2, 1, (t 17))]), cR 19 40 [t 12, t 18], u 11 [14, 16] (.alc [(.bo false), .ns, .ns]), sO 3 11 19] [14, 16])
(.seq (.reg false [
mV 20 2, fA 21 1 11, lD 22 1 21, cR 23 87 [t 20, (.k (.bo true)), t 22]] [21])
(.seq (.reg false [
mV 24 0, mV 25 1, fA 26 1 8, lD 27 1 26, fA 28 1 11, lD 29 1 28, cR 30 88 [t 24, t 25, t 27, t 29]] [26, 28])
(.seq (.reg false [
fA 31 0 11, lD 32 1 31, fA 33 1 11, lD 34 1 33, lN 35 false 34, o 36 (.bld [(.bo false), (.it .i64 0), (.it .i64 0)] [(0, 1, (t 32)), (2, 1, (t 35))]), sO 3 10 36] [31, 33])
.ret)))))⟩
def c49 : Ev.Fn := d49.den
theorem r49 : OK 49 c49 := rd d49 { P0 .rw with loc := [8, 10, 11], ord := [(1, [0, 1, 2, 3, 4, 5, 6, 8, 7, 9])], clr := [(1, [14, 16]), (2, [21]), (3, [26, 28]), (4, [31, 33])] } Tryz.func49

def d50 : DFn := ⟨[(.c (.sl [.one, .one, .one, (.sl [.one, .one]), .one, .one, .one, .one, .one]))], [(.c (.sl [.one, .one, .one, (.sl [.one, .one]), .one, .one, .one, .one, .one]))], .rw, [.tmp 2],
(.seq (.reg false [
mK 2 .ns] [])
(s [mV 5 0, o 6 (.call true .rw 89 [t 5]), mV 3 6]
(.seq (s [mV 7 3, lN 8 false 7, mK 9 (.it .i64 0)]
(.blk 0 (.loop [3, 8, 9] []
(s [o 10 (b .lss (t 9) (t 8))]
(.seq (.cond (t 10)
.skip
(.exit 0))
(.seq (.blk 1 (s [mV 11 9, mV 4 11]
(r [mV 12 3, mV 13 4, mV 14 3, mV 15 4, o 16 (.ias 9 (t 14) (t 15)), fA 17 3 16, lD 18 1 17, o 19 (.call true .pure 90 [t 18]), o 20 (.ias 9 (t 12) (t 13)), fA 21 3 20, sO 1 21 19])))
(r [o 22 (b .add (t 9) (k 1)), mV 9 22])))))))
(s [mV 23 3, mV 2 23]
.ret))))⟩
def c50 : Ev.Fn := d50.den
theorem r50 : OK 50 c50 := rd d50 { P0 .rw with heap := [6, 19], own := [6, 19], mask := [(3, [3, 8, 9], [])] } Tryz.func50

def d51 : DFn := ⟨[(.c .one), (.c .one), (.c .one)], [(.c .one)], .pure, [.tmp 6],
(s [mK 6 (.bo false)]
(s [mV 7 0, mV 8 1, o 9 (b .geq (t 7) (t 8)), mV 10 9, w 11 10 (.mov (t 0)), w 12 10 (.mov (t 2)), w 13 10 (b .leq (t 11) (t 12)), o 14 (.pick (t 10) (t 13) (.k (.bo false))), mV 6 14]
.ret))⟩
def c51 : Ev.Fn := d51.den
theorem r51 : OK 51 c51 := rd d51 (P0 .pure) Tryz.func51

def d52 : DFn := ⟨[], [(.g [.one, .one, .one, .one, .one])], .pure, [.cell 0 5 true],
(s [o 0 (.alc [(.it .i64 0), (.it .i64 0), (.it .i64 0), (.it .i64 0), (.it .i64 0)])]
(s [o 1 (.bld [(.it .i64 0), (.it .i64 0), (.it .i64 0), (.it .i64 0), (.it .i64 0)] [(0, 1, (k 4096)), (1, 1, (k 2147483647)), (2, 1, (k 65535)), (3, 1, (k 16384)), (4, 1, (k 2147483647))]), sO 5 0 1]
.ret))⟩
def c52 : Ev.Fn := d52.den
theorem r52 : OK 52 c52 := rd d52 { P0 .pure with loc := [0] } Tryz.func52

def d53 : DFn := ⟨[(.c .one), (.c .one)], [(.c .one), (.c .one)], .rw, [.tmp 4, .tmp 5],
(s [mK 4 .np, mK 5 (.it .i64 0)]
(.seq (s [mV 7 0, cP 8 91 [t 7], o 9 (.un .not (t 8))]
(.cond (t 9)
(s [mK 4 .np, mK 5 (.it .i64 1)]
.ret)
.skip))
(s [mV 10 0, o 11 (.bld [(.it .i64 0), (.st []), .ns, (.it .i64 0), (.it .i64 0), (.it .i64 0)] [(0, 1, (t 10))]), o 12 (.bxh (t 11)), mV 6 12]
(.seq (s [mV 13 1]
(.cond (t 13)
(r [mV 14 6, nK 15 14, fA 16 1 15, n (.sto 1 (t 16) (.k (.st [80, 82, 73, 32, 42, 32, 72, 84, 84, 80, 47, 50, 46, 48, 13, 10, 13, 10, 83, 77, 13, 10, 13, 10])))])
.skip))
(s [mV 17 6, mV 4 17, mK 5 (.it .i64 0)]
.ret)))))⟩
def c53 : Ev.Fn := d53.den
theorem r53 : OK 53 c53 := rd d53 (P0 .rw) Tryz.func53

def d54 : DFn := ⟨[(.c .one), (.c .one)], [(.c .one), (.c .one)], .rw, [.tmp 4, .tmp 5],
(s [mK 4 .np, mK 5 (.it .i64 0)]
(.seq (s [mV 8 1, o 9 (b .lss (t 8) (k 0)), mV 10 9, x 11 10 (.mov (t 1)), x 12 10 (b .gtr (t 11) (k 2147483647)), o 13 (.pick (t 10) (.k (.bo true)) (t 12))]
(.cond (t 13)
(s [mK 4 .np, mK 5 (.it .i64 1)]
.ret)
.skip))
(s [mV 15 0, cR 16 92 [t 15], mV 14 16, eX 17 14 0, eX 18 14 1, mV 6 17, mV 7 18]
(.seq (s [mV 19 7, o 20 (b .neq (t 19) (k 0))]
(.cond (t 20)
(s [mV 21 7, mK 4 .np, mV 5 21]
.ret)
.skip))
(s [mV 22 6, mV 23 0, mV 24 1, o 25 (.bld [.np, (.it .i64 0), (.it .i64 0), (.bo false)] [(0, 1, (t 22)), (1, 1, (t 23)), (2, 1, (t 24))]), o 26 (.bxh (t 25)), mV 4 26, mK 5 (.it .i64 0)]
.ret)))))⟩
def c54 : Ev.Fn := d54.den
theorem r54 : OK 54 c54 := rd d54 (P0 .rw) Tryz.func54

def d55 : DFn := ⟨[(.c .one)], [(.c .one), (.c .one)], .rw, [.tmp 2, .tmp 3],
(s [mK 2 .np, mK 3 (.it .i64 0)]
(s [mV 7 0, cR 8 92 [t 7], mV 6 8, eX 9 6 0, eX 10 6 1, mV 4 9, mV 5 10]
(.seq (s [mV 11 5, o 12 (b .neq (t 11) (k 0))]
(.cond (t 12)
(s [mV 13 5, mK 2 .np, mV 3 13]
.ret)
.skip))
(s [mV 14 4, o 15 (.bld [.np, (.bo false), (.it .i64 0)] [(0, 1, (t 14)), (1, 1, (.k (.bo true)))]), o 16 (.bxh (t 15)), mV 2 16, mK 3 (.it .i64 0)]
.ret))))⟩
def c55 : Ev.Fn := d55.den
theorem r55 : OK 55 c55 := rd d55 (P0 .rw) Tryz.func55

def d56 : DFn := ⟨[(.c .one)], [(.g [.one]), (.c .one)], .pure, [.cell 2 1 true, .tmp 3],
(s [o 2 (.alc [(.it .i64 0)]), mK 3 (.it .i64 0)]
(.seq (s [mV 4 0, cP 5 93 [t 4], o 6 (.un .not (t 5))]
(.cond (t 6)
(s [o 7 (.bld [(.it .i64 0)] []), sO 1 2 7, mK 3 (.it .i64 1)]
.ret)
.skip))
(s [mV 8 0, o 9 (.bld [(.it .i64 0)] [(0, 1, (t 8))]), sO 1 2 9, mK 3 (.it .i64 0)]
.ret)))⟩
def c56 : Ev.Fn := d56.den
theorem r56 : OK 56 c56 := rd d56 { P0 .pure with loc := [2], ord := [(0, [1, 0])] } Tryz.func56

def d57 : DFn := ⟨[(.c (.sl [.one])), (.g [.one, .one, .one, (.sl [.one])])], [(.c (.sl [.one]))], .pure, [.tmp 4],
(s [o 3 (.box (t 1)), mK 4 .ns]
(.seq (s [lQ 8 4 3, cP 9 94 [t 8], o 10 (.un .not (t 9))]
(.cond (t 10)
(s [mV 11 0, o 12 (.app 1 1 (.k .ns) (t 11)), mV 4 12]
.ret)
.skip))
(.seq (.reg true [
fA 13 3 3, lD 14 1 13, lN 15 false 14, fA 16 2 3, lD 17 1 16, mV 5 15, mV 6 17] [13, 16])
(s [mV 18 0, lN 19 false 18, o 20 (b .add (t 19) (k 9)), mV 21 5, o 22 (b .add (t 20) (t 21)), o 23 (.mks 1 1 [(.it .u8 0)] (k 0) (t 22)), mV 7 23]
(s [mV 24 7, mV 25 0, o 26 (.app 1 1 (t 24) (t 25)), mV 7 26]
(.seq (.reg false [
mV 27 7, mV 28 5, o 29 (b .shr (t 28) (.k (.it .u64 16))), cV 30 .u8 29, mV 31 5, o 32 (b .shr (t 31) (.k (.it .u64 8))), cV 33 .u8 32, mV 34 5, cV 35 .u8 34, fA 36 0 3, lD 37 1 36, cV 38 .u8 37, fA 39 1 3, lD 40 1 39, cV 41 .u8 40, mV 42 6, o 43 (b .shr (t 42) (.k (.it .u64 24))), cV 44 .u8 43, mV 45 6, o 46 (b .shr (t 45) (.k (.it .u64 16))), cV 47 .u8 46, mV 48 6, o 49 (b .shr (t 48) (.k (.it .u64 8))), cV 50 .u8 49, mV 51 6, cV 52 .u8 51, o 53 (.bsv [.one] 1 (List.replicate 9 [(.it .u8 0)]) [(0, (t 30)), (1, (t 33)), (2, (t 35)), (3, (t 38)), (4, (t 41)), (5, (t 44)), (6, (t 47)), (7, (t 50)), (8, (t 52))]), o 54 (.app 1 1 (t 27) (t 53)), mV 7 54] [36, 39])
(.seq (.reg false [
mV 55 7, fA 56 3 3, lD 57 1 56, o 58 (.app 1 1 (t 55) (t 57)), mV 4 58] [56])
.ret)))))))⟩
def c57 : Ev.Fn := d57.den
theorem r57 : OK 57 c57 := rd d57 { P0 .pure with loc := [3], heap := [26, 54], own := [26, 54], ord := [(0, [1, 0])], clr := [(3, [13, 16]), (6, [36, 39]), (7, [56])] } Tryz.func57

def d58 : DFn := ⟨[(.c (.sl [.one, .one]))], [(.c (.sl [.one]))], .pure, [.tmp 2],
(.seq (.reg false [
mK 2 .ns] [])
(s [mK 3 .ns]
(.seq (s [mV 7 0, lN 8 false 7, mK 9 (.it .i64 0)]
(.blk 0 (.loop [3, 7, 8, 9] [5]
(s [o 10 (b .lss (t 9) (t 8))]
(.seq (.cond (t 10)
.skip
(.exit 0))
(.seq (.blk 1 (s [o 11 (.ias 2 (t 7) (t 9)), lQ 12 2 11, o 5 (.alc [(.it .i64 0), (.it .i64 0)]), sO 2 5 12]
(.seq (.reg false [
fA 13 1 5, lD 14 1 13, mV 6 14] [13])
(.reg false [
mV 15 3, fA 16 0 5, lD 17 1 16, o 18 (b .shr (t 17) (.k (.it .u64 8))), cV 19 .u8 18, fA 20 0 5, lD 21 1 20, cV 22 .u8 21, mV 23 6, o 24 (b .shr (t 23) (.k (.it .u64 24))), cV 25 .u8 24, mV 26 6, o 27 (b .shr (t 26) (.k (.it .u64 16))), cV 28 .u8 27, mV 29 6, o 30 (b .shr (t 29) (.k (.it .u64 8))), cV 31 .u8 30, mV 32 6, cV 33 .u8 32, o 34 (.bsv [.one] 1 (List.replicate 6 [(.it .u8 0)]) [(0, (t 19)), (1, (t 22)), (2, (t 25)), (3, (t 28)), (4, (t 31)), (5, (t 33))]), o 35 (.app 1 1 (t 15) (t 34)), mV 3 35] [16, 20]))))
(.reg false [
o 36 (b .add (t 9) (k 1)), mV 9 36] [])))))))
(.seq (r [mV 37 3, mV 2 37])
.ret))))⟩
def c58 : Ev.Fn := d58.den
theorem r58 : OK 58 c58 := rd d58 { P0 .pure with loc := [5], heap := [35], own := [35], clr := [(5, [13]), (6, [16, 20])], mask := [(3, [3, 7, 8, 9], [5])] } Tryz.func58

def d59 : DFn := ⟨[(.c .one), (.c .one)], [(.c .one)], .rw, [.tmp 4],
(s [mK 4 (.bo false)]
(.seq (s [mV 5 1, o 6 (b .lss (t 5) (k 0)), mV 7 6, x 8 7 (.mov (t 1)), x 9 7 (b .geq (t 8) (k 8)), o 10 (.pick (t 7) (.k (.bo true)) (t 9)), mV 11 10, x 12 11 (.mov (t 0)), x 13 11 (.mov (t 1)), x 14 11 (.nck (t 12)), x 15 11 (.fad 7 (t 14)), x 16 11 (.iaa 8 1 (t 15) (t 13)), x 17 11 (.ld 1 false (t 16)), x 18 11 (.bin .ptr .neq (t 17) (.k .np)), o 19 (.pick (t 11) (.k (.bo true)) (t 18))]
(.cond (t 19)
(s [mK 4 (.bo false)]
.ret)
.skip))
(.seq (.reg true [
mV 21 0, mV 22 1, mV 23 0, nK 24 23, fA 25 0 24, fA 26 2 25, lQ 27 3 26, nK 31 21, fA 32 7 31, o 28 (.call true .rw 19 [(.k (.bo true)), t 27]), mV 20 28, eX 29 20 0, eX 30 20 1, o 33 (.iaa 8 1 (t 32) (t 22)), sO 1 33 29] [])
(s [mK 4 (.bo true)]
.ret))))⟩
def c59 : Ev.Fn := d59.den
theorem r59 : OK 59 c59 := rd d59 { P0 .rw with heap := [28], own := [28], ord := [(3, [0, 1, 2, 3, 4, 5, 6, 11, 12, 7, 8, 9, 10, 13, 14])] } Tryz.func59

def d60 : DFn := ⟨[(.c .one), (.g [.one, .one, .one, (.sl [.one])])], [(.c .one)], .rw, [.tmp 4],
(s [o 3 (.box (t 1)), mK 4 (.bo false)]
(.seq (.reg false [
mV 8 0, fA 9 1 3, lD 10 1 9, cR 11 23 [t 8, t 10], mV 5 11] [9])
(.seq (.seq (.reg false [
mV 12 5, o 13 (.bin .ptr .eql (t 12) (.k .np))] [])
(.cond (t 13)
(s [mK 4 (.bo false)]
.ret)
.skip))
(.seq (.seq (.reg false [
fA 14 0 3, lD 15 1 14] [14])
(.blk 0 (.seq (.reg false [
o 17 (b .eql (t 15) (k 2)), mV 16 17] [])
(.cond (t 16)
(.seq (.reg false [
mV 18 5, fA 19 3 3, lD 20 1 19, cR 21 30 [t 18, t 20], lN 22 false 21, mK 23 (.it .i64 0)] [19])
(.blk 1 (.loop [0, 3, 21, 22, 23] [7]
(.seq (.reg false [
o 24 (b .lss (t 23) (t 22))] [])
(.seq (.cond (t 24)
.skip
(.exit 1))
(.seq (.blk 2 (s [o 25 (.ias 6 (t 21) (t 23)), lQ 26 6 25, o 7 (.alc [(.it .i64 0), (.it .i64 0), .ns, (.st []), (.bo false), (.it .i64 0)]), sO 6 7 26]
(.reg false [
mV 27 0, fA 28 1 3, lD 29 1 28, lQ 30 6 7, cR 31 95 [t 27, t 29, t 30]] [28])))
(.reg false [
o 32 (b .add (t 23) (k 1)), mV 23 32] [])))))))
(s [o 34 (b .eql (t 15) (k 3)), mV 33 34]
(.cond (t 33)
(.seq (.reg true [
mV 35 0, fA 36 1 3, lD 37 1 36, nK 38 35, fA 39 7 38, o 40 (.iaa 8 1 (t 39) (t 37)), n (.sto 1 (t 40) (.k .np))] [36])
(.reg false [
mV 41 0, fA 42 1 3, lD 43 1 42, cR 44 63 [t 41, t 43]] [42]))
.skip))))))
(s [mK 4 (.bo true)]
.ret)))))⟩
def c60 : Ev.Fn := d60.den
theorem r60 : OK 60 c60 := rd d60 { P0 .rw with loc := [3, 7], ord := [(0, [1, 0]), (6, [0, 1, 2, 5, 3, 4])], clr := [(1, [9]), (4, [14]), (6, [19]), (9, [28]), (12, [36]), (13, [42])], mask := [(7, [0, 3, 21, 22, 23], [7])] } Tryz.func60

def d61 : DFn := ⟨[(.c .one), (.g [.one, .one, .one, (.sl [.one])])], [(.c .one)], .rw, [.tmp 4],
(s [o 3 (.box (t 1)), mK 4 (.bo false)]
(.seq (.reg false [
mV 8 0, fA 9 1 3, lD 10 1 9, cR 11 25 [t 8, t 10], mV 5 11] [9])
(.seq (.seq (.reg false [
mV 12 5, o 13 (.bin .ptr .eql (t 12) (.k .np))] [])
(.cond (t 13)
(s [mK 4 (.bo false)]
.ret)
.skip))
(.seq (.seq (.reg false [
fA 14 0 3, lD 15 1 14] [14])
(.blk 0 (.seq (.reg false [
o 17 (b .eql (t 15) (k 5)), mV 16 17] [])
(.cond (t 16)
(.seq (.reg true [
mV 18 5, nK 19 18, fA 20 0 19, lD 21 1 20, fA 22 3 3, lD 23 1 22, mK 26 (.it .i64 0), cR 24 30 [t 21, t 23], lN 25 false 24] [22])
(.blk 1 (.loop [0, 3, 24, 25, 26] [7]
(s [o 27 (b .lss (t 26) (t 25))]
(.seq (.cond (t 27)
.skip
(.exit 1))
(.seq (.blk 2 (s [o 28 (.ias 6 (t 24) (t 26)), lQ 29 6 28, o 7 (.alc [(.it .i64 0), (.it .i64 0), .ns, (.st []), (.bo false), (.it .i64 0)]), sO 6 7 29]
(.reg false [
mV 30 0, fA 31 1 3, lD 32 1 31, lQ 33 6 7, cR 34 96 [t 30, t 32, t 33]] [31])))
(.reg false [
o 35 (b .add (t 26) (k 1)), mV 26 35] [])))))))
(s [o 37 (b .eql (t 15) (k 6)), mV 36 37]
(.cond (t 36)
(.seq (.reg false [
mV 38 0, fA 39 1 3, lD 40 1 39, cR 41 64 [t 38, t 40, (.k (.it .i64 (-1)))]] [39])
(.reg true [
mV 42 0, fA 43 1 3, lD 44 1 43, nK 45 42, fA 46 15 45, o 47 (.iaa 8 1 (t 46) (t 44)), n (.sto 1 (t 47) (.k .np))] [43]))
.skip))))))
(.seq (.reg false [
mK 4 (.bo true)] [])
.ret)))))⟩
def c61 : Ev.Fn := d61.den
theorem r61 : OK 61 c61 := rd d61 { P0 .rw with loc := [3, 7], ord := [(0, [1, 0]), (6, [0, 1, 2, 3, 4, 5, 8, 6, 7])], clr := [(1, [9]), (4, [14]), (6, [22]), (9, [31]), (12, [39]), (13, [43])], mask := [(7, [0, 3, 24, 25, 26], [7])] } Tryz.func61

def d62 : DFn := ⟨[(.c .one)], [(.c .one)], .rw, [.tmp 2],
(s [mK 2 (.bo false)]
(s [mV 3 0, nK 4 3, fA 5 24 4, lD 6 1 5, mV 2 6]
.ret))⟩
def c62 : Ev.Fn := d62.den
theorem r62 : OK 62 c62 := rd d62 (P0 .rw) Tryz.func62

def d65 : DFn := ⟨[(.c .one), (.c .one)], [], .rw, [],
(s [mV 6 0, nK 7 6, fA 8 25 7, lD 9 1 8, cR 10 101 [t 9], lN 11 false 10, mK 12 (.it .i64 0)]
(.blk 0 (.loop [1, 10, 11, 12] []
(s [o 13 (b .lss (t 12) (t 11))]
(.seq (.cond (t 13)
.skip
(.exit 0))
(.seq (.blk 1 (s [o 14 (.ias 1 (t 10) (t 12)), lD 15 1 14, mV 5 15]
(s [mV 16 5, nK 17 16, fA 18 46 17, lD 19 1 18, o 20 (.un .not (t 19))]
(.cond (t 20)
(r [mV 21 1, mV 22 5, o 23 (.calv [] (t 21) [t 22])])
.skip))))
(r [o 24 (b .add (t 12) (k 1)), mV 12 24])))))))⟩
def c65 : Ev.Fn := d65.den
theorem r65 : OK 65 c65 := rd d65 { P0 .rw with ord := [(0, [0, 1, 2, 3, 6, 4, 5])], mask := [(1, [1, 10, 11, 12], [])] } Tryz.func65

def d66 : DFn := ⟨[(.c .one), (.c .one)], [], .rw, [],
(s [mV 3 0, nK 4 3, fA 5 11 4, lD 6 1 5]
(.cond (t 6)
(r [lD 7 1 1, mV 8 0, cR 9 67 [t 7, t 8]])
.skip))⟩
def c66 : Ev.Fn := d66.den
theorem r66 : OK 66 c66 := rd d66 (P0 .rw) Tryz.func66

def d67 : DFn := ⟨[(.c .one), (.c .one)], [], .rw, [],
(s [mV 11 1, nK 12 11, fA 13 14 12, lQ 14 6 13, o 4 (.alc [(.st []), (.st []), (.st []), (.st []), .ns, (.it .i64 0)]), sO 6 4 14]
(.seq (.reg false [
mV 15 0, fA 16 2 4, lD 17 1 16, o 18 (.call true .rw 102 [t 15, t 17]), mV 5 18] [16])
(.seq (.seq (.reg false [
mV 19 5, o 20 (b .lss (t 19) (k 0))] [])
(.cond (t 20)
(s [mV 21 0, mV 22 1, cR 23 103 [t 21, t 22, (k 503)]]
.ret)
.skip))
(.seq (.reg false [
fA 24 0 4, lD 25 1 24, o 26 (.bld [(.st []), (.st [])] [(0, 1, (.k (.st [58, 109, 101, 116, 104, 111, 100]))), (1, 1, (t 25))]), fA 27 1 4, lD 28 1 27, o 29 (.bld [(.st []), (.st [])] [(0, 1, (.k (.st [58, 115, 99, 104, 101, 109, 101]))), (1, 1, (t 28))]), fA 30 2 4, lD 31 1 30, o 32 (.bld [(.st []), (.st [])] [(0, 1, (.k (.st [58, 97, 117, 116, 104, 111, 114, 105, 116, 121]))), (1, 1, (t 31))]), fA 33 3 4, lD 34 1 33, o 35 (.bld [(.st []), (.st [])] [(0, 1, (.k (.st [58, 112, 97, 116, 104]))), (1, 1, (t 34))]), o 36 (.bsl 2 (List.replicate 4 [(.st []), (.st [])]) [(0, (t 26)), (1, (t 29)), (2, (t 32)), (3, (t 35))]), mV 6 36] [24, 27, 30, 33])
(.seq (.reg false [
mV 37 6, fA 38 4 4, lD 39 1 38, cP 40 104 [t 39], o 41 (.app 2 32 (t 37) (t 40)), cP 42 105 [], o 43 (.bsv [.one, .one] 2 [[(.st []), (.st [])]] [(0, (t 42))]), o 44 (.app 2 32 (t 41) (t 43)), mV 6 44] [38])
(.seq (.reg false [
mV 45 0, mV 46 5, nK 47 45, fA 48 15 47, o 49 (.iaa 8 1 (t 48) (t 46)), lD 50 1 49, mV 7 50] [])
(.seq (s [mV 51 7, nK 52 51, fA 53 0 52, lD 54 1 53, cR 55 62 [t 54], mV 56 55, x 57 56 (.mov (t 7)), x 58 56 (.nck (t 57)), x 59 56 (.fad 2 (t 58)), x 60 56 (.ld 1 false (t 59)), o 61 (.pick (t 56) (.k (.bo true)) (t 60)), mV 62 61, x 63 62 (.mov (t 6)), x 64 62 (.call false .pure 106 [t 63]), x 65 62 (.un .not (t 64)), o 66 (.pick (t 62) (.k (.bo true)) (t 65))]
(.cond (t 66)
(s [mV 67 0, mV 68 1, cR 69 103 [t 67, t 68, (k 502)]]
.ret)
.skip))
(s [mV 70 1, nK 71 70, fA 72 10 71, lD 73 1 72, mV 74 73, w 75 74 (.mov (t 1)), w 76 74 (.nck (t 75)), w 77 74 (.fad 8 (t 76)), w 78 74 (.ld 1 false (t 77)), w 79 74 (b .eql (t 78) (.k (.st []))), o 80 (.pick (t 74) (t 79) (.k (.bo false))), mV 8 80]
(.seq (.reg true [
mV 82 7, nK 83 82, fA 84 0 83, lD 85 1 84, mV 86 6, mV 88 8, cP 87 107 [t 86], o 89 (.call true .rw 28 [t 85, t 87, t 88]), mV 81 89, eX 90 81 0, eX 91 81 1, mV 9 90, mV 10 91] [])
(s [mV 92 10]
(.cond (t 92)
(r [mV 93 1, mV 94 1, mV 95 1, mV 96 1, mV 97 1, mV 98 1, mV 99 5, mV 100 9, mV 101 8, mV 102 0, nK 103 102, fA 104 24 103, lD 105 1 104, nK 106 93, fA 107 11 106, n (.sto 1 (t 107) (.k (.bo false))), nK 108 94, fA 109 20 108, n (.sto 1 (t 109) (.k (.bo true))), nK 110 95, fA 111 21 110, sO 1 111 99, nK 112 96, fA 113 22 112, sO 1 113 100, nK 114 97, fA 115 23 114, sO 1 115 101, nK 116 98, fA 117 24 116, sO 1 117 105])
.skip)))))))))))⟩
def c67 : Ev.Fn := d67.den
theorem r67 : OK 67 c67 := rd d67 { P0 .rw with loc := [4], heap := [18, 36, 41, 44, 89], own := [18, 36, 41, 44, 89], ord := [(10, [0, 1, 2, 3, 4, 6, 5, 7, 8, 9, 10, 11, 12])], clr := [(1, [16]), (4, [24, 27, 30, 33]), (5, [38])] } Tryz.func67

def d68 : DFn := ⟨[(.c .one), (.c .one)], [], .rw, [],
(s [mV 3 0, nK 4 3, fA 5 20 4, lD 6 1 5]
(.cond (t 6)
(r [lD 7 1 1, mV 8 0, cR 9 69 [t 7, t 8]])
.skip))⟩
def c68 : Ev.Fn := d68.den
theorem r68 : OK 68 c68 := rd d68 (P0 .rw) Tryz.func68

def d69 : DFn := ⟨[(.c .one), (.c .one)], [], .rw, [],
(.seq (s [mV 6 1, nK 7 6, fA 8 23 7, lD 9 1 8, mV 10 9, x 11 10 (.mov (t 1)), x 12 10 (.nck (t 11)), x 13 10 (.fad 8 (t 12)), x 14 10 (.ld 1 false (t 13)), x 15 10 (b .eql (t 14) (.k (.st []))), x 16 10 (.mov (t 15)), w 17 16 (.mov (t 1)), w 18 16 (.nck (t 17)), w 19 16 (.fad 10 (t 18)), w 20 16 (.ld 1 false (t 19)), w 21 16 (.un .not (t 20)), x 22 10 (.pick (t 16) (t 21) (.k (.bo false))), o 23 (.pick (t 10) (.k (.bo true)) (t 22))]
(.cond (t 23)
.ret
.skip))
(.seq (.reg true [
mV 25 0, mV 26 1, nK 27 26, fA 28 21 27, lD 29 1 28, nK 30 25, fA 31 15 30, o 32 (.iaa 8 1 (t 31) (t 29)), lD 33 1 32, nK 34 33, fA 35 0 34, lD 36 1 35, mV 37 1, nK 38 37, fA 39 22 38, lD 40 1 39, mV 41 1, nK 42 41, fA 43 8 42, lD 44 1 43, mV 45 1, nK 46 45, fA 47 10 46, lD 48 1 47, cR 49 32 [t 36, t 40, t 44, t 48], mV 24 49, eX 50 24 0, eX 51 24 1, mV 4 50, mV 5 51] [])
(.seq (s [mV 52 5, o 53 (.un .not (t 52))]
(.cond (t 53)
.ret
.skip))
(s [mV 54 1, mV 55 1, nK 56 55, fA 57 8 56, lD 58 1 57, mV 59 4, o 60 (.slc true 0 (t 58) (some (t 59)) none), nK 61 54, fA 62 8 61, sO 1 62 60]
(s [mV 63 1, mV 64 1, nK 65 64, fA 66 10 65, lD 67 1 66, mV 68 67, w 69 68 (.mov (t 1)), w 70 68 (.nck (t 69)), w 71 68 (.fad 8 (t 70)), w 72 68 (.ld 1 false (t 71)), w 73 68 (b .eql (t 72) (.k (.st []))), o 74 (.pick (t 68) (t 73) (.k (.bo false))), nK 75 63, fA 76 23 75, sO 1 76 74]
(r [mV 77 0, mV 78 1, mV 79 4, cR 80 108 [t 77, t 78, t 79]]))))))⟩
def c69 : Ev.Fn := d69.den
theorem r69 : OK 69 c69 := rd d69 (P0 .rw) Tryz.func69

def d70 : DFn := ⟨[(.c .one), (.c .one)], [], .rw, [],
(s [mV 3 0, nK 4 3, fA 5 0 4, lD 6 1 5, o 7 (b .geq (t 6) (k 0))]
(.cond (t 7)
(r [lD 8 1 1, mV 9 0, cR 10 71 [t 8, t 9]])
.skip))⟩
def c70 : Ev.Fn := d70.den
theorem r70 : OK 70 c70 := rd d70 (P0 .rw) Tryz.func70

def d71 : DFn := ⟨[(.c .one), (.c .one)], [], .rw, [],
(.seq (.reg true [
mV 8 0, mV 9 1, nK 10 9, fA 11 0 10, lD 12 1 11, nK 13 8, fA 14 7 13, o 15 (.iaa 8 1 (t 14) (t 12)), lD 16 1 15, mV 4 16] [])
(.seq (s [mV 17 1, nK 18 17, fA 19 25 18, lD 20 1 19, o 21 (.hnd (.eqs .eql) [t 20, (.k .ns)])]
(.cond (t 21)
.ret
.skip))
(s [mK 5 (.bo false)]
(.seq (s [mV 22 1, nK 23 22, fA 24 26 23, lD 25 1 24, o 26 (.un .not (t 25))]
(.cond (t 26)
(.seq (s [mV 27 1, nK 28 27, fA 29 25 28, lD 30 1 29, cP 31 106 [t 30], o 32 (.un .not (t 31))]
(.cond (t 32)
(s [mV 33 4, mV 34 1, nK 35 34, fA 36 1 35, lD 37 1 36, cR 38 45 [t 33, t 37, (k 2)]]
(s [mV 39 0, mV 40 1, cR 41 98 [t 39, t 40]]
.ret))
.skip))
(s [mV 42 1, nK 43 42, fA 44 29 43, lD 45 1 44, mV 46 45, w 47 46 (.mov (t 1)), w 48 46 (.nck (t 47)), w 49 46 (.fad 27 (t 48)), w 50 46 (.ld 1 false (t 49)), w 51 46 (b .eql (t 50) (.k (.st []))), o 52 (.pick (t 46) (t 51) (.k (.bo false))), mV 5 52]
(.seq (.seq (.reg true [
mV 53 4, mV 54 1, nK 55 54, fA 56 1 55, lD 57 1 56, mV 58 1, nK 59 58, fA 60 25 59, lD 61 1 60, mV 63 5, cP 62 107 [t 61], cR 64 31 [t 53, t 57, t 62, t 63], o 65 (.un .not (t 64))] [])
(.cond (t 65)
.ret
.skip))
(r [mV 66 1, nK 67 66, fA 68 26 67, n (.sto 1 (t 68) (.k (.bo true)))]))))
.skip))
(.seq (s [mV 69 5, o 70 (.un .not (t 69)), mV 71 70, w 72 71 (.mov (t 1)), w 73 71 (.nck (t 72)), w 74 71 (.fad 27 (t 73)), w 75 71 (.ld 1 false (t 74)), w 76 71 (b .neq (t 75) (.k (.st []))), w 77 71 (.mov (t 76)), x 78 77 (.mov (t 1)), x 79 77 (.nck (t 78)), x 80 77 (.fad 29 (t 79)), x 81 77 (.ld 1 false (t 80)), w 82 71 (.pick (t 77) (.k (.bo true)) (t 81)), o 83 (.pick (t 71) (t 82) (.k (.bo false)))]
(.cond (t 83)
(.seq (.reg true [
mV 85 4, mV 86 1, nK 87 86, fA 88 1 87, lD 89 1 88, mV 90 1, nK 91 90, fA 92 27 91, lD 93 1 92, mV 94 1, nK 95 94, fA 96 29 95, lD 97 1 96, cR 98 32 [t 85, t 89, t 93, t 97], mV 84 98, eX 99 84 0, eX 100 84 1, mV 6 99, mV 7 100] [])
(.seq (s [mV 101 7, o 102 (.un .not (t 101))]
(.cond (t 102)
.ret
.skip))
(s [mV 103 1, mV 104 1, nK 105 104, fA 106 27 105, lD 107 1 106, mV 108 6, o 109 (.slc true 0 (t 107) (some (t 108)) none), nK 110 103, fA 111 27 110, sO 1 111 109]
(s [mV 112 0, mV 113 1, mV 114 6, cR 115 109 [t 112, t 113, t 114]]
(r [mV 116 1, nK 117 116, fA 118 29 117, lD 119 1 118, mV 120 119, w 121 120 (.mov (t 1)), w 122 120 (.nck (t 121)), w 123 120 (.fad 27 (t 122)), w 124 120 (.ld 1 false (t 123)), w 125 120 (b .eql (t 124) (.k (.st []))), o 126 (.pick (t 120) (t 125) (.k (.bo false))), mV 5 126])))))
.skip))
(s [mV 127 5]
(.cond (t 127)
(r [mV 128 0, mV 129 1, cR 130 110 [t 128, t 129]])
.skip)))))))⟩
def c71 : Ev.Fn := d71.den
theorem r71 : OK 71 c71 := rd d71 { P0 .rw with ord := [(8, [0, 1, 2, 3, 4, 5, 6, 7, 8, 10, 9, 11, 12])], hnd := [21] } Tryz.func71

def d72 : DFn := ⟨[(.c (.sl [.one, .one, .one]))], [(.c .one)], .pure, [.tmp 2],
(s [mK 2 (.bo false)]
(s [mK 3 (.it .i64 0)]
(.seq (s [mV 6 0, lN 7 false 6, mK 8 (.it .i64 0)]
(.blk 0 (.loop [3, 6, 7, 8] [5]
(s [o 9 (b .lss (t 8) (t 7))]
(.seq (.cond (t 9)
.skip
(.exit 0))
(.seq (.blk 1 (s [o 10 (.ias 3 (t 6) (t 8)), lQ 11 3 10, o 5 (.alc [(.st []), (.st []), (.it .i64 0)]), sO 3 5 11]
(.seq (.reg false [
mV 12 3, fA 13 0 5, lQ 14 2 13, cP 15 111 [t 14], o 16 (b .add (t 12) (t 15)), mV 3 16] [13])
(.seq (.reg false [
fA 17 0 5, fA 18 0 17, lD 19 1 18, lN 20 true 19, o 21 (b .gtr (t 20) (k 65536)), mV 22 21, x 23 22 (.fad 0 (t 5)), x 24 22 (.fad 1 (t 23)), x 25 22 (.ld 1 false (t 24)), x 26 22 (.len true (t 25)), x 27 22 (b .gtr (t 26) (k 65536)), o 28 (.pick (t 22) (.k (.bo true)) (t 27)), mV 29 28, x 30 29 (.mov (t 3)), x 31 29 (b .gtr (t 30) (k 65536)), o 32 (.pick (t 29) (.k (.bo true)) (t 31))] [17, 18, 23, 24])
(.cond (t 32)
(.seq (.reg false [
mK 2 (.bo false)] [])
.ret)
.skip)))))
(r [o 33 (b .add (t 8) (k 1)), mV 8 33])))))))
(s [mK 2 (.bo true)]
.ret))))⟩
def c72 : Ev.Fn := d72.den
theorem r72 : OK 72 c72 := rd d72 { P0 .pure with loc := [5], clr := [(5, [13]), (6, [17, 18, 23, 24])], mask := [(3, [3, 6, 7, 8], [5])] } Tryz.func72

def d73 : DFn := ⟨[(.c .one), (.c .one)], [(.c .one)], .rw, [.tmp 4],
(s [mK 4 .np]
(s [mV 6 1, o 7 (.bld [(.it .i64 0), (.it .i64 0), (.it .i64 0), (.it .i64 0), (.bo false), (.bo false)] [(0, 1, (t 6)), (1, 1, (k 0))]), o 8 (.bxh (t 7)), mV 5 8]
(s [mV 10 5, mV 11 0, nK 12 11, fA 13 4 12, fA 14 2 13, lD 15 1 14, o 16 (.call true .pure 56 [t 15]), mV 9 16, eX 17 9 0, eX 18 9 1, nK 19 10, fA 20 2 19, sO 1 20 17]
(s [mV 22 5, mV 23 0, nK 24 23, fA 25 1 24, fA 26 1 25, lD 27 1 26, o 28 (.call true .pure 56 [t 27]), mV 21 28, eX 29 21 0, eX 30 21 1, nK 31 22, fA 32 3 31, sO 1 32 29]
(s [mV 33 0, mV 34 0, nK 35 34, fA 36 15 35, lD 37 1 36, mV 38 5, o 39 (.bsl 1 [[.np]] [(0, (t 38))]), o 40 (.app 1 8 (t 37) (t 39)), nK 41 33, fA 42 15 41, sO 1 42 40]
(s [mV 43 5, mV 4 43]
.ret))))))⟩
def c73 : Ev.Fn := d73.den
theorem r73 : OK 73 c73 := rd d73 { P0 .rw with heap := [16, 28, 40, 39], own := [16, 28, 40] } Tryz.func73

end Go.Proofs.YtfnoiklmcmboeaaGreatDoor.tab
