import Derived.Test.YtfnoiklmcmboeaaGreatDoorHand
import Derived.Test.YtfnoiklmcmboeaaGreatDoorRows
import Derived.KernelRfl
set_option linter.unusedVariables false
set_option linter.unusedSimpArgs false
set_option linter.unusedSectionVars false
/- the functions of the seat, read off the program -/
namespace Go.Proofs.YtfnoiklmcmboeaaGreatDoor.tab
open Go hiding Fn
open Ev
abbrev mV (d s : Nat) : DOp := ⟨some d, none, [], .mov (.t s)⟩
abbrev fA (d o s : Nat) : DOp := ⟨some d, none, [], .fad o (.t s)⟩
abbrev lD (d n s : Nat) : DOp := ⟨some d, none, [], .ld n false (.t s)⟩
abbrev lQ (d n s : Nat) : DOp := ⟨some d, none, [], .ld n true (.t s)⟩
abbrev nK (d s : Nat) : DOp := ⟨some d, none, [], .nck (.t s)⟩
abbrev sO (n a s : Nat) : DOp := ⟨none, none, [], .sto n (.t a) (.t s)⟩
abbrev eX (d s i : Nat) : DOp := ⟨some d, none, [], .ext (.t s) i⟩
abbrev mK (d : Nat) (v : V) : DOp := ⟨some d, none, [], .mov (.k v)⟩
abbrev cR (d f : Nat) (l : List A) : DOp := ⟨some d, none, [], .call false .rw f l⟩
abbrev cP (d f : Nat) (l : List A) : DOp := ⟨some d, none, [], .call false .pure f l⟩
abbrev lN (d : Nat) (q : Bool) (s : Nat) : DOp := ⟨some d, none, [], .len q (.t s)⟩
abbrev cV (d : Nat) (k : IntKind) (s : Nat) : DOp := ⟨some d, none, [], .cnv (.int k) (.t s)⟩
def mdl : List Md := [.pure, .pure, .pure, .pure, .pure, .rw, .pure, .rw, .rw, .pure, .rw, .pure, .pure, .rw, .rw, .rw, .rw, .rw, .rw, .rw, .rw, .rw, .rw, .rw, .rw, .rw, .rw, .pure, .rw, .ro, .rw, .rw, .rw, .rw, .pure, .pure, .rw, .pure, .pure, .rw, .rw, .rw, .pure, .rw, .rw, .rw, .rw, .rw, .rw, .rw, .rw, .pure, .pure, .rw, .rw, .rw, .pure, .pure, .pure, .rw, .rw, .rw, .rw, .rw, .rw, .rw, .rw, .rw, .rw, .rw, .rw, .rw, .pure, .rw, .rw, .rw, .rw, .rw, .rw, .rw, .pure, .pure, .rw, .ro, .ro, .rw, .rw, .rw, .rw, .rw, .pure, .pure, .rw, .pure, .pure, .rw, .rw, .rw, .rw, .rw, .rw, .rw, .rw, .rw, .pure, .pure, .pure, .pure, .rw, .rw, .rw, .pure, .rw, .pure, .rw, .rw, .pure, .rw, .rw, .pure, .rw, .pure, .rw, .rw, .rw, .rw, .rw, .pure, .pure, .rw, .rw, .rw, .rw, .rw, .rw, .rw, .rw, .rw, .rw, .rw, .pure, .pure, .pure, .pure, .pure, .pure, .rw, .rw, .pure, .pure, .rw, .rw, .pure, .pure, .pure, .pure, .pure, .pure, .rw, .pure, .pure, .pure, .rw, .rw, .rw, .rw, .rw, .rw, .rw, .rw, .pure, .pure, .rw, .rw, .rw, .rw, .pure, .rw, .pure, .pure, .pure, .rw, .pure, .pure, .rw, .rw, .pure, .pure, .rw, .pure, .pure, .rw, .rw, .rw, .rw, .rw, .pure, .rw, .pure, .pure, .pure, .rw, .pure, .pure, .rw, .rw, .pure, .pure, .pure, .pure, .rw, .rw, .rw, .rw, .pure, .rw, .rw, .pure, .rw, .rw, .rw, .pure, .pure, .pure, .rw, .pure, .pure, .rw, .rw, .pure, .rw, .pure, .pure, .pure, .pure, .pure, .pure, .rw, .pure, .rw, .pure, .pure, .pure, .pure, .pure, .pure, .pure, .pure, .pure, .rw, .rw, .rw, .rw, .pure, .pure, .pure, .pure, .pure, .pure, .pure, .pure, .rw, .rw, .rw, .rw, .pure, .rw, .rw, .rw, .pure, .pure, .pure, .pure, .pure, .pure, .rw, .pure, .pure, .ro, .pure, .pure, .pure, .pure, .rw, .pure, .rw, .pure, .pure, .pure, .pure, .pure, .pure, .pure, .pure, .rw, .rw, .pure, .rw, .pure, .rw, .rw, .rw, .rw, .rw, .rw, .pure, .pure, .pure, .pure, .pure, .pure, .pure, .pure, .pure, .rw, .pure, .rw, .rw, .pure, .pure, .pure, .pure, .pure, .pure, .pure, .pure, .pure, .pure, .pure, .pure, .pure, .pure, .pure, .rw, .rw, .pure, .rw, .pure, .pure, .pure, .pure, .pure, .pure, .pure, .pure, .pure, .pure, .pure, .pure, .pure, .pure, .rw, .pure, .pure, .pure, .pure, .rw, .rw, .rw, .pure, .pure, .pure, .pure, .rw, .pure, .pure, .pure, .pure, .pure, .pure, .pure, .pure, .rw, .rw, .rw, .rw, .rw, .rw, .rw, .rw, .rw, .rw, .pure, .pure, .pure, .pure, .pure, .pure, .pure, .pure, .pure]
def mds (n : Nat) : Md := mdl.getD n .rw
abbrev o (d : Nat) (i : I) : DOp := ⟨some d, none, [], i⟩
abbrev u (d : Nat) (l : List Nat) (i : I) : DOp := ⟨some d, none, l, i⟩
abbrev w (d g : Nat) (i : I) : DOp := ⟨some d, some (g, true), [], i⟩
abbrev x (d g : Nat) (i : I) : DOp := ⟨some d, some (g, false), [], i⟩
abbrev n (i : I) : DOp := ⟨none, none, [], i⟩
abbrev s (l : List DOp) (c : C) : C := .seq (.reg false l []) c
abbrev r (l : List DOp) : C := .reg false l []
abbrev t (n : Nat) : A := .t n
abbrev k (n : Nat) : A := .k (.it .i64 (Int.ofNat n))
abbrev b (o : BinOp) (x y : A) : I := .bin .no o x y
abbrev P0 (m : Md) : Pol := { loc := [], md := m, mds := mds, heap := [], own := [], ord := [], clr := [], mask := [] }
abbrev OK (n : Nat) (c : Ev.Fn) : Prop := FnOK Tryz.prog mds n c
theorem rd {n : Nat} {gf : Func} {c : Ev.Fn} (d : DFn) (pol : Pol) (h1 : Tryz.prog.funcs[n]? = some gf) (h2 : (gf.name == "runtime.NumGoroutine") = false := by kernel_rfl) (h3 : cFn Tryz.prog pol gf = some d := by kernel_rfl) (h6 : d.den = c := by exact rfl) (h4 : pol.mds = mds := by exact rfl) (h5 : c.md = mds n := by kernel_rfl) : OK n c := .read h1 h2 h3 h6 h4 h5
def d3 : DFn := ⟨[(.c (.sl [.one, .one, .one, (.sl [.one])]))], [(.c .one)], .pure, [.tmp 2],
(s [mK 2 (.bo false)]
(s [cP 14 6 [], cR 15 5 [t 14], mV 13 15, eX 16 13 0, eX 17 13 1, mV 3 16, mV 4 17]
(.seq (s [mV 18 3, o 19 (.bin .ptr .eql (t 18) (.k .np)), mV 20 19, x 21 20 (.mov (t 4)), x 22 20 (b .neq (t 21) (k 0)), o 23 (.pick (t 20) (.k (.bo true)) (t 22))]
(.cond (t 23)
(s [mK 2 (.bo false)]
.ret)
.skip))
(s [o 5 (.alc [(.bo false), (.bo false), (.bo false), (.bo false), (.bo false), (.bo false), (.bo false), (.bo false)])]
(.seq (s [mK 6 (.it .i64 0)]
(.blk 0 (.loop [0, 3, 5, 6] [7]
(.seq (s [mV 24 6, mV 25 0, lN 26 false 25, o 27 (b .lss (t 24) (t 26)), mV 28 27, w 29 28 (.mov (t 6)), w 30 28 (b .lss (t 29) (k 60)), o 31 (.pick (t 28) (t 30) (.k (.bo false)))]
(.cond (t 31)
.skip
(.exit 0)))
(.seq (.blk 1 (s [mV 34 0, mV 35 6, o 36 (.ias 4 (t 34) (t 35)), lQ 37 4 36, o 7 (.alc [(.it .i64 0), (.it .i64 0), (.it .i64 0), .ns]), sO 4 7 37]
(.seq (.reg false [
fA 38 1 7, lD 39 1 38, o 40 (b .geq (t 39) (k 0)), mV 41 40, w 42 41 (.fad 1 (t 7)), w 43 41 (.ld 1 false (t 42)), w 44 41 (b .lss (t 43) (k 8)), o 45 (.pick (t 41) (t 44) (.k (.bo false))), mV 8 45] [38, 42])
(.seq (.reg false [
mK 9 (.bo false)] [])
(.seq (.seq (.reg false [
fA 46 0 7, lD 47 1 46] [46])
(.blk 2 (.seq (.reg false [
o 49 (b .eql (t 47) (k 1)), mV 48 49] [])
(.cond (t 48)
(.reg false [
mV 50 8, mV 51 50, w 52 51 (.fad 1 (t 7)), w 53 51 (.ld 1 false (t 52)), w 54 51 (b .and (t 53) (k 7)), w 55 51 (.iaa 8 1 (t 5) (t 54)), w 56 51 (.ld 1 false (t 55)), w 57 51 (.un .not (t 56)), o 58 (.pick (t 51) (t 57) (.k (.bo false))), mV 9 58] [52, 55])
(.seq (s [o 60 (b .eql (t 47) (k 3)), mV 59 60]
(.cond (t 59)
.skip
(.reg false [
o 61 (b .eql (t 47) (k 4)), mV 59 61] [])))
(.cond (t 59)
(.reg false [
mV 62 8, mV 63 62, w 64 63 (.fad 1 (t 7)), w 65 63 (.ld 1 false (t 64)), w 66 63 (b .and (t 65) (k 7)), w 67 63 (.iaa 8 1 (t 5) (t 66)), w 68 63 (.ld 1 false (t 67)), o 69 (.pick (t 63) (t 68) (.k (.bo false))), mV 9 69] [64, 67])
(.exit 1)))))))
(.seq (s [mV 70 3, lQ 71 4 7, cR 72 7 [t 70, t 71], o 73 (.fld 0 1 false (t 72)), mV 74 9, o 75 (.bin .bo .neq (t 73) (t 74))]
(.cond (t 75)
(s [mK 2 (.bo false)]
.ret)
.skip))
(.seq (.seq (.reg false [
mV 76 9, mV 77 76, w 78 77 (.fad 0 (t 7)), w 79 77 (.ld 1 false (t 78)), w 80 77 (b .neq (t 79) (k 4)), o 81 (.pick (t 77) (t 80) (.k (.bo false)))] [78])
(.cond (t 81)
(.reg false [
fA 82 1 7, lD 83 1 82, fA 84 0 7, lD 85 1 84, o 86 (b .eql (t 85) (k 1)), o 87 (.iaa 8 1 (t 5) (t 83)), sO 1 87 86] [82, 84, 87])
.skip))
(.seq (.reg false [
mV 89 3, cR 90 8 [t 89], mV 88 90, eX 91 88 0, eX 92 88 1, mV 10 91, mV 11 92] [])
(s [mK 12 (.it .i64 0)]
(.blk 3 (.loop [0, 3, 5, 6, 10, 12] [7]
(.seq (s [mV 93 12, mV 94 10, lN 95 false 94, o 96 (b .lss (t 93) (t 95)), mV 97 96, w 98 97 (.mov (t 12)), w 99 97 (b .lss (t 98) (k 8)), o 100 (.pick (t 97) (t 99) (.k (.bo false)))]
(.cond (t 100)
.skip
(.exit 3)))
(.seq (.blk 4 (.seq (.reg true [
mV 103 10, mV 104 12, o 105 (.ias 1 (t 103) (t 104)), lD 106 1 105, o 107 (b .geq (t 106) (k 0)), mV 108 12, o 109 (.iaa 8 1 (t 5) (t 108)), lD 110 1 109, o 111 (.bin .bo .neq (t 107) (t 110))] [109])
(.cond (t 111)
(s [mK 2 (.bo false)]
.ret)
.skip)))
(r [mV 101 12, o 102 (b .add (t 101) (k 1)), mV 12 102]))))))))))))))
(r [mV 32 6, o 33 (b .add (t 32) (k 1)), mV 6 33]))))))
(s [cP 112 9 [], mV 2 112]
.ret))))))⟩
def c3 : Ev.Fn := d3.den
theorem r3 : OK 3 c3 := rd d3 { P0 .pure with loc := [5, 7], ord := [(17, [0, 1, 4, 2, 3, 5])], clr := [(9, [38, 42]), (11, [46]), (13, [52, 55]), (16, [64, 67]), (19, [78]), (20, [82, 84, 87]), (25, [109])], mask := [(6, [0, 3, 5, 6], [7]), (23, [0, 3, 5, 6, 10, 12], [7])] } Tryz.func3
def d5 : DFn := ⟨[(.g [.one, .one, .one, .one, .one, .one, .one])], [(.c .one), (.c .one)], .rw, [.tmp 2, .tmp 3],
(s [o 1 (.box (t 0)), mK 2 .np, mK 3 (.it .i64 0)]
(.seq (.seq (.reg false [
fA 9 2 1, lQ 10 3 9, cR 11 19 [(.k (.bo true)), t 10], mV 8 11, eX 12 8 0, eX 13 8 1, mV 4 12, mV 5 13] [9])
(.seq (.reg false [
mV 14 5, o 15 (b .neq (t 14) (k 0))] [])
(.cond (t 15)
(s [mK 2 .np, mK 3 (.it .i64 1)]
.ret)
.skip)))
(.seq (.reg false [
fA 17 0 1, lD 18 1 17, cR 19 20 [t 18], mV 16 19, eX 20 16 0, eX 21 16 1, mV 6 20, mV 7 21] [17])
(.seq (.seq (.reg false [
mV 22 7, o 23 (b .neq (t 22) (k 0)), mV 24 23, x 25 24 (.fad 5 (t 1)), x 26 24 (.ld 1 false (t 25)), x 27 24 (b .lss (t 26) (k 1)), o 28 (.pick (t 24) (.k (.bo true)) (t 27)), mV 29 28, x 30 29 (.fad 5 (t 1)), x 31 29 (.ld 1 false (t 30)), x 32 29 (b .gtr (t 31) (k 64)), o 33 (.pick (t 29) (.k (.bo true)) (t 32)), mV 34 33, x 35 34 (.fad 6 (t 1)), x 36 34 (.ld 1 false (t 35)), x 37 34 (b .lss (t 36) (k 1)), o 38 (.pick (t 34) (.k (.bo true)) (t 37)), mV 39 38, x 40 39 (.fad 6 (t 1)), x 41 39 (.ld 1 false (t 40)), x 42 39 (b .gtr (t 41) (k 8)), o 43 (.pick (t 39) (.k (.bo true)) (t 42))] [25, 30, 35, 40])
(.cond (t 43)
(.seq (.reg false [
mK 2 .np, mK 3 (.it .i64 1)] [])
.ret)
.skip))
(s [lQ 44 7 1, mV 45 6, o 46 (.bld [(.it .i64 0), (.fl .f64 0), (.it .i64 0), (.it .i64 0), (.it .i64 0), (.it .i64 0), (.it .i64 0), .np, .np, .np, .np, .np, .np, .np, .np, .np, .np, .np, .np, .np, .np, .np, .np, .np, (.it .i64 0), .ns, .ns] [(0, 7, (t 44)), (23, 1, (t 45))]), o 47 (.bxh (t 46)), mV 2 47, mK 3 (.it .i64 0)]
.ret)))))⟩
def c5 : Ev.Fn := d5.den
theorem r5 : OK 5 c5 := rd d5 { P0 .rw with loc := [1], ord := [(0, [1, 2, 0])], clr := [(1, [9]), (4, [17]), (5, [25, 30, 35, 40])] } Tryz.func5
def d6 : DFn := ⟨[], [(.g [.one, .one, .one, .one, .one, .one, .one])], .pure, [.cell 0 7 true],
(s [o 0 (.alc [(.it .i64 0), (.fl .f64 0), (.it .i64 0), (.it .i64 0), (.it .i64 0), (.it .i64 0), (.it .i64 0)])]
(s [o 1 (.bld [(.it .i64 0), (.it .i64 0), (.it .i64 0)] [(0, 1, (k 2)), (1, 1, (k 65535)), (2, 1, (k 65536))]), o 2 (.bld [(.it .i64 0), (.fl .f64 0), (.it .i64 0), (.it .i64 0), (.it .i64 0), (.it .i64 0), (.it .i64 0)] [(0, 1, (k 10000)), (1, 1, (.k (.fl .f64 4591870180066957722))), (2, 3, (t 1)), (5, 1, (k 4)), (6, 1, (k 1))]), sO 7 0 2]
.ret))⟩
def c6 : Ev.Fn := d6.den
theorem r6 : OK 6 c6 := rd d6 { P0 .pure with loc := [0] } Tryz.func6
def d7 : DFn := ⟨[(.c .one), (.g [.one, .one, .one, (.sl [.one])])], [(.g [.one, (.sl [.one]), (.sl [.one, .one])])], .rw, [.cell 4 3 true],
(s [o 3 (.box (t 1)), o 4 (.alc [(.bo false), .ns, .ns])]
(s [mV 8 0, nK 9 8, fA 10 26 9, n (.sto 1 (t 10) (.k .ns))]
(s [mV 11 0, lQ 12 4 3, cR 13 21 [t 11, t 12], o 14 (.bld [(.bo false), .ns, .ns] [(0, 1, (t 13))]), o 5 (.alc [(.bo false), .ns, .ns]), sO 3 5 14]
(s [mV 15 0, cR 16 22 [t 15]]
(.seq (.seq (.reg false [
mV 17 0, fA 18 1 3, lD 19 1 18, cR 20 23 [t 17, t 19], mV 6 20] [18])
(.seq (.reg false [
fA 21 0 3, lD 22 1 21, o 23 (b .eql (t 22) (k 4)), mV 24 23, w 25 24 (.mov (t 6)), w 26 24 (.bin .ptr .neq (t 25) (.k .np)), o 27 (.pick (t 24) (t 26) (.k (.bo false)))] [21])
(.cond (t 27)
(.seq (.reg false [
mV 28 6, fA 29 2 3, lD 30 1 29, cR 31 24 [t 28, t 30], fA 32 1 5, sO 1 32 31] [29, 32])
(.reg false [
mV 33 0, cR 34 22 [t 33]] []))
.skip)))
(.seq (.seq (.reg false [
mV 35 0, fA 36 1 3, lD 37 1 36, cR 38 25 [t 35, t 37], mV 7 38] [36])
(.seq (.reg false [
fA 39 0 3, lD 40 1 39, o 41 (b .eql (t 40) (k 7)), mV 42 41, w 43 42 (.mov (t 7)), w 44 42 (.bin .ptr .neq (t 43) (.k .np)), o 45 (.pick (t 42) (t 44) (.k (.bo false)))] [39])
(.cond (t 45)
(.seq (.reg true [
mV 46 7, nK 47 46, fA 48 0 47, lD 49 1 48, fA 50 2 3, lD 51 1 50, cR 52 24 [t 49, t 51], fA 53 1 5, sO 1 53 52] [50, 53])
(.reg false [
mV 54 0, cR 55 22 [t 54]] []))
.skip)))
(.seq (.reg false [
mV 56 0, nK 57 56, fA 58 26 57, lD 59 1 58, fA 60 2 5, sO 1 60 59] [60])
(.seq (.reg false [
mV 61 0, nK 62 61, fA 63 26 62, n (.sto 1 (t 63) (.k .ns))] [])
(s [lQ 64 3 5, sO 3 4 64]
.ret)))))))))⟩
def c7 : Ev.Fn := d7.den
theorem r7 : OK 7 c7 := rd d7 { P0 .rw with loc := [3, 4, 5], ord := [(2, [0, 1, 4, 2, 3, 5])], clr := [(4, [18]), (5, [21]), (6, [29, 32]), (8, [36]), (9, [39]), (10, [50, 53]), (12, [60])] } Tryz.func7
def d8 : DFn := ⟨[(.c .one)], [(.c (.sl [.one])), (.c (.sl [.one]))], .rw, [.tmp 2, .tmp 3],
(s [mK 2 .ns, mK 3 .ns]
(.seq (s [mV 10 0, nK 11 10, fA 12 7 11, lQ 13 8 12, mK 14 (.it .i64 0)]
(.blk 0 (.loop [0, 2, 3, 13, 14] []
(s [o 15 (b .lss (t 14) (k 8))]
(.seq (.cond (t 15)
.skip
(.exit 0))
(.seq (.blk 1 (s [o 16 (.ixa 8 1 false (t 13) (t 14)), mV 5 16]
(s [mK 6 (.it .i64 (-1))]
(.seq (s [mV 17 5, o 18 (.bin .ptr .neq (t 17) (.k .np))]
(.cond (t 18)
(r [mV 19 5, cR 20 26 [t 19], mV 6 20])
.skip))
(r [mV 21 2, mV 22 6, o 23 (.bsv [.one] 1 [[(.it .i64 0)]] [(0, (t 22))]), o 24 (.app 1 8 (t 21) (t 23)), mV 2 24])))))
(r [o 25 (b .add (t 14) (k 1)), mV 14 25])))))))
(.seq (s [mV 26 0, nK 27 26, fA 28 15 27, lQ 29 8 28, mK 30 (.it .i64 0)]
(.blk 2 (.loop [2, 3, 29, 30] []
(s [o 31 (b .lss (t 30) (k 8))]
(.seq (.cond (t 31)
.skip
(.exit 2))
(.seq (.blk 3 (s [o 32 (.ixa 8 1 false (t 29) (t 30)), mV 8 32]
(s [mK 9 (.it .i64 (-1))]
(.seq (s [mV 33 8, o 34 (.bin .ptr .neq (t 33) (.k .np))]
(.cond (t 34)
(r [mV 35 8, nK 36 35, fA 37 0 36, lD 38 1 37, cR 39 26 [t 38], mV 9 39])
.skip))
(r [mV 40 3, mV 41 9, o 42 (.bsv [.one] 1 [[(.it .i64 0)]] [(0, (t 41))]), o 43 (.app 1 8 (t 40) (t 42)), mV 3 43])))))
(r [o 44 (b .add (t 30) (k 1)), mV 30 44])))))))
(s [mV 45 2, mV 46 3, mV 2 45, mV 3 46]
.ret))))⟩
def c8 : Ev.Fn := d8.den
theorem r8 : OK 8 c8 := rd d8 { P0 .rw with heap := [24, 43], own := [24, 43], mask := [(2, [0, 2, 3, 13, 14], []), (10, [2, 3, 29, 30], [])] } Tryz.func8
def d9 : DFn := ⟨[], [(.c .one)], .pure, [.tmp 0],
(s [mK 0 (.bo false)]
(s [cP 16 6 [], cR 17 5 [t 16], mV 15 17, eX 18 15 0, eX 19 15 1, mV 1 18, mV 2 19]
(s [cP 21 6 [], o 22 (.fld 2 3 true (t 21)), cR 23 19 [(.k (.bo false)), t 22], mV 20 23, eX 24 20 0, eX 25 20 1, mV 3 24, mV 4 25]
(s [cP 27 6 [], o 28 (.fld 2 3 true (t 27)), cR 29 19 [(.k (.bo true)), t 28], mV 26 29, eX 30 26 0, eX 31 26 1, mV 5 30, mV 6 31]
(.seq (s [mV 32 1, o 33 (.bin .ptr .eql (t 32) (.k .np)), mV 34 33, x 35 34 (.mov (t 3)), x 36 34 (.bin .ptr .eql (t 35) (.k .np)), o 37 (.pick (t 34) (.k (.bo true)) (t 36)), mV 38 37, x 39 38 (.mov (t 5)), x 40 38 (.bin .ptr .eql (t 39) (.k .np)), o 41 (.pick (t 38) (.k (.bo true)) (t 40)), mV 42 41, x 43 42 (.mov (t 2)), x 44 42 (b .neq (t 43) (k 0)), o 45 (.pick (t 42) (.k (.bo true)) (t 44)), mV 46 45, x 47 46 (.mov (t 4)), x 48 46 (b .neq (t 47) (k 0)), o 49 (.pick (t 46) (.k (.bo true)) (t 48)), mV 50 49, x 51 50 (.mov (t 6)), x 52 50 (b .neq (t 51) (k 0)), o 53 (.pick (t 50) (.k (.bo true)) (t 52))]
(.cond (t 53)
(s [mK 0 (.bo false)]
.ret)
.skip))
(.seq (s [mV 54 1, o 55 (.bld [(.it .i64 0), (.it .i64 0), (.it .i64 0), .ns] [(0, 1, (k 1))]), cR 56 7 [t 54, t 55], o 57 (.fld 0 1 false (t 56)), o 58 (.un .not (t 57)), mV 59 58, x 60 59 (.mov (t 1)), x 61 59 (.bld [(.it .i64 0), (.it .i64 0), (.it .i64 0), .ns] [(0, 1, (k 3))]), x 62 59 (.call false .rw 7 [t 60, t 61]), x 63 59 (.fld 0 1 false (t 62)), x 64 59 (.un .not (t 63)), o 65 (.pick (t 59) (.k (.bo true)) (t 64)), mV 66 65, x 67 66 (.mov (t 1)), x 68 66 (.bld [(.it .i64 0), (.it .i64 0), (.it .i64 0), .ns] [(0, 1, (k 3))]), x 69 66 (.call false .rw 7 [t 67, t 68]), x 70 66 (.fld 0 1 false (t 69)), o 71 (.pick (t 66) (.k (.bo true)) (t 70)), mV 72 71, x 73 72 (.mov (t 1)), x 74 72 (.bld [(.it .i64 0), (.it .i64 0), (.it .i64 0), .ns] [(0, 1, (k 1)), (1, 1, (k 8))]), x 75 72 (.call false .rw 7 [t 73, t 74]), x 76 72 (.fld 0 1 false (t 75)), o 77 (.pick (t 72) (.k (.bo true)) (t 76))]
(.cond (t 77)
(s [mK 0 (.bo false)]
.ret)
.skip))
(s [mV 78 1, o 79 (.bld [(.it .i64 0), (.it .i64 0), (.it .i64 0), .ns] [(0, 1, (k 8)), (2, 1, (k 7))]), cR 80 7 [t 78, t 79]]
(s [mV 81 1, o 82 (.bld [(.it .i64 0), (.it .i64 0), (.it .i64 0), .ns] [(0, 1, (k 8)), (2, 1, (k 5))]), cR 83 7 [t 81, t 82]]
(s [mV 84 1, o 85 (.bld [(.it .i64 0), (.it .i64 0), (.it .i64 0), .ns] [(0, 1, (k 1))]), cR 86 7 [t 84, t 85]]
(s [o 87 (.call false .pure 27 [(.k (.st [58, 109, 101, 116, 104, 111, 100])), (.k (.st [71, 69, 84]))]), o 88 (.call false .pure 27 [(.k (.st [58, 115, 99, 104, 101, 109, 101])), (.k (.st [104, 116, 116, 112, 115]))]), o 89 (.call false .pure 27 [(.k (.st [58, 97, 117, 116, 104, 111, 114, 105, 116, 121])), (.k (.st [97]))]), o 90 (.call false .pure 27 [(.k (.st [58, 112, 97, 116, 104])), (.k (.st [47]))]), o 91 (.bsv [.one, .one, .one] 3 (List.replicate 4 [(.st []), (.st []), (.it .i64 0)]) [(0, (t 87)), (1, (t 88)), (2, (t 89)), (3, (t 90))]), mV 7 91]
(s [mV 92 3, mV 93 7, cR 94 28 [t 92, t 93, (.k (.bo true))]]
(s [mV 95 1, mV 96 3, cR 97 24 [t 96, (k 1000)], o 98 (.bld [(.it .i64 0), (.it .i64 0), (.it .i64 0), .ns] [(0, 1, (k 2)), (3, 1, (t 97))]), cR 99 7 [t 95, t 98], o 8 (.alc [(.bo false), .ns, .ns]), sO 3 8 99]
(s [mV 100 1, o 101 (.bld [(.it .i64 0), (.it .i64 0), (.it .i64 0), .ns] [(0, 1, (k 7)), (2, 1, (k 1000))]), cR 102 7 [t 100, t 101], o 9 (.alc [(.bo false), .ns, .ns]), sO 3 9 102]
(.seq (.seq (.reg false [
mV 103 1, o 104 (.call false .ro 29 [t 103]), o 105 (b .neq (t 104) (k 7)), mV 106 105, x 107 106 (.fad 2 (t 8)), x 108 106 (.ld 1 false (t 107)), x 109 106 (.len false (t 108)), x 110 106 (b .neq (t 109) (k 1)), o 111 (.pick (t 106) (.k (.bo true)) (t 110)), mV 112 111, x 113 112 (.fad 2 (t 8)), x 114 112 (.ld 1 false (t 113)), x 115 112 (.ias 2 (t 114) (k 0)), x 116 112 (.ld 2 true (t 115)), x 117 112 (.bld [(.it .i64 0), (.st [])] [(1, 1, (.k (.st [97])))]), x 118 112 (.bin (.ag [0, 1]) .neq (t 116) (t 117)), o 119 (.pick (t 112) (.k (.bo true)) (t 118)), mV 120 119, x 121 120 (.fad 1 (t 9)), x 122 120 (.ld 1 false (t 121)), x 123 120 (.len false (t 122)), x 124 120 (b .lss (t 123) (k 24)), o 125 (.pick (t 120) (.k (.bo true)) (t 124)), mV 126 125, x 127 126 (.fad 1 (t 9)), x 128 126 (.ld 1 false (t 127)), x 129 126 (.slc false 1 (t 128) none (some (k 24))), x 130 126 (.cnv .b2s (t 129)), x 131 126 (b .neq (t 130) (.k (.st [80, 82, 73, 32, 42, 32, 72, 84, 84, 80, 47, 50, 46, 48, 13, 10, 13, 10, 83, 77, 13, 10, 13, 10]))), o 132 (.pick (t 126) (.k (.bo true)) (t 131))] [107, 113, 121, 127])
(.cond (t 132)
(.seq (.reg false [
mK 0 (.bo false)] [])
.ret)
.skip))
(.seq (.reg false [
mV 133 5, fA 134 1 9, lD 135 1 134, cR 136 30 [t 133, t 135], mV 10 136] [134])
(.seq (.seq (.reg true [
mV 137 10, lN 138 false 137, o 139 (b .neq (t 138) (k 1)), mV 140 139, x 141 140 (.mov (t 5)), x 142 140 (.mov (t 10)), x 143 140 (.ias 6 (t 142) (k 0)), x 144 140 (.fad 1 (t 143)), x 145 140 (.ld 1 false (t 144)), x 146 140 (.call false .pure 27 [(.k (.st [58, 115, 116, 97, 116, 117, 115])), (.k (.st [50, 48, 48]))]), x 147 140 (.call false .pure 27 [(.k (.st [99, 97, 99, 104, 101, 45, 99, 111, 110, 116, 114, 111, 108])), (.k (.st [109, 97, 120, 45, 97, 103, 101, 61, 54, 48]))]), x 148 140 (.bsv [.one, .one, .one] 3 [[(.st []), (.st []), (.it .i64 0)], [(.st []), (.st []), (.it .i64 0)]] [(0, (t 146)), (1, (t 147))]), x 149 140 (.call false .rw 31 [t 141, t 145, t 148, (.k (.bo false))]), x 150 140 (.un .not (t 149)), o 151 (.pick (t 140) (.k (.bo true)) (t 150))] [])
(.cond (t 151)
(s [mK 0 (.bo false)]
.ret)
.skip))
(s [mV 152 5, mV 153 10, o 154 (.ias 6 (t 153) (k 0)), fA 155 1 154, lD 156 1 155, o 157 (.call false .rw 32 [t 152, t 156, (.k (.st [104, 105])), (.k (.bo true))])]
(s [mV 158 1, mV 159 5, cR 160 24 [t 159, (k 1000)], o 161 (.bld [(.it .i64 0), (.it .i64 0), (.it .i64 0), .ns] [(0, 1, (k 5)), (3, 1, (t 160))]), cR 162 7 [t 158, t 161]]
(s [mV 163 3, mV 164 1, o 165 (.bld [(.it .i64 0), (.it .i64 0), (.it .i64 0), .ns] [(0, 1, (k 4)), (2, 1, (k 1000))]), cR 166 7 [t 164, t 165], o 167 (.fld 1 1 false (t 166)), cR 168 30 [t 163, t 167]]
(s [mV 169 3, mV 170 7, cR 171 28 [t 169, t 170, (.k (.bo true))]]
(s [mV 172 1, mV 173 3, cR 174 24 [t 173, (k 1000)], o 175 (.bld [(.it .i64 0), (.it .i64 0), (.it .i64 0), .ns] [(0, 1, (k 2)), (3, 1, (t 174))]), cR 176 7 [t 172, t 175], o 11 (.alc [(.bo false), .ns, .ns]), sO 3 11 176]
(s [mV 177 3, mV 178 1, o 179 (.bld [(.it .i64 0), (.it .i64 0), (.it .i64 0), .ns] [(0, 1, (k 4)), (2, 1, (k 1000))]), cR 180 7 [t 178, t 179], o 181 (.fld 1 1 false (t 180)), cR 182 30 [t 177, t 181], mV 12 182]
(s [mV 184 1, cR 185 33 [t 184], mV 183 185, eX 186 183 0, eX 187 183 1, mV 13 186, mV 14 187]
(.seq (.reg false [
fA 188 2 11, lD 189 1 188, lN 190 false 189, o 191 (b .eql (t 190) (k 0)), mV 192 191, w 193 192 (.mov (t 13)), w 194 192 (b .eql (t 193) (k 1)), o 195 (.pick (t 192) (t 194) (.k (.bo false))), mV 196 195, w 197 196 (.mov (t 14)), w 198 196 (b .gtr (t 197) (k 100)), o 199 (.pick (t 196) (t 198) (.k (.bo false))), mV 200 199, w 201 200 (.mov (t 12)), w 202 200 (.len false (t 201)), w 203 200 (b .eql (t 202) (k 2)), o 204 (.pick (t 200) (t 203) (.k (.bo false))), mV 205 204, w 206 205 (.mov (t 12)), w 207 205 (.ias 6 (t 206) (k 0)), w 208 205 (.fad 2 (t 207)), w 209 205 (.ld 1 false (t 208)), w 210 205 (.bld [(.st []), (.st [])] [(0, 1, (.k (.st [58, 115, 116, 97, 116, 117, 115]))), (1, 1, (.k (.st [50, 48, 48])))]), w 211 205 (.bld [(.st []), (.st [])] [(0, 1, (.k (.st [99, 97, 99, 104, 101, 45, 99, 111, 110, 116, 114, 111, 108]))), (1, 1, (.k (.st [109, 97, 120, 45, 97, 103, 101, 61, 54, 48])))]), w 212 205 (.bld [(.st []), (.st [])] [(0, 1, (.k (.st [97, 103, 101]))), (1, 1, (.k (.st [48])))]), w 213 205 (.bld [(.st []), (.st [])] [(0, 1, (.k (.st [118, 105, 97]))), (1, 1, (.k (.st [50, 32, 114, 101, 115, 101, 114, 118, 111, 105, 114])))]), w 214 205 (.bsv [.one, .one] 2 (List.replicate 4 [(.st []), (.st [])]) [(0, (t 210)), (1, (t 211)), (2, (t 212)), (3, (t 213))]), w 215 205 (.call false .pure 34 [t 209, t 214]), o 216 (.pick (t 205) (t 215) (.k (.bo false))), mV 217 216, w 218 217 (.mov (t 12)), w 219 217 (.ias 6 (t 218) (k 1)), w 220 217 (.fad 3 (t 219)), w 221 217 (.ld 1 false (t 220)), w 222 217 (b .eql (t 221) (.k (.st [104, 105]))), o 223 (.pick (t 217) (t 222) (.k (.bo false))), mV 224 223, w 225 224 (.mov (t 12)), w 226 224 (.ias 6 (t 225) (k 1)), w 227 224 (.fad 4 (t 226)), w 228 224 (.ld 1 false (t 227)), o 229 (.pick (t 224) (t 228) (.k (.bo false))), mV 230 229, w 231 230 (.mov (t 1)), w 232 230 (.call false .rw 18 [t 231]), w 233 230 (b .eql (t 232) (k 0)), o 234 (.pick (t 230) (t 233) (.k (.bo false))), mV 0 234] [188])
.ret))))))))))))))))))))))))⟩
def c9 : Ev.Fn := d9.den
theorem r9 : OK 9 c9 := rd d9 { P0 .pure with loc := [8, 9, 11], ord := [(13, [0, 1, 5, 2, 3, 4, 6]), (14, [0, 1, 3, 2, 4]), (24, [0, 1, 5, 2, 3, 4, 6])], clr := [(15, [107, 113, 121, 127]), (17, [134]), (27, [188])] } Tryz.func9
def d18 : DFn := ⟨[(.c .one)], [(.c .one)], .rw, [.tmp 2],
(.seq (.reg false [
mK 2 (.it .i64 0)] [])
(s [mV 3 0, nK 4 3, fA 5 25 4, lD 6 1 5, lN 7 false 6, mV 2 7]
.ret))⟩
def c18 : Ev.Fn := d18.den
theorem r18 : OK 18 c18 := rd d18 (P0 .rw) Tryz.func18
def d19 : DFn := ⟨[(.c .one), (.g [.one, .one, .one])], [(.c .one), (.c .one)], .rw, [.tmp 4, .tmp 5],
(s [o 3 (.box (t 1)), mK 4 .np, mK 5 (.it .i64 0)]
(.seq (.seq (.reg false [
fA 8 0 3, lD 9 1 8, cP 10 51 [t 9, (k 1), (k 100)], o 11 (.un .not (t 10)), mV 12 11, x 13 12 (.fad 1 (t 3)), x 14 12 (.ld 1 false (t 13)), x 15 12 (.call false .pure 51 [t 14, (k 65535), (k 2147483647)]), x 16 12 (.un .not (t 15)), o 17 (.pick (t 12) (.k (.bo true)) (t 16)), mV 18 17, x 19 18 (.fad 2 (t 3)), x 20 18 (.ld 1 false (t 19)), x 21 18 (.call false .pure 51 [t 20, (k 1), (k 1048576)]), x 22 18 (.un .not (t 21)), o 23 (.pick (t 18) (.k (.bo true)) (t 22))] [8, 13, 19])
(.cond (t 23)
(.seq (.reg false [
mK 4 .np, mK 5 (.it .i64 1)] [])
.ret)
.skip))
(.seq (.reg true [
mV 24 0, lQ 25 3 3, cP 26 52 [], o 27 (.bld [(.bo false), (.it .i64 0), (.it .i64 0), (.it .i64 0), (.it .i64 0), (.it .i64 0), (.it .i64 0), (.it .i64 0), (.it .i64 0), .np, .np, .np, .ns, (.it .i64 0), (.it .i64 0), .ns, (.it .i64 0), (.it .i64 0), .ns, (.it .i64 0), (.bo false), .ns, (.bo false), (.bo false), (.bo false), .ns] [(0, 1, (t 24)), (1, 3, (t 25)), (4, 5, (t 26)), (17, 1, (k 1))]), o 28 (.bxh (t 27)), mV 6 28] [])
(s [mV 30 6, mV 31 0, o 32 (.call true .rw 53 [(k 16384), t 31]), mV 29 32, eX 33 29 0, eX 34 29 1, nK 35 30, fA 36 9 35, sO 1 36 33]
(.seq (.reg false [
mV 38 6, fA 39 2 3, lD 40 1 39, o 41 (.call true .rw 54 [(k 4096), t 40]), mV 37 41, eX 42 37 0, eX 43 37 1, nK 44 38, fA 45 10 44, sO 1 45 42] [39])
(.seq (.reg false [
mV 47 6, o 48 (.call true .rw 55 [(k 4096)]), mV 46 48, eX 49 46 0, eX 50 46 1, nK 51 47, fA 52 11 51, sO 1 52 49] [])
(s [mV 54 6, o 55 (.call true .pure 56 [(k 65535)]), mV 53 55, eX 56 53 0, eX 57 53 1, nK 58 54, fA 59 13 58, sO 1 59 56]
(s [mV 61 6, o 62 (.call true .pure 56 [(k 65535)]), mV 60 62, eX 63 60 0, eX 64 60 1, nK 65 61, fA 66 14 65, sO 1 66 63]
(.seq (.reg false [
fA 67 0 3, lD 68 1 67, o 69 (.bld [(.it .i64 0), (.it .i64 0)] [(0, 1, (k 3)), (1, 1, (t 68))]), fA 70 1 3, lD 71 1 70, o 72 (.bld [(.it .i64 0), (.it .i64 0)] [(0, 1, (k 4)), (1, 1, (t 71))]), fA 73 2 3, lD 74 1 73, o 75 (.bld [(.it .i64 0), (.it .i64 0)] [(0, 1, (k 6)), (1, 1, (t 74))]), o 76 (.bsv [.one, .one] 2 [[(.it .i64 0), (.it .i64 0)], [(.it .i64 0), (.it .i64 0)], [(.it .i64 0), (.it .i64 0)]] [(0, (t 69)), (1, (t 72)), (2, (t 75))]), mV 7 76] [67, 70, 73])
(.seq (.seq (.reg false [
mV 77 0, o 78 (.un .not (t 77))] [])
(.cond (t 78)
(s [mV 79 6, o 80 (.bsl 1 (List.replicate 24 [(.it .u8 0)]) [(0, (.k (.it .u8 80))), (1, (.k (.it .u8 82))), (2, (.k (.it .u8 73))), (3, (.k (.it .u8 32))), (4, (.k (.it .u8 42))), (5, (.k (.it .u8 32))), (6, (.k (.it .u8 72))), (7, (.k (.it .u8 84))), (8, (.k (.it .u8 84))), (9, (.k (.it .u8 80))), (10, (.k (.it .u8 47))), (11, (.k (.it .u8 50))), (12, (.k (.it .u8 46))), (13, (.k (.it .u8 48))), (14, (.k (.it .u8 13))), (15, (.k (.it .u8 10))), (16, (.k (.it .u8 13))), (17, (.k (.it .u8 10))), (18, (.k (.it .u8 83))), (19, (.k (.it .u8 77))), (20, (.k (.it .u8 13))), (21, (.k (.it .u8 10))), (22, (.k (.it .u8 13))), (23, (.k (.it .u8 10)))]), o 81 (.mrk (t 80)), nK 82 79, fA 83 12 82, sO 1 83 81]
(r [o 84 (.bld [(.it .i64 0), (.it .i64 0)] [(0, 1, (k 2))]), o 85 (.bsl 2 [[(.it .i64 0), (.it .i64 0)]] [(0, (t 84))]), mV 86 7, o 87 (.app 2 16 (t 85) (t 86)), mV 7 87]))
.skip))
(.seq (.reg true [
mV 88 6, mV 89 6, nK 90 89, fA 91 12 90, lD 92 1 91, mV 93 7, cP 94 58 [t 93], o 95 (.bld [(.it .i64 0), (.it .i64 0), (.it .i64 0), .ns] [(0, 1, (k 4)), (3, 1, (t 94))]), o 96 (.call true .pure 57 [t 92, t 95]), nK 97 88, fA 98 12 97, sO 1 98 96] [])
(s [mV 99 6, mV 4 99, mK 5 (.it .i64 0)]
.ret))))))))))))⟩
def c19 : Ev.Fn := d19.den
theorem r19 : OK 19 c19 := rd d19 { P0 .rw with loc := [3], heap := [32, 41, 48, 55, 62, 80, 81, 85, 96], own := [32, 41, 48, 55, 62, 80, 81, 85, 96], ord := [(0, [1, 2, 0]), (12, [0, 2, 1, 3, 4])], clr := [(1, [8, 13, 19]), (5, [39]), (9, [67, 70, 73])] } Tryz.func19
def d20 : DFn := ⟨[(.c .one)], [(.c .one), (.c .one)], .rw, [.tmp 2, .tmp 3],
(s [mK 2 .np, mK 3 (.it .i64 0)]
(.seq (s [mV 4 0, o 5 (b .lss (t 4) (k 0)), mV 6 5, x 7 6 (.mov (t 0)), x 8 6 (b .gtr (t 7) (k 16777216)), o 9 (.pick (t 6) (.k (.bo true)) (t 8))]
(.cond (t 9)
(s [mK 2 .np, mK 3 (.it .i64 1)]
.ret)
.skip))
(s [mV 10 0, o 11 (.bld [.ns, (.it .i64 0), (.it .i64 0)] [(2, 1, (t 10))]), o 12 (.bxh (t 11)), mV 2 12, mK 3 (.it .i64 0)]
.ret)))⟩
def c20 : Ev.Fn := d20.den
theorem r20 : OK 20 c20 := rd d20 (P0 .rw) Tryz.func20
def d21 : DFn := ⟨[(.c .one), (.g [.one, .one, .one, (.sl [.one])])], [(.c .one)], .rw, [.tmp 4],
(s [o 3 (.box (t 1)), mK 4 (.bo false)]
(.seq (.seq (.reg false [
fA 5 0 3, lD 6 1 5] [5])
(.blk 0 (.seq (.reg false [
o 8 (b .eql (t 6) (k 1)), mV 7 8] [])
(.cond (t 7)
(.seq (.reg false [
mV 9 0, fA 10 1 3, lD 11 1 10, cR 12 59 [t 9, t 11], mV 4 12] [10])
.ret)
(.seq (.seq (.reg false [
o 14 (b .eql (t 6) (k 2)), mV 13 14] [])
(.cond (t 13)
.skip
(s [o 15 (b .eql (t 6) (k 3)), mV 13 15]
(.cond (t 13)
.skip
(r [o 16 (b .eql (t 6) (k 4)), mV 13 16])))))
(.cond (t 13)
(s [mV 17 0, lQ 18 4 3, cR 19 60 [t 17, t 18], mV 4 19]
.ret)
(.seq (s [o 21 (b .eql (t 6) (k 5)), mV 20 21]
(.cond (t 20)
.skip
(s [o 22 (b .eql (t 6) (k 6)), mV 20 22]
(.cond (t 20)
.skip
(r [o 23 (b .eql (t 6) (k 7)), mV 20 23])))))
(.cond (t 20)
(s [mV 24 0, lQ 25 4 3, cR 26 61 [t 24, t 25], mV 4 26]
.ret)
(s [o 28 (b .eql (t 6) (k 8)), mV 27 28]
(.cond (t 27)
(.seq (.reg true [
mV 29 0, mV 30 0, nK 31 30, fA 32 24 31, lD 33 1 32, fA 34 2 3, lD 35 1 34, o 36 (.mnx true (t 33) (t 35)), o 37 (.mnx false (t 36) (k 2147483647)), nK 38 29, fA 39 24 38, sO 1 39 37] [34])
(s [mK 4 (.bo true)]
.ret))
.skip))))))))))
(s [mK 4 (.bo false)]
.ret)))⟩
def c21 : Ev.Fn := d21.den
theorem r21 : OK 21 c21 := rd d21 { P0 .rw with loc := [3], heap := [37], own := [37], ord := [(0, [1, 0])], clr := [(1, [5]), (3, [10]), (13, [34])] } Tryz.func21
def d22 : DFn := ⟨[(.c .one)], [], .rw, [],
(s [o 1 (.bxh (t 0))]
(.seq (s [lD 6 1 1, nK 7 6, fA 8 7 7, lQ 9 8 8, mK 10 (.it .i64 0)]
(.blk 0 (.loop [1, 9, 10] []
(s [o 11 (b .lss (t 10) (k 8))]
(.seq (.cond (t 11)
.skip
(.exit 0))
(.seq (.blk 1 (s [mV 12 10, o 13 (.ixa 8 1 false (t 9) (t 10)), mV 2 12, mV 3 13]
(s [mV 14 3, o 15 (.bin .ptr .neq (t 14) (.k .np)), mV 16 15, w 17 16 (.mov (t 3)), w 18 16 (.call false .rw 62 [t 17]), o 19 (.pick (t 16) (t 18) (.k (.bo false)))]
(.cond (t 19)
(r [lD 20 1 1, mV 21 2, cR 22 63 [t 20, t 21]])
.skip))))
(r [o 23 (b .add (t 10) (k 1)), mV 10 23])))))))
(.seq (s [lD 24 1 1, nK 25 24, fA 26 15 25, lQ 27 8 26, mK 28 (.it .i64 0)]
(.blk 2 (.loop [1, 27, 28] []
(s [o 29 (b .lss (t 28) (k 8))]
(.seq (.cond (t 29)
.skip
(.exit 2))
(.seq (.blk 3 (s [mV 30 28, o 31 (.ixa 8 1 false (t 27) (t 28)), mV 4 30, mV 5 31]
(s [mV 32 5, o 33 (.bin .ptr .neq (t 32) (.k .np)), mV 34 33, w 35 34 (.mov (t 5)), w 36 34 (.nck (t 35)), w 37 34 (.fad 0 (t 36)), w 38 34 (.ld 1 false (t 37)), w 39 34 (.call false .rw 62 [t 38]), o 40 (.pick (t 34) (t 39) (.k (.bo false)))]
(.cond (t 40)
(r [lD 41 1 1, mV 42 4, cR 43 64 [t 41, t 42, (.k (.it .i64 (-1)))]])
.skip))))
(r [o 44 (b .add (t 28) (k 1)), mV 28 44])))))))
(s [lD 45 1 1, o 46 (.mkf 66 [] [t 1]), cR 47 65 [t 45, t 46]]
(s [lD 48 1 1, o 49 (.mkf 68 [] [t 1]), cR 50 65 [t 48, t 49]]
(r [lD 51 1 1, o 52 (.mkf 70 [] [t 1]), cR 53 65 [t 51, t 52]]))))))⟩
def c22 : Ev.Fn := d22.den
theorem r22 : OK 22 c22 := rd d22 { P0 .rw with mask := [(2, [1, 9, 10], []), (8, [1, 27, 28], [])], fns := [66, 68, 70] } Tryz.func22
def d23 : DFn := ⟨[(.c .one), (.c .one)], [(.c .one)], .rw, [.tmp 4],
(s [mK 4 .np]
(.seq (s [mV 5 1, o 6 (b .lss (t 5) (k 0)), mV 7 6, x 8 7 (.mov (t 1)), x 9 7 (b .geq (t 8) (k 8)), o 10 (.pick (t 7) (.k (.bo true)) (t 9))]
(.cond (t 10)
(s [mK 4 .np]
.ret)
.skip))
(s [mV 11 0, mV 12 1, nK 13 11, fA 14 7 13, o 15 (.iaa 8 1 (t 14) (t 12)), lD 16 1 15, mV 4 16]
.ret)))⟩
def c23 : Ev.Fn := d23.den
theorem r23 : OK 23 c23 := rd d23 (P0 .rw) Tryz.func23
def d24 : DFn := ⟨[(.c .one), (.c .one)], [(.c (.sl [.one]))], .rw, [.tmp 4],
(s [mK 4 .ns]
(s [mV 6 1, o 7 (.mnx true (t 6) (k 0)), mV 8 0, nK 9 8, fA 10 12 9, lD 11 1 10, lN 12 false 11, o 13 (.mnx false (t 7) (t 12)), mV 1 13]
(s [mV 14 0, nK 15 14, fA 16 12 15, lD 17 1 16, mV 18 1, o 19 (.slc false 1 (t 17) none (some (t 18))), o 20 (.app 1 1 (.k .ns) (t 19)), mV 5 20]
(s [mV 21 0, mV 22 0, nK 23 22, fA 24 12 23, lD 25 1 24, mV 26 1, o 27 (.slc false 1 (t 25) (some (t 26)) none), o 28 (.app 1 1 (.k .ns) (t 27)), nK 29 21, fA 30 12 29, sO 1 30 28]
(s [mV 31 5, mV 4 31]
.ret)))))⟩
def c24 : Ev.Fn := d24.den
theorem r24 : OK 24 c24 := rd d24 { P0 .rw with heap := [28], own := [28] } Tryz.func24
def d25 : DFn := ⟨[(.c .one), (.c .one)], [(.c .one)], .rw, [.tmp 4],
(s [mK 4 .np]
(.seq (s [mV 5 1, o 6 (b .lss (t 5) (k 0)), mV 7 6, x 8 7 (.mov (t 1)), x 9 7 (b .geq (t 8) (k 8)), o 10 (.pick (t 7) (.k (.bo true)) (t 9))]
(.cond (t 10)
(s [mK 4 .np]
.ret)
.skip))
(s [mV 11 0, mV 12 1, nK 13 11, fA 14 15 13, o 15 (.iaa 8 1 (t 14) (t 12)), lD 16 1 15, mV 4 16]
.ret)))⟩
def c25 : Ev.Fn := d25.den
theorem r25 : OK 25 c25 := rd d25 (P0 .rw) Tryz.func25
def d26 : DFn := ⟨[(.c .one)], [(.c .one)], .rw, [.tmp 2],
(s [mK 2 (.it .i64 0)]
(s [mV 3 0, nK 4 3, fA 5 12 4, lD 6 1 5, lN 7 false 6, mV 2 7]
.ret))⟩
def c26 : Ev.Fn := d26.den
theorem r26 : OK 26 c26 := rd d26 (P0 .rw) Tryz.func26
def d27 : DFn := ⟨[(.c .one), (.c .one)], [(.g [.one, .one, .one])], .pure, [.cell 4 3 true],
(s [o 4 (.alc [(.st []), (.st []), (.it .i64 0)])]
(s [mV 5 0, mV 6 1, o 7 (.bld [(.st []), (.st [])] [(0, 1, (t 5)), (1, 1, (t 6))]), o 8 (.bld [(.st []), (.st []), (.it .i64 0)] [(0, 2, (t 7)), (2, 1, (k 1))]), sO 3 4 8]
.ret))⟩
def c27 : Ev.Fn := d27.den
theorem r27 : OK 27 c27 := rd d27 { P0 .pure with loc := [4] } Tryz.func27
def d28 : DFn := ⟨[(.c .one), (.c (.sl [.one, .one, .one])), (.c .one)], [(.c .one), (.c .one)], .rw, [.tmp 6, .tmp 7],
(s [mK 6 (.it .i64 0), mK 7 (.bo false)]
(.seq (.seq (.reg true [
mV 9 0, nK 10 9, fA 11 24 10, lD 12 1 11, mV 13 12, x 14 13 (.mov (t 0)), x 15 13 (.nck (t 14)), x 16 13 (.fad 0 (t 15)), x 17 13 (.ld 1 false (t 16)), o 18 (.pick (t 13) (.k (.bo true)) (t 17)), mV 19 18, x 20 19 (.mov (t 0)), x 21 19 (.nck (t 20)), x 22 19 (.fad 23 (t 21)), x 23 19 (.ld 1 false (t 22)), o 24 (.pick (t 19) (.k (.bo true)) (t 23)), mV 25 24, x 26 25 (.mov (t 0)), x 27 25 (.nck (t 26)), x 28 25 (.fad 17 (t 27)), x 29 25 (.ld 1 false (t 28)), x 30 25 (b .gtr (t 29) (k 2147483647)), o 31 (.pick (t 25) (.k (.bo true)) (t 30)), mV 32 31, x 33 32 (.mov (t 0)), x 34 32 (.nck (t 33)), x 35 32 (.fad 15 (t 34)), x 36 32 (.ld 1 false (t 35)), x 37 32 (.len false (t 36)), x 38 32 (.mov (t 0)), x 39 32 (.nck (t 38)), x 40 32 (.fad 4 (t 39)), x 41 32 (.fad 1 (t 40)), x 42 32 (.ld 1 false (t 41)), x 43 32 (b .geq (t 37) (t 42)), o 44 (.pick (t 32) (.k (.bo true)) (t 43)), mV 45 44, x 46 45 (.mov (t 0)), x 47 45 (.nck (t 46)), x 48 45 (.fad 12 (t 47)), x 49 45 (.ld 1 false (t 48)), x 50 45 (.len false (t 49)), x 51 45 (b .geq (t 50) (k 131072)), o 52 (.pick (t 45) (.k (.bo true)) (t 51)), mV 53 52, x 54 53 (.mov (t 1)), x 55 53 (.call false .pure 72 [t 54]), x 56 53 (.un .not (t 55)), o 57 (.pick (t 53) (.k (.bo true)) (t 56))] [])
(.cond (t 57)
(s [mK 6 (.it .i64 0), mK 7 (.bo false)]
.ret)
.skip))
(s [mV 58 0, mV 59 0, nK 60 59, fA 61 17 60, lD 62 1 61, cR 63 73 [t 58, t 62], mV 8 63]
(s [mV 64 0, nK 65 64, fA 66 17 65, lD 67 1 66, o 68 (b .add (t 67) (k 2)), nK 69 64, fA 70 17 69, sO 1 70 68]
(s [mV 71 0, mV 72 8, mV 73 1, mV 74 2, cR 75 74 [t 71, t 72, t 73, t 74]]
(s [mV 76 8, nK 77 76, fA 78 0 77, lD 79 1 78, mV 6 79, mK 7 (.bo true)]
.ret))))))⟩
def c28 : Ev.Fn := d28.den
theorem r28 : OK 28 c28 := rd d28 (P0 .rw) Tryz.func28
def d29 : DFn := ⟨[(.c .one)], [(.c .one)], .ro, [.tmp 2],
(s [mK 2 (.it .i64 0)]
(s [mV 3 0, nK 4 3, fA 5 24 4, lD 6 1 5, mV 2 6]
.ret))⟩
def c29 : Ev.Fn := d29.den
theorem r29 : OK 29 c29 := rd d29 (P0 .ro) Tryz.func29
def d30 : DFn := ⟨[(.c .one), (.c (.sl [.one]))], [(.c (.sl [.one, .one, (.sl [.one, .one]), .one, .one, .one]))], .rw, [.tmp 4],
(s [mK 4 .ns]
(.seq (s [mV 10 0, nK 11 10, fA 12 24 11, lD 13 1 12]
(.cond (t 13)
(s [mK 4 .ns]
.ret)
.skip))
(s [mV 14 0, nK 15 14, fA 16 25 15, n (.sto 1 (t 16) (.k .ns))]
(s [mV 18 0, nK 19 18, fA 20 9 19, lD 21 1 20, mV 22 1, cR 23 75 [t 21, t 22], mV 17 23, eX 24 17 0, eX 25 17 1, o 6 (.alc [(.it .i64 0), (.it .i64 0), (.it .i64 0)]), mV 5 24, sO 3 6 25]
(.seq (s [mV 26 5, lN 27 false 26, mK 28 (.it .i64 0)]
(.blk 0 (.loop [0, 6, 26, 27, 28] [8]
(s [o 29 (b .lss (t 28) (t 27))]
(.seq (.cond (t 29)
.skip
(.exit 0))
(.seq (.blk 1 (s [o 30 (.ias 4 (t 26) (t 28)), lQ 31 4 30, o 8 (.alc [(.it .i64 0), (.it .i64 0), (.it .i64 0), .ns]), sO 4 8 31]
(s [mV 32 0, nK 33 32, fA 34 24 33, lD 35 1 34, o 36 (.un .not (t 35))]
(.cond (t 36)
(r [mV 37 0, lQ 38 4 8, cR 39 76 [t 37, t 38]])
.skip))))
(r [o 40 (b .add (t 28) (k 1)), mV 28 40])))))))
(.seq (.seq (.reg false [
mV 41 0, nK 42 41, fA 43 24 42, lD 44 1 43, o 45 (.un .not (t 44)), mV 46 45, w 47 46 (.fad 0 (t 6)), w 48 46 (.ld 1 false (t 47)), w 49 46 (b .neq (t 48) (k 0)), o 50 (.pick (t 46) (t 49) (.k (.bo false)))] [47])
(.cond (t 50)
(.reg false [
mV 51 0, fA 52 1 6, lD 53 1 52, cR 54 77 [t 51, t 53]] [52])
.skip))
(.seq (.reg false [
mV 55 0, nK 56 55, fA 57 25 56, lD 58 1 57, mV 9 58] [])
(s [mV 59 0, nK 60 59, fA 61 25 60, n (.sto 1 (t 61) (.k .ns))]
(s [mV 62 9, mV 4 62]
.ret)))))))))⟩
def c30 : Ev.Fn := d30.den
theorem r30 : OK 30 c30 := rd d30 { P0 .rw with loc := [6, 8], ord := [(4, [0, 1, 2, 3, 4, 9, 5, 6, 7, 8, 10, 11])], clr := [(11, [47]), (12, [52])], mask := [(6, [0, 6, 26, 27, 28], [8])] } Tryz.func30
def d31 : DFn := ⟨[(.c .one), (.c .one), (.c (.sl [.one, .one, .one])), (.c .one)], [(.c .one)], .rw, [.tmp 8],
(s [mK 8 (.bo false)]
(s [mV 10 0, mV 11 1, cR 12 78 [t 10, t 11], mV 9 12]
(.seq (s [mV 13 9, o 14 (.bin .ptr .eql (t 13) (.k .np)), mV 15 14, x 16 15 (.mov (t 9)), x 17 15 (.call false .rw 79 [t 16]), x 18 15 (.un .not (t 17)), o 19 (.pick (t 15) (.k (.bo true)) (t 18)), mV 20 19, x 21 20 (.mov (t 9)), x 22 20 (.nck (t 21)), x 23 20 (.fad 5 (t 22)), x 24 20 (.ld 1 false (t 23)), x 25 20 (.mov (t 24)), w 26 25 (.mov (t 3)), w 27 25 (.un .not (t 26)), x 28 20 (.pick (t 25) (t 27) (.k (.bo false))), o 29 (.pick (t 20) (.k (.bo true)) (t 28)), mV 30 29, x 31 30 (.mov (t 0)), x 32 30 (.nck (t 31)), x 33 30 (.fad 12 (t 32)), x 34 30 (.ld 1 false (t 33)), x 35 30 (.len false (t 34)), x 36 30 (b .geq (t 35) (k 131072)), o 37 (.pick (t 30) (.k (.bo true)) (t 36)), mV 38 37, x 39 38 (.mov (t 2)), x 40 38 (.call false .pure 72 [t 39]), x 41 38 (.un .not (t 40)), o 42 (.pick (t 38) (.k (.bo true)) (t 41))]
(.cond (t 42)
(s [mK 8 (.bo false)]
.ret)
.skip))
(s [mV 43 0, mV 44 9, mV 45 2, mV 46 3, cR 47 74 [t 43, t 44, t 45, t 46]]
(s [mK 8 (.bo true)]
.ret)))))⟩
def c31 : Ev.Fn := d31.den
theorem r31 : OK 31 c31 := rd d31 (P0 .rw) Tryz.func31
def d32 : DFn := ⟨[(.c .one), (.c .one), (.c .one), (.c .one)], [(.c .one), (.c .one)], .rw, [.tmp 8, .tmp 9],
(s [mK 8 (.it .i64 0), mK 9 (.bo false)]
(s [mV 14 0, mV 15 1, cR 16 78 [t 14, t 15], mV 10 16]
(.seq (s [mV 17 10, o 18 (.bin .ptr .eql (t 17) (.k .np)), mV 19 18, x 20 19 (.mov (t 10)), x 21 19 (.call false .rw 79 [t 20]), x 22 19 (.un .not (t 21)), o 23 (.pick (t 19) (.k (.bo true)) (t 22)), mV 24 23, x 25 24 (.mov (t 10)), x 26 24 (.nck (t 25)), x 27 24 (.fad 5 (t 26)), x 28 24 (.ld 1 false (t 27)), x 29 24 (.un .not (t 28)), o 30 (.pick (t 24) (.k (.bo true)) (t 29)), mV 31 30, x 32 31 (.mov (t 2)), x 33 31 (b .eql (t 32) (.k (.st []))), x 34 31 (.mov (t 33)), w 35 34 (.mov (t 3)), x 36 31 (.pick (t 34) (t 35) (.k (.bo false))), x 37 31 (.mov (t 36)), w 38 37 (.mov (t 0)), w 39 37 (.nck (t 38)), w 40 37 (.fad 12 (t 39)), w 41 37 (.ld 1 false (t 40)), w 42 37 (.len false (t 41)), w 43 37 (b .geq (t 42) (k 131072)), x 44 31 (.pick (t 37) (t 43) (.k (.bo false))), o 45 (.pick (t 31) (.k (.bo true)) (t 44))]
(.cond (t 45)
(s [mK 8 (.it .i64 0), mK 9 (.bo false)]
.ret)
.skip))
(s [mK 11 (.it .i64 0)]
(.seq (.blk 0 (.loop [0, 1, 2, 3, 10, 11] [13]
(.seq (s [mV 46 11, mV 47 2, lN 48 true 47, o 49 (b .lss (t 46) (t 48))]
(.cond (t 49)
.skip
(.exit 0)))
(.blk 1 (.seq (.reg true [
mV 50 2, lN 51 true 50, mV 52 11, o 53 (b .sub (t 51) (t 52)), mV 54 0, nK 55 54, fA 56 4 55, fA 57 3 56, lD 58 1 57, mV 59 0, nK 60 59, fA 61 12 60, lD 62 1 61, lN 63 false 62, o 64 (b .sub (k 131072) (t 63)), o 65 (.mn3 false (t 53) (t 58) (t 64)), mV 66 0, nK 67 66, fA 68 13 67, lQ 69 1 68, mV 70 10, nK 71 70, fA 72 2 71, lQ 73 1 72, o 74 (.bsv [.one] 1 [[(.it .i64 0)], [(.it .i64 0)]] [(0, (t 69)), (1, (t 73))]), cP 75 80 [t 65, t 74], mV 12 75] [])
(.seq (s [mV 76 12, o 77 (b .lss (t 76) (k 1))]
(.cond (t 77)
(s [mV 78 11, mV 8 78, mK 9 (.bo true)]
.ret)
.skip))
(s [mV 79 1, mV 80 2, mV 81 11, mV 82 11, mV 83 12, o 84 (b .add (t 82) (t 83)), o 85 (.slc true 0 (t 80) (some (t 81)) (some (t 84))), o 86 (.cnv .s2v (t 85)), o 87 (.bld [(.it .i64 0), (.it .i64 0), (.it .i64 0), .ns] [(0, 1, (k 0)), (2, 1, (t 79)), (3, 1, (t 86))]), o 13 (.alc [(.it .i64 0), (.it .i64 0), (.it .i64 0), .ns]), sO 4 13 87]
(s [mV 88 11, mV 89 12, o 90 (b .add (t 88) (t 89)), mV 11 90]
(.seq (s [mV 91 3, mV 92 91, w 93 92 (.mov (t 11)), w 94 92 (.mov (t 2)), w 95 92 (.len true (t 94)), w 96 92 (b .eql (t 93) (t 95)), o 97 (.pick (t 92) (t 96) (.k (.bo false)))]
(.cond (t 97)
(.reg false [
fA 98 1 13, n (.sto 1 (t 98) (k 1))] [98])
.skip))
(.seq (.reg true [
mV 99 0, mV 100 0, nK 101 100, fA 102 12 101, lD 103 1 102, lQ 104 4 13, o 105 (.call true .pure 57 [t 103, t 104]), nK 106 99, fA 107 12 106, sO 1 107 105] [])
(s [mV 109 0, mV 110 0, nK 111 110, fA 112 13 111, lQ 113 1 112, mV 114 12, o 115 (.call true .pure 81 [t 113, t 114]), mV 108 115, eX 116 108 0, eX 117 108 1, nK 118 109, fA 119 13 118, sO 1 119 116]
(r [mV 121 10, mV 122 10, nK 123 122, fA 124 2 123, lQ 125 1 124, mV 126 12, o 127 (.call true .pure 81 [t 125, t 126]), mV 120 127, eX 128 120 0, eX 129 120 1, nK 130 121, fA 131 2 130, sO 1 131 128]))))))))))))
(.seq (s [mV 132 3, o 133 (.un .not (t 132))]
(.cond (t 133)
(s [mV 134 11, mV 8 134, mK 9 (.bo true)]
.ret)
.skip))
(.seq (s [mV 135 2, o 136 (b .eql (t 135) (.k (.st [])))]
(.cond (t 136)
(r [mV 137 0, mV 138 0, nK 139 138, fA 140 12 139, lD 141 1 140, mV 142 1, o 143 (.bld [(.it .i64 0), (.it .i64 0), (.it .i64 0), .ns] [(0, 1, (k 0)), (1, 1, (k 1)), (2, 1, (t 142))]), o 144 (.call true .pure 57 [t 141, t 143]), nK 145 137, fA 146 12 145, sO 1 146 144])
.skip))
(s [mV 147 0, mV 148 10, cR 149 82 [t 147, t 148, (k 13)]]
(s [mV 150 11, mV 8 150, mK 9 (.bo true)]
.ret)))))))))⟩
def c32 : Ev.Fn := d32.den
theorem r32 : OK 32 c32 := rd d32 { P0 .rw with loc := [13], heap := [105, 115, 127, 144], own := [105, 115, 127, 144], clr := [(12, [98])], mask := [(5, [0, 1, 2, 3, 10, 11], [13])] } Tryz.func32
def d33 : DFn := ⟨[(.c .one)], [(.c .one), (.c .one)], .rw, [.tmp 2, .tmp 3],
(s [mK 2 (.it .i64 0), mK 3 (.it .i64 0)]
(.seq (.reg true [
mV 4 0, nK 5 4, fA 6 23 5, lD 7 1 6, mV 9 0, nK 10 9, fA 11 23 10, lD 12 1 11, o 8 (.call false .ro 83 [t 7]), o 13 (.call false .ro 84 [t 12]), mV 2 8, mV 3 13] [])
.ret))⟩
def c33 : Ev.Fn := d33.den
theorem r33 : OK 33 c33 := rd d33 { P0 .rw with ord := [(1, [0, 1, 2, 3, 5, 6, 7, 8, 4, 9, 10, 11])] } Tryz.func33
def d34 : DFn := ⟨[(.c (.sl [.one, .one])), (.c (.sl [.one, .one]))], [(.c .one)], .pure, [.tmp 4],
(s [mK 4 (.bo false)]
(.seq (s [mV 6 0, lN 7 false 6, mV 8 1, lN 9 false 8, o 10 (b .neq (t 7) (t 9))]
(.cond (t 10)
(s [mK 4 (.bo false)]
.ret)
.skip))
(.seq (s [mK 5 (.it .i64 0)]
(.blk 0 (.loop [0, 1, 5] []
(.seq (s [mV 11 5, mV 12 0, lN 13 false 12, o 14 (b .lss (t 11) (t 13))]
(.cond (t 14)
.skip
(.exit 0)))
(.seq (.blk 1 (.seq (.reg true [
mV 17 0, mV 18 5, o 19 (.ias 2 (t 17) (t 18)), lQ 20 2 19, mV 21 1, mV 22 5, o 23 (.ias 2 (t 21) (t 22)), lQ 24 2 23, o 25 (.bin (.ag [1, 1]) .neq (t 20) (t 24))] [])
(.cond (t 25)
(s [mK 4 (.bo false)]
.ret)
.skip)))
(r [mV 15 5, o 16 (b .add (t 15) (k 1)), mV 5 16]))))))
(s [mK 4 (.bo true)]
.ret))))⟩
def c34 : Ev.Fn := d34.den
theorem r34 : OK 34 c34 := rd d34 { P0 .pure with mask := [(4, [0, 1, 5], [])] } Tryz.func34
def d51 : DFn := ⟨[(.c .one), (.c .one), (.c .one)], [(.c .one)], .pure, [.tmp 6],
(s [mK 6 (.bo false)]
(s [mV 7 0, mV 8 1, o 9 (b .geq (t 7) (t 8)), mV 10 9, w 11 10 (.mov (t 0)), w 12 10 (.mov (t 2)), w 13 10 (b .leq (t 11) (t 12)), o 14 (.pick (t 10) (t 13) (.k (.bo false))), mV 6 14]
.ret))⟩
def c51 : Ev.Fn := d51.den
theorem r51 : OK 51 c51 := rd d51 (P0 .pure) Tryz.func51
def d52 : DFn := ⟨[], [(.g [.one, .one, .one, .one, .one])], .pure, [.cell 0 5 true],
(s [o 0 (.alc [(.it .i64 0), (.it .i64 0), (.it .i64 0), (.it .i64 0), (.it .i64 0)])]
(s [o 1 (.bld [(.it .i64 0), (.it .i64 0), (.it .i64 0), (.it .i64 0), (.it .i64 0)] [(0, 1, (k 4096)), (1, 1, (k 2147483647)), (2, 1, (k 65535)), (3, 1, (k 16384)), (4, 1, (k 2147483647))]), sO 5 0 1]
.ret))⟩
def c52 : Ev.Fn := d52.den
theorem r52 : OK 52 c52 := rd d52 { P0 .pure with loc := [0] } Tryz.func52
def d53 : DFn := ⟨[(.c .one), (.c .one)], [(.c .one), (.c .one)], .rw, [.tmp 4, .tmp 5],
(s [mK 4 .np, mK 5 (.it .i64 0)]
(.seq (s [mV 7 0, cP 8 91 [t 7], o 9 (.un .not (t 8))]
(.cond (t 9)
(s [mK 4 .np, mK 5 (.it .i64 1)]
.ret)
.skip))
(s [mV 10 0, o 11 (.bld [(.it .i64 0), (.st []), .ns, (.it .i64 0), (.it .i64 0), (.it .i64 0)] [(0, 1, (t 10))]), o 12 (.bxh (t 11)), mV 6 12]
(.seq (s [mV 13 1]
(.cond (t 13)
(r [mV 14 6, nK 15 14, fA 16 1 15, n (.sto 1 (t 16) (.k (.st [80, 82, 73, 32, 42, 32, 72, 84, 84, 80, 47, 50, 46, 48, 13, 10, 13, 10, 83, 77, 13, 10, 13, 10])))])
.skip))
(s [mV 17 6, mV 4 17, mK 5 (.it .i64 0)]
.ret)))))⟩
def c53 : Ev.Fn := d53.den
theorem r53 : OK 53 c53 := rd d53 (P0 .rw) Tryz.func53
def d54 : DFn := ⟨[(.c .one), (.c .one)], [(.c .one), (.c .one)], .rw, [.tmp 4, .tmp 5],
(s [mK 4 .np, mK 5 (.it .i64 0)]
(.seq (s [mV 8 1, o 9 (b .lss (t 8) (k 0)), mV 10 9, x 11 10 (.mov (t 1)), x 12 10 (b .gtr (t 11) (k 2147483647)), o 13 (.pick (t 10) (.k (.bo true)) (t 12))]
(.cond (t 13)
(s [mK 4 .np, mK 5 (.it .i64 1)]
.ret)
.skip))
(s [mV 15 0, cR 16 92 [t 15], mV 14 16, eX 17 14 0, eX 18 14 1, mV 6 17, mV 7 18]
(.seq (s [mV 19 7, o 20 (b .neq (t 19) (k 0))]
(.cond (t 20)
(s [mV 21 7, mK 4 .np, mV 5 21]
.ret)
.skip))
(s [mV 22 6, mV 23 0, mV 24 1, o 25 (.bld [.np, (.it .i64 0), (.it .i64 0), (.bo false)] [(0, 1, (t 22)), (1, 1, (t 23)), (2, 1, (t 24))]), o 26 (.bxh (t 25)), mV 4 26, mK 5 (.it .i64 0)]
.ret)))))⟩
def c54 : Ev.Fn := d54.den
theorem r54 : OK 54 c54 := rd d54 (P0 .rw) Tryz.func54
def d55 : DFn := ⟨[(.c .one)], [(.c .one), (.c .one)], .rw, [.tmp 2, .tmp 3],
(s [mK 2 .np, mK 3 (.it .i64 0)]
(s [mV 7 0, cR 8 92 [t 7], mV 6 8, eX 9 6 0, eX 10 6 1, mV 4 9, mV 5 10]
(.seq (s [mV 11 5, o 12 (b .neq (t 11) (k 0))]
(.cond (t 12)
(s [mV 13 5, mK 2 .np, mV 3 13]
.ret)
.skip))
(s [mV 14 4, o 15 (.bld [.np, (.bo false), (.it .i64 0)] [(0, 1, (t 14)), (1, 1, (.k (.bo true)))]), o 16 (.bxh (t 15)), mV 2 16, mK 3 (.it .i64 0)]
.ret))))⟩
def c55 : Ev.Fn := d55.den
theorem r55 : OK 55 c55 := rd d55 (P0 .rw) Tryz.func55
def d56 : DFn := ⟨[(.c .one)], [(.g [.one]), (.c .one)], .pure, [.cell 2 1 true, .tmp 3],
(s [o 2 (.alc [(.it .i64 0)]), mK 3 (.it .i64 0)]
(.seq (s [mV 4 0, cP 5 93 [t 4], o 6 (.un .not (t 5))]
(.cond (t 6)
(s [o 7 (.bld [(.it .i64 0)] []), sO 1 2 7, mK 3 (.it .i64 1)]
.ret)
.skip))
(s [mV 8 0, o 9 (.bld [(.it .i64 0)] [(0, 1, (t 8))]), sO 1 2 9, mK 3 (.it .i64 0)]
.ret)))⟩
def c56 : Ev.Fn := d56.den
theorem r56 : OK 56 c56 := rd d56 { P0 .pure with loc := [2], ord := [(0, [1, 0])] } Tryz.func56
def d57 : DFn := ⟨[(.c (.sl [.one])), (.g [.one, .one, .one, (.sl [.one])])], [(.c (.sl [.one]))], .pure, [.tmp 4],
(s [o 3 (.box (t 1)), mK 4 .ns]
(.seq (s [lQ 8 4 3, cP 9 94 [t 8], o 10 (.un .not (t 9))]
(.cond (t 10)
(s [mV 11 0, o 12 (.app 1 1 (.k .ns) (t 11)), mV 4 12]
.ret)
.skip))
(.seq (.reg true [
fA 13 3 3, lD 14 1 13, lN 15 false 14, fA 16 2 3, lD 17 1 16, mV 5 15, mV 6 17] [13, 16])
(s [mV 18 0, lN 19 false 18, o 20 (b .add (t 19) (k 9)), mV 21 5, o 22 (b .add (t 20) (t 21)), o 23 (.mks 1 1 [(.it .u8 0)] (k 0) (t 22)), mV 7 23]
(s [mV 24 7, mV 25 0, o 26 (.app 1 1 (t 24) (t 25)), mV 7 26]
(.seq (.reg false [
mV 27 7, mV 28 5, o 29 (b .shr (t 28) (.k (.it .u64 16))), cV 30 .u8 29, mV 31 5, o 32 (b .shr (t 31) (.k (.it .u64 8))), cV 33 .u8 32, mV 34 5, cV 35 .u8 34, fA 36 0 3, lD 37 1 36, cV 38 .u8 37, fA 39 1 3, lD 40 1 39, cV 41 .u8 40, mV 42 6, o 43 (b .shr (t 42) (.k (.it .u64 24))), cV 44 .u8 43, mV 45 6, o 46 (b .shr (t 45) (.k (.it .u64 16))), cV 47 .u8 46, mV 48 6, o 49 (b .shr (t 48) (.k (.it .u64 8))), cV 50 .u8 49, mV 51 6, cV 52 .u8 51, o 53 (.bsv [.one] 1 (List.replicate 9 [(.it .u8 0)]) [(0, (t 30)), (1, (t 33)), (2, (t 35)), (3, (t 38)), (4, (t 41)), (5, (t 44)), (6, (t 47)), (7, (t 50)), (8, (t 52))]), o 54 (.app 1 1 (t 27) (t 53)), mV 7 54] [36, 39])
(.seq (.reg false [
mV 55 7, fA 56 3 3, lD 57 1 56, o 58 (.app 1 1 (t 55) (t 57)), mV 4 58] [56])
.ret)))))))⟩
def c57 : Ev.Fn := d57.den
theorem r57 : OK 57 c57 := rd d57 { P0 .pure with loc := [3], heap := [26, 54], own := [26, 54], ord := [(0, [1, 0])], clr := [(3, [13, 16]), (6, [36, 39]), (7, [56])] } Tryz.func57
def d58 : DFn := ⟨[(.c (.sl [.one, .one]))], [(.c (.sl [.one]))], .pure, [.tmp 2],
(.seq (.reg false [
mK 2 .ns] [])
(s [mK 3 .ns]
(.seq (s [mV 7 0, lN 8 false 7, mK 9 (.it .i64 0)]
(.blk 0 (.loop [3, 7, 8, 9] [5]
(s [o 10 (b .lss (t 9) (t 8))]
(.seq (.cond (t 10)
.skip
(.exit 0))
(.seq (.blk 1 (s [o 11 (.ias 2 (t 7) (t 9)), lQ 12 2 11, o 5 (.alc [(.it .i64 0), (.it .i64 0)]), sO 2 5 12]
(.seq (.reg false [
fA 13 1 5, lD 14 1 13, mV 6 14] [13])
(.reg false [
mV 15 3, fA 16 0 5, lD 17 1 16, o 18 (b .shr (t 17) (.k (.it .u64 8))), cV 19 .u8 18, fA 20 0 5, lD 21 1 20, cV 22 .u8 21, mV 23 6, o 24 (b .shr (t 23) (.k (.it .u64 24))), cV 25 .u8 24, mV 26 6, o 27 (b .shr (t 26) (.k (.it .u64 16))), cV 28 .u8 27, mV 29 6, o 30 (b .shr (t 29) (.k (.it .u64 8))), cV 31 .u8 30, mV 32 6, cV 33 .u8 32, o 34 (.bsv [.one] 1 (List.replicate 6 [(.it .u8 0)]) [(0, (t 19)), (1, (t 22)), (2, (t 25)), (3, (t 28)), (4, (t 31)), (5, (t 33))]), o 35 (.app 1 1 (t 15) (t 34)), mV 3 35] [16, 20]))))
(.reg false [
o 36 (b .add (t 9) (k 1)), mV 9 36] [])))))))
(.seq (r [mV 37 3, mV 2 37])
.ret))))⟩
def c58 : Ev.Fn := d58.den
theorem r58 : OK 58 c58 := rd d58 { P0 .pure with loc := [5], heap := [35], own := [35], clr := [(5, [13]), (6, [16, 20])], mask := [(3, [3, 7, 8, 9], [5])] } Tryz.func58
def d59 : DFn := ⟨[(.c .one), (.c .one)], [(.c .one)], .rw, [.tmp 4],
(s [mK 4 (.bo false)]
(.seq (s [mV 5 1, o 6 (b .lss (t 5) (k 0)), mV 7 6, x 8 7 (.mov (t 1)), x 9 7 (b .geq (t 8) (k 8)), o 10 (.pick (t 7) (.k (.bo true)) (t 9)), mV 11 10, x 12 11 (.mov (t 0)), x 13 11 (.mov (t 1)), x 14 11 (.nck (t 12)), x 15 11 (.fad 7 (t 14)), x 16 11 (.iaa 8 1 (t 15) (t 13)), x 17 11 (.ld 1 false (t 16)), x 18 11 (.bin .ptr .neq (t 17) (.k .np)), o 19 (.pick (t 11) (.k (.bo true)) (t 18))]
(.cond (t 19)
(s [mK 4 (.bo false)]
.ret)
.skip))
(.seq (.reg true [
mV 21 0, mV 22 1, mV 23 0, nK 24 23, fA 25 0 24, fA 26 2 25, lQ 27 3 26, nK 31 21, fA 32 7 31, o 28 (.call true .rw 19 [(.k (.bo true)), t 27]), mV 20 28, eX 29 20 0, eX 30 20 1, o 33 (.iaa 8 1 (t 32) (t 22)), sO 1 33 29] [])
(s [mK 4 (.bo true)]
.ret))))⟩
def c59 : Ev.Fn := d59.den
theorem r59 : OK 59 c59 := rd d59 { P0 .rw with heap := [28], own := [28], ord := [(3, [0, 1, 2, 3, 4, 5, 6, 11, 12, 7, 8, 9, 10, 13, 14])] } Tryz.func59
def d60 : DFn := ⟨[(.c .one), (.g [.one, .one, .one, (.sl [.one])])], [(.c .one)], .rw, [.tmp 4],
(s [o 3 (.box (t 1)), mK 4 (.bo false)]
(.seq (.reg false [
mV 8 0, fA 9 1 3, lD 10 1 9, cR 11 23 [t 8, t 10], mV 5 11] [9])
(.seq (.seq (.reg false [
mV 12 5, o 13 (.bin .ptr .eql (t 12) (.k .np))] [])
(.cond (t 13)
(s [mK 4 (.bo false)]
.ret)
.skip))
(.seq (.seq (.reg false [
fA 14 0 3, lD 15 1 14] [14])
(.blk 0 (.seq (.reg false [
o 17 (b .eql (t 15) (k 2)), mV 16 17] [])
(.cond (t 16)
(.seq (.reg false [
mV 18 5, fA 19 3 3, lD 20 1 19, cR 21 30 [t 18, t 20], lN 22 false 21, mK 23 (.it .i64 0)] [19])
(.blk 1 (.loop [0, 3, 21, 22, 23] [7]
(.seq (.reg false [
o 24 (b .lss (t 23) (t 22))] [])
(.seq (.cond (t 24)
.skip
(.exit 1))
(.seq (.blk 2 (s [o 25 (.ias 6 (t 21) (t 23)), lQ 26 6 25, o 7 (.alc [(.it .i64 0), (.it .i64 0), .ns, (.st []), (.bo false), (.it .i64 0)]), sO 6 7 26]
(.reg false [
mV 27 0, fA 28 1 3, lD 29 1 28, lQ 30 6 7, cR 31 95 [t 27, t 29, t 30]] [28])))
(.reg false [
o 32 (b .add (t 23) (k 1)), mV 23 32] [])))))))
(s [o 34 (b .eql (t 15) (k 3)), mV 33 34]
(.cond (t 33)
(.seq (.reg true [
mV 35 0, fA 36 1 3, lD 37 1 36, nK 38 35, fA 39 7 38, o 40 (.iaa 8 1 (t 39) (t 37)), n (.sto 1 (t 40) (.k .np))] [36])
(.reg false [
mV 41 0, fA 42 1 3, lD 43 1 42, cR 44 63 [t 41, t 43]] [42]))
.skip))))))
(s [mK 4 (.bo true)]
.ret)))))⟩
def c60 : Ev.Fn := d60.den
theorem r60 : OK 60 c60 := rd d60 { P0 .rw with loc := [3, 7], ord := [(0, [1, 0]), (6, [0, 1, 2, 5, 3, 4])], clr := [(1, [9]), (4, [14]), (6, [19]), (9, [28]), (12, [36]), (13, [42])], mask := [(7, [0, 3, 21, 22, 23], [7])] } Tryz.func60
def d61 : DFn := ⟨[(.c .one), (.g [.one, .one, .one, (.sl [.one])])], [(.c .one)], .rw, [.tmp 4],
(s [o 3 (.box (t 1)), mK 4 (.bo false)]
(.seq (.reg false [
mV 8 0, fA 9 1 3, lD 10 1 9, cR 11 25 [t 8, t 10], mV 5 11] [9])
(.seq (.seq (.reg false [
mV 12 5, o 13 (.bin .ptr .eql (t 12) (.k .np))] [])
(.cond (t 13)
(s [mK 4 (.bo false)]
.ret)
.skip))
(.seq (.seq (.reg false [
fA 14 0 3, lD 15 1 14] [14])
(.blk 0 (.seq (.reg false [
o 17 (b .eql (t 15) (k 5)), mV 16 17] [])
(.cond (t 16)
(.seq (.reg true [
mV 18 5, nK 19 18, fA 20 0 19, lD 21 1 20, fA 22 3 3, lD 23 1 22, mK 26 (.it .i64 0), cR 24 30 [t 21, t 23], lN 25 false 24] [22])
(.blk 1 (.loop [0, 3, 24, 25, 26] [7]
(s [o 27 (b .lss (t 26) (t 25))]
(.seq (.cond (t 27)
.skip
(.exit 1))
(.seq (.blk 2 (s [o 28 (.ias 6 (t 24) (t 26)), lQ 29 6 28, o 7 (.alc [(.it .i64 0), (.it .i64 0), .ns, (.st []), (.bo false), (.it .i64 0)]), sO 6 7 29]
(.reg false [
mV 30 0, fA 31 1 3, lD 32 1 31, lQ 33 6 7, cR 34 96 [t 30, t 32, t 33]] [31])))
(.reg false [
o 35 (b .add (t 26) (k 1)), mV 26 35] [])))))))
(s [o 37 (b .eql (t 15) (k 6)), mV 36 37]
(.cond (t 36)
(.seq (.reg false [
mV 38 0, fA 39 1 3, lD 40 1 39, cR 41 64 [t 38, t 40, (.k (.it .i64 (-1)))]] [39])
(.reg true [
mV 42 0, fA 43 1 3, lD 44 1 43, nK 45 42, fA 46 15 45, o 47 (.iaa 8 1 (t 46) (t 44)), n (.sto 1 (t 47) (.k .np))] [43]))
.skip))))))
(.seq (.reg false [
mK 4 (.bo true)] [])
.ret)))))⟩
def c61 : Ev.Fn := d61.den
theorem r61 : OK 61 c61 := rd d61 { P0 .rw with loc := [3, 7], ord := [(0, [1, 0]), (6, [0, 1, 2, 3, 4, 5, 8, 6, 7])], clr := [(1, [9]), (4, [14]), (6, [22]), (9, [31]), (12, [39]), (13, [43])], mask := [(7, [0, 3, 24, 25, 26], [7])] } Tryz.func61
def d62 : DFn := ⟨[(.c .one)], [(.c .one)], .rw, [.tmp 2],
(s [mK 2 (.bo false)]
(s [mV 3 0, nK 4 3, fA 5 24 4, lD 6 1 5, mV 2 6]
.ret))⟩
def c62 : Ev.Fn := d62.den
theorem r62 : OK 62 c62 := rd d62 (P0 .rw) Tryz.func62
def d63 : DFn := ⟨[(.c .one), (.c .one)], [], .rw, [],
(s [o 2 (.bxh (t 0)), o 3 (.bxh (t 1))]
(r [lD 4 1 2, o 5 (.mkf 97 [] [t 3, t 2]), cR 6 65 [t 4, t 5]]))⟩
def c63 : Ev.Fn := d63.den
theorem r63 : OK 63 c63 := rd d63 { P0 .rw with fns := [97] } Tryz.func63
def d64 : DFn := ⟨[(.c .one), (.c .one), (.c .one)], [], .rw, [],
(s [o 3 (.bxh (t 0)), o 4 (.bxh (t 1)), o 5 (.bxh (t 2))]
(r [lD 6 1 3, o 7 (.mkf 99 [] [t 4, t 5, t 3]), cR 8 65 [t 6, t 7]]))⟩
def c64 : Ev.Fn := d64.den
theorem r64 : OK 64 c64 := rd d64 { P0 .rw with fns := [99] } Tryz.func64
def d65 : DFn := ⟨[(.c .one), (.c .one)], [], .rw, [],
(s [mV 6 0, nK 7 6, fA 8 25 7, lD 9 1 8, cR 10 101 [t 9], lN 11 false 10, mK 12 (.it .i64 0)]
(.blk 0 (.loop [1, 10, 11, 12] []
(s [o 13 (b .lss (t 12) (t 11))]
(.seq (.cond (t 13)
.skip
(.exit 0))
(.seq (.blk 1 (s [o 14 (.ias 1 (t 10) (t 12)), lD 15 1 14, mV 5 15]
(s [mV 16 5, nK 17 16, fA 18 46 17, lD 19 1 18, o 20 (.un .not (t 19))]
(.cond (t 20)
(r [mV 21 1, mV 22 5, o 23 (.calv [] (t 21) [t 22])])
.skip))))
(r [o 24 (b .add (t 12) (k 1)), mV 12 24])))))))⟩
def c65 : Ev.Fn := d65.den
theorem r65 : OK 65 c65 := rd d65 { P0 .rw with ord := [(0, [0, 1, 2, 3, 6, 4, 5])], mask := [(1, [1, 10, 11, 12], [])] } Tryz.func65
def d66 : DFn := ⟨[(.c .one), (.c .one)], [], .rw, [],
(s [mV 3 0, nK 4 3, fA 5 11 4, lD 6 1 5]
(.cond (t 6)
(r [lD 7 1 1, mV 8 0, cR 9 67 [t 7, t 8]])
.skip))⟩
def c66 : Ev.Fn := d66.den
theorem r66 : OK 66 c66 := rd d66 (P0 .rw) Tryz.func66
def d67 : DFn := ⟨[(.c .one), (.c .one)], [], .rw, [],
(s [mV 11 1, nK 12 11, fA 13 14 12, lQ 14 6 13, o 4 (.alc [(.st []), (.st []), (.st []), (.st []), .ns, (.it .i64 0)]), sO 6 4 14]
(.seq (.reg false [
mV 15 0, fA 16 2 4, lD 17 1 16, o 18 (.call true .rw 102 [t 15, t 17]), mV 5 18] [16])
(.seq (.seq (.reg false [
mV 19 5, o 20 (b .lss (t 19) (k 0))] [])
(.cond (t 20)
(s [mV 21 0, mV 22 1, cR 23 103 [t 21, t 22, (k 503)]]
.ret)
.skip))
(.seq (.reg false [
fA 24 0 4, lD 25 1 24, o 26 (.bld [(.st []), (.st [])] [(0, 1, (.k (.st [58, 109, 101, 116, 104, 111, 100]))), (1, 1, (t 25))]), fA 27 1 4, lD 28 1 27, o 29 (.bld [(.st []), (.st [])] [(0, 1, (.k (.st [58, 115, 99, 104, 101, 109, 101]))), (1, 1, (t 28))]), fA 30 2 4, lD 31 1 30, o 32 (.bld [(.st []), (.st [])] [(0, 1, (.k (.st [58, 97, 117, 116, 104, 111, 114, 105, 116, 121]))), (1, 1, (t 31))]), fA 33 3 4, lD 34 1 33, o 35 (.bld [(.st []), (.st [])] [(0, 1, (.k (.st [58, 112, 97, 116, 104]))), (1, 1, (t 34))]), o 36 (.bsl 2 (List.replicate 4 [(.st []), (.st [])]) [(0, (t 26)), (1, (t 29)), (2, (t 32)), (3, (t 35))]), mV 6 36] [24, 27, 30, 33])
(.seq (.reg false [
mV 37 6, fA 38 4 4, lD 39 1 38, cP 40 104 [t 39], o 41 (.app 2 32 (t 37) (t 40)), cP 42 105 [], o 43 (.bsv [.one, .one] 2 [[(.st []), (.st [])]] [(0, (t 42))]), o 44 (.app 2 32 (t 41) (t 43)), mV 6 44] [38])
(.seq (.reg false [
mV 45 0, mV 46 5, nK 47 45, fA 48 15 47, o 49 (.iaa 8 1 (t 48) (t 46)), lD 50 1 49, mV 7 50] [])
(.seq (s [mV 51 7, nK 52 51, fA 53 0 52, lD 54 1 53, cR 55 62 [t 54], mV 56 55, x 57 56 (.mov (t 7)), x 58 56 (.nck (t 57)), x 59 56 (.fad 2 (t 58)), x 60 56 (.ld 1 false (t 59)), o 61 (.pick (t 56) (.k (.bo true)) (t 60)), mV 62 61, x 63 62 (.mov (t 6)), x 64 62 (.call false .pure 106 [t 63]), x 65 62 (.un .not (t 64)), o 66 (.pick (t 62) (.k (.bo true)) (t 65))]
(.cond (t 66)
(s [mV 67 0, mV 68 1, cR 69 103 [t 67, t 68, (k 502)]]
.ret)
.skip))
(s [mV 70 1, nK 71 70, fA 72 10 71, lD 73 1 72, mV 74 73, w 75 74 (.mov (t 1)), w 76 74 (.nck (t 75)), w 77 74 (.fad 8 (t 76)), w 78 74 (.ld 1 false (t 77)), w 79 74 (b .eql (t 78) (.k (.st []))), o 80 (.pick (t 74) (t 79) (.k (.bo false))), mV 8 80]
(.seq (.reg true [
mV 82 7, nK 83 82, fA 84 0 83, lD 85 1 84, mV 86 6, mV 88 8, cP 87 107 [t 86], o 89 (.call true .rw 28 [t 85, t 87, t 88]), mV 81 89, eX 90 81 0, eX 91 81 1, mV 9 90, mV 10 91] [])
(s [mV 92 10]
(.cond (t 92)
(r [mV 93 1, mV 94 1, mV 95 1, mV 96 1, mV 97 1, mV 98 1, mV 99 5, mV 100 9, mV 101 8, mV 102 0, nK 103 102, fA 104 24 103, lD 105 1 104, nK 106 93, fA 107 11 106, n (.sto 1 (t 107) (.k (.bo false))), nK 108 94, fA 109 20 108, n (.sto 1 (t 109) (.k (.bo true))), nK 110 95, fA 111 21 110, sO 1 111 99, nK 112 96, fA 113 22 112, sO 1 113 100, nK 114 97, fA 115 23 114, sO 1 115 101, nK 116 98, fA 117 24 116, sO 1 117 105])
.skip)))))))))))⟩
def c67 : Ev.Fn := d67.den
theorem r67 : OK 67 c67 := rd d67 { P0 .rw with loc := [4], heap := [18, 36, 41, 44, 89], own := [18, 36, 41, 44, 89], ord := [(10, [0, 1, 2, 3, 4, 6, 5, 7, 8, 9, 10, 11, 12])], clr := [(1, [16]), (4, [24, 27, 30, 33]), (5, [38])] } Tryz.func67
def d68 : DFn := ⟨[(.c .one), (.c .one)], [], .rw, [],
(s [mV 3 0, nK 4 3, fA 5 20 4, lD 6 1 5]
(.cond (t 6)
(r [lD 7 1 1, mV 8 0, cR 9 69 [t 7, t 8]])
.skip))⟩
def c68 : Ev.Fn := d68.den
theorem r68 : OK 68 c68 := rd d68 (P0 .rw) Tryz.func68
def d69 : DFn := ⟨[(.c .one), (.c .one)], [], .rw, [],
(.seq (s [mV 6 1, nK 7 6, fA 8 23 7, lD 9 1 8, mV 10 9, x 11 10 (.mov (t 1)), x 12 10 (.nck (t 11)), x 13 10 (.fad 8 (t 12)), x 14 10 (.ld 1 false (t 13)), x 15 10 (b .eql (t 14) (.k (.st []))), x 16 10 (.mov (t 15)), w 17 16 (.mov (t 1)), w 18 16 (.nck (t 17)), w 19 16 (.fad 10 (t 18)), w 20 16 (.ld 1 false (t 19)), w 21 16 (.un .not (t 20)), x 22 10 (.pick (t 16) (t 21) (.k (.bo false))), o 23 (.pick (t 10) (.k (.bo true)) (t 22))]
(.cond (t 23)
.ret
.skip))
(.seq (.reg true [
mV 25 0, mV 26 1, nK 27 26, fA 28 21 27, lD 29 1 28, nK 30 25, fA 31 15 30, o 32 (.iaa 8 1 (t 31) (t 29)), lD 33 1 32, nK 34 33, fA 35 0 34, lD 36 1 35, mV 37 1, nK 38 37, fA 39 22 38, lD 40 1 39, mV 41 1, nK 42 41, fA 43 8 42, lD 44 1 43, mV 45 1, nK 46 45, fA 47 10 46, lD 48 1 47, cR 49 32 [t 36, t 40, t 44, t 48], mV 24 49, eX 50 24 0, eX 51 24 1, mV 4 50, mV 5 51] [])
(.seq (s [mV 52 5, o 53 (.un .not (t 52))]
(.cond (t 53)
.ret
.skip))
(s [mV 54 1, mV 55 1, nK 56 55, fA 57 8 56, lD 58 1 57, mV 59 4, o 60 (.slc true 0 (t 58) (some (t 59)) none), nK 61 54, fA 62 8 61, sO 1 62 60]
(s [mV 63 1, mV 64 1, nK 65 64, fA 66 10 65, lD 67 1 66, mV 68 67, w 69 68 (.mov (t 1)), w 70 68 (.nck (t 69)), w 71 68 (.fad 8 (t 70)), w 72 68 (.ld 1 false (t 71)), w 73 68 (b .eql (t 72) (.k (.st []))), o 74 (.pick (t 68) (t 73) (.k (.bo false))), nK 75 63, fA 76 23 75, sO 1 76 74]
(r [mV 77 0, mV 78 1, mV 79 4, cR 80 108 [t 77, t 78, t 79]]))))))⟩
def c69 : Ev.Fn := d69.den
theorem r69 : OK 69 c69 := rd d69 (P0 .rw) Tryz.func69
def d70 : DFn := ⟨[(.c .one), (.c .one)], [], .rw, [],
(s [mV 3 0, nK 4 3, fA 5 0 4, lD 6 1 5, o 7 (b .geq (t 6) (k 0))]
(.cond (t 7)
(r [lD 8 1 1, mV 9 0, cR 10 71 [t 8, t 9]])
.skip))⟩
def c70 : Ev.Fn := d70.den
theorem r70 : OK 70 c70 := rd d70 (P0 .rw) Tryz.func70
def d71 : DFn := ⟨[(.c .one), (.c .one)], [], .rw, [],
(.seq (.reg true [
mV 8 0, mV 9 1, nK 10 9, fA 11 0 10, lD 12 1 11, nK 13 8, fA 14 7 13, o 15 (.iaa 8 1 (t 14) (t 12)), lD 16 1 15, mV 4 16] [])
(.seq (s [mV 17 1, nK 18 17, fA 19 25 18, lD 20 1 19, o 21 (.hnd (.eqs .eql) [t 20, (.k .ns)])]
(.cond (t 21)
.ret
.skip))
(s [mK 5 (.bo false)]
(.seq (s [mV 22 1, nK 23 22, fA 24 26 23, lD 25 1 24, o 26 (.un .not (t 25))]
(.cond (t 26)
(.seq (s [mV 27 1, nK 28 27, fA 29 25 28, lD 30 1 29, cP 31 106 [t 30], o 32 (.un .not (t 31))]
(.cond (t 32)
(s [mV 33 4, mV 34 1, nK 35 34, fA 36 1 35, lD 37 1 36, cR 38 45 [t 33, t 37, (k 2)]]
(s [mV 39 0, mV 40 1, cR 41 98 [t 39, t 40]]
.ret))
.skip))
(s [mV 42 1, nK 43 42, fA 44 29 43, lD 45 1 44, mV 46 45, w 47 46 (.mov (t 1)), w 48 46 (.nck (t 47)), w 49 46 (.fad 27 (t 48)), w 50 46 (.ld 1 false (t 49)), w 51 46 (b .eql (t 50) (.k (.st []))), o 52 (.pick (t 46) (t 51) (.k (.bo false))), mV 5 52]
(.seq (.seq (.reg true [
mV 53 4, mV 54 1, nK 55 54, fA 56 1 55, lD 57 1 56, mV 58 1, nK 59 58, fA 60 25 59, lD 61 1 60, mV 63 5, cP 62 107 [t 61], cR 64 31 [t 53, t 57, t 62, t 63], o 65 (.un .not (t 64))] [])
(.cond (t 65)
.ret
.skip))
(r [mV 66 1, nK 67 66, fA 68 26 67, n (.sto 1 (t 68) (.k (.bo true)))]))))
.skip))
(.seq (s [mV 69 5, o 70 (.un .not (t 69)), mV 71 70, w 72 71 (.mov (t 1)), w 73 71 (.nck (t 72)), w 74 71 (.fad 27 (t 73)), w 75 71 (.ld 1 false (t 74)), w 76 71 (b .neq (t 75) (.k (.st []))), w 77 71 (.mov (t 76)), x 78 77 (.mov (t 1)), x 79 77 (.nck (t 78)), x 80 77 (.fad 29 (t 79)), x 81 77 (.ld 1 false (t 80)), w 82 71 (.pick (t 77) (.k (.bo true)) (t 81)), o 83 (.pick (t 71) (t 82) (.k (.bo false)))]
(.cond (t 83)
(.seq (.reg true [
mV 85 4, mV 86 1, nK 87 86, fA 88 1 87, lD 89 1 88, mV 90 1, nK 91 90, fA 92 27 91, lD 93 1 92, mV 94 1, nK 95 94, fA 96 29 95, lD 97 1 96, cR 98 32 [t 85, t 89, t 93, t 97], mV 84 98, eX 99 84 0, eX 100 84 1, mV 6 99, mV 7 100] [])
(.seq (s [mV 101 7, o 102 (.un .not (t 101))]
(.cond (t 102)
.ret
.skip))
(s [mV 103 1, mV 104 1, nK 105 104, fA 106 27 105, lD 107 1 106, mV 108 6, o 109 (.slc true 0 (t 107) (some (t 108)) none), nK 110 103, fA 111 27 110, sO 1 111 109]
(s [mV 112 0, mV 113 1, mV 114 6, cR 115 109 [t 112, t 113, t 114]]
(r [mV 116 1, nK 117 116, fA 118 29 117, lD 119 1 118, mV 120 119, w 121 120 (.mov (t 1)), w 122 120 (.nck (t 121)), w 123 120 (.fad 27 (t 122)), w 124 120 (.ld 1 false (t 123)), w 125 120 (b .eql (t 124) (.k (.st []))), o 126 (.pick (t 120) (t 125) (.k (.bo false))), mV 5 126])))))
.skip))
(s [mV 127 5]
(.cond (t 127)
(r [mV 128 0, mV 129 1, cR 130 110 [t 128, t 129]])
.skip)))))))⟩
def c71 : Ev.Fn := d71.den
theorem r71 : OK 71 c71 := rd d71 { P0 .rw with ord := [(8, [0, 1, 2, 3, 4, 5, 6, 7, 8, 10, 9, 11, 12])], hnd := [21] } Tryz.func71
def d72 : DFn := ⟨[(.c (.sl [.one, .one, .one]))], [(.c .one)], .pure, [.tmp 2],
(s [mK 2 (.bo false)]
(s [mK 3 (.it .i64 0)]
(.seq (s [mV 6 0, lN 7 false 6, mK 8 (.it .i64 0)]
(.blk 0 (.loop [3, 6, 7, 8] [5]
(s [o 9 (b .lss (t 8) (t 7))]
(.seq (.cond (t 9)
.skip
(.exit 0))
(.seq (.blk 1 (s [o 10 (.ias 3 (t 6) (t 8)), lQ 11 3 10, o 5 (.alc [(.st []), (.st []), (.it .i64 0)]), sO 3 5 11]
(.seq (.reg false [
mV 12 3, fA 13 0 5, lQ 14 2 13, cP 15 111 [t 14], o 16 (b .add (t 12) (t 15)), mV 3 16] [13])
(.seq (.reg false [
fA 17 0 5, fA 18 0 17, lD 19 1 18, lN 20 true 19, o 21 (b .gtr (t 20) (k 65536)), mV 22 21, x 23 22 (.fad 0 (t 5)), x 24 22 (.fad 1 (t 23)), x 25 22 (.ld 1 false (t 24)), x 26 22 (.len true (t 25)), x 27 22 (b .gtr (t 26) (k 65536)), o 28 (.pick (t 22) (.k (.bo true)) (t 27)), mV 29 28, x 30 29 (.mov (t 3)), x 31 29 (b .gtr (t 30) (k 65536)), o 32 (.pick (t 29) (.k (.bo true)) (t 31))] [17, 18, 23, 24])
(.cond (t 32)
(.seq (.reg false [
mK 2 (.bo false)] [])
.ret)
.skip)))))
(r [o 33 (b .add (t 8) (k 1)), mV 8 33])))))))
(s [mK 2 (.bo true)]
.ret))))⟩
def c72 : Ev.Fn := d72.den
theorem r72 : OK 72 c72 := rd d72 { P0 .pure with loc := [5], clr := [(5, [13]), (6, [17, 18, 23, 24])], mask := [(3, [3, 6, 7, 8], [5])] } Tryz.func72
def d73 : DFn := ⟨[(.c .one), (.c .one)], [(.c .one)], .rw, [.tmp 4],
(s [mK 4 .np]
(s [mV 6 1, o 7 (.bld [(.it .i64 0), (.it .i64 0), (.it .i64 0), (.it .i64 0), (.bo false), (.bo false)] [(0, 1, (t 6)), (1, 1, (k 0))]), o 8 (.bxh (t 7)), mV 5 8]
(s [mV 10 5, mV 11 0, nK 12 11, fA 13 4 12, fA 14 2 13, lD 15 1 14, o 16 (.call true .pure 56 [t 15]), mV 9 16, eX 17 9 0, eX 18 9 1, nK 19 10, fA 20 2 19, sO 1 20 17]
(s [mV 22 5, mV 23 0, nK 24 23, fA 25 1 24, fA 26 1 25, lD 27 1 26, o 28 (.call true .pure 56 [t 27]), mV 21 28, eX 29 21 0, eX 30 21 1, nK 31 22, fA 32 3 31, sO 1 32 29]
(s [mV 33 0, mV 34 0, nK 35 34, fA 36 15 35, lD 37 1 36, mV 38 5, o 39 (.bsl 1 [[.np]] [(0, (t 38))]), o 40 (.app 1 8 (t 37) (t 39)), nK 41 33, fA 42 15 41, sO 1 42 40]
(s [mV 43 5, mV 4 43]
.ret))))))⟩
def c73 : Ev.Fn := d73.den
theorem r73 : OK 73 c73 := rd d73 { P0 .rw with heap := [16, 28, 40, 39], own := [16, 28, 40] } Tryz.func73
def d74 : DFn := ⟨[(.c .one), (.c .one), (.c (.sl [.one, .one, .one])), (.c .one)], [], .rw, [],
(s [mV 11 0, nK 12 11, fA 13 11 12, lD 14 1 13, mV 15 2, cR 16 112 [t 14, t 15], mV 8 16]
(s [mV 17 1, nK 18 17, fA 19 0 18, lD 20 1 19, o 21 (.bld [(.it .i64 0), (.it .i64 0), (.it .i64 0), .ns] [(0, 1, (k 1)), (2, 1, (t 20))]), o 9 (.alc [(.it .i64 0), (.it .i64 0), (.it .i64 0), .ns]), sO 4 9 21]
(.seq (s [mV 22 3]
(.cond (t 22)
(.reg false [
fA 23 1 9, n (.sto 1 (t 23) (k 1))] [23])
.skip))
(.seq (.blk 0 (.loop [0, 1, 3, 8, 9] []
(.blk 1 (s [mV 24 8, lN 25 false 24, mV 26 0, nK 27 26, fA 28 4 27, fA 29 3 28, lD 30 1 29, o 31 (.mnx false (t 25) (t 30)), mV 10 31]
(.seq (.reg true [
mV 32 8, mV 33 10, o 34 (.slc false 1 (t 32) none (some (t 33))), mV 35 8, mV 36 10, o 37 (.slc false 1 (t 35) (some (t 36)) none), fA 38 3 9, ⟨none, none, [35], .sto 1 (t 38) (t 34)⟩, mV 8 37] [38])
(.seq (s [mV 39 8, lN 40 false 39, o 41 (b .eql (t 40) (k 0))]
(.cond (t 41)
(.reg false [
fA 42 1 9, lD 43 1 42, o 44 (b .or (t 43) (k 4)), fA 45 1 9, sO 1 45 44] [42, 45])
.skip))
(.seq (.reg true [
mV 46 0, mV 47 0, nK 48 47, fA 49 12 48, lD 50 1 49, lQ 51 4 9, o 52 (.call true .pure 57 [t 50, t 51]), nK 53 46, fA 54 12 53, sO 1 54 52] [])
(.seq (s [mV 55 8, lN 56 false 55, o 57 (b .eql (t 56) (k 0))]
(.cond (t 57)
(.exit 0)
.skip))
(r [mV 58 1, nK 59 58, fA 60 0 59, lD 61 1 60, o 62 (.bld [(.it .i64 0), (.it .i64 0), (.it .i64 0), .ns] [(0, 1, (k 9)), (2, 1, (t 61))]), sO 4 9 62])))))))))
(s [mV 63 1, nK 64 63, fA 65 5 64, n (.sto 1 (t 65) (.k (.bo true)))]
(r [mV 66 0, mV 67 1, mV 68 3, cP 69 113 [t 68], o 70 (b .add (k 10) (t 69)), cR 71 82 [t 66, t 67, t 70]]))))))⟩
def c74 : Ev.Fn := d74.den
theorem r74 : OK 74 c74 := rd d74 { P0 .rw with loc := [9], heap := [52], own := [52], clr := [(3, [23]), (5, [38]), (7, [42, 45])], mask := [(4, [0, 1, 3, 8, 9], [])] } Tryz.func74
def d75 : DFn := ⟨[(.c .one), (.c (.sl [.one]))], [(.c (.sl [.one, .one, .one, (.sl [.one])])), (.g [.one, .one, .one])], .rw, [.tmp 4, .cell 5 3 true],
(s [mK 4 .ns, o 5 (.alc [(.it .i64 0), (.it .i64 0), (.it .i64 0)])]
(.seq (s [mV 9 0, nK 10 9, fA 11 3 10, lQ 12 3 11, o 13 (.bld [(.it .i64 0), (.it .i64 0), (.it .i64 0)] []), o 14 (.bin (.ag [0, 0, 0]) .neq (t 12) (t 13))]
(.cond (t 14)
(.seq (.reg true [
mV 15 0, nK 16 15, fA 17 3 16, lQ 18 3 17, mK 4 .ns, sO 3 5 18] [])
.ret)
.skip))
(s [mV 19 0, mV 20 1, cR 21 114 [t 19, t 20], mV 1 21]
(s [mV 22 0, mV 23 0, nK 24 23, fA 25 2 24, lD 26 1 25, o 27 (.app 1 1 (.k .ns) (t 26)), mV 28 1, o 29 (.app 1 1 (t 27) (t 28)), nK 30 22, fA 31 2 30, sO 1 31 29]
(s [mK 6 .ns]
(.seq (.blk 0 (.loop [0, 5, 6] [7]
(.seq (s [mV 32 0, nK 33 32, fA 34 3 33, lQ 35 3 34, o 36 (.bld [(.it .i64 0), (.it .i64 0), (.it .i64 0)] []), o 37 (.bin (.ag [0, 0, 0]) .eql (t 35) (t 36))]
(.cond (t 37)
.skip
(.exit 0)))
(.blk 1 (s [mV 39 0, cR 40 115 [t 39], mV 38 40, eX 41 38 0, eX 42 38 1, o 7 (.alc [(.it .i64 0), (.it .i64 0), (.it .i64 0), .ns]), sO 4 7 41, mV 8 42]
(.seq (s [mV 43 8, o 44 (.un .not (t 43))]
(.cond (t 44)
(.exit 0)
.skip))
(r [mV 45 6, lQ 46 4 7, o 47 (.bsl 4 [[(.it .i64 0), (.it .i64 0), (.it .i64 0), .ns]] [(0, (t 46))]), o 48 (.app 4 48 (t 45) (t 47)), mV 6 48])))))))
(.seq (.reg true [
mV 49 6, mV 50 0, nK 51 50, fA 52 3 51, lQ 53 3 52, mV 4 49, sO 3 5 53] [])
.ret)))))))⟩
def c75 : Ev.Fn := d75.den
theorem r75 : OK 75 c75 := rd d75 { P0 .rw with loc := [5, 7], heap := [27, 29, 48, 47], own := [27, 29, 48], ord := [(4, [0, 1, 2, 3, 4, 6, 5, 7, 8, 9, 10]), (7, [0, 5, 1, 2, 3, 4, 6, 7])], mask := [(6, [0, 5, 6], [7])] } Tryz.func75
def d76 : DFn := ⟨[(.c .one), (.g [.one, .one, .one, (.sl [.one])])], [], .rw, [],
(s [o 3 (.box (t 1))]
(.seq (.seq (.reg false [
mV 7 0, nK 8 7, fA 9 22 8, lD 10 1 9, o 11 (.un .not (t 10)), mV 12 11, w 13 12 (.fad 0 (t 3)), w 14 12 (.ld 1 false (t 13)), w 15 12 (b .neq (t 14) (k 4)), w 16 12 (.mov (t 15)), x 17 16 (.fad 1 (t 3)), x 18 16 (.ld 1 false (t 17)), x 19 16 (b .and (t 18) (k 1)), x 20 16 (b .neq (t 19) (k 0)), w 21 12 (.pick (t 16) (.k (.bo true)) (t 20)), o 22 (.pick (t 12) (t 21) (.k (.bo false)))] [13, 17])
(.cond (t 22)
(.seq (.reg false [
mV 23 0, cR 24 77 [t 23, (k 1)]] [])
.ret)
.skip))
(s [mV 25 0, nK 26 25, fA 27 22 26, n (.sto 1 (t 27) (.k (.bo true)))]
(s [mV 28 0, nK 29 28, fA 30 19 29, fA 31 0 30, lD 32 1 31, mV 4 32]
(.seq (.seq (.reg false [
mV 33 4, o 34 (b .neq (t 33) (k 0)), fA 35 0 3, lD 36 1 35, o 37 (b .eql (t 36) (k 9)), o 38 (.bin .bo .neq (t 34) (t 37)), mV 39 38, x 40 39 (.mov (t 4)), x 41 39 (b .neq (t 40) (k 0)), x 42 39 (.mov (t 41)), w 43 42 (.fad 2 (t 3)), w 44 42 (.ld 1 false (t 43)), w 45 42 (.mov (t 4)), w 46 42 (b .neq (t 44) (t 45)), x 47 39 (.pick (t 42) (t 46) (.k (.bo false))), o 48 (.pick (t 39) (.k (.bo true)) (t 47))] [35, 43])
(.cond (t 48)
(.seq (.reg false [
mV 49 0, cR 50 77 [t 49, (k 1)]] [])
.ret)
.skip))
(s [lQ 52 4 3, cP 53 116 [t 52], mV 51 53, eX 54 51 0, eX 55 51 1, o 5 (.alc [(.it .i64 0), (.it .i64 0), (.bo false), (.bo false), (.bo false), .ns, (.it .i64 0), (.it .i64 0), (.it .i64 0), (.it .i64 0), .ns]), o 6 (.alc [(.it .i64 0), (.it .i64 0), (.it .i64 0)]), sO 11 5 54, sO 3 6 55]
(.seq (.reg false [
fA 56 0 6, lD 57 1 56] [56])
(.blk 0 (.seq (.reg false [
o 62 (b .eql (t 57) (k 2)), mV 61 62] [])
(.cond (t 61)
(.reg false [
mV 63 0, fA 64 1 6, lD 65 1 64, cR 66 77 [t 63, t 65]] [64])
(s [o 68 (b .eql (t 57) (k 1)), mV 67 68]
(.cond (t 67)
(.reg false [
mV 69 0, lQ 70 4 3, lQ 71 3 6, cR 72 117 [t 69, t 70, t 71]] [])
(r [mV 58 0, lQ 59 11 5, cR 60 118 [t 58, t 59]])))))))))))))⟩
def c76 : Ev.Fn := d76.den
theorem r76 : OK 76 c76 := rd d76 { P0 .rw with loc := [3, 5, 6], ord := [(7, [0, 5, 6, 1, 2, 3, 4, 7, 8])], clr := [(1, [13, 17]), (5, [35, 43]), (8, [56]), (11, [64])] } Tryz.func76
def d78 : DFn := ⟨[(.c .one), (.c .one)], [(.c .one)], .rw, [.tmp 4],
(s [mK 4 .np]
(.seq (s [mV 7 0, nK 8 7, fA 9 15 8, lD 10 1 9, lN 11 false 10, mK 12 (.it .i64 0)]
(.blk 0 (.loop [1, 10, 11, 12] []
(s [o 13 (b .lss (t 12) (t 11))]
(.seq (.cond (t 13)
.skip
(.exit 0))
(.seq (.blk 1 (s [o 14 (.ias 1 (t 10) (t 12)), lD 15 1 14, mV 6 15]
(s [mV 16 6, nK 17 16, fA 18 0 17, lD 19 1 18, mV 20 1, o 21 (b .eql (t 19) (t 20))]
(.cond (t 21)
(s [mV 22 6, mV 4 22]
.ret)
.skip))))
(r [o 23 (b .add (t 12) (k 1)), mV 12 23])))))))
(s [mK 4 .np]
.ret)))⟩
def c78 : Ev.Fn := d78.den
theorem r78 : OK 78 c78 := rd d78 { P0 .rw with mask := [(2, [1, 10, 11, 12], [])] } Tryz.func78
def d79 : DFn := ⟨[(.c .one)], [(.c .one)], .rw, [.tmp 2],
(s [mK 2 (.bo false)]
(s [mV 3 0, nK 4 3, fA 5 1 4, lD 6 1 5, o 7 (b .eql (t 6) (k 1)), mV 8 7, x 9 8 (.mov (t 0)), x 10 8 (.nck (t 9)), x 11 8 (.fad 1 (t 10)), x 12 8 (.ld 1 false (t 11)), x 13 8 (b .eql (t 12) (k 3)), o 14 (.pick (t 8) (.k (.bo true)) (t 13)), mV 2 14]
.ret))⟩
def c79 : Ev.Fn := d79.den
theorem r79 : OK 79 c79 := rd d79 (P0 .rw) Tryz.func79
def d80 : DFn := ⟨[(.c .one), (.c (.sl [.one]))], [(.c .one)], .pure, [.tmp 4],
(s [mK 4 (.it .i64 0)]
(.seq (s [mV 7 1, lN 8 false 7, mK 9 (.it .i64 0)]
(.blk 0 (.loop [0, 7, 8, 9] [6]
(s [o 10 (b .lss (t 9) (t 8))]
(.seq (.cond (t 10)
.skip
(.exit 0))
(.seq (.blk 1 (s [o 11 (.ias 1 (t 7) (t 9)), lQ 12 1 11, o 6 (.alc [(.it .i64 0)]), sO 1 6 12]
(.reg false [
mV 13 0, fA 14 0 6, lD 15 1 14, o 16 (.mnx false (t 13) (t 15)), mV 0 16] [14])))
(.reg false [
o 17 (b .add (t 9) (k 1)), mV 9 17] [])))))))
(s [mV 18 0, o 19 (.mnx true (t 18) (k 0)), mV 4 19]
.ret)))⟩
def c80 : Ev.Fn := d80.den
theorem r80 : OK 80 c80 := rd d80 { P0 .pure with loc := [6], clr := [(4, [14])], mask := [(2, [0, 7, 8, 9], [6])] } Tryz.func80
def d81 : DFn := ⟨[(.g [.one]), (.c .one)], [(.g [.one]), (.c .one)], .pure, [.cell 4 1 true, .tmp 5],
(s [o 2 (.box (t 0)), o 4 (.alc [(.it .i64 0)]), mK 5 (.bo false)]
(.seq (.seq (.reg false [
mV 6 1, o 7 (b .lss (t 6) (k 0)), mV 8 7, x 9 8 (.mov (t 1)), x 10 8 (.fad 0 (t 2)), x 11 8 (.ld 1 false (t 10)), x 12 8 (b .gtr (t 9) (t 11)), o 13 (.pick (t 8) (.k (.bo true)) (t 12))] [10])
(.cond (t 13)
(.seq (.reg false [
lQ 14 1 2, sO 1 4 14, mK 5 (.bo false)] [])
.ret)
.skip))
(.seq (.reg false [
fA 15 0 2, lD 16 1 15, mV 17 1, o 18 (b .sub (t 16) (t 17)), o 19 (.bld [(.it .i64 0)] [(0, 1, (t 18))]), sO 1 4 19, mK 5 (.bo true)] [15])
.ret)))⟩
def c81 : Ev.Fn := d81.den
theorem r81 : OK 81 c81 := rd d81 { P0 .pure with loc := [2, 4], ord := [(0, [2, 0, 1])], clr := [(1, [10]), (3, [15])] } Tryz.func81
def d82 : DFn := ⟨[(.c .one), (.c .one), (.c .one)], [], .rw, [],
(.seq (.reg false [
mV 7 1, mV 8 1, nK 9 8, fA 10 1 9, lD 11 1 10, mV 12 2, o 13 (.call true .pure 121 [t 11, t 12]), mV 6 13, eX 14 6 0, eX 15 6 1, nK 16 7, fA 17 1 16, sO 1 17 14] [])
(s [mV 18 1, nK 19 18, fA 20 1 19, lD 21 1 20, o 22 (b .eql (t 21) (k 4))]
(.cond (t 22)
(r [mV 23 0, mV 24 1, nK 25 24, fA 26 0 25, lD 27 1 26, cR 28 122 [t 23, t 27]])
.skip)))⟩
def c82 : Ev.Fn := d82.den
theorem r82 : OK 82 c82 := rd d82 { P0 .rw with heap := [13], own := [13] } Tryz.func82
def d83 : DFn := ⟨[(.c .one)], [(.c .one)], .ro, [.tmp 2],
(s [mK 2 (.it .i64 0)]
(s [mV 3 0, nK 4 3, fA 5 0 4, lD 6 1 5, lN 7 false 6, mV 2 7]
.ret))⟩
def c83 : Ev.Fn := d83.den
theorem r83 : OK 83 c83 := rd d83 (P0 .ro) Tryz.func83
def d84 : DFn := ⟨[(.c .one)], [(.c .one)], .ro, [.tmp 2],
(s [mK 2 (.it .i64 0)]
(s [mV 3 0, nK 4 3, fA 5 1 4, lD 6 1 5, mV 2 6]
.ret))⟩
def c84 : Ev.Fn := d84.den
theorem r84 : OK 84 c84 := rd d84 (P0 .ro) Tryz.func84
def d91 : DFn := ⟨[(.c .one)], [(.c .one)], .pure, [.tmp 2],
(s [mK 2 (.bo false)]
(s [mV 3 0, o 4 (b .geq (t 3) (k 16384)), mV 5 4, w 6 5 (.mov (t 0)), w 7 5 (b .leq (t 6) (k 16777215)), o 8 (.pick (t 5) (t 7) (.k (.bo false))), mV 2 8]
.ret))⟩
def c91 : Ev.Fn := d91.den
theorem r91 : OK 91 c91 := rd d91 (P0 .pure) Tryz.func91
def d92 : DFn := ⟨[(.c .one)], [(.c .one), (.c .one)], .rw, [.tmp 2, .tmp 3],
(s [mK 2 .np, mK 3 (.it .i64 0)]
(.seq (s [mV 4 0, cP 5 127 [t 4], o 6 (.un .not (t 5))]
(.cond (t 6)
(s [mK 2 .np, mK 3 (.it .i64 1)]
.ret)
.skip))
(s [cP 7 128 [], mV 8 0, o 9 (.bld [.ns, .ns, (.it .i64 0), (.it .i64 0)] [(1, 1, (t 7)), (3, 1, (t 8))]), o 10 (.bxh (t 9)), mV 2 10, mK 3 (.it .i64 0)]
.ret)))⟩
def c92 : Ev.Fn := d92.den
theorem r92 : OK 92 c92 := rd d92 { P0 .rw with ord := [(3, [1, 0, 2, 3, 4, 5])] } Tryz.func92
def d93 : DFn := ⟨[(.c .one)], [(.c .one)], .pure, [.tmp 2],
(s [mK 2 (.bo false)]
(s [mV 3 0, o 4 (b .geq (t 3) (k 0)), mV 5 4, w 6 5 (.mov (t 0)), w 7 5 (b .leq (t 6) (k 2147483647)), o 8 (.pick (t 5) (t 7) (.k (.bo false))), mV 2 8]
.ret))⟩
def c93 : Ev.Fn := d93.den
theorem r93 : OK 93 c93 := rd d93 (P0 .pure) Tryz.func93
def d94 : DFn := ⟨[(.g [.one, .one, .one, (.sl [.one])])], [(.c .one)], .pure, [.tmp 2],
(s [o 1 (.box (t 0)), mK 2 (.bo false)]
(.seq (.reg false [
fA 3 0 1, lD 4 1 3, o 5 (b .geq (t 4) (k 0)), mV 6 5, w 7 6 (.fad 0 (t 1)), w 8 6 (.ld 1 false (t 7)), w 9 6 (b .leq (t 8) (k 255)), o 10 (.pick (t 6) (t 9) (.k (.bo false))), mV 11 10, w 12 11 (.fad 1 (t 1)), w 13 11 (.ld 1 false (t 12)), w 14 11 (b .geq (t 13) (k 0)), o 15 (.pick (t 11) (t 14) (.k (.bo false))), mV 16 15, w 17 16 (.fad 1 (t 1)), w 18 16 (.ld 1 false (t 17)), w 19 16 (b .leq (t 18) (k 255)), o 20 (.pick (t 16) (t 19) (.k (.bo false))), mV 21 20, w 22 21 (.fad 2 (t 1)), w 23 21 (.ld 1 false (t 22)), w 24 21 (b .geq (t 23) (k 0)), o 25 (.pick (t 21) (t 24) (.k (.bo false))), mV 26 25, w 27 26 (.fad 2 (t 1)), w 28 26 (.ld 1 false (t 27)), w 29 26 (b .leq (t 28) (k 2147483647)), o 30 (.pick (t 26) (t 29) (.k (.bo false))), mV 31 30, w 32 31 (.fad 3 (t 1)), w 33 31 (.ld 1 false (t 32)), w 34 31 (.len false (t 33)), w 35 31 (b .leq (t 34) (k 16777215)), o 36 (.pick (t 31) (t 35) (.k (.bo false))), mV 2 36] [3, 7, 12, 17, 22, 27, 32])
.ret))⟩
def c94 : Ev.Fn := d94.den
theorem r94 : OK 94 c94 := rd d94 { P0 .pure with loc := [1], ord := [(0, [1, 0])], clr := [(1, [3, 7, 12, 17, 22, 27, 32])] } Tryz.func94
end Go.Proofs.YtfnoiklmcmboeaaGreatDoor.tab
