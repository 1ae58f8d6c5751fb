import Derived.Test.YtnnhhfjkkmakaaaGreatDoorHand
import Derived.Test.YtnnhhfjkkmakaaaGreatDoorRows
import Derived.KernelRfl
/- the functions of the seat, read off the program -/
namespace Go.Proofs.YtnnhhfjkkmakaaaGreatDoor.tab
open Go hiding Fn
open Ev

abbrev mV (d s : Nat) : DOp := ⟨some d, none, [], .mov (.t s)⟩
abbrev fA (d o s : Nat) : DOp := ⟨some d, none, [], .fad o (.t s)⟩
abbrev lD (d n s : Nat) : DOp := ⟨some d, none, [], .ld n false (.t s)⟩
abbrev lQ (d n s : Nat) : DOp := ⟨some d, none, [], .ld n true (.t s)⟩
abbrev nK (d s : Nat) : DOp := ⟨some d, none, [], .nck (.t s)⟩
abbrev sO (n a s : Nat) : DOp := ⟨none, none, [], .sto n (.t a) (.t s)⟩
abbrev eX (d s i : Nat) : DOp := ⟨some d, none, [], .ext (.t s) i⟩
abbrev mK (d : Nat) (v : V) : DOp := ⟨some d, none, [], .mov (.k v)⟩
abbrev cR (d f : Nat) (l : List A) : DOp := ⟨some d, none, [], .call false .rw f l⟩
abbrev cP (d f : Nat) (l : List A) : DOp := ⟨some d, none, [], .call false .pure f l⟩
abbrev lN (d : Nat) (q : Bool) (s : Nat) : DOp := ⟨some d, none, [], .len q (.t s)⟩
abbrev cV (d : Nat) (k : IntKind) (s : Nat) : DOp := ⟨some d, none, [], .cnv (.int k) (.t s)⟩
def mdl : List Md := [.pure, .pure, .pure, .pure, .pure, .pure, .pure, .pure, .rw, .pure, .rw, .rw, .pure, .rw, .rw, .ro, .rw, .rw, .rw, .rw, .pure, .rw, .rw, .pure, .rw, .pure, .rw, .pure, .rw, .rw, .pure, .pure, .pure, .rw, .pure, .rw, .rw, .pure, .rw, .pure, .pure, .pure, .rw, .pure, .pure, .rw, .rw, .rw, .pure, .pure, .pure, .rw, .rw, .rw, .rw, .pure, .rw, .rw, .rw, .rw, .rw, .rw, .rw, .pure, .pure, .rw, .ro, .ro, .pure, .rw, .pure, .pure, .pure, .pure, .rw, .rw, .pure, .rw, .rw, .rw, .rw, .rw, .rw, .rw, .rw, .rw, .pure, .pure, .pure, .rw, .pure, .pure, .rw, .rw, .rw, .rw, .rw, .rw, .rw, .rw, .rw, .rw, .rw, .rw, .rw, .pure, .rw, .pure, .rw, .rw, .pure, .rw, .rw, .pure, .rw, .pure, .rw, .pure, .pure, .pure, .rw, .rw, .rw, .rw, .pure, .pure, .rw, .rw, .rw, .rw, .rw, .rw, .rw, .rw, .rw, .pure, .pure, .pure, .pure, .rw, .rw, .rw, .rw, .rw, .pure, .pure, .rw, .rw, .pure, .pure, .pure, .pure, .pure, .pure, .rw, .pure, .pure, .pure, .rw, .rw, .rw, .rw, .rw, .rw, .rw, .rw, .rw, .pure, .pure, .rw, .rw, .pure, .rw, .rw, .rw, .pure, .pure, .rw, .rw, .rw, .rw, .rw, .rw, .rw, .rw, .rw, .rw, .rw, .pure, .pure, .pure, .pure, .pure, .pure, .rw, .pure, .pure, .rw, .rw, .pure, .pure, .pure, .pure, .rw, .rw, .rw, .rw, .rw, .pure, .rw, .rw, .pure, .pure, .rw, .pure, .rw, .rw, .pure, .pure, .pure, .rw, .pure, .pure, .rw, .rw, .pure, .rw, .pure, .pure, .rw, .rw, .rw, .rw, .rw, .pure, .rw, .pure, .pure, .pure, .pure, .pure, .pure, .pure, .pure, .pure, .rw, .pure, .rw, .rw, .rw, .rw, .pure, .rw, .rw, .rw, .pure, .pure, .pure, .pure, .rw, .pure, .pure, .pure, .pure, .pure, .rw, .pure, .pure, .rw, .rw, .pure, .rw, .pure, .pure, .pure, .pure, .pure, .pure, .rw, .pure, .rw, .pure, .pure, .pure, .pure, .pure, .pure, .pure, .pure, .rw, .rw, .rw, .rw, .pure, .pure, .rw, .pure, .rw, .rw, .rw, .rw, .rw, .rw, .pure, .pure, .pure, .pure, .pure, .pure, .pure, .pure, .pure, .pure, .pure, .pure, .pure, .pure, .rw, .pure, .pure, .ro, .pure, .pure, .pure, .pure, .rw, .pure, .rw, .pure, .pure, .pure, .pure, .pure, .pure, .pure, .rw, .rw, .pure, .rw, .rw, .pure, .rw, .pure, .pure, .pure, .pure, .pure, .pure, .pure, .rw, .pure, .rw, .rw, .pure, .pure, .pure, .pure, .pure, .pure, .pure, .pure, .pure, .pure, .rw, .pure, .pure, .pure, .pure, .pure, .pure, .pure, .rw, .pure, .pure, .pure, .rw, .rw, .rw, .pure, .pure, .pure, .pure, .pure, .pure, .pure, .pure, .pure, .pure, .rw, .rw, .rw, .rw, .rw, .rw, .rw, .rw, .rw, .rw, .pure, .pure, .pure, .pure, .pure, .pure, .pure, .pure, .pure]
def mds (n : Nat) : Md := mdl.getD n .rw
abbrev o (d : Nat) (i : I) : DOp := ⟨some d, none, [], i⟩
abbrev u (d : Nat) (l : List Nat) (i : I) : DOp := ⟨some d, none, l, i⟩
abbrev w (d g : Nat) (i : I) : DOp := ⟨some d, some (g, true), [], i⟩
abbrev x (d g : Nat) (i : I) : DOp := ⟨some d, some (g, false), [], i⟩
abbrev n (i : I) : DOp := ⟨none, none, [], i⟩
abbrev s (l : List DOp) (c : C) : C := .seq (.reg false l []) c
abbrev r (l : List DOp) : C := .reg false l []
abbrev t (n : Nat) : A := .t n
abbrev k (n : Nat) : A := .k (.it .i64 (Int.ofNat n))
abbrev b (o : BinOp) (x y : A) : I := .bin .no o x y
abbrev P0 (m : Md) : Pol := { loc := [], md := m, mds := mds, heap := [], own := [], ord := [], clr := [], mask := [] }

def d6 : DFn := ⟨[], [(.c .one)], .pure, [.tmp 0],
(s [mK 0 (.bo false)]
(s [o 11 (.bld [(.it .i64 0), (.st []), (.st []), (.st []), .ns] [(0, 1, (k 200)), (2, 1, (.k (.st [34, 120, 34]))), (3, 1, (.k (.st [104, 105])))]), o 1 (.alc [(.it .i64 0), (.st []), (.st []), (.st []), .ns]), sO 5 1 11]
(s [lQ 13 5 1, o 14 (.bld [(.st []), (.st [])] [(0, 1, (.k (.st [105, 102, 45, 110, 111, 110, 101, 45, 109, 97, 116, 99, 104]))), (1, 1, (.k (.st [34, 120, 34])))]), o 15 (.bsv [.one, .one] 2 [[(.st []), (.st [])]] [(0, (t 14))]), o 16 (.bld [(.it .i64 0), (.it .i64 0), (.it .i64 0), .ns, (.st []), (.bo false), (.bo false), (.it .i64 0), (.it .i64 0)] [(3, 1, (t 15))]), cP 17 30 [t 13, t 16], mV 12 17, eX 18 12 0, eX 19 12 1, mV 2 18, mV 3 19]
(s [lQ 21 5 1, o 22 (.bld [(.st []), (.st [])] [(0, 1, (.k (.st [58, 109, 101, 116, 104, 111, 100]))), (1, 1, (.k (.st [72, 69, 65, 68])))]), o 23 (.bsv [.one, .one] 2 [[(.st []), (.st [])]] [(0, (t 22))]), o 24 (.bld [(.it .i64 0), (.it .i64 0), (.it .i64 0), .ns, (.st []), (.bo false), (.bo false), (.it .i64 0), (.it .i64 0)] [(3, 1, (t 23))]), cP 25 30 [t 21, t 24], mV 20 25, eX 26 20 0, eX 27 20 1, mV 4 26, mV 5 27]
(s [o 28 (.call false .pure 31 [(.k (.st [101, 116, 97, 103])), (.k (.st [34, 120, 34]))]), o 6 (.alc [(.st []), (.st []), (.it .i64 0)]), sO 3 6 28]
(s [cP 30 32 [(k 2)], cR 31 22 [t 30], mV 29 31, eX 32 29 0, eX 33 29 1, mV 7 32, mV 8 33]
(.seq (s [mV 34 7, o 35 (.bin .ptr .eql (t 34) (.k .np)), mV 36 35, x 37 36 (.mov (t 8)), x 38 36 (b .neq (t 37) (k 0)), o 39 (.pick (t 36) (.k (.bo true)) (t 38))]
(.cond (t 39)
(s [mK 0 (.bo false)]
.ret)
.skip))
(s [mV 40 7, o 41 (.bld [(.it .i64 0), (.it .i64 0), (.it .i64 0), (.it .i64 0), .ns, (.st []), (.bo false)] [(0, 1, (k 1))]), cR 42 33 [t 40, t 41]]
(s [mV 43 7, o 44 (.call false .pure 34 [(.k (.st [47]))]), o 45 (.bld [(.it .i64 0), (.it .i64 0), (.it .i64 0), (.it .i64 0), .ns, (.st []), (.bo false)] [(0, 1, (k 2)), (4, 1, (t 44)), (6, 1, (.k (.bo true)))]), cR 46 33 [t 43, t 45]]
(s [mV 47 7, o 48 (.bld [(.it .i64 0), (.st []), (.st []), (.st []), .ns] [(0, 1, (k 200)), (3, 1, (.k (.st [104, 105])))]), cR 49 35 [t 47, t 48], mV 9 49]
(.seq (s [mV 50 9, o 51 (.bin .ptr .eql (t 50) (.k .np))]
(.cond (t 51)
(s [mK 0 (.bo false)]
.ret)
.skip))
(s [mV 52 9, cR 53 36 [t 52]]
(s [mV 54 7, cR 55 28 [t 54], mV 10 55]
(.seq (.reg true [
mV 56 2, lQ 58 3 6, o 57 (.call false .pure 31 [(.k (.st [58, 115, 116, 97, 116, 117, 115])), (.k (.st [51, 48, 52]))]), o 59 (.bsv [.one, .one, .one] 3 [[(.st []), (.st []), (.it .i64 0)], [(.st []), (.st []), (.it .i64 0)]] [(0, (t 57)), (1, (t 58))]), cP 60 37 [t 56, t 59], mV 61 60, w 62 61 (.mov (t 3)), w 63 61 (b .eql (t 62) (.k (.st []))), o 64 (.pick (t 61) (t 63) (.k (.bo false))), mV 65 64, w 66 65 (.mov (t 4)), w 68 65 (.ld 3 true (t 6)), w 67 65 (.call false .pure 31 [(.k (.st [58, 115, 116, 97, 116, 117, 115])), (.k (.st [50, 48, 48]))]), w 69 65 (.bsv [.one, .one, .one] 3 [[(.st []), (.st []), (.it .i64 0)], [(.st []), (.st []), (.it .i64 0)]] [(0, (t 67)), (1, (t 68))]), w 70 65 (.call false .pure 37 [t 66, t 69]), o 71 (.pick (t 65) (t 70) (.k (.bo false))), mV 72 71, w 73 72 (.mov (t 5)), w 74 72 (b .eql (t 73) (.k (.st []))), o 75 (.pick (t 72) (t 74) (.k (.bo false))), mV 76 75, w 77 76 (.mov (t 9)), w 78 76 (.call false .rw 38 [t 77]), w 79 76 (b .eql (t 78) (k 1)), o 80 (.pick (t 76) (t 79) (.k (.bo false))), mV 81 80, w 82 81 (.mov (t 10)), w 83 81 (.len false (t 82)), w 84 81 (b .eql (t 83) (k 1)), o 85 (.pick (t 81) (t 84) (.k (.bo false))), mV 86 85, w 87 86 (.mov (t 10)), w 88 86 (.ias 9 (t 87) (k 0)), w 89 86 (.fad 3 (t 88)), w 90 86 (.ld 1 false (t 89)), w 91 86 (.bld [(.st []), (.st [])] [(0, 1, (.k (.st [58, 115, 116, 97, 116, 117, 115]))), (1, 1, (.k (.st [50, 48, 48])))]), w 92 86 (.bld [(.st []), (.st [])] [(0, 1, (.k (.st [118, 105, 97]))), (1, 1, (.k (.st [50, 32, 114, 101, 115, 101, 114, 118, 111, 105, 114])))]), w 93 86 (.bsv [.one, .one] 2 [[(.st []), (.st [])], [(.st []), (.st [])]] [(0, (t 91)), (1, (t 92))]), w 94 86 (.call false .pure 20 [t 90, t 93]), o 95 (.pick (t 86) (t 94) (.k (.bo false))), mV 96 95, w 97 96 (.mov (t 10)), w 98 96 (.ias 9 (t 97) (k 0)), w 99 96 (.fad 4 (t 98)), w 100 96 (.ld 1 false (t 99)), w 101 96 (b .eql (t 100) (.k (.st [104, 105]))), o 102 (.pick (t 96) (t 101) (.k (.bo false))), mV 103 102, w 104 103 (.mov (t 10)), w 105 103 (.ias 9 (t 104) (k 0)), w 106 103 (.fad 5 (t 105)), w 107 103 (.ld 1 false (t 106)), o 108 (.pick (t 103) (t 107) (.k (.bo false))), mV 0 108] [])
.ret))))))))))))))⟩
def c6 : Ev.Fn := d6.den
def p6 : Pol := { P0 .pure with loc := [1, 6], ord := [(4, [1, 0, 2]), (15, [0, 2, 1, 3, 4, 5, 6, 7, 8, 9, 10, 12, 11, 13, 14, 15, 16, 17, 18, 19, 20, 21, 22, 23, 24, 25, 26, 27, 28, 29, 30, 31, 32, 33, 34, 35, 36, 37, 38, 39, 40, 41, 42, 43, 44, 45, 46, 47, 48, 49, 50, 51, 52, 53])] }
theorem r6 : FnOK Tryz.prog mds 6 c6 := .read (pol := p6) (d := d6) Tryz.func6 (by kernel_rfl) (by kernel_rfl) rfl rfl (by kernel_rfl)

def d7 : DFn := ⟨[(.g [.one, .one, .one, .one, (.sl [.one, .one])]), (.g [.one, .one, .one, (.sl [.one, .one]), .one, .one, .one, .one, .one])], [(.c .one)], .pure, [.tmp 4],
(s [o 2 (.box (t 0)), o 3 (.box (t 1)), mK 4 (.bo false)]
(.seq (.seq (.reg false [
lQ 9 5 2, cP 10 39 [t 9], o 11 (.un .not (t 10)), mV 12 11, x 13 12 (.fad 3 (t 3)), x 14 12 (.ld 1 false (t 13)), x 15 12 (.call false .pure 40 [t 14]), x 16 12 (.un .not (t 15)), o 17 (.pick (t 12) (.k (.bo true)) (t 16))] [13])
(.cond (t 17)
(.seq (.reg false [
cP 18 6 [], mV 4 18] [])
.ret)
.skip))
(s [lQ 20 5 2, lQ 21 9 3, cP 22 30 [t 20, t 21], mV 19 22, eX 23 19 0, eX 24 19 1, mV 5 23, mV 6 24]
(s [lQ 26 5 2, lQ 27 9 3, cP 28 41 [t 26, t 27], mV 25 28, eX 29 25 0, eX 30 25 1, mV 7 29, mV 8 30]
(s [mV 31 5, mV 32 7, cP 33 37 [t 31, t 32], mV 34 33, w 35 34 (.mov (t 6)), w 36 34 (.mov (t 8)), w 37 34 (b .eql (t 35) (t 36)), o 38 (.pick (t 34) (t 37) (.k (.bo false))), mV 39 38, w 40 39 (.call false .pure 6 []), o 41 (.pick (t 39) (t 40) (.k (.bo false))), mV 4 41]
.ret)))))⟩
def c7 : Ev.Fn := d7.den
def p7 : Pol := { P0 .pure with loc := [2, 3], ord := [(0, [2, 0, 1])], clr := [(1, [13])] }
theorem r7 : FnOK Tryz.prog mds 7 c7 := .read (pol := p7) (d := d7) Tryz.func7 (by kernel_rfl) (by kernel_rfl) rfl rfl (by kernel_rfl)

def d8 : DFn := ⟨[(.g [.one, .one, .one, .one, .one, .one, .one])], [(.c .one), (.c .one)], .rw, [.tmp 2, .tmp 3],
(s [o 1 (.box (t 0)), mK 2 .np, mK 3 (.it .i64 0)]
(.seq (.seq (.reg false [
fA 9 2 1, lQ 10 3 9, cR 11 10 [(.k (.bo true)), t 10], mV 8 11, eX 12 8 0, eX 13 8 1, mV 4 12, mV 5 13] [9])
(.seq (.reg false [
mV 14 5, o 15 (b .neq (t 14) (k 0))] [])
(.cond (t 15)
(s [mK 2 .np, mK 3 (.it .i64 1)]
.ret)
.skip)))
(.seq (.reg false [
fA 17 0 1, lD 18 1 17, cR 19 42 [t 18], mV 16 19, eX 20 16 0, eX 21 16 1, mV 6 20, mV 7 21] [17])
(.seq (.seq (.reg false [
mV 22 7, o 23 (b .neq (t 22) (k 0)), mV 24 23, x 25 24 (.fad 5 (t 1)), x 26 24 (.ld 1 false (t 25)), x 27 24 (b .lss (t 26) (k 1)), o 28 (.pick (t 24) (.k (.bo true)) (t 27)), mV 29 28, x 30 29 (.fad 5 (t 1)), x 31 29 (.ld 1 false (t 30)), x 32 29 (b .gtr (t 31) (k 64)), o 33 (.pick (t 29) (.k (.bo true)) (t 32)), mV 34 33, x 35 34 (.fad 6 (t 1)), x 36 34 (.ld 1 false (t 35)), x 37 34 (b .lss (t 36) (k 1)), o 38 (.pick (t 34) (.k (.bo true)) (t 37)), mV 39 38, x 40 39 (.fad 6 (t 1)), x 41 39 (.ld 1 false (t 40)), x 42 39 (b .gtr (t 41) (k 8)), o 43 (.pick (t 39) (.k (.bo true)) (t 42))] [25, 30, 35, 40])
(.cond (t 43)
(.seq (.reg false [
mK 2 .np, mK 3 (.it .i64 1)] [])
.ret)
.skip))
(s [lQ 44 7 1, mV 45 6, o 46 (.bld [(.it .i64 0), (.fl .f64 0), (.it .i64 0), (.it .i64 0), (.it .i64 0), (.it .i64 0), (.it .i64 0), .np, .np, .np, .np, .np, .np, .np, .np, .np, .np, .np, .np, .np, .np, .np, .np, .np, (.it .i64 0), .ns, .ns] [(0, 7, (t 44)), (23, 1, (t 45))]), o 47 (.bxh (t 46)), mV 2 47, mK 3 (.it .i64 0)]
.ret)))))⟩
def c8 : Ev.Fn := d8.den
def p8 : Pol := { P0 .rw with loc := [1], ord := [(0, [1, 2, 0])], clr := [(1, [9]), (4, [17]), (5, [25, 30, 35, 40])] }
theorem r8 : FnOK Tryz.prog mds 8 c8 := .read (pol := p8) (d := d8) Tryz.func8 (by kernel_rfl) (by kernel_rfl) rfl rfl (by kernel_rfl)

def d10 : DFn := ⟨[(.c .one), (.g [.one, .one, .one])], [(.c .one), (.c .one)], .rw, [.tmp 4, .tmp 5],
(s [o 3 (.box (t 1)), mK 4 .np, mK 5 (.it .i64 0)]
(.seq (.seq (.reg false [
fA 8 0 3, lD 9 1 8, cP 10 43 [t 9, (k 1), (k 100)], o 11 (.un .not (t 10)), mV 12 11, x 13 12 (.fad 1 (t 3)), x 14 12 (.ld 1 false (t 13)), x 15 12 (.call false .pure 43 [t 14, (k 65535), (k 2147483647)]), x 16 12 (.un .not (t 15)), o 17 (.pick (t 12) (.k (.bo true)) (t 16)), mV 18 17, x 19 18 (.fad 2 (t 3)), x 20 18 (.ld 1 false (t 19)), x 21 18 (.call false .pure 43 [t 20, (k 1), (k 1048576)]), x 22 18 (.un .not (t 21)), o 23 (.pick (t 18) (.k (.bo true)) (t 22))] [8, 13, 19])
(.cond (t 23)
(.seq (.reg false [
mK 4 .np, mK 5 (.it .i64 1)] [])
.ret)
.skip))
(.seq (.reg true [
mV 24 0, lQ 25 3 3, cP 26 44 [], o 27 (.bld [(.bo false), (.it .i64 0), (.it .i64 0), (.it .i64 0), (.it .i64 0), (.it .i64 0), (.it .i64 0), (.it .i64 0), (.it .i64 0), .np, .np, .np, .ns, (.it .i64 0), (.it .i64 0), .ns, (.it .i64 0), (.it .i64 0), .ns, (.it .i64 0), (.bo false), .ns, (.bo false), (.bo false), (.bo false), .ns] [(0, 1, (t 24)), (1, 3, (t 25)), (4, 5, (t 26)), (17, 1, (k 1))]), o 28 (.bxh (t 27)), mV 6 28] [])
(s [mV 30 6, mV 31 0, o 32 (.call true .rw 45 [(k 16384), t 31]), mV 29 32, eX 33 29 0, eX 34 29 1, nK 35 30, fA 36 9 35, sO 1 36 33]
(.seq (.reg false [
mV 38 6, fA 39 2 3, lD 40 1 39, o 41 (.call true .rw 46 [(k 4096), t 40]), mV 37 41, eX 42 37 0, eX 43 37 1, nK 44 38, fA 45 10 44, sO 1 45 42] [39])
(.seq (.reg false [
mV 47 6, o 48 (.call true .rw 47 [(k 4096)]), mV 46 48, eX 49 46 0, eX 50 46 1, nK 51 47, fA 52 11 51, sO 1 52 49] [])
(s [mV 54 6, o 55 (.call true .pure 48 [(k 65535)]), mV 53 55, eX 56 53 0, eX 57 53 1, nK 58 54, fA 59 13 58, sO 1 59 56]
(s [mV 61 6, o 62 (.call true .pure 48 [(k 65535)]), mV 60 62, eX 63 60 0, eX 64 60 1, nK 65 61, fA 66 14 65, sO 1 66 63]
(.seq (.reg false [
fA 67 0 3, lD 68 1 67, o 69 (.bld [(.it .i64 0), (.it .i64 0)] [(0, 1, (k 3)), (1, 1, (t 68))]), fA 70 1 3, lD 71 1 70, o 72 (.bld [(.it .i64 0), (.it .i64 0)] [(0, 1, (k 4)), (1, 1, (t 71))]), fA 73 2 3, lD 74 1 73, o 75 (.bld [(.it .i64 0), (.it .i64 0)] [(0, 1, (k 6)), (1, 1, (t 74))]), o 76 (.bsv [.one, .one] 2 [[(.it .i64 0), (.it .i64 0)], [(.it .i64 0), (.it .i64 0)], [(.it .i64 0), (.it .i64 0)]] [(0, (t 69)), (1, (t 72)), (2, (t 75))]), mV 7 76] [67, 70, 73])
(.seq (.seq (.reg false [
mV 77 0, o 78 (.un .not (t 77))] [])
(.cond (t 78)
(s [mV 79 6, o 80 (.bsl 1 (List.replicate 24 [(.it .u8 0)]) [(0, (.k (.it .u8 80))), (1, (.k (.it .u8 82))), (2, (.k (.it .u8 73))), (3, (.k (.it .u8 32))), (4, (.k (.it .u8 42))), (5, (.k (.it .u8 32))), (6, (.k (.it .u8 72))), (7, (.k (.it .u8 84))), (8, (.k (.it .u8 84))), (9, (.k (.it .u8 80))), (10, (.k (.it .u8 47))), (11, (.k (.it .u8 50))), (12, (.k (.it .u8 46))), (13, (.k (.it .u8 48))), (14, (.k (.it .u8 13))), (15, (.k (.it .u8 10))), (16, (.k (.it .u8 13))), (17, (.k (.it .u8 10))), (18, (.k (.it .u8 83))), (19, (.k (.it .u8 77))), (20, (.k (.it .u8 13))), (21, (.k (.it .u8 10))), (22, (.k (.it .u8 13))), (23, (.k (.it .u8 10)))]), o 81 (.mrk (t 80)), nK 82 79, fA 83 12 82, sO 1 83 81]
(r [o 84 (.bld [(.it .i64 0), (.it .i64 0)] [(0, 1, (k 2))]), o 85 (.bsl 2 [[(.it .i64 0), (.it .i64 0)]] [(0, (t 84))]), mV 86 7, o 87 (.app 2 16 (t 85) (t 86)), mV 7 87]))
.skip))
(.seq (.reg true [
mV 88 6, mV 89 6, nK 90 89, fA 91 12 90, lD 92 1 91, mV 93 7, cP 94 50 [t 93], o 95 (.bld [(.it .i64 0), (.it .i64 0), (.it .i64 0), .ns] [(0, 1, (k 4)), (3, 1, (t 94))]), o 96 (.call true .pure 49 [t 92, t 95]), nK 97 88, fA 98 12 97, sO 1 98 96] [])
(s [mV 99 6, mV 4 99, mK 5 (.it .i64 0)]
.ret))))))))))))⟩
def c10 : Ev.Fn := d10.den
def p10 : Pol := { P0 .rw with loc := [3], heap := [32, 41, 48, 55, 62, 80, 81, 85, 96], own := [32, 41, 48, 55, 62, 80, 81, 85, 96], ord := [(0, [1, 2, 0]), (12, [0, 2, 1, 3, 4])], clr := [(1, [8, 13, 19]), (5, [39]), (9, [67, 70, 73])] }
theorem r10 : FnOK Tryz.prog mds 10 c10 := .read (pol := p10) (d := d10) Tryz.func10 (by kernel_rfl) (by kernel_rfl) rfl rfl (by kernel_rfl)

def d11 : DFn := ⟨[(.c .one), (.g [.one, .one, .one, (.sl [.one])])], [(.g [.one, (.sl [.one]), (.sl [.one, .one])])], .rw, [.cell 4 3 true],
(s [o 3 (.box (t 1)), o 4 (.alc [(.bo false), .ns, .ns])]
(s [mV 8 0, nK 9 8, fA 10 26 9, n (.sto 1 (t 10) (.k .ns))]
(s [mV 11 0, lQ 12 4 3, cR 13 51 [t 11, t 12], o 14 (.bld [(.bo false), .ns, .ns] [(0, 1, (t 13))]), o 5 (.alc [(.bo false), .ns, .ns]), sO 3 5 14]
(s [mV 15 0, cR 16 52 [t 15]]
(.seq (.seq (.reg false [
mV 17 0, fA 18 1 3, lD 19 1 18, cR 20 53 [t 17, t 19], mV 6 20] [18])
(.seq (.reg false [
fA 21 0 3, lD 22 1 21, o 23 (b .eql (t 22) (k 4)), mV 24 23, w 25 24 (.mov (t 6)), w 26 24 (.bin .ptr .neq (t 25) (.k .np)), o 27 (.pick (t 24) (t 26) (.k (.bo false)))] [21])
(.cond (t 27)
(.seq (.reg false [
mV 28 6, fA 29 2 3, lD 30 1 29, cR 31 14 [t 28, t 30], fA 32 1 5, sO 1 32 31] [29, 32])
(.reg false [
mV 33 0, cR 34 52 [t 33]] []))
.skip)))
(.seq (.seq (.reg false [
mV 35 0, fA 36 1 3, lD 37 1 36, cR 38 54 [t 35, t 37], mV 7 38] [36])
(.seq (.reg false [
fA 39 0 3, lD 40 1 39, o 41 (b .eql (t 40) (k 7)), mV 42 41, w 43 42 (.mov (t 7)), w 44 42 (.bin .ptr .neq (t 43) (.k .np)), o 45 (.pick (t 42) (t 44) (.k (.bo false)))] [39])
(.cond (t 45)
(.seq (.reg true [
mV 46 7, nK 47 46, fA 48 0 47, lD 49 1 48, fA 50 2 3, lD 51 1 50, cR 52 14 [t 49, t 51], fA 53 1 5, sO 1 53 52] [50, 53])
(.reg false [
mV 54 0, cR 55 52 [t 54]] []))
.skip)))
(.seq (.reg false [
mV 56 0, nK 57 56, fA 58 26 57, lD 59 1 58, fA 60 2 5, sO 1 60 59] [60])
(.seq (.reg false [
mV 61 0, nK 62 61, fA 63 26 62, n (.sto 1 (t 63) (.k .ns))] [])
(s [lQ 64 3 5, sO 3 4 64]
.ret)))))))))⟩
def c11 : Ev.Fn := d11.den
def p11 : Pol := { P0 .rw with loc := [3, 4, 5], ord := [(2, [0, 1, 4, 2, 3, 5])], clr := [(4, [18]), (5, [21]), (6, [29, 32]), (8, [36]), (9, [39]), (10, [50, 53]), (12, [60])] }
theorem r11 : FnOK Tryz.prog mds 11 c11 := .read (pol := p11) (d := d11) Tryz.func11 (by kernel_rfl) (by kernel_rfl) rfl rfl (by kernel_rfl)

def d13 : DFn := ⟨[(.c .one), (.c (.sl [.one, .one, .one])), (.c .one)], [(.c .one), (.c .one)], .rw, [.tmp 6, .tmp 7],
(s [mK 6 (.it .i64 0), mK 7 (.bo false)]
(.seq (.seq (.reg true [
mV 9 0, nK 10 9, fA 11 24 10, lD 12 1 11, mV 13 12, x 14 13 (.mov (t 0)), x 15 13 (.nck (t 14)), x 16 13 (.fad 0 (t 15)), x 17 13 (.ld 1 false (t 16)), o 18 (.pick (t 13) (.k (.bo true)) (t 17)), mV 19 18, x 20 19 (.mov (t 0)), x 21 19 (.nck (t 20)), x 22 19 (.fad 23 (t 21)), x 23 19 (.ld 1 false (t 22)), o 24 (.pick (t 19) (.k (.bo true)) (t 23)), mV 25 24, x 26 25 (.mov (t 0)), x 27 25 (.nck (t 26)), x 28 25 (.fad 17 (t 27)), x 29 25 (.ld 1 false (t 28)), x 30 25 (b .gtr (t 29) (k 2147483647)), o 31 (.pick (t 25) (.k (.bo true)) (t 30)), mV 32 31, x 33 32 (.mov (t 0)), x 34 32 (.nck (t 33)), x 35 32 (.fad 15 (t 34)), x 36 32 (.ld 1 false (t 35)), x 37 32 (.len false (t 36)), x 38 32 (.mov (t 0)), x 39 32 (.nck (t 38)), x 40 32 (.fad 4 (t 39)), x 41 32 (.fad 1 (t 40)), x 42 32 (.ld 1 false (t 41)), x 43 32 (b .geq (t 37) (t 42)), o 44 (.pick (t 32) (.k (.bo true)) (t 43)), mV 45 44, x 46 45 (.mov (t 0)), x 47 45 (.nck (t 46)), x 48 45 (.fad 12 (t 47)), x 49 45 (.ld 1 false (t 48)), x 50 45 (.len false (t 49)), x 51 45 (b .geq (t 50) (k 131072)), o 52 (.pick (t 45) (.k (.bo true)) (t 51)), mV 53 52, x 54 53 (.mov (t 1)), x 55 53 (.call false .pure 55 [t 54]), x 56 53 (.un .not (t 55)), o 57 (.pick (t 53) (.k (.bo true)) (t 56))] [])
(.cond (t 57)
(s [mK 6 (.it .i64 0), mK 7 (.bo false)]
.ret)
.skip))
(s [mV 58 0, mV 59 0, nK 60 59, fA 61 17 60, lD 62 1 61, cR 63 56 [t 58, t 62], mV 8 63]
(s [mV 64 0, nK 65 64, fA 66 17 65, lD 67 1 66, o 68 (b .add (t 67) (k 2)), nK 69 64, fA 70 17 69, sO 1 70 68]
(s [mV 71 0, mV 72 8, mV 73 1, mV 74 2, cR 75 57 [t 71, t 72, t 73, t 74]]
(s [mV 76 8, nK 77 76, fA 78 0 77, lD 79 1 78, mV 6 79, mK 7 (.bo true)]
.ret))))))⟩
def c13 : Ev.Fn := d13.den
def p13 : Pol := P0 .rw
theorem r13 : FnOK Tryz.prog mds 13 c13 := .read (pol := p13) (d := d13) Tryz.func13 (by kernel_rfl) (by kernel_rfl) rfl rfl (by kernel_rfl)

def d14 : DFn := ⟨[(.c .one), (.c .one)], [(.c (.sl [.one]))], .rw, [.tmp 4],
(s [mK 4 .ns]
(s [mV 6 1, o 7 (.mnx true (t 6) (k 0)), mV 8 0, nK 9 8, fA 10 12 9, lD 11 1 10, lN 12 false 11, o 13 (.mnx false (t 7) (t 12)), mV 1 13]
(s [mV 14 0, nK 15 14, fA 16 12 15, lD 17 1 16, mV 18 1, o 19 (.slc false 1 (t 17) none (some (t 18))), o 20 (.app 1 1 (.k .ns) (t 19)), mV 5 20]
(s [mV 21 0, mV 22 0, nK 23 22, fA 24 12 23, lD 25 1 24, mV 26 1, o 27 (.slc false 1 (t 25) (some (t 26)) none), o 28 (.app 1 1 (.k .ns) (t 27)), nK 29 21, fA 30 12 29, sO 1 30 28]
(s [mV 31 5, mV 4 31]
.ret)))))⟩
def c14 : Ev.Fn := d14.den
def p14 : Pol := { P0 .rw with heap := [28], own := [28] }
theorem r14 : FnOK Tryz.prog mds 14 c14 := .read (pol := p14) (d := d14) Tryz.func14 (by kernel_rfl) (by kernel_rfl) rfl rfl (by kernel_rfl)

def d15 : DFn := ⟨[(.c .one)], [(.c .one)], .ro, [.tmp 2],
(s [mK 2 (.it .i64 0)]
(s [mV 3 0, nK 4 3, fA 5 24 4, lD 6 1 5, mV 2 6]
.ret))⟩
def c15 : Ev.Fn := d15.den
def p15 : Pol := P0 .ro
theorem r15 : FnOK Tryz.prog mds 15 c15 := .read (pol := p15) (d := d15) Tryz.func15 (by kernel_rfl) (by kernel_rfl) rfl rfl (by kernel_rfl)

def d16 : DFn := ⟨[(.c .one), (.c (.sl [.one]))], [(.c (.sl [.one, .one, (.sl [.one, .one]), .one, .one, .one]))], .rw, [.tmp 4],
(s [mK 4 .ns]
(.seq (s [mV 10 0, nK 11 10, fA 12 24 11, lD 13 1 12]
(.cond (t 13)
(s [mK 4 .ns]
.ret)
.skip))
(s [mV 14 0, nK 15 14, fA 16 25 15, n (.sto 1 (t 16) (.k .ns))]
(s [mV 18 0, nK 19 18, fA 20 9 19, lD 21 1 20, mV 22 1, cR 23 58 [t 21, t 22], mV 17 23, eX 24 17 0, eX 25 17 1, o 6 (.alc [(.it .i64 0), (.it .i64 0), (.it .i64 0)]), mV 5 24, sO 3 6 25]
(.seq (s [mV 26 5, lN 27 false 26, mK 28 (.it .i64 0)]
(.blk 0 (.loop [0, 6, 26, 27, 28] [8]
(s [o 29 (b .lss (t 28) (t 27))]
(.seq (.cond (t 29)
.skip
(.exit 0))
(.seq (.blk 1 (s [o 30 (.ias 4 (t 26) (t 28)), lQ 31 4 30, o 8 (.alc [(.it .i64 0), (.it .i64 0), (.it .i64 0), .ns]), sO 4 8 31]
(s [mV 32 0, nK 33 32, fA 34 24 33, lD 35 1 34, o 36 (.un .not (t 35))]
(.cond (t 36)
(r [mV 37 0, lQ 38 4 8, cR 39 59 [t 37, t 38]])
.skip))))
(r [o 40 (b .add (t 28) (k 1)), mV 28 40])))))))
(.seq (.seq (.reg false [
mV 41 0, nK 42 41, fA 43 24 42, lD 44 1 43, o 45 (.un .not (t 44)), mV 46 45, w 47 46 (.fad 0 (t 6)), w 48 46 (.ld 1 false (t 47)), w 49 46 (b .neq (t 48) (k 0)), o 50 (.pick (t 46) (t 49) (.k (.bo false)))] [47])
(.cond (t 50)
(.reg false [
mV 51 0, fA 52 1 6, lD 53 1 52, cR 54 60 [t 51, t 53]] [52])
.skip))
(.seq (.reg false [
mV 55 0, nK 56 55, fA 57 25 56, lD 58 1 57, mV 9 58] [])
(s [mV 59 0, nK 60 59, fA 61 25 60, n (.sto 1 (t 61) (.k .ns))]
(s [mV 62 9, mV 4 62]
.ret)))))))))⟩
def c16 : Ev.Fn := d16.den
def p16 : Pol := { P0 .rw with loc := [6, 8], ord := [(4, [0, 1, 2, 3, 4, 9, 5, 6, 7, 8, 10, 11])], clr := [(11, [47]), (12, [52])], mask := [(6, [0, 6, 26, 27, 28], [8])] }
theorem r16 : FnOK Tryz.prog mds 16 c16 := .read (pol := p16) (d := d16) Tryz.func16 (by kernel_rfl) (by kernel_rfl) rfl rfl (by kernel_rfl)

def d17 : DFn := ⟨[(.c .one), (.c .one), (.c (.sl [.one, .one, .one])), (.c .one)], [(.c .one)], .rw, [.tmp 8],
(s [mK 8 (.bo false)]
(s [mV 10 0, mV 11 1, cR 12 61 [t 10, t 11], mV 9 12]
(.seq (s [mV 13 9, o 14 (.bin .ptr .eql (t 13) (.k .np)), mV 15 14, x 16 15 (.mov (t 9)), x 17 15 (.call false .rw 62 [t 16]), x 18 15 (.un .not (t 17)), o 19 (.pick (t 15) (.k (.bo true)) (t 18)), mV 20 19, x 21 20 (.mov (t 9)), x 22 20 (.nck (t 21)), x 23 20 (.fad 5 (t 22)), x 24 20 (.ld 1 false (t 23)), x 25 20 (.mov (t 24)), w 26 25 (.mov (t 3)), w 27 25 (.un .not (t 26)), x 28 20 (.pick (t 25) (t 27) (.k (.bo false))), o 29 (.pick (t 20) (.k (.bo true)) (t 28)), mV 30 29, x 31 30 (.mov (t 0)), x 32 30 (.nck (t 31)), x 33 30 (.fad 12 (t 32)), x 34 30 (.ld 1 false (t 33)), x 35 30 (.len false (t 34)), x 36 30 (b .geq (t 35) (k 131072)), o 37 (.pick (t 30) (.k (.bo true)) (t 36)), mV 38 37, x 39 38 (.mov (t 2)), x 40 38 (.call false .pure 55 [t 39]), x 41 38 (.un .not (t 40)), o 42 (.pick (t 38) (.k (.bo true)) (t 41))]
(.cond (t 42)
(s [mK 8 (.bo false)]
.ret)
.skip))
(s [mV 43 0, mV 44 9, mV 45 2, mV 46 3, cR 47 57 [t 43, t 44, t 45, t 46]]
(s [mK 8 (.bo true)]
.ret)))))⟩
def c17 : Ev.Fn := d17.den
def p17 : Pol := P0 .rw
theorem r17 : FnOK Tryz.prog mds 17 c17 := .read (pol := p17) (d := d17) Tryz.func17 (by kernel_rfl) (by kernel_rfl) rfl rfl (by kernel_rfl)

def d18 : DFn := ⟨[(.c .one), (.c .one), (.c .one), (.c .one)], [(.c .one), (.c .one)], .rw, [.tmp 8, .tmp 9],
(s [mK 8 (.it .i64 0), mK 9 (.bo false)]
(s [mV 14 0, mV 15 1, cR 16 61 [t 14, t 15], mV 10 16]
(.seq (s [mV 17 10, o 18 (.bin .ptr .eql (t 17) (.k .np)), mV 19 18, x 20 19 (.mov (t 10)), x 21 19 (.call false .rw 62 [t 20]), x 22 19 (.un .not (t 21)), o 23 (.pick (t 19) (.k (.bo true)) (t 22)), mV 24 23, x 25 24 (.mov (t 10)), x 26 24 (.nck (t 25)), x 27 24 (.fad 5 (t 26)), x 28 24 (.ld 1 false (t 27)), x 29 24 (.un .not (t 28)), o 30 (.pick (t 24) (.k (.bo true)) (t 29)), mV 31 30, x 32 31 (.mov (t 2)), x 33 31 (b .eql (t 32) (.k (.st []))), x 34 31 (.mov (t 33)), w 35 34 (.mov (t 3)), x 36 31 (.pick (t 34) (t 35) (.k (.bo false))), x 37 31 (.mov (t 36)), w 38 37 (.mov (t 0)), w 39 37 (.nck (t 38)), w 40 37 (.fad 12 (t 39)), w 41 37 (.ld 1 false (t 40)), w 42 37 (.len false (t 41)), w 43 37 (b .geq (t 42) (k 131072)), x 44 31 (.pick (t 37) (t 43) (.k (.bo false))), o 45 (.pick (t 31) (.k (.bo true)) (t 44))]
(.cond (t 45)
(s [mK 8 (.it .i64 0), mK 9 (.bo false)]
.ret)
.skip))
(s [mK 11 (.it .i64 0)]
(.seq (.blk 0 (.loop [0, 1, 2, 3, 10, 11] [13]
(.seq (s [mV 46 11, mV 47 2, lN 48 true 47, o 49 (b .lss (t 46) (t 48))]
(.cond (t 49)
.skip
(.exit 0)))
(.blk 1 (.seq (.reg true [
mV 50 2, lN 51 true 50, mV 52 11, o 53 (b .sub (t 51) (t 52)), mV 54 0, nK 55 54, fA 56 4 55, fA 57 3 56, lD 58 1 57, mV 59 0, nK 60 59, fA 61 12 60, lD 62 1 61, lN 63 false 62, o 64 (b .sub (k 131072) (t 63)), o 65 (.mn3 false (t 53) (t 58) (t 64)), mV 66 0, nK 67 66, fA 68 13 67, lQ 69 1 68, mV 70 10, nK 71 70, fA 72 2 71, lQ 73 1 72, o 74 (.bsv [.one] 1 [[(.it .i64 0)], [(.it .i64 0)]] [(0, (t 69)), (1, (t 73))]), cP 75 63 [t 65, t 74], mV 12 75] [])
(.seq (s [mV 76 12, o 77 (b .lss (t 76) (k 1))]
(.cond (t 77)
(s [mV 78 11, mV 8 78, mK 9 (.bo true)]
.ret)
.skip))
(s [mV 79 1, mV 80 2, mV 81 11, mV 82 11, mV 83 12, o 84 (b .add (t 82) (t 83)), o 85 (.slc true 0 (t 80) (some (t 81)) (some (t 84))), o 86 (.cnv .s2v (t 85)), o 87 (.bld [(.it .i64 0), (.it .i64 0), (.it .i64 0), .ns] [(0, 1, (k 0)), (2, 1, (t 79)), (3, 1, (t 86))]), o 13 (.alc [(.it .i64 0), (.it .i64 0), (.it .i64 0), .ns]), sO 4 13 87]
(s [mV 88 11, mV 89 12, o 90 (b .add (t 88) (t 89)), mV 11 90]
(.seq (s [mV 91 3, mV 92 91, w 93 92 (.mov (t 11)), w 94 92 (.mov (t 2)), w 95 92 (.len true (t 94)), w 96 92 (b .eql (t 93) (t 95)), o 97 (.pick (t 92) (t 96) (.k (.bo false)))]
(.cond (t 97)
(.reg false [
fA 98 1 13, n (.sto 1 (t 98) (k 1))] [98])
.skip))
(.seq (.reg true [
mV 99 0, mV 100 0, nK 101 100, fA 102 12 101, lD 103 1 102, lQ 104 4 13, o 105 (.call true .pure 49 [t 103, t 104]), nK 106 99, fA 107 12 106, sO 1 107 105] [])
(s [mV 109 0, mV 110 0, nK 111 110, fA 112 13 111, lQ 113 1 112, mV 114 12, o 115 (.call true .pure 64 [t 113, t 114]), mV 108 115, eX 116 108 0, eX 117 108 1, nK 118 109, fA 119 13 118, sO 1 119 116]
(r [mV 121 10, mV 122 10, nK 123 122, fA 124 2 123, lQ 125 1 124, mV 126 12, o 127 (.call true .pure 64 [t 125, t 126]), mV 120 127, eX 128 120 0, eX 129 120 1, nK 130 121, fA 131 2 130, sO 1 131 128]))))))))))))
(.seq (s [mV 132 3, o 133 (.un .not (t 132))]
(.cond (t 133)
(s [mV 134 11, mV 8 134, mK 9 (.bo true)]
.ret)
.skip))
(.seq (s [mV 135 2, o 136 (b .eql (t 135) (.k (.st [])))]
(.cond (t 136)
(r [mV 137 0, mV 138 0, nK 139 138, fA 140 12 139, lD 141 1 140, mV 142 1, o 143 (.bld [(.it .i64 0), (.it .i64 0), (.it .i64 0), .ns] [(0, 1, (k 0)), (1, 1, (k 1)), (2, 1, (t 142))]), o 144 (.call true .pure 49 [t 141, t 143]), nK 145 137, fA 146 12 145, sO 1 146 144])
.skip))
(s [mV 147 0, mV 148 10, cR 149 65 [t 147, t 148, (k 13)]]
(s [mV 150 11, mV 8 150, mK 9 (.bo true)]
.ret)))))))))⟩
def c18 : Ev.Fn := d18.den
def p18 : Pol := { P0 .rw with loc := [13], heap := [105, 115, 127, 144], own := [105, 115, 127, 144], clr := [(12, [98])], mask := [(5, [0, 1, 2, 3, 10, 11], [13])] }
theorem r18 : FnOK Tryz.prog mds 18 c18 := .read (pol := p18) (d := d18) Tryz.func18 (by kernel_rfl) (by kernel_rfl) rfl rfl (by kernel_rfl)

def d20 : DFn := ⟨[(.c (.sl [.one, .one])), (.c (.sl [.one, .one]))], [(.c .one)], .pure, [.tmp 4],
(s [mK 4 (.bo false)]
(.seq (s [mV 6 0, lN 7 false 6, mV 8 1, lN 9 false 8, o 10 (b .neq (t 7) (t 9))]
(.cond (t 10)
(s [mK 4 (.bo false)]
.ret)
.skip))
(.seq (s [mK 5 (.it .i64 0)]
(.blk 0 (.loop [0, 1, 5] []
(.seq (s [mV 11 5, mV 12 0, lN 13 false 12, o 14 (b .lss (t 11) (t 13))]
(.cond (t 14)
.skip
(.exit 0)))
(.seq (.blk 1 (.seq (.reg true [
mV 17 0, mV 18 5, o 19 (.ias 2 (t 17) (t 18)), lQ 20 2 19, mV 21 1, mV 22 5, o 23 (.ias 2 (t 21) (t 22)), lQ 24 2 23, o 25 (.bin (.ag [1, 1]) .neq (t 20) (t 24))] [])
(.cond (t 25)
(s [mK 4 (.bo false)]
.ret)
.skip)))
(r [mV 15 5, o 16 (b .add (t 15) (k 1)), mV 5 16]))))))
(s [mK 4 (.bo true)]
.ret))))⟩
def c20 : Ev.Fn := d20.den
def p20 : Pol := { P0 .pure with mask := [(4, [0, 1, 5], [])] }
theorem r20 : FnOK Tryz.prog mds 20 c20 := .read (pol := p20) (d := d20) Tryz.func20 (by kernel_rfl) (by kernel_rfl) rfl rfl (by kernel_rfl)

def d22 : DFn := ⟨[(.g [.one, .one, .one, .one, .one, .one, .one])], [(.c .one), (.c .one)], .rw, [.tmp 2, .tmp 3],
(s [o 1 (.box (t 0)), mK 2 .np, mK 3 (.it .i64 0)]
(s [lQ 8 7 1, cR 9 8 [t 8], mV 7 9, eX 10 7 0, eX 11 7 1, mV 4 10, mV 5 11]
(.seq (s [mV 12 5, o 13 (b .neq (t 12) (k 0))]
(.cond (t 13)
(s [mV 14 5, mK 2 .np, mV 3 14]
.ret)
.skip))
(s [lQ 15 7 1, mV 16 4, o 17 (.bld [(.it .i64 0), (.fl .f64 0), (.it .i64 0), (.it .i64 0), (.it .i64 0), (.it .i64 0), (.it .i64 0), .np, .ns, .ns, .ns, .ns] [(0, 7, (t 15)), (7, 1, (t 16))]), o 18 (.bxh (t 17)), mV 6 18]
(.seq (s [mK 19 (.it .i64 0)]
(.blk 0 (.loop [6, 19] [1]
(s [o 20 (b .lss (t 19) (k 8))]
(.seq (.cond (t 20)
.skip
(.exit 0))
(.seq (.blk 1 (.reg true [
mV 21 6, mV 22 6, nK 23 22, fA 24 8 23, o 25 (.iaa 2 1 (t 24) (k 0)), lD 26 1 25, o 27 (.bld [.np, (.it .i64 0), .ns] []), nK 31 21, fA 32 8 31, o 28 (.bxh (t 27)), o 29 (.bsl 1 [[.np]] [(0, (t 28))]), o 30 (.app 1 8 (t 26) (t 29)), o 33 (.iaa 2 1 (t 32) (k 0)), sO 1 33 30] []))
(r [o 34 (b .add (t 19) (k 1)), mV 19 34])))))))
(.seq (s [mK 35 (.it .i64 0)]
(.blk 2 (.loop [6, 35] [1]
(s [o 36 (b .lss (t 35) (k 8))]
(.seq (.cond (t 36)
.skip
(.exit 2))
(.seq (.blk 3 (.reg true [
mV 37 6, mV 38 6, nK 39 38, fA 40 8 39, o 41 (.iaa 2 1 (t 40) (k 1)), lD 42 1 41, o 43 (.bld [.np, (.it .i64 0), .ns] []), nK 47 37, fA 48 8 47, o 44 (.bxh (t 43)), o 45 (.bsl 1 [[.np]] [(0, (t 44))]), o 46 (.app 1 8 (t 42) (t 45)), o 49 (.iaa 2 1 (t 48) (k 1)), sO 1 49 46] []))
(r [o 50 (b .add (t 35) (k 1)), mV 35 50])))))))
(s [mV 51 6, mV 2 51, mK 3 (.it .i64 0)]
.ret)))))))⟩
def c22 : Ev.Fn := d22.den
def p22 : Pol := { P0 .rw with loc := [1], heap := [30, 46, 29, 45], own := [30, 46], ord := [(0, [1, 2, 0]), (7, [0, 1, 2, 3, 4, 5, 6, 10, 11, 7, 8, 9, 12, 13]), (11, [0, 1, 2, 3, 4, 5, 6, 10, 11, 7, 8, 9, 12, 13])], mask := [(6, [6, 19], [1]), (10, [6, 35], [1])] }
theorem r22 : FnOK Tryz.prog mds 22 c22 := .read (pol := p22) (d := d22) Tryz.func22 (by kernel_rfl) (by kernel_rfl) rfl rfl (by kernel_rfl)

def d26 : DFn := ⟨[(.c .one)], [(.c (.sl [.one, .one, .one, (.sl [.one, .one]), .one, .one, .one, .one, .one]))], .rw, [.tmp 2],
(s [mK 2 .ns]
(s [mV 3 0, nK 4 3, fA 5 10 4, o 6 (.iaa 2 1 (t 5) (k 1)), lD 7 1 6, cP 8 68 [t 7], mV 2 8]
.ret))⟩
def c26 : Ev.Fn := d26.den
def p26 : Pol := P0 .rw
theorem r26 : FnOK Tryz.prog mds 26 c26 := .read (pol := p26) (d := d26) Tryz.func26 (by kernel_rfl) (by kernel_rfl) rfl rfl (by kernel_rfl)

def d28 : DFn := ⟨[(.c .one)], [(.c (.sl [.one, .one, .one, (.sl [.one, .one]), .one, .one, .one, .one, .one]))], .rw, [.tmp 2],
(s [mK 2 .ns]
(s [mV 3 0, nK 4 3, fA 5 10 4, o 6 (.iaa 2 1 (t 5) (k 0)), lD 7 1 6, cP 8 68 [t 7], mV 2 8]
.ret))⟩
def c28 : Ev.Fn := d28.den
def p28 : Pol := P0 .rw
theorem r28 : FnOK Tryz.prog mds 28 c28 := .read (pol := p28) (d := d28) Tryz.func28 (by kernel_rfl) (by kernel_rfl) rfl rfl (by kernel_rfl)

def d29 : DFn := ⟨[(.c .one), (.c .one), (.c .one)], [(.c .one)], .rw, [.tmp 6],
(s [mK 6 (.it .i64 0)]
(.seq (s [mV 8 0, mV 9 1, mV 10 2, cR 11 69 [t 8, t 9, t 10], mV 7 11]
(s [mV 12 7, o 13 (.bin .ptr .neq (t 12) (.k .np))]
(.cond (t 13)
(s [mV 14 7, nK 15 14, fA 16 1 15, lD 17 1 16, mV 6 17]
.ret)
.skip)))
(s [mK 6 (.it .i64 0)]
.ret)))⟩
def c29 : Ev.Fn := d29.den
def p29 : Pol := P0 .rw
theorem r29 : FnOK Tryz.prog mds 29 c29 := .read (pol := p29) (d := d29) Tryz.func29 (by kernel_rfl) (by kernel_rfl) rfl rfl (by kernel_rfl)

def d30 : DFn := ⟨[(.g [.one, .one, .one, .one, (.sl [.one, .one])]), (.g [.one, .one, .one, (.sl [.one, .one]), .one, .one, .one, .one, .one])], [(.c (.sl [.one, .one, .one])), (.c .one)], .pure, [.tmp 4, .tmp 5],
(s [o 2 (.box (t 0)), o 3 (.box (t 1)), mK 4 .ns, mK 5 (.st [])]
(.seq (.reg true [
fA 15 0 2, lD 16 1 15, fA 17 3 2, lD 18 1 17, mV 6 16, mV 7 18] [15, 17])
(.seq (.seq (.reg false [
fA 20 3 3, lD 21 1 20, o 22 (.call false .pure 70 [t 21, (.k (.st [105, 102, 45, 110, 111, 110, 101, 45, 109, 97, 116, 99, 104]))]), mV 19 22, eX 23 19 0, eX 24 19 1, mV 8 23, mV 9 24] [20])
(.seq (.reg false [
mV 25 9, mV 26 25, w 27 26 (.fad 2 (t 2)), w 28 26 (.ld 1 false (t 27)), w 29 26 (b .neq (t 28) (.k (.st []))), o 30 (.pick (t 26) (t 29) (.k (.bo false))), mV 31 30, w 32 31 (.mov (t 8)), w 33 31 (.fad 2 (t 2)), w 34 31 (.ld 1 false (t 33)), w 35 31 (b .eql (t 32) (t 34)), o 36 (.pick (t 31) (t 35) (.k (.bo false)))] [27, 33])
(.cond (t 36)
(.reg false [
mK 6 (.it .i64 304), mK 7 (.st [])] [])
.skip)))
(.seq (.seq (.reg false [
fA 38 3 3, lD 39 1 38, o 40 (.call false .pure 70 [t 39, (.k (.st [58, 109, 101, 116, 104, 111, 100]))]), mV 37 40, eX 41 37 0, eX 42 37 1, mV 10 41, mV 11 42] [38])
(.seq (.reg false [
mV 43 10, o 44 (b .eql (t 43) (.k (.st [72, 69, 65, 68]))), mV 45 44, x 46 45 (.mov (t 6)), x 47 45 (b .eql (t 46) (k 204)), o 48 (.pick (t 45) (.k (.bo true)) (t 47))] [])
(.cond (t 48)
(r [mK 7 (.st [])])
.skip)))
(s [mV 49 6, cP 50 72 [t 49], o 51 (.call false .pure 71 [(.k (.st [58, 115, 116, 97, 116, 117, 115])), t 50]), o 52 (.bsl 3 [[(.st []), (.st []), (.it .i64 0)]] [(0, (t 51))]), mV 12 52]
(.seq (.seq (.reg false [
fA 53 1 2, lD 54 1 53, o 55 (b .neq (t 54) (.k (.st [])))] [53])
(.cond (t 55)
(.reg false [
mV 56 12, fA 57 1 2, lD 58 1 57, o 59 (.call false .pure 71 [(.k (.st [99, 97, 99, 104, 101, 45, 99, 111, 110, 116, 114, 111, 108])), t 58]), o 60 (.bsv [.one, .one, .one] 3 [[(.st []), (.st []), (.it .i64 0)]] [(0, (t 59))]), o 61 (.app 3 40 (t 56) (t 60)), mV 12 61] [57])
.skip))
(.seq (.seq (.reg false [
fA 62 2 2, lD 63 1 62, o 64 (b .neq (t 63) (.k (.st [])))] [62])
(.cond (t 64)
(.reg false [
mV 65 12, fA 66 2 2, lD 67 1 66, o 68 (.call false .pure 71 [(.k (.st [101, 116, 97, 103])), t 67]), o 69 (.bsv [.one, .one, .one] 3 [[(.st []), (.st []), (.it .i64 0)]] [(0, (t 68))]), o 70 (.app 3 40 (t 65) (t 69)), mV 12 70] [66])
.skip))
(.seq (.seq (.reg false [
fA 71 4 2, lD 72 1 71, lN 73 false 72, mK 74 (.it .i64 0)] [71])
(.blk 0 (.loop [7, 12, 72, 73, 74] [2, 3, 14]
(.seq (.reg false [
o 75 (b .lss (t 74) (t 73))] [])
(.seq (.cond (t 75)
.skip
(.exit 0))
(.seq (.blk 1 (s [o 76 (.ias 2 (t 72) (t 74)), lQ 77 2 76, o 14 (.alc [(.st []), (.st [])]), sO 2 14 77]
(.reg false [
mV 78 12, fA 79 0 14, lD 80 1 79, fA 81 1 14, lD 82 1 81, cP 83 71 [t 80, t 82], o 84 (.bsv [.one, .one, .one] 3 [[(.st []), (.st []), (.it .i64 0)]] [(0, (t 83))]), o 85 (.app 3 40 (t 78) (t 84)), mV 12 85] [79, 81])))
(.reg false [
o 86 (b .add (t 74) (k 1)), mV 74 86] [])))))))
(s [mV 87 12, mV 88 7, mV 4 87, mV 5 88]
.ret)))))))))⟩
def c30 : Ev.Fn := d30.den
def p30 : Pol := { P0 .pure with loc := [2, 3, 14], heap := [52, 61, 70, 85], own := [52, 61, 70, 85], ord := [(0, [2, 3, 0, 1])], clr := [(1, [15, 17]), (2, [20]), (3, [27, 33]), (5, [38]), (9, [53]), (10, [57]), (11, [62]), (12, [66]), (13, [71]), (16, [79, 81])], mask := [(14, [7, 12, 72, 73, 74], [2, 3, 14])] }
theorem r30 : FnOK Tryz.prog mds 30 c30 := .read (pol := p30) (d := d30) Tryz.func30 (by kernel_rfl) (by kernel_rfl) rfl rfl (by kernel_rfl)

def d31 : DFn := ⟨[(.c .one), (.c .one)], [(.g [.one, .one, .one])], .pure, [.cell 4 3 true],
(s [o 4 (.alc [(.st []), (.st []), (.it .i64 0)])]
(s [mV 5 0, mV 6 1, o 7 (.bld [(.st []), (.st [])] [(0, 1, (t 5)), (1, 1, (t 6))]), o 8 (.bld [(.st []), (.st []), (.it .i64 0)] [(0, 2, (t 7)), (2, 1, (k 1))]), sO 3 4 8]
.ret))⟩
def c31 : Ev.Fn := d31.den
def p31 : Pol := { P0 .pure with loc := [4] }
theorem r31 : FnOK Tryz.prog mds 31 c31 := .read (pol := p31) (d := d31) Tryz.func31 (by kernel_rfl) (by kernel_rfl) rfl rfl (by kernel_rfl)

def d32 : DFn := ⟨[(.c .one)], [(.g [.one, .one, .one, .one, .one, .one, .one])], .pure, [.cell 2 7 true],
(s [o 2 (.alc [(.it .i64 0), (.fl .f64 0), (.it .i64 0), (.it .i64 0), (.it .i64 0), (.it .i64 0), (.it .i64 0)])]
(s [mV 3 0, cP 4 73 [t 3, (k 1), (k 30)], o 5 (.bld [(.it .i64 0), (.it .i64 0), (.it .i64 0)] [(0, 1, (t 4)), (1, 1, (k 65535)), (2, 1, (k 65536))]), o 6 (.bld [(.it .i64 0), (.fl .f64 0), (.it .i64 0), (.it .i64 0), (.it .i64 0), (.it .i64 0), (.it .i64 0)] [(0, 1, (k 100000)), (1, 1, (.k (.fl .f64 4591870180066957722))), (2, 3, (t 5)), (5, 1, (k 60)), (6, 1, (k 8))]), sO 7 2 6]
.ret))⟩
def c32 : Ev.Fn := d32.den
def p32 : Pol := { P0 .pure with loc := [2] }
theorem r32 : FnOK Tryz.prog mds 32 c32 := .read (pol := p32) (d := d32) Tryz.func32 (by kernel_rfl) (by kernel_rfl) rfl rfl (by kernel_rfl)

def d33 : DFn := ⟨[(.c .one), (.g [.one, .one, .one, .one, (.sl [.one, .one, .one]), .one, .one])], [(.g [.one, .one, .one])], .rw, [.cell 4 3 true],
(s [o 3 (.box (t 1)), o 4 (.alc [(.bo false), (.it .i64 0), (.it .i64 0)])]
(.seq (.seq (.reg false [
fA 6 0 3, lD 7 1 6] [6])
(.blk 0 (.seq (.reg false [
o 9 (b .eql (t 7) (k 1)), mV 8 9] [])
(.cond (t 8)
(.seq (.reg false [
mV 10 0, fA 11 1 3, lD 12 1 11, cR 13 74 [t 10, t 12], o 14 (.bld [(.bo false), (.it .i64 0), (.it .i64 0)] [(0, 1, (t 13))]), sO 3 4 14] [11])
.ret)
(.seq (.reg false [
o 16 (b .eql (t 7) (k 14)), mV 15 16] [])
(.cond (t 15)
(.seq (.reg false [
mV 17 0, fA 18 2 3, lD 19 1 18, o 20 (.bld [(.it .i64 0), (.it .i64 0), (.it .i64 0), .ns] [(0, 1, (k 8)), (2, 1, (t 19))]), cR 21 75 [t 17, t 20], o 22 (.fld 0 1 false (t 21)), o 23 (.bld [(.bo false), (.it .i64 0), (.it .i64 0)] [(0, 1, (t 22))]), sO 3 4 23] [18])
.ret)
.skip))))))
(.seq (.reg true [
mV 24 0, fA 25 0 3, lD 26 1 25, fA 28 1 3, lD 29 1 28, cP 27 76 [t 26], cR 30 69 [t 24, t 27, t 29], mV 5 30] [25, 28])
(.seq (.seq (.reg false [
mV 31 5, o 32 (.bin .ptr .eql (t 31) (.k .np)), mV 33 32, x 34 33 (.mov (t 5)), x 35 33 (.nck (t 34)), x 36 33 (.fad 0 (t 35)), x 37 33 (.ld 1 false (t 36)), x 38 33 (.bin .ptr .eql (t 37) (.k .np)), o 39 (.pick (t 33) (.k (.bo true)) (t 38))] [])
(.cond (t 39)
(s [o 40 (.bld [(.bo false), (.it .i64 0), (.it .i64 0)] []), sO 3 4 40]
.ret)
.skip))
(.seq (.seq (.reg false [
fA 41 0 3, lD 42 1 41] [41])
(.blk 1 (.seq (.reg false [
o 44 (b .eql (t 42) (k 2)), mV 43 44] [])
(.cond (t 43)
(s [mV 45 5, lQ 46 7 3, cR 47 77 [t 45, t 46], sO 3 4 47]
.ret)
(.seq (s [o 49 (b .eql (t 42) (k 3)), mV 48 49]
(.cond (t 48)
.skip
(r [o 50 (b .eql (t 42) (k 7)), mV 48 50])))
(.cond (t 48)
(.seq (.reg false [
mV 51 5, fA 52 3 3, lD 53 1 52, lQ 54 7 3, cR 55 78 [t 51, t 53, t 54], sO 3 4 55] [52])
.ret)
(.seq (.reg false [
o 57 (b .eql (t 42) (k 4)), mV 56 57] [])
(.cond (t 56)
(.seq (.reg true [
mV 58 5, nK 59 58, fA 60 0 59, lD 61 1 60, fA 62 3 3, lD 63 1 62, cR 64 79 [t 61, t 63, (k 8)], o 65 (.bld [(.bo false), (.it .i64 0), (.it .i64 0)] [(0, 1, (t 64))]), sO 3 4 65] [62])
.ret)
(s [o 67 (b .eql (t 42) (k 8)), mV 66 67]
(.cond (t 66)
(.seq (.reg true [
mV 68 5, nK 69 68, fA 70 0 69, lD 71 1 70, fA 72 3 3, lD 73 1 72, cR 74 79 [t 71, t 73, (k 2)], o 75 (.bld [(.bo false), (.it .i64 0), (.it .i64 0)] [(0, 1, (t 74))]), sO 3 4 75] [72])
.ret)
(s [o 77 (b .eql (t 42) (k 5)), mV 76 77]
(.cond (t 76)
(s [mV 78 0, mV 79 5, lQ 80 7 3, cR 81 80 [t 78, t 79, t 80, (k 3)], sO 3 4 81]
.ret)
(s [o 83 (b .eql (t 42) (k 9)), mV 82 83]
(.cond (t 82)
(s [mV 84 0, mV 85 5, lQ 86 7 3, cR 87 80 [t 84, t 85, t 86, (k 6)], sO 3 4 87]
.ret)
(s [o 89 (b .eql (t 42) (k 6)), mV 88 89]
(.cond (t 88)
(s [mV 90 5, lQ 91 7 3, cR 92 81 [t 90, t 91], sO 3 4 92]
.ret)
(s [o 94 (b .eql (t 42) (k 10)), mV 93 94]
(.cond (t 93)
(s [mV 95 0, mV 96 5, lQ 97 7 3, cR 98 82 [t 95, t 96, t 97, (k 2)], sO 3 4 98]
.ret)
(s [o 100 (b .eql (t 42) (k 13)), mV 99 100]
(.cond (t 99)
(s [mV 101 0, mV 102 5, lQ 103 7 3, cR 104 82 [t 101, t 102, t 103, (k 5)], sO 3 4 104]
.ret)
(s [o 106 (b .eql (t 42) (k 11)), mV 105 106]
(.cond (t 105)
(s [mV 107 0, mV 108 5, lQ 109 7 3, cR 110 83 [t 107, (k 0), t 108, t 109, (k 4)], sO 3 4 110]
.ret)
(s [o 112 (b .eql (t 42) (k 12)), mV 111 112]
(.cond (t 111)
(s [mV 113 0, mV 114 5, lQ 115 7 3, cR 116 83 [t 113, (k 1), t 114, t 115, (k 7)], sO 3 4 116]
.ret)
.skip))))))))))))))))))))))))
(s [o 117 (.bld [(.bo false), (.it .i64 0), (.it .i64 0)] []), sO 3 4 117]
.ret))))))⟩
def c33 : Ev.Fn := d33.den
def p33 : Pol := { P0 .rw with loc := [3, 4], ord := [(6, [0, 1, 2, 4, 5, 3, 6, 7])], clr := [(1, [6]), (3, [11]), (5, [18]), (6, [25, 28]), (9, [41]), (14, [52]), (16, [62]), (18, [72])] }
theorem r33 : FnOK Tryz.prog mds 33 c33 := .read (pol := p33) (d := d33) Tryz.func33 (by kernel_rfl) (by kernel_rfl) rfl rfl (by kernel_rfl)

def d34 : DFn := ⟨[(.c .one)], [(.c (.sl [.one, .one, .one]))], .pure, [.tmp 2],
(s [mK 2 .ns]
(s [o 3 (.call false .pure 31 [(.k (.st [58, 109, 101, 116, 104, 111, 100])), (.k (.st [71, 69, 84]))]), o 4 (.call false .pure 31 [(.k (.st [58, 115, 99, 104, 101, 109, 101])), (.k (.st [104, 116, 116, 112, 115]))]), o 5 (.call false .pure 31 [(.k (.st [58, 97, 117, 116, 104, 111, 114, 105, 116, 121])), (.k (.st [97]))]), mV 6 0, o 7 (.call false .pure 31 [(.k (.st [58, 112, 97, 116, 104])), t 6]), o 8 (.bsl 3 (List.replicate 4 [(.st []), (.st []), (.it .i64 0)]) [(0, (t 3)), (1, (t 4)), (2, (t 5)), (3, (t 7))]), mV 2 8]
.ret))⟩
def c34 : Ev.Fn := d34.den
def p34 : Pol := { P0 .pure with heap := [8], own := [8], ord := [(1, [3, 0, 1, 2, 4, 5, 6])] }
theorem r34 : FnOK Tryz.prog mds 34 c34 := .read (pol := p34) (d := d34) Tryz.func34 (by kernel_rfl) (by kernel_rfl) rfl rfl (by kernel_rfl)

def d35 : DFn := ⟨[(.c .one), (.g [.one, .one, .one, .one, (.sl [.one, .one])])], [(.c .one)], .rw, [.tmp 4],
(s [o 3 (.box (t 1)), mK 4 .np]
(s [mV 5 0, lQ 6 5 3, o 7 (.hnd (.kmk 3) []), o 8 (.bld [.np, (.it .i64 0), (.st []), (.st []), (.st []), .ns, .nm, (.it .i64 0)] [(0, 1, (t 5)), (1, 5, (t 6)), (6, 1, (t 7))]), o 9 (.bxh (t 8)), mV 4 9]
.ret))⟩
def c35 : Ev.Fn := d35.den
def p35 : Pol := { P0 .rw with loc := [3], ord := [(0, [1, 0])] }
theorem r35 : FnOK Tryz.prog mds 35 c35 := .read (pol := p35) (d := d35) Tryz.func35 (by kernel_rfl) (by kernel_rfl) rfl rfl (by kernel_rfl)

def d36 : DFn := ⟨[(.c .one)], [], .rw, [],
(s [mV 4 0, cR 5 84 [t 4, (k 10), (k 8)]]
(s [mV 6 0, cR 7 84 [t 6, (k 12), (k 8)]]
(.seq (s [mV 8 0, nK 9 8, fA 10 0 9, lD 11 1 10, cR 12 26 [t 11], lN 13 false 12, mK 14 (.it .i64 0)]
(.blk 0 (.loop [0, 12, 13, 14] [3]
(s [o 15 (b .lss (t 14) (t 13))]
(.seq (.cond (t 15)
.skip
(.exit 0))
(.seq (.blk 1 (s [o 16 (.ias 9 (t 12) (t 14)), lQ 17 9 16, o 3 (.alc [(.it .i64 0), (.it .i64 0), (.it .i64 0), .ns, (.st []), (.bo false), (.bo false), (.it .i64 0), (.it .i64 0)]), sO 9 3 17]
(.seq (.reg true [
fA 18 5 3, lD 19 1 18, mV 20 19, w 21 20 (.fad 6 (t 3)), w 22 20 (.ld 1 false (t 21)), w 23 20 (.un .not (t 22)), o 24 (.pick (t 20) (t 23) (.k (.bo false))), mV 25 24, w 26 25 (.fad 1 (t 3)), w 27 25 (.ld 1 false (t 26)), w 28 25 (.mov (t 0)), w 29 25 (.nck (t 28)), w 30 25 (.fad 0 (t 29)), w 31 25 (.ld 1 false (t 30)), w 32 25 (.fad 0 (t 3)), w 33 25 (.ld 1 false (t 32)), ⟨some 34, some (25, true), [26], .call false .rw 29 [t 31, (k 1), t 33]⟩, w 35 25 (b .eql (t 27) (t 34)), o 36 (.pick (t 25) (t 35) (.k (.bo false)))] [18, 21, 26, 32])
(.cond (t 36)
(r [mV 37 0, lQ 38 9 3, cR 39 85 [t 37, t 38]])
.skip))))
(r [o 40 (b .add (t 14) (k 1)), mV 14 40])))))))
(s [mV 41 0, cR 42 84 [t 41, (k 13), (k 8)]]
(r [mV 43 0, cR 44 84 [t 43, (k 11), (k 8)]])))))⟩
def c36 : Ev.Fn := d36.den
def p36 : Pol := { P0 .rw with loc := [3], ord := [(2, [0, 1, 2, 3, 6, 4, 5])], clr := [(5, [18, 21, 26, 32])], mask := [(3, [0, 12, 13, 14], [3])] }
theorem r36 : FnOK Tryz.prog mds 36 c36 := .read (pol := p36) (d := d36) Tryz.func36 (by kernel_rfl) (by kernel_rfl) rfl rfl (by kernel_rfl)

def d37 : DFn := ⟨[(.c (.sl [.one, .one, .one])), (.c (.sl [.one, .one, .one]))], [(.c .one)], .pure, [.tmp 4],
(s [mK 4 (.bo false)]
(.seq (s [mV 6 0, lN 7 false 6, mV 8 1, lN 9 false 8, o 10 (b .neq (t 7) (t 9))]
(.cond (t 10)
(s [mK 4 (.bo false)]
.ret)
.skip))
(.seq (s [mK 5 (.it .i64 0)]
(.blk 0 (.loop [0, 1, 5] []
(.seq (s [mV 11 5, mV 12 0, lN 13 false 12, o 14 (b .lss (t 11) (t 13))]
(.cond (t 14)
.skip
(.exit 0)))
(.seq (.blk 1 (.seq (.reg true [
mV 17 0, mV 18 5, o 19 (.ias 3 (t 17) (t 18)), lQ 20 3 19, mV 21 1, mV 22 5, o 23 (.ias 3 (t 21) (t 22)), lQ 24 3 23, o 25 (.hnd (.eqa .neq [1, 1, 0]) [t 20, t 24])] [])
(.cond (t 25)
(s [mK 4 (.bo false)]
.ret)
.skip)))
(r [mV 15 5, o 16 (b .add (t 15) (k 1)), mV 5 16]))))))
(s [mK 4 (.bo true)]
.ret))))⟩
def c37 : Ev.Fn := d37.den
def p37 : Pol := { P0 .pure with mask := [(4, [0, 1, 5], [])] }
theorem r37 : FnOK Tryz.prog mds 37 c37 := .read (pol := p37) (d := d37) Tryz.func37 (by kernel_rfl) (by kernel_rfl) rfl rfl (by kernel_rfl)

def d38 : DFn := ⟨[(.c .one)], [(.c .one)], .rw, [.tmp 2],
(s [mK 2 (.it .i64 0)]
(s [mV 3 0, nK 4 3, fA 5 7 4, lD 6 1 5, mV 2 6]
.ret))⟩
def c38 : Ev.Fn := d38.den
def p38 : Pol := P0 .rw
theorem r38 : FnOK Tryz.prog mds 38 c38 := .read (pol := p38) (d := d38) Tryz.func38 (by kernel_rfl) (by kernel_rfl) rfl rfl (by kernel_rfl)

def d39 : DFn := ⟨[(.g [.one, .one, .one, .one, (.sl [.one, .one])])], [(.c .one)], .pure, [.tmp 2],
(s [o 1 (.box (t 0)), mK 2 (.bo false)]
(.seq (.reg false [
fA 3 4 1, lD 4 1 3, cP 5 40 [t 4], mV 6 5, w 7 6 (.fad 3 (t 1)), w 8 6 (.ld 1 false (t 7)), w 9 6 (.len true (t 8)), w 10 6 (b .leq (t 9) (k 4000)), o 11 (.pick (t 6) (t 10) (.k (.bo false))), mV 12 11, w 13 12 (.fad 1 (t 1)), w 14 12 (.ld 1 false (t 13)), w 15 12 (.len true (t 14)), w 16 12 (b .leq (t 15) (k 300)), o 17 (.pick (t 12) (t 16) (.k (.bo false))), mV 18 17, w 19 18 (.fad 2 (t 1)), w 20 18 (.ld 1 false (t 19)), w 21 18 (.len true (t 20)), w 22 18 (b .leq (t 21) (k 100)), o 23 (.pick (t 18) (t 22) (.k (.bo false))), mV 2 23] [3, 7, 13, 19])
.ret))⟩
def c39 : Ev.Fn := d39.den
def p39 : Pol := { P0 .pure with loc := [1], ord := [(0, [1, 0])], clr := [(1, [3, 7, 13, 19])] }
theorem r39 : FnOK Tryz.prog mds 39 c39 := .read (pol := p39) (d := d39) Tryz.func39 (by kernel_rfl) (by kernel_rfl) rfl rfl (by kernel_rfl)

def d40 : DFn := ⟨[(.c (.sl [.one, .one]))], [(.c .one)], .pure, [.tmp 2],
(.seq (.reg false [
mK 2 (.bo false)] [])
(s [mK 3 (.it .i64 0)]
(.seq (s [mK 4 (.it .i64 0)]
(.blk 0 (.loop [0, 3, 4] []
(.seq (s [mV 5 4, mV 6 0, lN 7 false 6, o 8 (b .lss (t 5) (t 7))]
(.cond (t 8)
.skip
(.exit 0)))
(.seq (.blk 1 (.seq (.reg true [
mV 11 3, mV 12 0, mV 13 4, o 14 (.ias 2 (t 12) (t 13)), fA 15 0 14, lD 16 1 15, lN 17 true 16, o 18 (b .add (t 11) (t 17)), mV 19 0, mV 20 4, o 21 (.ias 2 (t 19) (t 20)), fA 22 1 21, lD 23 1 22, lN 24 true 23, o 25 (b .add (t 18) (t 24)), o 26 (b .add (t 25) (k 1)), mV 3 26] [])
(s [mV 27 3, o 28 (b .gtr (t 27) (k 2000))]
(.cond (t 28)
(s [mK 2 (.bo false)]
.ret)
.skip))))
(r [mV 9 4, o 10 (b .add (t 9) (k 1)), mV 4 10]))))))
(s [mK 2 (.bo true)]
.ret))))⟩
def c40 : Ev.Fn := d40.den
def p40 : Pol := { P0 .pure with mask := [(3, [0, 3, 4], [])] }
theorem r40 : FnOK Tryz.prog mds 40 c40 := .read (pol := p40) (d := d40) Tryz.func40 (by kernel_rfl) (by kernel_rfl) rfl rfl (by kernel_rfl)

def d41 : DFn := ⟨[(.g [.one, .one, .one, .one, (.sl [.one, .one])]), (.g [.one, .one, .one, (.sl [.one, .one]), .one, .one, .one, .one, .one])], [(.c (.sl [.one, .one, .one])), (.c .one)], .pure, [.tmp 4, .tmp 5],
(s [o 2 (.box (t 0)), o 3 (.box (t 1)), mK 4 .ns, mK 5 (.st [])]
(.seq (.reg true [
fA 11 0 2, lD 12 1 11, fA 13 3 2, lD 14 1 13, mV 6 12, mV 7 14] [11, 13])
(.seq (.seq (.reg true [
fA 15 2 2, lD 16 1 15, o 17 (b .neq (t 16) (.k (.st []))), mV 18 17, w 19 18 (.ld 9 true (t 3)), w 21 18 (.fad 2 (t 2)), w 22 18 (.ld 1 false (t 21)), w 20 18 (.call false .pure 86 [t 19, (.k (.st [105, 102, 45, 110, 111, 110, 101, 45, 109, 97, 116, 99, 104]))]), w 23 18 (b .eql (t 20) (t 22)), o 24 (.pick (t 18) (t 23) (.k (.bo false)))] [15, 21])
(.cond (t 24)
(r [mK 6 (.it .i64 304), mK 7 (.st [])])
.skip))
(.seq (s [lQ 25 9 3, o 26 (.call false .pure 86 [t 25, (.k (.st [58, 109, 101, 116, 104, 111, 100]))]), o 27 (b .eql (t 26) (.k (.st [72, 69, 65, 68]))), mV 28 27, x 29 28 (.mov (t 6)), x 30 28 (b .eql (t 29) (k 204)), o 31 (.pick (t 28) (.k (.bo true)) (t 30))]
(.cond (t 31)
(r [mK 7 (.st [])])
.skip))
(s [mV 32 6, cP 33 87 [t 32], o 34 (.bld [(.st []), (.st [])] [(0, 1, (.k (.st [58, 115, 116, 97, 116, 117, 115]))), (1, 1, (t 33))]), o 35 (.bsl 2 [[(.st []), (.st [])]] [(0, (t 34))]), mV 8 35]
(.seq (.seq (.reg false [
fA 36 1 2, lD 37 1 36, o 38 (b .neq (t 37) (.k (.st [])))] [36])
(.cond (t 38)
(.reg false [
mV 39 8, fA 40 1 2, lD 41 1 40, o 42 (.bld [(.st []), (.st [])] [(0, 1, (.k (.st [99, 97, 99, 104, 101, 45, 99, 111, 110, 116, 114, 111, 108]))), (1, 1, (t 41))]), o 43 (.bsv [.one, .one] 2 [[(.st []), (.st [])]] [(0, (t 42))]), o 44 (.app 2 32 (t 39) (t 43)), mV 8 44] [40])
.skip))
(.seq (.seq (.reg false [
fA 45 2 2, lD 46 1 45, o 47 (b .neq (t 46) (.k (.st [])))] [45])
(.cond (t 47)
(.reg false [
mV 48 8, fA 49 2 2, lD 50 1 49, o 51 (.bld [(.st []), (.st [])] [(0, 1, (.k (.st [101, 116, 97, 103]))), (1, 1, (t 50))]), o 52 (.bsv [.one, .one] 2 [[(.st []), (.st [])]] [(0, (t 51))]), o 53 (.app 2 32 (t 48) (t 52)), mV 8 53] [49])
.skip))
(.seq (.reg false [
mV 54 8, fA 55 4 2, lD 56 1 55, o 57 (.app 2 32 (t 54) (t 56)), mV 8 57] [55])
(.seq (.reg false [
mK 9 .ns] [])
(.seq (s [mK 10 (.it .i64 0)]
(.blk 0 (.loop [7, 8, 9, 10] [2, 3]
(.seq (s [mV 58 10, mV 59 8, lN 60 false 59, o 61 (b .lss (t 58) (t 60))]
(.cond (t 61)
.skip
(.exit 0)))
(.seq (.blk 1 (r [mV 64 9, mV 65 8, mV 66 10, o 67 (.ias 2 (t 65) (t 66)), lQ 68 2 67, o 69 (.bld [(.st []), (.st []), (.it .i64 0)] [(0, 2, (t 68)), (2, 1, (k 1))]), o 70 (.bsv [.one, .one, .one] 3 [[(.st []), (.st []), (.it .i64 0)]] [(0, (t 69))]), o 71 (.app 3 40 (t 64) (t 70)), mV 9 71]))
(r [mV 62 10, o 63 (b .add (t 62) (k 1)), mV 10 63]))))))
(s [mV 72 9, mV 73 7, mV 4 72, mV 5 73]
.ret)))))))))))⟩
def c41 : Ev.Fn := d41.den
def p41 : Pol := { P0 .pure with loc := [2, 3], heap := [35, 44, 53, 57, 71], own := [35, 44, 53, 57, 71], ord := [(0, [2, 3, 0, 1]), (2, [0, 1, 2, 3, 4, 6, 7, 5, 8, 9])], clr := [(1, [11, 13]), (2, [15, 21]), (7, [36]), (8, [40]), (9, [45]), (10, [49]), (11, [55])], mask := [(14, [7, 8, 9, 10], [2, 3])] }
theorem r41 : FnOK Tryz.prog mds 41 c41 := .read (pol := p41) (d := d41) Tryz.func41 (by kernel_rfl) (by kernel_rfl) rfl rfl (by kernel_rfl)

def d42 : DFn := ⟨[(.c .one)], [(.c .one), (.c .one)], .rw, [.tmp 2, .tmp 3],
(s [mK 2 .np, mK 3 (.it .i64 0)]
(.seq (s [mV 4 0, o 5 (b .lss (t 4) (k 0)), mV 6 5, x 7 6 (.mov (t 0)), x 8 6 (b .gtr (t 7) (k 16777216)), o 9 (.pick (t 6) (.k (.bo true)) (t 8))]
(.cond (t 9)
(s [mK 2 .np, mK 3 (.it .i64 1)]
.ret)
.skip))
(s [mV 10 0, o 11 (.bld [.ns, (.it .i64 0), (.it .i64 0)] [(2, 1, (t 10))]), o 12 (.bxh (t 11)), mV 2 12, mK 3 (.it .i64 0)]
.ret)))⟩
def c42 : Ev.Fn := d42.den
def p42 : Pol := P0 .rw
theorem r42 : FnOK Tryz.prog mds 42 c42 := .read (pol := p42) (d := d42) Tryz.func42 (by kernel_rfl) (by kernel_rfl) rfl rfl (by kernel_rfl)

def d43 : DFn := ⟨[(.c .one), (.c .one), (.c .one)], [(.c .one)], .pure, [.tmp 6],
(s [mK 6 (.bo false)]
(s [mV 7 0, mV 8 1, o 9 (b .geq (t 7) (t 8)), mV 10 9, w 11 10 (.mov (t 0)), w 12 10 (.mov (t 2)), w 13 10 (b .leq (t 11) (t 12)), o 14 (.pick (t 10) (t 13) (.k (.bo false))), mV 6 14]
.ret))⟩
def c43 : Ev.Fn := d43.den
def p43 : Pol := P0 .pure
theorem r43 : FnOK Tryz.prog mds 43 c43 := .read (pol := p43) (d := d43) Tryz.func43 (by kernel_rfl) (by kernel_rfl) rfl rfl (by kernel_rfl)

def d44 : DFn := ⟨[], [(.g [.one, .one, .one, .one, .one])], .pure, [.cell 0 5 true],
(s [o 0 (.alc [(.it .i64 0), (.it .i64 0), (.it .i64 0), (.it .i64 0), (.it .i64 0)])]
(s [o 1 (.bld [(.it .i64 0), (.it .i64 0), (.it .i64 0), (.it .i64 0), (.it .i64 0)] [(0, 1, (k 4096)), (1, 1, (k 2147483647)), (2, 1, (k 65535)), (3, 1, (k 16384)), (4, 1, (k 2147483647))]), sO 5 0 1]
.ret))⟩
def c44 : Ev.Fn := d44.den
def p44 : Pol := { P0 .pure with loc := [0] }
theorem r44 : FnOK Tryz.prog mds 44 c44 := .read (pol := p44) (d := d44) Tryz.func44 (by kernel_rfl) (by kernel_rfl) rfl rfl (by kernel_rfl)

def d45 : DFn := ⟨[(.c .one), (.c .one)], [(.c .one), (.c .one)], .rw, [.tmp 4, .tmp 5],
(s [mK 4 .np, mK 5 (.it .i64 0)]
(.seq (s [mV 7 0, cP 8 88 [t 7], o 9 (.un .not (t 8))]
(.cond (t 9)
(s [mK 4 .np, mK 5 (.it .i64 1)]
.ret)
.skip))
(s [mV 10 0, o 11 (.bld [(.it .i64 0), (.st []), .ns, (.it .i64 0), (.it .i64 0), (.it .i64 0)] [(0, 1, (t 10))]), o 12 (.bxh (t 11)), mV 6 12]
(.seq (s [mV 13 1]
(.cond (t 13)
(r [mV 14 6, nK 15 14, fA 16 1 15, n (.sto 1 (t 16) (.k (.st [80, 82, 73, 32, 42, 32, 72, 84, 84, 80, 47, 50, 46, 48, 13, 10, 13, 10, 83, 77, 13, 10, 13, 10])))])
.skip))
(s [mV 17 6, mV 4 17, mK 5 (.it .i64 0)]
.ret)))))⟩
def c45 : Ev.Fn := d45.den
def p45 : Pol := P0 .rw
theorem r45 : FnOK Tryz.prog mds 45 c45 := .read (pol := p45) (d := d45) Tryz.func45 (by kernel_rfl) (by kernel_rfl) rfl rfl (by kernel_rfl)

def d46 : DFn := ⟨[(.c .one), (.c .one)], [(.c .one), (.c .one)], .rw, [.tmp 4, .tmp 5],
(s [mK 4 .np, mK 5 (.it .i64 0)]
(.seq (s [mV 8 1, o 9 (b .lss (t 8) (k 0)), mV 10 9, x 11 10 (.mov (t 1)), x 12 10 (b .gtr (t 11) (k 2147483647)), o 13 (.pick (t 10) (.k (.bo true)) (t 12))]
(.cond (t 13)
(s [mK 4 .np, mK 5 (.it .i64 1)]
.ret)
.skip))
(s [mV 15 0, cR 16 89 [t 15], mV 14 16, eX 17 14 0, eX 18 14 1, mV 6 17, mV 7 18]
(.seq (s [mV 19 7, o 20 (b .neq (t 19) (k 0))]
(.cond (t 20)
(s [mV 21 7, mK 4 .np, mV 5 21]
.ret)
.skip))
(s [mV 22 6, mV 23 0, mV 24 1, o 25 (.bld [.np, (.it .i64 0), (.it .i64 0), (.bo false)] [(0, 1, (t 22)), (1, 1, (t 23)), (2, 1, (t 24))]), o 26 (.bxh (t 25)), mV 4 26, mK 5 (.it .i64 0)]
.ret)))))⟩
def c46 : Ev.Fn := d46.den
def p46 : Pol := P0 .rw
theorem r46 : FnOK Tryz.prog mds 46 c46 := .read (pol := p46) (d := d46) Tryz.func46 (by kernel_rfl) (by kernel_rfl) rfl rfl (by kernel_rfl)

def d47 : DFn := ⟨[(.c .one)], [(.c .one), (.c .one)], .rw, [.tmp 2, .tmp 3],
(s [mK 2 .np, mK 3 (.it .i64 0)]
(s [mV 7 0, cR 8 89 [t 7], mV 6 8, eX 9 6 0, eX 10 6 1, mV 4 9, mV 5 10]
(.seq (s [mV 11 5, o 12 (b .neq (t 11) (k 0))]
(.cond (t 12)
(s [mV 13 5, mK 2 .np, mV 3 13]
.ret)
.skip))
(s [mV 14 4, o 15 (.bld [.np, (.bo false), (.it .i64 0)] [(0, 1, (t 14)), (1, 1, (.k (.bo true)))]), o 16 (.bxh (t 15)), mV 2 16, mK 3 (.it .i64 0)]
.ret))))⟩
def c47 : Ev.Fn := d47.den
def p47 : Pol := P0 .rw
theorem r47 : FnOK Tryz.prog mds 47 c47 := .read (pol := p47) (d := d47) Tryz.func47 (by kernel_rfl) (by kernel_rfl) rfl rfl (by kernel_rfl)

def d48 : DFn := ⟨[(.c .one)], [(.g [.one]), (.c .one)], .pure, [.cell 2 1 true, .tmp 3],
(s [o 2 (.alc [(.it .i64 0)]), mK 3 (.it .i64 0)]
(.seq (s [mV 4 0, cP 5 90 [t 4], o 6 (.un .not (t 5))]
(.cond (t 6)
(s [o 7 (.bld [(.it .i64 0)] []), sO 1 2 7, mK 3 (.it .i64 1)]
.ret)
.skip))
(s [mV 8 0, o 9 (.bld [(.it .i64 0)] [(0, 1, (t 8))]), sO 1 2 9, mK 3 (.it .i64 0)]
.ret)))⟩
def c48 : Ev.Fn := d48.den
def p48 : Pol := { P0 .pure with loc := [2], ord := [(0, [1, 0])] }
theorem r48 : FnOK Tryz.prog mds 48 c48 := .read (pol := p48) (d := d48) Tryz.func48 (by kernel_rfl) (by kernel_rfl) rfl rfl (by kernel_rfl)

def d49 : DFn := ⟨[(.c (.sl [.one])), (.g [.one, .one, .one, (.sl [.one])])], [(.c (.sl [.one]))], .pure, [.tmp 4],
(s [o 3 (.box (t 1)), mK 4 .ns]
(.seq (s [lQ 8 4 3, cP 9 91 [t 8], o 10 (.un .not (t 9))]
(.cond (t 10)
(s [mV 11 0, o 12 (.app 1 1 (.k .ns) (t 11)), mV 4 12]
.ret)
.skip))
(.seq (.reg true [
fA 13 3 3, lD 14 1 13, lN 15 false 14, fA 16 2 3, lD 17 1 16, mV 5 15, mV 6 17] [13, 16])
(s [mV 18 0, lN 19 false 18, o 20 (b .add (t 19) (k 9)), mV 21 5, o 22 (b .add (t 20) (t 21)), o 23 (.mks 1 1 [(.it .u8 0)] (k 0) (t 22)), mV 7 23]
(s [mV 24 7, mV 25 0, o 26 (.app 1 1 (t 24) (t 25)), mV 7 26]
(.seq (.reg false [
mV 27 7, mV 28 5, o 29 (b .shr (t 28) (.k (.it .u64 16))), cV 30 .u8 29, mV 31 5, o 32 (b .shr (t 31) (.k (.it .u64 8))), cV 33 .u8 32, mV 34 5, cV 35 .u8 34, fA 36 0 3, lD 37 1 36, cV 38 .u8 37, fA 39 1 3, lD 40 1 39, cV 41 .u8 40, mV 42 6, o 43 (b .shr (t 42) (.k (.it .u64 24))), cV 44 .u8 43, mV 45 6, o 46 (b .shr (t 45) (.k (.it .u64 16))), cV 47 .u8 46, mV 48 6, o 49 (b .shr (t 48) (.k (.it .u64 8))), cV 50 .u8 49, mV 51 6, cV 52 .u8 51, o 53 (.bsv [.one] 1 (List.replicate 9 [(.it .u8 0)]) [(0, (t 30)), (1, (t 33)), (2, (t 35)), (3, (t 38)), (4, (t 41)), (5, (t 44)), (6, (t 47)), (7, (t 50)), (8, (t 52))]), o 54 (.app 1 1 (t 27) (t 53)), mV 7 54] [36, 39])
(.seq (.reg false [
mV 55 7, fA 56 3 3, lD 57 1 56, o 58 (.app 1 1 (t 55) (t 57)), mV 4 58] [56])
.ret)))))))⟩
def c49 : Ev.Fn := d49.den
def p49 : Pol := { P0 .pure with loc := [3], heap := [26, 54], own := [26, 54], ord := [(0, [1, 0])], clr := [(3, [13, 16]), (6, [36, 39]), (7, [56])] }
theorem r49 : FnOK Tryz.prog mds 49 c49 := .read (pol := p49) (d := d49) Tryz.func49 (by kernel_rfl) (by kernel_rfl) rfl rfl (by kernel_rfl)

def d50 : DFn := ⟨[(.c (.sl [.one, .one]))], [(.c (.sl [.one]))], .pure, [.tmp 2],
(.seq (.reg false [
mK 2 .ns] [])
(s [mK 3 .ns]
(.seq (s [mV 7 0, lN 8 false 7, mK 9 (.it .i64 0)]
(.blk 0 (.loop [3, 7, 8, 9] [5]
(s [o 10 (b .lss (t 9) (t 8))]
(.seq (.cond (t 10)
.skip
(.exit 0))
(.seq (.blk 1 (s [o 11 (.ias 2 (t 7) (t 9)), lQ 12 2 11, o 5 (.alc [(.it .i64 0), (.it .i64 0)]), sO 2 5 12]
(.seq (.reg false [
fA 13 1 5, lD 14 1 13, mV 6 14] [13])
(.reg false [
mV 15 3, fA 16 0 5, lD 17 1 16, o 18 (b .shr (t 17) (.k (.it .u64 8))), cV 19 .u8 18, fA 20 0 5, lD 21 1 20, cV 22 .u8 21, mV 23 6, o 24 (b .shr (t 23) (.k (.it .u64 24))), cV 25 .u8 24, mV 26 6, o 27 (b .shr (t 26) (.k (.it .u64 16))), cV 28 .u8 27, mV 29 6, o 30 (b .shr (t 29) (.k (.it .u64 8))), cV 31 .u8 30, mV 32 6, cV 33 .u8 32, o 34 (.bsv [.one] 1 (List.replicate 6 [(.it .u8 0)]) [(0, (t 19)), (1, (t 22)), (2, (t 25)), (3, (t 28)), (4, (t 31)), (5, (t 33))]), o 35 (.app 1 1 (t 15) (t 34)), mV 3 35] [16, 20]))))
(.reg false [
o 36 (b .add (t 9) (k 1)), mV 9 36] [])))))))
(.seq (r [mV 37 3, mV 2 37])
.ret))))⟩
def c50 : Ev.Fn := d50.den
def p50 : Pol := { P0 .pure with loc := [5], heap := [35], own := [35], clr := [(5, [13]), (6, [16, 20])], mask := [(3, [3, 7, 8, 9], [5])] }
theorem r50 : FnOK Tryz.prog mds 50 c50 := .read (pol := p50) (d := d50) Tryz.func50 (by kernel_rfl) (by kernel_rfl) rfl rfl (by kernel_rfl)

def d51 : DFn := ⟨[(.c .one), (.g [.one, .one, .one, (.sl [.one])])], [(.c .one)], .rw, [.tmp 4],
(s [o 3 (.box (t 1)), mK 4 (.bo false)]
(.seq (.seq (.reg false [
fA 5 0 3, lD 6 1 5] [5])
(.blk 0 (.seq (.reg false [
o 8 (b .eql (t 6) (k 1)), mV 7 8] [])
(.cond (t 7)
(.seq (.reg false [
mV 9 0, fA 10 1 3, lD 11 1 10, cR 12 92 [t 9, t 11], mV 4 12] [10])
.ret)
(.seq (.seq (.reg false [
o 14 (b .eql (t 6) (k 2)), mV 13 14] [])
(.cond (t 13)
.skip
(s [o 15 (b .eql (t 6) (k 3)), mV 13 15]
(.cond (t 13)
.skip
(r [o 16 (b .eql (t 6) (k 4)), mV 13 16])))))
(.cond (t 13)
(s [mV 17 0, lQ 18 4 3, cR 19 93 [t 17, t 18], mV 4 19]
.ret)
(.seq (s [o 21 (b .eql (t 6) (k 5)), mV 20 21]
(.cond (t 20)
.skip
(s [o 22 (b .eql (t 6) (k 6)), mV 20 22]
(.cond (t 20)
.skip
(r [o 23 (b .eql (t 6) (k 7)), mV 20 23])))))
(.cond (t 20)
(s [mV 24 0, lQ 25 4 3, cR 26 94 [t 24, t 25], mV 4 26]
.ret)
(s [o 28 (b .eql (t 6) (k 8)), mV 27 28]
(.cond (t 27)
(.seq (.reg true [
mV 29 0, mV 30 0, nK 31 30, fA 32 24 31, lD 33 1 32, fA 34 2 3, lD 35 1 34, o 36 (.mnx true (t 33) (t 35)), o 37 (.mnx false (t 36) (k 2147483647)), nK 38 29, fA 39 24 38, sO 1 39 37] [34])
(s [mK 4 (.bo true)]
.ret))
.skip))))))))))
(s [mK 4 (.bo false)]
.ret)))⟩
def c51 : Ev.Fn := d51.den
def p51 : Pol := { P0 .rw with loc := [3], heap := [37], own := [37], ord := [(0, [1, 0])], clr := [(1, [5]), (3, [10]), (13, [34])] }
theorem r51 : FnOK Tryz.prog mds 51 c51 := .read (pol := p51) (d := d51) Tryz.func51 (by kernel_rfl) (by kernel_rfl) rfl rfl (by kernel_rfl)

def d52 : DFn := ⟨[(.c .one)], [], .rw, [],
(s [o 1 (.bxh (t 0))]
(.seq (s [lD 6 1 1, nK 7 6, fA 8 7 7, lQ 9 8 8, mK 10 (.it .i64 0)]
(.blk 0 (.loop [1, 9, 10] []
(s [o 11 (b .lss (t 10) (k 8))]
(.seq (.cond (t 11)
.skip
(.exit 0))
(.seq (.blk 1 (s [mV 12 10, o 13 (.ixa 8 1 false (t 9) (t 10)), mV 2 12, mV 3 13]
(s [mV 14 3, o 15 (.bin .ptr .neq (t 14) (.k .np)), mV 16 15, w 17 16 (.mov (t 3)), w 18 16 (.call false .rw 95 [t 17]), o 19 (.pick (t 16) (t 18) (.k (.bo false)))]
(.cond (t 19)
(r [lD 20 1 1, mV 21 2, cR 22 96 [t 20, t 21]])
.skip))))
(r [o 23 (b .add (t 10) (k 1)), mV 10 23])))))))
(.seq (s [lD 24 1 1, nK 25 24, fA 26 15 25, lQ 27 8 26, mK 28 (.it .i64 0)]
(.blk 2 (.loop [1, 27, 28] []
(s [o 29 (b .lss (t 28) (k 8))]
(.seq (.cond (t 29)
.skip
(.exit 2))
(.seq (.blk 3 (s [mV 30 28, o 31 (.ixa 8 1 false (t 27) (t 28)), mV 4 30, mV 5 31]
(s [mV 32 5, o 33 (.bin .ptr .neq (t 32) (.k .np)), mV 34 33, w 35 34 (.mov (t 5)), w 36 34 (.nck (t 35)), w 37 34 (.fad 0 (t 36)), w 38 34 (.ld 1 false (t 37)), w 39 34 (.call false .rw 95 [t 38]), o 40 (.pick (t 34) (t 39) (.k (.bo false)))]
(.cond (t 40)
(r [lD 41 1 1, mV 42 4, cR 43 97 [t 41, t 42, (.k (.it .i64 (-1)))]])
.skip))))
(r [o 44 (b .add (t 28) (k 1)), mV 28 44])))))))
(s [lD 45 1 1, o 46 (.mkf 99 [] [t 1]), cR 47 98 [t 45, t 46]]
(s [lD 48 1 1, o 49 (.mkf 101 [] [t 1]), cR 50 98 [t 48, t 49]]
(r [lD 51 1 1, o 52 (.mkf 103 [] [t 1]), cR 53 98 [t 51, t 52]]))))))⟩
def c52 : Ev.Fn := d52.den
def p52 : Pol := { P0 .rw with mask := [(2, [1, 9, 10], []), (8, [1, 27, 28], [])], fns := [99, 101, 103] }
theorem r52 : FnOK Tryz.prog mds 52 c52 := .read (pol := p52) (d := d52) Tryz.func52 (by kernel_rfl) (by kernel_rfl) rfl rfl (by kernel_rfl)

def d53 : DFn := ⟨[(.c .one), (.c .one)], [(.c .one)], .rw, [.tmp 4],
(s [mK 4 .np]
(.seq (s [mV 5 1, o 6 (b .lss (t 5) (k 0)), mV 7 6, x 8 7 (.mov (t 1)), x 9 7 (b .geq (t 8) (k 8)), o 10 (.pick (t 7) (.k (.bo true)) (t 9))]
(.cond (t 10)
(s [mK 4 .np]
.ret)
.skip))
(s [mV 11 0, mV 12 1, nK 13 11, fA 14 7 13, o 15 (.iaa 8 1 (t 14) (t 12)), lD 16 1 15, mV 4 16]
.ret)))⟩
def c53 : Ev.Fn := d53.den
def p53 : Pol := P0 .rw
theorem r53 : FnOK Tryz.prog mds 53 c53 := .read (pol := p53) (d := d53) Tryz.func53 (by kernel_rfl) (by kernel_rfl) rfl rfl (by kernel_rfl)

def d54 : DFn := ⟨[(.c .one), (.c .one)], [(.c .one)], .rw, [.tmp 4],
(s [mK 4 .np]
(.seq (s [mV 5 1, o 6 (b .lss (t 5) (k 0)), mV 7 6, x 8 7 (.mov (t 1)), x 9 7 (b .geq (t 8) (k 8)), o 10 (.pick (t 7) (.k (.bo true)) (t 9))]
(.cond (t 10)
(s [mK 4 .np]
.ret)
.skip))
(s [mV 11 0, mV 12 1, nK 13 11, fA 14 15 13, o 15 (.iaa 8 1 (t 14) (t 12)), lD 16 1 15, mV 4 16]
.ret)))⟩
def c54 : Ev.Fn := d54.den
def p54 : Pol := P0 .rw
theorem r54 : FnOK Tryz.prog mds 54 c54 := .read (pol := p54) (d := d54) Tryz.func54 (by kernel_rfl) (by kernel_rfl) rfl rfl (by kernel_rfl)

def d55 : DFn := ⟨[(.c (.sl [.one, .one, .one]))], [(.c .one)], .pure, [.tmp 2],
(s [mK 2 (.bo false)]
(s [mK 3 (.it .i64 0)]
(.seq (s [mV 6 0, lN 7 false 6, mK 8 (.it .i64 0)]
(.blk 0 (.loop [3, 6, 7, 8] [5]
(s [o 9 (b .lss (t 8) (t 7))]
(.seq (.cond (t 9)
.skip
(.exit 0))
(.seq (.blk 1 (s [o 10 (.ias 3 (t 6) (t 8)), lQ 11 3 10, o 5 (.alc [(.st []), (.st []), (.it .i64 0)]), sO 3 5 11]
(.seq (.reg false [
mV 12 3, fA 13 0 5, lQ 14 2 13, cP 15 105 [t 14], o 16 (b .add (t 12) (t 15)), mV 3 16] [13])
(.seq (.reg false [
fA 17 0 5, fA 18 0 17, lD 19 1 18, lN 20 true 19, o 21 (b .gtr (t 20) (k 65536)), mV 22 21, x 23 22 (.fad 0 (t 5)), x 24 22 (.fad 1 (t 23)), x 25 22 (.ld 1 false (t 24)), x 26 22 (.len true (t 25)), x 27 22 (b .gtr (t 26) (k 65536)), o 28 (.pick (t 22) (.k (.bo true)) (t 27)), mV 29 28, x 30 29 (.mov (t 3)), x 31 29 (b .gtr (t 30) (k 65536)), o 32 (.pick (t 29) (.k (.bo true)) (t 31))] [17, 18, 23, 24])
(.cond (t 32)
(.seq (.reg false [
mK 2 (.bo false)] [])
.ret)
.skip)))))
(r [o 33 (b .add (t 8) (k 1)), mV 8 33])))))))
(s [mK 2 (.bo true)]
.ret))))⟩
def c55 : Ev.Fn := d55.den
def p55 : Pol := { P0 .pure with loc := [5], clr := [(5, [13]), (6, [17, 18, 23, 24])], mask := [(3, [3, 6, 7, 8], [5])] }
theorem r55 : FnOK Tryz.prog mds 55 c55 := .read (pol := p55) (d := d55) Tryz.func55 (by kernel_rfl) (by kernel_rfl) rfl rfl (by kernel_rfl)

def d56 : DFn := ⟨[(.c .one), (.c .one)], [(.c .one)], .rw, [.tmp 4],
(s [mK 4 .np]
(s [mV 6 1, o 7 (.bld [(.it .i64 0), (.it .i64 0), (.it .i64 0), (.it .i64 0), (.bo false), (.bo false)] [(0, 1, (t 6)), (1, 1, (k 0))]), o 8 (.bxh (t 7)), mV 5 8]
(s [mV 10 5, mV 11 0, nK 12 11, fA 13 4 12, fA 14 2 13, lD 15 1 14, o 16 (.call true .pure 48 [t 15]), mV 9 16, eX 17 9 0, eX 18 9 1, nK 19 10, fA 20 2 19, sO 1 20 17]
(s [mV 22 5, mV 23 0, nK 24 23, fA 25 1 24, fA 26 1 25, lD 27 1 26, o 28 (.call true .pure 48 [t 27]), mV 21 28, eX 29 21 0, eX 30 21 1, nK 31 22, fA 32 3 31, sO 1 32 29]
(s [mV 33 0, mV 34 0, nK 35 34, fA 36 15 35, lD 37 1 36, mV 38 5, o 39 (.bsl 1 [[.np]] [(0, (t 38))]), o 40 (.app 1 8 (t 37) (t 39)), nK 41 33, fA 42 15 41, sO 1 42 40]
(s [mV 43 5, mV 4 43]
.ret))))))⟩
def c56 : Ev.Fn := d56.den
def p56 : Pol := { P0 .rw with heap := [16, 28, 40, 39], own := [16, 28, 40] }
theorem r56 : FnOK Tryz.prog mds 56 c56 := .read (pol := p56) (d := d56) Tryz.func56 (by kernel_rfl) (by kernel_rfl) rfl rfl (by kernel_rfl)

def d57 : DFn := ⟨[(.c .one), (.c .one), (.c (.sl [.one, .one, .one])), (.c .one)], [], .rw, [],
(s [mV 11 0, nK 12 11, fA 13 11 12, lD 14 1 13, mV 15 2, cR 16 106 [t 14, t 15], mV 8 16]
(s [mV 17 1, nK 18 17, fA 19 0 18, lD 20 1 19, o 21 (.bld [(.it .i64 0), (.it .i64 0), (.it .i64 0), .ns] [(0, 1, (k 1)), (2, 1, (t 20))]), o 9 (.alc [(.it .i64 0), (.it .i64 0), (.it .i64 0), .ns]), sO 4 9 21]
(.seq (s [mV 22 3]
(.cond (t 22)
(.reg false [
fA 23 1 9, n (.sto 1 (t 23) (k 1))] [23])
.skip))
(.seq (.blk 0 (.loop [0, 1, 3, 8, 9] []
(.blk 1 (s [mV 24 8, lN 25 false 24, mV 26 0, nK 27 26, fA 28 4 27, fA 29 3 28, lD 30 1 29, o 31 (.mnx false (t 25) (t 30)), mV 10 31]
(.seq (.reg true [
mV 32 8, mV 33 10, o 34 (.slc false 1 (t 32) none (some (t 33))), mV 35 8, mV 36 10, o 37 (.slc false 1 (t 35) (some (t 36)) none), fA 38 3 9, ⟨none, none, [35], .sto 1 (t 38) (t 34)⟩, mV 8 37] [38])
(.seq (s [mV 39 8, lN 40 false 39, o 41 (b .eql (t 40) (k 0))]
(.cond (t 41)
(.reg false [
fA 42 1 9, lD 43 1 42, o 44 (b .or (t 43) (k 4)), fA 45 1 9, sO 1 45 44] [42, 45])
.skip))
(.seq (.reg true [
mV 46 0, mV 47 0, nK 48 47, fA 49 12 48, lD 50 1 49, lQ 51 4 9, o 52 (.call true .pure 49 [t 50, t 51]), nK 53 46, fA 54 12 53, sO 1 54 52] [])
(.seq (s [mV 55 8, lN 56 false 55, o 57 (b .eql (t 56) (k 0))]
(.cond (t 57)
(.exit 0)
.skip))
(r [mV 58 1, nK 59 58, fA 60 0 59, lD 61 1 60, o 62 (.bld [(.it .i64 0), (.it .i64 0), (.it .i64 0), .ns] [(0, 1, (k 9)), (2, 1, (t 61))]), sO 4 9 62])))))))))
(s [mV 63 1, nK 64 63, fA 65 5 64, n (.sto 1 (t 65) (.k (.bo true)))]
(r [mV 66 0, mV 67 1, mV 68 3, cP 69 107 [t 68], o 70 (b .add (k 10) (t 69)), cR 71 65 [t 66, t 67, t 70]]))))))⟩
def c57 : Ev.Fn := d57.den
def p57 : Pol := { P0 .rw with loc := [9], heap := [52], own := [52], clr := [(3, [23]), (5, [38]), (7, [42, 45])], mask := [(4, [0, 1, 3, 8, 9], [])] }
theorem r57 : FnOK Tryz.prog mds 57 c57 := .read (pol := p57) (d := d57) Tryz.func57 (by kernel_rfl) (by kernel_rfl) rfl rfl (by kernel_rfl)

def d58 : DFn := ⟨[(.c .one), (.c (.sl [.one]))], [(.c (.sl [.one, .one, .one, (.sl [.one])])), (.g [.one, .one, .one])], .rw, [.tmp 4, .cell 5 3 true],
(s [mK 4 .ns, o 5 (.alc [(.it .i64 0), (.it .i64 0), (.it .i64 0)])]
(.seq (s [mV 9 0, nK 10 9, fA 11 3 10, lQ 12 3 11, o 13 (.bld [(.it .i64 0), (.it .i64 0), (.it .i64 0)] []), o 14 (.bin (.ag [0, 0, 0]) .neq (t 12) (t 13))]
(.cond (t 14)
(.seq (.reg true [
mV 15 0, nK 16 15, fA 17 3 16, lQ 18 3 17, mK 4 .ns, sO 3 5 18] [])
.ret)
.skip))
(s [mV 19 0, mV 20 1, cR 21 108 [t 19, t 20], mV 1 21]
(s [mV 22 0, mV 23 0, nK 24 23, fA 25 2 24, lD 26 1 25, o 27 (.app 1 1 (.k .ns) (t 26)), mV 28 1, o 29 (.app 1 1 (t 27) (t 28)), nK 30 22, fA 31 2 30, sO 1 31 29]
(s [mK 6 .ns]
(.seq (.blk 0 (.loop [0, 5, 6] [7]
(.seq (s [mV 32 0, nK 33 32, fA 34 3 33, lQ 35 3 34, o 36 (.bld [(.it .i64 0), (.it .i64 0), (.it .i64 0)] []), o 37 (.bin (.ag [0, 0, 0]) .eql (t 35) (t 36))]
(.cond (t 37)
.skip
(.exit 0)))
(.blk 1 (s [mV 39 0, cR 40 109 [t 39], mV 38 40, eX 41 38 0, eX 42 38 1, o 7 (.alc [(.it .i64 0), (.it .i64 0), (.it .i64 0), .ns]), sO 4 7 41, mV 8 42]
(.seq (s [mV 43 8, o 44 (.un .not (t 43))]
(.cond (t 44)
(.exit 0)
.skip))
(r [mV 45 6, lQ 46 4 7, o 47 (.bsl 4 [[(.it .i64 0), (.it .i64 0), (.it .i64 0), .ns]] [(0, (t 46))]), o 48 (.app 4 48 (t 45) (t 47)), mV 6 48])))))))
(.seq (.reg true [
mV 49 6, mV 50 0, nK 51 50, fA 52 3 51, lQ 53 3 52, mV 4 49, sO 3 5 53] [])
.ret)))))))⟩
def c58 : Ev.Fn := d58.den
def p58 : Pol := { P0 .rw with loc := [5, 7], heap := [27, 29, 48, 47], own := [27, 29, 48], ord := [(4, [0, 1, 2, 3, 4, 6, 5, 7, 8, 9, 10]), (7, [0, 5, 1, 2, 3, 4, 6, 7])], mask := [(6, [0, 5, 6], [7])] }
theorem r58 : FnOK Tryz.prog mds 58 c58 := .read (pol := p58) (d := d58) Tryz.func58 (by kernel_rfl) (by kernel_rfl) rfl rfl (by kernel_rfl)

def d59 : DFn := ⟨[(.c .one), (.g [.one, .one, .one, (.sl [.one])])], [], .rw, [],
(s [o 3 (.box (t 1))]
(.seq (.seq (.reg false [
mV 7 0, nK 8 7, fA 9 22 8, lD 10 1 9, o 11 (.un .not (t 10)), mV 12 11, w 13 12 (.fad 0 (t 3)), w 14 12 (.ld 1 false (t 13)), w 15 12 (b .neq (t 14) (k 4)), w 16 12 (.mov (t 15)), x 17 16 (.fad 1 (t 3)), x 18 16 (.ld 1 false (t 17)), x 19 16 (b .and (t 18) (k 1)), x 20 16 (b .neq (t 19) (k 0)), w 21 12 (.pick (t 16) (.k (.bo true)) (t 20)), o 22 (.pick (t 12) (t 21) (.k (.bo false)))] [13, 17])
(.cond (t 22)
(.seq (.reg false [
mV 23 0, cR 24 60 [t 23, (k 1)]] [])
.ret)
.skip))
(s [mV 25 0, nK 26 25, fA 27 22 26, n (.sto 1 (t 27) (.k (.bo true)))]
(s [mV 28 0, nK 29 28, fA 30 19 29, fA 31 0 30, lD 32 1 31, mV 4 32]
(.seq (.seq (.reg false [
mV 33 4, o 34 (b .neq (t 33) (k 0)), fA 35 0 3, lD 36 1 35, o 37 (b .eql (t 36) (k 9)), o 38 (.bin .bo .neq (t 34) (t 37)), mV 39 38, x 40 39 (.mov (t 4)), x 41 39 (b .neq (t 40) (k 0)), x 42 39 (.mov (t 41)), w 43 42 (.fad 2 (t 3)), w 44 42 (.ld 1 false (t 43)), w 45 42 (.mov (t 4)), w 46 42 (b .neq (t 44) (t 45)), x 47 39 (.pick (t 42) (t 46) (.k (.bo false))), o 48 (.pick (t 39) (.k (.bo true)) (t 47))] [35, 43])
(.cond (t 48)
(.seq (.reg false [
mV 49 0, cR 50 60 [t 49, (k 1)]] [])
.ret)
.skip))
(s [lQ 52 4 3, cP 53 110 [t 52], mV 51 53, eX 54 51 0, eX 55 51 1, o 5 (.alc [(.it .i64 0), (.it .i64 0), (.bo false), (.bo false), (.bo false), .ns, (.it .i64 0), (.it .i64 0), (.it .i64 0), (.it .i64 0), .ns]), o 6 (.alc [(.it .i64 0), (.it .i64 0), (.it .i64 0)]), sO 11 5 54, sO 3 6 55]
(.seq (.reg false [
fA 56 0 6, lD 57 1 56] [56])
(.blk 0 (.seq (.reg false [
o 62 (b .eql (t 57) (k 2)), mV 61 62] [])
(.cond (t 61)
(.reg false [
mV 63 0, fA 64 1 6, lD 65 1 64, cR 66 60 [t 63, t 65]] [64])
(s [o 68 (b .eql (t 57) (k 1)), mV 67 68]
(.cond (t 67)
(.reg false [
mV 69 0, lQ 70 4 3, lQ 71 3 6, cR 72 111 [t 69, t 70, t 71]] [])
(r [mV 58 0, lQ 59 11 5, cR 60 112 [t 58, t 59]])))))))))))))⟩
def c59 : Ev.Fn := d59.den
def p59 : Pol := { P0 .rw with loc := [3, 5, 6], ord := [(7, [0, 5, 6, 1, 2, 3, 4, 7, 8])], clr := [(1, [13, 17]), (5, [35, 43]), (8, [56]), (11, [64])] }
theorem r59 : FnOK Tryz.prog mds 59 c59 := .read (pol := p59) (d := d59) Tryz.func59 (by kernel_rfl) (by kernel_rfl) rfl rfl (by kernel_rfl)

def d61 : DFn := ⟨[(.c .one), (.c .one)], [(.c .one)], .rw, [.tmp 4],
(s [mK 4 .np]
(.seq (s [mV 7 0, nK 8 7, fA 9 15 8, lD 10 1 9, lN 11 false 10, mK 12 (.it .i64 0)]
(.blk 0 (.loop [1, 10, 11, 12] []
(s [o 13 (b .lss (t 12) (t 11))]
(.seq (.cond (t 13)
.skip
(.exit 0))
(.seq (.blk 1 (s [o 14 (.ias 1 (t 10) (t 12)), lD 15 1 14, mV 6 15]
(s [mV 16 6, nK 17 16, fA 18 0 17, lD 19 1 18, mV 20 1, o 21 (b .eql (t 19) (t 20))]
(.cond (t 21)
(s [mV 22 6, mV 4 22]
.ret)
.skip))))
(r [o 23 (b .add (t 12) (k 1)), mV 12 23])))))))
(s [mK 4 .np]
.ret)))⟩
def c61 : Ev.Fn := d61.den
def p61 : Pol := { P0 .rw with mask := [(2, [1, 10, 11, 12], [])] }
theorem r61 : FnOK Tryz.prog mds 61 c61 := .read (pol := p61) (d := d61) Tryz.func61 (by kernel_rfl) (by kernel_rfl) rfl rfl (by kernel_rfl)

def d62 : DFn := ⟨[(.c .one)], [(.c .one)], .rw, [.tmp 2],
(s [mK 2 (.bo false)]
(s [mV 3 0, nK 4 3, fA 5 1 4, lD 6 1 5, o 7 (b .eql (t 6) (k 1)), mV 8 7, x 9 8 (.mov (t 0)), x 10 8 (.nck (t 9)), x 11 8 (.fad 1 (t 10)), x 12 8 (.ld 1 false (t 11)), x 13 8 (b .eql (t 12) (k 3)), o 14 (.pick (t 8) (.k (.bo true)) (t 13)), mV 2 14]
.ret))⟩
def c62 : Ev.Fn := d62.den
def p62 : Pol := P0 .rw
theorem r62 : FnOK Tryz.prog mds 62 c62 := .read (pol := p62) (d := d62) Tryz.func62 (by kernel_rfl) (by kernel_rfl) rfl rfl (by kernel_rfl)

def d63 : DFn := ⟨[(.c .one), (.c (.sl [.one]))], [(.c .one)], .pure, [.tmp 4],
(s [mK 4 (.it .i64 0)]
(.seq (s [mV 7 1, lN 8 false 7, mK 9 (.it .i64 0)]
(.blk 0 (.loop [0, 7, 8, 9] [6]
(s [o 10 (b .lss (t 9) (t 8))]
(.seq (.cond (t 10)
.skip
(.exit 0))
(.seq (.blk 1 (s [o 11 (.ias 1 (t 7) (t 9)), lQ 12 1 11, o 6 (.alc [(.it .i64 0)]), sO 1 6 12]
(.reg false [
mV 13 0, fA 14 0 6, lD 15 1 14, o 16 (.mnx false (t 13) (t 15)), mV 0 16] [14])))
(.reg false [
o 17 (b .add (t 9) (k 1)), mV 9 17] [])))))))
(s [mV 18 0, o 19 (.mnx true (t 18) (k 0)), mV 4 19]
.ret)))⟩
def c63 : Ev.Fn := d63.den
def p63 : Pol := { P0 .pure with loc := [6], clr := [(4, [14])], mask := [(2, [0, 7, 8, 9], [6])] }
theorem r63 : FnOK Tryz.prog mds 63 c63 := .read (pol := p63) (d := d63) Tryz.func63 (by kernel_rfl) (by kernel_rfl) rfl rfl (by kernel_rfl)

def d64 : DFn := ⟨[(.g [.one]), (.c .one)], [(.g [.one]), (.c .one)], .pure, [.cell 4 1 true, .tmp 5],
(s [o 2 (.box (t 0)), o 4 (.alc [(.it .i64 0)]), mK 5 (.bo false)]
(.seq (.seq (.reg false [
mV 6 1, o 7 (b .lss (t 6) (k 0)), mV 8 7, x 9 8 (.mov (t 1)), x 10 8 (.fad 0 (t 2)), x 11 8 (.ld 1 false (t 10)), x 12 8 (b .gtr (t 9) (t 11)), o 13 (.pick (t 8) (.k (.bo true)) (t 12))] [10])
(.cond (t 13)
(.seq (.reg false [
lQ 14 1 2, sO 1 4 14, mK 5 (.bo false)] [])
.ret)
.skip))
(.seq (.reg false [
fA 15 0 2, lD 16 1 15, mV 17 1, o 18 (b .sub (t 16) (t 17)), o 19 (.bld [(.it .i64 0)] [(0, 1, (t 18))]), sO 1 4 19, mK 5 (.bo true)] [15])
.ret)))⟩
def c64 : Ev.Fn := d64.den
def p64 : Pol := { P0 .pure with loc := [2, 4], ord := [(0, [2, 0, 1])], clr := [(1, [10]), (3, [15])] }
theorem r64 : FnOK Tryz.prog mds 64 c64 := .read (pol := p64) (d := d64) Tryz.func64 (by kernel_rfl) (by kernel_rfl) rfl rfl (by kernel_rfl)

def d65 : DFn := ⟨[(.c .one), (.c .one), (.c .one)], [], .rw, [],
(.seq (.reg false [
mV 7 1, mV 8 1, nK 9 8, fA 10 1 9, lD 11 1 10, mV 12 2, o 13 (.call true .pure 115 [t 11, t 12]), mV 6 13, eX 14 6 0, eX 15 6 1, nK 16 7, fA 17 1 16, sO 1 17 14] [])
(s [mV 18 1, nK 19 18, fA 20 1 19, lD 21 1 20, o 22 (b .eql (t 21) (k 4))]
(.cond (t 22)
(r [mV 23 0, mV 24 1, nK 25 24, fA 26 0 25, lD 27 1 26, cR 28 116 [t 23, t 27]])
.skip)))⟩
def c65 : Ev.Fn := d65.den
def p65 : Pol := { P0 .rw with heap := [13], own := [13] }
theorem r65 : FnOK Tryz.prog mds 65 c65 := .read (pol := p65) (d := d65) Tryz.func65 (by kernel_rfl) (by kernel_rfl) rfl rfl (by kernel_rfl)

def d68 : DFn := ⟨[(.c (.sl [.one, .one, .one, (.sl [.one, .one]), .one, .one, .one, .one, .one]))], [(.c (.sl [.one, .one, .one, (.sl [.one, .one]), .one, .one, .one, .one, .one]))], .pure, [.tmp 2],
(s [mK 2 .ns]
(s [mV 5 0, o 6 (.call true .pure 117 [t 5]), mV 3 6]
(.seq (s [mV 7 3, lN 8 false 7, mK 9 (.it .i64 0)]
(.blk 0 (.loop [3, 8, 9] []
(s [o 10 (b .lss (t 9) (t 8))]
(.seq (.cond (t 10)
.skip
(.exit 0))
(.seq (.blk 1 (s [mV 11 9, mV 4 11]
(r [mV 12 3, mV 13 4, mV 14 3, mV 15 4, o 16 (.ias 9 (t 14) (t 15)), fA 17 3 16, lD 18 1 17, o 19 (.call true .pure 118 [t 18]), o 20 (.ias 9 (t 12) (t 13)), fA 21 3 20, sO 1 21 19])))
(r [o 22 (b .add (t 9) (k 1)), mV 9 22])))))))
(s [mV 23 3, mV 2 23]
.ret))))⟩
def c68 : Ev.Fn := d68.den
def p68 : Pol := { P0 .pure with heap := [6, 19], own := [6, 19], mask := [(3, [3, 8, 9], [])] }
theorem r68 : FnOK Tryz.prog mds 68 c68 := .read (pol := p68) (d := d68) Tryz.func68 (by kernel_rfl) (by kernel_rfl) rfl rfl (by kernel_rfl)

def d69 : DFn := ⟨[(.c .one), (.c .one), (.c .one)], [(.c .one)], .rw, [.tmp 6],
(s [mK 6 .np]
(.seq (s [mV 7 1, o 8 (b .lss (t 7) (k 0)), mV 9 8, x 10 9 (.mov (t 1)), x 11 9 (b .geq (t 10) (k 2)), o 12 (.pick (t 9) (.k (.bo true)) (t 11)), mV 13 12, x 14 13 (.mov (t 2)), x 15 13 (b .lss (t 14) (k 0)), o 16 (.pick (t 13) (.k (.bo true)) (t 15)), mV 17 16, x 18 17 (.mov (t 2)), x 19 17 (.mov (t 0)), x 20 17 (.mov (t 1)), x 21 17 (.nck (t 19)), x 22 17 (.fad 8 (t 21)), x 23 17 (.iaa 2 1 (t 22) (t 20)), x 24 17 (.ld 1 false (t 23)), x 25 17 (.len false (t 24)), x 26 17 (b .geq (t 18) (t 25)), o 27 (.pick (t 17) (.k (.bo true)) (t 26))]
(.cond (t 27)
(s [mK 6 .np]
.ret)
.skip))
(s [mV 28 0, mV 29 1, nK 30 28, fA 31 8 30, o 32 (.iaa 2 1 (t 31) (t 29)), lD 33 1 32, mV 34 2, o 35 (.ias 1 (t 33) (t 34)), lD 36 1 35, mV 6 36]
.ret)))⟩
def c69 : Ev.Fn := d69.den
def p69 : Pol := P0 .rw
theorem r69 : FnOK Tryz.prog mds 69 c69 := .read (pol := p69) (d := d69) Tryz.func69 (by kernel_rfl) (by kernel_rfl) rfl rfl (by kernel_rfl)

def d70 : DFn := ⟨[(.c (.sl [.one, .one])), (.c .one)], [(.c .one), (.c .one)], .pure, [.tmp 4, .tmp 5],
(s [mK 4 (.st []), mK 5 (.bo false)]
(.seq (s [mV 8 0, lN 9 false 8, mK 10 (.it .i64 0)]
(.blk 0 (.loop [1, 8, 9, 10] [7]
(s [o 11 (b .lss (t 10) (t 9))]
(.seq (.cond (t 11)
.skip
(.exit 0))
(.seq (.blk 1 (s [o 12 (.ias 2 (t 8) (t 10)), lQ 13 2 12, o 7 (.alc [(.st []), (.st [])]), sO 2 7 13]
(.seq (.reg false [
fA 14 0 7, lD 15 1 14, mV 16 1, o 17 (b .eql (t 15) (t 16))] [14])
(.cond (t 17)
(.seq (.reg false [
fA 18 1 7, lD 19 1 18, mV 4 19, mK 5 (.bo true)] [18])
.ret)
.skip))))
(.reg false [
o 20 (b .add (t 10) (k 1)), mV 10 20] [])))))))
(.seq (r [mK 4 (.st []), mK 5 (.bo false)])
.ret)))⟩
def c70 : Ev.Fn := d70.den
def p70 : Pol := { P0 .pure with loc := [7], clr := [(4, [14]), (5, [18])], mask := [(2, [1, 8, 9, 10], [7])] }
theorem r70 : FnOK Tryz.prog mds 70 c70 := .read (pol := p70) (d := d70) Tryz.func70 (by kernel_rfl) (by kernel_rfl) rfl rfl (by kernel_rfl)

def d71 : DFn := ⟨[(.c .one), (.c .one)], [(.g [.one, .one, .one])], .pure, [.cell 4 3 true],
(s [o 4 (.alc [(.st []), (.st []), (.it .i64 0)])]
(s [mV 5 0, mV 6 1, o 7 (.bld [(.st []), (.st [])] [(0, 1, (t 5)), (1, 1, (t 6))]), o 8 (.bld [(.st []), (.st []), (.it .i64 0)] [(0, 2, (t 7)), (2, 1, (k 1))]), sO 3 4 8]
.ret))⟩
def c71 : Ev.Fn := d71.den
def p71 : Pol := { P0 .pure with loc := [4] }
theorem r71 : FnOK Tryz.prog mds 71 c71 := .read (pol := p71) (d := d71) Tryz.func71 (by kernel_rfl) (by kernel_rfl) rfl rfl (by kernel_rfl)

def d72 : DFn := ⟨[(.c .one)], [(.c .one)], .pure, [.tmp 2],
(s [mK 2 (.st [])]
(s [mV 4 0, o 5 (.mnx true (t 4) (k 0)), cP 6 119 [t 5], o 7 (b .add (.k (.st [48, 48, 48])) (t 6)), mV 3 7]
(s [mV 8 3, mV 9 3, lN 10 true 9, o 11 (b .sub (t 10) (k 3)), o 12 (.slc true 0 (t 8) (some (t 11)) none), mV 2 12]
.ret)))⟩
def c72 : Ev.Fn := d72.den
def p72 : Pol := P0 .pure
theorem r72 : FnOK Tryz.prog mds 72 c72 := .read (pol := p72) (d := d72) Tryz.func72 (by kernel_rfl) (by kernel_rfl) rfl rfl (by kernel_rfl)

def d73 : DFn := ⟨[(.c .one), (.c .one), (.c .one)], [(.c .one)], .pure, [.tmp 6],
(s [mK 6 (.it .i64 0)]
(s [mV 7 0, mV 8 2, mV 9 1, o 10 (b .sub (t 8) (t 9)), o 11 (b .add (t 10) (k 1)), o 12 (b .rem (t 7) (t 11)), mV 0 12]
(.seq (s [mV 13 0, o 14 (b .lss (t 13) (k 0))]
(.cond (t 14)
(r [mV 15 0, mV 16 2, o 17 (b .add (t 15) (t 16)), mV 18 1, o 19 (b .sub (t 17) (t 18)), o 20 (b .add (t 19) (k 1)), mV 0 20])
.skip))
(s [mV 21 1, mV 22 0, o 23 (b .add (t 21) (t 22)), mV 6 23]
.ret))))⟩
def c73 : Ev.Fn := d73.den
def p73 : Pol := P0 .pure
theorem r73 : FnOK Tryz.prog mds 73 c73 := .read (pol := p73) (d := d73) Tryz.func73 (by kernel_rfl) (by kernel_rfl) rfl rfl (by kernel_rfl)

def d74 : DFn := ⟨[(.c .one), (.c .one)], [(.c .one)], .rw, [.tmp 4],
(s [mK 4 (.bo false)]
(s [mV 6 0, mV 7 1, o 8 (.bld [(.it .i64 0), (.it .i64 0), (.it .i64 0), .ns] [(0, 1, (k 1)), (1, 1, (t 7))]), cR 9 75 [t 6, t 8], o 10 (.fld 0 1 false (t 9)), mV 5 10]
(.seq (s [mV 11 5]
(.cond (t 11)
(r [mV 12 0, mV 13 1, cR 14 120 [t 12, (k 0), t 13]])
.skip))
(s [mV 15 5, mV 4 15]
.ret))))⟩
def c74 : Ev.Fn := d74.den
def p74 : Pol := P0 .rw
theorem r74 : FnOK Tryz.prog mds 74 c74 := .read (pol := p74) (d := d74) Tryz.func74 (by kernel_rfl) (by kernel_rfl) rfl rfl (by kernel_rfl)

def d75 : DFn := ⟨[(.c .one), (.g [.one, .one, .one, (.sl [.one])])], [(.g [.one, (.sl [.one]), (.sl [.one, .one])])], .rw, [.cell 4 3 true],
(s [o 3 (.box (t 1)), o 4 (.alc [(.bo false), .ns, .ns])]
(.seq (.reg true [
mV 8 0, nK 9 8, fA 10 7 9, lD 11 1 10, lQ 12 4 3, u 5 [10, 3] (.alc [(.bo false), .ns, .ns]), cR 13 11 [t 11, t 12], sO 3 5 13] [])
(.seq (.seq (.reg false [
fA 14 2 5, lD 15 1 14, lN 16 false 15, mK 17 (.it .i64 0)] [14])
(.blk 0 (.loop [0, 4, 5, 15, 16, 17] [3, 7]
(.seq (.reg false [
o 18 (b .lss (t 17) (t 16))] [])
(.seq (.cond (t 18)
.skip
(.exit 0))
(.seq (.blk 1 (s [o 19 (.ias 2 (t 15) (t 17)), lQ 20 2 19, o 7 (.alc [(.it .i64 0), (.st [])]), sO 2 7 20]
(.reg false [
mV 21 0, fA 22 0 7, lD 23 1 22, cR 24 120 [t 21, (k 1), t 23]] [22])))
(.reg false [
o 25 (b .add (t 17) (k 1)), mV 17 25] [])))))))
(s [lQ 26 3 5, sO 3 4 26]
.ret))))⟩
def c75 : Ev.Fn := d75.den
def p75 : Pol := { P0 .rw with loc := [3, 4, 5, 7], ord := [(1, [0, 1, 2, 3, 4, 6, 5, 7])], clr := [(2, [14]), (5, [22])], mask := [(3, [0, 4, 5, 15, 16, 17], [3, 7])] }
theorem r75 : FnOK Tryz.prog mds 75 c75 := .read (pol := p75) (d := d75) Tryz.func75 (by kernel_rfl) (by kernel_rfl) rfl rfl (by kernel_rfl)

def d76 : DFn := ⟨[(.c .one)], [(.c .one)], .pure, [.tmp 2],
(s [mK 2 (.it .i64 0)]
(.seq (s [mV 3 0]
(.blk 0 (.seq (s [o 5 (b .eql (t 3) (k 6)), mV 4 5]
(.cond (t 4)
.skip
(s [o 6 (b .eql (t 3) (k 7)), mV 4 6]
(.cond (t 4)
.skip
(s [o 7 (b .eql (t 3) (k 8)), mV 4 7]
(.cond (t 4)
.skip
(s [o 8 (b .eql (t 3) (k 9)), mV 4 8]
(.cond (t 4)
.skip
(s [o 9 (b .eql (t 3) (k 12)), mV 4 9]
(.cond (t 4)
.skip
(r [o 10 (b .eql (t 3) (k 13)), mV 4 10])))))))))))
(.cond (t 4)
(s [mK 2 (.it .i64 1)]
.ret)
.skip))))
(s [mK 2 (.it .i64 0)]
.ret)))⟩
def c76 : Ev.Fn := d76.den
def p76 : Pol := P0 .pure
theorem r76 : FnOK Tryz.prog mds 76 c76 := .read (pol := p76) (d := d76) Tryz.func76 (by kernel_rfl) (by kernel_rfl) rfl rfl (by kernel_rfl)

end Go.Proofs.YtnnhhfjkkmakaaaGreatDoor.tab
