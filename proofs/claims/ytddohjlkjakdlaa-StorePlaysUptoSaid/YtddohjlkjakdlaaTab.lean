import Derived.Test.YtddohjlkjakdlaaHand
import Derived.Test.YtddohjlkjakdlaaRows
import Derived.KernelRfl
set_option linter.unusedVariables false
set_option linter.unusedSimpArgs false
set_option linter.unusedSectionVars false
/- the functions of the seat, read off the program -/
namespace Go.Proofs.Ytddohjlkjakdlaa.tab
open Go hiding Fn
open Ev

abbrev mV (d s : Nat) : DOp := ⟨some d, none, [], .mov (.t s)⟩
abbrev fA (d o s : Nat) : DOp := ⟨some d, none, [], .fad o (.t s)⟩
abbrev lD (d n s : Nat) : DOp := ⟨some d, none, [], .ld n false (.t s)⟩
abbrev lQ (d n s : Nat) : DOp := ⟨some d, none, [], .ld n true (.t s)⟩
abbrev nK (d s : Nat) : DOp := ⟨some d, none, [], .nck (.t s)⟩
abbrev sO (n a s : Nat) : DOp := ⟨none, none, [], .sto n (.t a) (.t s)⟩
abbrev eX (d s i : Nat) : DOp := ⟨some d, none, [], .ext (.t s) i⟩
abbrev mK (d : Nat) (v : V) : DOp := ⟨some d, none, [], .mov (.k v)⟩
abbrev cR (d f : Nat) (l : List A) : DOp := ⟨some d, none, [], .call false .rw f l⟩
abbrev cP (d f : Nat) (l : List A) : DOp := ⟨some d, none, [], .call false .pure f l⟩
abbrev lN (d : Nat) (q : Bool) (s : Nat) : DOp := ⟨some d, none, [], .len q (.t s)⟩
def mdl : List Md := [.pure, .pure, .pure, .pure, .pure, .pure, .pure, .pure, .pure, .rw, .rw, .pure, .ro, .rw, .rw, .pure, .pure, .ro, .pure, .pure, .rw, .rw, .pure, .pure, .rw, .rw, .ro, .rw, .rw, .pure, .ro, .pure, .pure, .rw, .rw, .pure, .ro, .pure, .pure, .pure, .pure, .pure, .rw, .ro, .ro, .ro, .pure, .pure, .pure, .pure, .pure, .rw, .rw, .rw, .rw, .pure, .ro, .pure, .pure, .pure, .pure, .pure, .pure, .pure, .rw, .pure, .pure, .pure, .pure, .pure, .rw, .pure, .pure, .rw, .rw, .rw, .pure, .pure, .rw, .rw, .pure, .pure, .pure, .pure, .pure, .pure, .pure, .pure, .pure, .pure, .pure, .pure, .rw, .rw, .rw, .rw, .rw, .rw, .rw, .rw, .pure]
def mds (n : Nat) : Md := mdl.getD n .rw
abbrev o (d : Nat) (i : I) : DOp := ⟨some d, none, [], i⟩
abbrev u (d : Nat) (l : List Nat) (i : I) : DOp := ⟨some d, none, l, i⟩
abbrev w (d g : Nat) (i : I) : DOp := ⟨some d, some (g, true), [], i⟩
abbrev x (d g : Nat) (i : I) : DOp := ⟨some d, some (g, false), [], i⟩
abbrev n (i : I) : DOp := ⟨none, none, [], i⟩
abbrev s (l : List DOp) (c : C) : C := .seq (.reg false l []) c
abbrev r (l : List DOp) : C := .reg false l []
abbrev t (n : Nat) : A := .t n
abbrev k (n : Nat) : A := .k (.it .i64 (Int.ofNat n))
abbrev b (o : BinOp) (x y : A) : I := .bin .no o x y
abbrev P0 (m : Md) : Pol := { loc := [], md := m, mds := mds, heap := [], own := [], ord := [], clr := [], mask := [] }

def d3 : DFn := ⟨[], [(.c .one)], .pure, [.tmp 0],
(s [mK 0 (.bo false)]
(s [cR 14 9 [(k 250)], mV 13 14, eX 15 13 0, eX 16 13 1, mV 1 15, mV 2 16]
(.seq (s [mV 17 1, o 18 (.bin .ptr .eql (t 17) (.k .np)), mV 19 18, x 20 19 (.mov (t 2)), x 21 19 (b .neq (t 20) (k 0)), o 22 (.pick (t 19) (.k (.bo true)) (t 21))]
(.cond (t 22)
(s [mK 0 (.bo false)]
.ret)
.skip))
(s [mV 23 1, o 24 (.call false .pure 11 [(.k (.st [97])), (k 10)]), cR 25 10 [t 23, t 24], mV 26 1, o 27 (.call false .pure 11 [(.k (.st [98])), (k 10)]), cR 28 10 [t 26, t 27], mV 3 25, mV 4 28]
(s [mV 29 1, o 30 (.call false .ro 12 [t 29]), mV 5 30]
(s [mV 32 1, o 33 (.call false .pure 11 [(.k (.st [97])), (k 0)]), o 34 (.fld 0 6 true (t 33)), cR 35 13 [t 32, t 34], mV 31 35, eX 36 31 0, eX 37 31 1, o 6 (.alc [(.st []), (.st []), (.st []), (.st []), .ns, (.it .i64 0), (.it .i64 0), .ns, (.it .i64 0), (.st []), (.it .i64 0), (.it .i64 0)]), sO 12 6 36, mV 7 37]
(s [mV 38 1, o 39 (.call false .pure 11 [(.k (.st [99])), (k 40)]), cR 40 10 [t 38, t 39], mV 8 40]
(s [mV 41 1, cR 42 14 [t 41], mV 9 42]
(s [mV 43 1, o 44 (.call false .pure 11 [(.k (.st [99])), (k 200)]), cR 45 10 [t 43, t 44], mV 10 45]
(s [cR 47 9 [(.k (.it .i64 (-1)))], mV 46 47, eX 48 46 0, eX 49 46 1, mV 11 48, mV 12 49]
(s [o 50 (.call false .pure 11 [(.k (.st [97])), (k 10)]), cP 51 15 [t 50], o 52 (b .eql (t 51) (k 119)), mV 53 52, w 54 53 (.mov (t 3)), o 55 (.pick (t 53) (t 54) (.k (.bo false))), mV 56 55, w 57 56 (.mov (t 4)), o 58 (.pick (t 56) (t 57) (.k (.bo false))), mV 59 58, w 60 59 (.mov (t 5)), w 61 59 (b .eql (t 60) (k 238)), o 62 (.pick (t 59) (t 61) (.k (.bo false))), mV 63 62, w 64 63 (.mov (t 7)), o 65 (.pick (t 63) (t 64) (.k (.bo false))), mV 66 65, w 67 66 (.mov (t 8)), o 68 (.pick (t 66) (t 67) (.k (.bo false))), mV 69 68, w 70 69 (.mov (t 9)), w 71 69 (.bsv [.one] 1 [[(.st [])]] [(0, (.k (.st [104, 116, 116, 112, 58, 47, 47, 99, 47])))]), w 72 69 (.call false .pure 16 [t 70, t 71]), o 73 (.pick (t 69) (t 72) (.k (.bo false))), mV 74 73, w 75 74 (.mov (t 10)), w 76 74 (.un .not (t 75)), o 77 (.pick (t 74) (t 76) (.k (.bo false))), mV 78 77, w 79 78 (.mov (t 1)), w 80 78 (.call false .ro 17 [t 79]), w 81 78 (b .eql (t 80) (k 0)), o 82 (.pick (t 78) (t 81) (.k (.bo false))), mV 83 82, w 84 83 (.mov (t 12)), w 85 83 (b .eql (t 84) (k 1)), o 86 (.pick (t 83) (t 85) (.k (.bo false))), mV 0 86]
.ret)))))))))))⟩
def c3 : Ev.Fn := d3.den
def p3 : Pol := { P0 .pure with loc := [6], ord := [(4, [0, 3, 1, 2, 4, 5, 6, 7]), (6, [0, 7, 1, 2, 3, 4, 5, 6, 8, 9])] }
theorem r3 : FnOK Try.prog mds 3 c3 := .read (pol := p3) (d := d3) Try.func3 (by kernel_rfl) (by kernel_rfl) rfl rfl (by kernel_rfl)

def d7 : DFn := ⟨[(.c .one), (.c (.sl [.one, .one, .one, .one, .one, (.sl [.one, .one]), .one, .one, (.sl [.one, .one]), .one, .one, .one, .one, .one, .one, .one, .one, (.sl [.one, .one]), .one, .one]))], [(.c .one)], .pure, [.tmp 4],
(s [mK 4 (.bo false)]
(s [mV 21 0, cR 22 9 [t 21], mV 20 22, eX 23 20 0, eX 24 20 1, mV 5 23, mV 6 24]
(.seq (s [mV 25 0, o 26 (b .lss (t 25) (k 0)), mV 27 26, x 28 27 (.mov (t 0)), x 29 27 (b .gtr (t 28) (k 16777216)), o 30 (.pick (t 27) (.k (.bo true)) (t 29))]
(.cond (t 30)
(s [mV 31 5, o 32 (.bin .ptr .eql (t 31) (.k .np)), mV 33 32, w 34 33 (.mov (t 6)), w 35 33 (b .eql (t 34) (k 1)), o 36 (.pick (t 33) (t 35) (.k (.bo false))), mV 37 36, w 38 37 (.call false .pure 3 []), o 39 (.pick (t 37) (t 38) (.k (.bo false))), mV 4 39]
.ret)
.skip))
(s [mV 40 0, o 41 (.bld [.ns, (.it .i64 0)] [(1, 1, (t 40))]), o 42 (.bxh (t 41)), mV 7 42]
(.seq (s [mV 43 5, o 44 (.bin .ptr .eql (t 43) (.k .np)), mV 45 44, x 46 45 (.mov (t 6)), x 47 45 (b .neq (t 46) (k 0)), o 48 (.pick (t 45) (.k (.bo true)) (t 47))]
(.cond (t 48)
(s [mK 4 (.bo false)]
.ret)
.skip))
(.seq (s [mK 8 (.it .i64 0)]
(.blk 0 (.loop [1, 5, 7, 8] [9, 10, 12, 14, 16]
(.seq (s [mV 49 8, mV 50 1, lN 51 false 50, o 52 (b .lss (t 49) (t 51)), mV 53 52, w 54 53 (.mov (t 8)), w 55 53 (b .lss (t 54) (k 40)), o 56 (.pick (t 53) (t 55) (.k (.bo false)))]
(.cond (t 56)
.skip
(.exit 0)))
(.seq (.blk 1 (s [mV 59 1, mV 60 8, o 61 (.ias 20 (t 59) (t 60)), lQ 62 20 61, o 9 (.alc [(.it .i64 0), (.st []), (.st []), (.st []), (.st []), .ns, (.it .i64 0), (.it .i64 0), .ns, (.it .i64 0), (.st []), (.it .i64 0), (.it .i64 0), (.st []), (.st []), (.st []), (.st []), .ns, (.it .i64 0), (.st [])]), sO 20 9 62]
(.seq (s [lQ 63 20 9, cP 64 22 [t 63], o 65 (.un .not (t 64))]
(.cond (t 65)
(.exit 1)
.skip))
(.seq (.seq (.reg false [
fA 66 0 9, lD 67 1 66] [66])
(.blk 2 (.seq (.reg false [
o 69 (b .eql (t 67) (k 1)), mV 68 69] [])
(.cond (t 68)
(.seq (.reg true [
fA 70 1 9, lQ 71 12 70, fA 73 1 9, lQ 74 12 73, cP 72 15 [t 71], cP 75 23 [t 74], o 76 (b .neq (t 72) (t 75)), mV 77 76, x 78 77 (.mov (t 5)), x 79 77 (.fad 1 (t 9)), x 80 77 (.ld 12 true (t 79)), x 82 77 (.mov (t 7)), x 83 77 (.fad 1 (t 9)), x 84 77 (.ld 12 true (t 83)), ⟨some 81, some (77, false), [83], .call false .rw 10 [t 78, t 80]⟩, x 85 77 (.call false .rw 24 [t 82, t 84]), x 86 77 (.bin .bo .neq (t 81) (t 85)), o 87 (.pick (t 77) (.k (.bo true)) (t 86))] [70, 73, 79, 83])
(.cond (t 87)
(s [mK 4 (.bo false)]
.ret)
.skip))
(s [o 89 (b .eql (t 67) (k 2)), mV 88 89]
(.cond (t 88)
(.seq (.reg false [
mV 91 5, fA 92 13 9, lQ 93 6 92, cR 94 13 [t 91, t 93], mV 90 94, eX 95 90 0, eX 96 90 1, u 10 [92] (.alc [(.st []), (.st []), (.st []), (.st []), .ns, (.it .i64 0), (.it .i64 0), .ns, (.it .i64 0), (.st []), (.it .i64 0), (.it .i64 0)]), sO 12 10 95, mV 11 96] [92])
(.seq (.reg false [
mV 98 7, fA 99 13 9, lQ 100 6 99, cR 101 25 [t 98, t 100], mV 97 101, eX 102 97 0, eX 103 97 1, u 12 [99] (.alc [(.st []), (.st []), (.st []), (.st []), .ns, (.it .i64 0), (.it .i64 0), .ns, (.it .i64 0), (.st []), (.it .i64 0), (.it .i64 0)]), sO 12 12 102, mV 13 103] [99])
(.seq (.reg false [
mV 104 11, mV 105 13, o 106 (.bin .bo .neq (t 104) (t 105)), mV 107 106, x 108 107 (.ld 12 true (t 10)), x 109 107 (.ld 12 true (t 12)), x 110 107 (.call false .ro 26 [t 108, t 109]), x 111 107 (.un .not (t 110)), o 112 (.pick (t 107) (.k (.bo true)) (t 111))] [])
(.cond (t 112)
(s [mK 4 (.bo false)]
.ret)
.skip))))
(s [o 114 (b .eql (t 67) (k 3)), mV 113 114]
(.cond (t 113)
(.seq (.reg false [
mV 116 5, fA 117 13 9, lQ 118 6 117, cR 119 20 [t 116, t 118], mV 115 119, eX 120 115 0, eX 121 115 1, u 14 [117] (.alc [(.st []), (.st []), (.st []), (.st []), .ns, (.it .i64 0), (.it .i64 0), .ns, (.it .i64 0), (.st []), (.it .i64 0), (.it .i64 0)]), sO 12 14 120, mV 15 121] [117])
(.seq (.reg false [
mV 123 7, fA 124 13 9, lQ 125 6 124, cR 126 27 [t 123, t 125], mV 122 126, eX 127 122 0, eX 128 122 1, u 16 [124] (.alc [(.st []), (.st []), (.st []), (.st []), .ns, (.it .i64 0), (.it .i64 0), .ns, (.it .i64 0), (.st []), (.it .i64 0), (.it .i64 0)]), sO 12 16 127, mV 17 128] [124])
(.seq (.reg false [
mV 129 15, mV 130 17, o 131 (.bin .bo .neq (t 129) (t 130)), mV 132 131, x 133 132 (.ld 12 true (t 14)), x 134 132 (.ld 12 true (t 16)), x 135 132 (.call false .ro 26 [t 133, t 134]), x 136 132 (.un .not (t 135)), o 137 (.pick (t 132) (.k (.bo true)) (t 136))] [])
(.cond (t 137)
(s [mK 4 (.bo false)]
.ret)
.skip))))
(s [o 139 (b .eql (t 67) (k 4)), mV 138 139]
(.cond (t 138)
(.seq (.reg true [
mV 140 5, fA 141 19 9, lD 142 1 141, mV 144 7, fA 145 19 9, lD 146 1 145, u 143 [145] (.call false .rw 21 [t 140, t 142]), cR 147 28 [t 144, t 146], o 148 (b .neq (t 143) (t 147))] [141, 145])
(.cond (t 148)
(s [mK 4 (.bo false)]
.ret)
.skip))
.skip))))))))))
(s [mK 18 .ns]
(.seq (s [mK 19 (.it .i64 0)]
(.blk 3 (.loop [1, 5, 7, 8, 18, 19] [9, 10, 12, 14, 16]
(.seq (s [mV 149 19, mV 150 7, nK 151 150, fA 152 0 151, lD 153 1 152, lN 154 false 153, o 155 (b .lss (t 149) (t 154))]
(.cond (t 155)
.skip
(.exit 3)))
(.seq (.blk 4 (r [mV 158 18, mV 159 7, nK 160 159, fA 161 0 160, lD 162 1 161, mV 163 19, o 164 (.ias 12 (t 162) (t 163)), fA 165 0 164, lQ 166 6 165, cP 167 29 [t 166], o 168 (.bsv [.one] 1 [[(.st [])]] [(0, (t 167))]), o 169 (.app 1 16 (t 158) (t 168)), mV 18 169]))
(r [mV 156 19, o 157 (b .add (t 156) (k 1)), mV 19 157]))))))
(.seq (.reg true [
mV 170 5, mV 172 7, nK 173 172, fA 174 0 173, lD 175 1 174, lN 176 false 175, o 171 (.call false .ro 17 [t 170]), o 177 (b .neq (t 171) (t 176)), mV 178 177, x 179 178 (.mov (t 5)), x 181 178 (.mov (t 7)), x 180 178 (.call false .ro 12 [t 179]), x 182 178 (.call false .ro 30 [t 181]), x 183 178 (b .neq (t 180) (t 182)), o 184 (.pick (t 178) (.k (.bo true)) (t 183)), mV 185 184, x 186 185 (.mov (t 5)), x 188 185 (.mov (t 18)), x 187 185 (.call false .rw 14 [t 186]), x 189 185 (.call false .pure 16 [t 187, t 188]), x 190 185 (.un .not (t 189)), o 191 (.pick (t 185) (.k (.bo true)) (t 190))] [])
(.cond (t 191)
(s [mK 4 (.bo false)]
.ret)
.skip))))))))
(r [mV 57 8, o 58 (b .add (t 57) (k 1)), mV 8 58]))))))
(s [cP 192 3 [], mV 4 192]
.ret)))))))⟩
def c7 : Ev.Fn := d7.den
def p7 : Pol := { P0 .pure with loc := [9, 10, 12, 14, 16], heap := [169], own := [169], ord := [(14, [0, 1, 3, 4, 2, 5, 6, 7, 8, 9, 10, 12, 13, 14, 11, 15, 16, 17]), (17, [0, 1, 2, 7, 3, 4, 5, 6, 8, 9]), (18, [0, 1, 2, 7, 3, 4, 5, 6, 8, 9]), (22, [0, 1, 2, 7, 3, 4, 5, 6, 8, 9]), (23, [0, 1, 2, 7, 3, 4, 5, 6, 8, 9]), (27, [0, 1, 2, 4, 5, 6, 3, 7, 8]), (34, [0, 2, 3, 4, 5, 6, 1, 7, 8, 9, 11, 10, 12, 13, 14, 15, 16, 18, 17, 19, 20, 21])], clr := [(12, [66]), (14, [70, 73, 79, 83]), (17, [92]), (18, [99]), (22, [117]), (23, [124]), (27, [141, 145])], mask := [(8, [1, 5, 7, 8], [9, 10, 12, 14, 16]), (31, [1, 5, 7, 8, 18, 19], [9, 10, 12, 14, 16])] }
theorem r7 : FnOK Try.prog mds 7 c7 := .read (pol := p7) (d := d7) Try.func7 (by kernel_rfl) (by kernel_rfl) rfl rfl (by kernel_rfl)

def d9 : DFn := ⟨[(.c .one)], [(.c .one), (.c .one)], .rw, [.tmp 2, .tmp 3],
(s [mK 2 .np, mK 3 (.it .i64 0)]
(.seq (s [mV 4 0, o 5 (b .lss (t 4) (k 0)), mV 6 5, x 7 6 (.mov (t 0)), x 8 6 (b .gtr (t 7) (k 16777216)), o 9 (.pick (t 6) (.k (.bo true)) (t 8))]
(.cond (t 9)
(s [mK 2 .np, mK 3 (.it .i64 1)]
.ret)
.skip))
(s [mV 10 0, o 11 (.bld [.ns, (.it .i64 0), (.it .i64 0)] [(2, 1, (t 10))]), o 12 (.bxh (t 11)), mV 2 12, mK 3 (.it .i64 0)]
.ret)))⟩
def c9 : Ev.Fn := d9.den
def p9 : Pol := P0 .rw
theorem r9 : FnOK Try.prog mds 9 c9 := .read (pol := p9) (d := d9) Try.func9 (by kernel_rfl) (by kernel_rfl) rfl rfl (by kernel_rfl)

def d10 : DFn := ⟨[(.c .one), (.g [.one, .one, .one, .one, (.sl [.one, .one]), .one, .one, (.sl [.one, .one]), .one, .one, .one, .one])], [(.c .one)], .rw, [.tmp 4],
(s [o 3 (.box (t 1)), mK 4 (.bo false)]
(.seq (s [mV 7 0, nK 8 7, fA 9 0 8, lD 10 1 9, lN 11 false 10, o 12 (b .sub (t 11) (k 1)), mV 5 12]
(.blk 0 (.loop [0, 3, 5] []
(.seq (s [mV 13 5, o 14 (b .geq (t 13) (k 0))]
(.cond (t 14)
.skip
(.exit 0)))
(.seq (.blk 1 (.seq (.reg true [
mV 17 0, nK 18 17, fA 19 0 18, lD 20 1 19, mV 21 5, o 22 (.ias 12 (t 20) (t 21)), lQ 23 12 22, fA 24 0 3, lQ 25 6 24, cP 26 32 [t 23, t 25]] [24])
(.cond (t 26)
(r [mV 27 0, mV 28 5, cR 29 33 [t 27, t 28]])
.skip)))
(r [mV 15 5, o 16 (b .sub (t 15) (k 1)), mV 5 16]))))))
(s [lQ 30 12 3, cP 31 15 [t 30], mV 6 31]
(.seq (s [mV 32 6, mV 33 0, nK 34 33, fA 35 2 34, lD 36 1 35, o 37 (b .gtr (t 32) (t 36))]
(.cond (t 37)
(s [mK 4 (.bo false)]
.ret)
.skip))
(.seq (.blk 2 (.loop [0, 3, 6] []
(.seq (.seq (.reg true [
mV 38 0, nK 39 38, fA 40 1 39, lD 41 1 40, mV 42 0, nK 43 42, fA 44 2 43, lD 45 1 44, mV 46 6, o 47 (b .sub (t 45) (t 46)), o 48 (b .gtr (t 41) (t 47))] [])
(.cond (t 48)
.skip
(.exit 2)))
(.blk 3 (r [mV 49 0, mV 50 0, nK 51 50, fA 52 0 51, lD 53 1 52, lN 54 false 53, o 55 (b .sub (t 54) (k 1)), cR 56 33 [t 49, t 55]])))))
(s [mV 57 0, lQ 58 12 3, cP 59 35 [t 58], cR 60 34 [t 57, t 59]]
(s [mK 4 (.bo true)]
.ret)))))))⟩
def c10 : Ev.Fn := d10.den
def p10 : Pol := { P0 .rw with loc := [3], ord := [(0, [1, 0])], clr := [(4, [24])], mask := [(2, [0, 3, 5], []), (9, [0, 3, 6], [])] }
theorem r10 : FnOK Try.prog mds 10 c10 := .read (pol := p10) (d := d10) Try.func10 (by kernel_rfl) (by kernel_rfl) rfl rfl (by kernel_rfl)

def d11 : DFn := ⟨[(.c .one), (.c .one)], [(.g [.one, .one, .one, .one, (.sl [.one, .one]), .one, .one, (.sl [.one, .one]), .one, .one, .one, .one])], .pure, [.cell 4 12 true],
(s [o 4 (.alc [(.st []), (.st []), (.st []), (.st []), .ns, (.it .i64 0), (.it .i64 0), .ns, (.it .i64 0), (.st []), (.it .i64 0), (.it .i64 0)])]
(s [mV 5 0, o 6 (.bld [(.st []), (.st []), (.st []), (.st []), .ns, (.it .i64 0)] [(0, 1, (.k (.st [71, 69, 84]))), (1, 1, (.k (.st [104, 116, 116, 112]))), (2, 1, (t 5)), (3, 1, (.k (.st [47])))]), mV 7 1, o 8 (.mks 1 1 [(.it .u8 0)] (t 7) (t 7)), o 9 (.cnv .b2s (t 8)), o 10 (.bld [(.st []), (.st []), (.st []), (.st []), .ns, (.it .i64 0), (.it .i64 0), .ns, (.it .i64 0), (.st []), (.it .i64 0), (.it .i64 0)] [(0, 6, (t 6)), (9, 1, (t 9))]), sO 12 4 10]
.ret))⟩
def c11 : Ev.Fn := d11.den
def p11 : Pol := { P0 .pure with loc := [4] }
theorem r11 : FnOK Try.prog mds 11 c11 := .read (pol := p11) (d := d11) Try.func11 (by kernel_rfl) (by kernel_rfl) rfl rfl (by kernel_rfl)

def d12 : DFn := ⟨[(.c .one)], [(.c .one)], .ro, [.tmp 2],
(s [mK 2 (.it .i64 0)]
(s [mV 3 0, nK 4 3, fA 5 1 4, lD 6 1 5, mV 2 6]
.ret))⟩
def c12 : Ev.Fn := d12.den
def p12 : Pol := P0 .ro
theorem r12 : FnOK Try.prog mds 12 c12 := .read (pol := p12) (d := d12) Try.func12 (by kernel_rfl) (by kernel_rfl) rfl rfl (by kernel_rfl)

def d13 : DFn := ⟨[(.c .one), (.g [.one, .one, .one, .one, (.sl [.one, .one]), .one])], [(.g [.one, .one, .one, .one, (.sl [.one, .one]), .one, .one, (.sl [.one, .one]), .one, .one, .one, .one]), (.c .one)], .rw, [.cell 4 12 true, .tmp 5],
(s [o 3 (.box (t 1)), o 4 (.alc [(.st []), (.st []), (.st []), (.st []), .ns, (.it .i64 0), (.it .i64 0), .ns, (.it .i64 0), (.st []), (.it .i64 0), (.it .i64 0)]), mK 5 (.bo false)]
(s [mV 8 0, lQ 9 6 3, o 10 (.call false .ro 36 [t 8, t 9]), mV 6 10]
(.seq (s [mV 11 6, o 12 (b .lss (t 11) (k 0))]
(.cond (t 12)
(s [o 13 (.bld [(.st []), (.st []), (.st []), (.st []), .ns, (.it .i64 0), (.it .i64 0), .ns, (.it .i64 0), (.st []), (.it .i64 0), (.it .i64 0)] []), sO 12 4 13, mK 5 (.bo false)]
.ret)
.skip))
(s [mV 14 0, mV 15 6, cR 16 33 [t 14, t 15], o 7 (.alc [(.st []), (.st []), (.st []), (.st []), .ns, (.it .i64 0), (.it .i64 0), .ns, (.it .i64 0), (.st []), (.it .i64 0), (.it .i64 0)]), sO 12 7 16]
(s [mV 17 0, lQ 18 12 7, cR 19 34 [t 17, t 18]]
(s [lQ 20 12 7, cP 21 35 [t 20], sO 12 4 21, mK 5 (.bo true)]
.ret))))))⟩
def c13 : Ev.Fn := d13.den
def p13 : Pol := { P0 .rw with loc := [3, 4, 7], ord := [(0, [2, 0, 1]), (4, [0, 1, 3, 2, 4])] }
theorem r13 : FnOK Try.prog mds 13 c13 := .read (pol := p13) (d := d13) Try.func13 (by kernel_rfl) (by kernel_rfl) rfl rfl (by kernel_rfl)

def d14 : DFn := ⟨[(.c .one)], [(.c (.sl [.one]))], .rw, [.tmp 2],
(s [mK 2 .ns]
(s [mK 3 .ns]
(.seq (s [mV 6 0, nK 7 6, fA 8 0 7, lD 9 1 8, lN 10 false 9, mK 11 (.it .i64 0)]
(.blk 0 (.loop [3, 9, 10, 11] [5]
(s [o 12 (b .lss (t 11) (t 10))]
(.seq (.cond (t 12)
.skip
(.exit 0))
(.seq (.blk 1 (s [o 13 (.ias 12 (t 9) (t 11)), lQ 14 12 13, o 5 (.alc [(.st []), (.st []), (.st []), (.st []), .ns, (.it .i64 0), (.it .i64 0), .ns, (.it .i64 0), (.st []), (.it .i64 0), (.it .i64 0)]), sO 12 5 14]
(.reg false [
mV 15 3, fA 16 0 5, lQ 17 6 16, cP 18 19 [t 17], o 19 (.bsv [.one] 1 [[(.st [])]] [(0, (t 18))]), o 20 (.app 1 16 (t 15) (t 19)), mV 3 20] [16])))
(.reg false [
o 21 (b .add (t 11) (k 1)), mV 11 21] [])))))))
(s [mV 22 3, mV 2 22]
.ret))))⟩
def c14 : Ev.Fn := d14.den
def p14 : Pol := { P0 .rw with loc := [5], heap := [20], own := [20], clr := [(5, [16])], mask := [(3, [3, 9, 10, 11], [5])] }
theorem r14 : FnOK Try.prog mds 14 c14 := .read (pol := p14) (d := d14) Try.func14 (by kernel_rfl) (by kernel_rfl) rfl rfl (by kernel_rfl)

def d15 : DFn := ⟨[(.g [.one, .one, .one, .one, (.sl [.one, .one]), .one, .one, (.sl [.one, .one]), .one, .one, .one, .one])], [(.c .one)], .pure, [.tmp 2],
(s [o 1 (.box (t 0)), mK 2 (.it .i64 0)]
(.seq (.reg true [
fA 3 0 1, lQ 4 6 3, fA 8 0 1, fA 9 4 8, lD 10 1 9, fA 13 6 1, fA 14 1 13, lD 15 1 14, fA 18 9 1, lD 19 1 18, lN 20 true 19, cP 5 19 [t 4], lN 6 true 5, o 7 (b .add (k 100) (t 6)), cP 11 37 [t 10], o 12 (b .add (t 7) (t 11)), cP 16 37 [t 15], o 17 (b .add (t 12) (t 16)), o 21 (b .add (t 17) (t 20)), mV 2 21] [3, 8, 9, 13, 14, 18])
.ret))⟩
def c15 : Ev.Fn := d15.den
def p15 : Pol := { P0 .pure with loc := [1], ord := [(0, [1, 0]), (1, [0, 1, 5, 6, 7, 10, 11, 12, 15, 16, 17, 2, 3, 4, 8, 9, 13, 14, 18, 19])], clr := [(1, [3, 8, 9, 13, 14, 18])] }
theorem r15 : FnOK Try.prog mds 15 c15 := .read (pol := p15) (d := d15) Try.func15 (by kernel_rfl) (by kernel_rfl) rfl rfl (by kernel_rfl)

def d16 : DFn := ⟨[(.c (.sl [.one])), (.c (.sl [.one]))], [(.c .one)], .pure, [.tmp 4],
(s [mK 4 (.bo false)]
(.seq (s [mV 6 0, lN 7 false 6, mV 8 1, lN 9 false 8, o 10 (b .neq (t 7) (t 9))]
(.cond (t 10)
(s [mK 4 (.bo false)]
.ret)
.skip))
(.seq (s [mK 5 (.it .i64 0)]
(.blk 0 (.loop [0, 1, 5] []
(.seq (s [mV 11 5, mV 12 0, lN 13 false 12, o 14 (b .lss (t 11) (t 13))]
(.cond (t 14)
.skip
(.exit 0)))
(.seq (.blk 1 (.seq (.reg true [
mV 17 0, mV 18 5, o 19 (.ias 1 (t 17) (t 18)), lD 20 1 19, mV 21 1, mV 22 5, o 23 (.ias 1 (t 21) (t 22)), lD 24 1 23, o 25 (b .neq (t 20) (t 24))] [])
(.cond (t 25)
(s [mK 4 (.bo false)]
.ret)
.skip)))
(r [mV 15 5, o 16 (b .add (t 15) (k 1)), mV 5 16]))))))
(s [mK 4 (.bo true)]
.ret))))⟩
def c16 : Ev.Fn := d16.den
def p16 : Pol := { P0 .pure with mask := [(4, [0, 1, 5], [])] }
theorem r16 : FnOK Try.prog mds 16 c16 := .read (pol := p16) (d := d16) Try.func16 (by kernel_rfl) (by kernel_rfl) rfl rfl (by kernel_rfl)

def d17 : DFn := ⟨[(.c .one)], [(.c .one)], .ro, [.tmp 2],
(s [mK 2 (.it .i64 0)]
(s [mV 3 0, nK 4 3, fA 5 0 4, lD 6 1 5, lN 7 false 6, mV 2 7]
.ret))⟩
def c17 : Ev.Fn := d17.den
def p17 : Pol := P0 .ro
theorem r17 : FnOK Try.prog mds 17 c17 := .read (pol := p17) (d := d17) Try.func17 (by kernel_rfl) (by kernel_rfl) rfl rfl (by kernel_rfl)

def d19 : DFn := ⟨[(.g [.one, .one, .one, .one, (.sl [.one, .one]), .one])], [(.c .one)], .pure, [.tmp 2],
(s [o 1 (.box (t 0)), mK 2 (.st [])]
(.seq (.reg false [
fA 3 1 1, lD 4 1 3, o 5 (b .add (t 4) (.k (.st [58, 47, 47]))), fA 6 2 1, lD 7 1 6, o 8 (b .add (t 5) (t 7)), fA 9 3 1, lD 10 1 9, o 11 (b .add (t 8) (t 10)), mV 2 11] [3, 6, 9])
.ret))⟩
def c19 : Ev.Fn := d19.den
def p19 : Pol := { P0 .pure with loc := [1], ord := [(0, [1, 0])], clr := [(1, [3, 6, 9])] }
theorem r19 : FnOK Try.prog mds 19 c19 := .read (pol := p19) (d := d19) Try.func19 (by kernel_rfl) (by kernel_rfl) rfl rfl (by kernel_rfl)

def d20 : DFn := ⟨[(.c .one), (.g [.one, .one, .one, .one, (.sl [.one, .one]), .one])], [(.g [.one, .one, .one, .one, (.sl [.one, .one]), .one, .one, (.sl [.one, .one]), .one, .one, .one, .one]), (.c .one)], .rw, [.cell 4 12 true, .tmp 5],
(.seq (.reg false [
o 3 (.box (t 1)), o 4 (.alc [(.st []), (.st []), (.st []), (.st []), .ns, (.it .i64 0), (.it .i64 0), .ns, (.it .i64 0), (.st []), (.it .i64 0), (.it .i64 0)]), mK 5 (.bo false)] [])
(s [mV 7 0, lQ 8 6 3, o 9 (.call false .ro 36 [t 7, t 8]), mV 6 9]
(.seq (s [mV 10 6, o 11 (b .lss (t 10) (k 0))]
(.cond (t 11)
(s [o 12 (.bld [(.st []), (.st []), (.st []), (.st []), .ns, (.it .i64 0), (.it .i64 0), .ns, (.it .i64 0), (.st []), (.it .i64 0), (.it .i64 0)] []), sO 12 4 12, mK 5 (.bo false)]
.ret)
.skip))
(s [mV 13 0, nK 14 13, fA 15 0 14, lD 16 1 15, mV 17 6, o 18 (.ias 12 (t 16) (t 17)), lQ 19 12 18, cP 20 35 [t 19], sO 12 4 20, mK 5 (.bo true)]
.ret))))⟩
def c20 : Ev.Fn := d20.den
def p20 : Pol := { P0 .rw with loc := [3, 4], ord := [(0, [2, 0, 1])] }
theorem r20 : FnOK Try.prog mds 20 c20 := .read (pol := p20) (d := d20) Try.func20 (by kernel_rfl) (by kernel_rfl) rfl rfl (by kernel_rfl)

def d21 : DFn := ⟨[(.c .one), (.c .one)], [(.c .one)], .rw, [.tmp 4],
(s [mK 4 (.it .i64 0)]
(s [mV 7 0, nK 8 7, fA 9 0 8, lD 10 1 9, lN 11 false 10, mV 5 11]
(.seq (s [mV 12 5, o 13 (b .sub (t 12) (k 1)), mV 6 13]
(.blk 0 (.loop [0, 1, 5, 6] []
(.seq (s [mV 14 6, o 15 (b .geq (t 14) (k 0))]
(.cond (t 15)
.skip
(.exit 0)))
(.seq (.blk 1 (s [mV 18 0, nK 19 18, fA 20 0 19, lD 21 1 20, mV 22 6, o 23 (.ias 12 (t 21) (t 22)), fA 24 0 23, lQ 25 6 24, cP 26 19 [t 25], mV 27 1, o 28 (b .eql (t 26) (t 27))]
(.cond (t 28)
(r [mV 29 0, mV 30 6, cR 31 33 [t 29, t 30]])
.skip)))
(r [mV 16 6, o 17 (b .sub (t 16) (k 1)), mV 6 17]))))))
(s [mV 32 5, mV 33 0, nK 34 33, fA 35 0 34, lD 36 1 35, lN 37 false 36, o 38 (b .sub (t 32) (t 37)), mV 4 38]
.ret))))⟩
def c21 : Ev.Fn := d21.den
def p21 : Pol := { P0 .rw with ord := [(5, [0, 1, 2, 3, 4, 5, 6, 7, 9, 8, 10])], mask := [(3, [0, 1, 5, 6], [])] }
theorem r21 : FnOK Try.prog mds 21 c21 := .read (pol := p21) (d := d21) Try.func21 (by kernel_rfl) (by kernel_rfl) rfl rfl (by kernel_rfl)

def d22 : DFn := ⟨[(.g [.one, .one, .one, .one, .one, (.sl [.one, .one]), .one, .one, (.sl [.one, .one]), .one, .one, .one, .one, .one, .one, .one, .one, (.sl [.one, .one]), .one, .one])], [(.c .one)], .pure, [.tmp 2],
(s [o 1 (.box (t 0)), mK 2 (.bo false)]
(.seq (.reg false [
fA 3 1 1, lQ 4 12 3, cP 5 38 [t 4], mV 6 5, w 7 6 (.fad 13 (t 1)), w 8 6 (.fad 4 (t 7)), w 9 6 (.ld 1 false (t 8)), w 10 6 (.call false .pure 39 [t 9]), o 11 (.pick (t 6) (t 10) (.k (.bo false))), mV 12 11, w 13 12 (.fad 1 (t 1)), w 14 12 (.fad 0 (t 13)), w 15 12 (.fad 3 (t 14)), w 16 12 (.ld 1 false (t 15)), w 17 12 (.len true (t 16)), w 18 12 (b .lss (t 17) (k 500)), o 19 (.pick (t 12) (t 18) (.k (.bo false))), mV 2 19] [3, 7, 8, 13, 14, 15])
.ret))⟩
def c22 : Ev.Fn := d22.den
def p22 : Pol := { P0 .pure with loc := [1], ord := [(0, [1, 0])], clr := [(1, [3, 7, 8, 13, 14, 15])] }
theorem r22 : FnOK Try.prog mds 22 c22 := .read (pol := p22) (d := d22) Try.func22 (by kernel_rfl) (by kernel_rfl) rfl rfl (by kernel_rfl)

def d23 : DFn := ⟨[(.g [.one, .one, .one, .one, (.sl [.one, .one]), .one, .one, (.sl [.one, .one]), .one, .one, .one, .one])], [(.c .one)], .pure, [.tmp 2],
(.seq (.reg false [
o 1 (.box (t 0)), mK 2 (.it .i64 0)] [])
(.seq (.reg true [
fA 3 0 1, lQ 4 6 3, fA 8 0 1, fA 9 4 8, lD 10 1 9, fA 13 6 1, fA 14 1 13, lD 15 1 14, fA 18 9 1, lD 19 1 18, lN 20 true 19, cP 5 29 [t 4], lN 6 true 5, o 7 (b .add (k 100) (t 6)), cP 11 40 [t 10], o 12 (b .add (t 7) (t 11)), cP 16 40 [t 15], o 17 (b .add (t 12) (t 16)), o 21 (b .add (t 17) (t 20)), mV 2 21] [3, 8, 9, 13, 14, 18])
.ret))⟩
def c23 : Ev.Fn := d23.den
def p23 : Pol := { P0 .pure with loc := [1], ord := [(0, [1, 0]), (1, [0, 1, 5, 6, 7, 10, 11, 12, 15, 16, 17, 2, 3, 4, 8, 9, 13, 14, 18, 19])], clr := [(1, [3, 8, 9, 13, 14, 18])] }
theorem r23 : FnOK Try.prog mds 23 c23 := .read (pol := p23) (d := d23) Try.func23 (by kernel_rfl) (by kernel_rfl) rfl rfl (by kernel_rfl)

def d24 : DFn := ⟨[(.c .one), (.g [.one, .one, .one, .one, (.sl [.one, .one]), .one, .one, (.sl [.one, .one]), .one, .one, .one, .one])], [(.c .one)], .rw, [.tmp 4],
(s [o 3 (.box (t 1)), mK 4 (.bo false)]
(.seq (s [mV 6 0, nK 7 6, fA 8 0 7, lD 9 1 8, lN 10 false 9, o 11 (b .sub (t 10) (k 1)), mV 5 11]
(.blk 0 (.loop [0, 3, 5] []
(.seq (s [mV 12 5, o 13 (b .geq (t 12) (k 0))]
(.cond (t 13)
.skip
(.exit 0)))
(.seq (.blk 1 (.seq (.reg true [
mV 16 0, nK 17 16, fA 18 0 17, lD 19 1 18, mV 20 5, o 21 (.ias 12 (t 19) (t 20)), fA 22 0 21, lQ 23 6 22, fA 25 0 3, lQ 26 6 25, cP 24 29 [t 23], cP 27 29 [t 26], o 28 (b .eql (t 24) (t 27)), mV 29 28, w 30 29 (.mov (t 0)), w 31 29 (.nck (t 30)), w 32 29 (.fad 0 (t 31)), w 33 29 (.ld 1 false (t 32)), w 34 29 (.mov (t 5)), w 35 29 (.ias 12 (t 33) (t 34)), w 36 29 (.ld 12 true (t 35)), w 37 29 (.fad 0 (t 3)), w 38 29 (.ld 6 true (t 37)), w 39 29 (.call false .pure 41 [t 36, t 38]), o 40 (.pick (t 29) (t 39) (.k (.bo false)))] [25, 37])
(.cond (t 40)
(r [mV 41 0, mV 42 5, cR 43 42 [t 41, t 42]])
.skip)))
(r [mV 14 5, o 15 (b .sub (t 14) (k 1)), mV 5 15]))))))
(.seq (.seq (.reg true [
lQ 44 12 3, mV 46 0, nK 47 46, fA 48 1 47, lD 49 1 48, cP 45 23 [t 44], o 50 (b .gtr (t 45) (t 49))] [])
(.cond (t 50)
(s [mK 4 (.bo false)]
.ret)
.skip))
(.seq (.blk 2 (.loop [0, 3] []
(.seq (.seq (.reg true [
mV 51 0, lQ 53 12 3, mV 56 0, nK 57 56, fA 58 1 57, lD 59 1 58, o 52 (.call false .ro 30 [t 51]), cP 54 23 [t 53], o 55 (b .add (t 52) (t 54)), o 60 (b .gtr (t 55) (t 59))] [])
(.cond (t 60)
.skip
(.exit 2)))
(.blk 3 (r [mV 61 0, mV 62 0, nK 63 62, fA 64 0 63, lD 65 1 64, lN 66 false 65, o 67 (b .sub (t 66) (k 1)), cR 68 42 [t 61, t 67]])))))
(.seq (.reg true [
mV 69 0, lQ 70 12 3, mV 72 0, nK 73 72, fA 74 0 73, lD 75 1 74, o 71 (.bsl 12 [[(.st []), (.st []), (.st []), (.st []), .ns, (.it .i64 0), (.it .i64 0), .ns, (.it .i64 0), (.st []), (.it .i64 0), (.it .i64 0)]] [(0, (t 70))]), o 76 (.app 12 168 (t 71) (t 75)), nK 77 69, fA 78 0 77, sO 1 78 76] [])
(s [mK 4 (.bo true)]
.ret))))))⟩
def c24 : Ev.Fn := d24.den
def p24 : Pol := { P0 .rw with loc := [3], heap := [71, 76], own := [71, 76], ord := [(0, [1, 0]), (4, [0, 1, 2, 3, 4, 5, 6, 7, 9, 10, 8, 11, 12, 13, 14, 15, 16, 17, 18, 19, 20, 21, 22, 23, 24]), (6, [0, 2, 3, 4, 5, 1, 6]), (8, [0, 2, 5, 6, 7, 8, 1, 3, 4, 9]), (10, [0, 1, 3, 4, 5, 6, 2, 7, 8, 9, 10])], clr := [(4, [25, 37])], mask := [(2, [0, 3, 5], []), (8, [0, 3], [])] }
theorem r24 : FnOK Try.prog mds 24 c24 := .read (pol := p24) (d := d24) Try.func24 (by kernel_rfl) (by kernel_rfl) rfl rfl (by kernel_rfl)

def d25 : DFn := ⟨[(.c .one), (.g [.one, .one, .one, .one, (.sl [.one, .one]), .one])], [(.g [.one, .one, .one, .one, (.sl [.one, .one]), .one, .one, (.sl [.one, .one]), .one, .one, .one, .one]), (.c .one)], .rw, [.cell 4 12 true, .tmp 5],
(s [o 3 (.box (t 1)), o 4 (.alc [(.st []), (.st []), (.st []), (.st []), .ns, (.it .i64 0), (.it .i64 0), .ns, (.it .i64 0), (.st []), (.it .i64 0), (.it .i64 0)]), mK 5 (.bo false)]
(s [mV 8 0, lQ 9 6 3, o 10 (.call false .ro 43 [t 8, t 9]), mV 6 10]
(.seq (s [mV 11 6, o 12 (b .lss (t 11) (k 0))]
(.cond (t 12)
(s [o 13 (.bld [(.st []), (.st []), (.st []), (.st []), .ns, (.it .i64 0), (.it .i64 0), .ns, (.it .i64 0), (.st []), (.it .i64 0), (.it .i64 0)] []), sO 12 4 13, mK 5 (.bo false)]
.ret)
.skip))
(s [mV 14 0, nK 15 14, fA 16 0 15, lD 17 1 16, mV 18 6, o 19 (.ias 12 (t 17) (t 18)), lQ 20 12 19, o 7 (.alc [(.st []), (.st []), (.st []), (.st []), .ns, (.it .i64 0), (.it .i64 0), .ns, (.it .i64 0), (.st []), (.it .i64 0), (.it .i64 0)]), sO 12 7 20]
(s [mV 21 0, mV 22 6, cR 23 42 [t 21, t 22]]
(.seq (.reg true [
mV 24 0, lQ 25 12 7, mV 27 0, nK 28 27, fA 29 0 28, lD 30 1 29, o 26 (.bsl 12 [[(.st []), (.st []), (.st []), (.st []), .ns, (.it .i64 0), (.it .i64 0), .ns, (.it .i64 0), (.st []), (.it .i64 0), (.it .i64 0)]] [(0, (t 25))]), o 31 (.app 12 168 (t 26) (t 30)), nK 32 24, fA 33 0 32, sO 1 33 31] [])
(s [lQ 34 12 7, sO 12 4 34, mK 5 (.bo true)]
.ret)))))))⟩
def c25 : Ev.Fn := d25.den
def p25 : Pol := { P0 .rw with loc := [3, 4, 7], heap := [26, 31], own := [26, 31], ord := [(0, [2, 0, 1]), (6, [0, 1, 3, 4, 5, 6, 2, 7, 8, 9, 10])] }
theorem r25 : FnOK Try.prog mds 25 c25 := .read (pol := p25) (d := d25) Try.func25 (by kernel_rfl) (by kernel_rfl) rfl rfl (by kernel_rfl)

def d26 : DFn := ⟨[(.g [.one, .one, .one, .one, (.sl [.one, .one]), .one, .one, (.sl [.one, .one]), .one, .one, .one, .one]), (.g [.one, .one, .one, .one, (.sl [.one, .one]), .one, .one, (.sl [.one, .one]), .one, .one, .one, .one])], [(.c .one)], .ro, [.tmp 4],
(s [o 2 (.box (t 0)), o 3 (.box (t 1)), mK 4 (.bo false)]
(.seq (.reg false [
fA 5 0 2, lQ 6 6 5, fA 7 0 3, lQ 8 6 7, o 9 (.call false .ro 44 [t 6, t 8]), mV 10 9, w 11 10 (.fad 6 (t 2)), w 12 10 (.ld 3 true (t 11)), w 13 10 (.fad 6 (t 3)), w 14 10 (.ld 3 true (t 13)), w 15 10 (.call false .ro 45 [t 12, t 14]), o 16 (.pick (t 10) (t 15) (.k (.bo false))), mV 17 16, w 18 17 (.fad 9 (t 2)), w 19 17 (.ld 1 false (t 18)), w 20 17 (.fad 9 (t 3)), w 21 17 (.ld 1 false (t 20)), w 22 17 (b .eql (t 19) (t 21)), o 23 (.pick (t 17) (t 22) (.k (.bo false))), mV 24 23, w 25 24 (.fad 10 (t 2)), w 26 24 (.ld 1 false (t 25)), w 27 24 (.fad 10 (t 3)), w 28 24 (.ld 1 false (t 27)), w 29 24 (b .eql (t 26) (t 28)), o 30 (.pick (t 24) (t 29) (.k (.bo false))), mV 31 30, w 32 31 (.fad 11 (t 2)), w 33 31 (.ld 1 false (t 32)), w 34 31 (.fad 11 (t 3)), w 35 31 (.ld 1 false (t 34)), w 36 31 (b .eql (t 33) (t 35)), o 37 (.pick (t 31) (t 36) (.k (.bo false))), mV 4 37] [5, 7, 11, 13, 18, 20, 25, 27, 32, 34])
.ret))⟩
def c26 : Ev.Fn := d26.den
def p26 : Pol := { P0 .ro with loc := [2, 3], ord := [(0, [2, 0, 1])], clr := [(1, [5, 7, 11, 13, 18, 20, 25, 27, 32, 34])] }
theorem r26 : FnOK Try.prog mds 26 c26 := .read (pol := p26) (d := d26) Try.func26 (by kernel_rfl) (by kernel_rfl) rfl rfl (by kernel_rfl)

def d27 : DFn := ⟨[(.c .one), (.g [.one, .one, .one, .one, (.sl [.one, .one]), .one])], [(.g [.one, .one, .one, .one, (.sl [.one, .one]), .one, .one, (.sl [.one, .one]), .one, .one, .one, .one]), (.c .one)], .rw, [.cell 4 12 true, .tmp 5],
(.seq (.reg false [
o 3 (.box (t 1)), o 4 (.alc [(.st []), (.st []), (.st []), (.st []), .ns, (.it .i64 0), (.it .i64 0), .ns, (.it .i64 0), (.st []), (.it .i64 0), (.it .i64 0)]), mK 5 (.bo false)] [])
(s [mV 7 0, lQ 8 6 3, o 9 (.call false .ro 43 [t 7, t 8]), mV 6 9]
(.seq (s [mV 10 6, o 11 (b .lss (t 10) (k 0))]
(.cond (t 11)
(s [o 12 (.bld [(.st []), (.st []), (.st []), (.st []), .ns, (.it .i64 0), (.it .i64 0), .ns, (.it .i64 0), (.st []), (.it .i64 0), (.it .i64 0)] []), sO 12 4 12, mK 5 (.bo false)]
.ret)
.skip))
(s [mV 13 0, nK 14 13, fA 15 0 14, lD 16 1 15, mV 17 6, o 18 (.ias 12 (t 16) (t 17)), lQ 19 12 18, sO 12 4 19, mK 5 (.bo true)]
.ret))))⟩
def c27 : Ev.Fn := d27.den
def p27 : Pol := { P0 .rw with loc := [3, 4], ord := [(0, [2, 0, 1])] }
theorem r27 : FnOK Try.prog mds 27 c27 := .read (pol := p27) (d := d27) Try.func27 (by kernel_rfl) (by kernel_rfl) rfl rfl (by kernel_rfl)

def d28 : DFn := ⟨[(.c .one), (.c .one)], [(.c .one)], .rw, [.tmp 4],
(s [mK 4 (.it .i64 0)]
(s [mK 5 (.it .i64 0)]
(.seq (s [mV 7 0, nK 8 7, fA 9 0 8, lD 10 1 9, lN 11 false 10, o 12 (b .sub (t 11) (k 1)), mV 6 12]
(.blk 0 (.loop [0, 1, 5, 6] []
(.seq (s [mV 13 6, o 14 (b .geq (t 13) (k 0))]
(.cond (t 14)
.skip
(.exit 0)))
(.seq (.blk 1 (s [mV 17 0, nK 18 17, fA 19 0 18, lD 20 1 19, mV 21 6, o 22 (.ias 12 (t 20) (t 21)), fA 23 0 22, lQ 24 6 23, cP 25 29 [t 24], mV 26 1, o 27 (b .eql (t 25) (t 26))]
(.cond (t 27)
(s [mV 28 0, mV 29 6, cR 30 42 [t 28, t 29]]
(r [mV 31 5, o 32 (b .add (t 31) (k 1)), mV 5 32]))
.skip)))
(r [mV 15 6, o 16 (b .sub (t 15) (k 1)), mV 6 16]))))))
(s [mV 33 5, mV 4 33]
.ret))))⟩
def c28 : Ev.Fn := d28.den
def p28 : Pol := { P0 .rw with ord := [(5, [0, 1, 2, 3, 4, 5, 6, 7, 9, 8, 10])], mask := [(3, [0, 1, 5, 6], [])] }
theorem r28 : FnOK Try.prog mds 28 c28 := .read (pol := p28) (d := d28) Try.func28 (by kernel_rfl) (by kernel_rfl) rfl rfl (by kernel_rfl)

def d29 : DFn := ⟨[(.g [.one, .one, .one, .one, (.sl [.one, .one]), .one])], [(.c .one)], .pure, [.tmp 2],
(s [o 1 (.box (t 0)), mK 2 (.st [])]
(.seq (.reg false [
fA 3 1 1, lD 4 1 3, o 5 (b .add (t 4) (.k (.st [58, 47, 47]))), fA 6 2 1, lD 7 1 6, o 8 (b .add (t 5) (t 7)), fA 9 3 1, lD 10 1 9, o 11 (b .add (t 8) (t 10)), mV 2 11] [3, 6, 9])
.ret))⟩
def c29 : Ev.Fn := d29.den
def p29 : Pol := { P0 .pure with loc := [1], ord := [(0, [1, 0])], clr := [(1, [3, 6, 9])] }
theorem r29 : FnOK Try.prog mds 29 c29 := .read (pol := p29) (d := d29) Try.func29 (by kernel_rfl) (by kernel_rfl) rfl rfl (by kernel_rfl)

def d30 : DFn := ⟨[(.c .one)], [(.c .one)], .ro, [.tmp 2],
(.seq (.reg false [
mK 2 (.it .i64 0)] [])
(s [mK 3 (.it .i64 0)]
(.seq (s [mK 4 (.it .i64 0)]
(.blk 0 (.loop [0, 3, 4] []
(.seq (s [mV 5 4, mV 6 0, nK 7 6, fA 8 0 7, lD 9 1 8, lN 10 false 9, o 11 (b .lss (t 5) (t 10))]
(.cond (t 11)
.skip
(.exit 0)))
(.seq (.blk 1 (r [mV 14 3, mV 15 0, nK 16 15, fA 17 0 16, lD 18 1 17, mV 19 4, o 20 (.ias 12 (t 18) (t 19)), lQ 21 12 20, cP 22 23 [t 21], o 23 (b .add (t 14) (t 22)), mV 3 23]))
(r [mV 12 4, o 13 (b .add (t 12) (k 1)), mV 4 13]))))))
(s [mV 24 3, mV 2 24]
.ret))))⟩
def c30 : Ev.Fn := d30.den
def p30 : Pol := { P0 .ro with mask := [(3, [0, 3, 4], [])] }
theorem r30 : FnOK Try.prog mds 30 c30 := .read (pol := p30) (d := d30) Try.func30 (by kernel_rfl) (by kernel_rfl) rfl rfl (by kernel_rfl)

def d31 : DFn := ⟨[(.c (.sl [.one, .one]))], [(.c (.sl [.one])), (.c .one)], .pure, [.tmp 2, .tmp 3],
(s [mK 2 .ns, mK 3 (.bo false)]
(s [mV 11 0, o 12 (.call false .pure 46 [t 11, (.k (.st [118, 97, 114, 121]))]), mV 10 12, eX 13 10 0, eX 14 10 1, mV 4 13, mV 5 14]
(.seq (s [mV 15 5, o 16 (b .eql (t 15) (k 0))]
(.cond (t 16)
(s [mK 2 .ns, mK 3 (.bo false)]
.ret)
.skip))
(s [mV 18 4, cP 19 47 [t 18], mV 17 19, eX 20 17 0, eX 21 17 1, mV 6 20, mV 7 21]
(s [mK 8 .ns]
(.seq (s [mK 9 (.it .i64 0)]
(.blk 0 (.loop [6, 7, 8, 9] []
(.seq (s [mV 22 9, mV 23 6, lN 24 false 23, o 25 (b .lss (t 22) (t 24))]
(.cond (t 25)
.skip
(.exit 0)))
(.seq (.blk 1 (.seq (s [mV 28 6, mV 29 9, o 30 (.ias 1 (t 28) (t 29)), lD 31 1 30, o 32 (b .eql (t 31) (.k (.st [42]))), mV 33 32, x 34 33 (.mov (t 6)), x 35 33 (.mov (t 9)), x 36 33 (.ias 1 (t 34) (t 35)), x 37 33 (.ld 1 false (t 36)), x 38 33 (.call false .pure 48 [t 37]), x 39 33 (.un .not (t 38)), o 40 (.pick (t 33) (.k (.bo true)) (t 39))]
(.cond (t 40)
(s [mK 2 .ns, mK 3 (.bo true)]
.ret)
.skip))
(r [mV 41 8, mV 42 6, mV 43 9, o 44 (.ias 1 (t 42) (t 43)), lD 45 1 44, cP 46 49 [t 45], o 47 (.bsv [.one] 1 [[(.st [])]] [(0, (t 46))]), o 48 (.app 1 16 (t 41) (t 47)), mV 8 48])))
(r [mV 26 9, o 27 (b .add (t 26) (k 1)), mV 9 27]))))))
(s [mV 49 8, mV 50 7, o 51 (.un .not (t 50)), mV 2 49, mV 3 51]
.ret)))))))⟩
def c31 : Ev.Fn := d31.den
def p31 : Pol := { P0 .pure with heap := [48], own := [48], mask := [(7, [6, 7, 8, 9], [])] }
theorem r31 : FnOK Try.prog mds 31 c31 := .read (pol := p31) (d := d31) Try.func31 (by kernel_rfl) (by kernel_rfl) rfl rfl (by kernel_rfl)

def d32 : DFn := ⟨[(.g [.one, .one, .one, .one, (.sl [.one, .one]), .one, .one, (.sl [.one, .one]), .one, .one, .one, .one]), (.g [.one, .one, .one, .one, (.sl [.one, .one]), .one])], [(.c .one)], .pure, [.tmp 4],
(s [o 2 (.box (t 0)), o 3 (.box (t 1)), mK 4 (.bo false)]
(.seq (.reg true [
fA 5 0 2, lQ 6 6 5, lQ 8 6 3, cP 7 19 [t 6], cP 9 19 [t 8], o 10 (b .eql (t 7) (t 9)), mV 11 10, w 12 11 (.ld 12 true (t 2)), w 13 11 (.ld 6 true (t 3)), w 14 11 (.call false .pure 50 [t 12, t 13]), o 15 (.pick (t 11) (t 14) (.k (.bo false))), mV 4 15] [5])
.ret))⟩
def c32 : Ev.Fn := d32.den
def p32 : Pol := { P0 .pure with loc := [2, 3], ord := [(0, [2, 0, 1]), (1, [0, 1, 3, 2, 4, 5, 6, 7, 8, 9, 10, 11])], clr := [(1, [5])] }
theorem r32 : FnOK Try.prog mds 32 c32 := .read (pol := p32) (d := d32) Try.func32 (by kernel_rfl) (by kernel_rfl) rfl rfl (by kernel_rfl)

def d33 : DFn := ⟨[(.c .one), (.c .one)], [(.g [.one, .one, .one, .one, (.sl [.one, .one]), .one, .one, (.sl [.one, .one]), .one, .one, .one, .one])], .rw, [.cell 4 12 true],
(s [o 4 (.alc [(.st []), (.st []), (.st []), (.st []), .ns, (.it .i64 0), (.it .i64 0), .ns, (.it .i64 0), (.st []), (.it .i64 0), (.it .i64 0)])]
(s [mV 6 0, nK 7 6, fA 8 0 7, lD 9 1 8, mV 10 1, o 11 (.ias 12 (t 9) (t 10)), lQ 12 12 11, o 5 (.alc [(.st []), (.st []), (.st []), (.st []), .ns, (.it .i64 0), (.it .i64 0), .ns, (.it .i64 0), (.st []), (.it .i64 0), (.it .i64 0)]), sO 12 5 12]
(.seq (.reg true [
mV 13 0, nK 14 13, fA 15 1 14, lD 16 1 15, lQ 17 12 5, cP 18 15 [t 17], o 19 (b .sub (t 16) (t 18)), nK 20 13, fA 21 1 20, sO 1 21 19] [])
(s [mV 22 0, mV 23 0, nK 24 23, fA 25 0 24, lD 26 1 25, mV 27 1, mV 28 1, o 29 (b .add (t 28) (k 1)), o 30 (.call true .rw 51 [t 26, t 27, t 29]), nK 31 22, fA 32 0 31, sO 1 32 30]
(s [lQ 33 12 5, sO 12 4 33]
.ret)))))⟩
def c33 : Ev.Fn := d33.den
def p33 : Pol := { P0 .rw with loc := [4, 5], heap := [30], own := [30] }
theorem r33 : FnOK Try.prog mds 33 c33 := .read (pol := p33) (d := d33) Try.func33 (by kernel_rfl) (by kernel_rfl) rfl rfl (by kernel_rfl)

def d34 : DFn := ⟨[(.c .one), (.g [.one, .one, .one, .one, (.sl [.one, .one]), .one, .one, (.sl [.one, .one]), .one, .one, .one, .one])], [], .rw, [],
(s [o 3 (.box (t 1))]
(.seq (.reg true [
mV 4 0, mV 5 0, nK 6 5, fA 7 0 6, lD 8 1 7, lQ 9 12 3, o 10 (.bsl 12 [[(.st []), (.st []), (.st []), (.st []), .ns, (.it .i64 0), (.it .i64 0), .ns, (.it .i64 0), (.st []), (.it .i64 0), (.it .i64 0)]] [(0, (t 9))]), o 11 (.call true .rw 52 [t 8, (k 0), t 10]), nK 12 4, fA 13 0 12, sO 1 13 11] [])
(.reg true [
mV 14 0, nK 15 14, fA 16 1 15, lD 17 1 16, lQ 18 12 3, cP 19 15 [t 18], o 20 (b .add (t 17) (t 19)), nK 21 14, fA 22 1 21, sO 1 22 20] [])))⟩
def c34 : Ev.Fn := d34.den
def p34 : Pol := { P0 .rw with loc := [3], heap := [11, 10], own := [11] }
theorem r34 : FnOK Try.prog mds 34 c34 := .read (pol := p34) (d := d34) Try.func34 (by kernel_rfl) (by kernel_rfl) rfl rfl (by kernel_rfl)

def d35 : DFn := ⟨[(.g [.one, .one, .one, .one, (.sl [.one, .one]), .one, .one, (.sl [.one, .one]), .one, .one, .one, .one])], [(.g [.one, .one, .one, .one, (.sl [.one, .one]), .one, .one, (.sl [.one, .one]), .one, .one, .one, .one])], .pure, [.cell 2 12 true],
(s [o 1 (.box (t 0)), o 2 (.alc [(.st []), (.st []), (.st []), (.st []), .ns, (.it .i64 0), (.it .i64 0), .ns, (.it .i64 0), (.st []), (.it .i64 0), (.it .i64 0)])]
(.seq (.reg false [
fA 3 0 1, fA 4 4 3, lD 5 1 4, o 6 (.app 2 32 (.k .ns) (t 5)), fA 7 0 1, fA 8 4 7, sO 1 8 6] [3, 4, 7, 8])
(.seq (.reg false [
fA 9 6 1, fA 10 1 9, lD 11 1 10, o 12 (.app 2 32 (.k .ns) (t 11)), fA 13 6 1, fA 14 1 13, sO 1 14 12] [9, 10, 13, 14])
(.seq (.reg false [
lQ 15 12 1, sO 12 2 15] [])
.ret))))⟩
def c35 : Ev.Fn := d35.den
def p35 : Pol := { P0 .pure with loc := [1, 2], clr := [(1, [3, 4, 7, 8]), (2, [9, 10, 13, 14])] }
theorem r35 : FnOK Try.prog mds 35 c35 := .read (pol := p35) (d := d35) Try.func35 (by kernel_rfl) (by kernel_rfl) rfl rfl (by kernel_rfl)

def d36 : DFn := ⟨[(.c .one), (.g [.one, .one, .one, .one, (.sl [.one, .one]), .one])], [(.c .one)], .ro, [.tmp 4],
(s [o 3 (.bxh (t 1)), mK 4 (.it .i64 0)]
(s [mV 5 0, nK 6 5, fA 7 0 6, lD 8 1 7, o 9 (.mkf 54 [] [t 3]), cR 10 53 [t 8, t 9], mV 4 10]
.ret))⟩
def c36 : Ev.Fn := d36.den
def p36 : Pol := { P0 .ro with ord := [(0, [1, 0])], fns := [54] }
theorem r36 : FnOK Try.prog mds 36 c36 := .read (pol := p36) (d := d36) Try.func36 (by kernel_rfl) (by kernel_rfl) rfl rfl (by kernel_rfl)

def d37 : DFn := ⟨[(.c (.sl [.one, .one]))], [(.c .one)], .pure, [.tmp 2],
(s [mK 2 (.it .i64 0)]
(s [mK 3 (.it .i64 0)]
(.seq (s [mV 6 0, lN 7 false 6, mK 8 (.it .i64 0)]
(.blk 0 (.loop [3, 6, 7, 8] [5]
(s [o 9 (b .lss (t 8) (t 7))]
(.seq (.cond (t 9)
.skip
(.exit 0))
(.seq (.blk 1 (s [o 10 (.ias 2 (t 6) (t 8)), lQ 11 2 10, o 5 (.alc [(.st []), (.st [])]), sO 2 5 11]
(.reg false [
mV 12 3, fA 13 0 5, lD 14 1 13, lN 15 true 14, fA 16 1 5, lD 17 1 16, lN 18 true 17, o 19 (b .add (t 15) (t 18)), o 20 (b .add (t 12) (t 19)), mV 3 20] [13, 16])))
(.reg false [
o 21 (b .add (t 8) (k 1)), mV 8 21] [])))))))
(s [mV 22 3, mV 2 22]
.ret))))⟩
def c37 : Ev.Fn := d37.den
def p37 : Pol := { P0 .pure with loc := [5], clr := [(5, [13, 16])], mask := [(3, [3, 6, 7, 8], [5])] }
theorem r37 : FnOK Try.prog mds 37 c37 := .read (pol := p37) (d := d37) Try.func37 (by kernel_rfl) (by kernel_rfl) rfl rfl (by kernel_rfl)

def d38 : DFn := ⟨[(.g [.one, .one, .one, .one, (.sl [.one, .one]), .one, .one, (.sl [.one, .one]), .one, .one, .one, .one])], [(.c .one)], .pure, [.tmp 2],
(s [o 1 (.box (t 0)), mK 2 (.bo false)]
(.seq (.reg false [
fA 3 0 1, fA 4 4 3, lD 5 1 4, cP 6 39 [t 5], mV 7 6, w 8 7 (.fad 6 (t 1)), w 9 7 (.fad 1 (t 8)), w 10 7 (.ld 1 false (t 9)), w 11 7 (.call false .pure 39 [t 10]), o 12 (.pick (t 7) (t 11) (.k (.bo false))), mV 13 12, w 14 13 (.fad 9 (t 1)), w 15 13 (.ld 1 false (t 14)), w 16 13 (.len true (t 15)), w 17 13 (b .leq (t 16) (k 2000)), o 18 (.pick (t 13) (t 17) (.k (.bo false))), mV 2 18] [3, 4, 8, 9, 14])
.ret))⟩
def c38 : Ev.Fn := d38.den
def p38 : Pol := { P0 .pure with loc := [1], ord := [(0, [1, 0])], clr := [(1, [3, 4, 8, 9, 14])] }
theorem r38 : FnOK Try.prog mds 38 c38 := .read (pol := p38) (d := d38) Try.func38 (by kernel_rfl) (by kernel_rfl) rfl rfl (by kernel_rfl)

def d39 : DFn := ⟨[(.c (.sl [.one, .one]))], [(.c .one)], .pure, [.tmp 2],
(.seq (.reg false [
mK 2 (.bo false)] [])
(s [mK 3 (.it .i64 0)]
(.seq (s [mK 4 (.it .i64 0)]
(.blk 0 (.loop [0, 3, 4] []
(.seq (s [mV 5 4, mV 6 0, lN 7 false 6, o 8 (b .lss (t 5) (t 7))]
(.cond (t 8)
.skip
(.exit 0)))
(.seq (.blk 1 (.seq (.reg true [
mV 11 3, mV 12 0, mV 13 4, o 14 (.ias 2 (t 12) (t 13)), fA 15 0 14, lD 16 1 15, lN 17 true 16, o 18 (b .add (t 11) (t 17)), mV 19 0, mV 20 4, o 21 (.ias 2 (t 19) (t 20)), fA 22 1 21, lD 23 1 22, lN 24 true 23, o 25 (b .add (t 18) (t 24)), o 26 (b .add (t 25) (k 1)), mV 3 26] [])
(s [mV 27 3, o 28 (b .gtr (t 27) (k 2000))]
(.cond (t 28)
(s [mK 2 (.bo false)]
.ret)
.skip))))
(r [mV 9 4, o 10 (b .add (t 9) (k 1)), mV 4 10]))))))
(s [mK 2 (.bo true)]
.ret))))⟩
def c39 : Ev.Fn := d39.den
def p39 : Pol := { P0 .pure with mask := [(3, [0, 3, 4], [])] }
theorem r39 : FnOK Try.prog mds 39 c39 := .read (pol := p39) (d := d39) Try.func39 (by kernel_rfl) (by kernel_rfl) rfl rfl (by kernel_rfl)

def d40 : DFn := ⟨[(.c (.sl [.one, .one]))], [(.c .one)], .pure, [.tmp 2],
(s [mK 2 (.it .i64 0)]
(s [mK 3 (.it .i64 0)]
(.seq (s [mK 4 (.it .i64 0)]
(.blk 0 (.loop [0, 3, 4] []
(.seq (s [mV 5 4, mV 6 0, lN 7 false 6, o 8 (b .lss (t 5) (t 7))]
(.cond (t 8)
.skip
(.exit 0)))
(.seq (.blk 1 (.reg true [
mV 11 3, mV 12 0, mV 13 4, o 14 (.ias 2 (t 12) (t 13)), fA 15 0 14, lD 16 1 15, lN 17 true 16, o 18 (b .add (t 11) (t 17)), mV 19 0, mV 20 4, o 21 (.ias 2 (t 19) (t 20)), fA 22 1 21, lD 23 1 22, lN 24 true 23, o 25 (b .add (t 18) (t 24)), mV 3 25] []))
(r [mV 9 4, o 10 (b .add (t 9) (k 1)), mV 4 10]))))))
(s [mV 26 3, mV 2 26]
.ret))))⟩
def c40 : Ev.Fn := d40.den
def p40 : Pol := { P0 .pure with mask := [(3, [0, 3, 4], [])] }
theorem r40 : FnOK Try.prog mds 40 c40 := .read (pol := p40) (d := d40) Try.func40 (by kernel_rfl) (by kernel_rfl) rfl rfl (by kernel_rfl)

def d41 : DFn := ⟨[(.g [.one, .one, .one, .one, (.sl [.one, .one]), .one, .one, (.sl [.one, .one]), .one, .one, .one, .one]), (.g [.one, .one, .one, .one, (.sl [.one, .one]), .one])], [(.c .one)], .pure, [.tmp 4],
(s [o 2 (.box (t 0)), o 3 (.box (t 1)), mK 4 (.bo false)]
(.seq (.reg false [
fA 13 6 2, fA 14 1 13, lD 15 1 14, cP 16 31 [t 15], mV 12 16, eX 17 12 0, eX 18 12 1, mV 5 17, mV 6 18] [13, 14])
(.seq (.seq (.reg false [
mV 19 6] [])
(.cond (t 19)
(s [mK 4 (.bo false)]
.ret)
.skip))
(.seq (s [mK 7 (.it .i64 0)]
(.blk 0 (.loop [2, 3, 5, 7] []
(.seq (s [mV 20 7, mV 21 5, lN 22 false 21, o 23 (b .lss (t 20) (t 22))]
(.cond (t 23)
.skip
(.exit 0)))
(.seq (.blk 1 (.seq (.reg true [
fA 27 0 2, fA 28 4 27, lD 29 1 28, mV 30 5, mV 31 7, o 32 (.ias 1 (t 30) (t 31)), lD 33 1 32, cP 34 46 [t 29, t 33], mV 26 34, eX 35 26 0, eX 36 26 1, mV 8 35, mV 9 36] [27, 28])
(.seq (.reg true [
fA 38 4 3, lD 39 1 38, mV 40 5, mV 41 7, o 42 (.ias 1 (t 40) (t 41)), lD 43 1 42, cP 44 46 [t 39, t 43], mV 37 44, eX 45 37 0, eX 46 37 1, mV 10 45, mV 11 46] [38])
(s [mV 47 9, o 48 (b .gtr (t 47) (k 0)), mV 49 11, o 50 (b .gtr (t 49) (k 0)), o 51 (.bin .bo .neq (t 48) (t 50)), mV 52 51, x 53 52 (.mov (t 8)), x 54 52 (.call false .pure 55 [t 53]), x 55 52 (.mov (t 10)), x 56 52 (.call false .pure 55 [t 55]), x 57 52 (b .neq (t 54) (t 56)), o 58 (.pick (t 52) (.k (.bo true)) (t 57))]
(.cond (t 58)
(s [mK 4 (.bo false)]
.ret)
.skip)))))
(r [mV 24 7, o 25 (b .add (t 24) (k 1)), mV 7 25]))))))
(s [mK 4 (.bo true)]
.ret)))))⟩
def c41 : Ev.Fn := d41.den
def p41 : Pol := { P0 .pure with loc := [2, 3], ord := [(0, [2, 0, 1]), (9, [0, 1, 2, 3, 4, 5, 6, 8, 7, 9, 10, 11])], clr := [(1, [13, 14]), (7, [27, 28]), (8, [38])], mask := [(5, [2, 3, 5, 7], [])] }
theorem r41 : FnOK Try.prog mds 41 c41 := .read (pol := p41) (d := d41) Try.func41 (by kernel_rfl) (by kernel_rfl) rfl rfl (by kernel_rfl)

def d42 : DFn := ⟨[(.c .one), (.c .one)], [], .rw, [],
(.reg true [
mV 4 0, mV 6 0, nK 7 6, fA 8 0 7, lD 9 1 8, mV 10 1, o 11 (.slc false 12 (t 9) none (some (t 10))), mV 13 0, nK 14 13, fA 15 0 14, lD 16 1 15, mV 17 1, o 18 (b .add (t 17) (k 1)), o 19 (.slc false 12 (t 16) (some (t 18)) none), o 5 (.bsl 12 [] []), u 12 [15, 16] (.app 12 168 (t 5) (t 11)), o 20 (.app 12 168 (t 12) (t 19)), nK 21 4, fA 22 0 21, sO 1 22 20] [])⟩
def c42 : Ev.Fn := d42.den
def p42 : Pol := { P0 .rw with heap := [5, 12, 20], own := [5, 12, 20], ord := [(0, [0, 2, 3, 4, 5, 6, 7, 9, 10, 11, 12, 13, 14, 15, 1, 8, 16, 17, 18, 19])] }
theorem r42 : FnOK Try.prog mds 42 c42 := .read (pol := p42) (d := d42) Try.func42 (by kernel_rfl) (by kernel_rfl) rfl rfl (by kernel_rfl)

def d43 : DFn := ⟨[(.c .one), (.g [.one, .one, .one, .one, (.sl [.one, .one]), .one])], [(.c .one)], .ro, [.tmp 4],
(s [o 3 (.box (t 1)), mK 4 (.it .i64 0)]
(.seq (s [mK 5 (.it .i64 0)]
(.blk 0 (.loop [0, 3, 5] []
(.seq (s [mV 6 5, mV 7 0, nK 8 7, fA 9 0 8, lD 10 1 9, lN 11 false 10, o 12 (b .lss (t 6) (t 11))]
(.cond (t 12)
.skip
(.exit 0)))
(.seq (.blk 1 (.seq (.reg true [
mV 15 0, nK 16 15, fA 17 0 16, lD 18 1 17, mV 19 5, o 20 (.ias 12 (t 18) (t 19)), fA 21 0 20, lQ 22 6 21, lQ 24 6 3, cP 23 29 [t 22], cP 25 29 [t 24], o 26 (b .eql (t 23) (t 25)), mV 27 26, w 28 27 (.mov (t 0)), w 29 27 (.nck (t 28)), w 30 27 (.fad 0 (t 29)), w 31 27 (.ld 1 false (t 30)), w 32 27 (.mov (t 5)), w 33 27 (.ias 12 (t 31) (t 32)), w 34 27 (.ld 12 true (t 33)), w 35 27 (.ld 6 true (t 3)), w 36 27 (.call false .pure 41 [t 34, t 35]), o 37 (.pick (t 27) (t 36) (.k (.bo false)))] [])
(.cond (t 37)
(s [mV 38 5, mV 4 38]
.ret)
.skip)))
(r [mV 13 5, o 14 (b .add (t 13) (k 1)), mV 5 14]))))))
(s [mK 4 (.it .i64 (-1))]
.ret)))⟩
def c43 : Ev.Fn := d43.den
def p43 : Pol := { P0 .ro with loc := [3], ord := [(0, [1, 0]), (4, [0, 1, 2, 3, 4, 5, 6, 7, 9, 8, 10, 11, 12, 13, 14, 15, 16, 17, 18, 19, 20, 21, 22])], mask := [(2, [0, 3, 5], [])] }
theorem r43 : FnOK Try.prog mds 43 c43 := .read (pol := p43) (d := d43) Try.func43 (by kernel_rfl) (by kernel_rfl) rfl rfl (by kernel_rfl)

def d44 : DFn := ⟨[(.g [.one, .one, .one, .one, (.sl [.one, .one]), .one]), (.g [.one, .one, .one, .one, (.sl [.one, .one]), .one])], [(.c .one)], .ro, [.tmp 4],
(s [o 2 (.box (t 0)), o 3 (.box (t 1)), mK 4 (.bo false)]
(.seq (.reg false [
fA 5 0 2, lD 6 1 5, fA 7 0 3, lD 8 1 7, o 9 (b .eql (t 6) (t 8)), mV 10 9, w 11 10 (.fad 1 (t 2)), w 12 10 (.ld 1 false (t 11)), w 13 10 (.fad 1 (t 3)), w 14 10 (.ld 1 false (t 13)), w 15 10 (b .eql (t 12) (t 14)), o 16 (.pick (t 10) (t 15) (.k (.bo false))), mV 17 16, w 18 17 (.fad 2 (t 2)), w 19 17 (.ld 1 false (t 18)), w 20 17 (.fad 2 (t 3)), w 21 17 (.ld 1 false (t 20)), w 22 17 (b .eql (t 19) (t 21)), o 23 (.pick (t 17) (t 22) (.k (.bo false))), mV 24 23, w 25 24 (.fad 3 (t 2)), w 26 24 (.ld 1 false (t 25)), w 27 24 (.fad 3 (t 3)), w 28 24 (.ld 1 false (t 27)), w 29 24 (b .eql (t 26) (t 28)), o 30 (.pick (t 24) (t 29) (.k (.bo false))), mV 31 30, w 32 31 (.fad 4 (t 2)), w 33 31 (.ld 1 false (t 32)), w 34 31 (.fad 4 (t 3)), w 35 31 (.ld 1 false (t 34)), w 36 31 (.call false .ro 56 [t 33, t 35]), o 37 (.pick (t 31) (t 36) (.k (.bo false))), mV 38 37, w 39 38 (.fad 5 (t 2)), w 40 38 (.ld 1 false (t 39)), w 41 38 (.fad 5 (t 3)), w 42 38 (.ld 1 false (t 41)), w 43 38 (b .eql (t 40) (t 42)), o 44 (.pick (t 38) (t 43) (.k (.bo false))), mV 4 44] [5, 7, 11, 13, 18, 20, 25, 27, 32, 34, 39, 41])
.ret))⟩
def c44 : Ev.Fn := d44.den
def p44 : Pol := { P0 .ro with loc := [2, 3], ord := [(0, [2, 0, 1])], clr := [(1, [5, 7, 11, 13, 18, 20, 25, 27, 32, 34, 39, 41])] }
theorem r44 : FnOK Try.prog mds 44 c44 := .read (pol := p44) (d := d44) Try.func44 (by kernel_rfl) (by kernel_rfl) rfl rfl (by kernel_rfl)

def d45 : DFn := ⟨[(.g [.one, (.sl [.one, .one]), .one]), (.g [.one, (.sl [.one, .one]), .one])], [(.c .one)], .ro, [.tmp 4],
(.seq (.reg false [
o 2 (.box (t 0)), o 3 (.box (t 1)), mK 4 (.bo false)] [])
(.seq (.reg false [
fA 5 0 2, lD 6 1 5, fA 7 0 3, lD 8 1 7, o 9 (b .eql (t 6) (t 8)), mV 10 9, w 11 10 (.fad 1 (t 2)), w 12 10 (.ld 1 false (t 11)), w 13 10 (.fad 1 (t 3)), w 14 10 (.ld 1 false (t 13)), w 15 10 (.call false .ro 56 [t 12, t 14]), o 16 (.pick (t 10) (t 15) (.k (.bo false))), mV 17 16, w 18 17 (.fad 2 (t 2)), w 19 17 (.ld 1 false (t 18)), w 20 17 (.fad 2 (t 3)), w 21 17 (.ld 1 false (t 20)), w 22 17 (b .eql (t 19) (t 21)), o 23 (.pick (t 17) (t 22) (.k (.bo false))), mV 4 23] [5, 7, 11, 13, 18, 20])
.ret))⟩
def c45 : Ev.Fn := d45.den
def p45 : Pol := { P0 .ro with loc := [2, 3], ord := [(0, [2, 0, 1])], clr := [(1, [5, 7, 11, 13, 18, 20])] }
theorem r45 : FnOK Try.prog mds 45 c45 := .read (pol := p45) (d := d45) Try.func45 (by kernel_rfl) (by kernel_rfl) rfl rfl (by kernel_rfl)

def d46 : DFn := ⟨[(.c (.sl [.one, .one])), (.c .one)], [(.c .one), (.c .one)], .pure, [.tmp 4, .tmp 5],
(.seq (.reg false [
mK 4 (.st []), mK 5 (.it .i64 0)] [])
(s [mK 6 (.st []), mK 7 (.it .i64 0)]
(.seq (s [mK 8 (.it .i64 0)]
(.blk 0 (.loop [0, 1, 6, 7, 8] []
(.seq (s [mV 9 8, mV 10 0, lN 11 false 10, o 12 (b .lss (t 9) (t 11))]
(.cond (t 12)
.skip
(.exit 0)))
(.seq (.blk 1 (.seq (s [mV 15 0, mV 16 8, o 17 (.ias 2 (t 15) (t 16)), fA 18 0 17, lD 19 1 18, mV 20 1, o 21 (b .neq (t 19) (t 20))]
(.cond (t 21)
(.exit 1)
.skip))
(.seq (s [mV 22 7, o 23 (b .gtr (t 22) (k 0))]
(.cond (t 23)
(r [mV 24 6, o 25 (b .add (t 24) (.k (.st [44, 32]))), mV 6 25])
.skip))
(s [mV 26 6, mV 27 0, mV 28 8, o 29 (.ias 2 (t 27) (t 28)), fA 30 1 29, lD 31 1 30, o 32 (b .add (t 26) (t 31)), mV 6 32]
(r [mV 33 7, o 34 (b .add (t 33) (k 1)), mV 7 34])))))
(r [mV 13 8, o 14 (b .add (t 13) (k 1)), mV 8 14]))))))
(s [mV 35 6, mV 36 7, mV 4 35, mV 5 36]
.ret))))⟩
def c46 : Ev.Fn := d46.den
def p46 : Pol := { P0 .pure with mask := [(3, [0, 1, 6, 7, 8], [])] }
theorem r46 : FnOK Try.prog mds 46 c46 := .read (pol := p46) (d := d46) Try.func46 (by kernel_rfl) (by kernel_rfl) rfl rfl (by kernel_rfl)

def d47 : DFn := ⟨[(.c .one)], [(.c (.sl [.one])), (.c .one)], .pure, [.tmp 2, .tmp 3],
(s [mK 2 .ns, mK 3 (.bo false)]
(s [mK 4 .ns]
(s [mK 5 (.it .i64 0)]
(s [mK 6 (.bo false)]
(.seq (s [mK 7 (.it .i64 0)]
(.blk 0 (.loop [0, 4, 5, 6, 7] []
(.seq (s [mV 9 7, mV 10 0, lN 11 true 10, o 12 (b .leq (t 9) (t 11))]
(.cond (t 12)
.skip
(.exit 0)))
(.seq (.blk 1 (.seq (s [mV 15 7, mV 16 0, lN 17 true 16, o 18 (b .lss (t 15) (t 17)), mV 19 18, w 20 19 (.mov (t 6)), o 21 (.pick (t 19) (t 20) (.k (.bo false)))]
(.cond (t 21)
(.seq (s [mV 22 0, mV 23 7, o 24 (.ixs (t 22) (t 23)), o 25 (b .eql (t 24) (.k (.it .u8 92)))]
(.cond (t 25)
(s [mV 26 7, o 27 (b .add (t 26) (k 1)), mV 7 27]
(s [mV 28 7, mV 29 0, lN 30 true 29, o 31 (b .geq (t 28) (t 30))]
(.cond (t 31)
(s [mK 2 .ns, mK 3 (.bo false)]
.ret)
.skip)))
(s [mV 32 0, mV 33 7, o 34 (.ixs (t 32) (t 33)), o 35 (b .eql (t 34) (.k (.it .u8 34)))]
(.cond (t 35)
(r [mK 6 (.bo false)])
.skip))))
(.exit 1))
.skip))
(s [mV 36 7, mV 37 0, lN 38 true 37, o 39 (b .eql (t 36) (t 38)), mV 40 39, x 41 40 (.mov (t 0)), x 42 40 (.mov (t 7)), x 43 40 (.ixs (t 41) (t 42)), x 44 40 (b .eql (t 43) (.k (.it .u8 44))), o 45 (.pick (t 40) (.k (.bo true)) (t 44))]
(.cond (t 45)
(.seq (s [mV 46 0, mV 47 5, mV 48 7, o 49 (.slc true 0 (t 46) (some (t 47)) (some (t 48))), cP 50 55 [t 49], mV 8 50]
(s [mV 51 8, o 52 (b .neq (t 51) (.k (.st [])))]
(.cond (t 52)
(r [mV 53 4, mV 54 8, o 55 (.bsv [.one] 1 [[(.st [])]] [(0, (t 54))]), o 56 (.app 1 16 (t 53) (t 55)), mV 4 56])
.skip)))
(r [mV 57 7, o 58 (b .add (t 57) (k 1)), mV 5 58]))
(s [mV 59 0, mV 60 7, o 61 (.ixs (t 59) (t 60)), o 62 (b .eql (t 61) (.k (.it .u8 34)))]
(.cond (t 62)
(r [mK 6 (.bo true)])
.skip))))))
(r [mV 13 7, o 14 (b .add (t 13) (k 1)), mV 7 14]))))))
(.seq (s [mV 63 6]
(.cond (t 63)
(s [mK 2 .ns, mK 3 (.bo false)]
.ret)
.skip))
(s [mV 64 4, mV 2 64, mK 3 (.bo true)]
.ret)))))))⟩
def c47 : Ev.Fn := d47.den
def p47 : Pol := { P0 .pure with heap := [56], own := [56], mask := [(5, [0, 4, 5, 6, 7], [])] }
theorem r47 : FnOK Try.prog mds 47 c47 := .read (pol := p47) (d := d47) Try.func47 (by kernel_rfl) (by kernel_rfl) rfl rfl (by kernel_rfl)

def d48 : DFn := ⟨[(.c .one)], [(.c .one)], .pure, [.tmp 2],
(s [mK 2 (.bo false)]
(.seq (s [mK 3 (.it .i64 0)]
(.blk 0 (.loop [0, 3] []
(.seq (s [mV 4 3, mV 5 0, lN 6 true 5, o 7 (b .lss (t 4) (t 6))]
(.cond (t 7)
.skip
(.exit 0)))
(.seq (.blk 1 (s [mV 10 0, mV 11 3, o 12 (.ixs (t 10) (t 11)), cP 13 57 [t 12], o 14 (.un .not (t 13))]
(.cond (t 14)
(s [mK 2 (.bo false)]
.ret)
.skip)))
(r [mV 8 3, o 9 (b .add (t 8) (k 1)), mV 3 9]))))))
(s [mV 15 0, o 16 (b .neq (t 15) (.k (.st []))), mV 2 16]
.ret)))⟩
def c48 : Ev.Fn := d48.den
def p48 : Pol := { P0 .pure with mask := [(2, [0, 3], [])] }
theorem r48 : FnOK Try.prog mds 48 c48 := .read (pol := p48) (d := d48) Try.func48 (by kernel_rfl) (by kernel_rfl) rfl rfl (by kernel_rfl)

def d49 : DFn := ⟨[(.c .one)], [(.c .one)], .pure, [.tmp 2],
(s [mK 2 (.st [])]
(s [mV 5 0, o 6 (.cnv .s2b (t 5)), mV 3 6]
(.seq (s [mK 4 (.it .i64 0)]
(.blk 0 (.loop [3, 4] []
(.seq (s [mV 7 4, mV 8 3, lN 9 false 8, o 10 (b .lss (t 7) (t 9))]
(.cond (t 10)
.skip
(.exit 0)))
(.seq (.blk 1 (s [mV 13 3, mV 14 4, o 15 (.ias 1 (t 13) (t 14)), lD 16 1 15, o 17 (b .geq (t 16) (.k (.it .u8 65))), mV 18 17, w 19 18 (.mov (t 3)), w 20 18 (.mov (t 4)), w 21 18 (.ias 1 (t 19) (t 20)), w 22 18 (.ld 1 false (t 21)), w 23 18 (b .leq (t 22) (.k (.it .u8 90))), o 24 (.pick (t 18) (t 23) (.k (.bo false)))]
(.cond (t 24)
(r [mV 25 3, mV 26 4, mV 27 3, mV 28 4, o 29 (.ias 1 (t 27) (t 28)), lD 30 1 29, o 31 (b .add (t 30) (.k (.it .u8 32))), o 32 (.ias 1 (t 25) (t 26)), sO 1 32 31])
.skip)))
(r [mV 11 4, o 12 (b .add (t 11) (k 1)), mV 4 12]))))))
(s [mV 33 3, o 34 (.cnv .b2s (t 33)), mV 2 34]
.ret))))⟩
def c49 : Ev.Fn := d49.den
def p49 : Pol := { P0 .pure with heap := [6], own := [6], mask := [(3, [3, 4], [])] }
theorem r49 : FnOK Try.prog mds 49 c49 := .read (pol := p49) (d := d49) Try.func49 (by kernel_rfl) (by kernel_rfl) rfl rfl (by kernel_rfl)

def d50 : DFn := ⟨[(.g [.one, .one, .one, .one, (.sl [.one, .one]), .one, .one, (.sl [.one, .one]), .one, .one, .one, .one]), (.g [.one, .one, .one, .one, (.sl [.one, .one]), .one])], [(.c .one)], .pure, [.tmp 4],
(s [o 2 (.box (t 0)), o 3 (.box (t 1)), mK 4 (.bo false)]
(.seq (.reg false [
fA 14 6 2, fA 15 1 14, lD 16 1 15, cP 17 58 [t 16], mV 13 17, eX 18 13 0, eX 19 13 1, mV 5 18, mV 6 19] [14, 15])
(.seq (.seq (.reg false [
mV 20 6] [])
(.cond (t 20)
(s [mK 4 (.bo false)]
.ret)
.skip))
(.seq (s [mV 21 5, lN 22 false 21, mK 23 (.it .i64 0)]
(.blk 0 (.loop [2, 3, 21, 22, 23] []
(s [o 24 (b .lss (t 23) (t 22))]
(.seq (.cond (t 24)
.skip
(.exit 0))
(.seq (.blk 1 (s [o 25 (.ias 1 (t 21) (t 23)), lD 26 1 25, mV 8 26]
(.seq (.reg false [
fA 28 0 2, fA 29 4 28, lD 30 1 29, mV 31 8, cP 32 59 [t 30, t 31], mV 27 32, eX 33 27 0, eX 34 27 1, mV 9 33, mV 10 34] [28, 29])
(.seq (.reg false [
fA 36 4 3, lD 37 1 36, mV 38 8, cP 39 59 [t 37, t 38], mV 35 39, eX 40 35 0, eX 41 35 1, mV 11 40, mV 12 41] [36])
(.seq (.reg false [
mV 42 10, o 43 (b .gtr (t 42) (k 0)), mV 44 12, o 45 (b .gtr (t 44) (k 0)), o 46 (.bin .bo .neq (t 43) (t 45)), mV 47 46, x 48 47 (.mov (t 9)), x 49 47 (.call false .pure 60 [t 48]), x 50 47 (.mov (t 11)), x 51 47 (.call false .pure 60 [t 50]), x 52 47 (b .neq (t 49) (t 51)), o 53 (.pick (t 47) (.k (.bo true)) (t 52))] [])
(.cond (t 53)
(s [mK 4 (.bo false)]
.ret)
.skip))))))
(r [o 54 (b .add (t 23) (k 1)), mV 23 54])))))))
(s [mK 4 (.bo true)]
.ret)))))⟩
def c50 : Ev.Fn := d50.den
def p50 : Pol := { P0 .pure with loc := [2, 3], ord := [(0, [2, 0, 1]), (9, [0, 1, 2, 3, 4, 5, 6, 8, 7, 9, 10, 11])], clr := [(1, [14, 15]), (7, [28, 29]), (8, [36])], mask := [(5, [2, 3, 21, 22, 23], [])] }
theorem r50 : FnOK Try.prog mds 50 c50 := .read (pol := p50) (d := d50) Try.func50 (by kernel_rfl) (by kernel_rfl) rfl rfl (by kernel_rfl)

def d53 : DFn := ⟨[(.c (.sl [.one, .one, .one, .one, (.sl [.one, .one]), .one, .one, (.sl [.one, .one]), .one, .one, .one, .one])), (.c .one)], [(.c .one)], .rw, [.tmp 4],
(s [mK 4 (.it .i64 0)]
(.seq (s [mV 6 0, lN 7 false 6, mK 8 (.it .i64 0)]
(.blk 0 (.loop [0, 1, 7, 8] []
(s [o 9 (b .lss (t 8) (t 7))]
(.seq (.cond (t 9)
.skip
(.exit 0))
(.seq (.blk 1 (s [mV 10 8, mV 5 10]
(s [mV 11 1, mV 12 0, mV 13 5, o 14 (.ias 12 (t 12) (t 13)), lQ 15 12 14, o 16 (.calv [] (t 11) [t 15])]
(.cond (t 16)
(s [mV 17 5, mV 4 17]
.ret)
.skip))))
(r [o 18 (b .add (t 8) (k 1)), mV 8 18])))))))
(s [mK 4 (.it .i64 (-1))]
.ret)))⟩
def c53 : Ev.Fn := d53.den
def p53 : Pol := { P0 .rw with mask := [(2, [0, 1, 7, 8], [])] }
theorem r53 : FnOK Try.prog mds 53 c53 := .read (pol := p53) (d := d53) Try.func53 (by kernel_rfl) (by kernel_rfl) rfl rfl (by kernel_rfl)

def d54 : DFn := ⟨[(.g [.one, .one, .one, .one, (.sl [.one, .one]), .one, .one, (.sl [.one, .one]), .one, .one, .one, .one]), (.c .one)], [(.c .one)], .rw, [.tmp 3],
(s [o 2 (.box (t 0)), mK 3 (.bo false)]
(s [lQ 4 12 2, lQ 5 6 1, cP 6 32 [t 4, t 5], mV 3 6]
.ret))⟩
def c54 : Ev.Fn := d54.den
def p54 : Pol := { P0 .rw with loc := [2], ord := [(0, [1, 0])] }
theorem r54 : FnOK Try.prog mds 54 c54 := .read (pol := p54) (d := d54) Try.func54 (by kernel_rfl) (by kernel_rfl) rfl rfl (by kernel_rfl)

def d55 : DFn := ⟨[(.c .one)], [(.c .one)], .pure, [.tmp 2],
(s [mK 2 (.st [])]
(.seq (.blk 0 (.loop [0] []
(.seq (s [mV 3 0, lN 4 true 3, o 5 (b .gtr (t 4) (k 0)), mV 6 5, w 7 6 (.mov (t 0)), w 8 6 (.ixs (t 7) (k 0)), w 9 6 (.call false .pure 63 [t 8]), o 10 (.pick (t 6) (t 9) (.k (.bo false)))]
(.cond (t 10)
.skip
(.exit 0)))
(.blk 1 (r [mV 11 0, o 12 (.slc true 0 (t 11) (some (k 1)) none), mV 0 12])))))
(.seq (.blk 2 (.loop [0] []
(.seq (s [mV 13 0, lN 14 true 13, o 15 (b .gtr (t 14) (k 0)), mV 16 15, w 17 16 (.mov (t 0)), w 18 16 (.mov (t 0)), w 19 16 (.len true (t 18)), w 20 16 (b .sub (t 19) (k 1)), w 21 16 (.ixs (t 17) (t 20)), w 22 16 (.call false .pure 63 [t 21]), o 23 (.pick (t 16) (t 22) (.k (.bo false)))]
(.cond (t 23)
.skip
(.exit 2)))
(.blk 3 (r [mV 24 0, mV 25 0, lN 26 true 25, o 27 (b .sub (t 26) (k 1)), o 28 (.slc true 0 (t 24) none (some (t 27))), mV 0 28])))))
(s [mV 29 0, mV 2 29]
.ret))))⟩
def c55 : Ev.Fn := d55.den
def p55 : Pol := { P0 .pure with mask := [(1, [0], []), (3, [0], [])] }
theorem r55 : FnOK Try.prog mds 55 c55 := .read (pol := p55) (d := d55) Try.func55 (by kernel_rfl) (by kernel_rfl) rfl rfl (by kernel_rfl)

def d56 : DFn := ⟨[(.c (.sl [.one, .one])), (.c (.sl [.one, .one]))], [(.c .one)], .ro, [.tmp 4],
(s [mK 4 (.bo false)]
(.seq (s [mV 6 0, lN 7 false 6, mV 8 1, lN 9 false 8, o 10 (b .neq (t 7) (t 9))]
(.cond (t 10)
(s [mK 4 (.bo false)]
.ret)
.skip))
(.seq (s [mK 5 (.it .i64 0)]
(.blk 0 (.loop [0, 1, 5] []
(.seq (s [mV 11 5, mV 12 0, lN 13 false 12, o 14 (b .lss (t 11) (t 13))]
(.cond (t 14)
.skip
(.exit 0)))
(.seq (.blk 1 (.seq (.reg true [
mV 17 0, mV 18 5, o 19 (.ias 2 (t 17) (t 18)), lQ 20 2 19, mV 21 1, mV 22 5, o 23 (.ias 2 (t 21) (t 22)), lQ 24 2 23, o 25 (.bin (.ag [1, 1]) .neq (t 20) (t 24))] [])
(.cond (t 25)
(s [mK 4 (.bo false)]
.ret)
.skip)))
(r [mV 15 5, o 16 (b .add (t 15) (k 1)), mV 5 16]))))))
(s [mK 4 (.bo true)]
.ret))))⟩
def c56 : Ev.Fn := d56.den
def p56 : Pol := { P0 .ro with mask := [(4, [0, 1, 5], [])] }
theorem r56 : FnOK Try.prog mds 56 c56 := .read (pol := p56) (d := d56) Try.func56 (by kernel_rfl) (by kernel_rfl) rfl rfl (by kernel_rfl)

def d57 : DFn := ⟨[(.c .one)], [(.c .one)], .pure, [.tmp 2],
(s [mK 2 (.bo false)]
(.seq (s [mV 4 0, o 5 (b .geq (t 4) (.k (.it .u8 48))), mV 6 5, w 7 6 (.mov (t 0)), w 8 6 (b .leq (t 7) (.k (.it .u8 57))), o 9 (.pick (t 6) (t 8) (.k (.bo false))), mV 10 9, x 11 10 (.mov (t 0)), x 12 10 (b .geq (t 11) (.k (.it .u8 97))), x 13 10 (.mov (t 12)), w 14 13 (.mov (t 0)), w 15 13 (b .leq (t 14) (.k (.it .u8 122))), x 16 10 (.pick (t 13) (t 15) (.k (.bo false))), o 17 (.pick (t 10) (.k (.bo true)) (t 16)), mV 18 17, x 19 18 (.mov (t 0)), x 20 18 (b .geq (t 19) (.k (.it .u8 65))), x 21 18 (.mov (t 20)), w 22 21 (.mov (t 0)), w 23 21 (b .leq (t 22) (.k (.it .u8 90))), x 24 18 (.pick (t 21) (t 23) (.k (.bo false))), o 25 (.pick (t 18) (.k (.bo true)) (t 24))]
(.cond (t 25)
(s [mK 2 (.bo true)]
.ret)
.skip))
(.seq (s [mK 3 (.it .i64 0)]
(.blk 0 (.loop [0, 3] []
(.seq (s [mV 26 3, o 27 (b .lss (t 26) (k 15))]
(.cond (t 27)
.skip
(.exit 0)))
(.seq (.blk 1 (s [mV 30 3, o 31 (.ixs (.k (.st [33, 35, 36, 37, 38, 39, 42, 43, 45, 46, 94, 95, 96, 124, 126])) (t 30)), mV 32 0, o 33 (b .eql (t 31) (t 32))]
(.cond (t 33)
(s [mK 2 (.bo true)]
.ret)
.skip)))
(r [mV 28 3, o 29 (b .add (t 28) (k 1)), mV 3 29]))))))
(s [mK 2 (.bo false)]
.ret))))⟩
def c57 : Ev.Fn := d57.den
def p57 : Pol := { P0 .pure with mask := [(4, [0, 3], [])] }
theorem r57 : FnOK Try.prog mds 57 c57 := .read (pol := p57) (d := d57) Try.func57 (by kernel_rfl) (by kernel_rfl) rfl rfl (by kernel_rfl)

def d58 : DFn := ⟨[(.c (.sl [.one, .one]))], [(.c (.sl [.one])), (.c .one)], .pure, [.tmp 2, .tmp 3],
(s [mK 2 .ns, mK 3 (.bo false)]
(s [mV 11 0, o 12 (.call false .pure 59 [t 11, (.k (.st [118, 97, 114, 121]))]), mV 10 12, eX 13 10 0, eX 14 10 1, mV 4 13, mV 5 14]
(s [mV 16 4, o 17 (.call true .rw 64 [t 16]), mV 15 17, eX 18 15 0, eX 19 15 1, mV 6 18, mV 7 19]
(.seq (s [mV 20 7, o 21 (.un .not (t 20))]
(.cond (t 21)
(s [mK 2 .ns, mK 3 (.bo true)]
.ret)
.skip))
(.seq (s [mV 22 6, lN 23 false 22, mK 24 (.it .i64 0)]
(.blk 0 (.loop [6, 22, 23, 24] []
(s [o 25 (b .lss (t 24) (t 23))]
(.seq (.cond (t 25)
.skip
(.exit 0))
(.seq (.blk 1 (s [mV 26 24, o 27 (.ias 1 (t 22) (t 24)), lD 28 1 27, mV 8 26, mV 9 28]
(.seq (s [mV 29 9, o 30 (b .eql (t 29) (.k (.st [42]))), mV 31 30, x 32 31 (.mov (t 9)), x 33 31 (.call false .pure 65 [t 32]), x 34 31 (.un .not (t 33)), o 35 (.pick (t 31) (.k (.bo true)) (t 34))]
(.cond (t 35)
(s [mK 2 .ns, mK 3 (.bo true)]
.ret)
.skip))
(r [mV 36 6, mV 37 8, mV 38 9, o 39 (.call true .pure 66 [t 38]), o 40 (.ias 1 (t 36) (t 37)), sO 1 40 39]))))
(r [o 41 (b .add (t 24) (k 1)), mV 24 41])))))))
(s [mV 42 6, mV 2 42, mK 3 (.bo false)]
.ret))))))⟩
def c58 : Ev.Fn := d58.den
def p58 : Pol := { P0 .pure with heap := [17, 39], own := [17, 39], mask := [(6, [6, 22, 23, 24], [])] }
theorem r58 : FnOK Try.prog mds 58 c58 := .read (pol := p58) (d := d58) Try.func58 (by kernel_rfl) (by kernel_rfl) rfl rfl (by kernel_rfl)

def d59 : DFn := ⟨[(.c (.sl [.one, .one])), (.c .one)], [(.c .one), (.c .one)], .pure, [.tmp 4, .tmp 5],
(s [mK 4 (.st []), mK 5 (.it .i64 0)]
(s [mK 6 .ns]
(.seq (s [mV 9 0, lN 10 false 9, mK 11 (.it .i64 0)]
(.blk 0 (.loop [1, 6, 9, 10, 11] [8]
(s [o 12 (b .lss (t 11) (t 10))]
(.seq (.cond (t 12)
.skip
(.exit 0))
(.seq (.blk 1 (s [o 13 (.ias 2 (t 9) (t 11)), lQ 14 2 13, o 8 (.alc [(.st []), (.st [])]), sO 2 8 14]
(.seq (.reg false [
fA 15 0 8, lD 16 1 15, mV 17 1, o 18 (b .eql (t 16) (t 17))] [15])
(.cond (t 18)
(.reg false [
mV 19 6, fA 20 1 8, lD 21 1 20, o 22 (.bsv [.one] 1 [[(.st [])]] [(0, (t 21))]), o 23 (.app 1 16 (t 19) (t 22)), mV 6 23] [20])
.skip))))
(.reg false [
o 24 (b .add (t 11) (k 1)), mV 11 24] [])))))))
(.seq (r [mV 25 6, o 26 (.call false .pure 67 [t 25, (.k (.st [44, 32]))]), mV 27 6, lN 28 false 27, mV 4 26, mV 5 28])
.ret))))⟩
def c59 : Ev.Fn := d59.den
def p59 : Pol := { P0 .pure with loc := [8], heap := [23], own := [23], ord := [(8, [0, 2, 3, 1, 4, 5])], clr := [(5, [15]), (6, [20])], mask := [(3, [1, 6, 9, 10, 11], [8])] }
theorem r59 : FnOK Try.prog mds 59 c59 := .read (pol := p59) (d := d59) Try.func59 (by kernel_rfl) (by kernel_rfl) rfl rfl (by kernel_rfl)

def d60 : DFn := ⟨[(.c .one)], [(.c .one)], .pure, [.tmp 2],
(s [mK 2 (.st [])]
(.seq (.blk 0 (.loop [0] []
(.seq (s [mV 3 0, o 4 (b .neq (t 3) (.k (.st []))), mV 5 4, w 6 5 (.mov (t 0)), w 7 5 (.ixs (t 6) (k 0)), w 8 5 (.call false .pure 68 [t 7]), o 9 (.pick (t 5) (t 8) (.k (.bo false)))]
(.cond (t 9)
.skip
(.exit 0)))
(.blk 1 (r [mV 10 0, o 11 (.slc true 0 (t 10) (some (k 1)) none), mV 0 11])))))
(.seq (.blk 2 (.loop [0] []
(.seq (s [mV 12 0, o 13 (b .neq (t 12) (.k (.st []))), mV 14 13, w 15 14 (.mov (t 0)), w 16 14 (.mov (t 0)), w 17 14 (.len true (t 16)), w 18 14 (b .sub (t 17) (k 1)), w 19 14 (.ixs (t 15) (t 18)), w 20 14 (.call false .pure 68 [t 19]), o 21 (.pick (t 14) (t 20) (.k (.bo false)))]
(.cond (t 21)
.skip
(.exit 2)))
(.blk 3 (r [mV 22 0, mV 23 0, lN 24 true 23, o 25 (b .sub (t 24) (k 1)), o 26 (.slc true 0 (t 22) none (some (t 25))), mV 0 26])))))
(s [mV 27 0, mV 2 27]
.ret))))⟩
def c60 : Ev.Fn := d60.den
def p60 : Pol := { P0 .pure with mask := [(1, [0], []), (3, [0], [])] }
theorem r60 : FnOK Try.prog mds 60 c60 := .read (pol := p60) (d := d60) Try.func60 (by kernel_rfl) (by kernel_rfl) rfl rfl (by kernel_rfl)

def d63 : DFn := ⟨[(.c .one)], [(.c .one)], .pure, [.tmp 2],
(s [mK 2 (.bo false)]
(s [mV 3 0, o 4 (b .eql (t 3) (.k (.it .u8 32))), mV 5 4, x 6 5 (.mov (t 0)), x 7 5 (b .eql (t 6) (.k (.it .u8 9))), o 8 (.pick (t 5) (.k (.bo true)) (t 7)), mV 2 8]
.ret))⟩
def c63 : Ev.Fn := d63.den
def p63 : Pol := P0 .pure
theorem r63 : FnOK Try.prog mds 63 c63 := .read (pol := p63) (d := d63) Try.func63 (by kernel_rfl) (by kernel_rfl) rfl rfl (by kernel_rfl)

def d64 : DFn := ⟨[(.c .one)], [(.c (.sl [.one])), (.c .one)], .rw, [.tmp 2, .tmp 3],
(s [o 1 (.bxh (t 0)), mK 2 .ns, mK 3 (.bo false)]
(s [o 4 (.alh [.ns])]
(s [o 5 (.alh [(.it .i64 0)]), n (.sto 1 (t 5) (k 0))]
(s [o 10 (.mkf 70 [] [t 1, t 5, t 4]), mV 6 10]
(.seq (s [mK 7 (.it .i64 0)]
(.blk 0 (.loop [1, 4, 5, 6, 7] []
(.seq (s [mV 11 7, lD 12 1 1, lN 13 true 12, o 14 (b .lss (t 11) (t 13))]
(.cond (t 14)
.skip
(.exit 0)))
(.blk 1 (s [lD 15 1 1, mV 16 7, o 17 (.ixs (t 15) (t 16))]
(.blk 2 (s [o 21 (b .eql (t 17) (.k (.it .u8 44))), mV 20 21]
(.cond (t 20)
(s [mV 22 6, mV 23 7, o 24 (.calv [] (t 22) [t 23])]
(s [mV 25 7, o 26 (b .add (t 25) (k 1)), mV 7 26]
(r [mV 27 7, sO 1 5 27])))
(s [o 29 (b .eql (t 17) (.k (.it .u8 34))), mV 28 29]
(.cond (t 28)
(s [lD 31 1 1, mV 32 7, o 33 (.call true .pure 71 [t 31, t 32]), mV 30 33, eX 34 30 0, eX 35 30 1, mV 8 34, mV 9 35]
(.seq (s [mV 36 9, o 37 (.un .not (t 36))]
(.cond (t 37)
(s [mK 2 .ns, mK 3 (.bo false)]
.ret)
.skip))
(r [mV 38 8, mV 7 38])))
(r [mV 18 7, o 19 (b .add (t 18) (k 1)), mV 7 19]))))))))))))
(s [mV 39 6, lD 40 1 1, lN 41 true 40, o 42 (.calv [] (t 39) [t 41])]
(s [lD 43 1 4, mV 2 43, mK 3 (.bo true)]
.ret)))))))⟩
def c64 : Ev.Fn := d64.den
def p64 : Pol := { P0 .rw with heap := [33], own := [33], ord := [(0, [1, 2, 0])], mask := [(5, [1, 4, 5, 6, 7], [])], fns := [70] }
theorem r64 : FnOK Try.prog mds 64 c64 := .read (pol := p64) (d := d64) Try.func64 (by kernel_rfl) (by kernel_rfl) rfl rfl (by kernel_rfl)

def d65 : DFn := ⟨[(.c .one)], [(.c .one)], .pure, [.tmp 2],
(s [mK 2 (.bo false)]
(.seq (s [mV 4 0, lN 5 true 4, mK 6 (.it .i64 0)]
(.blk 0 (.loop [0, 5, 6] []
(s [o 7 (b .lss (t 6) (t 5))]
(.seq (.cond (t 7)
.skip
(.exit 0))
(.seq (.blk 1 (s [mV 8 6, mV 3 8]
(s [mV 9 0, mV 10 3, o 11 (.ixs (t 9) (t 10)), cP 12 72 [t 11], o 13 (.un .not (t 12))]
(.cond (t 13)
(s [mK 2 (.bo false)]
.ret)
.skip))))
(r [o 14 (b .add (t 6) (k 1)), mV 6 14])))))))
(s [mV 15 0, o 16 (b .neq (t 15) (.k (.st []))), mV 2 16]
.ret)))⟩
def c65 : Ev.Fn := d65.den
def p65 : Pol := { P0 .pure with mask := [(2, [0, 5, 6], [])] }
theorem r65 : FnOK Try.prog mds 65 c65 := .read (pol := p65) (d := d65) Try.func65 (by kernel_rfl) (by kernel_rfl) rfl rfl (by kernel_rfl)

def d66 : DFn := ⟨[(.c .one)], [(.c .one)], .pure, [.tmp 2],
(s [mK 2 (.st [])]
(s [mV 6 0, o 7 (.cnv .s2b (t 6)), mV 3 7]
(.seq (s [mV 8 3, lN 9 false 8, mK 10 (.it .i64 0)]
(.blk 0 (.loop [3, 8, 9, 10] []
(s [o 11 (b .lss (t 10) (t 9))]
(.seq (.cond (t 11)
.skip
(.exit 0))
(.seq (.blk 1 (s [mV 12 10, o 13 (.ias 1 (t 8) (t 10)), lD 14 1 13, mV 4 12, mV 5 14]
(s [mV 15 5, o 16 (b .geq (t 15) (.k (.it .u8 65))), mV 17 16, w 18 17 (.mov (t 5)), w 19 17 (b .leq (t 18) (.k (.it .u8 90))), o 20 (.pick (t 17) (t 19) (.k (.bo false)))]
(.cond (t 20)
(r [mV 21 3, mV 22 4, mV 23 5, o 24 (b .add (t 23) (.k (.it .u8 32))), o 25 (.ias 1 (t 21) (t 22)), sO 1 25 24])
.skip))))
(r [o 26 (b .add (t 10) (k 1)), mV 10 26])))))))
(s [mV 27 3, o 28 (.cnv .b2s (t 27)), mV 2 28]
.ret))))⟩
def c66 : Ev.Fn := d66.den
def p66 : Pol := { P0 .pure with heap := [7], own := [7], mask := [(3, [3, 8, 9, 10], [])] }
theorem r66 : FnOK Try.prog mds 66 c66 := .read (pol := p66) (d := d66) Try.func66 (by kernel_rfl) (by kernel_rfl) rfl rfl (by kernel_rfl)

def d68 : DFn := ⟨[(.c .one)], [(.c .one)], .pure, [.tmp 2],
(s [mK 2 (.bo false)]
(s [mV 3 0, o 4 (b .eql (t 3) (.k (.it .u8 32))), mV 5 4, x 6 5 (.mov (t 0)), x 7 5 (b .eql (t 6) (.k (.it .u8 9))), o 8 (.pick (t 5) (.k (.bo true)) (t 7)), mV 2 8]
.ret))⟩
def c68 : Ev.Fn := d68.den
def p68 : Pol := P0 .pure
theorem r68 : FnOK Try.prog mds 68 c68 := .read (pol := p68) (d := d68) Try.func68 (by kernel_rfl) (by kernel_rfl) rfl rfl (by kernel_rfl)

def d70 : DFn := ⟨[(.c .one), (.c .one), (.c .one), (.c .one)], [], .rw, [],
(s [lD 6 1 1, lD 7 1 2, mV 8 0, o 9 (.slc true 0 (t 6) (some (t 7)) (some (t 8))), cP 10 60 [t 9], mV 5 10]
(s [mV 11 5, o 12 (b .neq (t 11) (.k (.st [])))]
(.cond (t 12)
(r [lD 13 1 3, mV 14 5, o 15 (.bsv [.one] 1 [[(.st [])]] [(0, (t 14))]), o 16 (.app 1 16 (t 13) (t 15)), sO 1 3 16])
.skip)))⟩
def c70 : Ev.Fn := d70.den
def p70 : Pol := { P0 .rw with heap := [16], own := [16] }
theorem r70 : FnOK Try.prog mds 70 c70 := .read (pol := p70) (d := d70) Try.func70 (by kernel_rfl) (by kernel_rfl) rfl rfl (by kernel_rfl)

def d71 : DFn := ⟨[(.c .one), (.c .one)], [(.c .one), (.c .one)], .pure, [.tmp 4, .tmp 5],
(s [mK 4 (.it .i64 0), mK 5 (.bo false)]
(.seq (s [mV 7 1, o 8 (b .add (t 7) (k 1)), mV 6 8]
(.blk 0 (.loop [0, 6] []
(.seq (s [mV 9 6, mV 10 0, lN 11 true 10, o 12 (b .lss (t 9) (t 11))]
(.cond (t 12)
.skip
(.exit 0)))
(.seq (.blk 1 (s [mV 15 0, mV 16 6, o 17 (.ixs (t 15) (t 16))]
(.blk 2 (s [o 19 (b .eql (t 17) (.k (.it .u8 92))), mV 18 19]
(.cond (t 18)
(r [mV 20 6, o 21 (b .add (t 20) (k 1)), mV 6 21])
(s [o 23 (b .eql (t 17) (.k (.it .u8 34))), mV 22 23]
(.cond (t 22)
(s [mV 24 6, o 25 (b .add (t 24) (k 1)), mV 4 25, mK 5 (.bo true)]
.ret)
.skip)))))))
(r [mV 13 6, o 14 (b .add (t 13) (k 1)), mV 6 14]))))))
(s [mK 4 (.it .i64 0), mK 5 (.bo false)]
.ret)))⟩
def c71 : Ev.Fn := d71.den
def p71 : Pol := { P0 .pure with mask := [(2, [0, 6], [])] }
theorem r71 : FnOK Try.prog mds 71 c71 := .read (pol := p71) (d := d71) Try.func71 (by kernel_rfl) (by kernel_rfl) rfl rfl (by kernel_rfl)

def d72 : DFn := ⟨[(.c .one)], [(.c .one)], .pure, [.tmp 2],
(s [mK 2 (.bo false)]
(.seq (.blk 0 (.seq (s [mV 4 0, o 5 (b .geq (t 4) (.k (.it .u8 97))), mV 6 5, w 7 6 (.mov (t 0)), w 8 6 (b .leq (t 7) (.k (.it .u8 122))), o 9 (.pick (t 6) (t 8) (.k (.bo false))), mV 3 9]
(.cond (t 3)
.skip
(s [mV 10 0, o 11 (b .geq (t 10) (.k (.it .u8 65))), mV 12 11, w 13 12 (.mov (t 0)), w 14 12 (b .leq (t 13) (.k (.it .u8 90))), o 15 (.pick (t 12) (t 14) (.k (.bo false))), mV 3 15]
(.cond (t 3)
.skip
(r [mV 16 0, o 17 (b .geq (t 16) (.k (.it .u8 48))), mV 18 17, w 19 18 (.mov (t 0)), w 20 18 (b .leq (t 19) (.k (.it .u8 57))), o 21 (.pick (t 18) (t 20) (.k (.bo false))), mV 3 21])))))
(.cond (t 3)
(s [mK 2 (.bo true)]
.ret)
.skip)))
(s [mV 22 0, o 23 (.call false .pure 77 [(.k (.st [33, 35, 36, 37, 38, 39, 42, 43, 45, 46, 94, 95, 124, 126, 96])), t 22]), o 24 (b .geq (t 23) (k 0)), mV 2 24]
.ret)))⟩
def c72 : Ev.Fn := d72.den
def p72 : Pol := P0 .pure
theorem r72 : FnOK Try.prog mds 72 c72 := .read (pol := p72) (d := d72) Try.func72 (by kernel_rfl) (by kernel_rfl) rfl rfl (by kernel_rfl)

def d77 : DFn := ⟨[(.c .one), (.c .one)], [(.c .one)], .pure, [.tmp 4],
(s [mK 4 (.it .i64 0)]
(s [mV 5 0, mV 6 1, cP 7 80 [t 5, t 6], mV 4 7]
.ret))⟩
def c77 : Ev.Fn := d77.den
def p77 : Pol := P0 .pure
theorem r77 : FnOK Try.prog mds 77 c77 := .read (pol := p77) (d := d77) Try.func77 (by kernel_rfl) (by kernel_rfl) rfl rfl (by kernel_rfl)

end Go.Proofs.Ytddohjlkjakdlaa.tab
