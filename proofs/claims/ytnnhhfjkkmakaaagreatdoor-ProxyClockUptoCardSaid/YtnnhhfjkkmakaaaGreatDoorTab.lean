import Derived.Test.YtnnhhfjkkmakaaaGreatDoorHand
import Derived.Test.YtnnhhfjkkmakaaaGreatDoorRows
import Derived.KernelRfl
/- the functions of the seat, read off the program -/
namespace Go.Proofs.YtnnhhfjkkmakaaaGreatDoor.tab
open Go hiding Fn
open Ev

abbrev mV (d s : Nat) : DOp := ⟨some d, none, [], .mov (.t s)⟩
abbrev fA (d o s : Nat) : DOp := ⟨some d, none, [], .fad o (.t s)⟩
abbrev lD (d n s : Nat) : DOp := ⟨some d, none, [], .ld n false (.t s)⟩
abbrev lQ (d n s : Nat) : DOp := ⟨some d, none, [], .ld n true (.t s)⟩
abbrev nK (d s : Nat) : DOp := ⟨some d, none, [], .nck (.t s)⟩
abbrev sO (n a s : Nat) : DOp := ⟨none, none, [], .sto n (.t a) (.t s)⟩
abbrev eX (d s i : Nat) : DOp := ⟨some d, none, [], .ext (.t s) i⟩
abbrev mK (d : Nat) (v : V) : DOp := ⟨some d, none, [], .mov (.k v)⟩
abbrev cR (d f : Nat) (l : List A) : DOp := ⟨some d, none, [], .call false .rw f l⟩
abbrev cP (d f : Nat) (l : List A) : DOp := ⟨some d, none, [], .call false .pure f l⟩
abbrev lN (d : Nat) (q : Bool) (s : Nat) : DOp := ⟨some d, none, [], .len q (.t s)⟩
abbrev cV (d : Nat) (k : IntKind) (s : Nat) : DOp := ⟨some d, none, [], .cnv (.int k) (.t s)⟩
def mdl : List Md := [.pure, .pure, .pure, .pure, .pure, .pure, .pure, .pure, .rw, .pure, .rw, .rw, .pure, .rw, .rw, .ro, .rw, .rw, .rw, .rw, .pure, .rw, .rw, .pure, .rw, .pure, .rw, .pure, .rw, .rw, .pure, .pure, .pure, .rw, .pure, .rw, .rw, .pure, .rw, .pure, .pure, .pure, .rw, .pure, .pure, .rw, .rw, .rw, .pure, .pure, .pure, .rw, .rw, .rw, .rw, .pure, .rw, .rw, .rw, .rw, .rw, .rw, .rw, .pure, .pure, .rw, .ro, .ro, .pure, .rw, .pure, .pure, .pure, .pure, .rw, .rw, .pure, .rw, .rw, .rw, .rw, .rw, .rw, .rw, .rw, .rw, .pure, .pure, .pure, .rw, .pure, .pure, .rw, .rw, .rw, .rw, .rw, .rw, .rw, .rw, .rw, .rw, .rw, .rw, .rw, .pure, .rw, .pure, .rw, .rw, .pure, .rw, .rw, .pure, .rw, .pure, .rw, .pure, .pure, .pure, .rw, .rw, .rw, .rw, .pure, .pure, .rw, .rw, .rw, .rw, .rw, .rw, .rw, .rw, .rw, .pure, .pure, .pure, .pure, .rw, .rw, .rw, .rw, .rw, .pure, .pure, .rw, .rw, .pure, .pure, .pure, .pure, .pure, .pure, .rw, .pure, .pure, .pure, .rw, .rw, .rw, .rw, .rw, .rw, .rw, .rw, .rw, .pure, .pure, .rw, .rw, .pure, .rw, .rw, .rw, .pure, .pure, .rw, .rw, .rw, .rw, .rw, .rw, .rw, .rw, .rw, .rw, .rw, .pure, .pure, .pure, .pure, .pure, .pure, .rw, .pure, .pure, .rw, .rw, .pure, .pure, .pure, .pure, .rw, .rw, .rw, .rw, .rw, .pure, .rw, .rw, .pure, .pure, .rw, .pure, .rw, .rw, .pure, .pure, .pure, .rw, .pure, .pure, .rw, .rw, .pure, .rw, .pure, .pure, .rw, .rw, .rw, .rw, .rw, .pure, .rw, .pure, .pure, .pure, .pure, .pure, .pure, .pure, .pure, .pure, .rw, .pure, .rw, .rw, .rw, .rw, .pure, .rw, .rw, .rw, .pure, .pure, .pure, .pure, .rw, .pure, .pure, .pure, .pure, .pure, .rw, .pure, .pure, .rw, .rw, .pure, .rw, .pure, .pure, .pure, .pure, .pure, .pure, .rw, .pure, .rw, .pure, .pure, .pure, .pure, .pure, .pure, .pure, .pure, .rw, .rw, .rw, .rw, .pure, .pure, .rw, .pure, .rw, .rw, .rw, .rw, .rw, .rw, .pure, .pure, .pure, .pure, .pure, .pure, .pure, .pure, .pure, .pure, .pure, .pure, .pure, .pure, .rw, .pure, .pure, .ro, .pure, .pure, .pure, .pure, .rw, .pure, .rw, .pure, .pure, .pure, .pure, .pure, .pure, .pure, .rw, .rw, .pure, .rw, .rw, .pure, .rw, .pure, .pure, .pure, .pure, .pure, .pure, .pure, .rw, .pure, .rw, .rw, .pure, .pure, .pure, .pure, .pure, .pure, .pure, .pure, .pure, .pure, .rw, .pure, .pure, .pure, .pure, .pure, .pure, .pure, .rw, .pure, .pure, .pure, .rw, .rw, .rw, .pure, .pure, .pure, .pure, .pure, .pure, .pure, .pure, .pure, .pure, .rw, .rw, .rw, .rw, .rw, .rw, .rw, .rw, .rw, .rw, .pure, .pure, .pure, .pure, .pure, .pure, .pure, .pure, .pure]
def mds (n : Nat) : Md := mdl.getD n .rw
abbrev o (d : Nat) (i : I) : DOp := ⟨some d, none, [], i⟩
abbrev u (d : Nat) (l : List Nat) (i : I) : DOp := ⟨some d, none, l, i⟩
abbrev w (d g : Nat) (i : I) : DOp := ⟨some d, some (g, true), [], i⟩
abbrev x (d g : Nat) (i : I) : DOp := ⟨some d, some (g, false), [], i⟩
abbrev n (i : I) : DOp := ⟨none, none, [], i⟩
abbrev s (l : List DOp) (c : C) : C := .seq (.reg false l []) c
abbrev r (l : List DOp) : C := .reg false l []
abbrev t (n : Nat) : A := .t n
abbrev k (n : Nat) : A := .k (.it .i64 (Int.ofNat n))
abbrev b (o : BinOp) (x y : A) : I := .bin .no o x y
abbrev P0 (m : Md) : Pol := { loc := [], md := m, mds := mds, heap := [], own := [], ord := [], clr := [], mask := [] }

def d3 : DFn := ⟨[], [(.c .one)], .pure, [.tmp 0],
(s [mK 0 (.bo false)]
(s [cP 16 9 [], cR 17 8 [t 16], mV 15 17, eX 18 15 0, eX 19 15 1, mV 1 18, mV 2 19]
(s [cP 21 9 [], o 22 (.fld 2 3 true (t 21)), cR 23 10 [(.k (.bo false)), t 22], mV 20 23, eX 24 20 0, eX 25 20 1, mV 3 24, mV 4 25]
(s [cP 27 9 [], o 28 (.fld 2 3 true (t 27)), cR 29 10 [(.k (.bo true)), t 28], mV 26 29, eX 30 26 0, eX 31 26 1, mV 5 30, mV 6 31]
(.seq (s [mV 32 1, o 33 (.bin .ptr .eql (t 32) (.k .np)), mV 34 33, x 35 34 (.mov (t 3)), x 36 34 (.bin .ptr .eql (t 35) (.k .np)), o 37 (.pick (t 34) (.k (.bo true)) (t 36)), mV 38 37, x 39 38 (.mov (t 5)), x 40 38 (.bin .ptr .eql (t 39) (.k .np)), o 41 (.pick (t 38) (.k (.bo true)) (t 40)), mV 42 41, x 43 42 (.mov (t 2)), x 44 42 (b .neq (t 43) (k 0)), o 45 (.pick (t 42) (.k (.bo true)) (t 44)), mV 46 45, x 47 46 (.mov (t 4)), x 48 46 (b .neq (t 47) (k 0)), o 49 (.pick (t 46) (.k (.bo true)) (t 48)), mV 50 49, x 51 50 (.mov (t 6)), x 52 50 (b .neq (t 51) (k 0)), o 53 (.pick (t 50) (.k (.bo true)) (t 52))]
(.cond (t 53)
(s [mK 0 (.bo false)]
.ret)
.skip))
(.seq (s [mV 54 1, o 55 (.bld [(.it .i64 0), (.it .i64 0), (.it .i64 0), .ns] [(0, 1, (k 1))]), cR 56 11 [t 54, t 55], o 57 (.fld 0 1 false (t 56)), o 58 (.un .not (t 57)), mV 59 58, x 60 59 (.mov (t 1)), x 61 59 (.bld [(.it .i64 0), (.it .i64 0), (.it .i64 0), .ns] [(0, 1, (k 3))]), x 62 59 (.call false .rw 11 [t 60, t 61]), x 63 59 (.fld 0 1 false (t 62)), x 64 59 (.un .not (t 63)), o 65 (.pick (t 59) (.k (.bo true)) (t 64)), mV 66 65, x 67 66 (.mov (t 1)), x 68 66 (.bld [(.it .i64 0), (.it .i64 0), (.it .i64 0), .ns] [(0, 1, (k 3))]), x 69 66 (.call false .rw 11 [t 67, t 68]), x 70 66 (.fld 0 1 false (t 69)), o 71 (.pick (t 66) (.k (.bo true)) (t 70)), mV 72 71, x 73 72 (.mov (t 1)), x 74 72 (.bld [(.it .i64 0), (.it .i64 0), (.it .i64 0), .ns] [(0, 1, (k 1)), (1, 1, (k 8))]), x 75 72 (.call false .rw 11 [t 73, t 74]), x 76 72 (.fld 0 1 false (t 75)), o 77 (.pick (t 72) (.k (.bo true)) (t 76))]
(.cond (t 77)
(s [mK 0 (.bo false)]
.ret)
.skip))
(s [mV 78 1, o 79 (.bld [(.it .i64 0), (.it .i64 0), (.it .i64 0), .ns] [(0, 1, (k 8)), (2, 1, (k 7))]), cR 80 11 [t 78, t 79]]
(s [mV 81 1, o 82 (.bld [(.it .i64 0), (.it .i64 0), (.it .i64 0), .ns] [(0, 1, (k 8)), (2, 1, (k 5))]), cR 83 11 [t 81, t 82]]
(s [mV 84 1, o 85 (.bld [(.it .i64 0), (.it .i64 0), (.it .i64 0), .ns] [(0, 1, (k 1))]), cR 86 11 [t 84, t 85]]
(s [o 87 (.call false .pure 12 [(.k (.st [58, 109, 101, 116, 104, 111, 100])), (.k (.st [71, 69, 84]))]), o 88 (.call false .pure 12 [(.k (.st [58, 115, 99, 104, 101, 109, 101])), (.k (.st [104, 116, 116, 112, 115]))]), o 89 (.call false .pure 12 [(.k (.st [58, 97, 117, 116, 104, 111, 114, 105, 116, 121])), (.k (.st [97]))]), o 90 (.call false .pure 12 [(.k (.st [58, 112, 97, 116, 104])), (.k (.st [47]))]), o 91 (.bsv [.one, .one, .one] 3 (List.replicate 4 [(.st []), (.st []), (.it .i64 0)]) [(0, (t 87)), (1, (t 88)), (2, (t 89)), (3, (t 90))]), mV 7 91]
(s [mV 92 3, mV 93 7, cR 94 13 [t 92, t 93, (.k (.bo true))]]
(s [mV 95 1, mV 96 3, cR 97 14 [t 96, (k 1000)], o 98 (.bld [(.it .i64 0), (.it .i64 0), (.it .i64 0), .ns] [(0, 1, (k 2)), (3, 1, (t 97))]), cR 99 11 [t 95, t 98], o 8 (.alc [(.bo false), .ns, .ns]), sO 3 8 99]
(s [mV 100 1, o 101 (.bld [(.it .i64 0), (.it .i64 0), (.it .i64 0), .ns] [(0, 1, (k 7)), (2, 1, (k 1000))]), cR 102 11 [t 100, t 101], o 9 (.alc [(.bo false), .ns, .ns]), sO 3 9 102]
(.seq (.seq (.reg false [
mV 103 1, o 104 (.call false .ro 15 [t 103]), o 105 (b .neq (t 104) (k 7)), mV 106 105, x 107 106 (.fad 2 (t 8)), x 108 106 (.ld 1 false (t 107)), x 109 106 (.len false (t 108)), x 110 106 (b .neq (t 109) (k 1)), o 111 (.pick (t 106) (.k (.bo true)) (t 110)), mV 112 111, x 113 112 (.fad 2 (t 8)), x 114 112 (.ld 1 false (t 113)), x 115 112 (.ias 2 (t 114) (k 0)), x 116 112 (.ld 2 true (t 115)), x 117 112 (.bld [(.it .i64 0), (.st [])] [(1, 1, (.k (.st [97])))]), x 118 112 (.bin (.ag [0, 1]) .neq (t 116) (t 117)), o 119 (.pick (t 112) (.k (.bo true)) (t 118)), mV 120 119, x 121 120 (.fad 1 (t 9)), x 122 120 (.ld 1 false (t 121)), x 123 120 (.len false (t 122)), x 124 120 (b .lss (t 123) (k 24)), o 125 (.pick (t 120) (.k (.bo true)) (t 124)), mV 126 125, x 127 126 (.fad 1 (t 9)), x 128 126 (.ld 1 false (t 127)), x 129 126 (.slc false 1 (t 128) none (some (k 24))), x 130 126 (.cnv .b2s (t 129)), x 131 126 (b .neq (t 130) (.k (.st [80, 82, 73, 32, 42, 32, 72, 84, 84, 80, 47, 50, 46, 48, 13, 10, 13, 10, 83, 77, 13, 10, 13, 10]))), o 132 (.pick (t 126) (.k (.bo true)) (t 131))] [107, 113, 121, 127])
(.cond (t 132)
(.seq (.reg false [
mK 0 (.bo false)] [])
.ret)
.skip))
(.seq (.reg false [
mV 133 5, fA 134 1 9, lD 135 1 134, cR 136 16 [t 133, t 135], mV 10 136] [134])
(.seq (.seq (.reg true [
mV 137 10, lN 138 false 137, o 139 (b .neq (t 138) (k 1)), mV 140 139, x 141 140 (.mov (t 5)), x 142 140 (.mov (t 10)), x 143 140 (.ias 6 (t 142) (k 0)), x 144 140 (.fad 1 (t 143)), x 145 140 (.ld 1 false (t 144)), x 146 140 (.call false .pure 12 [(.k (.st [58, 115, 116, 97, 116, 117, 115])), (.k (.st [50, 48, 48]))]), x 147 140 (.call false .pure 12 [(.k (.st [99, 97, 99, 104, 101, 45, 99, 111, 110, 116, 114, 111, 108])), (.k (.st [109, 97, 120, 45, 97, 103, 101, 61, 54, 48]))]), x 148 140 (.bsv [.one, .one, .one] 3 [[(.st []), (.st []), (.it .i64 0)], [(.st []), (.st []), (.it .i64 0)]] [(0, (t 146)), (1, (t 147))]), x 149 140 (.call false .rw 17 [t 141, t 145, t 148, (.k (.bo false))]), x 150 140 (.un .not (t 149)), o 151 (.pick (t 140) (.k (.bo true)) (t 150))] [])
(.cond (t 151)
(s [mK 0 (.bo false)]
.ret)
.skip))
(s [mV 152 5, mV 153 10, o 154 (.ias 6 (t 153) (k 0)), fA 155 1 154, lD 156 1 155, o 157 (.call false .rw 18 [t 152, t 156, (.k (.st [104, 105])), (.k (.bo true))])]
(s [mV 158 1, mV 159 5, cR 160 14 [t 159, (k 1000)], o 161 (.bld [(.it .i64 0), (.it .i64 0), (.it .i64 0), .ns] [(0, 1, (k 5)), (3, 1, (t 160))]), cR 162 11 [t 158, t 161]]
(s [mV 163 3, mV 164 1, o 165 (.bld [(.it .i64 0), (.it .i64 0), (.it .i64 0), .ns] [(0, 1, (k 4)), (2, 1, (k 1000))]), cR 166 11 [t 164, t 165], o 167 (.fld 1 1 false (t 166)), cR 168 16 [t 163, t 167]]
(s [mV 169 3, mV 170 7, cR 171 13 [t 169, t 170, (.k (.bo true))]]
(s [mV 172 1, mV 173 3, cR 174 14 [t 173, (k 1000)], o 175 (.bld [(.it .i64 0), (.it .i64 0), (.it .i64 0), .ns] [(0, 1, (k 2)), (3, 1, (t 174))]), cR 176 11 [t 172, t 175], o 11 (.alc [(.bo false), .ns, .ns]), sO 3 11 176]
(s [mV 177 3, mV 178 1, o 179 (.bld [(.it .i64 0), (.it .i64 0), (.it .i64 0), .ns] [(0, 1, (k 4)), (2, 1, (k 1000))]), cR 180 11 [t 178, t 179], o 181 (.fld 1 1 false (t 180)), cR 182 16 [t 177, t 181], mV 12 182]
(s [mV 184 1, cR 185 19 [t 184], mV 183 185, eX 186 183 0, eX 187 183 1, mV 13 186, mV 14 187]
(.seq (.reg false [
fA 188 2 11, lD 189 1 188, lN 190 false 189, o 191 (b .eql (t 190) (k 0)), mV 192 191, w 193 192 (.mov (t 13)), w 194 192 (b .eql (t 193) (k 1)), o 195 (.pick (t 192) (t 194) (.k (.bo false))), mV 196 195, w 197 196 (.mov (t 14)), w 198 196 (b .gtr (t 197) (k 100)), o 199 (.pick (t 196) (t 198) (.k (.bo false))), mV 200 199, w 201 200 (.mov (t 12)), w 202 200 (.len false (t 201)), w 203 200 (b .eql (t 202) (k 2)), o 204 (.pick (t 200) (t 203) (.k (.bo false))), mV 205 204, w 206 205 (.mov (t 12)), w 207 205 (.ias 6 (t 206) (k 0)), w 208 205 (.fad 2 (t 207)), w 209 205 (.ld 1 false (t 208)), w 210 205 (.bld [(.st []), (.st [])] [(0, 1, (.k (.st [58, 115, 116, 97, 116, 117, 115]))), (1, 1, (.k (.st [50, 48, 48])))]), w 211 205 (.bld [(.st []), (.st [])] [(0, 1, (.k (.st [99, 97, 99, 104, 101, 45, 99, 111, 110, 116, 114, 111, 108]))), (1, 1, (.k (.st [109, 97, 120, 45, 97, 103, 101, 61, 54, 48])))]), w 212 205 (.bld [(.st []), (.st [])] [(0, 1, (.k (.st [97, 103, 101]))), (1, 1, (.k (.st [48])))]), w 213 205 (.bld [(.st []), (.st [])] [(0, 1, (.k (.st [118, 105, 97]))), (1, 1, (.k (.st [50, 32, 114, 101, 115, 101, 114, 118, 111, 105, 114])))]), w 214 205 (.bsv [.one, .one] 2 (List.replicate 4 [(.st []), (.st [])]) [(0, (t 210)), (1, (t 211)), (2, (t 212)), (3, (t 213))]), w 215 205 (.call false .pure 20 [t 209, t 214]), o 216 (.pick (t 205) (t 215) (.k (.bo false))), mV 217 216, w 218 217 (.mov (t 12)), w 219 217 (.ias 6 (t 218) (k 1)), w 220 217 (.fad 3 (t 219)), w 221 217 (.ld 1 false (t 220)), w 222 217 (b .eql (t 221) (.k (.st [104, 105]))), o 223 (.pick (t 217) (t 222) (.k (.bo false))), mV 224 223, w 225 224 (.mov (t 12)), w 226 224 (.ias 6 (t 225) (k 1)), w 227 224 (.fad 4 (t 226)), w 228 224 (.ld 1 false (t 227)), o 229 (.pick (t 224) (t 228) (.k (.bo false))), mV 230 229, w 231 230 (.mov (t 1)), w 232 230 (.call false .rw 21 [t 231]), w 233 230 (b .eql (t 232) (k 0)), o 234 (.pick (t 230) (t 233) (.k (.bo false))), mV 0 234] [188])
.ret))))))))))))))))))))))))⟩
def c3 : Ev.Fn := d3.den
def p3 : Pol := { P0 .pure with loc := [8, 9, 11], ord := [(13, [0, 1, 5, 2, 3, 4, 6]), (14, [0, 1, 3, 2, 4]), (24, [0, 1, 5, 2, 3, 4, 6])], clr := [(15, [107, 113, 121, 127]), (17, [134]), (27, [188])] }
theorem r3 : FnOK Tryz.prog mds 3 c3 := .read (pol := p3) (d := d3) Tryz.func3 (by kernel_rfl) (by kernel_rfl) rfl rfl (by kernel_rfl)

def d4 : DFn := ⟨[(.c (.sl [.one]))], [(.c .one)], .pure, [.tmp 2],
(.seq (.reg false [
mK 2 (.bo false)] [])
(s [cP 8 9 [], cR 9 8 [t 8], mV 7 9, eX 10 7 0, eX 11 7 1, mV 3 10, mV 4 11]
(.seq (s [mV 12 3, o 13 (.bin .ptr .eql (t 12) (.k .np)), mV 14 13, x 15 14 (.mov (t 4)), x 16 14 (b .neq (t 15) (k 0)), o 17 (.pick (t 14) (.k (.bo true)) (t 16))]
(.cond (t 17)
(s [mK 2 (.bo false)]
.ret)
.skip))
(s [mK 5 (.it .i64 0)]
(.seq (s [mK 6 (.it .i64 0)]
(.blk 0 (.loop [0, 3, 5, 6] []
(.seq (s [mV 18 6, mV 19 0, lN 20 false 19, o 21 (b .lss (t 18) (t 20)), mV 22 21, w 23 22 (.mov (t 6)), w 24 22 (b .lss (t 23) (k 50)), o 25 (.pick (t 22) (t 24) (.k (.bo false)))]
(.cond (t 25)
.skip
(.exit 0)))
(.seq (.blk 1 (.seq (s [mV 28 3, mV 29 0, mV 30 6, o 31 (.ias 1 (t 29) (t 30)), lD 32 1 31, o 33 (.bld [(.it .i64 0), (.it .i64 0), (.it .i64 0), .ns] [(0, 1, (k 8)), (2, 1, (t 32))]), cR 34 11 [t 28, t 33], o 35 (.fld 0 1 false (t 34)), o 36 (.un .not (t 35))]
(.cond (t 36)
(s [mK 2 (.bo false)]
.ret)
.skip))
(s [mV 37 5, mV 38 0, mV 39 6, o 40 (.ias 1 (t 38) (t 39)), lD 41 1 40, o 42 (.mnx false (t 41) (k 2147483647)), o 43 (.mnx true (t 37) (t 42)), mV 5 43]
(s [mV 44 3, o 45 (.call false .ro 15 [t 44]), mV 46 5, o 47 (b .neq (t 45) (t 46))]
(.cond (t 47)
(s [mK 2 (.bo false)]
.ret)
.skip)))))
(r [mV 26 6, o 27 (b .add (t 26) (k 1)), mV 6 27]))))))
(s [cP 48 3 [], mV 2 48]
.ret))))))⟩
def c4 : Ev.Fn := d4.den
def p4 : Pol := { P0 .pure with ord := [(11, [0, 2, 1, 3])], mask := [(6, [0, 3, 5, 6], [])] }
theorem r4 : FnOK Tryz.prog mds 4 c4 := .read (pol := p4) (d := d4) Tryz.func4 (by kernel_rfl) (by kernel_rfl) rfl rfl (by kernel_rfl)

def d8 : DFn := ⟨[(.g [.one, .one, .one, .one, .one, .one, .one])], [(.c .one), (.c .one)], .rw, [.tmp 2, .tmp 3],
(s [o 1 (.box (t 0)), mK 2 .np, mK 3 (.it .i64 0)]
(.seq (.seq (.reg false [
fA 9 2 1, lQ 10 3 9, cR 11 10 [(.k (.bo true)), t 10], mV 8 11, eX 12 8 0, eX 13 8 1, mV 4 12, mV 5 13] [9])
(.seq (.reg false [
mV 14 5, o 15 (b .neq (t 14) (k 0))] [])
(.cond (t 15)
(s [mK 2 .np, mK 3 (.it .i64 1)]
.ret)
.skip)))
(.seq (.reg false [
fA 17 0 1, lD 18 1 17, cR 19 42 [t 18], mV 16 19, eX 20 16 0, eX 21 16 1, mV 6 20, mV 7 21] [17])
(.seq (.seq (.reg false [
mV 22 7, o 23 (b .neq (t 22) (k 0)), mV 24 23, x 25 24 (.fad 5 (t 1)), x 26 24 (.ld 1 false (t 25)), x 27 24 (b .lss (t 26) (k 1)), o 28 (.pick (t 24) (.k (.bo true)) (t 27)), mV 29 28, x 30 29 (.fad 5 (t 1)), x 31 29 (.ld 1 false (t 30)), x 32 29 (b .gtr (t 31) (k 64)), o 33 (.pick (t 29) (.k (.bo true)) (t 32)), mV 34 33, x 35 34 (.fad 6 (t 1)), x 36 34 (.ld 1 false (t 35)), x 37 34 (b .lss (t 36) (k 1)), o 38 (.pick (t 34) (.k (.bo true)) (t 37)), mV 39 38, x 40 39 (.fad 6 (t 1)), x 41 39 (.ld 1 false (t 40)), x 42 39 (b .gtr (t 41) (k 8)), o 43 (.pick (t 39) (.k (.bo true)) (t 42))] [25, 30, 35, 40])
(.cond (t 43)
(.seq (.reg false [
mK 2 .np, mK 3 (.it .i64 1)] [])
.ret)
.skip))
(s [lQ 44 7 1, mV 45 6, o 46 (.bld [(.it .i64 0), (.fl .f64 0), (.it .i64 0), (.it .i64 0), (.it .i64 0), (.it .i64 0), (.it .i64 0), .np, .np, .np, .np, .np, .np, .np, .np, .np, .np, .np, .np, .np, .np, .np, .np, .np, (.it .i64 0), .ns, .ns] [(0, 7, (t 44)), (23, 1, (t 45))]), o 47 (.bxh (t 46)), mV 2 47, mK 3 (.it .i64 0)]
.ret)))))⟩
def c8 : Ev.Fn := d8.den
def p8 : Pol := { P0 .rw with loc := [1], ord := [(0, [1, 2, 0])], clr := [(1, [9]), (4, [17]), (5, [25, 30, 35, 40])] }
theorem r8 : FnOK Tryz.prog mds 8 c8 := .read (pol := p8) (d := d8) Tryz.func8 (by kernel_rfl) (by kernel_rfl) rfl rfl (by kernel_rfl)

def d9 : DFn := ⟨[], [(.g [.one, .one, .one, .one, .one, .one, .one])], .pure, [.cell 0 7 true],
(s [o 0 (.alc [(.it .i64 0), (.fl .f64 0), (.it .i64 0), (.it .i64 0), (.it .i64 0), (.it .i64 0), (.it .i64 0)])]
(s [o 1 (.bld [(.it .i64 0), (.it .i64 0), (.it .i64 0)] [(0, 1, (k 2)), (1, 1, (k 65535)), (2, 1, (k 65536))]), o 2 (.bld [(.it .i64 0), (.fl .f64 0), (.it .i64 0), (.it .i64 0), (.it .i64 0), (.it .i64 0), (.it .i64 0)] [(0, 1, (k 10000)), (1, 1, (.k (.fl .f64 4591870180066957722))), (2, 3, (t 1)), (5, 1, (k 4)), (6, 1, (k 1))]), sO 7 0 2]
.ret))⟩
def c9 : Ev.Fn := d9.den
def p9 : Pol := { P0 .pure with loc := [0] }
theorem r9 : FnOK Tryz.prog mds 9 c9 := .read (pol := p9) (d := d9) Tryz.func9 (by kernel_rfl) (by kernel_rfl) rfl rfl (by kernel_rfl)

def d10 : DFn := ⟨[(.c .one), (.g [.one, .one, .one])], [(.c .one), (.c .one)], .rw, [.tmp 4, .tmp 5],
(s [o 3 (.box (t 1)), mK 4 .np, mK 5 (.it .i64 0)]
(.seq (.seq (.reg false [
fA 8 0 3, lD 9 1 8, cP 10 43 [t 9, (k 1), (k 100)], o 11 (.un .not (t 10)), mV 12 11, x 13 12 (.fad 1 (t 3)), x 14 12 (.ld 1 false (t 13)), x 15 12 (.call false .pure 43 [t 14, (k 65535), (k 2147483647)]), x 16 12 (.un .not (t 15)), o 17 (.pick (t 12) (.k (.bo true)) (t 16)), mV 18 17, x 19 18 (.fad 2 (t 3)), x 20 18 (.ld 1 false (t 19)), x 21 18 (.call false .pure 43 [t 20, (k 1), (k 1048576)]), x 22 18 (.un .not (t 21)), o 23 (.pick (t 18) (.k (.bo true)) (t 22))] [8, 13, 19])
(.cond (t 23)
(.seq (.reg false [
mK 4 .np, mK 5 (.it .i64 1)] [])
.ret)
.skip))
(.seq (.reg true [
mV 24 0, lQ 25 3 3, cP 26 44 [], o 27 (.bld [(.bo false), (.it .i64 0), (.it .i64 0), (.it .i64 0), (.it .i64 0), (.it .i64 0), (.it .i64 0), (.it .i64 0), (.it .i64 0), .np, .np, .np, .ns, (.it .i64 0), (.it .i64 0), .ns, (.it .i64 0), (.it .i64 0), .ns, (.it .i64 0), (.bo false), .ns, (.bo false), (.bo false), (.bo false), .ns] [(0, 1, (t 24)), (1, 3, (t 25)), (4, 5, (t 26)), (17, 1, (k 1))]), o 28 (.bxh (t 27)), mV 6 28] [])
(s [mV 30 6, mV 31 0, o 32 (.call true .rw 45 [(k 16384), t 31]), mV 29 32, eX 33 29 0, eX 34 29 1, nK 35 30, fA 36 9 35, sO 1 36 33]
(.seq (.reg false [
mV 38 6, fA 39 2 3, lD 40 1 39, o 41 (.call true .rw 46 [(k 4096), t 40]), mV 37 41, eX 42 37 0, eX 43 37 1, nK 44 38, fA 45 10 44, sO 1 45 42] [39])
(.seq (.reg false [
mV 47 6, o 48 (.call true .rw 47 [(k 4096)]), mV 46 48, eX 49 46 0, eX 50 46 1, nK 51 47, fA 52 11 51, sO 1 52 49] [])
(s [mV 54 6, o 55 (.call true .pure 48 [(k 65535)]), mV 53 55, eX 56 53 0, eX 57 53 1, nK 58 54, fA 59 13 58, sO 1 59 56]
(s [mV 61 6, o 62 (.call true .pure 48 [(k 65535)]), mV 60 62, eX 63 60 0, eX 64 60 1, nK 65 61, fA 66 14 65, sO 1 66 63]
(.seq (.reg false [
fA 67 0 3, lD 68 1 67, o 69 (.bld [(.it .i64 0), (.it .i64 0)] [(0, 1, (k 3)), (1, 1, (t 68))]), fA 70 1 3, lD 71 1 70, o 72 (.bld [(.it .i64 0), (.it .i64 0)] [(0, 1, (k 4)), (1, 1, (t 71))]), fA 73 2 3, lD 74 1 73, o 75 (.bld [(.it .i64 0), (.it .i64 0)] [(0, 1, (k 6)), (1, 1, (t 74))]), o 76 (.bsv [.one, .one] 2 [[(.it .i64 0), (.it .i64 0)], [(.it .i64 0), (.it .i64 0)], [(.it .i64 0), (.it .i64 0)]] [(0, (t 69)), (1, (t 72)), (2, (t 75))]), mV 7 76] [67, 70, 73])
(.seq (.seq (.reg false [
mV 77 0, o 78 (.un .not (t 77))] [])
(.cond (t 78)
(s [mV 79 6, o 80 (.bsl 1 (List.replicate 24 [(.it .u8 0)]) [(0, (.k (.it .u8 80))), (1, (.k (.it .u8 82))), (2, (.k (.it .u8 73))), (3, (.k (.it .u8 32))), (4, (.k (.it .u8 42))), (5, (.k (.it .u8 32))), (6, (.k (.it .u8 72))), (7, (.k (.it .u8 84))), (8, (.k (.it .u8 84))), (9, (.k (.it .u8 80))), (10, (.k (.it .u8 47))), (11, (.k (.it .u8 50))), (12, (.k (.it .u8 46))), (13, (.k (.it .u8 48))), (14, (.k (.it .u8 13))), (15, (.k (.it .u8 10))), (16, (.k (.it .u8 13))), (17, (.k (.it .u8 10))), (18, (.k (.it .u8 83))), (19, (.k (.it .u8 77))), (20, (.k (.it .u8 13))), (21, (.k (.it .u8 10))), (22, (.k (.it .u8 13))), (23, (.k (.it .u8 10)))]), o 81 (.mrk (t 80)), nK 82 79, fA 83 12 82, sO 1 83 81]
(r [o 84 (.bld [(.it .i64 0), (.it .i64 0)] [(0, 1, (k 2))]), o 85 (.bsl 2 [[(.it .i64 0), (.it .i64 0)]] [(0, (t 84))]), mV 86 7, o 87 (.app 2 16 (t 85) (t 86)), mV 7 87]))
.skip))
(.seq (.reg true [
mV 88 6, mV 89 6, nK 90 89, fA 91 12 90, lD 92 1 91, mV 93 7, cP 94 50 [t 93], o 95 (.bld [(.it .i64 0), (.it .i64 0), (.it .i64 0), .ns] [(0, 1, (k 4)), (3, 1, (t 94))]), o 96 (.call true .pure 49 [t 92, t 95]), nK 97 88, fA 98 12 97, sO 1 98 96] [])
(s [mV 99 6, mV 4 99, mK 5 (.it .i64 0)]
.ret))))))))))))⟩
def c10 : Ev.Fn := d10.den
def p10 : Pol := { P0 .rw with loc := [3], heap := [32, 41, 48, 55, 62, 80, 81, 85, 96], own := [32, 41, 48, 55, 62, 80, 81, 85, 96], ord := [(0, [1, 2, 0]), (12, [0, 2, 1, 3, 4])], clr := [(1, [8, 13, 19]), (5, [39]), (9, [67, 70, 73])] }
theorem r10 : FnOK Tryz.prog mds 10 c10 := .read (pol := p10) (d := d10) Tryz.func10 (by kernel_rfl) (by kernel_rfl) rfl rfl (by kernel_rfl)

def d11 : DFn := ⟨[(.c .one), (.g [.one, .one, .one, (.sl [.one])])], [(.g [.one, (.sl [.one]), (.sl [.one, .one])])], .rw, [.cell 4 3 true],
(s [o 3 (.box (t 1)), o 4 (.alc [(.bo false), .ns, .ns])]
(s [mV 8 0, nK 9 8, fA 10 26 9, n (.sto 1 (t 10) (.k .ns))]
(s [mV 11 0, lQ 12 4 3, cR 13 51 [t 11, t 12], o 14 (.bld [(.bo false), .ns, .ns] [(0, 1, (t 13))]), o 5 (.alc [(.bo false), .ns, .ns]), sO 3 5 14]
(s [mV 15 0, cR 16 52 [t 15]]
(.seq (.seq (.reg false [
mV 17 0, fA 18 1 3, lD 19 1 18, cR 20 53 [t 17, t 19], mV 6 20] [18])
(.seq (.reg false [
fA 21 0 3, lD 22 1 21, o 23 (b .eql (t 22) (k 4)), mV 24 23, w 25 24 (.mov (t 6)), w 26 24 (.bin .ptr .neq (t 25) (.k .np)), o 27 (.pick (t 24) (t 26) (.k (.bo false)))] [21])
(.cond (t 27)
(.seq (.reg false [
mV 28 6, fA 29 2 3, lD 30 1 29, cR 31 14 [t 28, t 30], fA 32 1 5, sO 1 32 31] [29, 32])
(.reg false [
mV 33 0, cR 34 52 [t 33]] []))
.skip)))
(.seq (.seq (.reg false [
mV 35 0, fA 36 1 3, lD 37 1 36, cR 38 54 [t 35, t 37], mV 7 38] [36])
(.seq (.reg false [
fA 39 0 3, lD 40 1 39, o 41 (b .eql (t 40) (k 7)), mV 42 41, w 43 42 (.mov (t 7)), w 44 42 (.bin .ptr .neq (t 43) (.k .np)), o 45 (.pick (t 42) (t 44) (.k (.bo false)))] [39])
(.cond (t 45)
(.seq (.reg true [
mV 46 7, nK 47 46, fA 48 0 47, lD 49 1 48, fA 50 2 3, lD 51 1 50, cR 52 14 [t 49, t 51], fA 53 1 5, sO 1 53 52] [50, 53])
(.reg false [
mV 54 0, cR 55 52 [t 54]] []))
.skip)))
(.seq (.reg false [
mV 56 0, nK 57 56, fA 58 26 57, lD 59 1 58, fA 60 2 5, sO 1 60 59] [60])
(.seq (.reg false [
mV 61 0, nK 62 61, fA 63 26 62, n (.sto 1 (t 63) (.k .ns))] [])
(s [lQ 64 3 5, sO 3 4 64]
.ret)))))))))⟩
def c11 : Ev.Fn := d11.den
def p11 : Pol := { P0 .rw with loc := [3, 4, 5], ord := [(2, [0, 1, 4, 2, 3, 5])], clr := [(4, [18]), (5, [21]), (6, [29, 32]), (8, [36]), (9, [39]), (10, [50, 53]), (12, [60])] }
theorem r11 : FnOK Tryz.prog mds 11 c11 := .read (pol := p11) (d := d11) Tryz.func11 (by kernel_rfl) (by kernel_rfl) rfl rfl (by kernel_rfl)

def d12 : DFn := ⟨[(.c .one), (.c .one)], [(.g [.one, .one, .one])], .pure, [.cell 4 3 true],
(s [o 4 (.alc [(.st []), (.st []), (.it .i64 0)])]
(s [mV 5 0, mV 6 1, o 7 (.bld [(.st []), (.st [])] [(0, 1, (t 5)), (1, 1, (t 6))]), o 8 (.bld [(.st []), (.st []), (.it .i64 0)] [(0, 2, (t 7)), (2, 1, (k 1))]), sO 3 4 8]
.ret))⟩
def c12 : Ev.Fn := d12.den
def p12 : Pol := { P0 .pure with loc := [4] }
theorem r12 : FnOK Tryz.prog mds 12 c12 := .read (pol := p12) (d := d12) Tryz.func12 (by kernel_rfl) (by kernel_rfl) rfl rfl (by kernel_rfl)

def d13 : DFn := ⟨[(.c .one), (.c (.sl [.one, .one, .one])), (.c .one)], [(.c .one), (.c .one)], .rw, [.tmp 6, .tmp 7],
(s [mK 6 (.it .i64 0), mK 7 (.bo false)]
(.seq (.seq (.reg true [
mV 9 0, nK 10 9, fA 11 24 10, lD 12 1 11, mV 13 12, x 14 13 (.mov (t 0)), x 15 13 (.nck (t 14)), x 16 13 (.fad 0 (t 15)), x 17 13 (.ld 1 false (t 16)), o 18 (.pick (t 13) (.k (.bo true)) (t 17)), mV 19 18, x 20 19 (.mov (t 0)), x 21 19 (.nck (t 20)), x 22 19 (.fad 23 (t 21)), x 23 19 (.ld 1 false (t 22)), o 24 (.pick (t 19) (.k (.bo true)) (t 23)), mV 25 24, x 26 25 (.mov (t 0)), x 27 25 (.nck (t 26)), x 28 25 (.fad 17 (t 27)), x 29 25 (.ld 1 false (t 28)), x 30 25 (b .gtr (t 29) (k 2147483647)), o 31 (.pick (t 25) (.k (.bo true)) (t 30)), mV 32 31, x 33 32 (.mov (t 0)), x 34 32 (.nck (t 33)), x 35 32 (.fad 15 (t 34)), x 36 32 (.ld 1 false (t 35)), x 37 32 (.len false (t 36)), x 38 32 (.mov (t 0)), x 39 32 (.nck (t 38)), x 40 32 (.fad 4 (t 39)), x 41 32 (.fad 1 (t 40)), x 42 32 (.ld 1 false (t 41)), x 43 32 (b .geq (t 37) (t 42)), o 44 (.pick (t 32) (.k (.bo true)) (t 43)), mV 45 44, x 46 45 (.mov (t 0)), x 47 45 (.nck (t 46)), x 48 45 (.fad 12 (t 47)), x 49 45 (.ld 1 false (t 48)), x 50 45 (.len false (t 49)), x 51 45 (b .geq (t 50) (k 131072)), o 52 (.pick (t 45) (.k (.bo true)) (t 51)), mV 53 52, x 54 53 (.mov (t 1)), x 55 53 (.call false .pure 55 [t 54]), x 56 53 (.un .not (t 55)), o 57 (.pick (t 53) (.k (.bo true)) (t 56))] [])
(.cond (t 57)
(s [mK 6 (.it .i64 0), mK 7 (.bo false)]
.ret)
.skip))
(s [mV 58 0, mV 59 0, nK 60 59, fA 61 17 60, lD 62 1 61, cR 63 56 [t 58, t 62], mV 8 63]
(s [mV 64 0, nK 65 64, fA 66 17 65, lD 67 1 66, o 68 (b .add (t 67) (k 2)), nK 69 64, fA 70 17 69, sO 1 70 68]
(s [mV 71 0, mV 72 8, mV 73 1, mV 74 2, cR 75 57 [t 71, t 72, t 73, t 74]]
(s [mV 76 8, nK 77 76, fA 78 0 77, lD 79 1 78, mV 6 79, mK 7 (.bo true)]
.ret))))))⟩
def c13 : Ev.Fn := d13.den
def p13 : Pol := P0 .rw
theorem r13 : FnOK Tryz.prog mds 13 c13 := .read (pol := p13) (d := d13) Tryz.func13 (by kernel_rfl) (by kernel_rfl) rfl rfl (by kernel_rfl)

def d14 : DFn := ⟨[(.c .one), (.c .one)], [(.c (.sl [.one]))], .rw, [.tmp 4],
(s [mK 4 .ns]
(s [mV 6 1, o 7 (.mnx true (t 6) (k 0)), mV 8 0, nK 9 8, fA 10 12 9, lD 11 1 10, lN 12 false 11, o 13 (.mnx false (t 7) (t 12)), mV 1 13]
(s [mV 14 0, nK 15 14, fA 16 12 15, lD 17 1 16, mV 18 1, o 19 (.slc false 1 (t 17) none (some (t 18))), o 20 (.app 1 1 (.k .ns) (t 19)), mV 5 20]
(s [mV 21 0, mV 22 0, nK 23 22, fA 24 12 23, lD 25 1 24, mV 26 1, o 27 (.slc false 1 (t 25) (some (t 26)) none), o 28 (.app 1 1 (.k .ns) (t 27)), nK 29 21, fA 30 12 29, sO 1 30 28]
(s [mV 31 5, mV 4 31]
.ret)))))⟩
def c14 : Ev.Fn := d14.den
def p14 : Pol := { P0 .rw with heap := [28], own := [28] }
theorem r14 : FnOK Tryz.prog mds 14 c14 := .read (pol := p14) (d := d14) Tryz.func14 (by kernel_rfl) (by kernel_rfl) rfl rfl (by kernel_rfl)

def d15 : DFn := ⟨[(.c .one)], [(.c .one)], .ro, [.tmp 2],
(s [mK 2 (.it .i64 0)]
(s [mV 3 0, nK 4 3, fA 5 24 4, lD 6 1 5, mV 2 6]
.ret))⟩
def c15 : Ev.Fn := d15.den
def p15 : Pol := P0 .ro
theorem r15 : FnOK Tryz.prog mds 15 c15 := .read (pol := p15) (d := d15) Tryz.func15 (by kernel_rfl) (by kernel_rfl) rfl rfl (by kernel_rfl)

def d16 : DFn := ⟨[(.c .one), (.c (.sl [.one]))], [(.c (.sl [.one, .one, (.sl [.one, .one]), .one, .one, .one]))], .rw, [.tmp 4],
(s [mK 4 .ns]
(.seq (s [mV 10 0, nK 11 10, fA 12 24 11, lD 13 1 12]
(.cond (t 13)
(s [mK 4 .ns]
.ret)
.skip))
(s [mV 14 0, nK 15 14, fA 16 25 15, n (.sto 1 (t 16) (.k .ns))]
(s [mV 18 0, nK 19 18, fA 20 9 19, lD 21 1 20, mV 22 1, cR 23 58 [t 21, t 22], mV 17 23, eX 24 17 0, eX 25 17 1, o 6 (.alc [(.it .i64 0), (.it .i64 0), (.it .i64 0)]), mV 5 24, sO 3 6 25]
(.seq (s [mV 26 5, lN 27 false 26, mK 28 (.it .i64 0)]
(.blk 0 (.loop [0, 6, 26, 27, 28] [8]
(s [o 29 (b .lss (t 28) (t 27))]
(.seq (.cond (t 29)
.skip
(.exit 0))
(.seq (.blk 1 (s [o 30 (.ias 4 (t 26) (t 28)), lQ 31 4 30, o 8 (.alc [(.it .i64 0), (.it .i64 0), (.it .i64 0), .ns]), sO 4 8 31]
(s [mV 32 0, nK 33 32, fA 34 24 33, lD 35 1 34, o 36 (.un .not (t 35))]
(.cond (t 36)
(r [mV 37 0, lQ 38 4 8, cR 39 59 [t 37, t 38]])
.skip))))
(r [o 40 (b .add (t 28) (k 1)), mV 28 40])))))))
(.seq (.seq (.reg false [
mV 41 0, nK 42 41, fA 43 24 42, lD 44 1 43, o 45 (.un .not (t 44)), mV 46 45, w 47 46 (.fad 0 (t 6)), w 48 46 (.ld 1 false (t 47)), w 49 46 (b .neq (t 48) (k 0)), o 50 (.pick (t 46) (t 49) (.k (.bo false)))] [47])
(.cond (t 50)
(.reg false [
mV 51 0, fA 52 1 6, lD 53 1 52, cR 54 60 [t 51, t 53]] [52])
.skip))
(.seq (.reg false [
mV 55 0, nK 56 55, fA 57 25 56, lD 58 1 57, mV 9 58] [])
(s [mV 59 0, nK 60 59, fA 61 25 60, n (.sto 1 (t 61) (.k .ns))]
(s [mV 62 9, mV 4 62]
.ret)))))))))⟩
def c16 : Ev.Fn := d16.den
def p16 : Pol := { P0 .rw with loc := [6, 8], ord := [(4, [0, 1, 2, 3, 4, 9, 5, 6, 7, 8, 10, 11])], clr := [(11, [47]), (12, [52])], mask := [(6, [0, 6, 26, 27, 28], [8])] }
theorem r16 : FnOK Tryz.prog mds 16 c16 := .read (pol := p16) (d := d16) Tryz.func16 (by kernel_rfl) (by kernel_rfl) rfl rfl (by kernel_rfl)

def d17 : DFn := ⟨[(.c .one), (.c .one), (.c (.sl [.one, .one, .one])), (.c .one)], [(.c .one)], .rw, [.tmp 8],
(s [mK 8 (.bo false)]
(s [mV 10 0, mV 11 1, cR 12 61 [t 10, t 11], mV 9 12]
(.seq (s [mV 13 9, o 14 (.bin .ptr .eql (t 13) (.k .np)), mV 15 14, x 16 15 (.mov (t 9)), x 17 15 (.call false .rw 62 [t 16]), x 18 15 (.un .not (t 17)), o 19 (.pick (t 15) (.k (.bo true)) (t 18)), mV 20 19, x 21 20 (.mov (t 9)), x 22 20 (.nck (t 21)), x 23 20 (.fad 5 (t 22)), x 24 20 (.ld 1 false (t 23)), x 25 20 (.mov (t 24)), w 26 25 (.mov (t 3)), w 27 25 (.un .not (t 26)), x 28 20 (.pick (t 25) (t 27) (.k (.bo false))), o 29 (.pick (t 20) (.k (.bo true)) (t 28)), mV 30 29, x 31 30 (.mov (t 0)), x 32 30 (.nck (t 31)), x 33 30 (.fad 12 (t 32)), x 34 30 (.ld 1 false (t 33)), x 35 30 (.len false (t 34)), x 36 30 (b .geq (t 35) (k 131072)), o 37 (.pick (t 30) (.k (.bo true)) (t 36)), mV 38 37, x 39 38 (.mov (t 2)), x 40 38 (.call false .pure 55 [t 39]), x 41 38 (.un .not (t 40)), o 42 (.pick (t 38) (.k (.bo true)) (t 41))]
(.cond (t 42)
(s [mK 8 (.bo false)]
.ret)
.skip))
(s [mV 43 0, mV 44 9, mV 45 2, mV 46 3, cR 47 57 [t 43, t 44, t 45, t 46]]
(s [mK 8 (.bo true)]
.ret)))))⟩
def c17 : Ev.Fn := d17.den
def p17 : Pol := P0 .rw
theorem r17 : FnOK Tryz.prog mds 17 c17 := .read (pol := p17) (d := d17) Tryz.func17 (by kernel_rfl) (by kernel_rfl) rfl rfl (by kernel_rfl)

def d18 : DFn := ⟨[(.c .one), (.c .one), (.c .one), (.c .one)], [(.c .one), (.c .one)], .rw, [.tmp 8, .tmp 9],
(s [mK 8 (.it .i64 0), mK 9 (.bo false)]
(s [mV 14 0, mV 15 1, cR 16 61 [t 14, t 15], mV 10 16]
(.seq (s [mV 17 10, o 18 (.bin .ptr .eql (t 17) (.k .np)), mV 19 18, x 20 19 (.mov (t 10)), x 21 19 (.call false .rw 62 [t 20]), x 22 19 (.un .not (t 21)), o 23 (.pick (t 19) (.k (.bo true)) (t 22)), mV 24 23, x 25 24 (.mov (t 10)), x 26 24 (.nck (t 25)), x 27 24 (.fad 5 (t 26)), x 28 24 (.ld 1 false (t 27)), x 29 24 (.un .not (t 28)), o 30 (.pick (t 24) (.k (.bo true)) (t 29)), mV 31 30, x 32 31 (.mov (t 2)), x 33 31 (b .eql (t 32) (.k (.st []))), x 34 31 (.mov (t 33)), w 35 34 (.mov (t 3)), x 36 31 (.pick (t 34) (t 35) (.k (.bo false))), x 37 31 (.mov (t 36)), w 38 37 (.mov (t 0)), w 39 37 (.nck (t 38)), w 40 37 (.fad 12 (t 39)), w 41 37 (.ld 1 false (t 40)), w 42 37 (.len false (t 41)), w 43 37 (b .geq (t 42) (k 131072)), x 44 31 (.pick (t 37) (t 43) (.k (.bo false))), o 45 (.pick (t 31) (.k (.bo true)) (t 44))]
(.cond (t 45)
(s [mK 8 (.it .i64 0), mK 9 (.bo false)]
.ret)
.skip))
(s [mK 11 (.it .i64 0)]
(.seq (.blk 0 (.loop [0, 1, 2, 3, 10, 11] [13]
(.seq (s [mV 46 11, mV 47 2, lN 48 true 47, o 49 (b .lss (t 46) (t 48))]
(.cond (t 49)
.skip
(.exit 0)))
(.blk 1 (.seq (.reg true [
mV 50 2, lN 51 true 50, mV 52 11, o 53 (b .sub (t 51) (t 52)), mV 54 0, nK 55 54, fA 56 4 55, fA 57 3 56, lD 58 1 57, mV 59 0, nK 60 59, fA 61 12 60, lD 62 1 61, lN 63 false 62, o 64 (b .sub (k 131072) (t 63)), o 65 (.mn3 false (t 53) (t 58) (t 64)), mV 66 0, nK 67 66, fA 68 13 67, lQ 69 1 68, mV 70 10, nK 71 70, fA 72 2 71, lQ 73 1 72, o 74 (.bsv [.one] 1 [[(.it .i64 0)], [(.it .i64 0)]] [(0, (t 69)), (1, (t 73))]), cP 75 63 [t 65, t 74], mV 12 75] [])
(.seq (s [mV 76 12, o 77 (b .lss (t 76) (k 1))]
(.cond (t 77)
(s [mV 78 11, mV 8 78, mK 9 (.bo true)]
.ret)
.skip))
(s [mV 79 1, mV 80 2, mV 81 11, mV 82 11, mV 83 12, o 84 (b .add (t 82) (t 83)), o 85 (.slc true 0 (t 80) (some (t 81)) (some (t 84))), o 86 (.cnv .s2v (t 85)), o 87 (.bld [(.it .i64 0), (.it .i64 0), (.it .i64 0), .ns] [(0, 1, (k 0)), (2, 1, (t 79)), (3, 1, (t 86))]), o 13 (.alc [(.it .i64 0), (.it .i64 0), (.it .i64 0), .ns]), sO 4 13 87]
(s [mV 88 11, mV 89 12, o 90 (b .add (t 88) (t 89)), mV 11 90]
(.seq (s [mV 91 3, mV 92 91, w 93 92 (.mov (t 11)), w 94 92 (.mov (t 2)), w 95 92 (.len true (t 94)), w 96 92 (b .eql (t 93) (t 95)), o 97 (.pick (t 92) (t 96) (.k (.bo false)))]
(.cond (t 97)
(.reg false [
fA 98 1 13, n (.sto 1 (t 98) (k 1))] [98])
.skip))
(.seq (.reg true [
mV 99 0, mV 100 0, nK 101 100, fA 102 12 101, lD 103 1 102, lQ 104 4 13, o 105 (.call true .pure 49 [t 103, t 104]), nK 106 99, fA 107 12 106, sO 1 107 105] [])
(s [mV 109 0, mV 110 0, nK 111 110, fA 112 13 111, lQ 113 1 112, mV 114 12, o 115 (.call true .pure 64 [t 113, t 114]), mV 108 115, eX 116 108 0, eX 117 108 1, nK 118 109, fA 119 13 118, sO 1 119 116]
(r [mV 121 10, mV 122 10, nK 123 122, fA 124 2 123, lQ 125 1 124, mV 126 12, o 127 (.call true .pure 64 [t 125, t 126]), mV 120 127, eX 128 120 0, eX 129 120 1, nK 130 121, fA 131 2 130, sO 1 131 128]))))))))))))
(.seq (s [mV 132 3, o 133 (.un .not (t 132))]
(.cond (t 133)
(s [mV 134 11, mV 8 134, mK 9 (.bo true)]
.ret)
.skip))
(.seq (s [mV 135 2, o 136 (b .eql (t 135) (.k (.st [])))]
(.cond (t 136)
(r [mV 137 0, mV 138 0, nK 139 138, fA 140 12 139, lD 141 1 140, mV 142 1, o 143 (.bld [(.it .i64 0), (.it .i64 0), (.it .i64 0), .ns] [(0, 1, (k 0)), (1, 1, (k 1)), (2, 1, (t 142))]), o 144 (.call true .pure 49 [t 141, t 143]), nK 145 137, fA 146 12 145, sO 1 146 144])
.skip))
(s [mV 147 0, mV 148 10, cR 149 65 [t 147, t 148, (k 13)]]
(s [mV 150 11, mV 8 150, mK 9 (.bo true)]
.ret)))))))))⟩
def c18 : Ev.Fn := d18.den
def p18 : Pol := { P0 .rw with loc := [13], heap := [105, 115, 127, 144], own := [105, 115, 127, 144], clr := [(12, [98])], mask := [(5, [0, 1, 2, 3, 10, 11], [13])] }
theorem r18 : FnOK Tryz.prog mds 18 c18 := .read (pol := p18) (d := d18) Tryz.func18 (by kernel_rfl) (by kernel_rfl) rfl rfl (by kernel_rfl)

def d19 : DFn := ⟨[(.c .one)], [(.c .one), (.c .one)], .rw, [.tmp 2, .tmp 3],
(s [mK 2 (.it .i64 0), mK 3 (.it .i64 0)]
(.seq (.reg true [
mV 4 0, nK 5 4, fA 6 23 5, lD 7 1 6, mV 9 0, nK 10 9, fA 11 23 10, lD 12 1 11, o 8 (.call false .ro 66 [t 7]), o 13 (.call false .ro 67 [t 12]), mV 2 8, mV 3 13] [])
.ret))⟩
def c19 : Ev.Fn := d19.den
def p19 : Pol := { P0 .rw with ord := [(1, [0, 1, 2, 3, 5, 6, 7, 8, 4, 9, 10, 11])] }
theorem r19 : FnOK Tryz.prog mds 19 c19 := .read (pol := p19) (d := d19) Tryz.func19 (by kernel_rfl) (by kernel_rfl) rfl rfl (by kernel_rfl)

def d20 : DFn := ⟨[(.c (.sl [.one, .one])), (.c (.sl [.one, .one]))], [(.c .one)], .pure, [.tmp 4],
(s [mK 4 (.bo false)]
(.seq (s [mV 6 0, lN 7 false 6, mV 8 1, lN 9 false 8, o 10 (b .neq (t 7) (t 9))]
(.cond (t 10)
(s [mK 4 (.bo false)]
.ret)
.skip))
(.seq (s [mK 5 (.it .i64 0)]
(.blk 0 (.loop [0, 1, 5] []
(.seq (s [mV 11 5, mV 12 0, lN 13 false 12, o 14 (b .lss (t 11) (t 13))]
(.cond (t 14)
.skip
(.exit 0)))
(.seq (.blk 1 (.seq (.reg true [
mV 17 0, mV 18 5, o 19 (.ias 2 (t 17) (t 18)), lQ 20 2 19, mV 21 1, mV 22 5, o 23 (.ias 2 (t 21) (t 22)), lQ 24 2 23, o 25 (.bin (.ag [1, 1]) .neq (t 20) (t 24))] [])
(.cond (t 25)
(s [mK 4 (.bo false)]
.ret)
.skip)))
(r [mV 15 5, o 16 (b .add (t 15) (k 1)), mV 5 16]))))))
(s [mK 4 (.bo true)]
.ret))))⟩
def c20 : Ev.Fn := d20.den
def p20 : Pol := { P0 .pure with mask := [(4, [0, 1, 5], [])] }
theorem r20 : FnOK Tryz.prog mds 20 c20 := .read (pol := p20) (d := d20) Tryz.func20 (by kernel_rfl) (by kernel_rfl) rfl rfl (by kernel_rfl)

def d21 : DFn := ⟨[(.c .one)], [(.c .one)], .rw, [.tmp 2],
(s [mK 2 (.it .i64 0)]
(s [mV 3 0, nK 4 3, fA 5 25 4, lD 6 1 5, lN 7 false 6, mV 2 7]
.ret))⟩
def c21 : Ev.Fn := d21.den
def p21 : Pol := P0 .rw
theorem r21 : FnOK Tryz.prog mds 21 c21 := .read (pol := p21) (d := d21) Tryz.func21 (by kernel_rfl) (by kernel_rfl) rfl rfl (by kernel_rfl)

def d42 : DFn := ⟨[(.c .one)], [(.c .one), (.c .one)], .rw, [.tmp 2, .tmp 3],
(s [mK 2 .np, mK 3 (.it .i64 0)]
(.seq (s [mV 4 0, o 5 (b .lss (t 4) (k 0)), mV 6 5, x 7 6 (.mov (t 0)), x 8 6 (b .gtr (t 7) (k 16777216)), o 9 (.pick (t 6) (.k (.bo true)) (t 8))]
(.cond (t 9)
(s [mK 2 .np, mK 3 (.it .i64 1)]
.ret)
.skip))
(s [mV 10 0, o 11 (.bld [.ns, (.it .i64 0), (.it .i64 0)] [(2, 1, (t 10))]), o 12 (.bxh (t 11)), mV 2 12, mK 3 (.it .i64 0)]
.ret)))⟩
def c42 : Ev.Fn := d42.den
def p42 : Pol := P0 .rw
theorem r42 : FnOK Tryz.prog mds 42 c42 := .read (pol := p42) (d := d42) Tryz.func42 (by kernel_rfl) (by kernel_rfl) rfl rfl (by kernel_rfl)

def d43 : DFn := ⟨[(.c .one), (.c .one), (.c .one)], [(.c .one)], .pure, [.tmp 6],
(s [mK 6 (.bo false)]
(s [mV 7 0, mV 8 1, o 9 (b .geq (t 7) (t 8)), mV 10 9, w 11 10 (.mov (t 0)), w 12 10 (.mov (t 2)), w 13 10 (b .leq (t 11) (t 12)), o 14 (.pick (t 10) (t 13) (.k (.bo false))), mV 6 14]
.ret))⟩
def c43 : Ev.Fn := d43.den
def p43 : Pol := P0 .pure
theorem r43 : FnOK Tryz.prog mds 43 c43 := .read (pol := p43) (d := d43) Tryz.func43 (by kernel_rfl) (by kernel_rfl) rfl rfl (by kernel_rfl)

def d44 : DFn := ⟨[], [(.g [.one, .one, .one, .one, .one])], .pure, [.cell 0 5 true],
(s [o 0 (.alc [(.it .i64 0), (.it .i64 0), (.it .i64 0), (.it .i64 0), (.it .i64 0)])]
(s [o 1 (.bld [(.it .i64 0), (.it .i64 0), (.it .i64 0), (.it .i64 0), (.it .i64 0)] [(0, 1, (k 4096)), (1, 1, (k 2147483647)), (2, 1, (k 65535)), (3, 1, (k 16384)), (4, 1, (k 2147483647))]), sO 5 0 1]
.ret))⟩
def c44 : Ev.Fn := d44.den
def p44 : Pol := { P0 .pure with loc := [0] }
theorem r44 : FnOK Tryz.prog mds 44 c44 := .read (pol := p44) (d := d44) Tryz.func44 (by kernel_rfl) (by kernel_rfl) rfl rfl (by kernel_rfl)

def d45 : DFn := ⟨[(.c .one), (.c .one)], [(.c .one), (.c .one)], .rw, [.tmp 4, .tmp 5],
(s [mK 4 .np, mK 5 (.it .i64 0)]
(.seq (s [mV 7 0, cP 8 88 [t 7], o 9 (.un .not (t 8))]
(.cond (t 9)
(s [mK 4 .np, mK 5 (.it .i64 1)]
.ret)
.skip))
(s [mV 10 0, o 11 (.bld [(.it .i64 0), (.st []), .ns, (.it .i64 0), (.it .i64 0), (.it .i64 0)] [(0, 1, (t 10))]), o 12 (.bxh (t 11)), mV 6 12]
(.seq (s [mV 13 1]
(.cond (t 13)
(r [mV 14 6, nK 15 14, fA 16 1 15, n (.sto 1 (t 16) (.k (.st [80, 82, 73, 32, 42, 32, 72, 84, 84, 80, 47, 50, 46, 48, 13, 10, 13, 10, 83, 77, 13, 10, 13, 10])))])
.skip))
(s [mV 17 6, mV 4 17, mK 5 (.it .i64 0)]
.ret)))))⟩
def c45 : Ev.Fn := d45.den
def p45 : Pol := P0 .rw
theorem r45 : FnOK Tryz.prog mds 45 c45 := .read (pol := p45) (d := d45) Tryz.func45 (by kernel_rfl) (by kernel_rfl) rfl rfl (by kernel_rfl)

def d46 : DFn := ⟨[(.c .one), (.c .one)], [(.c .one), (.c .one)], .rw, [.tmp 4, .tmp 5],
(s [mK 4 .np, mK 5 (.it .i64 0)]
(.seq (s [mV 8 1, o 9 (b .lss (t 8) (k 0)), mV 10 9, x 11 10 (.mov (t 1)), x 12 10 (b .gtr (t 11) (k 2147483647)), o 13 (.pick (t 10) (.k (.bo true)) (t 12))]
(.cond (t 13)
(s [mK 4 .np, mK 5 (.it .i64 1)]
.ret)
.skip))
(s [mV 15 0, cR 16 89 [t 15], mV 14 16, eX 17 14 0, eX 18 14 1, mV 6 17, mV 7 18]
(.seq (s [mV 19 7, o 20 (b .neq (t 19) (k 0))]
(.cond (t 20)
(s [mV 21 7, mK 4 .np, mV 5 21]
.ret)
.skip))
(s [mV 22 6, mV 23 0, mV 24 1, o 25 (.bld [.np, (.it .i64 0), (.it .i64 0), (.bo false)] [(0, 1, (t 22)), (1, 1, (t 23)), (2, 1, (t 24))]), o 26 (.bxh (t 25)), mV 4 26, mK 5 (.it .i64 0)]
.ret)))))⟩
def c46 : Ev.Fn := d46.den
def p46 : Pol := P0 .rw
theorem r46 : FnOK Tryz.prog mds 46 c46 := .read (pol := p46) (d := d46) Tryz.func46 (by kernel_rfl) (by kernel_rfl) rfl rfl (by kernel_rfl)

def d47 : DFn := ⟨[(.c .one)], [(.c .one), (.c .one)], .rw, [.tmp 2, .tmp 3],
(s [mK 2 .np, mK 3 (.it .i64 0)]
(s [mV 7 0, cR 8 89 [t 7], mV 6 8, eX 9 6 0, eX 10 6 1, mV 4 9, mV 5 10]
(.seq (s [mV 11 5, o 12 (b .neq (t 11) (k 0))]
(.cond (t 12)
(s [mV 13 5, mK 2 .np, mV 3 13]
.ret)
.skip))
(s [mV 14 4, o 15 (.bld [.np, (.bo false), (.it .i64 0)] [(0, 1, (t 14)), (1, 1, (.k (.bo true)))]), o 16 (.bxh (t 15)), mV 2 16, mK 3 (.it .i64 0)]
.ret))))⟩
def c47 : Ev.Fn := d47.den
def p47 : Pol := P0 .rw
theorem r47 : FnOK Tryz.prog mds 47 c47 := .read (pol := p47) (d := d47) Tryz.func47 (by kernel_rfl) (by kernel_rfl) rfl rfl (by kernel_rfl)

def d48 : DFn := ⟨[(.c .one)], [(.g [.one]), (.c .one)], .pure, [.cell 2 1 true, .tmp 3],
(s [o 2 (.alc [(.it .i64 0)]), mK 3 (.it .i64 0)]
(.seq (s [mV 4 0, cP 5 90 [t 4], o 6 (.un .not (t 5))]
(.cond (t 6)
(s [o 7 (.bld [(.it .i64 0)] []), sO 1 2 7, mK 3 (.it .i64 1)]
.ret)
.skip))
(s [mV 8 0, o 9 (.bld [(.it .i64 0)] [(0, 1, (t 8))]), sO 1 2 9, mK 3 (.it .i64 0)]
.ret)))⟩
def c48 : Ev.Fn := d48.den
def p48 : Pol := { P0 .pure with loc := [2], ord := [(0, [1, 0])] }
theorem r48 : FnOK Tryz.prog mds 48 c48 := .read (pol := p48) (d := d48) Tryz.func48 (by kernel_rfl) (by kernel_rfl) rfl rfl (by kernel_rfl)

def d49 : DFn := ⟨[(.c (.sl [.one])), (.g [.one, .one, .one, (.sl [.one])])], [(.c (.sl [.one]))], .pure, [.tmp 4],
(s [o 3 (.box (t 1)), mK 4 .ns]
(.seq (s [lQ 8 4 3, cP 9 91 [t 8], o 10 (.un .not (t 9))]
(.cond (t 10)
(s [mV 11 0, o 12 (.app 1 1 (.k .ns) (t 11)), mV 4 12]
.ret)
.skip))
(.seq (.reg true [
fA 13 3 3, lD 14 1 13, lN 15 false 14, fA 16 2 3, lD 17 1 16, mV 5 15, mV 6 17] [13, 16])
(s [mV 18 0, lN 19 false 18, o 20 (b .add (t 19) (k 9)), mV 21 5, o 22 (b .add (t 20) (t 21)), o 23 (.mks 1 1 [(.it .u8 0)] (k 0) (t 22)), mV 7 23]
(s [mV 24 7, mV 25 0, o 26 (.app 1 1 (t 24) (t 25)), mV 7 26]
(.seq (.reg false [
mV 27 7, mV 28 5, o 29 (b .shr (t 28) (.k (.it .u64 16))), cV 30 .u8 29, mV 31 5, o 32 (b .shr (t 31) (.k (.it .u64 8))), cV 33 .u8 32, mV 34 5, cV 35 .u8 34, fA 36 0 3, lD 37 1 36, cV 38 .u8 37, fA 39 1 3, lD 40 1 39, cV 41 .u8 40, mV 42 6, o 43 (b .shr (t 42) (.k (.it .u64 24))), cV 44 .u8 43, mV 45 6, o 46 (b .shr (t 45) (.k (.it .u64 16))), cV 47 .u8 46, mV 48 6, o 49 (b .shr (t 48) (.k (.it .u64 8))), cV 50 .u8 49, mV 51 6, cV 52 .u8 51, o 53 (.bsv [.one] 1 (List.replicate 9 [(.it .u8 0)]) [(0, (t 30)), (1, (t 33)), (2, (t 35)), (3, (t 38)), (4, (t 41)), (5, (t 44)), (6, (t 47)), (7, (t 50)), (8, (t 52))]), o 54 (.app 1 1 (t 27) (t 53)), mV 7 54] [36, 39])
(.seq (.reg false [
mV 55 7, fA 56 3 3, lD 57 1 56, o 58 (.app 1 1 (t 55) (t 57)), mV 4 58] [56])
.ret)))))))⟩
def c49 : Ev.Fn := d49.den
def p49 : Pol := { P0 .pure with loc := [3], heap := [26, 54], own := [26, 54], ord := [(0, [1, 0])], clr := [(3, [13, 16]), (6, [36, 39]), (7, [56])] }
theorem r49 : FnOK Tryz.prog mds 49 c49 := .read (pol := p49) (d := d49) Tryz.func49 (by kernel_rfl) (by kernel_rfl) rfl rfl (by kernel_rfl)

def d50 : DFn := ⟨[(.c (.sl [.one, .one]))], [(.c (.sl [.one]))], .pure, [.tmp 2],
(.seq (.reg false [
mK 2 .ns] [])
(s [mK 3 .ns]
(.seq (s [mV 7 0, lN 8 false 7, mK 9 (.it .i64 0)]
(.blk 0 (.loop [3, 7, 8, 9] [5]
(s [o 10 (b .lss (t 9) (t 8))]
(.seq (.cond (t 10)
.skip
(.exit 0))
(.seq (.blk 1 (s [o 11 (.ias 2 (t 7) (t 9)), lQ 12 2 11, o 5 (.alc [(.it .i64 0), (.it .i64 0)]), sO 2 5 12]
(.seq (.reg false [
fA 13 1 5, lD 14 1 13, mV 6 14] [13])
(.reg false [
mV 15 3, fA 16 0 5, lD 17 1 16, o 18 (b .shr (t 17) (.k (.it .u64 8))), cV 19 .u8 18, fA 20 0 5, lD 21 1 20, cV 22 .u8 21, mV 23 6, o 24 (b .shr (t 23) (.k (.it .u64 24))), cV 25 .u8 24, mV 26 6, o 27 (b .shr (t 26) (.k (.it .u64 16))), cV 28 .u8 27, mV 29 6, o 30 (b .shr (t 29) (.k (.it .u64 8))), cV 31 .u8 30, mV 32 6, cV 33 .u8 32, o 34 (.bsv [.one] 1 (List.replicate 6 [(.it .u8 0)]) [(0, (t 19)), (1, (t 22)), (2, (t 25)), (3, (t 28)), (4, (t 31)), (5, (t 33))]), o 35 (.app 1 1 (t 15) (t 34)), mV 3 35] [16, 20]))))
(.reg false [
o 36 (b .add (t 9) (k 1)), mV 9 36] [])))))))
(.seq (r [mV 37 3, mV 2 37])
.ret))))⟩
def c50 : Ev.Fn := d50.den
def p50 : Pol := { P0 .pure with loc := [5], heap := [35], own := [35], clr := [(5, [13]), (6, [16, 20])], mask := [(3, [3, 7, 8, 9], [5])] }
theorem r50 : FnOK Tryz.prog mds 50 c50 := .read (pol := p50) (d := d50) Tryz.func50 (by kernel_rfl) (by kernel_rfl) rfl rfl (by kernel_rfl)

def d51 : DFn := ⟨[(.c .one), (.g [.one, .one, .one, (.sl [.one])])], [(.c .one)], .rw, [.tmp 4],
(s [o 3 (.box (t 1)), mK 4 (.bo false)]
(.seq (.seq (.reg false [
fA 5 0 3, lD 6 1 5] [5])
(.blk 0 (.seq (.reg false [
o 8 (b .eql (t 6) (k 1)), mV 7 8] [])
(.cond (t 7)
(.seq (.reg false [
mV 9 0, fA 10 1 3, lD 11 1 10, cR 12 92 [t 9, t 11], mV 4 12] [10])
.ret)
(.seq (.seq (.reg false [
o 14 (b .eql (t 6) (k 2)), mV 13 14] [])
(.cond (t 13)
.skip
(s [o 15 (b .eql (t 6) (k 3)), mV 13 15]
(.cond (t 13)
.skip
(r [o 16 (b .eql (t 6) (k 4)), mV 13 16])))))
(.cond (t 13)
(s [mV 17 0, lQ 18 4 3, cR 19 93 [t 17, t 18], mV 4 19]
.ret)
(.seq (s [o 21 (b .eql (t 6) (k 5)), mV 20 21]
(.cond (t 20)
.skip
(s [o 22 (b .eql (t 6) (k 6)), mV 20 22]
(.cond (t 20)
.skip
(r [o 23 (b .eql (t 6) (k 7)), mV 20 23])))))
(.cond (t 20)
(s [mV 24 0, lQ 25 4 3, cR 26 94 [t 24, t 25], mV 4 26]
.ret)
(s [o 28 (b .eql (t 6) (k 8)), mV 27 28]
(.cond (t 27)
(.seq (.reg true [
mV 29 0, mV 30 0, nK 31 30, fA 32 24 31, lD 33 1 32, fA 34 2 3, lD 35 1 34, o 36 (.mnx true (t 33) (t 35)), o 37 (.mnx false (t 36) (k 2147483647)), nK 38 29, fA 39 24 38, sO 1 39 37] [34])
(s [mK 4 (.bo true)]
.ret))
.skip))))))))))
(s [mK 4 (.bo false)]
.ret)))⟩
def c51 : Ev.Fn := d51.den
def p51 : Pol := { P0 .rw with loc := [3], heap := [37], own := [37], ord := [(0, [1, 0])], clr := [(1, [5]), (3, [10]), (13, [34])] }
theorem r51 : FnOK Tryz.prog mds 51 c51 := .read (pol := p51) (d := d51) Tryz.func51 (by kernel_rfl) (by kernel_rfl) rfl rfl (by kernel_rfl)

def d52 : DFn := ⟨[(.c .one)], [], .rw, [],
(s [o 1 (.bxh (t 0))]
(.seq (s [lD 6 1 1, nK 7 6, fA 8 7 7, lQ 9 8 8, mK 10 (.it .i64 0)]
(.blk 0 (.loop [1, 9, 10] []
(s [o 11 (b .lss (t 10) (k 8))]
(.seq (.cond (t 11)
.skip
(.exit 0))
(.seq (.blk 1 (s [mV 12 10, o 13 (.ixa 8 1 false (t 9) (t 10)), mV 2 12, mV 3 13]
(s [mV 14 3, o 15 (.bin .ptr .neq (t 14) (.k .np)), mV 16 15, w 17 16 (.mov (t 3)), w 18 16 (.call false .rw 95 [t 17]), o 19 (.pick (t 16) (t 18) (.k (.bo false)))]
(.cond (t 19)
(r [lD 20 1 1, mV 21 2, cR 22 96 [t 20, t 21]])
.skip))))
(r [o 23 (b .add (t 10) (k 1)), mV 10 23])))))))
(.seq (s [lD 24 1 1, nK 25 24, fA 26 15 25, lQ 27 8 26, mK 28 (.it .i64 0)]
(.blk 2 (.loop [1, 27, 28] []
(s [o 29 (b .lss (t 28) (k 8))]
(.seq (.cond (t 29)
.skip
(.exit 2))
(.seq (.blk 3 (s [mV 30 28, o 31 (.ixa 8 1 false (t 27) (t 28)), mV 4 30, mV 5 31]
(s [mV 32 5, o 33 (.bin .ptr .neq (t 32) (.k .np)), mV 34 33, w 35 34 (.mov (t 5)), w 36 34 (.nck (t 35)), w 37 34 (.fad 0 (t 36)), w 38 34 (.ld 1 false (t 37)), w 39 34 (.call false .rw 95 [t 38]), o 40 (.pick (t 34) (t 39) (.k (.bo false)))]
(.cond (t 40)
(r [lD 41 1 1, mV 42 4, cR 43 97 [t 41, t 42, (.k (.it .i64 (-1)))]])
.skip))))
(r [o 44 (b .add (t 28) (k 1)), mV 28 44])))))))
(s [lD 45 1 1, o 46 (.mkf 99 [] [t 1]), cR 47 98 [t 45, t 46]]
(s [lD 48 1 1, o 49 (.mkf 101 [] [t 1]), cR 50 98 [t 48, t 49]]
(r [lD 51 1 1, o 52 (.mkf 103 [] [t 1]), cR 53 98 [t 51, t 52]]))))))⟩
def c52 : Ev.Fn := d52.den
def p52 : Pol := { P0 .rw with mask := [(2, [1, 9, 10], []), (8, [1, 27, 28], [])], fns := [99, 101, 103] }
theorem r52 : FnOK Tryz.prog mds 52 c52 := .read (pol := p52) (d := d52) Tryz.func52 (by kernel_rfl) (by kernel_rfl) rfl rfl (by kernel_rfl)

def d53 : DFn := ⟨[(.c .one), (.c .one)], [(.c .one)], .rw, [.tmp 4],
(s [mK 4 .np]
(.seq (s [mV 5 1, o 6 (b .lss (t 5) (k 0)), mV 7 6, x 8 7 (.mov (t 1)), x 9 7 (b .geq (t 8) (k 8)), o 10 (.pick (t 7) (.k (.bo true)) (t 9))]
(.cond (t 10)
(s [mK 4 .np]
.ret)
.skip))
(s [mV 11 0, mV 12 1, nK 13 11, fA 14 7 13, o 15 (.iaa 8 1 (t 14) (t 12)), lD 16 1 15, mV 4 16]
.ret)))⟩
def c53 : Ev.Fn := d53.den
def p53 : Pol := P0 .rw
theorem r53 : FnOK Tryz.prog mds 53 c53 := .read (pol := p53) (d := d53) Tryz.func53 (by kernel_rfl) (by kernel_rfl) rfl rfl (by kernel_rfl)

def d54 : DFn := ⟨[(.c .one), (.c .one)], [(.c .one)], .rw, [.tmp 4],
(s [mK 4 .np]
(.seq (s [mV 5 1, o 6 (b .lss (t 5) (k 0)), mV 7 6, x 8 7 (.mov (t 1)), x 9 7 (b .geq (t 8) (k 8)), o 10 (.pick (t 7) (.k (.bo true)) (t 9))]
(.cond (t 10)
(s [mK 4 .np]
.ret)
.skip))
(s [mV 11 0, mV 12 1, nK 13 11, fA 14 15 13, o 15 (.iaa 8 1 (t 14) (t 12)), lD 16 1 15, mV 4 16]
.ret)))⟩
def c54 : Ev.Fn := d54.den
def p54 : Pol := P0 .rw
theorem r54 : FnOK Tryz.prog mds 54 c54 := .read (pol := p54) (d := d54) Tryz.func54 (by kernel_rfl) (by kernel_rfl) rfl rfl (by kernel_rfl)

def d55 : DFn := ⟨[(.c (.sl [.one, .one, .one]))], [(.c .one)], .pure, [.tmp 2],
(s [mK 2 (.bo false)]
(s [mK 3 (.it .i64 0)]
(.seq (s [mV 6 0, lN 7 false 6, mK 8 (.it .i64 0)]
(.blk 0 (.loop [3, 6, 7, 8] [5]
(s [o 9 (b .lss (t 8) (t 7))]
(.seq (.cond (t 9)
.skip
(.exit 0))
(.seq (.blk 1 (s [o 10 (.ias 3 (t 6) (t 8)), lQ 11 3 10, o 5 (.alc [(.st []), (.st []), (.it .i64 0)]), sO 3 5 11]
(.seq (.reg false [
mV 12 3, fA 13 0 5, lQ 14 2 13, cP 15 105 [t 14], o 16 (b .add (t 12) (t 15)), mV 3 16] [13])
(.seq (.reg false [
fA 17 0 5, fA 18 0 17, lD 19 1 18, lN 20 true 19, o 21 (b .gtr (t 20) (k 65536)), mV 22 21, x 23 22 (.fad 0 (t 5)), x 24 22 (.fad 1 (t 23)), x 25 22 (.ld 1 false (t 24)), x 26 22 (.len true (t 25)), x 27 22 (b .gtr (t 26) (k 65536)), o 28 (.pick (t 22) (.k (.bo true)) (t 27)), mV 29 28, x 30 29 (.mov (t 3)), x 31 29 (b .gtr (t 30) (k 65536)), o 32 (.pick (t 29) (.k (.bo true)) (t 31))] [17, 18, 23, 24])
(.cond (t 32)
(.seq (.reg false [
mK 2 (.bo false)] [])
.ret)
.skip)))))
(r [o 33 (b .add (t 8) (k 1)), mV 8 33])))))))
(s [mK 2 (.bo true)]
.ret))))⟩
def c55 : Ev.Fn := d55.den
def p55 : Pol := { P0 .pure with loc := [5], clr := [(5, [13]), (6, [17, 18, 23, 24])], mask := [(3, [3, 6, 7, 8], [5])] }
theorem r55 : FnOK Tryz.prog mds 55 c55 := .read (pol := p55) (d := d55) Tryz.func55 (by kernel_rfl) (by kernel_rfl) rfl rfl (by kernel_rfl)

def d56 : DFn := ⟨[(.c .one), (.c .one)], [(.c .one)], .rw, [.tmp 4],
(s [mK 4 .np]
(s [mV 6 1, o 7 (.bld [(.it .i64 0), (.it .i64 0), (.it .i64 0), (.it .i64 0), (.bo false), (.bo false)] [(0, 1, (t 6)), (1, 1, (k 0))]), o 8 (.bxh (t 7)), mV 5 8]
(s [mV 10 5, mV 11 0, nK 12 11, fA 13 4 12, fA 14 2 13, lD 15 1 14, o 16 (.call true .pure 48 [t 15]), mV 9 16, eX 17 9 0, eX 18 9 1, nK 19 10, fA 20 2 19, sO 1 20 17]
(s [mV 22 5, mV 23 0, nK 24 23, fA 25 1 24, fA 26 1 25, lD 27 1 26, o 28 (.call true .pure 48 [t 27]), mV 21 28, eX 29 21 0, eX 30 21 1, nK 31 22, fA 32 3 31, sO 1 32 29]
(s [mV 33 0, mV 34 0, nK 35 34, fA 36 15 35, lD 37 1 36, mV 38 5, o 39 (.bsl 1 [[.np]] [(0, (t 38))]), o 40 (.app 1 8 (t 37) (t 39)), nK 41 33, fA 42 15 41, sO 1 42 40]
(s [mV 43 5, mV 4 43]
.ret))))))⟩
def c56 : Ev.Fn := d56.den
def p56 : Pol := { P0 .rw with heap := [16, 28, 40, 39], own := [16, 28, 40] }
theorem r56 : FnOK Tryz.prog mds 56 c56 := .read (pol := p56) (d := d56) Tryz.func56 (by kernel_rfl) (by kernel_rfl) rfl rfl (by kernel_rfl)

def d57 : DFn := ⟨[(.c .one), (.c .one), (.c (.sl [.one, .one, .one])), (.c .one)], [], .rw, [],
(s [mV 11 0, nK 12 11, fA 13 11 12, lD 14 1 13, mV 15 2, cR 16 106 [t 14, t 15], mV 8 16]
(s [mV 17 1, nK 18 17, fA 19 0 18, lD 20 1 19, o 21 (.bld [(.it .i64 0), (.it .i64 0), (.it .i64 0), .ns] [(0, 1, (k 1)), (2, 1, (t 20))]), o 9 (.alc [(.it .i64 0), (.it .i64 0), (.it .i64 0), .ns]), sO 4 9 21]
(.seq (s [mV 22 3]
(.cond (t 22)
(.reg false [
fA 23 1 9, n (.sto 1 (t 23) (k 1))] [23])
.skip))
(.seq (.blk 0 (.loop [0, 1, 3, 8, 9] []
(.blk 1 (s [mV 24 8, lN 25 false 24, mV 26 0, nK 27 26, fA 28 4 27, fA 29 3 28, lD 30 1 29, o 31 (.mnx false (t 25) (t 30)), mV 10 31]
(.seq (.reg true [
mV 32 8, mV 33 10, o 34 (.slc false 1 (t 32) none (some (t 33))), mV 35 8, mV 36 10, o 37 (.slc false 1 (t 35) (some (t 36)) none), fA 38 3 9, ⟨none, none, [35], .sto 1 (t 38) (t 34)⟩, mV 8 37] [38])
(.seq (s [mV 39 8, lN 40 false 39, o 41 (b .eql (t 40) (k 0))]
(.cond (t 41)
(.reg false [
fA 42 1 9, lD 43 1 42, o 44 (b .or (t 43) (k 4)), fA 45 1 9, sO 1 45 44] [42, 45])
.skip))
(.seq (.reg true [
mV 46 0, mV 47 0, nK 48 47, fA 49 12 48, lD 50 1 49, lQ 51 4 9, o 52 (.call true .pure 49 [t 50, t 51]), nK 53 46, fA 54 12 53, sO 1 54 52] [])
(.seq (s [mV 55 8, lN 56 false 55, o 57 (b .eql (t 56) (k 0))]
(.cond (t 57)
(.exit 0)
.skip))
(r [mV 58 1, nK 59 58, fA 60 0 59, lD 61 1 60, o 62 (.bld [(.it .i64 0), (.it .i64 0), (.it .i64 0), .ns] [(0, 1, (k 9)), (2, 1, (t 61))]), sO 4 9 62])))))))))
(s [mV 63 1, nK 64 63, fA 65 5 64, n (.sto 1 (t 65) (.k (.bo true)))]
(r [mV 66 0, mV 67 1, mV 68 3, cP 69 107 [t 68], o 70 (b .add (k 10) (t 69)), cR 71 65 [t 66, t 67, t 70]]))))))⟩
def c57 : Ev.Fn := d57.den
def p57 : Pol := { P0 .rw with loc := [9], heap := [52], own := [52], clr := [(3, [23]), (5, [38]), (7, [42, 45])], mask := [(4, [0, 1, 3, 8, 9], [])] }
theorem r57 : FnOK Tryz.prog mds 57 c57 := .read (pol := p57) (d := d57) Tryz.func57 (by kernel_rfl) (by kernel_rfl) rfl rfl (by kernel_rfl)

def d58 : DFn := ⟨[(.c .one), (.c (.sl [.one]))], [(.c (.sl [.one, .one, .one, (.sl [.one])])), (.g [.one, .one, .one])], .rw, [.tmp 4, .cell 5 3 true],
(s [mK 4 .ns, o 5 (.alc [(.it .i64 0), (.it .i64 0), (.it .i64 0)])]
(.seq (s [mV 9 0, nK 10 9, fA 11 3 10, lQ 12 3 11, o 13 (.bld [(.it .i64 0), (.it .i64 0), (.it .i64 0)] []), o 14 (.bin (.ag [0, 0, 0]) .neq (t 12) (t 13))]
(.cond (t 14)
(.seq (.reg true [
mV 15 0, nK 16 15, fA 17 3 16, lQ 18 3 17, mK 4 .ns, sO 3 5 18] [])
.ret)
.skip))
(s [mV 19 0, mV 20 1, cR 21 108 [t 19, t 20], mV 1 21]
(s [mV 22 0, mV 23 0, nK 24 23, fA 25 2 24, lD 26 1 25, o 27 (.app 1 1 (.k .ns) (t 26)), mV 28 1, o 29 (.app 1 1 (t 27) (t 28)), nK 30 22, fA 31 2 30, sO 1 31 29]
(s [mK 6 .ns]
(.seq (.blk 0 (.loop [0, 5, 6] [7]
(.seq (s [mV 32 0, nK 33 32, fA 34 3 33, lQ 35 3 34, o 36 (.bld [(.it .i64 0), (.it .i64 0), (.it .i64 0)] []), o 37 (.bin (.ag [0, 0, 0]) .eql (t 35) (t 36))]
(.cond (t 37)
.skip
(.exit 0)))
(.blk 1 (s [mV 39 0, cR 40 109 [t 39], mV 38 40, eX 41 38 0, eX 42 38 1, o 7 (.alc [(.it .i64 0), (.it .i64 0), (.it .i64 0), .ns]), sO 4 7 41, mV 8 42]
(.seq (s [mV 43 8, o 44 (.un .not (t 43))]
(.cond (t 44)
(.exit 0)
.skip))
(r [mV 45 6, lQ 46 4 7, o 47 (.bsl 4 [[(.it .i64 0), (.it .i64 0), (.it .i64 0), .ns]] [(0, (t 46))]), o 48 (.app 4 48 (t 45) (t 47)), mV 6 48])))))))
(.seq (.reg true [
mV 49 6, mV 50 0, nK 51 50, fA 52 3 51, lQ 53 3 52, mV 4 49, sO 3 5 53] [])
.ret)))))))⟩
def c58 : Ev.Fn := d58.den
def p58 : Pol := { P0 .rw with loc := [5, 7], heap := [27, 29, 48, 47], own := [27, 29, 48], ord := [(4, [0, 1, 2, 3, 4, 6, 5, 7, 8, 9, 10]), (7, [0, 5, 1, 2, 3, 4, 6, 7])], mask := [(6, [0, 5, 6], [7])] }
theorem r58 : FnOK Tryz.prog mds 58 c58 := .read (pol := p58) (d := d58) Tryz.func58 (by kernel_rfl) (by kernel_rfl) rfl rfl (by kernel_rfl)

def d59 : DFn := ⟨[(.c .one), (.g [.one, .one, .one, (.sl [.one])])], [], .rw, [],
(s [o 3 (.box (t 1))]
(.seq (.seq (.reg false [
mV 7 0, nK 8 7, fA 9 22 8, lD 10 1 9, o 11 (.un .not (t 10)), mV 12 11, w 13 12 (.fad 0 (t 3)), w 14 12 (.ld 1 false (t 13)), w 15 12 (b .neq (t 14) (k 4)), w 16 12 (.mov (t 15)), x 17 16 (.fad 1 (t 3)), x 18 16 (.ld 1 false (t 17)), x 19 16 (b .and (t 18) (k 1)), x 20 16 (b .neq (t 19) (k 0)), w 21 12 (.pick (t 16) (.k (.bo true)) (t 20)), o 22 (.pick (t 12) (t 21) (.k (.bo false)))] [13, 17])
(.cond (t 22)
(.seq (.reg false [
mV 23 0, cR 24 60 [t 23, (k 1)]] [])
.ret)
.skip))
(s [mV 25 0, nK 26 25, fA 27 22 26, n (.sto 1 (t 27) (.k (.bo true)))]
(s [mV 28 0, nK 29 28, fA 30 19 29, fA 31 0 30, lD 32 1 31, mV 4 32]
(.seq (.seq (.reg false [
mV 33 4, o 34 (b .neq (t 33) (k 0)), fA 35 0 3, lD 36 1 35, o 37 (b .eql (t 36) (k 9)), o 38 (.bin .bo .neq (t 34) (t 37)), mV 39 38, x 40 39 (.mov (t 4)), x 41 39 (b .neq (t 40) (k 0)), x 42 39 (.mov (t 41)), w 43 42 (.fad 2 (t 3)), w 44 42 (.ld 1 false (t 43)), w 45 42 (.mov (t 4)), w 46 42 (b .neq (t 44) (t 45)), x 47 39 (.pick (t 42) (t 46) (.k (.bo false))), o 48 (.pick (t 39) (.k (.bo true)) (t 47))] [35, 43])
(.cond (t 48)
(.seq (.reg false [
mV 49 0, cR 50 60 [t 49, (k 1)]] [])
.ret)
.skip))
(s [lQ 52 4 3, cP 53 110 [t 52], mV 51 53, eX 54 51 0, eX 55 51 1, o 5 (.alc [(.it .i64 0), (.it .i64 0), (.bo false), (.bo false), (.bo false), .ns, (.it .i64 0), (.it .i64 0), (.it .i64 0), (.it .i64 0), .ns]), o 6 (.alc [(.it .i64 0), (.it .i64 0), (.it .i64 0)]), sO 11 5 54, sO 3 6 55]
(.seq (.reg false [
fA 56 0 6, lD 57 1 56] [56])
(.blk 0 (.seq (.reg false [
o 62 (b .eql (t 57) (k 2)), mV 61 62] [])
(.cond (t 61)
(.reg false [
mV 63 0, fA 64 1 6, lD 65 1 64, cR 66 60 [t 63, t 65]] [64])
(s [o 68 (b .eql (t 57) (k 1)), mV 67 68]
(.cond (t 67)
(.reg false [
mV 69 0, lQ 70 4 3, lQ 71 3 6, cR 72 111 [t 69, t 70, t 71]] [])
(r [mV 58 0, lQ 59 11 5, cR 60 112 [t 58, t 59]])))))))))))))⟩
def c59 : Ev.Fn := d59.den
def p59 : Pol := { P0 .rw with loc := [3, 5, 6], ord := [(7, [0, 5, 6, 1, 2, 3, 4, 7, 8])], clr := [(1, [13, 17]), (5, [35, 43]), (8, [56]), (11, [64])] }
theorem r59 : FnOK Tryz.prog mds 59 c59 := .read (pol := p59) (d := d59) Tryz.func59 (by kernel_rfl) (by kernel_rfl) rfl rfl (by kernel_rfl)

def d61 : DFn := ⟨[(.c .one), (.c .one)], [(.c .one)], .rw, [.tmp 4],
(s [mK 4 .np]
(.seq (s [mV 7 0, nK 8 7, fA 9 15 8, lD 10 1 9, lN 11 false 10, mK 12 (.it .i64 0)]
(.blk 0 (.loop [1, 10, 11, 12] []
(s [o 13 (b .lss (t 12) (t 11))]
(.seq (.cond (t 13)
.skip
(.exit 0))
(.seq (.blk 1 (s [o 14 (.ias 1 (t 10) (t 12)), lD 15 1 14, mV 6 15]
(s [mV 16 6, nK 17 16, fA 18 0 17, lD 19 1 18, mV 20 1, o 21 (b .eql (t 19) (t 20))]
(.cond (t 21)
(s [mV 22 6, mV 4 22]
.ret)
.skip))))
(r [o 23 (b .add (t 12) (k 1)), mV 12 23])))))))
(s [mK 4 .np]
.ret)))⟩
def c61 : Ev.Fn := d61.den
def p61 : Pol := { P0 .rw with mask := [(2, [1, 10, 11, 12], [])] }
theorem r61 : FnOK Tryz.prog mds 61 c61 := .read (pol := p61) (d := d61) Tryz.func61 (by kernel_rfl) (by kernel_rfl) rfl rfl (by kernel_rfl)

def d62 : DFn := ⟨[(.c .one)], [(.c .one)], .rw, [.tmp 2],
(s [mK 2 (.bo false)]
(s [mV 3 0, nK 4 3, fA 5 1 4, lD 6 1 5, o 7 (b .eql (t 6) (k 1)), mV 8 7, x 9 8 (.mov (t 0)), x 10 8 (.nck (t 9)), x 11 8 (.fad 1 (t 10)), x 12 8 (.ld 1 false (t 11)), x 13 8 (b .eql (t 12) (k 3)), o 14 (.pick (t 8) (.k (.bo true)) (t 13)), mV 2 14]
.ret))⟩
def c62 : Ev.Fn := d62.den
def p62 : Pol := P0 .rw
theorem r62 : FnOK Tryz.prog mds 62 c62 := .read (pol := p62) (d := d62) Tryz.func62 (by kernel_rfl) (by kernel_rfl) rfl rfl (by kernel_rfl)

def d63 : DFn := ⟨[(.c .one), (.c (.sl [.one]))], [(.c .one)], .pure, [.tmp 4],
(s [mK 4 (.it .i64 0)]
(.seq (s [mV 7 1, lN 8 false 7, mK 9 (.it .i64 0)]
(.blk 0 (.loop [0, 7, 8, 9] [6]
(s [o 10 (b .lss (t 9) (t 8))]
(.seq (.cond (t 10)
.skip
(.exit 0))
(.seq (.blk 1 (s [o 11 (.ias 1 (t 7) (t 9)), lQ 12 1 11, o 6 (.alc [(.it .i64 0)]), sO 1 6 12]
(.reg false [
mV 13 0, fA 14 0 6, lD 15 1 14, o 16 (.mnx false (t 13) (t 15)), mV 0 16] [14])))
(.reg false [
o 17 (b .add (t 9) (k 1)), mV 9 17] [])))))))
(s [mV 18 0, o 19 (.mnx true (t 18) (k 0)), mV 4 19]
.ret)))⟩
def c63 : Ev.Fn := d63.den
def p63 : Pol := { P0 .pure with loc := [6], clr := [(4, [14])], mask := [(2, [0, 7, 8, 9], [6])] }
theorem r63 : FnOK Tryz.prog mds 63 c63 := .read (pol := p63) (d := d63) Tryz.func63 (by kernel_rfl) (by kernel_rfl) rfl rfl (by kernel_rfl)

def d64 : DFn := ⟨[(.g [.one]), (.c .one)], [(.g [.one]), (.c .one)], .pure, [.cell 4 1 true, .tmp 5],
(s [o 2 (.box (t 0)), o 4 (.alc [(.it .i64 0)]), mK 5 (.bo false)]
(.seq (.seq (.reg false [
mV 6 1, o 7 (b .lss (t 6) (k 0)), mV 8 7, x 9 8 (.mov (t 1)), x 10 8 (.fad 0 (t 2)), x 11 8 (.ld 1 false (t 10)), x 12 8 (b .gtr (t 9) (t 11)), o 13 (.pick (t 8) (.k (.bo true)) (t 12))] [10])
(.cond (t 13)
(.seq (.reg false [
lQ 14 1 2, sO 1 4 14, mK 5 (.bo false)] [])
.ret)
.skip))
(.seq (.reg false [
fA 15 0 2, lD 16 1 15, mV 17 1, o 18 (b .sub (t 16) (t 17)), o 19 (.bld [(.it .i64 0)] [(0, 1, (t 18))]), sO 1 4 19, mK 5 (.bo true)] [15])
.ret)))⟩
def c64 : Ev.Fn := d64.den
def p64 : Pol := { P0 .pure with loc := [2, 4], ord := [(0, [2, 0, 1])], clr := [(1, [10]), (3, [15])] }
theorem r64 : FnOK Tryz.prog mds 64 c64 := .read (pol := p64) (d := d64) Tryz.func64 (by kernel_rfl) (by kernel_rfl) rfl rfl (by kernel_rfl)

def d65 : DFn := ⟨[(.c .one), (.c .one), (.c .one)], [], .rw, [],
(.seq (.reg false [
mV 7 1, mV 8 1, nK 9 8, fA 10 1 9, lD 11 1 10, mV 12 2, o 13 (.call true .pure 115 [t 11, t 12]), mV 6 13, eX 14 6 0, eX 15 6 1, nK 16 7, fA 17 1 16, sO 1 17 14] [])
(s [mV 18 1, nK 19 18, fA 20 1 19, lD 21 1 20, o 22 (b .eql (t 21) (k 4))]
(.cond (t 22)
(r [mV 23 0, mV 24 1, nK 25 24, fA 26 0 25, lD 27 1 26, cR 28 116 [t 23, t 27]])
.skip)))⟩
def c65 : Ev.Fn := d65.den
def p65 : Pol := { P0 .rw with heap := [13], own := [13] }
theorem r65 : FnOK Tryz.prog mds 65 c65 := .read (pol := p65) (d := d65) Tryz.func65 (by kernel_rfl) (by kernel_rfl) rfl rfl (by kernel_rfl)

def d66 : DFn := ⟨[(.c .one)], [(.c .one)], .ro, [.tmp 2],
(s [mK 2 (.it .i64 0)]
(s [mV 3 0, nK 4 3, fA 5 0 4, lD 6 1 5, lN 7 false 6, mV 2 7]
.ret))⟩
def c66 : Ev.Fn := d66.den
def p66 : Pol := P0 .ro
theorem r66 : FnOK Tryz.prog mds 66 c66 := .read (pol := p66) (d := d66) Tryz.func66 (by kernel_rfl) (by kernel_rfl) rfl rfl (by kernel_rfl)

def d67 : DFn := ⟨[(.c .one)], [(.c .one)], .ro, [.tmp 2],
(s [mK 2 (.it .i64 0)]
(s [mV 3 0, nK 4 3, fA 5 1 4, lD 6 1 5, mV 2 6]
.ret))⟩
def c67 : Ev.Fn := d67.den
def p67 : Pol := P0 .ro
theorem r67 : FnOK Tryz.prog mds 67 c67 := .read (pol := p67) (d := d67) Tryz.func67 (by kernel_rfl) (by kernel_rfl) rfl rfl (by kernel_rfl)

def d88 : DFn := ⟨[(.c .one)], [(.c .one)], .pure, [.tmp 2],
(s [mK 2 (.bo false)]
(s [mV 3 0, o 4 (b .geq (t 3) (k 16384)), mV 5 4, w 6 5 (.mov (t 0)), w 7 5 (b .leq (t 6) (k 16777215)), o 8 (.pick (t 5) (t 7) (.k (.bo false))), mV 2 8]
.ret))⟩
def c88 : Ev.Fn := d88.den
def p88 : Pol := P0 .pure
theorem r88 : FnOK Tryz.prog mds 88 c88 := .read (pol := p88) (d := d88) Tryz.func88 (by kernel_rfl) (by kernel_rfl) rfl rfl (by kernel_rfl)

def d89 : DFn := ⟨[(.c .one)], [(.c .one), (.c .one)], .rw, [.tmp 2, .tmp 3],
(s [mK 2 .np, mK 3 (.it .i64 0)]
(.seq (s [mV 4 0, cP 5 124 [t 4], o 6 (.un .not (t 5))]
(.cond (t 6)
(s [mK 2 .np, mK 3 (.it .i64 1)]
.ret)
.skip))
(s [cP 7 125 [], mV 8 0, o 9 (.bld [.ns, .ns, (.it .i64 0), (.it .i64 0)] [(1, 1, (t 7)), (3, 1, (t 8))]), o 10 (.bxh (t 9)), mV 2 10, mK 3 (.it .i64 0)]
.ret)))⟩
def c89 : Ev.Fn := d89.den
def p89 : Pol := { P0 .rw with ord := [(3, [1, 0, 2, 3, 4, 5])] }
theorem r89 : FnOK Tryz.prog mds 89 c89 := .read (pol := p89) (d := d89) Tryz.func89 (by kernel_rfl) (by kernel_rfl) rfl rfl (by kernel_rfl)

def d90 : DFn := ⟨[(.c .one)], [(.c .one)], .pure, [.tmp 2],
(s [mK 2 (.bo false)]
(s [mV 3 0, o 4 (b .geq (t 3) (k 0)), mV 5 4, w 6 5 (.mov (t 0)), w 7 5 (b .leq (t 6) (k 2147483647)), o 8 (.pick (t 5) (t 7) (.k (.bo false))), mV 2 8]
.ret))⟩
def c90 : Ev.Fn := d90.den
def p90 : Pol := P0 .pure
theorem r90 : FnOK Tryz.prog mds 90 c90 := .read (pol := p90) (d := d90) Tryz.func90 (by kernel_rfl) (by kernel_rfl) rfl rfl (by kernel_rfl)

def d91 : DFn := ⟨[(.g [.one, .one, .one, (.sl [.one])])], [(.c .one)], .pure, [.tmp 2],
(s [o 1 (.box (t 0)), mK 2 (.bo false)]
(.seq (.reg false [
fA 3 0 1, lD 4 1 3, o 5 (b .geq (t 4) (k 0)), mV 6 5, w 7 6 (.fad 0 (t 1)), w 8 6 (.ld 1 false (t 7)), w 9 6 (b .leq (t 8) (k 255)), o 10 (.pick (t 6) (t 9) (.k (.bo false))), mV 11 10, w 12 11 (.fad 1 (t 1)), w 13 11 (.ld 1 false (t 12)), w 14 11 (b .geq (t 13) (k 0)), o 15 (.pick (t 11) (t 14) (.k (.bo false))), mV 16 15, w 17 16 (.fad 1 (t 1)), w 18 16 (.ld 1 false (t 17)), w 19 16 (b .leq (t 18) (k 255)), o 20 (.pick (t 16) (t 19) (.k (.bo false))), mV 21 20, w 22 21 (.fad 2 (t 1)), w 23 21 (.ld 1 false (t 22)), w 24 21 (b .geq (t 23) (k 0)), o 25 (.pick (t 21) (t 24) (.k (.bo false))), mV 26 25, w 27 26 (.fad 2 (t 1)), w 28 26 (.ld 1 false (t 27)), w 29 26 (b .leq (t 28) (k 2147483647)), o 30 (.pick (t 26) (t 29) (.k (.bo false))), mV 31 30, w 32 31 (.fad 3 (t 1)), w 33 31 (.ld 1 false (t 32)), w 34 31 (.len false (t 33)), w 35 31 (b .leq (t 34) (k 16777215)), o 36 (.pick (t 31) (t 35) (.k (.bo false))), mV 2 36] [3, 7, 12, 17, 22, 27, 32])
.ret))⟩
def c91 : Ev.Fn := d91.den
def p91 : Pol := { P0 .pure with loc := [1], ord := [(0, [1, 0])], clr := [(1, [3, 7, 12, 17, 22, 27, 32])] }
theorem r91 : FnOK Tryz.prog mds 91 c91 := .read (pol := p91) (d := d91) Tryz.func91 (by kernel_rfl) (by kernel_rfl) rfl rfl (by kernel_rfl)

def d92 : DFn := ⟨[(.c .one), (.c .one)], [(.c .one)], .rw, [.tmp 4],
(.seq (.reg false [
mK 4 (.bo false)] [])
(.seq (s [mV 5 1, o 6 (b .lss (t 5) (k 0)), mV 7 6, x 8 7 (.mov (t 1)), x 9 7 (b .geq (t 8) (k 8)), o 10 (.pick (t 7) (.k (.bo true)) (t 9)), mV 11 10, x 12 11 (.mov (t 0)), x 13 11 (.mov (t 1)), x 14 11 (.nck (t 12)), x 15 11 (.fad 7 (t 14)), x 16 11 (.iaa 8 1 (t 15) (t 13)), x 17 11 (.ld 1 false (t 16)), x 18 11 (.bin .ptr .neq (t 17) (.k .np)), o 19 (.pick (t 11) (.k (.bo true)) (t 18))]
(.cond (t 19)
(s [mK 4 (.bo false)]
.ret)
.skip))
(.seq (.reg true [
mV 21 0, mV 22 1, mV 23 0, nK 24 23, fA 25 0 24, fA 26 2 25, lQ 27 3 26, nK 31 21, fA 32 7 31, o 28 (.call true .rw 10 [(.k (.bo true)), t 27]), mV 20 28, eX 29 20 0, eX 30 20 1, o 33 (.iaa 8 1 (t 32) (t 22)), sO 1 33 29] [])
(s [mK 4 (.bo true)]
.ret))))⟩
def c92 : Ev.Fn := d92.den
def p92 : Pol := { P0 .rw with heap := [28], own := [28], ord := [(3, [0, 1, 2, 3, 4, 5, 6, 11, 12, 7, 8, 9, 10, 13, 14])] }
theorem r92 : FnOK Tryz.prog mds 92 c92 := .read (pol := p92) (d := d92) Tryz.func92 (by kernel_rfl) (by kernel_rfl) rfl rfl (by kernel_rfl)

def d93 : DFn := ⟨[(.c .one), (.g [.one, .one, .one, (.sl [.one])])], [(.c .one)], .rw, [.tmp 4],
(s [o 3 (.box (t 1)), mK 4 (.bo false)]
(.seq (.reg false [
mV 8 0, fA 9 1 3, lD 10 1 9, cR 11 53 [t 8, t 10], mV 5 11] [9])
(.seq (.seq (.reg false [
mV 12 5, o 13 (.bin .ptr .eql (t 12) (.k .np))] [])
(.cond (t 13)
(s [mK 4 (.bo false)]
.ret)
.skip))
(.seq (.seq (.reg false [
fA 14 0 3, lD 15 1 14] [14])
(.blk 0 (.seq (.reg false [
o 17 (b .eql (t 15) (k 2)), mV 16 17] [])
(.cond (t 16)
(.seq (.reg false [
mV 18 5, fA 19 3 3, lD 20 1 19, cR 21 16 [t 18, t 20], lN 22 false 21, mK 23 (.it .i64 0)] [19])
(.blk 1 (.loop [0, 3, 21, 22, 23] [7]
(.seq (.reg false [
o 24 (b .lss (t 23) (t 22))] [])
(.seq (.cond (t 24)
.skip
(.exit 1))
(.seq (.blk 2 (s [o 25 (.ias 6 (t 21) (t 23)), lQ 26 6 25, o 7 (.alc [(.it .i64 0), (.it .i64 0), .ns, (.st []), (.bo false), (.it .i64 0)]), sO 6 7 26]
(.reg false [
mV 27 0, fA 28 1 3, lD 29 1 28, lQ 30 6 7, cR 31 126 [t 27, t 29, t 30]] [28])))
(.reg false [
o 32 (b .add (t 23) (k 1)), mV 23 32] [])))))))
(s [o 34 (b .eql (t 15) (k 3)), mV 33 34]
(.cond (t 33)
(.seq (.reg true [
mV 35 0, fA 36 1 3, lD 37 1 36, nK 38 35, fA 39 7 38, o 40 (.iaa 8 1 (t 39) (t 37)), n (.sto 1 (t 40) (.k .np))] [36])
(.reg false [
mV 41 0, fA 42 1 3, lD 43 1 42, cR 44 96 [t 41, t 43]] [42]))
.skip))))))
(s [mK 4 (.bo true)]
.ret)))))⟩
def c93 : Ev.Fn := d93.den
def p93 : Pol := { P0 .rw with loc := [3, 7], ord := [(0, [1, 0]), (6, [0, 1, 2, 5, 3, 4])], clr := [(1, [9]), (4, [14]), (6, [19]), (9, [28]), (12, [36]), (13, [42])], mask := [(7, [0, 3, 21, 22, 23], [7])] }
theorem r93 : FnOK Tryz.prog mds 93 c93 := .read (pol := p93) (d := d93) Tryz.func93 (by kernel_rfl) (by kernel_rfl) rfl rfl (by kernel_rfl)

def d94 : DFn := ⟨[(.c .one), (.g [.one, .one, .one, (.sl [.one])])], [(.c .one)], .rw, [.tmp 4],
(s [o 3 (.box (t 1)), mK 4 (.bo false)]
(.seq (.reg false [
mV 8 0, fA 9 1 3, lD 10 1 9, cR 11 54 [t 8, t 10], mV 5 11] [9])
(.seq (.seq (.reg false [
mV 12 5, o 13 (.bin .ptr .eql (t 12) (.k .np))] [])
(.cond (t 13)
(s [mK 4 (.bo false)]
.ret)
.skip))
(.seq (.seq (.reg false [
fA 14 0 3, lD 15 1 14] [14])
(.blk 0 (.seq (.reg false [
o 17 (b .eql (t 15) (k 5)), mV 16 17] [])
(.cond (t 16)
(.seq (.reg true [
mV 18 5, nK 19 18, fA 20 0 19, lD 21 1 20, fA 22 3 3, lD 23 1 22, mK 26 (.it .i64 0), cR 24 16 [t 21, t 23], lN 25 false 24] [22])
(.blk 1 (.loop [0, 3, 24, 25, 26] [7]
(s [o 27 (b .lss (t 26) (t 25))]
(.seq (.cond (t 27)
.skip
(.exit 1))
(.seq (.blk 2 (s [o 28 (.ias 6 (t 24) (t 26)), lQ 29 6 28, o 7 (.alc [(.it .i64 0), (.it .i64 0), .ns, (.st []), (.bo false), (.it .i64 0)]), sO 6 7 29]
(.reg false [
mV 30 0, fA 31 1 3, lD 32 1 31, lQ 33 6 7, cR 34 127 [t 30, t 32, t 33]] [31])))
(.reg false [
o 35 (b .add (t 26) (k 1)), mV 26 35] [])))))))
(s [o 37 (b .eql (t 15) (k 6)), mV 36 37]
(.cond (t 36)
(.seq (.reg false [
mV 38 0, fA 39 1 3, lD 40 1 39, cR 41 97 [t 38, t 40, (.k (.it .i64 (-1)))]] [39])
(.reg true [
mV 42 0, fA 43 1 3, lD 44 1 43, nK 45 42, fA 46 15 45, o 47 (.iaa 8 1 (t 46) (t 44)), n (.sto 1 (t 47) (.k .np))] [43]))
.skip))))))
(.seq (.reg false [
mK 4 (.bo true)] [])
.ret)))))⟩
def c94 : Ev.Fn := d94.den
def p94 : Pol := { P0 .rw with loc := [3, 7], ord := [(0, [1, 0]), (6, [0, 1, 2, 3, 4, 5, 8, 6, 7])], clr := [(1, [9]), (4, [14]), (6, [22]), (9, [31]), (12, [39]), (13, [43])], mask := [(7, [0, 3, 24, 25, 26], [7])] }
theorem r94 : FnOK Tryz.prog mds 94 c94 := .read (pol := p94) (d := d94) Tryz.func94 (by kernel_rfl) (by kernel_rfl) rfl rfl (by kernel_rfl)

def d95 : DFn := ⟨[(.c .one)], [(.c .one)], .rw, [.tmp 2],
(s [mK 2 (.bo false)]
(s [mV 3 0, nK 4 3, fA 5 24 4, lD 6 1 5, mV 2 6]
.ret))⟩
def c95 : Ev.Fn := d95.den
def p95 : Pol := P0 .rw
theorem r95 : FnOK Tryz.prog mds 95 c95 := .read (pol := p95) (d := d95) Tryz.func95 (by kernel_rfl) (by kernel_rfl) rfl rfl (by kernel_rfl)

def d96 : DFn := ⟨[(.c .one), (.c .one)], [], .rw, [],
(s [o 2 (.bxh (t 0)), o 3 (.bxh (t 1))]
(r [lD 4 1 2, o 5 (.mkf 128 [] [t 3, t 2]), cR 6 98 [t 4, t 5]]))⟩
def c96 : Ev.Fn := d96.den
def p96 : Pol := { P0 .rw with fns := [128] }
theorem r96 : FnOK Tryz.prog mds 96 c96 := .read (pol := p96) (d := d96) Tryz.func96 (by kernel_rfl) (by kernel_rfl) rfl rfl (by kernel_rfl)

def d98 : DFn := ⟨[(.c .one), (.c .one)], [], .rw, [],
(s [mV 6 0, nK 7 6, fA 8 25 7, lD 9 1 8, cR 10 132 [t 9], lN 11 false 10, mK 12 (.it .i64 0)]
(.blk 0 (.loop [1, 10, 11, 12] []
(s [o 13 (b .lss (t 12) (t 11))]
(.seq (.cond (t 13)
.skip
(.exit 0))
(.seq (.blk 1 (s [o 14 (.ias 1 (t 10) (t 12)), lD 15 1 14, mV 5 15]
(s [mV 16 5, nK 17 16, fA 18 46 17, lD 19 1 18, o 20 (.un .not (t 19))]
(.cond (t 20)
(r [mV 21 1, mV 22 5, o 23 (.calv [] (t 21) [t 22])])
.skip))))
(r [o 24 (b .add (t 12) (k 1)), mV 12 24])))))))⟩
def c98 : Ev.Fn := d98.den
def p98 : Pol := { P0 .rw with ord := [(0, [0, 1, 2, 3, 6, 4, 5])], mask := [(1, [1, 10, 11, 12], [])] }
theorem r98 : FnOK Tryz.prog mds 98 c98 := .read (pol := p98) (d := d98) Tryz.func98 (by kernel_rfl) (by kernel_rfl) rfl rfl (by kernel_rfl)

def d99 : DFn := ⟨[(.c .one), (.c .one)], [], .rw, [],
(s [mV 3 0, nK 4 3, fA 5 11 4, lD 6 1 5]
(.cond (t 6)
(r [lD 7 1 1, mV 8 0, cR 9 100 [t 7, t 8]])
.skip))⟩
def c99 : Ev.Fn := d99.den
def p99 : Pol := P0 .rw
theorem r99 : FnOK Tryz.prog mds 99 c99 := .read (pol := p99) (d := d99) Tryz.func99 (by kernel_rfl) (by kernel_rfl) rfl rfl (by kernel_rfl)

def d100 : DFn := ⟨[(.c .one), (.c .one)], [], .rw, [],
(s [mV 11 1, nK 12 11, fA 13 14 12, lQ 14 6 13, o 4 (.alc [(.st []), (.st []), (.st []), (.st []), .ns, (.it .i64 0)]), sO 6 4 14]
(.seq (.reg false [
mV 15 0, fA 16 2 4, lD 17 1 16, o 18 (.call true .rw 133 [t 15, t 17]), mV 5 18] [16])
(.seq (.seq (.reg false [
mV 19 5, o 20 (b .lss (t 19) (k 0))] [])
(.cond (t 20)
(s [mV 21 0, mV 22 1, cR 23 134 [t 21, t 22, (k 503)]]
.ret)
.skip))
(.seq (.reg false [
fA 24 0 4, lD 25 1 24, o 26 (.bld [(.st []), (.st [])] [(0, 1, (.k (.st [58, 109, 101, 116, 104, 111, 100]))), (1, 1, (t 25))]), fA 27 1 4, lD 28 1 27, o 29 (.bld [(.st []), (.st [])] [(0, 1, (.k (.st [58, 115, 99, 104, 101, 109, 101]))), (1, 1, (t 28))]), fA 30 2 4, lD 31 1 30, o 32 (.bld [(.st []), (.st [])] [(0, 1, (.k (.st [58, 97, 117, 116, 104, 111, 114, 105, 116, 121]))), (1, 1, (t 31))]), fA 33 3 4, lD 34 1 33, o 35 (.bld [(.st []), (.st [])] [(0, 1, (.k (.st [58, 112, 97, 116, 104]))), (1, 1, (t 34))]), o 36 (.bsl 2 (List.replicate 4 [(.st []), (.st [])]) [(0, (t 26)), (1, (t 29)), (2, (t 32)), (3, (t 35))]), mV 6 36] [24, 27, 30, 33])
(.seq (.reg false [
mV 37 6, fA 38 4 4, lD 39 1 38, cP 40 135 [t 39], o 41 (.app 2 32 (t 37) (t 40)), cP 42 136 [], o 43 (.bsv [.one, .one] 2 [[(.st []), (.st [])]] [(0, (t 42))]), o 44 (.app 2 32 (t 41) (t 43)), mV 6 44] [38])
(.seq (.reg false [
mV 45 0, mV 46 5, nK 47 45, fA 48 15 47, o 49 (.iaa 8 1 (t 48) (t 46)), lD 50 1 49, mV 7 50] [])
(.seq (s [mV 51 7, nK 52 51, fA 53 0 52, lD 54 1 53, cR 55 95 [t 54], mV 56 55, x 57 56 (.mov (t 7)), x 58 56 (.nck (t 57)), x 59 56 (.fad 2 (t 58)), x 60 56 (.ld 1 false (t 59)), o 61 (.pick (t 56) (.k (.bo true)) (t 60)), mV 62 61, x 63 62 (.mov (t 6)), x 64 62 (.call false .pure 137 [t 63]), x 65 62 (.un .not (t 64)), o 66 (.pick (t 62) (.k (.bo true)) (t 65))]
(.cond (t 66)
(s [mV 67 0, mV 68 1, cR 69 134 [t 67, t 68, (k 502)]]
.ret)
.skip))
(s [mV 70 1, nK 71 70, fA 72 10 71, lD 73 1 72, mV 74 73, w 75 74 (.mov (t 1)), w 76 74 (.nck (t 75)), w 77 74 (.fad 8 (t 76)), w 78 74 (.ld 1 false (t 77)), w 79 74 (b .eql (t 78) (.k (.st []))), o 80 (.pick (t 74) (t 79) (.k (.bo false))), mV 8 80]
(.seq (.reg true [
mV 82 7, nK 83 82, fA 84 0 83, lD 85 1 84, mV 86 6, mV 88 8, cP 87 138 [t 86], o 89 (.call true .rw 13 [t 85, t 87, t 88]), mV 81 89, eX 90 81 0, eX 91 81 1, mV 9 90, mV 10 91] [])
(s [mV 92 10]
(.cond (t 92)
(r [mV 93 1, mV 94 1, mV 95 1, mV 96 1, mV 97 1, mV 98 1, mV 99 5, mV 100 9, mV 101 8, mV 102 0, nK 103 102, fA 104 24 103, lD 105 1 104, nK 106 93, fA 107 11 106, n (.sto 1 (t 107) (.k (.bo false))), nK 108 94, fA 109 20 108, n (.sto 1 (t 109) (.k (.bo true))), nK 110 95, fA 111 21 110, sO 1 111 99, nK 112 96, fA 113 22 112, sO 1 113 100, nK 114 97, fA 115 23 114, sO 1 115 101, nK 116 98, fA 117 24 116, sO 1 117 105])
.skip)))))))))))⟩
def c100 : Ev.Fn := d100.den
def p100 : Pol := { P0 .rw with loc := [4], heap := [18, 36, 41, 44, 89], own := [18, 36, 41, 44, 89], ord := [(10, [0, 1, 2, 3, 4, 6, 5, 7, 8, 9, 10, 11, 12])], clr := [(1, [16]), (4, [24, 27, 30, 33]), (5, [38])] }
theorem r100 : FnOK Tryz.prog mds 100 c100 := .read (pol := p100) (d := d100) Tryz.func100 (by kernel_rfl) (by kernel_rfl) rfl rfl (by kernel_rfl)

def d101 : DFn := ⟨[(.c .one), (.c .one)], [], .rw, [],
(s [mV 3 0, nK 4 3, fA 5 20 4, lD 6 1 5]
(.cond (t 6)
(r [lD 7 1 1, mV 8 0, cR 9 102 [t 7, t 8]])
.skip))⟩
def c101 : Ev.Fn := d101.den
def p101 : Pol := P0 .rw
theorem r101 : FnOK Tryz.prog mds 101 c101 := .read (pol := p101) (d := d101) Tryz.func101 (by kernel_rfl) (by kernel_rfl) rfl rfl (by kernel_rfl)

def d102 : DFn := ⟨[(.c .one), (.c .one)], [], .rw, [],
(.seq (s [mV 6 1, nK 7 6, fA 8 23 7, lD 9 1 8, mV 10 9, x 11 10 (.mov (t 1)), x 12 10 (.nck (t 11)), x 13 10 (.fad 8 (t 12)), x 14 10 (.ld 1 false (t 13)), x 15 10 (b .eql (t 14) (.k (.st []))), x 16 10 (.mov (t 15)), w 17 16 (.mov (t 1)), w 18 16 (.nck (t 17)), w 19 16 (.fad 10 (t 18)), w 20 16 (.ld 1 false (t 19)), w 21 16 (.un .not (t 20)), x 22 10 (.pick (t 16) (t 21) (.k (.bo false))), o 23 (.pick (t 10) (.k (.bo true)) (t 22))]
(.cond (t 23)
.ret
.skip))
(.seq (.reg true [
mV 25 0, mV 26 1, nK 27 26, fA 28 21 27, lD 29 1 28, nK 30 25, fA 31 15 30, o 32 (.iaa 8 1 (t 31) (t 29)), lD 33 1 32, nK 34 33, fA 35 0 34, lD 36 1 35, mV 37 1, nK 38 37, fA 39 22 38, lD 40 1 39, mV 41 1, nK 42 41, fA 43 8 42, lD 44 1 43, mV 45 1, nK 46 45, fA 47 10 46, lD 48 1 47, cR 49 18 [t 36, t 40, t 44, t 48], mV 24 49, eX 50 24 0, eX 51 24 1, mV 4 50, mV 5 51] [])
(.seq (s [mV 52 5, o 53 (.un .not (t 52))]
(.cond (t 53)
.ret
.skip))
(s [mV 54 1, mV 55 1, nK 56 55, fA 57 8 56, lD 58 1 57, mV 59 4, o 60 (.slc true 0 (t 58) (some (t 59)) none), nK 61 54, fA 62 8 61, sO 1 62 60]
(s [mV 63 1, mV 64 1, nK 65 64, fA 66 10 65, lD 67 1 66, mV 68 67, w 69 68 (.mov (t 1)), w 70 68 (.nck (t 69)), w 71 68 (.fad 8 (t 70)), w 72 68 (.ld 1 false (t 71)), w 73 68 (b .eql (t 72) (.k (.st []))), o 74 (.pick (t 68) (t 73) (.k (.bo false))), nK 75 63, fA 76 23 75, sO 1 76 74]
(r [mV 77 0, mV 78 1, mV 79 4, cR 80 139 [t 77, t 78, t 79]]))))))⟩
def c102 : Ev.Fn := d102.den
def p102 : Pol := P0 .rw
theorem r102 : FnOK Tryz.prog mds 102 c102 := .read (pol := p102) (d := d102) Tryz.func102 (by kernel_rfl) (by kernel_rfl) rfl rfl (by kernel_rfl)

def d103 : DFn := ⟨[(.c .one), (.c .one)], [], .rw, [],
(s [mV 3 0, nK 4 3, fA 5 0 4, lD 6 1 5, o 7 (b .geq (t 6) (k 0))]
(.cond (t 7)
(r [lD 8 1 1, mV 9 0, cR 10 104 [t 8, t 9]])
.skip))⟩
def c103 : Ev.Fn := d103.den
def p103 : Pol := P0 .rw
theorem r103 : FnOK Tryz.prog mds 103 c103 := .read (pol := p103) (d := d103) Tryz.func103 (by kernel_rfl) (by kernel_rfl) rfl rfl (by kernel_rfl)

def d104 : DFn := ⟨[(.c .one), (.c .one)], [], .rw, [],
(.seq (.reg true [
mV 8 0, mV 9 1, nK 10 9, fA 11 0 10, lD 12 1 11, nK 13 8, fA 14 7 13, o 15 (.iaa 8 1 (t 14) (t 12)), lD 16 1 15, mV 4 16] [])
(.seq (s [mV 17 1, nK 18 17, fA 19 25 18, lD 20 1 19, o 21 (.hnd (.eqs .eql) [t 20, (.k .ns)])]
(.cond (t 21)
.ret
.skip))
(s [mK 5 (.bo false)]
(.seq (s [mV 22 1, nK 23 22, fA 24 26 23, lD 25 1 24, o 26 (.un .not (t 25))]
(.cond (t 26)
(.seq (s [mV 27 1, nK 28 27, fA 29 25 28, lD 30 1 29, cP 31 137 [t 30], o 32 (.un .not (t 31))]
(.cond (t 32)
(s [mV 33 4, mV 34 1, nK 35 34, fA 36 1 35, lD 37 1 36, cR 38 79 [t 33, t 37, (k 2)]]
(s [mV 39 0, mV 40 1, cR 41 129 [t 39, t 40]]
.ret))
.skip))
(s [mV 42 1, nK 43 42, fA 44 29 43, lD 45 1 44, mV 46 45, w 47 46 (.mov (t 1)), w 48 46 (.nck (t 47)), w 49 46 (.fad 27 (t 48)), w 50 46 (.ld 1 false (t 49)), w 51 46 (b .eql (t 50) (.k (.st []))), o 52 (.pick (t 46) (t 51) (.k (.bo false))), mV 5 52]
(.seq (.seq (.reg true [
mV 53 4, mV 54 1, nK 55 54, fA 56 1 55, lD 57 1 56, mV 58 1, nK 59 58, fA 60 25 59, lD 61 1 60, mV 63 5, cP 62 138 [t 61], cR 64 17 [t 53, t 57, t 62, t 63], o 65 (.un .not (t 64))] [])
(.cond (t 65)
.ret
.skip))
(r [mV 66 1, nK 67 66, fA 68 26 67, n (.sto 1 (t 68) (.k (.bo true)))]))))
.skip))
(.seq (s [mV 69 5, o 70 (.un .not (t 69)), mV 71 70, w 72 71 (.mov (t 1)), w 73 71 (.nck (t 72)), w 74 71 (.fad 27 (t 73)), w 75 71 (.ld 1 false (t 74)), w 76 71 (b .neq (t 75) (.k (.st []))), w 77 71 (.mov (t 76)), x 78 77 (.mov (t 1)), x 79 77 (.nck (t 78)), x 80 77 (.fad 29 (t 79)), x 81 77 (.ld 1 false (t 80)), w 82 71 (.pick (t 77) (.k (.bo true)) (t 81)), o 83 (.pick (t 71) (t 82) (.k (.bo false)))]
(.cond (t 83)
(.seq (.reg true [
mV 85 4, mV 86 1, nK 87 86, fA 88 1 87, lD 89 1 88, mV 90 1, nK 91 90, fA 92 27 91, lD 93 1 92, mV 94 1, nK 95 94, fA 96 29 95, lD 97 1 96, cR 98 18 [t 85, t 89, t 93, t 97], mV 84 98, eX 99 84 0, eX 100 84 1, mV 6 99, mV 7 100] [])
(.seq (s [mV 101 7, o 102 (.un .not (t 101))]
(.cond (t 102)
.ret
.skip))
(s [mV 103 1, mV 104 1, nK 105 104, fA 106 27 105, lD 107 1 106, mV 108 6, o 109 (.slc true 0 (t 107) (some (t 108)) none), nK 110 103, fA 111 27 110, sO 1 111 109]
(s [mV 112 0, mV 113 1, mV 114 6, cR 115 140 [t 112, t 113, t 114]]
(r [mV 116 1, nK 117 116, fA 118 29 117, lD 119 1 118, mV 120 119, w 121 120 (.mov (t 1)), w 122 120 (.nck (t 121)), w 123 120 (.fad 27 (t 122)), w 124 120 (.ld 1 false (t 123)), w 125 120 (b .eql (t 124) (.k (.st []))), o 126 (.pick (t 120) (t 125) (.k (.bo false))), mV 5 126])))))
.skip))
(s [mV 127 5]
(.cond (t 127)
(r [mV 128 0, mV 129 1, cR 130 141 [t 128, t 129]])
.skip)))))))⟩
def c104 : Ev.Fn := d104.den
def p104 : Pol := { P0 .rw with ord := [(8, [0, 1, 2, 3, 4, 5, 6, 7, 8, 10, 9, 11, 12])], hnd := [21] }
theorem r104 : FnOK Tryz.prog mds 104 c104 := .read (pol := p104) (d := d104) Tryz.func104 (by kernel_rfl) (by kernel_rfl) rfl rfl (by kernel_rfl)

def d105 : DFn := ⟨[(.g [.one, .one])], [(.c .one)], .pure, [.tmp 2],
(s [o 1 (.box (t 0)), mK 2 (.it .i64 0)]
(.seq (.reg false [
fA 3 0 1, lD 4 1 3, lN 5 true 4, fA 6 1 1, lD 7 1 6, lN 8 true 7, o 9 (b .add (t 5) (t 8)), o 10 (b .add (t 9) (k 32)), mV 2 10] [3, 6])
.ret))⟩
def c105 : Ev.Fn := d105.den
def p105 : Pol := { P0 .pure with loc := [1], ord := [(0, [1, 0])], clr := [(1, [3, 6])] }
theorem r105 : FnOK Tryz.prog mds 105 c105 := .read (pol := p105) (d := d105) Tryz.func105 (by kernel_rfl) (by kernel_rfl) rfl rfl (by kernel_rfl)

def d106 : DFn := ⟨[(.c .one), (.c (.sl [.one, .one, .one]))], [(.c (.sl [.one]))], .rw, [.tmp 4],
(.seq (.reg false [
mK 4 .ns] [])
(s [mV 10 0, cR 11 142 [t 10], mV 5 11]
(.seq (s [mV 12 1, lN 13 false 12, mK 14 (.it .i64 0)]
(.blk 0 (.loop [0, 5, 12, 13, 14] [7]
(s [o 15 (b .lss (t 14) (t 13))]
(.seq (.cond (t 15)
.skip
(.exit 0))
(.seq (.blk 1 (s [o 16 (.ias 3 (t 12) (t 14)), lQ 17 3 16, o 7 (.alc [(.st []), (.st []), (.it .i64 0)]), sO 3 7 17]
(.seq (.reg true [
mV 19 0, nK 20 19, fA 21 0 20, lD 22 1 21, fA 23 0 7, lQ 24 2 23, cR 25 143 [t 22, t 24], mV 18 25, eX 26 18 0, eX 27 18 1, mV 8 26, mV 9 27] [23])
(.blk 2 (.seq (.reg false [
mV 34 9, mV 35 34, w 36 35 (.fad 2 (t 7)), w 37 35 (.ld 1 false (t 36)), w 38 35 (b .neq (t 37) (k 3)), o 39 (.pick (t 35) (t 38) (.k (.bo false))), mV 33 39] [36])
(.cond (t 33)
(.reg false [
mV 40 5, mV 41 8, cP 42 144 [t 40, (k 7), (.k (.it .u8 128)), t 41], mV 5 42] [])
(.seq (.reg false [
fA 44 2 7, lD 45 1 44, o 46 (b .eql (t 45) (k 1)), mV 43 46] [44])
(.cond (t 43)
(.seq (.reg false [
mV 47 5, mV 48 8, fA 49 0 7, lQ 50 2 49, cP 51 145 [t 47, t 48, (k 6), (.k (.it .u8 64)), t 50], mV 5 51] [49])
(.reg true [
mV 52 0, nK 53 52, fA 54 0 53, lD 55 1 54, fA 56 0 7, lQ 57 2 56, cR 58 146 [t 55, t 57]] [56]))
(.seq (.reg false [
fA 60 2 7, lD 61 1 60, o 62 (b .eql (t 61) (k 3)), mV 59 62] [60])
(.cond (t 59)
(.reg false [
mV 63 5, mV 64 8, fA 65 0 7, lQ 66 2 65, cP 67 145 [t 63, t 64, (k 4), (.k (.it .u8 16)), t 66], mV 5 67] [65])
(.reg false [
mV 28 5, mV 29 8, fA 30 0 7, lQ 31 2 30, cP 32 145 [t 28, t 29, (k 4), (.k (.it .u8 0)), t 31], mV 5 32] [30])))))))))))
(.reg false [
o 68 (b .add (t 14) (k 1)), mV 14 68] [])))))))
(.seq (r [mV 69 5, mV 4 69])
.ret))))⟩
def c106 : Ev.Fn := d106.den
def p106 : Pol := { P0 .rw with loc := [7], clr := [(5, [23]), (7, [36]), (9, [44]), (10, [49]), (11, [56]), (12, [60]), (13, [65]), (6, [30])], mask := [(3, [0, 5, 12, 13, 14], [7])] }
theorem r106 : FnOK Tryz.prog mds 106 c106 := .read (pol := p106) (d := d106) Tryz.func106 (by kernel_rfl) (by kernel_rfl) rfl rfl (by kernel_rfl)

def d107 : DFn := ⟨[(.c .one)], [(.c .one)], .pure, [.tmp 2],
(s [mK 2 (.it .i64 0)]
(.seq (s [mV 3 0]
(.cond (t 3)
(s [mK 2 (.it .i64 1)]
.ret)
.skip))
(s [mK 2 (.it .i64 2)]
.ret)))⟩
def c107 : Ev.Fn := d107.den
def p107 : Pol := P0 .pure
theorem r107 : FnOK Tryz.prog mds 107 c107 := .read (pol := p107) (d := d107) Tryz.func107 (by kernel_rfl) (by kernel_rfl) rfl rfl (by kernel_rfl)

end Go.Proofs.YtnnhhfjkkmakaaaGreatDoor.tab
