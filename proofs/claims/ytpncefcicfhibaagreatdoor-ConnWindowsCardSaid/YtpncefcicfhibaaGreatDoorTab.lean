import Derived.Test.YtpncefcicfhibaaGreatDoorHand
import Derived.Test.YtpncefcicfhibaaGreatDoorRows
import Derived.KernelRfl
set_option linter.unusedVariables false
set_option linter.unusedSimpArgs false
set_option linter.unusedSectionVars false
/- the functions of the seat, read off the program -/
namespace Go.Proofs.YtpncefcicfhibaaGreatDoor.tab
open Go hiding Fn
open Ev

abbrev mV (d s : Nat) : DOp := ⟨some d, none, [], .mov (.t s)⟩
abbrev fA (d o s : Nat) : DOp := ⟨some d, none, [], .fad o (.t s)⟩
abbrev lD (d n s : Nat) : DOp := ⟨some d, none, [], .ld n false (.t s)⟩
abbrev lQ (d n s : Nat) : DOp := ⟨some d, none, [], .ld n true (.t s)⟩
abbrev nK (d s : Nat) : DOp := ⟨some d, none, [], .nck (.t s)⟩
abbrev sO (n a s : Nat) : DOp := ⟨none, none, [], .sto n (.t a) (.t s)⟩
abbrev eX (d s i : Nat) : DOp := ⟨some d, none, [], .ext (.t s) i⟩
abbrev mK (d : Nat) (v : V) : DOp := ⟨some d, none, [], .mov (.k v)⟩
abbrev cR (d f : Nat) (l : List A) : DOp := ⟨some d, none, [], .call false .rw f l⟩
abbrev cP (d f : Nat) (l : List A) : DOp := ⟨some d, none, [], .call false .pure f l⟩
abbrev lN (d : Nat) (q : Bool) (s : Nat) : DOp := ⟨some d, none, [], .len q (.t s)⟩
abbrev cV (d : Nat) (k : IntKind) (s : Nat) : DOp := ⟨some d, none, [], .cnv (.int k) (.t s)⟩
def mdl : List Md := [.pure, .pure, .pure, .pure, .pure, .pure, .pure, .pure, .pure, .pure, .rw, .pure, .pure, .rw, .rw, .rw, .pure, .rw, .rw, .rw, .pure, .pure, .rw, .rw, .pure, .pure, .rw, .rw, .rw, .rw, .pure, .rw, .pure, .pure, .rw, .rw, .rw, .pure, .pure, .pure, .rw, .rw, .rw, .rw, .rw, .rw, .rw, .pure, .pure, .rw, .pure, .pure, .pure, .rw, .pure, .rw, .pure, .rw, .pure, .pure, .rw, .pure, .rw, .rw, .pure, .rw, .rw, .pure, .rw, .pure, .rw, .rw, .rw, .rw, .pure, .pure, .rw, .rw, .pure, .pure, .rw, .rw, .pure, .pure, .pure, .pure, .pure, .pure, .rw, .pure, .pure, .pure, .rw, .rw, .rw, .rw, .rw, .rw, .rw, .rw, .pure, .pure, .rw, .rw, .rw, .rw, .pure, .pure, .rw, .pure, .pure, .rw, .rw, .pure, .pure, .pure, .pure, .rw, .rw, .rw, .rw, .pure, .rw, .rw, .pure, .rw, .rw, .pure, .pure, .pure, .pure, .pure, .pure, .pure, .pure, .pure, .rw, .rw, .rw, .rw, .pure, .rw, .rw, .rw, .pure, .pure, .pure, .pure, .pure, .rw, .pure, .rw, .rw, .rw, .rw, .rw, .rw, .pure, .pure, .pure, .pure, .pure, .pure, .pure, .pure, .rw, .rw, .pure, .rw, .pure, .pure, .pure, .pure, .pure, .rw, .pure, .pure, .pure, .pure, .pure, .pure, .pure, .pure, .rw, .rw, .rw, .rw, .rw, .rw, .rw, .rw, .rw, .pure, .pure, .pure, .pure, .pure, .pure]
def mds (n : Nat) : Md := mdl.getD n .rw

abbrev OK (n : Nat) (c : Ev.Fn) : Prop := FnOK Tryz.prog mds n c
theorem rd {n : Nat} {gf : Func} {c : Ev.Fn} (d : DFn) (pol : Pol) (h1 : Tryz.prog.funcs[n]? = some gf) (h2 : (gf.name == "runtime.NumGoroutine") = false := by kernel_rfl) (h3 : cFn Tryz.prog pol gf = some d := by kernel_rfl) (h6 : d.den = c := by exact rfl) (h4 : pol.mds = mds := by exact rfl) (h5 : c.md = mds n := by kernel_rfl) : OK n c := .read h1 h2 h3 h6 h4 h5
def d3 : DFn := ⟨[], [(.c .one)], .pure, [.tmp 0],
(.seq (.reg false [
mK 0 (.bo false)] [])
(.seq (.reg false [
cP 14 11 [], cR 15 10 [(.k (.bo true)), (.t 14)], mV 13 15, eX 16 13 0, eX 17 13 1, mV 1 16, mV 2 17] [])
(.seq (.seq (.reg false [
mV 18 1, ⟨some 19, none, [], .bin .ptr .eql (.t 18) (.k .np)⟩, mV 20 19, ⟨some 21, some (20, false), [], .mov (.t 2)⟩, ⟨some 22, some (20, false), [], .bin .no .neq (.t 21) (.k (.it .i64 0))⟩, ⟨some 23, none, [], .pick (.t 20) (.k (.bo true)) (.t 22)⟩, mV 24 23, ⟨some 25, some (24, false), [], .mov (.t 1)⟩, ⟨some 26, some (24, false), [], .call false .rw 13 [(.t 25), (.k (.it .i64 1000))]⟩, ⟨some 27, some (24, false), [], .bsv [.one] 1 (List.replicate 27 [(.it .u8 0)]) [(0, (.k (.it .u8 0))), (1, (.k (.it .u8 0))), (2, (.k (.it .u8 18))), (3, (.k (.it .u8 4))), (4, (.k (.it .u8 0))), (5, (.k (.it .u8 0))), (6, (.k (.it .u8 0))), (7, (.k (.it .u8 0))), (8, (.k (.it .u8 0))), (9, (.k (.it .u8 0))), (10, (.k (.it .u8 3))), (11, (.k (.it .u8 0))), (12, (.k (.it .u8 0))), (13, (.k (.it .u8 0))), (14, (.k (.it .u8 2))), (15, (.k (.it .u8 0))), (16, (.k (.it .u8 4))), (17, (.k (.it .u8 0))), (18, (.k (.it .u8 0))), (19, (.k (.it .u8 255))), (20, (.k (.it .u8 255))), (21, (.k (.it .u8 0))), (22, (.k (.it .u8 6))), (23, (.k (.it .u8 0))), (24, (.k (.it .u8 1))), (25, (.k (.it .u8 0))), (26, (.k (.it .u8 0)))]⟩, ⟨some 28, some (24, false), [], .call false .pure 12 [(.t 26), (.t 27)]⟩, ⟨some 29, some (24, false), [], .un .not (.t 28)⟩, ⟨some 30, none, [], .pick (.t 24) (.k (.bo true)) (.t 29)⟩] [])
(.cond (.t 30)
(.seq (.reg false [
mK 0 (.bo false)] [])
.ret)
.skip))
(.seq (.reg false [
cP 32 11 [], cP 33 11 [], cR 34 14 [(.t 32), (.t 33)], mV 31 34, eX 35 31 0, eX 36 31 1, mV 3 35, mV 4 36] [])
(.seq (.seq (.reg false [
mV 37 3, ⟨some 38, none, [], .bin .ptr .eql (.t 37) (.k .np)⟩, mV 39 38, ⟨some 40, some (39, false), [], .mov (.t 4)⟩, ⟨some 41, some (39, false), [], .bin .ptr .eql (.t 40) (.k .np)⟩, ⟨some 42, none, [], .pick (.t 39) (.k (.bo true)) (.t 41)⟩] [])
(.cond (.t 42)
(.seq (.reg false [
mK 0 (.bo false)] [])
.ret)
.skip))
(.seq (.reg false [
mV 44 4, ⟨some 45, none, [], .call false .pure 16 [(.k (.st [58, 109, 101, 116, 104, 111, 100])), (.k (.st [71, 69, 84]))]⟩, ⟨some 46, none, [], .bsv [.one, .one, .one] 3 [[(.st []), (.st []), (.it .i64 0)]] [(0, (.t 45))]⟩, cR 47 15 [(.t 44), (.t 46), (.k (.bo true))], mV 43 47, eX 48 43 0, eX 49 43 1, mV 5 48, mV 6 49] [])
(.seq (.reg false [
mV 50 3, mV 51 4, cR 52 13 [(.t 51), (.k (.it .i64 1000))], cR 53 17 [(.t 50), (.t 52)], mV 7 53] [])
(.seq (.reg false [
mV 54 3, ⟨some 55, none, [], .call false .pure 16 [(.k (.st [58, 115, 116, 97, 116, 117, 115])), (.k (.st [50, 48, 48]))]⟩, ⟨some 56, none, [], .bsv [.one, .one, .one] 3 [[(.st []), (.st []), (.it .i64 0)]] [(0, (.t 55))]⟩, cR 57 18 [(.t 54), (.k (.it .i64 1)), (.t 56), (.k (.bo false))], mV 8 57] [])
(.seq (.reg false [
mV 59 3, ⟨some 60, none, [], .call false .rw 19 [(.t 59), (.k (.it .i64 1)), (.k (.st [97, 98])), (.k (.bo true))]⟩, mV 58 60, eX 61 58 0, eX 62 58 1, mV 9 61, mV 10 62] [])
(.seq (.reg false [
mV 63 4, mV 64 3, cR 65 13 [(.t 64), (.k (.it .i64 1000))], cR 66 17 [(.t 63), (.t 65)], mV 11 66] [])
(.seq (.reg false [
mV 67 3, ⟨some 68, none, [], .mks 1 1 [(.it .u8 0)] (.k (.it .i64 7)) (.k (.it .i64 7))⟩, ⟨some 69, none, [], .bld [(.it .i64 0), (.it .i64 0), (.it .i64 0), .ns] [(0, 1, (.k (.it .i64 6))), (3, 1, (.t 68))]⟩, cP 70 20 [(.k .ns), (.t 69)], cR 71 17 [(.t 67), (.t 70)], mV 12 71] [])
(.seq (.reg false [
mV 72 5, ⟨some 73, none, [], .bin .no .eql (.t 72) (.k (.it .i64 1))⟩, mV 74 73, ⟨some 75, some (74, true), [], .mov (.t 6)⟩, ⟨some 76, none, [], .pick (.t 74) (.t 75) (.k (.bo false))⟩, mV 77 76, ⟨some 78, some (77, true), [], .mov (.t 7)⟩, ⟨some 79, some (77, true), [], .bld [(.st []), (.st [])] [(0, 1, (.k (.st [58, 109, 101, 116, 104, 111, 100]))), (1, 1, (.k (.st [71, 69, 84])))]⟩, ⟨some 80, some (77, true), [], .bsv [.one, .one] 2 [[(.st []), (.st [])]] [(0, (.t 79))]⟩, ⟨some 81, some (77, true), [], .bld [(.it .i64 0), (.it .i64 0), .ns, (.st []), (.bo false), (.it .i64 0)] [(0, 1, (.k (.it .i64 1))), (1, 1, (.k (.it .i64 1))), (2, 1, (.t 80)), (4, 1, (.k (.bo true)))]⟩, ⟨some 82, some (77, true), [], .bsl 6 [[(.it .i64 0), (.it .i64 0), .ns, (.st []), (.bo false), (.it .i64 0)]] [(0, (.t 81))]⟩, ⟨some 83, some (77, true), [], .call false .pure 21 [(.t 78), (.t 82)]⟩, ⟨some 84, none, [], .pick (.t 77) (.t 83) (.k (.bo false))⟩, mV 85 84, ⟨some 86, some (85, true), [], .mov (.t 8)⟩, ⟨some 87, none, [], .pick (.t 85) (.t 86) (.k (.bo false))⟩, mV 88 87, ⟨some 89, some (88, true), [], .mov (.t 9)⟩, ⟨some 90, some (88, true), [], .bin .no .eql (.t 89) (.k (.it .i64 2))⟩, ⟨some 91, none, [], .pick (.t 88) (.t 90) (.k (.bo false))⟩, mV 92 91, ⟨some 93, some (92, true), [], .mov (.t 10)⟩, ⟨some 94, none, [], .pick (.t 92) (.t 93) (.k (.bo false))⟩, mV 95 94, ⟨some 96, some (95, true), [], .mov (.t 11)⟩, ⟨some 97, some (95, true), [], .bld [(.st []), (.st [])] [(0, 1, (.k (.st [58, 115, 116, 97, 116, 117, 115]))), (1, 1, (.k (.st [50, 48, 48])))]⟩, ⟨some 98, some (95, true), [], .bsv [.one, .one] 2 [[(.st []), (.st [])]] [(0, (.t 97))]⟩, ⟨some 99, some (95, true), [], .bld [(.it .i64 0), (.it .i64 0), .ns, (.st []), (.bo false), (.it .i64 0)] [(0, 1, (.k (.it .i64 1))), (1, 1, (.k (.it .i64 1))), (2, 1, (.t 98))]⟩, ⟨some 100, some (95, true), [], .bld [(.it .i64 0), (.it .i64 0), .ns, (.st []), (.bo false), (.it .i64 0)] [(0, 1, (.k (.it .i64 3))), (1, 1, (.k (.it .i64 1))), (3, 1, (.k (.st [97, 98]))), (4, 1, (.k (.bo true)))]⟩, ⟨some 101, some (95, true), [], .bsl 6 [[(.it .i64 0), (.it .i64 0), .ns, (.st []), (.bo false), (.it .i64 0)], [(.it .i64 0), (.it .i64 0), .ns, (.st []), (.bo false), (.it .i64 0)]] [(0, (.t 99)), (1, (.t 100))]⟩, ⟨some 102, some (95, true), [], .call false .pure 21 [(.t 96), (.t 101)]⟩, ⟨some 103, none, [], .pick (.t 95) (.t 102) (.k (.bo false))⟩, mV 104 103, ⟨some 105, some (104, true), [], .mov (.t 12)⟩, ⟨some 106, some (104, true), [], .bld [(.it .i64 0), (.it .i64 0), .ns, (.st []), (.bo false), (.it .i64 0)] [(0, 1, (.k (.it .i64 6))), (5, 1, (.k (.it .i64 6)))]⟩, ⟨some 107, some (104, true), [], .bsl 6 [[(.it .i64 0), (.it .i64 0), .ns, (.st []), (.bo false), (.it .i64 0)]] [(0, (.t 106))]⟩, ⟨some 108, some (104, true), [], .call false .pure 21 [(.t 105), (.t 107)]⟩, ⟨some 109, none, [], .pick (.t 104) (.t 108) (.k (.bo false))⟩, mV 110 109, ⟨some 111, some (110, true), [], .mov (.t 3)⟩, ⟨some 112, some (110, true), [], .call false .rw 22 [(.t 111)]⟩, ⟨some 113, none, [], .pick (.t 110) (.t 112) (.k (.bo false))⟩, mV 0 113] [])
.ret))))))))))))⟩
def c3 : Ev.Fn := d3.den
theorem r3 : OK 3 c3 := rd d3 { loc := [], md := .pure, mds := mds, heap := [82, 101, 107], own := [], ord := [(2, [0, 1, 2, 3, 4, 5, 6, 7, 9, 8, 10, 11, 12])], clr := [], mask := [], fns := [], lcl := [], hnd := [], pro := [] } Tryz.func3

def d6 : DFn := ⟨[(.c .one), (.c (.sl [.one])), (.c .one)], [(.c .one)], .pure, [.tmp 6],
(.seq (.reg false [
mK 6 (.bo false)] [])
(.seq (.reg false [
cP 15 11 [], cR 16 23 [(.t 15)], mV 7 16] [])
(.seq (.seq (.reg false [
mV 17 7, ⟨some 18, none, [], .bin .ptr .eql (.t 17) (.k .np)⟩] [])
(.cond (.t 18)
(.seq (.reg false [
mK 6 (.bo false)] [])
.ret)
.skip))
(.seq (.reg false [
mV 19 0, cP 20 25 [(.t 19), (.k (.it .i64 0)), (.k (.it .i64 5000))], mV 8 20] [])
(.seq (.reg false [
mV 21 2, cP 22 25 [(.t 21), (.k (.it .i64 1)), (.k (.it .i64 8000))], ⟨some 23, none, [], .mks 1 1 [(.it .u8 0)] (.t 22) (.t 22)⟩, ⟨some 24, none, [], .cnv .b2s (.t 23)⟩, mV 9 24] [])
(.seq (.reg false [
mV 25 8, ⟨some 26, none, [], .bin .no .shr (.t 25) (.k (.it .u64 8))⟩, cV 27 .u8 26, mV 28 8, cV 29 .u8 28, ⟨some 30, none, [], .bsv [.one] 1 (List.replicate 6 [(.it .u8 0)]) [(0, (.k (.it .u8 0))), (1, (.k (.it .u8 4))), (2, (.k (.it .u8 0))), (3, (.k (.it .u8 0))), (4, (.t 27)), (5, (.t 29))]⟩, ⟨some 31, none, [], .bld [(.it .i64 0), (.it .i64 0), (.it .i64 0), .ns] [(0, 1, (.k (.it .i64 4))), (3, 1, (.t 30))]⟩, ⟨some 10, none, [], .alc [(.it .i64 0), (.it .i64 0), (.it .i64 0), .ns]⟩, sO 4 10 31] [])
(.seq (.reg false [
mV 32 7, lQ 33 4 10, cP 34 24 [(.k .ns), (.t 33)], cR 35 17 [(.t 32), (.t 34)]] [])
(.seq (.reg false [
mV 36 7, ⟨some 37, none, [], .bsv [.one] 1 [[(.it .u8 0)]] [(0, (.k (.it .u8 130)))]⟩, ⟨some 38, none, [], .bld [(.it .i64 0), (.it .i64 0), (.it .i64 0), .ns] [(0, 1, (.k (.it .i64 1))), (1, 1, (.k (.it .i64 5))), (2, 1, (.k (.it .i64 1))), (3, 1, (.t 37))]⟩, cP 39 24 [(.k .ns), (.t 38)], cR 40 17 [(.t 36), (.t 39)]] [])
(.seq (.seq (.reg false [
mV 41 7, ⟨some 42, none, [], .call false .pure 16 [(.k (.st [58, 115, 116, 97, 116, 117, 115])), (.k (.st [50, 48, 48]))]⟩, ⟨some 43, none, [], .bsv [.one, .one, .one] 3 [[(.st []), (.st []), (.it .i64 0)]] [(0, (.t 42))]⟩, cR 44 18 [(.t 41), (.k (.it .i64 1)), (.t 43), (.k (.bo false))], ⟨some 45, none, [], .un .not (.t 44)⟩] [])
(.cond (.t 45)
(.seq (.reg false [
mK 6 (.bo false)] [])
.ret)
.skip))
(.seq (.seq (.reg false [
mK 11 (.it .i64 (-1))] [])
(.blk 0 (.loop [1, 7, 8, 9, 11] [10]
(.seq (.seq (.reg false [
mV 46 11, mV 47 1, lN 48 false 47, ⟨some 49, none, [], .bin .no .lss (.t 46) (.t 48)⟩, mV 50 49, ⟨some 51, some (50, true), [], .mov (.t 11)⟩, ⟨some 52, some (50, true), [], .bin .no .lss (.t 51) (.k (.it .i64 20))⟩, ⟨some 53, none, [], .pick (.t 50) (.t 52) (.k (.bo false))⟩] [])
(.cond (.t 53)
.skip
(.exit 0)))
(.seq (.blk 1 (.seq (.seq (.reg false [
mV 56 11, ⟨some 57, none, [], .bin .no .geq (.t 56) (.k (.it .i64 0))⟩] [])
(.cond (.t 57)
(.seq (.reg false [
mV 58 1, mV 59 11, ⟨some 60, none, [], .ias 1 (.t 58) (.t 59)⟩, lD 61 1 60, cP 62 25 [(.t 61), (.k (.it .i64 1)), (.k (.it .i64 2000))], mV 12 62] [])
(.seq (.reg false [
mV 63 7, mV 64 12, ⟨some 65, none, [], .bin .no .shr (.t 64) (.k (.it .u64 8))⟩, cV 66 .u8 65, mV 67 12, cV 68 .u8 67, ⟨some 69, none, [], .bsv [.one] 1 (List.replicate 4 [(.it .u8 0)]) [(0, (.k (.it .u8 0))), (1, (.k (.it .u8 0))), (2, (.t 66)), (3, (.t 68))]⟩, ⟨some 70, none, [], .bld [(.it .i64 0), (.it .i64 0), (.it .i64 0), .ns] [(0, 1, (.k (.it .i64 8))), (2, 1, (.k (.it .i64 1))), (3, 1, (.t 69))]⟩, cP 71 24 [(.k .ns), (.t 70)], cR 72 17 [(.t 63), (.t 71)]] [])
(.reg false [
mV 73 8, mV 74 12, ⟨some 75, none, [], .bin .no .add (.t 73) (.t 74)⟩, mV 8 75] [])))
.skip))
(.seq (.reg false [
mV 77 7, mV 78 9, cR 79 19 [(.t 77), (.k (.it .i64 1)), (.t 78), (.k (.bo false))], mV 76 79, eX 80 76 0, eX 81 76 1, mV 13 80, mV 14 81] [])
(.seq (.seq (.reg false [
mV 82 14, ⟨some 83, none, [], .un .not (.t 82)⟩, mV 84 83, ⟨some 85, some (84, false), [], .mov (.t 13)⟩, ⟨some 86, some (84, false), [], .mov (.t 8)⟩, ⟨some 87, some (84, false), [], .mov (.t 9)⟩, ⟨some 88, some (84, false), [], .len true (.t 87)⟩, ⟨some 89, some (84, false), [], .mnx false (.t 86) (.t 88)⟩, ⟨some 90, some (84, false), [], .bin .no .neq (.t 85) (.t 89)⟩, ⟨some 91, none, [], .pick (.t 84) (.k (.bo true)) (.t 90)⟩] [])
(.cond (.t 91)
(.seq (.reg false [
mK 6 (.bo false)] [])
.ret)
.skip))
(.reg true [
mV 92 8, mV 93 13, ⟨some 94, none, [], .bin .no .sub (.t 92) (.t 93)⟩, mV 95 9, mV 96 13, ⟨some 97, none, [], .slc true 0 (.t 95) (some (.t 96)) none⟩, mV 8 94, mV 9 97] [])))))
(.reg false [
mV 54 11, ⟨some 55, none, [], .bin .no .add (.t 54) (.k (.it .i64 1))⟩, mV 11 55] []))))))
(.seq (.reg false [
cP 98 3 [], mV 6 98] [])
.ret)))))))))))⟩
def c6 : Ev.Fn := d6.den
theorem r6 : OK 6 c6 := rd d6 { loc := [10], md := .pure, mds := mds, heap := [], own := [], ord := [], clr := [], mask := [(12, [1, 7, 8, 9, 11], [10])], fns := [], lcl := [], hnd := [], pro := [] } Tryz.func6

def d10 : DFn := ⟨[(.c .one), (.g [.one, .one, .one])], [(.c .one), (.c .one)], .rw, [.tmp 4, .tmp 5],
(.seq (.reg false [
⟨some 3, none, [], .box (.t 1)⟩, mK 4 .np, mK 5 (.it .i64 0)] [])
(.seq (.seq (.reg false [
fA 8 0 3, lD 9 1 8, cP 10 32 [(.t 9), (.k (.it .i64 1)), (.k (.it .i64 100))], ⟨some 11, none, [], .un .not (.t 10)⟩, mV 12 11, ⟨some 13, some (12, false), [], .fad 1 (.t 3)⟩, ⟨some 14, some (12, false), [], .ld 1 false (.t 13)⟩, ⟨some 15, some (12, false), [], .call false .pure 32 [(.t 14), (.k (.it .i64 65535)), (.k (.it .i64 2147483647))]⟩, ⟨some 16, some (12, false), [], .un .not (.t 15)⟩, ⟨some 17, none, [], .pick (.t 12) (.k (.bo true)) (.t 16)⟩, mV 18 17, ⟨some 19, some (18, false), [], .fad 2 (.t 3)⟩, ⟨some 20, some (18, false), [], .ld 1 false (.t 19)⟩, ⟨some 21, some (18, false), [], .call false .pure 32 [(.t 20), (.k (.it .i64 1)), (.k (.it .i64 1048576))]⟩, ⟨some 22, some (18, false), [], .un .not (.t 21)⟩, ⟨some 23, none, [], .pick (.t 18) (.k (.bo true)) (.t 22)⟩] [8, 13, 19])
(.cond (.t 23)
(.seq (.reg false [
mK 4 .np, mK 5 (.it .i64 1)] [])
.ret)
.skip))
(.seq (.reg true [
mV 24 0, lQ 25 3 3, cP 26 33 [], ⟨some 27, none, [], .bld [(.bo false), (.it .i64 0), (.it .i64 0), (.it .i64 0), (.it .i64 0), (.it .i64 0), (.it .i64 0), (.it .i64 0), (.it .i64 0), .np, .np, .np, .ns, (.it .i64 0), (.it .i64 0), .ns, (.it .i64 0), (.it .i64 0), .ns, (.it .i64 0), (.bo false), .ns, (.bo false), (.bo false), (.bo false), .ns] [(0, 1, (.t 24)), (1, 3, (.t 25)), (4, 5, (.t 26)), (17, 1, (.k (.it .i64 1)))]⟩, ⟨some 28, none, [], .bxh (.t 27)⟩, mV 6 28] [])
(.seq (.reg false [
mV 30 6, mV 31 0, ⟨some 32, none, [], .call true .rw 34 [(.k (.it .i64 16384)), (.t 31)]⟩, mV 29 32, eX 33 29 0, eX 34 29 1, nK 35 30, fA 36 9 35, sO 1 36 33] [])
(.seq (.reg false [
mV 38 6, fA 39 2 3, lD 40 1 39, ⟨some 41, none, [], .call true .rw 35 [(.k (.it .i64 4096)), (.t 40)]⟩, mV 37 41, eX 42 37 0, eX 43 37 1, nK 44 38, fA 45 10 44, sO 1 45 42] [39])
(.seq (.reg false [
mV 47 6, ⟨some 48, none, [], .call true .rw 36 [(.k (.it .i64 4096))]⟩, mV 46 48, eX 49 46 0, eX 50 46 1, nK 51 47, fA 52 11 51, sO 1 52 49] [])
(.seq (.reg false [
mV 54 6, ⟨some 55, none, [], .call true .pure 37 [(.k (.it .i64 65535))]⟩, mV 53 55, eX 56 53 0, eX 57 53 1, nK 58 54, fA 59 13 58, sO 1 59 56] [])
(.seq (.reg false [
mV 61 6, ⟨some 62, none, [], .call true .pure 37 [(.k (.it .i64 65535))]⟩, mV 60 62, eX 63 60 0, eX 64 60 1, nK 65 61, fA 66 14 65, sO 1 66 63] [])
(.seq (.reg false [
fA 67 0 3, lD 68 1 67, ⟨some 69, none, [], .bld [(.it .i64 0), (.it .i64 0)] [(0, 1, (.k (.it .i64 3))), (1, 1, (.t 68))]⟩, fA 70 1 3, lD 71 1 70, ⟨some 72, none, [], .bld [(.it .i64 0), (.it .i64 0)] [(0, 1, (.k (.it .i64 4))), (1, 1, (.t 71))]⟩, fA 73 2 3, lD 74 1 73, ⟨some 75, none, [], .bld [(.it .i64 0), (.it .i64 0)] [(0, 1, (.k (.it .i64 6))), (1, 1, (.t 74))]⟩, ⟨some 76, none, [], .bsv [.one, .one] 2 [[(.it .i64 0), (.it .i64 0)], [(.it .i64 0), (.it .i64 0)], [(.it .i64 0), (.it .i64 0)]] [(0, (.t 69)), (1, (.t 72)), (2, (.t 75))]⟩, mV 7 76] [67, 70, 73])
(.seq (.seq (.reg false [
mV 77 0, ⟨some 78, none, [], .un .not (.t 77)⟩] [])
(.cond (.t 78)
(.seq (.reg false [
mV 79 6, ⟨some 80, none, [], .bsl 1 (List.replicate 24 [(.it .u8 0)]) [(0, (.k (.it .u8 80))), (1, (.k (.it .u8 82))), (2, (.k (.it .u8 73))), (3, (.k (.it .u8 32))), (4, (.k (.it .u8 42))), (5, (.k (.it .u8 32))), (6, (.k (.it .u8 72))), (7, (.k (.it .u8 84))), (8, (.k (.it .u8 84))), (9, (.k (.it .u8 80))), (10, (.k (.it .u8 47))), (11, (.k (.it .u8 50))), (12, (.k (.it .u8 46))), (13, (.k (.it .u8 48))), (14, (.k (.it .u8 13))), (15, (.k (.it .u8 10))), (16, (.k (.it .u8 13))), (17, (.k (.it .u8 10))), (18, (.k (.it .u8 83))), (19, (.k (.it .u8 77))), (20, (.k (.it .u8 13))), (21, (.k (.it .u8 10))), (22, (.k (.it .u8 13))), (23, (.k (.it .u8 10)))]⟩, ⟨some 81, none, [], .mrk (.t 80)⟩, nK 82 79, fA 83 12 82, sO 1 83 81] [])
(.reg false [
⟨some 84, none, [], .bld [(.it .i64 0), (.it .i64 0)] [(0, 1, (.k (.it .i64 2)))]⟩, ⟨some 85, none, [], .bsl 2 [[(.it .i64 0), (.it .i64 0)]] [(0, (.t 84))]⟩, mV 86 7, ⟨some 87, none, [], .app 2 16 (.t 85) (.t 86)⟩, mV 7 87] []))
.skip))
(.seq (.reg true [
mV 88 6, mV 89 6, nK 90 89, fA 91 12 90, lD 92 1 91, mV 93 7, cP 94 38 [(.t 93)], ⟨some 95, none, [], .bld [(.it .i64 0), (.it .i64 0), (.it .i64 0), .ns] [(0, 1, (.k (.it .i64 4))), (3, 1, (.t 94))]⟩, ⟨some 96, none, [], .call true .pure 20 [(.t 92), (.t 95)]⟩, nK 97 88, fA 98 12 97, sO 1 98 96] [])
(.seq (.reg false [
mV 99 6, mV 4 99, mK 5 (.it .i64 0)] [])
.ret))))))))))))⟩
def c10 : Ev.Fn := d10.den
theorem r10 : OK 10 c10 := rd d10 { loc := [3], md := .rw, mds := mds, heap := [32, 41, 48, 55, 62, 80, 81, 85, 96], own := [32, 41, 48, 55, 62, 80, 81, 85, 96], ord := [(0, [1, 2, 0]), (12, [0, 2, 1, 3, 4])], clr := [(1, [8, 13, 19]), (5, [39]), (9, [67, 70, 73])], mask := [], fns := [], lcl := [], hnd := [], pro := [] } Tryz.func10

def d11 : DFn := ⟨[], [(.g [.one, .one, .one])], .pure, [.cell 0 3 true],
(.seq (.reg false [
⟨some 0, none, [], .alc [(.it .i64 0), (.it .i64 0), (.it .i64 0)]⟩] [])
(.seq (.reg false [
⟨some 1, none, [], .bld [(.it .i64 0), (.it .i64 0), (.it .i64 0)] [(0, 1, (.k (.it .i64 2))), (1, 1, (.k (.it .i64 65535))), (2, 1, (.k (.it .i64 65536)))]⟩, sO 3 0 1] [])
.ret))⟩
def c11 : Ev.Fn := d11.den
theorem r11 : OK 11 c11 := rd d11 { loc := [0], md := .pure, mds := mds, heap := [], own := [], ord := [], clr := [], mask := [], fns := [], lcl := [], hnd := [], pro := [] } Tryz.func11

def d12 : DFn := ⟨[(.c (.sl [.one])), (.c (.sl [.one]))], [(.c .one)], .pure, [.tmp 4],
(.seq (.reg false [
mK 4 (.bo false)] [])
(.seq (.seq (.reg false [
mV 6 0, lN 7 false 6, mV 8 1, lN 9 false 8, ⟨some 10, none, [], .bin .no .neq (.t 7) (.t 9)⟩] [])
(.cond (.t 10)
(.seq (.reg false [
mK 4 (.bo false)] [])
.ret)
.skip))
(.seq (.seq (.reg false [
mK 5 (.it .i64 0)] [])
(.blk 0 (.loop [0, 1, 5] []
(.seq (.seq (.reg false [
mV 11 5, mV 12 0, lN 13 false 12, ⟨some 14, none, [], .bin .no .lss (.t 11) (.t 13)⟩] [])
(.cond (.t 14)
.skip
(.exit 0)))
(.seq (.blk 1 (.seq (.reg true [
mV 17 0, mV 18 5, ⟨some 19, none, [], .ias 1 (.t 17) (.t 18)⟩, lD 20 1 19, mV 21 1, mV 22 5, ⟨some 23, none, [], .ias 1 (.t 21) (.t 22)⟩, lD 24 1 23, ⟨some 25, none, [], .bin .no .neq (.t 20) (.t 24)⟩] [])
(.cond (.t 25)
(.seq (.reg false [
mK 4 (.bo false)] [])
.ret)
.skip)))
(.reg false [
mV 15 5, ⟨some 16, none, [], .bin .no .add (.t 15) (.k (.it .i64 1))⟩, mV 5 16] []))))))
(.seq (.reg false [
mK 4 (.bo true)] [])
.ret))))⟩
def c12 : Ev.Fn := d12.den
theorem r12 : OK 12 c12 := rd d12 { loc := [], md := .pure, mds := mds, heap := [], own := [], ord := [], clr := [], mask := [(4, [0, 1, 5], [])], fns := [], lcl := [], hnd := [], pro := [] } Tryz.func12

def d13 : DFn := ⟨[(.c .one), (.c .one)], [(.c (.sl [.one]))], .rw, [.tmp 4],
(.seq (.reg false [
mK 4 .ns] [])
(.seq (.reg false [
mV 6 1, ⟨some 7, none, [], .mnx true (.t 6) (.k (.it .i64 0))⟩, mV 8 0, nK 9 8, fA 10 12 9, lD 11 1 10, lN 12 false 11, ⟨some 13, none, [], .mnx false (.t 7) (.t 12)⟩, mV 1 13] [])
(.seq (.reg false [
mV 14 0, nK 15 14, fA 16 12 15, lD 17 1 16, mV 18 1, ⟨some 19, none, [], .slc false 1 (.t 17) none (some (.t 18))⟩, ⟨some 20, none, [], .app 1 1 (.k .ns) (.t 19)⟩, mV 5 20] [])
(.seq (.reg false [
mV 21 0, mV 22 0, nK 23 22, fA 24 12 23, lD 25 1 24, mV 26 1, ⟨some 27, none, [], .slc false 1 (.t 25) (some (.t 26)) none⟩, ⟨some 28, none, [], .app 1 1 (.k .ns) (.t 27)⟩, nK 29 21, fA 30 12 29, sO 1 30 28] [])
(.seq (.reg false [
mV 31 5, mV 4 31] [])
.ret)))))⟩
def c13 : Ev.Fn := d13.den
theorem r13 : OK 13 c13 := rd d13 { loc := [], md := .rw, mds := mds, heap := [28], own := [28], ord := [], clr := [], mask := [], fns := [], lcl := [], hnd := [], pro := [] } Tryz.func13

def d14 : DFn := ⟨[(.g [.one, .one, .one]), (.g [.one, .one, .one])], [(.c .one), (.c .one)], .rw, [.tmp 4, .tmp 5],
(.seq (.reg false [
⟨some 2, none, [], .box (.t 0)⟩, ⟨some 3, none, [], .box (.t 1)⟩, mK 4 .np, mK 5 .np] [])
(.seq (.reg false [
lQ 12 3 2, cR 13 10 [(.k (.bo true)), (.t 12)], mV 11 13, eX 14 11 0, eX 15 11 1, mV 6 14, mV 7 15] [])
(.seq (.reg false [
lQ 17 3 3, cR 18 10 [(.k (.bo false)), (.t 17)], mV 16 18, eX 19 16 0, eX 20 16 1, mV 8 19, mV 9 20] [])
(.seq (.seq (.reg false [
mV 21 6, ⟨some 22, none, [], .bin .ptr .eql (.t 21) (.k .np)⟩, mV 23 22, ⟨some 24, some (23, false), [], .mov (.t 8)⟩, ⟨some 25, some (23, false), [], .bin .ptr .eql (.t 24) (.k .np)⟩, ⟨some 26, none, [], .pick (.t 23) (.k (.bo true)) (.t 25)⟩, mV 27 26, ⟨some 28, some (27, false), [], .mov (.t 7)⟩, ⟨some 29, some (27, false), [], .bin .no .neq (.t 28) (.k (.it .i64 0))⟩, ⟨some 30, none, [], .pick (.t 27) (.k (.bo true)) (.t 29)⟩, mV 31 30, ⟨some 32, some (31, false), [], .mov (.t 9)⟩, ⟨some 33, some (31, false), [], .bin .no .neq (.t 32) (.k (.it .i64 0))⟩, ⟨some 34, none, [], .pick (.t 31) (.k (.bo true)) (.t 33)⟩] [])
(.cond (.t 34)
(.seq (.reg false [
mK 4 .np, mK 5 .np] [])
.ret)
.skip))
(.seq (.seq (.reg false [
mK 10 (.it .i64 0)] [])
(.blk 0 (.loop [6, 8, 10] [2, 3]
(.seq (.seq (.reg false [
mV 35 10, ⟨some 36, none, [], .bin .no .lss (.t 35) (.k (.it .i64 2))⟩] [])
(.cond (.t 36)
.skip
(.exit 0)))
(.seq (.blk 1 (.seq (.reg false [
mV 39 6, mV 40 8, cR 41 13 [(.t 40), (.k (.it .i64 1000))], cR 42 17 [(.t 39), (.t 41)], lN 43 false 42, ⟨some 44, none, [], .bin .no .neq (.t 43) (.k (.it .i64 0))⟩, mV 45 44, ⟨some 46, some (45, false), [], .mov (.t 8)⟩, ⟨some 47, some (45, false), [], .mov (.t 6)⟩, ⟨some 48, some (45, false), [], .call false .rw 13 [(.t 47), (.k (.it .i64 1000))]⟩, ⟨some 49, some (45, false), [], .call false .rw 17 [(.t 46), (.t 48)]⟩, ⟨some 50, some (45, false), [], .len false (.t 49)⟩, ⟨some 51, some (45, false), [], .bin .no .neq (.t 50) (.k (.it .i64 0))⟩, ⟨some 52, none, [], .pick (.t 45) (.k (.bo true)) (.t 51)⟩] [])
(.cond (.t 52)
(.seq (.reg false [
mK 4 .np, mK 5 .np] [])
.ret)
.skip)))
(.reg false [
mV 37 10, ⟨some 38, none, [], .bin .no .add (.t 37) (.k (.it .i64 1))⟩, mV 10 38] []))))))
(.seq (.reg false [
mV 53 6, mV 54 8, mV 4 53, mV 5 54] [])
.ret))))))⟩
def c14 : Ev.Fn := d14.den
theorem r14 : OK 14 c14 := rd d14 { loc := [2, 3], md := .rw, mds := mds, heap := [], own := [], ord := [(0, [2, 3, 0, 1])], clr := [], mask := [(6, [6, 8, 10], [2, 3])], fns := [], lcl := [], hnd := [], pro := [] } Tryz.func14

def d15 : DFn := ⟨[(.c .one), (.c (.sl [.one, .one, .one])), (.c .one)], [(.c .one), (.c .one)], .rw, [.tmp 6, .tmp 7],
(.seq (.reg false [
mK 6 (.it .i64 0), mK 7 (.bo false)] [])
(.seq (.seq (.reg true [
mV 9 0, nK 10 9, fA 11 24 10, lD 12 1 11, mV 13 12, ⟨some 14, some (13, false), [], .mov (.t 0)⟩, ⟨some 15, some (13, false), [], .nck (.t 14)⟩, ⟨some 16, some (13, false), [], .fad 0 (.t 15)⟩, ⟨some 17, some (13, false), [], .ld 1 false (.t 16)⟩, ⟨some 18, none, [], .pick (.t 13) (.k (.bo true)) (.t 17)⟩, mV 19 18, ⟨some 20, some (19, false), [], .mov (.t 0)⟩, ⟨some 21, some (19, false), [], .nck (.t 20)⟩, ⟨some 22, some (19, false), [], .fad 23 (.t 21)⟩, ⟨some 23, some (19, false), [], .ld 1 false (.t 22)⟩, ⟨some 24, none, [], .pick (.t 19) (.k (.bo true)) (.t 23)⟩, mV 25 24, ⟨some 26, some (25, false), [], .mov (.t 0)⟩, ⟨some 27, some (25, false), [], .nck (.t 26)⟩, ⟨some 28, some (25, false), [], .fad 17 (.t 27)⟩, ⟨some 29, some (25, false), [], .ld 1 false (.t 28)⟩, ⟨some 30, some (25, false), [], .bin .no .gtr (.t 29) (.k (.it .i64 2147483647))⟩, ⟨some 31, none, [], .pick (.t 25) (.k (.bo true)) (.t 30)⟩, mV 32 31, ⟨some 33, some (32, false), [], .mov (.t 0)⟩, ⟨some 34, some (32, false), [], .nck (.t 33)⟩, ⟨some 35, some (32, false), [], .fad 15 (.t 34)⟩, ⟨some 36, some (32, false), [], .ld 1 false (.t 35)⟩, ⟨some 37, some (32, false), [], .len false (.t 36)⟩, ⟨some 38, some (32, false), [], .mov (.t 0)⟩, ⟨some 39, some (32, false), [], .nck (.t 38)⟩, ⟨some 40, some (32, false), [], .fad 4 (.t 39)⟩, ⟨some 41, some (32, false), [], .fad 1 (.t 40)⟩, ⟨some 42, some (32, false), [], .ld 1 false (.t 41)⟩, ⟨some 43, some (32, false), [], .bin .no .geq (.t 37) (.t 42)⟩, ⟨some 44, none, [], .pick (.t 32) (.k (.bo true)) (.t 43)⟩, mV 45 44, ⟨some 46, some (45, false), [], .mov (.t 0)⟩, ⟨some 47, some (45, false), [], .nck (.t 46)⟩, ⟨some 48, some (45, false), [], .fad 12 (.t 47)⟩, ⟨some 49, some (45, false), [], .ld 1 false (.t 48)⟩, ⟨some 50, some (45, false), [], .len false (.t 49)⟩, ⟨some 51, some (45, false), [], .bin .no .geq (.t 50) (.k (.it .i64 131072))⟩, ⟨some 52, none, [], .pick (.t 45) (.k (.bo true)) (.t 51)⟩, mV 53 52, ⟨some 54, some (53, false), [], .mov (.t 1)⟩, ⟨some 55, some (53, false), [], .call false .pure 39 [(.t 54)]⟩, ⟨some 56, some (53, false), [], .un .not (.t 55)⟩, ⟨some 57, none, [], .pick (.t 53) (.k (.bo true)) (.t 56)⟩] [])
(.cond (.t 57)
(.seq (.reg false [
mK 6 (.it .i64 0), mK 7 (.bo false)] [])
.ret)
.skip))
(.seq (.reg false [
mV 58 0, mV 59 0, nK 60 59, fA 61 17 60, lD 62 1 61, cR 63 40 [(.t 58), (.t 62)], mV 8 63] [])
(.seq (.reg false [
mV 64 0, nK 65 64, fA 66 17 65, lD 67 1 66, ⟨some 68, none, [], .bin .no .add (.t 67) (.k (.it .i64 2))⟩, nK 69 64, fA 70 17 69, sO 1 70 68] [])
(.seq (.reg false [
mV 71 0, mV 72 8, mV 73 1, mV 74 2, cR 75 41 [(.t 71), (.t 72), (.t 73), (.t 74)]] [])
(.seq (.reg false [
mV 76 8, nK 77 76, fA 78 0 77, lD 79 1 78, mV 6 79, mK 7 (.bo true)] [])
.ret))))))⟩
def c15 : Ev.Fn := d15.den
theorem r15 : OK 15 c15 := rd d15 { loc := [], md := .rw, mds := mds, heap := [], own := [], ord := [], clr := [], mask := [], fns := [], lcl := [], hnd := [], pro := [] } Tryz.func15

def d16 : DFn := ⟨[(.c .one), (.c .one)], [(.g [.one, .one, .one])], .pure, [.cell 4 3 true],
(.seq (.reg false [
⟨some 4, none, [], .alc [(.st []), (.st []), (.it .i64 0)]⟩] [])
(.seq (.reg false [
mV 5 0, mV 6 1, ⟨some 7, none, [], .bld [(.st []), (.st [])] [(0, 1, (.t 5)), (1, 1, (.t 6))]⟩, ⟨some 8, none, [], .bld [(.st []), (.st []), (.it .i64 0)] [(0, 2, (.t 7)), (2, 1, (.k (.it .i64 1)))]⟩, sO 3 4 8] [])
.ret))⟩
def c16 : Ev.Fn := d16.den
theorem r16 : OK 16 c16 := rd d16 { loc := [4], md := .pure, mds := mds, heap := [], own := [], ord := [], clr := [], mask := [], fns := [], lcl := [], hnd := [], pro := [] } Tryz.func16

def d17 : DFn := ⟨[(.c .one), (.c (.sl [.one]))], [(.c (.sl [.one, .one, (.sl [.one, .one]), .one, .one, .one]))], .rw, [.tmp 4],
(.seq (.reg false [
mK 4 .ns] [])
(.seq (.seq (.reg false [
mV 10 0, nK 11 10, fA 12 24 11, lD 13 1 12] [])
(.cond (.t 13)
(.seq (.reg false [
mK 4 .ns] [])
.ret)
.skip))
(.seq (.reg false [
mV 14 0, nK 15 14, fA 16 25 15, ⟨none, none, [], .sto 1 (.t 16) (.k .ns)⟩] [])
(.seq (.reg false [
mV 18 0, nK 19 18, fA 20 9 19, lD 21 1 20, mV 22 1, cR 23 42 [(.t 21), (.t 22)], mV 17 23, eX 24 17 0, eX 25 17 1, ⟨some 6, none, [], .alc [(.it .i64 0), (.it .i64 0), (.it .i64 0)]⟩, mV 5 24, sO 3 6 25] [])
(.seq (.seq (.reg false [
mV 26 5, lN 27 false 26, mK 28 (.it .i64 0)] [])
(.blk 0 (.loop [0, 6, 26, 27, 28] [8]
(.seq (.reg false [
⟨some 29, none, [], .bin .no .lss (.t 28) (.t 27)⟩] [])
(.seq (.cond (.t 29)
.skip
(.exit 0))
(.seq (.blk 1 (.seq (.reg false [
⟨some 30, none, [], .ias 4 (.t 26) (.t 28)⟩, lQ 31 4 30, ⟨some 8, none, [], .alc [(.it .i64 0), (.it .i64 0), (.it .i64 0), .ns]⟩, sO 4 8 31] [])
(.seq (.reg false [
mV 32 0, nK 33 32, fA 34 24 33, lD 35 1 34, ⟨some 36, none, [], .un .not (.t 35)⟩] [])
(.cond (.t 36)
(.reg false [
mV 37 0, lQ 38 4 8, cR 39 43 [(.t 37), (.t 38)]] [])
.skip))))
(.reg false [
⟨some 40, none, [], .bin .no .add (.t 28) (.k (.it .i64 1))⟩, mV 28 40] [])))))))
(.seq (.seq (.reg false [
mV 41 0, nK 42 41, fA 43 24 42, lD 44 1 43, ⟨some 45, none, [], .un .not (.t 44)⟩, mV 46 45, ⟨some 47, some (46, true), [], .fad 0 (.t 6)⟩, ⟨some 48, some (46, true), [], .ld 1 false (.t 47)⟩, ⟨some 49, some (46, true), [], .bin .no .neq (.t 48) (.k (.it .i64 0))⟩, ⟨some 50, none, [], .pick (.t 46) (.t 49) (.k (.bo false))⟩] [47])
(.cond (.t 50)
(.reg false [
mV 51 0, fA 52 1 6, lD 53 1 52, cR 54 44 [(.t 51), (.t 53)]] [52])
.skip))
(.seq (.reg false [
mV 55 0, nK 56 55, fA 57 25 56, lD 58 1 57, mV 9 58] [])
(.seq (.reg false [
mV 59 0, nK 60 59, fA 61 25 60, ⟨none, none, [], .sto 1 (.t 61) (.k .ns)⟩] [])
(.seq (.reg false [
mV 62 9, mV 4 62] [])
.ret)))))))))⟩
def c17 : Ev.Fn := d17.den
theorem r17 : OK 17 c17 := rd d17 { loc := [6, 8], md := .rw, mds := mds, heap := [], own := [], ord := [(4, [0, 1, 2, 3, 4, 9, 5, 6, 7, 8, 10, 11])], clr := [(11, [47]), (12, [52])], mask := [(6, [0, 6, 26, 27, 28], [8])], fns := [], lcl := [], hnd := [], pro := [] } Tryz.func17

def d18 : DFn := ⟨[(.c .one), (.c .one), (.c (.sl [.one, .one, .one])), (.c .one)], [(.c .one)], .rw, [.tmp 8],
(.seq (.reg false [
mK 8 (.bo false)] [])
(.seq (.reg false [
mV 10 0, mV 11 1, cR 12 45 [(.t 10), (.t 11)], mV 9 12] [])
(.seq (.seq (.reg false [
mV 13 9, ⟨some 14, none, [], .bin .ptr .eql (.t 13) (.k .np)⟩, mV 15 14, ⟨some 16, some (15, false), [], .mov (.t 9)⟩, ⟨some 17, some (15, false), [], .call false .rw 46 [(.t 16)]⟩, ⟨some 18, some (15, false), [], .un .not (.t 17)⟩, ⟨some 19, none, [], .pick (.t 15) (.k (.bo true)) (.t 18)⟩, mV 20 19, ⟨some 21, some (20, false), [], .mov (.t 9)⟩, ⟨some 22, some (20, false), [], .nck (.t 21)⟩, ⟨some 23, some (20, false), [], .fad 5 (.t 22)⟩, ⟨some 24, some (20, false), [], .ld 1 false (.t 23)⟩, ⟨some 25, some (20, false), [], .mov (.t 24)⟩, ⟨some 26, some (25, true), [], .mov (.t 3)⟩, ⟨some 27, some (25, true), [], .un .not (.t 26)⟩, ⟨some 28, some (20, false), [], .pick (.t 25) (.t 27) (.k (.bo false))⟩, ⟨some 29, none, [], .pick (.t 20) (.k (.bo true)) (.t 28)⟩, mV 30 29, ⟨some 31, some (30, false), [], .mov (.t 0)⟩, ⟨some 32, some (30, false), [], .nck (.t 31)⟩, ⟨some 33, some (30, false), [], .fad 12 (.t 32)⟩, ⟨some 34, some (30, false), [], .ld 1 false (.t 33)⟩, ⟨some 35, some (30, false), [], .len false (.t 34)⟩, ⟨some 36, some (30, false), [], .bin .no .geq (.t 35) (.k (.it .i64 131072))⟩, ⟨some 37, none, [], .pick (.t 30) (.k (.bo true)) (.t 36)⟩, mV 38 37, ⟨some 39, some (38, false), [], .mov (.t 2)⟩, ⟨some 40, some (38, false), [], .call false .pure 39 [(.t 39)]⟩, ⟨some 41, some (38, false), [], .un .not (.t 40)⟩, ⟨some 42, none, [], .pick (.t 38) (.k (.bo true)) (.t 41)⟩] [])
(.cond (.t 42)
(.seq (.reg false [
mK 8 (.bo false)] [])
.ret)
.skip))
(.seq (.reg false [
mV 43 0, mV 44 9, mV 45 2, mV 46 3, cR 47 41 [(.t 43), (.t 44), (.t 45), (.t 46)]] [])
(.seq (.reg false [
mK 8 (.bo true)] [])
.ret)))))⟩
def c18 : Ev.Fn := d18.den
theorem r18 : OK 18 c18 := rd d18 { loc := [], md := .rw, mds := mds, heap := [], own := [], ord := [], clr := [], mask := [], fns := [], lcl := [], hnd := [], pro := [] } Tryz.func18

def d19 : DFn := ⟨[(.c .one), (.c .one), (.c .one), (.c .one)], [(.c .one), (.c .one)], .rw, [.tmp 8, .tmp 9],
(.seq (.reg false [
mK 8 (.it .i64 0), mK 9 (.bo false)] [])
(.seq (.reg false [
mV 14 0, mV 15 1, cR 16 45 [(.t 14), (.t 15)], mV 10 16] [])
(.seq (.seq (.reg false [
mV 17 10, ⟨some 18, none, [], .bin .ptr .eql (.t 17) (.k .np)⟩, mV 19 18, ⟨some 20, some (19, false), [], .mov (.t 10)⟩, ⟨some 21, some (19, false), [], .call false .rw 46 [(.t 20)]⟩, ⟨some 22, some (19, false), [], .un .not (.t 21)⟩, ⟨some 23, none, [], .pick (.t 19) (.k (.bo true)) (.t 22)⟩, mV 24 23, ⟨some 25, some (24, false), [], .mov (.t 10)⟩, ⟨some 26, some (24, false), [], .nck (.t 25)⟩, ⟨some 27, some (24, false), [], .fad 5 (.t 26)⟩, ⟨some 28, some (24, false), [], .ld 1 false (.t 27)⟩, ⟨some 29, some (24, false), [], .un .not (.t 28)⟩, ⟨some 30, none, [], .pick (.t 24) (.k (.bo true)) (.t 29)⟩, mV 31 30, ⟨some 32, some (31, false), [], .mov (.t 2)⟩, ⟨some 33, some (31, false), [], .bin .no .eql (.t 32) (.k (.st []))⟩, ⟨some 34, some (31, false), [], .mov (.t 33)⟩, ⟨some 35, some (34, true), [], .mov (.t 3)⟩, ⟨some 36, some (31, false), [], .pick (.t 34) (.t 35) (.k (.bo false))⟩, ⟨some 37, some (31, false), [], .mov (.t 36)⟩, ⟨some 38, some (37, true), [], .mov (.t 0)⟩, ⟨some 39, some (37, true), [], .nck (.t 38)⟩, ⟨some 40, some (37, true), [], .fad 12 (.t 39)⟩, ⟨some 41, some (37, true), [], .ld 1 false (.t 40)⟩, ⟨some 42, some (37, true), [], .len false (.t 41)⟩, ⟨some 43, some (37, true), [], .bin .no .geq (.t 42) (.k (.it .i64 131072))⟩, ⟨some 44, some (31, false), [], .pick (.t 37) (.t 43) (.k (.bo false))⟩, ⟨some 45, none, [], .pick (.t 31) (.k (.bo true)) (.t 44)⟩] [])
(.cond (.t 45)
(.seq (.reg false [
mK 8 (.it .i64 0), mK 9 (.bo false)] [])
.ret)
.skip))
(.seq (.reg false [
mK 11 (.it .i64 0)] [])
(.seq (.blk 0 (.loop [0, 1, 2, 3, 10, 11] [13]
(.seq (.seq (.reg false [
mV 46 11, mV 47 2, lN 48 true 47, ⟨some 49, none, [], .bin .no .lss (.t 46) (.t 48)⟩] [])
(.cond (.t 49)
.skip
(.exit 0)))
(.blk 1 (.seq (.reg true [
mV 50 2, lN 51 true 50, mV 52 11, ⟨some 53, none, [], .bin .no .sub (.t 51) (.t 52)⟩, mV 54 0, nK 55 54, fA 56 4 55, fA 57 3 56, lD 58 1 57, mV 59 0, nK 60 59, fA 61 12 60, lD 62 1 61, lN 63 false 62, ⟨some 64, none, [], .bin .no .sub (.k (.it .i64 131072)) (.t 63)⟩, ⟨some 65, none, [], .mn3 false (.t 53) (.t 58) (.t 64)⟩, mV 66 0, nK 67 66, fA 68 13 67, lQ 69 1 68, mV 70 10, nK 71 70, fA 72 2 71, lQ 73 1 72, ⟨some 74, none, [], .bsv [.one] 1 [[(.it .i64 0)], [(.it .i64 0)]] [(0, (.t 69)), (1, (.t 73))]⟩, cP 75 47 [(.t 65), (.t 74)], mV 12 75] [])
(.seq (.seq (.reg false [
mV 76 12, ⟨some 77, none, [], .bin .no .lss (.t 76) (.k (.it .i64 1))⟩] [])
(.cond (.t 77)
(.seq (.reg false [
mV 78 11, mV 8 78, mK 9 (.bo true)] [])
.ret)
.skip))
(.seq (.reg false [
mV 79 1, mV 80 2, mV 81 11, mV 82 11, mV 83 12, ⟨some 84, none, [], .bin .no .add (.t 82) (.t 83)⟩, ⟨some 85, none, [], .slc true 0 (.t 80) (some (.t 81)) (some (.t 84))⟩, ⟨some 86, none, [], .cnv .s2v (.t 85)⟩, ⟨some 87, none, [], .bld [(.it .i64 0), (.it .i64 0), (.it .i64 0), .ns] [(0, 1, (.k (.it .i64 0))), (2, 1, (.t 79)), (3, 1, (.t 86))]⟩, ⟨some 13, none, [], .alc [(.it .i64 0), (.it .i64 0), (.it .i64 0), .ns]⟩, sO 4 13 87] [])
(.seq (.reg false [
mV 88 11, mV 89 12, ⟨some 90, none, [], .bin .no .add (.t 88) (.t 89)⟩, mV 11 90] [])
(.seq (.seq (.reg false [
mV 91 3, mV 92 91, ⟨some 93, some (92, true), [], .mov (.t 11)⟩, ⟨some 94, some (92, true), [], .mov (.t 2)⟩, ⟨some 95, some (92, true), [], .len true (.t 94)⟩, ⟨some 96, some (92, true), [], .bin .no .eql (.t 93) (.t 95)⟩, ⟨some 97, none, [], .pick (.t 92) (.t 96) (.k (.bo false))⟩] [])
(.cond (.t 97)
(.reg false [
fA 98 1 13, ⟨none, none, [], .sto 1 (.t 98) (.k (.it .i64 1))⟩] [98])
.skip))
(.seq (.reg true [
mV 99 0, mV 100 0, nK 101 100, fA 102 12 101, lD 103 1 102, lQ 104 4 13, ⟨some 105, none, [], .call true .pure 20 [(.t 103), (.t 104)]⟩, nK 106 99, fA 107 12 106, sO 1 107 105] [])
(.seq (.reg false [
mV 109 0, mV 110 0, nK 111 110, fA 112 13 111, lQ 113 1 112, mV 114 12, ⟨some 115, none, [], .call true .pure 48 [(.t 113), (.t 114)]⟩, mV 108 115, eX 116 108 0, eX 117 108 1, nK 118 109, fA 119 13 118, sO 1 119 116] [])
(.reg false [
mV 121 10, mV 122 10, nK 123 122, fA 124 2 123, lQ 125 1 124, mV 126 12, ⟨some 127, none, [], .call true .pure 48 [(.t 125), (.t 126)]⟩, mV 120 127, eX 128 120 0, eX 129 120 1, nK 130 121, fA 131 2 130, sO 1 131 128] []))))))))))))
(.seq (.seq (.reg false [
mV 132 3, ⟨some 133, none, [], .un .not (.t 132)⟩] [])
(.cond (.t 133)
(.seq (.reg false [
mV 134 11, mV 8 134, mK 9 (.bo true)] [])
.ret)
.skip))
(.seq (.seq (.reg false [
mV 135 2, ⟨some 136, none, [], .bin .no .eql (.t 135) (.k (.st []))⟩] [])
(.cond (.t 136)
(.reg false [
mV 137 0, mV 138 0, nK 139 138, fA 140 12 139, lD 141 1 140, mV 142 1, ⟨some 143, none, [], .bld [(.it .i64 0), (.it .i64 0), (.it .i64 0), .ns] [(0, 1, (.k (.it .i64 0))), (1, 1, (.k (.it .i64 1))), (2, 1, (.t 142))]⟩, ⟨some 144, none, [], .call true .pure 20 [(.t 141), (.t 143)]⟩, nK 145 137, fA 146 12 145, sO 1 146 144] [])
.skip))
(.seq (.reg false [
mV 147 0, mV 148 10, cR 149 49 [(.t 147), (.t 148), (.k (.it .i64 13))]] [])
(.seq (.reg false [
mV 150 11, mV 8 150, mK 9 (.bo true)] [])
.ret)))))))))⟩
def c19 : Ev.Fn := d19.den
theorem r19 : OK 19 c19 := rd d19 { loc := [13], md := .rw, mds := mds, heap := [105, 115, 127, 144], own := [105, 115, 127, 144], ord := [], clr := [(12, [98])], mask := [(5, [0, 1, 2, 3, 10, 11], [13])], fns := [], lcl := [], hnd := [], pro := [] } Tryz.func19

def d20 : DFn := ⟨[(.c (.sl [.one])), (.g [.one, .one, .one, (.sl [.one])])], [(.c (.sl [.one]))], .pure, [.tmp 4],
(.seq (.reg false [
⟨some 3, none, [], .box (.t 1)⟩, mK 4 .ns] [])
(.seq (.seq (.reg false [
lQ 8 4 3, cP 9 50 [(.t 8)], ⟨some 10, none, [], .un .not (.t 9)⟩] [])
(.cond (.t 10)
(.seq (.reg false [
mV 11 0, ⟨some 12, none, [], .app 1 1 (.k .ns) (.t 11)⟩, mV 4 12] [])
.ret)
.skip))
(.seq (.reg true [
fA 13 3 3, lD 14 1 13, lN 15 false 14, fA 16 2 3, lD 17 1 16, mV 5 15, mV 6 17] [13, 16])
(.seq (.reg false [
mV 18 0, lN 19 false 18, ⟨some 20, none, [], .bin .no .add (.t 19) (.k (.it .i64 9))⟩, mV 21 5, ⟨some 22, none, [], .bin .no .add (.t 20) (.t 21)⟩, ⟨some 23, none, [], .mks 1 1 [(.it .u8 0)] (.k (.it .i64 0)) (.t 22)⟩, mV 7 23] [])
(.seq (.reg false [
mV 24 7, mV 25 0, ⟨some 26, none, [], .app 1 1 (.t 24) (.t 25)⟩, mV 7 26] [])
(.seq (.reg false [
mV 27 7, mV 28 5, ⟨some 29, none, [], .bin .no .shr (.t 28) (.k (.it .u64 16))⟩, cV 30 .u8 29, mV 31 5, ⟨some 32, none, [], .bin .no .shr (.t 31) (.k (.it .u64 8))⟩, cV 33 .u8 32, mV 34 5, cV 35 .u8 34, fA 36 0 3, lD 37 1 36, cV 38 .u8 37, fA 39 1 3, lD 40 1 39, cV 41 .u8 40, mV 42 6, ⟨some 43, none, [], .bin .no .shr (.t 42) (.k (.it .u64 24))⟩, cV 44 .u8 43, mV 45 6, ⟨some 46, none, [], .bin .no .shr (.t 45) (.k (.it .u64 16))⟩, cV 47 .u8 46, mV 48 6, ⟨some 49, none, [], .bin .no .shr (.t 48) (.k (.it .u64 8))⟩, cV 50 .u8 49, mV 51 6, cV 52 .u8 51, ⟨some 53, none, [], .bsv [.one] 1 (List.replicate 9 [(.it .u8 0)]) [(0, (.t 30)), (1, (.t 33)), (2, (.t 35)), (3, (.t 38)), (4, (.t 41)), (5, (.t 44)), (6, (.t 47)), (7, (.t 50)), (8, (.t 52))]⟩, ⟨some 54, none, [], .app 1 1 (.t 27) (.t 53)⟩, mV 7 54] [36, 39])
(.seq (.reg false [
mV 55 7, fA 56 3 3, lD 57 1 56, ⟨some 58, none, [], .app 1 1 (.t 55) (.t 57)⟩, mV 4 58] [56])
.ret)))))))⟩
def c20 : Ev.Fn := d20.den
theorem r20 : OK 20 c20 := rd d20 { loc := [3], md := .pure, mds := mds, heap := [26, 54], own := [26, 54], ord := [(0, [1, 0])], clr := [(3, [13, 16]), (6, [36, 39]), (7, [56])], mask := [], fns := [], lcl := [], hnd := [], pro := [] } Tryz.func20

def d21 : DFn := ⟨[(.c (.sl [.one, .one, (.sl [.one, .one]), .one, .one, .one])), (.c (.sl [.one, .one, (.sl [.one, .one]), .one, .one, .one]))], [(.c .one)], .pure, [.tmp 4],
(.seq (.reg false [
mK 4 (.bo false)] [])
(.seq (.seq (.reg false [
mV 8 0, lN 9 false 8, mV 10 1, lN 11 false 10, ⟨some 12, none, [], .bin .no .neq (.t 9) (.t 11)⟩] [])
(.cond (.t 12)
(.seq (.reg false [
mK 4 (.bo false)] [])
.ret)
.skip))
(.seq (.seq (.reg false [
mK 5 (.it .i64 0)] [])
(.blk 0 (.loop [0, 1, 5] [6, 7]
(.seq (.seq (.reg false [
mV 13 5, mV 14 0, lN 15 false 14, ⟨some 16, none, [], .bin .no .lss (.t 13) (.t 15)⟩] [])
(.cond (.t 16)
.skip
(.exit 0)))
(.seq (.blk 1 (.seq (.reg true [
mV 19 0, mV 20 5, ⟨some 21, none, [], .ias 6 (.t 19) (.t 20)⟩, lQ 22 6 21, mV 23 1, mV 24 5, ⟨some 25, none, [], .ias 6 (.t 23) (.t 24)⟩, lQ 26 6 25, ⟨some 6, none, [19, 21, 23, 25, 7], .alc [(.it .i64 0), (.it .i64 0), .ns, (.st []), (.bo false), (.it .i64 0)]⟩, ⟨some 7, none, [19, 21, 23, 25, 6], .alc [(.it .i64 0), (.it .i64 0), .ns, (.st []), (.bo false), (.it .i64 0)]⟩, ⟨none, none, [23, 25], .sto 6 (.t 6) (.t 22)⟩, sO 6 7 26] [])
(.seq (.reg false [
fA 27 0 6, lD 28 1 27, fA 29 0 7, lD 30 1 29, ⟨some 31, none, [], .bin .no .neq (.t 28) (.t 30)⟩, mV 32 31, ⟨some 33, some (32, false), [], .fad 1 (.t 6)⟩, ⟨some 34, some (32, false), [], .ld 1 false (.t 33)⟩, ⟨some 35, some (32, false), [], .fad 1 (.t 7)⟩, ⟨some 36, some (32, false), [], .ld 1 false (.t 35)⟩, ⟨some 37, some (32, false), [], .bin .no .neq (.t 34) (.t 36)⟩, ⟨some 38, none, [], .pick (.t 32) (.k (.bo true)) (.t 37)⟩, mV 39 38, ⟨some 40, some (39, false), [], .fad 2 (.t 6)⟩, ⟨some 41, some (39, false), [], .ld 1 false (.t 40)⟩, ⟨some 42, some (39, false), [], .fad 2 (.t 7)⟩, ⟨some 43, some (39, false), [], .ld 1 false (.t 42)⟩, ⟨some 44, some (39, false), [], .call false .pure 51 [(.t 41), (.t 43)]⟩, ⟨some 45, some (39, false), [], .un .not (.t 44)⟩, ⟨some 46, none, [], .pick (.t 39) (.k (.bo true)) (.t 45)⟩, mV 47 46, ⟨some 48, some (47, false), [], .fad 3 (.t 6)⟩, ⟨some 49, some (47, false), [], .ld 1 false (.t 48)⟩, ⟨some 50, some (47, false), [], .fad 3 (.t 7)⟩, ⟨some 51, some (47, false), [], .ld 1 false (.t 50)⟩, ⟨some 52, some (47, false), [], .bin .no .neq (.t 49) (.t 51)⟩, ⟨some 53, none, [], .pick (.t 47) (.k (.bo true)) (.t 52)⟩, mV 54 53, ⟨some 55, some (54, false), [], .fad 4 (.t 6)⟩, ⟨some 56, some (54, false), [], .ld 1 false (.t 55)⟩, ⟨some 57, some (54, false), [], .fad 4 (.t 7)⟩, ⟨some 58, some (54, false), [], .ld 1 false (.t 57)⟩, ⟨some 59, some (54, false), [], .bin .bo .neq (.t 56) (.t 58)⟩, ⟨some 60, none, [], .pick (.t 54) (.k (.bo true)) (.t 59)⟩, mV 61 60, ⟨some 62, some (61, false), [], .fad 5 (.t 6)⟩, ⟨some 63, some (61, false), [], .ld 1 false (.t 62)⟩, ⟨some 64, some (61, false), [], .fad 5 (.t 7)⟩, ⟨some 65, some (61, false), [], .ld 1 false (.t 64)⟩, ⟨some 66, some (61, false), [], .bin .no .neq (.t 63) (.t 65)⟩, ⟨some 67, none, [], .pick (.t 61) (.k (.bo true)) (.t 66)⟩] [27, 29, 33, 35, 40, 42, 48, 50, 55, 57, 62, 64])
(.cond (.t 67)
(.seq (.reg false [
mK 4 (.bo false)] [])
.ret)
.skip))))
(.reg false [
mV 17 5, ⟨some 18, none, [], .bin .no .add (.t 17) (.k (.it .i64 1))⟩, mV 5 18] []))))))
(.seq (.reg false [
mK 4 (.bo true)] [])
.ret))))⟩
def c21 : Ev.Fn := d21.den
theorem r21 : OK 21 c21 := rd d21 { loc := [6, 7], md := .pure, mds := mds, heap := [], own := [], ord := [], clr := [(7, [27, 29, 33, 35, 40, 42, 48, 50, 55, 57, 62, 64])], mask := [(4, [0, 1, 5], [6, 7])], fns := [], lcl := [], hnd := [], pro := [] } Tryz.func21

def d22 : DFn := ⟨[(.c .one)], [(.c .one)], .rw, [.tmp 2],
(.seq (.reg false [
mK 2 (.bo false)] [])
(.seq (.reg false [
mV 3 0, nK 4 3, fA 5 24 4, lD 6 1 5, mV 2 6] [])
.ret))⟩
def c22 : Ev.Fn := d22.den
theorem r22 : OK 22 c22 := rd d22 { loc := [], md := .rw, mds := mds, heap := [], own := [], ord := [], clr := [], mask := [], fns := [], lcl := [], hnd := [], pro := [] } Tryz.func22

def d23 : DFn := ⟨[(.g [.one, .one, .one])], [(.c .one)], .rw, [.tmp 2],
(.seq (.reg false [
⟨some 1, none, [], .box (.t 0)⟩, mK 2 .np] [])
(.seq (.reg false [
lQ 6 3 1, cR 7 10 [(.k (.bo true)), (.t 6)], mV 5 7, eX 8 5 0, eX 9 5 1, mV 3 8, mV 4 9] [])
(.seq (.seq (.reg false [
mV 10 3, ⟨some 11, none, [], .bin .ptr .eql (.t 10) (.k .np)⟩, mV 12 11, ⟨some 13, some (12, false), [], .mov (.t 4)⟩, ⟨some 14, some (12, false), [], .bin .no .neq (.t 13) (.k (.it .i64 0))⟩, ⟨some 15, none, [], .pick (.t 12) (.k (.bo true)) (.t 14)⟩] [])
(.cond (.t 15)
(.seq (.reg false [
mK 2 .np] [])
.ret)
.skip))
(.seq (.reg false [
mV 16 3, ⟨some 17, none, [], .bsl 1 (List.replicate 24 [(.it .u8 0)]) [(0, (.k (.it .u8 80))), (1, (.k (.it .u8 82))), (2, (.k (.it .u8 73))), (3, (.k (.it .u8 32))), (4, (.k (.it .u8 42))), (5, (.k (.it .u8 32))), (6, (.k (.it .u8 72))), (7, (.k (.it .u8 84))), (8, (.k (.it .u8 84))), (9, (.k (.it .u8 80))), (10, (.k (.it .u8 47))), (11, (.k (.it .u8 50))), (12, (.k (.it .u8 46))), (13, (.k (.it .u8 48))), (14, (.k (.it .u8 13))), (15, (.k (.it .u8 10))), (16, (.k (.it .u8 13))), (17, (.k (.it .u8 10))), (18, (.k (.it .u8 83))), (19, (.k (.it .u8 77))), (20, (.k (.it .u8 13))), (21, (.k (.it .u8 10))), (22, (.k (.it .u8 13))), (23, (.k (.it .u8 10)))]⟩, ⟨some 18, none, [], .mrk (.t 17)⟩, ⟨some 19, none, [], .bld [(.it .i64 0), (.it .i64 0), (.it .i64 0), .ns] [(0, 1, (.k (.it .i64 4)))]⟩, cP 20 24 [(.k .ns), (.t 19)], ⟨some 21, none, [], .app 1 1 (.t 18) (.t 20)⟩, cR 22 17 [(.t 16), (.t 21)]] [])
(.seq (.reg false [
mV 23 3, cR 24 13 [(.t 23), (.k (.it .i64 1048576))]] [])
(.seq (.reg false [
mV 25 3, mV 2 25] [])
.ret))))))⟩
def c23 : Ev.Fn := d23.den
theorem r23 : OK 23 c23 := rd d23 { loc := [1], md := .rw, mds := mds, heap := [17, 18], own := [17, 18], ord := [(0, [1, 0]), (4, [0, 3, 1, 2, 4, 5, 6])], clr := [], mask := [], fns := [], lcl := [], hnd := [], pro := [] } Tryz.func23

def d24 : DFn := ⟨[(.c (.sl [.one])), (.g [.one, .one, .one, (.sl [.one])])], [(.c (.sl [.one]))], .pure, [.tmp 4],
(.seq (.reg false [
⟨some 3, none, [], .box (.t 1)⟩, mK 4 .ns] [])
(.seq (.reg false [
⟨some 7, none, [], .bsl 1 [] []⟩, mV 8 0, ⟨some 9, none, [], .app 1 1 (.t 7) (.t 8)⟩, mV 5 9] [])
(.seq (.seq (.reg false [
lQ 10 4 3, cP 11 52 [(.t 10)], ⟨some 12, none, [], .un .not (.t 11)⟩] [])
(.cond (.t 12)
(.seq (.reg false [
mV 13 5, mV 4 13] [])
.ret)
.skip))
(.seq (.reg false [
fA 14 3 3, lD 15 1 14, lN 16 false 15, mV 6 16] [14])
(.seq (.reg false [
mV 17 5, mV 18 6, ⟨some 19, none, [], .bin .no .shr (.t 18) (.k (.it .u64 16))⟩, cV 20 .u8 19, mV 21 6, ⟨some 22, none, [], .bin .no .shr (.t 21) (.k (.it .u64 8))⟩, cV 23 .u8 22, mV 24 6, cV 25 .u8 24, fA 26 0 3, lD 27 1 26, cV 28 .u8 27, fA 29 1 3, lD 30 1 29, cV 31 .u8 30, fA 32 2 3, lD 33 1 32, ⟨some 34, none, [], .bin .no .shr (.t 33) (.k (.it .u64 24))⟩, cV 35 .u8 34, fA 36 2 3, lD 37 1 36, ⟨some 38, none, [], .bin .no .shr (.t 37) (.k (.it .u64 16))⟩, cV 39 .u8 38, fA 40 2 3, lD 41 1 40, ⟨some 42, none, [], .bin .no .shr (.t 41) (.k (.it .u64 8))⟩, cV 43 .u8 42, fA 44 2 3, lD 45 1 44, cV 46 .u8 45, ⟨some 47, none, [], .bsv [.one] 1 (List.replicate 9 [(.it .u8 0)]) [(0, (.t 20)), (1, (.t 23)), (2, (.t 25)), (3, (.t 28)), (4, (.t 31)), (5, (.t 35)), (6, (.t 39)), (7, (.t 43)), (8, (.t 46))]⟩, ⟨some 48, none, [], .app 1 1 (.t 17) (.t 47)⟩, mV 5 48] [26, 29, 32, 36, 40, 44])
(.seq (.reg false [
mV 49 5, fA 50 3 3, lD 51 1 50, ⟨some 52, none, [], .app 1 1 (.t 49) (.t 51)⟩, mV 4 52] [50])
.ret))))))⟩
def c24 : Ev.Fn := d24.den
theorem r24 : OK 24 c24 := rd d24 { loc := [3], md := .pure, mds := mds, heap := [7, 9, 48], own := [7, 9, 48], ord := [(0, [1, 0]), (1, [1, 0, 2, 3])], clr := [(4, [14]), (5, [26, 29, 32, 36, 40, 44]), (6, [50])], mask := [], fns := [], lcl := [], hnd := [], pro := [] } Tryz.func24

def d25 : DFn := ⟨[(.c .one), (.c .one), (.c .one)], [(.c .one)], .pure, [.tmp 6],
(.seq (.reg false [
mK 6 (.it .i64 0)] [])
(.seq (.reg false [
mV 7 0, mV 8 2, mV 9 1, ⟨some 10, none, [], .bin .no .sub (.t 8) (.t 9)⟩, ⟨some 11, none, [], .bin .no .add (.t 10) (.k (.it .i64 1))⟩, ⟨some 12, none, [], .bin .no .rem (.t 7) (.t 11)⟩, mV 0 12] [])
(.seq (.seq (.reg false [
mV 13 0, ⟨some 14, none, [], .bin .no .lss (.t 13) (.k (.it .i64 0))⟩] [])
(.cond (.t 14)
(.reg false [
mV 15 0, mV 16 2, ⟨some 17, none, [], .bin .no .add (.t 15) (.t 16)⟩, mV 18 1, ⟨some 19, none, [], .bin .no .sub (.t 17) (.t 18)⟩, ⟨some 20, none, [], .bin .no .add (.t 19) (.k (.it .i64 1))⟩, mV 0 20] [])
.skip))
(.seq (.reg false [
mV 21 1, mV 22 0, ⟨some 23, none, [], .bin .no .add (.t 21) (.t 22)⟩, mV 6 23] [])
.ret))))⟩
def c25 : Ev.Fn := d25.den
theorem r25 : OK 25 c25 := rd d25 { loc := [], md := .pure, mds := mds, heap := [], own := [], ord := [], clr := [], mask := [], fns := [], lcl := [], hnd := [], pro := [] } Tryz.func25

def d32 : DFn := ⟨[(.c .one), (.c .one), (.c .one)], [(.c .one)], .pure, [.tmp 6],
(.seq (.reg false [
mK 6 (.bo false)] [])
(.seq (.reg false [
mV 7 0, mV 8 1, ⟨some 9, none, [], .bin .no .geq (.t 7) (.t 8)⟩, mV 10 9, ⟨some 11, some (10, true), [], .mov (.t 0)⟩, ⟨some 12, some (10, true), [], .mov (.t 2)⟩, ⟨some 13, some (10, true), [], .bin .no .leq (.t 11) (.t 12)⟩, ⟨some 14, none, [], .pick (.t 10) (.t 13) (.k (.bo false))⟩, mV 6 14] [])
.ret))⟩
def c32 : Ev.Fn := d32.den
theorem r32 : OK 32 c32 := rd d32 { loc := [], md := .pure, mds := mds, heap := [], own := [], ord := [], clr := [], mask := [], fns := [], lcl := [], hnd := [], pro := [] } Tryz.func32

def d33 : DFn := ⟨[], [(.g [.one, .one, .one, .one, .one])], .pure, [.cell 0 5 true],
(.seq (.reg false [
⟨some 0, none, [], .alc [(.it .i64 0), (.it .i64 0), (.it .i64 0), (.it .i64 0), (.it .i64 0)]⟩] [])
(.seq (.reg false [
⟨some 1, none, [], .bld [(.it .i64 0), (.it .i64 0), (.it .i64 0), (.it .i64 0), (.it .i64 0)] [(0, 1, (.k (.it .i64 4096))), (1, 1, (.k (.it .i64 2147483647))), (2, 1, (.k (.it .i64 65535))), (3, 1, (.k (.it .i64 16384))), (4, 1, (.k (.it .i64 2147483647)))]⟩, sO 5 0 1] [])
.ret))⟩
def c33 : Ev.Fn := d33.den
theorem r33 : OK 33 c33 := rd d33 { loc := [0], md := .pure, mds := mds, heap := [], own := [], ord := [], clr := [], mask := [], fns := [], lcl := [], hnd := [], pro := [] } Tryz.func33

def d34 : DFn := ⟨[(.c .one), (.c .one)], [(.c .one), (.c .one)], .rw, [.tmp 4, .tmp 5],
(.seq (.reg false [
mK 4 .np, mK 5 (.it .i64 0)] [])
(.seq (.seq (.reg false [
mV 7 0, cP 8 56 [(.t 7)], ⟨some 9, none, [], .un .not (.t 8)⟩] [])
(.cond (.t 9)
(.seq (.reg false [
mK 4 .np, mK 5 (.it .i64 1)] [])
.ret)
.skip))
(.seq (.reg false [
mV 10 0, ⟨some 11, none, [], .bld [(.it .i64 0), (.st []), .ns, (.it .i64 0), (.it .i64 0), (.it .i64 0)] [(0, 1, (.t 10))]⟩, ⟨some 12, none, [], .bxh (.t 11)⟩, mV 6 12] [])
(.seq (.seq (.reg false [
mV 13 1] [])
(.cond (.t 13)
(.reg false [
mV 14 6, nK 15 14, fA 16 1 15, ⟨none, none, [], .sto 1 (.t 16) (.k (.st [80, 82, 73, 32, 42, 32, 72, 84, 84, 80, 47, 50, 46, 48, 13, 10, 13, 10, 83, 77, 13, 10, 13, 10]))⟩] [])
.skip))
(.seq (.reg false [
mV 17 6, mV 4 17, mK 5 (.it .i64 0)] [])
.ret)))))⟩
def c34 : Ev.Fn := d34.den
theorem r34 : OK 34 c34 := rd d34 { loc := [], md := .rw, mds := mds, heap := [], own := [], ord := [], clr := [], mask := [], fns := [], lcl := [], hnd := [], pro := [] } Tryz.func34

def d35 : DFn := ⟨[(.c .one), (.c .one)], [(.c .one), (.c .one)], .rw, [.tmp 4, .tmp 5],
(.seq (.reg false [
mK 4 .np, mK 5 (.it .i64 0)] [])
(.seq (.seq (.reg false [
mV 8 1, ⟨some 9, none, [], .bin .no .lss (.t 8) (.k (.it .i64 0))⟩, mV 10 9, ⟨some 11, some (10, false), [], .mov (.t 1)⟩, ⟨some 12, some (10, false), [], .bin .no .gtr (.t 11) (.k (.it .i64 2147483647))⟩, ⟨some 13, none, [], .pick (.t 10) (.k (.bo true)) (.t 12)⟩] [])
(.cond (.t 13)
(.seq (.reg false [
mK 4 .np, mK 5 (.it .i64 1)] [])
.ret)
.skip))
(.seq (.reg false [
mV 15 0, cR 16 57 [(.t 15)], mV 14 16, eX 17 14 0, eX 18 14 1, mV 6 17, mV 7 18] [])
(.seq (.seq (.reg false [
mV 19 7, ⟨some 20, none, [], .bin .no .neq (.t 19) (.k (.it .i64 0))⟩] [])
(.cond (.t 20)
(.seq (.reg false [
mV 21 7, mK 4 .np, mV 5 21] [])
.ret)
.skip))
(.seq (.reg false [
mV 22 6, mV 23 0, mV 24 1, ⟨some 25, none, [], .bld [.np, (.it .i64 0), (.it .i64 0), (.bo false)] [(0, 1, (.t 22)), (1, 1, (.t 23)), (2, 1, (.t 24))]⟩, ⟨some 26, none, [], .bxh (.t 25)⟩, mV 4 26, mK 5 (.it .i64 0)] [])
.ret)))))⟩
def c35 : Ev.Fn := d35.den
theorem r35 : OK 35 c35 := rd d35 { loc := [], md := .rw, mds := mds, heap := [], own := [], ord := [], clr := [], mask := [], fns := [], lcl := [], hnd := [], pro := [] } Tryz.func35

def d36 : DFn := ⟨[(.c .one)], [(.c .one), (.c .one)], .rw, [.tmp 2, .tmp 3],
(.seq (.reg false [
mK 2 .np, mK 3 (.it .i64 0)] [])
(.seq (.reg false [
mV 7 0, cR 8 57 [(.t 7)], mV 6 8, eX 9 6 0, eX 10 6 1, mV 4 9, mV 5 10] [])
(.seq (.seq (.reg false [
mV 11 5, ⟨some 12, none, [], .bin .no .neq (.t 11) (.k (.it .i64 0))⟩] [])
(.cond (.t 12)
(.seq (.reg false [
mV 13 5, mK 2 .np, mV 3 13] [])
.ret)
.skip))
(.seq (.reg false [
mV 14 4, ⟨some 15, none, [], .bld [.np, (.bo false), (.it .i64 0)] [(0, 1, (.t 14)), (1, 1, (.k (.bo true)))]⟩, ⟨some 16, none, [], .bxh (.t 15)⟩, mV 2 16, mK 3 (.it .i64 0)] [])
.ret))))⟩
def c36 : Ev.Fn := d36.den
theorem r36 : OK 36 c36 := rd d36 { loc := [], md := .rw, mds := mds, heap := [], own := [], ord := [], clr := [], mask := [], fns := [], lcl := [], hnd := [], pro := [] } Tryz.func36

def d37 : DFn := ⟨[(.c .one)], [(.g [.one]), (.c .one)], .pure, [.cell 2 1 true, .tmp 3],
(.seq (.reg false [
⟨some 2, none, [], .alc [(.it .i64 0)]⟩, mK 3 (.it .i64 0)] [])
(.seq (.seq (.reg false [
mV 4 0, cP 5 58 [(.t 4)], ⟨some 6, none, [], .un .not (.t 5)⟩] [])
(.cond (.t 6)
(.seq (.reg false [
⟨some 7, none, [], .bld [(.it .i64 0)] []⟩, sO 1 2 7, mK 3 (.it .i64 1)] [])
.ret)
.skip))
(.seq (.reg false [
mV 8 0, ⟨some 9, none, [], .bld [(.it .i64 0)] [(0, 1, (.t 8))]⟩, sO 1 2 9, mK 3 (.it .i64 0)] [])
.ret)))⟩
def c37 : Ev.Fn := d37.den
theorem r37 : OK 37 c37 := rd d37 { loc := [2], md := .pure, mds := mds, heap := [], own := [], ord := [(0, [1, 0])], clr := [], mask := [], fns := [], lcl := [], hnd := [], pro := [] } Tryz.func37

def d38 : DFn := ⟨[(.c (.sl [.one, .one]))], [(.c (.sl [.one]))], .pure, [.tmp 2],
(.seq (.reg false [
mK 2 .ns] [])
(.seq (.reg false [
mK 3 .ns] [])
(.seq (.seq (.reg false [
mV 7 0, lN 8 false 7, mK 9 (.it .i64 0)] [])
(.blk 0 (.loop [3, 7, 8, 9] [5]
(.seq (.reg false [
⟨some 10, none, [], .bin .no .lss (.t 9) (.t 8)⟩] [])
(.seq (.cond (.t 10)
.skip
(.exit 0))
(.seq (.blk 1 (.seq (.reg false [
⟨some 11, none, [], .ias 2 (.t 7) (.t 9)⟩, lQ 12 2 11, ⟨some 5, none, [], .alc [(.it .i64 0), (.it .i64 0)]⟩, sO 2 5 12] [])
(.seq (.reg false [
fA 13 1 5, lD 14 1 13, mV 6 14] [13])
(.reg false [
mV 15 3, fA 16 0 5, lD 17 1 16, ⟨some 18, none, [], .bin .no .shr (.t 17) (.k (.it .u64 8))⟩, cV 19 .u8 18, fA 20 0 5, lD 21 1 20, cV 22 .u8 21, mV 23 6, ⟨some 24, none, [], .bin .no .shr (.t 23) (.k (.it .u64 24))⟩, cV 25 .u8 24, mV 26 6, ⟨some 27, none, [], .bin .no .shr (.t 26) (.k (.it .u64 16))⟩, cV 28 .u8 27, mV 29 6, ⟨some 30, none, [], .bin .no .shr (.t 29) (.k (.it .u64 8))⟩, cV 31 .u8 30, mV 32 6, cV 33 .u8 32, ⟨some 34, none, [], .bsv [.one] 1 (List.replicate 6 [(.it .u8 0)]) [(0, (.t 19)), (1, (.t 22)), (2, (.t 25)), (3, (.t 28)), (4, (.t 31)), (5, (.t 33))]⟩, ⟨some 35, none, [], .app 1 1 (.t 15) (.t 34)⟩, mV 3 35] [16, 20]))))
(.reg false [
⟨some 36, none, [], .bin .no .add (.t 9) (.k (.it .i64 1))⟩, mV 9 36] [])))))))
(.seq (.reg false [
mV 37 3, mV 2 37] [])
.ret))))⟩
def c38 : Ev.Fn := d38.den
theorem r38 : OK 38 c38 := rd d38 { loc := [5], md := .pure, mds := mds, heap := [35], own := [35], ord := [], clr := [(5, [13]), (6, [16, 20])], mask := [(3, [3, 7, 8, 9], [5])], fns := [], lcl := [], hnd := [], pro := [] } Tryz.func38

def d39 : DFn := ⟨[(.c (.sl [.one, .one, .one]))], [(.c .one)], .pure, [.tmp 2],
(.seq (.reg false [
mK 2 (.bo false)] [])
(.seq (.reg false [
mK 3 (.it .i64 0)] [])
(.seq (.seq (.reg false [
mV 6 0, lN 7 false 6, mK 8 (.it .i64 0)] [])
(.blk 0 (.loop [3, 6, 7, 8] [5]
(.seq (.reg false [
⟨some 9, none, [], .bin .no .lss (.t 8) (.t 7)⟩] [])
(.seq (.cond (.t 9)
.skip
(.exit 0))
(.seq (.blk 1 (.seq (.reg false [
⟨some 10, none, [], .ias 3 (.t 6) (.t 8)⟩, lQ 11 3 10, ⟨some 5, none, [], .alc [(.st []), (.st []), (.it .i64 0)]⟩, sO 3 5 11] [])
(.seq (.reg false [
mV 12 3, fA 13 0 5, lQ 14 2 13, cP 15 59 [(.t 14)], ⟨some 16, none, [], .bin .no .add (.t 12) (.t 15)⟩, mV 3 16] [13])
(.seq (.reg false [
fA 17 0 5, fA 18 0 17, lD 19 1 18, lN 20 true 19, ⟨some 21, none, [], .bin .no .gtr (.t 20) (.k (.it .i64 65536))⟩, mV 22 21, ⟨some 23, some (22, false), [], .fad 0 (.t 5)⟩, ⟨some 24, some (22, false), [], .fad 1 (.t 23)⟩, ⟨some 25, some (22, false), [], .ld 1 false (.t 24)⟩, ⟨some 26, some (22, false), [], .len true (.t 25)⟩, ⟨some 27, some (22, false), [], .bin .no .gtr (.t 26) (.k (.it .i64 65536))⟩, ⟨some 28, none, [], .pick (.t 22) (.k (.bo true)) (.t 27)⟩, mV 29 28, ⟨some 30, some (29, false), [], .mov (.t 3)⟩, ⟨some 31, some (29, false), [], .bin .no .gtr (.t 30) (.k (.it .i64 65536))⟩, ⟨some 32, none, [], .pick (.t 29) (.k (.bo true)) (.t 31)⟩] [17, 18, 23, 24])
(.cond (.t 32)
(.seq (.reg false [
mK 2 (.bo false)] [])
.ret)
.skip)))))
(.reg false [
⟨some 33, none, [], .bin .no .add (.t 8) (.k (.it .i64 1))⟩, mV 8 33] [])))))))
(.seq (.reg false [
mK 2 (.bo true)] [])
.ret))))⟩
def c39 : Ev.Fn := d39.den
theorem r39 : OK 39 c39 := rd d39 { loc := [5], md := .pure, mds := mds, heap := [], own := [], ord := [], clr := [(5, [13]), (6, [17, 18, 23, 24])], mask := [(3, [3, 6, 7, 8], [5])], fns := [], lcl := [], hnd := [], pro := [] } Tryz.func39

def d40 : DFn := ⟨[(.c .one), (.c .one)], [(.c .one)], .rw, [.tmp 4],
(.seq (.reg false [
mK 4 .np] [])
(.seq (.reg false [
mV 6 1, ⟨some 7, none, [], .bld [(.it .i64 0), (.it .i64 0), (.it .i64 0), (.it .i64 0), (.bo false), (.bo false)] [(0, 1, (.t 6)), (1, 1, (.k (.it .i64 0)))]⟩, ⟨some 8, none, [], .bxh (.t 7)⟩, mV 5 8] [])
(.seq (.reg false [
mV 10 5, mV 11 0, nK 12 11, fA 13 4 12, fA 14 2 13, lD 15 1 14, ⟨some 16, none, [], .call true .pure 37 [(.t 15)]⟩, mV 9 16, eX 17 9 0, eX 18 9 1, nK 19 10, fA 20 2 19, sO 1 20 17] [])
(.seq (.reg false [
mV 22 5, mV 23 0, nK 24 23, fA 25 1 24, fA 26 1 25, lD 27 1 26, ⟨some 28, none, [], .call true .pure 37 [(.t 27)]⟩, mV 21 28, eX 29 21 0, eX 30 21 1, nK 31 22, fA 32 3 31, sO 1 32 29] [])
(.seq (.reg false [
mV 33 0, mV 34 0, nK 35 34, fA 36 15 35, lD 37 1 36, mV 38 5, ⟨some 39, none, [], .bsl 1 [[.np]] [(0, (.t 38))]⟩, ⟨some 40, none, [], .app 1 8 (.t 37) (.t 39)⟩, nK 41 33, fA 42 15 41, sO 1 42 40] [])
(.seq (.reg false [
mV 43 5, mV 4 43] [])
.ret))))))⟩
def c40 : Ev.Fn := d40.den
theorem r40 : OK 40 c40 := rd d40 { loc := [], md := .rw, mds := mds, heap := [16, 28, 40, 39], own := [16, 28, 40], ord := [], clr := [], mask := [], fns := [], lcl := [], hnd := [], pro := [] } Tryz.func40

def d41 : DFn := ⟨[(.c .one), (.c .one), (.c (.sl [.one, .one, .one])), (.c .one)], [], .rw, [],
(.seq (.reg false [
mV 11 0, nK 12 11, fA 13 11 12, lD 14 1 13, mV 15 2, cR 16 60 [(.t 14), (.t 15)], mV 8 16] [])
(.seq (.reg false [
mV 17 1, nK 18 17, fA 19 0 18, lD 20 1 19, ⟨some 21, none, [], .bld [(.it .i64 0), (.it .i64 0), (.it .i64 0), .ns] [(0, 1, (.k (.it .i64 1))), (2, 1, (.t 20))]⟩, ⟨some 9, none, [], .alc [(.it .i64 0), (.it .i64 0), (.it .i64 0), .ns]⟩, sO 4 9 21] [])
(.seq (.seq (.reg false [
mV 22 3] [])
(.cond (.t 22)
(.reg false [
fA 23 1 9, ⟨none, none, [], .sto 1 (.t 23) (.k (.it .i64 1))⟩] [23])
.skip))
(.seq (.blk 0 (.loop [0, 1, 3, 8, 9] []
(.blk 1 (.seq (.reg false [
mV 24 8, lN 25 false 24, mV 26 0, nK 27 26, fA 28 4 27, fA 29 3 28, lD 30 1 29, ⟨some 31, none, [], .mnx false (.t 25) (.t 30)⟩, mV 10 31] [])
(.seq (.reg true [
mV 32 8, mV 33 10, ⟨some 34, none, [], .slc false 1 (.t 32) none (some (.t 33))⟩, mV 35 8, mV 36 10, ⟨some 37, none, [], .slc false 1 (.t 35) (some (.t 36)) none⟩, fA 38 3 9, ⟨none, none, [35], .sto 1 (.t 38) (.t 34)⟩, mV 8 37] [38])
(.seq (.seq (.reg false [
mV 39 8, lN 40 false 39, ⟨some 41, none, [], .bin .no .eql (.t 40) (.k (.it .i64 0))⟩] [])
(.cond (.t 41)
(.reg false [
fA 42 1 9, lD 43 1 42, ⟨some 44, none, [], .bin .no .or (.t 43) (.k (.it .i64 4))⟩, fA 45 1 9, sO 1 45 44] [42, 45])
.skip))
(.seq (.reg true [
mV 46 0, mV 47 0, nK 48 47, fA 49 12 48, lD 50 1 49, lQ 51 4 9, ⟨some 52, none, [], .call true .pure 20 [(.t 50), (.t 51)]⟩, nK 53 46, fA 54 12 53, sO 1 54 52] [])
(.seq (.seq (.reg false [
mV 55 8, lN 56 false 55, ⟨some 57, none, [], .bin .no .eql (.t 56) (.k (.it .i64 0))⟩] [])
(.cond (.t 57)
(.exit 0)
.skip))
(.reg false [
mV 58 1, nK 59 58, fA 60 0 59, lD 61 1 60, ⟨some 62, none, [], .bld [(.it .i64 0), (.it .i64 0), (.it .i64 0), .ns] [(0, 1, (.k (.it .i64 9))), (2, 1, (.t 61))]⟩, sO 4 9 62] [])))))))))
(.seq (.reg false [
mV 63 1, nK 64 63, fA 65 5 64, ⟨none, none, [], .sto 1 (.t 65) (.k (.bo true))⟩] [])
(.reg false [
mV 66 0, mV 67 1, mV 68 3, cP 69 61 [(.t 68)], ⟨some 70, none, [], .bin .no .add (.k (.it .i64 10)) (.t 69)⟩, cR 71 49 [(.t 66), (.t 67), (.t 70)]] []))))))⟩
def c41 : Ev.Fn := d41.den
theorem r41 : OK 41 c41 := rd d41 { loc := [9], md := .rw, mds := mds, heap := [52], own := [52], ord := [], clr := [(3, [23]), (5, [38]), (7, [42, 45])], mask := [(4, [0, 1, 3, 8, 9], [])], fns := [], lcl := [], hnd := [], pro := [] } Tryz.func41

def d42 : DFn := ⟨[(.c .one), (.c (.sl [.one]))], [(.c (.sl [.one, .one, .one, (.sl [.one])])), (.g [.one, .one, .one])], .rw, [.tmp 4, .cell 5 3 true],
(.seq (.reg false [
mK 4 .ns, ⟨some 5, none, [], .alc [(.it .i64 0), (.it .i64 0), (.it .i64 0)]⟩] [])
(.seq (.seq (.reg false [
mV 9 0, nK 10 9, fA 11 3 10, lQ 12 3 11, ⟨some 13, none, [], .bld [(.it .i64 0), (.it .i64 0), (.it .i64 0)] []⟩, ⟨some 14, none, [], .bin (.ag [0, 0, 0]) .neq (.t 12) (.t 13)⟩] [])
(.cond (.t 14)
(.seq (.reg true [
mV 15 0, nK 16 15, fA 17 3 16, lQ 18 3 17, mK 4 .ns, sO 3 5 18] [])
.ret)
.skip))
(.seq (.reg false [
mV 19 0, mV 20 1, cR 21 62 [(.t 19), (.t 20)], mV 1 21] [])
(.seq (.reg false [
mV 22 0, mV 23 0, nK 24 23, fA 25 2 24, lD 26 1 25, ⟨some 27, none, [], .app 1 1 (.k .ns) (.t 26)⟩, mV 28 1, ⟨some 29, none, [], .app 1 1 (.t 27) (.t 28)⟩, nK 30 22, fA 31 2 30, sO 1 31 29] [])
(.seq (.reg false [
mK 6 .ns] [])
(.seq (.blk 0 (.loop [0, 5, 6] [7]
(.seq (.seq (.reg false [
mV 32 0, nK 33 32, fA 34 3 33, lQ 35 3 34, ⟨some 36, none, [], .bld [(.it .i64 0), (.it .i64 0), (.it .i64 0)] []⟩, ⟨some 37, none, [], .bin (.ag [0, 0, 0]) .eql (.t 35) (.t 36)⟩] [])
(.cond (.t 37)
.skip
(.exit 0)))
(.blk 1 (.seq (.reg false [
mV 39 0, cR 40 63 [(.t 39)], mV 38 40, eX 41 38 0, eX 42 38 1, ⟨some 7, none, [], .alc [(.it .i64 0), (.it .i64 0), (.it .i64 0), .ns]⟩, sO 4 7 41, mV 8 42] [])
(.seq (.seq (.reg false [
mV 43 8, ⟨some 44, none, [], .un .not (.t 43)⟩] [])
(.cond (.t 44)
(.exit 0)
.skip))
(.reg false [
mV 45 6, lQ 46 4 7, ⟨some 47, none, [], .bsl 4 [[(.it .i64 0), (.it .i64 0), (.it .i64 0), .ns]] [(0, (.t 46))]⟩, ⟨some 48, none, [], .app 4 48 (.t 45) (.t 47)⟩, mV 6 48] [])))))))
(.seq (.reg true [
mV 49 6, mV 50 0, nK 51 50, fA 52 3 51, lQ 53 3 52, mV 4 49, sO 3 5 53] [])
.ret)))))))⟩
def c42 : Ev.Fn := d42.den
theorem r42 : OK 42 c42 := rd d42 { loc := [5, 7], md := .rw, mds := mds, heap := [27, 29, 48, 47], own := [27, 29, 48], ord := [(4, [0, 1, 2, 3, 4, 6, 5, 7, 8, 9, 10]), (7, [0, 5, 1, 2, 3, 4, 6, 7])], clr := [], mask := [(6, [0, 5, 6], [7])], fns := [], lcl := [], hnd := [], pro := [] } Tryz.func42

def d43 : DFn := ⟨[(.c .one), (.g [.one, .one, .one, (.sl [.one])])], [], .rw, [],
(.seq (.reg false [
⟨some 3, none, [], .box (.t 1)⟩] [])
(.seq (.seq (.reg false [
mV 7 0, nK 8 7, fA 9 22 8, lD 10 1 9, ⟨some 11, none, [], .un .not (.t 10)⟩, mV 12 11, ⟨some 13, some (12, true), [], .fad 0 (.t 3)⟩, ⟨some 14, some (12, true), [], .ld 1 false (.t 13)⟩, ⟨some 15, some (12, true), [], .bin .no .neq (.t 14) (.k (.it .i64 4))⟩, ⟨some 16, some (12, true), [], .mov (.t 15)⟩, ⟨some 17, some (16, false), [], .fad 1 (.t 3)⟩, ⟨some 18, some (16, false), [], .ld 1 false (.t 17)⟩, ⟨some 19, some (16, false), [], .bin .no .and (.t 18) (.k (.it .i64 1))⟩, ⟨some 20, some (16, false), [], .bin .no .neq (.t 19) (.k (.it .i64 0))⟩, ⟨some 21, some (12, true), [], .pick (.t 16) (.k (.bo true)) (.t 20)⟩, ⟨some 22, none, [], .pick (.t 12) (.t 21) (.k (.bo false))⟩] [13, 17])
(.cond (.t 22)
(.seq (.reg false [
mV 23 0, cR 24 44 [(.t 23), (.k (.it .i64 1))]] [])
.ret)
.skip))
(.seq (.reg false [
mV 25 0, nK 26 25, fA 27 22 26, ⟨none, none, [], .sto 1 (.t 27) (.k (.bo true))⟩] [])
(.seq (.reg false [
mV 28 0, nK 29 28, fA 30 19 29, fA 31 0 30, lD 32 1 31, mV 4 32] [])
(.seq (.seq (.reg false [
mV 33 4, ⟨some 34, none, [], .bin .no .neq (.t 33) (.k (.it .i64 0))⟩, fA 35 0 3, lD 36 1 35, ⟨some 37, none, [], .bin .no .eql (.t 36) (.k (.it .i64 9))⟩, ⟨some 38, none, [], .bin .bo .neq (.t 34) (.t 37)⟩, mV 39 38, ⟨some 40, some (39, false), [], .mov (.t 4)⟩, ⟨some 41, some (39, false), [], .bin .no .neq (.t 40) (.k (.it .i64 0))⟩, ⟨some 42, some (39, false), [], .mov (.t 41)⟩, ⟨some 43, some (42, true), [], .fad 2 (.t 3)⟩, ⟨some 44, some (42, true), [], .ld 1 false (.t 43)⟩, ⟨some 45, some (42, true), [], .mov (.t 4)⟩, ⟨some 46, some (42, true), [], .bin .no .neq (.t 44) (.t 45)⟩, ⟨some 47, some (39, false), [], .pick (.t 42) (.t 46) (.k (.bo false))⟩, ⟨some 48, none, [], .pick (.t 39) (.k (.bo true)) (.t 47)⟩] [35, 43])
(.cond (.t 48)
(.seq (.reg false [
mV 49 0, cR 50 44 [(.t 49), (.k (.it .i64 1))]] [])
.ret)
.skip))
(.seq (.reg false [
lQ 52 4 3, cP 53 64 [(.t 52)], mV 51 53, eX 54 51 0, eX 55 51 1, ⟨some 5, none, [], .alc [(.it .i64 0), (.it .i64 0), (.bo false), (.bo false), (.bo false), .ns, (.it .i64 0), (.it .i64 0), (.it .i64 0), (.it .i64 0), .ns]⟩, ⟨some 6, none, [], .alc [(.it .i64 0), (.it .i64 0), (.it .i64 0)]⟩, sO 11 5 54, sO 3 6 55] [])
(.seq (.reg false [
fA 56 0 6, lD 57 1 56] [56])
(.blk 0 (.seq (.reg false [
⟨some 62, none, [], .bin .no .eql (.t 57) (.k (.it .i64 2))⟩, mV 61 62] [])
(.cond (.t 61)
(.reg false [
mV 63 0, fA 64 1 6, lD 65 1 64, cR 66 44 [(.t 63), (.t 65)]] [64])
(.seq (.reg false [
⟨some 68, none, [], .bin .no .eql (.t 57) (.k (.it .i64 1))⟩, mV 67 68] [])
(.cond (.t 67)
(.reg false [
mV 69 0, lQ 70 4 3, lQ 71 3 6, cR 72 65 [(.t 69), (.t 70), (.t 71)]] [])
(.reg false [
mV 58 0, lQ 59 11 5, cR 60 66 [(.t 58), (.t 59)]] [])))))))))))))⟩
def c43 : Ev.Fn := d43.den
theorem r43 : OK 43 c43 := rd d43 { loc := [3, 5, 6], md := .rw, mds := mds, heap := [], own := [], ord := [(7, [0, 5, 6, 1, 2, 3, 4, 7, 8])], clr := [(1, [13, 17]), (5, [35, 43]), (8, [56]), (11, [64])], mask := [], fns := [], lcl := [], hnd := [], pro := [] } Tryz.func43

def d44 : DFn := ⟨[(.c .one), (.c .one)], [], .rw, [],
(.seq (.reg false [
mK 4 (.it .i64 0)] [])
(.seq (.seq (.reg false [
mV 5 0, nK 6 5, fA 7 0 6, lD 8 1 7] [])
(.cond (.t 8)
(.reg false [
mV 9 0, nK 10 9, fA 11 16 10, lD 12 1 11, mV 4 12] [])
.skip))
(.seq (.reg true [
mV 13 0, mV 14 0, nK 15 14, fA 16 12 15, lD 17 1 16, mV 18 4, mV 20 1, ⟨some 19, none, [], .call true .pure 67 [(.t 18)]⟩, cP 21 67 [(.t 20)], ⟨some 22, none, [16], .app 1 1 (.t 19) (.t 21)⟩, ⟨some 23, none, [], .bld [(.it .i64 0), (.it .i64 0), (.it .i64 0), .ns] [(0, 1, (.k (.it .i64 7))), (3, 1, (.t 22))]⟩, ⟨some 24, none, [], .call true .pure 20 [(.t 17), (.t 23)]⟩, nK 25 13, fA 26 12 25, sO 1 26 24] [])
(.seq (.reg false [
mV 27 0, mV 28 0, nK 29 27, fA 30 15 29, ⟨none, none, [], .sto 1 (.t 30) (.k .ns)⟩, nK 31 28, fA 32 24 31, ⟨none, none, [], .sto 1 (.t 32) (.k (.bo true))⟩] [])
(.reg false [
mV 33 0, mV 34 1, ⟨some 35, none, [], .bld [(.it .i64 0), (.it .i64 0), .ns, (.st []), (.bo false), (.it .i64 0)] [(0, 1, (.k (.it .i64 6))), (5, 1, (.t 34))]⟩, cR 36 68 [(.t 33), (.t 35)]] [])))))⟩
def c44 : Ev.Fn := d44.den
theorem r44 : OK 44 c44 := rd d44 { loc := [], md := .rw, mds := mds, heap := [19, 24], own := [19, 24], ord := [(3, [0, 1, 2, 3, 4, 5, 7, 6, 8, 9, 10, 11, 12, 13, 14])], clr := [], mask := [], fns := [], lcl := [], hnd := [], pro := [] } Tryz.func44

def d45 : DFn := ⟨[(.c .one), (.c .one)], [(.c .one)], .rw, [.tmp 4],
(.seq (.reg false [
mK 4 .np] [])
(.seq (.seq (.reg false [
mV 7 0, nK 8 7, fA 9 15 8, lD 10 1 9, lN 11 false 10, mK 12 (.it .i64 0)] [])
(.blk 0 (.loop [1, 10, 11, 12] []
(.seq (.reg false [
⟨some 13, none, [], .bin .no .lss (.t 12) (.t 11)⟩] [])
(.seq (.cond (.t 13)
.skip
(.exit 0))
(.seq (.blk 1 (.seq (.reg false [
⟨some 14, none, [], .ias 1 (.t 10) (.t 12)⟩, lD 15 1 14, mV 6 15] [])
(.seq (.reg false [
mV 16 6, nK 17 16, fA 18 0 17, lD 19 1 18, mV 20 1, ⟨some 21, none, [], .bin .no .eql (.t 19) (.t 20)⟩] [])
(.cond (.t 21)
(.seq (.reg false [
mV 22 6, mV 4 22] [])
.ret)
.skip))))
(.reg false [
⟨some 23, none, [], .bin .no .add (.t 12) (.k (.it .i64 1))⟩, mV 12 23] [])))))))
(.seq (.reg false [
mK 4 .np] [])
.ret)))⟩
def c45 : Ev.Fn := d45.den
theorem r45 : OK 45 c45 := rd d45 { loc := [], md := .rw, mds := mds, heap := [], own := [], ord := [], clr := [], mask := [(2, [1, 10, 11, 12], [])], fns := [], lcl := [], hnd := [], pro := [] } Tryz.func45

def d46 : DFn := ⟨[(.c .one)], [(.c .one)], .rw, [.tmp 2],
(.seq (.reg false [
mK 2 (.bo false)] [])
(.seq (.reg false [
mV 3 0, nK 4 3, fA 5 1 4, lD 6 1 5, ⟨some 7, none, [], .bin .no .eql (.t 6) (.k (.it .i64 1))⟩, mV 8 7, ⟨some 9, some (8, false), [], .mov (.t 0)⟩, ⟨some 10, some (8, false), [], .nck (.t 9)⟩, ⟨some 11, some (8, false), [], .fad 1 (.t 10)⟩, ⟨some 12, some (8, false), [], .ld 1 false (.t 11)⟩, ⟨some 13, some (8, false), [], .bin .no .eql (.t 12) (.k (.it .i64 3))⟩, ⟨some 14, none, [], .pick (.t 8) (.k (.bo true)) (.t 13)⟩, mV 2 14] [])
.ret))⟩
def c46 : Ev.Fn := d46.den
theorem r46 : OK 46 c46 := rd d46 { loc := [], md := .rw, mds := mds, heap := [], own := [], ord := [], clr := [], mask := [], fns := [], lcl := [], hnd := [], pro := [] } Tryz.func46

def d47 : DFn := ⟨[(.c .one), (.c (.sl [.one]))], [(.c .one)], .pure, [.tmp 4],
(.seq (.reg false [
mK 4 (.it .i64 0)] [])
(.seq (.seq (.reg false [
mV 7 1, lN 8 false 7, mK 9 (.it .i64 0)] [])
(.blk 0 (.loop [0, 7, 8, 9] [6]
(.seq (.reg false [
⟨some 10, none, [], .bin .no .lss (.t 9) (.t 8)⟩] [])
(.seq (.cond (.t 10)
.skip
(.exit 0))
(.seq (.blk 1 (.seq (.reg false [
⟨some 11, none, [], .ias 1 (.t 7) (.t 9)⟩, lQ 12 1 11, ⟨some 6, none, [], .alc [(.it .i64 0)]⟩, sO 1 6 12] [])
(.reg false [
mV 13 0, fA 14 0 6, lD 15 1 14, ⟨some 16, none, [], .mnx false (.t 13) (.t 15)⟩, mV 0 16] [14])))
(.reg false [
⟨some 17, none, [], .bin .no .add (.t 9) (.k (.it .i64 1))⟩, mV 9 17] [])))))))
(.seq (.reg false [
mV 18 0, ⟨some 19, none, [], .mnx true (.t 18) (.k (.it .i64 0))⟩, mV 4 19] [])
.ret)))⟩
def c47 : Ev.Fn := d47.den
theorem r47 : OK 47 c47 := rd d47 { loc := [6], md := .pure, mds := mds, heap := [], own := [], ord := [], clr := [(4, [14])], mask := [(2, [0, 7, 8, 9], [6])], fns := [], lcl := [], hnd := [], pro := [] } Tryz.func47

def d48 : DFn := ⟨[(.g [.one]), (.c .one)], [(.g [.one]), (.c .one)], .pure, [.cell 4 1 true, .tmp 5],
(.seq (.reg false [
⟨some 2, none, [], .box (.t 0)⟩, ⟨some 4, none, [], .alc [(.it .i64 0)]⟩, mK 5 (.bo false)] [])
(.seq (.seq (.reg false [
mV 6 1, ⟨some 7, none, [], .bin .no .lss (.t 6) (.k (.it .i64 0))⟩, mV 8 7, ⟨some 9, some (8, false), [], .mov (.t 1)⟩, ⟨some 10, some (8, false), [], .fad 0 (.t 2)⟩, ⟨some 11, some (8, false), [], .ld 1 false (.t 10)⟩, ⟨some 12, some (8, false), [], .bin .no .gtr (.t 9) (.t 11)⟩, ⟨some 13, none, [], .pick (.t 8) (.k (.bo true)) (.t 12)⟩] [10])
(.cond (.t 13)
(.seq (.reg false [
lQ 14 1 2, sO 1 4 14, mK 5 (.bo false)] [])
.ret)
.skip))
(.seq (.reg false [
fA 15 0 2, lD 16 1 15, mV 17 1, ⟨some 18, none, [], .bin .no .sub (.t 16) (.t 17)⟩, ⟨some 19, none, [], .bld [(.it .i64 0)] [(0, 1, (.t 18))]⟩, sO 1 4 19, mK 5 (.bo true)] [15])
.ret)))⟩
def c48 : Ev.Fn := d48.den
theorem r48 : OK 48 c48 := rd d48 { loc := [2, 4], md := .pure, mds := mds, heap := [], own := [], ord := [(0, [2, 0, 1])], clr := [(1, [10]), (3, [15])], mask := [], fns := [], lcl := [], hnd := [], pro := [] } Tryz.func48

def d49 : DFn := ⟨[(.c .one), (.c .one), (.c .one)], [], .rw, [],
(.seq (.reg false [
mV 7 1, mV 8 1, nK 9 8, fA 10 1 9, lD 11 1 10, mV 12 2, ⟨some 13, none, [], .call true .pure 69 [(.t 11), (.t 12)]⟩, mV 6 13, eX 14 6 0, eX 15 6 1, nK 16 7, fA 17 1 16, sO 1 17 14] [])
(.seq (.reg false [
mV 18 1, nK 19 18, fA 20 1 19, lD 21 1 20, ⟨some 22, none, [], .bin .no .eql (.t 21) (.k (.it .i64 4))⟩] [])
(.cond (.t 22)
(.reg false [
mV 23 0, mV 24 1, nK 25 24, fA 26 0 25, lD 27 1 26, cR 28 70 [(.t 23), (.t 27)]] [])
.skip)))⟩
def c49 : Ev.Fn := d49.den
theorem r49 : OK 49 c49 := rd d49 { loc := [], md := .rw, mds := mds, heap := [13], own := [13], ord := [], clr := [], mask := [], fns := [], lcl := [], hnd := [], pro := [] } Tryz.func49

def d50 : DFn := ⟨[(.g [.one, .one, .one, (.sl [.one])])], [(.c .one)], .pure, [.tmp 2],
(.seq (.reg false [
⟨some 1, none, [], .box (.t 0)⟩, mK 2 (.bo false)] [])
(.seq (.reg false [
fA 3 0 1, lD 4 1 3, ⟨some 5, none, [], .bin .no .geq (.t 4) (.k (.it .i64 0))⟩, mV 6 5, ⟨some 7, some (6, true), [], .fad 0 (.t 1)⟩, ⟨some 8, some (6, true), [], .ld 1 false (.t 7)⟩, ⟨some 9, some (6, true), [], .bin .no .leq (.t 8) (.k (.it .i64 255))⟩, ⟨some 10, none, [], .pick (.t 6) (.t 9) (.k (.bo false))⟩, mV 11 10, ⟨some 12, some (11, true), [], .fad 1 (.t 1)⟩, ⟨some 13, some (11, true), [], .ld 1 false (.t 12)⟩, ⟨some 14, some (11, true), [], .bin .no .geq (.t 13) (.k (.it .i64 0))⟩, ⟨some 15, none, [], .pick (.t 11) (.t 14) (.k (.bo false))⟩, mV 16 15, ⟨some 17, some (16, true), [], .fad 1 (.t 1)⟩, ⟨some 18, some (16, true), [], .ld 1 false (.t 17)⟩, ⟨some 19, some (16, true), [], .bin .no .leq (.t 18) (.k (.it .i64 255))⟩, ⟨some 20, none, [], .pick (.t 16) (.t 19) (.k (.bo false))⟩, mV 21 20, ⟨some 22, some (21, true), [], .fad 2 (.t 1)⟩, ⟨some 23, some (21, true), [], .ld 1 false (.t 22)⟩, ⟨some 24, some (21, true), [], .bin .no .geq (.t 23) (.k (.it .i64 0))⟩, ⟨some 25, none, [], .pick (.t 21) (.t 24) (.k (.bo false))⟩, mV 26 25, ⟨some 27, some (26, true), [], .fad 2 (.t 1)⟩, ⟨some 28, some (26, true), [], .ld 1 false (.t 27)⟩, ⟨some 29, some (26, true), [], .bin .no .leq (.t 28) (.k (.it .i64 2147483647))⟩, ⟨some 30, none, [], .pick (.t 26) (.t 29) (.k (.bo false))⟩, mV 31 30, ⟨some 32, some (31, true), [], .fad 3 (.t 1)⟩, ⟨some 33, some (31, true), [], .ld 1 false (.t 32)⟩, ⟨some 34, some (31, true), [], .len false (.t 33)⟩, ⟨some 35, some (31, true), [], .bin .no .leq (.t 34) (.k (.it .i64 16777215))⟩, ⟨some 36, none, [], .pick (.t 31) (.t 35) (.k (.bo false))⟩, mV 2 36] [3, 7, 12, 17, 22, 27, 32])
.ret))⟩
def c50 : Ev.Fn := d50.den
theorem r50 : OK 50 c50 := rd d50 { loc := [1], md := .pure, mds := mds, heap := [], own := [], ord := [(0, [1, 0])], clr := [(1, [3, 7, 12, 17, 22, 27, 32])], mask := [], fns := [], lcl := [], hnd := [], pro := [] } Tryz.func50

def d51 : DFn := ⟨[(.c (.sl [.one, .one])), (.c (.sl [.one, .one]))], [(.c .one)], .pure, [.tmp 4],
(.seq (.reg false [
mK 4 (.bo false)] [])
(.seq (.seq (.reg false [
mV 6 0, lN 7 false 6, mV 8 1, lN 9 false 8, ⟨some 10, none, [], .bin .no .neq (.t 7) (.t 9)⟩] [])
(.cond (.t 10)
(.seq (.reg false [
mK 4 (.bo false)] [])
.ret)
.skip))
(.seq (.seq (.reg false [
mK 5 (.it .i64 0)] [])
(.blk 0 (.loop [0, 1, 5] []
(.seq (.seq (.reg false [
mV 11 5, mV 12 0, lN 13 false 12, ⟨some 14, none, [], .bin .no .lss (.t 11) (.t 13)⟩] [])
(.cond (.t 14)
.skip
(.exit 0)))
(.seq (.blk 1 (.seq (.reg true [
mV 17 0, mV 18 5, ⟨some 19, none, [], .ias 2 (.t 17) (.t 18)⟩, lQ 20 2 19, mV 21 1, mV 22 5, ⟨some 23, none, [], .ias 2 (.t 21) (.t 22)⟩, lQ 24 2 23, ⟨some 25, none, [], .bin (.ag [1, 1]) .neq (.t 20) (.t 24)⟩] [])
(.cond (.t 25)
(.seq (.reg false [
mK 4 (.bo false)] [])
.ret)
.skip)))
(.reg false [
mV 15 5, ⟨some 16, none, [], .bin .no .add (.t 15) (.k (.it .i64 1))⟩, mV 5 16] []))))))
(.seq (.reg false [
mK 4 (.bo true)] [])
.ret))))⟩
def c51 : Ev.Fn := d51.den
theorem r51 : OK 51 c51 := rd d51 { loc := [], md := .pure, mds := mds, heap := [], own := [], ord := [], clr := [], mask := [(4, [0, 1, 5], [])], fns := [], lcl := [], hnd := [], pro := [] } Tryz.func51

def d52 : DFn := ⟨[(.g [.one, .one, .one, (.sl [.one])])], [(.c .one)], .pure, [.tmp 2],
(.seq (.reg false [
⟨some 1, none, [], .box (.t 0)⟩, mK 2 (.bo false)] [])
(.seq (.reg false [
fA 3 0 1, lD 4 1 3, ⟨some 5, none, [], .bin .no .geq (.t 4) (.k (.it .i64 0))⟩, mV 6 5, ⟨some 7, some (6, true), [], .fad 0 (.t 1)⟩, ⟨some 8, some (6, true), [], .ld 1 false (.t 7)⟩, ⟨some 9, some (6, true), [], .bin .no .lss (.t 8) (.k (.it .i64 256))⟩, ⟨some 10, none, [], .pick (.t 6) (.t 9) (.k (.bo false))⟩, mV 11 10, ⟨some 12, some (11, true), [], .fad 1 (.t 1)⟩, ⟨some 13, some (11, true), [], .ld 1 false (.t 12)⟩, ⟨some 14, some (11, true), [], .bin .no .geq (.t 13) (.k (.it .i64 0))⟩, ⟨some 15, none, [], .pick (.t 11) (.t 14) (.k (.bo false))⟩, mV 16 15, ⟨some 17, some (16, true), [], .fad 1 (.t 1)⟩, ⟨some 18, some (16, true), [], .ld 1 false (.t 17)⟩, ⟨some 19, some (16, true), [], .bin .no .lss (.t 18) (.k (.it .i64 256))⟩, ⟨some 20, none, [], .pick (.t 16) (.t 19) (.k (.bo false))⟩, mV 21 20, ⟨some 22, some (21, true), [], .fad 2 (.t 1)⟩, ⟨some 23, some (21, true), [], .ld 1 false (.t 22)⟩, ⟨some 24, some (21, true), [], .bin .no .geq (.t 23) (.k (.it .i64 0))⟩, ⟨some 25, none, [], .pick (.t 21) (.t 24) (.k (.bo false))⟩, mV 26 25, ⟨some 27, some (26, true), [], .fad 2 (.t 1)⟩, ⟨some 28, some (26, true), [], .ld 1 false (.t 27)⟩, ⟨some 29, some (26, true), [], .bin .no .leq (.t 28) (.k (.it .i64 2147483647))⟩, ⟨some 30, none, [], .pick (.t 26) (.t 29) (.k (.bo false))⟩, mV 31 30, ⟨some 32, some (31, true), [], .fad 3 (.t 1)⟩, ⟨some 33, some (31, true), [], .ld 1 false (.t 32)⟩, ⟨some 34, some (31, true), [], .len false (.t 33)⟩, ⟨some 35, some (31, true), [], .bin .no .leq (.t 34) (.k (.it .i64 16777215))⟩, ⟨some 36, none, [], .pick (.t 31) (.t 35) (.k (.bo false))⟩, mV 2 36] [3, 7, 12, 17, 22, 27, 32])
.ret))⟩
def c52 : Ev.Fn := d52.den
theorem r52 : OK 52 c52 := rd d52 { loc := [1], md := .pure, mds := mds, heap := [], own := [], ord := [(0, [1, 0])], clr := [(1, [3, 7, 12, 17, 22, 27, 32])], mask := [], fns := [], lcl := [], hnd := [], pro := [] } Tryz.func52

def d53 : DFn := ⟨[(.c .one), (.c .one), (.c .one)], [(.c .one)], .rw, [.tmp 6],
(.seq (.reg false [
mK 6 (.bo false)] [])
(.seq (.seq (.reg false [
mV 7 0, mV 8 1, mV 9 2, cP 10 67 [(.t 9)], ⟨some 11, none, [], .bld [(.it .i64 0), (.it .i64 0), (.it .i64 0), .ns] [(0, 1, (.k (.it .i64 3))), (2, 1, (.t 8)), (3, 1, (.t 10))]⟩, cR 12 71 [(.t 7), (.t 11)], ⟨some 13, none, [], .un .not (.t 12)⟩] [])
(.cond (.t 13)
(.seq (.reg false [
mK 6 (.bo false)] [])
.ret)
.skip))
(.seq (.reg false [
mV 14 0, mV 15 1, cR 16 72 [(.t 14), (.t 15)]] [])
(.seq (.reg false [
mK 6 (.bo true)] [])
.ret))))⟩
def c53 : Ev.Fn := d53.den
theorem r53 : OK 53 c53 := rd d53 { loc := [], md := .rw, mds := mds, heap := [], own := [], ord := [], clr := [], mask := [], fns := [], lcl := [], hnd := [], pro := [] } Tryz.func53

def d54 : DFn := ⟨[(.g [.one]), (.c .one)], [(.g [.one]), (.c .one)], .pure, [.cell 4 1 true, .tmp 5],
(.seq (.reg false [
⟨some 2, none, [], .box (.t 0)⟩, ⟨some 4, none, [], .alc [(.it .i64 0)]⟩, mK 5 (.bo false)] [])
(.seq (.seq (.reg false [
mV 6 1, cP 7 58 [(.t 6)], ⟨some 8, none, [], .un .not (.t 7)⟩, mV 9 8, ⟨some 10, some (9, false), [], .mov (.t 1)⟩, ⟨some 11, some (9, false), [], .fad 0 (.t 2)⟩, ⟨some 12, some (9, false), [], .ld 1 false (.t 11)⟩, ⟨some 13, some (9, false), [], .bin .no .sub (.k (.it .i64 2147483647)) (.t 12)⟩, ⟨some 14, some (9, false), [], .bin .no .gtr (.t 10) (.t 13)⟩, ⟨some 15, none, [], .pick (.t 9) (.k (.bo true)) (.t 14)⟩] [11])
(.cond (.t 15)
(.seq (.reg false [
lQ 16 1 2, sO 1 4 16, mK 5 (.bo false)] [])
.ret)
.skip))
(.seq (.reg false [
fA 17 0 2, lD 18 1 17, mV 19 1, ⟨some 20, none, [], .bin .no .add (.t 18) (.t 19)⟩, ⟨some 21, none, [], .bld [(.it .i64 0)] [(0, 1, (.t 20))]⟩, sO 1 4 21, mK 5 (.bo true)] [17])
.ret)))⟩
def c54 : Ev.Fn := d54.den
theorem r54 : OK 54 c54 := rd d54 { loc := [2, 4], md := .pure, mds := mds, heap := [], own := [], ord := [(0, [2, 0, 1])], clr := [(1, [11]), (3, [17])], mask := [], fns := [], lcl := [], hnd := [], pro := [] } Tryz.func54

def d55 : DFn := ⟨[(.c .one), (.c .one), (.c .one)], [(.c .one)], .rw, [.tmp 6],
(.seq (.reg false [
mK 6 (.bo false)] [])
(.seq (.seq (.reg false [
mV 8 2, ⟨some 9, none, [], .bin .no .eql (.t 8) (.k (.it .i64 0))⟩] [])
(.cond (.t 9)
(.seq (.reg false [
mK 6 (.bo true)] [])
.ret)
.skip))
(.seq (.seq (.reg false [
mV 10 0, mV 11 1, cR 12 45 [(.t 10), (.t 11)], mV 7 12] [])
(.seq (.reg false [
mV 13 7, ⟨some 14, none, [], .bin .ptr .neq (.t 13) (.k .np)⟩, mV 15 14, ⟨some 16, some (15, true), [], .mov (.t 7)⟩, ⟨some 17, some (15, true), [], .call false .rw 73 [(.t 16)]⟩, ⟨some 18, none, [], .pick (.t 15) (.t 17) (.k (.bo false))⟩] [])
(.cond (.t 18)
(.seq (.seq (.reg false [
mV 19 0, mV 20 1, mV 21 2, cP 22 67 [(.t 21)], ⟨some 23, none, [], .bld [(.it .i64 0), (.it .i64 0), (.it .i64 0), .ns] [(0, 1, (.k (.it .i64 8))), (2, 1, (.t 20)), (3, 1, (.t 22))]⟩, cR 24 71 [(.t 19), (.t 23)], ⟨some 25, none, [], .un .not (.t 24)⟩] [])
(.cond (.t 25)
(.seq (.reg false [
mK 6 (.bo false)] [])
.ret)
.skip))
(.reg false [
mV 27 7, mV 28 7, nK 29 28, fA 30 3 29, lQ 31 1 30, mV 32 2, ⟨some 33, none, [], .call true .pure 54 [(.t 31), (.t 32)]⟩, mV 26 33, eX 34 26 0, eX 35 26 1, nK 36 27, fA 37 3 36, sO 1 37 34] []))
.skip)))
(.seq (.seq (.reg false [
mV 38 0, mV 39 2, cP 40 67 [(.t 39)], ⟨some 41, none, [], .bld [(.it .i64 0), (.it .i64 0), (.it .i64 0), .ns] [(0, 1, (.k (.it .i64 8))), (3, 1, (.t 40))]⟩, cR 42 71 [(.t 38), (.t 41)], ⟨some 43, none, [], .un .not (.t 42)⟩] [])
(.cond (.t 43)
(.seq (.reg false [
mK 6 (.bo false)] [])
.ret)
.skip))
(.seq (.reg false [
mV 45 0, mV 46 0, nK 47 46, fA 48 14 47, lQ 49 1 48, mV 50 2, ⟨some 51, none, [], .call true .pure 54 [(.t 49), (.t 50)]⟩, mV 44 51, eX 52 44 0, eX 53 44 1, nK 54 45, fA 55 14 54, sO 1 55 52] [])
(.seq (.reg false [
mK 6 (.bo true)] [])
.ret))))))⟩
def c55 : Ev.Fn := d55.den
theorem r55 : OK 55 c55 := rd d55 { loc := [], md := .rw, mds := mds, heap := [33, 51], own := [33, 51], ord := [], clr := [], mask := [], fns := [], lcl := [], hnd := [], pro := [] } Tryz.func55

def d56 : DFn := ⟨[(.c .one)], [(.c .one)], .pure, [.tmp 2],
(.seq (.reg false [
mK 2 (.bo false)] [])
(.seq (.reg false [
mV 3 0, ⟨some 4, none, [], .bin .no .geq (.t 3) (.k (.it .i64 16384))⟩, mV 5 4, ⟨some 6, some (5, true), [], .mov (.t 0)⟩, ⟨some 7, some (5, true), [], .bin .no .leq (.t 6) (.k (.it .i64 16777215))⟩, ⟨some 8, none, [], .pick (.t 5) (.t 7) (.k (.bo false))⟩, mV 2 8] [])
.ret))⟩
def c56 : Ev.Fn := d56.den
theorem r56 : OK 56 c56 := rd d56 { loc := [], md := .pure, mds := mds, heap := [], own := [], ord := [], clr := [], mask := [], fns := [], lcl := [], hnd := [], pro := [] } Tryz.func56

def d57 : DFn := ⟨[(.c .one)], [(.c .one), (.c .one)], .rw, [.tmp 2, .tmp 3],
(.seq (.reg false [
mK 2 .np, mK 3 (.it .i64 0)] [])
(.seq (.seq (.reg false [
mV 4 0, cP 5 74 [(.t 4)], ⟨some 6, none, [], .un .not (.t 5)⟩] [])
(.cond (.t 6)
(.seq (.reg false [
mK 2 .np, mK 3 (.it .i64 1)] [])
.ret)
.skip))
(.seq (.reg false [
cP 7 75 [], mV 8 0, ⟨some 9, none, [], .bld [.ns, .ns, (.it .i64 0), (.it .i64 0)] [(1, 1, (.t 7)), (3, 1, (.t 8))]⟩, ⟨some 10, none, [], .bxh (.t 9)⟩, mV 2 10, mK 3 (.it .i64 0)] [])
.ret)))⟩
def c57 : Ev.Fn := d57.den
theorem r57 : OK 57 c57 := rd d57 { loc := [], md := .rw, mds := mds, heap := [], own := [], ord := [(3, [1, 0, 2, 3, 4, 5])], clr := [], mask := [], fns := [], lcl := [], hnd := [], pro := [] } Tryz.func57

def d58 : DFn := ⟨[(.c .one)], [(.c .one)], .pure, [.tmp 2],
(.seq (.reg false [
mK 2 (.bo false)] [])
(.seq (.reg false [
mV 3 0, ⟨some 4, none, [], .bin .no .geq (.t 3) (.k (.it .i64 0))⟩, mV 5 4, ⟨some 6, some (5, true), [], .mov (.t 0)⟩, ⟨some 7, some (5, true), [], .bin .no .leq (.t 6) (.k (.it .i64 2147483647))⟩, ⟨some 8, none, [], .pick (.t 5) (.t 7) (.k (.bo false))⟩, mV 2 8] [])
.ret))⟩
def c58 : Ev.Fn := d58.den
theorem r58 : OK 58 c58 := rd d58 { loc := [], md := .pure, mds := mds, heap := [], own := [], ord := [], clr := [], mask := [], fns := [], lcl := [], hnd := [], pro := [] } Tryz.func58

def d59 : DFn := ⟨[(.g [.one, .one])], [(.c .one)], .pure, [.tmp 2],
(.seq (.reg false [
⟨some 1, none, [], .box (.t 0)⟩, mK 2 (.it .i64 0)] [])
(.seq (.reg false [
fA 3 0 1, lD 4 1 3, lN 5 true 4, fA 6 1 1, lD 7 1 6, lN 8 true 7, ⟨some 9, none, [], .bin .no .add (.t 5) (.t 8)⟩, ⟨some 10, none, [], .bin .no .add (.t 9) (.k (.it .i64 32))⟩, mV 2 10] [3, 6])
.ret))⟩
def c59 : Ev.Fn := d59.den
theorem r59 : OK 59 c59 := rd d59 { loc := [1], md := .pure, mds := mds, heap := [], own := [], ord := [(0, [1, 0])], clr := [(1, [3, 6])], mask := [], fns := [], lcl := [], hnd := [], pro := [] } Tryz.func59

def d60 : DFn := ⟨[(.c .one), (.c (.sl [.one, .one, .one]))], [(.c (.sl [.one]))], .rw, [.tmp 4],
(.seq (.reg false [
mK 4 .ns] [])
(.seq (.reg false [
mV 10 0, cR 11 76 [(.t 10)], mV 5 11] [])
(.seq (.seq (.reg false [
mV 12 1, lN 13 false 12, mK 14 (.it .i64 0)] [])
(.blk 0 (.loop [0, 5, 12, 13, 14] [7]
(.seq (.reg false [
⟨some 15, none, [], .bin .no .lss (.t 14) (.t 13)⟩] [])
(.seq (.cond (.t 15)
.skip
(.exit 0))
(.seq (.blk 1 (.seq (.reg false [
⟨some 16, none, [], .ias 3 (.t 12) (.t 14)⟩, lQ 17 3 16, ⟨some 7, none, [], .alc [(.st []), (.st []), (.it .i64 0)]⟩, sO 3 7 17] [])
(.seq (.reg true [
mV 19 0, nK 20 19, fA 21 0 20, lD 22 1 21, fA 23 0 7, lQ 24 2 23, cR 25 77 [(.t 22), (.t 24)], mV 18 25, eX 26 18 0, eX 27 18 1, mV 8 26, mV 9 27] [23])
(.blk 2 (.seq (.reg false [
mV 34 9, mV 35 34, ⟨some 36, some (35, true), [], .fad 2 (.t 7)⟩, ⟨some 37, some (35, true), [], .ld 1 false (.t 36)⟩, ⟨some 38, some (35, true), [], .bin .no .neq (.t 37) (.k (.it .i64 3))⟩, ⟨some 39, none, [], .pick (.t 35) (.t 38) (.k (.bo false))⟩, mV 33 39] [36])
(.cond (.t 33)
(.reg false [
mV 40 5, mV 41 8, cP 42 78 [(.t 40), (.k (.it .i64 7)), (.k (.it .u8 128)), (.t 41)], mV 5 42] [])
(.seq (.reg false [
fA 44 2 7, lD 45 1 44, ⟨some 46, none, [], .bin .no .eql (.t 45) (.k (.it .i64 1))⟩, mV 43 46] [44])
(.cond (.t 43)
(.seq (.reg false [
mV 47 5, mV 48 8, fA 49 0 7, lQ 50 2 49, cP 51 79 [(.t 47), (.t 48), (.k (.it .i64 6)), (.k (.it .u8 64)), (.t 50)], mV 5 51] [49])
(.reg true [
mV 52 0, nK 53 52, fA 54 0 53, lD 55 1 54, fA 56 0 7, lQ 57 2 56, cR 58 80 [(.t 55), (.t 57)]] [56]))
(.seq (.reg false [
fA 60 2 7, lD 61 1 60, ⟨some 62, none, [], .bin .no .eql (.t 61) (.k (.it .i64 3))⟩, mV 59 62] [60])
(.cond (.t 59)
(.reg false [
mV 63 5, mV 64 8, fA 65 0 7, lQ 66 2 65, cP 67 79 [(.t 63), (.t 64), (.k (.it .i64 4)), (.k (.it .u8 16)), (.t 66)], mV 5 67] [65])
(.reg false [
mV 28 5, mV 29 8, fA 30 0 7, lQ 31 2 30, cP 32 79 [(.t 28), (.t 29), (.k (.it .i64 4)), (.k (.it .u8 0)), (.t 31)], mV 5 32] [30])))))))))))
(.reg false [
⟨some 68, none, [], .bin .no .add (.t 14) (.k (.it .i64 1))⟩, mV 14 68] [])))))))
(.seq (.reg false [
mV 69 5, mV 4 69] [])
.ret))))⟩
def c60 : Ev.Fn := d60.den
theorem r60 : OK 60 c60 := rd d60 { loc := [7], md := .rw, mds := mds, heap := [], own := [], ord := [], clr := [(5, [23]), (7, [36]), (9, [44]), (10, [49]), (11, [56]), (12, [60]), (13, [65]), (6, [30])], mask := [(3, [0, 5, 12, 13, 14], [7])], fns := [], lcl := [], hnd := [], pro := [] } Tryz.func60

def d61 : DFn := ⟨[(.c .one)], [(.c .one)], .pure, [.tmp 2],
(.seq (.reg false [
mK 2 (.it .i64 0)] [])
(.seq (.seq (.reg false [
mV 3 0] [])
(.cond (.t 3)
(.seq (.reg false [
mK 2 (.it .i64 1)] [])
.ret)
.skip))
(.seq (.reg false [
mK 2 (.it .i64 2)] [])
.ret)))⟩
def c61 : Ev.Fn := d61.den
theorem r61 : OK 61 c61 := rd d61 { loc := [], md := .pure, mds := mds, heap := [], own := [], ord := [], clr := [], mask := [], fns := [], lcl := [], hnd := [], pro := [] } Tryz.func61

def d62 : DFn := ⟨[(.c .one), (.c (.sl [.one]))], [(.c (.sl [.one]))], .rw, [.tmp 4],
(.seq (.reg false [
mK 4 .ns] [])
(.seq (.blk 0 (.loop [0, 1] []
(.seq (.seq (.reg false [
mV 5 1, lN 6 false 5, ⟨some 7, none, [], .bin .no .gtr (.t 6) (.k (.it .i64 0))⟩, mV 8 7, ⟨some 9, some (8, true), [], .mov (.t 0)⟩, ⟨some 10, some (8, true), [], .nck (.t 9)⟩, ⟨some 11, some (8, true), [], .fad 1 (.t 10)⟩, ⟨some 12, some (8, true), [], .ld 1 false (.t 11)⟩, ⟨some 13, some (8, true), [], .bin .no .neq (.t 12) (.k (.st []))⟩, ⟨some 14, none, [], .pick (.t 8) (.t 13) (.k (.bo false))⟩] [])
(.cond (.t 14)
.skip
(.exit 0)))
(.blk 1 (.seq (.seq (.reg true [
mV 15 1, ⟨some 16, none, [], .ias 1 (.t 15) (.k (.it .i64 0))⟩, lD 17 1 16, mV 18 0, nK 19 18, fA 20 1 19, lD 21 1 20, ⟨some 22, none, [], .ixs (.t 21) (.k (.it .i64 0))⟩, ⟨some 23, none, [], .bin .no .neq (.t 17) (.t 22)⟩] [])
(.cond (.t 23)
(.seq (.reg false [
mV 24 0, cR 25 81 [(.t 24), (.k (.it .i64 1))]] [])
(.seq (.reg false [
mK 4 .ns] [])
.ret))
.skip))
(.reg true [
mV 26 0, mV 27 1, ⟨some 28, none, [], .slc false 1 (.t 27) (some (.k (.it .i64 1))) none⟩, mV 29 0, nK 30 29, fA 31 1 30, lD 32 1 31, ⟨some 33, none, [], .slc true 0 (.t 32) (some (.k (.it .i64 1))) none⟩, mV 1 28, nK 34 26, fA 35 1 34, sO 1 35 33] []))))))
(.seq (.reg false [
mV 36 1, mV 4 36] [])
.ret)))⟩
def c62 : Ev.Fn := d62.den
theorem r62 : OK 62 c62 := rd d62 { loc := [], md := .rw, mds := mds, heap := [], own := [], ord := [], clr := [], mask := [(1, [0, 1], [])], fns := [], lcl := [], hnd := [], pro := [] } Tryz.func62

def d63 : DFn := ⟨[(.c .one)], [(.g [.one, .one, .one, (.sl [.one])]), (.c .one)], .rw, [.cell 2 4 true, .tmp 3],
(.seq (.reg false [
⟨some 2, none, [], .alc [(.it .i64 0), (.it .i64 0), (.it .i64 0), .ns]⟩, mK 3 (.bo false)] [])
(.seq (.seq (.reg false [
mV 7 0, nK 8 7, fA 9 2 8, lD 10 1 9, lN 11 false 10, ⟨some 12, none, [], .bin .no .lss (.t 11) (.k (.it .i64 9))⟩] [])
(.cond (.t 12)
(.seq (.reg false [
⟨some 13, none, [], .bld [(.it .i64 0), (.it .i64 0), (.it .i64 0), .ns] []⟩, sO 4 2 13, mK 3 (.bo false)] [])
.ret)
.skip))
(.seq (.reg false [
mV 14 0, nK 15 14, fA 16 2 15, lD 17 1 16, ⟨some 18, none, [], .slc false 1 (.t 17) none (some (.k (.it .i64 9)))⟩, mV 4 18] [])
(.seq (.reg true [
mV 19 4, ⟨some 20, none, [], .ias 1 (.t 19) (.k (.it .i64 0))⟩, lD 21 1 20, cV 22 .i64 21, ⟨some 23, none, [], .bin .no .shl (.t 22) (.k (.it .u64 16))⟩, mV 24 4, ⟨some 25, none, [], .ias 1 (.t 24) (.k (.it .i64 1))⟩, lD 26 1 25, cV 27 .i64 26, ⟨some 28, none, [], .bin .no .shl (.t 27) (.k (.it .u64 8))⟩, ⟨some 29, none, [], .bin .no .or (.t 23) (.t 28)⟩, mV 30 4, ⟨some 31, none, [], .ias 1 (.t 30) (.k (.it .i64 2))⟩, lD 32 1 31, cV 33 .i64 32, ⟨some 34, none, [], .bin .no .or (.t 29) (.t 33)⟩, mV 5 34] [])
(.seq (.seq (.reg false [
mV 35 5, mV 36 0, nK 37 36, fA 38 0 37, lD 39 1 38, ⟨some 40, none, [], .bin .no .gtr (.t 35) (.t 39)⟩] [])
(.cond (.t 40)
(.seq (.reg false [
mV 41 0, cR 42 81 [(.t 41), (.k (.it .i64 6))]] [])
(.seq (.reg false [
⟨some 43, none, [], .bld [(.it .i64 0), (.it .i64 0), (.it .i64 0), .ns] []⟩, sO 4 2 43, mK 3 (.bo false)] [])
.ret))
.skip))
(.seq (.seq (.reg false [
mV 44 0, nK 45 44, fA 46 2 45, lD 47 1 46, lN 48 false 47, mV 49 5, ⟨some 50, none, [], .bin .no .add (.k (.it .i64 9)) (.t 49)⟩, ⟨some 51, none, [], .bin .no .lss (.t 48) (.t 50)⟩] [])
(.cond (.t 51)
(.seq (.reg false [
⟨some 52, none, [], .bld [(.it .i64 0), (.it .i64 0), (.it .i64 0), .ns] []⟩, sO 4 2 52, mK 3 (.bo false)] [])
.ret)
.skip))
(.seq (.reg true [
mV 53 4, ⟨some 54, none, [], .ias 1 (.t 53) (.k (.it .i64 3))⟩, lD 55 1 54, cV 56 .i64 55, mV 57 4, ⟨some 58, none, [], .ias 1 (.t 57) (.k (.it .i64 4))⟩, lD 59 1 58, cV 60 .i64 59, mV 61 4, ⟨some 62, none, [], .ias 1 (.t 61) (.k (.it .i64 5))⟩, lD 63 1 62, ⟨some 64, none, [], .bin .no .and (.t 63) (.k (.it .u8 127))⟩, cV 65 .i64 64, ⟨some 66, none, [], .bin .no .shl (.t 65) (.k (.it .u64 24))⟩, mV 67 4, ⟨some 68, none, [], .ias 1 (.t 67) (.k (.it .i64 6))⟩, lD 69 1 68, cV 70 .i64 69, ⟨some 71, none, [], .bin .no .shl (.t 70) (.k (.it .u64 16))⟩, ⟨some 72, none, [], .bin .no .or (.t 66) (.t 71)⟩, mV 73 4, ⟨some 74, none, [], .ias 1 (.t 73) (.k (.it .i64 7))⟩, lD 75 1 74, cV 76 .i64 75, ⟨some 77, none, [], .bin .no .shl (.t 76) (.k (.it .u64 8))⟩, ⟨some 78, none, [], .bin .no .or (.t 72) (.t 77)⟩, mV 79 4, ⟨some 80, none, [], .ias 1 (.t 79) (.k (.it .i64 8))⟩, lD 81 1 80, cV 82 .i64 81, ⟨some 83, none, [], .bin .no .or (.t 78) (.t 82)⟩, ⟨some 84, none, [], .bld [(.it .i64 0), (.it .i64 0), (.it .i64 0), .ns] [(0, 1, (.t 56)), (1, 1, (.t 60)), (2, 1, (.t 83))]⟩, ⟨some 6, none, [53, 54, 55, 57, 58, 59, 61, 62, 64, 67, 68, 69, 73, 74, 75, 79, 80, 81], .alc [(.it .i64 0), (.it .i64 0), (.it .i64 0), .ns]⟩, sO 4 6 84] [])
(.seq (.reg false [
mV 85 0, nK 86 85, fA 87 2 86, lD 88 1 87, mV 89 5, ⟨some 90, none, [], .bin .no .add (.k (.it .i64 9)) (.t 89)⟩, ⟨some 91, none, [], .slc false 1 (.t 88) (some (.k (.it .i64 9))) (some (.t 90))⟩, ⟨some 92, none, [], .app 1 1 (.k .ns) (.t 91)⟩, fA 93 3 6, sO 1 93 92] [93])
(.seq (.reg false [
mV 94 0, mV 95 0, nK 96 95, fA 97 2 96, lD 98 1 97, mV 99 5, ⟨some 100, none, [], .bin .no .add (.k (.it .i64 9)) (.t 99)⟩, ⟨some 101, none, [], .slc false 1 (.t 98) (some (.t 100)) none⟩, nK 102 94, fA 103 2 102, sO 1 103 101] [])
(.seq (.reg false [
lQ 104 4 6, sO 4 2 104, mK 3 (.bo true)] [])
.ret))))))))))⟩
def c63 : Ev.Fn := d63.den
theorem r63 : OK 63 c63 := rd d63 { loc := [2, 6], md := .rw, mds := mds, heap := [], own := [], ord := [(0, [1, 0])], clr := [(11, [93])], mask := [], fns := [], lcl := [], hnd := [], pro := [] } Tryz.func63

def d64 : DFn := ⟨[(.g [.one, .one, .one, (.sl [.one])])], [(.g [.one, .one, .one, .one, .one, (.sl [.one]), .one, .one, .one, .one, (.sl [.one, .one])]), (.g [.one, .one, .one])], .pure, [.cell 2 11 true, .cell 3 3 true],
(.seq (.reg false [
⟨some 1, none, [], .box (.t 0)⟩, ⟨some 2, none, [], .alc [(.it .i64 0), (.it .i64 0), (.bo false), (.bo false), (.bo false), .ns, (.it .i64 0), (.it .i64 0), (.it .i64 0), (.it .i64 0), .ns]⟩, ⟨some 3, none, [], .alc [(.it .i64 0), (.it .i64 0), (.it .i64 0)]⟩] [])
(.seq (.reg false [
fA 6 0 1, lD 7 1 6, fA 8 2 1, lD 9 1 8, ⟨some 10, none, [], .bld [(.it .i64 0), (.it .i64 0), (.bo false), (.bo false), (.bo false), .ns, (.it .i64 0), (.it .i64 0), (.it .i64 0), (.it .i64 0), .ns] [(0, 1, (.t 7)), (1, 1, (.t 9))]⟩, ⟨some 4, none, [6, 8], .alc [(.it .i64 0), (.it .i64 0), (.bo false), (.bo false), (.bo false), .ns, (.it .i64 0), (.it .i64 0), (.it .i64 0), (.it .i64 0), .ns]⟩, sO 11 4 10] [6, 8])
(.seq (.seq (.reg false [
lQ 11 4 1, cP 12 50 [(.t 11)], ⟨some 13, none, [], .un .not (.t 12)⟩, mV 14 13, ⟨some 15, some (14, false), [], .fad 0 (.t 1)⟩, ⟨some 16, some (14, false), [], .ld 1 false (.t 15)⟩, ⟨some 17, some (14, false), [], .bin .no .gtr (.t 16) (.k (.it .i64 9))⟩, ⟨some 18, none, [], .pick (.t 14) (.k (.bo true)) (.t 17)⟩] [15])
(.cond (.t 18)
(.seq (.reg false [
lQ 19 11 4, ⟨some 20, none, [], .bld [(.it .i64 0), (.it .i64 0), (.it .i64 0)] []⟩, sO 11 2 19, sO 3 3 20] [])
.ret)
.skip))
(.seq (.seq (.reg false [
lQ 21 4 1, cP 22 82 [(.t 21)]] [])
(.cond (.t 22)
(.seq (.reg false [
⟨some 23, none, [], .bld [(.it .i64 0), (.it .i64 0), (.bo false), (.bo false), (.bo false), .ns, (.it .i64 0), (.it .i64 0), (.it .i64 0), (.it .i64 0), .ns] []⟩, cP 24 83 [(.k (.it .i64 1))], sO 11 2 23, sO 3 3 24] [])
.ret)
.skip))
(.seq (.reg false [
fA 25 3 1, lD 26 1 25, mV 5 26] [25])
(.seq (.seq (.reg false [
fA 27 0 1, lD 28 1 27] [27])
(.blk 0 (.seq (.reg false [
⟨some 30, none, [], .bin .no .eql (.t 28) (.k (.it .i64 0))⟩, mV 29 30] [])
(.cond (.t 29)
(.seq (.reg false [
lQ 31 4 1, lQ 32 11 4, cP 33 84 [(.t 31), (.t 32)], eX 34 33 0, eX 35 33 1, sO 11 2 34, sO 3 3 35] [])
.ret)
(.seq (.reg false [
⟨some 37, none, [], .bin .no .eql (.t 28) (.k (.it .i64 1))⟩, mV 36 37] [])
(.cond (.t 36)
(.seq (.reg false [
lQ 38 4 1, lQ 39 11 4, cP 40 85 [(.t 38), (.t 39)], eX 41 40 0, eX 42 40 1, sO 11 2 41, sO 3 3 42] [])
.ret)
(.seq (.reg false [
⟨some 44, none, [], .bin .no .eql (.t 28) (.k (.it .i64 2))⟩, mV 43 44] [])
(.cond (.t 43)
(.seq (.reg false [
lQ 45 4 1, lQ 46 11 4, cP 47 86 [(.t 45), (.t 46)], eX 48 47 0, eX 49 47 1, sO 11 2 48, sO 3 3 49] [])
.ret)
(.seq (.reg false [
⟨some 51, none, [], .bin .no .eql (.t 28) (.k (.it .i64 3))⟩, mV 50 51] [])
(.cond (.t 50)
(.seq (.seq (.reg false [
mV 52 5, lN 53 false 52, ⟨some 54, none, [], .bin .no .neq (.t 53) (.k (.it .i64 4))⟩] [])
(.cond (.t 54)
(.seq (.reg false [
⟨some 55, none, [], .bld [(.it .i64 0), (.it .i64 0), (.bo false), (.bo false), (.bo false), .ns, (.it .i64 0), (.it .i64 0), (.it .i64 0), (.it .i64 0), .ns] []⟩, cP 56 83 [(.k (.it .i64 6))], sO 11 2 55, sO 3 3 56] [])
.ret)
.skip))
(.reg false [
mV 57 5, cP 58 87 [(.t 57)], fA 59 6 4, sO 1 59 58] [59]))
(.seq (.reg false [
⟨some 61, none, [], .bin .no .eql (.t 28) (.k (.it .i64 4))⟩, mV 60 61] [])
(.cond (.t 60)
(.seq (.reg false [
lQ 62 4 1, lQ 63 11 4, cR 64 88 [(.t 62), (.t 63)], eX 65 64 0, eX 66 64 1, sO 11 2 65, sO 3 3 66] [])
.ret)
(.seq (.reg false [
⟨some 68, none, [], .bin .no .eql (.t 28) (.k (.it .i64 6))⟩, mV 67 68] [])
(.cond (.t 67)
(.seq (.seq (.reg false [
mV 69 5, lN 70 false 69, ⟨some 71, none, [], .bin .no .neq (.t 70) (.k (.it .i64 8))⟩] [])
(.cond (.t 71)
(.seq (.reg false [
⟨some 72, none, [], .bld [(.it .i64 0), (.it .i64 0), (.bo false), (.bo false), (.bo false), .ns, (.it .i64 0), (.it .i64 0), (.it .i64 0), (.it .i64 0), .ns] []⟩, cP 73 83 [(.k (.it .i64 6))], sO 11 2 72, sO 3 3 73] [])
.ret)
.skip))
(.reg true [
fA 74 1 1, lD 75 1 74, ⟨some 76, none, [], .bin .no .and (.t 75) (.k (.it .i64 1))⟩, ⟨some 77, none, [], .bin .no .neq (.t 76) (.k (.it .i64 0))⟩, mV 78 5, fA 80 4 4, cP 79 89 [(.t 78)], sO 1 80 77, fA 81 5 4, sO 1 81 79] [74, 80, 81]))
(.seq (.reg false [
⟨some 83, none, [], .bin .no .eql (.t 28) (.k (.it .i64 7))⟩, mV 82 83] [])
(.cond (.t 82)
(.seq (.seq (.reg false [
mV 84 5, lN 85 false 84, ⟨some 86, none, [], .bin .no .lss (.t 85) (.k (.it .i64 8))⟩] [])
(.cond (.t 86)
(.seq (.reg false [
⟨some 87, none, [], .bld [(.it .i64 0), (.it .i64 0), (.bo false), (.bo false), (.bo false), .ns, (.it .i64 0), (.it .i64 0), (.it .i64 0), (.it .i64 0), .ns] []⟩, cP 88 83 [(.k (.it .i64 6))], sO 11 2 87, sO 3 3 88] [])
.ret)
.skip))
(.reg true [
mV 89 5, mV 91 5, ⟨some 92, none, [], .slc false 1 (.t 91) (some (.k (.it .i64 4))) none⟩, mV 94 5, ⟨some 95, none, [], .slc false 1 (.t 94) (some (.k (.it .i64 8))) none⟩, cP 90 90 [(.t 89)], fA 97 7 4, cP 93 87 [(.t 92)], cP 96 89 [(.t 95)], sO 1 97 90, fA 98 6 4, sO 1 98 93, fA 99 5 4, sO 1 99 96] [97, 98, 99]))
(.seq (.reg false [
⟨some 101, none, [], .bin .no .eql (.t 28) (.k (.it .i64 8))⟩, mV 100 101] [])
(.cond (.t 100)
(.seq (.reg false [
lQ 102 4 1, lQ 103 11 4, cP 104 91 [(.t 102), (.t 103)], eX 105 104 0, eX 106 104 1, sO 11 2 105, sO 3 3 106] [])
.ret)
(.seq (.reg false [
⟨some 108, none, [], .bin .no .eql (.t 28) (.k (.it .i64 9))⟩, mV 107 108] [])
(.cond (.t 107)
(.reg true [
fA 109 1 1, lD 110 1 109, ⟨some 111, none, [], .bin .no .and (.t 110) (.k (.it .i64 4))⟩, ⟨some 112, none, [], .bin .no .neq (.t 111) (.k (.it .i64 0))⟩, mV 113 5, fA 115 3 4, cP 114 89 [(.t 113)], sO 1 115 112, fA 116 5 4, sO 1 116 114] [109, 115, 116])
.skip))))))))))))))))))))
(.seq (.reg false [
lQ 117 11 4, ⟨some 118, none, [], .bld [(.it .i64 0), (.it .i64 0), (.it .i64 0)] []⟩, sO 11 2 117, sO 3 3 118] [])
.ret)))))))⟩
def c64 : Ev.Fn := d64.den
theorem r64 : OK 64 c64 := rd d64 { loc := [1, 2, 3, 4], md := .pure, mds := mds, heap := [], own := [], ord := [(23, [0, 1, 2, 3, 4, 6, 5, 7, 8, 9]), (27, [0, 2, 3, 5, 6, 1, 8, 4, 7, 9, 10, 11, 12, 13]), (31, [0, 1, 2, 3, 4, 6, 5, 7, 8, 9])], clr := [(1, [6, 8]), (2, [15]), (6, [25]), (7, [27]), (17, [59]), (23, [74, 80, 81]), (27, [97, 98, 99]), (31, [109, 115, 116])], mask := [], fns := [], lcl := [], hnd := [], pro := [] } Tryz.func64

def d65 : DFn := ⟨[(.c .one), (.g [.one, .one, .one, (.sl [.one])]), (.g [.one, .one, .one])], [], .rw, [],
(.seq (.reg false [
⟨some 4, none, [], .box (.t 1)⟩, ⟨some 5, none, [], .box (.t 2)⟩] [])
(.blk 0 (.seq (.reg false [
fA 7 0 4, lD 8 1 7, ⟨some 9, none, [], .bin .no .eql (.t 8) (.k (.it .i64 1))⟩, mV 10 9, ⟨some 11, some (10, false), [], .mov (.t 0)⟩, ⟨some 12, some (10, false), [], .fad 2 (.t 4)⟩, ⟨some 13, some (10, false), [], .ld 1 false (.t 12)⟩, ⟨some 14, some (10, false), [], .call false .rw 92 [(.t 11), (.t 13)]⟩, ⟨some 15, none, [], .pick (.t 10) (.k (.bo true)) (.t 14)⟩, mV 6 15] [7, 12])
(.cond (.t 6)
(.reg false [
mV 16 0, fA 17 1 5, lD 18 1 17, cR 19 44 [(.t 16), (.t 18)]] [17])
(.seq (.reg false [
mV 21 0, fA 22 2 4, lD 23 1 22, cR 24 93 [(.t 21), (.t 23)], ⟨some 25, none, [], .un .not (.t 24)⟩, mV 20 25] [22])
(.cond (.t 20)
(.reg false [
mV 26 0, fA 27 2 4, lD 28 1 27, fA 29 1 5, lD 30 1 29, cR 31 94 [(.t 26), (.t 28), (.t 30)]] [27, 29])
.skip))))))⟩
def c65 : Ev.Fn := d65.den
theorem r65 : OK 65 c65 := rd d65 { loc := [4, 5], md := .rw, mds := mds, heap := [], own := [], ord := [], clr := [(1, [7, 12]), (2, [17]), (3, [22]), (4, [27, 29])], mask := [], fns := [], lcl := [], hnd := [], pro := [] } Tryz.func65

def d66 : DFn := ⟨[(.c .one), (.g [.one, .one, .one, .one, .one, (.sl [.one]), .one, .one, .one, .one, (.sl [.one, .one])])], [], .rw, [],
(.seq (.reg false [
⟨some 3, none, [], .box (.t 1)⟩] [])
(.seq (.reg false [
fA 4 0 3, lD 5 1 4] [4])
(.blk 0 (.seq (.reg false [
⟨some 7, none, [], .bin .no .eql (.t 5) (.k (.it .i64 0))⟩, mV 6 7] [])
(.cond (.t 6)
(.reg false [
mV 8 0, lQ 9 11 3, cR 10 95 [(.t 8), (.t 9)]] [])
(.seq (.reg false [
⟨some 12, none, [], .bin .no .eql (.t 5) (.k (.it .i64 1))⟩, mV 11 12] [])
(.cond (.t 11)
(.seq (.reg false [
mV 13 0, fA 14 1 3, lD 15 1 14, fA 16 2 3, lD 17 1 16, fA 18 5 3, lD 19 1 18, ⟨some 20, none, [], .bld [(.it .i64 0), (.bo false), .ns] [(0, 1, (.t 15)), (1, 1, (.t 17)), (2, 1, (.t 19))]⟩, nK 21 13, fA 22 19 21, sO 3 22 20] [14, 16, 18])
(.reg false [
mV 23 0, fA 24 3 3, lD 25 1 24, cR 26 96 [(.t 23), (.t 25)]] [24]))
(.seq (.reg false [
⟨some 28, none, [], .bin .no .eql (.t 5) (.k (.it .i64 9))⟩, mV 27 28] [])
(.cond (.t 27)
(.seq (.seq (.reg true [
mV 29 0, nK 30 29, fA 31 19 30, fA 32 2 31, lD 33 1 32, lN 34 false 33, fA 35 5 3, lD 36 1 35, lN 37 false 36, ⟨some 38, none, [], .bin .no .add (.t 34) (.t 37)⟩, ⟨some 39, none, [], .bin .no .gtr (.t 38) (.k (.it .i64 131072))⟩] [35])
(.cond (.t 39)
(.seq (.reg false [
mV 40 0, cR 41 44 [(.t 40), (.k (.it .i64 11))]] [])
.ret)
.skip))
(.seq (.reg true [
mV 42 0, mV 43 0, nK 44 43, fA 45 19 44, fA 46 2 45, lD 47 1 46, fA 48 5 3, lD 49 1 48, ⟨some 50, none, [], .app 1 1 (.t 47) (.t 49)⟩, nK 51 42, fA 52 19 51, fA 53 2 52, sO 1 53 50] [48])
(.reg false [
mV 54 0, fA 55 3 3, lD 56 1 55, cR 57 96 [(.t 54), (.t 56)]] [55])))
(.seq (.reg false [
⟨some 59, none, [], .bin .no .eql (.t 5) (.k (.it .i64 3))⟩, mV 58 59] [])
(.cond (.t 58)
(.reg false [
mV 60 0, lQ 61 11 3, cR 62 97 [(.t 60), (.t 61)]] [])
(.seq (.reg false [
⟨some 64, none, [], .bin .no .eql (.t 5) (.k (.it .i64 4))⟩, mV 63 64] [])
(.cond (.t 63)
(.seq (.reg false [
fA 65 4 3, lD 66 1 65, ⟨some 67, none, [], .un .not (.t 66)⟩] [65])
(.cond (.t 67)
(.reg false [
mV 68 0, fA 69 10 3, lD 70 1 69, cR 71 98 [(.t 68), (.t 70)]] [69])
.skip))
(.seq (.reg false [
⟨some 73, none, [], .bin .no .eql (.t 5) (.k (.it .i64 6))⟩, mV 72 73] [])
(.cond (.t 72)
(.seq (.reg false [
fA 74 4 3, lD 75 1 74, ⟨some 76, none, [], .un .not (.t 75)⟩] [74])
(.cond (.t 76)
(.reg false [
mV 77 0, fA 78 5 3, lD 79 1 78, ⟨some 80, none, [], .bld [(.it .i64 0), (.it .i64 0), (.it .i64 0), .ns] [(0, 1, (.k (.it .i64 6))), (1, 1, (.k (.it .i64 1))), (3, 1, (.t 79))]⟩, cR 81 71 [(.t 77), (.t 80)]] [78])
.skip))
(.seq (.reg false [
⟨some 83, none, [], .bin .no .eql (.t 5) (.k (.it .i64 7))⟩, mV 82 83] [])
(.cond (.t 82)
(.seq (.reg false [
mV 84 0, nK 85 84, fA 86 23 85, ⟨none, none, [], .sto 1 (.t 86) (.k (.bo true))⟩] [])
(.reg false [
mV 87 0, fA 88 7 3, lD 89 1 88, fA 90 6 3, lD 91 1 90, ⟨some 92, none, [], .bld [(.it .i64 0), (.it .i64 0), .ns, (.st []), (.bo false), (.it .i64 0)] [(0, 1, (.k (.it .i64 5))), (1, 1, (.t 89)), (5, 1, (.t 91))]⟩, cR 93 68 [(.t 87), (.t 92)]] [88, 90]))
(.seq (.reg false [
⟨some 95, none, [], .bin .no .eql (.t 5) (.k (.it .i64 8))⟩, mV 94 95] [])
(.cond (.t 94)
(.reg false [
mV 96 0, lQ 97 11 3, cR 98 99 [(.t 96), (.t 97)]] [])
.skip)))))))))))))))))))⟩
def c66 : Ev.Fn := d66.den
theorem r66 : OK 66 c66 := rd d66 { loc := [3], md := .rw, mds := mds, heap := [50], own := [50], ord := [], clr := [(1, [4]), (5, [14, 16, 18]), (6, [24]), (8, [35]), (10, [48]), (11, [55]), (15, [65]), (16, [69]), (18, [74]), (19, [78]), (22, [88, 90])], mask := [], fns := [], lcl := [], hnd := [], pro := [] } Tryz.func66

def d67 : DFn := ⟨[(.c .one)], [(.c (.sl [.one]))], .pure, [.tmp 2],
(.seq (.reg false [
mK 2 .ns] [])
(.seq (.reg false [
mV 3 0, ⟨some 4, none, [], .bin .no .shr (.t 3) (.k (.it .u64 24))⟩, cV 5 .u8 4, mV 6 0, ⟨some 7, none, [], .bin .no .shr (.t 6) (.k (.it .u64 16))⟩, cV 8 .u8 7, mV 9 0, ⟨some 10, none, [], .bin .no .shr (.t 9) (.k (.it .u64 8))⟩, cV 11 .u8 10, mV 12 0, cV 13 .u8 12, ⟨some 14, none, [], .bsl 1 (List.replicate 4 [(.it .u8 0)]) [(0, (.t 5)), (1, (.t 8)), (2, (.t 11)), (3, (.t 13))]⟩, mV 2 14] [])
.ret))⟩
def c67 : Ev.Fn := d67.den
theorem r67 : OK 67 c67 := rd d67 { loc := [], md := .pure, mds := mds, heap := [14], own := [14], ord := [], clr := [], mask := [], fns := [], lcl := [], hnd := [], pro := [] } Tryz.func67

def d68 : DFn := ⟨[(.c .one), (.g [.one, .one, (.sl [.one, .one]), .one, .one, .one])], [], .rw, [],
(.seq (.reg false [
⟨some 3, none, [], .box (.t 1)⟩] [])
(.reg true [
mV 4 0, mV 5 0, nK 6 5, fA 7 25 6, lD 8 1 7, lQ 9 6 3, ⟨some 10, none, [], .bsl 6 [[(.it .i64 0), (.it .i64 0), .ns, (.st []), (.bo false), (.it .i64 0)]] [(0, (.t 9))]⟩, ⟨some 11, none, [], .app 6 72 (.t 8) (.t 10)⟩, nK 12 4, fA 13 25 12, sO 1 13 11] []))⟩
def c68 : Ev.Fn := d68.den
theorem r68 : OK 68 c68 := rd d68 { loc := [3], md := .rw, mds := mds, heap := [11, 10], own := [11], ord := [], clr := [], mask := [], fns := [], lcl := [], hnd := [], pro := [] } Tryz.func68

def d69 : DFn := ⟨[(.c .one), (.c .one)], [(.c .one), (.c .one)], .pure, [.tmp 4, .tmp 5],
(.seq (.reg false [
mK 4 (.it .i64 0), mK 5 (.bo false)] [])
(.seq (.reg false [
mV 7 1, ⟨some 8, none, [], .bin .no .gtr (.t 7) (.k (.it .i64 10))⟩, mV 6 8] [])
(.seq (.seq (.reg false [
mV 9 6] [])
(.cond (.t 9)
(.reg false [
mV 10 1, ⟨some 11, none, [], .bin .no .sub (.t 10) (.k (.it .i64 10))⟩, mV 1 11] [])
.skip))
(.seq (.seq (.reg false [
mV 12 1, ⟨some 13, none, [], .bin .no .lss (.t 12) (.k (.it .i64 1))⟩, mV 14 13, ⟨some 15, some (14, false), [], .mov (.t 1)⟩, ⟨some 16, some (14, false), [], .bin .no .gtr (.t 15) (.k (.it .i64 5))⟩, ⟨some 17, none, [], .pick (.t 14) (.k (.bo true)) (.t 16)⟩] [])
(.cond (.t 17)
(.seq (.reg false [
mV 18 0, mV 4 18, mK 5 (.bo false)] [])
.ret)
.skip))
(.seq (.seq (.reg false [
mV 19 0] [])
(.blk 0 (.seq (.reg false [
⟨some 21, none, [], .bin .no .eql (.t 19) (.k (.it .i64 0))⟩, mV 20 21] [])
(.cond (.t 20)
(.seq (.seq (.reg false [
mV 22 1] [])
(.blk 1 (.seq (.reg false [
⟨some 24, none, [], .bin .no .eql (.t 22) (.k (.it .i64 2))⟩, mV 23 24] [])
(.cond (.t 23)
(.seq (.reg false [
mK 4 (.it .i64 1), mK 5 (.bo true)] [])
.ret)
(.seq (.reg false [
⟨some 26, none, [], .bin .no .eql (.t 22) (.k (.it .i64 1))⟩, mV 25 26] [])
(.cond (.t 25)
(.seq (.reg false [
mV 27 6, cP 28 100 [(.t 27)], mV 4 28, mK 5 (.bo true)] [])
.ret)
.skip))))))
(.seq (.reg false [
mK 4 (.it .i64 0), mK 5 (.bo false)] [])
.ret))
(.seq (.reg false [
⟨some 30, none, [], .bin .no .eql (.t 19) (.k (.it .i64 1))⟩, mV 29 30] [])
(.cond (.t 29)
(.seq (.seq (.reg false [
mV 31 1, ⟨some 32, none, [], .bin .no .eql (.t 31) (.k (.it .i64 5))⟩] [])
(.cond (.t 32)
(.seq (.reg false [
mK 4 (.it .i64 4), mK 5 (.bo true)] [])
.ret)
.skip))
(.seq (.seq (.reg false [
mV 33 1, cP 34 101 [(.t 33)]] [])
(.cond (.t 34)
(.seq (.reg false [
mV 35 6, cP 36 100 [(.t 35)], mV 4 36, mK 5 (.bo true)] [])
.ret)
.skip))
(.seq (.reg false [
mK 4 (.it .i64 1), mK 5 (.bo true)] [])
.ret)))
(.seq (.seq (.reg false [
⟨some 38, none, [], .bin .no .eql (.t 19) (.k (.it .i64 2))⟩, mV 37 38] [])
(.cond (.t 37)
.skip
(.reg false [
⟨some 39, none, [], .bin .no .eql (.t 19) (.k (.it .i64 3))⟩, mV 37 39] [])))
(.cond (.t 37)
(.seq (.seq (.reg false [
mV 40 1, ⟨some 41, none, [], .bin .no .eql (.t 40) (.k (.it .i64 5))⟩] [])
(.cond (.t 41)
(.seq (.reg false [
mK 4 (.it .i64 4), mK 5 (.bo true)] [])
.ret)
.skip))
(.seq (.seq (.reg false [
mV 42 0, mV 43 6, cP 44 100 [(.t 43)], ⟨some 45, none, [], .bin .no .eql (.t 42) (.t 44)⟩] [])
(.cond (.t 45)
(.seq (.reg false [
mV 46 0, mV 4 46, mK 5 (.bo false)] [])
.ret)
.skip))
(.seq (.seq (.reg false [
mV 47 1, cP 48 101 [(.t 47)]] [])
(.cond (.t 48)
(.seq (.reg false [
mK 4 (.it .i64 4), mK 5 (.bo true)] [])
.ret)
.skip))
(.seq (.reg false [
mV 49 0, mV 4 49, mK 5 (.bo true)] [])
.ret))))
.skip))))))))
(.seq (.reg false [
mV 50 0, mV 4 50, mK 5 (.bo false)] [])
.ret))))))⟩
def c69 : Ev.Fn := d69.den
theorem r69 : OK 69 c69 := rd d69 { loc := [], md := .pure, mds := mds, heap := [], own := [], ord := [], clr := [], mask := [], fns := [], lcl := [], hnd := [], pro := [] } Tryz.func69

def d70 : DFn := ⟨[(.c .one), (.c .one)], [], .rw, [],
(.seq (.reg false [
⟨some 3, none, [], .bxh (.t 1)⟩] [])
(.reg false [
mV 4 0, mV 5 0, nK 6 5, fA 7 15 6, lD 8 1 7, ⟨some 9, none, [], .mkf 103 [] [(.t 3)]⟩, ⟨some 10, none, [], .call true .rw 102 [(.t 8), (.t 9)]⟩, nK 11 4, fA 12 15 11, sO 1 12 10] []))⟩
def c70 : Ev.Fn := d70.den
theorem r70 : OK 70 c70 := rd d70 { loc := [], md := .rw, mds := mds, heap := [10], own := [10], ord := [], clr := [], mask := [], fns := [103], lcl := [], hnd := [], pro := [] } Tryz.func70

def d71 : DFn := ⟨[(.c .one), (.g [.one, .one, .one, (.sl [.one])])], [(.c .one)], .rw, [.tmp 4],
(.seq (.reg false [
⟨some 3, none, [], .box (.t 1)⟩, mK 4 (.bo false)] [])
(.seq (.reg false [
lQ 6 4 3, cP 7 20 [(.k .ns), (.t 6)], mV 5 7] [])
(.seq (.seq (.reg false [
mV 8 0, nK 9 8, fA 10 12 9, lD 11 1 10, lN 12 false 11, mV 13 5, lN 14 false 13, ⟨some 15, none, [], .bin .no .add (.t 12) (.t 14)⟩, ⟨some 16, none, [], .bin .no .gtr (.t 15) (.k (.it .i64 262144))⟩] [])
(.cond (.t 16)
(.seq (.reg false [
mV 17 0, cR 18 44 [(.t 17), (.k (.it .i64 11))]] [])
(.seq (.reg false [
mK 4 (.bo false)] [])
.ret))
.skip))
(.seq (.reg false [
mV 19 0, mV 20 0, nK 21 20, fA 22 12 21, lD 23 1 22, mV 24 5, ⟨some 25, none, [], .app 1 1 (.t 23) (.t 24)⟩, nK 26 19, fA 27 12 26, sO 1 27 25] [])
(.seq (.reg false [
mK 4 (.bo true)] [])
.ret)))))⟩
def c71 : Ev.Fn := d71.den
theorem r71 : OK 71 c71 := rd d71 { loc := [3], md := .rw, mds := mds, heap := [25], own := [25], ord := [(0, [1, 0])], clr := [], mask := [], fns := [], lcl := [], hnd := [], pro := [] } Tryz.func71

def d72 : DFn := ⟨[(.c .one), (.c .one)], [], .rw, [],
(.seq (.reg false [
⟨some 3, none, [], .bxh (.t 1)⟩] [])
(.seq (.reg true [
mV 4 0, mV 5 0, nK 6 5, fA 7 18 6, lD 8 1 7, ⟨some 9, none, [], .mkf 105 [] [(.t 3)]⟩, lD 11 1 3, ⟨some 12, none, [], .bsv [.one] 1 [[(.it .i64 0)]] [(0, (.t 11))]⟩, ⟨some 10, none, [3], .call true .rw 104 [(.t 8), (.t 9)]⟩, ⟨some 13, none, [], .app 1 8 (.t 10) (.t 12)⟩, nK 14 4, fA 15 18 14, sO 1 15 13] [])
(.seq (.seq (.reg false [
mV 16 0, nK 17 16, fA 18 18 17, lD 19 1 18, lN 20 false 19, ⟨some 21, none, [], .bin .no .gtr (.t 20) (.k (.it .i64 100))⟩] [])
(.cond (.t 21)
(.reg false [
mV 22 0, mV 23 0, nK 24 23, fA 25 18 24, lD 26 1 25, ⟨some 27, none, [], .slc false 1 (.t 26) (some (.k (.it .i64 1))) none⟩, nK 28 22, fA 29 18 28, sO 1 29 27] [])
.skip))
(.reg false [
mV 30 0, lD 31 1 3, cR 32 70 [(.t 30), (.t 31)]] []))))⟩
def c72 : Ev.Fn := d72.den
theorem r72 : OK 72 c72 := rd d72 { loc := [], md := .rw, mds := mds, heap := [10, 13], own := [10, 13], ord := [(1, [0, 1, 2, 3, 4, 5, 7, 8, 6, 9, 10, 11, 12])], clr := [], mask := [], fns := [105], lcl := [], hnd := [], pro := [] } Tryz.func72

def d73 : DFn := ⟨[(.c .one)], [(.c .one)], .rw, [.tmp 2],
(.seq (.reg false [
mK 2 (.bo false)] [])
(.seq (.reg false [
mV 3 0, nK 4 3, fA 5 1 4, lD 6 1 5, ⟨some 7, none, [], .bin .no .eql (.t 6) (.k (.it .i64 1))⟩, mV 8 7, ⟨some 9, some (8, false), [], .mov (.t 0)⟩, ⟨some 10, some (8, false), [], .nck (.t 9)⟩, ⟨some 11, some (8, false), [], .fad 1 (.t 10)⟩, ⟨some 12, some (8, false), [], .ld 1 false (.t 11)⟩, ⟨some 13, some (8, false), [], .bin .no .eql (.t 12) (.k (.it .i64 2))⟩, ⟨some 14, none, [], .pick (.t 8) (.k (.bo true)) (.t 13)⟩, mV 2 14] [])
.ret))⟩
def c73 : Ev.Fn := d73.den
theorem r73 : OK 73 c73 := rd d73 { loc := [], md := .rw, mds := mds, heap := [], own := [], ord := [], clr := [], mask := [], fns := [], lcl := [], hnd := [], pro := [] } Tryz.func73

end Go.Proofs.YtpncefcicfhibaaGreatDoor.tab
