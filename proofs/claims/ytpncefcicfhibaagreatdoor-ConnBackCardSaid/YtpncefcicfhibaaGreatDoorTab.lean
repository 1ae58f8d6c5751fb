import Derived.Test.YtpncefcicfhibaaGreatDoorHand
import Derived.Test.YtpncefcicfhibaaGreatDoorRows
import Derived.KernelRfl
/- the functions of the seat, read off the program -/
namespace Go.Proofs.YtpncefcicfhibaaGreatDoor.tab
open Go hiding Fn
open Ev

abbrev mV (d s : Nat) : DOp := ⟨some d, none, [], .mov (.t s)⟩
abbrev fA (d o s : Nat) : DOp := ⟨some d, none, [], .fad o (.t s)⟩
abbrev lD (d n s : Nat) : DOp := ⟨some d, none, [], .ld n false (.t s)⟩
abbrev lQ (d n s : Nat) : DOp := ⟨some d, none, [], .ld n true (.t s)⟩
abbrev nK (d s : Nat) : DOp := ⟨some d, none, [], .nck (.t s)⟩
abbrev sO (n a s : Nat) : DOp := ⟨none, none, [], .sto n (.t a) (.t s)⟩
abbrev eX (d s i : Nat) : DOp := ⟨some d, none, [], .ext (.t s) i⟩
abbrev mK (d : Nat) (v : V) : DOp := ⟨some d, none, [], .mov (.k v)⟩
abbrev cR (d f : Nat) (l : List A) : DOp := ⟨some d, none, [], .call false .rw f l⟩
abbrev cP (d f : Nat) (l : List A) : DOp := ⟨some d, none, [], .call false .pure f l⟩
abbrev lN (d : Nat) (q : Bool) (s : Nat) : DOp := ⟨some d, none, [], .len q (.t s)⟩
abbrev cV (d : Nat) (k : IntKind) (s : Nat) : DOp := ⟨some d, none, [], .cnv (.int k) (.t s)⟩
def mdl : List Md := [.pure, .pure, .pure, .pure, .pure, .pure, .pure, .pure, .pure, .pure, .rw, .pure, .pure, .rw, .rw, .rw, .pure, .rw, .rw, .rw, .pure, .pure, .rw, .rw, .pure, .pure, .rw, .rw, .rw, .rw, .pure, .rw, .pure, .pure, .rw, .rw, .rw, .pure, .pure, .pure, .rw, .rw, .rw, .rw, .rw, .rw, .rw, .pure, .pure, .rw, .pure, .pure, .pure, .rw, .pure, .rw, .pure, .rw, .pure, .pure, .rw, .pure, .rw, .rw, .pure, .rw, .rw, .pure, .rw, .pure, .rw, .rw, .rw, .rw, .pure, .pure, .rw, .rw, .pure, .pure, .rw, .rw, .pure, .pure, .pure, .pure, .pure, .pure, .rw, .pure, .pure, .pure, .rw, .rw, .rw, .rw, .rw, .rw, .rw, .rw, .pure, .pure, .rw, .rw, .rw, .rw, .pure, .pure, .rw, .pure, .pure, .rw, .rw, .pure, .pure, .pure, .pure, .rw, .rw, .rw, .rw, .pure, .rw, .rw, .pure, .rw, .rw, .pure, .pure, .pure, .pure, .pure, .pure, .pure, .pure, .pure, .rw, .rw, .rw, .rw, .pure, .rw, .rw, .rw, .pure, .pure, .pure, .pure, .pure, .rw, .pure, .rw, .rw, .rw, .rw, .rw, .rw, .pure, .pure, .pure, .pure, .pure, .pure, .pure, .pure, .rw, .rw, .pure, .rw, .pure, .pure, .pure, .pure, .pure, .rw, .pure, .pure, .pure, .pure, .pure, .pure, .pure, .pure, .rw, .rw, .rw, .rw, .rw, .rw, .rw, .rw, .rw, .pure, .pure, .pure, .pure, .pure, .pure]
def mds (n : Nat) : Md := mdl.getD n .rw

def d3 : DFn := ⟨[], [(.c .one)], .pure, [.tmp 0],
(.seq (.reg false [
mK 0 (.bo false)] [])
(.seq (.reg false [
cP 14 11 [], cR 15 10 [(.k (.bo true)), (.t 14)], mV 13 15, eX 16 13 0, eX 17 13 1, mV 1 16, mV 2 17] [])
(.seq (.seq (.reg false [
mV 18 1, ⟨some 19, none, [], .bin .ptr .eql (.t 18) (.k .np)⟩, mV 20 19, ⟨some 21, some (20, false), [], .mov (.t 2)⟩, ⟨some 22, some (20, false), [], .bin .no .neq (.t 21) (.k (.it .i64 0))⟩, ⟨some 23, none, [], .pick (.t 20) (.k (.bo true)) (.t 22)⟩, mV 24 23, ⟨some 25, some (24, false), [], .mov (.t 1)⟩, ⟨some 26, some (24, false), [], .call false .rw 13 [(.t 25), (.k (.it .i64 1000))]⟩, ⟨some 27, some (24, false), [], .bsv [.one] 1 (List.replicate 27 [(.it .u8 0)]) [(0, (.k (.it .u8 0))), (1, (.k (.it .u8 0))), (2, (.k (.it .u8 18))), (3, (.k (.it .u8 4))), (4, (.k (.it .u8 0))), (5, (.k (.it .u8 0))), (6, (.k (.it .u8 0))), (7, (.k (.it .u8 0))), (8, (.k (.it .u8 0))), (9, (.k (.it .u8 0))), (10, (.k (.it .u8 3))), (11, (.k (.it .u8 0))), (12, (.k (.it .u8 0))), (13, (.k (.it .u8 0))), (14, (.k (.it .u8 2))), (15, (.k (.it .u8 0))), (16, (.k (.it .u8 4))), (17, (.k (.it .u8 0))), (18, (.k (.it .u8 0))), (19, (.k (.it .u8 255))), (20, (.k (.it .u8 255))), (21, (.k (.it .u8 0))), (22, (.k (.it .u8 6))), (23, (.k (.it .u8 0))), (24, (.k (.it .u8 1))), (25, (.k (.it .u8 0))), (26, (.k (.it .u8 0)))]⟩, ⟨some 28, some (24, false), [], .call false .pure 12 [(.t 26), (.t 27)]⟩, ⟨some 29, some (24, false), [], .un .not (.t 28)⟩, ⟨some 30, none, [], .pick (.t 24) (.k (.bo true)) (.t 29)⟩] [])
(.cond (.t 30)
(.seq (.reg false [
mK 0 (.bo false)] [])
.ret)
.skip))
(.seq (.reg false [
cP 32 11 [], cP 33 11 [], cR 34 14 [(.t 32), (.t 33)], mV 31 34, eX 35 31 0, eX 36 31 1, mV 3 35, mV 4 36] [])
(.seq (.seq (.reg false [
mV 37 3, ⟨some 38, none, [], .bin .ptr .eql (.t 37) (.k .np)⟩, mV 39 38, ⟨some 40, some (39, false), [], .mov (.t 4)⟩, ⟨some 41, some (39, false), [], .bin .ptr .eql (.t 40) (.k .np)⟩, ⟨some 42, none, [], .pick (.t 39) (.k (.bo true)) (.t 41)⟩] [])
(.cond (.t 42)
(.seq (.reg false [
mK 0 (.bo false)] [])
.ret)
.skip))
(.seq (.reg false [
mV 44 4, ⟨some 45, none, [], .call false .pure 16 [(.k (.st [58, 109, 101, 116, 104, 111, 100])), (.k (.st [71, 69, 84]))]⟩, ⟨some 46, none, [], .bsv [.one, .one, .one] 3 [[(.st []), (.st []), (.it .i64 0)]] [(0, (.t 45))]⟩, cR 47 15 [(.t 44), (.t 46), (.k (.bo true))], mV 43 47, eX 48 43 0, eX 49 43 1, mV 5 48, mV 6 49] [])
(.seq (.reg false [
mV 50 3, mV 51 4, cR 52 13 [(.t 51), (.k (.it .i64 1000))], cR 53 17 [(.t 50), (.t 52)], mV 7 53] [])
(.seq (.reg false [
mV 54 3, ⟨some 55, none, [], .call false .pure 16 [(.k (.st [58, 115, 116, 97, 116, 117, 115])), (.k (.st [50, 48, 48]))]⟩, ⟨some 56, none, [], .bsv [.one, .one, .one] 3 [[(.st []), (.st []), (.it .i64 0)]] [(0, (.t 55))]⟩, cR 57 18 [(.t 54), (.k (.it .i64 1)), (.t 56), (.k (.bo false))], mV 8 57] [])
(.seq (.reg false [
mV 59 3, ⟨some 60, none, [], .call false .rw 19 [(.t 59), (.k (.it .i64 1)), (.k (.st [97, 98])), (.k (.bo true))]⟩, mV 58 60, eX 61 58 0, eX 62 58 1, mV 9 61, mV 10 62] [])
(.seq (.reg false [
mV 63 4, mV 64 3, cR 65 13 [(.t 64), (.k (.it .i64 1000))], cR 66 17 [(.t 63), (.t 65)], mV 11 66] [])
(.seq (.reg false [
mV 67 3, ⟨some 68, none, [], .mks 1 1 [(.it .u8 0)] (.k (.it .i64 7)) (.k (.it .i64 7))⟩, ⟨some 69, none, [], .bld [(.it .i64 0), (.it .i64 0), (.it .i64 0), .ns] [(0, 1, (.k (.it .i64 6))), (3, 1, (.t 68))]⟩, cP 70 20 [(.k .ns), (.t 69)], cR 71 17 [(.t 67), (.t 70)], mV 12 71] [])
(.seq (.reg false [
mV 72 5, ⟨some 73, none, [], .bin .no .eql (.t 72) (.k (.it .i64 1))⟩, mV 74 73, ⟨some 75, some (74, true), [], .mov (.t 6)⟩, ⟨some 76, none, [], .pick (.t 74) (.t 75) (.k (.bo false))⟩, mV 77 76, ⟨some 78, some (77, true), [], .mov (.t 7)⟩, ⟨some 79, some (77, true), [], .bld [(.st []), (.st [])] [(0, 1, (.k (.st [58, 109, 101, 116, 104, 111, 100]))), (1, 1, (.k (.st [71, 69, 84])))]⟩, ⟨some 80, some (77, true), [], .bsv [.one, .one] 2 [[(.st []), (.st [])]] [(0, (.t 79))]⟩, ⟨some 81, some (77, true), [], .bld [(.it .i64 0), (.it .i64 0), .ns, (.st []), (.bo false), (.it .i64 0)] [(0, 1, (.k (.it .i64 1))), (1, 1, (.k (.it .i64 1))), (2, 1, (.t 80)), (4, 1, (.k (.bo true)))]⟩, ⟨some 82, some (77, true), [], .bsl 6 [[(.it .i64 0), (.it .i64 0), .ns, (.st []), (.bo false), (.it .i64 0)]] [(0, (.t 81))]⟩, ⟨some 83, some (77, true), [], .call false .pure 21 [(.t 78), (.t 82)]⟩, ⟨some 84, none, [], .pick (.t 77) (.t 83) (.k (.bo false))⟩, mV 85 84, ⟨some 86, some (85, true), [], .mov (.t 8)⟩, ⟨some 87, none, [], .pick (.t 85) (.t 86) (.k (.bo false))⟩, mV 88 87, ⟨some 89, some (88, true), [], .mov (.t 9)⟩, ⟨some 90, some (88, true), [], .bin .no .eql (.t 89) (.k (.it .i64 2))⟩, ⟨some 91, none, [], .pick (.t 88) (.t 90) (.k (.bo false))⟩, mV 92 91, ⟨some 93, some (92, true), [], .mov (.t 10)⟩, ⟨some 94, none, [], .pick (.t 92) (.t 93) (.k (.bo false))⟩, mV 95 94, ⟨some 96, some (95, true), [], .mov (.t 11)⟩, ⟨some 97, some (95, true), [], .bld [(.st []), (.st [])] [(0, 1, (.k (.st [58, 115, 116, 97, 116, 117, 115]))), (1, 1, (.k (.st [50, 48, 48])))]⟩, ⟨some 98, some (95, true), [], .bsv [.one, .one] 2 [[(.st []), (.st [])]] [(0, (.t 97))]⟩, ⟨some 99, some (95, true), [], .bld [(.it .i64 0), (.it .i64 0), .ns, (.st []), (.bo false), (.it .i64 0)] [(0, 1, (.k (.it .i64 1))), (1, 1, (.k (.it .i64 1))), (2, 1, (.t 98))]⟩, ⟨some 100, some (95, true), [], .bld [(.it .i64 0), (.it .i64 0), .ns, (.st []), (.bo false), (.it .i64 0)] [(0, 1, (.k (.it .i64 3))), (1, 1, (.k (.it .i64 1))), (3, 1, (.k (.st [97, 98]))), (4, 1, (.k (.bo true)))]⟩, ⟨some 101, some (95, true), [], .bsl 6 [[(.it .i64 0), (.it .i64 0), .ns, (.st []), (.bo false), (.it .i64 0)], [(.it .i64 0), (.it .i64 0), .ns, (.st []), (.bo false), (.it .i64 0)]] [(0, (.t 99)), (1, (.t 100))]⟩, ⟨some 102, some (95, true), [], .call false .pure 21 [(.t 96), (.t 101)]⟩, ⟨some 103, none, [], .pick (.t 95) (.t 102) (.k (.bo false))⟩, mV 104 103, ⟨some 105, some (104, true), [], .mov (.t 12)⟩, ⟨some 106, some (104, true), [], .bld [(.it .i64 0), (.it .i64 0), .ns, (.st []), (.bo false), (.it .i64 0)] [(0, 1, (.k (.it .i64 6))), (5, 1, (.k (.it .i64 6)))]⟩, ⟨some 107, some (104, true), [], .bsl 6 [[(.it .i64 0), (.it .i64 0), .ns, (.st []), (.bo false), (.it .i64 0)]] [(0, (.t 106))]⟩, ⟨some 108, some (104, true), [], .call false .pure 21 [(.t 105), (.t 107)]⟩, ⟨some 109, none, [], .pick (.t 104) (.t 108) (.k (.bo false))⟩, mV 110 109, ⟨some 111, some (110, true), [], .mov (.t 3)⟩, ⟨some 112, some (110, true), [], .call false .rw 22 [(.t 111)]⟩, ⟨some 113, none, [], .pick (.t 110) (.t 112) (.k (.bo false))⟩, mV 0 113] [])
.ret))))))))))))⟩
def c3 : Ev.Fn := d3.den
def p3 : Pol := { loc := [], md := .pure, mds := mds, heap := [82, 101, 107], own := [], ord := [(2, [0, 1, 2, 3, 4, 5, 6, 7, 9, 8, 10, 11, 12])], clr := [], mask := [], fns := [], lcl := [] }
theorem r3 : FnOK Tryz.prog mds 3 c3 := .read (pol := p3) (d := d3) Tryz.func3 (by kernel_rfl) (by kernel_rfl) rfl rfl (by kernel_rfl)

def d4 : DFn := ⟨[(.c (.sl [.one])), (.c (.sl [.one]))], [(.c .one)], .pure, [.tmp 4],
(.seq (.reg false [
mK 4 (.bo false)] [])
(.seq (.reg false [
cP 10 11 [], cR 11 23 [(.t 10)], mV 5 11] [])
(.seq (.seq (.reg false [
mV 12 5, ⟨some 13, none, [], .bin .ptr .eql (.t 12) (.k .np)⟩] [])
(.cond (.t 13)
(.seq (.reg false [
mK 4 (.bo false)] [])
.ret)
.skip))
(.seq (.reg false [
mK 6 .ns] [])
(.seq (.seq (.reg false [
mK 7 (.it .i64 0)] [])
(.blk 0 (.loop [0, 1, 5, 6, 7] [9]
(.seq (.seq (.reg false [
mV 14 7, mV 15 0, lN 16 false 15, ⟨some 17, none, [], .bin .no .lss (.t 14) (.t 16)⟩, mV 18 17, ⟨some 19, some (18, true), [], .mov (.t 7)⟩, ⟨some 20, some (18, true), [], .bin .no .lss (.t 19) (.k (.it .i64 50))⟩, ⟨some 21, none, [], .pick (.t 18) (.t 20) (.k (.bo false))⟩] [])
(.cond (.t 21)
.skip
(.exit 0)))
(.seq (.blk 1 (.seq (.reg true [
mV 24 0, mV 25 7, ⟨some 26, none, [], .ias 1 (.t 24) (.t 25)⟩, lD 27 1 26, cV 28 .u8 27, mV 29 0, mV 30 7, ⟨some 31, none, [], .ias 1 (.t 29) (.t 30)⟩, lD 32 1 31, ⟨some 33, none, [], .bin .no .shr (.t 32) (.k (.it .u64 8))⟩, cV 34 .u8 33, mV 35 0, mV 36 7, ⟨some 37, none, [], .ias 1 (.t 35) (.t 36)⟩, lD 38 1 37, ⟨some 39, none, [], .bin .no .shr (.t 38) (.k (.it .u64 16))⟩, cV 40 .u8 39, mV 41 0, mV 42 7, ⟨some 43, none, [], .ias 1 (.t 41) (.t 42)⟩, lD 44 1 43, ⟨some 45, none, [], .bin .no .shr (.t 44) (.k (.it .u64 24))⟩, cV 46 .u8 45, ⟨some 47, none, [], .bsv [.one] 1 (List.replicate 8 [(.it .u8 0)]) [(0, (.t 28)), (1, (.t 34)), (2, (.t 40)), (3, (.t 46)), (4, (.k (.it .u8 1))), (5, (.k (.it .u8 2))), (6, (.k (.it .u8 3))), (7, (.k (.it .u8 4)))]⟩, mV 8 47] [])
(.seq (.reg false [
mV 48 8, ⟨some 49, none, [], .bld [(.it .i64 0), (.it .i64 0), (.it .i64 0), .ns] [(0, 1, (.k (.it .i64 6))), (3, 1, (.t 48))]⟩, ⟨some 9, none, [], .alc [(.it .i64 0), (.it .i64 0), (.it .i64 0), .ns]⟩, sO 4 9 49] [])
(.seq (.seq (.reg false [
mV 50 7, mV 51 1, lN 52 false 51, ⟨some 53, none, [], .bin .no .lss (.t 50) (.t 52)⟩, mV 54 53, ⟨some 55, some (54, true), [], .mov (.t 1)⟩, ⟨some 56, some (54, true), [], .mov (.t 7)⟩, ⟨some 57, some (54, true), [], .ias 1 (.t 55) (.t 56)⟩, ⟨some 58, some (54, true), [], .ld 1 false (.t 57)⟩, ⟨some 59, none, [], .pick (.t 54) (.t 58) (.k (.bo false))⟩] [])
(.cond (.t 59)
(.reg false [
fA 60 1 9, ⟨none, none, [], .sto 1 (.t 60) (.k (.it .i64 1))⟩] [60])
(.reg false [
mV 61 6, mV 62 8, ⟨some 63, none, [], .bld [(.it .i64 0), (.it .i64 0), (.it .i64 0), .ns] [(0, 1, (.k (.it .i64 6))), (1, 1, (.k (.it .i64 1))), (3, 1, (.t 62))]⟩, cP 64 24 [(.t 61), (.t 63)], mV 6 64] [])))
(.seq (.reg false [
mV 65 5, lQ 66 4 9, cP 67 24 [(.k .ns), (.t 66)], cR 68 17 [(.t 65), (.t 67)], lN 69 false 68, ⟨some 70, none, [], .bin .no .neq (.t 69) (.k (.it .i64 0))⟩] [])
(.cond (.t 70)
(.seq (.reg false [
mK 4 (.bo false)] [])
.ret)
.skip))))))
(.reg false [
mV 22 7, ⟨some 23, none, [], .bin .no .add (.t 22) (.k (.it .i64 1))⟩, mV 7 23] []))))))
(.seq (.reg false [
mV 71 5, cR 72 13 [(.t 71), (.k (.it .i64 1048576))], mV 73 6, cP 74 12 [(.t 72), (.t 73)], mV 75 74, ⟨some 76, some (75, true), [], .mov (.t 5)⟩, ⟨some 77, some (75, true), [], .call false .rw 22 [(.t 76)]⟩, ⟨some 78, some (75, true), [], .un .not (.t 77)⟩, ⟨some 79, none, [], .pick (.t 75) (.t 78) (.k (.bo false))⟩, mV 80 79, ⟨some 81, some (80, true), [], .call false .pure 3 []⟩, ⟨some 82, none, [], .pick (.t 80) (.t 81) (.k (.bo false))⟩, mV 4 82] [])
.ret))))))⟩
def c4 : Ev.Fn := d4.den
def p4 : Pol := { loc := [9], md := .pure, mds := mds, heap := [], own := [], ord := [(15, [0, 2, 1, 3, 4, 5, 6, 7, 8, 9, 10, 11, 12])], clr := [(11, [60])], mask := [(6, [0, 1, 5, 6, 7], [9])], fns := [], lcl := [] }
theorem r4 : FnOK Tryz.prog mds 4 c4 := .read (pol := p4) (d := d4) Tryz.func4 (by kernel_rfl) (by kernel_rfl) rfl rfl (by kernel_rfl)

def d5 : DFn := ⟨[(.c .one)], [(.c .one)], .pure, [.tmp 2],
(.seq (.reg false [
mK 2 (.bo false)] [])
(.seq (.reg false [
cP 8 11 [], cR 9 23 [(.t 8)], mV 3 9] [])
(.seq (.seq (.reg false [
mV 10 3, ⟨some 11, none, [], .bin .ptr .eql (.t 10) (.k .np)⟩] [])
(.cond (.t 11)
(.seq (.reg false [
mK 2 (.bo false)] [])
.ret)
.skip))
(.seq (.reg false [
mV 12 3, ⟨some 13, none, [], .bsv [.one] 1 [[(.it .u8 0)]] [(0, (.k (.it .u8 130)))]⟩, ⟨some 14, none, [], .bld [(.it .i64 0), (.it .i64 0), (.it .i64 0), .ns] [(0, 1, (.k (.it .i64 1))), (1, 1, (.k (.it .i64 4))), (2, 1, (.k (.it .i64 1))), (3, 1, (.t 13))]⟩, cP 15 24 [(.k .ns), (.t 14)], cR 16 17 [(.t 12), (.t 15)]] [])
(.seq (.reg false [
mK 4 (.it .i64 0)] [])
(.seq (.blk 0 (.loop [0, 3, 4] []
(.seq (.seq (.reg false [
mV 17 4, ⟨some 18, none, [], .bin .no .lss (.t 17) (.k (.it .i64 65535))⟩] [])
(.cond (.t 18)
.skip
(.exit 0)))
(.blk 1 (.seq (.reg false [
mV 19 4, ⟨some 20, none, [], .bin .no .sub (.k (.it .i64 65535)) (.t 19)⟩, ⟨some 21, none, [], .mnx false (.k (.it .i64 16000)) (.t 20)⟩, mV 5 21] [])
(.seq (.seq (.reg false [
mV 22 3, mV 23 5, ⟨some 24, none, [], .mks 1 1 [(.it .u8 0)] (.t 23) (.t 23)⟩, ⟨some 25, none, [], .bld [(.it .i64 0), (.it .i64 0), (.it .i64 0), .ns] [(2, 1, (.k (.it .i64 1))), (3, 1, (.t 24))]⟩, cP 26 24 [(.k .ns), (.t 25)], cR 27 17 [(.t 22), (.t 26)], lN 28 false 27, ⟨some 29, none, [], .bin .no .neq (.t 28) (.k (.it .i64 1))⟩] [])
(.cond (.t 29)
(.seq (.reg false [
mK 2 (.bo false)] [])
.ret)
.skip))
(.reg false [
mV 30 4, mV 31 5, ⟨some 32, none, [], .bin .no .add (.t 30) (.t 31)⟩, mV 4 32] [])))))))
(.seq (.reg false [
mV 33 0, cP 34 25 [(.t 33), (.k (.it .i64 1)), (.k (.it .i64 100))], mV 6 34] [])
(.seq (.reg false [
mV 35 3, mV 36 6, ⟨some 37, none, [], .mks 1 1 [(.it .u8 0)] (.t 36) (.t 36)⟩, ⟨some 38, none, [], .bld [(.it .i64 0), (.it .i64 0), (.it .i64 0), .ns] [(2, 1, (.k (.it .i64 1))), (3, 1, (.t 37))]⟩, cP 39 24 [(.k .ns), (.t 38)], cR 40 17 [(.t 35), (.t 39)], mV 7 40] [])
(.seq (.reg false [
mV 41 7, ⟨some 42, none, [], .bld [(.it .i64 0), (.it .i64 0), .ns, (.st []), (.bo false), (.it .i64 0)] [(0, 1, (.k (.it .i64 6))), (5, 1, (.k (.it .i64 3)))]⟩, ⟨some 43, none, [], .bsl 6 [[(.it .i64 0), (.it .i64 0), .ns, (.st []), (.bo false), (.it .i64 0)]] [(0, (.t 42))]⟩, cP 44 21 [(.t 41), (.t 43)], mV 45 44, ⟨some 46, some (45, true), [], .mov (.t 3)⟩, ⟨some 47, some (45, true), [], .call false .rw 22 [(.t 46)]⟩, ⟨some 48, none, [], .pick (.t 45) (.t 47) (.k (.bo false))⟩, mV 49 48, ⟨some 50, some (49, true), [], .call false .pure 3 []⟩, ⟨some 51, none, [], .pick (.t 49) (.t 50) (.k (.bo false))⟩, mV 2 51] [])
.ret)))))))))⟩
def c5 : Ev.Fn := d5.den
def p5 : Pol := { loc := [], md := .pure, mds := mds, heap := [43], own := [], ord := [], clr := [], mask := [(6, [0, 3, 4], [])], fns := [], lcl := [] }
theorem r5 : FnOK Tryz.prog mds 5 c5 := .read (pol := p5) (d := d5) Tryz.func5 (by kernel_rfl) (by kernel_rfl) rfl rfl (by kernel_rfl)

def d6 : DFn := ⟨[(.c .one), (.c (.sl [.one])), (.c .one)], [(.c .one)], .pure, [.tmp 6],
(.seq (.reg false [
mK 6 (.bo false)] [])
(.seq (.reg false [
cP 15 11 [], cR 16 23 [(.t 15)], mV 7 16] [])
(.seq (.seq (.reg false [
mV 17 7, ⟨some 18, none, [], .bin .ptr .eql (.t 17) (.k .np)⟩] [])
(.cond (.t 18)
(.seq (.reg false [
mK 6 (.bo false)] [])
.ret)
.skip))
(.seq (.reg false [
mV 19 0, cP 20 25 [(.t 19), (.k (.it .i64 0)), (.k (.it .i64 5000))], mV 8 20] [])
(.seq (.reg false [
mV 21 2, cP 22 25 [(.t 21), (.k (.it .i64 1)), (.k (.it .i64 8000))], ⟨some 23, none, [], .mks 1 1 [(.it .u8 0)] (.t 22) (.t 22)⟩, ⟨some 24, none, [], .cnv .b2s (.t 23)⟩, mV 9 24] [])
(.seq (.reg false [
mV 25 8, ⟨some 26, none, [], .bin .no .shr (.t 25) (.k (.it .u64 8))⟩, cV 27 .u8 26, mV 28 8, cV 29 .u8 28, ⟨some 30, none, [], .bsv [.one] 1 (List.replicate 6 [(.it .u8 0)]) [(0, (.k (.it .u8 0))), (1, (.k (.it .u8 4))), (2, (.k (.it .u8 0))), (3, (.k (.it .u8 0))), (4, (.t 27)), (5, (.t 29))]⟩, ⟨some 31, none, [], .bld [(.it .i64 0), (.it .i64 0), (.it .i64 0), .ns] [(0, 1, (.k (.it .i64 4))), (3, 1, (.t 30))]⟩, ⟨some 10, none, [], .alc [(.it .i64 0), (.it .i64 0), (.it .i64 0), .ns]⟩, sO 4 10 31] [])
(.seq (.reg false [
mV 32 7, lQ 33 4 10, cP 34 24 [(.k .ns), (.t 33)], cR 35 17 [(.t 32), (.t 34)]] [])
(.seq (.reg false [
mV 36 7, ⟨some 37, none, [], .bsv [.one] 1 [[(.it .u8 0)]] [(0, (.k (.it .u8 130)))]⟩, ⟨some 38, none, [], .bld [(.it .i64 0), (.it .i64 0), (.it .i64 0), .ns] [(0, 1, (.k (.it .i64 1))), (1, 1, (.k (.it .i64 5))), (2, 1, (.k (.it .i64 1))), (3, 1, (.t 37))]⟩, cP 39 24 [(.k .ns), (.t 38)], cR 40 17 [(.t 36), (.t 39)]] [])
(.seq (.seq (.reg false [
mV 41 7, ⟨some 42, none, [], .call false .pure 16 [(.k (.st [58, 115, 116, 97, 116, 117, 115])), (.k (.st [50, 48, 48]))]⟩, ⟨some 43, none, [], .bsv [.one, .one, .one] 3 [[(.st []), (.st []), (.it .i64 0)]] [(0, (.t 42))]⟩, cR 44 18 [(.t 41), (.k (.it .i64 1)), (.t 43), (.k (.bo false))], ⟨some 45, none, [], .un .not (.t 44)⟩] [])
(.cond (.t 45)
(.seq (.reg false [
mK 6 (.bo false)] [])
.ret)
.skip))
(.seq (.seq (.reg false [
mK 11 (.it .i64 (-1))] [])
(.blk 0 (.loop [1, 7, 8, 9, 11] [10]
(.seq (.seq (.reg false [
mV 46 11, mV 47 1, lN 48 false 47, ⟨some 49, none, [], .bin .no .lss (.t 46) (.t 48)⟩, mV 50 49, ⟨some 51, some (50, true), [], .mov (.t 11)⟩, ⟨some 52, some (50, true), [], .bin .no .lss (.t 51) (.k (.it .i64 20))⟩, ⟨some 53, none, [], .pick (.t 50) (.t 52) (.k (.bo false))⟩] [])
(.cond (.t 53)
.skip
(.exit 0)))
(.seq (.blk 1 (.seq (.seq (.reg false [
mV 56 11, ⟨some 57, none, [], .bin .no .geq (.t 56) (.k (.it .i64 0))⟩] [])
(.cond (.t 57)
(.seq (.reg false [
mV 58 1, mV 59 11, ⟨some 60, none, [], .ias 1 (.t 58) (.t 59)⟩, lD 61 1 60, cP 62 25 [(.t 61), (.k (.it .i64 1)), (.k (.it .i64 2000))], mV 12 62] [])
(.seq (.reg false [
mV 63 7, mV 64 12, ⟨some 65, none, [], .bin .no .shr (.t 64) (.k (.it .u64 8))⟩, cV 66 .u8 65, mV 67 12, cV 68 .u8 67, ⟨some 69, none, [], .bsv [.one] 1 (List.replicate 4 [(.it .u8 0)]) [(0, (.k (.it .u8 0))), (1, (.k (.it .u8 0))), (2, (.t 66)), (3, (.t 68))]⟩, ⟨some 70, none, [], .bld [(.it .i64 0), (.it .i64 0), (.it .i64 0), .ns] [(0, 1, (.k (.it .i64 8))), (2, 1, (.k (.it .i64 1))), (3, 1, (.t 69))]⟩, cP 71 24 [(.k .ns), (.t 70)], cR 72 17 [(.t 63), (.t 71)]] [])
(.reg false [
mV 73 8, mV 74 12, ⟨some 75, none, [], .bin .no .add (.t 73) (.t 74)⟩, mV 8 75] [])))
.skip))
(.seq (.reg false [
mV 77 7, mV 78 9, cR 79 19 [(.t 77), (.k (.it .i64 1)), (.t 78), (.k (.bo false))], mV 76 79, eX 80 76 0, eX 81 76 1, mV 13 80, mV 14 81] [])
(.seq (.seq (.reg false [
mV 82 14, ⟨some 83, none, [], .un .not (.t 82)⟩, mV 84 83, ⟨some 85, some (84, false), [], .mov (.t 13)⟩, ⟨some 86, some (84, false), [], .mov (.t 8)⟩, ⟨some 87, some (84, false), [], .mov (.t 9)⟩, ⟨some 88, some (84, false), [], .len true (.t 87)⟩, ⟨some 89, some (84, false), [], .mnx false (.t 86) (.t 88)⟩, ⟨some 90, some (84, false), [], .bin .no .neq (.t 85) (.t 89)⟩, ⟨some 91, none, [], .pick (.t 84) (.k (.bo true)) (.t 90)⟩] [])
(.cond (.t 91)
(.seq (.reg false [
mK 6 (.bo false)] [])
.ret)
.skip))
(.reg true [
mV 92 8, mV 93 13, ⟨some 94, none, [], .bin .no .sub (.t 92) (.t 93)⟩, mV 95 9, mV 96 13, ⟨some 97, none, [], .slc true 0 (.t 95) (some (.t 96)) none⟩, mV 8 94, mV 9 97] [])))))
(.reg false [
mV 54 11, ⟨some 55, none, [], .bin .no .add (.t 54) (.k (.it .i64 1))⟩, mV 11 55] []))))))
(.seq (.reg false [
cP 98 3 [], mV 6 98] [])
.ret)))))))))))⟩
def c6 : Ev.Fn := d6.den
def p6 : Pol := { loc := [10], md := .pure, mds := mds, heap := [], own := [], ord := [], clr := [], mask := [(12, [1, 7, 8, 9, 11], [10])], fns := [], lcl := [] }
theorem r6 : FnOK Tryz.prog mds 6 c6 := .read (pol := p6) (d := d6) Tryz.func6 (by kernel_rfl) (by kernel_rfl) rfl rfl (by kernel_rfl)

def d7 : DFn := ⟨[(.c .one), (.c .one)], [(.c .one)], .pure, [.tmp 4],
(.seq (.reg false [
mK 4 (.bo false)] [])
(.seq (.reg false [
cP 8 11 [], cR 9 23 [(.t 8)], mV 5 9] [])
(.seq (.seq (.reg false [
mV 10 5, ⟨some 11, none, [], .bin .ptr .eql (.t 10) (.k .np)⟩] [])
(.cond (.t 11)
(.seq (.reg false [
mK 4 (.bo false)] [])
.ret)
.skip))
(.seq (.reg false [
mV 12 5, ⟨some 13, none, [], .bsv [.one] 1 [[(.it .u8 0)]] [(0, (.k (.it .u8 130)))]⟩, ⟨some 14, none, [], .bld [(.it .i64 0), (.it .i64 0), (.it .i64 0), .ns] [(0, 1, (.k (.it .i64 1))), (1, 1, (.k (.it .i64 4))), (2, 1, (.k (.it .i64 1))), (3, 1, (.t 13))]⟩, cP 15 24 [(.k .ns), (.t 14)], cR 16 17 [(.t 12), (.t 15)]] [])
(.seq (.seq (.reg false [
mV 17 5, cR 18 26 [(.t 17), (.k (.it .i64 1)), (.k (.it .i64 8))], ⟨some 19, none, [], .un .not (.t 18)⟩] [])
(.cond (.t 19)
(.seq (.reg false [
mK 4 (.bo false)] [])
.ret)
.skip))
(.seq (.seq (.reg false [
mV 20 0, cP 21 25 [(.t 20), (.k (.it .i64 1)), (.k (.it .i64 20))], mV 6 21] [])
(.blk 0 (.loop [1, 5, 6] [7]
(.seq (.seq (.reg false [
mV 22 6, ⟨some 23, none, [], .bin .no .gtr (.t 22) (.k (.it .i64 0))⟩] [])
(.cond (.t 23)
.skip
(.exit 0)))
(.seq (.blk 1 (.seq (.reg false [
mV 26 1, ⟨some 27, none, [], .bsl 1 [[(.it .u8 0)]] [(0, (.t 26))]⟩, ⟨some 28, none, [], .apz (.t 27) (.k (.it .i64 16000))⟩, ⟨some 29, none, [], .bld [(.it .i64 0), (.it .i64 0), (.it .i64 0), .ns] [(2, 1, (.k (.it .i64 1))), (1, 1, (.k (.it .i64 8))), (3, 1, (.t 28))]⟩, ⟨some 7, none, [], .alc [(.it .i64 0), (.it .i64 0), (.it .i64 0), .ns]⟩, sO 4 7 29] [])
(.seq (.seq (.reg false [
mV 30 5, lQ 31 4 7, cP 32 24 [(.k .ns), (.t 31)], cR 33 17 [(.t 30), (.t 32)], lN 34 false 33, ⟨some 35, none, [], .bin .no .neq (.t 34) (.k (.it .i64 0))⟩, mV 36 35, ⟨some 37, some (36, false), [], .mov (.t 5)⟩, ⟨some 38, some (36, false), [], .call false .rw 22 [(.t 37)]⟩, ⟨some 39, none, [], .pick (.t 36) (.k (.bo true)) (.t 38)⟩] [])
(.cond (.t 39)
(.seq (.reg false [
mK 4 (.bo false)] [])
.ret)
.skip))
(.reg false [
mV 40 5, cR 41 13 [(.t 40), (.k (.it .i64 1048576))]] []))))
(.reg false [
mV 24 6, ⟨some 25, none, [], .bin .no .sub (.t 24) (.k (.it .i64 1))⟩, mV 6 25] []))))))
(.seq (.reg false [
mV 42 5, cR 43 22 [(.t 42)], ⟨some 44, none, [], .un .not (.t 43)⟩, mV 45 44, ⟨some 46, some (45, true), [], .call false .pure 3 []⟩, ⟨some 47, none, [], .pick (.t 45) (.t 46) (.k (.bo false))⟩, mV 4 47] [])
.ret)))))))⟩
def c7 : Ev.Fn := d7.den
def p7 : Pol := { loc := [7], md := .pure, mds := mds, heap := [27], own := [27], ord := [(10, [0, 4, 1, 2, 3, 5])], clr := [], mask := [(8, [1, 5, 6], [7])], fns := [], lcl := [] }
theorem r7 : FnOK Tryz.prog mds 7 c7 := .read (pol := p7) (d := d7) Tryz.func7 (by kernel_rfl) (by kernel_rfl) rfl rfl (by kernel_rfl)

def d8 : DFn := ⟨[(.c .one), (.c .one)], [(.c .one)], .pure, [.tmp 4],
(.seq (.reg false [
mK 4 (.bo false)] [])
(.seq (.reg false [
mV 13 0, cP 14 25 [(.t 13), (.k (.it .i64 1)), (.k (.it .i64 9))], mV 15 1, cP 16 25 [(.t 15), (.k (.it .i64 0)), (.k (.it .i64 20))], mV 5 14, mV 6 16] [])
(.seq (.reg false [
mV 17 5, ⟨some 18, none, [], .bld [(.it .i64 0), (.it .i64 0), (.it .i64 0)] [(0, 1, (.t 17)), (1, 1, (.k (.it .i64 65535))), (2, 1, (.k (.it .i64 65536)))]⟩, cR 19 23 [(.t 18)], mV 7 19] [])
(.seq (.seq (.reg false [
mV 20 7, ⟨some 21, none, [], .bin .ptr .eql (.t 20) (.k .np)⟩] [])
(.cond (.t 21)
(.seq (.reg false [
mK 4 (.bo false)] [])
.ret)
.skip))
(.seq (.reg false [
mK 8 (.it .i64 0)] [])
(.seq (.reg false [
mK 9 .ns] [])
(.seq (.seq (.reg false [
mK 10 (.it .i64 0)] [])
(.blk 0 (.loop [5, 6, 7, 8, 9, 10] []
(.seq (.seq (.reg false [
mV 22 10, mV 23 6, ⟨some 24, none, [], .bin .no .lss (.t 22) (.t 23)⟩] [])
(.cond (.t 24)
.skip
(.exit 0)))
(.seq (.blk 1 (.seq (.reg false [
mV 27 8, mV 28 7, mV 29 10, ⟨some 30, none, [], .bin .no .mul (.k (.it .i64 2)) (.t 29)⟩, ⟨some 31, none, [], .bin .no .add (.t 30) (.k (.it .i64 1))⟩, ⟨some 32, none, [], .bsv [.one] 1 [[(.it .u8 0)]] [(0, (.k (.it .u8 130)))]⟩, ⟨some 33, none, [], .bld [(.it .i64 0), (.it .i64 0), (.it .i64 0), .ns] [(0, 1, (.k (.it .i64 1))), (1, 1, (.k (.it .i64 4))), (2, 1, (.t 31)), (3, 1, (.t 32))]⟩, cP 34 24 [(.k .ns), (.t 33)], cR 35 17 [(.t 28), (.t 34)], lN 36 false 35, ⟨some 37, none, [], .bin .no .add (.t 27) (.t 36)⟩, mV 8 37] [])
(.seq (.reg false [
mV 38 10, mV 39 5, ⟨some 40, none, [], .bin .no .geq (.t 38) (.t 39)⟩] [])
(.cond (.t 40)
(.reg false [
mV 41 9, mV 42 10, ⟨some 43, none, [], .bin .no .mul (.k (.it .i64 2)) (.t 42)⟩, ⟨some 44, none, [], .bin .no .add (.t 43) (.k (.it .i64 1))⟩, ⟨some 45, none, [], .bsv [.one] 1 (List.replicate 4 [(.it .u8 0)]) [(0, (.k (.it .u8 0))), (1, (.k (.it .u8 0))), (2, (.k (.it .u8 0))), (3, (.k (.it .u8 7)))]⟩, ⟨some 46, none, [], .bld [(.it .i64 0), (.it .i64 0), (.it .i64 0), .ns] [(0, 1, (.k (.it .i64 3))), (2, 1, (.t 44)), (3, 1, (.t 45))]⟩, cP 47 24 [(.t 41), (.t 46)], mV 9 47] [])
.skip))))
(.reg false [
mV 25 10, ⟨some 26, none, [], .bin .no .add (.t 25) (.k (.it .i64 1))⟩, mV 10 26] []))))))
(.seq (.reg false [
mV 49 7, cR 50 27 [(.t 49)], mV 48 50, eX 51 48 0, eX 52 48 1, mV 11 51, mV 12 52] [])
(.seq (.reg false [
mV 53 8, mV 54 5, mV 55 6, ⟨some 56, none, [], .mnx false (.t 54) (.t 55)⟩, ⟨some 57, none, [], .bin .no .eql (.t 53) (.t 56)⟩, mV 58 57, ⟨some 59, some (58, true), [], .mov (.t 11)⟩, ⟨some 60, some (58, true), [], .len false (.t 59)⟩, ⟨some 61, some (58, true), [], .mov (.t 5)⟩, ⟨some 62, some (58, true), [], .mov (.t 6)⟩, ⟨some 63, some (58, true), [], .mnx false (.t 61) (.t 62)⟩, ⟨some 64, some (58, true), [], .bin .no .eql (.t 60) (.t 63)⟩, ⟨some 65, none, [], .pick (.t 58) (.t 64) (.k (.bo false))⟩, mV 66 65, ⟨some 67, some (66, true), [], .mov (.t 7)⟩, ⟨some 68, some (66, true), [], .call false .rw 13 [(.t 67), (.k (.it .i64 1048576))]⟩, ⟨some 69, some (66, true), [], .mov (.t 9)⟩, ⟨some 70, some (66, true), [], .call false .pure 12 [(.t 68), (.t 69)]⟩, ⟨some 71, none, [], .pick (.t 66) (.t 70) (.k (.bo false))⟩, mV 72 71, ⟨some 73, some (72, true), [], .call false .pure 3 []⟩, ⟨some 74, none, [], .pick (.t 72) (.t 73) (.k (.bo false))⟩, mV 4 74] [])
.ret)))))))))⟩
def c8 : Ev.Fn := d8.den
def p8 : Pol := { loc := [], md := .pure, mds := mds, heap := [], own := [], ord := [(1, [0, 2, 1, 3, 4, 5]), (14, [0, 1, 2, 3, 4, 5, 6, 7, 8, 9, 10, 11, 12, 13, 14, 16, 15, 17, 18, 19, 20, 21, 22])], clr := [], mask := [(8, [5, 6, 7, 8, 9, 10], [])], fns := [], lcl := [] }
theorem r8 : FnOK Tryz.prog mds 8 c8 := .read (pol := p8) (d := d8) Tryz.func8 (by kernel_rfl) (by kernel_rfl) rfl rfl (by kernel_rfl)

def d9 : DFn := ⟨[(.c .one), (.c (.sl [.one, .one, .one, .one, .one, .one, (.sl [.one]), (.sl [.one]), (.sl [.one, .one, .one]), .one, .one]))], [(.c .one)], .pure, [.tmp 4],
(.seq (.reg false [
mK 4 (.bo false)] [])
(.seq (.reg false [
cP 13 11 [], cR 14 23 [(.t 13)], mV 5 14] [])
(.seq (.seq (.reg false [
mV 15 5, ⟨some 16, none, [], .bin .ptr .eql (.t 15) (.k .np)⟩] [])
(.cond (.t 16)
(.seq (.reg false [
mK 4 (.bo false)] [])
.ret)
.skip))
(.seq (.reg false [
mV 17 0, ⟨some 18, none, [], .bin .no .and (.t 17) (.k (.it .u8 15))⟩, cV 19 .i64 18, mV 6 19] [])
(.seq (.reg false [
mV 20 5, ⟨some 21, none, [], .bsv [.one] 1 [[(.it .u8 0)]] [(0, (.k (.it .u8 130)))]⟩, ⟨some 22, none, [], .bld [(.it .i64 0), (.it .i64 0), (.it .i64 0), .ns] [(0, 1, (.k (.it .i64 1))), (1, 1, (.k (.it .i64 4))), (2, 1, (.k (.it .i64 5))), (3, 1, (.t 21))]⟩, cP 23 24 [(.k .ns), (.t 22)], cR 24 17 [(.t 20), (.t 23)]] [])
(.seq (.seq (.reg false [
mV 25 5, mV 26 6, cR 27 28 [(.t 25), (.t 26)], ⟨some 28, none, [], .un .not (.t 27)⟩, mV 29 28, ⟨some 30, some (29, false), [], .mov (.t 5)⟩, ⟨some 31, some (29, false), [], .mov (.t 6)⟩, ⟨some 32, some (29, false), [], .call false .rw 28 [(.t 30), (.t 31)]⟩, ⟨some 33, none, [], .pick (.t 29) (.k (.bo true)) (.t 32)⟩] [])
(.cond (.t 33)
(.seq (.reg false [
mK 4 (.bo false)] [])
.ret)
.skip))
(.seq (.reg false [
mV 34 5, cR 35 29 [(.t 34)], mV 7 35] [])
(.seq (.seq (.reg false [
mK 8 (.it .i64 0)] [])
(.blk 0 (.loop [1, 5, 6, 7, 8] [9]
(.seq (.seq (.reg false [
mV 36 8, mV 37 1, lN 38 false 37, ⟨some 39, none, [], .bin .no .lss (.t 36) (.t 38)⟩, mV 40 39, ⟨some 41, some (40, true), [], .mov (.t 8)⟩, ⟨some 42, some (40, true), [], .bin .no .lss (.t 41) (.k (.it .i64 20))⟩, ⟨some 43, none, [], .pick (.t 40) (.t 42) (.k (.bo false))⟩] [])
(.cond (.t 43)
.skip
(.exit 0)))
(.seq (.blk 1 (.seq (.reg false [
mV 46 1, mV 47 8, ⟨some 48, none, [], .ias 11 (.t 46) (.t 47)⟩, lQ 49 11 48, ⟨some 9, none, [], .alc [(.it .i64 0), (.it .i64 0), (.it .i64 0), (.it .i64 0), (.it .i64 0), (.it .i64 0), .ns, .ns, .ns, (.st []), (.bo false)]⟩, sO 11 9 49] [])
(.seq (.seq (.reg false [
lQ 50 11 9, cP 51 30 [(.t 50)], ⟨some 52, none, [], .un .not (.t 51)⟩] [])
(.cond (.t 52)
(.exit 1)
.skip))
(.seq (.reg false [
mV 53 5, fA 54 7 9, lD 55 1 54, cR 56 17 [(.t 53), (.t 55)], lN 57 false 56, ⟨some 58, none, [], .bin .no .neq (.t 57) (.k (.it .i64 0))⟩, mV 59 58, ⟨some 60, some (59, false), [], .mov (.t 5)⟩, ⟨some 61, some (59, false), [], .fad 8 (.t 9)⟩, ⟨some 62, some (59, false), [], .ld 1 false (.t 61)⟩, ⟨some 63, some (59, false), [], .fad 10 (.t 9)⟩, ⟨some 64, some (59, false), [], .ld 1 false (.t 63)⟩, ⟨some 65, some (59, false), [], .call false .rw 18 [(.t 60), (.k (.it .i64 5)), (.t 62), (.t 64)]⟩, ⟨some 66, none, [], .pick (.t 59) (.k (.bo true)) (.t 65)⟩, mV 67 66, ⟨some 68, some (67, false), [], .mov (.t 5)⟩, ⟨some 69, some (67, false), [], .mov (.t 6)⟩, ⟨some 70, some (67, false), [], .call false .rw 26 [(.t 68), (.k (.it .i64 5)), (.t 69)]⟩, ⟨some 71, none, [], .pick (.t 67) (.k (.bo true)) (.t 70)⟩, mV 72 71, ⟨some 73, some (72, false), [], .mov (.t 5)⟩, ⟨some 74, some (72, false), [], .call false .rw 31 [(.t 73), (.k (.it .i64 5)), (.k (.it .i64 1))]⟩, ⟨some 75, none, [], .pick (.t 72) (.k (.bo true)) (.t 74)⟩] [54, 61, 63])
(.cond (.t 75)
(.seq (.reg false [
mK 4 (.bo false)] [])
.ret)
.skip)))))
(.reg false [
mV 44 8, ⟨some 45, none, [], .bin .no .add (.t 44) (.k (.it .i64 1))⟩, mV 8 45] []))))))
(.seq (.reg false [
mV 76 6, cV 77 .u8 76, ⟨some 78, none, [], .bsv [.one] 1 (List.replicate 8 [(.it .u8 0)]) [(0, (.k (.it .u8 0))), (1, (.k (.it .u8 0))), (2, (.k (.it .u8 0))), (3, (.k (.it .u8 5))), (4, (.k (.it .u8 0))), (5, (.k (.it .u8 0))), (6, (.k (.it .u8 0))), (7, (.t 77))]⟩, ⟨some 79, none, [], .bld [(.it .i64 0), (.it .i64 0), (.it .i64 0), .ns] [(0, 1, (.k (.it .i64 7))), (3, 1, (.t 78))]⟩, cP 80 24 [(.k .ns), (.t 79)], mV 10 80] [])
(.seq (.reg false [
mV 82 5, cR 83 27 [(.t 82)], mV 81 83, eX 84 81 0, eX 85 81 1, mV 11 84, mV 12 85] [])
(.seq (.reg false [
mV 86 5, cR 87 29 [(.t 86)], mV 88 7, ⟨some 89, none, [], .bin .no .eql (.t 87) (.t 88)⟩, mV 90 89, ⟨some 91, some (90, true), [], .mov (.t 5)⟩, ⟨some 92, some (90, true), [], .call false .rw 22 [(.t 91)]⟩, ⟨some 93, none, [], .pick (.t 90) (.t 92) (.k (.bo false))⟩, mV 94 93, ⟨some 95, some (94, true), [], .mov (.t 11)⟩, ⟨some 96, some (94, true), [], .len false (.t 95)⟩, ⟨some 97, some (94, true), [], .bin .no .eql (.t 96) (.k (.it .i64 0))⟩, ⟨some 98, none, [], .pick (.t 94) (.t 97) (.k (.bo false))⟩, mV 99 98, ⟨some 100, some (99, true), [], .mov (.t 5)⟩, ⟨some 101, some (99, true), [], .call false .rw 13 [(.t 100), (.k (.it .i64 1048576))]⟩, ⟨some 102, some (99, true), [], .mov (.t 10)⟩, ⟨some 103, some (99, true), [], .call false .pure 12 [(.t 101), (.t 102)]⟩, ⟨some 104, none, [], .pick (.t 99) (.t 103) (.k (.bo false))⟩, mV 105 104, ⟨some 106, some (105, true), [], .call false .pure 3 []⟩, ⟨some 107, none, [], .pick (.t 105) (.t 106) (.k (.bo false))⟩, mV 4 107] [])
.ret)))))))))))⟩
def c9 : Ev.Fn := d9.den
def p9 : Pol := { loc := [9], md := .pure, mds := mds, heap := [], own := [], ord := [(18, [0, 2, 1, 3, 4, 5, 6, 7, 8, 9, 10, 11, 12, 13, 14, 16, 15, 17, 18, 19, 20, 21, 22])], clr := [(14, [54, 61, 63])], mask := [(10, [1, 5, 6, 7, 8], [9])], fns := [], lcl := [] }
theorem r9 : FnOK Tryz.prog mds 9 c9 := .read (pol := p9) (d := d9) Tryz.func9 (by kernel_rfl) (by kernel_rfl) rfl rfl (by kernel_rfl)

def d10 : DFn := ⟨[(.c .one), (.g [.one, .one, .one])], [(.c .one), (.c .one)], .rw, [.tmp 4, .tmp 5],
(.seq (.reg false [
⟨some 3, none, [], .box (.t 1)⟩, mK 4 .np, mK 5 (.it .i64 0)] [])
(.seq (.seq (.reg false [
fA 8 0 3, lD 9 1 8, cP 10 32 [(.t 9), (.k (.it .i64 1)), (.k (.it .i64 100))], ⟨some 11, none, [], .un .not (.t 10)⟩, mV 12 11, ⟨some 13, some (12, false), [], .fad 1 (.t 3)⟩, ⟨some 14, some (12, false), [], .ld 1 false (.t 13)⟩, ⟨some 15, some (12, false), [], .call false .pure 32 [(.t 14), (.k (.it .i64 65535)), (.k (.it .i64 2147483647))]⟩, ⟨some 16, some (12, false), [], .un .not (.t 15)⟩, ⟨some 17, none, [], .pick (.t 12) (.k (.bo true)) (.t 16)⟩, mV 18 17, ⟨some 19, some (18, false), [], .fad 2 (.t 3)⟩, ⟨some 20, some (18, false), [], .ld 1 false (.t 19)⟩, ⟨some 21, some (18, false), [], .call false .pure 32 [(.t 20), (.k (.it .i64 1)), (.k (.it .i64 1048576))]⟩, ⟨some 22, some (18, false), [], .un .not (.t 21)⟩, ⟨some 23, none, [], .pick (.t 18) (.k (.bo true)) (.t 22)⟩] [8, 13, 19])
(.cond (.t 23)
(.seq (.reg false [
mK 4 .np, mK 5 (.it .i64 1)] [])
.ret)
.skip))
(.seq (.reg true [
mV 24 0, lQ 25 3 3, cP 26 33 [], ⟨some 27, none, [], .bld [(.bo false), (.it .i64 0), (.it .i64 0), (.it .i64 0), (.it .i64 0), (.it .i64 0), (.it .i64 0), (.it .i64 0), (.it .i64 0), .np, .np, .np, .ns, (.it .i64 0), (.it .i64 0), .ns, (.it .i64 0), (.it .i64 0), .ns, (.it .i64 0), (.bo false), .ns, (.bo false), (.bo false), (.bo false), .ns] [(0, 1, (.t 24)), (1, 3, (.t 25)), (4, 5, (.t 26)), (17, 1, (.k (.it .i64 1)))]⟩, ⟨some 28, none, [], .bxh (.t 27)⟩, mV 6 28] [])
(.seq (.reg false [
mV 30 6, mV 31 0, ⟨some 32, none, [], .call true .rw 34 [(.k (.it .i64 16384)), (.t 31)]⟩, mV 29 32, eX 33 29 0, eX 34 29 1, nK 35 30, fA 36 9 35, sO 1 36 33] [])
(.seq (.reg false [
mV 38 6, fA 39 2 3, lD 40 1 39, ⟨some 41, none, [], .call true .rw 35 [(.k (.it .i64 4096)), (.t 40)]⟩, mV 37 41, eX 42 37 0, eX 43 37 1, nK 44 38, fA 45 10 44, sO 1 45 42] [39])
(.seq (.reg false [
mV 47 6, ⟨some 48, none, [], .call true .rw 36 [(.k (.it .i64 4096))]⟩, mV 46 48, eX 49 46 0, eX 50 46 1, nK 51 47, fA 52 11 51, sO 1 52 49] [])
(.seq (.reg false [
mV 54 6, ⟨some 55, none, [], .call true .pure 37 [(.k (.it .i64 65535))]⟩, mV 53 55, eX 56 53 0, eX 57 53 1, nK 58 54, fA 59 13 58, sO 1 59 56] [])
(.seq (.reg false [
mV 61 6, ⟨some 62, none, [], .call true .pure 37 [(.k (.it .i64 65535))]⟩, mV 60 62, eX 63 60 0, eX 64 60 1, nK 65 61, fA 66 14 65, sO 1 66 63] [])
(.seq (.reg false [
fA 67 0 3, lD 68 1 67, ⟨some 69, none, [], .bld [(.it .i64 0), (.it .i64 0)] [(0, 1, (.k (.it .i64 3))), (1, 1, (.t 68))]⟩, fA 70 1 3, lD 71 1 70, ⟨some 72, none, [], .bld [(.it .i64 0), (.it .i64 0)] [(0, 1, (.k (.it .i64 4))), (1, 1, (.t 71))]⟩, fA 73 2 3, lD 74 1 73, ⟨some 75, none, [], .bld [(.it .i64 0), (.it .i64 0)] [(0, 1, (.k (.it .i64 6))), (1, 1, (.t 74))]⟩, ⟨some 76, none, [], .bsv [.one, .one] 2 [[(.it .i64 0), (.it .i64 0)], [(.it .i64 0), (.it .i64 0)], [(.it .i64 0), (.it .i64 0)]] [(0, (.t 69)), (1, (.t 72)), (2, (.t 75))]⟩, mV 7 76] [67, 70, 73])
(.seq (.seq (.reg false [
mV 77 0, ⟨some 78, none, [], .un .not (.t 77)⟩] [])
(.cond (.t 78)
(.seq (.reg false [
mV 79 6, ⟨some 80, none, [], .bsl 1 (List.replicate 24 [(.it .u8 0)]) [(0, (.k (.it .u8 80))), (1, (.k (.it .u8 82))), (2, (.k (.it .u8 73))), (3, (.k (.it .u8 32))), (4, (.k (.it .u8 42))), (5, (.k (.it .u8 32))), (6, (.k (.it .u8 72))), (7, (.k (.it .u8 84))), (8, (.k (.it .u8 84))), (9, (.k (.it .u8 80))), (10, (.k (.it .u8 47))), (11, (.k (.it .u8 50))), (12, (.k (.it .u8 46))), (13, (.k (.it .u8 48))), (14, (.k (.it .u8 13))), (15, (.k (.it .u8 10))), (16, (.k (.it .u8 13))), (17, (.k (.it .u8 10))), (18, (.k (.it .u8 83))), (19, (.k (.it .u8 77))), (20, (.k (.it .u8 13))), (21, (.k (.it .u8 10))), (22, (.k (.it .u8 13))), (23, (.k (.it .u8 10)))]⟩, ⟨some 81, none, [], .mrk (.t 80)⟩, nK 82 79, fA 83 12 82, sO 1 83 81] [])
(.reg false [
⟨some 84, none, [], .bld [(.it .i64 0), (.it .i64 0)] [(0, 1, (.k (.it .i64 2)))]⟩, ⟨some 85, none, [], .bsl 2 [[(.it .i64 0), (.it .i64 0)]] [(0, (.t 84))]⟩, mV 86 7, ⟨some 87, none, [], .app 2 16 (.t 85) (.t 86)⟩, mV 7 87] []))
.skip))
(.seq (.reg true [
mV 88 6, mV 89 6, nK 90 89, fA 91 12 90, lD 92 1 91, mV 93 7, cP 94 38 [(.t 93)], ⟨some 95, none, [], .bld [(.it .i64 0), (.it .i64 0), (.it .i64 0), .ns] [(0, 1, (.k (.it .i64 4))), (3, 1, (.t 94))]⟩, ⟨some 96, none, [], .call true .pure 20 [(.t 92), (.t 95)]⟩, nK 97 88, fA 98 12 97, sO 1 98 96] [])
(.seq (.reg false [
mV 99 6, mV 4 99, mK 5 (.it .i64 0)] [])
.ret))))))))))))⟩
def c10 : Ev.Fn := d10.den
def p10 : Pol := { loc := [3], md := .rw, mds := mds, heap := [32, 41, 48, 55, 62, 80, 81, 85, 96], own := [32, 41, 48, 55, 62, 80, 81, 85, 96], ord := [(0, [1, 2, 0]), (12, [0, 2, 1, 3, 4])], clr := [(1, [8, 13, 19]), (5, [39]), (9, [67, 70, 73])], mask := [], fns := [], lcl := [] }
theorem r10 : FnOK Tryz.prog mds 10 c10 := .read (pol := p10) (d := d10) Tryz.func10 (by kernel_rfl) (by kernel_rfl) rfl rfl (by kernel_rfl)

def d11 : DFn := ⟨[], [(.g [.one, .one, .one])], .pure, [.cell 0 3 true],
(.seq (.reg false [
⟨some 0, none, [], .alc [(.it .i64 0), (.it .i64 0), (.it .i64 0)]⟩] [])
(.seq (.reg false [
⟨some 1, none, [], .bld [(.it .i64 0), (.it .i64 0), (.it .i64 0)] [(0, 1, (.k (.it .i64 2))), (1, 1, (.k (.it .i64 65535))), (2, 1, (.k (.it .i64 65536)))]⟩, sO 3 0 1] [])
.ret))⟩
def c11 : Ev.Fn := d11.den
def p11 : Pol := { loc := [0], md := .pure, mds := mds, heap := [], own := [], ord := [], clr := [], mask := [], fns := [], lcl := [] }
theorem r11 : FnOK Tryz.prog mds 11 c11 := .read (pol := p11) (d := d11) Tryz.func11 (by kernel_rfl) (by kernel_rfl) rfl rfl (by kernel_rfl)

def d12 : DFn := ⟨[(.c (.sl [.one])), (.c (.sl [.one]))], [(.c .one)], .pure, [.tmp 4],
(.seq (.reg false [
mK 4 (.bo false)] [])
(.seq (.seq (.reg false [
mV 6 0, lN 7 false 6, mV 8 1, lN 9 false 8, ⟨some 10, none, [], .bin .no .neq (.t 7) (.t 9)⟩] [])
(.cond (.t 10)
(.seq (.reg false [
mK 4 (.bo false)] [])
.ret)
.skip))
(.seq (.seq (.reg false [
mK 5 (.it .i64 0)] [])
(.blk 0 (.loop [0, 1, 5] []
(.seq (.seq (.reg false [
mV 11 5, mV 12 0, lN 13 false 12, ⟨some 14, none, [], .bin .no .lss (.t 11) (.t 13)⟩] [])
(.cond (.t 14)
.skip
(.exit 0)))
(.seq (.blk 1 (.seq (.reg true [
mV 17 0, mV 18 5, ⟨some 19, none, [], .ias 1 (.t 17) (.t 18)⟩, lD 20 1 19, mV 21 1, mV 22 5, ⟨some 23, none, [], .ias 1 (.t 21) (.t 22)⟩, lD 24 1 23, ⟨some 25, none, [], .bin .no .neq (.t 20) (.t 24)⟩] [])
(.cond (.t 25)
(.seq (.reg false [
mK 4 (.bo false)] [])
.ret)
.skip)))
(.reg false [
mV 15 5, ⟨some 16, none, [], .bin .no .add (.t 15) (.k (.it .i64 1))⟩, mV 5 16] []))))))
(.seq (.reg false [
mK 4 (.bo true)] [])
.ret))))⟩
def c12 : Ev.Fn := d12.den
def p12 : Pol := { loc := [], md := .pure, mds := mds, heap := [], own := [], ord := [], clr := [], mask := [(4, [0, 1, 5], [])], fns := [], lcl := [] }
theorem r12 : FnOK Tryz.prog mds 12 c12 := .read (pol := p12) (d := d12) Tryz.func12 (by kernel_rfl) (by kernel_rfl) rfl rfl (by kernel_rfl)

def d13 : DFn := ⟨[(.c .one), (.c .one)], [(.c (.sl [.one]))], .rw, [.tmp 4],
(.seq (.reg false [
mK 4 .ns] [])
(.seq (.reg false [
mV 6 1, ⟨some 7, none, [], .mnx true (.t 6) (.k (.it .i64 0))⟩, mV 8 0, nK 9 8, fA 10 12 9, lD 11 1 10, lN 12 false 11, ⟨some 13, none, [], .mnx false (.t 7) (.t 12)⟩, mV 1 13] [])
(.seq (.reg false [
mV 14 0, nK 15 14, fA 16 12 15, lD 17 1 16, mV 18 1, ⟨some 19, none, [], .slc false 1 (.t 17) none (some (.t 18))⟩, ⟨some 20, none, [], .app 1 1 (.k .ns) (.t 19)⟩, mV 5 20] [])
(.seq (.reg false [
mV 21 0, mV 22 0, nK 23 22, fA 24 12 23, lD 25 1 24, mV 26 1, ⟨some 27, none, [], .slc false 1 (.t 25) (some (.t 26)) none⟩, ⟨some 28, none, [], .app 1 1 (.k .ns) (.t 27)⟩, nK 29 21, fA 30 12 29, sO 1 30 28] [])
(.seq (.reg false [
mV 31 5, mV 4 31] [])
.ret)))))⟩
def c13 : Ev.Fn := d13.den
def p13 : Pol := { loc := [], md := .rw, mds := mds, heap := [28], own := [28], ord := [], clr := [], mask := [], fns := [], lcl := [] }
theorem r13 : FnOK Tryz.prog mds 13 c13 := .read (pol := p13) (d := d13) Tryz.func13 (by kernel_rfl) (by kernel_rfl) rfl rfl (by kernel_rfl)

def d14 : DFn := ⟨[(.g [.one, .one, .one]), (.g [.one, .one, .one])], [(.c .one), (.c .one)], .rw, [.tmp 4, .tmp 5],
(.seq (.reg false [
⟨some 2, none, [], .box (.t 0)⟩, ⟨some 3, none, [], .box (.t 1)⟩, mK 4 .np, mK 5 .np] [])
(.seq (.reg false [
lQ 12 3 2, cR 13 10 [(.k (.bo true)), (.t 12)], mV 11 13, eX 14 11 0, eX 15 11 1, mV 6 14, mV 7 15] [])
(.seq (.reg false [
lQ 17 3 3, cR 18 10 [(.k (.bo false)), (.t 17)], mV 16 18, eX 19 16 0, eX 20 16 1, mV 8 19, mV 9 20] [])
(.seq (.seq (.reg false [
mV 21 6, ⟨some 22, none, [], .bin .ptr .eql (.t 21) (.k .np)⟩, mV 23 22, ⟨some 24, some (23, false), [], .mov (.t 8)⟩, ⟨some 25, some (23, false), [], .bin .ptr .eql (.t 24) (.k .np)⟩, ⟨some 26, none, [], .pick (.t 23) (.k (.bo true)) (.t 25)⟩, mV 27 26, ⟨some 28, some (27, false), [], .mov (.t 7)⟩, ⟨some 29, some (27, false), [], .bin .no .neq (.t 28) (.k (.it .i64 0))⟩, ⟨some 30, none, [], .pick (.t 27) (.k (.bo true)) (.t 29)⟩, mV 31 30, ⟨some 32, some (31, false), [], .mov (.t 9)⟩, ⟨some 33, some (31, false), [], .bin .no .neq (.t 32) (.k (.it .i64 0))⟩, ⟨some 34, none, [], .pick (.t 31) (.k (.bo true)) (.t 33)⟩] [])
(.cond (.t 34)
(.seq (.reg false [
mK 4 .np, mK 5 .np] [])
.ret)
.skip))
(.seq (.seq (.reg false [
mK 10 (.it .i64 0)] [])
(.blk 0 (.loop [6, 8, 10] [2, 3]
(.seq (.seq (.reg false [
mV 35 10, ⟨some 36, none, [], .bin .no .lss (.t 35) (.k (.it .i64 2))⟩] [])
(.cond (.t 36)
.skip
(.exit 0)))
(.seq (.blk 1 (.seq (.reg false [
mV 39 6, mV 40 8, cR 41 13 [(.t 40), (.k (.it .i64 1000))], cR 42 17 [(.t 39), (.t 41)], lN 43 false 42, ⟨some 44, none, [], .bin .no .neq (.t 43) (.k (.it .i64 0))⟩, mV 45 44, ⟨some 46, some (45, false), [], .mov (.t 8)⟩, ⟨some 47, some (45, false), [], .mov (.t 6)⟩, ⟨some 48, some (45, false), [], .call false .rw 13 [(.t 47), (.k (.it .i64 1000))]⟩, ⟨some 49, some (45, false), [], .call false .rw 17 [(.t 46), (.t 48)]⟩, ⟨some 50, some (45, false), [], .len false (.t 49)⟩, ⟨some 51, some (45, false), [], .bin .no .neq (.t 50) (.k (.it .i64 0))⟩, ⟨some 52, none, [], .pick (.t 45) (.k (.bo true)) (.t 51)⟩] [])
(.cond (.t 52)
(.seq (.reg false [
mK 4 .np, mK 5 .np] [])
.ret)
.skip)))
(.reg false [
mV 37 10, ⟨some 38, none, [], .bin .no .add (.t 37) (.k (.it .i64 1))⟩, mV 10 38] []))))))
(.seq (.reg false [
mV 53 6, mV 54 8, mV 4 53, mV 5 54] [])
.ret))))))⟩
def c14 : Ev.Fn := d14.den
def p14 : Pol := { loc := [2, 3], md := .rw, mds := mds, heap := [], own := [], ord := [(0, [2, 3, 0, 1])], clr := [], mask := [(6, [6, 8, 10], [2, 3])], fns := [], lcl := [] }
theorem r14 : FnOK Tryz.prog mds 14 c14 := .read (pol := p14) (d := d14) Tryz.func14 (by kernel_rfl) (by kernel_rfl) rfl rfl (by kernel_rfl)

def d15 : DFn := ⟨[(.c .one), (.c (.sl [.one, .one, .one])), (.c .one)], [(.c .one), (.c .one)], .rw, [.tmp 6, .tmp 7],
(.seq (.reg false [
mK 6 (.it .i64 0), mK 7 (.bo false)] [])
(.seq (.seq (.reg true [
mV 9 0, nK 10 9, fA 11 24 10, lD 12 1 11, mV 13 12, ⟨some 14, some (13, false), [], .mov (.t 0)⟩, ⟨some 15, some (13, false), [], .nck (.t 14)⟩, ⟨some 16, some (13, false), [], .fad 0 (.t 15)⟩, ⟨some 17, some (13, false), [], .ld 1 false (.t 16)⟩, ⟨some 18, none, [], .pick (.t 13) (.k (.bo true)) (.t 17)⟩, mV 19 18, ⟨some 20, some (19, false), [], .mov (.t 0)⟩, ⟨some 21, some (19, false), [], .nck (.t 20)⟩, ⟨some 22, some (19, false), [], .fad 23 (.t 21)⟩, ⟨some 23, some (19, false), [], .ld 1 false (.t 22)⟩, ⟨some 24, none, [], .pick (.t 19) (.k (.bo true)) (.t 23)⟩, mV 25 24, ⟨some 26, some (25, false), [], .mov (.t 0)⟩, ⟨some 27, some (25, false), [], .nck (.t 26)⟩, ⟨some 28, some (25, false), [], .fad 17 (.t 27)⟩, ⟨some 29, some (25, false), [], .ld 1 false (.t 28)⟩, ⟨some 30, some (25, false), [], .bin .no .gtr (.t 29) (.k (.it .i64 2147483647))⟩, ⟨some 31, none, [], .pick (.t 25) (.k (.bo true)) (.t 30)⟩, mV 32 31, ⟨some 33, some (32, false), [], .mov (.t 0)⟩, ⟨some 34, some (32, false), [], .nck (.t 33)⟩, ⟨some 35, some (32, false), [], .fad 15 (.t 34)⟩, ⟨some 36, some (32, false), [], .ld 1 false (.t 35)⟩, ⟨some 37, some (32, false), [], .len false (.t 36)⟩, ⟨some 38, some (32, false), [], .mov (.t 0)⟩, ⟨some 39, some (32, false), [], .nck (.t 38)⟩, ⟨some 40, some (32, false), [], .fad 4 (.t 39)⟩, ⟨some 41, some (32, false), [], .fad 1 (.t 40)⟩, ⟨some 42, some (32, false), [], .ld 1 false (.t 41)⟩, ⟨some 43, some (32, false), [], .bin .no .geq (.t 37) (.t 42)⟩, ⟨some 44, none, [], .pick (.t 32) (.k (.bo true)) (.t 43)⟩, mV 45 44, ⟨some 46, some (45, false), [], .mov (.t 0)⟩, ⟨some 47, some (45, false), [], .nck (.t 46)⟩, ⟨some 48, some (45, false), [], .fad 12 (.t 47)⟩, ⟨some 49, some (45, false), [], .ld 1 false (.t 48)⟩, ⟨some 50, some (45, false), [], .len false (.t 49)⟩, ⟨some 51, some (45, false), [], .bin .no .geq (.t 50) (.k (.it .i64 131072))⟩, ⟨some 52, none, [], .pick (.t 45) (.k (.bo true)) (.t 51)⟩, mV 53 52, ⟨some 54, some (53, false), [], .mov (.t 1)⟩, ⟨some 55, some (53, false), [], .call false .pure 39 [(.t 54)]⟩, ⟨some 56, some (53, false), [], .un .not (.t 55)⟩, ⟨some 57, none, [], .pick (.t 53) (.k (.bo true)) (.t 56)⟩] [])
(.cond (.t 57)
(.seq (.reg false [
mK 6 (.it .i64 0), mK 7 (.bo false)] [])
.ret)
.skip))
(.seq (.reg false [
mV 58 0, mV 59 0, nK 60 59, fA 61 17 60, lD 62 1 61, cR 63 40 [(.t 58), (.t 62)], mV 8 63] [])
(.seq (.reg false [
mV 64 0, nK 65 64, fA 66 17 65, lD 67 1 66, ⟨some 68, none, [], .bin .no .add (.t 67) (.k (.it .i64 2))⟩, nK 69 64, fA 70 17 69, sO 1 70 68] [])
(.seq (.reg false [
mV 71 0, mV 72 8, mV 73 1, mV 74 2, cR 75 41 [(.t 71), (.t 72), (.t 73), (.t 74)]] [])
(.seq (.reg false [
mV 76 8, nK 77 76, fA 78 0 77, lD 79 1 78, mV 6 79, mK 7 (.bo true)] [])
.ret))))))⟩
def c15 : Ev.Fn := d15.den
def p15 : Pol := { loc := [], md := .rw, mds := mds, heap := [], own := [], ord := [], clr := [], mask := [], fns := [], lcl := [] }
theorem r15 : FnOK Tryz.prog mds 15 c15 := .read (pol := p15) (d := d15) Tryz.func15 (by kernel_rfl) (by kernel_rfl) rfl rfl (by kernel_rfl)

def d16 : DFn := ⟨[(.c .one), (.c .one)], [(.g [.one, .one, .one])], .pure, [.cell 4 3 true],
(.seq (.reg false [
⟨some 4, none, [], .alc [(.st []), (.st []), (.it .i64 0)]⟩] [])
(.seq (.reg false [
mV 5 0, mV 6 1, ⟨some 7, none, [], .bld [(.st []), (.st [])] [(0, 1, (.t 5)), (1, 1, (.t 6))]⟩, ⟨some 8, none, [], .bld [(.st []), (.st []), (.it .i64 0)] [(0, 2, (.t 7)), (2, 1, (.k (.it .i64 1)))]⟩, sO 3 4 8] [])
.ret))⟩
def c16 : Ev.Fn := d16.den
def p16 : Pol := { loc := [4], md := .pure, mds := mds, heap := [], own := [], ord := [], clr := [], mask := [], fns := [], lcl := [] }
theorem r16 : FnOK Tryz.prog mds 16 c16 := .read (pol := p16) (d := d16) Tryz.func16 (by kernel_rfl) (by kernel_rfl) rfl rfl (by kernel_rfl)

def d17 : DFn := ⟨[(.c .one), (.c (.sl [.one]))], [(.c (.sl [.one, .one, (.sl [.one, .one]), .one, .one, .one]))], .rw, [.tmp 4],
(.seq (.reg false [
mK 4 .ns] [])
(.seq (.seq (.reg false [
mV 10 0, nK 11 10, fA 12 24 11, lD 13 1 12] [])
(.cond (.t 13)
(.seq (.reg false [
mK 4 .ns] [])
.ret)
.skip))
(.seq (.reg false [
mV 14 0, nK 15 14, fA 16 25 15, ⟨none, none, [], .sto 1 (.t 16) (.k .ns)⟩] [])
(.seq (.reg false [
mV 18 0, nK 19 18, fA 20 9 19, lD 21 1 20, mV 22 1, cR 23 42 [(.t 21), (.t 22)], mV 17 23, eX 24 17 0, eX 25 17 1, ⟨some 6, none, [], .alc [(.it .i64 0), (.it .i64 0), (.it .i64 0)]⟩, mV 5 24, sO 3 6 25] [])
(.seq (.seq (.reg false [
mV 26 5, lN 27 false 26, mK 28 (.it .i64 0)] [])
(.blk 0 (.loop [0, 6, 26, 27, 28] [8]
(.seq (.reg false [
⟨some 29, none, [], .bin .no .lss (.t 28) (.t 27)⟩] [])
(.seq (.cond (.t 29)
.skip
(.exit 0))
(.seq (.blk 1 (.seq (.reg false [
⟨some 30, none, [], .ias 4 (.t 26) (.t 28)⟩, lQ 31 4 30, ⟨some 8, none, [], .alc [(.it .i64 0), (.it .i64 0), (.it .i64 0), .ns]⟩, sO 4 8 31] [])
(.seq (.reg false [
mV 32 0, nK 33 32, fA 34 24 33, lD 35 1 34, ⟨some 36, none, [], .un .not (.t 35)⟩] [])
(.cond (.t 36)
(.reg false [
mV 37 0, lQ 38 4 8, cR 39 43 [(.t 37), (.t 38)]] [])
.skip))))
(.reg false [
⟨some 40, none, [], .bin .no .add (.t 28) (.k (.it .i64 1))⟩, mV 28 40] [])))))))
(.seq (.seq (.reg false [
mV 41 0, nK 42 41, fA 43 24 42, lD 44 1 43, ⟨some 45, none, [], .un .not (.t 44)⟩, mV 46 45, ⟨some 47, some (46, true), [], .fad 0 (.t 6)⟩, ⟨some 48, some (46, true), [], .ld 1 false (.t 47)⟩, ⟨some 49, some (46, true), [], .bin .no .neq (.t 48) (.k (.it .i64 0))⟩, ⟨some 50, none, [], .pick (.t 46) (.t 49) (.k (.bo false))⟩] [47])
(.cond (.t 50)
(.reg false [
mV 51 0, fA 52 1 6, lD 53 1 52, cR 54 44 [(.t 51), (.t 53)]] [52])
.skip))
(.seq (.reg false [
mV 55 0, nK 56 55, fA 57 25 56, lD 58 1 57, mV 9 58] [])
(.seq (.reg false [
mV 59 0, nK 60 59, fA 61 25 60, ⟨none, none, [], .sto 1 (.t 61) (.k .ns)⟩] [])
(.seq (.reg false [
mV 62 9, mV 4 62] [])
.ret)))))))))⟩
def c17 : Ev.Fn := d17.den
def p17 : Pol := { loc := [6, 8], md := .rw, mds := mds, heap := [], own := [], ord := [(4, [0, 1, 2, 3, 4, 9, 5, 6, 7, 8, 10, 11])], clr := [(11, [47]), (12, [52])], mask := [(6, [0, 6, 26, 27, 28], [8])], fns := [], lcl := [] }
theorem r17 : FnOK Tryz.prog mds 17 c17 := .read (pol := p17) (d := d17) Tryz.func17 (by kernel_rfl) (by kernel_rfl) rfl rfl (by kernel_rfl)

def d18 : DFn := ⟨[(.c .one), (.c .one), (.c (.sl [.one, .one, .one])), (.c .one)], [(.c .one)], .rw, [.tmp 8],
(.seq (.reg false [
mK 8 (.bo false)] [])
(.seq (.reg false [
mV 10 0, mV 11 1, cR 12 45 [(.t 10), (.t 11)], mV 9 12] [])
(.seq (.seq (.reg false [
mV 13 9, ⟨some 14, none, [], .bin .ptr .eql (.t 13) (.k .np)⟩, mV 15 14, ⟨some 16, some (15, false), [], .mov (.t 9)⟩, ⟨some 17, some (15, false), [], .call false .rw 46 [(.t 16)]⟩, ⟨some 18, some (15, false), [], .un .not (.t 17)⟩, ⟨some 19, none, [], .pick (.t 15) (.k (.bo true)) (.t 18)⟩, mV 20 19, ⟨some 21, some (20, false), [], .mov (.t 9)⟩, ⟨some 22, some (20, false), [], .nck (.t 21)⟩, ⟨some 23, some (20, false), [], .fad 5 (.t 22)⟩, ⟨some 24, some (20, false), [], .ld 1 false (.t 23)⟩, ⟨some 25, some (20, false), [], .mov (.t 24)⟩, ⟨some 26, some (25, true), [], .mov (.t 3)⟩, ⟨some 27, some (25, true), [], .un .not (.t 26)⟩, ⟨some 28, some (20, false), [], .pick (.t 25) (.t 27) (.k (.bo false))⟩, ⟨some 29, none, [], .pick (.t 20) (.k (.bo true)) (.t 28)⟩, mV 30 29, ⟨some 31, some (30, false), [], .mov (.t 0)⟩, ⟨some 32, some (30, false), [], .nck (.t 31)⟩, ⟨some 33, some (30, false), [], .fad 12 (.t 32)⟩, ⟨some 34, some (30, false), [], .ld 1 false (.t 33)⟩, ⟨some 35, some (30, false), [], .len false (.t 34)⟩, ⟨some 36, some (30, false), [], .bin .no .geq (.t 35) (.k (.it .i64 131072))⟩, ⟨some 37, none, [], .pick (.t 30) (.k (.bo true)) (.t 36)⟩, mV 38 37, ⟨some 39, some (38, false), [], .mov (.t 2)⟩, ⟨some 40, some (38, false), [], .call false .pure 39 [(.t 39)]⟩, ⟨some 41, some (38, false), [], .un .not (.t 40)⟩, ⟨some 42, none, [], .pick (.t 38) (.k (.bo true)) (.t 41)⟩] [])
(.cond (.t 42)
(.seq (.reg false [
mK 8 (.bo false)] [])
.ret)
.skip))
(.seq (.reg false [
mV 43 0, mV 44 9, mV 45 2, mV 46 3, cR 47 41 [(.t 43), (.t 44), (.t 45), (.t 46)]] [])
(.seq (.reg false [
mK 8 (.bo true)] [])
.ret)))))⟩
def c18 : Ev.Fn := d18.den
def p18 : Pol := { loc := [], md := .rw, mds := mds, heap := [], own := [], ord := [], clr := [], mask := [], fns := [], lcl := [] }
theorem r18 : FnOK Tryz.prog mds 18 c18 := .read (pol := p18) (d := d18) Tryz.func18 (by kernel_rfl) (by kernel_rfl) rfl rfl (by kernel_rfl)

def d19 : DFn := ⟨[(.c .one), (.c .one), (.c .one), (.c .one)], [(.c .one), (.c .one)], .rw, [.tmp 8, .tmp 9],
(.seq (.reg false [
mK 8 (.it .i64 0), mK 9 (.bo false)] [])
(.seq (.reg false [
mV 14 0, mV 15 1, cR 16 45 [(.t 14), (.t 15)], mV 10 16] [])
(.seq (.seq (.reg false [
mV 17 10, ⟨some 18, none, [], .bin .ptr .eql (.t 17) (.k .np)⟩, mV 19 18, ⟨some 20, some (19, false), [], .mov (.t 10)⟩, ⟨some 21, some (19, false), [], .call false .rw 46 [(.t 20)]⟩, ⟨some 22, some (19, false), [], .un .not (.t 21)⟩, ⟨some 23, none, [], .pick (.t 19) (.k (.bo true)) (.t 22)⟩, mV 24 23, ⟨some 25, some (24, false), [], .mov (.t 10)⟩, ⟨some 26, some (24, false), [], .nck (.t 25)⟩, ⟨some 27, some (24, false), [], .fad 5 (.t 26)⟩, ⟨some 28, some (24, false), [], .ld 1 false (.t 27)⟩, ⟨some 29, some (24, false), [], .un .not (.t 28)⟩, ⟨some 30, none, [], .pick (.t 24) (.k (.bo true)) (.t 29)⟩, mV 31 30, ⟨some 32, some (31, false), [], .mov (.t 2)⟩, ⟨some 33, some (31, false), [], .bin .no .eql (.t 32) (.k (.st []))⟩, ⟨some 34, some (31, false), [], .mov (.t 33)⟩, ⟨some 35, some (34, true), [], .mov (.t 3)⟩, ⟨some 36, some (31, false), [], .pick (.t 34) (.t 35) (.k (.bo false))⟩, ⟨some 37, some (31, false), [], .mov (.t 36)⟩, ⟨some 38, some (37, true), [], .mov (.t 0)⟩, ⟨some 39, some (37, true), [], .nck (.t 38)⟩, ⟨some 40, some (37, true), [], .fad 12 (.t 39)⟩, ⟨some 41, some (37, true), [], .ld 1 false (.t 40)⟩, ⟨some 42, some (37, true), [], .len false (.t 41)⟩, ⟨some 43, some (37, true), [], .bin .no .geq (.t 42) (.k (.it .i64 131072))⟩, ⟨some 44, some (31, false), [], .pick (.t 37) (.t 43) (.k (.bo false))⟩, ⟨some 45, none, [], .pick (.t 31) (.k (.bo true)) (.t 44)⟩] [])
(.cond (.t 45)
(.seq (.reg false [
mK 8 (.it .i64 0), mK 9 (.bo false)] [])
.ret)
.skip))
(.seq (.reg false [
mK 11 (.it .i64 0)] [])
(.seq (.blk 0 (.loop [0, 1, 2, 3, 10, 11] [13]
(.seq (.seq (.reg false [
mV 46 11, mV 47 2, lN 48 true 47, ⟨some 49, none, [], .bin .no .lss (.t 46) (.t 48)⟩] [])
(.cond (.t 49)
.skip
(.exit 0)))
(.blk 1 (.seq (.reg true [
mV 50 2, lN 51 true 50, mV 52 11, ⟨some 53, none, [], .bin .no .sub (.t 51) (.t 52)⟩, mV 54 0, nK 55 54, fA 56 4 55, fA 57 3 56, lD 58 1 57, mV 59 0, nK 60 59, fA 61 12 60, lD 62 1 61, lN 63 false 62, ⟨some 64, none, [], .bin .no .sub (.k (.it .i64 131072)) (.t 63)⟩, ⟨some 65, none, [], .mn3 false (.t 53) (.t 58) (.t 64)⟩, mV 66 0, nK 67 66, fA 68 13 67, lQ 69 1 68, mV 70 10, nK 71 70, fA 72 2 71, lQ 73 1 72, ⟨some 74, none, [], .bsv [.one] 1 [[(.it .i64 0)], [(.it .i64 0)]] [(0, (.t 69)), (1, (.t 73))]⟩, cP 75 47 [(.t 65), (.t 74)], mV 12 75] [])
(.seq (.seq (.reg false [
mV 76 12, ⟨some 77, none, [], .bin .no .lss (.t 76) (.k (.it .i64 1))⟩] [])
(.cond (.t 77)
(.seq (.reg false [
mV 78 11, mV 8 78, mK 9 (.bo true)] [])
.ret)
.skip))
(.seq (.reg false [
mV 79 1, mV 80 2, mV 81 11, mV 82 11, mV 83 12, ⟨some 84, none, [], .bin .no .add (.t 82) (.t 83)⟩, ⟨some 85, none, [], .slc true 0 (.t 80) (some (.t 81)) (some (.t 84))⟩, ⟨some 86, none, [], .cnv .s2v (.t 85)⟩, ⟨some 87, none, [], .bld [(.it .i64 0), (.it .i64 0), (.it .i64 0), .ns] [(0, 1, (.k (.it .i64 0))), (2, 1, (.t 79)), (3, 1, (.t 86))]⟩, ⟨some 13, none, [], .alc [(.it .i64 0), (.it .i64 0), (.it .i64 0), .ns]⟩, sO 4 13 87] [])
(.seq (.reg false [
mV 88 11, mV 89 12, ⟨some 90, none, [], .bin .no .add (.t 88) (.t 89)⟩, mV 11 90] [])
(.seq (.seq (.reg false [
mV 91 3, mV 92 91, ⟨some 93, some (92, true), [], .mov (.t 11)⟩, ⟨some 94, some (92, true), [], .mov (.t 2)⟩, ⟨some 95, some (92, true), [], .len true (.t 94)⟩, ⟨some 96, some (92, true), [], .bin .no .eql (.t 93) (.t 95)⟩, ⟨some 97, none, [], .pick (.t 92) (.t 96) (.k (.bo false))⟩] [])
(.cond (.t 97)
(.reg false [
fA 98 1 13, ⟨none, none, [], .sto 1 (.t 98) (.k (.it .i64 1))⟩] [98])
.skip))
(.seq (.reg true [
mV 99 0, mV 100 0, nK 101 100, fA 102 12 101, lD 103 1 102, lQ 104 4 13, ⟨some 105, none, [], .call true .pure 20 [(.t 103), (.t 104)]⟩, nK 106 99, fA 107 12 106, sO 1 107 105] [])
(.seq (.reg false [
mV 109 0, mV 110 0, nK 111 110, fA 112 13 111, lQ 113 1 112, mV 114 12, ⟨some 115, none, [], .call true .pure 48 [(.t 113), (.t 114)]⟩, mV 108 115, eX 116 108 0, eX 117 108 1, nK 118 109, fA 119 13 118, sO 1 119 116] [])
(.reg false [
mV 121 10, mV 122 10, nK 123 122, fA 124 2 123, lQ 125 1 124, mV 126 12, ⟨some 127, none, [], .call true .pure 48 [(.t 125), (.t 126)]⟩, mV 120 127, eX 128 120 0, eX 129 120 1, nK 130 121, fA 131 2 130, sO 1 131 128] []))))))))))))
(.seq (.seq (.reg false [
mV 132 3, ⟨some 133, none, [], .un .not (.t 132)⟩] [])
(.cond (.t 133)
(.seq (.reg false [
mV 134 11, mV 8 134, mK 9 (.bo true)] [])
.ret)
.skip))
(.seq (.seq (.reg false [
mV 135 2, ⟨some 136, none, [], .bin .no .eql (.t 135) (.k (.st []))⟩] [])
(.cond (.t 136)
(.reg false [
mV 137 0, mV 138 0, nK 139 138, fA 140 12 139, lD 141 1 140, mV 142 1, ⟨some 143, none, [], .bld [(.it .i64 0), (.it .i64 0), (.it .i64 0), .ns] [(0, 1, (.k (.it .i64 0))), (1, 1, (.k (.it .i64 1))), (2, 1, (.t 142))]⟩, ⟨some 144, none, [], .call true .pure 20 [(.t 141), (.t 143)]⟩, nK 145 137, fA 146 12 145, sO 1 146 144] [])
.skip))
(.seq (.reg false [
mV 147 0, mV 148 10, cR 149 49 [(.t 147), (.t 148), (.k (.it .i64 13))]] [])
(.seq (.reg false [
mV 150 11, mV 8 150, mK 9 (.bo true)] [])
.ret)))))))))⟩
def c19 : Ev.Fn := d19.den
def p19 : Pol := { loc := [13], md := .rw, mds := mds, heap := [105, 115, 127, 144], own := [105, 115, 127, 144], ord := [], clr := [(12, [98])], mask := [(5, [0, 1, 2, 3, 10, 11], [13])], fns := [], lcl := [] }
theorem r19 : FnOK Tryz.prog mds 19 c19 := .read (pol := p19) (d := d19) Tryz.func19 (by kernel_rfl) (by kernel_rfl) rfl rfl (by kernel_rfl)

def d20 : DFn := ⟨[(.c (.sl [.one])), (.g [.one, .one, .one, (.sl [.one])])], [(.c (.sl [.one]))], .pure, [.tmp 4],
(.seq (.reg false [
⟨some 3, none, [], .box (.t 1)⟩, mK 4 .ns] [])
(.seq (.seq (.reg false [
lQ 8 4 3, cP 9 50 [(.t 8)], ⟨some 10, none, [], .un .not (.t 9)⟩] [])
(.cond (.t 10)
(.seq (.reg false [
mV 11 0, ⟨some 12, none, [], .app 1 1 (.k .ns) (.t 11)⟩, mV 4 12] [])
.ret)
.skip))
(.seq (.reg true [
fA 13 3 3, lD 14 1 13, lN 15 false 14, fA 16 2 3, lD 17 1 16, mV 5 15, mV 6 17] [13, 16])
(.seq (.reg false [
mV 18 0, lN 19 false 18, ⟨some 20, none, [], .bin .no .add (.t 19) (.k (.it .i64 9))⟩, mV 21 5, ⟨some 22, none, [], .bin .no .add (.t 20) (.t 21)⟩, ⟨some 23, none, [], .mks 1 1 [(.it .u8 0)] (.k (.it .i64 0)) (.t 22)⟩, mV 7 23] [])
(.seq (.reg false [
mV 24 7, mV 25 0, ⟨some 26, none, [], .app 1 1 (.t 24) (.t 25)⟩, mV 7 26] [])
(.seq (.reg false [
mV 27 7, mV 28 5, ⟨some 29, none, [], .bin .no .shr (.t 28) (.k (.it .u64 16))⟩, cV 30 .u8 29, mV 31 5, ⟨some 32, none, [], .bin .no .shr (.t 31) (.k (.it .u64 8))⟩, cV 33 .u8 32, mV 34 5, cV 35 .u8 34, fA 36 0 3, lD 37 1 36, cV 38 .u8 37, fA 39 1 3, lD 40 1 39, cV 41 .u8 40, mV 42 6, ⟨some 43, none, [], .bin .no .shr (.t 42) (.k (.it .u64 24))⟩, cV 44 .u8 43, mV 45 6, ⟨some 46, none, [], .bin .no .shr (.t 45) (.k (.it .u64 16))⟩, cV 47 .u8 46, mV 48 6, ⟨some 49, none, [], .bin .no .shr (.t 48) (.k (.it .u64 8))⟩, cV 50 .u8 49, mV 51 6, cV 52 .u8 51, ⟨some 53, none, [], .bsv [.one] 1 (List.replicate 9 [(.it .u8 0)]) [(0, (.t 30)), (1, (.t 33)), (2, (.t 35)), (3, (.t 38)), (4, (.t 41)), (5, (.t 44)), (6, (.t 47)), (7, (.t 50)), (8, (.t 52))]⟩, ⟨some 54, none, [], .app 1 1 (.t 27) (.t 53)⟩, mV 7 54] [36, 39])
(.seq (.reg false [
mV 55 7, fA 56 3 3, lD 57 1 56, ⟨some 58, none, [], .app 1 1 (.t 55) (.t 57)⟩, mV 4 58] [56])
.ret)))))))⟩
def c20 : Ev.Fn := d20.den
def p20 : Pol := { loc := [3], md := .pure, mds := mds, heap := [26, 54], own := [26, 54], ord := [(0, [1, 0])], clr := [(3, [13, 16]), (6, [36, 39]), (7, [56])], mask := [], fns := [], lcl := [] }
theorem r20 : FnOK Tryz.prog mds 20 c20 := .read (pol := p20) (d := d20) Tryz.func20 (by kernel_rfl) (by kernel_rfl) rfl rfl (by kernel_rfl)

def d21 : DFn := ⟨[(.c (.sl [.one, .one, (.sl [.one, .one]), .one, .one, .one])), (.c (.sl [.one, .one, (.sl [.one, .one]), .one, .one, .one]))], [(.c .one)], .pure, [.tmp 4],
(.seq (.reg false [
mK 4 (.bo false)] [])
(.seq (.seq (.reg false [
mV 8 0, lN 9 false 8, mV 10 1, lN 11 false 10, ⟨some 12, none, [], .bin .no .neq (.t 9) (.t 11)⟩] [])
(.cond (.t 12)
(.seq (.reg false [
mK 4 (.bo false)] [])
.ret)
.skip))
(.seq (.seq (.reg false [
mK 5 (.it .i64 0)] [])
(.blk 0 (.loop [0, 1, 5] [6, 7]
(.seq (.seq (.reg false [
mV 13 5, mV 14 0, lN 15 false 14, ⟨some 16, none, [], .bin .no .lss (.t 13) (.t 15)⟩] [])
(.cond (.t 16)
.skip
(.exit 0)))
(.seq (.blk 1 (.seq (.reg true [
mV 19 0, mV 20 5, ⟨some 21, none, [], .ias 6 (.t 19) (.t 20)⟩, lQ 22 6 21, mV 23 1, mV 24 5, ⟨some 25, none, [], .ias 6 (.t 23) (.t 24)⟩, lQ 26 6 25, ⟨some 6, none, [19, 21, 23, 25, 7], .alc [(.it .i64 0), (.it .i64 0), .ns, (.st []), (.bo false), (.it .i64 0)]⟩, ⟨some 7, none, [19, 21, 23, 25, 6], .alc [(.it .i64 0), (.it .i64 0), .ns, (.st []), (.bo false), (.it .i64 0)]⟩, ⟨none, none, [23, 25], .sto 6 (.t 6) (.t 22)⟩, sO 6 7 26] [])
(.seq (.reg false [
fA 27 0 6, lD 28 1 27, fA 29 0 7, lD 30 1 29, ⟨some 31, none, [], .bin .no .neq (.t 28) (.t 30)⟩, mV 32 31, ⟨some 33, some (32, false), [], .fad 1 (.t 6)⟩, ⟨some 34, some (32, false), [], .ld 1 false (.t 33)⟩, ⟨some 35, some (32, false), [], .fad 1 (.t 7)⟩, ⟨some 36, some (32, false), [], .ld 1 false (.t 35)⟩, ⟨some 37, some (32, false), [], .bin .no .neq (.t 34) (.t 36)⟩, ⟨some 38, none, [], .pick (.t 32) (.k (.bo true)) (.t 37)⟩, mV 39 38, ⟨some 40, some (39, false), [], .fad 2 (.t 6)⟩, ⟨some 41, some (39, false), [], .ld 1 false (.t 40)⟩, ⟨some 42, some (39, false), [], .fad 2 (.t 7)⟩, ⟨some 43, some (39, false), [], .ld 1 false (.t 42)⟩, ⟨some 44, some (39, false), [], .call false .pure 51 [(.t 41), (.t 43)]⟩, ⟨some 45, some (39, false), [], .un .not (.t 44)⟩, ⟨some 46, none, [], .pick (.t 39) (.k (.bo true)) (.t 45)⟩, mV 47 46, ⟨some 48, some (47, false), [], .fad 3 (.t 6)⟩, ⟨some 49, some (47, false), [], .ld 1 false (.t 48)⟩, ⟨some 50, some (47, false), [], .fad 3 (.t 7)⟩, ⟨some 51, some (47, false), [], .ld 1 false (.t 50)⟩, ⟨some 52, some (47, false), [], .bin .no .neq (.t 49) (.t 51)⟩, ⟨some 53, none, [], .pick (.t 47) (.k (.bo true)) (.t 52)⟩, mV 54 53, ⟨some 55, some (54, false), [], .fad 4 (.t 6)⟩, ⟨some 56, some (54, false), [], .ld 1 false (.t 55)⟩, ⟨some 57, some (54, false), [], .fad 4 (.t 7)⟩, ⟨some 58, some (54, false), [], .ld 1 false (.t 57)⟩, ⟨some 59, some (54, false), [], .bin .bo .neq (.t 56) (.t 58)⟩, ⟨some 60, none, [], .pick (.t 54) (.k (.bo true)) (.t 59)⟩, mV 61 60, ⟨some 62, some (61, false), [], .fad 5 (.t 6)⟩, ⟨some 63, some (61, false), [], .ld 1 false (.t 62)⟩, ⟨some 64, some (61, false), [], .fad 5 (.t 7)⟩, ⟨some 65, some (61, false), [], .ld 1 false (.t 64)⟩, ⟨some 66, some (61, false), [], .bin .no .neq (.t 63) (.t 65)⟩, ⟨some 67, none, [], .pick (.t 61) (.k (.bo true)) (.t 66)⟩] [27, 29, 33, 35, 40, 42, 48, 50, 55, 57, 62, 64])
(.cond (.t 67)
(.seq (.reg false [
mK 4 (.bo false)] [])
.ret)
.skip))))
(.reg false [
mV 17 5, ⟨some 18, none, [], .bin .no .add (.t 17) (.k (.it .i64 1))⟩, mV 5 18] []))))))
(.seq (.reg false [
mK 4 (.bo true)] [])
.ret))))⟩
def c21 : Ev.Fn := d21.den
def p21 : Pol := { loc := [6, 7], md := .pure, mds := mds, heap := [], own := [], ord := [], clr := [(7, [27, 29, 33, 35, 40, 42, 48, 50, 55, 57, 62, 64])], mask := [(4, [0, 1, 5], [6, 7])], fns := [], lcl := [] }
theorem r21 : FnOK Tryz.prog mds 21 c21 := .read (pol := p21) (d := d21) Tryz.func21 (by kernel_rfl) (by kernel_rfl) rfl rfl (by kernel_rfl)

def d22 : DFn := ⟨[(.c .one)], [(.c .one)], .rw, [.tmp 2],
(.seq (.reg false [
mK 2 (.bo false)] [])
(.seq (.reg false [
mV 3 0, nK 4 3, fA 5 24 4, lD 6 1 5, mV 2 6] [])
.ret))⟩
def c22 : Ev.Fn := d22.den
def p22 : Pol := { loc := [], md := .rw, mds := mds, heap := [], own := [], ord := [], clr := [], mask := [], fns := [], lcl := [] }
theorem r22 : FnOK Tryz.prog mds 22 c22 := .read (pol := p22) (d := d22) Tryz.func22 (by kernel_rfl) (by kernel_rfl) rfl rfl (by kernel_rfl)

def d23 : DFn := ⟨[(.g [.one, .one, .one])], [(.c .one)], .rw, [.tmp 2],
(.seq (.reg false [
⟨some 1, none, [], .box (.t 0)⟩, mK 2 .np] [])
(.seq (.reg false [
lQ 6 3 1, cR 7 10 [(.k (.bo true)), (.t 6)], mV 5 7, eX 8 5 0, eX 9 5 1, mV 3 8, mV 4 9] [])
(.seq (.seq (.reg false [
mV 10 3, ⟨some 11, none, [], .bin .ptr .eql (.t 10) (.k .np)⟩, mV 12 11, ⟨some 13, some (12, false), [], .mov (.t 4)⟩, ⟨some 14, some (12, false), [], .bin .no .neq (.t 13) (.k (.it .i64 0))⟩, ⟨some 15, none, [], .pick (.t 12) (.k (.bo true)) (.t 14)⟩] [])
(.cond (.t 15)
(.seq (.reg false [
mK 2 .np] [])
.ret)
.skip))
(.seq (.reg false [
mV 16 3, ⟨some 17, none, [], .bsl 1 (List.replicate 24 [(.it .u8 0)]) [(0, (.k (.it .u8 80))), (1, (.k (.it .u8 82))), (2, (.k (.it .u8 73))), (3, (.k (.it .u8 32))), (4, (.k (.it .u8 42))), (5, (.k (.it .u8 32))), (6, (.k (.it .u8 72))), (7, (.k (.it .u8 84))), (8, (.k (.it .u8 84))), (9, (.k (.it .u8 80))), (10, (.k (.it .u8 47))), (11, (.k (.it .u8 50))), (12, (.k (.it .u8 46))), (13, (.k (.it .u8 48))), (14, (.k (.it .u8 13))), (15, (.k (.it .u8 10))), (16, (.k (.it .u8 13))), (17, (.k (.it .u8 10))), (18, (.k (.it .u8 83))), (19, (.k (.it .u8 77))), (20, (.k (.it .u8 13))), (21, (.k (.it .u8 10))), (22, (.k (.it .u8 13))), (23, (.k (.it .u8 10)))]⟩, ⟨some 18, none, [], .mrk (.t 17)⟩, ⟨some 19, none, [], .bld [(.it .i64 0), (.it .i64 0), (.it .i64 0), .ns] [(0, 1, (.k (.it .i64 4)))]⟩, cP 20 24 [(.k .ns), (.t 19)], ⟨some 21, none, [], .app 1 1 (.t 18) (.t 20)⟩, cR 22 17 [(.t 16), (.t 21)]] [])
(.seq (.reg false [
mV 23 3, cR 24 13 [(.t 23), (.k (.it .i64 1048576))]] [])
(.seq (.reg false [
mV 25 3, mV 2 25] [])
.ret))))))⟩
def c23 : Ev.Fn := d23.den
def p23 : Pol := { loc := [1], md := .rw, mds := mds, heap := [17, 18], own := [17, 18], ord := [(0, [1, 0]), (4, [0, 3, 1, 2, 4, 5, 6])], clr := [], mask := [], fns := [], lcl := [] }
theorem r23 : FnOK Tryz.prog mds 23 c23 := .read (pol := p23) (d := d23) Tryz.func23 (by kernel_rfl) (by kernel_rfl) rfl rfl (by kernel_rfl)

def d24 : DFn := ⟨[(.c (.sl [.one])), (.g [.one, .one, .one, (.sl [.one])])], [(.c (.sl [.one]))], .pure, [.tmp 4],
(.seq (.reg false [
⟨some 3, none, [], .box (.t 1)⟩, mK 4 .ns] [])
(.seq (.reg false [
⟨some 7, none, [], .bsl 1 [] []⟩, mV 8 0, ⟨some 9, none, [], .app 1 1 (.t 7) (.t 8)⟩, mV 5 9] [])
(.seq (.seq (.reg false [
lQ 10 4 3, cP 11 52 [(.t 10)], ⟨some 12, none, [], .un .not (.t 11)⟩] [])
(.cond (.t 12)
(.seq (.reg false [
mV 13 5, mV 4 13] [])
.ret)
.skip))
(.seq (.reg false [
fA 14 3 3, lD 15 1 14, lN 16 false 15, mV 6 16] [14])
(.seq (.reg false [
mV 17 5, mV 18 6, ⟨some 19, none, [], .bin .no .shr (.t 18) (.k (.it .u64 16))⟩, cV 20 .u8 19, mV 21 6, ⟨some 22, none, [], .bin .no .shr (.t 21) (.k (.it .u64 8))⟩, cV 23 .u8 22, mV 24 6, cV 25 .u8 24, fA 26 0 3, lD 27 1 26, cV 28 .u8 27, fA 29 1 3, lD 30 1 29, cV 31 .u8 30, fA 32 2 3, lD 33 1 32, ⟨some 34, none, [], .bin .no .shr (.t 33) (.k (.it .u64 24))⟩, cV 35 .u8 34, fA 36 2 3, lD 37 1 36, ⟨some 38, none, [], .bin .no .shr (.t 37) (.k (.it .u64 16))⟩, cV 39 .u8 38, fA 40 2 3, lD 41 1 40, ⟨some 42, none, [], .bin .no .shr (.t 41) (.k (.it .u64 8))⟩, cV 43 .u8 42, fA 44 2 3, lD 45 1 44, cV 46 .u8 45, ⟨some 47, none, [], .bsv [.one] 1 (List.replicate 9 [(.it .u8 0)]) [(0, (.t 20)), (1, (.t 23)), (2, (.t 25)), (3, (.t 28)), (4, (.t 31)), (5, (.t 35)), (6, (.t 39)), (7, (.t 43)), (8, (.t 46))]⟩, ⟨some 48, none, [], .app 1 1 (.t 17) (.t 47)⟩, mV 5 48] [26, 29, 32, 36, 40, 44])
(.seq (.reg false [
mV 49 5, fA 50 3 3, lD 51 1 50, ⟨some 52, none, [], .app 1 1 (.t 49) (.t 51)⟩, mV 4 52] [50])
.ret))))))⟩
def c24 : Ev.Fn := d24.den
def p24 : Pol := { loc := [3], md := .pure, mds := mds, heap := [7, 9, 48], own := [7, 9, 48], ord := [(0, [1, 0]), (1, [1, 0, 2, 3])], clr := [(4, [14]), (5, [26, 29, 32, 36, 40, 44]), (6, [50])], mask := [], fns := [], lcl := [] }
theorem r24 : FnOK Tryz.prog mds 24 c24 := .read (pol := p24) (d := d24) Tryz.func24 (by kernel_rfl) (by kernel_rfl) rfl rfl (by kernel_rfl)

def d25 : DFn := ⟨[(.c .one), (.c .one), (.c .one)], [(.c .one)], .pure, [.tmp 6],
(.seq (.reg false [
mK 6 (.it .i64 0)] [])
(.seq (.reg false [
mV 7 0, mV 8 2, mV 9 1, ⟨some 10, none, [], .bin .no .sub (.t 8) (.t 9)⟩, ⟨some 11, none, [], .bin .no .add (.t 10) (.k (.it .i64 1))⟩, ⟨some 12, none, [], .bin .no .rem (.t 7) (.t 11)⟩, mV 0 12] [])
(.seq (.seq (.reg false [
mV 13 0, ⟨some 14, none, [], .bin .no .lss (.t 13) (.k (.it .i64 0))⟩] [])
(.cond (.t 14)
(.reg false [
mV 15 0, mV 16 2, ⟨some 17, none, [], .bin .no .add (.t 15) (.t 16)⟩, mV 18 1, ⟨some 19, none, [], .bin .no .sub (.t 17) (.t 18)⟩, ⟨some 20, none, [], .bin .no .add (.t 19) (.k (.it .i64 1))⟩, mV 0 20] [])
.skip))
(.seq (.reg false [
mV 21 1, mV 22 0, ⟨some 23, none, [], .bin .no .add (.t 21) (.t 22)⟩, mV 6 23] [])
.ret))))⟩
def c25 : Ev.Fn := d25.den
def p25 : Pol := { loc := [], md := .pure, mds := mds, heap := [], own := [], ord := [], clr := [], mask := [], fns := [], lcl := [] }
theorem r25 : FnOK Tryz.prog mds 25 c25 := .read (pol := p25) (d := d25) Tryz.func25 (by kernel_rfl) (by kernel_rfl) rfl rfl (by kernel_rfl)

def d26 : DFn := ⟨[(.c .one), (.c .one), (.c .one)], [(.c .one)], .rw, [.tmp 6],
(.seq (.reg false [
mK 6 (.bo false)] [])
(.seq (.reg false [
mV 7 0, mV 8 1, cR 9 45 [(.t 7), (.t 8)], ⟨some 10, none, [], .bin .ptr .neq (.t 9) (.k .np)⟩, mV 11 10, ⟨some 12, some (11, true), [], .mov (.t 0)⟩, ⟨some 13, some (11, true), [], .mov (.t 1)⟩, ⟨some 14, some (11, true), [], .mov (.t 2)⟩, ⟨some 15, some (11, true), [], .call false .rw 53 [(.t 12), (.t 13), (.t 14)]⟩, ⟨some 16, none, [], .pick (.t 11) (.t 15) (.k (.bo false))⟩, mV 6 16] [])
.ret))⟩
def c26 : Ev.Fn := d26.den
def p26 : Pol := { loc := [], md := .rw, mds := mds, heap := [], own := [], ord := [], clr := [], mask := [], fns := [], lcl := [] }
theorem r26 : FnOK Tryz.prog mds 26 c26 := .read (pol := p26) (d := d26) Tryz.func26 (by kernel_rfl) (by kernel_rfl) rfl rfl (by kernel_rfl)

def d27 : DFn := ⟨[(.c .one)], [(.c (.sl [.one])), (.c (.sl [.one]))], .rw, [.tmp 2, .tmp 3],
(.seq (.reg false [
mK 2 .ns, mK 3 .ns] [])
(.seq (.reg false [
mK 4 .ns, mK 5 .ns] [])
(.seq (.seq (.reg false [
mV 8 0, nK 9 8, fA 10 15 9, lD 11 1 10, lN 12 false 11, mK 13 (.it .i64 0)] [])
(.blk 0 (.loop [4, 5, 11, 12, 13] []
(.seq (.reg false [
⟨some 14, none, [], .bin .no .lss (.t 13) (.t 12)⟩] [])
(.seq (.cond (.t 14)
.skip
(.exit 0))
(.seq (.blk 1 (.seq (.reg false [
⟨some 15, none, [], .ias 1 (.t 11) (.t 13)⟩, lD 16 1 15, mV 7 16] [])
(.reg true [
mV 17 4, mV 18 7, nK 19 18, fA 20 0 19, lD 21 1 20, ⟨some 22, none, [], .bsv [.one] 1 [[(.it .i64 0)]] [(0, (.t 21))]⟩, mV 24 5, mV 25 7, nK 26 25, fA 27 1 26, lD 28 1 27, ⟨some 29, none, [], .bsv [.one] 1 [[(.it .i64 0)]] [(0, (.t 28))]⟩, ⟨some 23, none, [27], .app 1 8 (.t 17) (.t 22)⟩, ⟨some 30, none, [], .app 1 8 (.t 24) (.t 29)⟩, mV 4 23, mV 5 30] [])))
(.reg false [
⟨some 31, none, [], .bin .no .add (.t 13) (.k (.it .i64 1))⟩, mV 13 31] [])))))))
(.seq (.reg false [
mV 32 4, mV 33 5, mV 2 32, mV 3 33] [])
.ret))))⟩
def c27 : Ev.Fn := d27.den
def p27 : Pol := { loc := [], md := .rw, mds := mds, heap := [23, 30], own := [23, 30], ord := [(5, [0, 1, 2, 3, 4, 5, 7, 8, 9, 10, 11, 12, 6, 13, 14, 15])], clr := [], mask := [(3, [4, 5, 11, 12, 13], [])], fns := [], lcl := [] }
theorem r27 : FnOK Tryz.prog mds 27 c27 := .read (pol := p27) (d := d27) Tryz.func27 (by kernel_rfl) (by kernel_rfl) rfl rfl (by kernel_rfl)

def d28 : DFn := ⟨[(.c .one), (.c .one)], [(.c .one)], .rw, [.tmp 4],
(.seq (.reg false [
mK 4 (.bo false)] [])
(.seq (.seq (.reg false [
mV 5 0, nK 6 5, fA 7 24 6, lD 8 1 7] [])
(.cond (.t 8)
(.seq (.reg false [
mK 4 (.bo false)] [])
.ret)
.skip))
(.seq (.reg false [
mV 9 0, mV 10 1, cR 11 44 [(.t 9), (.t 10)]] [])
(.seq (.reg false [
mK 4 (.bo true)] [])
.ret))))⟩
def c28 : Ev.Fn := d28.den
def p28 : Pol := { loc := [], md := .rw, mds := mds, heap := [], own := [], ord := [], clr := [], mask := [], fns := [], lcl := [] }
theorem r28 : FnOK Tryz.prog mds 28 c28 := .read (pol := p28) (d := d28) Tryz.func28 (by kernel_rfl) (by kernel_rfl) rfl rfl (by kernel_rfl)

def d29 : DFn := ⟨[(.c .one)], [(.c .one)], .rw, [.tmp 2],
(.seq (.reg false [
mK 2 (.it .i64 0)] [])
(.seq (.reg false [
mV 3 0, nK 4 3, fA 5 12 4, lD 6 1 5, lN 7 false 6, mV 2 7] [])
.ret))⟩
def c29 : Ev.Fn := d29.den
def p29 : Pol := { loc := [], md := .rw, mds := mds, heap := [], own := [], ord := [], clr := [], mask := [], fns := [], lcl := [] }
theorem r29 : FnOK Tryz.prog mds 29 c29 := .read (pol := p29) (d := d29) Tryz.func29 (by kernel_rfl) (by kernel_rfl) rfl rfl (by kernel_rfl)

def d30 : DFn := ⟨[(.g [.one, .one, .one, .one, .one, .one, (.sl [.one]), (.sl [.one]), (.sl [.one, .one, .one]), .one, .one])], [(.c .one)], .pure, [.tmp 2],
(.seq (.reg false [
⟨some 1, none, [], .box (.t 0)⟩, mK 2 (.bo false)] [])
(.seq (.reg false [
mK 3 (.it .i64 0)] [])
(.seq (.seq (.reg false [
mK 4 (.it .i64 0)] [])
(.blk 0 (.loop [1, 3, 4] []
(.seq (.seq (.reg false [
mV 5 4, fA 6 8 1, lD 7 1 6, lN 8 false 7, ⟨some 9, none, [], .bin .no .lss (.t 5) (.t 8)⟩] [6])
(.cond (.t 9)
.skip
(.exit 0)))
(.seq (.blk 1 (.seq (.reg true [
mV 12 3, fA 13 8 1, lD 14 1 13, mV 15 4, ⟨some 16, none, [], .ias 3 (.t 14) (.t 15)⟩, fA 17 0 16, fA 18 0 17, lD 19 1 18, lN 20 true 19, ⟨some 21, none, [], .bin .no .add (.t 12) (.t 20)⟩, fA 22 8 1, lD 23 1 22, mV 24 4, ⟨some 25, none, [], .ias 3 (.t 23) (.t 24)⟩, fA 26 0 25, fA 27 1 26, lD 28 1 27, lN 29 true 28, ⟨some 30, none, [], .bin .no .add (.t 21) (.t 29)⟩, ⟨some 31, none, [], .bin .no .add (.t 30) (.k (.it .i64 1))⟩, mV 3 31] [13, 22])
(.seq (.reg false [
mV 32 3, ⟨some 33, none, [], .bin .no .gtr (.t 32) (.k (.it .i64 2000))⟩] [])
(.cond (.t 33)
(.seq (.reg false [
mK 2 (.bo false)] [])
.ret)
.skip))))
(.reg false [
mV 10 4, ⟨some 11, none, [], .bin .no .add (.t 10) (.k (.it .i64 1))⟩, mV 4 11] []))))))
(.seq (.reg false [
fA 34 3 1, fA 35 3 34, lD 36 1 35, lN 37 false 36, ⟨some 38, none, [], .bin .no .leq (.t 37) (.k (.it .i64 2000))⟩, mV 39 38, ⟨some 40, some (39, true), [], .fad 7 (.t 1)⟩, ⟨some 41, some (39, true), [], .ld 1 false (.t 40)⟩, ⟨some 42, some (39, true), [], .len false (.t 41)⟩, ⟨some 43, some (39, true), [], .bin .no .leq (.t 42) (.k (.it .i64 2000))⟩, ⟨some 44, none, [], .pick (.t 39) (.t 43) (.k (.bo false))⟩, mV 45 44, ⟨some 46, some (45, true), [], .fad 9 (.t 1)⟩, ⟨some 47, some (45, true), [], .ld 1 false (.t 46)⟩, ⟨some 48, some (45, true), [], .len true (.t 47)⟩, ⟨some 49, some (45, true), [], .bin .no .leq (.t 48) (.k (.it .i64 70000))⟩, ⟨some 50, none, [], .pick (.t 45) (.t 49) (.k (.bo false))⟩, mV 2 50] [34, 35, 40, 46])
.ret))))⟩
def c30 : Ev.Fn := d30.den
def p30 : Pol := { loc := [1], md := .pure, mds := mds, heap := [], own := [], ord := [(0, [1, 0])], clr := [(3, [6]), (5, [13, 22]), (8, [34, 35, 40, 46])], mask := [(3, [1, 3, 4], [])], fns := [], lcl := [] }
theorem r30 : FnOK Tryz.prog mds 30 c30 := .read (pol := p30) (d := d30) Tryz.func30 (by kernel_rfl) (by kernel_rfl) rfl rfl (by kernel_rfl)

def d31 : DFn := ⟨[(.c .one), (.c .one), (.c .one)], [(.c .one)], .rw, [.tmp 6],
(.seq (.reg false [
mK 6 (.bo false)] [])
(.seq (.seq (.reg false [
mV 12 0, nK 13 12, fA 14 24 13, lD 15 1 14, mV 16 15, ⟨some 17, some (16, false), [], .mov (.t 2)⟩, ⟨some 18, some (16, false), [], .bin .no .lss (.t 17) (.k (.it .i64 1))⟩, ⟨some 19, none, [], .pick (.t 16) (.k (.bo true)) (.t 18)⟩] [])
(.cond (.t 19)
(.seq (.reg false [
mK 6 (.bo false)] [])
.ret)
.skip))
(.seq (.seq (.reg false [
mV 21 0, nK 22 21, fA 23 14 22, lQ 24 1 23, mV 25 2, cP 26 54 [(.t 24), (.t 25)], mV 20 26, eX 27 20 0, eX 28 20 1, ⟨some 7, none, [], .alc [(.it .i64 0)]⟩, sO 1 7 27, mV 8 28] [])
(.seq (.reg false [
mV 29 8, ⟨some 30, none, [], .un .not (.t 29)⟩] [])
(.cond (.t 30)
(.seq (.reg false [
mK 6 (.bo false)] [])
.ret)
.skip)))
(.seq (.seq (.reg false [
mV 31 0, mV 32 1, cR 33 45 [(.t 31), (.t 32)], mV 9 33] [])
(.seq (.reg false [
mV 34 9, ⟨some 35, none, [], .bin .ptr .neq (.t 34) (.k .np)⟩] [])
(.cond (.t 35)
(.seq (.reg false [
mV 37 9, nK 38 37, fA 39 3 38, lQ 40 1 39, mV 41 2, cP 42 54 [(.t 40), (.t 41)], mV 36 42, eX 43 36 0, eX 44 36 1, ⟨some 10, none, [], .alc [(.it .i64 0)]⟩, sO 1 10 43, mV 11 44] [])
(.seq (.reg false [
mV 45 11, ⟨some 46, none, [], .un .not (.t 45)⟩] [])
(.cond (.t 46)
(.seq (.reg false [
mK 6 (.bo false)] [])
.ret)
.skip)))
.skip)))
(.seq (.reg false [
mV 47 0, mV 48 1, mV 49 2, cR 50 55 [(.t 47), (.t 48), (.t 49)], mV 6 50] [])
.ret)))))⟩
def c31 : Ev.Fn := d31.den
def p31 : Pol := { loc := [7, 10], md := .rw, mds := mds, heap := [], own := [], ord := [(3, [0, 1, 2, 3, 4, 9, 5, 6, 7, 8, 10, 11]), (8, [0, 1, 2, 3, 4, 9, 5, 6, 7, 8, 10, 11])], clr := [], mask := [], fns := [], lcl := [] }
theorem r31 : FnOK Tryz.prog mds 31 c31 := .read (pol := p31) (d := d31) Tryz.func31 (by kernel_rfl) (by kernel_rfl) rfl rfl (by kernel_rfl)

def d32 : DFn := ⟨[(.c .one), (.c .one), (.c .one)], [(.c .one)], .pure, [.tmp 6],
(.seq (.reg false [
mK 6 (.bo false)] [])
(.seq (.reg false [
mV 7 0, mV 8 1, ⟨some 9, none, [], .bin .no .geq (.t 7) (.t 8)⟩, mV 10 9, ⟨some 11, some (10, true), [], .mov (.t 0)⟩, ⟨some 12, some (10, true), [], .mov (.t 2)⟩, ⟨some 13, some (10, true), [], .bin .no .leq (.t 11) (.t 12)⟩, ⟨some 14, none, [], .pick (.t 10) (.t 13) (.k (.bo false))⟩, mV 6 14] [])
.ret))⟩
def c32 : Ev.Fn := d32.den
def p32 : Pol := { loc := [], md := .pure, mds := mds, heap := [], own := [], ord := [], clr := [], mask := [], fns := [], lcl := [] }
theorem r32 : FnOK Tryz.prog mds 32 c32 := .read (pol := p32) (d := d32) Tryz.func32 (by kernel_rfl) (by kernel_rfl) rfl rfl (by kernel_rfl)

def d33 : DFn := ⟨[], [(.g [.one, .one, .one, .one, .one])], .pure, [.cell 0 5 true],
(.seq (.reg false [
⟨some 0, none, [], .alc [(.it .i64 0), (.it .i64 0), (.it .i64 0), (.it .i64 0), (.it .i64 0)]⟩] [])
(.seq (.reg false [
⟨some 1, none, [], .bld [(.it .i64 0), (.it .i64 0), (.it .i64 0), (.it .i64 0), (.it .i64 0)] [(0, 1, (.k (.it .i64 4096))), (1, 1, (.k (.it .i64 2147483647))), (2, 1, (.k (.it .i64 65535))), (3, 1, (.k (.it .i64 16384))), (4, 1, (.k (.it .i64 2147483647)))]⟩, sO 5 0 1] [])
.ret))⟩
def c33 : Ev.Fn := d33.den
def p33 : Pol := { loc := [0], md := .pure, mds := mds, heap := [], own := [], ord := [], clr := [], mask := [], fns := [], lcl := [] }
theorem r33 : FnOK Tryz.prog mds 33 c33 := .read (pol := p33) (d := d33) Tryz.func33 (by kernel_rfl) (by kernel_rfl) rfl rfl (by kernel_rfl)

def d34 : DFn := ⟨[(.c .one), (.c .one)], [(.c .one), (.c .one)], .rw, [.tmp 4, .tmp 5],
(.seq (.reg false [
mK 4 .np, mK 5 (.it .i64 0)] [])
(.seq (.seq (.reg false [
mV 7 0, cP 8 56 [(.t 7)], ⟨some 9, none, [], .un .not (.t 8)⟩] [])
(.cond (.t 9)
(.seq (.reg false [
mK 4 .np, mK 5 (.it .i64 1)] [])
.ret)
.skip))
(.seq (.reg false [
mV 10 0, ⟨some 11, none, [], .bld [(.it .i64 0), (.st []), .ns, (.it .i64 0), (.it .i64 0), (.it .i64 0)] [(0, 1, (.t 10))]⟩, ⟨some 12, none, [], .bxh (.t 11)⟩, mV 6 12] [])
(.seq (.seq (.reg false [
mV 13 1] [])
(.cond (.t 13)
(.reg false [
mV 14 6, nK 15 14, fA 16 1 15, ⟨none, none, [], .sto 1 (.t 16) (.k (.st [80, 82, 73, 32, 42, 32, 72, 84, 84, 80, 47, 50, 46, 48, 13, 10, 13, 10, 83, 77, 13, 10, 13, 10]))⟩] [])
.skip))
(.seq (.reg false [
mV 17 6, mV 4 17, mK 5 (.it .i64 0)] [])
.ret)))))⟩
def c34 : Ev.Fn := d34.den
def p34 : Pol := { loc := [], md := .rw, mds := mds, heap := [], own := [], ord := [], clr := [], mask := [], fns := [], lcl := [] }
theorem r34 : FnOK Tryz.prog mds 34 c34 := .read (pol := p34) (d := d34) Tryz.func34 (by kernel_rfl) (by kernel_rfl) rfl rfl (by kernel_rfl)

def d35 : DFn := ⟨[(.c .one), (.c .one)], [(.c .one), (.c .one)], .rw, [.tmp 4, .tmp 5],
(.seq (.reg false [
mK 4 .np, mK 5 (.it .i64 0)] [])
(.seq (.seq (.reg false [
mV 8 1, ⟨some 9, none, [], .bin .no .lss (.t 8) (.k (.it .i64 0))⟩, mV 10 9, ⟨some 11, some (10, false), [], .mov (.t 1)⟩, ⟨some 12, some (10, false), [], .bin .no .gtr (.t 11) (.k (.it .i64 2147483647))⟩, ⟨some 13, none, [], .pick (.t 10) (.k (.bo true)) (.t 12)⟩] [])
(.cond (.t 13)
(.seq (.reg false [
mK 4 .np, mK 5 (.it .i64 1)] [])
.ret)
.skip))
(.seq (.reg false [
mV 15 0, cR 16 57 [(.t 15)], mV 14 16, eX 17 14 0, eX 18 14 1, mV 6 17, mV 7 18] [])
(.seq (.seq (.reg false [
mV 19 7, ⟨some 20, none, [], .bin .no .neq (.t 19) (.k (.it .i64 0))⟩] [])
(.cond (.t 20)
(.seq (.reg false [
mV 21 7, mK 4 .np, mV 5 21] [])
.ret)
.skip))
(.seq (.reg false [
mV 22 6, mV 23 0, mV 24 1, ⟨some 25, none, [], .bld [.np, (.it .i64 0), (.it .i64 0), (.bo false)] [(0, 1, (.t 22)), (1, 1, (.t 23)), (2, 1, (.t 24))]⟩, ⟨some 26, none, [], .bxh (.t 25)⟩, mV 4 26, mK 5 (.it .i64 0)] [])
.ret)))))⟩
def c35 : Ev.Fn := d35.den
def p35 : Pol := { loc := [], md := .rw, mds := mds, heap := [], own := [], ord := [], clr := [], mask := [], fns := [], lcl := [] }
theorem r35 : FnOK Tryz.prog mds 35 c35 := .read (pol := p35) (d := d35) Tryz.func35 (by kernel_rfl) (by kernel_rfl) rfl rfl (by kernel_rfl)

def d36 : DFn := ⟨[(.c .one)], [(.c .one), (.c .one)], .rw, [.tmp 2, .tmp 3],
(.seq (.reg false [
mK 2 .np, mK 3 (.it .i64 0)] [])
(.seq (.reg false [
mV 7 0, cR 8 57 [(.t 7)], mV 6 8, eX 9 6 0, eX 10 6 1, mV 4 9, mV 5 10] [])
(.seq (.seq (.reg false [
mV 11 5, ⟨some 12, none, [], .bin .no .neq (.t 11) (.k (.it .i64 0))⟩] [])
(.cond (.t 12)
(.seq (.reg false [
mV 13 5, mK 2 .np, mV 3 13] [])
.ret)
.skip))
(.seq (.reg false [
mV 14 4, ⟨some 15, none, [], .bld [.np, (.bo false), (.it .i64 0)] [(0, 1, (.t 14)), (1, 1, (.k (.bo true)))]⟩, ⟨some 16, none, [], .bxh (.t 15)⟩, mV 2 16, mK 3 (.it .i64 0)] [])
.ret))))⟩
def c36 : Ev.Fn := d36.den
def p36 : Pol := { loc := [], md := .rw, mds := mds, heap := [], own := [], ord := [], clr := [], mask := [], fns := [], lcl := [] }
theorem r36 : FnOK Tryz.prog mds 36 c36 := .read (pol := p36) (d := d36) Tryz.func36 (by kernel_rfl) (by kernel_rfl) rfl rfl (by kernel_rfl)

def d37 : DFn := ⟨[(.c .one)], [(.g [.one]), (.c .one)], .pure, [.cell 2 1 true, .tmp 3],
(.seq (.reg false [
⟨some 2, none, [], .alc [(.it .i64 0)]⟩, mK 3 (.it .i64 0)] [])
(.seq (.seq (.reg false [
mV 4 0, cP 5 58 [(.t 4)], ⟨some 6, none, [], .un .not (.t 5)⟩] [])
(.cond (.t 6)
(.seq (.reg false [
⟨some 7, none, [], .bld [(.it .i64 0)] []⟩, sO 1 2 7, mK 3 (.it .i64 1)] [])
.ret)
.skip))
(.seq (.reg false [
mV 8 0, ⟨some 9, none, [], .bld [(.it .i64 0)] [(0, 1, (.t 8))]⟩, sO 1 2 9, mK 3 (.it .i64 0)] [])
.ret)))⟩
def c37 : Ev.Fn := d37.den
def p37 : Pol := { loc := [2], md := .pure, mds := mds, heap := [], own := [], ord := [(0, [1, 0])], clr := [], mask := [], fns := [], lcl := [] }
theorem r37 : FnOK Tryz.prog mds 37 c37 := .read (pol := p37) (d := d37) Tryz.func37 (by kernel_rfl) (by kernel_rfl) rfl rfl (by kernel_rfl)

def d38 : DFn := ⟨[(.c (.sl [.one, .one]))], [(.c (.sl [.one]))], .pure, [.tmp 2],
(.seq (.reg false [
mK 2 .ns] [])
(.seq (.reg false [
mK 3 .ns] [])
(.seq (.seq (.reg false [
mV 7 0, lN 8 false 7, mK 9 (.it .i64 0)] [])
(.blk 0 (.loop [3, 7, 8, 9] [5]
(.seq (.reg false [
⟨some 10, none, [], .bin .no .lss (.t 9) (.t 8)⟩] [])
(.seq (.cond (.t 10)
.skip
(.exit 0))
(.seq (.blk 1 (.seq (.reg false [
⟨some 11, none, [], .ias 2 (.t 7) (.t 9)⟩, lQ 12 2 11, ⟨some 5, none, [], .alc [(.it .i64 0), (.it .i64 0)]⟩, sO 2 5 12] [])
(.seq (.reg false [
fA 13 1 5, lD 14 1 13, mV 6 14] [13])
(.reg false [
mV 15 3, fA 16 0 5, lD 17 1 16, ⟨some 18, none, [], .bin .no .shr (.t 17) (.k (.it .u64 8))⟩, cV 19 .u8 18, fA 20 0 5, lD 21 1 20, cV 22 .u8 21, mV 23 6, ⟨some 24, none, [], .bin .no .shr (.t 23) (.k (.it .u64 24))⟩, cV 25 .u8 24, mV 26 6, ⟨some 27, none, [], .bin .no .shr (.t 26) (.k (.it .u64 16))⟩, cV 28 .u8 27, mV 29 6, ⟨some 30, none, [], .bin .no .shr (.t 29) (.k (.it .u64 8))⟩, cV 31 .u8 30, mV 32 6, cV 33 .u8 32, ⟨some 34, none, [], .bsv [.one] 1 (List.replicate 6 [(.it .u8 0)]) [(0, (.t 19)), (1, (.t 22)), (2, (.t 25)), (3, (.t 28)), (4, (.t 31)), (5, (.t 33))]⟩, ⟨some 35, none, [], .app 1 1 (.t 15) (.t 34)⟩, mV 3 35] [16, 20]))))
(.reg false [
⟨some 36, none, [], .bin .no .add (.t 9) (.k (.it .i64 1))⟩, mV 9 36] [])))))))
(.seq (.reg false [
mV 37 3, mV 2 37] [])
.ret))))⟩
def c38 : Ev.Fn := d38.den
def p38 : Pol := { loc := [5], md := .pure, mds := mds, heap := [35], own := [35], ord := [], clr := [(5, [13]), (6, [16, 20])], mask := [(3, [3, 7, 8, 9], [5])], fns := [], lcl := [] }
theorem r38 : FnOK Tryz.prog mds 38 c38 := .read (pol := p38) (d := d38) Tryz.func38 (by kernel_rfl) (by kernel_rfl) rfl rfl (by kernel_rfl)

def d39 : DFn := ⟨[(.c (.sl [.one, .one, .one]))], [(.c .one)], .pure, [.tmp 2],
(.seq (.reg false [
mK 2 (.bo false)] [])
(.seq (.reg false [
mK 3 (.it .i64 0)] [])
(.seq (.seq (.reg false [
mV 6 0, lN 7 false 6, mK 8 (.it .i64 0)] [])
(.blk 0 (.loop [3, 6, 7, 8] [5]
(.seq (.reg false [
⟨some 9, none, [], .bin .no .lss (.t 8) (.t 7)⟩] [])
(.seq (.cond (.t 9)
.skip
(.exit 0))
(.seq (.blk 1 (.seq (.reg false [
⟨some 10, none, [], .ias 3 (.t 6) (.t 8)⟩, lQ 11 3 10, ⟨some 5, none, [], .alc [(.st []), (.st []), (.it .i64 0)]⟩, sO 3 5 11] [])
(.seq (.reg false [
mV 12 3, fA 13 0 5, lQ 14 2 13, cP 15 59 [(.t 14)], ⟨some 16, none, [], .bin .no .add (.t 12) (.t 15)⟩, mV 3 16] [13])
(.seq (.reg false [
fA 17 0 5, fA 18 0 17, lD 19 1 18, lN 20 true 19, ⟨some 21, none, [], .bin .no .gtr (.t 20) (.k (.it .i64 65536))⟩, mV 22 21, ⟨some 23, some (22, false), [], .fad 0 (.t 5)⟩, ⟨some 24, some (22, false), [], .fad 1 (.t 23)⟩, ⟨some 25, some (22, false), [], .ld 1 false (.t 24)⟩, ⟨some 26, some (22, false), [], .len true (.t 25)⟩, ⟨some 27, some (22, false), [], .bin .no .gtr (.t 26) (.k (.it .i64 65536))⟩, ⟨some 28, none, [], .pick (.t 22) (.k (.bo true)) (.t 27)⟩, mV 29 28, ⟨some 30, some (29, false), [], .mov (.t 3)⟩, ⟨some 31, some (29, false), [], .bin .no .gtr (.t 30) (.k (.it .i64 65536))⟩, ⟨some 32, none, [], .pick (.t 29) (.k (.bo true)) (.t 31)⟩] [17, 18, 23, 24])
(.cond (.t 32)
(.seq (.reg false [
mK 2 (.bo false)] [])
.ret)
.skip)))))
(.reg false [
⟨some 33, none, [], .bin .no .add (.t 8) (.k (.it .i64 1))⟩, mV 8 33] [])))))))
(.seq (.reg false [
mK 2 (.bo true)] [])
.ret))))⟩
def c39 : Ev.Fn := d39.den
def p39 : Pol := { loc := [5], md := .pure, mds := mds, heap := [], own := [], ord := [], clr := [(5, [13]), (6, [17, 18, 23, 24])], mask := [(3, [3, 6, 7, 8], [5])], fns := [], lcl := [] }
theorem r39 : FnOK Tryz.prog mds 39 c39 := .read (pol := p39) (d := d39) Tryz.func39 (by kernel_rfl) (by kernel_rfl) rfl rfl (by kernel_rfl)

def d40 : DFn := ⟨[(.c .one), (.c .one)], [(.c .one)], .rw, [.tmp 4],
(.seq (.reg false [
mK 4 .np] [])
(.seq (.reg false [
mV 6 1, ⟨some 7, none, [], .bld [(.it .i64 0), (.it .i64 0), (.it .i64 0), (.it .i64 0), (.bo false), (.bo false)] [(0, 1, (.t 6)), (1, 1, (.k (.it .i64 0)))]⟩, ⟨some 8, none, [], .bxh (.t 7)⟩, mV 5 8] [])
(.seq (.reg false [
mV 10 5, mV 11 0, nK 12 11, fA 13 4 12, fA 14 2 13, lD 15 1 14, ⟨some 16, none, [], .call true .pure 37 [(.t 15)]⟩, mV 9 16, eX 17 9 0, eX 18 9 1, nK 19 10, fA 20 2 19, sO 1 20 17] [])
(.seq (.reg false [
mV 22 5, mV 23 0, nK 24 23, fA 25 1 24, fA 26 1 25, lD 27 1 26, ⟨some 28, none, [], .call true .pure 37 [(.t 27)]⟩, mV 21 28, eX 29 21 0, eX 30 21 1, nK 31 22, fA 32 3 31, sO 1 32 29] [])
(.seq (.reg false [
mV 33 0, mV 34 0, nK 35 34, fA 36 15 35, lD 37 1 36, mV 38 5, ⟨some 39, none, [], .bsl 1 [[.np]] [(0, (.t 38))]⟩, ⟨some 40, none, [], .app 1 8 (.t 37) (.t 39)⟩, nK 41 33, fA 42 15 41, sO 1 42 40] [])
(.seq (.reg false [
mV 43 5, mV 4 43] [])
.ret))))))⟩
def c40 : Ev.Fn := d40.den
def p40 : Pol := { loc := [], md := .rw, mds := mds, heap := [16, 28, 40, 39], own := [16, 28, 40], ord := [], clr := [], mask := [], fns := [], lcl := [] }
theorem r40 : FnOK Tryz.prog mds 40 c40 := .read (pol := p40) (d := d40) Tryz.func40 (by kernel_rfl) (by kernel_rfl) rfl rfl (by kernel_rfl)

def d41 : DFn := ⟨[(.c .one), (.c .one), (.c (.sl [.one, .one, .one])), (.c .one)], [], .rw, [],
(.seq (.reg false [
mV 11 0, nK 12 11, fA 13 11 12, lD 14 1 13, mV 15 2, cR 16 60 [(.t 14), (.t 15)], mV 8 16] [])
(.seq (.reg false [
mV 17 1, nK 18 17, fA 19 0 18, lD 20 1 19, ⟨some 21, none, [], .bld [(.it .i64 0), (.it .i64 0), (.it .i64 0), .ns] [(0, 1, (.k (.it .i64 1))), (2, 1, (.t 20))]⟩, ⟨some 9, none, [], .alc [(.it .i64 0), (.it .i64 0), (.it .i64 0), .ns]⟩, sO 4 9 21] [])
(.seq (.seq (.reg false [
mV 22 3] [])
(.cond (.t 22)
(.reg false [
fA 23 1 9, ⟨none, none, [], .sto 1 (.t 23) (.k (.it .i64 1))⟩] [23])
.skip))
(.seq (.blk 0 (.loop [0, 1, 3, 8, 9] []
(.blk 1 (.seq (.reg false [
mV 24 8, lN 25 false 24, mV 26 0, nK 27 26, fA 28 4 27, fA 29 3 28, lD 30 1 29, ⟨some 31, none, [], .mnx false (.t 25) (.t 30)⟩, mV 10 31] [])
(.seq (.reg true [
mV 32 8, mV 33 10, ⟨some 34, none, [], .slc false 1 (.t 32) none (some (.t 33))⟩, mV 35 8, mV 36 10, ⟨some 37, none, [], .slc false 1 (.t 35) (some (.t 36)) none⟩, fA 38 3 9, ⟨none, none, [35], .sto 1 (.t 38) (.t 34)⟩, mV 8 37] [38])
(.seq (.seq (.reg false [
mV 39 8, lN 40 false 39, ⟨some 41, none, [], .bin .no .eql (.t 40) (.k (.it .i64 0))⟩] [])
(.cond (.t 41)
(.reg false [
fA 42 1 9, lD 43 1 42, ⟨some 44, none, [], .bin .no .or (.t 43) (.k (.it .i64 4))⟩, fA 45 1 9, sO 1 45 44] [42, 45])
.skip))
(.seq (.reg true [
mV 46 0, mV 47 0, nK 48 47, fA 49 12 48, lD 50 1 49, lQ 51 4 9, ⟨some 52, none, [], .call true .pure 20 [(.t 50), (.t 51)]⟩, nK 53 46, fA 54 12 53, sO 1 54 52] [])
(.seq (.seq (.reg false [
mV 55 8, lN 56 false 55, ⟨some 57, none, [], .bin .no .eql (.t 56) (.k (.it .i64 0))⟩] [])
(.cond (.t 57)
(.exit 0)
.skip))
(.reg false [
mV 58 1, nK 59 58, fA 60 0 59, lD 61 1 60, ⟨some 62, none, [], .bld [(.it .i64 0), (.it .i64 0), (.it .i64 0), .ns] [(0, 1, (.k (.it .i64 9))), (2, 1, (.t 61))]⟩, sO 4 9 62] [])))))))))
(.seq (.reg false [
mV 63 1, nK 64 63, fA 65 5 64, ⟨none, none, [], .sto 1 (.t 65) (.k (.bo true))⟩] [])
(.reg false [
mV 66 0, mV 67 1, mV 68 3, cP 69 61 [(.t 68)], ⟨some 70, none, [], .bin .no .add (.k (.it .i64 10)) (.t 69)⟩, cR 71 49 [(.t 66), (.t 67), (.t 70)]] []))))))⟩
def c41 : Ev.Fn := d41.den
def p41 : Pol := { loc := [9], md := .rw, mds := mds, heap := [52], own := [52], ord := [], clr := [(3, [23]), (5, [38]), (7, [42, 45])], mask := [(4, [0, 1, 3, 8, 9], [])], fns := [], lcl := [] }
theorem r41 : FnOK Tryz.prog mds 41 c41 := .read (pol := p41) (d := d41) Tryz.func41 (by kernel_rfl) (by kernel_rfl) rfl rfl (by kernel_rfl)

def d42 : DFn := ⟨[(.c .one), (.c (.sl [.one]))], [(.c (.sl [.one, .one, .one, (.sl [.one])])), (.g [.one, .one, .one])], .rw, [.tmp 4, .cell 5 3 true],
(.seq (.reg false [
mK 4 .ns, ⟨some 5, none, [], .alc [(.it .i64 0), (.it .i64 0), (.it .i64 0)]⟩] [])
(.seq (.seq (.reg false [
mV 9 0, nK 10 9, fA 11 3 10, lQ 12 3 11, ⟨some 13, none, [], .bld [(.it .i64 0), (.it .i64 0), (.it .i64 0)] []⟩, ⟨some 14, none, [], .bin (.ag [0, 0, 0]) .neq (.t 12) (.t 13)⟩] [])
(.cond (.t 14)
(.seq (.reg true [
mV 15 0, nK 16 15, fA 17 3 16, lQ 18 3 17, mK 4 .ns, sO 3 5 18] [])
.ret)
.skip))
(.seq (.reg false [
mV 19 0, mV 20 1, cR 21 62 [(.t 19), (.t 20)], mV 1 21] [])
(.seq (.reg false [
mV 22 0, mV 23 0, nK 24 23, fA 25 2 24, lD 26 1 25, ⟨some 27, none, [], .app 1 1 (.k .ns) (.t 26)⟩, mV 28 1, ⟨some 29, none, [], .app 1 1 (.t 27) (.t 28)⟩, nK 30 22, fA 31 2 30, sO 1 31 29] [])
(.seq (.reg false [
mK 6 .ns] [])
(.seq (.blk 0 (.loop [0, 5, 6] [7]
(.seq (.seq (.reg false [
mV 32 0, nK 33 32, fA 34 3 33, lQ 35 3 34, ⟨some 36, none, [], .bld [(.it .i64 0), (.it .i64 0), (.it .i64 0)] []⟩, ⟨some 37, none, [], .bin (.ag [0, 0, 0]) .eql (.t 35) (.t 36)⟩] [])
(.cond (.t 37)
.skip
(.exit 0)))
(.blk 1 (.seq (.reg false [
mV 39 0, cR 40 63 [(.t 39)], mV 38 40, eX 41 38 0, eX 42 38 1, ⟨some 7, none, [], .alc [(.it .i64 0), (.it .i64 0), (.it .i64 0), .ns]⟩, sO 4 7 41, mV 8 42] [])
(.seq (.seq (.reg false [
mV 43 8, ⟨some 44, none, [], .un .not (.t 43)⟩] [])
(.cond (.t 44)
(.exit 0)
.skip))
(.reg false [
mV 45 6, lQ 46 4 7, ⟨some 47, none, [], .bsl 4 [[(.it .i64 0), (.it .i64 0), (.it .i64 0), .ns]] [(0, (.t 46))]⟩, ⟨some 48, none, [], .app 4 48 (.t 45) (.t 47)⟩, mV 6 48] [])))))))
(.seq (.reg true [
mV 49 6, mV 50 0, nK 51 50, fA 52 3 51, lQ 53 3 52, mV 4 49, sO 3 5 53] [])
.ret)))))))⟩
def c42 : Ev.Fn := d42.den
def p42 : Pol := { loc := [5, 7], md := .rw, mds := mds, heap := [27, 29, 48, 47], own := [27, 29, 48], ord := [(4, [0, 1, 2, 3, 4, 6, 5, 7, 8, 9, 10]), (7, [0, 5, 1, 2, 3, 4, 6, 7])], clr := [], mask := [(6, [0, 5, 6], [7])], fns := [], lcl := [] }
theorem r42 : FnOK Tryz.prog mds 42 c42 := .read (pol := p42) (d := d42) Tryz.func42 (by kernel_rfl) (by kernel_rfl) rfl rfl (by kernel_rfl)

def d43 : DFn := ⟨[(.c .one), (.g [.one, .one, .one, (.sl [.one])])], [], .rw, [],
(.seq (.reg false [
⟨some 3, none, [], .box (.t 1)⟩] [])
(.seq (.seq (.reg false [
mV 7 0, nK 8 7, fA 9 22 8, lD 10 1 9, ⟨some 11, none, [], .un .not (.t 10)⟩, mV 12 11, ⟨some 13, some (12, true), [], .fad 0 (.t 3)⟩, ⟨some 14, some (12, true), [], .ld 1 false (.t 13)⟩, ⟨some 15, some (12, true), [], .bin .no .neq (.t 14) (.k (.it .i64 4))⟩, ⟨some 16, some (12, true), [], .mov (.t 15)⟩, ⟨some 17, some (16, false), [], .fad 1 (.t 3)⟩, ⟨some 18, some (16, false), [], .ld 1 false (.t 17)⟩, ⟨some 19, some (16, false), [], .bin .no .and (.t 18) (.k (.it .i64 1))⟩, ⟨some 20, some (16, false), [], .bin .no .neq (.t 19) (.k (.it .i64 0))⟩, ⟨some 21, some (12, true), [], .pick (.t 16) (.k (.bo true)) (.t 20)⟩, ⟨some 22, none, [], .pick (.t 12) (.t 21) (.k (.bo false))⟩] [13, 17])
(.cond (.t 22)
(.seq (.reg false [
mV 23 0, cR 24 44 [(.t 23), (.k (.it .i64 1))]] [])
.ret)
.skip))
(.seq (.reg false [
mV 25 0, nK 26 25, fA 27 22 26, ⟨none, none, [], .sto 1 (.t 27) (.k (.bo true))⟩] [])
(.seq (.reg false [
mV 28 0, nK 29 28, fA 30 19 29, fA 31 0 30, lD 32 1 31, mV 4 32] [])
(.seq (.seq (.reg false [
mV 33 4, ⟨some 34, none, [], .bin .no .neq (.t 33) (.k (.it .i64 0))⟩, fA 35 0 3, lD 36 1 35, ⟨some 37, none, [], .bin .no .eql (.t 36) (.k (.it .i64 9))⟩, ⟨some 38, none, [], .bin .bo .neq (.t 34) (.t 37)⟩, mV 39 38, ⟨some 40, some (39, false), [], .mov (.t 4)⟩, ⟨some 41, some (39, false), [], .bin .no .neq (.t 40) (.k (.it .i64 0))⟩, ⟨some 42, some (39, false), [], .mov (.t 41)⟩, ⟨some 43, some (42, true), [], .fad 2 (.t 3)⟩, ⟨some 44, some (42, true), [], .ld 1 false (.t 43)⟩, ⟨some 45, some (42, true), [], .mov (.t 4)⟩, ⟨some 46, some (42, true), [], .bin .no .neq (.t 44) (.t 45)⟩, ⟨some 47, some (39, false), [], .pick (.t 42) (.t 46) (.k (.bo false))⟩, ⟨some 48, none, [], .pick (.t 39) (.k (.bo true)) (.t 47)⟩] [35, 43])
(.cond (.t 48)
(.seq (.reg false [
mV 49 0, cR 50 44 [(.t 49), (.k (.it .i64 1))]] [])
.ret)
.skip))
(.seq (.reg false [
lQ 52 4 3, cP 53 64 [(.t 52)], mV 51 53, eX 54 51 0, eX 55 51 1, ⟨some 5, none, [], .alc [(.it .i64 0), (.it .i64 0), (.bo false), (.bo false), (.bo false), .ns, (.it .i64 0), (.it .i64 0), (.it .i64 0), (.it .i64 0), .ns]⟩, ⟨some 6, none, [], .alc [(.it .i64 0), (.it .i64 0), (.it .i64 0)]⟩, sO 11 5 54, sO 3 6 55] [])
(.seq (.reg false [
fA 56 0 6, lD 57 1 56] [56])
(.blk 0 (.seq (.reg false [
⟨some 62, none, [], .bin .no .eql (.t 57) (.k (.it .i64 2))⟩, mV 61 62] [])
(.cond (.t 61)
(.reg false [
mV 63 0, fA 64 1 6, lD 65 1 64, cR 66 44 [(.t 63), (.t 65)]] [64])
(.seq (.reg false [
⟨some 68, none, [], .bin .no .eql (.t 57) (.k (.it .i64 1))⟩, mV 67 68] [])
(.cond (.t 67)
(.reg false [
mV 69 0, lQ 70 4 3, lQ 71 3 6, cR 72 65 [(.t 69), (.t 70), (.t 71)]] [])
(.reg false [
mV 58 0, lQ 59 11 5, cR 60 66 [(.t 58), (.t 59)]] [])))))))))))))⟩
def c43 : Ev.Fn := d43.den
def p43 : Pol := { loc := [3, 5, 6], md := .rw, mds := mds, heap := [], own := [], ord := [(7, [0, 5, 6, 1, 2, 3, 4, 7, 8])], clr := [(1, [13, 17]), (5, [35, 43]), (8, [56]), (11, [64])], mask := [], fns := [], lcl := [] }
theorem r43 : FnOK Tryz.prog mds 43 c43 := .read (pol := p43) (d := d43) Tryz.func43 (by kernel_rfl) (by kernel_rfl) rfl rfl (by kernel_rfl)

def d44 : DFn := ⟨[(.c .one), (.c .one)], [], .rw, [],
(.seq (.reg false [
mK 4 (.it .i64 0)] [])
(.seq (.seq (.reg false [
mV 5 0, nK 6 5, fA 7 0 6, lD 8 1 7] [])
(.cond (.t 8)
(.reg false [
mV 9 0, nK 10 9, fA 11 16 10, lD 12 1 11, mV 4 12] [])
.skip))
(.seq (.reg true [
mV 13 0, mV 14 0, nK 15 14, fA 16 12 15, lD 17 1 16, mV 18 4, mV 20 1, ⟨some 19, none, [], .call true .pure 67 [(.t 18)]⟩, cP 21 67 [(.t 20)], ⟨some 22, none, [16], .app 1 1 (.t 19) (.t 21)⟩, ⟨some 23, none, [], .bld [(.it .i64 0), (.it .i64 0), (.it .i64 0), .ns] [(0, 1, (.k (.it .i64 7))), (3, 1, (.t 22))]⟩, ⟨some 24, none, [], .call true .pure 20 [(.t 17), (.t 23)]⟩, nK 25 13, fA 26 12 25, sO 1 26 24] [])
(.seq (.reg false [
mV 27 0, mV 28 0, nK 29 27, fA 30 15 29, ⟨none, none, [], .sto 1 (.t 30) (.k .ns)⟩, nK 31 28, fA 32 24 31, ⟨none, none, [], .sto 1 (.t 32) (.k (.bo true))⟩] [])
(.reg false [
mV 33 0, mV 34 1, ⟨some 35, none, [], .bld [(.it .i64 0), (.it .i64 0), .ns, (.st []), (.bo false), (.it .i64 0)] [(0, 1, (.k (.it .i64 6))), (5, 1, (.t 34))]⟩, cR 36 68 [(.t 33), (.t 35)]] [])))))⟩
def c44 : Ev.Fn := d44.den
def p44 : Pol := { loc := [], md := .rw, mds := mds, heap := [19, 24], own := [19, 24], ord := [(3, [0, 1, 2, 3, 4, 5, 7, 6, 8, 9, 10, 11, 12, 13, 14])], clr := [], mask := [], fns := [], lcl := [] }
theorem r44 : FnOK Tryz.prog mds 44 c44 := .read (pol := p44) (d := d44) Tryz.func44 (by kernel_rfl) (by kernel_rfl) rfl rfl (by kernel_rfl)

def d45 : DFn := ⟨[(.c .one), (.c .one)], [(.c .one)], .rw, [.tmp 4],
(.seq (.reg false [
mK 4 .np] [])
(.seq (.seq (.reg false [
mV 7 0, nK 8 7, fA 9 15 8, lD 10 1 9, lN 11 false 10, mK 12 (.it .i64 0)] [])
(.blk 0 (.loop [1, 10, 11, 12] []
(.seq (.reg false [
⟨some 13, none, [], .bin .no .lss (.t 12) (.t 11)⟩] [])
(.seq (.cond (.t 13)
.skip
(.exit 0))
(.seq (.blk 1 (.seq (.reg false [
⟨some 14, none, [], .ias 1 (.t 10) (.t 12)⟩, lD 15 1 14, mV 6 15] [])
(.seq (.reg false [
mV 16 6, nK 17 16, fA 18 0 17, lD 19 1 18, mV 20 1, ⟨some 21, none, [], .bin .no .eql (.t 19) (.t 20)⟩] [])
(.cond (.t 21)
(.seq (.reg false [
mV 22 6, mV 4 22] [])
.ret)
.skip))))
(.reg false [
⟨some 23, none, [], .bin .no .add (.t 12) (.k (.it .i64 1))⟩, mV 12 23] [])))))))
(.seq (.reg false [
mK 4 .np] [])
.ret)))⟩
def c45 : Ev.Fn := d45.den
def p45 : Pol := { loc := [], md := .rw, mds := mds, heap := [], own := [], ord := [], clr := [], mask := [(2, [1, 10, 11, 12], [])], fns := [], lcl := [] }
theorem r45 : FnOK Tryz.prog mds 45 c45 := .read (pol := p45) (d := d45) Tryz.func45 (by kernel_rfl) (by kernel_rfl) rfl rfl (by kernel_rfl)

def d46 : DFn := ⟨[(.c .one)], [(.c .one)], .rw, [.tmp 2],
(.seq (.reg false [
mK 2 (.bo false)] [])
(.seq (.reg false [
mV 3 0, nK 4 3, fA 5 1 4, lD 6 1 5, ⟨some 7, none, [], .bin .no .eql (.t 6) (.k (.it .i64 1))⟩, mV 8 7, ⟨some 9, some (8, false), [], .mov (.t 0)⟩, ⟨some 10, some (8, false), [], .nck (.t 9)⟩, ⟨some 11, some (8, false), [], .fad 1 (.t 10)⟩, ⟨some 12, some (8, false), [], .ld 1 false (.t 11)⟩, ⟨some 13, some (8, false), [], .bin .no .eql (.t 12) (.k (.it .i64 3))⟩, ⟨some 14, none, [], .pick (.t 8) (.k (.bo true)) (.t 13)⟩, mV 2 14] [])
.ret))⟩
def c46 : Ev.Fn := d46.den
def p46 : Pol := { loc := [], md := .rw, mds := mds, heap := [], own := [], ord := [], clr := [], mask := [], fns := [], lcl := [] }
theorem r46 : FnOK Tryz.prog mds 46 c46 := .read (pol := p46) (d := d46) Tryz.func46 (by kernel_rfl) (by kernel_rfl) rfl rfl (by kernel_rfl)

def d47 : DFn := ⟨[(.c .one), (.c (.sl [.one]))], [(.c .one)], .pure, [.tmp 4],
(.seq (.reg false [
mK 4 (.it .i64 0)] [])
(.seq (.seq (.reg false [
mV 7 1, lN 8 false 7, mK 9 (.it .i64 0)] [])
(.blk 0 (.loop [0, 7, 8, 9] [6]
(.seq (.reg false [
⟨some 10, none, [], .bin .no .lss (.t 9) (.t 8)⟩] [])
(.seq (.cond (.t 10)
.skip
(.exit 0))
(.seq (.blk 1 (.seq (.reg false [
⟨some 11, none, [], .ias 1 (.t 7) (.t 9)⟩, lQ 12 1 11, ⟨some 6, none, [], .alc [(.it .i64 0)]⟩, sO 1 6 12] [])
(.reg false [
mV 13 0, fA 14 0 6, lD 15 1 14, ⟨some 16, none, [], .mnx false (.t 13) (.t 15)⟩, mV 0 16] [14])))
(.reg false [
⟨some 17, none, [], .bin .no .add (.t 9) (.k (.it .i64 1))⟩, mV 9 17] [])))))))
(.seq (.reg false [
mV 18 0, ⟨some 19, none, [], .mnx true (.t 18) (.k (.it .i64 0))⟩, mV 4 19] [])
.ret)))⟩
def c47 : Ev.Fn := d47.den
def p47 : Pol := { loc := [6], md := .pure, mds := mds, heap := [], own := [], ord := [], clr := [(4, [14])], mask := [(2, [0, 7, 8, 9], [6])], fns := [], lcl := [] }
theorem r47 : FnOK Tryz.prog mds 47 c47 := .read (pol := p47) (d := d47) Tryz.func47 (by kernel_rfl) (by kernel_rfl) rfl rfl (by kernel_rfl)

def d48 : DFn := ⟨[(.g [.one]), (.c .one)], [(.g [.one]), (.c .one)], .pure, [.cell 4 1 true, .tmp 5],
(.seq (.reg false [
⟨some 2, none, [], .box (.t 0)⟩, ⟨some 4, none, [], .alc [(.it .i64 0)]⟩, mK 5 (.bo false)] [])
(.seq (.seq (.reg false [
mV 6 1, ⟨some 7, none, [], .bin .no .lss (.t 6) (.k (.it .i64 0))⟩, mV 8 7, ⟨some 9, some (8, false), [], .mov (.t 1)⟩, ⟨some 10, some (8, false), [], .fad 0 (.t 2)⟩, ⟨some 11, some (8, false), [], .ld 1 false (.t 10)⟩, ⟨some 12, some (8, false), [], .bin .no .gtr (.t 9) (.t 11)⟩, ⟨some 13, none, [], .pick (.t 8) (.k (.bo true)) (.t 12)⟩] [10])
(.cond (.t 13)
(.seq (.reg false [
lQ 14 1 2, sO 1 4 14, mK 5 (.bo false)] [])
.ret)
.skip))
(.seq (.reg false [
fA 15 0 2, lD 16 1 15, mV 17 1, ⟨some 18, none, [], .bin .no .sub (.t 16) (.t 17)⟩, ⟨some 19, none, [], .bld [(.it .i64 0)] [(0, 1, (.t 18))]⟩, sO 1 4 19, mK 5 (.bo true)] [15])
.ret)))⟩
def c48 : Ev.Fn := d48.den
def p48 : Pol := { loc := [2, 4], md := .pure, mds := mds, heap := [], own := [], ord := [(0, [2, 0, 1])], clr := [(1, [10]), (3, [15])], mask := [], fns := [], lcl := [] }
theorem r48 : FnOK Tryz.prog mds 48 c48 := .read (pol := p48) (d := d48) Tryz.func48 (by kernel_rfl) (by kernel_rfl) rfl rfl (by kernel_rfl)

def d49 : DFn := ⟨[(.c .one), (.c .one), (.c .one)], [], .rw, [],
(.seq (.reg false [
mV 7 1, mV 8 1, nK 9 8, fA 10 1 9, lD 11 1 10, mV 12 2, ⟨some 13, none, [], .call true .pure 69 [(.t 11), (.t 12)]⟩, mV 6 13, eX 14 6 0, eX 15 6 1, nK 16 7, fA 17 1 16, sO 1 17 14] [])
(.seq (.reg false [
mV 18 1, nK 19 18, fA 20 1 19, lD 21 1 20, ⟨some 22, none, [], .bin .no .eql (.t 21) (.k (.it .i64 4))⟩] [])
(.cond (.t 22)
(.reg false [
mV 23 0, mV 24 1, nK 25 24, fA 26 0 25, lD 27 1 26, cR 28 70 [(.t 23), (.t 27)]] [])
.skip)))⟩
def c49 : Ev.Fn := d49.den
def p49 : Pol := { loc := [], md := .rw, mds := mds, heap := [13], own := [13], ord := [], clr := [], mask := [], fns := [], lcl := [] }
theorem r49 : FnOK Tryz.prog mds 49 c49 := .read (pol := p49) (d := d49) Tryz.func49 (by kernel_rfl) (by kernel_rfl) rfl rfl (by kernel_rfl)

def d50 : DFn := ⟨[(.g [.one, .one, .one, (.sl [.one])])], [(.c .one)], .pure, [.tmp 2],
(.seq (.reg false [
⟨some 1, none, [], .box (.t 0)⟩, mK 2 (.bo false)] [])
(.seq (.reg false [
fA 3 0 1, lD 4 1 3, ⟨some 5, none, [], .bin .no .geq (.t 4) (.k (.it .i64 0))⟩, mV 6 5, ⟨some 7, some (6, true), [], .fad 0 (.t 1)⟩, ⟨some 8, some (6, true), [], .ld 1 false (.t 7)⟩, ⟨some 9, some (6, true), [], .bin .no .leq (.t 8) (.k (.it .i64 255))⟩, ⟨some 10, none, [], .pick (.t 6) (.t 9) (.k (.bo false))⟩, mV 11 10, ⟨some 12, some (11, true), [], .fad 1 (.t 1)⟩, ⟨some 13, some (11, true), [], .ld 1 false (.t 12)⟩, ⟨some 14, some (11, true), [], .bin .no .geq (.t 13) (.k (.it .i64 0))⟩, ⟨some 15, none, [], .pick (.t 11) (.t 14) (.k (.bo false))⟩, mV 16 15, ⟨some 17, some (16, true), [], .fad 1 (.t 1)⟩, ⟨some 18, some (16, true), [], .ld 1 false (.t 17)⟩, ⟨some 19, some (16, true), [], .bin .no .leq (.t 18) (.k (.it .i64 255))⟩, ⟨some 20, none, [], .pick (.t 16) (.t 19) (.k (.bo false))⟩, mV 21 20, ⟨some 22, some (21, true), [], .fad 2 (.t 1)⟩, ⟨some 23, some (21, true), [], .ld 1 false (.t 22)⟩, ⟨some 24, some (21, true), [], .bin .no .geq (.t 23) (.k (.it .i64 0))⟩, ⟨some 25, none, [], .pick (.t 21) (.t 24) (.k (.bo false))⟩, mV 26 25, ⟨some 27, some (26, true), [], .fad 2 (.t 1)⟩, ⟨some 28, some (26, true), [], .ld 1 false (.t 27)⟩, ⟨some 29, some (26, true), [], .bin .no .leq (.t 28) (.k (.it .i64 2147483647))⟩, ⟨some 30, none, [], .pick (.t 26) (.t 29) (.k (.bo false))⟩, mV 31 30, ⟨some 32, some (31, true), [], .fad 3 (.t 1)⟩, ⟨some 33, some (31, true), [], .ld 1 false (.t 32)⟩, ⟨some 34, some (31, true), [], .len false (.t 33)⟩, ⟨some 35, some (31, true), [], .bin .no .leq (.t 34) (.k (.it .i64 16777215))⟩, ⟨some 36, none, [], .pick (.t 31) (.t 35) (.k (.bo false))⟩, mV 2 36] [3, 7, 12, 17, 22, 27, 32])
.ret))⟩
def c50 : Ev.Fn := d50.den
def p50 : Pol := { loc := [1], md := .pure, mds := mds, heap := [], own := [], ord := [(0, [1, 0])], clr := [(1, [3, 7, 12, 17, 22, 27, 32])], mask := [], fns := [], lcl := [] }
theorem r50 : FnOK Tryz.prog mds 50 c50 := .read (pol := p50) (d := d50) Tryz.func50 (by kernel_rfl) (by kernel_rfl) rfl rfl (by kernel_rfl)

def d51 : DFn := ⟨[(.c (.sl [.one, .one])), (.c (.sl [.one, .one]))], [(.c .one)], .pure, [.tmp 4],
(.seq (.reg false [
mK 4 (.bo false)] [])
(.seq (.seq (.reg false [
mV 6 0, lN 7 false 6, mV 8 1, lN 9 false 8, ⟨some 10, none, [], .bin .no .neq (.t 7) (.t 9)⟩] [])
(.cond (.t 10)
(.seq (.reg false [
mK 4 (.bo false)] [])
.ret)
.skip))
(.seq (.seq (.reg false [
mK 5 (.it .i64 0)] [])
(.blk 0 (.loop [0, 1, 5] []
(.seq (.seq (.reg false [
mV 11 5, mV 12 0, lN 13 false 12, ⟨some 14, none, [], .bin .no .lss (.t 11) (.t 13)⟩] [])
(.cond (.t 14)
.skip
(.exit 0)))
(.seq (.blk 1 (.seq (.reg true [
mV 17 0, mV 18 5, ⟨some 19, none, [], .ias 2 (.t 17) (.t 18)⟩, lQ 20 2 19, mV 21 1, mV 22 5, ⟨some 23, none, [], .ias 2 (.t 21) (.t 22)⟩, lQ 24 2 23, ⟨some 25, none, [], .bin (.ag [1, 1]) .neq (.t 20) (.t 24)⟩] [])
(.cond (.t 25)
(.seq (.reg false [
mK 4 (.bo false)] [])
.ret)
.skip)))
(.reg false [
mV 15 5, ⟨some 16, none, [], .bin .no .add (.t 15) (.k (.it .i64 1))⟩, mV 5 16] []))))))
(.seq (.reg false [
mK 4 (.bo true)] [])
.ret))))⟩
def c51 : Ev.Fn := d51.den
def p51 : Pol := { loc := [], md := .pure, mds := mds, heap := [], own := [], ord := [], clr := [], mask := [(4, [0, 1, 5], [])], fns := [], lcl := [] }
theorem r51 : FnOK Tryz.prog mds 51 c51 := .read (pol := p51) (d := d51) Tryz.func51 (by kernel_rfl) (by kernel_rfl) rfl rfl (by kernel_rfl)

def d52 : DFn := ⟨[(.g [.one, .one, .one, (.sl [.one])])], [(.c .one)], .pure, [.tmp 2],
(.seq (.reg false [
⟨some 1, none, [], .box (.t 0)⟩, mK 2 (.bo false)] [])
(.seq (.reg false [
fA 3 0 1, lD 4 1 3, ⟨some 5, none, [], .bin .no .geq (.t 4) (.k (.it .i64 0))⟩, mV 6 5, ⟨some 7, some (6, true), [], .fad 0 (.t 1)⟩, ⟨some 8, some (6, true), [], .ld 1 false (.t 7)⟩, ⟨some 9, some (6, true), [], .bin .no .lss (.t 8) (.k (.it .i64 256))⟩, ⟨some 10, none, [], .pick (.t 6) (.t 9) (.k (.bo false))⟩, mV 11 10, ⟨some 12, some (11, true), [], .fad 1 (.t 1)⟩, ⟨some 13, some (11, true), [], .ld 1 false (.t 12)⟩, ⟨some 14, some (11, true), [], .bin .no .geq (.t 13) (.k (.it .i64 0))⟩, ⟨some 15, none, [], .pick (.t 11) (.t 14) (.k (.bo false))⟩, mV 16 15, ⟨some 17, some (16, true), [], .fad 1 (.t 1)⟩, ⟨some 18, some (16, true), [], .ld 1 false (.t 17)⟩, ⟨some 19, some (16, true), [], .bin .no .lss (.t 18) (.k (.it .i64 256))⟩, ⟨some 20, none, [], .pick (.t 16) (.t 19) (.k (.bo false))⟩, mV 21 20, ⟨some 22, some (21, true), [], .fad 2 (.t 1)⟩, ⟨some 23, some (21, true), [], .ld 1 false (.t 22)⟩, ⟨some 24, some (21, true), [], .bin .no .geq (.t 23) (.k (.it .i64 0))⟩, ⟨some 25, none, [], .pick (.t 21) (.t 24) (.k (.bo false))⟩, mV 26 25, ⟨some 27, some (26, true), [], .fad 2 (.t 1)⟩, ⟨some 28, some (26, true), [], .ld 1 false (.t 27)⟩, ⟨some 29, some (26, true), [], .bin .no .leq (.t 28) (.k (.it .i64 2147483647))⟩, ⟨some 30, none, [], .pick (.t 26) (.t 29) (.k (.bo false))⟩, mV 31 30, ⟨some 32, some (31, true), [], .fad 3 (.t 1)⟩, ⟨some 33, some (31, true), [], .ld 1 false (.t 32)⟩, ⟨some 34, some (31, true), [], .len false (.t 33)⟩, ⟨some 35, some (31, true), [], .bin .no .leq (.t 34) (.k (.it .i64 16777215))⟩, ⟨some 36, none, [], .pick (.t 31) (.t 35) (.k (.bo false))⟩, mV 2 36] [3, 7, 12, 17, 22, 27, 32])
.ret))⟩
def c52 : Ev.Fn := d52.den
def p52 : Pol := { loc := [1], md := .pure, mds := mds, heap := [], own := [], ord := [(0, [1, 0])], clr := [(1, [3, 7, 12, 17, 22, 27, 32])], mask := [], fns := [], lcl := [] }
theorem r52 : FnOK Tryz.prog mds 52 c52 := .read (pol := p52) (d := d52) Tryz.func52 (by kernel_rfl) (by kernel_rfl) rfl rfl (by kernel_rfl)

def d53 : DFn := ⟨[(.c .one), (.c .one), (.c .one)], [(.c .one)], .rw, [.tmp 6],
(.seq (.reg false [
mK 6 (.bo false)] [])
(.seq (.seq (.reg false [
mV 7 0, mV 8 1, mV 9 2, cP 10 67 [(.t 9)], ⟨some 11, none, [], .bld [(.it .i64 0), (.it .i64 0), (.it .i64 0), .ns] [(0, 1, (.k (.it .i64 3))), (2, 1, (.t 8)), (3, 1, (.t 10))]⟩, cR 12 71 [(.t 7), (.t 11)], ⟨some 13, none, [], .un .not (.t 12)⟩] [])
(.cond (.t 13)
(.seq (.reg false [
mK 6 (.bo false)] [])
.ret)
.skip))
(.seq (.reg false [
mV 14 0, mV 15 1, cR 16 72 [(.t 14), (.t 15)]] [])
(.seq (.reg false [
mK 6 (.bo true)] [])
.ret))))⟩
def c53 : Ev.Fn := d53.den
def p53 : Pol := { loc := [], md := .rw, mds := mds, heap := [], own := [], ord := [], clr := [], mask := [], fns := [], lcl := [] }
theorem r53 : FnOK Tryz.prog mds 53 c53 := .read (pol := p53) (d := d53) Tryz.func53 (by kernel_rfl) (by kernel_rfl) rfl rfl (by kernel_rfl)

def d54 : DFn := ⟨[(.g [.one]), (.c .one)], [(.g [.one]), (.c .one)], .pure, [.cell 4 1 true, .tmp 5],
(.seq (.reg false [
⟨some 2, none, [], .box (.t 0)⟩, ⟨some 4, none, [], .alc [(.it .i64 0)]⟩, mK 5 (.bo false)] [])
(.seq (.seq (.reg false [
mV 6 1, cP 7 58 [(.t 6)], ⟨some 8, none, [], .un .not (.t 7)⟩, mV 9 8, ⟨some 10, some (9, false), [], .mov (.t 1)⟩, ⟨some 11, some (9, false), [], .fad 0 (.t 2)⟩, ⟨some 12, some (9, false), [], .ld 1 false (.t 11)⟩, ⟨some 13, some (9, false), [], .bin .no .sub (.k (.it .i64 2147483647)) (.t 12)⟩, ⟨some 14, some (9, false), [], .bin .no .gtr (.t 10) (.t 13)⟩, ⟨some 15, none, [], .pick (.t 9) (.k (.bo true)) (.t 14)⟩] [11])
(.cond (.t 15)
(.seq (.reg false [
lQ 16 1 2, sO 1 4 16, mK 5 (.bo false)] [])
.ret)
.skip))
(.seq (.reg false [
fA 17 0 2, lD 18 1 17, mV 19 1, ⟨some 20, none, [], .bin .no .add (.t 18) (.t 19)⟩, ⟨some 21, none, [], .bld [(.it .i64 0)] [(0, 1, (.t 20))]⟩, sO 1 4 21, mK 5 (.bo true)] [17])
.ret)))⟩
def c54 : Ev.Fn := d54.den
def p54 : Pol := { loc := [2, 4], md := .pure, mds := mds, heap := [], own := [], ord := [(0, [2, 0, 1])], clr := [(1, [11]), (3, [17])], mask := [], fns := [], lcl := [] }
theorem r54 : FnOK Tryz.prog mds 54 c54 := .read (pol := p54) (d := d54) Tryz.func54 (by kernel_rfl) (by kernel_rfl) rfl rfl (by kernel_rfl)

def d55 : DFn := ⟨[(.c .one), (.c .one), (.c .one)], [(.c .one)], .rw, [.tmp 6],
(.seq (.reg false [
mK 6 (.bo false)] [])
(.seq (.seq (.reg false [
mV 8 2, ⟨some 9, none, [], .bin .no .eql (.t 8) (.k (.it .i64 0))⟩] [])
(.cond (.t 9)
(.seq (.reg false [
mK 6 (.bo true)] [])
.ret)
.skip))
(.seq (.seq (.reg false [
mV 10 0, mV 11 1, cR 12 45 [(.t 10), (.t 11)], mV 7 12] [])
(.seq (.reg false [
mV 13 7, ⟨some 14, none, [], .bin .ptr .neq (.t 13) (.k .np)⟩, mV 15 14, ⟨some 16, some (15, true), [], .mov (.t 7)⟩, ⟨some 17, some (15, true), [], .call false .rw 73 [(.t 16)]⟩, ⟨some 18, none, [], .pick (.t 15) (.t 17) (.k (.bo false))⟩] [])
(.cond (.t 18)
(.seq (.seq (.reg false [
mV 19 0, mV 20 1, mV 21 2, cP 22 67 [(.t 21)], ⟨some 23, none, [], .bld [(.it .i64 0), (.it .i64 0), (.it .i64 0), .ns] [(0, 1, (.k (.it .i64 8))), (2, 1, (.t 20)), (3, 1, (.t 22))]⟩, cR 24 71 [(.t 19), (.t 23)], ⟨some 25, none, [], .un .not (.t 24)⟩] [])
(.cond (.t 25)
(.seq (.reg false [
mK 6 (.bo false)] [])
.ret)
.skip))
(.reg false [
mV 27 7, mV 28 7, nK 29 28, fA 30 3 29, lQ 31 1 30, mV 32 2, ⟨some 33, none, [], .call true .pure 54 [(.t 31), (.t 32)]⟩, mV 26 33, eX 34 26 0, eX 35 26 1, nK 36 27, fA 37 3 36, sO 1 37 34] []))
.skip)))
(.seq (.seq (.reg false [
mV 38 0, mV 39 2, cP 40 67 [(.t 39)], ⟨some 41, none, [], .bld [(.it .i64 0), (.it .i64 0), (.it .i64 0), .ns] [(0, 1, (.k (.it .i64 8))), (3, 1, (.t 40))]⟩, cR 42 71 [(.t 38), (.t 41)], ⟨some 43, none, [], .un .not (.t 42)⟩] [])
(.cond (.t 43)
(.seq (.reg false [
mK 6 (.bo false)] [])
.ret)
.skip))
(.seq (.reg false [
mV 45 0, mV 46 0, nK 47 46, fA 48 14 47, lQ 49 1 48, mV 50 2, ⟨some 51, none, [], .call true .pure 54 [(.t 49), (.t 50)]⟩, mV 44 51, eX 52 44 0, eX 53 44 1, nK 54 45, fA 55 14 54, sO 1 55 52] [])
(.seq (.reg false [
mK 6 (.bo true)] [])
.ret))))))⟩
def c55 : Ev.Fn := d55.den
def p55 : Pol := { loc := [], md := .rw, mds := mds, heap := [33, 51], own := [33, 51], ord := [], clr := [], mask := [], fns := [], lcl := [] }
theorem r55 : FnOK Tryz.prog mds 55 c55 := .read (pol := p55) (d := d55) Tryz.func55 (by kernel_rfl) (by kernel_rfl) rfl rfl (by kernel_rfl)

def d56 : DFn := ⟨[(.c .one)], [(.c .one)], .pure, [.tmp 2],
(.seq (.reg false [
mK 2 (.bo false)] [])
(.seq (.reg false [
mV 3 0, ⟨some 4, none, [], .bin .no .geq (.t 3) (.k (.it .i64 16384))⟩, mV 5 4, ⟨some 6, some (5, true), [], .mov (.t 0)⟩, ⟨some 7, some (5, true), [], .bin .no .leq (.t 6) (.k (.it .i64 16777215))⟩, ⟨some 8, none, [], .pick (.t 5) (.t 7) (.k (.bo false))⟩, mV 2 8] [])
.ret))⟩
def c56 : Ev.Fn := d56.den
def p56 : Pol := { loc := [], md := .pure, mds := mds, heap := [], own := [], ord := [], clr := [], mask := [], fns := [], lcl := [] }
theorem r56 : FnOK Tryz.prog mds 56 c56 := .read (pol := p56) (d := d56) Tryz.func56 (by kernel_rfl) (by kernel_rfl) rfl rfl (by kernel_rfl)

def d57 : DFn := ⟨[(.c .one)], [(.c .one), (.c .one)], .rw, [.tmp 2, .tmp 3],
(.seq (.reg false [
mK 2 .np, mK 3 (.it .i64 0)] [])
(.seq (.seq (.reg false [
mV 4 0, cP 5 74 [(.t 4)], ⟨some 6, none, [], .un .not (.t 5)⟩] [])
(.cond (.t 6)
(.seq (.reg false [
mK 2 .np, mK 3 (.it .i64 1)] [])
.ret)
.skip))
(.seq (.reg false [
cP 7 75 [], mV 8 0, ⟨some 9, none, [], .bld [.ns, .ns, (.it .i64 0), (.it .i64 0)] [(1, 1, (.t 7)), (3, 1, (.t 8))]⟩, ⟨some 10, none, [], .bxh (.t 9)⟩, mV 2 10, mK 3 (.it .i64 0)] [])
.ret)))⟩
def c57 : Ev.Fn := d57.den
def p57 : Pol := { loc := [], md := .rw, mds := mds, heap := [], own := [], ord := [(3, [1, 0, 2, 3, 4, 5])], clr := [], mask := [], fns := [], lcl := [] }
theorem r57 : FnOK Tryz.prog mds 57 c57 := .read (pol := p57) (d := d57) Tryz.func57 (by kernel_rfl) (by kernel_rfl) rfl rfl (by kernel_rfl)

def d58 : DFn := ⟨[(.c .one)], [(.c .one)], .pure, [.tmp 2],
(.seq (.reg false [
mK 2 (.bo false)] [])
(.seq (.reg false [
mV 3 0, ⟨some 4, none, [], .bin .no .geq (.t 3) (.k (.it .i64 0))⟩, mV 5 4, ⟨some 6, some (5, true), [], .mov (.t 0)⟩, ⟨some 7, some (5, true), [], .bin .no .leq (.t 6) (.k (.it .i64 2147483647))⟩, ⟨some 8, none, [], .pick (.t 5) (.t 7) (.k (.bo false))⟩, mV 2 8] [])
.ret))⟩
def c58 : Ev.Fn := d58.den
def p58 : Pol := { loc := [], md := .pure, mds := mds, heap := [], own := [], ord := [], clr := [], mask := [], fns := [], lcl := [] }
theorem r58 : FnOK Tryz.prog mds 58 c58 := .read (pol := p58) (d := d58) Tryz.func58 (by kernel_rfl) (by kernel_rfl) rfl rfl (by kernel_rfl)

def d59 : DFn := ⟨[(.g [.one, .one])], [(.c .one)], .pure, [.tmp 2],
(.seq (.reg false [
⟨some 1, none, [], .box (.t 0)⟩, mK 2 (.it .i64 0)] [])
(.seq (.reg false [
fA 3 0 1, lD 4 1 3, lN 5 true 4, fA 6 1 1, lD 7 1 6, lN 8 true 7, ⟨some 9, none, [], .bin .no .add (.t 5) (.t 8)⟩, ⟨some 10, none, [], .bin .no .add (.t 9) (.k (.it .i64 32))⟩, mV 2 10] [3, 6])
.ret))⟩
def c59 : Ev.Fn := d59.den
def p59 : Pol := { loc := [1], md := .pure, mds := mds, heap := [], own := [], ord := [(0, [1, 0])], clr := [(1, [3, 6])], mask := [], fns := [], lcl := [] }
theorem r59 : FnOK Tryz.prog mds 59 c59 := .read (pol := p59) (d := d59) Tryz.func59 (by kernel_rfl) (by kernel_rfl) rfl rfl (by kernel_rfl)

def d60 : DFn := ⟨[(.c .one), (.c (.sl [.one, .one, .one]))], [(.c (.sl [.one]))], .rw, [.tmp 4],
(.seq (.reg false [
mK 4 .ns] [])
(.seq (.reg false [
mV 10 0, cR 11 76 [(.t 10)], mV 5 11] [])
(.seq (.seq (.reg false [
mV 12 1, lN 13 false 12, mK 14 (.it .i64 0)] [])
(.blk 0 (.loop [0, 5, 12, 13, 14] [7]
(.seq (.reg false [
⟨some 15, none, [], .bin .no .lss (.t 14) (.t 13)⟩] [])
(.seq (.cond (.t 15)
.skip
(.exit 0))
(.seq (.blk 1 (.seq (.reg false [
⟨some 16, none, [], .ias 3 (.t 12) (.t 14)⟩, lQ 17 3 16, ⟨some 7, none, [], .alc [(.st []), (.st []), (.it .i64 0)]⟩, sO 3 7 17] [])
(.seq (.reg true [
mV 19 0, nK 20 19, fA 21 0 20, lD 22 1 21, fA 23 0 7, lQ 24 2 23, cR 25 77 [(.t 22), (.t 24)], mV 18 25, eX 26 18 0, eX 27 18 1, mV 8 26, mV 9 27] [23])
(.blk 2 (.seq (.reg false [
mV 34 9, mV 35 34, ⟨some 36, some (35, true), [], .fad 2 (.t 7)⟩, ⟨some 37, some (35, true), [], .ld 1 false (.t 36)⟩, ⟨some 38, some (35, true), [], .bin .no .neq (.t 37) (.k (.it .i64 3))⟩, ⟨some 39, none, [], .pick (.t 35) (.t 38) (.k (.bo false))⟩, mV 33 39] [36])
(.cond (.t 33)
(.reg false [
mV 40 5, mV 41 8, cP 42 78 [(.t 40), (.k (.it .i64 7)), (.k (.it .u8 128)), (.t 41)], mV 5 42] [])
(.seq (.reg false [
fA 44 2 7, lD 45 1 44, ⟨some 46, none, [], .bin .no .eql (.t 45) (.k (.it .i64 1))⟩, mV 43 46] [44])
(.cond (.t 43)
(.seq (.reg false [
mV 47 5, mV 48 8, fA 49 0 7, lQ 50 2 49, cP 51 79 [(.t 47), (.t 48), (.k (.it .i64 6)), (.k (.it .u8 64)), (.t 50)], mV 5 51] [49])
(.reg true [
mV 52 0, nK 53 52, fA 54 0 53, lD 55 1 54, fA 56 0 7, lQ 57 2 56, cR 58 80 [(.t 55), (.t 57)]] [56]))
(.seq (.reg false [
fA 60 2 7, lD 61 1 60, ⟨some 62, none, [], .bin .no .eql (.t 61) (.k (.it .i64 3))⟩, mV 59 62] [60])
(.cond (.t 59)
(.reg false [
mV 63 5, mV 64 8, fA 65 0 7, lQ 66 2 65, cP 67 79 [(.t 63), (.t 64), (.k (.it .i64 4)), (.k (.it .u8 16)), (.t 66)], mV 5 67] [65])
(.reg false [
mV 28 5, mV 29 8, fA 30 0 7, lQ 31 2 30, cP 32 79 [(.t 28), (.t 29), (.k (.it .i64 4)), (.k (.it .u8 0)), (.t 31)], mV 5 32] [30])))))))))))
(.reg false [
⟨some 68, none, [], .bin .no .add (.t 14) (.k (.it .i64 1))⟩, mV 14 68] [])))))))
(.seq (.reg false [
mV 69 5, mV 4 69] [])
.ret))))⟩
def c60 : Ev.Fn := d60.den
def p60 : Pol := { loc := [7], md := .rw, mds := mds, heap := [], own := [], ord := [], clr := [(5, [23]), (7, [36]), (9, [44]), (10, [49]), (11, [56]), (12, [60]), (13, [65]), (6, [30])], mask := [(3, [0, 5, 12, 13, 14], [7])], fns := [], lcl := [] }
theorem r60 : FnOK Tryz.prog mds 60 c60 := .read (pol := p60) (d := d60) Tryz.func60 (by kernel_rfl) (by kernel_rfl) rfl rfl (by kernel_rfl)

def d61 : DFn := ⟨[(.c .one)], [(.c .one)], .pure, [.tmp 2],
(.seq (.reg false [
mK 2 (.it .i64 0)] [])
(.seq (.seq (.reg false [
mV 3 0] [])
(.cond (.t 3)
(.seq (.reg false [
mK 2 (.it .i64 1)] [])
.ret)
.skip))
(.seq (.reg false [
mK 2 (.it .i64 2)] [])
.ret)))⟩
def c61 : Ev.Fn := d61.den
def p61 : Pol := { loc := [], md := .pure, mds := mds, heap := [], own := [], ord := [], clr := [], mask := [], fns := [], lcl := [] }
theorem r61 : FnOK Tryz.prog mds 61 c61 := .read (pol := p61) (d := d61) Tryz.func61 (by kernel_rfl) (by kernel_rfl) rfl rfl (by kernel_rfl)

def d62 : DFn := ⟨[(.c .one), (.c (.sl [.one]))], [(.c (.sl [.one]))], .rw, [.tmp 4],
(.seq (.reg false [
mK 4 .ns] [])
(.seq (.blk 0 (.loop [0, 1] []
(.seq (.seq (.reg false [
mV 5 1, lN 6 false 5, ⟨some 7, none, [], .bin .no .gtr (.t 6) (.k (.it .i64 0))⟩, mV 8 7, ⟨some 9, some (8, true), [], .mov (.t 0)⟩, ⟨some 10, some (8, true), [], .nck (.t 9)⟩, ⟨some 11, some (8, true), [], .fad 1 (.t 10)⟩, ⟨some 12, some (8, true), [], .ld 1 false (.t 11)⟩, ⟨some 13, some (8, true), [], .bin .no .neq (.t 12) (.k (.st []))⟩, ⟨some 14, none, [], .pick (.t 8) (.t 13) (.k (.bo false))⟩] [])
(.cond (.t 14)
.skip
(.exit 0)))
(.blk 1 (.seq (.seq (.reg true [
mV 15 1, ⟨some 16, none, [], .ias 1 (.t 15) (.k (.it .i64 0))⟩, lD 17 1 16, mV 18 0, nK 19 18, fA 20 1 19, lD 21 1 20, ⟨some 22, none, [], .ixs (.t 21) (.k (.it .i64 0))⟩, ⟨some 23, none, [], .bin .no .neq (.t 17) (.t 22)⟩] [])
(.cond (.t 23)
(.seq (.reg false [
mV 24 0, cR 25 81 [(.t 24), (.k (.it .i64 1))]] [])
(.seq (.reg false [
mK 4 .ns] [])
.ret))
.skip))
(.reg true [
mV 26 0, mV 27 1, ⟨some 28, none, [], .slc false 1 (.t 27) (some (.k (.it .i64 1))) none⟩, mV 29 0, nK 30 29, fA 31 1 30, lD 32 1 31, ⟨some 33, none, [], .slc true 0 (.t 32) (some (.k (.it .i64 1))) none⟩, mV 1 28, nK 34 26, fA 35 1 34, sO 1 35 33] []))))))
(.seq (.reg false [
mV 36 1, mV 4 36] [])
.ret)))⟩
def c62 : Ev.Fn := d62.den
def p62 : Pol := { loc := [], md := .rw, mds := mds, heap := [], own := [], ord := [], clr := [], mask := [(1, [0, 1], [])], fns := [], lcl := [] }
theorem r62 : FnOK Tryz.prog mds 62 c62 := .read (pol := p62) (d := d62) Tryz.func62 (by kernel_rfl) (by kernel_rfl) rfl rfl (by kernel_rfl)

end Go.Proofs.YtpncefcicfhibaaGreatDoor.tab
