import Derived.Test.YtfnoiklmcmboeaaGreatDoorMemo
import Derived.Test.YtfnoiklmcmboeaaGreatDoorMemB
/- functions of one text, run once for some texts -/
set_option linter.unusedSectionVars false
set_option linter.unusedVariables false
set_option linter.unusedSimpArgs false
namespace Go.Proofs.YtfnoiklmcmboeaaGreatDoor
open Go hiding Fn
open Ev tab
def row295 : List (List V) := match mh297.tr with
 | .n (some b) _ _ => b.es
 | _ => []
def bv1 : V := (.hs 9 0 8)
def bh1 : Hp := ⟨10, 0, (.n (some ⟨610, false, row295⟩) (.n none (.n none (.n none .e .e) .e) (.n none (.n (some ⟨1, false, [[(uN 18)], [(uN 150)], [(uN 21)], [(uN 5)], [(uN 179)], [(uN 185)], [(uN 205)], [(uN 103)]]⟩) .e .e) .e)) (.n none (.n none (.n none .e .e) .e) (.n none .e .e)))⟩
theorem br1 : runF (callF F2 20000 200) 20000 c255 [mkB false [50, 32, 114, 101, 115, 101, 114, 118, 111, 105, 114]] h0 = .ret bv1 bh1 := by kernel_rfl
def bv2 : V := (.hs 9 0 8)
def bh2 : Hp := ⟨10, 0, (.n (some ⟨610, false, row295⟩) (.n none (.n none (.n none .e .e) .e) (.n none (.n (some ⟨1, false, [[(uN 164)], [(uN 126)], [(uN 86)], [(uN 28)], [(uN 197)], [(uN 129)], [(uN 192)], [(uN 127)]]⟩) .e .e) .e)) (.n none (.n none (.n none .e .e) .e) (.n none .e .e)))⟩
theorem br2 : runF (callF F2 20000 200) 20000 c255 [mkB false [109, 97, 120, 45, 97, 103, 101, 61, 54, 48]] h0 = .ret bv2 bh2 := by kernel_rfl
def bv3 : V := (.tu [(.st [50, 32, 114, 101, 115, 101, 114, 118, 111, 105, 114]), (iN 0)])
def bh3 : Hp := ⟨12, 0, (.n (some ⟨610, false, row295⟩) (.n none (.n none (.n none .e .e) (.n (some ⟨1, false, [[(uN 50)], [(uN 32)], [(uN 114)], [(uN 101)], [(uN 115)], [(uN 101)], [(uN 114)], [(uN 118)], [(uN 111)], [(uN 105)], [(uN 114)]]⟩) .e .e)) (.n none (.n none .e .e) .e)) (.n none (.n none (.n none .e .e) .e) (.n none (.n none .e .e) .e)))⟩
theorem br3 : runF (callF F2 20000 200) 20000 c352 [mkB true [18, 150, 21, 5, 179, 185, 205, 103]] h0 = .ret bv3 bh3 := by kernel_rfl
def bv4 : V := (.tu [(.st [109, 97, 120, 45, 97, 103, 101, 61, 54, 48]), (iN 0)])
def bh4 : Hp := ⟨11, 0, (.n (some ⟨610, false, row295⟩) (.n none (.n none (.n none .e .e) .e) (.n none (.n none .e .e) .e)) (.n none (.n none (.n none .e .e) .e) (.n none (.n (some ⟨1, false, [[(uN 109)], [(uN 97)], [(uN 120)], [(uN 45)], [(uN 97)], [(uN 103)], [(uN 101)], [(uN 61)], [(uN 54)], [(uN 48)]]⟩) .e .e) .e)))⟩
theorem br4 : runF (callF F2 20000 200) 20000 c352 [mkB true [164, 126, 86, 28, 197, 129, 192, 127]] h0 = .ret bv4 bh4 := by kernel_rfl
def bv5 : V := (iN 8)
def bh5 : Hp := ⟨0, 0, .e⟩
theorem br5 : runF (callF F2 20000 200) 20000 c254 [mkB false [109, 97, 120, 45, 97, 103, 101, 61, 54, 48]] h0 = .ret bv5 bh5 := by kernel_rfl
def bv6 : V := (iN 1)
def bh6 : Hp := ⟨0, 0, .e⟩
theorem br6 : runF (callF F2 20000 200) 20000 c254 [mkB false [48]] h0 = .ret bv6 bh6 := by kernel_rfl
def bv7 : V := (iN 8)
def bh7 : Hp := ⟨0, 0, .e⟩
theorem br7 : runF (callF F2 20000 200) 20000 c254 [mkB false [50, 32, 114, 101, 115, 101, 114, 118, 111, 105, 114]] h0 = .ret bv7 bh7 := by kernel_rfl
def bv8 : V := (iN 1)
def bh8 : Hp := ⟨0, 0, .e⟩
theorem br8 : runF (callF F2 20000 200) 20000 c254 [mkB false [97]] h0 = .ret bv8 bh8 := by kernel_rfl
def bv9 : V := (.tu [(.ag [(.st [109, 97, 120, 45, 97, 103, 101]), (.st [54, 48]), (.bo true)]), (.bo true)])
def bh9 : Hp := ⟨0, 0, .e⟩
theorem br9 : runF (callF F2 20000 200) 20000 c329 [mkB false [109, 97, 120, 45, 97, 103, 101, 61, 54, 48]] h0 = .ret bv9 bh9 := by kernel_rfl
def bv10 : V := (.tu [(.hs 3 0 1), (.bo true)])
def bh10 : Hp := ⟨4, 0, (.n (some ⟨1, false, [[(.st [109, 97, 120, 45, 97, 103, 101, 61, 54, 48])]]⟩) (.n (some ⟨1, false, [[(.hs 3 0 1)]]⟩) (.n (some ⟨1, false, [[(.st [109, 97, 120, 45, 97, 103, 101, 61, 54, 48])]]⟩) .e .e) .e) (.n (some ⟨1, false, [[(iN 0)]]⟩) .e .e))⟩
theorem br10 : runF (callF F2 20000 200) 20000 c141 [mkB false [109, 97, 120, 45, 97, 103, 101, 61, 54, 48]] h0 = .ret bv10 bh10 := by kernel_rfl
def bv11 : V := (.tu [.ns, (.bo true)])
def bh11 : Hp := ⟨3, 0, (.n (some ⟨1, false, [[(.st [])]]⟩) (.n (some ⟨1, false, [[.ns]]⟩) .e .e) (.n (some ⟨1, false, [[(iN 0)]]⟩) .e .e))⟩
theorem br11 : runF (callF F2 20000 200) 20000 c141 [mkB false []] h0 = .ret bv11 bh11 := by kernel_rfl
def tb240 : List (List Nat × V × Hp) := [([50, 32, 114, 101, 115, 101, 114, 118, 111, 105, 114], bv1, bh1), ([109, 97, 120, 45, 97, 103, 101, 61, 54, 48], bv2, bh2)]
theorem to240 : FnOK Tryz.prog mds 255 (memoB c255 false tb240) := by
 refine memoB_ok table2 (fn := c255) (by rfl) (p := _) rfl fun m v h hm => ?_
 simp only [tb240, List.mem_cons, List.not_mem_nil, or_false, Prod.mk.injEq] at hm
 rcases hm with ⟨rfl, rfl, rfl⟩ | ⟨rfl, rfl, rfl⟩
 ·exact ⟨_, _, br1⟩
 ·exact ⟨_, _, br2⟩
def F3 : Nat -> Option Ev.Fn := fun i => bif Nat.beq i 255 then some (memoB c255 false tb240) else F2 i
theorem table3 : Table Tryz.prog F3 mds := Table.put table2 to240
def tb364 : List (List Nat × V × Hp) := [([18, 150, 21, 5, 179, 185, 205, 103], bv3, bh3), ([164, 126, 86, 28, 197, 129, 192, 127], bv4, bh4)]
theorem to364 : FnOK Tryz.prog mds 352 (memoB c352 true tb364) := by
 refine memoB_ok table2 (fn := c352) (by rfl) (p := _) rfl fun m v h hm => ?_
 simp only [tb364, List.mem_cons, List.not_mem_nil, or_false, Prod.mk.injEq] at hm
 rcases hm with ⟨rfl, rfl, rfl⟩ | ⟨rfl, rfl, rfl⟩
 ·exact ⟨_, _, br3⟩
 ·exact ⟨_, _, br4⟩
def F4 : Nat -> Option Ev.Fn := fun i => bif Nat.beq i 352 then some (memoB c352 true tb364) else F3 i
theorem table4 : Table Tryz.prog F4 mds := Table.put table3 to364
def tb239 : List (List Nat × V × Hp) := [([109, 97, 120, 45, 97, 103, 101, 61, 54, 48], bv5, bh5), ([48], bv6, bh6), ([50, 32, 114, 101, 115, 101, 114, 118, 111, 105, 114], bv7, bh7), ([97], bv8, bh8)]
theorem to239 : FnOK Tryz.prog mds 254 (memoB c254 false tb239) := by
 refine memoB_ok table2 (fn := c254) (by rfl) (p := _) rfl fun m v h hm => ?_
 simp only [tb239, List.mem_cons, List.not_mem_nil, or_false, Prod.mk.injEq] at hm
 rcases hm with ⟨rfl, rfl, rfl⟩ | ⟨rfl, rfl, rfl⟩ | ⟨rfl, rfl, rfl⟩ | ⟨rfl, rfl, rfl⟩
 ·exact ⟨_, _, br5⟩
 ·exact ⟨_, _, br6⟩
 ·exact ⟨_, _, br7⟩
 ·exact ⟨_, _, br8⟩
def F5 : Nat -> Option Ev.Fn := fun i => bif Nat.beq i 254 then some (memoB c254 false tb239) else F4 i
theorem table5 : Table Tryz.prog F5 mds := Table.put table4 to239
def tb360 : List (List Nat × V × Hp) := [([109, 97, 120, 45, 97, 103, 101, 61, 54, 48], bv9, bh9)]
theorem to360 : FnOK Tryz.prog mds 329 (memoB c329 false tb360) := by
 refine memoB_ok table2 (fn := c329) (by rfl) (p := _) rfl fun m v h hm => ?_
 simp only [tb360, List.mem_cons, List.not_mem_nil, or_false, Prod.mk.injEq] at hm
 obtain ⟨rfl, rfl, rfl⟩ := hm
 exact ⟨_, _, br9⟩
def F6 : Nat -> Option Ev.Fn := fun i => bif Nat.beq i 329 then some (memoB c329 false tb360) else F5 i
theorem table6 : Table Tryz.prog F6 mds := Table.put table5 to360
def tb189 : List (List Nat × V × Hp) := [([109, 97, 120, 45, 97, 103, 101, 61, 54, 48], bv10, bh10), ([], bv11, bh11)]
theorem to189 : FnOK Tryz.prog mds 141 (memoB c141 false tb189) := by
 refine memoB_ok table2 (fn := c141) (by rfl) (p := _) rfl fun m v h hm => ?_
 simp only [tb189, List.mem_cons, List.not_mem_nil, or_false, Prod.mk.injEq] at hm
 rcases hm with ⟨rfl, rfl, rfl⟩ | ⟨rfl, rfl, rfl⟩
 ·exact ⟨_, _, br10⟩
 ·exact ⟨_, _, br11⟩
def F7 : Nat -> Option Ev.Fn := fun i => bif Nat.beq i 141 then some (memoB c141 false tb189) else F6 i
theorem table7 : Table Tryz.prog F7 mds := Table.put table6 to189
end Go.Proofs.YtfnoiklmcmboeaaGreatDoor
