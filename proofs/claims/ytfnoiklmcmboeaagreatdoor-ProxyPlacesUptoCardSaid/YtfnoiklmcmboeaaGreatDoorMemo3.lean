import Derived.Test.YtfnoiklmcmboeaaGreatDoorMemo2
import Derived.Test.YtfnoiklmcmboeaaGreatDoorMemV
/- functions in an empty heap, run once for some values -/
set_option linter.unusedSectionVars false
set_option linter.unusedVariables false
set_option linter.unusedSimpArgs false
namespace Go.Proofs.YtfnoiklmcmboeaaGreatDoor
open Go hiding Fn
open Ev tab
def vx1 : List V := [(.ag [(iN 4), (iN 0), (iN 0), (.vs 1 [[(uN 0)], [(uN 2)], [(uN 0)], [(uN 0)], [(uN 0)], [(uN 0)], [(uN 0)], [(uN 3)], [(uN 0)], [(uN 0)], [(uN 0)], [(uN 2)], [(uN 0)], [(uN 4)], [(uN 0)], [(uN 0)], [(uN 255)], [(uN 255)], [(uN 0)], [(uN 6)], [(uN 0)], [(uN 1)], [(uN 0)], [(uN 0)]])])]
def vv1 : V := (.tu [(.ag [(iN 4), (iN 0), (.bo false), (.bo false), (.bo false), .ns, (iN 0), (iN 0), (iN 0), (iN 0), (.hs 3 0 4)]), (.ag [(iN 0), (iN 0), (iN 0)])])
def vh1 : Hp := ⟨4, 0, (.n none (.n none (.n (some ⟨2, false, [[(iN 2), (iN 0)], [(iN 3), (iN 2)], [(iN 4), (iN 65535)], [(iN 6), (iN 65536)]]⟩) .e .e) .e) (.n none .e .e))⟩
theorem vr1 : runF (callF F2 20000 200) 20000 c116 vx1 h0 = .ret vv1 vh1 := by kernel_rfl
def vx2 : List V := [(.ag [(iN 1), (iN 5), (iN 1), (.vs 1 [[(uN 130)], [(uN 135)], [(uN 65)], [(uN 1)], [(uN 97)], [(uN 132)]])])]
def vv2 : V := (.tu [(.ag [(iN 1), (iN 1), (.bo true), (.bo true), (.bo false), (.vs 1 [[(uN 130)], [(uN 135)], [(uN 65)], [(uN 1)], [(uN 97)], [(uN 132)]]), (iN 0), (iN 0), (iN 0), (iN 0), (.vs 2 [])]), (.ag [(iN 0), (iN 0), (iN 0)])])
def vh2 : Hp := ⟨0, 0, .e⟩
theorem vr2 : runF (callF F2 20000 200) 20000 c116 vx2 h0 = .ret vv2 vh2 := by kernel_rfl
def vx3 : List V := [(.vs 2 [[(.st [58, 109, 101, 116, 104, 111, 100]), (.st [71, 69, 84])], [(.st [58, 115, 99, 104, 101, 109, 101]), (.st [104, 116, 116, 112, 115])], [(.st [58, 97, 117, 116, 104, 111, 114, 105, 116, 121]), (.st [97])], [(.st [58, 112, 97, 116, 104]), (.st [47])]])]
def vv3 : V := (.tu [(.ag [(.st [71, 69, 84]), (.st [104, 116, 116, 112, 115]), (.st [97]), (.st [47]), (.vs 2 []), (.it .i64 (-1))]), (.bo true)])
def vh3 : Hp := ⟨2, 0, (.n (some ⟨6, false, [[(.st [71, 69, 84]), (.st [104, 116, 116, 112, 115]), (.st [97]), (.st [47]), (.vs 2 []), (.it .i64 (-1))]]⟩) (.n (some ⟨2, false, [[(.st [58, 109, 101, 116, 104, 111, 100]), (iN 1)], [(.st [58, 115, 99, 104, 101, 109, 101]), (iN 1)], [(.st [58, 97, 117, 116, 104, 111, 114, 105, 116, 121]), (iN 1)], [(.st [58, 112, 97, 116, 104]), (iN 1)]]⟩) .e .e) .e)⟩
theorem vr3 : runF (callF F2 20000 200) 20000 c180 vx3 h0 = .ret vv3 vh3 := by kernel_rfl
def vx4 : List V := [(.ag [(iN 1), (iN 5), (iN 1), (.vs 1 [[(uN 130)], [(uN 135)], [(uN 65)], [(uN 1)], [(uN 97)], [(uN 132)], [(uN 124)], [(uN 136)], [(uN 18)], [(uN 150)], [(uN 21)], [(uN 5)], [(uN 179)], [(uN 185)], [(uN 205)], [(uN 103)]])])]
def vv4 : V := (.tu [(.ag [(iN 1), (iN 1), (.bo true), (.bo true), (.bo false), (.vs 1 [[(uN 130)], [(uN 135)], [(uN 65)], [(uN 1)], [(uN 97)], [(uN 132)], [(uN 124)], [(uN 136)], [(uN 18)], [(uN 150)], [(uN 21)], [(uN 5)], [(uN 179)], [(uN 185)], [(uN 205)], [(uN 103)]]), (iN 0), (iN 0), (iN 0), (iN 0), (.vs 2 [])]), (.ag [(iN 0), (iN 0), (iN 0)])])
def vh4 : Hp := ⟨0, 0, .e⟩
theorem vr4 : runF (callF F2 20000 200) 20000 c116 vx4 h0 = .ret vv4 vh4 := by kernel_rfl
def vx5 : List V := [(.ag [(iN 4), (iN 0), (iN 0), (.vs 1 [[(uN 0)], [(uN 3)], [(uN 0)], [(uN 0)], [(uN 0)], [(uN 2)], [(uN 0)], [(uN 4)], [(uN 0)], [(uN 0)], [(uN 255)], [(uN 255)], [(uN 0)], [(uN 6)], [(uN 0)], [(uN 1)], [(uN 0)], [(uN 0)]])])]
def vv5 : V := (.tu [(.ag [(iN 4), (iN 0), (.bo false), (.bo false), (.bo false), .ns, (iN 0), (iN 0), (iN 0), (iN 0), (.hs 2 0 3)]), (.ag [(iN 0), (iN 0), (iN 0)])])
def vh5 : Hp := ⟨3, 0, (.n none (.n none .e .e) (.n (some ⟨2, false, [[(iN 3), (iN 2)], [(iN 4), (iN 65535)], [(iN 6), (iN 65536)]]⟩) .e .e))⟩
theorem vr5 : runF (callF F2 20000 200) 20000 c116 vx5 h0 = .ret vv5 vh5 := by kernel_rfl
def vx6 : List V := [(.ag [(iN 4), (iN 1), (iN 0), (.vs 1 [])])]
def vv6 : V := (.tu [(.ag [(iN 4), (iN 0), (.bo false), (.bo false), (.bo true), .ns, (iN 0), (iN 0), (iN 0), (iN 0), .ns]), (.ag [(iN 0), (iN 0), (iN 0)])])
def vh6 : Hp := ⟨0, 0, .e⟩
theorem vr6 : runF (callF F2 20000 200) 20000 c116 vx6 h0 = .ret vv6 vh6 := by kernel_rfl
def vx7 : List V := [(.ag [(iN 1), (iN 4), (iN 1), (.vs 1 [[(uN 136)], [(uN 88)], [(uN 136)], [(uN 164)], [(uN 126)], [(uN 86)], [(uN 28)], [(uN 197)], [(uN 129)], [(uN 192)], [(uN 127)]])])]
def vv7 : V := (.tu [(.ag [(iN 1), (iN 1), (.bo false), (.bo true), (.bo false), (.vs 1 [[(uN 136)], [(uN 88)], [(uN 136)], [(uN 164)], [(uN 126)], [(uN 86)], [(uN 28)], [(uN 197)], [(uN 129)], [(uN 192)], [(uN 127)]]), (iN 0), (iN 0), (iN 0), (iN 0), (.vs 2 [])]), (.ag [(iN 0), (iN 0), (iN 0)])])
def vh7 : Hp := ⟨0, 0, .e⟩
theorem vr7 : runF (callF F2 20000 200) 20000 c116 vx7 h0 = .ret vv7 vh7 := by kernel_rfl
def vx8 : List V := [(.ag [(iN 0), (iN 1), (iN 1), (.vs 1 [[(uN 104)], [(uN 105)]])])]
def vv8 : V := (.tu [(.ag [(iN 0), (iN 1), (.bo true), (.bo false), (.bo false), (.vs 1 [[(uN 104)], [(uN 105)]]), (iN 0), (iN 0), (iN 0), (iN 2), (.vs 2 [])]), (.ag [(iN 0), (iN 0), (iN 0)])])
def vh8 : Hp := ⟨0, 0, .e⟩
theorem vr8 : runF (callF F2 20000 200) 20000 c116 vx8 h0 = .ret vv8 vh8 := by kernel_rfl
def vx9 : List V := [(.vs 2 [[(.st [58, 115, 116, 97, 116, 117, 115]), (.st [50, 48, 48])], [(.st [99, 97, 99, 104, 101, 45, 99, 111, 110, 116, 114, 111, 108]), (.st [109, 97, 120, 45, 97, 103, 101, 61, 54, 48])]])]
def vv9 : V := (.tu [(.ag [(iN 200), (.vs 2 [[(.st [99, 97, 99, 104, 101, 45, 99, 111, 110, 116, 114, 111, 108]), (.st [109, 97, 120, 45, 97, 103, 101, 61, 54,
 48])]]), (.it .i64 (-1))]), (.bo true)])
def vh9 : Hp := ⟨0, 0, .e⟩
theorem vr9 : runF (callF F2 20000 200) 20000 c182 vx9 h0 = .ret vv9 vh9 := by kernel_rfl
def vx10 : List V := [(.ag [(iN 1), (iN 4), (iN 1), (.vs 1 [[(uN 136)], [(uN 88)], [(uN 136)], [(uN 164)], [(uN 126)], [(uN 86)], [(uN 28)], [(uN 197)], [(uN 129)], [(uN 192)], [(uN 127)], [(uN 124)], [(uN 136)], [(uN 18)], [(uN 150)], [(uN 21)], [(uN 5)], [(uN 179)], [(uN 185)], [(uN 205)], [(uN 103)]])])]
def vv10 : V := (.tu [(.ag [(iN 1), (iN 1), (.bo false), (.bo true), (.bo false), (.vs 1 [[(uN 136)], [(uN 88)], [(uN 136)], [(uN 164)], [(uN 126)], [(uN 86)], [(uN 28)], [(uN 197)], [(uN 129)], [(uN 192)], [(uN 127)], [(uN 124)], [(uN 136)], [(uN 18)], [(uN 150)], [(uN 21)], [(uN 5)], [(uN 179)], [(uN 185)], [(uN 205)], [(uN 103)]]), (iN 0), (iN 0), (iN 0), (iN 0), (.vs 2 [])]), (.ag [(iN 0), (iN 0), (iN 0)])])
def vh10 : Hp := ⟨0, 0, .e⟩
theorem vr10 : runF (callF F2 20000 200) 20000 c116 vx10 h0 = .ret vv10 vh10 := by kernel_rfl
def vx11 : List V := [(.ag [(iN 1), (iN 5), (iN 3), (.vs 1 [[(uN 130)], [(uN 135)], [(uN 190)], [(uN 132)]])])]
def vv11 : V := (.tu [(.ag [(iN 1), (iN 3), (.bo true), (.bo true), (.bo false), (.vs 1 [[(uN 130)], [(uN 135)], [(uN 190)], [(uN 132)]]), (iN 0), (iN 0), (iN 0), (iN 0), (.vs 2 [])]), (.ag [(iN 0), (iN 0), (iN 0)])])
def vh11 : Hp := ⟨0, 0, .e⟩
theorem vr11 : runF (callF F2 20000 200) 20000 c116 vx11 h0 = .ret vv11 vh11 := by kernel_rfl
def vx12 : List V := [(.ag [(.st [71, 69, 84]), (.st [104, 116, 116, 112, 115]), (.st [97]), (.st [47]), (.vs 2 []), (.it .i64 (-1)), (iN 200), (.vs 2 [[(.st [99,
 97, 99, 104, 101, 45, 99, 111, 110, 116, 114, 111, 108]), (.st [109, 97, 120, 45, 97, 103, 101, 61, 54, 48])]]), (.it .i64 (-1)), (.st [104, 105]), (iN 7), (iN 7)]), (.ag [(.st [71, 69, 84]), (.st [104, 116, 116, 112, 115]), (.st [97]), (.st [47]), (.vs 2 []), (.it .i64 (-1))]), (iN 7), (.fl .f64 4591870180066957722)]
def vv12 : V := (iN 1)
def vh12 : Hp := ⟨0, 0, .e⟩
theorem vr12 : runF (callF F2 20000 200) 20000 c231 vx12 h0 = .ret vv12 vh12 := by kernel_rfl
def vx13 : List V := [(.ag [(iN 1), (iN 4), (iN 3), (.vs 1 [[(uN 136)], [(uN 191)], [(uN 15)], [(uN 6)], [(uN 1)], [(uN 48)], [(uN 190)]])])]
def vv13 : V := (.tu [(.ag [(iN 1), (iN 3), (.bo false), (.bo true), (.bo false), (.vs 1 [[(uN 136)], [(uN 191)], [(uN 15)], [(uN 6)], [(uN 1)], [(uN 48)], [(uN 190)]]), (iN 0), (iN 0), (iN 0), (iN 0), (.vs 2 [])]), (.ag [(iN 0), (iN 0), (iN 0)])])
def vh13 : Hp := ⟨0, 0, .e⟩
theorem vr13 : runF (callF F2 20000 200) 20000 c116 vx13 h0 = .ret vv13 vh13 := by kernel_rfl
def vx14 : List V := [(.ag [(iN 0), (iN 1), (iN 3), (.vs 1 [[(uN 104)], [(uN 105)]])])]
def vv14 : V := (.tu [(.ag [(iN 0), (iN 3), (.bo true), (.bo false), (.bo false), (.vs 1 [[(uN 104)], [(uN 105)]]), (iN 0), (iN 0), (iN 0), (iN 2), (.vs 2 [])]), (.ag [(iN 0), (iN 0), (iN 0)])])
def vh14 : Hp := ⟨0, 0, .e⟩
theorem vr14 : runF (callF F2 20000 200) 20000 c116 vx14 h0 = .ret vv14 vh14 := by kernel_rfl
def tv110 : List (List V × V × Hp) := [(vx1, vv1, vh1), (vx2, vv2, vh2), (vx4, vv4, vh4), (vx5, vv5, vh5), (vx6, vv6, vh6), (vx7, vv7, vh7), (vx8, vv8, vh8), (vx10, vv10, vh10), (vx11, vv11, vh11), (vx13, vv13, vh13), (vx14, vv14, vh14)]
theorem tw110 : FnOK Tryz.prog mds 116 (memoV c116 tv110) := by
 refine memoV_ok table2 (fn := c116) (by rfl) fun m v h hm => ?_
 simp only [tv110, List.mem_cons, List.not_mem_nil, or_false, Prod.mk.injEq] at hm
 rcases hm with ⟨rfl, rfl, rfl⟩ | ⟨rfl, rfl, rfl⟩ | ⟨rfl, rfl, rfl⟩ | ⟨rfl, rfl, rfl⟩ | ⟨rfl, rfl, rfl⟩ | ⟨rfl, rfl, rfl⟩ | ⟨rfl, rfl, rfl⟩ | ⟨rfl, rfl, rfl⟩ | ⟨rfl, rfl, rfl⟩ | ⟨rfl, rfl, rfl⟩ | ⟨rfl, rfl, rfl⟩
 ·exact ⟨_, _, vr1⟩
 ·exact ⟨_, _, vr2⟩
 ·exact ⟨_, _, vr4⟩
 ·exact ⟨_, _, vr5⟩
 ·exact ⟨_, _, vr6⟩
 ·exact ⟨_, _, vr7⟩
 ·exact ⟨_, _, vr8⟩
 ·exact ⟨_, _, vr10⟩
 ·exact ⟨_, _, vr11⟩
 ·exact ⟨_, _, vr13⟩
 ·exact ⟨_, _, vr14⟩
def F8 : Nat -> Option Ev.Fn := fun i => bif Nat.beq i 116 then some (memoV c116 tv110) else F7 i
theorem table8 : Table Tryz.prog F8 mds := Table.put table7 tw110
def tv219 : List (List V × V × Hp) := [(vx3, vv3, vh3)]
theorem tw219 : FnOK Tryz.prog mds 180 (memoV c180 tv219) := by
 refine memoV_ok table2 (fn := c180) (by rfl) fun m v h hm => ?_
 simp only [tv219, List.mem_cons, List.not_mem_nil, or_false, Prod.mk.injEq] at hm
 obtain ⟨rfl, rfl, rfl⟩ := hm
 exact ⟨_, _, vr3⟩
def F9 : Nat -> Option Ev.Fn := fun i => bif Nat.beq i 180 then some (memoV c180 tv219) else F8 i
theorem table9 : Table Tryz.prog F9 mds := Table.put table8 tw219
def tv221 : List (List V × V × Hp) := [(vx9, vv9, vh9)]
theorem tw221 : FnOK Tryz.prog mds 182 (memoV c182 tv221) := by
 refine memoV_ok table2 (fn := c182) (by rfl) fun m v h hm => ?_
 simp only [tv221, List.mem_cons, List.not_mem_nil, or_false, Prod.mk.injEq] at hm
 obtain ⟨rfl, rfl, rfl⟩ := hm
 exact ⟨_, _, vr9⟩
def F10 : Nat -> Option Ev.Fn := fun i => bif Nat.beq i 182 then some (memoV c182 tv221) else F9 i
theorem table10 : Table Tryz.prog F10 mds := Table.put table9 tw221
def tv272 : List (List V × V × Hp) := [(vx12, vv12, vh12)]
theorem tw272 : FnOK Tryz.prog mds 231 (memoV c231 tv272) := by
 refine memoV_ok table2 (fn := c231) (by rfl) fun m v h hm => ?_
 simp only [tv272, List.mem_cons, List.not_mem_nil, or_false, Prod.mk.injEq] at hm
 obtain ⟨rfl, rfl, rfl⟩ := hm
 exact ⟨_, _, vr12⟩
def F11 : Nat -> Option Ev.Fn := fun i => bif Nat.beq i 231 then some (memoV c231 tv272) else F10 i
theorem table11 : Table Tryz.prog F11 mds := Table.put table10 tw272
end Go.Proofs.YtfnoiklmcmboeaaGreatDoor
