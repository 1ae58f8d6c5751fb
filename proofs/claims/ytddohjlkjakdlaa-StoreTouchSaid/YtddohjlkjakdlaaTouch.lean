import Derived.Test.YtddohjlkjakdlaaEvE
import Derived.Test.YtddohjlkjakdlaaWith
import Derived.Test.YtddohjlkjakdlaaSeek
set_option linter.unusedVariables false
set_option linter.unusedSimpArgs false
-- StoreTouch: eight sizes, each page, got or peeked at: runs by the kernel
namespace Go.Proofs.Ytddohjlkjakdlaa
open Go hiding Fn
open Ev tab
def isW (f : Nat) : Bool := Nat.beq f 18
def D0 (k w : Int) (p : Bool) : D := bodyD c5 [.it .i64 k, .it .i64 w, .bo p] h0
def A1 (L n : Nat) (k w : Int) (p : Bool) (a : Int) : D := resume (.it .i64 a) (seek (callF F L n) L isW (D0 k w p))
def A2 (L n : Nat) (k w : Int) (p : Bool) (a b : Int) : D := resume (.it .i64 b) (seek (callF F L n) L isW (A1 L n k w p a))
def E2 (L n : Nat) (k w : Int) (p : Bool) (a b : Int) : Bool := yes (crOf (run (callF F L n) L (A2 L n k w p a b)))
theorem head1 (N : Nat) (k w : Int) (p : Bool) : headD (seek (callF F (N + 3000) (N + 100)) (N + 3000) isW (D0 k w p)) = some (18, [.it .i64 k, .it .i64 2, .it .i64 9]) := by kernel_rfl
theorem head2_2t (N : Nat) (k w : Int) : headD (seek (callF F (N + 3000) (N + 100)) (N + 3000) isW (A1 (N + 3000) (N + 100) k w true 2)) = some (18, [.it .i64 w, .it .i64 0, .it .i64 1]) := by kernel_rfl
theorem end_2_0t (N : Nat) (k w : Int) : E2 (N + 3000) (N + 100) k w true 2 0 = true := by kernel_rfl
theorem end_2_1t (N : Nat) (k w : Int) : E2 (N + 3000) (N + 100) k w true 2 1 = true := by kernel_rfl
theorem head2_2f (N : Nat) (k w : Int) : headD (seek (callF F (N + 3000) (N + 100)) (N + 3000) isW (A1 (N + 3000) (N + 100) k w false 2)) = some (18, [.it .i64 w, .it .i64 0, .it .i64 1]) := by kernel_rfl
theorem end_2_0f (N : Nat) (k w : Int) : E2 (N + 3000) (N + 100) k w false 2 0 = true := by kernel_rfl
theorem end_2_1f (N : Nat) (k w : Int) : E2 (N + 3000) (N + 100) k w false 2 1 = true := by kernel_rfl
theorem head2_3t (N : Nat) (k w : Int) : headD (seek (callF F (N + 3000) (N + 100)) (N + 3000) isW (A1 (N + 3000) (N + 100) k w true 3)) = some (18, [.it .i64 w, .it .i64 0, .it .i64 2]) := by kernel_rfl
theorem end_3_0t (N : Nat) (k w : Int) : E2 (N + 3000) (N + 100) k w true 3 0 = true := by kernel_rfl
theorem end_3_1t (N : Nat) (k w : Int) : E2 (N + 3000) (N + 100) k w true 3 1 = true := by kernel_rfl
theorem end_3_2t (N : Nat) (k w : Int) : E2 (N + 3000) (N + 100) k w true 3 2 = true := by kernel_rfl
theorem head2_3f (N : Nat) (k w : Int) : headD (seek (callF F (N + 3000) (N + 100)) (N + 3000) isW (A1 (N + 3000) (N + 100) k w false 3)) = some (18, [.it .i64 w, .it .i64 0, .it .i64 2]) := by kernel_rfl
theorem end_3_0f (N : Nat) (k w : Int) : E2 (N + 3000) (N + 100) k w false 3 0 = true := by kernel_rfl
theorem end_3_1f (N : Nat) (k w : Int) : E2 (N + 3000) (N + 100) k w false 3 1 = true := by kernel_rfl
theorem end_3_2f (N : Nat) (k w : Int) : E2 (N + 3000) (N + 100) k w false 3 2 = true := by kernel_rfl
theorem head2_4t (N : Nat) (k w : Int) : headD (seek (callF F (N + 3000) (N + 100)) (N + 3000) isW (A1 (N + 3000) (N + 100) k w true 4)) = some (18, [.it .i64 w, .it .i64 0, .it .i64 3]) := by kernel_rfl
theorem end_4_0t (N : Nat) (k w : Int) : E2 (N + 3000) (N + 100) k w true 4 0 = true := by kernel_rfl
theorem end_4_1t (N : Nat) (k w : Int) : E2 (N + 3000) (N + 100) k w true 4 1 = true := by kernel_rfl
theorem end_4_2t (N : Nat) (k w : Int) : E2 (N + 3000) (N + 100) k w true 4 2 = true := by kernel_rfl
theorem end_4_3t (N : Nat) (k w : Int) : E2 (N + 3000) (N + 100) k w true 4 3 = true := by kernel_rfl
theorem head2_4f (N : Nat) (k w : Int) : headD (seek (callF F (N + 3000) (N + 100)) (N + 3000) isW (A1 (N + 3000) (N + 100) k w false 4)) = some (18, [.it .i64 w, .it .i64 0, .it .i64 3]) := by kernel_rfl
theorem end_4_0f (N : Nat) (k w : Int) : E2 (N + 3000) (N + 100) k w false 4 0 = true := by kernel_rfl
theorem end_4_1f (N : Nat) (k w : Int) : E2 (N + 3000) (N + 100) k w false 4 1 = true := by kernel_rfl
theorem end_4_2f (N : Nat) (k w : Int) : E2 (N + 3000) (N + 100) k w false 4 2 = true := by kernel_rfl
theorem end_4_3f (N : Nat) (k w : Int) : E2 (N + 3000) (N + 100) k w false 4 3 = true := by kernel_rfl
theorem head2_5t (N : Nat) (k w : Int) : headD (seek (callF F (N + 3000) (N + 100)) (N + 3000) isW (A1 (N + 3000) (N + 100) k w true 5)) = some (18, [.it .i64 w, .it .i64 0, .it .i64 4]) := by kernel_rfl
theorem end_5_0t (N : Nat) (k w : Int) : E2 (N + 3000) (N + 100) k w true 5 0 = true := by kernel_rfl
theorem end_5_1t (N : Nat) (k w : Int) : E2 (N + 3000) (N + 100) k w true 5 1 = true := by kernel_rfl
theorem end_5_2t (N : Nat) (k w : Int) : E2 (N + 3000) (N + 100) k w true 5 2 = true := by kernel_rfl
theorem end_5_3t (N : Nat) (k w : Int) : E2 (N + 3000) (N + 100) k w true 5 3 = true := by kernel_rfl
theorem end_5_4t (N : Nat) (k w : Int) : E2 (N + 3000) (N + 100) k w true 5 4 = true := by kernel_rfl
theorem head2_5f (N : Nat) (k w : Int) : headD (seek (callF F (N + 3000) (N + 100)) (N + 3000) isW (A1 (N + 3000) (N + 100) k w false 5)) = some (18, [.it .i64 w, .it .i64 0, .it .i64 4]) := by kernel_rfl
theorem end_5_0f (N : Nat) (k w : Int) : E2 (N + 3000) (N + 100) k w false 5 0 = true := by kernel_rfl
theorem end_5_1f (N : Nat) (k w : Int) : E2 (N + 3000) (N + 100) k w false 5 1 = true := by kernel_rfl
theorem end_5_2f (N : Nat) (k w : Int) : E2 (N + 3000) (N + 100) k w false 5 2 = true := by kernel_rfl
theorem end_5_3f (N : Nat) (k w : Int) : E2 (N + 3000) (N + 100) k w false 5 3 = true := by kernel_rfl
theorem end_5_4f (N : Nat) (k w : Int) : E2 (N + 3000) (N + 100) k w false 5 4 = true := by kernel_rfl
theorem head2_6t (N : Nat) (k w : Int) : headD (seek (callF F (N + 3000) (N + 100)) (N + 3000) isW (A1 (N + 3000) (N + 100) k w true 6)) = some (18, [.it .i64 w, .it .i64 0, .it .i64 5]) := by kernel_rfl
theorem end_6_0t (N : Nat) (k w : Int) : E2 (N + 3000) (N + 100) k w true 6 0 = true := by kernel_rfl
theorem end_6_1t (N : Nat) (k w : Int) : E2 (N + 3000) (N + 100) k w true 6 1 = true := by kernel_rfl
theorem end_6_2t (N : Nat) (k w : Int) : E2 (N + 3000) (N + 100) k w true 6 2 = true := by kernel_rfl
theorem end_6_3t (N : Nat) (k w : Int) : E2 (N + 3000) (N + 100) k w true 6 3 = true := by kernel_rfl
theorem end_6_4t (N : Nat) (k w : Int) : E2 (N + 3000) (N + 100) k w true 6 4 = true := by kernel_rfl
theorem end_6_5t (N : Nat) (k w : Int) : E2 (N + 3000) (N + 100) k w true 6 5 = true := by kernel_rfl
theorem head2_6f (N : Nat) (k w : Int) : headD (seek (callF F (N + 3000) (N + 100)) (N + 3000) isW (A1 (N + 3000) (N + 100) k w false 6)) = some (18, [.it .i64 w, .it .i64 0, .it .i64 5]) := by kernel_rfl
theorem end_6_0f (N : Nat) (k w : Int) : E2 (N + 3000) (N + 100) k w false 6 0 = true := by kernel_rfl
theorem end_6_1f (N : Nat) (k w : Int) : E2 (N + 3000) (N + 100) k w false 6 1 = true := by kernel_rfl
theorem end_6_2f (N : Nat) (k w : Int) : E2 (N + 3000) (N + 100) k w false 6 2 = true := by kernel_rfl
theorem end_6_3f (N : Nat) (k w : Int) : E2 (N + 3000) (N + 100) k w false 6 3 = true := by kernel_rfl
theorem end_6_4f (N : Nat) (k w : Int) : E2 (N + 3000) (N + 100) k w false 6 4 = true := by kernel_rfl
theorem end_6_5f (N : Nat) (k w : Int) : E2 (N + 3000) (N + 100) k w false 6 5 = true := by kernel_rfl
theorem head2_7t (N : Nat) (k w : Int) : headD (seek (callF F (N + 3000) (N + 100)) (N + 3000) isW (A1 (N + 3000) (N + 100) k w true 7)) = some (18, [.it .i64 w, .it .i64 0, .it .i64 6]) := by kernel_rfl
theorem end_7_0t (N : Nat) (k w : Int) : E2 (N + 3000) (N + 100) k w true 7 0 = true := by kernel_rfl
theorem end_7_1t (N : Nat) (k w : Int) : E2 (N + 3000) (N + 100) k w true 7 1 = true := by kernel_rfl
theorem end_7_2t (N : Nat) (k w : Int) : E2 (N + 3000) (N + 100) k w true 7 2 = true := by kernel_rfl
theorem end_7_3t (N : Nat) (k w : Int) : E2 (N + 3000) (N + 100) k w true 7 3 = true := by kernel_rfl
theorem end_7_4t (N : Nat) (k w : Int) : E2 (N + 3000) (N + 100) k w true 7 4 = true := by kernel_rfl
theorem end_7_5t (N : Nat) (k w : Int) : E2 (N + 3000) (N + 100) k w true 7 5 = true := by kernel_rfl
theorem end_7_6t (N : Nat) (k w : Int) : E2 (N + 3000) (N + 100) k w true 7 6 = true := by kernel_rfl
theorem head2_7f (N : Nat) (k w : Int) : headD (seek (callF F (N + 3000) (N + 100)) (N + 3000) isW (A1 (N + 3000) (N + 100) k w false 7)) = some (18, [.it .i64 w, .it .i64 0, .it .i64 6]) := by kernel_rfl
theorem end_7_0f (N : Nat) (k w : Int) : E2 (N + 3000) (N + 100) k w false 7 0 = true := by kernel_rfl
theorem end_7_1f (N : Nat) (k w : Int) : E2 (N + 3000) (N + 100) k w false 7 1 = true := by kernel_rfl
theorem end_7_2f (N : Nat) (k w : Int) : E2 (N + 3000) (N + 100) k w false 7 2 = true := by kernel_rfl
theorem end_7_3f (N : Nat) (k w : Int) : E2 (N + 3000) (N + 100) k w false 7 3 = true := by kernel_rfl
theorem end_7_4f (N : Nat) (k w : Int) : E2 (N + 3000) (N + 100) k w false 7 4 = true := by kernel_rfl
theorem end_7_5f (N : Nat) (k w : Int) : E2 (N + 3000) (N + 100) k w false 7 5 = true := by kernel_rfl
theorem end_7_6f (N : Nat) (k w : Int) : E2 (N + 3000) (N + 100) k w false 7 6 = true := by kernel_rfl
theorem head2_8t (N : Nat) (k w : Int) : headD (seek (callF F (N + 3000) (N + 100)) (N + 3000) isW (A1 (N + 3000) (N + 100) k w true 8)) = some (18, [.it .i64 w, .it .i64 0, .it .i64 7]) := by kernel_rfl
theorem end_8_0t (N : Nat) (k w : Int) : E2 (N + 3000) (N + 100) k w true 8 0 = true := by kernel_rfl
theorem end_8_1t (N : Nat) (k w : Int) : E2 (N + 3000) (N + 100) k w true 8 1 = true := by kernel_rfl
theorem end_8_2t (N : Nat) (k w : Int) : E2 (N + 3000) (N + 100) k w true 8 2 = true := by kernel_rfl
theorem end_8_3t (N : Nat) (k w : Int) : E2 (N + 3000) (N + 100) k w true 8 3 = true := by kernel_rfl
theorem end_8_4t (N : Nat) (k w : Int) : E2 (N + 3000) (N + 100) k w true 8 4 = true := by kernel_rfl
theorem end_8_5t (N : Nat) (k w : Int) : E2 (N + 3000) (N + 100) k w true 8 5 = true := by kernel_rfl
theorem end_8_6t (N : Nat) (k w : Int) : E2 (N + 3000) (N + 100) k w true 8 6 = true := by kernel_rfl
theorem end_8_7t (N : Nat) (k w : Int) : E2 (N + 3000) (N + 100) k w true 8 7 = true := by kernel_rfl
theorem head2_8f (N : Nat) (k w : Int) : headD (seek (callF F (N + 3000) (N + 100)) (N + 3000) isW (A1 (N + 3000) (N + 100) k w false 8)) = some (18, [.it .i64 w, .it .i64 0, .it .i64 7]) := by kernel_rfl
theorem end_8_0f (N : Nat) (k w : Int) : E2 (N + 3000) (N + 100) k w false 8 0 = true := by kernel_rfl
theorem end_8_1f (N : Nat) (k w : Int) : E2 (N + 3000) (N + 100) k w false 8 1 = true := by kernel_rfl
theorem end_8_2f (N : Nat) (k w : Int) : E2 (N + 3000) (N + 100) k w false 8 2 = true := by kernel_rfl
theorem end_8_3f (N : Nat) (k w : Int) : E2 (N + 3000) (N + 100) k w false 8 3 = true := by kernel_rfl
theorem end_8_4f (N : Nat) (k w : Int) : E2 (N + 3000) (N + 100) k w false 8 4 = true := by kernel_rfl
theorem end_8_5f (N : Nat) (k w : Int) : E2 (N + 3000) (N + 100) k w false 8 5 = true := by kernel_rfl
theorem end_8_6f (N : Nat) (k w : Int) : E2 (N + 3000) (N + 100) k w false 8 6 = true := by kernel_rfl
theorem end_8_7f (N : Nat) (k w : Int) : E2 (N + 3000) (N + 100) k w false 8 7 = true := by kernel_rfl
theorem head2_9t (N : Nat) (k w : Int) : headD (seek (callF F (N + 3000) (N + 100)) (N + 3000) isW (A1 (N + 3000) (N + 100) k w true 9)) = some (18, [.it .i64 w, .it .i64 0, .it .i64 8]) := by kernel_rfl
theorem end_9_0t (N : Nat) (k w : Int) : E2 (N + 3000) (N + 100) k w true 9 0 = true := by kernel_rfl
theorem end_9_1t (N : Nat) (k w : Int) : E2 (N + 3000) (N + 100) k w true 9 1 = true := by kernel_rfl
theorem end_9_2t (N : Nat) (k w : Int) : E2 (N + 3000) (N + 100) k w true 9 2 = true := by kernel_rfl
theorem end_9_3t (N : Nat) (k w : Int) : E2 (N + 3000) (N + 100) k w true 9 3 = true := by kernel_rfl
theorem end_9_4t (N : Nat) (k w : Int) : E2 (N + 3000) (N + 100) k w true 9 4 = true := by kernel_rfl
theorem end_9_5t (N : Nat) (k w : Int) : E2 (N + 3000) (N + 100) k w true 9 5 = true := by kernel_rfl
theorem end_9_6t (N : Nat) (k w : Int) : E2 (N + 3000) (N + 100) k w true 9 6 = true := by kernel_rfl
theorem end_9_7t (N : Nat) (k w : Int) : E2 (N + 3000) (N + 100) k w true 9 7 = true := by kernel_rfl
theorem end_9_8t (N : Nat) (k w : Int) : E2 (N + 3000) (N + 100) k w true 9 8 = true := by kernel_rfl
theorem head2_9f (N : Nat) (k w : Int) : headD (seek (callF F (N + 3000) (N + 100)) (N + 3000) isW (A1 (N + 3000) (N + 100) k w false 9)) = some (18, [.it .i64 w, .it .i64 0, .it .i64 8]) := by kernel_rfl
theorem end_9_0f (N : Nat) (k w : Int) : E2 (N + 3000) (N + 100) k w false 9 0 = true := by kernel_rfl
theorem end_9_1f (N : Nat) (k w : Int) : E2 (N + 3000) (N + 100) k w false 9 1 = true := by kernel_rfl
theorem end_9_2f (N : Nat) (k w : Int) : E2 (N + 3000) (N + 100) k w false 9 2 = true := by kernel_rfl
theorem end_9_3f (N : Nat) (k w : Int) : E2 (N + 3000) (N + 100) k w false 9 3 = true := by kernel_rfl
theorem end_9_4f (N : Nat) (k w : Int) : E2 (N + 3000) (N + 100) k w false 9 4 = true := by kernel_rfl
theorem end_9_5f (N : Nat) (k w : Int) : E2 (N + 3000) (N + 100) k w false 9 5 = true := by kernel_rfl
theorem end_9_6f (N : Nat) (k w : Int) : E2 (N + 3000) (N + 100) k w false 9 6 = true := by kernel_rfl
theorem end_9_7f (N : Nat) (k w : Int) : E2 (N + 3000) (N + 100) k w false 9 7 = true := by kernel_rfl
theorem end_9_8f (N : Nat) (k w : Int) : E2 (N + 3000) (N + 100) k w false 9 8 = true := by kernel_rfl
theorem touch_end (N : Nat) (k w : Int) (p : Bool) (a b : Int) (h1 : 2 ≤ a) (h2 : a ≤ 9) (h3 : 0 ≤ b) (h4 : b ≤ a - 1) :
    headD (seek (callF F (N + 3000) (N + 100)) (N + 3000) isW (A1 (N + 3000) (N + 100) k w p a)) = some (18, [.it .i64 w, .it .i64 0, .it .i64 (a - 1)]) ∧ E2 (N + 3000) (N + 100) k w p a b = true := by
  have ha : a = 2 ∨ a = 3 ∨ a = 4 ∨ a = 5 ∨ a = 6 ∨ a = 7 ∨ a = 8 ∨ a = 9 := by omega
  rcases ha with rfl | rfl | rfl | rfl | rfl | rfl | rfl | rfl
  · have hb : b = 0 ∨ b = 1 := by omega
    cases p
    · refine ⟨head2_2f N k w, ?_⟩
      rcases hb with rfl | rfl
      · exact end_2_0f N k w
      · exact end_2_1f N k w
    · refine ⟨head2_2t N k w, ?_⟩
      rcases hb with rfl | rfl
      · exact end_2_0t N k w
      · exact end_2_1t N k w
  · have hb : b = 0 ∨ b = 1 ∨ b = 2 := by omega
    cases p
    · refine ⟨head2_3f N k w, ?_⟩
      rcases hb with rfl | rfl | rfl
      · exact end_3_0f N k w
      · exact end_3_1f N k w
      · exact end_3_2f N k w
    · refine ⟨head2_3t N k w, ?_⟩
      rcases hb with rfl | rfl | rfl
      · exact end_3_0t N k w
      · exact end_3_1t N k w
      · exact end_3_2t N k w
  · have hb : b = 0 ∨ b = 1 ∨ b = 2 ∨ b = 3 := by omega
    cases p
    · refine ⟨head2_4f N k w, ?_⟩
      rcases hb with rfl | rfl | rfl | rfl
      · exact end_4_0f N k w
      · exact end_4_1f N k w
      · exact end_4_2f N k w
      · exact end_4_3f N k w
    · refine ⟨head2_4t N k w, ?_⟩
      rcases hb with rfl | rfl | rfl | rfl
      · exact end_4_0t N k w
      · exact end_4_1t N k w
      · exact end_4_2t N k w
      · exact end_4_3t N k w
  · have hb : b = 0 ∨ b = 1 ∨ b = 2 ∨ b = 3 ∨ b = 4 := by omega
    cases p
    · refine ⟨head2_5f N k w, ?_⟩
      rcases hb with rfl | rfl | rfl | rfl | rfl
      · exact end_5_0f N k w
      · exact end_5_1f N k w
      · exact end_5_2f N k w
      · exact end_5_3f N k w
      · exact end_5_4f N k w
    · refine ⟨head2_5t N k w, ?_⟩
      rcases hb with rfl | rfl | rfl | rfl | rfl
      · exact end_5_0t N k w
      · exact end_5_1t N k w
      · exact end_5_2t N k w
      · exact end_5_3t N k w
      · exact end_5_4t N k w
  · have hb : b = 0 ∨ b = 1 ∨ b = 2 ∨ b = 3 ∨ b = 4 ∨ b = 5 := by omega
    cases p
    · refine ⟨head2_6f N k w, ?_⟩
      rcases hb with rfl | rfl | rfl | rfl | rfl | rfl
      · exact end_6_0f N k w
      · exact end_6_1f N k w
      · exact end_6_2f N k w
      · exact end_6_3f N k w
      · exact end_6_4f N k w
      · exact end_6_5f N k w
    · refine ⟨head2_6t N k w, ?_⟩
      rcases hb with rfl | rfl | rfl | rfl | rfl | rfl
      · exact end_6_0t N k w
      · exact end_6_1t N k w
      · exact end_6_2t N k w
      · exact end_6_3t N k w
      · exact end_6_4t N k w
      · exact end_6_5t N k w
  · have hb : b = 0 ∨ b = 1 ∨ b = 2 ∨ b = 3 ∨ b = 4 ∨ b = 5 ∨ b = 6 := by omega
    cases p
    · refine ⟨head2_7f N k w, ?_⟩
      rcases hb with rfl | rfl | rfl | rfl | rfl | rfl | rfl
      · exact end_7_0f N k w
      · exact end_7_1f N k w
      · exact end_7_2f N k w
      · exact end_7_3f N k w
      · exact end_7_4f N k w
      · exact end_7_5f N k w
      · exact end_7_6f N k w
    · refine ⟨head2_7t N k w, ?_⟩
      rcases hb with rfl | rfl | rfl | rfl | rfl | rfl | rfl
      · exact end_7_0t N k w
      · exact end_7_1t N k w
      · exact end_7_2t N k w
      · exact end_7_3t N k w
      · exact end_7_4t N k w
      · exact end_7_5t N k w
      · exact end_7_6t N k w
  · have hb : b = 0 ∨ b = 1 ∨ b = 2 ∨ b = 3 ∨ b = 4 ∨ b = 5 ∨ b = 6 ∨ b = 7 := by omega
    cases p
    · refine ⟨head2_8f N k w, ?_⟩
      rcases hb with rfl | rfl | rfl | rfl | rfl | rfl | rfl | rfl
      · exact end_8_0f N k w
      · exact end_8_1f N k w
      · exact end_8_2f N k w
      · exact end_8_3f N k w
      · exact end_8_4f N k w
      · exact end_8_5f N k w
      · exact end_8_6f N k w
      · exact end_8_7f N k w
    · refine ⟨head2_8t N k w, ?_⟩
      rcases hb with rfl | rfl | rfl | rfl | rfl | rfl | rfl | rfl
      · exact end_8_0t N k w
      · exact end_8_1t N k w
      · exact end_8_2t N k w
      · exact end_8_3t N k w
      · exact end_8_4t N k w
      · exact end_8_5t N k w
      · exact end_8_6t N k w
      · exact end_8_7t N k w
  · have hb : b = 0 ∨ b = 1 ∨ b = 2 ∨ b = 3 ∨ b = 4 ∨ b = 5 ∨ b = 6 ∨ b = 7 ∨ b = 8 := by omega
    cases p
    · refine ⟨head2_9f N k w, ?_⟩
      rcases hb with rfl | rfl | rfl | rfl | rfl | rfl | rfl | rfl | rfl
      · exact end_9_0f N k w
      · exact end_9_1f N k w
      · exact end_9_2f N k w
      · exact end_9_3f N k w
      · exact end_9_4f N k w
      · exact end_9_5f N k w
      · exact end_9_6f N k w
      · exact end_9_7f N k w
      · exact end_9_8f N k w
    · refine ⟨head2_9t N k w, ?_⟩
      rcases hb with rfl | rfl | rfl | rfl | rfl | rfl | rfl | rfl | rfl
      · exact end_9_0t N k w
      · exact end_9_1t N k w
      · exact end_9_2t N k w
      · exact end_9_3t N k w
      · exact end_9_4t N k w
      · exact end_9_5t N k w
      · exact end_9_6t N k w
      · exact end_9_7t N k w
      · exact end_9_8t N k w
theorem touch_run (k w : Int) (p : Bool) : ∃ L n hp', runF (callF F L n) L c5 [.it .i64 k, .it .i64 w, .bo p] h0 = .ret (.bo true) hp' := by
  obtain ⟨a, h1, h2, P1⟩ := within_p k 2 9 (by decide) (by decide) (by decide)
  obtain ⟨b, h3, h4, P2⟩ := within_p w 0 (a - 1) (by decide) (by omega) (by omega)
  obtain ⟨N1, u1⟩ := EvU.ofP P1 rfl (fun hp => .s (clo_it _ _) (.s (clo_it _ _) (.s (clo_it _ _) (.nil _))))
  obtain ⟨N2, u2⟩ := EvU.ofP P2 rfl (fun hp => .s (clo_it _ _) (.s (clo_it _ _) (.s (clo_it _ _) (.nil _))))
  have e := touch_end (max N1 N2) k w p a b h1 h2 h3 h4
  have s1 := seek_step (stop := isW) (head1 (max N1 N2) k w p) (fun own hp => u1 _ _ own hp (by omega) (by omega))
  have s2 := seek_step (stop := isW) e.1 (fun own hp => u2 _ _ own hp (by omega) (by omega))
  have e2 := e.2
  unfold E2 A2 at e2
  rw [← s2] at e2
  unfold A1 at e2
  rw [← s1] at e2
  obtain ⟨hp', hr⟩ := yes_ret e2
  exact ⟨_, _, hp', hr⟩
end Go.Proofs.Ytddohjlkjakdlaa

