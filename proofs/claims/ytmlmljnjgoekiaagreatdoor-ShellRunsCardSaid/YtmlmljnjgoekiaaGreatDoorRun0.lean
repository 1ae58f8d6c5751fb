import Derived.Test.YtmlmljnjgoekiaaGreatDoorProg
import Derived.Lib.Strings
import Derived.Lib.Walk
import Derived.WalkKit
import Derived.WalkLawsBesides
import Derived.Laws.Externs
import Derived.Laws.Strings
import Derived.LoopN
import Derived.Below
import Derived.KernelRfl
set_option linter.unusedVariables false
set_option linter.unusedSimpArgs false
set_option linter.unusedSectionVars false
set_option linter.unusedVariables false
-- shell.Run of one line, walked
namespace Go.Proofs.YtmlmljnjgoekiaaGreatDoor.run
open Go Go.Proofs Go.RowKit
abbrev bld0 (w : World) : World := w.alloc (.cells #[.pointer none, .slice none 0 0] 73)
set_option maxRecDepth 100000 in
set_option maxHeartbeats 8000000 in
theorem run_real (c0 c1 c2 c3 c4 c5 c6 : Value) (text : ByteArray) (w : World) (R : Ending → World → Prop)
  (h : Calls Tryz.prog 23 #[.string text] (w.alloc (.cells #[c0, c1, c2, c3, c4, c5, c6] 40)) fun e w2 => ∃ b o cp at', e = .returned (.tuple #[.slice (some ⟨b, o, none⟩) 1 cp, .int .i64 at', .int .i64 0]) ∧
    (w2.cell? ⟨w.heap.size, 0, none⟩ = some c0 ∧ w2.cell? ⟨w.heap.size, 1, none⟩ = some c1 ∧ w2.cell? ⟨w.heap.size, 2, none⟩ = some c2 ∧ w2.cell? ⟨w.heap.size, 3, none⟩ = some c3 ∧ w2.cell? ⟨w.heap.size, 4, none⟩ = some c4 ∧ w2.cell? ⟨w.heap.size, 5, none⟩ = some c5 ∧ w2.cell? ⟨w.heap.size, 6, none⟩ = some c6) ∧
    Calls Tryz.prog 24 #[.agg #[c0, c1, c2, c3, c4, c5, c6]] w2 fun e w3 => ∃ pw, e = .returned (.tuple #[pw, .int .i64 0]) ∧ ∃ (a0 a1 a2 a3 : Int) (sa : Option Addr) (sn sc : Nat) (st : ByteArray) (sb : Bool),
      ((bld0 w3).cell? ⟨b, o, none⟩ = some (.int .i64 a0) ∧ (bld0 w3).cell? ⟨b, o + 1, none⟩ = some (.int .i64 a1) ∧ (bld0 w3).cell? ⟨b, o + 2, none⟩ = some (.int .i64 a2) ∧ (bld0 w3).cell? ⟨b, o + 3, none⟩ = some (.int .i64 a3) ∧ (bld0 w3).cell? ⟨b, o + 4, none⟩ = some (.slice sa sn sc) ∧ (bld0 w3).cell? ⟨b, o + 5, none⟩ = some (.string st) ∧ (bld0 w3).cell? ⟨b, o + 6, none⟩ = some (.bool sb)) ∧
      Calls Tryz.prog 25 #[pw, .agg #[.int .i64 a0, .int .i64 a1, .int .i64 a2, .int .i64 a3, .slice sa sn sc, .string st, .bool sb]] ((bld0 w3).alloc (.cells #[.int .i64 a0, .int .i64 a1, .int .i64 a2, .int .i64 a3, .slice sa sn sc, .string st, .bool sb] 30)) fun e w4 => ∃ g1 g2, e = .returned (.agg #[.bool true, .int .i64 g1, .int .i64 g2]) ∧
        Calls Tryz.prog 27 #[.string ⟨#[121, 101, 115]⟩, .slice (some ⟨w4.heap.size + 1, 0, none⟩) 2 2] ((w4.alloc (.cells #[.bool true, .int .i64 g1, .int .i64 g2] 75)).alloc (.cells #[.int .i64 g1, .int .i64 g2] 3)) fun e w5 => ∃ t, e = .returned (.string t) ∧ (¬ 9223372036854775807 < t.size + 1) ∧
          Calls Tryz.prog 26 #[.pointer (some ⟨w3.heap.size, 0, none⟩), .string (t ++ ⟨#[10]⟩)] w5 fun e w6 => (∃ v, e = .returned v) ∧
            Calls Tryz.prog 28 #[pw] w6 fun e w7 => ∃ ha hc, e = .returned (.slice ha 0 hc) ∧
              Calls Tryz.prog 30 #[.pointer (some ⟨w3.heap.size, 0, none⟩)] w7 fun e w8 => ∃ s, e = .returned (.string s) ∧ R (.returned (.tuple #[.string s, .int .i64 0, .int .i64 0])) w8) :
   Calls Tryz.prog 9 #[.agg #[c0, c1, c2, c3, c4, c5, c6], .string text] w R := by
  go_enter Tryz.func9, Tryz.ntmps9
  go_wp2_with fail
  refine h.mono ?_
  rintro _ w2 ⟨b, o, cp, at', rfl, ⟨q0, q1, q2, q3, q4, q5, q6⟩, h⟩
  have H : Hid _ := h
  clear h
  go_wp2_with fail
  refine Calls.mono H ?_
  rintro _ w3 ⟨pw, rfl, a0, a1, a2, a3, sa, sn, sc, st, sb, ⟨k0, k1, k2, k3, k4, k5, k6⟩, h⟩
  have H' : Hid _ := h
  clear h H
  go_wp2_with fail
  refine wp_loop_rounds 2 ?_
  rw [rounds_succ]
  go_wp2_with fail
  refine Calls.mono H' ?_
  rintro _ w4 ⟨g1, g2, rfl, h⟩
  clear H'
  have H : Hid _ := h
  clear h k0 k1 k2 k3 k4 k5 k6 q0 q1 q2 q3 q4 q5 q6
  go_wp2_with fail
  refine Calls.mono H ?_
  rintro _ w5 ⟨t, rfl, ht, h⟩
  have H' : Hid _ := h
  clear h H
  go_wp2_with fail
  refine Calls.mono H' ?_
  rintro _ w6 ⟨⟨v, rfl⟩, h⟩
  have H : Hid _ := h
  clear h H' ht
  go_wp2_with fail
  rw [rounds_succ]
  go_wp2_with fail
  refine Calls.mono H ?_
  rintro _ w7 ⟨ha, hc, rfl, h⟩
  have H' : Hid _ := h
  clear h H
  go_wp2_with fail
  refine wp_loop_rounds 1 ?_
  rw [rounds_succ]
  go_wp2_with fail
  refine Calls.mono H' ?_
  rintro _ w8 ⟨s, rfl, h⟩
  have H : Hid _ := h
  clear h H'
  go_wp2_with fail
  refine bodyPost_ret (v := .tuple #[.string s, .int .i64 0, .int .i64 0]) ?_ rfl H
  simp [results, Tryz.results9, go_sem]
end Go.Proofs.YtmlmljnjgoekiaaGreatDoor.run
