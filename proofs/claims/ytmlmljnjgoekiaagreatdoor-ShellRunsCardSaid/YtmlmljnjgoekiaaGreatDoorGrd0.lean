import Derived.Test.YtmlmljnjgoekiaaGreatDoorProg
import Derived.Tactics
import Derived.Tactics2
import Derived.Defers
import Derived.Recover
import Derived.Laws.Pointers
import Derived.WideLaws
import Derived.KernelRfl
set_option linter.unusedVariables false
set_option linter.unusedSimpArgs false
set_option linter.unusedSectionVars false
set_option linter.unusedVariables false
set_option linter.unusedSimpArgs false
-- guard.Call, walked
open Go
namespace Go.Proofs.YtmlmljnjgoekiaaGreatDoor.grd
open Go Go.Proofs
theorem hIany : Tryz.prog.underlying 20 = some (.interface (Tryz.prog.methodsAt 20)) := by kernel_rfl
theorem grd_idle (p q : Addr) (w : World) :
    CallsD Tryz.prog 39 #[.pointer (some p), .pointer (some q)] .returning w fun e u' w' => e = .returned (.tuple #[]) ∧ u' = .returning ∧ w' = w := by
  refine callsD_of_wpS Tryz.func39 rfl fun c₀ cs hu => ?_
  apply wpS_seq
  apply wpS_region
  simp [wpOpsS, go_sem, recoverD, hu, Tryz.ntmps39, Exit.thenS]
  apply wpS_seq
  apply wpS_seq
  apply wpS_region
  simp [wpOpsS, run_eql_nil_nil, hIany, go_sem, Exit.thenS]
  refine wpS_cond (t := true) (by simp [Act.eval, Array.replicate]) ?_
  simp only [if_true]
  refine wpS_of_wp (wp_ret ?_)
  cases c₀
  simp_all [bodyPostS, results, Tryz.results39, Exit.thenS]
theorem cell_far {w : World} {b b' o o' : Nat} {v : Value} (h : b' ≠ b) : (w.setCell ⟨b, o, none⟩ v).cell? ⟨b', o', none⟩ = w.cell? ⟨b', o', none⟩ := World.cell?_setCell_other _ _ _ _ (by intro e; cases e; exact h rfl)
theorem cell_far2 {w : World} {b o o' : Nat} {v : Value} (h : o' ≠ o) : (w.setCell ⟨b, o, none⟩ v).cell? ⟨b, o', none⟩ = w.cell? ⟨b, o', none⟩ := World.cell?_setCell_other _ _ _ _ (by intro e; cases e; exact h rfl)
theorem grd_catch (b0 b1 : Nat) (x0 x1 y : Value) (a b : Int) (older : List PanicEntry) (w : World) (h00 : w.cell? ⟨b0, 0, none⟩ = some x0) (h01 : w.cell? ⟨b0, 1, none⟩ = some x1) (h10 : w.cell? ⟨b1, 0, none⟩ = some y) (hb : b1 ≠ b0)
    (z00 : w.frozen? ⟨b0, 0, none⟩ = false) (z01 : w.frozen? ⟨b0, 1, none⟩ = false) (z10 : w.frozen? ⟨b1, 0, none⟩ = false) :
    CallsD Tryz.prog 39 #[.pointer (some ⟨b0, 0, none⟩), .pointer (some ⟨b1, 0, none⟩)] (.panicking ({ v := .iface 60 (.agg #[.int .i64 a, .int .i64 b]), recovered := false } :: older)) w fun e u' w' =>
      e = .returned (.tuple #[]) ∧ u' = .panicking ({ v := .iface 60 (.agg #[.int .i64 a, .int .i64 b]), recovered := true } :: older) ∧
        w' = (((((w.alloc (.cells #[.int .i64 0, .int .i64 0] 60)).setCell ⟨w.heap.size, 0, none⟩ (.int .i64 a)).setCell ⟨w.heap.size, 1, none⟩ (.int .i64 b)).setCell ⟨b0, 0, none⟩ (.int .i64 a)).setCell ⟨b0, 1, none⟩ (.int .i64 b)).setCell ⟨b1, 0, none⟩ (.bool true) := by
  have n0 : b0 ≠ w.heap.size := Nat.ne_of_lt (World.block_lt_of_cell? _ _ h00)
  have n1 : b1 ≠ w.heap.size := Nat.ne_of_lt (World.block_lt_of_cell? _ _ h10)
  refine callsD_of_wpS Tryz.func39 rfl fun c₀ cs hu => ?_
  apply wpS_seq
  apply wpS_region
  simp [wpOpsS, go_sem, recoverD, hu, Tryz.ntmps39, Exit.thenS]
  apply wpS_seq
  apply wpS_seq
  apply wpS_region
  simp [wpOpsS, run_eql_held_nil, go_sem, Exit.thenS]
  refine wpS_cond (t := false) (by simp [Act.eval, Array.replicate]) ?_
  simp only [Bool.false_eq_true, if_false]
  refine wpS_of_wp (wp_skip ?_)
  simp only [Exit.thenS]
  apply wpS_seq
  apply wpS_region
  simp [wpOpsS, go_sem, Instr.typeAssert, Exit.thenS]
  apply wpS_seq
  apply wpS_seq
  apply wpS_region
  simp [wpOpsS, go_sem, Exit.thenS]
  refine wpS_cond (t := false) (by simp [Act.eval, Act.put, Array.replicate]) ?_
  simp only [Bool.false_eq_true, if_false]
  refine wpS_of_wp (wp_skip ?_)
  simp only [Exit.thenS]
  apply wpS_region
  have o0 : (w.alloc (.cells #[.int .i64 0, .int .i64 0] 60)).cell? ⟨b0, 0, none⟩ = some x0 := by rw [World.cell?_alloc_old _ _ _ n0]; exact h00
  have o1 : (w.alloc (.cells #[.int .i64 0, .int .i64 0] 60)).cell? ⟨b0, 1, none⟩ = some x1 := by rw [World.cell?_alloc_old _ _ _ n0]; exact h01
  have o2 : (w.alloc (.cells #[.int .i64 0, .int .i64 0] 60)).cell? ⟨b1, 0, none⟩ = some y := by rw [World.cell?_alloc_old _ _ _ n1]; exact h10
  have f0 : (w.alloc (.cells #[.int .i64 0, .int .i64 0] 60)).frozen? ⟨b0, 0, none⟩ = false := by rw [World.frozen?_alloc_old _ _ _ n0]; exact z00
  have f1 : (w.alloc (.cells #[.int .i64 0, .int .i64 0] 60)).frozen? ⟨b0, 1, none⟩ = false := by rw [World.frozen?_alloc_old _ _ _ n0]; exact z01
  have f2 : (w.alloc (.cells #[.int .i64 0, .int .i64 0] 60)).frozen? ⟨b1, 0, none⟩ = false := by rw [World.frozen?_alloc_old _ _ _ n1]; exact z10
  simp [wpOpsS, go_sem, Exit.thenS, Act.put, cell_far, cell_far2, n0, n1, hb, o0, o1, o2, f0, f1, f2]
  cases c₀
  simp_all [bodyPostS, results, Tryz.results39, Addr.add]

def grdW (w : World) (n : Nat) (a b : Int) : World :=
  (((((w.alloc (.cells #[.int .i64 0, .int .i64 0] 60)).setCell ⟨w.heap.size, 0, none⟩ (.int .i64 a)).setCell ⟨w.heap.size, 1, none⟩ (.int .i64 b)).setCell ⟨n, 0, none⟩ (.int .i64 a)).setCell ⟨n, 1, none⟩ (.int .i64 b)).setCell ⟨n + 1, 0, none⟩ (.bool true)
def grdW0 (w : World) (n : Nat) : World := ((w.setCell ⟨n, 0, none⟩ (.int .i64 0)).setCell ⟨n, 1, none⟩ (.int .i64 0)).setCell ⟨n + 1, 0, none⟩ (.bool false)
set_option maxRecDepth 100000 in
set_option maxHeartbeats 1600000 in
theorem grd_call (a1 a2 : Array Value) (w : World) (R : Ending → World → Prop) (f' : FuncId)
    (hen : ∀ args w, (callFunc f' args).run Tryz.prog w = .ok (.enter f' args) w)
    (hcall : Calls Tryz.prog f' (a1 ++ a2) ((w.alloc (.cells #[.int .i64 0, .int .i64 0] 60)).alloc (.cells #[.bool false] 4)) fun e w' =>
      ((∃ x0, w'.cell? ⟨w.heap.size, 0, none⟩ = some x0) ∧ (∃ x1, w'.cell? ⟨w.heap.size, 1, none⟩ = some x1) ∧ (∃ y, w'.cell? ⟨w.heap.size + 1, 0, none⟩ = some y) ∧
        w'.frozen? ⟨w.heap.size, 0, none⟩ = false ∧ w'.frozen? ⟨w.heap.size, 1, none⟩ = false ∧ w'.frozen? ⟨w.heap.size + 1, 0, none⟩ = false) ∧
      ((∃ cv, e = .returned cv ∧ R (.returned (.tuple #[.agg #[.int .i64 0, .int .i64 0], .bool false])) (grdW0 w' w.heap.size)) ∨
       (∃ a b, e = .panicked [{ v := .iface 60 (.agg #[.int .i64 a, .int .i64 b]), recovered := false }] ∧ R (.returned (.tuple #[.agg #[.int .i64 a, .int .i64 b], .bool true])) (grdW w' w.heap.size a b)))) :
    Calls Tryz.prog 20 #[.func (.func f') a1 a2] w R := by
  have hmf : ∀ (fn : Fn) (first cap : Array Value) (w : World), (Instr.makeFunc fn first cap).run Tryz.prog w = .ok (.func fn first cap) w := fun _ _ _ _ => rfl
  have hbl : ∀ (w : World), (Instr.build 60 #[]).run Tryz.prog w = .ok (.agg #[.int .i64 0, .int .i64 0]) w := fun w => by kernel_rfl
  go_enter_defers Tryz.func20, Tryz.ntmps20
  go_wp2
  rename_i K1 hK1 K2 hK2
  refine hcall.mono ?_
  rintro e w' ⟨⟨⟨x0, c0⟩, ⟨x1, c1⟩, ⟨y, c2⟩, z0, z1, z2⟩, ⟨cv, rfl, hR⟩ | ⟨a, b, rfl, hR⟩⟩
  · refine hK2 _ _ ?_
    have hw0 : ((w'.setCell ⟨w.heap.size, 0, none⟩ (.int .i64 0)).setCell ⟨w.heap.size, 1, none⟩ (.int .i64 0)).cell? ⟨w.heap.size + 1, 0, none⟩ = some y := by
      rw [cell_far (by omega), cell_far (by omega)]; exact c2
    have hw1 : (w'.setCell ⟨w.heap.size, 0, none⟩ (.int .i64 0)).cell? ⟨w.heap.size, 1, none⟩ = some x1 := by
      rw [cell_far2 (by decide)]; exact c1
    have hw2 : ((w'.setCell ⟨w.heap.size, 0, none⟩ (.int .i64 0)).setCell ⟨w.heap.size, 1, none⟩ (.int .i64 0)).frozen? ⟨w.heap.size + 1, 0, none⟩ = false := by
      rw [World.frozen?_setCell, World.frozen?_setCell]; exact z2
    have hw3 : (w'.setCell ⟨w.heap.size, 0, none⟩ (.int .i64 0)).frozen? ⟨w.heap.size, 1, none⟩ = false := by
      rw [World.frozen?_setCell]; exact z1
    go_wp2_with (simp only [hbl])
    refine leaves_cons (f := 39) (args := #[.pointer (some ⟨w.heap.size, 0, none⟩), .pointer (some ⟨w.heap.size + 1, 0, none⟩)]) (by simp) (by simp [go_sem]) ?_
    refine (grd_idle _ _ _).mono ?_
    rintro _ _ _ ⟨rfl, rfl, rfl⟩
    have s0 := World.cell?_setCell_same _ _ (.int .i64 0) c0
    have s1 := World.cell?_setCell_same _ _ (.int .i64 0) hw1
    have s2 := World.cell?_setCell_same _ _ (.bool false) hw0
    simp [Leaves, settle, results, Tryz.results20, go_sem, cell_far, cell_far2, s0, s1, s2]
    exact hR
  · refine leaves_cons (f := 39) (args := #[.pointer (some ⟨w.heap.size, 0, none⟩), .pointer (some ⟨w.heap.size + 1, 0, none⟩)]) (by simp) (by simp [go_sem]) ?_
    have n0 : w.heap.size ≠ w'.heap.size := Nat.ne_of_lt (World.block_lt_of_cell? _ _ c0)
    have n1 : w.heap.size + 1 ≠ w'.heap.size := Nat.ne_of_lt (World.block_lt_of_cell? _ _ c2)
    refine (grd_catch _ _ x0 x1 y a b [] w' c0 c1 c2 (by omega) z0 z1 z2).mono ?_
    rintro _ _ _ ⟨rfl, rfl, rfl⟩
    have hR' : R (.returned (.tuple #[.agg #[.int .i64 a, .int .i64 b], .bool true])) (grdW w' w.heap.size a b) := hR
    have d0 : (grdW w' w.heap.size a b).cell? ⟨w.heap.size, 0, none⟩ = some (.int .i64 a) := by
      unfold grdW
      rw [cell_far (by omega), cell_far2 (by decide)]
      refine World.cell?_setCell_same (u := x0) _ _ _ ?_
      rw [cell_far n0, cell_far n0, World.cell?_alloc_old _ _ _ n0]; exact c0
    have d1 : (grdW w' w.heap.size a b).cell? ⟨w.heap.size, 1, none⟩ = some (.int .i64 b) := by
      unfold grdW
      rw [cell_far (by omega)]
      refine World.cell?_setCell_same (u := x1) _ _ _ ?_
      rw [cell_far2 (by decide), cell_far n0, cell_far n0, World.cell?_alloc_old _ _ _ n0]; exact c1
    have d2 : (grdW w' w.heap.size a b).cell? ⟨w.heap.size + 1, 0, none⟩ = some (.bool true) := by
      unfold grdW
      refine World.cell?_setCell_same (u := y) _ _ _ ?_
      rw [cell_far (by omega), cell_far (by omega), cell_far n1, cell_far n1, World.cell?_alloc_old _ _ _ n1]; exact c2
    change Leaves _ _ _ _ _ _ (grdW w' w.heap.size a b)
    generalize grdW w' w.heap.size a b = W at hR' d0 d1 d2
    simp [Leaves, settle, results, Tryz.results20, go_sem, d0, d1, d2]
    exact hR'
end Go.Proofs.YtmlmljnjgoekiaaGreatDoor.grd
