/- StoreRuns: the closed run returns true. No conditions: it takes no arguments. -/
import Derived.Test.YtddohjlkjakdlaaTabx1
namespace Go.Proofs.Ytddohjlkjakdlaa.storeRuns
open Go hiding Fn
open Go.ChangeShapes Go.WideShapes Go.ChangeAt Go.RowKit Ev tab

theorem own : ownKnob Try.prog.godebug = none := by kernel_rfl
theorem laid : laidOutB Try.prog = true := by kernel_rfl
theorem maps : mapsRowed Try.prog = true := by kernel_rfl
theorem full : fullB Try.prog = true := by kernel_rfl

theorem runs : yes (runF (callF F 3000 100) 3000 c3 [] h0) = true := by kernel_rfl

theorem contract (H : Type) (enc : TypeId × Value → H) (W : World) (args : Array Value) (ds gs : List (DataW H)) (before : List MemPlace)
    (hW : DataW.Whole enc Try.prog Try.f3.params.toList Rows.storeRunsSpec.vars false W args.toList ds gs before) :
    Calls Try.prog 3 args W fun e W' => ∃ v, e = .returned v ∧ Rows.storeRunsSpec.post enc Try.prog Try.f3 false true false false W args v W' := by
  have hW' := hW
  obtain ⟨p, q, hA, hV, _⟩ := hW
  have hA : DataW.TrodAll enc Try.prog W 0 (fun _ => true) true Try.f3.params.toList args.toList ds p := hA
  rw [show Try.f3.params.toList = [] from rfl] at hA
  obtain ⟨h1, h2, _⟩ := trodAll_nil hA
  obtain ⟨h3, _⟩ := trodVars_none hV
  subst h2; subst h3
  have h1 : args = #[] := by cases args; simp_all
  subst h1
  obtain ⟨hp, hr⟩ := yes_ret runs
  refine Calls.mono (law_calls table (f := 3) (fn := c3) rfl (xs := []) ⟨rfl, fun _ h => by (cases h), fun _ _ h => by simp at h⟩ hr) fun e W' ⟨he, hk⟩ => ⟨_, he, ?_⟩
  exact post_kept (tb := 4) hW' rfl rfl rfl (by kernel_rfl) laid maps full (fun t ht => by cases ht) hk

set_option maxRecDepth 100000 in
theorem lifted (os : Os) (started : os.Started) (H : Type) (enc : TypeId × Value → H) :
    ReturnsInHanded {} Try.checked os 3 .any (Rows.storeRunsSpec.pre6 enc Try.prog Try.f3 Rows.storeRunsRow.domain false) (Rows.storeRunsSpec.post enc Try.prog Try.f3 false true false false) := by
  refine returnsInHanded_of_change (C := Try.checked) own started (by kernel_rfl) Try.func3
    (ChangeSpec.witness6 (enc := enc) (C := Try.checked) (s := Rows.storeRunsSpec) false ⟨#[], #[], []⟩ 8 (by kernel_rfl) (by kernel_rfl) (by kernel_rfl) (by kernel_rfl)) ?_
  intro W base args ds gs before hval hW _ _
  exact contract H enc W args ds gs before hW

theorem over : Rows.storeRunsRow.holds Try.pinned (OpenSpec.ofChange Rows.storeRunsSpec) :=
  OpenClaim.holds_of_wide 3 Try.f3 rfl rfl rfl rfl rfl rfl rfl ⟨rfl, rfl, rfl, rfl, rfl⟩ rfl rfl rfl rfl rfl (by kernel_rfl) Try.func3 (by kernel_rfl)
    (of_decide_eq_true (by kernel_rfl)) (by unfold Func.isWrapper; first | (rw [if_pos (by decide +kernel)]; kernel_rfl) | (rw [if_neg (by decide +kernel)]; exact ⟨rfl, rfl⟩))
    (fun os started H enc _ => lifted os started H enc)

theorem proved : Rows.StoreRunsSaid :=
  over
end Go.Proofs.Ytddohjlkjakdlaa.storeRuns
