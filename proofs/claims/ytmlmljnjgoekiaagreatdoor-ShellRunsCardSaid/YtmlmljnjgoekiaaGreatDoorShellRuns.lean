import Derived.Test.YtmlmljnjgoekiaaGreatDoorRun3
import Derived.Test.YtmlmljnjgoekiaaGreatDoorEvE
import Derived.Test.YtmlmljnjgoekiaaGreatDoorCards
import Derived.Test.YtmlmljnjgoekiaaGreatDoorTie
import Derived.Test.YtmlmljnjgoekiaaGreatDoorWorld
import Derived.LaidSub
import Derived.Lib.LaidTab
set_option linter.unusedVariables false
set_option linter.unusedSimpArgs false
set_option linter.unusedSectionVars false
/- ShellRuns: the closed run returns true; the card. -/
namespace Go.Proofs.YtmlmljnjgoekiaaGreatDoor.shellRuns
open Go hiding Fn
open Go.ChangeShapes Go.WideShapes Go.ChangeAt Go.RowKit Ev tab

theorem own : ownKnob Tryz.prog.godebug = none := by kernel_rfl
theorem laidOut : laidOutB Tryz.prog = true := by kernel_rfl
theorem maps : mapsRowed Tryz.prog = true := by kernel_rfl
theorem full : fullB Tryz.prog = true := by kernel_rfl

theorem pow_data : (Rows.laid_internal_strconv_uint64pow10 : DataW Unit) = Lib.tabData .u64 Lib.pow10Tab := by kernel_rfl
theorem pow_only : (Rows.shellRunsRow.laid.filter fun x => x.2.handleName?.isNone).filter (fun x => x.1 == "internal/strconv.uint64pow10") = [("internal/strconv.uint64pow10", (Rows.laid_internal_strconv_uint64pow10 : DataW Unit))] := by kernel_rfl
/-- the table, out of the row's list -/
theorem tab_met {W : World} (h : laidMetH Tryz.checked.prog Rows.shellRunsRow.laid W) : Lib.TabIs Tryz.prog W "internal/strconv.uint64pow10" .u64 Lib.pow10Tab := by
  have h1 : laidMet Tryz.prog (Rows.shellRunsRow.laid.filter fun x => x.2.handleName?.isNone) W := (laidMetH_iff.1 h).1
  have h2 := h1.filter (fun x => x.1 == "internal/strconv.uint64pow10")
  rw [pow_only, pow_data] at h2
  have h3 : Lib.TabIs Tryz.prog W "internal/strconv.uint64pow10" .u64 Lib.pow10Tab := Lib.tabIs_of_head (g := 0) (t := 232) (e := 134) (n := 20) (by kernel_rfl) (by kernel_rfl) (by kernel_rfl) (by kernel_rfl) (by kernel_rfl) (by kernel_rfl) h2
  exact h3

theorem contract (H : Type) (enc : TypeId × Value → H) (W : World) (args : Array Value) (ds gs : List (DataW H)) (before : List MemPlace)
    (hW : DataW.Whole enc Tryz.prog Tryz.f3.params.toList Rows.shellRunsSpec.vars false W args.toList ds gs before) (hT : Lib.TabIs Tryz.prog W "internal/strconv.uint64pow10" .u64 Lib.pow10Tab) :
    Calls Tryz.prog 3 args W fun e W' => ∃ v, e = .returned v ∧ Rows.shellRunsSpec.post enc Tryz.prog Tryz.f3 false true false false W args v W' := by
  have hW' := hW
  obtain ⟨p, q, hA, hV, _⟩ := hW
  have hA : DataW.TrodAll enc Tryz.prog W 0 (fun _ => true) true Tryz.f3.params.toList args.toList ds p := hA
  rw [show Tryz.f3.params.toList = [] from rfl] at hA
  obtain ⟨h1, h2, _⟩ := trodAll_nil hA
  obtain ⟨h3, _⟩ := trodVars_none hV
  subst h2; subst h3
  have h1 : args = #[] := by cases args; simp_all
  subst h1
  obtain ⟨hp, hr⟩ := yes_ret runs3
  refine Calls.mono (law_calls table (f := 3) (fn := c3) rfl (xs := []) (glob_of hT) ⟨rfl, fun _ h => by (cases h), fun _ _ h => by simp at h⟩ hr) fun e W' ⟨he, hk⟩ => ⟨_, he, ?_⟩
  exact post_kept (tb := 4) hW' rfl rfl rfl (by kernel_rfl) laidOut maps full (fun t ht => by cases ht) hk

theorem reads (os : Os) {H : Type} (enc : TypeId × Value → H) : ∃ places, DataW.whole enc Tryz.prog ((laidWorld os).forCall (fun _ _ => 0) ⟨#[], #[], []⟩).memory Tryz.f3.params.toList Rows.shellRunsSpec.vars false (#[] : Array Value).toList 8 = some ([], [], places) :=
  ⟨[], by kernel_rfl⟩

set_option maxRecDepth 100000 in
theorem lifted (os : Os) (started : os.Started) (H : Type) (enc : TypeId × Value → H) (F : Stop.Interp) :
    ReturnsInHanded {} Tryz.checked os 3 .any ((OpenSpec.ofChange Rows.shellRunsSpec).preRow enc Tryz.prog Tryz.f3 Rows.shellRunsRow.domain false Rows.shellRunsRow.laid) (((OpenSpec.ofChange Rows.shellRunsSpec).at F).post enc Tryz.prog Tryz.f3 false true false false) := by
  obtain ⟨places, hx⟩ := reads os enc
  refine returnsInHanded_of_row (C := Tryz.checked) (s := OpenSpec.ofChange Rows.shellRunsSpec) own started (by kernel_rfl) Tryz.func3
    (witness_row_at (enc := enc) (C := Tryz.checked) false (laidWorld os) #[] rfl (by kernel_rfl) (by kernel_rfl) (by kernel_rfl)
      (OpenSpec.preRow_of_cond 8 hx (by kernel_rfl) (fun k hk => by cases hk) (by kernel_rfl) (laid_met os #[]))) ?_
  intro W base args ds gs before hval hW _ _ _ hL _ _
  exact contract H enc W args ds gs before hW (tab_met hL)

theorem j1 : Tryz.checked.prog.inPlace 3 = Rows.shellRunsRow.inPlace := by kernel_rfl
theorem j2 : Tryz.checked.prog.unfollowed 3 = Rows.shellRunsRow.unfollowed := by kernel_rfl
theorem j3 : Tryz.checked.prog.recurses 3 = Rows.shellRunsRow.recurses := by kernel_rfl
theorem j4 : Tryz.checked.prog.varsNamed 3 = Rows.shellRunsRow.named := by kernel_rfl
theorem j5 : Tryz.checked.prog.stops = [] := by kernel_rfl
theorem j6 : Tryz.checked.prog.stopKnobs = [] := by kernel_rfl
theorem j7 : Tryz.checked.prog.plainKeys = Rows.shellRunsRow.plainKeys := by kernel_rfl
theorem j8 : Tryz.checked.prog.stopsHeard = true := by kernel_rfl
theorem j9 : Tryz.checked.prog.mayEnter = true := by kernel_rfl
theorem j10 : Tryz.checked.prog.liftsFinal = Rows.shellRunsRow.lifted := by kernel_rfl
theorem j11 : Tryz.checked.prog.make = some Rows.shellRunsRow.make := by kernel_rfl
theorem joined : joinedFacts Tryz.checked.prog 3 Tryz.f3 (OpenSpec.ofChange Rows.shellRunsSpec).bare Rows.shellRunsRow = true := by
  unfold joinedFacts
  rw [j1, j2, j3, j4, j5, j6, j7, j8, j9, j10, j11]
  kernel_rfl
theorem wfT : Rows.shellRunsRow.wfByText (OpenSpec.ofChange Rows.shellRunsSpec) = true := by kernel_rfl
theorem goes : false = Rows.shellRunsRow.goesBy Tryz.checked.prog := by kernel_rfl
theorem main : Tryz.checked.prog.mainIs = some (Rows.shellRunsCard.stood.harness.1, Rows.shellRunsCard.stood.harness.2.toList) := by kernel_rfl

theorem said : Rows.ShellRunsSaid :=
  OpenClaim.holds_of_cond 3 Tryz.f3 rfl rfl rfl rfl rfl rfl rfl ⟨rfl, rfl, rfl, rfl, rfl⟩ rfl rfl rfl rfl rfl (by kernel_rfl) Tryz.func3 joined
    (of_decide_eq_true (by kernel_rfl)) (by unfold Func.isWrapper; first | (rw [if_pos (by decide +kernel)]; kernel_rfl) | (rw [if_neg (by decide +kernel)]; exact ⟨rfl, rfl⟩))
    (fun os started H enc _ F => by rw [OpenClaim.pre_eq_preRow]; exact lifted os started H enc F)

theorem plain (f : FuncId) (fn : Func) (hf : Tryz.pinned.checked.prog.funcNamed "reservoir/reservoirlaw30.ShellRuns" = some f) (hfn : Tryz.pinned.checked.prog.funcs[f]? = some fn) :
    true = Tryz.pinned.checked.prog.looks [] ∧ ∀ (j : Nat) t, fn.params[j]? = some t → Tryz.pinned.checked.prog.wantsStandIn t = false := by
  obtain rfl : f = 3 := Option.some.inj ((show Tryz.prog.funcNamed "reservoir/reservoirlaw30.ShellRuns" = some 3 by kernel_rfl).symm.trans hf) |>.symm
  obtain rfl : fn = Tryz.f3 := (Option.some.inj (Tryz.func3.symm.trans hfn)).symm
  refine ⟨by kernel_rfl, fun j t ht => ?_⟩
  rw [Tryz.params3] at ht
  simp at ht

theorem card : Rows.ShellRunsCardSaid :=
  Claim7.holds_tied_plain_at .later [] _ _ _ _ said (fun _ h => by cases h) wfT (fun _ h => by cases h) shellRuns_row_tie rfl ⟨rfl, rfl⟩ main rfl plain goes
end Go.Proofs.YtmlmljnjgoekiaaGreatDoor.shellRuns
