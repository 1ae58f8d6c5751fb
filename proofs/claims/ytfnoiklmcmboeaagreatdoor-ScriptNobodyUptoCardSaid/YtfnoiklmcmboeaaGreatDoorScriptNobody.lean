import Derived.Test.YtfnoiklmcmboeaaGreatDoorEvE
import Derived.Test.YtfnoiklmcmboeaaGreatDoorNbC
import Derived.Test.YtfnoiklmcmboeaaGreatDoorCards
import Derived.Test.YtfnoiklmcmboeaaGreatDoorTie
import Derived.Test.YtfnoiklmcmboeaaGreatDoorWorld
import Derived.LaidSub
import Derived.Lib.LaidTab
set_option linter.unusedVariables false
set_option linter.unusedSimpArgs false
set_option linter.unusedSectionVars false
/- ScriptNobody: whatever the arguments, of bulk at most 1048576 together, the call returns true and the arguments read as they did; the card. -/
namespace Go.Proofs.YtfnoiklmcmboeaaGreatDoor.scriptNobody
open Go hiding Fn
open Go.ChangeShapes Go.WideShapes Go.ChangeAt Go.RowKit Ev tab

theorem own : ownKnob Tryz.prog.godebug = none := by kernel_rfl
theorem laidOut : laidOutB Tryz.prog = true := by kernel_rfl
theorem maps : mapsRowed Tryz.prog = true := by kernel_rfl
theorem full : fullB Tryz.prog = true := by kernel_rfl
def pts : List Par := [(true, [.it .i64, .fl .f64, .it .i64, .it .i64, .it .i64, .it .i64, .it .i64]), (false, [.sl [.it .i64, .it .i64, .it .i64, .it .i64, .sl [.st, .st, .it .i64], .st, .bo]])]
theorem pars : parsOf Tryz.prog Tryz.f4.params.toList = some pts := by kernel_rfl
theorem small : smallB Tryz.prog Tryz.f4 = true := by kernel_rfl
theorem bulk (H : Type) : Bulk (H := H) Rows.uptoBulk Rows.uptoBulkAll := by
  refine ⟨?_, ?_, ?_, ?_, ?_, ?_⟩
  · simp [Rows.uptoBulkAll]
  · intro d r; simp [Rows.uptoBulkAll]
  · intro b; simp [Rows.uptoBulk]
  · intro d
    cases d with
    | lit l => cases l <;> simp [Rows.uptoBulk]
    | nil => simp [Rows.uptoBulk]
    | ptr d => simp [Rows.uptoBulk]
    | slice a b => simp [Rows.uptoBulk]
    | agg a => simp [Rows.uptoBulk]
    | iface t d => simp [Rows.uptoBulk]
    | map a => simp [Rows.uptoBulk]
    | held h => simp [Rows.uptoBulk]
  · intro a b; simp [Rows.uptoBulk]
  · intro a; simp [Rows.uptoBulk]

theorem pow_data : (Rows.laid_internal_strconv_uint64pow10 : DataW Unit) = Lib.tabData .u64 Lib.pow10Tab := by kernel_rfl
theorem pow_only : (Rows.scriptNobodyUptoRow.laid.filter fun x => x.2.handleName?.isNone).filter (fun x => x.1 == "internal/strconv.uint64pow10") = [("internal/strconv.uint64pow10", (Rows.laid_internal_strconv_uint64pow10 : DataW Unit))] := by kernel_rfl
/-- the table, out of the row's list -/
theorem tab_met {W : World} (h : laidMetH Tryz.checked.prog Rows.scriptNobodyUptoRow.laid W) : Lib.TabIs Tryz.prog W "internal/strconv.uint64pow10" .u64 Lib.pow10Tab := by
  have h1 : laidMet Tryz.prog (Rows.scriptNobodyUptoRow.laid.filter fun x => x.2.handleName?.isNone) W := (laidMetH_iff.1 h).1
  have h2 := h1.filter (fun x => x.1 == "internal/strconv.uint64pow10")
  rw [pow_only, pow_data] at h2
  have h3 : Lib.TabIs Tryz.prog W "internal/strconv.uint64pow10" .u64 Lib.pow10Tab := Lib.tabIs_of_head (g := 1) (t := 396) (e := 358) (n := 20) (by kernel_rfl) (by kernel_rfl) (by kernel_rfl) (by kernel_rfl) (by kernel_rfl) (by kernel_rfl) h2
  exact h3

set_option maxRecDepth 100000 in
theorem contract (H : Type) (enc : TypeId × Value → H) (W : World) (base : Nat) (args : Array Value) (ds gs : List (DataW H)) (before : List MemPlace)
    (hval : ∀ (j : Nat) t v, Tryz.f4.params[j]? = some t → args[j]? = some v → Value.okWide Tryz.prog W .any base t v)
    (hW : DataW.Whole enc Tryz.prog Tryz.f4.params.toList Rows.scriptNobodySpec.vars false W args.toList ds gs before) (hT : Lib.TabIs Tryz.prog W "internal/strconv.uint64pow10" .u64 Lib.pow10Tab) (hk : Rows.uptoSmall H (ds ++ gs) = true) :
    Calls Tryz.prog 4 args W fun e W' => ∃ v, e = .returned v ∧ Rows.scriptNobodySpec.post enc Tryz.prog Tryz.f4 false true false false W args v W' := by
  have hk : Rows.uptoBulkAll (ds ++ gs) ≤ 1048576 := of_decide_eq_true hk
  exact law_contract cnw.tableQ (F := Fq) (n := 4) (fn := c4) rfl (bulk H) (tb := 4) pars hval hW rfl (fun ds hd => by match ds, hd with | [d0,d1], _ => rfl) rfl (by kernel_rfl) laidOut maps full small (glob_of hT) 
    (fun xs hx hs => cnw.law xs hx (Nat.le_trans hs hk))

theorem reads (os : Os) {H : Type} (enc : TypeId × Value → H) : ∃ places, DataW.whole enc Tryz.prog ((laidWorld os).forCall (fun _ _ => 0) ⟨#[], #[.agg #[.int .i64 0, .float .f64 0, .int .i64 0, .int .i64 0, .int .i64 0, .int .i64 0, .int .i64 0], .slice none 0 0], []⟩).memory Tryz.f4.params.toList Rows.scriptNobodySpec.vars false (#[.agg #[.int .i64 0, .float .f64 0, .int .i64 0, .int .i64 0, .int .i64 0, .int .i64 0, .int .i64 0], .slice none 0 0] : Array Value).toList 8 = some ([.agg [.lit (.int .i64 0), .lit (.float .f64 0), .agg [.lit (.int .i64 0), .lit (.int .i64 0), .lit (.int .i64 0)], .lit (.int .i64 0), .lit (.int .i64 0)], .nil], [], places) :=
  ⟨[], by kernel_rfl⟩

set_option maxRecDepth 100000 in
theorem lifted (os : Os) (started : os.Started) (H : Type) (enc : TypeId × Value → H) (F : Stop.Interp) :
    ReturnsInHanded {} Tryz.checked os 4 .any ((Rows.OpenSpec.upto Rows.scriptNobodySpec).preRow enc Tryz.prog Tryz.f4 Rows.scriptNobodyUptoRow.domain false Rows.scriptNobodyUptoRow.laid) (((Rows.OpenSpec.upto Rows.scriptNobodySpec).at F).post enc Tryz.prog Tryz.f4 false true false false) := by
  obtain ⟨places, hx⟩ := reads os enc
  refine returnsInHanded_of_row (C := Tryz.checked) (s := Rows.OpenSpec.upto Rows.scriptNobodySpec) own started (by kernel_rfl) Tryz.func4
    (witness_row_at (enc := enc) (C := Tryz.checked) false (laidWorld os) #[.agg #[.int .i64 0, .float .f64 0, .int .i64 0, .int .i64 0, .int .i64 0, .int .i64 0, .int .i64 0], .slice none 0 0] rfl (by kernel_rfl) (by kernel_rfl) (by kernel_rfl)
      (OpenSpec.preRow_of_cond 8 hx (by kernel_rfl) (fun k hk => by cases hk; exact (by kernel_rfl)) (by kernel_rfl) (laid_met os #[.agg #[.int .i64 0, .float .f64 0, .int .i64 0, .int .i64 0, .int .i64 0, .int .i64 0, .int .i64 0], .slice none 0 0]))) ?_
  intro W base args ds gs before hval hW _ hk _ hL _ _
  exact contract H enc W base args ds gs before hval hW (tab_met hL) (hk _ rfl)

theorem j1 : Tryz.checked.prog.inPlace 4 = Rows.scriptNobodyUptoRow.inPlace := by kernel_rfl
theorem j2 : Tryz.checked.prog.unfollowed 4 = Rows.scriptNobodyUptoRow.unfollowed := by kernel_rfl
theorem j3 : Tryz.checked.prog.recurses 4 = Rows.scriptNobodyUptoRow.recurses := by kernel_rfl
theorem j4 : Tryz.checked.prog.varsNamed 4 = Rows.scriptNobodyUptoRow.named := by kernel_rfl
theorem j5 : Tryz.checked.prog.stops = [] := by kernel_rfl
theorem j6 : Tryz.checked.prog.stopKnobs = [] := by kernel_rfl
theorem j7 : Tryz.checked.prog.plainKeys = Rows.scriptNobodyUptoRow.plainKeys := by kernel_rfl
theorem j8 : Tryz.checked.prog.stopsHeard = true := by kernel_rfl
theorem j9 : Tryz.checked.prog.mayEnter = true := by kernel_rfl
theorem j10 : Tryz.checked.prog.liftsFinal = Rows.scriptNobodyUptoRow.lifted := by kernel_rfl
theorem j11 : Tryz.checked.prog.make = some Rows.scriptNobodyUptoRow.make := by kernel_rfl
theorem joined : joinedFacts Tryz.checked.prog 4 Tryz.f4 (Rows.OpenSpec.upto Rows.scriptNobodySpec).bare Rows.scriptNobodyUptoRow = true := by
  unfold joinedFacts
  rw [j1, j2, j3, j4, j5, j6, j7, j8, j9, j10, j11]
  kernel_rfl
theorem wfT : Rows.scriptNobodyUptoRow.wfByText (Rows.OpenSpec.upto Rows.scriptNobodySpec) = true := by kernel_rfl
theorem goes : false = Rows.scriptNobodyUptoRow.goesBy Tryz.checked.prog := by kernel_rfl
theorem main : Tryz.checked.prog.mainIs = some (Rows.scriptNobodyUptoCard.stood.harness.1, Rows.scriptNobodyUptoCard.stood.harness.2.toList) := by kernel_rfl

theorem said : Rows.ScriptNobodyUptoSaid :=
  OpenClaim.holds_of_cond 4 Tryz.f4 rfl rfl rfl rfl rfl rfl rfl ⟨rfl, rfl, rfl, rfl, rfl⟩ rfl rfl rfl rfl rfl (by kernel_rfl) Tryz.func4 joined
    (of_decide_eq_true (by kernel_rfl)) (by unfold Func.isWrapper; first | (rw [if_pos (by decide +kernel)]; kernel_rfl) | (rw [if_neg (by decide +kernel)]; exact ⟨rfl, rfl⟩))
    (fun os started H enc _ F => by rw [OpenClaim.pre_eq_preRow]; exact lifted os started H enc F)

theorem plain (f : FuncId) (fn : Func) (hf : Tryz.pinned.checked.prog.funcNamed "reservoir/reservoirlaw27.ScriptNobody" = some f) (hfn : Tryz.pinned.checked.prog.funcs[f]? = some fn) :
    true = Tryz.pinned.checked.prog.looks [] ∧ ∀ (j : Nat) t, fn.params[j]? = some t → Tryz.pinned.checked.prog.wantsStandIn t = false := by
  obtain rfl : f = 4 := Option.some.inj ((show Tryz.prog.funcNamed "reservoir/reservoirlaw27.ScriptNobody" = some 4 by kernel_rfl).symm.trans hf) |>.symm
  obtain rfl : fn = Tryz.f4 := (Option.some.inj (Tryz.func4.symm.trans hfn)).symm
  refine ⟨by kernel_rfl, fun j t ht => ?_⟩
  rw [Tryz.params4] at ht
  have hm := Array.mem_of_getElem? ht
  simp only [List.mem_toArray, List.mem_cons, List.not_mem_nil, or_false] at hm
  rcases hm with rfl | rfl
  · exact (show Tryz.prog.wantsStandIn 31 = false by kernel_rfl)
  · exact (show Tryz.prog.wantsStandIn 46 = false by kernel_rfl)

theorem card : Rows.ScriptNobodyUptoCardSaid :=
  Claim7.holds_tied_plain_at .later [] _ _ _ _ said (fun _ h => by cases h) wfT (fun _ h => by cases h) scriptNobodyUpto_row_tie rfl ⟨rfl, rfl⟩ main rfl plain goes
end Go.Proofs.YtfnoiklmcmboeaaGreatDoor.scriptNobody


