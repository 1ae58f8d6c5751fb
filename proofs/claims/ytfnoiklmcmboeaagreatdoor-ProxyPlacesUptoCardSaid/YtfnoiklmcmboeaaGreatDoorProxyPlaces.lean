import Derived.Test.YtfnoiklmcmboeaaGreatDoorEvE
import Derived.Test.YtfnoiklmcmboeaaGreatDoorLawF
import Derived.Test.YtfnoiklmcmboeaaGreatDoorCards
import Derived.Test.YtfnoiklmcmboeaaGreatDoorTie
import Derived.Test.YtfnoiklmcmboeaaGreatDoorWorld
import Derived.LaidSub
import Derived.Lib.LaidTab
set_option linter.unusedVariables false
set_option linter.unusedSimpArgs false
set_option linter.unusedSectionVars false
/- ProxyPlaces: whatever the arguments, of bulk at most 1048576 together, the call returns true and the arguments read as they did; the card. -/
namespace Go.Proofs.YtfnoiklmcmboeaaGreatDoor.proxyPlaces
open Go hiding Fn
open Go.ChangeShapes Go.WideShapes Go.ChangeAt Go.RowKit Ev tab
theorem own : ownKnob Tryz.prog.godebug = none := by kernel_rfl
theorem laidOut : laidOutB Tryz.prog = true := by kernel_rfl
theorem maps : mapsRowed Tryz.prog = true := by kernel_rfl
theorem full : fullB Tryz.prog = true := by kernel_rfl
def pts : List Par := [(false, [.sl [.it .i64, .it .i64, .it .i64, .sl [.it .u8]]])]
theorem pars : parsOf Tryz.prog Tryz.f3.params.toList = some pts := by kernel_rfl
theorem small : smallB Tryz.prog Tryz.f3 = true := by kernel_rfl
theorem bulk (H : Type) : Bulk (H := H) Rows.uptoBulk Rows.uptoBulkAll := by
 refine ⟨?_, ?_, ?_, ?_, ?_, ?_⟩
 ·simp [Rows.uptoBulkAll]
 ·intro d r; simp [Rows.uptoBulkAll]
 ·intro b; simp [Rows.uptoBulk]
 ·intro d
  cases d with
  | lit l => cases l <;> simp [Rows.uptoBulk]
  | nil => simp [Rows.uptoBulk]
  | ptr d => simp [Rows.uptoBulk]
  | slice a b => simp [Rows.uptoBulk]
  | agg a => simp [Rows.uptoBulk]
  | iface t d => simp [Rows.uptoBulk]
  | map a => simp [Rows.uptoBulk]
  | held h => simp [Rows.uptoBulk]
 ·intro a b; simp [Rows.uptoBulk]
 ·intro a; simp [Rows.uptoBulk]
theorem pow_data : (Rows.laid_internal_strconv_uint64pow10 : DataW Unit) = Lib.tabData .u64 Lib.pow10Tab := by kernel_rfl
theorem pow_only : (Rows.proxyPlacesUptoRow.laid.filter fun x => x.2.handleName?.isNone).filter (fun x => x.1 == "internal/strconv.uint64pow10") = [("internal/strconv.uint64pow10", (Rows.laid_internal_strconv_uint64pow10 : DataW Unit))] := by kernel_rfl
/-- the table, out of the row's list -/
theorem tab_met {W : World} (h : laidMetH Tryz.checked.prog Rows.proxyPlacesUptoRow.laid W) : Lib.TabIs Tryz.prog W "internal/strconv.uint64pow10" .u64 Lib.pow10Tab := by
 have h1 : laidMet Tryz.prog (Rows.proxyPlacesUptoRow.laid.filter fun x => x.2.handleName?.isNone) W := (laidMetH_iff.1 h).1
 have h2 := h1.filter (fun x => x.1 == "internal/strconv.uint64pow10")
 rw [pow_only, pow_data] at h2
 have h3 : Lib.TabIs Tryz.prog W "internal/strconv.uint64pow10" .u64 Lib.pow10Tab := Lib.tabIs_of_head (g := 1) (t := 396) (e := 358) (n := 20) (by kernel_rfl) (by kernel_rfl) (by kernel_rfl) (by kernel_rfl) (by kernel_rfl) (by kernel_rfl) h2
 exact h3
set_option maxRecDepth 100000 in
theorem contract (H : Type) (enc : TypeId × Value -> H) (W : World) (base : Nat) (args : Array Value) (ds gs : List (DataW H)) (before : List MemPlace)
  (hval : ∀ (j : Nat) t v, Tryz.f3.params[j]? = some t -> args[j]? = some v -> Value.okWide Tryz.prog W .any base t v)
  (hW : DataW.Whole enc Tryz.prog Tryz.f3.params.toList Rows.proxyPlacesSpec.vars false W args.toList ds gs before) (hT : Lib.TabIs Tryz.prog W "internal/strconv.uint64pow10" .u64 Lib.pow10Tab) (hk : Rows.uptoSmall H (ds ++ gs) = true) :
  Calls Tryz.prog 3 args W fun e W' => ∃ v, e = .returned v /\ Rows.proxyPlacesSpec.post enc Tryz.prog Tryz.f3 false true false false W args v W' := by
 have hk : Rows.uptoBulkAll (ds ++ gs) <= 1048576 := of_decide_eq_true hk
 exact law_contract cnw.tableQ (F := Fq) (n := 3) (fn := c3) rfl (bulk H) (tb := 4) pars hval hW rfl (fun ds hd => by match ds, hd with | [d0], _ => rfl) rfl (by kernel_rfl) laidOut maps full small (glob_of hT)
  (fun xs hx hs => cnw.law xs hx (Nat.le_trans hs hk))
theorem reads (os : Os) {H : Type} (enc : TypeId × Value -> H) : ∃ places, DataW.whole enc Tryz.prog ((laidWorld os).forCall (fun _ _ => 0) ⟨#[], #[.slice none 0 0], []⟩).memory Tryz.f3.params.toList Rows.proxyPlacesSpec.vars false (#[.slice none 0 0] : Array Value).toList 8 = some ([.nil], [], places) :=
 ⟨[], by kernel_rfl⟩
set_option maxRecDepth 100000 in
theorem lifted (os : Os) (started : os.Started) (H : Type) (enc : TypeId × Value -> H) (F : Stop.Interp) :
  ReturnsInHanded {} Tryz.checked os 3 .any ((Rows.OpenSpec.upto Rows.proxyPlacesSpec).preRow enc Tryz.prog Tryz.f3 Rows.proxyPlacesUptoRow.domain false Rows.proxyPlacesUptoRow.laid) (((Rows.OpenSpec.upto Rows.proxyPlacesSpec).at F).post enc Tryz.prog Tryz.f3 false true false false) := by
 obtain ⟨places, hx⟩ := reads os enc
 refine returnsInHanded_of_row (C := Tryz.checked) (s := Rows.OpenSpec.upto Rows.proxyPlacesSpec) own started (by kernel_rfl) Tryz.func3
  (witness_row_at (enc := enc) (C := Tryz.checked) false (laidWorld os) #[.slice none 0 0] rfl (by kernel_rfl) (by kernel_rfl) (by kernel_rfl)
   (OpenSpec.preRow_of_cond 8 hx (by kernel_rfl) (fun k hk => by cases hk; exact (by kernel_rfl)) (by kernel_rfl) (laid_met os #[.slice none 0 0]))) ?_
 intro W base args ds gs before hval hW _ hk _ hL _ _
 exact contract H enc W base args ds gs before hval hW (tab_met hL) (hk _ rfl)
theorem j1 : Tryz.checked.prog.inPlace 3 = Rows.proxyPlacesUptoRow.inPlace := by kernel_rfl
theorem j2 : Tryz.checked.prog.unfollowed 3 = Rows.proxyPlacesUptoRow.unfollowed := by kernel_rfl
theorem j3 : Tryz.checked.prog.recurses 3 = Rows.proxyPlacesUptoRow.recurses := by kernel_rfl
theorem j4 : Tryz.checked.prog.varsNamed 3 = Rows.proxyPlacesUptoRow.named := by kernel_rfl
theorem j5 : Tryz.checked.prog.stops = [] := by kernel_rfl
theorem j6 : Tryz.checked.prog.stopKnobs = [] := by kernel_rfl
theorem j7 : Tryz.checked.prog.plainKeys = Rows.proxyPlacesUptoRow.plainKeys := by kernel_rfl
theorem j8 : Tryz.checked.prog.stopsHeard = true := by kernel_rfl
theorem j9 : Tryz.checked.prog.mayEnter = true := by kernel_rfl
theorem j10 : Tryz.checked.prog.liftsFinal = Rows.proxyPlacesUptoRow.lifted := by kernel_rfl
theorem j11 : Tryz.checked.prog.make = some Rows.proxyPlacesUptoRow.make := by kernel_rfl
theorem joined : joinedFacts Tryz.checked.prog 3 Tryz.f3 (Rows.OpenSpec.upto Rows.proxyPlacesSpec).bare Rows.proxyPlacesUptoRow = true := by
 unfold joinedFacts
 rw [j1, j2, j3, j4, j5, j6, j7, j8, j9, j10, j11]
 kernel_rfl
theorem wfT : Rows.proxyPlacesUptoRow.wfByText (Rows.OpenSpec.upto Rows.proxyPlacesSpec) = true := by kernel_rfl
theorem goes : false = Rows.proxyPlacesUptoRow.goesBy Tryz.checked.prog := by kernel_rfl
theorem main : Tryz.checked.prog.mainIs = some (Rows.proxyPlacesUptoCard.stood.harness.1, Rows.proxyPlacesUptoCard.stood.harness.2.toList) := by kernel_rfl
theorem said : Rows.ProxyPlacesUptoSaid :=
 OpenClaim.holds_of_cond 3 Tryz.f3 rfl rfl rfl rfl rfl rfl rfl ⟨rfl, rfl, rfl, rfl, rfl⟩ rfl rfl rfl rfl rfl (by kernel_rfl) Tryz.func3 joined
  (of_decide_eq_true (by kernel_rfl)) (by unfold Func.isWrapper; first | (rw [if_pos (by decide +kernel)]; kernel_rfl) | (rw [if_neg (by decide +kernel)]; exact ⟨rfl, rfl⟩))
  (fun os started H enc _ F => by rw [OpenClaim.pre_eq_preRow]; exact lifted os started H enc F)
theorem plain (f : FuncId) (fn : Func) (hf : Tryz.pinned.checked.prog.funcNamed "reservoir/reservoirlaw26.ProxyPlaces" = some f) (hfn : Tryz.pinned.checked.prog.funcs[f]? = some fn) :
  true = Tryz.pinned.checked.prog.looks [] /\ ∀ (j : Nat) t, fn.params[j]? = some t -> Tryz.pinned.checked.prog.wantsStandIn t = false := by
 obtain rfl : f = 3 := Option.some.inj ((show Tryz.prog.funcNamed "reservoir/reservoirlaw26.ProxyPlaces" = some 3 by kernel_rfl).symm.trans hf) |>.symm
 obtain rfl : fn = Tryz.f3 := (Option.some.inj (Tryz.func3.symm.trans hfn)).symm
 refine ⟨by kernel_rfl, fun j t ht => ?_⟩
 rw [Tryz.params3] at ht
 have hm := Array.mem_of_getElem? ht
 simp only [List.mem_toArray, List.mem_cons, List.not_mem_nil, or_false, or_self] at hm
 rcases hm with rfl
 ·exact (show Tryz.prog.wantsStandIn 22 = false by kernel_rfl)
theorem card : Rows.ProxyPlacesUptoCardSaid :=
 Claim7.holds_tied_plain_at .later [] _ _ _ _ said (fun _ h => by cases h) wfT (fun _ h => by cases h) proxyPlacesUpto_row_tie rfl ⟨rfl, rfl⟩ main rfl plain goes
end Go.Proofs.YtfnoiklmcmboeaaGreatDoor.proxyPlaces
