import Derived.Test.YtcbiplmgaiipgaaDoorEvE
import Derived.Test.YtcbiplmgaiipgaaDoorLenX
import Derived.LaidSub
import Derived.Lib.LaidTab
import Derived.Test.YtcbiplmgaiipgaaDoorCards
import Derived.Test.YtcbiplmgaiipgaaDoorTie
import Derived.Test.YtcbiplmgaiipgaaDoorWorld
/- MessageLengths: whatever the arguments, the call returns true and the arguments read as they did; the card. -/
namespace Go.Proofs.YtcbiplmgaiipgaaDoor.messageLengths
open Go hiding Fn
open Go.ChangeShapes Go.WideShapes Go.ChangeAt Go.RowKit Ev tab

theorem own : ownKnob Tryd.prog.godebug = none := by kernel_rfl
theorem laidOut : laidOutB Tryd.prog = true := by kernel_rfl
theorem maps : mapsRowed Tryd.prog = true := by kernel_rfl
theorem full : fullB Tryd.prog = true := by kernel_rfl
def pts : List Par := [(false, [.it .u32]), (false, [.it .u32]), (false, [.bo])]
theorem pars : parsOf Tryd.prog Tryd.f3.params.toList = some pts := by kernel_rfl
theorem small : smallB Tryd.prog Tryd.f3 = true := by kernel_rfl
theorem bulk (H : Type) : Bulk (H := H) Rows.uptoBulk Rows.uptoBulkAll := by
  refine ⟨?_, ?_, ?_, ?_, ?_, ?_⟩
  · simp [Rows.uptoBulkAll]
  · intro d r; simp [Rows.uptoBulkAll]
  · intro b; simp [Rows.uptoBulk]
  · intro d
    cases d with
    | lit l => cases l <;> simp [Rows.uptoBulk]
    | nil => simp [Rows.uptoBulk]
    | ptr d => simp [Rows.uptoBulk]
    | slice a b => simp [Rows.uptoBulk]
    | agg a => simp [Rows.uptoBulk]
    | iface t d => simp [Rows.uptoBulk]
    | map a => simp [Rows.uptoBulk]
    | held h => simp [Rows.uptoBulk]
  · intro a b; simp [Rows.uptoBulk]
  · intro a; simp [Rows.uptoBulk]

theorem pow_data : (Rows.laid_internal_strconv_uint64pow10 : DataW Unit) = Lib.tabData .u64 Lib.pow10Tab := by kernel_rfl
theorem pow_only : (Rows.messageLengthsRow.laid.filter fun x => x.2.handleName?.isNone).filter (fun x => x.1 == "internal/strconv.uint64pow10") = [("internal/strconv.uint64pow10", (Rows.laid_internal_strconv_uint64pow10 : DataW Unit))] := by kernel_rfl
/-- the table, out of the row's list -/
theorem tab_met {W : World} (h : laidMetH Tryd.checked.prog Rows.messageLengthsRow.laid W) : Lib.TabIs Tryd.prog W "internal/strconv.uint64pow10" .u64 Lib.pow10Tab := by
  have h1 : laidMet Tryd.prog (Rows.messageLengthsRow.laid.filter fun x => x.2.handleName?.isNone) W := (laidMetH_iff.1 h).1
  have h2 := h1.filter (fun x => x.1 == "internal/strconv.uint64pow10")
  rw [pow_only, pow_data] at h2
  have h3 : Lib.TabIs Tryd.prog W "internal/strconv.uint64pow10" .u64 Lib.pow10Tab := Lib.tabIs_of_head (g := 0) (t := 64) (e := 53) (n := 20) (by kernel_rfl) (by kernel_rfl) (by kernel_rfl) (by kernel_rfl) (by kernel_rfl) (by kernel_rfl) h2
  exact h3

set_option maxRecDepth 100000 in
theorem contract (H : Type) (enc : TypeId × Value → H) (W : World) (base : Nat) (args : Array Value) (ds gs : List (DataW H)) (before : List MemPlace)
    (hval : ∀ (j : Nat) t v, Tryd.f3.params[j]? = some t → args[j]? = some v → Value.okWide Tryd.prog W .any base t v)
    (hW : DataW.Whole enc Tryd.prog Tryd.f3.params.toList Rows.messageLengthsSpec.vars false W args.toList ds gs before) (hT : Lib.TabIs Tryd.prog W "internal/strconv.uint64pow10" .u64 Lib.pow10Tab) :
    Calls Tryd.prog 3 args W fun e W' => ∃ v, e = .returned v ∧ Rows.messageLengthsSpec.post enc Tryd.prog Tryd.f3 false true false false W args v W' :=
  law_contract table (F := F) (n := 3) (fn := c3) rfl (bulk H) (tb := 4) pars hval hW rfl (fun ds hd => by match ds, hd with | [d0, d1, d2], _ => rfl) rfl (by kernel_rfl) laidOut maps full small (glob_of hT)
    (fun xs hx _ => len_law xs hx)

theorem reads (os : Os) {H : Type} (enc : TypeId × Value → H) : ∃ places, DataW.whole enc Tryd.prog ((laidWorld os).forCall (fun _ _ => 0) ⟨#[], #[.int .u32 0, .int .u32 0, .bool false], []⟩).memory Tryd.f3.params.toList Rows.messageLengthsSpec.vars false (#[.int .u32 0, .int .u32 0, .bool false] : Array Value).toList 8 = some ([.lit (.int .u32 0), .lit (.int .u32 0), .lit (.bool false)], [], places) :=
  ⟨[], by kernel_rfl⟩

set_option maxRecDepth 100000 in
theorem lifted (os : Os) (started : os.Started) (H : Type) (enc : TypeId × Value → H) (F : Stop.Interp) :
    ReturnsInHanded {} Tryd.checked os 3 .any ((OpenSpec.ofChange Rows.messageLengthsSpec).preRow enc Tryd.prog Tryd.f3 Rows.messageLengthsRow.domain false Rows.messageLengthsRow.laid) (((OpenSpec.ofChange Rows.messageLengthsSpec).at F).post enc Tryd.prog Tryd.f3 false true false false) := by
  obtain ⟨places, hx⟩ := reads os enc
  refine returnsInHanded_of_row (C := Tryd.checked) (s := OpenSpec.ofChange Rows.messageLengthsSpec) own started (by kernel_rfl) Tryd.func3
    (witness_row_at (enc := enc) (C := Tryd.checked) false (laidWorld os) #[.int .u32 0, .int .u32 0, .bool false] rfl (by kernel_rfl) (by kernel_rfl) (by kernel_rfl)
      (OpenSpec.preRow_of_cond 8 hx (by kernel_rfl) (fun k hk => by cases hk) (by kernel_rfl) (laid_met os #[.int .u32 0, .int .u32 0, .bool false]))) ?_
  intro W base args ds gs before hval hW _ _ _ hL _ _
  exact contract H enc W base args ds gs before hval hW (tab_met hL)

theorem said : Rows.MessageLengthsSaid :=
  OpenClaim.holds_of_cond 3 Tryd.f3 rfl rfl rfl rfl rfl rfl rfl ⟨rfl, rfl, rfl, rfl, rfl⟩ rfl rfl rfl rfl rfl (by kernel_rfl) Tryd.func3 (by kernel_rfl)
    (of_decide_eq_true (by kernel_rfl)) (by unfold Func.isWrapper; first | (rw [if_pos (by decide +kernel)]; kernel_rfl) | (rw [if_neg (by decide +kernel)]; exact ⟨rfl, rfl⟩))
    (fun os started H enc _ F => by rw [OpenClaim.pre_eq_preRow]; exact lifted os started H enc F)

theorem plain (f : FuncId) (fn : Func) (hf : Tryd.pinned.checked.prog.funcNamed "reservoir/reservoirlaw15.MessageLengths" = some f) (hfn : Tryd.pinned.checked.prog.funcs[f]? = some fn) :
    false = Tryd.pinned.checked.prog.looks [] ∧ ∀ (j : Nat) t, fn.params[j]? = some t → Tryd.pinned.checked.prog.wantsStandIn t = false := by
  obtain rfl : f = 3 := Option.some.inj ((show Tryd.prog.funcNamed "reservoir/reservoirlaw15.MessageLengths" = some 3 by kernel_rfl).symm.trans hf) |>.symm
  obtain rfl : fn = Tryd.f3 := (Option.some.inj (Tryd.func3.symm.trans hfn)).symm
  refine ⟨by kernel_rfl, fun j t ht => ?_⟩
  rw [Tryd.params3] at ht
  have hm := Array.mem_of_getElem? ht
  simp only [List.mem_toArray, List.mem_cons, List.not_mem_nil, or_false, or_self] at hm
  rcases hm with rfl | rfl | rfl
  · exact (show Tryd.prog.wantsStandIn 22 = false by kernel_rfl)
  · exact (show Tryd.prog.wantsStandIn 22 = false by kernel_rfl)
  · exact (show Tryd.prog.wantsStandIn 4 = false by kernel_rfl)

theorem card : Rows.MessageLengthsCardSaid :=
  Claim7.holds_tied_plain_at .later [] _ _ _ _ said (fun _ h => by cases h) (by kernel_rfl) (fun _ h => by cases h) messageLengths_row_tie rfl ⟨rfl, rfl⟩ (by kernel_rfl) rfl plain (by kernel_rfl)
end Go.Proofs.YtcbiplmgaiipgaaDoor.messageLengths
