import Derived.Test.YtcbiplmgaiipgaaEvE
import Derived.Test.YtcbiplmgaiipgaaBackS
import Derived.Test.YtcbiplmgaiipgaaRows
/- MessageBack: whatever the arguments, of bulk at most 1048576 together, the call returns true and the arguments read as they did. -/
namespace Go.Proofs.Ytcbiplmgaiipgaa.messageBack
open Go hiding Fn
open Go.ChangeShapes Go.WideShapes Go.ChangeAt Go.RowKit Ev tab

theorem own : ownKnob Try.prog.godebug = none := by kernel_rfl
theorem laid : laidOutB Try.prog = true := by kernel_rfl
theorem maps : mapsRowed Try.prog = true := by kernel_rfl
theorem full : fullB Try.prog = true := by kernel_rfl
def pts : List Par := [(false, [.sl [.st, .st]])]
theorem pars : parsOf Try.prog Try.f4.params.toList = some pts := by kernel_rfl
theorem small : smallB Try.prog Try.f4 = true := by kernel_rfl
theorem bulk (H : Type) : Bulk (H := H) Rows.uptoBulk Rows.uptoBulkAll := by
  refine ⟨?_, ?_, ?_, ?_, ?_, ?_⟩
  · simp [Rows.uptoBulkAll]
  · intro d r; simp [Rows.uptoBulkAll]
  · intro b; simp [Rows.uptoBulk]
  · intro d
    cases d with
    | lit l => cases l <;> simp [Rows.uptoBulk]
    | nil => simp [Rows.uptoBulk]
    | ptr d => simp [Rows.uptoBulk]
    | slice a b => simp [Rows.uptoBulk]
    | agg a => simp [Rows.uptoBulk]
    | iface t d => simp [Rows.uptoBulk]
    | map a => simp [Rows.uptoBulk]
    | held h => simp [Rows.uptoBulk]
  · intro a b; simp [Rows.uptoBulk]
  · intro a; simp [Rows.uptoBulk]

set_option maxRecDepth 100000 in
theorem contract (H : Type) (enc : TypeId × Value → H) (W : World) (base : Nat) (args : Array Value) (ds gs : List (DataW H)) (before : List MemPlace)
    (hval : ∀ (j : Nat) t v, Try.f4.params[j]? = some t → args[j]? = some v → Value.okWide Try.prog W .any base t v)
    (hW : DataW.Whole enc Try.prog Try.f4.params.toList Rows.messageBackSpec.vars false W args.toList ds gs before) (hk : Rows.uptoSmall H (ds ++ gs) = true) :
    Calls Try.prog 4 args W fun e W' => ∃ v, e = .returned v ∧ Rows.messageBackSpec.post enc Try.prog Try.f4 false true false false W args v W' := by
  have hk : Rows.uptoBulkAll (ds ++ gs) ≤ 1048576 := of_decide_eq_true hk
  exact law_contract table (F := F) (n := 4) (fn := c4) rfl (bulk H) (tb := 4) pars hval hW rfl (fun ds hd => by match ds, hd with | [d0], _ => rfl) rfl (by kernel_rfl) laid maps full small (globOK _)
    (fun xs hx hs => back_law xs hx (Nat.le_trans hs hk))

set_option maxRecDepth 100000 in
theorem lifted (os : Os) (started : os.Started) (H : Type) (enc : TypeId × Value → H) (K : Stop.Interp) :
    ReturnsInHanded {} Try.checked os 4 .any ((Rows.OpenSpec.upto Rows.messageBackSpec).pre6 enc Try.prog Try.f4 Rows.messageBackUptoRow.domain false) (((Rows.OpenSpec.upto Rows.messageBackSpec).at K).post enc Try.prog Try.f4 false true false false) := by
  refine returnsInHanded_of_cond (C := Try.checked) (s := Rows.OpenSpec.upto Rows.messageBackSpec) (k := Rows.uptoSmall) rfl own started (by kernel_rfl) Try.func4
    (OpenSpec.witness (enc := enc) (C := Try.checked) (s := Rows.OpenSpec.upto Rows.messageBackSpec) (k := Rows.uptoSmall) rfl false ⟨#[], #[.slice none 0 0], []⟩ 8 (by kernel_rfl) (by kernel_rfl) (by kernel_rfl)
      (x := ([.nil], [], [])) (by kernel_rfl) rfl (by kernel_rfl)) ?_
  intro W base args ds gs before hval hW _ hk _
  exact contract H enc W base args ds gs before hval hW hk

theorem over : Rows.messageBackUptoRow.holds Try.pinned (Rows.OpenSpec.upto Rows.messageBackSpec) :=
  OpenClaim.holds_of_cond 4 Try.f4 rfl rfl rfl rfl rfl rfl rfl ⟨rfl, rfl, rfl, rfl, rfl⟩ rfl rfl rfl rfl rfl (by kernel_rfl) Try.func4 (by kernel_rfl)
    (of_decide_eq_true (by kernel_rfl)) (by unfold Func.isWrapper; first | (rw [if_pos (by decide +kernel)]; kernel_rfl) | (rw [if_neg (by decide +kernel)]; exact ⟨rfl, rfl⟩))
    (fun os started H enc _ K => lifted os started H enc K)

theorem proved : Rows.MessageBackUptoSaid :=
  over
end Go.Proofs.Ytcbiplmgaiipgaa.messageBack
