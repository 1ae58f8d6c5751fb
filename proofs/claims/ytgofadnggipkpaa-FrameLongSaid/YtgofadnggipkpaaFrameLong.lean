/- FrameLong: whatever the arguments, the call returns true and the arguments read as they did. -/
import Derived.Test.YtgofadnggipkpaaLong
import Derived.Test.YtgofadnggipkpaaEvDat
import Derived.Test.YtgofadnggipkpaaRows
namespace Go.Proofs.Ytgofadnggipkpaa.frameLong
open Go hiding Fn
open Go.ChangeShapes Go.WideShapes Go.ChangeAt Go.RowKit Ev tab

theorem own : ownKnob Try.prog.godebug = none := by kernel_rfl
theorem laid : laidOutB Try.prog = true := by kernel_rfl
theorem maps : mapsRowed Try.prog = true := by kernel_rfl
theorem full : fullB Try.prog = true := by kernel_rfl
def pts : List Par := [(false, [.it .i64]), (false, [.sl [.it .u8]])]
theorem pars : parsOf Try.prog Try.f9.params.toList = some pts := by kernel_rfl
theorem small : smallB Try.prog Try.f9 = true := by kernel_rfl
theorem bulk (H : Type) : Bulk (H := H) Rows.uptoBulk Rows.uptoBulkAll := by
  refine ⟨?_, ?_, ?_, ?_, ?_, ?_⟩
  · simp [Rows.uptoBulkAll]
  · intro d r; simp [Rows.uptoBulkAll]
  · intro b; simp [Rows.uptoBulk]
  · intro d
    cases d with
    | lit l => cases l <;> simp [Rows.uptoBulk]
    | nil => simp [Rows.uptoBulk]
    | ptr d => simp [Rows.uptoBulk]
    | slice a b => simp [Rows.uptoBulk]
    | agg a => simp [Rows.uptoBulk]
    | iface t d => simp [Rows.uptoBulk]
    | map a => simp [Rows.uptoBulk]
    | held h => simp [Rows.uptoBulk]
  · intro a b; simp [Rows.uptoBulk]
  · intro a; simp [Rows.uptoBulk]

set_option maxRecDepth 100000 in
theorem contract (H : Type) (enc : TypeId × Value → H) (W : World) (base : Nat) (args : Array Value) (ds gs : List (DataW H)) (before : List MemPlace)
    (hval : ∀ (j : Nat) t v, Try.f9.params[j]? = some t → args[j]? = some v → Value.okWide Try.prog W .any base t v)
    (hW : DataW.Whole enc Try.prog Try.f9.params.toList Rows.frameLongSpec.vars false W args.toList ds gs before) :
    Calls Try.prog 9 args W fun e W' => ∃ v, e = .returned v ∧ Rows.frameLongSpec.post enc Try.prog Try.f9 false true false false W args v W' :=
  law_contract table (F := F) (n := 9) (fn := c9) rfl (bulk H) (tb := 4) pars hval hW rfl (fun ds hd => by match ds, hd with | [d0, d1], _ => rfl) rfl (by kernel_rfl) laid maps full small
    (fun xs hx _ => long_law xs hx)

set_option maxRecDepth 100000 in
theorem lifted (os : Os) (started : os.Started) (H : Type) (enc : TypeId × Value → H) :
    ReturnsInHanded {} Try.checked os 9 .any (Rows.frameLongSpec.pre6 enc Try.prog Try.f9 Rows.frameLongRow.domain false) (Rows.frameLongSpec.post enc Try.prog Try.f9 false true false false) := by
  refine returnsInHanded_of_change (C := Try.checked) own started (by kernel_rfl) Try.func9
    (ChangeSpec.witness6 (enc := enc) (C := Try.checked) (s := Rows.frameLongSpec) false ⟨#[], #[.int .i64 0, .slice none 0 0], []⟩ 8 (by kernel_rfl) (by kernel_rfl) (by kernel_rfl) (by kernel_rfl)) ?_
  intro W base args ds gs before hval hW _ _
  exact contract H enc W base args ds gs before hval hW

theorem over : Rows.frameLongRow.holds Try.pinned (OpenSpec.ofChange Rows.frameLongSpec) :=
  OpenClaim.holds_of_wide 9 Try.f9 rfl rfl rfl rfl rfl rfl rfl ⟨rfl, rfl, rfl, rfl, rfl⟩ rfl rfl rfl rfl rfl (by kernel_rfl) Try.func9 (by kernel_rfl)
    (of_decide_eq_true (by kernel_rfl)) (by unfold Func.isWrapper; first | (rw [if_pos (by decide +kernel)]; kernel_rfl) | (rw [if_neg (by decide +kernel)]; exact ⟨rfl, rfl⟩))
    (fun os started H enc _ => lifted os started H enc)

theorem proved : Rows.FrameLongSaid :=
  over
end Go.Proofs.Ytgofadnggipkpaa.frameLong
