/-
  No cell of these rows narrows 'for every input' (looked for: loops, veiled, ifaces, maps, wideKeys, modest, calm, conditions, laid).
  DERIVED. THE GIVEN ROWS OF THIS SEAT. 17 by the template 'for every input the law returns true; each argument reads behind the call as it read before'; 0 by the template 'total and deterministic' (their statements: YtcbiplmgaiipgaaTotals.lean).
  GIVEN WITH THE SEED: the statements are not yours to turn. If you find one false, say at which input.
  Laid BY PROGRAM, IN A SANDBOX (cutbox-rows.mjs): the forced cells as the released guide's own fill.sh prints them over the translation eb4d32c15481a9a7… (all of the seat's roots in one cut). By AI agents, Wed Nov 11 2026. No macro, syntax, notation, axiom, sorry.
-/
import Derived.Test.YtcbiplmgaiipgaaChecked
import GoSem.Claim
import GoSem.ClaimJoined
import GoSem.ClaimMapViews
import Derived.JoinedTies
import Derived.KernelRfl
namespace Go.Proofs.Ytcbiplmgaiipgaa
/- THE CELL 'sum', in the pinned program and in every row, IS THE sha256 OF THE DUMP (.gsa) THAT YtcbiplmgaiipgaaProg.lean LOADS. Nothing in Lean hashes anything: it is a label: what it is worth is what the hold of that sum in a sandbox is worth. -/
noncomputable def Try.pinned : Pinned := { name := "ytcbiplmgaiipgaa", sum := "eb4d32c15481a9a77b34f7cbc625b7c4db46e5e10710f64c5de42b8c42e155ce", checked := Try.checked }
namespace Rows
def none {H : Type} : Left H := { results := [], args := [] }

/-- 'reservoirlaw15.MessageRuns': WHATEVER THE INPUT: true; the input reads as it did. -/
def messageRunsSpec : ChangeSpec := { name := "messageRuns", fn := fun _ => fun
  | [] => { results := [.lit (.bool true)], args := [] }
  | _ => none }
def messageRunsRow : OpenClaim := { program := "ytcbiplmgaiipgaa", sum := "eb4d32c15481a9a77b34f7cbc625b7c4db46e5e10710f64c5de42b8c42e155ce", func := "reservoir/reservoirlaw15.MessageRuns", spec := "messageRuns", inPlace := ["internal/bytealg.IndexByteString"], unfollowed := true, recurses := true, apart := false }
def MessageRunsSaid : Prop := messageRunsRow.holds Try.pinned (OpenSpec.ofChange messageRunsSpec)

/-- ITS FALSE NEIGHBOUR: 'it returns false'. Refute it at one input. -/
def messageRunsWrong : ChangeSpec := { name := "messageRuns", fn := fun _ => fun
  | [] => { results := [.lit (.bool false)], args := [] }
  | _ => none }
def MessageRunsWrongFalsely : Prop := messageRunsRow.holds Try.pinned (OpenSpec.ofChange messageRunsWrong)

/-- 'reservoirlaw15.MessageBack': WHATEVER THE INPUT: true; the input reads as it did. -/
def messageBackSpec : ChangeSpec := { name := "messageBack", fn := fun _ => fun
  | [d] => { results := [.lit (.bool true)], args := [d] }
  | _ => none }
def messageBackRow : OpenClaim := { program := "ytcbiplmgaiipgaa", sum := "eb4d32c15481a9a77b34f7cbc625b7c4db46e5e10710f64c5de42b8c42e155ce", func := "reservoir/reservoirlaw15.MessageBack", spec := "messageBack", inPlace := ["internal/bytealg.IndexByteString"], unfollowed := true, recurses := true, apart := false }
def MessageBackSaid : Prop := messageBackRow.holds Try.pinned (OpenSpec.ofChange messageBackSpec)

/-- ITS FALSE NEIGHBOUR: 'it returns false'. Refute it at one input. -/
def messageBackWrong : ChangeSpec := { name := "messageBack", fn := fun _ => fun
  | [d] => { results := [.lit (.bool false)], args := [d] }
  | _ => none }
def MessageBackWrongFalsely : Prop := messageBackRow.holds Try.pinned (OpenSpec.ofChange messageBackWrong)

/-- 'reservoirlaw15.MessageOne': WHATEVER THE INPUT: true; the input reads as it did. -/
def messageOneSpec : ChangeSpec := { name := "messageOne", fn := fun _ => fun
  | [d1, d2, d3] => { results := [.lit (.bool true)], args := [d1, d2, d3] }
  | _ => none }
def messageOneRow : OpenClaim := { program := "ytcbiplmgaiipgaa", sum := "eb4d32c15481a9a77b34f7cbc625b7c4db46e5e10710f64c5de42b8c42e155ce", func := "reservoir/reservoirlaw15.MessageOne", spec := "messageOne", inPlace := ["internal/bytealg.IndexByteString"], unfollowed := true, recurses := true, apart := false }
def MessageOneSaid : Prop := messageOneRow.holds Try.pinned (OpenSpec.ofChange messageOneSpec)

/-- ITS FALSE NEIGHBOUR: 'it returns false'. Refute it at one input. -/
def messageOneWrong : ChangeSpec := { name := "messageOne", fn := fun _ => fun
  | [d1, d2, d3] => { results := [.lit (.bool false)], args := [d1, d2, d3] }
  | _ => none }
def MessageOneWrongFalsely : Prop := messageOneRow.holds Try.pinned (OpenSpec.ofChange messageOneWrong)

/-- 'reservoirlaw15.MessageOrder': WHATEVER THE INPUT: true; the input reads as it did. -/
def messageOrderSpec : ChangeSpec := { name := "messageOrder", fn := fun _ => fun
  | [d1, d2, d3, d4] => { results := [.lit (.bool true)], args := [d1, d2, d3, d4] }
  | _ => none }
def messageOrderRow : OpenClaim := { program := "ytcbiplmgaiipgaa", sum := "eb4d32c15481a9a77b34f7cbc625b7c4db46e5e10710f64c5de42b8c42e155ce", func := "reservoir/reservoirlaw15.MessageOrder", spec := "messageOrder", inPlace := ["internal/bytealg.IndexByteString"], unfollowed := true, recurses := true, apart := false }
def MessageOrderSaid : Prop := messageOrderRow.holds Try.pinned (OpenSpec.ofChange messageOrderSpec)

/-- ITS FALSE NEIGHBOUR: 'it returns false'. Refute it at one input. -/
def messageOrderWrong : ChangeSpec := { name := "messageOrder", fn := fun _ => fun
  | [d1, d2, d3, d4] => { results := [.lit (.bool false)], args := [d1, d2, d3, d4] }
  | _ => none }
def MessageOrderWrongFalsely : Prop := messageOrderRow.holds Try.pinned (OpenSpec.ofChange messageOrderWrong)

/-- 'reservoirlaw15.MessageTells': WHATEVER THE INPUT: true; the input reads as it did. -/
def messageTellsSpec : ChangeSpec := { name := "messageTells", fn := fun _ => fun
  | [d] => { results := [.lit (.bool true)], args := [d] }
  | _ => none }
def messageTellsRow : OpenClaim := { program := "ytcbiplmgaiipgaa", sum := "eb4d32c15481a9a77b34f7cbc625b7c4db46e5e10710f64c5de42b8c42e155ce", func := "reservoir/reservoirlaw15.MessageTells", spec := "messageTells", inPlace := ["internal/bytealg.IndexByteString"], unfollowed := true, recurses := true, apart := false }
def MessageTellsSaid : Prop := messageTellsRow.holds Try.pinned (OpenSpec.ofChange messageTellsSpec)

/-- ITS FALSE NEIGHBOUR: 'it returns false'. Refute it at one input. -/
def messageTellsWrong : ChangeSpec := { name := "messageTells", fn := fun _ => fun
  | [d] => { results := [.lit (.bool false)], args := [d] }
  | _ => none }
def MessageTellsWrongFalsely : Prop := messageTellsRow.holds Try.pinned (OpenSpec.ofChange messageTellsWrong)

/-- 'reservoirlaw20.VaryRuns': WHATEVER THE INPUT: true; the input reads as it did. -/
def varyRunsSpec : ChangeSpec := { name := "varyRuns", fn := fun _ => fun
  | [] => { results := [.lit (.bool true)], args := [] }
  | _ => none }
def varyRunsRow : OpenClaim := { program := "ytcbiplmgaiipgaa", sum := "eb4d32c15481a9a77b34f7cbc625b7c4db46e5e10710f64c5de42b8c42e155ce", func := "reservoir/reservoirlaw20.VaryRuns", spec := "varyRuns", inPlace := ["internal/abi.NoEscape", "internal/bytealg.MakeNoZero", "internal/bytealg.IndexByteString"], unfollowed := true, recurses := true, apart := false }
def VaryRunsSaid : Prop := varyRunsRow.holds Try.pinned (OpenSpec.ofChange varyRunsSpec)

/-- ITS FALSE NEIGHBOUR: 'it returns false'. Refute it at one input. -/
def varyRunsWrong : ChangeSpec := { name := "varyRuns", fn := fun _ => fun
  | [] => { results := [.lit (.bool false)], args := [] }
  | _ => none }
def VaryRunsWrongFalsely : Prop := varyRunsRow.holds Try.pinned (OpenSpec.ofChange varyRunsWrong)

/-- 'reservoirlaw20.VaryTells': WHATEVER THE INPUT: true; the input reads as it did. -/
def varyTellsSpec : ChangeSpec := { name := "varyTells", fn := fun _ => fun
  | [d1, d2] => { results := [.lit (.bool true)], args := [d1, d2] }
  | _ => none }
def varyTellsRow : OpenClaim := { program := "ytcbiplmgaiipgaa", sum := "eb4d32c15481a9a77b34f7cbc625b7c4db46e5e10710f64c5de42b8c42e155ce", func := "reservoir/reservoirlaw20.VaryTells", spec := "varyTells", inPlace := ["internal/abi.NoEscape", "internal/bytealg.MakeNoZero", "internal/bytealg.IndexByteString"], unfollowed := true, recurses := true, apart := false }
def VaryTellsSaid : Prop := varyTellsRow.holds Try.pinned (OpenSpec.ofChange varyTellsSpec)

/-- ITS FALSE NEIGHBOUR: 'it returns false'. Refute it at one input. -/
def varyTellsWrong : ChangeSpec := { name := "varyTells", fn := fun _ => fun
  | [d1, d2] => { results := [.lit (.bool false)], args := [d1, d2] }
  | _ => none }
def VaryTellsWrongFalsely : Prop := varyTellsRow.holds Try.pinned (OpenSpec.ofChange varyTellsWrong)

/-- 'reservoirlaw20.VaryOwn': WHATEVER THE INPUT: true; the input reads as it did. -/
def varyOwnSpec : ChangeSpec := { name := "varyOwn", fn := fun _ => fun
  | [d1, d2] => { results := [.lit (.bool true)], args := [d1, d2] }
  | _ => none }
def varyOwnRow : OpenClaim := { program := "ytcbiplmgaiipgaa", sum := "eb4d32c15481a9a77b34f7cbc625b7c4db46e5e10710f64c5de42b8c42e155ce", func := "reservoir/reservoirlaw20.VaryOwn", spec := "varyOwn", inPlace := ["internal/abi.NoEscape", "internal/bytealg.MakeNoZero", "internal/bytealg.IndexByteString"], unfollowed := true, recurses := true, apart := false }
def VaryOwnSaid : Prop := varyOwnRow.holds Try.pinned (OpenSpec.ofChange varyOwnSpec)

/-- ITS FALSE NEIGHBOUR: 'it returns false'. Refute it at one input. -/
def varyOwnWrong : ChangeSpec := { name := "varyOwn", fn := fun _ => fun
  | [d1, d2] => { results := [.lit (.bool false)], args := [d1, d2] }
  | _ => none }
def VaryOwnWrongFalsely : Prop := varyOwnRow.holds Try.pinned (OpenSpec.ofChange varyOwnWrong)

/-- 'reservoirlaw20.VaryOther': WHATEVER THE INPUT: true; the input reads as it did. -/
def varyOtherSpec : ChangeSpec := { name := "varyOther", fn := fun _ => fun
  | [d1, d2, d3, d4, d5] => { results := [.lit (.bool true)], args := [d1, d2, d3, d4, d5] }
  | _ => none }
def varyOtherRow : OpenClaim := { program := "ytcbiplmgaiipgaa", sum := "eb4d32c15481a9a77b34f7cbc625b7c4db46e5e10710f64c5de42b8c42e155ce", func := "reservoir/reservoirlaw20.VaryOther", spec := "varyOther", inPlace := ["internal/abi.NoEscape", "internal/bytealg.MakeNoZero", "internal/bytealg.IndexByteString"], unfollowed := true, recurses := true, apart := false }
def VaryOtherSaid : Prop := varyOtherRow.holds Try.pinned (OpenSpec.ofChange varyOtherSpec)

/-- ITS FALSE NEIGHBOUR: 'it returns false'. Refute it at one input. -/
def varyOtherWrong : ChangeSpec := { name := "varyOther", fn := fun _ => fun
  | [d1, d2, d3, d4, d5] => { results := [.lit (.bool false)], args := [d1, d2, d3, d4, d5] }
  | _ => none }
def VaryOtherWrongFalsely : Prop := varyOtherRow.holds Try.pinned (OpenSpec.ofChange varyOtherWrong)

/-- 'reservoirlaw20.VaryOrder': WHATEVER THE INPUT: true; the input reads as it did. -/
def varyOrderSpec : ChangeSpec := { name := "varyOrder", fn := fun _ => fun
  | [d1, d2] => { results := [.lit (.bool true)], args := [d1, d2] }
  | _ => none }
def varyOrderRow : OpenClaim := { program := "ytcbiplmgaiipgaa", sum := "eb4d32c15481a9a77b34f7cbc625b7c4db46e5e10710f64c5de42b8c42e155ce", func := "reservoir/reservoirlaw20.VaryOrder", spec := "varyOrder", inPlace := ["internal/abi.NoEscape", "internal/bytealg.MakeNoZero", "internal/bytealg.IndexByteString"], unfollowed := true, recurses := true, apart := false }
def VaryOrderSaid : Prop := varyOrderRow.holds Try.pinned (OpenSpec.ofChange varyOrderSpec)

/-- ITS FALSE NEIGHBOUR: 'it returns false'. Refute it at one input. -/
def varyOrderWrong : ChangeSpec := { name := "varyOrder", fn := fun _ => fun
  | [d1, d2] => { results := [.lit (.bool false)], args := [d1, d2] }
  | _ => none }
def VaryOrderWrongFalsely : Prop := varyOrderRow.holds Try.pinned (OpenSpec.ofChange varyOrderWrong)

/-- 'reservoirlaw22.MergeRuns': WHATEVER THE INPUT: true; the input reads as it did. -/
def mergeRunsSpec : ChangeSpec := { name := "mergeRuns", fn := fun _ => fun
  | [] => { results := [.lit (.bool true)], args := [] }
  | _ => none }
def mergeRunsRow : OpenClaim := { program := "ytcbiplmgaiipgaa", sum := "eb4d32c15481a9a77b34f7cbc625b7c4db46e5e10710f64c5de42b8c42e155ce", func := "reservoir/reservoirlaw22.MergeRuns", spec := "mergeRuns", inPlace := ["internal/abi.NoEscape", "internal/bytealg.MakeNoZero"], unfollowed := true, recurses := true, apart := false }
def MergeRunsSaid : Prop := mergeRunsRow.holds Try.pinned (OpenSpec.ofChange mergeRunsSpec)

/-- ITS FALSE NEIGHBOUR: 'it returns false'. Refute it at one input. -/
def mergeRunsWrong : ChangeSpec := { name := "mergeRuns", fn := fun _ => fun
  | [] => { results := [.lit (.bool false)], args := [] }
  | _ => none }
def MergeRunsWrongFalsely : Prop := mergeRunsRow.holds Try.pinned (OpenSpec.ofChange mergeRunsWrong)

/-- 'reservoirlaw22.MergeTells': WHATEVER THE INPUT: true; the input reads as it did. -/
def mergeTellsSpec : ChangeSpec := { name := "mergeTells", fn := fun _ => fun
  | [d1, d2, d3, d4, d5] => { results := [.lit (.bool true)], args := [d1, d2, d3, d4, d5] }
  | _ => none }
def mergeTellsRow : OpenClaim := { program := "ytcbiplmgaiipgaa", sum := "eb4d32c15481a9a77b34f7cbc625b7c4db46e5e10710f64c5de42b8c42e155ce", func := "reservoir/reservoirlaw22.MergeTells", spec := "mergeTells", inPlace := ["internal/abi.NoEscape", "internal/bytealg.MakeNoZero"], unfollowed := true, recurses := true, apart := false }
def MergeTellsSaid : Prop := mergeTellsRow.holds Try.pinned (OpenSpec.ofChange mergeTellsSpec)

/-- ITS FALSE NEIGHBOUR: 'it returns false'. Refute it at one input. -/
def mergeTellsWrong : ChangeSpec := { name := "mergeTells", fn := fun _ => fun
  | [d1, d2, d3, d4, d5] => { results := [.lit (.bool false)], args := [d1, d2, d3, d4, d5] }
  | _ => none }
def MergeTellsWrongFalsely : Prop := mergeTellsRow.holds Try.pinned (OpenSpec.ofChange mergeTellsWrong)

/-- 'reservoirlaw22.MergeTwice': WHATEVER THE INPUT: true; the input reads as it did. -/
def mergeTwiceSpec : ChangeSpec := { name := "mergeTwice", fn := fun _ => fun
  | [d1, d2, d3, d4] => { results := [.lit (.bool true)], args := [d1, d2, d3, d4] }
  | _ => none }
def mergeTwiceRow : OpenClaim := { program := "ytcbiplmgaiipgaa", sum := "eb4d32c15481a9a77b34f7cbc625b7c4db46e5e10710f64c5de42b8c42e155ce", func := "reservoir/reservoirlaw22.MergeTwice", spec := "mergeTwice", inPlace := ["internal/abi.NoEscape", "internal/bytealg.MakeNoZero"], unfollowed := true, recurses := true, apart := false }
def MergeTwiceSaid : Prop := mergeTwiceRow.holds Try.pinned (OpenSpec.ofChange mergeTwiceSpec)

/-- ITS FALSE NEIGHBOUR: 'it returns false'. Refute it at one input. -/
def mergeTwiceWrong : ChangeSpec := { name := "mergeTwice", fn := fun _ => fun
  | [d1, d2, d3, d4] => { results := [.lit (.bool false)], args := [d1, d2, d3, d4] }
  | _ => none }
def MergeTwiceWrongFalsely : Prop := mergeTwiceRow.holds Try.pinned (OpenSpec.ofChange mergeTwiceWrong)

/-- 'reservoirlaw22.MergeAsks': WHATEVER THE INPUT: true; the input reads as it did. -/
def mergeAsksSpec : ChangeSpec := { name := "mergeAsks", fn := fun _ => fun
  | [d1, d2, d3, d4] => { results := [.lit (.bool true)], args := [d1, d2, d3, d4] }
  | _ => none }
def mergeAsksRow : OpenClaim := { program := "ytcbiplmgaiipgaa", sum := "eb4d32c15481a9a77b34f7cbc625b7c4db46e5e10710f64c5de42b8c42e155ce", func := "reservoir/reservoirlaw22.MergeAsks", spec := "mergeAsks", inPlace := ["internal/abi.NoEscape", "internal/bytealg.MakeNoZero"], unfollowed := true, recurses := true, apart := false }
def MergeAsksSaid : Prop := mergeAsksRow.holds Try.pinned (OpenSpec.ofChange mergeAsksSpec)

/-- ITS FALSE NEIGHBOUR: 'it returns false'. Refute it at one input. -/
def mergeAsksWrong : ChangeSpec := { name := "mergeAsks", fn := fun _ => fun
  | [d1, d2, d3, d4] => { results := [.lit (.bool false)], args := [d1, d2, d3, d4] }
  | _ => none }
def MergeAsksWrongFalsely : Prop := mergeAsksRow.holds Try.pinned (OpenSpec.ofChange mergeAsksWrong)

/-- 'reservoirlaw22.MergeSafe': WHATEVER THE INPUT: true; the input reads as it did. -/
def mergeSafeSpec : ChangeSpec := { name := "mergeSafe", fn := fun _ => fun
  | [d1, d2] => { results := [.lit (.bool true)], args := [d1, d2] }
  | _ => none }
def mergeSafeRow : OpenClaim := { program := "ytcbiplmgaiipgaa", sum := "eb4d32c15481a9a77b34f7cbc625b7c4db46e5e10710f64c5de42b8c42e155ce", func := "reservoir/reservoirlaw22.MergeSafe", spec := "mergeSafe", inPlace := ["internal/abi.NoEscape", "internal/bytealg.MakeNoZero"], unfollowed := true, recurses := true, apart := false }
def MergeSafeSaid : Prop := mergeSafeRow.holds Try.pinned (OpenSpec.ofChange mergeSafeSpec)

/-- ITS FALSE NEIGHBOUR: 'it returns false'. Refute it at one input. -/
def mergeSafeWrong : ChangeSpec := { name := "mergeSafe", fn := fun _ => fun
  | [d1, d2] => { results := [.lit (.bool false)], args := [d1, d2] }
  | _ => none }
def MergeSafeWrongFalsely : Prop := mergeSafeRow.holds Try.pinned (OpenSpec.ofChange mergeSafeWrong)

/-- 'reservoirlaw22.MergeTags': WHATEVER THE INPUT: true; the input reads as it did. -/
def mergeTagsSpec : ChangeSpec := { name := "mergeTags", fn := fun _ => fun
  | [d1, d2, d3, d4] => { results := [.lit (.bool true)], args := [d1, d2, d3, d4] }
  | _ => none }
def mergeTagsRow : OpenClaim := { program := "ytcbiplmgaiipgaa", sum := "eb4d32c15481a9a77b34f7cbc625b7c4db46e5e10710f64c5de42b8c42e155ce", func := "reservoir/reservoirlaw22.MergeTags", spec := "mergeTags", inPlace := ["internal/abi.NoEscape", "internal/bytealg.MakeNoZero"], unfollowed := true, recurses := true, apart := false }
def MergeTagsSaid : Prop := mergeTagsRow.holds Try.pinned (OpenSpec.ofChange mergeTagsSpec)

/-- ITS FALSE NEIGHBOUR: 'it returns false'. Refute it at one input. -/
def mergeTagsWrong : ChangeSpec := { name := "mergeTags", fn := fun _ => fun
  | [d1, d2, d3, d4] => { results := [.lit (.bool false)], args := [d1, d2, d3, d4] }
  | _ => none }
def MergeTagsWrongFalsely : Prop := mergeTagsRow.holds Try.pinned (OpenSpec.ofChange mergeTagsWrong)

/-- 'reservoirlaw15.MessageHops': WHATEVER THE INPUT: true; the input reads as it did. -/
def messageHopsSpec : ChangeSpec := { name := "messageHops", fn := fun _ => fun
  | [d] => { results := [.lit (.bool true)], args := [d] }
  | _ => none }
def messageHopsRow : OpenClaim := { program := "ytcbiplmgaiipgaa", sum := "eb4d32c15481a9a77b34f7cbc625b7c4db46e5e10710f64c5de42b8c42e155ce", func := "reservoir/reservoirlaw15.MessageHops", spec := "messageHops", inPlace := ["internal/bytealg.IndexByteString", "internal/abi.NoEscape", "internal/bytealg.MakeNoZero"], unfollowed := true, recurses := true, apart := false }
def MessageHopsSaid : Prop := messageHopsRow.holds Try.pinned (OpenSpec.ofChange messageHopsSpec)

/-- ITS FALSE NEIGHBOUR: 'it returns false'. Refute it at one input. -/
def messageHopsWrong : ChangeSpec := { name := "messageHops", fn := fun _ => fun
  | [d] => { results := [.lit (.bool false)], args := [d] }
  | _ => none }
def MessageHopsWrongFalsely : Prop := messageHopsRow.holds Try.pinned (OpenSpec.ofChange messageHopsWrong)

/- THE SECOND FORM. 'bulk': how many values and letters a reading holds, each counted each time it is reached (what is shared counts as often as it is met; a slice's spare places count too). A statement '..UptoSaid' is the law's where the arguments, and the package variables that the reading takes, are together of bulk at most 1048576: NARROWER than '..Said'. Prove '..Said' where nothing that the law and all that it calls make is longer than what came in: it says more and counts as full. Else prove '..UptoSaid'. A law counts once. -/
mutual
def uptoBulk {H : Type} : DataW H → Nat
  | .lit (.string bytes) => bytes.length + 1
  | .lit _ => 1
  | .nil => 1
  | .ptr d => uptoBulk d + 1
  | .slice elems spare => uptoBulkAll elems + uptoBulkAll spare + 1
  | .agg parts => uptoBulkAll parts + 1
  | .iface _ d => uptoBulk d + 1
  | .map entries => uptoBulkEntries entries + 1
  | .held _ => 1
def uptoBulkAll {H : Type} : List (DataW H) → Nat
  | [] => 0
  | d :: r => uptoBulk d + uptoBulkAll r
def uptoBulkEntries {H : Type} : List (Lit × DataW H) → Nat
  | [] => 0
  | x :: r => uptoBulkEntry x + uptoBulkEntries r
def uptoBulkEntry {H : Type} : Lit × DataW H → Nat
  | (.string bytes, d) => bytes.length + uptoBulk d + 1
  | (_, d) => uptoBulk d + 1
 end
def uptoSmall : (H : Type) → List (DataW H) → Bool := fun _ ds => decide (uptoBulkAll ds ≤ 1048576)
def OpenSpec.upto (s : _root_.Go.ChangeSpec) : _root_.Go.OpenSpec := { _root_.Go.OpenSpec.ofChange s with cond := some uptoSmall }

/-- 'reservoirlaw15.MessageRuns', WHERE WHAT IT READS IS OF BULK AT MOST 1048576: true; the input reads as it did. -/
def messageRunsUptoRow : OpenClaim := { program := "ytcbiplmgaiipgaa", sum := "eb4d32c15481a9a77b34f7cbc625b7c4db46e5e10710f64c5de42b8c42e155ce", func := "reservoir/reservoirlaw15.MessageRuns", spec := "messageRuns", inPlace := ["internal/bytealg.IndexByteString"], unfollowed := true, recurses := true, apart := false, narrowed := true }
def MessageRunsUptoSaid : Prop := messageRunsUptoRow.holds Try.pinned (OpenSpec.upto messageRunsSpec)

/-- 'reservoirlaw15.MessageBack', WHERE WHAT IT READS IS OF BULK AT MOST 1048576: true; the input reads as it did. -/
def messageBackUptoRow : OpenClaim := { program := "ytcbiplmgaiipgaa", sum := "eb4d32c15481a9a77b34f7cbc625b7c4db46e5e10710f64c5de42b8c42e155ce", func := "reservoir/reservoirlaw15.MessageBack", spec := "messageBack", inPlace := ["internal/bytealg.IndexByteString"], unfollowed := true, recurses := true, apart := false, narrowed := true }
def MessageBackUptoSaid : Prop := messageBackUptoRow.holds Try.pinned (OpenSpec.upto messageBackSpec)

/-- 'reservoirlaw15.MessageOne', WHERE WHAT IT READS IS OF BULK AT MOST 1048576: true; the input reads as it did. -/
def messageOneUptoRow : OpenClaim := { program := "ytcbiplmgaiipgaa", sum := "eb4d32c15481a9a77b34f7cbc625b7c4db46e5e10710f64c5de42b8c42e155ce", func := "reservoir/reservoirlaw15.MessageOne", spec := "messageOne", inPlace := ["internal/bytealg.IndexByteString"], unfollowed := true, recurses := true, apart := false, narrowed := true }
def MessageOneUptoSaid : Prop := messageOneUptoRow.holds Try.pinned (OpenSpec.upto messageOneSpec)

/-- 'reservoirlaw15.MessageOrder', WHERE WHAT IT READS IS OF BULK AT MOST 1048576: true; the input reads as it did. -/
def messageOrderUptoRow : OpenClaim := { program := "ytcbiplmgaiipgaa", sum := "eb4d32c15481a9a77b34f7cbc625b7c4db46e5e10710f64c5de42b8c42e155ce", func := "reservoir/reservoirlaw15.MessageOrder", spec := "messageOrder", inPlace := ["internal/bytealg.IndexByteString"], unfollowed := true, recurses := true, apart := false, narrowed := true }
def MessageOrderUptoSaid : Prop := messageOrderUptoRow.holds Try.pinned (OpenSpec.upto messageOrderSpec)

/-- 'reservoirlaw15.MessageTells', WHERE WHAT IT READS IS OF BULK AT MOST 1048576: true; the input reads as it did. -/
def messageTellsUptoRow : OpenClaim := { program := "ytcbiplmgaiipgaa", sum := "eb4d32c15481a9a77b34f7cbc625b7c4db46e5e10710f64c5de42b8c42e155ce", func := "reservoir/reservoirlaw15.MessageTells", spec := "messageTells", inPlace := ["internal/bytealg.IndexByteString"], unfollowed := true, recurses := true, apart := false, narrowed := true }
def MessageTellsUptoSaid : Prop := messageTellsUptoRow.holds Try.pinned (OpenSpec.upto messageTellsSpec)

/-- 'reservoirlaw20.VaryRuns', WHERE WHAT IT READS IS OF BULK AT MOST 1048576: true; the input reads as it did. -/
def varyRunsUptoRow : OpenClaim := { program := "ytcbiplmgaiipgaa", sum := "eb4d32c15481a9a77b34f7cbc625b7c4db46e5e10710f64c5de42b8c42e155ce", func := "reservoir/reservoirlaw20.VaryRuns", spec := "varyRuns", inPlace := ["internal/abi.NoEscape", "internal/bytealg.MakeNoZero", "internal/bytealg.IndexByteString"], unfollowed := true, recurses := true, apart := false, narrowed := true }
def VaryRunsUptoSaid : Prop := varyRunsUptoRow.holds Try.pinned (OpenSpec.upto varyRunsSpec)

/-- 'reservoirlaw20.VaryTells', WHERE WHAT IT READS IS OF BULK AT MOST 1048576: true; the input reads as it did. -/
def varyTellsUptoRow : OpenClaim := { program := "ytcbiplmgaiipgaa", sum := "eb4d32c15481a9a77b34f7cbc625b7c4db46e5e10710f64c5de42b8c42e155ce", func := "reservoir/reservoirlaw20.VaryTells", spec := "varyTells", inPlace := ["internal/abi.NoEscape", "internal/bytealg.MakeNoZero", "internal/bytealg.IndexByteString"], unfollowed := true, recurses := true, apart := false, narrowed := true }
def VaryTellsUptoSaid : Prop := varyTellsUptoRow.holds Try.pinned (OpenSpec.upto varyTellsSpec)

/-- 'reservoirlaw20.VaryOwn', WHERE WHAT IT READS IS OF BULK AT MOST 1048576: true; the input reads as it did. -/
def varyOwnUptoRow : OpenClaim := { program := "ytcbiplmgaiipgaa", sum := "eb4d32c15481a9a77b34f7cbc625b7c4db46e5e10710f64c5de42b8c42e155ce", func := "reservoir/reservoirlaw20.VaryOwn", spec := "varyOwn", inPlace := ["internal/abi.NoEscape", "internal/bytealg.MakeNoZero", "internal/bytealg.IndexByteString"], unfollowed := true, recurses := true, apart := false, narrowed := true }
def VaryOwnUptoSaid : Prop := varyOwnUptoRow.holds Try.pinned (OpenSpec.upto varyOwnSpec)

/-- 'reservoirlaw20.VaryOther', WHERE WHAT IT READS IS OF BULK AT MOST 1048576: true; the input reads as it did. -/
def varyOtherUptoRow : OpenClaim := { program := "ytcbiplmgaiipgaa", sum := "eb4d32c15481a9a77b34f7cbc625b7c4db46e5e10710f64c5de42b8c42e155ce", func := "reservoir/reservoirlaw20.VaryOther", spec := "varyOther", inPlace := ["internal/abi.NoEscape", "internal/bytealg.MakeNoZero", "internal/bytealg.IndexByteString"], unfollowed := true, recurses := true, apart := false, narrowed := true }
def VaryOtherUptoSaid : Prop := varyOtherUptoRow.holds Try.pinned (OpenSpec.upto varyOtherSpec)

/-- 'reservoirlaw20.VaryOrder', WHERE WHAT IT READS IS OF BULK AT MOST 1048576: true; the input reads as it did. -/
def varyOrderUptoRow : OpenClaim := { program := "ytcbiplmgaiipgaa", sum := "eb4d32c15481a9a77b34f7cbc625b7c4db46e5e10710f64c5de42b8c42e155ce", func := "reservoir/reservoirlaw20.VaryOrder", spec := "varyOrder", inPlace := ["internal/abi.NoEscape", "internal/bytealg.MakeNoZero", "internal/bytealg.IndexByteString"], unfollowed := true, recurses := true, apart := false, narrowed := true }
def VaryOrderUptoSaid : Prop := varyOrderUptoRow.holds Try.pinned (OpenSpec.upto varyOrderSpec)

/-- 'reservoirlaw22.MergeRuns', WHERE WHAT IT READS IS OF BULK AT MOST 1048576: true; the input reads as it did. -/
def mergeRunsUptoRow : OpenClaim := { program := "ytcbiplmgaiipgaa", sum := "eb4d32c15481a9a77b34f7cbc625b7c4db46e5e10710f64c5de42b8c42e155ce", func := "reservoir/reservoirlaw22.MergeRuns", spec := "mergeRuns", inPlace := ["internal/abi.NoEscape", "internal/bytealg.MakeNoZero"], unfollowed := true, recurses := true, apart := false, narrowed := true }
def MergeRunsUptoSaid : Prop := mergeRunsUptoRow.holds Try.pinned (OpenSpec.upto mergeRunsSpec)

/-- 'reservoirlaw22.MergeTells', WHERE WHAT IT READS IS OF BULK AT MOST 1048576: true; the input reads as it did. -/
def mergeTellsUptoRow : OpenClaim := { program := "ytcbiplmgaiipgaa", sum := "eb4d32c15481a9a77b34f7cbc625b7c4db46e5e10710f64c5de42b8c42e155ce", func := "reservoir/reservoirlaw22.MergeTells", spec := "mergeTells", inPlace := ["internal/abi.NoEscape", "internal/bytealg.MakeNoZero"], unfollowed := true, recurses := true, apart := false, narrowed := true }
def MergeTellsUptoSaid : Prop := mergeTellsUptoRow.holds Try.pinned (OpenSpec.upto mergeTellsSpec)

/-- 'reservoirlaw22.MergeTwice', WHERE WHAT IT READS IS OF BULK AT MOST 1048576: true; the input reads as it did. -/
def mergeTwiceUptoRow : OpenClaim := { program := "ytcbiplmgaiipgaa", sum := "eb4d32c15481a9a77b34f7cbc625b7c4db46e5e10710f64c5de42b8c42e155ce", func := "reservoir/reservoirlaw22.MergeTwice", spec := "mergeTwice", inPlace := ["internal/abi.NoEscape", "internal/bytealg.MakeNoZero"], unfollowed := true, recurses := true, apart := false, narrowed := true }
def MergeTwiceUptoSaid : Prop := mergeTwiceUptoRow.holds Try.pinned (OpenSpec.upto mergeTwiceSpec)

/-- 'reservoirlaw22.MergeAsks', WHERE WHAT IT READS IS OF BULK AT MOST 1048576: true; the input reads as it did. -/
def mergeAsksUptoRow : OpenClaim := { program := "ytcbiplmgaiipgaa", sum := "eb4d32c15481a9a77b34f7cbc625b7c4db46e5e10710f64c5de42b8c42e155ce", func := "reservoir/reservoirlaw22.MergeAsks", spec := "mergeAsks", inPlace := ["internal/abi.NoEscape", "internal/bytealg.MakeNoZero"], unfollowed := true, recurses := true, apart := false, narrowed := true }
def MergeAsksUptoSaid : Prop := mergeAsksUptoRow.holds Try.pinned (OpenSpec.upto mergeAsksSpec)

/-- 'reservoirlaw22.MergeSafe', WHERE WHAT IT READS IS OF BULK AT MOST 1048576: true; the input reads as it did. -/
def mergeSafeUptoRow : OpenClaim := { program := "ytcbiplmgaiipgaa", sum := "eb4d32c15481a9a77b34f7cbc625b7c4db46e5e10710f64c5de42b8c42e155ce", func := "reservoir/reservoirlaw22.MergeSafe", spec := "mergeSafe", inPlace := ["internal/abi.NoEscape", "internal/bytealg.MakeNoZero"], unfollowed := true, recurses := true, apart := false, narrowed := true }
def MergeSafeUptoSaid : Prop := mergeSafeUptoRow.holds Try.pinned (OpenSpec.upto mergeSafeSpec)

/-- 'reservoirlaw22.MergeTags', WHERE WHAT IT READS IS OF BULK AT MOST 1048576: true; the input reads as it did. -/
def mergeTagsUptoRow : OpenClaim := { program := "ytcbiplmgaiipgaa", sum := "eb4d32c15481a9a77b34f7cbc625b7c4db46e5e10710f64c5de42b8c42e155ce", func := "reservoir/reservoirlaw22.MergeTags", spec := "mergeTags", inPlace := ["internal/abi.NoEscape", "internal/bytealg.MakeNoZero"], unfollowed := true, recurses := true, apart := false, narrowed := true }
def MergeTagsUptoSaid : Prop := mergeTagsUptoRow.holds Try.pinned (OpenSpec.upto mergeTagsSpec)

/-- 'reservoirlaw15.MessageHops', WHERE WHAT IT READS IS OF BULK AT MOST 1048576: true; the input reads as it did. -/
def messageHopsUptoRow : OpenClaim := { program := "ytcbiplmgaiipgaa", sum := "eb4d32c15481a9a77b34f7cbc625b7c4db46e5e10710f64c5de42b8c42e155ce", func := "reservoir/reservoirlaw15.MessageHops", spec := "messageHops", inPlace := ["internal/bytealg.IndexByteString", "internal/abi.NoEscape", "internal/bytealg.MakeNoZero"], unfollowed := true, recurses := true, apart := false, narrowed := true }
def MessageHopsUptoSaid : Prop := messageHopsUptoRow.holds Try.pinned (OpenSpec.upto messageHopsSpec)

end Rows
end Go.Proofs.Ytcbiplmgaiipgaa
