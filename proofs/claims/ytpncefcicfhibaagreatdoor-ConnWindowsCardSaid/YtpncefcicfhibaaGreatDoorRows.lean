/-
  NARROWER THAN 'FOR EVERY INPUT', by the rows' own cells (each row's printed sentence says how): ConnRuns: laid · ConnPings: laid · ConnFlow: laid · ConnWindows: laid · ConnBack: laid · ConnRefuses: laid · ConnShuts: laid.
  DERIVED. THE GIVEN ROWS OF THIS SEAT. 7 by the template 'for every input the law returns true; each argument reads behind the call as it read before'; 0 by the template 'total and deterministic' (their statements: YtpncefcicfhibaaGreatDoorTotals.lean).
  GIVEN WITH THE SEED: the statements are not yours to turn. If you find one false, say at which input.
  Laid BY PROGRAM, IN A SANDBOX (cutbox-rows.mjs): the forced cells as the released guide's own fill.sh prints them over the translation 653542795c419338… (all of the seat's roots in one cut). By AI agents, Wed Nov 11 2026. No macro, syntax, notation, axiom, sorry.
-/
import Derived.Test.YtpncefcicfhibaaGreatDoorChecked
import GoSem.PinnedTables
import GoSem.Claim
import GoSem.ClaimJoined
import GoSem.ClaimMapViews
import Derived.JoinedTies
import Derived.KernelRfl
namespace Go.Proofs.YtpncefcicfhibaaGreatDoor
/- THE CELL 'sum', in the pinned program and in every row, IS THE sha256 OF THE DUMP (.gsa) THAT YtpncefcicfhibaaGreatDoorProg.lean LOADS. Nothing in Lean hashes anything: it is a label: what it is worth is what the hold of that sum in a sandbox is worth. -/
noncomputable def Tryz.pinned : Pinned := { name := "ytpncefcicfhibaagreatdoor", sum := "653542795c419338deebc2a385d7328fe90e3bc161a3f1115b419faf8f035b78", checked := Tryz.checked }
namespace Rows
def none {H : Type} : Left H := { results := [], args := [] }

/- WHAT THE LISTED PACKAGE-LEVEL VARIABLES READ AS WHEN THE CALL BEGINS. Each datum BY PROGRAM (the guide's laid-datum.mjs) off the statement by which the dump's own 'gosem.cut.vars' lays the variable. In a bare row this is a premise. The card (YtpncefcicfhibaaGreatDoorCards.lean) ties it to the program's text. -/
def laid_unicode_utf8_acceptRanges {H : Type} : DataW H := .agg [.agg [.lit (.int .u8 128), .lit (.int .u8 191)], .agg [.lit (.int .u8 160), .lit (.int .u8 191)], .agg [.lit (.int .u8 128), .lit (.int .u8 159)], .agg [.lit (.int .u8 144), .lit (.int .u8 191)], .agg [.lit (.int .u8 128), .lit (.int .u8 143)], .agg [.lit (.int .u8 0), .lit (.int .u8 0)], .agg [.lit (.int .u8 0), .lit (.int .u8 0)], .agg [.lit (.int .u8 0), .lit (.int .u8 0)], .agg [.lit (.int .u8 0), .lit (.int .u8 0)], .agg [.lit (.int .u8 0), .lit (.int .u8 0)], .agg [.lit (.int .u8 0), .lit (.int .u8 0)], .agg [.lit (.int .u8 0), .lit (.int .u8 0)], .agg [.lit (.int .u8 0), .lit (.int .u8 0)], .agg [.lit (.int .u8 0), .lit (.int .u8 0)], .agg [.lit (.int .u8 0), .lit (.int .u8 0)], .agg [.lit (.int .u8 0), .lit (.int .u8 0)]]
/-- One of Go's own tables, pinned by name: the form's constant. -/
def laid_unicode_utf8_first : DataW Unit := Go.Pinned.utf8First

/-- 'reservoirlaw24.ConnRuns': WHATEVER THE INPUT: true; the input reads as it did. -/
def connRunsSpec : ChangeSpec := { name := "connRuns", fn := fun _ => fun
  | [] => { results := [.lit (.bool true)], args := [] }
  | _ => none }
def connRunsRow : OpenClaim := { program := "ytpncefcicfhibaagreatdoor", sum := "653542795c419338deebc2a385d7328fe90e3bc161a3f1115b419faf8f035b78", func := "reservoir/reservoirlaw24.ConnRuns", spec := "connRuns", inPlace := ["internal/bytealg.CountString", "internal/bytealg.IndexByteString", "internal/bytealg.IndexString", "slices.overlaps[reservoir/api.Field]"], unfollowed := true, recurses := true, named := ["unicode/utf8.first", "unicode/utf8.acceptRanges", "internal/bytealg.MaxLen"], apart := false, laid := [("unicode/utf8.acceptRanges", laid_unicode_utf8_acceptRanges), ("unicode/utf8.first", laid_unicode_utf8_first)] }
def ConnRunsSaid : Prop := connRunsRow.holds Tryz.pinned (OpenSpec.ofChange connRunsSpec)

/-- ITS FALSE NEIGHBOUR: 'it returns false'. Refute it at one input. -/
def connRunsWrong : ChangeSpec := { name := "connRuns", fn := fun _ => fun
  | [] => { results := [.lit (.bool false)], args := [] }
  | _ => none }
def ConnRunsWrongFalsely : Prop := connRunsRow.holds Tryz.pinned (OpenSpec.ofChange connRunsWrong)

/-- 'reservoirlaw24.ConnPings': WHATEVER THE INPUT: true; the input reads as it did. -/
def connPingsSpec : ChangeSpec := { name := "connPings", fn := fun _ => fun
  | [d1, d2] => { results := [.lit (.bool true)], args := [d1, d2] }
  | _ => none }
def connPingsRow : OpenClaim := { program := "ytpncefcicfhibaagreatdoor", sum := "653542795c419338deebc2a385d7328fe90e3bc161a3f1115b419faf8f035b78", func := "reservoir/reservoirlaw24.ConnPings", spec := "connPings", inPlace := ["internal/bytealg.CountString", "internal/bytealg.IndexByteString", "internal/bytealg.IndexString", "slices.overlaps[reservoir/api.Field]"], unfollowed := true, recurses := true, named := ["unicode/utf8.first", "unicode/utf8.acceptRanges", "internal/bytealg.MaxLen"], apart := false, laid := [("unicode/utf8.acceptRanges", laid_unicode_utf8_acceptRanges), ("unicode/utf8.first", laid_unicode_utf8_first)] }
def ConnPingsSaid : Prop := connPingsRow.holds Tryz.pinned (OpenSpec.ofChange connPingsSpec)

/-- ITS FALSE NEIGHBOUR: 'it returns false'. Refute it at one input. -/
def connPingsWrong : ChangeSpec := { name := "connPings", fn := fun _ => fun
  | [d1, d2] => { results := [.lit (.bool false)], args := [d1, d2] }
  | _ => none }
def ConnPingsWrongFalsely : Prop := connPingsRow.holds Tryz.pinned (OpenSpec.ofChange connPingsWrong)

/-- 'reservoirlaw24.ConnFlow': WHATEVER THE INPUT: true; the input reads as it did. -/
def connFlowSpec : ChangeSpec := { name := "connFlow", fn := fun _ => fun
  | [d] => { results := [.lit (.bool true)], args := [d] }
  | _ => none }
def connFlowRow : OpenClaim := { program := "ytpncefcicfhibaagreatdoor", sum := "653542795c419338deebc2a385d7328fe90e3bc161a3f1115b419faf8f035b78", func := "reservoir/reservoirlaw24.ConnFlow", spec := "connFlow", inPlace := ["internal/bytealg.CountString", "internal/bytealg.IndexByteString", "internal/bytealg.IndexString", "slices.overlaps[reservoir/api.Field]"], unfollowed := true, recurses := true, named := ["unicode/utf8.first", "unicode/utf8.acceptRanges", "internal/bytealg.MaxLen"], apart := false, laid := [("unicode/utf8.acceptRanges", laid_unicode_utf8_acceptRanges), ("unicode/utf8.first", laid_unicode_utf8_first)] }
def ConnFlowSaid : Prop := connFlowRow.holds Tryz.pinned (OpenSpec.ofChange connFlowSpec)

/-- ITS FALSE NEIGHBOUR: 'it returns false'. Refute it at one input. -/
def connFlowWrong : ChangeSpec := { name := "connFlow", fn := fun _ => fun
  | [d] => { results := [.lit (.bool false)], args := [d] }
  | _ => none }
def ConnFlowWrongFalsely : Prop := connFlowRow.holds Tryz.pinned (OpenSpec.ofChange connFlowWrong)

/-- 'reservoirlaw24.ConnWindows': WHATEVER THE INPUT: true; the input reads as it did. -/
def connWindowsSpec : ChangeSpec := { name := "connWindows", fn := fun _ => fun
  | [d1, d2, d3] => { results := [.lit (.bool true)], args := [d1, d2, d3] }
  | _ => none }
def connWindowsRow : OpenClaim := { program := "ytpncefcicfhibaagreatdoor", sum := "653542795c419338deebc2a385d7328fe90e3bc161a3f1115b419faf8f035b78", func := "reservoir/reservoirlaw24.ConnWindows", spec := "connWindows", inPlace := ["internal/bytealg.CountString", "internal/bytealg.IndexByteString", "internal/bytealg.IndexString", "slices.overlaps[reservoir/api.Field]"], unfollowed := true, recurses := true, named := ["unicode/utf8.first", "unicode/utf8.acceptRanges", "internal/bytealg.MaxLen"], apart := false, laid := [("unicode/utf8.acceptRanges", laid_unicode_utf8_acceptRanges), ("unicode/utf8.first", laid_unicode_utf8_first)] }
def ConnWindowsSaid : Prop := connWindowsRow.holds Tryz.pinned (OpenSpec.ofChange connWindowsSpec)

/-- ITS FALSE NEIGHBOUR: 'it returns false'. Refute it at one input. -/
def connWindowsWrong : ChangeSpec := { name := "connWindows", fn := fun _ => fun
  | [d1, d2, d3] => { results := [.lit (.bool false)], args := [d1, d2, d3] }
  | _ => none }
def ConnWindowsWrongFalsely : Prop := connWindowsRow.holds Tryz.pinned (OpenSpec.ofChange connWindowsWrong)

/-- 'reservoirlaw24.ConnBack': WHATEVER THE INPUT: true; the input reads as it did. -/
def connBackSpec : ChangeSpec := { name := "connBack", fn := fun _ => fun
  | [d1, d2] => { results := [.lit (.bool true)], args := [d1, d2] }
  | _ => none }
def connBackRow : OpenClaim := { program := "ytpncefcicfhibaagreatdoor", sum := "653542795c419338deebc2a385d7328fe90e3bc161a3f1115b419faf8f035b78", func := "reservoir/reservoirlaw24.ConnBack", spec := "connBack", inPlace := ["internal/bytealg.CountString", "internal/bytealg.IndexByteString", "internal/bytealg.IndexString", "slices.overlaps[reservoir/api.Field]"], unfollowed := true, recurses := true, named := ["unicode/utf8.first", "unicode/utf8.acceptRanges", "internal/bytealg.MaxLen"], apart := false, laid := [("unicode/utf8.acceptRanges", laid_unicode_utf8_acceptRanges), ("unicode/utf8.first", laid_unicode_utf8_first)] }
def ConnBackSaid : Prop := connBackRow.holds Tryz.pinned (OpenSpec.ofChange connBackSpec)

/-- ITS FALSE NEIGHBOUR: 'it returns false'. Refute it at one input. -/
def connBackWrong : ChangeSpec := { name := "connBack", fn := fun _ => fun
  | [d1, d2] => { results := [.lit (.bool false)], args := [d1, d2] }
  | _ => none }
def ConnBackWrongFalsely : Prop := connBackRow.holds Tryz.pinned (OpenSpec.ofChange connBackWrong)

/-- 'reservoirlaw24.ConnRefuses': WHATEVER THE INPUT: true; the input reads as it did. -/
def connRefusesSpec : ChangeSpec := { name := "connRefuses", fn := fun _ => fun
  | [d1, d2] => { results := [.lit (.bool true)], args := [d1, d2] }
  | _ => none }
def connRefusesRow : OpenClaim := { program := "ytpncefcicfhibaagreatdoor", sum := "653542795c419338deebc2a385d7328fe90e3bc161a3f1115b419faf8f035b78", func := "reservoir/reservoirlaw24.ConnRefuses", spec := "connRefuses", inPlace := ["internal/bytealg.CountString", "internal/bytealg.IndexByteString", "internal/bytealg.IndexString", "slices.overlaps[reservoir/api.Field]"], unfollowed := true, recurses := true, named := ["unicode/utf8.first", "unicode/utf8.acceptRanges", "internal/bytealg.MaxLen"], apart := false, laid := [("unicode/utf8.acceptRanges", laid_unicode_utf8_acceptRanges), ("unicode/utf8.first", laid_unicode_utf8_first)] }
def ConnRefusesSaid : Prop := connRefusesRow.holds Tryz.pinned (OpenSpec.ofChange connRefusesSpec)

/-- ITS FALSE NEIGHBOUR: 'it returns false'. Refute it at one input. -/
def connRefusesWrong : ChangeSpec := { name := "connRefuses", fn := fun _ => fun
  | [d1, d2] => { results := [.lit (.bool false)], args := [d1, d2] }
  | _ => none }
def ConnRefusesWrongFalsely : Prop := connRefusesRow.holds Tryz.pinned (OpenSpec.ofChange connRefusesWrong)

/-- 'reservoirlaw24.ConnShuts': WHATEVER THE INPUT: true; the input reads as it did. -/
def connShutsSpec : ChangeSpec := { name := "connShuts", fn := fun _ => fun
  | [d1, d2] => { results := [.lit (.bool true)], args := [d1, d2] }
  | _ => none }
def connShutsRow : OpenClaim := { program := "ytpncefcicfhibaagreatdoor", sum := "653542795c419338deebc2a385d7328fe90e3bc161a3f1115b419faf8f035b78", func := "reservoir/reservoirlaw24.ConnShuts", spec := "connShuts", inPlace := ["internal/bytealg.CountString", "internal/bytealg.IndexByteString", "internal/bytealg.IndexString", "slices.overlaps[reservoir/api.Field]"], unfollowed := true, recurses := true, named := ["unicode/utf8.first", "unicode/utf8.acceptRanges", "internal/bytealg.MaxLen"], apart := false, laid := [("unicode/utf8.acceptRanges", laid_unicode_utf8_acceptRanges), ("unicode/utf8.first", laid_unicode_utf8_first)] }
def ConnShutsSaid : Prop := connShutsRow.holds Tryz.pinned (OpenSpec.ofChange connShutsSpec)

/-- ITS FALSE NEIGHBOUR: 'it returns false'. Refute it at one input. -/
def connShutsWrong : ChangeSpec := { name := "connShuts", fn := fun _ => fun
  | [d1, d2] => { results := [.lit (.bool false)], args := [d1, d2] }
  | _ => none }
def ConnShutsWrongFalsely : Prop := connShutsRow.holds Tryz.pinned (OpenSpec.ofChange connShutsWrong)

/- THE SECOND FORM. 'bulk': how many values and letters a reading holds, each counted each time it is reached (what is shared counts as often as it is met; a slice's spare places count too). A statement '..UptoSaid' is the law's where the arguments, and the package variables that the reading takes, are together of bulk at most 1048576: NARROWER than '..Said'. Prove '..Said' where nothing that the law and all that it calls make is longer than what came in: it says more and counts as full. Else prove '..UptoSaid'. A law counts once. -/
mutual
def uptoBulk {H : Type} : DataW H → Nat
  | .lit (.string bytes) => bytes.length + 1
  | .lit _ => 1
  | .nil => 1
  | .ptr d => uptoBulk d + 1
  | .slice elems spare => uptoBulkAll elems + uptoBulkAll spare + 1
  | .agg parts => uptoBulkAll parts + 1
  | .iface _ d => uptoBulk d + 1
  | .map entries => uptoBulkEntries entries + 1
  | .held _ => 1
def uptoBulkAll {H : Type} : List (DataW H) → Nat
  | [] => 0
  | d :: r => uptoBulk d + uptoBulkAll r
def uptoBulkEntries {H : Type} : List (Lit × DataW H) → Nat
  | [] => 0
  | x :: r => uptoBulkEntry x + uptoBulkEntries r
def uptoBulkEntry {H : Type} : Lit × DataW H → Nat
  | (.string bytes, d) => bytes.length + uptoBulk d + 1
  | (_, d) => uptoBulk d + 1
 end
def uptoSmall : (H : Type) → List (DataW H) → Bool := fun _ ds => decide (uptoBulkAll ds ≤ 1048576)
def OpenSpec.upto (s : _root_.Go.ChangeSpec) : _root_.Go.OpenSpec := { _root_.Go.OpenSpec.ofChange s with cond := some uptoSmall }

/-- 'reservoirlaw24.ConnRuns', WHERE WHAT IT READS IS OF BULK AT MOST 1048576: true; the input reads as it did. -/
def connRunsUptoRow : OpenClaim := { program := "ytpncefcicfhibaagreatdoor", sum := "653542795c419338deebc2a385d7328fe90e3bc161a3f1115b419faf8f035b78", func := "reservoir/reservoirlaw24.ConnRuns", spec := "connRuns", inPlace := ["internal/bytealg.CountString", "internal/bytealg.IndexByteString", "internal/bytealg.IndexString", "slices.overlaps[reservoir/api.Field]"], unfollowed := true, recurses := true, named := ["unicode/utf8.first", "unicode/utf8.acceptRanges", "internal/bytealg.MaxLen"], apart := false, laid := [("unicode/utf8.acceptRanges", laid_unicode_utf8_acceptRanges), ("unicode/utf8.first", laid_unicode_utf8_first)], narrowed := true }
def ConnRunsUptoSaid : Prop := connRunsUptoRow.holds Tryz.pinned (OpenSpec.upto connRunsSpec)

/-- 'reservoirlaw24.ConnPings', WHERE WHAT IT READS IS OF BULK AT MOST 1048576: true; the input reads as it did. -/
def connPingsUptoRow : OpenClaim := { program := "ytpncefcicfhibaagreatdoor", sum := "653542795c419338deebc2a385d7328fe90e3bc161a3f1115b419faf8f035b78", func := "reservoir/reservoirlaw24.ConnPings", spec := "connPings", inPlace := ["internal/bytealg.CountString", "internal/bytealg.IndexByteString", "internal/bytealg.IndexString", "slices.overlaps[reservoir/api.Field]"], unfollowed := true, recurses := true, named := ["unicode/utf8.first", "unicode/utf8.acceptRanges", "internal/bytealg.MaxLen"], apart := false, laid := [("unicode/utf8.acceptRanges", laid_unicode_utf8_acceptRanges), ("unicode/utf8.first", laid_unicode_utf8_first)], narrowed := true }
def ConnPingsUptoSaid : Prop := connPingsUptoRow.holds Tryz.pinned (OpenSpec.upto connPingsSpec)

/-- 'reservoirlaw24.ConnFlow', WHERE WHAT IT READS IS OF BULK AT MOST 1048576: true; the input reads as it did. -/
def connFlowUptoRow : OpenClaim := { program := "ytpncefcicfhibaagreatdoor", sum := "653542795c419338deebc2a385d7328fe90e3bc161a3f1115b419faf8f035b78", func := "reservoir/reservoirlaw24.ConnFlow", spec := "connFlow", inPlace := ["internal/bytealg.CountString", "internal/bytealg.IndexByteString", "internal/bytealg.IndexString", "slices.overlaps[reservoir/api.Field]"], unfollowed := true, recurses := true, named := ["unicode/utf8.first", "unicode/utf8.acceptRanges", "internal/bytealg.MaxLen"], apart := false, laid := [("unicode/utf8.acceptRanges", laid_unicode_utf8_acceptRanges), ("unicode/utf8.first", laid_unicode_utf8_first)], narrowed := true }
def ConnFlowUptoSaid : Prop := connFlowUptoRow.holds Tryz.pinned (OpenSpec.upto connFlowSpec)

/-- 'reservoirlaw24.ConnWindows', WHERE WHAT IT READS IS OF BULK AT MOST 1048576: true; the input reads as it did. -/
def connWindowsUptoRow : OpenClaim := { program := "ytpncefcicfhibaagreatdoor", sum := "653542795c419338deebc2a385d7328fe90e3bc161a3f1115b419faf8f035b78", func := "reservoir/reservoirlaw24.ConnWindows", spec := "connWindows", inPlace := ["internal/bytealg.CountString", "internal/bytealg.IndexByteString", "internal/bytealg.IndexString", "slices.overlaps[reservoir/api.Field]"], unfollowed := true, recurses := true, named := ["unicode/utf8.first", "unicode/utf8.acceptRanges", "internal/bytealg.MaxLen"], apart := false, laid := [("unicode/utf8.acceptRanges", laid_unicode_utf8_acceptRanges), ("unicode/utf8.first", laid_unicode_utf8_first)], narrowed := true }
def ConnWindowsUptoSaid : Prop := connWindowsUptoRow.holds Tryz.pinned (OpenSpec.upto connWindowsSpec)

/-- 'reservoirlaw24.ConnBack', WHERE WHAT IT READS IS OF BULK AT MOST 1048576: true; the input reads as it did. -/
def connBackUptoRow : OpenClaim := { program := "ytpncefcicfhibaagreatdoor", sum := "653542795c419338deebc2a385d7328fe90e3bc161a3f1115b419faf8f035b78", func := "reservoir/reservoirlaw24.ConnBack", spec := "connBack", inPlace := ["internal/bytealg.CountString", "internal/bytealg.IndexByteString", "internal/bytealg.IndexString", "slices.overlaps[reservoir/api.Field]"], unfollowed := true, recurses := true, named := ["unicode/utf8.first", "unicode/utf8.acceptRanges", "internal/bytealg.MaxLen"], apart := false, laid := [("unicode/utf8.acceptRanges", laid_unicode_utf8_acceptRanges), ("unicode/utf8.first", laid_unicode_utf8_first)], narrowed := true }
def ConnBackUptoSaid : Prop := connBackUptoRow.holds Tryz.pinned (OpenSpec.upto connBackSpec)

/-- 'reservoirlaw24.ConnRefuses', WHERE WHAT IT READS IS OF BULK AT MOST 1048576: true; the input reads as it did. -/
def connRefusesUptoRow : OpenClaim := { program := "ytpncefcicfhibaagreatdoor", sum := "653542795c419338deebc2a385d7328fe90e3bc161a3f1115b419faf8f035b78", func := "reservoir/reservoirlaw24.ConnRefuses", spec := "connRefuses", inPlace := ["internal/bytealg.CountString", "internal/bytealg.IndexByteString", "internal/bytealg.IndexString", "slices.overlaps[reservoir/api.Field]"], unfollowed := true, recurses := true, named := ["unicode/utf8.first", "unicode/utf8.acceptRanges", "internal/bytealg.MaxLen"], apart := false, laid := [("unicode/utf8.acceptRanges", laid_unicode_utf8_acceptRanges), ("unicode/utf8.first", laid_unicode_utf8_first)], narrowed := true }
def ConnRefusesUptoSaid : Prop := connRefusesUptoRow.holds Tryz.pinned (OpenSpec.upto connRefusesSpec)

/-- 'reservoirlaw24.ConnShuts', WHERE WHAT IT READS IS OF BULK AT MOST 1048576: true; the input reads as it did. -/
def connShutsUptoRow : OpenClaim := { program := "ytpncefcicfhibaagreatdoor", sum := "653542795c419338deebc2a385d7328fe90e3bc161a3f1115b419faf8f035b78", func := "reservoir/reservoirlaw24.ConnShuts", spec := "connShuts", inPlace := ["internal/bytealg.CountString", "internal/bytealg.IndexByteString", "internal/bytealg.IndexString", "slices.overlaps[reservoir/api.Field]"], unfollowed := true, recurses := true, named := ["unicode/utf8.first", "unicode/utf8.acceptRanges", "internal/bytealg.MaxLen"], apart := false, laid := [("unicode/utf8.acceptRanges", laid_unicode_utf8_acceptRanges), ("unicode/utf8.first", laid_unicode_utf8_first)], narrowed := true }
def ConnShutsUptoSaid : Prop := connShutsUptoRow.holds Tryz.pinned (OpenSpec.upto connShutsSpec)

end Rows
end Go.Proofs.YtpncefcicfhibaaGreatDoor
