/-
  DERIVED. GIVEN WITH THE SEED: THE CARDS: each row of YtpncefcicfhibaaGreatDoorRows.lean that lists a variable, with what it lists TIED to the program's text (the seventh form; the later family's looks); each row that meets fmt, with fmt's text TOLD by the authors' own Lean function (tested against real Go, not proved from fmt's source: count such statements apart). THE CARD IS WHAT COUNTS. Prove the row's statement (the work); the ties are given (YtpncefcicfhibaaGreatDoorTie.lean); close each card by the builder's one call (the guide's Derived/Test/ToyasCard.lean, 'card_holds'). Laid BY PROGRAM, IN A SANDBOX (cutbox-door.mjs). By AI agents, Wed Nov 11 2026. No macro, syntax, notation, axiom, sorry.
-/
import Derived.Test.YtpncefcicfhibaaGreatDoorRows
import GoSem.ClaimSeven
namespace Go.Proofs.YtpncefcicfhibaaGreatDoor
namespace Rows

/-- THE TIED CARD OF 'reservoirlaw24.ConnRuns'. -/
def connRunsCard : Claim7 := { stood := { row := connRunsRow, standIns := [], harness := (true, "4bb73d3f72bf73013a532c65c9fe7201604e0df5244c3be8dc1b2f046fefce80"), looks := true }, kinds := [], alts := [], laidByText := true, laidKinds := [.data, .pinned], laidTests := true, laidLooks := .later }
def ConnRunsCardSaid : Prop := Claim7.holds Tryz.pinned (.plain (OpenSpec.ofChange connRunsSpec)) connRunsCard

/-- THE TIED CARD OF 'reservoirlaw24.ConnPings'. -/
def connPingsCard : Claim7 := { stood := { row := connPingsRow, standIns := [], harness := (true, "4bb73d3f72bf73013a532c65c9fe7201604e0df5244c3be8dc1b2f046fefce80"), looks := true }, kinds := [], alts := [], laidByText := true, laidKinds := [.data, .pinned], laidTests := true, laidLooks := .later }
def ConnPingsCardSaid : Prop := Claim7.holds Tryz.pinned (.plain (OpenSpec.ofChange connPingsSpec)) connPingsCard

/-- THE TIED CARD OF 'reservoirlaw24.ConnFlow'. -/
def connFlowCard : Claim7 := { stood := { row := connFlowRow, standIns := [], harness := (true, "4bb73d3f72bf73013a532c65c9fe7201604e0df5244c3be8dc1b2f046fefce80"), looks := true }, kinds := [], alts := [], laidByText := true, laidKinds := [.data, .pinned], laidTests := true, laidLooks := .later }
def ConnFlowCardSaid : Prop := Claim7.holds Tryz.pinned (.plain (OpenSpec.ofChange connFlowSpec)) connFlowCard

/-- THE TIED CARD OF 'reservoirlaw24.ConnWindows'. -/
def connWindowsCard : Claim7 := { stood := { row := connWindowsRow, standIns := [], harness := (true, "4bb73d3f72bf73013a532c65c9fe7201604e0df5244c3be8dc1b2f046fefce80"), looks := true }, kinds := [], alts := [], laidByText := true, laidKinds := [.data, .pinned], laidTests := true, laidLooks := .later }
def ConnWindowsCardSaid : Prop := Claim7.holds Tryz.pinned (.plain (OpenSpec.ofChange connWindowsSpec)) connWindowsCard

/-- THE TIED CARD OF 'reservoirlaw24.ConnBack'. -/
def connBackCard : Claim7 := { stood := { row := connBackRow, standIns := [], harness := (true, "4bb73d3f72bf73013a532c65c9fe7201604e0df5244c3be8dc1b2f046fefce80"), looks := true }, kinds := [], alts := [], laidByText := true, laidKinds := [.data, .pinned], laidTests := true, laidLooks := .later }
def ConnBackCardSaid : Prop := Claim7.holds Tryz.pinned (.plain (OpenSpec.ofChange connBackSpec)) connBackCard

/-- THE TIED CARD OF 'reservoirlaw24.ConnRefuses'. -/
def connRefusesCard : Claim7 := { stood := { row := connRefusesRow, standIns := [], harness := (true, "4bb73d3f72bf73013a532c65c9fe7201604e0df5244c3be8dc1b2f046fefce80"), looks := true }, kinds := [], alts := [], laidByText := true, laidKinds := [.data, .pinned], laidTests := true, laidLooks := .later }
def ConnRefusesCardSaid : Prop := Claim7.holds Tryz.pinned (.plain (OpenSpec.ofChange connRefusesSpec)) connRefusesCard

/-- THE TIED CARD OF 'reservoirlaw24.ConnShuts'. -/
def connShutsCard : Claim7 := { stood := { row := connShutsRow, standIns := [], harness := (true, "4bb73d3f72bf73013a532c65c9fe7201604e0df5244c3be8dc1b2f046fefce80"), looks := true }, kinds := [], alts := [], laidByText := true, laidKinds := [.data, .pinned], laidTests := true, laidLooks := .later }
def ConnShutsCardSaid : Prop := Claim7.holds Tryz.pinned (.plain (OpenSpec.ofChange connShutsSpec)) connShutsCard

/-- THE SECOND FORM's CARD OF 'reservoirlaw24.ConnRuns'. -/
def connRunsUptoCard : Claim7 := { stood := { row := connRunsUptoRow, standIns := [], harness := (true, "4bb73d3f72bf73013a532c65c9fe7201604e0df5244c3be8dc1b2f046fefce80"), looks := true }, kinds := [], alts := [], laidByText := true, laidKinds := [.data, .pinned], laidTests := true, laidLooks := .later }
def ConnRunsUptoCardSaid : Prop := Claim7.holds Tryz.pinned (.plain (OpenSpec.upto connRunsSpec)) connRunsUptoCard

/-- THE SECOND FORM's CARD OF 'reservoirlaw24.ConnPings'. -/
def connPingsUptoCard : Claim7 := { stood := { row := connPingsUptoRow, standIns := [], harness := (true, "4bb73d3f72bf73013a532c65c9fe7201604e0df5244c3be8dc1b2f046fefce80"), looks := true }, kinds := [], alts := [], laidByText := true, laidKinds := [.data, .pinned], laidTests := true, laidLooks := .later }
def ConnPingsUptoCardSaid : Prop := Claim7.holds Tryz.pinned (.plain (OpenSpec.upto connPingsSpec)) connPingsUptoCard

/-- THE SECOND FORM's CARD OF 'reservoirlaw24.ConnFlow'. -/
def connFlowUptoCard : Claim7 := { stood := { row := connFlowUptoRow, standIns := [], harness := (true, "4bb73d3f72bf73013a532c65c9fe7201604e0df5244c3be8dc1b2f046fefce80"), looks := true }, kinds := [], alts := [], laidByText := true, laidKinds := [.data, .pinned], laidTests := true, laidLooks := .later }
def ConnFlowUptoCardSaid : Prop := Claim7.holds Tryz.pinned (.plain (OpenSpec.upto connFlowSpec)) connFlowUptoCard

/-- THE SECOND FORM's CARD OF 'reservoirlaw24.ConnWindows'. -/
def connWindowsUptoCard : Claim7 := { stood := { row := connWindowsUptoRow, standIns := [], harness := (true, "4bb73d3f72bf73013a532c65c9fe7201604e0df5244c3be8dc1b2f046fefce80"), looks := true }, kinds := [], alts := [], laidByText := true, laidKinds := [.data, .pinned], laidTests := true, laidLooks := .later }
def ConnWindowsUptoCardSaid : Prop := Claim7.holds Tryz.pinned (.plain (OpenSpec.upto connWindowsSpec)) connWindowsUptoCard

/-- THE SECOND FORM's CARD OF 'reservoirlaw24.ConnBack'. -/
def connBackUptoCard : Claim7 := { stood := { row := connBackUptoRow, standIns := [], harness := (true, "4bb73d3f72bf73013a532c65c9fe7201604e0df5244c3be8dc1b2f046fefce80"), looks := true }, kinds := [], alts := [], laidByText := true, laidKinds := [.data, .pinned], laidTests := true, laidLooks := .later }
def ConnBackUptoCardSaid : Prop := Claim7.holds Tryz.pinned (.plain (OpenSpec.upto connBackSpec)) connBackUptoCard

/-- THE SECOND FORM's CARD OF 'reservoirlaw24.ConnRefuses'. -/
def connRefusesUptoCard : Claim7 := { stood := { row := connRefusesUptoRow, standIns := [], harness := (true, "4bb73d3f72bf73013a532c65c9fe7201604e0df5244c3be8dc1b2f046fefce80"), looks := true }, kinds := [], alts := [], laidByText := true, laidKinds := [.data, .pinned], laidTests := true, laidLooks := .later }
def ConnRefusesUptoCardSaid : Prop := Claim7.holds Tryz.pinned (.plain (OpenSpec.upto connRefusesSpec)) connRefusesUptoCard

/-- THE SECOND FORM's CARD OF 'reservoirlaw24.ConnShuts'. -/
def connShutsUptoCard : Claim7 := { stood := { row := connShutsUptoRow, standIns := [], harness := (true, "4bb73d3f72bf73013a532c65c9fe7201604e0df5244c3be8dc1b2f046fefce80"), looks := true }, kinds := [], alts := [], laidByText := true, laidKinds := [.data, .pinned], laidTests := true, laidLooks := .later }
def ConnShutsUptoCardSaid : Prop := Claim7.holds Tryz.pinned (.plain (OpenSpec.upto connShutsSpec)) connShutsUptoCard
end Rows
end Go.Proofs.YtpncefcicfhibaaGreatDoor
