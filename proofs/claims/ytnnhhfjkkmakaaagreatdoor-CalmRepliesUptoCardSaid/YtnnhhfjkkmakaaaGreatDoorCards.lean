/-
  DERIVED. GIVEN WITH THE SEED: THE CARDS: each row of YtnnhhfjkkmakaaaGreatDoorRows.lean that lists a variable, with what it lists TIED to the program's text (the seventh form; the later family's looks); each row that meets fmt, with fmt's text TOLD by the authors' own Lean function (tested against real Go, not proved from fmt's source: count such statements apart). THE CARD IS WHAT COUNTS. Prove the row's statement (the work); the ties are given (YtnnhhfjkkmakaaaGreatDoorTie.lean); close each card by the builder's one call (the guide's Derived/Test/ToyasCard.lean, 'card_holds'). Laid BY PROGRAM, IN A SANDBOX (cutbox-door.mjs). By AI agents, Wed Nov 11 2026. No macro, syntax, notation, axiom, sorry.
-/
import Derived.Test.YtnnhhfjkkmakaaaGreatDoorRows
import GoSem.ClaimSeven
namespace Go.Proofs.YtnnhhfjkkmakaaaGreatDoor
namespace Rows

/-- THE TIED CARD OF 'reservoirlaw26.ProxyRuns'. -/
def proxyRunsCard : Claim7 := { stood := { row := proxyRunsRow, standIns := [], harness := (true, "846d2f19589a89d2ebfaddc9e68961492b3b95c7ba43aef98d66a2c374334763"), looks := true }, kinds := [], alts := [], laidByText := true, laidKinds := [.data, .data, .data, .data, .pinned], laidTests := true, laidLooks := .later }
def ProxyRunsCardSaid : Prop := Claim7.holds Tryz.pinned (.plain (OpenSpec.ofChange proxyRunsSpec)) proxyRunsCard

/-- THE TIED CARD OF 'reservoirlaw26.ProxyClock'. -/
def proxyClockCard : Claim7 := { stood := { row := proxyClockRow, standIns := [], harness := (true, "846d2f19589a89d2ebfaddc9e68961492b3b95c7ba43aef98d66a2c374334763"), looks := true }, kinds := [], alts := [], laidByText := true, laidKinds := [.data, .data, .data, .data, .pinned], laidTests := true, laidLooks := .later }
def ProxyClockCardSaid : Prop := Claim7.holds Tryz.pinned (.plain (OpenSpec.ofChange proxyClockSpec)) proxyClockCard

/-- THE TIED CARD OF 'reservoirlaw27.ScriptRuns'. -/
def scriptRunsCard : Claim7 := { stood := { row := scriptRunsRow, standIns := [], harness := (true, "846d2f19589a89d2ebfaddc9e68961492b3b95c7ba43aef98d66a2c374334763"), looks := true }, kinds := [], alts := [], laidByText := true, laidKinds := [.data, .data, .data, .data, .pinned], laidTests := true, laidLooks := .later }
def ScriptRunsCardSaid : Prop := Claim7.holds Tryz.pinned (.plain (OpenSpec.ofChange scriptRunsSpec)) scriptRunsCard

/-- THE TIED CARD OF 'reservoirlaw28.CalmRuns'. -/
def calmRunsCard : Claim7 := { stood := { row := calmRunsRow, standIns := [], harness := (true, "846d2f19589a89d2ebfaddc9e68961492b3b95c7ba43aef98d66a2c374334763"), looks := true }, kinds := [], alts := [], laidByText := true, laidKinds := [.data, .data, .data, .data, .pinned], laidTests := true, laidLooks := .later }
def CalmRunsCardSaid : Prop := Claim7.holds Tryz.pinned (.plain (OpenSpec.ofChange calmRunsSpec)) calmRunsCard

/-- THE TIED CARD OF 'reservoirlaw28.CalmReplies'. -/
def calmRepliesCard : Claim7 := { stood := { row := calmRepliesRow, standIns := [], harness := (true, "846d2f19589a89d2ebfaddc9e68961492b3b95c7ba43aef98d66a2c374334763"), looks := true }, kinds := [], alts := [], laidByText := true, laidKinds := [.data, .data, .data, .data, .pinned], laidTests := true, laidLooks := .later }
def CalmRepliesCardSaid : Prop := Claim7.holds Tryz.pinned (.plain (OpenSpec.ofChange calmRepliesSpec)) calmRepliesCard

/-- THE SECOND FORM's CARD OF 'reservoirlaw26.ProxyRuns'. -/
def proxyRunsUptoCard : Claim7 := { stood := { row := proxyRunsUptoRow, standIns := [], harness := (true, "846d2f19589a89d2ebfaddc9e68961492b3b95c7ba43aef98d66a2c374334763"), looks := true }, kinds := [], alts := [], laidByText := true, laidKinds := [.data, .data, .data, .data, .pinned], laidTests := true, laidLooks := .later }
def ProxyRunsUptoCardSaid : Prop := Claim7.holds Tryz.pinned (.plain (OpenSpec.upto proxyRunsSpec)) proxyRunsUptoCard

/-- THE SECOND FORM's CARD OF 'reservoirlaw26.ProxyClock'. -/
def proxyClockUptoCard : Claim7 := { stood := { row := proxyClockUptoRow, standIns := [], harness := (true, "846d2f19589a89d2ebfaddc9e68961492b3b95c7ba43aef98d66a2c374334763"), looks := true }, kinds := [], alts := [], laidByText := true, laidKinds := [.data, .data, .data, .data, .pinned], laidTests := true, laidLooks := .later }
def ProxyClockUptoCardSaid : Prop := Claim7.holds Tryz.pinned (.plain (OpenSpec.upto proxyClockSpec)) proxyClockUptoCard

/-- THE SECOND FORM's CARD OF 'reservoirlaw27.ScriptRuns'. -/
def scriptRunsUptoCard : Claim7 := { stood := { row := scriptRunsUptoRow, standIns := [], harness := (true, "846d2f19589a89d2ebfaddc9e68961492b3b95c7ba43aef98d66a2c374334763"), looks := true }, kinds := [], alts := [], laidByText := true, laidKinds := [.data, .data, .data, .data, .pinned], laidTests := true, laidLooks := .later }
def ScriptRunsUptoCardSaid : Prop := Claim7.holds Tryz.pinned (.plain (OpenSpec.upto scriptRunsSpec)) scriptRunsUptoCard

/-- THE SECOND FORM's CARD OF 'reservoirlaw28.CalmRuns'. -/
def calmRunsUptoCard : Claim7 := { stood := { row := calmRunsUptoRow, standIns := [], harness := (true, "846d2f19589a89d2ebfaddc9e68961492b3b95c7ba43aef98d66a2c374334763"), looks := true }, kinds := [], alts := [], laidByText := true, laidKinds := [.data, .data, .data, .data, .pinned], laidTests := true, laidLooks := .later }
def CalmRunsUptoCardSaid : Prop := Claim7.holds Tryz.pinned (.plain (OpenSpec.upto calmRunsSpec)) calmRunsUptoCard

/-- THE SECOND FORM's CARD OF 'reservoirlaw28.CalmReplies'. -/
def calmRepliesUptoCard : Claim7 := { stood := { row := calmRepliesUptoRow, standIns := [], harness := (true, "846d2f19589a89d2ebfaddc9e68961492b3b95c7ba43aef98d66a2c374334763"), looks := true }, kinds := [], alts := [], laidByText := true, laidKinds := [.data, .data, .data, .data, .pinned], laidTests := true, laidLooks := .later }
def CalmRepliesUptoCardSaid : Prop := Claim7.holds Tryz.pinned (.plain (OpenSpec.upto calmRepliesSpec)) calmRepliesUptoCard
end Rows
end Go.Proofs.YtnnhhfjkkmakaaaGreatDoor
