/-
  DERIVED. GIVEN WITH THE SEED: THE CARDS: each row of YtfnoiklmcmboeaaGreatDoorRows.lean that lists a variable, with what it lists TIED to the program's text (the seventh form; the later family's looks); each row that meets fmt, with fmt's text TOLD by the authors' own Lean function (tested against real Go, not proved from fmt's source: count such statements apart). THE CARD IS WHAT COUNTS. Prove the row's statement (the work); the ties are given (YtfnoiklmcmboeaaGreatDoorTie.lean); close each card by the builder's one call (the guide's Derived/Test/ToyasCard.lean, 'card_holds'). Laid BY PROGRAM, IN A SANDBOX (cutbox-door.mjs). By AI agents, Wed Nov 11 2026. No macro, syntax, notation, axiom, sorry.
-/
import Derived.Test.YtfnoiklmcmboeaaGreatDoorRows
import GoSem.ClaimSeven
namespace Go.Proofs.YtfnoiklmcmboeaaGreatDoor
namespace Rows

/-- THE TIED CARD OF 'reservoirlaw26.ProxyPlaces'. -/
def proxyPlacesCard : Claim7 := { stood := { row := proxyPlacesRow, standIns := [], harness := (true, "7ba7fe8a02d0bf6835cb6c01883edba6fb175b99f898f7d60d8e28cab3d11d4c"), looks := true }, kinds := [], alts := [], laidByText := true, laidKinds := [.data, .data, .data, .data, .pinned], laidTests := true, laidLooks := .later }
def ProxyPlacesCardSaid : Prop := Claim7.holds Tryz.pinned (.plain (OpenSpec.ofChange proxyPlacesSpec)) proxyPlacesCard

/-- THE TIED CARD OF 'reservoirlaw27.ScriptNobody'. -/
def scriptNobodyCard : Claim7 := { stood := { row := scriptNobodyRow, standIns := [], harness := (true, "7ba7fe8a02d0bf6835cb6c01883edba6fb175b99f898f7d60d8e28cab3d11d4c"), looks := true }, kinds := [], alts := [], laidByText := true, laidKinds := [.data, .data, .data, .data, .pinned], laidTests := true, laidLooks := .later }
def ScriptNobodyCardSaid : Prop := Claim7.holds Tryz.pinned (.plain (OpenSpec.ofChange scriptNobodySpec)) scriptNobodyCard

/-- THE SECOND FORM's CARD OF 'reservoirlaw26.ProxyPlaces'. -/
def proxyPlacesUptoCard : Claim7 := { stood := { row := proxyPlacesUptoRow, standIns := [], harness := (true, "7ba7fe8a02d0bf6835cb6c01883edba6fb175b99f898f7d60d8e28cab3d11d4c"), looks := true }, kinds := [], alts := [], laidByText := true, laidKinds := [.data, .data, .data, .data, .pinned], laidTests := true, laidLooks := .later }
def ProxyPlacesUptoCardSaid : Prop := Claim7.holds Tryz.pinned (.plain (OpenSpec.upto proxyPlacesSpec)) proxyPlacesUptoCard

/-- THE SECOND FORM's CARD OF 'reservoirlaw27.ScriptNobody'. -/
def scriptNobodyUptoCard : Claim7 := { stood := { row := scriptNobodyUptoRow, standIns := [], harness := (true, "7ba7fe8a02d0bf6835cb6c01883edba6fb175b99f898f7d60d8e28cab3d11d4c"), looks := true }, kinds := [], alts := [], laidByText := true, laidKinds := [.data, .data, .data, .data, .pinned], laidTests := true, laidLooks := .later }
def ScriptNobodyUptoCardSaid : Prop := Claim7.holds Tryz.pinned (.plain (OpenSpec.upto scriptNobodySpec)) scriptNobodyUptoCard
end Rows
end Go.Proofs.YtfnoiklmcmboeaaGreatDoor
