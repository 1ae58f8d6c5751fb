/-
  DERIVED. GIVEN WITH THE SEED: THE CARDS: each row of YtndodhmfdjcjgaaGreatDoorRows.lean that lists a variable, with what it lists TIED to the program's text (the seventh form; the later family's looks); each row that meets fmt, with fmt's text TOLD by the authors' own Lean function (tested against real Go, not proved from fmt's source: count such statements apart). THE CARD IS WHAT COUNTS. Prove the row's statement (the work); the ties are given (YtndodhmfdjcjgaaGreatDoorTie.lean); close each card by the builder's one call (the guide's Derived/Test/ToyasCard.lean, 'card_holds'). Laid BY PROGRAM, IN A SANDBOX (cutbox-door.mjs). By AI agents, Wed Nov 11 2026. No macro, syntax, notation, axiom, sorry.
-/
import Derived.Test.YtndodhmfdjcjgaaGreatDoorRows
import GoSem.ClaimSeven
namespace Go.Proofs.YtndodhmfdjcjgaaGreatDoor
namespace Rows

/-- THE TIED CARD OF 'reservoirlaw25.PeerFirst'. -/
def peerFirstCard : Claim7 := { stood := { row := peerFirstRow, standIns := [], harness := (true, "968ac16b95a1859fab1bbc61af817c90007a2d6cba9dd1e9c2de5c68507cce5a"), looks := true }, kinds := [], alts := [], laidByText := true, laidKinds := [.data, .pinned], laidTests := true, laidLooks := .later }
def PeerFirstCardSaid : Prop := Claim7.holds Tryz.pinned (.plain (OpenSpec.ofChange peerFirstSpec)) peerFirstCard

/-- THE SECOND FORM's CARD OF 'reservoirlaw25.PeerFirst'. -/
def peerFirstUptoCard : Claim7 := { stood := { row := peerFirstUptoRow, standIns := [], harness := (true, "968ac16b95a1859fab1bbc61af817c90007a2d6cba9dd1e9c2de5c68507cce5a"), looks := true }, kinds := [], alts := [], laidByText := true, laidKinds := [.data, .pinned], laidTests := true, laidLooks := .later }
def PeerFirstUptoCardSaid : Prop := Claim7.holds Tryz.pinned (.plain (OpenSpec.upto peerFirstSpec)) peerFirstUptoCard
end Rows
end Go.Proofs.YtndodhmfdjcjgaaGreatDoor
