/-
  DERIVED. GIVEN WITH THE SEED: THE CARDS: each row of YtnbmfljhbpfilaaGreatDoorRows.lean that lists a variable, with what it lists TIED to the program's text (the seventh form; the later family's looks); each row that meets fmt, with fmt's text TOLD by the authors' own Lean function (tested against real Go, not proved from fmt's source: count such statements apart). THE CARD IS WHAT COUNTS. Prove the row's statement (the work); the ties are given (YtnbmfljhbpfilaaGreatDoorTie.lean); close each card by the builder's one call (the guide's Derived/Test/ToyasCard.lean, 'card_holds'). Laid BY PROGRAM, IN A SANDBOX (cutbox-door.mjs). By AI agents, Wed Nov 11 2026. No macro, syntax, notation, axiom, sorry.
-/
import Derived.Test.YtnbmfljhbpfilaaGreatDoorRows
import GoSem.ClaimSeven
namespace Go.Proofs.YtnbmfljhbpfilaaGreatDoor
namespace Rows

/-- THE TIED CARD OF 'cardinglaw32.OpmlWithin'. -/
def opmlWithinCard : Claim7 := { stood := { row := opmlWithinRow, standIns := [], harness := (true, "4b2227cc648626062c78881e3f11c6a6102f21ecf114d9da1aa6dbb05ad3fc64"), looks := false }, kinds := [], alts := [], laidByText := true, laidKinds := [.data, .data, .data, .pinned, .pinned], laidTests := true, laidLooks := .later }
def OpmlWithinCardSaid : Prop := Claim7.holds Tryz.pinned (.plain (OpenSpec.ofChange opmlWithinSpec)) opmlWithinCard

/-- THE SECOND FORM's CARD OF 'cardinglaw32.OpmlWithin'. -/
def opmlWithinUptoCard : Claim7 := { stood := { row := opmlWithinUptoRow, standIns := [], harness := (true, "4b2227cc648626062c78881e3f11c6a6102f21ecf114d9da1aa6dbb05ad3fc64"), looks := false }, kinds := [], alts := [], laidByText := true, laidKinds := [.data, .data, .data, .pinned, .pinned], laidTests := true, laidLooks := .later }
def OpmlWithinUptoCardSaid : Prop := Claim7.holds Tryz.pinned (.plain (OpenSpec.upto opmlWithinSpec)) opmlWithinUptoCard
end Rows
end Go.Proofs.YtnbmfljhbpfilaaGreatDoor
