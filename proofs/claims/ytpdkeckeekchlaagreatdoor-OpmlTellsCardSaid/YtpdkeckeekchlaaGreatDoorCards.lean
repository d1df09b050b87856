/-
  DERIVED. GIVEN WITH THE SEED: THE CARDS: each row of YtpdkeckeekchlaaGreatDoorRows.lean that lists a variable, with what it lists TIED to the program's text (the seventh form; the later family's looks); each row that meets fmt, with fmt's text TOLD by the authors' own Lean function (tested against real Go, not proved from fmt's source: count such statements apart). THE CARD IS WHAT COUNTS. Prove the row's statement (the work); the ties are given (YtpdkeckeekchlaaGreatDoorTie.lean); close each card by the builder's one call (the guide's Derived/Test/ToyasCard.lean, 'card_holds'). Laid BY PROGRAM, IN A SANDBOX (cutbox-door.mjs). By AI agents, Wed Nov 11 2026. No macro, syntax, notation, axiom, sorry.
-/
import Derived.Test.YtpdkeckeekchlaaGreatDoorRows
import GoSem.ClaimSeven
namespace Go.Proofs.YtpdkeckeekchlaaGreatDoor
namespace Rows

/-- THE TIED CARD OF 'cardinglaw32.OpmlTells'. -/
def opmlTellsCard : Claim7 := { stood := { row := opmlTellsRow, standIns := [], harness := (true, "24ce1288205e4d2dcb5ac6ff70db8c9827bd93197529931c97bcf6582e7c80d1"), looks := false }, kinds := [], alts := [], laidByText := true, laidKinds := [.data, .data, .data, .pinned, .pinned], laidTests := true, laidLooks := .later }
def OpmlTellsCardSaid : Prop := Claim7.holds Tryz.pinned (.plain (OpenSpec.ofChange opmlTellsSpec)) opmlTellsCard

/-- THE SECOND FORM's CARD OF 'cardinglaw32.OpmlTells'. -/
def opmlTellsUptoCard : Claim7 := { stood := { row := opmlTellsUptoRow, standIns := [], harness := (true, "24ce1288205e4d2dcb5ac6ff70db8c9827bd93197529931c97bcf6582e7c80d1"), looks := false }, kinds := [], alts := [], laidByText := true, laidKinds := [.data, .data, .data, .pinned, .pinned], laidTests := true, laidLooks := .later }
def OpmlTellsUptoCardSaid : Prop := Claim7.holds Tryz.pinned (.plain (OpenSpec.upto opmlTellsSpec)) opmlTellsUptoCard
end Rows
end Go.Proofs.YtpdkeckeekchlaaGreatDoor
