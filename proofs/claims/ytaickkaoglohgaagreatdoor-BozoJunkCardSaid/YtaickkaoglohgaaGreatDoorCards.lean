/-
  DERIVED. GIVEN WITH THE SEED: THE CARDS: each row of YtaickkaoglohgaaGreatDoorRows.lean that lists a variable, with what it lists TIED to the program's text (the seventh form; the later family's looks); each row that meets fmt, with fmt's text TOLD by the authors' own Lean function (tested against real Go, not proved from fmt's source: count such statements apart). THE CARD IS WHAT COUNTS. Prove the row's statement (the work); the ties are given (YtaickkaoglohgaaGreatDoorTie.lean); close each card by the builder's one call (the guide's Derived/Test/ToyasCard.lean, 'card_holds'). Laid BY PROGRAM, IN A SANDBOX (cutbox-door.mjs). By AI agents, Wed Nov 11 2026. No macro, syntax, notation, axiom, sorry.
-/
import Derived.Test.YtaickkaoglohgaaGreatDoorRows
import GoSem.ClaimSeven
namespace Go.Proofs.YtaickkaoglohgaaGreatDoor
namespace Rows

/-- THE TIED CARD OF 'cardinglaw17.BozoStrict'. -/
def bozoStrictCard : Claim7 := { stood := { row := bozoStrictRow, standIns := [], harness := (true, "a578f8265e761e0181f3f6383c403918861ffdfb6e9d76a89cd8b3ba71c1c547"), looks := false }, kinds := [], alts := [], laidByText := true, laidKinds := [.data, .data, .data, .pinned, .pinned], laidTests := true, laidLooks := .later }
def BozoStrictCardSaid : Prop := Claim7.holds Tryz.pinned (.plain (OpenSpec.ofChange bozoStrictSpec)) bozoStrictCard

/-- THE TIED CARD OF 'cardinglaw17.BozoJunk'. -/
def bozoJunkCard : Claim7 := { stood := { row := bozoJunkRow, standIns := [], harness := (true, "a578f8265e761e0181f3f6383c403918861ffdfb6e9d76a89cd8b3ba71c1c547"), looks := false }, kinds := [], alts := [], laidByText := true, laidKinds := [.data, .data, .data, .pinned, .pinned], laidTests := true, laidLooks := .later }
def BozoJunkCardSaid : Prop := Claim7.holds Tryz.pinned (.plain (OpenSpec.ofChange bozoJunkSpec)) bozoJunkCard

/-- THE SECOND FORM's CARD OF 'cardinglaw17.BozoStrict'. -/
def bozoStrictUptoCard : Claim7 := { stood := { row := bozoStrictUptoRow, standIns := [], harness := (true, "a578f8265e761e0181f3f6383c403918861ffdfb6e9d76a89cd8b3ba71c1c547"), looks := false }, kinds := [], alts := [], laidByText := true, laidKinds := [.data, .data, .data, .pinned, .pinned], laidTests := true, laidLooks := .later }
def BozoStrictUptoCardSaid : Prop := Claim7.holds Tryz.pinned (.plain (OpenSpec.upto bozoStrictSpec)) bozoStrictUptoCard

/-- THE SECOND FORM's CARD OF 'cardinglaw17.BozoJunk'. -/
def bozoJunkUptoCard : Claim7 := { stood := { row := bozoJunkUptoRow, standIns := [], harness := (true, "a578f8265e761e0181f3f6383c403918861ffdfb6e9d76a89cd8b3ba71c1c547"), looks := false }, kinds := [], alts := [], laidByText := true, laidKinds := [.data, .data, .data, .pinned, .pinned], laidTests := true, laidLooks := .later }
def BozoJunkUptoCardSaid : Prop := Claim7.holds Tryz.pinned (.plain (OpenSpec.upto bozoJunkSpec)) bozoJunkUptoCard
end Rows
end Go.Proofs.YtaickkaoglohgaaGreatDoor
