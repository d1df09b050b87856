/-
  DERIVED. GIVEN WITH THE SEED: THE CARDS: each row of YtifiiojchlaghaaGreatDoorRows.lean that lists a variable, with what it lists TIED to the program's text (the seventh form; the later family's looks); each row that meets fmt, with fmt's text TOLD by the authors' own Lean function (tested against real Go, not proved from fmt's source: count such statements apart). THE CARD IS WHAT COUNTS. Prove the row's statement (the work); the ties are given (YtifiiojchlaghaaGreatDoorTie.lean); close each card by the builder's one call (the guide's Derived/Test/ToyasCard.lean, 'card_holds'). Laid BY PROGRAM, IN A SANDBOX (cutbox-door.mjs). By AI agents, Wed Nov 11 2026. No macro, syntax, notation, axiom, sorry.
-/
import Derived.Test.YtifiiojchlaghaaGreatDoorRows
import GoSem.ClaimSeven
namespace Go.Proofs.YtifiiojchlaghaaGreatDoor
namespace Rows

/-- THE TIED CARD OF 'cardinglaw32.OpmlBack'. -/
def opmlBackCard : Claim7 := { stood := { row := opmlBackRow, standIns := [], harness := (true, "a58dc54de355c6d45f9b24188876e20f64e5d00743071bf961ea9839ee79bdf2"), looks := false }, kinds := [], alts := [], laidByText := true, laidKinds := [.data, .data, .data, .pinned, .pinned], laidTests := true, laidLooks := .later }
def OpmlBackCardSaid : Prop := Claim7.holds Tryz.pinned (.plain (OpenSpec.ofChange opmlBackSpec)) opmlBackCard

/-- THE TIED CARD OF 'cardinglaw32.OpmlMerges'. -/
def opmlMergesCard : Claim7 := { stood := { row := opmlMergesRow, standIns := [], harness := (true, "a58dc54de355c6d45f9b24188876e20f64e5d00743071bf961ea9839ee79bdf2"), looks := false }, kinds := [], alts := [], laidByText := true, laidKinds := [.data, .data, .data, .pinned, .pinned], laidTests := true, laidLooks := .later }
def OpmlMergesCardSaid : Prop := Claim7.holds Tryz.pinned (.plain (OpenSpec.ofChange opmlMergesSpec)) opmlMergesCard

/-- THE SECOND FORM's CARD OF 'cardinglaw32.OpmlBack'. -/
def opmlBackUptoCard : Claim7 := { stood := { row := opmlBackUptoRow, standIns := [], harness := (true, "a58dc54de355c6d45f9b24188876e20f64e5d00743071bf961ea9839ee79bdf2"), looks := false }, kinds := [], alts := [], laidByText := true, laidKinds := [.data, .data, .data, .pinned, .pinned], laidTests := true, laidLooks := .later }
def OpmlBackUptoCardSaid : Prop := Claim7.holds Tryz.pinned (.plain (OpenSpec.upto opmlBackSpec)) opmlBackUptoCard

/-- THE SECOND FORM's CARD OF 'cardinglaw32.OpmlMerges'. -/
def opmlMergesUptoCard : Claim7 := { stood := { row := opmlMergesUptoRow, standIns := [], harness := (true, "a58dc54de355c6d45f9b24188876e20f64e5d00743071bf961ea9839ee79bdf2"), looks := false }, kinds := [], alts := [], laidByText := true, laidKinds := [.data, .data, .data, .pinned, .pinned], laidTests := true, laidLooks := .later }
def OpmlMergesUptoCardSaid : Prop := Claim7.holds Tryz.pinned (.plain (OpenSpec.upto opmlMergesSpec)) opmlMergesUptoCard
end Rows
end Go.Proofs.YtifiiojchlaghaaGreatDoor
