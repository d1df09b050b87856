/-
  DERIVED. GIVEN WITH THE SEED: THE CARDS: each row of YtbnaphbmmkmaeaaDoorRows.lean that lists a variable, with what it lists TIED to the program's text (the seventh form; the later family's looks); each row that meets fmt, with fmt's text TOLD by the authors' own Lean function (tested against real Go, not proved from fmt's source: count such statements apart). THE CARD IS WHAT COUNTS. Prove the row's statement (the work); the ties are given (YtbnaphbmmkmaeaaDoorTie.lean); close each card by the builder's one call (the guide's Derived/Test/ToyasCard.lean, 'card_holds'). Laid BY PROGRAM, IN A SANDBOX (cutbox-door.mjs). By AI agents, Wed Nov 11 2026. No macro, syntax, notation, axiom, sorry.
-/
import Derived.Test.YtbnaphbmmkmaeaaDoorRows
import GoSem.ClaimSeven
namespace Go.Proofs.YtbnaphbmmkmaeaaDoor
namespace Rows

/-- THE TIED CARD OF 'cardinglaw14.TokensCover'. -/
def tokensCoverCard : Claim7 := { stood := { row := tokensCoverRow, standIns := [], harness := (true, "4d164c0ca94be412c296c73932c2549da318b2dc12d50e06998c8c9e3c6b061e"), looks := false }, kinds := [], alts := [], laidByText := true, laidKinds := [.data, .data, .data, .pinned, .pinned], laidTests := true, laidLooks := .later }
def TokensCoverCardSaid : Prop := Claim7.holds Tryd.pinned (.plain (OpenSpec.ofChange tokensCoverSpec)) tokensCoverCard

/-- THE TIED CARD OF 'cardinglaw14.TokensSkip'. -/
def tokensSkipCard : Claim7 := { stood := { row := tokensSkipRow, standIns := [], harness := (true, "4d164c0ca94be412c296c73932c2549da318b2dc12d50e06998c8c9e3c6b061e"), looks := false }, kinds := [], alts := [], laidByText := true, laidKinds := [.data, .data, .data, .pinned, .pinned], laidTests := true, laidLooks := .later }
def TokensSkipCardSaid : Prop := Claim7.holds Tryd.pinned (.plain (OpenSpec.ofChange tokensSkipSpec)) tokensSkipCard

/-- THE TIED CARD OF 'cardinglaw14.TokensWrite'. -/
def tokensWriteCard : Claim7 := { stood := { row := tokensWriteRow, standIns := [], harness := (true, "4d164c0ca94be412c296c73932c2549da318b2dc12d50e06998c8c9e3c6b061e"), looks := false }, kinds := [], alts := [], laidByText := true, laidKinds := [.data, .data, .data, .pinned, .pinned], laidTests := true, laidLooks := .later }
def TokensWriteCardSaid : Prop := Claim7.holds Tryd.pinned (.plain (OpenSpec.ofChange tokensWriteSpec)) tokensWriteCard

/-- THE TIED CARD OF 'cardinglaw14.TokensBack'. -/
def tokensBackCard : Claim7 := { stood := { row := tokensBackRow, standIns := [], harness := (true, "4d164c0ca94be412c296c73932c2549da318b2dc12d50e06998c8c9e3c6b061e"), looks := false }, kinds := [], alts := [], laidByText := true, laidKinds := [.data, .data, .data, .pinned, .pinned], laidTests := true, laidLooks := .later }
def TokensBackCardSaid : Prop := Claim7.holds Tryd.pinned (.plain (OpenSpec.ofChange tokensBackSpec)) tokensBackCard

/-- THE SECOND FORM's CARD OF 'cardinglaw14.TokensCover'. -/
def tokensCoverUptoCard : Claim7 := { stood := { row := tokensCoverUptoRow, standIns := [], harness := (true, "4d164c0ca94be412c296c73932c2549da318b2dc12d50e06998c8c9e3c6b061e"), looks := false }, kinds := [], alts := [], laidByText := true, laidKinds := [.data, .data, .data, .pinned, .pinned], laidTests := true, laidLooks := .later }
def TokensCoverUptoCardSaid : Prop := Claim7.holds Tryd.pinned (.plain (OpenSpec.upto tokensCoverSpec)) tokensCoverUptoCard

/-- THE SECOND FORM's CARD OF 'cardinglaw14.TokensSkip'. -/
def tokensSkipUptoCard : Claim7 := { stood := { row := tokensSkipUptoRow, standIns := [], harness := (true, "4d164c0ca94be412c296c73932c2549da318b2dc12d50e06998c8c9e3c6b061e"), looks := false }, kinds := [], alts := [], laidByText := true, laidKinds := [.data, .data, .data, .pinned, .pinned], laidTests := true, laidLooks := .later }
def TokensSkipUptoCardSaid : Prop := Claim7.holds Tryd.pinned (.plain (OpenSpec.upto tokensSkipSpec)) tokensSkipUptoCard

/-- THE SECOND FORM's CARD OF 'cardinglaw14.TokensWrite'. -/
def tokensWriteUptoCard : Claim7 := { stood := { row := tokensWriteUptoRow, standIns := [], harness := (true, "4d164c0ca94be412c296c73932c2549da318b2dc12d50e06998c8c9e3c6b061e"), looks := false }, kinds := [], alts := [], laidByText := true, laidKinds := [.data, .data, .data, .pinned, .pinned], laidTests := true, laidLooks := .later }
def TokensWriteUptoCardSaid : Prop := Claim7.holds Tryd.pinned (.plain (OpenSpec.upto tokensWriteSpec)) tokensWriteUptoCard

/-- THE SECOND FORM's CARD OF 'cardinglaw14.TokensBack'. -/
def tokensBackUptoCard : Claim7 := { stood := { row := tokensBackUptoRow, standIns := [], harness := (true, "4d164c0ca94be412c296c73932c2549da318b2dc12d50e06998c8c9e3c6b061e"), looks := false }, kinds := [], alts := [], laidByText := true, laidKinds := [.data, .data, .data, .pinned, .pinned], laidTests := true, laidLooks := .later }
def TokensBackUptoCardSaid : Prop := Claim7.holds Tryd.pinned (.plain (OpenSpec.upto tokensBackSpec)) tokensBackUptoCard
end Rows
end Go.Proofs.YtbnaphbmmkmaeaaDoor
