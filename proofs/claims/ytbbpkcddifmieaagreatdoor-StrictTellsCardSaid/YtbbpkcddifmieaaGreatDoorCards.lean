/-
  DERIVED. GIVEN WITH THE SEED: THE CARDS: each row of YtbbpkcddifmieaaGreatDoorRows.lean that lists a variable, with what it lists TIED to the program's text (the seventh form; the later family's looks); each row that meets fmt, with fmt's text TOLD by the authors' own Lean function (tested against real Go, not proved from fmt's source: count such statements apart). THE CARD IS WHAT COUNTS. Prove the row's statement (the work); the ties are given (YtbbpkcddifmieaaGreatDoorTie.lean); close each card by the builder's one call (the guide's Derived/Test/ToyasCard.lean, 'card_holds'). Laid BY PROGRAM, IN A SANDBOX (cutbox-door.mjs). By AI agents, Wed Nov 11 2026. No macro, syntax, notation, axiom, sorry.
-/
import Derived.Test.YtbbpkcddifmieaaGreatDoorRows
import GoSem.ClaimSeven
namespace Go.Proofs.YtbbpkcddifmieaaGreatDoor
namespace Rows

/-- THE TIED CARD OF 'cardinglaw15.StrictValues'. -/
def strictValuesCard : Claim7 := { stood := { row := strictValuesRow, standIns := [], harness := (true, "ab315008d6675735c92df7688d08ca0d220036e20ebef9e72458c725763129f0"), looks := false }, kinds := [], alts := [], laidByText := true, laidKinds := [.data, .data, .data, .pinned, .pinned], laidTests := true, laidLooks := .later }
def StrictValuesCardSaid : Prop := Claim7.holds Tryz.pinned (.plain (OpenSpec.ofChange strictValuesSpec)) strictValuesCard

/-- THE TIED CARD OF 'cardinglaw15.StrictAbout'. -/
def strictAboutCard : Claim7 := { stood := { row := strictAboutRow, standIns := [], harness := (true, "ab315008d6675735c92df7688d08ca0d220036e20ebef9e72458c725763129f0"), looks := false }, kinds := [], alts := [], laidByText := true, laidKinds := [.data, .data, .data, .pinned, .pinned], laidTests := true, laidLooks := .later }
def StrictAboutCardSaid : Prop := Claim7.holds Tryz.pinned (.plain (OpenSpec.ofChange strictAboutSpec)) strictAboutCard

/-- THE TIED CARD OF 'cardinglaw15.StrictWithin'. -/
def strictWithinCard : Claim7 := { stood := { row := strictWithinRow, standIns := [], harness := (true, "ab315008d6675735c92df7688d08ca0d220036e20ebef9e72458c725763129f0"), looks := false }, kinds := [], alts := [], laidByText := true, laidKinds := [.data, .data, .data, .pinned, .pinned], laidTests := true, laidLooks := .later }
def StrictWithinCardSaid : Prop := Claim7.holds Tryz.pinned (.plain (OpenSpec.ofChange strictWithinSpec)) strictWithinCard

/-- THE TIED CARD OF 'cardinglaw15.StrictCut'. -/
def strictCutCard : Claim7 := { stood := { row := strictCutRow, standIns := [], harness := (true, "ab315008d6675735c92df7688d08ca0d220036e20ebef9e72458c725763129f0"), looks := false }, kinds := [], alts := [], laidByText := true, laidKinds := [.data, .data, .data, .pinned, .pinned], laidTests := true, laidLooks := .later }
def StrictCutCardSaid : Prop := Claim7.holds Tryz.pinned (.plain (OpenSpec.ofChange strictCutSpec)) strictCutCard

/-- THE TIED CARD OF 'cardinglaw15.StrictTells'. -/
def strictTellsCard : Claim7 := { stood := { row := strictTellsRow, standIns := [], harness := (true, "ab315008d6675735c92df7688d08ca0d220036e20ebef9e72458c725763129f0"), looks := false }, kinds := [], alts := [], laidByText := true, laidKinds := [.data, .data, .data, .pinned, .pinned], laidTests := true, laidLooks := .later }
def StrictTellsCardSaid : Prop := Claim7.holds Tryz.pinned (.plain (OpenSpec.ofChange strictTellsSpec)) strictTellsCard

/-- THE TIED CARD OF 'cardinglaw15.StrictBalance'. -/
def strictBalanceCard : Claim7 := { stood := { row := strictBalanceRow, standIns := [], harness := (true, "ab315008d6675735c92df7688d08ca0d220036e20ebef9e72458c725763129f0"), looks := false }, kinds := [], alts := [], laidByText := true, laidKinds := [.data, .data, .data, .pinned, .pinned], laidTests := true, laidLooks := .later }
def StrictBalanceCardSaid : Prop := Claim7.holds Tryz.pinned (.plain (OpenSpec.ofChange strictBalanceSpec)) strictBalanceCard

/-- THE SECOND FORM's CARD OF 'cardinglaw15.StrictValues'. -/
def strictValuesUptoCard : Claim7 := { stood := { row := strictValuesUptoRow, standIns := [], harness := (true, "ab315008d6675735c92df7688d08ca0d220036e20ebef9e72458c725763129f0"), looks := false }, kinds := [], alts := [], laidByText := true, laidKinds := [.data, .data, .data, .pinned, .pinned], laidTests := true, laidLooks := .later }
def StrictValuesUptoCardSaid : Prop := Claim7.holds Tryz.pinned (.plain (OpenSpec.upto strictValuesSpec)) strictValuesUptoCard

/-- THE SECOND FORM's CARD OF 'cardinglaw15.StrictAbout'. -/
def strictAboutUptoCard : Claim7 := { stood := { row := strictAboutUptoRow, standIns := [], harness := (true, "ab315008d6675735c92df7688d08ca0d220036e20ebef9e72458c725763129f0"), looks := false }, kinds := [], alts := [], laidByText := true, laidKinds := [.data, .data, .data, .pinned, .pinned], laidTests := true, laidLooks := .later }
def StrictAboutUptoCardSaid : Prop := Claim7.holds Tryz.pinned (.plain (OpenSpec.upto strictAboutSpec)) strictAboutUptoCard

/-- THE SECOND FORM's CARD OF 'cardinglaw15.StrictWithin'. -/
def strictWithinUptoCard : Claim7 := { stood := { row := strictWithinUptoRow, standIns := [], harness := (true, "ab315008d6675735c92df7688d08ca0d220036e20ebef9e72458c725763129f0"), looks := false }, kinds := [], alts := [], laidByText := true, laidKinds := [.data, .data, .data, .pinned, .pinned], laidTests := true, laidLooks := .later }
def StrictWithinUptoCardSaid : Prop := Claim7.holds Tryz.pinned (.plain (OpenSpec.upto strictWithinSpec)) strictWithinUptoCard

/-- THE SECOND FORM's CARD OF 'cardinglaw15.StrictCut'. -/
def strictCutUptoCard : Claim7 := { stood := { row := strictCutUptoRow, standIns := [], harness := (true, "ab315008d6675735c92df7688d08ca0d220036e20ebef9e72458c725763129f0"), looks := false }, kinds := [], alts := [], laidByText := true, laidKinds := [.data, .data, .data, .pinned, .pinned], laidTests := true, laidLooks := .later }
def StrictCutUptoCardSaid : Prop := Claim7.holds Tryz.pinned (.plain (OpenSpec.upto strictCutSpec)) strictCutUptoCard

/-- THE SECOND FORM's CARD OF 'cardinglaw15.StrictTells'. -/
def strictTellsUptoCard : Claim7 := { stood := { row := strictTellsUptoRow, standIns := [], harness := (true, "ab315008d6675735c92df7688d08ca0d220036e20ebef9e72458c725763129f0"), looks := false }, kinds := [], alts := [], laidByText := true, laidKinds := [.data, .data, .data, .pinned, .pinned], laidTests := true, laidLooks := .later }
def StrictTellsUptoCardSaid : Prop := Claim7.holds Tryz.pinned (.plain (OpenSpec.upto strictTellsSpec)) strictTellsUptoCard

/-- THE SECOND FORM's CARD OF 'cardinglaw15.StrictBalance'. -/
def strictBalanceUptoCard : Claim7 := { stood := { row := strictBalanceUptoRow, standIns := [], harness := (true, "ab315008d6675735c92df7688d08ca0d220036e20ebef9e72458c725763129f0"), looks := false }, kinds := [], alts := [], laidByText := true, laidKinds := [.data, .data, .data, .pinned, .pinned], laidTests := true, laidLooks := .later }
def StrictBalanceUptoCardSaid : Prop := Claim7.holds Tryz.pinned (.plain (OpenSpec.upto strictBalanceSpec)) strictBalanceUptoCard
end Rows
end Go.Proofs.YtbbpkcddifmieaaGreatDoor
