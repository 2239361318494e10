/-
  DERIVED. GIVEN WITH THE SEED: THE CARDS: each row of YtplnaajoeoiieaaDoorRows.lean that lists a variable, with what it lists TIED to the program's text (the seventh form; the later family's looks); each row that meets fmt, with fmt's text TOLD by the authors' own Lean function (tested against real Go, not proved from fmt's source: count such statements apart). THE CARD IS WHAT COUNTS. Prove the row's statement (the work); the ties are given (YtplnaajoeoiieaaDoorTie.lean); close each card by the builder's one call (the guide's Derived/Test/ToyasCard.lean, 'card_holds'). Laid BY PROGRAM, IN A SANDBOX (cutbox-door.mjs). By AI agents, Wed Nov 11 2026. No macro, syntax, notation, axiom, sorry.
-/
import Derived.Test.YtplnaajoeoiieaaDoorRows
import GoSem.ClaimSeven
namespace Go.Proofs.YtplnaajoeoiieaaDoor
namespace Rows

/-- THE TIED CARD OF 'reckonerlaw15.FormatNames'. -/
def formatNamesCard : Claim7 := { stood := { row := formatNamesRow, standIns := [], harness := (true, "3e49350c4e781cd5a3be7373ed530386c07f2fe397ce6f63338e15e7324672dd"), looks := false }, kinds := [], alts := [], laidByText := true, laidKinds := [.data, .mapped], laidTests := true, laidLooks := .later }
def FormatNamesCardSaid : Prop := Claim7.holds Tryd.pinned (.plain (OpenSpec.ofChange formatNamesSpec)) formatNamesCard

/-- THE TIED CARD OF 'reckonerlaw15.FormatEncodes'. -/
def formatEncodesCard : Claim7 := { stood := { row := formatEncodesRow, standIns := [], harness := (true, "3e49350c4e781cd5a3be7373ed530386c07f2fe397ce6f63338e15e7324672dd"), looks := false }, kinds := [], alts := [], laidByText := true, laidKinds := [.data, .mapped], laidTests := true, laidLooks := .later }
def FormatEncodesCardSaid : Prop := Claim7.holds Tryd.pinned (.plain (OpenSpec.ofChange formatEncodesSpec)) formatEncodesCard

/-- THE TIED CARD OF 'reckonerlaw15.FormatDecodes'. -/
def formatDecodesCard : Claim7 := { stood := { row := formatDecodesRow, standIns := [], harness := (true, "3e49350c4e781cd5a3be7373ed530386c07f2fe397ce6f63338e15e7324672dd"), looks := false }, kinds := [], alts := [], laidByText := true, laidKinds := [.data, .mapped], laidTests := true, laidLooks := .later }
def FormatDecodesCardSaid : Prop := Claim7.holds Tryd.pinned (.plain (OpenSpec.ofChange formatDecodesSpec)) formatDecodesCard

/-- THE TIED CARD OF 'reckonerlaw15.FormatCanonical'. -/
def formatCanonicalCard : Claim7 := { stood := { row := formatCanonicalRow, standIns := [], harness := (true, "3e49350c4e781cd5a3be7373ed530386c07f2fe397ce6f63338e15e7324672dd"), looks := false }, kinds := [], alts := [], laidByText := true, laidKinds := [.data, .mapped], laidTests := true, laidLooks := .later }
def FormatCanonicalCardSaid : Prop := Claim7.holds Tryd.pinned (.plain (OpenSpec.ofChange formatCanonicalSpec)) formatCanonicalCard

/-- THE TIED CARD OF 'reckonerlaw15.FormatChecks'. -/
def formatChecksCard : Claim7 := { stood := { row := formatChecksRow, standIns := [], harness := (true, "3e49350c4e781cd5a3be7373ed530386c07f2fe397ce6f63338e15e7324672dd"), looks := false }, kinds := [], alts := [], laidByText := true, laidKinds := [.data, .mapped], laidTests := true, laidLooks := .later }
def FormatChecksCardSaid : Prop := Claim7.holds Tryd.pinned (.plain (OpenSpec.ofChange formatChecksSpec)) formatChecksCard

/-- THE TIED CARD OF 'reckonerlaw15.FormatHolds'. -/
def formatHoldsCard : Claim7 := { stood := { row := formatHoldsRow, standIns := [], harness := (true, "3e49350c4e781cd5a3be7373ed530386c07f2fe397ce6f63338e15e7324672dd"), looks := false }, kinds := [], alts := [], laidByText := true, laidKinds := [.data, .mapped], laidTests := true, laidLooks := .later }
def FormatHoldsCardSaid : Prop := Claim7.holds Tryd.pinned (.plain (OpenSpec.ofChange formatHoldsSpec)) formatHoldsCard

/-- THE TIED CARD OF 'reckonerlaw15.FormatSame'. -/
def formatSameCard : Claim7 := { stood := { row := formatSameRow, standIns := [], harness := (true, "3e49350c4e781cd5a3be7373ed530386c07f2fe397ce6f63338e15e7324672dd"), looks := false }, kinds := [], alts := [], laidByText := true, laidKinds := [.data, .mapped], laidTests := true, laidLooks := .later }
def FormatSameCardSaid : Prop := Claim7.holds Tryd.pinned (.plain (OpenSpec.ofChange formatSameSpec)) formatSameCard

/-- THE TIED CARD OF 'reckonerlaw15.FormatValue'. -/
def formatValueCard : Claim7 := { stood := { row := formatValueRow, standIns := [], harness := (true, "3e49350c4e781cd5a3be7373ed530386c07f2fe397ce6f63338e15e7324672dd"), looks := false }, kinds := [], alts := [], laidByText := true, laidKinds := [.data, .mapped], laidTests := true, laidLooks := .later }
def FormatValueCardSaid : Prop := Claim7.holds Tryd.pinned (.plain (OpenSpec.ofChange formatValueSpec)) formatValueCard

/-- THE TIED CARD OF 'reckonerlaw15.FormatRises'. -/
def formatRisesCard : Claim7 := { stood := { row := formatRisesRow, standIns := [], harness := (true, "3e49350c4e781cd5a3be7373ed530386c07f2fe397ce6f63338e15e7324672dd"), looks := false }, kinds := [], alts := [], laidByText := true, laidKinds := [.data, .mapped], laidTests := true, laidLooks := .later }
def FormatRisesCardSaid : Prop := Claim7.holds Tryd.pinned (.plain (OpenSpec.ofChange formatRisesSpec)) formatRisesCard

/-- THE TIED CARD OF 'reckonerlaw15.FormatOwn'. -/
def formatOwnCard : Claim7 := { stood := { row := formatOwnRow, standIns := [], harness := (true, "3e49350c4e781cd5a3be7373ed530386c07f2fe397ce6f63338e15e7324672dd"), looks := false }, kinds := [], alts := [], laidByText := true, laidKinds := [.data, .mapped], laidTests := true, laidLooks := .later }
def FormatOwnCardSaid : Prop := Claim7.holds Tryd.pinned (.plain (OpenSpec.ofChange formatOwnSpec)) formatOwnCard

/-- THE TIED CARD OF 'reckonerlaw15.FormatBack'. -/
def formatBackCard : Claim7 := { stood := { row := formatBackRow, standIns := [], harness := (true, "3e49350c4e781cd5a3be7373ed530386c07f2fe397ce6f63338e15e7324672dd"), looks := false }, kinds := [], alts := [], laidByText := true, laidKinds := [.data, .mapped], laidTests := true, laidLooks := .later }
def FormatBackCardSaid : Prop := Claim7.holds Tryd.pinned (.plain (OpenSpec.ofChange formatBackSpec)) formatBackCard

/-- THE TIED CARD OF 'reckonerlaw15.FormatOf'. -/
def formatOfCard : Claim7 := { stood := { row := formatOfRow, standIns := [], harness := (true, "3e49350c4e781cd5a3be7373ed530386c07f2fe397ce6f63338e15e7324672dd"), looks := false }, kinds := [], alts := [], laidByText := true, laidKinds := [.data, .mapped], laidTests := true, laidLooks := .later }
def FormatOfCardSaid : Prop := Claim7.holds Tryd.pinned (.plain (OpenSpec.ofChange formatOfSpec)) formatOfCard

/-- THE TIED CARD OF 'reckonerlaw15.FormatThere'. -/
def formatThereCard : Claim7 := { stood := { row := formatThereRow, standIns := [], harness := (true, "3e49350c4e781cd5a3be7373ed530386c07f2fe397ce6f63338e15e7324672dd"), looks := false }, kinds := [], alts := [], laidByText := true, laidKinds := [.data, .mapped], laidTests := true, laidLooks := .later }
def FormatThereCardSaid : Prop := Claim7.holds Tryd.pinned (.plain (OpenSpec.ofChange formatThereSpec)) formatThereCard

/-- THE TIED CARD OF 'reckonerlaw15.FormatLarge'. -/
def formatLargeCard : Claim7 := { stood := { row := formatLargeRow, standIns := [], harness := (true, "3e49350c4e781cd5a3be7373ed530386c07f2fe397ce6f63338e15e7324672dd"), looks := false }, kinds := [], alts := [], laidByText := true, laidKinds := [.data, .mapped], laidTests := true, laidLooks := .later }
def FormatLargeCardSaid : Prop := Claim7.holds Tryd.pinned (.plain (OpenSpec.ofChange formatLargeSpec)) formatLargeCard

/-- THE SECOND FORM's CARD OF 'reckonerlaw15.FormatNames'. -/
def formatNamesUptoCard : Claim7 := { stood := { row := formatNamesUptoRow, standIns := [], harness := (true, "3e49350c4e781cd5a3be7373ed530386c07f2fe397ce6f63338e15e7324672dd"), looks := false }, kinds := [], alts := [], laidByText := true, laidKinds := [.data, .mapped], laidTests := true, laidLooks := .later }
def FormatNamesUptoCardSaid : Prop := Claim7.holds Tryd.pinned (.plain (OpenSpec.upto formatNamesSpec)) formatNamesUptoCard

/-- THE SECOND FORM's CARD OF 'reckonerlaw15.FormatEncodes'. -/
def formatEncodesUptoCard : Claim7 := { stood := { row := formatEncodesUptoRow, standIns := [], harness := (true, "3e49350c4e781cd5a3be7373ed530386c07f2fe397ce6f63338e15e7324672dd"), looks := false }, kinds := [], alts := [], laidByText := true, laidKinds := [.data, .mapped], laidTests := true, laidLooks := .later }
def FormatEncodesUptoCardSaid : Prop := Claim7.holds Tryd.pinned (.plain (OpenSpec.upto formatEncodesSpec)) formatEncodesUptoCard

/-- THE SECOND FORM's CARD OF 'reckonerlaw15.FormatDecodes'. -/
def formatDecodesUptoCard : Claim7 := { stood := { row := formatDecodesUptoRow, standIns := [], harness := (true, "3e49350c4e781cd5a3be7373ed530386c07f2fe397ce6f63338e15e7324672dd"), looks := false }, kinds := [], alts := [], laidByText := true, laidKinds := [.data, .mapped], laidTests := true, laidLooks := .later }
def FormatDecodesUptoCardSaid : Prop := Claim7.holds Tryd.pinned (.plain (OpenSpec.upto formatDecodesSpec)) formatDecodesUptoCard

/-- THE SECOND FORM's CARD OF 'reckonerlaw15.FormatCanonical'. -/
def formatCanonicalUptoCard : Claim7 := { stood := { row := formatCanonicalUptoRow, standIns := [], harness := (true, "3e49350c4e781cd5a3be7373ed530386c07f2fe397ce6f63338e15e7324672dd"), looks := false }, kinds := [], alts := [], laidByText := true, laidKinds := [.data, .mapped], laidTests := true, laidLooks := .later }
def FormatCanonicalUptoCardSaid : Prop := Claim7.holds Tryd.pinned (.plain (OpenSpec.upto formatCanonicalSpec)) formatCanonicalUptoCard

/-- THE SECOND FORM's CARD OF 'reckonerlaw15.FormatChecks'. -/
def formatChecksUptoCard : Claim7 := { stood := { row := formatChecksUptoRow, standIns := [], harness := (true, "3e49350c4e781cd5a3be7373ed530386c07f2fe397ce6f63338e15e7324672dd"), looks := false }, kinds := [], alts := [], laidByText := true, laidKinds := [.data, .mapped], laidTests := true, laidLooks := .later }
def FormatChecksUptoCardSaid : Prop := Claim7.holds Tryd.pinned (.plain (OpenSpec.upto formatChecksSpec)) formatChecksUptoCard

/-- THE SECOND FORM's CARD OF 'reckonerlaw15.FormatHolds'. -/
def formatHoldsUptoCard : Claim7 := { stood := { row := formatHoldsUptoRow, standIns := [], harness := (true, "3e49350c4e781cd5a3be7373ed530386c07f2fe397ce6f63338e15e7324672dd"), looks := false }, kinds := [], alts := [], laidByText := true, laidKinds := [.data, .mapped], laidTests := true, laidLooks := .later }
def FormatHoldsUptoCardSaid : Prop := Claim7.holds Tryd.pinned (.plain (OpenSpec.upto formatHoldsSpec)) formatHoldsUptoCard

/-- THE SECOND FORM's CARD OF 'reckonerlaw15.FormatSame'. -/
def formatSameUptoCard : Claim7 := { stood := { row := formatSameUptoRow, standIns := [], harness := (true, "3e49350c4e781cd5a3be7373ed530386c07f2fe397ce6f63338e15e7324672dd"), looks := false }, kinds := [], alts := [], laidByText := true, laidKinds := [.data, .mapped], laidTests := true, laidLooks := .later }
def FormatSameUptoCardSaid : Prop := Claim7.holds Tryd.pinned (.plain (OpenSpec.upto formatSameSpec)) formatSameUptoCard

/-- THE SECOND FORM's CARD OF 'reckonerlaw15.FormatValue'. -/
def formatValueUptoCard : Claim7 := { stood := { row := formatValueUptoRow, standIns := [], harness := (true, "3e49350c4e781cd5a3be7373ed530386c07f2fe397ce6f63338e15e7324672dd"), looks := false }, kinds := [], alts := [], laidByText := true, laidKinds := [.data, .mapped], laidTests := true, laidLooks := .later }
def FormatValueUptoCardSaid : Prop := Claim7.holds Tryd.pinned (.plain (OpenSpec.upto formatValueSpec)) formatValueUptoCard

/-- THE SECOND FORM's CARD OF 'reckonerlaw15.FormatRises'. -/
def formatRisesUptoCard : Claim7 := { stood := { row := formatRisesUptoRow, standIns := [], harness := (true, "3e49350c4e781cd5a3be7373ed530386c07f2fe397ce6f63338e15e7324672dd"), looks := false }, kinds := [], alts := [], laidByText := true, laidKinds := [.data, .mapped], laidTests := true, laidLooks := .later }
def FormatRisesUptoCardSaid : Prop := Claim7.holds Tryd.pinned (.plain (OpenSpec.upto formatRisesSpec)) formatRisesUptoCard

/-- THE SECOND FORM's CARD OF 'reckonerlaw15.FormatOwn'. -/
def formatOwnUptoCard : Claim7 := { stood := { row := formatOwnUptoRow, standIns := [], harness := (true, "3e49350c4e781cd5a3be7373ed530386c07f2fe397ce6f63338e15e7324672dd"), looks := false }, kinds := [], alts := [], laidByText := true, laidKinds := [.data, .mapped], laidTests := true, laidLooks := .later }
def FormatOwnUptoCardSaid : Prop := Claim7.holds Tryd.pinned (.plain (OpenSpec.upto formatOwnSpec)) formatOwnUptoCard

/-- THE SECOND FORM's CARD OF 'reckonerlaw15.FormatBack'. -/
def formatBackUptoCard : Claim7 := { stood := { row := formatBackUptoRow, standIns := [], harness := (true, "3e49350c4e781cd5a3be7373ed530386c07f2fe397ce6f63338e15e7324672dd"), looks := false }, kinds := [], alts := [], laidByText := true, laidKinds := [.data, .mapped], laidTests := true, laidLooks := .later }
def FormatBackUptoCardSaid : Prop := Claim7.holds Tryd.pinned (.plain (OpenSpec.upto formatBackSpec)) formatBackUptoCard

/-- THE SECOND FORM's CARD OF 'reckonerlaw15.FormatOf'. -/
def formatOfUptoCard : Claim7 := { stood := { row := formatOfUptoRow, standIns := [], harness := (true, "3e49350c4e781cd5a3be7373ed530386c07f2fe397ce6f63338e15e7324672dd"), looks := false }, kinds := [], alts := [], laidByText := true, laidKinds := [.data, .mapped], laidTests := true, laidLooks := .later }
def FormatOfUptoCardSaid : Prop := Claim7.holds Tryd.pinned (.plain (OpenSpec.upto formatOfSpec)) formatOfUptoCard

/-- THE SECOND FORM's CARD OF 'reckonerlaw15.FormatThere'. -/
def formatThereUptoCard : Claim7 := { stood := { row := formatThereUptoRow, standIns := [], harness := (true, "3e49350c4e781cd5a3be7373ed530386c07f2fe397ce6f63338e15e7324672dd"), looks := false }, kinds := [], alts := [], laidByText := true, laidKinds := [.data, .mapped], laidTests := true, laidLooks := .later }
def FormatThereUptoCardSaid : Prop := Claim7.holds Tryd.pinned (.plain (OpenSpec.upto formatThereSpec)) formatThereUptoCard

/-- THE SECOND FORM's CARD OF 'reckonerlaw15.FormatLarge'. -/
def formatLargeUptoCard : Claim7 := { stood := { row := formatLargeUptoRow, standIns := [], harness := (true, "3e49350c4e781cd5a3be7373ed530386c07f2fe397ce6f63338e15e7324672dd"), looks := false }, kinds := [], alts := [], laidByText := true, laidKinds := [.data, .mapped], laidTests := true, laidLooks := .later }
def FormatLargeUptoCardSaid : Prop := Claim7.holds Tryd.pinned (.plain (OpenSpec.upto formatLargeSpec)) formatLargeUptoCard
end Rows
end Go.Proofs.YtplnaajoeoiieaaDoor
