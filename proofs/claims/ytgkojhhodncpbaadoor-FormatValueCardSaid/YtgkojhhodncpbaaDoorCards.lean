/-
  DERIVED. GIVEN WITH THE SEED: THE CARDS: each row of YtgkojhhodncpbaaDoorRows.lean that lists a variable, with what it lists TIED to the program's text (the seventh form; the later family's looks); each row that meets fmt, with fmt's text TOLD by the authors' own Lean function (tested against real Go, not proved from fmt's source: count such statements apart). THE CARD IS WHAT COUNTS. Prove the row's statement (the work); the ties are given (YtgkojhhodncpbaaDoorTie.lean); close each card by the builder's one call (the guide's Derived/Test/ToyasCard.lean, 'card_holds'). Laid BY PROGRAM, IN A SANDBOX (cutbox-door.mjs). By AI agents, Wed Nov 11 2026. No macro, syntax, notation, axiom, sorry.
-/
import Derived.Test.YtgkojhhodncpbaaDoorRows
import GoSem.ClaimSeven
namespace Go.Proofs.YtgkojhhodncpbaaDoor
namespace Rows

/-- THE TIED CARD OF 'reckonerlaw15.FormatChecks'. -/
def formatChecksCard : Claim7 := { stood := { row := formatChecksRow, standIns := [], harness := (true, "7d7ea48a60afb0b1668b3a9e84631b5cce08725fec782921bea6ecd0cabecd75"), looks := false }, kinds := [], alts := [], laidByText := true, laidKinds := [.data, .mapped], laidTests := true, laidLooks := .later }
def FormatChecksCardSaid : Prop := Claim7.holds Tryd.pinned (.plain (OpenSpec.ofChange formatChecksSpec)) formatChecksCard

/-- THE TIED CARD OF 'reckonerlaw15.FormatValue'. -/
def formatValueCard : Claim7 := { stood := { row := formatValueRow, standIns := [], harness := (true, "7d7ea48a60afb0b1668b3a9e84631b5cce08725fec782921bea6ecd0cabecd75"), looks := false }, kinds := [], alts := [], laidByText := true, laidKinds := [.data, .mapped], laidTests := true, laidLooks := .later }
def FormatValueCardSaid : Prop := Claim7.holds Tryd.pinned (.plain (OpenSpec.ofChange formatValueSpec)) formatValueCard

/-- THE TIED CARD OF 'reckonerlaw15.FormatRises'. -/
def formatRisesCard : Claim7 := { stood := { row := formatRisesRow, standIns := [], harness := (true, "7d7ea48a60afb0b1668b3a9e84631b5cce08725fec782921bea6ecd0cabecd75"), looks := false }, kinds := [], alts := [], laidByText := true, laidKinds := [.data, .mapped], laidTests := true, laidLooks := .later }
def FormatRisesCardSaid : Prop := Claim7.holds Tryd.pinned (.plain (OpenSpec.ofChange formatRisesSpec)) formatRisesCard

/-- THE TIED CARD OF 'reckonerlaw15.FormatOwn'. -/
def formatOwnCard : Claim7 := { stood := { row := formatOwnRow, standIns := [], harness := (true, "7d7ea48a60afb0b1668b3a9e84631b5cce08725fec782921bea6ecd0cabecd75"), looks := false }, kinds := [], alts := [], laidByText := true, laidKinds := [.data, .mapped], laidTests := true, laidLooks := .later }
def FormatOwnCardSaid : Prop := Claim7.holds Tryd.pinned (.plain (OpenSpec.ofChange formatOwnSpec)) formatOwnCard

/-- THE TIED CARD OF 'reckonerlaw15.FormatOf'. -/
def formatOfCard : Claim7 := { stood := { row := formatOfRow, standIns := [], harness := (true, "7d7ea48a60afb0b1668b3a9e84631b5cce08725fec782921bea6ecd0cabecd75"), looks := false }, kinds := [], alts := [], laidByText := true, laidKinds := [.data, .mapped], laidTests := true, laidLooks := .later }
def FormatOfCardSaid : Prop := Claim7.holds Tryd.pinned (.plain (OpenSpec.ofChange formatOfSpec)) formatOfCard

/-- THE TIED CARD OF 'reckonerlaw15.FormatThere'. -/
def formatThereCard : Claim7 := { stood := { row := formatThereRow, standIns := [], harness := (true, "7d7ea48a60afb0b1668b3a9e84631b5cce08725fec782921bea6ecd0cabecd75"), looks := false }, kinds := [], alts := [], laidByText := true, laidKinds := [.data, .mapped], laidTests := true, laidLooks := .later }
def FormatThereCardSaid : Prop := Claim7.holds Tryd.pinned (.plain (OpenSpec.ofChange formatThereSpec)) formatThereCard

/-- THE TIED CARD OF 'reckonerlaw21.OrderOne'. -/
def orderOneCard : Claim7 := { stood := { row := orderOneRow, standIns := [], harness := (true, "7d7ea48a60afb0b1668b3a9e84631b5cce08725fec782921bea6ecd0cabecd75"), looks := false }, kinds := [], alts := [], laidByText := true, laidKinds := [.data], laidTests := true, laidLooks := .later }
def OrderOneCardSaid : Prop := Claim7.holds Tryd.pinned (.plain (OpenSpec.ofChange orderOneSpec)) orderOneCard

/-- THE TIED CARD OF 'reckonerlaw21.OrderBack'. -/
def orderBackCard : Claim7 := { stood := { row := orderBackRow, standIns := [], harness := (true, "7d7ea48a60afb0b1668b3a9e84631b5cce08725fec782921bea6ecd0cabecd75"), looks := false }, kinds := [], alts := [], laidByText := true, laidKinds := [.data], laidTests := true, laidLooks := .later }
def OrderBackCardSaid : Prop := Claim7.holds Tryd.pinned (.plain (OpenSpec.ofChange orderBackSpec)) orderBackCard

/-- THE SECOND FORM's CARD OF 'reckonerlaw15.FormatChecks'. -/
def formatChecksUptoCard : Claim7 := { stood := { row := formatChecksUptoRow, standIns := [], harness := (true, "7d7ea48a60afb0b1668b3a9e84631b5cce08725fec782921bea6ecd0cabecd75"), looks := false }, kinds := [], alts := [], laidByText := true, laidKinds := [.data, .mapped], laidTests := true, laidLooks := .later }
def FormatChecksUptoCardSaid : Prop := Claim7.holds Tryd.pinned (.plain (OpenSpec.upto formatChecksSpec)) formatChecksUptoCard

/-- THE SECOND FORM's CARD OF 'reckonerlaw15.FormatValue'. -/
def formatValueUptoCard : Claim7 := { stood := { row := formatValueUptoRow, standIns := [], harness := (true, "7d7ea48a60afb0b1668b3a9e84631b5cce08725fec782921bea6ecd0cabecd75"), looks := false }, kinds := [], alts := [], laidByText := true, laidKinds := [.data, .mapped], laidTests := true, laidLooks := .later }
def FormatValueUptoCardSaid : Prop := Claim7.holds Tryd.pinned (.plain (OpenSpec.upto formatValueSpec)) formatValueUptoCard

/-- THE SECOND FORM's CARD OF 'reckonerlaw15.FormatRises'. -/
def formatRisesUptoCard : Claim7 := { stood := { row := formatRisesUptoRow, standIns := [], harness := (true, "7d7ea48a60afb0b1668b3a9e84631b5cce08725fec782921bea6ecd0cabecd75"), looks := false }, kinds := [], alts := [], laidByText := true, laidKinds := [.data, .mapped], laidTests := true, laidLooks := .later }
def FormatRisesUptoCardSaid : Prop := Claim7.holds Tryd.pinned (.plain (OpenSpec.upto formatRisesSpec)) formatRisesUptoCard

/-- THE SECOND FORM's CARD OF 'reckonerlaw15.FormatOwn'. -/
def formatOwnUptoCard : Claim7 := { stood := { row := formatOwnUptoRow, standIns := [], harness := (true, "7d7ea48a60afb0b1668b3a9e84631b5cce08725fec782921bea6ecd0cabecd75"), looks := false }, kinds := [], alts := [], laidByText := true, laidKinds := [.data, .mapped], laidTests := true, laidLooks := .later }
def FormatOwnUptoCardSaid : Prop := Claim7.holds Tryd.pinned (.plain (OpenSpec.upto formatOwnSpec)) formatOwnUptoCard

/-- THE SECOND FORM's CARD OF 'reckonerlaw15.FormatOf'. -/
def formatOfUptoCard : Claim7 := { stood := { row := formatOfUptoRow, standIns := [], harness := (true, "7d7ea48a60afb0b1668b3a9e84631b5cce08725fec782921bea6ecd0cabecd75"), looks := false }, kinds := [], alts := [], laidByText := true, laidKinds := [.data, .mapped], laidTests := true, laidLooks := .later }
def FormatOfUptoCardSaid : Prop := Claim7.holds Tryd.pinned (.plain (OpenSpec.upto formatOfSpec)) formatOfUptoCard

/-- THE SECOND FORM's CARD OF 'reckonerlaw15.FormatThere'. -/
def formatThereUptoCard : Claim7 := { stood := { row := formatThereUptoRow, standIns := [], harness := (true, "7d7ea48a60afb0b1668b3a9e84631b5cce08725fec782921bea6ecd0cabecd75"), looks := false }, kinds := [], alts := [], laidByText := true, laidKinds := [.data, .mapped], laidTests := true, laidLooks := .later }
def FormatThereUptoCardSaid : Prop := Claim7.holds Tryd.pinned (.plain (OpenSpec.upto formatThereSpec)) formatThereUptoCard

/-- THE SECOND FORM's CARD OF 'reckonerlaw21.OrderOne'. -/
def orderOneUptoCard : Claim7 := { stood := { row := orderOneUptoRow, standIns := [], harness := (true, "7d7ea48a60afb0b1668b3a9e84631b5cce08725fec782921bea6ecd0cabecd75"), looks := false }, kinds := [], alts := [], laidByText := true, laidKinds := [.data], laidTests := true, laidLooks := .later }
def OrderOneUptoCardSaid : Prop := Claim7.holds Tryd.pinned (.plain (OpenSpec.upto orderOneSpec)) orderOneUptoCard

/-- THE SECOND FORM's CARD OF 'reckonerlaw21.OrderBack'. -/
def orderBackUptoCard : Claim7 := { stood := { row := orderBackUptoRow, standIns := [], harness := (true, "7d7ea48a60afb0b1668b3a9e84631b5cce08725fec782921bea6ecd0cabecd75"), looks := false }, kinds := [], alts := [], laidByText := true, laidKinds := [.data], laidTests := true, laidLooks := .later }
def OrderBackUptoCardSaid : Prop := Claim7.holds Tryd.pinned (.plain (OpenSpec.upto orderBackSpec)) orderBackUptoCard
end Rows
end Go.Proofs.YtgkojhhodncpbaaDoor
