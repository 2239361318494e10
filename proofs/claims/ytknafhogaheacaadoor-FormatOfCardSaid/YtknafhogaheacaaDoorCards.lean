/-
  DERIVED. GIVEN WITH THE SEED: THE CARDS: each row of YtknafhogaheacaaDoorRows.lean that lists a variable, with what it lists TIED to the program's text (the seventh form; the later family's looks); each row that meets fmt, with fmt's text TOLD by the authors' own Lean function (tested against real Go, not proved from fmt's source: count such statements apart). THE CARD IS WHAT COUNTS. Prove the row's statement (the work); the ties are given (YtknafhogaheacaaDoorTie.lean); close each card by the builder's one call (the guide's Derived/Test/ToyasCard.lean, 'card_holds'). Laid BY PROGRAM, IN A SANDBOX (cutbox-door.mjs). By AI agents, Wed Nov 11 2026. No macro, syntax, notation, axiom, sorry.
-/
import Derived.Test.YtknafhogaheacaaDoorRows
import GoSem.ClaimSeven
namespace Go.Proofs.YtknafhogaheacaaDoor
namespace Rows

/-- THE TIED CARD OF 'reckonerlaw15.FormatOf'. -/
def formatOfCard : Claim7 := { stood := { row := formatOfRow, standIns := [], harness := (true, "a210861992217f577ddf8265b4feb5296a2ec0b1a220637df52e6f585364b58b"), looks := false }, kinds := [], alts := [], laidByText := true, laidKinds := [.data, .mapped], laidTests := true, laidLooks := .later }
def FormatOfCardSaid : Prop := Claim7.holds Tryd.pinned (.plain (OpenSpec.ofChange formatOfSpec)) formatOfCard

/-- THE SECOND FORM's CARD OF 'reckonerlaw15.FormatOf'. -/
def formatOfUptoCard : Claim7 := { stood := { row := formatOfUptoRow, standIns := [], harness := (true, "a210861992217f577ddf8265b4feb5296a2ec0b1a220637df52e6f585364b58b"), looks := false }, kinds := [], alts := [], laidByText := true, laidKinds := [.data, .mapped], laidTests := true, laidLooks := .later }
def FormatOfUptoCardSaid : Prop := Claim7.holds Tryd.pinned (.plain (OpenSpec.upto formatOfSpec)) formatOfUptoCard
end Rows
end Go.Proofs.YtknafhogaheacaaDoor
