/-
  DERIVED. GIVEN WITH THE SEED: THE CARDS: each row of YtlnfmngginihfaaGreatDoorRows.lean that lists a variable, with what it lists TIED to the program's text (the seventh form; the later family's looks); each row that meets fmt, with fmt's text TOLD by the authors' own Lean function (tested against real Go, not proved from fmt's source: count such statements apart). THE CARD IS WHAT COUNTS. Prove the row's statement (the work); the ties are given (YtlnfmngginihfaaGreatDoorTie.lean); close each card by the builder's one call (the guide's Derived/Test/ToyasCard.lean, 'card_holds'). Laid BY PROGRAM, IN A SANDBOX (cutbox-door.mjs). By AI agents, Wed Nov 11 2026. No macro, syntax, notation, axiom, sorry.
-/
import Derived.Test.YtlnfmngginihfaaGreatDoorRows
import GoSem.ClaimSeven
namespace Go.Proofs.YtlnfmngginihfaaGreatDoor
namespace Rows

/-- THE TIED CARD OF 'reckonerlaw21.OrderSorts'. -/
def orderSortsCard : Claim7 := { stood := { row := orderSortsRow, standIns := [], harness := (true, "a09fd143cc322b55feba8cbbbf7c1ee94d2653c14b9671c81ca5a8bbe7398b02"), looks := false }, kinds := [], alts := [], laidByText := true, laidKinds := [.data], laidTests := true, laidLooks := .later }
def OrderSortsCardSaid : Prop := Claim7.holds Tryz.pinned (.plain (OpenSpec.ofChange orderSortsSpec)) orderSortsCard

/-- THE SECOND FORM's CARD OF 'reckonerlaw21.OrderSorts'. -/
def orderSortsUptoCard : Claim7 := { stood := { row := orderSortsUptoRow, standIns := [], harness := (true, "a09fd143cc322b55feba8cbbbf7c1ee94d2653c14b9671c81ca5a8bbe7398b02"), looks := false }, kinds := [], alts := [], laidByText := true, laidKinds := [.data], laidTests := true, laidLooks := .later }
def OrderSortsUptoCardSaid : Prop := Claim7.holds Tryz.pinned (.plain (OpenSpec.upto orderSortsSpec)) orderSortsUptoCard
end Rows
end Go.Proofs.YtlnfmngginihfaaGreatDoor
