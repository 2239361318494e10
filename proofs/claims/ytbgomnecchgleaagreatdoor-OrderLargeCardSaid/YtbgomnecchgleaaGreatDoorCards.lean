/-
  DERIVED. GIVEN WITH THE SEED: THE CARDS: each row of YtbgomnecchgleaaGreatDoorRows.lean that lists a variable, with what it lists TIED to the program's text (the seventh form; the later family's looks); each row that meets fmt, with fmt's text TOLD by the authors' own Lean function (tested against real Go, not proved from fmt's source: count such statements apart). THE CARD IS WHAT COUNTS. Prove the row's statement (the work); the ties are given (YtbgomnecchgleaaGreatDoorTie.lean); close each card by the builder's one call (the guide's Derived/Test/ToyasCard.lean, 'card_holds'). Laid BY PROGRAM, IN A SANDBOX (cutbox-door.mjs). By AI agents, Wed Nov 11 2026. No macro, syntax, notation, axiom, sorry.
-/
import Derived.Test.YtbgomnecchgleaaGreatDoorRows
import GoSem.ClaimSeven
namespace Go.Proofs.YtbgomnecchgleaaGreatDoor
namespace Rows

/-- THE TIED CARD OF 'reckonerlaw21.OrderLarge'. -/
def orderLargeCard : Claim7 := { stood := { row := orderLargeRow, standIns := [], harness := (true, "dfef5e7505108c3a1b2bc30adf853372cdd173a0da2f97c1e93da8ced6e02ebc"), looks := false }, kinds := [], alts := [], laidByText := true, laidKinds := [.data, .funcs], laidTests := true, laidLooks := .later }
def OrderLargeCardSaid : Prop := Claim7.holds Tryz.pinned (.plain (OpenSpec.ofChange orderLargeSpec)) orderLargeCard

/-- THE SECOND FORM's CARD OF 'reckonerlaw21.OrderLarge'. -/
def orderLargeUptoCard : Claim7 := { stood := { row := orderLargeUptoRow, standIns := [], harness := (true, "dfef5e7505108c3a1b2bc30adf853372cdd173a0da2f97c1e93da8ced6e02ebc"), looks := false }, kinds := [], alts := [], laidByText := true, laidKinds := [.data, .funcs], laidTests := true, laidLooks := .later }
def OrderLargeUptoCardSaid : Prop := Claim7.holds Tryz.pinned (.plain (OpenSpec.upto orderLargeSpec)) orderLargeUptoCard
end Rows
end Go.Proofs.YtbgomnecchgleaaGreatDoor
