/-
  DERIVED. GIVEN WITH THE SEED: THE CARDS: each row of YtehlmacgjlgjaaaGreatDoorRows.lean that lists a variable, with what it lists TIED to the program's text (the seventh form; the later family's looks); each row that meets fmt, with fmt's text TOLD by the authors' own Lean function (tested against real Go, not proved from fmt's source: count such statements apart). THE CARD IS WHAT COUNTS. Prove the row's statement (the work); the ties are given (YtehlmacgjlgjaaaGreatDoorTie.lean); close each card by the builder's one call (the guide's Derived/Test/ToyasCard.lean, 'card_holds'). Laid BY PROGRAM, IN A SANDBOX (cutbox-door.mjs). By AI agents, Wed Nov 11 2026. No macro, syntax, notation, axiom, sorry.
-/
import Derived.Test.YtehlmacgjlgjaaaGreatDoorRows
import GoSem.ClaimSeven
namespace Go.Proofs.YtehlmacgjlgjaaaGreatDoor
namespace Rows

/-- THE TIED CARD OF 'reckonerlaw21.OrderScales'. -/
def orderScalesCard : Claim7 := { stood := { row := orderScalesRow, standIns := [], harness := (true, "1eb53f8279e37ce4bb349243012a5eef7372f1caf026a1665b944769508798f3"), looks := false }, kinds := [], alts := [], laidByText := true, laidKinds := [.data, .funcs], laidTests := true, laidLooks := .later }
def OrderScalesCardSaid : Prop := Claim7.holds Tryz.pinned (.plain (OpenSpec.ofChange orderScalesSpec)) orderScalesCard

/-- THE TIED CARD OF 'reckonerlaw21.OrderHalves'. -/
def orderHalvesCard : Claim7 := { stood := { row := orderHalvesRow, standIns := [], harness := (true, "1eb53f8279e37ce4bb349243012a5eef7372f1caf026a1665b944769508798f3"), looks := false }, kinds := [], alts := [], laidByText := true, laidKinds := [.data, .funcs], laidTests := true, laidLooks := .later }
def OrderHalvesCardSaid : Prop := Claim7.holds Tryz.pinned (.plain (OpenSpec.ofChange orderHalvesSpec)) orderHalvesCard

/-- THE TIED CARD OF 'reckonerlaw21.OrderSorts'. -/
def orderSortsCard : Claim7 := { stood := { row := orderSortsRow, standIns := [], harness := (true, "1eb53f8279e37ce4bb349243012a5eef7372f1caf026a1665b944769508798f3"), looks := false }, kinds := [], alts := [], laidByText := true, laidKinds := [.data], laidTests := true, laidLooks := .later }
def OrderSortsCardSaid : Prop := Claim7.holds Tryz.pinned (.plain (OpenSpec.ofChange orderSortsSpec)) orderSortsCard

/-- THE SECOND FORM's CARD OF 'reckonerlaw21.OrderScales'. -/
def orderScalesUptoCard : Claim7 := { stood := { row := orderScalesUptoRow, standIns := [], harness := (true, "1eb53f8279e37ce4bb349243012a5eef7372f1caf026a1665b944769508798f3"), looks := false }, kinds := [], alts := [], laidByText := true, laidKinds := [.data, .funcs], laidTests := true, laidLooks := .later }
def OrderScalesUptoCardSaid : Prop := Claim7.holds Tryz.pinned (.plain (OpenSpec.upto orderScalesSpec)) orderScalesUptoCard

/-- THE SECOND FORM's CARD OF 'reckonerlaw21.OrderHalves'. -/
def orderHalvesUptoCard : Claim7 := { stood := { row := orderHalvesUptoRow, standIns := [], harness := (true, "1eb53f8279e37ce4bb349243012a5eef7372f1caf026a1665b944769508798f3"), looks := false }, kinds := [], alts := [], laidByText := true, laidKinds := [.data, .funcs], laidTests := true, laidLooks := .later }
def OrderHalvesUptoCardSaid : Prop := Claim7.holds Tryz.pinned (.plain (OpenSpec.upto orderHalvesSpec)) orderHalvesUptoCard

/-- THE SECOND FORM's CARD OF 'reckonerlaw21.OrderSorts'. -/
def orderSortsUptoCard : Claim7 := { stood := { row := orderSortsUptoRow, standIns := [], harness := (true, "1eb53f8279e37ce4bb349243012a5eef7372f1caf026a1665b944769508798f3"), looks := false }, kinds := [], alts := [], laidByText := true, laidKinds := [.data], laidTests := true, laidLooks := .later }
def OrderSortsUptoCardSaid : Prop := Claim7.holds Tryz.pinned (.plain (OpenSpec.upto orderSortsSpec)) orderSortsUptoCard
end Rows
end Go.Proofs.YtehlmacgjlgjaaaGreatDoor
