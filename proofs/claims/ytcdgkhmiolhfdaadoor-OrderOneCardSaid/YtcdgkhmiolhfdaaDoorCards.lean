/-
  DERIVED. GIVEN WITH THE SEED: THE CARDS: each row of YtcdgkhmiolhfdaaDoorRows.lean that lists a variable, with what it lists TIED to the program's text (the seventh form; the later family's looks); each row that meets fmt, with fmt's text TOLD by the authors' own Lean function (tested against real Go, not proved from fmt's source: count such statements apart). THE CARD IS WHAT COUNTS. Prove the row's statement (the work); the ties are given (YtcdgkhmiolhfdaaDoorTie.lean); close each card by the builder's one call (the guide's Derived/Test/ToyasCard.lean, 'card_holds'). Laid BY PROGRAM, IN A SANDBOX (cutbox-door.mjs). By AI agents, Wed Nov 11 2026. No macro, syntax, notation, axiom, sorry.
-/
import Derived.Test.YtcdgkhmiolhfdaaDoorRows
import GoSem.ClaimSeven
namespace Go.Proofs.YtcdgkhmiolhfdaaDoor
namespace Rows

/-- THE TIED CARD OF 'reckonerlaw15.FormatOf'. -/
def formatOfCard : Claim7 := { stood := { row := formatOfRow, standIns := [], harness := (true, "d616ef68ce284b9696c3f4f572eba69942bb667a9041d9893f48ebd92b4ff0fe"), looks := false }, kinds := [], alts := [], laidByText := true, laidKinds := [.data, .mapped], laidTests := true, laidLooks := .later }
def FormatOfCardSaid : Prop := Claim7.holds Tryd.pinned (.plain (OpenSpec.ofChange formatOfSpec)) formatOfCard

/-- THE TIED CARD OF 'reckonerlaw21.OrderOne'. -/
def orderOneCard : Claim7 := { stood := { row := orderOneRow, standIns := [], harness := (true, "d616ef68ce284b9696c3f4f572eba69942bb667a9041d9893f48ebd92b4ff0fe"), looks := false }, kinds := [], alts := [], laidByText := true, laidKinds := [.data], laidTests := true, laidLooks := .later }
def OrderOneCardSaid : Prop := Claim7.holds Tryd.pinned (.plain (OpenSpec.ofChange orderOneSpec)) orderOneCard

/-- THE TIED CARD OF 'reckonerlaw21.OrderBack'. -/
def orderBackCard : Claim7 := { stood := { row := orderBackRow, standIns := [], harness := (true, "d616ef68ce284b9696c3f4f572eba69942bb667a9041d9893f48ebd92b4ff0fe"), looks := false }, kinds := [], alts := [], laidByText := true, laidKinds := [.data], laidTests := true, laidLooks := .later }
def OrderBackCardSaid : Prop := Claim7.holds Tryd.pinned (.plain (OpenSpec.ofChange orderBackSpec)) orderBackCard

/-- THE SECOND FORM's CARD OF 'reckonerlaw15.FormatOf'. -/
def formatOfUptoCard : Claim7 := { stood := { row := formatOfUptoRow, standIns := [], harness := (true, "d616ef68ce284b9696c3f4f572eba69942bb667a9041d9893f48ebd92b4ff0fe"), looks := false }, kinds := [], alts := [], laidByText := true, laidKinds := [.data, .mapped], laidTests := true, laidLooks := .later }
def FormatOfUptoCardSaid : Prop := Claim7.holds Tryd.pinned (.plain (OpenSpec.upto formatOfSpec)) formatOfUptoCard

/-- THE SECOND FORM's CARD OF 'reckonerlaw21.OrderOne'. -/
def orderOneUptoCard : Claim7 := { stood := { row := orderOneUptoRow, standIns := [], harness := (true, "d616ef68ce284b9696c3f4f572eba69942bb667a9041d9893f48ebd92b4ff0fe"), looks := false }, kinds := [], alts := [], laidByText := true, laidKinds := [.data], laidTests := true, laidLooks := .later }
def OrderOneUptoCardSaid : Prop := Claim7.holds Tryd.pinned (.plain (OpenSpec.upto orderOneSpec)) orderOneUptoCard

/-- THE SECOND FORM's CARD OF 'reckonerlaw21.OrderBack'. -/
def orderBackUptoCard : Claim7 := { stood := { row := orderBackUptoRow, standIns := [], harness := (true, "d616ef68ce284b9696c3f4f572eba69942bb667a9041d9893f48ebd92b4ff0fe"), looks := false }, kinds := [], alts := [], laidByText := true, laidKinds := [.data], laidTests := true, laidLooks := .later }
def OrderBackUptoCardSaid : Prop := Claim7.holds Tryd.pinned (.plain (OpenSpec.upto orderBackSpec)) orderBackUptoCard
end Rows
end Go.Proofs.YtcdgkhmiolhfdaaDoor
