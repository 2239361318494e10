/-
  DERIVED. GIVEN WITH THE SEED: THE CARDS: each row of YtcdgkhmiolhfdaaGreatDoorRows.lean that lists a variable, with what it lists TIED to the program's text (the seventh form; the later family's looks); each row that meets fmt, with fmt's text TOLD by the authors' own Lean function (tested against real Go, not proved from fmt's source: count such statements apart). THE CARD IS WHAT COUNTS. Prove the row's statement (the work); the ties are given (YtcdgkhmiolhfdaaGreatDoorTie.lean); close each card by the builder's one call (the guide's Derived/Test/ToyasCard.lean, 'card_holds'). Laid BY PROGRAM, IN A SANDBOX (cutbox-door.mjs). By AI agents, Wed Nov 11 2026. No macro, syntax, notation, axiom, sorry.
-/
import Derived.Test.YtcdgkhmiolhfdaaGreatDoorRows
import GoSem.ClaimSeven
namespace Go.Proofs.YtcdgkhmiolhfdaaGreatDoor
namespace Rows

/-- THE TIED CARD OF 'reckonerlaw21.OrderCompares'. -/
def orderComparesCard : Claim7 := { stood := { row := orderComparesRow, standIns := [], harness := (true, "c70b3022b0b2f4127861175f5837ffccef3f9ca2a58469f0f5cdce3b146ac0ce"), looks := false }, kinds := [], alts := [], laidByText := true, laidKinds := [.data], laidTests := true, laidLooks := .later }
def OrderComparesCardSaid : Prop := Claim7.holds Tryz.pinned (.plain (OpenSpec.ofChange orderComparesSpec)) orderComparesCard

/-- THE TIED CARD OF 'reckonerlaw21.OrderMins'. -/
def orderMinsCard : Claim7 := { stood := { row := orderMinsRow, standIns := [], harness := (true, "c70b3022b0b2f4127861175f5837ffccef3f9ca2a58469f0f5cdce3b146ac0ce"), looks := false }, kinds := [], alts := [], laidByText := true, laidKinds := [.data], laidTests := true, laidLooks := .later }
def OrderMinsCardSaid : Prop := Claim7.holds Tryz.pinned (.plain (OpenSpec.ofChange orderMinsSpec)) orderMinsCard

/-- THE TIED CARD OF 'reckonerlaw21.OrderNexts'. -/
def orderNextsCard : Claim7 := { stood := { row := orderNextsRow, standIns := [], harness := (true, "c70b3022b0b2f4127861175f5837ffccef3f9ca2a58469f0f5cdce3b146ac0ce"), looks := false }, kinds := [], alts := [], laidByText := true, laidKinds := [.data], laidTests := true, laidLooks := .later }
def OrderNextsCardSaid : Prop := Claim7.holds Tryz.pinned (.plain (OpenSpec.ofChange orderNextsSpec)) orderNextsCard

/-- THE TIED CARD OF 'reckonerlaw21.OrderSteps'. -/
def orderStepsCard : Claim7 := { stood := { row := orderStepsRow, standIns := [], harness := (true, "c70b3022b0b2f4127861175f5837ffccef3f9ca2a58469f0f5cdce3b146ac0ce"), looks := false }, kinds := [], alts := [], laidByText := true, laidKinds := [.data], laidTests := true, laidLooks := .later }
def OrderStepsCardSaid : Prop := Claim7.holds Tryz.pinned (.plain (OpenSpec.ofChange orderStepsSpec)) orderStepsCard

/-- THE TIED CARD OF 'reckonerlaw21.OrderCounts'. -/
def orderCountsCard : Claim7 := { stood := { row := orderCountsRow, standIns := [], harness := (true, "c70b3022b0b2f4127861175f5837ffccef3f9ca2a58469f0f5cdce3b146ac0ce"), looks := false }, kinds := [], alts := [], laidByText := true, laidKinds := [.data], laidTests := true, laidLooks := .later }
def OrderCountsCardSaid : Prop := Claim7.holds Tryz.pinned (.plain (OpenSpec.ofChange orderCountsSpec)) orderCountsCard

/-- THE SECOND FORM's CARD OF 'reckonerlaw21.OrderCompares'. -/
def orderComparesUptoCard : Claim7 := { stood := { row := orderComparesUptoRow, standIns := [], harness := (true, "c70b3022b0b2f4127861175f5837ffccef3f9ca2a58469f0f5cdce3b146ac0ce"), looks := false }, kinds := [], alts := [], laidByText := true, laidKinds := [.data], laidTests := true, laidLooks := .later }
def OrderComparesUptoCardSaid : Prop := Claim7.holds Tryz.pinned (.plain (OpenSpec.upto orderComparesSpec)) orderComparesUptoCard

/-- THE SECOND FORM's CARD OF 'reckonerlaw21.OrderMins'. -/
def orderMinsUptoCard : Claim7 := { stood := { row := orderMinsUptoRow, standIns := [], harness := (true, "c70b3022b0b2f4127861175f5837ffccef3f9ca2a58469f0f5cdce3b146ac0ce"), looks := false }, kinds := [], alts := [], laidByText := true, laidKinds := [.data], laidTests := true, laidLooks := .later }
def OrderMinsUptoCardSaid : Prop := Claim7.holds Tryz.pinned (.plain (OpenSpec.upto orderMinsSpec)) orderMinsUptoCard

/-- THE SECOND FORM's CARD OF 'reckonerlaw21.OrderNexts'. -/
def orderNextsUptoCard : Claim7 := { stood := { row := orderNextsUptoRow, standIns := [], harness := (true, "c70b3022b0b2f4127861175f5837ffccef3f9ca2a58469f0f5cdce3b146ac0ce"), looks := false }, kinds := [], alts := [], laidByText := true, laidKinds := [.data], laidTests := true, laidLooks := .later }
def OrderNextsUptoCardSaid : Prop := Claim7.holds Tryz.pinned (.plain (OpenSpec.upto orderNextsSpec)) orderNextsUptoCard

/-- THE SECOND FORM's CARD OF 'reckonerlaw21.OrderSteps'. -/
def orderStepsUptoCard : Claim7 := { stood := { row := orderStepsUptoRow, standIns := [], harness := (true, "c70b3022b0b2f4127861175f5837ffccef3f9ca2a58469f0f5cdce3b146ac0ce"), looks := false }, kinds := [], alts := [], laidByText := true, laidKinds := [.data], laidTests := true, laidLooks := .later }
def OrderStepsUptoCardSaid : Prop := Claim7.holds Tryz.pinned (.plain (OpenSpec.upto orderStepsSpec)) orderStepsUptoCard

/-- THE SECOND FORM's CARD OF 'reckonerlaw21.OrderCounts'. -/
def orderCountsUptoCard : Claim7 := { stood := { row := orderCountsUptoRow, standIns := [], harness := (true, "c70b3022b0b2f4127861175f5837ffccef3f9ca2a58469f0f5cdce3b146ac0ce"), looks := false }, kinds := [], alts := [], laidByText := true, laidKinds := [.data], laidTests := true, laidLooks := .later }
def OrderCountsUptoCardSaid : Prop := Claim7.holds Tryz.pinned (.plain (OpenSpec.upto orderCountsSpec)) orderCountsUptoCard
end Rows
end Go.Proofs.YtcdgkhmiolhfdaaGreatDoor
