/-
  NARROWER THAN 'FOR EVERY INPUT', by the rows' own cells (each row's printed sentence says how): FormatNames: laid · FormatEncodes: laid · FormatDecodes: laid · FormatCanonical: laid · FormatChecks: laid · FormatHolds: laid · FormatSame: laid · FormatValue: laid · FormatRises: laid · FormatOwn: laid · FormatBack: laid · FormatOf: laid · FormatThere: laid · FormatLarge: laid.
  DERIVED. THE GIVEN ROWS OF THIS SEAT. 14 by the template 'for every input the law returns true; each argument reads behind the call as it read before'; 0 by the template 'total and deterministic' (their statements: YtplnaajoeoiieaaDoorTotals.lean).
  GIVEN WITH THE SEED: the statements are not yours to turn. If you find one false, say at which input.
  Laid BY PROGRAM, IN A SANDBOX (cutbox-rows.mjs): the forced cells as the released guide's own fill.sh prints them over the translation b5991f119f137a1c… (all of the seat's roots in one cut). By AI agents, Wed Nov 11 2026. No macro, syntax, notation, axiom, sorry.
-/
import Derived.Test.YtplnaajoeoiieaaDoorChecked
import GoSem.Claim
import GoSem.ClaimJoined
import GoSem.ClaimMapViews
import Derived.JoinedTies
import Derived.KernelRfl
namespace Go.Proofs.YtplnaajoeoiieaaDoor
/- THE CELL 'sum', in the pinned program and in every row, IS THE sha256 OF THE DUMP (.gsa) THAT YtplnaajoeoiieaaDoorProg.lean LOADS. Nothing in Lean hashes anything: it is a label: what it is worth is what the hold of that sum in a sandbox is worth. -/
noncomputable def Tryd.pinned : Pinned := { name := "ytplnaajoeoiieaadoor", sum := "b5991f119f137a1c4fcae77c40a1b319798d7db93d22af579d7e739f7432caca", checked := Tryd.checked }
namespace Rows
def none {H : Type} : Left H := { results := [], args := [] }

/- WHAT THE LISTED PACKAGE-LEVEL VARIABLES READ AS WHEN THE CALL BEGINS. Each datum BY PROGRAM (the guide's laid-datum.mjs) off the statement by which the dump's own 'gosem.cut.vars' lays the variable. In a bare row this is a premise. The card (YtplnaajoeoiieaaDoorCards.lean) ties it to the program's text. -/
def laid_math_bits_deBruijn64tab {H : Type} : DataW H := .agg [.lit (.int .u8 0), .lit (.int .u8 1), .lit (.int .u8 56), .lit (.int .u8 2), .lit (.int .u8 57), .lit (.int .u8 49), .lit (.int .u8 28), .lit (.int .u8 3), .lit (.int .u8 61), .lit (.int .u8 58), .lit (.int .u8 42), .lit (.int .u8 50), .lit (.int .u8 38), .lit (.int .u8 29), .lit (.int .u8 17), .lit (.int .u8 4), .lit (.int .u8 62), .lit (.int .u8 47), .lit (.int .u8 59), .lit (.int .u8 36), .lit (.int .u8 45), .lit (.int .u8 43), .lit (.int .u8 51), .lit (.int .u8 22), .lit (.int .u8 53), .lit (.int .u8 39), .lit (.int .u8 33), .lit (.int .u8 30), .lit (.int .u8 24), .lit (.int .u8 18), .lit (.int .u8 12), .lit (.int .u8 5), .lit (.int .u8 63), .lit (.int .u8 55), .lit (.int .u8 48), .lit (.int .u8 27), .lit (.int .u8 60), .lit (.int .u8 41), .lit (.int .u8 37), .lit (.int .u8 16), .lit (.int .u8 46), .lit (.int .u8 35), .lit (.int .u8 44), .lit (.int .u8 21), .lit (.int .u8 52), .lit (.int .u8 32), .lit (.int .u8 23), .lit (.int .u8 11), .lit (.int .u8 54), .lit (.int .u8 26), .lit (.int .u8 40), .lit (.int .u8 15), .lit (.int .u8 34), .lit (.int .u8 20), .lit (.int .u8 31), .lit (.int .u8 10), .lit (.int .u8 25), .lit (.int .u8 14), .lit (.int .u8 19), .lit (.int .u8 9), .lit (.int .u8 13), .lit (.int .u8 8), .lit (.int .u8 7), .lit (.int .u8 6)]
def laid_reckoner_format_named {H : Type} : DataW H := .map [(.string [98, 102, 108, 111, 97, 116], .agg [.lit (.int .i64 8), .lit (.int .i64 8)]), (.string [100, 111, 117, 98, 108, 101], .agg [.lit (.int .i64 11), .lit (.int .i64 53)]), (.string [101, 120, 116, 101, 110, 100, 101, 100], .agg [.lit (.int .i64 15), .lit (.int .i64 64)]), (.string [104, 97, 108, 102], .agg [.lit (.int .i64 5), .lit (.int .i64 11)]), (.string [109, 105, 110, 105], .agg [.lit (.int .i64 4), .lit (.int .i64 4)]), (.string [113, 117, 97, 100], .agg [.lit (.int .i64 15), .lit (.int .i64 113)]), (.string [115, 105, 110, 103, 108, 101], .agg [.lit (.int .i64 8), .lit (.int .i64 24)])]

/-- 'reckonerlaw15.FormatNames': WHATEVER THE INPUT: true; the input reads as it did. -/
def formatNamesSpec : ChangeSpec := { name := "formatNames", fn := fun _ => fun
  | [d] => { results := [.lit (.bool true)], args := [d] }
  | _ => none }
def formatNamesRow : OpenClaim := { program := "ytplnaajoeoiieaadoor", sum := "b5991f119f137a1c4fcae77c40a1b319798d7db93d22af579d7e739f7432caca", func := "reckoner/reckonerlaw15.FormatNames", spec := "formatNames", inPlace := ["math/bits.Sub64", "math/bits.Add64"], named := ["reckoner/format.named", "math/bits.deBruijn64tab"], apart := false, laid := [("math/bits.deBruijn64tab", laid_math_bits_deBruijn64tab), ("reckoner/format.named", laid_reckoner_format_named)] }
def FormatNamesSaid : Prop := formatNamesRow.holds Tryd.pinned (OpenSpec.ofChange formatNamesSpec)

/-- ITS FALSE NEIGHBOUR: 'it returns false'. Refute it at one input. -/
def formatNamesWrong : ChangeSpec := { name := "formatNames", fn := fun _ => fun
  | [d] => { results := [.lit (.bool false)], args := [d] }
  | _ => none }
def FormatNamesWrongFalsely : Prop := formatNamesRow.holds Tryd.pinned (OpenSpec.ofChange formatNamesWrong)

/-- 'reckonerlaw15.FormatEncodes': WHATEVER THE INPUT: true; the input reads as it did. -/
def formatEncodesSpec : ChangeSpec := { name := "formatEncodes", fn := fun _ => fun
  | [d1, d2] => { results := [.lit (.bool true)], args := [d1, d2] }
  | _ => none }
def formatEncodesRow : OpenClaim := { program := "ytplnaajoeoiieaadoor", sum := "b5991f119f137a1c4fcae77c40a1b319798d7db93d22af579d7e739f7432caca", func := "reckoner/reckonerlaw15.FormatEncodes", spec := "formatEncodes", inPlace := ["math/bits.Sub64", "math/bits.Add64"], named := ["reckoner/format.named", "math/bits.deBruijn64tab"], apart := false, laid := [("math/bits.deBruijn64tab", laid_math_bits_deBruijn64tab), ("reckoner/format.named", laid_reckoner_format_named)] }
def FormatEncodesSaid : Prop := formatEncodesRow.holds Tryd.pinned (OpenSpec.ofChange formatEncodesSpec)

/-- ITS FALSE NEIGHBOUR: 'it returns false'. Refute it at one input. -/
def formatEncodesWrong : ChangeSpec := { name := "formatEncodes", fn := fun _ => fun
  | [d1, d2] => { results := [.lit (.bool false)], args := [d1, d2] }
  | _ => none }
def FormatEncodesWrongFalsely : Prop := formatEncodesRow.holds Tryd.pinned (OpenSpec.ofChange formatEncodesWrong)

/-- 'reckonerlaw15.FormatDecodes': WHATEVER THE INPUT: true; the input reads as it did. -/
def formatDecodesSpec : ChangeSpec := { name := "formatDecodes", fn := fun _ => fun
  | [d1, d2] => { results := [.lit (.bool true)], args := [d1, d2] }
  | _ => none }
def formatDecodesRow : OpenClaim := { program := "ytplnaajoeoiieaadoor", sum := "b5991f119f137a1c4fcae77c40a1b319798d7db93d22af579d7e739f7432caca", func := "reckoner/reckonerlaw15.FormatDecodes", spec := "formatDecodes", inPlace := ["math/bits.Sub64", "math/bits.Add64"], named := ["reckoner/format.named", "math/bits.deBruijn64tab"], apart := false, laid := [("math/bits.deBruijn64tab", laid_math_bits_deBruijn64tab), ("reckoner/format.named", laid_reckoner_format_named)] }
def FormatDecodesSaid : Prop := formatDecodesRow.holds Tryd.pinned (OpenSpec.ofChange formatDecodesSpec)

/-- ITS FALSE NEIGHBOUR: 'it returns false'. Refute it at one input. -/
def formatDecodesWrong : ChangeSpec := { name := "formatDecodes", fn := fun _ => fun
  | [d1, d2] => { results := [.lit (.bool false)], args := [d1, d2] }
  | _ => none }
def FormatDecodesWrongFalsely : Prop := formatDecodesRow.holds Tryd.pinned (OpenSpec.ofChange formatDecodesWrong)

/-- 'reckonerlaw15.FormatCanonical': WHATEVER THE INPUT: true; the input reads as it did. -/
def formatCanonicalSpec : ChangeSpec := { name := "formatCanonical", fn := fun _ => fun
  | [d] => { results := [.lit (.bool true)], args := [d] }
  | _ => none }
def formatCanonicalRow : OpenClaim := { program := "ytplnaajoeoiieaadoor", sum := "b5991f119f137a1c4fcae77c40a1b319798d7db93d22af579d7e739f7432caca", func := "reckoner/reckonerlaw15.FormatCanonical", spec := "formatCanonical", inPlace := ["math/bits.Sub64", "math/bits.Add64"], named := ["reckoner/format.named", "math/bits.deBruijn64tab"], apart := false, laid := [("math/bits.deBruijn64tab", laid_math_bits_deBruijn64tab), ("reckoner/format.named", laid_reckoner_format_named)] }
def FormatCanonicalSaid : Prop := formatCanonicalRow.holds Tryd.pinned (OpenSpec.ofChange formatCanonicalSpec)

/-- ITS FALSE NEIGHBOUR: 'it returns false'. Refute it at one input. -/
def formatCanonicalWrong : ChangeSpec := { name := "formatCanonical", fn := fun _ => fun
  | [d] => { results := [.lit (.bool false)], args := [d] }
  | _ => none }
def FormatCanonicalWrongFalsely : Prop := formatCanonicalRow.holds Tryd.pinned (OpenSpec.ofChange formatCanonicalWrong)

/-- 'reckonerlaw15.FormatChecks': WHATEVER THE INPUT: true; the input reads as it did. -/
def formatChecksSpec : ChangeSpec := { name := "formatChecks", fn := fun _ => fun
  | [d] => { results := [.lit (.bool true)], args := [d] }
  | _ => none }
def formatChecksRow : OpenClaim := { program := "ytplnaajoeoiieaadoor", sum := "b5991f119f137a1c4fcae77c40a1b319798d7db93d22af579d7e739f7432caca", func := "reckoner/reckonerlaw15.FormatChecks", spec := "formatChecks", inPlace := ["math/bits.Sub64", "math/bits.Add64"], unfollowed := true, recurses := true, named := ["reckoner/format.named", "math/bits.deBruijn64tab"], apart := false, laid := [("math/bits.deBruijn64tab", laid_math_bits_deBruijn64tab), ("reckoner/format.named", laid_reckoner_format_named)] }
def FormatChecksSaid : Prop := formatChecksRow.holds Tryd.pinned (OpenSpec.ofChange formatChecksSpec)

/-- ITS FALSE NEIGHBOUR: 'it returns false'. Refute it at one input. -/
def formatChecksWrong : ChangeSpec := { name := "formatChecks", fn := fun _ => fun
  | [d] => { results := [.lit (.bool false)], args := [d] }
  | _ => none }
def FormatChecksWrongFalsely : Prop := formatChecksRow.holds Tryd.pinned (OpenSpec.ofChange formatChecksWrong)

/-- 'reckonerlaw15.FormatHolds': WHATEVER THE INPUT: true; the input reads as it did. -/
def formatHoldsSpec : ChangeSpec := { name := "formatHolds", fn := fun _ => fun
  | [d1, d2] => { results := [.lit (.bool true)], args := [d1, d2] }
  | _ => none }
def formatHoldsRow : OpenClaim := { program := "ytplnaajoeoiieaadoor", sum := "b5991f119f137a1c4fcae77c40a1b319798d7db93d22af579d7e739f7432caca", func := "reckoner/reckonerlaw15.FormatHolds", spec := "formatHolds", inPlace := ["math/bits.Sub64", "math/bits.Add64"], named := ["reckoner/format.named", "math/bits.deBruijn64tab"], apart := false, laid := [("math/bits.deBruijn64tab", laid_math_bits_deBruijn64tab), ("reckoner/format.named", laid_reckoner_format_named)] }
def FormatHoldsSaid : Prop := formatHoldsRow.holds Tryd.pinned (OpenSpec.ofChange formatHoldsSpec)

/-- ITS FALSE NEIGHBOUR: 'it returns false'. Refute it at one input. -/
def formatHoldsWrong : ChangeSpec := { name := "formatHolds", fn := fun _ => fun
  | [d1, d2] => { results := [.lit (.bool false)], args := [d1, d2] }
  | _ => none }
def FormatHoldsWrongFalsely : Prop := formatHoldsRow.holds Tryd.pinned (OpenSpec.ofChange formatHoldsWrong)

/-- 'reckonerlaw15.FormatSame': WHATEVER THE INPUT: true; the input reads as it did. -/
def formatSameSpec : ChangeSpec := { name := "formatSame", fn := fun _ => fun
  | [d1, d2] => { results := [.lit (.bool true)], args := [d1, d2] }
  | _ => none }
def formatSameRow : OpenClaim := { program := "ytplnaajoeoiieaadoor", sum := "b5991f119f137a1c4fcae77c40a1b319798d7db93d22af579d7e739f7432caca", func := "reckoner/reckonerlaw15.FormatSame", spec := "formatSame", inPlace := ["math/bits.Sub64", "math/bits.Add64"], named := ["reckoner/format.named", "math/bits.deBruijn64tab"], apart := false, laid := [("math/bits.deBruijn64tab", laid_math_bits_deBruijn64tab), ("reckoner/format.named", laid_reckoner_format_named)] }
def FormatSameSaid : Prop := formatSameRow.holds Tryd.pinned (OpenSpec.ofChange formatSameSpec)

/-- ITS FALSE NEIGHBOUR: 'it returns false'. Refute it at one input. -/
def formatSameWrong : ChangeSpec := { name := "formatSame", fn := fun _ => fun
  | [d1, d2] => { results := [.lit (.bool false)], args := [d1, d2] }
  | _ => none }
def FormatSameWrongFalsely : Prop := formatSameRow.holds Tryd.pinned (OpenSpec.ofChange formatSameWrong)

/-- 'reckonerlaw15.FormatValue': WHATEVER THE INPUT: true; the input reads as it did. -/
def formatValueSpec : ChangeSpec := { name := "formatValue", fn := fun _ => fun
  | [d] => { results := [.lit (.bool true)], args := [d] }
  | _ => none }
def formatValueRow : OpenClaim := { program := "ytplnaajoeoiieaadoor", sum := "b5991f119f137a1c4fcae77c40a1b319798d7db93d22af579d7e739f7432caca", func := "reckoner/reckonerlaw15.FormatValue", spec := "formatValue", inPlace := ["math/bits.Sub64", "math/bits.Add64"], named := ["reckoner/format.named", "math/bits.deBruijn64tab"], apart := false, laid := [("math/bits.deBruijn64tab", laid_math_bits_deBruijn64tab), ("reckoner/format.named", laid_reckoner_format_named)] }
def FormatValueSaid : Prop := formatValueRow.holds Tryd.pinned (OpenSpec.ofChange formatValueSpec)

/-- ITS FALSE NEIGHBOUR: 'it returns false'. Refute it at one input. -/
def formatValueWrong : ChangeSpec := { name := "formatValue", fn := fun _ => fun
  | [d] => { results := [.lit (.bool false)], args := [d] }
  | _ => none }
def FormatValueWrongFalsely : Prop := formatValueRow.holds Tryd.pinned (OpenSpec.ofChange formatValueWrong)

/-- 'reckonerlaw15.FormatRises': WHATEVER THE INPUT: true; the input reads as it did. -/
def formatRisesSpec : ChangeSpec := { name := "formatRises", fn := fun _ => fun
  | [d1, d2, d3] => { results := [.lit (.bool true)], args := [d1, d2, d3] }
  | _ => none }
def formatRisesRow : OpenClaim := { program := "ytplnaajoeoiieaadoor", sum := "b5991f119f137a1c4fcae77c40a1b319798d7db93d22af579d7e739f7432caca", func := "reckoner/reckonerlaw15.FormatRises", spec := "formatRises", inPlace := ["math/bits.Sub64", "math/bits.Add64"], named := ["reckoner/format.named", "math/bits.deBruijn64tab"], apart := false, laid := [("math/bits.deBruijn64tab", laid_math_bits_deBruijn64tab), ("reckoner/format.named", laid_reckoner_format_named)] }
def FormatRisesSaid : Prop := formatRisesRow.holds Tryd.pinned (OpenSpec.ofChange formatRisesSpec)

/-- ITS FALSE NEIGHBOUR: 'it returns false'. Refute it at one input. -/
def formatRisesWrong : ChangeSpec := { name := "formatRises", fn := fun _ => fun
  | [d1, d2, d3] => { results := [.lit (.bool false)], args := [d1, d2, d3] }
  | _ => none }
def FormatRisesWrongFalsely : Prop := formatRisesRow.holds Tryd.pinned (OpenSpec.ofChange formatRisesWrong)

/-- 'reckonerlaw15.FormatOwn': WHATEVER THE INPUT: true; the input reads as it did. -/
def formatOwnSpec : ChangeSpec := { name := "formatOwn", fn := fun _ => fun
  | [d1, d2] => { results := [.lit (.bool true)], args := [d1, d2] }
  | _ => none }
def formatOwnRow : OpenClaim := { program := "ytplnaajoeoiieaadoor", sum := "b5991f119f137a1c4fcae77c40a1b319798d7db93d22af579d7e739f7432caca", func := "reckoner/reckonerlaw15.FormatOwn", spec := "formatOwn", inPlace := ["math/bits.Sub64", "math/bits.Add64"], named := ["reckoner/format.named", "math/bits.deBruijn64tab"], apart := false, laid := [("math/bits.deBruijn64tab", laid_math_bits_deBruijn64tab), ("reckoner/format.named", laid_reckoner_format_named)] }
def FormatOwnSaid : Prop := formatOwnRow.holds Tryd.pinned (OpenSpec.ofChange formatOwnSpec)

/-- ITS FALSE NEIGHBOUR: 'it returns false'. Refute it at one input. -/
def formatOwnWrong : ChangeSpec := { name := "formatOwn", fn := fun _ => fun
  | [d1, d2] => { results := [.lit (.bool false)], args := [d1, d2] }
  | _ => none }
def FormatOwnWrongFalsely : Prop := formatOwnRow.holds Tryd.pinned (OpenSpec.ofChange formatOwnWrong)

/-- 'reckonerlaw15.FormatBack': WHATEVER THE INPUT: true; the input reads as it did. -/
def formatBackSpec : ChangeSpec := { name := "formatBack", fn := fun _ => fun
  | [d1, d2] => { results := [.lit (.bool true)], args := [d1, d2] }
  | _ => none }
def formatBackRow : OpenClaim := { program := "ytplnaajoeoiieaadoor", sum := "b5991f119f137a1c4fcae77c40a1b319798d7db93d22af579d7e739f7432caca", func := "reckoner/reckonerlaw15.FormatBack", spec := "formatBack", inPlace := ["math/bits.Sub64", "math/bits.Add64"], named := ["reckoner/format.named", "math/bits.deBruijn64tab"], apart := false, laid := [("math/bits.deBruijn64tab", laid_math_bits_deBruijn64tab), ("reckoner/format.named", laid_reckoner_format_named)] }
def FormatBackSaid : Prop := formatBackRow.holds Tryd.pinned (OpenSpec.ofChange formatBackSpec)

/-- ITS FALSE NEIGHBOUR: 'it returns false'. Refute it at one input. -/
def formatBackWrong : ChangeSpec := { name := "formatBack", fn := fun _ => fun
  | [d1, d2] => { results := [.lit (.bool false)], args := [d1, d2] }
  | _ => none }
def FormatBackWrongFalsely : Prop := formatBackRow.holds Tryd.pinned (OpenSpec.ofChange formatBackWrong)

/-- 'reckonerlaw15.FormatOf': WHATEVER THE INPUT: true; the input reads as it did. -/
def formatOfSpec : ChangeSpec := { name := "formatOf", fn := fun _ => fun
  | [d] => { results := [.lit (.bool true)], args := [d] }
  | _ => none }
def formatOfRow : OpenClaim := { program := "ytplnaajoeoiieaadoor", sum := "b5991f119f137a1c4fcae77c40a1b319798d7db93d22af579d7e739f7432caca", func := "reckoner/reckonerlaw15.FormatOf", spec := "formatOf", inPlace := ["math/bits.Sub64", "math/bits.Add64"], named := ["reckoner/format.named", "math/bits.deBruijn64tab", "math/bits.divideError", "math/bits.overflowError"], apart := false, laid := [("math/bits.deBruijn64tab", laid_math_bits_deBruijn64tab), ("reckoner/format.named", laid_reckoner_format_named)] }
def FormatOfSaid : Prop := formatOfRow.holds Tryd.pinned (OpenSpec.ofChange formatOfSpec)

/-- ITS FALSE NEIGHBOUR: 'it returns false'. Refute it at one input. -/
def formatOfWrong : ChangeSpec := { name := "formatOf", fn := fun _ => fun
  | [d] => { results := [.lit (.bool false)], args := [d] }
  | _ => none }
def FormatOfWrongFalsely : Prop := formatOfRow.holds Tryd.pinned (OpenSpec.ofChange formatOfWrong)

/-- 'reckonerlaw15.FormatThere': WHATEVER THE INPUT: true; the input reads as it did. -/
def formatThereSpec : ChangeSpec := { name := "formatThere", fn := fun _ => fun
  | [d] => { results := [.lit (.bool true)], args := [d] }
  | _ => none }
def formatThereRow : OpenClaim := { program := "ytplnaajoeoiieaadoor", sum := "b5991f119f137a1c4fcae77c40a1b319798d7db93d22af579d7e739f7432caca", func := "reckoner/reckonerlaw15.FormatThere", spec := "formatThere", inPlace := ["math/bits.Sub64", "math/bits.Add64"], named := ["reckoner/format.named", "math/bits.deBruijn64tab", "math/bits.divideError", "math/bits.overflowError"], apart := false, laid := [("math/bits.deBruijn64tab", laid_math_bits_deBruijn64tab), ("reckoner/format.named", laid_reckoner_format_named)] }
def FormatThereSaid : Prop := formatThereRow.holds Tryd.pinned (OpenSpec.ofChange formatThereSpec)

/-- ITS FALSE NEIGHBOUR: 'it returns false'. Refute it at one input. -/
def formatThereWrong : ChangeSpec := { name := "formatThere", fn := fun _ => fun
  | [d] => { results := [.lit (.bool false)], args := [d] }
  | _ => none }
def FormatThereWrongFalsely : Prop := formatThereRow.holds Tryd.pinned (OpenSpec.ofChange formatThereWrong)

/-- 'reckonerlaw15.FormatLarge': WHATEVER THE INPUT: true; the input reads as it did. -/
def formatLargeSpec : ChangeSpec := { name := "formatLarge", fn := fun _ => fun
  | [d1, d2] => { results := [.lit (.bool true)], args := [d1, d2] }
  | _ => none }
def formatLargeRow : OpenClaim := { program := "ytplnaajoeoiieaadoor", sum := "b5991f119f137a1c4fcae77c40a1b319798d7db93d22af579d7e739f7432caca", func := "reckoner/reckonerlaw15.FormatLarge", spec := "formatLarge", inPlace := ["math/bits.Sub64", "math/bits.Add64"], named := ["reckoner/format.named", "math/bits.deBruijn64tab", "math/bits.divideError", "math/bits.overflowError"], apart := false, laid := [("math/bits.deBruijn64tab", laid_math_bits_deBruijn64tab), ("reckoner/format.named", laid_reckoner_format_named)] }
def FormatLargeSaid : Prop := formatLargeRow.holds Tryd.pinned (OpenSpec.ofChange formatLargeSpec)

/-- ITS FALSE NEIGHBOUR: 'it returns false'. Refute it at one input. -/
def formatLargeWrong : ChangeSpec := { name := "formatLarge", fn := fun _ => fun
  | [d1, d2] => { results := [.lit (.bool false)], args := [d1, d2] }
  | _ => none }
def FormatLargeWrongFalsely : Prop := formatLargeRow.holds Tryd.pinned (OpenSpec.ofChange formatLargeWrong)

/- THE SECOND FORM. 'bulk': how many values and letters a reading holds, each counted each time it is reached (what is shared counts as often as it is met; a slice's spare places count too). A statement '..UptoSaid' is the law's where the arguments, and the package variables that the reading takes, are together of bulk at most 1048576: NARROWER than '..Said'. Prove '..Said' where nothing that the law and all that it calls make is longer than what came in: it says more and counts as full. Else prove '..UptoSaid'. A law counts once. -/
mutual
def uptoBulk {H : Type} : DataW H → Nat
  | .lit (.string bytes) => bytes.length + 1
  | .lit _ => 1
  | .nil => 1
  | .ptr d => uptoBulk d + 1
  | .slice elems spare => uptoBulkAll elems + uptoBulkAll spare + 1
  | .agg parts => uptoBulkAll parts + 1
  | .iface _ d => uptoBulk d + 1
  | .map entries => uptoBulkEntries entries + 1
  | .held _ => 1
def uptoBulkAll {H : Type} : List (DataW H) → Nat
  | [] => 0
  | d :: r => uptoBulk d + uptoBulkAll r
def uptoBulkEntries {H : Type} : List (Lit × DataW H) → Nat
  | [] => 0
  | x :: r => uptoBulkEntry x + uptoBulkEntries r
def uptoBulkEntry {H : Type} : Lit × DataW H → Nat
  | (.string bytes, d) => bytes.length + uptoBulk d + 1
  | (_, d) => uptoBulk d + 1
 end
def uptoSmall : (H : Type) → List (DataW H) → Bool := fun _ ds => decide (uptoBulkAll ds ≤ 1048576)
def OpenSpec.upto (s : _root_.Go.ChangeSpec) : _root_.Go.OpenSpec := { _root_.Go.OpenSpec.ofChange s with cond := some uptoSmall }

/-- 'reckonerlaw15.FormatNames', WHERE WHAT IT READS IS OF BULK AT MOST 1048576: true; the input reads as it did. -/
def formatNamesUptoRow : OpenClaim := { program := "ytplnaajoeoiieaadoor", sum := "b5991f119f137a1c4fcae77c40a1b319798d7db93d22af579d7e739f7432caca", func := "reckoner/reckonerlaw15.FormatNames", spec := "formatNames", inPlace := ["math/bits.Sub64", "math/bits.Add64"], named := ["reckoner/format.named", "math/bits.deBruijn64tab"], apart := false, laid := [("math/bits.deBruijn64tab", laid_math_bits_deBruijn64tab), ("reckoner/format.named", laid_reckoner_format_named)], narrowed := true }
def FormatNamesUptoSaid : Prop := formatNamesUptoRow.holds Tryd.pinned (OpenSpec.upto formatNamesSpec)

/-- 'reckonerlaw15.FormatEncodes', WHERE WHAT IT READS IS OF BULK AT MOST 1048576: true; the input reads as it did. -/
def formatEncodesUptoRow : OpenClaim := { program := "ytplnaajoeoiieaadoor", sum := "b5991f119f137a1c4fcae77c40a1b319798d7db93d22af579d7e739f7432caca", func := "reckoner/reckonerlaw15.FormatEncodes", spec := "formatEncodes", inPlace := ["math/bits.Sub64", "math/bits.Add64"], named := ["reckoner/format.named", "math/bits.deBruijn64tab"], apart := false, laid := [("math/bits.deBruijn64tab", laid_math_bits_deBruijn64tab), ("reckoner/format.named", laid_reckoner_format_named)], narrowed := true }
def FormatEncodesUptoSaid : Prop := formatEncodesUptoRow.holds Tryd.pinned (OpenSpec.upto formatEncodesSpec)

/-- 'reckonerlaw15.FormatDecodes', WHERE WHAT IT READS IS OF BULK AT MOST 1048576: true; the input reads as it did. -/
def formatDecodesUptoRow : OpenClaim := { program := "ytplnaajoeoiieaadoor", sum := "b5991f119f137a1c4fcae77c40a1b319798d7db93d22af579d7e739f7432caca", func := "reckoner/reckonerlaw15.FormatDecodes", spec := "formatDecodes", inPlace := ["math/bits.Sub64", "math/bits.Add64"], named := ["reckoner/format.named", "math/bits.deBruijn64tab"], apart := false, laid := [("math/bits.deBruijn64tab", laid_math_bits_deBruijn64tab), ("reckoner/format.named", laid_reckoner_format_named)], narrowed := true }
def FormatDecodesUptoSaid : Prop := formatDecodesUptoRow.holds Tryd.pinned (OpenSpec.upto formatDecodesSpec)

/-- 'reckonerlaw15.FormatCanonical', WHERE WHAT IT READS IS OF BULK AT MOST 1048576: true; the input reads as it did. -/
def formatCanonicalUptoRow : OpenClaim := { program := "ytplnaajoeoiieaadoor", sum := "b5991f119f137a1c4fcae77c40a1b319798d7db93d22af579d7e739f7432caca", func := "reckoner/reckonerlaw15.FormatCanonical", spec := "formatCanonical", inPlace := ["math/bits.Sub64", "math/bits.Add64"], named := ["reckoner/format.named", "math/bits.deBruijn64tab"], apart := false, laid := [("math/bits.deBruijn64tab", laid_math_bits_deBruijn64tab), ("reckoner/format.named", laid_reckoner_format_named)], narrowed := true }
def FormatCanonicalUptoSaid : Prop := formatCanonicalUptoRow.holds Tryd.pinned (OpenSpec.upto formatCanonicalSpec)

/-- 'reckonerlaw15.FormatChecks', WHERE WHAT IT READS IS OF BULK AT MOST 1048576: true; the input reads as it did. -/
def formatChecksUptoRow : OpenClaim := { program := "ytplnaajoeoiieaadoor", sum := "b5991f119f137a1c4fcae77c40a1b319798d7db93d22af579d7e739f7432caca", func := "reckoner/reckonerlaw15.FormatChecks", spec := "formatChecks", inPlace := ["math/bits.Sub64", "math/bits.Add64"], unfollowed := true, recurses := true, named := ["reckoner/format.named", "math/bits.deBruijn64tab"], apart := false, laid := [("math/bits.deBruijn64tab", laid_math_bits_deBruijn64tab), ("reckoner/format.named", laid_reckoner_format_named)], narrowed := true }
def FormatChecksUptoSaid : Prop := formatChecksUptoRow.holds Tryd.pinned (OpenSpec.upto formatChecksSpec)

/-- 'reckonerlaw15.FormatHolds', WHERE WHAT IT READS IS OF BULK AT MOST 1048576: true; the input reads as it did. -/
def formatHoldsUptoRow : OpenClaim := { program := "ytplnaajoeoiieaadoor", sum := "b5991f119f137a1c4fcae77c40a1b319798d7db93d22af579d7e739f7432caca", func := "reckoner/reckonerlaw15.FormatHolds", spec := "formatHolds", inPlace := ["math/bits.Sub64", "math/bits.Add64"], named := ["reckoner/format.named", "math/bits.deBruijn64tab"], apart := false, laid := [("math/bits.deBruijn64tab", laid_math_bits_deBruijn64tab), ("reckoner/format.named", laid_reckoner_format_named)], narrowed := true }
def FormatHoldsUptoSaid : Prop := formatHoldsUptoRow.holds Tryd.pinned (OpenSpec.upto formatHoldsSpec)

/-- 'reckonerlaw15.FormatSame', WHERE WHAT IT READS IS OF BULK AT MOST 1048576: true; the input reads as it did. -/
def formatSameUptoRow : OpenClaim := { program := "ytplnaajoeoiieaadoor", sum := "b5991f119f137a1c4fcae77c40a1b319798d7db93d22af579d7e739f7432caca", func := "reckoner/reckonerlaw15.FormatSame", spec := "formatSame", inPlace := ["math/bits.Sub64", "math/bits.Add64"], named := ["reckoner/format.named", "math/bits.deBruijn64tab"], apart := false, laid := [("math/bits.deBruijn64tab", laid_math_bits_deBruijn64tab), ("reckoner/format.named", laid_reckoner_format_named)], narrowed := true }
def FormatSameUptoSaid : Prop := formatSameUptoRow.holds Tryd.pinned (OpenSpec.upto formatSameSpec)

/-- 'reckonerlaw15.FormatValue', WHERE WHAT IT READS IS OF BULK AT MOST 1048576: true; the input reads as it did. -/
def formatValueUptoRow : OpenClaim := { program := "ytplnaajoeoiieaadoor", sum := "b5991f119f137a1c4fcae77c40a1b319798d7db93d22af579d7e739f7432caca", func := "reckoner/reckonerlaw15.FormatValue", spec := "formatValue", inPlace := ["math/bits.Sub64", "math/bits.Add64"], named := ["reckoner/format.named", "math/bits.deBruijn64tab"], apart := false, laid := [("math/bits.deBruijn64tab", laid_math_bits_deBruijn64tab), ("reckoner/format.named", laid_reckoner_format_named)], narrowed := true }
def FormatValueUptoSaid : Prop := formatValueUptoRow.holds Tryd.pinned (OpenSpec.upto formatValueSpec)

/-- 'reckonerlaw15.FormatRises', WHERE WHAT IT READS IS OF BULK AT MOST 1048576: true; the input reads as it did. -/
def formatRisesUptoRow : OpenClaim := { program := "ytplnaajoeoiieaadoor", sum := "b5991f119f137a1c4fcae77c40a1b319798d7db93d22af579d7e739f7432caca", func := "reckoner/reckonerlaw15.FormatRises", spec := "formatRises", inPlace := ["math/bits.Sub64", "math/bits.Add64"], named := ["reckoner/format.named", "math/bits.deBruijn64tab"], apart := false, laid := [("math/bits.deBruijn64tab", laid_math_bits_deBruijn64tab), ("reckoner/format.named", laid_reckoner_format_named)], narrowed := true }
def FormatRisesUptoSaid : Prop := formatRisesUptoRow.holds Tryd.pinned (OpenSpec.upto formatRisesSpec)

/-- 'reckonerlaw15.FormatOwn', WHERE WHAT IT READS IS OF BULK AT MOST 1048576: true; the input reads as it did. -/
def formatOwnUptoRow : OpenClaim := { program := "ytplnaajoeoiieaadoor", sum := "b5991f119f137a1c4fcae77c40a1b319798d7db93d22af579d7e739f7432caca", func := "reckoner/reckonerlaw15.FormatOwn", spec := "formatOwn", inPlace := ["math/bits.Sub64", "math/bits.Add64"], named := ["reckoner/format.named", "math/bits.deBruijn64tab"], apart := false, laid := [("math/bits.deBruijn64tab", laid_math_bits_deBruijn64tab), ("reckoner/format.named", laid_reckoner_format_named)], narrowed := true }
def FormatOwnUptoSaid : Prop := formatOwnUptoRow.holds Tryd.pinned (OpenSpec.upto formatOwnSpec)

/-- 'reckonerlaw15.FormatBack', WHERE WHAT IT READS IS OF BULK AT MOST 1048576: true; the input reads as it did. -/
def formatBackUptoRow : OpenClaim := { program := "ytplnaajoeoiieaadoor", sum := "b5991f119f137a1c4fcae77c40a1b319798d7db93d22af579d7e739f7432caca", func := "reckoner/reckonerlaw15.FormatBack", spec := "formatBack", inPlace := ["math/bits.Sub64", "math/bits.Add64"], named := ["reckoner/format.named", "math/bits.deBruijn64tab"], apart := false, laid := [("math/bits.deBruijn64tab", laid_math_bits_deBruijn64tab), ("reckoner/format.named", laid_reckoner_format_named)], narrowed := true }
def FormatBackUptoSaid : Prop := formatBackUptoRow.holds Tryd.pinned (OpenSpec.upto formatBackSpec)

/-- 'reckonerlaw15.FormatOf', WHERE WHAT IT READS IS OF BULK AT MOST 1048576: true; the input reads as it did. -/
def formatOfUptoRow : OpenClaim := { program := "ytplnaajoeoiieaadoor", sum := "b5991f119f137a1c4fcae77c40a1b319798d7db93d22af579d7e739f7432caca", func := "reckoner/reckonerlaw15.FormatOf", spec := "formatOf", inPlace := ["math/bits.Sub64", "math/bits.Add64"], named := ["reckoner/format.named", "math/bits.deBruijn64tab", "math/bits.divideError", "math/bits.overflowError"], apart := false, laid := [("math/bits.deBruijn64tab", laid_math_bits_deBruijn64tab), ("reckoner/format.named", laid_reckoner_format_named)], narrowed := true }
def FormatOfUptoSaid : Prop := formatOfUptoRow.holds Tryd.pinned (OpenSpec.upto formatOfSpec)

/-- 'reckonerlaw15.FormatThere', WHERE WHAT IT READS IS OF BULK AT MOST 1048576: true; the input reads as it did. -/
def formatThereUptoRow : OpenClaim := { program := "ytplnaajoeoiieaadoor", sum := "b5991f119f137a1c4fcae77c40a1b319798d7db93d22af579d7e739f7432caca", func := "reckoner/reckonerlaw15.FormatThere", spec := "formatThere", inPlace := ["math/bits.Sub64", "math/bits.Add64"], named := ["reckoner/format.named", "math/bits.deBruijn64tab", "math/bits.divideError", "math/bits.overflowError"], apart := false, laid := [("math/bits.deBruijn64tab", laid_math_bits_deBruijn64tab), ("reckoner/format.named", laid_reckoner_format_named)], narrowed := true }
def FormatThereUptoSaid : Prop := formatThereUptoRow.holds Tryd.pinned (OpenSpec.upto formatThereSpec)

/-- 'reckonerlaw15.FormatLarge', WHERE WHAT IT READS IS OF BULK AT MOST 1048576: true; the input reads as it did. -/
def formatLargeUptoRow : OpenClaim := { program := "ytplnaajoeoiieaadoor", sum := "b5991f119f137a1c4fcae77c40a1b319798d7db93d22af579d7e739f7432caca", func := "reckoner/reckonerlaw15.FormatLarge", spec := "formatLarge", inPlace := ["math/bits.Sub64", "math/bits.Add64"], named := ["reckoner/format.named", "math/bits.deBruijn64tab", "math/bits.divideError", "math/bits.overflowError"], apart := false, laid := [("math/bits.deBruijn64tab", laid_math_bits_deBruijn64tab), ("reckoner/format.named", laid_reckoner_format_named)], narrowed := true }
def FormatLargeUptoSaid : Prop := formatLargeUptoRow.holds Tryd.pinned (OpenSpec.upto formatLargeSpec)

end Rows
end Go.Proofs.YtplnaajoeoiieaaDoor
