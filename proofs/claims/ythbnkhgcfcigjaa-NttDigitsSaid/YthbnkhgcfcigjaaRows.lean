/-
  No cell of these rows narrows 'for every input' (looked for: loops, veiled, ifaces, maps, wideKeys, modest, calm, conditions, laid).
  DERIVED. THE GIVEN ROWS OF THIS SEAT. 10 by the template 'for every input the law returns true; each argument reads behind the call as it read before'; 0 by the template 'total and deterministic' (their statements: YthbnkhgcfcigjaaTotals.lean).
  GIVEN WITH THE SEED: the statements are not yours to turn. If you find one false, say at which input.
  Laid BY PROGRAM, IN A SANDBOX (cutbox-rows.mjs): the forced cells as the released guide's own fill.sh prints them over the translation f3544f67db0b3af7… (all of the seat's roots in one cut). By AI agents, Wed Nov 11 2026. No macro, syntax, notation, axiom, sorry.
-/
import Derived.Test.YthbnkhgcfcigjaaChecked
import GoSem.Claim
import GoSem.ClaimJoined
import GoSem.ClaimMapViews
import Derived.JoinedTies
import Derived.KernelRfl
namespace Go.Proofs.Ythbnkhgcfcigjaa
/- THE CELL 'sum', in the pinned program and in every row, IS THE sha256 OF THE DUMP (.gsa) THAT YthbnkhgcfcigjaaProg.lean LOADS. Nothing in Lean hashes anything: it is a label: what it is worth is what the hold of that sum in a sandbox is worth. -/
noncomputable def Try.pinned : Pinned := { name := "ythbnkhgcfcigjaa", sum := "f3544f67db0b3af75a1f8724f9e052a6f9d36b3da64b52187091bef21b74fd71", checked := Try.checked }
namespace Rows
def none {H : Type} : Left H := { results := [], args := [] }

/-- 'reckonerlaw04.NttRoots': WHATEVER THE INPUT: true; the input reads as it did. -/
def nttRootsSpec : ChangeSpec := { name := "nttRoots", fn := fun _ => fun
  | [d] => { results := [.lit (.bool true)], args := [d] }
  | _ => none }
def nttRootsRow : OpenClaim := { program := "ythbnkhgcfcigjaa", sum := "f3544f67db0b3af75a1f8724f9e052a6f9d36b3da64b52187091bef21b74fd71", func := "reckoner/reckonerlaw04.NttRoots", spec := "nttRoots", inPlace := ["math/bits.Sub64", "math/bits.Add64"], unfollowed := true, recurses := true, apart := false }
def NttRootsSaid : Prop := nttRootsRow.holds Try.pinned (OpenSpec.ofChange nttRootsSpec)

/-- ITS FALSE NEIGHBOUR: 'it returns false'. Refute it at one input. -/
def nttRootsWrong : ChangeSpec := { name := "nttRoots", fn := fun _ => fun
  | [d] => { results := [.lit (.bool false)], args := [d] }
  | _ => none }
def NttRootsWrongFalsely : Prop := nttRootsRow.holds Try.pinned (OpenSpec.ofChange nttRootsWrong)

/-- 'reckonerlaw04.NttProducts': WHATEVER THE INPUT: true; the input reads as it did. -/
def nttProductsSpec : ChangeSpec := { name := "nttProducts", fn := fun _ => fun
  | [d1, d2] => { results := [.lit (.bool true)], args := [d1, d2] }
  | _ => none }
def nttProductsRow : OpenClaim := { program := "ythbnkhgcfcigjaa", sum := "f3544f67db0b3af75a1f8724f9e052a6f9d36b3da64b52187091bef21b74fd71", func := "reckoner/reckonerlaw04.NttProducts", spec := "nttProducts", inPlace := ["math/bits.Sub64", "math/bits.Add64"], unfollowed := true, recurses := true, apart := false }
def NttProductsSaid : Prop := nttProductsRow.holds Try.pinned (OpenSpec.ofChange nttProductsSpec)

/-- ITS FALSE NEIGHBOUR: 'it returns false'. Refute it at one input. -/
def nttProductsWrong : ChangeSpec := { name := "nttProducts", fn := fun _ => fun
  | [d1, d2] => { results := [.lit (.bool false)], args := [d1, d2] }
  | _ => none }
def NttProductsWrongFalsely : Prop := nttProductsRow.holds Try.pinned (OpenSpec.ofChange nttProductsWrong)

/-- 'reckonerlaw04.NttLongs': WHATEVER THE INPUT: true; the input reads as it did. -/
def nttLongsSpec : ChangeSpec := { name := "nttLongs", fn := fun _ => fun
  | [d1, d2] => { results := [.lit (.bool true)], args := [d1, d2] }
  | _ => none }
def nttLongsRow : OpenClaim := { program := "ythbnkhgcfcigjaa", sum := "f3544f67db0b3af75a1f8724f9e052a6f9d36b3da64b52187091bef21b74fd71", func := "reckoner/reckonerlaw04.NttLongs", spec := "nttLongs", inPlace := ["math/bits.Sub64", "math/bits.Add64"], unfollowed := true, recurses := true, apart := false }
def NttLongsSaid : Prop := nttLongsRow.holds Try.pinned (OpenSpec.ofChange nttLongsSpec)

/-- ITS FALSE NEIGHBOUR: 'it returns false'. Refute it at one input. -/
def nttLongsWrong : ChangeSpec := { name := "nttLongs", fn := fun _ => fun
  | [d1, d2] => { results := [.lit (.bool false)], args := [d1, d2] }
  | _ => none }
def NttLongsWrongFalsely : Prop := nttLongsRow.holds Try.pinned (OpenSpec.ofChange nttLongsWrong)

/-- 'reckonerlaw04.NttGreat': WHATEVER THE INPUT: true; the input reads as it did. -/
def nttGreatSpec : ChangeSpec := { name := "nttGreat", fn := fun _ => fun
  | [d1, d2] => { results := [.lit (.bool true)], args := [d1, d2] }
  | _ => none }
def nttGreatRow : OpenClaim := { program := "ythbnkhgcfcigjaa", sum := "f3544f67db0b3af75a1f8724f9e052a6f9d36b3da64b52187091bef21b74fd71", func := "reckoner/reckonerlaw04.NttGreat", spec := "nttGreat", inPlace := ["math/bits.Sub64", "math/bits.Add64"], unfollowed := true, recurses := true, apart := false }
def NttGreatSaid : Prop := nttGreatRow.holds Try.pinned (OpenSpec.ofChange nttGreatSpec)

/-- ITS FALSE NEIGHBOUR: 'it returns false'. Refute it at one input. -/
def nttGreatWrong : ChangeSpec := { name := "nttGreat", fn := fun _ => fun
  | [d1, d2] => { results := [.lit (.bool false)], args := [d1, d2] }
  | _ => none }
def NttGreatWrongFalsely : Prop := nttGreatRow.holds Try.pinned (OpenSpec.ofChange nttGreatWrong)

/-- 'reckonerlaw04.NttTransforms': WHATEVER THE INPUT: true; the input reads as it did. -/
def nttTransformsSpec : ChangeSpec := { name := "nttTransforms", fn := fun _ => fun
  | [d] => { results := [.lit (.bool true)], args := [d] }
  | _ => none }
def nttTransformsRow : OpenClaim := { program := "ythbnkhgcfcigjaa", sum := "f3544f67db0b3af75a1f8724f9e052a6f9d36b3da64b52187091bef21b74fd71", func := "reckoner/reckonerlaw04.NttTransforms", spec := "nttTransforms", inPlace := ["math/bits.Sub64", "math/bits.Add64"], unfollowed := true, recurses := true, apart := false }
def NttTransformsSaid : Prop := nttTransformsRow.holds Try.pinned (OpenSpec.ofChange nttTransformsSpec)

/-- ITS FALSE NEIGHBOUR: 'it returns false'. Refute it at one input. -/
def nttTransformsWrong : ChangeSpec := { name := "nttTransforms", fn := fun _ => fun
  | [d] => { results := [.lit (.bool false)], args := [d] }
  | _ => none }
def NttTransformsWrongFalsely : Prop := nttTransformsRow.holds Try.pinned (OpenSpec.ofChange nttTransformsWrong)

/-- 'reckonerlaw04.NttNumbers': WHATEVER THE INPUT: true; the input reads as it did. -/
def nttNumbersSpec : ChangeSpec := { name := "nttNumbers", fn := fun _ => fun
  | [d1, d2] => { results := [.lit (.bool true)], args := [d1, d2] }
  | _ => none }
def nttNumbersRow : OpenClaim := { program := "ythbnkhgcfcigjaa", sum := "f3544f67db0b3af75a1f8724f9e052a6f9d36b3da64b52187091bef21b74fd71", func := "reckoner/reckonerlaw04.NttNumbers", spec := "nttNumbers", inPlace := ["math/bits.Sub64", "math/bits.Add64"], unfollowed := true, recurses := true, apart := false }
def NttNumbersSaid : Prop := nttNumbersRow.holds Try.pinned (OpenSpec.ofChange nttNumbersSpec)

/-- ITS FALSE NEIGHBOUR: 'it returns false'. Refute it at one input. -/
def nttNumbersWrong : ChangeSpec := { name := "nttNumbers", fn := fun _ => fun
  | [d1, d2] => { results := [.lit (.bool false)], args := [d1, d2] }
  | _ => none }
def NttNumbersWrongFalsely : Prop := nttNumbersRow.holds Try.pinned (OpenSpec.ofChange nttNumbersWrong)

/-- 'reckonerlaw04.NttFolds': WHATEVER THE INPUT: true; the input reads as it did. -/
def nttFoldsSpec : ChangeSpec := { name := "nttFolds", fn := fun _ => fun
  | [d1, d2, d3] => { results := [.lit (.bool true)], args := [d1, d2, d3] }
  | _ => none }
def nttFoldsRow : OpenClaim := { program := "ythbnkhgcfcigjaa", sum := "f3544f67db0b3af75a1f8724f9e052a6f9d36b3da64b52187091bef21b74fd71", func := "reckoner/reckonerlaw04.NttFolds", spec := "nttFolds", inPlace := ["math/bits.Sub64", "math/bits.Add64"], unfollowed := true, recurses := true, apart := false }
def NttFoldsSaid : Prop := nttFoldsRow.holds Try.pinned (OpenSpec.ofChange nttFoldsSpec)

/-- ITS FALSE NEIGHBOUR: 'it returns false'. Refute it at one input. -/
def nttFoldsWrong : ChangeSpec := { name := "nttFolds", fn := fun _ => fun
  | [d1, d2, d3] => { results := [.lit (.bool false)], args := [d1, d2, d3] }
  | _ => none }
def NttFoldsWrongFalsely : Prop := nttFoldsRow.holds Try.pinned (OpenSpec.ofChange nttFoldsWrong)

/-- 'reckonerlaw04.NttDigits': WHATEVER THE INPUT: true; the input reads as it did. -/
def nttDigitsSpec : ChangeSpec := { name := "nttDigits", fn := fun _ => fun
  | [d1, d2, d3] => { results := [.lit (.bool true)], args := [d1, d2, d3] }
  | _ => none }
def nttDigitsRow : OpenClaim := { program := "ythbnkhgcfcigjaa", sum := "f3544f67db0b3af75a1f8724f9e052a6f9d36b3da64b52187091bef21b74fd71", func := "reckoner/reckonerlaw04.NttDigits", spec := "nttDigits", inPlace := ["math/bits.Add64", "math/bits.Sub64"], unfollowed := true, recurses := true, apart := false }
def NttDigitsSaid : Prop := nttDigitsRow.holds Try.pinned (OpenSpec.ofChange nttDigitsSpec)

/-- ITS FALSE NEIGHBOUR: 'it returns false'. Refute it at one input. -/
def nttDigitsWrong : ChangeSpec := { name := "nttDigits", fn := fun _ => fun
  | [d1, d2, d3] => { results := [.lit (.bool false)], args := [d1, d2, d3] }
  | _ => none }
def NttDigitsWrongFalsely : Prop := nttDigitsRow.holds Try.pinned (OpenSpec.ofChange nttDigitsWrong)

/-- 'reckonerlaw04.NttConvolves': WHATEVER THE INPUT: true; the input reads as it did. -/
def nttConvolvesSpec : ChangeSpec := { name := "nttConvolves", fn := fun _ => fun
  | [d1, d2] => { results := [.lit (.bool true)], args := [d1, d2] }
  | _ => none }
def nttConvolvesRow : OpenClaim := { program := "ythbnkhgcfcigjaa", sum := "f3544f67db0b3af75a1f8724f9e052a6f9d36b3da64b52187091bef21b74fd71", func := "reckoner/reckonerlaw04.NttConvolves", spec := "nttConvolves", inPlace := ["math/bits.Sub64", "math/bits.Add64"], unfollowed := true, recurses := true, apart := false }
def NttConvolvesSaid : Prop := nttConvolvesRow.holds Try.pinned (OpenSpec.ofChange nttConvolvesSpec)

/-- ITS FALSE NEIGHBOUR: 'it returns false'. Refute it at one input. -/
def nttConvolvesWrong : ChangeSpec := { name := "nttConvolves", fn := fun _ => fun
  | [d1, d2] => { results := [.lit (.bool false)], args := [d1, d2] }
  | _ => none }
def NttConvolvesWrongFalsely : Prop := nttConvolvesRow.holds Try.pinned (OpenSpec.ofChange nttConvolvesWrong)

/-- 'reckonerlaw04.NttResidues': WHATEVER THE INPUT: true; the input reads as it did. -/
def nttResiduesSpec : ChangeSpec := { name := "nttResidues", fn := fun _ => fun
  | [d1, d2, d3] => { results := [.lit (.bool true)], args := [d1, d2, d3] }
  | _ => none }
def nttResiduesRow : OpenClaim := { program := "ythbnkhgcfcigjaa", sum := "f3544f67db0b3af75a1f8724f9e052a6f9d36b3da64b52187091bef21b74fd71", func := "reckoner/reckonerlaw04.NttResidues", spec := "nttResidues", inPlace := ["math/bits.Add64", "math/bits.Sub64"], unfollowed := true, recurses := true, apart := false }
def NttResiduesSaid : Prop := nttResiduesRow.holds Try.pinned (OpenSpec.ofChange nttResiduesSpec)

/-- ITS FALSE NEIGHBOUR: 'it returns false'. Refute it at one input. -/
def nttResiduesWrong : ChangeSpec := { name := "nttResidues", fn := fun _ => fun
  | [d1, d2, d3] => { results := [.lit (.bool false)], args := [d1, d2, d3] }
  | _ => none }
def NttResiduesWrongFalsely : Prop := nttResiduesRow.holds Try.pinned (OpenSpec.ofChange nttResiduesWrong)

/- THE SECOND FORM. 'bulk': how many values and letters a reading holds, each counted each time it is reached (what is shared counts as often as it is met; a slice's spare places count too). A statement '..UptoSaid' is the law's where the arguments, and the package variables that the reading takes, are together of bulk at most 1048576: NARROWER than '..Said'. Prove '..Said' where nothing that the law and all that it calls make is longer than what came in: it says more and counts as full. Else prove '..UptoSaid'. A law counts once. -/
mutual
def uptoBulk {H : Type} : DataW H → Nat
  | .lit (.string bytes) => bytes.length + 1
  | .lit _ => 1
  | .nil => 1
  | .ptr d => uptoBulk d + 1
  | .slice elems spare => uptoBulkAll elems + uptoBulkAll spare + 1
  | .agg parts => uptoBulkAll parts + 1
  | .iface _ d => uptoBulk d + 1
  | .map entries => uptoBulkEntries entries + 1
  | .held _ => 1
def uptoBulkAll {H : Type} : List (DataW H) → Nat
  | [] => 0
  | d :: r => uptoBulk d + uptoBulkAll r
def uptoBulkEntries {H : Type} : List (Lit × DataW H) → Nat
  | [] => 0
  | x :: r => uptoBulkEntry x + uptoBulkEntries r
def uptoBulkEntry {H : Type} : Lit × DataW H → Nat
  | (.string bytes, d) => bytes.length + uptoBulk d + 1
  | (_, d) => uptoBulk d + 1
 end
def uptoSmall : (H : Type) → List (DataW H) → Bool := fun _ ds => decide (uptoBulkAll ds ≤ 1048576)
def OpenSpec.upto (s : _root_.Go.ChangeSpec) : _root_.Go.OpenSpec := { _root_.Go.OpenSpec.ofChange s with cond := some uptoSmall }

/-- 'reckonerlaw04.NttRoots', WHERE WHAT IT READS IS OF BULK AT MOST 1048576: true; the input reads as it did. -/
def nttRootsUptoRow : OpenClaim := { program := "ythbnkhgcfcigjaa", sum := "f3544f67db0b3af75a1f8724f9e052a6f9d36b3da64b52187091bef21b74fd71", func := "reckoner/reckonerlaw04.NttRoots", spec := "nttRoots", inPlace := ["math/bits.Sub64", "math/bits.Add64"], unfollowed := true, recurses := true, apart := false, narrowed := true }
def NttRootsUptoSaid : Prop := nttRootsUptoRow.holds Try.pinned (OpenSpec.upto nttRootsSpec)

/-- 'reckonerlaw04.NttProducts', WHERE WHAT IT READS IS OF BULK AT MOST 1048576: true; the input reads as it did. -/
def nttProductsUptoRow : OpenClaim := { program := "ythbnkhgcfcigjaa", sum := "f3544f67db0b3af75a1f8724f9e052a6f9d36b3da64b52187091bef21b74fd71", func := "reckoner/reckonerlaw04.NttProducts", spec := "nttProducts", inPlace := ["math/bits.Sub64", "math/bits.Add64"], unfollowed := true, recurses := true, apart := false, narrowed := true }
def NttProductsUptoSaid : Prop := nttProductsUptoRow.holds Try.pinned (OpenSpec.upto nttProductsSpec)

/-- 'reckonerlaw04.NttLongs', WHERE WHAT IT READS IS OF BULK AT MOST 1048576: true; the input reads as it did. -/
def nttLongsUptoRow : OpenClaim := { program := "ythbnkhgcfcigjaa", sum := "f3544f67db0b3af75a1f8724f9e052a6f9d36b3da64b52187091bef21b74fd71", func := "reckoner/reckonerlaw04.NttLongs", spec := "nttLongs", inPlace := ["math/bits.Sub64", "math/bits.Add64"], unfollowed := true, recurses := true, apart := false, narrowed := true }
def NttLongsUptoSaid : Prop := nttLongsUptoRow.holds Try.pinned (OpenSpec.upto nttLongsSpec)

/-- 'reckonerlaw04.NttGreat', WHERE WHAT IT READS IS OF BULK AT MOST 1048576: true; the input reads as it did. -/
def nttGreatUptoRow : OpenClaim := { program := "ythbnkhgcfcigjaa", sum := "f3544f67db0b3af75a1f8724f9e052a6f9d36b3da64b52187091bef21b74fd71", func := "reckoner/reckonerlaw04.NttGreat", spec := "nttGreat", inPlace := ["math/bits.Sub64", "math/bits.Add64"], unfollowed := true, recurses := true, apart := false, narrowed := true }
def NttGreatUptoSaid : Prop := nttGreatUptoRow.holds Try.pinned (OpenSpec.upto nttGreatSpec)

/-- 'reckonerlaw04.NttTransforms', WHERE WHAT IT READS IS OF BULK AT MOST 1048576: true; the input reads as it did. -/
def nttTransformsUptoRow : OpenClaim := { program := "ythbnkhgcfcigjaa", sum := "f3544f67db0b3af75a1f8724f9e052a6f9d36b3da64b52187091bef21b74fd71", func := "reckoner/reckonerlaw04.NttTransforms", spec := "nttTransforms", inPlace := ["math/bits.Sub64", "math/bits.Add64"], unfollowed := true, recurses := true, apart := false, narrowed := true }
def NttTransformsUptoSaid : Prop := nttTransformsUptoRow.holds Try.pinned (OpenSpec.upto nttTransformsSpec)

/-- 'reckonerlaw04.NttNumbers', WHERE WHAT IT READS IS OF BULK AT MOST 1048576: true; the input reads as it did. -/
def nttNumbersUptoRow : OpenClaim := { program := "ythbnkhgcfcigjaa", sum := "f3544f67db0b3af75a1f8724f9e052a6f9d36b3da64b52187091bef21b74fd71", func := "reckoner/reckonerlaw04.NttNumbers", spec := "nttNumbers", inPlace := ["math/bits.Sub64", "math/bits.Add64"], unfollowed := true, recurses := true, apart := false, narrowed := true }
def NttNumbersUptoSaid : Prop := nttNumbersUptoRow.holds Try.pinned (OpenSpec.upto nttNumbersSpec)

/-- 'reckonerlaw04.NttFolds', WHERE WHAT IT READS IS OF BULK AT MOST 1048576: true; the input reads as it did. -/
def nttFoldsUptoRow : OpenClaim := { program := "ythbnkhgcfcigjaa", sum := "f3544f67db0b3af75a1f8724f9e052a6f9d36b3da64b52187091bef21b74fd71", func := "reckoner/reckonerlaw04.NttFolds", spec := "nttFolds", inPlace := ["math/bits.Sub64", "math/bits.Add64"], unfollowed := true, recurses := true, apart := false, narrowed := true }
def NttFoldsUptoSaid : Prop := nttFoldsUptoRow.holds Try.pinned (OpenSpec.upto nttFoldsSpec)

/-- 'reckonerlaw04.NttDigits', WHERE WHAT IT READS IS OF BULK AT MOST 1048576: true; the input reads as it did. -/
def nttDigitsUptoRow : OpenClaim := { program := "ythbnkhgcfcigjaa", sum := "f3544f67db0b3af75a1f8724f9e052a6f9d36b3da64b52187091bef21b74fd71", func := "reckoner/reckonerlaw04.NttDigits", spec := "nttDigits", inPlace := ["math/bits.Add64", "math/bits.Sub64"], unfollowed := true, recurses := true, apart := false, narrowed := true }
def NttDigitsUptoSaid : Prop := nttDigitsUptoRow.holds Try.pinned (OpenSpec.upto nttDigitsSpec)

/-- 'reckonerlaw04.NttConvolves', WHERE WHAT IT READS IS OF BULK AT MOST 1048576: true; the input reads as it did. -/
def nttConvolvesUptoRow : OpenClaim := { program := "ythbnkhgcfcigjaa", sum := "f3544f67db0b3af75a1f8724f9e052a6f9d36b3da64b52187091bef21b74fd71", func := "reckoner/reckonerlaw04.NttConvolves", spec := "nttConvolves", inPlace := ["math/bits.Sub64", "math/bits.Add64"], unfollowed := true, recurses := true, apart := false, narrowed := true }
def NttConvolvesUptoSaid : Prop := nttConvolvesUptoRow.holds Try.pinned (OpenSpec.upto nttConvolvesSpec)

/-- 'reckonerlaw04.NttResidues', WHERE WHAT IT READS IS OF BULK AT MOST 1048576: true; the input reads as it did. -/
def nttResiduesUptoRow : OpenClaim := { program := "ythbnkhgcfcigjaa", sum := "f3544f67db0b3af75a1f8724f9e052a6f9d36b3da64b52187091bef21b74fd71", func := "reckoner/reckonerlaw04.NttResidues", spec := "nttResidues", inPlace := ["math/bits.Add64", "math/bits.Sub64"], unfollowed := true, recurses := true, apart := false, narrowed := true }
def NttResiduesUptoSaid : Prop := nttResiduesUptoRow.holds Try.pinned (OpenSpec.upto nttResiduesSpec)

end Rows
end Go.Proofs.Ythbnkhgcfcigjaa
