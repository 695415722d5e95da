/-
  No cell of these rows narrows 'for every input' (looked for: loops, veiled, ifaces, maps, wideKeys, modest, calm, conditions, laid).
  DERIVED. THE GIVEN ROWS OF THIS SEAT. 9 by the template 'for every input the law returns true; each argument reads behind the call as it read before'; 0 by the template 'total and deterministic' (their statements: YtngmiaglbmkbcaaTotals.lean).
  GIVEN WITH THE SEED: the statements are not yours to turn. If you find one false, say at which input.
  Laid BY PROGRAM, IN A SANDBOX (cutbox-rows.mjs): the forced cells as the released guide's own fill.sh prints them over the translation 7e2ed09139d46abb… (all of the seat's roots in one cut). By AI agents, Wed Nov 11 2026. No macro, syntax, notation, axiom, sorry.
-/
import Derived.Test.YtngmiaglbmkbcaaChecked
import GoSem.Claim
import GoSem.ClaimJoined
import GoSem.ClaimMapViews
import Derived.JoinedTies
import Derived.KernelRfl
namespace Go.Proofs.Ytngmiaglbmkbcaa
/- THE CELL 'sum', in the pinned program and in every row, IS THE sha256 OF THE DUMP (.gsa) THAT YtngmiaglbmkbcaaProg.lean LOADS. Nothing in Lean hashes anything: it is a label: what it is worth is what the hold of that sum in a sandbox is worth. -/
noncomputable def Try.pinned : Pinned := { name := "ytngmiaglbmkbcaa", sum := "7e2ed09139d46abb4a40aa7af987012b5fd6ffa6a0eb8d6ea64d213b0b1cf284", checked := Try.checked }
namespace Rows
def none {H : Type} : Left H := { results := [], args := [] }

/-- 'laws.FnExactCompareKeys': WHATEVER THE INPUT: true; the input reads as it did. -/
def fnExactCompareKeysSpec : ChangeSpec := { name := "fnExactCompareKeys", fn := fun _ => fun
  | [d1, d2] => { results := [.lit (.bool true)], args := [d1, d2] }
  | _ => none }
def fnExactCompareKeysRow : OpenClaim := { program := "ytngmiaglbmkbcaa", sum := "7e2ed09139d46abb4a40aa7af987012b5fd6ffa6a0eb8d6ea64d213b0b1cf284", func := "loop.example/schemamigration/laws.FnExactCompareKeys", spec := "fnExactCompareKeys", apart := false }
def FnExactCompareKeysSaid : Prop := fnExactCompareKeysRow.holds Try.pinned (OpenSpec.ofChange fnExactCompareKeysSpec)

/-- ITS FALSE NEIGHBOUR: 'it returns false'. Refute it at one input. -/
def fnExactCompareKeysWrong : ChangeSpec := { name := "fnExactCompareKeys", fn := fun _ => fun
  | [d1, d2] => { results := [.lit (.bool false)], args := [d1, d2] }
  | _ => none }
def FnExactCompareKeysWrongFalsely : Prop := fnExactCompareKeysRow.holds Try.pinned (OpenSpec.ofChange fnExactCompareKeysWrong)

/-- 'laws.FnExactValidValue': WHATEVER THE INPUT: true; the input reads as it did. -/
def fnExactValidValueSpec : ChangeSpec := { name := "fnExactValidValue", fn := fun _ => fun
  | [d] => { results := [.lit (.bool true)], args := [d] }
  | _ => none }
def fnExactValidValueRow : OpenClaim := { program := "ytngmiaglbmkbcaa", sum := "7e2ed09139d46abb4a40aa7af987012b5fd6ffa6a0eb8d6ea64d213b0b1cf284", func := "loop.example/schemamigration/laws.FnExactValidValue", spec := "fnExactValidValue", apart := false }
def FnExactValidValueSaid : Prop := fnExactValidValueRow.holds Try.pinned (OpenSpec.ofChange fnExactValidValueSpec)

/-- ITS FALSE NEIGHBOUR: 'it returns false'. Refute it at one input. -/
def fnExactValidValueWrong : ChangeSpec := { name := "fnExactValidValue", fn := fun _ => fun
  | [d] => { results := [.lit (.bool false)], args := [d] }
  | _ => none }
def FnExactValidValueWrongFalsely : Prop := fnExactValidValueRow.holds Try.pinned (OpenSpec.ofChange fnExactValidValueWrong)

/-- 'laws.FnExactCompareValues': WHATEVER THE INPUT: true; the input reads as it did. -/
def fnExactCompareValuesSpec : ChangeSpec := { name := "fnExactCompareValues", fn := fun _ => fun
  | [d1, d2] => { results := [.lit (.bool true)], args := [d1, d2] }
  | _ => none }
def fnExactCompareValuesRow : OpenClaim := { program := "ytngmiaglbmkbcaa", sum := "7e2ed09139d46abb4a40aa7af987012b5fd6ffa6a0eb8d6ea64d213b0b1cf284", func := "loop.example/schemamigration/laws.FnExactCompareValues", spec := "fnExactCompareValues", apart := false }
def FnExactCompareValuesSaid : Prop := fnExactCompareValuesRow.holds Try.pinned (OpenSpec.ofChange fnExactCompareValuesSpec)

/-- ITS FALSE NEIGHBOUR: 'it returns false'. Refute it at one input. -/
def fnExactCompareValuesWrong : ChangeSpec := { name := "fnExactCompareValues", fn := fun _ => fun
  | [d1, d2] => { results := [.lit (.bool false)], args := [d1, d2] }
  | _ => none }
def FnExactCompareValuesWrongFalsely : Prop := fnExactCompareValuesRow.holds Try.pinned (OpenSpec.ofChange fnExactCompareValuesWrong)

/-- 'laws.FnValidValue': WHATEVER THE INPUT: true; the input reads as it did. -/
def fnValidValueSpec : ChangeSpec := { name := "fnValidValue", fn := fun _ => fun
  | [d] => { results := [.lit (.bool true)], args := [d] }
  | _ => none }
def fnValidValueRow : OpenClaim := { program := "ytngmiaglbmkbcaa", sum := "7e2ed09139d46abb4a40aa7af987012b5fd6ffa6a0eb8d6ea64d213b0b1cf284", func := "loop.example/schemamigration/laws.FnValidValue", spec := "fnValidValue", apart := false }
def FnValidValueSaid : Prop := fnValidValueRow.holds Try.pinned (OpenSpec.ofChange fnValidValueSpec)

/-- ITS FALSE NEIGHBOUR: 'it returns false'. Refute it at one input. -/
def fnValidValueWrong : ChangeSpec := { name := "fnValidValue", fn := fun _ => fun
  | [d] => { results := [.lit (.bool false)], args := [d] }
  | _ => none }
def FnValidValueWrongFalsely : Prop := fnValidValueRow.holds Try.pinned (OpenSpec.ofChange fnValidValueWrong)

/-- 'laws.FnCompareValues': WHATEVER THE INPUT: true; the input reads as it did. -/
def fnCompareValuesSpec : ChangeSpec := { name := "fnCompareValues", fn := fun _ => fun
  | [d] => { results := [.lit (.bool true)], args := [d] }
  | _ => none }
def fnCompareValuesRow : OpenClaim := { program := "ytngmiaglbmkbcaa", sum := "7e2ed09139d46abb4a40aa7af987012b5fd6ffa6a0eb8d6ea64d213b0b1cf284", func := "loop.example/schemamigration/laws.FnCompareValues", spec := "fnCompareValues", apart := false }
def FnCompareValuesSaid : Prop := fnCompareValuesRow.holds Try.pinned (OpenSpec.ofChange fnCompareValuesSpec)

/-- ITS FALSE NEIGHBOUR: 'it returns false'. Refute it at one input. -/
def fnCompareValuesWrong : ChangeSpec := { name := "fnCompareValues", fn := fun _ => fun
  | [d] => { results := [.lit (.bool false)], args := [d] }
  | _ => none }
def FnCompareValuesWrongFalsely : Prop := fnCompareValuesRow.holds Try.pinned (OpenSpec.ofChange fnCompareValuesWrong)

/-- 'laws.FnCompareValuesThree': WHATEVER THE INPUT: true; the input reads as it did. -/
def fnCompareValuesThreeSpec : ChangeSpec := { name := "fnCompareValuesThree", fn := fun _ => fun
  | [d] => { results := [.lit (.bool true)], args := [d] }
  | _ => none }
def fnCompareValuesThreeRow : OpenClaim := { program := "ytngmiaglbmkbcaa", sum := "7e2ed09139d46abb4a40aa7af987012b5fd6ffa6a0eb8d6ea64d213b0b1cf284", func := "loop.example/schemamigration/laws.FnCompareValuesThree", spec := "fnCompareValuesThree", apart := false }
def FnCompareValuesThreeSaid : Prop := fnCompareValuesThreeRow.holds Try.pinned (OpenSpec.ofChange fnCompareValuesThreeSpec)

/-- ITS FALSE NEIGHBOUR: 'it returns false'. Refute it at one input. -/
def fnCompareValuesThreeWrong : ChangeSpec := { name := "fnCompareValuesThree", fn := fun _ => fun
  | [d] => { results := [.lit (.bool false)], args := [d] }
  | _ => none }
def FnCompareValuesThreeWrongFalsely : Prop := fnCompareValuesThreeRow.holds Try.pinned (OpenSpec.ofChange fnCompareValuesThreeWrong)

/-- 'laws.FnCompareKeys': WHATEVER THE INPUT: true; the input reads as it did. -/
def fnCompareKeysSpec : ChangeSpec := { name := "fnCompareKeys", fn := fun _ => fun
  | [d] => { results := [.lit (.bool true)], args := [d] }
  | _ => none }
def fnCompareKeysRow : OpenClaim := { program := "ytngmiaglbmkbcaa", sum := "7e2ed09139d46abb4a40aa7af987012b5fd6ffa6a0eb8d6ea64d213b0b1cf284", func := "loop.example/schemamigration/laws.FnCompareKeys", spec := "fnCompareKeys", apart := false }
def FnCompareKeysSaid : Prop := fnCompareKeysRow.holds Try.pinned (OpenSpec.ofChange fnCompareKeysSpec)

/-- ITS FALSE NEIGHBOUR: 'it returns false'. Refute it at one input. -/
def fnCompareKeysWrong : ChangeSpec := { name := "fnCompareKeys", fn := fun _ => fun
  | [d] => { results := [.lit (.bool false)], args := [d] }
  | _ => none }
def FnCompareKeysWrongFalsely : Prop := fnCompareKeysRow.holds Try.pinned (OpenSpec.ofChange fnCompareKeysWrong)

/-- 'laws.FnExactCompareRows': WHATEVER THE INPUT: true; the input reads as it did. -/
def fnExactCompareRowsSpec : ChangeSpec := { name := "fnExactCompareRows", fn := fun _ => fun
  | [d1, d2] => { results := [.lit (.bool true)], args := [d1, d2] }
  | _ => none }
def fnExactCompareRowsRow : OpenClaim := { program := "ytngmiaglbmkbcaa", sum := "7e2ed09139d46abb4a40aa7af987012b5fd6ffa6a0eb8d6ea64d213b0b1cf284", func := "loop.example/schemamigration/laws.FnExactCompareRows", spec := "fnExactCompareRows", apart := false }
def FnExactCompareRowsSaid : Prop := fnExactCompareRowsRow.holds Try.pinned (OpenSpec.ofChange fnExactCompareRowsSpec)

/-- ITS FALSE NEIGHBOUR: 'it returns false'. Refute it at one input. -/
def fnExactCompareRowsWrong : ChangeSpec := { name := "fnExactCompareRows", fn := fun _ => fun
  | [d1, d2] => { results := [.lit (.bool false)], args := [d1, d2] }
  | _ => none }
def FnExactCompareRowsWrongFalsely : Prop := fnExactCompareRowsRow.holds Try.pinned (OpenSpec.ofChange fnExactCompareRowsWrong)

/-- 'laws.FnCompareRows': WHATEVER THE INPUT: true; the input reads as it did. -/
def fnCompareRowsSpec : ChangeSpec := { name := "fnCompareRows", fn := fun _ => fun
  | [d] => { results := [.lit (.bool true)], args := [d] }
  | _ => none }
def fnCompareRowsRow : OpenClaim := { program := "ytngmiaglbmkbcaa", sum := "7e2ed09139d46abb4a40aa7af987012b5fd6ffa6a0eb8d6ea64d213b0b1cf284", func := "loop.example/schemamigration/laws.FnCompareRows", spec := "fnCompareRows", apart := false }
def FnCompareRowsSaid : Prop := fnCompareRowsRow.holds Try.pinned (OpenSpec.ofChange fnCompareRowsSpec)

/-- ITS FALSE NEIGHBOUR: 'it returns false'. Refute it at one input. -/
def fnCompareRowsWrong : ChangeSpec := { name := "fnCompareRows", fn := fun _ => fun
  | [d] => { results := [.lit (.bool false)], args := [d] }
  | _ => none }
def FnCompareRowsWrongFalsely : Prop := fnCompareRowsRow.holds Try.pinned (OpenSpec.ofChange fnCompareRowsWrong)

/- THE SECOND FORM. 'bulk': how many values and letters a reading holds, each counted each time it is reached (what is shared counts as often as it is met; a slice's spare places count too). A statement '..UptoSaid' is the law's where the arguments, and the package variables that the reading takes, are together of bulk at most 1048576: NARROWER than '..Said'. Prove '..Said' where nothing that the law and all that it calls make is longer than what came in: it says more and counts as full. Else prove '..UptoSaid'. A law counts once. -/
mutual
def uptoBulk {H : Type} : DataW H → Nat
  | .lit (.string bytes) => bytes.length + 1
  | .lit _ => 1
  | .nil => 1
  | .ptr d => uptoBulk d + 1
  | .slice elems spare => uptoBulkAll elems + uptoBulkAll spare + 1
  | .agg parts => uptoBulkAll parts + 1
  | .iface _ d => uptoBulk d + 1
  | .map entries => uptoBulkEntries entries + 1
  | .held _ => 1
def uptoBulkAll {H : Type} : List (DataW H) → Nat
  | [] => 0
  | d :: r => uptoBulk d + uptoBulkAll r
def uptoBulkEntries {H : Type} : List (Lit × DataW H) → Nat
  | [] => 0
  | x :: r => uptoBulkEntry x + uptoBulkEntries r
def uptoBulkEntry {H : Type} : Lit × DataW H → Nat
  | (.string bytes, d) => bytes.length + uptoBulk d + 1
  | (_, d) => uptoBulk d + 1
 end
def uptoSmall : (H : Type) → List (DataW H) → Bool := fun _ ds => decide (uptoBulkAll ds ≤ 1048576)
def OpenSpec.upto (s : _root_.Go.ChangeSpec) : _root_.Go.OpenSpec := { _root_.Go.OpenSpec.ofChange s with cond := some uptoSmall }

/-- 'laws.FnExactCompareKeys', WHERE WHAT IT READS IS OF BULK AT MOST 1048576: true; the input reads as it did. -/
def fnExactCompareKeysUptoRow : OpenClaim := { program := "ytngmiaglbmkbcaa", sum := "7e2ed09139d46abb4a40aa7af987012b5fd6ffa6a0eb8d6ea64d213b0b1cf284", func := "loop.example/schemamigration/laws.FnExactCompareKeys", spec := "fnExactCompareKeys", apart := false, narrowed := true }
def FnExactCompareKeysUptoSaid : Prop := fnExactCompareKeysUptoRow.holds Try.pinned (OpenSpec.upto fnExactCompareKeysSpec)

/-- 'laws.FnExactValidValue', WHERE WHAT IT READS IS OF BULK AT MOST 1048576: true; the input reads as it did. -/
def fnExactValidValueUptoRow : OpenClaim := { program := "ytngmiaglbmkbcaa", sum := "7e2ed09139d46abb4a40aa7af987012b5fd6ffa6a0eb8d6ea64d213b0b1cf284", func := "loop.example/schemamigration/laws.FnExactValidValue", spec := "fnExactValidValue", apart := false, narrowed := true }
def FnExactValidValueUptoSaid : Prop := fnExactValidValueUptoRow.holds Try.pinned (OpenSpec.upto fnExactValidValueSpec)

/-- 'laws.FnExactCompareValues', WHERE WHAT IT READS IS OF BULK AT MOST 1048576: true; the input reads as it did. -/
def fnExactCompareValuesUptoRow : OpenClaim := { program := "ytngmiaglbmkbcaa", sum := "7e2ed09139d46abb4a40aa7af987012b5fd6ffa6a0eb8d6ea64d213b0b1cf284", func := "loop.example/schemamigration/laws.FnExactCompareValues", spec := "fnExactCompareValues", apart := false, narrowed := true }
def FnExactCompareValuesUptoSaid : Prop := fnExactCompareValuesUptoRow.holds Try.pinned (OpenSpec.upto fnExactCompareValuesSpec)

/-- 'laws.FnValidValue', WHERE WHAT IT READS IS OF BULK AT MOST 1048576: true; the input reads as it did. -/
def fnValidValueUptoRow : OpenClaim := { program := "ytngmiaglbmkbcaa", sum := "7e2ed09139d46abb4a40aa7af987012b5fd6ffa6a0eb8d6ea64d213b0b1cf284", func := "loop.example/schemamigration/laws.FnValidValue", spec := "fnValidValue", apart := false, narrowed := true }
def FnValidValueUptoSaid : Prop := fnValidValueUptoRow.holds Try.pinned (OpenSpec.upto fnValidValueSpec)

/-- 'laws.FnCompareValues', WHERE WHAT IT READS IS OF BULK AT MOST 1048576: true; the input reads as it did. -/
def fnCompareValuesUptoRow : OpenClaim := { program := "ytngmiaglbmkbcaa", sum := "7e2ed09139d46abb4a40aa7af987012b5fd6ffa6a0eb8d6ea64d213b0b1cf284", func := "loop.example/schemamigration/laws.FnCompareValues", spec := "fnCompareValues", apart := false, narrowed := true }
def FnCompareValuesUptoSaid : Prop := fnCompareValuesUptoRow.holds Try.pinned (OpenSpec.upto fnCompareValuesSpec)

/-- 'laws.FnCompareValuesThree', WHERE WHAT IT READS IS OF BULK AT MOST 1048576: true; the input reads as it did. -/
def fnCompareValuesThreeUptoRow : OpenClaim := { program := "ytngmiaglbmkbcaa", sum := "7e2ed09139d46abb4a40aa7af987012b5fd6ffa6a0eb8d6ea64d213b0b1cf284", func := "loop.example/schemamigration/laws.FnCompareValuesThree", spec := "fnCompareValuesThree", apart := false, narrowed := true }
def FnCompareValuesThreeUptoSaid : Prop := fnCompareValuesThreeUptoRow.holds Try.pinned (OpenSpec.upto fnCompareValuesThreeSpec)

/-- 'laws.FnCompareKeys', WHERE WHAT IT READS IS OF BULK AT MOST 1048576: true; the input reads as it did. -/
def fnCompareKeysUptoRow : OpenClaim := { program := "ytngmiaglbmkbcaa", sum := "7e2ed09139d46abb4a40aa7af987012b5fd6ffa6a0eb8d6ea64d213b0b1cf284", func := "loop.example/schemamigration/laws.FnCompareKeys", spec := "fnCompareKeys", apart := false, narrowed := true }
def FnCompareKeysUptoSaid : Prop := fnCompareKeysUptoRow.holds Try.pinned (OpenSpec.upto fnCompareKeysSpec)

/-- 'laws.FnExactCompareRows', WHERE WHAT IT READS IS OF BULK AT MOST 1048576: true; the input reads as it did. -/
def fnExactCompareRowsUptoRow : OpenClaim := { program := "ytngmiaglbmkbcaa", sum := "7e2ed09139d46abb4a40aa7af987012b5fd6ffa6a0eb8d6ea64d213b0b1cf284", func := "loop.example/schemamigration/laws.FnExactCompareRows", spec := "fnExactCompareRows", apart := false, narrowed := true }
def FnExactCompareRowsUptoSaid : Prop := fnExactCompareRowsUptoRow.holds Try.pinned (OpenSpec.upto fnExactCompareRowsSpec)

/-- 'laws.FnCompareRows', WHERE WHAT IT READS IS OF BULK AT MOST 1048576: true; the input reads as it did. -/
def fnCompareRowsUptoRow : OpenClaim := { program := "ytngmiaglbmkbcaa", sum := "7e2ed09139d46abb4a40aa7af987012b5fd6ffa6a0eb8d6ea64d213b0b1cf284", func := "loop.example/schemamigration/laws.FnCompareRows", spec := "fnCompareRows", apart := false, narrowed := true }
def FnCompareRowsUptoSaid : Prop := fnCompareRowsUptoRow.holds Try.pinned (OpenSpec.upto fnCompareRowsSpec)

end Rows
end Go.Proofs.Ytngmiaglbmkbcaa
