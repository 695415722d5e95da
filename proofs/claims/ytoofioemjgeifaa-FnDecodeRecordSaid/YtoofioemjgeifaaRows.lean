/-
  No cell of these rows narrows 'for every input' (looked for: loops, veiled, ifaces, maps, wideKeys, modest, calm, conditions, laid).
  DERIVED. THE GIVEN ROWS OF THIS SEAT. 9 by the template 'for every input the law returns true; each argument reads behind the call as it read before'; 0 by the template 'total and deterministic' (their statements: YtoofioemjgeifaaTotals.lean).
  GIVEN WITH THE SEED: the statements are not yours to turn. If you find one false, say at which input.
  Laid BY PROGRAM, IN A SANDBOX (cutbox-rows.mjs): the forced cells as the released guide's own fill.sh prints them over the translation 482eeee6fe223653… (all of the seat's roots in one cut). By AI agents, Wed Nov 11 2026. No macro, syntax, notation, axiom, sorry.
-/
import Derived.Test.YtoofioemjgeifaaChecked
import GoSem.Claim
import GoSem.ClaimJoined
import GoSem.ClaimMapViews
import Derived.JoinedTies
import Derived.KernelRfl
namespace Go.Proofs.Ytoofioemjgeifaa
/- THE CELL 'sum', in the pinned program and in every row, IS THE sha256 OF THE DUMP (.gsa) THAT YtoofioemjgeifaaProg.lean LOADS. Nothing in Lean hashes anything: it is a label: what it is worth is what the hold of that sum in a sandbox is worth. -/
noncomputable def Try.pinned : Pinned := { name := "ytoofioemjgeifaa", sum := "482eeee6fe22365380e0191adc708fe606b17a6278ccf6fa116577214864f601", checked := Try.checked }
namespace Rows
def none {H : Type} : Left H := { results := [], args := [] }

/-- 'laws.FnDecodeRecord': WHATEVER THE INPUT: true; the input reads as it did. -/
def fnDecodeRecordSpec : ChangeSpec := { name := "fnDecodeRecord", fn := fun _ => fun
  | [d] => { results := [.lit (.bool true)], args := [d] }
  | _ => none }
def fnDecodeRecordRow : OpenClaim := { program := "ytoofioemjgeifaa", sum := "482eeee6fe22365380e0191adc708fe606b17a6278ccf6fa116577214864f601", func := "loop.example/schemamigration/laws.FnDecodeRecord", spec := "fnDecodeRecord", inPlace := ["internal/bytealg.IndexByteString"], apart := false }
def FnDecodeRecordSaid : Prop := fnDecodeRecordRow.holds Try.pinned (OpenSpec.ofChange fnDecodeRecordSpec)

/-- ITS FALSE NEIGHBOUR: 'it returns false'. Refute it at one input. -/
def fnDecodeRecordWrong : ChangeSpec := { name := "fnDecodeRecord", fn := fun _ => fun
  | [d] => { results := [.lit (.bool false)], args := [d] }
  | _ => none }
def FnDecodeRecordWrongFalsely : Prop := fnDecodeRecordRow.holds Try.pinned (OpenSpec.ofChange fnDecodeRecordWrong)

/-- 'laws.FnExactEncodeKey': WHATEVER THE INPUT: true; the input reads as it did. -/
def fnExactEncodeKeySpec : ChangeSpec := { name := "fnExactEncodeKey", fn := fun _ => fun
  | [d] => { results := [.lit (.bool true)], args := [d] }
  | _ => none }
def fnExactEncodeKeyRow : OpenClaim := { program := "ytoofioemjgeifaa", sum := "482eeee6fe22365380e0191adc708fe606b17a6278ccf6fa116577214864f601", func := "loop.example/schemamigration/laws.FnExactEncodeKey", spec := "fnExactEncodeKey", apart := false }
def FnExactEncodeKeySaid : Prop := fnExactEncodeKeyRow.holds Try.pinned (OpenSpec.ofChange fnExactEncodeKeySpec)

/-- ITS FALSE NEIGHBOUR: 'it returns false'. Refute it at one input. -/
def fnExactEncodeKeyWrong : ChangeSpec := { name := "fnExactEncodeKey", fn := fun _ => fun
  | [d] => { results := [.lit (.bool false)], args := [d] }
  | _ => none }
def FnExactEncodeKeyWrongFalsely : Prop := fnExactEncodeKeyRow.holds Try.pinned (OpenSpec.ofChange fnExactEncodeKeyWrong)

/-- 'laws.FnExactEncodeRecord': WHATEVER THE INPUT: true; the input reads as it did. -/
def fnExactEncodeRecordSpec : ChangeSpec := { name := "fnExactEncodeRecord", fn := fun _ => fun
  | [d1, d2] => { results := [.lit (.bool true)], args := [d1, d2] }
  | _ => none }
def fnExactEncodeRecordRow : OpenClaim := { program := "ytoofioemjgeifaa", sum := "482eeee6fe22365380e0191adc708fe606b17a6278ccf6fa116577214864f601", func := "loop.example/schemamigration/laws.FnExactEncodeRecord", spec := "fnExactEncodeRecord", apart := false }
def FnExactEncodeRecordSaid : Prop := fnExactEncodeRecordRow.holds Try.pinned (OpenSpec.ofChange fnExactEncodeRecordSpec)

/-- ITS FALSE NEIGHBOUR: 'it returns false'. Refute it at one input. -/
def fnExactEncodeRecordWrong : ChangeSpec := { name := "fnExactEncodeRecord", fn := fun _ => fun
  | [d1, d2] => { results := [.lit (.bool false)], args := [d1, d2] }
  | _ => none }
def FnExactEncodeRecordWrongFalsely : Prop := fnExactEncodeRecordRow.holds Try.pinned (OpenSpec.ofChange fnExactEncodeRecordWrong)

/-- 'laws.FnExactDecodeKey': WHATEVER THE INPUT: true; the input reads as it did. -/
def fnExactDecodeKeySpec : ChangeSpec := { name := "fnExactDecodeKey", fn := fun _ => fun
  | [d] => { results := [.lit (.bool true)], args := [d] }
  | _ => none }
def fnExactDecodeKeyRow : OpenClaim := { program := "ytoofioemjgeifaa", sum := "482eeee6fe22365380e0191adc708fe606b17a6278ccf6fa116577214864f601", func := "loop.example/schemamigration/laws.FnExactDecodeKey", spec := "fnExactDecodeKey", inPlace := ["internal/bytealg.IndexByteString"], apart := false }
def FnExactDecodeKeySaid : Prop := fnExactDecodeKeyRow.holds Try.pinned (OpenSpec.ofChange fnExactDecodeKeySpec)

/-- ITS FALSE NEIGHBOUR: 'it returns false'. Refute it at one input. -/
def fnExactDecodeKeyWrong : ChangeSpec := { name := "fnExactDecodeKey", fn := fun _ => fun
  | [d] => { results := [.lit (.bool false)], args := [d] }
  | _ => none }
def FnExactDecodeKeyWrongFalsely : Prop := fnExactDecodeKeyRow.holds Try.pinned (OpenSpec.ofChange fnExactDecodeKeyWrong)

/-- 'laws.FnExactDecodeRecord': WHATEVER THE INPUT: true; the input reads as it did. -/
def fnExactDecodeRecordSpec : ChangeSpec := { name := "fnExactDecodeRecord", fn := fun _ => fun
  | [d] => { results := [.lit (.bool true)], args := [d] }
  | _ => none }
def fnExactDecodeRecordRow : OpenClaim := { program := "ytoofioemjgeifaa", sum := "482eeee6fe22365380e0191adc708fe606b17a6278ccf6fa116577214864f601", func := "loop.example/schemamigration/laws.FnExactDecodeRecord", spec := "fnExactDecodeRecord", inPlace := ["internal/bytealg.IndexByteString"], apart := false }
def FnExactDecodeRecordSaid : Prop := fnExactDecodeRecordRow.holds Try.pinned (OpenSpec.ofChange fnExactDecodeRecordSpec)

/-- ITS FALSE NEIGHBOUR: 'it returns false'. Refute it at one input. -/
def fnExactDecodeRecordWrong : ChangeSpec := { name := "fnExactDecodeRecord", fn := fun _ => fun
  | [d] => { results := [.lit (.bool false)], args := [d] }
  | _ => none }
def FnExactDecodeRecordWrongFalsely : Prop := fnExactDecodeRecordRow.holds Try.pinned (OpenSpec.ofChange fnExactDecodeRecordWrong)

/-- 'laws.FnEncodeKey': WHATEVER THE INPUT: true; the input reads as it did. -/
def fnEncodeKeySpec : ChangeSpec := { name := "fnEncodeKey", fn := fun _ => fun
  | [d] => { results := [.lit (.bool true)], args := [d] }
  | _ => none }
def fnEncodeKeyRow : OpenClaim := { program := "ytoofioemjgeifaa", sum := "482eeee6fe22365380e0191adc708fe606b17a6278ccf6fa116577214864f601", func := "loop.example/schemamigration/laws.FnEncodeKey", spec := "fnEncodeKey", inPlace := ["internal/bytealg.IndexByteString"], apart := false }
def FnEncodeKeySaid : Prop := fnEncodeKeyRow.holds Try.pinned (OpenSpec.ofChange fnEncodeKeySpec)

/-- ITS FALSE NEIGHBOUR: 'it returns false'. Refute it at one input. -/
def fnEncodeKeyWrong : ChangeSpec := { name := "fnEncodeKey", fn := fun _ => fun
  | [d] => { results := [.lit (.bool false)], args := [d] }
  | _ => none }
def FnEncodeKeyWrongFalsely : Prop := fnEncodeKeyRow.holds Try.pinned (OpenSpec.ofChange fnEncodeKeyWrong)

/-- 'laws.FnEncodeKeyOrder': WHATEVER THE INPUT: true; the input reads as it did. -/
def fnEncodeKeyOrderSpec : ChangeSpec := { name := "fnEncodeKeyOrder", fn := fun _ => fun
  | [d] => { results := [.lit (.bool true)], args := [d] }
  | _ => none }
def fnEncodeKeyOrderRow : OpenClaim := { program := "ytoofioemjgeifaa", sum := "482eeee6fe22365380e0191adc708fe606b17a6278ccf6fa116577214864f601", func := "loop.example/schemamigration/laws.FnEncodeKeyOrder", spec := "fnEncodeKeyOrder", apart := false }
def FnEncodeKeyOrderSaid : Prop := fnEncodeKeyOrderRow.holds Try.pinned (OpenSpec.ofChange fnEncodeKeyOrderSpec)

/-- ITS FALSE NEIGHBOUR: 'it returns false'. Refute it at one input. -/
def fnEncodeKeyOrderWrong : ChangeSpec := { name := "fnEncodeKeyOrder", fn := fun _ => fun
  | [d] => { results := [.lit (.bool false)], args := [d] }
  | _ => none }
def FnEncodeKeyOrderWrongFalsely : Prop := fnEncodeKeyOrderRow.holds Try.pinned (OpenSpec.ofChange fnEncodeKeyOrderWrong)

/-- 'laws.FnEncodeRecord': WHATEVER THE INPUT: true; the input reads as it did. -/
def fnEncodeRecordSpec : ChangeSpec := { name := "fnEncodeRecord", fn := fun _ => fun
  | [d] => { results := [.lit (.bool true)], args := [d] }
  | _ => none }
def fnEncodeRecordRow : OpenClaim := { program := "ytoofioemjgeifaa", sum := "482eeee6fe22365380e0191adc708fe606b17a6278ccf6fa116577214864f601", func := "loop.example/schemamigration/laws.FnEncodeRecord", spec := "fnEncodeRecord", inPlace := ["internal/bytealg.IndexByteString"], apart := false }
def FnEncodeRecordSaid : Prop := fnEncodeRecordRow.holds Try.pinned (OpenSpec.ofChange fnEncodeRecordSpec)

/-- ITS FALSE NEIGHBOUR: 'it returns false'. Refute it at one input. -/
def fnEncodeRecordWrong : ChangeSpec := { name := "fnEncodeRecord", fn := fun _ => fun
  | [d] => { results := [.lit (.bool false)], args := [d] }
  | _ => none }
def FnEncodeRecordWrongFalsely : Prop := fnEncodeRecordRow.holds Try.pinned (OpenSpec.ofChange fnEncodeRecordWrong)

/-- 'laws.FnDecodeKey': WHATEVER THE INPUT: true; the input reads as it did. -/
def fnDecodeKeySpec : ChangeSpec := { name := "fnDecodeKey", fn := fun _ => fun
  | [d] => { results := [.lit (.bool true)], args := [d] }
  | _ => none }
def fnDecodeKeyRow : OpenClaim := { program := "ytoofioemjgeifaa", sum := "482eeee6fe22365380e0191adc708fe606b17a6278ccf6fa116577214864f601", func := "loop.example/schemamigration/laws.FnDecodeKey", spec := "fnDecodeKey", inPlace := ["internal/bytealg.IndexByteString"], apart := false }
def FnDecodeKeySaid : Prop := fnDecodeKeyRow.holds Try.pinned (OpenSpec.ofChange fnDecodeKeySpec)

/-- ITS FALSE NEIGHBOUR: 'it returns false'. Refute it at one input. -/
def fnDecodeKeyWrong : ChangeSpec := { name := "fnDecodeKey", fn := fun _ => fun
  | [d] => { results := [.lit (.bool false)], args := [d] }
  | _ => none }
def FnDecodeKeyWrongFalsely : Prop := fnDecodeKeyRow.holds Try.pinned (OpenSpec.ofChange fnDecodeKeyWrong)

/- THE SECOND FORM. 'bulk': how many values and letters a reading holds, each counted each time it is reached (what is shared counts as often as it is met; a slice's spare places count too). A statement '..UptoSaid' is the law's where the arguments, and the package variables that the reading takes, are together of bulk at most 1048576: NARROWER than '..Said'. Prove '..Said' where nothing that the law and all that it calls make is longer than what came in: it says more and counts as full. Else prove '..UptoSaid'. A law counts once. -/
mutual
def uptoBulk {H : Type} : DataW H → Nat
  | .lit (.string bytes) => bytes.length + 1
  | .lit _ => 1
  | .nil => 1
  | .ptr d => uptoBulk d + 1
  | .slice elems spare => uptoBulkAll elems + uptoBulkAll spare + 1
  | .agg parts => uptoBulkAll parts + 1
  | .iface _ d => uptoBulk d + 1
  | .map entries => uptoBulkEntries entries + 1
  | .held _ => 1
def uptoBulkAll {H : Type} : List (DataW H) → Nat
  | [] => 0
  | d :: r => uptoBulk d + uptoBulkAll r
def uptoBulkEntries {H : Type} : List (Lit × DataW H) → Nat
  | [] => 0
  | x :: r => uptoBulkEntry x + uptoBulkEntries r
def uptoBulkEntry {H : Type} : Lit × DataW H → Nat
  | (.string bytes, d) => bytes.length + uptoBulk d + 1
  | (_, d) => uptoBulk d + 1
 end
def uptoSmall : (H : Type) → List (DataW H) → Bool := fun _ ds => decide (uptoBulkAll ds ≤ 1048576)
def OpenSpec.upto (s : _root_.Go.ChangeSpec) : _root_.Go.OpenSpec := { _root_.Go.OpenSpec.ofChange s with cond := some uptoSmall }

/-- 'laws.FnDecodeRecord', WHERE WHAT IT READS IS OF BULK AT MOST 1048576: true; the input reads as it did. -/
def fnDecodeRecordUptoRow : OpenClaim := { program := "ytoofioemjgeifaa", sum := "482eeee6fe22365380e0191adc708fe606b17a6278ccf6fa116577214864f601", func := "loop.example/schemamigration/laws.FnDecodeRecord", spec := "fnDecodeRecord", inPlace := ["internal/bytealg.IndexByteString"], apart := false, narrowed := true }
def FnDecodeRecordUptoSaid : Prop := fnDecodeRecordUptoRow.holds Try.pinned (OpenSpec.upto fnDecodeRecordSpec)

/-- 'laws.FnExactEncodeKey', WHERE WHAT IT READS IS OF BULK AT MOST 1048576: true; the input reads as it did. -/
def fnExactEncodeKeyUptoRow : OpenClaim := { program := "ytoofioemjgeifaa", sum := "482eeee6fe22365380e0191adc708fe606b17a6278ccf6fa116577214864f601", func := "loop.example/schemamigration/laws.FnExactEncodeKey", spec := "fnExactEncodeKey", apart := false, narrowed := true }
def FnExactEncodeKeyUptoSaid : Prop := fnExactEncodeKeyUptoRow.holds Try.pinned (OpenSpec.upto fnExactEncodeKeySpec)

/-- 'laws.FnExactEncodeRecord', WHERE WHAT IT READS IS OF BULK AT MOST 1048576: true; the input reads as it did. -/
def fnExactEncodeRecordUptoRow : OpenClaim := { program := "ytoofioemjgeifaa", sum := "482eeee6fe22365380e0191adc708fe606b17a6278ccf6fa116577214864f601", func := "loop.example/schemamigration/laws.FnExactEncodeRecord", spec := "fnExactEncodeRecord", apart := false, narrowed := true }
def FnExactEncodeRecordUptoSaid : Prop := fnExactEncodeRecordUptoRow.holds Try.pinned (OpenSpec.upto fnExactEncodeRecordSpec)

/-- 'laws.FnExactDecodeKey', WHERE WHAT IT READS IS OF BULK AT MOST 1048576: true; the input reads as it did. -/
def fnExactDecodeKeyUptoRow : OpenClaim := { program := "ytoofioemjgeifaa", sum := "482eeee6fe22365380e0191adc708fe606b17a6278ccf6fa116577214864f601", func := "loop.example/schemamigration/laws.FnExactDecodeKey", spec := "fnExactDecodeKey", inPlace := ["internal/bytealg.IndexByteString"], apart := false, narrowed := true }
def FnExactDecodeKeyUptoSaid : Prop := fnExactDecodeKeyUptoRow.holds Try.pinned (OpenSpec.upto fnExactDecodeKeySpec)

/-- 'laws.FnExactDecodeRecord', WHERE WHAT IT READS IS OF BULK AT MOST 1048576: true; the input reads as it did. -/
def fnExactDecodeRecordUptoRow : OpenClaim := { program := "ytoofioemjgeifaa", sum := "482eeee6fe22365380e0191adc708fe606b17a6278ccf6fa116577214864f601", func := "loop.example/schemamigration/laws.FnExactDecodeRecord", spec := "fnExactDecodeRecord", inPlace := ["internal/bytealg.IndexByteString"], apart := false, narrowed := true }
def FnExactDecodeRecordUptoSaid : Prop := fnExactDecodeRecordUptoRow.holds Try.pinned (OpenSpec.upto fnExactDecodeRecordSpec)

/-- 'laws.FnEncodeKey', WHERE WHAT IT READS IS OF BULK AT MOST 1048576: true; the input reads as it did. -/
def fnEncodeKeyUptoRow : OpenClaim := { program := "ytoofioemjgeifaa", sum := "482eeee6fe22365380e0191adc708fe606b17a6278ccf6fa116577214864f601", func := "loop.example/schemamigration/laws.FnEncodeKey", spec := "fnEncodeKey", inPlace := ["internal/bytealg.IndexByteString"], apart := false, narrowed := true }
def FnEncodeKeyUptoSaid : Prop := fnEncodeKeyUptoRow.holds Try.pinned (OpenSpec.upto fnEncodeKeySpec)

/-- 'laws.FnEncodeKeyOrder', WHERE WHAT IT READS IS OF BULK AT MOST 1048576: true; the input reads as it did. -/
def fnEncodeKeyOrderUptoRow : OpenClaim := { program := "ytoofioemjgeifaa", sum := "482eeee6fe22365380e0191adc708fe606b17a6278ccf6fa116577214864f601", func := "loop.example/schemamigration/laws.FnEncodeKeyOrder", spec := "fnEncodeKeyOrder", apart := false, narrowed := true }
def FnEncodeKeyOrderUptoSaid : Prop := fnEncodeKeyOrderUptoRow.holds Try.pinned (OpenSpec.upto fnEncodeKeyOrderSpec)

/-- 'laws.FnEncodeRecord', WHERE WHAT IT READS IS OF BULK AT MOST 1048576: true; the input reads as it did. -/
def fnEncodeRecordUptoRow : OpenClaim := { program := "ytoofioemjgeifaa", sum := "482eeee6fe22365380e0191adc708fe606b17a6278ccf6fa116577214864f601", func := "loop.example/schemamigration/laws.FnEncodeRecord", spec := "fnEncodeRecord", inPlace := ["internal/bytealg.IndexByteString"], apart := false, narrowed := true }
def FnEncodeRecordUptoSaid : Prop := fnEncodeRecordUptoRow.holds Try.pinned (OpenSpec.upto fnEncodeRecordSpec)

/-- 'laws.FnDecodeKey', WHERE WHAT IT READS IS OF BULK AT MOST 1048576: true; the input reads as it did. -/
def fnDecodeKeyUptoRow : OpenClaim := { program := "ytoofioemjgeifaa", sum := "482eeee6fe22365380e0191adc708fe606b17a6278ccf6fa116577214864f601", func := "loop.example/schemamigration/laws.FnDecodeKey", spec := "fnDecodeKey", inPlace := ["internal/bytealg.IndexByteString"], apart := false, narrowed := true }
def FnDecodeKeyUptoSaid : Prop := fnDecodeKeyUptoRow.holds Try.pinned (OpenSpec.upto fnDecodeKeySpec)

end Rows
end Go.Proofs.Ytoofioemjgeifaa
