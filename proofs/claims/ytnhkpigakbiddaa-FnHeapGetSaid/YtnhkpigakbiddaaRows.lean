/-
  No cell of these rows narrows 'for every input' (looked for: loops, veiled, ifaces, maps, wideKeys, modest, calm, conditions, laid).
  DERIVED. THE GIVEN ROWS OF THIS SEAT. 11 by the template 'for every input the law returns true; each argument reads behind the call as it read before'; 0 by the template 'total and deterministic' (their statements: YtnhkpigakbiddaaTotals.lean).
  GIVEN WITH THE SEED: the statements are not yours to turn. If you find one false, say at which input.
  Laid BY PROGRAM, IN A SANDBOX (cutbox-rows.mjs): the forced cells as the released guide's own fill.sh prints them over the translation 32a43fa5d50eeb80… (all of the seat's roots in one cut). By AI agents, Wed Nov 11 2026. No macro, syntax, notation, axiom, sorry.
-/
import Derived.Test.YtnhkpigakbiddaaChecked
import GoSem.Claim
import GoSem.ClaimJoined
import GoSem.ClaimMapViews
import Derived.JoinedTies
import Derived.KernelRfl
namespace Go.Proofs.Ytnhkpigakbiddaa
/- THE CELL 'sum', in the pinned program and in every row, IS THE sha256 OF THE DUMP (.gsa) THAT YtnhkpigakbiddaaProg.lean LOADS. Nothing in Lean hashes anything: it is a label: what it is worth is what the hold of that sum in a sandbox is worth. -/
noncomputable def Try.pinned : Pinned := { name := "ytnhkpigakbiddaa", sum := "32a43fa5d50eeb802f714b2fd1415db95ecc38c74f2e4b942572e7ec43ae2afd", checked := Try.checked }
namespace Rows
def none {H : Type} : Left H := { results := [], args := [] }

/-- 'laws.FnExactValidPage': WHATEVER THE INPUT: true; the input reads as it did. -/
def fnExactValidPageSpec : ChangeSpec := { name := "fnExactValidPage", fn := fun _ => fun
  | [d] => { results := [.lit (.bool true)], args := [d] }
  | _ => none }
def fnExactValidPageRow : OpenClaim := { program := "ytnhkpigakbiddaa", sum := "32a43fa5d50eeb802f714b2fd1415db95ecc38c74f2e4b942572e7ec43ae2afd", func := "loop.example/schemamigration/laws.FnExactValidPage", spec := "fnExactValidPage", apart := false }
def FnExactValidPageSaid : Prop := fnExactValidPageRow.holds Try.pinned (OpenSpec.ofChange fnExactValidPageSpec)

/-- ITS FALSE NEIGHBOUR: 'it returns false'. Refute it at one input. -/
def fnExactValidPageWrong : ChangeSpec := { name := "fnExactValidPage", fn := fun _ => fun
  | [d] => { results := [.lit (.bool false)], args := [d] }
  | _ => none }
def FnExactValidPageWrongFalsely : Prop := fnExactValidPageRow.holds Try.pinned (OpenSpec.ofChange fnExactValidPageWrong)

/-- 'laws.FnExactPageFree': WHATEVER THE INPUT: true; the input reads as it did. -/
def fnExactPageFreeSpec : ChangeSpec := { name := "fnExactPageFree", fn := fun _ => fun
  | [d] => { results := [.lit (.bool true)], args := [d] }
  | _ => none }
def fnExactPageFreeRow : OpenClaim := { program := "ytnhkpigakbiddaa", sum := "32a43fa5d50eeb802f714b2fd1415db95ecc38c74f2e4b942572e7ec43ae2afd", func := "loop.example/schemamigration/laws.FnExactPageFree", spec := "fnExactPageFree", apart := false }
def FnExactPageFreeSaid : Prop := fnExactPageFreeRow.holds Try.pinned (OpenSpec.ofChange fnExactPageFreeSpec)

/-- ITS FALSE NEIGHBOUR: 'it returns false'. Refute it at one input. -/
def fnExactPageFreeWrong : ChangeSpec := { name := "fnExactPageFree", fn := fun _ => fun
  | [d] => { results := [.lit (.bool false)], args := [d] }
  | _ => none }
def FnExactPageFreeWrongFalsely : Prop := fnExactPageFreeRow.holds Try.pinned (OpenSpec.ofChange fnExactPageFreeWrong)

/-- 'laws.FnExactGetSlot': WHATEVER THE INPUT: true; the input reads as it did. -/
def fnExactGetSlotSpec : ChangeSpec := { name := "fnExactGetSlot", fn := fun _ => fun
  | [d1, d2] => { results := [.lit (.bool true)], args := [d1, d2] }
  | _ => none }
def fnExactGetSlotRow : OpenClaim := { program := "ytnhkpigakbiddaa", sum := "32a43fa5d50eeb802f714b2fd1415db95ecc38c74f2e4b942572e7ec43ae2afd", func := "loop.example/schemamigration/laws.FnExactGetSlot", spec := "fnExactGetSlot", apart := false }
def FnExactGetSlotSaid : Prop := fnExactGetSlotRow.holds Try.pinned (OpenSpec.ofChange fnExactGetSlotSpec)

/-- ITS FALSE NEIGHBOUR: 'it returns false'. Refute it at one input. -/
def fnExactGetSlotWrong : ChangeSpec := { name := "fnExactGetSlot", fn := fun _ => fun
  | [d1, d2] => { results := [.lit (.bool false)], args := [d1, d2] }
  | _ => none }
def FnExactGetSlotWrongFalsely : Prop := fnExactGetSlotRow.holds Try.pinned (OpenSpec.ofChange fnExactGetSlotWrong)

/-- 'laws.FnValidPage': WHATEVER THE INPUT: true; the input reads as it did. -/
def fnValidPageSpec : ChangeSpec := { name := "fnValidPage", fn := fun _ => fun
  | [d] => { results := [.lit (.bool true)], args := [d] }
  | _ => none }
def fnValidPageRow : OpenClaim := { program := "ytnhkpigakbiddaa", sum := "32a43fa5d50eeb802f714b2fd1415db95ecc38c74f2e4b942572e7ec43ae2afd", func := "loop.example/schemamigration/laws.FnValidPage", spec := "fnValidPage", apart := false }
def FnValidPageSaid : Prop := fnValidPageRow.holds Try.pinned (OpenSpec.ofChange fnValidPageSpec)

/-- ITS FALSE NEIGHBOUR: 'it returns false'. Refute it at one input. -/
def fnValidPageWrong : ChangeSpec := { name := "fnValidPage", fn := fun _ => fun
  | [d] => { results := [.lit (.bool false)], args := [d] }
  | _ => none }
def FnValidPageWrongFalsely : Prop := fnValidPageRow.holds Try.pinned (OpenSpec.ofChange fnValidPageWrong)

/-- 'laws.FnGetSlot': WHATEVER THE INPUT: true; the input reads as it did. -/
def fnGetSlotSpec : ChangeSpec := { name := "fnGetSlot", fn := fun _ => fun
  | [d] => { results := [.lit (.bool true)], args := [d] }
  | _ => none }
def fnGetSlotRow : OpenClaim := { program := "ytnhkpigakbiddaa", sum := "32a43fa5d50eeb802f714b2fd1415db95ecc38c74f2e4b942572e7ec43ae2afd", func := "loop.example/schemamigration/laws.FnGetSlot", spec := "fnGetSlot", apart := false }
def FnGetSlotSaid : Prop := fnGetSlotRow.holds Try.pinned (OpenSpec.ofChange fnGetSlotSpec)

/-- ITS FALSE NEIGHBOUR: 'it returns false'. Refute it at one input. -/
def fnGetSlotWrong : ChangeSpec := { name := "fnGetSlot", fn := fun _ => fun
  | [d] => { results := [.lit (.bool false)], args := [d] }
  | _ => none }
def FnGetSlotWrongFalsely : Prop := fnGetSlotRow.holds Try.pinned (OpenSpec.ofChange fnGetSlotWrong)

/-- 'laws.FnValidHeap': WHATEVER THE INPUT: true; the input reads as it did. -/
def fnValidHeapSpec : ChangeSpec := { name := "fnValidHeap", fn := fun _ => fun
  | [d] => { results := [.lit (.bool true)], args := [d] }
  | _ => none }
def fnValidHeapRow : OpenClaim := { program := "ytnhkpigakbiddaa", sum := "32a43fa5d50eeb802f714b2fd1415db95ecc38c74f2e4b942572e7ec43ae2afd", func := "loop.example/schemamigration/laws.FnValidHeap", spec := "fnValidHeap", apart := false }
def FnValidHeapSaid : Prop := fnValidHeapRow.holds Try.pinned (OpenSpec.ofChange fnValidHeapSpec)

/-- ITS FALSE NEIGHBOUR: 'it returns false'. Refute it at one input. -/
def fnValidHeapWrong : ChangeSpec := { name := "fnValidHeap", fn := fun _ => fun
  | [d] => { results := [.lit (.bool false)], args := [d] }
  | _ => none }
def FnValidHeapWrongFalsely : Prop := fnValidHeapRow.holds Try.pinned (OpenSpec.ofChange fnValidHeapWrong)

/-- 'laws.FnExactValidHeap': WHATEVER THE INPUT: true; the input reads as it did. -/
def fnExactValidHeapSpec : ChangeSpec := { name := "fnExactValidHeap", fn := fun _ => fun
  | [d] => { results := [.lit (.bool true)], args := [d] }
  | _ => none }
def fnExactValidHeapRow : OpenClaim := { program := "ytnhkpigakbiddaa", sum := "32a43fa5d50eeb802f714b2fd1415db95ecc38c74f2e4b942572e7ec43ae2afd", func := "loop.example/schemamigration/laws.FnExactValidHeap", spec := "fnExactValidHeap", apart := false }
def FnExactValidHeapSaid : Prop := fnExactValidHeapRow.holds Try.pinned (OpenSpec.ofChange fnExactValidHeapSpec)

/-- ITS FALSE NEIGHBOUR: 'it returns false'. Refute it at one input. -/
def fnExactValidHeapWrong : ChangeSpec := { name := "fnExactValidHeap", fn := fun _ => fun
  | [d] => { results := [.lit (.bool false)], args := [d] }
  | _ => none }
def FnExactValidHeapWrongFalsely : Prop := fnExactValidHeapRow.holds Try.pinned (OpenSpec.ofChange fnExactValidHeapWrong)

/-- 'laws.FnHeapScan': WHATEVER THE INPUT: true; the input reads as it did. -/
def fnHeapScanSpec : ChangeSpec := { name := "fnHeapScan", fn := fun _ => fun
  | [d] => { results := [.lit (.bool true)], args := [d] }
  | _ => none }
def fnHeapScanRow : OpenClaim := { program := "ytnhkpigakbiddaa", sum := "32a43fa5d50eeb802f714b2fd1415db95ecc38c74f2e4b942572e7ec43ae2afd", func := "loop.example/schemamigration/laws.FnHeapScan", spec := "fnHeapScan", apart := false }
def FnHeapScanSaid : Prop := fnHeapScanRow.holds Try.pinned (OpenSpec.ofChange fnHeapScanSpec)

/-- ITS FALSE NEIGHBOUR: 'it returns false'. Refute it at one input. -/
def fnHeapScanWrong : ChangeSpec := { name := "fnHeapScan", fn := fun _ => fun
  | [d] => { results := [.lit (.bool false)], args := [d] }
  | _ => none }
def FnHeapScanWrongFalsely : Prop := fnHeapScanRow.holds Try.pinned (OpenSpec.ofChange fnHeapScanWrong)

/-- 'laws.FnExactHeapGet': WHATEVER THE INPUT: true; the input reads as it did. -/
def fnExactHeapGetSpec : ChangeSpec := { name := "fnExactHeapGet", fn := fun _ => fun
  | [d1, d2] => { results := [.lit (.bool true)], args := [d1, d2] }
  | _ => none }
def fnExactHeapGetRow : OpenClaim := { program := "ytnhkpigakbiddaa", sum := "32a43fa5d50eeb802f714b2fd1415db95ecc38c74f2e4b942572e7ec43ae2afd", func := "loop.example/schemamigration/laws.FnExactHeapGet", spec := "fnExactHeapGet", apart := false }
def FnExactHeapGetSaid : Prop := fnExactHeapGetRow.holds Try.pinned (OpenSpec.ofChange fnExactHeapGetSpec)

/-- ITS FALSE NEIGHBOUR: 'it returns false'. Refute it at one input. -/
def fnExactHeapGetWrong : ChangeSpec := { name := "fnExactHeapGet", fn := fun _ => fun
  | [d1, d2] => { results := [.lit (.bool false)], args := [d1, d2] }
  | _ => none }
def FnExactHeapGetWrongFalsely : Prop := fnExactHeapGetRow.holds Try.pinned (OpenSpec.ofChange fnExactHeapGetWrong)

/-- 'laws.FnHeapGet': WHATEVER THE INPUT: true; the input reads as it did. -/
def fnHeapGetSpec : ChangeSpec := { name := "fnHeapGet", fn := fun _ => fun
  | [d] => { results := [.lit (.bool true)], args := [d] }
  | _ => none }
def fnHeapGetRow : OpenClaim := { program := "ytnhkpigakbiddaa", sum := "32a43fa5d50eeb802f714b2fd1415db95ecc38c74f2e4b942572e7ec43ae2afd", func := "loop.example/schemamigration/laws.FnHeapGet", spec := "fnHeapGet", apart := false }
def FnHeapGetSaid : Prop := fnHeapGetRow.holds Try.pinned (OpenSpec.ofChange fnHeapGetSpec)

/-- ITS FALSE NEIGHBOUR: 'it returns false'. Refute it at one input. -/
def fnHeapGetWrong : ChangeSpec := { name := "fnHeapGet", fn := fun _ => fun
  | [d] => { results := [.lit (.bool false)], args := [d] }
  | _ => none }
def FnHeapGetWrongFalsely : Prop := fnHeapGetRow.holds Try.pinned (OpenSpec.ofChange fnHeapGetWrong)

/-- 'laws.FnExactHeapScan': WHATEVER THE INPUT: true; the input reads as it did. -/
def fnExactHeapScanSpec : ChangeSpec := { name := "fnExactHeapScan", fn := fun _ => fun
  | [d] => { results := [.lit (.bool true)], args := [d] }
  | _ => none }
def fnExactHeapScanRow : OpenClaim := { program := "ytnhkpigakbiddaa", sum := "32a43fa5d50eeb802f714b2fd1415db95ecc38c74f2e4b942572e7ec43ae2afd", func := "loop.example/schemamigration/laws.FnExactHeapScan", spec := "fnExactHeapScan", apart := false }
def FnExactHeapScanSaid : Prop := fnExactHeapScanRow.holds Try.pinned (OpenSpec.ofChange fnExactHeapScanSpec)

/-- ITS FALSE NEIGHBOUR: 'it returns false'. Refute it at one input. -/
def fnExactHeapScanWrong : ChangeSpec := { name := "fnExactHeapScan", fn := fun _ => fun
  | [d] => { results := [.lit (.bool false)], args := [d] }
  | _ => none }
def FnExactHeapScanWrongFalsely : Prop := fnExactHeapScanRow.holds Try.pinned (OpenSpec.ofChange fnExactHeapScanWrong)

/- THE SECOND FORM. 'bulk': how many values and letters a reading holds, each counted each time it is reached (what is shared counts as often as it is met; a slice's spare places count too). A statement '..UptoSaid' is the law's where the arguments, and the package variables that the reading takes, are together of bulk at most 1048576: NARROWER than '..Said'. Prove '..Said' where nothing that the law and all that it calls make is longer than what came in: it says more and counts as full. Else prove '..UptoSaid'. A law counts once. -/
mutual
def uptoBulk {H : Type} : DataW H → Nat
  | .lit (.string bytes) => bytes.length + 1
  | .lit _ => 1
  | .nil => 1
  | .ptr d => uptoBulk d + 1
  | .slice elems spare => uptoBulkAll elems + uptoBulkAll spare + 1
  | .agg parts => uptoBulkAll parts + 1
  | .iface _ d => uptoBulk d + 1
  | .map entries => uptoBulkEntries entries + 1
  | .held _ => 1
def uptoBulkAll {H : Type} : List (DataW H) → Nat
  | [] => 0
  | d :: r => uptoBulk d + uptoBulkAll r
def uptoBulkEntries {H : Type} : List (Lit × DataW H) → Nat
  | [] => 0
  | x :: r => uptoBulkEntry x + uptoBulkEntries r
def uptoBulkEntry {H : Type} : Lit × DataW H → Nat
  | (.string bytes, d) => bytes.length + uptoBulk d + 1
  | (_, d) => uptoBulk d + 1
 end
def uptoSmall : (H : Type) → List (DataW H) → Bool := fun _ ds => decide (uptoBulkAll ds ≤ 1048576)
def OpenSpec.upto (s : _root_.Go.ChangeSpec) : _root_.Go.OpenSpec := { _root_.Go.OpenSpec.ofChange s with cond := some uptoSmall }

/-- 'laws.FnExactValidPage', WHERE WHAT IT READS IS OF BULK AT MOST 1048576: true; the input reads as it did. -/
def fnExactValidPageUptoRow : OpenClaim := { program := "ytnhkpigakbiddaa", sum := "32a43fa5d50eeb802f714b2fd1415db95ecc38c74f2e4b942572e7ec43ae2afd", func := "loop.example/schemamigration/laws.FnExactValidPage", spec := "fnExactValidPage", apart := false, narrowed := true }
def FnExactValidPageUptoSaid : Prop := fnExactValidPageUptoRow.holds Try.pinned (OpenSpec.upto fnExactValidPageSpec)

/-- 'laws.FnExactPageFree', WHERE WHAT IT READS IS OF BULK AT MOST 1048576: true; the input reads as it did. -/
def fnExactPageFreeUptoRow : OpenClaim := { program := "ytnhkpigakbiddaa", sum := "32a43fa5d50eeb802f714b2fd1415db95ecc38c74f2e4b942572e7ec43ae2afd", func := "loop.example/schemamigration/laws.FnExactPageFree", spec := "fnExactPageFree", apart := false, narrowed := true }
def FnExactPageFreeUptoSaid : Prop := fnExactPageFreeUptoRow.holds Try.pinned (OpenSpec.upto fnExactPageFreeSpec)

/-- 'laws.FnExactGetSlot', WHERE WHAT IT READS IS OF BULK AT MOST 1048576: true; the input reads as it did. -/
def fnExactGetSlotUptoRow : OpenClaim := { program := "ytnhkpigakbiddaa", sum := "32a43fa5d50eeb802f714b2fd1415db95ecc38c74f2e4b942572e7ec43ae2afd", func := "loop.example/schemamigration/laws.FnExactGetSlot", spec := "fnExactGetSlot", apart := false, narrowed := true }
def FnExactGetSlotUptoSaid : Prop := fnExactGetSlotUptoRow.holds Try.pinned (OpenSpec.upto fnExactGetSlotSpec)

/-- 'laws.FnValidPage', WHERE WHAT IT READS IS OF BULK AT MOST 1048576: true; the input reads as it did. -/
def fnValidPageUptoRow : OpenClaim := { program := "ytnhkpigakbiddaa", sum := "32a43fa5d50eeb802f714b2fd1415db95ecc38c74f2e4b942572e7ec43ae2afd", func := "loop.example/schemamigration/laws.FnValidPage", spec := "fnValidPage", apart := false, narrowed := true }
def FnValidPageUptoSaid : Prop := fnValidPageUptoRow.holds Try.pinned (OpenSpec.upto fnValidPageSpec)

/-- 'laws.FnGetSlot', WHERE WHAT IT READS IS OF BULK AT MOST 1048576: true; the input reads as it did. -/
def fnGetSlotUptoRow : OpenClaim := { program := "ytnhkpigakbiddaa", sum := "32a43fa5d50eeb802f714b2fd1415db95ecc38c74f2e4b942572e7ec43ae2afd", func := "loop.example/schemamigration/laws.FnGetSlot", spec := "fnGetSlot", apart := false, narrowed := true }
def FnGetSlotUptoSaid : Prop := fnGetSlotUptoRow.holds Try.pinned (OpenSpec.upto fnGetSlotSpec)

/-- 'laws.FnValidHeap', WHERE WHAT IT READS IS OF BULK AT MOST 1048576: true; the input reads as it did. -/
def fnValidHeapUptoRow : OpenClaim := { program := "ytnhkpigakbiddaa", sum := "32a43fa5d50eeb802f714b2fd1415db95ecc38c74f2e4b942572e7ec43ae2afd", func := "loop.example/schemamigration/laws.FnValidHeap", spec := "fnValidHeap", apart := false, narrowed := true }
def FnValidHeapUptoSaid : Prop := fnValidHeapUptoRow.holds Try.pinned (OpenSpec.upto fnValidHeapSpec)

/-- 'laws.FnExactValidHeap', WHERE WHAT IT READS IS OF BULK AT MOST 1048576: true; the input reads as it did. -/
def fnExactValidHeapUptoRow : OpenClaim := { program := "ytnhkpigakbiddaa", sum := "32a43fa5d50eeb802f714b2fd1415db95ecc38c74f2e4b942572e7ec43ae2afd", func := "loop.example/schemamigration/laws.FnExactValidHeap", spec := "fnExactValidHeap", apart := false, narrowed := true }
def FnExactValidHeapUptoSaid : Prop := fnExactValidHeapUptoRow.holds Try.pinned (OpenSpec.upto fnExactValidHeapSpec)

/-- 'laws.FnHeapScan', WHERE WHAT IT READS IS OF BULK AT MOST 1048576: true; the input reads as it did. -/
def fnHeapScanUptoRow : OpenClaim := { program := "ytnhkpigakbiddaa", sum := "32a43fa5d50eeb802f714b2fd1415db95ecc38c74f2e4b942572e7ec43ae2afd", func := "loop.example/schemamigration/laws.FnHeapScan", spec := "fnHeapScan", apart := false, narrowed := true }
def FnHeapScanUptoSaid : Prop := fnHeapScanUptoRow.holds Try.pinned (OpenSpec.upto fnHeapScanSpec)

/-- 'laws.FnExactHeapGet', WHERE WHAT IT READS IS OF BULK AT MOST 1048576: true; the input reads as it did. -/
def fnExactHeapGetUptoRow : OpenClaim := { program := "ytnhkpigakbiddaa", sum := "32a43fa5d50eeb802f714b2fd1415db95ecc38c74f2e4b942572e7ec43ae2afd", func := "loop.example/schemamigration/laws.FnExactHeapGet", spec := "fnExactHeapGet", apart := false, narrowed := true }
def FnExactHeapGetUptoSaid : Prop := fnExactHeapGetUptoRow.holds Try.pinned (OpenSpec.upto fnExactHeapGetSpec)

/-- 'laws.FnHeapGet', WHERE WHAT IT READS IS OF BULK AT MOST 1048576: true; the input reads as it did. -/
def fnHeapGetUptoRow : OpenClaim := { program := "ytnhkpigakbiddaa", sum := "32a43fa5d50eeb802f714b2fd1415db95ecc38c74f2e4b942572e7ec43ae2afd", func := "loop.example/schemamigration/laws.FnHeapGet", spec := "fnHeapGet", apart := false, narrowed := true }
def FnHeapGetUptoSaid : Prop := fnHeapGetUptoRow.holds Try.pinned (OpenSpec.upto fnHeapGetSpec)

/-- 'laws.FnExactHeapScan', WHERE WHAT IT READS IS OF BULK AT MOST 1048576: true; the input reads as it did. -/
def fnExactHeapScanUptoRow : OpenClaim := { program := "ytnhkpigakbiddaa", sum := "32a43fa5d50eeb802f714b2fd1415db95ecc38c74f2e4b942572e7ec43ae2afd", func := "loop.example/schemamigration/laws.FnExactHeapScan", spec := "fnExactHeapScan", apart := false, narrowed := true }
def FnExactHeapScanUptoSaid : Prop := fnExactHeapScanUptoRow.holds Try.pinned (OpenSpec.upto fnExactHeapScanSpec)

end Rows
end Go.Proofs.Ytnhkpigakbiddaa
