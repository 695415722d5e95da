/-
  No cell of these rows narrows 'for every input' (looked for: loops, veiled, ifaces, maps, wideKeys, modest, calm, conditions, laid).
  DERIVED. THE GIVEN ROWS OF THIS SEAT. 12 by the template 'for every input the law returns true; each argument reads behind the call as it read before'; 0 by the template 'total and deterministic' (their statements: YtgabjepoooageaaTotals.lean).
  GIVEN WITH THE SEED: the statements are not yours to turn. If you find one false, say at which input.
  Laid BY PROGRAM, IN A SANDBOX (cutbox-rows.mjs): the forced cells as the released guide's own fill.sh prints them over the translation 7d6bd1bca3c69612… (all of the seat's roots in one cut). By AI agents, Wed Nov 11 2026. No macro, syntax, notation, axiom, sorry.
-/
import Derived.Test.YtgabjepoooageaaChecked
import GoSem.Claim
import GoSem.ClaimJoined
import GoSem.ClaimMapViews
import Derived.JoinedTies
import Derived.KernelRfl
namespace Go.Proofs.Ytgabjepoooageaa
/- THE CELL 'sum', in the pinned program and in every row, IS THE sha256 OF THE DUMP (.gsa) THAT YtgabjepoooageaaProg.lean LOADS. Nothing in Lean hashes anything: it is a label: what it is worth is what the hold of that sum in a sandbox is worth. -/
noncomputable def Try.pinned : Pinned := { name := "ytgabjepoooageaa", sum := "7d6bd1bca3c69612b4dfbe4546c119afd31702751eaca8e06b6018a4ef09ebda", checked := Try.checked }
namespace Rows
def none {H : Type} : Left H := { results := [], args := [] }

/-- 'laws.FnExactValidDisk': WHATEVER THE INPUT: true; the input reads as it did. -/
def fnExactValidDiskSpec : ChangeSpec := { name := "fnExactValidDisk", fn := fun _ => fun
  | [d] => { results := [.lit (.bool true)], args := [d] }
  | _ => none }
def fnExactValidDiskRow : OpenClaim := { program := "ytgabjepoooageaa", sum := "7d6bd1bca3c69612b4dfbe4546c119afd31702751eaca8e06b6018a4ef09ebda", func := "loop.example/schemamigration/laws.FnExactValidDisk", spec := "fnExactValidDisk", apart := false }
def FnExactValidDiskSaid : Prop := fnExactValidDiskRow.holds Try.pinned (OpenSpec.ofChange fnExactValidDiskSpec)

/-- ITS FALSE NEIGHBOUR: 'it returns false'. Refute it at one input. -/
def fnExactValidDiskWrong : ChangeSpec := { name := "fnExactValidDisk", fn := fun _ => fun
  | [d] => { results := [.lit (.bool false)], args := [d] }
  | _ => none }
def FnExactValidDiskWrongFalsely : Prop := fnExactValidDiskRow.holds Try.pinned (OpenSpec.ofChange fnExactValidDiskWrong)

/-- 'laws.FnValidDisk': WHATEVER THE INPUT: true; the input reads as it did. -/
def fnValidDiskSpec : ChangeSpec := { name := "fnValidDisk", fn := fun _ => fun
  | [d] => { results := [.lit (.bool true)], args := [d] }
  | _ => none }
def fnValidDiskRow : OpenClaim := { program := "ytgabjepoooageaa", sum := "7d6bd1bca3c69612b4dfbe4546c119afd31702751eaca8e06b6018a4ef09ebda", func := "loop.example/schemamigration/laws.FnValidDisk", spec := "fnValidDisk", apart := false }
def FnValidDiskSaid : Prop := fnValidDiskRow.holds Try.pinned (OpenSpec.ofChange fnValidDiskSpec)

/-- ITS FALSE NEIGHBOUR: 'it returns false'. Refute it at one input. -/
def fnValidDiskWrong : ChangeSpec := { name := "fnValidDisk", fn := fun _ => fun
  | [d] => { results := [.lit (.bool false)], args := [d] }
  | _ => none }
def FnValidDiskWrongFalsely : Prop := fnValidDiskRow.holds Try.pinned (OpenSpec.ofChange fnValidDiskWrong)

/-- 'laws.FnReadSector': WHATEVER THE INPUT: true; the input reads as it did. -/
def fnReadSectorSpec : ChangeSpec := { name := "fnReadSector", fn := fun _ => fun
  | [d] => { results := [.lit (.bool true)], args := [d] }
  | _ => none }
def fnReadSectorRow : OpenClaim := { program := "ytgabjepoooageaa", sum := "7d6bd1bca3c69612b4dfbe4546c119afd31702751eaca8e06b6018a4ef09ebda", func := "loop.example/schemamigration/laws.FnReadSector", spec := "fnReadSector", apart := false }
def FnReadSectorSaid : Prop := fnReadSectorRow.holds Try.pinned (OpenSpec.ofChange fnReadSectorSpec)

/-- ITS FALSE NEIGHBOUR: 'it returns false'. Refute it at one input. -/
def fnReadSectorWrong : ChangeSpec := { name := "fnReadSector", fn := fun _ => fun
  | [d] => { results := [.lit (.bool false)], args := [d] }
  | _ => none }
def FnReadSectorWrongFalsely : Prop := fnReadSectorRow.holds Try.pinned (OpenSpec.ofChange fnReadSectorWrong)

/-- 'laws.FnWriteSectorLost': WHATEVER THE INPUT: true; the input reads as it did. -/
def fnWriteSectorLostSpec : ChangeSpec := { name := "fnWriteSectorLost", fn := fun _ => fun
  | [d] => { results := [.lit (.bool true)], args := [d] }
  | _ => none }
def fnWriteSectorLostRow : OpenClaim := { program := "ytgabjepoooageaa", sum := "7d6bd1bca3c69612b4dfbe4546c119afd31702751eaca8e06b6018a4ef09ebda", func := "loop.example/schemamigration/laws.FnWriteSectorLost", spec := "fnWriteSectorLost", apart := false }
def FnWriteSectorLostSaid : Prop := fnWriteSectorLostRow.holds Try.pinned (OpenSpec.ofChange fnWriteSectorLostSpec)

/-- ITS FALSE NEIGHBOUR: 'it returns false'. Refute it at one input. -/
def fnWriteSectorLostWrong : ChangeSpec := { name := "fnWriteSectorLost", fn := fun _ => fun
  | [d] => { results := [.lit (.bool false)], args := [d] }
  | _ => none }
def FnWriteSectorLostWrongFalsely : Prop := fnWriteSectorLostRow.holds Try.pinned (OpenSpec.ofChange fnWriteSectorLostWrong)

/-- 'laws.FnCrashDisk': WHATEVER THE INPUT: true; the input reads as it did. -/
def fnCrashDiskSpec : ChangeSpec := { name := "fnCrashDisk", fn := fun _ => fun
  | [d] => { results := [.lit (.bool true)], args := [d] }
  | _ => none }
def fnCrashDiskRow : OpenClaim := { program := "ytgabjepoooageaa", sum := "7d6bd1bca3c69612b4dfbe4546c119afd31702751eaca8e06b6018a4ef09ebda", func := "loop.example/schemamigration/laws.FnCrashDisk", spec := "fnCrashDisk", apart := false }
def FnCrashDiskSaid : Prop := fnCrashDiskRow.holds Try.pinned (OpenSpec.ofChange fnCrashDiskSpec)

/-- ITS FALSE NEIGHBOUR: 'it returns false'. Refute it at one input. -/
def fnCrashDiskWrong : ChangeSpec := { name := "fnCrashDisk", fn := fun _ => fun
  | [d] => { results := [.lit (.bool false)], args := [d] }
  | _ => none }
def FnCrashDiskWrongFalsely : Prop := fnCrashDiskRow.holds Try.pinned (OpenSpec.ofChange fnCrashDiskWrong)

/-- 'laws.FnCrashDiskSynced': WHATEVER THE INPUT: true; the input reads as it did. -/
def fnCrashDiskSyncedSpec : ChangeSpec := { name := "fnCrashDiskSynced", fn := fun _ => fun
  | [d] => { results := [.lit (.bool true)], args := [d] }
  | _ => none }
def fnCrashDiskSyncedRow : OpenClaim := { program := "ytgabjepoooageaa", sum := "7d6bd1bca3c69612b4dfbe4546c119afd31702751eaca8e06b6018a4ef09ebda", func := "loop.example/schemamigration/laws.FnCrashDiskSynced", spec := "fnCrashDiskSynced", apart := false }
def FnCrashDiskSyncedSaid : Prop := fnCrashDiskSyncedRow.holds Try.pinned (OpenSpec.ofChange fnCrashDiskSyncedSpec)

/-- ITS FALSE NEIGHBOUR: 'it returns false'. Refute it at one input. -/
def fnCrashDiskSyncedWrong : ChangeSpec := { name := "fnCrashDiskSynced", fn := fun _ => fun
  | [d] => { results := [.lit (.bool false)], args := [d] }
  | _ => none }
def FnCrashDiskSyncedWrongFalsely : Prop := fnCrashDiskSyncedRow.holds Try.pinned (OpenSpec.ofChange fnCrashDiskSyncedWrong)

/-- 'laws.FnSyncDisk': WHATEVER THE INPUT: true; the input reads as it did. -/
def fnSyncDiskSpec : ChangeSpec := { name := "fnSyncDisk", fn := fun _ => fun
  | [d] => { results := [.lit (.bool true)], args := [d] }
  | _ => none }
def fnSyncDiskRow : OpenClaim := { program := "ytgabjepoooageaa", sum := "7d6bd1bca3c69612b4dfbe4546c119afd31702751eaca8e06b6018a4ef09ebda", func := "loop.example/schemamigration/laws.FnSyncDisk", spec := "fnSyncDisk", apart := false }
def FnSyncDiskSaid : Prop := fnSyncDiskRow.holds Try.pinned (OpenSpec.ofChange fnSyncDiskSpec)

/-- ITS FALSE NEIGHBOUR: 'it returns false'. Refute it at one input. -/
def fnSyncDiskWrong : ChangeSpec := { name := "fnSyncDisk", fn := fun _ => fun
  | [d] => { results := [.lit (.bool false)], args := [d] }
  | _ => none }
def FnSyncDiskWrongFalsely : Prop := fnSyncDiskRow.holds Try.pinned (OpenSpec.ofChange fnSyncDiskWrong)

/-- 'laws.FnWriteSector': WHATEVER THE INPUT: true; the input reads as it did. -/
def fnWriteSectorSpec : ChangeSpec := { name := "fnWriteSector", fn := fun _ => fun
  | [d] => { results := [.lit (.bool true)], args := [d] }
  | _ => none }
def fnWriteSectorRow : OpenClaim := { program := "ytgabjepoooageaa", sum := "7d6bd1bca3c69612b4dfbe4546c119afd31702751eaca8e06b6018a4ef09ebda", func := "loop.example/schemamigration/laws.FnWriteSector", spec := "fnWriteSector", apart := false }
def FnWriteSectorSaid : Prop := fnWriteSectorRow.holds Try.pinned (OpenSpec.ofChange fnWriteSectorSpec)

/-- ITS FALSE NEIGHBOUR: 'it returns false'. Refute it at one input. -/
def fnWriteSectorWrong : ChangeSpec := { name := "fnWriteSector", fn := fun _ => fun
  | [d] => { results := [.lit (.bool false)], args := [d] }
  | _ => none }
def FnWriteSectorWrongFalsely : Prop := fnWriteSectorRow.holds Try.pinned (OpenSpec.ofChange fnWriteSectorWrong)

/-- 'laws.FnExactReadSector': WHATEVER THE INPUT: true; the input reads as it did. -/
def fnExactReadSectorSpec : ChangeSpec := { name := "fnExactReadSector", fn := fun _ => fun
  | [d1, d2] => { results := [.lit (.bool true)], args := [d1, d2] }
  | _ => none }
def fnExactReadSectorRow : OpenClaim := { program := "ytgabjepoooageaa", sum := "7d6bd1bca3c69612b4dfbe4546c119afd31702751eaca8e06b6018a4ef09ebda", func := "loop.example/schemamigration/laws.FnExactReadSector", spec := "fnExactReadSector", apart := false }
def FnExactReadSectorSaid : Prop := fnExactReadSectorRow.holds Try.pinned (OpenSpec.ofChange fnExactReadSectorSpec)

/-- ITS FALSE NEIGHBOUR: 'it returns false'. Refute it at one input. -/
def fnExactReadSectorWrong : ChangeSpec := { name := "fnExactReadSector", fn := fun _ => fun
  | [d1, d2] => { results := [.lit (.bool false)], args := [d1, d2] }
  | _ => none }
def FnExactReadSectorWrongFalsely : Prop := fnExactReadSectorRow.holds Try.pinned (OpenSpec.ofChange fnExactReadSectorWrong)

/-- 'laws.FnExactWriteSector': WHATEVER THE INPUT: true; the input reads as it did. -/
def fnExactWriteSectorSpec : ChangeSpec := { name := "fnExactWriteSector", fn := fun _ => fun
  | [d1, d2] => { results := [.lit (.bool true)], args := [d1, d2] }
  | _ => none }
def fnExactWriteSectorRow : OpenClaim := { program := "ytgabjepoooageaa", sum := "7d6bd1bca3c69612b4dfbe4546c119afd31702751eaca8e06b6018a4ef09ebda", func := "loop.example/schemamigration/laws.FnExactWriteSector", spec := "fnExactWriteSector", apart := false }
def FnExactWriteSectorSaid : Prop := fnExactWriteSectorRow.holds Try.pinned (OpenSpec.ofChange fnExactWriteSectorSpec)

/-- ITS FALSE NEIGHBOUR: 'it returns false'. Refute it at one input. -/
def fnExactWriteSectorWrong : ChangeSpec := { name := "fnExactWriteSector", fn := fun _ => fun
  | [d1, d2] => { results := [.lit (.bool false)], args := [d1, d2] }
  | _ => none }
def FnExactWriteSectorWrongFalsely : Prop := fnExactWriteSectorRow.holds Try.pinned (OpenSpec.ofChange fnExactWriteSectorWrong)

/-- 'laws.FnExactCrashDisk': WHATEVER THE INPUT: true; the input reads as it did. -/
def fnExactCrashDiskSpec : ChangeSpec := { name := "fnExactCrashDisk", fn := fun _ => fun
  | [d1, d2] => { results := [.lit (.bool true)], args := [d1, d2] }
  | _ => none }
def fnExactCrashDiskRow : OpenClaim := { program := "ytgabjepoooageaa", sum := "7d6bd1bca3c69612b4dfbe4546c119afd31702751eaca8e06b6018a4ef09ebda", func := "loop.example/schemamigration/laws.FnExactCrashDisk", spec := "fnExactCrashDisk", apart := false }
def FnExactCrashDiskSaid : Prop := fnExactCrashDiskRow.holds Try.pinned (OpenSpec.ofChange fnExactCrashDiskSpec)

/-- ITS FALSE NEIGHBOUR: 'it returns false'. Refute it at one input. -/
def fnExactCrashDiskWrong : ChangeSpec := { name := "fnExactCrashDisk", fn := fun _ => fun
  | [d1, d2] => { results := [.lit (.bool false)], args := [d1, d2] }
  | _ => none }
def FnExactCrashDiskWrongFalsely : Prop := fnExactCrashDiskRow.holds Try.pinned (OpenSpec.ofChange fnExactCrashDiskWrong)

/-- 'laws.FnExactSyncDisk': WHATEVER THE INPUT: true; the input reads as it did. -/
def fnExactSyncDiskSpec : ChangeSpec := { name := "fnExactSyncDisk", fn := fun _ => fun
  | [d] => { results := [.lit (.bool true)], args := [d] }
  | _ => none }
def fnExactSyncDiskRow : OpenClaim := { program := "ytgabjepoooageaa", sum := "7d6bd1bca3c69612b4dfbe4546c119afd31702751eaca8e06b6018a4ef09ebda", func := "loop.example/schemamigration/laws.FnExactSyncDisk", spec := "fnExactSyncDisk", apart := false }
def FnExactSyncDiskSaid : Prop := fnExactSyncDiskRow.holds Try.pinned (OpenSpec.ofChange fnExactSyncDiskSpec)

/-- ITS FALSE NEIGHBOUR: 'it returns false'. Refute it at one input. -/
def fnExactSyncDiskWrong : ChangeSpec := { name := "fnExactSyncDisk", fn := fun _ => fun
  | [d] => { results := [.lit (.bool false)], args := [d] }
  | _ => none }
def FnExactSyncDiskWrongFalsely : Prop := fnExactSyncDiskRow.holds Try.pinned (OpenSpec.ofChange fnExactSyncDiskWrong)

/- THE SECOND FORM. 'bulk': how many values and letters a reading holds, each counted each time it is reached (what is shared counts as often as it is met; a slice's spare places count too). A statement '..UptoSaid' is the law's where the arguments, and the package variables that the reading takes, are together of bulk at most 1048576: NARROWER than '..Said'. Prove '..Said' where nothing that the law and all that it calls make is longer than what came in: it says more and counts as full. Else prove '..UptoSaid'. A law counts once. -/
mutual
def uptoBulk {H : Type} : DataW H → Nat
  | .lit (.string bytes) => bytes.length + 1
  | .lit _ => 1
  | .nil => 1
  | .ptr d => uptoBulk d + 1
  | .slice elems spare => uptoBulkAll elems + uptoBulkAll spare + 1
  | .agg parts => uptoBulkAll parts + 1
  | .iface _ d => uptoBulk d + 1
  | .map entries => uptoBulkEntries entries + 1
  | .held _ => 1
def uptoBulkAll {H : Type} : List (DataW H) → Nat
  | [] => 0
  | d :: r => uptoBulk d + uptoBulkAll r
def uptoBulkEntries {H : Type} : List (Lit × DataW H) → Nat
  | [] => 0
  | x :: r => uptoBulkEntry x + uptoBulkEntries r
def uptoBulkEntry {H : Type} : Lit × DataW H → Nat
  | (.string bytes, d) => bytes.length + uptoBulk d + 1
  | (_, d) => uptoBulk d + 1
 end
def uptoSmall : (H : Type) → List (DataW H) → Bool := fun _ ds => decide (uptoBulkAll ds ≤ 1048576)
def OpenSpec.upto (s : _root_.Go.ChangeSpec) : _root_.Go.OpenSpec := { _root_.Go.OpenSpec.ofChange s with cond := some uptoSmall }

/-- 'laws.FnExactValidDisk', WHERE WHAT IT READS IS OF BULK AT MOST 1048576: true; the input reads as it did. -/
def fnExactValidDiskUptoRow : OpenClaim := { program := "ytgabjepoooageaa", sum := "7d6bd1bca3c69612b4dfbe4546c119afd31702751eaca8e06b6018a4ef09ebda", func := "loop.example/schemamigration/laws.FnExactValidDisk", spec := "fnExactValidDisk", apart := false, narrowed := true }
def FnExactValidDiskUptoSaid : Prop := fnExactValidDiskUptoRow.holds Try.pinned (OpenSpec.upto fnExactValidDiskSpec)

/-- 'laws.FnValidDisk', WHERE WHAT IT READS IS OF BULK AT MOST 1048576: true; the input reads as it did. -/
def fnValidDiskUptoRow : OpenClaim := { program := "ytgabjepoooageaa", sum := "7d6bd1bca3c69612b4dfbe4546c119afd31702751eaca8e06b6018a4ef09ebda", func := "loop.example/schemamigration/laws.FnValidDisk", spec := "fnValidDisk", apart := false, narrowed := true }
def FnValidDiskUptoSaid : Prop := fnValidDiskUptoRow.holds Try.pinned (OpenSpec.upto fnValidDiskSpec)

/-- 'laws.FnReadSector', WHERE WHAT IT READS IS OF BULK AT MOST 1048576: true; the input reads as it did. -/
def fnReadSectorUptoRow : OpenClaim := { program := "ytgabjepoooageaa", sum := "7d6bd1bca3c69612b4dfbe4546c119afd31702751eaca8e06b6018a4ef09ebda", func := "loop.example/schemamigration/laws.FnReadSector", spec := "fnReadSector", apart := false, narrowed := true }
def FnReadSectorUptoSaid : Prop := fnReadSectorUptoRow.holds Try.pinned (OpenSpec.upto fnReadSectorSpec)

/-- 'laws.FnWriteSectorLost', WHERE WHAT IT READS IS OF BULK AT MOST 1048576: true; the input reads as it did. -/
def fnWriteSectorLostUptoRow : OpenClaim := { program := "ytgabjepoooageaa", sum := "7d6bd1bca3c69612b4dfbe4546c119afd31702751eaca8e06b6018a4ef09ebda", func := "loop.example/schemamigration/laws.FnWriteSectorLost", spec := "fnWriteSectorLost", apart := false, narrowed := true }
def FnWriteSectorLostUptoSaid : Prop := fnWriteSectorLostUptoRow.holds Try.pinned (OpenSpec.upto fnWriteSectorLostSpec)

/-- 'laws.FnCrashDisk', WHERE WHAT IT READS IS OF BULK AT MOST 1048576: true; the input reads as it did. -/
def fnCrashDiskUptoRow : OpenClaim := { program := "ytgabjepoooageaa", sum := "7d6bd1bca3c69612b4dfbe4546c119afd31702751eaca8e06b6018a4ef09ebda", func := "loop.example/schemamigration/laws.FnCrashDisk", spec := "fnCrashDisk", apart := false, narrowed := true }
def FnCrashDiskUptoSaid : Prop := fnCrashDiskUptoRow.holds Try.pinned (OpenSpec.upto fnCrashDiskSpec)

/-- 'laws.FnCrashDiskSynced', WHERE WHAT IT READS IS OF BULK AT MOST 1048576: true; the input reads as it did. -/
def fnCrashDiskSyncedUptoRow : OpenClaim := { program := "ytgabjepoooageaa", sum := "7d6bd1bca3c69612b4dfbe4546c119afd31702751eaca8e06b6018a4ef09ebda", func := "loop.example/schemamigration/laws.FnCrashDiskSynced", spec := "fnCrashDiskSynced", apart := false, narrowed := true }
def FnCrashDiskSyncedUptoSaid : Prop := fnCrashDiskSyncedUptoRow.holds Try.pinned (OpenSpec.upto fnCrashDiskSyncedSpec)

/-- 'laws.FnSyncDisk', WHERE WHAT IT READS IS OF BULK AT MOST 1048576: true; the input reads as it did. -/
def fnSyncDiskUptoRow : OpenClaim := { program := "ytgabjepoooageaa", sum := "7d6bd1bca3c69612b4dfbe4546c119afd31702751eaca8e06b6018a4ef09ebda", func := "loop.example/schemamigration/laws.FnSyncDisk", spec := "fnSyncDisk", apart := false, narrowed := true }
def FnSyncDiskUptoSaid : Prop := fnSyncDiskUptoRow.holds Try.pinned (OpenSpec.upto fnSyncDiskSpec)

/-- 'laws.FnWriteSector', WHERE WHAT IT READS IS OF BULK AT MOST 1048576: true; the input reads as it did. -/
def fnWriteSectorUptoRow : OpenClaim := { program := "ytgabjepoooageaa", sum := "7d6bd1bca3c69612b4dfbe4546c119afd31702751eaca8e06b6018a4ef09ebda", func := "loop.example/schemamigration/laws.FnWriteSector", spec := "fnWriteSector", apart := false, narrowed := true }
def FnWriteSectorUptoSaid : Prop := fnWriteSectorUptoRow.holds Try.pinned (OpenSpec.upto fnWriteSectorSpec)

/-- 'laws.FnExactReadSector', WHERE WHAT IT READS IS OF BULK AT MOST 1048576: true; the input reads as it did. -/
def fnExactReadSectorUptoRow : OpenClaim := { program := "ytgabjepoooageaa", sum := "7d6bd1bca3c69612b4dfbe4546c119afd31702751eaca8e06b6018a4ef09ebda", func := "loop.example/schemamigration/laws.FnExactReadSector", spec := "fnExactReadSector", apart := false, narrowed := true }
def FnExactReadSectorUptoSaid : Prop := fnExactReadSectorUptoRow.holds Try.pinned (OpenSpec.upto fnExactReadSectorSpec)

/-- 'laws.FnExactWriteSector', WHERE WHAT IT READS IS OF BULK AT MOST 1048576: true; the input reads as it did. -/
def fnExactWriteSectorUptoRow : OpenClaim := { program := "ytgabjepoooageaa", sum := "7d6bd1bca3c69612b4dfbe4546c119afd31702751eaca8e06b6018a4ef09ebda", func := "loop.example/schemamigration/laws.FnExactWriteSector", spec := "fnExactWriteSector", apart := false, narrowed := true }
def FnExactWriteSectorUptoSaid : Prop := fnExactWriteSectorUptoRow.holds Try.pinned (OpenSpec.upto fnExactWriteSectorSpec)

/-- 'laws.FnExactCrashDisk', WHERE WHAT IT READS IS OF BULK AT MOST 1048576: true; the input reads as it did. -/
def fnExactCrashDiskUptoRow : OpenClaim := { program := "ytgabjepoooageaa", sum := "7d6bd1bca3c69612b4dfbe4546c119afd31702751eaca8e06b6018a4ef09ebda", func := "loop.example/schemamigration/laws.FnExactCrashDisk", spec := "fnExactCrashDisk", apart := false, narrowed := true }
def FnExactCrashDiskUptoSaid : Prop := fnExactCrashDiskUptoRow.holds Try.pinned (OpenSpec.upto fnExactCrashDiskSpec)

/-- 'laws.FnExactSyncDisk', WHERE WHAT IT READS IS OF BULK AT MOST 1048576: true; the input reads as it did. -/
def fnExactSyncDiskUptoRow : OpenClaim := { program := "ytgabjepoooageaa", sum := "7d6bd1bca3c69612b4dfbe4546c119afd31702751eaca8e06b6018a4ef09ebda", func := "loop.example/schemamigration/laws.FnExactSyncDisk", spec := "fnExactSyncDisk", apart := false, narrowed := true }
def FnExactSyncDiskUptoSaid : Prop := fnExactSyncDiskUptoRow.holds Try.pinned (OpenSpec.upto fnExactSyncDiskSpec)

end Rows
end Go.Proofs.Ytgabjepoooageaa
