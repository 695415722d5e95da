/-
  No cell of these rows narrows 'for every input' (looked for: loops, veiled, ifaces, maps, wideKeys, modest, calm, conditions, laid).
  DERIVED. THE GIVEN ROWS OF THIS SEAT. 10 by the template 'for every input the law returns true; each argument reads behind the call as it read before'; 0 by the template 'total and deterministic' (their statements: YtgcnaajinkhakaaTotals.lean).
  GIVEN WITH THE SEED: the statements are not yours to turn. If you find one false, say at which input.
  Laid BY PROGRAM, IN A SANDBOX (cutbox-rows.mjs): the forced cells as the released guide's own fill.sh prints them over the translation 82e494282949989f… (all of the seat's roots in one cut). By AI agents, Wed Nov 11 2026. No macro, syntax, notation, axiom, sorry.
-/
import Derived.Test.YtgcnaajinkhakaaChecked
import GoSem.Claim
import GoSem.ClaimJoined
import GoSem.ClaimMapViews
import Derived.JoinedTies
import Derived.KernelRfl
namespace Go.Proofs.Ytgcnaajinkhakaa
/- THE CELL 'sum', in the pinned program and in every row, IS THE sha256 OF THE DUMP (.gsa) THAT YtgcnaajinkhakaaProg.lean LOADS. Nothing in Lean hashes anything: it is a label: what it is worth is what the hold of that sum in a sandbox is worth. -/
noncomputable def Try.pinned : Pinned := { name := "ytgcnaajinkhakaa", sum := "82e494282949989f4052f16ebcee91b394c8ee546c1cd69374a244178e0e3503", checked := Try.checked }
namespace Rows
def none {H : Type} : Left H := { results := [], args := [] }

/-- 'laws.FnExactFrameText': WHATEVER THE INPUT: true; the input reads as it did. -/
def fnExactFrameTextSpec : ChangeSpec := { name := "fnExactFrameText", fn := fun _ => fun
  | [d] => { results := [.lit (.bool true)], args := [d] }
  | _ => none }
def fnExactFrameTextRow : OpenClaim := { program := "ytgcnaajinkhakaa", sum := "82e494282949989f4052f16ebcee91b394c8ee546c1cd69374a244178e0e3503", func := "loop.example/schemamigration/laws.FnExactFrameText", spec := "fnExactFrameText", apart := false }
def FnExactFrameTextSaid : Prop := fnExactFrameTextRow.holds Try.pinned (OpenSpec.ofChange fnExactFrameTextSpec)

/-- ITS FALSE NEIGHBOUR: 'it returns false'. Refute it at one input. -/
def fnExactFrameTextWrong : ChangeSpec := { name := "fnExactFrameText", fn := fun _ => fun
  | [d] => { results := [.lit (.bool false)], args := [d] }
  | _ => none }
def FnExactFrameTextWrongFalsely : Prop := fnExactFrameTextRow.holds Try.pinned (OpenSpec.ofChange fnExactFrameTextWrong)

/-- 'laws.FnReadFramesDamage': WHATEVER THE INPUT: true; the input reads as it did. -/
def fnReadFramesDamageSpec : ChangeSpec := { name := "fnReadFramesDamage", fn := fun _ => fun
  | [d] => { results := [.lit (.bool true)], args := [d] }
  | _ => none }
def fnReadFramesDamageRow : OpenClaim := { program := "ytgcnaajinkhakaa", sum := "82e494282949989f4052f16ebcee91b394c8ee546c1cd69374a244178e0e3503", func := "loop.example/schemamigration/laws.FnReadFramesDamage", spec := "fnReadFramesDamage", unfollowed := true, recurses := true, apart := false }
def FnReadFramesDamageSaid : Prop := fnReadFramesDamageRow.holds Try.pinned (OpenSpec.ofChange fnReadFramesDamageSpec)

/-- ITS FALSE NEIGHBOUR: 'it returns false'. Refute it at one input. -/
def fnReadFramesDamageWrong : ChangeSpec := { name := "fnReadFramesDamage", fn := fun _ => fun
  | [d] => { results := [.lit (.bool false)], args := [d] }
  | _ => none }
def FnReadFramesDamageWrongFalsely : Prop := fnReadFramesDamageRow.holds Try.pinned (OpenSpec.ofChange fnReadFramesDamageWrong)

/-- 'laws.FnFrameText': WHATEVER THE INPUT: true; the input reads as it did. -/
def fnFrameTextSpec : ChangeSpec := { name := "fnFrameText", fn := fun _ => fun
  | [d] => { results := [.lit (.bool true)], args := [d] }
  | _ => none }
def fnFrameTextRow : OpenClaim := { program := "ytgcnaajinkhakaa", sum := "82e494282949989f4052f16ebcee91b394c8ee546c1cd69374a244178e0e3503", func := "loop.example/schemamigration/laws.FnFrameText", spec := "fnFrameText", unfollowed := true, recurses := true, apart := false }
def FnFrameTextSaid : Prop := fnFrameTextRow.holds Try.pinned (OpenSpec.ofChange fnFrameTextSpec)

/-- ITS FALSE NEIGHBOUR: 'it returns false'. Refute it at one input. -/
def fnFrameTextWrong : ChangeSpec := { name := "fnFrameText", fn := fun _ => fun
  | [d] => { results := [.lit (.bool false)], args := [d] }
  | _ => none }
def FnFrameTextWrongFalsely : Prop := fnFrameTextRow.holds Try.pinned (OpenSpec.ofChange fnFrameTextWrong)

/-- 'laws.FnExactCutLog': WHATEVER THE INPUT: true; the input reads as it did. -/
def fnExactCutLogSpec : ChangeSpec := { name := "fnExactCutLog", fn := fun _ => fun
  | [d] => { results := [.lit (.bool true)], args := [d] }
  | _ => none }
def fnExactCutLogRow : OpenClaim := { program := "ytgcnaajinkhakaa", sum := "82e494282949989f4052f16ebcee91b394c8ee546c1cd69374a244178e0e3503", func := "loop.example/schemamigration/laws.FnExactCutLog", spec := "fnExactCutLog", unfollowed := true, recurses := true, apart := false }
def FnExactCutLogSaid : Prop := fnExactCutLogRow.holds Try.pinned (OpenSpec.ofChange fnExactCutLogSpec)

/-- ITS FALSE NEIGHBOUR: 'it returns false'. Refute it at one input. -/
def fnExactCutLogWrong : ChangeSpec := { name := "fnExactCutLog", fn := fun _ => fun
  | [d] => { results := [.lit (.bool false)], args := [d] }
  | _ => none }
def FnExactCutLogWrongFalsely : Prop := fnExactCutLogRow.holds Try.pinned (OpenSpec.ofChange fnExactCutLogWrong)

/-- 'laws.FnExactAppendFrame': WHATEVER THE INPUT: true; the input reads as it did. -/
def fnExactAppendFrameSpec : ChangeSpec := { name := "fnExactAppendFrame", fn := fun _ => fun
  | [d1, d2] => { results := [.lit (.bool true)], args := [d1, d2] }
  | _ => none }
def fnExactAppendFrameRow : OpenClaim := { program := "ytgcnaajinkhakaa", sum := "82e494282949989f4052f16ebcee91b394c8ee546c1cd69374a244178e0e3503", func := "loop.example/schemamigration/laws.FnExactAppendFrame", spec := "fnExactAppendFrame", unfollowed := true, recurses := true, apart := false }
def FnExactAppendFrameSaid : Prop := fnExactAppendFrameRow.holds Try.pinned (OpenSpec.ofChange fnExactAppendFrameSpec)

/-- ITS FALSE NEIGHBOUR: 'it returns false'. Refute it at one input. -/
def fnExactAppendFrameWrong : ChangeSpec := { name := "fnExactAppendFrame", fn := fun _ => fun
  | [d1, d2] => { results := [.lit (.bool false)], args := [d1, d2] }
  | _ => none }
def FnExactAppendFrameWrongFalsely : Prop := fnExactAppendFrameRow.holds Try.pinned (OpenSpec.ofChange fnExactAppendFrameWrong)

/-- 'laws.FnExactReadFrames': WHATEVER THE INPUT: true; the input reads as it did. -/
def fnExactReadFramesSpec : ChangeSpec := { name := "fnExactReadFrames", fn := fun _ => fun
  | [d] => { results := [.lit (.bool true)], args := [d] }
  | _ => none }
def fnExactReadFramesRow : OpenClaim := { program := "ytgcnaajinkhakaa", sum := "82e494282949989f4052f16ebcee91b394c8ee546c1cd69374a244178e0e3503", func := "loop.example/schemamigration/laws.FnExactReadFrames", spec := "fnExactReadFrames", unfollowed := true, recurses := true, apart := false }
def FnExactReadFramesSaid : Prop := fnExactReadFramesRow.holds Try.pinned (OpenSpec.ofChange fnExactReadFramesSpec)

/-- ITS FALSE NEIGHBOUR: 'it returns false'. Refute it at one input. -/
def fnExactReadFramesWrong : ChangeSpec := { name := "fnExactReadFrames", fn := fun _ => fun
  | [d] => { results := [.lit (.bool false)], args := [d] }
  | _ => none }
def FnExactReadFramesWrongFalsely : Prop := fnExactReadFramesRow.holds Try.pinned (OpenSpec.ofChange fnExactReadFramesWrong)

/-- 'laws.FnReadFrames': WHATEVER THE INPUT: true; the input reads as it did. -/
def fnReadFramesSpec : ChangeSpec := { name := "fnReadFrames", fn := fun _ => fun
  | [d] => { results := [.lit (.bool true)], args := [d] }
  | _ => none }
def fnReadFramesRow : OpenClaim := { program := "ytgcnaajinkhakaa", sum := "82e494282949989f4052f16ebcee91b394c8ee546c1cd69374a244178e0e3503", func := "loop.example/schemamigration/laws.FnReadFrames", spec := "fnReadFrames", unfollowed := true, recurses := true, apart := false }
def FnReadFramesSaid : Prop := fnReadFramesRow.holds Try.pinned (OpenSpec.ofChange fnReadFramesSpec)

/-- ITS FALSE NEIGHBOUR: 'it returns false'. Refute it at one input. -/
def fnReadFramesWrong : ChangeSpec := { name := "fnReadFrames", fn := fun _ => fun
  | [d] => { results := [.lit (.bool false)], args := [d] }
  | _ => none }
def FnReadFramesWrongFalsely : Prop := fnReadFramesRow.holds Try.pinned (OpenSpec.ofChange fnReadFramesWrong)

/-- 'laws.FnCutLog': WHATEVER THE INPUT: true; the input reads as it did. -/
def fnCutLogSpec : ChangeSpec := { name := "fnCutLog", fn := fun _ => fun
  | [d] => { results := [.lit (.bool true)], args := [d] }
  | _ => none }
def fnCutLogRow : OpenClaim := { program := "ytgcnaajinkhakaa", sum := "82e494282949989f4052f16ebcee91b394c8ee546c1cd69374a244178e0e3503", func := "loop.example/schemamigration/laws.FnCutLog", spec := "fnCutLog", unfollowed := true, recurses := true, apart := false }
def FnCutLogSaid : Prop := fnCutLogRow.holds Try.pinned (OpenSpec.ofChange fnCutLogSpec)

/-- ITS FALSE NEIGHBOUR: 'it returns false'. Refute it at one input. -/
def fnCutLogWrong : ChangeSpec := { name := "fnCutLog", fn := fun _ => fun
  | [d] => { results := [.lit (.bool false)], args := [d] }
  | _ => none }
def FnCutLogWrongFalsely : Prop := fnCutLogRow.holds Try.pinned (OpenSpec.ofChange fnCutLogWrong)

/-- 'laws.FnAppendFrameTorn': WHATEVER THE INPUT: true; the input reads as it did. -/
def fnAppendFrameTornSpec : ChangeSpec := { name := "fnAppendFrameTorn", fn := fun _ => fun
  | [d] => { results := [.lit (.bool true)], args := [d] }
  | _ => none }
def fnAppendFrameTornRow : OpenClaim := { program := "ytgcnaajinkhakaa", sum := "82e494282949989f4052f16ebcee91b394c8ee546c1cd69374a244178e0e3503", func := "loop.example/schemamigration/laws.FnAppendFrameTorn", spec := "fnAppendFrameTorn", unfollowed := true, recurses := true, apart := false }
def FnAppendFrameTornSaid : Prop := fnAppendFrameTornRow.holds Try.pinned (OpenSpec.ofChange fnAppendFrameTornSpec)

/-- ITS FALSE NEIGHBOUR: 'it returns false'. Refute it at one input. -/
def fnAppendFrameTornWrong : ChangeSpec := { name := "fnAppendFrameTorn", fn := fun _ => fun
  | [d] => { results := [.lit (.bool false)], args := [d] }
  | _ => none }
def FnAppendFrameTornWrongFalsely : Prop := fnAppendFrameTornRow.holds Try.pinned (OpenSpec.ofChange fnAppendFrameTornWrong)

/-- 'laws.FnAppendFrame': WHATEVER THE INPUT: true; the input reads as it did. -/
def fnAppendFrameSpec : ChangeSpec := { name := "fnAppendFrame", fn := fun _ => fun
  | [d] => { results := [.lit (.bool true)], args := [d] }
  | _ => none }
def fnAppendFrameRow : OpenClaim := { program := "ytgcnaajinkhakaa", sum := "82e494282949989f4052f16ebcee91b394c8ee546c1cd69374a244178e0e3503", func := "loop.example/schemamigration/laws.FnAppendFrame", spec := "fnAppendFrame", unfollowed := true, recurses := true, apart := false }
def FnAppendFrameSaid : Prop := fnAppendFrameRow.holds Try.pinned (OpenSpec.ofChange fnAppendFrameSpec)

/-- ITS FALSE NEIGHBOUR: 'it returns false'. Refute it at one input. -/
def fnAppendFrameWrong : ChangeSpec := { name := "fnAppendFrame", fn := fun _ => fun
  | [d] => { results := [.lit (.bool false)], args := [d] }
  | _ => none }
def FnAppendFrameWrongFalsely : Prop := fnAppendFrameRow.holds Try.pinned (OpenSpec.ofChange fnAppendFrameWrong)

/- THE SECOND FORM. 'bulk': how many values and letters a reading holds, each counted each time it is reached (what is shared counts as often as it is met; a slice's spare places count too). A statement '..UptoSaid' is the law's where the arguments, and the package variables that the reading takes, are together of bulk at most 1048576: NARROWER than '..Said'. Prove '..Said' where nothing that the law and all that it calls make is longer than what came in: it says more and counts as full. Else prove '..UptoSaid'. A law counts once. -/
mutual
def uptoBulk {H : Type} : DataW H → Nat
  | .lit (.string bytes) => bytes.length + 1
  | .lit _ => 1
  | .nil => 1
  | .ptr d => uptoBulk d + 1
  | .slice elems spare => uptoBulkAll elems + uptoBulkAll spare + 1
  | .agg parts => uptoBulkAll parts + 1
  | .iface _ d => uptoBulk d + 1
  | .map entries => uptoBulkEntries entries + 1
  | .held _ => 1
def uptoBulkAll {H : Type} : List (DataW H) → Nat
  | [] => 0
  | d :: r => uptoBulk d + uptoBulkAll r
def uptoBulkEntries {H : Type} : List (Lit × DataW H) → Nat
  | [] => 0
  | x :: r => uptoBulkEntry x + uptoBulkEntries r
def uptoBulkEntry {H : Type} : Lit × DataW H → Nat
  | (.string bytes, d) => bytes.length + uptoBulk d + 1
  | (_, d) => uptoBulk d + 1
 end
def uptoSmall : (H : Type) → List (DataW H) → Bool := fun _ ds => decide (uptoBulkAll ds ≤ 1048576)
def OpenSpec.upto (s : _root_.Go.ChangeSpec) : _root_.Go.OpenSpec := { _root_.Go.OpenSpec.ofChange s with cond := some uptoSmall }

/-- 'laws.FnExactFrameText', WHERE WHAT IT READS IS OF BULK AT MOST 1048576: true; the input reads as it did. -/
def fnExactFrameTextUptoRow : OpenClaim := { program := "ytgcnaajinkhakaa", sum := "82e494282949989f4052f16ebcee91b394c8ee546c1cd69374a244178e0e3503", func := "loop.example/schemamigration/laws.FnExactFrameText", spec := "fnExactFrameText", apart := false, narrowed := true }
def FnExactFrameTextUptoSaid : Prop := fnExactFrameTextUptoRow.holds Try.pinned (OpenSpec.upto fnExactFrameTextSpec)

/-- 'laws.FnReadFramesDamage', WHERE WHAT IT READS IS OF BULK AT MOST 1048576: true; the input reads as it did. -/
def fnReadFramesDamageUptoRow : OpenClaim := { program := "ytgcnaajinkhakaa", sum := "82e494282949989f4052f16ebcee91b394c8ee546c1cd69374a244178e0e3503", func := "loop.example/schemamigration/laws.FnReadFramesDamage", spec := "fnReadFramesDamage", unfollowed := true, recurses := true, apart := false, narrowed := true }
def FnReadFramesDamageUptoSaid : Prop := fnReadFramesDamageUptoRow.holds Try.pinned (OpenSpec.upto fnReadFramesDamageSpec)

/-- 'laws.FnFrameText', WHERE WHAT IT READS IS OF BULK AT MOST 1048576: true; the input reads as it did. -/
def fnFrameTextUptoRow : OpenClaim := { program := "ytgcnaajinkhakaa", sum := "82e494282949989f4052f16ebcee91b394c8ee546c1cd69374a244178e0e3503", func := "loop.example/schemamigration/laws.FnFrameText", spec := "fnFrameText", unfollowed := true, recurses := true, apart := false, narrowed := true }
def FnFrameTextUptoSaid : Prop := fnFrameTextUptoRow.holds Try.pinned (OpenSpec.upto fnFrameTextSpec)

/-- 'laws.FnExactCutLog', WHERE WHAT IT READS IS OF BULK AT MOST 1048576: true; the input reads as it did. -/
def fnExactCutLogUptoRow : OpenClaim := { program := "ytgcnaajinkhakaa", sum := "82e494282949989f4052f16ebcee91b394c8ee546c1cd69374a244178e0e3503", func := "loop.example/schemamigration/laws.FnExactCutLog", spec := "fnExactCutLog", unfollowed := true, recurses := true, apart := false, narrowed := true }
def FnExactCutLogUptoSaid : Prop := fnExactCutLogUptoRow.holds Try.pinned (OpenSpec.upto fnExactCutLogSpec)

/-- 'laws.FnExactAppendFrame', WHERE WHAT IT READS IS OF BULK AT MOST 1048576: true; the input reads as it did. -/
def fnExactAppendFrameUptoRow : OpenClaim := { program := "ytgcnaajinkhakaa", sum := "82e494282949989f4052f16ebcee91b394c8ee546c1cd69374a244178e0e3503", func := "loop.example/schemamigration/laws.FnExactAppendFrame", spec := "fnExactAppendFrame", unfollowed := true, recurses := true, apart := false, narrowed := true }
def FnExactAppendFrameUptoSaid : Prop := fnExactAppendFrameUptoRow.holds Try.pinned (OpenSpec.upto fnExactAppendFrameSpec)

/-- 'laws.FnExactReadFrames', WHERE WHAT IT READS IS OF BULK AT MOST 1048576: true; the input reads as it did. -/
def fnExactReadFramesUptoRow : OpenClaim := { program := "ytgcnaajinkhakaa", sum := "82e494282949989f4052f16ebcee91b394c8ee546c1cd69374a244178e0e3503", func := "loop.example/schemamigration/laws.FnExactReadFrames", spec := "fnExactReadFrames", unfollowed := true, recurses := true, apart := false, narrowed := true }
def FnExactReadFramesUptoSaid : Prop := fnExactReadFramesUptoRow.holds Try.pinned (OpenSpec.upto fnExactReadFramesSpec)

/-- 'laws.FnReadFrames', WHERE WHAT IT READS IS OF BULK AT MOST 1048576: true; the input reads as it did. -/
def fnReadFramesUptoRow : OpenClaim := { program := "ytgcnaajinkhakaa", sum := "82e494282949989f4052f16ebcee91b394c8ee546c1cd69374a244178e0e3503", func := "loop.example/schemamigration/laws.FnReadFrames", spec := "fnReadFrames", unfollowed := true, recurses := true, apart := false, narrowed := true }
def FnReadFramesUptoSaid : Prop := fnReadFramesUptoRow.holds Try.pinned (OpenSpec.upto fnReadFramesSpec)

/-- 'laws.FnCutLog', WHERE WHAT IT READS IS OF BULK AT MOST 1048576: true; the input reads as it did. -/
def fnCutLogUptoRow : OpenClaim := { program := "ytgcnaajinkhakaa", sum := "82e494282949989f4052f16ebcee91b394c8ee546c1cd69374a244178e0e3503", func := "loop.example/schemamigration/laws.FnCutLog", spec := "fnCutLog", unfollowed := true, recurses := true, apart := false, narrowed := true }
def FnCutLogUptoSaid : Prop := fnCutLogUptoRow.holds Try.pinned (OpenSpec.upto fnCutLogSpec)

/-- 'laws.FnAppendFrameTorn', WHERE WHAT IT READS IS OF BULK AT MOST 1048576: true; the input reads as it did. -/
def fnAppendFrameTornUptoRow : OpenClaim := { program := "ytgcnaajinkhakaa", sum := "82e494282949989f4052f16ebcee91b394c8ee546c1cd69374a244178e0e3503", func := "loop.example/schemamigration/laws.FnAppendFrameTorn", spec := "fnAppendFrameTorn", unfollowed := true, recurses := true, apart := false, narrowed := true }
def FnAppendFrameTornUptoSaid : Prop := fnAppendFrameTornUptoRow.holds Try.pinned (OpenSpec.upto fnAppendFrameTornSpec)

/-- 'laws.FnAppendFrame', WHERE WHAT IT READS IS OF BULK AT MOST 1048576: true; the input reads as it did. -/
def fnAppendFrameUptoRow : OpenClaim := { program := "ytgcnaajinkhakaa", sum := "82e494282949989f4052f16ebcee91b394c8ee546c1cd69374a244178e0e3503", func := "loop.example/schemamigration/laws.FnAppendFrame", spec := "fnAppendFrame", unfollowed := true, recurses := true, apart := false, narrowed := true }
def FnAppendFrameUptoSaid : Prop := fnAppendFrameUptoRow.holds Try.pinned (OpenSpec.upto fnAppendFrameSpec)

end Rows
end Go.Proofs.Ytgcnaajinkhakaa
