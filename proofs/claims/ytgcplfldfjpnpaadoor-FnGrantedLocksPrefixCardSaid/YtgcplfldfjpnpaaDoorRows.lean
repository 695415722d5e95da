/-
  NARROWER THAN 'FOR EVERY INPUT', by the rows' own cells (each row's printed sentence says how): FnExactLocksTogether: laid · FnLocksTogether: laid · FnExactJoinLocks: laid · FnJoinLocksThree: laid · FnJoinLocks: laid · FnGrantedLocks: laid · FnGrantedLocksPrefix: laid · FnExactGrantedLocks: laid.
  DERIVED. THE GIVEN ROWS OF THIS SEAT. 8 by the template 'for every input the law returns true; each argument reads behind the call as it read before'; 0 by the template 'total and deterministic' (their statements: YtgcplfldfjpnpaaDoorTotals.lean).
  GIVEN WITH THE SEED: the statements are not yours to turn. If you find one false, say at which input.
  Laid BY PROGRAM, IN A SANDBOX (cutbox-rows.mjs): the forced cells as the released guide's own fill.sh prints them over the translation 5b7e3f2889f4e2dc… (all of the seat's roots in one cut). By AI agents, Wed Nov 11 2026. No macro, syntax, notation, axiom, sorry.
-/
import Derived.Test.YtgcplfldfjpnpaaDoorChecked
import GoSem.Claim
import GoSem.ClaimJoined
import GoSem.ClaimMapViews
import Derived.JoinedTies
import Derived.KernelRfl
namespace Go.Proofs.YtgcplfldfjpnpaaDoor
/- THE CELL 'sum', in the pinned program and in every row, IS THE sha256 OF THE DUMP (.gsa) THAT YtgcplfldfjpnpaaDoorProg.lean LOADS. Nothing in Lean hashes anything: it is a label: what it is worth is what the hold of that sum in a sandbox is worth. -/
noncomputable def Tryd.pinned : Pinned := { name := "ytgcplfldfjpnpaadoor", sum := "5b7e3f2889f4e2dc71a775d069b3166eda482d3aec4c90b5a4a93abfbf6fd01b", checked := Tryd.checked }
namespace Rows
def none {H : Type} : Left H := { results := [], args := [] }

/- WHAT THE LISTED PACKAGE-LEVEL VARIABLES READ AS WHEN THE CALL BEGINS. Each datum BY PROGRAM (the guide's laid-datum.mjs) off the statement by which the dump's own 'gosem.cut.vars' lays the variable. In a bare row this is a premise. The card (YtgcplfldfjpnpaaDoorCards.lean) ties it to the program's text. -/
def laid_loop_example_schemamigration_impl_lockMasks {H : Type} : DataW H := .agg [.lit (.int .u8 63), .lit (.int .u8 31), .lit (.int .u8 7), .lit (.int .u8 11), .lit (.int .u8 3), .lit (.int .u8 1)]

/-- 'laws.FnExactLocksTogether': WHATEVER THE INPUT: true; the input reads as it did. -/
def fnExactLocksTogetherSpec : ChangeSpec := { name := "fnExactLocksTogether", vars := ["loop.example/schemamigration/impl.lockMasks"], fn := fun _ => fun
  | [d1, d2, g1] => { results := [.lit (.bool true)], args := [d1, d2], vars := [g1] }
  | _ => none }
def fnExactLocksTogetherRow : OpenClaim := { program := "ytgcplfldfjpnpaadoor", sum := "5b7e3f2889f4e2dc71a775d069b3166eda482d3aec4c90b5a4a93abfbf6fd01b", func := "loop.example/schemamigration/laws.FnExactLocksTogether", spec := "fnExactLocksTogether", named := ["loop.example/schemamigration/impl.lockMasks"], apart := false, laid := [("loop.example/schemamigration/impl.lockMasks", laid_loop_example_schemamigration_impl_lockMasks)] }
def FnExactLocksTogetherSaid : Prop := fnExactLocksTogetherRow.holds Tryd.pinned (OpenSpec.ofChange fnExactLocksTogetherSpec)

/-- ITS FALSE NEIGHBOUR: 'it returns false'. Refute it at one input. -/
def fnExactLocksTogetherWrong : ChangeSpec := { name := "fnExactLocksTogether", vars := ["loop.example/schemamigration/impl.lockMasks"], fn := fun _ => fun
  | [d1, d2, g1] => { results := [.lit (.bool false)], args := [d1, d2], vars := [g1] }
  | _ => none }
def FnExactLocksTogetherWrongFalsely : Prop := fnExactLocksTogetherRow.holds Tryd.pinned (OpenSpec.ofChange fnExactLocksTogetherWrong)

/-- 'laws.FnLocksTogether': WHATEVER THE INPUT: true; the input reads as it did. -/
def fnLocksTogetherSpec : ChangeSpec := { name := "fnLocksTogether", vars := ["loop.example/schemamigration/impl.lockMasks"], fn := fun _ => fun
  | [d, g1] => { results := [.lit (.bool true)], args := [d], vars := [g1] }
  | _ => none }
def fnLocksTogetherRow : OpenClaim := { program := "ytgcplfldfjpnpaadoor", sum := "5b7e3f2889f4e2dc71a775d069b3166eda482d3aec4c90b5a4a93abfbf6fd01b", func := "loop.example/schemamigration/laws.FnLocksTogether", spec := "fnLocksTogether", named := ["loop.example/schemamigration/impl.lockMasks"], apart := false, laid := [("loop.example/schemamigration/impl.lockMasks", laid_loop_example_schemamigration_impl_lockMasks)] }
def FnLocksTogetherSaid : Prop := fnLocksTogetherRow.holds Tryd.pinned (OpenSpec.ofChange fnLocksTogetherSpec)

/-- ITS FALSE NEIGHBOUR: 'it returns false'. Refute it at one input. -/
def fnLocksTogetherWrong : ChangeSpec := { name := "fnLocksTogether", vars := ["loop.example/schemamigration/impl.lockMasks"], fn := fun _ => fun
  | [d, g1] => { results := [.lit (.bool false)], args := [d], vars := [g1] }
  | _ => none }
def FnLocksTogetherWrongFalsely : Prop := fnLocksTogetherRow.holds Tryd.pinned (OpenSpec.ofChange fnLocksTogetherWrong)

/-- 'laws.FnExactJoinLocks': WHATEVER THE INPUT: true; the input reads as it did. -/
def fnExactJoinLocksSpec : ChangeSpec := { name := "fnExactJoinLocks", vars := ["loop.example/schemamigration/impl.lockMasks"], fn := fun _ => fun
  | [d1, d2, g1] => { results := [.lit (.bool true)], args := [d1, d2], vars := [g1] }
  | _ => none }
def fnExactJoinLocksRow : OpenClaim := { program := "ytgcplfldfjpnpaadoor", sum := "5b7e3f2889f4e2dc71a775d069b3166eda482d3aec4c90b5a4a93abfbf6fd01b", func := "loop.example/schemamigration/laws.FnExactJoinLocks", spec := "fnExactJoinLocks", named := ["loop.example/schemamigration/impl.lockMasks"], apart := false, laid := [("loop.example/schemamigration/impl.lockMasks", laid_loop_example_schemamigration_impl_lockMasks)] }
def FnExactJoinLocksSaid : Prop := fnExactJoinLocksRow.holds Tryd.pinned (OpenSpec.ofChange fnExactJoinLocksSpec)

/-- ITS FALSE NEIGHBOUR: 'it returns false'. Refute it at one input. -/
def fnExactJoinLocksWrong : ChangeSpec := { name := "fnExactJoinLocks", vars := ["loop.example/schemamigration/impl.lockMasks"], fn := fun _ => fun
  | [d1, d2, g1] => { results := [.lit (.bool false)], args := [d1, d2], vars := [g1] }
  | _ => none }
def FnExactJoinLocksWrongFalsely : Prop := fnExactJoinLocksRow.holds Tryd.pinned (OpenSpec.ofChange fnExactJoinLocksWrong)

/-- 'laws.FnJoinLocksThree': WHATEVER THE INPUT: true; the input reads as it did. -/
def fnJoinLocksThreeSpec : ChangeSpec := { name := "fnJoinLocksThree", vars := ["loop.example/schemamigration/impl.lockMasks"], fn := fun _ => fun
  | [d, g1] => { results := [.lit (.bool true)], args := [d], vars := [g1] }
  | _ => none }
def fnJoinLocksThreeRow : OpenClaim := { program := "ytgcplfldfjpnpaadoor", sum := "5b7e3f2889f4e2dc71a775d069b3166eda482d3aec4c90b5a4a93abfbf6fd01b", func := "loop.example/schemamigration/laws.FnJoinLocksThree", spec := "fnJoinLocksThree", named := ["loop.example/schemamigration/impl.lockMasks"], apart := false, laid := [("loop.example/schemamigration/impl.lockMasks", laid_loop_example_schemamigration_impl_lockMasks)] }
def FnJoinLocksThreeSaid : Prop := fnJoinLocksThreeRow.holds Tryd.pinned (OpenSpec.ofChange fnJoinLocksThreeSpec)

/-- ITS FALSE NEIGHBOUR: 'it returns false'. Refute it at one input. -/
def fnJoinLocksThreeWrong : ChangeSpec := { name := "fnJoinLocksThree", vars := ["loop.example/schemamigration/impl.lockMasks"], fn := fun _ => fun
  | [d, g1] => { results := [.lit (.bool false)], args := [d], vars := [g1] }
  | _ => none }
def FnJoinLocksThreeWrongFalsely : Prop := fnJoinLocksThreeRow.holds Tryd.pinned (OpenSpec.ofChange fnJoinLocksThreeWrong)

/-- 'laws.FnJoinLocks': WHATEVER THE INPUT: true; the input reads as it did. -/
def fnJoinLocksSpec : ChangeSpec := { name := "fnJoinLocks", vars := ["loop.example/schemamigration/impl.lockMasks"], fn := fun _ => fun
  | [d, g1] => { results := [.lit (.bool true)], args := [d], vars := [g1] }
  | _ => none }
def fnJoinLocksRow : OpenClaim := { program := "ytgcplfldfjpnpaadoor", sum := "5b7e3f2889f4e2dc71a775d069b3166eda482d3aec4c90b5a4a93abfbf6fd01b", func := "loop.example/schemamigration/laws.FnJoinLocks", spec := "fnJoinLocks", named := ["loop.example/schemamigration/impl.lockMasks"], apart := false, laid := [("loop.example/schemamigration/impl.lockMasks", laid_loop_example_schemamigration_impl_lockMasks)] }
def FnJoinLocksSaid : Prop := fnJoinLocksRow.holds Tryd.pinned (OpenSpec.ofChange fnJoinLocksSpec)

/-- ITS FALSE NEIGHBOUR: 'it returns false'. Refute it at one input. -/
def fnJoinLocksWrong : ChangeSpec := { name := "fnJoinLocks", vars := ["loop.example/schemamigration/impl.lockMasks"], fn := fun _ => fun
  | [d, g1] => { results := [.lit (.bool false)], args := [d], vars := [g1] }
  | _ => none }
def FnJoinLocksWrongFalsely : Prop := fnJoinLocksRow.holds Tryd.pinned (OpenSpec.ofChange fnJoinLocksWrong)

/-- 'laws.FnGrantedLocks': WHATEVER THE INPUT: true; the input reads as it did. -/
def fnGrantedLocksSpec : ChangeSpec := { name := "fnGrantedLocks", vars := ["loop.example/schemamigration/impl.lockMasks"], fn := fun _ => fun
  | [d, g1] => { results := [.lit (.bool true)], args := [d], vars := [g1] }
  | _ => none }
def fnGrantedLocksRow : OpenClaim := { program := "ytgcplfldfjpnpaadoor", sum := "5b7e3f2889f4e2dc71a775d069b3166eda482d3aec4c90b5a4a93abfbf6fd01b", func := "loop.example/schemamigration/laws.FnGrantedLocks", spec := "fnGrantedLocks", unfollowed := true, recurses := true, named := ["loop.example/schemamigration/impl.lockMasks"], apart := false, laid := [("loop.example/schemamigration/impl.lockMasks", laid_loop_example_schemamigration_impl_lockMasks)] }
def FnGrantedLocksSaid : Prop := fnGrantedLocksRow.holds Tryd.pinned (OpenSpec.ofChange fnGrantedLocksSpec)

/-- ITS FALSE NEIGHBOUR: 'it returns false'. Refute it at one input. -/
def fnGrantedLocksWrong : ChangeSpec := { name := "fnGrantedLocks", vars := ["loop.example/schemamigration/impl.lockMasks"], fn := fun _ => fun
  | [d, g1] => { results := [.lit (.bool false)], args := [d], vars := [g1] }
  | _ => none }
def FnGrantedLocksWrongFalsely : Prop := fnGrantedLocksRow.holds Tryd.pinned (OpenSpec.ofChange fnGrantedLocksWrong)

/-- 'laws.FnGrantedLocksPrefix': WHATEVER THE INPUT: true; the input reads as it did. -/
def fnGrantedLocksPrefixSpec : ChangeSpec := { name := "fnGrantedLocksPrefix", vars := ["loop.example/schemamigration/impl.lockMasks"], fn := fun _ => fun
  | [d, g1] => { results := [.lit (.bool true)], args := [d], vars := [g1] }
  | _ => none }
def fnGrantedLocksPrefixRow : OpenClaim := { program := "ytgcplfldfjpnpaadoor", sum := "5b7e3f2889f4e2dc71a775d069b3166eda482d3aec4c90b5a4a93abfbf6fd01b", func := "loop.example/schemamigration/laws.FnGrantedLocksPrefix", spec := "fnGrantedLocksPrefix", unfollowed := true, recurses := true, named := ["loop.example/schemamigration/impl.lockMasks"], apart := false, laid := [("loop.example/schemamigration/impl.lockMasks", laid_loop_example_schemamigration_impl_lockMasks)] }
def FnGrantedLocksPrefixSaid : Prop := fnGrantedLocksPrefixRow.holds Tryd.pinned (OpenSpec.ofChange fnGrantedLocksPrefixSpec)

/-- ITS FALSE NEIGHBOUR: 'it returns false'. Refute it at one input. -/
def fnGrantedLocksPrefixWrong : ChangeSpec := { name := "fnGrantedLocksPrefix", vars := ["loop.example/schemamigration/impl.lockMasks"], fn := fun _ => fun
  | [d, g1] => { results := [.lit (.bool false)], args := [d], vars := [g1] }
  | _ => none }
def FnGrantedLocksPrefixWrongFalsely : Prop := fnGrantedLocksPrefixRow.holds Tryd.pinned (OpenSpec.ofChange fnGrantedLocksPrefixWrong)

/-- 'laws.FnExactGrantedLocks': WHATEVER THE INPUT: true; the input reads as it did. -/
def fnExactGrantedLocksSpec : ChangeSpec := { name := "fnExactGrantedLocks", vars := ["loop.example/schemamigration/impl.lockMasks"], fn := fun _ => fun
  | [d, g1] => { results := [.lit (.bool true)], args := [d], vars := [g1] }
  | _ => none }
def fnExactGrantedLocksRow : OpenClaim := { program := "ytgcplfldfjpnpaadoor", sum := "5b7e3f2889f4e2dc71a775d069b3166eda482d3aec4c90b5a4a93abfbf6fd01b", func := "loop.example/schemamigration/laws.FnExactGrantedLocks", spec := "fnExactGrantedLocks", unfollowed := true, recurses := true, named := ["loop.example/schemamigration/impl.lockMasks"], apart := false, laid := [("loop.example/schemamigration/impl.lockMasks", laid_loop_example_schemamigration_impl_lockMasks)] }
def FnExactGrantedLocksSaid : Prop := fnExactGrantedLocksRow.holds Tryd.pinned (OpenSpec.ofChange fnExactGrantedLocksSpec)

/-- ITS FALSE NEIGHBOUR: 'it returns false'. Refute it at one input. -/
def fnExactGrantedLocksWrong : ChangeSpec := { name := "fnExactGrantedLocks", vars := ["loop.example/schemamigration/impl.lockMasks"], fn := fun _ => fun
  | [d, g1] => { results := [.lit (.bool false)], args := [d], vars := [g1] }
  | _ => none }
def FnExactGrantedLocksWrongFalsely : Prop := fnExactGrantedLocksRow.holds Tryd.pinned (OpenSpec.ofChange fnExactGrantedLocksWrong)

/- THE SECOND FORM. 'bulk': how many values and letters a reading holds, each counted each time it is reached (what is shared counts as often as it is met; a slice's spare places count too). A statement '..UptoSaid' is the law's where the arguments, and the package variables that the reading takes, are together of bulk at most 1048576: NARROWER than '..Said'. Prove '..Said' where nothing that the law and all that it calls make is longer than what came in: it says more and counts as full. Else prove '..UptoSaid'. A law counts once. -/
mutual
def uptoBulk {H : Type} : DataW H → Nat
  | .lit (.string bytes) => bytes.length + 1
  | .lit _ => 1
  | .nil => 1
  | .ptr d => uptoBulk d + 1
  | .slice elems spare => uptoBulkAll elems + uptoBulkAll spare + 1
  | .agg parts => uptoBulkAll parts + 1
  | .iface _ d => uptoBulk d + 1
  | .map entries => uptoBulkEntries entries + 1
  | .held _ => 1
def uptoBulkAll {H : Type} : List (DataW H) → Nat
  | [] => 0
  | d :: r => uptoBulk d + uptoBulkAll r
def uptoBulkEntries {H : Type} : List (Lit × DataW H) → Nat
  | [] => 0
  | x :: r => uptoBulkEntry x + uptoBulkEntries r
def uptoBulkEntry {H : Type} : Lit × DataW H → Nat
  | (.string bytes, d) => bytes.length + uptoBulk d + 1
  | (_, d) => uptoBulk d + 1
 end
def uptoSmall : (H : Type) → List (DataW H) → Bool := fun _ ds => decide (uptoBulkAll ds ≤ 1048576)
def OpenSpec.upto (s : _root_.Go.ChangeSpec) : _root_.Go.OpenSpec := { _root_.Go.OpenSpec.ofChange s with cond := some uptoSmall }

/-- 'laws.FnExactLocksTogether', WHERE WHAT IT READS IS OF BULK AT MOST 1048576: true; the input reads as it did. -/
def fnExactLocksTogetherUptoRow : OpenClaim := { program := "ytgcplfldfjpnpaadoor", sum := "5b7e3f2889f4e2dc71a775d069b3166eda482d3aec4c90b5a4a93abfbf6fd01b", func := "loop.example/schemamigration/laws.FnExactLocksTogether", spec := "fnExactLocksTogether", named := ["loop.example/schemamigration/impl.lockMasks"], apart := false, laid := [("loop.example/schemamigration/impl.lockMasks", laid_loop_example_schemamigration_impl_lockMasks)], narrowed := true }
def FnExactLocksTogetherUptoSaid : Prop := fnExactLocksTogetherUptoRow.holds Tryd.pinned (OpenSpec.upto fnExactLocksTogetherSpec)

/-- 'laws.FnLocksTogether', WHERE WHAT IT READS IS OF BULK AT MOST 1048576: true; the input reads as it did. -/
def fnLocksTogetherUptoRow : OpenClaim := { program := "ytgcplfldfjpnpaadoor", sum := "5b7e3f2889f4e2dc71a775d069b3166eda482d3aec4c90b5a4a93abfbf6fd01b", func := "loop.example/schemamigration/laws.FnLocksTogether", spec := "fnLocksTogether", named := ["loop.example/schemamigration/impl.lockMasks"], apart := false, laid := [("loop.example/schemamigration/impl.lockMasks", laid_loop_example_schemamigration_impl_lockMasks)], narrowed := true }
def FnLocksTogetherUptoSaid : Prop := fnLocksTogetherUptoRow.holds Tryd.pinned (OpenSpec.upto fnLocksTogetherSpec)

/-- 'laws.FnExactJoinLocks', WHERE WHAT IT READS IS OF BULK AT MOST 1048576: true; the input reads as it did. -/
def fnExactJoinLocksUptoRow : OpenClaim := { program := "ytgcplfldfjpnpaadoor", sum := "5b7e3f2889f4e2dc71a775d069b3166eda482d3aec4c90b5a4a93abfbf6fd01b", func := "loop.example/schemamigration/laws.FnExactJoinLocks", spec := "fnExactJoinLocks", named := ["loop.example/schemamigration/impl.lockMasks"], apart := false, laid := [("loop.example/schemamigration/impl.lockMasks", laid_loop_example_schemamigration_impl_lockMasks)], narrowed := true }
def FnExactJoinLocksUptoSaid : Prop := fnExactJoinLocksUptoRow.holds Tryd.pinned (OpenSpec.upto fnExactJoinLocksSpec)

/-- 'laws.FnJoinLocksThree', WHERE WHAT IT READS IS OF BULK AT MOST 1048576: true; the input reads as it did. -/
def fnJoinLocksThreeUptoRow : OpenClaim := { program := "ytgcplfldfjpnpaadoor", sum := "5b7e3f2889f4e2dc71a775d069b3166eda482d3aec4c90b5a4a93abfbf6fd01b", func := "loop.example/schemamigration/laws.FnJoinLocksThree", spec := "fnJoinLocksThree", named := ["loop.example/schemamigration/impl.lockMasks"], apart := false, laid := [("loop.example/schemamigration/impl.lockMasks", laid_loop_example_schemamigration_impl_lockMasks)], narrowed := true }
def FnJoinLocksThreeUptoSaid : Prop := fnJoinLocksThreeUptoRow.holds Tryd.pinned (OpenSpec.upto fnJoinLocksThreeSpec)

/-- 'laws.FnJoinLocks', WHERE WHAT IT READS IS OF BULK AT MOST 1048576: true; the input reads as it did. -/
def fnJoinLocksUptoRow : OpenClaim := { program := "ytgcplfldfjpnpaadoor", sum := "5b7e3f2889f4e2dc71a775d069b3166eda482d3aec4c90b5a4a93abfbf6fd01b", func := "loop.example/schemamigration/laws.FnJoinLocks", spec := "fnJoinLocks", named := ["loop.example/schemamigration/impl.lockMasks"], apart := false, laid := [("loop.example/schemamigration/impl.lockMasks", laid_loop_example_schemamigration_impl_lockMasks)], narrowed := true }
def FnJoinLocksUptoSaid : Prop := fnJoinLocksUptoRow.holds Tryd.pinned (OpenSpec.upto fnJoinLocksSpec)

/-- 'laws.FnGrantedLocks', WHERE WHAT IT READS IS OF BULK AT MOST 1048576: true; the input reads as it did. -/
def fnGrantedLocksUptoRow : OpenClaim := { program := "ytgcplfldfjpnpaadoor", sum := "5b7e3f2889f4e2dc71a775d069b3166eda482d3aec4c90b5a4a93abfbf6fd01b", func := "loop.example/schemamigration/laws.FnGrantedLocks", spec := "fnGrantedLocks", unfollowed := true, recurses := true, named := ["loop.example/schemamigration/impl.lockMasks"], apart := false, laid := [("loop.example/schemamigration/impl.lockMasks", laid_loop_example_schemamigration_impl_lockMasks)], narrowed := true }
def FnGrantedLocksUptoSaid : Prop := fnGrantedLocksUptoRow.holds Tryd.pinned (OpenSpec.upto fnGrantedLocksSpec)

/-- 'laws.FnGrantedLocksPrefix', WHERE WHAT IT READS IS OF BULK AT MOST 1048576: true; the input reads as it did. -/
def fnGrantedLocksPrefixUptoRow : OpenClaim := { program := "ytgcplfldfjpnpaadoor", sum := "5b7e3f2889f4e2dc71a775d069b3166eda482d3aec4c90b5a4a93abfbf6fd01b", func := "loop.example/schemamigration/laws.FnGrantedLocksPrefix", spec := "fnGrantedLocksPrefix", unfollowed := true, recurses := true, named := ["loop.example/schemamigration/impl.lockMasks"], apart := false, laid := [("loop.example/schemamigration/impl.lockMasks", laid_loop_example_schemamigration_impl_lockMasks)], narrowed := true }
def FnGrantedLocksPrefixUptoSaid : Prop := fnGrantedLocksPrefixUptoRow.holds Tryd.pinned (OpenSpec.upto fnGrantedLocksPrefixSpec)

/-- 'laws.FnExactGrantedLocks', WHERE WHAT IT READS IS OF BULK AT MOST 1048576: true; the input reads as it did. -/
def fnExactGrantedLocksUptoRow : OpenClaim := { program := "ytgcplfldfjpnpaadoor", sum := "5b7e3f2889f4e2dc71a775d069b3166eda482d3aec4c90b5a4a93abfbf6fd01b", func := "loop.example/schemamigration/laws.FnExactGrantedLocks", spec := "fnExactGrantedLocks", unfollowed := true, recurses := true, named := ["loop.example/schemamigration/impl.lockMasks"], apart := false, laid := [("loop.example/schemamigration/impl.lockMasks", laid_loop_example_schemamigration_impl_lockMasks)], narrowed := true }
def FnExactGrantedLocksUptoSaid : Prop := fnExactGrantedLocksUptoRow.holds Tryd.pinned (OpenSpec.upto fnExactGrantedLocksSpec)

end Rows
end Go.Proofs.YtgcplfldfjpnpaaDoor
