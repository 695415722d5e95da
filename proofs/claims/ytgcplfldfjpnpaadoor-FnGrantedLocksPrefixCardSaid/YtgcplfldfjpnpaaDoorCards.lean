/-
  DERIVED. GIVEN WITH THE SEED: THE CARDS: each row of YtgcplfldfjpnpaaDoorRows.lean that lists a variable, with what it lists TIED to the program's text (the seventh form; the later family's looks); each row that meets fmt, with fmt's text TOLD by the authors' own Lean function (tested against real Go, not proved from fmt's source: count such statements apart). THE CARD IS WHAT COUNTS. Prove the row's statement (the work); the ties are given (YtgcplfldfjpnpaaDoorTie.lean); close each card by the builder's one call (the guide's Derived/Test/ToyasCard.lean, 'card_holds'). Laid BY PROGRAM, IN A SANDBOX (cutbox-door.mjs). By AI agents, Wed Nov 11 2026. No macro, syntax, notation, axiom, sorry.
-/
import Derived.Test.YtgcplfldfjpnpaaDoorRows
import GoSem.ClaimSeven
namespace Go.Proofs.YtgcplfldfjpnpaaDoor
namespace Rows

/-- THE TIED CARD OF 'laws.FnExactLocksTogether'. -/
def fnExactLocksTogetherCard : Claim7 := { stood := { row := fnExactLocksTogetherRow, standIns := [], harness := (true, "470a92953c7accc7d180ff017d2b587ba4efa1a03612fd547c10474fa6093b21"), looks := false }, kinds := [], alts := [], laidByText := true, laidKinds := [.data], laidTests := true, laidLooks := .later }
def FnExactLocksTogetherCardSaid : Prop := Claim7.holds Tryd.pinned (.plain (OpenSpec.ofChange fnExactLocksTogetherSpec)) fnExactLocksTogetherCard

/-- THE TIED CARD OF 'laws.FnLocksTogether'. -/
def fnLocksTogetherCard : Claim7 := { stood := { row := fnLocksTogetherRow, standIns := [], harness := (true, "470a92953c7accc7d180ff017d2b587ba4efa1a03612fd547c10474fa6093b21"), looks := false }, kinds := [], alts := [], laidByText := true, laidKinds := [.data], laidTests := true, laidLooks := .later }
def FnLocksTogetherCardSaid : Prop := Claim7.holds Tryd.pinned (.plain (OpenSpec.ofChange fnLocksTogetherSpec)) fnLocksTogetherCard

/-- THE TIED CARD OF 'laws.FnExactJoinLocks'. -/
def fnExactJoinLocksCard : Claim7 := { stood := { row := fnExactJoinLocksRow, standIns := [], harness := (true, "470a92953c7accc7d180ff017d2b587ba4efa1a03612fd547c10474fa6093b21"), looks := false }, kinds := [], alts := [], laidByText := true, laidKinds := [.data], laidTests := true, laidLooks := .later }
def FnExactJoinLocksCardSaid : Prop := Claim7.holds Tryd.pinned (.plain (OpenSpec.ofChange fnExactJoinLocksSpec)) fnExactJoinLocksCard

/-- THE TIED CARD OF 'laws.FnJoinLocksThree'. -/
def fnJoinLocksThreeCard : Claim7 := { stood := { row := fnJoinLocksThreeRow, standIns := [], harness := (true, "470a92953c7accc7d180ff017d2b587ba4efa1a03612fd547c10474fa6093b21"), looks := false }, kinds := [], alts := [], laidByText := true, laidKinds := [.data], laidTests := true, laidLooks := .later }
def FnJoinLocksThreeCardSaid : Prop := Claim7.holds Tryd.pinned (.plain (OpenSpec.ofChange fnJoinLocksThreeSpec)) fnJoinLocksThreeCard

/-- THE TIED CARD OF 'laws.FnJoinLocks'. -/
def fnJoinLocksCard : Claim7 := { stood := { row := fnJoinLocksRow, standIns := [], harness := (true, "470a92953c7accc7d180ff017d2b587ba4efa1a03612fd547c10474fa6093b21"), looks := false }, kinds := [], alts := [], laidByText := true, laidKinds := [.data], laidTests := true, laidLooks := .later }
def FnJoinLocksCardSaid : Prop := Claim7.holds Tryd.pinned (.plain (OpenSpec.ofChange fnJoinLocksSpec)) fnJoinLocksCard

/-- THE TIED CARD OF 'laws.FnGrantedLocks'. -/
def fnGrantedLocksCard : Claim7 := { stood := { row := fnGrantedLocksRow, standIns := [], harness := (true, "470a92953c7accc7d180ff017d2b587ba4efa1a03612fd547c10474fa6093b21"), looks := false }, kinds := [], alts := [], laidByText := true, laidKinds := [.data], laidTests := true, laidLooks := .later }
def FnGrantedLocksCardSaid : Prop := Claim7.holds Tryd.pinned (.plain (OpenSpec.ofChange fnGrantedLocksSpec)) fnGrantedLocksCard

/-- THE TIED CARD OF 'laws.FnGrantedLocksPrefix'. -/
def fnGrantedLocksPrefixCard : Claim7 := { stood := { row := fnGrantedLocksPrefixRow, standIns := [], harness := (true, "470a92953c7accc7d180ff017d2b587ba4efa1a03612fd547c10474fa6093b21"), looks := false }, kinds := [], alts := [], laidByText := true, laidKinds := [.data], laidTests := true, laidLooks := .later }
def FnGrantedLocksPrefixCardSaid : Prop := Claim7.holds Tryd.pinned (.plain (OpenSpec.ofChange fnGrantedLocksPrefixSpec)) fnGrantedLocksPrefixCard

/-- THE TIED CARD OF 'laws.FnExactGrantedLocks'. -/
def fnExactGrantedLocksCard : Claim7 := { stood := { row := fnExactGrantedLocksRow, standIns := [], harness := (true, "470a92953c7accc7d180ff017d2b587ba4efa1a03612fd547c10474fa6093b21"), looks := false }, kinds := [], alts := [], laidByText := true, laidKinds := [.data], laidTests := true, laidLooks := .later }
def FnExactGrantedLocksCardSaid : Prop := Claim7.holds Tryd.pinned (.plain (OpenSpec.ofChange fnExactGrantedLocksSpec)) fnExactGrantedLocksCard

/-- THE SECOND FORM's CARD OF 'laws.FnExactLocksTogether'. -/
def fnExactLocksTogetherUptoCard : Claim7 := { stood := { row := fnExactLocksTogetherUptoRow, standIns := [], harness := (true, "470a92953c7accc7d180ff017d2b587ba4efa1a03612fd547c10474fa6093b21"), looks := false }, kinds := [], alts := [], laidByText := true, laidKinds := [.data], laidTests := true, laidLooks := .later }
def FnExactLocksTogetherUptoCardSaid : Prop := Claim7.holds Tryd.pinned (.plain (OpenSpec.upto fnExactLocksTogetherSpec)) fnExactLocksTogetherUptoCard

/-- THE SECOND FORM's CARD OF 'laws.FnLocksTogether'. -/
def fnLocksTogetherUptoCard : Claim7 := { stood := { row := fnLocksTogetherUptoRow, standIns := [], harness := (true, "470a92953c7accc7d180ff017d2b587ba4efa1a03612fd547c10474fa6093b21"), looks := false }, kinds := [], alts := [], laidByText := true, laidKinds := [.data], laidTests := true, laidLooks := .later }
def FnLocksTogetherUptoCardSaid : Prop := Claim7.holds Tryd.pinned (.plain (OpenSpec.upto fnLocksTogetherSpec)) fnLocksTogetherUptoCard

/-- THE SECOND FORM's CARD OF 'laws.FnExactJoinLocks'. -/
def fnExactJoinLocksUptoCard : Claim7 := { stood := { row := fnExactJoinLocksUptoRow, standIns := [], harness := (true, "470a92953c7accc7d180ff017d2b587ba4efa1a03612fd547c10474fa6093b21"), looks := false }, kinds := [], alts := [], laidByText := true, laidKinds := [.data], laidTests := true, laidLooks := .later }
def FnExactJoinLocksUptoCardSaid : Prop := Claim7.holds Tryd.pinned (.plain (OpenSpec.upto fnExactJoinLocksSpec)) fnExactJoinLocksUptoCard

/-- THE SECOND FORM's CARD OF 'laws.FnJoinLocksThree'. -/
def fnJoinLocksThreeUptoCard : Claim7 := { stood := { row := fnJoinLocksThreeUptoRow, standIns := [], harness := (true, "470a92953c7accc7d180ff017d2b587ba4efa1a03612fd547c10474fa6093b21"), looks := false }, kinds := [], alts := [], laidByText := true, laidKinds := [.data], laidTests := true, laidLooks := .later }
def FnJoinLocksThreeUptoCardSaid : Prop := Claim7.holds Tryd.pinned (.plain (OpenSpec.upto fnJoinLocksThreeSpec)) fnJoinLocksThreeUptoCard

/-- THE SECOND FORM's CARD OF 'laws.FnJoinLocks'. -/
def fnJoinLocksUptoCard : Claim7 := { stood := { row := fnJoinLocksUptoRow, standIns := [], harness := (true, "470a92953c7accc7d180ff017d2b587ba4efa1a03612fd547c10474fa6093b21"), looks := false }, kinds := [], alts := [], laidByText := true, laidKinds := [.data], laidTests := true, laidLooks := .later }
def FnJoinLocksUptoCardSaid : Prop := Claim7.holds Tryd.pinned (.plain (OpenSpec.upto fnJoinLocksSpec)) fnJoinLocksUptoCard

/-- THE SECOND FORM's CARD OF 'laws.FnGrantedLocks'. -/
def fnGrantedLocksUptoCard : Claim7 := { stood := { row := fnGrantedLocksUptoRow, standIns := [], harness := (true, "470a92953c7accc7d180ff017d2b587ba4efa1a03612fd547c10474fa6093b21"), looks := false }, kinds := [], alts := [], laidByText := true, laidKinds := [.data], laidTests := true, laidLooks := .later }
def FnGrantedLocksUptoCardSaid : Prop := Claim7.holds Tryd.pinned (.plain (OpenSpec.upto fnGrantedLocksSpec)) fnGrantedLocksUptoCard

/-- THE SECOND FORM's CARD OF 'laws.FnGrantedLocksPrefix'. -/
def fnGrantedLocksPrefixUptoCard : Claim7 := { stood := { row := fnGrantedLocksPrefixUptoRow, standIns := [], harness := (true, "470a92953c7accc7d180ff017d2b587ba4efa1a03612fd547c10474fa6093b21"), looks := false }, kinds := [], alts := [], laidByText := true, laidKinds := [.data], laidTests := true, laidLooks := .later }
def FnGrantedLocksPrefixUptoCardSaid : Prop := Claim7.holds Tryd.pinned (.plain (OpenSpec.upto fnGrantedLocksPrefixSpec)) fnGrantedLocksPrefixUptoCard

/-- THE SECOND FORM's CARD OF 'laws.FnExactGrantedLocks'. -/
def fnExactGrantedLocksUptoCard : Claim7 := { stood := { row := fnExactGrantedLocksUptoRow, standIns := [], harness := (true, "470a92953c7accc7d180ff017d2b587ba4efa1a03612fd547c10474fa6093b21"), looks := false }, kinds := [], alts := [], laidByText := true, laidKinds := [.data], laidTests := true, laidLooks := .later }
def FnExactGrantedLocksUptoCardSaid : Prop := Claim7.holds Tryd.pinned (.plain (OpenSpec.upto fnExactGrantedLocksSpec)) fnExactGrantedLocksUptoCard
end Rows
end Go.Proofs.YtgcplfldfjpnpaaDoor
