/-
  DERIVED. GIVEN WITH THE SEED: THE CARDS: each row of YtngmiaglbmkbcaaDoorRows.lean that lists a variable, with what it lists TIED to the program's text (the seventh form; the later family's looks); each row that meets fmt, with fmt's text TOLD by the authors' own Lean function (tested against real Go, not proved from fmt's source: count such statements apart). THE CARD IS WHAT COUNTS. Prove the row's statement (the work); the ties are given (YtngmiaglbmkbcaaDoorTie.lean); close each card by the builder's one call (the guide's Derived/Test/ToyasCard.lean, 'card_holds'). Laid BY PROGRAM, IN A SANDBOX (cutbox-door.mjs). By AI agents, Wed Nov 11 2026. No macro, syntax, notation, axiom, sorry.
-/
import Derived.Test.YtngmiaglbmkbcaaDoorRows
import GoSem.ClaimSeven
namespace Go.Proofs.YtngmiaglbmkbcaaDoor
namespace Rows

/-- THE TIED CARD OF 'laws.FnExactWidenValue'. -/
def fnExactWidenValueCard : Claim7 := { stood := { row := fnExactWidenValueRow, standIns := [], harness := (true, "79abaf9b88482a9b58e749b2bb5eda2178da57034127c7627e4f3cba36c447fa"), looks := false }, kinds := [], alts := [], laidByText := true, laidKinds := [.data, .data, .data], laidTests := true, laidLooks := .later }
def FnExactWidenValueCardSaid : Prop := Claim7.holds Tryd.pinned (.plain (OpenSpec.ofChange fnExactWidenValueSpec)) fnExactWidenValueCard

/-- THE TIED CARD OF 'laws.FnWidenValue'. -/
def fnWidenValueCard : Claim7 := { stood := { row := fnWidenValueRow, standIns := [], harness := (true, "79abaf9b88482a9b58e749b2bb5eda2178da57034127c7627e4f3cba36c447fa"), looks := false }, kinds := [], alts := [], laidByText := true, laidKinds := [.data, .data, .data], laidTests := true, laidLooks := .later }
def FnWidenValueCardSaid : Prop := Claim7.holds Tryd.pinned (.plain (OpenSpec.ofChange fnWidenValueSpec)) fnWidenValueCard

/-- THE SECOND FORM's CARD OF 'laws.FnExactWidenValue'. -/
def fnExactWidenValueUptoCard : Claim7 := { stood := { row := fnExactWidenValueUptoRow, standIns := [], harness := (true, "79abaf9b88482a9b58e749b2bb5eda2178da57034127c7627e4f3cba36c447fa"), looks := false }, kinds := [], alts := [], laidByText := true, laidKinds := [.data, .data, .data], laidTests := true, laidLooks := .later }
def FnExactWidenValueUptoCardSaid : Prop := Claim7.holds Tryd.pinned (.plain (OpenSpec.upto fnExactWidenValueSpec)) fnExactWidenValueUptoCard

/-- THE SECOND FORM's CARD OF 'laws.FnWidenValue'. -/
def fnWidenValueUptoCard : Claim7 := { stood := { row := fnWidenValueUptoRow, standIns := [], harness := (true, "79abaf9b88482a9b58e749b2bb5eda2178da57034127c7627e4f3cba36c447fa"), looks := false }, kinds := [], alts := [], laidByText := true, laidKinds := [.data, .data, .data], laidTests := true, laidLooks := .later }
def FnWidenValueUptoCardSaid : Prop := Claim7.holds Tryd.pinned (.plain (OpenSpec.upto fnWidenValueSpec)) fnWidenValueUptoCard
end Rows
end Go.Proofs.YtngmiaglbmkbcaaDoor
