/-
  DERIVED. GIVEN WITH THE SEED: THE CARDS: each row of YtgmlimipejcpgaaGreatDoorRows.lean that lists a variable, with what it lists TIED to the program's text (the seventh form; the later family's looks); each row that meets fmt, with fmt's text TOLD by the authors' own Lean function (tested against real Go, not proved from fmt's source: count such statements apart). THE CARD IS WHAT COUNTS. Prove the row's statement (the work); the ties are given (YtgmlimipejcpgaaGreatDoorTie.lean); close each card by the builder's one call (the guide's Derived/Test/ToyasCard.lean, 'card_holds'). Laid BY PROGRAM, IN A SANDBOX (cutbox-door.mjs). By AI agents, Wed Nov 11 2026. No macro, syntax, notation, axiom, sorry.
-/
import Derived.Test.YtgmlimipejcpgaaGreatDoorRows
import GoSem.ClaimSeven
namespace Go.Proofs.YtgmlimipejcpgaaGreatDoor
namespace Rows

/-- THE TIED CARD OF 'gnomonlaw12.CheckNets'. -/
def checkNetsCard : Claim7 := { stood := { row := checkNetsRow, standIns := [], harness := (true, "1980d7369c917675051621a1a478b2dc3d56fdbbf970c768946b01ba505ae7e3"), looks := false }, kinds := [], alts := [], laidByText := true, laidKinds := [.data, .widerDeep], laidTests := true, laidLooks := .later }
def CheckNetsCardSaid : Prop := Claim7.holds Tryz.pinned (.plain (OpenSpec.ofChange checkNetsSpec)) checkNetsCard

/-- THE TIED CARD OF 'gnomonlaw12.CheckGoals'. -/
def checkGoalsCard : Claim7 := { stood := { row := checkGoalsRow, standIns := [], harness := (true, "1980d7369c917675051621a1a478b2dc3d56fdbbf970c768946b01ba505ae7e3"), looks := false }, kinds := [], alts := [], laidByText := true, laidKinds := [.data, .widerDeep], laidTests := true, laidLooks := .later }
def CheckGoalsCardSaid : Prop := Claim7.holds Tryz.pinned (.plain (OpenSpec.ofChange checkGoalsSpec)) checkGoalsCard

/-- THE TIED CARD OF 'gnomonlaw12.CheckMost'. -/
def checkMostCard : Claim7 := { stood := { row := checkMostRow, standIns := [], harness := (true, "1980d7369c917675051621a1a478b2dc3d56fdbbf970c768946b01ba505ae7e3"), looks := false }, kinds := [], alts := [], laidByText := true, laidKinds := [.data, .widerDeep], laidTests := true, laidLooks := .later }
def CheckMostCardSaid : Prop := Claim7.holds Tryz.pinned (.plain (OpenSpec.ofChange checkMostSpec)) checkMostCard

/-- THE TIED CARD OF 'gnomonlaw24.ActiveClocks'. -/
def activeClocksCard : Claim7 := { stood := { row := activeClocksRow, standIns := [], harness := (true, "1980d7369c917675051621a1a478b2dc3d56fdbbf970c768946b01ba505ae7e3"), looks := false }, kinds := [], alts := [], laidByText := true, laidKinds := [.data, .widerDeep], laidTests := true, laidLooks := .later }
def ActiveClocksCardSaid : Prop := Claim7.holds Tryz.pinned (.plain (OpenSpec.ofChange activeClocksSpec)) activeClocksCard

/-- THE TIED CARD OF 'gnomonlaw26.LuPlans'. -/
def luPlansCard : Claim7 := { stood := { row := luPlansRow, standIns := [], harness := (true, "1980d7369c917675051621a1a478b2dc3d56fdbbf970c768946b01ba505ae7e3"), looks := false }, kinds := [], alts := [], laidByText := true, laidKinds := [.data, .widerDeep], laidTests := true, laidLooks := .later }
def LuPlansCardSaid : Prop := Claim7.holds Tryz.pinned (.plain (OpenSpec.ofChange luPlansSpec)) luPlansCard

/-- THE TIED CARD OF 'gnomonlaw24.ActivePlans'. -/
def activePlansCard : Claim7 := { stood := { row := activePlansRow, standIns := [], harness := (true, "1980d7369c917675051621a1a478b2dc3d56fdbbf970c768946b01ba505ae7e3"), looks := false }, kinds := [], alts := [], laidByText := true, laidKinds := [.data, .widerDeep], laidTests := true, laidLooks := .later }
def ActivePlansCardSaid : Prop := Claim7.holds Tryz.pinned (.plain (OpenSpec.ofChange activePlansSpec)) activePlansCard

/-- THE TIED CARD OF 'gnomonlaw26.LuJoins'. -/
def luJoinsCard : Claim7 := { stood := { row := luJoinsRow, standIns := [], harness := (true, "1980d7369c917675051621a1a478b2dc3d56fdbbf970c768946b01ba505ae7e3"), looks := false }, kinds := [], alts := [], laidByText := true, laidKinds := [.data, .widerDeep], laidTests := true, laidLooks := .later }
def LuJoinsCardSaid : Prop := Claim7.holds Tryz.pinned (.plain (OpenSpec.ofChange luJoinsSpec)) luJoinsCard

/-- THE TIED CARD OF 'gnomonlaw26.LuBelow'. -/
def luBelowCard : Claim7 := { stood := { row := luBelowRow, standIns := [], harness := (true, "1980d7369c917675051621a1a478b2dc3d56fdbbf970c768946b01ba505ae7e3"), looks := false }, kinds := [], alts := [], laidByText := true, laidKinds := [.data, .widerDeep], laidTests := true, laidLooks := .later }
def LuBelowCardSaid : Prop := Claim7.holds Tryz.pinned (.plain (OpenSpec.ofChange luBelowSpec)) luBelowCard

/-- THE SECOND FORM's CARD OF 'gnomonlaw12.CheckNets'. -/
def checkNetsUptoCard : Claim7 := { stood := { row := checkNetsUptoRow, standIns := [], harness := (true, "1980d7369c917675051621a1a478b2dc3d56fdbbf970c768946b01ba505ae7e3"), looks := false }, kinds := [], alts := [], laidByText := true, laidKinds := [.data, .widerDeep], laidTests := true, laidLooks := .later }
def CheckNetsUptoCardSaid : Prop := Claim7.holds Tryz.pinned (.plain (OpenSpec.upto checkNetsSpec)) checkNetsUptoCard

/-- THE SECOND FORM's CARD OF 'gnomonlaw12.CheckGoals'. -/
def checkGoalsUptoCard : Claim7 := { stood := { row := checkGoalsUptoRow, standIns := [], harness := (true, "1980d7369c917675051621a1a478b2dc3d56fdbbf970c768946b01ba505ae7e3"), looks := false }, kinds := [], alts := [], laidByText := true, laidKinds := [.data, .widerDeep], laidTests := true, laidLooks := .later }
def CheckGoalsUptoCardSaid : Prop := Claim7.holds Tryz.pinned (.plain (OpenSpec.upto checkGoalsSpec)) checkGoalsUptoCard

/-- THE SECOND FORM's CARD OF 'gnomonlaw12.CheckMost'. -/
def checkMostUptoCard : Claim7 := { stood := { row := checkMostUptoRow, standIns := [], harness := (true, "1980d7369c917675051621a1a478b2dc3d56fdbbf970c768946b01ba505ae7e3"), looks := false }, kinds := [], alts := [], laidByText := true, laidKinds := [.data, .widerDeep], laidTests := true, laidLooks := .later }
def CheckMostUptoCardSaid : Prop := Claim7.holds Tryz.pinned (.plain (OpenSpec.upto checkMostSpec)) checkMostUptoCard

/-- THE SECOND FORM's CARD OF 'gnomonlaw24.ActiveClocks'. -/
def activeClocksUptoCard : Claim7 := { stood := { row := activeClocksUptoRow, standIns := [], harness := (true, "1980d7369c917675051621a1a478b2dc3d56fdbbf970c768946b01ba505ae7e3"), looks := false }, kinds := [], alts := [], laidByText := true, laidKinds := [.data, .widerDeep], laidTests := true, laidLooks := .later }
def ActiveClocksUptoCardSaid : Prop := Claim7.holds Tryz.pinned (.plain (OpenSpec.upto activeClocksSpec)) activeClocksUptoCard

/-- THE SECOND FORM's CARD OF 'gnomonlaw26.LuPlans'. -/
def luPlansUptoCard : Claim7 := { stood := { row := luPlansUptoRow, standIns := [], harness := (true, "1980d7369c917675051621a1a478b2dc3d56fdbbf970c768946b01ba505ae7e3"), looks := false }, kinds := [], alts := [], laidByText := true, laidKinds := [.data, .widerDeep], laidTests := true, laidLooks := .later }
def LuPlansUptoCardSaid : Prop := Claim7.holds Tryz.pinned (.plain (OpenSpec.upto luPlansSpec)) luPlansUptoCard

/-- THE SECOND FORM's CARD OF 'gnomonlaw24.ActivePlans'. -/
def activePlansUptoCard : Claim7 := { stood := { row := activePlansUptoRow, standIns := [], harness := (true, "1980d7369c917675051621a1a478b2dc3d56fdbbf970c768946b01ba505ae7e3"), looks := false }, kinds := [], alts := [], laidByText := true, laidKinds := [.data, .widerDeep], laidTests := true, laidLooks := .later }
def ActivePlansUptoCardSaid : Prop := Claim7.holds Tryz.pinned (.plain (OpenSpec.upto activePlansSpec)) activePlansUptoCard

/-- THE SECOND FORM's CARD OF 'gnomonlaw26.LuJoins'. -/
def luJoinsUptoCard : Claim7 := { stood := { row := luJoinsUptoRow, standIns := [], harness := (true, "1980d7369c917675051621a1a478b2dc3d56fdbbf970c768946b01ba505ae7e3"), looks := false }, kinds := [], alts := [], laidByText := true, laidKinds := [.data, .widerDeep], laidTests := true, laidLooks := .later }
def LuJoinsUptoCardSaid : Prop := Claim7.holds Tryz.pinned (.plain (OpenSpec.upto luJoinsSpec)) luJoinsUptoCard

/-- THE SECOND FORM's CARD OF 'gnomonlaw26.LuBelow'. -/
def luBelowUptoCard : Claim7 := { stood := { row := luBelowUptoRow, standIns := [], harness := (true, "1980d7369c917675051621a1a478b2dc3d56fdbbf970c768946b01ba505ae7e3"), looks := false }, kinds := [], alts := [], laidByText := true, laidKinds := [.data, .widerDeep], laidTests := true, laidLooks := .later }
def LuBelowUptoCardSaid : Prop := Claim7.holds Tryz.pinned (.plain (OpenSpec.upto luBelowSpec)) luBelowUptoCard
end Rows
end Go.Proofs.YtgmlimipejcpgaaGreatDoor
