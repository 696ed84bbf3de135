/-
  DERIVED. GIVEN WITH THE SEED: THE CARDS: each row of YtgmlimipejcpgaaDoorRows.lean that lists a variable, with what it lists TIED to the program's text (the seventh form; the later family's looks); each row that meets fmt, with fmt's text TOLD by the authors' own Lean function (tested against real Go, not proved from fmt's source: count such statements apart). THE CARD IS WHAT COUNTS. Prove the row's statement (the work); the ties are given (YtgmlimipejcpgaaDoorTie.lean); close each card by the builder's one call (the guide's Derived/Test/ToyasCard.lean, 'card_holds'). Laid BY PROGRAM, IN A SANDBOX (cutbox-door.mjs). By AI agents, Wed Nov 11 2026. No macro, syntax, notation, axiom, sorry.
-/
import Derived.Test.YtgmlimipejcpgaaDoorRows
import GoSem.ClaimSeven
namespace Go.Proofs.YtgmlimipejcpgaaDoor
namespace Rows

/-- THE TIED CARD OF 'gnomonlaw12.CheckMore'. -/
def checkMoreCard : Claim7 := { stood := { row := checkMoreRow, standIns := [], harness := (true, "10f20d7a479f5bfbaff2389363e2e0dbf0eec679aaa926f27cdb1bf1097eb9cd"), looks := false }, kinds := [], alts := [], laidByText := true, laidKinds := [.data, .widerDeep], laidTests := true, laidLooks := .later }
def CheckMoreCardSaid : Prop := Claim7.holds Tryd.pinned (.plain (OpenSpec.ofChange checkMoreSpec)) checkMoreCard

/-- THE TIED CARD OF 'gnomonlaw12.CheckBare'. -/
def checkBareCard : Claim7 := { stood := { row := checkBareRow, standIns := [], harness := (true, "10f20d7a479f5bfbaff2389363e2e0dbf0eec679aaa926f27cdb1bf1097eb9cd"), looks := false }, kinds := [], alts := [], laidByText := true, laidKinds := [.data, .widerDeep], laidTests := true, laidLooks := .later }
def CheckBareCardSaid : Prop := Claim7.holds Tryd.pinned (.plain (OpenSpec.ofChange checkBareSpec)) checkBareCard

/-- THE TIED CARD OF 'gnomonlaw24.ActiveMore'. -/
def activeMoreCard : Claim7 := { stood := { row := activeMoreRow, standIns := [], harness := (true, "10f20d7a479f5bfbaff2389363e2e0dbf0eec679aaa926f27cdb1bf1097eb9cd"), looks := false }, kinds := [], alts := [], laidByText := true, laidKinds := [.data, .widerDeep], laidTests := true, laidLooks := .later }
def ActiveMoreCardSaid : Prop := Claim7.holds Tryd.pinned (.plain (OpenSpec.ofChange activeMoreSpec)) activeMoreCard

/-- THE TIED CARD OF 'gnomonlaw26.LuOrder'. -/
def luOrderCard : Claim7 := { stood := { row := luOrderRow, standIns := [], harness := (true, "10f20d7a479f5bfbaff2389363e2e0dbf0eec679aaa926f27cdb1bf1097eb9cd"), looks := false }, kinds := [], alts := [], laidByText := true, laidKinds := [.data, .widerDeep], laidTests := true, laidLooks := .later }
def LuOrderCardSaid : Prop := Claim7.holds Tryd.pinned (.plain (OpenSpec.ofChange luOrderSpec)) luOrderCard

/-- THE SECOND FORM's CARD OF 'gnomonlaw12.CheckMore'. -/
def checkMoreUptoCard : Claim7 := { stood := { row := checkMoreUptoRow, standIns := [], harness := (true, "10f20d7a479f5bfbaff2389363e2e0dbf0eec679aaa926f27cdb1bf1097eb9cd"), looks := false }, kinds := [], alts := [], laidByText := true, laidKinds := [.data, .widerDeep], laidTests := true, laidLooks := .later }
def CheckMoreUptoCardSaid : Prop := Claim7.holds Tryd.pinned (.plain (OpenSpec.upto checkMoreSpec)) checkMoreUptoCard

/-- THE SECOND FORM's CARD OF 'gnomonlaw12.CheckBare'. -/
def checkBareUptoCard : Claim7 := { stood := { row := checkBareUptoRow, standIns := [], harness := (true, "10f20d7a479f5bfbaff2389363e2e0dbf0eec679aaa926f27cdb1bf1097eb9cd"), looks := false }, kinds := [], alts := [], laidByText := true, laidKinds := [.data, .widerDeep], laidTests := true, laidLooks := .later }
def CheckBareUptoCardSaid : Prop := Claim7.holds Tryd.pinned (.plain (OpenSpec.upto checkBareSpec)) checkBareUptoCard

/-- THE SECOND FORM's CARD OF 'gnomonlaw24.ActiveMore'. -/
def activeMoreUptoCard : Claim7 := { stood := { row := activeMoreUptoRow, standIns := [], harness := (true, "10f20d7a479f5bfbaff2389363e2e0dbf0eec679aaa926f27cdb1bf1097eb9cd"), looks := false }, kinds := [], alts := [], laidByText := true, laidKinds := [.data, .widerDeep], laidTests := true, laidLooks := .later }
def ActiveMoreUptoCardSaid : Prop := Claim7.holds Tryd.pinned (.plain (OpenSpec.upto activeMoreSpec)) activeMoreUptoCard

/-- THE SECOND FORM's CARD OF 'gnomonlaw26.LuOrder'. -/
def luOrderUptoCard : Claim7 := { stood := { row := luOrderUptoRow, standIns := [], harness := (true, "10f20d7a479f5bfbaff2389363e2e0dbf0eec679aaa926f27cdb1bf1097eb9cd"), looks := false }, kinds := [], alts := [], laidByText := true, laidKinds := [.data, .widerDeep], laidTests := true, laidLooks := .later }
def LuOrderUptoCardSaid : Prop := Claim7.holds Tryd.pinned (.plain (OpenSpec.upto luOrderSpec)) luOrderUptoCard
end Rows
end Go.Proofs.YtgmlimipejcpgaaDoor
