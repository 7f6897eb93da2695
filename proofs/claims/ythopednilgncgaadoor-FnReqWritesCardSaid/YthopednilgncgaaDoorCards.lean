/-
  DERIVED. GIVEN WITH THE SEED: THE CARDS: each row of YthopednilgncgaaDoorRows.lean that lists a variable, with what it lists TIED to the program's text (the seventh form; the later family's looks); each row that meets fmt, with fmt's text TOLD by the authors' own Lean function (tested against real Go, not proved from fmt's source: count such statements apart). THE CARD IS WHAT COUNTS. Prove the row's statement (the work); the ties are given (YthopednilgncgaaDoorTie.lean); close each card by the builder's one call (the guide's Derived/Test/ToyasCard.lean, 'card_holds'). Laid BY PROGRAM, IN A SANDBOX (cutbox-door.mjs). By AI agents, Wed Nov 11 2026. No macro, syntax, notation, axiom, sorry.
-/
import Derived.Test.YthopednilgncgaaDoorRows
import GoSem.ClaimSeven
namespace Go.Proofs.YthopednilgncgaaDoor
namespace Rows

/-- THE TIED CARD OF 'laws.FnRulOut'. -/
def fnRulOutCard : Claim7 := { stood := { row := fnRulOutRow, standIns := [], harness := (true, "3329dcb4f5f83b001cefcacc40ff6f8a4ad3d142512fedab2ea945f9de45c58d"), looks := true }, kinds := [], alts := [], laidByText := true, laidKinds := [.data, .pinned], laidTests := true, laidLooks := .later }
def FnRulOutCardSaid : Prop := Claim7.holds Tryd.pinned (.plain (OpenSpec.ofChange fnRulOutSpec)) fnRulOutCard

/-- THE TIED CARD OF 'laws.FnRulMore'. -/
def fnRulMoreCard : Claim7 := { stood := { row := fnRulMoreRow, standIns := [], harness := (true, "3329dcb4f5f83b001cefcacc40ff6f8a4ad3d142512fedab2ea945f9de45c58d"), looks := true }, kinds := [], alts := [], laidByText := true, laidKinds := [.data, .pinned], laidTests := true, laidLooks := .later }
def FnRulMoreCardSaid : Prop := Claim7.holds Tryd.pinned (.plain (OpenSpec.ofChange fnRulMoreSpec)) fnRulMoreCard

/-- THE TIED CARD OF 'laws.FnReqWrites'. -/
def fnReqWritesCard : Claim7 := { stood := { row := fnReqWritesRow, standIns := [], harness := (true, "3329dcb4f5f83b001cefcacc40ff6f8a4ad3d142512fedab2ea945f9de45c58d"), looks := true }, kinds := [], alts := [], laidByText := true, laidKinds := [.data, .pinned], laidTests := true, laidLooks := .later }
def FnReqWritesCardSaid : Prop := Claim7.holds Tryd.pinned (.plain (OpenSpec.ofChange fnReqWritesSpec)) fnReqWritesCard

/-- THE TIED CARD OF 'laws.FnExactReqOk'. -/
def fnExactReqOkCard : Claim7 := { stood := { row := fnExactReqOkRow, standIns := [], harness := (true, "3329dcb4f5f83b001cefcacc40ff6f8a4ad3d142512fedab2ea945f9de45c58d"), looks := true }, kinds := [], alts := [], laidByText := true, laidKinds := [.data, .pinned], laidTests := true, laidLooks := .later }
def FnExactReqOkCardSaid : Prop := Claim7.holds Tryd.pinned (.plain (OpenSpec.ofChange fnExactReqOkSpec)) fnExactReqOkCard

/-- THE TIED CARD OF 'laws.FnExactRulText'. -/
def fnExactRulTextCard : Claim7 := { stood := { row := fnExactRulTextRow, standIns := [], harness := (true, "3329dcb4f5f83b001cefcacc40ff6f8a4ad3d142512fedab2ea945f9de45c58d"), looks := true }, kinds := [], alts := [], laidByText := true, laidKinds := [.data, .data, .data, .data, .pinned], laidTests := true, laidLooks := .later }
def FnExactRulTextCardSaid : Prop := Claim7.holds Tryd.pinned (.plain (OpenSpec.ofChange fnExactRulTextSpec)) fnExactRulTextCard

/-- THE TIED CARD OF 'laws.FnExactRulRead'. -/
def fnExactRulReadCard : Claim7 := { stood := { row := fnExactRulReadRow, standIns := [], harness := (true, "3329dcb4f5f83b001cefcacc40ff6f8a4ad3d142512fedab2ea945f9de45c58d"), looks := true }, kinds := [], alts := [], laidByText := true, laidKinds := [.data, .data, .data, .data, .sentinel, .sentinel, .pinned], laidTests := true, laidLooks := .later }
def FnExactRulReadCardSaid : Prop := Claim7.holds Tryd.pinned (.plain (OpenSpec.ofChange fnExactRulReadSpec)) fnExactRulReadCard

/-- THE TIED CARD OF 'laws.FnRulText'. -/
def fnRulTextCard : Claim7 := { stood := { row := fnRulTextRow, standIns := [], harness := (true, "3329dcb4f5f83b001cefcacc40ff6f8a4ad3d142512fedab2ea945f9de45c58d"), looks := true }, kinds := [], alts := [], laidByText := true, laidKinds := [.data, .data, .data, .data, .sentinel, .sentinel, .pinned], laidTests := true, laidLooks := .later }
def FnRulTextCardSaid : Prop := Claim7.holds Tryd.pinned (.plain (OpenSpec.ofChange fnRulTextSpec)) fnRulTextCard

/-- THE SECOND FORM's CARD OF 'laws.FnRulOut'. -/
def fnRulOutUptoCard : Claim7 := { stood := { row := fnRulOutUptoRow, standIns := [], harness := (true, "3329dcb4f5f83b001cefcacc40ff6f8a4ad3d142512fedab2ea945f9de45c58d"), looks := true }, kinds := [], alts := [], laidByText := true, laidKinds := [.data, .pinned], laidTests := true, laidLooks := .later }
def FnRulOutUptoCardSaid : Prop := Claim7.holds Tryd.pinned (.plain (OpenSpec.upto fnRulOutSpec)) fnRulOutUptoCard

/-- THE SECOND FORM's CARD OF 'laws.FnRulMore'. -/
def fnRulMoreUptoCard : Claim7 := { stood := { row := fnRulMoreUptoRow, standIns := [], harness := (true, "3329dcb4f5f83b001cefcacc40ff6f8a4ad3d142512fedab2ea945f9de45c58d"), looks := true }, kinds := [], alts := [], laidByText := true, laidKinds := [.data, .pinned], laidTests := true, laidLooks := .later }
def FnRulMoreUptoCardSaid : Prop := Claim7.holds Tryd.pinned (.plain (OpenSpec.upto fnRulMoreSpec)) fnRulMoreUptoCard

/-- THE SECOND FORM's CARD OF 'laws.FnReqWrites'. -/
def fnReqWritesUptoCard : Claim7 := { stood := { row := fnReqWritesUptoRow, standIns := [], harness := (true, "3329dcb4f5f83b001cefcacc40ff6f8a4ad3d142512fedab2ea945f9de45c58d"), looks := true }, kinds := [], alts := [], laidByText := true, laidKinds := [.data, .pinned], laidTests := true, laidLooks := .later }
def FnReqWritesUptoCardSaid : Prop := Claim7.holds Tryd.pinned (.plain (OpenSpec.upto fnReqWritesSpec)) fnReqWritesUptoCard

/-- THE SECOND FORM's CARD OF 'laws.FnExactReqOk'. -/
def fnExactReqOkUptoCard : Claim7 := { stood := { row := fnExactReqOkUptoRow, standIns := [], harness := (true, "3329dcb4f5f83b001cefcacc40ff6f8a4ad3d142512fedab2ea945f9de45c58d"), looks := true }, kinds := [], alts := [], laidByText := true, laidKinds := [.data, .pinned], laidTests := true, laidLooks := .later }
def FnExactReqOkUptoCardSaid : Prop := Claim7.holds Tryd.pinned (.plain (OpenSpec.upto fnExactReqOkSpec)) fnExactReqOkUptoCard

/-- THE SECOND FORM's CARD OF 'laws.FnExactRulText'. -/
def fnExactRulTextUptoCard : Claim7 := { stood := { row := fnExactRulTextUptoRow, standIns := [], harness := (true, "3329dcb4f5f83b001cefcacc40ff6f8a4ad3d142512fedab2ea945f9de45c58d"), looks := true }, kinds := [], alts := [], laidByText := true, laidKinds := [.data, .data, .data, .data, .pinned], laidTests := true, laidLooks := .later }
def FnExactRulTextUptoCardSaid : Prop := Claim7.holds Tryd.pinned (.plain (OpenSpec.upto fnExactRulTextSpec)) fnExactRulTextUptoCard

/-- THE SECOND FORM's CARD OF 'laws.FnExactRulRead'. -/
def fnExactRulReadUptoCard : Claim7 := { stood := { row := fnExactRulReadUptoRow, standIns := [], harness := (true, "3329dcb4f5f83b001cefcacc40ff6f8a4ad3d142512fedab2ea945f9de45c58d"), looks := true }, kinds := [], alts := [], laidByText := true, laidKinds := [.data, .data, .data, .data, .sentinel, .sentinel, .pinned], laidTests := true, laidLooks := .later }
def FnExactRulReadUptoCardSaid : Prop := Claim7.holds Tryd.pinned (.plain (OpenSpec.upto fnExactRulReadSpec)) fnExactRulReadUptoCard

/-- THE SECOND FORM's CARD OF 'laws.FnRulText'. -/
def fnRulTextUptoCard : Claim7 := { stood := { row := fnRulTextUptoRow, standIns := [], harness := (true, "3329dcb4f5f83b001cefcacc40ff6f8a4ad3d142512fedab2ea945f9de45c58d"), looks := true }, kinds := [], alts := [], laidByText := true, laidKinds := [.data, .data, .data, .data, .sentinel, .sentinel, .pinned], laidTests := true, laidLooks := .later }
def FnRulTextUptoCardSaid : Prop := Claim7.holds Tryd.pinned (.plain (OpenSpec.upto fnRulTextSpec)) fnRulTextUptoCard
end Rows
end Go.Proofs.YthopednilgncgaaDoor
