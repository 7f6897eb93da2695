/-
  DERIVED. GIVEN WITH THE SEED: THE CARDS: each row of YtnogkkcmcnhodaaDoorRows.lean that lists a variable, with what it lists TIED to the program's text (the seventh form; the later family's looks); each row that meets fmt, with fmt's text TOLD by the authors' own Lean function (tested against real Go, not proved from fmt's source: count such statements apart). THE CARD IS WHAT COUNTS. Prove the row's statement (the work); the ties are given (YtnogkkcmcnhodaaDoorTie.lean); close each card by the builder's one call (the guide's Derived/Test/ToyasCard.lean, 'card_holds'). Laid BY PROGRAM, IN A SANDBOX (cutbox-door.mjs). By AI agents, Wed Nov 11 2026. No macro, syntax, notation, axiom, sorry.
-/
import Derived.Test.YtnogkkcmcnhodaaDoorRows
import GoSem.ClaimSeven
namespace Go.Proofs.YtnogkkcmcnhodaaDoor
namespace Rows

/-- THE TIED CARD OF 'laws.FnExactMdlNew'. -/
def fnExactMdlNewCard : Claim7 := { stood := { row := fnExactMdlNewRow, standIns := [], harness := (true, "bce751cc2d3fd03d66f5d6d0c9985bd31ec0edb97b52862e5d63da83b57122e6"), looks := false }, kinds := [], alts := [], laidByText := true, laidKinds := [.data, .pinned], laidTests := true, laidLooks := .later }
def FnExactMdlNewCardSaid : Prop := Claim7.holds Tryd.pinned (.plain (OpenSpec.ofChange fnExactMdlNewSpec)) fnExactMdlNewCard

/-- THE TIED CARD OF 'laws.FnExactMdlOk'. -/
def fnExactMdlOkCard : Claim7 := { stood := { row := fnExactMdlOkRow, standIns := [], harness := (true, "bce751cc2d3fd03d66f5d6d0c9985bd31ec0edb97b52862e5d63da83b57122e6"), looks := false }, kinds := [], alts := [], laidByText := true, laidKinds := [.data, .pinned], laidTests := true, laidLooks := .later }
def FnExactMdlOkCardSaid : Prop := Claim7.holds Tryd.pinned (.plain (OpenSpec.ofChange fnExactMdlOkSpec)) fnExactMdlOkCard

/-- THE TIED CARD OF 'laws.FnExactHseNew'. -/
def fnExactHseNewCard : Claim7 := { stood := { row := fnExactHseNewRow, standIns := [], harness := (true, "bce751cc2d3fd03d66f5d6d0c9985bd31ec0edb97b52862e5d63da83b57122e6"), looks := false }, kinds := [], alts := [], laidByText := true, laidKinds := [.data, .pinned], laidTests := true, laidLooks := .later }
def FnExactHseNewCardSaid : Prop := Claim7.holds Tryd.pinned (.plain (OpenSpec.ofChange fnExactHseNewSpec)) fnExactHseNewCard

/-- THE SECOND FORM's CARD OF 'laws.FnExactMdlNew'. -/
def fnExactMdlNewUptoCard : Claim7 := { stood := { row := fnExactMdlNewUptoRow, standIns := [], harness := (true, "bce751cc2d3fd03d66f5d6d0c9985bd31ec0edb97b52862e5d63da83b57122e6"), looks := false }, kinds := [], alts := [], laidByText := true, laidKinds := [.data, .pinned], laidTests := true, laidLooks := .later }
def FnExactMdlNewUptoCardSaid : Prop := Claim7.holds Tryd.pinned (.plain (OpenSpec.upto fnExactMdlNewSpec)) fnExactMdlNewUptoCard

/-- THE SECOND FORM's CARD OF 'laws.FnExactMdlOk'. -/
def fnExactMdlOkUptoCard : Claim7 := { stood := { row := fnExactMdlOkUptoRow, standIns := [], harness := (true, "bce751cc2d3fd03d66f5d6d0c9985bd31ec0edb97b52862e5d63da83b57122e6"), looks := false }, kinds := [], alts := [], laidByText := true, laidKinds := [.data, .pinned], laidTests := true, laidLooks := .later }
def FnExactMdlOkUptoCardSaid : Prop := Claim7.holds Tryd.pinned (.plain (OpenSpec.upto fnExactMdlOkSpec)) fnExactMdlOkUptoCard

/-- THE SECOND FORM's CARD OF 'laws.FnExactHseNew'. -/
def fnExactHseNewUptoCard : Claim7 := { stood := { row := fnExactHseNewUptoRow, standIns := [], harness := (true, "bce751cc2d3fd03d66f5d6d0c9985bd31ec0edb97b52862e5d63da83b57122e6"), looks := false }, kinds := [], alts := [], laidByText := true, laidKinds := [.data, .pinned], laidTests := true, laidLooks := .later }
def FnExactHseNewUptoCardSaid : Prop := Claim7.holds Tryd.pinned (.plain (OpenSpec.upto fnExactHseNewSpec)) fnExactHseNewUptoCard
end Rows
end Go.Proofs.YtnogkkcmcnhodaaDoor
