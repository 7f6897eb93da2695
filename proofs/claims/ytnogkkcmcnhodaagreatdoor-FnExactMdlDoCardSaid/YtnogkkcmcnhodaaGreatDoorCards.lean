/-
  DERIVED. GIVEN WITH THE SEED: THE CARDS: each row of YtnogkkcmcnhodaaGreatDoorRows.lean that lists a variable, with what it lists TIED to the program's text (the seventh form; the later family's looks); each row that meets fmt, with fmt's text TOLD by the authors' own Lean function (tested against real Go, not proved from fmt's source: count such statements apart). THE CARD IS WHAT COUNTS. Prove the row's statement (the work); the ties are given (YtnogkkcmcnhodaaGreatDoorTie.lean); close each card by the builder's one call (the guide's Derived/Test/ToyasCard.lean, 'card_holds'). Laid BY PROGRAM, IN A SANDBOX (cutbox-door.mjs). By AI agents, Wed Nov 11 2026. No macro, syntax, notation, axiom, sorry.
-/
import Derived.Test.YtnogkkcmcnhodaaGreatDoorRows
import GoSem.ClaimSeven
namespace Go.Proofs.YtnogkkcmcnhodaaGreatDoor
namespace Rows

/-- THE TIED CARD OF 'laws.FnExactMdlDo'. -/
def fnExactMdlDoCard : Claim7 := { stood := { row := fnExactMdlDoRow, standIns := [], harness := (true, "672e4265eede72ab96c7f1ababb57e33ba5d9ea1cf2f3129955bf9563a2a1797"), looks := false }, kinds := [], alts := [], laidByText := true, laidKinds := [.data, .pinned], laidTests := true, laidLooks := .later }
def FnExactMdlDoCardSaid : Prop := Claim7.holds Tryz.pinned (.plain (OpenSpec.ofChange fnExactMdlDoSpec)) fnExactMdlDoCard

/-- THE TIED CARD OF 'laws.FnExactMdlFiles'. -/
def fnExactMdlFilesCard : Claim7 := { stood := { row := fnExactMdlFilesRow, standIns := [], harness := (true, "672e4265eede72ab96c7f1ababb57e33ba5d9ea1cf2f3129955bf9563a2a1797"), looks := false }, kinds := [], alts := [], laidByText := true, laidKinds := [.data, .pinned], laidTests := true, laidLooks := .later }
def FnExactMdlFilesCardSaid : Prop := Claim7.holds Tryz.pinned (.plain (OpenSpec.ofChange fnExactMdlFilesSpec)) fnExactMdlFilesCard

/-- THE TIED CARD OF 'laws.FnExactMdlSees'. -/
def fnExactMdlSeesCard : Claim7 := { stood := { row := fnExactMdlSeesRow, standIns := [], harness := (true, "672e4265eede72ab96c7f1ababb57e33ba5d9ea1cf2f3129955bf9563a2a1797"), looks := false }, kinds := [], alts := [], laidByText := true, laidKinds := [.data, .pinned], laidTests := true, laidLooks := .later }
def FnExactMdlSeesCardSaid : Prop := Claim7.holds Tryz.pinned (.plain (OpenSpec.ofChange fnExactMdlSeesSpec)) fnExactMdlSeesCard

/-- THE SECOND FORM's CARD OF 'laws.FnExactMdlDo'. -/
def fnExactMdlDoUptoCard : Claim7 := { stood := { row := fnExactMdlDoUptoRow, standIns := [], harness := (true, "672e4265eede72ab96c7f1ababb57e33ba5d9ea1cf2f3129955bf9563a2a1797"), looks := false }, kinds := [], alts := [], laidByText := true, laidKinds := [.data, .pinned], laidTests := true, laidLooks := .later }
def FnExactMdlDoUptoCardSaid : Prop := Claim7.holds Tryz.pinned (.plain (OpenSpec.upto fnExactMdlDoSpec)) fnExactMdlDoUptoCard

/-- THE SECOND FORM's CARD OF 'laws.FnExactMdlFiles'. -/
def fnExactMdlFilesUptoCard : Claim7 := { stood := { row := fnExactMdlFilesUptoRow, standIns := [], harness := (true, "672e4265eede72ab96c7f1ababb57e33ba5d9ea1cf2f3129955bf9563a2a1797"), looks := false }, kinds := [], alts := [], laidByText := true, laidKinds := [.data, .pinned], laidTests := true, laidLooks := .later }
def FnExactMdlFilesUptoCardSaid : Prop := Claim7.holds Tryz.pinned (.plain (OpenSpec.upto fnExactMdlFilesSpec)) fnExactMdlFilesUptoCard

/-- THE SECOND FORM's CARD OF 'laws.FnExactMdlSees'. -/
def fnExactMdlSeesUptoCard : Claim7 := { stood := { row := fnExactMdlSeesUptoRow, standIns := [], harness := (true, "672e4265eede72ab96c7f1ababb57e33ba5d9ea1cf2f3129955bf9563a2a1797"), looks := false }, kinds := [], alts := [], laidByText := true, laidKinds := [.data, .pinned], laidTests := true, laidLooks := .later }
def FnExactMdlSeesUptoCardSaid : Prop := Claim7.holds Tryz.pinned (.plain (OpenSpec.upto fnExactMdlSeesSpec)) fnExactMdlSeesUptoCard
end Rows
end Go.Proofs.YtnogkkcmcnhodaaGreatDoor
