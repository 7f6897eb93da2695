/-
  DERIVED. GIVEN WITH THE SEED: THE CARDS: each row of YtobbdhgkcoeifaaGreatDoorRows.lean that lists a variable, with what it lists TIED to the program's text (the seventh form; the later family's looks); each row that meets fmt, with fmt's text TOLD by the authors' own Lean function (tested against real Go, not proved from fmt's source: count such statements apart). THE CARD IS WHAT COUNTS. Prove the row's statement (the work); the ties are given (YtobbdhgkcoeifaaGreatDoorTie.lean); close each card by the builder's one call (the guide's Derived/Test/ToyasCard.lean, 'card_holds'). Laid BY PROGRAM, IN A SANDBOX (cutbox-door.mjs). By AI agents, Wed Nov 11 2026. No macro, syntax, notation, axiom, sorry.
-/
import Derived.Test.YtobbdhgkcoeifaaGreatDoorRows
import GoSem.ClaimSeven
namespace Go.Proofs.YtobbdhgkcoeifaaGreatDoor
namespace Rows

/-- THE TIED CARD OF 'laws.FnMdlMay'. -/
def fnMdlMayCard : Claim7 := { stood := { row := fnMdlMayRow, standIns := [], harness := (true, "37050b6fef8de07a5f1075245e8494c2c1a033a1eb2ae22ec30f1df02d1bead4"), looks := false }, kinds := [], alts := [], laidByText := true, laidKinds := [.data, .pinned], laidTests := true, laidLooks := .later }
def FnMdlMayCardSaid : Prop := Claim7.holds Tryz.pinned (.plain (OpenSpec.ofChange fnMdlMaySpec)) fnMdlMayCard

/-- THE TIED CARD OF 'laws.FnMdlCopy'. -/
def fnMdlCopyCard : Claim7 := { stood := { row := fnMdlCopyRow, standIns := [], harness := (true, "37050b6fef8de07a5f1075245e8494c2c1a033a1eb2ae22ec30f1df02d1bead4"), looks := false }, kinds := [], alts := [], laidByText := true, laidKinds := [.data, .pinned], laidTests := true, laidLooks := .later }
def FnMdlCopyCardSaid : Prop := Claim7.holds Tryz.pinned (.plain (OpenSpec.ofChange fnMdlCopySpec)) fnMdlCopyCard

/-- THE TIED CARD OF 'laws.FnMdlSees'. -/
def fnMdlSeesCard : Claim7 := { stood := { row := fnMdlSeesRow, standIns := [], harness := (true, "37050b6fef8de07a5f1075245e8494c2c1a033a1eb2ae22ec30f1df02d1bead4"), looks := false }, kinds := [], alts := [], laidByText := true, laidKinds := [.data, .pinned], laidTests := true, laidLooks := .later }
def FnMdlSeesCardSaid : Prop := Claim7.holds Tryz.pinned (.plain (OpenSpec.ofChange fnMdlSeesSpec)) fnMdlSeesCard

/-- THE TIED CARD OF 'laws.FnMdlHidden'. -/
def fnMdlHiddenCard : Claim7 := { stood := { row := fnMdlHiddenRow, standIns := [], harness := (true, "37050b6fef8de07a5f1075245e8494c2c1a033a1eb2ae22ec30f1df02d1bead4"), looks := false }, kinds := [], alts := [], laidByText := true, laidKinds := [.data, .pinned], laidTests := true, laidLooks := .later }
def FnMdlHiddenCardSaid : Prop := Claim7.holds Tryz.pinned (.plain (OpenSpec.ofChange fnMdlHiddenSpec)) fnMdlHiddenCard

/-- THE SECOND FORM's CARD OF 'laws.FnMdlMay'. -/
def fnMdlMayUptoCard : Claim7 := { stood := { row := fnMdlMayUptoRow, standIns := [], harness := (true, "37050b6fef8de07a5f1075245e8494c2c1a033a1eb2ae22ec30f1df02d1bead4"), looks := false }, kinds := [], alts := [], laidByText := true, laidKinds := [.data, .pinned], laidTests := true, laidLooks := .later }
def FnMdlMayUptoCardSaid : Prop := Claim7.holds Tryz.pinned (.plain (OpenSpec.upto fnMdlMaySpec)) fnMdlMayUptoCard

/-- THE SECOND FORM's CARD OF 'laws.FnMdlCopy'. -/
def fnMdlCopyUptoCard : Claim7 := { stood := { row := fnMdlCopyUptoRow, standIns := [], harness := (true, "37050b6fef8de07a5f1075245e8494c2c1a033a1eb2ae22ec30f1df02d1bead4"), looks := false }, kinds := [], alts := [], laidByText := true, laidKinds := [.data, .pinned], laidTests := true, laidLooks := .later }
def FnMdlCopyUptoCardSaid : Prop := Claim7.holds Tryz.pinned (.plain (OpenSpec.upto fnMdlCopySpec)) fnMdlCopyUptoCard

/-- THE SECOND FORM's CARD OF 'laws.FnMdlSees'. -/
def fnMdlSeesUptoCard : Claim7 := { stood := { row := fnMdlSeesUptoRow, standIns := [], harness := (true, "37050b6fef8de07a5f1075245e8494c2c1a033a1eb2ae22ec30f1df02d1bead4"), looks := false }, kinds := [], alts := [], laidByText := true, laidKinds := [.data, .pinned], laidTests := true, laidLooks := .later }
def FnMdlSeesUptoCardSaid : Prop := Claim7.holds Tryz.pinned (.plain (OpenSpec.upto fnMdlSeesSpec)) fnMdlSeesUptoCard

/-- THE SECOND FORM's CARD OF 'laws.FnMdlHidden'. -/
def fnMdlHiddenUptoCard : Claim7 := { stood := { row := fnMdlHiddenUptoRow, standIns := [], harness := (true, "37050b6fef8de07a5f1075245e8494c2c1a033a1eb2ae22ec30f1df02d1bead4"), looks := false }, kinds := [], alts := [], laidByText := true, laidKinds := [.data, .pinned], laidTests := true, laidLooks := .later }
def FnMdlHiddenUptoCardSaid : Prop := Claim7.holds Tryz.pinned (.plain (OpenSpec.upto fnMdlHiddenSpec)) fnMdlHiddenUptoCard
end Rows
end Go.Proofs.YtobbdhgkcoeifaaGreatDoor
