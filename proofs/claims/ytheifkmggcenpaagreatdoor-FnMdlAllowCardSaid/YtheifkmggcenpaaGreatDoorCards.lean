/-
  DERIVED. GIVEN WITH THE SEED: THE CARDS: each row of YtheifkmggcenpaaGreatDoorRows.lean that lists a variable, with what it lists TIED to the program's text (the seventh form; the later family's looks); each row that meets fmt, with fmt's text TOLD by the authors' own Lean function (tested against real Go, not proved from fmt's source: count such statements apart). THE CARD IS WHAT COUNTS. Prove the row's statement (the work); the ties are given (YtheifkmggcenpaaGreatDoorTie.lean); close each card by the builder's one call (the guide's Derived/Test/ToyasCard.lean, 'card_holds'). Laid BY PROGRAM, IN A SANDBOX (cutbox-door.mjs). By AI agents, Wed Nov 11 2026. No macro, syntax, notation, axiom, sorry.
-/
import Derived.Test.YtheifkmggcenpaaGreatDoorRows
import GoSem.ClaimSeven
namespace Go.Proofs.YtheifkmggcenpaaGreatDoor
namespace Rows

/-- THE TIED CARD OF 'laws.FnMdlMay'. -/
def fnMdlMayCard : Claim7 := { stood := { row := fnMdlMayRow, standIns := [], harness := (true, "514480684102258d5dc7d8d740f6eac36684e0f26959cc2e759dba03e472fa80"), looks := false }, kinds := [], alts := [], laidByText := true, laidKinds := [.data, .pinned], laidTests := true, laidLooks := .later }
def FnMdlMayCardSaid : Prop := Claim7.holds Tryz.pinned (.plain (OpenSpec.ofChange fnMdlMaySpec)) fnMdlMayCard

/-- THE TIED CARD OF 'laws.FnMdlCopy'. -/
def fnMdlCopyCard : Claim7 := { stood := { row := fnMdlCopyRow, standIns := [], harness := (true, "514480684102258d5dc7d8d740f6eac36684e0f26959cc2e759dba03e472fa80"), looks := false }, kinds := [], alts := [], laidByText := true, laidKinds := [.data, .pinned], laidTests := true, laidLooks := .later }
def FnMdlCopyCardSaid : Prop := Claim7.holds Tryz.pinned (.plain (OpenSpec.ofChange fnMdlCopySpec)) fnMdlCopyCard

/-- THE TIED CARD OF 'laws.FnMdlSees'. -/
def fnMdlSeesCard : Claim7 := { stood := { row := fnMdlSeesRow, standIns := [], harness := (true, "514480684102258d5dc7d8d740f6eac36684e0f26959cc2e759dba03e472fa80"), looks := false }, kinds := [], alts := [], laidByText := true, laidKinds := [.data, .pinned], laidTests := true, laidLooks := .later }
def FnMdlSeesCardSaid : Prop := Claim7.holds Tryz.pinned (.plain (OpenSpec.ofChange fnMdlSeesSpec)) fnMdlSeesCard

/-- THE TIED CARD OF 'laws.FnMdlRefs'. -/
def fnMdlRefsCard : Claim7 := { stood := { row := fnMdlRefsRow, standIns := [], harness := (true, "514480684102258d5dc7d8d740f6eac36684e0f26959cc2e759dba03e472fa80"), looks := false }, kinds := [], alts := [], laidByText := true, laidKinds := [.data, .pinned], laidTests := true, laidLooks := .later }
def FnMdlRefsCardSaid : Prop := Claim7.holds Tryz.pinned (.plain (OpenSpec.ofChange fnMdlRefsSpec)) fnMdlRefsCard

/-- THE TIED CARD OF 'laws.FnMdlUsed'. -/
def fnMdlUsedCard : Claim7 := { stood := { row := fnMdlUsedRow, standIns := [], harness := (true, "514480684102258d5dc7d8d740f6eac36684e0f26959cc2e759dba03e472fa80"), looks := false }, kinds := [], alts := [], laidByText := true, laidKinds := [.data, .pinned], laidTests := true, laidLooks := .later }
def FnMdlUsedCardSaid : Prop := Claim7.holds Tryz.pinned (.plain (OpenSpec.ofChange fnMdlUsedSpec)) fnMdlUsedCard

/-- THE TIED CARD OF 'laws.FnMdlLook'. -/
def fnMdlLookCard : Claim7 := { stood := { row := fnMdlLookRow, standIns := [], harness := (true, "514480684102258d5dc7d8d740f6eac36684e0f26959cc2e759dba03e472fa80"), looks := false }, kinds := [], alts := [], laidByText := true, laidKinds := [.data, .pinned], laidTests := true, laidLooks := .later }
def FnMdlLookCardSaid : Prop := Claim7.holds Tryz.pinned (.plain (OpenSpec.ofChange fnMdlLookSpec)) fnMdlLookCard

/-- THE TIED CARD OF 'laws.FnMdlAllow'. -/
def fnMdlAllowCard : Claim7 := { stood := { row := fnMdlAllowRow, standIns := [], harness := (true, "514480684102258d5dc7d8d740f6eac36684e0f26959cc2e759dba03e472fa80"), looks := false }, kinds := [], alts := [], laidByText := true, laidKinds := [.data, .pinned], laidTests := true, laidLooks := .later }
def FnMdlAllowCardSaid : Prop := Claim7.holds Tryz.pinned (.plain (OpenSpec.ofChange fnMdlAllowSpec)) fnMdlAllowCard

/-- THE TIED CARD OF 'laws.FnMdlApart'. -/
def fnMdlApartCard : Claim7 := { stood := { row := fnMdlApartRow, standIns := [], harness := (true, "514480684102258d5dc7d8d740f6eac36684e0f26959cc2e759dba03e472fa80"), looks := false }, kinds := [], alts := [], laidByText := true, laidKinds := [.data, .pinned], laidTests := true, laidLooks := .later }
def FnMdlApartCardSaid : Prop := Claim7.holds Tryz.pinned (.plain (OpenSpec.ofChange fnMdlApartSpec)) fnMdlApartCard

/-- THE TIED CARD OF 'laws.FnMdlEmpty'. -/
def fnMdlEmptyCard : Claim7 := { stood := { row := fnMdlEmptyRow, standIns := [], harness := (true, "514480684102258d5dc7d8d740f6eac36684e0f26959cc2e759dba03e472fa80"), looks := false }, kinds := [], alts := [], laidByText := true, laidKinds := [.data, .pinned], laidTests := true, laidLooks := .later }
def FnMdlEmptyCardSaid : Prop := Claim7.holds Tryz.pinned (.plain (OpenSpec.ofChange fnMdlEmptySpec)) fnMdlEmptyCard

/-- THE TIED CARD OF 'laws.FnMdlGuard'. -/
def fnMdlGuardCard : Claim7 := { stood := { row := fnMdlGuardRow, standIns := [], harness := (true, "514480684102258d5dc7d8d740f6eac36684e0f26959cc2e759dba03e472fa80"), looks := false }, kinds := [], alts := [], laidByText := true, laidKinds := [.data, .pinned], laidTests := true, laidLooks := .later }
def FnMdlGuardCardSaid : Prop := Claim7.holds Tryz.pinned (.plain (OpenSpec.ofChange fnMdlGuardSpec)) fnMdlGuardCard

/-- THE TIED CARD OF 'laws.FnMdlKeys'. -/
def fnMdlKeysCard : Claim7 := { stood := { row := fnMdlKeysRow, standIns := [], harness := (true, "514480684102258d5dc7d8d740f6eac36684e0f26959cc2e759dba03e472fa80"), looks := false }, kinds := [], alts := [], laidByText := true, laidKinds := [.data, .pinned], laidTests := true, laidLooks := .later }
def FnMdlKeysCardSaid : Prop := Claim7.holds Tryz.pinned (.plain (OpenSpec.ofChange fnMdlKeysSpec)) fnMdlKeysCard

/-- THE TIED CARD OF 'laws.FnMdlLimits'. -/
def fnMdlLimitsCard : Claim7 := { stood := { row := fnMdlLimitsRow, standIns := [], harness := (true, "514480684102258d5dc7d8d740f6eac36684e0f26959cc2e759dba03e472fa80"), looks := false }, kinds := [], alts := [], laidByText := true, laidKinds := [.data, .pinned], laidTests := true, laidLooks := .later }
def FnMdlLimitsCardSaid : Prop := Claim7.holds Tryz.pinned (.plain (OpenSpec.ofChange fnMdlLimitsSpec)) fnMdlLimitsCard

/-- THE SECOND FORM's CARD OF 'laws.FnMdlMay'. -/
def fnMdlMayUptoCard : Claim7 := { stood := { row := fnMdlMayUptoRow, standIns := [], harness := (true, "514480684102258d5dc7d8d740f6eac36684e0f26959cc2e759dba03e472fa80"), looks := false }, kinds := [], alts := [], laidByText := true, laidKinds := [.data, .pinned], laidTests := true, laidLooks := .later }
def FnMdlMayUptoCardSaid : Prop := Claim7.holds Tryz.pinned (.plain (OpenSpec.upto fnMdlMaySpec)) fnMdlMayUptoCard

/-- THE SECOND FORM's CARD OF 'laws.FnMdlCopy'. -/
def fnMdlCopyUptoCard : Claim7 := { stood := { row := fnMdlCopyUptoRow, standIns := [], harness := (true, "514480684102258d5dc7d8d740f6eac36684e0f26959cc2e759dba03e472fa80"), looks := false }, kinds := [], alts := [], laidByText := true, laidKinds := [.data, .pinned], laidTests := true, laidLooks := .later }
def FnMdlCopyUptoCardSaid : Prop := Claim7.holds Tryz.pinned (.plain (OpenSpec.upto fnMdlCopySpec)) fnMdlCopyUptoCard

/-- THE SECOND FORM's CARD OF 'laws.FnMdlSees'. -/
def fnMdlSeesUptoCard : Claim7 := { stood := { row := fnMdlSeesUptoRow, standIns := [], harness := (true, "514480684102258d5dc7d8d740f6eac36684e0f26959cc2e759dba03e472fa80"), looks := false }, kinds := [], alts := [], laidByText := true, laidKinds := [.data, .pinned], laidTests := true, laidLooks := .later }
def FnMdlSeesUptoCardSaid : Prop := Claim7.holds Tryz.pinned (.plain (OpenSpec.upto fnMdlSeesSpec)) fnMdlSeesUptoCard

/-- THE SECOND FORM's CARD OF 'laws.FnMdlRefs'. -/
def fnMdlRefsUptoCard : Claim7 := { stood := { row := fnMdlRefsUptoRow, standIns := [], harness := (true, "514480684102258d5dc7d8d740f6eac36684e0f26959cc2e759dba03e472fa80"), looks := false }, kinds := [], alts := [], laidByText := true, laidKinds := [.data, .pinned], laidTests := true, laidLooks := .later }
def FnMdlRefsUptoCardSaid : Prop := Claim7.holds Tryz.pinned (.plain (OpenSpec.upto fnMdlRefsSpec)) fnMdlRefsUptoCard

/-- THE SECOND FORM's CARD OF 'laws.FnMdlUsed'. -/
def fnMdlUsedUptoCard : Claim7 := { stood := { row := fnMdlUsedUptoRow, standIns := [], harness := (true, "514480684102258d5dc7d8d740f6eac36684e0f26959cc2e759dba03e472fa80"), looks := false }, kinds := [], alts := [], laidByText := true, laidKinds := [.data, .pinned], laidTests := true, laidLooks := .later }
def FnMdlUsedUptoCardSaid : Prop := Claim7.holds Tryz.pinned (.plain (OpenSpec.upto fnMdlUsedSpec)) fnMdlUsedUptoCard

/-- THE SECOND FORM's CARD OF 'laws.FnMdlLook'. -/
def fnMdlLookUptoCard : Claim7 := { stood := { row := fnMdlLookUptoRow, standIns := [], harness := (true, "514480684102258d5dc7d8d740f6eac36684e0f26959cc2e759dba03e472fa80"), looks := false }, kinds := [], alts := [], laidByText := true, laidKinds := [.data, .pinned], laidTests := true, laidLooks := .later }
def FnMdlLookUptoCardSaid : Prop := Claim7.holds Tryz.pinned (.plain (OpenSpec.upto fnMdlLookSpec)) fnMdlLookUptoCard

/-- THE SECOND FORM's CARD OF 'laws.FnMdlAllow'. -/
def fnMdlAllowUptoCard : Claim7 := { stood := { row := fnMdlAllowUptoRow, standIns := [], harness := (true, "514480684102258d5dc7d8d740f6eac36684e0f26959cc2e759dba03e472fa80"), looks := false }, kinds := [], alts := [], laidByText := true, laidKinds := [.data, .pinned], laidTests := true, laidLooks := .later }
def FnMdlAllowUptoCardSaid : Prop := Claim7.holds Tryz.pinned (.plain (OpenSpec.upto fnMdlAllowSpec)) fnMdlAllowUptoCard

/-- THE SECOND FORM's CARD OF 'laws.FnMdlApart'. -/
def fnMdlApartUptoCard : Claim7 := { stood := { row := fnMdlApartUptoRow, standIns := [], harness := (true, "514480684102258d5dc7d8d740f6eac36684e0f26959cc2e759dba03e472fa80"), looks := false }, kinds := [], alts := [], laidByText := true, laidKinds := [.data, .pinned], laidTests := true, laidLooks := .later }
def FnMdlApartUptoCardSaid : Prop := Claim7.holds Tryz.pinned (.plain (OpenSpec.upto fnMdlApartSpec)) fnMdlApartUptoCard

/-- THE SECOND FORM's CARD OF 'laws.FnMdlEmpty'. -/
def fnMdlEmptyUptoCard : Claim7 := { stood := { row := fnMdlEmptyUptoRow, standIns := [], harness := (true, "514480684102258d5dc7d8d740f6eac36684e0f26959cc2e759dba03e472fa80"), looks := false }, kinds := [], alts := [], laidByText := true, laidKinds := [.data, .pinned], laidTests := true, laidLooks := .later }
def FnMdlEmptyUptoCardSaid : Prop := Claim7.holds Tryz.pinned (.plain (OpenSpec.upto fnMdlEmptySpec)) fnMdlEmptyUptoCard

/-- THE SECOND FORM's CARD OF 'laws.FnMdlGuard'. -/
def fnMdlGuardUptoCard : Claim7 := { stood := { row := fnMdlGuardUptoRow, standIns := [], harness := (true, "514480684102258d5dc7d8d740f6eac36684e0f26959cc2e759dba03e472fa80"), looks := false }, kinds := [], alts := [], laidByText := true, laidKinds := [.data, .pinned], laidTests := true, laidLooks := .later }
def FnMdlGuardUptoCardSaid : Prop := Claim7.holds Tryz.pinned (.plain (OpenSpec.upto fnMdlGuardSpec)) fnMdlGuardUptoCard

/-- THE SECOND FORM's CARD OF 'laws.FnMdlKeys'. -/
def fnMdlKeysUptoCard : Claim7 := { stood := { row := fnMdlKeysUptoRow, standIns := [], harness := (true, "514480684102258d5dc7d8d740f6eac36684e0f26959cc2e759dba03e472fa80"), looks := false }, kinds := [], alts := [], laidByText := true, laidKinds := [.data, .pinned], laidTests := true, laidLooks := .later }
def FnMdlKeysUptoCardSaid : Prop := Claim7.holds Tryz.pinned (.plain (OpenSpec.upto fnMdlKeysSpec)) fnMdlKeysUptoCard

/-- THE SECOND FORM's CARD OF 'laws.FnMdlLimits'. -/
def fnMdlLimitsUptoCard : Claim7 := { stood := { row := fnMdlLimitsUptoRow, standIns := [], harness := (true, "514480684102258d5dc7d8d740f6eac36684e0f26959cc2e759dba03e472fa80"), looks := false }, kinds := [], alts := [], laidByText := true, laidKinds := [.data, .pinned], laidTests := true, laidLooks := .later }
def FnMdlLimitsUptoCardSaid : Prop := Claim7.holds Tryz.pinned (.plain (OpenSpec.upto fnMdlLimitsSpec)) fnMdlLimitsUptoCard
end Rows
end Go.Proofs.YtheifkmggcenpaaGreatDoor
