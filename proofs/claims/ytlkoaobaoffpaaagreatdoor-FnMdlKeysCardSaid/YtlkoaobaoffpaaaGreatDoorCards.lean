/-
  DERIVED. GIVEN WITH THE SEED: THE CARDS: each row of YtlkoaobaoffpaaaGreatDoorRows.lean that lists a variable, with what it lists TIED to the program's text (the seventh form; the later family's looks); each row that meets fmt, with fmt's text TOLD by the authors' own Lean function (tested against real Go, not proved from fmt's source: count such statements apart). THE CARD IS WHAT COUNTS. Prove the row's statement (the work); the ties are given (YtlkoaobaoffpaaaGreatDoorTie.lean); close each card by the builder's one call (the guide's Derived/Test/ToyasCard.lean, 'card_holds'). Laid BY PROGRAM, IN A SANDBOX (cutbox-door.mjs). By AI agents, Wed Nov 11 2026. No macro, syntax, notation, axiom, sorry.
-/
import Derived.Test.YtlkoaobaoffpaaaGreatDoorRows
import GoSem.ClaimSeven
namespace Go.Proofs.YtlkoaobaoffpaaaGreatDoor
namespace Rows

/-- THE TIED CARD OF 'laws.FnMdlGuard'. -/
def fnMdlGuardCard : Claim7 := { stood := { row := fnMdlGuardRow, standIns := [], harness := (true, "e033ed7754d9729c0ca4a8d7aba6374823ae049de16c92c7da6f6af3c4afcd1e"), looks := false }, kinds := [], alts := [], laidByText := true, laidKinds := [.data, .pinned], laidTests := true, laidLooks := .later }
def FnMdlGuardCardSaid : Prop := Claim7.holds Tryz.pinned (.plain (OpenSpec.ofChange fnMdlGuardSpec)) fnMdlGuardCard

/-- THE TIED CARD OF 'laws.FnMdlKeys'. -/
def fnMdlKeysCard : Claim7 := { stood := { row := fnMdlKeysRow, standIns := [], harness := (true, "e033ed7754d9729c0ca4a8d7aba6374823ae049de16c92c7da6f6af3c4afcd1e"), looks := false }, kinds := [], alts := [], laidByText := true, laidKinds := [.data, .pinned], laidTests := true, laidLooks := .later }
def FnMdlKeysCardSaid : Prop := Claim7.holds Tryz.pinned (.plain (OpenSpec.ofChange fnMdlKeysSpec)) fnMdlKeysCard

/-- THE TIED CARD OF 'laws.FnMdlOnce'. -/
def fnMdlOnceCard : Claim7 := { stood := { row := fnMdlOnceRow, standIns := [], harness := (true, "e033ed7754d9729c0ca4a8d7aba6374823ae049de16c92c7da6f6af3c4afcd1e"), looks := false }, kinds := [], alts := [], laidByText := true, laidKinds := [.data, .pinned], laidTests := true, laidLooks := .later }
def FnMdlOnceCardSaid : Prop := Claim7.holds Tryz.pinned (.plain (OpenSpec.ofChange fnMdlOnceSpec)) fnMdlOnceCard

/-- THE TIED CARD OF 'laws.FnMdlOrder'. -/
def fnMdlOrderCard : Claim7 := { stood := { row := fnMdlOrderRow, standIns := [], harness := (true, "e033ed7754d9729c0ca4a8d7aba6374823ae049de16c92c7da6f6af3c4afcd1e"), looks := false }, kinds := [], alts := [], laidByText := true, laidKinds := [.data, .pinned], laidTests := true, laidLooks := .later }
def FnMdlOrderCardSaid : Prop := Claim7.holds Tryz.pinned (.plain (OpenSpec.ofChange fnMdlOrderSpec)) fnMdlOrderCard

/-- THE TIED CARD OF 'laws.FnMdlRefused'. -/
def fnMdlRefusedCard : Claim7 := { stood := { row := fnMdlRefusedRow, standIns := [], harness := (true, "e033ed7754d9729c0ca4a8d7aba6374823ae049de16c92c7da6f6af3c4afcd1e"), looks := false }, kinds := [], alts := [], laidByText := true, laidKinds := [.data, .pinned], laidTests := true, laidLooks := .later }
def FnMdlRefusedCardSaid : Prop := Claim7.holds Tryz.pinned (.plain (OpenSpec.ofChange fnMdlRefusedSpec)) fnMdlRefusedCard

/-- THE TIED CARD OF 'laws.FnMdlStale'. -/
def fnMdlStaleCard : Claim7 := { stood := { row := fnMdlStaleRow, standIns := [], harness := (true, "e033ed7754d9729c0ca4a8d7aba6374823ae049de16c92c7da6f6af3c4afcd1e"), looks := false }, kinds := [], alts := [], laidByText := true, laidKinds := [.data, .pinned], laidTests := true, laidLooks := .later }
def FnMdlStaleCardSaid : Prop := Claim7.holds Tryz.pinned (.plain (OpenSpec.ofChange fnMdlStaleSpec)) fnMdlStaleCard

/-- THE TIED CARD OF 'laws.FnMdlStays'. -/
def fnMdlStaysCard : Claim7 := { stood := { row := fnMdlStaysRow, standIns := [], harness := (true, "e033ed7754d9729c0ca4a8d7aba6374823ae049de16c92c7da6f6af3c4afcd1e"), looks := false }, kinds := [], alts := [], laidByText := true, laidKinds := [.data, .pinned], laidTests := true, laidLooks := .later }
def FnMdlStaysCardSaid : Prop := Claim7.holds Tryz.pinned (.plain (OpenSpec.ofChange fnMdlStaysSpec)) fnMdlStaysCard

/-- THE TIED CARD OF 'laws.FnMdlStranger'. -/
def fnMdlStrangerCard : Claim7 := { stood := { row := fnMdlStrangerRow, standIns := [], harness := (true, "e033ed7754d9729c0ca4a8d7aba6374823ae049de16c92c7da6f6af3c4afcd1e"), looks := false }, kinds := [], alts := [], laidByText := true, laidKinds := [.data, .pinned], laidTests := true, laidLooks := .later }
def FnMdlStrangerCardSaid : Prop := Claim7.holds Tryz.pinned (.plain (OpenSpec.ofChange fnMdlStrangerSpec)) fnMdlStrangerCard

/-- THE TIED CARD OF 'laws.FnMdlBack'. -/
def fnMdlBackCard : Claim7 := { stood := { row := fnMdlBackRow, standIns := [], harness := (true, "e033ed7754d9729c0ca4a8d7aba6374823ae049de16c92c7da6f6af3c4afcd1e"), looks := false }, kinds := [], alts := [], laidByText := true, laidKinds := [.data, .pinned], laidTests := true, laidLooks := .later }
def FnMdlBackCardSaid : Prop := Claim7.holds Tryz.pinned (.plain (OpenSpec.ofChange fnMdlBackSpec)) fnMdlBackCard

/-- THE TIED CARD OF 'laws.FnMdlName'. -/
def fnMdlNameCard : Claim7 := { stood := { row := fnMdlNameRow, standIns := [], harness := (true, "e033ed7754d9729c0ca4a8d7aba6374823ae049de16c92c7da6f6af3c4afcd1e"), looks := false }, kinds := [], alts := [], laidByText := true, laidKinds := [.data, .pinned], laidTests := true, laidLooks := .later }
def FnMdlNameCardSaid : Prop := Claim7.holds Tryz.pinned (.plain (OpenSpec.ofChange fnMdlNameSpec)) fnMdlNameCard

/-- THE TIED CARD OF 'laws.FnMdlReset'. -/
def fnMdlResetCard : Claim7 := { stood := { row := fnMdlResetRow, standIns := [], harness := (true, "e033ed7754d9729c0ca4a8d7aba6374823ae049de16c92c7da6f6af3c4afcd1e"), looks := false }, kinds := [], alts := [], laidByText := true, laidKinds := [.data, .pinned], laidTests := true, laidLooks := .later }
def FnMdlResetCardSaid : Prop := Claim7.holds Tryz.pinned (.plain (OpenSpec.ofChange fnMdlResetSpec)) fnMdlResetCard

/-- THE TIED CARD OF 'laws.FnMdlHidden'. -/
def fnMdlHiddenCard : Claim7 := { stood := { row := fnMdlHiddenRow, standIns := [], harness := (true, "e033ed7754d9729c0ca4a8d7aba6374823ae049de16c92c7da6f6af3c4afcd1e"), looks := false }, kinds := [], alts := [], laidByText := true, laidKinds := [.data, .pinned], laidTests := true, laidLooks := .later }
def FnMdlHiddenCardSaid : Prop := Claim7.holds Tryz.pinned (.plain (OpenSpec.ofChange fnMdlHiddenSpec)) fnMdlHiddenCard

/-- THE SECOND FORM's CARD OF 'laws.FnMdlGuard'. -/
def fnMdlGuardUptoCard : Claim7 := { stood := { row := fnMdlGuardUptoRow, standIns := [], harness := (true, "e033ed7754d9729c0ca4a8d7aba6374823ae049de16c92c7da6f6af3c4afcd1e"), looks := false }, kinds := [], alts := [], laidByText := true, laidKinds := [.data, .pinned], laidTests := true, laidLooks := .later }
def FnMdlGuardUptoCardSaid : Prop := Claim7.holds Tryz.pinned (.plain (OpenSpec.upto fnMdlGuardSpec)) fnMdlGuardUptoCard

/-- THE SECOND FORM's CARD OF 'laws.FnMdlKeys'. -/
def fnMdlKeysUptoCard : Claim7 := { stood := { row := fnMdlKeysUptoRow, standIns := [], harness := (true, "e033ed7754d9729c0ca4a8d7aba6374823ae049de16c92c7da6f6af3c4afcd1e"), looks := false }, kinds := [], alts := [], laidByText := true, laidKinds := [.data, .pinned], laidTests := true, laidLooks := .later }
def FnMdlKeysUptoCardSaid : Prop := Claim7.holds Tryz.pinned (.plain (OpenSpec.upto fnMdlKeysSpec)) fnMdlKeysUptoCard

/-- THE SECOND FORM's CARD OF 'laws.FnMdlOnce'. -/
def fnMdlOnceUptoCard : Claim7 := { stood := { row := fnMdlOnceUptoRow, standIns := [], harness := (true, "e033ed7754d9729c0ca4a8d7aba6374823ae049de16c92c7da6f6af3c4afcd1e"), looks := false }, kinds := [], alts := [], laidByText := true, laidKinds := [.data, .pinned], laidTests := true, laidLooks := .later }
def FnMdlOnceUptoCardSaid : Prop := Claim7.holds Tryz.pinned (.plain (OpenSpec.upto fnMdlOnceSpec)) fnMdlOnceUptoCard

/-- THE SECOND FORM's CARD OF 'laws.FnMdlOrder'. -/
def fnMdlOrderUptoCard : Claim7 := { stood := { row := fnMdlOrderUptoRow, standIns := [], harness := (true, "e033ed7754d9729c0ca4a8d7aba6374823ae049de16c92c7da6f6af3c4afcd1e"), looks := false }, kinds := [], alts := [], laidByText := true, laidKinds := [.data, .pinned], laidTests := true, laidLooks := .later }
def FnMdlOrderUptoCardSaid : Prop := Claim7.holds Tryz.pinned (.plain (OpenSpec.upto fnMdlOrderSpec)) fnMdlOrderUptoCard

/-- THE SECOND FORM's CARD OF 'laws.FnMdlRefused'. -/
def fnMdlRefusedUptoCard : Claim7 := { stood := { row := fnMdlRefusedUptoRow, standIns := [], harness := (true, "e033ed7754d9729c0ca4a8d7aba6374823ae049de16c92c7da6f6af3c4afcd1e"), looks := false }, kinds := [], alts := [], laidByText := true, laidKinds := [.data, .pinned], laidTests := true, laidLooks := .later }
def FnMdlRefusedUptoCardSaid : Prop := Claim7.holds Tryz.pinned (.plain (OpenSpec.upto fnMdlRefusedSpec)) fnMdlRefusedUptoCard

/-- THE SECOND FORM's CARD OF 'laws.FnMdlStale'. -/
def fnMdlStaleUptoCard : Claim7 := { stood := { row := fnMdlStaleUptoRow, standIns := [], harness := (true, "e033ed7754d9729c0ca4a8d7aba6374823ae049de16c92c7da6f6af3c4afcd1e"), looks := false }, kinds := [], alts := [], laidByText := true, laidKinds := [.data, .pinned], laidTests := true, laidLooks := .later }
def FnMdlStaleUptoCardSaid : Prop := Claim7.holds Tryz.pinned (.plain (OpenSpec.upto fnMdlStaleSpec)) fnMdlStaleUptoCard

/-- THE SECOND FORM's CARD OF 'laws.FnMdlStays'. -/
def fnMdlStaysUptoCard : Claim7 := { stood := { row := fnMdlStaysUptoRow, standIns := [], harness := (true, "e033ed7754d9729c0ca4a8d7aba6374823ae049de16c92c7da6f6af3c4afcd1e"), looks := false }, kinds := [], alts := [], laidByText := true, laidKinds := [.data, .pinned], laidTests := true, laidLooks := .later }
def FnMdlStaysUptoCardSaid : Prop := Claim7.holds Tryz.pinned (.plain (OpenSpec.upto fnMdlStaysSpec)) fnMdlStaysUptoCard

/-- THE SECOND FORM's CARD OF 'laws.FnMdlStranger'. -/
def fnMdlStrangerUptoCard : Claim7 := { stood := { row := fnMdlStrangerUptoRow, standIns := [], harness := (true, "e033ed7754d9729c0ca4a8d7aba6374823ae049de16c92c7da6f6af3c4afcd1e"), looks := false }, kinds := [], alts := [], laidByText := true, laidKinds := [.data, .pinned], laidTests := true, laidLooks := .later }
def FnMdlStrangerUptoCardSaid : Prop := Claim7.holds Tryz.pinned (.plain (OpenSpec.upto fnMdlStrangerSpec)) fnMdlStrangerUptoCard

/-- THE SECOND FORM's CARD OF 'laws.FnMdlBack'. -/
def fnMdlBackUptoCard : Claim7 := { stood := { row := fnMdlBackUptoRow, standIns := [], harness := (true, "e033ed7754d9729c0ca4a8d7aba6374823ae049de16c92c7da6f6af3c4afcd1e"), looks := false }, kinds := [], alts := [], laidByText := true, laidKinds := [.data, .pinned], laidTests := true, laidLooks := .later }
def FnMdlBackUptoCardSaid : Prop := Claim7.holds Tryz.pinned (.plain (OpenSpec.upto fnMdlBackSpec)) fnMdlBackUptoCard

/-- THE SECOND FORM's CARD OF 'laws.FnMdlName'. -/
def fnMdlNameUptoCard : Claim7 := { stood := { row := fnMdlNameUptoRow, standIns := [], harness := (true, "e033ed7754d9729c0ca4a8d7aba6374823ae049de16c92c7da6f6af3c4afcd1e"), looks := false }, kinds := [], alts := [], laidByText := true, laidKinds := [.data, .pinned], laidTests := true, laidLooks := .later }
def FnMdlNameUptoCardSaid : Prop := Claim7.holds Tryz.pinned (.plain (OpenSpec.upto fnMdlNameSpec)) fnMdlNameUptoCard

/-- THE SECOND FORM's CARD OF 'laws.FnMdlReset'. -/
def fnMdlResetUptoCard : Claim7 := { stood := { row := fnMdlResetUptoRow, standIns := [], harness := (true, "e033ed7754d9729c0ca4a8d7aba6374823ae049de16c92c7da6f6af3c4afcd1e"), looks := false }, kinds := [], alts := [], laidByText := true, laidKinds := [.data, .pinned], laidTests := true, laidLooks := .later }
def FnMdlResetUptoCardSaid : Prop := Claim7.holds Tryz.pinned (.plain (OpenSpec.upto fnMdlResetSpec)) fnMdlResetUptoCard

/-- THE SECOND FORM's CARD OF 'laws.FnMdlHidden'. -/
def fnMdlHiddenUptoCard : Claim7 := { stood := { row := fnMdlHiddenUptoRow, standIns := [], harness := (true, "e033ed7754d9729c0ca4a8d7aba6374823ae049de16c92c7da6f6af3c4afcd1e"), looks := false }, kinds := [], alts := [], laidByText := true, laidKinds := [.data, .pinned], laidTests := true, laidLooks := .later }
def FnMdlHiddenUptoCardSaid : Prop := Claim7.holds Tryz.pinned (.plain (OpenSpec.upto fnMdlHiddenSpec)) fnMdlHiddenUptoCard
end Rows
end Go.Proofs.YtlkoaobaoffpaaaGreatDoor
