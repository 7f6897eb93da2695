/-
  NARROWER THAN 'FOR EVERY INPUT', by the rows' own cells (each row's printed sentence says how): FnMdlGuard: laid · FnMdlKeys: laid · FnMdlOnce: laid · FnMdlOrder: laid · FnMdlRefused: laid · FnMdlStale: laid · FnMdlStays: laid · FnMdlStranger: laid · FnMdlBack: laid · FnMdlName: laid · FnMdlReset: laid · FnMdlHidden: laid.
  DERIVED. THE GIVEN ROWS OF THIS SEAT. 12 by the template 'for every input the law returns true; each argument reads behind the call as it read before'; 0 by the template 'total and deterministic' (their statements: YtlkoaobaoffpaaaGreatDoorTotals.lean).
  GIVEN WITH THE SEED: the statements are not yours to turn. If you find one false, say at which input.
  Laid BY PROGRAM, IN A SANDBOX (cutbox-rows.mjs): the forced cells as the released guide's own fill.sh prints them over the translation 29e07c947102b586… (all of the seat's roots in one cut). By AI agents, Wed Nov 11 2026. No macro, syntax, notation, axiom, sorry.
-/
import Derived.Test.YtlkoaobaoffpaaaGreatDoorChecked
import GoSem.PinnedTables
import GoSem.Claim
import GoSem.ClaimJoined
import GoSem.ClaimMapViews
import Derived.JoinedTies
import Derived.KernelRfl
namespace Go.Proofs.YtlkoaobaoffpaaaGreatDoor
/- THE CELL 'sum', in the pinned program and in every row, IS THE sha256 OF THE DUMP (.gsa) THAT YtlkoaobaoffpaaaGreatDoorProg.lean LOADS. Nothing in Lean hashes anything: it is a label: what it is worth is what the hold of that sum in a sandbox is worth. -/
noncomputable def Tryz.pinned : Pinned := { name := "ytlkoaobaoffpaaagreatdoor", sum := "29e07c947102b586b8ddf1529a677757694cca9bbb4c52fa43c5c28c77f320d1", checked := Tryz.checked }
namespace Rows
def none {H : Type} : Left H := { results := [], args := [] }

/- WHAT THE LISTED PACKAGE-LEVEL VARIABLES READ AS WHEN THE CALL BEGINS. Each datum BY PROGRAM (the guide's laid-datum.mjs) off the statement by which the dump's own 'gosem.cut.vars' lays the variable. In a bare row this is a premise. The card (YtlkoaobaoffpaaaGreatDoorCards.lean) ties it to the program's text. -/
def laid_unicode_utf8_acceptRanges {H : Type} : DataW H := .agg [.agg [.lit (.int .u8 128), .lit (.int .u8 191)], .agg [.lit (.int .u8 160), .lit (.int .u8 191)], .agg [.lit (.int .u8 128), .lit (.int .u8 159)], .agg [.lit (.int .u8 144), .lit (.int .u8 191)], .agg [.lit (.int .u8 128), .lit (.int .u8 143)], .agg [.lit (.int .u8 0), .lit (.int .u8 0)], .agg [.lit (.int .u8 0), .lit (.int .u8 0)], .agg [.lit (.int .u8 0), .lit (.int .u8 0)], .agg [.lit (.int .u8 0), .lit (.int .u8 0)], .agg [.lit (.int .u8 0), .lit (.int .u8 0)], .agg [.lit (.int .u8 0), .lit (.int .u8 0)], .agg [.lit (.int .u8 0), .lit (.int .u8 0)], .agg [.lit (.int .u8 0), .lit (.int .u8 0)], .agg [.lit (.int .u8 0), .lit (.int .u8 0)], .agg [.lit (.int .u8 0), .lit (.int .u8 0)], .agg [.lit (.int .u8 0), .lit (.int .u8 0)]]
/-- One of Go's own tables, pinned by name: the form's constant. -/
def laid_unicode_utf8_first : DataW Unit := Go.Pinned.utf8First

/-- 'laws.FnMdlGuard': WHATEVER THE INPUT: true; the input reads as it did. -/
def fnMdlGuardSpec : ChangeSpec := { name := "fnMdlGuard", fn := fun _ => fun
  | [d] => { results := [.lit (.bool true)], args := [d] }
  | _ => none }
def fnMdlGuardRow : OpenClaim := { program := "ytlkoaobaoffpaaagreatdoor", sum := "29e07c947102b586b8ddf1529a677757694cca9bbb4c52fa43c5c28c77f320d1", func := "loop.example/chartulary/laws.FnMdlGuard", spec := "fnMdlGuard", inPlace := ["internal/bytealg.CountString", "internal/bytealg.IndexByteString", "internal/bytealg.IndexString", "slices.overlaps[loop.example/chartulary/impl.TreFile]", "slices.overlaps[loop.example/chartulary/impl.MdlRef]"], unfollowed := true, recurses := true, named := ["unicode/utf8.first", "unicode/utf8.acceptRanges", "internal/bytealg.MaxLen"], apart := false, laid := [("unicode/utf8.acceptRanges", laid_unicode_utf8_acceptRanges), ("unicode/utf8.first", laid_unicode_utf8_first)] }
def FnMdlGuardSaid : Prop := fnMdlGuardRow.holds Tryz.pinned (OpenSpec.ofChange fnMdlGuardSpec)

/-- ITS FALSE NEIGHBOUR: 'it returns false'. Refute it at one input. -/
def fnMdlGuardWrong : ChangeSpec := { name := "fnMdlGuard", fn := fun _ => fun
  | [d] => { results := [.lit (.bool false)], args := [d] }
  | _ => none }
def FnMdlGuardWrongFalsely : Prop := fnMdlGuardRow.holds Tryz.pinned (OpenSpec.ofChange fnMdlGuardWrong)

/-- 'laws.FnMdlKeys': WHATEVER THE INPUT: true; the input reads as it did. -/
def fnMdlKeysSpec : ChangeSpec := { name := "fnMdlKeys", fn := fun _ => fun
  | [d] => { results := [.lit (.bool true)], args := [d] }
  | _ => none }
def fnMdlKeysRow : OpenClaim := { program := "ytlkoaobaoffpaaagreatdoor", sum := "29e07c947102b586b8ddf1529a677757694cca9bbb4c52fa43c5c28c77f320d1", func := "loop.example/chartulary/laws.FnMdlKeys", spec := "fnMdlKeys", inPlace := ["internal/bytealg.CountString", "internal/bytealg.IndexByteString", "internal/bytealg.IndexString", "slices.overlaps[loop.example/chartulary/impl.TreFile]", "slices.overlaps[loop.example/chartulary/impl.MdlRef]"], unfollowed := true, recurses := true, named := ["unicode/utf8.first", "unicode/utf8.acceptRanges", "internal/bytealg.MaxLen"], apart := false, laid := [("unicode/utf8.acceptRanges", laid_unicode_utf8_acceptRanges), ("unicode/utf8.first", laid_unicode_utf8_first)] }
def FnMdlKeysSaid : Prop := fnMdlKeysRow.holds Tryz.pinned (OpenSpec.ofChange fnMdlKeysSpec)

/-- ITS FALSE NEIGHBOUR: 'it returns false'. Refute it at one input. -/
def fnMdlKeysWrong : ChangeSpec := { name := "fnMdlKeys", fn := fun _ => fun
  | [d] => { results := [.lit (.bool false)], args := [d] }
  | _ => none }
def FnMdlKeysWrongFalsely : Prop := fnMdlKeysRow.holds Tryz.pinned (OpenSpec.ofChange fnMdlKeysWrong)

/-- 'laws.FnMdlOnce': WHATEVER THE INPUT: true; the input reads as it did. -/
def fnMdlOnceSpec : ChangeSpec := { name := "fnMdlOnce", fn := fun _ => fun
  | [d] => { results := [.lit (.bool true)], args := [d] }
  | _ => none }
def fnMdlOnceRow : OpenClaim := { program := "ytlkoaobaoffpaaagreatdoor", sum := "29e07c947102b586b8ddf1529a677757694cca9bbb4c52fa43c5c28c77f320d1", func := "loop.example/chartulary/laws.FnMdlOnce", spec := "fnMdlOnce", inPlace := ["internal/bytealg.CountString", "internal/bytealg.IndexByteString", "internal/bytealg.IndexString", "slices.overlaps[loop.example/chartulary/impl.TreFile]", "slices.overlaps[loop.example/chartulary/impl.MdlRef]"], unfollowed := true, recurses := true, named := ["unicode/utf8.first", "unicode/utf8.acceptRanges", "internal/bytealg.MaxLen"], apart := false, laid := [("unicode/utf8.acceptRanges", laid_unicode_utf8_acceptRanges), ("unicode/utf8.first", laid_unicode_utf8_first)] }
def FnMdlOnceSaid : Prop := fnMdlOnceRow.holds Tryz.pinned (OpenSpec.ofChange fnMdlOnceSpec)

/-- ITS FALSE NEIGHBOUR: 'it returns false'. Refute it at one input. -/
def fnMdlOnceWrong : ChangeSpec := { name := "fnMdlOnce", fn := fun _ => fun
  | [d] => { results := [.lit (.bool false)], args := [d] }
  | _ => none }
def FnMdlOnceWrongFalsely : Prop := fnMdlOnceRow.holds Tryz.pinned (OpenSpec.ofChange fnMdlOnceWrong)

/-- 'laws.FnMdlOrder': WHATEVER THE INPUT: true; the input reads as it did. -/
def fnMdlOrderSpec : ChangeSpec := { name := "fnMdlOrder", fn := fun _ => fun
  | [d1, d2] => { results := [.lit (.bool true)], args := [d1, d2] }
  | _ => none }
def fnMdlOrderRow : OpenClaim := { program := "ytlkoaobaoffpaaagreatdoor", sum := "29e07c947102b586b8ddf1529a677757694cca9bbb4c52fa43c5c28c77f320d1", func := "loop.example/chartulary/laws.FnMdlOrder", spec := "fnMdlOrder", inPlace := ["internal/bytealg.CountString", "internal/bytealg.IndexByteString", "internal/bytealg.IndexString", "slices.overlaps[loop.example/chartulary/impl.TreFile]", "slices.overlaps[loop.example/chartulary/impl.MdlRef]"], unfollowed := true, recurses := true, named := ["unicode/utf8.first", "unicode/utf8.acceptRanges", "internal/bytealg.MaxLen"], apart := false, laid := [("unicode/utf8.acceptRanges", laid_unicode_utf8_acceptRanges), ("unicode/utf8.first", laid_unicode_utf8_first)] }
def FnMdlOrderSaid : Prop := fnMdlOrderRow.holds Tryz.pinned (OpenSpec.ofChange fnMdlOrderSpec)

/-- ITS FALSE NEIGHBOUR: 'it returns false'. Refute it at one input. -/
def fnMdlOrderWrong : ChangeSpec := { name := "fnMdlOrder", fn := fun _ => fun
  | [d1, d2] => { results := [.lit (.bool false)], args := [d1, d2] }
  | _ => none }
def FnMdlOrderWrongFalsely : Prop := fnMdlOrderRow.holds Tryz.pinned (OpenSpec.ofChange fnMdlOrderWrong)

/-- 'laws.FnMdlRefused': WHATEVER THE INPUT: true; the input reads as it did. -/
def fnMdlRefusedSpec : ChangeSpec := { name := "fnMdlRefused", fn := fun _ => fun
  | [d] => { results := [.lit (.bool true)], args := [d] }
  | _ => none }
def fnMdlRefusedRow : OpenClaim := { program := "ytlkoaobaoffpaaagreatdoor", sum := "29e07c947102b586b8ddf1529a677757694cca9bbb4c52fa43c5c28c77f320d1", func := "loop.example/chartulary/laws.FnMdlRefused", spec := "fnMdlRefused", inPlace := ["internal/bytealg.CountString", "internal/bytealg.IndexByteString", "internal/bytealg.IndexString", "slices.overlaps[loop.example/chartulary/impl.TreFile]", "slices.overlaps[loop.example/chartulary/impl.MdlRef]"], unfollowed := true, recurses := true, named := ["unicode/utf8.first", "unicode/utf8.acceptRanges", "internal/bytealg.MaxLen"], apart := false, laid := [("unicode/utf8.acceptRanges", laid_unicode_utf8_acceptRanges), ("unicode/utf8.first", laid_unicode_utf8_first)] }
def FnMdlRefusedSaid : Prop := fnMdlRefusedRow.holds Tryz.pinned (OpenSpec.ofChange fnMdlRefusedSpec)

/-- ITS FALSE NEIGHBOUR: 'it returns false'. Refute it at one input. -/
def fnMdlRefusedWrong : ChangeSpec := { name := "fnMdlRefused", fn := fun _ => fun
  | [d] => { results := [.lit (.bool false)], args := [d] }
  | _ => none }
def FnMdlRefusedWrongFalsely : Prop := fnMdlRefusedRow.holds Tryz.pinned (OpenSpec.ofChange fnMdlRefusedWrong)

/-- 'laws.FnMdlStale': WHATEVER THE INPUT: true; the input reads as it did. -/
def fnMdlStaleSpec : ChangeSpec := { name := "fnMdlStale", fn := fun _ => fun
  | [d] => { results := [.lit (.bool true)], args := [d] }
  | _ => none }
def fnMdlStaleRow : OpenClaim := { program := "ytlkoaobaoffpaaagreatdoor", sum := "29e07c947102b586b8ddf1529a677757694cca9bbb4c52fa43c5c28c77f320d1", func := "loop.example/chartulary/laws.FnMdlStale", spec := "fnMdlStale", inPlace := ["internal/bytealg.CountString", "internal/bytealg.IndexByteString", "internal/bytealg.IndexString", "slices.overlaps[loop.example/chartulary/impl.TreFile]", "slices.overlaps[loop.example/chartulary/impl.MdlRef]"], unfollowed := true, recurses := true, named := ["unicode/utf8.first", "unicode/utf8.acceptRanges", "internal/bytealg.MaxLen"], apart := false, laid := [("unicode/utf8.acceptRanges", laid_unicode_utf8_acceptRanges), ("unicode/utf8.first", laid_unicode_utf8_first)] }
def FnMdlStaleSaid : Prop := fnMdlStaleRow.holds Tryz.pinned (OpenSpec.ofChange fnMdlStaleSpec)

/-- ITS FALSE NEIGHBOUR: 'it returns false'. Refute it at one input. -/
def fnMdlStaleWrong : ChangeSpec := { name := "fnMdlStale", fn := fun _ => fun
  | [d] => { results := [.lit (.bool false)], args := [d] }
  | _ => none }
def FnMdlStaleWrongFalsely : Prop := fnMdlStaleRow.holds Tryz.pinned (OpenSpec.ofChange fnMdlStaleWrong)

/-- 'laws.FnMdlStays': WHATEVER THE INPUT: true; the input reads as it did. -/
def fnMdlStaysSpec : ChangeSpec := { name := "fnMdlStays", fn := fun _ => fun
  | [d] => { results := [.lit (.bool true)], args := [d] }
  | _ => none }
def fnMdlStaysRow : OpenClaim := { program := "ytlkoaobaoffpaaagreatdoor", sum := "29e07c947102b586b8ddf1529a677757694cca9bbb4c52fa43c5c28c77f320d1", func := "loop.example/chartulary/laws.FnMdlStays", spec := "fnMdlStays", inPlace := ["internal/bytealg.CountString", "internal/bytealg.IndexByteString", "internal/bytealg.IndexString", "slices.overlaps[loop.example/chartulary/impl.TreFile]", "slices.overlaps[loop.example/chartulary/impl.MdlRef]"], unfollowed := true, recurses := true, named := ["unicode/utf8.first", "unicode/utf8.acceptRanges", "internal/bytealg.MaxLen"], apart := false, laid := [("unicode/utf8.acceptRanges", laid_unicode_utf8_acceptRanges), ("unicode/utf8.first", laid_unicode_utf8_first)] }
def FnMdlStaysSaid : Prop := fnMdlStaysRow.holds Tryz.pinned (OpenSpec.ofChange fnMdlStaysSpec)

/-- ITS FALSE NEIGHBOUR: 'it returns false'. Refute it at one input. -/
def fnMdlStaysWrong : ChangeSpec := { name := "fnMdlStays", fn := fun _ => fun
  | [d] => { results := [.lit (.bool false)], args := [d] }
  | _ => none }
def FnMdlStaysWrongFalsely : Prop := fnMdlStaysRow.holds Tryz.pinned (OpenSpec.ofChange fnMdlStaysWrong)

/-- 'laws.FnMdlStranger': WHATEVER THE INPUT: true; the input reads as it did. -/
def fnMdlStrangerSpec : ChangeSpec := { name := "fnMdlStranger", fn := fun _ => fun
  | [d] => { results := [.lit (.bool true)], args := [d] }
  | _ => none }
def fnMdlStrangerRow : OpenClaim := { program := "ytlkoaobaoffpaaagreatdoor", sum := "29e07c947102b586b8ddf1529a677757694cca9bbb4c52fa43c5c28c77f320d1", func := "loop.example/chartulary/laws.FnMdlStranger", spec := "fnMdlStranger", inPlace := ["internal/bytealg.CountString", "internal/bytealg.IndexByteString", "internal/bytealg.IndexString", "slices.overlaps[loop.example/chartulary/impl.TreFile]", "slices.overlaps[loop.example/chartulary/impl.MdlRef]"], unfollowed := true, recurses := true, named := ["unicode/utf8.first", "unicode/utf8.acceptRanges", "internal/bytealg.MaxLen"], apart := false, laid := [("unicode/utf8.acceptRanges", laid_unicode_utf8_acceptRanges), ("unicode/utf8.first", laid_unicode_utf8_first)] }
def FnMdlStrangerSaid : Prop := fnMdlStrangerRow.holds Tryz.pinned (OpenSpec.ofChange fnMdlStrangerSpec)

/-- ITS FALSE NEIGHBOUR: 'it returns false'. Refute it at one input. -/
def fnMdlStrangerWrong : ChangeSpec := { name := "fnMdlStranger", fn := fun _ => fun
  | [d] => { results := [.lit (.bool false)], args := [d] }
  | _ => none }
def FnMdlStrangerWrongFalsely : Prop := fnMdlStrangerRow.holds Tryz.pinned (OpenSpec.ofChange fnMdlStrangerWrong)

/-- 'laws.FnMdlBack': WHATEVER THE INPUT: true; the input reads as it did. -/
def fnMdlBackSpec : ChangeSpec := { name := "fnMdlBack", fn := fun _ => fun
  | [d] => { results := [.lit (.bool true)], args := [d] }
  | _ => none }
def fnMdlBackRow : OpenClaim := { program := "ytlkoaobaoffpaaagreatdoor", sum := "29e07c947102b586b8ddf1529a677757694cca9bbb4c52fa43c5c28c77f320d1", func := "loop.example/chartulary/laws.FnMdlBack", spec := "fnMdlBack", inPlace := ["internal/bytealg.CountString", "internal/bytealg.IndexByteString", "internal/bytealg.IndexString", "slices.overlaps[loop.example/chartulary/impl.TreFile]", "slices.overlaps[loop.example/chartulary/impl.MdlRef]"], unfollowed := true, recurses := true, named := ["unicode/utf8.first", "unicode/utf8.acceptRanges", "internal/bytealg.MaxLen"], apart := false, laid := [("unicode/utf8.acceptRanges", laid_unicode_utf8_acceptRanges), ("unicode/utf8.first", laid_unicode_utf8_first)] }
def FnMdlBackSaid : Prop := fnMdlBackRow.holds Tryz.pinned (OpenSpec.ofChange fnMdlBackSpec)

/-- ITS FALSE NEIGHBOUR: 'it returns false'. Refute it at one input. -/
def fnMdlBackWrong : ChangeSpec := { name := "fnMdlBack", fn := fun _ => fun
  | [d] => { results := [.lit (.bool false)], args := [d] }
  | _ => none }
def FnMdlBackWrongFalsely : Prop := fnMdlBackRow.holds Tryz.pinned (OpenSpec.ofChange fnMdlBackWrong)

/-- 'laws.FnMdlName': WHATEVER THE INPUT: true; the input reads as it did. -/
def fnMdlNameSpec : ChangeSpec := { name := "fnMdlName", fn := fun _ => fun
  | [d] => { results := [.lit (.bool true)], args := [d] }
  | _ => none }
def fnMdlNameRow : OpenClaim := { program := "ytlkoaobaoffpaaagreatdoor", sum := "29e07c947102b586b8ddf1529a677757694cca9bbb4c52fa43c5c28c77f320d1", func := "loop.example/chartulary/laws.FnMdlName", spec := "fnMdlName", inPlace := ["internal/bytealg.CountString", "internal/bytealg.IndexByteString", "internal/bytealg.IndexString", "slices.overlaps[loop.example/chartulary/impl.TreFile]", "slices.overlaps[loop.example/chartulary/impl.MdlRef]"], unfollowed := true, recurses := true, named := ["unicode/utf8.first", "unicode/utf8.acceptRanges", "internal/bytealg.MaxLen"], apart := false, laid := [("unicode/utf8.acceptRanges", laid_unicode_utf8_acceptRanges), ("unicode/utf8.first", laid_unicode_utf8_first)] }
def FnMdlNameSaid : Prop := fnMdlNameRow.holds Tryz.pinned (OpenSpec.ofChange fnMdlNameSpec)

/-- ITS FALSE NEIGHBOUR: 'it returns false'. Refute it at one input. -/
def fnMdlNameWrong : ChangeSpec := { name := "fnMdlName", fn := fun _ => fun
  | [d] => { results := [.lit (.bool false)], args := [d] }
  | _ => none }
def FnMdlNameWrongFalsely : Prop := fnMdlNameRow.holds Tryz.pinned (OpenSpec.ofChange fnMdlNameWrong)

/-- 'laws.FnMdlReset': WHATEVER THE INPUT: true; the input reads as it did. -/
def fnMdlResetSpec : ChangeSpec := { name := "fnMdlReset", fn := fun _ => fun
  | [d] => { results := [.lit (.bool true)], args := [d] }
  | _ => none }
def fnMdlResetRow : OpenClaim := { program := "ytlkoaobaoffpaaagreatdoor", sum := "29e07c947102b586b8ddf1529a677757694cca9bbb4c52fa43c5c28c77f320d1", func := "loop.example/chartulary/laws.FnMdlReset", spec := "fnMdlReset", inPlace := ["internal/bytealg.CountString", "internal/bytealg.IndexByteString", "internal/bytealg.IndexString", "slices.overlaps[loop.example/chartulary/impl.TreFile]", "slices.overlaps[loop.example/chartulary/impl.MdlRef]"], unfollowed := true, recurses := true, named := ["unicode/utf8.first", "unicode/utf8.acceptRanges", "internal/bytealg.MaxLen"], apart := false, laid := [("unicode/utf8.acceptRanges", laid_unicode_utf8_acceptRanges), ("unicode/utf8.first", laid_unicode_utf8_first)] }
def FnMdlResetSaid : Prop := fnMdlResetRow.holds Tryz.pinned (OpenSpec.ofChange fnMdlResetSpec)

/-- ITS FALSE NEIGHBOUR: 'it returns false'. Refute it at one input. -/
def fnMdlResetWrong : ChangeSpec := { name := "fnMdlReset", fn := fun _ => fun
  | [d] => { results := [.lit (.bool false)], args := [d] }
  | _ => none }
def FnMdlResetWrongFalsely : Prop := fnMdlResetRow.holds Tryz.pinned (OpenSpec.ofChange fnMdlResetWrong)

/-- 'laws.FnMdlHidden': WHATEVER THE INPUT: true; the input reads as it did. -/
def fnMdlHiddenSpec : ChangeSpec := { name := "fnMdlHidden", fn := fun _ => fun
  | [d] => { results := [.lit (.bool true)], args := [d] }
  | _ => none }
def fnMdlHiddenRow : OpenClaim := { program := "ytlkoaobaoffpaaagreatdoor", sum := "29e07c947102b586b8ddf1529a677757694cca9bbb4c52fa43c5c28c77f320d1", func := "loop.example/chartulary/laws.FnMdlHidden", spec := "fnMdlHidden", inPlace := ["internal/bytealg.CountString", "internal/bytealg.IndexByteString", "internal/bytealg.IndexString", "slices.overlaps[loop.example/chartulary/impl.TreFile]", "slices.overlaps[loop.example/chartulary/impl.MdlRef]"], unfollowed := true, recurses := true, named := ["unicode/utf8.first", "unicode/utf8.acceptRanges", "internal/bytealg.MaxLen"], apart := false, laid := [("unicode/utf8.acceptRanges", laid_unicode_utf8_acceptRanges), ("unicode/utf8.first", laid_unicode_utf8_first)] }
def FnMdlHiddenSaid : Prop := fnMdlHiddenRow.holds Tryz.pinned (OpenSpec.ofChange fnMdlHiddenSpec)

/-- ITS FALSE NEIGHBOUR: 'it returns false'. Refute it at one input. -/
def fnMdlHiddenWrong : ChangeSpec := { name := "fnMdlHidden", fn := fun _ => fun
  | [d] => { results := [.lit (.bool false)], args := [d] }
  | _ => none }
def FnMdlHiddenWrongFalsely : Prop := fnMdlHiddenRow.holds Tryz.pinned (OpenSpec.ofChange fnMdlHiddenWrong)

/- THE SECOND FORM. 'bulk': how many values and letters a reading holds, each counted each time it is reached (what is shared counts as often as it is met; a slice's spare places count too). A statement '..UptoSaid' is the law's where the arguments, and the package variables that the reading takes, are together of bulk at most 1048576: NARROWER than '..Said'. Prove '..Said' where nothing that the law and all that it calls make is longer than what came in: it says more and counts as full. Else prove '..UptoSaid'. A law counts once. -/
mutual
def uptoBulk {H : Type} : DataW H → Nat
  | .lit (.string bytes) => bytes.length + 1
  | .lit _ => 1
  | .nil => 1
  | .ptr d => uptoBulk d + 1
  | .slice elems spare => uptoBulkAll elems + uptoBulkAll spare + 1
  | .agg parts => uptoBulkAll parts + 1
  | .iface _ d => uptoBulk d + 1
  | .map entries => uptoBulkEntries entries + 1
  | .held _ => 1
def uptoBulkAll {H : Type} : List (DataW H) → Nat
  | [] => 0
  | d :: r => uptoBulk d + uptoBulkAll r
def uptoBulkEntries {H : Type} : List (Lit × DataW H) → Nat
  | [] => 0
  | x :: r => uptoBulkEntry x + uptoBulkEntries r
def uptoBulkEntry {H : Type} : Lit × DataW H → Nat
  | (.string bytes, d) => bytes.length + uptoBulk d + 1
  | (_, d) => uptoBulk d + 1
 end
def uptoSmall : (H : Type) → List (DataW H) → Bool := fun _ ds => decide (uptoBulkAll ds ≤ 1048576)
def OpenSpec.upto (s : _root_.Go.ChangeSpec) : _root_.Go.OpenSpec := { _root_.Go.OpenSpec.ofChange s with cond := some uptoSmall }

/-- 'laws.FnMdlGuard', WHERE WHAT IT READS IS OF BULK AT MOST 1048576: true; the input reads as it did. -/
def fnMdlGuardUptoRow : OpenClaim := { program := "ytlkoaobaoffpaaagreatdoor", sum := "29e07c947102b586b8ddf1529a677757694cca9bbb4c52fa43c5c28c77f320d1", func := "loop.example/chartulary/laws.FnMdlGuard", spec := "fnMdlGuard", inPlace := ["internal/bytealg.CountString", "internal/bytealg.IndexByteString", "internal/bytealg.IndexString", "slices.overlaps[loop.example/chartulary/impl.TreFile]", "slices.overlaps[loop.example/chartulary/impl.MdlRef]"], unfollowed := true, recurses := true, named := ["unicode/utf8.first", "unicode/utf8.acceptRanges", "internal/bytealg.MaxLen"], apart := false, laid := [("unicode/utf8.acceptRanges", laid_unicode_utf8_acceptRanges), ("unicode/utf8.first", laid_unicode_utf8_first)], narrowed := true }
def FnMdlGuardUptoSaid : Prop := fnMdlGuardUptoRow.holds Tryz.pinned (OpenSpec.upto fnMdlGuardSpec)

/-- 'laws.FnMdlKeys', WHERE WHAT IT READS IS OF BULK AT MOST 1048576: true; the input reads as it did. -/
def fnMdlKeysUptoRow : OpenClaim := { program := "ytlkoaobaoffpaaagreatdoor", sum := "29e07c947102b586b8ddf1529a677757694cca9bbb4c52fa43c5c28c77f320d1", func := "loop.example/chartulary/laws.FnMdlKeys", spec := "fnMdlKeys", inPlace := ["internal/bytealg.CountString", "internal/bytealg.IndexByteString", "internal/bytealg.IndexString", "slices.overlaps[loop.example/chartulary/impl.TreFile]", "slices.overlaps[loop.example/chartulary/impl.MdlRef]"], unfollowed := true, recurses := true, named := ["unicode/utf8.first", "unicode/utf8.acceptRanges", "internal/bytealg.MaxLen"], apart := false, laid := [("unicode/utf8.acceptRanges", laid_unicode_utf8_acceptRanges), ("unicode/utf8.first", laid_unicode_utf8_first)], narrowed := true }
def FnMdlKeysUptoSaid : Prop := fnMdlKeysUptoRow.holds Tryz.pinned (OpenSpec.upto fnMdlKeysSpec)

/-- 'laws.FnMdlOnce', WHERE WHAT IT READS IS OF BULK AT MOST 1048576: true; the input reads as it did. -/
def fnMdlOnceUptoRow : OpenClaim := { program := "ytlkoaobaoffpaaagreatdoor", sum := "29e07c947102b586b8ddf1529a677757694cca9bbb4c52fa43c5c28c77f320d1", func := "loop.example/chartulary/laws.FnMdlOnce", spec := "fnMdlOnce", inPlace := ["internal/bytealg.CountString", "internal/bytealg.IndexByteString", "internal/bytealg.IndexString", "slices.overlaps[loop.example/chartulary/impl.TreFile]", "slices.overlaps[loop.example/chartulary/impl.MdlRef]"], unfollowed := true, recurses := true, named := ["unicode/utf8.first", "unicode/utf8.acceptRanges", "internal/bytealg.MaxLen"], apart := false, laid := [("unicode/utf8.acceptRanges", laid_unicode_utf8_acceptRanges), ("unicode/utf8.first", laid_unicode_utf8_first)], narrowed := true }
def FnMdlOnceUptoSaid : Prop := fnMdlOnceUptoRow.holds Tryz.pinned (OpenSpec.upto fnMdlOnceSpec)

/-- 'laws.FnMdlOrder', WHERE WHAT IT READS IS OF BULK AT MOST 1048576: true; the input reads as it did. -/
def fnMdlOrderUptoRow : OpenClaim := { program := "ytlkoaobaoffpaaagreatdoor", sum := "29e07c947102b586b8ddf1529a677757694cca9bbb4c52fa43c5c28c77f320d1", func := "loop.example/chartulary/laws.FnMdlOrder", spec := "fnMdlOrder", inPlace := ["internal/bytealg.CountString", "internal/bytealg.IndexByteString", "internal/bytealg.IndexString", "slices.overlaps[loop.example/chartulary/impl.TreFile]", "slices.overlaps[loop.example/chartulary/impl.MdlRef]"], unfollowed := true, recurses := true, named := ["unicode/utf8.first", "unicode/utf8.acceptRanges", "internal/bytealg.MaxLen"], apart := false, laid := [("unicode/utf8.acceptRanges", laid_unicode_utf8_acceptRanges), ("unicode/utf8.first", laid_unicode_utf8_first)], narrowed := true }
def FnMdlOrderUptoSaid : Prop := fnMdlOrderUptoRow.holds Tryz.pinned (OpenSpec.upto fnMdlOrderSpec)

/-- 'laws.FnMdlRefused', WHERE WHAT IT READS IS OF BULK AT MOST 1048576: true; the input reads as it did. -/
def fnMdlRefusedUptoRow : OpenClaim := { program := "ytlkoaobaoffpaaagreatdoor", sum := "29e07c947102b586b8ddf1529a677757694cca9bbb4c52fa43c5c28c77f320d1", func := "loop.example/chartulary/laws.FnMdlRefused", spec := "fnMdlRefused", inPlace := ["internal/bytealg.CountString", "internal/bytealg.IndexByteString", "internal/bytealg.IndexString", "slices.overlaps[loop.example/chartulary/impl.TreFile]", "slices.overlaps[loop.example/chartulary/impl.MdlRef]"], unfollowed := true, recurses := true, named := ["unicode/utf8.first", "unicode/utf8.acceptRanges", "internal/bytealg.MaxLen"], apart := false, laid := [("unicode/utf8.acceptRanges", laid_unicode_utf8_acceptRanges), ("unicode/utf8.first", laid_unicode_utf8_first)], narrowed := true }
def FnMdlRefusedUptoSaid : Prop := fnMdlRefusedUptoRow.holds Tryz.pinned (OpenSpec.upto fnMdlRefusedSpec)

/-- 'laws.FnMdlStale', WHERE WHAT IT READS IS OF BULK AT MOST 1048576: true; the input reads as it did. -/
def fnMdlStaleUptoRow : OpenClaim := { program := "ytlkoaobaoffpaaagreatdoor", sum := "29e07c947102b586b8ddf1529a677757694cca9bbb4c52fa43c5c28c77f320d1", func := "loop.example/chartulary/laws.FnMdlStale", spec := "fnMdlStale", inPlace := ["internal/bytealg.CountString", "internal/bytealg.IndexByteString", "internal/bytealg.IndexString", "slices.overlaps[loop.example/chartulary/impl.TreFile]", "slices.overlaps[loop.example/chartulary/impl.MdlRef]"], unfollowed := true, recurses := true, named := ["unicode/utf8.first", "unicode/utf8.acceptRanges", "internal/bytealg.MaxLen"], apart := false, laid := [("unicode/utf8.acceptRanges", laid_unicode_utf8_acceptRanges), ("unicode/utf8.first", laid_unicode_utf8_first)], narrowed := true }
def FnMdlStaleUptoSaid : Prop := fnMdlStaleUptoRow.holds Tryz.pinned (OpenSpec.upto fnMdlStaleSpec)

/-- 'laws.FnMdlStays', WHERE WHAT IT READS IS OF BULK AT MOST 1048576: true; the input reads as it did. -/
def fnMdlStaysUptoRow : OpenClaim := { program := "ytlkoaobaoffpaaagreatdoor", sum := "29e07c947102b586b8ddf1529a677757694cca9bbb4c52fa43c5c28c77f320d1", func := "loop.example/chartulary/laws.FnMdlStays", spec := "fnMdlStays", inPlace := ["internal/bytealg.CountString", "internal/bytealg.IndexByteString", "internal/bytealg.IndexString", "slices.overlaps[loop.example/chartulary/impl.TreFile]", "slices.overlaps[loop.example/chartulary/impl.MdlRef]"], unfollowed := true, recurses := true, named := ["unicode/utf8.first", "unicode/utf8.acceptRanges", "internal/bytealg.MaxLen"], apart := false, laid := [("unicode/utf8.acceptRanges", laid_unicode_utf8_acceptRanges), ("unicode/utf8.first", laid_unicode_utf8_first)], narrowed := true }
def FnMdlStaysUptoSaid : Prop := fnMdlStaysUptoRow.holds Tryz.pinned (OpenSpec.upto fnMdlStaysSpec)

/-- 'laws.FnMdlStranger', WHERE WHAT IT READS IS OF BULK AT MOST 1048576: true; the input reads as it did. -/
def fnMdlStrangerUptoRow : OpenClaim := { program := "ytlkoaobaoffpaaagreatdoor", sum := "29e07c947102b586b8ddf1529a677757694cca9bbb4c52fa43c5c28c77f320d1", func := "loop.example/chartulary/laws.FnMdlStranger", spec := "fnMdlStranger", inPlace := ["internal/bytealg.CountString", "internal/bytealg.IndexByteString", "internal/bytealg.IndexString", "slices.overlaps[loop.example/chartulary/impl.TreFile]", "slices.overlaps[loop.example/chartulary/impl.MdlRef]"], unfollowed := true, recurses := true, named := ["unicode/utf8.first", "unicode/utf8.acceptRanges", "internal/bytealg.MaxLen"], apart := false, laid := [("unicode/utf8.acceptRanges", laid_unicode_utf8_acceptRanges), ("unicode/utf8.first", laid_unicode_utf8_first)], narrowed := true }
def FnMdlStrangerUptoSaid : Prop := fnMdlStrangerUptoRow.holds Tryz.pinned (OpenSpec.upto fnMdlStrangerSpec)

/-- 'laws.FnMdlBack', WHERE WHAT IT READS IS OF BULK AT MOST 1048576: true; the input reads as it did. -/
def fnMdlBackUptoRow : OpenClaim := { program := "ytlkoaobaoffpaaagreatdoor", sum := "29e07c947102b586b8ddf1529a677757694cca9bbb4c52fa43c5c28c77f320d1", func := "loop.example/chartulary/laws.FnMdlBack", spec := "fnMdlBack", inPlace := ["internal/bytealg.CountString", "internal/bytealg.IndexByteString", "internal/bytealg.IndexString", "slices.overlaps[loop.example/chartulary/impl.TreFile]", "slices.overlaps[loop.example/chartulary/impl.MdlRef]"], unfollowed := true, recurses := true, named := ["unicode/utf8.first", "unicode/utf8.acceptRanges", "internal/bytealg.MaxLen"], apart := false, laid := [("unicode/utf8.acceptRanges", laid_unicode_utf8_acceptRanges), ("unicode/utf8.first", laid_unicode_utf8_first)], narrowed := true }
def FnMdlBackUptoSaid : Prop := fnMdlBackUptoRow.holds Tryz.pinned (OpenSpec.upto fnMdlBackSpec)

/-- 'laws.FnMdlName', WHERE WHAT IT READS IS OF BULK AT MOST 1048576: true; the input reads as it did. -/
def fnMdlNameUptoRow : OpenClaim := { program := "ytlkoaobaoffpaaagreatdoor", sum := "29e07c947102b586b8ddf1529a677757694cca9bbb4c52fa43c5c28c77f320d1", func := "loop.example/chartulary/laws.FnMdlName", spec := "fnMdlName", inPlace := ["internal/bytealg.CountString", "internal/bytealg.IndexByteString", "internal/bytealg.IndexString", "slices.overlaps[loop.example/chartulary/impl.TreFile]", "slices.overlaps[loop.example/chartulary/impl.MdlRef]"], unfollowed := true, recurses := true, named := ["unicode/utf8.first", "unicode/utf8.acceptRanges", "internal/bytealg.MaxLen"], apart := false, laid := [("unicode/utf8.acceptRanges", laid_unicode_utf8_acceptRanges), ("unicode/utf8.first", laid_unicode_utf8_first)], narrowed := true }
def FnMdlNameUptoSaid : Prop := fnMdlNameUptoRow.holds Tryz.pinned (OpenSpec.upto fnMdlNameSpec)

/-- 'laws.FnMdlReset', WHERE WHAT IT READS IS OF BULK AT MOST 1048576: true; the input reads as it did. -/
def fnMdlResetUptoRow : OpenClaim := { program := "ytlkoaobaoffpaaagreatdoor", sum := "29e07c947102b586b8ddf1529a677757694cca9bbb4c52fa43c5c28c77f320d1", func := "loop.example/chartulary/laws.FnMdlReset", spec := "fnMdlReset", inPlace := ["internal/bytealg.CountString", "internal/bytealg.IndexByteString", "internal/bytealg.IndexString", "slices.overlaps[loop.example/chartulary/impl.TreFile]", "slices.overlaps[loop.example/chartulary/impl.MdlRef]"], unfollowed := true, recurses := true, named := ["unicode/utf8.first", "unicode/utf8.acceptRanges", "internal/bytealg.MaxLen"], apart := false, laid := [("unicode/utf8.acceptRanges", laid_unicode_utf8_acceptRanges), ("unicode/utf8.first", laid_unicode_utf8_first)], narrowed := true }
def FnMdlResetUptoSaid : Prop := fnMdlResetUptoRow.holds Tryz.pinned (OpenSpec.upto fnMdlResetSpec)

/-- 'laws.FnMdlHidden', WHERE WHAT IT READS IS OF BULK AT MOST 1048576: true; the input reads as it did. -/
def fnMdlHiddenUptoRow : OpenClaim := { program := "ytlkoaobaoffpaaagreatdoor", sum := "29e07c947102b586b8ddf1529a677757694cca9bbb4c52fa43c5c28c77f320d1", func := "loop.example/chartulary/laws.FnMdlHidden", spec := "fnMdlHidden", inPlace := ["internal/bytealg.CountString", "internal/bytealg.IndexByteString", "internal/bytealg.IndexString", "slices.overlaps[loop.example/chartulary/impl.TreFile]", "slices.overlaps[loop.example/chartulary/impl.MdlRef]"], unfollowed := true, recurses := true, named := ["unicode/utf8.first", "unicode/utf8.acceptRanges", "internal/bytealg.MaxLen"], apart := false, laid := [("unicode/utf8.acceptRanges", laid_unicode_utf8_acceptRanges), ("unicode/utf8.first", laid_unicode_utf8_first)], narrowed := true }
def FnMdlHiddenUptoSaid : Prop := fnMdlHiddenUptoRow.holds Tryz.pinned (OpenSpec.upto fnMdlHiddenSpec)

end Rows
end Go.Proofs.YtlkoaobaoffpaaaGreatDoor
