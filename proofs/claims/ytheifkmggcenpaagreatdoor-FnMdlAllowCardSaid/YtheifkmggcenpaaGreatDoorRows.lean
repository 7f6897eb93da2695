/-
  NARROWER THAN 'FOR EVERY INPUT', by the rows' own cells (each row's printed sentence says how): FnMdlMay: laid · FnMdlCopy: laid · FnMdlSees: laid · FnMdlRefs: laid · FnMdlUsed: laid · FnMdlLook: laid · FnMdlAllow: laid · FnMdlApart: laid · FnMdlEmpty: laid · FnMdlGuard: laid · FnMdlKeys: laid · FnMdlLimits: laid.
  DERIVED. THE GIVEN ROWS OF THIS SEAT. 12 by the template 'for every input the law returns true; each argument reads behind the call as it read before'; 0 by the template 'total and deterministic' (their statements: YtheifkmggcenpaaGreatDoorTotals.lean).
  GIVEN WITH THE SEED: the statements are not yours to turn. If you find one false, say at which input.
  Laid BY PROGRAM, IN A SANDBOX (cutbox-rows.mjs): the forced cells as the released guide's own fill.sh prints them over the translation 7a8924db39247973… (all of the seat's roots in one cut). By AI agents, Wed Nov 11 2026. No macro, syntax, notation, axiom, sorry.
-/
import Derived.Test.YtheifkmggcenpaaGreatDoorChecked
import GoSem.PinnedTables
import GoSem.Claim
import GoSem.ClaimJoined
import GoSem.ClaimMapViews
import Derived.JoinedTies
import Derived.KernelRfl
namespace Go.Proofs.YtheifkmggcenpaaGreatDoor
/- THE CELL 'sum', in the pinned program and in every row, IS THE sha256 OF THE DUMP (.gsa) THAT YtheifkmggcenpaaGreatDoorProg.lean LOADS. Nothing in Lean hashes anything: it is a label: what it is worth is what the hold of that sum in a sandbox is worth. -/
noncomputable def Tryz.pinned : Pinned := { name := "ytheifkmggcenpaagreatdoor", sum := "7a8924db39247973cbdf0f034c3e380c8645662f150eca2c5eba475a37be1368", checked := Tryz.checked }
namespace Rows
def none {H : Type} : Left H := { results := [], args := [] }

/- WHAT THE LISTED PACKAGE-LEVEL VARIABLES READ AS WHEN THE CALL BEGINS. Each datum BY PROGRAM (the guide's laid-datum.mjs) off the statement by which the dump's own 'gosem.cut.vars' lays the variable. In a bare row this is a premise. The card (YtheifkmggcenpaaGreatDoorCards.lean) ties it to the program's text. -/
def laid_unicode_utf8_acceptRanges {H : Type} : DataW H := .agg [.agg [.lit (.int .u8 128), .lit (.int .u8 191)], .agg [.lit (.int .u8 160), .lit (.int .u8 191)], .agg [.lit (.int .u8 128), .lit (.int .u8 159)], .agg [.lit (.int .u8 144), .lit (.int .u8 191)], .agg [.lit (.int .u8 128), .lit (.int .u8 143)], .agg [.lit (.int .u8 0), .lit (.int .u8 0)], .agg [.lit (.int .u8 0), .lit (.int .u8 0)], .agg [.lit (.int .u8 0), .lit (.int .u8 0)], .agg [.lit (.int .u8 0), .lit (.int .u8 0)], .agg [.lit (.int .u8 0), .lit (.int .u8 0)], .agg [.lit (.int .u8 0), .lit (.int .u8 0)], .agg [.lit (.int .u8 0), .lit (.int .u8 0)], .agg [.lit (.int .u8 0), .lit (.int .u8 0)], .agg [.lit (.int .u8 0), .lit (.int .u8 0)], .agg [.lit (.int .u8 0), .lit (.int .u8 0)], .agg [.lit (.int .u8 0), .lit (.int .u8 0)]]
/-- One of Go's own tables, pinned by name: the form's constant. -/
def laid_unicode_utf8_first : DataW Unit := Go.Pinned.utf8First

/-- 'laws.FnMdlMay': WHATEVER THE INPUT: true; the input reads as it did. -/
def fnMdlMaySpec : ChangeSpec := { name := "fnMdlMay", fn := fun _ => fun
  | [d] => { results := [.lit (.bool true)], args := [d] }
  | _ => none }
def fnMdlMayRow : OpenClaim := { program := "ytheifkmggcenpaagreatdoor", sum := "7a8924db39247973cbdf0f034c3e380c8645662f150eca2c5eba475a37be1368", func := "loop.example/chartulary/laws.FnMdlMay", spec := "fnMdlMay", inPlace := ["internal/bytealg.CountString", "internal/bytealg.IndexByteString", "internal/bytealg.IndexString", "slices.overlaps[loop.example/chartulary/impl.TreFile]", "slices.overlaps[loop.example/chartulary/impl.MdlRef]"], unfollowed := true, recurses := true, named := ["unicode/utf8.first", "unicode/utf8.acceptRanges", "internal/bytealg.MaxLen"], apart := false, laid := [("unicode/utf8.acceptRanges", laid_unicode_utf8_acceptRanges), ("unicode/utf8.first", laid_unicode_utf8_first)] }
def FnMdlMaySaid : Prop := fnMdlMayRow.holds Tryz.pinned (OpenSpec.ofChange fnMdlMaySpec)

/-- ITS FALSE NEIGHBOUR: 'it returns false'. Refute it at one input. -/
def fnMdlMayWrong : ChangeSpec := { name := "fnMdlMay", fn := fun _ => fun
  | [d] => { results := [.lit (.bool false)], args := [d] }
  | _ => none }
def FnMdlMayWrongFalsely : Prop := fnMdlMayRow.holds Tryz.pinned (OpenSpec.ofChange fnMdlMayWrong)

/-- 'laws.FnMdlCopy': WHATEVER THE INPUT: true; the input reads as it did. -/
def fnMdlCopySpec : ChangeSpec := { name := "fnMdlCopy", fn := fun _ => fun
  | [d] => { results := [.lit (.bool true)], args := [d] }
  | _ => none }
def fnMdlCopyRow : OpenClaim := { program := "ytheifkmggcenpaagreatdoor", sum := "7a8924db39247973cbdf0f034c3e380c8645662f150eca2c5eba475a37be1368", func := "loop.example/chartulary/laws.FnMdlCopy", spec := "fnMdlCopy", inPlace := ["internal/bytealg.CountString", "internal/bytealg.IndexByteString", "internal/bytealg.IndexString", "slices.overlaps[loop.example/chartulary/impl.TreFile]", "slices.overlaps[loop.example/chartulary/impl.MdlRef]"], unfollowed := true, recurses := true, named := ["unicode/utf8.first", "unicode/utf8.acceptRanges", "internal/bytealg.MaxLen"], apart := false, laid := [("unicode/utf8.acceptRanges", laid_unicode_utf8_acceptRanges), ("unicode/utf8.first", laid_unicode_utf8_first)] }
def FnMdlCopySaid : Prop := fnMdlCopyRow.holds Tryz.pinned (OpenSpec.ofChange fnMdlCopySpec)

/-- ITS FALSE NEIGHBOUR: 'it returns false'. Refute it at one input. -/
def fnMdlCopyWrong : ChangeSpec := { name := "fnMdlCopy", fn := fun _ => fun
  | [d] => { results := [.lit (.bool false)], args := [d] }
  | _ => none }
def FnMdlCopyWrongFalsely : Prop := fnMdlCopyRow.holds Tryz.pinned (OpenSpec.ofChange fnMdlCopyWrong)

/-- 'laws.FnMdlSees': WHATEVER THE INPUT: true; the input reads as it did. -/
def fnMdlSeesSpec : ChangeSpec := { name := "fnMdlSees", fn := fun _ => fun
  | [d] => { results := [.lit (.bool true)], args := [d] }
  | _ => none }
def fnMdlSeesRow : OpenClaim := { program := "ytheifkmggcenpaagreatdoor", sum := "7a8924db39247973cbdf0f034c3e380c8645662f150eca2c5eba475a37be1368", func := "loop.example/chartulary/laws.FnMdlSees", spec := "fnMdlSees", inPlace := ["internal/bytealg.CountString", "internal/bytealg.IndexByteString", "internal/bytealg.IndexString"], unfollowed := true, recurses := true, named := ["unicode/utf8.first", "unicode/utf8.acceptRanges", "internal/bytealg.MaxLen"], apart := false, laid := [("unicode/utf8.acceptRanges", laid_unicode_utf8_acceptRanges), ("unicode/utf8.first", laid_unicode_utf8_first)] }
def FnMdlSeesSaid : Prop := fnMdlSeesRow.holds Tryz.pinned (OpenSpec.ofChange fnMdlSeesSpec)

/-- ITS FALSE NEIGHBOUR: 'it returns false'. Refute it at one input. -/
def fnMdlSeesWrong : ChangeSpec := { name := "fnMdlSees", fn := fun _ => fun
  | [d] => { results := [.lit (.bool false)], args := [d] }
  | _ => none }
def FnMdlSeesWrongFalsely : Prop := fnMdlSeesRow.holds Tryz.pinned (OpenSpec.ofChange fnMdlSeesWrong)

/-- 'laws.FnMdlRefs': WHATEVER THE INPUT: true; the input reads as it did. -/
def fnMdlRefsSpec : ChangeSpec := { name := "fnMdlRefs", fn := fun _ => fun
  | [d] => { results := [.lit (.bool true)], args := [d] }
  | _ => none }
def fnMdlRefsRow : OpenClaim := { program := "ytheifkmggcenpaagreatdoor", sum := "7a8924db39247973cbdf0f034c3e380c8645662f150eca2c5eba475a37be1368", func := "loop.example/chartulary/laws.FnMdlRefs", spec := "fnMdlRefs", inPlace := ["internal/bytealg.CountString", "internal/bytealg.IndexByteString", "internal/bytealg.IndexString", "slices.overlaps[loop.example/chartulary/impl.TreFile]", "slices.overlaps[loop.example/chartulary/impl.MdlRef]"], unfollowed := true, recurses := true, named := ["unicode/utf8.first", "unicode/utf8.acceptRanges", "internal/bytealg.MaxLen"], apart := false, laid := [("unicode/utf8.acceptRanges", laid_unicode_utf8_acceptRanges), ("unicode/utf8.first", laid_unicode_utf8_first)] }
def FnMdlRefsSaid : Prop := fnMdlRefsRow.holds Tryz.pinned (OpenSpec.ofChange fnMdlRefsSpec)

/-- ITS FALSE NEIGHBOUR: 'it returns false'. Refute it at one input. -/
def fnMdlRefsWrong : ChangeSpec := { name := "fnMdlRefs", fn := fun _ => fun
  | [d] => { results := [.lit (.bool false)], args := [d] }
  | _ => none }
def FnMdlRefsWrongFalsely : Prop := fnMdlRefsRow.holds Tryz.pinned (OpenSpec.ofChange fnMdlRefsWrong)

/-- 'laws.FnMdlUsed': WHATEVER THE INPUT: true; the input reads as it did. -/
def fnMdlUsedSpec : ChangeSpec := { name := "fnMdlUsed", fn := fun _ => fun
  | [d] => { results := [.lit (.bool true)], args := [d] }
  | _ => none }
def fnMdlUsedRow : OpenClaim := { program := "ytheifkmggcenpaagreatdoor", sum := "7a8924db39247973cbdf0f034c3e380c8645662f150eca2c5eba475a37be1368", func := "loop.example/chartulary/laws.FnMdlUsed", spec := "fnMdlUsed", inPlace := ["internal/bytealg.CountString", "internal/bytealg.IndexByteString", "internal/bytealg.IndexString", "slices.overlaps[loop.example/chartulary/impl.TreFile]", "slices.overlaps[loop.example/chartulary/impl.MdlRef]"], unfollowed := true, recurses := true, named := ["unicode/utf8.first", "unicode/utf8.acceptRanges", "internal/bytealg.MaxLen"], apart := false, laid := [("unicode/utf8.acceptRanges", laid_unicode_utf8_acceptRanges), ("unicode/utf8.first", laid_unicode_utf8_first)] }
def FnMdlUsedSaid : Prop := fnMdlUsedRow.holds Tryz.pinned (OpenSpec.ofChange fnMdlUsedSpec)

/-- ITS FALSE NEIGHBOUR: 'it returns false'. Refute it at one input. -/
def fnMdlUsedWrong : ChangeSpec := { name := "fnMdlUsed", fn := fun _ => fun
  | [d] => { results := [.lit (.bool false)], args := [d] }
  | _ => none }
def FnMdlUsedWrongFalsely : Prop := fnMdlUsedRow.holds Tryz.pinned (OpenSpec.ofChange fnMdlUsedWrong)

/-- 'laws.FnMdlLook': WHATEVER THE INPUT: true; the input reads as it did. -/
def fnMdlLookSpec : ChangeSpec := { name := "fnMdlLook", fn := fun _ => fun
  | [d] => { results := [.lit (.bool true)], args := [d] }
  | _ => none }
def fnMdlLookRow : OpenClaim := { program := "ytheifkmggcenpaagreatdoor", sum := "7a8924db39247973cbdf0f034c3e380c8645662f150eca2c5eba475a37be1368", func := "loop.example/chartulary/laws.FnMdlLook", spec := "fnMdlLook", inPlace := ["internal/bytealg.CountString", "internal/bytealg.IndexByteString", "internal/bytealg.IndexString", "slices.overlaps[loop.example/chartulary/impl.TreFile]", "slices.overlaps[loop.example/chartulary/impl.MdlRef]"], unfollowed := true, recurses := true, named := ["unicode/utf8.first", "unicode/utf8.acceptRanges", "internal/bytealg.MaxLen"], apart := false, laid := [("unicode/utf8.acceptRanges", laid_unicode_utf8_acceptRanges), ("unicode/utf8.first", laid_unicode_utf8_first)] }
def FnMdlLookSaid : Prop := fnMdlLookRow.holds Tryz.pinned (OpenSpec.ofChange fnMdlLookSpec)

/-- ITS FALSE NEIGHBOUR: 'it returns false'. Refute it at one input. -/
def fnMdlLookWrong : ChangeSpec := { name := "fnMdlLook", fn := fun _ => fun
  | [d] => { results := [.lit (.bool false)], args := [d] }
  | _ => none }
def FnMdlLookWrongFalsely : Prop := fnMdlLookRow.holds Tryz.pinned (OpenSpec.ofChange fnMdlLookWrong)

/-- 'laws.FnMdlAllow': WHATEVER THE INPUT: true; the input reads as it did. -/
def fnMdlAllowSpec : ChangeSpec := { name := "fnMdlAllow", fn := fun _ => fun
  | [d] => { results := [.lit (.bool true)], args := [d] }
  | _ => none }
def fnMdlAllowRow : OpenClaim := { program := "ytheifkmggcenpaagreatdoor", sum := "7a8924db39247973cbdf0f034c3e380c8645662f150eca2c5eba475a37be1368", func := "loop.example/chartulary/laws.FnMdlAllow", spec := "fnMdlAllow", inPlace := ["internal/bytealg.CountString", "internal/bytealg.IndexByteString", "internal/bytealg.IndexString", "slices.overlaps[loop.example/chartulary/impl.TreFile]", "slices.overlaps[loop.example/chartulary/impl.MdlRef]"], unfollowed := true, recurses := true, named := ["unicode/utf8.first", "unicode/utf8.acceptRanges", "internal/bytealg.MaxLen"], apart := false, laid := [("unicode/utf8.acceptRanges", laid_unicode_utf8_acceptRanges), ("unicode/utf8.first", laid_unicode_utf8_first)] }
def FnMdlAllowSaid : Prop := fnMdlAllowRow.holds Tryz.pinned (OpenSpec.ofChange fnMdlAllowSpec)

/-- ITS FALSE NEIGHBOUR: 'it returns false'. Refute it at one input. -/
def fnMdlAllowWrong : ChangeSpec := { name := "fnMdlAllow", fn := fun _ => fun
  | [d] => { results := [.lit (.bool false)], args := [d] }
  | _ => none }
def FnMdlAllowWrongFalsely : Prop := fnMdlAllowRow.holds Tryz.pinned (OpenSpec.ofChange fnMdlAllowWrong)

/-- 'laws.FnMdlApart': WHATEVER THE INPUT: true; the input reads as it did. -/
def fnMdlApartSpec : ChangeSpec := { name := "fnMdlApart", fn := fun _ => fun
  | [d] => { results := [.lit (.bool true)], args := [d] }
  | _ => none }
def fnMdlApartRow : OpenClaim := { program := "ytheifkmggcenpaagreatdoor", sum := "7a8924db39247973cbdf0f034c3e380c8645662f150eca2c5eba475a37be1368", func := "loop.example/chartulary/laws.FnMdlApart", spec := "fnMdlApart", inPlace := ["internal/bytealg.CountString", "internal/bytealg.IndexByteString", "internal/bytealg.IndexString", "slices.overlaps[loop.example/chartulary/impl.TreFile]", "slices.overlaps[loop.example/chartulary/impl.MdlRef]"], unfollowed := true, recurses := true, named := ["unicode/utf8.first", "unicode/utf8.acceptRanges", "internal/bytealg.MaxLen"], apart := false, laid := [("unicode/utf8.acceptRanges", laid_unicode_utf8_acceptRanges), ("unicode/utf8.first", laid_unicode_utf8_first)] }
def FnMdlApartSaid : Prop := fnMdlApartRow.holds Tryz.pinned (OpenSpec.ofChange fnMdlApartSpec)

/-- ITS FALSE NEIGHBOUR: 'it returns false'. Refute it at one input. -/
def fnMdlApartWrong : ChangeSpec := { name := "fnMdlApart", fn := fun _ => fun
  | [d] => { results := [.lit (.bool false)], args := [d] }
  | _ => none }
def FnMdlApartWrongFalsely : Prop := fnMdlApartRow.holds Tryz.pinned (OpenSpec.ofChange fnMdlApartWrong)

/-- 'laws.FnMdlEmpty': WHATEVER THE INPUT: true; the input reads as it did. -/
def fnMdlEmptySpec : ChangeSpec := { name := "fnMdlEmpty", fn := fun _ => fun
  | [d] => { results := [.lit (.bool true)], args := [d] }
  | _ => none }
def fnMdlEmptyRow : OpenClaim := { program := "ytheifkmggcenpaagreatdoor", sum := "7a8924db39247973cbdf0f034c3e380c8645662f150eca2c5eba475a37be1368", func := "loop.example/chartulary/laws.FnMdlEmpty", spec := "fnMdlEmpty", inPlace := ["internal/bytealg.CountString", "internal/bytealg.IndexByteString", "internal/bytealg.IndexString", "slices.overlaps[loop.example/chartulary/impl.TreFile]", "slices.overlaps[loop.example/chartulary/impl.MdlRef]"], unfollowed := true, recurses := true, named := ["unicode/utf8.first", "unicode/utf8.acceptRanges", "internal/bytealg.MaxLen"], apart := false, laid := [("unicode/utf8.acceptRanges", laid_unicode_utf8_acceptRanges), ("unicode/utf8.first", laid_unicode_utf8_first)] }
def FnMdlEmptySaid : Prop := fnMdlEmptyRow.holds Tryz.pinned (OpenSpec.ofChange fnMdlEmptySpec)

/-- ITS FALSE NEIGHBOUR: 'it returns false'. Refute it at one input. -/
def fnMdlEmptyWrong : ChangeSpec := { name := "fnMdlEmpty", fn := fun _ => fun
  | [d] => { results := [.lit (.bool false)], args := [d] }
  | _ => none }
def FnMdlEmptyWrongFalsely : Prop := fnMdlEmptyRow.holds Tryz.pinned (OpenSpec.ofChange fnMdlEmptyWrong)

/-- 'laws.FnMdlGuard': WHATEVER THE INPUT: true; the input reads as it did. -/
def fnMdlGuardSpec : ChangeSpec := { name := "fnMdlGuard", fn := fun _ => fun
  | [d] => { results := [.lit (.bool true)], args := [d] }
  | _ => none }
def fnMdlGuardRow : OpenClaim := { program := "ytheifkmggcenpaagreatdoor", sum := "7a8924db39247973cbdf0f034c3e380c8645662f150eca2c5eba475a37be1368", func := "loop.example/chartulary/laws.FnMdlGuard", spec := "fnMdlGuard", inPlace := ["internal/bytealg.CountString", "internal/bytealg.IndexByteString", "internal/bytealg.IndexString", "slices.overlaps[loop.example/chartulary/impl.TreFile]", "slices.overlaps[loop.example/chartulary/impl.MdlRef]"], unfollowed := true, recurses := true, named := ["unicode/utf8.first", "unicode/utf8.acceptRanges", "internal/bytealg.MaxLen"], apart := false, laid := [("unicode/utf8.acceptRanges", laid_unicode_utf8_acceptRanges), ("unicode/utf8.first", laid_unicode_utf8_first)] }
def FnMdlGuardSaid : Prop := fnMdlGuardRow.holds Tryz.pinned (OpenSpec.ofChange fnMdlGuardSpec)

/-- ITS FALSE NEIGHBOUR: 'it returns false'. Refute it at one input. -/
def fnMdlGuardWrong : ChangeSpec := { name := "fnMdlGuard", fn := fun _ => fun
  | [d] => { results := [.lit (.bool false)], args := [d] }
  | _ => none }
def FnMdlGuardWrongFalsely : Prop := fnMdlGuardRow.holds Tryz.pinned (OpenSpec.ofChange fnMdlGuardWrong)

/-- 'laws.FnMdlKeys': WHATEVER THE INPUT: true; the input reads as it did. -/
def fnMdlKeysSpec : ChangeSpec := { name := "fnMdlKeys", fn := fun _ => fun
  | [d] => { results := [.lit (.bool true)], args := [d] }
  | _ => none }
def fnMdlKeysRow : OpenClaim := { program := "ytheifkmggcenpaagreatdoor", sum := "7a8924db39247973cbdf0f034c3e380c8645662f150eca2c5eba475a37be1368", func := "loop.example/chartulary/laws.FnMdlKeys", spec := "fnMdlKeys", inPlace := ["internal/bytealg.CountString", "internal/bytealg.IndexByteString", "internal/bytealg.IndexString", "slices.overlaps[loop.example/chartulary/impl.TreFile]", "slices.overlaps[loop.example/chartulary/impl.MdlRef]"], unfollowed := true, recurses := true, named := ["unicode/utf8.first", "unicode/utf8.acceptRanges", "internal/bytealg.MaxLen"], apart := false, laid := [("unicode/utf8.acceptRanges", laid_unicode_utf8_acceptRanges), ("unicode/utf8.first", laid_unicode_utf8_first)] }
def FnMdlKeysSaid : Prop := fnMdlKeysRow.holds Tryz.pinned (OpenSpec.ofChange fnMdlKeysSpec)

/-- ITS FALSE NEIGHBOUR: 'it returns false'. Refute it at one input. -/
def fnMdlKeysWrong : ChangeSpec := { name := "fnMdlKeys", fn := fun _ => fun
  | [d] => { results := [.lit (.bool false)], args := [d] }
  | _ => none }
def FnMdlKeysWrongFalsely : Prop := fnMdlKeysRow.holds Tryz.pinned (OpenSpec.ofChange fnMdlKeysWrong)

/-- 'laws.FnMdlLimits': WHATEVER THE INPUT: true; the input reads as it did. -/
def fnMdlLimitsSpec : ChangeSpec := { name := "fnMdlLimits", fn := fun _ => fun
  | [d] => { results := [.lit (.bool true)], args := [d] }
  | _ => none }
def fnMdlLimitsRow : OpenClaim := { program := "ytheifkmggcenpaagreatdoor", sum := "7a8924db39247973cbdf0f034c3e380c8645662f150eca2c5eba475a37be1368", func := "loop.example/chartulary/laws.FnMdlLimits", spec := "fnMdlLimits", inPlace := ["internal/bytealg.CountString", "internal/bytealg.IndexByteString", "internal/bytealg.IndexString", "slices.overlaps[loop.example/chartulary/impl.TreFile]", "slices.overlaps[loop.example/chartulary/impl.MdlRef]"], unfollowed := true, recurses := true, named := ["unicode/utf8.first", "unicode/utf8.acceptRanges", "internal/bytealg.MaxLen"], apart := false, laid := [("unicode/utf8.acceptRanges", laid_unicode_utf8_acceptRanges), ("unicode/utf8.first", laid_unicode_utf8_first)] }
def FnMdlLimitsSaid : Prop := fnMdlLimitsRow.holds Tryz.pinned (OpenSpec.ofChange fnMdlLimitsSpec)

/-- ITS FALSE NEIGHBOUR: 'it returns false'. Refute it at one input. -/
def fnMdlLimitsWrong : ChangeSpec := { name := "fnMdlLimits", fn := fun _ => fun
  | [d] => { results := [.lit (.bool false)], args := [d] }
  | _ => none }
def FnMdlLimitsWrongFalsely : Prop := fnMdlLimitsRow.holds Tryz.pinned (OpenSpec.ofChange fnMdlLimitsWrong)

/- THE SECOND FORM. 'bulk': how many values and letters a reading holds, each counted each time it is reached (what is shared counts as often as it is met; a slice's spare places count too). A statement '..UptoSaid' is the law's where the arguments, and the package variables that the reading takes, are together of bulk at most 1048576: NARROWER than '..Said'. Prove '..Said' where nothing that the law and all that it calls make is longer than what came in: it says more and counts as full. Else prove '..UptoSaid'. A law counts once. -/
mutual
def uptoBulk {H : Type} : DataW H → Nat
  | .lit (.string bytes) => bytes.length + 1
  | .lit _ => 1
  | .nil => 1
  | .ptr d => uptoBulk d + 1
  | .slice elems spare => uptoBulkAll elems + uptoBulkAll spare + 1
  | .agg parts => uptoBulkAll parts + 1
  | .iface _ d => uptoBulk d + 1
  | .map entries => uptoBulkEntries entries + 1
  | .held _ => 1
def uptoBulkAll {H : Type} : List (DataW H) → Nat
  | [] => 0
  | d :: r => uptoBulk d + uptoBulkAll r
def uptoBulkEntries {H : Type} : List (Lit × DataW H) → Nat
  | [] => 0
  | x :: r => uptoBulkEntry x + uptoBulkEntries r
def uptoBulkEntry {H : Type} : Lit × DataW H → Nat
  | (.string bytes, d) => bytes.length + uptoBulk d + 1
  | (_, d) => uptoBulk d + 1
 end
def uptoSmall : (H : Type) → List (DataW H) → Bool := fun _ ds => decide (uptoBulkAll ds ≤ 1048576)
def OpenSpec.upto (s : _root_.Go.ChangeSpec) : _root_.Go.OpenSpec := { _root_.Go.OpenSpec.ofChange s with cond := some uptoSmall }

/-- 'laws.FnMdlMay', WHERE WHAT IT READS IS OF BULK AT MOST 1048576: true; the input reads as it did. -/
def fnMdlMayUptoRow : OpenClaim := { program := "ytheifkmggcenpaagreatdoor", sum := "7a8924db39247973cbdf0f034c3e380c8645662f150eca2c5eba475a37be1368", func := "loop.example/chartulary/laws.FnMdlMay", spec := "fnMdlMay", inPlace := ["internal/bytealg.CountString", "internal/bytealg.IndexByteString", "internal/bytealg.IndexString", "slices.overlaps[loop.example/chartulary/impl.TreFile]", "slices.overlaps[loop.example/chartulary/impl.MdlRef]"], unfollowed := true, recurses := true, named := ["unicode/utf8.first", "unicode/utf8.acceptRanges", "internal/bytealg.MaxLen"], apart := false, laid := [("unicode/utf8.acceptRanges", laid_unicode_utf8_acceptRanges), ("unicode/utf8.first", laid_unicode_utf8_first)], narrowed := true }
def FnMdlMayUptoSaid : Prop := fnMdlMayUptoRow.holds Tryz.pinned (OpenSpec.upto fnMdlMaySpec)

/-- 'laws.FnMdlCopy', WHERE WHAT IT READS IS OF BULK AT MOST 1048576: true; the input reads as it did. -/
def fnMdlCopyUptoRow : OpenClaim := { program := "ytheifkmggcenpaagreatdoor", sum := "7a8924db39247973cbdf0f034c3e380c8645662f150eca2c5eba475a37be1368", func := "loop.example/chartulary/laws.FnMdlCopy", spec := "fnMdlCopy", inPlace := ["internal/bytealg.CountString", "internal/bytealg.IndexByteString", "internal/bytealg.IndexString", "slices.overlaps[loop.example/chartulary/impl.TreFile]", "slices.overlaps[loop.example/chartulary/impl.MdlRef]"], unfollowed := true, recurses := true, named := ["unicode/utf8.first", "unicode/utf8.acceptRanges", "internal/bytealg.MaxLen"], apart := false, laid := [("unicode/utf8.acceptRanges", laid_unicode_utf8_acceptRanges), ("unicode/utf8.first", laid_unicode_utf8_first)], narrowed := true }
def FnMdlCopyUptoSaid : Prop := fnMdlCopyUptoRow.holds Tryz.pinned (OpenSpec.upto fnMdlCopySpec)

/-- 'laws.FnMdlSees', WHERE WHAT IT READS IS OF BULK AT MOST 1048576: true; the input reads as it did. -/
def fnMdlSeesUptoRow : OpenClaim := { program := "ytheifkmggcenpaagreatdoor", sum := "7a8924db39247973cbdf0f034c3e380c8645662f150eca2c5eba475a37be1368", func := "loop.example/chartulary/laws.FnMdlSees", spec := "fnMdlSees", inPlace := ["internal/bytealg.CountString", "internal/bytealg.IndexByteString", "internal/bytealg.IndexString"], unfollowed := true, recurses := true, named := ["unicode/utf8.first", "unicode/utf8.acceptRanges", "internal/bytealg.MaxLen"], apart := false, laid := [("unicode/utf8.acceptRanges", laid_unicode_utf8_acceptRanges), ("unicode/utf8.first", laid_unicode_utf8_first)], narrowed := true }
def FnMdlSeesUptoSaid : Prop := fnMdlSeesUptoRow.holds Tryz.pinned (OpenSpec.upto fnMdlSeesSpec)

/-- 'laws.FnMdlRefs', WHERE WHAT IT READS IS OF BULK AT MOST 1048576: true; the input reads as it did. -/
def fnMdlRefsUptoRow : OpenClaim := { program := "ytheifkmggcenpaagreatdoor", sum := "7a8924db39247973cbdf0f034c3e380c8645662f150eca2c5eba475a37be1368", func := "loop.example/chartulary/laws.FnMdlRefs", spec := "fnMdlRefs", inPlace := ["internal/bytealg.CountString", "internal/bytealg.IndexByteString", "internal/bytealg.IndexString", "slices.overlaps[loop.example/chartulary/impl.TreFile]", "slices.overlaps[loop.example/chartulary/impl.MdlRef]"], unfollowed := true, recurses := true, named := ["unicode/utf8.first", "unicode/utf8.acceptRanges", "internal/bytealg.MaxLen"], apart := false, laid := [("unicode/utf8.acceptRanges", laid_unicode_utf8_acceptRanges), ("unicode/utf8.first", laid_unicode_utf8_first)], narrowed := true }
def FnMdlRefsUptoSaid : Prop := fnMdlRefsUptoRow.holds Tryz.pinned (OpenSpec.upto fnMdlRefsSpec)

/-- 'laws.FnMdlUsed', WHERE WHAT IT READS IS OF BULK AT MOST 1048576: true; the input reads as it did. -/
def fnMdlUsedUptoRow : OpenClaim := { program := "ytheifkmggcenpaagreatdoor", sum := "7a8924db39247973cbdf0f034c3e380c8645662f150eca2c5eba475a37be1368", func := "loop.example/chartulary/laws.FnMdlUsed", spec := "fnMdlUsed", inPlace := ["internal/bytealg.CountString", "internal/bytealg.IndexByteString", "internal/bytealg.IndexString", "slices.overlaps[loop.example/chartulary/impl.TreFile]", "slices.overlaps[loop.example/chartulary/impl.MdlRef]"], unfollowed := true, recurses := true, named := ["unicode/utf8.first", "unicode/utf8.acceptRanges", "internal/bytealg.MaxLen"], apart := false, laid := [("unicode/utf8.acceptRanges", laid_unicode_utf8_acceptRanges), ("unicode/utf8.first", laid_unicode_utf8_first)], narrowed := true }
def FnMdlUsedUptoSaid : Prop := fnMdlUsedUptoRow.holds Tryz.pinned (OpenSpec.upto fnMdlUsedSpec)

/-- 'laws.FnMdlLook', WHERE WHAT IT READS IS OF BULK AT MOST 1048576: true; the input reads as it did. -/
def fnMdlLookUptoRow : OpenClaim := { program := "ytheifkmggcenpaagreatdoor", sum := "7a8924db39247973cbdf0f034c3e380c8645662f150eca2c5eba475a37be1368", func := "loop.example/chartulary/laws.FnMdlLook", spec := "fnMdlLook", inPlace := ["internal/bytealg.CountString", "internal/bytealg.IndexByteString", "internal/bytealg.IndexString", "slices.overlaps[loop.example/chartulary/impl.TreFile]", "slices.overlaps[loop.example/chartulary/impl.MdlRef]"], unfollowed := true, recurses := true, named := ["unicode/utf8.first", "unicode/utf8.acceptRanges", "internal/bytealg.MaxLen"], apart := false, laid := [("unicode/utf8.acceptRanges", laid_unicode_utf8_acceptRanges), ("unicode/utf8.first", laid_unicode_utf8_first)], narrowed := true }
def FnMdlLookUptoSaid : Prop := fnMdlLookUptoRow.holds Tryz.pinned (OpenSpec.upto fnMdlLookSpec)

/-- 'laws.FnMdlAllow', WHERE WHAT IT READS IS OF BULK AT MOST 1048576: true; the input reads as it did. -/
def fnMdlAllowUptoRow : OpenClaim := { program := "ytheifkmggcenpaagreatdoor", sum := "7a8924db39247973cbdf0f034c3e380c8645662f150eca2c5eba475a37be1368", func := "loop.example/chartulary/laws.FnMdlAllow", spec := "fnMdlAllow", inPlace := ["internal/bytealg.CountString", "internal/bytealg.IndexByteString", "internal/bytealg.IndexString", "slices.overlaps[loop.example/chartulary/impl.TreFile]", "slices.overlaps[loop.example/chartulary/impl.MdlRef]"], unfollowed := true, recurses := true, named := ["unicode/utf8.first", "unicode/utf8.acceptRanges", "internal/bytealg.MaxLen"], apart := false, laid := [("unicode/utf8.acceptRanges", laid_unicode_utf8_acceptRanges), ("unicode/utf8.first", laid_unicode_utf8_first)], narrowed := true }
def FnMdlAllowUptoSaid : Prop := fnMdlAllowUptoRow.holds Tryz.pinned (OpenSpec.upto fnMdlAllowSpec)

/-- 'laws.FnMdlApart', WHERE WHAT IT READS IS OF BULK AT MOST 1048576: true; the input reads as it did. -/
def fnMdlApartUptoRow : OpenClaim := { program := "ytheifkmggcenpaagreatdoor", sum := "7a8924db39247973cbdf0f034c3e380c8645662f150eca2c5eba475a37be1368", func := "loop.example/chartulary/laws.FnMdlApart", spec := "fnMdlApart", inPlace := ["internal/bytealg.CountString", "internal/bytealg.IndexByteString", "internal/bytealg.IndexString", "slices.overlaps[loop.example/chartulary/impl.TreFile]", "slices.overlaps[loop.example/chartulary/impl.MdlRef]"], unfollowed := true, recurses := true, named := ["unicode/utf8.first", "unicode/utf8.acceptRanges", "internal/bytealg.MaxLen"], apart := false, laid := [("unicode/utf8.acceptRanges", laid_unicode_utf8_acceptRanges), ("unicode/utf8.first", laid_unicode_utf8_first)], narrowed := true }
def FnMdlApartUptoSaid : Prop := fnMdlApartUptoRow.holds Tryz.pinned (OpenSpec.upto fnMdlApartSpec)

/-- 'laws.FnMdlEmpty', WHERE WHAT IT READS IS OF BULK AT MOST 1048576: true; the input reads as it did. -/
def fnMdlEmptyUptoRow : OpenClaim := { program := "ytheifkmggcenpaagreatdoor", sum := "7a8924db39247973cbdf0f034c3e380c8645662f150eca2c5eba475a37be1368", func := "loop.example/chartulary/laws.FnMdlEmpty", spec := "fnMdlEmpty", inPlace := ["internal/bytealg.CountString", "internal/bytealg.IndexByteString", "internal/bytealg.IndexString", "slices.overlaps[loop.example/chartulary/impl.TreFile]", "slices.overlaps[loop.example/chartulary/impl.MdlRef]"], unfollowed := true, recurses := true, named := ["unicode/utf8.first", "unicode/utf8.acceptRanges", "internal/bytealg.MaxLen"], apart := false, laid := [("unicode/utf8.acceptRanges", laid_unicode_utf8_acceptRanges), ("unicode/utf8.first", laid_unicode_utf8_first)], narrowed := true }
def FnMdlEmptyUptoSaid : Prop := fnMdlEmptyUptoRow.holds Tryz.pinned (OpenSpec.upto fnMdlEmptySpec)

/-- 'laws.FnMdlGuard', WHERE WHAT IT READS IS OF BULK AT MOST 1048576: true; the input reads as it did. -/
def fnMdlGuardUptoRow : OpenClaim := { program := "ytheifkmggcenpaagreatdoor", sum := "7a8924db39247973cbdf0f034c3e380c8645662f150eca2c5eba475a37be1368", func := "loop.example/chartulary/laws.FnMdlGuard", spec := "fnMdlGuard", inPlace := ["internal/bytealg.CountString", "internal/bytealg.IndexByteString", "internal/bytealg.IndexString", "slices.overlaps[loop.example/chartulary/impl.TreFile]", "slices.overlaps[loop.example/chartulary/impl.MdlRef]"], unfollowed := true, recurses := true, named := ["unicode/utf8.first", "unicode/utf8.acceptRanges", "internal/bytealg.MaxLen"], apart := false, laid := [("unicode/utf8.acceptRanges", laid_unicode_utf8_acceptRanges), ("unicode/utf8.first", laid_unicode_utf8_first)], narrowed := true }
def FnMdlGuardUptoSaid : Prop := fnMdlGuardUptoRow.holds Tryz.pinned (OpenSpec.upto fnMdlGuardSpec)

/-- 'laws.FnMdlKeys', WHERE WHAT IT READS IS OF BULK AT MOST 1048576: true; the input reads as it did. -/
def fnMdlKeysUptoRow : OpenClaim := { program := "ytheifkmggcenpaagreatdoor", sum := "7a8924db39247973cbdf0f034c3e380c8645662f150eca2c5eba475a37be1368", func := "loop.example/chartulary/laws.FnMdlKeys", spec := "fnMdlKeys", inPlace := ["internal/bytealg.CountString", "internal/bytealg.IndexByteString", "internal/bytealg.IndexString", "slices.overlaps[loop.example/chartulary/impl.TreFile]", "slices.overlaps[loop.example/chartulary/impl.MdlRef]"], unfollowed := true, recurses := true, named := ["unicode/utf8.first", "unicode/utf8.acceptRanges", "internal/bytealg.MaxLen"], apart := false, laid := [("unicode/utf8.acceptRanges", laid_unicode_utf8_acceptRanges), ("unicode/utf8.first", laid_unicode_utf8_first)], narrowed := true }
def FnMdlKeysUptoSaid : Prop := fnMdlKeysUptoRow.holds Tryz.pinned (OpenSpec.upto fnMdlKeysSpec)

/-- 'laws.FnMdlLimits', WHERE WHAT IT READS IS OF BULK AT MOST 1048576: true; the input reads as it did. -/
def fnMdlLimitsUptoRow : OpenClaim := { program := "ytheifkmggcenpaagreatdoor", sum := "7a8924db39247973cbdf0f034c3e380c8645662f150eca2c5eba475a37be1368", func := "loop.example/chartulary/laws.FnMdlLimits", spec := "fnMdlLimits", inPlace := ["internal/bytealg.CountString", "internal/bytealg.IndexByteString", "internal/bytealg.IndexString", "slices.overlaps[loop.example/chartulary/impl.TreFile]", "slices.overlaps[loop.example/chartulary/impl.MdlRef]"], unfollowed := true, recurses := true, named := ["unicode/utf8.first", "unicode/utf8.acceptRanges", "internal/bytealg.MaxLen"], apart := false, laid := [("unicode/utf8.acceptRanges", laid_unicode_utf8_acceptRanges), ("unicode/utf8.first", laid_unicode_utf8_first)], narrowed := true }
def FnMdlLimitsUptoSaid : Prop := fnMdlLimitsUptoRow.holds Tryz.pinned (OpenSpec.upto fnMdlLimitsSpec)

end Rows
end Go.Proofs.YtheifkmggcenpaaGreatDoor
