/-
  NARROWER THAN 'FOR EVERY INPUT', by the rows' own cells (each row's printed sentence says how): FnMdlMay: laid · FnMdlCopy: laid · FnMdlSees: laid · FnMdlHidden: laid.
  DERIVED. THE GIVEN ROWS OF THIS SEAT. 4 by the template 'for every input the law returns true; each argument reads behind the call as it read before'; 0 by the template 'total and deterministic' (their statements: YtobbdhgkcoeifaaGreatDoorTotals.lean).
  GIVEN WITH THE SEED: the statements are not yours to turn. If you find one false, say at which input.
  Laid BY PROGRAM, IN A SANDBOX (cutbox-rows.mjs): the forced cells as the released guide's own fill.sh prints them over the translation 31dcbc5896740905… (all of the seat's roots in one cut). By AI agents, Wed Nov 11 2026. No macro, syntax, notation, axiom, sorry.
-/
import Derived.Test.YtobbdhgkcoeifaaGreatDoorChecked
import GoSem.PinnedTables
import GoSem.Claim
import GoSem.ClaimJoined
import GoSem.ClaimMapViews
import Derived.JoinedTies
import Derived.KernelRfl
namespace Go.Proofs.YtobbdhgkcoeifaaGreatDoor
/- THE CELL 'sum', in the pinned program and in every row, IS THE sha256 OF THE DUMP (.gsa) THAT YtobbdhgkcoeifaaGreatDoorProg.lean LOADS. Nothing in Lean hashes anything: it is a label: what it is worth is what the hold of that sum in a sandbox is worth. -/
noncomputable def Tryz.pinned : Pinned := { name := "ytobbdhgkcoeifaagreatdoor", sum := "31dcbc58967409051dcad0b256f3ac4c1059bf6c80e9f9a5bbee71fae6ff4758", checked := Tryz.checked }
namespace Rows
def none {H : Type} : Left H := { results := [], args := [] }

/- WHAT THE LISTED PACKAGE-LEVEL VARIABLES READ AS WHEN THE CALL BEGINS. Each datum BY PROGRAM (the guide's laid-datum.mjs) off the statement by which the dump's own 'gosem.cut.vars' lays the variable. In a bare row this is a premise. The card (YtobbdhgkcoeifaaGreatDoorCards.lean) ties it to the program's text. -/
def laid_unicode_utf8_acceptRanges {H : Type} : DataW H := .agg [.agg [.lit (.int .u8 128), .lit (.int .u8 191)], .agg [.lit (.int .u8 160), .lit (.int .u8 191)], .agg [.lit (.int .u8 128), .lit (.int .u8 159)], .agg [.lit (.int .u8 144), .lit (.int .u8 191)], .agg [.lit (.int .u8 128), .lit (.int .u8 143)], .agg [.lit (.int .u8 0), .lit (.int .u8 0)], .agg [.lit (.int .u8 0), .lit (.int .u8 0)], .agg [.lit (.int .u8 0), .lit (.int .u8 0)], .agg [.lit (.int .u8 0), .lit (.int .u8 0)], .agg [.lit (.int .u8 0), .lit (.int .u8 0)], .agg [.lit (.int .u8 0), .lit (.int .u8 0)], .agg [.lit (.int .u8 0), .lit (.int .u8 0)], .agg [.lit (.int .u8 0), .lit (.int .u8 0)], .agg [.lit (.int .u8 0), .lit (.int .u8 0)], .agg [.lit (.int .u8 0), .lit (.int .u8 0)], .agg [.lit (.int .u8 0), .lit (.int .u8 0)]]
/-- One of Go's own tables, pinned by name: the form's constant. -/
def laid_unicode_utf8_first : DataW Unit := Go.Pinned.utf8First

/-- 'laws.FnMdlMay': WHATEVER THE INPUT: true; the input reads as it did. -/
def fnMdlMaySpec : ChangeSpec := { name := "fnMdlMay", fn := fun _ => fun
  | [d] => { results := [.lit (.bool true)], args := [d] }
  | _ => none }
def fnMdlMayRow : OpenClaim := { program := "ytobbdhgkcoeifaagreatdoor", sum := "31dcbc58967409051dcad0b256f3ac4c1059bf6c80e9f9a5bbee71fae6ff4758", func := "loop.example/chartulary/laws.FnMdlMay", spec := "fnMdlMay", inPlace := ["internal/bytealg.CountString", "internal/bytealg.IndexByteString", "internal/bytealg.IndexString", "slices.overlaps[loop.example/chartulary/impl.TreFile]", "slices.overlaps[loop.example/chartulary/impl.MdlRef]"], unfollowed := true, recurses := true, named := ["unicode/utf8.first", "unicode/utf8.acceptRanges", "internal/bytealg.MaxLen"], apart := false, laid := [("unicode/utf8.acceptRanges", laid_unicode_utf8_acceptRanges), ("unicode/utf8.first", laid_unicode_utf8_first)] }
def FnMdlMaySaid : Prop := fnMdlMayRow.holds Tryz.pinned (OpenSpec.ofChange fnMdlMaySpec)

/-- ITS FALSE NEIGHBOUR: 'it returns false'. Refute it at one input. -/
def fnMdlMayWrong : ChangeSpec := { name := "fnMdlMay", fn := fun _ => fun
  | [d] => { results := [.lit (.bool false)], args := [d] }
  | _ => none }
def FnMdlMayWrongFalsely : Prop := fnMdlMayRow.holds Tryz.pinned (OpenSpec.ofChange fnMdlMayWrong)

/-- 'laws.FnMdlCopy': WHATEVER THE INPUT: true; the input reads as it did. -/
def fnMdlCopySpec : ChangeSpec := { name := "fnMdlCopy", fn := fun _ => fun
  | [d] => { results := [.lit (.bool true)], args := [d] }
  | _ => none }
def fnMdlCopyRow : OpenClaim := { program := "ytobbdhgkcoeifaagreatdoor", sum := "31dcbc58967409051dcad0b256f3ac4c1059bf6c80e9f9a5bbee71fae6ff4758", func := "loop.example/chartulary/laws.FnMdlCopy", spec := "fnMdlCopy", inPlace := ["internal/bytealg.CountString", "internal/bytealg.IndexByteString", "internal/bytealg.IndexString", "slices.overlaps[loop.example/chartulary/impl.TreFile]", "slices.overlaps[loop.example/chartulary/impl.MdlRef]"], unfollowed := true, recurses := true, named := ["unicode/utf8.first", "unicode/utf8.acceptRanges", "internal/bytealg.MaxLen"], apart := false, laid := [("unicode/utf8.acceptRanges", laid_unicode_utf8_acceptRanges), ("unicode/utf8.first", laid_unicode_utf8_first)] }
def FnMdlCopySaid : Prop := fnMdlCopyRow.holds Tryz.pinned (OpenSpec.ofChange fnMdlCopySpec)

/-- ITS FALSE NEIGHBOUR: 'it returns false'. Refute it at one input. -/
def fnMdlCopyWrong : ChangeSpec := { name := "fnMdlCopy", fn := fun _ => fun
  | [d] => { results := [.lit (.bool false)], args := [d] }
  | _ => none }
def FnMdlCopyWrongFalsely : Prop := fnMdlCopyRow.holds Tryz.pinned (OpenSpec.ofChange fnMdlCopyWrong)

/-- 'laws.FnMdlSees': WHATEVER THE INPUT: true; the input reads as it did. -/
def fnMdlSeesSpec : ChangeSpec := { name := "fnMdlSees", fn := fun _ => fun
  | [d] => { results := [.lit (.bool true)], args := [d] }
  | _ => none }
def fnMdlSeesRow : OpenClaim := { program := "ytobbdhgkcoeifaagreatdoor", sum := "31dcbc58967409051dcad0b256f3ac4c1059bf6c80e9f9a5bbee71fae6ff4758", func := "loop.example/chartulary/laws.FnMdlSees", spec := "fnMdlSees", inPlace := ["internal/bytealg.CountString", "internal/bytealg.IndexByteString", "internal/bytealg.IndexString"], unfollowed := true, recurses := true, named := ["unicode/utf8.first", "unicode/utf8.acceptRanges", "internal/bytealg.MaxLen"], apart := false, laid := [("unicode/utf8.acceptRanges", laid_unicode_utf8_acceptRanges), ("unicode/utf8.first", laid_unicode_utf8_first)] }
def FnMdlSeesSaid : Prop := fnMdlSeesRow.holds Tryz.pinned (OpenSpec.ofChange fnMdlSeesSpec)

/-- ITS FALSE NEIGHBOUR: 'it returns false'. Refute it at one input. -/
def fnMdlSeesWrong : ChangeSpec := { name := "fnMdlSees", fn := fun _ => fun
  | [d] => { results := [.lit (.bool false)], args := [d] }
  | _ => none }
def FnMdlSeesWrongFalsely : Prop := fnMdlSeesRow.holds Tryz.pinned (OpenSpec.ofChange fnMdlSeesWrong)

/-- 'laws.FnMdlHidden': WHATEVER THE INPUT: true; the input reads as it did. -/
def fnMdlHiddenSpec : ChangeSpec := { name := "fnMdlHidden", fn := fun _ => fun
  | [d] => { results := [.lit (.bool true)], args := [d] }
  | _ => none }
def fnMdlHiddenRow : OpenClaim := { program := "ytobbdhgkcoeifaagreatdoor", sum := "31dcbc58967409051dcad0b256f3ac4c1059bf6c80e9f9a5bbee71fae6ff4758", func := "loop.example/chartulary/laws.FnMdlHidden", spec := "fnMdlHidden", inPlace := ["internal/bytealg.CountString", "internal/bytealg.IndexByteString", "internal/bytealg.IndexString", "slices.overlaps[loop.example/chartulary/impl.TreFile]", "slices.overlaps[loop.example/chartulary/impl.MdlRef]"], unfollowed := true, recurses := true, named := ["unicode/utf8.first", "unicode/utf8.acceptRanges", "internal/bytealg.MaxLen"], apart := false, laid := [("unicode/utf8.acceptRanges", laid_unicode_utf8_acceptRanges), ("unicode/utf8.first", laid_unicode_utf8_first)] }
def FnMdlHiddenSaid : Prop := fnMdlHiddenRow.holds Tryz.pinned (OpenSpec.ofChange fnMdlHiddenSpec)

/-- ITS FALSE NEIGHBOUR: 'it returns false'. Refute it at one input. -/
def fnMdlHiddenWrong : ChangeSpec := { name := "fnMdlHidden", fn := fun _ => fun
  | [d] => { results := [.lit (.bool false)], args := [d] }
  | _ => none }
def FnMdlHiddenWrongFalsely : Prop := fnMdlHiddenRow.holds Tryz.pinned (OpenSpec.ofChange fnMdlHiddenWrong)

/- THE SECOND FORM. 'bulk': how many values and letters a reading holds, each counted each time it is reached (what is shared counts as often as it is met; a slice's spare places count too). A statement '..UptoSaid' is the law's where the arguments, and the package variables that the reading takes, are together of bulk at most 1048576: NARROWER than '..Said'. Prove '..Said' where nothing that the law and all that it calls make is longer than what came in: it says more and counts as full. Else prove '..UptoSaid'. A law counts once. -/
mutual
def uptoBulk {H : Type} : DataW H → Nat
  | .lit (.string bytes) => bytes.length + 1
  | .lit _ => 1
  | .nil => 1
  | .ptr d => uptoBulk d + 1
  | .slice elems spare => uptoBulkAll elems + uptoBulkAll spare + 1
  | .agg parts => uptoBulkAll parts + 1
  | .iface _ d => uptoBulk d + 1
  | .map entries => uptoBulkEntries entries + 1
  | .held _ => 1
def uptoBulkAll {H : Type} : List (DataW H) → Nat
  | [] => 0
  | d :: r => uptoBulk d + uptoBulkAll r
def uptoBulkEntries {H : Type} : List (Lit × DataW H) → Nat
  | [] => 0
  | x :: r => uptoBulkEntry x + uptoBulkEntries r
def uptoBulkEntry {H : Type} : Lit × DataW H → Nat
  | (.string bytes, d) => bytes.length + uptoBulk d + 1
  | (_, d) => uptoBulk d + 1
 end
def uptoSmall : (H : Type) → List (DataW H) → Bool := fun _ ds => decide (uptoBulkAll ds ≤ 1048576)
def OpenSpec.upto (s : _root_.Go.ChangeSpec) : _root_.Go.OpenSpec := { _root_.Go.OpenSpec.ofChange s with cond := some uptoSmall }

/-- 'laws.FnMdlMay', WHERE WHAT IT READS IS OF BULK AT MOST 1048576: true; the input reads as it did. -/
def fnMdlMayUptoRow : OpenClaim := { program := "ytobbdhgkcoeifaagreatdoor", sum := "31dcbc58967409051dcad0b256f3ac4c1059bf6c80e9f9a5bbee71fae6ff4758", func := "loop.example/chartulary/laws.FnMdlMay", spec := "fnMdlMay", inPlace := ["internal/bytealg.CountString", "internal/bytealg.IndexByteString", "internal/bytealg.IndexString", "slices.overlaps[loop.example/chartulary/impl.TreFile]", "slices.overlaps[loop.example/chartulary/impl.MdlRef]"], unfollowed := true, recurses := true, named := ["unicode/utf8.first", "unicode/utf8.acceptRanges", "internal/bytealg.MaxLen"], apart := false, laid := [("unicode/utf8.acceptRanges", laid_unicode_utf8_acceptRanges), ("unicode/utf8.first", laid_unicode_utf8_first)], narrowed := true }
def FnMdlMayUptoSaid : Prop := fnMdlMayUptoRow.holds Tryz.pinned (OpenSpec.upto fnMdlMaySpec)

/-- 'laws.FnMdlCopy', WHERE WHAT IT READS IS OF BULK AT MOST 1048576: true; the input reads as it did. -/
def fnMdlCopyUptoRow : OpenClaim := { program := "ytobbdhgkcoeifaagreatdoor", sum := "31dcbc58967409051dcad0b256f3ac4c1059bf6c80e9f9a5bbee71fae6ff4758", func := "loop.example/chartulary/laws.FnMdlCopy", spec := "fnMdlCopy", inPlace := ["internal/bytealg.CountString", "internal/bytealg.IndexByteString", "internal/bytealg.IndexString", "slices.overlaps[loop.example/chartulary/impl.TreFile]", "slices.overlaps[loop.example/chartulary/impl.MdlRef]"], unfollowed := true, recurses := true, named := ["unicode/utf8.first", "unicode/utf8.acceptRanges", "internal/bytealg.MaxLen"], apart := false, laid := [("unicode/utf8.acceptRanges", laid_unicode_utf8_acceptRanges), ("unicode/utf8.first", laid_unicode_utf8_first)], narrowed := true }
def FnMdlCopyUptoSaid : Prop := fnMdlCopyUptoRow.holds Tryz.pinned (OpenSpec.upto fnMdlCopySpec)

/-- 'laws.FnMdlSees', WHERE WHAT IT READS IS OF BULK AT MOST 1048576: true; the input reads as it did. -/
def fnMdlSeesUptoRow : OpenClaim := { program := "ytobbdhgkcoeifaagreatdoor", sum := "31dcbc58967409051dcad0b256f3ac4c1059bf6c80e9f9a5bbee71fae6ff4758", func := "loop.example/chartulary/laws.FnMdlSees", spec := "fnMdlSees", inPlace := ["internal/bytealg.CountString", "internal/bytealg.IndexByteString", "internal/bytealg.IndexString"], unfollowed := true, recurses := true, named := ["unicode/utf8.first", "unicode/utf8.acceptRanges", "internal/bytealg.MaxLen"], apart := false, laid := [("unicode/utf8.acceptRanges", laid_unicode_utf8_acceptRanges), ("unicode/utf8.first", laid_unicode_utf8_first)], narrowed := true }
def FnMdlSeesUptoSaid : Prop := fnMdlSeesUptoRow.holds Tryz.pinned (OpenSpec.upto fnMdlSeesSpec)

/-- 'laws.FnMdlHidden', WHERE WHAT IT READS IS OF BULK AT MOST 1048576: true; the input reads as it did. -/
def fnMdlHiddenUptoRow : OpenClaim := { program := "ytobbdhgkcoeifaagreatdoor", sum := "31dcbc58967409051dcad0b256f3ac4c1059bf6c80e9f9a5bbee71fae6ff4758", func := "loop.example/chartulary/laws.FnMdlHidden", spec := "fnMdlHidden", inPlace := ["internal/bytealg.CountString", "internal/bytealg.IndexByteString", "internal/bytealg.IndexString", "slices.overlaps[loop.example/chartulary/impl.TreFile]", "slices.overlaps[loop.example/chartulary/impl.MdlRef]"], unfollowed := true, recurses := true, named := ["unicode/utf8.first", "unicode/utf8.acceptRanges", "internal/bytealg.MaxLen"], apart := false, laid := [("unicode/utf8.acceptRanges", laid_unicode_utf8_acceptRanges), ("unicode/utf8.first", laid_unicode_utf8_first)], narrowed := true }
def FnMdlHiddenUptoSaid : Prop := fnMdlHiddenUptoRow.holds Tryz.pinned (OpenSpec.upto fnMdlHiddenSpec)

end Rows
end Go.Proofs.YtobbdhgkcoeifaaGreatDoor
