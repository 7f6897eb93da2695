/-
  NARROWER THAN 'FOR EVERY INPUT', by the rows' own cells (each row's printed sentence says how): FnExactMdlDo: laid · FnExactMdlFiles: laid · FnExactMdlSees: laid.
  DERIVED. THE GIVEN ROWS OF THIS SEAT. 3 by the template 'for every input the law returns true; each argument reads behind the call as it read before'; 0 by the template 'total and deterministic' (their statements: YtnogkkcmcnhodaaGreatDoorTotals.lean).
  GIVEN WITH THE SEED: the statements are not yours to turn. If you find one false, say at which input.
  Laid BY PROGRAM, IN A SANDBOX (cutbox-rows.mjs): the forced cells as the released guide's own fill.sh prints them over the translation 3b9c713c573fd717… (all of the seat's roots in one cut). By AI agents, Wed Nov 11 2026. No macro, syntax, notation, axiom, sorry.
-/
import Derived.Test.YtnogkkcmcnhodaaGreatDoorChecked
import GoSem.PinnedTables
import GoSem.Claim
import GoSem.ClaimJoined
import GoSem.ClaimMapViews
import Derived.JoinedTies
import Derived.KernelRfl
namespace Go.Proofs.YtnogkkcmcnhodaaGreatDoor
/- THE CELL 'sum', in the pinned program and in every row, IS THE sha256 OF THE DUMP (.gsa) THAT YtnogkkcmcnhodaaGreatDoorProg.lean LOADS. Nothing in Lean hashes anything: it is a label: what it is worth is what the hold of that sum in a sandbox is worth. -/
noncomputable def Tryz.pinned : Pinned := { name := "ytnogkkcmcnhodaagreatdoor", sum := "3b9c713c573fd717c3bdcc0679bbbe58905f10b3ea058478c9edfb90a4d8c303", checked := Tryz.checked }
namespace Rows
def none {H : Type} : Left H := { results := [], args := [] }

/- WHAT THE LISTED PACKAGE-LEVEL VARIABLES READ AS WHEN THE CALL BEGINS. Each datum BY PROGRAM (the guide's laid-datum.mjs) off the statement by which the dump's own 'gosem.cut.vars' lays the variable. In a bare row this is a premise. The card (YtnogkkcmcnhodaaGreatDoorCards.lean) ties it to the program's text. -/
def laid_unicode_utf8_acceptRanges {H : Type} : DataW H := .agg [.agg [.lit (.int .u8 128), .lit (.int .u8 191)], .agg [.lit (.int .u8 160), .lit (.int .u8 191)], .agg [.lit (.int .u8 128), .lit (.int .u8 159)], .agg [.lit (.int .u8 144), .lit (.int .u8 191)], .agg [.lit (.int .u8 128), .lit (.int .u8 143)], .agg [.lit (.int .u8 0), .lit (.int .u8 0)], .agg [.lit (.int .u8 0), .lit (.int .u8 0)], .agg [.lit (.int .u8 0), .lit (.int .u8 0)], .agg [.lit (.int .u8 0), .lit (.int .u8 0)], .agg [.lit (.int .u8 0), .lit (.int .u8 0)], .agg [.lit (.int .u8 0), .lit (.int .u8 0)], .agg [.lit (.int .u8 0), .lit (.int .u8 0)], .agg [.lit (.int .u8 0), .lit (.int .u8 0)], .agg [.lit (.int .u8 0), .lit (.int .u8 0)], .agg [.lit (.int .u8 0), .lit (.int .u8 0)], .agg [.lit (.int .u8 0), .lit (.int .u8 0)]]
/-- One of Go's own tables, pinned by name: the form's constant. -/
def laid_unicode_utf8_first : DataW Unit := Go.Pinned.utf8First

/-- 'laws.FnExactMdlDo': WHATEVER THE INPUT: true; the input reads as it did. -/
def fnExactMdlDoSpec : ChangeSpec := { name := "fnExactMdlDo", fn := fun _ => fun
  | [d1, d2] => { results := [.lit (.bool true)], args := [d1, d2] }
  | _ => none }
def fnExactMdlDoRow : OpenClaim := { program := "ytnogkkcmcnhodaagreatdoor", sum := "3b9c713c573fd717c3bdcc0679bbbe58905f10b3ea058478c9edfb90a4d8c303", func := "loop.example/chartulary/laws.FnExactMdlDo", spec := "fnExactMdlDo", inPlace := ["internal/bytealg.CountString", "internal/bytealg.IndexByteString", "internal/bytealg.IndexString", "slices.overlaps[loop.example/chartulary/impl.TreFile]", "slices.overlaps[loop.example/chartulary/impl.MdlRef]"], unfollowed := true, recurses := true, named := ["unicode/utf8.first", "unicode/utf8.acceptRanges", "internal/bytealg.MaxLen"], apart := false, laid := [("unicode/utf8.acceptRanges", laid_unicode_utf8_acceptRanges), ("unicode/utf8.first", laid_unicode_utf8_first)] }
def FnExactMdlDoSaid : Prop := fnExactMdlDoRow.holds Tryz.pinned (OpenSpec.ofChange fnExactMdlDoSpec)

/-- ITS FALSE NEIGHBOUR: 'it returns false'. Refute it at one input. -/
def fnExactMdlDoWrong : ChangeSpec := { name := "fnExactMdlDo", fn := fun _ => fun
  | [d1, d2] => { results := [.lit (.bool false)], args := [d1, d2] }
  | _ => none }
def FnExactMdlDoWrongFalsely : Prop := fnExactMdlDoRow.holds Tryz.pinned (OpenSpec.ofChange fnExactMdlDoWrong)

/-- 'laws.FnExactMdlFiles': WHATEVER THE INPUT: true; the input reads as it did. -/
def fnExactMdlFilesSpec : ChangeSpec := { name := "fnExactMdlFiles", fn := fun _ => fun
  | [d1, d2, d3, d4] => { results := [.lit (.bool true)], args := [d1, d2, d3, d4] }
  | _ => none }
def fnExactMdlFilesRow : OpenClaim := { program := "ytnogkkcmcnhodaagreatdoor", sum := "3b9c713c573fd717c3bdcc0679bbbe58905f10b3ea058478c9edfb90a4d8c303", func := "loop.example/chartulary/laws.FnExactMdlFiles", spec := "fnExactMdlFiles", inPlace := ["internal/bytealg.CountString", "internal/bytealg.IndexByteString", "internal/bytealg.IndexString"], unfollowed := true, recurses := true, named := ["unicode/utf8.first", "unicode/utf8.acceptRanges", "internal/bytealg.MaxLen"], apart := false, laid := [("unicode/utf8.acceptRanges", laid_unicode_utf8_acceptRanges), ("unicode/utf8.first", laid_unicode_utf8_first)] }
def FnExactMdlFilesSaid : Prop := fnExactMdlFilesRow.holds Tryz.pinned (OpenSpec.ofChange fnExactMdlFilesSpec)

/-- ITS FALSE NEIGHBOUR: 'it returns false'. Refute it at one input. -/
def fnExactMdlFilesWrong : ChangeSpec := { name := "fnExactMdlFiles", fn := fun _ => fun
  | [d1, d2, d3, d4] => { results := [.lit (.bool false)], args := [d1, d2, d3, d4] }
  | _ => none }
def FnExactMdlFilesWrongFalsely : Prop := fnExactMdlFilesRow.holds Tryz.pinned (OpenSpec.ofChange fnExactMdlFilesWrong)

/-- 'laws.FnExactMdlSees': WHATEVER THE INPUT: true; the input reads as it did. -/
def fnExactMdlSeesSpec : ChangeSpec := { name := "fnExactMdlSees", fn := fun _ => fun
  | [d1, d2, d3, d4, d5] => { results := [.lit (.bool true)], args := [d1, d2, d3, d4, d5] }
  | _ => none }
def fnExactMdlSeesRow : OpenClaim := { program := "ytnogkkcmcnhodaagreatdoor", sum := "3b9c713c573fd717c3bdcc0679bbbe58905f10b3ea058478c9edfb90a4d8c303", func := "loop.example/chartulary/laws.FnExactMdlSees", spec := "fnExactMdlSees", inPlace := ["internal/bytealg.CountString", "internal/bytealg.IndexByteString", "internal/bytealg.IndexString"], unfollowed := true, recurses := true, named := ["unicode/utf8.first", "unicode/utf8.acceptRanges", "internal/bytealg.MaxLen"], apart := false, laid := [("unicode/utf8.acceptRanges", laid_unicode_utf8_acceptRanges), ("unicode/utf8.first", laid_unicode_utf8_first)] }
def FnExactMdlSeesSaid : Prop := fnExactMdlSeesRow.holds Tryz.pinned (OpenSpec.ofChange fnExactMdlSeesSpec)

/-- ITS FALSE NEIGHBOUR: 'it returns false'. Refute it at one input. -/
def fnExactMdlSeesWrong : ChangeSpec := { name := "fnExactMdlSees", fn := fun _ => fun
  | [d1, d2, d3, d4, d5] => { results := [.lit (.bool false)], args := [d1, d2, d3, d4, d5] }
  | _ => none }
def FnExactMdlSeesWrongFalsely : Prop := fnExactMdlSeesRow.holds Tryz.pinned (OpenSpec.ofChange fnExactMdlSeesWrong)

/- THE SECOND FORM. 'bulk': how many values and letters a reading holds, each counted each time it is reached (what is shared counts as often as it is met; a slice's spare places count too). A statement '..UptoSaid' is the law's where the arguments, and the package variables that the reading takes, are together of bulk at most 1048576: NARROWER than '..Said'. Prove '..Said' where nothing that the law and all that it calls make is longer than what came in: it says more and counts as full. Else prove '..UptoSaid'. A law counts once. -/
mutual
def uptoBulk {H : Type} : DataW H → Nat
  | .lit (.string bytes) => bytes.length + 1
  | .lit _ => 1
  | .nil => 1
  | .ptr d => uptoBulk d + 1
  | .slice elems spare => uptoBulkAll elems + uptoBulkAll spare + 1
  | .agg parts => uptoBulkAll parts + 1
  | .iface _ d => uptoBulk d + 1
  | .map entries => uptoBulkEntries entries + 1
  | .held _ => 1
def uptoBulkAll {H : Type} : List (DataW H) → Nat
  | [] => 0
  | d :: r => uptoBulk d + uptoBulkAll r
def uptoBulkEntries {H : Type} : List (Lit × DataW H) → Nat
  | [] => 0
  | x :: r => uptoBulkEntry x + uptoBulkEntries r
def uptoBulkEntry {H : Type} : Lit × DataW H → Nat
  | (.string bytes, d) => bytes.length + uptoBulk d + 1
  | (_, d) => uptoBulk d + 1
 end
def uptoSmall : (H : Type) → List (DataW H) → Bool := fun _ ds => decide (uptoBulkAll ds ≤ 1048576)
def OpenSpec.upto (s : _root_.Go.ChangeSpec) : _root_.Go.OpenSpec := { _root_.Go.OpenSpec.ofChange s with cond := some uptoSmall }

/-- 'laws.FnExactMdlDo', WHERE WHAT IT READS IS OF BULK AT MOST 1048576: true; the input reads as it did. -/
def fnExactMdlDoUptoRow : OpenClaim := { program := "ytnogkkcmcnhodaagreatdoor", sum := "3b9c713c573fd717c3bdcc0679bbbe58905f10b3ea058478c9edfb90a4d8c303", func := "loop.example/chartulary/laws.FnExactMdlDo", spec := "fnExactMdlDo", inPlace := ["internal/bytealg.CountString", "internal/bytealg.IndexByteString", "internal/bytealg.IndexString", "slices.overlaps[loop.example/chartulary/impl.TreFile]", "slices.overlaps[loop.example/chartulary/impl.MdlRef]"], unfollowed := true, recurses := true, named := ["unicode/utf8.first", "unicode/utf8.acceptRanges", "internal/bytealg.MaxLen"], apart := false, laid := [("unicode/utf8.acceptRanges", laid_unicode_utf8_acceptRanges), ("unicode/utf8.first", laid_unicode_utf8_first)], narrowed := true }
def FnExactMdlDoUptoSaid : Prop := fnExactMdlDoUptoRow.holds Tryz.pinned (OpenSpec.upto fnExactMdlDoSpec)

/-- 'laws.FnExactMdlFiles', WHERE WHAT IT READS IS OF BULK AT MOST 1048576: true; the input reads as it did. -/
def fnExactMdlFilesUptoRow : OpenClaim := { program := "ytnogkkcmcnhodaagreatdoor", sum := "3b9c713c573fd717c3bdcc0679bbbe58905f10b3ea058478c9edfb90a4d8c303", func := "loop.example/chartulary/laws.FnExactMdlFiles", spec := "fnExactMdlFiles", inPlace := ["internal/bytealg.CountString", "internal/bytealg.IndexByteString", "internal/bytealg.IndexString"], unfollowed := true, recurses := true, named := ["unicode/utf8.first", "unicode/utf8.acceptRanges", "internal/bytealg.MaxLen"], apart := false, laid := [("unicode/utf8.acceptRanges", laid_unicode_utf8_acceptRanges), ("unicode/utf8.first", laid_unicode_utf8_first)], narrowed := true }
def FnExactMdlFilesUptoSaid : Prop := fnExactMdlFilesUptoRow.holds Tryz.pinned (OpenSpec.upto fnExactMdlFilesSpec)

/-- 'laws.FnExactMdlSees', WHERE WHAT IT READS IS OF BULK AT MOST 1048576: true; the input reads as it did. -/
def fnExactMdlSeesUptoRow : OpenClaim := { program := "ytnogkkcmcnhodaagreatdoor", sum := "3b9c713c573fd717c3bdcc0679bbbe58905f10b3ea058478c9edfb90a4d8c303", func := "loop.example/chartulary/laws.FnExactMdlSees", spec := "fnExactMdlSees", inPlace := ["internal/bytealg.CountString", "internal/bytealg.IndexByteString", "internal/bytealg.IndexString"], unfollowed := true, recurses := true, named := ["unicode/utf8.first", "unicode/utf8.acceptRanges", "internal/bytealg.MaxLen"], apart := false, laid := [("unicode/utf8.acceptRanges", laid_unicode_utf8_acceptRanges), ("unicode/utf8.first", laid_unicode_utf8_first)], narrowed := true }
def FnExactMdlSeesUptoSaid : Prop := fnExactMdlSeesUptoRow.holds Tryz.pinned (OpenSpec.upto fnExactMdlSeesSpec)

end Rows
end Go.Proofs.YtnogkkcmcnhodaaGreatDoor
