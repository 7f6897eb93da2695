/-
  NARROWER THAN 'FOR EVERY INPUT', by the rows' own cells (each row's printed sentence says how): FnExactMdlNew: laid · FnExactMdlOk: laid · FnExactHseNew: laid.
  DERIVED. THE GIVEN ROWS OF THIS SEAT. 3 by the template 'for every input the law returns true; each argument reads behind the call as it read before'; 0 by the template 'total and deterministic' (their statements: YtnogkkcmcnhodaaDoorTotals.lean).
  GIVEN WITH THE SEED: the statements are not yours to turn. If you find one false, say at which input.
  Laid BY PROGRAM, IN A SANDBOX (cutbox-rows.mjs): the forced cells as the released guide's own fill.sh prints them over the translation 0d802c20c2ab4401… (all of the seat's roots in one cut). By AI agents, Wed Nov 11 2026. No macro, syntax, notation, axiom, sorry.
-/
import Derived.Test.YtnogkkcmcnhodaaDoorChecked
import GoSem.PinnedTables
import GoSem.Claim
import GoSem.ClaimJoined
import GoSem.ClaimMapViews
import Derived.JoinedTies
import Derived.KernelRfl
namespace Go.Proofs.YtnogkkcmcnhodaaDoor
/- THE CELL 'sum', in the pinned program and in every row, IS THE sha256 OF THE DUMP (.gsa) THAT YtnogkkcmcnhodaaDoorProg.lean LOADS. Nothing in Lean hashes anything: it is a label: what it is worth is what the hold of that sum in a sandbox is worth. -/
noncomputable def Tryd.pinned : Pinned := { name := "ytnogkkcmcnhodaadoor", sum := "0d802c20c2ab4401e18015628f471bdcd272e203a6acfdf33abc00dd2307d30e", checked := Tryd.checked }
namespace Rows
def none {H : Type} : Left H := { results := [], args := [] }

/- WHAT THE LISTED PACKAGE-LEVEL VARIABLES READ AS WHEN THE CALL BEGINS. Each datum BY PROGRAM (the guide's laid-datum.mjs) off the statement by which the dump's own 'gosem.cut.vars' lays the variable. In a bare row this is a premise. The card (YtnogkkcmcnhodaaDoorCards.lean) ties it to the program's text. -/
def laid_unicode_utf8_acceptRanges {H : Type} : DataW H := .agg [.agg [.lit (.int .u8 128), .lit (.int .u8 191)], .agg [.lit (.int .u8 160), .lit (.int .u8 191)], .agg [.lit (.int .u8 128), .lit (.int .u8 159)], .agg [.lit (.int .u8 144), .lit (.int .u8 191)], .agg [.lit (.int .u8 128), .lit (.int .u8 143)], .agg [.lit (.int .u8 0), .lit (.int .u8 0)], .agg [.lit (.int .u8 0), .lit (.int .u8 0)], .agg [.lit (.int .u8 0), .lit (.int .u8 0)], .agg [.lit (.int .u8 0), .lit (.int .u8 0)], .agg [.lit (.int .u8 0), .lit (.int .u8 0)], .agg [.lit (.int .u8 0), .lit (.int .u8 0)], .agg [.lit (.int .u8 0), .lit (.int .u8 0)], .agg [.lit (.int .u8 0), .lit (.int .u8 0)], .agg [.lit (.int .u8 0), .lit (.int .u8 0)], .agg [.lit (.int .u8 0), .lit (.int .u8 0)], .agg [.lit (.int .u8 0), .lit (.int .u8 0)]]
/-- One of Go's own tables, pinned by name: the form's constant. -/
def laid_unicode_utf8_first : DataW Unit := Go.Pinned.utf8First

/-- 'laws.FnExactMdlNew': WHATEVER THE INPUT: true; the input reads as it did. -/
def fnExactMdlNewSpec : ChangeSpec := { name := "fnExactMdlNew", fn := fun _ => fun
  | [d1, d2] => { results := [.lit (.bool true)], args := [d1, d2] }
  | _ => none }
def fnExactMdlNewRow : OpenClaim := { program := "ytnogkkcmcnhodaadoor", sum := "0d802c20c2ab4401e18015628f471bdcd272e203a6acfdf33abc00dd2307d30e", func := "loop.example/chartulary/laws.FnExactMdlNew", spec := "fnExactMdlNew", inPlace := ["internal/bytealg.CountString", "internal/bytealg.IndexByteString", "internal/bytealg.IndexString"], unfollowed := true, recurses := true, named := ["unicode/utf8.first", "unicode/utf8.acceptRanges", "internal/bytealg.MaxLen"], apart := false, laid := [("unicode/utf8.acceptRanges", laid_unicode_utf8_acceptRanges), ("unicode/utf8.first", laid_unicode_utf8_first)] }
def FnExactMdlNewSaid : Prop := fnExactMdlNewRow.holds Tryd.pinned (OpenSpec.ofChange fnExactMdlNewSpec)

/-- ITS FALSE NEIGHBOUR: 'it returns false'. Refute it at one input. -/
def fnExactMdlNewWrong : ChangeSpec := { name := "fnExactMdlNew", fn := fun _ => fun
  | [d1, d2] => { results := [.lit (.bool false)], args := [d1, d2] }
  | _ => none }
def FnExactMdlNewWrongFalsely : Prop := fnExactMdlNewRow.holds Tryd.pinned (OpenSpec.ofChange fnExactMdlNewWrong)

/-- 'laws.FnExactMdlOk': WHATEVER THE INPUT: true; the input reads as it did. -/
def fnExactMdlOkSpec : ChangeSpec := { name := "fnExactMdlOk", fn := fun _ => fun
  | [d] => { results := [.lit (.bool true)], args := [d] }
  | _ => none }
def fnExactMdlOkRow : OpenClaim := { program := "ytnogkkcmcnhodaadoor", sum := "0d802c20c2ab4401e18015628f471bdcd272e203a6acfdf33abc00dd2307d30e", func := "loop.example/chartulary/laws.FnExactMdlOk", spec := "fnExactMdlOk", inPlace := ["internal/bytealg.CountString", "internal/bytealg.IndexByteString", "internal/bytealg.IndexString"], unfollowed := true, recurses := true, named := ["unicode/utf8.first", "unicode/utf8.acceptRanges", "internal/bytealg.MaxLen"], apart := false, laid := [("unicode/utf8.acceptRanges", laid_unicode_utf8_acceptRanges), ("unicode/utf8.first", laid_unicode_utf8_first)] }
def FnExactMdlOkSaid : Prop := fnExactMdlOkRow.holds Tryd.pinned (OpenSpec.ofChange fnExactMdlOkSpec)

/-- ITS FALSE NEIGHBOUR: 'it returns false'. Refute it at one input. -/
def fnExactMdlOkWrong : ChangeSpec := { name := "fnExactMdlOk", fn := fun _ => fun
  | [d] => { results := [.lit (.bool false)], args := [d] }
  | _ => none }
def FnExactMdlOkWrongFalsely : Prop := fnExactMdlOkRow.holds Tryd.pinned (OpenSpec.ofChange fnExactMdlOkWrong)

/-- 'laws.FnExactHseNew': WHATEVER THE INPUT: true; the input reads as it did. -/
def fnExactHseNewSpec : ChangeSpec := { name := "fnExactHseNew", fn := fun _ => fun
  | [d1, d2] => { results := [.lit (.bool true)], args := [d1, d2] }
  | _ => none }
def fnExactHseNewRow : OpenClaim := { program := "ytnogkkcmcnhodaadoor", sum := "0d802c20c2ab4401e18015628f471bdcd272e203a6acfdf33abc00dd2307d30e", func := "loop.example/chartulary/laws.FnExactHseNew", spec := "fnExactHseNew", inPlace := ["internal/bytealg.CountString", "internal/bytealg.IndexByteString", "internal/bytealg.IndexString"], unfollowed := true, recurses := true, named := ["unicode/utf8.first", "unicode/utf8.acceptRanges", "internal/bytealg.MaxLen"], apart := false, laid := [("unicode/utf8.acceptRanges", laid_unicode_utf8_acceptRanges), ("unicode/utf8.first", laid_unicode_utf8_first)] }
def FnExactHseNewSaid : Prop := fnExactHseNewRow.holds Tryd.pinned (OpenSpec.ofChange fnExactHseNewSpec)

/-- ITS FALSE NEIGHBOUR: 'it returns false'. Refute it at one input. -/
def fnExactHseNewWrong : ChangeSpec := { name := "fnExactHseNew", fn := fun _ => fun
  | [d1, d2] => { results := [.lit (.bool false)], args := [d1, d2] }
  | _ => none }
def FnExactHseNewWrongFalsely : Prop := fnExactHseNewRow.holds Tryd.pinned (OpenSpec.ofChange fnExactHseNewWrong)

/- THE SECOND FORM. 'bulk': how many values and letters a reading holds, each counted each time it is reached (what is shared counts as often as it is met; a slice's spare places count too). A statement '..UptoSaid' is the law's where the arguments, and the package variables that the reading takes, are together of bulk at most 1048576: NARROWER than '..Said'. Prove '..Said' where nothing that the law and all that it calls make is longer than what came in: it says more and counts as full. Else prove '..UptoSaid'. A law counts once. -/
mutual
def uptoBulk {H : Type} : DataW H → Nat
  | .lit (.string bytes) => bytes.length + 1
  | .lit _ => 1
  | .nil => 1
  | .ptr d => uptoBulk d + 1
  | .slice elems spare => uptoBulkAll elems + uptoBulkAll spare + 1
  | .agg parts => uptoBulkAll parts + 1
  | .iface _ d => uptoBulk d + 1
  | .map entries => uptoBulkEntries entries + 1
  | .held _ => 1
def uptoBulkAll {H : Type} : List (DataW H) → Nat
  | [] => 0
  | d :: r => uptoBulk d + uptoBulkAll r
def uptoBulkEntries {H : Type} : List (Lit × DataW H) → Nat
  | [] => 0
  | x :: r => uptoBulkEntry x + uptoBulkEntries r
def uptoBulkEntry {H : Type} : Lit × DataW H → Nat
  | (.string bytes, d) => bytes.length + uptoBulk d + 1
  | (_, d) => uptoBulk d + 1
 end
def uptoSmall : (H : Type) → List (DataW H) → Bool := fun _ ds => decide (uptoBulkAll ds ≤ 1048576)
def OpenSpec.upto (s : _root_.Go.ChangeSpec) : _root_.Go.OpenSpec := { _root_.Go.OpenSpec.ofChange s with cond := some uptoSmall }

/-- 'laws.FnExactMdlNew', WHERE WHAT IT READS IS OF BULK AT MOST 1048576: true; the input reads as it did. -/
def fnExactMdlNewUptoRow : OpenClaim := { program := "ytnogkkcmcnhodaadoor", sum := "0d802c20c2ab4401e18015628f471bdcd272e203a6acfdf33abc00dd2307d30e", func := "loop.example/chartulary/laws.FnExactMdlNew", spec := "fnExactMdlNew", inPlace := ["internal/bytealg.CountString", "internal/bytealg.IndexByteString", "internal/bytealg.IndexString"], unfollowed := true, recurses := true, named := ["unicode/utf8.first", "unicode/utf8.acceptRanges", "internal/bytealg.MaxLen"], apart := false, laid := [("unicode/utf8.acceptRanges", laid_unicode_utf8_acceptRanges), ("unicode/utf8.first", laid_unicode_utf8_first)], narrowed := true }
def FnExactMdlNewUptoSaid : Prop := fnExactMdlNewUptoRow.holds Tryd.pinned (OpenSpec.upto fnExactMdlNewSpec)

/-- 'laws.FnExactMdlOk', WHERE WHAT IT READS IS OF BULK AT MOST 1048576: true; the input reads as it did. -/
def fnExactMdlOkUptoRow : OpenClaim := { program := "ytnogkkcmcnhodaadoor", sum := "0d802c20c2ab4401e18015628f471bdcd272e203a6acfdf33abc00dd2307d30e", func := "loop.example/chartulary/laws.FnExactMdlOk", spec := "fnExactMdlOk", inPlace := ["internal/bytealg.CountString", "internal/bytealg.IndexByteString", "internal/bytealg.IndexString"], unfollowed := true, recurses := true, named := ["unicode/utf8.first", "unicode/utf8.acceptRanges", "internal/bytealg.MaxLen"], apart := false, laid := [("unicode/utf8.acceptRanges", laid_unicode_utf8_acceptRanges), ("unicode/utf8.first", laid_unicode_utf8_first)], narrowed := true }
def FnExactMdlOkUptoSaid : Prop := fnExactMdlOkUptoRow.holds Tryd.pinned (OpenSpec.upto fnExactMdlOkSpec)

/-- 'laws.FnExactHseNew', WHERE WHAT IT READS IS OF BULK AT MOST 1048576: true; the input reads as it did. -/
def fnExactHseNewUptoRow : OpenClaim := { program := "ytnogkkcmcnhodaadoor", sum := "0d802c20c2ab4401e18015628f471bdcd272e203a6acfdf33abc00dd2307d30e", func := "loop.example/chartulary/laws.FnExactHseNew", spec := "fnExactHseNew", inPlace := ["internal/bytealg.CountString", "internal/bytealg.IndexByteString", "internal/bytealg.IndexString"], unfollowed := true, recurses := true, named := ["unicode/utf8.first", "unicode/utf8.acceptRanges", "internal/bytealg.MaxLen"], apart := false, laid := [("unicode/utf8.acceptRanges", laid_unicode_utf8_acceptRanges), ("unicode/utf8.first", laid_unicode_utf8_first)], narrowed := true }
def FnExactHseNewUptoSaid : Prop := fnExactHseNewUptoRow.holds Tryd.pinned (OpenSpec.upto fnExactHseNewSpec)

end Rows
end Go.Proofs.YtnogkkcmcnhodaaDoor
