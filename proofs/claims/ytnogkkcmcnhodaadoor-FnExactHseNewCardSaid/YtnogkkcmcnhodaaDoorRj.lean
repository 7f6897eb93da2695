/- Walks: edits that are ok; of the program. -/
import Derived.Test.YtnogkkcmcnhodaaDoorRa
import Derived.Test.YtnogkkcmcnhodaaDoorQ
namespace Go.Proofs.YtnogkkcmcnhodaaDoor
open Go.RowKit
attribute [local go_sem ↓] Go.wp_at_zero Go.wp_at_succ

def editOk (e : Edit) : Bool := pthOk e.path && !decide (e.path = ByteArray.empty) && decide (e.bytes.size ≤ 6) && (!e.gone || decide (e.bytes = ByteArray.empty))
def fitEdit (e : Edit) : Prop := e.path.size ≤ 4194304

end Go.Proofs.YtnogkkcmcnhodaaDoor
