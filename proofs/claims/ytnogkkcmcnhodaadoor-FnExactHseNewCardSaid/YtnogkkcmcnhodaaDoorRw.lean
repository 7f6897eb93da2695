/- Walks: ReqWrites, of the reference and of the program. -/
import Derived.Test.YtnogkkcmcnhodaaDoorBase
namespace Go.Proofs.YtnogkkcmcnhodaaDoor
open Go.RowKit
attribute [local go_sem ↓] Go.wp_at_zero Go.wp_at_succ

def reqWrites (r : Req) : Bool := r.kind == 1 || r.kind == 9 || r.kind == 10

end Go.Proofs.YtnogkkcmcnhodaaDoor
