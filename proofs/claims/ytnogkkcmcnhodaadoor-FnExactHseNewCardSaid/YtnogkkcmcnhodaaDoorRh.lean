/- Walks: a rule more; of the reference. -/
import Derived.Test.YtnogkkcmcnhodaaDoorRg
namespace Go.Proofs.YtnogkkcmcnhodaaDoor
open Go.RowKit
attribute [local go_sem ↓] Go.wp_at_zero Go.wp_at_succ

end Go.Proofs.YtnogkkcmcnhodaaDoor
