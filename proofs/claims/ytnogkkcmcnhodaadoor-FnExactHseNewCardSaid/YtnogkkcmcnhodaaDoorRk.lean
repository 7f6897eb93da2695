/- Walks: requests that are ok, of the program. By program (wip/gen/gen_reqok.py). -/
import Derived.Test.YtnogkkcmcnhodaaDoorRj
namespace Go.Proofs.YtnogkkcmcnhodaaDoor
open Go.RowKit
attribute [local go_sem ↓] Go.wp_at_zero Go.wp_at_succ

def reqOk (x : Req) : Bool := inB x.user 0 99 && inB x.repo 0 99 && inB x.old 0 99 && inB x.back 0 99 && inB x.frm 0 99 && inB x.key 0 9999 && inB x.kind 1 11 && refFits x.ref && refFits x.other && pthOk x.path && rulOk x.rule && decide (x.edits.length ≤ 4) && !(x.edits.any fun e => !editOk e)
structure fitReq (x : Req) : Prop where
  ref : x.ref.size ≤ 4194304
  other : x.other.size ≤ 4194304
  path : x.path.size ≤ 4194304
  rule : fitRule x.rule
  edits : ∀ i (h : i < x.edits.length), fitEdit x.edits[i]

end Go.Proofs.YtnogkkcmcnhodaaDoor
