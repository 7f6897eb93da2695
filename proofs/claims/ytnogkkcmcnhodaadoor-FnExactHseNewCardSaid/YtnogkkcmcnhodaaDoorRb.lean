/- Walks: who may, who sees; of the reference and of the program. -/
import Derived.Test.YtnogkkcmcnhodaaDoorRa
namespace Go.Proofs.YtnogkkcmcnhodaaDoor
open Go.RowKit
attribute [local go_sem ↓] Go.wp_at_zero Go.wp_at_succ

def mayB (user : Int) (ref path : ByteArray) (write : Bool) (r : Rule) : Bool := forB r user ref && pthUnder r.path path && (r.write || !write)
def rulMay (l : List Rule) (user : Int) (ref path : ByteArray) (write : Bool) : Bool := l.any (mayB user ref path write)
def rulSees (l : List Rule) (user : Int) (ref : ByteArray) : Bool := l.any fun r => forB r user ref
def fitRules (l : List Rule) : Prop := ∀ i (h : i < l.length), fitRule l[i]

theorem makeFunc_run (fn : Fn) (first cap : Array Value) (w : World) : (Instr.makeFunc fn first cap).run Tryd.prog w = .ok (.func fn first cap) w := rfl

end Go.Proofs.YtnogkkcmcnhodaaDoor
