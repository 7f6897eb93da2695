/- Walks: a rule more; of the reference and of the program. -/
import Derived.Test.YtnogkkcmcnhodaaDoorRf
namespace Go.Proofs.YtnogkkcmcnhodaaDoor
open Go.RowKit
attribute [local go_sem ↓] Go.wp_at_zero Go.wp_at_succ

def putOk (l : List Rule) (r : Rule) : Bool := rulListOk l && rulOk r && !(decide (l.length = 6)) && !(l.any fun x => decide (x = r))
def rulPut (l : List Rule) (r : Rule) : List Rule := if putOk l r then l ++ [r] else l
/-- Two results: a slice of rules that the call owns, and a Bool. -/
def OwnFB {α : Type} (t : TypeId) (k : Nat) (enc : α → List Value) (w : World) (l : List α) (b : Bool) (e : Ending) (w' : World) : Prop :=
  ∃ v, e = .returned (.tuple #[v, .bool b]) ∧ w'.ownsRow w.heap.size t k v l.length (l.flatMap enc) ∧ Below w.heap.size w w'

theorem own_base {w : World} {base base' size n : Nat} {e : TypeId} {v : Value} {xs : List Value} (h : w.ownsRow base e size v n xs) (hb : base' ≤ base) : w.ownsRow base' e size v n xs :=
  ⟨h.1, h.2.elim Or.inl (fun ⟨g, cap, cur, hv, hg, r⟩ => Or.inr ⟨g, cap, cur, hv, Nat.le_trans hb hg, r⟩)⟩
theorem own_step {w w1 : World} {base size n : Nat} {e : TypeId} {v : Value} {xs : List Value} (h : w.ownsRow base e size v n xs) (hb : Below w.heap.size w w1) : w1.ownsRow base e size v n xs :=
  ⟨h.1, h.2.elim Or.inl (fun ⟨g, cap, cur, hv, hg, hc, r⟩ => Or.inr ⟨g, cap, cur, hv, hg, (hb.block g (Array.getElem?_eq_some_iff.1 hc).1).trans hc, r⟩)⟩

end Go.Proofs.YtnogkkcmcnhodaaDoor
