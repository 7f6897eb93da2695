/- Walks: ReqWrites, of the reference and of the program. -/
import Derived.Test.YthopednilgncgaaDoorBase
namespace Go.Proofs.YthopednilgncgaaDoor
open Go.RowKit
attribute [local go_sem ↓] Go.wp_at_zero Go.wp_at_succ

def reqWrites (r : Req) : Bool := r.kind == 1 || r.kind == 9 || r.kind == 10

set_option maxHeartbeats 1000000 in
theorem specReqWrites_any {cs : List Value} {x : Req} {fx : List Nat} (w : World) (hx : Rp.req.R w cs x fx) :
    Calls Tryd.prog 24 #[.agg cs.toArray] w fun e w' => e = .returned (.bool (reqWrites x)) ∧ Below w.heap.size w w' := by
  obtain ⟨A0, n0, c0, f0, rfl, _, h0⟩ := hx
  go_enter Tryd.func24, Tryd.ntmps24
  go_wp2
  all_goals (go_ret; exact ⟨ret_bool (by simp_all [reqWrites]), (Below.refl _ _).alloc (Nat.le_refl _) _⟩)

set_option maxHeartbeats 1000000 in
theorem implReqWrites_any {cs : List Value} {x : Req} {fx : List Nat} (w : World) (hx : Rp.req.R w cs x fx) :
    Calls Tryd.prog 23 #[.agg cs.toArray] w fun e w' => e = .returned (.bool (reqWrites x)) ∧ Below w.heap.size w w' := by
  obtain ⟨A0, n0, c0, f0, rfl, _, h0⟩ := hx
  go_enter Tryd.func23, Tryd.ntmps23
  go_wp2
  all_goals (go_ret; exact ⟨ret_bool (by simp_all [reqWrites]), (Below.refl _ _).alloc (Nat.le_refl _) _⟩)

end Go.Proofs.YthopednilgncgaaDoor
