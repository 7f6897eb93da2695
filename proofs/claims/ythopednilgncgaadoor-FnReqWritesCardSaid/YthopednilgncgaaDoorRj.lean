/- Walks: edits that are ok; of the program. -/
import Derived.Test.YthopednilgncgaaDoorRa
import Derived.Test.YthopednilgncgaaDoorQ
namespace Go.Proofs.YthopednilgncgaaDoor
open Go.RowKit
attribute [local go_sem ↓] Go.wp_at_zero Go.wp_at_succ

def editOk (e : Edit) : Bool := pthOk e.path && !decide (e.path = ByteArray.empty) && decide (e.bytes.size ≤ 6) && (!e.gone || decide (e.bytes = ByteArray.empty))
def fitEdit (e : Edit) : Prop := e.path.size ≤ 4194304

theorem small_any (n : Int) (w : World) :
    Calls Tryd.prog 57 #[.int .i64 n] w fun e w' => e = .returned (.bool (inB n 0 99)) ∧ Below w.heap.size w w' := by
  go_enter Tryd.func57, Tryd.ntmps57
  go_wp2_with fail
  refine (implIn_any _ _ _ _).mono ?_
  rintro e w1 ⟨rfl, hb1⟩
  go_wp2
  go_ret
  exact ⟨rfl, hb1⟩

set_option maxHeartbeats 1000000 in
theorem editOk_any (x : Edit) (hf : fitEdit x) (w : World) :
    Calls Tryd.prog 63 #[.agg (encEdit x).toArray] w fun e w' => e = .returned (.bool (editOk x)) ∧ Below w.heap.size w w' := by
  obtain ⟨path, bytes, gone⟩ := x
  have HF := hide hf
  clear hf
  rw [show (encEdit ⟨path, bytes, gone⟩).toArray = #[.string path, .string bytes, .bool gone] from rfl]
  go_enter Tryd.func63, Tryd.ntmps63
  go_wp2_with fail
  refine (implPthOk_any path HF.out _).mono ?_
  rintro e w1 ⟨rfl, hb1⟩
  have k1 := (Blk.new w _ _).step hb1
  have c0 : w1.cell? ⟨w.heap.size, 0, none⟩ = some (.string path) := k1.cell 0
  have c1 : w1.cell? ⟨w.heap.size, 1, none⟩ = some (.string bytes) := k1.cell 1
  have c2 : w1.cell? ⟨w.heap.size, 2, none⟩ = some (.bool gone) := k1.cell 2
  have HB1 := Below.box1 hb1
  clear hb1 k1
  cases h1 : pthOk path
  · go_wp2
    go_ret
    exact ⟨ret_bool (by simp [editOk, h1]), HB1⟩
  · have H1 := hide h1
    clear h1
    cases h2 : path.toList.isEmpty <;> cases h3 : bytes.toList.isEmpty <;> cases gone
    all_goals
      go_wp2
      all_goals
        go_ret
        refine ⟨ret_bool ?_, HB1⟩
        rw [isEmpty_eq] at h2 h3
        have e1 := H1.out
        clear H1 HF
        simp_all [editOk]
        try omega
end Go.Proofs.YthopednilgncgaaDoor
