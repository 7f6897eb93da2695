/- Walks: clones of flat slices; of the reference and of the program. -/
import Derived.Test.YthopednilgncgaaDoorApp
namespace Go.Proofs.YthopednilgncgaaDoor
open Go.RowKit
attribute [local go_sem ↓] Go.wp_at_zero Go.wp_at_succ
theorem infoC_Rule : (Tryd.prog.info? 25).map (fun i => (i.zero, i.size, i.bytes)) = some (some (.agg #[.int .i64 0, .string ByteArray.empty, .string ByteArray.empty, .bool false]), 4, 48) := by kernel_rfl
theorem infoC_File : (Tryd.prog.info? 199).map (fun i => (i.zero, i.size, i.bytes)) = some (some (.agg #[.string ByteArray.empty, .string ByteArray.empty]), 2, 32) := by kernel_rfl
theorem infoC_Int : (Tryd.prog.info? 3).map (fun i => (i.zero, i.size, i.bytes)) = some (some (.int .i64 0), 1, 8) := by kernel_rfl

set_option maxHeartbeats 1000000 in
theorem cloneRules_any {A : Option Addr} {n c : Nat} {l : List Rule} {fp : List Nat} (w : World) (hx : SlR Rp.rule w A n c l fp) (hl : l.length ≤ 4194304) :
    Calls Tryd.prog 45 #[.slice A n c] w (OwnF 25 4 encRule w l) := by
  have HX := hide hx
  have hn := hx.1
  subst hn
  clear hx
  obtain ⟨i0, hi, hz0, hz1, hz2⟩ := info_parts infoC_Rule
  go_enter Tryd.func45, Tryd.ntmps45
  go_wp2_with (at_builtin; refine wpList_append_all (r := Rp.rule) rfl _ _ 23 rfl w.heap.size 25 i0 _ 48 Tryd.underlying23 hi hz0 hz1 hz2 rfl (by decide) (.slice none 0 0) 0 [] rfl (World.ownsRow_nil _ _ _ _) rfl HX.out (by unfold maxLen; omega) (by omega) (by simp) ?_)
  intro v' w1 zs f1 hal _ hown hgrow
  obtain ⟨rfl, _⟩ := AllR.flat.1 hal
  go_wp2
  go_ret
  exact ⟨_, rfl, hown, (Below.refl _ _).grown hgrow (Nat.le_refl _) (fun j hj => by cases hj)⟩

end Go.Proofs.YthopednilgncgaaDoor
