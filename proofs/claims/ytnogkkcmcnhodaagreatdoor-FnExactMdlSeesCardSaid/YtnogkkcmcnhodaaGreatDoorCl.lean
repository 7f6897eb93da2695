/- Walks: clones of flat slices; of the reference and of the program. -/
import Derived.Test.YtnogkkcmcnhodaaGreatDoorApp
namespace Go.Proofs.YtnogkkcmcnhodaaGreatDoor
open Go.RowKit
attribute [local go_sem ↓] Go.wp_at_zero Go.wp_at_succ
theorem infoC_Rule : (Tryz.prog.info? 44).map (fun i => (i.zero, i.size, i.bytes)) = some (some (.agg #[.int .i64 0, .string ByteArray.empty, .string ByteArray.empty, .bool false]), 4, 48) := by kernel_rfl
theorem infoC_File : (Tryz.prog.info? 104).map (fun i => (i.zero, i.size, i.bytes)) = some (some (.agg #[.string ByteArray.empty, .string ByteArray.empty]), 2, 32) := by kernel_rfl
theorem infoC_Int : (Tryz.prog.info? 3).map (fun i => (i.zero, i.size, i.bytes)) = some (some (.int .i64 0), 1, 8) := by kernel_rfl

set_option maxHeartbeats 1000000 in
theorem cloneRules_any {A : Option Addr} {n c : Nat} {l : List Rule} {fp : List Nat} (w : World) (hx : SlR Rp.rule w A n c l fp) (hl : l.length ≤ 4194304) :
    Calls Tryz.prog 102 #[.slice A n c] w (OwnF 44 4 encRule w l) := by
  have HX := hide hx
  have hn := hx.1
  subst hn
  clear hx
  obtain ⟨i0, hi, hz0, hz1, hz2⟩ := info_parts infoC_Rule
  go_enter Tryz.func102, Tryz.ntmps102
  go_wp2_with (at_builtin; refine wpList_append_all (r := Rp.rule) rfl _ _ 93 rfl w.heap.size 44 i0 _ 48 Tryz.underlying93 hi hz0 hz1 hz2 rfl (by decide) (.slice none 0 0) 0 [] rfl (World.ownsRow_nil _ _ _ _) rfl HX.out (by unfold maxLen; omega) (by omega) (by simp) ?_)
  intro v' w1 zs f1 hal _ hown hgrow
  obtain ⟨rfl, _⟩ := AllR.flat.1 hal
  go_wp2
  go_ret
  exact ⟨_, rfl, hown, (Below.refl _ _).grown hgrow (Nat.le_refl _) (fun j hj => by cases hj)⟩

set_option maxHeartbeats 1000000 in
theorem cloneFiles_any {A : Option Addr} {n c : Nat} {l : List File} {fp : List Nat} (w : World) (hx : SlR Rp.file w A n c l fp) (hl : l.length ≤ 4194304) :
    Calls Tryz.prog 66 #[.slice A n c] w (OwnF 104 2 encFile w l) := by
  have HX := hide hx
  have hn := hx.1
  subst hn
  clear hx
  obtain ⟨i0, hi, hz0, hz1, hz2⟩ := info_parts infoC_File
  go_enter Tryz.func66, Tryz.ntmps66
  go_wp2_with (at_builtin; refine wpList_append_all (r := Rp.file) rfl _ _ 36 rfl w.heap.size 104 i0 _ 32 Tryz.underlying36 hi hz0 hz1 hz2 rfl (by decide) (.slice none 0 0) 0 [] rfl (World.ownsRow_nil _ _ _ _) rfl HX.out (by unfold maxLen; omega) (by omega) (by simp) ?_)
  intro v' w1 zs f1 hal _ hown hgrow
  obtain ⟨rfl, _⟩ := AllR.flat.1 hal
  go_wp2
  go_ret
  exact ⟨_, rfl, hown, (Below.refl _ _).grown hgrow (Nat.le_refl _) (fun j hj => by cases hj)⟩

set_option maxHeartbeats 1000000 in
theorem cloneInts_any {A : Option Addr} {n c : Nat} {l : List Int} {fp : List Nat} (w : World) (hx : SlR Rp.int w A n c l fp) (hl : l.length ≤ 4194304) :
    Calls Tryz.prog 101 #[.slice A n c] w (OwnF 3 1 (fun n => [.int .i64 n]) w l) := by
  have HX := hide hx
  have hn := hx.1
  subst hn
  clear hx
  obtain ⟨i0, hi, hz0, hz1, hz2⟩ := info_parts infoC_Int
  go_enter Tryz.func101, Tryz.ntmps101
  go_wp2_with (at_builtin; refine wpList_append_all (r := Rp.int) rfl _ _ 22 rfl w.heap.size 3 i0 _ 8 Tryz.underlying22 hi hz0 hz1 hz2 rfl (by decide) (.slice none 0 0) 0 [] rfl (World.ownsRow_nil _ _ _ _) rfl HX.out (by unfold maxLen; omega) (by omega) (by simp) ?_)
  intro v' w1 zs f1 hal _ hown hgrow
  obtain ⟨rfl, _⟩ := AllR.flat.1 hal
  go_wp2
  go_ret
  exact ⟨_, rfl, hown, (Below.refl _ _).grown hgrow (Nat.le_refl _) (fun j hj => by cases hj)⟩

set_option maxHeartbeats 1000000 in
theorem l4Copy_any {A : Option Addr} {n c : Nat} {l : List File} {fp : List Nat} (w : World) (hx : SlR Rp.file w A n c l fp) (hl : l.length ≤ 4194304) :
    Calls Tryz.prog 64 #[.slice A n c] w (OwnF 104 2 encFile w l) := by
  have HX := hide hx
  have hn := hx.1
  subst hn
  clear hx
  obtain ⟨i0, hi, hz0, hz1, hz2⟩ := info_parts infoC_File
  go_enter Tryz.func64, Tryz.ntmps64
  go_wp2_with (at_builtin; refine wpList_append_all (r := Rp.file) rfl _ _ 36 rfl w.heap.size 104 i0 _ 32 Tryz.underlying36 hi hz0 hz1 hz2 rfl (by decide) _ 0 [] rfl (World.ownsRow_made w #[] 0 (Nat.le_refl _) (by simp [maxLen]) rfl) rfl (HX.out.allocN _) (by unfold maxLen; omega) (by omega) (by simp) ?_)
  intro v' w1 zs f1 hal _ hown hgrow
  obtain ⟨rfl, _⟩ := AllR.flat.1 hal
  go_wp2
  go_ret
  exact ⟨_, rfl, hown, ((Below.refl _ _).alloc (Nat.le_refl _) _).grown hgrow (by simp) (fun j hj => by simp [Value.ownBlock] at hj; omega)⟩
end Go.Proofs.YtnogkkcmcnhodaaGreatDoor
