/- Walks of the laws' own functions on data. By program (wip/gen/gen_walk.py): to:Req -/
import Derived.Test.YtbbfgfnkbbecoaaW1
namespace Go.Proofs.Ytbbfgfnkbbecoaa
open Go.RowKit
attribute [local go_sem ↓] Go.wp_at_zero Go.wp_at_succ

set_option maxHeartbeats 2000000 in
theorem toReq_any {cs : List Value} {x : Req} {fx : List Nat} (w : World) (hx : Rp.req.R w cs x fx) (hsz : szReq x ≤ 1048576) :
    Calls Try.prog 14 #[.agg cs.toArray] w (FreshR Rp.req w x) := by
  obtain ⟨A0, n0, c0, f0, rfl, _, h0⟩ := hx
  unfold szReq at hsz
  have hbx0 : w.heap.size + 2 ∉ f0 := fun h => by have := h0.lt _ h; omega
  have HS0 := h0
  go_enter Try.func14, Try.ntmps14
  go_wp2_with fail
  refine (toEditS_any (x := x.edits) _ (by exact (((h0.allocN _).allocN _).allocN _)) (by unfold szL at hsz; omega)).mono ?_
  rintro e w1 ⟨B0, m0, d0, q0, rfl, hR0, hq0, hlo0, hfr0, hb1⟩
  have HB1 := Below.box3 hb1
  obtain ⟨hcc1, hff1⟩ := bcell hb1
  have hz1 : w.heap.size + 1 + 1 < w1.heap.size := by have := hb1.size; simp at this; omega
  have hy1 : w.heap.size + 1 < w1.heap.size := by omega
  have hx1 : w.heap.size < w1.heap.size := by omega
  have hl0 : ∀ b ∈ q0, w.heap.size + 3 ≤ b := fun b hb => by have := hlo0 b hb; simp at this; omega
  have hqx0 : w.heap.size + 2 ∉ q0 := fun h => by have := hl0 _ h; omega
  have hqy0 : w.heap.size + 1 ∉ q0 := fun h => by have := hl0 _ h; omega
  clear hb1
  go_wp2_with fail
  refine (toRule_any x.rule _).mono ?_
  rintro e w2 ⟨rfl, hb2⟩; simp only [encRule]
  have HB2 := Below.then_ (Below.setCell (p := ⟨w.heap.size + 1 + 1, 8, none⟩) HB1 (Nat.le_add_right w.heap.size 2) _) hb2
  have r2_0 := (hR0.putN hqx0 _).step hb2
  have fr2_0 := Free.step (Free.putN hfr0) hb2
  obtain ⟨hcc2, hff2⟩ := bcell hb2
  have hz2 : w.heap.size + 1 + 1 < w2.heap.size := by have := hb2.size; simp only [World.size_setCell] at this; omega
  have hy2 : w.heap.size + 1 < w2.heap.size := by omega
  have hx2 : w.heap.size < w2.heap.size := by omega
  clear hb2
  go_wp2
  refine bodyPost_ret (v := .agg [.int .i64 x.user, .int .i64 x.key, .int .i64 x.repo, .int .i64 x.kind, .string x.ref, .string x.path, .int .i64 x.old, .int .i64 x.back, .slice B0 m0 d0, .int .i64 x.rule.user, .string x.rule.ref, .string x.rule.path, .bool x.rule.write, .int .i64 x.frm, .string x.other].toArray) (by simp [results, Try.results14, go_sem, hcc1, hz1, hy1, hx1, hcc2, hz2, hy2, hx2]) rfl ?_
  refine ⟨_, q0, rfl, ⟨B0, m0, d0, q0, rfl, rfl, by exact (((((((((((((((((((((r2_0.putN hqx0 _).putN hqx0 _).putN hqx0 _).putN hqx0 _).putN hqx0 _).putN hqx0 _).putN hqy0 _).putN hqy0 _).putN hqy0 _).putN hqy0 _).putN hqy0 _).putN hqy0 _).putN hqy0 _).putN hqy0 _).putN hqy0 _).putN hqy0 _).putN hqy0 _).putN hqy0 _).putN hqy0 _).putN hqy0 _).putN hqy0 _)⟩, ?_, ?_, ?_, ?_⟩
  · exact hq0
  · exact fun b hb => by have := hl0 b hb; omega
  · exact (Free.putN (Free.putN (Free.putN (Free.putN (Free.putN (Free.putN (Free.putN (Free.putN (Free.putN (Free.putN (Free.putN (Free.putN (Free.putN (Free.putN (Free.putN (Free.putN (Free.putN (Free.putN (Free.putN (Free.putN (Free.putN fr2_0)))))))))))))))))))))
  · exact (Below.setCell (p := ⟨w.heap.size + 1, 14, none⟩) (Below.setCell (p := ⟨w.heap.size + 1, 13, none⟩) (Below.setCell (p := ⟨w.heap.size + 1, 12, none⟩) (Below.setCell (p := ⟨w.heap.size + 1, 11, none⟩) (Below.setCell (p := ⟨w.heap.size + 1, 10, none⟩) (Below.setCell (p := ⟨w.heap.size + 1, 9, none⟩) (Below.setCell (p := ⟨w.heap.size + 1, 8, none⟩) (Below.setCell (p := ⟨w.heap.size + 1, 7, none⟩) (Below.setCell (p := ⟨w.heap.size + 1, 6, none⟩) (Below.setCell (p := ⟨w.heap.size + 1, 5, none⟩) (Below.setCell (p := ⟨w.heap.size + 1, 4, none⟩) (Below.setCell (p := ⟨w.heap.size + 1, 3, none⟩) (Below.setCell (p := ⟨w.heap.size + 1, 2, none⟩) (Below.setCell (p := ⟨w.heap.size + 1, 1, none⟩) (Below.setCell (p := ⟨w.heap.size + 1, 0, none⟩) (Below.setCell (p := ⟨w.heap.size + 1 + 1, 14, none⟩) (Below.setCell (p := ⟨w.heap.size + 1 + 1, 13, none⟩) (Below.setCell (p := ⟨w.heap.size + 1 + 1, 12, none⟩) (Below.setCell (p := ⟨w.heap.size + 1 + 1, 11, none⟩) (Below.setCell (p := ⟨w.heap.size + 1 + 1, 10, none⟩) (Below.setCell (p := ⟨w.heap.size + 1 + 1, 9, none⟩) HB2 (Nat.le_add_right w.heap.size 2) _) (Nat.le_add_right w.heap.size 2) _) (Nat.le_add_right w.heap.size 2) _) (Nat.le_add_right w.heap.size 2) _) (Nat.le_add_right w.heap.size 2) _) (Nat.le_add_right w.heap.size 2) _) (Nat.le_add_right w.heap.size 1) _) (Nat.le_add_right w.heap.size 1) _) (Nat.le_add_right w.heap.size 1) _) (Nat.le_add_right w.heap.size 1) _) (Nat.le_add_right w.heap.size 1) _) (Nat.le_add_right w.heap.size 1) _) (Nat.le_add_right w.heap.size 1) _) (Nat.le_add_right w.heap.size 1) _) (Nat.le_add_right w.heap.size 1) _) (Nat.le_add_right w.heap.size 1) _) (Nat.le_add_right w.heap.size 1) _) (Nat.le_add_right w.heap.size 1) _) (Nat.le_add_right w.heap.size 1) _) (Nat.le_add_right w.heap.size 1) _) (Nat.le_add_right w.heap.size 1) _)

end Go.Proofs.Ytbbfgfnkbbecoaa
