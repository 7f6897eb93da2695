/- Walks of the laws' own functions on data. By program (wip/gen/gen_walk.py): to:Rule to:Edit to:EditS to:Req -/
import Derived.Test.YthopednilgncgaaDoorBase
namespace Go.Proofs.YthopednilgncgaaDoor
open Go.RowKit
attribute [local go_sem ↓] Go.wp_at_zero Go.wp_at_succ

set_option maxHeartbeats 1000000 in
theorem toRule_any (x : Rule) (w : World) :
    Calls Tryd.prog 32 #[.agg (encRule x).toArray] w fun e w' => e = .returned (.agg (encRule x).toArray) ∧ Below w.heap.size w w' := by
  unfold encRule
  go_enter Tryd.func32, Tryd.ntmps32
  go_wp2
  exact bodyPost_ret (v := .agg (encRule x).toArray) (by simp [results, Tryd.results32, go_sem, encRule]) rfl ⟨rfl, (by repeat (first | exact Below.refl _ _ | assumption | refine Below.alloc ?_ (by simp <;> omega) _ | refine Below.drew ?_))⟩

set_option maxHeartbeats 1000000 in
theorem toEdit_any (x : Edit) (w : World) :
    Calls Tryd.prog 93 #[.agg (encEdit x).toArray] w fun e w' => e = .returned (.agg (encEdit x).toArray) ∧ Below w.heap.size w w' := by
  unfold encEdit
  go_enter Tryd.func93, Tryd.ntmps93
  go_wp2
  exact bodyPost_ret (v := .agg (encEdit x).toArray) (by simp [results, Tryd.results93, go_sem, encEdit]) rfl ⟨rfl, (by repeat (first | exact Below.refl _ _ | assumption | refine Below.alloc ?_ (by simp <;> omega) _ | refine Below.drew ?_))⟩

theorem info_84_WT : (Tryd.prog.info? 84).map (fun i => (i.zero, i.size, i.bytes)) = some (some (.agg #[.string ByteArray.empty, .string ByteArray.empty, .bool false]), 3, 40) := by kernel_rfl
set_option maxHeartbeats 1000000 in
theorem toEditS_any {A : Option Addr} {n c : Nat} {x : List (Edit)} {fx : List Nat} (w : World) (hx : SlR Rp.edit w A n c x fx) (hl : x.length ≤ 1048576) :
    Calls Tryd.prog 69 #[.slice A n c] w (FreshS Rp.edit w x) := by
  obtain ⟨rfl, hcx, hmx, _⟩ := id hx
  unfold maxLen at hmx
  obtain ⟨i0, hi, hz0, hz1, hz2⟩ := info_parts info_84_WT
  go_enter Tryd.func69, Tryd.ntmps69
  go_wp2_with (at_make; refine wpList_make_full _ rfl _ _ 38 rfl w.heap.size 84 i0 _ 3 Tryd.underlying38 hi hz0 hz1 .i64 .i64 _ _ x.length rfl rfl rfl rfl (by rw [hz2]; omega) (by unfold maxLen; omega) (Nat.le_refl _) ?_)
  intro w0 hown hgrow
  have hT : ToRel Rp.edit w x zeroEdit (some ⟨w.heap.size, 0, none⟩) 0 w0 := ToRel.start (fun _ => ⟨rfl, rfl⟩) hown ((Below.refl _ _).grown hgrow (Nat.le_refl _) (fun k h => by cases h))
  clear hown hgrow
  generalize hG : (some ⟨w.heap.size, 0, none⟩ : Option Addr) = G at hT ⊢
  clear hG
  go_wp2
  go_loopw [4] (fun i wr => ∃ k : Nat, k ≤ x.length ∧ i = .int .i64 k ∧ ToRel Rp.edit w x zeroEdit G k wr) (fun i _ => x.length - (intOf i).toNat)
  case atStart => exact ⟨0, Nat.zero_le _, rfl, hT⟩
  case round =>
    obtain ⟨k, hk, rfl, hrel⟩ := hrel
    by_cases hlt : k < x.length
    · obtain ⟨g, go, cz, rfl, hzl, hst, hbl, hcl⟩ := hrel.next hlt
      obtain ⟨b, o, rfl, hb, hm, h0, h1, h2⟩ := edit_cells (hx.below hbl (Nat.le_refl _)) hlt
      have hkk : Rp.edit.k = 3 := rfl
      rw [hkk] at hzl hcl
      simp only [hkk] at hst hcl
      match cz, hzl with
      | [t0, t1, t2], _ =>
        clear hzl
        go_wp2_with fail
        refine (toEdit_any x[k] _).mono ?_; rintro e w1 ⟨rfl, hb1⟩; simp only [encEdit]
        obtain ⟨hcz, hfz⟩ := hst w1 hb1
        have z0 : w1.cell? ⟨g, go + k * 3, none⟩ = some t0 := hcz.at0; have z1 : w1.cell? ⟨g, go + k * 3 + 1, none⟩ = some t1 := hcz.tail.at0; have z2 : w1.cell? ⟨g, go + k * 3 + 2, none⟩ = some t2 := hcz.tail.tail.at0
        have y0 := hfz (go + k * 3); have y1 := hfz (go + k * 3 + 1); have y2 := hfz (go + k * 3 + 2)
        clear hcz hst
        go_wp2
        refine ⟨⟨k + 1, by omega, by go_num, ?_⟩, by simp [intOf]; omega⟩
        exact hcl w1 (encEdit x[k]) [] hb1 ⟨rfl, rfl⟩ List.nodup_nil (by simp) (Free.nil _)
    · have hk' : k = x.length := by omega
      subst hk'
      go_wp2
      go_ret
      exact hrel.finish

set_option maxHeartbeats 2000000 in
theorem toReq_any {cs : List Value} {x : Req} {fx : List Nat} (w : World) (hx : Rp.req.R w cs x fx) (hsz : szReq x ≤ 1048576) :
    Calls Tryd.prog 28 #[.agg cs.toArray] w (FreshR Rp.req w x) := by
  obtain ⟨A0, n0, c0, f0, rfl, _, h0⟩ := hx
  unfold szReq at hsz
  have hbx0 : w.heap.size + 2 ∉ f0 := fun h => by have := h0.lt _ h; omega
  have HS0 := h0
  go_enter Tryd.func28, Tryd.ntmps28
  go_wp2_with fail
  refine (toEditS_any (x := x.edits) _ (by exact (((h0.allocN _).allocN _).allocN _)) (by unfold szL at hsz; omega)).mono ?_
  rintro e w1 ⟨B0, m0, d0, q0, rfl, hR0, hq0, hlo0, hfr0, hb1⟩
  have HB1 := Below.box3 hb1
  obtain ⟨hcc1, hff1⟩ := bcell hb1
  have hz1 : w.heap.size + 1 + 1 < w1.heap.size := by have := hb1.size; simp at this; omega
  have hy1 : w.heap.size + 1 < w1.heap.size := by omega
  have hx1 : w.heap.size < w1.heap.size := by omega
  have hl0 : ∀ b ∈ q0, w.heap.size + 3 ≤ b := fun b hb => by have := hlo0 b hb; simp at this; omega
  have hqx0 : w.heap.size + 2 ∉ q0 := fun h => by have := hl0 _ h; omega
  have hqy0 : w.heap.size + 1 ∉ q0 := fun h => by have := hl0 _ h; omega
  clear hb1
  go_wp2_with fail
  refine (toRule_any x.rule _).mono ?_
  rintro e w2 ⟨rfl, hb2⟩; simp only [encRule]
  have HB2 := Below.then_ (Below.setCell (p := ⟨w.heap.size + 1 + 1, 8, none⟩) HB1 (Nat.le_add_right w.heap.size 2) _) hb2
  have r2_0 := (hR0.putN hqx0 _).step hb2
  have fr2_0 := Free.step (Free.putN hfr0) hb2
  obtain ⟨hcc2, hff2⟩ := bcell hb2
  have hz2 : w.heap.size + 1 + 1 < w2.heap.size := by have := hb2.size; simp only [World.size_setCell] at this; omega
  have hy2 : w.heap.size + 1 < w2.heap.size := by omega
  have hx2 : w.heap.size < w2.heap.size := by omega
  have hsz12 : w1.heap.size ≤ w2.heap.size := by have := hb2.size; simp only [World.size_setCell] at this; exact this
  clear hb2
  go_wp2
  refine bodyPost_ret (v := .agg [.int .i64 x.user, .int .i64 x.key, .int .i64 x.repo, .int .i64 x.kind, .string x.ref, .string x.path, .int .i64 x.old, .int .i64 x.back, .slice B0 m0 d0, .int .i64 x.rule.user, .string x.rule.ref, .string x.rule.path, .bool x.rule.write, .int .i64 x.frm, .string x.other].toArray) (by simp [results, Tryd.results28, go_sem, hcc1, hz1, hy1, hx1, hcc2, hz2, hy2, hx2]) rfl ?_
  refine ⟨_, q0, rfl, ⟨B0, m0, d0, q0, rfl, rfl, by exact (((((((((((((((((((((r2_0.putN hqx0 _).putN hqx0 _).putN hqx0 _).putN hqx0 _).putN hqx0 _).putN hqx0 _).putN hqy0 _).putN hqy0 _).putN hqy0 _).putN hqy0 _).putN hqy0 _).putN hqy0 _).putN hqy0 _).putN hqy0 _).putN hqy0 _).putN hqy0 _).putN hqy0 _).putN hqy0 _).putN hqy0 _).putN hqy0 _).putN hqy0 _)⟩, ?_, ?_, ?_, ?_⟩
  · exact hq0
  · exact fun b hb => by have := hl0 b hb; omega
  · exact (Free.putN (Free.putN (Free.putN (Free.putN (Free.putN (Free.putN (Free.putN (Free.putN (Free.putN (Free.putN (Free.putN (Free.putN (Free.putN (Free.putN (Free.putN (Free.putN (Free.putN (Free.putN (Free.putN (Free.putN (Free.putN fr2_0)))))))))))))))))))))
  · exact (Below.setCell (p := ⟨w.heap.size + 1, 14, none⟩) (Below.setCell (p := ⟨w.heap.size + 1, 13, none⟩) (Below.setCell (p := ⟨w.heap.size + 1, 12, none⟩) (Below.setCell (p := ⟨w.heap.size + 1, 11, none⟩) (Below.setCell (p := ⟨w.heap.size + 1, 10, none⟩) (Below.setCell (p := ⟨w.heap.size + 1, 9, none⟩) (Below.setCell (p := ⟨w.heap.size + 1, 8, none⟩) (Below.setCell (p := ⟨w.heap.size + 1, 7, none⟩) (Below.setCell (p := ⟨w.heap.size + 1, 6, none⟩) (Below.setCell (p := ⟨w.heap.size + 1, 5, none⟩) (Below.setCell (p := ⟨w.heap.size + 1, 4, none⟩) (Below.setCell (p := ⟨w.heap.size + 1, 3, none⟩) (Below.setCell (p := ⟨w.heap.size + 1, 2, none⟩) (Below.setCell (p := ⟨w.heap.size + 1, 1, none⟩) (Below.setCell (p := ⟨w.heap.size + 1, 0, none⟩) (Below.setCell (p := ⟨w.heap.size + 1 + 1, 14, none⟩) (Below.setCell (p := ⟨w.heap.size + 1 + 1, 13, none⟩) (Below.setCell (p := ⟨w.heap.size + 1 + 1, 12, none⟩) (Below.setCell (p := ⟨w.heap.size + 1 + 1, 11, none⟩) (Below.setCell (p := ⟨w.heap.size + 1 + 1, 10, none⟩) (Below.setCell (p := ⟨w.heap.size + 1 + 1, 9, none⟩) HB2 (Nat.le_add_right w.heap.size 2) _) (Nat.le_add_right w.heap.size 2) _) (Nat.le_add_right w.heap.size 2) _) (Nat.le_add_right w.heap.size 2) _) (Nat.le_add_right w.heap.size 2) _) (Nat.le_add_right w.heap.size 2) _) (Nat.le_add_right w.heap.size 1) _) (Nat.le_add_right w.heap.size 1) _) (Nat.le_add_right w.heap.size 1) _) (Nat.le_add_right w.heap.size 1) _) (Nat.le_add_right w.heap.size 1) _) (Nat.le_add_right w.heap.size 1) _) (Nat.le_add_right w.heap.size 1) _) (Nat.le_add_right w.heap.size 1) _) (Nat.le_add_right w.heap.size 1) _) (Nat.le_add_right w.heap.size 1) _) (Nat.le_add_right w.heap.size 1) _) (Nat.le_add_right w.heap.size 1) _) (Nat.le_add_right w.heap.size 1) _) (Nat.le_add_right w.heap.size 1) _) (Nat.le_add_right w.heap.size 1) _)

end Go.Proofs.YthopednilgncgaaDoor
