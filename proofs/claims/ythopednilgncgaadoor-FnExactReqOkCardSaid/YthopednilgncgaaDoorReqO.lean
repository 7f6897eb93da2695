/- The law FnExactReqOk, walked. -/
import Derived.Test.YthopednilgncgaaDoorWE
import Derived.Test.YthopednilgncgaaDoorWZ
import Derived.Test.YthopednilgncgaaDoorWT
import Derived.Test.YthopednilgncgaaDoorRm
namespace Go.Proofs.YthopednilgncgaaDoor
open Go.RowKit
attribute [local go_sem ↓] Go.wp_at_zero Go.wp_at_succ

theorem szL_mem {α : Type} {f : α → Nat} {l : List α} {x : α} (h : x ∈ l) : f x ≤ szL f l := by
  obtain ⟨k, hk, rfl⟩ := List.mem_iff_getElem.1 h
  have := szL_get (f := f) hk
  omega
theorem fitReq_of_size {x : Req} (h : szReq x ≤ 1048576) : fitReq x := by
  unfold szReq szRule at h
  have h1 : ∀ e ∈ x.edits, szEdit e ≤ 1048576 := fun e he => by
    have := szL_mem (f := szEdit) he
    omega
  unfold szEdit at h1
  exact ⟨by omega, by omega, by omega, ⟨by omega, by omega⟩, fun i hi => by have := h1 _ (List.getElem_mem hi); show _ ≤ _; omega⟩

theorem size_lawsReq : (Tryd.prog.info? 46).map (·.size) = some 15 := by kernel_rfl
theorem size_implReq : (Tryd.prog.info? 40).map (·.size) = some 15 := by kernel_rfl

set_option maxHeartbeats 2000000 in
theorem lawExactReqOk {cs : List Value} {x : Req} {fx : List Nat} (w : World) (hx : Rp.req.R w cs x fx) (hw : wideReq x) :
    Calls Tryd.prog 6 #[.agg cs.toArray] w fun e w' => e = .returned (.bool true) ∧ Below w.heap.size w w' := by
  have hx0 := hx
  obtain ⟨A0, n0, c0, f0, rfl, hff, h0⟩ := hx
  go_enter Tryd.func6, Tryd.ntmps6
  go_wp2_with ((refine wpList_load_row rfl 46 (.tmp 1) rfl _ rfl _ _ _ _ (Blk.new w _ _).out Tryd.underlying46 rfl size_lawsReq ?_))
  refine (szReq_any (x := x) _ hw (by omega) (by omega) _ ⟨A0, n0, c0, f0, rfl, hff, h0.allocN _⟩).mono ?_
  rintro e w1 ⟨rfl, hb1⟩
  have HB1 := Below.box1 hb1
  have s1 := (h0.allocN _).step hb1
  have k1 := (Blk.new w _ _).step hb1
  clear hb1
  by_cases hq : (1048576 : Int) - ((szReq x : Nat) : Int) < 0
  · rw [lessLen_no hq]
    go_wp2
    go_ret
    exact ⟨rfl, HB1⟩
  · rw [lessLen_yes hq]
    have hs : szReq x ≤ 1048576 := by omega
    have HFit := hide (fitReq_of_size hs)
    have hq2 : (0 : Int) ≤ 1048576 - ((szReq x : Nat) : Int) := by omega
    clear hq
    go_wp2_with ((refine wpList_load_row rfl 46 (.tmp 1) rfl _ rfl _ _ _ _ k1.out Tryd.underlying46 rfl size_lawsReq ?_))
    refine (toReq_any (x := x) _ ⟨A0, n0, c0, f0, rfl, hff, s1⟩ hs).mono ?_
    rintro e w2 ⟨cs2, fp2, rfl, hR2, _, _, _, hb2⟩
    have HB2 := Below.then_ HB1 hb2
    have s2 := s1.step hb2
    have k2 := k1.step hb2
    clear hb2
    go_wp2_with fail
    refine (specReqOk_any (x := x) _ hR2 HFit.out).mono ?_
    rintro e w3 ⟨rfl, hb3⟩
    have HB3 := Below.then_ HB2 hb3
    have s3 := s2.step hb3
    have k3 := k2.step hb3
    clear hb3 hR2
    go_wp2_with ((refine wpList_load_row rfl 46 (.tmp 1) rfl _ rfl _ _ _ _ k3.out Tryd.underlying46 rfl size_lawsReq ?_))
    refine (toReq_any (x := x) _ ⟨A0, n0, c0, f0, rfl, hff, s3⟩ hs).mono ?_
    rintro e w4 ⟨cs4, fp4, rfl, ⟨B0, m0, d0, q0, rfl, hfq, hS4⟩, _, _, _, hb4⟩
    have HB4 := Below.then_ HB3 hb4
    have s4 := s3.step hb4
    have k4 := k3.step hb4
    clear hb4
    go_wp2_with ((refine wpList_load_row rfl 40 (.tmp 5) rfl _ rfl _ _ _ _ (Blk.new w4 _ _).out Tryd.underlying40 rfl size_implReq ?_))
    refine (implReqOk_any (x := x) _ ⟨B0, m0, d0, q0, rfl, hfq, hS4.allocN _⟩ HFit.out).mono ?_
    rintro e w5 ⟨rfl, hb5⟩
    have HB5 := Below.then_ HB4 (Below.box1 hb5)
    have s5 := (s4.allocN _).step hb5
    have g5 := (hS4.allocN _).step hb5
    have k5 := (k4.alloc _).step hb5
    have l5 := (Blk.new w4 _ _).step hb5
    clear hb5
    have hne : (reqOk x != reqOk x) = false := by simp
    go_wp2_with fail
    have s5d := s5.drew
    have g5d := g5.drew
    have k5d := k5.drew
    have l5d := l5.drew
    go_region_held3 (fun w' => w'.cell? ⟨w.heap.size, 0, none⟩ = some (.int .i64 x.user) ∧ w'.cell? ⟨w.heap.size, 1, none⟩ = some (.int .i64 x.key) ∧ w'.cell? ⟨w.heap.size, 2, none⟩ = some (.int .i64 x.repo) ∧ w'.cell? ⟨w.heap.size, 3, none⟩ = some (.int .i64 x.kind) ∧ w'.cell? ⟨w.heap.size, 4, none⟩ = some (.string x.ref) ∧ w'.cell? ⟨w.heap.size, 5, none⟩ = some (.string x.path) ∧ w'.cell? ⟨w.heap.size, 6, none⟩ = some (.int .i64 x.old) ∧ w'.cell? ⟨w.heap.size, 7, none⟩ = some (.int .i64 x.back) ∧ w'.cell? ⟨w.heap.size, 8, none⟩ = some (.slice A0 n0 c0) ∧ w'.cell? ⟨w.heap.size, 9, none⟩ = some (.int .i64 x.rule.user) ∧ w'.cell? ⟨w.heap.size, 10, none⟩ = some (.string x.rule.ref) ∧ w'.cell? ⟨w.heap.size, 11, none⟩ = some (.string x.rule.path) ∧ w'.cell? ⟨w.heap.size, 12, none⟩ = some (.bool x.rule.write) ∧ w'.cell? ⟨w.heap.size, 13, none⟩ = some (.int .i64 x.frm) ∧ w'.cell? ⟨w.heap.size, 14, none⟩ = some (.string x.other) ∧ w'.cell? ⟨w4.heap.size, 0, none⟩ = some (.int .i64 x.user) ∧ w'.cell? ⟨w4.heap.size, 1, none⟩ = some (.int .i64 x.key) ∧ w'.cell? ⟨w4.heap.size, 2, none⟩ = some (.int .i64 x.repo) ∧ w'.cell? ⟨w4.heap.size, 3, none⟩ = some (.int .i64 x.kind) ∧ w'.cell? ⟨w4.heap.size, 4, none⟩ = some (.string x.ref) ∧ w'.cell? ⟨w4.heap.size, 5, none⟩ = some (.string x.path) ∧ w'.cell? ⟨w4.heap.size, 6, none⟩ = some (.int .i64 x.old) ∧ w'.cell? ⟨w4.heap.size, 7, none⟩ = some (.int .i64 x.back) ∧ w'.cell? ⟨w4.heap.size, 8, none⟩ = some (.slice B0 m0 d0) ∧ w'.cell? ⟨w4.heap.size, 9, none⟩ = some (.int .i64 x.rule.user) ∧ w'.cell? ⟨w4.heap.size, 10, none⟩ = some (.string x.rule.ref) ∧ w'.cell? ⟨w4.heap.size, 11, none⟩ = some (.string x.rule.path) ∧ w'.cell? ⟨w4.heap.size, 12, none⟩ = some (.bool x.rule.write) ∧ w'.cell? ⟨w4.heap.size, 13, none⟩ = some (.int .i64 x.frm) ∧ w'.cell? ⟨w4.heap.size, 14, none⟩ = some (.string x.other))
      (first | exact ⟨(k5).cell 0, (k5).cell 1, (k5).cell 2, (k5).cell 3, (k5).cell 4, (k5).cell 5, (k5).cell 6, (k5).cell 7, (k5).cell 8, (k5).cell 9, (k5).cell 10, (k5).cell 11, (k5).cell 12, (k5).cell 13, (k5).cell 14, (l5).cell 0, (l5).cell 1, (l5).cell 2, (l5).cell 3, (l5).cell 4, (l5).cell 5, (l5).cell 6, (l5).cell 7, (l5).cell 8, (l5).cell 9, (l5).cell 10, (l5).cell 11, (l5).cell 12, (l5).cell 13, (l5).cell 14⟩ | exact ⟨(k5d.step hb6).cell 0, (k5d.step hb6).cell 1, (k5d.step hb6).cell 2, (k5d.step hb6).cell 3, (k5d.step hb6).cell 4, (k5d.step hb6).cell 5, (k5d.step hb6).cell 6, (k5d.step hb6).cell 7, (k5d.step hb6).cell 8, (k5d.step hb6).cell 9, (k5d.step hb6).cell 10, (k5d.step hb6).cell 11, (k5d.step hb6).cell 12, (k5d.step hb6).cell 13, (k5d.step hb6).cell 14, (l5d.step hb6).cell 0, (l5d.step hb6).cell 1, (l5d.step hb6).cell 2, (l5d.step hb6).cell 3, (l5d.step hb6).cell 4, (l5d.step hb6).cell 5, (l5d.step hb6).cell 6, (l5d.step hb6).cell 7, (l5d.step hb6).cell 8, (l5d.step hb6).cell 9, (l5d.step hb6).cell 10, (l5d.step hb6).cell 11, (l5d.step hb6).cell 12, (l5d.step hb6).cell 13, (l5d.step hb6).cell 14⟩ | exact ⟨((k5d.step hb6).step hb7).cell 0, ((k5d.step hb6).step hb7).cell 1, ((k5d.step hb6).step hb7).cell 2, ((k5d.step hb6).step hb7).cell 3, ((k5d.step hb6).step hb7).cell 4, ((k5d.step hb6).step hb7).cell 5, ((k5d.step hb6).step hb7).cell 6, ((k5d.step hb6).step hb7).cell 7, ((k5d.step hb6).step hb7).cell 8, ((k5d.step hb6).step hb7).cell 9, ((k5d.step hb6).step hb7).cell 10, ((k5d.step hb6).step hb7).cell 11, ((k5d.step hb6).step hb7).cell 12, ((k5d.step hb6).step hb7).cell 13, ((k5d.step hb6).step hb7).cell 14, ((l5d.step hb6).step hb7).cell 0, ((l5d.step hb6).step hb7).cell 1, ((l5d.step hb6).step hb7).cell 2, ((l5d.step hb6).step hb7).cell 3, ((l5d.step hb6).step hb7).cell 4, ((l5d.step hb6).step hb7).cell 5, ((l5d.step hb6).step hb7).cell 6, ((l5d.step hb6).step hb7).cell 7, ((l5d.step hb6).step hb7).cell 8, ((l5d.step hb6).step hb7).cell 9, ((l5d.step hb6).step hb7).cell 10, ((l5d.step hb6).step hb7).cell 11, ((l5d.step hb6).step hb7).cell 12, ((l5d.step hb6).step hb7).cell 13, ((l5d.step hb6).step hb7).cell 14⟩)
      (first | (go_at_call 28; refine (toReq_any (x := x) _ ⟨A0, n0, c0, f0, rfl, hff, s5d⟩ hs).mono ?_; rintro e w6 ⟨cs6, fp6, rfl, hR6, _, _, _, hb6⟩) | (go_at_call 29; refine (eqReq_any (x := x) (y := x) _ ⟨B0, m0, d0, q0, rfl, hfq, g5d.step hb6⟩ hR6).mono ?_; rintro e w7 ⟨rfl, hb7⟩))
    have HB7 := Below.then_ (Below.then_ HB5.drew hb6) hb7
    go_wp2
    go_ret
    exact ⟨rfl, HB7⟩
end Go.Proofs.YthopednilgncgaaDoor
