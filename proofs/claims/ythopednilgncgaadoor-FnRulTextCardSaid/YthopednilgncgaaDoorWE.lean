/- Walks of the laws' own functions on data. By program (wip/gen/gen_walk.py): eq:Rule eq:Edit eq:EditS eq:Req -/
import Derived.Test.YthopednilgncgaaDoorBase
namespace Go.Proofs.YthopednilgncgaaDoor
open Go.RowKit
attribute [local go_sem ↓] Go.wp_at_zero Go.wp_at_succ

set_option maxHeartbeats 1000000 in
theorem eqRule_any (x y : Rule) (w : World) :
    Calls Tryd.prog 36 #[.agg (encRule x).toArray, .agg (encRule y).toArray] w fun e w' => e = .returned (.bool (decide (x = y))) ∧ Below w.heap.size w w' := by
  obtain ⟨a0, a1, a2, a3⟩ := x
  obtain ⟨d0, d1, d2, d3⟩ := y
  unfold encRule
  go_enter Tryd.func36, Tryd.ntmps36
  go_wp2
  all_goals
    go_ret
    exact ⟨ret_bool (by simp_all [beq_toListBytes']), (by repeat (first | exact Below.refl _ _ | assumption | refine Below.alloc ?_ (by simp <;> omega) _ | refine Below.drew ?_))⟩

set_option maxHeartbeats 1000000 in
theorem eqEdit_any (x y : Edit) (w : World) :
    Calls Tryd.prog 94 #[.agg (encEdit x).toArray, .agg (encEdit y).toArray] w fun e w' => e = .returned (.bool (decide (x = y))) ∧ Below w.heap.size w w' := by
  obtain ⟨a0, a1, a2⟩ := x
  obtain ⟨d0, d1, d2⟩ := y
  unfold encEdit
  go_enter Tryd.func94, Tryd.ntmps94
  go_wp2
  all_goals
    go_ret
    exact ⟨ret_bool (by simp_all [beq_toListBytes']), (by repeat (first | exact Below.refl _ _ | assumption | refine Below.alloc ?_ (by simp <;> omega) _ | refine Below.drew ?_))⟩

set_option maxHeartbeats 1000000 in
theorem eqEditS_any {A A' : Option Addr} {n n' c c' : Nat} {x y : List (Edit)} {fx fy : List Nat} (w : World) (hx : SlR Rp.edit w A n c x fx) (hy : SlR Rp.edit w A' n' c' y fy) :
    Calls Tryd.prog 70 #[.slice A n c, .slice A' n' c'] w fun e w' => e = .returned (.bool (decide (x = y))) ∧ Below w.heap.size w w' := by
  obtain ⟨rfl, hcx, hmx, _⟩ := id hx
  obtain ⟨rfl, hcy, hmy, _⟩ := id hy
  unfold maxLen at hmx hmy
  by_cases hl : x.length = y.length
  · have e0 : ((x.length : Int) != y.length) = false := by simp [hl]
    have HL := hide hl
    clear hl
    go_enter Tryd.func70, Tryd.ntmps70
    go_wp2
    go_loopw [5] (fun i wr => ∃ k : Nat, k ≤ x.length ∧ i = .int .i64 k ∧ agree x y k ∧ Below w.heap.size w wr) (fun i _ => x.length - (intOf i).toNat)
    case atStart => exact ⟨0, Nat.zero_le _, rfl, rfl, Below.refl _ _⟩
    case round =>
      obtain ⟨k, hk, rfl, hag, hbl⟩ := hrel
      by_cases hlt : k < x.length
      · obtain ⟨b, o, rfl, hb, hm, h0, h1, h2⟩ := edit_cells (hx.below hbl (Nat.le_refl _)) hlt
        obtain ⟨b', o', rfl, hb', hm', g0, g1, g2⟩ := edit_cells (hy.below hbl (Nat.le_refl _)) (i := k) (by have := HL.out; omega)
        have hlt' : k < y.length := by have := HL.out; omega
        go_wp2_with fail
        go_region_held3 (fun w' => w'.cell? ⟨b, o + k * 3, none⟩ = some (.string x[k].path) ∧ w'.cell? ⟨b, o + k * 3 + 1, none⟩ = some (.string x[k].bytes) ∧ w'.cell? ⟨b, o + k * 3 + 2, none⟩ = some (.bool x[k].gone) ∧ w'.cell? ⟨b', o' + k * 3, none⟩ = some (.string y[k].path) ∧ w'.cell? ⟨b', o' + k * 3 + 1, none⟩ = some (.string y[k].bytes) ∧ w'.cell? ⟨b', o' + k * 3 + 2, none⟩ = some (.bool y[k].gone))
          (first | exact ⟨h0, h1, h2, g0, g1, g2⟩ | exact ⟨(hb1.cell hb).trans h0, (hb1.cell hb).trans h1, (hb1.cell hb).trans h2, (hb1.cell hb').trans g0, (hb1.cell hb').trans g1, (hb1.cell hb').trans g2⟩)
          (first | (go_at_call 94; refine (eqEdit_any x[k] y[k] _).mono ?_; rintro e w1 ⟨rfl, hb1⟩))
        have hB : Below w.heap.size w w1 := hbl.drew.trans (hb1.mono hbl.size)
        clear hb1 h0 h1 h2 g0 g1 g2
        cases hd : decide (x[k] = y[k])
        · have HN := hide (agree_not hlt hlt' (by simpa using hd))
          clear hd
          go_wp2
          go_ret
          exact ⟨ret_bool (by simpa using HN.out), hB⟩
        · have HN := hide (agree_next hag hlt hlt' (by simpa using hd))
          clear hd
          go_wp2
          refine ⟨⟨k + 1, by omega, by go_num, HN.out, hB⟩, by simp [intOf]; omega⟩
      · have hk' : k = x.length := by omega
        subst hk'
        go_wp2
        go_ret
        exact ⟨ret_bool (by simpa using agree_all hag HL.out), hbl⟩
  · have e0 : ((x.length : Int) != y.length) = true := by simp; omega
    have HN := hide (ne_of_length hl)
    clear hl
    go_enter Tryd.func70, Tryd.ntmps70
    go_wp2
    go_ret
    exact ⟨ret_bool (by simpa using HN.out), Below.refl _ _⟩

set_option maxHeartbeats 2000000 in
theorem eqReq_any {cs cs' : List Value} {x y : Req} {fx fy : List Nat} (w : World) (hx : Rp.req.R w cs x fx) (hy : Rp.req.R w cs' y fy) :
    Calls Tryd.prog 29 #[.agg cs.toArray, .agg cs'.toArray] w fun e w' => e = .returned (.bool (decide (x = y))) ∧ Below w.heap.size w w' := by
  obtain ⟨A0, n0, c0, f0, rfl, _, h0⟩ := hx
  obtain ⟨Ay0, ny0, cy0, fy0, rfl, _, g0⟩ := hy
  obtain ⟨a0, a1, a2, a3, a4, a5, a6, a7, a8, a9, a10, a11⟩ := x
  obtain ⟨d0, d1, d2, d3, d4, d5, d6, d7, d8, d9, d10, d11⟩ := y
  simp only at h0 g0
  simp only [Req.mk.injEq]
  go_enter Tryd.func29, Tryd.ntmps29
  go_wp2_with fail
  all_goals try (go_ret; exact ⟨ret_bool (by simp_all [beq_toListBytes']), (by repeat (first | exact Below.refl _ _ | assumption | refine Below.alloc ?_ (by simp <;> omega) _ | refine Below.drew ?_))⟩)
  refine (eqEditS_any (x := a8) (y := d8) _ (by exact ((h0.allocN _).allocN _)) (by exact ((g0.allocN _).allocN _))).mono ?_
  rintro e w1 ⟨rfl, hb1⟩
  obtain ⟨hcc1, hff1⟩ := bcell hb1
  have hz1 : w.heap.size + 1 < w1.heap.size := by have := hb1.size; simp at this; omega
  have hy1 : w.heap.size < w1.heap.size := by omega
  cases hd1 : decide (a8 = d8)
  · have hne1 := of_decide_eq_false hd1
    clear hd1
    have HN := hide hne1; clear hne1
    go_wp2
    go_ret; exact ⟨ret_bool (by have := HN.out; simp [this]), (Below.box2 hb1)⟩
  have he1 : a8 = d8 := of_decide_eq_true hd1
  clear hd1
  have HE1 := hide he1; clear he1
  go_wp2_with fail
  all_goals try (go_ret; exact ⟨ret_bool (by simp_all [beq_toListBytes']), (Below.box2 hb1)⟩)
  refine (eqRule_any a9 d9 _).mono ?_
  rintro e w2 ⟨rfl, hb2⟩
  obtain ⟨hcc2, hff2⟩ := bcell hb2
  have hz2 : w.heap.size + 1 < w2.heap.size := by have := hb2.size; omega
  have hy2 : w.heap.size < w2.heap.size := by omega
  cases hd2 : decide (a9 = d9)
  · have hne2 := of_decide_eq_false hd2
    clear hd2
    have HN := hide hne2; clear hne2
    go_wp2
    go_ret; exact ⟨ret_bool (by have := HN.out; simp [this]), (Below.then_ (Below.box2 hb1) hb2)⟩
  have he2 : a9 = d9 := of_decide_eq_true hd2
  clear hd2
  have HE2 := hide he2; clear he2
  go_wp2
  all_goals (go_ret; exact ⟨ret_bool (by have q1 := HE1.out; have q2 := HE2.out; simp_all [beq_toListBytes']), (Below.then_ (Below.box2 hb1) hb2)⟩)

end Go.Proofs.YthopednilgncgaaDoor
