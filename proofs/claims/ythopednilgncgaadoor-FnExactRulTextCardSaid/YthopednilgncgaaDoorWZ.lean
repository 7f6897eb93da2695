/- Walks of the laws' own functions on data. By program (wip/gen/gen_walk.py): sz:Rule sz:Edit sz:EditS sz:Req -/
import Derived.Test.YthopednilgncgaaDoorBase
namespace Go.Proofs.YthopednilgncgaaDoor
open Go.RowKit
attribute [local go_sem ↓] Go.wp_at_zero Go.wp_at_succ

set_option maxHeartbeats 1000000 in
theorem szRule_any (x : Rule) (left : Int) (hw : wideRule x) (h2 : 0 ≤ left) (h3 : left ≤ 2000000) (w : World) :
    Calls Tryd.prog 30 #[.agg (encRule x).toArray, .int .i64 left] w fun e w' => e = .returned (.int .i64 (lessLen left (szRule x))) ∧ Below w.heap.size w w' := by
  unfold encRule
  have hww := hw; simp only [wideRule] at hww
  obtain ⟨hw0, hw1⟩ := hww
  go_enter Tryd.func30, Tryd.ntmps30
  go_wp2
  all_goals first
    | (go_ret; exact ⟨ret_int (lessLen_no (by simp only [szRule]; omega)).symm, (by repeat (first | exact Below.refl _ _ | assumption | refine Below.alloc ?_ (by simp <;> omega) _ | refine Below.drew ?_))⟩)
    | (go_ret; exact ⟨ret_int ((lessLen_yes (by simp only [szRule]; omega)).trans (by simp only [szRule]; omega)).symm, (by repeat (first | exact Below.refl _ _ | assumption | refine Below.alloc ?_ (by simp <;> omega) _ | refine Below.drew ?_))⟩)

set_option maxHeartbeats 1000000 in
theorem szEdit_any (x : Edit) (left : Int) (hw : wideEdit x) (h2 : 0 ≤ left) (h3 : left ≤ 2000000) (w : World) :
    Calls Tryd.prog 92 #[.agg (encEdit x).toArray, .int .i64 left] w fun e w' => e = .returned (.int .i64 (lessLen left (szEdit x))) ∧ Below w.heap.size w w' := by
  unfold encEdit
  have hww := hw; simp only [wideEdit] at hww
  obtain ⟨hw0, hw1⟩ := hww
  go_enter Tryd.func92, Tryd.ntmps92
  go_wp2
  all_goals first
    | (go_ret; exact ⟨ret_int (lessLen_no (by simp only [szEdit]; omega)).symm, (by repeat (first | exact Below.refl _ _ | assumption | refine Below.alloc ?_ (by simp <;> omega) _ | refine Below.drew ?_))⟩)
    | (go_ret; exact ⟨ret_int ((lessLen_yes (by simp only [szEdit]; omega)).trans (by simp only [szEdit]; omega)).symm, (by repeat (first | exact Below.refl _ _ | assumption | refine Below.alloc ?_ (by simp <;> omega) _ | refine Below.drew ?_))⟩)

set_option maxHeartbeats 1000000 in
theorem szEditS_any {A : Option Addr} {n c : Nat} {x : List (Edit)} {fx : List Nat} (left : Int) (hw : (∀ y ∈ x, wideEdit y)) (h2 : 0 ≤ left) (h3 : left ≤ 2000000) (w : World) (hx : SlR Rp.edit w A n c x fx) :
    Calls Tryd.prog 68 #[.slice A n c, .int .i64 left] w fun e w' => e = .returned (.int .i64 (lessLen left (szL szEdit x))) ∧ Below w.heap.size w w' := by
  obtain ⟨rfl, hcx, hmx, _⟩ := id hx
  unfold maxLen at hmx
  by_cases hneg : left - (x.length : Int) < 0
  · go_enter Tryd.func68, Tryd.ntmps68
    go_wp2
    go_ret
    exact ⟨ret_int (lessLen_no (by unfold szL; omega)).symm, Below.refl _ _⟩
  · have hneg' : (x.length : Int) ≤ left := by omega
    have hdec : decide (left - (x.length : Int) < 0) = false := by simp; omega
    go_enter Tryd.func68, Tryd.ntmps68
    go_wp2
    go_loopw [1, 5] (fun l i wr => ∃ (k : Nat) (lk : Int), k ≤ x.length ∧ i = .int .i64 k ∧ l = .int .i64 lk ∧ LessTo szEdit x left k lk ∧ Below w.heap.size w wr) (fun _ i _ => x.length - (intOf i).toNat)
    case atStart => exact ⟨0, _, Nat.zero_le _, rfl, rfl, LessTo.zero hneg', Below.refl _ _⟩
    case round =>
      obtain ⟨k, lk, hk, rfl, rfl, hl, hbl⟩ := hrel
      have hl0 := hl.low
      have hlk := hl.high h3
      have HL := hide hl
      clear hl
      by_cases hlt : k < x.length
      · obtain ⟨b, o, rfl, hb, hm, h0, h1, h2⟩ := edit_cells (hx.below hbl (Nat.le_refl _)) hlt
        go_wp2_with fail
        refine (szEdit_any x[k] _ (hw _ (List.getElem_mem hlt)) hl0 hlk _).mono ?_
        rintro e w1 ⟨rfl, hb1⟩
        have hB := hbl.trans (hb1.mono hbl.size)
        by_cases hq : lk - ((szEdit x[k] : Nat) : Int) < 0
        · rw [lessLen_no hq]
          go_wp2
          go_ret
          exact ⟨ret_int (HL.out.no_ hlt hq).symm, hB⟩
        · rw [lessLen_yes hq]
          have hq' : ((szEdit x[k] : Nat) : Int) ≤ lk := by omega
          go_wp2
          refine ⟨⟨k + 1, _, by omega, by go_num, rfl, HL.out.next hlt hq', hB⟩, by simp [intOf]; omega⟩
      · have hk' : k = x.length := by omega
        subst hk'
        go_wp2
        go_ret
        exact ⟨ret_int HL.out.all_, hbl⟩

set_option maxHeartbeats 1000000 in
theorem szReq_any {cs : List Value} {x : Req} {fx : List Nat} (left : Int) (hw : wideReq x) (h2 : 0 ≤ left) (h3 : left ≤ 2000000) (w : World) (hx : Rp.req.R w cs x fx) :
    Calls Tryd.prog 27 #[.agg cs.toArray, .int .i64 left] w fun e w' => e = .returned (.int .i64 (lessLen left (szReq x))) ∧ Below w.heap.size w w' := by
  obtain ⟨A0, n0, c0, f0, rfl, _, h0⟩ := hx
  have hww := hw; simp only [wideReq] at hww
  obtain ⟨hw0, hw1, hw2, hw3, hw4⟩ := hww
  go_enter Tryd.func27, Tryd.ntmps27
  go_wp2_with fail
  all_goals try (go_ret; exact ⟨ret_int (lessLen_no (by simp only [szReq]; omega)).symm, (by repeat (first | exact Below.refl _ _ | assumption | refine Below.alloc ?_ (by simp <;> omega) _ | refine Below.drew ?_))⟩)
  refine (szEditS_any _ hw2 (by omega) (by omega) _ (by exact (h0.allocN _))).mono ?_
  rintro e w1 ⟨rfl, hb1⟩
  obtain ⟨hcc1, hff1⟩ := bcell hb1
  have hz1 : w.heap.size < w1.heap.size := by have := hb1.size; simp at this; omega
  by_cases hq1 : ((left - (x.ref.size : Int)) - (x.path.size : Int)) - ((szL szEdit x.edits : Nat) : Int) < 0
  · rw [lessLen_no hq1]
    go_wp2
    go_ret; exact ⟨ret_int (lessLen_no (by simp only [szReq]; omega)).symm, (Below.box1 hb1)⟩
  rw [lessLen_yes hq1]
  go_wp2_with fail
  all_goals try (go_ret; exact ⟨ret_int (lessLen_no (by simp only [szReq]; omega)).symm, (Below.box1 hb1)⟩)
  refine (szRule_any x.rule _ hw3 (by omega) (by omega) _).mono ?_
  rintro e w2 ⟨rfl, hb2⟩
  obtain ⟨hcc2, hff2⟩ := bcell hb2
  have hz2 : w.heap.size < w2.heap.size := by have := hb2.size; omega
  by_cases hq2 : (((left - (x.ref.size : Int)) - (x.path.size : Int)) - ((szL szEdit x.edits : Nat) : Int)) - ((szRule x.rule : Nat) : Int) < 0
  · rw [lessLen_no hq2]
    go_wp2
    go_ret; exact ⟨ret_int (lessLen_no (by simp only [szReq]; omega)).symm, (Below.then_ (Below.box1 hb1) hb2)⟩
  rw [lessLen_yes hq2]
  go_wp2
  all_goals first
    | (go_ret; exact ⟨ret_int (lessLen_no (by simp only [szReq]; omega)).symm, (Below.then_ (Below.box1 hb1) hb2)⟩)
    | (go_ret; exact ⟨ret_int ((lessLen_yes (by simp only [szReq]; omega)).trans (by simp only [szReq]; omega)).symm, (Below.then_ (Below.box1 hb1) hb2)⟩)

end Go.Proofs.YthopednilgncgaaDoor
