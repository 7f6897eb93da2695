/- Walks of the laws' own functions on data. By program (wip/gen/gen_walk.py): sz:IntS sz:Rule sz:RuleS sz:File sz:FileS sz:FileSS sz:Ref sz:RefS sz:Repo sz:RepoS sz:House sz:Edit sz:EditS sz:Req -/
import Derived.Test.YtnogkkcmcnhodaaGreatDoorBase
namespace Go.Proofs.YtnogkkcmcnhodaaGreatDoor
open Go.RowKit
attribute [local go_sem ↓] Go.wp_at_zero Go.wp_at_succ

set_option maxHeartbeats 400000 in
theorem szIntS_any (A : Option Addr) (n c : Nat) (left : Int) (h1 : n ≤ 9223372036854775807) (h2 : 0 ≤ left) (h3 : left ≤ 2000000) (w : World) :
    Calls Tryz.prog 27 #[.slice A n c, .int .i64 left] w fun e w' => e = .returned (.int .i64 (lessLen left n)) ∧ w = w' := by
  go_enter Tryz.func27, Tryz.ntmps27
  go_wp2
  · go_ret
    exact ⟨ret_int (by unfold lessLen; rw [if_pos (by assumption)]), rfl⟩
  · go_ret
    exact ⟨ret_int (by unfold lessLen; rw [if_neg (by omega)]), rfl⟩

set_option maxHeartbeats 1000000 in
theorem szRule_any (x : Rule) (left : Int) (hw : wideRule x) (h2 : 0 ≤ left) (h3 : left ≤ 2000000) (w : World) :
    Calls Tryz.prog 30 #[.agg (encRule x).toArray, .int .i64 left] w fun e w' => e = .returned (.int .i64 (lessLen left (szRule x))) ∧ Below w.heap.size w w' := by
  unfold encRule
  have hww := hw; simp only [wideRule] at hww
  obtain ⟨hw0, hw1⟩ := hww
  go_enter Tryz.func30, Tryz.ntmps30
  go_wp2
  all_goals first
    | (go_ret; exact ⟨ret_int (lessLen_no (by simp only [szRule]; omega)).symm, (by repeat (first | exact Below.refl _ _ | assumption | refine Below.alloc ?_ (by simp <;> omega) _ | refine Below.drew ?_))⟩)
    | (go_ret; exact ⟨ret_int ((lessLen_yes (by simp only [szRule]; omega)).trans (by simp only [szRule]; omega)).symm, (by repeat (first | exact Below.refl _ _ | assumption | refine Below.alloc ?_ (by simp <;> omega) _ | refine Below.drew ?_))⟩)

set_option maxHeartbeats 1000000 in
theorem szRuleS_any {A : Option Addr} {n c : Nat} {x : List (Rule)} {fx : List Nat} (left : Int) (hw : (∀ y ∈ x, wideRule y)) (h2 : 0 ≤ left) (h3 : left ≤ 2000000) (w : World) (hx : SlR Rp.rule w A n c x fx) :
    Calls Tryz.prog 122 #[.slice A n c, .int .i64 left] w fun e w' => e = .returned (.int .i64 (lessLen left (szL szRule x))) ∧ Below w.heap.size w w' := by
  obtain ⟨rfl, hcx, hmx, _⟩ := id hx
  unfold maxLen at hmx
  by_cases hneg : left - (x.length : Int) < 0
  · go_enter Tryz.func122, Tryz.ntmps122
    go_wp2
    go_ret
    exact ⟨ret_int (lessLen_no (by unfold szL; omega)).symm, Below.refl _ _⟩
  · have hneg' : (x.length : Int) ≤ left := by omega
    have hdec : decide (left - (x.length : Int) < 0) = false := by simp; omega
    go_enter Tryz.func122, Tryz.ntmps122
    go_wp2
    go_loopw [1, 5] (fun l i wr => ∃ (k : Nat) (lk : Int), k ≤ x.length ∧ i = .int .i64 k ∧ l = .int .i64 lk ∧ LessTo szRule x left k lk ∧ Below w.heap.size w wr) (fun _ i _ => x.length - (intOf i).toNat)
    case atStart => exact ⟨0, _, Nat.zero_le _, rfl, rfl, LessTo.zero hneg', Below.refl _ _⟩
    case round =>
      obtain ⟨k, lk, hk, rfl, rfl, hl, hbl⟩ := hrel
      have hl0 := hl.low
      have hlk := hl.high h3
      have HL := hide hl
      clear hl
      by_cases hlt : k < x.length
      · obtain ⟨b, o, rfl, hb, hm, h0, h1, h2, h3⟩ := rule_cells (hx.below hbl (Nat.le_refl _)) hlt
        go_wp2_with fail
        refine (szRule_any x[k] _ (hw _ (List.getElem_mem hlt)) hl0 hlk _).mono ?_
        rintro e w1 ⟨rfl, hb1⟩
        have hB := hbl.trans (hb1.mono hbl.size)
        by_cases hq : lk - ((szRule x[k] : Nat) : Int) < 0
        · rw [lessLen_no hq]
          go_wp2
          go_ret
          exact ⟨ret_int (HL.out.no_ hlt hq).symm, hB⟩
        · rw [lessLen_yes hq]
          have hq' : ((szRule x[k] : Nat) : Int) ≤ lk := by omega
          go_wp2
          refine ⟨⟨k + 1, _, by omega, by go_num, rfl, HL.out.next hlt hq', hB⟩, by simp [intOf]; omega⟩
      · have hk' : k = x.length := by omega
        subst hk'
        go_wp2
        go_ret
        exact ⟨ret_int HL.out.all_, hbl⟩

set_option maxHeartbeats 1000000 in
theorem szFile_any (x : File) (left : Int) (hw : wideFile x) (h2 : 0 ≤ left) (h3 : left ≤ 2000000) (w : World) :
    Calls Tryz.prog 201 #[.agg (encFile x).toArray, .int .i64 left] w fun e w' => e = .returned (.int .i64 (lessLen left (szFile x))) ∧ Below w.heap.size w w' := by
  unfold encFile
  have hww := hw; simp only [wideFile] at hww
  obtain ⟨hw0, hw1⟩ := hww
  go_enter Tryz.func201, Tryz.ntmps201
  go_wp2
  all_goals first
    | (go_ret; exact ⟨ret_int (lessLen_no (by simp only [szFile]; omega)).symm, (by repeat (first | exact Below.refl _ _ | assumption | refine Below.alloc ?_ (by simp <;> omega) _ | refine Below.drew ?_))⟩)
    | (go_ret; exact ⟨ret_int ((lessLen_yes (by simp only [szFile]; omega)).trans (by simp only [szFile]; omega)).symm, (by repeat (first | exact Below.refl _ _ | assumption | refine Below.alloc ?_ (by simp <;> omega) _ | refine Below.drew ?_))⟩)

set_option maxHeartbeats 1000000 in
theorem szFileS_any {A : Option Addr} {n c : Nat} {x : List (File)} {fx : List Nat} (left : Int) (hw : (∀ y ∈ x, wideFile y)) (h2 : 0 ≤ left) (h3 : left ≤ 2000000) (w : World) (hx : SlR Rp.file w A n c x fx) :
    Calls Tryz.prog 191 #[.slice A n c, .int .i64 left] w fun e w' => e = .returned (.int .i64 (lessLen left (szL szFile x))) ∧ Below w.heap.size w w' := by
  obtain ⟨rfl, hcx, hmx, _⟩ := id hx
  unfold maxLen at hmx
  by_cases hneg : left - (x.length : Int) < 0
  · go_enter Tryz.func191, Tryz.ntmps191
    go_wp2
    go_ret
    exact ⟨ret_int (lessLen_no (by unfold szL; omega)).symm, Below.refl _ _⟩
  · have hneg' : (x.length : Int) ≤ left := by omega
    have hdec : decide (left - (x.length : Int) < 0) = false := by simp; omega
    go_enter Tryz.func191, Tryz.ntmps191
    go_wp2
    go_loopw [1, 5] (fun l i wr => ∃ (k : Nat) (lk : Int), k ≤ x.length ∧ i = .int .i64 k ∧ l = .int .i64 lk ∧ LessTo szFile x left k lk ∧ Below w.heap.size w wr) (fun _ i _ => x.length - (intOf i).toNat)
    case atStart => exact ⟨0, _, Nat.zero_le _, rfl, rfl, LessTo.zero hneg', Below.refl _ _⟩
    case round =>
      obtain ⟨k, lk, hk, rfl, rfl, hl, hbl⟩ := hrel
      have hl0 := hl.low
      have hlk := hl.high h3
      have HL := hide hl
      clear hl
      by_cases hlt : k < x.length
      · obtain ⟨b, o, rfl, hb, hm, h0, h1⟩ := file_cells (hx.below hbl (Nat.le_refl _)) hlt
        go_wp2_with fail
        refine (szFile_any x[k] _ (hw _ (List.getElem_mem hlt)) hl0 hlk _).mono ?_
        rintro e w1 ⟨rfl, hb1⟩
        have hB := hbl.trans (hb1.mono hbl.size)
        by_cases hq : lk - ((szFile x[k] : Nat) : Int) < 0
        · rw [lessLen_no hq]
          go_wp2
          go_ret
          exact ⟨ret_int (HL.out.no_ hlt hq).symm, hB⟩
        · rw [lessLen_yes hq]
          have hq' : ((szFile x[k] : Nat) : Int) ≤ lk := by omega
          go_wp2
          refine ⟨⟨k + 1, _, by omega, by go_num, rfl, HL.out.next hlt hq', hB⟩, by simp [intOf]; omega⟩
      · have hk' : k = x.length := by omega
        subst hk'
        go_wp2
        go_ret
        exact ⟨ret_int HL.out.all_, hbl⟩

set_option maxHeartbeats 1000000 in
theorem szFileSS_any {A : Option Addr} {n c : Nat} {x : List (List (File))} {fx : List Nat} (left : Int) (hw : (∀ y ∈ x, (∀ y' ∈ y, wideFile y'))) (h2 : 0 ≤ left) (h3 : left ≤ 2000000) (w : World) (hx : SlR (Rp.slice Rp.file) w A n c x fx) :
    Calls Tryz.prog 179 #[.slice A n c, .int .i64 left] w fun e w' => e = .returned (.int .i64 (lessLen left (szL (fun y => szL szFile y) x))) ∧ Below w.heap.size w w' := by
  obtain ⟨rfl, hcx, hmx, _⟩ := id hx
  unfold maxLen at hmx
  by_cases hneg : left - (x.length : Int) < 0
  · go_enter Tryz.func179, Tryz.ntmps179
    go_wp2
    go_ret
    exact ⟨ret_int (lessLen_no (by unfold szL; omega)).symm, Below.refl _ _⟩
  · have hneg' : (x.length : Int) ≤ left := by omega
    have hdec : decide (left - (x.length : Int) < 0) = false := by simp; omega
    go_enter Tryz.func179, Tryz.ntmps179
    go_wp2
    go_loopw [1, 5] (fun l i wr => ∃ (k : Nat) (lk : Int), k ≤ x.length ∧ i = .int .i64 k ∧ l = .int .i64 lk ∧ LessTo (fun y => szL szFile y) x left k lk ∧ Below w.heap.size w wr) (fun _ i _ => x.length - (intOf i).toNat)
    case atStart => exact ⟨0, _, Nat.zero_le _, rfl, rfl, LessTo.zero hneg', Below.refl _ _⟩
    case round =>
      obtain ⟨k, lk, hk, rfl, rfl, hl, hbl⟩ := hrel
      have hl0 := hl.low
      have hlk := hl.high h3
      have HL := hide hl
      clear hl
      by_cases hlt : k < x.length
      · obtain ⟨b, o, A0, n0, c0, f0, rfl, hb, hm, h0, hs0, hsub⟩ := slice_cells (hx.below hbl (Nat.le_refl _)) hlt
        go_wp2_with fail
        refine (szFileS_any _ (hw _ (List.getElem_mem hlt)) hl0 hlk _ (by exact hs0)).mono ?_
        rintro e w1 ⟨rfl, hb1⟩
        have hB := hbl.trans (hb1.mono hbl.size)
        by_cases hq : lk - ((szL szFile x[k] : Nat) : Int) < 0
        · rw [lessLen_no hq]
          go_wp2
          go_ret
          exact ⟨ret_int (HL.out.no_ hlt hq).symm, hB⟩
        · rw [lessLen_yes hq]
          have hq' : ((szL szFile x[k] : Nat) : Int) ≤ lk := by omega
          go_wp2
          refine ⟨⟨k + 1, _, by omega, by go_num, rfl, HL.out.next hlt hq', hB⟩, by simp [intOf]; omega⟩
      · have hk' : k = x.length := by omega
        subst hk'
        go_wp2
        go_ret
        exact ⟨ret_int HL.out.all_, hbl⟩

set_option maxHeartbeats 1000000 in
theorem szRef_any {cs : List Value} {x : Ref} {fx : List Nat} (left : Int) (hw : wideRef x) (h2 : 0 ≤ left) (h3 : left ≤ 2000000) (w : World) (hx : Rp.ref.R w cs x fx) :
    Calls Tryz.prog 162 #[.agg cs.toArray, .int .i64 left] w fun e w' => e = .returned (.int .i64 (lessLen left (szRef x))) ∧ Below w.heap.size w w' := by
  obtain ⟨A0, n0, c0, f0, rfl, _, h0⟩ := hx
  have hww := hw; simp only [wideRef] at hww
  obtain ⟨hw0, hw1⟩ := hww
  go_enter Tryz.func162, Tryz.ntmps162
  go_wp2_with fail
  all_goals try (go_ret; exact ⟨ret_int (lessLen_no (by simp only [szRef]; omega)).symm, (by repeat (first | exact Below.refl _ _ | assumption | refine Below.alloc ?_ (by simp <;> omega) _ | refine Below.drew ?_))⟩)
  refine (szFileSS_any _ hw1 (by omega) (by omega) _ (by exact (h0.allocN _))).mono ?_
  rintro e w1 ⟨rfl, hb1⟩
  obtain ⟨hcc1, hff1⟩ := bcell hb1
  have hz1 : w.heap.size < w1.heap.size := by have := hb1.size; simp at this; omega
  by_cases hq1 : (left - (x.name.size : Int)) - ((szL (fun y => szL szFile y) x.versions : Nat) : Int) < 0
  · rw [lessLen_no hq1]
    go_wp2
    go_ret; exact ⟨ret_int (lessLen_no (by simp only [szRef]; omega)).symm, (Below.box1 hb1)⟩
  rw [lessLen_yes hq1]
  go_wp2
  all_goals first
    | (go_ret; exact ⟨ret_int (lessLen_no (by simp only [szRef]; omega)).symm, (Below.box1 hb1)⟩)
    | (go_ret; exact ⟨ret_int ((lessLen_yes (by simp only [szRef]; omega)).trans (by simp only [szRef]; omega)).symm, (Below.box1 hb1)⟩)

set_option maxHeartbeats 1000000 in
theorem szRefS_any {A : Option Addr} {n c : Nat} {x : List (Ref)} {fx : List Nat} (left : Int) (hw : (∀ y ∈ x, wideRef y)) (h2 : 0 ≤ left) (h3 : left ≤ 2000000) (w : World) (hx : SlR Rp.ref w A n c x fx) :
    Calls Tryz.prog 123 #[.slice A n c, .int .i64 left] w fun e w' => e = .returned (.int .i64 (lessLen left (szL szRef x))) ∧ Below w.heap.size w w' := by
  obtain ⟨rfl, hcx, hmx, _⟩ := id hx
  unfold maxLen at hmx
  by_cases hneg : left - (x.length : Int) < 0
  · go_enter Tryz.func123, Tryz.ntmps123
    go_wp2
    go_ret
    exact ⟨ret_int (lessLen_no (by unfold szL; omega)).symm, Below.refl _ _⟩
  · have hneg' : (x.length : Int) ≤ left := by omega
    have hdec : decide (left - (x.length : Int) < 0) = false := by simp; omega
    go_enter Tryz.func123, Tryz.ntmps123
    go_wp2
    go_loopw [1, 5] (fun l i wr => ∃ (k : Nat) (lk : Int), k ≤ x.length ∧ i = .int .i64 k ∧ l = .int .i64 lk ∧ LessTo szRef x left k lk ∧ Below w.heap.size w wr) (fun _ i _ => x.length - (intOf i).toNat)
    case atStart => exact ⟨0, _, Nat.zero_le _, rfl, rfl, LessTo.zero hneg', Below.refl _ _⟩
    case round =>
      obtain ⟨k, lk, hk, rfl, rfl, hl, hbl⟩ := hrel
      have hl0 := hl.low
      have hlk := hl.high h3
      have HL := hide hl
      clear hl
      by_cases hlt : k < x.length
      · obtain ⟨b, o, A0, n0, c0, f0, rfl, hb, hm, h0, h1, h2, h3, hs0, hsub⟩ := ref_cells (hx.below hbl (Nat.le_refl _)) hlt
        go_wp2_with fail
        refine (szRef_any (x := x[k]) _ (hw _ (List.getElem_mem hlt)) hl0 hlk _ (by exact ⟨A0, n0, c0, f0, rfl, rfl, hs0⟩)).mono ?_
        rintro e w1 ⟨rfl, hb1⟩
        have hB := hbl.trans (hb1.mono hbl.size)
        by_cases hq : lk - ((szRef x[k] : Nat) : Int) < 0
        · rw [lessLen_no hq]
          go_wp2
          go_ret
          exact ⟨ret_int (HL.out.no_ hlt hq).symm, hB⟩
        · rw [lessLen_yes hq]
          have hq' : ((szRef x[k] : Nat) : Int) ≤ lk := by omega
          go_wp2
          refine ⟨⟨k + 1, _, by omega, by go_num, rfl, HL.out.next hlt hq', hB⟩, by simp [intOf]; omega⟩
      · have hk' : k = x.length := by omega
        subst hk'
        go_wp2
        go_ret
        exact ⟨ret_int HL.out.all_, hbl⟩

set_option maxHeartbeats 1000000 in
theorem szRepo_any {cs : List Value} {x : Repo} {fx : List Nat} (left : Int) (hw : wideRepo x) (h2 : 0 ≤ left) (h3 : left ≤ 2000000) (w : World) (hx : Rp.repo.R w cs x fx) :
    Calls Tryz.prog 71 #[.agg cs.toArray, .int .i64 left] w fun e w' => e = .returned (.int .i64 (lessLen left (szRepo x))) ∧ Below w.heap.size w w' := by
  obtain ⟨A0, n0, c0, f0, A1, n1, c1, f1, rfl, _, h0, h1⟩ := hx
  have hww := hw; simp only [wideRepo] at hww
  obtain ⟨hw0, hw1⟩ := hww
  go_enter Tryz.func71, Tryz.ntmps71
  go_wp2_with fail
  all_goals try (go_ret; exact ⟨ret_int (lessLen_no (by simp only [szRepo]; omega)).symm, (by repeat (first | exact Below.refl _ _ | assumption | refine Below.alloc ?_ (by simp <;> omega) _ | refine Below.drew ?_))⟩)
  refine (szRuleS_any _ hw0 (by omega) (by omega) _ (by exact (h0.allocN _))).mono ?_
  rintro e w1 ⟨rfl, hb1⟩
  obtain ⟨hcc1, hff1⟩ := bcell hb1
  have hz1 : w.heap.size < w1.heap.size := by have := hb1.size; simp at this; omega
  by_cases hq1 : left - ((szL szRule x.rules : Nat) : Int) < 0
  · rw [lessLen_no hq1]
    go_wp2
    go_ret; exact ⟨ret_int (lessLen_no (by simp only [szRepo]; omega)).symm, (Below.box1 hb1)⟩
  rw [lessLen_yes hq1]
  go_wp2_with fail
  all_goals try (go_ret; exact ⟨ret_int (lessLen_no (by simp only [szRepo]; omega)).symm, (Below.box1 hb1)⟩)
  refine (szRefS_any _ hw1 (by omega) (by omega) _ (by exact ((h1.allocN _).step hb1))).mono ?_
  rintro e w2 ⟨rfl, hb2⟩
  obtain ⟨hcc2, hff2⟩ := bcell hb2
  have hz2 : w.heap.size < w2.heap.size := by have := hb2.size; omega
  by_cases hq2 : (left - ((szL szRule x.rules : Nat) : Int)) - ((szL szRef x.refs : Nat) : Int) < 0
  · rw [lessLen_no hq2]
    go_wp2
    go_ret; exact ⟨ret_int (lessLen_no (by simp only [szRepo]; omega)).symm, (Below.then_ (Below.box1 hb1) hb2)⟩
  rw [lessLen_yes hq2]
  go_wp2
  all_goals first
    | (go_ret; exact ⟨ret_int (lessLen_no (by simp only [szRepo]; omega)).symm, (Below.then_ (Below.box1 hb1) hb2)⟩)
    | (go_ret; exact ⟨ret_int ((lessLen_yes (by simp only [szRepo]; omega)).trans (by simp only [szRepo]; omega)).symm, (Below.then_ (Below.box1 hb1) hb2)⟩)

set_option maxHeartbeats 1000000 in
theorem szRepoS_any {A : Option Addr} {n c : Nat} {x : List (Repo)} {fx : List Nat} (left : Int) (hw : (∀ y ∈ x, wideRepo y)) (h2 : 0 ≤ left) (h3 : left ≤ 2000000) (w : World) (hx : SlR Rp.repo w A n c x fx) :
    Calls Tryz.prog 28 #[.slice A n c, .int .i64 left] w fun e w' => e = .returned (.int .i64 (lessLen left (szL szRepo x))) ∧ Below w.heap.size w w' := by
  obtain ⟨rfl, hcx, hmx, _⟩ := id hx
  unfold maxLen at hmx
  by_cases hneg : left - (x.length : Int) < 0
  · go_enter Tryz.func28, Tryz.ntmps28
    go_wp2
    go_ret
    exact ⟨ret_int (lessLen_no (by unfold szL; omega)).symm, Below.refl _ _⟩
  · have hneg' : (x.length : Int) ≤ left := by omega
    have hdec : decide (left - (x.length : Int) < 0) = false := by simp; omega
    go_enter Tryz.func28, Tryz.ntmps28
    go_wp2
    go_loopw [1, 5] (fun l i wr => ∃ (k : Nat) (lk : Int), k ≤ x.length ∧ i = .int .i64 k ∧ l = .int .i64 lk ∧ LessTo szRepo x left k lk ∧ Below w.heap.size w wr) (fun _ i _ => x.length - (intOf i).toNat)
    case atStart => exact ⟨0, _, Nat.zero_le _, rfl, rfl, LessTo.zero hneg', Below.refl _ _⟩
    case round =>
      obtain ⟨k, lk, hk, rfl, rfl, hl, hbl⟩ := hrel
      have hl0 := hl.low
      have hlk := hl.high h3
      have HL := hide hl
      clear hl
      by_cases hlt : k < x.length
      · obtain ⟨b, o, A0, n0, c0, f0, A1, n1, c1, f1, rfl, hb, hm, h0, h1, h2, hs0, hs1, hsub⟩ := repo_cells (hx.below hbl (Nat.le_refl _)) hlt
        go_wp2_with fail
        refine (szRepo_any (x := x[k]) _ (hw _ (List.getElem_mem hlt)) hl0 hlk _ (by exact ⟨A0, n0, c0, f0, A1, n1, c1, f1, rfl, rfl, hs0, hs1⟩)).mono ?_
        rintro e w1 ⟨rfl, hb1⟩
        have hB := hbl.trans (hb1.mono hbl.size)
        by_cases hq : lk - ((szRepo x[k] : Nat) : Int) < 0
        · rw [lessLen_no hq]
          go_wp2
          go_ret
          exact ⟨ret_int (HL.out.no_ hlt hq).symm, hB⟩
        · rw [lessLen_yes hq]
          have hq' : ((szRepo x[k] : Nat) : Int) ≤ lk := by omega
          go_wp2
          refine ⟨⟨k + 1, _, by omega, by go_num, rfl, HL.out.next hlt hq', hB⟩, by simp [intOf]; omega⟩
      · have hk' : k = x.length := by omega
        subst hk'
        go_wp2
        go_ret
        exact ⟨ret_int HL.out.all_, hbl⟩

set_option maxHeartbeats 1000000 in
theorem szHouse_any {cs : List Value} {x : House} {fx : List Nat} (left : Int) (hw : wideHouse x) (h2 : 0 ≤ left) (h3 : left ≤ 2000000) (w : World) (hx : Rp.house.R w cs x fx) :
    Calls Tryz.prog 6 #[.agg cs.toArray, .int .i64 left] w fun e w' => e = .returned (.int .i64 (lessLen left (szHouse x))) ∧ Below w.heap.size w w' := by
  obtain ⟨A0, n0, c0, f0, A1, n1, c1, f1, A2, n2, c2, f2, rfl, _, h0, h1, h2⟩ := hx
  have hww := hw; simp only [wideHouse] at hww
  have hw0 := hww; clear hww
  go_enter Tryz.func6, Tryz.ntmps6
  go_wp2_with fail
  all_goals try (go_ret; exact ⟨ret_int (lessLen_no (by simp only [szHouse]; omega)).symm, (by repeat (first | exact Below.refl _ _ | assumption | refine Below.alloc ?_ (by simp <;> omega) _ | refine Below.drew ?_))⟩)
  have hn0 := h0.1
  have hm0 := h0.max
  refine (szIntS_any A0 n0 c0 _ (by omega) (by omega) (by omega) _).mono ?_
  rintro e w1 ⟨rfl, hbq1⟩
  have hb1 := Below.of_eqS hbq1; clear hbq1
  rw [hn0]
  obtain ⟨hcc1, hff1⟩ := bcell hb1
  have hz1 : w.heap.size < w1.heap.size := by have := hb1.size; simp at this; omega
  by_cases hq1 : left - ((x.keys.length : Nat) : Int) < 0
  · rw [lessLen_no hq1]
    go_wp2
    go_ret; exact ⟨ret_int (lessLen_no (by simp only [szHouse]; omega)).symm, (Below.box1 hb1)⟩
  rw [lessLen_yes hq1]
  go_wp2_with fail
  all_goals try (go_ret; exact ⟨ret_int (lessLen_no (by simp only [szHouse]; omega)).symm, (Below.box1 hb1)⟩)
  have hn1 := h1.1
  have hm1 := h1.max
  refine (szIntS_any A1 n1 c1 _ (by omega) (by omega) (by omega) _).mono ?_
  rintro e w2 ⟨rfl, hbq2⟩
  have hb2 := Below.of_eqS hbq2; clear hbq2
  rw [hn1]
  obtain ⟨hcc2, hff2⟩ := bcell hb2
  have hz2 : w.heap.size < w2.heap.size := by have := hb2.size; omega
  by_cases hq2 : (left - ((x.keys.length : Nat) : Int)) - ((x.used.length : Nat) : Int) < 0
  · rw [lessLen_no hq2]
    go_wp2
    go_ret; exact ⟨ret_int (lessLen_no (by simp only [szHouse]; omega)).symm, (Below.then_ (Below.box1 hb1) hb2)⟩
  rw [lessLen_yes hq2]
  go_wp2_with fail
  all_goals try (go_ret; exact ⟨ret_int (lessLen_no (by simp only [szHouse]; omega)).symm, (Below.then_ (Below.box1 hb1) hb2)⟩)
  refine (szRepoS_any _ hw0 (by omega) (by omega) _ (by exact (((h2.allocN _).step hb1).step hb2))).mono ?_
  rintro e w3 ⟨rfl, hb3⟩
  obtain ⟨hcc3, hff3⟩ := bcell hb3
  have hz3 : w.heap.size < w3.heap.size := by have := hb3.size; omega
  by_cases hq3 : ((left - ((x.keys.length : Nat) : Int)) - ((x.used.length : Nat) : Int)) - ((szL szRepo x.repos : Nat) : Int) < 0
  · rw [lessLen_no hq3]
    go_wp2
    go_ret; exact ⟨ret_int (lessLen_no (by simp only [szHouse]; omega)).symm, (Below.then_ (Below.then_ (Below.box1 hb1) hb2) hb3)⟩
  rw [lessLen_yes hq3]
  go_wp2
  all_goals first
    | (go_ret; exact ⟨ret_int (lessLen_no (by simp only [szHouse]; omega)).symm, (Below.then_ (Below.then_ (Below.box1 hb1) hb2) hb3)⟩)
    | (go_ret; exact ⟨ret_int ((lessLen_yes (by simp only [szHouse]; omega)).trans (by simp only [szHouse]; omega)).symm, (Below.then_ (Below.then_ (Below.box1 hb1) hb2) hb3)⟩)

set_option maxHeartbeats 1000000 in
theorem szEdit_any (x : Edit) (left : Int) (hw : wideEdit x) (h2 : 0 ≤ left) (h3 : left ≤ 2000000) (w : World) :
    Calls Tryz.prog 72 #[.agg (encEdit x).toArray, .int .i64 left] w fun e w' => e = .returned (.int .i64 (lessLen left (szEdit x))) ∧ Below w.heap.size w w' := by
  unfold encEdit
  have hww := hw; simp only [wideEdit] at hww
  obtain ⟨hw0, hw1⟩ := hww
  go_enter Tryz.func72, Tryz.ntmps72
  go_wp2
  all_goals first
    | (go_ret; exact ⟨ret_int (lessLen_no (by simp only [szEdit]; omega)).symm, (by repeat (first | exact Below.refl _ _ | assumption | refine Below.alloc ?_ (by simp <;> omega) _ | refine Below.drew ?_))⟩)
    | (go_ret; exact ⟨ret_int ((lessLen_yes (by simp only [szEdit]; omega)).trans (by simp only [szEdit]; omega)).symm, (by repeat (first | exact Below.refl _ _ | assumption | refine Below.alloc ?_ (by simp <;> omega) _ | refine Below.drew ?_))⟩)

set_option maxHeartbeats 1000000 in
theorem szEditS_any {A : Option Addr} {n c : Nat} {x : List (Edit)} {fx : List Nat} (left : Int) (hw : (∀ y ∈ x, wideEdit y)) (h2 : 0 ≤ left) (h3 : left ≤ 2000000) (w : World) (hx : SlR Rp.edit w A n c x fx) :
    Calls Tryz.prog 29 #[.slice A n c, .int .i64 left] w fun e w' => e = .returned (.int .i64 (lessLen left (szL szEdit x))) ∧ Below w.heap.size w w' := by
  obtain ⟨rfl, hcx, hmx, _⟩ := id hx
  unfold maxLen at hmx
  by_cases hneg : left - (x.length : Int) < 0
  · go_enter Tryz.func29, Tryz.ntmps29
    go_wp2
    go_ret
    exact ⟨ret_int (lessLen_no (by unfold szL; omega)).symm, Below.refl _ _⟩
  · have hneg' : (x.length : Int) ≤ left := by omega
    have hdec : decide (left - (x.length : Int) < 0) = false := by simp; omega
    go_enter Tryz.func29, Tryz.ntmps29
    go_wp2
    go_loopw [1, 5] (fun l i wr => ∃ (k : Nat) (lk : Int), k ≤ x.length ∧ i = .int .i64 k ∧ l = .int .i64 lk ∧ LessTo szEdit x left k lk ∧ Below w.heap.size w wr) (fun _ i _ => x.length - (intOf i).toNat)
    case atStart => exact ⟨0, _, Nat.zero_le _, rfl, rfl, LessTo.zero hneg', Below.refl _ _⟩
    case round =>
      obtain ⟨k, lk, hk, rfl, rfl, hl, hbl⟩ := hrel
      have hl0 := hl.low
      have hlk := hl.high h3
      have HL := hide hl
      clear hl
      by_cases hlt : k < x.length
      · obtain ⟨b, o, rfl, hb, hm, h0, h1, h2⟩ := edit_cells (hx.below hbl (Nat.le_refl _)) hlt
        go_wp2_with fail
        refine (szEdit_any x[k] _ (hw _ (List.getElem_mem hlt)) hl0 hlk _).mono ?_
        rintro e w1 ⟨rfl, hb1⟩
        have hB := hbl.trans (hb1.mono hbl.size)
        by_cases hq : lk - ((szEdit x[k] : Nat) : Int) < 0
        · rw [lessLen_no hq]
          go_wp2
          go_ret
          exact ⟨ret_int (HL.out.no_ hlt hq).symm, hB⟩
        · rw [lessLen_yes hq]
          have hq' : ((szEdit x[k] : Nat) : Int) ≤ lk := by omega
          go_wp2
          refine ⟨⟨k + 1, _, by omega, by go_num, rfl, HL.out.next hlt hq', hB⟩, by simp [intOf]; omega⟩
      · have hk' : k = x.length := by omega
        subst hk'
        go_wp2
        go_ret
        exact ⟨ret_int HL.out.all_, hbl⟩

set_option maxHeartbeats 1000000 in
theorem szReq_any {cs : List Value} {x : Req} {fx : List Nat} (left : Int) (hw : wideReq x) (h2 : 0 ≤ left) (h3 : left ≤ 2000000) (w : World) (hx : Rp.req.R w cs x fx) :
    Calls Tryz.prog 7 #[.agg cs.toArray, .int .i64 left] w fun e w' => e = .returned (.int .i64 (lessLen left (szReq x))) ∧ Below w.heap.size w w' := by
  obtain ⟨A0, n0, c0, f0, rfl, _, h0⟩ := hx
  have hww := hw; simp only [wideReq] at hww
  obtain ⟨hw0, hw1, hw2, hw3, hw4⟩ := hww
  go_enter Tryz.func7, Tryz.ntmps7
  go_wp2_with fail
  all_goals try (go_ret; exact ⟨ret_int (lessLen_no (by simp only [szReq]; omega)).symm, (by repeat (first | exact Below.refl _ _ | assumption | refine Below.alloc ?_ (by simp <;> omega) _ | refine Below.drew ?_))⟩)
  refine (szEditS_any _ hw2 (by omega) (by omega) _ (by exact (h0.allocN _))).mono ?_
  rintro e w1 ⟨rfl, hb1⟩
  obtain ⟨hcc1, hff1⟩ := bcell hb1
  have hz1 : w.heap.size < w1.heap.size := by have := hb1.size; simp at this; omega
  by_cases hq1 : ((left - (x.ref.size : Int)) - (x.path.size : Int)) - ((szL szEdit x.edits : Nat) : Int) < 0
  · rw [lessLen_no hq1]
    go_wp2
    go_ret; exact ⟨ret_int (lessLen_no (by simp only [szReq]; omega)).symm, (Below.box1 hb1)⟩
  rw [lessLen_yes hq1]
  go_wp2_with fail
  all_goals try (go_ret; exact ⟨ret_int (lessLen_no (by simp only [szReq]; omega)).symm, (Below.box1 hb1)⟩)
  refine (szRule_any x.rule _ hw3 (by omega) (by omega) _).mono ?_
  rintro e w2 ⟨rfl, hb2⟩
  obtain ⟨hcc2, hff2⟩ := bcell hb2
  have hz2 : w.heap.size < w2.heap.size := by have := hb2.size; omega
  by_cases hq2 : (((left - (x.ref.size : Int)) - (x.path.size : Int)) - ((szL szEdit x.edits : Nat) : Int)) - ((szRule x.rule : Nat) : Int) < 0
  · rw [lessLen_no hq2]
    go_wp2
    go_ret; exact ⟨ret_int (lessLen_no (by simp only [szReq]; omega)).symm, (Below.then_ (Below.box1 hb1) hb2)⟩
  rw [lessLen_yes hq2]
  go_wp2
  all_goals first
    | (go_ret; exact ⟨ret_int (lessLen_no (by simp only [szReq]; omega)).symm, (Below.then_ (Below.box1 hb1) hb2)⟩)
    | (go_ret; exact ⟨ret_int ((lessLen_yes (by simp only [szReq]; omega)).trans (by simp only [szReq]; omega)).symm, (Below.then_ (Below.box1 hb1) hb2)⟩)

end Go.Proofs.YtnogkkcmcnhodaaGreatDoor
