/- Walks of the laws' own functions on data. By program (wip/gen/gen_walk.py): sz:Rule sz:Edit sz:EditS mark:LineS held:LineS eq:Req sz:Req -/
import Derived.Test.YtbbfgfnkbbecoaaW1
namespace Go.Proofs.Ytbbfgfnkbbecoaa
open Go.RowKit
attribute [local go_sem ↓] Go.wp_at_zero Go.wp_at_succ

set_option maxHeartbeats 1000000 in
theorem szRule_any (x : Rule) (left : Int) (hw : wideRule x) (h2 : 0 ≤ left) (h3 : left ≤ 2000000) (w : World) :
    Calls Try.prog 20 #[.agg (encRule x).toArray, .int .i64 left] w fun e w' => e = .returned (.int .i64 (lessLen left (szRule x))) ∧ Below w.heap.size w w' := by
  unfold encRule
  have hww := hw; simp only [wideRule] at hww
  obtain ⟨hw0, hw1⟩ := hww
  go_enter Try.func20, Try.ntmps20
  go_wp2
  all_goals first
    | (go_ret; exact ⟨ret_int (lessLen_no (by simp only [szRule]; omega)).symm, (by repeat (first | exact Below.refl _ _ | assumption | refine Below.alloc ?_ (by simp <;> omega) _ | refine Below.drew ?_))⟩)
    | (go_ret; exact ⟨ret_int ((lessLen_yes (by simp only [szRule]; omega)).trans (by simp only [szRule]; omega)).symm, (by repeat (first | exact Below.refl _ _ | assumption | refine Below.alloc ?_ (by simp <;> omega) _ | refine Below.drew ?_))⟩)

set_option maxHeartbeats 1000000 in
theorem szEdit_any (x : Edit) (left : Int) (hw : wideEdit x) (h2 : 0 ≤ left) (h3 : left ≤ 2000000) (w : World) :
    Calls Try.prog 25 #[.agg (encEdit x).toArray, .int .i64 left] w fun e w' => e = .returned (.int .i64 (lessLen left (szEdit x))) ∧ Below w.heap.size w w' := by
  unfold encEdit
  have hww := hw; simp only [wideEdit] at hww
  obtain ⟨hw0, hw1⟩ := hww
  go_enter Try.func25, Try.ntmps25
  go_wp2
  all_goals first
    | (go_ret; exact ⟨ret_int (lessLen_no (by simp only [szEdit]; omega)).symm, (by repeat (first | exact Below.refl _ _ | assumption | refine Below.alloc ?_ (by simp <;> omega) _ | refine Below.drew ?_))⟩)
    | (go_ret; exact ⟨ret_int ((lessLen_yes (by simp only [szEdit]; omega)).trans (by simp only [szEdit]; omega)).symm, (by repeat (first | exact Below.refl _ _ | assumption | refine Below.alloc ?_ (by simp <;> omega) _ | refine Below.drew ?_))⟩)

set_option maxHeartbeats 1000000 in
theorem szEditS_any {A : Option Addr} {n c : Nat} {x : List (Edit)} {fx : List Nat} (left : Int) (hw : (∀ y ∈ x, wideEdit y)) (h2 : 0 ≤ left) (h3 : left ≤ 2000000) (w : World) (hx : SlR Rp.edit w A n c x fx) :
    Calls Try.prog 19 #[.slice A n c, .int .i64 left] w fun e w' => e = .returned (.int .i64 (lessLen left (szL szEdit x))) ∧ Below w.heap.size w w' := by
  obtain ⟨rfl, hcx, hmx, _⟩ := id hx
  unfold maxLen at hmx
  by_cases hneg : left - (x.length : Int) < 0
  · go_enter Try.func19, Try.ntmps19
    go_wp2
    go_ret
    exact ⟨ret_int (lessLen_no (by unfold szL; omega)).symm, Below.refl _ _⟩
  · have hneg' : (x.length : Int) ≤ left := by omega
    have hdec : decide (left - (x.length : Int) < 0) = false := by simp; omega
    go_enter Try.func19, Try.ntmps19
    go_wp2
    go_loopw [1, 5] (fun l i wr => ∃ (k : Nat) (lk : Int), k ≤ x.length ∧ i = .int .i64 k ∧ l = .int .i64 lk ∧ LessTo szEdit x left k lk ∧ Below w.heap.size w wr) (fun _ i _ => x.length - (intOf i).toNat)
    case atStart => exact ⟨0, _, Nat.zero_le _, rfl, rfl, LessTo.zero hneg', Below.refl _ _⟩
    case round =>
      obtain ⟨k, lk, hk, rfl, rfl, hl, hbl⟩ := hrel
      have hl0 := hl.low
      have hlk := hl.high h3
      have HL := hide hl
      clear hl
      by_cases hlt : k < x.length
      · obtain ⟨b, o, rfl, hb, hm, h0, h1, h2⟩ := edit_cells (hx.below hbl (Nat.le_refl _)) hlt
        go_wp2_with fail
        refine (szEdit_any x[k] _ (hw _ (List.getElem_mem hlt)) hl0 hlk _).mono ?_
        rintro e w1 ⟨rfl, hb1⟩
        have hB := hbl.trans (hb1.mono hbl.size)
        by_cases hq : lk - ((szEdit x[k] : Nat) : Int) < 0
        · rw [lessLen_no hq]
          go_wp2
          go_ret
          exact ⟨ret_int (HL.out.no_ hlt hq).symm, hB⟩
        · rw [lessLen_yes hq]
          have hq' : ((szEdit x[k] : Nat) : Int) ≤ lk := by omega
          go_wp2
          refine ⟨⟨k + 1, _, by omega, by go_num, rfl, HL.out.next hlt hq', hB⟩, by simp [intOf]; omega⟩
      · have hk' : k = x.length := by omega
        subst hk'
        go_wp2
        go_ret
        exact ⟨ret_int HL.out.all_, hbl⟩

set_option maxHeartbeats 2000000 in
theorem markLineS_any {A : Option Addr} {n c : Nat} {x : List (Line)} {fx : List Nat} (k0 : Int) (w : World) (hx : SlR Rp.line w A n c x fx) (hnd : fx.Nodup) (hfr : Free w fx) (hk0 : 0 ≤ k0) (hkm : k0 + (countL ctLine x : Nat) ≤ 1152921504606846976) :
    Calls Try.prog 10 #[.slice A n c, .int .i64 k0] w fun e w' => e = .returned (.int .i64 (k0 + (countL ctLine x : Nat))) ∧ SlR Rp.line w' A n c (markL mkLine ctLine x k0) fx ∧ Only fx w w' ∧ Free w' fx := by
  obtain ⟨rfl, hcx, hmx, _⟩ := id hx
  unfold maxLen at hmx
  go_enter Try.func10, Try.ntmps10
  go_wp2
  go_loopw [1, 5] (fun kv i wr => ∃ (i' : Nat) (m : Int), i' ≤ x.length ∧ i = .int .i64 i' ∧ kv = .int .i64 m ∧ MarkRel Rp.line mkLine ctLine w x A c fx k0 i' m wr) (fun _ i _ => x.length - (intOf i).toNat)
  case atStart => exact ⟨0, k0, Nat.zero_le _, rfl, rfl, MarkRel.start hx hfr⟩
  case round =>
    obtain ⟨i, m, hi, rfl, rfl, hrel⟩ := hrel
    have hm0 := hrel.low hk0
    by_cases hlt : i < x.length
    · have hm1 := hrel.high hlt
      obtain ⟨b, o, cs, f, rfl, hfn, hR, hE, hcl⟩ := hrel.next hnd hlt
      have hkk : Rp.line.k = 4 := rfl
      simp only [hkk] at hE hcl
      simp only [ctLine] at hm1
      obtain ⟨rfl, rfl⟩ := hR
      have hltI : (i : Int) < (x.length : Int) := by omega
      have qs0 : wr.cell? ⟨b, o + i * 4, none⟩ = some _ := hE.cells 0 _ rfl
      have qs1 : wr.cell? ⟨b, o + i * 4 + 1, none⟩ = some _ := hE.cells 1 _ rfl
      have qs2 : wr.cell? ⟨b, o + i * 4 + 2, none⟩ = some _ := hE.cells 2 _ rfl
      have qs3 : wr.cell? ⟨b, o + i * 4 + 3, none⟩ = some _ := hE.cells 3 _ rfl
      have ys0 : wr.frozen? ⟨b, o + i * 4, none⟩ = false := hE.frozen (o + i * 4)
      have ys1 : wr.frozen? ⟨b, o + i * 4 + 1, none⟩ = false := hE.frozen (o + i * 4 + 1)
      have ys2 : wr.frozen? ⟨b, o + i * 4 + 2, none⟩ = false := hE.frozen (o + i * 4 + 2)
      have ys3 : wr.frozen? ⟨b, o + i * 4 + 3, none⟩ = false := hE.frozen (o + i * 4 + 3)
      go_wp2
      refine ⟨⟨i + 1, m + (ctLine x[i] : Nat), by omega, by go_num, by simp only [ctLine]; go_num, ?_⟩, by simp [intOf]; omega⟩
      exact hcl _ [.int .i64 (m), .int .i64 (m + 1), .int .i64 (m + 1 + 1), .int .i64 (m + 1 + 1 + 1)] (by exact ((((hE.put (j := 0) (by simp [encLine]) _).put (j := 1) (by simp [encLine]) _).put (j := 2) (by simp [encLine]) _).put (j := 3) (by simp [encLine]) _)) ⟨by simp only [encLine, mkLine], rfl⟩
    · have hi' : i = x.length := by omega
      subst hi'
      go_wp2
      go_ret
      exact hrel.finish

set_option maxHeartbeats 2000000 in
theorem heldLineS_any {A : Option Addr} {n c : Nat} {x : List (Line)} {fx : List Nat} (k0 : Int) (w : World) (hx : SlR Rp.line w A n c (markL mkLine ctLine x k0) fx) (hk0 : 0 ≤ k0) (hkm : k0 + (countL ctLine x : Nat) ≤ 1152921504606846976) :
    Calls Try.prog 11 #[.slice A n c, .int .i64 k0] w fun e w' => e = .returned (.int .i64 (k0 + (countL ctLine x : Nat))) ∧ Below w.heap.size w w' := by
  obtain ⟨hnx, hcx, hmx, _⟩ := id hx
  rw [markL_length] at hnx
  subst hnx
  unfold maxLen at hmx
  go_enter Try.func11, Try.ntmps11
  go_wp2
  go_loopw [1, 5] (fun kv i wr => ∃ (i' : Nat) (m : Int), i' ≤ x.length ∧ i = .int .i64 i' ∧ kv = .int .i64 m ∧ HeldTo ctLine x k0 i' m ∧ Below w.heap.size w wr) (fun _ i _ => x.length - (intOf i).toNat)
  case atStart => exact ⟨0, k0, Nat.zero_le _, rfl, rfl, HeldTo.start, Below.refl _ _⟩
  case round =>
    obtain ⟨i, m, hi, rfl, rfl, hh, hbl⟩ := hrel
    have hm0 := hh.low hk0
    have HH := hide hh
    clear hh
    by_cases hlt : i < x.length
    · have hltm : i < (markL mkLine ctLine x k0).length := by rw [markL_length]; exact hlt
      have hm1 := HH.out.high hlt
      have hltI : (i : Int) < (x.length : Int) := by omega
      have hget := HH.out.get (mk := mkLine) hlt hltm
      obtain ⟨b, o, rfl, hb, hm, h0, h1, h2, h3⟩ := line_cells (hx.below hbl (Nat.le_refl _)) hltm
      rw [hget] at h0 h1 h2 h3
      clear hget
      simp only [ctLine] at hm1
      simp only [mkLine] at h0 h1 h2 h3
      go_wp2
      refine ⟨⟨i + 1, m + (ctLine x[i] : Nat), by omega, by go_num, by simp only [ctLine]; go_num, HH.out.next hlt, hbl⟩, by simp [intOf]; omega⟩
    · have hi' : i = x.length := by omega
      subst hi'
      go_wp2
      go_ret
      exact ⟨ret_int HH.out.all_, hbl⟩

set_option maxHeartbeats 2000000 in
theorem eqReq_any {cs cs' : List Value} {x y : Req} {fx fy : List Nat} (w : World) (hx : Rp.req.R w cs x fx) (hy : Rp.req.R w cs' y fy) :
    Calls Try.prog 16 #[.agg cs.toArray, .agg cs'.toArray] w fun e w' => e = .returned (.bool (decide (x = y))) ∧ Below w.heap.size w w' := by
  obtain ⟨A0, n0, c0, f0, rfl, _, h0⟩ := hx
  obtain ⟨Ay0, ny0, cy0, fy0, rfl, _, g0⟩ := hy
  obtain ⟨a0, a1, a2, a3, a4, a5, a6, a7, a8, a9, a10, a11⟩ := x
  obtain ⟨d0, d1, d2, d3, d4, d5, d6, d7, d8, d9, d10, d11⟩ := y
  simp only at h0 g0
  simp only [Req.mk.injEq]
  go_enter Try.func16, Try.ntmps16
  go_wp2_with fail
  all_goals try (go_ret; exact ⟨ret_bool (by simp_all [beq_toListBytes']), (by repeat (first | exact Below.refl _ _ | assumption | refine Below.alloc ?_ (by simp <;> omega) _ | refine Below.drew ?_))⟩)
  refine (eqEditS_any (x := a8) (y := d8) _ (by exact ((h0.allocN _).allocN _)) (by exact ((g0.allocN _).allocN _))).mono ?_
  rintro e w1 ⟨rfl, hb1⟩
  obtain ⟨hcc1, hff1⟩ := bcell hb1
  have hz1 : w.heap.size + 1 < w1.heap.size := by have := hb1.size; simp at this; omega
  have hy1 : w.heap.size < w1.heap.size := by omega
  cases hd1 : decide (a8 = d8)
  · have hne1 := of_decide_eq_false hd1
    clear hd1
    have HN := hide hne1; clear hne1
    go_wp2
    go_ret; exact ⟨ret_bool (by have := HN.out; simp [this]), (Below.box2 hb1)⟩
  have he1 : a8 = d8 := of_decide_eq_true hd1
  clear hd1
  have HE1 := hide he1; clear he1
  go_wp2_with fail
  all_goals try (go_ret; exact ⟨ret_bool (by simp_all [beq_toListBytes']), (Below.box2 hb1)⟩)
  refine (eqRule_any a9 d9 _).mono ?_
  rintro e w2 ⟨rfl, hb2⟩
  obtain ⟨hcc2, hff2⟩ := bcell hb2
  have hz2 : w.heap.size + 1 < w2.heap.size := by have := hb2.size; omega
  have hy2 : w.heap.size < w2.heap.size := by omega
  cases hd2 : decide (a9 = d9)
  · have hne2 := of_decide_eq_false hd2
    clear hd2
    have HN := hide hne2; clear hne2
    go_wp2
    go_ret; exact ⟨ret_bool (by have := HN.out; simp [this]), (Below.then_ (Below.box2 hb1) hb2)⟩
  have he2 : a9 = d9 := of_decide_eq_true hd2
  clear hd2
  have HE2 := hide he2; clear he2
  go_wp2
  all_goals (go_ret; exact ⟨ret_bool (by have q1 := HE1.out; have q2 := HE2.out; simp_all [beq_toListBytes']), (Below.then_ (Below.box2 hb1) hb2)⟩)

set_option maxHeartbeats 1000000 in
theorem szReq_any {cs : List Value} {x : Req} {fx : List Nat} (left : Int) (hw : wideReq x) (h2 : 0 ≤ left) (h3 : left ≤ 2000000) (w : World) (hx : Rp.req.R w cs x fx) :
    Calls Try.prog 12 #[.agg cs.toArray, .int .i64 left] w fun e w' => e = .returned (.int .i64 (lessLen left (szReq x))) ∧ Below w.heap.size w w' := by
  obtain ⟨A0, n0, c0, f0, rfl, _, h0⟩ := hx
  have hww := hw; simp only [wideReq] at hww
  obtain ⟨hw0, hw1, hw2, hw3, hw4⟩ := hww
  go_enter Try.func12, Try.ntmps12
  go_wp2_with fail
  all_goals try (go_ret; exact ⟨ret_int (lessLen_no (by simp only [szReq]; omega)).symm, (by repeat (first | exact Below.refl _ _ | assumption | refine Below.alloc ?_ (by simp <;> omega) _ | refine Below.drew ?_))⟩)
  refine (szEditS_any _ hw2 (by omega) (by omega) _ (by exact (h0.allocN _))).mono ?_
  rintro e w1 ⟨rfl, hb1⟩
  obtain ⟨hcc1, hff1⟩ := bcell hb1
  have hz1 : w.heap.size < w1.heap.size := by have := hb1.size; simp at this; omega
  by_cases hq1 : ((left - (x.ref.size : Int)) - (x.path.size : Int)) - ((szL szEdit x.edits : Nat) : Int) < 0
  · rw [lessLen_no hq1]
    go_wp2
    go_ret; exact ⟨ret_int (lessLen_no (by simp only [szReq]; omega)).symm, (Below.box1 hb1)⟩
  rw [lessLen_yes hq1]
  go_wp2_with fail
  all_goals try (go_ret; exact ⟨ret_int (lessLen_no (by simp only [szReq]; omega)).symm, (Below.box1 hb1)⟩)
  refine (szRule_any x.rule _ hw3 (by omega) (by omega) _).mono ?_
  rintro e w2 ⟨rfl, hb2⟩
  obtain ⟨hcc2, hff2⟩ := bcell hb2
  have hz2 : w.heap.size < w2.heap.size := by have := hb2.size; omega
  by_cases hq2 : (((left - (x.ref.size : Int)) - (x.path.size : Int)) - ((szL szEdit x.edits : Nat) : Int)) - ((szRule x.rule : Nat) : Int) < 0
  · rw [lessLen_no hq2]
    go_wp2
    go_ret; exact ⟨ret_int (lessLen_no (by simp only [szReq]; omega)).symm, (Below.then_ (Below.box1 hb1) hb2)⟩
  rw [lessLen_yes hq2]
  go_wp2
  all_goals first
    | (go_ret; exact ⟨ret_int (lessLen_no (by simp only [szReq]; omega)).symm, (Below.then_ (Below.box1 hb1) hb2)⟩)
    | (go_ret; exact ⟨ret_int ((lessLen_yes (by simp only [szReq]; omega)).trans (by simp only [szReq]; omega)).symm, (Below.then_ (Below.box1 hb1) hb2)⟩)

end Go.Proofs.Ytbbfgfnkbbecoaa
