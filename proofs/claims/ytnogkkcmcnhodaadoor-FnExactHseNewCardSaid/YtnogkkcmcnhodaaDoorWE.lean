/- Walks of the laws' own functions on data. By program (wip/gen/gen_walk.py): eq:IntS eq:Rule eq:RuleS eq:File eq:FileS eq:FileSS eq:Ref eq:RefS eq:Repo eq:RepoS eq:House -/
import Derived.Test.YtnogkkcmcnhodaaDoorBase
namespace Go.Proofs.YtnogkkcmcnhodaaDoor
open Go.RowKit
attribute [local go_sem ↓] Go.wp_at_zero Go.wp_at_succ

set_option maxHeartbeats 1000000 in
theorem eqIntS_any {A A' : Option Addr} {n n' c c' : Nat} {x y : List Int} {fx fy : List Nat} (w : World) (hx : SlR Rp.int w A n c x fx) (hy : SlR Rp.int w A' n' c' y fy) :
    Calls Tryd.prog 10 #[.slice A n c, .slice A' n' c'] w fun e w' => e = .returned (.bool (decide (x = y))) ∧ Below w.heap.size w w' := by
  obtain ⟨rfl, hcx, hmx, _⟩ := id hx
  obtain ⟨rfl, hcy, hmy, _⟩ := id hy
  unfold maxLen at hmx hmy
  by_cases hl : x.length = y.length
  · have e0 : ((x.length : Int) != y.length) = false := by simp [hl]
    have HL := hide hl
    clear hl
    go_enter Tryd.func10, Tryd.ntmps10
    go_wp2
    go_loopw [5] (fun i wr => ∃ k : Nat, k ≤ x.length ∧ i = .int .i64 k ∧ agree x y k ∧ Below w.heap.size w wr) (fun i _ => x.length - (intOf i).toNat)
    case atStart => exact ⟨0, Nat.zero_le _, rfl, rfl, Below.refl _ _⟩
    case round =>
      obtain ⟨k, hk, rfl, hag, hbl⟩ := hrel
      by_cases hlt : k < x.length
      · obtain ⟨b, o, rfl, hb, _, h0⟩ := int_cells (hx.below hbl (Nat.le_refl _)) hlt
        obtain ⟨b', o', rfl, hb', _, g0⟩ := int_cells (hy.below hbl (Nat.le_refl _)) (i := k) (by have := HL.out; omega)
        have hlt' : k < y.length := by have := HL.out; omega
        have i0 : (0 : Int) ≤ (k : Int) := by omega
        have i1 : (k : Int) < (x.length : Int) := by omega
        have i2 : (k : Int) < (y.length : Int) := by omega
        by_cases hxy : x[k] = y[k]
        · have HN := hide (agree_next hag hlt hlt' hxy)
          rw [← hxy] at g0
          clear hxy
          generalize x[k] = xk at h0 g0
          go_wp2_with fail
          go_quiet (fail)
          go_wp2
          refine ⟨⟨k + 1, by omega, by go_num, HN.out, Below.drewN' hbl _⟩, by simp [intOf]; omega⟩
        · have HN := hide (agree_not hlt hlt' hxy)
          have hd : (x[k] != y[k]) = true := by exact bne_iff_ne.2 hxy
          generalize x[k] = xk at h0 hd
          generalize y[k] = yk at g0 hd
          clear hxy
          go_wp2_with fail
          go_quiet (fail)
          go_wp2
          go_ret
          exact ⟨ret_bool (by simpa using HN.out), Below.drewN' hbl _⟩
      · have hk' : k = x.length := by omega
        subst hk'
        go_wp2
        go_ret
        exact ⟨ret_bool (by simpa using agree_all hag HL.out), hbl⟩
  · have e0 : ((x.length : Int) != y.length) = true := by simp; omega
    have HN := hide (ne_of_length hl)
    clear hl
    go_enter Tryd.func10, Tryd.ntmps10
    go_wp2
    go_ret
    exact ⟨ret_bool (by simpa using HN.out), Below.refl _ _⟩

set_option maxHeartbeats 1000000 in
theorem eqRule_any (x y : Rule) (w : World) :
    Calls Tryd.prog 99 #[.agg (encRule x).toArray, .agg (encRule y).toArray] w fun e w' => e = .returned (.bool (decide (x = y))) ∧ Below w.heap.size w w' := by
  obtain ⟨a0, a1, a2, a3⟩ := x
  obtain ⟨d0, d1, d2, d3⟩ := y
  unfold encRule
  go_enter Tryd.func99, Tryd.ntmps99
  go_wp2
  all_goals
    go_ret
    exact ⟨ret_bool (by simp_all [beq_toListBytes']), (by repeat (first | exact Below.refl _ _ | assumption | refine Below.alloc ?_ (by simp <;> omega) _ | refine Below.drew ?_))⟩

set_option maxHeartbeats 1000000 in
theorem eqRuleS_any {A A' : Option Addr} {n n' c c' : Nat} {x y : List (Rule)} {fx fy : List Nat} (w : World) (hx : SlR Rp.rule w A n c x fx) (hy : SlR Rp.rule w A' n' c' y fy) :
    Calls Tryd.prog 79 #[.slice A n c, .slice A' n' c'] w fun e w' => e = .returned (.bool (decide (x = y))) ∧ Below w.heap.size w w' := by
  obtain ⟨rfl, hcx, hmx, _⟩ := id hx
  obtain ⟨rfl, hcy, hmy, _⟩ := id hy
  unfold maxLen at hmx hmy
  by_cases hl : x.length = y.length
  · have e0 : ((x.length : Int) != y.length) = false := by simp [hl]
    have HL := hide hl
    clear hl
    go_enter Tryd.func79, Tryd.ntmps79
    go_wp2
    go_loopw [5] (fun i wr => ∃ k : Nat, k ≤ x.length ∧ i = .int .i64 k ∧ agree x y k ∧ Below w.heap.size w wr) (fun i _ => x.length - (intOf i).toNat)
    case atStart => exact ⟨0, Nat.zero_le _, rfl, rfl, Below.refl _ _⟩
    case round =>
      obtain ⟨k, hk, rfl, hag, hbl⟩ := hrel
      by_cases hlt : k < x.length
      · obtain ⟨b, o, rfl, hb, hm, h0, h1, h2, h3⟩ := rule_cells (hx.below hbl (Nat.le_refl _)) hlt
        obtain ⟨b', o', rfl, hb', hm', g0, g1, g2, g3⟩ := rule_cells (hy.below hbl (Nat.le_refl _)) (i := k) (by have := HL.out; omega)
        have hlt' : k < y.length := by have := HL.out; omega
        go_wp2_with fail
        go_region_held3 (fun w' => w'.cell? ⟨b, o + k * 4, none⟩ = some (.int .i64 x[k].user) ∧ w'.cell? ⟨b, o + k * 4 + 1, none⟩ = some (.string x[k].ref) ∧ w'.cell? ⟨b, o + k * 4 + 2, none⟩ = some (.string x[k].path) ∧ w'.cell? ⟨b, o + k * 4 + 3, none⟩ = some (.bool x[k].write) ∧ w'.cell? ⟨b', o' + k * 4, none⟩ = some (.int .i64 y[k].user) ∧ w'.cell? ⟨b', o' + k * 4 + 1, none⟩ = some (.string y[k].ref) ∧ w'.cell? ⟨b', o' + k * 4 + 2, none⟩ = some (.string y[k].path) ∧ w'.cell? ⟨b', o' + k * 4 + 3, none⟩ = some (.bool y[k].write))
          (first | exact ⟨h0, h1, h2, h3, g0, g1, g2, g3⟩ | exact ⟨(hb1.cell hb).trans h0, (hb1.cell hb).trans h1, (hb1.cell hb).trans h2, (hb1.cell hb).trans h3, (hb1.cell hb').trans g0, (hb1.cell hb').trans g1, (hb1.cell hb').trans g2, (hb1.cell hb').trans g3⟩)
          (first | (go_at_call 99; refine (eqRule_any x[k] y[k] _).mono ?_; rintro e w1 ⟨rfl, hb1⟩))
        have hB : Below w.heap.size w w1 := hbl.drew.trans (hb1.mono hbl.size)
        clear hb1 h0 h1 h2 h3 g0 g1 g2 g3
        cases hd : decide (x[k] = y[k])
        · have HN := hide (agree_not hlt hlt' (by simpa using hd))
          clear hd
          go_wp2
          go_ret
          exact ⟨ret_bool (by simpa using HN.out), hB⟩
        · have HN := hide (agree_next hag hlt hlt' (by simpa using hd))
          clear hd
          go_wp2
          refine ⟨⟨k + 1, by omega, by go_num, HN.out, hB⟩, by simp [intOf]; omega⟩
      · have hk' : k = x.length := by omega
        subst hk'
        go_wp2
        go_ret
        exact ⟨ret_bool (by simpa using agree_all hag HL.out), hbl⟩
  · have e0 : ((x.length : Int) != y.length) = true := by simp; omega
    have HN := hide (ne_of_length hl)
    clear hl
    go_enter Tryd.func79, Tryd.ntmps79
    go_wp2
    go_ret
    exact ⟨ret_bool (by simpa using HN.out), Below.refl _ _⟩

set_option maxHeartbeats 1000000 in
theorem eqFile_any (x y : File) (w : World) :
    Calls Tryd.prog 127 #[.agg (encFile x).toArray, .agg (encFile y).toArray] w fun e w' => e = .returned (.bool (decide (x = y))) ∧ Below w.heap.size w w' := by
  obtain ⟨a0, a1⟩ := x
  obtain ⟨d0, d1⟩ := y
  unfold encFile
  go_enter Tryd.func127, Tryd.ntmps127
  go_wp2
  all_goals
    go_ret
    exact ⟨ret_bool (by simp_all [beq_toListBytes']), (by repeat (first | exact Below.refl _ _ | assumption | refine Below.alloc ?_ (by simp <;> omega) _ | refine Below.drew ?_))⟩

set_option maxHeartbeats 1000000 in
theorem eqFileS_any {A A' : Option Addr} {n n' c c' : Nat} {x y : List (File)} {fx fy : List Nat} (w : World) (hx : SlR Rp.file w A n c x fx) (hy : SlR Rp.file w A' n' c' y fy) :
    Calls Tryd.prog 121 #[.slice A n c, .slice A' n' c'] w fun e w' => e = .returned (.bool (decide (x = y))) ∧ Below w.heap.size w w' := by
  obtain ⟨rfl, hcx, hmx, _⟩ := id hx
  obtain ⟨rfl, hcy, hmy, _⟩ := id hy
  unfold maxLen at hmx hmy
  by_cases hl : x.length = y.length
  · have e0 : ((x.length : Int) != y.length) = false := by simp [hl]
    have HL := hide hl
    clear hl
    go_enter Tryd.func121, Tryd.ntmps121
    go_wp2
    go_loopw [5] (fun i wr => ∃ k : Nat, k ≤ x.length ∧ i = .int .i64 k ∧ agree x y k ∧ Below w.heap.size w wr) (fun i _ => x.length - (intOf i).toNat)
    case atStart => exact ⟨0, Nat.zero_le _, rfl, rfl, Below.refl _ _⟩
    case round =>
      obtain ⟨k, hk, rfl, hag, hbl⟩ := hrel
      by_cases hlt : k < x.length
      · obtain ⟨b, o, rfl, hb, hm, h0, h1⟩ := file_cells (hx.below hbl (Nat.le_refl _)) hlt
        obtain ⟨b', o', rfl, hb', hm', g0, g1⟩ := file_cells (hy.below hbl (Nat.le_refl _)) (i := k) (by have := HL.out; omega)
        have hlt' : k < y.length := by have := HL.out; omega
        go_wp2_with fail
        go_region_held3 (fun w' => w'.cell? ⟨b, o + k * 2, none⟩ = some (.string x[k].path) ∧ w'.cell? ⟨b, o + k * 2 + 1, none⟩ = some (.string x[k].bytes) ∧ w'.cell? ⟨b', o' + k * 2, none⟩ = some (.string y[k].path) ∧ w'.cell? ⟨b', o' + k * 2 + 1, none⟩ = some (.string y[k].bytes))
          (first | exact ⟨h0, h1, g0, g1⟩ | exact ⟨(hb1.cell hb).trans h0, (hb1.cell hb).trans h1, (hb1.cell hb').trans g0, (hb1.cell hb').trans g1⟩)
          (first | (go_at_call 127; refine (eqFile_any x[k] y[k] _).mono ?_; rintro e w1 ⟨rfl, hb1⟩))
        have hB : Below w.heap.size w w1 := hbl.drew.trans (hb1.mono hbl.size)
        clear hb1 h0 h1 g0 g1
        cases hd : decide (x[k] = y[k])
        · have HN := hide (agree_not hlt hlt' (by simpa using hd))
          clear hd
          go_wp2
          go_ret
          exact ⟨ret_bool (by simpa using HN.out), hB⟩
        · have HN := hide (agree_next hag hlt hlt' (by simpa using hd))
          clear hd
          go_wp2
          refine ⟨⟨k + 1, by omega, by go_num, HN.out, hB⟩, by simp [intOf]; omega⟩
      · have hk' : k = x.length := by omega
        subst hk'
        go_wp2
        go_ret
        exact ⟨ret_bool (by simpa using agree_all hag HL.out), hbl⟩
  · have e0 : ((x.length : Int) != y.length) = true := by simp; omega
    have HN := hide (ne_of_length hl)
    clear hl
    go_enter Tryd.func121, Tryd.ntmps121
    go_wp2
    go_ret
    exact ⟨ret_bool (by simpa using HN.out), Below.refl _ _⟩

set_option maxHeartbeats 1000000 in
theorem eqFileSS_any {A A' : Option Addr} {n n' c c' : Nat} {x y : List (List (File))} {fx fy : List Nat} (w : World) (hx : SlR (Rp.slice Rp.file) w A n c x fx) (hy : SlR (Rp.slice Rp.file) w A' n' c' y fy) :
    Calls Tryd.prog 115 #[.slice A n c, .slice A' n' c'] w fun e w' => e = .returned (.bool (decide (x = y))) ∧ Below w.heap.size w w' := by
  obtain ⟨rfl, hcx, hmx, _⟩ := id hx
  obtain ⟨rfl, hcy, hmy, _⟩ := id hy
  unfold maxLen at hmx hmy
  by_cases hl : x.length = y.length
  · have e0 : ((x.length : Int) != y.length) = false := by simp [hl]
    have HL := hide hl
    clear hl
    go_enter Tryd.func115, Tryd.ntmps115
    go_wp2
    go_loopw [5] (fun i wr => ∃ k : Nat, k ≤ x.length ∧ i = .int .i64 k ∧ agree x y k ∧ Below w.heap.size w wr) (fun i _ => x.length - (intOf i).toNat)
    case atStart => exact ⟨0, Nat.zero_le _, rfl, rfl, Below.refl _ _⟩
    case round =>
      obtain ⟨k, hk, rfl, hag, hbl⟩ := hrel
      by_cases hlt : k < x.length
      · obtain ⟨b, o, A0, n0, c0, f0, rfl, hb, hm, h0, hs0, hsub⟩ := slice_cells (hx.below hbl (Nat.le_refl _)) hlt
        obtain ⟨b', o', A'0, n'0, c'0, f'0, rfl, hb', hm', g0, hs'0, hsub'⟩ := slice_cells (hy.below hbl (Nat.le_refl _)) (i := k) (by have := HL.out; omega)
        have hlt' : k < y.length := by have := HL.out; omega
        go_wp2_with fail
        go_region_held3 (fun w' => w'.cell? ⟨b, o + k, none⟩ = some (.slice A0 n0 c0) ∧ w'.cell? ⟨b', o' + k, none⟩ = some (.slice A'0 n'0 c'0))
          (first | exact ⟨h0, g0⟩ | exact ⟨(hb1.cell hb).trans h0, (hb1.cell hb').trans g0⟩)
          (first | (go_at_call 121; refine (eqFileS_any _ (hs0.keep fun _ _ => by rfl) (hs'0.keep fun _ _ => by rfl)).mono ?_; rintro e w1 ⟨rfl, hb1⟩))
        have hB : Below w.heap.size w w1 := hbl.drew.trans (hb1.mono hbl.size)
        clear hb1 h0 g0
        cases hd : decide (x[k] = y[k])
        · have HN := hide (agree_not hlt hlt' (by simpa using hd))
          clear hd
          go_wp2
          go_ret
          exact ⟨ret_bool (by simpa using HN.out), hB⟩
        · have HN := hide (agree_next hag hlt hlt' (by simpa using hd))
          clear hd
          go_wp2
          refine ⟨⟨k + 1, by omega, by go_num, HN.out, hB⟩, by simp [intOf]; omega⟩
      · have hk' : k = x.length := by omega
        subst hk'
        go_wp2
        go_ret
        exact ⟨ret_bool (by simpa using agree_all hag HL.out), hbl⟩
  · have e0 : ((x.length : Int) != y.length) = true := by simp; omega
    have HN := hide (ne_of_length hl)
    clear hl
    go_enter Tryd.func115, Tryd.ntmps115
    go_wp2
    go_ret
    exact ⟨ret_bool (by simpa using HN.out), Below.refl _ _⟩

set_option maxHeartbeats 2000000 in
theorem eqRef_any {cs cs' : List Value} {x y : Ref} {fx fy : List Nat} (w : World) (hx : Rp.ref.R w cs x fx) (hy : Rp.ref.R w cs' y fy) :
    Calls Tryd.prog 100 #[.agg cs.toArray, .agg cs'.toArray] w fun e w' => e = .returned (.bool (decide (x = y))) ∧ Below w.heap.size w w' := by
  obtain ⟨A0, n0, c0, f0, rfl, _, h0⟩ := hx
  obtain ⟨Ay0, ny0, cy0, fy0, rfl, _, g0⟩ := hy
  obtain ⟨a0, a1, a2, a3⟩ := x
  obtain ⟨d0, d1, d2, d3⟩ := y
  simp only at h0 g0
  simp only [Ref.mk.injEq]
  go_enter Tryd.func100, Tryd.ntmps100
  go_wp2_with fail
  all_goals try (go_ret; exact ⟨ret_bool (by simp_all [beq_toListBytes']), (by repeat (first | exact Below.refl _ _ | assumption | refine Below.alloc ?_ (by simp <;> omega) _ | refine Below.drew ?_))⟩)
  refine (eqFileSS_any (x := a3) (y := d3) _ (by exact ((h0.allocN _).allocN _)) (by exact ((g0.allocN _).allocN _))).mono ?_
  rintro e w1 ⟨rfl, hb1⟩
  obtain ⟨hcc1, hff1⟩ := bcell hb1
  have hz1 : w.heap.size + 1 < w1.heap.size := by have := hb1.size; simp at this; omega
  have hy1 : w.heap.size < w1.heap.size := by omega
  cases hd1 : decide (a3 = d3)
  · have hne1 := of_decide_eq_false hd1
    clear hd1
    have HN := hide hne1; clear hne1
    go_wp2
    go_ret; exact ⟨ret_bool (by have := HN.out; simp [this]), (Below.box2 hb1)⟩
  have he1 : a3 = d3 := of_decide_eq_true hd1
  clear hd1
  have HE1 := hide he1; clear he1
  go_wp2
  all_goals (go_ret; exact ⟨ret_bool (by have q1 := HE1.out; simp_all [beq_toListBytes']), (Below.box2 hb1)⟩)

set_option maxHeartbeats 1000000 in
theorem eqRefS_any {A A' : Option Addr} {n n' c c' : Nat} {x y : List (Ref)} {fx fy : List Nat} (w : World) (hx : SlR Rp.ref w A n c x fx) (hy : SlR Rp.ref w A' n' c' y fy) :
    Calls Tryd.prog 80 #[.slice A n c, .slice A' n' c'] w fun e w' => e = .returned (.bool (decide (x = y))) ∧ Below w.heap.size w w' := by
  obtain ⟨rfl, hcx, hmx, _⟩ := id hx
  obtain ⟨rfl, hcy, hmy, _⟩ := id hy
  unfold maxLen at hmx hmy
  by_cases hl : x.length = y.length
  · have e0 : ((x.length : Int) != y.length) = false := by simp [hl]
    have HL := hide hl
    clear hl
    go_enter Tryd.func80, Tryd.ntmps80
    go_wp2
    go_loopw [5] (fun i wr => ∃ k : Nat, k ≤ x.length ∧ i = .int .i64 k ∧ agree x y k ∧ Below w.heap.size w wr) (fun i _ => x.length - (intOf i).toNat)
    case atStart => exact ⟨0, Nat.zero_le _, rfl, rfl, Below.refl _ _⟩
    case round =>
      obtain ⟨k, hk, rfl, hag, hbl⟩ := hrel
      by_cases hlt : k < x.length
      · obtain ⟨b, o, A0, n0, c0, f0, rfl, hb, hm, h0, h1, h2, h3, hs0, hsub⟩ := ref_cells (hx.below hbl (Nat.le_refl _)) hlt
        obtain ⟨b', o', A'0, n'0, c'0, f'0, rfl, hb', hm', g0, g1, g2, g3, hs'0, hsub'⟩ := ref_cells (hy.below hbl (Nat.le_refl _)) (i := k) (by have := HL.out; omega)
        have hlt' : k < y.length := by have := HL.out; omega
        go_wp2_with fail
        go_region_held3 (fun w' => w'.cell? ⟨b, o + k * 4, none⟩ = some (.string x[k].name) ∧ w'.cell? ⟨b, o + k * 4 + 1, none⟩ = some (.bool x[k].guard) ∧ w'.cell? ⟨b, o + k * 4 + 2, none⟩ = some (.int .i64 x[k].count) ∧ w'.cell? ⟨b, o + k * 4 + 3, none⟩ = some (.slice A0 n0 c0) ∧ w'.cell? ⟨b', o' + k * 4, none⟩ = some (.string y[k].name) ∧ w'.cell? ⟨b', o' + k * 4 + 1, none⟩ = some (.bool y[k].guard) ∧ w'.cell? ⟨b', o' + k * 4 + 2, none⟩ = some (.int .i64 y[k].count) ∧ w'.cell? ⟨b', o' + k * 4 + 3, none⟩ = some (.slice A'0 n'0 c'0))
          (first | exact ⟨h0, h1, h2, h3, g0, g1, g2, g3⟩ | exact ⟨(hb1.cell hb).trans h0, (hb1.cell hb).trans h1, (hb1.cell hb).trans h2, (hb1.cell hb).trans h3, (hb1.cell hb').trans g0, (hb1.cell hb').trans g1, (hb1.cell hb').trans g2, (hb1.cell hb').trans g3⟩)
          (first | (go_at_call 100; refine (eqRef_any (x := x[k]) (y := y[k]) _ ⟨A0, n0, c0, f0, rfl, rfl, (hs0.keep fun _ _ => by rfl)⟩ ⟨A'0, n'0, c'0, f'0, rfl, rfl, (hs'0.keep fun _ _ => by rfl)⟩).mono ?_; rintro e w1 ⟨rfl, hb1⟩))
        have hB : Below w.heap.size w w1 := hbl.drew.trans (hb1.mono hbl.size)
        clear hb1 h0 h1 h2 h3 g0 g1 g2 g3
        cases hd : decide (x[k] = y[k])
        · have HN := hide (agree_not hlt hlt' (by simpa using hd))
          clear hd
          go_wp2
          go_ret
          exact ⟨ret_bool (by simpa using HN.out), hB⟩
        · have HN := hide (agree_next hag hlt hlt' (by simpa using hd))
          clear hd
          go_wp2
          refine ⟨⟨k + 1, by omega, by go_num, HN.out, hB⟩, by simp [intOf]; omega⟩
      · have hk' : k = x.length := by omega
        subst hk'
        go_wp2
        go_ret
        exact ⟨ret_bool (by simpa using agree_all hag HL.out), hbl⟩
  · have e0 : ((x.length : Int) != y.length) = true := by simp; omega
    have HN := hide (ne_of_length hl)
    clear hl
    go_enter Tryd.func80, Tryd.ntmps80
    go_wp2
    go_ret
    exact ⟨ret_bool (by simpa using HN.out), Below.refl _ _⟩

set_option maxHeartbeats 2000000 in
theorem eqRepo_any {cs cs' : List Value} {x y : Repo} {fx fy : List Nat} (w : World) (hx : Rp.repo.R w cs x fx) (hy : Rp.repo.R w cs' y fy) :
    Calls Tryd.prog 51 #[.agg cs.toArray, .agg cs'.toArray] w fun e w' => e = .returned (.bool (decide (x = y))) ∧ Below w.heap.size w w' := by
  obtain ⟨A0, n0, c0, f0, A1, n1, c1, f1, rfl, _, h0, h1⟩ := hx
  obtain ⟨Ay0, ny0, cy0, fy0, Ay1, ny1, cy1, fy1, rfl, _, g0, g1⟩ := hy
  obtain ⟨a0, a1, a2⟩ := x
  obtain ⟨d0, d1, d2⟩ := y
  simp only at h0 g0 h1 g1
  simp only [Repo.mk.injEq]
  go_enter Tryd.func51, Tryd.ntmps51
  go_wp2_with fail
  all_goals try (go_ret; exact ⟨ret_bool (by simp_all [beq_toListBytes']), (by repeat (first | exact Below.refl _ _ | assumption | refine Below.alloc ?_ (by simp <;> omega) _ | refine Below.drew ?_))⟩)
  refine (eqRuleS_any (x := a1) (y := d1) _ (by exact ((h0.allocN _).allocN _)) (by exact ((g0.allocN _).allocN _))).mono ?_
  rintro e w1 ⟨rfl, hb1⟩
  obtain ⟨hcc1, hff1⟩ := bcell hb1
  have hz1 : w.heap.size + 1 < w1.heap.size := by have := hb1.size; simp at this; omega
  have hy1 : w.heap.size < w1.heap.size := by omega
  cases hd1 : decide (a1 = d1)
  · have hne1 := of_decide_eq_false hd1
    clear hd1
    have HN := hide hne1; clear hne1
    go_wp2
    go_ret; exact ⟨ret_bool (by have := HN.out; simp [this]), (Below.box2 hb1)⟩
  have he1 : a1 = d1 := of_decide_eq_true hd1
  clear hd1
  have HE1 := hide he1; clear he1
  go_wp2_with fail
  all_goals try (go_ret; exact ⟨ret_bool (by simp_all [beq_toListBytes']), (Below.box2 hb1)⟩)
  refine (eqRefS_any (x := a2) (y := d2) _ (by exact (((h1.allocN _).allocN _).step hb1)) (by exact (((g1.allocN _).allocN _).step hb1))).mono ?_
  rintro e w2 ⟨rfl, hb2⟩
  obtain ⟨hcc2, hff2⟩ := bcell hb2
  have hz2 : w.heap.size + 1 < w2.heap.size := by have := hb2.size; omega
  have hy2 : w.heap.size < w2.heap.size := by omega
  cases hd2 : decide (a2 = d2)
  · have hne2 := of_decide_eq_false hd2
    clear hd2
    have HN := hide hne2; clear hne2
    go_wp2
    go_ret; exact ⟨ret_bool (by have := HN.out; simp [this]), (Below.then_ (Below.box2 hb1) hb2)⟩
  have he2 : a2 = d2 := of_decide_eq_true hd2
  clear hd2
  have HE2 := hide he2; clear he2
  go_wp2
  all_goals (go_ret; exact ⟨ret_bool (by have q1 := HE1.out; have q2 := HE2.out; simp_all [beq_toListBytes']), (Below.then_ (Below.box2 hb1) hb2)⟩)

set_option maxHeartbeats 1000000 in
theorem eqRepoS_any {A A' : Option Addr} {n n' c c' : Nat} {x y : List (Repo)} {fx fy : List Nat} (w : World) (hx : SlR Rp.repo w A n c x fx) (hy : SlR Rp.repo w A' n' c' y fy) :
    Calls Tryd.prog 25 #[.slice A n c, .slice A' n' c'] w fun e w' => e = .returned (.bool (decide (x = y))) ∧ Below w.heap.size w w' := by
  obtain ⟨rfl, hcx, hmx, _⟩ := id hx
  obtain ⟨rfl, hcy, hmy, _⟩ := id hy
  unfold maxLen at hmx hmy
  by_cases hl : x.length = y.length
  · have e0 : ((x.length : Int) != y.length) = false := by simp [hl]
    have HL := hide hl
    clear hl
    go_enter Tryd.func25, Tryd.ntmps25
    go_wp2
    go_loopw [5] (fun i wr => ∃ k : Nat, k ≤ x.length ∧ i = .int .i64 k ∧ agree x y k ∧ Below w.heap.size w wr) (fun i _ => x.length - (intOf i).toNat)
    case atStart => exact ⟨0, Nat.zero_le _, rfl, rfl, Below.refl _ _⟩
    case round =>
      obtain ⟨k, hk, rfl, hag, hbl⟩ := hrel
      by_cases hlt : k < x.length
      · obtain ⟨b, o, A0, n0, c0, f0, A1, n1, c1, f1, rfl, hb, hm, h0, h1, h2, hs0, hs1, hsub⟩ := repo_cells (hx.below hbl (Nat.le_refl _)) hlt
        obtain ⟨b', o', A'0, n'0, c'0, f'0, A'1, n'1, c'1, f'1, rfl, hb', hm', g0, g1, g2, hs'0, hs'1, hsub'⟩ := repo_cells (hy.below hbl (Nat.le_refl _)) (i := k) (by have := HL.out; omega)
        have hlt' : k < y.length := by have := HL.out; omega
        go_wp2_with fail
        go_region_held3 (fun w' => w'.cell? ⟨b, o + k * 3, none⟩ = some (.int .i64 x[k].admin) ∧ w'.cell? ⟨b, o + k * 3 + 1, none⟩ = some (.slice A0 n0 c0) ∧ w'.cell? ⟨b, o + k * 3 + 2, none⟩ = some (.slice A1 n1 c1) ∧ w'.cell? ⟨b', o' + k * 3, none⟩ = some (.int .i64 y[k].admin) ∧ w'.cell? ⟨b', o' + k * 3 + 1, none⟩ = some (.slice A'0 n'0 c'0) ∧ w'.cell? ⟨b', o' + k * 3 + 2, none⟩ = some (.slice A'1 n'1 c'1))
          (first | exact ⟨h0, h1, h2, g0, g1, g2⟩ | exact ⟨(hb1.cell hb).trans h0, (hb1.cell hb).trans h1, (hb1.cell hb).trans h2, (hb1.cell hb').trans g0, (hb1.cell hb').trans g1, (hb1.cell hb').trans g2⟩)
          (first | (go_at_call 51; refine (eqRepo_any (x := x[k]) (y := y[k]) _ ⟨A0, n0, c0, f0, A1, n1, c1, f1, rfl, rfl, (hs0.keep fun _ _ => by rfl), (hs1.keep fun _ _ => by rfl)⟩ ⟨A'0, n'0, c'0, f'0, A'1, n'1, c'1, f'1, rfl, rfl, (hs'0.keep fun _ _ => by rfl), (hs'1.keep fun _ _ => by rfl)⟩).mono ?_; rintro e w1 ⟨rfl, hb1⟩))
        have hB : Below w.heap.size w w1 := hbl.drew.trans (hb1.mono hbl.size)
        clear hb1 h0 h1 h2 g0 g1 g2
        cases hd : decide (x[k] = y[k])
        · have HN := hide (agree_not hlt hlt' (by simpa using hd))
          clear hd
          go_wp2
          go_ret
          exact ⟨ret_bool (by simpa using HN.out), hB⟩
        · have HN := hide (agree_next hag hlt hlt' (by simpa using hd))
          clear hd
          go_wp2
          refine ⟨⟨k + 1, by omega, by go_num, HN.out, hB⟩, by simp [intOf]; omega⟩
      · have hk' : k = x.length := by omega
        subst hk'
        go_wp2
        go_ret
        exact ⟨ret_bool (by simpa using agree_all hag HL.out), hbl⟩
  · have e0 : ((x.length : Int) != y.length) = true := by simp; omega
    have HN := hide (ne_of_length hl)
    clear hl
    go_enter Tryd.func25, Tryd.ntmps25
    go_wp2
    go_ret
    exact ⟨ret_bool (by simpa using HN.out), Below.refl _ _⟩

set_option maxHeartbeats 2000000 in
theorem eqHouse_any {cs cs' : List Value} {x y : House} {fx fy : List Nat} (w : World) (hx : Rp.house.R w cs x fx) (hy : Rp.house.R w cs' y fy) :
    Calls Tryd.prog 9 #[.agg cs.toArray, .agg cs'.toArray] w fun e w' => e = .returned (.bool (decide (x = y))) ∧ Below w.heap.size w w' := by
  obtain ⟨A0, n0, c0, f0, A1, n1, c1, f1, A2, n2, c2, f2, rfl, _, h0, h1, h2⟩ := hx
  obtain ⟨Ay0, ny0, cy0, fy0, Ay1, ny1, cy1, fy1, Ay2, ny2, cy2, fy2, rfl, _, g0, g1, g2⟩ := hy
  obtain ⟨a0, a1, a2⟩ := x
  obtain ⟨d0, d1, d2⟩ := y
  simp only at h0 g0 h1 g1 h2 g2
  simp only [House.mk.injEq]
  go_enter Tryd.func9, Tryd.ntmps9
  go_wp2_with fail
  all_goals try (go_ret; exact ⟨ret_bool (by simp_all [beq_toListBytes']), (by repeat (first | exact Below.refl _ _ | assumption | refine Below.alloc ?_ (by simp <;> omega) _ | refine Below.drew ?_))⟩)
  refine (eqIntS_any (x := a0) (y := d0) _ (by exact ((h0.allocN _).allocN _)) (by exact ((g0.allocN _).allocN _))).mono ?_
  rintro e w1 ⟨rfl, hb1⟩
  obtain ⟨hcc1, hff1⟩ := bcell hb1
  have hz1 : w.heap.size + 1 < w1.heap.size := by have := hb1.size; simp at this; omega
  have hy1 : w.heap.size < w1.heap.size := by omega
  cases hd1 : decide (a0 = d0)
  · have hne1 := of_decide_eq_false hd1
    clear hd1
    have HN := hide hne1; clear hne1
    go_wp2
    go_ret; exact ⟨ret_bool (by have := HN.out; simp [this]), (Below.box2 hb1)⟩
  have he1 : a0 = d0 := of_decide_eq_true hd1
  clear hd1
  have HE1 := hide he1; clear he1
  go_wp2_with fail
  all_goals try (go_ret; exact ⟨ret_bool (by simp_all [beq_toListBytes']), (Below.box2 hb1)⟩)
  refine (eqIntS_any (x := a1) (y := d1) _ (by exact (((h1.allocN _).allocN _).step hb1)) (by exact (((g1.allocN _).allocN _).step hb1))).mono ?_
  rintro e w2 ⟨rfl, hb2⟩
  obtain ⟨hcc2, hff2⟩ := bcell hb2
  have hz2 : w.heap.size + 1 < w2.heap.size := by have := hb2.size; omega
  have hy2 : w.heap.size < w2.heap.size := by omega
  cases hd2 : decide (a1 = d1)
  · have hne2 := of_decide_eq_false hd2
    clear hd2
    have HN := hide hne2; clear hne2
    go_wp2
    go_ret; exact ⟨ret_bool (by have := HN.out; simp [this]), (Below.then_ (Below.box2 hb1) hb2)⟩
  have he2 : a1 = d1 := of_decide_eq_true hd2
  clear hd2
  have HE2 := hide he2; clear he2
  go_wp2_with fail
  all_goals try (go_ret; exact ⟨ret_bool (by simp_all [beq_toListBytes']), (Below.then_ (Below.box2 hb1) hb2)⟩)
  refine (eqRepoS_any (x := a2) (y := d2) _ (by exact ((((h2.allocN _).allocN _).step hb1).step hb2)) (by exact ((((g2.allocN _).allocN _).step hb1).step hb2))).mono ?_
  rintro e w3 ⟨rfl, hb3⟩
  obtain ⟨hcc3, hff3⟩ := bcell hb3
  have hz3 : w.heap.size + 1 < w3.heap.size := by have := hb3.size; omega
  have hy3 : w.heap.size < w3.heap.size := by omega
  cases hd3 : decide (a2 = d2)
  · have hne3 := of_decide_eq_false hd3
    clear hd3
    have HN := hide hne3; clear hne3
    go_wp2
    go_ret; exact ⟨ret_bool (by have := HN.out; simp [this]), (Below.then_ (Below.then_ (Below.box2 hb1) hb2) hb3)⟩
  have he3 : a2 = d2 := of_decide_eq_true hd3
  clear hd3
  have HE3 := hide he3; clear he3
  go_wp2
  all_goals (go_ret; exact ⟨ret_bool (by have q1 := HE1.out; have q2 := HE2.out; have q3 := HE3.out; simp_all [beq_toListBytes']), (Below.then_ (Below.then_ (Below.box2 hb1) hb2) hb3)⟩)

end Go.Proofs.YtnogkkcmcnhodaaDoor
