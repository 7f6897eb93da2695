/- Walks of the laws' own functions on data. By program (wip/gen/gen_walk.py): sz:LineS to:Line to:LineS eq:Line eq:LineS to:Edit to:EditS eq:Edit eq:EditS to:Rule eq:Rule -/
import Derived.Test.YtbbfgfnkbbecoaaBase
namespace Go.Proofs.Ytbbfgfnkbbecoaa
open Go.RowKit
attribute [local go_sem ↓] Go.wp_at_zero Go.wp_at_succ

set_option maxHeartbeats 400000 in
theorem szLineS_any (A : Option Addr) (n c : Nat) (left : Int) (h1 : n ≤ 9223372036854775807) (h2 : 0 ≤ left) (h3 : left ≤ 2000000) (w : World) :
    Calls Try.prog 5 #[.slice A n c, .int .i64 left] w fun e w' => e = .returned (.int .i64 (lessLen left n)) ∧ w = w' := by
  go_enter Try.func5, Try.ntmps5
  go_wp2
  · go_ret
    exact ⟨ret_int (by unfold lessLen; rw [if_pos (by assumption)]), rfl⟩
  · go_ret
    exact ⟨ret_int (by unfold lessLen; rw [if_neg (by omega)]), rfl⟩

set_option maxHeartbeats 1000000 in
theorem toLine_any (x : Line) (w : World) :
    Calls Try.prog 17 #[.agg (encLine x).toArray] w fun e w' => e = .returned (.agg (encLine x).toArray) ∧ Below w.heap.size w w' := by
  unfold encLine
  go_enter Try.func17, Try.ntmps17
  go_wp2
  exact bodyPost_ret (v := .agg (encLine x).toArray) (by simp [results, Try.results17, go_sem, encLine]) rfl ⟨rfl, (by repeat (first | exact Below.refl _ _ | assumption | refine Below.alloc ?_ (by simp <;> omega) _ | refine Below.drew ?_))⟩

theorem info_45_W1 : (Try.prog.info? 45).map (fun i => (i.zero, i.size, i.bytes)) = some (some (.agg #[.int .i64 0, .int .i64 0, .int .i64 0, .int .i64 0]), 4, 32) := by kernel_rfl
set_option maxHeartbeats 1000000 in
theorem toLineS_any {A : Option Addr} {n c : Nat} {x : List (Line)} {fx : List Nat} (w : World) (hx : SlR Rp.line w A n c x fx) (hl : x.length ≤ 1048576) :
    Calls Try.prog 7 #[.slice A n c] w (FreshS Rp.line w x) := by
  obtain ⟨rfl, hcx, hmx, _⟩ := id hx
  unfold maxLen at hmx
  obtain ⟨i0, hi, hz0, hz1, hz2⟩ := info_parts info_45_W1
  go_enter Try.func7, Try.ntmps7
  go_wp2_with (at_make; refine wpList_make_full _ rfl _ _ 24 rfl w.heap.size 45 i0 _ 4 Try.underlying24 hi hz0 hz1 .i64 .i64 _ _ x.length rfl rfl rfl rfl (by rw [hz2]; omega) (by unfold maxLen; omega) (Nat.le_refl _) ?_)
  intro w0 hown hgrow
  have hT : ToRel Rp.line w x zeroLine (some ⟨w.heap.size, 0, none⟩) 0 w0 := ToRel.start (fun _ => ⟨rfl, rfl⟩) hown ((Below.refl _ _).grown hgrow (Nat.le_refl _) (fun k h => by cases h))
  clear hown hgrow
  generalize hG : (some ⟨w.heap.size, 0, none⟩ : Option Addr) = G at hT ⊢
  clear hG
  go_wp2
  go_loopw [4] (fun i wr => ∃ k : Nat, k ≤ x.length ∧ i = .int .i64 k ∧ ToRel Rp.line w x zeroLine G k wr) (fun i _ => x.length - (intOf i).toNat)
  case atStart => exact ⟨0, Nat.zero_le _, rfl, hT⟩
  case round =>
    obtain ⟨k, hk, rfl, hrel⟩ := hrel
    by_cases hlt : k < x.length
    · obtain ⟨g, go, cz, rfl, hzl, hst, hbl, hcl⟩ := hrel.next hlt
      obtain ⟨b, o, rfl, hb, hm, h0, h1, h2, h3⟩ := line_cells (hx.below hbl (Nat.le_refl _)) hlt
      have hkk : Rp.line.k = 4 := rfl
      rw [hkk] at hzl hcl
      simp only [hkk] at hst hcl
      match cz, hzl with
      | [t0, t1, t2, t3], _ =>
        clear hzl
        go_wp2_with fail
        refine (toLine_any x[k] _).mono ?_; rintro e w1 ⟨rfl, hb1⟩; simp only [encLine]
        obtain ⟨hcz, hfz⟩ := hst w1 hb1
        obtain ⟨z0, z1, z2, z3⟩ : w1.cell? ⟨g, go + k * 4, none⟩ = some t0 ∧ w1.cell? ⟨g, go + k * 4 + 1, none⟩ = some t1 ∧ w1.cell? ⟨g, go + k * 4 + 2, none⟩ = some t2 ∧ w1.cell? ⟨g, go + k * 4 + 3, none⟩ = some t3 := ⟨hcz.at0, hcz.tail.at0, hcz.tail.tail.at0, hcz.tail.tail.tail.at0⟩
        have y0 := hfz (go + k * 4); have y1 := hfz (go + k * 4 + 1); have y2 := hfz (go + k * 4 + 2); have y3 := hfz (go + k * 4 + 3)
        clear hcz hst
        go_wp2
        refine ⟨⟨k + 1, by omega, by go_num, ?_⟩, by simp [intOf]; omega⟩
        exact hcl w1 (encLine x[k]) [] hb1 ⟨rfl, rfl⟩ List.nodup_nil (by simp) (Free.nil _)
    · have hk' : k = x.length := by omega
      subst hk'
      go_wp2
      go_ret
      exact hrel.finish

set_option maxHeartbeats 1000000 in
theorem eqLine_any (x y : Line) (w : World) :
    Calls Try.prog 18 #[.agg (encLine x).toArray, .agg (encLine y).toArray] w fun e w' => e = .returned (.bool (decide (x = y))) ∧ Below w.heap.size w w' := by
  obtain ⟨a0, a1, a2, a3⟩ := x
  obtain ⟨d0, d1, d2, d3⟩ := y
  unfold encLine
  go_enter Try.func18, Try.ntmps18
  go_wp2
  all_goals
    go_ret
    exact ⟨ret_bool (by simp_all), (by repeat (first | exact Below.refl _ _ | assumption | refine Below.alloc ?_ (by simp <;> omega) _ | refine Below.drew ?_))⟩

set_option maxHeartbeats 1000000 in
theorem eqLineS_any {A A' : Option Addr} {n n' c c' : Nat} {x y : List (Line)} {fx fy : List Nat} (w : World) (hx : SlR Rp.line w A n c x fx) (hy : SlR Rp.line w A' n' c' y fy) :
    Calls Try.prog 9 #[.slice A n c, .slice A' n' c'] w fun e w' => e = .returned (.bool (decide (x = y))) ∧ Below w.heap.size w w' := by
  obtain ⟨rfl, hcx, hmx, _⟩ := id hx
  obtain ⟨rfl, hcy, hmy, _⟩ := id hy
  unfold maxLen at hmx hmy
  by_cases hl : x.length = y.length
  · have e0 : ((x.length : Int) != y.length) = false := by simp [hl]
    have HL := hide hl
    clear hl
    go_enter Try.func9, Try.ntmps9
    go_wp2
    go_loopw [5] (fun i wr => ∃ k : Nat, k ≤ x.length ∧ i = .int .i64 k ∧ agree x y k ∧ Below w.heap.size w wr) (fun i _ => x.length - (intOf i).toNat)
    case atStart => exact ⟨0, Nat.zero_le _, rfl, rfl, Below.refl _ _⟩
    case round =>
      obtain ⟨k, hk, rfl, hag, hbl⟩ := hrel
      by_cases hlt : k < x.length
      · obtain ⟨b, o, rfl, hb, hm, h0, h1, h2, h3⟩ := line_cells (hx.below hbl (Nat.le_refl _)) hlt
        obtain ⟨b', o', rfl, hb', hm', g0, g1, g2, g3⟩ := line_cells (hy.below hbl (Nat.le_refl _)) (i := k) (by have := HL.out; omega)
        have hlt' : k < y.length := by have := HL.out; omega
        go_wp2_with fail
        go_region_held3 (fun w' => w'.cell? ⟨b, o + k * 4, none⟩ = some (.int .i64 x[k].user) ∧ w'.cell? ⟨b, o + k * 4 + 1, none⟩ = some (.int .i64 x[k].repo) ∧ w'.cell? ⟨b, o + k * 4 + 2, none⟩ = some (.int .i64 x[k].kind) ∧ w'.cell? ⟨b, o + k * 4 + 3, none⟩ = some (.int .i64 x[k].code) ∧ w'.cell? ⟨b', o' + k * 4, none⟩ = some (.int .i64 y[k].user) ∧ w'.cell? ⟨b', o' + k * 4 + 1, none⟩ = some (.int .i64 y[k].repo) ∧ w'.cell? ⟨b', o' + k * 4 + 2, none⟩ = some (.int .i64 y[k].kind) ∧ w'.cell? ⟨b', o' + k * 4 + 3, none⟩ = some (.int .i64 y[k].code))
          (first | exact ⟨h0, h1, h2, h3, g0, g1, g2, g3⟩ | exact ⟨(hb1.cell hb).trans h0, (hb1.cell hb).trans h1, (hb1.cell hb).trans h2, (hb1.cell hb).trans h3, (hb1.cell hb').trans g0, (hb1.cell hb').trans g1, (hb1.cell hb').trans g2, (hb1.cell hb').trans g3⟩)
          (first | (go_at_call 18; refine (eqLine_any x[k] y[k] _).mono ?_; rintro e w1 ⟨rfl, hb1⟩))
        have hB : Below w.heap.size w w1 := hbl.drew.trans (hb1.mono hbl.size)
        clear hb1 h0 h1 h2 h3 g0 g1 g2 g3
        cases hd : decide (x[k] = y[k])
        · have HN := hide (agree_not hlt hlt' (by simpa using hd))
          clear hd
          go_wp2
          go_ret
          exact ⟨ret_bool (by simpa using HN.out), hB⟩
        · have HN := hide (agree_next hag hlt hlt' (by simpa using hd))
          clear hd
          go_wp2
          refine ⟨⟨k + 1, by omega, by go_num, HN.out, hB⟩, by simp [intOf]; omega⟩
      · have hk' : k = x.length := by omega
        subst hk'
        go_wp2
        go_ret
        exact ⟨ret_bool (by simpa using agree_all hag HL.out), hbl⟩
  · have e0 : ((x.length : Int) != y.length) = true := by simp; omega
    have HN := hide (ne_of_length hl)
    clear hl
    go_enter Try.func9, Try.ntmps9
    go_wp2
    go_ret
    exact ⟨ret_bool (by simpa using HN.out), Below.refl _ _⟩

set_option maxHeartbeats 1000000 in
theorem toEdit_any (x : Edit) (w : World) :
    Calls Try.prog 26 #[.agg (encEdit x).toArray] w fun e w' => e = .returned (.agg (encEdit x).toArray) ∧ Below w.heap.size w w' := by
  unfold encEdit
  go_enter Try.func26, Try.ntmps26
  go_wp2
  exact bodyPost_ret (v := .agg (encEdit x).toArray) (by simp [results, Try.results26, go_sem, encEdit]) rfl ⟨rfl, (by repeat (first | exact Below.refl _ _ | assumption | refine Below.alloc ?_ (by simp <;> omega) _ | refine Below.drew ?_))⟩

theorem info_58_W1 : (Try.prog.info? 58).map (fun i => (i.zero, i.size, i.bytes)) = some (some (.agg #[.string ByteArray.empty, .string ByteArray.empty, .bool false]), 3, 40) := by kernel_rfl
set_option maxHeartbeats 1000000 in
theorem toEditS_any {A : Option Addr} {n c : Nat} {x : List (Edit)} {fx : List Nat} (w : World) (hx : SlR Rp.edit w A n c x fx) (hl : x.length ≤ 1048576) :
    Calls Try.prog 21 #[.slice A n c] w (FreshS Rp.edit w x) := by
  obtain ⟨rfl, hcx, hmx, _⟩ := id hx
  unfold maxLen at hmx
  obtain ⟨i0, hi, hz0, hz1, hz2⟩ := info_parts info_58_W1
  go_enter Try.func21, Try.ntmps21
  go_wp2_with (at_make; refine wpList_make_full _ rfl _ _ 37 rfl w.heap.size 58 i0 _ 3 Try.underlying37 hi hz0 hz1 .i64 .i64 _ _ x.length rfl rfl rfl rfl (by rw [hz2]; omega) (by unfold maxLen; omega) (Nat.le_refl _) ?_)
  intro w0 hown hgrow
  have hT : ToRel Rp.edit w x zeroEdit (some ⟨w.heap.size, 0, none⟩) 0 w0 := ToRel.start (fun _ => ⟨rfl, rfl⟩) hown ((Below.refl _ _).grown hgrow (Nat.le_refl _) (fun k h => by cases h))
  clear hown hgrow
  generalize hG : (some ⟨w.heap.size, 0, none⟩ : Option Addr) = G at hT ⊢
  clear hG
  go_wp2
  go_loopw [4] (fun i wr => ∃ k : Nat, k ≤ x.length ∧ i = .int .i64 k ∧ ToRel Rp.edit w x zeroEdit G k wr) (fun i _ => x.length - (intOf i).toNat)
  case atStart => exact ⟨0, Nat.zero_le _, rfl, hT⟩
  case round =>
    obtain ⟨k, hk, rfl, hrel⟩ := hrel
    by_cases hlt : k < x.length
    · obtain ⟨g, go, cz, rfl, hzl, hst, hbl, hcl⟩ := hrel.next hlt
      obtain ⟨b, o, rfl, hb, hm, h0, h1, h2⟩ := edit_cells (hx.below hbl (Nat.le_refl _)) hlt
      have hkk : Rp.edit.k = 3 := rfl
      rw [hkk] at hzl hcl
      simp only [hkk] at hst hcl
      match cz, hzl with
      | [t0, t1, t2], _ =>
        clear hzl
        go_wp2_with fail
        refine (toEdit_any x[k] _).mono ?_; rintro e w1 ⟨rfl, hb1⟩; simp only [encEdit]
        obtain ⟨hcz, hfz⟩ := hst w1 hb1
        obtain ⟨z0, z1, z2⟩ : w1.cell? ⟨g, go + k * 3, none⟩ = some t0 ∧ w1.cell? ⟨g, go + k * 3 + 1, none⟩ = some t1 ∧ w1.cell? ⟨g, go + k * 3 + 2, none⟩ = some t2 := ⟨hcz.at0, hcz.tail.at0, hcz.tail.tail.at0⟩
        have y0 := hfz (go + k * 3); have y1 := hfz (go + k * 3 + 1); have y2 := hfz (go + k * 3 + 2)
        clear hcz hst
        go_wp2
        refine ⟨⟨k + 1, by omega, by go_num, ?_⟩, by simp [intOf]; omega⟩
        exact hcl w1 (encEdit x[k]) [] hb1 ⟨rfl, rfl⟩ List.nodup_nil (by simp) (Free.nil _)
    · have hk' : k = x.length := by omega
      subst hk'
      go_wp2
      go_ret
      exact hrel.finish

set_option maxHeartbeats 1000000 in
theorem eqEdit_any (x y : Edit) (w : World) :
    Calls Try.prog 27 #[.agg (encEdit x).toArray, .agg (encEdit y).toArray] w fun e w' => e = .returned (.bool (decide (x = y))) ∧ Below w.heap.size w w' := by
  obtain ⟨a0, a1, a2⟩ := x
  obtain ⟨d0, d1, d2⟩ := y
  unfold encEdit
  go_enter Try.func27, Try.ntmps27
  go_wp2
  all_goals
    go_ret
    exact ⟨ret_bool (by simp_all [beq_toListBytes']), (by repeat (first | exact Below.refl _ _ | assumption | refine Below.alloc ?_ (by simp <;> omega) _ | refine Below.drew ?_))⟩

set_option maxHeartbeats 1000000 in
theorem eqEditS_any {A A' : Option Addr} {n n' c c' : Nat} {x y : List (Edit)} {fx fy : List Nat} (w : World) (hx : SlR Rp.edit w A n c x fx) (hy : SlR Rp.edit w A' n' c' y fy) :
    Calls Try.prog 23 #[.slice A n c, .slice A' n' c'] w fun e w' => e = .returned (.bool (decide (x = y))) ∧ Below w.heap.size w w' := by
  obtain ⟨rfl, hcx, hmx, _⟩ := id hx
  obtain ⟨rfl, hcy, hmy, _⟩ := id hy
  unfold maxLen at hmx hmy
  by_cases hl : x.length = y.length
  · have e0 : ((x.length : Int) != y.length) = false := by simp [hl]
    have HL := hide hl
    clear hl
    go_enter Try.func23, Try.ntmps23
    go_wp2
    go_loopw [5] (fun i wr => ∃ k : Nat, k ≤ x.length ∧ i = .int .i64 k ∧ agree x y k ∧ Below w.heap.size w wr) (fun i _ => x.length - (intOf i).toNat)
    case atStart => exact ⟨0, Nat.zero_le _, rfl, rfl, Below.refl _ _⟩
    case round =>
      obtain ⟨k, hk, rfl, hag, hbl⟩ := hrel
      by_cases hlt : k < x.length
      · obtain ⟨b, o, rfl, hb, hm, h0, h1, h2⟩ := edit_cells (hx.below hbl (Nat.le_refl _)) hlt
        obtain ⟨b', o', rfl, hb', hm', g0, g1, g2⟩ := edit_cells (hy.below hbl (Nat.le_refl _)) (i := k) (by have := HL.out; omega)
        have hlt' : k < y.length := by have := HL.out; omega
        go_wp2_with fail
        go_region_held3 (fun w' => w'.cell? ⟨b, o + k * 3, none⟩ = some (.string x[k].path) ∧ w'.cell? ⟨b, o + k * 3 + 1, none⟩ = some (.string x[k].bytes) ∧ w'.cell? ⟨b, o + k * 3 + 2, none⟩ = some (.bool x[k].gone) ∧ w'.cell? ⟨b', o' + k * 3, none⟩ = some (.string y[k].path) ∧ w'.cell? ⟨b', o' + k * 3 + 1, none⟩ = some (.string y[k].bytes) ∧ w'.cell? ⟨b', o' + k * 3 + 2, none⟩ = some (.bool y[k].gone))
          (first | exact ⟨h0, h1, h2, g0, g1, g2⟩ | exact ⟨(hb1.cell hb).trans h0, (hb1.cell hb).trans h1, (hb1.cell hb).trans h2, (hb1.cell hb').trans g0, (hb1.cell hb').trans g1, (hb1.cell hb').trans g2⟩)
          (first | (go_at_call 27; refine (eqEdit_any x[k] y[k] _).mono ?_; rintro e w1 ⟨rfl, hb1⟩))
        have hB : Below w.heap.size w w1 := hbl.drew.trans (hb1.mono hbl.size)
        clear hb1 h0 h1 h2 g0 g1 g2
        cases hd : decide (x[k] = y[k])
        · have HN := hide (agree_not hlt hlt' (by simpa using hd))
          clear hd
          go_wp2
          go_ret
          exact ⟨ret_bool (by simpa using HN.out), hB⟩
        · have HN := hide (agree_next hag hlt hlt' (by simpa using hd))
          clear hd
          go_wp2
          refine ⟨⟨k + 1, by omega, by go_num, HN.out, hB⟩, by simp [intOf]; omega⟩
      · have hk' : k = x.length := by omega
        subst hk'
        go_wp2
        go_ret
        exact ⟨ret_bool (by simpa using agree_all hag HL.out), hbl⟩
  · have e0 : ((x.length : Int) != y.length) = true := by simp; omega
    have HN := hide (ne_of_length hl)
    clear hl
    go_enter Try.func23, Try.ntmps23
    go_wp2
    go_ret
    exact ⟨ret_bool (by simpa using HN.out), Below.refl _ _⟩

set_option maxHeartbeats 1000000 in
theorem toRule_any (x : Rule) (w : World) :
    Calls Try.prog 22 #[.agg (encRule x).toArray] w fun e w' => e = .returned (.agg (encRule x).toArray) ∧ Below w.heap.size w w' := by
  unfold encRule
  go_enter Try.func22, Try.ntmps22
  go_wp2
  exact bodyPost_ret (v := .agg (encRule x).toArray) (by simp [results, Try.results22, go_sem, encRule]) rfl ⟨rfl, (by repeat (first | exact Below.refl _ _ | assumption | refine Below.alloc ?_ (by simp <;> omega) _ | refine Below.drew ?_))⟩

set_option maxHeartbeats 1000000 in
theorem eqRule_any (x y : Rule) (w : World) :
    Calls Try.prog 24 #[.agg (encRule x).toArray, .agg (encRule y).toArray] w fun e w' => e = .returned (.bool (decide (x = y))) ∧ Below w.heap.size w w' := by
  obtain ⟨a0, a1, a2, a3⟩ := x
  obtain ⟨d0, d1, d2, d3⟩ := y
  unfold encRule
  go_enter Try.func24, Try.ntmps24
  go_wp2
  all_goals
    go_ret
    exact ⟨ret_bool (by simp_all [beq_toListBytes']), (by repeat (first | exact Below.refl _ _ | assumption | refine Below.alloc ?_ (by simp <;> omega) _ | refine Below.drew ?_))⟩

end Go.Proofs.Ytbbfgfnkbbecoaa
