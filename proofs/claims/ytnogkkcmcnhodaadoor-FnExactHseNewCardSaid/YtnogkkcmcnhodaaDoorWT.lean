/- Walks of the laws' own functions on data. By program (wip/gen/gen_walk.py): to:IntS to:Rule to:RuleS to:File to:FileS to:FileSS to:Ref to:RefS to:Repo to:RepoS to:House -/
import Derived.Test.YtnogkkcmcnhodaaDoorBase
namespace Go.Proofs.YtnogkkcmcnhodaaDoor
open Go.RowKit
attribute [local go_sem ↓] Go.wp_at_zero Go.wp_at_succ

theorem info_3_WT : (Tryd.prog.info? 3).map (fun i => (i.zero, i.size, i.bytes)) = some (some (.int .i64 0), 1, 8) := by kernel_rfl
set_option maxHeartbeats 1000000 in
theorem toIntS_any {A : Option Addr} {n c : Nat} {x : List (Int)} {fx : List Nat} (w : World) (hx : SlR Rp.int w A n c x fx) (hl : x.length ≤ 1048576) :
    Calls Tryd.prog 7 #[.slice A n c] w (FreshS Rp.int w x) := by
  obtain ⟨rfl, hcx, hmx, _⟩ := id hx
  unfold maxLen at hmx
  obtain ⟨i0, hi, hz0, hz1, hz2⟩ := info_parts info_3_WT
  go_enter Tryd.func7, Tryd.ntmps7
  go_wp2_with (at_make; refine wpList_make_full _ rfl _ _ 22 rfl w.heap.size 3 i0 _ 1 Tryd.underlying22 hi hz0 hz1 .i64 .i64 _ _ x.length rfl rfl rfl rfl (by rw [hz2]; omega) (by unfold maxLen; omega) (Nat.le_refl _) ?_)
  intro w0 hown hgrow
  have hT : ToRel Rp.int w x 0 (some ⟨w.heap.size, 0, none⟩) 0 w0 := ToRel.start1 rfl (fun _ => ⟨rfl, rfl⟩) hown ((Below.refl _ _).grown hgrow (Nat.le_refl _) (fun k h => by cases h))
  clear hown hgrow
  generalize hG : (some ⟨w.heap.size, 0, none⟩ : Option Addr) = G at hT ⊢
  clear hG
  go_wp2
  go_loopw [4] (fun i wr => ∃ k : Nat, k ≤ x.length ∧ i = .int .i64 k ∧ ToRel Rp.int w x 0 G k wr) (fun i _ => x.length - (intOf i).toNat)
  case atStart => exact ⟨0, Nat.zero_le _, rfl, hT⟩
  case round =>
    obtain ⟨k, hk, rfl, hrel⟩ := hrel
    by_cases hlt : k < x.length
    · obtain ⟨g, go, cz, rfl, hzl, hst, hbl, hcl⟩ := hrel.next hlt
      obtain ⟨b, o, rfl, hb, hm, h0⟩ := int_cells (hx.below hbl (Nat.le_refl _)) hlt
      have hkk : Rp.int.k = 1 := rfl
      rw [hkk] at hzl hcl
      simp only [hkk, Nat.mul_one] at hst hcl
      match cz, hzl with
      | [t0], _ =>
        clear hzl
        obtain ⟨hcz, hfz⟩ := hst wr (Below.refl _ _)
        have z0 : wr.cell? ⟨g, go + k, none⟩ = some t0 := hcz.at0
        have y0 := hfz (go + k)
        clear hcz hst
        go_wp2
        refine ⟨⟨k + 1, by omega, by go_num, ?_⟩, by simp [intOf]; omega⟩
        exact hcl wr [.int .i64 x[k]] [] (Below.refl _ _) ⟨rfl, rfl⟩ List.nodup_nil (by simp) (Free.nil _)
    · have hk' : k = x.length := by omega
      subst hk'
      go_wp2
      go_ret
      exact hrel.finish

set_option maxHeartbeats 1000000 in
theorem toRule_any (x : Rule) (w : World) :
    Calls Tryd.prog 107 #[.agg (encRule x).toArray] w fun e w' => e = .returned (.agg (encRule x).toArray) ∧ Below w.heap.size w w' := by
  unfold encRule
  go_enter Tryd.func107, Tryd.ntmps107
  go_wp2
  exact bodyPost_ret (v := .agg (encRule x).toArray) (by simp [results, Tryd.results107, go_sem, encRule]) rfl ⟨rfl, (by repeat (first | exact Below.refl _ _ | assumption | refine Below.alloc ?_ (by simp <;> omega) _ | refine Below.drew ?_))⟩

theorem info_102_WT : (Tryd.prog.info? 102).map (fun i => (i.zero, i.size, i.bytes)) = some (some (.agg #[.int .i64 0, .string ByteArray.empty, .string ByteArray.empty, .bool false]), 4, 48) := by kernel_rfl
set_option maxHeartbeats 1000000 in
theorem toRuleS_any {A : Option Addr} {n c : Nat} {x : List (Rule)} {fx : List Nat} (w : World) (hx : SlR Rp.rule w A n c x fx) (hl : x.length ≤ 1048576) :
    Calls Tryd.prog 89 #[.slice A n c] w (FreshS Rp.rule w x) := by
  obtain ⟨rfl, hcx, hmx, _⟩ := id hx
  unfold maxLen at hmx
  obtain ⟨i0, hi, hz0, hz1, hz2⟩ := info_parts info_102_WT
  go_enter Tryd.func89, Tryd.ntmps89
  go_wp2_with (at_make; refine wpList_make_full _ rfl _ _ 49 rfl w.heap.size 102 i0 _ 4 Tryd.underlying49 hi hz0 hz1 .i64 .i64 _ _ x.length rfl rfl rfl rfl (by rw [hz2]; omega) (by unfold maxLen; omega) (Nat.le_refl _) ?_)
  intro w0 hown hgrow
  have hT : ToRel Rp.rule w x zeroRule (some ⟨w.heap.size, 0, none⟩) 0 w0 := ToRel.start (fun _ => ⟨rfl, rfl⟩) hown ((Below.refl _ _).grown hgrow (Nat.le_refl _) (fun k h => by cases h))
  clear hown hgrow
  generalize hG : (some ⟨w.heap.size, 0, none⟩ : Option Addr) = G at hT ⊢
  clear hG
  go_wp2
  go_loopw [4] (fun i wr => ∃ k : Nat, k ≤ x.length ∧ i = .int .i64 k ∧ ToRel Rp.rule w x zeroRule G k wr) (fun i _ => x.length - (intOf i).toNat)
  case atStart => exact ⟨0, Nat.zero_le _, rfl, hT⟩
  case round =>
    obtain ⟨k, hk, rfl, hrel⟩ := hrel
    by_cases hlt : k < x.length
    · obtain ⟨g, go, cz, rfl, hzl, hst, hbl, hcl⟩ := hrel.next hlt
      obtain ⟨b, o, rfl, hb, hm, h0, h1, h2, h3⟩ := rule_cells (hx.below hbl (Nat.le_refl _)) hlt
      have hkk : Rp.rule.k = 4 := rfl
      rw [hkk] at hzl hcl
      simp only [hkk] at hst hcl
      match cz, hzl with
      | [t0, t1, t2, t3], _ =>
        clear hzl
        go_wp2_with fail
        refine (toRule_any x[k] _).mono ?_; rintro e w1 ⟨rfl, hb1⟩; simp only [encRule]
        obtain ⟨hcz, hfz⟩ := hst w1 hb1
        have z0 : w1.cell? ⟨g, go + k * 4, none⟩ = some t0 := hcz.at0; have z1 : w1.cell? ⟨g, go + k * 4 + 1, none⟩ = some t1 := hcz.tail.at0; have z2 : w1.cell? ⟨g, go + k * 4 + 2, none⟩ = some t2 := hcz.tail.tail.at0; have z3 : w1.cell? ⟨g, go + k * 4 + 3, none⟩ = some t3 := hcz.tail.tail.tail.at0
        have y0 := hfz (go + k * 4); have y1 := hfz (go + k * 4 + 1); have y2 := hfz (go + k * 4 + 2); have y3 := hfz (go + k * 4 + 3)
        clear hcz hst
        go_wp2
        refine ⟨⟨k + 1, by omega, by go_num, ?_⟩, by simp [intOf]; omega⟩
        exact hcl w1 (encRule x[k]) [] hb1 ⟨rfl, rfl⟩ List.nodup_nil (by simp) (Free.nil _)
    · have hk' : k = x.length := by omega
      subst hk'
      go_wp2
      go_ret
      exact hrel.finish

set_option maxHeartbeats 1000000 in
theorem toFile_any (x : File) (w : World) :
    Calls Tryd.prog 129 #[.agg (encFile x).toArray] w fun e w' => e = .returned (.agg (encFile x).toArray) ∧ Below w.heap.size w w' := by
  unfold encFile
  go_enter Tryd.func129, Tryd.ntmps129
  go_wp2
  exact bodyPost_ret (v := .agg (encFile x).toArray) (by simp [results, Tryd.results129, go_sem, encFile]) rfl ⟨rfl, (by repeat (first | exact Below.refl _ _ | assumption | refine Below.alloc ?_ (by simp <;> omega) _ | refine Below.drew ?_))⟩

theorem info_92_WT : (Tryd.prog.info? 92).map (fun i => (i.zero, i.size, i.bytes)) = some (some (.agg #[.string ByteArray.empty, .string ByteArray.empty]), 2, 32) := by kernel_rfl
set_option maxHeartbeats 1000000 in
theorem toFileS_any {A : Option Addr} {n c : Nat} {x : List (File)} {fx : List Nat} (w : World) (hx : SlR Rp.file w A n c x fx) (hl : x.length ≤ 1048576) :
    Calls Tryd.prog 123 #[.slice A n c] w (FreshS Rp.file w x) := by
  obtain ⟨rfl, hcx, hmx, _⟩ := id hx
  unfold maxLen at hmx
  obtain ⟨i0, hi, hz0, hz1, hz2⟩ := info_parts info_92_WT
  go_enter Tryd.func123, Tryd.ntmps123
  go_wp2_with (at_make; refine wpList_make_full _ rfl _ _ 63 rfl w.heap.size 92 i0 _ 2 Tryd.underlying63 hi hz0 hz1 .i64 .i64 _ _ x.length rfl rfl rfl rfl (by rw [hz2]; omega) (by unfold maxLen; omega) (Nat.le_refl _) ?_)
  intro w0 hown hgrow
  have hT : ToRel Rp.file w x zeroFile (some ⟨w.heap.size, 0, none⟩) 0 w0 := ToRel.start (fun _ => ⟨rfl, rfl⟩) hown ((Below.refl _ _).grown hgrow (Nat.le_refl _) (fun k h => by cases h))
  clear hown hgrow
  generalize hG : (some ⟨w.heap.size, 0, none⟩ : Option Addr) = G at hT ⊢
  clear hG
  go_wp2
  go_loopw [4] (fun i wr => ∃ k : Nat, k ≤ x.length ∧ i = .int .i64 k ∧ ToRel Rp.file w x zeroFile G k wr) (fun i _ => x.length - (intOf i).toNat)
  case atStart => exact ⟨0, Nat.zero_le _, rfl, hT⟩
  case round =>
    obtain ⟨k, hk, rfl, hrel⟩ := hrel
    by_cases hlt : k < x.length
    · obtain ⟨g, go, cz, rfl, hzl, hst, hbl, hcl⟩ := hrel.next hlt
      obtain ⟨b, o, rfl, hb, hm, h0, h1⟩ := file_cells (hx.below hbl (Nat.le_refl _)) hlt
      have hkk : Rp.file.k = 2 := rfl
      rw [hkk] at hzl hcl
      simp only [hkk] at hst hcl
      match cz, hzl with
      | [t0, t1], _ =>
        clear hzl
        go_wp2_with fail
        refine (toFile_any x[k] _).mono ?_; rintro e w1 ⟨rfl, hb1⟩; simp only [encFile]
        obtain ⟨hcz, hfz⟩ := hst w1 hb1
        have z0 : w1.cell? ⟨g, go + k * 2, none⟩ = some t0 := hcz.at0; have z1 : w1.cell? ⟨g, go + k * 2 + 1, none⟩ = some t1 := hcz.tail.at0
        have y0 := hfz (go + k * 2); have y1 := hfz (go + k * 2 + 1)
        clear hcz hst
        go_wp2
        refine ⟨⟨k + 1, by omega, by go_num, ?_⟩, by simp [intOf]; omega⟩
        exact hcl w1 (encFile x[k]) [] hb1 ⟨rfl, rfl⟩ List.nodup_nil (by simp) (Free.nil _)
    · have hk' : k = x.length := by omega
      subst hk'
      go_wp2
      go_ret
      exact hrel.finish

theorem info_63_WT : (Tryd.prog.info? 63).map (fun i => (i.zero, i.size, i.bytes)) = some (some (.slice none 0 0), 1, 24) := by kernel_rfl
set_option maxHeartbeats 1000000 in
theorem toFileSS_any {A : Option Addr} {n c : Nat} {x : List (List (File))} {fx : List Nat} (w : World) (hx : SlR (Rp.slice Rp.file) w A n c x fx) (hl : x.length ≤ 1048576) (hsz : ∀ k (h : k < x.length), szL szFile x[k] ≤ 1048576) :
    Calls Tryd.prog 118 #[.slice A n c] w (FreshS (Rp.slice Rp.file) w x) := by
  obtain ⟨rfl, hcx, hmx, _⟩ := id hx
  unfold maxLen at hmx
  obtain ⟨i0, hi, hz0, hz1, hz2⟩ := info_parts info_63_WT
  go_enter Tryd.func118, Tryd.ntmps118
  go_wp2_with (at_make; refine wpList_make_full _ rfl _ _ 59 rfl w.heap.size 63 i0 _ 1 Tryd.underlying59 hi hz0 hz1 .i64 .i64 _ _ x.length rfl rfl rfl rfl (by rw [hz2]; omega) (by unfold maxLen; omega) (Nat.le_refl _) ?_)
  intro w0 hown hgrow
  have hT : ToRel (Rp.slice Rp.file) w x [] (some ⟨w.heap.size, 0, none⟩) 0 w0 := ToRel.start1 rfl (fun _ => ⟨none, 0, 0, rfl, SlR.nil⟩) hown ((Below.refl _ _).grown hgrow (Nat.le_refl _) (fun k h => by cases h))
  clear hown hgrow
  generalize hG : (some ⟨w.heap.size, 0, none⟩ : Option Addr) = G at hT ⊢
  clear hG
  go_wp2
  go_loopw [4] (fun i wr => ∃ k : Nat, k ≤ x.length ∧ i = .int .i64 k ∧ ToRel (Rp.slice Rp.file) w x [] G k wr) (fun i _ => x.length - (intOf i).toNat)
  case atStart => exact ⟨0, Nat.zero_le _, rfl, hT⟩
  case round =>
    obtain ⟨k, hk, rfl, hrel⟩ := hrel
    by_cases hlt : k < x.length
    · obtain ⟨g, go, cz, rfl, hzl, hst, hbl, hcl⟩ := hrel.next hlt
      obtain ⟨b, o, A0, n0, c0, f0, rfl, hb, hm, h0, hs0, hsub⟩ := slice_cells (hx.below hbl (Nat.le_refl _)) hlt
      have hkk : (Rp.slice Rp.file).k = 1 := rfl
      rw [hkk] at hzl hcl
      simp only [hkk, Nat.mul_one] at hst hcl
      match cz, hzl with
      | [t0], _ =>
        clear hzl
        go_wp2_with fail
        refine (toFileS_any _ hs0 (by have := hsz k hlt; first | exact this | exact Nat.le_trans (szL_len _ _) this)).mono ?_; rintro e w1 ⟨B1, m1, c1, q1, rfl, hR1, hq1, hq2, hq3, hb1⟩
        obtain ⟨hcz, hfz⟩ := hst w1 hb1
        have z0 : w1.cell? ⟨g, go + k, none⟩ = some t0 := hcz.at0
        have y0 := hfz (go + k)
        clear hcz hst
        go_wp2
        refine ⟨⟨k + 1, by omega, by go_num, ?_⟩, by simp [intOf]; omega⟩
        exact hcl w1 [.slice B1 m1 c1] q1 hb1 ⟨B1, m1, c1, rfl, hR1⟩ hq1 hq2 hq3
    · have hk' : k = x.length := by omega
      subst hk'
      go_wp2
      go_ret
      exact hrel.finish

set_option maxHeartbeats 2000000 in
theorem toRef_any {cs : List Value} {x : Ref} {fx : List Nat} (w : World) (hx : Rp.ref.R w cs x fx) (hsz : szRef x ≤ 1048576) :
    Calls Tryd.prog 108 #[.agg cs.toArray] w (FreshR Rp.ref w x) := by
  obtain ⟨A0, n0, c0, f0, rfl, _, h0⟩ := hx
  unfold szRef at hsz
  have hbx0 : w.heap.size + 2 ∉ f0 := fun h => by have := h0.lt _ h; omega
  have HS0 := h0
  go_enter Tryd.func108, Tryd.ntmps108
  go_wp2_with fail
  refine (toFileSS_any (x := x.versions) _ (by exact (((h0.allocN _).allocN _).allocN _)) (by unfold szL at hsz; omega) (by intro k hk; have := szL_get (f := (fun y => szL szFile y)) hk; omega)).mono ?_
  rintro e w1 ⟨B0, m0, d0, q0, rfl, hR0, hq0, hlo0, hfr0, hb1⟩
  have HB1 := Below.box3 hb1
  obtain ⟨hcc1, hff1⟩ := bcell hb1
  have hz1 : w.heap.size + 1 + 1 < w1.heap.size := by have := hb1.size; simp at this; omega
  have hy1 : w.heap.size + 1 < w1.heap.size := by omega
  have hx1 : w.heap.size < w1.heap.size := by omega
  have hl0 : ∀ b ∈ q0, w.heap.size + 3 ≤ b := fun b hb => by have := hlo0 b hb; simp at this; omega
  have hqx0 : w.heap.size + 2 ∉ q0 := fun h => by have := hl0 _ h; omega
  have hqy0 : w.heap.size + 1 ∉ q0 := fun h => by have := hl0 _ h; omega
  clear hb1
  go_wp2
  refine bodyPost_ret (v := .agg [.string x.name, .bool x.guard, .int .i64 x.count, .slice B0 m0 d0].toArray) (by simp [results, Tryd.results108, go_sem, hcc1, hz1, hy1, hx1]) rfl ?_
  refine ⟨_, q0, rfl, ⟨B0, m0, d0, q0, rfl, rfl, by exact (((((hR0.putN hqx0 _).putN hqy0 _).putN hqy0 _).putN hqy0 _).putN hqy0 _)⟩, ?_, ?_, ?_, ?_⟩
  · exact hq0
  · exact fun b hb => by have := hl0 b hb; omega
  · exact (Free.putN (Free.putN (Free.putN (Free.putN (Free.putN hfr0)))))
  · exact (Below.setCell (p := ⟨w.heap.size + 1, 3, none⟩) (Below.setCell (p := ⟨w.heap.size + 1, 2, none⟩) (Below.setCell (p := ⟨w.heap.size + 1, 1, none⟩) (Below.setCell (p := ⟨w.heap.size + 1, 0, none⟩) (Below.setCell (p := ⟨w.heap.size + 1 + 1, 3, none⟩) HB1 (Nat.le_add_right w.heap.size 2) _) (Nat.le_add_right w.heap.size 1) _) (Nat.le_add_right w.heap.size 1) _) (Nat.le_add_right w.heap.size 1) _) (Nat.le_add_right w.heap.size 1) _)

theorem info_61_WT : (Tryd.prog.info? 61).map (fun i => (i.zero, i.size, i.bytes)) = some (some (.agg #[.string ByteArray.empty, .bool false, .int .i64 0, .slice none 0 0]), 4, 56) := by kernel_rfl
set_option maxHeartbeats 1000000 in
theorem toRefS_any {A : Option Addr} {n c : Nat} {x : List (Ref)} {fx : List Nat} (w : World) (hx : SlR Rp.ref w A n c x fx) (hl : x.length ≤ 1048576) (hsz : ∀ k (h : k < x.length), szRef x[k] ≤ 1048576) :
    Calls Tryd.prog 90 #[.slice A n c] w (FreshS Rp.ref w x) := by
  obtain ⟨rfl, hcx, hmx, _⟩ := id hx
  unfold maxLen at hmx
  obtain ⟨i0, hi, hz0, hz1, hz2⟩ := info_parts info_61_WT
  go_enter Tryd.func90, Tryd.ntmps90
  go_wp2_with (at_make; refine wpList_make_full _ rfl _ _ 50 rfl w.heap.size 61 i0 _ 4 Tryd.underlying50 hi hz0 hz1 .i64 .i64 _ _ x.length rfl rfl rfl rfl (by rw [hz2]; omega) (by unfold maxLen; omega) (Nat.le_refl _) ?_)
  intro w0 hown hgrow
  have hT : ToRel Rp.ref w x zeroRef (some ⟨w.heap.size, 0, none⟩) 0 w0 := ToRel.start (fun _ => ⟨none, 0, 0, [], rfl, rfl, SlR.nil⟩) hown ((Below.refl _ _).grown hgrow (Nat.le_refl _) (fun k h => by cases h))
  clear hown hgrow
  generalize hG : (some ⟨w.heap.size, 0, none⟩ : Option Addr) = G at hT ⊢
  clear hG
  go_wp2
  go_loopw [4] (fun i wr => ∃ k : Nat, k ≤ x.length ∧ i = .int .i64 k ∧ ToRel Rp.ref w x zeroRef G k wr) (fun i _ => x.length - (intOf i).toNat)
  case atStart => exact ⟨0, Nat.zero_le _, rfl, hT⟩
  case round =>
    obtain ⟨k, hk, rfl, hrel⟩ := hrel
    by_cases hlt : k < x.length
    · obtain ⟨g, go, cz, rfl, hzl, hst, hbl, hcl⟩ := hrel.next hlt
      obtain ⟨b, o, A0, n0, c0, f0, rfl, hb, hm, h0, h1, h2, h3, hs0, hsub⟩ := ref_cells (hx.below hbl (Nat.le_refl _)) hlt
      have hkk : Rp.ref.k = 4 := rfl
      rw [hkk] at hzl hcl
      simp only [hkk] at hst hcl
      match cz, hzl with
      | [t0, t1, t2, t3], _ =>
        clear hzl
        go_wp2_with fail
        refine (toRef_any (x := x[k]) _ ⟨A0, n0, c0, f0, rfl, rfl, hs0⟩ (hsz k hlt)).mono ?_; rintro e w1 ⟨cs1, q1, rfl, hR1, hq1, hq2, hq3, hb1⟩; obtain ⟨B0, m0, d0, q10, rfl, rfl, hq10⟩ := id hR1
        obtain ⟨hcz, hfz⟩ := hst w1 hb1
        have z0 : w1.cell? ⟨g, go + k * 4, none⟩ = some t0 := hcz.at0; have z1 : w1.cell? ⟨g, go + k * 4 + 1, none⟩ = some t1 := hcz.tail.at0; have z2 : w1.cell? ⟨g, go + k * 4 + 2, none⟩ = some t2 := hcz.tail.tail.at0; have z3 : w1.cell? ⟨g, go + k * 4 + 3, none⟩ = some t3 := hcz.tail.tail.tail.at0
        have y0 := hfz (go + k * 4); have y1 := hfz (go + k * 4 + 1); have y2 := hfz (go + k * 4 + 2); have y3 := hfz (go + k * 4 + 3)
        clear hcz hst
        go_wp2
        refine ⟨⟨k + 1, by omega, by go_num, ?_⟩, by simp [intOf]; omega⟩
        exact hcl w1 _ _ hb1 hR1 hq1 hq2 hq3
    · have hk' : k = x.length := by omega
      subst hk'
      go_wp2
      go_ret
      exact hrel.finish

set_option maxHeartbeats 2000000 in
theorem toRepo_any {cs : List Value} {x : Repo} {fx : List Nat} (w : World) (hx : Rp.repo.R w cs x fx) (hsz : szRepo x ≤ 1048576) :
    Calls Tryd.prog 59 #[.agg cs.toArray] w (FreshR Rp.repo w x) := by
  obtain ⟨A0, n0, c0, f0, A1, n1, c1, f1, rfl, _, h0, h1⟩ := hx
  unfold szRepo at hsz
  have hbx0 : w.heap.size + 2 ∉ f0 := fun h => by have := h0.lt _ h; omega
  have HS0 := h0
  have hbx1 : w.heap.size + 2 ∉ f1 := fun h => by have := h1.lt _ h; omega
  have HS1 := h1
  go_enter Tryd.func59, Tryd.ntmps59
  go_wp2_with fail
  refine (toRuleS_any (x := x.rules) _ (by exact (((h0.allocN _).allocN _).allocN _)) (by unfold szL at hsz; omega)).mono ?_
  rintro e w1 ⟨B0, m0, d0, q0, rfl, hR0, hq0, hlo0, hfr0, hb1⟩
  have HB1 := Below.box3 hb1
  have a1_1 := (((h1.allocN _).allocN _).allocN _).step hb1
  obtain ⟨hcc1, hff1⟩ := bcell hb1
  have hz1 : w.heap.size + 1 + 1 < w1.heap.size := by have := hb1.size; simp at this; omega
  have hy1 : w.heap.size + 1 < w1.heap.size := by omega
  have hx1 : w.heap.size < w1.heap.size := by omega
  have hl0 : ∀ b ∈ q0, w.heap.size + 3 ≤ b := fun b hb => by have := hlo0 b hb; simp at this; omega
  have hqx0 : w.heap.size + 2 ∉ q0 := fun h => by have := hl0 _ h; omega
  have hqy0 : w.heap.size + 1 ∉ q0 := fun h => by have := hl0 _ h; omega
  clear hb1
  go_wp2_with fail
  refine (toRefS_any (x := x.refs) _ (by exact (a1_1.putN hbx1 _)) (by unfold szL at hsz; omega) (by intro k hk; have := szL_get (f := szRef) hk; omega)).mono ?_
  rintro e w2 ⟨B1, m1, d1, q1, rfl, hR1, hq1, hlo1, hfr1, hb2⟩
  have HB2 := Below.then_ (Below.setCell (p := ⟨w.heap.size + 1 + 1, 1, none⟩) HB1 (Nat.le_add_right w.heap.size 2) _) hb2
  have r2_0 := (hR0.putN hqx0 _).step hb2
  have fr2_0 := Free.step (Free.putN hfr0) hb2
  obtain ⟨hcc2, hff2⟩ := bcell hb2
  have hz2 : w.heap.size + 1 + 1 < w2.heap.size := by have := hb2.size; simp only [World.size_setCell] at this; omega
  have hy2 : w.heap.size + 1 < w2.heap.size := by omega
  have hx2 : w.heap.size < w2.heap.size := by omega
  have hl1 : ∀ b ∈ q1, w.heap.size + 3 ≤ b := fun b hb => by have := hlo1 b hb; simp only [World.size_setCell] at this; omega
  have hp1 : ∀ b ∈ q1, w1.heap.size ≤ b := fun b hb => by have := hlo1 b hb; simp only [World.size_setCell] at this; exact this
  have hqx1 : w.heap.size + 2 ∉ q1 := fun h => by have := hl1 _ h; omega
  have hqy1 : w.heap.size + 1 ∉ q1 := fun h => by have := hl1 _ h; omega
  have hsz12 : w1.heap.size ≤ w2.heap.size := by have := hb2.size; simp only [World.size_setCell] at this; exact this
  clear hb2
  go_wp2
  refine bodyPost_ret (v := .agg [.int .i64 x.admin, .slice B0 m0 d0, .slice B1 m1 d1].toArray) (by simp [results, Tryd.results59, go_sem, hcc1, hz1, hy1, hx1, hcc2, hz2, hy2, hx2]) rfl ?_
  refine ⟨_, q0 ++ q1, rfl, ⟨B0, m0, d0, q0, B1, m1, d1, q1, rfl, rfl, by exact ((((r2_0.putN hqx0 _).putN hqy0 _).putN hqy0 _).putN hqy0 _), by exact ((((hR1.putN hqx1 _).putN hqy1 _).putN hqy1 _).putN hqy1 _)⟩, ?_, ?_, ?_, ?_⟩
  · exact List.nodup_append.2 ⟨hq0, hq1, fun a ha b hb e => by subst e; have h1 := hR0.lt a ha; have h2 := hp1 a hb; omega⟩
  · exact fun b hb => by
      rcases List.mem_append.1 hb with hb | hb
      · have := hl0 b hb; omega
      · have := hl1 b hb; omega
  · exact Free.append (Free.putN (Free.putN (Free.putN (Free.putN fr2_0)))) (Free.putN (Free.putN (Free.putN (Free.putN hfr1))))
  · exact (Below.setCell (p := ⟨w.heap.size + 1, 2, none⟩) (Below.setCell (p := ⟨w.heap.size + 1, 1, none⟩) (Below.setCell (p := ⟨w.heap.size + 1, 0, none⟩) (Below.setCell (p := ⟨w.heap.size + 1 + 1, 2, none⟩) HB2 (Nat.le_add_right w.heap.size 2) _) (Nat.le_add_right w.heap.size 1) _) (Nat.le_add_right w.heap.size 1) _) (Nat.le_add_right w.heap.size 1) _)

theorem info_52_WT : (Tryd.prog.info? 52).map (fun i => (i.zero, i.size, i.bytes)) = some (some (.agg #[.int .i64 0, .slice none 0 0, .slice none 0 0]), 3, 56) := by kernel_rfl
set_option maxHeartbeats 1000000 in
theorem toRepoS_any {A : Option Addr} {n c : Nat} {x : List (Repo)} {fx : List Nat} (w : World) (hx : SlR Rp.repo w A n c x fx) (hl : x.length ≤ 1048576) (hsz : ∀ k (h : k < x.length), szRepo x[k] ≤ 1048576) :
    Calls Tryd.prog 32 #[.slice A n c] w (FreshS Rp.repo w x) := by
  obtain ⟨rfl, hcx, hmx, _⟩ := id hx
  unfold maxLen at hmx
  obtain ⟨i0, hi, hz0, hz1, hz2⟩ := info_parts info_52_WT
  go_enter Tryd.func32, Tryd.ntmps32
  go_wp2_with (at_make; refine wpList_make_full _ rfl _ _ 23 rfl w.heap.size 52 i0 _ 3 Tryd.underlying23 hi hz0 hz1 .i64 .i64 _ _ x.length rfl rfl rfl rfl (by rw [hz2]; omega) (by unfold maxLen; omega) (Nat.le_refl _) ?_)
  intro w0 hown hgrow
  have hT : ToRel Rp.repo w x zeroRepo (some ⟨w.heap.size, 0, none⟩) 0 w0 := ToRel.start (fun _ => ⟨none, 0, 0, [], none, 0, 0, [], rfl, rfl, SlR.nil, SlR.nil⟩) hown ((Below.refl _ _).grown hgrow (Nat.le_refl _) (fun k h => by cases h))
  clear hown hgrow
  generalize hG : (some ⟨w.heap.size, 0, none⟩ : Option Addr) = G at hT ⊢
  clear hG
  go_wp2
  go_loopw [4] (fun i wr => ∃ k : Nat, k ≤ x.length ∧ i = .int .i64 k ∧ ToRel Rp.repo w x zeroRepo G k wr) (fun i _ => x.length - (intOf i).toNat)
  case atStart => exact ⟨0, Nat.zero_le _, rfl, hT⟩
  case round =>
    obtain ⟨k, hk, rfl, hrel⟩ := hrel
    by_cases hlt : k < x.length
    · obtain ⟨g, go, cz, rfl, hzl, hst, hbl, hcl⟩ := hrel.next hlt
      obtain ⟨b, o, A0, n0, c0, f0, A1, n1, c1, f1, rfl, hb, hm, h0, h1, h2, hs0, hs1, hsub⟩ := repo_cells (hx.below hbl (Nat.le_refl _)) hlt
      have hkk : Rp.repo.k = 3 := rfl
      rw [hkk] at hzl hcl
      simp only [hkk] at hst hcl
      match cz, hzl with
      | [t0, t1, t2], _ =>
        clear hzl
        go_wp2_with fail
        refine (toRepo_any (x := x[k]) _ ⟨A0, n0, c0, f0, A1, n1, c1, f1, rfl, rfl, hs0, hs1⟩ (hsz k hlt)).mono ?_; rintro e w1 ⟨cs1, q1, rfl, hR1, hq1, hq2, hq3, hb1⟩; obtain ⟨B0, m0, d0, q10, B1, m1, d1, q11, rfl, rfl, hq10, hq11⟩ := id hR1
        obtain ⟨hcz, hfz⟩ := hst w1 hb1
        have z0 : w1.cell? ⟨g, go + k * 3, none⟩ = some t0 := hcz.at0; have z1 : w1.cell? ⟨g, go + k * 3 + 1, none⟩ = some t1 := hcz.tail.at0; have z2 : w1.cell? ⟨g, go + k * 3 + 2, none⟩ = some t2 := hcz.tail.tail.at0
        have y0 := hfz (go + k * 3); have y1 := hfz (go + k * 3 + 1); have y2 := hfz (go + k * 3 + 2)
        clear hcz hst
        go_wp2
        refine ⟨⟨k + 1, by omega, by go_num, ?_⟩, by simp [intOf]; omega⟩
        exact hcl w1 _ _ hb1 hR1 hq1 hq2 hq3
    · have hk' : k = x.length := by omega
      subst hk'
      go_wp2
      go_ret
      exact hrel.finish

set_option maxHeartbeats 2000000 in
theorem toHouse_any {cs : List Value} {x : House} {fx : List Nat} (w : World) (hx : Rp.house.R w cs x fx) (hsz : szHouse x ≤ 1048576) :
    Calls Tryd.prog 16 #[.agg cs.toArray] w (FreshR Rp.house w x) := by
  obtain ⟨A0, n0, c0, f0, A1, n1, c1, f1, A2, n2, c2, f2, rfl, _, h0, h1, h2⟩ := hx
  unfold szHouse at hsz
  have hbx0 : w.heap.size + 2 ∉ f0 := fun h => by have := h0.lt _ h; omega
  have HS0 := h0
  have hbx1 : w.heap.size + 2 ∉ f1 := fun h => by have := h1.lt _ h; omega
  have HS1 := h1
  have hbx2 : w.heap.size + 2 ∉ f2 := fun h => by have := h2.lt _ h; omega
  have HS2 := h2
  go_enter Tryd.func16, Tryd.ntmps16
  go_wp2_with fail
  refine (toIntS_any (x := x.keys) _ (by exact (((h0.allocN _).allocN _).allocN _)) (by omega)).mono ?_
  rintro e w1 ⟨B0, m0, d0, q0, rfl, hR0, hq0, hlo0, hfr0, hb1⟩
  have HB1 := Below.box3 hb1
  have a1_1 := (((h1.allocN _).allocN _).allocN _).step hb1
  have a1_2 := (((h2.allocN _).allocN _).allocN _).step hb1
  obtain ⟨hcc1, hff1⟩ := bcell hb1
  have hz1 : w.heap.size + 1 + 1 < w1.heap.size := by have := hb1.size; simp at this; omega
  have hy1 : w.heap.size + 1 < w1.heap.size := by omega
  have hx1 : w.heap.size < w1.heap.size := by omega
  have hl0 : ∀ b ∈ q0, w.heap.size + 3 ≤ b := fun b hb => by have := hlo0 b hb; simp at this; omega
  have hqx0 : w.heap.size + 2 ∉ q0 := fun h => by have := hl0 _ h; omega
  have hqy0 : w.heap.size + 1 ∉ q0 := fun h => by have := hl0 _ h; omega
  clear hb1
  go_wp2_with fail
  refine (toIntS_any (x := x.used) _ (by exact (a1_1.putN hbx1 _)) (by omega)).mono ?_
  rintro e w2 ⟨B1, m1, d1, q1, rfl, hR1, hq1, hlo1, hfr1, hb2⟩
  have HB2 := Below.then_ (Below.setCell (p := ⟨w.heap.size + 1 + 1, 0, none⟩) HB1 (Nat.le_add_right w.heap.size 2) _) hb2
  have a2_2 := (a1_2.putN hbx2 _).step hb2
  have r2_0 := (hR0.putN hqx0 _).step hb2
  have fr2_0 := Free.step (Free.putN hfr0) hb2
  obtain ⟨hcc2, hff2⟩ := bcell hb2
  have hz2 : w.heap.size + 1 + 1 < w2.heap.size := by have := hb2.size; simp only [World.size_setCell] at this; omega
  have hy2 : w.heap.size + 1 < w2.heap.size := by omega
  have hx2 : w.heap.size < w2.heap.size := by omega
  have hl1 : ∀ b ∈ q1, w.heap.size + 3 ≤ b := fun b hb => by have := hlo1 b hb; simp only [World.size_setCell] at this; omega
  have hp1 : ∀ b ∈ q1, w1.heap.size ≤ b := fun b hb => by have := hlo1 b hb; simp only [World.size_setCell] at this; exact this
  have hqx1 : w.heap.size + 2 ∉ q1 := fun h => by have := hl1 _ h; omega
  have hqy1 : w.heap.size + 1 ∉ q1 := fun h => by have := hl1 _ h; omega
  have hsz12 : w1.heap.size ≤ w2.heap.size := by have := hb2.size; simp only [World.size_setCell] at this; exact this
  clear hb2
  go_wp2_with fail
  refine (toRepoS_any (x := x.repos) _ (by exact (a2_2.putN hbx2 _)) (by unfold szL at hsz; omega) (by intro k hk; have := szL_get (f := szRepo) hk; omega)).mono ?_
  rintro e w3 ⟨B2, m2, d2, q2, rfl, hR2, hq2, hlo2, hfr2, hb3⟩
  have HB3 := Below.then_ (Below.setCell (p := ⟨w.heap.size + 1 + 1, 1, none⟩) HB2 (Nat.le_add_right w.heap.size 2) _) hb3
  have r3_0 := (r2_0.putN hqx0 _).step hb3
  have fr3_0 := Free.step (Free.putN fr2_0) hb3
  have r3_1 := (hR1.putN hqx1 _).step hb3
  have fr3_1 := Free.step (Free.putN hfr1) hb3
  obtain ⟨hcc3, hff3⟩ := bcell hb3
  have hz3 : w.heap.size + 1 + 1 < w3.heap.size := by have := hb3.size; simp only [World.size_setCell] at this; omega
  have hy3 : w.heap.size + 1 < w3.heap.size := by omega
  have hx3 : w.heap.size < w3.heap.size := by omega
  have hl2 : ∀ b ∈ q2, w.heap.size + 3 ≤ b := fun b hb => by have := hlo2 b hb; simp only [World.size_setCell] at this; omega
  have hp2 : ∀ b ∈ q2, w2.heap.size ≤ b := fun b hb => by have := hlo2 b hb; simp only [World.size_setCell] at this; exact this
  have hqx2 : w.heap.size + 2 ∉ q2 := fun h => by have := hl2 _ h; omega
  have hqy2 : w.heap.size + 1 ∉ q2 := fun h => by have := hl2 _ h; omega
  have hsz23 : w2.heap.size ≤ w3.heap.size := by have := hb3.size; simp only [World.size_setCell] at this; exact this
  clear hb3
  go_wp2
  refine bodyPost_ret (v := .agg [.slice B0 m0 d0, .slice B1 m1 d1, .slice B2 m2 d2].toArray) (by simp [results, Tryd.results16, go_sem, hcc1, hz1, hy1, hx1, hcc2, hz2, hy2, hx2, hcc3, hz3, hy3, hx3]) rfl ?_
  refine ⟨_, q0 ++ (q1 ++ (q2)), rfl, ⟨B0, m0, d0, q0, B1, m1, d1, q1, B2, m2, d2, q2, rfl, rfl, by exact ((((r3_0.putN hqx0 _).putN hqy0 _).putN hqy0 _).putN hqy0 _), by exact ((((r3_1.putN hqx1 _).putN hqy1 _).putN hqy1 _).putN hqy1 _), by exact ((((hR2.putN hqx2 _).putN hqy2 _).putN hqy2 _).putN hqy2 _)⟩, ?_, ?_, ?_, ?_⟩
  · exact List.nodup_append.2 ⟨hq0, List.nodup_append.2 ⟨hq1, hq2, fun a ha b hb e => by subst e; have h1 := hR1.lt a ha; have h2 := hp2 a hb; omega⟩, fun a ha b hb e => by
      subst e
      have h1 := hR0.lt a ha
      rcases List.mem_append.1 hb with hb | hb
      · have h2 := hp1 a hb; omega
      · have h2 := hp2 a hb; have h3 := hsz12; omega⟩
  · exact fun b hb => by
      rcases List.mem_append.1 hb with hb | hb
      · have := hl0 b hb; omega
      rcases List.mem_append.1 hb with hb | hb
      · have := hl1 b hb; omega
      · have := hl2 b hb; omega
  · exact Free.append (Free.putN (Free.putN (Free.putN (Free.putN fr3_0)))) (Free.append (Free.putN (Free.putN (Free.putN (Free.putN fr3_1)))) (Free.putN (Free.putN (Free.putN (Free.putN hfr2)))))
  · exact (Below.setCell (p := ⟨w.heap.size + 1, 2, none⟩) (Below.setCell (p := ⟨w.heap.size + 1, 1, none⟩) (Below.setCell (p := ⟨w.heap.size + 1, 0, none⟩) (Below.setCell (p := ⟨w.heap.size + 1 + 1, 2, none⟩) HB3 (Nat.le_add_right w.heap.size 2) _) (Nat.le_add_right w.heap.size 1) _) (Nat.le_add_right w.heap.size 1) _) (Nat.le_add_right w.heap.size 1) _)

end Go.Proofs.YtnogkkcmcnhodaaDoor
