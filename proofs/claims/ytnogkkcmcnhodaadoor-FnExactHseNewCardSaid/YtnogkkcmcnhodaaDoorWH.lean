/- Walks of the laws' own functions on data. By program (wip/gen/gen_walk.py): held:IntS held:RuleS held:FileS held:FileSS held:RefS held:RepoS -/
import Derived.Test.YtnogkkcmcnhodaaDoorMk
namespace Go.Proofs.YtnogkkcmcnhodaaDoor
open Go.RowKit
attribute [local go_sem ↓] Go.wp_at_zero Go.wp_at_succ

set_option maxHeartbeats 2000000 in
theorem heldIntS_any {A : Option Addr} {n c : Nat} {x : List (Int)} {fx : List Nat} (k0 : Int) (w : World) (hx : SlR Rp.int w A n c (markL (fun _ k => (k : Int)) (fun _ => 1) x k0) fx) (hk0 : 0 ≤ k0) (hkm : k0 + (countL (fun _ => 1) x : Nat) ≤ 1152921504606846976) :
    Calls Tryd.prog 27 #[.slice A n c, .int .i64 k0] w fun e w' => e = .returned (.int .i64 (k0 + (countL (fun _ => 1) x : Nat))) ∧ Below w.heap.size w w' := by
  obtain ⟨hnx, hcx, hmx, _⟩ := id hx
  rw [markL_length] at hnx
  subst hnx
  unfold maxLen at hmx
  go_enter Tryd.func27, Tryd.ntmps27
  go_wp2
  go_loopw [1, 5] (fun kv i wr => ∃ (i' : Nat) (m : Int), i' ≤ x.length ∧ i = .int .i64 i' ∧ kv = .int .i64 m ∧ HeldTo (fun _ => 1) x k0 i' m ∧ Below w.heap.size w wr) (fun _ i _ => x.length - (intOf i).toNat)
  case atStart => exact ⟨0, k0, Nat.zero_le _, rfl, rfl, HeldTo.start, Below.refl _ _⟩
  case round =>
    obtain ⟨i, m, hi, rfl, rfl, hh, hbl⟩ := hrel
    have hm0 := hh.low hk0
    have HH := hide hh
    clear hh
    by_cases hlt : i < x.length
    · have hltm : i < (markL (fun _ k => (k : Int)) (fun _ => 1) x k0).length := by rw [markL_length]; exact hlt
      have hm1 := HH.out.high hlt
      have hltI : (i : Int) < (x.length : Int) := by omega
      have hget := HH.out.get (mk := (fun _ k => (k : Int))) hlt hltm
      obtain ⟨b, o, rfl, hb, hm, h0⟩ := int_cells (hx.below hbl (Nat.le_refl _)) hltm
      rw [hget] at h0
      clear hget
      go_wp2
      refine ⟨⟨i + 1, m + 1, by omega, by go_num, by go_num, HH.out.next hlt, hbl⟩, by simp [intOf]; omega⟩
    · have hi' : i = x.length := by omega
      subst hi'
      go_wp2
      go_ret
      exact ⟨ret_int HH.out.all_, hbl⟩

set_option maxHeartbeats 2000000 in
theorem heldRuleS_any {A : Option Addr} {n c : Nat} {x : List (Rule)} {fx : List Nat} (k0 : Int) (w : World) (hx : SlR Rp.rule w A n c (markL mkRule ctRule x k0) fx) (hk0 : 0 ≤ k0) (hkm : k0 + (countL ctRule x : Nat) ≤ 1152921504606846976) :
    Calls Tryd.prog 54 #[.slice A n c, .int .i64 k0] w fun e w' => e = .returned (.int .i64 (k0 + (countL ctRule x : Nat))) ∧ Below w.heap.size w w' := by
  obtain ⟨hnx, hcx, hmx, _⟩ := id hx
  rw [markL_length] at hnx
  subst hnx
  unfold maxLen at hmx
  go_enter Tryd.func54, Tryd.ntmps54
  go_wp2
  go_loopw [1, 5] (fun kv i wr => ∃ (i' : Nat) (m : Int), i' ≤ x.length ∧ i = .int .i64 i' ∧ kv = .int .i64 m ∧ HeldTo ctRule x k0 i' m ∧ Below w.heap.size w wr) (fun _ i _ => x.length - (intOf i).toNat)
  case atStart => exact ⟨0, k0, Nat.zero_le _, rfl, rfl, HeldTo.start, Below.refl _ _⟩
  case round =>
    obtain ⟨i, m, hi, rfl, rfl, hh, hbl⟩ := hrel
    have hm0 := hh.low hk0
    have HH := hide hh
    clear hh
    by_cases hlt : i < x.length
    · have hltm : i < (markL mkRule ctRule x k0).length := by rw [markL_length]; exact hlt
      have hm1 := HH.out.high hlt
      have hltI : (i : Int) < (x.length : Int) := by omega
      have hget := HH.out.get (mk := mkRule) hlt hltm
      obtain ⟨b, o, rfl, hb, hm, h0, h1, h2, h3⟩ := rule_cells (hx.below hbl (Nat.le_refl _)) hltm
      rw [hget] at h0 h1 h2 h3
      clear hget
      simp only [ctRule] at hm1
      simp only [mkRule] at h0 h1 h2 h3
      go_wp2_with fail
      go_region_held3 (fun w' => w'.cell? ⟨b, o + i * 4, none⟩ = some (.int .i64 (m)) ∧ w'.cell? ⟨b, o + i * 4 + 1, none⟩ = some (.string (markTx (m + 1))) ∧ w'.cell? ⟨b, o + i * 4 + 2, none⟩ = some (.string (markTx (m + 1 + 1))) ∧ w'.cell? ⟨b, o + i * 4 + 3, none⟩ = some (.bool ((m + 1 + 1 + 1) % 3 == 0)))
        (first | exact ⟨h0, h1, h2, h3⟩ | exact ⟨(hb1.cell (Nat.lt_of_lt_of_le hb (Nat.le_refl _))).trans h0, (hb1.cell (Nat.lt_of_lt_of_le hb (Nat.le_refl _))).trans h1, (hb1.cell (Nat.lt_of_lt_of_le hb (Nat.le_refl _))).trans h2, (hb1.cell (Nat.lt_of_lt_of_le hb (Nat.le_refl _))).trans h3⟩)
        (first | (go_at_call 73; refine (markText_any _ (by omega) (by omega) _).mono ?_; rintro e w1 ⟨rfl, hb1⟩))
      have HB1 := hide (Below.trans (Below.drew hbl) (hb1.mono (by exact hbl.size)))
      have HZ1 := hide (show wr.heap.size ≤ w1.heap.size from hb1.size)
      have q1_0 := (hb1.cell (p := ⟨b, o + i * 4, none⟩) (Nat.lt_of_lt_of_le hb (Nat.le_refl _))).trans h0
      have q1_1 := (hb1.cell (p := ⟨b, o + i * 4 + 1, none⟩) (Nat.lt_of_lt_of_le hb (Nat.le_refl _))).trans h1
      have q1_2 := (hb1.cell (p := ⟨b, o + i * 4 + 2, none⟩) (Nat.lt_of_lt_of_le hb (Nat.le_refl _))).trans h2
      have q1_3 := (hb1.cell (p := ⟨b, o + i * 4 + 3, none⟩) (Nat.lt_of_lt_of_le hb (Nat.le_refl _))).trans h3
      clear hb1
      go_wp2_with fail
      go_region_held3 (fun w' => w'.cell? ⟨b, o + i * 4, none⟩ = some (.int .i64 (m)) ∧ w'.cell? ⟨b, o + i * 4 + 1, none⟩ = some (.string (markTx (m + 1))) ∧ w'.cell? ⟨b, o + i * 4 + 2, none⟩ = some (.string (markTx (m + 1 + 1))) ∧ w'.cell? ⟨b, o + i * 4 + 3, none⟩ = some (.bool ((m + 1 + 1 + 1) % 3 == 0)))
        (first | exact ⟨q1_0, q1_1, q1_2, q1_3⟩ | exact ⟨(hb2.cell (Nat.lt_of_lt_of_le hb HZ1.out)).trans q1_0, (hb2.cell (Nat.lt_of_lt_of_le hb HZ1.out)).trans q1_1, (hb2.cell (Nat.lt_of_lt_of_le hb HZ1.out)).trans q1_2, (hb2.cell (Nat.lt_of_lt_of_le hb HZ1.out)).trans q1_3⟩)
        (first | (go_at_call 73; refine (markText_any _ (by omega) (by omega) _).mono ?_; rintro e w2 ⟨rfl, hb2⟩))
      have HB2 := hide (Below.trans (Below.drew HB1.out) (hb2.mono (by exact HB1.out.size)))
      have HZ2 := hide (show wr.heap.size ≤ w2.heap.size from Nat.le_trans HZ1.out hb2.size)
      have q2_0 := (hb2.cell (p := ⟨b, o + i * 4, none⟩) (Nat.lt_of_lt_of_le hb HZ1.out)).trans q1_0
      have q2_1 := (hb2.cell (p := ⟨b, o + i * 4 + 1, none⟩) (Nat.lt_of_lt_of_le hb HZ1.out)).trans q1_1
      have q2_2 := (hb2.cell (p := ⟨b, o + i * 4 + 2, none⟩) (Nat.lt_of_lt_of_le hb HZ1.out)).trans q1_2
      have q2_3 := (hb2.cell (p := ⟨b, o + i * 4 + 3, none⟩) (Nat.lt_of_lt_of_le hb HZ1.out)).trans q1_3
      clear hb2
      go_wp2
      refine ⟨⟨i + 1, m + (ctRule x[i] : Nat), by omega, by go_num, by simp only [ctRule]; go_num, HH.out.next hlt, HB2.out⟩, by simp [intOf]; omega⟩
    · have hi' : i = x.length := by omega
      subst hi'
      go_wp2
      go_ret
      exact ⟨ret_int HH.out.all_, hbl⟩

set_option maxHeartbeats 2000000 in
theorem heldFileS_any {A : Option Addr} {n c : Nat} {x : List (File)} {fx : List Nat} (k0 : Int) (w : World) (hx : SlR Rp.file w A n c (markL mkFile ctFile x k0) fx) (hk0 : 0 ≤ k0) (hkm : k0 + (countL ctFile x : Nat) ≤ 1152921504606846976) :
    Calls Tryd.prog 102 #[.slice A n c, .int .i64 k0] w fun e w' => e = .returned (.int .i64 (k0 + (countL ctFile x : Nat))) ∧ Below w.heap.size w w' := by
  obtain ⟨hnx, hcx, hmx, _⟩ := id hx
  rw [markL_length] at hnx
  subst hnx
  unfold maxLen at hmx
  go_enter Tryd.func102, Tryd.ntmps102
  go_wp2
  go_loopw [1, 5] (fun kv i wr => ∃ (i' : Nat) (m : Int), i' ≤ x.length ∧ i = .int .i64 i' ∧ kv = .int .i64 m ∧ HeldTo ctFile x k0 i' m ∧ Below w.heap.size w wr) (fun _ i _ => x.length - (intOf i).toNat)
  case atStart => exact ⟨0, k0, Nat.zero_le _, rfl, rfl, HeldTo.start, Below.refl _ _⟩
  case round =>
    obtain ⟨i, m, hi, rfl, rfl, hh, hbl⟩ := hrel
    have hm0 := hh.low hk0
    have HH := hide hh
    clear hh
    by_cases hlt : i < x.length
    · have hltm : i < (markL mkFile ctFile x k0).length := by rw [markL_length]; exact hlt
      have hm1 := HH.out.high hlt
      have hltI : (i : Int) < (x.length : Int) := by omega
      have hget := HH.out.get (mk := mkFile) hlt hltm
      obtain ⟨b, o, rfl, hb, hm, h0, h1⟩ := file_cells (hx.below hbl (Nat.le_refl _)) hltm
      rw [hget] at h0 h1
      clear hget
      simp only [ctFile] at hm1
      simp only [mkFile] at h0 h1
      go_wp2_with fail
      go_region_held3 (fun w' => w'.cell? ⟨b, o + i * 2, none⟩ = some (.string (markTx (m))) ∧ w'.cell? ⟨b, o + i * 2 + 1, none⟩ = some (.string (markTx (m + 1))))
        (first | exact ⟨h0, h1⟩ | exact ⟨(hb1.cell (Nat.lt_of_lt_of_le hb (Nat.le_refl _))).trans h0, (hb1.cell (Nat.lt_of_lt_of_le hb (Nat.le_refl _))).trans h1⟩)
        (first | (go_at_call 73; refine (markText_any _ (by omega) (by omega) _).mono ?_; rintro e w1 ⟨rfl, hb1⟩))
      have HB1 := hide (Below.trans (Below.drew hbl) (hb1.mono (by exact hbl.size)))
      have HZ1 := hide (show wr.heap.size ≤ w1.heap.size from hb1.size)
      have q1_0 := (hb1.cell (p := ⟨b, o + i * 2, none⟩) (Nat.lt_of_lt_of_le hb (Nat.le_refl _))).trans h0
      have q1_1 := (hb1.cell (p := ⟨b, o + i * 2 + 1, none⟩) (Nat.lt_of_lt_of_le hb (Nat.le_refl _))).trans h1
      clear hb1
      go_wp2_with fail
      go_region_held3 (fun w' => w'.cell? ⟨b, o + i * 2, none⟩ = some (.string (markTx (m))) ∧ w'.cell? ⟨b, o + i * 2 + 1, none⟩ = some (.string (markTx (m + 1))))
        (first | exact ⟨q1_0, q1_1⟩ | exact ⟨(hb2.cell (Nat.lt_of_lt_of_le hb HZ1.out)).trans q1_0, (hb2.cell (Nat.lt_of_lt_of_le hb HZ1.out)).trans q1_1⟩)
        (first | (go_at_call 73; refine (markText_any _ (by omega) (by omega) _).mono ?_; rintro e w2 ⟨rfl, hb2⟩))
      have HB2 := hide (Below.trans (Below.drew HB1.out) (hb2.mono (by exact HB1.out.size)))
      have HZ2 := hide (show wr.heap.size ≤ w2.heap.size from Nat.le_trans HZ1.out hb2.size)
      have q2_0 := (hb2.cell (p := ⟨b, o + i * 2, none⟩) (Nat.lt_of_lt_of_le hb HZ1.out)).trans q1_0
      have q2_1 := (hb2.cell (p := ⟨b, o + i * 2 + 1, none⟩) (Nat.lt_of_lt_of_le hb HZ1.out)).trans q1_1
      clear hb2
      go_wp2
      refine ⟨⟨i + 1, m + (ctFile x[i] : Nat), by omega, by go_num, by simp only [ctFile]; go_num, HH.out.next hlt, HB2.out⟩, by simp [intOf]; omega⟩
    · have hi' : i = x.length := by omega
      subst hi'
      go_wp2
      go_ret
      exact ⟨ret_int HH.out.all_, hbl⟩

set_option maxHeartbeats 2000000 in
theorem heldFileSS_any {A : Option Addr} {n c : Nat} {x : List (List (File))} {fx : List Nat} (k0 : Int) (w : World) (hx : SlR (Rp.slice Rp.file) w A n c (markL (markL mkFile ctFile) (countL ctFile) x k0) fx) (hk0 : 0 ≤ k0) (hkm : k0 + (countL (countL ctFile) x : Nat) ≤ 1152921504606846976) :
    Calls Tryd.prog 82 #[.slice A n c, .int .i64 k0] w fun e w' => e = .returned (.int .i64 (k0 + (countL (countL ctFile) x : Nat))) ∧ Below w.heap.size w w' := by
  obtain ⟨hnx, hcx, hmx, _⟩ := id hx
  rw [markL_length] at hnx
  subst hnx
  unfold maxLen at hmx
  go_enter Tryd.func82, Tryd.ntmps82
  go_wp2
  go_loopw [1, 5] (fun kv i wr => ∃ (i' : Nat) (m : Int), i' ≤ x.length ∧ i = .int .i64 i' ∧ kv = .int .i64 m ∧ HeldTo (countL ctFile) x k0 i' m ∧ Below w.heap.size w wr) (fun _ i _ => x.length - (intOf i).toNat)
  case atStart => exact ⟨0, k0, Nat.zero_le _, rfl, rfl, HeldTo.start, Below.refl _ _⟩
  case round =>
    obtain ⟨i, m, hi, rfl, rfl, hh, hbl⟩ := hrel
    have hm0 := hh.low hk0
    have HH := hide hh
    clear hh
    by_cases hlt : i < x.length
    · have hltm : i < (markL (markL mkFile ctFile) (countL ctFile) x k0).length := by rw [markL_length]; exact hlt
      have hm1 := HH.out.high hlt
      have hltI : (i : Int) < (x.length : Int) := by omega
      have hget := HH.out.get (mk := (markL mkFile ctFile)) hlt hltm
      obtain ⟨b, o, A0, n0, c0, f0, rfl, hb, hm, h0, hs0, hsub⟩ := slice_cells (hx.below hbl (Nat.le_refl _)) hltm
      rw [hget] at hs0
      clear hget
      go_wp2_with fail
      refine (heldFileS_any (x := x[i]) _ _ (by exact hs0) (by omega) (by omega)).mono ?_
      rintro e w1 ⟨rfl, hb1⟩
      have HB1 := hide (Below.trans hbl (hb1.mono (by exact hbl.size)))
      have HZ1 := hide (show wr.heap.size ≤ w1.heap.size from hb1.size)
      have q1_0 := (hb1.cell (p := ⟨b, o + i, none⟩) (Nat.lt_of_lt_of_le hb (Nat.le_refl _))).trans h0
      clear hb1
      go_wp2
      refine ⟨⟨i + 1, _, by omega, by go_num, rfl, HH.out.next hlt, HB1.out⟩, by simp [intOf]; omega⟩
    · have hi' : i = x.length := by omega
      subst hi'
      go_wp2
      go_ret
      exact ⟨ret_int HH.out.all_, hbl⟩

set_option maxHeartbeats 2000000 in
theorem heldRefS_any {A : Option Addr} {n c : Nat} {x : List (Ref)} {fx : List Nat} (k0 : Int) (w : World) (hx : SlR Rp.ref w A n c (markL mkRef ctRef x k0) fx) (hk0 : 0 ≤ k0) (hkm : k0 + (countL ctRef x : Nat) ≤ 1152921504606846976) :
    Calls Tryd.prog 55 #[.slice A n c, .int .i64 k0] w fun e w' => e = .returned (.int .i64 (k0 + (countL ctRef x : Nat))) ∧ Below w.heap.size w w' := by
  obtain ⟨hnx, hcx, hmx, _⟩ := id hx
  rw [markL_length] at hnx
  subst hnx
  unfold maxLen at hmx
  go_enter Tryd.func55, Tryd.ntmps55
  go_wp2
  go_loopw [1, 5] (fun kv i wr => ∃ (i' : Nat) (m : Int), i' ≤ x.length ∧ i = .int .i64 i' ∧ kv = .int .i64 m ∧ HeldTo ctRef x k0 i' m ∧ Below w.heap.size w wr) (fun _ i _ => x.length - (intOf i).toNat)
  case atStart => exact ⟨0, k0, Nat.zero_le _, rfl, rfl, HeldTo.start, Below.refl _ _⟩
  case round =>
    obtain ⟨i, m, hi, rfl, rfl, hh, hbl⟩ := hrel
    have hm0 := hh.low hk0
    have HH := hide hh
    clear hh
    by_cases hlt : i < x.length
    · have hltm : i < (markL mkRef ctRef x k0).length := by rw [markL_length]; exact hlt
      have hm1 := HH.out.high hlt
      have hltI : (i : Int) < (x.length : Int) := by omega
      have hget := HH.out.get (mk := mkRef) hlt hltm
      obtain ⟨b, o, A0, n0, c0, f0, rfl, hb, hm, h0, h1, h2, h3, hs0, hsub⟩ := ref_cells (hx.below hbl (Nat.le_refl _)) hltm
      rw [hget] at h0 h1 h2 hs0
      clear hget
      simp only [ctRef] at hm1
      simp only [mkRef] at h0 h1 h2 hs0
      go_wp2_with fail
      go_region_held3 (fun w' => w'.cell? ⟨b, o + i * 4, none⟩ = some (.string (markTx (m))) ∧ w'.cell? ⟨b, o + i * 4 + 1, none⟩ = some (.bool ((m + 1) % 3 == 0)) ∧ w'.cell? ⟨b, o + i * 4 + 2, none⟩ = some (.int .i64 (m + 1 + 1)) ∧ w'.cell? ⟨b, o + i * 4 + 3, none⟩ = some (.slice A0 n0 c0))
        (first | exact ⟨h0, h1, h2, h3⟩ | exact ⟨(hb1.cell (Nat.lt_of_lt_of_le hb (Nat.le_refl _))).trans h0, (hb1.cell (Nat.lt_of_lt_of_le hb (Nat.le_refl _))).trans h1, (hb1.cell (Nat.lt_of_lt_of_le hb (Nat.le_refl _))).trans h2, (hb1.cell (Nat.lt_of_lt_of_le hb (Nat.le_refl _))).trans h3⟩)
        (first | (go_at_call 73; refine (markText_any _ (by omega) (by omega) _).mono ?_; rintro e w1 ⟨rfl, hb1⟩))
      have HB1 := hide (Below.trans (Below.drew hbl) (hb1.mono (by exact hbl.size)))
      have HZ1 := hide (show wr.heap.size ≤ w1.heap.size from hb1.size)
      have q1_0 := (hb1.cell (p := ⟨b, o + i * 4, none⟩) (Nat.lt_of_lt_of_le hb (Nat.le_refl _))).trans h0
      have q1_1 := (hb1.cell (p := ⟨b, o + i * 4 + 1, none⟩) (Nat.lt_of_lt_of_le hb (Nat.le_refl _))).trans h1
      have q1_2 := (hb1.cell (p := ⟨b, o + i * 4 + 2, none⟩) (Nat.lt_of_lt_of_le hb (Nat.le_refl _))).trans h2
      have q1_3 := (hb1.cell (p := ⟨b, o + i * 4 + 3, none⟩) (Nat.lt_of_lt_of_le hb (Nat.le_refl _))).trans h3
      have s1_0 := hs0.drew.step hb1
      clear hb1
      go_wp2_with fail
      refine (heldFileSS_any (x := x[i].versions) _ _ (by exact s1_0) (by omega) (by omega)).mono ?_
      rintro e w2 ⟨rfl, hb2⟩
      have HB2 := hide (Below.trans HB1.out (hb2.mono (by exact HB1.out.size)))
      have HZ2 := hide (show wr.heap.size ≤ w2.heap.size from Nat.le_trans HZ1.out hb2.size)
      have q2_0 := (hb2.cell (p := ⟨b, o + i * 4, none⟩) (Nat.lt_of_lt_of_le hb HZ1.out)).trans q1_0
      have q2_1 := (hb2.cell (p := ⟨b, o + i * 4 + 1, none⟩) (Nat.lt_of_lt_of_le hb HZ1.out)).trans q1_1
      have q2_2 := (hb2.cell (p := ⟨b, o + i * 4 + 2, none⟩) (Nat.lt_of_lt_of_le hb HZ1.out)).trans q1_2
      have q2_3 := (hb2.cell (p := ⟨b, o + i * 4 + 3, none⟩) (Nat.lt_of_lt_of_le hb HZ1.out)).trans q1_3
      clear hb2
      go_wp2
      refine ⟨⟨i + 1, m + (ctRef x[i] : Nat), by omega, by go_num, by simp only [ctRef]; go_num, HH.out.next hlt, HB2.out⟩, by simp [intOf]; omega⟩
    · have hi' : i = x.length := by omega
      subst hi'
      go_wp2
      go_ret
      exact ⟨ret_int HH.out.all_, hbl⟩

set_option maxHeartbeats 2000000 in
theorem heldRepoS_any {A : Option Addr} {n c : Nat} {x : List (Repo)} {fx : List Nat} (k0 : Int) (w : World) (hx : SlR Rp.repo w A n c (markL mkRepo ctRepo x k0) fx) (hk0 : 0 ≤ k0) (hkm : k0 + (countL ctRepo x : Nat) ≤ 1152921504606846976) :
    Calls Tryd.prog 28 #[.slice A n c, .int .i64 k0] w fun e w' => e = .returned (.int .i64 (k0 + (countL ctRepo x : Nat))) ∧ Below w.heap.size w w' := by
  obtain ⟨hnx, hcx, hmx, _⟩ := id hx
  rw [markL_length] at hnx
  subst hnx
  unfold maxLen at hmx
  go_enter Tryd.func28, Tryd.ntmps28
  go_wp2
  go_loopw [1, 5] (fun kv i wr => ∃ (i' : Nat) (m : Int), i' ≤ x.length ∧ i = .int .i64 i' ∧ kv = .int .i64 m ∧ HeldTo ctRepo x k0 i' m ∧ Below w.heap.size w wr) (fun _ i _ => x.length - (intOf i).toNat)
  case atStart => exact ⟨0, k0, Nat.zero_le _, rfl, rfl, HeldTo.start, Below.refl _ _⟩
  case round =>
    obtain ⟨i, m, hi, rfl, rfl, hh, hbl⟩ := hrel
    have hm0 := hh.low hk0
    have HH := hide hh
    clear hh
    by_cases hlt : i < x.length
    · have hltm : i < (markL mkRepo ctRepo x k0).length := by rw [markL_length]; exact hlt
      have hm1 := HH.out.high hlt
      have hltI : (i : Int) < (x.length : Int) := by omega
      have hget := HH.out.get (mk := mkRepo) hlt hltm
      obtain ⟨b, o, A0, n0, c0, f0, A1, n1, c1, f1, rfl, hb, hm, h0, h1, h2, hs0, hs1, hsub⟩ := repo_cells (hx.below hbl (Nat.le_refl _)) hltm
      rw [hget] at h0 hs0 hs1
      clear hget
      simp only [ctRepo] at hm1
      simp only [mkRepo] at h0 hs0 hs1
      go_wp2_with fail
      refine (heldRuleS_any (x := x[i].rules) _ _ (by exact hs0) (by omega) (by omega)).mono ?_
      rintro e w1 ⟨rfl, hb1⟩
      have HB1 := hide (Below.trans hbl (hb1.mono (by exact hbl.size)))
      have HZ1 := hide (show wr.heap.size ≤ w1.heap.size from hb1.size)
      have q1_0 := (hb1.cell (p := ⟨b, o + i * 3, none⟩) (Nat.lt_of_lt_of_le hb (Nat.le_refl _))).trans h0
      have q1_1 := (hb1.cell (p := ⟨b, o + i * 3 + 1, none⟩) (Nat.lt_of_lt_of_le hb (Nat.le_refl _))).trans h1
      have q1_2 := (hb1.cell (p := ⟨b, o + i * 3 + 2, none⟩) (Nat.lt_of_lt_of_le hb (Nat.le_refl _))).trans h2
      have s1_1 := hs1.step hb1
      clear hb1
      go_wp2_with fail
      refine (heldRefS_any (x := x[i].refs) _ _ (by exact s1_1) (by omega) (by omega)).mono ?_
      rintro e w2 ⟨rfl, hb2⟩
      have HB2 := hide (Below.trans HB1.out (hb2.mono (by exact HB1.out.size)))
      have HZ2 := hide (show wr.heap.size ≤ w2.heap.size from Nat.le_trans HZ1.out hb2.size)
      have q2_0 := (hb2.cell (p := ⟨b, o + i * 3, none⟩) (Nat.lt_of_lt_of_le hb HZ1.out)).trans q1_0
      have q2_1 := (hb2.cell (p := ⟨b, o + i * 3 + 1, none⟩) (Nat.lt_of_lt_of_le hb HZ1.out)).trans q1_1
      have q2_2 := (hb2.cell (p := ⟨b, o + i * 3 + 2, none⟩) (Nat.lt_of_lt_of_le hb HZ1.out)).trans q1_2
      clear hb2
      go_wp2
      refine ⟨⟨i + 1, m + (ctRepo x[i] : Nat), by omega, by go_num, by simp only [ctRepo]; go_num, HH.out.next hlt, HB2.out⟩, by simp [intOf]; omega⟩
    · have hi' : i = x.length := by omega
      subst hi'
      go_wp2
      go_ret
      exact ⟨ret_int HH.out.all_, hbl⟩

end Go.Proofs.YtnogkkcmcnhodaaDoor
