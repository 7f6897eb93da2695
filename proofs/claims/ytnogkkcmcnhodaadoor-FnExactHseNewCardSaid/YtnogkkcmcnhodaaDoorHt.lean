/- Walks: the laws' questions at whole houses at their beginning. By program (wip/gen/gen_ht.py). -/
import Derived.Test.YtnogkkcmcnhodaaDoorHs
import Derived.Test.YtnogkkcmcnhodaaDoorMt
import Derived.Test.YtnogkkcmcnhodaaDoorWE
namespace Go.Proofs.YtnogkkcmcnhodaaDoor
open Go.RowKit
attribute [local go_sem ↓] Go.wp_at_zero Go.wp_at_succ

set_option maxHeartbeats 1000000 in
set_option maxRecDepth 20000 in
theorem eqRulRuleS_nil (w : World) : Calls Tryd.prog 79 #[.slice none 0 0, .slice none 0 0] w fun e w' => e = .returned (.bool true) ∧ Below w.heap.size w w' := by
  go_enter Tryd.func79, Tryd.ntmps79
  go_wp2
  go_loopw [5] (fun i wr => i = .int .i64 0 ∧ Below w.heap.size w wr) (fun _ _ => 0)
  case atStart => exact ⟨rfl, Below.refl _ _⟩
  case round =>
    obtain ⟨rfl, hbl⟩ := hrel
    go_wp2
    go_ret
    exact ⟨rfl, hbl⟩

set_option maxHeartbeats 1000000 in
set_option maxRecDepth 20000 in
theorem eqHseRefS_nil (w : World) : Calls Tryd.prog 96 #[.slice none 0 0, .slice none 0 0] w fun e w' => e = .returned (.bool true) ∧ Below w.heap.size w w' := by
  go_enter Tryd.func96, Tryd.ntmps96
  go_wp2
  go_loopw [5] (fun i wr => i = .int .i64 0 ∧ Below w.heap.size w wr) (fun _ _ => 0)
  case atStart => exact ⟨rfl, Below.refl _ _⟩
  case round =>
    obtain ⟨rfl, hbl⟩ := hrel
    go_wp2
    go_ret
    exact ⟨rfl, hbl⟩

set_option maxHeartbeats 1000000 in
set_option maxRecDepth 20000 in
theorem eqPolItemS_nil (w : World) : Calls Tryd.prog 40 #[.slice none 0 0, .slice none 0 0] w fun e w' => e = .returned (.bool true) ∧ Below w.heap.size w w' := by
  go_enter Tryd.func40, Tryd.ntmps40
  go_wp2
  go_loopw [5] (fun i wr => i = .int .i64 0 ∧ Below w.heap.size w wr) (fun _ _ => 0)
  case atStart => exact ⟨rfl, Below.refl _ _⟩
  case round =>
    obtain ⟨rfl, hbl⟩ := hrel
    go_wp2
    go_ret
    exact ⟨rfl, hbl⟩

set_option maxHeartbeats 1000000 in
set_option maxRecDepth 20000 in
theorem eqHseTicketS_nil (w : World) : Calls Tryd.prog 41 #[.slice none 0 0, .slice none 0 0] w fun e w' => e = .returned (.bool true) ∧ Below w.heap.size w w' := by
  go_enter Tryd.func41, Tryd.ntmps41
  go_wp2
  go_loopw [5] (fun i wr => i = .int .i64 0 ∧ Below w.heap.size w wr) (fun _ _ => 0)
  case atStart => exact ⟨rfl, Below.refl _ _⟩
  case round =>
    obtain ⟨rfl, hbl⟩ := hrel
    go_wp2
    go_ret
    exact ⟨rfl, hbl⟩

set_option maxHeartbeats 1000000 in
set_option maxRecDepth 20000 in
theorem eqHseLineS_nil (w : World) : Calls Tryd.prog 42 #[.slice none 0 0, .slice none 0 0] w fun e w' => e = .returned (.bool true) ∧ Below w.heap.size w w' := by
  go_enter Tryd.func42, Tryd.ntmps42
  go_wp2
  go_loopw [5] (fun i wr => i = .int .i64 0 ∧ Below w.heap.size w wr) (fun _ _ => 0)
  case atStart => exact ⟨rfl, Below.refl _ _⟩
  case round =>
    obtain ⟨rfl, hbl⟩ := hrel
    go_wp2
    go_ret
    exact ⟨rfl, hbl⟩

set_option maxHeartbeats 1000000 in
set_option maxRecDepth 20000 in
theorem eqIntS_nil (w : World) : Calls Tryd.prog 10 #[.slice none 0 0, .slice none 0 0] w fun e w' => e = .returned (.bool true) ∧ Below w.heap.size w w' := by
  go_enter Tryd.func10, Tryd.ntmps10
  go_wp2
  go_loopw [5] (fun i wr => i = .int .i64 0 ∧ Below w.heap.size w wr) (fun _ _ => 0)
  case atStart => exact ⟨rfl, Below.refl _ _⟩
  case round =>
    obtain ⟨rfl, hbl⟩ := hrel
    go_wp2
    go_ret
    exact ⟨rfl, hbl⟩

set_option maxHeartbeats 1000000 in
set_option maxRecDepth 20000 in
theorem markRulRuleS_nil (k0 : Int) (w : World) : Calls Tryd.prog 52 #[.slice none 0 0, .int .i64 k0] w fun e w' => e = .returned (.int .i64 k0) ∧ Below w.heap.size w w' := by
  go_enter Tryd.func52, Tryd.ntmps52
  go_wp2
  go_loopw [1, 5] (fun kv i wr => i = .int .i64 0 ∧ kv = .int .i64 k0 ∧ Below w.heap.size w wr) (fun _ _ _ => 0)
  case atStart => exact ⟨rfl, rfl, Below.refl _ _⟩
  case round =>
    obtain ⟨rfl, rfl, hbl⟩ := hrel
    go_wp2
    go_ret
    exact ⟨rfl, hbl⟩

set_option maxHeartbeats 1000000 in
set_option maxRecDepth 20000 in
theorem markHseRefS_nil (k0 : Int) (w : World) : Calls Tryd.prog 72 #[.slice none 0 0, .int .i64 k0] w fun e w' => e = .returned (.int .i64 k0) ∧ Below w.heap.size w w' := by
  go_enter Tryd.func72, Tryd.ntmps72
  go_wp2
  go_loopw [1, 5] (fun kv i wr => i = .int .i64 0 ∧ kv = .int .i64 k0 ∧ Below w.heap.size w wr) (fun _ _ _ => 0)
  case atStart => exact ⟨rfl, rfl, Below.refl _ _⟩
  case round =>
    obtain ⟨rfl, rfl, hbl⟩ := hrel
    go_wp2
    go_ret
    exact ⟨rfl, hbl⟩

set_option maxHeartbeats 1000000 in
set_option maxRecDepth 20000 in
theorem markPolItemS_nil (k0 : Int) (w : World) : Calls Tryd.prog 44 #[.slice none 0 0, .int .i64 k0] w fun e w' => e = .returned (.int .i64 k0) ∧ Below w.heap.size w w' := by
  go_enter Tryd.func44, Tryd.ntmps44
  go_wp2
  go_loopw [1, 5] (fun kv i wr => i = .int .i64 0 ∧ kv = .int .i64 k0 ∧ Below w.heap.size w wr) (fun _ _ _ => 0)
  case atStart => exact ⟨rfl, rfl, Below.refl _ _⟩
  case round =>
    obtain ⟨rfl, rfl, hbl⟩ := hrel
    go_wp2
    go_ret
    exact ⟨rfl, hbl⟩

set_option maxHeartbeats 1000000 in
set_option maxRecDepth 20000 in
theorem markHseTicketS_nil (k0 : Int) (w : World) : Calls Tryd.prog 45 #[.slice none 0 0, .int .i64 k0] w fun e w' => e = .returned (.int .i64 k0) ∧ Below w.heap.size w w' := by
  go_enter Tryd.func45, Tryd.ntmps45
  go_wp2
  go_loopw [1, 5] (fun kv i wr => i = .int .i64 0 ∧ kv = .int .i64 k0 ∧ Below w.heap.size w wr) (fun _ _ _ => 0)
  case atStart => exact ⟨rfl, rfl, Below.refl _ _⟩
  case round =>
    obtain ⟨rfl, rfl, hbl⟩ := hrel
    go_wp2
    go_ret
    exact ⟨rfl, hbl⟩

set_option maxHeartbeats 1000000 in
set_option maxRecDepth 20000 in
theorem markHseLineS_nil (k0 : Int) (w : World) : Calls Tryd.prog 46 #[.slice none 0 0, .int .i64 k0] w fun e w' => e = .returned (.int .i64 k0) ∧ Below w.heap.size w w' := by
  go_enter Tryd.func46, Tryd.ntmps46
  go_wp2
  go_loopw [1, 5] (fun kv i wr => i = .int .i64 0 ∧ kv = .int .i64 k0 ∧ Below w.heap.size w wr) (fun _ _ _ => 0)
  case atStart => exact ⟨rfl, rfl, Below.refl _ _⟩
  case round =>
    obtain ⟨rfl, rfl, hbl⟩ := hrel
    go_wp2
    go_ret
    exact ⟨rfl, hbl⟩

set_option maxHeartbeats 1000000 in
set_option maxRecDepth 20000 in
theorem markIntS_nil (k0 : Int) (w : World) : Calls Tryd.prog 11 #[.slice none 0 0, .int .i64 k0] w fun e w' => e = .returned (.int .i64 k0) ∧ Below w.heap.size w w' := by
  go_enter Tryd.func11, Tryd.ntmps11
  go_wp2
  go_loopw [1, 5] (fun kv i wr => i = .int .i64 0 ∧ kv = .int .i64 k0 ∧ Below w.heap.size w wr) (fun _ _ _ => 0)
  case atStart => exact ⟨rfl, rfl, Below.refl _ _⟩
  case round =>
    obtain ⟨rfl, rfl, hbl⟩ := hrel
    go_wp2
    go_ret
    exact ⟨rfl, hbl⟩

set_option maxHeartbeats 1000000 in
set_option maxRecDepth 20000 in
theorem heldRulRuleS_nil (k0 : Int) (w : World) : Calls Tryd.prog 54 #[.slice none 0 0, .int .i64 k0] w fun e w' => e = .returned (.int .i64 k0) ∧ Below w.heap.size w w' := by
  go_enter Tryd.func54, Tryd.ntmps54
  go_wp2
  go_loopw [1, 5] (fun kv i wr => i = .int .i64 0 ∧ kv = .int .i64 k0 ∧ Below w.heap.size w wr) (fun _ _ _ => 0)
  case atStart => exact ⟨rfl, rfl, Below.refl _ _⟩
  case round =>
    obtain ⟨rfl, rfl, hbl⟩ := hrel
    go_wp2
    go_ret
    exact ⟨rfl, hbl⟩

set_option maxHeartbeats 1000000 in
set_option maxRecDepth 20000 in
theorem heldHseRefS_nil (k0 : Int) (w : World) : Calls Tryd.prog 76 #[.slice none 0 0, .int .i64 k0] w fun e w' => e = .returned (.int .i64 k0) ∧ Below w.heap.size w w' := by
  go_enter Tryd.func76, Tryd.ntmps76
  go_wp2
  go_loopw [1, 5] (fun kv i wr => i = .int .i64 0 ∧ kv = .int .i64 k0 ∧ Below w.heap.size w wr) (fun _ _ _ => 0)
  case atStart => exact ⟨rfl, rfl, Below.refl _ _⟩
  case round =>
    obtain ⟨rfl, rfl, hbl⟩ := hrel
    go_wp2
    go_ret
    exact ⟨rfl, hbl⟩

set_option maxHeartbeats 1000000 in
set_option maxRecDepth 20000 in
theorem heldPolItemS_nil (k0 : Int) (w : World) : Calls Tryd.prog 48 #[.slice none 0 0, .int .i64 k0] w fun e w' => e = .returned (.int .i64 k0) ∧ Below w.heap.size w w' := by
  go_enter Tryd.func48, Tryd.ntmps48
  go_wp2
  go_loopw [1, 5] (fun kv i wr => i = .int .i64 0 ∧ kv = .int .i64 k0 ∧ Below w.heap.size w wr) (fun _ _ _ => 0)
  case atStart => exact ⟨rfl, rfl, Below.refl _ _⟩
  case round =>
    obtain ⟨rfl, rfl, hbl⟩ := hrel
    go_wp2
    go_ret
    exact ⟨rfl, hbl⟩

set_option maxHeartbeats 1000000 in
set_option maxRecDepth 20000 in
theorem heldHseTicketS_nil (k0 : Int) (w : World) : Calls Tryd.prog 49 #[.slice none 0 0, .int .i64 k0] w fun e w' => e = .returned (.int .i64 k0) ∧ Below w.heap.size w w' := by
  go_enter Tryd.func49, Tryd.ntmps49
  go_wp2
  go_loopw [1, 5] (fun kv i wr => i = .int .i64 0 ∧ kv = .int .i64 k0 ∧ Below w.heap.size w wr) (fun _ _ _ => 0)
  case atStart => exact ⟨rfl, rfl, Below.refl _ _⟩
  case round =>
    obtain ⟨rfl, rfl, hbl⟩ := hrel
    go_wp2
    go_ret
    exact ⟨rfl, hbl⟩

set_option maxHeartbeats 1000000 in
set_option maxRecDepth 20000 in
theorem heldHseLineS_nil (k0 : Int) (w : World) : Calls Tryd.prog 50 #[.slice none 0 0, .int .i64 k0] w fun e w' => e = .returned (.int .i64 k0) ∧ Below w.heap.size w w' := by
  go_enter Tryd.func50, Tryd.ntmps50
  go_wp2
  go_loopw [1, 5] (fun kv i wr => i = .int .i64 0 ∧ kv = .int .i64 k0 ∧ Below w.heap.size w wr) (fun _ _ _ => 0)
  case atStart => exact ⟨rfl, rfl, Below.refl _ _⟩
  case round =>
    obtain ⟨rfl, rfl, hbl⟩ := hrel
    go_wp2
    go_ret
    exact ⟨rfl, hbl⟩

set_option maxHeartbeats 1000000 in
set_option maxRecDepth 20000 in
theorem heldIntS_nil (k0 : Int) (w : World) : Calls Tryd.prog 27 #[.slice none 0 0, .int .i64 k0] w fun e w' => e = .returned (.int .i64 k0) ∧ Below w.heap.size w w' := by
  go_enter Tryd.func27, Tryd.ntmps27
  go_wp2
  go_loopw [1, 5] (fun kv i wr => i = .int .i64 0 ∧ kv = .int .i64 k0 ∧ Below w.heap.size w wr) (fun _ _ _ => 0)
  case atStart => exact ⟨rfl, rfl, Below.refl _ _⟩
  case round =>
    obtain ⟨rfl, rfl, hbl⟩ := hrel
    go_wp2
    go_ret
    exact ⟨rfl, hbl⟩

theorem hr_cells {w : World} {A : Option Addr} {n c : Nat} {l : List Int} {fp : List Nat} (h : SlR Rp.hr w A n c l fp) {i : Nat} (hi : i < l.length) :
    ∃ b o, A = some ⟨b, o, none⟩ ∧ b < w.heap.size ∧ b ∈ fp ∧ w.cell? ⟨b, o + i * 3, none⟩ = some (.int .i64 l[i]) ∧ w.cell? ⟨b, o + i * 3 + 1, none⟩ = some (.slice none 0 0) ∧ w.cell? ⟨b, o + i * 3 + 2, none⟩ = some (.slice none 0 0) := by
  obtain ⟨b, o, hA, hb, hm, hc⟩ := h.getFlat hi
  exact ⟨b, o, hA, hb, hm, hc.at0, hc.tail.at0, hc.tail.tail.at0⟩

set_option maxHeartbeats 1000000 in
set_option maxRecDepth 20000 in
theorem eqHseRepo_bare (a b : Int) (w : World) : Calls Tryd.prog 68 #[.agg (encHR a).toArray, .agg (encHR b).toArray] w fun e w' => e = .returned (.bool (decide (a = b))) ∧ Below w.heap.size w w' := by
  unfold encHR
  have k1 := (Blk.new w 68 #[.int .i64 a, .slice none 0 0, .slice none 0 0]).alloc (.cells #[.int .i64 b, .slice none 0 0, .slice none 0 0] 68)
  have k2 := Blk.new (w.alloc (.cells #[.int .i64 a, .slice none 0 0, .slice none 0 0] 68)) 68 #[.int .i64 b, .slice none 0 0, .slice none 0 0]
  rw [show (w.alloc (.cells #[.int .i64 a, .slice none 0 0, .slice none 0 0] 68)).heap.size = w.heap.size + 1 by simp] at k2
  have HB0 := (((Below.refl w.heap.size w).alloc (Nat.le_refl _) (.cells #[.int .i64 a, .slice none 0 0, .slice none 0 0] 68)).alloc (by simp) (.cells #[.int .i64 b, .slice none 0 0, .slice none 0 0] 68))
  by_cases h : a = b
  · subst h
    go_enter Tryd.func68, Tryd.ntmps68
    go_wp2_with fail
    refine (eqRulRuleS_nil _).mono ?_
    rintro e w1 ⟨rfl, hb⟩
    replace k1 := k1.step hb
    replace k2 := k2.step hb
    replace HB0 := Below.then_ HB0 hb
    clear hb
    have u2 : w1.cell? ⟨w.heap.size, 2, none⟩ = some (.slice none 0 0) := k1.cell 2
    have v2 : w1.cell? ⟨w.heap.size + 1, 2, none⟩ = some (.slice none 0 0) := k2.cell 2
    go_wp2_with fail
    refine (eqHseRefS_nil _).mono ?_
    rintro e w2 ⟨rfl, hb⟩
    replace HB0 := Below.then_ HB0 hb
    clear hb u2 v2
    go_wp2
    go_ret
    exact ⟨ret_bool (by simp), HB0⟩
  · have hd : (a != b) = true := by simpa using h
    have HN := hide h
    clear h k1 k2
    go_enter Tryd.func68, Tryd.ntmps68
    go_wp2
    go_ret
    exact ⟨ret_bool (by have := HN.out; simp [this]), HB0⟩

set_option maxHeartbeats 1000000 in
set_option maxRecDepth 20000 in
theorem eqHseRepoS_bare {A A' : Option Addr} {n n' c c' : Nat} {x y : List Int} {fx fy : List Nat} (w : World) (hx : SlR Rp.hr w A n c x fx) (hy : SlR Rp.hr w A' n' c' y fy) :
    Calls Tryd.prog 39 #[.slice A n c, .slice A' n' c'] w fun e w' => e = .returned (.bool (decide (x = y))) ∧ Below w.heap.size w w' := by
  obtain ⟨rfl, hcx, hmx, _⟩ := id hx
  obtain ⟨rfl, hcy, hmy, _⟩ := id hy
  unfold maxLen at hmx hmy
  by_cases hl : x.length = y.length
  · have e0 : ((x.length : Int) != y.length) = false := by simp [hl]
    have HL := hide hl
    clear hl
    go_enter Tryd.func39, Tryd.ntmps39
    go_wp2
    go_loopw [5] (fun i wr => ∃ k : Nat, k ≤ x.length ∧ i = .int .i64 k ∧ agree x y k ∧ Below w.heap.size w wr) (fun i _ => x.length - (intOf i).toNat)
    case atStart => exact ⟨0, Nat.zero_le _, rfl, rfl, Below.refl _ _⟩
    case round =>
      obtain ⟨k, hk, rfl, hag, hbl⟩ := hrel
      by_cases hlt : k < x.length
      · obtain ⟨b, o, rfl, hb, hm, h0, h1, h2⟩ := hr_cells (hx.below hbl (Nat.le_refl _)) hlt
        obtain ⟨b', o', rfl, hb', hm', g0, g1, g2⟩ := hr_cells (hy.below hbl (Nat.le_refl _)) (i := k) (by have := HL.out; omega)
        have hlt' : k < y.length := by have := HL.out; omega
        go_wp2_with fail
        go_region_held3 (fun w' => w'.cell? ⟨b, o + k * 3, none⟩ = some (.int .i64 x[k]) ∧ w'.cell? ⟨b, o + k * 3 + 1, none⟩ = some (.slice none 0 0) ∧ w'.cell? ⟨b, o + k * 3 + 2, none⟩ = some (.slice none 0 0) ∧ w'.cell? ⟨b', o' + k * 3, none⟩ = some (.int .i64 y[k]) ∧ w'.cell? ⟨b', o' + k * 3 + 1, none⟩ = some (.slice none 0 0) ∧ w'.cell? ⟨b', o' + k * 3 + 2, none⟩ = some (.slice none 0 0))
          (first | exact ⟨h0, h1, h2, g0, g1, g2⟩ | exact ⟨(hb1.cell hb).trans h0, (hb1.cell hb).trans h1, (hb1.cell hb).trans h2, (hb1.cell hb').trans g0, (hb1.cell hb').trans g1, (hb1.cell hb').trans g2⟩)
          (first | (go_at_call 68; refine (eqHseRepo_bare x[k] y[k] _).mono ?_; rintro e w1 ⟨rfl, hb1⟩))
        have hB : Below w.heap.size w w1 := hbl.drew.trans (hb1.mono hbl.size)
        clear hb1 h0 h1 h2 g0 g1 g2
        cases hd : decide (x[k] = y[k])
        · have HN := hide (agree_not hlt hlt' (by simpa using hd))
          clear hd
          go_wp2
          go_ret
          exact ⟨ret_bool (by simpa using HN.out), hB⟩
        · have HN := hide (agree_next hag hlt hlt' (by simpa using hd))
          clear hd
          go_wp2
          refine ⟨⟨k + 1, by omega, by go_num, HN.out, hB⟩, by simp [intOf]; omega⟩
      · have hk' : k = x.length := by omega
        subst hk'
        go_wp2
        go_ret
        exact ⟨ret_bool (by simpa using agree_all hag HL.out), hbl⟩
  · have e0 : ((x.length : Int) != y.length) = true := by simp; omega
    have HN := hide (ne_of_length hl)
    clear hl
    go_enter Tryd.func39, Tryd.ntmps39
    go_wp2
    go_ret
    exact ⟨ret_bool (by simpa using HN.out), Below.refl _ _⟩

set_option maxHeartbeats 2000000 in
set_option maxRecDepth 20000 in
theorem markHseRepoS_bare {A : Option Addr} {n c : Nat} {x : List Int} {fx : List Nat} (k0 : Int) (w : World) (hx : SlR Rp.hr w A n c x fx) (hnd : fx.Nodup) (hfr : Free w fx) (hk0 : 0 ≤ k0) (hkm : k0 + (countL (fun _ => 1) x : Nat) ≤ 1152921504606846976) :
    Calls Tryd.prog 43 #[.slice A n c, .int .i64 k0] w fun e w' => e = .returned (.int .i64 (k0 + (countL (fun _ => 1) x : Nat))) ∧ SlR Rp.hr w' A n c (markL (fun _ k => (k : Int)) (fun _ => 1) x k0) fx ∧ Only fx w w' ∧ Free w' fx := by
  obtain ⟨rfl, hcx, hmx, _⟩ := id hx
  unfold maxLen at hmx
  go_enter Tryd.func43, Tryd.ntmps43
  go_wp2
  go_loopw [1, 5] (fun kv i wr => ∃ (i' : Nat) (m : Int), i' ≤ x.length ∧ i = .int .i64 i' ∧ kv = .int .i64 m ∧ MarkRel Rp.hr (fun _ k => (k : Int)) (fun _ => 1) w x A c fx k0 i' m wr) (fun _ i _ => x.length - (intOf i).toNat)
  case atStart => exact ⟨0, k0, Nat.zero_le _, rfl, rfl, MarkRel.start hx hfr⟩
  case round =>
    obtain ⟨i, m, hi, rfl, rfl, hrel⟩ := hrel
    have hm0 := hrel.low hk0
    by_cases hlt : i < x.length
    · have hm1 := hrel.high hlt
      obtain ⟨b, o, cs, f, rfl, hfn, hR, hE, hcl⟩ := hrel.next hnd hlt
      have hkk : Rp.hr.k = 3 := rfl
      simp only [hkk] at hE hcl
      obtain ⟨rfl, rfl⟩ := hR
      have hltI : (i : Int) < (x.length : Int) := by omega
      have qs0 : wr.cell? ⟨b, o + i * 3, none⟩ = some _ := hE.cells 0 _ rfl
      have qs1 : wr.cell? ⟨b, o + i * 3 + 1, none⟩ = some _ := hE.cells 1 _ rfl
      have qs2 : wr.cell? ⟨b, o + i * 3 + 2, none⟩ = some _ := hE.cells 2 _ rfl
      have ys0 : wr.frozen? ⟨b, o + i * 3, none⟩ = false := hE.frozen (o + i * 3)
      have EP := (hE.put (j := 0) (by simp [encHR]) (.int .i64 m))
      have EP1 : (wr.setCell ⟨b, o + i * 3, none⟩ (.int .i64 m)).cell? ⟨b, o + i * 3 + 1, none⟩ = some (.slice none 0 0) := EP.cells 1 _ rfl
      have EP2 : (wr.setCell ⟨b, o + i * 3, none⟩ (.int .i64 m)).cell? ⟨b, o + i * 3 + 2, none⟩ = some (.slice none 0 0) := EP.cells 2 _ rfl
      have HHE := hide EP
      clear EP
      go_wp2_with fail
      refine (markRulRuleS_nil _ _).mono ?_
      rintro e w1 ⟨rfl, hb1⟩
      have E1 := HHE.out.below hb1
      clear hb1 HHE
      have q1 : w1.cell? ⟨b, o + i * 3 + 1, none⟩ = some (.slice none 0 0) := E1.cells 1 _ rfl
      have q2 : w1.cell? ⟨b, o + i * 3 + 2, none⟩ = some (.slice none 0 0) := E1.cells 2 _ rfl
      have HE1 := hide E1
      clear E1
      go_wp2_with fail
      refine (markHseRefS_nil _ _).mono ?_
      rintro e w2 ⟨rfl, hb1⟩
      have E2 := HE1.out.below hb1
      clear hb1 HE1 q1 q2
      go_wp2
      refine ⟨⟨i + 1, m + 1, by omega, by go_num, by go_num, ?_⟩, by simp [intOf]; omega⟩
      exact hcl _ _ (by exact E2) ⟨rfl, rfl⟩
    · have hi' : i = x.length := by omega
      subst hi'
      go_wp2
      go_ret
      exact hrel.finish

set_option maxHeartbeats 2000000 in
set_option maxRecDepth 20000 in
theorem heldHseRepoS_bare {A : Option Addr} {n c : Nat} {x : List Int} {fx : List Nat} (k0 : Int) (w : World) (hx : SlR Rp.hr w A n c (markL (fun _ k => (k : Int)) (fun _ => 1) x k0) fx) (hk0 : 0 ≤ k0) (hkm : k0 + (countL (fun _ => 1) x : Nat) ≤ 1152921504606846976) :
    Calls Tryd.prog 47 #[.slice A n c, .int .i64 k0] w fun e w' => e = .returned (.int .i64 (k0 + (countL (fun _ => 1) x : Nat))) ∧ Below w.heap.size w w' := by
  obtain ⟨hnx, hcx, hmx, _⟩ := id hx
  rw [markL_length] at hnx
  subst hnx
  unfold maxLen at hmx
  go_enter Tryd.func47, Tryd.ntmps47
  go_wp2
  go_loopw [1, 5] (fun kv i wr => ∃ (i' : Nat) (m : Int), i' ≤ x.length ∧ i = .int .i64 i' ∧ kv = .int .i64 m ∧ HeldTo (fun _ => 1) x k0 i' m ∧ Below w.heap.size w wr) (fun _ i _ => x.length - (intOf i).toNat)
  case atStart => exact ⟨0, k0, Nat.zero_le _, rfl, rfl, HeldTo.start, Below.refl _ _⟩
  case round =>
    obtain ⟨i, m, hi, rfl, rfl, hh, hbl⟩ := hrel
    have hm0 := hh.low hk0
    have HH := hide hh
    clear hh
    by_cases hlt : i < x.length
    · have hltm : i < (markL (fun _ k => (k : Int)) (fun _ => 1) x k0).length := by rw [markL_length]; exact hlt
      have hm1 := HH.out.high hlt
      have hltI : (i : Int) < (x.length : Int) := by omega
      have hget := HH.out.get (mk := fun _ k => (k : Int)) hlt hltm
      obtain ⟨b, o, rfl, hb, hm, h0, h1, h2⟩ := hr_cells (hx.below hbl (Nat.le_refl _)) hltm
      rw [hget] at h0
      clear hget
      go_wp2_with fail
      refine (heldRulRuleS_nil _ _).mono ?_
      rintro e w1 ⟨rfl, hb1⟩
      have q2 : w1.cell? ⟨b, o + i * 3 + 2, none⟩ = some (.slice none 0 0) := (hb1.cell hb).trans h2
      have HB1 := hide (hbl.trans (hb1.mono hbl.size))
      clear hb1 h0 h1 h2
      go_wp2_with fail
      refine (heldHseRefS_nil _ _).mono ?_
      rintro e w2 ⟨rfl, hb1⟩
      have HB2 := hide (HB1.out.trans (hb1.mono HB1.out.size))
      clear hb1 q2
      go_wp2
      refine ⟨⟨i + 1, m + 1, by omega, by go_num, by go_num, HH.out.next hlt, HB2.out⟩, by simp [intOf]; omega⟩
    · have hi' : i = x.length := by omega
      subst hi'
      go_wp2
      go_ret
      exact ⟨ret_int HH.out.all_, hbl⟩

def ctHN (x : HN) : Nat := x.keys.length + x.used.length + x.admins.length
def mkHN (x : HN) (k : Int) : HN := ⟨markL (fun _ k => (k : Int)) (fun _ => 1) x.keys k, markL (fun _ k => (k : Int)) (fun _ => 1) x.used (k + (countL (fun _ => 1) x.keys : Nat)), markL (fun _ k => (k : Int)) (fun _ => 1) x.admins (k + (countL (fun _ => 1) x.keys : Nat) + (countL (fun _ => 1) x.used : Nat))⟩
theorem countL_len {α : Type} (l : List α) : countL (fun _ => 1) l = l.length := by
  unfold countL
  induction l with
  | nil => rfl
  | cons x l ih => simp only [List.map_cons, List.sum_cons, List.length_cons] at ih ⊢; omega
theorem ctHN_parts (x : HN) : ((ctHN x : Nat) : Int) = ((countL (fun _ => 1) x.keys : Nat) : Int) + ((countL (fun _ => 1) x.used : Nat) : Int) + ((countL (fun _ => 1) x.admins : Nat) : Int) := by
  unfold ctHN
  rw [countL_len, countL_len, countL_len]
  omega

set_option maxHeartbeats 4000000 in
set_option maxRecDepth 20000 in
theorem eqHN_any {cs cs' : List Value} {x y : HN} {fx fy : List Nat} (w : World) (hx : Rp.hn.R w cs x fx) (hy : Rp.hn.R w cs' y fy) :
    Calls Tryd.prog 20 #[.agg cs.toArray, .agg cs'.toArray] w fun e w' => e = .returned (.bool (decide (x = y))) ∧ Below w.heap.size w w' := by
  obtain ⟨A0, n0, c0, f0, A1, n1, c1, f1, A2, n2, c2, f2, rfl, _, h0, h1, h2⟩ := hx
  obtain ⟨Ay0, ny0, cy0, fy0, Ay1, ny1, cy1, fy1, Ay2, ny2, cy2, fy2, rfl, _, g0, g1, g2⟩ := hy
  obtain ⟨a0, a1, a2⟩ := x
  obtain ⟨d0, d1, d2⟩ := y
  simp only at h0 h1 h2 g0 g1 g2
  simp only [HN.mk.injEq]
  have k1 := (Blk.new w 44 #[.slice A0 n0 c0, .slice A1 n1 c1, .slice A2 n2 c2, .slice none 0 0, .slice none 0 0, .slice none 0 0, .int .i64 0, .slice none 0 0, .slice none 0 0, .slice none 0 0]).alloc (.cells #[.slice Ay0 ny0 cy0, .slice Ay1 ny1 cy1, .slice Ay2 ny2 cy2, .slice none 0 0, .slice none 0 0, .slice none 0 0, .int .i64 0, .slice none 0 0, .slice none 0 0, .slice none 0 0] 44)
  have k2 := Blk.new (w.alloc (.cells #[.slice A0 n0 c0, .slice A1 n1 c1, .slice A2 n2 c2, .slice none 0 0, .slice none 0 0, .slice none 0 0, .int .i64 0, .slice none 0 0, .slice none 0 0, .slice none 0 0] 44)) 44 #[.slice Ay0 ny0 cy0, .slice Ay1 ny1 cy1, .slice Ay2 ny2 cy2, .slice none 0 0, .slice none 0 0, .slice none 0 0, .int .i64 0, .slice none 0 0, .slice none 0 0, .slice none 0 0]
  rw [show (w.alloc (.cells #[.slice A0 n0 c0, .slice A1 n1 c1, .slice A2 n2 c2, .slice none 0 0, .slice none 0 0, .slice none 0 0, .int .i64 0, .slice none 0 0, .slice none 0 0, .slice none 0 0] 44)).heap.size = w.heap.size + 1 by simp] at k2
  have HB0 := (((Below.refl w.heap.size w).alloc (Nat.le_refl _) (.cells #[.slice A0 n0 c0, .slice A1 n1 c1, .slice A2 n2 c2, .slice none 0 0, .slice none 0 0, .slice none 0 0, .int .i64 0, .slice none 0 0, .slice none 0 0, .slice none 0 0] 44)).alloc (by simp) (.cells #[.slice Ay0 ny0 cy0, .slice Ay1 ny1 cy1, .slice Ay2 ny2 cy2, .slice none 0 0, .slice none 0 0, .slice none 0 0, .int .i64 0, .slice none 0 0, .slice none 0 0, .slice none 0 0] 44))
  replace h0 := (h0.allocN (.cells #[.slice A0 n0 c0, .slice A1 n1 c1, .slice A2 n2 c2, .slice none 0 0, .slice none 0 0, .slice none 0 0, .int .i64 0, .slice none 0 0, .slice none 0 0, .slice none 0 0] 44)).allocN (.cells #[.slice Ay0 ny0 cy0, .slice Ay1 ny1 cy1, .slice Ay2 ny2 cy2, .slice none 0 0, .slice none 0 0, .slice none 0 0, .int .i64 0, .slice none 0 0, .slice none 0 0, .slice none 0 0] 44)
  replace g0 := (g0.allocN (.cells #[.slice A0 n0 c0, .slice A1 n1 c1, .slice A2 n2 c2, .slice none 0 0, .slice none 0 0, .slice none 0 0, .int .i64 0, .slice none 0 0, .slice none 0 0, .slice none 0 0] 44)).allocN (.cells #[.slice Ay0 ny0 cy0, .slice Ay1 ny1 cy1, .slice Ay2 ny2 cy2, .slice none 0 0, .slice none 0 0, .slice none 0 0, .int .i64 0, .slice none 0 0, .slice none 0 0, .slice none 0 0] 44)
  replace h1 := (h1.allocN (.cells #[.slice A0 n0 c0, .slice A1 n1 c1, .slice A2 n2 c2, .slice none 0 0, .slice none 0 0, .slice none 0 0, .int .i64 0, .slice none 0 0, .slice none 0 0, .slice none 0 0] 44)).allocN (.cells #[.slice Ay0 ny0 cy0, .slice Ay1 ny1 cy1, .slice Ay2 ny2 cy2, .slice none 0 0, .slice none 0 0, .slice none 0 0, .int .i64 0, .slice none 0 0, .slice none 0 0, .slice none 0 0] 44)
  replace g1 := (g1.allocN (.cells #[.slice A0 n0 c0, .slice A1 n1 c1, .slice A2 n2 c2, .slice none 0 0, .slice none 0 0, .slice none 0 0, .int .i64 0, .slice none 0 0, .slice none 0 0, .slice none 0 0] 44)).allocN (.cells #[.slice Ay0 ny0 cy0, .slice Ay1 ny1 cy1, .slice Ay2 ny2 cy2, .slice none 0 0, .slice none 0 0, .slice none 0 0, .int .i64 0, .slice none 0 0, .slice none 0 0, .slice none 0 0] 44)
  replace h2 := (h2.allocN (.cells #[.slice A0 n0 c0, .slice A1 n1 c1, .slice A2 n2 c2, .slice none 0 0, .slice none 0 0, .slice none 0 0, .int .i64 0, .slice none 0 0, .slice none 0 0, .slice none 0 0] 44)).allocN (.cells #[.slice Ay0 ny0 cy0, .slice Ay1 ny1 cy1, .slice Ay2 ny2 cy2, .slice none 0 0, .slice none 0 0, .slice none 0 0, .int .i64 0, .slice none 0 0, .slice none 0 0, .slice none 0 0] 44)
  replace g2 := (g2.allocN (.cells #[.slice A0 n0 c0, .slice A1 n1 c1, .slice A2 n2 c2, .slice none 0 0, .slice none 0 0, .slice none 0 0, .int .i64 0, .slice none 0 0, .slice none 0 0, .slice none 0 0] 44)).allocN (.cells #[.slice Ay0 ny0 cy0, .slice Ay1 ny1 cy1, .slice Ay2 ny2 cy2, .slice none 0 0, .slice none 0 0, .slice none 0 0, .int .i64 0, .slice none 0 0, .slice none 0 0, .slice none 0 0] 44)
  simp only [restHN]
  go_enter Tryd.func20, Tryd.ntmps20
  go_wp2_with fail
  refine (eqIntS_any (x := a0) (y := d0) _ h0 g0).mono ?_
  rintro e w1 ⟨rfl, hb⟩
  replace k1 := k1.step hb
  replace k2 := k2.step hb
  replace HB0 := Below.then_ HB0 hb
  replace h1 := h1.step hb
  replace g1 := g1.step hb
  replace h2 := h2.step hb
  replace g2 := g2.step hb
  clear hb
  by_cases he : a0 = d0
  rotate_left
  · rw [decide_eq_false he]
    have HN := hide he
    clear he k1 k2
    go_wp2
    go_ret
    exact ⟨ret_bool (by have := HN.out; simp [this]), HB0⟩
  rw [decide_eq_true he]
  have HE0 := hide he
  clear he
  have u1 : w1.cell? ⟨w.heap.size, 1, none⟩ = some (.slice A1 n1 c1) := k1.cell 1
  have v1 : w1.cell? ⟨w.heap.size + 1, 1, none⟩ = some (.slice Ay1 ny1 cy1) := k2.cell 1
  go_wp2_with fail
  clear u1 v1
  refine (eqIntS_any (x := a1) (y := d1) _ h1 g1).mono ?_
  rintro e w2 ⟨rfl, hb⟩
  replace k1 := k1.step hb
  replace k2 := k2.step hb
  replace HB0 := Below.then_ HB0 hb
  replace h2 := h2.step hb
  replace g2 := g2.step hb
  clear hb
  by_cases he : a1 = d1
  rotate_left
  · rw [decide_eq_false he]
    have HN := hide he
    clear he k1 k2
    go_wp2
    go_ret
    exact ⟨ret_bool (by have := HN.out; simp [this]), HB0⟩
  rw [decide_eq_true he]
  have HE1 := hide he
  clear he
  have u2 : w2.cell? ⟨w.heap.size, 2, none⟩ = some (.slice A2 n2 c2) := k1.cell 2
  have v2 : w2.cell? ⟨w.heap.size + 1, 2, none⟩ = some (.slice Ay2 ny2 cy2) := k2.cell 2
  go_wp2_with fail
  clear u2 v2
  refine (eqHseRepoS_bare (x := a2) (y := d2) _ h2 g2).mono ?_
  rintro e w3 ⟨rfl, hb⟩
  replace k1 := k1.step hb
  replace k2 := k2.step hb
  replace HB0 := Below.then_ HB0 hb
  clear hb
  by_cases he : a2 = d2
  rotate_left
  · rw [decide_eq_false he]
    have HN := hide he
    clear he k1 k2
    go_wp2
    go_ret
    exact ⟨ret_bool (by have := HN.out; simp [this]), HB0⟩
  rw [decide_eq_true he]
  have HE2 := hide he
  clear he
  have u3 : w3.cell? ⟨w.heap.size, 3, none⟩ = some (.slice none 0 0) := k1.cell 3
  have v3 : w3.cell? ⟨w.heap.size + 1, 3, none⟩ = some (.slice none 0 0) := k2.cell 3
  go_wp2_with fail
  clear u3 v3
  refine (eqPolItemS_nil _).mono ?_
  rintro e w4 ⟨rfl, hb⟩
  replace k1 := k1.step hb
  replace k2 := k2.step hb
  replace HB0 := Below.then_ HB0 hb
  clear hb
  have u4 : w4.cell? ⟨w.heap.size, 4, none⟩ = some (.slice none 0 0) := k1.cell 4
  have v4 : w4.cell? ⟨w.heap.size + 1, 4, none⟩ = some (.slice none 0 0) := k2.cell 4
  go_wp2_with fail
  clear u4 v4
  refine (eqIntS_nil _).mono ?_
  rintro e w5 ⟨rfl, hb⟩
  replace k1 := k1.step hb
  replace k2 := k2.step hb
  replace HB0 := Below.then_ HB0 hb
  clear hb
  have u5 : w5.cell? ⟨w.heap.size, 5, none⟩ = some (.slice none 0 0) := k1.cell 5
  have v5 : w5.cell? ⟨w.heap.size + 1, 5, none⟩ = some (.slice none 0 0) := k2.cell 5
  go_wp2_with fail
  clear u5 v5
  refine (eqHseTicketS_nil _).mono ?_
  rintro e w6 ⟨rfl, hb⟩
  replace k1 := k1.step hb
  replace k2 := k2.step hb
  replace HB0 := Below.then_ HB0 hb
  clear hb
  have u6 : w6.cell? ⟨w.heap.size, 6, none⟩ = some (.int .i64 0) := k1.cell 6
  have v6 : w6.cell? ⟨w.heap.size + 1, 6, none⟩ = some (.int .i64 0) := k2.cell 6
  have u7 : w6.cell? ⟨w.heap.size, 7, none⟩ = some (.slice none 0 0) := k1.cell 7
  have v7 : w6.cell? ⟨w.heap.size + 1, 7, none⟩ = some (.slice none 0 0) := k2.cell 7
  go_wp2_with fail
  clear u6 v6 u7 v7
  refine (eqIntS_nil _).mono ?_
  rintro e w7 ⟨rfl, hb⟩
  replace k1 := k1.step hb
  replace k2 := k2.step hb
  replace HB0 := Below.then_ HB0 hb
  clear hb
  have u8 : w7.cell? ⟨w.heap.size, 8, none⟩ = some (.slice none 0 0) := k1.cell 8
  have v8 : w7.cell? ⟨w.heap.size + 1, 8, none⟩ = some (.slice none 0 0) := k2.cell 8
  go_wp2_with fail
  clear u8 v8
  refine (eqIntS_nil _).mono ?_
  rintro e w8 ⟨rfl, hb⟩
  replace k1 := k1.step hb
  replace k2 := k2.step hb
  replace HB0 := Below.then_ HB0 hb
  clear hb
  have u9 : w8.cell? ⟨w.heap.size, 9, none⟩ = some (.slice none 0 0) := k1.cell 9
  have v9 : w8.cell? ⟨w.heap.size + 1, 9, none⟩ = some (.slice none 0 0) := k2.cell 9
  go_wp2_with fail
  clear u9 v9
  refine (eqHseLineS_nil _).mono ?_
  rintro e w9 ⟨rfl, hb⟩
  replace k1 := k1.step hb
  replace k2 := k2.step hb
  replace HB0 := Below.then_ HB0 hb
  clear hb
  go_wp2
  go_ret
  exact ⟨ret_bool (by have q0 := HE0.out; have q1 := HE1.out; have q2 := HE2.out; simp [q0, q1, q2]), HB0⟩

set_option maxHeartbeats 4000000 in
set_option maxRecDepth 20000 in
theorem markHN_any {cs : List Value} {x : HN} {fx : List Nat} (k0 : Int) (w : World) (hx : Rp.hn.R w cs x fx) (hnd : fx.Nodup) (hfr : Free w fx) (hk0 : 0 ≤ k0) (hkm : k0 + (ctHN x : Nat) ≤ 1152921504606846976) :
    Calls Tryd.prog 21 #[.agg cs.toArray, .int .i64 k0] w fun e w' => e = .returned (.int .i64 (k0 + (ctHN x : Nat))) ∧ Rp.hn.R w' cs (mkHN x k0) fx ∧ Only fx w w' ∧ Free w' fx := by
  obtain ⟨A0, n0, c0, f0, A1, n1, c1, f1, A2, n2, c2, f2, rfl, rfl, h0, h1, h2⟩ := hx
  have hct := ctHN_parts x
  rw [hct] at hkm ⊢
  have n0' : 0 ≤ ((countL (fun _ => 1) x.keys : Nat) : Int) := by omega
  have n1' : 0 ≤ ((countL (fun _ => 1) x.used : Nat) : Int) := by omega
  have n2' : 0 ≤ ((countL (fun _ => 1) x.admins : Nat) : Int) := by omega
  have d0 := disj_left hnd
  have d0' := disj_right hnd
  have hnd1 := (List.nodup_append.1 hnd).2.1
  have d1 := disj_left hnd1
  have d1' := disj_right hnd1
  have m0 := (List.nodup_append.1 hnd).1
  have m1 := (List.nodup_append.1 hnd1).1
  have m2 := (List.nodup_append.1 hnd1).2.1
  have kb := Blk.new w 44 #[.slice A0 n0 c0, .slice A1 n1 c1, .slice A2 n2 c2, .slice none 0 0, .slice none 0 0, .slice none 0 0, .int .i64 0, .slice none 0 0, .slice none 0 0, .slice none 0 0]
  have hgl : ∀ z ∈ f0 ++ (f1 ++ f2), z < w.heap.size := hfr.lt
  have HFR := hfr.step ((Below.refl w.heap.size w).alloc (Nat.le_refl _) (.cells #[.slice A0 n0 c0, .slice A1 n1 c1, .slice A2 n2 c2, .slice none 0 0, .slice none 0 0, .slice none 0 0, .int .i64 0, .slice none 0 0, .slice none 0 0, .slice none 0 0] 44))
  replace h0 := h0.allocN (.cells #[.slice A0 n0 c0, .slice A1 n1 c1, .slice A2 n2 c2, .slice none 0 0, .slice none 0 0, .slice none 0 0, .int .i64 0, .slice none 0 0, .slice none 0 0, .slice none 0 0] 44)
  replace h1 := h1.allocN (.cells #[.slice A0 n0 c0, .slice A1 n1 c1, .slice A2 n2 c2, .slice none 0 0, .slice none 0 0, .slice none 0 0, .int .i64 0, .slice none 0 0, .slice none 0 0, .slice none 0 0] 44)
  replace h2 := h2.allocN (.cells #[.slice A0 n0 c0, .slice A1 n1 c1, .slice A2 n2 c2, .slice none 0 0, .slice none 0 0, .slice none 0 0, .int .i64 0, .slice none 0 0, .slice none 0 0, .slice none 0 0] 44)
  have HO := (Only.refl (f0 ++ (f1 ++ f2)) w).alloc (.cells #[.slice A0 n0 c0, .slice A1 n1 c1, .slice A2 n2 c2, .slice none 0 0, .slice none 0 0, .slice none 0 0, .int .i64 0, .slice none 0 0, .slice none 0 0, .slice none 0 0] 44)
  have hnb : ∀ f : List Nat, (∀ z ∈ f, z ∈ f0 ++ (f1 ++ f2)) → w.heap.size ∉ f := fun f hf hm => by have := hgl _ (hf _ hm); omega
  have HNB := hide hnb
  have HD := hide (show (∀ z ∈ f0, z ∈ f0 ++ (f1 ++ f2)) ∧ (∀ z ∈ f1, z ∈ f0 ++ (f1 ++ f2)) ∧ ∀ z ∈ f2, z ∈ f0 ++ (f1 ++ f2) from ⟨fun z hz => by simp [hz], fun z hz => by simp [hz], fun z hz => by simp [hz]⟩)
  clear hnb hgl hnd hnd1 hfr
  simp only [restHN]
  go_enter Tryd.func21, Tryd.ntmps21
  go_wp2_with fail
  refine (markIntS_any (x := x.keys) _ _ h0 m0 (HFR.sub HD.out.1) (by omega) (by omega)).mono ?_
  rintro e w1 ⟨rfl, h0, ho, hf⟩
  replace kb := kb.only ho (HNB.out _ HD.out.1)
  replace h1 := h1.only ho (fun z hz hm => d0 z hm (by simp [hz]))
  replace h2 := h2.only ho (fun z hz hm => d0 z hm (by simp [hz]))
  replace HFR := HFR.other ho hf (fun z hz => HFR.lt z hz)
  replace HO := HO.then_only ho (fun z hz => .inl (HD.out.1 z hz))
  clear ho hf
  have u1 : w1.cell? ⟨w.heap.size, 1, none⟩ = some (.slice A1 n1 c1) := kb.cell 1
  go_wp2_with fail
  clear u1
  refine (markIntS_any (x := x.used) _ _ h1 m1 (HFR.sub HD.out.2.1) (by omega) (by omega)).mono ?_
  rintro e w2 ⟨rfl, h1, ho, hf⟩
  replace kb := kb.only ho (HNB.out _ HD.out.2.1)
  replace h0 := h0.only ho (fun z hz hm => d0 z hz (by simp [hm]))
  replace h2 := h2.only ho (fun z hz hm => d1 z hm hz)
  replace HFR := HFR.other ho hf (fun z hz => HFR.lt z hz)
  replace HO := HO.then_only ho (fun z hz => .inl (HD.out.2.1 z hz))
  clear ho hf
  have u2 : w2.cell? ⟨w.heap.size, 2, none⟩ = some (.slice A2 n2 c2) := kb.cell 2
  go_wp2_with fail
  clear u2
  refine (markHseRepoS_bare (x := x.admins) _ _ h2 m2 (HFR.sub HD.out.2.2) (by omega) (by omega)).mono ?_
  rintro e w3 ⟨rfl, h2, ho, hf⟩
  replace kb := kb.only ho (HNB.out _ HD.out.2.2)
  replace h0 := h0.only ho (fun z hz hm => d0 z hz (by simp [hm]))
  replace h1 := h1.only ho (fun z hz hm => d1 z hz hm)
  replace HFR := HFR.other ho hf (fun z hz => HFR.lt z hz)
  replace HO := HO.then_only ho (fun z hz => .inl (HD.out.2.2 z hz))
  clear ho hf
  have u3 : w3.cell? ⟨w.heap.size, 3, none⟩ = some (.slice none 0 0) := kb.cell 3
  go_wp2_with fail
  clear u3
  refine (markPolItemS_nil _ _).mono ?_
  rintro e w4 ⟨rfl, hb⟩
  replace kb := kb.step hb
  replace h0 := h0.step hb
  replace h1 := h1.step hb
  replace h2 := h2.step hb
  replace HFR := HFR.step hb
  replace HO := HO.then_below hb
  clear hb
  have u4 : w4.cell? ⟨w.heap.size, 4, none⟩ = some (.slice none 0 0) := kb.cell 4
  go_wp2_with fail
  clear u4
  refine (markIntS_nil _ _).mono ?_
  rintro e w5 ⟨rfl, hb⟩
  replace kb := kb.step hb
  replace h0 := h0.step hb
  replace h1 := h1.step hb
  replace h2 := h2.step hb
  replace HFR := HFR.step hb
  replace HO := HO.then_below hb
  clear hb
  have u5 : w5.cell? ⟨w.heap.size, 5, none⟩ = some (.slice none 0 0) := kb.cell 5
  go_wp2_with fail
  clear u5
  refine (markHseTicketS_nil _ _).mono ?_
  rintro e w6 ⟨rfl, hb⟩
  replace kb := kb.step hb
  replace h0 := h0.step hb
  replace h1 := h1.step hb
  replace h2 := h2.step hb
  replace HFR := HFR.step hb
  replace HO := HO.then_below hb
  clear hb
  have u7 : w6.cell? ⟨w.heap.size, 7, none⟩ = some (.slice none 0 0) := kb.cell 7
  go_wp2_with fail
  clear u7
  refine (markIntS_nil _ _).mono ?_
  rintro e w7 ⟨rfl, hb⟩
  replace kb := kb.step hb
  replace h0 := h0.step hb
  replace h1 := h1.step hb
  replace h2 := h2.step hb
  replace HFR := HFR.step hb
  replace HO := HO.then_below hb
  clear hb
  have u8 : w7.cell? ⟨w.heap.size, 8, none⟩ = some (.slice none 0 0) := kb.cell 8
  go_wp2_with fail
  clear u8
  refine (markIntS_nil _ _).mono ?_
  rintro e w8 ⟨rfl, hb⟩
  replace kb := kb.step hb
  replace h0 := h0.step hb
  replace h1 := h1.step hb
  replace h2 := h2.step hb
  replace HFR := HFR.step hb
  replace HO := HO.then_below hb
  clear hb
  have u9 : w8.cell? ⟨w.heap.size, 9, none⟩ = some (.slice none 0 0) := kb.cell 9
  go_wp2_with fail
  clear u9
  refine (markHseLineS_nil _ _).mono ?_
  rintro e w9 ⟨rfl, hb⟩
  replace kb := kb.step hb
  replace h0 := h0.step hb
  replace h1 := h1.step hb
  replace h2 := h2.step hb
  replace HFR := HFR.step hb
  replace HO := HO.then_below hb
  clear hb
  have HRET := hide (show k0 + ((countL (fun _ => 1) x.keys : Nat) : Int) + ((countL (fun _ => 1) x.used : Nat) : Int) + ((countL (fun _ => 1) x.admins : Nat) : Int) = k0 + (((countL (fun _ => 1) x.keys : Nat) : Int) + ((countL (fun _ => 1) x.used : Nat) : Int) + ((countL (fun _ => 1) x.admins : Nat) : Int)) by omega)
  go_wp2
  go_ret
  exact ⟨ret_int HRET.out, ⟨A0, n0, c0, f0, A1, n1, c1, f1, A2, n2, c2, f2, rfl, rfl, h0, h1, h2⟩, HO, HFR⟩

set_option maxHeartbeats 4000000 in
set_option maxRecDepth 20000 in
theorem heldHN_any {cs : List Value} {x : HN} {fx : List Nat} (k0 : Int) (w : World) (hx : Rp.hn.R w cs (mkHN x k0) fx) (hk0 : 0 ≤ k0) (hkm : k0 + (ctHN x : Nat) ≤ 1152921504606846976) :
    Calls Tryd.prog 22 #[.agg cs.toArray, .int .i64 k0] w fun e w' => e = .returned (.int .i64 (k0 + (ctHN x : Nat))) ∧ Below w.heap.size w w' := by
  obtain ⟨A0, n0, c0, f0, A1, n1, c1, f1, A2, n2, c2, f2, rfl, _, h0, h1, h2⟩ := hx
  have hct := ctHN_parts x
  rw [hct] at hkm ⊢
  have n0' : 0 ≤ ((countL (fun _ => 1) x.keys : Nat) : Int) := by omega
  have n1' : 0 ≤ ((countL (fun _ => 1) x.used : Nat) : Int) := by omega
  have n2' : 0 ≤ ((countL (fun _ => 1) x.admins : Nat) : Int) := by omega
  have kb := Blk.new w 44 #[.slice A0 n0 c0, .slice A1 n1 c1, .slice A2 n2 c2, .slice none 0 0, .slice none 0 0, .slice none 0 0, .int .i64 0, .slice none 0 0, .slice none 0 0, .slice none 0 0]
  replace h0 := h0.allocN (.cells #[.slice A0 n0 c0, .slice A1 n1 c1, .slice A2 n2 c2, .slice none 0 0, .slice none 0 0, .slice none 0 0, .int .i64 0, .slice none 0 0, .slice none 0 0, .slice none 0 0] 44)
  replace h1 := h1.allocN (.cells #[.slice A0 n0 c0, .slice A1 n1 c1, .slice A2 n2 c2, .slice none 0 0, .slice none 0 0, .slice none 0 0, .int .i64 0, .slice none 0 0, .slice none 0 0, .slice none 0 0] 44)
  replace h2 := h2.allocN (.cells #[.slice A0 n0 c0, .slice A1 n1 c1, .slice A2 n2 c2, .slice none 0 0, .slice none 0 0, .slice none 0 0, .int .i64 0, .slice none 0 0, .slice none 0 0, .slice none 0 0] 44)
  have HB := (Below.refl w.heap.size w).alloc (Nat.le_refl _) (.cells #[.slice A0 n0 c0, .slice A1 n1 c1, .slice A2 n2 c2, .slice none 0 0, .slice none 0 0, .slice none 0 0, .int .i64 0, .slice none 0 0, .slice none 0 0, .slice none 0 0] 44)
  simp only [restHN]
  go_enter Tryd.func22, Tryd.ntmps22
  go_wp2_with fail
  refine (heldIntS_any (x := x.keys) _ _ h0 (by omega) (by omega)).mono ?_
  rintro e w1 ⟨rfl, hb⟩
  replace kb := kb.step hb
  replace h1 := h1.step hb
  replace h2 := h2.step hb
  replace HB := Below.then_ HB hb
  clear hb
  have u1 : w1.cell? ⟨w.heap.size, 1, none⟩ = some (.slice A1 n1 c1) := kb.cell 1
  go_wp2_with fail
  clear u1
  refine (heldIntS_any (x := x.used) _ _ h1 (by omega) (by omega)).mono ?_
  rintro e w2 ⟨rfl, hb⟩
  replace kb := kb.step hb
  replace h2 := h2.step hb
  replace HB := Below.then_ HB hb
  clear hb
  have u2 : w2.cell? ⟨w.heap.size, 2, none⟩ = some (.slice A2 n2 c2) := kb.cell 2
  go_wp2_with fail
  clear u2
  refine (heldHseRepoS_bare (x := x.admins) _ _ h2 (by omega) (by omega)).mono ?_
  rintro e w3 ⟨rfl, hb⟩
  replace kb := kb.step hb
  replace HB := Below.then_ HB hb
  clear hb
  have u3 : w3.cell? ⟨w.heap.size, 3, none⟩ = some (.slice none 0 0) := kb.cell 3
  go_wp2_with fail
  clear u3
  refine (heldPolItemS_nil _ _).mono ?_
  rintro e w4 ⟨rfl, hb⟩
  replace kb := kb.step hb
  replace HB := Below.then_ HB hb
  clear hb
  have u4 : w4.cell? ⟨w.heap.size, 4, none⟩ = some (.slice none 0 0) := kb.cell 4
  go_wp2_with fail
  clear u4
  refine (heldIntS_nil _ _).mono ?_
  rintro e w5 ⟨rfl, hb⟩
  replace kb := kb.step hb
  replace HB := Below.then_ HB hb
  clear hb
  have u5 : w5.cell? ⟨w.heap.size, 5, none⟩ = some (.slice none 0 0) := kb.cell 5
  go_wp2_with fail
  clear u5
  refine (heldHseTicketS_nil _ _).mono ?_
  rintro e w6 ⟨rfl, hb⟩
  replace kb := kb.step hb
  replace HB := Below.then_ HB hb
  clear hb
  have u7 : w6.cell? ⟨w.heap.size, 7, none⟩ = some (.slice none 0 0) := kb.cell 7
  go_wp2_with fail
  clear u7
  refine (heldIntS_nil _ _).mono ?_
  rintro e w7 ⟨rfl, hb⟩
  replace kb := kb.step hb
  replace HB := Below.then_ HB hb
  clear hb
  have u8 : w7.cell? ⟨w.heap.size, 8, none⟩ = some (.slice none 0 0) := kb.cell 8
  go_wp2_with fail
  clear u8
  refine (heldIntS_nil _ _).mono ?_
  rintro e w8 ⟨rfl, hb⟩
  replace kb := kb.step hb
  replace HB := Below.then_ HB hb
  clear hb
  have u9 : w8.cell? ⟨w.heap.size, 9, none⟩ = some (.slice none 0 0) := kb.cell 9
  go_wp2_with fail
  clear u9
  refine (heldHseLineS_nil _ _).mono ?_
  rintro e w9 ⟨rfl, hb⟩
  replace kb := kb.step hb
  replace HB := Below.then_ HB hb
  clear hb
  have HRET := hide (show k0 + ((countL (fun _ => 1) x.keys : Nat) : Int) + ((countL (fun _ => 1) x.used : Nat) : Int) + ((countL (fun _ => 1) x.admins : Nat) : Int) = k0 + (((countL (fun _ => 1) x.keys : Nat) : Int) + ((countL (fun _ => 1) x.used : Nat) : Int) + ((countL (fun _ => 1) x.admins : Nat) : Int)) by omega)
  have hnn : ¬ k0 + ((countL (fun _ => 1) x.keys : Nat) : Int) + ((countL (fun _ => 1) x.used : Nat) : Int) + ((countL (fun _ => 1) x.admins : Nat) : Int) < 0 := by omega
  go_wp2
  go_ret
  exact ⟨ret_int HRET.out, HB⟩

end Go.Proofs.YtnogkkcmcnhodaaDoor
