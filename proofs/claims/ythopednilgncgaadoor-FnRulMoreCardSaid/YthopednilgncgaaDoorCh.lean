/- Walks: the laws' own look at rules; what holds of the program. -/
import Derived.Test.YthopednilgncgaaDoorRd
namespace Go.Proofs.YthopednilgncgaaDoor
open Go.RowKit
attribute [local go_sem ↓] Go.wp_at_zero Go.wp_at_succ

set_option maxHeartbeats 1000000 in
theorem chOk_any (w : World) : Calls Tryd.prog 16 #[] w fun e w' => e = .returned (.bool true) ∧ Below w.heap.size w w' := by
  go_enter Tryd.func16, Tryd.ntmps16
  go_wp2_with fail
  refine (implNamOk_any ⟨#[97, 98, 99]⟩ (by decide) _).mono ?_
  rintro e w1 ⟨rfl, hb1⟩
  go_wp2
  go_ret
  exact ⟨ret_bool (by decide), hb1⟩

set_option maxHeartbeats 1000000 in
set_option maxRecDepth 20000 in
theorem chRules_any {A B : Option Addr} {n c m d : Nat} {x y : List Rule} {fx fy : List Nat} (w : World) (hx : SlR Rp.rule w A n c x fx) (hy : SlR Rp.rule w B m d y fy) :
    Calls Tryd.prog 13 #[.slice A n c, .slice B m d] w fun e w' => e = .returned (.bool (decide (x = y))) ∧ Below w.heap.size w w' := by
  obtain ⟨rfl, hcx, hmx, _⟩ := id hx
  obtain ⟨rfl, hcy, hmy, _⟩ := id hy
  unfold maxLen at hmx hmy
  go_enter Tryd.func13, Tryd.ntmps13
  by_cases hl : x.length = y.length
  · have hl' : ((x.length : Int) != (y.length : Int)) = false := by simp [hl]
    go_wp2
    go_loopw [5] (fun i wr => ∃ k : Nat, k ≤ x.length ∧ i = .int .i64 k ∧ agree x y k ∧ Below w.heap.size w wr) (fun i _ => x.length - (intOf i).toNat)
    case atStart => exact ⟨0, Nat.zero_le _, rfl, rfl, Below.refl _ _⟩
    case round =>
      obtain ⟨k, hk, rfl, hag, hbl⟩ := hrel
      have HA := hide hag
      clear hag
      by_cases hlt : k < x.length
      · have hlt2 : k < y.length := by omega
        obtain ⟨b, o, rfl, hb, hm, h0, h1, h2, h3⟩ := rule_cells (hx.step hbl) hlt
        obtain ⟨b', o', rfl, hb', hm', k0, k1, k2, k3⟩ := rule_cells (hy.step hbl) hlt2
        have i0 : (0 : Int) ≤ (k : Int) := by omega
        have i1 : (k : Int) < (x.length : Int) := by omega
        have i2 : (k : Int) < (y.length : Int) := by omega
        have heq := neqRule x[k] y[k]
        have hgd := gdRule
        unfold encRule at heq
        clear hl
        go_wp2_with fail
        go_quiet (fail)
        clear heq hgd h0 h1 h2 h3 k0 k1 k2 k3 i0 i1 i2
        cases hd : decide (x[k] = y[k])
        · have HN := hide (agree_not hlt hlt2 (of_decide_eq_false hd))
          clear hd
          go_wp2
          go_ret
          exact ⟨ret_bool (decide_eq_false HN.out).symm, Below.drewN' hbl _⟩
        · have HN := hide (agree_next HA.out hlt hlt2 (of_decide_eq_true hd))
          clear hd
          go_wp2
          exact ⟨⟨k + 1, by omega, by go_num, HN.out, Below.drewN' hbl _⟩, by simp [intOf]; omega⟩
      · have hk' : k = x.length := by omega
        subst hk'
        go_wp2
        go_ret
        exact ⟨ret_bool (decide_eq_true (agree_all HA.out hl)).symm, hbl⟩
  · have hl' : ((x.length : Int) != (y.length : Int)) = true := by simp; omega
    go_wp2
    go_ret
    exact ⟨ret_bool (decide_eq_false (ne_of_length hl)).symm, Below.refl _ _⟩
end Go.Proofs.YthopednilgncgaaDoor
