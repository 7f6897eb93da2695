/- Walk: the text that marks a place. -/
import Derived.Test.YtnogkkcmcnhodaaDoorOb
namespace Go.Proofs.YtnogkkcmcnhodaaDoor
open Go.RowKit
attribute [local go_sem ↓] Go.wp_at_zero Go.wp_at_succ

theorem digitsOn_step (f k : Nat) (hk : k ≠ 0) (acc : List UInt8) : digitsOn (f + 1) k acc = digitsOn f (k / 10) (UInt8.ofNat (48 + k % 10) :: acc) := by simp [digitsOn, hk]
theorem digitsOn_zero (f : Nat) (acc : List UInt8) : digitsOn f 0 acc = acc := by cases f <;> simp [digitsOn]

set_option maxHeartbeats 1000000 in
set_option maxRecDepth 20000 in
theorem markText_any (k : Int) (h0 : 0 ≤ k) (h1 : k ≤ 1152921504606846976) (w : World) :
    Calls Tryd.prog 73 #[.int .i64 k] w fun e w' => e = .returned (.string (markTx k)) ∧ Below w.heap.size w w' := by
  obtain ⟨n, rfl⟩ : ∃ n : Nat, k = n := ⟨k.toNat, by omega⟩
  have hcv := run_oneByte (P := Tryd.prog) (dst := 9) Tryd.underlying130 Tryd.underlying5 Tryd.underlying9
  go_enter Tryd.func73, Tryd.ntmps73
  go_wp2
  · go_ret
    exact ⟨by simp [markTx]; omega, Below.refl _ _⟩
  · go_loopw [0, 3] (fun kv ov wr => ∃ (m : Nat) (acc : List UInt8) (f : Nat), kv = .int .i64 m ∧ m ≤ n ∧ m ≤ f ∧ ov = .string ⟨acc.toArray⟩ ∧ digitsOn f m acc = digitsOn (n + 1) n [] ∧ acc.length + f ≤ n + 1 ∧ Below w.heap.size w wr) (fun i _ _ => (intOf i).toNat)
    case atStart => exact ⟨n, [], n + 1, rfl, Nat.le_refl _, by omega, rfl, rfl, by simp, Below.refl _ _⟩
    case round =>
      obtain ⟨m, acc, f, rfl, hm, hf, rfl, hd, hl, hbl⟩ := hrel
      have HD := hide hd
      clear hd
      by_cases hlt : m = 0
      · subst hlt
        go_wp2
        go_ret
        refine ⟨?_, hbl⟩
        have h := HD.out
        rw [digitsOn_zero] at h
        have hk : ¬ (n : Int) ≤ 0 := by omega
        simp only [markTx, hk, if_false, Int.toNat_natCast, ← h]
        show Ending.returned (.string (_ ++ _)) = _
        congr 2
      · go_wp2
        refine ⟨⟨m / 10, UInt8.ofNat (48 + m % 10) :: acc, f - 1, by go_num, by omega, by omega, ?_, ?_, by simp; omega, hbl.alloc hbl.size _⟩, by simp [intOf]; omega⟩
        · congr 1
          refine ByteArray.ext ?_
          simp [UInt8.ofNat_add]
        · obtain ⟨f', rfl⟩ : ∃ f', f = f' + 1 := ⟨f - 1, by omega⟩
          rw [← HD.out, digitsOn_step _ _ hlt]
          rfl
end Go.Proofs.YtnogkkcmcnhodaaDoor
