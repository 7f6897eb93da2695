/- Walks: numbers' texts of the reference; dashes. -/
import Derived.Test.YthopednilgncgaaDoorRa
import Derived.Test.YthopednilgncgaaDoorOb
import Derived.Lib.ItoaNum
namespace Go.Proofs.YthopednilgncgaaDoor
open Go.RowKit
attribute [local go_sem ↓] Go.wp_at_zero Go.wp_at_succ

def digB (n : Nat) : ByteArray := ⟨(Lib.decDigits n).toArray⟩
def dashB (s : ByteArray) : ByteArray := if s = ByteArray.empty then ⟨#[45]⟩ else s
def digTo : Nat → Nat → List UInt8 → List UInt8
  | 0, _, acc => acc
  | f + 1, k, acc => if k = 0 then acc else digTo f (k / 10) (UInt8.ofNat (48 + k % 10) :: acc)
theorem digTo_step (f k : Nat) (hk : k ≠ 0) (acc : List UInt8) : digTo (f + 1) k acc = digTo f (k / 10) (UInt8.ofNat (48 + k % 10) :: acc) := by simp [digTo, hk]
theorem digTo_zero (f : Nat) (acc : List UInt8) : digTo f 0 acc = acc := by cases f <;> simp [digTo]
theorem decDigits_small {u : Nat} (h : u < 10) : Lib.decDigits u = [UInt8.ofNat (48 + u)] := by rw [Lib.decDigits, dif_pos h]
theorem decDigits_big {u : Nat} (h : ¬ u < 10) : Lib.decDigits u = Lib.decDigits (u / 10) ++ [UInt8.ofNat (48 + u % 10)] := by rw [Lib.decDigits, dif_neg h]
theorem digTo_dec : ∀ (f k : Nat) (acc : List UInt8), 0 < k → k < f → digTo f k acc = Lib.decDigits k ++ acc
  | 0, k, acc, _, h => by omega
  | f + 1, k, acc, h0, h => by
    rw [digTo_step _ _ (by omega)]
    by_cases hk : k < 10
    · rw [show k / 10 = 0 by omega, digTo_zero, decDigits_small hk, show k % 10 = k by omega]
      rfl
    · rw [digTo_dec f (k / 10) _ (by omega) (by omega), decDigits_big hk]
      simp

theorem digB_zero : digB 0 = ⟨#[48]⟩ := by unfold digB; rw [decDigits_small (by decide)]; rfl

set_option maxHeartbeats 1000000 in
set_option maxRecDepth 20000 in
theorem l5Digits_any (n : Nat) (h1 : n ≤ 1152921504606846976) (w : World) :
    Calls Tryd.prog 71 #[.int .i64 n] w fun e w' => e = .returned (.string (digB n)) ∧ Below w.heap.size w w' := by
  have hcv := run_oneByte (P := Tryd.prog) (dst := 9) Tryd.underlying22 Tryd.underlying5 Tryd.underlying9
  go_enter Tryd.func71, Tryd.ntmps71
  go_wp2
  · go_ret
    refine ⟨?_, Below.refl _ _⟩
    have hn0 : n = 0 := by omega
    rw [show digB n = ⟨#[48]⟩ by rw [hn0]; exact digB_zero]
    rfl
  · have hn : 0 < n := by omega
    go_loopw [0, 3] (fun kv ov wr => ∃ (m : Nat) (acc : List UInt8) (f : Nat), kv = .int .i64 m ∧ m ≤ n ∧ m ≤ f ∧ ov = .string ⟨acc.toArray⟩ ∧ digTo f m acc = digTo (n + 1) n [] ∧ acc.length + f ≤ n + 1 ∧ Below w.heap.size w wr) (fun i _ _ => (intOf i).toNat)
    case atStart => exact ⟨n, [], n + 1, rfl, Nat.le_refl _, by omega, rfl, rfl, by simp, Below.refl _ _⟩
    case round =>
      obtain ⟨m, acc, f, rfl, hm, hf, rfl, hd, hl, hbl⟩ := hrel
      have HD := hide hd
      clear hd
      by_cases hlt : m = 0
      · subst hlt
        go_wp2
        go_ret
        refine ⟨?_, hbl⟩
        have h := HD.out
        rw [digTo_zero, digTo_dec _ _ _ hn (by omega), List.append_nil] at h
        rw [h]
        rfl
      · go_wp2
        refine ⟨⟨m / 10, UInt8.ofNat (48 + m % 10) :: acc, f - 1, by go_num, by omega, by omega, ?_, ?_, by simp; omega, hbl.alloc hbl.size _⟩, by simp [intOf]; omega⟩
        · congr 1
          refine ByteArray.ext ?_
          simp [UInt8.ofNat_add]
        · obtain ⟨f', rfl⟩ : ∃ f', f = f' + 1 := ⟨f - 1, by omega⟩
          rw [← HD.out, digTo_step _ _ hlt]
          rfl

set_option maxHeartbeats 1000000 in
theorem l5Dash_any (s : ByteArray) (w : World) :
    Calls Tryd.prog 72 #[.string s] w fun e w' => e = .returned (.string (dashB s)) ∧ Below w.heap.size w w' := by
  have hq := isEmpty_eq s
  go_enter Tryd.func72, Tryd.ntmps72
  cases hd : decide (s = ByteArray.empty)
  · rw [hd] at hq
    have HN := hide (of_decide_eq_false hd)
    clear hd
    go_wp2
    go_ret
    exact ⟨by unfold dashB; rw [if_neg HN.out]; rfl, Below.refl _ _⟩
  · rw [hd] at hq
    have HN := hide (of_decide_eq_true hd)
    clear hd
    go_wp2
    go_ret
    exact ⟨by unfold dashB; rw [if_pos HN.out]; rfl, Below.refl _ _⟩

set_option maxHeartbeats 1000000 in
theorem implDash_any (s : ByteArray) (w : World) :
    Calls Tryd.prog 75 #[.string s] w fun e w' => e = .returned (.string (dashB s)) ∧ Below w.heap.size w w' := by
  have hq := isEmpty_eq s
  go_enter Tryd.func75, Tryd.ntmps75
  cases hd : decide (s = ByteArray.empty)
  · rw [hd] at hq
    have HN := hide (of_decide_eq_false hd)
    clear hd
    go_wp2
    go_ret
    exact ⟨by unfold dashB; rw [if_neg HN.out]; rfl, Below.refl _ _⟩
  · rw [hd] at hq
    have HN := hide (of_decide_eq_true hd)
    clear hd
    go_wp2
    go_ret
    exact ⟨by unfold dashB; rw [if_pos HN.out]; rfl, Below.refl _ _⟩
end Go.Proofs.YthopednilgncgaaDoor
