/- The law FnExactRulText, walked. -/
import Derived.Test.YthopednilgncgaaDoorTz
import Derived.Test.YthopednilgncgaaDoorWZ
import Derived.Test.YthopednilgncgaaDoorWT
namespace Go.Proofs.YthopednilgncgaaDoor
open Go.RowKit
attribute [local go_sem ↓] Go.wp_at_zero Go.wp_at_succ

theorem fitRule_of_size {r : Rule} (h : szRule r ≤ 1048576) : fitRule r := by
  unfold szRule at h
  exact ⟨by omega, by omega⟩

set_option maxHeartbeats 2000000 in
theorem lawExactRulText {cs : List Value} {x : Rule} {fx : List Nat} (w : World) (hx : Rp.rule.R w cs x fx) (hw : wideRule x) :
    Calls Tryd.prog 7 #[.agg cs.toArray] w fun e w' => e = .returned (.bool true) ∧ Below w.heap.size w w' := by
  obtain ⟨rfl, rfl⟩ := hx
  have D1 := hide (fun (left : Int) h2 h3 W => szRule_any x left hw h2 h3 W)
  have D2 := hide (fun W (h : szRule x ≤ 1048576) => toRule_any x W)
  have D3 := hide (fun (h : fitRule x) W => specRulText_any x h W)
  have D4 := hide (fun (h : fitRule x) W => implRulText_any x h W)
  rw [show (encRule x).toArray = #[.int .i64 x.user, .string x.ref, .string x.path, .bool x.write] from rfl] at *
  have k1 := Blk.new w 44 #[.int .i64 x.user, .string x.ref, .string x.path, .bool x.write]
  have HB := (Below.refl w.heap.size w).alloc (Nat.le_refl _) (.cells #[.int .i64 x.user, .string x.ref, .string x.path, .bool x.write] 44)
  go_enter Tryd.func7, Tryd.ntmps7
  go_wp2_with fail
  refine (D1.out _ (by omega) (by omega) _).mono ?_
  rintro e w1 ⟨rfl, hb⟩
  replace k1 := k1.step hb
  replace HB := Below.then_ HB hb
  clear hb
  by_cases hq : (1048576 : Int) - ((szRule x : Nat) : Int) < 0
  · rw [lessLen_no hq]
    go_wp2
    go_ret
    exact ⟨rfl, HB⟩
  · rw [lessLen_yes hq]
    have hs : szRule x ≤ 1048576 := by omega
    have HFit := hide (fitRule_of_size hs)
    have HS := hide hs
    have hq2 : (0 : Int) ≤ 1048576 - ((szRule x : Nat) : Int) := by omega
    clear hq hs
    have u0 : w1.cell? ⟨w.heap.size, 0, none⟩ = some (.int .i64 x.user) := k1.cell 0
    have u1 : w1.cell? ⟨w.heap.size, 1, none⟩ = some (.string x.ref) := k1.cell 1
    have u2 : w1.cell? ⟨w.heap.size, 2, none⟩ = some (.string x.path) := k1.cell 2
    have u3 : w1.cell? ⟨w.heap.size, 3, none⟩ = some (.bool x.write) := k1.cell 3
    go_wp2_with fail
    refine (D2.out _ HS.out).mono ?_
    rintro e w2 ⟨rfl, hb⟩
    replace k1 := k1.step hb
    replace HB := Below.then_ HB hb
    clear hb u0 u1 u2 u3
    go_wp2_with fail
    refine (D3.out HFit.out _).mono ?_
    rintro e w3 ⟨rfl, hb⟩
    replace k1 := k1.step hb
    replace HB := Below.then_ HB hb
    clear hb
    have u0 : w3.cell? ⟨w.heap.size, 0, none⟩ = some (.int .i64 x.user) := k1.cell 0
    have u1 : w3.cell? ⟨w.heap.size, 1, none⟩ = some (.string x.ref) := k1.cell 1
    have u2 : w3.cell? ⟨w.heap.size, 2, none⟩ = some (.string x.path) := k1.cell 2
    have u3 : w3.cell? ⟨w.heap.size, 3, none⟩ = some (.bool x.write) := k1.cell 3
    go_wp2_with fail
    refine (D2.out _ HS.out).mono ?_
    rintro e w4 ⟨rfl, hb⟩
    replace HB := Below.then_ HB hb
    clear hb u0 u1 u2 u3
    go_wp2_with fail
    refine (D4.out HFit.out _).mono ?_
    rintro e w5 ⟨rfl, hb⟩
    replace HB := Below.then_ HB hb
    clear hb
    have hne : ((rulText x).toList == (rulText x).toList) = true := by simp
    generalize rulText x = t at hne ⊢
    go_wp2
    go_ret
    exact ⟨rfl, HB⟩
end Go.Proofs.YthopednilgncgaaDoor
