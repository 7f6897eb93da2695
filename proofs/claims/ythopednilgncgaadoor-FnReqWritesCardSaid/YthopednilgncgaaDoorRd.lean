/- Walks: a rule among others; lists of rules; of the reference and of the program. -/
import Derived.Test.YthopednilgncgaaDoorRa
import Derived.Test.YthopednilgncgaaDoorCl
import Derived.Shelf.RegionOpenPlain
namespace Go.Proofs.YthopednilgncgaaDoor
open Go.RowKit
attribute [local go_sem ↓] Go.wp_at_zero Go.wp_at_succ

theorem toList_iff {a b : ByteArray} : a.toList = b.toList ↔ a = b := ⟨toList_inj, fun h => by rw [h]⟩
theorem equalInRule (x y : Rule) (w : World) : (Op.equalIn 10000 25 (.agg (encRule x).toArray) (.agg (encRule y).toArray)).run Tryd.prog w = .ok (decide (x = y)) w := by
  obtain ⟨a, b, c, d⟩ := x
  obtain ⟨a', b', c', d'⟩ := y
  have u3 := Tryd.underlying3
  have u9 := Tryd.underlying9
  have u4 := Tryd.underlying4
  have a3 := Tryd.isAgg3
  have a9 := Tryd.isAgg9
  have a4 := Tryd.isAgg4
  have z3 := Tryd.sizeOf3
  have z9 := Tryd.sizeOf9
  have z4 := Tryd.sizeOf4
  have hS : Tryd.prog.underlying 25 = some (.struct (Tryd.prog.fieldsOf 25)) := by kernel_rfl
  have hp : Tryd.prog.stoodInHeld 25 = false := by kernel_rfl
  simp only [encRule]
  rw [show (10000 : Nat) = 9999 + 1 from rfl, run_equalIn_agg w 9999 25 _ _ hS hp]
  simp only [Program.fieldsOf, Tryd.underlying25]
  go_simp
  by_cases h1 : a = a' <;> by_cases h2 : b = b' <;> by_cases h3 : c = c' <;> by_cases h4 : d = d' <;> simp [h1, h2, h3, h4, toList_iff]
theorem eqlRule (x y : Rule) (w : World) : (binOp .eql 25 (.agg (encRule x).toArray) (.agg (encRule y).toArray)).run Tryd.prog w = .ok (.bool (decide (x = y))) w := by
  rw [run_eql_struct, equalInRule]; rfl
theorem neqRule (x y : Rule) (w : World) : (binOp .neq 25 (.agg (encRule x).toArray) (.agg (encRule y).toArray)).run Tryd.prog w = .ok (.bool (!decide (x = y))) w := by
  rw [run_neq_struct, equalInRule]; rfl
theorem gdRule (op : BinOp) (a b : Operand) (xs ys : Array Value) (w : World) : (eqGuard op 25 a b (.agg xs) (.agg ys)).run Tryd.prog w = .ok () w := run_eqGuard_agg w op _ a b xs ys (by kernel_rfl)

set_option maxHeartbeats 1000000 in
set_option maxRecDepth 20000 in
theorem l5Same_any {A : Option Addr} {n c : Nat} {l : List Rule} {fp : List Nat} (r : Rule) (w : World) (hx : SlR Rp.rule w A n c l fp) :
    Calls Tryd.prog 48 #[.slice A n c, .agg (encRule r).toArray] w fun e w' => e = .returned (.bool (l.any fun x => decide (x = r))) ∧ Below w.heap.size w w' := by
  obtain ⟨rfl, hcx, hmx, _⟩ := id hx
  unfold maxLen at hmx
  unfold encRule
  go_enter Tryd.func48, Tryd.ntmps48
  go_wp2
  go_loopw [5] (fun i wr => ∃ k : Nat, k ≤ l.length ∧ i = .int .i64 k ∧ noneTo (fun x => decide (x = r)) l k ∧ Below (w.alloc (.cells #[.int .i64 r.user, .string r.ref, .string r.path, .bool r.write] 25)).heap.size (w.alloc (.cells #[.int .i64 r.user, .string r.ref, .string r.path, .bool r.write] 25)) wr) (fun i _ => l.length - (intOf i).toNat)
  case atStart => exact ⟨0, Nat.zero_le _, rfl, noneTo_zero, Below.refl _ _⟩
  case round =>
    obtain ⟨k, hk, rfl, hag, hbl⟩ := hrel
    have HA := hide hag
    clear hag
    have kb := (Blk.new w _ _).step hbl
    by_cases hlt : k < l.length
    · obtain ⟨b, o, rfl, hb, hm, h0, h1, h2, h3⟩ := rule_cells ((hx.allocN _).step hbl) hlt
      have c0 : wr.cell? ⟨w.heap.size, 0, none⟩ = some (.int .i64 r.user) := kb.cell 0
      have c1 : wr.cell? ⟨w.heap.size, 1, none⟩ = some (.string r.ref) := kb.cell 1
      have c2 : wr.cell? ⟨w.heap.size, 2, none⟩ = some (.string r.path) := kb.cell 2
      have c3 : wr.cell? ⟨w.heap.size, 3, none⟩ = some (.bool r.write) := kb.cell 3
      have i0 : (0 : Int) ≤ (k : Int) := by omega
      have i1 : (k : Int) < (l.length : Int) := by omega
      have heq := eqlRule l[k] r
      have hgd := gdRule
      unfold encRule at heq
      go_wp2_with fail
      go_quiet (fail)
      clear heq hgd c0 c1 c2 c3 h0 h1 h2 h3 i0 i1 kb
      cases hd : decide (l[k] = r)
      · have HN := hide (HA.out.next hlt hd)
        clear hd
        go_wp2
        exact ⟨⟨k + 1, by omega, by go_num, HN.out, Below.drewN' hbl _⟩, by simp [intOf]; omega⟩
      · have HN := hide (any_hit (p := fun x => decide (x = r)) hlt hd)
        clear hd
        go_wp2
        go_ret
        exact ⟨ret_bool HN.out.symm, Below.box1 (Below.drewN' hbl _)⟩
    · have hk' : k = l.length := by omega
      subst hk'
      go_wp2
      go_ret
      exact ⟨ret_bool HA.out.any_.symm, Below.box1 hbl⟩

set_option maxHeartbeats 1000000 in
set_option maxRecDepth 20000 in
theorem idxEqRule_any {A : Option Addr} {n c : Nat} {l : List Rule} {fp : List Nat} (r : Rule) (w : World) (hx : SlR Rp.rule w A n c l fp) :
    Calls Tryd.prog 84 #[.slice A n c, .agg (encRule r).toArray] w fun e w' => e = .returned (.int .i64 (idxP (fun x => decide (x = r)) l)) ∧ Below w.heap.size w w' := by
  obtain ⟨rfl, hcx, hmx, _⟩ := id hx
  unfold maxLen at hmx
  unfold encRule
  go_enter Tryd.func84, Tryd.ntmps84
  go_wp2
  go_loopw [8] (fun i wr => ∃ k : Nat, k ≤ l.length ∧ i = .int .i64 k ∧ noneTo (fun x => decide (x = r)) l k ∧ Below (w.alloc (.cells #[.int .i64 r.user, .string r.ref, .string r.path, .bool r.write] 25)).heap.size (w.alloc (.cells #[.int .i64 r.user, .string r.ref, .string r.path, .bool r.write] 25)) wr) (fun i _ => l.length - (intOf i).toNat)
  case atStart => exact ⟨0, Nat.zero_le _, rfl, noneTo_zero, Below.refl _ _⟩
  case round =>
    obtain ⟨k, hk, rfl, hag, hbl⟩ := hrel
    have HA := hide hag
    clear hag
    have kb := (Blk.new w _ _).step hbl
    by_cases hlt : k < l.length
    · obtain ⟨b, o, rfl, hb, hm, h0, h1, h2, h3⟩ := rule_cells ((hx.allocN _).step hbl) hlt
      have c0 : wr.cell? ⟨w.heap.size, 0, none⟩ = some (.int .i64 r.user) := kb.cell 0
      have c1 : wr.cell? ⟨w.heap.size, 1, none⟩ = some (.string r.ref) := kb.cell 1
      have c2 : wr.cell? ⟨w.heap.size, 2, none⟩ = some (.string r.path) := kb.cell 2
      have c3 : wr.cell? ⟨w.heap.size, 3, none⟩ = some (.bool r.write) := kb.cell 3
      have i0 : (0 : Int) ≤ (k : Int) := by omega
      have i1 : (k : Int) < (l.length : Int) := by omega
      have heq := eqlRule r l[k]
      have hgd := gdRule
      unfold encRule at heq
      go_wp2_with fail
      go_quiet (fail)
      clear heq hgd c0 c1 c2 c3 h0 h1 h2 h3 i0 i1 kb
      have hcm : decide (r = l[k]) = decide (l[k] = r) := decide_eq_decide.2 eq_comm
      rw [hcm]
      clear hcm
      cases hd : decide (l[k] = r)
      · have HN := hide (HA.out.next hlt hd)
        clear hd
        go_wp2
        exact ⟨⟨k + 1, by omega, by go_num, HN.out, Below.drewN' hbl _⟩, by simp [intOf]; omega⟩
      · have HN := hide (HA.out.hit hlt hd)
        clear hd
        go_wp2
        go_ret
        exact ⟨ret_int HN.out.symm, Below.box1 (Below.drewN' hbl _)⟩
    · have hk' : k = l.length := by omega
      subst hk'
      go_wp2
      go_ret
      exact ⟨ret_int HA.out.all_.symm, Below.box1 hbl⟩

set_option maxHeartbeats 1000000 in
theorem hasEqRule_any {A : Option Addr} {n c : Nat} {l : List Rule} {fp : List Nat} (r : Rule) (w : World) (hx : SlR Rp.rule w A n c l fp) :
    Calls Tryd.prog 49 #[.slice A n c, .agg (encRule r).toArray] w fun e w' => e = .returned (.bool (l.any fun x => decide (x = r))) ∧ Below w.heap.size w w' := by
  unfold encRule
  go_enter Tryd.func49, Tryd.ntmps49
  go_wp2_with fail
  refine (idxEqRule_any r _ (hx.allocN _)).mono ?_
  rintro e w1 ⟨rfl, hb1⟩
  go_wp2
  go_ret
  exact ⟨ret_bool (idxP_any _ l), Below.box1 hb1⟩
end Go.Proofs.YthopednilgncgaaDoor
