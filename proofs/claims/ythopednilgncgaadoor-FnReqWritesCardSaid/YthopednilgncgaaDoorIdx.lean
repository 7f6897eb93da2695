/- Walks: slices.IndexFunc and slices.ContainsFunc, whatever the predicate. By program (wip/gen/gen_idx.py): Rule Edit -/
import Derived.Test.YthopednilgncgaaDoorPl
namespace Go.Proofs.YthopednilgncgaaDoor
open Go.RowKit
attribute [local go_sem ↓] Go.wp_at_zero Go.wp_at_succ

set_option maxHeartbeats 1000000 in
theorem idxRule_any {A : Option Addr} {n c : Nat} {l : List (Rule)} {fp : List Nat} (p : Rule → Bool) (g : Nat) (lb : Array Value) (eg : ∀ args w, (callFunc g args).run Tryd.prog w = .ok (.enter g args) w) (w : World) (hx : SlR Rp.rule w A n c l fp)
    (hp : ∀ (i : Nat) (hi : i < l.length) (cs : List Value) (fq : List Nat) (w1 : World), Below w.heap.size w w1 → Rp.rule.R w1 cs l[i] fq → Calls Tryd.prog g (#[.agg cs.toArray] ++ lb) w1 fun e w2 => e = .returned (.bool (p l[i])) ∧ Below w1.heap.size w1 w2) :
    Calls Tryd.prog 83 #[.slice A n c, .func (.func g) #[] lb] w fun e w' => e = .returned (.int .i64 (idxP p l)) ∧ Below w.heap.size w w' := by
  obtain ⟨rfl, hcx, hmx, _⟩ := id hx
  unfold maxLen at hmx
  have HP := hide hp
  clear hp
  go_enter Tryd.func83, Tryd.ntmps83
  go_wp2
  go_loopw [8] (fun i wr => ∃ k : Nat, k ≤ l.length ∧ i = .int .i64 k ∧ noneTo p l k ∧ Below w.heap.size w wr) (fun i _ => l.length - (intOf i).toNat)
  case atStart => exact ⟨0, Nat.zero_le _, rfl, noneTo_zero, Below.refl _ _⟩
  case round =>
    obtain ⟨k, hk, rfl, hag, hbl⟩ := hrel
    have HA := hide hag
    clear hag
    by_cases hlt : k < l.length
    · obtain ⟨b, o, rfl, hb, hm, h0, h1, h2, h3⟩ := rule_cells (hx.step hbl) hlt
      go_wp2_with fail
      refine (HP.out k hlt (encRule l[k]) _ wr hbl ⟨rfl, rfl⟩).mono ?_
      rintro e w1 ⟨rfl, hb1⟩
      have HB := hide (Below.then_ hbl hb1)
      clear hb1
      cases hd : p l[k]
      · have HN := hide (HA.out.next hlt hd)
        clear hd
        go_wp2
        exact ⟨⟨k + 1, by omega, by go_num, HN.out, HB.out⟩, by simp [intOf]; omega⟩
      · have HN := hide (HA.out.hit hlt hd)
        clear hd
        go_wp2
        go_ret
        exact ⟨ret_int HN.out.symm, HB.out⟩
    · have hk' : k = l.length := by omega
      subst hk'
      go_wp2
      go_ret
      exact ⟨ret_int HA.out.all_.symm, hbl⟩

theorem hasRule_any {A : Option Addr} {n c : Nat} {l : List (Rule)} {fp : List Nat} (p : Rule → Bool) (g : Nat) (lb : Array Value) (eg : ∀ args w, (callFunc g args).run Tryd.prog w = .ok (.enter g args) w) (w : World) (hx : SlR Rp.rule w A n c l fp)
    (hp : ∀ (i : Nat) (hi : i < l.length) (cs : List Value) (fq : List Nat) (w1 : World), Below w.heap.size w w1 → Rp.rule.R w1 cs l[i] fq → Calls Tryd.prog g (#[.agg cs.toArray] ++ lb) w1 fun e w2 => e = .returned (.bool (p l[i])) ∧ Below w1.heap.size w1 w2) :
    Calls Tryd.prog 52 #[.slice A n c, .func (.func g) #[] lb] w fun e w' => e = .returned (.bool (l.any p)) ∧ Below w.heap.size w w' := by
  have HP := hide hp
  clear hp
  go_enter Tryd.func52, Tryd.ntmps52
  go_wp2_with fail
  refine (idxRule_any p g lb eg _ hx HP.out).mono ?_
  rintro e w1 ⟨rfl, hb1⟩
  go_wp2
  go_ret
  exact ⟨ret_bool (idxP_any p l), hb1⟩

set_option maxHeartbeats 1000000 in
theorem idxEdit_any {A : Option Addr} {n c : Nat} {l : List (Edit)} {fp : List Nat} (p : Edit → Bool) (g : Nat) (lb : Array Value) (eg : ∀ args w, (callFunc g args).run Tryd.prog w = .ok (.enter g args) w) (w : World) (hx : SlR Rp.edit w A n c l fp)
    (hp : ∀ (i : Nat) (hi : i < l.length) (cs : List Value) (fq : List Nat) (w1 : World), Below w.heap.size w w1 → Rp.edit.R w1 cs l[i] fq → Calls Tryd.prog g (#[.agg cs.toArray] ++ lb) w1 fun e w2 => e = .returned (.bool (p l[i])) ∧ Below w1.heap.size w1 w2) :
    Calls Tryd.prog 90 #[.slice A n c, .func (.func g) #[] lb] w fun e w' => e = .returned (.int .i64 (idxP p l)) ∧ Below w.heap.size w w' := by
  obtain ⟨rfl, hcx, hmx, _⟩ := id hx
  unfold maxLen at hmx
  have HP := hide hp
  clear hp
  go_enter Tryd.func90, Tryd.ntmps90
  go_wp2
  go_loopw [8] (fun i wr => ∃ k : Nat, k ≤ l.length ∧ i = .int .i64 k ∧ noneTo p l k ∧ Below w.heap.size w wr) (fun i _ => l.length - (intOf i).toNat)
  case atStart => exact ⟨0, Nat.zero_le _, rfl, noneTo_zero, Below.refl _ _⟩
  case round =>
    obtain ⟨k, hk, rfl, hag, hbl⟩ := hrel
    have HA := hide hag
    clear hag
    by_cases hlt : k < l.length
    · obtain ⟨b, o, rfl, hb, hm, h0, h1, h2⟩ := edit_cells (hx.step hbl) hlt
      go_wp2_with fail
      refine (HP.out k hlt (encEdit l[k]) _ wr hbl ⟨rfl, rfl⟩).mono ?_
      rintro e w1 ⟨rfl, hb1⟩
      have HB := hide (Below.then_ hbl hb1)
      clear hb1
      cases hd : p l[k]
      · have HN := hide (HA.out.next hlt hd)
        clear hd
        go_wp2
        exact ⟨⟨k + 1, by omega, by go_num, HN.out, HB.out⟩, by simp [intOf]; omega⟩
      · have HN := hide (HA.out.hit hlt hd)
        clear hd
        go_wp2
        go_ret
        exact ⟨ret_int HN.out.symm, HB.out⟩
    · have hk' : k = l.length := by omega
      subst hk'
      go_wp2
      go_ret
      exact ⟨ret_int HA.out.all_.symm, hbl⟩

theorem hasEdit_any {A : Option Addr} {n c : Nat} {l : List (Edit)} {fp : List Nat} (p : Edit → Bool) (g : Nat) (lb : Array Value) (eg : ∀ args w, (callFunc g args).run Tryd.prog w = .ok (.enter g args) w) (w : World) (hx : SlR Rp.edit w A n c l fp)
    (hp : ∀ (i : Nat) (hi : i < l.length) (cs : List Value) (fq : List Nat) (w1 : World), Below w.heap.size w w1 → Rp.edit.R w1 cs l[i] fq → Calls Tryd.prog g (#[.agg cs.toArray] ++ lb) w1 fun e w2 => e = .returned (.bool (p l[i])) ∧ Below w1.heap.size w1 w2) :
    Calls Tryd.prog 61 #[.slice A n c, .func (.func g) #[] lb] w fun e w' => e = .returned (.bool (l.any p)) ∧ Below w.heap.size w w' := by
  have HP := hide hp
  clear hp
  go_enter Tryd.func61, Tryd.ntmps61
  go_wp2_with fail
  refine (idxEdit_any p g lb eg _ hx HP.out).mono ?_
  rintro e w1 ⟨rfl, hb1⟩
  go_wp2
  go_ret
  exact ⟨ret_bool (idxP_any p l), hb1⟩

end Go.Proofs.YthopednilgncgaaDoor
