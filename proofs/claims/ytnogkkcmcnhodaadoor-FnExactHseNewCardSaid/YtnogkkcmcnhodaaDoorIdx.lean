/- Walks: slices.IndexFunc and slices.ContainsFunc, whatever the predicate. By program (wip/gen/gen_idx.py): FileS Int -/
import Derived.Test.YtnogkkcmcnhodaaDoorPl
namespace Go.Proofs.YtnogkkcmcnhodaaDoor
open Go.RowKit
attribute [local go_sem ↓] Go.wp_at_zero Go.wp_at_succ

set_option maxHeartbeats 1000000 in
theorem idxFileS_any {A : Option Addr} {n c : Nat} {l : List (List (File))} {fp : List Nat} (p : List (File) → Bool) (g : Nat) (lb : Array Value) (eg : ∀ args w, (callFunc g args).run Tryd.prog w = .ok (.enter g args) w) (w : World) (hx : SlR (Rp.slice Rp.file) w A n c l fp)
    (hp : ∀ (i : Nat) (hi : i < l.length) (v : Value) (fq : List Nat) (w1 : World), Below w.heap.size w w1 → (Rp.slice Rp.file).R w1 [v] l[i] fq → Calls Tryd.prog g (#[v] ++ lb) w1 fun e w2 => e = .returned (.bool (p l[i])) ∧ Below w1.heap.size w1 w2) :
    Calls Tryd.prog 63 #[.slice A n c, .func (.func g) #[] lb] w fun e w' => e = .returned (.int .i64 (idxP p l)) ∧ Below w.heap.size w w' := by
  obtain ⟨rfl, hcx, hmx, _⟩ := id hx
  unfold maxLen at hmx
  have HP := hide hp
  clear hp
  go_enter Tryd.func63, Tryd.ntmps63
  go_wp2
  go_loopw [8] (fun i wr => ∃ k : Nat, k ≤ l.length ∧ i = .int .i64 k ∧ noneTo p l k ∧ Below w.heap.size w wr) (fun i _ => l.length - (intOf i).toNat)
  case atStart => exact ⟨0, Nat.zero_le _, rfl, noneTo_zero, Below.refl _ _⟩
  case round =>
    obtain ⟨k, hk, rfl, hag, hbl⟩ := hrel
    have HA := hide hag
    clear hag
    by_cases hlt : k < l.length
    · obtain ⟨b, o, A0, n0, c0, f0, rfl, hb, hm, h0, hs0, hsub⟩ := slice_cells (hx.step hbl) hlt
      go_wp2_with fail
      refine (HP.out k hlt (.slice A0 n0 c0) _ wr hbl ⟨A0, n0, c0, rfl, hs0⟩).mono ?_
      rintro e w1 ⟨rfl, hb1⟩
      have HB := hide (Below.then_ hbl hb1)
      clear hb1
      cases hd : p l[k]
      · have HN := hide (HA.out.next hlt hd)
        clear hd
        go_wp2
        exact ⟨⟨k + 1, by omega, by go_num, HN.out, HB.out⟩, by simp [intOf]; omega⟩
      · have HN := hide (HA.out.hit hlt hd)
        clear hd
        go_wp2
        go_ret
        exact ⟨ret_int HN.out.symm, HB.out⟩
    · have hk' : k = l.length := by omega
      subst hk'
      go_wp2
      go_ret
      exact ⟨ret_int HA.out.all_.symm, hbl⟩

theorem hasFileS_any {A : Option Addr} {n c : Nat} {l : List (List (File))} {fp : List Nat} (p : List (File) → Bool) (g : Nat) (lb : Array Value) (eg : ∀ args w, (callFunc g args).run Tryd.prog w = .ok (.enter g args) w) (w : World) (hx : SlR (Rp.slice Rp.file) w A n c l fp)
    (hp : ∀ (i : Nat) (hi : i < l.length) (v : Value) (fq : List Nat) (w1 : World), Below w.heap.size w w1 → (Rp.slice Rp.file).R w1 [v] l[i] fq → Calls Tryd.prog g (#[v] ++ lb) w1 fun e w2 => e = .returned (.bool (p l[i])) ∧ Below w1.heap.size w1 w2) :
    Calls Tryd.prog 35 #[.slice A n c, .func (.func g) #[] lb] w fun e w' => e = .returned (.bool (l.any p)) ∧ Below w.heap.size w w' := by
  have HP := hide hp
  clear hp
  go_enter Tryd.func35, Tryd.ntmps35
  go_wp2_with fail
  refine (idxFileS_any p g lb eg _ hx HP.out).mono ?_
  rintro e w1 ⟨rfl, hb1⟩
  go_wp2
  go_ret
  exact ⟨ret_bool (idxP_any p l), hb1⟩

set_option maxHeartbeats 1000000 in
theorem idxInt_any {A : Option Addr} {n c : Nat} {l : List (Int)} {fp : List Nat} (p : Int → Bool) (g : Nat) (lb : Array Value) (eg : ∀ args w, (callFunc g args).run Tryd.prog w = .ok (.enter g args) w) (w : World) (hx : SlR Rp.int w A n c l fp)
    (hp : ∀ (i : Nat) (hi : i < l.length) (v : Value) (fq : List Nat) (w1 : World), Below w.heap.size w w1 → Rp.int.R w1 [v] l[i] fq → Calls Tryd.prog g (#[v] ++ lb) w1 fun e w2 => e = .returned (.bool (p l[i])) ∧ Below w1.heap.size w1 w2) :
    Calls Tryd.prog 91 #[.slice A n c, .func (.func g) #[] lb] w fun e w' => e = .returned (.int .i64 (idxP p l)) ∧ Below w.heap.size w w' := by
  obtain ⟨rfl, hcx, hmx, _⟩ := id hx
  unfold maxLen at hmx
  have HP := hide hp
  clear hp
  go_enter Tryd.func91, Tryd.ntmps91
  go_wp2
  go_loopw [8] (fun i wr => ∃ k : Nat, k ≤ l.length ∧ i = .int .i64 k ∧ noneTo p l k ∧ Below w.heap.size w wr) (fun i _ => l.length - (intOf i).toNat)
  case atStart => exact ⟨0, Nat.zero_le _, rfl, noneTo_zero, Below.refl _ _⟩
  case round =>
    obtain ⟨k, hk, rfl, hag, hbl⟩ := hrel
    have HA := hide hag
    clear hag
    by_cases hlt : k < l.length
    · obtain ⟨b, o, rfl, hb, hm, h0⟩ := int_cells (hx.step hbl) hlt
      go_wp2_with fail
      refine (HP.out k hlt (.int .i64 l[k]) _ wr hbl ⟨rfl, rfl⟩).mono ?_
      rintro e w1 ⟨rfl, hb1⟩
      have HB := hide (Below.then_ hbl hb1)
      clear hb1
      cases hd : p l[k]
      · have HN := hide (HA.out.next hlt hd)
        clear hd
        go_wp2
        exact ⟨⟨k + 1, by omega, by go_num, HN.out, HB.out⟩, by simp [intOf]; omega⟩
      · have HN := hide (HA.out.hit hlt hd)
        clear hd
        go_wp2
        go_ret
        exact ⟨ret_int HN.out.symm, HB.out⟩
    · have hk' : k = l.length := by omega
      subst hk'
      go_wp2
      go_ret
      exact ⟨ret_int HA.out.all_.symm, hbl⟩

theorem hasInt_any {A : Option Addr} {n c : Nat} {l : List (Int)} {fp : List Nat} (p : Int → Bool) (g : Nat) (lb : Array Value) (eg : ∀ args w, (callFunc g args).run Tryd.prog w = .ok (.enter g args) w) (w : World) (hx : SlR Rp.int w A n c l fp)
    (hp : ∀ (i : Nat) (hi : i < l.length) (v : Value) (fq : List Nat) (w1 : World), Below w.heap.size w w1 → Rp.int.R w1 [v] l[i] fq → Calls Tryd.prog g (#[v] ++ lb) w1 fun e w2 => e = .returned (.bool (p l[i])) ∧ Below w1.heap.size w1 w2) :
    Calls Tryd.prog 60 #[.slice A n c, .func (.func g) #[] lb] w fun e w' => e = .returned (.bool (l.any p)) ∧ Below w.heap.size w w' := by
  have HP := hide hp
  clear hp
  go_enter Tryd.func60, Tryd.ntmps60
  go_wp2_with fail
  refine (idxInt_any p g lb eg _ hx HP.out).mono ?_
  rintro e w1 ⟨rfl, hb1⟩
  go_wp2
  go_ret
  exact ⟨ret_bool (idxP_any p l), hb1⟩

end Go.Proofs.YtnogkkcmcnhodaaDoor
