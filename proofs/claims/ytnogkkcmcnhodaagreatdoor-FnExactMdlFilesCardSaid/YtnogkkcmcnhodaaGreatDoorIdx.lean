/- Walks: slices.IndexFunc and slices.ContainsFunc, whatever the predicate. By program (wip/gen/gen_idx.py): Rule Edit File Ref FileS Int -/
import Derived.Test.YtnogkkcmcnhodaaGreatDoorPl
namespace Go.Proofs.YtnogkkcmcnhodaaGreatDoor
open Go.RowKit
attribute [local go_sem ↓] Go.wp_at_zero Go.wp_at_succ

set_option maxHeartbeats 1000000 in
theorem idxRule_any {A : Option Addr} {n c : Nat} {l : List (Rule)} {fp : List Nat} (p : Rule → Bool) (g : Nat) (lb : Array Value) (eg : ∀ args w, (callFunc g args).run Tryz.prog w = .ok (.enter g args) w) (w : World) (hx : SlR Rp.rule w A n c l fp)
    (hp : ∀ (i : Nat) (hi : i < l.length) (cs : List Value) (fq : List Nat) (w1 : World), Below w.heap.size w w1 → Rp.rule.R w1 cs l[i] fq → Calls Tryz.prog g (#[.agg cs.toArray] ++ lb) w1 fun e w2 => e = .returned (.bool (p l[i])) ∧ Below w1.heap.size w1 w2) :
    Calls Tryz.prog 171 #[.slice A n c, .func (.func g) #[] lb] w fun e w' => e = .returned (.int .i64 (idxP p l)) ∧ Below w.heap.size w w' := by
  obtain ⟨rfl, hcx, hmx, _⟩ := id hx
  unfold maxLen at hmx
  have HP := hide hp
  clear hp
  go_enter Tryz.func171, Tryz.ntmps171
  go_wp2
  go_loopw [8] (fun i wr => ∃ k : Nat, k ≤ l.length ∧ i = .int .i64 k ∧ noneTo p l k ∧ Below w.heap.size w wr) (fun i _ => l.length - (intOf i).toNat)
  case atStart => exact ⟨0, Nat.zero_le _, rfl, noneTo_zero, Below.refl _ _⟩
  case round =>
    obtain ⟨k, hk, rfl, hag, hbl⟩ := hrel
    have HA := hide hag
    clear hag
    by_cases hlt : k < l.length
    · obtain ⟨b, o, rfl, hb, hm, h0, h1, h2, h3⟩ := rule_cells (hx.step hbl) hlt
      go_wp2_with fail
      refine (HP.out k hlt (encRule l[k]) _ wr hbl ⟨rfl, rfl⟩).mono ?_
      rintro e w1 ⟨rfl, hb1⟩
      have HB := hide (Below.then_ hbl hb1)
      clear hb1
      cases hd : p l[k]
      · have HN := hide (HA.out.next hlt hd)
        clear hd
        go_wp2
        exact ⟨⟨k + 1, by omega, by go_num, HN.out, HB.out⟩, by simp [intOf]; omega⟩
      · have HN := hide (HA.out.hit hlt hd)
        clear hd
        go_wp2
        go_ret
        exact ⟨ret_int HN.out.symm, HB.out⟩
    · have hk' : k = l.length := by omega
      subst hk'
      go_wp2
      go_ret
      exact ⟨ret_int HA.out.all_.symm, hbl⟩

theorem hasRule_any {A : Option Addr} {n c : Nat} {l : List (Rule)} {fp : List Nat} (p : Rule → Bool) (g : Nat) (lb : Array Value) (eg : ∀ args w, (callFunc g args).run Tryz.prog w = .ok (.enter g args) w) (w : World) (hx : SlR Rp.rule w A n c l fp)
    (hp : ∀ (i : Nat) (hi : i < l.length) (cs : List Value) (fq : List Nat) (w1 : World), Below w.heap.size w w1 → Rp.rule.R w1 cs l[i] fq → Calls Tryz.prog g (#[.agg cs.toArray] ++ lb) w1 fun e w2 => e = .returned (.bool (p l[i])) ∧ Below w1.heap.size w1 w2) :
    Calls Tryz.prog 145 #[.slice A n c, .func (.func g) #[] lb] w fun e w' => e = .returned (.bool (l.any p)) ∧ Below w.heap.size w w' := by
  have HP := hide hp
  clear hp
  go_enter Tryz.func145, Tryz.ntmps145
  go_wp2_with fail
  refine (idxRule_any p g lb eg _ hx HP.out).mono ?_
  rintro e w1 ⟨rfl, hb1⟩
  go_wp2
  go_ret
  exact ⟨ret_bool (idxP_any p l), hb1⟩

set_option maxHeartbeats 1000000 in
theorem idxEdit_any {A : Option Addr} {n c : Nat} {l : List (Edit)} {fp : List Nat} (p : Edit → Bool) (g : Nat) (lb : Array Value) (eg : ∀ args w, (callFunc g args).run Tryz.prog w = .ok (.enter g args) w) (w : World) (hx : SlR Rp.edit w A n c l fp)
    (hp : ∀ (i : Nat) (hi : i < l.length) (cs : List Value) (fq : List Nat) (w1 : World), Below w.heap.size w w1 → Rp.edit.R w1 cs l[i] fq → Calls Tryz.prog g (#[.agg cs.toArray] ++ lb) w1 fun e w2 => e = .returned (.bool (p l[i])) ∧ Below w1.heap.size w1 w2) :
    Calls Tryz.prog 143 #[.slice A n c, .func (.func g) #[] lb] w fun e w' => e = .returned (.int .i64 (idxP p l)) ∧ Below w.heap.size w w' := by
  obtain ⟨rfl, hcx, hmx, _⟩ := id hx
  unfold maxLen at hmx
  have HP := hide hp
  clear hp
  go_enter Tryz.func143, Tryz.ntmps143
  go_wp2
  go_loopw [8] (fun i wr => ∃ k : Nat, k ≤ l.length ∧ i = .int .i64 k ∧ noneTo p l k ∧ Below w.heap.size w wr) (fun i _ => l.length - (intOf i).toNat)
  case atStart => exact ⟨0, Nat.zero_le _, rfl, noneTo_zero, Below.refl _ _⟩
  case round =>
    obtain ⟨k, hk, rfl, hag, hbl⟩ := hrel
    have HA := hide hag
    clear hag
    by_cases hlt : k < l.length
    · obtain ⟨b, o, rfl, hb, hm, h0, h1, h2⟩ := edit_cells (hx.step hbl) hlt
      go_wp2_with fail
      refine (HP.out k hlt (encEdit l[k]) _ wr hbl ⟨rfl, rfl⟩).mono ?_
      rintro e w1 ⟨rfl, hb1⟩
      have HB := hide (Below.then_ hbl hb1)
      clear hb1
      cases hd : p l[k]
      · have HN := hide (HA.out.next hlt hd)
        clear hd
        go_wp2
        exact ⟨⟨k + 1, by omega, by go_num, HN.out, HB.out⟩, by simp [intOf]; omega⟩
      · have HN := hide (HA.out.hit hlt hd)
        clear hd
        go_wp2
        go_ret
        exact ⟨ret_int HN.out.symm, HB.out⟩
    · have hk' : k = l.length := by omega
      subst hk'
      go_wp2
      go_ret
      exact ⟨ret_int HA.out.all_.symm, hbl⟩

theorem hasEdit_any {A : Option Addr} {n c : Nat} {l : List (Edit)} {fp : List Nat} (p : Edit → Bool) (g : Nat) (lb : Array Value) (eg : ∀ args w, (callFunc g args).run Tryz.prog w = .ok (.enter g args) w) (w : World) (hx : SlR Rp.edit w A n c l fp)
    (hp : ∀ (i : Nat) (hi : i < l.length) (cs : List Value) (fq : List Nat) (w1 : World), Below w.heap.size w w1 → Rp.edit.R w1 cs l[i] fq → Calls Tryz.prog g (#[.agg cs.toArray] ++ lb) w1 fun e w2 => e = .returned (.bool (p l[i])) ∧ Below w1.heap.size w1 w2) :
    Calls Tryz.prog 98 #[.slice A n c, .func (.func g) #[] lb] w fun e w' => e = .returned (.bool (l.any p)) ∧ Below w.heap.size w w' := by
  have HP := hide hp
  clear hp
  go_enter Tryz.func98, Tryz.ntmps98
  go_wp2_with fail
  refine (idxEdit_any p g lb eg _ hx HP.out).mono ?_
  rintro e w1 ⟨rfl, hb1⟩
  go_wp2
  go_ret
  exact ⟨ret_bool (idxP_any p l), hb1⟩

set_option maxHeartbeats 1000000 in
theorem idxFile_any {A : Option Addr} {n c : Nat} {l : List (File)} {fp : List Nat} (p : File → Bool) (g : Nat) (lb : Array Value) (eg : ∀ args w, (callFunc g args).run Tryz.prog w = .ok (.enter g args) w) (w : World) (hx : SlR Rp.file w A n c l fp)
    (hp : ∀ (i : Nat) (hi : i < l.length) (cs : List Value) (fq : List Nat) (w1 : World), Below w.heap.size w w1 → Rp.file.R w1 cs l[i] fq → Calls Tryz.prog g (#[.agg cs.toArray] ++ lb) w1 fun e w2 => e = .returned (.bool (p l[i])) ∧ Below w1.heap.size w1 w2) :
    Calls Tryz.prog 196 #[.slice A n c, .func (.func g) #[] lb] w fun e w' => e = .returned (.int .i64 (idxP p l)) ∧ Below w.heap.size w w' := by
  obtain ⟨rfl, hcx, hmx, _⟩ := id hx
  unfold maxLen at hmx
  have HP := hide hp
  clear hp
  go_enter Tryz.func196, Tryz.ntmps196
  go_wp2
  go_loopw [8] (fun i wr => ∃ k : Nat, k ≤ l.length ∧ i = .int .i64 k ∧ noneTo p l k ∧ Below w.heap.size w wr) (fun i _ => l.length - (intOf i).toNat)
  case atStart => exact ⟨0, Nat.zero_le _, rfl, noneTo_zero, Below.refl _ _⟩
  case round =>
    obtain ⟨k, hk, rfl, hag, hbl⟩ := hrel
    have HA := hide hag
    clear hag
    by_cases hlt : k < l.length
    · obtain ⟨b, o, rfl, hb, hm, h0, h1⟩ := file_cells (hx.step hbl) hlt
      go_wp2_with fail
      refine (HP.out k hlt (encFile l[k]) _ wr hbl ⟨rfl, rfl⟩).mono ?_
      rintro e w1 ⟨rfl, hb1⟩
      have HB := hide (Below.then_ hbl hb1)
      clear hb1
      cases hd : p l[k]
      · have HN := hide (HA.out.next hlt hd)
        clear hd
        go_wp2
        exact ⟨⟨k + 1, by omega, by go_num, HN.out, HB.out⟩, by simp [intOf]; omega⟩
      · have HN := hide (HA.out.hit hlt hd)
        clear hd
        go_wp2
        go_ret
        exact ⟨ret_int HN.out.symm, HB.out⟩
    · have hk' : k = l.length := by omega
      subst hk'
      go_wp2
      go_ret
      exact ⟨ret_int HA.out.all_.symm, hbl⟩

set_option maxHeartbeats 1000000 in
theorem idxRef_any {A : Option Addr} {n c : Nat} {l : List (Ref)} {fp : List Nat} (p : Ref → Bool) (g : Nat) (lb : Array Value) (eg : ∀ args w, (callFunc g args).run Tryz.prog w = .ok (.enter g args) w) (w : World) (hx : SlR Rp.ref w A n c l fp)
    (hp : ∀ (i : Nat) (hi : i < l.length) (cs : List Value) (fq : List Nat) (w1 : World), Below w.heap.size w w1 → Rp.ref.R w1 cs l[i] fq → Calls Tryz.prog g (#[.agg cs.toArray] ++ lb) w1 fun e w2 => e = .returned (.bool (p l[i])) ∧ Below w1.heap.size w1 w2) :
    Calls Tryz.prog 159 #[.slice A n c, .func (.func g) #[] lb] w fun e w' => e = .returned (.int .i64 (idxP p l)) ∧ Below w.heap.size w w' := by
  obtain ⟨rfl, hcx, hmx, _⟩ := id hx
  unfold maxLen at hmx
  have HP := hide hp
  clear hp
  go_enter Tryz.func159, Tryz.ntmps159
  go_wp2
  go_loopw [8] (fun i wr => ∃ k : Nat, k ≤ l.length ∧ i = .int .i64 k ∧ noneTo p l k ∧ Below w.heap.size w wr) (fun i _ => l.length - (intOf i).toNat)
  case atStart => exact ⟨0, Nat.zero_le _, rfl, noneTo_zero, Below.refl _ _⟩
  case round =>
    obtain ⟨k, hk, rfl, hag, hbl⟩ := hrel
    have HA := hide hag
    clear hag
    by_cases hlt : k < l.length
    · obtain ⟨b, o, A0, n0, c0, f0, rfl, hb, hm, h0, h1, h2, h3, hs0, hsub⟩ := ref_cells (hx.step hbl) hlt
      go_wp2_with fail
      refine (HP.out k hlt ([.string l[k].name, .bool l[k].guard, .int .i64 l[k].count, .slice A0 n0 c0]) _ wr hbl ⟨A0, n0, c0, f0, rfl, rfl, hs0⟩).mono ?_
      rintro e w1 ⟨rfl, hb1⟩
      have HB := hide (Below.then_ hbl hb1)
      clear hb1
      cases hd : p l[k]
      · have HN := hide (HA.out.next hlt hd)
        clear hd
        go_wp2
        exact ⟨⟨k + 1, by omega, by go_num, HN.out, HB.out⟩, by simp [intOf]; omega⟩
      · have HN := hide (HA.out.hit hlt hd)
        clear hd
        go_wp2
        go_ret
        exact ⟨ret_int HN.out.symm, HB.out⟩
    · have hk' : k = l.length := by omega
      subst hk'
      go_wp2
      go_ret
      exact ⟨ret_int HA.out.all_.symm, hbl⟩

set_option maxHeartbeats 1000000 in
theorem idxFileS_any {A : Option Addr} {n c : Nat} {l : List (List (File))} {fp : List Nat} (p : List (File) → Bool) (g : Nat) (lb : Array Value) (eg : ∀ args w, (callFunc g args).run Tryz.prog w = .ok (.enter g args) w) (w : World) (hx : SlR (Rp.slice Rp.file) w A n c l fp)
    (hp : ∀ (i : Nat) (hi : i < l.length) (v : Value) (fq : List Nat) (w1 : World), Below w.heap.size w w1 → (Rp.slice Rp.file).R w1 [v] l[i] fq → Calls Tryz.prog g (#[v] ++ lb) w1 fun e w2 => e = .returned (.bool (p l[i])) ∧ Below w1.heap.size w1 w2) :
    Calls Tryz.prog 138 #[.slice A n c, .func (.func g) #[] lb] w fun e w' => e = .returned (.int .i64 (idxP p l)) ∧ Below w.heap.size w w' := by
  obtain ⟨rfl, hcx, hmx, _⟩ := id hx
  unfold maxLen at hmx
  have HP := hide hp
  clear hp
  go_enter Tryz.func138, Tryz.ntmps138
  go_wp2
  go_loopw [8] (fun i wr => ∃ k : Nat, k ≤ l.length ∧ i = .int .i64 k ∧ noneTo p l k ∧ Below w.heap.size w wr) (fun i _ => l.length - (intOf i).toNat)
  case atStart => exact ⟨0, Nat.zero_le _, rfl, noneTo_zero, Below.refl _ _⟩
  case round =>
    obtain ⟨k, hk, rfl, hag, hbl⟩ := hrel
    have HA := hide hag
    clear hag
    by_cases hlt : k < l.length
    · obtain ⟨b, o, A0, n0, c0, f0, rfl, hb, hm, h0, hs0, hsub⟩ := slice_cells (hx.step hbl) hlt
      go_wp2_with fail
      refine (HP.out k hlt (.slice A0 n0 c0) _ wr hbl ⟨A0, n0, c0, rfl, hs0⟩).mono ?_
      rintro e w1 ⟨rfl, hb1⟩
      have HB := hide (Below.then_ hbl hb1)
      clear hb1
      cases hd : p l[k]
      · have HN := hide (HA.out.next hlt hd)
        clear hd
        go_wp2
        exact ⟨⟨k + 1, by omega, by go_num, HN.out, HB.out⟩, by simp [intOf]; omega⟩
      · have HN := hide (HA.out.hit hlt hd)
        clear hd
        go_wp2
        go_ret
        exact ⟨ret_int HN.out.symm, HB.out⟩
    · have hk' : k = l.length := by omega
      subst hk'
      go_wp2
      go_ret
      exact ⟨ret_int HA.out.all_.symm, hbl⟩

theorem hasFileS_any {A : Option Addr} {n c : Nat} {l : List (List (File))} {fp : List Nat} (p : List (File) → Bool) (g : Nat) (lb : Array Value) (eg : ∀ args w, (callFunc g args).run Tryz.prog w = .ok (.enter g args) w) (w : World) (hx : SlR (Rp.slice Rp.file) w A n c l fp)
    (hp : ∀ (i : Nat) (hi : i < l.length) (v : Value) (fq : List Nat) (w1 : World), Below w.heap.size w w1 → (Rp.slice Rp.file).R w1 [v] l[i] fq → Calls Tryz.prog g (#[v] ++ lb) w1 fun e w2 => e = .returned (.bool (p l[i])) ∧ Below w1.heap.size w1 w2) :
    Calls Tryz.prog 90 #[.slice A n c, .func (.func g) #[] lb] w fun e w' => e = .returned (.bool (l.any p)) ∧ Below w.heap.size w w' := by
  have HP := hide hp
  clear hp
  go_enter Tryz.func90, Tryz.ntmps90
  go_wp2_with fail
  refine (idxFileS_any p g lb eg _ hx HP.out).mono ?_
  rintro e w1 ⟨rfl, hb1⟩
  go_wp2
  go_ret
  exact ⟨ret_bool (idxP_any p l), hb1⟩

set_option maxHeartbeats 1000000 in
theorem idxInt_any {A : Option Addr} {n c : Nat} {l : List (Int)} {fp : List Nat} (p : Int → Bool) (g : Nat) (lb : Array Value) (eg : ∀ args w, (callFunc g args).run Tryz.prog w = .ok (.enter g args) w) (w : World) (hx : SlR Rp.int w A n c l fp)
    (hp : ∀ (i : Nat) (hi : i < l.length) (v : Value) (fq : List Nat) (w1 : World), Below w.heap.size w w1 → Rp.int.R w1 [v] l[i] fq → Calls Tryz.prog g (#[v] ++ lb) w1 fun e w2 => e = .returned (.bool (p l[i])) ∧ Below w1.heap.size w1 w2) :
    Calls Tryz.prog 167 #[.slice A n c, .func (.func g) #[] lb] w fun e w' => e = .returned (.int .i64 (idxP p l)) ∧ Below w.heap.size w w' := by
  obtain ⟨rfl, hcx, hmx, _⟩ := id hx
  unfold maxLen at hmx
  have HP := hide hp
  clear hp
  go_enter Tryz.func167, Tryz.ntmps167
  go_wp2
  go_loopw [8] (fun i wr => ∃ k : Nat, k ≤ l.length ∧ i = .int .i64 k ∧ noneTo p l k ∧ Below w.heap.size w wr) (fun i _ => l.length - (intOf i).toNat)
  case atStart => exact ⟨0, Nat.zero_le _, rfl, noneTo_zero, Below.refl _ _⟩
  case round =>
    obtain ⟨k, hk, rfl, hag, hbl⟩ := hrel
    have HA := hide hag
    clear hag
    by_cases hlt : k < l.length
    · obtain ⟨b, o, rfl, hb, hm, h0⟩ := int_cells (hx.step hbl) hlt
      go_wp2_with fail
      refine (HP.out k hlt (.int .i64 l[k]) _ wr hbl ⟨rfl, rfl⟩).mono ?_
      rintro e w1 ⟨rfl, hb1⟩
      have HB := hide (Below.then_ hbl hb1)
      clear hb1
      cases hd : p l[k]
      · have HN := hide (HA.out.next hlt hd)
        clear hd
        go_wp2
        exact ⟨⟨k + 1, by omega, by go_num, HN.out, HB.out⟩, by simp [intOf]; omega⟩
      · have HN := hide (HA.out.hit hlt hd)
        clear hd
        go_wp2
        go_ret
        exact ⟨ret_int HN.out.symm, HB.out⟩
    · have hk' : k = l.length := by omega
      subst hk'
      go_wp2
      go_ret
      exact ⟨ret_int HA.out.all_.symm, hbl⟩

theorem hasInt_any {A : Option Addr} {n c : Nat} {l : List (Int)} {fp : List Nat} (p : Int → Bool) (g : Nat) (lb : Array Value) (eg : ∀ args w, (callFunc g args).run Tryz.prog w = .ok (.enter g args) w) (w : World) (hx : SlR Rp.int w A n c l fp)
    (hp : ∀ (i : Nat) (hi : i < l.length) (v : Value) (fq : List Nat) (w1 : World), Below w.heap.size w w1 → Rp.int.R w1 [v] l[i] fq → Calls Tryz.prog g (#[v] ++ lb) w1 fun e w2 => e = .returned (.bool (p l[i])) ∧ Below w1.heap.size w1 w2) :
    Calls Tryz.prog 135 #[.slice A n c, .func (.func g) #[] lb] w fun e w' => e = .returned (.bool (l.any p)) ∧ Below w.heap.size w w' := by
  have HP := hide hp
  clear hp
  go_enter Tryz.func135, Tryz.ntmps135
  go_wp2_with fail
  refine (idxInt_any p g lb eg _ hx HP.out).mono ?_
  rintro e w1 ⟨rfl, hb1⟩
  go_wp2
  go_ret
  exact ⟨ret_bool (idxP_any p l), hb1⟩

end Go.Proofs.YtnogkkcmcnhodaaGreatDoor
