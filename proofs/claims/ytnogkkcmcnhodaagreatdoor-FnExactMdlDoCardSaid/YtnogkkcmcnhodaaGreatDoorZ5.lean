/- Lemmas and walks, joined by program (wip/gen/merge.py). -/
import Derived.Lib.SliceRun
import Derived.Test.YtnogkkcmcnhodaaGreatDoorZ2
import Derived.Test.YtnogkkcmcnhodaaGreatDoorZ4
import Derived.Test.YtnogkkcmcnhodaaGreatDoorZ1
import Derived.Test.YtnogkkcmcnhodaaGreatDoorZ3
namespace Go.Proofs.YtnogkkcmcnhodaaGreatDoor
open Go.RowKit
attribute [local go_sem ↓] Go.wp_at_zero Go.wp_at_succ

theorem ctHouse_parts (x : House) : ((ctHouse x : Nat) : Int) = ((countL (fun _ => 1) x.keys : Nat) : Int) + ((countL (fun _ => 1) x.used : Nat) : Int) + ((countL ctRepo x.repos : Nat) : Int) := by
 unfold ctHouse
 omega
theorem disj_left {f g : List Nat} (h : (f ++ g).Nodup) : ∀ x ∈ f, x ∉ g := fun x hx hg => (List.nodup_append.1 h).2.2 x hx x hg rfl
theorem disj_right {f g : List Nat} (h : (f ++ g).Nodup) : ∀ x ∈ g, x ∉ f := fun x hx hf => (List.nodup_append.1 h).2.2 x hf x hx rfl

set_option maxHeartbeats 2000000 in
theorem markHouse_any {cs : List Value} {x : House} {fx : List Nat} (k0 : Int) (w : World) (hx : Rp.house.R w cs x fx) (hnd : fx.Nodup) (hfr : Free w fx) (hk0 : 0 ≤ k0) (hkm : k0 + (ctHouse x : Nat) ≤ 1152921504606846976) :
  Calls Tryz.prog 15 #[.agg cs.toArray, .int .i64 k0] w fun e w' => e = .returned (.int .i64 (k0 + (ctHouse x : Nat))) ∧ Rp.house.R w' cs (mkHouse x k0) fx ∧ Only fx w w' ∧ Free w' fx := by
 obtain ⟨A0, n0, c0, f0, A1, n1, c1, f1, A2, n2, c2, f2, rfl, rfl, h0, h1, h2⟩ := hx
 have hct := ctHouse_parts x
 rw [hct] at hkm ⊢
 have n0' : 0 ≤ ((countL (fun _ => 1) x.keys : Nat) : Int) := by omega
 have n1' : 0 ≤ ((countL (fun _ => 1) x.used : Nat) : Int) := by omega
 have n2' : 0 ≤ ((countL ctRepo x.repos : Nat) : Int) := by omega
 have d0 := disj_left hnd
 have d0' := disj_right hnd
 have hnd1 := (List.nodup_append.1 hnd).2.1
 have d1 := disj_left hnd1
 have d1' := disj_right hnd1
 have m0 := (List.nodup_append.1 hnd).1
 have m1 := (List.nodup_append.1 hnd1).1
 have m2 := (List.nodup_append.1 hnd1).2.1
 have HC := hide (show ∀ (k : Int), k = k from fun _ => rfl)
 have kb := Blk.new w 35 #[.slice A0 n0 c0, .slice A1 n1 c1, .slice A2 n2 c2]
 have hgl : ∀ z ∈ f0 ++ (f1 ++ f2), z < w.heap.size := hfr.lt
 have HFR := hfr.step ((Below.refl w.heap.size w).alloc nle (.cells #[.slice A0 n0 c0, .slice A1 n1 c1, .slice A2 n2 c2] 35))
 replace h0 := h0.allocN (.cells #[.slice A0 n0 c0, .slice A1 n1 c1, .slice A2 n2 c2] 35)
 replace h1 := h1.allocN (.cells #[.slice A0 n0 c0, .slice A1 n1 c1, .slice A2 n2 c2] 35)
 replace h2 := h2.allocN (.cells #[.slice A0 n0 c0, .slice A1 n1 c1, .slice A2 n2 c2] 35)
 have HO := (Only.refl (f0 ++ (f1 ++ f2)) w).alloc (.cells #[.slice A0 n0 c0, .slice A1 n1 c1, .slice A2 n2 c2] 35)
 have hnb : ∀ f : List Nat, (∀ z ∈ f, z ∈ f0 ++ (f1 ++ f2)) → w.heap.size ∉ f := fun f hf hm => by have := hgl _ (hf _ hm); omega
 have HNB := hide hnb
 have HD := hide (show (∀ z ∈ f0, z ∈ f0 ++ (f1 ++ f2)) ∧ (∀ z ∈ f1, z ∈ f0 ++ (f1 ++ f2)) ∧ ∀ z ∈ f2, z ∈ f0 ++ (f1 ++ f2) from ⟨fun z hz => by simp [hz], fun z hz => by simp [hz], fun z hz => by simp [hz]⟩)
 clear hnb hgl hnd hnd1 hfr
 go_enter Tryz.func15, Tryz.ntmps15
 go_wp2_with fail
 refine (markIntS_any k0 _ h0 m0 (HFR.sub HD.out.1) hk0 (by omega)).mono ?_
 rintro e w1 ⟨rfl, h0, ho, hf⟩
 replace kb := kb.only ho (HNB.out _ HD.out.1)
 replace h1 := h1.only ho (fun z hz hm => d0 z hm (by simp [hz]))
 replace h2 := h2.only ho (fun z hz hm => d0 z hm (by simp [hz]))
 replace HFR := HFR.other ho hf (fun z hz => HFR.lt z hz)
 replace HO := HO.then_only ho (fun z hz => .inl (HD.out.1 z hz))
 clear ho hf
 have u1 := Blk.c1 kb
 go_wp2_with fail
 refine (markIntS_any _ _ h1 m1 (HFR.sub HD.out.2.1) (by omega) (by omega)).mono ?_
 rintro e w2 ⟨rfl, h1, ho, hf⟩
 replace kb := kb.only ho (HNB.out _ HD.out.2.1)
 replace h0 := h0.only ho (fun z hz hm => d0 z hz (by simp [hm]))
 replace h2 := h2.only ho (fun z hz hm => d1 z hm hz)
 replace HFR := HFR.other ho hf (fun z hz => HFR.lt z hz)
 replace HO := HO.then_only ho (fun z hz => .inl (HD.out.2.1 z hz))
 clear ho hf u1
 have u2 := Blk.c2 kb
 go_wp2_with fail
 refine (markRepoS_any _ _ h2 m2 (HFR.sub HD.out.2.2) (by omega) (by omega)).mono ?_
 rintro e w3 ⟨rfl, h2, ho, hf⟩
 replace h0 := h0.only ho (fun z hz hm => d0 z hz (by simp [hm]))
 replace h1 := h1.only ho (fun z hz hm => d1 z hz hm)
 replace HFR := HFR.other ho hf (fun z hz => HFR.lt z hz)
 replace HO := HO.then_only ho (fun z hz => .inl (HD.out.2.2 z hz))
 clear ho hf u2
 have HRET := hide (show k0 + ((countL (fun _ => 1) x.keys : Nat) : Int) + ((countL (fun _ => 1) x.used : Nat) : Int) + ((countL ctRepo x.repos : Nat) : Int) = k0 + (((countL (fun _ => 1) x.keys : Nat) : Int) + ((countL (fun _ => 1) x.used : Nat) : Int) + ((countL ctRepo x.repos : Nat) : Int)) by omega)
 go_wp2
 go_ret
 exact ⟨ret_int HRET.out, ⟨A0, n0, c0, f0, A1, n1, c1, f1, A2, n2, c2, f2, rfl, rfl, h0, h1, h2⟩, HO, HFR⟩

set_option maxHeartbeats 2000000 in
theorem heldHouse_any {cs : List Value} {x : House} {fx : List Nat} (k0 : Int) (w : World) (hx : Rp.house.R w cs (mkHouse x k0) fx) (hk0 : 0 ≤ k0) (hkm : k0 + (ctHouse x : Nat) ≤ 1152921504606846976) :
  Calls Tryz.prog 18 #[.agg cs.toArray, .int .i64 k0] w fun e w' => e = .returned (.int .i64 (k0 + (ctHouse x : Nat))) ∧ Below w.heap.size w w' := by
 obtain ⟨A0, n0, c0, f0, A1, n1, c1, f1, A2, n2, c2, f2, rfl, _, h0, h1, h2⟩ := hx
 have hct := ctHouse_parts x
 rw [hct] at hkm ⊢
 have n0' : 0 ≤ ((countL (fun _ => 1) x.keys : Nat) : Int) := by omega
 have n1' : 0 ≤ ((countL (fun _ => 1) x.used : Nat) : Int) := by omega
 have n2' : 0 ≤ ((countL ctRepo x.repos : Nat) : Int) := by omega
 have kb := Blk.new w 35 #[.slice A0 n0 c0, .slice A1 n1 c1, .slice A2 n2 c2]
 replace h0 := h0.allocN (.cells #[.slice A0 n0 c0, .slice A1 n1 c1, .slice A2 n2 c2] 35)
 replace h1 := h1.allocN (.cells #[.slice A0 n0 c0, .slice A1 n1 c1, .slice A2 n2 c2] 35)
 replace h2 := h2.allocN (.cells #[.slice A0 n0 c0, .slice A1 n1 c1, .slice A2 n2 c2] 35)
 have HB := (Below.refl w.heap.size w).alloc nle (.cells #[.slice A0 n0 c0, .slice A1 n1 c1, .slice A2 n2 c2] 35)
 go_enter Tryz.func18, Tryz.ntmps18
 go_wp2_with fail
 refine (heldIntS_any k0 _ h0 hk0 (by omega)).mono ?_
 rintro e w1 ⟨rfl, hb⟩
 replace kb := kb.step hb
 replace h1 := h1.step hb
 replace h2 := h2.step hb
 replace HB := Below.t HB hb
 clear hb h0
 have u1 := Blk.c1 kb
 go_wp2_with fail
 refine (heldIntS_any _ _ h1 (by omega) (by omega)).mono ?_
 rintro e w2 ⟨rfl, hb⟩
 replace kb := kb.step hb
 replace h2 := h2.step hb
 replace HB := Below.t HB hb
 clear hb h1 u1
 have u2 := Blk.c2 kb
 go_wp2_with fail
 refine (heldRepoS_any _ _ h2 (by omega) (by omega)).mono ?_
 rintro e w3 ⟨rfl, hb⟩
 replace HB := Below.t HB hb
 clear hb h2 u2
 have HRET := hide (show k0 + ((countL (fun _ => 1) x.keys : Nat) : Int) + ((countL (fun _ => 1) x.used : Nat) : Int) + ((countL ctRepo x.repos : Nat) : Int) = k0 + (((countL (fun _ => 1) x.keys : Nat) : Int) + ((countL (fun _ => 1) x.used : Nat) : Int) + ((countL ctRepo x.repos : Nat) : Int)) by omega)
 have hnn : ¬ k0 + ((countL (fun _ => 1) x.keys : Nat) : Int) + ((countL (fun _ => 1) x.used : Nat) : Int) + ((countL ctRepo x.repos : Nat) : Int) < 0 := by omega
 go_wp2
 go_ret
 exact ⟨ret_int HRET.out, HB⟩
set_option maxHeartbeats 1000000 in
theorem eqIntS_any {A A' : Option Addr} {n n' c c' : Nat} {x y : List Int} {fx fy : List Nat} (w : World) (hx : SlR Rp.int w A n c x fx) (hy : SlR Rp.int w A' n' c' y fy) :
  Calls Tryz.prog 50 #[.slice A n c, .slice A' n' c'] w fun e w' => e = .returned (.bool (decide (x = y))) ∧ Below w.heap.size w w' := by
 obtain ⟨rfl, hcx, hmx, _⟩ := id hx
 obtain ⟨rfl, hcy, hmy, _⟩ := id hy
 unfold maxLen at hmx hmy
 by_cases hl : x.length = y.length
 ·have e0 : ((x.length : Int) != y.length) = false := by simp [hl]
  have HL := hide hl
  clear hl
  go_enter Tryz.func50, Tryz.ntmps50
  go_wp2
  go_loopw [5] (fun i wr => ∃ k : Nat, k ≤ x.length ∧ i = .int .i64 k ∧ agree x y k ∧ Below w.heap.size w wr) (fun i _ => x.length - (intOf i).toNat)
  case atStart => exact ⟨0, Nat.zero_le _, rfl, rfl, Below.refl _ _⟩
  case round =>
   obtain ⟨k, hk, rfl, hag, hbl⟩ := hrel
   by_cases hlt : k < x.length
   ·obtain ⟨b, o, rfl, hb, _, h0⟩ := int_cells (hx.below hbl nle) hlt
    obtain ⟨b', o', rfl, hb', _, g0⟩ := int_cells (hy.below hbl nle) (i := k) (by have := HL.out; omega)
    have hlt' : k < y.length := by have := HL.out; omega
    have i0 : (0 : Int) ≤ (k : Int) := by omega
    have i1 : (k : Int) < (x.length : Int) := by omega
    have i2 : (k : Int) < (y.length : Int) := by omega
    by_cases hxy : x[k] = y[k]
    ·have HN := hide (agree_next hag hlt hlt' hxy)
     rw [← hxy] at g0
     clear hxy
     generalize x[k] = xk at h0 g0
     go_wp2_with fail
     go_quiet (fail)
     go_wp2
     refine ⟨⟨k + 1, by omega, by go_num, HN.out, Below.drewN' hbl _⟩, by simp [intOf]; omega⟩
    ·have HN := hide (agree_not hlt hlt' hxy)
     have hd : (x[k] != y[k]) = true := by exact bne_iff_ne.2 hxy
     generalize x[k] = xk at h0 hd
     generalize y[k] = yk at g0 hd
     clear hxy
     go_wp2_with fail
     go_quiet (fail)
     go_wp2
     go_ret
     exact ⟨ret_bool (by simpa using HN.out), Below.drewN' hbl _⟩
   ·have hk' : k = x.length := by omega
    subst hk'
    go_wp2
    go_ret
    exact ⟨ret_bool (by simpa using agree_all hag HL.out), hbl⟩
 ·have e0 : ((x.length : Int) != y.length) = true := by simp; omega
  have HN := hide (ne_of_length hl)
  clear hl
  go_enter Tryz.func50, Tryz.ntmps50
  go_wp2
  go_ret
  exact ⟨ret_bool (by simpa using HN.out), Below.refl _ _⟩

set_option maxHeartbeats 1000000 in
theorem eqStrS_any {A A' : Option Addr} {n n' c c' : Nat} {x y : List ByteArray} {fx fy : List Nat} (w : World) (hx : SlR Rp.str w A n c x fx) (hy : SlR Rp.str w A' n' c' y fy) :
  Calls Tryz.prog 52 #[.slice A n c, .slice A' n' c'] w fun e w' => e = .returned (.bool (decide (x = y))) ∧ Below w.heap.size w w' := by
 obtain ⟨rfl, hcx, hmx, _⟩ := id hx
 obtain ⟨rfl, hcy, hmy, _⟩ := id hy
 unfold maxLen at hmx hmy
 by_cases hl : x.length = y.length
 ·have e0 : ((x.length : Int) != y.length) = false := by simp [hl]
  have HL := hide hl
  clear hl
  go_enter Tryz.func52, Tryz.ntmps52
  go_wp2
  go_loopw [5] (fun i wr => ∃ k : Nat, k ≤ x.length ∧ i = .int .i64 k ∧ agree x y k ∧ Below w.heap.size w wr) (fun i _ => x.length - (intOf i).toNat)
  case atStart => exact ⟨0, Nat.zero_le _, rfl, rfl, Below.refl _ _⟩
  case round =>
   obtain ⟨k, hk, rfl, hag, hbl⟩ := hrel
   by_cases hlt : k < x.length
   ·obtain ⟨b, o, rfl, hb, _, h0⟩ := str_cells (hx.below hbl nle) hlt
    obtain ⟨b', o', rfl, hb', _, g0⟩ := str_cells (hy.below hbl nle) (i := k) (by have := HL.out; omega)
    have hlt' : k < y.length := by have := HL.out; omega
    have i0 : (0 : Int) ≤ (k : Int) := by omega
    have i1 : (k : Int) < (x.length : Int) := by omega
    have i2 : (k : Int) < (y.length : Int) := by omega
    by_cases hxy : x[k] = y[k]
    ·have HN := hide (agree_next hag hlt hlt' hxy)
     rw [← hxy] at g0
     clear hxy
     generalize x[k] = xk at h0 g0
     go_wp2_with fail
     go_quiet (fail)
     go_wp2
     refine ⟨⟨k + 1, by omega, by go_num, HN.out, Below.drewN' hbl _⟩, by simp [intOf]; omega⟩
    ·have HN := hide (agree_not hlt hlt' hxy)
     have hd : (x[k].toList == y[k].toList) = false := by rw [beq_toListBytes']; exact decide_eq_false hxy
     generalize x[k] = xk at h0 hd
     generalize y[k] = yk at g0 hd
     clear hxy
     go_wp2_with fail
     go_quiet (fail)
     go_wp2
     go_ret
     exact ⟨ret_bool (by simpa using HN.out), Below.drewN' hbl _⟩
   ·have hk' : k = x.length := by omega
    subst hk'
    go_wp2
    go_ret
    exact ⟨ret_bool (by simpa using agree_all hag HL.out), hbl⟩
 ·have e0 : ((x.length : Int) != y.length) = true := by simp; omega
  have HN := hide (ne_of_length hl)
  clear hl
  go_enter Tryz.func52, Tryz.ntmps52
  go_wp2
  go_ret
  exact ⟨ret_bool (by simpa using HN.out), Below.refl _ _⟩

set_option maxHeartbeats 1000000 in
theorem eqRule_any (x y : Rule) (w : World) :
  Calls Tryz.prog 54 #[.agg (encRule x).toArray, .agg (encRule y).toArray] w fun e w' => e = .returned (.bool (decide (x = y))) ∧ Below w.heap.size w w' := by
 obtain ⟨a0, a1, a2, a3⟩ := x
 obtain ⟨d0, d1, d2, d3⟩ := y
 unfold encRule
 go_enter Tryz.func54, Tryz.ntmps54
 go_wp2
 all_goals
  go_ret
  exact ⟨ret_bool (by simp_all [beq_toListBytes']), (by repeat (first | exact Below.refl _ _ | assumption | refine Below.alloc ?_ (by simp <;> omega) _ | refine Below.drew ?_))⟩

set_option maxHeartbeats 1000000 in
theorem eqRuleS_any {A A' : Option Addr} {n n' c c' : Nat} {x y : List (Rule)} {fx fy : List Nat} (w : World) (hx : SlR Rp.rule w A n c x fx) (hy : SlR Rp.rule w A' n' c' y fy) :
  Calls Tryz.prog 155 #[.slice A n c, .slice A' n' c'] w fun e w' => e = .returned (.bool (decide (x = y))) ∧ Below w.heap.size w w' := by
 obtain ⟨rfl, hcx, hmx, _⟩ := id hx
 obtain ⟨rfl, hcy, hmy, _⟩ := id hy
 unfold maxLen at hmx hmy
 by_cases hl : x.length = y.length
 ·have e0 : ((x.length : Int) != y.length) = false := by simp [hl]
  have HL := hide hl
  clear hl
  go_enter Tryz.func155, Tryz.ntmps155
  go_wp2
  go_loopw [5] (fun i wr => ∃ k : Nat, k ≤ x.length ∧ i = .int .i64 k ∧ agree x y k ∧ Below w.heap.size w wr) (fun i _ => x.length - (intOf i).toNat)
  case atStart => exact ⟨0, Nat.zero_le _, rfl, rfl, Below.refl _ _⟩
  case round =>
   obtain ⟨k, hk, rfl, hag, hbl⟩ := hrel
   by_cases hlt : k < x.length
   ·obtain ⟨b, o, rfl, hb, hm, h0, h1, h2, h3⟩ := rule_cells (hx.below hbl nle) hlt
    obtain ⟨b', o', rfl, hb', hm', g0, g1, g2, g3⟩ := rule_cells (hy.below hbl nle) (i := k) (by have := HL.out; omega)
    have hlt' : k < y.length := by have := HL.out; omega
    go_wp2_with fail
    go_region_held3 (fun w' => w'.cell? ⟨b, o + k * 4, none⟩ = some (.int .i64 x[k].user) ∧ w'.cell? ⟨b, o + k * 4 + 1, none⟩ = some (.string x[k].ref) ∧ w'.cell? ⟨b, o + k * 4 + 2, none⟩ = some (.string x[k].path) ∧ w'.cell? ⟨b, o + k * 4 + 3, none⟩ = some (.bool x[k].write) ∧ w'.cell? ⟨b', o' + k * 4, none⟩ = some (.int .i64 y[k].user) ∧ w'.cell? ⟨b', o' + k * 4 + 1, none⟩ = some (.string y[k].ref) ∧ w'.cell? ⟨b', o' + k * 4 + 2, none⟩ = some (.string y[k].path) ∧ w'.cell? ⟨b', o' + k * 4 + 3, none⟩ = some (.bool y[k].write))
     (first | exact ⟨h0, h1, h2, h3, g0, g1, g2, g3⟩ | exact ⟨(hb1.cell hb).trans h0, (hb1.cell hb).trans h1, (hb1.cell hb).trans h2, (hb1.cell hb).trans h3, (hb1.cell hb').trans g0, (hb1.cell hb').trans g1, (hb1.cell hb').trans g2, (hb1.cell hb').trans g3⟩)
     (first | (go_at_call 54; refine (eqRule_any x[k] y[k] _).mono ?_; rintro e w1 ⟨rfl, hb1⟩))
    have hB : Below w.heap.size w w1 := hbl.drew.trans (hb1.mono hbl.size)
    clear hb1 h0 h1 h2 h3 g0 g1 g2 g3
    cases hd : decide (x[k] = y[k])
    ·have HN := hide (agree_not hlt hlt' (by simpa using hd))
     clear hd
     go_wp2
     go_ret
     exact ⟨ret_bool (by simpa using HN.out), hB⟩
    ·have HN := hide (agree_next hag hlt hlt' (by simpa using hd))
     clear hd
     go_wp2
     refine ⟨⟨k + 1, by omega, by go_num, HN.out, hB⟩, by simp [intOf]; omega⟩
   ·have hk' : k = x.length := by omega
    subst hk'
    go_wp2
    go_ret
    exact ⟨ret_bool (by simpa using agree_all hag HL.out), hbl⟩
 ·have e0 : ((x.length : Int) != y.length) = true := by simp; omega
  have HN := hide (ne_of_length hl)
  clear hl
  go_enter Tryz.func155, Tryz.ntmps155
  go_wp2
  go_ret
  exact ⟨ret_bool (by simpa using HN.out), Below.refl _ _⟩

set_option maxHeartbeats 1000000 in
theorem eqFile_any (x y : File) (w : World) :
  Calls Tryz.prog 67 #[.agg (encFile x).toArray, .agg (encFile y).toArray] w fun e w' => e = .returned (.bool (decide (x = y))) ∧ Below w.heap.size w w' := by
 obtain ⟨a0, a1⟩ := x
 obtain ⟨d0, d1⟩ := y
 unfold encFile
 go_enter Tryz.func67, Tryz.ntmps67
 go_wp2
 all_goals
  go_ret
  exact ⟨ret_bool (by simp_all [beq_toListBytes']), (by repeat (first | exact Below.refl _ _ | assumption | refine Below.alloc ?_ (by simp <;> omega) _ | refine Below.drew ?_))⟩

set_option maxHeartbeats 1000000 in
theorem eqFileS_any {A A' : Option Addr} {n n' c c' : Nat} {x y : List (File)} {fx fy : List Nat} (w : World) (hx : SlR Rp.file w A n c x fx) (hy : SlR Rp.file w A' n' c' y fy) :
  Calls Tryz.prog 22 #[.slice A n c, .slice A' n' c'] w fun e w' => e = .returned (.bool (decide (x = y))) ∧ Below w.heap.size w w' := by
 obtain ⟨rfl, hcx, hmx, _⟩ := id hx
 obtain ⟨rfl, hcy, hmy, _⟩ := id hy
 unfold maxLen at hmx hmy
 by_cases hl : x.length = y.length
 ·have e0 : ((x.length : Int) != y.length) = false := by simp [hl]
  have HL := hide hl
  clear hl
  go_enter Tryz.func22, Tryz.ntmps22
  go_wp2
  go_loopw [5] (fun i wr => ∃ k : Nat, k ≤ x.length ∧ i = .int .i64 k ∧ agree x y k ∧ Below w.heap.size w wr) (fun i _ => x.length - (intOf i).toNat)
  case atStart => exact ⟨0, Nat.zero_le _, rfl, rfl, Below.refl _ _⟩
  case round =>
   obtain ⟨k, hk, rfl, hag, hbl⟩ := hrel
   by_cases hlt : k < x.length
   ·obtain ⟨b, o, rfl, hb, hm, h0, h1⟩ := file_cells (hx.below hbl nle) hlt
    obtain ⟨b', o', rfl, hb', hm', g0, g1⟩ := file_cells (hy.below hbl nle) (i := k) (by have := HL.out; omega)
    have hlt' : k < y.length := by have := HL.out; omega
    go_wp2_with fail
    go_region_held3 (fun w' => w'.cell? ⟨b, o + k * 2, none⟩ = some (.string x[k].path) ∧ w'.cell? ⟨b, o + k * 2 + 1, none⟩ = some (.string x[k].bytes) ∧ w'.cell? ⟨b', o' + k * 2, none⟩ = some (.string y[k].path) ∧ w'.cell? ⟨b', o' + k * 2 + 1, none⟩ = some (.string y[k].bytes))
     (first | exact ⟨h0, h1, g0, g1⟩ | exact ⟨(hb1.cell hb).trans h0, (hb1.cell hb).trans h1, (hb1.cell hb').trans g0, (hb1.cell hb').trans g1⟩)
     (first | (go_at_call 67; refine (eqFile_any x[k] y[k] _).mono ?_; rintro e w1 ⟨rfl, hb1⟩))
    have hB : Below w.heap.size w w1 := hbl.drew.trans (hb1.mono hbl.size)
    clear hb1 h0 h1 g0 g1
    cases hd : decide (x[k] = y[k])
    ·have HN := hide (agree_not hlt hlt' (by simpa using hd))
     clear hd
     go_wp2
     go_ret
     exact ⟨ret_bool (by simpa using HN.out), hB⟩
    ·have HN := hide (agree_next hag hlt hlt' (by simpa using hd))
     clear hd
     go_wp2
     refine ⟨⟨k + 1, by omega, by go_num, HN.out, hB⟩, by simp [intOf]; omega⟩
   ·have hk' : k = x.length := by omega
    subst hk'
    go_wp2
    go_ret
    exact ⟨ret_bool (by simpa using agree_all hag HL.out), hbl⟩
 ·have e0 : ((x.length : Int) != y.length) = true := by simp; omega
  have HN := hide (ne_of_length hl)
  clear hl
  go_enter Tryz.func22, Tryz.ntmps22
  go_wp2
  go_ret
  exact ⟨ret_bool (by simpa using HN.out), Below.refl _ _⟩

set_option maxHeartbeats 1000000 in
theorem eqFileSS_any {A A' : Option Addr} {n n' c c' : Nat} {x y : List (List (File))} {fx fy : List Nat} (w : World) (hx : SlR (Rp.slice Rp.file) w A n c x fx) (hy : SlR (Rp.slice Rp.file) w A' n' c' y fy) :
  Calls Tryz.prog 190 #[.slice A n c, .slice A' n' c'] w fun e w' => e = .returned (.bool (decide (x = y))) ∧ Below w.heap.size w w' := by
 obtain ⟨rfl, hcx, hmx, _⟩ := id hx
 obtain ⟨rfl, hcy, hmy, _⟩ := id hy
 unfold maxLen at hmx hmy
 by_cases hl : x.length = y.length
 ·have e0 : ((x.length : Int) != y.length) = false := by simp [hl]
  have HL := hide hl
  clear hl
  go_enter Tryz.func190, Tryz.ntmps190
  go_wp2
  go_loopw [5] (fun i wr => ∃ k : Nat, k ≤ x.length ∧ i = .int .i64 k ∧ agree x y k ∧ Below w.heap.size w wr) (fun i _ => x.length - (intOf i).toNat)
  case atStart => exact ⟨0, Nat.zero_le _, rfl, rfl, Below.refl _ _⟩
  case round =>
   obtain ⟨k, hk, rfl, hag, hbl⟩ := hrel
   by_cases hlt : k < x.length
   ·obtain ⟨b, o, A0, n0, c0, f0, rfl, hb, hm, h0, hs0, hsub⟩ := slice_cells (hx.below hbl nle) hlt
    obtain ⟨b', o', A'0, n'0, c'0, f'0, rfl, hb', hm', g0, hs'0, hsub'⟩ := slice_cells (hy.below hbl nle) (i := k) (by have := HL.out; omega)
    have hlt' : k < y.length := by have := HL.out; omega
    go_wp2_with fail
    go_region_held3 (fun w' => w'.cell? ⟨b, o + k, none⟩ = some (.slice A0 n0 c0) ∧ w'.cell? ⟨b', o' + k, none⟩ = some (.slice A'0 n'0 c'0))
     (first | exact ⟨h0, g0⟩ | exact ⟨(hb1.cell hb).trans h0, (hb1.cell hb').trans g0⟩)
     (first | (go_at_call 22; refine (eqFileS_any _ (hs0.keep fun _ _ => by rfl) (hs'0.keep fun _ _ => by rfl)).mono ?_; rintro e w1 ⟨rfl, hb1⟩))
    have hB : Below w.heap.size w w1 := hbl.drew.trans (hb1.mono hbl.size)
    clear hb1 h0 g0
    cases hd : decide (x[k] = y[k])
    ·have HN := hide (agree_not hlt hlt' (by simpa using hd))
     clear hd
     go_wp2
     go_ret
     exact ⟨ret_bool (by simpa using HN.out), hB⟩
    ·have HN := hide (agree_next hag hlt hlt' (by simpa using hd))
     clear hd
     go_wp2
     refine ⟨⟨k + 1, by omega, by go_num, HN.out, hB⟩, by simp [intOf]; omega⟩
   ·have hk' : k = x.length := by omega
    subst hk'
    go_wp2
    go_ret
    exact ⟨ret_bool (by simpa using agree_all hag HL.out), hbl⟩
 ·have e0 : ((x.length : Int) != y.length) = true := by simp; omega
  have HN := hide (ne_of_length hl)
  clear hl
  go_enter Tryz.func190, Tryz.ntmps190
  go_wp2
  go_ret
  exact ⟨ret_bool (by simpa using HN.out), Below.refl _ _⟩

set_option maxHeartbeats 2000000 in
theorem eqRef_any {cs cs' : List Value} {x y : Ref} {fx fy : List Nat} (w : World) (hx : Rp.ref.R w cs x fx) (hy : Rp.ref.R w cs' y fy) :
  Calls Tryz.prog 178 #[.agg cs.toArray, .agg cs'.toArray] w fun e w' => e = .returned (.bool (decide (x = y))) ∧ Below w.heap.size w w' := by
 obtain ⟨A0, n0, c0, f0, rfl, _, h0⟩ := hx
 obtain ⟨Ay0, ny0, cy0, fy0, rfl, _, g0⟩ := hy
 obtain ⟨a0, a1, a2, a3⟩ := x
 obtain ⟨d0, d1, d2, d3⟩ := y
 simp only at h0 g0
 simp only [Ref.mk.injEq]
 go_enter Tryz.func178, Tryz.ntmps178
 go_wp2_with fail
 all_goals try (go_ret; exact ⟨ret_bool (by simp_all [beq_toListBytes']), (by repeat (first | exact Below.refl _ _ | assumption | refine Below.alloc ?_ (by simp <;> omega) _ | refine Below.drew ?_))⟩)
 refine (eqFileSS_any (x := a3) (y := d3) _ (by exact ((h0.allocN _).allocN _)) (by exact ((g0.allocN _).allocN _))).mono ?_
 rintro e w1 ⟨rfl, hb1⟩
 obtain ⟨hcc1, hff1⟩ := bcell hb1
 have hz1 : w.heap.size + 1 < w1.heap.size := by have := hb1.size; simp at this; omega
 have hy1 : w.heap.size < w1.heap.size := by omega
 cases hd1 : decide (a3 = d3)
 ·have hne1 := of_decide_eq_false hd1
  clear hd1
  have HN := hide hne1; clear hne1
  go_wp2
  go_ret; exact ⟨ret_bool (by have := HN.out; simp [this]), (Below.box2 hb1)⟩
 have he1 : a3 = d3 := of_decide_eq_true hd1
 clear hd1
 have HE1 := hide he1; clear he1
 go_wp2
 all_goals (go_ret; exact ⟨ret_bool (by have q1 := HE1.out; simp_all [beq_toListBytes']), (Below.box2 hb1)⟩)

set_option maxHeartbeats 1000000 in
theorem eqRefS_any {A A' : Option Addr} {n n' c c' : Nat} {x y : List (Ref)} {fx fy : List Nat} (w : World) (hx : SlR Rp.ref w A n c x fx) (hy : SlR Rp.ref w A' n' c' y fy) :
  Calls Tryz.prog 156 #[.slice A n c, .slice A' n' c'] w fun e w' => e = .returned (.bool (decide (x = y))) ∧ Below w.heap.size w w' := by
 obtain ⟨rfl, hcx, hmx, _⟩ := id hx
 obtain ⟨rfl, hcy, hmy, _⟩ := id hy
 unfold maxLen at hmx hmy
 by_cases hl : x.length = y.length
 ·have e0 : ((x.length : Int) != y.length) = false := by simp [hl]
  have HL := hide hl
  clear hl
  go_enter Tryz.func156, Tryz.ntmps156
  go_wp2
  go_loopw [5] (fun i wr => ∃ k : Nat, k ≤ x.length ∧ i = .int .i64 k ∧ agree x y k ∧ Below w.heap.size w wr) (fun i _ => x.length - (intOf i).toNat)
  case atStart => exact ⟨0, Nat.zero_le _, rfl, rfl, Below.refl _ _⟩
  case round =>
   obtain ⟨k, hk, rfl, hag, hbl⟩ := hrel
   by_cases hlt : k < x.length
   ·obtain ⟨b, o, A0, n0, c0, f0, rfl, hb, hm, h0, h1, h2, h3, hs0, hsub⟩ := ref_cells (hx.below hbl nle) hlt
    obtain ⟨b', o', A'0, n'0, c'0, f'0, rfl, hb', hm', g0, g1, g2, g3, hs'0, hsub'⟩ := ref_cells (hy.below hbl nle) (i := k) (by have := HL.out; omega)
    have hlt' : k < y.length := by have := HL.out; omega
    go_wp2_with fail
    go_region_held3 (fun w' => w'.cell? ⟨b, o + k * 4, none⟩ = some (.string x[k].name) ∧ w'.cell? ⟨b, o + k * 4 + 1, none⟩ = some (.bool x[k].guard) ∧ w'.cell? ⟨b, o + k * 4 + 2, none⟩ = some (.int .i64 x[k].count) ∧ w'.cell? ⟨b, o + k * 4 + 3, none⟩ = some (.slice A0 n0 c0) ∧ w'.cell? ⟨b', o' + k * 4, none⟩ = some (.string y[k].name) ∧ w'.cell? ⟨b', o' + k * 4 + 1, none⟩ = some (.bool y[k].guard) ∧ w'.cell? ⟨b', o' + k * 4 + 2, none⟩ = some (.int .i64 y[k].count) ∧ w'.cell? ⟨b', o' + k * 4 + 3, none⟩ = some (.slice A'0 n'0 c'0))
     (first | exact ⟨h0, h1, h2, h3, g0, g1, g2, g3⟩ | exact ⟨(hb1.cell hb).trans h0, (hb1.cell hb).trans h1, (hb1.cell hb).trans h2, (hb1.cell hb).trans h3, (hb1.cell hb').trans g0, (hb1.cell hb').trans g1, (hb1.cell hb').trans g2, (hb1.cell hb').trans g3⟩)
     (first | (go_at_call 178; refine (eqRef_any (x := x[k]) (y := y[k]) _ ⟨A0, n0, c0, f0, rfl, rfl, (hs0.keep fun _ _ => by rfl)⟩ ⟨A'0, n'0, c'0, f'0, rfl, rfl, (hs'0.keep fun _ _ => by rfl)⟩).mono ?_; rintro e w1 ⟨rfl, hb1⟩))
    have hB : Below w.heap.size w w1 := hbl.drew.trans (hb1.mono hbl.size)
    clear hb1 h0 h1 h2 h3 g0 g1 g2 g3
    cases hd : decide (x[k] = y[k])
    ·have HN := hide (agree_not hlt hlt' (by simpa using hd))
     clear hd
     go_wp2
     go_ret
     exact ⟨ret_bool (by simpa using HN.out), hB⟩
    ·have HN := hide (agree_next hag hlt hlt' (by simpa using hd))
     clear hd
     go_wp2
     refine ⟨⟨k + 1, by omega, by go_num, HN.out, hB⟩, by simp [intOf]; omega⟩
   ·have hk' : k = x.length := by omega
    subst hk'
    go_wp2
    go_ret
    exact ⟨ret_bool (by simpa using agree_all hag HL.out), hbl⟩
 ·have e0 : ((x.length : Int) != y.length) = true := by simp; omega
  have HN := hide (ne_of_length hl)
  clear hl
  go_enter Tryz.func156, Tryz.ntmps156
  go_wp2
  go_ret
  exact ⟨ret_bool (by simpa using HN.out), Below.refl _ _⟩

set_option maxHeartbeats 2000000 in
theorem eqRepo_any {cs cs' : List Value} {x y : Repo} {fx fy : List Nat} (w : World) (hx : Rp.repo.R w cs x fx) (hy : Rp.repo.R w cs' y fy) :
  Calls Tryz.prog 111 #[.agg cs.toArray, .agg cs'.toArray] w fun e w' => e = .returned (.bool (decide (x = y))) ∧ Below w.heap.size w w' := by
 obtain ⟨A0, n0, c0, f0, A1, n1, c1, f1, rfl, _, h0, h1⟩ := hx
 obtain ⟨Ay0, ny0, cy0, fy0, Ay1, ny1, cy1, fy1, rfl, _, g0, g1⟩ := hy
 obtain ⟨a0, a1, a2⟩ := x
 obtain ⟨d0, d1, d2⟩ := y
 simp only at h0 g0 h1 g1
 simp only [Repo.mk.injEq]
 go_enter Tryz.func111, Tryz.ntmps111
 go_wp2_with fail
 all_goals try (go_ret; exact ⟨ret_bool (by simp_all [beq_toListBytes']), (by repeat (first | exact Below.refl _ _ | assumption | refine Below.alloc ?_ (by simp <;> omega) _ | refine Below.drew ?_))⟩)
 refine (eqRuleS_any (x := a1) (y := d1) _ (by exact ((h0.allocN _).allocN _)) (by exact ((g0.allocN _).allocN _))).mono ?_
 rintro e w1 ⟨rfl, hb1⟩
 obtain ⟨hcc1, hff1⟩ := bcell hb1
 have hz1 : w.heap.size + 1 < w1.heap.size := by have := hb1.size; simp at this; omega
 have hy1 : w.heap.size < w1.heap.size := by omega
 cases hd1 : decide (a1 = d1)
 ·have hne1 := of_decide_eq_false hd1
  clear hd1
  have HN := hide hne1; clear hne1
  go_wp2
  go_ret; exact ⟨ret_bool (by have := HN.out; simp [this]), (Below.box2 hb1)⟩
 have he1 : a1 = d1 := of_decide_eq_true hd1
 clear hd1
 have HE1 := hide he1; clear he1
 go_wp2_with fail
 all_goals try (go_ret; exact ⟨ret_bool (by simp_all [beq_toListBytes']), (Below.box2 hb1)⟩)
 refine (eqRefS_any (x := a2) (y := d2) _ (by exact (((h1.allocN _).allocN _).step hb1)) (by exact (((g1.allocN _).allocN _).step hb1))).mono ?_
 rintro e w2 ⟨rfl, hb2⟩
 obtain ⟨hcc2, hff2⟩ := bcell hb2
 have hz2 : w.heap.size + 1 < w2.heap.size := by have := hb2.size; omega
 have hy2 : w.heap.size < w2.heap.size := by omega
 cases hd2 : decide (a2 = d2)
 ·have hne2 := of_decide_eq_false hd2
  clear hd2
  have HN := hide hne2; clear hne2
  go_wp2
  go_ret; exact ⟨ret_bool (by have := HN.out; simp [this]), (Below.t (Below.box2 hb1) hb2)⟩
 have he2 : a2 = d2 := of_decide_eq_true hd2
 clear hd2
 have HE2 := hide he2; clear he2
 go_wp2
 all_goals (go_ret; exact ⟨ret_bool (by have q1 := HE1.out; have q2 := HE2.out; simp_all [beq_toListBytes']), (Below.t (Below.box2 hb1) hb2)⟩)

set_option maxHeartbeats 1000000 in
theorem eqRepoS_any {A A' : Option Addr} {n n' c c' : Nat} {x y : List (Repo)} {fx fy : List Nat} (w : World) (hx : SlR Rp.repo w A n c x fx) (hy : SlR Rp.repo w A' n' c' y fy) :
  Calls Tryz.prog 51 #[.slice A n c, .slice A' n' c'] w fun e w' => e = .returned (.bool (decide (x = y))) ∧ Below w.heap.size w w' := by
 obtain ⟨rfl, hcx, hmx, _⟩ := id hx
 obtain ⟨rfl, hcy, hmy, _⟩ := id hy
 unfold maxLen at hmx hmy
 by_cases hl : x.length = y.length
 ·have e0 : ((x.length : Int) != y.length) = false := by simp [hl]
  have HL := hide hl
  clear hl
  go_enter Tryz.func51, Tryz.ntmps51
  go_wp2
  go_loopw [5] (fun i wr => ∃ k : Nat, k ≤ x.length ∧ i = .int .i64 k ∧ agree x y k ∧ Below w.heap.size w wr) (fun i _ => x.length - (intOf i).toNat)
  case atStart => exact ⟨0, Nat.zero_le _, rfl, rfl, Below.refl _ _⟩
  case round =>
   obtain ⟨k, hk, rfl, hag, hbl⟩ := hrel
   by_cases hlt : k < x.length
   ·obtain ⟨b, o, A0, n0, c0, f0, A1, n1, c1, f1, rfl, hb, hm, h0, h1, h2, hs0, hs1, hsub⟩ := repo_cells (hx.below hbl nle) hlt
    obtain ⟨b', o', A'0, n'0, c'0, f'0, A'1, n'1, c'1, f'1, rfl, hb', hm', g0, g1, g2, hs'0, hs'1, hsub'⟩ := repo_cells (hy.below hbl nle) (i := k) (by have := HL.out; omega)
    have hlt' : k < y.length := by have := HL.out; omega
    go_wp2_with fail
    go_region_held3 (fun w' => w'.cell? ⟨b, o + k * 3, none⟩ = some (.int .i64 x[k].admin) ∧ w'.cell? ⟨b, o + k * 3 + 1, none⟩ = some (.slice A0 n0 c0) ∧ w'.cell? ⟨b, o + k * 3 + 2, none⟩ = some (.slice A1 n1 c1) ∧ w'.cell? ⟨b', o' + k * 3, none⟩ = some (.int .i64 y[k].admin) ∧ w'.cell? ⟨b', o' + k * 3 + 1, none⟩ = some (.slice A'0 n'0 c'0) ∧ w'.cell? ⟨b', o' + k * 3 + 2, none⟩ = some (.slice A'1 n'1 c'1))
     (first | exact ⟨h0, h1, h2, g0, g1, g2⟩ | exact ⟨(hb1.cell hb).trans h0, (hb1.cell hb).trans h1, (hb1.cell hb).trans h2, (hb1.cell hb').trans g0, (hb1.cell hb').trans g1, (hb1.cell hb').trans g2⟩)
     (first | (go_at_call 111; refine (eqRepo_any (x := x[k]) (y := y[k]) _ ⟨A0, n0, c0, f0, A1, n1, c1, f1, rfl, rfl, (hs0.keep fun _ _ => by rfl), (hs1.keep fun _ _ => by rfl)⟩ ⟨A'0, n'0, c'0, f'0, A'1, n'1, c'1, f'1, rfl, rfl, (hs'0.keep fun _ _ => by rfl), (hs'1.keep fun _ _ => by rfl)⟩).mono ?_; rintro e w1 ⟨rfl, hb1⟩))
    have hB : Below w.heap.size w w1 := hbl.drew.trans (hb1.mono hbl.size)
    clear hb1 h0 h1 h2 g0 g1 g2
    cases hd : decide (x[k] = y[k])
    ·have HN := hide (agree_not hlt hlt' (by simpa using hd))
     clear hd
     go_wp2
     go_ret
     exact ⟨ret_bool (by simpa using HN.out), hB⟩
    ·have HN := hide (agree_next hag hlt hlt' (by simpa using hd))
     clear hd
     go_wp2
     refine ⟨⟨k + 1, by omega, by go_num, HN.out, hB⟩, by simp [intOf]; omega⟩
   ·have hk' : k = x.length := by omega
    subst hk'
    go_wp2
    go_ret
    exact ⟨ret_bool (by simpa using agree_all hag HL.out), hbl⟩
 ·have e0 : ((x.length : Int) != y.length) = true := by simp; omega
  have HN := hide (ne_of_length hl)
  clear hl
  go_enter Tryz.func51, Tryz.ntmps51
  go_wp2
  go_ret
  exact ⟨ret_bool (by simpa using HN.out), Below.refl _ _⟩

set_option maxHeartbeats 2000000 in
theorem eqHouse_any {cs cs' : List Value} {x y : House} {fx fy : List Nat} (w : World) (hx : Rp.house.R w cs x fx) (hy : Rp.house.R w cs' y fy) :
  Calls Tryz.prog 12 #[.agg cs.toArray, .agg cs'.toArray] w fun e w' => e = .returned (.bool (decide (x = y))) ∧ Below w.heap.size w w' := by
 obtain ⟨A0, n0, c0, f0, A1, n1, c1, f1, A2, n2, c2, f2, rfl, _, h0, h1, h2⟩ := hx
 obtain ⟨Ay0, ny0, cy0, fy0, Ay1, ny1, cy1, fy1, Ay2, ny2, cy2, fy2, rfl, _, g0, g1, g2⟩ := hy
 obtain ⟨a0, a1, a2⟩ := x
 obtain ⟨d0, d1, d2⟩ := y
 simp only at h0 g0 h1 g1 h2 g2
 simp only [House.mk.injEq]
 go_enter Tryz.func12, Tryz.ntmps12
 go_wp2_with fail
 all_goals try (go_ret; exact ⟨ret_bool (by simp_all [beq_toListBytes']), (by repeat (first | exact Below.refl _ _ | assumption | refine Below.alloc ?_ (by simp <;> omega) _ | refine Below.drew ?_))⟩)
 refine (eqIntS_any (x := a0) (y := d0) _ (by exact ((h0.allocN _).allocN _)) (by exact ((g0.allocN _).allocN _))).mono ?_
 rintro e w1 ⟨rfl, hb1⟩
 obtain ⟨hcc1, hff1⟩ := bcell hb1
 have hz1 : w.heap.size + 1 < w1.heap.size := by have := hb1.size; simp at this; omega
 have hy1 : w.heap.size < w1.heap.size := by omega
 cases hd1 : decide (a0 = d0)
 ·have hne1 := of_decide_eq_false hd1
  clear hd1
  have HN := hide hne1; clear hne1
  go_wp2
  go_ret; exact ⟨ret_bool (by have := HN.out; simp [this]), (Below.box2 hb1)⟩
 have he1 : a0 = d0 := of_decide_eq_true hd1
 clear hd1
 have HE1 := hide he1; clear he1
 go_wp2_with fail
 all_goals try (go_ret; exact ⟨ret_bool (by simp_all [beq_toListBytes']), (Below.box2 hb1)⟩)
 refine (eqIntS_any (x := a1) (y := d1) _ (by exact (((h1.allocN _).allocN _).step hb1)) (by exact (((g1.allocN _).allocN _).step hb1))).mono ?_
 rintro e w2 ⟨rfl, hb2⟩
 obtain ⟨hcc2, hff2⟩ := bcell hb2
 have hz2 : w.heap.size + 1 < w2.heap.size := by have := hb2.size; omega
 have hy2 : w.heap.size < w2.heap.size := by omega
 cases hd2 : decide (a1 = d1)
 ·have hne2 := of_decide_eq_false hd2
  clear hd2
  have HN := hide hne2; clear hne2
  go_wp2
  go_ret; exact ⟨ret_bool (by have := HN.out; simp [this]), (Below.t (Below.box2 hb1) hb2)⟩
 have he2 : a1 = d1 := of_decide_eq_true hd2
 clear hd2
 have HE2 := hide he2; clear he2
 go_wp2_with fail
 all_goals try (go_ret; exact ⟨ret_bool (by simp_all [beq_toListBytes']), (Below.t (Below.box2 hb1) hb2)⟩)
 refine (eqRepoS_any (x := a2) (y := d2) _ (by exact ((((h2.allocN _).allocN _).step hb1).step hb2)) (by exact ((((g2.allocN _).allocN _).step hb1).step hb2))).mono ?_
 rintro e w3 ⟨rfl, hb3⟩
 obtain ⟨hcc3, hff3⟩ := bcell hb3
 have hz3 : w.heap.size + 1 < w3.heap.size := by have := hb3.size; omega
 have hy3 : w.heap.size < w3.heap.size := by omega
 cases hd3 : decide (a2 = d2)
 ·have hne3 := of_decide_eq_false hd3
  clear hd3
  have HN := hide hne3; clear hne3
  go_wp2
  go_ret; exact ⟨ret_bool (by have := HN.out; simp [this]), (Below.t (Below.t (Below.box2 hb1) hb2) hb3)⟩
 have he3 : a2 = d2 := of_decide_eq_true hd3
 clear hd3
 have HE3 := hide he3; clear he3
 go_wp2
 all_goals (go_ret; exact ⟨ret_bool (by have q1 := HE1.out; have q2 := HE2.out; have q3 := HE3.out; simp_all [beq_toListBytes']), (Below.t (Below.t (Below.box2 hb1) hb2) hb3)⟩)

set_option maxHeartbeats 2000000 in
theorem eqAns_any {cs cs' : List Value} {x y : Ans} {fx fy : List Nat} (w : World) (hx : Rp.ans.R w cs x fx) (hy : Rp.ans.R w cs' y fy) :
  Calls Tryz.prog 13 #[.agg cs.toArray, .agg cs'.toArray] w fun e w' => e = .returned (.bool (decide (x = y))) ∧ Below w.heap.size w w' := by
 obtain ⟨A0, n0, c0, f0, A1, n1, c1, f1, rfl, _, h0, h1⟩ := hx
 obtain ⟨Ay0, ny0, cy0, fy0, Ay1, ny1, cy1, fy1, rfl, _, g0, g1⟩ := hy
 obtain ⟨a0, a1, a2, a3⟩ := x
 obtain ⟨d0, d1, d2, d3⟩ := y
 simp only at h0 g0 h1 g1
 simp only [Ans.mk.injEq]
 go_enter Tryz.func13, Tryz.ntmps13
 go_wp2_with fail
 all_goals try (go_ret; exact ⟨ret_bool (by simp_all [beq_toListBytes']), (by repeat (first | exact Below.refl _ _ | assumption | refine Below.alloc ?_ (by simp <;> omega) _ | refine Below.drew ?_))⟩)
 refine (eqFileS_any (x := a1) (y := d1) _ (by exact ((h0.allocN _).allocN _)) (by exact ((g0.allocN _).allocN _))).mono ?_
 rintro e w1 ⟨rfl, hb1⟩
 obtain ⟨hcc1, hff1⟩ := bcell hb1
 have hz1 : w.heap.size + 1 < w1.heap.size := by have := hb1.size; simp at this; omega
 have hy1 : w.heap.size < w1.heap.size := by omega
 cases hd1 : decide (a1 = d1)
 ·have hne1 := of_decide_eq_false hd1
  clear hd1
  have HN := hide hne1; clear hne1
  go_wp2
  go_ret; exact ⟨ret_bool (by have := HN.out; simp [this]), (Below.box2 hb1)⟩
 have he1 : a1 = d1 := of_decide_eq_true hd1
 clear hd1
 have HE1 := hide he1; clear he1
 go_wp2_with fail
 all_goals try (go_ret; exact ⟨ret_bool (by simp_all [beq_toListBytes']), (Below.box2 hb1)⟩)
 refine (eqStrS_any (x := a2) (y := d2) _ (by exact (((h1.allocN _).allocN _).step hb1)) (by exact (((g1.allocN _).allocN _).step hb1))).mono ?_
 rintro e w2 ⟨rfl, hb2⟩
 obtain ⟨hcc2, hff2⟩ := bcell hb2
 have hz2 : w.heap.size + 1 < w2.heap.size := by have := hb2.size; omega
 have hy2 : w.heap.size < w2.heap.size := by omega
 cases hd2 : decide (a2 = d2)
 ·have hne2 := of_decide_eq_false hd2
  clear hd2
  have HN := hide hne2; clear hne2
  go_wp2
  go_ret; exact ⟨ret_bool (by have := HN.out; simp [this]), (Below.t (Below.box2 hb1) hb2)⟩
 have he2 : a2 = d2 := of_decide_eq_true hd2
 clear hd2
 have HE2 := hide he2; clear he2
 go_wp2
 all_goals (go_ret; exact ⟨ret_bool (by have q1 := HE1.out; have q2 := HE2.out; simp_all [beq_toListBytes']), (Below.t (Below.box2 hb1) hb2)⟩)

set_option maxHeartbeats 1000000 in
theorem eqEdit_any (x y : Edit) (w : World) :
  Calls Tryz.prog 112 #[.agg (encEdit x).toArray, .agg (encEdit y).toArray] w fun e w' => e = .returned (.bool (decide (x = y))) ∧ Below w.heap.size w w' := by
 obtain ⟨a0, a1, a2⟩ := x
 obtain ⟨d0, d1, d2⟩ := y
 unfold encEdit
 go_enter Tryz.func112, Tryz.ntmps112
 go_wp2
 all_goals
  go_ret
  exact ⟨ret_bool (by simp_all [beq_toListBytes']), (by repeat (first | exact Below.refl _ _ | assumption | refine Below.alloc ?_ (by simp <;> omega) _ | refine Below.drew ?_))⟩

set_option maxHeartbeats 1000000 in
theorem eqEditS_any {A A' : Option Addr} {n n' c c' : Nat} {x y : List (Edit)} {fx fy : List Nat} (w : World) (hx : SlR Rp.edit w A n c x fx) (hy : SlR Rp.edit w A' n' c' y fy) :
  Calls Tryz.prog 53 #[.slice A n c, .slice A' n' c'] w fun e w' => e = .returned (.bool (decide (x = y))) ∧ Below w.heap.size w w' := by
 obtain ⟨rfl, hcx, hmx, _⟩ := id hx
 obtain ⟨rfl, hcy, hmy, _⟩ := id hy
 unfold maxLen at hmx hmy
 by_cases hl : x.length = y.length
 ·have e0 : ((x.length : Int) != y.length) = false := by simp [hl]
  have HL := hide hl
  clear hl
  go_enter Tryz.func53, Tryz.ntmps53
  go_wp2
  go_loopw [5] (fun i wr => ∃ k : Nat, k ≤ x.length ∧ i = .int .i64 k ∧ agree x y k ∧ Below w.heap.size w wr) (fun i _ => x.length - (intOf i).toNat)
  case atStart => exact ⟨0, Nat.zero_le _, rfl, rfl, Below.refl _ _⟩
  case round =>
   obtain ⟨k, hk, rfl, hag, hbl⟩ := hrel
   by_cases hlt : k < x.length
   ·obtain ⟨b, o, rfl, hb, hm, h0, h1, h2⟩ := edit_cells (hx.below hbl nle) hlt
    obtain ⟨b', o', rfl, hb', hm', g0, g1, g2⟩ := edit_cells (hy.below hbl nle) (i := k) (by have := HL.out; omega)
    have hlt' : k < y.length := by have := HL.out; omega
    go_wp2_with fail
    go_region_held3 (fun w' => w'.cell? ⟨b, o + k * 3, none⟩ = some (.string x[k].path) ∧ w'.cell? ⟨b, o + k * 3 + 1, none⟩ = some (.string x[k].bytes) ∧ w'.cell? ⟨b, o + k * 3 + 2, none⟩ = some (.bool x[k].gone) ∧ w'.cell? ⟨b', o' + k * 3, none⟩ = some (.string y[k].path) ∧ w'.cell? ⟨b', o' + k * 3 + 1, none⟩ = some (.string y[k].bytes) ∧ w'.cell? ⟨b', o' + k * 3 + 2, none⟩ = some (.bool y[k].gone))
     (first | exact ⟨h0, h1, h2, g0, g1, g2⟩ | exact ⟨(hb1.cell hb).trans h0, (hb1.cell hb).trans h1, (hb1.cell hb).trans h2, (hb1.cell hb').trans g0, (hb1.cell hb').trans g1, (hb1.cell hb').trans g2⟩)
     (first | (go_at_call 112; refine (eqEdit_any x[k] y[k] _).mono ?_; rintro e w1 ⟨rfl, hb1⟩))
    have hB : Below w.heap.size w w1 := hbl.drew.trans (hb1.mono hbl.size)
    clear hb1 h0 h1 h2 g0 g1 g2
    cases hd : decide (x[k] = y[k])
    ·have HN := hide (agree_not hlt hlt' (by simpa using hd))
     clear hd
     go_wp2
     go_ret
     exact ⟨ret_bool (by simpa using HN.out), hB⟩
    ·have HN := hide (agree_next hag hlt hlt' (by simpa using hd))
     clear hd
     go_wp2
     refine ⟨⟨k + 1, by omega, by go_num, HN.out, hB⟩, by simp [intOf]; omega⟩
   ·have hk' : k = x.length := by omega
    subst hk'
    go_wp2
    go_ret
    exact ⟨ret_bool (by simpa using agree_all hag HL.out), hbl⟩
 ·have e0 : ((x.length : Int) != y.length) = true := by simp; omega
  have HN := hide (ne_of_length hl)
  clear hl
  go_enter Tryz.func53, Tryz.ntmps53
  go_wp2
  go_ret
  exact ⟨ret_bool (by simpa using HN.out), Below.refl _ _⟩

set_option maxHeartbeats 2000000 in
theorem eqReq_any {cs cs' : List Value} {x y : Req} {fx fy : List Nat} (w : World) (hx : Rp.req.R w cs x fx) (hy : Rp.req.R w cs' y fy) :
  Calls Tryz.prog 14 #[.agg cs.toArray, .agg cs'.toArray] w fun e w' => e = .returned (.bool (decide (x = y))) ∧ Below w.heap.size w w' := by
 obtain ⟨A0, n0, c0, f0, rfl, _, h0⟩ := hx
 obtain ⟨Ay0, ny0, cy0, fy0, rfl, _, g0⟩ := hy
 obtain ⟨a0, a1, a2, a3, a4, a5, a6, a7, a8, a9, a10, a11⟩ := x
 obtain ⟨d0, d1, d2, d3, d4, d5, d6, d7, d8, d9, d10, d11⟩ := y
 simp only at h0 g0
 simp only [Req.mk.injEq]
 go_enter Tryz.func14, Tryz.ntmps14
 go_wp2_with fail
 all_goals try (go_ret; exact ⟨ret_bool (by simp_all [beq_toListBytes']), (by repeat (first | exact Below.refl _ _ | assumption | refine Below.alloc ?_ (by simp <;> omega) _ | refine Below.drew ?_))⟩)
 refine (eqEditS_any (x := a8) (y := d8) _ (by exact ((h0.allocN _).allocN _)) (by exact ((g0.allocN _).allocN _))).mono ?_
 rintro e w1 ⟨rfl, hb1⟩
 obtain ⟨hcc1, hff1⟩ := bcell hb1
 have hz1 : w.heap.size + 1 < w1.heap.size := by have := hb1.size; simp at this; omega
 have hy1 : w.heap.size < w1.heap.size := by omega
 cases hd1 : decide (a8 = d8)
 ·have hne1 := of_decide_eq_false hd1
  clear hd1
  have HN := hide hne1; clear hne1
  go_wp2
  go_ret; exact ⟨ret_bool (by have := HN.out; simp [this]), (Below.box2 hb1)⟩
 have he1 : a8 = d8 := of_decide_eq_true hd1
 clear hd1
 have HE1 := hide he1; clear he1
 go_wp2_with fail
 all_goals try (go_ret; exact ⟨ret_bool (by simp_all [beq_toListBytes']), (Below.box2 hb1)⟩)
 refine (eqRule_any a9 d9 _).mono ?_
 rintro e w2 ⟨rfl, hb2⟩
 obtain ⟨hcc2, hff2⟩ := bcell hb2
 have hz2 : w.heap.size + 1 < w2.heap.size := by have := hb2.size; omega
 have hy2 : w.heap.size < w2.heap.size := by omega
 cases hd2 : decide (a9 = d9)
 ·have hne2 := of_decide_eq_false hd2
  clear hd2
  have HN := hide hne2; clear hne2
  go_wp2
  go_ret; exact ⟨ret_bool (by have := HN.out; simp [this]), (Below.t (Below.box2 hb1) hb2)⟩
 have he2 : a9 = d9 := of_decide_eq_true hd2
 clear hd2
 have HE2 := hide he2; clear he2
 go_wp2
 all_goals (go_ret; exact ⟨ret_bool (by have q1 := HE1.out; have q2 := HE2.out; simp_all [beq_toListBytes']), (Below.t (Below.box2 hb1) hb2)⟩)

set_option maxHeartbeats 400000 in
theorem szIntS_any (A : Option Addr) (n c : Nat) (left : Int) (h1 : n ≤ 9223372036854775807) (h2 : 0 ≤ left) (h3 : left ≤ 2000000) (w : World) :
  Calls Tryz.prog 27 #[.slice A n c, .int .i64 left] w fun e w' => e = .returned (.int .i64 (lessLen left n)) ∧ w = w' := by
 go_enter Tryz.func27, Tryz.ntmps27
 go_wp2
 ·go_ret
  exact ⟨ret_int (by unfold lessLen; rw [if_pos (by assumption)]), rfl⟩
 ·go_ret
  exact ⟨ret_int (by unfold lessLen; rw [if_neg (by omega)]), rfl⟩

set_option maxHeartbeats 1000000 in
theorem szRule_any (x : Rule) (left : Int) (hw : wideRule x) (h2 : 0 ≤ left) (h3 : left ≤ 2000000) (w : World) :
  Calls Tryz.prog 30 #[.agg (encRule x).toArray, .int .i64 left] w fun e w' => e = .returned (.int .i64 (lessLen left (szRule x))) ∧ Below w.heap.size w w' := by
 unfold encRule
 have hww := hw; simp only [wideRule] at hww
 obtain ⟨hw0, hw1⟩ := hww
 go_enter Tryz.func30, Tryz.ntmps30
 go_wp2
 all_goals first
  | (go_ret; exact ⟨ret_int (lessLen_no (by simp only [szRule]; omega)).symm, (by repeat (first | exact Below.refl _ _ | assumption | refine Below.alloc ?_ (by simp <;> omega) _ | refine Below.drew ?_))⟩)
  | (go_ret; exact ⟨ret_int ((lessLen_yes (by simp only [szRule]; omega)).trans (by simp only [szRule]; omega)).symm, (by repeat (first | exact Below.refl _ _ | assumption | refine Below.alloc ?_ (by simp <;> omega) _ | refine Below.drew ?_))⟩)

set_option maxHeartbeats 1000000 in
theorem szRuleS_any {A : Option Addr} {n c : Nat} {x : List (Rule)} {fx : List Nat} (left : Int) (hw : (∀ y ∈ x, wideRule y)) (h2 : 0 ≤ left) (h3 : left ≤ 2000000) (w : World) (hx : SlR Rp.rule w A n c x fx) :
  Calls Tryz.prog 122 #[.slice A n c, .int .i64 left] w fun e w' => e = .returned (.int .i64 (lessLen left (szL szRule x))) ∧ Below w.heap.size w w' := by
 obtain ⟨rfl, hcx, hmx, _⟩ := id hx
 unfold maxLen at hmx
 by_cases hneg : left - (x.length : Int) < 0
 ·go_enter Tryz.func122, Tryz.ntmps122
  go_wp2
  go_ret
  exact ⟨ret_int (lessLen_no (by unfold szL; omega)).symm, Below.refl _ _⟩
 ·have hneg' : (x.length : Int) ≤ left := by omega
  have hdec : decide (left - (x.length : Int) < 0) = false := by simp; omega
  go_enter Tryz.func122, Tryz.ntmps122
  go_wp2
  go_loopw [1, 5] (fun l i wr => ∃ (k : Nat) (lk : Int), k ≤ x.length ∧ i = .int .i64 k ∧ l = .int .i64 lk ∧ LessTo szRule x left k lk ∧ Below w.heap.size w wr) (fun _ i _ => x.length - (intOf i).toNat)
  case atStart => exact ⟨0, _, Nat.zero_le _, rfl, rfl, LessTo.zero hneg', Below.refl _ _⟩
  case round =>
   obtain ⟨k, lk, hk, rfl, rfl, hl, hbl⟩ := hrel
   have hl0 := hl.low
   have hlk := hl.high h3
   have HL := hide hl
   clear hl
   by_cases hlt : k < x.length
   ·obtain ⟨b, o, rfl, hb, hm, h0, h1, h2, h3⟩ := rule_cells (hx.below hbl nle) hlt
    go_wp2_with fail
    refine (szRule_any x[k] _ (hw _ (List.getElem_mem hlt)) hl0 hlk _).mono ?_
    rintro e w1 ⟨rfl, hb1⟩
    have hB := hbl.trans (hb1.mono hbl.size)
    by_cases hq : lk - ((szRule x[k] : Nat) : Int) < 0
    ·rw [lessLen_no hq]
     go_wp2
     go_ret
     exact ⟨ret_int (HL.out.no_ hlt hq).symm, hB⟩
    ·rw [lessLen_yes hq]
     have hq' : ((szRule x[k] : Nat) : Int) ≤ lk := by omega
     go_wp2
     refine ⟨⟨k + 1, _, by omega, by go_num, rfl, HL.out.next hlt hq', hB⟩, by simp [intOf]; omega⟩
   ·have hk' : k = x.length := by omega
    subst hk'
    go_wp2
    go_ret
    exact ⟨ret_int HL.out.all_, hbl⟩

set_option maxHeartbeats 1000000 in
theorem szFile_any (x : File) (left : Int) (hw : wideFile x) (h2 : 0 ≤ left) (h3 : left ≤ 2000000) (w : World) :
  Calls Tryz.prog 201 #[.agg (encFile x).toArray, .int .i64 left] w fun e w' => e = .returned (.int .i64 (lessLen left (szFile x))) ∧ Below w.heap.size w w' := by
 unfold encFile
 have hww := hw; simp only [wideFile] at hww
 obtain ⟨hw0, hw1⟩ := hww
 go_enter Tryz.func201, Tryz.ntmps201
 go_wp2
 all_goals first
  | (go_ret; exact ⟨ret_int (lessLen_no (by simp only [szFile]; omega)).symm, (by repeat (first | exact Below.refl _ _ | assumption | refine Below.alloc ?_ (by simp <;> omega) _ | refine Below.drew ?_))⟩)
  | (go_ret; exact ⟨ret_int ((lessLen_yes (by simp only [szFile]; omega)).trans (by simp only [szFile]; omega)).symm, (by repeat (first | exact Below.refl _ _ | assumption | refine Below.alloc ?_ (by simp <;> omega) _ | refine Below.drew ?_))⟩)

set_option maxHeartbeats 1000000 in
theorem szFileS_any {A : Option Addr} {n c : Nat} {x : List (File)} {fx : List Nat} (left : Int) (hw : (∀ y ∈ x, wideFile y)) (h2 : 0 ≤ left) (h3 : left ≤ 2000000) (w : World) (hx : SlR Rp.file w A n c x fx) :
  Calls Tryz.prog 191 #[.slice A n c, .int .i64 left] w fun e w' => e = .returned (.int .i64 (lessLen left (szL szFile x))) ∧ Below w.heap.size w w' := by
 obtain ⟨rfl, hcx, hmx, _⟩ := id hx
 unfold maxLen at hmx
 by_cases hneg : left - (x.length : Int) < 0
 ·go_enter Tryz.func191, Tryz.ntmps191
  go_wp2
  go_ret
  exact ⟨ret_int (lessLen_no (by unfold szL; omega)).symm, Below.refl _ _⟩
 ·have hneg' : (x.length : Int) ≤ left := by omega
  have hdec : decide (left - (x.length : Int) < 0) = false := by simp; omega
  go_enter Tryz.func191, Tryz.ntmps191
  go_wp2
  go_loopw [1, 5] (fun l i wr => ∃ (k : Nat) (lk : Int), k ≤ x.length ∧ i = .int .i64 k ∧ l = .int .i64 lk ∧ LessTo szFile x left k lk ∧ Below w.heap.size w wr) (fun _ i _ => x.length - (intOf i).toNat)
  case atStart => exact ⟨0, _, Nat.zero_le _, rfl, rfl, LessTo.zero hneg', Below.refl _ _⟩
  case round =>
   obtain ⟨k, lk, hk, rfl, rfl, hl, hbl⟩ := hrel
   have hl0 := hl.low
   have hlk := hl.high h3
   have HL := hide hl
   clear hl
   by_cases hlt : k < x.length
   ·obtain ⟨b, o, rfl, hb, hm, h0, h1⟩ := file_cells (hx.below hbl nle) hlt
    go_wp2_with fail
    refine (szFile_any x[k] _ (hw _ (List.getElem_mem hlt)) hl0 hlk _).mono ?_
    rintro e w1 ⟨rfl, hb1⟩
    have hB := hbl.trans (hb1.mono hbl.size)
    by_cases hq : lk - ((szFile x[k] : Nat) : Int) < 0
    ·rw [lessLen_no hq]
     go_wp2
     go_ret
     exact ⟨ret_int (HL.out.no_ hlt hq).symm, hB⟩
    ·rw [lessLen_yes hq]
     have hq' : ((szFile x[k] : Nat) : Int) ≤ lk := by omega
     go_wp2
     refine ⟨⟨k + 1, _, by omega, by go_num, rfl, HL.out.next hlt hq', hB⟩, by simp [intOf]; omega⟩
   ·have hk' : k = x.length := by omega
    subst hk'
    go_wp2
    go_ret
    exact ⟨ret_int HL.out.all_, hbl⟩

set_option maxHeartbeats 1000000 in
theorem szFileSS_any {A : Option Addr} {n c : Nat} {x : List (List (File))} {fx : List Nat} (left : Int) (hw : (∀ y ∈ x, (∀ y' ∈ y, wideFile y'))) (h2 : 0 ≤ left) (h3 : left ≤ 2000000) (w : World) (hx : SlR (Rp.slice Rp.file) w A n c x fx) :
  Calls Tryz.prog 179 #[.slice A n c, .int .i64 left] w fun e w' => e = .returned (.int .i64 (lessLen left (szL (fun y => szL szFile y) x))) ∧ Below w.heap.size w w' := by
 obtain ⟨rfl, hcx, hmx, _⟩ := id hx
 unfold maxLen at hmx
 by_cases hneg : left - (x.length : Int) < 0
 ·go_enter Tryz.func179, Tryz.ntmps179
  go_wp2
  go_ret
  exact ⟨ret_int (lessLen_no (by unfold szL; omega)).symm, Below.refl _ _⟩
 ·have hneg' : (x.length : Int) ≤ left := by omega
  have hdec : decide (left - (x.length : Int) < 0) = false := by simp; omega
  go_enter Tryz.func179, Tryz.ntmps179
  go_wp2
  go_loopw [1, 5] (fun l i wr => ∃ (k : Nat) (lk : Int), k ≤ x.length ∧ i = .int .i64 k ∧ l = .int .i64 lk ∧ LessTo (fun y => szL szFile y) x left k lk ∧ Below w.heap.size w wr) (fun _ i _ => x.length - (intOf i).toNat)
  case atStart => exact ⟨0, _, Nat.zero_le _, rfl, rfl, LessTo.zero hneg', Below.refl _ _⟩
  case round =>
   obtain ⟨k, lk, hk, rfl, rfl, hl, hbl⟩ := hrel
   have hl0 := hl.low
   have hlk := hl.high h3
   have HL := hide hl
   clear hl
   by_cases hlt : k < x.length
   ·obtain ⟨b, o, A0, n0, c0, f0, rfl, hb, hm, h0, hs0, hsub⟩ := slice_cells (hx.below hbl nle) hlt
    go_wp2_with fail
    refine (szFileS_any _ (hw _ (List.getElem_mem hlt)) hl0 hlk _ (by exact hs0)).mono ?_
    rintro e w1 ⟨rfl, hb1⟩
    have hB := hbl.trans (hb1.mono hbl.size)
    by_cases hq : lk - ((szL szFile x[k] : Nat) : Int) < 0
    ·rw [lessLen_no hq]
     go_wp2
     go_ret
     exact ⟨ret_int (HL.out.no_ hlt hq).symm, hB⟩
    ·rw [lessLen_yes hq]
     have hq' : ((szL szFile x[k] : Nat) : Int) ≤ lk := by omega
     go_wp2
     refine ⟨⟨k + 1, _, by omega, by go_num, rfl, HL.out.next hlt hq', hB⟩, by simp [intOf]; omega⟩
   ·have hk' : k = x.length := by omega
    subst hk'
    go_wp2
    go_ret
    exact ⟨ret_int HL.out.all_, hbl⟩

set_option maxHeartbeats 1000000 in
theorem szRef_any {cs : List Value} {x : Ref} {fx : List Nat} (left : Int) (hw : wideRef x) (h2 : 0 ≤ left) (h3 : left ≤ 2000000) (w : World) (hx : Rp.ref.R w cs x fx) :
  Calls Tryz.prog 162 #[.agg cs.toArray, .int .i64 left] w fun e w' => e = .returned (.int .i64 (lessLen left (szRef x))) ∧ Below w.heap.size w w' := by
 obtain ⟨A0, n0, c0, f0, rfl, _, h0⟩ := hx
 have hww := hw; simp only [wideRef] at hww
 obtain ⟨hw0, hw1⟩ := hww
 go_enter Tryz.func162, Tryz.ntmps162
 go_wp2_with fail
 all_goals try (go_ret; exact ⟨ret_int (lessLen_no (by simp only [szRef]; omega)).symm, (by repeat (first | exact Below.refl _ _ | assumption | refine Below.alloc ?_ (by simp <;> omega) _ | refine Below.drew ?_))⟩)
 refine (szFileSS_any _ hw1 (by omega) (by omega) _ (by exact (h0.allocN _))).mono ?_
 rintro e w1 ⟨rfl, hb1⟩
 obtain ⟨hcc1, hff1⟩ := bcell hb1
 have hz1 : w.heap.size < w1.heap.size := by have := hb1.size; simp at this; omega
 by_cases hq1 : (left - (x.name.size : Int)) - ((szL (fun y => szL szFile y) x.versions : Nat) : Int) < 0
 ·rw [lessLen_no hq1]
  go_wp2
  go_ret; exact ⟨ret_int (lessLen_no (by simp only [szRef]; omega)).symm, (Below.box1 hb1)⟩
 rw [lessLen_yes hq1]
 go_wp2
 all_goals first
  | (go_ret; exact ⟨ret_int (lessLen_no (by simp only [szRef]; omega)).symm, (Below.box1 hb1)⟩)
  | (go_ret; exact ⟨ret_int ((lessLen_yes (by simp only [szRef]; omega)).trans (by simp only [szRef]; omega)).symm, (Below.box1 hb1)⟩)

set_option maxHeartbeats 1000000 in
theorem szRefS_any {A : Option Addr} {n c : Nat} {x : List (Ref)} {fx : List Nat} (left : Int) (hw : (∀ y ∈ x, wideRef y)) (h2 : 0 ≤ left) (h3 : left ≤ 2000000) (w : World) (hx : SlR Rp.ref w A n c x fx) :
  Calls Tryz.prog 123 #[.slice A n c, .int .i64 left] w fun e w' => e = .returned (.int .i64 (lessLen left (szL szRef x))) ∧ Below w.heap.size w w' := by
 obtain ⟨rfl, hcx, hmx, _⟩ := id hx
 unfold maxLen at hmx
 by_cases hneg : left - (x.length : Int) < 0
 ·go_enter Tryz.func123, Tryz.ntmps123
  go_wp2
  go_ret
  exact ⟨ret_int (lessLen_no (by unfold szL; omega)).symm, Below.refl _ _⟩
 ·have hneg' : (x.length : Int) ≤ left := by omega
  have hdec : decide (left - (x.length : Int) < 0) = false := by simp; omega
  go_enter Tryz.func123, Tryz.ntmps123
  go_wp2
  go_loopw [1, 5] (fun l i wr => ∃ (k : Nat) (lk : Int), k ≤ x.length ∧ i = .int .i64 k ∧ l = .int .i64 lk ∧ LessTo szRef x left k lk ∧ Below w.heap.size w wr) (fun _ i _ => x.length - (intOf i).toNat)
  case atStart => exact ⟨0, _, Nat.zero_le _, rfl, rfl, LessTo.zero hneg', Below.refl _ _⟩
  case round =>
   obtain ⟨k, lk, hk, rfl, rfl, hl, hbl⟩ := hrel
   have hl0 := hl.low
   have hlk := hl.high h3
   have HL := hide hl
   clear hl
   by_cases hlt : k < x.length
   ·obtain ⟨b, o, A0, n0, c0, f0, rfl, hb, hm, h0, h1, h2, h3, hs0, hsub⟩ := ref_cells (hx.below hbl nle) hlt
    go_wp2_with fail
    refine (szRef_any (x := x[k]) _ (hw _ (List.getElem_mem hlt)) hl0 hlk _ (by exact ⟨A0, n0, c0, f0, rfl, rfl, hs0⟩)).mono ?_
    rintro e w1 ⟨rfl, hb1⟩
    have hB := hbl.trans (hb1.mono hbl.size)
    by_cases hq : lk - ((szRef x[k] : Nat) : Int) < 0
    ·rw [lessLen_no hq]
     go_wp2
     go_ret
     exact ⟨ret_int (HL.out.no_ hlt hq).symm, hB⟩
    ·rw [lessLen_yes hq]
     have hq' : ((szRef x[k] : Nat) : Int) ≤ lk := by omega
     go_wp2
     refine ⟨⟨k + 1, _, by omega, by go_num, rfl, HL.out.next hlt hq', hB⟩, by simp [intOf]; omega⟩
   ·have hk' : k = x.length := by omega
    subst hk'
    go_wp2
    go_ret
    exact ⟨ret_int HL.out.all_, hbl⟩

set_option maxHeartbeats 1000000 in
theorem szRepo_any {cs : List Value} {x : Repo} {fx : List Nat} (left : Int) (hw : wideRepo x) (h2 : 0 ≤ left) (h3 : left ≤ 2000000) (w : World) (hx : Rp.repo.R w cs x fx) :
  Calls Tryz.prog 71 #[.agg cs.toArray, .int .i64 left] w fun e w' => e = .returned (.int .i64 (lessLen left (szRepo x))) ∧ Below w.heap.size w w' := by
 obtain ⟨A0, n0, c0, f0, A1, n1, c1, f1, rfl, _, h0, h1⟩ := hx
 have hww := hw; simp only [wideRepo] at hww
 obtain ⟨hw0, hw1⟩ := hww
 go_enter Tryz.func71, Tryz.ntmps71
 go_wp2_with fail
 all_goals try (go_ret; exact ⟨ret_int (lessLen_no (by simp only [szRepo]; omega)).symm, (by repeat (first | exact Below.refl _ _ | assumption | refine Below.alloc ?_ (by simp <;> omega) _ | refine Below.drew ?_))⟩)
 refine (szRuleS_any _ hw0 (by omega) (by omega) _ (by exact (h0.allocN _))).mono ?_
 rintro e w1 ⟨rfl, hb1⟩
 obtain ⟨hcc1, hff1⟩ := bcell hb1
 have hz1 : w.heap.size < w1.heap.size := by have := hb1.size; simp at this; omega
 by_cases hq1 : left - ((szL szRule x.rules : Nat) : Int) < 0
 ·rw [lessLen_no hq1]
  go_wp2
  go_ret; exact ⟨ret_int (lessLen_no (by simp only [szRepo]; omega)).symm, (Below.box1 hb1)⟩
 rw [lessLen_yes hq1]
 go_wp2_with fail
 all_goals try (go_ret; exact ⟨ret_int (lessLen_no (by simp only [szRepo]; omega)).symm, (Below.box1 hb1)⟩)
 refine (szRefS_any _ hw1 (by omega) (by omega) _ (by exact ((h1.allocN _).step hb1))).mono ?_
 rintro e w2 ⟨rfl, hb2⟩
 obtain ⟨hcc2, hff2⟩ := bcell hb2
 have hz2 : w.heap.size < w2.heap.size := by have := hb2.size; omega
 by_cases hq2 : (left - ((szL szRule x.rules : Nat) : Int)) - ((szL szRef x.refs : Nat) : Int) < 0
 ·rw [lessLen_no hq2]
  go_wp2
  go_ret; exact ⟨ret_int (lessLen_no (by simp only [szRepo]; omega)).symm, (Below.t (Below.box1 hb1) hb2)⟩
 rw [lessLen_yes hq2]
 go_wp2
 all_goals first
  | (go_ret; exact ⟨ret_int (lessLen_no (by simp only [szRepo]; omega)).symm, (Below.t (Below.box1 hb1) hb2)⟩)
  | (go_ret; exact ⟨ret_int ((lessLen_yes (by simp only [szRepo]; omega)).trans (by simp only [szRepo]; omega)).symm, (Below.t (Below.box1 hb1) hb2)⟩)

set_option maxHeartbeats 1000000 in
theorem szRepoS_any {A : Option Addr} {n c : Nat} {x : List (Repo)} {fx : List Nat} (left : Int) (hw : (∀ y ∈ x, wideRepo y)) (h2 : 0 ≤ left) (h3 : left ≤ 2000000) (w : World) (hx : SlR Rp.repo w A n c x fx) :
  Calls Tryz.prog 28 #[.slice A n c, .int .i64 left] w fun e w' => e = .returned (.int .i64 (lessLen left (szL szRepo x))) ∧ Below w.heap.size w w' := by
 obtain ⟨rfl, hcx, hmx, _⟩ := id hx
 unfold maxLen at hmx
 by_cases hneg : left - (x.length : Int) < 0
 ·go_enter Tryz.func28, Tryz.ntmps28
  go_wp2
  go_ret
  exact ⟨ret_int (lessLen_no (by unfold szL; omega)).symm, Below.refl _ _⟩
 ·have hneg' : (x.length : Int) ≤ left := by omega
  have hdec : decide (left - (x.length : Int) < 0) = false := by simp; omega
  go_enter Tryz.func28, Tryz.ntmps28
  go_wp2
  go_loopw [1, 5] (fun l i wr => ∃ (k : Nat) (lk : Int), k ≤ x.length ∧ i = .int .i64 k ∧ l = .int .i64 lk ∧ LessTo szRepo x left k lk ∧ Below w.heap.size w wr) (fun _ i _ => x.length - (intOf i).toNat)
  case atStart => exact ⟨0, _, Nat.zero_le _, rfl, rfl, LessTo.zero hneg', Below.refl _ _⟩
  case round =>
   obtain ⟨k, lk, hk, rfl, rfl, hl, hbl⟩ := hrel
   have hl0 := hl.low
   have hlk := hl.high h3
   have HL := hide hl
   clear hl
   by_cases hlt : k < x.length
   ·obtain ⟨b, o, A0, n0, c0, f0, A1, n1, c1, f1, rfl, hb, hm, h0, h1, h2, hs0, hs1, hsub⟩ := repo_cells (hx.below hbl nle) hlt
    go_wp2_with fail
    refine (szRepo_any (x := x[k]) _ (hw _ (List.getElem_mem hlt)) hl0 hlk _ (by exact ⟨A0, n0, c0, f0, A1, n1, c1, f1, rfl, rfl, hs0, hs1⟩)).mono ?_
    rintro e w1 ⟨rfl, hb1⟩
    have hB := hbl.trans (hb1.mono hbl.size)
    by_cases hq : lk - ((szRepo x[k] : Nat) : Int) < 0
    ·rw [lessLen_no hq]
     go_wp2
     go_ret
     exact ⟨ret_int (HL.out.no_ hlt hq).symm, hB⟩
    ·rw [lessLen_yes hq]
     have hq' : ((szRepo x[k] : Nat) : Int) ≤ lk := by omega
     go_wp2
     refine ⟨⟨k + 1, _, by omega, by go_num, rfl, HL.out.next hlt hq', hB⟩, by simp [intOf]; omega⟩
   ·have hk' : k = x.length := by omega
    subst hk'
    go_wp2
    go_ret
    exact ⟨ret_int HL.out.all_, hbl⟩

set_option maxHeartbeats 1000000 in
theorem szHouse_any {cs : List Value} {x : House} {fx : List Nat} (left : Int) (hw : wideHouse x) (h2 : 0 ≤ left) (h3 : left ≤ 2000000) (w : World) (hx : Rp.house.R w cs x fx) :
  Calls Tryz.prog 6 #[.agg cs.toArray, .int .i64 left] w fun e w' => e = .returned (.int .i64 (lessLen left (szHouse x))) ∧ Below w.heap.size w w' := by
 obtain ⟨A0, n0, c0, f0, A1, n1, c1, f1, A2, n2, c2, f2, rfl, _, h0, h1, h2⟩ := hx
 have hww := hw; simp only [wideHouse] at hww
 have hw0 := hww; clear hww
 go_enter Tryz.func6, Tryz.ntmps6
 go_wp2_with fail
 all_goals try (go_ret; exact ⟨ret_int (lessLen_no (by simp only [szHouse]; omega)).symm, (by repeat (first | exact Below.refl _ _ | assumption | refine Below.alloc ?_ (by simp <;> omega) _ | refine Below.drew ?_))⟩)
 have hn0 := h0.1
 have hm0 := h0.max
 refine (szIntS_any A0 n0 c0 _ (by omega) (by omega) (by omega) _).mono ?_
 rintro e w1 ⟨rfl, hbq1⟩
 have hb1 := Below.of_eqS hbq1; clear hbq1
 rw [hn0]
 obtain ⟨hcc1, hff1⟩ := bcell hb1
 have hz1 : w.heap.size < w1.heap.size := by have := hb1.size; simp at this; omega
 by_cases hq1 : left - ((x.keys.length : Nat) : Int) < 0
 ·rw [lessLen_no hq1]
  go_wp2
  go_ret; exact ⟨ret_int (lessLen_no (by simp only [szHouse]; omega)).symm, (Below.box1 hb1)⟩
 rw [lessLen_yes hq1]
 go_wp2_with fail
 all_goals try (go_ret; exact ⟨ret_int (lessLen_no (by simp only [szHouse]; omega)).symm, (Below.box1 hb1)⟩)
 have hn1 := h1.1
 have hm1 := h1.max
 refine (szIntS_any A1 n1 c1 _ (by omega) (by omega) (by omega) _).mono ?_
 rintro e w2 ⟨rfl, hbq2⟩
 have hb2 := Below.of_eqS hbq2; clear hbq2
 rw [hn1]
 obtain ⟨hcc2, hff2⟩ := bcell hb2
 have hz2 : w.heap.size < w2.heap.size := by have := hb2.size; omega
 by_cases hq2 : (left - ((x.keys.length : Nat) : Int)) - ((x.used.length : Nat) : Int) < 0
 ·rw [lessLen_no hq2]
  go_wp2
  go_ret; exact ⟨ret_int (lessLen_no (by simp only [szHouse]; omega)).symm, (Below.t (Below.box1 hb1) hb2)⟩
 rw [lessLen_yes hq2]
 go_wp2_with fail
 all_goals try (go_ret; exact ⟨ret_int (lessLen_no (by simp only [szHouse]; omega)).symm, (Below.t (Below.box1 hb1) hb2)⟩)
 refine (szRepoS_any _ hw0 (by omega) (by omega) _ (by exact (((h2.allocN _).step hb1).step hb2))).mono ?_
 rintro e w3 ⟨rfl, hb3⟩
 obtain ⟨hcc3, hff3⟩ := bcell hb3
 have hz3 : w.heap.size < w3.heap.size := by have := hb3.size; omega
 by_cases hq3 : ((left - ((x.keys.length : Nat) : Int)) - ((x.used.length : Nat) : Int)) - ((szL szRepo x.repos : Nat) : Int) < 0
 ·rw [lessLen_no hq3]
  go_wp2
  go_ret; exact ⟨ret_int (lessLen_no (by simp only [szHouse]; omega)).symm, (Below.t (Below.t (Below.box1 hb1) hb2) hb3)⟩
 rw [lessLen_yes hq3]
 go_wp2
 all_goals first
  | (go_ret; exact ⟨ret_int (lessLen_no (by simp only [szHouse]; omega)).symm, (Below.t (Below.t (Below.box1 hb1) hb2) hb3)⟩)
  | (go_ret; exact ⟨ret_int ((lessLen_yes (by simp only [szHouse]; omega)).trans (by simp only [szHouse]; omega)).symm, (Below.t (Below.t (Below.box1 hb1) hb2) hb3)⟩)

set_option maxHeartbeats 1000000 in
theorem szEdit_any (x : Edit) (left : Int) (hw : wideEdit x) (h2 : 0 ≤ left) (h3 : left ≤ 2000000) (w : World) :
  Calls Tryz.prog 72 #[.agg (encEdit x).toArray, .int .i64 left] w fun e w' => e = .returned (.int .i64 (lessLen left (szEdit x))) ∧ Below w.heap.size w w' := by
 unfold encEdit
 have hww := hw; simp only [wideEdit] at hww
 obtain ⟨hw0, hw1⟩ := hww
 go_enter Tryz.func72, Tryz.ntmps72
 go_wp2
 all_goals first
  | (go_ret; exact ⟨ret_int (lessLen_no (by simp only [szEdit]; omega)).symm, (by repeat (first | exact Below.refl _ _ | assumption | refine Below.alloc ?_ (by simp <;> omega) _ | refine Below.drew ?_))⟩)
  | (go_ret; exact ⟨ret_int ((lessLen_yes (by simp only [szEdit]; omega)).trans (by simp only [szEdit]; omega)).symm, (by repeat (first | exact Below.refl _ _ | assumption | refine Below.alloc ?_ (by simp <;> omega) _ | refine Below.drew ?_))⟩)

set_option maxHeartbeats 1000000 in
theorem szEditS_any {A : Option Addr} {n c : Nat} {x : List (Edit)} {fx : List Nat} (left : Int) (hw : (∀ y ∈ x, wideEdit y)) (h2 : 0 ≤ left) (h3 : left ≤ 2000000) (w : World) (hx : SlR Rp.edit w A n c x fx) :
  Calls Tryz.prog 29 #[.slice A n c, .int .i64 left] w fun e w' => e = .returned (.int .i64 (lessLen left (szL szEdit x))) ∧ Below w.heap.size w w' := by
 obtain ⟨rfl, hcx, hmx, _⟩ := id hx
 unfold maxLen at hmx
 by_cases hneg : left - (x.length : Int) < 0
 ·go_enter Tryz.func29, Tryz.ntmps29
  go_wp2
  go_ret
  exact ⟨ret_int (lessLen_no (by unfold szL; omega)).symm, Below.refl _ _⟩
 ·have hneg' : (x.length : Int) ≤ left := by omega
  have hdec : decide (left - (x.length : Int) < 0) = false := by simp; omega
  go_enter Tryz.func29, Tryz.ntmps29
  go_wp2
  go_loopw [1, 5] (fun l i wr => ∃ (k : Nat) (lk : Int), k ≤ x.length ∧ i = .int .i64 k ∧ l = .int .i64 lk ∧ LessTo szEdit x left k lk ∧ Below w.heap.size w wr) (fun _ i _ => x.length - (intOf i).toNat)
  case atStart => exact ⟨0, _, Nat.zero_le _, rfl, rfl, LessTo.zero hneg', Below.refl _ _⟩
  case round =>
   obtain ⟨k, lk, hk, rfl, rfl, hl, hbl⟩ := hrel
   have hl0 := hl.low
   have hlk := hl.high h3
   have HL := hide hl
   clear hl
   by_cases hlt : k < x.length
   ·obtain ⟨b, o, rfl, hb, hm, h0, h1, h2⟩ := edit_cells (hx.below hbl nle) hlt
    go_wp2_with fail
    refine (szEdit_any x[k] _ (hw _ (List.getElem_mem hlt)) hl0 hlk _).mono ?_
    rintro e w1 ⟨rfl, hb1⟩
    have hB := hbl.trans (hb1.mono hbl.size)
    by_cases hq : lk - ((szEdit x[k] : Nat) : Int) < 0
    ·rw [lessLen_no hq]
     go_wp2
     go_ret
     exact ⟨ret_int (HL.out.no_ hlt hq).symm, hB⟩
    ·rw [lessLen_yes hq]
     have hq' : ((szEdit x[k] : Nat) : Int) ≤ lk := by omega
     go_wp2
     refine ⟨⟨k + 1, _, by omega, by go_num, rfl, HL.out.next hlt hq', hB⟩, by simp [intOf]; omega⟩
   ·have hk' : k = x.length := by omega
    subst hk'
    go_wp2
    go_ret
    exact ⟨ret_int HL.out.all_, hbl⟩

set_option maxHeartbeats 1000000 in
theorem szReq_any {cs : List Value} {x : Req} {fx : List Nat} (left : Int) (hw : wideReq x) (h2 : 0 ≤ left) (h3 : left ≤ 2000000) (w : World) (hx : Rp.req.R w cs x fx) :
  Calls Tryz.prog 7 #[.agg cs.toArray, .int .i64 left] w fun e w' => e = .returned (.int .i64 (lessLen left (szReq x))) ∧ Below w.heap.size w w' := by
 obtain ⟨A0, n0, c0, f0, rfl, _, h0⟩ := hx
 have hww := hw; simp only [wideReq] at hww
 obtain ⟨hw0, hw1, hw2, hw3, hw4⟩ := hww
 go_enter Tryz.func7, Tryz.ntmps7
 go_wp2_with fail
 all_goals try (go_ret; exact ⟨ret_int (lessLen_no (by simp only [szReq]; omega)).symm, (by repeat (first | exact Below.refl _ _ | assumption | refine Below.alloc ?_ (by simp <;> omega) _ | refine Below.drew ?_))⟩)
 refine (szEditS_any _ hw2 (by omega) (by omega) _ (by exact (h0.allocN _))).mono ?_
 rintro e w1 ⟨rfl, hb1⟩
 obtain ⟨hcc1, hff1⟩ := bcell hb1
 have hz1 : w.heap.size < w1.heap.size := by have := hb1.size; simp at this; omega
 by_cases hq1 : ((left - (x.ref.size : Int)) - (x.path.size : Int)) - ((szL szEdit x.edits : Nat) : Int) < 0
 ·rw [lessLen_no hq1]
  go_wp2
  go_ret; exact ⟨ret_int (lessLen_no (by simp only [szReq]; omega)).symm, (Below.box1 hb1)⟩
 rw [lessLen_yes hq1]
 go_wp2_with fail
 all_goals try (go_ret; exact ⟨ret_int (lessLen_no (by simp only [szReq]; omega)).symm, (Below.box1 hb1)⟩)
 refine (szRule_any x.rule _ hw3 (by omega) (by omega) _).mono ?_
 rintro e w2 ⟨rfl, hb2⟩
 obtain ⟨hcc2, hff2⟩ := bcell hb2
 have hz2 : w.heap.size < w2.heap.size := by have := hb2.size; omega
 by_cases hq2 : (((left - (x.ref.size : Int)) - (x.path.size : Int)) - ((szL szEdit x.edits : Nat) : Int)) - ((szRule x.rule : Nat) : Int) < 0
 ·rw [lessLen_no hq2]
  go_wp2
  go_ret; exact ⟨ret_int (lessLen_no (by simp only [szReq]; omega)).symm, (Below.t (Below.box1 hb1) hb2)⟩
 rw [lessLen_yes hq2]
 go_wp2
 all_goals first
  | (go_ret; exact ⟨ret_int (lessLen_no (by simp only [szReq]; omega)).symm, (Below.t (Below.box1 hb1) hb2)⟩)
  | (go_ret; exact ⟨ret_int ((lessLen_yes (by simp only [szReq]; omega)).trans (by simp only [szReq]; omega)).symm, (Below.t (Below.box1 hb1) hb2)⟩)

theorem info_3_WT : (Tryz.prog.info? 3).map (fun i => (i.zero, i.size, i.bytes)) = some (some (.int .i64 0), 1, 8) := by kernel_rfl
set_option maxHeartbeats 1000000 in
theorem toIntS_any {A : Option Addr} {n c : Nat} {x : List (Int)} {fx : List Nat} (w : World) (hx : SlR Rp.int w A n c x fx) (hl : x.length ≤ 1048576) :
  Calls Tryz.prog 42 #[.slice A n c] w (FreshS Rp.int w x) := by
 obtain ⟨rfl, hcx, hmx, _⟩ := id hx
 unfold maxLen at hmx
 obtain ⟨i0, hi, hz0, hz1, hz2⟩ := info_parts info_3_WT
 go_enter Tryz.func42, Tryz.ntmps42
 go_wp2_with (at_make; refine wpList_make_full _ rfl _ _ 22 rfl w.heap.size 3 i0 _ 1 Tryz.underlying22 hi hz0 hz1 .i64 .i64 _ _ x.length rfl rfl rfl rfl (by rw [hz2]; omega) (by unfold maxLen; omega) nle ?_)
 intro w0 hown hgrow
 have hT : ToRel Rp.int w x 0 (some ⟨w.heap.size, 0, none⟩) 0 w0 := ToRel.start1 rfl (fun _ => ⟨rfl, rfl⟩) hown ((Below.refl _ _).grown hgrow nle (fun k h => by cases h))
 clear hown hgrow
 generalize hG : (some ⟨w.heap.size, 0, none⟩ : Option Addr) = G at hT ⊢
 clear hG
 go_wp2
 go_loopw [4] (fun i wr => ∃ k : Nat, k ≤ x.length ∧ i = .int .i64 k ∧ ToRel Rp.int w x 0 G k wr) (fun i _ => x.length - (intOf i).toNat)
 case atStart => exact ⟨0, Nat.zero_le _, rfl, hT⟩
 case round =>
  obtain ⟨k, hk, rfl, hrel⟩ := hrel
  by_cases hlt : k < x.length
  ·obtain ⟨g, go, cz, rfl, hzl, hst, hbl, hcl⟩ := hrel.next hlt
   obtain ⟨b, o, rfl, hb, hm, h0⟩ := int_cells (hx.below hbl nle) hlt
   have hkk : Rp.int.k = 1 := rfl
   rw [hkk] at hzl hcl
   simp only [hkk, Nat.mul_one] at hst hcl
   match cz, hzl with
   | [t0], _ =>
    clear hzl
    obtain ⟨hcz, hfz⟩ := hst wr (Below.refl _ _)
    have z0 : wr.cell? ⟨g, go + k, none⟩ = some t0 := hcz.at0
    have y0 := hfz (go + k)
    clear hcz hst
    go_wp2
    refine ⟨⟨k + 1, by omega, by go_num, ?_⟩, by simp [intOf]; omega⟩
    exact hcl wr [.int .i64 x[k]] [] (Below.refl _ _) ⟨rfl, rfl⟩ List.nodup_nil (by simp) (Free.nil _)
  ·have hk' : k = x.length := by omega
   subst hk'
   go_wp2
   go_ret
   exact hrel.finish

set_option maxHeartbeats 1000000 in
theorem toRule_any (x : Rule) (w : World) :
  Calls Tryz.prog 45 #[.agg (encRule x).toArray] w fun e w' => e = .returned (.agg (encRule x).toArray) ∧ Below w.heap.size w w' := by
 unfold encRule
 go_enter Tryz.func45, Tryz.ntmps45
 go_wp2
 exact bodyPost_ret (v := .agg (encRule x).toArray) (by simp [results, Tryz.results45, go_sem, encRule]) rfl ⟨rfl, (by repeat (first | exact Below.refl _ _ | assumption | refine Below.alloc ?_ (by simp <;> omega) _ | refine Below.drew ?_))⟩

theorem info_44_WT : (Tryz.prog.info? 44).map (fun i => (i.zero, i.size, i.bytes)) = some (some (.agg #[.int .i64 0, .string ByteArray.empty, .string ByteArray.empty, .bool false]), 4, 48) := by kernel_rfl
set_option maxHeartbeats 1000000 in
theorem toRuleS_any {A : Option Addr} {n c : Nat} {x : List (Rule)} {fx : List Nat} (w : World) (hx : SlR Rp.rule w A n c x fx) (hl : x.length ≤ 1048576) :
  Calls Tryz.prog 133 #[.slice A n c] w (FreshS Rp.rule w x) := by
 obtain ⟨rfl, hcx, hmx, _⟩ := id hx
 unfold maxLen at hmx
 obtain ⟨i0, hi, hz0, hz1, hz2⟩ := info_parts info_44_WT
 go_enter Tryz.func133, Tryz.ntmps133
 go_wp2_with (at_make; refine wpList_make_full _ rfl _ _ 93 rfl w.heap.size 44 i0 _ 4 Tryz.underlying93 hi hz0 hz1 .i64 .i64 _ _ x.length rfl rfl rfl rfl (by rw [hz2]; omega) (by unfold maxLen; omega) nle ?_)
 intro w0 hown hgrow
 have hT : ToRel Rp.rule w x zeroRule (some ⟨w.heap.size, 0, none⟩) 0 w0 := ToRel.start (fun _ => ⟨rfl, rfl⟩) hown ((Below.refl _ _).grown hgrow nle (fun k h => by cases h))
 clear hown hgrow
 generalize hG : (some ⟨w.heap.size, 0, none⟩ : Option Addr) = G at hT ⊢
 clear hG
 go_wp2
 go_loopw [4] (fun i wr => ∃ k : Nat, k ≤ x.length ∧ i = .int .i64 k ∧ ToRel Rp.rule w x zeroRule G k wr) (fun i _ => x.length - (intOf i).toNat)
 case atStart => exact ⟨0, Nat.zero_le _, rfl, hT⟩
 case round =>
  obtain ⟨k, hk, rfl, hrel⟩ := hrel
  by_cases hlt : k < x.length
  ·obtain ⟨g, go, cz, rfl, hzl, hst, hbl, hcl⟩ := hrel.next hlt
   obtain ⟨b, o, rfl, hb, hm, h0, h1, h2, h3⟩ := rule_cells (hx.below hbl nle) hlt
   have hkk : Rp.rule.k = 4 := rfl
   rw [hkk] at hzl hcl
   simp only [hkk] at hst hcl
   match cz, hzl with
   | [t0, t1, t2, t3], _ =>
    clear hzl
    go_wp2_with fail
    refine (toRule_any x[k] _).mono ?_; rintro e w1 ⟨rfl, hb1⟩; simp only [encRule]
    obtain ⟨hcz, hfz⟩ := hst w1 hb1
    have z0 : w1.cell? ⟨g, go + k * 4, none⟩ = some t0 := hcz.at0; have z1 : w1.cell? ⟨g, go + k * 4 + 1, none⟩ = some t1 := hcz.tail.at0; have z2 : w1.cell? ⟨g, go + k * 4 + 2, none⟩ = some t2 := hcz.tail.tail.at0; have z3 : w1.cell? ⟨g, go + k * 4 + 3, none⟩ = some t3 := hcz.tail.tail.tail.at0
    have y0 := hfz (go + k * 4); have y1 := hfz (go + k * 4 + 1); have y2 := hfz (go + k * 4 + 2); have y3 := hfz (go + k * 4 + 3)
    clear hcz hst
    go_wp2
    refine ⟨⟨k + 1, by omega, by go_num, ?_⟩, by simp [intOf]; omega⟩
    exact hcl w1 (encRule x[k]) [] hb1 ⟨rfl, rfl⟩ List.nodup_nil (by simp) (Free.nil _)
  ·have hk' : k = x.length := by omega
   subst hk'
   go_wp2
   go_ret
   exact hrel.finish

set_option maxHeartbeats 1000000 in
theorem toFile_any (x : File) (w : World) :
  Calls Tryz.prog 202 #[.agg (encFile x).toArray] w fun e w' => e = .returned (.agg (encFile x).toArray) ∧ Below w.heap.size w w' := by
 unfold encFile
 go_enter Tryz.func202, Tryz.ntmps202
 go_wp2
 exact bodyPost_ret (v := .agg (encFile x).toArray) (by simp [results, Tryz.results202, go_sem, encFile]) rfl ⟨rfl, (by repeat (first | exact Below.refl _ _ | assumption | refine Below.alloc ?_ (by simp <;> omega) _ | refine Below.drew ?_))⟩

theorem info_104_WT : (Tryz.prog.info? 104).map (fun i => (i.zero, i.size, i.bytes)) = some (some (.agg #[.string ByteArray.empty, .string ByteArray.empty]), 2, 32) := by kernel_rfl
set_option maxHeartbeats 1000000 in
theorem toFileS_any {A : Option Addr} {n c : Nat} {x : List (File)} {fx : List Nat} (w : World) (hx : SlR Rp.file w A n c x fx) (hl : x.length ≤ 1048576) :
  Calls Tryz.prog 192 #[.slice A n c] w (FreshS Rp.file w x) := by
 obtain ⟨rfl, hcx, hmx, _⟩ := id hx
 unfold maxLen at hmx
 obtain ⟨i0, hi, hz0, hz1, hz2⟩ := info_parts info_104_WT
 go_enter Tryz.func192, Tryz.ntmps192
 go_wp2_with (at_make; refine wpList_make_full _ rfl _ _ 36 rfl w.heap.size 104 i0 _ 2 Tryz.underlying36 hi hz0 hz1 .i64 .i64 _ _ x.length rfl rfl rfl rfl (by rw [hz2]; omega) (by unfold maxLen; omega) nle ?_)
 intro w0 hown hgrow
 have hT : ToRel Rp.file w x zeroFile (some ⟨w.heap.size, 0, none⟩) 0 w0 := ToRel.start (fun _ => ⟨rfl, rfl⟩) hown ((Below.refl _ _).grown hgrow nle (fun k h => by cases h))
 clear hown hgrow
 generalize hG : (some ⟨w.heap.size, 0, none⟩ : Option Addr) = G at hT ⊢
 clear hG
 go_wp2
 go_loopw [4] (fun i wr => ∃ k : Nat, k ≤ x.length ∧ i = .int .i64 k ∧ ToRel Rp.file w x zeroFile G k wr) (fun i _ => x.length - (intOf i).toNat)
 case atStart => exact ⟨0, Nat.zero_le _, rfl, hT⟩
 case round =>
  obtain ⟨k, hk, rfl, hrel⟩ := hrel
  by_cases hlt : k < x.length
  ·obtain ⟨g, go, cz, rfl, hzl, hst, hbl, hcl⟩ := hrel.next hlt
   obtain ⟨b, o, rfl, hb, hm, h0, h1⟩ := file_cells (hx.below hbl nle) hlt
   have hkk : Rp.file.k = 2 := rfl
   rw [hkk] at hzl hcl
   simp only [hkk] at hst hcl
   match cz, hzl with
   | [t0, t1], _ =>
    clear hzl
    go_wp2_with fail
    refine (toFile_any x[k] _).mono ?_; rintro e w1 ⟨rfl, hb1⟩; simp only [encFile]
    obtain ⟨hcz, hfz⟩ := hst w1 hb1
    have z0 : w1.cell? ⟨g, go + k * 2, none⟩ = some t0 := hcz.at0; have z1 : w1.cell? ⟨g, go + k * 2 + 1, none⟩ = some t1 := hcz.tail.at0
    have y0 := hfz (go + k * 2); have y1 := hfz (go + k * 2 + 1)
    clear hcz hst
    go_wp2
    refine ⟨⟨k + 1, by omega, by go_num, ?_⟩, by simp [intOf]; omega⟩
    exact hcl w1 (encFile x[k]) [] hb1 ⟨rfl, rfl⟩ List.nodup_nil (by simp) (Free.nil _)
  ·have hk' : k = x.length := by omega
   subst hk'
   go_wp2
   go_ret
   exact hrel.finish

theorem info_36_WT : (Tryz.prog.info? 36).map (fun i => (i.zero, i.size, i.bytes)) = some (some (.slice none 0 0), 1, 24) := by kernel_rfl
set_option maxHeartbeats 1000000 in
theorem toFileSS_any {A : Option Addr} {n c : Nat} {x : List (List (File))} {fx : List Nat} (w : World) (hx : SlR (Rp.slice Rp.file) w A n c x fx) (hl : x.length ≤ 1048576) (hsz : ∀ k (h : k < x.length), szL szFile x[k] ≤ 1048576) :
  Calls Tryz.prog 182 #[.slice A n c] w (FreshS (Rp.slice Rp.file) w x) := by
 obtain ⟨rfl, hcx, hmx, _⟩ := id hx
 unfold maxLen at hmx
 obtain ⟨i0, hi, hz0, hz1, hz2⟩ := info_parts info_36_WT
 go_enter Tryz.func182, Tryz.ntmps182
 go_wp2_with (at_make; refine wpList_make_full _ rfl _ _ 97 rfl w.heap.size 36 i0 _ 1 Tryz.underlying97 hi hz0 hz1 .i64 .i64 _ _ x.length rfl rfl rfl rfl (by rw [hz2]; omega) (by unfold maxLen; omega) nle ?_)
 intro w0 hown hgrow
 have hT : ToRel (Rp.slice Rp.file) w x [] (some ⟨w.heap.size, 0, none⟩) 0 w0 := ToRel.start1 rfl (fun _ => ⟨none, 0, 0, rfl, SlR.nil⟩) hown ((Below.refl _ _).grown hgrow nle (fun k h => by cases h))
 clear hown hgrow
 generalize hG : (some ⟨w.heap.size, 0, none⟩ : Option Addr) = G at hT ⊢
 clear hG
 go_wp2
 go_loopw [4] (fun i wr => ∃ k : Nat, k ≤ x.length ∧ i = .int .i64 k ∧ ToRel (Rp.slice Rp.file) w x [] G k wr) (fun i _ => x.length - (intOf i).toNat)
 case atStart => exact ⟨0, Nat.zero_le _, rfl, hT⟩
 case round =>
  obtain ⟨k, hk, rfl, hrel⟩ := hrel
  by_cases hlt : k < x.length
  ·obtain ⟨g, go, cz, rfl, hzl, hst, hbl, hcl⟩ := hrel.next hlt
   obtain ⟨b, o, A0, n0, c0, f0, rfl, hb, hm, h0, hs0, hsub⟩ := slice_cells (hx.below hbl nle) hlt
   have hkk : (Rp.slice Rp.file).k = 1 := rfl
   rw [hkk] at hzl hcl
   simp only [hkk, Nat.mul_one] at hst hcl
   match cz, hzl with
   | [t0], _ =>
    clear hzl
    go_wp2_with fail
    refine (toFileS_any _ hs0 (by have := hsz k hlt; first | exact this | exact Nat.le_trans (szL_len _ _) this)).mono ?_; rintro e w1 ⟨B1, m1, c1, q1, rfl, hR1, hq1, hq2, hq3, hb1⟩
    obtain ⟨hcz, hfz⟩ := hst w1 hb1
    have z0 : w1.cell? ⟨g, go + k, none⟩ = some t0 := hcz.at0
    have y0 := hfz (go + k)
    clear hcz hst
    go_wp2
    refine ⟨⟨k + 1, by omega, by go_num, ?_⟩, by simp [intOf]; omega⟩
    exact hcl w1 [.slice B1 m1 c1] q1 hb1 ⟨B1, m1, c1, rfl, hR1⟩ hq1 hq2 hq3
  ·have hk' : k = x.length := by omega
   subst hk'
   go_wp2
   go_ret
   exact hrel.finish

set_option maxHeartbeats 2000000 in
theorem toRef_any {cs : List Value} {x : Ref} {fx : List Nat} (w : World) (hx : Rp.ref.R w cs x fx) (hsz : szRef x ≤ 1048576) :
  Calls Tryz.prog 166 #[.agg cs.toArray] w (FreshR Rp.ref w x) := by
 obtain ⟨A0, n0, c0, f0, rfl, _, h0⟩ := hx
 unfold szRef at hsz
 have hbx0 : w.heap.size + 2 ∉ f0 := fun h => by have := h0.lt _ h; omega
 have HS0 := h0
 go_enter Tryz.func166, Tryz.ntmps166
 go_wp2_with fail
 refine (toFileSS_any (x := x.versions) _ (by exact (((h0.allocN _).allocN _).allocN _)) (by unfold szL at hsz; omega) (by intro k hk; have := szL_get (f := (fun y => szL szFile y)) hk; omega)).mono ?_
 rintro e w1 ⟨B0, m0, d0, q0, rfl, hR0, hq0, hlo0, hfr0, hb1⟩
 have HB1 := Below.box3 hb1
 obtain ⟨hcc1, hff1⟩ := bcell hb1
 have hz1 : w.heap.size + 1 + 1 < w1.heap.size := by have := hb1.size; simp at this; omega
 have hy1 : w.heap.size + 1 < w1.heap.size := by omega
 have hx1 : w.heap.size < w1.heap.size := by omega
 have hl0 : ∀ b ∈ q0, w.heap.size + 3 ≤ b := fun b hb => by have := hlo0 b hb; simp at this; omega
 have hqx0 : w.heap.size + 2 ∉ q0 := fun h => by have := hl0 _ h; omega
 have hqy0 : w.heap.size + 1 ∉ q0 := fun h => by have := hl0 _ h; omega
 clear hb1
 go_wp2
 refine bodyPost_ret (v := .agg [.string x.name, .bool x.guard, .int .i64 x.count, .slice B0 m0 d0].toArray) (by simp [results, Tryz.results166, go_sem, hcc1, hz1, hy1, hx1]) rfl ?_
 refine ⟨_, q0, rfl, ⟨B0, m0, d0, q0, rfl, rfl, by exact (((((hR0.putN hqx0 _).putN hqy0 _).putN hqy0 _).putN hqy0 _).putN hqy0 _)⟩, ?_, ?_, ?_, ?_⟩
 ·exact hq0
 ·exact fun b hb => by have := hl0 b hb; omega
 ·exact (Free.putN (Free.putN (Free.putN (Free.putN (Free.putN hfr0)))))
 ·exact (Below.setCell (p := ⟨w.heap.size + 1, 3, none⟩) (Below.setCell (p := ⟨w.heap.size + 1, 2, none⟩) (Below.setCell (p := ⟨w.heap.size + 1, 1, none⟩) (Below.setCell (p := ⟨w.heap.size + 1, 0, none⟩) (Below.setCell (p := ⟨w.heap.size + 1 + 1, 3, none⟩) HB1 (Nat.le_add_right w.heap.size 2) _) (Nat.le_add_right w.heap.size 1) _) (Nat.le_add_right w.heap.size 1) _) (Nat.le_add_right w.heap.size 1) _) (Nat.le_add_right w.heap.size 1) _)

theorem info_99_WT : (Tryz.prog.info? 99).map (fun i => (i.zero, i.size, i.bytes)) = some (some (.agg #[.string ByteArray.empty, .bool false, .int .i64 0, .slice none 0 0]), 4, 56) := by kernel_rfl
set_option maxHeartbeats 1000000 in
theorem toRefS_any {A : Option Addr} {n c : Nat} {x : List (Ref)} {fx : List Nat} (w : World) (hx : SlR Rp.ref w A n c x fx) (hl : x.length ≤ 1048576) (hsz : ∀ k (h : k < x.length), szRef x[k] ≤ 1048576) :
  Calls Tryz.prog 134 #[.slice A n c] w (FreshS Rp.ref w x) := by
 obtain ⟨rfl, hcx, hmx, _⟩ := id hx
 unfold maxLen at hmx
 obtain ⟨i0, hi, hz0, hz1, hz2⟩ := info_parts info_99_WT
 go_enter Tryz.func134, Tryz.ntmps134
 go_wp2_with (at_make; refine wpList_make_full _ rfl _ _ 94 rfl w.heap.size 99 i0 _ 4 Tryz.underlying94 hi hz0 hz1 .i64 .i64 _ _ x.length rfl rfl rfl rfl (by rw [hz2]; omega) (by unfold maxLen; omega) nle ?_)
 intro w0 hown hgrow
 have hT : ToRel Rp.ref w x zeroRef (some ⟨w.heap.size, 0, none⟩) 0 w0 := ToRel.start (fun _ => ⟨none, 0, 0, [], rfl, rfl, SlR.nil⟩) hown ((Below.refl _ _).grown hgrow nle (fun k h => by cases h))
 clear hown hgrow
 generalize hG : (some ⟨w.heap.size, 0, none⟩ : Option Addr) = G at hT ⊢
 clear hG
 go_wp2
 go_loopw [4] (fun i wr => ∃ k : Nat, k ≤ x.length ∧ i = .int .i64 k ∧ ToRel Rp.ref w x zeroRef G k wr) (fun i _ => x.length - (intOf i).toNat)
 case atStart => exact ⟨0, Nat.zero_le _, rfl, hT⟩
 case round =>
  obtain ⟨k, hk, rfl, hrel⟩ := hrel
  by_cases hlt : k < x.length
  ·obtain ⟨g, go, cz, rfl, hzl, hst, hbl, hcl⟩ := hrel.next hlt
   obtain ⟨b, o, A0, n0, c0, f0, rfl, hb, hm, h0, h1, h2, h3, hs0, hsub⟩ := ref_cells (hx.below hbl nle) hlt
   have hkk : Rp.ref.k = 4 := rfl
   rw [hkk] at hzl hcl
   simp only [hkk] at hst hcl
   match cz, hzl with
   | [t0, t1, t2, t3], _ =>
    clear hzl
    go_wp2_with fail
    refine (toRef_any (x := x[k]) _ ⟨A0, n0, c0, f0, rfl, rfl, hs0⟩ (hsz k hlt)).mono ?_; rintro e w1 ⟨cs1, q1, rfl, hR1, hq1, hq2, hq3, hb1⟩; obtain ⟨B0, m0, d0, q10, rfl, rfl, hq10⟩ := id hR1
    obtain ⟨hcz, hfz⟩ := hst w1 hb1
    have z0 : w1.cell? ⟨g, go + k * 4, none⟩ = some t0 := hcz.at0; have z1 : w1.cell? ⟨g, go + k * 4 + 1, none⟩ = some t1 := hcz.tail.at0; have z2 : w1.cell? ⟨g, go + k * 4 + 2, none⟩ = some t2 := hcz.tail.tail.at0; have z3 : w1.cell? ⟨g, go + k * 4 + 3, none⟩ = some t3 := hcz.tail.tail.tail.at0
    have y0 := hfz (go + k * 4); have y1 := hfz (go + k * 4 + 1); have y2 := hfz (go + k * 4 + 2); have y3 := hfz (go + k * 4 + 3)
    clear hcz hst
    go_wp2
    refine ⟨⟨k + 1, by omega, by go_num, ?_⟩, by simp [intOf]; omega⟩
    exact hcl w1 _ _ hb1 hR1 hq1 hq2 hq3
  ·have hk' : k = x.length := by omega
   subst hk'
   go_wp2
   go_ret
   exact hrel.finish

set_option maxHeartbeats 2000000 in
theorem toRepo_any {cs : List Value} {x : Repo} {fx : List Nat} (w : World) (hx : Rp.repo.R w cs x fx) (hsz : szRepo x ≤ 1048576) :
  Calls Tryz.prog 86 #[.agg cs.toArray] w (FreshR Rp.repo w x) := by
 obtain ⟨A0, n0, c0, f0, A1, n1, c1, f1, rfl, _, h0, h1⟩ := hx
 unfold szRepo at hsz
 have hbx0 : w.heap.size + 2 ∉ f0 := fun h => by have := h0.lt _ h; omega
 have HS0 := h0
 have hbx1 : w.heap.size + 2 ∉ f1 := fun h => by have := h1.lt _ h; omega
 have HS1 := h1
 go_enter Tryz.func86, Tryz.ntmps86
 go_wp2_with fail
 refine (toRuleS_any (x := x.rules) _ (by exact (((h0.allocN _).allocN _).allocN _)) (by unfold szL at hsz; omega)).mono ?_
 rintro e w1 ⟨B0, m0, d0, q0, rfl, hR0, hq0, hlo0, hfr0, hb1⟩
 have HB1 := Below.box3 hb1
 have a1_1 := (((h1.allocN _).allocN _).allocN _).step hb1
 obtain ⟨hcc1, hff1⟩ := bcell hb1
 have hz1 : w.heap.size + 1 + 1 < w1.heap.size := by have := hb1.size; simp at this; omega
 have hy1 : w.heap.size + 1 < w1.heap.size := by omega
 have hx1 : w.heap.size < w1.heap.size := by omega
 have hl0 : ∀ b ∈ q0, w.heap.size + 3 ≤ b := fun b hb => by have := hlo0 b hb; simp at this; omega
 have hqx0 : w.heap.size + 2 ∉ q0 := fun h => by have := hl0 _ h; omega
 have hqy0 : w.heap.size + 1 ∉ q0 := fun h => by have := hl0 _ h; omega
 clear hb1
 go_wp2_with fail
 refine (toRefS_any (x := x.refs) _ (by exact (a1_1.putN hbx1 _)) (by unfold szL at hsz; omega) (by intro k hk; have := szL_get (f := szRef) hk; omega)).mono ?_
 rintro e w2 ⟨B1, m1, d1, q1, rfl, hR1, hq1, hlo1, hfr1, hb2⟩
 have HB2 := Below.t (Below.setCell (p := ⟨w.heap.size + 1 + 1, 1, none⟩) HB1 (Nat.le_add_right w.heap.size 2) _) hb2
 have r2_0 := (hR0.putN hqx0 _).step hb2
 have fr2_0 := Free.step (Free.putN hfr0) hb2
 obtain ⟨hcc2, hff2⟩ := bcell hb2
 have hz2 : w.heap.size + 1 + 1 < w2.heap.size := by have := hb2.size; simp only [World.size_setCell] at this; omega
 have hy2 : w.heap.size + 1 < w2.heap.size := by omega
 have hx2 : w.heap.size < w2.heap.size := by omega
 have hl1 : ∀ b ∈ q1, w.heap.size + 3 ≤ b := fun b hb => by have := hlo1 b hb; simp only [World.size_setCell] at this; omega
 have hp1 : ∀ b ∈ q1, w1.heap.size ≤ b := fun b hb => by have := hlo1 b hb; simp only [World.size_setCell] at this; exact this
 have hqx1 : w.heap.size + 2 ∉ q1 := fun h => by have := hl1 _ h; omega
 have hqy1 : w.heap.size + 1 ∉ q1 := fun h => by have := hl1 _ h; omega
 have hsz12 : w1.heap.size ≤ w2.heap.size := by have := hb2.size; simp only [World.size_setCell] at this; exact this
 clear hb2
 go_wp2
 refine bodyPost_ret (v := .agg [.int .i64 x.admin, .slice B0 m0 d0, .slice B1 m1 d1].toArray) (by simp [results, Tryz.results86, go_sem, hcc1, hz1, hy1, hx1, hcc2, hz2, hy2, hx2]) rfl ?_
 refine ⟨_, q0 ++ q1, rfl, ⟨B0, m0, d0, q0, B1, m1, d1, q1, rfl, rfl, by exact ((((r2_0.putN hqx0 _).putN hqy0 _).putN hqy0 _).putN hqy0 _), by exact ((((hR1.putN hqx1 _).putN hqy1 _).putN hqy1 _).putN hqy1 _)⟩, ?_, ?_, ?_, ?_⟩
 ·exact List.nodup_append.2 ⟨hq0, hq1, fun a ha b hb e => by subst e; have h1 := hR0.lt a ha; have h2 := hp1 a hb; omega⟩
 ·exact fun b hb => by
   rcases List.mem_append.1 hb with hb | hb
   ·have := hl0 b hb; omega
   ·have := hl1 b hb; omega
 ·exact Free.append (Free.putN (Free.putN (Free.putN (Free.putN fr2_0)))) (Free.putN (Free.putN (Free.putN (Free.putN hfr1))))
 ·exact (Below.setCell (p := ⟨w.heap.size + 1, 2, none⟩) (Below.setCell (p := ⟨w.heap.size + 1, 1, none⟩) (Below.setCell (p := ⟨w.heap.size + 1, 0, none⟩) (Below.setCell (p := ⟨w.heap.size + 1 + 1, 2, none⟩) HB2 (Nat.le_add_right w.heap.size 2) _) (Nat.le_add_right w.heap.size 1) _) (Nat.le_add_right w.heap.size 1) _) (Nat.le_add_right w.heap.size 1) _)

theorem info_96_WT : (Tryz.prog.info? 96).map (fun i => (i.zero, i.size, i.bytes)) = some (some (.agg #[.int .i64 0, .slice none 0 0, .slice none 0 0]), 3, 56) := by kernel_rfl
set_option maxHeartbeats 1000000 in
theorem toRepoS_any {A : Option Addr} {n c : Nat} {x : List (Repo)} {fx : List Nat} (w : World) (hx : SlR Rp.repo w A n c x fx) (hl : x.length ≤ 1048576) (hsz : ∀ k (h : k < x.length), szRepo x[k] ≤ 1048576) :
  Calls Tryz.prog 43 #[.slice A n c] w (FreshS Rp.repo w x) := by
 obtain ⟨rfl, hcx, hmx, _⟩ := id hx
 unfold maxLen at hmx
 obtain ⟨i0, hi, hz0, hz1, hz2⟩ := info_parts info_96_WT
 go_enter Tryz.func43, Tryz.ntmps43
 go_wp2_with (at_make; refine wpList_make_full _ rfl _ _ 33 rfl w.heap.size 96 i0 _ 3 Tryz.underlying33 hi hz0 hz1 .i64 .i64 _ _ x.length rfl rfl rfl rfl (by rw [hz2]; omega) (by unfold maxLen; omega) nle ?_)
 intro w0 hown hgrow
 have hT : ToRel Rp.repo w x zeroRepo (some ⟨w.heap.size, 0, none⟩) 0 w0 := ToRel.start (fun _ => ⟨none, 0, 0, [], none, 0, 0, [], rfl, rfl, SlR.nil, SlR.nil⟩) hown ((Below.refl _ _).grown hgrow nle (fun k h => by cases h))
 clear hown hgrow
 generalize hG : (some ⟨w.heap.size, 0, none⟩ : Option Addr) = G at hT ⊢
 clear hG
 go_wp2
 go_loopw [4] (fun i wr => ∃ k : Nat, k ≤ x.length ∧ i = .int .i64 k ∧ ToRel Rp.repo w x zeroRepo G k wr) (fun i _ => x.length - (intOf i).toNat)
 case atStart => exact ⟨0, Nat.zero_le _, rfl, hT⟩
 case round =>
  obtain ⟨k, hk, rfl, hrel⟩ := hrel
  by_cases hlt : k < x.length
  ·obtain ⟨g, go, cz, rfl, hzl, hst, hbl, hcl⟩ := hrel.next hlt
   obtain ⟨b, o, A0, n0, c0, f0, A1, n1, c1, f1, rfl, hb, hm, h0, h1, h2, hs0, hs1, hsub⟩ := repo_cells (hx.below hbl nle) hlt
   have hkk : Rp.repo.k = 3 := rfl
   rw [hkk] at hzl hcl
   simp only [hkk] at hst hcl
   match cz, hzl with
   | [t0, t1, t2], _ =>
    clear hzl
    go_wp2_with fail
    refine (toRepo_any (x := x[k]) _ ⟨A0, n0, c0, f0, A1, n1, c1, f1, rfl, rfl, hs0, hs1⟩ (hsz k hlt)).mono ?_; rintro e w1 ⟨cs1, q1, rfl, hR1, hq1, hq2, hq3, hb1⟩; obtain ⟨B0, m0, d0, q10, B1, m1, d1, q11, rfl, rfl, hq10, hq11⟩ := id hR1
    obtain ⟨hcz, hfz⟩ := hst w1 hb1
    have z0 : w1.cell? ⟨g, go + k * 3, none⟩ = some t0 := hcz.at0; have z1 : w1.cell? ⟨g, go + k * 3 + 1, none⟩ = some t1 := hcz.tail.at0; have z2 : w1.cell? ⟨g, go + k * 3 + 2, none⟩ = some t2 := hcz.tail.tail.at0
    have y0 := hfz (go + k * 3); have y1 := hfz (go + k * 3 + 1); have y2 := hfz (go + k * 3 + 2)
    clear hcz hst
    go_wp2
    refine ⟨⟨k + 1, by omega, by go_num, ?_⟩, by simp [intOf]; omega⟩
    exact hcl w1 _ _ hb1 hR1 hq1 hq2 hq3
  ·have hk' : k = x.length := by omega
   subst hk'
   go_wp2
   go_ret
   exact hrel.finish

set_option maxHeartbeats 2000000 in
theorem toHouse_any {cs : List Value} {x : House} {fx : List Nat} (w : World) (hx : Rp.house.R w cs x fx) (hsz : szHouse x ≤ 1048576) :
  Calls Tryz.prog 9 #[.agg cs.toArray] w (FreshR Rp.house w x) := by
 obtain ⟨A0, n0, c0, f0, A1, n1, c1, f1, A2, n2, c2, f2, rfl, _, h0, h1, h2⟩ := hx
 unfold szHouse at hsz
 have hbx0 : w.heap.size + 2 ∉ f0 := fun h => by have := h0.lt _ h; omega
 have HS0 := h0
 have hbx1 : w.heap.size + 2 ∉ f1 := fun h => by have := h1.lt _ h; omega
 have HS1 := h1
 have hbx2 : w.heap.size + 2 ∉ f2 := fun h => by have := h2.lt _ h; omega
 have HS2 := h2
 go_enter Tryz.func9, Tryz.ntmps9
 go_wp2_with fail
 refine (toIntS_any (x := x.keys) _ (by exact (((h0.allocN _).allocN _).allocN _)) (by omega)).mono ?_
 rintro e w1 ⟨B0, m0, d0, q0, rfl, hR0, hq0, hlo0, hfr0, hb1⟩
 have HB1 := Below.box3 hb1
 have a1_1 := (((h1.allocN _).allocN _).allocN _).step hb1
 have a1_2 := (((h2.allocN _).allocN _).allocN _).step hb1
 obtain ⟨hcc1, hff1⟩ := bcell hb1
 have hz1 : w.heap.size + 1 + 1 < w1.heap.size := by have := hb1.size; simp at this; omega
 have hy1 : w.heap.size + 1 < w1.heap.size := by omega
 have hx1 : w.heap.size < w1.heap.size := by omega
 have hl0 : ∀ b ∈ q0, w.heap.size + 3 ≤ b := fun b hb => by have := hlo0 b hb; simp at this; omega
 have hqx0 : w.heap.size + 2 ∉ q0 := fun h => by have := hl0 _ h; omega
 have hqy0 : w.heap.size + 1 ∉ q0 := fun h => by have := hl0 _ h; omega
 clear hb1
 go_wp2_with fail
 refine (toIntS_any (x := x.used) _ (by exact (a1_1.putN hbx1 _)) (by omega)).mono ?_
 rintro e w2 ⟨B1, m1, d1, q1, rfl, hR1, hq1, hlo1, hfr1, hb2⟩
 have HB2 := Below.t (Below.setCell (p := ⟨w.heap.size + 1 + 1, 0, none⟩) HB1 (Nat.le_add_right w.heap.size 2) _) hb2
 have a2_2 := (a1_2.putN hbx2 _).step hb2
 have r2_0 := (hR0.putN hqx0 _).step hb2
 have fr2_0 := Free.step (Free.putN hfr0) hb2
 obtain ⟨hcc2, hff2⟩ := bcell hb2
 have hz2 : w.heap.size + 1 + 1 < w2.heap.size := by have := hb2.size; simp only [World.size_setCell] at this; omega
 have hy2 : w.heap.size + 1 < w2.heap.size := by omega
 have hx2 : w.heap.size < w2.heap.size := by omega
 have hl1 : ∀ b ∈ q1, w.heap.size + 3 ≤ b := fun b hb => by have := hlo1 b hb; simp only [World.size_setCell] at this; omega
 have hp1 : ∀ b ∈ q1, w1.heap.size ≤ b := fun b hb => by have := hlo1 b hb; simp only [World.size_setCell] at this; exact this
 have hqx1 : w.heap.size + 2 ∉ q1 := fun h => by have := hl1 _ h; omega
 have hqy1 : w.heap.size + 1 ∉ q1 := fun h => by have := hl1 _ h; omega
 have hsz12 : w1.heap.size ≤ w2.heap.size := by have := hb2.size; simp only [World.size_setCell] at this; exact this
 clear hb2
 go_wp2_with fail
 refine (toRepoS_any (x := x.repos) _ (by exact (a2_2.putN hbx2 _)) (by unfold szL at hsz; omega) (by intro k hk; have := szL_get (f := szRepo) hk; omega)).mono ?_
 rintro e w3 ⟨B2, m2, d2, q2, rfl, hR2, hq2, hlo2, hfr2, hb3⟩
 have HB3 := Below.t (Below.setCell (p := ⟨w.heap.size + 1 + 1, 1, none⟩) HB2 (Nat.le_add_right w.heap.size 2) _) hb3
 have r3_0 := (r2_0.putN hqx0 _).step hb3
 have fr3_0 := Free.step (Free.putN fr2_0) hb3
 have r3_1 := (hR1.putN hqx1 _).step hb3
 have fr3_1 := Free.step (Free.putN hfr1) hb3
 obtain ⟨hcc3, hff3⟩ := bcell hb3
 have hz3 : w.heap.size + 1 + 1 < w3.heap.size := by have := hb3.size; simp only [World.size_setCell] at this; omega
 have hy3 : w.heap.size + 1 < w3.heap.size := by omega
 have hx3 : w.heap.size < w3.heap.size := by omega
 have hl2 : ∀ b ∈ q2, w.heap.size + 3 ≤ b := fun b hb => by have := hlo2 b hb; simp only [World.size_setCell] at this; omega
 have hp2 : ∀ b ∈ q2, w2.heap.size ≤ b := fun b hb => by have := hlo2 b hb; simp only [World.size_setCell] at this; exact this
 have hqx2 : w.heap.size + 2 ∉ q2 := fun h => by have := hl2 _ h; omega
 have hqy2 : w.heap.size + 1 ∉ q2 := fun h => by have := hl2 _ h; omega
 have hsz23 : w2.heap.size ≤ w3.heap.size := by have := hb3.size; simp only [World.size_setCell] at this; exact this
 clear hb3
 go_wp2
 refine bodyPost_ret (v := .agg [.slice B0 m0 d0, .slice B1 m1 d1, .slice B2 m2 d2].toArray) (by simp [results, Tryz.results9, go_sem, hcc1, hz1, hy1, hx1, hcc2, hz2, hy2, hx2, hcc3, hz3, hy3, hx3]) rfl ?_
 refine ⟨_, q0 ++ (q1 ++ (q2)), rfl, ⟨B0, m0, d0, q0, B1, m1, d1, q1, B2, m2, d2, q2, rfl, rfl, by exact ((((r3_0.putN hqx0 _).putN hqy0 _).putN hqy0 _).putN hqy0 _), by exact ((((r3_1.putN hqx1 _).putN hqy1 _).putN hqy1 _).putN hqy1 _), by exact ((((hR2.putN hqx2 _).putN hqy2 _).putN hqy2 _).putN hqy2 _)⟩, ?_, ?_, ?_, ?_⟩
 ·exact List.nodup_append.2 ⟨hq0, List.nodup_append.2 ⟨hq1, hq2, fun a ha b hb e => by subst e; have h1 := hR1.lt a ha; have h2 := hp2 a hb; omega⟩, fun a ha b hb e => by
   subst e
   have h1 := hR0.lt a ha
   rcases List.mem_append.1 hb with hb | hb
   ·have h2 := hp1 a hb; omega
   ·have h2 := hp2 a hb; have h3 := hsz12; omega⟩
 ·exact fun b hb => by
   rcases List.mem_append.1 hb with hb | hb
   ·have := hl0 b hb; omega
   rcases List.mem_append.1 hb with hb | hb
   ·have := hl1 b hb; omega
   ·have := hl2 b hb; omega
 ·exact Free.append (Free.putN (Free.putN (Free.putN (Free.putN fr3_0)))) (Free.append (Free.putN (Free.putN (Free.putN (Free.putN fr3_1)))) (Free.putN (Free.putN (Free.putN (Free.putN hfr2)))))
 ·exact (Below.setCell (p := ⟨w.heap.size + 1, 2, none⟩) (Below.setCell (p := ⟨w.heap.size + 1, 1, none⟩) (Below.setCell (p := ⟨w.heap.size + 1, 0, none⟩) (Below.setCell (p := ⟨w.heap.size + 1 + 1, 2, none⟩) HB3 (Nat.le_add_right w.heap.size 2) _) (Nat.le_add_right w.heap.size 1) _) (Nat.le_add_right w.heap.size 1) _) (Nat.le_add_right w.heap.size 1) _)

set_option maxHeartbeats 1000000 in
theorem toEdit_any (x : Edit) (w : World) :
  Calls Tryz.prog 87 #[.agg (encEdit x).toArray] w fun e w' => e = .returned (.agg (encEdit x).toArray) ∧ Below w.heap.size w w' := by
 unfold encEdit
 go_enter Tryz.func87, Tryz.ntmps87
 go_wp2
 exact bodyPost_ret (v := .agg (encEdit x).toArray) (by simp [results, Tryz.results87, go_sem, encEdit]) rfl ⟨rfl, (by repeat (first | exact Below.refl _ _ | assumption | refine Below.alloc ?_ (by simp <;> omega) _ | refine Below.drew ?_))⟩

theorem info_126_WT : (Tryz.prog.info? 126).map (fun i => (i.zero, i.size, i.bytes)) = some (some (.agg #[.string ByteArray.empty, .string ByteArray.empty, .bool false]), 3, 40) := by kernel_rfl
set_option maxHeartbeats 1000000 in
theorem toEditS_any {A : Option Addr} {n c : Nat} {x : List (Edit)} {fx : List Nat} (w : World) (hx : SlR Rp.edit w A n c x fx) (hl : x.length ≤ 1048576) :
  Calls Tryz.prog 44 #[.slice A n c] w (FreshS Rp.edit w x) := by
 obtain ⟨rfl, hcx, hmx, _⟩ := id hx
 unfold maxLen at hmx
 obtain ⟨i0, hi, hz0, hz1, hz2⟩ := info_parts info_126_WT
 go_enter Tryz.func44, Tryz.ntmps44
 go_wp2_with (at_make; refine wpList_make_full _ rfl _ _ 43 rfl w.heap.size 126 i0 _ 3 Tryz.underlying43 hi hz0 hz1 .i64 .i64 _ _ x.length rfl rfl rfl rfl (by rw [hz2]; omega) (by unfold maxLen; omega) nle ?_)
 intro w0 hown hgrow
 have hT : ToRel Rp.edit w x zeroEdit (some ⟨w.heap.size, 0, none⟩) 0 w0 := ToRel.start (fun _ => ⟨rfl, rfl⟩) hown ((Below.refl _ _).grown hgrow nle (fun k h => by cases h))
 clear hown hgrow
 generalize hG : (some ⟨w.heap.size, 0, none⟩ : Option Addr) = G at hT ⊢
 clear hG
 go_wp2
 go_loopw [4] (fun i wr => ∃ k : Nat, k ≤ x.length ∧ i = .int .i64 k ∧ ToRel Rp.edit w x zeroEdit G k wr) (fun i _ => x.length - (intOf i).toNat)
 case atStart => exact ⟨0, Nat.zero_le _, rfl, hT⟩
 case round =>
  obtain ⟨k, hk, rfl, hrel⟩ := hrel
  by_cases hlt : k < x.length
  ·obtain ⟨g, go, cz, rfl, hzl, hst, hbl, hcl⟩ := hrel.next hlt
   obtain ⟨b, o, rfl, hb, hm, h0, h1, h2⟩ := edit_cells (hx.below hbl nle) hlt
   have hkk : Rp.edit.k = 3 := rfl
   rw [hkk] at hzl hcl
   simp only [hkk] at hst hcl
   match cz, hzl with
   | [t0, t1, t2], _ =>
    clear hzl
    go_wp2_with fail
    refine (toEdit_any x[k] _).mono ?_; rintro e w1 ⟨rfl, hb1⟩; simp only [encEdit]
    obtain ⟨hcz, hfz⟩ := hst w1 hb1
    have z0 : w1.cell? ⟨g, go + k * 3, none⟩ = some t0 := hcz.at0; have z1 : w1.cell? ⟨g, go + k * 3 + 1, none⟩ = some t1 := hcz.tail.at0; have z2 : w1.cell? ⟨g, go + k * 3 + 2, none⟩ = some t2 := hcz.tail.tail.at0
    have y0 := hfz (go + k * 3); have y1 := hfz (go + k * 3 + 1); have y2 := hfz (go + k * 3 + 2)
    clear hcz hst
    go_wp2
    refine ⟨⟨k + 1, by omega, by go_num, ?_⟩, by simp [intOf]; omega⟩
    exact hcl w1 (encEdit x[k]) [] hb1 ⟨rfl, rfl⟩ List.nodup_nil (by simp) (Free.nil _)
  ·have hk' : k = x.length := by omega
   subst hk'
   go_wp2
   go_ret
   exact hrel.finish

set_option maxHeartbeats 2000000 in
theorem toReq_any {cs : List Value} {x : Req} {fx : List Nat} (w : World) (hx : Rp.req.R w cs x fx) (hsz : szReq x ≤ 1048576) :
  Calls Tryz.prog 10 #[.agg cs.toArray] w (FreshR Rp.req w x) := by
 obtain ⟨A0, n0, c0, f0, rfl, _, h0⟩ := hx
 unfold szReq at hsz
 have hbx0 : w.heap.size + 2 ∉ f0 := fun h => by have := h0.lt _ h; omega
 have HS0 := h0
 go_enter Tryz.func10, Tryz.ntmps10
 go_wp2_with fail
 refine (toEditS_any (x := x.edits) _ (by exact (((h0.allocN _).allocN _).allocN _)) (by unfold szL at hsz; omega)).mono ?_
 rintro e w1 ⟨B0, m0, d0, q0, rfl, hR0, hq0, hlo0, hfr0, hb1⟩
 have HB1 := Below.box3 hb1
 obtain ⟨hcc1, hff1⟩ := bcell hb1
 have hz1 : w.heap.size + 1 + 1 < w1.heap.size := by have := hb1.size; simp at this; omega
 have hy1 : w.heap.size + 1 < w1.heap.size := by omega
 have hx1 : w.heap.size < w1.heap.size := by omega
 have hl0 : ∀ b ∈ q0, w.heap.size + 3 ≤ b := fun b hb => by have := hlo0 b hb; simp at this; omega
 have hqx0 : w.heap.size + 2 ∉ q0 := fun h => by have := hl0 _ h; omega
 have hqy0 : w.heap.size + 1 ∉ q0 := fun h => by have := hl0 _ h; omega
 clear hb1
 go_wp2_with fail
 refine (toRule_any x.rule _).mono ?_
 rintro e w2 ⟨rfl, hb2⟩; simp only [encRule]
 have HB2 := Below.t (Below.setCell (p := ⟨w.heap.size + 1 + 1, 8, none⟩) HB1 (Nat.le_add_right w.heap.size 2) _) hb2
 have r2_0 := (hR0.putN hqx0 _).step hb2
 have fr2_0 := Free.step (Free.putN hfr0) hb2
 obtain ⟨hcc2, hff2⟩ := bcell hb2
 have hz2 : w.heap.size + 1 + 1 < w2.heap.size := by have := hb2.size; simp only [World.size_setCell] at this; omega
 have hy2 : w.heap.size + 1 < w2.heap.size := by omega
 have hx2 : w.heap.size < w2.heap.size := by omega
 have hsz12 : w1.heap.size ≤ w2.heap.size := by have := hb2.size; simp only [World.size_setCell] at this; exact this
 clear hb2
 go_wp2
 refine bodyPost_ret (v := .agg [.int .i64 x.user, .int .i64 x.key, .int .i64 x.repo, .int .i64 x.kind, .string x.ref, .string x.path, .int .i64 x.old, .int .i64 x.back, .slice B0 m0 d0, .int .i64 x.rule.user, .string x.rule.ref, .string x.rule.path, .bool x.rule.write, .int .i64 x.frm, .string x.other].toArray) (by simp [results, Tryz.results10, go_sem, hcc1, hz1, hy1, hx1, hcc2, hz2, hy2, hx2]) rfl ?_
 refine ⟨_, q0, rfl, ⟨B0, m0, d0, q0, rfl, rfl, by exact (((((((((((((((((((((r2_0.putN hqx0 _).putN hqx0 _).putN hqx0 _).putN hqx0 _).putN hqx0 _).putN hqx0 _).putN hqy0 _).putN hqy0 _).putN hqy0 _).putN hqy0 _).putN hqy0 _).putN hqy0 _).putN hqy0 _).putN hqy0 _).putN hqy0 _).putN hqy0 _).putN hqy0 _).putN hqy0 _).putN hqy0 _).putN hqy0 _).putN hqy0 _)⟩, ?_, ?_, ?_, ?_⟩
 ·exact hq0
 ·exact fun b hb => by have := hl0 b hb; omega
 ·exact (Free.putN (Free.putN (Free.putN (Free.putN (Free.putN (Free.putN (Free.putN (Free.putN (Free.putN (Free.putN (Free.putN (Free.putN (Free.putN (Free.putN (Free.putN (Free.putN (Free.putN (Free.putN (Free.putN (Free.putN (Free.putN fr2_0)))))))))))))))))))))
 ·exact (Below.setCell (p := ⟨w.heap.size + 1, 14, none⟩) (Below.setCell (p := ⟨w.heap.size + 1, 13, none⟩) (Below.setCell (p := ⟨w.heap.size + 1, 12, none⟩) (Below.setCell (p := ⟨w.heap.size + 1, 11, none⟩) (Below.setCell (p := ⟨w.heap.size + 1, 10, none⟩) (Below.setCell (p := ⟨w.heap.size + 1, 9, none⟩) (Below.setCell (p := ⟨w.heap.size + 1, 8, none⟩) (Below.setCell (p := ⟨w.heap.size + 1, 7, none⟩) (Below.setCell (p := ⟨w.heap.size + 1, 6, none⟩) (Below.setCell (p := ⟨w.heap.size + 1, 5, none⟩) (Below.setCell (p := ⟨w.heap.size + 1, 4, none⟩) (Below.setCell (p := ⟨w.heap.size + 1, 3, none⟩) (Below.setCell (p := ⟨w.heap.size + 1, 2, none⟩) (Below.setCell (p := ⟨w.heap.size + 1, 1, none⟩) (Below.setCell (p := ⟨w.heap.size + 1, 0, none⟩) (Below.setCell (p := ⟨w.heap.size + 1 + 1, 14, none⟩) (Below.setCell (p := ⟨w.heap.size + 1 + 1, 13, none⟩) (Below.setCell (p := ⟨w.heap.size + 1 + 1, 12, none⟩) (Below.setCell (p := ⟨w.heap.size + 1 + 1, 11, none⟩) (Below.setCell (p := ⟨w.heap.size + 1 + 1, 10, none⟩) (Below.setCell (p := ⟨w.heap.size + 1 + 1, 9, none⟩) HB2 (Nat.le_add_right w.heap.size 2) _) (Nat.le_add_right w.heap.size 2) _) (Nat.le_add_right w.heap.size 2) _) (Nat.le_add_right w.heap.size 2) _) (Nat.le_add_right w.heap.size 2) _) (Nat.le_add_right w.heap.size 2) _) (Nat.le_add_right w.heap.size 1) _) (Nat.le_add_right w.heap.size 1) _) (Nat.le_add_right w.heap.size 1) _) (Nat.le_add_right w.heap.size 1) _) (Nat.le_add_right w.heap.size 1) _) (Nat.le_add_right w.heap.size 1) _) (Nat.le_add_right w.heap.size 1) _) (Nat.le_add_right w.heap.size 1) _) (Nat.le_add_right w.heap.size 1) _) (Nat.le_add_right w.heap.size 1) _) (Nat.le_add_right w.heap.size 1) _) (Nat.le_add_right w.heap.size 1) _) (Nat.le_add_right w.heap.size 1) _) (Nat.le_add_right w.heap.size 1) _) (Nat.le_add_right w.heap.size 1) _)

theorem setCells_puts (b : Nat) : ∀ (vs : List Value) (o : Nat) (w : World), w.setCells b o vs = puts w b o vs
 | [], _, _ => rfl
 | v :: vs, o, w => setCells_puts b vs (o + 1) (w.setCell ⟨b, o, none⟩ v)
theorem zeroCells_eq (z : Array Value) (k : Nat) (hk : z.size = k) (n : Nat) : (Builtin.zeroCells z n).toList = (List.replicate n z.toList).flatten := by
 rw [← made_flatten z k hk n]
 simp [Builtin.zeroCells, madeCells, hk]

theorem run_clear {P : Program} (w : World) (t e ty : TypeId) (z : Value) (k : Nat) (ht : P.underlying t = some (.slice e)) (hv : ∀ w, (zeroValue e).run P w = .ok z w) (hz : z.cells.size = k) (h1 : ∀ v ∈ z.cells.toList, v.oneCell' = true) (b o n c : Nat)
  (hc : ∀ j, j < n * k → (w.cell? ⟨b, o + j, none⟩).isSome = true) (hf : ∀ j, j < n * k → w.frozen? ⟨b, o + j, none⟩ = false) :
  (Builtin.clear_ #[t] ty #[.slice (some ⟨b, o, none⟩) n c]).run P w = .ok (.tuple #[]) (puts w b o (List.replicate n z.cells.toList).flatten) := by
 have hl : (List.replicate n z.cells.toList).flatten.length = n * k := by simp [hz]
 have hst := run_storeCells_cells (P := P) b o (List.replicate n z.cells.toList).flatten 0 w (by rw [hl]; simpa using hc) (by rw [hl]; simpa using hf) (by
  intro v hv'
  obtain ⟨l, hl', hm⟩ := List.mem_flatten.1 hv'
  rw [List.eq_of_mem_replicate hl'] at hm
  exact h1 v hm)
 simp only [Nat.add_zero] at hst
 rw [setCells_puts] at hst
 cases n with
 | zero => simp [Builtin.clear_, run_underlying ht, puts]
 | succ m =>
  have hzc := zeroCells_eq z.cells k hz (m + 1)
  simp [Builtin.clear_, run_underlying ht, hv, hzc, hst]
theorem puts_cell_lt {b : Nat} : ∀ {vs : List Value} {o : Nat} {w : World} {x : Nat}, x < o → (puts w b o vs).cell? ⟨b, x, none⟩ = w.cell? ⟨b, x, none⟩
 | [], _, _, _, _ => rfl
 | v :: vs, o, w, x, h => (puts_cell_lt (vs := vs) (by omega)).trans (World.cell?_setCell_other _ _ _ _ (by simp only [ne_eq, Addr.mk.injEq]; omega))
theorem puts_only {b : Nat} {fp : List Nat} (hb : b ∈ fp) : ∀ {vs : List Value} {o : Nat} {w : World}, Only fp w (puts w b o vs)
 | [], _, _ => Only.refl _ _
 | v :: vs, o, w => ((Only.refl fp w).setCell (p := ⟨b, o, none⟩) (.inl hb) v).trans (puts_only hb)
section
variable {α : Type} {k : Nat} {enc : α → List Value} {hk : ∀ x, (enc x).length = k} {h1 : ∀ x, ∀ u ∈ enc x, u.oneCell' = true} {w : World} {A : Option Addr} {n c b o : Nat} {l : List α} {fp : List Nat}
theorem SlR.cell_some {α : Type} {r : Rp α} {l : List α} (h : SlR r w A n c l fp) (hA : A = some ⟨b, o, none⟩) {j : Nat} (hj : j < l.length * r.k) : ∃ u, w.cell? ⟨b, o + j, none⟩ = some u := by
 obtain ⟨hn, h1, h2, xs, f0, f1, hs, ha, hf⟩ := h
 have hl := hs.1
 rcases hs.2 with ⟨h0, _⟩ | ⟨hn0, b', o', hA', hf0, hb, hc⟩
 ·rw [← hn, h0] at hj; omega
 ·rw [hA] at hA'
  cases hA'
  have hjx : j < xs.length := by rw [hl, hn]; exact hj
  exact ⟨xs[j], hc j _ (List.getElem?_eq_getElem hjx)⟩
theorem SlR.cut_puts (h : SlR (Rp.flat k enc hk h1) w A n c l fp) (hA : A = some ⟨b, o, none⟩) {i : Nat} (hi : i ≤ l.length) (vs : List Value) : ∃ f, SlR (Rp.flat k enc hk h1) (puts w b (o + i * k) vs) A i c (l.take i) f ∧ ∀ x ∈ f, x ∈ fp := by
 obtain ⟨f, hs, hsub⟩ := h.take hi
 refine ⟨f, ?_, hsub⟩
 obtain ⟨hn, g1, g2, xs, f0, f1, hsl, ha, hf⟩ := hs
 obtain ⟨e1, e2⟩ := AllR.flat.1 ha
 have hl := hsl.1
 refine ⟨hn, g1, g2, xs, f0, f1, ⟨hl, ?_⟩, AllR.flat.2 ⟨e1, e2⟩, hf⟩
 rcases hsl.2 with h0 | ⟨hn0, b', o', hA', hf0, hb, hc⟩
 ·exact .inl h0
 ·rw [hA] at hA'
  cases hA'
  refine .inr ⟨hn0, b, o, hA, hf0, by rw [puts_size]; exact hb, fun j u hu => ?_⟩
  have hj := (List.getElem?_eq_some_iff.1 hu).1
  rw [hl] at hj
  rw [puts_cell_lt (by have : (Rp.flat k enc hk h1).k = k := rfl; rw [this] at hj; omega)]
  exact hc j u hu
end

structure DelRel (p : Rule → Bool) (l : List Rule) (w : World) (A : Option Addr) (c : Nat) (fp : List Nat) (i j : Nat) (dk : List Rule) (wr : World) : Prop where
 lt : i < j
 le : j ≤ l.length
 sl : SlR Rp.rule wr A l.length c dk fp
 kept : dk.take i = (l.take j).filter fun x => !p x
 rest : ∀ t, j ≤ t → dk[t]? = l[t]?
 only : Only fp w wr
 free : Free wr fp
section
variable {p : Rule → Bool} {l : List Rule} {w : World} {A : Option Addr} {c : Nat} {fp : List Nat} {i j : Nat} {dk : List Rule} {wr w1 : World}
theorem DelRel.len (h : DelRel p l w A c fp i j dk wr) : dk.length = l.length := h.sl.1.symm
theorem DelRel.step (h : DelRel p l w A c fp i j dk wr) (hb : Below wr.heap.size wr w1) : DelRel p l w A c fp i j dk w1 :=
 ⟨h.lt, h.le, h.sl.step hb, h.kept, h.rest, h.only.then_below hb, h.free.step hb⟩
theorem DelRel.skip (h : DelRel p l w A c fp i j dk wr) (hj : j < l.length) (hp : p l[j] = true) : DelRel p l w A c fp i (j + 1) dk wr :=
 ⟨by have := h.lt; omega, hj, h.sl, by rw [h.kept, List.take_succ_eq_append_getElem hj, List.filter_append]; simp [hp], fun t ht => h.rest t (by omega), h.only, h.free⟩
theorem DelRel.at_ (h : DelRel p l w A c fp i j dk wr) (hj : j < l.length) (hd : j < dk.length) : dk[j] = l[j] := by
 have := h.rest j nle
 rw [List.getElem?_eq_getElem hj, List.getElem?_eq_getElem hd] at this
 exact Option.some.inj this
theorem DelRel.keep (h : DelRel p l w A c fp i j dk wr) (hj : j < l.length) (hp : p l[j] = false) {w' : World} (hs : SlR Rp.rule w' A l.length c (dk.set i l[j]) fp) (ho : Only fp w w') (hf : Free w' fp) : DelRel p l w A c fp (i + 1) (j + 1) (dk.set i l[j]) w' := by
 have hl := h.len
 have hi := h.lt
 refine ⟨by omega, hj, hs, ?_, fun t ht => ?_, ho, hf⟩
 ·have hlt : i < (dk.set i l[j]).length := by simp; omega
  rw [List.take_succ_eq_append_getElem hlt, List.take_set_of_le nle, h.kept, List.take_succ_eq_append_getElem hj, List.filter_append]
  simp [hp]
 ·rw [List.getElem?_set_ne (by omega)]
  exact h.rest t (by omega)
end

set_option maxHeartbeats 4000000 in
set_option maxRecDepth 20000 in
theorem delRule_any {A : Option Addr} {n c : Nat} {l : List Rule} {fp : List Nat} (p : Rule → Bool) (g : Nat) (lb : Array Value) (eg : ∀ args w, (callFunc g args).run Tryz.prog w = .ok (.enter g args) w) (w : World) (hx : SlR Rp.rule w A n c l fp) (hn : fp.Nodup) (hf : Free w fp)
  (hp : ∀ (x : Rule) (w1 : World), Only fp w w1 → Calls Tryz.prog g (#[.agg (encRule x).toArray] ++ lb) w1 fun e w2 => e = .returned (.bool (p x)) ∧ Below w1.heap.size w1 w2) :
  Calls Tryz.prog 174 #[.slice A n c, .func (.func g) #[] lb] w fun e w' =>
   ∃ m fp', e = .returned (.slice A m c) ∧ SlR Rp.rule w' A m c (l.filter fun x => !p x) fp' ∧ (∀ b ∈ fp', b ∈ fp) ∧ Only fp w w' := by
 obtain ⟨rfl, hcx, hmx, _⟩ := id hx
 unfold maxLen at hmx
 have HP := hide hp
 have HX := hide hx
 have HN := hide hn
 have HF := hide hf
 have HI := hide (idxRule_any p g lb eg w hx fun i hi cs fq w1 hB hR => by
  obtain ⟨rfl, rfl⟩ := hR
  exact HP.out l[i] w1 (Only.of_below hB fp))
 clear hp hx hn hf
 go_enter Tryz.func174, Tryz.ntmps174
 cases hd : l.findIdx? p with
 | none =>
  have e1 : idxP p l = -1 := by unfold idxP; rw [hd]
  have HK := hide (show (l.filter fun x => !p x) = l from List.filter_eq_self.2 fun x hx => by simpa using List.findIdx?_eq_none_iff.1 hd x hx)
  rw [e1] at HI
  clear hd e1
  go_wp2_with fail
  refine HI.out.mono ?_
  rintro e w1 ⟨rfl, hb1⟩
  go_wp2
  go_ret
  refine ⟨l.length, fp, rfl, ?_, fun b hb => hb, Only.of_below hb1 fp⟩
  rw [HK.out]
  exact HX.out.step hb1
 | some k0 =>
  obtain ⟨hk0, hpk, hbef⟩ := List.findIdx?_eq_some_iff_getElem.1 hd
  have e1 : idxP p l = k0 := by unfold idxP; rw [hd]
  have HS := hide (show l.take k0 = (l.take (k0 + 1)).filter fun x => !p x by
   rw [List.take_succ_eq_append_getElem hk0, List.filter_append]
   simp only [List.filter_cons, hpk, Bool.not_true, List.filter_nil]
   rw [List.filter_eq_self.2 fun x hx => by
    obtain ⟨i, hi, rfl⟩ := List.mem_take_iff_getElem.1 hx
    simpa using hbef i (by omega)]
   simp)
  rw [e1] at HI
  clear hd e1 hpk hbef
  go_wp2_with fail
  refine HI.out.mono ?_
  rintro e w1 ⟨rfl, hb1⟩
  have HR := hide (show DelRel p l w A c fp k0 (k0 + 1) l w1 from ⟨by omega, by omega, HX.out.step hb1, HS.out, fun _ _ => rfl, Only.of_below hb1 fp, HF.out.step hb1⟩)
  have hk1 : ((k0 : Int) == -1) = false := by simp
  clear hb1 HI HS HF
  go_wp2
  go_loopw [5, 6] (fun iv jv wr => ∃ (i j : Nat) (dk : List Rule), iv = .int .i64 (i : Int) ∧ jv = .int .i64 (j : Int) ∧ DelRel p l w A c fp i j dk wr) (fun _ jv _ => l.length - (intOf jv).toNat)
  case atStart => exact ⟨k0, k0 + 1, l, rfl, by go_num, HR.out⟩
  case round =>
   obtain ⟨i, j, dk, rfl, rfl, hrel⟩ := hrel
   have hij := hrel.lt
   have hjl := hrel.le
   have hdl := hrel.len
   have HD := hide hrel
   clear hrel HR hk1
   by_cases hlt : j < l.length
   ·have hlt' : j < dk.length := by omega
    obtain ⟨b, o, rfl, hb, hm, h0, h1, h2, h3⟩ := rule_cells HD.out.sl (by omega : j < dk.length)
    rw [HD.out.at_ hlt hlt'] at h0 h1 h2 h3
    have hcall := HP.out l[j] (wr.alloc (.cells (encRule l[j]).toArray 44)) (HD.out.only.alloc _)
    unfold encRule at hcall
    have HC := hide hcall
    clear hcall
    have kb := Blk.new wr 44 (encRule l[j]).toArray
    have hbA := (Below.refl wr.heap.size wr).alloc nle (.cells (encRule l[j]).toArray 44)
    go_wp2_with fail
    refine HC.out.mono ?_
    rintro e w2 ⟨rfl, hb2⟩
    replace kb := kb.step hb2
    have HD2 := hide ((HD.out.step hbA).step hb2)
    have q0 := Blk.c0 kb
    have q1 := Blk.c1 kb
    have q2 := Blk.c2 kb
    have q3 := Blk.c3 kb
    clear hb2 hbA kb h0 h1 h2 h3 HC HD
    cases hd : p l[j]
    ·obtain ⟨b', o', cs, f, hA, hfn, ⟨rfl, rfl⟩, hE, hcl⟩ := HD2.out.sl.elem HN.out HD2.out.free (i := i) (by omega)
     cases hA
     have c0 := hE.cells.at0
     have c1 := hE.cells.tail.at0
     have c2 := hE.cells.tail.tail.at0
     have c3 := hE.cells.tail.tail.tail.at0
     have z0 := hE.frozen (o + i * 4)
     have z1 := hE.frozen (o + i * 4 + 1)
     have z2 := hE.frozen (o + i * 4 + 1 + 1)
     have z3 := hE.frozen (o + i * 4 + 1 + 1 + 1)
     have i0 : (i : Int) < (l.length : Int) := by omega
     simp only [show Rp.rule.k = 4 from rfl] at c0 c1 c2 c3
     have HE := hide hE
     have HCL := hide hcl
     have HQ := hide hd
     clear hE hcl hd
     have HS := hide (HCL.out _ (encRule l[j]) l[j] (HE.out.puts (vs := encRule l[j]) rfl) ⟨rfl, rfl⟩)
     have HO := hide (HD2.out.only.then_only (HE.out.puts (vs := encRule l[j]) rfl).only fun _ hx => .inl hx)
     have HM := hide (HD2.out.keep hlt HQ.out HS.out HO.out (HE.out.puts (vs := encRule l[j]) rfl).free)
     clear HS HO HCL
     go_wp2
     exact ⟨⟨i + 1, j + 1, dk.set i l[j], by go_num, by go_num, HM.out⟩, by simp [intOf]; omega⟩
    ·have HM := hide (HD2.out.skip hlt hd)
     clear hd q0 q1 q2 q3
     go_wp2
     exact ⟨⟨i, j + 1, dk, rfl, by go_num, HM.out⟩, by simp [intOf]; omega⟩
   ·have hj : j = l.length := by omega
    subst hj
    have hil : i < dk.length := by omega
    obtain ⟨b, o, rfl, hb, hm, _⟩ := rule_cells HD.out.sl hil
    have hcl : ∀ ty, (Builtin.clear_ #[93] ty #[.slice (some ⟨b, o + i * 4, none⟩) (l.length - i) (c - i)]).run Tryz.prog wr = .ok (.tuple #[]) (puts wr b (o + i * 4) (List.replicate (l.length - i) [.int .i64 0, .string ByteArray.empty, .string ByteArray.empty, .bool false]).flatten) := fun ty =>
     run_clear (P := Tryz.prog) wr 93 44 ty (.agg #[.int .i64 0, .string ByteArray.empty, .string ByteArray.empty, .bool false]) 4 Tryz.underlying93 (fun w => by kernel_rfl) rfl (by intro v hv; simp [Value.cells] at hv; rcases hv with rfl | rfl | rfl | rfl <;> rfl) b (o + i * 4) _ _
      (fun t ht => by
       obtain ⟨u, hu⟩ := HD.out.sl.cell_some rfl (j := i * 4 + t) (by simp only [show Rp.rule.k = 4 from rfl]; omega)
       rw [show o + i * 4 + t = o + (i * 4 + t) by omega, hu]; rfl)
      (fun t _ => HD.out.free.frozen hm _)
    have i1 : (i : Int) ≤ (l.length : Int) := by omega
    have i2 : (i : Int) ≤ (c : Int) := by omega
    go_wp2
    go_ret
    obtain ⟨fp', h1, h2⟩ := HD.out.sl.cut_puts rfl (i := i) (by omega) (List.replicate (l.length - i) [.int .i64 0, .string ByteArray.empty, .string ByteArray.empty, .bool false]).flatten
    refine ⟨i, fp', rfl, ?_, h2, HD.out.only.then_only (puts_only hm) fun _ hx => .inl hx⟩
    have hk := HD.out.kept
    rw [List.take_length] at hk
    rw [← hk]
    exact h1
set_option maxHeartbeats 1000000 in
theorem rulOut1_any (x r : Rule) (b1 : Nat) (t : TypeId) (w : World) (k1 : Blk w b1 t (encRule r).toArray) :
  Calls Tryz.prog 175 #[.agg (encRule x).toArray, .pointer (some ⟨b1, 0, none⟩)] w fun e w' => e = .returned (.bool (decide (x = r))) ∧ Below w.heap.size w w' := by
 have heq := eqlRule x r
 have hgd := gdRule
 rw [show (encRule x).toArray = #[.int .i64 x.user, .string x.ref, .string x.path, .bool x.write] from rfl] at heq ⊢
 rw [show (encRule r).toArray = #[.int .i64 r.user, .string r.ref, .string r.path, .bool r.write] from rfl] at heq
 have k2 := k1.alloc (.cells #[.int .i64 x.user, .string x.ref, .string x.path, .bool x.write] 44)
 have c0 : (w.alloc (.cells #[.int .i64 x.user, .string x.ref, .string x.path, .bool x.write] 44)).cell? ⟨b1, 0, none⟩ = some (.int .i64 r.user) := k2.cell 0
 have c1 : (w.alloc (.cells #[.int .i64 x.user, .string x.ref, .string x.path, .bool x.write] 44)).cell? ⟨b1, 1, none⟩ = some (.string r.ref) := k2.cell 1
 have c2 : (w.alloc (.cells #[.int .i64 x.user, .string x.ref, .string x.path, .bool x.write] 44)).cell? ⟨b1, 2, none⟩ = some (.string r.path) := k2.cell 2
 have c3 : (w.alloc (.cells #[.int .i64 x.user, .string x.ref, .string x.path, .bool x.write] 44)).cell? ⟨b1, 3, none⟩ = some (.bool r.write) := k2.cell 3
 clear k1 k2
 go_enter Tryz.func175, Tryz.ntmps175
 go_wp2
 go_ret
 exact ⟨rfl, (Below.refl _ _).alloc nle _⟩

set_option maxHeartbeats 1000000 in
theorem implRulOut_any {A : Option Addr} {n c : Nat} {l : List Rule} {fp : List Nat} (r : Rule) (w : World) (hx : SlR Rp.rule w A n c l fp) (hl : l.length ≤ 4194304) :
  Calls Tryz.prog 152 #[.slice A n c, .agg (encRule r).toArray] w (OwnFB 44 4 encRule w (rulOut l r) (decide ((rulOut l r).length < l.length))) := by
 have hmf := makeFunc_run
 have hn := hx.1
 subst hn
 have kb := Blk.new w 44 (encRule r).toArray
 have hx1 := hx.allocN (.cells (encRule r).toArray 44)
 have hbA := (Below.refl w.heap.size w).alloc nle (.cells (encRule r).toArray 44)
 rw [show (encRule r).toArray = #[.int .i64 r.user, .string r.ref, .string r.path, .bool r.write] from rfl] at kb hx1 hbA ⊢
 clear hx
 go_enter Tryz.func152, Tryz.ntmps152
 go_wp2_with fail
 refine (cloneRules_any _ hx1 hl).mono ?_
 rintro e w1 ⟨v, rfl, hown, hb1⟩
 replace kb := kb.step hb1
 have hb1' := hbA.trans (hb1.mono hbA.size)
 have hsz := hb1.size
 simp only [World.size_alloc] at hsz hown
 obtain ⟨A', c', f, rfl, hs, hfb, hnd, hfr⟩ := own_sl (k := 4) (enc := encRule) (hk := fun _ => rfl) (h1 := encRule_one) hown
 clear hown hb1 hbA hx1
 go_wp2_with fail
 refine (delRule_any (fun x => decide (x = r)) _ _ (enters_of Tryz.func175 (by kernel_rfl) rfl) _ hs hnd hfr (fun x wz ho => ?_)).mono ?_
 ·exact rulOut1_any x r w.heap.size _ wz (kb.only ho (fun hm => by have := hfb _ hm; omega))
 ·rintro e w2 ⟨m, fp', rfl, hs2, hsub, ho2⟩
  have hn2 := hs2.1
  subst hn2
  have hbl := hb1'.trans (ho2.below (B := w.heap.size) (fun b hb => by have := hfb b hb; omega) hb1'.size)
  have hlen : (l.filter fun x => !decide (x = r)).length ≤ l.length := List.length_filter_le _ _
  go_wp2_with fail
  refine (cloneRules_any _ hs2 (by omega)).mono ?_
  rintro e w3 ⟨v3, rfl, hown3, hb3⟩
  have HW := hide (own_base hown3 hbl.size)
  have HBL := hide (Below.t hbl hb3)
  clear hown3 hb3 hbl ho2 hs2 hsub
  go_wp2
  go_ret2
  refine ⟨v3, ?_, HW.out, HBL.out⟩
  rw [show decide ((rulOut l r).length < l.length) = decide (r ∈ l) from decide_eq_decide.2 (by unfold rulOut; simp)]
  rfl
theorem infoC_Ref2 : (Tryz.prog.info? 99).map (fun i => (i.zero, i.size, i.bytes)) = some (some (.agg #[.string ByteArray.empty, .bool false, .int .i64 0, .slice none 0 0]), 4, 56) := by kernel_rfl
def namedTo (l : List Ref) (x : Ref) (k : Nat) (d : Bool) (o : List Ref) : Prop :=
 (d = false ∧ o = l.take k ∧ lessR l x.name k) ∨ (d = true ∧ ∃ j, j < k ∧ j ≤ l.length ∧ lessR l x.name j ∧ (∀ h : j < l.length, bLt l[j].name x.name = false) ∧ o = l.take j ++ x :: (l.take k).drop j)
theorem namedTo.zero {l : List Ref} {x : Ref} : namedTo l x 0 false [] := .inl ⟨rfl, rfl, lessR.zero⟩
theorem namedTo.skip {l o : List Ref} {x : Ref} {k : Nat} (h : namedTo l x k false o) (hk : k < l.length) (hl : bLt l[k].name x.name = true) : namedTo l x (k + 1) false (o ++ [l[k]]) := by
 rcases h with ⟨_, rfl, h⟩ | ⟨h, _⟩
 ·exact .inl ⟨rfl, (List.take_succ_eq_append_getElem hk).symm, h.next hk hl⟩
 ·cases h
theorem namedTo.here {l o : List Ref} {x : Ref} {k : Nat} (h : namedTo l x k false o) (hk : k < l.length) (hl : bLt l[k].name x.name = false) : namedTo l x (k + 1) true (o ++ [x] ++ [l[k]]) := by
 rcases h with ⟨_, rfl, h⟩ | ⟨h, _⟩
 ·refine .inr ⟨rfl, k, by omega, by omega, h, fun _ => hl, ?_⟩
  have e : (l.take (k + 1)).drop k = [l[k]] := by
   rw [List.take_succ_eq_append_getElem hk, List.drop_append_of_le_length (by simp; omega), List.drop_eq_nil_of_le (by simp; omega), List.nil_append]
  rw [e, List.append_assoc]
  rfl
 ·cases h
theorem namedTo.more {l o : List Ref} {x : Ref} {k : Nat} (h : namedTo l x k true o) (hk : k < l.length) : namedTo l x (k + 1) true (o ++ [l[k]]) := by
 rcases h with ⟨h, _⟩ | ⟨_, j, h1, h2, h3, h4, rfl⟩
 ·cases h
 ·refine .inr ⟨rfl, j, by omega, h2, h3, h4, ?_⟩
  rw [List.take_succ_eq_append_getElem hk, List.drop_append_of_le_length (by simp; omega)]
  simp
theorem namedTo.end_ {l o : List Ref} {x : Ref} (h : namedTo l x l.length true o) : o = insBy (fun y => bLt y.name x.name) x l := by
 rcases h with ⟨h, _⟩ | ⟨_, j, h1, h2, h3, h4, rfl⟩
 ·cases h
 ·rw [List.take_length, insBy_at (lt := fun y : Ref => bLt y.name x.name) (x := x) (l := l) (k := j) h3 h2 h4]
theorem namedTo.last {l o : List Ref} {x : Ref} (h : namedTo l x l.length false o) : o ++ [x] = insBy (fun y => bLt y.name x.name) x l := by
 rcases h with ⟨_, rfl, h⟩ | ⟨h, _⟩
 ·rw [insBy_at (lt := fun y : Ref => bLt y.name x.name) (x := x) (l := l) (k := l.length) h nle (fun h => absurd h (Nat.lt_irrefl _)), List.take_length, List.drop_length]
 ·cases h
theorem namedTo.len {l o : List Ref} {x : Ref} {k : Nat} {d : Bool} (h : namedTo l x k d o) (hk : k ≤ l.length) : o.length ≤ k + 1 := by
 rcases h with ⟨_, rfl, h⟩ | ⟨_, j, h1, h2, h3, h4, rfl⟩
 ·simp; omega
 ·simp; omega
def Gath (b H : Nat) (fx : List Nat) (w : World) (v : Value) (o : List Ref) : Prop :=
 ∃ xs f1, w.ownsRow b 99 4 v o.length xs ∧ AllR Rp.ref w xs o f1 ∧ (∀ z ∈ f1, z < H ∧ z ≠ b ∧ (z ∈ fx ∨ b ≤ z)) ∧ ∀ z, v.ownBlock = some z → z = b ∨ H ≤ z
theorem Gath.more {b H : Nat} {fx : List Nat} {wA w2 : World} {v : Value} {o : List Ref} {x : Ref} {xs ys : List Value} {f1 f : List Nat} {g cap : Nat} (ha : AllR Rp.ref wA xs o f1) (hf : ∀ z ∈ f1, z < H ∧ z ≠ b ∧ (z ∈ fx ∨ b ≤ z)) (hv : ∀ z, v.ownBlock = some z → z = b ∨ H ≤ z) (hx : Rp.ref.R wA ys x f) (hfx : ∀ z ∈ f, z < H ∧ z ≠ b ∧ (z ∈ fx ∨ b ≤ z))
  (ho : w2.ownsRow b 99 4 (.slice (some ⟨g, 0, none⟩) (o.length + 1) cap) (o.length + 1) (xs ++ ys)) (hg : wA.grownBy w2 v.ownBlock) (hor : v.ownBlock = some g ∨ g = wA.heap.size) (hH : H ≤ wA.heap.size) : Gath b H fx w2 (.slice (some ⟨g, 0, none⟩) (o.length + 1) cap) (o ++ [x]) := by
 have hk : ∀ z, z < wA.heap.size → z < H ∧ z ≠ b → w2.heap[z]? = wA.heap[z]? := fun z hz h => hg.block z hz fun e => by rcases hv z e.symm with h1 | h1 <;> omega
 refine ⟨xs ++ ys, f1 ++ f, by simpa using ho, ((ha.keep fun z hz => hk z (ha.lt z hz) ⟨(hf z hz).1, (hf z hz).2.1⟩).snoc (Rp.ref.keep hx fun z hz => hk z (Rp.ref.lt hx z hz) ⟨(hfx z hz).1, (hfx z hz).2.1⟩)), fun z hz => ?_, fun z hz => ?_⟩
 ·rcases List.mem_append.1 hz with h | h
  ·exact hf z h
  ·exact hfx z h
 ·simp only [Value.ownBlock, Option.some.injEq] at hz
  subst hz
  rcases hor with h | h
  ·exact hv _ h
  ·exact .inr (by omega)
def NamedAt (w : World) (l : List Ref) (fx : List Nat) (e : Ending) (w' : World) : Prop :=
 ∃ A n c f, e = .returned (.slice A n c) ∧ SlR Rp.ref w' A n c l f ∧ (∀ z ∈ f, z ∈ fx ∨ w.heap.size ≤ z) ∧ Below w.heap.size w w'
def ctAnsM (x : Ans) : Nat := countL ctFile x.files + countL (fun _ => 1) x.names
def mkAnsM (x : Ans) (k : Int) : Ans := ⟨x.code, markL mkFile ctFile x.files k, markL (fun _ k => markTx k) (fun _ => 1) x.names (k + (countL ctFile x.files : Nat)), x.n⟩

set_option maxHeartbeats 2000000 in
theorem markReq_any {cs : List Value} {x : Req} {fx : List Nat} (k0 : Int) (w : World) (hx : Rp.req.R w cs x fx) (hnd : fx.Nodup) (hfr : Free w fx) (hk0 : 0 ≤ k0) (hkm : k0 + (countL ctEdit x.edits : Nat) ≤ 1152921504606846976) :
  Calls Tryz.prog 16 #[.agg cs.toArray, .int .i64 k0] w fun e w' => e = .returned (.int .i64 (k0 + (countL ctEdit x.edits : Nat))) ∧ Only fx w w' ∧ Free w' fx := by
 obtain ⟨A0, n0, c0, f0, rfl, rfl, h0⟩ := hx
 have n0' : 0 ≤ ((countL ctEdit x.edits : Nat) : Int) := by omega
 have HO := (Only.refl fx w).alloc (.cells #[.int .i64 x.user, .int .i64 x.key, .int .i64 x.repo, .int .i64 x.kind, .string x.ref, .string x.path, .int .i64 x.old, .int .i64 x.back, .slice A0 n0 c0, .int .i64 x.rule.user, .string x.rule.ref, .string x.rule.path, .bool x.rule.write, .int .i64 x.frm, .string x.other] 46)
 have HFR := hfr.step ((Below.refl w.heap.size w).alloc nle (.cells #[.int .i64 x.user, .int .i64 x.key, .int .i64 x.repo, .int .i64 x.kind, .string x.ref, .string x.path, .int .i64 x.old, .int .i64 x.back, .slice A0 n0 c0, .int .i64 x.rule.user, .string x.rule.ref, .string x.rule.path, .bool x.rule.write, .int .i64 x.frm, .string x.other] 46))
 replace h0 := h0.allocN (.cells #[.int .i64 x.user, .int .i64 x.key, .int .i64 x.repo, .int .i64 x.kind, .string x.ref, .string x.path, .int .i64 x.old, .int .i64 x.back, .slice A0 n0 c0, .int .i64 x.rule.user, .string x.rule.ref, .string x.rule.path, .bool x.rule.write, .int .i64 x.frm, .string x.other] 46)
 clear hfr
 go_enter Tryz.func16, Tryz.ntmps16
 go_wp2_with fail
 refine (markEditS_any k0 _ h0 hnd HFR hk0 (by omega)).mono ?_
 rintro e w1 ⟨rfl, _, ho, hf⟩
 have HOO := hide (HO.then_only ho (fun z hz => .inl hz))
 have HFF := hide hf
 clear ho hf HO HFR h0
 go_wp2
 go_ret
 exact ⟨rfl, HOO.out, HFF.out⟩

set_option maxHeartbeats 2000000 in
theorem markAns_any {cs : List Value} {x : Ans} {fx : List Nat} (k0 : Int) (w : World) (hx : Rp.ans.R w cs x fx) (hnd : fx.Nodup) (hfr : Free w fx) (hk0 : 0 ≤ k0) (hkm : k0 + (ctAnsM x : Nat) ≤ 1152921504606846976) :
  Calls Tryz.prog 17 #[.agg cs.toArray, .int .i64 k0] w fun e w' => e = .returned (.int .i64 (k0 + (ctAnsM x : Nat))) ∧ Rp.ans.R w' cs (mkAnsM x k0) fx ∧ Only fx w w' ∧ Free w' fx := by
 obtain ⟨A0, n0, c0, f0, A1, n1, c1, f1, rfl, rfl, h0, h1⟩ := hx
 have hct : ((ctAnsM x : Nat) : Int) = ((countL ctFile x.files : Nat) : Int) + ((countL (fun _ => 1) x.names : Nat) : Int) := by unfold ctAnsM; omega
 rw [hct] at hkm ⊢
 have n0' : 0 ≤ ((countL ctFile x.files : Nat) : Int) := by omega
 have n1' : 0 ≤ ((countL (fun _ => 1) x.names : Nat) : Int) := by omega
 have d0 := disj_left hnd
 have d0' := disj_right hnd
 have m0 := (List.nodup_append.1 hnd).1
 have m1 := (List.nodup_append.1 hnd).2.1
 have kb := Blk.new w 39 #[.int .i64 x.code, .slice A0 n0 c0, .slice A1 n1 c1, .int .i64 x.n]
 have hgl : ∀ z ∈ f0 ++ f1, z < w.heap.size := hfr.lt
 have HFR := hfr.step ((Below.refl w.heap.size w).alloc nle (.cells #[.int .i64 x.code, .slice A0 n0 c0, .slice A1 n1 c1, .int .i64 x.n] 39))
 replace h0 := h0.allocN (.cells #[.int .i64 x.code, .slice A0 n0 c0, .slice A1 n1 c1, .int .i64 x.n] 39)
 replace h1 := h1.allocN (.cells #[.int .i64 x.code, .slice A0 n0 c0, .slice A1 n1 c1, .int .i64 x.n] 39)
 have HO := (Only.refl (f0 ++ f1) w).alloc (.cells #[.int .i64 x.code, .slice A0 n0 c0, .slice A1 n1 c1, .int .i64 x.n] 39)
 have hnb : ∀ f : List Nat, (∀ z ∈ f, z ∈ f0 ++ f1) → w.heap.size ∉ f := fun f hf hm => by have := hgl _ (hf _ hm); omega
 have HNB := hide hnb
 have HD := hide (show (∀ z ∈ f0, z ∈ f0 ++ f1) ∧ (∀ z ∈ f1, z ∈ f0 ++ f1) from ⟨fun z hz => by simp [hz], fun z hz => by simp [hz]⟩)
 clear hnb hgl hnd hfr
 go_enter Tryz.func17, Tryz.ntmps17
 go_wp2_with fail
 refine (markFileS_any k0 _ h0 m0 (HFR.sub HD.out.1) hk0 (by omega)).mono ?_
 rintro e w1 ⟨rfl, h0, ho, hf⟩
 replace kb := kb.only ho (HNB.out _ HD.out.1)
 replace h1 := h1.only ho (fun z hz hm => d0 z hm hz)
 replace HFR := HFR.other ho hf (fun z hz => HFR.lt z hz)
 replace HO := HO.then_only ho (fun z hz => .inl (HD.out.1 z hz))
 clear ho hf
 have u2 := Blk.c2 kb
 go_wp2_with fail
 refine (markStrS_any _ _ h1 m1 (HFR.sub HD.out.2) (by omega) (by omega)).mono ?_
 rintro e w2 ⟨rfl, h1, ho, hf⟩
 replace h0 := h0.only ho (fun z hz hm => d0 z hz hm)
 replace HFR := HFR.other ho hf (fun z hz => HFR.lt z hz)
 replace HO := HO.then_only ho (fun z hz => .inl (HD.out.2 z hz))
 clear ho hf u2
 have HRET := hide (show k0 + ((countL ctFile x.files : Nat) : Int) + ((countL (fun _ => 1) x.names : Nat) : Int) = k0 + (((countL ctFile x.files : Nat) : Int) + ((countL (fun _ => 1) x.names : Nat) : Int)) by omega)
 go_wp2
 go_ret
 exact ⟨ret_int HRET.out, ⟨A0, n0, c0, f0, A1, n1, c1, f1, rfl, rfl, h0, h1⟩, HO, HFR⟩

set_option maxHeartbeats 2000000 in
theorem heldAns_any {cs : List Value} {x : Ans} {fx : List Nat} (k0 : Int) (w : World) (hx : Rp.ans.R w cs (mkAnsM x k0) fx) (hk0 : 0 ≤ k0) (hkm : k0 + (ctAnsM x : Nat) ≤ 1152921504606846976) :
  Calls Tryz.prog 19 #[.agg cs.toArray, .int .i64 k0] w fun e w' => e = .returned (.int .i64 (k0 + (ctAnsM x : Nat))) ∧ Below w.heap.size w w' := by
 obtain ⟨A0, n0, c0, f0, A1, n1, c1, f1, rfl, _, h0, h1⟩ := hx
 have hct : ((ctAnsM x : Nat) : Int) = ((countL ctFile x.files : Nat) : Int) + ((countL (fun _ => 1) x.names : Nat) : Int) := by unfold ctAnsM; omega
 rw [hct] at hkm ⊢
 have n0' : 0 ≤ ((countL ctFile x.files : Nat) : Int) := by omega
 have n1' : 0 ≤ ((countL (fun _ => 1) x.names : Nat) : Int) := by omega
 unfold mkAnsM at h0 h1 ⊢
 dsimp only at h0 h1 ⊢
 have kb := Blk.new w 39 #[.int .i64 x.code, .slice A0 n0 c0, .slice A1 n1 c1, .int .i64 x.n]
 replace h0 := h0.allocN (.cells #[.int .i64 x.code, .slice A0 n0 c0, .slice A1 n1 c1, .int .i64 x.n] 39)
 replace h1 := h1.allocN (.cells #[.int .i64 x.code, .slice A0 n0 c0, .slice A1 n1 c1, .int .i64 x.n] 39)
 have HB := (Below.refl w.heap.size w).alloc nle (.cells #[.int .i64 x.code, .slice A0 n0 c0, .slice A1 n1 c1, .int .i64 x.n] 39)
 go_enter Tryz.func19, Tryz.ntmps19
 go_wp2_with fail
 refine (heldFileS_any k0 _ h0 hk0 (by omega)).mono ?_
 rintro e w1 ⟨rfl, hb⟩
 replace kb := kb.step hb
 replace h1 := h1.step hb
 replace HB := Below.t HB hb
 clear hb h0
 have u2 := Blk.c2 kb
 go_wp2_with fail
 refine (heldStrS_any _ _ h1 (by omega) (by omega)).mono ?_
 rintro e w2 ⟨rfl, hb⟩
 replace HB := Below.t HB hb
 clear hb h1 u2
 have HRET := hide (show k0 + ((countL ctFile x.files : Nat) : Int) + ((countL (fun _ => 1) x.names : Nat) : Int) = k0 + (((countL ctFile x.files : Nat) : Int) + ((countL (fun _ => 1) x.names : Nat) : Int)) by omega)
 have hnn : ¬ k0 + ((countL ctFile x.files : Nat) : Int) + ((countL (fun _ => 1) x.names : Nat) : Int) < 0 := by omega
 go_wp2
 go_ret
 exact ⟨ret_int HRET.out, HB⟩
end Go.Proofs.YtnogkkcmcnhodaaGreatDoor
