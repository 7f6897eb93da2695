/- Walks of the laws' own functions on data. By program (wip/gen/gen_walk.py): mark:IntS mark:RuleS mark:FileS mark:FileSS mark:RefS mark:RepoS -/
import Derived.Test.YtnogkkcmcnhodaaDoorMk
namespace Go.Proofs.YtnogkkcmcnhodaaDoor
open Go.RowKit
attribute [local go_sem ↓] Go.wp_at_zero Go.wp_at_succ

set_option maxHeartbeats 2000000 in
theorem markIntS_any {A : Option Addr} {n c : Nat} {x : List (Int)} {fx : List Nat} (k0 : Int) (w : World) (hx : SlR Rp.int w A n c x fx) (hnd : fx.Nodup) (hfr : Free w fx) (hk0 : 0 ≤ k0) (hkm : k0 + (countL (fun _ => 1) x : Nat) ≤ 1152921504606846976) :
    Calls Tryd.prog 11 #[.slice A n c, .int .i64 k0] w fun e w' => e = .returned (.int .i64 (k0 + (countL (fun _ => 1) x : Nat))) ∧ SlR Rp.int w' A n c (markL (fun _ k => (k : Int)) (fun _ => 1) x k0) fx ∧ Only fx w w' ∧ Free w' fx := by
  obtain ⟨rfl, hcx, hmx, _⟩ := id hx
  unfold maxLen at hmx
  go_enter Tryd.func11, Tryd.ntmps11
  go_wp2
  go_loopw [1, 5] (fun kv i wr => ∃ (i' : Nat) (m : Int), i' ≤ x.length ∧ i = .int .i64 i' ∧ kv = .int .i64 m ∧ MarkRel Rp.int (fun _ k => (k : Int)) (fun _ => 1) w x A c fx k0 i' m wr) (fun _ i _ => x.length - (intOf i).toNat)
  case atStart => exact ⟨0, k0, Nat.zero_le _, rfl, rfl, MarkRel.start hx hfr⟩
  case round =>
    obtain ⟨i, m, hi, rfl, rfl, hrel⟩ := hrel
    have hm0 := hrel.low hk0
    by_cases hlt : i < x.length
    · have hm1 := hrel.high hlt
      obtain ⟨b, o, cs, f, rfl, hfn, hR, hE, hcl⟩ := hrel.next hnd hlt
      have hkk : Rp.int.k = 1 := rfl
      simp only [hkk, Nat.mul_one] at hE hcl
      obtain ⟨rfl, rfl⟩ := hR
      have hltI : (i : Int) < (x.length : Int) := by omega
      have qs0 : wr.cell? ⟨b, o + i, none⟩ = some _ := hE.cells 0 _ rfl
      have ys0 : wr.frozen? ⟨b, o + i, none⟩ = false := hE.frozen (o + i)
      go_wp2
      refine ⟨⟨i + 1, m + 1, by omega, by go_num, by go_num, ?_⟩, by simp [intOf]; omega⟩
      exact hcl _ [.int .i64 (m)] (by exact (hE.put (j := 0) (by simp) _)) ⟨rfl, rfl⟩
    · have hi' : i = x.length := by omega
      subst hi'
      go_wp2
      go_ret
      exact hrel.finish

set_option maxHeartbeats 2000000 in
theorem markRuleS_any {A : Option Addr} {n c : Nat} {x : List (Rule)} {fx : List Nat} (k0 : Int) (w : World) (hx : SlR Rp.rule w A n c x fx) (hnd : fx.Nodup) (hfr : Free w fx) (hk0 : 0 ≤ k0) (hkm : k0 + (countL ctRule x : Nat) ≤ 1152921504606846976) :
    Calls Tryd.prog 52 #[.slice A n c, .int .i64 k0] w fun e w' => e = .returned (.int .i64 (k0 + (countL ctRule x : Nat))) ∧ SlR Rp.rule w' A n c (markL mkRule ctRule x k0) fx ∧ Only fx w w' ∧ Free w' fx := by
  obtain ⟨rfl, hcx, hmx, _⟩ := id hx
  unfold maxLen at hmx
  go_enter Tryd.func52, Tryd.ntmps52
  go_wp2
  go_loopw [1, 5] (fun kv i wr => ∃ (i' : Nat) (m : Int), i' ≤ x.length ∧ i = .int .i64 i' ∧ kv = .int .i64 m ∧ MarkRel Rp.rule mkRule ctRule w x A c fx k0 i' m wr) (fun _ i _ => x.length - (intOf i).toNat)
  case atStart => exact ⟨0, k0, Nat.zero_le _, rfl, rfl, MarkRel.start hx hfr⟩
  case round =>
    obtain ⟨i, m, hi, rfl, rfl, hrel⟩ := hrel
    have hm0 := hrel.low hk0
    by_cases hlt : i < x.length
    · have hm1 := hrel.high hlt
      obtain ⟨b, o, cs, f, rfl, hfn, hR, hE, hcl⟩ := hrel.next hnd hlt
      have hkk : Rp.rule.k = 4 := rfl
      simp only [hkk] at hE hcl
      simp only [ctRule] at hm1
      obtain ⟨rfl, rfl⟩ := hR
      have hltI : (i : Int) < (x.length : Int) := by omega
      have qs0 : wr.cell? ⟨b, o + i * 4, none⟩ = some _ := hE.cells 0 _ rfl
      have qs1 : wr.cell? ⟨b, o + i * 4 + 1, none⟩ = some _ := hE.cells 1 _ rfl
      have qs2 : wr.cell? ⟨b, o + i * 4 + 2, none⟩ = some _ := hE.cells 2 _ rfl
      have qs3 : wr.cell? ⟨b, o + i * 4 + 3, none⟩ = some _ := hE.cells 3 _ rfl
      have ys0 : wr.frozen? ⟨b, o + i * 4, none⟩ = false := hE.frozen (o + i * 4)
      have ys1 : wr.frozen? ⟨b, o + i * 4 + 1, none⟩ = false := hE.frozen (o + i * 4 + 1)
      have ys2 : wr.frozen? ⟨b, o + i * 4 + 2, none⟩ = false := hE.frozen (o + i * 4 + 2)
      have ys3 : wr.frozen? ⟨b, o + i * 4 + 3, none⟩ = false := hE.frozen (o + i * 4 + 3)
      go_wp2_with fail
      refine (markText_any _ (by omega) (by omega) _).mono ?_
      rintro e w1 ⟨rfl, hb1⟩
      have E1 := (hE.put (j := 0) (by simp [encRule]) _).below hb1
      clear hb1
      have q10 : w1.cell? ⟨b, o + i * 4, none⟩ = some _ := E1.cells 0 _ rfl
      have q11 : w1.cell? ⟨b, o + i * 4 + 1, none⟩ = some _ := E1.cells 1 _ rfl
      have q12 : w1.cell? ⟨b, o + i * 4 + 2, none⟩ = some _ := E1.cells 2 _ rfl
      have q13 : w1.cell? ⟨b, o + i * 4 + 3, none⟩ = some _ := E1.cells 3 _ rfl
      have y10 : w1.frozen? ⟨b, o + i * 4, none⟩ = false := E1.frozen (o + i * 4)
      have y11 : w1.frozen? ⟨b, o + i * 4 + 1, none⟩ = false := E1.frozen (o + i * 4 + 1)
      have y12 : w1.frozen? ⟨b, o + i * 4 + 2, none⟩ = false := E1.frozen (o + i * 4 + 2)
      have y13 : w1.frozen? ⟨b, o + i * 4 + 3, none⟩ = false := E1.frozen (o + i * 4 + 3)
      go_wp2_with fail
      refine (markText_any _ (by omega) (by omega) _).mono ?_
      rintro e w2 ⟨rfl, hb2⟩
      have E2 := (E1.put (j := 1) (by simp [encRule]) _).below hb2
      clear hb2
      have q20 : w2.cell? ⟨b, o + i * 4, none⟩ = some _ := E2.cells 0 _ rfl
      have q21 : w2.cell? ⟨b, o + i * 4 + 1, none⟩ = some _ := E2.cells 1 _ rfl
      have q22 : w2.cell? ⟨b, o + i * 4 + 2, none⟩ = some _ := E2.cells 2 _ rfl
      have q23 : w2.cell? ⟨b, o + i * 4 + 3, none⟩ = some _ := E2.cells 3 _ rfl
      have y20 : w2.frozen? ⟨b, o + i * 4, none⟩ = false := E2.frozen (o + i * 4)
      have y21 : w2.frozen? ⟨b, o + i * 4 + 1, none⟩ = false := E2.frozen (o + i * 4 + 1)
      have y22 : w2.frozen? ⟨b, o + i * 4 + 2, none⟩ = false := E2.frozen (o + i * 4 + 2)
      have y23 : w2.frozen? ⟨b, o + i * 4 + 3, none⟩ = false := E2.frozen (o + i * 4 + 3)
      go_wp2
      refine ⟨⟨i + 1, m + (ctRule x[i] : Nat), by omega, by go_num, by simp only [ctRule]; go_num, ?_⟩, by simp [intOf]; omega⟩
      exact hcl _ [.int .i64 (m), .string (markTx (m + 1)), .string (markTx (m + 1 + 1)), .bool ((m + 1 + 1 + 1) % 3 == 0)] (by exact ((E2.put (j := 2) (by simp [encRule]) _).put (j := 3) (by simp [encRule]) _)) ⟨by simp only [encRule, mkRule], rfl⟩
    · have hi' : i = x.length := by omega
      subst hi'
      go_wp2
      go_ret
      exact hrel.finish

set_option maxHeartbeats 2000000 in
theorem markFileS_any {A : Option Addr} {n c : Nat} {x : List (File)} {fx : List Nat} (k0 : Int) (w : World) (hx : SlR Rp.file w A n c x fx) (hnd : fx.Nodup) (hfr : Free w fx) (hk0 : 0 ≤ k0) (hkm : k0 + (countL ctFile x : Nat) ≤ 1152921504606846976) :
    Calls Tryd.prog 101 #[.slice A n c, .int .i64 k0] w fun e w' => e = .returned (.int .i64 (k0 + (countL ctFile x : Nat))) ∧ SlR Rp.file w' A n c (markL mkFile ctFile x k0) fx ∧ Only fx w w' ∧ Free w' fx := by
  obtain ⟨rfl, hcx, hmx, _⟩ := id hx
  unfold maxLen at hmx
  go_enter Tryd.func101, Tryd.ntmps101
  go_wp2
  go_loopw [1, 5] (fun kv i wr => ∃ (i' : Nat) (m : Int), i' ≤ x.length ∧ i = .int .i64 i' ∧ kv = .int .i64 m ∧ MarkRel Rp.file mkFile ctFile w x A c fx k0 i' m wr) (fun _ i _ => x.length - (intOf i).toNat)
  case atStart => exact ⟨0, k0, Nat.zero_le _, rfl, rfl, MarkRel.start hx hfr⟩
  case round =>
    obtain ⟨i, m, hi, rfl, rfl, hrel⟩ := hrel
    have hm0 := hrel.low hk0
    by_cases hlt : i < x.length
    · have hm1 := hrel.high hlt
      obtain ⟨b, o, cs, f, rfl, hfn, hR, hE, hcl⟩ := hrel.next hnd hlt
      have hkk : Rp.file.k = 2 := rfl
      simp only [hkk] at hE hcl
      simp only [ctFile] at hm1
      obtain ⟨rfl, rfl⟩ := hR
      have hltI : (i : Int) < (x.length : Int) := by omega
      have qs0 : wr.cell? ⟨b, o + i * 2, none⟩ = some _ := hE.cells 0 _ rfl
      have qs1 : wr.cell? ⟨b, o + i * 2 + 1, none⟩ = some _ := hE.cells 1 _ rfl
      have ys0 : wr.frozen? ⟨b, o + i * 2, none⟩ = false := hE.frozen (o + i * 2)
      have ys1 : wr.frozen? ⟨b, o + i * 2 + 1, none⟩ = false := hE.frozen (o + i * 2 + 1)
      go_wp2_with fail
      refine (markText_any _ (by omega) (by omega) _).mono ?_
      rintro e w1 ⟨rfl, hb1⟩
      have E1 := hE.below hb1
      clear hb1
      have q10 : w1.cell? ⟨b, o + i * 2, none⟩ = some _ := E1.cells 0 _ rfl
      have q11 : w1.cell? ⟨b, o + i * 2 + 1, none⟩ = some _ := E1.cells 1 _ rfl
      have y10 : w1.frozen? ⟨b, o + i * 2, none⟩ = false := E1.frozen (o + i * 2)
      have y11 : w1.frozen? ⟨b, o + i * 2 + 1, none⟩ = false := E1.frozen (o + i * 2 + 1)
      go_wp2_with fail
      refine (markText_any _ (by omega) (by omega) _).mono ?_
      rintro e w2 ⟨rfl, hb2⟩
      have E2 := (E1.put (j := 0) (by simp [encFile]) _).below hb2
      clear hb2
      have q20 : w2.cell? ⟨b, o + i * 2, none⟩ = some _ := E2.cells 0 _ rfl
      have q21 : w2.cell? ⟨b, o + i * 2 + 1, none⟩ = some _ := E2.cells 1 _ rfl
      have y20 : w2.frozen? ⟨b, o + i * 2, none⟩ = false := E2.frozen (o + i * 2)
      have y21 : w2.frozen? ⟨b, o + i * 2 + 1, none⟩ = false := E2.frozen (o + i * 2 + 1)
      go_wp2
      refine ⟨⟨i + 1, m + (ctFile x[i] : Nat), by omega, by go_num, by simp only [ctFile]; go_num, ?_⟩, by simp [intOf]; omega⟩
      exact hcl _ [.string (markTx (m)), .string (markTx (m + 1))] (by exact (E2.put (j := 1) (by simp [encFile]) _)) ⟨by simp only [encFile, mkFile], rfl⟩
    · have hi' : i = x.length := by omega
      subst hi'
      go_wp2
      go_ret
      exact hrel.finish

set_option maxHeartbeats 2000000 in
theorem markFileSS_any {A : Option Addr} {n c : Nat} {x : List (List (File))} {fx : List Nat} (k0 : Int) (w : World) (hx : SlR (Rp.slice Rp.file) w A n c x fx) (hnd : fx.Nodup) (hfr : Free w fx) (hk0 : 0 ≤ k0) (hkm : k0 + (countL (countL ctFile) x : Nat) ≤ 1152921504606846976) :
    Calls Tryd.prog 81 #[.slice A n c, .int .i64 k0] w fun e w' => e = .returned (.int .i64 (k0 + (countL (countL ctFile) x : Nat))) ∧ SlR (Rp.slice Rp.file) w' A n c (markL (markL mkFile ctFile) (countL ctFile) x k0) fx ∧ Only fx w w' ∧ Free w' fx := by
  obtain ⟨rfl, hcx, hmx, _⟩ := id hx
  unfold maxLen at hmx
  go_enter Tryd.func81, Tryd.ntmps81
  go_wp2
  go_loopw [1, 5] (fun kv i wr => ∃ (i' : Nat) (m : Int), i' ≤ x.length ∧ i = .int .i64 i' ∧ kv = .int .i64 m ∧ MarkRel (Rp.slice Rp.file) (markL mkFile ctFile) (countL ctFile) w x A c fx k0 i' m wr) (fun _ i _ => x.length - (intOf i).toNat)
  case atStart => exact ⟨0, k0, Nat.zero_le _, rfl, rfl, MarkRel.start hx hfr⟩
  case round =>
    obtain ⟨i, m, hi, rfl, rfl, hrel⟩ := hrel
    have hm0 := hrel.low hk0
    by_cases hlt : i < x.length
    · have hm1 := hrel.high hlt
      obtain ⟨b, o, cs, f, rfl, hfn, hR, hE, hcl⟩ := hrel.next hnd hlt
      have hkk : (Rp.slice Rp.file).k = 1 := rfl
      simp only [hkk, Nat.mul_one] at hE hcl
      obtain ⟨A0, n0, c0, rfl, hs0⟩ := hR
      have hbn0 : b ∉ f := hE.nmem
      have hfn0 := hfn
      have hsub0 : ∀ z ∈ f, z ∈ f := fun z hz => hz
      have hltI : (i : Int) < (x.length : Int) := by omega
      have qs0 : wr.cell? ⟨b, o + i, none⟩ = some _ := hE.cells 0 _ rfl
      have ys0 : wr.frozen? ⟨b, o + i, none⟩ = false := hE.frozen (o + i)
      go_wp2_with fail
      refine (markFileS_any (x := x[i]) _ _ (by exact hs0) hfn0 (hE.free.sub (fun z hz => hE.sub z (hsub0 z hz))) (by omega) (by omega)).mono ?_
      rintro e w1 ⟨rfl, hS1, hO1, hF1⟩
      have E1 := hE.inner hO1 hF1
      have q10 : w1.cell? ⟨b, o + i, none⟩ = some _ := E1.cells 0 _ rfl
      have y10 : w1.frozen? ⟨b, o + i, none⟩ = false := E1.frozen (o + i)
      go_wp2
      refine ⟨⟨i + 1, _, by omega, by go_num, rfl, ?_⟩, by simp [intOf]; omega⟩
      exact hcl _ [.slice A0 n0 c0] (by exact E1) ⟨A0, n0, c0, rfl, hS1⟩
    · have hi' : i = x.length := by omega
      subst hi'
      go_wp2
      go_ret
      exact hrel.finish

set_option maxHeartbeats 2000000 in
theorem markRefS_any {A : Option Addr} {n c : Nat} {x : List (Ref)} {fx : List Nat} (k0 : Int) (w : World) (hx : SlR Rp.ref w A n c x fx) (hnd : fx.Nodup) (hfr : Free w fx) (hk0 : 0 ≤ k0) (hkm : k0 + (countL ctRef x : Nat) ≤ 1152921504606846976) :
    Calls Tryd.prog 53 #[.slice A n c, .int .i64 k0] w fun e w' => e = .returned (.int .i64 (k0 + (countL ctRef x : Nat))) ∧ SlR Rp.ref w' A n c (markL mkRef ctRef x k0) fx ∧ Only fx w w' ∧ Free w' fx := by
  obtain ⟨rfl, hcx, hmx, _⟩ := id hx
  unfold maxLen at hmx
  go_enter Tryd.func53, Tryd.ntmps53
  go_wp2
  go_loopw [1, 5] (fun kv i wr => ∃ (i' : Nat) (m : Int), i' ≤ x.length ∧ i = .int .i64 i' ∧ kv = .int .i64 m ∧ MarkRel Rp.ref mkRef ctRef w x A c fx k0 i' m wr) (fun _ i _ => x.length - (intOf i).toNat)
  case atStart => exact ⟨0, k0, Nat.zero_le _, rfl, rfl, MarkRel.start hx hfr⟩
  case round =>
    obtain ⟨i, m, hi, rfl, rfl, hrel⟩ := hrel
    have hm0 := hrel.low hk0
    by_cases hlt : i < x.length
    · have hm1 := hrel.high hlt
      obtain ⟨b, o, cs, f, rfl, hfn, hR, hE, hcl⟩ := hrel.next hnd hlt
      have hkk : Rp.ref.k = 4 := rfl
      simp only [hkk] at hE hcl
      simp only [ctRef] at hm1
      obtain ⟨A0, n0, c0, f0, rfl, hff, hs0⟩ := hR
      have hbnf : b ∉ f := hE.nmem
      rw [hff] at hbnf hfn
      have hbn0 : b ∉ f0 := fun h => hbnf (by simp [h])
      have hfn0 : f0.Nodup := hfn
      have hsub0 : ∀ z ∈ f0, z ∈ f := fun z hz => by rw [hff]; simp [hz]
      have hltI : (i : Int) < (x.length : Int) := by omega
      have qs0 : wr.cell? ⟨b, o + i * 4, none⟩ = some _ := hE.cells 0 _ rfl
      have qs1 : wr.cell? ⟨b, o + i * 4 + 1, none⟩ = some _ := hE.cells 1 _ rfl
      have qs2 : wr.cell? ⟨b, o + i * 4 + 2, none⟩ = some _ := hE.cells 2 _ rfl
      have qs3 : wr.cell? ⟨b, o + i * 4 + 3, none⟩ = some _ := hE.cells 3 _ rfl
      have ys0 : wr.frozen? ⟨b, o + i * 4, none⟩ = false := hE.frozen (o + i * 4)
      have ys1 : wr.frozen? ⟨b, o + i * 4 + 1, none⟩ = false := hE.frozen (o + i * 4 + 1)
      have ys2 : wr.frozen? ⟨b, o + i * 4 + 2, none⟩ = false := hE.frozen (o + i * 4 + 2)
      have ys3 : wr.frozen? ⟨b, o + i * 4 + 3, none⟩ = false := hE.frozen (o + i * 4 + 3)
      go_wp2_with fail
      refine (markText_any _ (by omega) (by omega) _).mono ?_
      rintro e w1 ⟨rfl, hb1⟩
      have E1 := hE.below hb1
      have S1_0 := hs0.step hb1
      clear hb1
      have q10 : w1.cell? ⟨b, o + i * 4, none⟩ = some _ := E1.cells 0 _ rfl
      have q11 : w1.cell? ⟨b, o + i * 4 + 1, none⟩ = some _ := E1.cells 1 _ rfl
      have q12 : w1.cell? ⟨b, o + i * 4 + 2, none⟩ = some _ := E1.cells 2 _ rfl
      have q13 : w1.cell? ⟨b, o + i * 4 + 3, none⟩ = some _ := E1.cells 3 _ rfl
      have y10 : w1.frozen? ⟨b, o + i * 4, none⟩ = false := E1.frozen (o + i * 4)
      have y11 : w1.frozen? ⟨b, o + i * 4 + 1, none⟩ = false := E1.frozen (o + i * 4 + 1)
      have y12 : w1.frozen? ⟨b, o + i * 4 + 2, none⟩ = false := E1.frozen (o + i * 4 + 2)
      have y13 : w1.frozen? ⟨b, o + i * 4 + 3, none⟩ = false := E1.frozen (o + i * 4 + 3)
      go_wp2_with fail
      refine (markFileSS_any (x := x[i].versions) _ _ (by exact (((S1_0.putN hbn0 _).putN hbn0 _).putN hbn0 _)) hfn0 ((((E1.put (j := 0) (by simp) _).put (j := 1) (by simp) _).put (j := 2) (by simp) _).free.sub (fun z hz => hE.sub z (hsub0 z hz))) (by omega) (by omega)).mono ?_
      rintro e w2 ⟨rfl, hS2, hO2, hF2⟩
      have E2 := (((E1.put (j := 0) (by simp) _).put (j := 1) (by simp) _).put (j := 2) (by simp) _).inner (by rw [hff]; exact hO2) (by rw [hff]; exact hF2)
      have q20 : w2.cell? ⟨b, o + i * 4, none⟩ = some _ := E2.cells 0 _ rfl
      have q21 : w2.cell? ⟨b, o + i * 4 + 1, none⟩ = some _ := E2.cells 1 _ rfl
      have q22 : w2.cell? ⟨b, o + i * 4 + 2, none⟩ = some _ := E2.cells 2 _ rfl
      have q23 : w2.cell? ⟨b, o + i * 4 + 3, none⟩ = some _ := E2.cells 3 _ rfl
      have y20 : w2.frozen? ⟨b, o + i * 4, none⟩ = false := E2.frozen (o + i * 4)
      have y21 : w2.frozen? ⟨b, o + i * 4 + 1, none⟩ = false := E2.frozen (o + i * 4 + 1)
      have y22 : w2.frozen? ⟨b, o + i * 4 + 2, none⟩ = false := E2.frozen (o + i * 4 + 2)
      have y23 : w2.frozen? ⟨b, o + i * 4 + 3, none⟩ = false := E2.frozen (o + i * 4 + 3)
      go_wp2
      refine ⟨⟨i + 1, m + (ctRef x[i] : Nat), by omega, by go_num, by simp only [ctRef]; go_num, ?_⟩, by simp [intOf]; omega⟩
      exact hcl _ [.string (markTx (m)), .bool ((m + 1) % 3 == 0), .int .i64 (m + 1 + 1), .slice A0 n0 c0] (by exact E2) ⟨A0, n0, c0, f0, by simp only [mkRef], hff, by simp only [mkRef]; exact hS2⟩
    · have hi' : i = x.length := by omega
      subst hi'
      go_wp2
      go_ret
      exact hrel.finish

set_option maxHeartbeats 2000000 in
theorem markRepoS_any {A : Option Addr} {n c : Nat} {x : List (Repo)} {fx : List Nat} (k0 : Int) (w : World) (hx : SlR Rp.repo w A n c x fx) (hnd : fx.Nodup) (hfr : Free w fx) (hk0 : 0 ≤ k0) (hkm : k0 + (countL ctRepo x : Nat) ≤ 1152921504606846976) :
    Calls Tryd.prog 26 #[.slice A n c, .int .i64 k0] w fun e w' => e = .returned (.int .i64 (k0 + (countL ctRepo x : Nat))) ∧ SlR Rp.repo w' A n c (markL mkRepo ctRepo x k0) fx ∧ Only fx w w' ∧ Free w' fx := by
  obtain ⟨rfl, hcx, hmx, _⟩ := id hx
  unfold maxLen at hmx
  go_enter Tryd.func26, Tryd.ntmps26
  go_wp2
  go_loopw [1, 5] (fun kv i wr => ∃ (i' : Nat) (m : Int), i' ≤ x.length ∧ i = .int .i64 i' ∧ kv = .int .i64 m ∧ MarkRel Rp.repo mkRepo ctRepo w x A c fx k0 i' m wr) (fun _ i _ => x.length - (intOf i).toNat)
  case atStart => exact ⟨0, k0, Nat.zero_le _, rfl, rfl, MarkRel.start hx hfr⟩
  case round =>
    obtain ⟨i, m, hi, rfl, rfl, hrel⟩ := hrel
    have hm0 := hrel.low hk0
    by_cases hlt : i < x.length
    · have hm1 := hrel.high hlt
      obtain ⟨b, o, cs, f, rfl, hfn, hR, hE, hcl⟩ := hrel.next hnd hlt
      have hkk : Rp.repo.k = 3 := rfl
      simp only [hkk] at hE hcl
      simp only [ctRepo] at hm1
      obtain ⟨A0, n0, c0, f0, A1, n1, c1, f1, rfl, hff, hs0, hs1⟩ := hR
      have hbnf : b ∉ f := hE.nmem
      rw [hff] at hbnf hfn
      have hbn0 : b ∉ f0 := fun h => hbnf (by simp [h])
      have hbn1 : b ∉ f1 := fun h => hbnf (by simp [h])
      have hfn0 : f0.Nodup := (List.nodup_append.1 hfn).1
      have hfn1 : f1.Nodup := (List.nodup_append.1 hfn).2.1
      have hdis : ∀ y ∈ f0, y ∉ f1 := fun y hy h => (List.nodup_append.1 hfn).2.2 y hy y h rfl
      have hsub0 : ∀ z ∈ f0, z ∈ f := fun z hz => by rw [hff]; simp [hz]
      have hsub1 : ∀ z ∈ f1, z ∈ f := fun z hz => by rw [hff]; simp [hz]
      have hltI : (i : Int) < (x.length : Int) := by omega
      have qs0 : wr.cell? ⟨b, o + i * 3, none⟩ = some _ := hE.cells 0 _ rfl
      have qs1 : wr.cell? ⟨b, o + i * 3 + 1, none⟩ = some _ := hE.cells 1 _ rfl
      have qs2 : wr.cell? ⟨b, o + i * 3 + 2, none⟩ = some _ := hE.cells 2 _ rfl
      have ys0 : wr.frozen? ⟨b, o + i * 3, none⟩ = false := hE.frozen (o + i * 3)
      have ys1 : wr.frozen? ⟨b, o + i * 3 + 1, none⟩ = false := hE.frozen (o + i * 3 + 1)
      have ys2 : wr.frozen? ⟨b, o + i * 3 + 2, none⟩ = false := hE.frozen (o + i * 3 + 2)
      go_wp2_with fail
      refine (markRuleS_any (x := x[i].rules) _ _ (by exact (hs0.putN hbn0 _)) hfn0 ((hE.put (j := 0) (by simp) _).free.sub (fun z hz => hE.sub z (hsub0 z hz))) (by omega) (by omega)).mono ?_
      rintro e w1 ⟨rfl, hS1, hO1, hF1⟩
      have E1 := (hE.put (j := 0) (by simp) _).inner (hO1.mono (fun z hz => .inl (hsub0 z hz))) (Free.other ((hE.put (j := 0) (by simp) _).free.sub hE.sub) hO1 hF1 (Free.lt ((hE.put (j := 0) (by simp) _).free.sub hE.sub)))
      have S1_1 := (hs1.putN hbn1 _).only hO1 (fun z hz h => hdis z h hz)
      have q10 : w1.cell? ⟨b, o + i * 3, none⟩ = some _ := E1.cells 0 _ rfl
      have q11 : w1.cell? ⟨b, o + i * 3 + 1, none⟩ = some _ := E1.cells 1 _ rfl
      have q12 : w1.cell? ⟨b, o + i * 3 + 2, none⟩ = some _ := E1.cells 2 _ rfl
      have y10 : w1.frozen? ⟨b, o + i * 3, none⟩ = false := E1.frozen (o + i * 3)
      have y11 : w1.frozen? ⟨b, o + i * 3 + 1, none⟩ = false := E1.frozen (o + i * 3 + 1)
      have y12 : w1.frozen? ⟨b, o + i * 3 + 2, none⟩ = false := E1.frozen (o + i * 3 + 2)
      go_wp2_with fail
      refine (markRefS_any (x := x[i].refs) _ _ (by exact S1_1) hfn1 (E1.free.sub (fun z hz => hE.sub z (hsub1 z hz))) (by omega) (by omega)).mono ?_
      rintro e w2 ⟨rfl, hS2, hO2, hF2⟩
      have E2 := E1.inner (hO2.mono (fun z hz => .inl (hsub1 z hz))) (Free.other (E1.free.sub hE.sub) hO2 hF2 (Free.lt (E1.free.sub hE.sub)))
      have S2_0 := hS1.only hO2 (fun z hz h => hdis z hz h)
      have q20 : w2.cell? ⟨b, o + i * 3, none⟩ = some _ := E2.cells 0 _ rfl
      have q21 : w2.cell? ⟨b, o + i * 3 + 1, none⟩ = some _ := E2.cells 1 _ rfl
      have q22 : w2.cell? ⟨b, o + i * 3 + 2, none⟩ = some _ := E2.cells 2 _ rfl
      have y20 : w2.frozen? ⟨b, o + i * 3, none⟩ = false := E2.frozen (o + i * 3)
      have y21 : w2.frozen? ⟨b, o + i * 3 + 1, none⟩ = false := E2.frozen (o + i * 3 + 1)
      have y22 : w2.frozen? ⟨b, o + i * 3 + 2, none⟩ = false := E2.frozen (o + i * 3 + 2)
      go_wp2
      refine ⟨⟨i + 1, m + (ctRepo x[i] : Nat), by omega, by go_num, by simp only [ctRepo]; go_num, ?_⟩, by simp [intOf]; omega⟩
      exact hcl _ [.int .i64 (m), .slice A0 n0 c0, .slice A1 n1 c1] (by exact E2) ⟨A0, n0, c0, f0, A1, n1, c1, f1, by simp only [mkRepo], hff, by simp only [mkRepo]; exact S2_0, by simp only [mkRepo]; exact hS2⟩
    · have hi' : i = x.length := by omega
      subst hi'
      go_wp2
      go_ret
      exact hrel.finish

end Go.Proofs.YtnogkkcmcnhodaaDoor
