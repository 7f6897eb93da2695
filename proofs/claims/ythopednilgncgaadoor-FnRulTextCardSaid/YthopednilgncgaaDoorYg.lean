/- The law FnRulText, walked. -/
import Derived.Test.YthopednilgncgaaDoorDl
import Derived.Test.YthopednilgncgaaDoorYd
import Derived.Test.YthopednilgncgaaDoorYf
namespace Go.Proofs.YthopednilgncgaaDoor
open Go.RowKit
attribute [local go_sem ↓] Go.wp_at_zero Go.wp_at_succ

set_option maxHeartbeats 2000000 in
theorem drawRulText_any {A : Option Addr} {n c : Nat} {l : List UInt8} {fp : List Nat} (w : World) (hx : SlR Rp.byte w A n c l fp) :
    Calls Tryd.prog 37 #[.slice A n c] w fun e w' => ∃ r : Rule, e = .returned (.agg (encRule r).toArray) ∧ fitRule r ∧ Below w.heap.size w w' := by
  have k2 := Blk.new w 25 #[.int .i64 0, .string ⟨#[]⟩, .string ⟨#[]⟩, .bool false]
  go_enter Tryd.func37, Tryd.ntmps37
  go_wp2_with fail
  refine (l20Open_any _ (hx.allocN _)).mono ?_
  rintro e w1 ⟨g, rfl, hg, hr1, hb1⟩
  simp only [World.size_alloc] at hg
  replace k2 := k2.step hb1
  have HB := Below.box1 hb1
  clear hb1 hx
  go_wp2_with fail
  refine (l20Rule_any g 0 4 (by omega) (by omega) _ hr1).mono ?_
  rintro e w2 ⟨r, rfl, hrf, hr2, ho2⟩
  replace k2 := k2.only ho2 (by simp; omega)
  replace HB := HB.trans (ho2.below (B := w.heap.size) (by simp; omega) HB.size)
  rw [show (encRule r).toArray = #[.int .i64 r.user, .string r.ref, .string r.path, .bool r.write] from rfl]
  have p0 : w2.cell? ⟨w.heap.size, 0, none⟩ = some (.int .i64 0) := k2.cell 0
  have p1 : w2.cell? ⟨w.heap.size, 1, none⟩ = some (.string ⟨#[]⟩) := k2.cell 1
  have p2 : w2.cell? ⟨w.heap.size, 2, none⟩ = some (.string ⟨#[]⟩) := k2.cell 2
  have p3 : w2.cell? ⟨w.heap.size, 3, none⟩ = some (.bool false) := k2.cell 3
  have g0 := k2.frz 0
  have g1 := k2.frz 1
  have g2 := k2.frz 2
  have g3 := k2.frz 3
  have HBP := hide (below4 HB (Nat.le_refl _) (.int .i64 r.user) (.string r.ref) (.string r.path) (.bool r.write))
  clear k2 ho2 hr1 hr2
  go_wp2
  exact bodyPost_ret (v := .agg #[.int .i64 r.user, .string r.ref, .string r.path, .bool r.write]) (by simp [results, Tryd.results37, go_sem, p0, p1, p2, p3]) rfl ⟨r, rfl, hrf, HBP.out⟩

theorem text_small (r : Rule) : (rulText r).size ≤ 200 := by
  cases h : rulOk r
  · rw [rulText_none h]; decide
  · obtain ⟨u, hu, hu4, h1, h2⟩ := rulOk_parts h
    have hz := text_size hu4 h1 h2
    rw [rulText_ok h, hu]
    exact hz.2

set_option maxHeartbeats 2000000 in
theorem drawRulRead_any {A : Option Addr} {n c : Nat} {l : List UInt8} {fp : List Nat} (w : World) (hx : SlR Rp.byte w A n c l fp) :
    Calls Tryd.prog 38 #[.slice A n c] w fun e w' => ∃ t : ByteArray, e = .returned (.string t) ∧ t.size ≤ 500 ∧ Below w.heap.size w w' := by
  go_enter Tryd.func38, Tryd.ntmps38
  go_wp2_with fail
  refine (l20Open_any _ hx).mono ?_
  rintro e w1 ⟨g, rfl, hg, hr1, HB⟩
  clear hx
  go_wp2_with fail
  refine (l20Rule_any g 0 99 (by omega) (by omega) _ hr1).mono ?_
  rintro e w2 ⟨r, rfl, hrf, hr2, ho2⟩
  replace HB := HB.trans (ho2.below (B := w.heap.size) (by simp; omega) HB.size)
  clear ho2 hr1
  have hsz := text_small r
  go_wp2_with fail
  refine (specRulText_any r hrf _).mono ?_
  rintro e w3 ⟨rfl, hb⟩
  replace hr2 := hr2.step hb
  replace HB := Below.then_ HB hb
  generalize rulText r = s at hsz ⊢
  clear hb hrf
  go_wp2_with fail
  refine (pick_any g _ 2 (by omega) (by omega) _ hr2).mono ?_
  rintro e w4 ⟨x, rfl, hx, hr4, ho4⟩
  replace HB := HB.trans (ho4.below (B := w.heap.size) (by simp; omega) HB.size)
  clear ho4 hr2 hx
  cases hd : ((x : Int) == 0)
  · go_wp2
    go_ret
    exact ⟨s, rfl, by omega, HB⟩
  · go_wp2_with fail
    refine (l20Bent_any g _ s hsz (by omega) _ hr4).mono ?_
    rintro e w5 ⟨t, rfl, ht, hr5, ho5⟩
    replace HB := HB.trans (ho5.below (B := w.heap.size) (by simp; omega) HB.size)
    go_wp2
    go_ret
    exact ⟨t, rfl, ht, HB⟩

set_option maxHeartbeats 4000000 in
set_option maxRecDepth 20000 in
theorem lawRulText (w : World) {A A' : Option Addr} {n c n' c' : Nat} {code more : List UInt8} {fp fp' : List Nat} (hx : SlR Rp.byte w A n c code fp) (hy : SlR Rp.byte w A' n' c' more fp') (hv : Errs w) :
    Calls Tryd.prog 9 #[.slice A n c, .slice A' n' c'] w fun e w' => e = .returned (.bool true) ∧ Below w.heap.size w w' := by
  obtain ⟨rfl, _, hmx, _⟩ := id hx
  obtain ⟨rfl, _, hmy, _⟩ := id hy
  unfold maxLen at hmx hmy
  go_enter Tryd.func9, Tryd.ntmps9
  by_cases hq : (1048576 : Int) < (code.length : Int)
  · go_wp2
    go_ret
    exact ⟨rfl, Below.refl _ _⟩
  · by_cases hq2 : (1048576 : Int) < (more.length : Int)
    · go_wp2
      go_ret
      exact ⟨rfl, Below.refl _ _⟩
    · have HV := hide hv
      clear hv
      go_wp2_with fail
      refine (drawRulText_any _ hx).mono ?_
      rintro e w1 ⟨r, rfl, hrf, HB⟩
      have HY := hide (hy.step HB)
      have HV1 := hide (HV.out.step HB)
      clear hx hy HV
      have HRF := hide hrf
      clear hrf
      have D1 := hide (fun W => implRulText_any r HRF.out W)
      have D2 := hide (fun W => specRulText_any r HRF.out W)
      have D3 := hide (fun W => implRulOk_any r HRF.out W)
      rw [show (encRule r).toArray = #[.int .i64 r.user, .string r.ref, .string r.path, .bool r.write] from rfl] at *
      have k5 := Blk.new w1 25 #[.int .i64 r.user, .string r.ref, .string r.path, .bool r.write]
      have hal := (Below.refl w1.heap.size w1).alloc (Nat.le_refl _) (.cells #[.int .i64 r.user, .string r.ref, .string r.path, .bool r.write] 25)
      replace HB := Below.then_ HB hal
      replace HY := hide (HY.out.step hal)
      replace HV1 := hide (HV1.out.step hal)
      clear hal
      have a0 := k5.cell 0
      have a1 := k5.cell 1
      have a2 := k5.cell 2
      have a3 := k5.cell 3
      simp only [List.getElem?_toArray, List.getElem?_cons_zero, List.getElem?_cons_succ] at a0 a1 a2 a3
      go_wp2_with fail
      refine (D1.out _).mono ?_
      rintro e w2 ⟨rfl, hb⟩
      replace k5 := k5.step hb
      replace HB := Below.then_ HB hb
      replace HY := hide (HY.out.step hb)
      replace HV1 := hide (HV1.out.step hb)
      clear hb a0 a1 a2 a3
      go_wp2_with fail
      refine (drawRulRead_any _ HY.out).mono ?_
      rintro e w3 ⟨t, rfl, ht, hb⟩
      replace k5 := k5.step hb
      replace HB := Below.then_ HB hb
      replace HV1 := hide (HV1.out.step hb)
      clear hb HY
      go_wp2_with fail
      refine (implRulRead_any t (by omega) _ HV1.out).mono ?_
      generalize hqr : (rulRead t).1 = q
      generalize hqk : (rulRead t).2 = k
      rw [show (encRule q).toArray = #[.int .i64 q.user, .string q.ref, .string q.path, .bool q.write] from rfl]
      rintro e w4 ⟨rfl, hb⟩
      replace k5 := k5.step hb
      replace HB := Below.then_ HB hb
      replace HV1 := hide (HV1.out.step hb)
      clear hb
      have k8 := Blk.new w4 25 #[.int .i64 q.user, .string q.ref, .string q.path, .bool q.write]
      have hal := (Below.refl w4.heap.size w4).alloc (Nat.le_refl _) (.cells #[.int .i64 q.user, .string q.ref, .string q.path, .bool q.write] 25)
      replace k5 := k5.step hal
      replace HB := Below.then_ HB hal
      replace HV1 := hide (HV1.out.step hal)
      clear hal
      have HQF := hide (show fitRule q by rw [← hqr]; exact fit_read t)
      have HBK := hide (show k = true → rulText q = t by intro e; rw [← hqr]; exact rulRead_back (hqk.trans e))
      have D4 := hide (fun W => implRulText_any q HQF.out W)
      rw [show (encRule q).toArray = #[.int .i64 q.user, .string q.ref, .string q.path, .bool q.write] from rfl] at D4
      have S1 := hide (fun W => specRulRead_any t (by omega) W)
      rw [hqr, hqk, show (encRule q).toArray = #[.int .i64 q.user, .string q.ref, .string q.path, .bool q.write] from rfl] at S1
      clear hqr hqk
      go_wp2_with fail
      refine (S1.out _).mono ?_
      rintro e w5 ⟨rfl, hb⟩
      replace k5 := k5.step hb
      replace k8 := k8.step hb
      replace HB := Below.then_ HB hb
      replace HV1 := hide (HV1.out.step hb)
      clear hb S1
      have k10 := Blk.new w5 25 #[.int .i64 q.user, .string q.ref, .string q.path, .bool q.write]
      have hal := (Below.refl w5.heap.size w5).alloc (Nat.le_refl _) (.cells #[.int .i64 q.user, .string q.ref, .string q.path, .bool q.write] 25)
      replace k5 := k5.step hal
      replace k8 := k8.step hal
      replace HB := Below.then_ HB hal
      replace HV1 := hide (HV1.out.step hal)
      clear hal
      have a0 := k5.cell 0
      have a1 := k5.cell 1
      have a2 := k5.cell 2
      have a3 := k5.cell 3
      simp only [List.getElem?_toArray, List.getElem?_cons_zero, List.getElem?_cons_succ] at a0 a1 a2 a3
      go_wp2_with fail
      refine (D2.out _).mono ?_
      rintro e w6 ⟨rfl, hb⟩
      replace k5 := k5.step hb
      replace k8 := k8.step hb
      replace k10 := k10.step hb
      replace HB := Below.then_ HB hb
      replace HV1 := hide (HV1.out.step hb)
      clear hb a0 a1 a2 a3
      have a0 := k5.cell 0
      have a1 := k5.cell 1
      have a2 := k5.cell 2
      have a3 := k5.cell 3
      simp only [List.getElem?_toArray, List.getElem?_cons_zero, List.getElem?_cons_succ] at a0 a1 a2 a3
      have b0 := k8.cell 0
      have b1 := k8.cell 1
      have b2 := k8.cell 2
      have b3 := k8.cell 3
      simp only [List.getElem?_toArray, List.getElem?_cons_zero, List.getElem?_cons_succ] at b0 b1 b2 b3
      have d0 := k10.cell 0
      have d1 := k10.cell 1
      have d2 := k10.cell 2
      have d3 := k10.cell 3
      simp only [List.getElem?_toArray, List.getElem?_cons_zero, List.getElem?_cons_succ] at d0 d1 d2 d3
      have hem : (rulText r).toList.isEmpty = !rulOk r := by rw [isEmpty_eq, text_empty]
      have hne : ((rulText r).toList == (rulText r).toList) = true := by simp
      have HT := hide (fun h : rulOk r = true => rulRead_text h)
      cases k
      · go_wp2_with fail
        refine (D3.out _).mono ?_
        rintro e w7 ⟨rfl, hb⟩
        replace k5 := k5.step hb
        replace k8 := k8.step hb
        replace k10 := k10.step hb
        replace HB := Below.then_ HB hb
        replace HV1 := hide (HV1.out.step hb)
        clear hb a0 a1 a2 a3 b0 b1 b2 b3 d0 d1 d2 d3
        cases hok : rulOk r
        · have HOK := hide hok
          rw [hok] at hem
          replace hem : (rulText r).toList.isEmpty = true := hem
          have HTX := hide text_noRule
          have hlit := beq_lit (rulText noRule) [48, 32, 45, 32, 45, 32, 114, 101, 97, 100]
          rw [HTX.out, decide_eq_true rfl] at hlit
          have D5 := hide (fun W => implRulText_any noRule ⟨Nat.zero_le _, Nat.zero_le _⟩ W)
          rw [show (encRule noRule).toArray = #[.int .i64 0, .string ⟨#[]⟩, .string ⟨#[]⟩, .bool false] from rfl] at D5
          rw [HTX.out] at D5
          generalize hs0 : rulText r = s0 at hem hne ⊢
          clear hok hs0
          go_wp2_with fail
          refine (D5.out _).mono ?_
          rintro e w8 ⟨rfl, hb⟩
          replace HB := Below.then_ HB hb
          clear hb
          go_wp2
          go_ret
          exact ⟨rfl, HB⟩
        · have HOK := hide hok
          rw [hok] at hem
          replace hem : (rulText r).toList.isEmpty = false := hem
          have S2 := hide (fun W hW => implRulRead_any (rulText r) (by have := text_small r; omega) W hW)
          rw [HT.out hok] at S2
          rw [show (encRule (r, true).1).toArray = #[.int .i64 r.user, .string r.ref, .string r.path, .bool r.write] from rfl] at S2
          generalize hs0 : rulText r = s0 at hem hne S2 ⊢
          clear hok hs0 HT
          go_wp2_with fail
          refine (S2.out _ HV1.out).mono ?_
          rintro e w8 ⟨rfl, hb⟩
          replace k5 := k5.step hb
          replace HB := Below.then_ HB hb
          replace HV1 := hide (HV1.out.step hb)
          clear hb
          have k12 := Blk.new w8 25 #[.int .i64 r.user, .string r.ref, .string r.path, .bool r.write]
          have hal := (Below.refl w8.heap.size w8).alloc (Nat.le_refl _) (.cells #[.int .i64 r.user, .string r.ref, .string r.path, .bool r.write] 25)
          replace k5 := k5.step hal
          replace HB := Below.then_ HB hal
          clear hal
          have a0 := k5.cell 0
          have a1 := k5.cell 1
          have a2 := k5.cell 2
          have a3 := k5.cell 3
          simp only [List.getElem?_toArray, List.getElem?_cons_zero, List.getElem?_cons_succ] at a0 a1 a2 a3
          have u0 := k12.cell 0
          have u1 := k12.cell 1
          have u2 := k12.cell 2
          have u3 := k12.cell 3
          simp only [List.getElem?_toArray, List.getElem?_cons_zero, List.getElem?_cons_succ] at u0 u1 u2 u3
          clear k5 k12
          go_wp2
          go_ret
          exact ⟨rfl, HB⟩
      · have hqt := HBK.out rfl
        have HQT := hide hqt
        have hnt : ((rulText q).toList == t.toList) = true := by rw [hqt]; simp
        clear hqt
        go_wp2_with fail
        refine (D4.out _).mono ?_
        rintro e w7 ⟨rfl, hb⟩
        replace k5 := k5.step hb
        replace k8 := k8.step hb
        replace k10 := k10.step hb
        replace HB := Below.then_ HB hb
        replace HV1 := hide (HV1.out.step hb)
        clear hb a0 a1 a2 a3 b0 b1 b2 b3 d0 d1 d2 d3
        generalize rulText q = tq at hnt ⊢
        have a0 := k5.cell 0
        have a1 := k5.cell 1
        have a2 := k5.cell 2
        have a3 := k5.cell 3
        simp only [List.getElem?_toArray, List.getElem?_cons_zero, List.getElem?_cons_succ] at a0 a1 a2 a3
        have b0 := k8.cell 0
        have b1 := k8.cell 1
        have b2 := k8.cell 2
        have b3 := k8.cell 3
        simp only [List.getElem?_toArray, List.getElem?_cons_zero, List.getElem?_cons_succ] at b0 b1 b2 b3
        have d0 := k10.cell 0
        have d1 := k10.cell 1
        have d2 := k10.cell 2
        have d3 := k10.cell 3
        simp only [List.getElem?_toArray, List.getElem?_cons_zero, List.getElem?_cons_succ] at d0 d1 d2 d3
        go_wp2_with fail
        refine (D3.out _).mono ?_
        rintro e w8 ⟨rfl, hb⟩
        replace k5 := k5.step hb
        replace k8 := k8.step hb
        replace k10 := k10.step hb
        replace HB := Below.then_ HB hb
        replace HV1 := hide (HV1.out.step hb)
        clear hb a0 a1 a2 a3 b0 b1 b2 b3 d0 d1 d2 d3
        cases hok : rulOk r
        · have HOK := hide hok
          rw [hok] at hem
          replace hem : (rulText r).toList.isEmpty = true := hem
          have HTX := hide text_noRule
          have hlit := beq_lit (rulText noRule) [48, 32, 45, 32, 45, 32, 114, 101, 97, 100]
          rw [HTX.out, decide_eq_true rfl] at hlit
          have D5 := hide (fun W => implRulText_any noRule ⟨Nat.zero_le _, Nat.zero_le _⟩ W)
          rw [show (encRule noRule).toArray = #[.int .i64 0, .string ⟨#[]⟩, .string ⟨#[]⟩, .bool false] from rfl] at D5
          rw [HTX.out] at D5
          generalize hs0 : rulText r = s0 at hem hne ⊢
          clear hok hs0
          go_wp2_with fail
          refine (D5.out _).mono ?_
          rintro e w9 ⟨rfl, hb⟩
          replace HB := Below.then_ HB hb
          clear hb
          go_wp2
          go_ret
          exact ⟨rfl, HB⟩
        · have HOK := hide hok
          rw [hok] at hem
          replace hem : (rulText r).toList.isEmpty = false := hem
          have S2 := hide (fun W hW => implRulRead_any (rulText r) (by have := text_small r; omega) W hW)
          rw [HT.out hok] at S2
          rw [show (encRule (r, true).1).toArray = #[.int .i64 r.user, .string r.ref, .string r.path, .bool r.write] from rfl] at S2
          generalize hs0 : rulText r = s0 at hem hne S2 ⊢
          clear hok hs0 HT
          go_wp2_with fail
          refine (S2.out _ HV1.out).mono ?_
          rintro e w9 ⟨rfl, hb⟩
          replace k5 := k5.step hb
          replace HB := Below.then_ HB hb
          replace HV1 := hide (HV1.out.step hb)
          clear hb
          have k12 := Blk.new w9 25 #[.int .i64 r.user, .string r.ref, .string r.path, .bool r.write]
          have hal := (Below.refl w9.heap.size w9).alloc (Nat.le_refl _) (.cells #[.int .i64 r.user, .string r.ref, .string r.path, .bool r.write] 25)
          replace k5 := k5.step hal
          replace HB := Below.then_ HB hal
          clear hal
          have a0 := k5.cell 0
          have a1 := k5.cell 1
          have a2 := k5.cell 2
          have a3 := k5.cell 3
          simp only [List.getElem?_toArray, List.getElem?_cons_zero, List.getElem?_cons_succ] at a0 a1 a2 a3
          have u0 := k12.cell 0
          have u1 := k12.cell 1
          have u2 := k12.cell 2
          have u3 := k12.cell 3
          simp only [List.getElem?_toArray, List.getElem?_cons_zero, List.getElem?_cons_succ] at u0 u1 u2 u3
          clear k5 k12
          go_wp2
          go_ret
          exact ⟨rfl, HB⟩
end Go.Proofs.YthopednilgncgaaDoor
