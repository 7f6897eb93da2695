/- The law FnRulOut, walked. -/
import Derived.Test.YthopednilgncgaaDoorDh
import Derived.Test.YthopednilgncgaaDoorCh
import Derived.Test.YthopednilgncgaaDoorRx
namespace Go.Proofs.YthopednilgncgaaDoor
open Go.RowKit
attribute [local go_sem ↓] Go.wp_at_zero Go.wp_at_succ

set_option maxHeartbeats 4000000 in
set_option maxRecDepth 20000 in
theorem lawRulOut (w : World) {A : Option Addr} {n c : Nat} {code : List UInt8} {fp : List Nat} (hx : SlR Rp.byte w A n c code fp) :
    Calls Tryd.prog 3 #[.slice A n c] w fun e w' => e = .returned (.bool true) ∧ Below w.heap.size w w' := by
  obtain ⟨rfl, hcx, hmx, _⟩ := id hx
  unfold maxLen at hmx
  go_enter Tryd.func3, Tryd.ntmps3
  by_cases hq : (1048576 : Int) < (code.length : Int)
  · go_wp2
    go_ret
    exact ⟨rfl, Below.refl _ _⟩
  · go_wp2_with fail
    refine (drawRulOut_any _ hx).mono ?_
    rintro e w1 ⟨v, l, r, rfl, hown, hfit, hl, hrf, HB⟩
    obtain ⟨A1, c1, f1, rfl, hs, _, _, _⟩ := own_sl (k := 4) (enc := encRule) (hk := fun _ => rfl) (h1 := encRule_one) hown
    have kb := Blk.new w1 25 (encRule r).toArray
    have hs := hs.allocN (.cells (encRule r).toArray 25)
    replace HB := HB.alloc HB.size (.cells (encRule r).toArray 25)
    have HF := hide hfit
    have HR := hide hrf
    have C1 := hide (fun W (h : SlR Rp.rule W A1 l.length c1 l f1) => implRulOut_any r W h (by omega))
    have C2 := hide (fun W (h : SlR Rp.rule W A1 l.length c1 l f1) => specRulOut_any r W h (by omega))
    rw [show (encRule r).toArray = #[.int .i64 r.user, .string r.ref, .string r.path, .bool r.write] from rfl] at *
    clear hown hfit hrf hx
    go_wp2_with fail
    refine (C1.out _ hs).mono ?_
    rintro e w2 ⟨v2, rfl, hown2, hb⟩
    obtain ⟨A2, c2, f2, rfl, hs2, _, _, _⟩ := own_sl (k := 4) (enc := encRule) (hk := fun _ => rfl) (h1 := encRule_one) hown2
    replace kb := kb.step hb
    replace hs := hs.step hb
    replace HB := Below.trans HB (hb.mono HB.size)
    clear hown2 hb
    have q0 : w2.cell? ⟨w1.heap.size, 0, none⟩ = some (.int .i64 r.user) := kb.cell 0
    have q1 : w2.cell? ⟨w1.heap.size, 1, none⟩ = some (.string r.ref) := kb.cell 1
    have q2 : w2.cell? ⟨w1.heap.size, 2, none⟩ = some (.string r.path) := kb.cell 2
    have q3 : w2.cell? ⟨w1.heap.size, 3, none⟩ = some (.bool r.write) := kb.cell 3
    go_wp2_with fail
    refine (C2.out _ hs).mono ?_
    rintro e w3 ⟨v3, rfl, hown3, hb⟩
    obtain ⟨A3, c3, f3, rfl, hs3, _, _, _⟩ := own_sl (k := 4) (enc := encRule) (hk := fun _ => rfl) (h1 := encRule_one) hown3
    replace kb := kb.step hb
    replace hs := hs.step hb
    replace hs2 := hs2.step hb
    replace HB := Below.trans HB (hb.mono HB.size)
    clear hown3 hb q0 q1 q2 q3
    have hne : (decide ((rulOut l r).length < l.length) != decide ((rulOut l r).length < l.length)) = false := by simp
    go_wp2_with fail
    refine (chRules_any _ hs2 hs3).mono ?_
    rintro e w4 ⟨rfl, hb⟩
    rw [decide_eq_true (rfl : rulOut l r = rulOut l r)]
    replace kb := kb.step hb
    replace hs := hs.step hb
    replace hs2 := hs2.step hb
    replace HB := Below.trans HB (hb.mono HB.size)
    clear hb hs3 hne
    have hall := rulOut_all l r
    have HK := hide kb
    have HS := hide hs
    have HS2 := hide hs2
    clear kb hs hs2
    go_wp2
    go_loopw [9, 10] (fun nv iv wr => ∃ (i m : Nat), iv = .int .i64 (i : Int) ∧ i ≤ l.length ∧ nv = .int .i64 (m : Int) ∧ m + (rulOut (l.take i) r).length = i ∧ Below w4.heap.size w4 wr) (fun _ iv _ => l.length - (intOf iv).toNat)
    case atStart => exact ⟨0, 0, rfl, by omega, rfl, by simp [rulOut], Below.refl _ _⟩
    case round =>
      obtain ⟨i, m, rfl, hi, rfl, hm, hbl⟩ := hrel
      have HM := hide hm
      have m1 : (m : Int) ≤ (i : Int) := by omega
      clear hm
      by_cases hlt : i < l.length
      · obtain ⟨b, o, rfl, hb, hmm, h0, h1, h2, h3⟩ := rule_cells (HS.out.step hbl) hlt
        have kb := HK.out.step hbl
        have q0 : wr.cell? ⟨w1.heap.size, 0, none⟩ = some (.int .i64 r.user) := kb.cell 0
        have q1 : wr.cell? ⟨w1.heap.size, 1, none⟩ = some (.string r.ref) := kb.cell 1
        have q2 : wr.cell? ⟨w1.heap.size, 2, none⟩ = some (.string r.path) := kb.cell 2
        have q3 : wr.cell? ⟨w1.heap.size, 3, none⟩ = some (.bool r.write) := kb.cell 3
        have i0 : (0 : Int) ≤ (i : Int) := by omega
        have i1 : (i : Int) < (l.length : Int) := by omega
        have heq := eqlRule l[i] r
        have hgd := gdRule
        unfold encRule at heq
        clear kb
        go_wp2_with fail
        go_quiet (fail)
        have hbl' := Below.drewN' hbl nq
        generalize hwx : wr.drewN nq = wx at hbl' ⊢
        have k0 : wx.cell? ⟨b, o + i * 4, none⟩ = some (.int .i64 l[i].user) := by rw [← hwx]; exact h0
        have k1 : wx.cell? ⟨b, o + i * 4 + 1, none⟩ = some (.string l[i].ref) := by rw [← hwx]; exact h1
        have k2 : wx.cell? ⟨b, o + i * 4 + 2, none⟩ = some (.string l[i].path) := by rw [← hwx]; exact h2
        have k3 : wx.cell? ⟨b, o + i * 4 + 3, none⟩ = some (.bool l[i].write) := by rw [← hwx]; exact h3
        clear heq q0 q1 q2 q3 h0 h1 h2 h3 hwx hbl
        cases hd : decide (l[i] = r)
        · obtain ⟨hq, he⟩ := rulOut_head hlt hd
          have HN := hide (rulOut_take_yes hlt hd)
          have HE := hide he
          clear he
          obtain ⟨qq, hqq⟩ : ∃ qq, (rulOut (l.take i) r).length = qq := ⟨_, rfl⟩
          have HM2 := hide (show m + qq = i by rw [← hqq]; exact HM.out)
          have HQ := hide hqq
          have hq' : qq < (rulOut l r).length := by rw [← hqq]; exact hq
          have he' : (rulOut l r)[qq] = l[i] := by
            have h1 := HE.out
            have h2 := HQ.out
            subst h2
            exact h1
          obtain ⟨b2, o2, rfl, hb2, hmm2, p0, p1, p2, p3⟩ := rule_cells (HS2.out.step hbl') hq'
          rw [he'] at p0 p1 p2 p3
          have e1 : (i : Int) - (m : Int) = (qq : Int) := by have := HM2.out; omega
          have j0 : (0 : Int) ≤ (qq : Int) := by omega
          have j1 : (qq : Int) < ((rulOut l r).length : Int) := by omega
          have heq := neqRule l[i] l[i]
          rw [decide_eq_true (rfl : l[i] = l[i])] at heq
          unfold encRule at heq
          clear hd HE hq he' hqq
          have e0 : IntKind.i64.wrap (qq : Int) = (qq : Int) := IntWalk.i64_in _ (by omega)
          have e3 : decide (((rulOut l r).length : Int) ≤ (qq : Int)) = false := by simp; omega
          go_wp2_with fail
          go_quiet (fail)
          clear heq hgd e1 e0 e3
          go_wp2
          refine ⟨⟨i + 1, m, by go_num, by omega, rfl, ?_, Below.drewN' hbl' _⟩, by simp [intOf]; omega⟩
          rw [HN.out]
          have := HM.out
          simp only [List.length_append, List.length_singleton]
          omega
        · have HN := hide (rulOut_take_no hlt hd)
          clear hd hgd
          go_wp2
          refine ⟨⟨i + 1, m + 1, by go_num, by omega, by go_num, ?_, hbl'⟩, by simp [intOf]; omega⟩
          rw [HN.out]
          have := HM.out
          omega
      · have hi' : i = l.length := by omega
        subst hi'
        have hm' := HM.out
        rw [List.take_length] at hm'
        have e1 : (l.length : Int) - (m : Int) = ((rulOut l r).length : Int) := by omega
        have e2 : (decide ((rulOut l r).length < l.length) == decide ((0 : Int) < (m : Int))) = true := by
          rw [beq_iff_eq]; exact decide_eq_decide.2 (by omega)
        have E1 := hide e1
        have E2 := hide e2
        clear e1 e2 hm'
        have hsx := HS.out.step hbl
        have hs2x := HS2.out.step hbl
        have e1 := E1.out
        have e2 := E2.out
        go_wp2_with fail
        clear e1 e2
        refine (specRulListOk_any _ hsx HF.out).mono ?_
        rintro e w5 ⟨rfl, hb5⟩
        have hs2y := hs2x.step hb5
        have hb5' := Below.then_ hbl hb5
        clear hb5 hsx hs2x
        have hfin : ∀ (W W' : World), Below w4.heap.size w4 W → Below W.heap.size W W' → Below w.heap.size w W' := fun W W' h1 h2 => HB.trans ((Below.then_ h1 h2).mono HB.size)
        cases hk : rulListOk l
        · go_wp2_with fail
          refine (chOk_any _).mono ?_
          rintro e w6 ⟨rfl, hb6⟩
          have HFI := hide (hfin _ _ hb5' hb6)
          clear hfin
          go_wp2
          go_ret
          exact ⟨rfl, HFI.out⟩
        · have HOK := hide (rulListOk_out hk r)
          clear hk
          go_wp2_with fail
          refine (implRulListOk_any _ hs2y (rulOut_fit HF.out)).mono ?_
          rintro e w6 ⟨rfl, hb6⟩
          rw [HOK.out]
          have hb6' := Below.then_ hb5' hb6
          clear hb6
          go_wp2_with fail
          refine (chOk_any _).mono ?_
          rintro e w7 ⟨rfl, hb7⟩
          have HFI := hide (hfin _ _ hb6' hb7)
          clear hfin
          go_wp2
          go_ret
          exact ⟨rfl, HFI.out⟩
end Go.Proofs.YthopednilgncgaaDoor
