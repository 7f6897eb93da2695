/- The law FnRulMore, walked. -/
import Derived.Test.YthopednilgncgaaDoorDi
import Derived.Test.YthopednilgncgaaDoorDj
import Derived.Test.YthopednilgncgaaDoorCh
import Derived.Test.YthopednilgncgaaDoorRx
namespace Go.Proofs.YthopednilgncgaaDoor
open Go.RowKit
attribute [local go_sem ↓] Go.wp_at_zero Go.wp_at_succ

theorem rulOut_new {l : List Rule} {r : Rule} (h : r ∉ l) : rulOut (l ++ [r]) r = l := by
  unfold rulOut
  rw [List.filter_append, List.filter_cons_of_neg (by simp), List.filter_nil, List.append_nil]
  exact List.filter_eq_self.2 fun x hx => by
    have : x ≠ r := fun e => h (e ▸ hx)
    simp [this]
theorem rulMay_more (l : List Rule) (r : Rule) (user : Int) (ref path : ByteArray) (write : Bool) : rulMay (l ++ [r]) user ref path write = (rulMay l user ref path write || rulMay [r] user ref path write) := by
  unfold rulMay
  rw [List.any_append]
theorem sl_one {w : World} {b : Nat} {t : TypeId} {r : Rule} (h : Blk w b t (encRule r).toArray) : SlR Rp.rule w (some ⟨b, 0, none⟩) 1 1 [r] [b] := by
  refine ⟨rfl, Nat.le_refl _, by simp [maxLen], encRule r, [b], [], ⟨rfl, .inr ⟨by decide, b, 0, rfl, rfl, h.lt, fun j u hu => ?_⟩⟩, AllR.flat.2 ⟨by simp, rfl⟩, rfl⟩
  have := h.cell j
  rw [Nat.zero_add, this]
  simpa using hu
theorem fitRules_one {r : Rule} (h : fitRule r) : fitRules [r] := fun i hi => by
  obtain rfl : i = 0 := by simp at hi; omega
  exact h

set_option maxHeartbeats 4000000 in
set_option maxRecDepth 20000 in
theorem lawRulMore (w : World) {A A' : Option Addr} {n c n' c' : Nat} {code more : List UInt8} {fp fp' : List Nat} (hx : SlR Rp.byte w A n c code fp) (hy : SlR Rp.byte w A' n' c' more fp') :
    Calls Tryd.prog 4 #[.slice A n c, .slice A' n' c'] w fun e w' => e = .returned (.bool true) ∧ Below w.heap.size w w' := by
  obtain ⟨rfl, hcx, hmx, _⟩ := id hx
  obtain ⟨rfl, hcy, hmy, _⟩ := id hy
  unfold maxLen at hmx hmy
  go_enter Tryd.func4, Tryd.ntmps4
  by_cases hq : (1048576 : Int) < (code.length : Int)
  · go_wp2
    go_ret
    exact ⟨rfl, Below.refl _ _⟩
  by_cases hq2 : (1048576 : Int) < (more.length : Int)
  · go_wp2
    go_ret
    exact ⟨rfl, Below.refl _ _⟩
  go_wp2_with fail
  refine (drawRulPut_any _ hx).mono ?_
  rintro e w1 ⟨v, l, r, rfl, hown, hfit, hl, hrf, HB⟩
  obtain ⟨A1, c1, f1, rfl, hs, _, _, _⟩ := own_sl (k := 4) (enc := encRule) (hk := fun _ => rfl) (h1 := encRule_one) hown
  have kb := Blk.new w1 25 (encRule r).toArray
  have hs := hs.allocN (.cells (encRule r).toArray 25)
  replace HB := HB.alloc HB.size (.cells (encRule r).toArray 25)
  have HF := hide hfit
  have HR := hide hrf
  have hy1 := hy.step HB
  have D1 := hide (fun W (h : SlR Rp.rule W A1 l.length c1 l f1) => implRulPut_any r W h (by omega) HF.out HR.out)
  have D2 := hide (fun W (h : SlR Rp.rule W A1 l.length c1 l f1) => specRulPut_any r W h (by omega) HF.out HR.out)
  have D3 := hide (fun W (A : Option Addr) (m d : Nat) (x : List Rule) (f : List Nat) (hx : SlR Rp.rule W A m d x f) (hm : x.length ≤ 4194304) => implRulOut_any r W hx hm)
  have KONE := hide (fun W => sl_one (Blk.new W 25 (encRule r).toArray))
  rw [show (encRule r).toArray = #[.int .i64 r.user, .string r.ref, .string r.path, .bool r.write] from rfl] at *
  clear hown hfit hrf hx hy hq hq2
  go_wp2_with fail
  refine (drawRulMay_any _ hy1).mono ?_
  rintro e w2 ⟨v2, l2, u, ref, path, wr, rfl, _, _, _, hrz, hpz, hb⟩
  replace kb := kb.step hb
  replace hs := hs.step hb
  replace HB := Below.trans HB (hb.mono HB.size)
  clear hb hy1
  have q0 : w2.cell? ⟨w1.heap.size, 0, none⟩ = some (.int .i64 r.user) := kb.cell 0
  have q1 : w2.cell? ⟨w1.heap.size, 1, none⟩ = some (.string r.ref) := kb.cell 1
  have q2 : w2.cell? ⟨w1.heap.size, 2, none⟩ = some (.string r.path) := kb.cell 2
  have q3 : w2.cell? ⟨w1.heap.size, 3, none⟩ = some (.bool r.write) := kb.cell 3
  go_wp2_with fail
  refine (D1.out _ hs).mono ?_
  rintro e w3 ⟨v3, rfl, hown, hb⟩
  obtain ⟨A2, c2, f2, rfl, hs2, _, _, _⟩ := own_sl (k := 4) (enc := encRule) (hk := fun _ => rfl) (h1 := encRule_one) hown
  replace kb := kb.step hb
  replace hs := hs.step hb
  replace HB := Below.trans HB (hb.mono HB.size)
  clear hb hown q0 q1 q2 q3
  have q0 : w3.cell? ⟨w1.heap.size, 0, none⟩ = some (.int .i64 r.user) := kb.cell 0
  have q1 : w3.cell? ⟨w1.heap.size, 1, none⟩ = some (.string r.ref) := kb.cell 1
  have q2 : w3.cell? ⟨w1.heap.size, 2, none⟩ = some (.string r.path) := kb.cell 2
  have q3 : w3.cell? ⟨w1.heap.size, 3, none⟩ = some (.bool r.write) := kb.cell 3
  go_wp2_with fail
  refine (D2.out _ hs).mono ?_
  rintro e w4 ⟨v4, rfl, hown, hb⟩
  obtain ⟨A3, c3, f3, rfl, hs3, _, _, _⟩ := own_sl (k := 4) (enc := encRule) (hk := fun _ => rfl) (h1 := encRule_one) hown
  replace kb := kb.step hb
  replace hs := hs.step hb
  replace hs2 := hs2.step hb
  replace HB := Below.trans HB (hb.mono HB.size)
  clear hb hown q0 q1 q2 q3
  cases hp : putOk l r
  · have HP := hide hp
    have hne : (false != false) = false := rfl
    clear hp
    go_wp2_with fail
    refine (chRules_any _ hs2 hs3).mono ?_
    rintro e w5 ⟨rfl, hb⟩
    rw [decide_eq_true (rfl : rulPut l r = rulPut l r)]
    replace hs := hs.step hb
    replace hs2 := hs2.step hb
    replace HB := Below.trans HB (hb.mono HB.size)
    clear hb hs3 hne
    go_wp2_with fail
    refine (chRules_any _ hs2 hs).mono ?_
    rintro e w6 ⟨rfl, hb⟩
    rw [decide_eq_true (show rulPut l r = l by unfold rulPut; rw [HP.out]; rfl)]
    replace HB := Below.trans HB (hb.mono HB.size)
    clear hb hs hs2
    go_wp2_with fail
    refine (chOk_any _).mono ?_
    rintro e w7 ⟨rfl, hb⟩
    have HFI := hide (Below.trans HB (hb.mono HB.size))
    clear hb
    go_wp2
    go_ret
    exact ⟨rfl, HFI.out⟩
  · have hne : (true != true) = false := rfl
    obtain ⟨k1, k2, k3⟩ := rulListOk_put hp
    have K1 := hide k1
    have K2 := hide k2
    have K3 := hide k3
    have HFP := hide (rulPut_fit (r := r) HF.out HR.out)
    have hlp := rulPut_length (r := r) (l := l)
    have HLP := hide (show (rulPut l r).length ≤ 4194304 by rw [k2]; simp; omega)
    clear hp k1 k2 k3 hlp
    go_wp2_with fail
    refine (chRules_any _ hs2 hs3).mono ?_
    rintro e w5 ⟨rfl, hb⟩
    rw [decide_eq_true (rfl : rulPut l r = rulPut l r)]
    replace kb := kb.step hb
    replace hs := hs.step hb
    replace hs2 := hs2.step hb
    replace HB := Below.trans HB (hb.mono HB.size)
    clear hb hs3 hne
    go_wp2_with fail
    refine (implRulMay_any u ref path wr _ hs HF.out (by omega)).mono ?_
    rintro e w6 ⟨rfl, hb⟩
    replace kb := kb.step hb
    replace hs := hs.step hb
    replace hs2 := hs2.step hb
    replace HB := Below.trans HB (hb.mono HB.size)
    clear hb
    go_wp2_with fail
    refine (implRulMay_any u ref path wr _ hs2 HFP.out (by omega)).mono ?_
    rintro e w7 ⟨rfl, hb⟩
    replace kb := kb.step hb
    replace hs := hs.step hb
    replace hs2 := hs2.step hb
    replace HB := Below.trans HB (hb.mono HB.size)
    clear hb
    have q0 : w7.cell? ⟨w1.heap.size, 0, none⟩ = some (.int .i64 r.user) := kb.cell 0
    have q1 : w7.cell? ⟨w1.heap.size, 1, none⟩ = some (.string r.ref) := kb.cell 1
    have q2 : w7.cell? ⟨w1.heap.size, 2, none⟩ = some (.string r.path) := kb.cell 2
    have q3 : w7.cell? ⟨w1.heap.size, 3, none⟩ = some (.bool r.write) := kb.cell 3
    go_wp2_with fail
    refine (implRulMay_any u ref path wr _ (KONE.out w7) (fitRules_one HR.out) (by omega)).mono ?_
    rintro e w8 ⟨rfl, hb⟩
    replace kb := (kb.alloc _).step hb
    replace hs := (hs.allocN _).step hb
    replace hs2 := (hs2.allocN _).step hb
    replace HB := Below.trans (HB.alloc HB.size _) (hb.mono (HB.alloc HB.size _).size)
    clear hb q0 q1 q2 q3
    have q0 : w8.cell? ⟨w1.heap.size, 0, none⟩ = some (.int .i64 r.user) := kb.cell 0
    have q1 : w8.cell? ⟨w1.heap.size, 1, none⟩ = some (.string r.ref) := kb.cell 1
    have q2 : w8.cell? ⟨w1.heap.size, 2, none⟩ = some (.string r.path) := kb.cell 2
    have q3 : w8.cell? ⟨w1.heap.size, 3, none⟩ = some (.bool r.write) := kb.cell 3
    go_wp2_with fail
    refine (D3.out _ _ _ _ _ _ hs2 HLP.out).mono ?_
    rintro e w9 ⟨v9, rfl, hown, hb⟩
    have hro : rulOut (rulPut l r) r = l := by rw [K2.out, rulOut_new K3.out]
    rw [hro] at hown ⊢
    clear hro
    obtain ⟨A9, c9, f9, rfl, hs9, _, _, _⟩ := own_sl (k := 4) (enc := encRule) (hk := fun _ => rfl) (h1 := encRule_one) hown
    replace hs := hs.step hb
    replace hs2 := hs2.step hb
    replace HB := Below.trans HB (hb.mono HB.size)
    clear hb q0 q1 q2 q3 hown kb
    have hm : rulMay (rulPut l r) u ref path wr = (rulMay l u ref path wr || rulMay [r] u ref path wr) := by rw [K2.out]; exact rulMay_more l r u ref path wr
    have hlt : decide (l.length < (rulPut l r).length) = true := by rw [K2.out]; simp
    generalize rulMay l u ref path wr = b1 at hm ⊢
    generalize rulMay [r] u ref path wr = b2 at hm ⊢
    generalize rulMay (rulPut l r) u ref path wr = b3 at hm ⊢
    rw [hlt]
    clear hlt
    cases b1 <;> cases b2 <;> simp only [Bool.or_false, Bool.or_true, Bool.or_self] at hm <;> subst hm
    all_goals
      go_wp2_with fail
      refine (chRules_any _ hs9 hs).mono ?_
      rintro e w10 ⟨rfl, hb⟩
      rw [decide_eq_true (rfl : l = l)]
      replace hs2 := hs2.step hb
      replace HB := Below.trans HB (hb.mono HB.size)
      clear hb
      go_wp2_with fail
      refine (implRulListOk_any _ hs2 HFP.out).mono ?_
      rintro e w11 ⟨rfl, hb⟩
      rw [K1.out]
      have HFI := hide (Below.trans HB (hb.mono HB.size))
      clear hb
      go_wp2
      go_ret
      exact ⟨rfl, HFI.out⟩
end Go.Proofs.YthopednilgncgaaDoor
