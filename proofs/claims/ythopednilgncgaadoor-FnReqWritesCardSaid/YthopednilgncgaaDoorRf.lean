/- Walks: lists of rules that are ok, of the program. -/
import Derived.Test.YthopednilgncgaaDoorRe
namespace Go.Proofs.YthopednilgncgaaDoor
open Go.RowKit
attribute [local go_sem ↓] Go.wp_at_zero Go.wp_at_succ
set_option maxHeartbeats 2000000 in
set_option maxRecDepth 20000 in
theorem implRulListOk_any {A : Option Addr} {n c : Nat} {l : List Rule} {fp : List Nat} (w : World) (hx : SlR Rp.rule w A n c l fp) (hr : fitRules l) :
    Calls Tryd.prog 15 #[.slice A n c] w fun e w' => e = .returned (.bool (rulListOk l)) ∧ Below w.heap.size w w' := by
  obtain ⟨rfl, hcx, hmx, _⟩ := id hx
  unfold maxLen at hmx
  have HR := hide hr
  clear hr
  go_enter Tryd.func15, Tryd.ntmps15
  go_wp2
  go_loopw [7] (fun i wr => ∃ k : Nat, k ≤ l.length ∧ i = .int .i64 k ∧ oksTo (rulAt l) k ∧ Below w.heap.size w wr) (fun i _ => l.length - (intOf i).toNat)
  case atStart => exact ⟨0, Nat.zero_le _, rfl, oksTo_zero, Below.refl _ _⟩
  case round =>
    obtain ⟨k, hk, rfl, hag, hbl⟩ := hrel
    have HA := hide hag
    clear hag
    by_cases hlt : k < l.length
    · have HF := hide (HR.out k hlt)
      have HE := hide (rulAt_eq hlt)
      obtain ⟨f, hxk, _⟩ := (hx.step hbl).take hk
      obtain ⟨b, o, rfl, hb, hm, h0, h1, h2, h3⟩ := rule_cells (hx.step hbl) hlt
      have i0 : (0 : Int) ≤ (k : Int) := by omega
      have i1 : (k : Int) < (l.length : Int) := by omega
      have i2 : (k : Int) ≤ (c : Int) := by omega
      have C1 := implRulOk_any l[k] HF.out
      have C2 := fun W (h : SlR Rp.rule W (some ⟨b, o, none⟩) k c (l.take k) f) => hasEqRule_any l[k] W h
      unfold encRule at C1 C2
      go_wp2_with fail
      have hxk' := hxk.allocN (.cells #[.int .i64 l[k].user, .string l[k].ref, .string l[k].path, .bool l[k].write] 25)
      have kb := Blk.new wr 25 #[.int .i64 l[k].user, .string l[k].ref, .string l[k].path, .bool l[k].write]
      have hbl' := hbl.alloc hbl.size (.cells #[.int .i64 l[k].user, .string l[k].ref, .string l[k].path, .bool l[k].write] 25)
      have hg : wr.heap.size < (wr.alloc (.cells #[.int .i64 l[k].user, .string l[k].ref, .string l[k].path, .bool l[k].write] 25)).heap.size := by simp
      clear h0 h1 h2 h3 hxk
      generalize hwx : wr.alloc (.cells #[.int .i64 l[k].user, .string l[k].ref, .string l[k].path, .bool l[k].write] 25) = wx at hxk' kb hbl' ⊢
      clear hwx
      have h0 : wx.cell? ⟨wr.heap.size, 0, none⟩ = some (.int .i64 l[k].user) := kb.cell 0
      have h1 : wx.cell? ⟨wr.heap.size, 1, none⟩ = some (.string l[k].ref) := kb.cell 1
      have h2 : wx.cell? ⟨wr.heap.size, 2, none⟩ = some (.string l[k].path) := kb.cell 2
      have h3 : wx.cell? ⟨wr.heap.size, 3, none⟩ = some (.bool l[k].write) := kb.cell 3
      have n0 := BelowW.nonempty wx
      have e0 := BelowW.ex (w := wx)
      have g0 := fun n : BelowW wx => n.cell h0
      have g1 := fun n : BelowW wx => n.cell h1
      have g2 := fun n : BelowW wx => n.cell h2
      have g3 := fun n : BelowW wx => n.cell h3
      clear h0 h1 h2 h3 kb
      cases hd : rulOk l[k]
      · simp only [hd] at C1
        have D1 := hide C1
        rw [hd] at HE
        clear C1 C2 hd
        refine wp_region_below (by kernel_rfl) (by kernel_rfl) ?_
        repeat (go_big_quiet_step (first | (go_at_call 39; exact BelowW.calls _ (D1.out _))))
        refine wpQuiet_nil ?_
        rintro _ ⟨⟨w1, hb1⟩, rfl⟩
        have HB := hide (hbl'.trans (hb1.mono hbl'.size))
        clear hb1
        go_wp2
        go_ret
        exact ⟨ret_bool (by unfold rulListOk; rw [oksTo.not_ hlt (HE.out.trans (by simp))]; simp), HB.out⟩
      · simp only [hd] at C1
        have D1 := hide C1
        rw [hd, Bool.true_and] at HE
        clear C1 hd
        cases hd : (l.take k).any fun x => decide (x = l[k])
        all_goals
          simp only [hd] at C2
          have D2 := hide C2
          rw [hd] at HE
          clear hd C2
          refine wp_region_below (by kernel_rfl) (by kernel_rfl) ?_
          repeat (go_big_quiet_step (first | (go_at_call 39; exact BelowW.calls _ (D1.out _)) | (go_at_call 49; exact BelowW.calls _ (D2.out _ (BelowW.sl _ hxk')))))
          refine wpQuiet_nil ?_
          rintro _ ⟨⟨w1, hb1⟩, rfl⟩
          have HB := hide (hbl'.trans (hb1.mono hbl'.size))
          clear hb1 e0 g0 g1 g2 g3
        · go_wp2
          exact ⟨⟨k + 1, by omega, by go_num, HA.out.next (HE.out.trans rfl), HB.out⟩, by simp [intOf]; omega⟩
        · go_wp2
          go_ret
          exact ⟨ret_bool (by unfold rulListOk; rw [oksTo.not_ hlt (HE.out.trans rfl)]; simp), HB.out⟩
    · have hk' : k = l.length := by omega
      subst hk'
      go_wp2
      go_ret
      exact ⟨ret_bool (by unfold rulListOk; rw [HA.out.all_, Bool.and_true]; exact decide_eq_decide.2 (by omega)), hbl⟩
end Go.Proofs.YthopednilgncgaaDoor
