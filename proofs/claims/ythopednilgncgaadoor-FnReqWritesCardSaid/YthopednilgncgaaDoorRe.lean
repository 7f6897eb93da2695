/- Walks: lists of rules that are ok; of the reference and of the program. -/
import Derived.Test.YthopednilgncgaaDoorRd
import Derived.Test.YthopednilgncgaaDoorRb
import Derived.Test.YthopednilgncgaaDoorQ
namespace Go.Proofs.YthopednilgncgaaDoor
open Go.RowKit
attribute [local go_sem ↓] Go.wp_at_zero Go.wp_at_succ

def rulAt (l : List Rule) (i : Nat) : Bool := match l[i]? with
  | some r => rulOk r && !((l.take i).any fun x => decide (x = r))
  | none => true
theorem rulAt_eq {l : List Rule} {i : Nat} (h : i < l.length) : rulAt l i = (rulOk l[i] && !((l.take i).any fun x => decide (x = l[i]))) := by
  unfold rulAt
  rw [List.getElem?_eq_getElem h]
def rulListOk (l : List Rule) : Bool := decide (l.length ≤ 6) && allN l.length (rulAt l)

set_option maxHeartbeats 2000000 in
set_option maxRecDepth 20000 in
theorem specRulListOk_any {A : Option Addr} {n c : Nat} {l : List Rule} {fp : List Nat} (w : World) (hx : SlR Rp.rule w A n c l fp) (hr : fitRules l) :
    Calls Tryd.prog 14 #[.slice A n c] w fun e w' => e = .returned (.bool (rulListOk l)) ∧ Below w.heap.size w w' := by
  obtain ⟨rfl, hcx, hmx, _⟩ := id hx
  unfold maxLen at hmx
  have HR := hide hr
  clear hr
  go_enter Tryd.func14, Tryd.ntmps14
  by_cases h6 : l.length ≤ 6
  · go_wp2
    go_loopw [3] (fun i wr => ∃ k : Nat, k ≤ l.length ∧ i = .int .i64 k ∧ oksTo (rulAt l) k ∧ Below w.heap.size w wr) (fun i _ => l.length - (intOf i).toNat)
    case atStart => exact ⟨0, Nat.zero_le _, rfl, oksTo_zero, Below.refl _ _⟩
    case round =>
      obtain ⟨k, hk, rfl, hag, hbl⟩ := hrel
      have HA := hide hag
      clear hag
      by_cases hlt : k < l.length
      · have HF := hide (HR.out k hlt)
        have HE := hide (rulAt_eq hlt)
        obtain ⟨f, hxk, _⟩ := (hx.step hbl).take hk
        obtain ⟨b, o, rfl, hb, hm, h0, h1, h2, h3⟩ := rule_cells (hx.step hbl) hlt
        have i0 : (0 : Int) ≤ (k : Int) := by omega
        have i1 : (k : Int) < (l.length : Int) := by omega
        have i2 : (k : Int) ≤ (c : Int) := by omega
        have C1 := specRulOk_any l[k] HF.out
        have C2 := fun W (h : SlR Rp.rule W (some ⟨b, o, none⟩) k c (l.take k) f) => l5Same_any l[k] W h
        unfold encRule at C1 C2
        cases hd : rulOk l[k]
        · rw [hd] at C1
          have D1 := hide C1
          clear C1 C2
          rw [hd] at HE
          clear hd
          go_wp2_with fail
          have n0 := BelowW.nonempty wr
          have e0 := BelowW.ex (w := wr)
          have g0 := fun n : BelowW wr => n.cell h0
          have g1 := fun n : BelowW wr => n.cell h1
          have g2 := fun n : BelowW wr => n.cell h2
          have g3 := fun n : BelowW wr => n.cell h3
          clear h0 h1 h2 h3
          refine wp_region_below (by kernel_rfl) (by kernel_rfl) ?_
          repeat (go_big_quiet_step (first | (go_at_call 47; exact BelowW.calls _ (D1.out _))))
          refine wpQuiet_nil ?_
          rintro _ ⟨⟨w1, hb1⟩, rfl⟩
          have HB := hide (Below.then_ hbl hb1)
          clear hb1
          go_wp2
          go_ret
          exact ⟨ret_bool (by unfold rulListOk; rw [oksTo.not_ hlt (HE.out.trans (by simp))]; simp), HB.out⟩
        · rw [hd, Bool.true_and] at HE
          rw [hd] at C1
          have D1 := hide C1
          clear C1 hd
          cases hd : (l.take k).any fun x => decide (x = l[k])
          all_goals
            simp only [hd] at C2
            have D2 := hide C2
            rw [hd] at HE
            clear hd C2
            go_wp2_with fail
            have n0 := BelowW.nonempty wr
            have e0 := BelowW.ex (w := wr)
            have g0 := fun n : BelowW wr => n.cell h0
            have g1 := fun n : BelowW wr => n.cell h1
            have g2 := fun n : BelowW wr => n.cell h2
            have g3 := fun n : BelowW wr => n.cell h3
            clear h0 h1 h2 h3
            refine wp_region_below (by kernel_rfl) (by kernel_rfl) ?_
            repeat (go_big_quiet_step (first | (go_at_call 47; exact BelowW.calls _ (D1.out _)) | (go_at_call 48; exact BelowW.calls _ (D2.out _ (BelowW.sl _ hxk)))))
            refine wpQuiet_nil ?_
            rintro _ ⟨⟨w1, hb1⟩, rfl⟩
            have HB := hide (Below.then_ hbl hb1)
            clear hb1 e0 g0 g1 g2 g3
          · go_wp2
            exact ⟨⟨k + 1, by omega, by go_num, HA.out.next (HE.out.trans rfl), HB.out⟩, by simp [intOf]; omega⟩
          · go_wp2
            go_ret
            exact ⟨ret_bool (by unfold rulListOk; rw [oksTo.not_ hlt (HE.out.trans rfl)]; simp), HB.out⟩
      · have hk' : k = l.length := by omega
        subst hk'
        go_wp2
        go_ret
        exact ⟨ret_bool (by unfold rulListOk; rw [HA.out.all_]; simp; omega), hbl⟩
  · go_wp2
    go_ret
    exact ⟨ret_bool (by unfold rulListOk; rw [decide_eq_false h6]; rfl), Below.refl _ _⟩
end Go.Proofs.YthopednilgncgaaDoor
