/- Walks: edits that are ok; of the reference. -/
import Derived.Test.YthopednilgncgaaDoorRj
namespace Go.Proofs.YthopednilgncgaaDoor
open Go.RowKit
attribute [local go_sem ↓] Go.wp_at_zero Go.wp_at_succ

set_option maxHeartbeats 2000000 in
theorem l6Edits_any {A : Option Addr} {n c : Nat} {l : List Edit} {fp : List Nat} (w : World) (hx : SlR Rp.edit w A n c l fp) (hf : ∀ i (h : i < l.length), fitEdit l[i]) :
    Calls Tryd.prog 65 #[.slice A n c] w fun e w' => e = .returned (.bool (decide (l.length ≤ 4) && !(l.any fun e => !editOk e))) ∧ Below w.heap.size w w' := by
  obtain ⟨rfl, hcx, hmx, _⟩ := id hx
  unfold maxLen at hmx
  have HF := hide hf
  clear hf
  go_enter Tryd.func65, Tryd.ntmps65
  by_cases h4 : l.length ≤ 4
  · go_wp2
    go_loopw [3] (fun i wr => ∃ k : Nat, k ≤ l.length ∧ i = .int .i64 k ∧ noneTo (fun e => !editOk e) l k ∧ Below w.heap.size w wr) (fun i _ => l.length - (intOf i).toNat)
    case atStart => exact ⟨0, Nat.zero_le _, rfl, noneTo_zero, Below.refl _ _⟩
    case round =>
      obtain ⟨k, hk, rfl, hag, hbl⟩ := hrel
      have HA := hide hag
      clear hag
      by_cases hlt : k < l.length
      · obtain ⟨b, o, rfl, hb, hm, h0, h1, h2⟩ := edit_cells (hx.step hbl) hlt
        have HG := hide (HF.out k hlt)
        have HX := hide (fun (h : editOk l[k] = false) => any_hit (p := fun e => !editOk e) hlt (by simp [h]))
        have HY := hide (fun (h : editOk l[k] = true) => HA.out.next (p := fun e => !editOk e) hlt (by simp [h]))
        generalize l[k] = x at h0 h1 h2 HG HX HY
        obtain ⟨path, bytes, gone⟩ := x
        cases hp : path.toList.isEmpty
        · go_wp2_with fail
          refine (specPthOk_any path HG.out _).mono ?_
          rintro e w1 ⟨rfl, hb1⟩
          have q1 := cell_step h1 hb1
          have q2 := cell_step h2 hb1
          have HB := hide (Below.then_ hbl hb1)
          clear hb1 h0 h1 h2
          rw [isEmpty_eq] at hp
          have HP := hide hp
          clear hp
          cases hd : pthOk path
          · go_wp2
            go_ret
            exact ⟨ret_bool (by rw [HX.out (by simp [editOk, hd])]; simp), HB.out⟩
          · have HD := hide hd
            clear hd
            cases h3 : bytes.toList.isEmpty <;> cases gone
            all_goals
              go_wp2
              all_goals
                rw [isEmpty_eq] at h3
                first
                | (go_ret; exact ⟨ret_bool (by rw [HX.out (by simp_all [editOk, HD.out, HP.out]; try omega)]; simp), HB.out⟩)
                | exact ⟨⟨k + 1, by omega, by go_num, HY.out (by simp_all [editOk, HD.out, HP.out]; try omega), HB.out⟩, by simp [intOf]; omega⟩
        · go_wp2
          go_ret
          exact ⟨ret_bool (by rw [isEmpty_eq] at hp; rw [HX.out (by simp [editOk, hp])]; simp), hbl⟩
      · have hk' : k = l.length := by omega
        subst hk'
        go_wp2
        go_ret
        exact ⟨ret_bool (by rw [HA.out.any_]; simp; omega), hbl⟩
  · go_wp2
    go_ret
    exact ⟨ret_bool (by rw [decide_eq_false h4]; rfl), Below.refl _ _⟩
end Go.Proofs.YthopednilgncgaaDoor
