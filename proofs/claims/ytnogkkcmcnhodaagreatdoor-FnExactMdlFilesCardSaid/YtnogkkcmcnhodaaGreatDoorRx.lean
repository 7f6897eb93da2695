/- Plain laws of lists of rules. No program in sight. -/
import Derived.Test.YtnogkkcmcnhodaaGreatDoorRg
import Derived.Test.YtnogkkcmcnhodaaGreatDoorRi
namespace Go.Proofs.YtnogkkcmcnhodaaGreatDoor
open Go.RowKit

theorem rulListOk_iff {l : List Rule} : rulListOk l = true ↔ l.length ≤ 6 ∧ (∀ r ∈ l, rulOk r = true) ∧ l.Nodup := by
  unfold rulListOk
  simp only [Bool.and_eq_true, decide_eq_true_eq, allN_iff]
  constructor
  · rintro ⟨h1, h2⟩
    refine ⟨h1, fun r hr => ?_, ?_⟩
    · obtain ⟨i, hi, rfl⟩ := List.mem_iff_getElem.1 hr
      have := h2 i hi
      rw [rulAt_eq hi, Bool.and_eq_true] at this
      exact this.1
    · rw [List.nodup_iff_pairwise_ne, List.pairwise_iff_getElem]
      intro i j hi hj hlt e
      have := h2 j hj
      rw [rulAt_eq hj, Bool.and_eq_true, Bool.not_eq_true', List.any_eq_false] at this
      have h3 := this.2 l[i] (List.mem_take_iff_getElem.2 ⟨i, by omega, rfl⟩)
      simp [e] at h3
  · rintro ⟨h1, h2, h3⟩
    refine ⟨h1, fun i hi => ?_⟩
    rw [rulAt_eq hi, h2 _ (List.getElem_mem hi), Bool.true_and, Bool.not_eq_true', List.any_eq_false]
    intro x hx
    obtain ⟨j, hj, rfl⟩ := List.mem_take_iff_getElem.1 hx
    rw [List.nodup_iff_pairwise_ne, List.pairwise_iff_getElem] at h3
    have := h3 j i (by omega) hi (by omega)
    simp [this]
theorem rulListOk_out {l : List Rule} (h : rulListOk l = true) (r : Rule) : rulListOk (rulOut l r) = true := by
  obtain ⟨h1, h2, h3⟩ := rulListOk_iff.1 h
  exact rulListOk_iff.2 ⟨Nat.le_trans (List.length_filter_le _ _) h1, fun x hx => h2 x (List.mem_filter.1 hx).1, h3.filter _⟩
theorem rulListOk_put {l : List Rule} {r : Rule} (h : putOk l r = true) : rulListOk (rulPut l r) = true ∧ rulPut l r = l ++ [r] ∧ r ∉ l := by
  have e : rulPut l r = l ++ [r] := by unfold rulPut; rw [h]; rfl
  unfold putOk at h
  simp only [Bool.and_eq_true, Bool.not_eq_true', decide_eq_false_iff_not, List.any_eq_false, decide_eq_true_eq] at h
  obtain ⟨⟨⟨h1, h2⟩, h3⟩, h4⟩ := h
  have hn : r ∉ l := fun hm => h4 r hm rfl
  obtain ⟨k1, k2, k3⟩ := rulListOk_iff.1 h1
  refine ⟨?_, e, hn⟩
  rw [e]
  refine rulListOk_iff.2 ⟨by simp; omega, fun x hx => ?_, ?_⟩
  · rcases List.mem_append.1 hx with hx | hx
    · exact k2 x hx
    · rw [List.mem_singleton.1 hx]; exact h2
  · refine List.nodup_append.2 ⟨k3, by simp, fun a ha b hb e => ?_⟩
    rw [List.mem_singleton.1 hb] at e
    subst e
    exact hn ha
theorem rulOut_fit {l : List Rule} {r : Rule} (h : fitRules l) : fitRules (rulOut l r) := fun i hi => by
  have hm : (rulOut l r)[i] ∈ l := (List.mem_filter.1 (List.getElem_mem hi)).1
  obtain ⟨j, hj, he⟩ := List.mem_iff_getElem.1 hm
  rw [← he]
  exact h j hj
/-- What is kept of the first k stands at the head of what is kept of all. -/
theorem rulOut_head {l : List Rule} {r : Rule} {k : Nat} (hk : k < l.length) (h : decide (l[k] = r) = false) : ∃ hq : (rulOut (l.take k) r).length < (rulOut l r).length, (rulOut l r)[(rulOut (l.take k) r).length] = l[k] := by
  have e : rulOut l r = rulOut (l.take k) r ++ (l[k] :: rulOut (l.drop (k + 1)) r) := by
    have e1 : l = l.take k ++ (l[k] :: l.drop (k + 1)) := by rw [← List.drop_eq_getElem_cons hk, List.take_append_drop]
    have e2 : rulOut (l.take k ++ (l[k] :: l.drop (k + 1))) r = rulOut (l.take k) r ++ (l[k] :: rulOut (l.drop (k + 1)) r) := by
      unfold rulOut
      rw [List.filter_append, List.filter_cons, h]
      rfl
    rw [← e1] at e2
    exact e2
  have hq : (rulOut (l.take k) r).length < (rulOut l r).length := by rw [e]; simp
  refine ⟨hq, ?_⟩
  have e3 : (rulOut l r)[(rulOut (l.take k) r).length]? = some l[k] := by rw [e, List.getElem?_append_right (Nat.le_refl _)]; simp
  rw [List.getElem?_eq_getElem hq] at e3
  exact Option.some.inj e3
theorem rulOut_all (l : List Rule) (r : Rule) : (rulOut l r).length ≤ l.length := List.length_filter_le _ _
end Go.Proofs.YtnogkkcmcnhodaaGreatDoor
