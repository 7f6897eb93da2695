/- A rule's text there and back. Plain; no program in sight. -/
import Derived.Test.YthopednilgncgaaDoorYa
namespace Go.Proofs.YthopednilgncgaaDoor
open Go.RowKit

theorem cutL_glue (c : UInt8) : ∀ (a b : List UInt8), c ∉ a → cutL c (a ++ c :: b) = a :: cutL c b
  | [], b, _ => by rw [List.nil_append, cutL, if_pos rfl]
  | x :: a, b, h => by
    have hx : x ≠ c := fun e => h (by simp [e])
    have ih := cutL_glue c a b (fun hm => h (by simp [hm]))
    rw [List.cons_append, cutL, if_neg hx, ih]
theorem cutL_whole (c : UInt8) : ∀ (a : List UInt8), c ∉ a → cutL c a = [a]
  | [], _ => rfl
  | x :: a, h => by
    have hx : x ≠ c := fun e => h (by simp [e])
    have ih := cutL_whole c a (fun hm => h (by simp [hm]))
    rw [cutL, if_neg hx, ih]
theorem cutL_has (c b : UInt8) : ∀ (l : List UInt8), b ∈ l → b = c ∨ ∃ p ∈ cutL c l, b ∈ p
  | [], h => by cases h
  | x :: l, h => by
    by_cases hx : x = c
    · rcases List.mem_cons.1 h with rfl | h
      · exact .inl hx
      · rw [cutL, if_pos hx]
        rcases cutL_has c b l h with h | ⟨p, hp, hb⟩
        · exact .inl h
        · exact .inr ⟨p, by simp [hp], hb⟩
    · rw [cutL, if_neg hx]
      cases hc : cutL c l with
      | nil => exact absurd hc (cutL_ne c l)
      | cons y ys =>
        rcases List.mem_cons.1 h with rfl | h
        · exact .inr ⟨b :: y, by simp, by simp⟩
        · rcases cutL_has c b l h with h | ⟨p, hp, hb⟩
          · exact .inl h
          · rw [hc] at hp
            rcases List.mem_cons.1 hp with rfl | hp
            · exact .inr ⟨x :: p, by simp, by simp [hb]⟩
            · exact .inr ⟨p, by simp [hp], hb⟩
theorem low_name {s : ByteArray} (h : namOk s = true) : ∀ b ∈ s.data.toList, 97 ≤ b.toNat := fun b hb => by
  simp only [namOk, Bool.and_eq_true] at h
  have := List.all_eq_true.1 h.2 b hb
  simp only [lowB, Bool.and_eq_true, decide_eq_true_eq] at this
  exact this.1
theorem low_ref {s : ByteArray} (h : refFits s = true) : ∀ b ∈ s.data.toList, 97 ≤ b.toNat := by
  unfold refFits at h
  rcases Bool.or_eq_true_iff.1 h with h | h
  · rw [of_decide_eq_true h]; intro b hb; cases hb
  · exact low_name h
theorem low_path {s : ByteArray} (h : pthOk s = true) : ∀ b ∈ s.data.toList, 47 ≤ b.toNat := by
  unfold pthOk at h
  rcases Bool.or_eq_true_iff.1 h with h | h
  · rw [of_decide_eq_true h]; intro b hb; cases hb
  · intro b hb
    rcases cutL_has 47 b _ hb with rfl | ⟨p, hp, hm⟩
    · decide
    · have h1 := List.all_eq_true.1 (Bool.and_eq_true_iff.1 h).1 ⟨p.toArray⟩ (by unfold cutB; exact List.mem_map.2 ⟨p, hp, rfl⟩)
      have := low_name h1 b (by simpa using hm)
      omega
theorem undash_dash {s : ByteArray} (h : ∀ b ∈ s.data.toList, 47 ≤ b.toNat) : undashB (dashB s) = s := by
  unfold dashB
  split
  · rename_i e
    subst e
    decide
  · unfold undashB
    rw [if_neg]
    rintro rfl
    have := h 45 (by simp)
    exact absurd this (by decide)
theorem dash_low {s : ByteArray} (h : ∀ b ∈ s.data.toList, 47 ≤ b.toNat) : (32 : UInt8) ∉ (dashB s).data.toList := by
  unfold dashB
  split
  · decide
  · intro hm
    exact absurd (h 32 hm) (by decide)
theorem dig_low {u : Nat} (h : u ≤ 4) : (32 : UInt8) ∉ (digB u).data.toList := by
  rw [digB_one (by omega)]
  rcases (show u = 0 ∨ u = 1 ∨ u = 2 ∨ u = 3 ∨ u = 4 by omega) with rfl | rfl | rfl | rfl | rfl <;> decide
theorem word_low (b : Bool) : (32 : UInt8) ∉ (wordB b).data.toList := by cases b <;> decide
theorem word_write (b : Bool) : decide (wordB b = writeB) = b := by cases b <;> decide
theorem cut_text {a b c d : ByteArray} (ha : (32 : UInt8) ∉ a.data.toList) (hb : (32 : UInt8) ∉ b.data.toList) (hc : (32 : UInt8) ∉ c.data.toList) (hd : (32 : UInt8) ∉ d.data.toList) :
    cutB 32 (a ++ blankB ++ b ++ blankB ++ c ++ blankB ++ d) = [a, b, c, d] := by
  have e : (a ++ blankB ++ b ++ blankB ++ c ++ blankB ++ d).data.toList = a.data.toList ++ 32 :: (b.data.toList ++ 32 :: (c.data.toList ++ 32 :: d.data.toList)) := by
    simp [blankB]
  unfold cutB
  rw [e, cutL_glue _ _ _ ha, cutL_glue _ _ _ hb, cutL_glue _ _ _ hc, cutL_whole _ _ hd]
  simp
theorem rulOk_low {r : Rule} (h : rulOk r = true) : (∀ b ∈ r.ref.data.toList, 47 ≤ b.toNat) ∧ ∀ b ∈ r.path.data.toList, 47 ≤ b.toNat := by
  simp only [rulOk, Bool.and_eq_true] at h
  exact ⟨fun b hb => by have := low_ref h.1.2 b hb; omega, low_path h.2⟩
theorem rulText_ok {r : Rule} (h : rulOk r = true) : rulText r = rulTextB r.user.toNat r := by unfold rulText; rw [if_pos h]
theorem rulText_none {r : Rule} (h : rulOk r = false) : rulText r = ByteArray.empty := by unfold rulText; rw [if_neg (by simp [h])]
theorem text_size {u : Nat} {r : Rule} (hu : u ≤ 4) (h1 : r.ref.size ≤ 3) (h2 : r.path.size ≤ 11) : 4 ≤ (rulTextB u r).size ∧ (rulTextB u r).size ≤ 200 := by
  have k1 := dig_size (u := u) (by omega)
  have k2 := dash_size h1
  have k3 := dash_size h2
  have k4 := word_size r.write
  have k5 : blankB.size = 1 := rfl
  unfold rulTextB
  simp only [ByteArray.size_append]
  omega
/-- What is read of a text that is ok is what it was of. -/
theorem rulRead_text {r : Rule} (h : rulOk r = true) : rulRead (rulText r) = (r, true) := by
  obtain ⟨u, hu, hu4, h1, h2⟩ := rulOk_parts h
  obtain ⟨l1, l2⟩ := rulOk_low h
  have ht : rulText r = rulTextB u r := by rw [rulText_ok h, hu]; rfl
  have hz := text_size hu4 h1 h2
  have hc : cutB 32 (rulTextB u r) = [digB u, dashB r.ref, dashB r.path, wordB r.write] := by
    unfold rulTextB
    exact cut_text (dig_low hu4) (dash_low l1) (dash_low l2) (word_low _)
  have e : readOf (digB u) (dashB r.ref) (dashB r.path) (wordB r.write) = r := by
    unfold readOf ruleOf
    rw [numB_dig hu4, undash_dash l1, undash_dash l2, word_write, ← hu]
  rw [ht, rulRead_yes (by omega) hc (by rw [e, ht]), e]
/-- A text that is read is that of what was read. -/
theorem rulRead_back {s : ByteArray} (h : (rulRead s).2 = true) : rulText (rulRead s).1 = s := by
  unfold rulRead at *
  split at h
  · cases h
  · rename_i hl
    rw [if_neg hl]
    split at h
    · rename_i e
      split at h
      · rename_i k
        rw [if_pos k]
        exact k
      · cases h
    · cases h
theorem text_empty (r : Rule) : decide (rulText r = ByteArray.empty) = !rulOk r := by
  cases h : rulOk r
  · rw [rulText_none h]; rfl
  · obtain ⟨u, hu, hu4, h1, h2⟩ := rulOk_parts h
    have hz := text_size hu4 h1 h2
    rw [rulText_ok h, hu]
    refine decide_eq_false fun e => ?_
    have : (rulTextB u r).size = 0 := congrArg ByteArray.size e
    omega
theorem text_noRule : rulText noRule = ⟨#[48, 32, 45, 32, 45, 32, 114, 101, 97, 100]⟩ := by
  have h : rulOk noRule = true := by decide
  rw [rulText_ok h]
  show rulTextB 0 noRule = _
  unfold rulTextB
  rw [digB_zero]
  decide
end Go.Proofs.YthopednilgncgaaDoor
