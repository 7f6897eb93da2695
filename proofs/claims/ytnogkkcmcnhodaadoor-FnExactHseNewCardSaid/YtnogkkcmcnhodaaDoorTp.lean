/- Plain laws of the order of texts and of trees. No program in sight. -/
import Derived.Test.YtnogkkcmcnhodaaDoorHm
namespace Go.Proofs.YtnogkkcmcnhodaaDoor
open Go.RowKit

theorem bl_irrefl : ∀ x : List UInt8, Op.bytesLess x x = false
  | [] => rfl
  | a :: x => by simp [Op.bytesLess, bl_irrefl x]
theorem bl_trans : ∀ {x y z : List UInt8}, Op.bytesLess x y = true → Op.bytesLess y z = true → Op.bytesLess x z = true
  | x, y, [], _, h => by cases y <;> simp [Op.bytesLess] at h
  | [], y, c :: z, _, _ => by simp [Op.bytesLess]
  | a :: x, [], c :: z, h, _ => by simp [Op.bytesLess] at h
  | a :: x, b :: y, c :: z, h, h' => by
    simp only [Op.bytesLess, Bool.or_eq_true, Bool.and_eq_true, decide_eq_true_eq, beq_iff_eq, UInt8.lt_iff_toNat_lt] at h h' ⊢
    rcases h with h | ⟨rfl, h⟩
    · rcases h' with h' | ⟨rfl, h'⟩
      · exact .inl (by omega)
      · exact .inl h
    · rcases h' with h' | ⟨rfl, h'⟩
      · exact .inl h'
      · exact .inr ⟨rfl, bl_trans h h'⟩
theorem bl_tri : ∀ {x y : List UInt8}, Op.bytesLess x y = false → x ≠ y → Op.bytesLess y x = true
  | [], [], _, h => absurd rfl h
  | [], b :: y, h, _ => by simp [Op.bytesLess] at h
  | a :: x, [], _, _ => by simp [Op.bytesLess]
  | a :: x, b :: y, h, hn => by
    simp only [Op.bytesLess, Bool.or_eq_false_iff, Bool.and_eq_false_iff, decide_eq_false_iff_not, beq_eq_false_iff_ne, UInt8.lt_iff_toNat_lt] at h
    simp only [Op.bytesLess, Bool.or_eq_true, Bool.and_eq_true, decide_eq_true_eq, beq_iff_eq, UInt8.lt_iff_toNat_lt]
    by_cases e : a = b
    · subst e
      refine .inr ⟨rfl, bl_tri ?_ fun h' => hn (by rw [h'])⟩
      rcases h.2 with h' | h'
      · exact absurd rfl h'
      · exact h'
    · have : a.toNat ≠ b.toNat := fun h' => e (UInt8.toNat_inj.1 h')
      exact .inl (by omega)

theorem bLt_irrefl (a : ByteArray) : bLt a a = false := bl_irrefl _
theorem bLt_trans {a b c : ByteArray} (h : bLt a b = true) (h' : bLt b c = true) : bLt a c = true := bl_trans h h'
theorem bLt_tri {a b : ByteArray} (h : bLt a b = false) (hn : a ≠ b) : bLt b a = true := bl_tri h fun e => hn (toList_inj e)
theorem bLt_ne {a b : ByteArray} (h : bLt a b = true) : a ≠ b := fun e => by subst e; rw [bLt_irrefl] at h; cases h
theorem bLt_asymm {a b : ByteArray} (h : bLt a b = true) : bLt b a = false := by
  cases h' : bLt b a
  · rfl
  · have := bLt_trans h h'
    rw [bLt_irrefl] at this; cases this
theorem bLt_or {a b : ByteArray} (hn : a ≠ b) : bLt b a = !bLt a b := by
  cases h : bLt a b
  · rw [bLt_tri h hn]; rfl
  · rw [bLt_asymm h]; rfl

/-! What stands between a path and one under it lies under it. -/
theorem between : ∀ {a b : List UInt8} {t : List UInt8}, (∀ x ∈ b, 47 ≤ x.toNat) → Op.bytesLess a b = true → Op.bytesLess b (a ++ 47 :: t) = true → ∃ s, b = a ++ 47 :: s
  | [], [], _, _, h, _ => by simp [Op.bytesLess] at h
  | [], x :: b, t, hb, _, h => by
    simp only [List.nil_append, Op.bytesLess, Bool.or_eq_true, Bool.and_eq_true, decide_eq_true_eq, beq_iff_eq, UInt8.lt_iff_toNat_lt] at h
    have h1 := hb x (by simp)
    rcases h with h | ⟨rfl, h⟩
    · have : (47 : UInt8).toNat = 47 := rfl
      omega
    · exact ⟨b, rfl⟩
  | y :: a, [], _, _, h, _ => by simp [Op.bytesLess] at h
  | y :: a, z :: b, t, hb, h, h' => by
    simp only [List.cons_append, Op.bytesLess, Bool.or_eq_true, Bool.and_eq_true, decide_eq_true_eq, beq_iff_eq, UInt8.lt_iff_toNat_lt] at h h'
    have e : y = z ∧ Op.bytesLess a b = true ∧ Op.bytesLess b (a ++ 47 :: t) = true := by
      rcases h with h | ⟨rfl, h⟩ <;> rcases h' with h' | ⟨e, h'⟩
      · omega
      · subst e; omega
      · omega
      · exact ⟨rfl, h, h'⟩
    obtain ⟨rfl, h1, h2⟩ := e
    obtain ⟨s, rfl⟩ := between (fun x hx => hb x (by simp [hx])) h1 h2
    exact ⟨s, rfl⟩

theorem cutL_mem {c b : UInt8} : ∀ {l : List UInt8}, b ∈ l → b = c ∨ ∃ p ∈ cutL c l, b ∈ p
  | x :: l, h => by
    unfold cutL
    by_cases e : x = c
    · rw [if_pos e]
      rcases List.mem_cons.1 h with rfl | h
      · exact .inl e
      · rcases cutL_mem h with h | ⟨p, hp, hb⟩
        · exact .inl h
        · exact .inr ⟨p, by simp [hp], hb⟩
    · rw [if_neg e]
      split
      · rename_i h0; exact absurd h0 (cutL_ne c l)
      · rename_i y ys h0
        rcases List.mem_cons.1 h with rfl | h
        · exact .inr ⟨b :: y, by simp, by simp⟩
        · rcases cutL_mem h with h | ⟨p, hp, hb⟩
          · exact .inl h
          · rw [h0] at hp
            rcases List.mem_cons.1 hp with rfl | hp
            · exact .inr ⟨x :: p, by simp, by simp [hb]⟩
            · exact .inr ⟨p, by simp [hp], hb⟩
theorem pthOk_low {s : ByteArray} (h : pthOk s = true) : ∀ x ∈ s.data.toList, 47 ≤ x.toNat := fun x hx => by
  unfold pthOk at h
  rcases Bool.or_eq_true_iff.1 h with h | h
  · have := of_decide_eq_true h
    subst this
    cases hx
  · obtain ⟨h1, _⟩ := Bool.and_eq_true_iff.1 h
    rcases cutL_mem (c := 47) hx with rfl | ⟨p, hp, hb⟩
    · exact Nat.le_refl 47
    · have h2 := List.all_eq_true.1 h1 ⟨p.toArray⟩ (by unfold cutB; exact List.mem_map.2 ⟨p, hp, rfl⟩)
      simp only [namOk, Bool.and_eq_true] at h2
      have h3 := List.all_eq_true.1 h2.2 x (by simpa using hb)
      simp only [lowB, Bool.and_eq_true, decide_eq_true_eq] at h3
      omega

theorem isPre_iff (p s : ByteArray) : isPre p s = true ↔ ∃ t, s.data.toList = p.data.toList ++ t := by
  unfold isPre
  rw [List.isPrefixOf_iff_prefix]
  exact ⟨fun ⟨t, h⟩ => ⟨t, h.symm⟩, fun ⟨t, h⟩ => ⟨t, h.symm⟩⟩
theorem stroke_list (a : ByteArray) : (a ++ ⟨#[47]⟩ : ByteArray).data.toList = a.data.toList ++ [47] := by
  rw [ByteArray.data_append]; simp
theorem under_iff {a b : ByteArray} (ha : pthOk a = true) (hb : pthOk b = true) : pthUnder a b = true ↔ a = ByteArray.empty ∨ a = b ∨ ∃ t, b.data.toList = a.data.toList ++ 47 :: t := by
  rw [pthUnder_both ha hb]
  simp only [Bool.or_eq_true, decide_eq_true_eq, isPre_iff, stroke_list, List.append_assoc, List.cons_append, List.nil_append, or_assoc]
theorem under_between {a b c : ByteArray} (ha : pthOk a = true) (hb : pthOk b = true) (hc : pthOk c = true) (h1 : bLt a b = true) (h2 : bLt b c = true) (h : pthUnder a c = true) : pthUnder a b = true := by
  rw [under_iff ha hc] at h
  rw [under_iff ha hb]
  rcases h with h | h | ⟨t, h⟩
  · exact .inl h
  · subst h
    have := bLt_asymm h1
    rw [h2] at this; cases this
  · unfold bLt at h1 h2
    rw [ByteArray.toList_eq, ByteArray.toList_eq] at h1 h2
    rw [h] at h2
    exact .inr (.inr (between (pthOk_low hb) h1 h2))

/-! A row in which each stands rightly behind the one ahead. -/
/-- rightly behind the one ahead -/
def stepOk {α : Type} (R : α → α → Bool) (l : List α) (i : Nat) : Bool := match i with
  | 0 => true
  | j + 1 => match l[j]?, l[j + 1]? with
    | some a, some b => R a b
    | _, _ => true
theorem stepOk_succ {α : Type} {R : α → α → Bool} {l : List α} {j : Nat} (h : j + 1 < l.length) : stepOk R l (j + 1) = R l[j] l[j + 1] := by
  simp [stepOk, List.getElem?_eq_getElem h, List.getElem?_eq_getElem (show j < l.length by omega)]
theorem pairwise_steps {α : Type} {R : α → α → Bool} {l : List α} (ht : ∀ a ∈ l, ∀ b ∈ l, ∀ c ∈ l, R a b = true → R b c = true → R a c = true) (h : ∀ i, i < l.length → stepOk R l i = true) : l.Pairwise fun a b => R a b = true := by
  have key : ∀ d i, ∀ (hj : i + 1 + d < l.length), R l[i] l[i + 1 + d] = true := by
    intro d
    induction d with
    | zero => intro i hj; have := h (i + 1) hj; rwa [stepOk_succ hj] at this
    | succ d ih =>
      intro i hj
      have h1 := ih i (by omega)
      have h2 := h (i + 1 + d + 1) (by omega)
      rw [stepOk_succ (by omega)] at h2
      exact ht _ (List.getElem_mem _) _ (List.getElem_mem _) _ (List.getElem_mem _) h1 h2
  rw [List.pairwise_iff_getElem]
  intro i j hi hj hlt
  obtain ⟨d, rfl⟩ : ∃ d, j = i + 1 + d := ⟨j - i - 1, by omega⟩
  exact key d i hj
theorem steps_pairwise {α : Type} {R : α → α → Bool} {l : List α} (h : l.Pairwise fun a b => R a b = true) : ∀ i, i < l.length → stepOk R l i = true
  | 0, _ => rfl
  | j + 1, hi => by
    rw [stepOk_succ hi]
    exact (List.pairwise_iff_getElem.1 h) j (j + 1) (by omega) hi (by omega)
theorem fileLt_trans {a b c : File} (ha : fileOk a = true) (hb : fileOk b = true) (hc : fileOk c = true) (h : fileLt a b = true) (h' : fileLt b c = true) : fileLt a c = true := by
  simp only [fileLt, fileOk, Bool.and_eq_true, Bool.not_eq_true'] at *
  refine ⟨bLt_trans h.1 h'.1, ?_⟩
  cases hu : pthUnder a.path c.path
  · rfl
  · have := under_between ha.1.1 hb.1.1 hc.1.1 h.1 h'.1 hu
    rw [h.2] at this; cases this
theorem treOk_iff {l : List File} : treOk l = true ↔ l.length ≤ 60 ∧ (∀ f ∈ l, fileOk f = true) ∧ l.Pairwise fun a b => fileLt a b = true := by
  simp [treOk, and_assoc]
/-- As the reference asks it: each behind the one ahead. -/
theorem treOk_steps {l : List File} : treOk l = (decide (l.length ≤ 60) && l.all fileOk && allN l.length (stepOk fileLt l)) := by
  rw [Bool.eq_iff_iff]
  simp only [treOk, Bool.and_eq_true, decide_eq_true_eq, List.all_eq_true, allN_iff]
  constructor
  · rintro ⟨h1, h2⟩
    exact ⟨h1, fun i hi => steps_pairwise h2 i hi⟩
  · rintro ⟨h1, h2⟩
    exact ⟨h1, pairwise_steps (fun a ha b hb c hc h h' => fileLt_trans (h1.2 a ha) (h1.2 b hb) (h1.2 c hc) h h') h2⟩
theorem treOk_filter {l : List File} (h : treOk l = true) (p : File → Bool) : treOk (l.filter p) = true := by
  obtain ⟨h1, h2, h3⟩ := treOk_iff.1 h
  exact treOk_iff.2 ⟨Nat.le_trans (List.length_filter_le _ _) h1, fun f hf => h2 f (List.mem_filter.1 hf).1, h3.filter p⟩

/-! Insertion. -/
section
variable {α : Type} {lt : α → Bool} {x : α} {l : List α} {k : Nat}
theorem takeWhile_at (h : ∀ i (hi : i < l.length), i < k → lt l[i] = true) (hk : k ≤ l.length) (hn : ∀ (hi : k < l.length), lt l[k] = false) : l.takeWhile lt = l.take k ∧ l.dropWhile lt = l.drop k := by
  induction l generalizing k with
  | nil => simp
  | cons y l ih =>
    cases k with
    | zero =>
      have h0 := hn (by simp)
      simp only [List.getElem_cons_zero] at h0
      simp [h0]
    | succ k =>
      have h0 := h 0 (by simp) (by omega)
      simp only [List.getElem_cons_zero] at h0
      have := ih (k := k) (fun i hi hlt => h (i + 1) (Nat.succ_lt_succ hi) (by omega)) (by simpa using hk) (fun hi => hn (Nat.succ_lt_succ hi))
      simp [h0, this.1, this.2]
theorem insBy_at (h : ∀ i (hi : i < l.length), i < k → lt l[i] = true) (hk : k ≤ l.length) (hn : ∀ (hi : k < l.length), lt l[k] = false) : insBy lt x l = l.take k ++ x :: l.drop k := by
  obtain ⟨h1, h2⟩ := takeWhile_at h hk hn
  rw [insBy, h1, h2]
theorem insBy_length : (insBy lt x l).length = l.length + 1 := by
  have := congrArg List.length (List.takeWhile_append_dropWhile (p := lt) (l := l))
  simp only [List.length_append] at this
  simp only [insBy, List.length_append, List.length_cons]
  omega
theorem mem_insBy {y : α} : y ∈ insBy lt x l ↔ y = x ∨ y ∈ l := by
  have h : y ∈ l ↔ y ∈ l.takeWhile lt ∨ y ∈ l.dropWhile lt := by rw [← List.mem_append, List.takeWhile_append_dropWhile]
  simp only [insBy, List.mem_append, List.mem_cons, h]
  exact or_left_comm
end
end Go.Proofs.YtnogkkcmcnhodaaDoor
