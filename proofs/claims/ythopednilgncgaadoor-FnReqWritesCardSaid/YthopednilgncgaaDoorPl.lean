/- Plain laws of names and paths: no program in sight. -/
import Derived.Test.YthopednilgncgaaDoorBase
import Derived.Lib.SplitLaws
namespace Go.Proofs.YthopednilgncgaaDoor
open Go.RowKit

def inB (n lo hi : Int) : Bool := decide (lo ≤ n) && decide (n ≤ hi)
def lowB (b : UInt8) : Bool := decide (97 ≤ b.toNat) && decide (b.toNat ≤ 122)
def namOk (s : ByteArray) : Bool := inB s.size 1 3 && s.data.toList.all lowB

/-- Cut at each c. -/
def cutL (c : UInt8) : List UInt8 → List (List UInt8)
  | [] => [[]]
  | b :: l => if b = c then [] :: cutL c l else match cutL c l with
    | [] => [[b]]
    | x :: xs => (b :: x) :: xs

theorem cutL_ne (c : UInt8) : ∀ l, cutL c l ≠ []
  | [] => by simp [cutL]
  | b :: l => by
    unfold cutL
    split
    · simp
    · split <;> simp

theorem cutL_snoc (c b : UInt8) : ∀ (l : List UInt8) (o : List (List UInt8)) (x : List UInt8), cutL c l = o ++ [x] → cutL c (l ++ [b]) = if b = c then o ++ [x] ++ [[]] else o ++ [x ++ [b]]
  | [], o, x, h => by
    have : o = [] ∧ x = [] := by
      cases o with
      | nil => simpa [cutL, eq_comm] using h
      | cons a o => simp [cutL] at h
    obtain ⟨rfl, rfl⟩ := this
    by_cases hb : b = c <;> simp [cutL, hb]
  | a :: l, o, x, h => by
    obtain ⟨o', x', h'⟩ : ∃ o' x', cutL c l = o' ++ [x'] := ⟨_, _, (List.dropLast_concat_getLast (cutL_ne c l)).symm⟩
    have ih := cutL_snoc c b l o' x' h'
    rw [List.cons_append]
    unfold cutL at h ⊢
    rw [ih]
    rw [h'] at h
    by_cases ha : a = c
    · rw [if_pos ha] at h ⊢
      cases o with
      | nil => simp at h
      | cons y o =>
        rw [List.cons_append, List.cons.injEq] at h
        obtain ⟨rfl, h2⟩ := h
        obtain ⟨rfl, h3⟩ := List.append_inj' h2 rfl
        simp at h3
        subst h3
        split <;> simp
    · rw [if_neg ha] at h ⊢
      cases o' with
      | nil =>
        simp at h
        obtain ⟨rfl, rfl⟩ : o = [] ∧ x = a :: x' := by
          cases o with
          | nil => simpa [eq_comm] using h
          | cons y o => simp at h
        by_cases hb : b = c <;> simp [hb]
      | cons y o' =>
        simp at h
        cases o with
        | nil => simp at h
        | cons z o =>
          rw [List.cons_append, List.cons.injEq] at h
          obtain ⟨rfl, h2⟩ := h
          obtain ⟨rfl, h3⟩ := List.append_inj' h2 rfl
          simp at h3
          subst h3
          by_cases hb : b = c <;> simp [hb]

theorem cutL_size (c : UInt8) : ∀ l, ((cutL c l).map List.length).sum + (cutL c l).length = l.length + 1
  | [] => by simp [cutL]
  | b :: l => by
    have ih := cutL_size c l
    unfold cutL
    split
    · simp; omega
    · split
      · rename_i h; exact absurd h (cutL_ne c l)
      · rename_i x xs h
        rw [h] at ih
        simp at ih ⊢
        omega

theorem index_one_cons_ne (c b : UInt8) (l : List UInt8) (h : b ≠ c) : Lib.index (b :: l) [c] = if Lib.index l [c] == -1 then -1 else Lib.index l [c] + 1 := by
  have hp : ([c] : List UInt8).isPrefixOf (b :: l) = false := by simp [List.isPrefixOf, h.symm]
  rw [Lib.index, hp]; simp
theorem index_one_none (c : UInt8) : ∀ l : List UInt8, l.count c = 0 → Lib.index l [c] = -1
  | [], _ => by simp [Lib.index]
  | b :: l, h => by
    by_cases hb : b = c
    · subst hb; simp at h
    · rw [List.count_cons_of_ne hb] at h
      rw [index_one_cons_ne c b l hb, index_one_none c l h]
      rfl
theorem index_one_some (c : UInt8) : ∀ l : List UInt8, l.count c ≠ 0 → ∃ j : Nat, Lib.index l [c] = j
  | [], h => by simp at h
  | b :: l, h => by
    by_cases hb : b = c
    · subst hb; exact ⟨0, by rw [Lib.index]; simp [List.isPrefixOf]⟩
    · rw [List.count_cons_of_ne hb] at h
      obtain ⟨j, hj⟩ := index_one_some c l h
      refine ⟨j + 1, ?_⟩
      rw [index_one_cons_ne c b l hb, hj, if_neg (by simp)]
      rfl

theorem splitK_cut (c : UInt8) : ∀ (l : List UInt8), Lib.splitK [c] 0 (l.count c) l = cutL c l
  | [] => rfl
  | b :: l => by
    have ih := splitK_cut c l
    by_cases hb : b = c
    · subst hb
      have hi : Lib.index (b :: l) [b] = 0 := by rw [Lib.index]; simp [List.isPrefixOf]
      rw [List.count_cons_self, Lib.splitK, hi]
      simp [cutL, ih]
    · rw [List.count_cons_of_ne hb]
      unfold cutL
      rw [if_neg hb, ← ih]
      cases hk : l.count c with
      | zero => simp [Lib.splitK]
      | succ k =>
        obtain ⟨j, hj⟩ := index_one_some c l (by omega)
        have hi : Lib.index (b :: l) [c] = ((j + 1 : Nat) : Int) := by
          rw [index_one_cons_ne c b l hb, hj, if_neg (by simp)]; rfl
        have hn1 : ¬ (((j + 1 : Nat) : Int) == -1) = true := by simp; omega
        have hn2 : ¬ ((j : Int) == -1) = true := by simp
        rw [Lib.splitK, Lib.splitK, hi, hj, if_neg hn1, if_neg hn2]
        simp

def cutB (c : UInt8) (s : ByteArray) : List ByteArray := (cutL c s.data.toList).map fun l => ⟨l.toArray⟩
theorem cutB_split (c : UInt8) (s : ByteArray) : Lib.splitB ⟨#[c]⟩ 0 (Lib.countB s ⟨#[c]⟩) s = cutB c s := by
  have h := Lib.splitB_data ⟨#[c]⟩ 0 (Lib.countB s ⟨#[c]⟩) s
  have hc : Lib.countB s ⟨#[c]⟩ = s.data.toList.count c := Lib.count_one c _
  rw [hc] at h ⊢
  rw [show (⟨#[c]⟩ : ByteArray).data.toList = [c] from rfl, splitK_cut] at h
  unfold cutB
  rw [← h, List.map_map]
  exact (List.map_id' _).symm.trans (List.map_congr_left fun x _ => rfl)
theorem cutB_length (c : UInt8) (s : ByteArray) : (cutB c s).length ≤ s.size + 1 := by
  have h := cutL_size c s.data.toList
  simp only [cutB, List.length_map]
  have := Lib.size_eq s
  omega
theorem single_le_sum : ∀ {l : List Nat} {x : Nat}, x ∈ l → x ≤ l.sum
  | [], _, h => by simp at h
  | y :: l, x, h => by
    rcases List.mem_cons.1 h with rfl | h
    · simp
    · have := single_le_sum h; simp; omega
theorem cutB_part (c : UInt8) (s : ByteArray) : ∀ x ∈ cutB c s, x.size ≤ s.size := by
  intro x hx
  simp only [cutB, List.mem_map] at hx
  obtain ⟨l, hl, rfl⟩ := hx
  have h := cutL_size c s.data.toList
  have h2 : l.length ≤ ((cutL c s.data.toList).map List.length).sum := single_le_sum (List.mem_map.2 ⟨l, hl, rfl⟩)
  have h3 : 0 < (cutL c s.data.toList).length := List.length_pos_of_mem hl
  have h4 := Lib.size_eq s
  have h5 : (⟨l.toArray⟩ : ByteArray).size = l.length := Lib.size_eq _
  omega

def pthOk (s : ByteArray) : Bool := decide (s = ByteArray.empty) || ((cutB 47 s).all namOk && decide ((cutB 47 s).length ≤ 3))
theorem pthOk_empty : pthOk ByteArray.empty = true := by simp [pthOk]
theorem sum_le_mul : ∀ {l : List Nat} {k : Nat}, (∀ x ∈ l, x ≤ k) → l.sum ≤ l.length * k
  | [], _, _ => by simp
  | y :: l, k, h => by
    have h1 := h y (by simp)
    have h2 := sum_le_mul (l := l) (k := k) (fun x hx => h x (by simp [hx]))
    simp [Nat.add_mul]; omega
theorem namOk_size {s : ByteArray} (h : namOk s = true) : 1 ≤ s.size ∧ s.size ≤ 3 := by
  simp [namOk, inB] at h
  omega
theorem pthOk_size {s : ByteArray} (h : pthOk s = true) : s.size ≤ 11 := by
  unfold pthOk at h
  rcases Bool.or_eq_true_iff.1 h with h | h
  · have := of_decide_eq_true h; subst this; decide
  · obtain ⟨h1, h2⟩ := Bool.and_eq_true_iff.1 h
    have h2 := of_decide_eq_true h2
    have h3 : ((cutL 47 s.data.toList).map List.length).sum ≤ ((cutL 47 s.data.toList).map List.length).length * 3 := sum_le_mul fun x hx => by
      obtain ⟨l, hl, rfl⟩ := List.mem_map.1 hx
      have h4 := namOk_size (List.all_eq_true.1 h1 ⟨l.toArray⟩ (by unfold cutB; exact List.mem_map.2 ⟨l, hl, rfl⟩))
      have h5 : (⟨l.toArray⟩ : ByteArray).size = l.length := Lib.size_eq _
      omega
    have h6 := cutL_size 47 s.data.toList
    have h7 := Lib.size_eq s
    simp only [cutB, List.length_map] at h2 h3
    omega

/-! The first place of one that fits. -/
def idxP {α : Type} (p : α → Bool) (l : List α) : Int := match l.findIdx? p with
  | some i => i
  | none => -1
def noneTo {α : Type} (p : α → Bool) (l : List α) (k : Nat) : Prop := ∀ i (h : i < l.length), i < k → p l[i] = false
section
variable {α : Type} {p : α → Bool} {l : List α} {k : Nat}
theorem noneTo_zero : noneTo p l 0 := fun i _ h => by omega
theorem noneTo.next (h : noneTo p l k) (hk : k < l.length) (hp : p l[k] = false) : noneTo p l (k + 1) := fun i hi hlt => by
  by_cases e : i = k
  · subst e; exact hp
  · exact h i hi (by omega)
theorem noneTo.hit (h : noneTo p l k) (hk : k < l.length) (hp : p l[k] = true) : idxP p l = k := by
  unfold idxP
  have : l.findIdx? p = some k := List.findIdx?_eq_some_iff_getElem.2 ⟨hk, hp, fun j hj => by simp [h j (by omega) hj]⟩
  rw [this]
theorem noneTo.all_ (h : noneTo p l l.length) : idxP p l = -1 := by
  unfold idxP
  have : l.findIdx? p = none := List.findIdx?_eq_none_iff.2 fun x hx => by
    obtain ⟨i, hi, rfl⟩ := List.mem_iff_getElem.1 hx
    exact h i hi hi
  rw [this]
theorem noneTo.any_ (h : noneTo p l l.length) : l.any p = false := by
  rw [List.any_eq_false]
  intro x hx
  obtain ⟨i, hi, rfl⟩ := List.mem_iff_getElem.1 hx
  simp [h i hi hi]
theorem any_hit (hk : k < l.length) (hp : p l[k] = true) : l.any p = true := List.any_eq_true.2 ⟨_, List.getElem_mem hk, hp⟩
theorem idxP_any (p : α → Bool) (l : List α) : decide (0 ≤ idxP p l) = l.any p := by
  unfold idxP
  cases h : l.findIdx? p with
  | none =>
    rw [List.findIdx?_eq_none_iff] at h
    have : l.any p = false := List.any_eq_false.2 fun x hx => by simp [h x hx]
    rw [this]; rfl
  | some i =>
    obtain ⟨hi, hp, _⟩ := List.findIdx?_eq_some_iff_getElem.1 h
    rw [any_hit hi hp]
    simp
end

/-! All of the first n. -/
def allN (n : Nat) (f : Nat → Bool) : Bool := (List.range n).all f
def oksTo (f : Nat → Bool) (k : Nat) : Prop := ∀ i, i < k → f i = true
section
variable {f : Nat → Bool} {k n : Nat}
theorem oksTo_zero : oksTo f 0 := fun i h => by omega
theorem oksTo.next (h : oksTo f k) (hf : f k = true) : oksTo f (k + 1) := fun i hi => by
  by_cases e : i = k
  · subst e; exact hf
  · exact h i (by omega)
theorem oksTo.not_ (hk : k < n) (hf : f k = false) : allN n f = false := by
  unfold allN
  rw [List.all_eq_false]
  exact ⟨k, by simpa using hk, by simp [hf]⟩
theorem oksTo.all_ (h : oksTo f n) : allN n f = true := by
  unfold allN
  rw [List.all_eq_true]
  intro x hx
  exact h x (by simpa using hx)
theorem allN_iff : allN n f = true ↔ oksTo f n := ⟨fun h i hi => by
  unfold allN at h
  rw [List.all_eq_true] at h
  exact h i (by simpa using hi), oksTo.all_⟩
end
end Go.Proofs.YthopednilgncgaaDoor
