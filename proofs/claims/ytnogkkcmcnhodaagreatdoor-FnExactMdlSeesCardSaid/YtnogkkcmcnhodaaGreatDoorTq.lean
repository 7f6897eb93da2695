/- Plain: what turns keeps order; a house stays ok. No program in sight. -/
import Derived.Test.YtnogkkcmcnhodaaGreatDoorTp
import Derived.Test.YtnogkkcmcnhodaaGreatDoorRx
namespace Go.Proofs.YtnogkkcmcnhodaaGreatDoor
open Go.RowKit

def asc {α : Type} (key : α → ByteArray) (l : List α) : Prop := l.Pairwise fun a b => bLt (key a) (key b) = true
section
variable {α : Type} {key : α → ByteArray} {l : List α} {x : α}
theorem asc_map : asc key l ↔ (l.map key).Pairwise fun a b => bLt a b = true := by unfold asc; rw [List.pairwise_map]
theorem asc_insBy (h : asc key l) (hn : ∀ y ∈ l, key y ≠ key x) : asc key (insBy (fun g => bLt (key g) (key x)) x l) := by
  induction l with
  | nil => simp [insBy, asc]
  | cons y l ih =>
    obtain ⟨h1, h2⟩ := List.pairwise_cons.1 h
    cases hb : bLt (key y) (key x)
    · have e : insBy (fun g => bLt (key g) (key x)) x (y :: l) = x :: y :: l := by simp [insBy, hb]
      have hx := bLt_tri hb (hn y (by simp))
      rw [e]
      refine List.pairwise_cons.2 ⟨fun z hz => ?_, h⟩
      rcases List.mem_cons.1 hz with rfl | hz
      · exact hx
      · exact bLt_trans hx (h1 z hz)
    · have e : insBy (fun g => bLt (key g) (key x)) x (y :: l) = y :: insBy (fun g => bLt (key g) (key x)) x l := by simp [insBy, hb]
      rw [e]
      refine List.pairwise_cons.2 ⟨fun z hz => ?_, ih h2 fun z hz => hn z (by simp [hz])⟩
      rcases mem_insBy.1 hz with rfl | hz
      · exact hb
      · exact h1 z hz
theorem asc_erase (h : asc key l) (k : Nat) : asc key (l.eraseIdx k) := h.sublist (List.eraseIdx_sublist _ _)
theorem asc_set {k : Nat} (h : asc key l) (hk : k < l.length) (he : key x = key l[k]) : asc key (l.set k x) := by
  rw [asc_map] at *
  rw [List.map_set, he, show key l[k] = (l.map key)[k]'(by simpa using hk) by simp, List.set_getElem_self]
  exact h
/-- What is not found is not there. -/
theorem idx_none {name : ByteArray} (h : l.findIdx? (fun y => decide (key y = name)) = none) : ∀ y ∈ l, key y ≠ name := fun y hy e => by
  have := List.findIdx?_eq_none_iff.1 h y hy
  simp [e] at this
theorem idx_some {name : ByteArray} {k : Nat} (h : l.findIdx? (fun y => decide (key y = name)) = some k) : ∃ hk : k < l.length, key l[k] = name := by
  obtain ⟨hk, hp, _⟩ := List.findIdx?_eq_some_iff_getElem.1 h
  exact ⟨hk, by simpa using hp⟩
/-- Insertion, one behind the other, of what stands in order. -/
theorem foldl_ins : ∀ (l out : List α), asc key (out ++ l) → l.foldl (fun o f => insBy (fun g => bLt (key g) (key f)) f o) out = out ++ l
  | [], out, _ => by simp
  | f :: l, out, h => by
    have h1 : ∀ y ∈ out, bLt (key y) (key f) = true := fun y hy => (List.pairwise_append.1 h).2.2 y hy f (by simp)
    have e : insBy (fun g => bLt (key g) (key f)) f out = out ++ [f] := by
      have := (insBy_at (lt := fun g => bLt (key g) (key f)) (x := f) (l := out) (k := out.length) (fun i hi _ => h1 _ (List.getElem_mem hi)) (Nat.le_refl _) (fun hi => absurd hi (Nat.lt_irrefl _)))
      simpa using this
    rw [List.foldl_cons, e, foldl_ins l (out ++ [f]) (by simpa using h)]
    simp
end

theorem treOk_asc {l : List File} (h : treOk l = true) : asc File.path l := (treOk_iff.1 h).2.2.imp fun h => (Bool.and_eq_true_iff.1 h).1
theorem turn1_asc {l o : List File} {e : Edit} (h : asc File.path l) (ht : turn1 l e = some o) : asc File.path o := by
  unfold turn1 at ht
  cases hi : fileIdx l e.path with
  | none =>
    rw [hi] at ht
    simp only at ht
    split at ht
    · cases ht
    · cases ht
      exact asc_insBy (key := File.path) (x := ⟨e.path, e.bytes⟩) h (idx_none (key := File.path) hi)
  | some k =>
    rw [hi] at ht
    simp only at ht
    obtain ⟨hk, he⟩ := idx_some (key := File.path) hi
    split at ht
    · split at ht
      · cases ht; exact asc_erase h k
      · cases ht
    · cases ht; exact asc_set (key := File.path) h hk he.symm
theorem turn1_length {l o : List File} {e : Edit} (ht : turn1 l e = some o) : o.length ≤ l.length + 1 := by
  unfold turn1 at ht
  cases hi : fileIdx l e.path with
  | none =>
    rw [hi] at ht
    simp only at ht
    split at ht
    · cases ht
    · cases ht; rw [insBy_length]; exact Nat.le_refl _
  | some k =>
    rw [hi] at ht
    simp only at ht
    split at ht
    · split at ht
      · cases ht; have := List.length_eraseIdx_le l k; omega
      · cases ht
    · cases ht; simp
theorem turn1_mem {l o : List File} {e : Edit} (ht : turn1 l e = some o) {f : File} (hf : f ∈ o) : f = ⟨e.path, e.bytes⟩ ∨ f ∈ l := by
  unfold turn1 at ht
  cases hi : fileIdx l e.path with
  | none =>
    rw [hi] at ht
    simp only at ht
    split at ht
    · cases ht
    · cases ht; exact mem_insBy.1 hf
  | some k =>
    rw [hi] at ht
    simp only at ht
    split at ht
    · split at ht
      · cases ht; exact .inr ((List.eraseIdx_sublist l k).subset hf)
      · cases ht
    · cases ht; exact (List.mem_or_eq_of_mem_set hf).symm
theorem treTurn_some {l o : List File} {es : List Edit} (h : treTurn l es = some o) : treOk o = true := by
  unfold treTurn at h
  split at h
  · split at h
    · cases h
    · split at h
      · cases h; assumption
      · cases h
  · cases h

end Go.Proofs.YtnogkkcmcnhodaaGreatDoor
