/- Plain: when files are a tree, asked step by step; when a house is ok, asked step by step. No program in sight. -/
import Derived.Test.YtnogkkcmcnhodaaDoorTp
namespace Go.Proofs.YtnogkkcmcnhodaaDoor
open Go.RowKit

def atB {α : Type} (p : α → Bool) (l : List α) (i : Nat) : Bool := match l[i]? with
  | some a => p a
  | none => true
theorem atB_eq {α : Type} {p : α → Bool} {l : List α} {i : Nat} (h : i < l.length) : atB p l i = p l[i] := by
  unfold atB
  rw [List.getElem?_eq_getElem h]
theorem allN_atB {α : Type} (p : α → Bool) (l : List α) : allN l.length (atB p l) = l.all p := by
  rw [Bool.eq_iff_iff, allN_iff, List.all_eq_true]
  constructor
  · intro h x hx
    obtain ⟨i, hi, rfl⟩ := List.mem_iff_getElem.1 hx
    have := h i hi
    rwa [atB_eq hi] at this
  · intro h i hi
    rw [atB_eq hi]
    exact h _ (List.getElem_mem hi)
theorem allN_and (n : Nat) (f g : Nat → Bool) : allN n (fun i => f i && g i) = (allN n f && allN n g) := by
  rw [Bool.eq_iff_iff, Bool.and_eq_true, allN_iff, allN_iff, allN_iff]
  constructor
  · intro h
    exact ⟨fun i hi => (Bool.and_eq_true_iff.1 (h i hi)).1, fun i hi => (Bool.and_eq_true_iff.1 (h i hi)).2⟩
  · rintro ⟨h1, h2⟩ i hi
    exact Bool.and_eq_true_iff.2 ⟨h1 i hi, h2 i hi⟩
theorem allN_congr {n : Nat} {f g : Nat → Bool} (h : ∀ i, i < n → f i = g i) : allN n f = allN n g := by
  rw [Bool.eq_iff_iff, allN_iff, allN_iff]
  exact ⟨fun k i hi => by rw [← h i hi]; exact k i hi, fun k i hi => by rw [h i hi]; exact k i hi⟩
theorem stepOk_and {α : Type} (R S : α → α → Bool) (l : List α) (i : Nat) : stepOk (fun a b => R a b && S a b) l i = (stepOk R l i && stepOk S l i) := by
  cases i with
  | zero => rfl
  | succ j =>
    simp only [stepOk]
    generalize l[j]? = x
    generalize l[j + 1]? = y
    cases x <;> cases y <;> simp

/-- what the reference asks at i, first -/
def treA (l : List File) (i : Nat) : Bool := atB fileOk l i && stepOk (fun a b => bLt a.path b.path) l i
def treB (l : List File) (i : Nat) : Bool := stepOk (fun a b => !pthUnder a.path b.path) l i
/-- what the program asks at i, then -/
def treC (l : List File) (i : Nat) : Bool := atB (fun f => !((l.take i).any fun g => pthUnder g.path f.path)) l i
theorem treA_zero {l : List File} (h : 0 < l.length) : treA l 0 = fileOk l[0] := by
  unfold treA
  rw [atB_eq h]
  simp [stepOk]
theorem treA_succ {l : List File} {j : Nat} (h : j + 1 < l.length) : treA l (j + 1) = (fileOk l[j + 1] && bLt l[j].path l[j + 1].path) := by
  unfold treA
  rw [atB_eq h, stepOk_succ h]
theorem treB_succ {l : List File} {j : Nat} (h : j + 1 < l.length) : treB l (j + 1) = !pthUnder l[j].path l[j + 1].path := by
  unfold treB
  rw [stepOk_succ h]
theorem treC_eq {l : List File} {i : Nat} (h : i < l.length) : treC l i = !((l.take i).any fun g => pthUnder g.path l[i].path) := by
  unfold treC
  rw [atB_eq h]
theorem treOk_two (l : List File) : treOk l = (decide (l.length ≤ 60) && allN l.length (treA l) && allN l.length (treB l)) := by
  rw [treOk_steps]
  have e1 : allN l.length (treA l) = (l.all fileOk && allN l.length (stepOk (fun a b => bLt a.path b.path) l)) := by
    rw [← allN_atB, ← allN_and]; rfl
  have e2 : allN l.length (stepOk fileLt l) = (allN l.length (stepOk (fun a b => bLt a.path b.path) l) && allN l.length (treB l)) := by
    rw [← allN_and]
    exact allN_congr fun i _ => stepOk_and _ _ l i
  rw [e1, e2]
  simp only [Bool.and_assoc]
theorem treOk_one (l : List File) : treOk l = (decide (l.length ≤ 60) && allN l.length fun i => treA l i && treC l i) := by
  rw [Bool.eq_iff_iff]
  constructor
  · intro h
    have h1 := (treOk_iff.1 h).1
    have h3 := (treOk_iff.1 h).2.2
    rw [treOk_two, Bool.and_eq_true, Bool.and_eq_true] at h
    rw [allN_and, Bool.and_eq_true, Bool.and_eq_true]
    refine ⟨h.1.1, h.1.2, allN_iff.2 fun i hi => ?_⟩
    rw [treC_eq hi, Bool.not_eq_true', List.any_eq_false]
    intro x hx
    obtain ⟨j, hj, rfl⟩ := List.mem_take_iff_getElem.1 hx
    have := (List.pairwise_iff_getElem.1 h3) j i (by omega) hi (by omega)
    simp only [fileLt, Bool.and_eq_true, Bool.not_eq_true'] at this
    simp [this.2]
  · intro h
    rw [allN_and, Bool.and_eq_true, Bool.and_eq_true] at h
    rw [treOk_two, Bool.and_eq_true, Bool.and_eq_true]
    refine ⟨⟨h.1, h.2.1⟩, allN_iff.2 fun i hi => ?_⟩
    cases i with
    | zero => rfl
    | succ j =>
      have h3 := allN_iff.1 h.2.2 (j + 1) hi
      rw [treC_eq hi, Bool.not_eq_true', List.any_eq_false] at h3
      have := h3 l[j] (List.mem_take_iff_getElem.2 ⟨j, by omega, rfl⟩)
      rw [treB_succ hi]
      simpa using this

/-! Repos, step by step. -/
theorem stepOk_map {α β : Type} (f : α → β) (R : β → β → Bool) (l : List α) (i : Nat) : stepOk R (l.map f) i = stepOk (fun a b => R (f a) (f b)) l i := by
  cases i with
  | zero => rfl
  | succ j =>
    simp only [stepOk, List.getElem?_map]
    generalize l[j]? = x
    generalize l[j + 1]? = y
    cases x <;> cases y <;> rfl
theorem atB_map {α β : Type} (f : α → β) (p : β → Bool) (l : List α) (i : Nat) : atB p (l.map f) i = atB (fun a => p (f a)) l i := by
  unfold atB
  rw [List.getElem?_map]
  cases l[i]? <;> rfl
theorem atB_and {α : Type} (p q : α → Bool) (l : List α) (i : Nat) : atB (fun a => p a && q a) l i = (atB p l i && atB q l i) := by
  unfold atB
  cases l[i]? <;> rfl
/-- what the program asks of names at i -/
def nameAt (l : List ByteArray) (i : Nat) : Bool := atB namOk l i && stepOk bLt l i
theorem nameAt_zero {l : List ByteArray} (h : 0 < l.length) : nameAt l 0 = namOk l[0] := by
  unfold nameAt
  rw [atB_eq h]
  simp [stepOk]
theorem nameAt_succ {l : List ByteArray} {j : Nat} (h : j + 1 < l.length) : nameAt l (j + 1) = (namOk l[j + 1] && bLt l[j] l[j + 1]) := by
  unfold nameAt
  rw [atB_eq h, stepOk_succ h]
theorem namesOk_steps (l : List ByteArray) : namesOk l = allN l.length (nameAt l) := by
  unfold nameAt
  rw [allN_and, allN_atB]
  unfold namesOk
  congr 1
  rw [Bool.eq_iff_iff, decide_eq_true_iff, allN_iff]
  exact ⟨fun h i hi => steps_pairwise h i hi, fun h => pairwise_steps (fun a _ b _ c _ h h' => bLt_trans h h') h⟩
/-- what the reference asks of refs at i -/
def refAt (l : List Ref) (i : Nat) : Bool := atB (fun x => namOk x.name && refOk x) l i && stepOk (fun a b => bLt a.name b.name) l i
theorem refAt_zero {l : List Ref} (h : 0 < l.length) : refAt l 0 = (namOk l[0].name && refOk l[0]) := by
  unfold refAt
  rw [atB_eq h]
  simp [stepOk]
theorem refAt_succ {l : List Ref} {j : Nat} (h : j + 1 < l.length) : refAt l (j + 1) = (namOk l[j + 1].name && refOk l[j + 1] && bLt l[j].name l[j + 1].name) := by
  unfold refAt
  rw [atB_eq h, stepOk_succ h]
theorem repoOk_steps (u : Int) (p : Repo) : repoOk u p = (inB p.admin 1 u && rulListOk p.rules && decide (p.refs.length ≤ 3) && allN p.refs.length (refAt p.refs)) := by
  have e : allN p.refs.length (refAt p.refs) = (p.refs.all refOk && namesOk (p.refs.map (·.name))) := by
    rw [namesOk_steps, List.length_map, ← allN_atB, ← allN_and]
    refine allN_congr fun i _ => ?_
    unfold refAt nameAt
    rw [atB_and, atB_map, stepOk_map]
    cases atB (fun a => namOk a.name) p.refs i <;> cases atB refOk p.refs i <;> simp
  rw [e]
  unfold repoOk
  generalize p.refs.all refOk = b1
  generalize namesOk (p.refs.map (·.name)) = b2
  generalize inB p.admin 1 u = b3
  generalize rulListOk p.rules = b4
  generalize decide (p.refs.length ≤ 3) = b5
  cases b1 <;> cases b2 <;> cases b3 <;> cases b4 <;> cases b5 <;> rfl
end Go.Proofs.YtnogkkcmcnhodaaDoor
