/- Plain: a house stays ok, whatever is done. No program in sight. -/
import Derived.Test.YtnogkkcmcnhodaaGreatDoorTq
import Derived.Test.YtnogkkcmcnhodaaGreatDoorHn
namespace Go.Proofs.YtnogkkcmcnhodaaGreatDoor
open Go.RowKit

theorem inB_iff {n lo hi : Int} : inB n lo hi = true ↔ lo ≤ n ∧ n ≤ hi := by simp [inB]
theorem mdlOk_iff {m : House} : mdlOk m = true ↔ usersOk m.keys m.used = true ∧ (1 ≤ (m.repos.length : Int) ∧ (m.repos.length : Int) ≤ 3) ∧ ∀ p ∈ m.repos, repoOk m.keys.length p = true := by
  simp [mdlOk, inB_iff, and_assoc]
theorem usersOk_iff {keys used : List Int} : usersOk keys used = true ↔ (1 ≤ (keys.length : Int) ∧ (keys.length : Int) ≤ 4) ∧ used.length = keys.length ∧ (∀ n ∈ keys, 1 ≤ n ∧ n ≤ 9999) ∧ ∀ n ∈ used, 0 ≤ n ∧ n ≤ 200 := by
  simp [usersOk, inB_iff, and_assoc]
theorem namesOk_iff {l : List ByteArray} : namesOk l = true ↔ (∀ n ∈ l, namOk n = true) ∧ l.Pairwise fun a b => bLt a b = true := by
  simp [namesOk]
theorem repoOk_iff {u : Int} {p : Repo} : repoOk u p = true ↔ (∀ x ∈ p.refs, refOk x = true) ∧ (∀ x ∈ p.refs, namOk x.name = true) ∧ asc Ref.name p.refs ∧ (1 ≤ p.admin ∧ p.admin ≤ u) ∧ rulListOk p.rules = true ∧ p.refs.length ≤ 3 := by
  simp [repoOk, namesOk_iff, inB_iff, asc_map, and_assoc]
theorem refOk_iff {x : Ref} : refOk x = true ↔ (0 ≤ x.count ∧ x.count ≤ 14) ∧ (1 ≤ (x.versions.length : Int) ∧ (x.versions.length : Int) ≤ 3) ∧ ∀ l ∈ x.versions, treOk l = true := by
  simp [refOk, inB_iff, and_assoc]
theorem reqOk_ref {r : Req} (h : reqOk r = true) : r.ref = ByteArray.empty ∨ namOk r.ref = true := by
  simp only [reqOk, Bool.and_eq_true] at h
  simpa [refFits] using h.1.1.1.1.1.2
theorem reqOk_kind {r : Req} (h : reqOk r = true) : 1 ≤ r.kind ∧ r.kind ≤ 11 := by
  simp only [reqOk, Bool.and_eq_true] at h
  exact inB_iff.1 h.1.1.1.1.1.1.2
theorem reqOk_ints {r : Req} (h : reqOk r = true) : (0 ≤ r.user ∧ r.user ≤ 99) ∧ (0 ≤ r.repo ∧ r.repo ≤ 99) ∧ (0 ≤ r.old ∧ r.old ≤ 99) ∧ (0 ≤ r.back ∧ r.back ≤ 99) ∧ (0 ≤ r.frm ∧ r.frm ≤ 99) := by
  simp only [reqOk, Bool.and_eq_true, inB_iff] at h
  exact ⟨h.1.1.1.1.1.1.1.1.1.1.1.1, h.1.1.1.1.1.1.1.1.1.1.1.2, h.1.1.1.1.1.1.1.1.1.1.2, h.1.1.1.1.1.1.1.1.1.2, h.1.1.1.1.1.1.1.1.2⟩
theorem reqOk_edits {r : Req} (h : reqOk r = true) : r.edits.length ≤ 4 ∧ ∀ e ∈ r.edits, editOk e = true := by
  simp only [reqOk, Bool.and_eq_true, decide_eq_true_eq, Bool.not_eq_true', List.any_eq_false] at h
  exact ⟨h.1.2, fun e he => by have := h.2 e he; simpa using this⟩

theorem getD_mem {α : Type} {l : List α} {k : Nat} {z : α} (h : k < l.length) : l.getD k z ∈ l := by
  rw [List.getD_eq_getElem?_getD, List.getElem?_eq_getElem h]; exact List.getElem_mem h
theorem getD_at {α : Type} {l : List α} {k : Nat} {z : α} (h : k < l.length) : l.getD k z = l[k] := by rw [List.getD_eq_getElem?_getD, List.getElem?_eq_getElem h]; rfl
theorem version_mem {vs : List (List File)} {b : Int} {l : List File} (h : version vs b = some l) : l ∈ vs := by
  unfold version at h
  split at h
  · exact List.mem_of_getElem? h
  · cases h
theorem filesOf_mem {m : House} {repo back : Int} {name : ByteArray} {l : List File} (h : filesOf m repo name back = some l) : ∃ p ∈ m.repos, ∃ x ∈ p.refs, x.name = name ∧ version x.versions back = some l := by
  unfold filesOf at h
  split at h
  · split at h
    · cases h
    · rename_i p hp
      split at h
      · cases h
      · rename_i k hk
        obtain ⟨hk', he⟩ := idx_some (key := Ref.name) hk
        rw [getD_at hk'] at h
        exact ⟨p, List.mem_of_getElem? hp, _, List.getElem_mem hk', he, h⟩
  · cases h
theorem filesOf_ok {m : House} {repo back : Int} {name : ByteArray} {l : List File} (hm : mdlOk m = true) (h : filesOf m repo name back = some l) : treOk l = true := by
  obtain ⟨p, hp, x, hx, _, hv⟩ := filesOf_mem h
  exact (refOk_iff.1 ((repoOk_iff.1 ((mdlOk_iff.1 hm).2.2 p hp)).1 x hx)).2.2 l (version_mem hv)
theorem newest_ok {m : House} {x : Ref} {r : Req} (hm : mdlOk m = true) (hx : refOk x = true) (h : (newest m x r).2 = 1) : treOk (newest m x r).1 = true := by
  unfold newest at h ⊢
  split at h
  · rename_i h1
    rw [if_pos h1]
    cases hv : version x.versions 0 with
    | none => rw [hv] at h; cases h
    | some l =>
      rw [hv] at h
      simp only at h ⊢
      cases ht : treTurn l r.edits with
      | none => rw [ht] at h; cases h
      | some o => exact treTurn_some ht
  · rename_i h1
    rw [if_neg h1]
    split at h
    · rename_i h2
      rw [if_pos h2]
      split at h
      · cases h
      · rename_i h3
        rw [if_neg h3]
        cases hv : version x.versions r.back with
        | none => rw [hv] at h; cases h
        | some l => exact (refOk_iff.1 hx).2.2 l (version_mem hv)
    · rename_i h2
      rw [if_neg h2]
      cases hf : filesOf m r.frm r.other 0 with
      | none => rw [hf] at h; cases h
      | some l => exact filesOf_ok hm hf

theorem repoOk_refs {u : Int} {p : Repo} (h : repoOk u p = true) {l : List Ref} (h1 : ∀ x ∈ l, refOk x = true ∧ namOk x.name = true) (h2 : asc Ref.name l) (h3 : l.length ≤ 3) : repoOk u { p with refs := l } = true := by
  have k := repoOk_iff.1 h
  exact repoOk_iff.2 ⟨fun x hx => (h1 x hx).1, fun x hx => (h1 x hx).2, h2, k.2.2.2.1, k.2.2.2.2.1, h3⟩
theorem repoOk_rules {u : Int} {p : Repo} (h : repoOk u p = true) {l : List Rule} (h1 : rulListOk l = true) : repoOk u { p with rules := l } = true := by
  have k := repoOk_iff.1 h
  exact repoOk_iff.2 ⟨k.1, k.2.1, k.2.2.1, k.2.2.2.1, h1, k.2.2.2.2.2⟩
theorem repoOk_one {u : Int} {p : Repo} (h : repoOk u p = true) {x : Ref} (hx : x ∈ p.refs) : refOk x = true ∧ namOk x.name = true := ⟨(repoOk_iff.1 h).1 x hx, (repoOk_iff.1 h).2.1 x hx⟩
theorem treOk_nil : treOk [] = true := by decide

theorem manage_ok {u : Int} {p : Repo} {r : Req} (h : repoOk u p = true) (hr : reqOk r = true) : repoOk u (manage p r).1 = true := by
  unfold manage
  split
  · split
    · exact h
    · split
      · rename_i hp; exact repoOk_rules h (rulListOk_put hp).1
      · exact h
  · split
    · split
      · exact repoOk_rules h (rulListOk_out (repoOk_iff.1 h).2.2.2.2.1 _)
      · exact h
    · split
      · rename_i hn
        split
        · split
          · exact h
          · rename_i he
            split
            · exact h
            · rename_i h3
              have hl := (repoOk_iff.1 h).2.2.2.2.2
              refine repoOk_refs h (fun x hx => ?_) (asc_insBy (key := Ref.name) (x := ⟨r.ref, false, 0, [[]]⟩) (repoOk_iff.1 h).2.2.1 (idx_none (key := Ref.name) hn)) (by rw [insBy_length]; omega)
              rcases mem_insBy.1 hx with rfl | hx
              · exact ⟨refOk_iff.2 ⟨by simp, by simp, fun l hl => by rw [List.mem_singleton.1 hl]; exact treOk_nil⟩, (reqOk_ref hr).resolve_left he⟩
              · exact repoOk_one h hx
        · exact h
      · rename_i k hk
        obtain ⟨hk', he⟩ := idx_some (key := Ref.name) hk
        have hl := (repoOk_iff.1 h).2.2.2.2.2
        split
        · exact h
        · split
          · rw [getD_at hk']
            refine repoOk_refs h (fun x hx => ?_) (asc_set (key := Ref.name) (repoOk_iff.1 h).2.2.1 hk' rfl) (by simpa using hl)
            rcases List.mem_or_eq_of_mem_set hx with hx | rfl
            · exact repoOk_one h hx
            · have := repoOk_one h (List.getElem_mem hk')
              exact ⟨refOk_iff.2 (refOk_iff.1 this.1), this.2⟩
          · split
            · exact h
            · refine repoOk_refs h (fun x hx => repoOk_one h ((List.eraseIdx_sublist p.refs k).subset hx)) (asc_erase (repoOk_iff.1 h).2.2.1 k) ?_
              have := List.length_eraseIdx_le p.refs k
              omega

theorem lastOf_length (l : List (List File)) : (lastOf l).length = min l.length 3 := by unfold lastOf; rw [List.length_drop]; omega
theorem lastOf_mem {l : List (List File)} {x : List File} (h : x ∈ lastOf l) : x ∈ l := List.mem_of_mem_drop h

theorem mdlOk_repo {m : House} {k : Nat} {p : Repo} (hm : mdlOk m = true) (hp : repoOk m.keys.length p = true) : mdlOk { m with repos := m.repos.set k p } = true := by
  obtain ⟨h1, h2, h3⟩ := mdlOk_iff.1 hm
  refine mdlOk_iff.2 ⟨h1, by simpa using h2, fun q hq => ?_⟩
  rcases List.mem_or_eq_of_mem_set hq with hq | rfl
  · exact h3 q hq
  · exact hp
theorem mdlOk_used {m : House} {k : Nat} {n : Int} (hm : mdlOk m = true) (h0 : 0 ≤ n) (h1 : n ≤ 200) : mdlOk { m with used := m.used.set k n } = true := by
  obtain ⟨k1, k2, k3⟩ := mdlOk_iff.1 hm
  obtain ⟨u1, u2, u3, u4⟩ := usersOk_iff.1 k1
  refine mdlOk_iff.2 ⟨usersOk_iff.2 ⟨u1, by simpa using u2, u3, fun x hx => ?_⟩, k2, k3⟩
  rcases List.mem_or_eq_of_mem_set hx with hx | rfl
  · exact u4 x hx
  · exact ⟨h0, h1⟩
theorem used_nonneg {m : House} (hm : mdlOk m = true) (k : Nat) : 0 ≤ m.used.getD k 0 := by
  by_cases h : k < m.used.length
  · exact ((usersOk_iff.1 (mdlOk_iff.1 hm).1).2.2.2 _ (getD_mem h)).1
  · rw [List.getD_eq_getElem?_getD, List.getElem?_eq_none (by omega)]; exact Int.le_refl 0
theorem laid_ok {m : House} {p : Repo} {k : Nat} {r : Req} {files : List File} (hm : mdlOk m = true) (hp : repoOk m.keys.length p = true) (hk : k < p.refs.length) (hf : treOk files = true) (hc : (p.refs.getD k zeroRef).count ≠ 14)
    (hu : ¬ m.used.getD (r.user - 1).toNat 0 + treSize r.edits > 200) : mdlOk (laid m p k r files) = true := by
  have hx := repoOk_one hp (List.getElem_mem hk)
  rw [getD_at hk] at hc
  obtain ⟨c1, c2, c3⟩ := refOk_iff.1 hx.1
  have hl := (repoOk_iff.1 hp).2.2.2.2.2
  have h0 := used_nonneg hm (r.user - 1).toNat
  refine mdlOk_repo (m := { m with used := m.used.set (r.user - 1).toNat (m.used.getD (r.user - 1).toNat 0 + treSize r.edits) }) (mdlOk_used hm (by omega) (by omega)) ?_
  refine repoOk_refs hp (fun x hx' => ?_) (asc_set (key := Ref.name) (repoOk_iff.1 hp).2.2.1 hk (by rw [getD_at hk])) (by simpa using hl)
  rcases List.mem_or_eq_of_mem_set hx' with hx' | rfl
  · exact repoOk_one hp hx'
  · rw [getD_at hk]
    refine ⟨refOk_iff.2 ⟨⟨by simp only; omega, by simp only; omega⟩, ?_, fun l hl => ?_⟩, hx.2⟩
    · simp only [lastOf_length, List.length_append, List.length_singleton]
      omega
    · rcases List.mem_append.1 (lastOf_mem hl) with hl | hl
      · exact c3 l hl
      · rw [List.mem_singleton.1 hl]; exact hf
theorem write_ok {m : House} {p : Repo} {r : Req} (hm : mdlOk m = true) (hp : repoOk m.keys.length p = true) : mdlOk (write m p r).1 = true := by
  unfold write
  split
  · split
    · exact hm
    · rename_i k hk
      obtain ⟨hk', _⟩ := idx_some (key := Ref.name) hk
      split
      · exact hm
      · split
        · exact hm
        · rename_i hc
          split
          · exact hm
          · rename_i hn
            split
            · exact hm
            · rename_i hu
              refine laid_ok hm hp hk' (newest_ok hm ?_ (by simpa using hn)) hc hu
              rw [getD_at hk']
              exact (repoOk_one hp (List.getElem_mem hk')).1
  · exact hm
theorem doIt_ok {m : House} {r : Req} (hm : mdlOk m = true) (hr : reqOk r = true) : mdlOk (doIt m r).1 = true := by
  unfold doIt
  split
  · split
    · exact hm
    · split
      · exact hm
      · rename_i p hp
        have hp' := (mdlOk_iff.1 hm).2.2 p (List.mem_of_getElem? hp)
        split
        · exact hm
        · split
          · exact hm
          · split
            · exact write_ok hm hp'
            · split
              · exact hm
              · exact mdlOk_repo hm (manage_ok hp' hr)
  · exact hm
theorem mdlDo_ok {m : House} {r : Req} (h : mdlOk m = true ∧ reqOk r = true) : mdlDo m r = doIt m r := if_pos h
theorem mdlDo_no {m : House} {r : Req} (h : ¬ (mdlOk m = true ∧ reqOk r = true)) : mdlDo m r = (⟨[], [], []⟩, ⟨0, [], [], 0⟩) := if_neg h
end Go.Proofs.YtnogkkcmcnhodaaGreatDoor
