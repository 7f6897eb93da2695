/- Plain: how many marks a house that is ok takes, and an answer. No program in sight. -/
import Derived.Test.YtnogkkcmcnhodaaGreatDoorZ22
import Derived.Test.YtnogkkcmcnhodaaGreatDoorZ11
import Derived.Test.YtnogkkcmcnhodaaGreatDoorZ5
namespace Go.Proofs.YtnogkkcmcnhodaaGreatDoor
open Go.RowKit

theorem countL_mem {α : Type} {f : α → Nat} {k : Nat} : ∀ {l : List α}, (∀ x ∈ l, f x ≤ k) → countL f l ≤ k * l.length
 | [], _ => by simp [countL]
 | x :: l, h => by
  have ih := countL_mem (l := l) fun y hy => h y (by simp [hy])
  have hx := h x (by simp)
  simp only [countL, List.map_cons, List.sum_cons, List.length_cons] at *
  rw [Nat.mul_add, Nat.mul_one]
  omega
theorem ctHouse_ok {m : House} (h : mdlOk m = true) : ctHouse m ≤ 4000 := by
 obtain ⟨h1, h2, h3⟩ := mdlOk_iff.1 h
 obtain ⟨u1, u2, _, _⟩ := usersOk_iff.1 h1
 have hp : ∀ p ∈ m.repos, ctRepo p ≤ 1200 := fun p hm => by
  have hF := RepoFit.of (h3 p hm)
  have e1 : countL ctRule p.rules ≤ 4 * p.rules.length := countL_mem fun _ _ => Nat.le_refl 4
  have e2 : countL ctRef p.refs ≤ 370 * p.refs.length := countL_mem fun x hx => by
   obtain ⟨v1, v2, _, v4⟩ := hF.vers x hx
   have e3 : countL (countL ctFile) x.versions ≤ 120 * x.versions.length := countL_mem fun l hl => by
    have := countFiles_le l
    have := (treOk_iff.1 (v4 l hl)).1
    omega
   unfold ctRef
   omega
  have := hF.nrules
  have := hF.nrefs
  unfold ctRepo
  omega
 have e1 : countL (fun _ : Int => 1) m.keys ≤ 1 * m.keys.length := countL_mem fun _ _ => Nat.le_refl 1
 have e2 : countL (fun _ : Int => 1) m.used ≤ 1 * m.used.length := countL_mem fun _ _ => Nat.le_refl 1
 have e3 : countL ctRepo m.repos ≤ 1200 * m.repos.length := countL_mem hp
 unfold ctHouse
 omega
theorem version_small {x : Ref} (h : ∀ l ∈ x.versions, treOk l = true) {b : Int} {l : List File} (hv : version x.versions b = some l) : l.length ≤ 60 := (treOk_iff.1 (h l (version_mem hv))).1
theorem look_small {p : Repo} {r : Req} (hF : RepoFit p) : (look p r).files.length ≤ 60 ∧ (look p r).names.length ≤ 3 := by
 unfold look
 split
 ·cases hk : refIdx p.refs r.ref with
  | none => simp [code]
  | some k =>
   have hkl : k < p.refs.length := refIdx_lt hk
   simp only [getD_at hkl]
   cases hv : version p.refs[k].versions r.back with
   | none => simp [code]
   | some l =>
    have h1 := version_small (hF.vers _ (List.getElem_mem hkl)).2.2.2 hv
    have h2 := treUnder_len l r.path
    refine ⟨?_, by simp⟩
    show (readable _ _ _ _).length ≤ 60
    unfold readable
    exact Nat.le_trans (List.length_filter_le _ _) (by omega)
 ·simp [code]
theorem doIt_small {m : House} {r : Req} (hm : mdlOk m = true) : (doIt m r).2.files.length ≤ 60 ∧ (doIt m r).2.names.length ≤ 3 := by
 have hP : ∀ p ∈ m.repos, RepoFit p := fun p hp => RepoFit.of ((mdlOk_iff.1 hm).2.2 p hp)
 unfold doIt
 split
 ·split
  ·simp
  ·cases hp : m.repos[r.repo.toNat]? with
   | none => simp [code]
   | some p =>
    have hpm : p ∈ m.repos := List.mem_of_getElem? hp
    dsimp only
    split
    ·exact look_small (hP p hpm)
    split
    ·have := (hP p hpm).nrefs
     refine ⟨by simp [refsAns], ?_⟩
     show ((p.refs.map (·.name)).filter _).length ≤ 3
     exact Nat.le_trans (List.length_filter_le _ _) (by simp; omega)
    split
    ·simp [code]
    split
    ·simp [code]
    ·simp [code]
 ·simp [code]
theorem mdlDo_ct (m : House) (r : Req) : ctHouse (mdlDo m r).1 ≤ 4000 ∧ ctAnsM (mdlDo m r).2 ≤ 130 := by
 by_cases h : mdlOk m = true ∧ reqOk r = true
 ·rw [mdlDo_ok h]
  refine ⟨ctHouse_ok (doIt_ok h.1 h.2), ?_⟩
  obtain ⟨h1, h2⟩ := doIt_small (r := r) h.1
  unfold ctAnsM
  have e1 := countFiles_le (doIt m r).2.files
  have e2 : countL (fun _ : ByteArray => 1) (doIt m r).2.names ≤ 1 * (doIt m r).2.names.length := countL_mem fun _ _ => Nat.le_refl 1
  omega
 ·rw [mdlDo_no h]
  exact ⟨by decide, by decide⟩
theorem ctEdits_le {r : Req} (h : szReq r ≤ 1048576) : countL ctEdit r.edits ≤ 3145728 := by
 have e1 : countL ctEdit r.edits ≤ 3 * r.edits.length := countL_mem fun _ _ => Nat.le_refl 3
 unfold szReq at h
 have := szL_len szEdit r.edits
 omega
end Go.Proofs.YtnogkkcmcnhodaaGreatDoor
