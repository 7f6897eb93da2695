/- Houses that are small fit. No program in sight. -/
import Derived.Test.YtnogkkcmcnhodaaGreatDoorZ4
namespace Go.Proofs.YtnogkkcmcnhodaaGreatDoor
open Go.RowKit

theorem szL_mem {α : Type} {f : α → Nat} {l : List α} {x : α} (h : x ∈ l) : f x ≤ szL f l := by
 obtain ⟨k, hk, rfl⟩ := List.mem_iff_getElem.1 h
 have := szL_get (f := f) hk
 omega
theorem fitFiles_of_size {l : List File} (h : szL szFile l ≤ 1048576) : fitFiles l := fun i hi => by
 have h1 := szL_mem (f := szFile) (List.getElem_mem hi)
 unfold szFile at h1 h
 omega
theorem fitRules_of_size {l : List Rule} (h : szL szRule l ≤ 1048576) : fitRules l := fun i hi => by
 have h1 := szL_mem (f := szRule) (List.getElem_mem hi)
 unfold szRule at h1 h
 exact ⟨by omega, by omega⟩
theorem fitRef_of_size {x : Ref} (h : szRef x ≤ 1048576) : fitRef x := by
 unfold szRef at h
 refine ⟨by omega, fun i hi => fitFiles_of_size ?_⟩
 have h2 : szL szFile x.versions[i] ≤ _ := szL_mem (f := fun y => szL szFile y) (List.getElem_mem hi)
 omega
theorem fitRepo_of_size {x : Repo} (h : szRepo x ≤ 1048576) : fitRepo x := by
 unfold szRepo at h
 have h1 := szL_len szRef x.refs
 refine ⟨fitRules_of_size (by omega), by omega, fun i hi => fitRef_of_size ?_⟩
 have := szL_mem (f := szRef) (List.getElem_mem hi)
 omega
theorem fitHouse_of_size {m : House} (h : szHouse m ≤ 1048576) : fitHouse m := fun i hi => by
 unfold szHouse at h
 have := szL_mem (f := szRepo) (List.getElem_mem hi)
 exact fitRepo_of_size (by omega)
end Go.Proofs.YtnogkkcmcnhodaaGreatDoor
