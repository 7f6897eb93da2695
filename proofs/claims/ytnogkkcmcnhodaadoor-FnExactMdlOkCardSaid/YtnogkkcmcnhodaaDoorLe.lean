/- The law FnExactMdlOk, walked. -/
import Derived.Test.YtnogkkcmcnhodaaDoorMp
import Derived.Test.YtnogkkcmcnhodaaDoorWE
import Derived.Test.YtnogkkcmcnhodaaDoorWZ
import Derived.Test.YtnogkkcmcnhodaaDoorWT
namespace Go.Proofs.YtnogkkcmcnhodaaDoor
open Go.RowKit
attribute [local go_sem ↓] Go.wp_at_zero Go.wp_at_succ

theorem szL_mem {α : Type} {f : α → Nat} {l : List α} {x : α} (h : x ∈ l) : f x ≤ szL f l := by
  obtain ⟨k, hk, rfl⟩ := List.mem_iff_getElem.1 h
  have := szL_get (f := f) hk
  omega
theorem fitFiles_of_size {l : List File} (h : szL szFile l ≤ 1048576) : fitFiles l := fun i hi => by
  have h1 := szL_mem (f := szFile) (List.getElem_mem hi)
  unfold szFile at h1 h
  omega
theorem fitRules_of_size {l : List Rule} (h : szL szRule l ≤ 1048576) : fitRules l := fun i hi => by
  have h1 := szL_mem (f := szRule) (List.getElem_mem hi)
  unfold szRule at h1 h
  exact ⟨by omega, by omega⟩
theorem fitRef_of_size {x : Ref} (h : szRef x ≤ 1048576) : fitRef x := by
  unfold szRef at h
  refine ⟨by omega, fun i hi => fitFiles_of_size ?_⟩
  have h2 : szL szFile x.versions[i] ≤ _ := szL_mem (f := fun y => szL szFile y) (List.getElem_mem hi)
  omega
theorem fitRepo_of_size {x : Repo} (h : szRepo x ≤ 1048576) : fitRepo x := by
  unfold szRepo at h
  have h1 := szL_len szRef x.refs
  refine ⟨fitRules_of_size (by omega), by omega, fun i hi => fitRef_of_size ?_⟩
  have := szL_mem (f := szRef) (List.getElem_mem hi)
  omega
theorem fitHouse_of_size {m : House} (h : szHouse m ≤ 1048576) : fitHouse m := fun i hi => by
  unfold szHouse at h
  have := szL_mem (f := szRepo) (List.getElem_mem hi)
  exact fitRepo_of_size (by omega)

set_option maxHeartbeats 2000000 in
theorem lawExactMdlOk {cs : List Value} {x : House} {fx : List Nat} (w : World) (hx : Rp.house.R w cs x fx) (hw : wideHouse x) :
    Calls Tryd.prog 4 #[.agg cs.toArray] w fun e w' => e = .returned (.bool true) ∧ Below w.heap.size w w' := by
  have hx0 := hx
  obtain ⟨A0, n0, c0, f0, A1, n1, c1, f1, A2, n2, c2, f2, rfl, hff, h0, h1, h2⟩ := hx
  have RH := hide (fun (W : World) (hb : Below w.heap.size w W) => Rp.house.below hx0 hb (Nat.le_refl _))
  clear hx0 h0 h1 h2 hff
  have k1 := Blk.new w 34 #[.slice A0 n0 c0, .slice A1 n1 c1, .slice A2 n2 c2]
  have HB := (Below.refl w.heap.size w).alloc (Nat.le_refl _) (.cells #[.slice A0 n0 c0, .slice A1 n1 c1, .slice A2 n2 c2] 34)
  go_enter Tryd.func4, Tryd.ntmps4
  go_wp2_with fail
  refine (szHouse_any (x := x) _ hw (by omega) (by omega) _ (RH.out _ HB)).mono ?_
  rintro e w1 ⟨rfl, hb⟩
  replace k1 := k1.step hb
  replace HB := Below.then_ HB hb
  clear hb
  by_cases hq : (1048576 : Int) - ((szHouse x : Nat) : Int) < 0
  · rw [lessLen_no hq]
    go_wp2
    go_ret
    exact ⟨rfl, HB⟩
  · rw [lessLen_yes hq]
    have hs : szHouse x ≤ 1048576 := by omega
    have HFit := hide (fitHouse_of_size hs)
    have hq2 : (0 : Int) ≤ 1048576 - ((szHouse x : Nat) : Int) := by omega
    clear hq
    have u0 : w1.cell? ⟨w.heap.size, 0, none⟩ = some (.slice A0 n0 c0) := k1.cell 0
    have u1 : w1.cell? ⟨w.heap.size, 1, none⟩ = some (.slice A1 n1 c1) := k1.cell 1
    have u2 : w1.cell? ⟨w.heap.size, 2, none⟩ = some (.slice A2 n2 c2) := k1.cell 2
    go_wp2_with fail
    refine (toHouse_any (x := x) _ (RH.out _ HB) hs).mono ?_
    rintro e w2 ⟨cs2, fp2, rfl, hR2, _, _, _, hb⟩
    replace k1 := k1.step hb
    replace HB := Below.then_ HB hb
    clear hb u0 u1 u2
    go_wp2_with fail
    refine (specMdlOk_any (x := x) _ hR2 HFit.out).mono ?_
    rintro e w3 ⟨rfl, hb⟩
    replace k1 := k1.step hb
    replace HB := Below.then_ HB hb
    clear hb hR2
    have u0 : w3.cell? ⟨w.heap.size, 0, none⟩ = some (.slice A0 n0 c0) := k1.cell 0
    have u1 : w3.cell? ⟨w.heap.size, 1, none⟩ = some (.slice A1 n1 c1) := k1.cell 1
    have u2 : w3.cell? ⟨w.heap.size, 2, none⟩ = some (.slice A2 n2 c2) := k1.cell 2
    go_wp2_with fail
    refine (toHouse_any (x := x) _ (RH.out _ HB) hs).mono ?_
    rintro e w4 ⟨cs4, fp4, rfl, hR4, _, _, _, hb⟩
    have hR40 := hR4
    obtain ⟨B0, m0, d0, q0, B1, m1, d1, q1, B2, m2, d2, q2, rfl, hfq, S0, S1, S2⟩ := hR4
    have RG := hide (fun (W : World) (hb : Below w4.heap.size w4 W) => Rp.house.below hR40 hb (Nat.le_refl _))
    clear hR40 S0 S1 S2 hfq
    replace k1 := (k1.step hb).alloc (.cells #[.slice B0 m0 d0, .slice B1 m1 d1, .slice B2 m2 d2] 25)
    replace HB := Below.then_ HB hb
    have l1 := Blk.new w4 25 #[.slice B0 m0 d0, .slice B1 m1 d1, .slice B2 m2 d2]
    have HC := (Below.refl w4.heap.size w4).alloc (Nat.le_refl _) (.cells #[.slice B0 m0 d0, .slice B1 m1 d1, .slice B2 m2 d2] 25)
    clear hb u0 u1 u2
    go_wp2_with fail
    refine (implMdlOk_any (x := x) _ (RG.out _ HC) HFit.out).mono ?_
    rintro e w5 ⟨rfl, hb⟩
    replace k1 := k1.step hb
    replace l1 := l1.step hb
    replace HC := Below.then_ HC hb
    replace HB := Below.then_ HB HC
    clear hb
    have hne : (mdlOk x != mdlOk x) = false := by simp
    go_wp2_with fail
    have HBd := HB.drew
    have HCd := HC.drew
    have k1d := k1.drew
    have l1d := l1.drew
    go_region_held3 (fun w' => w'.cell? ⟨w.heap.size, 0, none⟩ = some (.slice A0 n0 c0) ∧ w'.cell? ⟨w.heap.size, 1, none⟩ = some (.slice A1 n1 c1) ∧ w'.cell? ⟨w.heap.size, 2, none⟩ = some (.slice A2 n2 c2) ∧ w'.cell? ⟨w4.heap.size, 0, none⟩ = some (.slice B0 m0 d0) ∧ w'.cell? ⟨w4.heap.size, 1, none⟩ = some (.slice B1 m1 d1) ∧ w'.cell? ⟨w4.heap.size, 2, none⟩ = some (.slice B2 m2 d2))
      (first | exact ⟨k1.cell 0, k1.cell 1, k1.cell 2, l1.cell 0, l1.cell 1, l1.cell 2⟩ | exact ⟨(k1d.step hb6).cell 0, (k1d.step hb6).cell 1, (k1d.step hb6).cell 2, (l1d.step hb6).cell 0, (l1d.step hb6).cell 1, (l1d.step hb6).cell 2⟩ | exact ⟨((k1d.step hb6).step hb7).cell 0, ((k1d.step hb6).step hb7).cell 1, ((k1d.step hb6).step hb7).cell 2, ((l1d.step hb6).step hb7).cell 0, ((l1d.step hb6).step hb7).cell 1, ((l1d.step hb6).step hb7).cell 2⟩)
      (first | (go_at_call 16; refine (toHouse_any (x := x) _ (RH.out _ HBd) hs).mono ?_; rintro e w6 ⟨cs6, fp6, rfl, hR6, _, _, _, hb6⟩) | (go_at_call 9; refine (eqHouse_any (x := x) (y := x) _ (RG.out _ (Below.then_ HCd hb6)) hR6).mono ?_; rintro e w7 ⟨rfl, hb7⟩))
    have HB7 := Below.then_ (Below.then_ HBd hb6) hb7
    go_wp2
    go_ret
    exact ⟨rfl, HB7⟩
end Go.Proofs.YtnogkkcmcnhodaaDoor
