/- The law FnExactMdlSees, walked. By program (wip/gen/gen_lawfiles.py). -/
import Derived.Test.YtnogkkcmcnhodaaGreatDoorLf
import Derived.Test.YtnogkkcmcnhodaaGreatDoorMg
namespace Go.Proofs.YtnogkkcmcnhodaaGreatDoor
open Go.RowKit
attribute [local go_sem ↓] Go.wp_at_zero Go.wp_at_succ

set_option maxHeartbeats 4000000 in
set_option maxRecDepth 20000 in
theorem lawExactMdlSees {cs : List Value} {x : House} {fx : List Nat} (w : World) (hx : Rp.house.R w cs x fx) (hw : wideHouse x) (user : Int) (_ : -9223372036854775808 ≤ user) (_ : user ≤ 9223372036854775807) (repo : Int) (_ : -9223372036854775808 ≤ repo) (_ : repo ≤ 9223372036854775807) (name : ByteArray) (_ : name.size ≤ 9223372036854775807) (back : Int) (_ : -9223372036854775808 ≤ back) (hk1 : back ≤ 9223372036854775807) :
    Calls Tryz.prog 5 #[.agg cs.toArray, .int .i64 user, .int .i64 repo, .string name, .int .i64 back] w fun e w' => e = .returned (.bool true) ∧ Below w.heap.size w w' := by
  have hx0 := hx
  obtain ⟨A0, n0, c0, f0, A1, n1, c1, f1, A2, n2, c2, f2, rfl, hff, h0, h1, h2⟩ := hx
  have RH := hide (fun (W : World) (hb : Below w.heap.size w W) => Rp.house.below hx0 hb (Nat.le_refl _))
  clear hx0 h0 h1 h2 hff
  have k1 := Blk.new w 25 #[.slice A0 n0 c0, .slice A1 n1 c1, .slice A2 n2 c2]
  have HB := (Below.refl w.heap.size w).alloc (Nat.le_refl _) (.cells #[.slice A0 n0 c0, .slice A1 n1 c1, .slice A2 n2 c2] 25)
  have hlen := mdlSees_len x user repo name back
  have HL := hide hlen
  obtain ⟨l, hl⟩ : ∃ l, (mdlSees x user repo name back) = l := ⟨_, rfl⟩
  have HLL := hide hl
  have HN := hide (show l.length ≤ 60 by rw [← hl]; exact hlen)
  have hct := countFiles_le l
  have HCT := hide (show 1 + ((countL ctFile l : Nat) : Int) ≤ 1152921504606846976 by have := HN.out; omega)
  have hc0 : (0 : Int) ≤ ((countL ctFile l : Nat) : Int) := by omega
  clear hl hlen hct
  have hne2 : ((1 + ((countL ctFile l : Nat) : Int)) != (1 + ((countL ctFile l : Nat) : Int))) = false := by simp
  have hnn2 : ¬ (1 + ((countL ctFile l : Nat) : Int)) < 0 := by omega
  have HX2 := hide hne2
  have HX3 := hide hnn2
  clear hne2 hnn2
  go_enter Tryz.func5, Tryz.ntmps5
  by_cases hq0 : (1048576 : Int) < (name.size : Int)
  · go_wp2
    go_ret
    exact ⟨rfl, HB⟩
  skip
  go_wp2_with fail
  refine (szHouse_any (x := x) _ hw (by omega) (by omega) _ (RH.out _ HB)).mono ?_
  rintro e w1 ⟨rfl, hb⟩
  replace k1 := k1.step hb
  replace HB := Below.then_ HB hb
  clear hb hq0
  by_cases hq : (1048576 : Int) - ((szHouse x : Nat) : Int) < 0
  · rw [lessLen_no hq]
    go_wp2
    go_ret
    exact ⟨rfl, HB⟩
  rw [lessLen_yes hq]
  have hs : szHouse x ≤ 1048576 := by omega
  have HFit := hide (fitHouse_of_size hs)
  have hq2 : (0 : Int) ≤ 1048576 - ((szHouse x : Nat) : Int) := by omega
  have HCH := hide (show (1 : Int) + ((ctHouse x : Nat) : Int) ≤ 1152921504606846976 by have := ctHouse_le x; omega)
  clear hq
  have u0 : w1.cell? ⟨w.heap.size, 0, none⟩ = some (.slice A0 n0 c0) := k1.cell 0
  have u1 : w1.cell? ⟨w.heap.size, 1, none⟩ = some (.slice A1 n1 c1) := k1.cell 1
  have u2 : w1.cell? ⟨w.heap.size, 2, none⟩ = some (.slice A2 n2 c2) := k1.cell 2
  go_wp2_with fail
  refine (toHouse_any (x := x) _ (RH.out _ HB) hs).mono ?_
  rintro e w2 ⟨cs2, fp2, rfl, hR2, _, _, _, hb⟩
  replace k1 := k1.step hb
  replace HB := Below.then_ HB hb
  clear hb u0 u1 u2
  clear hq2
  go_wp2_with fail
  refine (specMdlSees_any (x := x) user repo name back hk1 _ hR2 HFit.out).mono ?_
  rintro e w3 ⟨v, rfl, hown, hb⟩
  rw [HLL.out] at hown
  obtain ⟨A3, c3, f3, rfl, hs3, hb3, nd3, fr3⟩ := own_files hown
  replace k1 := k1.step hb
  replace HB := Below.then_ HB hb
  clear hown
  have hw3 : w.heap.size < w3.heap.size := k1.lt
  clear hb hR2 hb3 nd3 fr3
  have hlt3 := hs3.lt
  have u0 : w3.cell? ⟨w.heap.size, 0, none⟩ = some (.slice A0 n0 c0) := k1.cell 0
  have u1 : w3.cell? ⟨w.heap.size, 1, none⟩ = some (.slice A1 n1 c1) := k1.cell 1
  have u2 : w3.cell? ⟨w.heap.size, 2, none⟩ = some (.slice A2 n2 c2) := k1.cell 2
  go_wp2_with fail
  refine (toHouse_any (x := x) _ (RH.out _ HB) hs).mono ?_
  rintro e w4 ⟨cs4, fp4, rfl, hR4, nd4, hb4, fr4, hb⟩
  have hw34' := hb.size
  replace k1 := k1.step hb
  replace HB := Below.then_ HB hb
  replace hs3 := hs3.step hb
  clear hb u0 u1 u2
  have hR40 := hR4
  obtain ⟨B0, m0, d0, q0, B1, m1, d1, q1, B2, m2, d2, q2, rfl, hfq, S0, S1, S2⟩ := hR4
  have hw34 : w3.heap.size ≤ w4.heap.size := hw34'
  have RG := hide (fun (W : World) (hb : ∀ z ∈ fp4, W.heap[z]? = w4.heap[z]?) => Rp.house.keep hR40 hb)
  have lt4 := fr4.lt
  clear hR40 S0 S1 S2 hfq
  have l1 := Blk.new w4 35 #[.slice B0 m0 d0, .slice B1 m1 d1, .slice B2 m2 d2]
  have HC := (Below.refl w4.heap.size w4).alloc (Nat.le_refl _) (.cells #[.slice B0 m0 d0, .slice B1 m1 d1, .slice B2 m2 d2] 35)
  replace k1 := k1.alloc (.cells #[.slice B0 m0 d0, .slice B1 m1 d1, .slice B2 m2 d2] 35)
  replace hs3 := hs3.allocN (.cells #[.slice B0 m0 d0, .slice B1 m1 d1, .slice B2 m2 d2] 35)
  replace HB := HB.alloc HB.size (.cells #[.slice B0 m0 d0, .slice B1 m1 d1, .slice B2 m2 d2] 35)
  skip
  go_wp2_with fail
  refine (implMdlSees_any (x := x) user repo name back hk1 _ (RG.out _ (fun z hz => HC.block z (lt4 z hz))) HFit.out).mono ?_
  rintro e w5 ⟨v, rfl, hown, hb⟩
  rw [HLL.out] at hown
  obtain ⟨A5, c5, f5, rfl, hs5, hb5, nd5, fr5⟩ := own_files hown
  replace k1 := k1.step hb
  replace l1 := l1.step hb
  replace hs3 := hs3.step hb
  replace HB := Below.then_ HB hb
  clear hown
  replace HC := Below.then_ HC hb
  clear hb
  have hlt5 := hs5.lt
  have hb5 : ∀ z ∈ f5, w4.heap.size < z := fun z hz => by have h := hb5 z hz; simp at h; omega
  go_wp2_with fail
  refine (eqFileS_any _ hs5 hs3).mono ?_
  rintro e w6 ⟨rfl, hb⟩
  rw [decide_eq_true (rfl : l = l)]
  replace k1 := k1.step hb
  replace l1 := l1.step hb
  replace hs3 := hs3.step hb
  replace hs5 := hs5.step hb
  replace fr5 := fr5.step hb
  replace HC := Below.then_ HC hb
  replace HB := Below.then_ HB hb
  clear hb
  go_wp2_with fail
  replace HB := HB.drew
  replace HC := HC.drew
  replace k1 := k1.drew
  replace l1 := l1.drew
  replace hs3 := hs3.drew
  replace hs5 := hs5.drew
  replace fr5 : Free w6.drew f5 := fr5
  go_region_held3 (fun w' => w'.cell? ⟨w.heap.size, 0, none⟩ = some (.slice A0 n0 c0) ∧ w'.cell? ⟨w.heap.size, 1, none⟩ = some (.slice A1 n1 c1) ∧ w'.cell? ⟨w.heap.size, 2, none⟩ = some (.slice A2 n2 c2) ∧ w'.cell? ⟨w4.heap.size, 0, none⟩ = some (.slice B0 m0 d0) ∧ w'.cell? ⟨w4.heap.size, 1, none⟩ = some (.slice B1 m1 d1) ∧ w'.cell? ⟨w4.heap.size, 2, none⟩ = some (.slice B2 m2 d2))
    (first | exact ⟨(k1).cell 0, (k1).cell 1, (k1).cell 2, (l1).cell 0, (l1).cell 1, (l1).cell 2⟩ | exact ⟨(k1.step hb7).cell 0, (k1.step hb7).cell 1, (k1.step hb7).cell 2, (l1.step hb7).cell 0, (l1.step hb7).cell 1, (l1.step hb7).cell 2⟩ | exact ⟨((k1.step hb7).step hb8).cell 0, ((k1.step hb7).step hb8).cell 1, ((k1.step hb7).step hb8).cell 2, ((l1.step hb7).step hb8).cell 0, ((l1.step hb7).step hb8).cell 1, ((l1.step hb7).step hb8).cell 2⟩)
    (first | (go_at_call 9; refine (toHouse_any (x := x) _ (RH.out _ HB) hs).mono ?_; rintro e w7 ⟨cs7, fp7, rfl, hR7, _, _, _, hb7⟩) | (go_at_call 12; refine (eqHouse_any (x := x) (y := x) _ (RG.out _ (fun z hz => (Below.then_ HC hb7).block z (lt4 z hz))) hR7).mono ?_; rintro e w8 ⟨rfl, hb8⟩))
  clear hR7
  replace k1 := (k1.step hb7).step hb8
  replace l1 := (l1.step hb7).step hb8
  replace hs3 := (hs3.step hb7).step hb8
  replace hs5 := (hs5.step hb7).step hb8
  replace fr5 := (fr5.step hb7).step hb8
  replace HB := Below.then_ (Below.then_ HB hb7) hb8
  replace HC := Below.then_ (Below.then_ HC hb7) hb8
  clear hb7 hb8
  have u0 : w8.cell? ⟨w4.heap.size, 0, none⟩ = some (.slice B0 m0 d0) := l1.cell 0
  have u1 : w8.cell? ⟨w4.heap.size, 1, none⟩ = some (.slice B1 m1 d1) := l1.cell 1
  have u2 : w8.cell? ⟨w4.heap.size, 2, none⟩ = some (.slice B2 m2 d2) := l1.cell 2
  have fr4 : Free w8 fp4 := fr4.keep fun z hz => HC.block z (lt4 z hz)
  have D34 := hide (show ∀ z ∈ f3, z ∉ fp4 from fun z hz hm => by have := hlt3 z hz; have := hb4 z hm; omega)
  have D54 := hide (show ∀ z ∈ f5, z ∉ fp4 from fun z hz hm => by have := hb5 z hz; have := lt4 z hm; omega)
  have DW4 := hide (show ∀ z ∈ fp4, w.heap.size < z from fun z hz => by have := hb4 z hz; have := hw3; omega)
  go_wp2_with fail
  refine (markHouse_any (x := x) 1 _ (RG.out _ (fun z hz => HC.block z (lt4 z hz))) nd4 fr4 (by omega) HCH.out).mono ?_
  rintro e w9 ⟨rfl, _, ho, hf9⟩
  replace k1 := k1.only ho (fun hm => by have := DW4.out _ hm; omega)
  replace hs3 := hs3.only ho D34.out
  replace hs5 := hs5.only ho D54.out
  replace fr5 := fr5.other ho hf9 (fun z hz => fr5.lt z hz)
  replace HB := HB.trans (ho.below (fun z hz => Nat.le_of_lt (DW4.out z hz)) HB.size)
  clear ho hf9 fr4 u0 u1 u2 l1 HC
  have hnn1 : ¬ (1 + ((ctHouse x : Nat) : Int)) < 0 := by omega
  go_wp2_with fail
  refine (eqFileS_any _ hs5 hs3).mono ?_
  rintro e w10 ⟨rfl, hb⟩
  rw [decide_eq_true (rfl : l = l)]
  replace k1 := k1.step hb
  replace hs3 := hs3.step hb
  replace hs5 := hs5.step hb
  replace fr5 := fr5.step hb
  replace HB := Below.then_ HB hb
  clear hb
  have D35 := hide (show ∀ z ∈ f3, z ∉ f5 from fun z hz hm => by have := hlt3 z hz; have := hb5 z hm; have := hw34; omega)
  have DW5 := hide (show ∀ z ∈ f5, w.heap.size < z from fun z hz => by have := hb5 z hz; have := hw3; have := hw34; omega)
  go_wp2_with fail
  refine (markFileS_any (x := l) 1 _ hs5 nd5 fr5 (by omega) HCT.out).mono ?_
  rintro e w11 ⟨rfl, hs5, ho, _⟩
  replace k1 := k1.only ho (fun hm => by have := DW5.out _ hm; omega)
  replace hs3 := hs3.only ho D35.out
  replace HB := HB.trans (ho.below (fun z hz => Nat.le_of_lt (DW5.out z hz)) HB.size)
  clear ho fr5 hnn1
  go_wp2_with fail
  refine (heldFileS_any (x := l) 1 _ hs5 (by omega) HCT.out).mono ?_
  rintro e w12 ⟨rfl, hb⟩
  replace k1 := k1.step hb
  replace hs3 := hs3.step hb
  replace hs5 := hs5.step hb
  replace HB := Below.then_ HB hb
  clear hb
  have hne2 := HX2.out
  have hnn2 := HX3.out
  have u0 : w12.cell? ⟨w.heap.size, 0, none⟩ = some (.slice A0 n0 c0) := k1.cell 0
  have u1 : w12.cell? ⟨w.heap.size, 1, none⟩ = some (.slice A1 n1 c1) := k1.cell 1
  have u2 : w12.cell? ⟨w.heap.size, 2, none⟩ = some (.slice A2 n2 c2) := k1.cell 2
  go_wp2_with fail
  refine (toHouse_any (x := x) _ (RH.out _ HB) hs).mono ?_
  rintro e w13 ⟨cs13, fp13, rfl, hR13, _, _, _, hb⟩
  replace k1 := k1.step hb
  replace HB := Below.then_ HB hb
  replace hs3 := hs3.step hb
  replace hs5 := hs5.step hb
  clear hb u0 u1 u2
  clear hne2 hnn2
  go_wp2_with fail
  refine (implMdlSees_any (x := x) user repo name back hk1 _ hR13 HFit.out).mono ?_
  rintro e w14 ⟨v, rfl, hown, hb⟩
  rw [HLL.out] at hown
  obtain ⟨A7, c7, f7, rfl, hs7, hb7, nd7, fr7⟩ := own_files hown
  replace HB := Below.then_ HB hb
  replace hs3 := hs3.step hb
  replace hs5 := hs5.step hb
  clear hown
  clear hb hR13 hb7 nd7 fr7
  go_wp2_with fail
  refine (eqFileS_any _ hs7 hs3).mono ?_
  rintro e w15 ⟨rfl, hb⟩
  rw [decide_eq_true (rfl : l = l)]
  replace hs5 := hs5.step hb
  replace HB := Below.then_ HB hb
  clear hb
  go_wp2_with fail
  refine (heldFileS_any (x := l) 1 _ hs5 (by omega) HCT.out).mono ?_
  rintro e w16 ⟨rfl, hb⟩
  replace HB := Below.then_ HB hb
  clear hb
  have hne2 := HX2.out
  have hnn2 := HX3.out
  go_wp2
  go_ret
  exact ⟨rfl, HB⟩
end Go.Proofs.YtnogkkcmcnhodaaGreatDoor
