/- The law FnExactMdlNew, walked. By program (wip/gen/gen_new.py). -/
import Derived.Test.YtnogkkcmcnhodaaDoorNv
import Derived.Test.YtnogkkcmcnhodaaDoorWE
import Derived.Test.YtnogkkcmcnhodaaDoorWT
import Derived.Test.YtnogkkcmcnhodaaDoorMt
namespace Go.Proofs.YtnogkkcmcnhodaaDoor
open Go.RowKit
attribute [local go_sem ↓] Go.wp_at_zero Go.wp_at_succ

theorem countL_one {α : Type} (l : List α) : countL (fun _ => 1) l = l.length := by
  unfold countL
  induction l with
  | nil => rfl
  | cons x l ih => simp only [List.map_cons, List.sum_cons, List.length_cons] at ih ⊢; omega
theorem countL_bare (l : List Int) : countL ctRepo (l.map fun a => (⟨a, [], []⟩ : Repo)) = l.length := by
  unfold countL
  induction l with
  | nil => rfl
  | cons x l ih =>
    simp only [List.map_cons, List.sum_cons, List.length_cons] at ih ⊢
    have : ctRepo ⟨x, [], []⟩ = 1 := rfl
    omega
theorem mdlNew_small (keys admins : List Int) : ctHouse (mdlNew keys admins) ≤ 11 := by
  unfold mdlNew
  split
  · next h =>
    rw [mdlOk_raw] at h
    simp only [Bool.and_eq_true, inB, decide_eq_true_eq] at h
    obtain ⟨⟨⟨⟨h1, h2⟩, h3, h4⟩, _⟩, _⟩ := h
    unfold ctHouse rawHouse
    simp only [countL_one, zeros_length, countL_bare]
    omega
  · decide


set_option maxHeartbeats 4000000 in
set_option maxRecDepth 20000 in
theorem lawExactMdlNew (w : World) {A0 A1 : Option Addr} {n0 n1 c0 c1 : Nat} {keys admins : List Int} {f0 f1 : List Nat} (h0 : SlR Rp.int w A0 n0 c0 keys f0) (h1 : SlR Rp.int w A1 n1 c1 admins f1) :
    Calls Tryd.prog 3 #[.slice A0 n0 c0, .slice A1 n1 c1] w fun e w' => e = .returned (.bool true) ∧ Below w.heap.size w w' := by
  obtain rfl := h0.1
  obtain rfl := h1.1
  have HB := Below.refl w.heap.size w
  have H0 := hide (fun (W : World) (hb : Below w.heap.size w W) => h0.below hb (Nat.le_refl _))
  have H1 := hide (fun (W : World) (hb : Below w.heap.size w W) => h1.below hb (Nat.le_refl _))
  obtain ⟨m, hm⟩ : ∃ m, mdlNew keys admins = m := ⟨_, rfl⟩
  have HM := hide hm
  have hct := mdlNew_small keys admins
  rw [hm] at hct
  have HCT := hide (show (1 : Int) + ((ctHouse m : Nat) : Int) ≤ 1152921504606846976 by omega)
  have HX2 := hide (show ((1 + ((ctHouse m : Nat) : Int)) != (1 + ((ctHouse m : Nat) : Int))) = false by simp)
  have hcn : (0 : Int) ≤ ((ctHouse m : Nat) : Int) := by omega
  have HX3 := hide (show ¬ (1 + ((ctHouse m : Nat) : Int)) < 0 by omega)
  have hm0 := h0.max
  have hm1 := h1.max
  clear hct hm h0 h1 hcn
  go_enter Tryd.func3, Tryd.ntmps3
  by_cases hq0 : (1048576 : Int) < (keys.length : Int)
  · go_wp2
    go_ret
    exact ⟨rfl, HB⟩
  skip
  by_cases hq1 : (1048576 : Int) < (admins.length : Int)
  · go_wp2
    go_ret
    exact ⟨rfl, HB⟩
  skip
  have HKA := hide (show keys.length ≤ 1048576 ∧ admins.length ≤ 1048576 from ⟨by omega, by omega⟩)
  go_wp2_with fail
  clear hq0 hq1
  refine (toIntS_any (x := keys) _ (H0.out _ HB) HKA.out.1).mono ?_
  rintro e w1 ⟨Ba, na, ca, fa, rfl, ha, _, _, _, hb⟩
  obtain rfl := ha.1
  replace HB := Below.then_ HB hb
  clear hb
  go_wp2_with fail
  refine (toIntS_any (x := admins) _ (H1.out _ HB) HKA.out.2).mono ?_
  rintro e w2 ⟨Bb, nb, cb, fb, rfl, hB, _, _, _, hb⟩
  obtain rfl := hB.1
  replace HB := Below.then_ HB hb
  replace ha := ha.step hb
  clear hb
  go_wp2_with fail
  refine (specMdlNew_any (keys := keys) (admins := admins) _ ha hB HKA.out.1 HKA.out.2).mono ?_
  rintro e w3 ⟨cs3, f3, rfl, hR3, _, hb⟩
  rw [HM.out] at hR3
  obtain ⟨P0, p0l, p0c, g0, P1, p1l, p1c, g1, P2, p2l, p2c, g2, rfl, _, _, _, _⟩ := id hR3
  have l3 := Blk.new w3 25 #[.slice P0 p0l p0c, .slice P1 p1l p1c, .slice P2 p2l p2c]
  have lt3 := Rp.house.lt hR3
  have G3 := hide (fun (W : World) (hb : ∀ z ∈ f3, W.heap[z]? = w3.heap[z]?) => Rp.house.keep hR3 hb)
  have lw3 : w.heap.size ≤ w3.heap.size := (Below.then_ HB hb).size
  replace HB := (Below.then_ HB hb).alloc (Below.then_ HB hb).size (.cells #[.slice P0 p0l p0c, .slice P1 p1l p1c, .slice P2 p2l p2c] 25)
  have HC := (Below.refl w3.heap.size w3).alloc (Nat.le_refl _) (.cells #[.slice P0 p0l p0c, .slice P1 p1l p1c, .slice P2 p2l p2c] 25)
  clear hb ha hB hR3
  go_wp2_with fail
  refine (toIntS_any (x := keys) _ (H0.out _ HB) HKA.out.1).mono ?_
  rintro e w4 ⟨Xa, xa, ya, fx, rfl, hx, nx, bx, rx, hb⟩
  obtain rfl := hx.1
  have lx : ∀ z ∈ fx, w3.heap.size < z := fun z hz => by have h := bx z hz; simp at h; omega
  clear bx
  replace HB := Below.then_ HB hb
  replace HC := Below.then_ HC hb
  replace l3 := l3.step hb
  clear hb
  go_wp2_with fail
  refine (toIntS_any (x := admins) _ (H1.out _ HB) HKA.out.2).mono ?_
  rintro e w5 ⟨Xb, xb, yb, fy, rfl, hy, ny, by', ry, hb⟩
  obtain rfl := hy.1
  have ly : ∀ z ∈ fy, w4.heap.size ≤ z := by'
  have lw4 : w3.heap.size < w4.heap.size := l3.lt
  have ltx := hx.lt
  have DXY := hide (show ∀ z ∈ fx, z ∉ fy from fun z hz hm => by have := ltx z hz; have := ly z hm; omega)
  replace HB := Below.then_ HB hb
  replace HC := Below.then_ HC hb
  replace l3 := l3.step hb
  replace hx := hx.step hb
  replace rx := rx.step hb
  clear hb by'
  go_wp2_with fail
  refine (implMdlNew_any (keys := keys) (admins := admins) _ hx hy HKA.out.1 HKA.out.2).mono ?_
  rintro e w6 ⟨cs6, f6, rfl, hR6, n6, b6, r6, hb⟩
  rw [HM.out] at hR6
  obtain ⟨Q0, q0l, q0c, j0, Q1, q1l, q1c, j1, Q2, q2l, q2c, j2, rfl, _, _, _, _⟩ := id hR6
  have l6 := Blk.new w6 25 #[.slice Q0 q0l q0c, .slice Q1 q1l q1c, .slice Q2 q2l q2c]
  have lt6 := Rp.house.lt hR6
  have ltx := hx.lt
  have lty := hy.lt
  have D6 := hide (show (∀ z ∈ f6, z ∉ fx) ∧ (∀ z ∈ f6, z ∉ fy) from ⟨fun z hz hm => by have := ltx z hm; have := b6 z hz; omega, fun z hz hm => by have := lty z hm; have := b6 z hz; omega⟩)
  have DW6 := hide (show ∀ z ∈ f6, w3.heap.size < z ∧ z < w6.heap.size from fun z hz => ⟨by have := b6 z hz; have := l3.lt; omega, lt6 z hz⟩)
  have G6 := hide (fun (W : World) (hb : ∀ z ∈ f6, W.heap[z]? = w6.heap[z]?) => Rp.house.keep hR6 hb)
  replace HB := (Below.then_ HB hb).alloc (Below.then_ HB hb).size (.cells #[.slice Q0 q0l q0c, .slice Q1 q1l q1c, .slice Q2 q2l q2c] 25)
  replace HC := (Below.then_ HC hb).alloc (Below.then_ HC hb).size (.cells #[.slice Q0 q0l q0c, .slice Q1 q1l q1c, .slice Q2 q2l q2c] 25)
  have HD := (Below.refl w6.heap.size w6).alloc (Nat.le_refl _) (.cells #[.slice Q0 q0l q0c, .slice Q1 q1l q1c, .slice Q2 q2l q2c] 25)
  have lw6 : w3.heap.size < w6.heap.size := (l3.step hb).lt
  replace l3 := (l3.step hb).alloc (.cells #[.slice Q0 q0l q0c, .slice Q1 q1l q1c, .slice Q2 q2l q2c] 25)
  replace hx := (hx.step hb).allocN (.cells #[.slice Q0 q0l q0c, .slice Q1 q1l q1c, .slice Q2 q2l q2c] 25)
  replace hy := (hy.step hb).allocN (.cells #[.slice Q0 q0l q0c, .slice Q1 q1l q1c, .slice Q2 q2l q2c] 25)
  replace rx := (rx.step hb).step ((Below.refl _ _).alloc (Nat.le_refl _) (.cells #[.slice Q0 q0l q0c, .slice Q1 q1l q1c, .slice Q2 q2l q2c] 25))
  replace ry := (ry.step hb).step ((Below.refl _ _).alloc (Nat.le_refl _) (.cells #[.slice Q0 q0l q0c, .slice Q1 q1l q1c, .slice Q2 q2l q2c] 25))
  have HXL := hide (show ∀ z ∈ fx, z < w6.heap.size from fun z hz => Nat.lt_of_lt_of_le (ltx z hz) (hb.size))
  have HYL := hide (show ∀ z ∈ fy, z < w6.heap.size from fun z hz => Nat.lt_of_lt_of_le (lty z hz) (hb.size))
  replace r6 := r6.step ((Below.refl _ _).alloc (Nat.le_refl _) (.cells #[.slice Q0 q0l q0c, .slice Q1 q1l q1c, .slice Q2 q2l q2c] 25))
  clear hb b6 lt6 ltx lty hR6
  have u0 : (w6.alloc (.cells #[.slice Q0 q0l q0c, .slice Q1 q1l q1c, .slice Q2 q2l q2c] 25)).cell? ⟨w3.heap.size, 0, none⟩ = some (.slice P0 p0l p0c) := l3.cell 0
  have u1 : (w6.alloc (.cells #[.slice Q0 q0l q0c, .slice Q1 q1l q1c, .slice Q2 q2l q2c] 25)).cell? ⟨w3.heap.size, 1, none⟩ = some (.slice P1 p1l p1c) := l3.cell 1
  have u2 : (w6.alloc (.cells #[.slice Q0 q0l q0c, .slice Q1 q1l q1c, .slice Q2 q2l q2c] 25)).cell? ⟨w3.heap.size, 2, none⟩ = some (.slice P2 p2l p2c) := l3.cell 2
  go_wp2_with fail
  refine (eqHouse_any (x := m) (y := m) _ (G6.out _ (fun z hz => HD.block z (DW6.out z hz).2)) (G3.out _ (fun z hz => HC.block z (lt3 z hz)))).mono ?_
  rintro e w7 ⟨rfl, hb⟩
  replace HB := Below.then_ HB hb
  replace HC := Below.then_ HC hb
  replace HD := Below.then_ HD hb
  replace l3 := l3.step hb
  replace l6 := l6.step hb
  replace hx := hx.step hb
  replace hy := hy.step hb
  replace rx := rx.step hb
  replace ry := ry.step hb
  replace r6 := r6.step hb
  clear hb u0 u1 u2
  go_wp2_with fail
  refine (toIntS_any (x := keys) _ (H0.out _ HB) HKA.out.1).mono ?_
  rintro e w8 ⟨Za, za, va, fz, rfl, hz, _, _, _, hb⟩
  replace HB := Below.then_ HB hb
  replace HC := Below.then_ HC hb
  replace HD := Below.then_ HD hb
  replace l3 := l3.step hb
  replace l6 := l6.step hb
  replace hx := hx.step hb
  replace hy := hy.step hb
  replace rx := rx.step hb
  replace ry := ry.step hb
  replace r6 := r6.step hb
  clear hb
  go_wp2_with fail
  refine (eqIntS_any (x := keys) (y := keys) _ hx hz).mono ?_
  rintro e w9 ⟨rfl, hb⟩
  rw [decide_eq_true (rfl : keys = keys)]
  clear hz
  replace HB := Below.then_ HB hb
  replace HC := Below.then_ HC hb
  replace HD := Below.then_ HD hb
  replace l3 := l3.step hb
  replace l6 := l6.step hb
  replace hx := hx.step hb
  replace hy := hy.step hb
  replace rx := rx.step hb
  replace ry := ry.step hb
  replace r6 := r6.step hb
  clear hb
  go_wp2_with fail
  refine (toIntS_any (x := admins) _ (H1.out _ HB) HKA.out.2).mono ?_
  rintro e w8 ⟨Za, za, va, fz, rfl, hz, _, _, _, hb⟩
  replace HB := Below.then_ HB hb
  replace HC := Below.then_ HC hb
  replace HD := Below.then_ HD hb
  replace l3 := l3.step hb
  replace l6 := l6.step hb
  replace hx := hx.step hb
  replace hy := hy.step hb
  replace rx := rx.step hb
  replace ry := ry.step hb
  replace r6 := r6.step hb
  clear hb
  go_wp2_with fail
  refine (eqIntS_any (x := admins) (y := admins) _ hy hz).mono ?_
  rintro e w9 ⟨rfl, hb⟩
  rw [decide_eq_true (rfl : admins = admins)]
  clear hz
  replace HB := Below.then_ HB hb
  replace HC := Below.then_ HC hb
  replace HD := Below.then_ HD hb
  replace l3 := l3.step hb
  replace l6 := l6.step hb
  replace hx := hx.step hb
  replace hy := hy.step hb
  replace rx := rx.step hb
  replace ry := ry.step hb
  replace r6 := r6.step hb
  clear hb
  have HCK := hide (countL_one keys)
  have HCA := hide (countL_one admins)
  go_wp2_with fail
  refine (markIntS_any (x := keys) 1 _ hx nx rx (by omega) (by have := HCK.out; have := HKA.out.1; omega)).mono ?_
  rintro e w10 ⟨rfl, _, ho, hf⟩
  replace hy := hy.only ho (fun z hz hm => DXY.out z hm hz)
  replace ry := ry.other ho hf (fun z hz => ry.lt z hz)
  replace r6 := r6.other ho hf (fun z hz => r6.lt z hz)
  replace l3 := l3.only ho (fun hm => by have := lx _ hm; omega)
  replace l6 := l6.only ho (fun hm => by have := HXL.out _ hm; omega)
  have E3 := hide (show ∀ z ∈ f3, w10.heap[z]? = w3.heap[z]? from fun z hz => (ho.block z (Nat.lt_of_lt_of_le (lt3 z hz) HC.size) (fun hm => by have := lx z hm; have := lt3 z hz; omega)).trans (HC.block z (lt3 z hz)))
  have E6 := hide (show ∀ z ∈ f6, w10.heap[z]? = w6.heap[z]? from fun z hz => (ho.block z (Nat.lt_of_lt_of_le (DW6.out z hz).2 HD.size) (D6.out.1 z hz)).trans (HD.block z (DW6.out z hz).2))
  have S3 : w6.heap.size ≤ w10.heap.size := Nat.le_trans HD.size ho.size
  replace HB := HB.trans (ho.below (fun z hz => by have := lx z hz; omega) HB.size)
  clear ho hf hx rx HC HD nx
  go_wp2_with fail
  refine (markIntS_any (x := admins) _ _ hy ny ry (by omega) (by have := HCK.out; have := HCA.out; have := HKA.out.1; have := HKA.out.2; omega)).mono ?_
  rintro e w11 ⟨rfl, _, ho, hf⟩
  replace r6 := r6.other ho hf (fun z hz => r6.lt z hz)
  replace l3 := l3.only ho (fun hm => by have := ly _ hm; omega)
  replace l6 := l6.only ho (fun hm => by have := HYL.out _ hm; omega)
  replace E3 := hide (show ∀ z ∈ f3, w11.heap[z]? = w3.heap[z]? from fun z hz => (ho.block z (by have := lt3 z hz; omega) (fun hm => by have := ly z hm; have := lt3 z hz; omega)).trans (E3.out z hz))
  replace E6 := hide (show ∀ z ∈ f6, w11.heap[z]? = w6.heap[z]? from fun z hz => (ho.block z (by have := (DW6.out z hz).2; omega) (D6.out.2 z hz)).trans (E6.out z hz))
  replace S3 : w6.heap.size ≤ w11.heap.size := Nat.le_trans S3 ho.size
  replace HB := HB.trans (ho.below (fun z hz => by have := ly z hz; omega) HB.size)
  clear ho hf hy ry ny
  have hk1 : ¬ (1 + ((countL (fun _ => 1) keys : Nat) : Int) + ((countL (fun _ => 1) admins : Nat) : Int)) < 0 := by omega

  have u0 : w11.cell? ⟨w3.heap.size, 0, none⟩ = some (.slice P0 p0l p0c) := l3.cell 0
  have u1 : w11.cell? ⟨w3.heap.size, 1, none⟩ = some (.slice P1 p1l p1c) := l3.cell 1
  have u2 : w11.cell? ⟨w3.heap.size, 2, none⟩ = some (.slice P2 p2l p2c) := l3.cell 2
  have v0 : w11.cell? ⟨w6.heap.size, 0, none⟩ = some (.slice Q0 q0l q0c) := l6.cell 0
  have v1 : w11.cell? ⟨w6.heap.size, 1, none⟩ = some (.slice Q1 q1l q1c) := l6.cell 1
  have v2 : w11.cell? ⟨w6.heap.size, 2, none⟩ = some (.slice Q2 q2l q2c) := l6.cell 2
  go_wp2_with fail
  refine (eqHouse_any (x := m) (y := m) _ (G6.out _ E6.out) (G3.out _ E3.out)).mono ?_
  rintro e w12 ⟨rfl, hb⟩
  replace HB := Below.then_ HB hb
  replace l3 := l3.step hb
  replace l6 := l6.step hb
  replace r6 := r6.step hb
  replace E3 := hide (show ∀ z ∈ f3, w12.heap[z]? = w3.heap[z]? from fun z hz => (hb.block z (by have := lt3 z hz; omega)).trans (E3.out z hz))
  replace E6 := hide (show ∀ z ∈ f6, w12.heap[z]? = w6.heap[z]? from fun z hz => (hb.block z (by have := (DW6.out z hz).2; omega)).trans (E6.out z hz))
  replace S3 : w6.heap.size ≤ w12.heap.size := Nat.le_trans S3 hb.size
  clear hb hk1 u0 u1 u2 v0 v1 v2
  have v0 : w12.cell? ⟨w6.heap.size, 0, none⟩ = some (.slice Q0 q0l q0c) := l6.cell 0
  have v1 : w12.cell? ⟨w6.heap.size, 1, none⟩ = some (.slice Q1 q1l q1c) := l6.cell 1
  have v2 : w12.cell? ⟨w6.heap.size, 2, none⟩ = some (.slice Q2 q2l q2c) := l6.cell 2
  go_wp2_with fail
  refine (markHouse_any (x := m) 1 _ (G6.out _ E6.out) n6 r6 (by omega) HCT.out).mono ?_
  rintro e w13 ⟨rfl, hM, ho, hf⟩
  replace l3 := l3.only ho (fun hm => by have := (DW6.out _ hm).1; omega)
  replace l6 := l6.only ho (fun hm => by have := (DW6.out _ hm).2; omega)
  replace E3 := hide (show ∀ z ∈ f3, w13.heap[z]? = w3.heap[z]? from fun z hz => (ho.block z (by have := lt3 z hz; omega) (fun hm => by have := (DW6.out _ hm).1; have := lt3 z hz; omega)).trans (E3.out z hz))
  have lt13 := Rp.house.lt hM
  have GM := hide (fun (W : World) (hb : Below w13.heap.size w13 W) => Rp.house.below hM hb (Nat.le_refl _))
  replace S3 : w6.heap.size ≤ w13.heap.size := Nat.le_trans S3 ho.size
  replace HB := HB.trans (ho.below (fun z hz => by have := (DW6.out z hz).1; omega) HB.size)
  have HE := Below.refl w13.heap.size w13
  clear ho hf hM n6 r6 v0 v1 v2
  have v0 : w13.cell? ⟨w6.heap.size, 0, none⟩ = some (.slice Q0 q0l q0c) := l6.cell 0
  have v1 : w13.cell? ⟨w6.heap.size, 1, none⟩ = some (.slice Q1 q1l q1c) := l6.cell 1
  have v2 : w13.cell? ⟨w6.heap.size, 2, none⟩ = some (.slice Q2 q2l q2c) := l6.cell 2
  go_wp2_with fail
  refine (heldHouse_any (x := m) 1 _ (GM.out _ HE) (by omega) HCT.out).mono ?_
  rintro e w14 ⟨rfl, hb⟩
  replace HB := Below.then_ HB hb
  replace HE := Below.then_ HE hb
  replace l3 := l3.step hb
  replace l6 := l6.step hb
  clear hb
  clear v0 v1 v2
  have hne2 := HX2.out
  have hnn2 := HX3.out
  go_wp2_with fail
  clear hne2 hnn2
  refine (toIntS_any (x := keys) _ (H0.out _ HB) HKA.out.1).mono ?_
  rintro e w15 ⟨Ya, ya', va, fz, rfl, ha, _, _, _, hb⟩
  obtain rfl := ha.1
  replace HB := Below.then_ HB hb
  replace HE := Below.then_ HE hb
  replace l3 := l3.step hb
  replace l6 := l6.step hb
  clear hb
  go_wp2_with fail
  refine (toIntS_any (x := admins) _ (H1.out _ HB) HKA.out.2).mono ?_
  rintro e w16 ⟨Yb, yb', vb, fz', rfl, hB, _, _, _, hb⟩
  obtain rfl := hB.1
  replace ha := ha.step hb
  replace HB := Below.then_ HB hb
  replace HE := Below.then_ HE hb
  replace l3 := l3.step hb
  replace l6 := l6.step hb
  clear hb
  go_wp2_with fail
  refine (implMdlNew_any (keys := keys) (admins := admins) _ ha hB HKA.out.1 HKA.out.2).mono ?_
  rintro e w17 ⟨cs7, f7, rfl, hR7, _, _, _, hb⟩
  rw [HM.out] at hR7
  obtain ⟨S0, s0l, s0c, k0, S1, s1l, s1c, k1, S2, s2l, s2c, k2, rfl, _, _, _, _⟩ := id hR7
  replace hR7 := Rp.house.below hR7 ((Below.refl w17.heap.size w17).alloc (Nat.le_refl _) (.cells #[.slice S0 s0l s0c, .slice S1 s1l s1c, .slice S2 s2l s2c] 25)) (Nat.le_refl _)
  replace HB := (Below.then_ HB hb).alloc (Below.then_ HB hb).size (.cells #[.slice S0 s0l s0c, .slice S1 s1l s1c, .slice S2 s2l s2c] 25)
  replace HE := (Below.then_ HE hb).alloc (Below.then_ HE hb).size (.cells #[.slice S0 s0l s0c, .slice S1 s1l s1c, .slice S2 s2l s2c] 25)
  replace l3 := (l3.step hb).alloc (.cells #[.slice S0 s0l s0c, .slice S1 s1l s1c, .slice S2 s2l s2c] 25)
  replace l6 := (l6.step hb).alloc (.cells #[.slice S0 s0l s0c, .slice S1 s1l s1c, .slice S2 s2l s2c] 25)
  have E3n := hide (show ∀ z ∈ f3, (w17.alloc (.cells #[.slice S0 s0l s0c, .slice S1 s1l s1c, .slice S2 s2l s2c] 25)).heap[z]? = w3.heap[z]? from fun z hz => (HE.block z (by have := lt3 z hz; omega)).trans (E3.out z hz))
  clear hb ha hB
  have u0 : (w17.alloc (.cells #[.slice S0 s0l s0c, .slice S1 s1l s1c, .slice S2 s2l s2c] 25)).cell? ⟨w3.heap.size, 0, none⟩ = some (.slice P0 p0l p0c) := l3.cell 0
  have u1 : (w17.alloc (.cells #[.slice S0 s0l s0c, .slice S1 s1l s1c, .slice S2 s2l s2c] 25)).cell? ⟨w3.heap.size, 1, none⟩ = some (.slice P1 p1l p1c) := l3.cell 1
  have u2 : (w17.alloc (.cells #[.slice S0 s0l s0c, .slice S1 s1l s1c, .slice S2 s2l s2c] 25)).cell? ⟨w3.heap.size, 2, none⟩ = some (.slice P2 p2l p2c) := l3.cell 2
  go_wp2_with fail
  refine (eqHouse_any (x := m) (y := m) _ hR7 (G3.out _ E3n.out)).mono ?_
  rintro e w18 ⟨rfl, hb⟩
  replace HB := Below.then_ HB hb
  replace HE := Below.then_ HE hb
  replace l3 := l3.step hb
  replace l6 := l6.step hb
  clear hb
  clear u0 u1 u2
  have v0 : w18.cell? ⟨w6.heap.size, 0, none⟩ = some (.slice Q0 q0l q0c) := l6.cell 0
  have v1 : w18.cell? ⟨w6.heap.size, 1, none⟩ = some (.slice Q1 q1l q1c) := l6.cell 1
  have v2 : w18.cell? ⟨w6.heap.size, 2, none⟩ = some (.slice Q2 q2l q2c) := l6.cell 2
  go_wp2_with fail
  refine (heldHouse_any (x := m) 1 _ (GM.out _ HE) (by omega) HCT.out).mono ?_
  rintro e w19 ⟨rfl, hb⟩
  replace HB := Below.then_ HB hb
  have hne2 := HX2.out
  have hnn2 := HX3.out
  go_wp2
  go_ret
  exact ⟨rfl, HB⟩
end Go.Proofs.YtnogkkcmcnhodaaDoor
