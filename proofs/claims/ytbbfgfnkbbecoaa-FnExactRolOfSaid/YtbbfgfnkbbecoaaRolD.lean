/- The law FnExactRolOf. -/
import Derived.Test.YtbbfgfnkbbecoaaRolC
import Derived.Test.YtbbfgfnkbbecoaaW2
namespace Go.Proofs.Ytbbfgfnkbbecoaa
open Go.RowKit

/-- What a fresh slice is good for behind later calls. -/
structure Own {α : Type} (r : Rp α) (w : World) (A : Option Addr) (n c : Nat) (l : List α) (fp : List Nat) : Prop where
  s : SlR r w A n c l fp
  nd : fp.Nodup
  free : Free w fp
section
variable {α : Type} {r : Rp α} {w w1 : World} {A : Option Addr} {n c : Nat} {l : List α} {fp f : List Nat}
theorem Own.step (h : Own r w A n c l fp) (hb : Below w.heap.size w w1) : Own r w1 A n c l fp := ⟨h.s.step hb, h.nd, Free.step h.free hb⟩
theorem Own.only (h : Own r w A n c l fp) (hb : Only f w w1) (hd : ∀ x ∈ fp, x ∉ f) : Own r w1 A n c l fp := ⟨h.s.only hb hd, h.nd, h.free.keep fun x hx => hb.block x (h.s.lt x hx) (hd x hx)⟩
theorem Own.lt (h : Own r w A n c l fp) : ∀ x ∈ fp, x < w.heap.size := h.s.lt
end
theorem Below.then_only {w w1 w2 : World} {f : List Nat} (h : Below w.heap.size w w1) (k : Only f w1 w2) (hf : ∀ x ∈ f, w.heap.size ≤ x) : Below w.heap.size w w2 := h.trans (k.below hf h.size)

set_option maxHeartbeats 2000000 in
theorem lawExactRolOf {A : Option Addr} {n c : Nat} {x : List Line} {fx : List Nat} (user : Int) (w : World) (hx : SlR Rp.line w A n c x fx) :
    Calls Try.prog 3 #[.slice A n c, .int .i64 user] w fun e w' => e = .returned (.bool true) ∧ Below w.heap.size w w' := by
  have HN := hide hx.1
  have hmx := hx.max
  go_enter Try.func3, Try.ntmps3
  go_wp2_with fail
  refine (szLineS_any A n c _ (by omega) (by omega) (by omega) _).mono ?_
  rintro e w0 ⟨rfl, rfl⟩
  by_cases hq : (1048576 : Int) - (n : Int) < 0
  · rw [lessLen_no hq]
    go_wp2
    go_ret
    exact ⟨rfl, Below.refl _ _⟩
  · rw [lessLen_yes hq]
    have hs : x.length ≤ 1048576 := by have := HN.out; omega
    have hq2 : (0 : Int) ≤ 1048576 - (n : Int) := by omega
    clear hq
    go_wp2_with fail
    refine (toLineS_any _ hx hs).mono ?_
    rintro e w1 ⟨A1, n1, c1, f1, rfl, r1, _, _, _, hb1⟩
    go_wp2_with fail
    refine (specRolOf_any user _ r1 hs).mono ?_
    rintro e w2 ⟨A2, n2, c2, f2, rfl, r2, hd2, hl2, hf2, hb2⟩
    have B2 := Below.then_ hb1 hb2
    have hlo2 : ∀ y ∈ f2, w.heap.size ≤ y := fun y hy => Nat.le_trans hb1.size (hl2 y hy)
    go_wp2_with fail
    refine (toLineS_any _ (hx.step B2) hs).mono ?_
    rintro e w3 ⟨A3, n3, c3, f3, rfl, r3, hd3, hl3, hf3, hb3⟩
    have B3 := Below.then_ B2 hb3
    have W3 : Own Rp.line w3 A2 n2 c2 _ f2 := Own.step ⟨r2, hd2, hf2⟩ hb3
    have X3 : Own Rp.line w3 A3 n3 c3 _ f3 := ⟨r3, hd3, hf3⟩
    have hlo3 : ∀ y ∈ f3, w.heap.size ≤ y := fun y hy => Nat.le_trans B2.size (hl3 y hy)
    have d23 : ∀ y ∈ f2, y ∉ f3 := fun y hy h => by have := r2.lt y hy; have := hl3 y h; omega
    go_wp2_with fail
    refine (implRolOf_any user _ X3.s hs).mono ?_
    rintro e w4 ⟨A4, n4, c4, f4, rfl, r4, hd4, hl4, hf4, hb4⟩
    have B4 := Below.then_ B3 hb4
    have W4 := W3.step hb4
    have X4 := X3.step hb4
    have G4 : Own Rp.line w4 A4 n4 c4 _ f4 := ⟨r4, hd4, hf4⟩
    have hlo4 : ∀ y ∈ f4, w.heap.size ≤ y := fun y hy => Nat.le_trans B3.size (hl4 y hy)
    have d34 : ∀ y ∈ f3, y ∉ f4 := fun y hy h => by have := r3.lt y hy; have := hl4 y h; omega
    have d24 : ∀ y ∈ f2, y ∉ f4 := fun y hy h => by have := W3.lt y hy; have := hl4 y h; omega
    clear hb1 hb2 hb3 hb4 r1 r2 r3 r4
    go_wp2_with fail
    refine (eqLineS_any _ G4.s W4.s).mono ?_
    rintro e w5 ⟨rfl, hb5⟩
    have B5 := Below.then_ B4 hb5
    have W5 := W4.step hb5
    have X5 := X4.step hb5
    have G5 := G4.step hb5
    rw [decide_eq_true rfl]
    go_wp2_with fail
    refine (toLineS_any _ (hx.step B5) hs).mono ?_
    rintro e w6 ⟨A6, n6, c6, f6, rfl, r6, _, _, _, hb6⟩
    go_wp2_with fail
    refine (eqLineS_any _ (X5.step hb6).s r6).mono ?_
    rintro e w7 ⟨rfl, hb7⟩
    have B7 := Below.then_ (Below.then_ B5 hb6) hb7
    have W7 := (W5.step hb6).step hb7
    have X7 := (X5.step hb6).step hb7
    have G7 := (G5.step hb6).step hb7
    rw [decide_eq_true rfl]
    go_wp2_with fail
    have hc4 : (countL ctLine x : Nat) ≤ 4194304 := by have := countL_const (ct := ctLine) (k := 4) (fun _ => rfl) x; omega
    refine (markLineS_any (x := x) _ _ X7.s X7.nd X7.free (by omega) (by omega)).mono ?_
    rintro e w8 ⟨rfl, hS8, hO8, hF8⟩
    have B8 := Below.then_only B7 hO8 hlo3
    have W8 := W7.only hO8 d23
    have G8 := G7.only hO8 (fun y hy h => d34 y h hy)
    clear hS8 hO8 hF8 X7 X5 X4 X3 hb5 hb6 hb7 W3 W4 W5 G4 G5 r6
    generalize hK : ((countL ctLine x : Nat) : Int) = K at *
    have hK0 : 0 ≤ K := by omega
    have hK1 : K ≤ 4194304 := by omega
    clear hK hc4
    have hkd : decide ((1 : Int) + K < 0) = false := by simp; omega
    go_wp2_with fail
    refine (eqLineS_any _ G8.s W8.s).mono ?_
    rintro e w9 ⟨rfl, hb9⟩
    have B9 := Below.then_ B8 hb9
    have W9 := W8.step hb9
    have G9 := G8.step hb9
    rw [decide_eq_true rfl]
    have hle : (countL ctLine (rolOf x user) : Nat) ≤ 4194304 := by
      have h1 := countL_const (ct := ctLine) (k := 4) (fun _ => rfl) (rolOf x user)
      have h2 : (rolOf x user).length ≤ x.length := List.length_filter_le _ _
      omega
    go_wp2_with fail
    refine (markLineS_any (x := rolOf x user) _ _ G9.s G9.nd G9.free (by omega) (by omega)).mono ?_
    rintro e w10 ⟨rfl, hS10, hO10, hF10⟩
    have B10 := Below.then_only B9 hO10 hlo4
    have W10 := W9.only hO10 d24
    generalize hM : ((countL ctLine (rolOf x user) : Nat) : Int) = M
    have HM := hide hM
    have hM0 : 0 ≤ M := by omega
    have hM1 : M ≤ 4194304 := by omega
    clear hM hle
    go_wp2_with fail
    refine (heldLineS_any (x := rolOf x user) _ _ hS10 (by omega) (by have := HM.out; omega)).mono ?_
    rintro e w11 ⟨rfl, hb11⟩
    have B11 := Below.then_ B10 hb11
    have W11 := W10.step hb11
    have S11 := hS10.step hb11
    rw [HM.out]
    have hkm : decide ((1 : Int) + M < 0) = false := by simp; omega
    have hkn : ((1 : Int) + M != 1 + M) = false := by simp
    go_wp2_with fail
    refine (toLineS_any _ (hx.step B11) hs).mono ?_
    rintro e w12 ⟨A12, n12, c12, f12, rfl, r12, _, _, _, hb12⟩
    go_wp2_with fail
    refine (implRolOf_any user _ r12 hs).mono ?_
    rintro e w13 ⟨A13, n13, c13, f13, rfl, r13, _, _, _, hb13⟩
    go_wp2_with fail
    refine (eqLineS_any _ r13 ((W11.step hb12).step hb13).s).mono ?_
    rintro e w14 ⟨rfl, hb14⟩
    have B14 := Below.then_ (Below.then_ (Below.then_ B11 hb12) hb13) hb14
    have S14 := ((S11.step hb12).step hb13).step hb14
    rw [decide_eq_true rfl]
    go_wp2_with fail
    refine (heldLineS_any (x := rolOf x user) _ _ S14 (by omega) (by have := HM.out; omega)).mono ?_
    rintro e w15 ⟨rfl, hb15⟩
    have B15 := Below.then_ B14 hb15
    rw [HM.out]
    go_wp2
    go_ret
    exact ⟨rfl, B15⟩
end Go.Proofs.Ytbbfgfnkbbecoaa
