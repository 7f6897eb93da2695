/- Walks: rules and one are drawn. -/
import Derived.Test.YthopednilgncgaaDoorDg
namespace Go.Proofs.YthopednilgncgaaDoor
open Go.RowKit
attribute [local go_sem ↓] Go.wp_at_zero Go.wp_at_succ

/-- A pointer at a rule. -/
def FRule (g : Nat) (v : Value) (w : World) : Prop := ∃ b o r, v = .pointer (some ⟨b, o, none⟩) ∧ b ≠ g ∧ b < w.heap.size ∧ fitRule r ∧ Cells w b o (encRule r)
theorem FRule.only {g : Nat} {v : Value} {w w' : World} (h : FRule g v w) (ho : Only [g] w w') : FRule g v w' := by
  obtain ⟨b, o, r, h1, h2, h3, h4, h5⟩ := h
  exact ⟨b, o, r, h1, h2, Nat.lt_of_lt_of_le h3 ho.size, h4, h5.keep (ho.block b h3 (by simpa using h2))⟩
def outΓ (g n : Nat) (s : Value) : Facts := fun t v w => match t with
  | 4 => FPtr g v
  | 5 => v = s
  | 18 => v = s
  | 19 => v = s
  | 20 => FPtr g v
  | 21 => v = s
  | 22 => v = .int .i64 (n : Int)
  | 23 => FNat n v
  | 24 => FRule g v w
  | 25 => ∃ r : Rule, fitRule r ∧ v = .agg (encRule r).toArray
  | 2 => v = s
  | _ => True
theorem outΓ_stays (g n : Nat) (s : Value) : Stays (Only [g]) (outΓ g n s) := fun t v w w' h ho => by
  unfold outΓ at *
  split at h <;> first | exact h | exact FRule.only h ho

theorem own_put {w : World} {base size n b j : Nat} {e : TypeId} {v u : Value} {xs : List Value} (h : w.ownsRow base e size v n xs) (hb : b < base) : (w.setCell ⟨b, j, none⟩ u).ownsRow base e size v n xs :=
  ⟨h.1, h.2.elim Or.inl (fun ⟨k, cap, cur, hv, hk, hc, r⟩ => Or.inr ⟨k, cap, cur, hv, hk, (Below.heap_setCell w ⟨b, j, none⟩ u k (by simp; omega)).trans hc, r⟩)⟩
/-- Four stores into a block that is new. -/
theorem below_put4 {B b : Nat} {w w1 : World} (h : Below B w w1) (hb : B ≤ b) (x0 x1 x2 x3 : Value) : Below B w ((((w1.setCell ⟨b, 0, none⟩ x0).setCell ⟨b, 1, none⟩ x1).setCell ⟨b, 2, none⟩ x2).setCell ⟨b, 3, none⟩ x3) :=
  (((h.setCell (p := ⟨b, 0, none⟩) hb x0).setCell (p := ⟨b, 1, none⟩) hb x1).setCell (p := ⟨b, 2, none⟩) hb x2).setCell (p := ⟨b, 3, none⟩) hb x3

/-- Rules and one of their kind are drawn. -/
def DrRulesOne (w : World) (e : Ending) (w' : World) : Prop :=
  ∃ v l r, e = .returned (.tuple #[v, .agg (encRule r).toArray]) ∧ w'.ownsRow w.heap.size 25 4 v l.length (l.flatMap encRule) ∧ fitRules l ∧ l.length ≤ 8 ∧ fitRule r ∧ Below w.heap.size w w'

set_option maxHeartbeats 2000000 in
set_option maxRecDepth 20000 in
theorem drawRulOut_any {A : Option Addr} {n c : Nat} {l : List UInt8} {fp : List Nat} (w : World) (hx : SlR Rp.byte w A n c l fp) :
    Calls Tryd.prog 10 #[.slice A n c] w (DrRulesOne w) := by
  have k3 := Blk.new w 25 #[.int .i64 0, .string ⟨#[]⟩, .string ⟨#[]⟩, .bool false]
  go_enter Tryd.func10, Tryd.ntmps10
  go_wp2_with fail
  refine (l20Open_any _ (hx.allocN _)).mono ?_
  rintro e w1 ⟨g, rfl, hg, hr1, hb1⟩
  replace k3 := k3.step hb1
  simp only [World.size_alloc] at hg
  have hB1 := Below.box1 hb1
  have hg0 : w.heap.size < w1.heap.size := by have := hb1.size; simp at this; omega
  clear hb1 hx
  go_wp2_with fail
  refine (l20Rules_any g 0 9 (by omega) (by omega) _ hr1).mono ?_
  rintro e w2 ⟨v, l, rfl, hown, hfit, hl, hr2, ho2⟩
  have hg1 := hr1.lt
  replace k3 := k3.only ho2 (by simp; omega)
  have hB2 := hB1.trans (ho2.below (B := w.heap.size) (by simp; omega) hB1.size)
  have HW := hide hown
  have HF := hide hfit
  clear hr1 ho2 hB1 hown hfit
  by_cases hl0 : 0 < l.length
  · have hl1 : (0 : Int) < (l.length : Int) := by omega
    obtain ⟨A', c', f, rfl, hs, hfb, hnd, hfr⟩ := own_sl (k := 4) (enc := encRule) (hk := fun _ => rfl) (h1 := encRule_one) HW.out
    go_wp2_with fail
    refine (pick_any g _ 2 (by omega) (by omega) _ hr2).mono ?_
    rintro e w3 ⟨x, rfl, hx, hr3, ho3⟩
    clear hx
    cases hx0 : ((x : Int) == 0)
    · replace k3 := k3.only ho3 (by simp; omega)
      have hB3 := hB2.trans (ho3.below (B := w.heap.size) (by simp; omega) hB2.size)
      have HW3 := hide (own_only HW.out ho3 (by omega))
      clear HW hs hr2 ho3 hB2
      go_wp2_with fail
      refine (l20Rule_any g _ 6 (by omega) (by omega) _ hr3).mono ?_
      rintro e w4 ⟨r, rfl, hfit, hr4, ho4⟩
      replace k3 := k3.only ho4 (by simp; omega)
      have HW4 := hide (own_only HW3.out ho4 (by omega))
      have hB4 := hB3.trans (ho4.below (B := w.heap.size) (by simp; omega) (hB3).size)
      rw [show (encRule r).toArray = #[.int .i64 r.user, .string r.ref, .string r.path, .bool r.write] from rfl]
      have p0 : w4.cell? ⟨w.heap.size, 0, none⟩ = some (.int .i64 0) := k3.cell 0
      have p1 : w4.cell? ⟨w.heap.size, 1, none⟩ = some (.string ⟨#[]⟩) := k3.cell 1
      have p2 : w4.cell? ⟨w.heap.size, 2, none⟩ = some (.string ⟨#[]⟩) := k3.cell 2
      have p3 : w4.cell? ⟨w.heap.size, 3, none⟩ = some (.bool false) := k3.cell 3
      have g0 := k3.frozen 0
      have g1 := k3.frozen 1
      have g2 := k3.frozen 2
      have g3 := k3.frozen 3
      have HO := hide (own_base (own_put (b := w.heap.size) (j := 3) (u := .bool r.write) (own_put (b := w.heap.size) (j := 2) (u := .string r.path) (own_put (b := w.heap.size) (j := 1) (u := .string r.ref) (own_put (b := w.heap.size) (j := 0) (u := .int .i64 r.user) HW4.out (by omega)) (by omega)) (by omega)) (by omega)) (Nat.le_of_lt hg0))
      have HB := hide (below_put4 hB4 (Nat.le_refl _) (.int .i64 r.user) (.string r.ref) (.string r.path) (.bool r.write))
      clear HW4
      go_wp2
      exact bodyPost_ret (v := .tuple #[.slice A' l.length c', .agg #[.int .i64 r.user, .string r.ref, .string r.path, .bool r.write]]) (by simp [results, Tryd.results10, go_sem, p0, p1, p2, p3]) rfl ⟨_, l, r, rfl, HO.out, HF.out, hl, hfit, HB.out⟩
    · replace k3 := k3.only ho3 (by simp; omega)
      have hB3 := hB2.trans (ho3.below (B := w.heap.size) (by simp; omega) hB2.size)
      have HW3 := hide (own_only HW.out ho3 (by omega))
      have hsl3 := hs.only ho3 (fun x hx => by have := hfb x hx; simp; omega)
      clear HW hs hr2 ho3 hB2
      obtain ⟨b, o, rfl, hbl, hbm, _⟩ := rule_cells hsl3 hl0
      have hbg : b ≠ g := by have := hfb b hbm; omega
      go_wp2_with fail
      refine wp_region_typed_last 9 _ rfl (fun k w' => Rd w' g (0 + 400 + 1 + k) ∧ Only [g] w3 w') (Only [g]) (outΓ g l.length (.slice (some ⟨b, o, none⟩) l.length c')) (by kernel_rfl) rfl (by kernel_rfl) rfl (outΓ_stays _ _ _) (Only.refl _) ⟨⟨hr3.step (Below.refl _ _).drew, Only.of_below ((Below.refl _ _).drew) _⟩, fun s hs => ?_, by rfl⟩ ?_ ?_
      · by_cases e4 : s = 4
        · subst e4; rfl
        · by_cases e5 : s = 5
          · subst e5; rfl
          · have hne : s ∉ [18, 19, 20, 21, 22, 23, 24, 25, 2] := fun hm => by
              simp only [List.mem_cons, List.not_mem_nil, or_false] at hm
              rcases hm with rfl | rfl | rfl | rfl | rfl | rfl | rfl | rfl | rfl <;> exact absurd hs (by decide)
            simp only [List.mem_cons, List.not_mem_nil, or_false, not_or] at hne
            unfold outΓ
            split <;> first | trivial | (exfalso; omega)
      · intro p hp
        simp only [List.take_succ_cons, List.take_zero, List.mem_cons, List.not_mem_nil, or_false] at hp
        rcases hp with rfl | rfl | rfl | rfl | rfl | rfl | rfl | rfl | rfl
        · intro k a w' hk hC hR
          have r0 : a.tmps[5]?.getD undef = _ := hR 5 (by decide)
          simp [Region.wanted, outOf, go_sem, execOp, r0, upT]
          exact ⟨⟨hC.1.mono (by omega), hC.2⟩, Only.refl _ _, rfl⟩
        · intro k a w' hk hC hR
          have r0 : a.tmps[5]?.getD undef = _ := hR 5 (by decide)
          simp [Region.wanted, outOf, go_sem, execOp, r0, upT]
          exact ⟨⟨hC.1.mono (by omega), hC.2⟩, Only.refl _ _, rfl⟩
        · intro k a w' hk hC hR
          have r0 : a.tmps[4]?.getD undef = _ := hR 4 (by decide)
          simp [Region.wanted, outOf, go_sem, execOp, r0, upT]
          exact ⟨⟨hC.1.mono (by omega), hC.2⟩, Only.refl _ _, rfl⟩
        · intro k a w' hk hC hR
          have r0 : a.tmps[5]?.getD undef = _ := hR 5 (by decide)
          simp [Region.wanted, outOf, go_sem, execOp, r0, upT]
          exact ⟨⟨hC.1.mono (by omega), hC.2⟩, Only.refl _ _, rfl⟩
        · intro k a w' hk hC hR
          have r0 : a.tmps[21]?.getD undef = _ := hR 21 (by decide)
          simp [Region.wanted, outOf, go_sem, execOp, r0, upT]
          exact ⟨⟨hC.1.mono (by omega), hC.2⟩, Only.refl _ _, rfl⟩
        · intro k a w' hk hC hR
          have r20 : a.tmps[20]?.getD undef = _ := hR 20 (by decide)
          have r22 : a.tmps[22]?.getD undef = _ := hR 22 (by decide)
          simp [Region.wanted, outOf, go_sem, execOp, r20, r22, upT]
          have hk' : k < 10 := hk
          refine (pick_any g (0 + 400 + 1 + k) l.length (by omega) (by omega) _ hC.1).mono ?_
          rintro e w4 ⟨x, rfl, hx, hr, ho⟩
          exact ⟨_, rfl, ⟨hr, hC.2.trans ho⟩, ho, ⟨x, rfl, by omega⟩⟩
        · intro k a w' hk hC hR
          have r19 : a.tmps[19]?.getD undef = _ := hR 19 (by decide)
          obtain ⟨x, r23, hx⟩ : FNat l.length _ := hR 23 (by decide)
          have x0 : (x : Int) < (l.length : Int) := by omega
          simp [Region.wanted, outOf, go_sem, execOp, r19, r23, ↓IntWalk.iteOmega, x0, upT]
          obtain ⟨b', o', he, h1, _, hc⟩ := (hsl3.only hC.2 (fun y hy => by have := hfb y hy; simp; omega)).getFlat hx
          cases he
          exact ⟨⟨hC.1.mono (by omega), hC.2⟩, Only.refl _ _, ⟨b, o + x * 4, l[x], rfl, hbg, h1, HF.out x hx, hc⟩⟩
        · intro k a w' hk hC hR
          obtain ⟨b', o', r, r24, hb, hlt, hfit, hc⟩ : FRule g _ _ := hR 24 (by decide)
          have c0 := hc.at0
          have c1 := hc.tail.at0
          have c2 := hc.tail.tail.at0
          have c3 := hc.tail.tail.tail.at0
          simp [Region.wanted, outOf, go_sem, execOp, r24, c0, c1, c2, c3, upT]
          exact ⟨⟨hC.1.mono (by omega), hC.2⟩, Only.refl _ _, ⟨r, hfit, rfl⟩⟩
        · intro k a w' hk hC hR
          have r0 : a.tmps[18]?.getD undef = _ := hR 18 (by decide)
          simp [Region.wanted, outOf, go_sem, execOp, r0, upT]
          exact ⟨⟨hC.1.mono (by omega), hC.2⟩, Only.refl _ _, rfl⟩
      · rintro w4 ⟨hr4, ho4⟩
        simp only [List.take_succ_cons, List.take_zero, finT]
        intro v18 _ v19 _ v20 _ v21 _ v22 _ v23 _ v24 _ v25 h25 v2 h2
        obtain ⟨r, hfit, rfl⟩ : ∃ r : Rule, fitRule r ∧ v25 = .agg (encRule r).toArray := h25
        obtain rfl : v2 = _ := h2
        replace k3 := k3.only ho4 (by simp; omega)
        have HW4 := hide (own_only HW3.out ho4 (by omega))
        have hB4 := hB3.trans (ho4.below (B := w.heap.size) (by simp; omega) hB3.size)
        rw [show (encRule r).toArray = #[.int .i64 r.user, .string r.ref, .string r.path, .bool r.write] from rfl]
        have p0 : w4.cell? ⟨w.heap.size, 0, none⟩ = some (.int .i64 0) := k3.cell 0
        have p1 : w4.cell? ⟨w.heap.size, 1, none⟩ = some (.string ⟨#[]⟩) := k3.cell 1
        have p2 : w4.cell? ⟨w.heap.size, 2, none⟩ = some (.string ⟨#[]⟩) := k3.cell 2
        have p3 : w4.cell? ⟨w.heap.size, 3, none⟩ = some (.bool false) := k3.cell 3
        have g0 := k3.frozen 0
        have g1 := k3.frozen 1
        have g2 := k3.frozen 2
        have g3 := k3.frozen 3
        have HO := hide (own_base (own_put (b := w.heap.size) (j := 3) (u := .bool r.write) (own_put (b := w.heap.size) (j := 2) (u := .string r.path) (own_put (b := w.heap.size) (j := 1) (u := .string r.ref) (own_put (b := w.heap.size) (j := 0) (u := .int .i64 r.user) HW4.out (by omega)) (by omega)) (by omega)) (by omega)) (Nat.le_of_lt hg0))
        have HB := hide (below_put4 hB4 (Nat.le_refl _) (.int .i64 r.user) (.string r.ref) (.string r.path) (.bool r.write))
        clear HW4
        go_wp2
        exact bodyPost_ret (v := .tuple #[.slice (some ⟨b, o, none⟩) l.length c', .agg #[.int .i64 r.user, .string r.ref, .string r.path, .bool r.write]]) (by simp [results, Tryd.results10, go_sem, p0, p1, p2, p3]) rfl ⟨_, l, r, rfl, HO.out, HF.out, hl, hfit, HB.out⟩
  · have hl1 : ¬ (0 : Int) < (l.length : Int) := by omega
    obtain ⟨A', c', f, rfl, hs, hfb, hnd, hfr⟩ := own_sl (k := 4) (enc := encRule) (hk := fun _ => rfl) (h1 := encRule_one) HW.out
    clear hs
    go_wp2_with fail
    refine (l20Rule_any g _ 6 (by omega) (by omega) _ hr2).mono ?_
    rintro e w4 ⟨r, rfl, hfit, hr4, ho4⟩
    replace k3 := k3.only ho4 (by simp; omega)
    have HW4 := hide (own_only HW.out ho4 (by omega))
    have hB4 := hB2.trans (ho4.below (B := w.heap.size) (by simp; omega) (hB2).size)
    rw [show (encRule r).toArray = #[.int .i64 r.user, .string r.ref, .string r.path, .bool r.write] from rfl]
    have p0 : w4.cell? ⟨w.heap.size, 0, none⟩ = some (.int .i64 0) := k3.cell 0
    have p1 : w4.cell? ⟨w.heap.size, 1, none⟩ = some (.string ⟨#[]⟩) := k3.cell 1
    have p2 : w4.cell? ⟨w.heap.size, 2, none⟩ = some (.string ⟨#[]⟩) := k3.cell 2
    have p3 : w4.cell? ⟨w.heap.size, 3, none⟩ = some (.bool false) := k3.cell 3
    have g0 := k3.frozen 0
    have g1 := k3.frozen 1
    have g2 := k3.frozen 2
    have g3 := k3.frozen 3
    have HO := hide (own_base (own_put (b := w.heap.size) (j := 3) (u := .bool r.write) (own_put (b := w.heap.size) (j := 2) (u := .string r.path) (own_put (b := w.heap.size) (j := 1) (u := .string r.ref) (own_put (b := w.heap.size) (j := 0) (u := .int .i64 r.user) HW4.out (by omega)) (by omega)) (by omega)) (by omega)) (Nat.le_of_lt hg0))
    have HB := hide (below_put4 hB4 (Nat.le_refl _) (.int .i64 r.user) (.string r.ref) (.string r.path) (.bool r.write))
    clear HW4
    go_wp2
    exact bodyPost_ret (v := .tuple #[.slice A' l.length c', .agg #[.int .i64 r.user, .string r.ref, .string r.path, .bool r.write]]) (by simp [results, Tryd.results10, go_sem, p0, p1, p2, p3]) rfl ⟨_, l, r, rfl, HO.out, HF.out, hl, hfit, HB.out⟩
end Go.Proofs.YthopednilgncgaaDoor
