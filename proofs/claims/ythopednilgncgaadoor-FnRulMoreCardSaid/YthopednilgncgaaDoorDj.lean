/- Walks: rules, and what is asked of them, are drawn. By program (wip/gen/gen_dj.py). -/
import Derived.Test.YthopednilgncgaaDoorDh
namespace Go.Proofs.YthopednilgncgaaDoor
open Go.RowKit
attribute [local go_sem ↓] Go.wp_at_zero Go.wp_at_succ

def FRules (B : Nat) (v : Value) (w : World) : Prop := ∃ l : List Rule, w.ownsRow B 25 4 v l.length (l.flatMap encRule) ∧ fitRules l ∧ l.length ≤ 8
theorem FRules.only {g B : Nat} {v : Value} {w w' : World} (h : FRules B v w) (ho : Only [g] w w') (hg : g < B) : FRules B v w' := by
  obtain ⟨l, h1, h2, h3⟩ := h
  exact ⟨l, own_only h1 ho hg, h2, h3⟩
def mayΓ (g B : Nat) : Facts := fun t v w => match t with
  | 7 => FPtr g v
  | 10 => FPtr g v
  | 11 => FRules B v w
  | 12 => FPtr g v
  | 13 => FNat 5 v
  | 14 => FStrs g [⟨#[97]⟩, ⟨#[98]⟩, ⟨#[99]⟩, ByteArray.empty] v w
  | 15 => FPtr g v
  | 16 => FNat 4 v
  | 17 => FCell g 11 v w
  | 18 => FStr 11 v
  | 19 => FPtr g v
  | 20 => FStr 11 v
  | 21 => FPtr g v
  | 22 => FNat 2 v
  | 23 => ∃ b, v = .bool b
  | 2 => FRules B v w
  | 3 => FNat 5 v
  | 4 => FStr 11 v
  | 5 => FStr 11 v
  | 6 => ∃ b, v = .bool b
  | _ => True
theorem mayΓ_stays (g B : Nat) (hg : g < B) : Stays (Only [g]) (mayΓ g B) := fun t v w w' h ho => by
  unfold mayΓ at *
  split at h <;> first | exact h | exact FRules.only h ho hg | exact FStrs.only h ho | exact FCell.only h ho
/-- Rules, a user, a ref, a path, and whether it is to write, are drawn. -/
def DrMay (w : World) (e : Ending) (w' : World) : Prop :=
  ∃ v l u ref path wr, e = .returned (.tuple #[v, .int .i64 u, .string ref, .string path, .bool wr]) ∧ w'.ownsRow w.heap.size 25 4 v l.length (l.flatMap encRule) ∧ fitRules l ∧ l.length ≤ 8 ∧ ref.size ≤ 11 ∧ path.size ≤ 11 ∧ Below w.heap.size w w'

set_option maxHeartbeats 4000000 in
set_option maxRecDepth 20000 in
theorem drawRulMay_any {A : Option Addr} {n c : Nat} {l : List UInt8} {fp : List Nat} (w : World) (hx : SlR Rp.byte w A n c l fp) :
    Calls Tryd.prog 18 #[.slice A n c] w (DrMay w) := by
  go_enter Tryd.func18, Tryd.ntmps18
  go_wp2_with fail
  refine (l20Open_any _ hx).mono ?_
  rintro e w1 ⟨g, rfl, hg, hr1, hb1⟩
  have hg0 := hr1.lt
  clear hx
  go_wp2_with fail
  refine wp_region_typed (fun k w' => Rd w' g (0 + 500 * k) ∧ Only [g] w1 w') (Only [g]) (mayΓ g w1.heap.size) (by kernel_rfl) (by kernel_rfl) (mayΓ_stays _ _ hg0) (Only.refl _) ⟨⟨(hr1.step (Below.refl _ _).drew).mono (by omega), Only.of_below ((Below.refl _ _).drew) _⟩, fun s hs => ?_, by rfl⟩ ?_ ?_
  · by_cases e4 : s = 7
    · subst e4; rfl
    · have hne : s ∉ [10, 11, 12, 13, 14, 15, 16, 17, 18, 19, 20, 21, 22, 23, 2, 3, 4, 5, 6] := fun hm => by
        simp only [List.mem_cons, List.not_mem_nil, or_false] at hm
        rcases hm with rfl | rfl | rfl | rfl | rfl | rfl | rfl | rfl | rfl | rfl | rfl | rfl | rfl | rfl | rfl | rfl | rfl | rfl | rfl <;> exact absurd hs (by decide)
      simp only [List.mem_cons, List.not_mem_nil, or_false, not_or] at hne
      unfold mayΓ
      split <;> first | trivial | (exfalso; omega)
  · intro p hp
    simp only [List.mem_cons, List.not_mem_nil, or_false] at hp
    rcases hp with rfl | rfl | rfl | rfl | rfl | rfl | rfl | rfl | rfl | rfl | rfl | rfl | rfl | rfl | rfl | rfl | rfl | rfl | rfl
    · intro k a w' hk hC hR
      have r7 : a.tmps[7]?.getD undef = _ := hR 7 (by decide)
      simp [Region.wanted, outOf, go_sem, execOp, r7, upT]
      exact ⟨⟨hC.1.mono (by omega), hC.2⟩, Only.refl _ _, rfl⟩
    · intro k a w' hk hC hR
      have r10 : a.tmps[10]?.getD undef = _ := hR 10 (by decide)
      simp [Region.wanted, outOf, go_sem, execOp, r10, upT]
      have hk' : k < 19 := hk
      refine (l20Rules_any g (0 + 500 * k) 9 (by omega) (by omega) _ hC.1).mono ?_
      rintro e w4 ⟨v, l, rfl, hown, hfit, hl, hr, ho⟩
      exact ⟨_, rfl, ⟨hr.mono (by omega), hC.2.trans ho⟩, ho, ⟨l, own_base hown hC.2.size, hfit, hl⟩⟩
    · intro k a w' hk hC hR
      have r7 : a.tmps[7]?.getD undef = _ := hR 7 (by decide)
      simp [Region.wanted, outOf, go_sem, execOp, r7, upT]
      exact ⟨⟨hC.1.mono (by omega), hC.2⟩, Only.refl _ _, rfl⟩
    · intro k a w' hk hC hR
      have r12 : a.tmps[12]?.getD undef = _ := hR 12 (by decide)
      simp [Region.wanted, outOf, go_sem, execOp, r12, upT]
      have hk' : k < 19 := hk
      refine (pick_any g _ 5 (by omega) (by omega) _ hC.1).mono ?_
      rintro e w4 ⟨x, rfl, hx, hr, ho⟩
      exact ⟨_, rfl, ⟨hr.mono (by omega), hC.2.trans ho⟩, ho, ⟨x, rfl, by omega⟩⟩
    · intro k a w' hk hC hR
      simp [Region.wanted, outOf, go_sem, execOp, upT]
      have hg' := hC.1.lt
      exact ⟨⟨(hC.1.step ((Below.refl _ _).alloc (Nat.le_refl _) _)).mono (by omega), hC.2.alloc _⟩, (Only.refl _ _).alloc _, ⟨_, rfl, by omega, Blk.new _ _ _⟩⟩
    · intro k a w' hk hC hR
      have r7 : a.tmps[7]?.getD undef = _ := hR 7 (by decide)
      simp [Region.wanted, outOf, go_sem, execOp, r7, upT]
      exact ⟨⟨hC.1.mono (by omega), hC.2⟩, Only.refl _ _, rfl⟩
    · intro k a w' hk hC hR
      have r15 : a.tmps[15]?.getD undef = _ := hR 15 (by decide)
      simp [Region.wanted, outOf, go_sem, execOp, r15, upT]
      have hk' : k < 19 := hk
      refine (pick_any g _ 4 (by omega) (by omega) _ hC.1).mono ?_
      rintro e w4 ⟨x, rfl, hx, hr, ho⟩
      exact ⟨_, rfl, ⟨hr.mono (by omega), hC.2.trans ho⟩, ho, ⟨x, rfl, by omega⟩⟩
    · intro k a w' hk hC hR
      obtain ⟨b, r14, hb, hB⟩ : FStrs g _ _ _ := hR 14 (by decide)
      obtain ⟨x, r16, hx⟩ : FNat 4 _ := hR 16 (by decide)
      have x0 : (x : Int) < 4 := by omega
      simp [Region.wanted, outOf, go_sem, execOp, r14, r16, ↓IntWalk.iteOmega, x0, upT]
      obtain ⟨s, hs, hz⟩ := lit_str (k := 11) (x := x) hB (Only.refl [g] _) hb (by simpa using hx) (by decide)
      exact ⟨⟨hC.1.mono (by omega), hC.2⟩, Only.refl _ _, ⟨b, x, s, rfl, hb, hB.lt, hs, hz⟩⟩
    · intro k a w' hk hC hR
      obtain ⟨b, x, s, r17, hb, hlt, hc, hz⟩ : FCell g 11 _ _ := hR 17 (by decide)
      simp [Region.wanted, outOf, go_sem, execOp, r17, hc, upT]
      exact ⟨⟨hC.1.mono (by omega), hC.2⟩, Only.refl _ _, ⟨s, rfl, hz⟩⟩
    · intro k a w' hk hC hR
      have r7 : a.tmps[7]?.getD undef = _ := hR 7 (by decide)
      simp [Region.wanted, outOf, go_sem, execOp, r7, upT]
      exact ⟨⟨hC.1.mono (by omega), hC.2⟩, Only.refl _ _, rfl⟩
    · intro k a w' hk hC hR
      have r19 : a.tmps[19]?.getD undef = _ := hR 19 (by decide)
      simp [Region.wanted, outOf, go_sem, execOp, r19, upT]
      have hk' : k < 19 := hk
      refine (l20AnyPath_any g (0 + 500 * k) 9 (by omega) (by omega) _ hC.1).mono ?_
      rintro e w4 ⟨u, rfl, huz, hr, ho⟩
      exact ⟨_, rfl, ⟨hr.mono (by omega), hC.2.trans ho⟩, ho, ⟨u, rfl, huz⟩⟩
    · intro k a w' hk hC hR
      have r7 : a.tmps[7]?.getD undef = _ := hR 7 (by decide)
      simp [Region.wanted, outOf, go_sem, execOp, r7, upT]
      exact ⟨⟨hC.1.mono (by omega), hC.2⟩, Only.refl _ _, rfl⟩
    · intro k a w' hk hC hR
      have r21 : a.tmps[21]?.getD undef = _ := hR 21 (by decide)
      simp [Region.wanted, outOf, go_sem, execOp, r21, upT]
      have hk' : k < 19 := hk
      refine (pick_any g _ 2 (by omega) (by omega) _ hC.1).mono ?_
      rintro e w4 ⟨x, rfl, hx, hr, ho⟩
      exact ⟨_, rfl, ⟨hr.mono (by omega), hC.2.trans ho⟩, ho, ⟨x, rfl, by omega⟩⟩
    · intro k a w' hk hC hR
      obtain ⟨x, r22, hx⟩ : FNat 2 _ := hR 22 (by decide)
      simp [Region.wanted, outOf, go_sem, execOp, r22, upT]
      exact ⟨⟨hC.1.mono (by omega), hC.2⟩, Only.refl _ _, ⟨_, rfl⟩⟩
    · intro k a w' hk hC hR
      have h0 : FRules w1.heap.size _ _ := hR 11 (by decide)
      simp [Region.wanted, outOf, go_sem, execOp, upT]
      exact ⟨⟨hC.1.mono (by omega), hC.2⟩, Only.refl _ _, h0⟩
    · intro k a w' hk hC hR
      have h0 : FNat 5 _ := hR 13 (by decide)
      simp [Region.wanted, outOf, go_sem, execOp, upT]
      exact ⟨⟨hC.1.mono (by omega), hC.2⟩, Only.refl _ _, h0⟩
    · intro k a w' hk hC hR
      have h0 : FStr 11 _ := hR 18 (by decide)
      simp [Region.wanted, outOf, go_sem, execOp, upT]
      exact ⟨⟨hC.1.mono (by omega), hC.2⟩, Only.refl _ _, h0⟩
    · intro k a w' hk hC hR
      have h0 : FStr 11 _ := hR 20 (by decide)
      simp [Region.wanted, outOf, go_sem, execOp, upT]
      exact ⟨⟨hC.1.mono (by omega), hC.2⟩, Only.refl _ _, h0⟩
    · intro k a w' hk hC hR
      have h0 : ∃ b, _ = Value.bool b := hR 23 (by decide)
      simp [Region.wanted, outOf, go_sem, execOp, upT]
      exact ⟨⟨hC.1.mono (by omega), hC.2⟩, Only.refl _ _, h0⟩
  · rintro w4 ⟨hr4, ho4⟩
    simp only [finT]
    intro v10 _ v11 _ v12 _ v13 _ v14 _ v15 _ v16 _ v17 _ v18 _ v19 _ v20 _ v21 _ v22 _ v23 _ v2 h2 v3 h3 v4 h4 v5 h5 v6 h6
    obtain ⟨l2, hown, hfit, hl⟩ : FRules w1.heap.size v2 w4 := h2
    obtain ⟨u3, rfl, _⟩ : FNat 5 v3 := h3
    obtain ⟨s4, rfl, hz4⟩ : FStr 11 v4 := h4
    obtain ⟨s5, rfl, hz5⟩ : FStr 11 v5 := h5
    obtain ⟨b6, rfl⟩ : ∃ b, v6 = Value.bool b := h6
    have HO := hide (own_base hown hb1.size)
    have HB := hide (hb1.trans (ho4.below (B := w.heap.size) (by simpa using hg) hb1.size))
    have HF := hide hfit
    clear hown hfit
    go_wp2
    exact bodyPost_ret (v := .tuple #[v2, .int .i64 (u3 : Int), .string s4, .string s5, .bool b6]) (by simp [results, Tryd.results18, go_sem]) rfl ⟨_, l2, _, s4, s5, b6, rfl, HO.out, HF.out, hl, hz4, hz5, HB.out⟩
end Go.Proofs.YthopednilgncgaaDoor
