/- Walks: rules are drawn. -/
import Derived.Test.YthopednilgncgaaDoorDc
import Derived.Test.YthopednilgncgaaDoorRh
import Derived.Test.YthopednilgncgaaDoorOw
namespace Go.Proofs.YthopednilgncgaaDoor
open Go.RowKit
attribute [local go_sem ↓] Go.wp_at_zero Go.wp_at_succ

theorem fitRules_iff {l : List Rule} : fitRules l ↔ ∀ r ∈ l, fitRule r := ⟨fun h r hr => by
  obtain ⟨i, hi, rfl⟩ := List.mem_iff_getElem.1 hr
  exact h i hi, fun h i hi => h _ (List.getElem_mem hi)⟩
theorem own_only {w w1 : World} {base size n g : Nat} {e : TypeId} {v : Value} {xs : List Value} (h : w.ownsRow base e size v n xs) (hb : Only [g] w w1) (hg : g < base) : w1.ownsRow base e size v n xs :=
  ⟨h.1, h.2.elim Or.inl (fun ⟨k, cap, cur, hv, hk, hc, r⟩ => Or.inr ⟨k, cap, cur, hv, hk, (hb.block k (Array.getElem?_eq_some_iff.1 hc).1 (by simp; omega)).trans hc, r⟩)⟩
theorem rulPut_length {l : List Rule} {r : Rule} (h : l.length ≤ 6) : (rulPut l r).length ≤ 6 := by
  unfold rulPut
  split
  · rename_i hp
    simp only [putOk, Bool.and_eq_true, Bool.not_eq_true', decide_eq_false_iff_not] at hp
    have := hp.1.2
    simp; omega
  · exact h
theorem rulPut_fit {l : List Rule} {r : Rule} (h : fitRules l) (hr : fitRule r) : fitRules (rulPut l r) := by
  rw [fitRules_iff] at *
  unfold rulPut
  split
  · intro x hx
    rcases List.mem_append.1 hx with hx | hx
    · exact h x hx
    · rw [List.mem_singleton.1 hx]; exact hr
  · exact h
theorem Rd.below {w w1 : World} {g P B : Nat} (h : Rd w g P) (hb : Below B w w1) (hg : g < B) : Rd w1 g P := by
  obtain ⟨A, n, c, l, fp, p, h1, h2, h3, h4⟩ := h.ex
  exact ⟨A, n, c, l, fp, p, (hb.block g hg).trans h1, h2.keep fun x hx => hb.block x (Nat.lt_trans (h3 x hx) hg), h3, h4⟩
theorem Only.then_low {w w1 w2 : World} {f : List Nat} (h : Only f w w1) (k : Below w.heap.size w1 w2) : Only f w w2 := h.step k.os k.tape k.output k.size fun i hi _ => k.block i hi
theorem fitRules_snoc {l : List Rule} {r : Rule} (h : fitRules l) (hr : fitRule r) : fitRules (l ++ [r]) := by
  rw [fitRules_iff] at *
  intro x hx
  rcases List.mem_append.1 hx with hx | hx
  · exact h x hx
  · rw [List.mem_singleton.1 hx]; exact hr
theorem own_snoc {w : World} {base k : Nat} {e : TypeId} {v : Value} {α : Type} {enc : α → List Value} {l : List α} {x : α} (h : w.ownsRow base e k v (l.length + 1) (l.flatMap enc ++ enc x)) : w.ownsRow base e k v (l ++ [x]).length ((l ++ [x]).flatMap enc) := by
  rw [List.length_append, List.flatMap_append, List.flatMap_singleton]; exact h

/-- Rules are drawn. -/
def DrRules (g P : Nat) (w : World) (e : Ending) (w' : World) : Prop :=
  ∃ v l, e = .returned v ∧ w'.ownsRow w.heap.size 25 4 v l.length (l.flatMap encRule) ∧ fitRules l ∧ l.length ≤ 8 ∧ Rd w' g P ∧ Only [g] w w'

set_option maxHeartbeats 4000000 in
set_option maxRecDepth 20000 in
theorem l20Rules_any (g P : Nat) (n : Int) (hn : n ≤ 1000) (hP : P + 400 ≤ 1000000) (w : World) (h : Rd w g P) :
    Calls Tryd.prog 41 #[.pointer (some ⟨g, 0, none⟩), .int .i64 n] w (DrRules g (P + 400) w) := by
  have hg := h.lt
  obtain ⟨i0, hi, hz0, hz1, hz2⟩ := info_parts infoC_Rule
  have HO := hide (World.ownsRow_made (base := w.heap.size) (e := 25) (size := 4) w #[] 0 (Nat.le_refl _) (by simp [maxLen]) rfl)
  go_enter Tryd.func41, Tryd.ntmps41
  go_wp2_with fail
  refine (pick_any g P 7 (by omega) (by omega) _ (h.step ((Below.refl _ _).alloc (Nat.le_refl _) _))).mono ?_
  rintro e w1 ⟨j0, rfl, hj0, hr1, ho1⟩
  have HW := hide (own_only HO.out ho1 hg)
  have ho := Only.box ho1
  clear HO ho1
  go_wp2
  go_loopw [5, 6] (fun v kv wr => ∃ (j : Nat) (l : List Rule), kv = .int .i64 (j : Int) ∧ j ≤ 6 ∧ wr.ownsRow w.heap.size 25 4 v l.length (l.flatMap encRule) ∧ fitRules l ∧ l.length ≤ 6 ∧ Rd wr g (P + 1 + 40 * (6 - j)) ∧ Only [g] w wr) (fun _ i _ => (intOf i).toNat)
  case atStart => exact ⟨j0, [], rfl, by omega, HW.out, fun i hi => absurd hi (by simp), by simp, hr1.mono (by omega), ho⟩
  case round =>
    obtain ⟨j, l, rfl, hj, hown, hfit, hl, hr, hor⟩ := hrel
    have HW1 := hide hown
    have HF := hide hfit
    clear hown hfit HW hr1 ho hj0
    by_cases hlt : 0 < j
    · have hlt' : (0 : Int) < (j : Int) := by omega
      go_wp2_with fail
      refine (l20Rule_any g (P + 1 + 40 * (6 - j)) 99 (by omega) (by omega) _ hr).mono ?_
      rintro e w2 ⟨r, rfl, hrf, hr2, ho2⟩
      have HR := hide hrf
      obtain ⟨A, c, f, rfl, hs, hfb, _, _⟩ := own_sl (k := 4) (enc := encRule) (hk := fun _ => rfl) (h1 := encRule_one) (own_only HW1.out ho2 hg)
      have HW2 := hide (own_only HW1.out ho2 hg)
      clear hrf HW1
      go_wp2_with fail
      refine (specRulPut_any r _ hs (by omega) HF.out HR.out).mono ?_
      rintro e w3 ⟨v, rfl, hown3, hb3⟩
      have HW3 := hide (own_base hown3 (Nat.le_trans hor.size ho2.size))
      have HW2' := hide (own_step HW2.out hb3)
      have hr3 := hr2.step hb3
      have ho3 := (hor.trans ho2).then_below hb3
      have HFP := hide (rulPut_fit HF.out HR.out)
      have hlp := rulPut_length (r := r) hl
      clear hown3 HW2 hr2 ho2 hb3 hs hfb
      cases hp : putOk l r
      · go_wp2
        exact ⟨⟨j - 1, l, by go_num, by omega, HW2'.out, HF.out, hl, hr3.mono (by omega), ho3⟩, by simp [intOf]; omega⟩
      · go_wp2
        exact ⟨⟨j - 1, rulPut l r, by go_num, by omega, HW3.out, HFP.out, hlp, hr3.mono (by omega), ho3⟩, by simp [intOf]; omega⟩
    · have hlt' : ¬ (0 : Int) < (j : Int) := by omega
      go_wp2_with fail
      refine (pick_any g (P + 1 + 40 * (6 - j)) n (by omega) (by omega) _ hr).mono ?_
      rintro e w2 ⟨x, rfl, hx, hr2, ho2⟩
      have HW2 := hide (own_only HW1.out ho2 hg)
      have ho2' := hor.trans ho2
      clear HW1 ho2 hx
      cases hx0 : ((x : Int) == 0)
      · go_wp2
        go_ret
        exact ⟨_, l, rfl, HW2.out, HF.out, by omega, hr2.mono (by omega), ho2'⟩
      · go_wp2_with fail
        refine (l20Rule_any g (P + 1 + 40 * (6 - j) + 1) 2 (by omega) (by omega) _ hr2).mono ?_
        rintro e w3 ⟨r, rfl, hrf, hr3, ho3⟩
        have HR := hide hrf
        have hown3 := own_only HW2.out ho3 hg
        have hor3 := ho2'.trans ho3
        have hsz := hor3.size
        have hbA := (Below.refl w.heap.size w3).alloc hsz (.cells (encRule r).toArray 25)
        rw [show (encRule r).toArray = #[.int .i64 r.user, .string r.ref, .string r.path, .bool r.write] from rfl]
        clear hrf HW2 ho3 ho2' hr2
        go_wp2_with (at_builtin; refine wpList_append_own _ rfl _ _ 23 rfl w.heap.size 25 i0 _ 4 48 Tryd.underlying23 hi hz0 hz1 hz2 rfl (by decide) _ _ _ rfl (hown3.alloc _) ⟨w3.heap.size, 0, none⟩ 1 1 (encRule r) rfl rfl (news_alloc w3 (encRule r) _) (Rp.rule.one (w := w3) ⟨rfl, rfl⟩) (by unfold maxLen; omega) (by omega) (by simp; omega) ?_)
        intro v4 w4 hown4 hgrow _
        have hlow : Below w.heap.size w3 w4 := hbA.grown hgrow (by simp; omega) (fun j hj => (hown3.lt j hj).1)
        have hr4 := hr3.below hlow hg
        have ho4 := hor3.then_low hlow
        have HW4 := hide (own_snoc hown4)
        have HF4 := hide (fitRules_snoc HF.out HR.out)
        have hl4 : (l ++ [r]).length ≤ 7 := by simp; omega
        have hl5 : 0 < (l ++ [r]).length := by simp
        generalize l ++ [r] = l4 at HW4 HF4 hl4 hl5
        clear hown4 hgrow hlow hr3 hor3 hown3 hbA hsz HR
        go_wp2_with fail
        refine (pick_any g (P + 1 + 40 * (6 - j) + 1 + 30) 2 (by omega) (by omega) _ hr4).mono ?_
        rintro e w5 ⟨y, rfl, hy, hr5, ho5⟩
        have HW5 := hide (own_only HW4.out ho5 hg)
        have ho5' := ho4.trans ho5
        clear HW4 ho5 hy hr4 ho4
        cases hy0 : ((y : Int) == 0)
        · go_wp2
          go_ret
          exact ⟨_, l4, rfl, HW5.out, HF4.out, by omega, hr5.mono (by omega), ho5'⟩
        · obtain ⟨A, c, f, rfl, hs, hfb, _, _⟩ := own_sl (k := 4) (enc := encRule) (hk := fun _ => rfl) (h1 := encRule_one) HW5.out
          obtain ⟨b, o, rfl, hb, hm, q0, q1, q2, q3⟩ := rule_cells hs hl5
          simp only [Nat.zero_mul, Nat.add_zero] at q0 q1 q2 q3
          have HR := hide (HF4.out 0 hl5)
          have hl6 : (0 : Int) < (l4.length : Int) := by omega
          have hsz := ho5'.size
          have hbA := (Below.refl w.heap.size w5).alloc hsz (.cells (encRule l4[0]).toArray 25)
          have hown5 := HW5.out
          have HOWN := hide hown5
          clear hs hfb hm hown5 HW5
          go_wp2_with (at_builtin; refine wpList_append_own _ rfl _ _ 23 rfl w.heap.size 25 i0 _ 4 48 Tryd.underlying23 hi hz0 hz1 hz2 rfl (by decide) _ _ _ rfl (HOWN.out.alloc _) ⟨w5.heap.size, 0, none⟩ 1 1 (encRule l4[0]) rfl rfl (news_alloc w5 (encRule l4[0]) _) (Rp.rule.one (w := w5) ⟨rfl, rfl⟩) (by unfold maxLen; omega) (by omega) (by simp; omega) ?_)
          intro v6 w6 hown6 hgrow _
          have hlow : Below w.heap.size w5 w6 := hbA.grown hgrow (by simp; omega) (fun j hj => (HOWN.out.lt j hj).1)
          have HW6 := hide (own_snoc hown6)
          clear hown6 hgrow
          go_wp2
          go_ret
          exact ⟨_, l4 ++ [l4[0]], rfl, HW6.out, fitRules_snoc HF4.out HR.out, by simp; omega, (hr5.below hlow hg).mono (by omega), ho5'.then_low hlow⟩
end Go.Proofs.YthopednilgncgaaDoor
