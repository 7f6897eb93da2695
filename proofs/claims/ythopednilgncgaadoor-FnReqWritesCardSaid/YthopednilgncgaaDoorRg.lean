/- Walks: a rule more; of the reference and of the program. -/
import Derived.Test.YthopednilgncgaaDoorRf
namespace Go.Proofs.YthopednilgncgaaDoor
open Go.RowKit
attribute [local go_sem ↓] Go.wp_at_zero Go.wp_at_succ

def putOk (l : List Rule) (r : Rule) : Bool := rulListOk l && rulOk r && !(decide (l.length = 6)) && !(l.any fun x => decide (x = r))
def rulPut (l : List Rule) (r : Rule) : List Rule := if putOk l r then l ++ [r] else l
/-- Two results: a slice of rules that the call owns, and a Bool. -/
def OwnFB {α : Type} (t : TypeId) (k : Nat) (enc : α → List Value) (w : World) (l : List α) (b : Bool) (e : Ending) (w' : World) : Prop :=
  ∃ v, e = .returned (.tuple #[v, .bool b]) ∧ w'.ownsRow w.heap.size t k v l.length (l.flatMap enc) ∧ Below w.heap.size w w'

theorem own_base {w : World} {base base' size n : Nat} {e : TypeId} {v : Value} {xs : List Value} (h : w.ownsRow base e size v n xs) (hb : base' ≤ base) : w.ownsRow base' e size v n xs :=
  ⟨h.1, h.2.elim Or.inl (fun ⟨g, cap, cur, hv, hg, r⟩ => Or.inr ⟨g, cap, cur, hv, Nat.le_trans hb hg, r⟩)⟩
theorem own_step {w w1 : World} {base size n : Nat} {e : TypeId} {v : Value} {xs : List Value} (h : w.ownsRow base e size v n xs) (hb : Below w.heap.size w w1) : w1.ownsRow base e size v n xs :=
  ⟨h.1, h.2.elim Or.inl (fun ⟨g, cap, cur, hv, hg, hc, r⟩ => Or.inr ⟨g, cap, cur, hv, hg, (hb.block g (Array.getElem?_eq_some_iff.1 hc).1).trans hc, r⟩)⟩

set_option maxHeartbeats 2000000 in
set_option maxRecDepth 20000 in
theorem implRulPut_any {A : Option Addr} {n c : Nat} {l : List Rule} {fp : List Nat} (r : Rule) (w : World) (hx : SlR Rp.rule w A n c l fp) (hl : l.length ≤ 4194304) (hr : fitRules l) (hf : fitRule r) :
    Calls Tryd.prog 19 #[.slice A n c, .agg (encRule r).toArray] w (OwnFB 25 4 encRule w (rulPut l r) (putOk l r)) := by
  have hn := hx.1
  subst hn
  have HR := hide hr
  have HF := hide hf
  have C1 := implRulOk_any r HF.out
  have C2 := fun W (h : SlR Rp.rule W A l.length c l fp) => hasEqRule_any r W h
  unfold encRule at C1 C2
  have D1 := hide C1
  have D2 := hide C2
  clear hr hf C1 C2
  rw [show (encRule r).toArray = #[.int .i64 r.user, .string r.ref, .string r.path, .bool r.write] from rfl]
  go_enter Tryd.func19, Tryd.ntmps19
  go_wp2_with fail
  refine (cloneRules_any _ (hx.allocN _) hl).mono ?_
  rintro e w1 ⟨v, rfl, hown, hb1⟩
  have k1 := (Blk.new w _ _).step hb1
  have hx1 := (hx.allocN _).step hb1
  have HB1 := Below.box1 hb1
  clear hb1 hx
  go_wp2_with fail
  refine (implRulListOk_any _ hx1 HR.out).mono ?_
  rintro e w2 ⟨rfl, hb2⟩
  have hown2 := own_step (own_base hown (show w.heap.size ≤ _ by simp)) hb2
  have k2 := k1.step hb2
  have hx2 := hx1.step hb2
  have HB2 := Below.then_ HB1 hb2
  clear hb2 hown k1 hx1 HB1
  cases hd : rulListOk l
  · have HP := hide (show putOk l r = false by simp [putOk, hd])
    clear hd
    go_wp2
    go_ret2
    refine ⟨v, ?_, ?_, HB2⟩
    · rw [HP.out]; rfl
    · rw [show rulPut l r = l by unfold rulPut; rw [HP.out]; rfl]; exact hown2
  · have H1 := hide hd
    clear hd
    have c0 : w2.cell? ⟨w.heap.size, 0, none⟩ = some (.int .i64 r.user) := k2.cell 0
    have c1 : w2.cell? ⟨w.heap.size, 1, none⟩ = some (.string r.ref) := k2.cell 1
    have c2 : w2.cell? ⟨w.heap.size, 2, none⟩ = some (.string r.path) := k2.cell 2
    have c3 : w2.cell? ⟨w.heap.size, 3, none⟩ = some (.bool r.write) := k2.cell 3
    go_wp2_with fail
    refine (D1.out _).mono ?_
    rintro e w3 ⟨rfl, hb3⟩
    have hown3 := own_step hown2 hb3
    have k3 := k2.step hb3
    have hx3 := hx2.step hb3
    have HB3 := Below.then_ HB2 hb3
    clear hb3 hown2 k2 hx2 HB2 c0 c1 c2 c3
    cases hd : rulOk r
    · have HP := hide (show putOk l r = false by simp [putOk, hd])
      clear hd
      go_wp2
      go_ret2
      refine ⟨v, ?_, ?_, HB3⟩
      · rw [HP.out]; rfl
      · rw [show rulPut l r = l by unfold rulPut; rw [HP.out]; rfl]; exact hown3
    · have H2 := hide hd
      clear hd
      have c0 : w3.cell? ⟨w.heap.size, 0, none⟩ = some (.int .i64 r.user) := k3.cell 0
      have c1 : w3.cell? ⟨w.heap.size, 1, none⟩ = some (.string r.ref) := k3.cell 1
      have c2 : w3.cell? ⟨w.heap.size, 2, none⟩ = some (.string r.path) := k3.cell 2
      have c3 : w3.cell? ⟨w.heap.size, 3, none⟩ = some (.bool r.write) := k3.cell 3
      cases hq : ((l.length : Int) == 6)
      · have H3 := hide (show decide (l.length = 6) = false by simp at hq; exact decide_eq_false (by omega))
        go_wp2_with fail
        refine (D2.out _ hx3).mono ?_
        rintro e w4 ⟨rfl, hb4⟩
        have hown4 := own_step hown3 hb4
        have k4 := k3.step hb4
        have HB4 := Below.then_ HB3 hb4
        clear hb4 hown3 k3 hx3 HB3 c0 c1 c2 c3 hq
        cases hd : l.any fun x => decide (x = r)
        · have HP := hide (show putOk l r = true by unfold putOk; rw [H1.out, H2.out, H3.out, hd]; rfl)
          clear hd
          obtain ⟨i0, hi, hz0, hz1, hz2⟩ := info_parts infoC_Rule
          have c0 : w4.cell? ⟨w.heap.size, 0, none⟩ = some (.int .i64 r.user) := k4.cell 0
          have c1 : w4.cell? ⟨w.heap.size, 1, none⟩ = some (.string r.ref) := k4.cell 1
          have c2 : w4.cell? ⟨w.heap.size, 2, none⟩ = some (.string r.path) := k4.cell 2
          have c3 : w4.cell? ⟨w.heap.size, 3, none⟩ = some (.bool r.write) := k4.cell 3
          go_wp2_with (at_builtin; refine wpList_append_own _ rfl _ _ 23 rfl w.heap.size 25 i0 _ 4 48 Tryd.underlying23 hi hz0 hz1 hz2 rfl (by decide) _ _ _ rfl (hown4.alloc _) ⟨w4.heap.size, 0, none⟩ 1 1 (encRule r) rfl rfl (news_alloc w4 (encRule r) _) (Rp.rule.one (w := w4) ⟨rfl, rfl⟩) (by unfold maxLen; omega) (by omega) (by have := HB4.size; simp; omega) ?_)
          intro v' w5 hown' hgrow _
          go_wp2
          go_ret2
          refine ⟨v', ?_, ?_, (HB4.alloc HB4.size _).grown hgrow (by have := HB4.size; simp; omega) (fun j hj => (hown4.lt j hj).1)⟩
          · rw [HP.out]; rfl
          · rw [show rulPut l r = l ++ [r] by unfold rulPut; rw [HP.out]; rfl, List.length_append, List.flatMap_append, List.flatMap_singleton]; exact hown'
        · have HP := hide (show putOk l r = false by unfold putOk; rw [hd]; simp)
          clear hd
          go_wp2
          go_ret2
          refine ⟨v, ?_, ?_, HB4⟩
          · rw [HP.out]; rfl
          · rw [show rulPut l r = l by unfold rulPut; rw [HP.out]; rfl]; exact hown4
      · have HP := hide (show putOk l r = false by simp at hq; simp [putOk, show l.length = 6 by omega])
        go_wp2
        go_ret2
        refine ⟨v, ?_, ?_, HB3⟩
        · rw [HP.out]; rfl
        · rw [show rulPut l r = l by unfold rulPut; rw [HP.out]; rfl]; exact hown3
end Go.Proofs.YthopednilgncgaaDoor
