/- Walks: a rule less; of the reference. -/
import Derived.Test.YtnogkkcmcnhodaaGreatDoorRh
namespace Go.Proofs.YtnogkkcmcnhodaaGreatDoor
open Go.RowKit
attribute [local go_sem ↓] Go.wp_at_zero Go.wp_at_succ

def rulOut (l : List Rule) (r : Rule) : List Rule := l.filter fun x => !decide (x = r)
theorem rulOut_take_yes {l : List Rule} {r : Rule} {k : Nat} (hk : k < l.length) (h : decide (l[k] = r) = false) : rulOut (l.take (k + 1)) r = rulOut (l.take k) r ++ [l[k]] := by
  unfold rulOut
  rw [List.take_succ_eq_append_getElem hk, List.filter_append, List.filter_cons_of_pos (by rw [h]; rfl), List.filter_nil]
theorem rulOut_take_no {l : List Rule} {r : Rule} {k : Nat} (hk : k < l.length) (h : decide (l[k] = r) = true) : rulOut (l.take (k + 1)) r = rulOut (l.take k) r := by
  unfold rulOut
  rw [List.take_succ_eq_append_getElem hk, List.filter_append, List.filter_cons_of_neg (by rw [h]; decide), List.filter_nil, List.append_nil]
theorem rulOut_le (l : List Rule) (r : Rule) (k : Nat) : (rulOut (l.take k) r).length ≤ l.length :=
  Nat.le_trans (List.length_filter_le _ _) (by simp; omega)

theorem own_form {w : World} {base size n : Nat} {e : TypeId} {v : Value} {xs : List Value} (h : w.ownsRow base e size v n xs) : ∃ A c, v = .slice A n c := by
  rcases h.2 with ⟨rfl, rfl⟩ | ⟨g, cap, cur, rfl, _⟩
  · exact ⟨none, 0, rfl⟩
  · exact ⟨_, cap, rfl⟩
theorem own_drewN {w : World} {base size n : Nat} {e : TypeId} {v : Value} {xs : List Value} (h : w.ownsRow base e size v n xs) (q : Nat) : (w.drewN q).ownsRow base e size v n xs := h

set_option maxHeartbeats 2000000 in
set_option maxRecDepth 20000 in
theorem specRulOut_any {A : Option Addr} {n c : Nat} {l : List Rule} {fp : List Nat} (r : Rule) (w : World) (hx : SlR Rp.rule w A n c l fp) (hl : l.length ≤ 4194304) :
    Calls Tryz.prog 128 #[.slice A n c, .agg (encRule r).toArray] w (OwnFB 44 4 encRule w (rulOut l r) (decide ((rulOut l r).length < l.length))) := by
  obtain ⟨rfl, hcx, hmx, _⟩ := id hx
  unfold maxLen at hmx
  rw [show (encRule r).toArray = #[.int .i64 r.user, .string r.ref, .string r.path, .bool r.write] from rfl]
  obtain ⟨i0, hi, hz0, hz1, hz2⟩ := info_parts infoC_Rule
  have hown0 := World.ownsRow_made (base := w.heap.size + 1) (e := 44) (size := 4) (w.alloc (.cells #[.int .i64 r.user, .string r.ref, .string r.path, .bool r.write] 44)) #[] 0 (by simp) (by simp [maxLen]) rfl
  rw [show (w.alloc (.cells #[.int .i64 r.user, .string r.ref, .string r.path, .bool r.write] 44)).heap.size = w.heap.size + 1 by simp] at hown0
  have HO := hide hown0
  clear hown0
  go_enter Tryz.func128, Tryz.ntmps128
  go_wp2
  go_loopw [6, 7] (fun v i wr => ∃ k : Nat, k ≤ l.length ∧ i = .int .i64 k ∧ wr.ownsRow (w.heap.size + 1) 44 4 v (rulOut (l.take k) r).length ((rulOut (l.take k) r).flatMap encRule) ∧ Below (w.alloc (.cells #[.int .i64 r.user, .string r.ref, .string r.path, .bool r.write] 44)).heap.size (w.alloc (.cells #[.int .i64 r.user, .string r.ref, .string r.path, .bool r.write] 44)) wr) (fun _ i _ => l.length - (intOf i).toNat)
  case atStart => exact ⟨0, Nat.zero_le _, rfl, HO.out, (Below.refl _ _).alloc (Nat.le_refl _) _⟩
  case round =>
    obtain ⟨k, hk, rfl, hown, hbl⟩ := hrel
    have kb := (Blk.new w _ _).step hbl
    have hsz := hbl.size
    simp only [World.size_alloc] at hsz
    by_cases hlt : k < l.length
    · obtain ⟨b, o, rfl, hb, hm, h0, h1, h2, h3⟩ := rule_cells ((hx.allocN _).step hbl) hlt
      have hle := rulOut_le l r k
      have c0 : wr.cell? ⟨w.heap.size, 0, none⟩ = some (.int .i64 r.user) := kb.cell 0
      have c1 : wr.cell? ⟨w.heap.size, 1, none⟩ = some (.string r.ref) := kb.cell 1
      have c2 : wr.cell? ⟨w.heap.size, 2, none⟩ = some (.string r.path) := kb.cell 2
      have c3 : wr.cell? ⟨w.heap.size, 3, none⟩ = some (.bool r.write) := kb.cell 3
      have i0' : (0 : Int) ≤ (k : Int) := by omega
      have i1 : (k : Int) < (l.length : Int) := by omega
      have heq := neqRule l[k] r
      have hgd := gdRule
      unfold encRule at heq
      have HW := hide hown
      clear hown
      go_wp2_with fail
      go_quiet (fail)
      clear heq hgd c0 c1 c2 c3 i0' i1 kb
      cases hd : decide (l[k] = r)
      · have HN := hide (rulOut_take_yes hlt hd)
        clear hd
        have HW' := hide (own_drewN HW.out nq)
        have hbl' := Below.drewN' hbl nq
        generalize hwx : wr.drewN nq = wx at HW' hbl' ⊢
        have g0 : wx.cell? ⟨b, o + k * 4, none⟩ = some (.int .i64 l[k].user) := by rw [← hwx]; exact h0
        have g1 : wx.cell? ⟨b, o + k * 4 + 1, none⟩ = some (.string l[k].ref) := by rw [← hwx]; exact h1
        have g2 : wx.cell? ⟨b, o + k * 4 + 2, none⟩ = some (.string l[k].path) := by rw [← hwx]; exact h2
        have g3 : wx.cell? ⟨b, o + k * 4 + 3, none⟩ = some (.bool l[k].write) := by rw [← hwx]; exact h3
        have hsx := hbl'.size
        simp only [World.size_alloc] at hsx
        clear hwx h0 h1 h2 h3 HW
        go_wp2_with (at_builtin; refine wpList_append_own _ rfl _ _ 93 rfl (w.heap.size + 1) 44 i0 _ 4 48 Tryz.underlying93 hi hz0 hz1 hz2 rfl (by decide) _ _ _ rfl (HW'.out.alloc _) ⟨wx.heap.size, 0, none⟩ 1 1 (encRule l[k]) rfl rfl (news_alloc wx (encRule l[k]) _) (Rp.rule.one (w := wx) ⟨rfl, rfl⟩) (by unfold maxLen; omega) (by omega) (by simp; omega) ?_)
        intro v' w5 hown' hgrow _
        go_wp2
        refine ⟨⟨k + 1, by omega, by go_num, ?_, (hbl'.alloc hbl'.size _).grown hgrow (by simp; omega) (fun j hj => by have := (HW'.out.lt j hj).1; simp; omega)⟩, by simp [intOf]; omega⟩
        rw [HN.out, List.length_append, List.flatMap_append, List.flatMap_singleton]
        exact hown'
      · have HN := hide (rulOut_take_no hlt hd)
        clear hd
        go_wp2
        refine ⟨⟨k + 1, by omega, by go_num, ?_, Below.drewN' hbl _⟩, by simp [intOf]; omega⟩
        rw [HN.out]
        exact HW.out
    · have hk' : k = l.length := by omega
      subst hk'
      rw [List.take_of_length_le (Nat.le_refl _)] at hown
      obtain ⟨A1, c1, rfl⟩ := own_form hown
      have HW := hide hown
      clear hown
      go_wp2
      go_ret2
      refine ⟨.slice A1 (rulOut l r).length c1, ?_, own_base HW.out (by omega), Below.box1 hbl⟩
      rw [show decide ((rulOut l r).length < l.length) = decide (((rulOut l r).length : Int) < (l.length : Int)) from decide_eq_decide.2 (by omega)]
      rfl
end Go.Proofs.YtnogkkcmcnhodaaGreatDoor
