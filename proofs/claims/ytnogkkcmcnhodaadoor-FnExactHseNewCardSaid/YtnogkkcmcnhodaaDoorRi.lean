/- Walks: a rule less; of the reference. -/
import Derived.Test.YtnogkkcmcnhodaaDoorRh
namespace Go.Proofs.YtnogkkcmcnhodaaDoor
open Go.RowKit
attribute [local go_sem ↓] Go.wp_at_zero Go.wp_at_succ

def rulOut (l : List Rule) (r : Rule) : List Rule := l.filter fun x => !decide (x = r)
theorem rulOut_take_yes {l : List Rule} {r : Rule} {k : Nat} (hk : k < l.length) (h : decide (l[k] = r) = false) : rulOut (l.take (k + 1)) r = rulOut (l.take k) r ++ [l[k]] := by
  unfold rulOut
  rw [List.take_succ_eq_append_getElem hk, List.filter_append, List.filter_cons_of_pos (by rw [h]; rfl), List.filter_nil]
theorem rulOut_take_no {l : List Rule} {r : Rule} {k : Nat} (hk : k < l.length) (h : decide (l[k] = r) = true) : rulOut (l.take (k + 1)) r = rulOut (l.take k) r := by
  unfold rulOut
  rw [List.take_succ_eq_append_getElem hk, List.filter_append, List.filter_cons_of_neg (by rw [h]; decide), List.filter_nil, List.append_nil]
theorem rulOut_le (l : List Rule) (r : Rule) (k : Nat) : (rulOut (l.take k) r).length ≤ l.length :=
  Nat.le_trans (List.length_filter_le _ _) (by simp; omega)

theorem own_form {w : World} {base size n : Nat} {e : TypeId} {v : Value} {xs : List Value} (h : w.ownsRow base e size v n xs) : ∃ A c, v = .slice A n c := by
  rcases h.2 with ⟨rfl, rfl⟩ | ⟨g, cap, cur, rfl, _⟩
  · exact ⟨none, 0, rfl⟩
  · exact ⟨_, cap, rfl⟩
theorem own_drewN {w : World} {base size n : Nat} {e : TypeId} {v : Value} {xs : List Value} (h : w.ownsRow base e size v n xs) (q : Nat) : (w.drewN q).ownsRow base e size v n xs := h

end Go.Proofs.YtnogkkcmcnhodaaDoor
