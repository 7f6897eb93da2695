/- Walks: numbers and dashes are read; of the program. -/
import Derived.Test.YthopednilgncgaaDoorYb
import Derived.Test.YthopednilgncgaaDoorShelfO
namespace Go.Proofs.YthopednilgncgaaDoor
open Go.RowKit
attribute [local go_sem ↓] Go.wp_at_zero Go.wp_at_succ

set_option maxHeartbeats 1000000 in
theorem implUndash_any (s : ByteArray) (w : World) :
    Calls Tryd.prog 81 #[.string s] w fun e w' => e = .returned (.string (undashB s)) ∧ Below w.heap.size w w' := by
  have hq := beq_lit s [45]
  go_enter Tryd.func81, Tryd.ntmps81
  cases hd : decide (s = ⟨#[45]⟩)
  · rw [hd] at hq
    have HN := hide (of_decide_eq_false hd)
    clear hd
    go_wp2
    go_ret
    exact ⟨by unfold undashB; rw [if_neg HN.out]; rfl, Below.refl _ _⟩
  · rw [hd] at hq
    have HN := hide (of_decide_eq_true hd)
    clear hd
    go_wp2
    go_ret
    exact ⟨by unfold undashB; rw [if_pos HN.out]; rfl, Below.refl _ _⟩

/-- The library's two errors are laid. -/
def Errs (w : World) : Prop := (∃ t p, w.cell? ⟨2, 0, none⟩ = some (.iface t p)) ∧ ∃ t p, w.cell? ⟨3, 0, none⟩ = some (.iface t p)
theorem Errs.step {w w' : World} (h : Errs w) (hb : Below w.heap.size w w') : Errs w' := by
  obtain ⟨⟨t, p, h1⟩, t', p', h2⟩ := h
  exact ⟨⟨t, p, (hb.cell (Lib.lt_of_cell h1)).trans h1⟩, t', p', (hb.cell (Lib.lt_of_cell h2)).trans h2⟩
theorem atoi_dig {u : Nat} (h : u ≤ 4) : Lib.atoiAll (digB u).data.toList = .ok (u : Int) := by
  rw [digB_one (by omega)]
  rcases (show u = 0 ∨ u = 1 ∨ u = 2 ∨ u = 3 ∨ u = 4 by omega) with rfl | rfl | rfl | rfl | rfl <;> decide

set_option maxHeartbeats 2000000 in
theorem implNumber_any (s : ByteArray) (hs : s.size ≤ 4194304) (w : World) (hv : Errs w) :
    Calls Tryd.prog 80 #[.string s] w (NumRead s w) := by
  have HD := hide (fun (u : Nat) (hu : u ≤ 4) (he : s = digB u) => show Lib.atoiAll s.data.toList = .ok (u : Int) by rw [he]; exact atoi_dig hu)
  obtain ⟨⟨t1, p1, h1⟩, t2, p2, h2⟩ := hv
  have H1 := hide h1
  have H2 := hide h2
  clear h1 h2
  go_enter Tryd.func80, Tryd.ntmps80
  cases hk : Lib.atoiAll s.data.toList with
  | ok v =>
    have HE := hide (fun (u : Nat) (hu : u ≤ 4) (he : s = digB u) => show v = u by have := HD.out u hu he; rw [hk] at this; cases this; rfl)
    have HK := hide hk
    clear hk
    go_wp2_with fail
    refine (Tryd.strconv_Atoi_ok s (by omega) v HK.out _).mono ?_
    rintro e w1 ⟨rfl, hw⟩
    have HB := hide (show Below w.heap.size w w1 by
      rcases hw with rfl | ⟨t, rfl⟩
      · exact Below.refl _ _
      · exact Lib.bytesWorld_below _ _ _)
    clear hw
    go_wp2
    go_ret
    exact ⟨v, rfl, HE.out, HB.out⟩
  | range =>
    have HE := hide (fun (u : Nat) (hu : u ≤ 4) (he : s = digB u) => show (-1 : Int) = u by have := HD.out u hu he; rw [hk] at this; cases this)
    have HK := hide hk
    clear hk
    skip
    go_wp2_with fail
    refine (Tryd.strconv_Atoi_range s (by omega) HK.out _ _ H2.out (.inr ⟨_, _, rfl⟩)).mono ?_
    rintro e w1 ⟨N, rfl, _, _, hb⟩
    go_wp2
    go_ret
    exact ⟨-1, rfl, HE.out, hb⟩
  | _ =>
    have HE := hide (fun (u : Nat) (hu : u ≤ 4) (he : s = digB u) => show (-1 : Int) = u by have := HD.out u hu he; rw [hk] at this; cases this)
    have HC : Calls Tryd.prog 100 #[.string s] w fun e w' => ∃ N, e = .returned (.tuple #[.int .i64 (0), .iface 147 (.pointer (some ⟨N, 0, none⟩))]) ∧ w.heap.size ≤ N ∧ w'.heap[N]? = some (.cells #[.string ⟨#[65, 116, 111, 105]⟩, .string s, .iface t1 p1] 159 (0, 0)) ∧ Below w.heap.size w w' := Any.strconv_Atoi_syntax Tryd.laysC172 s (by omega) hk _ w H1.out (.inr ⟨_, _, rfl⟩)
    have HH := hide HC
    clear hk HC
    go_wp2_with fail
    refine HH.out.mono ?_
    rintro e w1 ⟨N, rfl, _, _, hb⟩
    go_wp2
    go_ret
    exact ⟨-1, rfl, HE.out, hb⟩
end Go.Proofs.YthopednilgncgaaDoor
