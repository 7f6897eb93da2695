/- Walks: RolOf, of the reference and of the program. -/
import Derived.Test.YtbbfgfnkbbecoaaW1
namespace Go.Proofs.Ytbbfgfnkbbecoaa
open Go.RowKit

attribute [local go_sem ↓] Go.wp_at_zero Go.wp_at_succ

theorem Try.info45 : (Try.prog.info? 45).map (fun i => (i.zero, i.size, i.bytes)) = some (some (.agg #[.int .i64 0, .int .i64 0, .int .i64 0, .int .i64 0]), 4, 32) := by kernel_rfl

def rolOf (l : List Line) (user : Int) : List Line := l.filter fun x => x.user == user

theorem rolOf_take_yes {l : List Line} {user : Int} {k : Nat} (hk : k < l.length) (h : (l[k].user == user) = true) : rolOf (l.take (k + 1)) user = rolOf (l.take k) user ++ [l[k]] := by
  unfold rolOf
  rw [List.take_succ_eq_append_getElem hk, List.filter_append]
  simp [h]
theorem rolOf_take_no {l : List Line} {user : Int} {k : Nat} (hk : k < l.length) (h : (l[k].user == user) = false) : rolOf (l.take (k + 1)) user = rolOf (l.take k) user := by
  unfold rolOf
  rw [List.take_succ_eq_append_getElem hk, List.filter_append]
  simp [h]
theorem rolOf_le (l : List Line) (user : Int) (k : Nat) : (rolOf (l.take k) user).length ≤ l.length :=
  Nat.le_trans (List.length_filter_le _ _) (by simp; omega)

/-- The relation of both loops. -/
def RolRel (l : List Line) (user : Int) (w : World) (k : Nat) (v : Value) (wr : World) : Prop :=
  wr.ownsRow w.heap.size 45 4 v (rolOf (l.take k) user).length ((rolOf (l.take k) user).flatMap encLine) ∧ Below w.heap.size w wr

theorem RolRel.yes {l : List Line} {user : Int} {w : World} {k : Nat} {v v' : Value} {wr w1 w2 : World} (hk : k < l.length) (hu : (l[k].user == user) = true) (h : RolRel l user w k v wr) (hb1 : Below wr.heap.size wr w1)
    (ho : w2.ownsRow w.heap.size 45 4 v' ((rolOf (l.take k) user).length + 1) ((rolOf (l.take k) user).flatMap encLine ++ encLine l[k])) (hg : w1.grownBy w2 v.ownBlock) : RolRel l user w (k + 1) v' w2 := by
  obtain ⟨h1, h2⟩ := h
  refine ⟨?_, ?_⟩
  · rw [rolOf_take_yes hk hu]
    simpa using ho
  · exact (h2.trans (hb1.mono h2.size)).grown hg (Nat.le_trans h2.size hb1.size) (fun j hj => (h1.lt j hj).1)

set_option maxHeartbeats 1000000 in
theorem specRolOf_any {A : Option Addr} {n c : Nat} {x : List Line} {fx : List Nat} (user : Int) (w : World) (hx : SlR Rp.line w A n c x fx) (hs : x.length ≤ 1048576) :
    Calls Try.prog 6 #[.slice A n c, .int .i64 user] w (FreshS Rp.line w (rolOf x user)) := by
  obtain ⟨rfl, hcx, hmx, _⟩ := id hx
  unfold maxLen at hmx
  obtain ⟨i0, hi, hz0, hz1, hz2⟩ := info_parts Try.info45
  go_enter Try.func6, Try.ntmps6
  go_wp2
  go_loopw [5, 6] (fun v i wr => ∃ k : Nat, k ≤ x.length ∧ i = .int .i64 k ∧ RolRel x user w k v wr) (fun _ i _ => x.length - (intOf i).toNat)
  case atStart => exact ⟨0, Nat.zero_le _, rfl, World.ownsRow_made w #[] 0 (Nat.le_refl _) (by simp [maxLen]) rfl, (Below.refl _ _).alloc (Nat.le_refl _) _⟩
  case round =>
    obtain ⟨k, hk, rfl, hrel⟩ := hrel
    by_cases hlt : k < x.length
    · have hbl := hrel.2
      obtain ⟨b, o, rfl, hb, _, h0, h1, h2, h3⟩ := line_cells (hx.below hbl (Nat.le_refl _)) hlt
      have hle := rolOf_le x user k
      cases hu : x[k].user == user
      · have HN := hide (rolOf_take_no hlt hu)
        go_wp2
        refine ⟨⟨k + 1, by omega, by go_num, ?_⟩, by simp [intOf]; omega⟩
        unfold RolRel at hrel ⊢
        rw [HN.out]
        exact hrel
      · go_wp2_with (at_builtin; refine wpList_append_own _ rfl _ _ 24 rfl w.heap.size 45 i0 _ 4 32 Try.underlying24 hi hz0 hz1 hz2 rfl (by decide) _ _ _ rfl (hrel.1.alloc _) ⟨wr.heap.size, 0, none⟩ 1 1 (encLine x[k]) rfl rfl (news_alloc wr (encLine x[k]) _) (Rp.line.one (w := wr) ⟨rfl, rfl⟩) (by unfold maxLen; omega) (by omega) (by have := hbl.size; simp; omega) ?_)
        intro v' w1 hown hgrow _
        go_wp2
        refine ⟨⟨k + 1, by omega, by go_num, hrel.yes hlt hu ((Below.refl _ _).alloc (Nat.le_refl _) _) hown hgrow⟩, by simp [intOf]; omega⟩
    · have hk' : k = x.length := by omega
      subst hk'
      go_wp2
      go_ret
      have h := hrel.1
      rw [List.take_of_length_le (Nat.le_refl _)] at h
      exact FreshS.of_owns_flat h hrel.2

set_option maxHeartbeats 1000000 in
theorem implRolOf_any {A : Option Addr} {n c : Nat} {x : List Line} {fx : List Nat} (user : Int) (w : World) (hx : SlR Rp.line w A n c x fx) (hs : x.length ≤ 1048576) :
    Calls Try.prog 8 #[.slice A n c, .int .i64 user] w (FreshS Rp.line w (rolOf x user)) := by
  obtain ⟨rfl, hcx, hmx, _⟩ := id hx
  unfold maxLen at hmx
  obtain ⟨i0, hi, hz0, hz1, hz2⟩ := info_parts Try.info45
  go_enter Try.func8, Try.ntmps8
  go_wp2
  go_loopw [5, 10] (fun v i wr => ∃ k : Nat, k ≤ x.length ∧ i = .int .i64 k ∧ RolRel x user w k v wr) (fun _ i _ => x.length - (intOf i).toNat)
  case atStart => exact ⟨0, Nat.zero_le _, rfl, World.ownsRow_nil _ _ _ _, Below.refl _ _⟩
  case round =>
    obtain ⟨k, hk, rfl, hrel⟩ := hrel
    by_cases hlt : k < x.length
    · have hbl := hrel.2
      obtain ⟨b, o, rfl, hb, _, h0, h1, h2, h3⟩ := line_cells (hx.below hbl (Nat.le_refl _)) hlt
      have hle := rolOf_le x user k
      cases hu : x[k].user == user
      · have HN := hide (rolOf_take_no hlt hu)
        go_wp2
        refine ⟨⟨k + 1, by omega, by go_num, ?_⟩, by simp [intOf]; omega⟩
        unfold RolRel at hrel ⊢
        rw [HN.out]
        exact ⟨hrel.1.alloc _, hbl.alloc hbl.size _⟩
      · go_wp2_with (at_builtin; refine wpList_append_own _ rfl _ _ 24 rfl w.heap.size 45 i0 _ 4 32 Try.underlying24 hi hz0 hz1 hz2 rfl (by decide) _ _ _ rfl ((hrel.1.alloc _).alloc _) ⟨wr.heap.size + 1, 0, none⟩ 1 1 (encLine x[k]) rfl rfl (news_alloc' (by simp) (encLine x[k]) _) (Rp.line.one (w := wr) ⟨rfl, rfl⟩) (by unfold maxLen; omega) (by omega) (by have := hbl.size; simp; omega) ?_)
        intro v' w1 hown hgrow _
        go_wp2
        refine ⟨⟨k + 1, by omega, by go_num, hrel.yes hlt hu (((Below.refl _ _).alloc (Nat.le_refl _) _).alloc (by simp) _) hown hgrow⟩, by simp [intOf]; omega⟩
    · have hk' : k = x.length := by omega
      subst hk'
      go_wp2
      go_ret
      have h := hrel.1
      rw [List.take_of_length_le (Nat.le_refl _)] at h
      exact FreshS.of_owns_flat h hrel.2

end Go.Proofs.Ytbbfgfnkbbecoaa
