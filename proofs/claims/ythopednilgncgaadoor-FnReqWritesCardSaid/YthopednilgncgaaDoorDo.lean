/- An edit is appended to a drawn request's edits, in a region that draws its order: the state. No walk. -/
import Derived.Test.YthopednilgncgaaDoorDm
import Derived.Test.YthopednilgncgaaDoorTv
namespace Go.Proofs.YthopednilgncgaaDoor
open Go Go.RowKit

/-- What holds of the operations that have come up: each pair's first one only behind its second. -/
def Cls (deps : List (Nat × Nat)) (L : Array Bool) : Prop := ∀ p ∈ deps, L.getD p.1 false = true → L.getD p.2 false = true
theorem getD_kept {L : Array Bool} {i j : Nat} (h : L.getD j false = true) : (L.setIfInBounds i true).getD j false = true := by
  by_cases e : i = j
  · subst e
    have hlt : i < L.size := by
      refine Classical.byContradiction fun hn => ?_
      rw [Array.getD_eq_getD_getElem?, Array.getElem?_eq_none (by omega)] at h
      cases h
    simp [hlt]
  · rw [getD_set_ne false e]; exact h
theorem Cls.set {deps : List (Nat × Nat)} {L : Array Bool} {m : Nat} (h : Cls deps L) (hm : ∀ p ∈ deps, p.1 = m → L.getD p.2 false = true) : Cls deps (L.setIfInBounds m true) := fun p hp h1 => by
  rcases getD_set_true h1 with e | e
  · exact getD_kept (hm p hp e)
  · exact getD_kept (h p hp e)
theorem Cls.start {deps : List (Nat × Nat)} {n : Nat} : Cls deps (Array.replicate n false) := fun p _ h => by simp [Array.getD] at h
def one10 (L : Array Bool) (i : Nat) : Nat := if L.getD i false = true then 10 else 0
def cnt3 (i j k : Nat) (L : Array Bool) : Nat := one10 L i + one10 L j + one10 L k
theorem one10_set (L : Array Bool) (i m : Nat) : one10 L i ≤ one10 (L.setIfInBounds m true) i := by
  unfold one10
  by_cases h : L.getD i false = true
  · rw [if_pos h, if_pos (getD_kept h)]; exact Nat.le_refl _
  · rw [if_neg h]; exact Nat.zero_le _
theorem one10_at {L : Array Bool} {m : Nat} (hm : m < L.size) (hl : L.getD m false = false) : one10 L m + 10 ≤ one10 (L.setIfInBounds m true) m := by
  unfold one10
  rw [hl, if_neg (by simp), if_pos (by simp [hm])]
  exact Nat.le_refl _
theorem cnt3_set (i j k m : Nat) (L : Array Bool) : cnt3 i j k L ≤ cnt3 i j k (L.setIfInBounds m true) :=
  Nat.add_le_add (Nat.add_le_add (one10_set L i m) (one10_set L j m)) (one10_set L k m)
theorem cnt3_at {i j k m : Nat} {L : Array Bool} (hm : m < L.size) (hl : L.getD m false = false) (h : m = i ∨ m = j ∨ m = k) : cnt3 i j k L + 10 ≤ cnt3 i j k (L.setIfInBounds m true) := by
  have h1 := one10_at hm hl
  have a := one10_set L i m
  have b := one10_set L j m
  have c := one10_set L k m
  unfold cnt3
  rcases h with rfl | rfl | rfl <;> omega
theorem cnt3_le (i j k : Nat) (L : Array Bool) : cnt3 i j k L ≤ 30 := by
  have a : ∀ i, one10 L i ≤ 10 := fun i => by unfold one10; split <;> omega
  have h1 := a i
  have h2 := a j
  have h3 := a k
  unfold cnt3
  omega
/-- Behind the append: the row is longer by one, the box is as it was. -/
def Apd (w0 : World) (g P : Nat) (mc rc : Array Value) (Q : Nat) (q : Req) (E v : Value) (w : World) : Prop :=
  ∃ l' wX, RQ w0 g P mc rc Q q E wX ∧ wX.grownBy w E.ownBlock ∧ Rd w g P ∧ w.ownsRow (w0.heap.size + 2) 84 3 v l'.length (l'.flatMap encEdit) ∧ smallEdits l' ∧ l'.length = q.edits.length + 1
structure Ap (deps : List (Nat × Nat)) (app t i j k : Nat) (w0 : World) (g P : Nat) (mc rc : Array Value) (Q : Nat) (q : Req) (E : Value) (L : Array Bool) (τ : Tmp → Value) (w : World) : Prop where
  cl : Cls deps L
  be : L.getD app false = false → RQ w0 g (P + cnt3 i j k L) mc rc Q q E w
  af : L.getD app false = true → Apd w0 g (P + 30) mc rc Q q E (τ t) w
section
variable {deps : List (Nat × Nat)} {app t i j k : Nat} {w0 : World} {g P : Nat} {mc rc : Array Value} {Q : Nat} {q : Req} {E : Value} {L : Array Bool} {τ : Tmp → Value} {w w' : World} {m : Nat} {u : Value}
theorem Ap.start {n : Nat} (h : RQ w0 g P mc rc Q q E w) : Ap deps app t i j k w0 g P mc rc Q q E (Array.replicate n false) τ w :=
  ⟨Cls.start, fun _ => h.mono (Nat.le_add_right _ _), fun h => by simp [Array.getD] at h⟩
/-- An operation that leaves the world. -/
theorem Ap.pure (h : Ap deps app t i j k w0 g P mc rc Q q E L τ w) {d : Nat} (hm : m ≠ app) (hd : t ≠ d) (hc : ∀ p ∈ deps, p.1 = m → L.getD p.2 false = true) : Ap deps app t i j k w0 g P mc rc Q q E (L.setIfInBounds m true) (updT τ (some d) u) w := by
  refine ⟨h.cl.set hc, fun ha => ?_, fun ha => ?_⟩
  · rw [getD_set_ne false hm] at ha
    exact (h.be ha).mono (Nat.add_le_add_left (cnt3_set i j k m L) P)
  · rw [getD_set_ne false hm] at ha
    have e : updT τ (some d) u t = τ t := by simp [updT, hd]
    rw [e]
    exact h.af ha
/-- An operation that turns the world, ahead of the append. -/
theorem Ap.turn (h : Ap deps app t i j k w0 g P mc rc Q q E L τ w) {o : Option Tmp} (hm : m ≠ app) (ha : L.getD app false = false) (hc : ∀ p ∈ deps, p.1 = m → L.getD p.2 false = true) {P' : Nat} (hq : RQ w0 g P' mc rc Q q E w') (hp : P' ≤ P + cnt3 i j k (L.setIfInBounds m true)) : Ap deps app t i j k w0 g P mc rc Q q E (L.setIfInBounds m true) (updT τ o u) w' := by
  refine ⟨h.cl.set hc, fun _ => hq.mono hp, fun hb => ?_⟩
  rw [getD_set_ne false hm, ha] at hb
  cases hb
/-- The append. -/
theorem Ap.hit (h : Ap deps app t i j k w0 g P mc rc Q q E L τ w) (_ : L.getD app false = false) (hL : app < L.size) (hc : ∀ p ∈ deps, p.1 = app → L.getD p.2 false = true) (hq : Apd w0 g (P + 30) mc rc Q q E u w') : Ap deps app t i j k w0 g P mc rc Q q E (L.setIfInBounds app true) (updT τ (some t) u) w' := by
  refine ⟨h.cl.set hc, fun hb => ?_, fun _ => ?_⟩
  · rw [show (L.setIfInBounds app true).getD app false = true by simp [hL]] at hb
    cases hb
  · have e : updT τ (some t) u t = u := by simp [updT]
    rw [e]
    exact hq
theorem RQ.ne (h : RQ w0 g P mc rc Q q E w) {k : Nat} (hk : E.ownBlock = some k) : w0.heap.size + 2 ≤ k ∧ k ≠ Q ∧ k < w.heap.size :=
  ⟨(h.own.lt k hk).1, own_ne h.own h.kq (by decide) hk, (h.own.lt k hk).2⟩
/-- What was appended is stored. -/
theorem Apd.put {v : Value} (h : Apd w0 g P mc rc Q q E v w) (hn : q.edits.length + 1 ≤ 6) :
    ∃ l', RQ w0 g P mc rc Q { q with edits := l' } v (w.setCell ⟨Q, 8, none⟩ v) ∧ l'.length = q.edits.length + 1 := by
  obtain ⟨l', wX, hq, hb, hr, ho, hs, hl⟩ := h
  have h1 := hq.gl
  have h2 := hq.ql
  have h3 := hq.size
  have hk : ∀ b, b < wX.heap.size → (∀ k, E.ownBlock = some k → k ≠ b) → w.heap[b]? = wX.heap[b]? := fun b hlt hn => hb.block b hlt fun e => hn b e.symm rfl
  have hkq : Blk w Q 40 (reqA q E) := (hk Q h3.2.1 fun k hk => (hq.ne hk).2.1).trans hq.kq
  refine ⟨l', ⟨hr.put (by omega) v, ?_, ?_, ?_, ?_, own_putT ho hkq (by decide), ⟨hq.sm.1, hq.sm.2, hs, by show l'.length ≤ 6; omega, hq.sm.5, hq.sm.6⟩, h1, h2⟩, hl⟩
  · exact (hq.on.step hb.os hb.tape hb.output hb.size fun b hlt _ => hk b (by omega) fun k hk => by have := (hq.ne hk).1; omega).setCell (p := ⟨Q, 8, none⟩) (.inr (by show w0.heap.size ≤ Q; omega)) v
  · exact Blk.far (show Blk w _ _ _ from (hk _ (by omega) fun k hk => by have := (hq.ne hk).1; omega).trans hq.km) (by omega) v
  · exact Blk.far (show Blk w _ _ _ from (hk _ (by omega) fun k hk => by have := (hq.ne hk).1; omega).trans hq.kr) (by omega) v
  · exact heap_setCell_free (i := 8) hkq v
/-- The append comes up. -/
theorem RQ.apd {v : Value} (h : RQ w0 g P mc rc Q q E w) {x : Edit} (hx : smallEdit x) (ho : w'.ownsRow (w0.heap.size + 2) 84 3 v (q.edits.length + 1) (q.edits.flatMap encEdit ++ encEdit x)) (hg : w.grownBy w' E.ownBlock) : Apd w0 g P mc rc Q q E v w' := by
  have hgl := h.gl
  have hon : Only E.ownBlock.toList w w' := ⟨hg.os, hg.tape, hg.output, hg.size, fun k hk hn => hg.block k hk fun e => hn (by rw [← e]; simp)⟩
  exact ⟨q.edits ++ [x], w, h, hg, h.rd.only hon fun k hk => by have := (h.ne (k := k) (by simpa using hk)).1; omega, own_snoc ho, smallEdits_snoc h.sm.edits hx, by simp⟩
theorem RQ.cellE {v : Value} (h : Apd w0 g P mc rc Q q E v w) : w.cell? ⟨Q, 8, none⟩ = some E ∧ w.frozen? ⟨Q, 8, none⟩ = false := by
  obtain ⟨l', wX, hq, hb, _⟩ := h
  have e : w.heap[Q]? = wX.heap[Q]? := hb.block Q hq.size.2.1 fun e => (hq.ne (k := Q) e.symm).2.1 rfl
  have k : Blk w Q 40 (reqA q E) := e.trans hq.kq
  refine ⟨k.cell 8, ?_⟩
  unfold Blk at k
  simp [World.frozen?, k]
end
end Go.Proofs.YthopednilgncgaaDoor
