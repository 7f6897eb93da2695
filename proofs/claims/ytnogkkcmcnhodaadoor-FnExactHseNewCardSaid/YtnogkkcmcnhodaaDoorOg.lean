/- A row that a call builds of its own, element by element. Plain lemmas. -/
import Derived.Test.YtnogkkcmcnhodaaDoorOs
import Derived.Test.YtnogkkcmcnhodaaDoorCl
namespace Go.Proofs.YtnogkkcmcnhodaaDoor
open Go.RowKit

/-- Reads as l; all its blocks are new, and its own. -/
def OwB {α : Type} (r : Rp α) (e : TypeId) (H : Nat) (v : Value) (l : List α) (w : World) : Prop := ∃ fp, OwS r e w v l fp ∧ fp.Nodup ∧ (∀ b ∈ fp, H ≤ b) ∧ Free w fp

/-- What is left to say of an append of one element, ys, which reads as the last of l'. -/
def Grows {α : Type} (r : Rp α) (e : TypeId) (H : Nat) (v : Value) (n : Nat) (xs ys : List Value) (l' : List α) (wA : World) (HA : Nat) : Prop :=
  ∀ (g cap : Nat) (w2 : World), w2.ownsRow 0 e r.k (.slice (some ⟨g, 0, none⟩) (n + 1) cap) (n + 1) (xs ++ ys) → wA.grownBy w2 v.ownBlock → (v.ownBlock = some g ∨ g = HA) → OwB r e H (.slice (some ⟨g, 0, none⟩) (n + 1) cap) l' w2

section
variable {α : Type} {r : Rp α} {e : TypeId} {H : Nat} {v : Value} {l : List α} {w w1 : World}
theorem OwB.nil : OwB r e H (.slice none 0 0) [] w := ⟨[], OwS.nil, List.nodup_nil, by simp, Free.nil _⟩
theorem OwB.step (h : OwB r e H v l w) (hb : Below w.heap.size w w1) : OwB r e H v l w1 := by
  obtain ⟨fp, h1, h2, h3, h4⟩ := h
  exact ⟨fp, h1.step hb, h2, h3, h4.step hb⟩
theorem OwB.alloc (h : OwB r e H v l w) (o : Obj) : OwB r e H v l (w.alloc o) := h.step ((Below.refl _ _).alloc (Nat.le_refl _) o)
theorem OwB.low {H' : Nat} (h : OwB r e H v l w) (hl : H' ≤ H) : OwB r e H' v l w := by
  obtain ⟨fp, h1, h2, h3, h4⟩ := h
  exact ⟨fp, h1, h2, fun b hb => Nat.le_trans hl (h3 b hb), h4⟩
theorem OwB.only {f : List Nat} (h : OwB r e H v l w) (hb : Only f w w1) (hf : ∀ b ∈ f, b < H) : OwB r e H v l w1 := by
  obtain ⟨fp, h1, h2, h3, h4⟩ := h
  have hk : ∀ b ∈ fp, w1.heap[b]? = w.heap[b]? := fun b hm => hb.block b (h1.lt b hm) fun hc => by have := hf b hc; have := h3 b hm; omega
  exact ⟨fp, h1.keep hk, h2, h3, h4.keep hk⟩
theorem OwB.form (h : OwB r e H v l w) : ∃ A c, v = .slice A l.length c ∧ l.length ≤ c ∧ c ≤ maxLen := by
  obtain ⟨fp, h1, _⟩ := h
  obtain ⟨A, c, _, h, _, _, h2, h3⟩ := h1.sl
  exact ⟨A, c, h, h2, h3⟩
theorem OwB.one (h : OwB r e H v l w) : v.oneCell' = true := by
  obtain ⟨A, c, rfl, _⟩ := h.form
  rfl
theorem OwB.vlow (h : OwB r e H v l w) : ∀ b ∈ vblk v, H ≤ b := by
  obtain ⟨fp, ⟨xs, f1, ho, _, rfl⟩, _, h3, _⟩ := h
  exact fun b hb => h3 b (List.mem_append_left _ hb)
/-- One element more. -/
theorem OwB.grow (h : OwB r e H v l w) : ∃ xs, w.ownsRow 0 e r.k v l.length xs ∧ ∀ {wA : World}, Below w.heap.size w wA → wA.ownsRow 0 e r.k v l.length xs ∧
    ∀ {ys : List Value} {y : α} {g : List Nat}, r.R wA ys y g → g.Nodup → (∀ b ∈ g, w.heap.size ≤ b) → H ≤ w.heap.size → Free wA g → ∀ {HA : Nat}, wA.heap.size = HA → Grows r e H v l.length xs ys (l ++ [y]) wA HA := by
  obtain ⟨fp, ⟨xs, f1, ho, ha, rfl⟩, hn, hlo, hf⟩ := h
  refine ⟨xs, ho, fun {wA} hb => ?_⟩
  have hoA := ownsRow_keep ho fun b hm => hb.block b (ownsRow_lt ho b hm).2
  refine ⟨hoA, fun {ys y g} hy hgn hgl hHw hgf {HA} hHA g' cap w2 h2 hgr hor => ?_⟩
  obtain ⟨hn0, hn1, hd⟩ := List.nodup_append.1 hn
  have hlt : ∀ b ∈ vblk v, b < w.heap.size := fun b hm => (ownsRow_lt ho b hm).2
  have hltf : ∀ b ∈ f1, b < w.heap.size := ha.lt
  have hgA : ∀ b ∈ g, b < wA.heap.size := r.lt hy
  have hob : ∀ b, v.ownBlock = some b → b ∈ vblk v := fun b hb => by unfold vblk; rw [hb]; simp
  have e1 : ∀ b ∈ f1, w2.heap[b]? = wA.heap[b]? := fun b hm => hgr.block b (Nat.lt_of_lt_of_le (hltf b hm) hb.size) fun e => hd b (hob b e.symm) b hm rfl
  have e2 : ∀ b ∈ g, w2.heap[b]? = wA.heap[b]? := fun b hm => hgr.block b (hgA b hm) fun e => by have := hlt b (hob b e.symm); have := hgl b hm; omega
  have ha2 : AllR r w2 (xs ++ ys) (l ++ [y]) (f1 ++ g) := ((ha.keep fun b hm => hb.block b (hltf b hm)).keep e1).snoc (r.keep hy e2)
  have hg' : g' ∉ f1 ++ g := fun hm => by
    rcases hor with h | h
    · have h1 := hob g' h
      rcases List.mem_append.1 hm with hm | hm
      · exact hd g' h1 g' hm rfl
      · have := hlt g' h1; have := hgl g' hm; omega
    · rcases List.mem_append.1 hm with hm | hm
      · have := hltf g' hm; have := hb.size; omega
      · have := hgA g' hm; omega
  have hfr : Free w2 (f1 ++ g) := ((((hf.right).keep fun b hm => hb.block b (hltf b hm)).keep e1).append (hgf.keep e2))
  refine ⟨[g'] ++ (f1 ++ g), ⟨xs ++ ys, f1 ++ g, by simpa using h2, ha2, by simp [vblk, Value.ownBlock]⟩, ?_, fun b hm => ?_, ?_⟩
  · show (g' :: (f1 ++ g)).Nodup
    refine List.nodup_cons.2 ⟨hg', List.nodup_append.2 ⟨hn1, hgn, fun a ha b hb' e => ?_⟩⟩
    subst e
    have := hltf a ha; have := hgl a hb'; omega
  · rcases List.mem_append.1 hm with hm | hm
    · rw [List.mem_singleton.1 hm]
      rcases hor with h | h
      · exact hlo g' (List.mem_append_left _ (hob g' h))
      · have := hb.size; omega
    · rcases List.mem_append.1 hm with hm | hm
      · exact hlo b (List.mem_append_right _ hm)
      · exact Nat.le_trans hHw (hgl b hm)
  · exact Free.append (by simpa [vblk, Value.ownBlock] using ownsRow_free h2) hfr
end

theorem blk_frozen {w : World} {g : Nat} {t : TypeId} {cs : Array Value} (h : Blk w g t cs) (o : Nat) : w.frozen? ⟨g, o, none⟩ = false := by
  unfold Blk at h
  simp [World.frozen?, h]
theorem Blk.put {w : World} {g : Nat} {t : TypeId} {cs : Array Value} (h : Blk w g t cs) (i : Nat) (v : Value) : Blk (w.setCell ⟨g, i, none⟩ v) g t (cs.setIfInBounds i v) := heap_setCell_free h v
theorem only_setCell (w : World) (g i : Nat) (v : Value) : Only [g] w (w.setCell ⟨g, i, none⟩ v) := (Only.refl [g] w).setCell (.inl (by simp)) v
theorem OwnF.sl {α : Type} {t : TypeId} {k : Nat} {enc : α → List Value} {hk : ∀ x, (enc x).length = k} {h1 : ∀ x, ∀ u ∈ enc x, u.oneCell' = true} {w : World} {l : List α} {e : Ending} {w' : World}
    (h : OwnF t k enc w l e w') : ∃ A c f, e = .returned (.slice A l.length c) ∧ SlR (Rp.flat k enc hk h1) w' A l.length c l f ∧ f.Nodup ∧ (∀ b ∈ f, w.heap.size ≤ b) ∧ Free w' f ∧ Below w.heap.size w w' := by
  obtain ⟨A, n, c, f, rfl, hs, h2, h3, h4, h5⟩ := h.fresh (hk := hk) (h1 := h1)
  obtain rfl := hs.1
  exact ⟨A, c, f, rfl, hs, h2, h3, h4, h5⟩
theorem below_grown1 {w0 w w' : World} {v : Value} (h : Below w0.heap.size w0 w) (hg : w.grownBy w' v.ownBlock) (hl : ∀ b ∈ vblk v, w0.heap.size ≤ b) : Below w0.heap.size w0 w' :=
  h.grown hg h.size fun j hj => hl j (by unfold vblk; rw [hj]; simp)
end Go.Proofs.YtnogkkcmcnhodaaDoor
