/- Slices that the call owns. -/
import Derived.Test.YthopednilgncgaaDoorApp
namespace Go.Proofs.YthopednilgncgaaDoor
open Go.RowKit

/-- A slice that is owned, as a slice that reads. -/
theorem own_sl {α : Type} {k : Nat} {enc : α → List Value} {hk : ∀ x, (enc x).length = k} {h1 : ∀ x, ∀ u ∈ enc x, u.oneCell' = true} {w : World} {base : Nat} {e : TypeId} {v : Value} {l : List α} (h : w.ownsRow base e k v l.length (l.flatMap enc)) :
    ∃ A c f, v = .slice A l.length c ∧ SlR (Rp.flat k enc hk h1) w A l.length c l f ∧ (∀ b ∈ f, base ≤ b) ∧ f.Nodup ∧ Free w f := by
  obtain ⟨A, c, f0, hv, hs, h0, hn, hf⟩ := SlR.of_owns (r := Rp.flat k enc hk h1) (f1 := []) h (AllR.flat.2 ⟨rfl, rfl⟩)
  rw [List.append_nil] at hs
  exact ⟨A, c, f0, hv, hs, fun b hb => (h0 b hb).2, hn, hf⟩
theorem own_str {w : World} {base : Nat} {e : TypeId} {v : Value} {l : List ByteArray} (h : w.ownsRow base e 1 v l.length (l.flatMap fun s => [.string s])) : ∃ A c f, v = .slice A l.length c ∧ SlR Rp.str w A l.length c l f := by
  obtain ⟨A, c, f, h1, h2, _⟩ := own_sl (k := 1) (enc := fun s => [Value.string s]) (hk := fun _ => rfl) (h1 := fun x u hu => by simp at hu; subst hu; rfl) h
  exact ⟨A, c, f, h1, h2⟩
theorem Blk.grown {w w1 : World} {g : Nat} {t : TypeId} {cs : Array Value} {row : Option Nat} (h : Blk w g t cs) (hg : w.grownBy w1 row) (hn : ∀ k, row = some k → k ≠ g) : Blk w1 g t cs :=
  (hg.block g h.lt fun e => hn g e.symm rfl).trans h
end Go.Proofs.YthopednilgncgaaDoor
