/- A region that draws its order and whose operations and callees write nothing old: one walk, in the order of the text (after the kit's quiet regions, with 'old memory as it was' for the class of worlds). -/
import Derived.Test.YthopednilgncgaaDoorBase
import Derived.BigQuiet
namespace Go.Proofs.YthopednilgncgaaDoor
open Go.RowKit

/-- The worlds in which all that w had is as it was. -/
def BelowW (w : World) : Type := { w' : World // Below w.heap.size w w' }
theorem BelowW.nonempty (w : World) : Nonempty (BelowW w) := ⟨⟨w, Below.refl _ _⟩⟩
theorem BelowW.ex {w : World} (n : BelowW w) : (∃ m : BelowW w, n.val = m.val) = True := eq_true ⟨n, rfl⟩
theorem BelowW.cell {w : World} (n : BelowW w) {b o : Nat} {v : Value} (h : w.cell? ⟨b, o, none⟩ = some v) : n.val.cell? ⟨b, o, none⟩ = some v :=
  (n.property.cell (p := ⟨b, o, none⟩) (World.block_lt_of_cell? w _ h)).trans h
theorem BelowW.sl {α : Type} {r : Rp α} {w : World} {A : Option Addr} {n c : Nat} {l : List α} {fp : List Nat} (m : BelowW w) (h : SlR r w A n c l fp) : SlR r m.val A n c l fp := h.step m.property
theorem BelowW.calls {P : Program} {f : FuncId} {args : Array Value} {w : World} {v : Value} (n : BelowW w)
    (h : Calls P f args n.val fun e w' => e = .returned v ∧ Below n.val.heap.size n.val w') : Calls P f args n.val fun e w'' => e = .returned v ∧ ∃ m : BelowW w, w'' = m.val :=
  h.mono fun _ w' ⟨he, hb⟩ => ⟨he, ⟨w', Below.then_ n.property hb⟩, rfl⟩

theorem wp_region_below {P : Program} {id : Nat} {Q : Exit → Act → World → Prop} {a : Act} {w : World} {l : List Oper} (hm : P.follows .mixedOrders = true) (hB : Region.lexB .any l.toArray = true)
    (h : wpQuiet P l.toArray (fun w' => ∃ n : BelowW w, w' = n.val) (fun a' => ∀ w', (∃ n : BelowW w, w' = n.val) → Q .normal a' w') l a) : (Code.region id l.toArray true).wp P Q a w :=
  wp_region_quiet (C := fun w' => ∃ n : BelowW w, w' = n.val) hm hB ⟨⟨w.drew, (Below.refl _ _).drew⟩, rfl⟩ (by simpa using h)
end Go.Proofs.YthopednilgncgaaDoor
