/- What all walks import; small words. -/
import Derived.Test.YthopednilgncgaaDoorRows
import Derived.Test.YthopednilgncgaaDoorData
import Derived.Deep.RegionHeld3
import Derived.Deep.DrawnRows
import Derived.Deep.MidRow
import Derived.Deep.QuietTactic
import Derived.BigQuiet
namespace Go.Proofs.YthopednilgncgaaDoor
open Go.RowKit

theorem beq_toListBytes' (a b : ByteArray) : (a.toList == b.toList) = decide (a = b) := by
  rw [ByteArray.toList_eq, ByteArray.toList_eq, Bool.eq_iff_iff, beq_iff_eq, decide_eq_true_iff]
  constructor
  · intro h
    obtain ⟨⟨x⟩⟩ := a
    obtain ⟨⟨y⟩⟩ := b
    cases h
    rfl
  · intro h
    rw [h]

theorem Below.drewN' {B : Nat} {a w : World} (h : Below B a w) (n : Nat) : Below B a (w.drewN n) := ⟨h.os, h.tape, h.output, h.size, h.block⟩

/-- the first k agree -/
def agree {α : Type} (x y : List α) (k : Nat) : Prop := x.take k = y.take k
section
variable {α : Type} {x y : List α}
theorem agree_next {k : Nat} (h : agree x y k) (hx : k < x.length) (hy : k < y.length) (he : x[k] = y[k]) : agree x y (k + 1) := by
  unfold agree at *
  rw [List.take_succ_eq_append_getElem hx, List.take_succ_eq_append_getElem hy, h, he]
theorem agree_not {k : Nat} (hx : k < x.length) (hy : k < y.length) (he : ¬ x[k] = y[k]) : ¬ x = y := fun h => by subst h; exact he rfl
theorem agree_all (h : agree x y x.length) (hl : x.length = y.length) : x = y := by
  unfold agree at h
  rwa [List.take_of_length_le (Nat.le_refl _), List.take_of_length_le (by omega)] at h
theorem ne_of_length (h : ¬ x.length = y.length) : ¬ x = y := fun e => h (by rw [e])
end

theorem bcell {W w1 : World} (hb : Below W.heap.size W w1) : (∀ b o, b < W.heap.size → w1.cell? ⟨b, o, none⟩ = W.cell? ⟨b, o, none⟩) ∧ (∀ b o, b < W.heap.size → w1.frozen? ⟨b, o, none⟩ = W.frozen? ⟨b, o, none⟩) :=
  ⟨fun b o h => hb.cell (p := ⟨b, o, none⟩) h, fun b o h => hb.frozen (p := ⟨b, o, none⟩) h⟩
theorem cell_step {w w1 : World} {b o : Nat} {v : Value} (h : w.cell? ⟨b, o, none⟩ = some v) (hb : Below w.heap.size w w1) : w1.cell? ⟨b, o, none⟩ = some v :=
  (hb.cell (p := ⟨b, o, none⟩) (World.block_lt_of_cell? w _ h)).trans h
theorem cell_alloc {w : World} {b o : Nat} {v : Value} (h : w.cell? ⟨b, o, none⟩ = some v) (x : Obj) : (w.alloc x).cell? ⟨b, o, none⟩ = some v :=
  cell_step h ((Below.refl _ _).alloc (Nat.le_refl _) _)

theorem Below.of_eq {B : Nat} {w w' : World} (h : w = w') : Below B w w' := by subst h; exact Below.refl _ _

theorem Below.of_eqS {w w' : World} (h : w = w') : Below w.heap.size w w' := Below.of_eq h

theorem Below.then_ {w w1 w2 : World} (h : Below w.heap.size w w1) (k : Below w1.heap.size w1 w2) : Below w.heap.size w w2 := h.trans (k.mono h.size)
theorem Below.box1 {w w1 : World} {o : Obj} (h : Below (w.alloc o).heap.size (w.alloc o) w1) : Below w.heap.size w w1 := ((Below.refl w.heap.size w).alloc (Nat.le_refl _) o).trans (h.mono (by simp))
theorem Below.box2 {w w1 : World} {o p : Obj} (h : Below ((w.alloc o).alloc p).heap.size ((w.alloc o).alloc p) w1) : Below w.heap.size w w1 := Below.box1 (Below.box1 h)
theorem Below.box3 {w w1 : World} {o p q : Obj} (h : Below (((w.alloc o).alloc p).alloc q).heap.size (((w.alloc o).alloc p).alloc q) w1) : Below w.heap.size w w1 := Below.box1 (Below.box2 h)

theorem Free.step {w w1 : World} {fp : List Nat} (h : Free w fp) (hb : Below w.heap.size w w1) : Free w1 fp := h.keep fun x hx => hb.block x (h.lt x hx)
theorem Free.putN {w : World} {fp : List Nat} {b j : Nat} {v : Value} (h : Free w fp) : Free (w.setCell ⟨b, j, none⟩ v) fp := h.setCell _ rfl v

/-- Block g is just these cells, and may be written. -/
def Blk (w : World) (g : Nat) (t : TypeId) (cs : Array Value) : Prop := w.heap[g]? = some (.cells cs t (0, 0))
section
variable {w w1 : World} {g : Nat} {t : TypeId} {cs : Array Value}
theorem Blk.lt (h : Blk w g t cs) : g < w.heap.size := (Array.getElem?_eq_some_iff.1 h).1
theorem Blk.new (w : World) (t : TypeId) (cs : Array Value) : Blk (w.alloc (.cells cs t)) w.heap.size t cs := heap_alloc_new w _
theorem Blk.step (h : Blk w g t cs) (hb : Below w.heap.size w w1) : Blk w1 g t cs := (hb.block g h.lt).trans h
theorem Blk.alloc (h : Blk w g t cs) (o : Obj) : Blk (w.alloc o) g t cs := (Below.heap_alloc w o g h.lt).trans h
theorem Blk.drew (h : Blk w g t cs) : Blk w.drew g t cs := h
theorem Blk.only (h : Blk w g t cs) {f : List Nat} (hb : Only f w w1) (hn : g ∉ f) : Blk w1 g t cs := (hb.block g h.lt hn).trans h
theorem Blk.far (h : Blk w g t cs) {b j : Nat} (hn : g ≠ b) (v : Value) : Blk (w.setCell ⟨b, j, none⟩ v) g t cs := (Below.heap_setCell w _ v g hn).trans h
theorem Blk.cell (h : Blk w g t cs) (i : Nat) : w.cell? ⟨g, i, none⟩ = cs[i]? := cell_of_row w g i cs t (0, 0) h
theorem Blk.range (h : Blk w g t cs) : w.rangeAt g 0 cs.toList := fun j v hv => by
  rw [Nat.zero_add, h.cell j]; simpa using hv
theorem Blk.out (h : Blk w g t cs) : w.heap[g]? = some (.cells cs t (0, 0)) := h
end

theorem SlR.max {α : Type} {r : Rp α} {w : World} {A : Option Addr} {n c : Nat} {l : List α} {fp : List Nat} (h : SlR r w A n c l fp) : n ≤ 9223372036854775807 := by
  obtain ⟨_, h1, h2, _⟩ := h
  unfold maxLen at h2
  omega
theorem SlR.drew {α : Type} {r : Rp α} {w : World} {A : Option Addr} {n c : Nat} {l : List α} {fp : List Nat} (h : SlR r w A n c l fp) : SlR r w.drew A n c l fp := h.keep fun _ _ => rfl
theorem SlR.allocN {α : Type} {r : Rp α} {w : World} {A : Option Addr} {n c : Nat} {l : List α} {fp : List Nat} (h : SlR r w A n c l fp) (o : Obj) : SlR r (w.alloc o) A n c l fp :=
  h.keep fun b hb => Below.heap_alloc _ _ _ (h.lt b hb)

theorem szL_len {α : Type} (f : α → Nat) (l : List α) : l.length ≤ szL f l := Nat.le_add_right _ _
theorem szL_get {α : Type} {f : α → Nat} : ∀ {l : List α} {k : Nat} (hk : k < l.length), f l[k] + l.length ≤ szL f l
  | x :: l, 0, _ => by simp [szL, sumOf]; omega
  | x :: l, k + 1, hk => by
    have := szL_get (f := f) (l := l) (k := k) (by simpa using hk)
    simp [szL, sumOf] at *
    omega

theorem countL_const {α : Type} {ct : α → Nat} {k : Nat} (h : ∀ x, ct x = k) : ∀ l : List α, countL ct l = k * l.length
  | [] => by simp [countL]
  | x :: l => by
    have ih := countL_const h l
    simp only [countL] at *
    simp [h, ih, Nat.mul_add]; omega

/-- What is left behind the first k. -/
def LessTo {α : Type} (f : α → Nat) (x : List α) (left : Int) (k : Nat) (lk : Int) : Prop := lk = left - x.length - (sumOf f (x.take k) : Nat) ∧ 0 ≤ lk
section
variable {α : Type} {f : α → Nat} {x : List α} {left lk : Int} {k : Nat}
theorem sumOf_take_succ (hk : k < x.length) : sumOf f (x.take (k + 1)) = sumOf f (x.take k) + f x[k] := by
  rw [List.take_succ_eq_append_getElem hk]
  simp only [sumOf, List.map_append, List.sum_append, List.map_cons, List.map_nil, List.sum_cons, List.sum_nil, Nat.add_zero]
theorem sumOf_take_le (f : α → Nat) (x : List α) (k : Nat) : sumOf f (x.take k) ≤ sumOf f x := by
  have h : sumOf f (x.take k ++ x.drop k) = sumOf f (x.take k) + sumOf f (x.drop k) := by simp only [sumOf, List.map_append, List.sum_append]
  rw [List.take_append_drop] at h
  omega
theorem LessTo.zero (h : (x.length : Int) ≤ left) : LessTo f x left 0 (left - x.length) := ⟨by simp [sumOf], by omega⟩
theorem LessTo.low (h : LessTo f x left k lk) : 0 ≤ lk := h.2
theorem LessTo.high (h : LessTo f x left k lk) (hl : left ≤ 2000000) : lk ≤ 2000000 := by have := h.1; omega
theorem LessTo.next (h : LessTo f x left k lk) (hk : k < x.length) (hq : (f x[k] : Int) ≤ lk) : LessTo f x left (k + 1) (lk - (f x[k] : Nat)) := by
  have := h.1
  refine ⟨?_, by omega⟩
  rw [sumOf_take_succ hk]; omega
theorem LessTo.no_ (h : LessTo f x left k lk) (hk : k < x.length) (hq : lk - (f x[k] : Nat) < 0) : lessLen left (szL f x) = -1 := by
  have h1 := h.1
  have h2 := sumOf_take_succ (f := f) hk
  have h3 := sumOf_take_le f x (k + 1)
  exact lessLen_no (by unfold szL; omega)
theorem LessTo.all_ (h : LessTo f x left x.length lk) : lk = lessLen left (szL f x) := by
  have h1 := h.1
  have h2 := h.2
  rw [List.take_length] at h1
  rw [lessLen_yes (by unfold szL; omega)]
  unfold szL; omega
end

end Go.Proofs.YthopednilgncgaaDoor
