/-
  How Go's data lie in memory, said once for all types: a reading 'Rp' of a Lean type in cells, with the list of the blocks that it meets. Plain lemmas; no program in sight.
-/
import Derived.WalkKit
import Derived.WalkSpells
import Derived.WalkLawsBesides
import Derived.Deep.AppendLies
import Derived.Deep.Draws
namespace Go.Proofs.YthopednilgncgaaDoor
open Go.RowKit

theorem hide {p : Prop} (h : p) : Hid p := h

/-- Block b holds from cell o on the cells xs. -/
def Cells (w : World) (b o : Nat) (xs : List Value) : Prop := ∀ j u, xs[j]? = some u → w.cell? ⟨b, o + j, none⟩ = some u

theorem Cells.nil (w : World) (b o : Nat) : Cells w b o [] := fun j u h => by simp at h
theorem Cells.left {w : World} {b o : Nat} {xs ys : List Value} (h : Cells w b o (xs ++ ys)) : Cells w b o xs := fun j u hu =>
  h j u (by rw [List.getElem?_append_left (List.getElem?_eq_some_iff.1 hu).1]; exact hu)
theorem Cells.right {w : World} {b o : Nat} {xs ys : List Value} (h : Cells w b o (xs ++ ys)) : Cells w b (o + xs.length) ys := fun j u hu => by
  have := h (xs.length + j) u (by rw [List.getElem?_append_right (by omega)]; simpa using hu)
  rwa [← Nat.add_assoc] at this
theorem Cells.append {w : World} {b o : Nat} {xs ys : List Value} (h : Cells w b o xs) (h' : Cells w b (o + xs.length) ys) : Cells w b o (xs ++ ys) := fun j u hu => by
  by_cases hj : j < xs.length
  · rw [List.getElem?_append_left hj] at hu; exact h j u hu
  · rw [List.getElem?_append_right (by omega)] at hu
    have := h' (j - xs.length) u hu
    rwa [Nat.add_assoc, Nat.add_sub_cancel' (by omega)] at this
theorem Cells.keep {w w' : World} {b o : Nat} {xs : List Value} (h : Cells w b o xs) (hb : w'.heap[b]? = w.heap[b]?) : Cells w' b o xs :=
  fun j u hu => (World.cell?_of_block (a := ⟨b, o + j, none⟩) hb).trans (h j u hu)
theorem Cells.at0 {w : World} {b o : Nat} {x : Value} {xs : List Value} (h : Cells w b o (x :: xs)) : w.cell? ⟨b, o, none⟩ = some x := by simpa using h 0 x rfl
theorem Cells.tail {w : World} {b o : Nat} {x : Value} {xs : List Value} (h : Cells w b o (x :: xs)) : Cells w b (o + 1) xs := by
  have := Cells.right (xs := [x]) (ys := xs) h
  simpa using this

/-- A reading of a Lean type: cells, the value, the blocks that are met. -/
structure Rp (α : Type) where
  k : Nat
  R : World → List Value → α → List Nat → Prop
  len : ∀ {w cs x fp}, R w cs x fp → cs.length = k
  keep : ∀ {w w' : World} {cs x fp}, R w cs x fp → (∀ b ∈ fp, w'.heap[b]? = w.heap[b]?) → R w' cs x fp
  lt : ∀ {w cs x fp}, R w cs x fp → ∀ b ∈ fp, b < w.heap.size
  one : ∀ {w cs x fp}, R w cs x fp → ∀ u ∈ cs, u.oneCell' = true

theorem Rp.below {α : Type} (r : Rp α) {w w' : World} {cs : List Value} {x : α} {fp : List Nat} (h : r.R w cs x fp) {B : Nat} (hb : Below B w w') (hB : w.heap.size ≤ B) : r.R w' cs x fp :=
  r.keep h fun b hm => hb.block b (Nat.lt_of_lt_of_le (r.lt h b hm) hB)

/-- A type whose cells hang on no memory. -/
def Rp.flat {α : Type} (k : Nat) (enc : α → List Value) (hk : ∀ x, (enc x).length = k) (h1 : ∀ x, ∀ u ∈ enc x, u.oneCell' = true) : Rp α where
  k := k
  R := fun _ cs x fp => cs = enc x ∧ fp = []
  len := fun ⟨h, _⟩ => h ▸ hk _
  keep := fun h _ => h
  lt := fun ⟨_, h⟩ b hm => by subst h; cases hm
  one := fun ⟨h, _⟩ => h ▸ h1 _

def Rp.int : Rp Int := Rp.flat 1 (fun n => [.int .i64 n]) (fun _ => rfl) (fun x u hu => by simp at hu; subst hu; rfl)
def Rp.bool : Rp Bool := Rp.flat 1 (fun n => [.bool n]) (fun _ => rfl) (fun x u hu => by simp at hu; subst hu; rfl)
def Rp.str : Rp ByteArray := Rp.flat 1 (fun n => [.string n]) (fun _ => rfl) (fun x u hu => by simp at hu; subst hu; rfl)

/-- Two readings side by side. -/
def Rp.pair {α β : Type} (r : Rp α) (s : Rp β) : Rp (α × β) where
  k := r.k + s.k
  R := fun w cs x fp => ∃ c1 c2 f1 f2, cs = c1 ++ c2 ∧ fp = f1 ++ f2 ∧ r.R w c1 x.1 f1 ∧ s.R w c2 x.2 f2
  len := fun ⟨_, _, _, _, h, _, h1, h2⟩ => by rw [h, List.length_append, r.len h1, s.len h2]
  keep := fun ⟨c1, c2, f1, f2, h, hf, h1, h2⟩ hk => by
    subst hf
    exact ⟨c1, c2, f1, f2, h, rfl, r.keep h1 fun b hb => hk b (List.mem_append_left _ hb), s.keep h2 fun b hb => hk b (List.mem_append_right _ hb)⟩
  lt := fun ⟨c1, c2, f1, f2, h, hf, h1, h2⟩ b hb => by
    subst hf
    rcases List.mem_append.1 hb with hb | hb
    · exact r.lt h1 b hb
    · exact s.lt h2 b hb
  one := fun ⟨c1, c2, f1, f2, h, hf, h1, h2⟩ u hu => by
    subst h
    rcases List.mem_append.1 hu with hu | hu
    · exact r.one h1 u hu
    · exact s.one h2 u hu

/-- A reading through a function (a struct by the pairs of its fields). -/
def Rp.via {α β : Type} (r : Rp β) (f : α → β) : Rp α where
  k := r.k
  R := fun w cs x fp => r.R w cs (f x) fp
  len := fun h => r.len h
  keep := fun h hk => r.keep h hk
  lt := fun h => r.lt h
  one := fun h => r.one h

/-- A list of values, cell upon cell. -/
def AllR {α : Type} (r : Rp α) (w : World) : List Value → List α → List Nat → Prop
  | xs, [], fp => xs = [] ∧ fp = []
  | xs, x :: l, fp => ∃ c1 c2 f1 f2, xs = c1 ++ c2 ∧ fp = f1 ++ f2 ∧ r.R w c1 x f1 ∧ AllR r w c2 l f2

section
variable {α : Type} {r : Rp α} {w w' : World}
theorem AllR.len : ∀ {l : List α} {xs : List Value} {fp : List Nat}, AllR r w xs l fp → xs.length = l.length * r.k
  | [], _, _, ⟨h, _⟩ => by simp [h]
  | x :: l, xs, fp, ⟨c1, c2, f1, f2, h, _, h1, h2⟩ => by rw [h, List.length_append, r.len h1, AllR.len h2, List.length_cons, Nat.add_mul, Nat.one_mul, Nat.add_comm]
theorem AllR.keep : ∀ {l : List α} {xs : List Value} {fp : List Nat}, AllR r w xs l fp → (∀ b ∈ fp, w'.heap[b]? = w.heap[b]?) → AllR r w' xs l fp
  | [], _, _, h, _ => h
  | x :: l, xs, fp, ⟨c1, c2, f1, f2, h, hf, h1, h2⟩, hk => by
    subst hf
    exact ⟨c1, c2, f1, f2, h, rfl, r.keep h1 fun b hb => hk b (List.mem_append_left _ hb), AllR.keep h2 fun b hb => hk b (List.mem_append_right _ hb)⟩
theorem AllR.lt : ∀ {l : List α} {xs : List Value} {fp : List Nat}, AllR r w xs l fp → ∀ b ∈ fp, b < w.heap.size
  | [], _, _, ⟨_, h⟩, b, hb => by subst h; cases hb
  | x :: l, xs, fp, ⟨c1, c2, f1, f2, h, hf, h1, h2⟩, b, hb => by
    subst hf
    rcases List.mem_append.1 hb with hb | hb
    · exact r.lt h1 b hb
    · exact AllR.lt h2 b hb
theorem AllR.one : ∀ {l : List α} {xs : List Value} {fp : List Nat}, AllR r w xs l fp → ∀ u ∈ xs, u.oneCell' = true
  | [], _, _, ⟨h, _⟩, u, hu => by subst h; cases hu
  | x :: l, xs, fp, ⟨c1, c2, f1, f2, h, hf, h1, h2⟩, u, hu => by
    subst h
    rcases List.mem_append.1 hu with hu | hu
    · exact r.one h1 u hu
    · exact AllR.one h2 u hu
theorem AllR.append : ∀ {l l' : List α} {xs ys : List Value} {f g : List Nat}, AllR r w xs l f → AllR r w ys l' g → AllR r w (xs ++ ys) (l ++ l') (f ++ g)
  | [], _, _, _, _, _, ⟨h, h'⟩, k => by subst h; subst h'; exact k
  | x :: l, _, _, _, _, _, ⟨c1, c2, f1, f2, h, hf, h1, h2⟩, k => by
    subst h; subst hf
    exact ⟨c1, c2 ++ _, f1, f2 ++ _, by rw [List.append_assoc], by rw [List.append_assoc], h1, AllR.append h2 k⟩
theorem AllR.single {x : α} {xs : List Value} {f : List Nat} (h : r.R w xs x f) : AllR r w xs [x] f := ⟨xs, [], f, [], by simp, by simp, h, rfl, rfl⟩
theorem AllR.snoc {l : List α} {x : α} {xs ys : List Value} {f g : List Nat} (h : AllR r w xs l f) (h' : r.R w ys x g) : AllR r w (xs ++ ys) (l ++ [x]) (f ++ g) := h.append (.single h')
/-- The i-th value, with what stands ahead of it and behind it. -/
theorem AllR.split : ∀ {l : List α} {xs : List Value} {fp : List Nat} {i : Nat} (h : AllR r w xs l fp) (hi : i < l.length),
    ∃ c0 c c1 f0 f f1, xs = c0 ++ (c ++ c1) ∧ fp = f0 ++ (f ++ f1) ∧ c0.length = i * r.k ∧ AllR r w c0 (l.take i) f0 ∧ r.R w c l[i] f ∧ AllR r w c1 (l.drop (i + 1)) f1
  | x :: l, xs, fp, 0, ⟨c1, c2, f1, f2, h, hf, h1, h2⟩, _ => ⟨[], c1, c2, [], f1, f2, h, hf, by simp, ⟨rfl, rfl⟩, h1, h2⟩
  | x :: l, xs, fp, i + 1, ⟨c1, c2, f1, f2, h, hf, h1, h2⟩, hi => by
    obtain ⟨c0, c, c3, f0, f, f3, e1, e2, e3, e4, e5, e6⟩ := AllR.split (i := i) h2 (by simpa using hi)
    refine ⟨c1 ++ c0, c, c3, f1 ++ f0, f, f3, by rw [h, e1, List.append_assoc], by rw [hf, e2, List.append_assoc], ?_, ⟨c1, c0, f1, f0, rfl, rfl, h1, e4⟩, e5, e6⟩
    rw [List.length_append, r.len h1, e3, Nat.add_mul, Nat.one_mul, Nat.add_comm]
theorem AllR.nil : AllR r w [] [] [] := ⟨rfl, rfl⟩
end

theorem AllR.flat {α : Type} {k : Nat} {enc : α → List Value} {hk : ∀ x, (enc x).length = k} {h1 : ∀ x, ∀ u ∈ enc x, u.oneCell' = true} {w : World} :
    ∀ {l : List α} {xs : List Value} {fp : List Nat}, AllR (Rp.flat k enc hk h1) w xs l fp ↔ xs = l.flatMap enc ∧ fp = []
  | [], xs, fp => by simp [AllR]
  | x :: l, xs, fp => by
    simp only [AllR, List.flatMap_cons]
    constructor
    · rintro ⟨c1, c2, f1, f2, rfl, rfl, ⟨rfl, rfl⟩, h⟩
      obtain ⟨rfl, rfl⟩ := AllR.flat.1 h
      simp
    · rintro ⟨rfl, rfl⟩
      exact ⟨_, _, [], [], rfl, rfl, ⟨rfl, rfl⟩, AllR.flat.2 ⟨rfl, rfl⟩⟩

/-- The cells of a slice of n elements of k cells. -/
def Sl (w : World) (k : Nat) (A : Option Addr) (n : Nat) (xs : List Value) (fp : List Nat) : Prop :=
  xs.length = n * k ∧ ((n = 0 ∧ fp = []) ∨ (0 < n ∧ ∃ b o, A = some ⟨b, o, none⟩ ∧ fp = [b] ∧ b < w.heap.size ∧ Cells w b o xs))

theorem Sl.keep {w w' : World} {k : Nat} {A : Option Addr} {n : Nat} {xs : List Value} {fp : List Nat} (h : Sl w k A n xs fp) (hk : ∀ b ∈ fp, w'.heap[b]? = w.heap[b]?) : Sl w' k A n xs fp := by
  refine ⟨h.1, ?_⟩
  rcases h.2 with h | ⟨hn, b, o, hA, rfl, hb, hc⟩
  · exact .inl h
  · have e := hk b (by simp)
    refine .inr ⟨hn, b, o, hA, rfl, ?_, hc.keep e⟩
    rcases Nat.lt_or_ge b w'.heap.size with h | h
    · exact h
    · rw [Array.getElem?_eq_none h, Array.getElem?_eq_getElem hb] at e; cases e
theorem Sl.lt {w : World} {k : Nat} {A : Option Addr} {n : Nat} {xs : List Value} {fp : List Nat} (h : Sl w k A n xs fp) : ∀ b ∈ fp, b < w.heap.size := by
  rcases h.2 with ⟨_, rfl⟩ | ⟨hn, b, o, hA, rfl, hb, hc⟩
  · intro b hb; cases hb
  · intro b' hb'; simp at hb'; subst hb'; exact hb

/-- A slice value that reads as the list l. -/
def SlR {α : Type} (r : Rp α) (w : World) (A : Option Addr) (n c : Nat) (l : List α) (fp : List Nat) : Prop :=
  n = l.length ∧ n ≤ c ∧ c ≤ maxLen ∧ ∃ xs f0 f1, Sl w r.k A n xs f0 ∧ AllR r w xs l f1 ∧ fp = f0 ++ f1

def Rp.slice {α : Type} (r : Rp α) : Rp (List α) where
  k := 1
  R := fun w cs l fp => ∃ A n c, cs = [.slice A n c] ∧ SlR r w A n c l fp
  len := fun ⟨_, _, _, h, _⟩ => by rw [h]; rfl
  keep := fun ⟨A, n, c, h, hn, h1, h2, xs, f0, f1, hs, ha, hf⟩ hk => by
    subst hf
    exact ⟨A, n, c, h, hn, h1, h2, xs, f0, f1, hs.keep fun b hb => hk b (List.mem_append_left _ hb), ha.keep fun b hb => hk b (List.mem_append_right _ hb), rfl⟩
  lt := fun ⟨A, n, c, h, hn, h1, h2, xs, f0, f1, hs, ha, hf⟩ b hb => by
    subst hf
    rcases List.mem_append.1 hb with hb | hb
    · exact hs.lt b hb
    · exact ha.lt b hb
  one := fun ⟨A, n, c, h, _⟩ u hu => by subst h; simp at hu; subst hu; rfl

section
variable {α : Type} {r : Rp α} {w w' : World} {A : Option Addr} {n c : Nat} {l : List α} {fp : List Nat}
theorem SlR.keep (h : SlR r w A n c l fp) (hk : ∀ b ∈ fp, w'.heap[b]? = w.heap[b]?) : SlR r w' A n c l fp := by
  obtain ⟨hn, h1, h2, xs, f0, f1, hs, ha, hf⟩ := h
  subst hf
  exact ⟨hn, h1, h2, xs, f0, f1, hs.keep fun b hb => hk b (List.mem_append_left _ hb), ha.keep fun b hb => hk b (List.mem_append_right _ hb), rfl⟩
theorem SlR.lt (h : SlR r w A n c l fp) : ∀ b ∈ fp, b < w.heap.size := (Rp.slice r).lt ⟨A, n, c, rfl, h⟩
theorem SlR.below (h : SlR r w A n c l fp) {B : Nat} (hb : Below B w w') (hB : w.heap.size ≤ B) : SlR r w' A n c l fp :=
  h.keep fun b hm => hb.block b (Nat.lt_of_lt_of_le (h.lt b hm) hB)
theorem SlR.nil : SlR r w none 0 0 [] [] := ⟨rfl, Nat.le_refl _, by simp [maxLen], [], [], [], ⟨by simp, .inl ⟨rfl, rfl⟩⟩, ⟨rfl, rfl⟩, rfl⟩
/-- The i-th element: its address and its cells. -/
theorem SlR.get (h : SlR r w A n c l fp) {i : Nat} (hi : i < l.length) :
    ∃ b o cs f, A = some ⟨b, o, none⟩ ∧ b < w.heap.size ∧ b ∈ fp ∧ Cells w b (o + i * r.k) cs ∧ r.R w cs l[i] f ∧ ∀ x ∈ f, x ∈ fp := by
  obtain ⟨hn, h1, h2, xs, f0, f1, hs, ha, hf⟩ := h
  obtain ⟨c0, c, c1, g0, g, g1, e1, e2, e3, e4, e5, e6⟩ := ha.split hi
  rcases hs.2 with ⟨h0, _⟩ | ⟨hn0, b, o, hA, hf0, hb, hc⟩
  · omega
  · refine ⟨b, o, c, g, hA, hb, by rw [hf, hf0]; simp, ?_, e5, fun x hx => by rw [hf, e2]; simp [hx]⟩
    rw [e1] at hc
    have := hc.right.left
    rwa [e3] at this
end

theorem SlR.getFlat {α : Type} {k : Nat} {enc : α → List Value} {hk : ∀ x, (enc x).length = k} {h1 : ∀ x, ∀ u ∈ enc x, u.oneCell' = true} {w : World} {A : Option Addr} {n c : Nat} {l : List α} {fp : List Nat}
    (h : SlR (Rp.flat k enc hk h1) w A n c l fp) {i : Nat} (hi : i < l.length) : ∃ b o, A = some ⟨b, o, none⟩ ∧ b < w.heap.size ∧ b ∈ fp ∧ Cells w b (o + i * k) (enc l[i]) := by
  obtain ⟨b, o, cs, f, h1, h2, h3, h4, ⟨rfl, _⟩, _⟩ := h.get hi
  exact ⟨b, o, h1, h2, h3, h4⟩

/-- Blocks that may be written. -/
def Free (w : World) (fp : List Nat) : Prop := ∀ b ∈ fp, ∃ cur e, w.heap[b]? = some (.cells cur e (0, 0))
theorem Free.keep {w w' : World} {fp : List Nat} (h : Free w fp) (hk : ∀ b ∈ fp, w'.heap[b]? = w.heap[b]?) : Free w' fp := fun b hb => by rw [hk b hb]; exact h b hb
theorem Free.nil (w : World) : Free w [] := fun b hb => by cases hb
theorem Free.append {w : World} {f g : List Nat} (h : Free w f) (h' : Free w g) : Free w (f ++ g) := fun b hb => (List.mem_append.1 hb).elim (h b) (h' b)
theorem Free.left {w : World} {f g : List Nat} (h : Free w (f ++ g)) : Free w f := fun b hb => h b (List.mem_append_left _ hb)
theorem Free.right {w : World} {f g : List Nat} (h : Free w (f ++ g)) : Free w g := fun b hb => h b (List.mem_append_right _ hb)
theorem Free.frozen {w : World} {fp : List Nat} (h : Free w fp) {b : Nat} (hb : b ∈ fp) (o : Nat) : w.frozen? ⟨b, o, none⟩ = false := by
  obtain ⟨cur, e, h⟩ := h b hb
  simp [World.frozen?, h]

/-- Made anew behind w: read in w', in blocks of its own. -/
def Fresh {α : Type} (r : Rp α) (w w' : World) (cs : List Value) (x : α) : Prop := ∃ fp, r.R w' cs x fp ∧ fp.Nodup ∧ (∀ b ∈ fp, w.heap.size ≤ b) ∧ Free w' fp

/-- Out of what append leaves: a slice that reads as the list. -/
theorem SlR.of_owns {α : Type} {r : Rp α} {w : World} {base : Nat} {e : TypeId} {v : Value} {xs : List Value} {l : List α} {f1 : List Nat} (h : w.ownsRow base e r.k v l.length xs) (ha : AllR r w xs l f1) :
    ∃ A c f0, v = .slice A l.length c ∧ SlR r w A l.length c l (f0 ++ f1) ∧ (∀ b ∈ f0, v.ownBlock = some b ∧ base ≤ b) ∧ f0.Nodup ∧ Free w f0 := by
  obtain ⟨hl, h⟩ := h
  rcases h with ⟨rfl, h0⟩ | ⟨g, cap, cur, rfl, hb, hg, hn, hc, hs, ht⟩
  · have : l = [] := List.eq_nil_of_length_eq_zero h0
    subst this
    refine ⟨none, 0, [], rfl, ⟨rfl, Nat.le_refl _, by simp [maxLen], xs, [], f1, ⟨hl, .inl ⟨rfl, rfl⟩⟩, ha, rfl⟩, by simp, List.nodup_nil, Free.nil _⟩
  · by_cases h0 : l.length = 0
    · have : l = [] := List.eq_nil_of_length_eq_zero h0
      subst this
      exact ⟨_, cap, [], rfl, ⟨rfl, hn, hc, xs, [], f1, ⟨hl, .inl ⟨rfl, rfl⟩⟩, ha, rfl⟩, by simp, List.nodup_nil, Free.nil _⟩
    · have hlt : g < w.heap.size := (Array.getElem?_eq_some_iff.1 hg).1
      refine ⟨_, cap, [g], rfl, ⟨rfl, hn, hc, xs, [g], f1, ⟨hl, .inr ⟨by omega, g, 0, rfl, rfl, hlt, fun j u hu => ?_⟩⟩, ha, rfl⟩, ?_, by simp, ?_⟩
      · rw [cell_of_row w g (0 + j) cur e (0, 0) hg, Nat.zero_add]
        rw [← ht, List.getElem?_take] at hu
        split at hu
        · simpa using hu
        · cases hu
      · intro b hb'; simp at hb'; subst hb'; exact ⟨rfl, hb⟩
      · intro b hb'; simp at hb'; subst hb'; exact ⟨cur, e, hg⟩

/-- What a call hands back that makes a slice anew. -/
def FreshS {α : Type} (r : Rp α) (w : World) (l : List α) (e : Ending) (w' : World) : Prop :=
  ∃ A n c fp, e = .returned (.slice A n c) ∧ SlR r w' A n c l fp ∧ fp.Nodup ∧ (∀ b ∈ fp, w.heap.size ≤ b) ∧ Free w' fp ∧ Below w.heap.size w w'

theorem FreshS.of_owns {α : Type} {r : Rp α} {w w' : World} {e : TypeId} {v : Value} {xs : List Value} {l : List α} {f1 : List Nat} (h : w'.ownsRow w.heap.size e r.k v l.length xs) (ha : AllR r w' xs l f1)
    (hn : f1.Nodup) (hlo : ∀ b ∈ f1, w.heap.size ≤ b) (hf : Free w' f1) (hne : ∀ b ∈ f1, v.ownBlock ≠ some b) (hb : Below w.heap.size w w') : FreshS r w l (.returned v) w' := by
  obtain ⟨A, c, f0, rfl, hs, h0, hn0, hf0⟩ := SlR.of_owns h ha
  refine ⟨A, _, c, _, rfl, hs, ?_, fun b hb => ?_, hf0.append hf, hb⟩
  · refine List.nodup_append.2 ⟨hn0, hn, fun a ha b hb e => ?_⟩
    subst e
    exact hne a hb (h0 a ha).1
  · rcases List.mem_append.1 hb with hb | hb
    · exact (h0 b hb).2
    · exact hlo b hb

theorem FreshS.of_owns_flat {α : Type} {k : Nat} {enc : α → List Value} {hk : ∀ x, (enc x).length = k} {h1 : ∀ x, ∀ u ∈ enc x, u.oneCell' = true} {w w' : World} {e : TypeId} {v : Value} {l : List α}
    (h : w'.ownsRow w.heap.size e k v l.length (l.flatMap enc)) (hb : Below w.heap.size w w') : FreshS (Rp.flat k enc hk h1) w l (.returned v) w' :=
  FreshS.of_owns (r := Rp.flat k enc hk h1) (f1 := []) h (AllR.flat.2 ⟨rfl, rfl⟩) List.nodup_nil (by simp) (Free.nil _) (by simp) hb

/-- The cells of one element, laid into a new block, are there to be appended. -/
theorem news_alloc (w : World) (cs : List Value) (t : TypeId) : ∀ j u, cs[j]? = some u → (w.alloc (.cells cs.toArray t)).cell? ((⟨w.heap.size, 0, none⟩ : Addr).add j) = some u :=
  fun j u hu => World.news_of_block (heap_alloc_new w _) j u (by simpa using hu)

theorem news_alloc' {w : World} {H : Nat} (hH : w.heap.size = H) (cs : List Value) (t : TypeId) : ∀ j u, cs[j]? = some u → (w.alloc (.cells cs.toArray t)).cell? ((⟨H, 0, none⟩ : Addr).add j) = some u := by
  subst hH
  exact news_alloc w cs t

/-- Only blocks of fp, and new ones, may have turned. -/
structure Only (fp : List Nat) (w w' : World) : Prop where
  os : w'.os = w.os
  tape : w'.tape = w.tape
  output : w'.output = w.output
  size : w.heap.size ≤ w'.heap.size
  block : ∀ k, k < w.heap.size → k ∉ fp → w'.heap[k]? = w.heap[k]?

section
variable {fp f g : List Nat} {w w' w1 w2 : World} {B : Nat}
theorem Only.refl (fp : List Nat) (w : World) : Only fp w w := ⟨rfl, rfl, rfl, Nat.le_refl _, fun _ _ _ => rfl⟩
theorem Only.trans (h : Only fp w w1) (k : Only fp w1 w2) : Only fp w w2 :=
  ⟨k.os.trans h.os, k.tape.trans h.tape, k.output.trans h.output, Nat.le_trans h.size k.size, fun i hi hn => (k.block i (Nat.lt_of_lt_of_le hi h.size) hn).trans (h.block i hi hn)⟩
theorem Only.mono (h : Only f w w') (hs : ∀ x ∈ f, x ∈ g ∨ w.heap.size ≤ x) : Only g w w' := ⟨h.os, h.tape, h.output, h.size, fun i hi hn => h.block i hi fun hf => by rcases hs i hf with h | h <;> first | exact hn h | omega⟩
theorem Only.below (h : Only fp w w') (hB : ∀ b ∈ fp, B ≤ b) (hs : B ≤ w.heap.size) : Below B w w' :=
  ⟨h.os, h.tape, h.output, h.size, fun i hi => h.block i (by omega) fun hf => by have := hB i hf; omega⟩
theorem Only.of_below (h : Below w.heap.size w w') (fp : List Nat) : Only fp w w' := ⟨h.os, h.tape, h.output, h.size, fun i hi _ => h.block i hi⟩
theorem Only.step (h : Only fp w w1) (k1 : w2.os = w1.os) (k2 : w2.tape = w1.tape) (k3 : w2.output = w1.output) (k4 : w1.heap.size ≤ w2.heap.size) (k5 : ∀ i, i < w.heap.size → i ∉ fp → w2.heap[i]? = w1.heap[i]?) : Only fp w w2 :=
  ⟨k1.trans h.os, k2.trans h.tape, k3.trans h.output, Nat.le_trans h.size k4, fun i hi hn => (k5 i hi hn).trans (h.block i hi hn)⟩
theorem Only.setCell (h : Only fp w w1) {p : Addr} (hp : p.block ∈ fp ∨ w.heap.size ≤ p.block) (u : Value) : Only fp w (w1.setCell p u) :=
  h.step rfl rfl rfl (by simp [World.setCell]) fun i hi hn => Below.heap_setCell _ _ _ _ (by rintro rfl; rcases hp with hp | hp <;> first | exact hn hp | omega)
theorem Only.drew (h : Only fp w w1) : Only fp w w1.drew := h.step rfl rfl rfl (Nat.le_refl _) fun _ _ _ => rfl
theorem Only.alloc (h : Only fp w w1) (o : Obj) : Only fp w (w1.alloc o) := h.step rfl rfl rfl (by simp) fun i hi _ => Below.heap_alloc _ _ _ (Nat.lt_of_lt_of_le hi h.size)
theorem Only.then_below (h : Only fp w w1) (k : Below w1.heap.size w1 w2) : Only fp w w2 := h.step k.os k.tape k.output k.size fun i hi _ => k.block i (Nat.lt_of_lt_of_le hi h.size)
theorem Only.then_only (h : Only fp w w1) (k : Only f w1 w2) (hf : ∀ x ∈ f, x ∈ fp ∨ w.heap.size ≤ x) : Only fp w w2 :=
  h.step k.os k.tape k.output k.size fun i hi hn => k.block i (Nat.lt_of_lt_of_le hi h.size) fun hx => by rcases hf i hx with h | h <;> first | exact hn h | omega
end

/-- What a store leaves of a block that may be written. -/
theorem heap_setCell_free {w : World} {g i : Nat} {cur : Array Value} {e : TypeId} (h : w.heap[g]? = some (.cells cur e (0, 0))) (v : Value) : (w.setCell ⟨g, i, none⟩ v).heap[g]? = some (.cells (cur.setIfInBounds i v) e (0, 0)) := by
  simp [World.setCell, Array.getElem?_modify, h]
theorem Free.setCell {w : World} {fp : List Nat} (h : Free w fp) (p : Addr) (hs : p.spot = none) (v : Value) : Free (w.setCell p v) fp := fun b hb => by
  obtain ⟨cur, e, hc⟩ := h b hb
  by_cases hp : b = p.block
  · subst hp
    obtain ⟨g, o, s⟩ := p
    cases hs
    exact ⟨_, e, heap_setCell_free hc v⟩
  · exact ⟨cur, e, (Below.heap_setCell _ _ _ _ hp).trans hc⟩

section
variable {α : Type} {r : Rp α} {w : World}
theorem AllR.set : ∀ {l : List α} {c0 c1 : List Value} {f0 f f1 : List Nat} {i : Nat} {w' : World} {cs' : List Value} {y : α} (_ : i < l.length), AllR r w c0 (l.take i) f0 → AllR r w c1 (l.drop (i + 1)) f1 → r.R w' cs' y f →
    (∀ b ∈ f0 ++ f1, w'.heap[b]? = w.heap[b]?) → AllR r w' (c0 ++ (cs' ++ c1)) (l.set i y) (f0 ++ (f ++ f1))
  | l, c0, c1, f0, f, f1, i, w', cs', y, hi, h0, h1, hr, hk => by
    rw [List.set_eq_take_append_cons_drop, if_pos hi]
    exact (h0.keep fun b hb => hk b (List.mem_append_left _ hb)).append ⟨cs', c1, f, f1, rfl, rfl, hr, h1.keep fun b hb => hk b (List.mem_append_right _ hb)⟩

/-- One element is written over, in place. -/
theorem SlR.upd {A : Option Addr} {n c : Nat} {l : List α} {fp : List Nat} (h : SlR r w A n c l fp) (hn : fp.Nodup) {i : Nat} (hi : i < l.length) :
    ∃ b o cs f, A = some ⟨b, o, none⟩ ∧ b ∈ fp ∧ b ∉ f ∧ (∀ x ∈ f, x ∈ fp) ∧ f.Nodup ∧ b < w.heap.size ∧ Cells w b (o + i * r.k) cs ∧ r.R w cs l[i] f ∧
      ∀ (w' : World) (cs' : List Value) (y : α), (∀ j, j < o + i * r.k ∨ o + i * r.k + r.k ≤ j → w'.cell? ⟨b, j, none⟩ = w.cell? ⟨b, j, none⟩) → b < w'.heap.size → Cells w' b (o + i * r.k) cs' → r.R w' cs' y f →
        (∀ x ∈ fp, x ≠ b → x ∉ f → w'.heap[x]? = w.heap[x]?) → SlR r w' A n c (l.set i y) fp := by
  obtain ⟨hn', h1, h2, xs, f0, f1, hs, ha, hf⟩ := h
  obtain ⟨c0, cs, c1, g0, g, g1, e1, e2, e3, e4, e5, e6⟩ := ha.split hi
  rcases hs.2 with ⟨h0, _⟩ | ⟨hn0, b, o, hA, hf0, hb, hc⟩
  · omega
  · subst hf; subst hf0; subst e2; subst e1
    have hn2 : (b :: (g0 ++ (g ++ g1))).Nodup := hn
    have hbn : b ∉ g0 ++ (g ++ g1) := (List.nodup_cons.1 hn2).1
    have hnd : (g0 ++ (g ++ g1)).Nodup := (List.nodup_cons.1 hn2).2
    have hgn : g.Nodup := (List.nodup_append.1 (List.nodup_append.1 hnd).2.1).1
    have hd0 : ∀ x ∈ g0, x ∉ g := fun x hx hg => (List.nodup_append.1 hnd).2.2 x hx x (List.mem_append_left _ hg) rfl
    have hd1 : ∀ x ∈ g1, x ∉ g := fun x hx hg => (List.nodup_append.1 (List.nodup_append.1 hnd).2.1).2.2 x hg x hx rfl
    have hcc := hc.right.left
    rw [e3] at hcc
    refine ⟨b, o, cs, g, hA, by simp, fun hm => hbn (by simp [hm]), fun x hx => by simp [hx], hgn, hb, hcc, e5, fun w' cs' y hother hb' hcs' hy hk => ?_⟩
    have hlen := r.len hy
    have hlen0 := r.len e5
    refine ⟨by simpa using hn', h1, h2, c0 ++ (cs' ++ c1), [b], g0 ++ (g ++ g1), ⟨?_, .inr ⟨hn0, b, o, hA, rfl, hb', ?_⟩⟩, ?_, rfl⟩
    · have := hs.1
      simp only [List.length_append] at this ⊢
      omega
    · have hl0 : Cells w' b o c0 := fun j u hu => by
        have hj := (List.getElem?_eq_some_iff.1 hu).1
        rw [hother (o + j) (by omega)]
        exact hc.left j u hu
      have hl1 : Cells w' b (o + (c0 ++ cs').length) c1 := fun j u hu => by
        have hr := hc.right.right j u hu
        rw [hother _ (by simp only [List.length_append]; omega), ← hr]
        congr 2
        simp only [List.length_append]
        omega
      rw [← List.append_assoc]
      refine Cells.append (Cells.append hl0 ?_) hl1
      rw [e3]
      exact hcs'
    · refine AllR.set hi e4 e6 hy fun x hx => ?_
      rcases List.mem_append.1 hx with hx | hx
      · exact hk x (by simp [hx]) (fun e => hbn (by rw [← e]; simp [hx])) (hd0 x hx)
      · exact hk x (by simp [hx]) (fun e => hbn (by rw [← e]; simp [hx])) (hd1 x hx)
end

/-- One element of a row that is being written: w0: before; w: now; fp: all blocks; f: the element's own; its cells now. -/
structure Elem (w0 w : World) (fp f : List Nat) (b o : Nat) (cs : List Value) : Prop where
  mem : b ∈ fp
  nmem : b ∉ f
  sub : ∀ x ∈ f, x ∈ fp
  cells : Cells w b o cs
  other : ∀ j, j < o ∨ o + cs.length ≤ j → w.cell? ⟨b, j, none⟩ = w0.cell? ⟨b, j, none⟩
  same : ∀ x ∈ fp, x ≠ b → x ∉ f → w.heap[x]? = w0.heap[x]?
  only : Only fp w0 w
  free : Free w fp
  old : ∀ x ∈ fp, x < w0.heap.size

section
variable {w0 w w1 : World} {fp f : List Nat} {b o : Nat} {cs : List Value}
theorem Elem.put (h : Elem w0 w fp f b o cs) {j : Nat} (hj : j < cs.length) (v : Value) : Elem w0 (w.setCell ⟨b, o + j, none⟩ v) fp f b o (cs.set j v) where
  mem := h.mem
  nmem := h.nmem
  sub := h.sub
  cells := fun i u hu => by
    by_cases e : j = i
    · subst e
      rw [List.getElem?_set_self hj] at hu
      cases hu
      exact World.cell?_setCell_same w _ _ (h.cells j cs[j] (List.getElem?_eq_getElem hj))
    · rw [List.getElem?_set_ne e] at hu
      rw [World.cell?_setCell_other _ _ _ _ (by simp only [ne_eq, Addr.mk.injEq]; omega)]
      exact h.cells i u hu
  other := fun i hi => by
    rw [List.length_set] at hi
    rw [World.cell?_setCell_other _ _ _ _ (by simp only [ne_eq, Addr.mk.injEq]; omega)]
    exact h.other i hi
  same := fun x hx hb hf => (Below.heap_setCell _ _ _ _ hb).trans (h.same x hx hb hf)
  only := h.only.setCell (.inl h.mem) v
  free := h.free.setCell _ rfl v
  old := h.old
theorem Elem.below (h : Elem w0 w fp f b o cs) (hb : Below w.heap.size w w1) : Elem w0 w1 fp f b o cs where
  mem := h.mem
  nmem := h.nmem
  sub := h.sub
  cells := h.cells.keep (hb.block b (Nat.lt_of_lt_of_le (h.old b h.mem) h.only.size))
  other := fun j hj => (hb.cell (p := ⟨b, j, none⟩) (Nat.lt_of_lt_of_le (h.old b h.mem) h.only.size)).trans (h.other j hj)
  same := fun x hx hn hf => (hb.block x (Nat.lt_of_lt_of_le (h.old x hx) h.only.size)).trans (h.same x hx hn hf)
  only := h.only.then_below hb
  free := h.free.keep fun x hx => hb.block x (Nat.lt_of_lt_of_le (h.old x hx) h.only.size)
  old := h.old
theorem Elem.inner (h : Elem w0 w fp f b o cs) (hb : Only f w w1) (hf : Free w1 f) : Elem w0 w1 fp f b o cs where
  mem := h.mem
  nmem := h.nmem
  sub := h.sub
  cells := h.cells.keep (hb.block b (Nat.lt_of_lt_of_le (h.old b h.mem) h.only.size) h.nmem)
  other := fun j hj => (World.cell?_of_block (a := ⟨b, j, none⟩) (hb.block b (Nat.lt_of_lt_of_le (h.old b h.mem) h.only.size) h.nmem)).trans (h.other j hj)
  same := fun x hx hn hf => (hb.block x (Nat.lt_of_lt_of_le (h.old x hx) h.only.size) hf).trans (h.same x hx hn hf)
  only := h.only.then_only hb fun x hx => .inl (h.sub x hx)
  free := fun x hx => by
    by_cases hxf : x ∈ f
    · exact hf x hxf
    · rw [hb.block x (Nat.lt_of_lt_of_le (h.old x hx) h.only.size) hxf]
      exact h.free x hx
  old := h.old
theorem Elem.frozen (h : Elem w0 w fp f b o cs) (j : Nat) : w.frozen? ⟨b, j, none⟩ = false := h.free.frozen h.mem j
end

theorem SlR.elem {α : Type} {r : Rp α} {w : World} {A : Option Addr} {n c : Nat} {l : List α} {fp : List Nat} (h : SlR r w A n c l fp) (hn : fp.Nodup) (hf : Free w fp) {i : Nat} (hi : i < l.length) :
    ∃ b o cs f, A = some ⟨b, o, none⟩ ∧ f.Nodup ∧ r.R w cs l[i] f ∧ Elem w w fp f b (o + i * r.k) cs ∧ ∀ (w' : World) (cs' : List Value) (y : α), Elem w w' fp f b (o + i * r.k) cs' → r.R w' cs' y f → SlR r w' A n c (l.set i y) fp := by
  obtain ⟨b, o, cs, f, hA, hb, hbf, hsub, hfn, hlt, hc, hr, hcl⟩ := h.upd hn hi
  refine ⟨b, o, cs, f, hA, hfn, hr, ⟨hb, hbf, hsub, hc, fun _ _ => rfl, fun _ _ _ _ => rfl, Only.refl _ _, hf, h.lt⟩, fun w' cs' y he hy => ?_⟩
  have hl := r.len hy
  exact hcl w' cs' y (fun j hj => he.other j (by rw [hl]; exact hj)) (Nat.lt_of_lt_of_le hlt he.only.size) he.cells hy he.same

/-- The same, the element in other blocks of its own. -/
theorem SlR.elemNew {α : Type} {r : Rp α} {w : World} {A : Option Addr} {n c : Nat} {l : List α} {fp : List Nat} (h : SlR r w A n c l fp) (hn : fp.Nodup) (hf : Free w fp) {i : Nat} (hi : i < l.length) :
    ∃ b o cs f, A = some ⟨b, o, none⟩ ∧ f.Nodup ∧ r.R w cs l[i] f ∧ Elem w w fp f b (o + i * r.k) cs ∧
      ∀ (w' : World) (cs' : List Value) (y : α) (f' : List Nat), Elem w w' fp f b (o + i * r.k) cs' → r.R w' cs' y f' → f'.Nodup → (∀ x ∈ f', x ∈ f ∨ w.heap.size ≤ x) → Free w' f' →
        ∃ fp', SlR r w' A n c (l.set i y) fp' ∧ fp'.Nodup ∧ Free w' fp' ∧ ∀ x ∈ fp', x ∈ fp ∨ x ∈ f' := by
  obtain ⟨b0, o0, cs0, ff, hA0, hfn0, hr0, hE0, hcl0⟩ := h.elem hn hf hi
  obtain ⟨hn', h1, h2, xs, f0, f1, hs, ha, hfe⟩ := id h
  obtain ⟨c0, cs, c1, g0, g, g1, e1, e2, e3, e4, e5, e6⟩ := ha.split hi
  rcases hs.2 with ⟨h0, _⟩ | ⟨hn0, b, o, hA, hf0, hb, hc⟩
  · omega
  · subst hfe; subst hf0; subst e2; subst e1
    have hn2 : (b :: (g0 ++ (g ++ g1))).Nodup := hn
    have hbn : b ∉ g0 ++ (g ++ g1) := (List.nodup_cons.1 hn2).1
    have hnd : (g0 ++ (g ++ g1)).Nodup := (List.nodup_cons.1 hn2).2
    have hn1 := (List.nodup_append.1 hnd).2.1
    have hgn : g.Nodup := (List.nodup_append.1 hn1).1
    have hd0 : ∀ x ∈ g0, x ∉ g := fun x hx hg => (List.nodup_append.1 hnd).2.2 x hx x (List.mem_append_left _ hg) rfl
    have hd1 : ∀ x ∈ g1, x ∉ g := fun x hx hg => (List.nodup_append.1 hn1).2.2 x hg x hx rfl
    have hd01 : ∀ x ∈ g0, x ∉ g1 := fun x hx hg => (List.nodup_append.1 hnd).2.2 x hx x (List.mem_append_right _ hg) rfl
    have hcc := hc.right.left
    rw [e3] at hcc
    have hE : Elem w w ([b] ++ (g0 ++ (g ++ g1))) g b (o + i * r.k) cs := ⟨by simp, fun hm => hbn (by simp [hm]), fun x hx => by simp [hx], hcc, fun _ _ => rfl, fun _ _ _ _ => rfl, Only.refl _ _, hf, h.lt⟩
    refine ⟨b, o, cs, g, hA, hgn, e5, hE, fun w' cs' y f' he hy hfn' hnew hfree => ?_⟩
    have hlen := r.len hy
    have hlen0 := r.len e5
    have hlt0 : ∀ x ∈ g0 ++ g1, x < w.heap.size := fun x hx => h.lt x (by rcases List.mem_append.1 hx with hx | hx <;> simp [hx])
    have hnf : ∀ x ∈ f', x ∉ g0 ∧ x ∉ g1 ∧ x ≠ b := fun x hx => by
      rcases hnew x hx with hx | hx
      · exact ⟨fun h => hd0 x h hx, fun h => hd1 x h hx, fun e => hbn (by rw [← e]; simp [hx])⟩
      · refine ⟨fun h => ?_, fun h => ?_, fun e => by omega⟩
        · have := hlt0 x (by simp [h]); omega
        · have := hlt0 x (by simp [h]); omega
    refine ⟨[b] ++ (g0 ++ (f' ++ g1)), ⟨by simpa using hn', h1, h2, c0 ++ (cs' ++ c1), [b], g0 ++ (f' ++ g1), ⟨?_, .inr ⟨hn0, b, o, hA, rfl, Nat.lt_of_lt_of_le hb he.only.size, ?_⟩⟩, ?_, rfl⟩, ?_, ?_, ?_⟩
    · have := hs.1
      simp only [List.length_append] at this ⊢
      omega
    · have hl0 : Cells w' b o c0 := fun j u hu => by
        have hj := (List.getElem?_eq_some_iff.1 hu).1
        rw [he.other (o + j) (by omega)]
        exact hc.left j u hu
      have hl1 : Cells w' b (o + (c0 ++ cs').length) c1 := fun j u hu => by
        have hr := hc.right.right j u hu
        rw [he.other _ (by simp only [List.length_append]; omega), ← hr]
        congr 2
        simp only [List.length_append]
        omega
      rw [← List.append_assoc]
      refine Cells.append (Cells.append hl0 ?_) hl1
      rw [e3]
      exact he.cells
    · refine AllR.set hi e4 e6 hy fun x hx => ?_
      rcases List.mem_append.1 hx with hx | hx
      · exact he.same x (by simp [hx]) (fun e => hbn (by rw [← e]; simp [hx])) (hd0 x hx)
      · exact he.same x (by simp [hx]) (fun e => hbn (by rw [← e]; simp [hx])) (hd1 x hx)
    · show (b :: (g0 ++ (f' ++ g1))).Nodup
      refine List.nodup_cons.2 ⟨fun hm => ?_, List.nodup_append.2 ⟨(List.nodup_append.1 hnd).1, List.nodup_append.2 ⟨hfn', (List.nodup_append.1 hn1).2.1, fun a ha c hc e => ?_⟩, fun a ha c hc e => ?_⟩⟩
      · rcases List.mem_append.1 hm with hm | hm
        · exact hbn (by simp [hm])
        · rcases List.mem_append.1 hm with hm | hm
          · exact (hnf b hm).2.2 rfl
          · exact hbn (by simp [hm])
      · subst e
        exact (hnf a ha).2.1 hc
      · subst e
        rcases List.mem_append.1 hc with hc | hc
        · exact (hnf a hc).1 ha
        · exact hd01 a ha hc
    · intro x hx
      simp only [List.mem_append] at hx
      rcases hx with hx | hx | hx | hx
      · exact he.free x (by simp only [List.mem_append]; exact .inl hx)
      · exact he.free x (by simp [hx])
      · exact hfree x hx
      · exact he.free x (by simp [hx])
    · intro x hx
      simp only [List.mem_append] at hx ⊢
      rcases hx with hx | hx | hx | hx
      · exact .inl (.inl hx)
      · exact .inl (.inr (.inl hx))
      · exact .inr hx
      · exact .inl (.inr (.inr (.inr hx)))

/-- Marks, one after the other. -/
def markL {α : Type} (mk : α → Int → α) (ct : α → Nat) : List α → Int → List α
  | [], _ => []
  | x :: l, k => mk x k :: markL mk ct l (k + ct x)
def countL {α : Type} (ct : α → Nat) (l : List α) : Nat := (l.map ct).sum
def markTo {α : Type} (mk : α → Int → α) (ct : α → Nat) (l : List α) (k : Int) (i : Nat) : List α := markL mk ct (l.take i) k ++ l.drop i

section
variable {α : Type} {mk : α → Int → α} {ct : α → Nat} {l : List α} {k : Int} {i : Nat}
theorem markL_length (mk : α → Int → α) (ct : α → Nat) : ∀ (l : List α) (k : Int), (markL mk ct l k).length = l.length
  | [], _ => rfl
  | x :: l, k => by simp [markL, markL_length mk ct l]
theorem markL_append (mk : α → Int → α) (ct : α → Nat) : ∀ (l l' : List α) (k : Int), markL mk ct (l ++ l') k = markL mk ct l k ++ markL mk ct l' (k + countL ct l)
  | [], l', k => by simp [markL, countL]
  | x :: l, l', k => by
    have e : k + ct x + countL ct l = k + countL ct (x :: l) := by simp [countL]; omega
    simp [markL, markL_append mk ct l, e]
theorem countL_take_succ (hi : i < l.length) : countL ct (l.take (i + 1)) = countL ct (l.take i) + ct l[i] := by
  rw [List.take_succ_eq_append_getElem hi]
  simp only [countL, List.map_append, List.sum_append, List.map_cons, List.map_nil, List.sum_cons, List.sum_nil, Nat.add_zero]
theorem countL_take_le (ct : α → Nat) (l : List α) (i : Nat) : countL ct (l.take i) ≤ countL ct l := by
  have h : countL ct (l.take i ++ l.drop i) = countL ct (l.take i) + countL ct (l.drop i) := by
    simp only [countL, List.map_append, List.sum_append]
  rw [List.take_append_drop] at h
  omega
theorem markTo_zero : markTo mk ct l k 0 = l := by simp [markTo, markL]
theorem markTo_end : markTo mk ct l k l.length = markL mk ct l k := by simp [markTo]
theorem markTo_length : (markTo mk ct l k i).length = l.length := by
  simp [markTo, markL_length]
  omega
theorem markTo_get (hi : i < l.length) (h : i < (markTo mk ct l k i).length) : (markTo mk ct l k i)[i] = l[i] := by
  have hl : (markL mk ct (l.take i) k).length = i := by simp [markL_length]; omega
  have e : (markTo mk ct l k i)[i]? = l[i]? := by
    unfold markTo
    rw [List.getElem?_append_right (by omega), hl, Nat.sub_self, List.getElem?_drop, Nat.add_zero]
  rw [List.getElem?_eq_getElem h, List.getElem?_eq_getElem hi] at e
  exact Option.some.inj e
theorem markTo_set (hi : i < l.length) : (markTo mk ct l k i).set i (mk l[i] (k + countL ct (l.take i))) = markTo mk ct l k (i + 1) := by
  have hl : (markL mk ct (l.take i) k).length = i := by simp [markL_length]; omega
  unfold markTo
  rw [List.take_succ_eq_append_getElem hi, markL_append, List.set_append_right _ _ (by omega), hl, Nat.sub_self, List.drop_eq_getElem_cons hi, List.set_cons_zero, List.append_assoc]
  rfl
theorem markL_get (hi : i < l.length) (h : i < (markL mk ct l k).length) : (markL mk ct l k)[i] = mk l[i] (k + countL ct (l.take i)) := by
  have e : markL mk ct l k = markL mk ct (l.take (i + 1)) k ++ markL mk ct (l.drop (i + 1)) (k + countL ct (l.take (i + 1))) := by
    rw [← markL_append, List.take_append_drop]
  have hl : (markL mk ct (l.take i) k).length = i := by simp [markL_length]; omega
  rw [List.take_succ_eq_append_getElem hi, markL_append] at e
  simp only [e]
  rw [List.getElem_append_left (by simp [hl, markL]), List.getElem_append_right (by omega)]
  simp [hl, markL]
end

section
variable {α : Type} {r : Rp α} {w w1 : World} {A : Option Addr} {n c : Nat} {l : List α} {g fp f : List Nat}
theorem SlR.putN (h : SlR r w A n c l g) {b j : Nat} (hb : b ∉ g) (v : Value) : SlR r (w.setCell ⟨b, j, none⟩ v) A n c l g :=
  h.keep fun x hx => Below.heap_setCell _ _ _ _ (by rintro rfl; exact hb hx)
theorem SlR.step (h : SlR r w A n c l g) (hb : Below w.heap.size w w1) : SlR r w1 A n c l g := h.below hb (Nat.le_refl _)
theorem SlR.only (h : SlR r w A n c l g) (hb : Only f w w1) (hd : ∀ x ∈ g, x ∉ f) : SlR r w1 A n c l g := h.keep fun x hx => hb.block x (h.lt x hx) (hd x hx)
theorem Free.sub (h : Free w fp) (hs : ∀ x ∈ g, x ∈ fp) : Free w g := fun b hb => h b (hs b hb)
theorem Free.other (h : Free w fp) (hb : Only g w w1) (hg : Free w1 g) (hl : ∀ x ∈ fp, x < w.heap.size) : Free w1 fp := fun b hm => by
  by_cases hx : b ∈ g
  · exact hg b hx
  · rw [hb.block b (hl b hm) hx]
    exact h b hm
theorem Free.lt (h : Free w fp) : ∀ x ∈ fp, x < w.heap.size := fun b hb => by
  obtain ⟨cur, e, h⟩ := h b hb
  exact (Array.getElem?_eq_some_iff.1 h).1
end

/-- The rows of a slice that is being marked: i of them are; m: the next mark. -/
def MarkRel {α : Type} (r : Rp α) (mk : α → Int → α) (ct : α → Nat) (w : World) (x : List α) (A : Option Addr) (c : Nat) (fp : List Nat) (k0 : Int) (i : Nat) (m : Int) (wr : World) : Prop :=
  m = k0 + (countL ct (x.take i) : Nat) ∧ SlR r wr A x.length c (markTo mk ct x k0 i) fp ∧ Only fp w wr ∧ Free wr fp

section
variable {α : Type} {r : Rp α} {mk : α → Int → α} {ct : α → Nat} {w : World} {x : List α} {A : Option Addr} {c : Nat} {fp : List Nat} {k0 : Int} {i : Nat} {m : Int} {wr : World}
theorem MarkRel.start (h : SlR r w A x.length c x fp) (hf : Free w fp) : MarkRel r mk ct w x A c fp k0 0 k0 w := ⟨by simp [countL], by rw [markTo_zero]; exact h, Only.refl _ _, hf⟩
theorem MarkRel.low (h : MarkRel r mk ct w x A c fp k0 i m wr) (hk : 0 ≤ k0) : 0 ≤ m := by have := h.1; omega
theorem MarkRel.high (h : MarkRel r mk ct w x A c fp k0 i m wr) (hi : i < x.length) : m + (ct x[i] : Nat) ≤ k0 + (countL ct x : Nat) := by
  have h1 := h.1
  have h2 := countL_take_succ (ct := ct) hi
  have h3 := countL_take_le ct x (i + 1)
  omega
theorem MarkRel.next (h : MarkRel r mk ct w x A c fp k0 i m wr) (hn : fp.Nodup) (hi : i < x.length) :
    ∃ b o cs f, A = some ⟨b, o, none⟩ ∧ f.Nodup ∧ r.R wr cs x[i] f ∧ Elem wr wr fp f b (o + i * r.k) cs ∧
      ∀ w' cs', Elem wr w' fp f b (o + i * r.k) cs' → r.R w' cs' (mk x[i] m) f → MarkRel r mk ct w x A c fp k0 (i + 1) (m + (ct x[i] : Nat)) w' := by
  obtain ⟨hm, hs, ho, hf⟩ := h
  have hl : i < (markTo mk ct x k0 i).length := by rw [markTo_length]; exact hi
  obtain ⟨b, o, cs, f, hA, hfn, hR, hE, hcl⟩ := hs.elem hn hf hl
  rw [markTo_get hi hl] at hR
  refine ⟨b, o, cs, f, hA, hfn, hR, hE, fun w' cs' hE' hR' => ⟨?_, ?_, ?_, hE'.free⟩⟩
  · rw [countL_take_succ hi]; omega
  · have := hcl w' cs' _ hE' hR'
    rw [hm, markTo_set hi] at this
    exact this
  · exact ho.then_only hE'.only fun _ hx => .inl hx
theorem MarkRel.finish (h : MarkRel r mk ct w x A c fp k0 x.length m wr) : Ending.returned (.int .i64 m) = .returned (.int .i64 (k0 + (countL ct x : Nat))) ∧ SlR r wr A x.length c (markL mk ct x k0) fp ∧ Only fp w wr ∧ Free wr fp := by
  obtain ⟨hm, hs, ho, hf⟩ := h
  rw [List.take_length] at hm
  rw [markTo_end] at hs
  exact ⟨by rw [hm], hs, ho, hf⟩
end

/-- Where a look over marks stands. -/
def HeldTo {α : Type} (ct : α → Nat) (x : List α) (k0 : Int) (i : Nat) (m : Int) : Prop := m = k0 + (countL ct (x.take i) : Nat)
section
variable {α : Type} {ct : α → Nat} {x : List α} {k0 m : Int} {i : Nat}
theorem HeldTo.start : HeldTo ct x k0 0 k0 := by simp [HeldTo, countL]
theorem HeldTo.low (h : HeldTo ct x k0 i m) (hk : 0 ≤ k0) : 0 ≤ m := by unfold HeldTo at h; omega
theorem HeldTo.high (h : HeldTo ct x k0 i m) (hi : i < x.length) : m + (ct x[i] : Nat) ≤ k0 + (countL ct x : Nat) := by
  unfold HeldTo at h
  have h2 := countL_take_succ (ct := ct) hi
  have h3 := countL_take_le ct x (i + 1)
  omega
theorem HeldTo.next (h : HeldTo ct x k0 i m) (hi : i < x.length) : HeldTo ct x k0 (i + 1) (m + (ct x[i] : Nat)) := by
  unfold HeldTo at *
  rw [countL_take_succ hi]; omega
theorem HeldTo.get {mk : α → Int → α} (h : HeldTo ct x k0 i m) (hi : i < x.length) (hl : i < (markL mk ct x k0).length) : (markL mk ct x k0)[i] = mk x[i] m := by
  unfold HeldTo at h
  rw [markL_get hi, h]
theorem HeldTo.all_ (h : HeldTo ct x k0 x.length m) : m = k0 + (countL ct x : Nat) := by
  unfold HeldTo at h
  rwa [List.take_length] at h
end

theorem flatten_replicate_succ {α : Type} (n : Nat) (l : List α) : (List.replicate (n + 1) l).flatten = (List.replicate n l).flatten ++ l := by
  rw [List.replicate_succ', List.flatten_append]
  simp
theorem made_flatten (z : Array Value) (k : Nat) (hk : z.size = k) : ∀ n, (madeCells z (n * k)).toList = (List.replicate n z.toList).flatten
  | 0 => by simp [madeCells]
  | n + 1 => by
    have ih := made_flatten z k hk n
    rw [flatten_replicate_succ, ← ih]
    have e : (n + 1) * k = n * k + k := by rw [Nat.add_mul, Nat.one_mul]
    unfold madeCells
    rw [e, Array.toList_map, Array.toList_map, Array.toList_range, Array.toList_range, List.range_add, List.map_append]
    congr 1
    rw [List.map_map]
    apply List.ext_getElem?
    intro j
    by_cases hj : j < k
    · have h1 : (List.range k)[j]? = some j := by rw [List.getElem?_range hj]
      rw [List.getElem?_map, h1]
      have h2 : (n * k + j) % z.size = j := by rw [hk, Nat.add_comm, Nat.add_mul_mod_self_right, Nat.mod_eq_of_lt hj]
      simp only [Option.map_some, Function.comp]
      rw [h2, Array.getElem?_toList, Array.getElem?_eq_getElem (by omega), getElem!_pos z j (by omega)]
    · rw [List.getElem?_eq_none (by simp; omega), List.getElem?_eq_none (by simp; omega)]

theorem AllR.replicate {α : Type} {r : Rp α} {w : World} {zs : List Value} {z : α} (h : r.R w zs z []) : ∀ n, AllR r w (List.replicate n zs).flatten (List.replicate n z) []
  | 0 => ⟨rfl, rfl⟩
  | n + 1 => ⟨zs, _, [], [], by simp [List.replicate_succ], rfl, h, AllR.replicate h n⟩

/-- Several stores, one behind the other. -/
def puts (w : World) (b o : Nat) : List Value → World
  | [] => w
  | v :: vs => puts (w.setCell ⟨b, o, none⟩ v) b (o + 1) vs

theorem Elem.puts' {w0 : World} {fp f : List Nat} {b o : Nat} : ∀ {vs pre cs : List Value} {w : World}, Elem w0 w fp f b o (pre ++ cs) → vs.length = cs.length → Elem w0 (puts w b (o + pre.length) vs) fp f b o (pre ++ vs)
  | [], pre, cs, w, h, hl => by
    have : cs = [] := List.eq_nil_of_length_eq_zero (by simpa using hl.symm)
    subst this
    exact h
  | v :: vs, pre, c :: cs, w, h, hl => by
    have h1 := h.put (j := pre.length) (by simp) v
    have e : (pre ++ c :: cs).set pre.length v = (pre ++ [v]) ++ cs := by
      rw [List.set_append_right _ _ (Nat.le_refl _), Nat.sub_self, List.set_cons_zero, List.append_assoc]; rfl
    rw [e] at h1
    have h2 := Elem.puts' (vs := vs) h1 (by simpa using hl)
    rw [List.length_append, List.append_assoc] at h2
    exact h2
theorem Elem.puts {w0 w : World} {fp f : List Nat} {b o : Nat} {vs cs : List Value} (h : Elem w0 w fp f b o cs) (hl : vs.length = cs.length) : Elem w0 (puts w b o vs) fp f b o vs := Elem.puts' (pre := []) h hl
theorem puts_heap_other {b : Nat} : ∀ {vs : List Value} {o : Nat} {w : World} {x : Nat}, x ≠ b → (puts w b o vs).heap[x]? = w.heap[x]?
  | [], _, _, _, _ => rfl
  | _ :: vs, _, _, _, h => (puts_heap_other (vs := vs) h).trans (Below.heap_setCell _ _ _ _ h)
theorem puts_size {b : Nat} : ∀ {vs : List Value} {o : Nat} {w : World}, (puts w b o vs).heap.size = w.heap.size
  | [], _, _ => rfl
  | _ :: vs, _, _ => (puts_size (vs := vs)).trans (by simp [World.setCell])

/-- A slice of n that is being filled: the first k are there, the rest are zero. -/
def ToRel {α : Type} (r : Rp α) (w : World) (x : List α) (z : α) (A : Option Addr) (k : Nat) (wr : World) : Prop :=
  ∃ fp, SlR r wr A x.length x.length (x.take k ++ List.replicate (x.length - k) z) fp ∧ fp.Nodup ∧ Free wr fp ∧ (∀ b ∈ fp, w.heap.size ≤ b) ∧ Below w.heap.size w wr

section
variable {α : Type} {r : Rp α} {w wr : World} {x : List α} {z : α} {A : Option Addr} {k : Nat}
theorem ToRel.start {zs : Array Value} {e : TypeId} {g : Nat} (hz : ∀ w, r.R w zs.toList z []) (h : wr.ownsRow w.heap.size e r.k (.slice (some ⟨g, 0, none⟩) x.length x.length) x.length (madeCells zs (x.length * r.k)).toList) (hb : Below w.heap.size w wr) :
    ToRel r w x z (some ⟨g, 0, none⟩) 0 wr := by
  have hk : zs.size = r.k := by simpa using r.len (hz wr)
  rw [made_flatten zs r.k hk] at h
  have ha := AllR.replicate (hz wr) x.length
  have hl : (List.replicate x.length z).length = x.length := by simp
  have h' : wr.ownsRow w.heap.size e r.k (.slice (some ⟨g, 0, none⟩) x.length x.length) (List.replicate x.length z).length (List.replicate x.length zs.toList).flatten := by rw [hl]; exact h
  obtain ⟨A', c, f0, hv, hs, h0, hn, hf⟩ := SlR.of_owns h' ha
  rw [hl] at hv hs
  injection hv with hv1 _ hv2
  subst hv1; subst hv2
  rw [List.append_nil] at hs
  exact ⟨f0, by simpa using hs, hn, hf, fun b hb => (h0 b hb).2, hb⟩
theorem ToRel.start1 (h1 : r.k = 1) {zs : Array Value} {e : TypeId} {g : Nat} (hz : ∀ w, r.R w zs.toList z []) (h : wr.ownsRow w.heap.size e 1 (.slice (some ⟨g, 0, none⟩) x.length x.length) x.length (madeCells zs x.length).toList) (hb : Below w.heap.size w wr) :
    ToRel r w x z (some ⟨g, 0, none⟩) 0 wr := ToRel.start hz (by rw [h1, Nat.mul_one]; exact h) hb
theorem ToRel.finish (h : ToRel r w x z A x.length wr) : FreshS r w x (.returned (.slice A x.length x.length)) wr := by
  obtain ⟨fp, hs, hn, hf, hlo, hb⟩ := h
  simp only [List.take_length, Nat.sub_self, List.replicate_zero, List.append_nil] at hs
  exact ⟨A, _, _, fp, rfl, hs, hn, hlo, hf, hb⟩
theorem ToRel.set (hk : k < x.length) : (x.take k ++ List.replicate (x.length - k) z).set k x[k] = x.take (k + 1) ++ List.replicate (x.length - (k + 1)) z := by
  have hl : (x.take k).length = k := by simp; omega
  rw [List.set_append_right _ _ (by omega), hl, Nat.sub_self, List.take_succ_eq_append_getElem hk, List.append_assoc]
  congr 1
  obtain ⟨m, hm⟩ : ∃ m, x.length - k = m + 1 := ⟨x.length - k - 1, by omega⟩
  rw [hm, List.replicate_succ, List.set_cons_zero, show x.length - (k + 1) = m from by omega]
  rfl
/-- The next one: where it lies, and what storing it comes to. -/
theorem ToRel.next (h : ToRel r w x z A k wr) (hk : k < x.length) :
    ∃ b o cs, A = some ⟨b, o, none⟩ ∧ cs.length = r.k ∧ (∀ w1, Below wr.heap.size wr w1 → Cells w1 b (o + k * r.k) cs ∧ ∀ j, w1.frozen? ⟨b, j, none⟩ = false) ∧ Below w.heap.size w wr ∧
      ∀ w1 cs' f', Below wr.heap.size wr w1 → r.R w1 cs' x[k] f' → f'.Nodup → (∀ b ∈ f', wr.heap.size ≤ b) → Free w1 f' → ToRel r w x z A (k + 1) (puts w1 b (o + k * r.k) cs') := by
  obtain ⟨fp, hs, hn, hf, hlo, hb⟩ := h
  have hlen : k < (x.take k ++ List.replicate (x.length - k) z).length := by simp; omega
  obtain ⟨b, o, cs, f, hA, hfn, hr, hE, hcl⟩ := hs.elemNew hn hf hlen
  have hcs := r.len hr
  refine ⟨b, o, cs, hA, hcs, fun w1 hb1 => ⟨(hE.below hb1).cells, (hE.below hb1).frozen⟩, hb, fun w1 cs' f' hb1 hr' hfn' hlo' hf' => ?_⟩
  have hE1 := (hE.below hb1).puts (vs := cs') (by rw [hcs, r.len hr'])
  have hbf : b < wr.heap.size := hE.old b hE.mem
  have hbx : ∀ y ∈ f', y ≠ b := fun y hy e => by have := hlo' y hy; omega
  obtain ⟨fp', hs', hn', hfr, hsub⟩ := hcl _ cs' x[k] f' hE1 (r.keep hr' fun y hy => puts_heap_other (hbx y hy)) hfn' (fun y hy => .inr (hlo' y hy)) (hf'.keep fun y hy => puts_heap_other (hbx y hy))
  rw [ToRel.set hk] at hs'
  refine ⟨fp', hs', hn', hfr, fun y hy => ?_, ?_⟩
  · rcases hsub y hy with hy | hy
    · exact hlo y hy
    · exact Nat.le_trans hb.size (hlo' y hy)
  · exact (hb.trans (hE1.only.below (B := w.heap.size) hlo hb.size))
end

/-- Bytes. -/
def encByte (b : UInt8) : List Value := [.int .u8 (b.toNat : Int)]
def Rp.byte : Rp UInt8 := Rp.flat 1 encByte (fun _ => rfl) (fun x u hu => by simp [encByte] at hu; subst hu; rfl)
theorem byte_cells {w : World} {A : Option Addr} {n c : Nat} {l : List UInt8} {fp : List Nat} (h : SlR Rp.byte w A n c l fp) {i : Nat} (hi : i < l.length) :
    ∃ b o, A = some ⟨b, o, none⟩ ∧ b < w.heap.size ∧ b ∈ fp ∧ w.cell? ⟨b, o + i, none⟩ = some (.int .u8 (l[i].toNat : Int)) := by
  obtain ⟨b, o, hA, hb, hm, hc⟩ := h.getFlat hi
  rw [Nat.mul_one] at hc
  exact ⟨b, o, hA, hb, hm, hc.at0⟩

end Go.Proofs.YthopednilgncgaaDoor
