/- Lemmas and walks, joined by program (wip/gen/merge.py). -/
import Derived.Deep.AppendLies
import Derived.Test.YtnogkkcmcnhodaaGreatDoorZ4
import Derived.Test.YtnogkkcmcnhodaaGreatDoorZ3
import Derived.Test.YtnogkkcmcnhodaaGreatDoorZ10
import Derived.Test.YtnogkkcmcnhodaaGreatDoorZ5
namespace Go.Proofs.YtnogkkcmcnhodaaGreatDoor
open Go.RowKit
attribute [local go_sem ↓] Go.wp_at_zero Go.wp_at_succ

def sortTo (l : List File) (k : Nat) : List File := (l.take k).foldl (fun o f => insBy (fun g => bLt g.path f.path) f o) []
theorem sortTo_succ {l : List File} {k : Nat} (h : k < l.length) : sortTo l (k + 1) = insBy (fun g => bLt g.path l[k].path) l[k] (sortTo l k) := by
 unfold sortTo
 rw [List.take_succ_eq_append_getElem h, List.foldl_append]
 rfl
theorem sortTo_length {l : List File} : ∀ {k : Nat}, k ≤ l.length → (sortTo l k).length = k
 | 0, _ => rfl
 | k + 1, h => by rw [sortTo_succ (by omega), insBy_length, sortTo_length (by omega)]
theorem sortTo_asc {l : List File} (h : asc File.path l) : sortTo l l.length = l := by
 unfold sortTo
 rw [List.take_of_length_le nle]
 simpa using foldl_ins (key := File.path) l [] (by simpa using h)
theorem sortTo_snoc {l : List File} {x : File} (h : asc File.path l) : sortTo (l ++ [x]) (l ++ [x]).length = insBy (fun g => bLt g.path x.path) x l := by
 have h1 : sortTo (l ++ [x]) l.length = l := by
  have := sortTo_asc h
  unfold sortTo at *
  rw [List.take_left]
  rwa [List.take_of_length_le nle] at this
 have h2 : l.length < (l ++ [x]).length := by simp
 have := sortTo_succ h2
 rw [h1] at this
 rw [show (l ++ [x]).length = l.length + 1 by simp, this]
 simp

def lessTo (out : List File) (p : ByteArray) (j : Nat) : Prop := ∀ i (hi : i < out.length), i < j → bLt out[i].path p = true
theorem lessTo.zero {out : List File} {p : ByteArray} : lessTo out p 0 := fun i _ h => by omega
theorem lessTo.next {out : List File} {p : ByteArray} {j : Nat} (h : lessTo out p j) (hj : j < out.length) (hl : bLt out[j].path p = true) : lessTo out p (j + 1) := fun i hi hij => by
 rcases Nat.lt_succ_iff_lt_or_eq.1 hij with h1 | rfl
 ·exact h i hi h1
 ·exact hl

theorem SlR.drop {α : Type} {r : Rp α} {w : World} {b o n c : Nat} {l : List α} {fp : List Nat} (h : SlR r w (some ⟨b, o, none⟩) n c l fp) {k : Nat} (hk : k ≤ l.length) :
  ∃ f, SlR r w (some ⟨b, o + k * r.k, none⟩) (n - k) (c - k) (l.drop k) f ∧ ∀ z ∈ f, z ∈ fp := by
 obtain ⟨hn, h1, h2, xs, f0, f1, hs, ha, hf⟩ := h
 obtain ⟨c0, c1, g0, g1, e1, e2, e3, e4, e5⟩ := ha.cut k hk
 have hl : n - k = (l.drop k).length := by simp; omega
 rcases hs.2 with ⟨h0, hf0⟩ | ⟨hn0, b', o', hA, hf0, hb, hc⟩
 ·exact ⟨g1, ⟨hl, by omega, by omega, c1, [], g1, ⟨by rw [e5.len, ← hl], .inl ⟨by omega, rfl⟩⟩, e5, rfl⟩, fun z hz => by rw [hf, e2]; simp [hz]⟩
 ·cases hA
  by_cases h0 : n - k = 0
  ·exact ⟨g1, ⟨hl, by omega, by omega, c1, [], g1, ⟨by rw [e5.len, ← hl], .inl ⟨h0, rfl⟩⟩, e5, rfl⟩, fun z hz => by rw [hf, e2]; simp [hz]⟩
  ·refine ⟨[b] ++ g1, ⟨hl, by omega, by omega, c1, [b], g1, ⟨by rw [e5.len, ← hl], .inr ⟨by omega, b, o + k * r.k, rfl, rfl, hb, ?_⟩⟩, e5, rfl⟩, fun x hx => ?_⟩
   ·rw [e1] at hc
    have := hc.right
    rwa [e3] at this
   ·rw [hf, e2, hf0]
    simp at hx ⊢
    rcases hx with rfl | hx
    ·simp
    ·simp [hx]
theorem SlR.drop_all {α : Type} {r : Rp α} {w : World} {A B : Option Addr} {n c k : Nat} {l : List α} {fp : List Nat} (h : SlR r w A n c l fp) (hk : c = k) : ∃ f, SlR r w B (n - k) 0 (l.drop k) f := by
 have h1 := h.1
 have h2 := h.2.1
 have e1 : n - k = 0 := by omega
 have e2 : l.drop k = [] := List.drop_eq_nil_of_le (by omega)
 rw [e1, e2]
 exact ⟨[], rfl, Nat.zero_le _, Nat.zero_le _, [], [], [], ⟨by simp, .inl ⟨rfl, rfl⟩⟩, ⟨rfl, rfl⟩, rfl⟩
theorem SlR.none_of {α : Type} {r : Rp α} {w : World} {A : Option Addr} (c : Nat) (hc : c ≤ maxLen) : SlR r w A 0 c [] [] := ⟨rfl, Nat.zero_le _, hc, [], [], [], ⟨by simp, .inl ⟨rfl, rfl⟩⟩, ⟨rfl, rfl⟩, rfl⟩
theorem own_some {w : World} {base size n : Nat} {e : TypeId} {v : Value} {xs : List Value} (h : w.ownsRow base e size v n xs) (hn : 0 < n) : ∃ g cap, v = .slice (some ⟨g, 0, none⟩) n cap ∧ n ≤ cap ∧ cap ≤ maxLen := by
 rcases h.2 with ⟨rfl, rfl⟩ | ⟨g, cap, cur, rfl, _, _, hc, hm, _⟩
 ·omega
 ·exact ⟨g, cap, rfl, hc, hm⟩

theorem own_set1 {w : World} {base size n g cap j : Nat} {e : TypeId} {u : Value} {xs : List Value} (h : w.ownsRow base e size (.slice (some ⟨g, 0, none⟩) n cap) n xs) (hn : 0 < n) :
  (w.setCell ⟨g, j, none⟩ u).ownsRow base e size (.slice (some ⟨g, 0, none⟩) n cap) n (xs.set j u) := by
 rcases h.2 with ⟨_, h0⟩ | ⟨g', cap', cur, hv, hb, hg, hc, hm, hs, ht⟩
 ·omega
 ·cases hv
  refine ⟨by rw [List.length_set]; exact h.1, .inr ⟨g, cap, cur.setIfInBounds j u, rfl, hb, heap_setCell_free hg u, hc, hm, by simpa using hs, ?_⟩⟩
  rw [Array.toList_setIfInBounds, List.take_set, ht]
theorem flat_set : ∀ (l : List File) (k : Nat) (hk : k < l.length) (b : ByteArray), (l.set k ⟨l[k].path, b⟩).flatMap encFile = (l.flatMap encFile).set (k * 2 + 1) (.string b)
 | x :: l, 0, _, b => rfl
 | x :: l, k + 1, hk, b => by
  have ih := flat_set l k (by simpa using hk) b
  simp only [List.set_cons_succ, List.getElem_cons_succ, List.flatMap_cons]
  rw [ih]
  unfold encFile
  rw [show (k + 1) * 2 + 1 = (k * 2 + 1) + 1 + 1 by omega]
  rfl

theorem turn1_none_gone {l : List File} {e : Edit} (h : l.findIdx? (pathIs e.path) = none) (hg : e.gone = true) : turn1 l e = none := by
 unfold turn1 fileIdx
 rw [show (fun f : File => decide (f.path = e.path)) = pathIs e.path from rfl, h]
 simp [hg]
theorem turn1_none_new {l : List File} {e : Edit} (h : l.findIdx? (pathIs e.path) = none) (hg : e.gone = false) : turn1 l e = some (insBy (fun g => bLt g.path e.path) ⟨e.path, e.bytes⟩ l) := by
 unfold turn1 fileIdx
 rw [show (fun f : File => decide (f.path = e.path)) = pathIs e.path from rfl, h]
 simp [hg]
theorem turn1_some_del {l : List File} {e : Edit} {k : Nat} (h : l.findIdx? (pathIs e.path) = some k) (hg : e.gone = true) (hb : e.bytes = ByteArray.empty) : turn1 l e = some (l.eraseIdx k) := by
 unfold turn1 fileIdx
 rw [show (fun f : File => decide (f.path = e.path)) = pathIs e.path from rfl, h]
 simp [hg, hb]
theorem turn1_some_bad {l : List File} {e : Edit} {k : Nat} (h : l.findIdx? (pathIs e.path) = some k) (hg : e.gone = true) (hb : e.bytes ≠ ByteArray.empty) : turn1 l e = none := by
 unfold turn1 fileIdx
 rw [show (fun f : File => decide (f.path = e.path)) = pathIs e.path from rfl, h]
 simp [hg, hb]
theorem turn1_some_set {l : List File} {e : Edit} {k : Nat} (h : l.findIdx? (pathIs e.path) = some k) (hg : e.gone = false) : turn1 l e = some (l.set k ⟨e.path, e.bytes⟩) := by
 unfold turn1 fileIdx
 rw [show (fun f : File => decide (f.path = e.path)) = pathIs e.path from rfl, h]
 simp [hg]
theorem path_at {l : List File} {p : ByteArray} {k : Nat} (h : l.findIdx? (pathIs p) = some k) : ∃ hk : k < l.length, l[k].path = p := by
 obtain ⟨hk, h1, _⟩ := List.findIdx?_eq_some_iff_getElem.1 h
 exact ⟨hk, by simpa [pathIs] using h1⟩

theorem turnAll_step {es : List Edit} : ∀ {l o : List File} {k : Nat}, (hk : k < es.length) → turnAll l (es.take k) = some o → turnAll l (es.take (k + 1)) = turn1 o es[k] ∧ (turn1 o es[k] = none → turnAll l es = none) := by
 induction es with
 | nil => intro l o k hk; simp at hk
 | cons e es ih =>
  intro l o k hk h
  cases k with
  | zero =>
   simp only [List.take_zero, turnAll, Option.some.injEq] at h
   subst h
   simp only [List.take_succ_cons, List.take_zero, List.getElem_cons_zero, turnAll]
   cases turn1 l e <;> simp [turnAll]
  | succ k =>
   simp only [List.take_succ_cons, turnAll] at h
   cases h1 : turn1 l e with
   | none => rw [h1] at h; simp at h
   | some l1 =>
    rw [h1] at h
    obtain ⟨i1, i2⟩ := ih (l := l1) (o := o) (k := k) (by simpa using hk) h
    simp only [List.take_succ_cons, turnAll, List.getElem_cons_succ, h1]
    exact ⟨i1, i2⟩
theorem turn1_fit {l o : List File} {e : Edit} (h : fitFiles l) (he : e.path.size ≤ 4194304) (ht : turn1 l e = some o) : fitFiles o := fun i hi => by
 rcases turn1_mem ht (List.getElem_mem hi) with h1 | h1
 ·rw [h1]; exact he
 ·obtain ⟨j, hj, h2⟩ := List.mem_iff_getElem.1 h1
  rw [← h2]; exact h j hj
structure TurnTo (l : List File) (es : List Edit) (k : Nat) (o : List File) : Prop where
 all : turnAll l (es.take k) = some o
 asc_ : asc File.path o
 len : o.length ≤ 60 + k
 fit : fitFiles o
section
variable {l o o' : List File} {es : List Edit} {k : Nat}
theorem TurnTo.zero (h : treOk l = true) (hf : fitFiles l) : TurnTo l es 0 l := ⟨by simp [turnAll], treOk_asc h, by have := (treOk_iff.1 h).1; omega, hf⟩
theorem TurnTo.next (h : TurnTo l es k o) (hk : k < es.length) (he : es[k].path.size ≤ 4194304) (ht : turn1 o es[k] = some o') : TurnTo l es (k + 1) o' :=
 ⟨by rw [(turnAll_step hk h.all).1, ht], turn1_asc h.asc_ ht, by have := turn1_length ht; have := h.len; omega, turn1_fit h.fit he ht⟩
theorem TurnTo.no (h : TurnTo l es k o) (hk : k < es.length) (ht : turn1 o es[k] = none) : treTurn l es = none := by
 unfold treTurn
 rw [(turnAll_step hk h.all).2 ht]
 split <;> rfl
theorem TurnTo.end_ (h : TurnTo l es es.length o) (hl : treOk l = true) (he : es.length ≤ 4) : treTurn l es = if treOk o then some o else none := by
 have := h.all
 rw [List.take_of_length_le nle] at this
 unfold treTurn
 rw [if_pos ⟨hl, he⟩, this]
end
theorem treTurn_bad {l : List File} {es : List Edit} (h : ¬ (treOk l = true ∧ es.length ≤ 4)) : treTurn l es = none := by
 unfold treTurn
 rw [if_neg h]
def TurnF (w : World) (x : Option (List File)) (e : Ending) (w' : World) : Prop :=
 ∃ v, e = .returned (.tuple #[v, .bool x.isSome]) ∧ w'.ownsRow w.heap.size 104 2 v (x.getD []).length ((x.getD []).flatMap encFile) ∧ Below w.heap.size w w'
theorem countL_mono {α : Type} {f : α → Nat} {k : Nat} (h : ∀ x, f x ≤ k) : ∀ l : List α, countL f l ≤ k * l.length
 | [] => by simp [countL]
 | x :: l => by
  have ih := countL_mono h l
  have hx := h x
  simp only [countL, List.map_cons, List.sum_cons, List.length_cons] at *
  rw [Nat.mul_add, Nat.mul_one]
  omega
theorem countL_le_sz {α : Type} {f g : α → Nat} {k : Nat} (h : ∀ x, f x ≤ k * (1 + g x)) : ∀ l : List α, countL f l ≤ k * szL g l
 | [] => by simp [countL]
 | x :: l => by
  have ih := countL_le_sz h l
  have hx := h x
  simp only [countL, szL, sumOf, List.map_cons, List.sum_cons, List.length_cons] at *
  simp only [Nat.mul_add, Nat.mul_one] at *
  omega
theorem countFiles_le (l : List File) : countL ctFile l ≤ 2 * l.length := countL_mono (fun _ => Nat.le_refl 2) l
theorem ctRef_le (x : Ref) : ctRef x ≤ 4 * (1 + szRef x) := by
 unfold ctRef szRef
 have : countL (countL ctFile) x.versions ≤ 4 * szL (fun y => szL szFile y) x.versions := countL_le_sz (fun l => by
  have h1 := countFiles_le l
  have h2 := szL_len szFile l
  omega) x.versions
 omega
theorem ctRepo_le (x : Repo) : ctRepo x ≤ 4 * (1 + szRepo x) := by
 unfold ctRepo szRepo
 have h1 : countL ctRule x.rules ≤ 4 * x.rules.length := countL_mono (fun _ => Nat.le_refl 4) x.rules
 have h2 := szL_len szRule x.rules
 have h3 : countL ctRef x.refs ≤ 4 * szL szRef x.refs := countL_le_sz ctRef_le x.refs
 omega
theorem ctHouse_le (x : House) : ctHouse x ≤ 4 * szHouse x := by
 unfold ctHouse szHouse
 have h1 : countL (fun _ : Int => 1) x.keys ≤ 1 * x.keys.length := countL_mono (fun _ => Nat.le_refl 1) x.keys
 have h2 : countL (fun _ : Int => 1) x.used ≤ 1 * x.used.length := countL_mono (fun _ => Nat.le_refl 1) x.used
 have h3 : countL ctRepo x.repos ≤ 4 * szL szRepo x.repos := countL_le_sz ctRepo_le x.repos
 omega
theorem own_files {w : World} {base : Nat} {v : Value} {l : List File} (h : w.ownsRow base 104 2 v l.length (l.flatMap encFile)) : ∃ A c f, v = .slice A l.length c ∧ SlR Rp.file w A l.length c l f ∧ (∀ b ∈ f, base ≤ b) ∧ f.Nodup ∧ Free w f :=
 own_sl (k := 2) (enc := encFile) (hk := fun _ => rfl) (h1 := encFile_one) h
theorem Gath.grow {b H : Nat} {fx : List Nat} {w0 w : World} {v : Value} {o : List Ref} (h : Gath b H fx w v o) (hB : Below b w0 w) (hb0 : b ≤ w0.heap.size) (hbH : b ≤ H) (hH : H ≤ w.heap.size) {x : Ref} {ys : List Value} {f : List Nat} (hx : Rp.ref.R w ys x f) (hfx : ∀ z ∈ f, z < H ∧ z ≠ b ∧ (z ∈ fx ∨ b ≤ z)) (ob : Obj) :
  ∃ xs, (w.alloc ob).ownsRow b 99 4 v o.length xs ∧ ∀ g cap w6, w6.ownsRow b 99 4 (.slice (some ⟨g, 0, none⟩) (o.length + 1) cap) (o.length + 1) (xs ++ ys) → (w.alloc ob).grownBy w6 v.ownBlock → (v.ownBlock = some g ∨ g = w.heap.size + 1) →
   Gath b H fx w6 (.slice (some ⟨g, 0, none⟩) (o.length + 1) cap) (o ++ [x]) ∧ (∀ z, z < H → z ≠ b → w6.heap[z]? = w.heap[z]?) ∧ Below b w0 w6 ∧ H ≤ w6.heap.size := by
 obtain ⟨xs, f1, ho, ha, hf, hv⟩ := h
 have hk : ∀ z, z < w.heap.size → (w.alloc ob).heap[z]? = w.heap[z]? := fun z hz => Below.heap_alloc w ob z hz
 have hsz : (w.alloc ob).heap.size = w.heap.size + 1 := by simp
 refine ⟨xs, ho.alloc ob, fun g cap w6 ho2 hgr hor => ⟨Gath.more (wA := w.alloc ob) (ha.keep fun z hz => hk z (ha.lt z hz)) hf hv (Rp.ref.keep hx fun z hz => hk z (Rp.ref.lt hx z hz)) hfx ho2 hgr (by rw [hsz]; exact hor) (by omega), fun z hz hn => ?_, ?_, ?_⟩⟩
 ·exact (hgr.block z (by omega) fun e => by rcases hv z e.symm with h1 | h1 <;> omega).trans (hk z (by omega))
 ·exact (hB.alloc (Nat.le_trans hb0 hB.size) ob).grown hgr (by have := hB.size; omega) (fun z hz => (ho.lt z hz).1)
 ·have := hgr.size; omega

theorem Gath.named {H : Nat} {fx : List Nat} {w0 w : World} {v : Value} {o l : List Ref} (h : Gath w0.heap.size H fx w v o) (hB : Below w0.heap.size w0 w) (e : o = l) : NamedAt w0 l fx (.returned v) w := by
 subst e
 obtain ⟨xs, f1, ho, ha, hf, hv⟩ := h
 obtain ⟨A, c, f0, rfl, hs, h0, _, _⟩ := SlR.of_owns (r := Rp.ref) ho ha
 exact ⟨A, _, c, _, rfl, hs, fun z hz => by
  rcases List.mem_append.1 hz with h | h
  ·exact .inr (h0 z h).2
  ·exact (hf z h).2.2, hB⟩

theorem ref_new2 {W : World} {nb e1 : Nat} {t : TypeId} (s : ByteArray) (hk : Blk W nb t #[.slice (some ⟨e1, 0, none⟩) 0 0]) : Rp.ref.R W [.string s, .bool false, .int .i64 0, .slice (some ⟨nb, 0, none⟩) 1 1] ⟨s, false, 0, [[]]⟩ [nb] := by
 refine ⟨some ⟨nb, 0, none⟩, 1, 1, [nb], rfl, rfl, rfl, Nat.le_refl _, by simp [maxLen], [.slice (some ⟨e1, 0, none⟩) 0 0], [nb], [], ⟨rfl, .inr ⟨by omega, nb, 0, rfl, rfl, hk.lt, fun j u hu => ?_⟩⟩, AllR.single ⟨some ⟨e1, 0, none⟩, 0, 0, rfl, SlR.none_of 0 (by simp [maxLen])⟩, rfl⟩
 rw [Nat.zero_add, hk.cell j]
 simpa using hu

set_option maxHeartbeats 4000000 in
set_option maxRecDepth 100000 in
theorem l7Named_any {A : Option Addr} {n c : Nat} {l : List Ref} {name : ByteArray} {fx : List Nat} (w : World) (hs : SlR Rp.ref w A n c l fx) (h60 : l.length ≤ 60) (hne : ∀ y ∈ l, y.name ≠ name) :
  Calls Tryz.prog 129 #[.slice A n c, .string name] w (NamedAt w (insBy (fun y => bLt y.name name) ⟨name, false, 0, [[]]⟩ l) fx) := by
 obtain rfl := hs.1
 have HS := hide (fun (W : World) (hb : Below w.heap.size w W) => hs.step hb)
 have HLT := hide hs.lt
 have HNE := hide hne
 obtain ⟨ii, hi0, hz0, hz1, hz2⟩ := info_parts infoC_Ref2
 clear hs hne
 go_enter Tryz.func129, Tryz.ntmps129
 go_wp2_with fail
 obtain ⟨w3, hw3⟩ : ∃ w3, w3 = (((w.alloc (.cells #[] 99)).alloc (.cells #[] 104)).alloc (.cells #[.slice (some ⟨w.heap.size + 1, 0, none⟩) 0 0] 36)).alloc (.cells #[.string name, .bool false, .int .i64 0, .slice (some ⟨w.heap.size + 1 + 1, 0, none⟩) 1 1] 99) := ⟨_, rfl⟩
 rw [← hw3]
 have HB3 := hide (show Below w.heap.size w w3 from hw3 ▸ ((((Below.refl w.heap.size w).alloc nle _).alloc (by simp) _).alloc (by simp; omega) _).alloc (by simp; omega) _)
 have HSZ3 := hide (show w3.heap.size = w.heap.size + 4 by rw [hw3]; simp)
 have HK3 := hide (show Blk w3 (w.heap.size + 1 + 1 + 1) 99 #[.string name, .bool false, .int .i64 0, .slice (some ⟨w.heap.size + 1 + 1, 0, none⟩) 1 1] from hw3 ▸ Blk.new' (by simp) _ _)
 have HK2 := hide (show Blk w3 (w.heap.size + 1 + 1) 36 #[.slice (some ⟨w.heap.size + 1, 0, none⟩) 0 0] from hw3 ▸ (Blk.new' (by simp) _ _).alloc _)
 have HG0 := hide (show Gath w.heap.size (w.heap.size + 4) fx w3 (.slice (some ⟨w.heap.size, 0, none⟩) 0 0) [] from ⟨[], [], by
  rw [hw3]
  exact (((World.ownsRow_made (base := w.heap.size) (size := 4) w #[] 0 nle (by simp [maxLen]) rfl).alloc _).alloc _).alloc _, ⟨rfl, rfl⟩, by simp, fun z hz => .inl (by simp [Value.ownBlock] at hz; exact hz.symm)⟩)
 clear hw3
 go_loopw [5, 7, 8] (fun v dv iv wr => ∃ k d o, k ≤ l.length ∧ iv = .int .i64 (k : Nat) ∧ dv = .bool d ∧ namedTo l ⟨name, false, 0, [[]]⟩ k d o ∧ Gath w.heap.size (w.heap.size + 4) fx wr v o ∧ (∀ z, z < w.heap.size + 4 → z ≠ w.heap.size → wr.heap[z]? = w3.heap[z]?) ∧ Below w.heap.size w wr ∧ w.heap.size + 4 ≤ wr.heap.size) (fun _ _ iv _ => l.length - (intOf iv).toNat)
 case atStart => exact ⟨0, false, [], Nat.zero_le _, rfl, rfl, namedTo.zero, HG0.out, fun _ _ _ => rfl, HB3.out, Nat.le_of_eq HSZ3.out.symm⟩
 case round =>
  obtain ⟨k, d, o, hk, rfl, rfl, hn, hg, hkp, hbl, hsz⟩ := hrel
  have HN := hide hn
  have HG := hide hg
  have HKP := hide hkp
  have HBL := hide hbl
  have HSZ := hide hsz
  have j0 : (0 : Int) ≤ (k : Int) := by omega
  clear hn hg hkp hbl hsz
  by_cases hlt : k < l.length
  ·have j1 : (k : Int) < (l.length : Int) := by omega
   obtain ⟨bR, oR, B9, m9, d9, g9, rfl, _, _, t0, t1, t2, t3, hs3, hsub⟩ := ref_cells (HS.out _ HBL.out) hlt
   obtain rfl := hs3.1
   have hx9 : Rp.ref.R wr [.string l[k].name, .bool l[k].guard, .int .i64 l[k].count, .slice B9 l[k].versions.length d9] l[k] g9 := ⟨B9, _, d9, g9, rfl, rfl, hs3⟩
   have hfx9 : ∀ z ∈ g9, z < w.heap.size + 4 ∧ z ≠ w.heap.size ∧ (z ∈ fx ∨ w.heap.size ≤ z) := fun z hz => by
    have h1 : z ∈ fx := by first | exact hsub z hz | exact hsub.subset hz
    have := HLT.out z h1
    exact ⟨by omega, by omega, .inl h1⟩
   clear hs3 hsub
   cases d
   ·have hq : (l[k].name.toList == name.toList) = false := by
     simp only [beq_eq_false_iff_ne]
     exact fun e => HNE.out _ (List.getElem_mem hlt) (toList_inj e)
    cases hd : bLt l[k].name name
    ·have HD := hide hd
     unfold bLt at hd
     clear hx9 hfx9
     have k3 : Blk wr (w.heap.size + 1 + 1 + 1) 99 #[.string name, .bool false, .int .i64 0, .slice (some ⟨w.heap.size + 1 + 1, 0, none⟩) 1 1] := (HKP.out _ (by omega) (by omega)).trans HK3.out
     have k2 : Blk wr (w.heap.size + 1 + 1) 36 #[.slice (some ⟨w.heap.size + 1, 0, none⟩) 0 0] := (HKP.out _ (by omega) (by omega)).trans HK2.out
     have hx9 := ref_new2 name k2
     have hfx9 : ∀ z ∈ [w.heap.size + 1 + 1], z < w.heap.size + 4 ∧ z ≠ w.heap.size ∧ (z ∈ fx ∨ w.heap.size ≤ z) := fun z hz => by simp at hz; exact ⟨by omega, by omega, .inr (by omega)⟩
     have s0 := k3.cell 0
     have s1 := k3.cell 1
     have s2 := k3.cell 2
     have s3 := k3.cell 3
     clear k2 k3
     obtain ⟨xs6, ho6, hgrow⟩ := HG.out.grow HBL.out nle (by omega) HSZ.out hx9 hfx9 (.cells #[.string name, .bool false, .int .i64 0, .slice (some ⟨w.heap.size + 1 + 1, 0, none⟩) 1 1] 99)
     have HGR := hide hgrow
     have HLo := hide (HN.out.len hk)
     have HHS := hide (show (wr.alloc (.cells #[.string name, .bool false, .int .i64 0, .slice (some ⟨w.heap.size + 1 + 1, 0, none⟩) 1 1] 99)).heap.size = wr.heap.size + 1 by simp)
     have HSS := hide HSZ.out
     clear hgrow hx9 hfx9
     go_wp2_with (at_builtin; refine wpList_append_lies _ rfl _ _ 94 rfl w.heap.size 99 ii _ 4 56 Tryz.underlying94 hi0 hz0 hz1 hz2 rfl (by decide) _ _ _ rfl ho6 ⟨wr.heap.size, 0, none⟩ 1 1 [.string name, .bool false, .int .i64 0, .slice (some ⟨w.heap.size + 1 + 1, 0, none⟩) 1 1] rfl rfl (news_alloc wr _ _) (by intro u hu; simp at hu; rcases hu with rfl | rfl | rfl | rfl <;> rfl) (by decide) (by have := HLo.out; unfold maxLen; omega) (by have := HLo.out; omega) (by have := HHS.out; have := HSS.out; omega) (wr.heap.size + 1) HHS.out ?_)
     intro g6 cap6 w6 ho2 hgr hor hlt2
     have HR6 := hide (HGR.out _ _ _ ho2 hgr hor)
     clear ho2 hgr hor hlt2 ho6 HGR HLo HHS HSS
     clear t0 t1 t2 t3 s0 s1 s2 s3
     obtain ⟨bR, oR, B9, m9, d9, g9, hAA, _, _, t0, t1, t2, t3, hs3, hsub⟩ := ref_cells (HS.out _ HR6.out.2.2.1) hlt
     cases hAA
     obtain rfl := hs3.1
     have hx9 : Rp.ref.R w6 [.string l[k].name, .bool l[k].guard, .int .i64 l[k].count, .slice B9 l[k].versions.length d9] l[k] g9 := ⟨B9, _, d9, g9, rfl, rfl, hs3⟩
     have hfx9 : ∀ z ∈ g9, z < w.heap.size + 4 ∧ z ≠ w.heap.size ∧ (z ∈ fx ∨ w.heap.size ≤ z) := fun z hz => by
      have h1 : z ∈ fx := by first | exact hsub z hz | exact hsub.subset hz
      have := HLT.out z h1
      exact ⟨by omega, by omega, .inl h1⟩
     clear hs3 hsub
     obtain ⟨xs7, ho7, hgrow⟩ := HR6.out.1.grow HR6.out.2.2.1 nle (by omega) HR6.out.2.2.2 hx9 hfx9 (.cells #[.string l[k].name, .bool l[k].guard, .int .i64 l[k].count, .slice B9 l[k].versions.length d9] 99)
     simp only [List.length_append, List.length_singleton] at hgrow ho7
     have HGR := hide hgrow
     have HLo := hide (show o.length + 1 ≤ k + 2 by have := HN.out.len hk; omega)
     have HHS := hide (show (w6.alloc (.cells #[.string l[k].name, .bool l[k].guard, .int .i64 l[k].count, .slice B9 l[k].versions.length d9] 99)).heap.size = w6.heap.size + 1 by simp)
     have HSS := hide HR6.out.2.2.2
     clear hgrow hx9 hfx9
     go_wp2_with (at_builtin; refine wpList_append_lies _ rfl _ _ 94 rfl w.heap.size 99 ii _ 4 56 Tryz.underlying94 hi0 hz0 hz1 hz2 rfl (by decide) _ _ _ rfl ho7 ⟨w6.heap.size, 0, none⟩ 1 1 [.string l[k].name, .bool l[k].guard, .int .i64 l[k].count, .slice B9 l[k].versions.length d9] rfl rfl (news_alloc w6 _ _) (by intro u hu; simp at hu; rcases hu with rfl | rfl | rfl | rfl <;> rfl) (by decide) (by have := HLo.out; unfold maxLen; omega) (by have := HLo.out; omega) (by have := HHS.out; have := HSS.out; omega) (w6.heap.size + 1) HHS.out ?_)
     intro g7 cap7 w7 ho2 hgr hor hlt2
     have HR7 := hide (HGR.out _ _ _ ho2 hgr hor)
     clear ho2 hgr hor hlt2 ho7 HGR HLo HHS HSS
     clear t0 t1 t2 t3
     go_wp2_with fail
     exact ⟨⟨k + 1, true, _, by omega, by go_num, rfl, HN.out.here hlt HD.out, by simpa using HR7.out.1, fun z h1 h2 => (HR7.out.2.1 z h1 h2).trans ((HR6.out.2.1 z h1 h2).trans (HKP.out z h1 h2)), HR7.out.2.2.1, HR7.out.2.2.2⟩, by simp [intOf]; omega⟩
    ·have HD := hide hd
     unfold bLt at hd
     obtain ⟨xs6, ho6, hgrow⟩ := HG.out.grow HBL.out nle (by omega) HSZ.out hx9 hfx9 (.cells #[.string l[k].name, .bool l[k].guard, .int .i64 l[k].count, .slice B9 l[k].versions.length d9] 99)
     have HGR := hide hgrow
     have HLo := hide (HN.out.len hk)
     have HHS := hide (show (wr.alloc (.cells #[.string l[k].name, .bool l[k].guard, .int .i64 l[k].count, .slice B9 l[k].versions.length d9] 99)).heap.size = wr.heap.size + 1 by simp)
     have HSS := hide HSZ.out
     clear hgrow hx9 hfx9
     go_wp2_with (at_builtin; refine wpList_append_lies _ rfl _ _ 94 rfl w.heap.size 99 ii _ 4 56 Tryz.underlying94 hi0 hz0 hz1 hz2 rfl (by decide) _ _ _ rfl ho6 ⟨wr.heap.size, 0, none⟩ 1 1 [.string l[k].name, .bool l[k].guard, .int .i64 l[k].count, .slice B9 l[k].versions.length d9] rfl rfl (news_alloc wr _ _) (by intro u hu; simp at hu; rcases hu with rfl | rfl | rfl | rfl <;> rfl) (by decide) (by have := HLo.out; unfold maxLen; omega) (by have := HLo.out; omega) (by have := HHS.out; have := HSS.out; omega) (wr.heap.size + 1) HHS.out ?_)
     intro g6 cap6 w6 ho2 hgr hor hlt2
     have HR6 := hide (HGR.out _ _ _ ho2 hgr hor)
     clear ho2 hgr hor hlt2 ho6 HGR HLo HHS HSS
     clear t0 t1 t2 t3
     go_wp2_with fail
     exact ⟨⟨k + 1, false, _, by omega, by go_num, rfl, HN.out.skip hlt HD.out, by simpa using HR6.out.1, fun z h1 h2 => (HR6.out.2.1 z h1 h2).trans (HKP.out z h1 h2), HR6.out.2.2.1, HR6.out.2.2.2⟩, by simp [intOf]; omega⟩
   ·obtain ⟨xs6, ho6, hgrow⟩ := HG.out.grow HBL.out nle (by omega) HSZ.out hx9 hfx9 (.cells #[.string l[k].name, .bool l[k].guard, .int .i64 l[k].count, .slice B9 l[k].versions.length d9] 99)
    have HGR := hide hgrow
    have HLo := hide (HN.out.len hk)
    have HHS := hide (show (wr.alloc (.cells #[.string l[k].name, .bool l[k].guard, .int .i64 l[k].count, .slice B9 l[k].versions.length d9] 99)).heap.size = wr.heap.size + 1 by simp)
    have HSS := hide HSZ.out
    clear hgrow hx9 hfx9
    go_wp2_with (at_builtin; refine wpList_append_lies _ rfl _ _ 94 rfl w.heap.size 99 ii _ 4 56 Tryz.underlying94 hi0 hz0 hz1 hz2 rfl (by decide) _ _ _ rfl ho6 ⟨wr.heap.size, 0, none⟩ 1 1 [.string l[k].name, .bool l[k].guard, .int .i64 l[k].count, .slice B9 l[k].versions.length d9] rfl rfl (news_alloc wr _ _) (by intro u hu; simp at hu; rcases hu with rfl | rfl | rfl | rfl <;> rfl) (by decide) (by have := HLo.out; unfold maxLen; omega) (by have := HLo.out; omega) (by have := HHS.out; have := HSS.out; omega) (wr.heap.size + 1) HHS.out ?_)
    intro g6 cap6 w6 ho2 hgr hor hlt2
    have HR6 := hide (HGR.out _ _ _ ho2 hgr hor)
    clear ho2 hgr hor hlt2 ho6 HGR HLo HHS HSS
    clear t0 t1 t2 t3
    go_wp2_with fail
    exact ⟨⟨k + 1, true, _, by omega, by go_num, rfl, HN.out.more hlt, by simpa using HR6.out.1, fun z h1 h2 => (HR6.out.2.1 z h1 h2).trans (HKP.out z h1 h2), HR6.out.2.2.1, HR6.out.2.2.2⟩, by simp [intOf]; omega⟩
  ·obtain rfl : k = l.length := by omega
   cases d
   ·have k3 : Blk wr (w.heap.size + 1 + 1 + 1) 99 #[.string name, .bool false, .int .i64 0, .slice (some ⟨w.heap.size + 1 + 1, 0, none⟩) 1 1] := (HKP.out _ (by omega) (by omega)).trans HK3.out
    have k2 : Blk wr (w.heap.size + 1 + 1) 36 #[.slice (some ⟨w.heap.size + 1, 0, none⟩) 0 0] := (HKP.out _ (by omega) (by omega)).trans HK2.out
    have hx9 := ref_new2 name k2
    have hfx9 : ∀ z ∈ [w.heap.size + 1 + 1], z < w.heap.size + 4 ∧ z ≠ w.heap.size ∧ (z ∈ fx ∨ w.heap.size ≤ z) := fun z hz => by simp at hz; exact ⟨by omega, by omega, .inr (by omega)⟩
    have s0 := k3.cell 0
    have s1 := k3.cell 1
    have s2 := k3.cell 2
    have s3 := k3.cell 3
    clear k2 k3
    obtain ⟨xs6, ho6, hgrow⟩ := HG.out.grow HBL.out nle (by omega) HSZ.out hx9 hfx9 (.cells #[.string name, .bool false, .int .i64 0, .slice (some ⟨w.heap.size + 1 + 1, 0, none⟩) 1 1] 99)
    have HGR := hide hgrow
    have HLo := hide (HN.out.len hk)
    have HHS := hide (show (wr.alloc (.cells #[.string name, .bool false, .int .i64 0, .slice (some ⟨w.heap.size + 1 + 1, 0, none⟩) 1 1] 99)).heap.size = wr.heap.size + 1 by simp)
    have HSS := hide HSZ.out
    clear hgrow hx9 hfx9
    go_wp2_with (at_builtin; refine wpList_append_lies _ rfl _ _ 94 rfl w.heap.size 99 ii _ 4 56 Tryz.underlying94 hi0 hz0 hz1 hz2 rfl (by decide) _ _ _ rfl ho6 ⟨wr.heap.size, 0, none⟩ 1 1 [.string name, .bool false, .int .i64 0, .slice (some ⟨w.heap.size + 1 + 1, 0, none⟩) 1 1] rfl rfl (news_alloc wr _ _) (by intro u hu; simp at hu; rcases hu with rfl | rfl | rfl | rfl <;> rfl) (by decide) (by have := HLo.out; unfold maxLen; omega) (by have := HLo.out; omega) (by have := HHS.out; have := HSS.out; omega) (wr.heap.size + 1) HHS.out ?_)
    intro g6 cap6 w6 ho2 hgr hor hlt2
    have HR6 := hide (HGR.out _ _ _ ho2 hgr hor)
    clear ho2 hgr hor hlt2 ho6 HGR HLo HHS HSS
    clear s0 s1 s2 s3
    go_wp2_with fail
    go_ret
    exact Gath.named HR6.out.1 HR6.out.2.2.1 HN.out.last
   ·go_wp2_with fail
    go_ret
    exact Gath.named HG.out HBL.out HN.out.end_
end Go.Proofs.YtnogkkcmcnhodaaGreatDoor
