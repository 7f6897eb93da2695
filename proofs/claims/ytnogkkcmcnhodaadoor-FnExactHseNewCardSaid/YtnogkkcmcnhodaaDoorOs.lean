/- Slices that are their holder's own: the whole block is theirs, so they may grow in place. Houses whose refs and versions are so. Plain lemmas; no program in sight but for the types' numbers. -/
import Derived.Test.YtnogkkcmcnhodaaDoorApp
namespace Go.Proofs.YtnogkkcmcnhodaaDoor
open Go.RowKit

/-- The block of a slice that is owned. -/
def vblk (v : Value) : List Nat := v.ownBlock.toList

section
variable {base : Nat} {e : TypeId} {size : Nat} {v : Value} {n : Nat} {xs : List Value} {w w' : World}
theorem ownsRow_keep (h : w.ownsRow base e size v n xs) (hk : ∀ b ∈ vblk v, w'.heap[b]? = w.heap[b]?) : w'.ownsRow base e size v n xs := by
  refine ⟨h.1, ?_⟩
  rcases h.2 with hn | ⟨g, cap, cur, rfl, hb, hg, rest⟩
  · exact .inl hn
  · exact .inr ⟨g, cap, cur, rfl, hb, (hk g (by simp [vblk, Value.ownBlock])).trans hg, rest⟩
theorem ownsRow_lt (h : w.ownsRow base e size v n xs) : ∀ b ∈ vblk v, base ≤ b ∧ b < w.heap.size := fun b hb => h.lt b (by simpa [vblk] using hb)
theorem ownsRow_low {base' : Nat} (h : w.ownsRow base e size v n xs) (hb : base' ≤ base) : w.ownsRow base' e size v n xs := by
  refine ⟨h.1, ?_⟩
  rcases h.2 with hn | ⟨g, cap, cur, rfl, hg, rest⟩
  · exact .inl hn
  · exact .inr ⟨g, cap, cur, rfl, Nat.le_trans hb hg, rest⟩
theorem ownsRow_free (h : w.ownsRow base e size v n xs) : Free w (vblk v) := fun b hb => by
  rcases h.2 with ⟨rfl, _⟩ | ⟨g, cap, cur, rfl, _, hg, _⟩
  · simp [vblk, Value.ownBlock] at hb
  · simp [vblk, Value.ownBlock] at hb
    subst hb
    exact ⟨cur, e, hg⟩
theorem ownsRow_one (h : w.ownsRow base e size v n xs) : v.oneCell' = true := by
  rcases h.2 with ⟨rfl, _⟩ | ⟨g, cap, cur, rfl, _⟩ <;> rfl
theorem vblk_nodup (v : Value) : (vblk v).Nodup := by
  unfold vblk
  cases v.ownBlock <;> simp
end

/-- v reads as the list l, and is its holder's own. -/
def OwS {α : Type} (r : Rp α) (e : TypeId) (w : World) (v : Value) (l : List α) (fp : List Nat) : Prop :=
  ∃ xs f1, w.ownsRow 0 e r.k v l.length xs ∧ AllR r w xs l f1 ∧ fp = vblk v ++ f1

def Rp.own {α : Type} (r : Rp α) (e : TypeId) : Rp (List α) where
  k := 1
  R := fun w cs l fp => ∃ v, cs = [v] ∧ OwS r e w v l fp
  len := fun ⟨_, h, _⟩ => by rw [h]; rfl
  keep := fun ⟨v, h, xs, f1, ho, ha, hf⟩ hk => by
    subst hf
    exact ⟨v, h, xs, f1, ownsRow_keep ho fun b hb => hk b (List.mem_append_left _ hb), ha.keep fun b hb => hk b (List.mem_append_right _ hb), rfl⟩
  lt := fun ⟨v, h, xs, f1, ho, ha, hf⟩ b hb => by
    subst hf
    rcases List.mem_append.1 hb with hb | hb
    · exact (ownsRow_lt ho b hb).2
    · exact ha.lt b hb
  one := fun ⟨v, h, xs, f1, ho, _⟩ u hu => by subst h; simp at hu; subst hu; exact ownsRow_one ho

section
variable {α : Type} {r : Rp α} {e : TypeId} {w w' : World} {v : Value} {l : List α} {fp : List Nat}
theorem OwS.rp (h : OwS r e w v l fp) : (Rp.own r e).R w [v] l fp := ⟨v, rfl, h⟩
theorem OwS.keep (h : OwS r e w v l fp) (hk : ∀ b ∈ fp, w'.heap[b]? = w.heap[b]?) : OwS r e w' v l fp := by
  obtain ⟨v', hv, h'⟩ := (Rp.own r e).keep h.rp hk
  cases hv
  exact h'
theorem OwS.lt (h : OwS r e w v l fp) : ∀ b ∈ fp, b < w.heap.size := (Rp.own r e).lt h.rp
theorem OwS.step (h : OwS r e w v l fp) (hb : Below w.heap.size w w') : OwS r e w' v l fp := h.keep fun b hm => hb.block b (h.lt b hm)
theorem OwS.alloc (h : OwS r e w v l fp) (o : Obj) : OwS r e (w.alloc o) v l fp := h.step ((Below.refl _ _).alloc (Nat.le_refl _) o)
/-- As a slice; of the same blocks (its own one left out, where it is empty). -/
theorem OwS.sl (h : OwS r e w v l fp) : ∃ A c f, v = .slice A l.length c ∧ SlR r w A l.length c l f ∧ f.Sublist fp ∧ l.length ≤ c ∧ c ≤ maxLen := by
  obtain ⟨xs, f1, ho, ha, rfl⟩ := h
  have ho' := ho
  obtain ⟨hl, h⟩ := ho
  rcases h with ⟨rfl, h0⟩ | ⟨g, cap, cur, rfl, hb, hg, hn, hc, hs, ht⟩
  · have : l = [] := List.eq_nil_of_length_eq_zero h0
    subst this
    exact ⟨none, 0, f1, rfl, ⟨rfl, Nat.le_refl _, by simp [maxLen], xs, [], f1, ⟨hl, .inl ⟨rfl, rfl⟩⟩, ha, rfl⟩, by simp [vblk, Value.ownBlock], Nat.le_refl _, by simp [maxLen]⟩
  · by_cases h0 : l.length = 0
    · have : l = [] := List.eq_nil_of_length_eq_zero h0
      subst this
      exact ⟨_, cap, f1, rfl, ⟨rfl, hn, hc, xs, [], f1, ⟨hl, .inl ⟨rfl, rfl⟩⟩, ha, rfl⟩, by simp [vblk, Value.ownBlock], hn, hc⟩
    · have hlt : g < w.heap.size := (Array.getElem?_eq_some_iff.1 hg).1
      refine ⟨_, cap, [g] ++ f1, rfl, ⟨rfl, hn, hc, xs, [g], f1, ⟨hl, .inr ⟨by omega, g, 0, rfl, rfl, hlt, fun j u hu => ?_⟩⟩, ha, rfl⟩, by simp [vblk, Value.ownBlock], hn, hc⟩
      rw [cell_of_row w g (0 + j) cur e (0, 0) hg, Nat.zero_add]
      rw [← ht, List.getElem?_take] at hu
      split at hu
      · simpa using hu
      · cases hu
theorem OwS.of_owns {base : Nat} {xs : List Value} {f1 : List Nat} (h : w.ownsRow base e r.k v l.length xs) (ha : AllR r w xs l f1) : OwS r e w v l (vblk v ++ f1) :=
  ⟨xs, f1, ownsRow_low h (Nat.zero_le _), ha, rfl⟩
theorem OwS.nil : OwS r e w (.slice none 0 0) [] [] := ⟨[], [], World.ownsRow_nil _ _ _ _, ⟨rfl, rfl⟩, rfl⟩
end

/-- What reads one way reads the other way, of some of its blocks. -/
def Rp.Le {α : Type} (r s : Rp α) : Prop := r.k = s.k ∧ ∀ w cs x fp, r.R w cs x fp → ∃ f, s.R w cs x f ∧ f.Sublist fp
theorem Rp.Le.refl {α : Type} (r : Rp α) : Rp.Le r r := ⟨rfl, fun _ _ _ fp h => ⟨fp, h, List.Sublist.refl _⟩⟩
theorem AllR.le {α : Type} {r s : Rp α} (h : Rp.Le r s) {w : World} : ∀ {l : List α} {xs : List Value} {fp : List Nat}, AllR r w xs l fp → ∃ f, AllR s w xs l f ∧ f.Sublist fp
  | [], _, _, ⟨h1, h2⟩ => ⟨[], ⟨h1, rfl⟩, by simp⟩
  | x :: l, xs, fp, ⟨c1, c2, f1, f2, h1, h2, h3, h4⟩ => by
    obtain ⟨g1, k1, s1⟩ := h.2 _ _ _ _ h3
    obtain ⟨g2, k2, s2⟩ := AllR.le h h4
    subst h2
    exact ⟨g1 ++ g2, ⟨c1, c2, g1, g2, h1, rfl, k1, k2⟩, s1.append s2⟩
theorem SlR.le {α : Type} {r s : Rp α} (h : Rp.Le r s) {w : World} {A : Option Addr} {n c : Nat} {l : List α} {fp : List Nat} (hs : SlR r w A n c l fp) : ∃ f, SlR s w A n c l f ∧ f.Sublist fp := by
  obtain ⟨hn, h1, h2, xs, f0, f1, hs, ha, rfl⟩ := hs
  obtain ⟨g, hg, hsub⟩ := ha.le h
  rw [h.1] at hs
  exact ⟨f0 ++ g, ⟨hn, h1, h2, xs, f0, g, hs, hg, rfl⟩, (List.Sublist.refl f0).append hsub⟩
theorem Rp.Le.own {α : Type} {r s : Rp α} (h : Rp.Le r s) (e : TypeId) : Rp.Le (Rp.own r e) (Rp.slice s) := ⟨rfl, fun w cs l fp ⟨v, hc, ho⟩ => by
  obtain ⟨A, c, f, rfl, hs, hsub, _, _⟩ := ho.sl
  obtain ⟨g, hg, hsub2⟩ := hs.le h
  exact ⟨g, ⟨A, _, c, hc, hg⟩, hsub2.trans hsub⟩⟩

theorem sub_nodup {f g : List Nat} (h : f.Sublist g) (hn : g.Nodup) : f.Nodup := hn.sublist h
theorem Free.sublist {w : World} {f g : List Nat} (h : Free w g) (hs : f.Sublist g) : Free w f := fun b hb => h b (hs.subset hb)

def Rp.refO : Rp Ref where
  k := 4
  R := fun w cs x fp => ∃ v, cs = [.string x.name, .bool x.guard, .int .i64 x.count, v] ∧ OwS (Rp.slice Rp.file) 63 w v x.versions fp
  len := fun ⟨_, h, _⟩ => by rw [h]; rfl
  keep := fun ⟨v, h, h0⟩ hk => ⟨v, h, h0.keep hk⟩
  lt := fun ⟨v, h, h0⟩ => h0.lt
  one := fun ⟨v, h, h0⟩ u hu => by
    subst h
    simp only [List.mem_cons, List.not_mem_nil, or_false] at hu
    rcases hu with rfl | rfl | rfl | rfl <;> first | rfl | exact (Rp.own _ _).one h0.rp _ (by simp)

def Rp.repoO : Rp Repo where
  k := 3
  R := fun w cs x fp => ∃ A0 n0 c0 f0 v f1, cs = [.int .i64 x.admin, .slice A0 n0 c0, v] ∧ fp = f0 ++ f1 ∧ SlR Rp.rule w A0 n0 c0 x.rules f0 ∧ OwS Rp.refO 61 w v x.refs f1
  len := fun ⟨_, _, _, _, _, _, h, _⟩ => by rw [h]; rfl
  keep := fun ⟨A0, n0, c0, f0, v, f1, h, hf, h0, h1⟩ hk => by
    subst hf
    exact ⟨A0, n0, c0, f0, v, f1, h, rfl, h0.keep fun b hb => hk b (List.mem_append_left _ hb), h1.keep fun b hb => hk b (List.mem_append_right _ hb)⟩
  lt := fun ⟨A0, n0, c0, f0, v, f1, h, hf, h0, h1⟩ b hb => by
    subst hf
    rcases List.mem_append.1 hb with hb | hb
    · exact h0.lt b hb
    · exact h1.lt b hb
  one := fun ⟨A0, n0, c0, f0, v, f1, h, hf, h0, h1⟩ u hu => by
    subst h
    simp only [List.mem_cons, List.not_mem_nil, or_false] at hu
    rcases hu with rfl | rfl | rfl <;> first | rfl | exact (Rp.own _ _).one h1.rp _ (by simp)

def Rp.houseO : Rp House where
  k := 3
  R := fun w cs x fp => ∃ A0 n0 c0 f0 A1 n1 c1 f1 A2 n2 c2 f2, cs = [.slice A0 n0 c0, .slice A1 n1 c1, .slice A2 n2 c2] ∧ fp = f0 ++ (f1 ++ f2) ∧ SlR Rp.int w A0 n0 c0 x.keys f0 ∧ SlR Rp.int w A1 n1 c1 x.used f1 ∧ SlR Rp.repoO w A2 n2 c2 x.repos f2
  len := fun ⟨_, _, _, _, _, _, _, _, _, _, _, _, h, _⟩ => by rw [h]; rfl
  keep := fun ⟨A0, n0, c0, f0, A1, n1, c1, f1, A2, n2, c2, f2, h, hf, h0, h1, h2⟩ hk => by
    subst hf
    exact ⟨A0, n0, c0, f0, A1, n1, c1, f1, A2, n2, c2, f2, h, rfl, h0.keep fun b hb => hk b (by simp [hb]), h1.keep fun b hb => hk b (by simp [hb]), h2.keep fun b hb => hk b (by simp [hb])⟩
  lt := fun ⟨A0, n0, c0, f0, A1, n1, c1, f1, A2, n2, c2, f2, h, hf, h0, h1, h2⟩ b hb => by
    subst hf
    simp only [List.mem_append] at hb
    rcases hb with hb | hb | hb
    · exact h0.lt b hb
    · exact h1.lt b hb
    · exact h2.lt b hb
  one := fun ⟨A0, n0, c0, f0, A1, n1, c1, f1, A2, n2, c2, f2, h, hf, h0, h1, h2⟩ u hu => by
    subst h
    simp only [List.mem_cons, List.not_mem_nil, or_false] at hu
    rcases hu with rfl | rfl | rfl <;> rfl

theorem le_ref : Rp.Le Rp.refO Rp.ref := ⟨rfl, fun w cs x fp ⟨v, h, h0⟩ => by
  obtain ⟨A, c, f, rfl, hs, hsub, _, _⟩ := h0.sl
  exact ⟨f, ⟨A, _, c, f, h, rfl, hs⟩, hsub⟩⟩
theorem le_repo : Rp.Le Rp.repoO Rp.repo := ⟨rfl, fun w cs x fp ⟨A0, n0, c0, f0, v, f1, h, hf, h0, h1⟩ => by
  obtain ⟨A, c, f, rfl, hs, hsub, _, _⟩ := h1.sl
  obtain ⟨g, hg, hsub2⟩ := hs.le le_ref
  subst hf
  exact ⟨f0 ++ g, ⟨A0, n0, c0, f0, A, _, c, g, h, rfl, h0, hg⟩, (List.Sublist.refl f0).append (hsub2.trans hsub)⟩⟩
theorem le_house : Rp.Le Rp.houseO Rp.house := ⟨rfl, fun w cs x fp ⟨A0, n0, c0, f0, A1, n1, c1, f1, A2, n2, c2, f2, h, hf, h0, h1, h2⟩ => by
  obtain ⟨g, hg, hsub⟩ := h2.le le_repo
  subst hf
  exact ⟨f0 ++ (f1 ++ g), ⟨A0, n0, c0, f0, A1, n1, c1, f1, A2, n2, c2, g, h, rfl, h0, h1, hg⟩, (List.Sublist.refl f0).append ((List.Sublist.refl f1).append hsub)⟩⟩

/-! One element of a row is another one: for reading. -/
theorem SlR.put1 {α : Type} {r : Rp α} {w : World} {A : Option Addr} {n c : Nat} {l : List α} {fp : List Nat} (h : SlR r w A n c l fp) (hn : fp.Nodup) {i : Nat} (hi : i < l.length) :
    ∃ b o cs f, A = some ⟨b, o, none⟩ ∧ b ∈ fp ∧ b ∉ f ∧ (∀ x ∈ f, x ∈ fp) ∧ f.Nodup ∧ b < w.heap.size ∧ Cells w b (o + i * r.k) cs ∧ r.R w cs l[i] f ∧
      ∀ (s : Rp α) (w' : World) (cs' : List Value) (y : α) (f' : List Nat), Rp.Le r s → (∀ j, j < o + i * r.k ∨ o + i * r.k + r.k ≤ j → w'.cell? ⟨b, j, none⟩ = w.cell? ⟨b, j, none⟩) → b < w'.heap.size → Cells w' b (o + i * r.k) cs' → s.R w' cs' y f' →
        (∀ x ∈ fp, x ≠ b → x ∉ f → w'.heap[x]? = w.heap[x]?) → ∃ fp', SlR s w' A n c (l.set i y) fp' := by
  obtain ⟨hn', h1, h2, xs, f0, f1, hs, ha, hf⟩ := h
  obtain ⟨c0, cs, c1, g0, g, g1, e1, e2, e3, e4, e5, e6⟩ := ha.split hi
  rcases hs.2 with ⟨h0, _⟩ | ⟨hn0, b, o, hA, hf0, hb, hc⟩
  · omega
  · subst hf; subst hf0; subst e2; subst e1
    have hn2 : (b :: (g0 ++ (g ++ g1))).Nodup := hn
    have hbn : b ∉ g0 ++ (g ++ g1) := (List.nodup_cons.1 hn2).1
    have hnd : (g0 ++ (g ++ g1)).Nodup := (List.nodup_cons.1 hn2).2
    have hgn : g.Nodup := (List.nodup_append.1 (List.nodup_append.1 hnd).2.1).1
    have hd0 : ∀ x ∈ g0, x ∉ g := fun x hx hg => (List.nodup_append.1 hnd).2.2 x hx x (List.mem_append_left _ hg) rfl
    have hd1 : ∀ x ∈ g1, x ∉ g := fun x hx hg => (List.nodup_append.1 (List.nodup_append.1 hnd).2.1).2.2 x hg x hx rfl
    have hcc := hc.right.left
    rw [e3] at hcc
    refine ⟨b, o, cs, g, hA, by simp, fun hm => hbn (by simp [hm]), fun x hx => by simp [hx], hgn, hb, hcc, e5, fun s w' cs' y f' hle hother hb' hcs' hy hk => ?_⟩
    have hks := hle.1
    have hlen : cs'.length = r.k := by rw [s.len hy, hks]
    have hlen0 := r.len e5
    have e4' := e4.keep (w' := w') fun x hx => hk x (by simp [hx]) (fun e => hbn (by rw [← e]; simp [hx])) (hd0 x hx)
    have e6' := e6.keep (w' := w') fun x hx => hk x (by simp [hx]) (fun e => hbn (by rw [← e]; simp [hx])) (hd1 x hx)
    obtain ⟨k0, q0, _⟩ := e4'.le hle
    obtain ⟨k1, q1, _⟩ := e6'.le hle
    have hal : AllR s w' (c0 ++ (cs' ++ c1)) (l.set i y) (k0 ++ (f' ++ k1)) := AllR.set hi q0 q1 hy fun _ _ => rfl
    refine ⟨[b] ++ (k0 ++ (f' ++ k1)), by simpa using hn', h1, h2, c0 ++ (cs' ++ c1), [b], k0 ++ (f' ++ k1), ⟨?_, .inr ⟨hn0, b, o, hA, rfl, hb', ?_⟩⟩, hal, rfl⟩
    · have := hs.1
      rw [← hks]
      simp only [List.length_append] at this ⊢
      omega
    · have hl0 : Cells w' b o c0 := fun j u hu => by
        have hj := (List.getElem?_eq_some_iff.1 hu).1
        rw [hother (o + j) (by omega)]
        exact hc.left j u hu
      have hl1 : Cells w' b (o + (c0 ++ cs').length) c1 := fun j u hu => by
        have hr := hc.right.right j u hu
        rw [hother _ (by simp only [List.length_append]; omega), ← hr]
        congr 2
        simp only [List.length_append]
        omega
      rw [← List.append_assoc]
      refine Cells.append (Cells.append hl0 ?_) hl1
      rw [e3]
      exact hcs'

theorem OwS.put1 {α : Type} {r : Rp α} {e : TypeId} {w : World} {v : Value} {l : List α} {fp : List Nat} (h : OwS r e w v l fp) (hn : fp.Nodup) {k : Nat} (hk : k < l.length) :
    ∃ g cap cs f, v = .slice (some ⟨g, 0, none⟩) l.length cap ∧ g ∈ fp ∧ g ∉ f ∧ (∀ x ∈ f, x ∈ fp) ∧ f.Nodup ∧ g < w.heap.size ∧ Cells w g (k * r.k) cs ∧ r.R w cs l[k] f ∧
      ∀ (s : Rp α) (w' : World) (cs' : List Value) (y : α) (f' : List Nat), Rp.Le r s → (∀ j, j < k * r.k ∨ k * r.k + r.k ≤ j → w'.cell? ⟨g, j, none⟩ = w.cell? ⟨g, j, none⟩) → g < w'.heap.size → Cells w' g (k * r.k) cs' → s.R w' cs' y f' →
        (∀ x ∈ fp, x ≠ g → x ∉ f → w'.heap[x]? = w.heap[x]?) → ∃ fp', SlR s w' (some ⟨g, 0, none⟩) l.length cap (l.set k y) fp' := by
  obtain ⟨A, c, f0, rfl, hs, hsub, _, _⟩ := h.sl
  obtain ⟨b, o, cs, f, rfl, h1, h2, h3, h4, h5, h6, h7, h8⟩ := hs.put1 (sub_nodup hsub hn) hk
  obtain ⟨xs, f1, ho, _, _⟩ := h
  have ho0 : o = 0 := by
    rcases ho.2 with ⟨h, _⟩ | ⟨g, cap, cur, h, _⟩
    · cases h
    · cases h; rfl
  subst ho0
  rw [Nat.zero_add] at h6 h8
  exact ⟨b, c, cs, f, rfl, hsub.subset h1, h2, fun x hx => hsub.subset (h3 x hx), h4, h5, h6, h7, fun s w' cs' y f' g1 g2 g3 g4 g5 g6 => h8 s w' cs' y f' g1 g2 g3 g4 g5 fun x hx => g6 x (hsub.subset hx)⟩

/-- A house of the holder's own: where its i-th repo lies, and what writing it over comes to. -/
theorem house_set {w : World} {cs : List Value} {x : House} {fp : List Nat} (h : Rp.houseO.R w cs x fp) (hn : fp.Nodup) {i : Nat} (hi : i < x.repos.length) :
    ∃ A0 n0 c0 f0 A1 n1 c1 f1 b o c2 f2 cr f, cs = [.slice A0 n0 c0, .slice A1 n1 c1, .slice (some ⟨b, o, none⟩) x.repos.length c2] ∧
      SlR Rp.int w A0 n0 c0 x.keys f0 ∧ SlR Rp.int w A1 n1 c1 x.used f1 ∧ SlR Rp.repoO w (some ⟨b, o, none⟩) x.repos.length c2 x.repos f2 ∧
      b ∈ fp ∧ b < w.heap.size ∧ b ∉ f ∧ f.Nodup ∧ (∀ z ∈ f, z ∈ fp) ∧ f1.Nodup ∧ (∀ z ∈ f1, z ∈ fp ∧ z ≠ b ∧ z ∉ f) ∧ (∀ z ∈ f0, z ∈ fp ∧ z ≠ b ∧ z ∉ f ∧ z ∉ f1) ∧
      Cells w b (o + i * 3) cr ∧ Rp.repoO.R w cr x.repos[i] f ∧
      ∀ (w' : World) (cr' : List Value) (y : Repo) (f' : List Nat) (u' : List Int) (fu : List Nat), (∀ j, j < o + i * 3 ∨ o + i * 3 + 3 ≤ j → w'.cell? ⟨b, j, none⟩ = w.cell? ⟨b, j, none⟩) → b < w'.heap.size →
        Cells w' b (o + i * 3) cr' → Rp.repo.R w' cr' y f' → SlR Rp.int w' A1 n1 c1 u' fu → (∀ z ∈ fp, z ≠ b → z ∉ f → z ∉ f1 → w'.heap[z]? = w.heap[z]?) → ∃ fp', Rp.house.R w' cs ⟨x.keys, u', x.repos.set i y⟩ fp' := by
  obtain ⟨A0, n0, c0, f0, A1, n1, c1, f1, A2, n2, c2, f2, rfl, hf, h0, h1, h2⟩ := h
  subst hf
  obtain ⟨hn0, hn12, hd0⟩ := List.nodup_append.1 hn
  obtain ⟨hn1, hn2, hd1⟩ := List.nodup_append.1 hn12
  obtain rfl := h2.1
  obtain ⟨b, o, cr, f, rfl, hb, hbf, hsub, hfn, hbl, hc, hr, hcl⟩ := h2.put1 hn2 hi
  refine ⟨A0, n0, c0, f0, A1, n1, c1, f1, b, o, c2, f2, cr, f, rfl, h0, h1, h2, by simp [hb], hbl, hbf, hfn, fun z hz => by simp [hsub z hz], hn1, fun z hz => ⟨by simp [hz], fun e => hd1 z hz b hb e, fun hf => hd1 z hz z (hsub z hf) rfl⟩,
    fun z hz => ⟨by simp [hz], fun e => hd0 z hz b (by simp [hb]) e, fun hf => hd0 z hz z (by simp [hsub z hf]) rfl, fun hf => hd0 z hz z (by simp [hf]) rfl⟩, hc, hr, ?_⟩
  intro w' cr' y f' u' fu g1 g2 g3 g4 g5 g6
  have k0 : SlR Rp.int w' A0 n0 c0 x.keys f0 := h0.keep fun z hz => g6 z (by simp [hz]) (fun e => hd0 z hz b (by simp [hb]) e) (fun hf => hd0 z hz z (by simp [hsub z hf]) rfl) (fun hf => hd0 z hz z (by simp [hf]) rfl)
  obtain ⟨fq, hq⟩ := hcl Rp.repo w' cr' y f' le_repo g1 g2 g3 g4 fun z hz hzb hzf => g6 z (by simp [hz]) hzb hzf fun hf => hd1 z hf z hz rfl
  exact ⟨f0 ++ (fu ++ fq), A0, n0, c0, f0, A1, n1, c1, fu, _, _, c2, fq, rfl, rfl, k0, g5, hq⟩

/-- A repo of the holder's own: where its k-th ref lies, and what writing it over comes to. -/
theorem repo_set {w : World} {cr : List Value} {p : Repo} {f : List Nat} (h : Rp.repoO.R w cr p f) (hn : f.Nodup) {k : Nat} (hk : k < p.refs.length) :
    ∃ B0 m0 d0 g0 g cap cf f3, cr = [.int .i64 p.admin, .slice B0 m0 d0, .slice (some ⟨g, 0, none⟩) p.refs.length cap] ∧ SlR Rp.rule w B0 m0 d0 p.rules g0 ∧
      g ∈ f ∧ g < w.heap.size ∧ g ∉ f3 ∧ f3.Nodup ∧ (∀ z ∈ f3, z ∈ f) ∧ (∀ z ∈ g0, z ∈ f ∧ z ≠ g ∧ z ∉ f3) ∧
      Cells w g (k * 4) cf ∧ Rp.refO.R w cf p.refs[k] f3 ∧
      ∀ (w' : World) (cf' : List Value) (y : Ref) (f' : List Nat), (∀ j, j < k * 4 ∨ k * 4 + 4 ≤ j → w'.cell? ⟨g, j, none⟩ = w.cell? ⟨g, j, none⟩) → g < w'.heap.size →
        Cells w' g (k * 4) cf' → Rp.ref.R w' cf' y f' → (∀ z ∈ f, z ≠ g → z ∉ f3 → w'.heap[z]? = w.heap[z]?) → ∃ f'', Rp.repo.R w' cr { p with refs := p.refs.set k y } f'' := by
  obtain ⟨B0, m0, d0, g0, v, g1, rfl, hf, h0, h1⟩ := h
  subst hf
  obtain ⟨hn0, hn1, hd⟩ := List.nodup_append.1 hn
  obtain ⟨g, cap, cf, f3, rfl, q1, q2, q3, q4, q5, q6, q7, q8⟩ := h1.put1 hn1 hk
  refine ⟨B0, m0, d0, g0, g, cap, cf, f3, rfl, h0, by simp [q1], q5, q2, q4, fun z hz => by simp [q3 z hz], fun z hz => ⟨by simp [hz], fun e => hd z hz g q1 e, fun hf => hd z hz z (q3 z hf) rfl⟩, q6, q7, ?_⟩
  intro w' cf' y f' g2 g3 g4 g5 g6
  have k0 : SlR Rp.rule w' B0 m0 d0 p.rules g0 := h0.keep fun z hz => g6 z (by simp [hz]) (fun e => hd z hz g q1 e) (fun hf => hd z hz z (q3 z hf) rfl)
  obtain ⟨fq, hq⟩ := q8 Rp.ref w' cf' y f' le_ref g2 g3 g4 g5 fun z hz hzg hzf => g6 z (by simp [hz]) hzg hzf
  have hl : p.refs.length = (p.refs.set k y).length := by simp
  exact ⟨g0 ++ fq, B0, m0, d0, g0, _, _, cap, fq, rfl, rfl, k0, hq⟩
end Go.Proofs.YtnogkkcmcnhodaaDoor
