/- Walks: houses at their beginning, of the reference. -/
import Derived.Test.YtnogkkcmcnhodaaDoorNw
import Derived.Deep.AppendLies
import Derived.BigRegion
namespace Go.Proofs.YtnogkkcmcnhodaaDoor
open Go.RowKit
attribute [local go_sem ↓] Go.wp_at_zero Go.wp_at_succ

def StopQ (K : Act → World → Prop) : Exit → Act → World → Prop
  | .normal => K
  | _ => fun _ _ => False
theorem stopQ_normal (K : Act → World → Prop) : StopQ K .normal = K := rfl
/-- A region alone: what follows waits. -/
theorem wp_stop {P : Program} {c : Code} {Q : Exit → Act → World → Prop} {a : Act} {w : World} (h : ∀ K : Act → World → Prop, (∀ a w, Q .normal a w → K a w) → c.wp P (StopQ K) a w) : c.wp P Q a w :=
  Code.wp_mono (Q := StopQ (Q .normal)) (fun e a w hq => by cases e <;> first | exact hq | exact False.elim hq) (h (Q .normal) fun _ _ h => h)
attribute [local go_sem] stopQ_normal

def allTo {α : Type} (p : α → Bool) (l : List α) (k : Nat) : Prop := (l.take k).all p = true
section
variable {α : Type} {p : α → Bool} {l : List α} {k : Nat}
theorem allTo.zero : allTo p l 0 := by simp [allTo]
theorem allTo.next (h : allTo p l k) (hk : k < l.length) (hp : p l[k] = true) : allTo p l (k + 1) := by
  unfold allTo at *
  rw [List.take_succ_eq_append_getElem hk, List.all_append, h]
  simp [hp]
theorem allTo.end_ (h : allTo p l l.length) : l.all p = true := by
  unfold allTo at h
  rwa [List.take_of_length_le (Nat.le_refl _)] at h
theorem all_not (hk : k < l.length) (hp : p l[k] = false) : l.all p = false := by
  rw [List.all_eq_false]
  exact ⟨_, List.getElem_mem hk, by simp [hp]⟩
end
theorem mdlOk_raw (keys admins : List Int) : mdlOk (rawHouse keys admins) = (inB keys.length 1 4 && inB admins.length 1 3 && keys.all (fun n => inB n 1 9999) && admins.all (fun a => inB a 1 keys.length)) := by
  have h1 : ((zeros keys).all fun n => inB n 0 200) = true := by
    rw [List.all_eq_true]
    intro n hn
    unfold zeros at hn
    rw [List.mem_map] at hn
    obtain ⟨_, _, rfl⟩ := hn
    decide
  have h2 : ∀ a : Int, repoOk keys.length ⟨a, [], []⟩ = inB a 1 keys.length := fun a => by
    unfold repoOk
    rw [show rulListOk ([] : List Rule) = true by decide]
    simp [namesOk]
  unfold mdlOk usersOk rawHouse
  simp only [h1, zeros_length, List.length_map, List.all_map]
  rw [show (repoOk (keys.length : Int) ∘ fun a => (⟨a, [], []⟩ : Repo)) = fun a => inB a 1 keys.length from funext h2]
  simp only [decide_true, Bool.and_true]
  cases inB keys.length 1 4 <;> cases inB admins.length 1 3 <;> simp
theorem mdlNew_no {keys admins : List Int} (h : (inB keys.length 1 4 && inB admins.length 1 3 && keys.all (fun n => inB n 1 9999) && admins.all (fun a => inB a 1 keys.length)) = false) : mdlNew keys admins = ⟨[], [], []⟩ := by
  unfold mdlNew
  rw [mdlOk_raw, h]
  rfl
theorem mdlNew_yes {keys admins : List Int} (h : (inB keys.length 1 4 && inB admins.length 1 3 && keys.all (fun n => inB n 1 9999) && admins.all (fun a => inB a 1 keys.length)) = true) : mdlNew keys admins = rawHouse keys admins := by
  unfold mdlNew
  rw [mdlOk_raw, h]
  rfl

/-- What the call hands back: a house to read, of blocks of its own. -/
def ReadR {α : Type} (r : Rp α) (w : World) (x : α) (e : Ending) (w' : World) : Prop :=
  ∃ cs fp, e = .returned (.agg cs.toArray) ∧ r.R w' cs x fp ∧ (∀ b ∈ fp, w.heap.size ≤ b) ∧ Below w.heap.size w w'
def encI (n : Int) : List Value := [.int .i64 n]
theorem take_encI {l : List Int} {k : Nat} (h : k < l.length) : (l.take (k + 1)).flatMap encI = (l.take k).flatMap encI ++ [.int .i64 l[k]] := by
  rw [List.take_succ_eq_append_getElem h, List.flatMap_append, List.flatMap_singleton]
  rfl
theorem take_zeros {l : List Int} {k : Nat} (h : k < l.length) : (zeros (l.take (k + 1))).flatMap encI = (zeros (l.take k)).flatMap encI ++ [.int .i64 0] := by
  unfold zeros
  rw [List.take_succ_eq_append_getElem h, List.map_append, List.flatMap_append]
  rfl
/-- A house that is being built, its keys and what was used: the rows are the call's own, and apart. -/
structure Pair (B b : Nat) (w : World) (vK vU : Value) (n m : Nat) (xs ys : List Value) : Prop where
  blk : Blk w b 25 #[vK, vU, .slice none 0 0]
  oK : w.ownsRow B 3 1 vK n xs
  oU : w.ownsRow B 3 1 vU m ys
  dj : ∀ z ∈ vblk vK, z ∉ vblk vU
section
variable {B b n m g cap HA : Nat} {w w2 wA w6 : World} {vK vU : Value} {xs ys news : List Value}
theorem Pair.nK (h : Pair B b w vK vU n m xs ys) (hb : b < B) : b ∉ vblk vK := fun hm => by have := (ownsRow_lt h.oK b hm).1; omega
theorem Pair.nU (h : Pair B b w vK vU n m xs ys) (hb : b < B) : b ∉ vblk vU := fun hm => by have := (ownsRow_lt h.oU b hm).1; omega
theorem Pair.step (h : Pair B b w vK vU n m xs ys) (hB : Below w.heap.size w wA) : Pair B b wA vK vU n m xs ys :=
  ⟨h.blk.step hB, ownsRow_keep h.oK fun z hz => hB.block z (ownsRow_lt h.oK z hz).2, ownsRow_keep h.oU fun z hz => hB.block z (ownsRow_lt h.oU z hz).2, h.dj⟩
theorem Pair.growK (h : Pair B b w vK vU n m xs ys) (hb : b < B) (hB : Below w.heap.size w wA) (ho2 : w6.ownsRow B 3 1 (.slice (some ⟨g, 0, none⟩) (n + 1) cap) (n + 1) (xs ++ news)) (hgr : wA.grownBy w6 vK.ownBlock) (hor : vK.ownBlock = some g ∨ g = HA) (hHA : wA.heap.size = HA) :
    Blk w6 b 25 #[vK, vU, .slice none 0 0] ∧ Pair B b (w6.setCell ⟨b, 0, none⟩ (.slice (some ⟨g, 0, none⟩) (n + 1) cap)) (.slice (some ⟨g, 0, none⟩) (n + 1) cap) vU (n + 1) m (xs ++ news) ys ∧
      (w2.heap.size = B → Only [b] w2 w → Only [b] w2 (w6.setCell ⟨b, 0, none⟩ (.slice (some ⟨g, 0, none⟩) (n + 1) cap))) := by
  have hA := h.step hB
  have k6 := hA.blk.only (grown_only hgr) (h.nK hb)
  have e6 : ∀ z ∈ vblk vU, w6.heap[z]? = wA.heap[z]? := fun z hz => (grown_only hgr).block z (ownsRow_lt hA.oU z hz).2 fun hm => h.dj z hm hz
  have oU6 := ownsRow_keep hA.oU e6
  have ho := only_setCell w6 b 0 (.slice (some ⟨g, 0, none⟩) (n + 1) cap)
  have hgB := (ownsRow_lt ho2 g (by simp [vblk, Value.ownBlock])).1
  refine ⟨k6, ⟨by simpa using k6.put 0 _, ownsRow_keep ho2 fun z hz => ho.block z (ownsRow_lt ho2 z hz).2 (by simp; have := (ownsRow_lt ho2 z hz).1; omega), ownsRow_keep oU6 fun z hz => ho.block z (ownsRow_lt oU6 z hz).2 (by simp; have := (ownsRow_lt oU6 z hz).1; omega), fun z hz hm => ?_⟩, fun h2 hw => ((hw.then_below hB).then_only (grown_only hgr) (fun z hz => .inr (by have := (ownsRow_lt h.oK z hz).1; omega))).trans ho⟩
  simp [vblk, Value.ownBlock] at hz
  subst hz
  rcases hor with h' | h'
  · exact h.dj z (by unfold vblk; rw [h']; simp) hm
  · have := (ownsRow_lt h.oU z hm).2; have := hB.size; omega
theorem Pair.growU (h : Pair B b w vK vU n m xs ys) (hb : b < B) (hB : Below w.heap.size w wA) (ho2 : w6.ownsRow B 3 1 (.slice (some ⟨g, 0, none⟩) (m + 1) cap) (m + 1) (ys ++ news)) (hgr : wA.grownBy w6 vU.ownBlock) (hor : vU.ownBlock = some g ∨ g = HA) (hHA : wA.heap.size = HA) :
    Blk w6 b 25 #[vK, vU, .slice none 0 0] ∧ Pair B b (w6.setCell ⟨b, 1, none⟩ (.slice (some ⟨g, 0, none⟩) (m + 1) cap)) vK (.slice (some ⟨g, 0, none⟩) (m + 1) cap) n (m + 1) xs (ys ++ news) ∧
      (w2.heap.size = B → Only [b] w2 w → Only [b] w2 (w6.setCell ⟨b, 1, none⟩ (.slice (some ⟨g, 0, none⟩) (m + 1) cap))) := by
  have hA := h.step hB
  have k6 := hA.blk.only (grown_only hgr) (h.nU hb)
  have e6 : ∀ z ∈ vblk vK, w6.heap[z]? = wA.heap[z]? := fun z hz => (grown_only hgr).block z (ownsRow_lt hA.oK z hz).2 fun hm => h.dj z hz hm
  have oK6 := ownsRow_keep hA.oK e6
  have ho := only_setCell w6 b 1 (.slice (some ⟨g, 0, none⟩) (m + 1) cap)
  refine ⟨k6, ⟨by simpa using k6.put 1 _, ownsRow_keep oK6 fun z hz => ho.block z (ownsRow_lt oK6 z hz).2 (by simp; have := (ownsRow_lt oK6 z hz).1; omega), ownsRow_keep ho2 fun z hz => ho.block z (ownsRow_lt ho2 z hz).2 (by simp; have := (ownsRow_lt ho2 z hz).1; omega), fun z hz hm => ?_⟩, fun h2 hw => ((hw.then_below hB).then_only (grown_only hgr) (fun z hz => .inr (by have := (ownsRow_lt h.oU z hz).1; omega))).trans ho⟩
  simp [vblk, Value.ownBlock] at hm
  subst hm
  rcases hor with h' | h'
  · exact h.dj z hz (by unfold vblk; rw [h']; simp)
  · have := (ownsRow_lt h.oK z hz).2; have := hB.size; omega
end
def keyB (n : Int) : Bool := inB n 1 9999
def admB (u a : Int) : Bool := inB a 1 u
/-- The first k keys are there. -/
def KeysTo (keys : List Int) (b : Nat) (w2 : World) (k : Nat) (wr : World) : Prop :=
  ∃ vK vU, Pair w2.heap.size b wr vK vU k k ((keys.take k).flatMap encI) ((zeros (keys.take k)).flatMap encI) ∧ Only [b] w2 wr
theorem owns_sl {w : World} {B : Nat} {v : Value} {l : List Int} (h : w.ownsRow B 3 1 v l.length (l.flatMap encI)) : ∃ A c f, v = .slice A l.length c ∧ SlR Rp.int w A l.length c l f ∧ (∀ z ∈ f, B ≤ z) := by
  obtain ⟨A, c, f, hv, hs, h0, _, _⟩ := SlR.of_owns (r := Rp.int) (f1 := []) h (AllR.flat (w := w).2 ⟨rfl, rfl⟩)
  exact ⟨A, c, f, hv, by simpa using hs, fun z hz => (h.lt z (h0 z hz).1).1⟩
/-- The first k repos are there. -/
def AdmTo (keys admins : List Int) (wc : World) (b : Nat) (vK vU : Value) (k : Nat) (wr : World) : Prop :=
  ∃ v, Blk wr b 25 #[vK, vU, v] ∧ OwB Rp.repo 52 wc.heap.size v ((rawHouse keys admins).repos.take k) wr ∧ Only [b] wc wr

set_option maxHeartbeats 4000000 in
set_option maxRecDepth 100000 in
theorem specMdlNew_any {A0 A1 : Option Addr} {c0 c1 : Nat} {keys admins : List Int} {f0 f1 : List Nat} (w : World) (h0 : SlR Rp.int w A0 keys.length c0 keys f0) (h1 : SlR Rp.int w A1 admins.length c1 admins f1) (hk : keys.length ≤ 1048576) (ha : admins.length ≤ 1048576) :
    Calls Tryd.prog 6 #[.slice A0 keys.length c0, .slice A1 admins.length c1] w (ReadR Rp.house w (mdlNew keys admins)) := by
  have hf0 := h0.lt
  have hf1 := h1.lt
  have k1 := Blk.new w 25 #[.slice none 0 0, .slice none 0 0, .slice none 0 0]
  have k2 := Blk.new (w.alloc (.cells #[.slice none 0 0, .slice none 0 0, .slice none 0 0] 25)) 25 #[.slice none 0 0, .slice none 0 0, .slice none 0 0]
  replace k1 := k1.alloc (.cells #[.slice none 0 0, .slice none 0 0, .slice none 0 0] 25)
  have HB0 := (((Below.refl w.heap.size w).alloc (Nat.le_refl _) (.cells #[.slice none 0 0, .slice none 0 0, .slice none 0 0] 25)).alloc (by simp) (.cells #[.slice none 0 0, .slice none 0 0, .slice none 0 0] 25))
  replace h0 := (h0.allocN (.cells #[.slice none 0 0, .slice none 0 0, .slice none 0 0] 25)).allocN (.cells #[.slice none 0 0, .slice none 0 0, .slice none 0 0] 25)
  replace h1 := (h1.allocN (.cells #[.slice none 0 0, .slice none 0 0, .slice none 0 0] 25)).allocN (.cells #[.slice none 0 0, .slice none 0 0, .slice none 0 0] 25)
  rw [show (w.alloc (.cells #[.slice none 0 0, .slice none 0 0, .slice none 0 0] 25)).heap.size = w.heap.size + 1 by simp] at k2
  have HSZ0 := hide (show ((w.alloc (.cells #[.slice none 0 0, .slice none 0 0, .slice none 0 0] 25)).alloc (.cells #[.slice none 0 0, .slice none 0 0, .slice none 0 0] 25)).heap.size = w.heap.size + 1 + 1 by simp)
  have HK := hide hk
  have HA := hide ha
  clear hk ha
  go_enter Tryd.func6, Tryd.ntmps6
  go_upto_region 2 with fail
  generalize hW0 : (w.alloc (.cells #[.slice none 0 0, .slice none 0 0, .slice none 0 0] 25)).alloc (.cells #[.slice none 0 0, .slice none 0 0, .slice none 0 0] 25) = w0 at k1 k2 HB0 HSZ0 h0 h1 ⊢
  clear hW0
  go_wp2_with fail
  refine (specIn_any keys.length 1 4 _).mono ?_
  rintro e w1 ⟨rfl, hb1⟩
  replace k1 := k1.step hb1
  replace k2 := k2.step hb1
  replace h0 := h0.step hb1
  replace h1 := h1.step hb1
  have HS1 := hide (show w.heap.size + 1 + 1 ≤ w1.heap.size by have := hb1.size; have := HSZ0.out; omega)
  replace HB0 := Below.then_ HB0 hb1
  clear hb1 HSZ0
  cases hd : inB keys.length 1 4
  · have HE := hide (show mdlNew keys admins = ⟨[], [], []⟩ from mdlNew_no (by rw [hd]; simp))
    have kz := k1
    have HBB := hide HB0
    have m0 : w1.cell? ⟨w.heap.size + 1, 0, none⟩ = some (.slice none 0 0) := k2.cell 0
    have m1 : w1.cell? ⟨w.heap.size + 1, 1, none⟩ = some (.slice none 0 0) := k2.cell 1
    have m2 : w1.cell? ⟨w.heap.size + 1, 2, none⟩ = some (.slice none 0 0) := k2.cell 2
    clear hd h0 h1 k1 k2 HB0
    have y0 := blk_frozen kz 0
    have y1 := blk_frozen kz 1
    have y2 := blk_frozen kz 2
    have d0 : w1.cell? ⟨w.heap.size, 0, none⟩ = some (.slice none 0 0) := kz.cell 0
    have d1 : w1.cell? ⟨w.heap.size, 1, none⟩ = some (.slice none 0 0) := kz.cell 1
    have d2 : w1.cell? ⟨w.heap.size, 2, none⟩ = some (.slice none 0 0) := kz.cell 2
    have R := hide (((kz.put 0 (.slice none 0 0)).put 1 (.slice none 0 0)).put 2 (.slice none 0 0))
    have RO := hide ((((Only.refl [w.heap.size] w1).setCell (p := ⟨w.heap.size, 0, none⟩) (.inl (by simp)) (.slice none 0 0)).setCell (p := ⟨w.heap.size, 1, none⟩) (.inl (by simp)) (.slice none 0 0)).setCell (p := ⟨w.heap.size, 2, none⟩) (.inl (by simp)) (.slice none 0 0))
    have HBW := hide (setCell3 (i := 0) (j := 1) (k := 2) (u := (.slice none 0 0)) (v := (.slice none 0 0)) (y := (.slice none 0 0)) HBB.out (Nat.le_refl _))
    clear kz HBB
    go_wp2_with fail
    have R := R.out
    have RO := RO.out
    have HBW := HBW.out
    generalize ((w1.setCell ⟨w.heap.size, 0, none⟩ (.slice none 0 0)).setCell ⟨w.heap.size, 1, none⟩ (.slice none 0 0)).setCell ⟨w.heap.size, 2, none⟩ (.slice none 0 0) = W at R RO HBW ⊢
    have e0 : W.cell? ⟨w.heap.size, 0, none⟩ = some (.slice none 0 0) := R.cell 0
    have e1 : W.cell? ⟨w.heap.size, 1, none⟩ = some (.slice none 0 0) := R.cell 1
    have e2 : W.cell? ⟨w.heap.size, 2, none⟩ = some (.slice none 0 0) := R.cell 2
    refine bodyPost_ret (v := .agg #[(.slice none 0 0), (.slice none 0 0), (.slice none 0 0)]) (by simp [results, Tryd.results6, go_sem, e0, e1, e2]) rfl ?_
    rw [HE.out]
    exact ⟨[.slice none 0 0, .slice none 0 0, .slice none 0 0], [], rfl, ⟨none, 0, 0, [], none, 0, 0, [], none, 0, 0, [], rfl, rfl, SlR.nil, SlR.nil, SlR.nil⟩, by simp, HBW⟩
  have H1 := hide hd
  clear hd
  go_wp2_with fail
  refine (specIn_any admins.length 1 3 _).mono ?_
  rintro e w2 ⟨rfl, hb2⟩
  replace k1 := k1.step hb2
  replace k2 := k2.step hb2
  replace h0 := h0.step hb2
  replace h1 := h1.step hb2
  have HS2 := hide (show w.heap.size + 1 + 1 ≤ w2.heap.size by have := hb2.size; have := HS1.out; omega)
  replace HB0 := Below.then_ HB0 hb2
  clear hb2 HS1
  cases hd : inB admins.length 1 3
  · have HE := hide (show mdlNew keys admins = ⟨[], [], []⟩ from mdlNew_no (by rw [hd]; simp))
    have kz := k1
    have HBB := hide HB0
    have m0 : w2.cell? ⟨w.heap.size + 1, 0, none⟩ = some (.slice none 0 0) := k2.cell 0
    have m1 : w2.cell? ⟨w.heap.size + 1, 1, none⟩ = some (.slice none 0 0) := k2.cell 1
    have m2 : w2.cell? ⟨w.heap.size + 1, 2, none⟩ = some (.slice none 0 0) := k2.cell 2
    clear hd h0 h1 k1 k2 HB0
    have y0 := blk_frozen kz 0
    have y1 := blk_frozen kz 1
    have y2 := blk_frozen kz 2
    have d0 : w2.cell? ⟨w.heap.size, 0, none⟩ = some (.slice none 0 0) := kz.cell 0
    have d1 : w2.cell? ⟨w.heap.size, 1, none⟩ = some (.slice none 0 0) := kz.cell 1
    have d2 : w2.cell? ⟨w.heap.size, 2, none⟩ = some (.slice none 0 0) := kz.cell 2
    have R := hide (((kz.put 0 (.slice none 0 0)).put 1 (.slice none 0 0)).put 2 (.slice none 0 0))
    have RO := hide ((((Only.refl [w.heap.size] w2).setCell (p := ⟨w.heap.size, 0, none⟩) (.inl (by simp)) (.slice none 0 0)).setCell (p := ⟨w.heap.size, 1, none⟩) (.inl (by simp)) (.slice none 0 0)).setCell (p := ⟨w.heap.size, 2, none⟩) (.inl (by simp)) (.slice none 0 0))
    have HBW := hide (setCell3 (i := 0) (j := 1) (k := 2) (u := (.slice none 0 0)) (v := (.slice none 0 0)) (y := (.slice none 0 0)) HBB.out (Nat.le_refl _))
    clear kz HBB
    go_wp2_with fail
    have R := R.out
    have RO := RO.out
    have HBW := HBW.out
    generalize ((w2.setCell ⟨w.heap.size, 0, none⟩ (.slice none 0 0)).setCell ⟨w.heap.size, 1, none⟩ (.slice none 0 0)).setCell ⟨w.heap.size, 2, none⟩ (.slice none 0 0) = W at R RO HBW ⊢
    have e0 : W.cell? ⟨w.heap.size, 0, none⟩ = some (.slice none 0 0) := R.cell 0
    have e1 : W.cell? ⟨w.heap.size, 1, none⟩ = some (.slice none 0 0) := R.cell 1
    have e2 : W.cell? ⟨w.heap.size, 2, none⟩ = some (.slice none 0 0) := R.cell 2
    refine bodyPost_ret (v := .agg #[(.slice none 0 0), (.slice none 0 0), (.slice none 0 0)]) (by simp [results, Tryd.results6, go_sem, e0, e1, e2]) rfl ?_
    rw [HE.out]
    exact ⟨[.slice none 0 0, .slice none 0 0, .slice none 0 0], [], rfl, ⟨none, 0, 0, [], none, 0, 0, [], none, 0, 0, [], rfl, rfl, SlR.nil, SlR.nil, SlR.nil⟩, by simp, HBW⟩
  have H2 := hide hd
  clear hd
  have hL0 : ∀ z ∈ f0, z < w.heap.size := hf0
  have hL1 : ∀ z ∈ f1, z < w.heap.size := hf1
  have K1 := hide (show ∀ W : World, Only [w.heap.size + 1] w2 W → Blk W w.heap.size 25 #[.slice none 0 0, .slice none 0 0, .slice none 0 0] from fun W h => k1.only h (by simp))
  have R0 := hide (show ∀ W : World, Only [w.heap.size + 1] w2 W → SlR Rp.int W A0 keys.length c0 keys f0 from fun W h => h0.only h (fun z hz hm => by simp at hm; have := hL0 z hz; omega))
  have R1 := hide (show ∀ W : World, Only [w.heap.size + 1] w2 W → SlR Rp.int W A1 admins.length c1 admins f1 from fun W h => h1.only h (fun z hz hm => by simp at hm; have := hL1 z hz; omega))
  have RB := hide (show ∀ W : World, Only [w.heap.size + 1] w2 W → Below w.heap.size w W from fun W h => HB0.trans (h.below (fun z hz => by simp at hz; omega) (by have := HS2.out; omega)))
  have hm0 := h0.max
  have hm1 := h1.max
  obtain ⟨i0, hi0, hz0, hz1, hz2⟩ := info_parts infoC_Int
  have KP := hide k2
  clear h0 h1 k1 k2 HB0 hL0 hL1
  go_wp2_with fail
  go_loopw [6] (fun i wr => ∃ k : Nat, k ≤ keys.length ∧ i = .int .i64 k ∧ allTo keyB keys k ∧ KeysTo keys (w.heap.size + 1) w2 k wr) (fun i _ => keys.length - (intOf i).toNat)
  case atStart => exact ⟨0, Nat.zero_le _, rfl, allTo.zero, .slice none 0 0, .slice none 0 0, ⟨KP.out, World.ownsRow_nil _ _ _ _, World.ownsRow_nil _ _ _ _, by simp [vblk, Value.ownBlock]⟩, Only.refl _ _⟩
  case round =>
    obtain ⟨wo, hwo⟩ : ∃ wo, wo = wr := ⟨_, rfl⟩
    subst hwo
    obtain ⟨k, hk, rfl, hal, vK, vU, hP, ho⟩ := hrel
    have HP := hide hP
    have HO := hide ho
    have HAL := hide hal
    have hbB : w.heap.size + 1 < w2.heap.size := by have := HS2.out; omega
    have HbB := hide hbB
    clear hP ho hal
    by_cases hlt : k < keys.length
    · obtain ⟨bp, op, rfl, hbp, hmp, q0⟩ := int_cells (R0.out wo HO.out) hlt
      have j0 : (0 : Int) ≤ (k : Int) := by omega
      have j1 : (k : Int) < (keys.length : Int) := by omega
      have kb := HP.out.blk
      have u0 : wo.cell? ⟨w.heap.size + 1, 0, none⟩ = some vK := kb.cell 0
      go_wp2_with fail
      refine (specIn_any keys[k] 1 9999 _).mono ?_
      rintro e w3 ⟨rfl, hb3⟩
      have q3 := cell_step q0 hb3
      have HP3 := hide (HP.out.step hb3)
      have HO3 := hide (HO.out.then_below hb3)
      clear hb3 u0 q0 kb hbp HP HO
      cases hd : inB keys[k] 1 9999
      · have HE := hide (show mdlNew keys admins = ⟨[], [], []⟩ from mdlNew_no (by rw [show (keys.all fun n => inB n 1 9999) = false from all_not hlt hd]; simp))
        have kz := K1.out _ HO3.out
        have HBB := hide (RB.out _ HO3.out)
        clear hd q3
        have y0 := blk_frozen kz 0
        have y1 := blk_frozen kz 1
        have y2 := blk_frozen kz 2
        have d0 : w3.cell? ⟨w.heap.size, 0, none⟩ = some (.slice none 0 0) := kz.cell 0
        have d1 : w3.cell? ⟨w.heap.size, 1, none⟩ = some (.slice none 0 0) := kz.cell 1
        have d2 : w3.cell? ⟨w.heap.size, 2, none⟩ = some (.slice none 0 0) := kz.cell 2
        have R := hide (((kz.put 0 (.slice none 0 0)).put 1 (.slice none 0 0)).put 2 (.slice none 0 0))
        have RO := hide ((((Only.refl [w.heap.size] w3).setCell (p := ⟨w.heap.size, 0, none⟩) (.inl (by simp)) (.slice none 0 0)).setCell (p := ⟨w.heap.size, 1, none⟩) (.inl (by simp)) (.slice none 0 0)).setCell (p := ⟨w.heap.size, 2, none⟩) (.inl (by simp)) (.slice none 0 0))
        have HBW := hide (setCell3 (i := 0) (j := 1) (k := 2) (u := (.slice none 0 0)) (v := (.slice none 0 0)) (y := (.slice none 0 0)) HBB.out (Nat.le_refl _))
        clear kz HBB
        go_wp2_with fail
        have R := R.out
        have RO := RO.out
        have HBW := HBW.out
        generalize ((w3.setCell ⟨w.heap.size, 0, none⟩ (.slice none 0 0)).setCell ⟨w.heap.size, 1, none⟩ (.slice none 0 0)).setCell ⟨w.heap.size, 2, none⟩ (.slice none 0 0) = W at R RO HBW ⊢
        have e0 : W.cell? ⟨w.heap.size, 0, none⟩ = some (.slice none 0 0) := R.cell 0
        have e1 : W.cell? ⟨w.heap.size, 1, none⟩ = some (.slice none 0 0) := R.cell 1
        have e2 : W.cell? ⟨w.heap.size, 2, none⟩ = some (.slice none 0 0) := R.cell 2
        refine bodyPost_ret (v := .agg #[(.slice none 0 0), (.slice none 0 0), (.slice none 0 0)]) (by simp [results, Tryd.results6, go_sem, e0, e1, e2]) rfl ?_
        rw [HE.out]
        exact ⟨[.slice none 0 0, .slice none 0 0, .slice none 0 0], [], rfl, ⟨none, 0, 0, [], none, 0, 0, [], none, 0, 0, [], rfl, rfl, SlR.nil, SlR.nil, SlR.nil⟩, by simp, HBW⟩
      · have HAN := hide (HAL.out.next hlt (show keyB keys[k] = true from hd))
        clear hd HAL
        have kb := HP3.out.blk
        have u0 : w3.cell? ⟨w.heap.size + 1, 0, none⟩ = some vK := kb.cell 0
        have HKk := hide (show k + 1 ≤ 1048576 from by have := HK.out; omega)
        have HSo := hide (show w2.heap.size ≤ w3.heap.size from HO3.out.size)
        have ua := cell_alloc u0 (.cells #[.int .i64 keys[k]] 3)
        go_wp2_with fail
        refine wp_stop fun K hK => ?_
        have HKK := hide hK
        clear hK
        go_region_law (refine step_append_lies _ rfl _ _ 22 rfl w2.heap.size 3 i0 _ 1 8 Tryd.underlying22 hi0 hz0 hz1 hz2 rfl (by decide) vK k ((keys.take k).flatMap encI) (by simp [Act.eval, Act.put]) (HP3.out.step (by first | exact ((Below.refl _ _).alloc (Nat.le_refl _) _).drew | exact ((Below.refl _ _).drew).alloc (Nat.le_refl _) _)).oK ⟨w3.heap.size, 0, none⟩ 1 1 [.int .i64 keys[k]] (by simp [Act.eval, Act.put]) rfl (by first | exact news_alloc w3.drew _ _ | exact news_alloc w3 _ _) (by intro u hu; simp at hu; subst hu; rfl) (by decide) (by have := HKk.out; unfold maxLen; omega) (by have := HKk.out; omega) (by first | (simp; have := HSo.out; omega)) (w3.heap.size + 1) (by simp) ?_; intro g cap w6 ho2 hgr hor hlt2; obtain ⟨k6, P6, O6⟩ := HP3.out.growK (w2 := w2) HbB.out (by first | exact ((Below.refl _ _).drew).alloc (Nat.le_refl _) _ | exact ((Below.refl _ _).alloc (Nat.le_refl _) _).drew) ho2 hgr hor (by simp); have cb6 := k6.cell 0; have zb6 := blk_frozen k6 0; simp at cb6)
        all_goals
          refine HKK.out _ _ ?_
          clear HKK K
          have HP7 := hide P6
          have HO7 := hide (O6 rfl HO3.out)
          clear ho2 hgr hor hlt2 k6 P6 O6 cb6 zb6 u0 kb ua
          generalize w6.setCell ⟨w.heap.size + 1, 0, none⟩ (.slice (some ⟨g, 0, none⟩) (k + 1) cap) = w7 at HP7 HO7 ⊢
          have kb := HP7.out.blk
          have u1 : w7.cell? ⟨w.heap.size + 1, 1, none⟩ = some vU := kb.cell 1
          have HS7 := hide (show w2.heap.size ≤ w7.heap.size from HO7.out.size)
          have HSZ := hide (show (w7.alloc (.cells #[.int .i64 0] 3)).heap.size = w7.heap.size + 1 by simp)
          go_wp2_with (at_builtin; refine wpList_append_lies _ rfl _ _ 22 rfl w2.heap.size 3 i0 _ 1 8 Tryd.underlying22 hi0 hz0 hz1 hz2 rfl (by decide) _ _ _ rfl (HP7.out.step ((Below.refl _ _).alloc (Nat.le_refl _) _)).oU ⟨w7.heap.size, 0, none⟩ 1 1 [.int .i64 0] rfl rfl (news_alloc w7 _ _) (by intro u hu; simp at hu; subst hu; rfl) (by decide) (by have := HKk.out; unfold maxLen; omega) (by have := HKk.out; omega) (by simp; have := HS7.out; omega) (w7.heap.size + 1) HSZ.out ?_)
          intro g2 cap2 w8 ho2 hgr hor hlt2
          obtain ⟨k8, P8, O8⟩ := HP7.out.growU (w2 := w2) HbB.out ((Below.refl _ _).alloc (Nat.le_refl _) _) ho2 hgr hor HSZ.out
          have cb8 : w8.cell? ⟨w.heap.size + 1, 1, none⟩ = some vU := k8.cell 1
          have zb8 := blk_frozen k8 1
          have HREL := hide (show KeysTo keys (w.heap.size + 1) w2 (k + 1) (w8.setCell ⟨w.heap.size + 1, 1, none⟩ (.slice (some ⟨g2, 0, none⟩) (k + 1) cap2)) from ⟨_, _, by rw [take_encI hlt, take_zeros hlt]; exact P8, O8 rfl HO7.out⟩)
          clear ho2 hgr hor hlt2 k8 P8 O8 u1 kb q3
          go_wp2
          exact ⟨⟨k + 1, by omega, by go_num, HAN.out, HREL.out⟩, by simp [intOf]; omega⟩
    · have hk' : k = keys.length := by omega
      subst hk'
      have HKO := hide (show (keys.all fun n => inB n 1 9999) = true from HAL.out.end_)
      have hP := HP.out
      rw [show (keys.take keys.length) = keys from List.take_of_length_le (Nat.le_refl _)] at hP
      have hU := hP.oU
      rw [← zeros_length keys] at hU
      obtain ⟨AK, cK, fK, rfl, hsK, hloK⟩ := owns_sl hP.oK
      obtain ⟨AU, cU, fU, rfl, hsU, hloU⟩ := owns_sl hU
      have KBW := hide hP.blk
      have SK := hide hsK
      have SU := hide hsU
      have HLK := hide (And.intro hloK hloU)
      have HSW := hide (show w2.heap.size ≤ wo.heap.size from HO.out.size)
      obtain ⟨j0, hj0, hy0, hy1, hy2⟩ := info_parts infoC_Repo
      clear hP hU hsK hsU hloK hloU HP HAL hlt hk
      go_wp2_with fail
      go_loopw [7] (fun i wr => ∃ k : Nat, k ≤ admins.length ∧ i = .int .i64 k ∧ allTo (admB keys.length) admins k ∧ AdmTo keys admins wo (w.heap.size + 1) (.slice AK keys.length cK) (.slice AU (zeros keys).length cU) k wr) (fun i _ => admins.length - (intOf i).toNat)
      case atStart => exact ⟨0, Nat.zero_le _, rfl, allTo.zero, .slice none 0 0, KBW.out, OwB.nil, Only.refl _ _⟩
      case round =>
        obtain ⟨wp, hwp⟩ : ∃ wp, wp = wr := ⟨_, rfl⟩
        subst hwp
        obtain ⟨k, hk, rfl, hal, v, kbr, hown, ho⟩ := hrel
        have KBR := hide kbr
        have HOW := hide hown
        have HON := hide ho
        have HOQ := hide (HO.out.trans ho)
        have HAL := hide hal
        clear kbr hown ho hal
        by_cases hlt : k < admins.length
        · obtain ⟨bp, op, rfl, hbp, hmp, q0⟩ := int_cells (R1.out wp HOQ.out) hlt
          have i0 : (0 : Int) ≤ (k : Int) := by omega
          have i1 : (k : Int) < (admins.length : Int) := by omega
          go_wp2_with fail
          refine (specIn_any admins[k] 1 keys.length _).mono ?_
          rintro e w3 ⟨rfl, hb3⟩
          have q3 := cell_step q0 hb3
          have KB3 := hide (KBR.out.step hb3)
          have HW3 := hide (HOW.out.step hb3)
          have HN3 := hide (HON.out.then_below hb3)
          have HO3 := hide (HO.out.trans HN3.out)
          clear hb3 q0 hbp KBR HOW HON
          cases hd : inB admins[k] 1 keys.length
          · have HE := hide (show mdlNew keys admins = ⟨[], [], []⟩ from mdlNew_no (by rw [show (admins.all fun a => inB a 1 keys.length) = false from all_not hlt hd]; simp))
            have kz := K1.out _ HO3.out
            have HBB := hide (RB.out _ HO3.out)
            clear hd q3
            have y0 := blk_frozen kz 0
            have y1 := blk_frozen kz 1
            have y2 := blk_frozen kz 2
            have d0 : w3.cell? ⟨w.heap.size, 0, none⟩ = some (.slice none 0 0) := kz.cell 0
            have d1 : w3.cell? ⟨w.heap.size, 1, none⟩ = some (.slice none 0 0) := kz.cell 1
            have d2 : w3.cell? ⟨w.heap.size, 2, none⟩ = some (.slice none 0 0) := kz.cell 2
            have R := hide (((kz.put 0 (.slice none 0 0)).put 1 (.slice none 0 0)).put 2 (.slice none 0 0))
            have HBW := hide (setCell3 (i := 0) (j := 1) (k := 2) (u := (.slice none 0 0)) (v := (.slice none 0 0)) (y := (.slice none 0 0)) HBB.out (Nat.le_refl _))
            clear kz HBB
            go_wp2_with fail
            have R := R.out
            have HBW := HBW.out
            generalize ((w3.setCell ⟨w.heap.size, 0, none⟩ (.slice none 0 0)).setCell ⟨w.heap.size, 1, none⟩ (.slice none 0 0)).setCell ⟨w.heap.size, 2, none⟩ (.slice none 0 0) = W at R HBW ⊢
            have e0 : W.cell? ⟨w.heap.size, 0, none⟩ = some (.slice none 0 0) := R.cell 0
            have e1 : W.cell? ⟨w.heap.size, 1, none⟩ = some (.slice none 0 0) := R.cell 1
            have e2 : W.cell? ⟨w.heap.size, 2, none⟩ = some (.slice none 0 0) := R.cell 2
            refine bodyPost_ret (v := .agg #[(.slice none 0 0), (.slice none 0 0), (.slice none 0 0)]) (by simp [results, Tryd.results6, go_sem, e0, e1, e2]) rfl ?_
            rw [HE.out]
            exact ⟨[.slice none 0 0, .slice none 0 0, .slice none 0 0], [], rfl, ⟨none, 0, 0, [], none, 0, 0, [], none, 0, 0, [], rfl, rfl, SlR.nil, SlR.nil, SlR.nil⟩, by simp, HBW⟩
          · have HAN := hide (HAL.out.next hlt (show admB keys.length admins[k] = true from hd))
            clear hd HAL
            have HTk := hide (show (rawHouse keys admins).repos.take (k + 1) = (rawHouse keys admins).repos.take k ++ [⟨admins[k], [], []⟩] by
              have hl : k < (rawHouse keys admins).repos.length := by simpa [rawHouse] using hlt
              rw [List.take_succ_eq_append_getElem hl]
              simp [rawHouse])
            have HLk := hide (show ((rawHouse keys admins).repos.take k).length = k by simp [rawHouse]; omega)
            obtain ⟨xs, hoo, hgrow⟩ := HW3.out.grow
            rw [HLk.out] at hgrow
            have HG := hide (show ∀ wA : World, Below w3.heap.size w3 wA → wA.heap.size = w3.heap.size + 1 → wA.ownsRow 0 52 3 v k xs ∧ Grows Rp.repo 52 wo.heap.size v k xs [.int .i64 admins[k], .slice none 0 0, .slice none 0 0] ((rawHouse keys admins).repos.take k ++ [⟨admins[k], [], []⟩]) wA (w3.heap.size + 1) from fun wA hb hs => by
              obtain ⟨hoA, hsn⟩ := hgrow hb
              exact ⟨hoA, hsn (ys := [.int .i64 admins[k], .slice none 0 0, .slice none 0 0]) (y := ⟨admins[k], [], []⟩) (g := []) ⟨none, 0, 0, [], none, 0, 0, [], rfl, rfl, SlR.nil, SlR.nil⟩ List.nodup_nil (by simp) HN3.out.size (Free.nil _) hs⟩)
            have HV := hide HW3.out.vlow
            have HNEb := hide (show w.heap.size + 1 ∉ vblk v from fun hm => by have := HW3.out.vlow _ hm; have := HSW.out; have := HbB.out; omega)
            have kb := KB3.out
            have u0 : w3.cell? ⟨w.heap.size + 1, 2, none⟩ = some v := kb.cell 2
            have HAd := hide (show k + 1 ≤ 1048576 from by have := HA.out; omega)
            have HSo := hide (show w2.heap.size ≤ w3.heap.size from HO3.out.size)
            have ua := cell_alloc u0 (.cells #[.int .i64 admins[k], .slice none 0 0, .slice none 0 0] 52)
            clear hgrow hoo
            go_wp2_with fail
            refine wp_stop fun K hK => ?_
            have HKK := hide hK
            clear hK
            go_region_law (refine step_append_lies _ rfl _ _ 23 rfl 0 52 j0 _ 3 56 Tryd.underlying23 hj0 hy0 hy1 hy2 rfl (by decide) v k xs (by simp [Act.eval, Act.put]) (HG.out _ (by first | exact ((Below.refl _ _).alloc (Nat.le_refl _) _).drew | exact ((Below.refl _ _).drew).alloc (Nat.le_refl _) _) (by simp)).1 ⟨w3.heap.size, 0, none⟩ 1 1 [.int .i64 admins[k], .slice none 0 0, .slice none 0 0] (by simp [Act.eval, Act.put]) rfl (by first | exact news_alloc w3.drew _ _ | exact news_alloc w3 _ _) (by intro u hu; simp at hu; rcases hu with rfl | rfl <;> rfl) (by decide) (by have := HAd.out; unfold maxLen; omega) (by have := HAd.out; omega) (Nat.zero_le _) (w3.heap.size + 1) (by simp) ?_; intro g cap w6 ho2 hgr hor hlt2; have HNw := hide ((HG.out _ (by first | exact ((Below.refl _ _).drew).alloc (Nat.le_refl _) _ | exact ((Below.refl _ _).alloc (Nat.le_refl _) _).drew) (by simp)).2 _ _ _ ho2 hgr hor); have HOa := hide (show Only [w.heap.size + 1] wo w6 from (HN3.out.then_below (by first | exact ((Below.refl _ _).drew).alloc (Nat.le_refl _) _ | exact ((Below.refl _ _).alloc (Nat.le_refl _) _).drew)).then_only (grown_only hgr) (fun z hz => .inr (HV.out z hz))); have k6 := (KB3.out.step (by first | exact ((Below.refl _ _).drew).alloc (Nat.le_refl _) _ | exact ((Below.refl _ _).alloc (Nat.le_refl _) _).drew)).only (grown_only hgr) HNEb.out; have cb6 := k6.cell 2; have zb6 := blk_frozen k6 2; simp at cb6)
            all_goals
              refine HKK.out _ _ ?_
              clear HKK K
              have HREL := hide (show AdmTo keys admins wo (w.heap.size + 1) (.slice AK keys.length cK) (.slice AU (zeros keys).length cU) (k + 1) (w6.setCell ⟨w.heap.size + 1, 2, none⟩ (.slice (some ⟨g, 0, none⟩) (k + 1) cap)) from
                ⟨_, by simpa using k6.put 2 (.slice (some ⟨g, 0, none⟩) (k + 1) cap), by rw [HTk.out]; exact HNw.out.only (only_setCell w6 _ 2 _) (by intro z hz; simp at hz; have := HSW.out; have := HbB.out; omega), HOa.out.trans (only_setCell w6 _ 2 _)⟩)
              clear ho2 hgr hor hlt2 k6 cb6 zb6 u0 kb ua q3
              go_wp2
              exact ⟨⟨k + 1, by omega, by go_num, HAN.out, HREL.out⟩, by simp [intOf]; omega⟩
        · have hk' : k = admins.length := by omega
          subst hk'
          have HE := hide (show mdlNew keys admins = rawHouse keys admins from mdlNew_yes (by rw [H1.out, H2.out, HKO.out, show (admins.all fun a => inB a 1 keys.length) = true from HAL.out.end_]; rfl))
          have hown := HOW.out
          rw [show (rawHouse keys admins).repos.take admins.length = (rawHouse keys admins).repos from List.take_of_length_le (by simp [rawHouse])] at hown
          obtain ⟨fq, hows, _, hlo, _⟩ := hown
          obtain ⟨Av, cv, fv, rfl, hsl, hsub, _, _⟩ := hows.sl
          have hsK := SK.out.keep (w' := wp) fun z hz => HON.out.block z (SK.out.lt z hz) (by simp; have := HLK.out.1 z hz; have := HbB.out; omega)
          have hsU := SU.out.keep (w' := wp) fun z hz => HON.out.block z (SU.out.lt z hz) (by simp; have := HLK.out.2 z hz; have := HbB.out; omega)
          have hLo : ∀ z ∈ fK ++ (fU ++ fv), w.heap.size + 1 ≤ z := fun z hz => by
            have := HbB.out
            have := HSW.out
            simp only [List.mem_append] at hz
            rcases hz with hz | hz | hz
            · have := HLK.out.1 z hz; omega
            · have := HLK.out.2 z hz; omega
            · have := hlo z (hsub.subset hz); omega
          have HRead := hide (show Rp.house.R wp [.slice AK keys.length cK, .slice AU (zeros keys).length cU, .slice Av (rawHouse keys admins).repos.length cv] (rawHouse keys admins) (fK ++ (fU ++ fv)) from ⟨_, _, _, fK, _, _, _, fU, _, _, _, fv, rfl, rfl, hsK, hsU, hsl⟩)
          have HLo := hide hLo
          have kB := KBR.out
          have u0 : wp.cell? ⟨w.heap.size + 1, 0, none⟩ = some (.slice AK keys.length cK) := kB.cell 0
          have u1 : wp.cell? ⟨w.heap.size + 1, 1, none⟩ = some (.slice AU (zeros keys).length cU) := kB.cell 1
          have u2 : wp.cell? ⟨w.heap.size + 1, 2, none⟩ = some (.slice Av (rawHouse keys admins).repos.length cv) := kB.cell 2
          have kz := K1.out _ HOQ.out
          have HBB := hide (RB.out _ HOQ.out)
          have y0 := blk_frozen kz 0
          have y1 := blk_frozen kz 1
          have y2 := blk_frozen kz 2
          have d0 : wp.cell? ⟨w.heap.size, 0, none⟩ = some (.slice none 0 0) := kz.cell 0
          have d1 : wp.cell? ⟨w.heap.size, 1, none⟩ = some (.slice none 0 0) := kz.cell 1
          have d2 : wp.cell? ⟨w.heap.size, 2, none⟩ = some (.slice none 0 0) := kz.cell 2
          have R := hide (((kz.put 0 (.slice AK keys.length cK)).put 1 (.slice AU (zeros keys).length cU)).put 2 (.slice Av (rawHouse keys admins).repos.length cv))
          have RO := hide ((((Only.refl [w.heap.size] wp).setCell (p := ⟨w.heap.size, 0, none⟩) (.inl (by simp)) (.slice AK keys.length cK)).setCell (p := ⟨w.heap.size, 1, none⟩) (.inl (by simp)) (.slice AU (zeros keys).length cU)).setCell (p := ⟨w.heap.size, 2, none⟩) (.inl (by simp)) (.slice Av (rawHouse keys admins).repos.length cv))
          have HBW := hide (setCell3 (i := 0) (j := 1) (k := 2) (u := (.slice AK keys.length cK)) (v := (.slice AU (zeros keys).length cU)) (y := (.slice Av (rawHouse keys admins).repos.length cv)) HBB.out (Nat.le_refl _))
          clear hows hlo hsl hsub hsK hsU hLo kB HOW kz HBB
          go_wp2_with fail
          have R := R.out
          have RO := RO.out
          have HBW := HBW.out
          generalize ((wp.setCell ⟨w.heap.size, 0, none⟩ (.slice AK keys.length cK)).setCell ⟨w.heap.size, 1, none⟩ (.slice AU (zeros keys).length cU)).setCell ⟨w.heap.size, 2, none⟩ (.slice Av (rawHouse keys admins).repos.length cv) = W at R RO HBW ⊢
          have e0 : W.cell? ⟨w.heap.size, 0, none⟩ = some (.slice AK keys.length cK) := R.cell 0
          have e1 : W.cell? ⟨w.heap.size, 1, none⟩ = some (.slice AU (zeros keys).length cU) := R.cell 1
          have e2 : W.cell? ⟨w.heap.size, 2, none⟩ = some (.slice Av (rawHouse keys admins).repos.length cv) := R.cell 2
          refine bodyPost_ret (v := .agg #[(.slice AK keys.length cK), (.slice AU (zeros keys).length cU), (.slice Av (rawHouse keys admins).repos.length cv)]) (by simp [results, Tryd.results6, go_sem, e0, e1, e2]) rfl ?_
          rw [HE.out]
          have hRd := HRead.out
          have hl7 := Rp.house.lt hRd
          exact ⟨_, _, rfl, Rp.house.keep hRd (fun z hz => RO.block z (hl7 z hz) (by simp; have := HLo.out z hz; omega)), fun z hz => by have := HLo.out z hz; omega, HBW⟩
end Go.Proofs.YtnogkkcmcnhodaaDoor
