/- Walks: a rule is drawn. -/
import Derived.Test.YthopednilgncgaaDoorDb
import Derived.Test.YthopednilgncgaaDoorTy
import Derived.Outline
namespace Go.Proofs.YthopednilgncgaaDoor
open Go.RowKit
attribute [local go_sem ↓] Go.wp_at_zero Go.wp_at_succ

/-! Facts of temporaries in draws. -/
def FPtr (g : Nat) (v : Value) : Prop := v = .pointer (some ⟨g, 0, none⟩)
def FNat (n : Nat) (v : Value) : Prop := ∃ x : Nat, v = .int .i64 (x : Int) ∧ x < n
def FStr (k : Nat) (v : Value) : Prop := ∃ s : ByteArray, v = .string s ∧ s.size ≤ k
def FStrs (g : Nat) (l : List ByteArray) (v : Value) (w : World) : Prop := ∃ b, v = .slice (some ⟨b, 0, none⟩) l.length l.length ∧ b ≠ g ∧ Blk w b 9 (strs l)
def FCell (g k : Nat) (v : Value) (w : World) : Prop := ∃ b x s, v = .pointer (some ⟨b, x, none⟩) ∧ b ≠ g ∧ b < w.heap.size ∧ w.cell? ⟨b, x, none⟩ = some (.string s) ∧ s.size ≤ k
def FBox (g B : Nat) (t : TypeId) (cs : Array Value) (v : Value) (w : World) : Prop := ∃ b, v = .pointer (some ⟨b, 0, none⟩) ∧ b ≠ g ∧ B ≤ b ∧ Blk w b t cs
section
variable {g k B : Nat} {l : List ByteArray} {v : Value} {w w' : World} {t : TypeId} {cs : Array Value}
theorem FStrs.only (h : FStrs g l v w) (ho : Only [g] w w') : FStrs g l v w' := by
  obtain ⟨b, h1, h2, h3⟩ := h
  exact ⟨b, h1, h2, h3.only ho (by simpa using h2)⟩
theorem FCell.only (h : FCell g k v w) (ho : Only [g] w w') : FCell g k v w' := by
  obtain ⟨b, x, s, h1, h2, h3, h4, h5⟩ := h
  refine ⟨b, x, s, h1, h2, Nat.lt_of_lt_of_le h3 ho.size, ?_, h5⟩
  rw [World.cell?_of_block (a := ⟨b, x, none⟩) (ho.block b h3 (by simpa using h2))]
  exact h4
theorem FBox.only (h : FBox g B t cs v w) (ho : Only [g] w w') : FBox g B t cs v w' := by
  obtain ⟨b, h1, h2, h3, h4⟩ := h
  exact ⟨b, h1, h2, h3, h4.only ho (by simpa using h2)⟩
end

/-- A block of four cells, written over. -/
theorem Blk.set4 {w : World} {b : Nat} {t : TypeId} {a0 a1 a2 a3 : Value} (h : Blk w b t #[a0, a1, a2, a3]) (x0 x1 x2 x3 : Value) :
    Blk ((((w.setCell ⟨b, 0, none⟩ x0).setCell ⟨b, 1, none⟩ x1).setCell ⟨b, 2, none⟩ x2).setCell ⟨b, 3, none⟩ x3) b t #[x0, x1, x2, x3] := by
  have h1 := heap_setCell_free (i := 0) h x0
  have h2 := heap_setCell_free (i := 1) h1 x1
  have h3 := heap_setCell_free (i := 2) h2 x2
  have h4 := heap_setCell_free (i := 3) h3 x3
  simpa [Blk] using h4
theorem Blk.set1 {w : World} {b i : Nat} {t : TypeId} {cs : Array Value} (h : Blk w b t cs) (x : Value) : Blk (w.setCell ⟨b, i, none⟩ x) b t (cs.setIfInBounds i x) := heap_setCell_free h x
theorem Blk.frozen {w : World} {b : Nat} {t : TypeId} {cs : Array Value} (h : Blk w b t cs) (j : Nat) : w.frozen? ⟨b, j, none⟩ = false :=
  (show Free w [b] from fun x hx => by simp at hx; subst hx; exact ⟨_, _, h⟩).frozen (by simp) j

/-- What the temporaries of the first region hold. -/
def ruleΓ (g B : Nat) : Facts := fun s v w => match s with
  | 0 => FPtr g v
  | 6 => FPtr g v
  | 7 => FNat 4 v
  | 8 => FStrs g [ByteArray.empty, ⟨#[97]⟩, ⟨#[98]⟩, ⟨#[99]⟩] v w
  | 9 => FPtr g v
  | 10 => FNat 4 v
  | 11 => FCell g 11 v w
  | 12 => FStr 11 v
  | 13 => FStrs g [ByteArray.empty, ByteArray.empty, ⟨#[97]⟩, ⟨#[98]⟩, ⟨#[97, 47, 98]⟩] v w
  | 14 => FPtr g v
  | 15 => FNat 5 v
  | 16 => FCell g 11 v w
  | 17 => FStr 11 v
  | 18 => FPtr g v
  | 19 => FNat 2 v
  | 20 => ∃ b, v = .bool b
  | 21 => ∃ r : Rule, fitRule r ∧ v = .agg (encRule r).toArray
  | 5 => FBox g B 25 #[.int .i64 0, .string ByteArray.empty, .string ByteArray.empty, .bool false] v w
  | _ => True
theorem ruleΓ_stays (g B : Nat) : Stays (Only [g]) (ruleΓ g B) := fun s v w w' h ho => by
  unfold ruleΓ at *
  split at h <;> first | exact h | exact FStrs.only h ho | exact FCell.only h ho | exact FBox.only h ho

def DrRule (g P : Nat) (w : World) (e : Ending) (w' : World) : Prop := ∃ r : Rule, e = .returned (.agg (encRule r).toArray) ∧ fitRule r ∧ Rd w' g P ∧ Only [g] w w'

set_option maxHeartbeats 4000000 in
set_option maxRecDepth 20000 in
theorem l20Rule_any (g P : Nat) (n : Int) (hn : n ≤ 1000) (hP : P + 30 ≤ 1000000) (w : World) (h : Rd w g P) :
    Calls Tryd.prog 43 #[.pointer (some ⟨g, 0, none⟩), .int .i64 n] w (DrRule g (P + 30) w) := by
  have hg := h.lt
  go_enter Tryd.func43, Tryd.ntmps43
  go_wp2_with fail
  have hg0 : g < (w.alloc (.cells #[.int .i64 0, .string ⟨#[]⟩, .string ⟨#[]⟩, .bool false] 25)).heap.size := by simp; omega
  have hr0 := h.step ((Below.refl w.heap.size w).alloc (Nat.le_refl _) (.cells #[.int .i64 0, .string ⟨#[]⟩, .string ⟨#[]⟩, .bool false] 25))
  have k4 := Blk.new w 25 #[.int .i64 0, .string ⟨#[]⟩, .string ⟨#[]⟩, .bool false]
  have ho0 := (Only.refl [g] w).alloc (.cells #[.int .i64 0, .string ⟨#[]⟩, .string ⟨#[]⟩, .bool false] 25)
  have hg4 : w.heap.size < (w.alloc (.cells #[.int .i64 0, .string ⟨#[]⟩, .string ⟨#[]⟩, .bool false] 25)).heap.size := by simp
  generalize hw0 : w.alloc (.cells #[.int .i64 0, .string ⟨#[]⟩, .string ⟨#[]⟩, .bool false] 25) = w0 at hg0 hr0 k4 ho0 hg4 ⊢
  clear hw0
  refine wp_region_typed_last 17 _ rfl (fun k w' => Rd w' g (P + k) ∧ Only [g] w0 w') (Only [g]) (ruleΓ g w0.heap.size) (by kernel_rfl) rfl (by kernel_rfl) rfl (ruleΓ_stays _ _) (Only.refl _) ⟨⟨hr0.step (Below.refl _ _).drew, Only.of_below ((Below.refl _ _).drew) _⟩, fun s hs => ?_, by rfl⟩ ?_ ?_
  · by_cases e : s = 0
    · subst e; rfl
    · have hne : s ∉ [6, 7, 8, 9, 10, 11, 12, 13, 14, 15, 16, 17, 18, 19, 20, 21, 5] := fun hm => by
        simp only [List.mem_cons, List.not_mem_nil, or_false] at hm
        rcases hm with rfl | rfl | rfl | rfl | rfl | rfl | rfl | rfl | rfl | rfl | rfl | rfl | rfl | rfl | rfl | rfl | rfl <;> exact absurd hs (by decide)
      simp only [List.mem_cons, List.not_mem_nil, or_false, not_or] at hne
      unfold ruleΓ
      split <;> first | trivial | (exfalso; omega)
  · intro p hp
    simp only [List.take_succ_cons, List.take_zero, List.mem_cons, List.not_mem_nil, or_false] at hp
    rcases hp with rfl | rfl | rfl | rfl | rfl | rfl | rfl | rfl | rfl | rfl | rfl | rfl | rfl | rfl | rfl | rfl | rfl
    · intro k a w' hk hC hR
      have r0 : a.tmps[0]?.getD undef = _ := hR 0 (by decide)
      simp [Region.wanted, outOf, go_sem, execOp, r0, upT]
      exact ⟨⟨hC.1.mono (by omega), hC.2⟩, Only.refl _ _, rfl⟩
    · intro k a w' hk hC hR
      have r6 : a.tmps[6]?.getD undef = _ := hR 6 (by decide)
      simp [Region.wanted, outOf, go_sem, r6, upT]
      have hk' : k < 18 := hk
      refine (pick_any g (P + k) 4 (by omega) (by omega) _ hC.1).mono ?_
      rintro e w1 ⟨x, rfl, hx, hr, ho⟩
      exact ⟨_, rfl, ⟨hr, hC.2.trans ho⟩, ho, ⟨x, rfl, by omega⟩⟩
    · intro k a w' hk hC hR
      simp [Region.wanted, outOf, go_sem, execOp, upT]
      have hg' := hC.1.lt
      exact ⟨⟨(hC.1.step ((Below.refl _ _).alloc (Nat.le_refl _) _)).mono (by omega), hC.2.alloc _⟩, (Only.refl _ _).alloc _, ⟨_, rfl, by omega, Blk.new _ _ _⟩⟩
    · intro k a w' hk hC hR
      have r0 : a.tmps[0]?.getD undef = _ := hR 0 (by decide)
      simp [Region.wanted, outOf, go_sem, execOp, r0, upT]
      exact ⟨⟨hC.1.mono (by omega), hC.2⟩, Only.refl _ _, rfl⟩
    · intro k a w' hk hC hR
      have r6 : a.tmps[9]?.getD undef = _ := hR 9 (by decide)
      simp [Region.wanted, outOf, go_sem, r6, upT]
      have hk' : k < 18 := hk
      refine (pick_any g (P + k) 4 (by omega) (by omega) _ hC.1).mono ?_
      rintro e w1 ⟨x, rfl, hx, hr, ho⟩
      exact ⟨_, rfl, ⟨hr, hC.2.trans ho⟩, ho, ⟨x, rfl, by omega⟩⟩
    · intro k a w' hk hC hR
      obtain ⟨b, r8, hb, hB⟩ : FStrs g _ _ _ := hR 8 (by decide)
      obtain ⟨x, r10, hx⟩ : FNat 4 _ := hR 10 (by decide)
      have x0 : (x : Int) < 4 := by omega
      simp [Region.wanted, outOf, go_sem, execOp, r8, r10, x0, upT]
      obtain ⟨s, hs, hz⟩ := lit_str (k := 11) (x := x) hB (Only.refl [g] _) hb (by simpa using hx) (by decide)
      exact ⟨⟨hC.1.mono (by omega), hC.2⟩, Only.refl _ _, ⟨b, x, s, rfl, hb, hB.lt, hs, hz⟩⟩
    · intro k a w' hk hC hR
      obtain ⟨b, x, s, r11, hb, hlt, hc, hz⟩ : FCell g 11 _ _ := hR 11 (by decide)
      simp [Region.wanted, outOf, go_sem, execOp, r11, hc, upT]
      exact ⟨⟨hC.1.mono (by omega), hC.2⟩, Only.refl _ _, ⟨s, rfl, hz⟩⟩
    · intro k a w' hk hC hR
      simp [Region.wanted, outOf, go_sem, execOp, upT]
      have hg' := hC.1.lt
      exact ⟨⟨(hC.1.step ((Below.refl _ _).alloc (Nat.le_refl _) _)).mono (by omega), hC.2.alloc _⟩, (Only.refl _ _).alloc _, ⟨_, rfl, by omega, Blk.new _ _ _⟩⟩
    · intro k a w' hk hC hR
      have r0 : a.tmps[0]?.getD undef = _ := hR 0 (by decide)
      simp [Region.wanted, outOf, go_sem, execOp, r0, upT]
      exact ⟨⟨hC.1.mono (by omega), hC.2⟩, Only.refl _ _, rfl⟩
    · intro k a w' hk hC hR
      have r6 : a.tmps[14]?.getD undef = _ := hR 14 (by decide)
      simp [Region.wanted, outOf, go_sem, r6, upT]
      have hk' : k < 18 := hk
      refine (pick_any g (P + k) 5 (by omega) (by omega) _ hC.1).mono ?_
      rintro e w1 ⟨x, rfl, hx, hr, ho⟩
      exact ⟨_, rfl, ⟨hr, hC.2.trans ho⟩, ho, ⟨x, rfl, by omega⟩⟩
    · intro k a w' hk hC hR
      obtain ⟨b, r8, hb, hB⟩ : FStrs g _ _ _ := hR 13 (by decide)
      obtain ⟨x, r10, hx⟩ : FNat 5 _ := hR 15 (by decide)
      have x0 : (x : Int) < 5 := by omega
      simp [Region.wanted, outOf, go_sem, execOp, r8, r10, x0, upT]
      obtain ⟨s, hs, hz⟩ := lit_str (k := 11) (x := x) hB (Only.refl [g] _) hb (by simpa using hx) (by decide)
      exact ⟨⟨hC.1.mono (by omega), hC.2⟩, Only.refl _ _, ⟨b, x, s, rfl, hb, hB.lt, hs, hz⟩⟩
    · intro k a w' hk hC hR
      obtain ⟨b, x, s, r11, hb, hlt, hc, hz⟩ : FCell g 11 _ _ := hR 16 (by decide)
      simp [Region.wanted, outOf, go_sem, execOp, r11, hc, upT]
      exact ⟨⟨hC.1.mono (by omega), hC.2⟩, Only.refl _ _, ⟨s, rfl, hz⟩⟩
    · intro k a w' hk hC hR
      have r0 : a.tmps[0]?.getD undef = _ := hR 0 (by decide)
      simp [Region.wanted, outOf, go_sem, execOp, r0, upT]
      exact ⟨⟨hC.1.mono (by omega), hC.2⟩, Only.refl _ _, rfl⟩
    · intro k a w' hk hC hR
      have r6 : a.tmps[18]?.getD undef = _ := hR 18 (by decide)
      simp [Region.wanted, outOf, go_sem, r6, upT]
      have hk' : k < 18 := hk
      refine (pick_any g (P + k) 2 (by omega) (by omega) _ hC.1).mono ?_
      rintro e w1 ⟨x, rfl, hx, hr, ho⟩
      exact ⟨_, rfl, ⟨hr, hC.2.trans ho⟩, ho, ⟨x, rfl, by omega⟩⟩
    · intro k a w' hk hC hR
      obtain ⟨x, r19, hx⟩ : FNat 2 _ := hR 19 (by decide)
      simp [Region.wanted, outOf, go_sem, execOp, r19, upT]
      exact ⟨⟨hC.1.mono (by omega), hC.2⟩, Only.refl _ _, ⟨_, rfl⟩⟩
    · intro k a w' hk hC hR
      obtain ⟨x7, r7, hx7⟩ : FNat 4 _ := hR 7 (by decide)
      obtain ⟨s12, r12, hz12⟩ : FStr 11 _ := hR 12 (by decide)
      obtain ⟨s17, r17, hz17⟩ : FStr 11 _ := hR 17 (by decide)
      obtain ⟨b20, r20⟩ : ∃ b, a.tmps[20]?.getD undef = .bool b := hR 20 (by decide)
      simp [Region.wanted, outOf, go_sem, execOp, r7, r12, r17, r20, upT]
      exact ⟨⟨hC.1.mono (by omega), hC.2⟩, Only.refl _ _, ⟨⟨x7, s12, s17, b20⟩, ⟨by show s12.size ≤ _; omega, by show s17.size ≤ _; omega⟩, rfl⟩⟩
    · intro k a w' hk hC hR
      simp [Region.wanted, outOf, go_sem, execOp, upT]
      have hg' := hC.1.lt
      have hs := hC.2.size
      exact ⟨⟨(hC.1.step ((Below.refl _ _).alloc (Nat.le_refl _) _)).mono (by omega), hC.2.alloc _⟩, (Only.refl _ _).alloc _, ⟨_, rfl, by omega, hs, Blk.new _ _ _⟩⟩
  · rintro w1 ⟨hr1, ho1⟩
    simp only [List.take_succ_cons, List.take_zero, finT]
    intro v6 _ v7 _ v8 _ v9 _ v10 _ v11 _ v12 _ v13 _ v14 _ v15 _ v16 _ v17 _ v18 _ v19 _ v20 _ v21 h21 v5 h5
    obtain ⟨r, hfit, rfl⟩ : ∃ r : Rule, fitRule r ∧ v21 = .agg (encRule r).toArray := h21
    obtain ⟨b5, rfl, hb5, hB5, k5⟩ : FBox g _ _ _ _ _ := h5
    have k4' := k4.only ho1 (by simp; omega)
    have q0 : w1.cell? ⟨b5, 0, none⟩ = some (.int .i64 0) := k5.cell 0
    have q1 : w1.cell? ⟨b5, 1, none⟩ = some (.string ByteArray.empty) := k5.cell 1
    have q2 : w1.cell? ⟨b5, 2, none⟩ = some (.string ByteArray.empty) := k5.cell 2
    have q3 : w1.cell? ⟨b5, 3, none⟩ = some (.bool false) := k5.cell 3
    have f0 := k5.frozen 0
    have f1 := k5.frozen 1
    have f2 := k5.frozen 2
    have f3 := k5.frozen 3
    rw [show (encRule r).toArray = #[.int .i64 r.user, .string r.ref, .string r.path, .bool r.write] from rfl]
    go_wp2_with fail
    refine (pick_any g (P + 17) n (by omega) (by omega) _ ((((hr1.put (by omega) _).put (by omega) _).put (by omega) _).put (by omega) _)).mono ?_
    rintro e w2 ⟨x, rfl, hx, hr2, ho2⟩
    have k52 := (k5.set4 (.int .i64 r.user) (.string r.ref) (.string r.path) (.bool r.write)).only ho2 (by simpa using hb5)
    have k42 := (((((k4'.far (by omega) _).far (by omega) _).far (by omega) _).far (by omega) _)).only ho2 (by simp; omega)
    have ho2' := ((((ho1.setCell (.inr hB5) (.int .i64 r.user)).setCell (p := ⟨b5, 1, none⟩) (.inr hB5) (.string r.ref)).setCell (p := ⟨b5, 2, none⟩) (.inr hB5) (.string r.path)).setCell (p := ⟨b5, 3, none⟩) (.inr hB5) (.bool r.write)).trans ho2
    clear q0 q1 q2 q3 f0 f1 f2 f3 k5 k4' ho1 hr1 ho2
    have q0 : w2.cell? ⟨b5, 0, none⟩ = some (.int .i64 r.user) := k52.cell 0
    have q1 : w2.cell? ⟨b5, 1, none⟩ = some (.string r.ref) := k52.cell 1
    have q2 : w2.cell? ⟨b5, 2, none⟩ = some (.string r.path) := k52.cell 2
    have q3 : w2.cell? ⟨b5, 3, none⟩ = some (.bool r.write) := k52.cell 3
    have p0 : w2.cell? ⟨w.heap.size, 0, none⟩ = some (.int .i64 0) := k42.cell 0
    have p1 : w2.cell? ⟨w.heap.size, 1, none⟩ = some (.string ⟨#[]⟩) := k42.cell 1
    have p2 : w2.cell? ⟨w.heap.size, 2, none⟩ = some (.string ⟨#[]⟩) := k42.cell 2
    have p3 : w2.cell? ⟨w.heap.size, 3, none⟩ = some (.bool false) := k42.cell 3
    have g0 := k42.frozen 0
    have g1 := k42.frozen 1
    have g2 := k42.frozen 2
    have g3 := k42.frozen 3
    by_cases hx0 : x = 0
    · have hx1 : ¬ (0 : Int) < (x : Int) := by omega
      clear hx
      clear q0 q1 q2 q3 p0 p1 p2 p3 g0 g1 g2 g3
      go_wp2_with fail
      refine (pick_any g (P + 17 + 1) 3 (by omega) (by omega) _ hr2).mono ?_
      rintro e w3 ⟨y, rfl, hy, hr3, ho3⟩
      replace k52 := k52.only ho3 (by simpa using hb5)
      replace k42 := k42.only ho3 (by simp; omega)
      replace ho2' := ho2'.trans ho3
      clear hr2 ho3
      have hg3 := hr3.lt
      by_cases hy0 : y = 0
      · have hy1 : ((y : Int) == 0) = true := by simpa using hy0
        clear hy
        go_wp2_with fail
        have kb := Blk.new w3 3 #[.int .i64 (-1), .int .i64 5, .int .i64 4]
        refine (pick_any g (P + 17 + 1 + 1) 3 (by omega) (by omega) _ (hr3.step ((Below.refl _ _).alloc (Nat.le_refl _) _))).mono ?_
        rintro e w4 ⟨z, rfl, hz, hr4, ho4⟩
        replace k52 := (k52.alloc (.cells #[.int .i64 (-1), .int .i64 5, .int .i64 4] 3)).only ho4 (by simpa using hb5)
        replace k42 := (k42.alloc (.cells #[.int .i64 (-1), .int .i64 5, .int .i64 4] 3)).only ho4 (by simp; omega)
        replace ho2' := (ho2'.alloc (.cells #[.int .i64 (-1), .int .i64 5, .int .i64 4] 3)).trans ho4
        obtain ⟨u, hu⟩ : ∃ u : Int, w4.cell? ⟨w3.heap.size, z, none⟩ = some (.int .i64 u) := by
          have hc := (kb.only ho4 (by simp; omega)).cell z
          have h3 : z = 0 ∨ z = 1 ∨ z = 2 := by omega
          rcases h3 with rfl | rfl | rfl
          · exact ⟨_, hc⟩
          · exact ⟨_, hc⟩
          · exact ⟨_, hc⟩
        have z1 : (z : Int) < 3 := by omega
        have q1 : w4.cell? ⟨b5, 1, none⟩ = some (.string r.ref) := k52.cell 1
        have q2 : w4.cell? ⟨b5, 2, none⟩ = some (.string r.path) := k52.cell 2
        have q3 : w4.cell? ⟨b5, 3, none⟩ = some (.bool r.write) := k52.cell 3
        have q0 : w4.cell? ⟨b5, 0, none⟩ = some (.int .i64 r.user) := k52.cell 0
        have p0 : w4.cell? ⟨w.heap.size, 0, none⟩ = some (.int .i64 0) := k42.cell 0
        have p1 : w4.cell? ⟨w.heap.size, 1, none⟩ = some (.string ⟨#[]⟩) := k42.cell 1
        have p2 : w4.cell? ⟨w.heap.size, 2, none⟩ = some (.string ⟨#[]⟩) := k42.cell 2
        have p3 : w4.cell? ⟨w.heap.size, 3, none⟩ = some (.bool false) := k42.cell 3
        have g0 := k42.frozen 0
        have g1 := k42.frozen 1
        have g2 := k42.frozen 2
        have g3 := k42.frozen 3
        have f0 := k52.frozen 0
        have hne : b5 ≠ w.heap.size := by omega
        clear kb hz
        replace k52 : Blk (w4.setCell ⟨b5, 0, none⟩ (.int .i64 u)) b5 25 #[.int .i64 u, .string r.ref, .string r.path, .bool r.write] := by simpa using k52.set1 (i := 0) (.int .i64 u)
        have hr5 := hr4.put (b := b5) (j := 0) (by omega) (.int .i64 u)
        replace k42 := k42.far (b := b5) (j := 0) (by omega) (.int .i64 u)
        replace ho2' := ho2'.setCell (p := ⟨b5, 0, none⟩) (.inr hB5) (.int .i64 u)
        go_wp2
        refine bodyPost_ret (v := .agg #[.int .i64 u, .string r.ref, .string r.path, .bool r.write]) (by simp [results, Tryd.results43, go_sem, p0, p1, p2, p3]) rfl ⟨⟨u, r.ref, r.path, r.write⟩, rfl, hfit, ((((hr5.put hg _).put hg _).put hg _).put hg _).mono (by omega), ?_⟩
        exact ((((ho0.trans ho2').setCell (p := ⟨w.heap.size, 0, none⟩) (.inr (Nat.le_refl _)) _).setCell (p := ⟨w.heap.size, 1, none⟩) (.inr (Nat.le_refl _)) _).setCell (p := ⟨w.heap.size, 2, none⟩) (.inr (Nat.le_refl _)) _).setCell (p := ⟨w.heap.size, 3, none⟩) (.inr (Nat.le_refl _)) _
      · by_cases hy0' : y = 1
        · have hy1 : ((y : Int) == 0) = false := by simpa using hy0
          have hy2 : ((y : Int) == 1) = true := by subst hy0'; rfl
          clear hy
          go_wp2_with fail
          have kb := Blk.new w3 9 (strs [⟨#[97, 98, 99, 100]⟩, ⟨#[65]⟩, ⟨#[122, 122, 122]⟩])
          refine (pick_any g (P + 17 + 1 + 1) 3 (by omega) (by omega) _ (hr3.step ((Below.refl _ _).alloc (Nat.le_refl _) _))).mono ?_
          rintro e w4 ⟨z, rfl, hz, hr4, ho4⟩
          obtain ⟨u, hu, huz⟩ := lit_str (k := 11) (x := z) kb ho4 (by omega) (by simp; omega) (by decide)
          replace k52 := (k52.alloc (.cells (strs [⟨#[97, 98, 99, 100]⟩, ⟨#[65]⟩, ⟨#[122, 122, 122]⟩]) 9)).only ho4 (by simpa using hb5)
          replace k42 := (k42.alloc (.cells (strs [⟨#[97, 98, 99, 100]⟩, ⟨#[65]⟩, ⟨#[122, 122, 122]⟩]) 9)).only ho4 (by simp; omega)
          replace ho2' := (ho2'.alloc (.cells (strs [⟨#[97, 98, 99, 100]⟩, ⟨#[65]⟩, ⟨#[122, 122, 122]⟩]) 9)).trans ho4
          have z1 : (z : Int) < 3 := by omega
          have q1 : w4.cell? ⟨b5, 1, none⟩ = some (.string r.ref) := k52.cell 1
          have q2 : w4.cell? ⟨b5, 2, none⟩ = some (.string r.path) := k52.cell 2
          have q3 : w4.cell? ⟨b5, 3, none⟩ = some (.bool r.write) := k52.cell 3
          have q0 : w4.cell? ⟨b5, 0, none⟩ = some (.int .i64 r.user) := k52.cell 0
          have p0 : w4.cell? ⟨w.heap.size, 0, none⟩ = some (.int .i64 0) := k42.cell 0
          have p1 : w4.cell? ⟨w.heap.size, 1, none⟩ = some (.string ⟨#[]⟩) := k42.cell 1
          have p2 : w4.cell? ⟨w.heap.size, 2, none⟩ = some (.string ⟨#[]⟩) := k42.cell 2
          have p3 : w4.cell? ⟨w.heap.size, 3, none⟩ = some (.bool false) := k42.cell 3
          have g0 := k42.frozen 0
          have g1 := k42.frozen 1
          have g2 := k42.frozen 2
          have g3 := k42.frozen 3
          have f0 := k52.frozen 1
          have hne : b5 ≠ w.heap.size := by omega
          clear kb hz
          replace k52 : Blk (w4.setCell ⟨b5, 1, none⟩ (.string u)) b5 25 #[.int .i64 r.user, .string u, .string r.path, .bool r.write] := by simpa using k52.set1 (i := 1) (.string u)
          have hr5 := hr4.put (b := b5) (j := 1) (by omega) (.string u)
          replace k42 := k42.far (b := b5) (j := 1) (by omega) (.string u)
          replace ho2' := ho2'.setCell (p := ⟨b5, 1, none⟩) (.inr hB5) (.string u)
          go_wp2
          refine bodyPost_ret (v := .agg #[.int .i64 r.user, .string u, .string r.path, .bool r.write]) (by simp [results, Tryd.results43, go_sem, p0, p1, p2, p3]) rfl ⟨⟨r.user, u, r.path, r.write⟩, rfl, ⟨by show u.size ≤ _; omega, hfit.2⟩, ((((hr5.put hg _).put hg _).put hg _).put hg _).mono (by omega), ?_⟩
          exact ((((ho0.trans ho2').setCell (p := ⟨w.heap.size, 0, none⟩) (.inr (Nat.le_refl _)) _).setCell (p := ⟨w.heap.size, 1, none⟩) (.inr (Nat.le_refl _)) _).setCell (p := ⟨w.heap.size, 2, none⟩) (.inr (Nat.le_refl _)) _).setCell (p := ⟨w.heap.size, 3, none⟩) (.inr (Nat.le_refl _)) _
        · have hy1 : ((y : Int) == 0) = false := by simpa using hy0
          have hy2 : ((y : Int) == 1) = false := by simp; omega
          clear hy
          go_wp2_with fail
          refine (l20AnyPath_any g (P + 17 + 1 + 1) 1 (by omega) (by omega) _ hr3).mono ?_
          rintro e w4 ⟨u, rfl, huz, hr4, ho4⟩
          replace k52 := k52.only ho4 (by simpa using hb5)
          replace k42 := k42.only ho4 (by simp; omega)
          replace ho2' := ho2'.trans ho4
          have q1 : w4.cell? ⟨b5, 1, none⟩ = some (.string r.ref) := k52.cell 1
          have q2 : w4.cell? ⟨b5, 2, none⟩ = some (.string r.path) := k52.cell 2
          have q3 : w4.cell? ⟨b5, 3, none⟩ = some (.bool r.write) := k52.cell 3
          have q0 : w4.cell? ⟨b5, 0, none⟩ = some (.int .i64 r.user) := k52.cell 0
          have p0 : w4.cell? ⟨w.heap.size, 0, none⟩ = some (.int .i64 0) := k42.cell 0
          have p1 : w4.cell? ⟨w.heap.size, 1, none⟩ = some (.string ⟨#[]⟩) := k42.cell 1
          have p2 : w4.cell? ⟨w.heap.size, 2, none⟩ = some (.string ⟨#[]⟩) := k42.cell 2
          have p3 : w4.cell? ⟨w.heap.size, 3, none⟩ = some (.bool false) := k42.cell 3
          have g0 := k42.frozen 0
          have g1 := k42.frozen 1
          have g2 := k42.frozen 2
          have g3 := k42.frozen 3
          have f0 := k52.frozen 2
          have hne : b5 ≠ w.heap.size := by omega
          replace k52 : Blk (w4.setCell ⟨b5, 2, none⟩ (.string u)) b5 25 #[.int .i64 r.user, .string r.ref, .string u, .bool r.write] := by simpa using k52.set1 (i := 2) (.string u)
          have hr5 := hr4.put (b := b5) (j := 2) (by omega) (.string u)
          replace k42 := k42.far (b := b5) (j := 2) (by omega) (.string u)
          replace ho2' := ho2'.setCell (p := ⟨b5, 2, none⟩) (.inr hB5) (.string u)
          go_wp2
          refine bodyPost_ret (v := .agg #[.int .i64 r.user, .string r.ref, .string u, .bool r.write]) (by simp [results, Tryd.results43, go_sem, p0, p1, p2, p3]) rfl ⟨⟨r.user, r.ref, u, r.write⟩, rfl, ⟨hfit.1, by show u.size ≤ _; omega⟩, ((((hr5.put hg _).put hg _).put hg _).put hg _).mono (by omega), ?_⟩
          exact ((((ho0.trans ho2').setCell (p := ⟨w.heap.size, 0, none⟩) (.inr (Nat.le_refl _)) _).setCell (p := ⟨w.heap.size, 1, none⟩) (.inr (Nat.le_refl _)) _).setCell (p := ⟨w.heap.size, 2, none⟩) (.inr (Nat.le_refl _)) _).setCell (p := ⟨w.heap.size, 3, none⟩) (.inr (Nat.le_refl _)) _
    · have hx1 : (0 : Int) < (x : Int) := by omega
      clear hx
      go_wp2
      refine bodyPost_ret (v := .agg #[.int .i64 r.user, .string r.ref, .string r.path, .bool r.write]) (by simp [results, Tryd.results43, go_sem, p0, p1, p2, p3]) rfl ⟨⟨r.user, r.ref, r.path, r.write⟩, rfl, hfit, ((((hr2.put hg _).put hg _).put hg _).put hg _).mono (by omega), ?_⟩
      exact ((((ho0.trans ho2').setCell (p := ⟨w.heap.size, 0, none⟩) (.inr (Nat.le_refl _)) _).setCell (p := ⟨w.heap.size, 1, none⟩) (.inr (Nat.le_refl _)) _).setCell (p := ⟨w.heap.size, 2, none⟩) (.inr (Nat.le_refl _)) _).setCell (p := ⟨w.heap.size, 3, none⟩) (.inr (Nat.le_refl _)) _
end Go.Proofs.YthopednilgncgaaDoor
