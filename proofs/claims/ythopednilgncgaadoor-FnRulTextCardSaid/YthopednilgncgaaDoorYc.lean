/- Walks: a rule is read; of the reference and of the program. By program (wip/gen/gen_read.py). -/
import Derived.Test.YthopednilgncgaaDoorYb
import Derived.Test.YthopednilgncgaaDoorYe
namespace Go.Proofs.YthopednilgncgaaDoor
open Go.RowKit
attribute [local go_sem ↓] Go.wp_at_zero Go.wp_at_succ

theorem Blk.frz {w : World} {b : Nat} {t : TypeId} {cs : Array Value} (h : Blk w b t cs) (j : Nat) : w.frozen? ⟨b, j, none⟩ = false := by
  unfold Blk at h
  simp [World.frozen?, h]
theorem Blk.putc {w : World} {g : Nat} {t : TypeId} {cs : Array Value} (h : Blk w g t cs) (i : Nat) (v : Value) : Blk (w.setCell ⟨g, i, none⟩ v) g t (cs.setIfInBounds i v) := heap_setCell_free h v
theorem below4 {B b : Nat} {w w1 : World} (h : Below B w w1) (hb : B ≤ b) (x0 x1 x2 x3 : Value) : Below B w ((((w1.setCell ⟨b, 0, none⟩ x0).setCell ⟨b, 1, none⟩ x1).setCell ⟨b, 2, none⟩ x2).setCell ⟨b, 3, none⟩ x3) :=
  (((h.setCell (p := ⟨b, 0, none⟩) hb x0).setCell (p := ⟨b, 1, none⟩) hb x1).setCell (p := ⟨b, 2, none⟩) hb x2).setCell (p := ⟨b, 3, none⟩) hb x3
def NR (x : Int) (a : ByteArray) : Prop := ∀ u : Nat, u ≤ 4 → a = digB u → x = u
theorem str_at {w : World} {A : Option Addr} {n c : Nat} {l : List ByteArray} {f : List Nat} (h : SlR Rp.str w A n c l f) {k : Nat} (hk : k < l.length) {b o : Nat} (e : A = some ⟨b, o, none⟩) : w.cell? ⟨b, o + k, none⟩ = some (.string l[k]) := by
  obtain ⟨b', o', e', _, _, h0⟩ := str_cells h hk
  rw [e'] at e
  cases e
  exact h0
theorem FreshS.strs4 {w w' : World} {a b c d : ByteArray} {e : Ending} (h : FreshS Rp.str w [a, b, c, d] e w') : ∃ g o cc, e = .returned (.slice (some ⟨g, o, none⟩) 4 cc) ∧ g < w'.heap.size ∧ w'.cell? ⟨g, o, none⟩ = some (.string a) ∧ w'.cell? ⟨g, o + 1, none⟩ = some (.string b) ∧ w'.cell? ⟨g, o + 2, none⟩ = some (.string c) ∧ w'.cell? ⟨g, o + 3, none⟩ = some (.string d) ∧ Below w.heap.size w w' := by
  obtain ⟨A, n, cc, f, rfl, hS, _, _, _, hb⟩ := h
  obtain ⟨g, o, rfl, hlt, hm, h0⟩ := str_cells hS (show 0 < 4 by omega)
  have hn := hS.1
  subst hn
  exact ⟨g, o, cc, rfl, hlt, str_at hS (k := 0) (by simp) rfl, str_at hS (k := 1) (by simp) rfl, str_at hS (k := 2) (by simp) rfl, str_at hS (k := 3) (by simp) rfl, hb⟩

def readΓ12 (W : Value) (H g o : Nat) (a b c d : ByteArray) : Facts := fun t v w => match t with
  | 4 => v = W
  | 5 => ∃ B, v = .pointer (some ⟨B, 0, none⟩) ∧ H ≤ B ∧ Blk w B 25 #[.int .i64 0, .string ⟨#[]⟩, .string ⟨#[]⟩, .bool false]
  | 12 => v = W
  | 13 => v = .pointer (some ⟨g, o, none⟩)
  | 14 => v = .string a
  | 15 => ∃ x, v = .int .i64 x ∧ NR x a
  | 16 => v = W
  | 17 => v = .pointer (some ⟨g, o + 1, none⟩)
  | 18 => v = .string b
  | 19 => v = .string (undashB b)
  | 20 => v = W
  | 21 => v = .pointer (some ⟨g, o + 2, none⟩)
  | 22 => v = .string c
  | 23 => v = .string (undashB c)
  | 24 => v = W
  | 25 => v = .pointer (some ⟨g, o + 3, none⟩)
  | 26 => v = .string d
  | 27 => v = .bool (decide (d = writeB))
  | 28 => ∃ x, v = .agg (encRule (ruleOf x b c d)).toArray ∧ NR x a
  | _ => True
theorem readΓ12_stays (W : Value) (H g o : Nat) (a b c d : ByteArray) : Stays (fun w w' => Below w.heap.size w w') (readΓ12 W H g o a b c d) := fun t v w w' h ho => by
  unfold readΓ12 at *
  split at h <;> first
    | exact h
    | (obtain ⟨B, h1, h2, h3⟩ := h; exact ⟨B, h1, h2, h3.step ho⟩)
def readΓ17 (W : Value) (H g o : Nat) (a b c d : ByteArray) : Facts := fun t v w => match t with
  | 4 => v = W
  | 5 => ∃ B, v = .pointer (some ⟨B, 0, none⟩) ∧ H ≤ B ∧ Blk w B 25 #[.int .i64 0, .string ⟨#[]⟩, .string ⟨#[]⟩, .bool false]
  | 17 => v = W
  | 18 => v = .pointer (some ⟨g, o, none⟩)
  | 19 => v = .string a
  | 20 => ∃ x, v = .int .i64 x ∧ NR x a
  | 21 => v = W
  | 22 => v = .pointer (some ⟨g, o + 1, none⟩)
  | 23 => v = .string b
  | 24 => v = .string (undashB b)
  | 25 => v = W
  | 26 => v = .pointer (some ⟨g, o + 2, none⟩)
  | 27 => v = .string c
  | 28 => v = .string (undashB c)
  | 29 => v = W
  | 30 => v = .pointer (some ⟨g, o + 3, none⟩)
  | 31 => v = .string d
  | 32 => v = .bool (decide (d = writeB))
  | 33 => ∃ x, v = .agg (encRule (ruleOf x b c d)).toArray ∧ NR x a
  | _ => True
theorem readΓ17_stays (W : Value) (H g o : Nat) (a b c d : ByteArray) : Stays (fun w w' => Below w.heap.size w w') (readΓ17 W H g o a b c d) := fun t v w w' h ho => by
  unfold readΓ17 at *
  split at h <;> first
    | exact h
    | (obtain ⟨B, h1, h2, h3⟩ := h; exact ⟨B, h1, h2, h3.step ho⟩)

set_option maxHeartbeats 4000000 in
set_option maxRecDepth 20000 in
theorem specRulRead_any (s : ByteArray) (hs : s.size ≤ 4194304) (w : World) :
    Calls Tryd.prog 34 #[.string s] w fun e w' => e = .returned (.tuple #[.agg (encRule (rulRead s).1).toArray, .bool (rulRead s).2]) ∧ Below w.heap.size w w' := by
  have k2 := Blk.new w 25 #[.int .i64 0, .string ⟨#[]⟩, .string ⟨#[]⟩, .bool false]
  have HB := (Below.refl w.heap.size w).alloc (Nat.le_refl _) (.cells #[.int .i64 0, .string ⟨#[]⟩, .string ⟨#[]⟩, .bool false] 25)
  have D2 := hide (fun W r h => specRulText_any r h W)
  go_enter Tryd.func34, Tryd.ntmps34
  go_wp2_with fail
  refine (l5Words_any s hs _).mono ?_
  by_cases hl : 200 < s.size
  · have HR := hide (rulRead_long hl)
    rw [if_pos hl]
    rintro e w1 ⟨A, n, cc, f, rfl, hS, _, _, _, hb⟩
    have hn := hS.1
    subst hn
    replace k2 := k2.step hb
    replace HB := Below.then_ HB hb
    clear hS hb
    have p0 : w1.cell? ⟨w.heap.size, 0, none⟩ = some (.int .i64 0) := k2.cell 0
    have p1 : w1.cell? ⟨w.heap.size, 1, none⟩ = some (.string ⟨#[]⟩) := k2.cell 1
    have p2 : w1.cell? ⟨w.heap.size, 2, none⟩ = some (.string ⟨#[]⟩) := k2.cell 2
    have p3 : w1.cell? ⟨w.heap.size, 3, none⟩ = some (.bool false) := k2.cell 3
    have g0 := k2.frz 0
    have g1 := k2.frz 1
    have g2 := k2.frz 2
    have g3 := k2.frz 3
    have HBP := hide (below4 HB (Nat.le_refl _) (.int .i64 0) (.string ⟨#[]⟩) (.string ⟨#[]⟩) (.bool false))
    clear k2
    go_wp2
    exact bodyPost_ret (v := .tuple #[.agg #[.int .i64 0, .string ⟨#[]⟩, .string ⟨#[]⟩, .bool false], .bool false]) (by simp [results, Tryd.results34, go_sem, p0, p1, p2, p3]) rfl ⟨by rw [HR.out]; rfl, HBP.out⟩
  · by_cases h4 : (cutB 32 s).length = 4
    · obtain ⟨a, b, c, d, hc⟩ : ∃ a b c d, cutB 32 s = [a, b, c, d] := by
        match cutB 32 s, h4 with
        | [a, b, c, d], _ => exact ⟨a, b, c, d, rfl⟩
      rw [if_neg hl, hc]
      intro e w1 hF
      obtain ⟨g, og, cc, rfl, hglt, ca, cb, cd, ce, hb⟩ := hF.strs4
      replace k2 := k2.step hb
      replace HB := Below.then_ HB hb
      clear hb h4
      have HZ := hide (cut_sizes hc)
      have HC := hide hc
      have HL := hide hl
      have HC4 := hide (And.intro ca (And.intro cb (And.intro cd ce)))
      clear hc ca cb cd ce
      clear hl
      go_wp2_with fail
      refine wp_region_typed_last 18 _ rfl (fun _ w' => Below w1.heap.size w1 w') (fun w w' => Below w.heap.size w w') (readΓ12 (.slice (some ⟨g, og, none⟩) 4 cc) w1.heap.size g og a b c d) (by kernel_rfl) rfl (by kernel_rfl) rfl (readΓ12_stays _ _ _ _ _ _ _ _) (fun w => Below.refl _ w) ⟨(Below.refl _ _).drew, fun s hs => ?_, by rfl⟩ ?_ ?_
      · by_cases e4 : s = 4
        · subst e4; rfl
        · have hne : s ∉ [12, 13, 14, 15, 16, 17, 18, 19, 20, 21, 22, 23, 24, 25, 26, 27, 28, 5] := fun hm => by
            simp only [List.mem_cons, List.not_mem_nil, or_false] at hm
            rcases hm with rfl | rfl | rfl | rfl | rfl | rfl | rfl | rfl | rfl | rfl | rfl | rfl | rfl | rfl | rfl | rfl | rfl | rfl <;> exact absurd hs (by decide)
          simp only [List.mem_cons, List.not_mem_nil, or_false, not_or] at hne
          unfold readΓ12
          split <;> first | trivial | (exfalso; omega)
      · intro p hp
        simp only [List.take_succ_cons, List.take_zero, List.mem_cons, List.not_mem_nil, or_false] at hp
        rcases hp with rfl | rfl | rfl | rfl | rfl | rfl | rfl | rfl | rfl | rfl | rfl | rfl | rfl | rfl | rfl | rfl | rfl | rfl
        · intro k a' w' hk hC hR
          have r4 : a'.tmps[4]?.getD undef = _ := hR 4 (by decide)
          simp [Region.wanted, outOf, go_sem, execOp, r4, upT]
          exact ⟨hC, Below.refl _ _, rfl⟩
        · intro k a' w' hk hC hR
          have r12 : a'.tmps[12]?.getD undef = _ := hR 12 (by decide)
          simp [Region.wanted, outOf, go_sem, execOp, r12, upT]
          exact ⟨hC, Below.refl _ _, rfl⟩
        · intro k a' w' hk hC hR
          have r13 : a'.tmps[13]?.getD undef = _ := hR 13 (by decide)
          have hc0 : w'.cell? ⟨g, og, none⟩ = some (.string a) := (World.cell?_of_block (a := ⟨g, og, none⟩) (hC.block g hglt)).trans HC4.out.1
          simp [Region.wanted, outOf, go_sem, execOp, r13, hc0, upT]
          exact ⟨hC, Below.refl _ _, rfl⟩
        · intro k a' w' hk hC hR
          have r14 : a'.tmps[14]?.getD undef = _ := hR 14 (by decide)
          simp [Region.wanted, outOf, go_sem, execOp, r14, upT]
          refine (l5Number_any a (by have := HZ.out.1; omega) _).mono ?_
          rintro e w4 ⟨x, rfl, hx, hb⟩
          exact ⟨_, rfl, Below.then_ hC hb, hb, ⟨x, rfl, hx⟩⟩
        · intro k a' w' hk hC hR
          have r4 : a'.tmps[4]?.getD undef = _ := hR 4 (by decide)
          simp [Region.wanted, outOf, go_sem, execOp, r4, upT]
          exact ⟨hC, Below.refl _ _, rfl⟩
        · intro k a' w' hk hC hR
          have r16 : a'.tmps[16]?.getD undef = _ := hR 16 (by decide)
          simp [Region.wanted, outOf, go_sem, execOp, r16, upT]
          exact ⟨hC, Below.refl _ _, rfl⟩
        · intro k a' w' hk hC hR
          have r17 : a'.tmps[17]?.getD undef = _ := hR 17 (by decide)
          have hc0 : w'.cell? ⟨g, og + 1, none⟩ = some (.string b) := (World.cell?_of_block (a := ⟨g, og + 1, none⟩) (hC.block g hglt)).trans HC4.out.2.1
          simp [Region.wanted, outOf, go_sem, execOp, r17, hc0, upT]
          exact ⟨hC, Below.refl _ _, rfl⟩
        · intro k a' w' hk hC hR
          have r18 : a'.tmps[18]?.getD undef = _ := hR 18 (by decide)
          simp [Region.wanted, outOf, go_sem, execOp, r18, upT]
          refine (l5None_any b _).mono ?_
          rintro e w4 ⟨rfl, hb⟩
          exact ⟨_, rfl, Below.then_ hC hb, hb, rfl⟩
        · intro k a' w' hk hC hR
          have r4 : a'.tmps[4]?.getD undef = _ := hR 4 (by decide)
          simp [Region.wanted, outOf, go_sem, execOp, r4, upT]
          exact ⟨hC, Below.refl _ _, rfl⟩
        · intro k a' w' hk hC hR
          have r20 : a'.tmps[20]?.getD undef = _ := hR 20 (by decide)
          simp [Region.wanted, outOf, go_sem, execOp, r20, upT]
          exact ⟨hC, Below.refl _ _, rfl⟩
        · intro k a' w' hk hC hR
          have r21 : a'.tmps[21]?.getD undef = _ := hR 21 (by decide)
          have hc0 : w'.cell? ⟨g, og + 2, none⟩ = some (.string c) := (World.cell?_of_block (a := ⟨g, og + 2, none⟩) (hC.block g hglt)).trans HC4.out.2.2.1
          simp [Region.wanted, outOf, go_sem, execOp, r21, hc0, upT]
          exact ⟨hC, Below.refl _ _, rfl⟩
        · intro k a' w' hk hC hR
          have r22 : a'.tmps[22]?.getD undef = _ := hR 22 (by decide)
          simp [Region.wanted, outOf, go_sem, execOp, r22, upT]
          refine (l5None_any c _).mono ?_
          rintro e w4 ⟨rfl, hb⟩
          exact ⟨_, rfl, Below.then_ hC hb, hb, rfl⟩
        · intro k a' w' hk hC hR
          have r4 : a'.tmps[4]?.getD undef = _ := hR 4 (by decide)
          simp [Region.wanted, outOf, go_sem, execOp, r4, upT]
          exact ⟨hC, Below.refl _ _, rfl⟩
        · intro k a' w' hk hC hR
          have r24 : a'.tmps[24]?.getD undef = _ := hR 24 (by decide)
          simp [Region.wanted, outOf, go_sem, execOp, r24, upT]
          exact ⟨hC, Below.refl _ _, rfl⟩
        · intro k a' w' hk hC hR
          have r25 : a'.tmps[25]?.getD undef = _ := hR 25 (by decide)
          have hc0 : w'.cell? ⟨g, og + 3, none⟩ = some (.string d) := (World.cell?_of_block (a := ⟨g, og + 3, none⟩) (hC.block g hglt)).trans HC4.out.2.2.2
          simp [Region.wanted, outOf, go_sem, execOp, r25, hc0, upT]
          exact ⟨hC, Below.refl _ _, rfl⟩
        · intro k a' w' hk hC hR
          have r26 : a'.tmps[26]?.getD undef = _ := hR 26 (by decide)
          have hq : (d.toList == [119, 114, 105, 116, 101]) = decide (d = writeB) := beq_lit d _
          simp [Region.wanted, outOf, go_sem, execOp, r26, hq, upT]
          exact ⟨hC, Below.refl _ _, rfl⟩
        · intro k a' w' hk hC hR
          have r19 : a'.tmps[19]?.getD undef = _ := hR 19 (by decide)
          have r23 : a'.tmps[23]?.getD undef = _ := hR 23 (by decide)
          have r27 : a'.tmps[27]?.getD undef = _ := hR 27 (by decide)
          obtain ⟨x, r15, hx⟩ : ∃ x, _ = Value.int .i64 x ∧ NR x a := hR 15 (by decide)
          simp [Region.wanted, outOf, go_sem, execOp, r15, r19, r23, r27, upT]
          exact ⟨hC, Below.refl _ _, ⟨x, rfl, hx⟩⟩
        · intro k a' w' hk hC hR
          simp [Region.wanted, outOf, go_sem, execOp, upT]
          have hal := (Below.refl w'.heap.size w').alloc (Nat.le_refl _) (.cells #[.int .i64 0, .string ⟨#[]⟩, .string ⟨#[]⟩, .bool false] 25)
          exact ⟨Below.then_ hC hal, hal, ⟨_, rfl, hC.size, Blk.new _ _ _⟩⟩
      · intro w4 hb4
        simp only [List.take_succ_cons, List.take_zero, finT]
        intro v12 _ v13 _ v14 _ v15 _ v16 _ v17 _ v18 _ v19 _ v20 _ v21 _ v22 _ v23 _ v24 _ v25 _ v26 _ v27 _ v28 h28 v5 h5
        obtain ⟨x, rfl, hx⟩ : ∃ x, v28 = .agg (encRule (ruleOf x b c d)).toArray ∧ NR x a := h28
        obtain ⟨B, rfl, hB, k5⟩ : ∃ B, v5 = .pointer (some ⟨B, 0, none⟩) ∧ w1.heap.size ≤ B ∧ Blk w4 B 25 #[.int .i64 0, .string ⟨#[]⟩, .string ⟨#[]⟩, .bool false] := h5
        have hBw : B ≠ w.heap.size := by have := k2.lt; omega
        have hBw' : w.heap.size ≤ B := by have := k2.lt; omega
        replace k2 := k2.step hb4
        replace HB := Below.then_ HB hb4
        have HX := hide (read_same HC.out hx)
        have hfit : fitRule (ruleOf x b c d) := by
          have h1 := undash_size b
          have h2 := undash_size c
          have h3 := HZ.out
          exact ⟨by show (undashB b).size ≤ _; omega, by show (undashB c).size ≤ _; omega⟩
        clear hb4 hx
        have q0 : w4.cell? ⟨B, 0, none⟩ = some (.int .i64 0) := k5.cell 0
        have q1 : w4.cell? ⟨B, 1, none⟩ = some (.string ⟨#[]⟩) := k5.cell 1
        have q2 : w4.cell? ⟨B, 2, none⟩ = some (.string ⟨#[]⟩) := k5.cell 2
        have q3 : w4.cell? ⟨B, 3, none⟩ = some (.bool false) := k5.cell 3
        have f0 := k5.frz 0
        have f1 := k5.frz 1
        have f2 := k5.frz 2
        have f3 := k5.frz 3
        generalize hrr : ruleOf x b c d = r at HX hfit ⊢
        have HRR := hide hrr
        clear hrr
        rw [show (encRule r).toArray = #[.int .i64 r.user, .string r.ref, .string r.path, .bool r.write] from rfl]
        have k5s : Blk ((((w4.setCell ⟨B, 0, none⟩ (.int .i64 r.user)).setCell ⟨B, 1, none⟩ (.string r.ref)).setCell ⟨B, 2, none⟩ (.string r.path)).setCell ⟨B, 3, none⟩ (.bool r.write)) B 25 #[.int .i64 r.user, .string r.ref, .string r.path, .bool r.write] := by simpa using (((k5.putc 0 (.int .i64 r.user)).putc 1 (.string r.ref)).putc 2 (.string r.path)).putc 3 (.bool r.write)
        have k2s := (((k2.far (Ne.symm hBw) (j := 0) (.int .i64 r.user)).far (Ne.symm hBw) (j := 1) (.string r.ref)).far (Ne.symm hBw) (j := 2) (.string r.path)).far (Ne.symm hBw) (j := 3) (.bool r.write)
        have HBS := hide (below4 HB hBw' (.int .i64 r.user) (.string r.ref) (.string r.path) (.bool r.write))
        clear k2 HB k5
        have HF := hide hfit
        clear hfit
        have HK := hide (And.intro k5s k2s)
        clear k5s k2s
        obtain ⟨w5, hw5⟩ : ∃ w5, w5 = ((((w4.setCell ⟨B, 0, none⟩ (.int .i64 r.user)).setCell ⟨B, 1, none⟩ (.string r.ref)).setCell ⟨B, 2, none⟩ (.string r.path)).setCell ⟨B, 3, none⟩ (.bool r.write)) := ⟨_, rfl⟩
        rw [← hw5] at HK HBS
        go_upto_region 5 with fail
        rw [← hw5]
        clear hw5 q0 q1 q2 q3 f0 f1 f2 f3
        obtain ⟨k5, k2⟩ := HK.out
        have HB := HBS.out
        clear HK HBS
        have q0 : w5.cell? ⟨B, 0, none⟩ = some (.int .i64 r.user) := k5.cell 0
        have q1 : w5.cell? ⟨B, 1, none⟩ = some (.string r.ref) := k5.cell 1
        have q2 : w5.cell? ⟨B, 2, none⟩ = some (.string r.path) := k5.cell 2
        have q3 : w5.cell? ⟨B, 3, none⟩ = some (.bool r.write) := k5.cell 3
        rcases HX.out with ⟨h1, h2⟩ | ⟨h1, h2⟩
        · have HR := hide (show rulRead s = (r, true) by rw [rulRead_yes HL.out HC.out (by rw [← h2]; exact h1), ← h2])
          have hne : ((rulText r).toList == s.toList) = true := by rw [beq_toListBytes', h1]; simp
          have hem : (rulText r).toList.isEmpty = false := by rw [isEmpty_eq, h1]; exact decide_eq_false (text_full HC.out)
          clear h1 h2
          go_wp2_with fail
          refine (D2.out _ r HF.out).mono ?_
          rintro e w6 ⟨rfl, hb⟩
          replace k5 := k5.step hb
          replace k2 := k2.step hb
          replace HB := Below.then_ HB hb
          clear hb q0 q1 q2 q3
          have q0 : w6.cell? ⟨B, 0, none⟩ = some (.int .i64 r.user) := k5.cell 0
          have q1 : w6.cell? ⟨B, 1, none⟩ = some (.string r.ref) := k5.cell 1
          have q2 : w6.cell? ⟨B, 2, none⟩ = some (.string r.path) := k5.cell 2
          have q3 : w6.cell? ⟨B, 3, none⟩ = some (.bool r.write) := k5.cell 3
          go_wp2_with fail
          refine (D2.out _ r HF.out).mono ?_
          rintro e w7 ⟨rfl, hb⟩
          replace k5 := k5.step hb
          replace k2 := k2.step hb
          replace HB := Below.then_ HB hb
          clear hb q0 q1 q2 q3
          generalize rulText r = t at hne hem ⊢
          have p0 : w7.cell? ⟨w.heap.size, 0, none⟩ = some (.int .i64 0) := k2.cell 0
          have p1 : w7.cell? ⟨w.heap.size, 1, none⟩ = some (.string ⟨#[]⟩) := k2.cell 1
          have p2 : w7.cell? ⟨w.heap.size, 2, none⟩ = some (.string ⟨#[]⟩) := k2.cell 2
          have p3 : w7.cell? ⟨w.heap.size, 3, none⟩ = some (.bool false) := k2.cell 3
          have g0 := k2.frz 0
          have g1 := k2.frz 1
          have g2 := k2.frz 2
          have g3 := k2.frz 3
          have q0 : w7.cell? ⟨B, 0, none⟩ = some (.int .i64 r.user) := k5.cell 0
          have q1 : w7.cell? ⟨B, 1, none⟩ = some (.string r.ref) := k5.cell 1
          have q2 : w7.cell? ⟨B, 2, none⟩ = some (.string r.path) := k5.cell 2
          have q3 : w7.cell? ⟨B, 3, none⟩ = some (.bool r.write) := k5.cell 3
          have HBP := hide (below4 HB (Nat.le_refl _) (.int .i64 r.user) (.string r.ref) (.string r.path) (.bool r.write))
          have hBw2 := Ne.symm hBw
          clear k2 k5
          go_wp2
          exact bodyPost_ret (v := .tuple #[.agg #[.int .i64 r.user, .string r.ref, .string r.path, .bool r.write], .bool true]) (by simp [results, Tryd.results34, go_sem, p0, p1, p2, p3]) rfl ⟨by rw [HR.out]; rfl, HBP.out⟩
        · have HR := hide (rulRead_not HL.out HC.out h2)
          have hne : ((rulText r).toList == s.toList) = false := by rw [beq_toListBytes']; exact decide_eq_false h1
          cases hem : (rulText r).toList.isEmpty
          · clear h1 h2
            go_wp2_with fail
            refine (D2.out _ r HF.out).mono ?_
            rintro e w6 ⟨rfl, hb⟩
            replace k5 := k5.step hb
            replace k2 := k2.step hb
            replace HB := Below.then_ HB hb
            clear hb q0 q1 q2 q3
            have q0 : w6.cell? ⟨B, 0, none⟩ = some (.int .i64 r.user) := k5.cell 0
            have q1 : w6.cell? ⟨B, 1, none⟩ = some (.string r.ref) := k5.cell 1
            have q2 : w6.cell? ⟨B, 2, none⟩ = some (.string r.path) := k5.cell 2
            have q3 : w6.cell? ⟨B, 3, none⟩ = some (.bool r.write) := k5.cell 3
            go_wp2_with fail
            refine (D2.out _ r HF.out).mono ?_
            rintro e w7 ⟨rfl, hb⟩
            replace k5 := k5.step hb
            replace k2 := k2.step hb
            replace HB := Below.then_ HB hb
            clear hb q0 q1 q2 q3
            generalize rulText r = t at hne hem ⊢
            have p0 : w7.cell? ⟨w.heap.size, 0, none⟩ = some (.int .i64 0) := k2.cell 0
            have p1 : w7.cell? ⟨w.heap.size, 1, none⟩ = some (.string ⟨#[]⟩) := k2.cell 1
            have p2 : w7.cell? ⟨w.heap.size, 2, none⟩ = some (.string ⟨#[]⟩) := k2.cell 2
            have p3 : w7.cell? ⟨w.heap.size, 3, none⟩ = some (.bool false) := k2.cell 3
            have g0 := k2.frz 0
            have g1 := k2.frz 1
            have g2 := k2.frz 2
            have g3 := k2.frz 3
            have HBP := hide (below4 HB (Nat.le_refl _) (.int .i64 0) (.string ⟨#[]⟩) (.string ⟨#[]⟩) (.bool false))
            clear k2
            go_wp2
            exact bodyPost_ret (v := .tuple #[.agg #[.int .i64 0, .string ⟨#[]⟩, .string ⟨#[]⟩, .bool false], .bool false]) (by simp [results, Tryd.results34, go_sem, p0, p1, p2, p3]) rfl ⟨by rw [HR.out]; rfl, HBP.out⟩
          · clear h1 h2
            go_wp2_with fail
            refine (D2.out _ r HF.out).mono ?_
            rintro e w6 ⟨rfl, hb⟩
            replace k5 := k5.step hb
            replace k2 := k2.step hb
            replace HB := Below.then_ HB hb
            clear hb q0 q1 q2 q3
            generalize rulText r = t at hne hem ⊢
            have p0 : w6.cell? ⟨w.heap.size, 0, none⟩ = some (.int .i64 0) := k2.cell 0
            have p1 : w6.cell? ⟨w.heap.size, 1, none⟩ = some (.string ⟨#[]⟩) := k2.cell 1
            have p2 : w6.cell? ⟨w.heap.size, 2, none⟩ = some (.string ⟨#[]⟩) := k2.cell 2
            have p3 : w6.cell? ⟨w.heap.size, 3, none⟩ = some (.bool false) := k2.cell 3
            have g0 := k2.frz 0
            have g1 := k2.frz 1
            have g2 := k2.frz 2
            have g3 := k2.frz 3
            have HBP := hide (below4 HB (Nat.le_refl _) (.int .i64 0) (.string ⟨#[]⟩) (.string ⟨#[]⟩) (.bool false))
            clear k2
            go_wp2
            exact bodyPost_ret (v := .tuple #[.agg #[.int .i64 0, .string ⟨#[]⟩, .string ⟨#[]⟩, .bool false], .bool false]) (by simp [results, Tryd.results34, go_sem, p0, p1, p2, p3]) rfl ⟨by rw [HR.out]; rfl, HBP.out⟩
    · have HR := hide (rulRead_no4 h4)
      rw [if_neg hl]
      rintro e w1 ⟨A, n, cc, f, rfl, hS, _, _, _, hb⟩
      have hn := hS.1
      subst hn
      have h4n : ((((cutB 32 s).length : Nat) : Int) == 4) = false := by simp; omega
      have h4m : ¬ (((cutB 32 s).length : Nat) : Int) = 4 := by omega
      have h4b : ((((cutB 32 s).length : Nat) : Int) != 4) = true := by simp; omega
      have hlb : decide ((200 : Int) < ((s.size : Nat) : Int)) = false := decide_eq_false (by omega)
      replace k2 := k2.step hb
      replace HB := Below.then_ HB hb
      clear hS hb h4
      have p0 : w1.cell? ⟨w.heap.size, 0, none⟩ = some (.int .i64 0) := k2.cell 0
      have p1 : w1.cell? ⟨w.heap.size, 1, none⟩ = some (.string ⟨#[]⟩) := k2.cell 1
      have p2 : w1.cell? ⟨w.heap.size, 2, none⟩ = some (.string ⟨#[]⟩) := k2.cell 2
      have p3 : w1.cell? ⟨w.heap.size, 3, none⟩ = some (.bool false) := k2.cell 3
      have g0 := k2.frz 0
      have g1 := k2.frz 1
      have g2 := k2.frz 2
      have g3 := k2.frz 3
      have HBP := hide (below4 HB (Nat.le_refl _) (.int .i64 0) (.string ⟨#[]⟩) (.string ⟨#[]⟩) (.bool false))
      clear k2
      go_wp2
      exact bodyPost_ret (v := .tuple #[.agg #[.int .i64 0, .string ⟨#[]⟩, .string ⟨#[]⟩, .bool false], .bool false]) (by simp [results, Tryd.results34, go_sem, p0, p1, p2, p3]) rfl ⟨by rw [HR.out]; rfl, HBP.out⟩

set_option maxHeartbeats 4000000 in
set_option maxRecDepth 20000 in
theorem implRulRead_any (s : ByteArray) (hs : s.size ≤ 4194304) (w : World) (hv : Errs w) :
    Calls Tryd.prog 35 #[.string s] w fun e w' => e = .returned (.tuple #[.agg (encRule (rulRead s).1).toArray, .bool (rulRead s).2]) ∧ Below w.heap.size w w' := by
  have k2 := Blk.new w 25 #[.int .i64 0, .string ⟨#[]⟩, .string ⟨#[]⟩, .bool false]
  have HB := (Below.refl w.heap.size w).alloc (Nat.le_refl _) (.cells #[.int .i64 0, .string ⟨#[]⟩, .string ⟨#[]⟩, .bool false] 25)
  have HV := hide (hv.step HB)
  have D2 := hide (fun W r h => implRulText_any r h W)
  go_enter Tryd.func35, Tryd.ntmps35
  go_wp2_with fail
  refine (split_any 32 s hs _).mono ?_
  by_cases hl : 200 < s.size
  · have HR := hide (rulRead_long hl)
    rintro e w1 ⟨A, n, cc, f, rfl, hS, _, _, _, hb⟩
    have hn := hS.1
    subst hn
    replace k2 := k2.step hb
    replace HB := Below.then_ HB hb
    clear hS hb
    have p0 : w1.cell? ⟨w.heap.size, 0, none⟩ = some (.int .i64 0) := k2.cell 0
    have p1 : w1.cell? ⟨w.heap.size, 1, none⟩ = some (.string ⟨#[]⟩) := k2.cell 1
    have p2 : w1.cell? ⟨w.heap.size, 2, none⟩ = some (.string ⟨#[]⟩) := k2.cell 2
    have p3 : w1.cell? ⟨w.heap.size, 3, none⟩ = some (.bool false) := k2.cell 3
    have g0 := k2.frz 0
    have g1 := k2.frz 1
    have g2 := k2.frz 2
    have g3 := k2.frz 3
    have HBP := hide (below4 HB (Nat.le_refl _) (.int .i64 0) (.string ⟨#[]⟩) (.string ⟨#[]⟩) (.bool false))
    clear k2
    go_wp2
    exact bodyPost_ret (v := .tuple #[.agg #[.int .i64 0, .string ⟨#[]⟩, .string ⟨#[]⟩, .bool false], .bool false]) (by simp [results, Tryd.results35, go_sem, p0, p1, p2, p3]) rfl ⟨by rw [HR.out]; rfl, HBP.out⟩
  · by_cases h4 : (cutB 32 s).length = 4
    · obtain ⟨a, b, c, d, hc⟩ : ∃ a b c d, cutB 32 s = [a, b, c, d] := by
        match cutB 32 s, h4 with
        | [a, b, c, d], _ => exact ⟨a, b, c, d, rfl⟩
      rw [hc]
      intro e w1 hF
      obtain ⟨g, og, cc, rfl, hglt, ca, cb, cd, ce, hb⟩ := hF.strs4
      replace k2 := k2.step hb
      replace HB := Below.then_ HB hb
      replace HV := hide (HV.out.step hb)
      clear hb h4
      have HZ := hide (cut_sizes hc)
      have HC := hide hc
      have HL := hide hl
      have HC4 := hide (And.intro ca (And.intro cb (And.intro cd ce)))
      clear hc ca cb cd ce
      have hl0 : s.size ≤ 200 := by have := HL.out; omega
      clear hl
      go_wp2_with fail
      refine wp_region_typed_last 18 _ rfl (fun _ w' => Below w1.heap.size w1 w') (fun w w' => Below w.heap.size w w') (readΓ17 (.slice (some ⟨g, og, none⟩) 4 cc) w1.heap.size g og a b c d) (by kernel_rfl) rfl (by kernel_rfl) rfl (readΓ17_stays _ _ _ _ _ _ _ _) (fun w => Below.refl _ w) ⟨(Below.refl _ _).drew, fun s hs => ?_, by rfl⟩ ?_ ?_
      · by_cases e4 : s = 4
        · subst e4; rfl
        · have hne : s ∉ [17, 18, 19, 20, 21, 22, 23, 24, 25, 26, 27, 28, 29, 30, 31, 32, 33, 5] := fun hm => by
            simp only [List.mem_cons, List.not_mem_nil, or_false] at hm
            rcases hm with rfl | rfl | rfl | rfl | rfl | rfl | rfl | rfl | rfl | rfl | rfl | rfl | rfl | rfl | rfl | rfl | rfl | rfl <;> exact absurd hs (by decide)
          simp only [List.mem_cons, List.not_mem_nil, or_false, not_or] at hne
          unfold readΓ17
          split <;> first | trivial | (exfalso; omega)
      · intro p hp
        simp only [List.take_succ_cons, List.take_zero, List.mem_cons, List.not_mem_nil, or_false] at hp
        rcases hp with rfl | rfl | rfl | rfl | rfl | rfl | rfl | rfl | rfl | rfl | rfl | rfl | rfl | rfl | rfl | rfl | rfl | rfl
        · intro k a' w' hk hC hR
          have r4 : a'.tmps[4]?.getD undef = _ := hR 4 (by decide)
          simp [Region.wanted, outOf, go_sem, execOp, r4, upT]
          exact ⟨hC, Below.refl _ _, rfl⟩
        · intro k a' w' hk hC hR
          have r17 : a'.tmps[17]?.getD undef = _ := hR 17 (by decide)
          simp [Region.wanted, outOf, go_sem, execOp, r17, upT]
          exact ⟨hC, Below.refl _ _, rfl⟩
        · intro k a' w' hk hC hR
          have r18 : a'.tmps[18]?.getD undef = _ := hR 18 (by decide)
          have hc0 : w'.cell? ⟨g, og, none⟩ = some (.string a) := (World.cell?_of_block (a := ⟨g, og, none⟩) (hC.block g hglt)).trans HC4.out.1
          simp [Region.wanted, outOf, go_sem, execOp, r18, hc0, upT]
          exact ⟨hC, Below.refl _ _, rfl⟩
        · intro k a' w' hk hC hR
          have r19 : a'.tmps[19]?.getD undef = _ := hR 19 (by decide)
          simp [Region.wanted, outOf, go_sem, execOp, r19, upT]
          refine (implNumber_any a (by have := HZ.out.1; omega) _ (HV.out.step hC)).mono ?_
          rintro e w4 ⟨x, rfl, hx, hb⟩
          exact ⟨_, rfl, Below.then_ hC hb, hb, ⟨x, rfl, hx⟩⟩
        · intro k a' w' hk hC hR
          have r4 : a'.tmps[4]?.getD undef = _ := hR 4 (by decide)
          simp [Region.wanted, outOf, go_sem, execOp, r4, upT]
          exact ⟨hC, Below.refl _ _, rfl⟩
        · intro k a' w' hk hC hR
          have r21 : a'.tmps[21]?.getD undef = _ := hR 21 (by decide)
          simp [Region.wanted, outOf, go_sem, execOp, r21, upT]
          exact ⟨hC, Below.refl _ _, rfl⟩
        · intro k a' w' hk hC hR
          have r22 : a'.tmps[22]?.getD undef = _ := hR 22 (by decide)
          have hc0 : w'.cell? ⟨g, og + 1, none⟩ = some (.string b) := (World.cell?_of_block (a := ⟨g, og + 1, none⟩) (hC.block g hglt)).trans HC4.out.2.1
          simp [Region.wanted, outOf, go_sem, execOp, r22, hc0, upT]
          exact ⟨hC, Below.refl _ _, rfl⟩
        · intro k a' w' hk hC hR
          have r23 : a'.tmps[23]?.getD undef = _ := hR 23 (by decide)
          simp [Region.wanted, outOf, go_sem, execOp, r23, upT]
          refine (implUndash_any b _).mono ?_
          rintro e w4 ⟨rfl, hb⟩
          exact ⟨_, rfl, Below.then_ hC hb, hb, rfl⟩
        · intro k a' w' hk hC hR
          have r4 : a'.tmps[4]?.getD undef = _ := hR 4 (by decide)
          simp [Region.wanted, outOf, go_sem, execOp, r4, upT]
          exact ⟨hC, Below.refl _ _, rfl⟩
        · intro k a' w' hk hC hR
          have r25 : a'.tmps[25]?.getD undef = _ := hR 25 (by decide)
          simp [Region.wanted, outOf, go_sem, execOp, r25, upT]
          exact ⟨hC, Below.refl _ _, rfl⟩
        · intro k a' w' hk hC hR
          have r26 : a'.tmps[26]?.getD undef = _ := hR 26 (by decide)
          have hc0 : w'.cell? ⟨g, og + 2, none⟩ = some (.string c) := (World.cell?_of_block (a := ⟨g, og + 2, none⟩) (hC.block g hglt)).trans HC4.out.2.2.1
          simp [Region.wanted, outOf, go_sem, execOp, r26, hc0, upT]
          exact ⟨hC, Below.refl _ _, rfl⟩
        · intro k a' w' hk hC hR
          have r27 : a'.tmps[27]?.getD undef = _ := hR 27 (by decide)
          simp [Region.wanted, outOf, go_sem, execOp, r27, upT]
          refine (implUndash_any c _).mono ?_
          rintro e w4 ⟨rfl, hb⟩
          exact ⟨_, rfl, Below.then_ hC hb, hb, rfl⟩
        · intro k a' w' hk hC hR
          have r4 : a'.tmps[4]?.getD undef = _ := hR 4 (by decide)
          simp [Region.wanted, outOf, go_sem, execOp, r4, upT]
          exact ⟨hC, Below.refl _ _, rfl⟩
        · intro k a' w' hk hC hR
          have r29 : a'.tmps[29]?.getD undef = _ := hR 29 (by decide)
          simp [Region.wanted, outOf, go_sem, execOp, r29, upT]
          exact ⟨hC, Below.refl _ _, rfl⟩
        · intro k a' w' hk hC hR
          have r30 : a'.tmps[30]?.getD undef = _ := hR 30 (by decide)
          have hc0 : w'.cell? ⟨g, og + 3, none⟩ = some (.string d) := (World.cell?_of_block (a := ⟨g, og + 3, none⟩) (hC.block g hglt)).trans HC4.out.2.2.2
          simp [Region.wanted, outOf, go_sem, execOp, r30, hc0, upT]
          exact ⟨hC, Below.refl _ _, rfl⟩
        · intro k a' w' hk hC hR
          have r31 : a'.tmps[31]?.getD undef = _ := hR 31 (by decide)
          have hq : (d.toList == [119, 114, 105, 116, 101]) = decide (d = writeB) := beq_lit d _
          simp [Region.wanted, outOf, go_sem, execOp, r31, hq, upT]
          exact ⟨hC, Below.refl _ _, rfl⟩
        · intro k a' w' hk hC hR
          have r24 : a'.tmps[24]?.getD undef = _ := hR 24 (by decide)
          have r28 : a'.tmps[28]?.getD undef = _ := hR 28 (by decide)
          have r32 : a'.tmps[32]?.getD undef = _ := hR 32 (by decide)
          obtain ⟨x, r20, hx⟩ : ∃ x, _ = Value.int .i64 x ∧ NR x a := hR 20 (by decide)
          simp [Region.wanted, outOf, go_sem, execOp, r20, r24, r28, r32, upT]
          exact ⟨hC, Below.refl _ _, ⟨x, rfl, hx⟩⟩
        · intro k a' w' hk hC hR
          simp [Region.wanted, outOf, go_sem, execOp, upT]
          have hal := (Below.refl w'.heap.size w').alloc (Nat.le_refl _) (.cells #[.int .i64 0, .string ⟨#[]⟩, .string ⟨#[]⟩, .bool false] 25)
          exact ⟨Below.then_ hC hal, hal, ⟨_, rfl, hC.size, Blk.new _ _ _⟩⟩
      · intro w4 hb4
        simp only [List.take_succ_cons, List.take_zero, finT]
        intro v17 _ v18 _ v19 _ v20 _ v21 _ v22 _ v23 _ v24 _ v25 _ v26 _ v27 _ v28 _ v29 _ v30 _ v31 _ v32 _ v33 h33 v5 h5
        obtain ⟨x, rfl, hx⟩ : ∃ x, v33 = .agg (encRule (ruleOf x b c d)).toArray ∧ NR x a := h33
        obtain ⟨B, rfl, hB, k5⟩ : ∃ B, v5 = .pointer (some ⟨B, 0, none⟩) ∧ w1.heap.size ≤ B ∧ Blk w4 B 25 #[.int .i64 0, .string ⟨#[]⟩, .string ⟨#[]⟩, .bool false] := h5
        have hBw : B ≠ w.heap.size := by have := k2.lt; omega
        have hBw' : w.heap.size ≤ B := by have := k2.lt; omega
        replace k2 := k2.step hb4
        replace HB := Below.then_ HB hb4
        clear HV
        have HX := hide (read_same HC.out hx)
        have hfit : fitRule (ruleOf x b c d) := by
          have h1 := undash_size b
          have h2 := undash_size c
          have h3 := HZ.out
          exact ⟨by show (undashB b).size ≤ _; omega, by show (undashB c).size ≤ _; omega⟩
        clear hb4 hx
        have q0 : w4.cell? ⟨B, 0, none⟩ = some (.int .i64 0) := k5.cell 0
        have q1 : w4.cell? ⟨B, 1, none⟩ = some (.string ⟨#[]⟩) := k5.cell 1
        have q2 : w4.cell? ⟨B, 2, none⟩ = some (.string ⟨#[]⟩) := k5.cell 2
        have q3 : w4.cell? ⟨B, 3, none⟩ = some (.bool false) := k5.cell 3
        have f0 := k5.frz 0
        have f1 := k5.frz 1
        have f2 := k5.frz 2
        have f3 := k5.frz 3
        generalize hrr : ruleOf x b c d = r at HX hfit ⊢
        have HRR := hide hrr
        clear hrr
        rw [show (encRule r).toArray = #[.int .i64 r.user, .string r.ref, .string r.path, .bool r.write] from rfl]
        have k5s : Blk ((((w4.setCell ⟨B, 0, none⟩ (.int .i64 r.user)).setCell ⟨B, 1, none⟩ (.string r.ref)).setCell ⟨B, 2, none⟩ (.string r.path)).setCell ⟨B, 3, none⟩ (.bool r.write)) B 25 #[.int .i64 r.user, .string r.ref, .string r.path, .bool r.write] := by simpa using (((k5.putc 0 (.int .i64 r.user)).putc 1 (.string r.ref)).putc 2 (.string r.path)).putc 3 (.bool r.write)
        have k2s := (((k2.far (Ne.symm hBw) (j := 0) (.int .i64 r.user)).far (Ne.symm hBw) (j := 1) (.string r.ref)).far (Ne.symm hBw) (j := 2) (.string r.path)).far (Ne.symm hBw) (j := 3) (.bool r.write)
        have HBS := hide (below4 HB hBw' (.int .i64 r.user) (.string r.ref) (.string r.path) (.bool r.write))
        clear k2 HB k5
        have HF := hide hfit
        clear hfit
        have HK := hide (And.intro k5s k2s)
        clear k5s k2s
        obtain ⟨w5, hw5⟩ : ∃ w5, w5 = ((((w4.setCell ⟨B, 0, none⟩ (.int .i64 r.user)).setCell ⟨B, 1, none⟩ (.string r.ref)).setCell ⟨B, 2, none⟩ (.string r.path)).setCell ⟨B, 3, none⟩ (.bool r.write)) := ⟨_, rfl⟩
        rw [← hw5] at HK HBS
        go_upto_region 5 with fail
        rw [← hw5]
        clear hw5 q0 q1 q2 q3 f0 f1 f2 f3
        obtain ⟨k5, k2⟩ := HK.out
        have HB := HBS.out
        clear HK HBS
        have q0 : w5.cell? ⟨B, 0, none⟩ = some (.int .i64 r.user) := k5.cell 0
        have q1 : w5.cell? ⟨B, 1, none⟩ = some (.string r.ref) := k5.cell 1
        have q2 : w5.cell? ⟨B, 2, none⟩ = some (.string r.path) := k5.cell 2
        have q3 : w5.cell? ⟨B, 3, none⟩ = some (.bool r.write) := k5.cell 3
        rcases HX.out with ⟨h1, h2⟩ | ⟨h1, h2⟩
        · have HR := hide (show rulRead s = (r, true) by rw [rulRead_yes HL.out HC.out (by rw [← h2]; exact h1), ← h2])
          have hne : ((rulText r).toList == s.toList) = true := by rw [beq_toListBytes', h1]; simp
          clear h1 h2
          go_wp2_with fail
          refine (D2.out _ r HF.out).mono ?_
          rintro e w6 ⟨rfl, hb⟩
          replace k5 := k5.step hb
          replace k2 := k2.step hb
          replace HB := Below.then_ HB hb
          clear hb q0 q1 q2 q3
          generalize rulText r = t at hne ⊢
          have p0 : w6.cell? ⟨w.heap.size, 0, none⟩ = some (.int .i64 0) := k2.cell 0
          have p1 : w6.cell? ⟨w.heap.size, 1, none⟩ = some (.string ⟨#[]⟩) := k2.cell 1
          have p2 : w6.cell? ⟨w.heap.size, 2, none⟩ = some (.string ⟨#[]⟩) := k2.cell 2
          have p3 : w6.cell? ⟨w.heap.size, 3, none⟩ = some (.bool false) := k2.cell 3
          have g0 := k2.frz 0
          have g1 := k2.frz 1
          have g2 := k2.frz 2
          have g3 := k2.frz 3
          have q0 : w6.cell? ⟨B, 0, none⟩ = some (.int .i64 r.user) := k5.cell 0
          have q1 : w6.cell? ⟨B, 1, none⟩ = some (.string r.ref) := k5.cell 1
          have q2 : w6.cell? ⟨B, 2, none⟩ = some (.string r.path) := k5.cell 2
          have q3 : w6.cell? ⟨B, 3, none⟩ = some (.bool r.write) := k5.cell 3
          have HBP := hide (below4 HB (Nat.le_refl _) (.int .i64 r.user) (.string r.ref) (.string r.path) (.bool r.write))
          have hBw2 := Ne.symm hBw
          clear k2 k5
          go_wp2
          exact bodyPost_ret (v := .tuple #[.agg #[.int .i64 r.user, .string r.ref, .string r.path, .bool r.write], .bool true]) (by simp [results, Tryd.results35, go_sem, p0, p1, p2, p3]) rfl ⟨by rw [HR.out]; rfl, HBP.out⟩
        · have HR := hide (rulRead_not HL.out HC.out h2)
          have hne : ((rulText r).toList == s.toList) = false := by rw [beq_toListBytes']; exact decide_eq_false h1
          clear h1 h2
          go_wp2_with fail
          refine (D2.out _ r HF.out).mono ?_
          rintro e w6 ⟨rfl, hb⟩
          replace k5 := k5.step hb
          replace k2 := k2.step hb
          replace HB := Below.then_ HB hb
          clear hb q0 q1 q2 q3
          generalize rulText r = t at hne ⊢
          have p0 : w6.cell? ⟨w.heap.size, 0, none⟩ = some (.int .i64 0) := k2.cell 0
          have p1 : w6.cell? ⟨w.heap.size, 1, none⟩ = some (.string ⟨#[]⟩) := k2.cell 1
          have p2 : w6.cell? ⟨w.heap.size, 2, none⟩ = some (.string ⟨#[]⟩) := k2.cell 2
          have p3 : w6.cell? ⟨w.heap.size, 3, none⟩ = some (.bool false) := k2.cell 3
          have g0 := k2.frz 0
          have g1 := k2.frz 1
          have g2 := k2.frz 2
          have g3 := k2.frz 3
          have HBP := hide (below4 HB (Nat.le_refl _) (.int .i64 0) (.string ⟨#[]⟩) (.string ⟨#[]⟩) (.bool false))
          clear k2
          go_wp2
          exact bodyPost_ret (v := .tuple #[.agg #[.int .i64 0, .string ⟨#[]⟩, .string ⟨#[]⟩, .bool false], .bool false]) (by simp [results, Tryd.results35, go_sem, p0, p1, p2, p3]) rfl ⟨by rw [HR.out]; rfl, HBP.out⟩
    · have HR := hide (rulRead_no4 h4)
      rintro e w1 ⟨A, n, cc, f, rfl, hS, _, _, _, hb⟩
      have hn := hS.1
      subst hn
      have h4n : ((((cutB 32 s).length : Nat) : Int) == 4) = false := by simp; omega
      have h4m : ¬ (((cutB 32 s).length : Nat) : Int) = 4 := by omega
      have h4b : ((((cutB 32 s).length : Nat) : Int) != 4) = true := by simp; omega
      have hlb : decide ((200 : Int) < ((s.size : Nat) : Int)) = false := decide_eq_false (by omega)
      replace k2 := k2.step hb
      replace HB := Below.then_ HB hb
      clear hS hb h4
      have p0 : w1.cell? ⟨w.heap.size, 0, none⟩ = some (.int .i64 0) := k2.cell 0
      have p1 : w1.cell? ⟨w.heap.size, 1, none⟩ = some (.string ⟨#[]⟩) := k2.cell 1
      have p2 : w1.cell? ⟨w.heap.size, 2, none⟩ = some (.string ⟨#[]⟩) := k2.cell 2
      have p3 : w1.cell? ⟨w.heap.size, 3, none⟩ = some (.bool false) := k2.cell 3
      have g0 := k2.frz 0
      have g1 := k2.frz 1
      have g2 := k2.frz 2
      have g3 := k2.frz 3
      have HBP := hide (below4 HB (Nat.le_refl _) (.int .i64 0) (.string ⟨#[]⟩) (.string ⟨#[]⟩) (.bool false))
      clear k2
      go_wp2
      exact bodyPost_ret (v := .tuple #[.agg #[.int .i64 0, .string ⟨#[]⟩, .string ⟨#[]⟩, .bool false], .bool false]) (by simp [results, Tryd.results35, go_sem, p0, p1, p2, p3]) rfl ⟨by rw [HR.out]; rfl, HBP.out⟩
end Go.Proofs.YthopednilgncgaaDoor
