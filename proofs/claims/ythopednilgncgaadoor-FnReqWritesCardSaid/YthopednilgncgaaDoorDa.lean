/- Walks: what reads a code byte by byte. -/
import Derived.Test.YthopednilgncgaaDoorQ
import Derived.Test.YthopednilgncgaaDoorApp
namespace Go.Proofs.YthopednilgncgaaDoor
open Go.RowKit
attribute [local go_sem ↓] Go.wp_at_zero Go.wp_at_succ

/-- Block g reads a code; it has been asked at most P times. -/
structure Rd (w : World) (g P : Nat) : Prop where
  ex : ∃ (A : Option Addr) (n c : Nat) (l : List UInt8) (fp : List Nat) (p : Nat), Blk w g 98 #[.slice A n c, .int .i64 p] ∧ SlR Rp.byte w A n c l fp ∧ (∀ x ∈ fp, x < g) ∧ p ≤ P ∧ l.length ≤ 2000
section
variable {w w1 : World} {g P P' : Nat}
theorem Rd.step (h : Rd w g P) (hb : Below w.heap.size w w1) : Rd w1 g P := by
  obtain ⟨A, n, c, l, fp, p, h1, h2, h3⟩ := h.ex
  exact ⟨A, n, c, l, fp, p, h1.step hb, h2.step hb, h3⟩
theorem Rd.mono (h : Rd w g P) (hp : P ≤ P') : Rd w g P' := by
  obtain ⟨A, n, c, l, fp, p, h1, h2, h3, h4, h5⟩ := h.ex
  exact ⟨A, n, c, l, fp, p, h1, h2, h3, Nat.le_trans h4 hp, h5⟩
theorem Rd.only {f : List Nat} (h : Rd w g P) (hb : Only f w w1) (hf : ∀ x ∈ f, g < x) : Rd w1 g P := by
  obtain ⟨A, n, c, l, fp, p, h1, h2, h3, h4⟩ := h.ex
  exact ⟨A, n, c, l, fp, p, h1.only hb (fun hm => Nat.lt_irrefl _ (hf _ hm)), h2.only hb (fun x hx hm => Nat.lt_asymm (h3 x hx) (hf x hm)), h3, h4⟩
theorem Rd.put (h : Rd w g P) {b j : Nat} (hb : g < b) (v : Value) : Rd (w.setCell ⟨b, j, none⟩ v) g P :=
  h.only (f := [b]) ((Only.refl _ _).setCell (.inl (by simp)) v) (by simpa using hb)
theorem Rd.lt (h : Rd w g P) : g < w.heap.size := by
  obtain ⟨A, n, c, l, fp, p, h1, _⟩ := h.ex
  exact h1.lt
end

theorem Rd.asked {w : World} {g P p c : Nat} {A : Option Addr} {l : List UInt8} {fp : List Nat} (hk : Blk w g 98 #[.slice A l.length c, .int .i64 p]) (hs : SlR Rp.byte w A l.length c l fp) (hg : ∀ x ∈ fp, x < g) (hp : p ≤ P) (hl : l.length ≤ 2000) {v : Value} (hv : v = .int .i64 ((p + 1 : Nat) : Int)) :
    Rd (w.setCell ⟨g, 1, none⟩ v) g (P + 1) ∧ Only [g] w (w.setCell ⟨g, 1, none⟩ v) := by
  subst hv
  refine ⟨⟨A, _, c, l, fp, p + 1, ?_, hs.putN (fun hm => Nat.lt_irrefl _ (hg _ hm)) _, hg, by omega, hl⟩, (Only.refl _ _).setCell (.inl (by simp)) _⟩
  have := heap_setCell_free (i := 1) hk (.int .i64 ((p + 1 : Nat) : Int))
  simpa [Blk] using this
theorem bits_xor_small (X Y : Nat) (hx : X < 2147483648) (hy : Y < 2147483648) : bits .xor .i64 (X : Int) (Y : Int) = ((X ^^^ Y : Nat) : Int) := by
  have h := Nat.xor_lt_two_pow (n := 31) hx hy
  have e1 : (BitVec.ofInt 64 (X : Int)).toNat = X := by rw [BitVec.ofInt_natCast, BitVec.toNat_ofNat]; omega
  have e2 : (BitVec.ofInt 64 (Y : Int)).toNat = Y := by rw [BitVec.ofInt_natCast, BitVec.toNat_ofNat]; omega
  have e3 : ((BitVec.ofInt 64 (X : Int)) ^^^ (BitVec.ofInt 64 (Y : Int))).toNat = X ^^^ Y := by rw [BitVec.toNat_xor, e1, e2]
  show IntKind.i64.wrap (((BitVec.ofInt 64 (X : Int)) ^^^ (BitVec.ofInt 64 (Y : Int))).toNat : Int) = _
  rw [e3]
  generalize X ^^^ Y = Z at h
  exact IntWalk.i64_in _ (by omega)
theorem wrap64_id {a : Int} (h0 : 0 ≤ a) (h1 : a < 4294967296) : wrap64 a = a := by unfold wrap64; omega
theorem mix_nonneg {X : Int} (h0 : 0 ≤ X) (h1 : X < 2147483648) : 0 ≤ bits .xor .i64 (wrap64 X) (wrap64 ((wrap64 X).tdiv 64)) := by
  obtain ⟨x, rfl⟩ : ∃ x : Nat, X = x := ⟨X.toNat, by omega⟩
  rw [wrap64_id h0 (by omega), Int.tdiv_eq_ediv_of_nonneg h0]
  have e : (x : Int) / 64 = ((x / 64 : Nat) : Int) := by omega
  rw [e, wrap64_id (by omega) (by omega), bits_xor_small _ _ (by omega) (by omega)]
  omega
theorem tmod_in {a n : Int} (h0 : 0 ≤ a) (hn : 1 ≤ n) : 0 ≤ a.tmod n ∧ a.tmod n < n := by
  rw [Int.tmod_eq_emod_of_nonneg h0]
  exact ⟨Int.emod_nonneg _ (by omega), Int.emod_lt_of_pos _ (by omega)⟩

set_option maxHeartbeats 2000000 in
theorem pickInt_any (g P : Nat) (n : Int) (hP : P ≤ 1000000) (hn : n ≤ 1000000) (w : World) (h : Rd w g P) :
    Calls Tryd.prog 42 #[.pointer (some ⟨g, 0, none⟩), .int .i64 n] w fun e w' => ∃ x : Int, e = .returned (.int .i64 x) ∧ 0 ≤ x ∧ (x = 0 ∨ x < n) ∧ Rd w' g (P + 1) ∧ Only [g] w w' := by
  obtain ⟨A, m, c, l, fp, p, hk, hs, hg, hp, hl⟩ := h.ex
  obtain rfl := hs.1
  have c0 : w.cell? ⟨g, 0, none⟩ = some (.slice A l.length c) := hk.cell 0
  have c1 : w.cell? ⟨g, 1, none⟩ = some (.int .i64 p) := hk.cell 1
  have f1 : w.frozen? ⟨g, 1, none⟩ = false := (show Free w [g] from fun b hb => by simp at hb; subst hb; exact ⟨_, _, hk⟩).frozen (by simp) 1
  go_enter Tryd.func42, Tryd.ntmps42
  by_cases h1 : n < 1
  · go_wp2
    go_ret
    obtain ⟨r1, r2⟩ := Rd.asked hk hs hg hp hl (v := .int .i64 (p + 1)) (by go_num)
    exact ⟨0, rfl, Int.le_refl _, .inl rfl, r1, r2⟩
  · by_cases h2 : l.length = 0
    · go_wp2
      go_ret
      obtain ⟨r1, r2⟩ := Rd.asked hk hs hg hp hl (v := .int .i64 (p + 1)) (by go_num)
      exact ⟨0, rfl, Int.le_refl _, .inl rfl, r1, r2⟩
    · by_cases h3 : p < l.length
      · obtain ⟨b, o, rfl, hb, hm, hcell⟩ := byte_cells hs h3
        have hne : b ≠ g := Nat.ne_of_lt (hg b hm)
        have u0 : (0 : Int) ≤ (l[p].toNat : Int) := by omega
        have u1 : (l[p].toNat : Int) ≤ 255 := by have := l[p].toNat_lt; omega
        go_wp2
        go_ret
        obtain ⟨r1, r2⟩ := Rd.asked hk hs hg hp hl (v := .int .i64 (p + 1)) (by go_num)
        refine ⟨_, rfl, ?_, .inr ?_, r1, r2⟩
        · exact Int.emod_nonneg _ (by omega)
        · exact Int.emod_lt_of_pos _ (by omega)
      · have hlp : (0 : Int) < (l.length : Int) := by omega
        obtain ⟨k1, hj1⟩ : ∃ k1, p % l.length = k1 := ⟨_, rfl⟩
        obtain ⟨k2, hj2⟩ : ∃ k2, (p * 7 + 3) % l.length = k2 := ⟨_, rfl⟩
        have j1 : k1 < l.length := by rw [← hj1]; exact Nat.mod_lt _ (by omega)
        have j2 : k2 < l.length := by rw [← hj2]; exact Nat.mod_lt _ (by omega)
        obtain ⟨b, o, rfl, hb, hm, q1⟩ := byte_cells hs j1
        obtain ⟨b', o', he, _, _, q2⟩ := byte_cells hs j2
        cases he
        have hne : b ≠ g := Nat.ne_of_lt (hg b hm)
        have e1 : (p : Int).tmod (l.length : Int) = (k1 : Int) := by rw [Int.tmod_eq_emod_of_nonneg (by omega), ← hj1, Int.natCast_emod]
        have e2 : ((p : Int) * 7 + 3).tmod (l.length : Int) = (k2 : Int) := by rw [Int.tmod_eq_emod_of_nonneg (by omega), ← hj2, Int.natCast_emod, Int.natCast_add, Int.natCast_mul]; rfl
        have e1' : (p : Int) % (l.length : Int) = (k1 : Int) := by rw [← hj1, Int.natCast_emod]
        have e2' : ((p : Int) * 7 + 3) % (l.length : Int) = (k2 : Int) := by rw [← hj2, Int.natCast_emod, Int.natCast_add, Int.natCast_mul]; rfl
        have u0 : (0 : Int) ≤ (l[k1].toNat : Int) := by omega
        have u1 : (l[k1].toNat : Int) ≤ 255 := by have := l[k1].toNat_lt; omega
        have v0 : (0 : Int) ≤ (l[k2].toNat : Int) := by omega
        have v1 : (l[k2].toNat : Int) ≤ 255 := by have := l[k2].toNat_lt; omega
        have i0 : (0 : Int) ≤ (k1 : Int) := by omega
        have i1 : (k1 : Int) < (l.length : Int) := by omega
        have i2 : (0 : Int) ≤ (k2 : Int) := by omega
        have i3 : (k2 : Int) < (l.length : Int) := by omega
        clear hj1 hj2
        go_wp2
        go_quiet (fail)
        clear e1 e2 e1' e2' c0 c1 f1
        obtain ⟨q, hq⟩ : ∃ q, p / l.length = q := ⟨_, rfl⟩
        have e3 : (p : Int) / (l.length : Int) = (q : Int) := by rw [← hq, Int.natCast_ediv]
        have e4 : q ≤ p := by rw [← hq]; exact Nat.div_le_self _ _
        have e5 : wrap64 (wrap64 ((p : Int) / (l.length : Int)) * 53) = (q : Int) * 53 := by
          rw [e3, wrap64_id (a := (q : Int)) (by omega) (by omega), wrap64_id (by omega) (by omega)]
        have hx := mix_nonneg (X := (l[k1].toNat : Int) * 131 + (l[k2].toNat : Int) * 1117 + (p : Int) * 29 + wrap64 (wrap64 ((p : Int) / (l.length : Int)) * 53)) (by rw [e5]; omega) (by rw [e5]; omega)
        clear hq
        have HX := hide hx
        clear hx e3 e4 e5
        go_wp2
        go_ret
        obtain ⟨r1, r2⟩ := Rd.asked hk hs hg hp hl (v := .int .i64 (p + 1)) (by go_num)
        obtain ⟨x0, x1⟩ := tmod_in HX.out h1
        exact ⟨_, rfl, x0, .inr x1, r1.step (Below.drewN' (Below.refl _ _) _), r2.then_below (Below.drewN' (Below.refl _ _) _)⟩
/-- One asked: a number below n (or 0); the rest is as it was. -/
theorem pick_any (g P : Nat) (n : Int) (hP : P ≤ 1000000) (hn : n ≤ 1000000) (w : World) (h : Rd w g P) :
    Calls Tryd.prog 42 #[.pointer (some ⟨g, 0, none⟩), .int .i64 n] w fun e w' => ∃ x : Nat, e = .returned (.int .i64 (x : Int)) ∧ (x = 0 ∨ (x : Int) < n) ∧ Rd w' g (P + 1) ∧ Only [g] w w' :=
  (pickInt_any g P n hP hn w h).mono fun e w' ⟨x, he, h0, h1, r⟩ => by
    obtain ⟨k, rfl⟩ : ∃ k : Nat, x = k := ⟨x.toNat, by omega⟩
    exact ⟨k, he, by omega, r⟩

set_option maxHeartbeats 1000000 in
theorem l20Open_any {A : Option Addr} {n c : Nat} {l : List UInt8} {fp : List Nat} (w : World) (hx : SlR Rp.byte w A n c l fp) :
    Calls Tryd.prog 40 #[.slice A n c] w fun e w' => ∃ g, e = .returned (.pointer (some ⟨g, 0, none⟩)) ∧ w.heap.size ≤ g ∧ Rd w' g 0 ∧ Below w.heap.size w w' := by
  obtain ⟨rfl, hcx, hmx, _⟩ := id hx
  unfold maxLen at hmx
  go_enter Tryd.func40, Tryd.ntmps40
  by_cases hl : l.length ≤ 2000
  · go_wp2
    go_ret
    refine ⟨w.heap.size, rfl, Nat.le_refl _, ⟨A, _, c, l, fp, 0, Blk.new w _ _, hx.allocN _, hx.lt, Nat.le_refl _, hl⟩, (Below.refl _ _).alloc (Nat.le_refl _) _⟩
  · obtain ⟨f, hk, hf⟩ := hx.take (k := 2000) (by omega)
    go_wp2
    go_ret
    refine ⟨w.heap.size, rfl, Nat.le_refl _, ⟨A, _, c, l.take 2000, f, 0, Blk.new w _ _, hk.allocN _, fun x hm => hx.lt _ (hf _ hm), Nat.le_refl _, by simp; omega⟩, (Below.refl _ _).alloc (Nat.le_refl _) _⟩
end Go.Proofs.YthopednilgncgaaDoor
