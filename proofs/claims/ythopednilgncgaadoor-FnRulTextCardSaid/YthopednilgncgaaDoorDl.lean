/- Walks: a text is bent; a rule and a rule's text are drawn. -/
import Derived.Test.YthopednilgncgaaDoorDc
import Derived.Test.YthopednilgncgaaDoorTz
namespace Go.Proofs.YthopednilgncgaaDoor
open Go.RowKit
attribute [local go_sem ↓] Go.wp_at_zero Go.wp_at_succ

def ints (l : List Int) : Array Value := (l.map fun x => Value.int .i64 x).toArray
/-- One of a row of numbers, behind a pick. -/
theorem lit_int {w w1 : World} {g H x : Nat} {t : TypeId} {l : List Int} (hb : Blk w H t (ints l)) (ho : Only [g] w w1) (hg : H ≠ g) (hx : x < l.length) : ∃ z : Int, w1.cell? ⟨H, x, none⟩ = some (.int .i64 z) :=
  ⟨l[x], ((hb.only ho (by simpa using hg)).cell x).trans (by simp [ints, hx])⟩
theorem str1_size (b : UInt8) : (⟨#[b]⟩ : ByteArray).size = 1 := rfl

set_option maxHeartbeats 4000000 in
set_option maxRecDepth 20000 in
theorem l20Bent_any (g P : Nat) (s : ByteArray) (hs : s.size ≤ 200) (hP : P + 5 ≤ 1000000) (w : World) (h : Rd w g P) :
    Calls Tryd.prog 82 #[.pointer (some ⟨g, 0, none⟩), .string s] w (DrStr g (P + 5) 500 w) := by
  have hcv := run_oneByte (P := Tryd.prog) (dst := 9) Tryd.underlying22 Tryd.underlying5 Tryd.underlying9
  have hg := h.lt
  go_enter Tryd.func82, Tryd.ntmps82
  go_wp2_with fail
  refine (pick_any g P (s.size + 1) (by omega) (by omega) _ h).mono ?_
  rintro e w1 ⟨k, rfl, hk, hr1, ho1⟩
  have hks : k ≤ s.size := by omega
  clear hk h
  go_wp2_with fail
  refine (pick_any g (P + 1) 256 (by omega) (by omega) _ hr1).mono ?_
  rintro e w2 ⟨y, rfl, hy, hr2, ho2⟩
  have hg2 := hr2.lt
  have HO := ho1.trans ho2
  clear hr1 ho1 ho2 hy
  have kb := Blk.new w2 3 (ints [32, 48, 97, 47, 61, 0, 33, (y : Int)])
  go_wp2_with fail
  refine (pick_any g (P + 1 + 1) 8 (by omega) (by omega) _ (hr2.step ((Below.refl _ _).alloc (Nat.le_refl _) _))).mono ?_
  rintro e w3 ⟨x, rfl, hx, hr3, ho3⟩
  obtain ⟨z, hz⟩ := lit_int (x := x) kb ho3 (by omega) (by simp; omega)
  have x1 : (x : Int) < 8 := by omega
  replace HO := HO.trans (Only.box ho3)
  have hg3 := hr3.lt
  clear kb hx hr2 ho3
  have hr3' := hr3.step ((Below.refl w3.heap.size w3).alloc (Nat.le_refl _) (.cells #[.int .u8 (z % 256)] 5))
  replace HO := HO.alloc (.cells #[.int .u8 (z % 256)] 5)
  go_upto_region 3 with fail
  generalize hc : (⟨#[UInt8.ofNat (z % 256).toNat]⟩ : ByteArray) = c
  have hc1 : c.size = 1 := by rw [← hc]; rfl
  have e1 : (s.extract 0 k).size = k := by rw [ByteArray.size_extract]; omega
  have e2 : (s.extract k s.size).size = s.size - k := by rw [ByteArray.size_extract]; omega
  have e3 : (s.extract (k + 1) s.size).size = s.size - (k + 1) := by rw [ByteArray.size_extract]; omega
  clear hc hcv hz
  go_wp2_with fail
  refine (pick_any g _ 3 (by omega) (by omega) _ hr3').mono ?_
  rintro e w4 ⟨x2, rfl, hx2, hr4, ho4⟩
  replace HO := HO.trans ho4
  clear hr3' hr3 ho4 hx2
  cases hd : ((x2 : Int) == 0)
  · by_cases hks2 : k = s.size
    · subst hks2
      have hb : ((s.size : Int) == (s.size : Int)) = true := by simp
      go_wp2
      go_ret
      exact ⟨_, rfl, by rw [ByteArray.size_append]; omega, hr4.mono (by omega), HO⟩
    · have hb : ((k : Int) == (s.size : Int)) = false := beq_eq_false_iff_ne.2 (by omega)
      go_wp2_with fail
      refine (pick_any g _ 2 (by omega) (by omega) _ hr4).mono ?_
      rintro e w5 ⟨x3, rfl, hx3, hr5, ho5⟩
      replace HO := HO.trans ho5
      clear hr4 ho5 hx3
      cases hd3 : ((x3 : Int) == 0)
      · go_wp2
        go_quiet (fail)
        go_wp2
        go_ret
        exact ⟨_, rfl, by simp only [ByteArray.size_append]; omega, (hr5.step (Below.drewN' (Below.refl _ _) _)).mono (by omega), HO.then_below (Below.drewN' (Below.refl _ _) _)⟩
      · go_wp2
        go_quiet (fail)
        go_wp2
        go_ret
        exact ⟨_, rfl, by simp only [ByteArray.size_append]; omega, (hr5.step (Below.drewN' (Below.refl _ _) _)).mono (by omega), HO.then_below (Below.drewN' (Below.refl _ _) _)⟩
  · go_wp2
    go_quiet (fail)
    go_wp2
    go_ret
    exact ⟨_, rfl, by simp only [ByteArray.size_append]; omega, (hr4.step (Below.drewN' (Below.refl _ _) _)).mono (by omega), HO.then_below (Below.drewN' (Below.refl _ _) _)⟩
end Go.Proofs.YthopednilgncgaaDoor
