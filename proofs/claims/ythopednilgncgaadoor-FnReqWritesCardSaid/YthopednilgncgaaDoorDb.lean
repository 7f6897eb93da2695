/- Walks: draws of paths and rules. -/
import Derived.Test.YthopednilgncgaaDoorDa
import Derived.Test.YthopednilgncgaaDoorRa
namespace Go.Proofs.YthopednilgncgaaDoor
open Go.RowKit
attribute [local go_sem ↓] Go.wp_at_zero Go.wp_at_succ

/-- A text is drawn. -/
def DrStr (g P k : Nat) (w : World) (e : Ending) (w' : World) : Prop := ∃ s : ByteArray, e = .returned (.string s) ∧ s.size ≤ k ∧ Rd w' g P ∧ Only [g] w w'
def strs (l : List ByteArray) : Array Value := (l.map Value.string).toArray
theorem strs_at {l : List ByteArray} {x k : Nat} (hx : x < l.length) (hk : ∀ s ∈ l, s.size ≤ k) : ∃ s, (strs l)[x]? = some (.string s) ∧ s.size ≤ k :=
  ⟨l[x], by simp [strs, hx], hk _ (List.getElem_mem hx)⟩
/-- One of a row of texts, behind a pick. -/
theorem lit_str {w w1 : World} {g H x k : Nat} {t : TypeId} {l : List ByteArray} (hb : Blk w H t (strs l)) (ho : Only [g] w w1) (hg : H ≠ g) (hx : x < l.length) (hk : ∀ s ∈ l, s.size ≤ k) : ∃ s, w1.cell? ⟨H, x, none⟩ = some (.string s) ∧ s.size ≤ k := by
  obtain ⟨s, hs, hz⟩ := strs_at hx hk
  exact ⟨s, ((hb.only ho (by simpa using hg)).cell x).trans hs, hz⟩
theorem Only.box {w w1 : World} {f : List Nat} {o : Obj} (h : Only f (w.alloc o) w1) : Only f w w1 := ((Only.refl f w).alloc o).trans h
theorem Only.then_ {w w1 w2 : World} {f : List Nat} (h : Only f w w1) (k : Only f w1 w2) : Only f w w2 := h.trans k

set_option maxHeartbeats 1000000 in
theorem l20Path_any (g P : Nat) (hP : P + 1 ≤ 1000000) (w : World) (h : Rd w g P) :
    Calls Tryd.prog 85 #[.pointer (some ⟨g, 0, none⟩)] w (DrStr g (P + 1) 11 w) := by
  go_enter Tryd.func85, Tryd.ntmps85
  go_wp2_with fail
  have kb := Blk.new w 9 (strs [⟨#[97]⟩, ⟨#[98]⟩, ⟨#[97, 47, 98]⟩, ⟨#[97, 47, 99]⟩, ⟨#[98, 47, 97]⟩, ⟨#[97, 47, 98, 47, 99]⟩, ⟨#[99]⟩, ⟨#[97, 98]⟩, ⟨#[97, 47, 97, 98]⟩, ⟨#[98, 47, 99, 47, 97]⟩])
  refine (pick_any g P 10 (by omega) (by omega) _ (h.step ((Below.refl _ _).alloc (Nat.le_refl _) _))).mono ?_
  rintro e w1 ⟨x, rfl, hx, hr, ho⟩
  have hg := h.lt
  obtain ⟨s, hs, hz⟩ := lit_str (k := 11) (x := x) kb ho (by omega) (by simp; omega) (by decide)
  have x1 : (x : Int) < 10 := by omega
  clear kb hx
  go_wp2
  go_ret
  exact ⟨s, rfl, hz, hr, Only.box ho⟩
set_option maxHeartbeats 2000000 in
theorem l20AnyPath_any (g P : Nat) (n : Int) (hn : n ≤ 1000) (hP : P + 5 ≤ 1000000) (w : World) (h : Rd w g P) :
    Calls Tryd.prog 51 #[.pointer (some ⟨g, 0, none⟩), .int .i64 n] w (DrStr g (P + 5) 11 w) := by
  have hg := h.lt
  go_enter Tryd.func51, Tryd.ntmps51
  go_wp2_with fail
  refine (pick_any g P n (by omega) (by omega) _ h).mono ?_
  rintro e w1 ⟨x, rfl, hx, hr, ho⟩
  have hg1 := hr.lt
  by_cases h0 : x = 0
  · subst h0
    clear hx
    go_wp2_with fail
    have kb := Blk.new w1 9 (strs [⟨#[47]⟩, ⟨#[97, 47]⟩, ⟨#[47, 97]⟩, ⟨#[97, 47, 47, 98]⟩, ⟨#[65]⟩, ⟨#[97, 98, 99, 100]⟩, ⟨#[97, 47, 98, 47, 99, 47, 100]⟩, ⟨#[97, 32, 98]⟩, ⟨#[122, 122, 122, 47, 122, 122, 122, 47, 122, 122, 122]⟩, ⟨#[0]⟩])
    refine (pick_any g (P + 1) 10 (by omega) (by omega) _ (hr.step ((Below.refl _ _).alloc (Nat.le_refl _) _))).mono ?_
    rintro e w2 ⟨x, rfl, hx, hr2, ho2⟩
    obtain ⟨s, hs, hz⟩ := lit_str (k := 11) (x := x) kb ho2 (by omega) (by simp; omega) (by decide)
    have x1 : (x : Int) < 10 := by omega
    clear kb hx
    go_wp2
    go_ret
    exact ⟨s, rfl, hz, hr2.mono (by omega), ho.trans (Only.box ho2)⟩
  · have h1 : (0 : Int) < (x : Int) := by omega
    clear hx
    go_wp2_with fail
    refine (l20Path_any g (P + 1) (by omega) _ hr).mono ?_
    rintro e w2 ⟨s1, rfl, hz1, hr2, ho2⟩
    go_wp2_with fail
    refine (l20Path_any g (P + 1 + 1) (by omega) _ hr2).mono ?_
    rintro e w3 ⟨s2, rfl, hz2, hr3, ho3⟩
    go_wp2_with fail
    refine (l20Path_any g (P + 1 + 1 + 1) (by omega) _ hr3).mono ?_
    rintro e w4 ⟨s3, rfl, hz3, hr4, ho4⟩
    have hg4 := hr4.lt
    go_wp2_with fail
    have kb := Blk.new w4 9 (strs [ByteArray.empty, s1, s2, s3])
    refine (pick_any g (P + 1 + 1 + 1 + 1) 4 (by omega) (by omega) _ (hr4.step ((Below.refl _ _).alloc (Nat.le_refl _) _))).mono ?_
    rintro e w5 ⟨x, rfl, hx, hr5, ho5⟩
    obtain ⟨s, hs, hz⟩ := lit_str (k := 11) (x := x) kb ho5 (by omega) (by simp; omega) (by
      intro s hs
      simp only [List.mem_cons, List.not_mem_nil, or_false] at hs
      rcases hs with rfl | rfl | rfl | rfl
      · decide
      · exact hz1
      · exact hz2
      · exact hz3)
    have x1 : (x : Int) < 4 := by omega
    clear kb hx
    go_wp2
    go_ret
    exact ⟨s, rfl, hz, hr5.mono (by omega), ho.trans (ho2.trans (ho3.trans (ho4.trans (Only.box ho5))))⟩
end Go.Proofs.YthopednilgncgaaDoor
