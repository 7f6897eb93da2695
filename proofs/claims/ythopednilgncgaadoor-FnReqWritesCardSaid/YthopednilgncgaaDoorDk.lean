/- Walks: edits are drawn. -/
import Derived.Test.YthopednilgncgaaDoorDd
import Derived.Test.YthopednilgncgaaDoorData
namespace Go.Proofs.YthopednilgncgaaDoor
open Go.RowKit
attribute [local go_sem ↓] Go.wp_at_zero Go.wp_at_succ

set_option maxHeartbeats 1000000 in
theorem l20Bytes_any (g P : Nat) (hP : P + 1 ≤ 1000000) (w : World) (h : Rd w g P) :
    Calls Tryd.prog 88 #[.pointer (some ⟨g, 0, none⟩)] w (DrStr g (P + 1) 11 w) := by
  go_enter Tryd.func88, Tryd.ntmps88
  go_wp2_with fail
  have kb := Blk.new w 9 (strs [⟨#[]⟩, ⟨#[120]⟩, ⟨#[121]⟩, ⟨#[120, 121]⟩, ⟨#[0, 255]⟩, ⟨#[49, 50, 51, 52, 53, 54]⟩, ⟨#[76]⟩])
  refine (pick_any g P 7 (by omega) (by omega) _ (h.step ((Below.refl _ _).alloc (Nat.le_refl _) _))).mono ?_
  rintro e w1 ⟨x, rfl, hx, hr, ho⟩
  have hg := h.lt
  obtain ⟨s, hs, hz⟩ := lit_str (k := 11) (x := x) kb ho (by omega) (by simp; omega) (by decide)
  have x1 : (x : Int) < 7 := by omega
  clear kb hx
  go_wp2
  go_ret
  exact ⟨s, rfl, hz, hr, Only.box ho⟩

def smallEdit (e : Edit) : Prop := e.path.size ≤ 11 ∧ e.bytes.size ≤ 11
/-- An edit is drawn. -/
def DrEdit (g P : Nat) (w : World) (e : Ending) (w' : World) : Prop := ∃ x : Edit, e = .returned (.agg (encEdit x).toArray) ∧ smallEdit x ∧ Rd w' g P ∧ Only [g] w w'
theorem only_put3 {w0 w : World} {g b : Nat} (h : Only [g] w0 w) (hb : w0.heap.size ≤ b) (u v x : Value) : Only [g] w0 (((w.setCell ⟨b, 0, none⟩ u).setCell ⟨b, 1, none⟩ v).setCell ⟨b, 2, none⟩ x) :=
  ((h.setCell (p := ⟨b, 0, none⟩) (.inr hb) u).setCell (p := ⟨b, 1, none⟩) (.inr hb) v).setCell (p := ⟨b, 2, none⟩) (.inr hb) x

set_option maxHeartbeats 2000000 in
theorem l20Edit_any (g P : Nat) (hP : P + 3 ≤ 1000000) (w : World) (h : Rd w g P) :
    Calls Tryd.prog 104 #[.pointer (some ⟨g, 0, none⟩)] w (DrEdit g (P + 3) w) := by
  have hg := h.lt
  have k2 := Blk.new w 84 #[.string ⟨#[]⟩, .string ⟨#[]⟩, .bool false]
  have h0 := h.step ((Below.refl _ _).alloc (Nat.le_refl _) (.cells #[.string ⟨#[]⟩, .string ⟨#[]⟩, .bool false] 84))
  go_enter Tryd.func104, Tryd.ntmps104
  go_wp2_with fail
  refine (l20Path_any g P (by omega) _ h0).mono ?_
  rintro e w1 ⟨s, rfl, hs, hr1, ho1⟩
  replace k2 := k2.only ho1 (by simp; omega)
  have HO := Only.box ho1
  clear h0 ho1
  go_wp2_with fail
  refine (l20Bytes_any g (P + 1) (by omega) _ hr1).mono ?_
  rintro e w2 ⟨t, rfl, ht, hr2, ho2⟩
  replace k2 := k2.only ho2 (by simp; omega)
  replace HO := HO.trans ho2
  have k3 := Blk.new w2 84 #[.string s, .string t, .bool false]
  have hr3 := hr2.step ((Below.refl _ _).alloc (Nat.le_refl _) (.cells #[.string s, .string t, .bool false] 84))
  have h2w := k2.lt
  replace k2 := k2.step ((Below.refl _ _).alloc (Nat.le_refl _) (.cells #[.string s, .string t, .bool false] 84))
  replace HO := HO.alloc (.cells #[.string s, .string t, .bool false] 84)
  clear hr1 hr2 ho2
  go_wp2_with fail
  refine (pick_any g _ 5 (by omega) (by omega) _ hr3).mono ?_
  rintro e w3 ⟨x, rfl, hx, hr4, ho4⟩
  have hne : w2.heap.size ≠ w.heap.size := by omega
  replace k2 := k2.only ho4 (by simp; omega)
  replace k3 := k3.only ho4 (by have := HO.size; simp at this ⊢; omega)
  replace HO := HO.trans ho4
  have p0 : w3.cell? ⟨w.heap.size, 0, none⟩ = some (.string ⟨#[]⟩) := k2.cell 0
  have p1 : w3.cell? ⟨w.heap.size, 1, none⟩ = some (.string ⟨#[]⟩) := k2.cell 1
  have p2 : w3.cell? ⟨w.heap.size, 2, none⟩ = some (.bool false) := k2.cell 2
  have q0 : w3.cell? ⟨w2.heap.size, 0, none⟩ = some (.string s) := k3.cell 0
  have q1 : w3.cell? ⟨w2.heap.size, 1, none⟩ = some (.string t) := k3.cell 1
  have q2 : w3.cell? ⟨w2.heap.size, 2, none⟩ = some (.bool false) := k3.cell 2
  have g0 := k2.frozen 0
  have g1 := k2.frozen 1
  have g2 := k2.frozen 2
  clear k2 k3 hx hr3 ho4
  cases hd : ((x : Int) == 0)
  · have HP := hide (only_put3 HO (Nat.le_refl _) (.string s) (.string t) (.bool false))
    go_wp2
    exact bodyPost_ret (v := .agg #[.string s, .string t, .bool false]) (by simp [results, Tryd.results104, go_sem, p0, p1, p2]) rfl ⟨⟨s, t, false⟩, rfl, ⟨hs, ht⟩, (((hr4.put hg _).put hg _).put hg _).mono (by omega), HP.out⟩
  · have HP := hide (only_put3 HO (Nat.le_refl _) (.string s) (.string ⟨#[]⟩) (.bool true))
    go_wp2
    exact bodyPost_ret (v := .agg #[.string s, .string ⟨#[]⟩, .bool true]) (by simp [results, Tryd.results104, go_sem, p0, p1, p2]) rfl ⟨⟨s, ⟨#[]⟩, true⟩, rfl, ⟨hs, Nat.zero_le _⟩, (((hr4.put hg _).put hg _).put hg _).mono (by omega), HP.out⟩

def smallEdits (l : List Edit) : Prop := ∀ i (h : i < l.length), smallEdit l[i]
theorem smallEdits_snoc {l : List Edit} {r : Edit} (h : smallEdits l) (hr : smallEdit r) : smallEdits (l ++ [r]) := fun i hi => by
  by_cases e : i < l.length
  · rw [List.getElem_append_left e]; exact h i e
  · have : i = l.length := by simp at hi; omega
    subst this
    simpa using hr
/-- Edits are drawn. -/
def DrEdits (g P : Nat) (w : World) (e : Ending) (w' : World) : Prop :=
  ∃ v l, e = .returned v ∧ w'.ownsRow w.heap.size 84 3 v l.length (l.flatMap encEdit) ∧ smallEdits l ∧ l.length ≤ 4 ∧ Rd w' g P ∧ Only [g] w w'
theorem infoD_Edit : (Tryd.prog.info? 84).map (fun i => (i.zero, i.size, i.bytes)) = some (some (.agg #[.string ByteArray.empty, .string ByteArray.empty, .bool false]), 3, 40) := by kernel_rfl

set_option maxHeartbeats 4000000 in
set_option maxRecDepth 20000 in
theorem l20Edits_any (g P : Nat) (hP : P + 20 ≤ 1000000) (w : World) (h : Rd w g P) :
    Calls Tryd.prog 103 #[.pointer (some ⟨g, 0, none⟩)] w (DrEdits g (P + 20) w) := by
  have hg := h.lt
  obtain ⟨i0, hi, hz0, hz1, hz2⟩ := info_parts infoD_Edit
  have HO := hide (World.ownsRow_made (base := w.heap.size) (e := 84) (size := 3) w #[] 0 (Nat.le_refl _) (by simp [maxLen]) rfl)
  go_enter Tryd.func103, Tryd.ntmps103
  go_wp2_with fail
  refine (pick_any g P 4 (by omega) (by omega) _ (h.step ((Below.refl _ _).alloc (Nat.le_refl _) _))).mono ?_
  rintro e w1 ⟨j0, rfl, hj0, hr1, ho1⟩
  have HW := hide (own_only HO.out ho1 hg)
  have ho := Only.box ho1
  clear HO ho1
  go_wp2
  go_loopw [3, 4] (fun v kv wr => ∃ (j : Nat) (l : List Edit), kv = .int .i64 (j : Int) ∧ j ≤ 4 ∧ wr.ownsRow w.heap.size 84 3 v l.length (l.flatMap encEdit) ∧ smallEdits l ∧ l.length + j ≤ 4 ∧ Rd wr g (P + 1 + 4 * (4 - j)) ∧ Only [g] w wr) (fun _ i _ => (intOf i).toNat)
  case atStart => exact ⟨1 + j0, [], by go_num, by omega, HW.out, fun i hi => absurd hi (by simp), by simp; omega, hr1.mono (by omega), ho⟩
  case round =>
    obtain ⟨j, l, rfl, hj, hown, hfit, hl, hr, hor⟩ := hrel
    have HW1 := hide hown
    have HF := hide hfit
    clear hown hfit HW hr1 ho hj0
    by_cases hlt : 0 < j
    · have hlt' : (0 : Int) < (j : Int) := by omega
      go_wp2_with fail
      refine (l20Edit_any g (P + 1 + 4 * (4 - j)) (by omega) _ hr).mono ?_
      rintro e w2 ⟨r, rfl, hrf, hr2, ho2⟩
      have HR := hide hrf
      have hown3 := own_only HW1.out ho2 hg
      have hor3 := hor.trans ho2
      have hsz := hor3.size
      have hbA := (Below.refl w.heap.size w2).alloc hsz (.cells (encEdit r).toArray 84)
      rw [show (encEdit r).toArray = #[.string r.path, .string r.bytes, .bool r.gone] from rfl]
      clear hrf HW1 ho2 hr
      go_wp2_with (at_builtin; refine wpList_append_own _ rfl _ _ 38 rfl w.heap.size 84 i0 _ 3 40 Tryd.underlying38 hi hz0 hz1 hz2 rfl (by decide) _ _ _ rfl (hown3.alloc _) ⟨w2.heap.size, 0, none⟩ 1 1 (encEdit r) rfl rfl (news_alloc w2 (encEdit r) _) (Rp.edit.one (w := w2) ⟨rfl, rfl⟩) (by unfold maxLen; omega) (by omega) (by simp; omega) ?_)
      intro v4 w4 hown4 hgrow _
      have hlow : Below w.heap.size w2 w4 := hbA.grown hgrow (by simp; omega) (fun j hj => (hown3.lt j hj).1)
      have hr4 := hr2.below hlow hg
      have ho4 := hor3.then_low hlow
      have HW4 := hide (own_snoc hown4)
      have HF4 := hide (smallEdits_snoc HF.out HR.out)
      have hl4 : (l ++ [r]).length + (j - 1) ≤ 4 := by simp; omega
      generalize l ++ [r] = l4 at HW4 HF4 hl4
      clear hown4 hgrow hlow hr2 hor3 hown3 hbA hsz HR
      go_wp2
      exact ⟨⟨j - 1, l4, by go_num, by omega, HW4.out, HF4.out, hl4, hr4.mono (by omega), ho4⟩, by simp [intOf]; omega⟩
    · have hlt' : ¬ (0 : Int) < (j : Int) := by omega
      go_wp2
      go_ret
      exact ⟨_, l, rfl, HW1.out, HF.out, by omega, hr.mono (by omega), hor⟩
end Go.Proofs.YthopednilgncgaaDoor
