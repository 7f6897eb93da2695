/- Lemmas and walks, joined by program (wip/gen/merge.py). -/
import Derived.Shelf.Spec.SlicesInsert
import Derived.Test.YtnogkkcmcnhodaaGreatDoorZ1
import Derived.Test.YtnogkkcmcnhodaaGreatDoorZ2
import Derived.Test.YtnogkkcmcnhodaaGreatDoorZ3
namespace Go.Proofs.YtnogkkcmcnhodaaGreatDoor
open Go.RowKit
attribute [local go_sem ↓] Go.wp_at_zero Go.wp_at_succ

theorem zeroFile_one : ∀ v ∈ ((.agg #[.string ByteArray.empty, .string ByteArray.empty]) : Value).cells.toList, v.oneCell' = true := by intro v hv; simp [Value.cells] at hv; subst hv; rfl

set_option maxHeartbeats 4000000 in
set_option maxRecDepth 100000 in
theorem insFile_any (base i n vb : Nat) (v : Value) (xs ys : List Value) (tV : TypeId) (w : World) (ho : w.ownsRow base 104 2 v n xs) (hbase : base ≤ w.heap.size) (hi : i ≤ n) (hy : ys.length = 2) (hy1 : ∀ u ∈ ys, u.oneCell' = true) (hx1 : ∀ u ∈ xs, u.oneCell' = true)
  (hv : Blk w vb tV ys.toArray) (hne : v.ownBlock ≠ some vb) (hn : n ≤ 4194304) :
  Calls Tryz.prog 188 #[v, .int .i64 i, .slice (some ⟨vb, 0, none⟩) 1 1] w fun e w' => ∃ v', e = .returned v' ∧ w'.ownsRow base 104 2 v' (n + 1) (insAt 2 i xs ys) ∧ w.grownBy w' v.ownBlock := by
 obtain ⟨i0, hi0, hz0, hz1, hz2⟩ := info_parts infoC_File
 have hnews : ∀ j u, ys[j]? = some u → w.cell? ((⟨vb, 0, none⟩ : Addr).add j) = some u := fun j u hu => World.news_of_block hv j u (by simpa using hu)
 have hlx := ho.1
 have HN := hide hnews
 have HV := hide hv
 have HY1 := hide hy1
 have HX1 := hide hx1
 have HLX := hide hlx
 have HY := hide hy
 clear hnews hy1 hx1 hlx hv hy
 by_cases hin : i = n
 ·subst hin
  have hall : insAt 2 i xs ys = xs ++ ys := by
   unfold insAt
   rw [List.take_of_length_le (by rw [HLX.out]; exact Nat.le_refl _), List.drop_eq_nil_of_le (by rw [HLX.out]; exact Nat.le_refl _), List.append_nil]
  have HALL := hide hall
  clear hall
  have ho' := ho
  rcases ho.2 with ⟨rfl, rfl⟩ | ⟨g, cap, cur, rfl, hb, hg, hnc, hcm, hcs, ht⟩
  ·clear ho
   go_enter Tryz.func188, Tryz.ntmps188
   go_wp2_with (at_builtin; refine wpList_append_own _ rfl _ _ 36 rfl base 104 i0 _ 2 32 Tryz.underlying36 hi0 hz0 hz1 hz2 rfl (by decide) _ _ _ rfl ho' ⟨vb, 0, none⟩ 1 1 ys rfl (by rw [HY.out]) HN.out HY1.out (by unfold maxLen; omega) (by omega) hbase ?_)
   intro v' w5 hown' hgrow _
   go_wp2
   go_ret
   exact ⟨_, rfl, by rw [HALL.out]; exact hown', hgrow⟩
  ·have HH := hide (show True ∧ w.heap[g]? = some (.cells cur 104 (0, 0)) from ⟨trivial, hg⟩)
   unfold maxLen at hcm
   clear ho hg ht hcs
   have hcap : (cap = i) ∨ ¬ (cap = i) := Classical.em _
   rcases hcap with hcap | hcap
   all_goals
    go_enter Tryz.func188, Tryz.ntmps188
    go_wp2_with (at_builtin; refine wpList_append_own _ rfl _ _ 36 rfl base 104 i0 _ 2 32 Tryz.underlying36 hi0 hz0 hz1 hz2 rfl (by decide) _ _ _ rfl ho' ⟨vb, 0, none⟩ 1 1 ys rfl (by rw [HY.out]) HN.out HY1.out (by unfold maxLen; omega) (by omega) hbase ?_)
    intro v' w5 hown' hgrow _
    go_wp2
    go_ret
    exact ⟨_, rfl, by rw [HALL.out]; exact hown', hgrow⟩
 ·rcases ho.2 with ⟨rfl, rfl⟩ | ⟨g, cap, cur, rfl, hb, hg, hnc, hcm, hcs, ht⟩
  ·omega
  ·have hlt : i < n := by omega
   have hgv : g ≠ vb := fun e => hne (by subst e; rfl)
   have hsz : (Tryz.prog.info? 104).map (·.size) = some 2 := by rw [hi0]; simp [hz1]
   unfold maxLen at hcm
   clear ho
   have hcl : cur.toList.length = cap * 2 := by simpa using hcs
   have hfst : ∀ j u, xs[j]? = some u → cur[j]? = some u := fun j u hu => by
    rw [← ht, List.getElem?_take] at hu
    split at hu
    ·simpa using hu
    ·cases hu
   have hsrc : ∀ (W : World), Blk W g 104 cur → ∀ j u, (xs.drop (i * 2))[j]? = some u → W.cell? ((⟨g, i * 2, none⟩ : Addr).add j) = some u := fun W hW j u hu => by
    rw [Addr.add_lit, hW.cell]
    rw [List.getElem?_drop] at hu
    exact hfst _ _ hu
   have hdl : (xs.drop (i * 2)).length = (n - i) * 2 := by rw [List.length_drop, HLX.out, ← Nat.sub_mul]
   have h1d : ∀ u ∈ xs.drop (i * 2), u.oneCell' = true := fun u hu => HX1.out u (List.mem_of_mem_drop hu)
   have k1 : (0 : Int) ≤ (i : Int) := by omega
   have k2 : (i : Int) ≤ (n : Int) := by omega
   have k3 : ((i : Int) == (n : Int)) = false := by simp; omega
   have k4 : ¬ (cap = i) := by omega
   by_cases hroom : n + 1 ≤ cap
   ·have hcp1 : ∀ ty dc sc, (Builtin.copy_ #[36, 36] ty #[.slice (some ⟨g, (i + 1) * 2, none⟩) (n - i) dc, .slice (some ⟨g, i * 2, none⟩) (n + 1 - i) sc]).run Tryz.prog w.drew = .ok (goInt ((n - i : Nat) : Int)) (w.drew.setRow g (cur.toList.take ((i + 1) * 2) ++ xs.drop (i * 2) ++ cur.toList.drop ((i + 1) * 2 + (xs.drop (i * 2)).length)).toArray) := fun ty dc sc =>
     run_copy_rowK w.drew 36 36 ty 104 2 g ((i + 1) * 2) (n - i) dc ⟨g, i * 2, none⟩ (n + 1 - i) sc cur 104 _ Tryz.underlying36 hsz hg (n - i) (by simp only [Nat.min_def]; split <;> omega) hdl (hsrc w.drew hg) (by rw [hdl, hcs]; omega) h1d
    obtain ⟨c1, hc1⟩ : ∃ c1, c1 = cur.toList.take ((i + 1) * 2) ++ xs.drop (i * 2) ++ cur.toList.drop ((i + 1) * 2 + (xs.drop (i * 2)).length) := ⟨_, rfl⟩
    have l1 := shift_one ht hcl hlt hroom
    have l2 := shift_two ht hcl HY.out hlt hroom hc1
    rw [← hc1] at l1 hcp1
    have hg1 : (w.drew.setRow g c1.toArray).heap[g]? = some (.cells c1.toArray 104 (0, 0)) := setRow_heap w.drew g cur c1.toArray 104 (0, 0) hg
    have hcp2 : ∀ ty dc, (Builtin.copy_ #[36, 36] ty #[.slice (some ⟨g, i * 2, none⟩) (n + 1 - i) dc, .slice (some ⟨vb, 0, none⟩) 1 1]).run Tryz.prog (w.drew.setRow g c1.toArray) = .ok (goInt 1) ((w.drew.setRow g c1.toArray).setRow g (c1.take (i * 2) ++ ys ++ c1.drop (i * 2 + ys.length)).toArray) := fun ty dc =>
     run_copy_rowK _ 36 36 ty 104 2 g (i * 2) (n + 1 - i) dc ⟨vb, 0, none⟩ 1 1 c1.toArray 104 ys Tryz.underlying36 hsz hg1 1 (by simp only [Nat.min_def]; split <;> omega) (by have := HY.out; omega)
      (fun j u hu => (cell_setRow_other w.drew g c1.toArray _ (by rw [Addr.add_lit]; exact fun e => hgv e.symm)).trans (HN.out j u hu)) (by rw [HY.out]; simp only [List.size_toArray]; omega) HY1.out
    have hov : ∀ lb cb, (callFunc 198 #[.slice (some ⟨vb, 0, none⟩) 1 1, .slice (some ⟨g, (i + 1) * 2, none⟩) lb cb]).run Tryz.prog w = .ok (.value (.bool false)) w := fun lb cb => by
     rw [run_callFunc_extern Tryz.func198 (by kernel_rfl) (by kernel_rfl) (by kernel_rfl) (e := Extern.SlicesOverlaps.overlaps #[36, 36] #[4]) (by kernel_rfl),
      Lib.run_overlaps_apart w 36 4 104 Tryz.underlying36 2 (fun w => by simp [Go.sizeOf, typeInfo, hi0, hz1]) ⟨vb, 0, none⟩ ⟨g, (i + 1) * 2, none⟩ 1 1 lb cb (fun e => hgv e.symm) tV 104 _ _ (row_shape HV.out) (row_shape hg) (by rw [hcs]; omega) (row_frozen HV.out _) (row_frozen HV.out _)]
     rfl
    obtain ⟨W2, hW2⟩ : ∃ W2, W2 = (w.drew.setRow g c1.toArray).setRow g (c1.take (i * 2) ++ ys ++ c1.drop (i * 2 + ys.length)).toArray := ⟨_, rfl⟩
    rw [← hW2] at hcp2
    have HO := hide (show W2.ownsRow base 104 2 (.slice (some ⟨g, 0, none⟩) (n + 1) cap) (n + 1) (insAt 2 i xs ys) from
     ⟨by unfold insAt; simp only [List.length_append, List.length_take, hdl, HY.out, HLX.out]; omega, .inr ⟨g, cap, _, rfl, hb, by rw [hW2]; exact setRow_heap _ g c1.toArray _ 104 (0, 0) hg1, hroom, by unfold maxLen; omega, by simpa using l2.1, by simpa using l2.2⟩⟩)
    have HG := hide (show w.grownBy W2 (some g) by rw [hW2]; exact grown_trans (grown_trans (grown_drew w (some g)) (grown_setRow c1.toArray)) (grown_setRow (w := w.drew.setRow g c1.toArray) (c1.take (i * 2) ++ ys ++ c1.drop (i * 2 + ys.length)).toArray))
    clear hW2
    have k5 : (n : Int) + 1 ≤ (cap : Int) := by omega
    have k6 : IntKind.i64.wrap ((i : Int) + 1) = (i : Int) + 1 := IntWalk.i64_in _ (by omega)
    have k7 : (0 : Int) ≤ (i : Int) + 1 := by omega
    have k8 : ((i : Int) + 1).toNat = i + 1 := by omega
    have k9 : (i : Int) + 1 ≤ (n : Int) + 1 := by omega
    have k10 : ¬ (cap = i + 1) := by omega
    have k11 : (i : Int) ≤ (n : Int) + 1 := by omega
    have mixed : Tryz.prog.follows .mixedOrders = true := by kernel_rfl
    clear l1 l2 hc1 hg1 hsrc hfst hdl h1d hg ht hcs hcl
    go_enter Tryz.func188, Tryz.ntmps188
    go_wp2_with (simp only [hov])
    go_region_law_o (refine step_copy_runI rfl _ _ 36 36 rfl _ _ (by simp [Act.eval, Act.put]) (by simp [Act.eval, Act.put]) (hcp1 _ _ _) ?_)
    go_wp2_with (at_builtin; refine wpList_copy_runI _ rfl _ _ 36 36 rfl _ _ rfl rfl (hcp2 _ _) ?_)
    go_ret
    exact ⟨.slice (some ⟨g, 0, none⟩) (n + 1) cap, rfl, HO.out, HG.out⟩
   ·have hgw : g < w.heap.size := (Array.getElem?_eq_some_iff.1 hg).1
    have hvw : vb < w.heap.size := HV.out.lt
    have hcn : cap = n := by omega
    subst hcn
    have hold : (Builtin.firstCells i0.size i (.slice (some ⟨g, 0, none⟩) i cap)).run Tryz.prog w.drew = .ok (xs.take (i * 2)).toArray w.drew := by
     rw [hz1]
     refine run_firstCells_some w.drew 2 i ⟨g, 0, none⟩ i cap (xs.take (i * 2)) (by rw [List.length_take, HLX.out]; omega) (fun j u hu => ?_)
     rw [Addr.add_lit, Nat.zero_add, Blk.cell (w := w.drew) (g := g) hg]
     rw [List.getElem?_take] at hu
     split at hu
     ·exact hfst _ _ hu
     ·cases hu
    have hkk : (cap : Int) + 1 - (i : Int) = ((cap + 1 - i : Nat) : Int) := by omega
    have hik : i + (cap + 1 - i) = cap + 1 := by omega
    have hrz : ∀ ty, (Builtin.append_ #[36, 3] ty #[.slice (some ⟨g, 0, none⟩) i cap, .int .i64 ((cap : Int) + 1 - (i : Int))]).run Tryz.prog w =
      .ok (.slice (some ⟨w.heap.size, 0, none⟩) (cap + 1) (grownCap w (cap + 1) cap 104)) (w.drew.alloc (.cells ((xs.take (i * 2)).toArray ++ Builtin.zeroCells ((.agg #[.string ByteArray.empty, .string ByteArray.empty]) : Value).cells (cap + 1 - i) ++ Builtin.zeroCells ((.agg #[.string ByteArray.empty, .string ByteArray.empty]) : Value).cells (grownCap w (cap + 1) cap 104 - (cap + 1))) 104)) := fun ty => by
     have h := Lib.run_append_grow_zeros w 36 3 ty 104 i0 _ .i64 .i64 Tryz.underlying36 Tryz.underlying3 hi0 hz0 (some ⟨g, 0, none⟩) i cap (xs.take (i * 2)) hold (cap + 1 - i) (by omega) (by rw [hz1]; decide) (by omega) (by omega) (by rw [hz2]; omega) (by rw [hz2, hik]; exact growslice_fits (by omega) (by omega))
     rw [hik] at h
     rw [hkk]
     exact h
    have hGn : cap + 1 ≤ grownCap w (cap + 1) cap 104 := grownCap_ge w _ _ _
    have hGm := grownCap_le_maxLen w (cap + 1) cap 104 (by unfold maxLen; omega)
    unfold maxLen at hGm
    generalize hGe : grownCap w (cap + 1) cap 104 = G at hrz hGn hGm
    clear hGe
    obtain ⟨ROW, hROW⟩ : ∃ ROW : Array Value, ROW = (xs.take (i * 2)).toArray ++ Builtin.zeroCells ((.agg #[.string ByteArray.empty, .string ByteArray.empty]) : Value).cells (cap + 1 - i) ++ Builtin.zeroCells ((.agg #[.string ByteArray.empty, .string ByteArray.empty]) : Value).cells (G - (cap + 1)) := ⟨_, rfl⟩
    rw [← hROW] at hrz
    have hrow : ROW.toList = xs.take (i * 2) ++ (Builtin.zeroCells ((.agg #[.string ByteArray.empty, .string ByteArray.empty]) : Value).cells (cap + 1 - i)).toList ++ (Builtin.zeroCells ((.agg #[.string ByteArray.empty, .string ByteArray.empty]) : Value).cells (G - (cap + 1))).toList := by rw [hROW]; simp
    obtain ⟨r1, hr1⟩ : ∃ r1, r1 = ROW.toList.take (i * 2) ++ ys ++ ROW.toList.drop (i * 2 + ys.length) := ⟨_, rfl⟩
    obtain ⟨q0, q1, q2, q3⟩ := grow_row HLX.out HY.out hlt hGn (by simp [Builtin.zeroCells, Value.cells]) (by simp [Builtin.zeroCells, Value.cells]) hrow hr1
    have hRS : ROW.size = G * 2 := by rw [← Array.length_toList]; exact q0
    obtain ⟨r2, hr2⟩ : ∃ r2, r2 = r1.take ((i + 1) * 2) ++ xs.drop (i * 2) ++ r1.drop ((i + 1) * 2 + (xs.drop (i * 2)).length) := ⟨_, rfl⟩
    rw [← hr2] at q2 q3
    obtain ⟨W1, hW1⟩ : ∃ W1, W1 = w.drew.alloc (.cells ROW 104) := ⟨_, rfl⟩
    rw [← hW1] at hrz
    have hN1 : W1.heap[w.heap.size]? = some (.cells ROW 104 (0, 0)) := by rw [hW1]; exact heap_alloc_new w.drew _
    have hold1 : ∀ b, b < w.heap.size → W1.heap[b]? = w.heap[b]? := fun b hb => by rw [hW1]; exact Below.heap_alloc w.drew _ b hb
    have hHS1 : W1.heap.size = w.heap.size + 1 := by rw [hW1]; simp
    have hGR1 : w.grownBy W1 (some g) := by rw [hW1]; exact grown_trans (grown_drew w (some g)) (World.grownBy_alloc _ _ _)
    have hcpA : ∀ ty dc, (Builtin.copy_ #[36, 36] ty #[.slice (some ⟨w.heap.size, i * 2, none⟩) (cap + 1 - i) dc, .slice (some ⟨vb, 0, none⟩) 1 1]).run Tryz.prog W1 = .ok (goInt 1) (W1.setRow w.heap.size r1.toArray) := fun ty dc => by
     rw [hr1]
     exact run_copy_rowK W1 36 36 ty 104 2 w.heap.size (i * 2) (cap + 1 - i) dc ⟨vb, 0, none⟩ 1 1 ROW 104 ys Tryz.underlying36 hsz hN1 1 (by simp only [Nat.min_def]; split <;> omega) (by have := HY.out; omega)
      (fun j u hu => World.news_of_block ((hold1 vb hvw).trans HV.out) j u (by simpa using hu)) (by rw [HY.out, hRS]; omega) HY1.out
    obtain ⟨W2, hW2⟩ : ∃ W2, W2 = W1.setRow w.heap.size r1.toArray := ⟨_, rfl⟩
    rw [← hW2] at hcpA
    have hN2 : W2.heap[w.heap.size]? = some (.cells r1.toArray 104 (0, 0)) := by rw [hW2]; exact setRow_heap W1 _ _ _ _ _ hN1
    have hold2 : ∀ b, b < w.heap.size → W2.heap[b]? = w.heap[b]? := fun b hb => by rw [hW2, setRow_other _ _ _ _ (by omega)]; exact hold1 b hb
    have hGR2 : w.grownBy W2 (some g) := by
     rw [hW2]
     exact ⟨hGR1.os, hGR1.tape, hGR1.output, by rw [setRow_size]; exact hGR1.size, fun k hk hn => by rw [setRow_other _ _ _ _ (by omega)]; exact hGR1.block k hk hn⟩
    have hcpB : ∀ ty dc sc, (Builtin.copy_ #[36, 36] ty #[.slice (some ⟨w.heap.size, (i + 1) * 2, none⟩) (cap - i) dc, .slice (some ⟨g, i * 2, none⟩) (cap - i) sc]).run Tryz.prog W2.drew = .ok (goInt ((cap - i : Nat) : Int)) (W2.drew.setRow w.heap.size r2.toArray) := fun ty dc sc => by
     rw [hr2]
     exact run_copy_rowK W2.drew 36 36 ty 104 2 w.heap.size ((i + 1) * 2) (cap - i) dc ⟨g, i * 2, none⟩ (cap - i) sc r1.toArray 104 (xs.drop (i * 2)) Tryz.underlying36 hsz hN2 (cap - i) (by simp only [Nat.min_def]; split <;> omega) hdl
      (hsrc W2.drew ((hold2 g hgw).trans hg)) (by rw [hdl]; simp only [List.size_toArray]; omega) h1d
    obtain ⟨W3, hW3⟩ : ∃ W3, W3 = W2.drew.setRow w.heap.size r2.toArray := ⟨_, rfl⟩
    rw [← hW3] at hcpB
    have HO := hide (show W3.ownsRow base 104 2 (.slice (some ⟨w.heap.size, 0, none⟩) (cap + 1) G) (cap + 1) (insAt 2 i xs ys) from
     ⟨by unfold insAt; simp only [List.length_append, List.length_take, hdl, HY.out, HLX.out]; omega, .inr ⟨w.heap.size, G, _, rfl, hbase, by rw [hW3]; exact setRow_heap W2.drew _ _ _ _ _ hN2, hGn, by unfold maxLen; omega, by simpa using q2, by simpa using q3⟩⟩)
    have HG := hide (show w.grownBy W3 (some g) by
     rw [hW3]
     exact ⟨hGR2.os, hGR2.tape, hGR2.output, by rw [setRow_size]; exact hGR2.size, fun k hk hn => by rw [setRow_other _ _ _ _ (by omega)]; exact hGR2.block k hk hn⟩)
    have k5 : (cap : Int) < (cap : Int) + 1 := by omega
    have k6 : IntKind.i64.wrap ((i : Int) + 1) = (i : Int) + 1 := IntWalk.i64_in _ (by omega)
    have k7 : (0 : Int) ≤ (i : Int) + 1 := by omega
    have k8 : ((i : Int) + 1).toNat = i + 1 := by omega
    have k9 : (i : Int) + 1 ≤ (cap : Int) + 1 := by omega
    have k10 : ¬ (G = i + 1) := by omega
    have k11 : (i : Int) ≤ (cap : Int) + 1 := by omega
    have k12 : ¬ (G = i) := by omega
    have mixed : Tryz.prog.follows .mixedOrders = true := by kernel_rfl
    generalize w.heap.size = N at hrz hcpA hcpB HO
    clear hRS hW3 hW2 hW1 hN1 hN2 hold1 hold2 hHS1 hGR1 hGR2 hr1 hr2 q0 q1 q2 q3 hrow hROW hold hkk hik hsrc hfst hdl h1d hg ht hcs hcl
    go_enter Tryz.func188, Tryz.ntmps188
    go_wp2_with (first
     | (at_builtin; refine Lib.wpList_append_run _ rfl _ _ _ _ rfl _ _ rfl rfl _ _ (hrz _) ?_)
     | (at_builtin; refine wpList_copy_runI _ rfl _ _ 36 36 rfl _ _ rfl rfl (hcpA _ _) ?_))
    go_region_law_o (refine step_copy_runI rfl _ _ 36 36 rfl _ _ (by simp [Act.eval, Act.put]) (by simp [Act.eval, Act.put]) (hcpB _ _ _) ?_)
    go_wp2
    go_ret
    exact ⟨.slice (some ⟨N, 0, none⟩) (cap + 1) G, rfl, HO.out, HG.out⟩


set_option maxHeartbeats 4000000 in
set_option maxRecDepth 100000 in
theorem delFile_any (base i n : Nat) (v : Value) (xs : List Value) (w : World) (ho : w.ownsRow base 104 2 v n xs) (hi : i < n) (hx1 : ∀ u ∈ xs, u.oneCell' = true) (hn : n ≤ 4194304) :
  Calls Tryz.prog 187 #[v, .int .i64 i, .int .i64 ((i : Int) + 1)] w fun e w' => ∃ v', e = .returned v' ∧ w'.ownsRow base 104 2 v' (n - 1) (delAt 2 i xs) ∧ w.grownBy w' v.ownBlock := by
 obtain ⟨i0, hi0, hz0, hz1, hz2⟩ := info_parts infoC_File
 have hlx := ho.1
 rcases ho.2 with ⟨rfl, rfl⟩ | ⟨g, cap, cur, rfl, hb, hg, hnc, hcm, hcs, ht⟩
 ·omega
 unfold maxLen at hcm
 have hcl : cur.toList.length = cap * 2 := by simpa using hcs
 have hfst : ∀ j u, xs[j]? = some u → cur[j]? = some u := fun j u hu => by
  rw [← ht, List.getElem?_take] at hu
  split at hu
  ·simpa using hu
  ·cases hu
 have hsrc : ∀ j u, (xs.drop ((i + 1) * 2))[j]? = some u → w.cell? ((⟨g, (i + 1) * 2, none⟩ : Addr).add j) = some u := fun j u hu => by
  rw [Addr.add_lit, Blk.cell (w := w) (g := g) hg]
  rw [List.getElem?_drop] at hu
  exact hfst _ _ hu
 have hdl : (xs.drop ((i + 1) * 2)).length = (n - (i + 1)) * 2 := by rw [List.length_drop, hlx, ← Nat.sub_mul]
 have h1d : ∀ u ∈ xs.drop ((i + 1) * 2), u.oneCell' = true := fun u hu => hx1 u (List.mem_of_mem_drop hu)
 have hap : ∀ ty sc, (Builtin.append_ #[36, 36] ty #[.slice (some ⟨g, 0, none⟩) i cap, .slice (some ⟨g, (i + 1) * 2, none⟩) (n - (i + 1)) sc]).run Tryz.prog w.drew = .ok (.slice (some ⟨g, 0, none⟩) (n - 1) cap) (w.drew.setRow g (cur.toList.take (i * 2) ++ xs.drop ((i + 1) * 2) ++ cur.toList.drop (i * 2 + (xs.drop ((i + 1) * 2)).length)).toArray) := fun ty sc => by
  have h := run_append_room w.drew 36 ty 104 i0 Tryz.underlying36 hi0 g i cap cur hg ⟨g, (i + 1) * 2, none⟩ (n - (i + 1)) sc (xs.drop ((i + 1) * 2)) (by rw [hz1]; exact hdl) (fun j u hu => hsrc j u hu) h1d (by omega) (by rw [hz1, hdl, hcs]; omega)
  rw [hz1, show i + (n - (i + 1)) = n - 1 by omega] at h
  exact h
 have hap' : ∀ ty, cap = i + 1 → (Builtin.append_ #[36, 36] ty #[.slice (some ⟨g, 0, none⟩) i cap, .slice (some ⟨g, 0, none⟩) (n - (i + 1)) 0]).run Tryz.prog w.drew = .ok (.slice (some ⟨g, 0, none⟩) (n - 1) cap) (w.drew.setRow g (cur.toList.take (i * 2) ++ xs.drop ((i + 1) * 2) ++ cur.toList.drop (i * 2 + (xs.drop ((i + 1) * 2)).length)).toArray) := fun ty hci => by
  have hnil : xs.drop ((i + 1) * 2) = [] := List.drop_eq_nil_of_le (by rw [hlx]; omega)
  have h := run_append_room w.drew 36 ty 104 i0 Tryz.underlying36 hi0 g i cap cur hg ⟨g, 0, none⟩ (n - (i + 1)) 0 (xs.drop ((i + 1) * 2)) (by rw [hz1]; exact hdl) (fun j u hu => by rw [hnil] at hu; cases hu) h1d (by omega) (by rw [hz1, hdl, hcs]; omega)
  rw [hz1, show i + (n - (i + 1)) = n - 1 by omega] at h
  exact h
 obtain ⟨c1, hc1⟩ : ∃ c1, c1 = cur.toList.take (i * 2) ++ xs.drop ((i + 1) * 2) ++ cur.toList.drop (i * 2 + (xs.drop ((i + 1) * 2)).length) := ⟨_, rfl⟩
 obtain ⟨q1, q2, q3⟩ := del_row ht hcl hi hnc (z := ([.string ByteArray.empty, .string ByteArray.empty] : List Value)) rfl hc1
 rw [← hc1] at hap hap'
 have hg1 : (w.drew.setRow g c1.toArray).heap[g]? = some (.cells c1.toArray 104 (0, 0)) := setRow_heap w.drew g cur c1.toArray 104 (0, 0) hg
 obtain ⟨W1, hW1⟩ : ∃ W1, W1 = w.drew.setRow g c1.toArray := ⟨_, rfl⟩
 rw [← hW1] at hap hap' hg1
 have hcl2 : ∀ ty dc, (Builtin.clear_ #[36] ty #[.slice (some ⟨g, (n - 1) * 2, none⟩) 1 dc]).run Tryz.prog W1 = .ok (.tuple #[]) (W1.setRow g (c1.take ((n - 1) * 2) ++ ([.string ByteArray.empty, .string ByteArray.empty] : List Value) ++ c1.drop ((n - 1) * 2 + 1 * 2)).toArray) := fun ty dc =>
  run_clear_row (P := Tryz.prog) W1 36 104 ty (.agg #[.string ByteArray.empty, .string ByteArray.empty]) 2 Tryz.underlying36 (fun w => by kernel_rfl) rfl zeroFile_one g ((n - 1) * 2) 1 dc c1.toArray 104 hg1 (by simp only [List.size_toArray]; omega)
 obtain ⟨W2, hW2⟩ : ∃ W2, W2 = W1.setRow g (c1.take ((n - 1) * 2) ++ ([.string ByteArray.empty, .string ByteArray.empty] : List Value) ++ c1.drop ((n - 1) * 2 + 1 * 2)).toArray := ⟨_, rfl⟩
 rw [← hW2] at hcl2
 have HO := hide (show W2.ownsRow base 104 2 (.slice (some ⟨g, 0, none⟩) (n - 1) cap) (n - 1) (delAt 2 i xs) from
  ⟨by unfold delAt; simp only [List.length_append, List.length_take, hdl, hlx]; omega, .inr ⟨g, cap, _, rfl, hb, by rw [hW2]; exact setRow_heap W1 g c1.toArray _ 104 (0, 0) hg1, by omega, by unfold maxLen; omega, by simpa using q2, by simpa using q3⟩⟩)
 have HG := hide (show w.grownBy W2 (some g) by rw [hW2, hW1]; exact grown_trans (grown_trans (grown_drew w (some g)) (grown_setRow c1.toArray)) (grown_setRow (w := w.drew.setRow g c1.toArray) _))
 have k1 : (0 : Int) ≤ (i : Int) := by omega
 have k2 : (i : Int) ≤ (n : Int) := by omega
 have k3 : ((i : Int) == (i : Int) + 1) = false := by simp; omega
 have k5 : (i : Int) + 1 ≤ (n : Int) := by omega
 have k6 : (i : Int) ≤ (i : Int) + 1 := by omega
 have k7 : (0 : Int) ≤ (i : Int) + 1 := by omega
 have k8 : ((i : Int) + 1).toNat = i + 1 := by omega
 have k9 : (i : Int) ≤ (cap : Int) := by omega
 have k10 : n ≤ cap := hnc
 have k11 : ¬ (n = i) := by omega
 have k12 : ¬ (cap = n - 1) := by omega
 have k13 : (n : Int) - 1 ≤ (n : Int) := by omega
 have k14 : n - (n - 1) = 1 := by omega
 have k15 : 0 < n := by omega
 have mixed : Tryz.prog.follows .mixedOrders = true := by kernel_rfl
 clear hW1 hW2 q1 q2 q3 hc1 hg1 hsrc hfst hdl h1d hg ht hcs hcl ho hlx hx1
 by_cases hci : cap = i + 1
 ·have hn1 : n = i + 1 := by omega
  subst hn1
  subst hci
  have hap := fun ty => hap' ty rfl
  rw [Nat.add_sub_cancel] at HO hcl2
  simp only [Nat.add_sub_cancel, Nat.sub_self] at hap
  clear hap' k2 k5 k9 k10 k11 k12 k13 k14 k15
  have k9 : (i : Int) ≤ (i : Int) + 1 := by omega
  have k16 : ¬ (i + 1 = i) := by omega
  have k17 : i + 1 - i = 1 := by omega
  go_enter Tryz.func187, Tryz.ntmps187
  go_wp2_with fail
  go_region_law_o (refine step_append_runI rfl _ _ 36 36 rfl _ _ (by simp [Act.eval, Act.put]) (by simp [Act.eval, Act.put]) (hap _) ?_)
  go_wp2
  go_ret
  exact ⟨.slice (some ⟨g, 0, none⟩) i (i + 1), rfl, by rw [Nat.add_sub_cancel]; exact HO.out, HG.out⟩
 ·clear hap'
  go_enter Tryz.func187, Tryz.ntmps187
  go_wp2_with fail
  go_region_law_o (refine step_append_runI rfl _ _ 36 36 rfl _ _ (by simp [Act.eval, Act.put]) (by simp [Act.eval, Act.put]) (hap _ (cap - (i + 1))) ?_)
  go_wp2
  go_ret
  exact ⟨.slice (some ⟨g, 0, none⟩) (n - 1) cap, rfl, HO.out, HG.out⟩

theorem infoC_Ref : (Tryz.prog.info? 99).map (fun i => (i.zero, i.size, i.bytes)) = some (some (.agg #[.string ByteArray.empty, .bool false, .int .i64 0, .slice none 0 0]), 4, 56) := by kernel_rfl
theorem zeroRef_one : ∀ v ∈ ((.agg #[.string ByteArray.empty, .bool false, .int .i64 0, .slice none 0 0]) : Value).cells.toList, v.oneCell' = true := by intro v hv; simp [Value.cells] at hv; rcases hv with rfl | rfl | rfl | rfl <;> rfl

set_option maxHeartbeats 4000000 in
set_option maxRecDepth 100000 in
theorem insRef_any (base i n vb : Nat) (v : Value) (xs ys : List Value) (tV : TypeId) (w : World) (ho : w.ownsRow base 99 4 v n xs) (hbase : base ≤ w.heap.size) (hi : i ≤ n) (hy : ys.length = 4) (hy1 : ∀ u ∈ ys, u.oneCell' = true) (hx1 : ∀ u ∈ xs, u.oneCell' = true)
  (hv : Blk w vb tV ys.toArray) (hne : v.ownBlock ≠ some vb) (hn : n ≤ 4194304) :
  Calls Tryz.prog 153 #[v, .int .i64 i, .slice (some ⟨vb, 0, none⟩) 1 1] w fun e w' => ∃ v', e = .returned v' ∧ w'.ownsRow base 99 4 v' (n + 1) (insAt 4 i xs ys) ∧ w.grownBy w' v.ownBlock := by
 obtain ⟨i0, hi0, hz0, hz1, hz2⟩ := info_parts infoC_Ref
 have hnews : ∀ j u, ys[j]? = some u → w.cell? ((⟨vb, 0, none⟩ : Addr).add j) = some u := fun j u hu => World.news_of_block hv j u (by simpa using hu)
 have hlx := ho.1
 have HN := hide hnews
 have HV := hide hv
 have HY1 := hide hy1
 have HX1 := hide hx1
 have HLX := hide hlx
 have HY := hide hy
 clear hnews hy1 hx1 hlx hv hy
 by_cases hin : i = n
 ·subst hin
  have hall : insAt 4 i xs ys = xs ++ ys := by
   unfold insAt
   rw [List.take_of_length_le (by rw [HLX.out]; exact Nat.le_refl _), List.drop_eq_nil_of_le (by rw [HLX.out]; exact Nat.le_refl _), List.append_nil]
  have HALL := hide hall
  clear hall
  have ho' := ho
  rcases ho.2 with ⟨rfl, rfl⟩ | ⟨g, cap, cur, rfl, hb, hg, hnc, hcm, hcs, ht⟩
  ·clear ho
   go_enter Tryz.func153, Tryz.ntmps153
   go_wp2_with (at_builtin; refine wpList_append_own _ rfl _ _ 94 rfl base 99 i0 _ 4 56 Tryz.underlying94 hi0 hz0 hz1 hz2 rfl (by decide) _ _ _ rfl ho' ⟨vb, 0, none⟩ 1 1 ys rfl (by rw [HY.out]) HN.out HY1.out (by unfold maxLen; omega) (by omega) hbase ?_)
   intro v' w5 hown' hgrow _
   go_wp2
   go_ret
   exact ⟨_, rfl, by rw [HALL.out]; exact hown', hgrow⟩
  ·have HH := hide (show True ∧ w.heap[g]? = some (.cells cur 99 (0, 0)) from ⟨trivial, hg⟩)
   unfold maxLen at hcm
   clear ho hg ht hcs
   have hcap : (cap = i) ∨ ¬ (cap = i) := Classical.em _
   rcases hcap with hcap | hcap
   all_goals
    go_enter Tryz.func153, Tryz.ntmps153
    go_wp2_with (at_builtin; refine wpList_append_own _ rfl _ _ 94 rfl base 99 i0 _ 4 56 Tryz.underlying94 hi0 hz0 hz1 hz2 rfl (by decide) _ _ _ rfl ho' ⟨vb, 0, none⟩ 1 1 ys rfl (by rw [HY.out]) HN.out HY1.out (by unfold maxLen; omega) (by omega) hbase ?_)
    intro v' w5 hown' hgrow _
    go_wp2
    go_ret
    exact ⟨_, rfl, by rw [HALL.out]; exact hown', hgrow⟩
 ·rcases ho.2 with ⟨rfl, rfl⟩ | ⟨g, cap, cur, rfl, hb, hg, hnc, hcm, hcs, ht⟩
  ·omega
  ·have hlt : i < n := by omega
   have hgv : g ≠ vb := fun e => hne (by subst e; rfl)
   have hsz : (Tryz.prog.info? 99).map (·.size) = some 4 := by rw [hi0]; simp [hz1]
   unfold maxLen at hcm
   clear ho
   have hcl : cur.toList.length = cap * 4 := by simpa using hcs
   have hfst : ∀ j u, xs[j]? = some u → cur[j]? = some u := fun j u hu => by
    rw [← ht, List.getElem?_take] at hu
    split at hu
    ·simpa using hu
    ·cases hu
   have hsrc : ∀ (W : World), Blk W g 99 cur → ∀ j u, (xs.drop (i * 4))[j]? = some u → W.cell? ((⟨g, i * 4, none⟩ : Addr).add j) = some u := fun W hW j u hu => by
    rw [Addr.add_lit, hW.cell]
    rw [List.getElem?_drop] at hu
    exact hfst _ _ hu
   have hdl : (xs.drop (i * 4)).length = (n - i) * 4 := by rw [List.length_drop, HLX.out, ← Nat.sub_mul]
   have h1d : ∀ u ∈ xs.drop (i * 4), u.oneCell' = true := fun u hu => HX1.out u (List.mem_of_mem_drop hu)
   have k1 : (0 : Int) ≤ (i : Int) := by omega
   have k2 : (i : Int) ≤ (n : Int) := by omega
   have k3 : ((i : Int) == (n : Int)) = false := by simp; omega
   have k4 : ¬ (cap = i) := by omega
   by_cases hroom : n + 1 ≤ cap
   ·have hcp1 : ∀ ty dc sc, (Builtin.copy_ #[94, 94] ty #[.slice (some ⟨g, (i + 1) * 4, none⟩) (n - i) dc, .slice (some ⟨g, i * 4, none⟩) (n + 1 - i) sc]).run Tryz.prog w.drew = .ok (goInt ((n - i : Nat) : Int)) (w.drew.setRow g (cur.toList.take ((i + 1) * 4) ++ xs.drop (i * 4) ++ cur.toList.drop ((i + 1) * 4 + (xs.drop (i * 4)).length)).toArray) := fun ty dc sc =>
     run_copy_rowK w.drew 94 94 ty 99 4 g ((i + 1) * 4) (n - i) dc ⟨g, i * 4, none⟩ (n + 1 - i) sc cur 99 _ Tryz.underlying94 hsz hg (n - i) (by simp only [Nat.min_def]; split <;> omega) hdl (hsrc w.drew hg) (by rw [hdl, hcs]; omega) h1d
    obtain ⟨c1, hc1⟩ : ∃ c1, c1 = cur.toList.take ((i + 1) * 4) ++ xs.drop (i * 4) ++ cur.toList.drop ((i + 1) * 4 + (xs.drop (i * 4)).length) := ⟨_, rfl⟩
    have l1 := shift_one ht hcl hlt hroom
    have l2 := shift_two ht hcl HY.out hlt hroom hc1
    rw [← hc1] at l1 hcp1
    have hg1 : (w.drew.setRow g c1.toArray).heap[g]? = some (.cells c1.toArray 99 (0, 0)) := setRow_heap w.drew g cur c1.toArray 99 (0, 0) hg
    have hcp2 : ∀ ty dc, (Builtin.copy_ #[94, 94] ty #[.slice (some ⟨g, i * 4, none⟩) (n + 1 - i) dc, .slice (some ⟨vb, 0, none⟩) 1 1]).run Tryz.prog (w.drew.setRow g c1.toArray) = .ok (goInt 1) ((w.drew.setRow g c1.toArray).setRow g (c1.take (i * 4) ++ ys ++ c1.drop (i * 4 + ys.length)).toArray) := fun ty dc =>
     run_copy_rowK _ 94 94 ty 99 4 g (i * 4) (n + 1 - i) dc ⟨vb, 0, none⟩ 1 1 c1.toArray 99 ys Tryz.underlying94 hsz hg1 1 (by simp only [Nat.min_def]; split <;> omega) (by have := HY.out; omega)
      (fun j u hu => (cell_setRow_other w.drew g c1.toArray _ (by rw [Addr.add_lit]; exact fun e => hgv e.symm)).trans (HN.out j u hu)) (by rw [HY.out]; simp only [List.size_toArray]; omega) HY1.out
    have hov : ∀ lb cb, (callFunc 176 #[.slice (some ⟨vb, 0, none⟩) 1 1, .slice (some ⟨g, (i + 1) * 4, none⟩) lb cb]).run Tryz.prog w = .ok (.value (.bool false)) w := fun lb cb => by
     rw [run_callFunc_extern Tryz.func176 (by kernel_rfl) (by kernel_rfl) (by kernel_rfl) (e := Extern.SlicesOverlaps.overlaps #[94, 94] #[4]) (by kernel_rfl),
      Lib.run_overlaps_apart w 94 4 99 Tryz.underlying94 4 (fun w => by simp [Go.sizeOf, typeInfo, hi0, hz1]) ⟨vb, 0, none⟩ ⟨g, (i + 1) * 4, none⟩ 1 1 lb cb (fun e => hgv e.symm) tV 99 _ _ (row_shape HV.out) (row_shape hg) (by rw [hcs]; omega) (row_frozen HV.out _) (row_frozen HV.out _)]
     rfl
    obtain ⟨W2, hW2⟩ : ∃ W2, W2 = (w.drew.setRow g c1.toArray).setRow g (c1.take (i * 4) ++ ys ++ c1.drop (i * 4 + ys.length)).toArray := ⟨_, rfl⟩
    rw [← hW2] at hcp2
    have HO := hide (show W2.ownsRow base 99 4 (.slice (some ⟨g, 0, none⟩) (n + 1) cap) (n + 1) (insAt 4 i xs ys) from
     ⟨by unfold insAt; simp only [List.length_append, List.length_take, hdl, HY.out, HLX.out]; omega, .inr ⟨g, cap, _, rfl, hb, by rw [hW2]; exact setRow_heap _ g c1.toArray _ 99 (0, 0) hg1, hroom, by unfold maxLen; omega, by simpa using l2.1, by simpa using l2.2⟩⟩)
    have HG := hide (show w.grownBy W2 (some g) by rw [hW2]; exact grown_trans (grown_trans (grown_drew w (some g)) (grown_setRow c1.toArray)) (grown_setRow (w := w.drew.setRow g c1.toArray) (c1.take (i * 4) ++ ys ++ c1.drop (i * 4 + ys.length)).toArray))
    clear hW2
    have k5 : (n : Int) + 1 ≤ (cap : Int) := by omega
    have k6 : IntKind.i64.wrap ((i : Int) + 1) = (i : Int) + 1 := IntWalk.i64_in _ (by omega)
    have k7 : (0 : Int) ≤ (i : Int) + 1 := by omega
    have k8 : ((i : Int) + 1).toNat = i + 1 := by omega
    have k9 : (i : Int) + 1 ≤ (n : Int) + 1 := by omega
    have k10 : ¬ (cap = i + 1) := by omega
    have k11 : (i : Int) ≤ (n : Int) + 1 := by omega
    have mixed : Tryz.prog.follows .mixedOrders = true := by kernel_rfl
    clear l1 l2 hc1 hg1 hsrc hfst hdl h1d hg ht hcs hcl
    go_enter Tryz.func153, Tryz.ntmps153
    go_wp2_with (simp only [hov])
    go_region_law_o (refine step_copy_runI rfl _ _ 94 94 rfl _ _ (by simp [Act.eval, Act.put]) (by simp [Act.eval, Act.put]) (hcp1 _ _ _) ?_)
    go_wp2_with (at_builtin; refine wpList_copy_runI _ rfl _ _ 94 94 rfl _ _ rfl rfl (hcp2 _ _) ?_)
    go_ret
    exact ⟨.slice (some ⟨g, 0, none⟩) (n + 1) cap, rfl, HO.out, HG.out⟩
   ·have hgw : g < w.heap.size := (Array.getElem?_eq_some_iff.1 hg).1
    have hvw : vb < w.heap.size := HV.out.lt
    have hcn : cap = n := by omega
    subst hcn
    have hold : (Builtin.firstCells i0.size i (.slice (some ⟨g, 0, none⟩) i cap)).run Tryz.prog w.drew = .ok (xs.take (i * 4)).toArray w.drew := by
     rw [hz1]
     refine run_firstCells_some w.drew 4 i ⟨g, 0, none⟩ i cap (xs.take (i * 4)) (by rw [List.length_take, HLX.out]; omega) (fun j u hu => ?_)
     rw [Addr.add_lit, Nat.zero_add, Blk.cell (w := w.drew) (g := g) hg]
     rw [List.getElem?_take] at hu
     split at hu
     ·exact hfst _ _ hu
     ·cases hu
    have hkk : (cap : Int) + 1 - (i : Int) = ((cap + 1 - i : Nat) : Int) := by omega
    have hik : i + (cap + 1 - i) = cap + 1 := by omega
    have hrz : ∀ ty, (Builtin.append_ #[94, 3] ty #[.slice (some ⟨g, 0, none⟩) i cap, .int .i64 ((cap : Int) + 1 - (i : Int))]).run Tryz.prog w =
      .ok (.slice (some ⟨w.heap.size, 0, none⟩) (cap + 1) (grownCap w (cap + 1) cap 99)) (w.drew.alloc (.cells ((xs.take (i * 4)).toArray ++ Builtin.zeroCells ((.agg #[.string ByteArray.empty, .bool false, .int .i64 0, .slice none 0 0]) : Value).cells (cap + 1 - i) ++ Builtin.zeroCells ((.agg #[.string ByteArray.empty, .bool false, .int .i64 0, .slice none 0 0]) : Value).cells (grownCap w (cap + 1) cap 99 - (cap + 1))) 99)) := fun ty => by
     have h := Lib.run_append_grow_zeros w 94 3 ty 99 i0 _ .i64 .i64 Tryz.underlying94 Tryz.underlying3 hi0 hz0 (some ⟨g, 0, none⟩) i cap (xs.take (i * 4)) hold (cap + 1 - i) (by omega) (by rw [hz1]; decide) (by omega) (by omega) (by rw [hz2]; omega) (by rw [hz2, hik]; exact growslice_fits (by omega) (by omega))
     rw [hik] at h
     rw [hkk]
     exact h
    have hGn : cap + 1 ≤ grownCap w (cap + 1) cap 99 := grownCap_ge w _ _ _
    have hGm := grownCap_le_maxLen w (cap + 1) cap 99 (by unfold maxLen; omega)
    unfold maxLen at hGm
    generalize hGe : grownCap w (cap + 1) cap 99 = G at hrz hGn hGm
    clear hGe
    obtain ⟨ROW, hROW⟩ : ∃ ROW : Array Value, ROW = (xs.take (i * 4)).toArray ++ Builtin.zeroCells ((.agg #[.string ByteArray.empty, .bool false, .int .i64 0, .slice none 0 0]) : Value).cells (cap + 1 - i) ++ Builtin.zeroCells ((.agg #[.string ByteArray.empty, .bool false, .int .i64 0, .slice none 0 0]) : Value).cells (G - (cap + 1)) := ⟨_, rfl⟩
    rw [← hROW] at hrz
    have hrow : ROW.toList = xs.take (i * 4) ++ (Builtin.zeroCells ((.agg #[.string ByteArray.empty, .bool false, .int .i64 0, .slice none 0 0]) : Value).cells (cap + 1 - i)).toList ++ (Builtin.zeroCells ((.agg #[.string ByteArray.empty, .bool false, .int .i64 0, .slice none 0 0]) : Value).cells (G - (cap + 1))).toList := by rw [hROW]; simp
    obtain ⟨r1, hr1⟩ : ∃ r1, r1 = ROW.toList.take (i * 4) ++ ys ++ ROW.toList.drop (i * 4 + ys.length) := ⟨_, rfl⟩
    obtain ⟨q0, q1, q2, q3⟩ := grow_row HLX.out HY.out hlt hGn (by simp [Builtin.zeroCells, Value.cells]) (by simp [Builtin.zeroCells, Value.cells]) hrow hr1
    have hRS : ROW.size = G * 4 := by rw [← Array.length_toList]; exact q0
    obtain ⟨r2, hr2⟩ : ∃ r2, r2 = r1.take ((i + 1) * 4) ++ xs.drop (i * 4) ++ r1.drop ((i + 1) * 4 + (xs.drop (i * 4)).length) := ⟨_, rfl⟩
    rw [← hr2] at q2 q3
    obtain ⟨W1, hW1⟩ : ∃ W1, W1 = w.drew.alloc (.cells ROW 99) := ⟨_, rfl⟩
    rw [← hW1] at hrz
    have hN1 : W1.heap[w.heap.size]? = some (.cells ROW 99 (0, 0)) := by rw [hW1]; exact heap_alloc_new w.drew _
    have hold1 : ∀ b, b < w.heap.size → W1.heap[b]? = w.heap[b]? := fun b hb => by rw [hW1]; exact Below.heap_alloc w.drew _ b hb
    have hHS1 : W1.heap.size = w.heap.size + 1 := by rw [hW1]; simp
    have hGR1 : w.grownBy W1 (some g) := by rw [hW1]; exact grown_trans (grown_drew w (some g)) (World.grownBy_alloc _ _ _)
    have hcpA : ∀ ty dc, (Builtin.copy_ #[94, 94] ty #[.slice (some ⟨w.heap.size, i * 4, none⟩) (cap + 1 - i) dc, .slice (some ⟨vb, 0, none⟩) 1 1]).run Tryz.prog W1 = .ok (goInt 1) (W1.setRow w.heap.size r1.toArray) := fun ty dc => by
     rw [hr1]
     exact run_copy_rowK W1 94 94 ty 99 4 w.heap.size (i * 4) (cap + 1 - i) dc ⟨vb, 0, none⟩ 1 1 ROW 99 ys Tryz.underlying94 hsz hN1 1 (by simp only [Nat.min_def]; split <;> omega) (by have := HY.out; omega)
      (fun j u hu => World.news_of_block ((hold1 vb hvw).trans HV.out) j u (by simpa using hu)) (by rw [HY.out, hRS]; omega) HY1.out
    obtain ⟨W2, hW2⟩ : ∃ W2, W2 = W1.setRow w.heap.size r1.toArray := ⟨_, rfl⟩
    rw [← hW2] at hcpA
    have hN2 : W2.heap[w.heap.size]? = some (.cells r1.toArray 99 (0, 0)) := by rw [hW2]; exact setRow_heap W1 _ _ _ _ _ hN1
    have hold2 : ∀ b, b < w.heap.size → W2.heap[b]? = w.heap[b]? := fun b hb => by rw [hW2, setRow_other _ _ _ _ (by omega)]; exact hold1 b hb
    have hGR2 : w.grownBy W2 (some g) := by
     rw [hW2]
     exact ⟨hGR1.os, hGR1.tape, hGR1.output, by rw [setRow_size]; exact hGR1.size, fun k hk hn => by rw [setRow_other _ _ _ _ (by omega)]; exact hGR1.block k hk hn⟩
    have hcpB : ∀ ty dc sc, (Builtin.copy_ #[94, 94] ty #[.slice (some ⟨w.heap.size, (i + 1) * 4, none⟩) (cap - i) dc, .slice (some ⟨g, i * 4, none⟩) (cap - i) sc]).run Tryz.prog W2.drew = .ok (goInt ((cap - i : Nat) : Int)) (W2.drew.setRow w.heap.size r2.toArray) := fun ty dc sc => by
     rw [hr2]
     exact run_copy_rowK W2.drew 94 94 ty 99 4 w.heap.size ((i + 1) * 4) (cap - i) dc ⟨g, i * 4, none⟩ (cap - i) sc r1.toArray 99 (xs.drop (i * 4)) Tryz.underlying94 hsz hN2 (cap - i) (by simp only [Nat.min_def]; split <;> omega) hdl
      (hsrc W2.drew ((hold2 g hgw).trans hg)) (by rw [hdl]; simp only [List.size_toArray]; omega) h1d
    obtain ⟨W3, hW3⟩ : ∃ W3, W3 = W2.drew.setRow w.heap.size r2.toArray := ⟨_, rfl⟩
    rw [← hW3] at hcpB
    have HO := hide (show W3.ownsRow base 99 4 (.slice (some ⟨w.heap.size, 0, none⟩) (cap + 1) G) (cap + 1) (insAt 4 i xs ys) from
     ⟨by unfold insAt; simp only [List.length_append, List.length_take, hdl, HY.out, HLX.out]; omega, .inr ⟨w.heap.size, G, _, rfl, hbase, by rw [hW3]; exact setRow_heap W2.drew _ _ _ _ _ hN2, hGn, by unfold maxLen; omega, by simpa using q2, by simpa using q3⟩⟩)
    have HG := hide (show w.grownBy W3 (some g) by
     rw [hW3]
     exact ⟨hGR2.os, hGR2.tape, hGR2.output, by rw [setRow_size]; exact hGR2.size, fun k hk hn => by rw [setRow_other _ _ _ _ (by omega)]; exact hGR2.block k hk hn⟩)
    have k5 : (cap : Int) < (cap : Int) + 1 := by omega
    have k6 : IntKind.i64.wrap ((i : Int) + 1) = (i : Int) + 1 := IntWalk.i64_in _ (by omega)
    have k7 : (0 : Int) ≤ (i : Int) + 1 := by omega
    have k8 : ((i : Int) + 1).toNat = i + 1 := by omega
    have k9 : (i : Int) + 1 ≤ (cap : Int) + 1 := by omega
    have k10 : ¬ (G = i + 1) := by omega
    have k11 : (i : Int) ≤ (cap : Int) + 1 := by omega
    have k12 : ¬ (G = i) := by omega
    have mixed : Tryz.prog.follows .mixedOrders = true := by kernel_rfl
    generalize w.heap.size = N at hrz hcpA hcpB HO
    clear hRS hW3 hW2 hW1 hN1 hN2 hold1 hold2 hHS1 hGR1 hGR2 hr1 hr2 q0 q1 q2 q3 hrow hROW hold hkk hik hsrc hfst hdl h1d hg ht hcs hcl
    go_enter Tryz.func153, Tryz.ntmps153
    go_wp2_with (first
     | (at_builtin; refine Lib.wpList_append_run _ rfl _ _ _ _ rfl _ _ rfl rfl _ _ (hrz _) ?_)
     | (at_builtin; refine wpList_copy_runI _ rfl _ _ 94 94 rfl _ _ rfl rfl (hcpA _ _) ?_))
    go_region_law_o (refine step_copy_runI rfl _ _ 94 94 rfl _ _ (by simp [Act.eval, Act.put]) (by simp [Act.eval, Act.put]) (hcpB _ _ _) ?_)
    go_wp2
    go_ret
    exact ⟨.slice (some ⟨N, 0, none⟩) (cap + 1) G, rfl, HO.out, HG.out⟩


set_option maxHeartbeats 4000000 in
set_option maxRecDepth 100000 in
theorem delRef_any (base i n : Nat) (v : Value) (xs : List Value) (w : World) (ho : w.ownsRow base 99 4 v n xs) (hi : i < n) (hx1 : ∀ u ∈ xs, u.oneCell' = true) (hn : n ≤ 4194304) :
  Calls Tryz.prog 154 #[v, .int .i64 i, .int .i64 ((i : Int) + 1)] w fun e w' => ∃ v', e = .returned v' ∧ w'.ownsRow base 99 4 v' (n - 1) (delAt 4 i xs) ∧ w.grownBy w' v.ownBlock := by
 obtain ⟨i0, hi0, hz0, hz1, hz2⟩ := info_parts infoC_Ref
 have hlx := ho.1
 rcases ho.2 with ⟨rfl, rfl⟩ | ⟨g, cap, cur, rfl, hb, hg, hnc, hcm, hcs, ht⟩
 ·omega
 unfold maxLen at hcm
 have hcl : cur.toList.length = cap * 4 := by simpa using hcs
 have hfst : ∀ j u, xs[j]? = some u → cur[j]? = some u := fun j u hu => by
  rw [← ht, List.getElem?_take] at hu
  split at hu
  ·simpa using hu
  ·cases hu
 have hsrc : ∀ j u, (xs.drop ((i + 1) * 4))[j]? = some u → w.cell? ((⟨g, (i + 1) * 4, none⟩ : Addr).add j) = some u := fun j u hu => by
  rw [Addr.add_lit, Blk.cell (w := w) (g := g) hg]
  rw [List.getElem?_drop] at hu
  exact hfst _ _ hu
 have hdl : (xs.drop ((i + 1) * 4)).length = (n - (i + 1)) * 4 := by rw [List.length_drop, hlx, ← Nat.sub_mul]
 have h1d : ∀ u ∈ xs.drop ((i + 1) * 4), u.oneCell' = true := fun u hu => hx1 u (List.mem_of_mem_drop hu)
 have hap : ∀ ty sc, (Builtin.append_ #[94, 94] ty #[.slice (some ⟨g, 0, none⟩) i cap, .slice (some ⟨g, (i + 1) * 4, none⟩) (n - (i + 1)) sc]).run Tryz.prog w.drew = .ok (.slice (some ⟨g, 0, none⟩) (n - 1) cap) (w.drew.setRow g (cur.toList.take (i * 4) ++ xs.drop ((i + 1) * 4) ++ cur.toList.drop (i * 4 + (xs.drop ((i + 1) * 4)).length)).toArray) := fun ty sc => by
  have h := run_append_room w.drew 94 ty 99 i0 Tryz.underlying94 hi0 g i cap cur hg ⟨g, (i + 1) * 4, none⟩ (n - (i + 1)) sc (xs.drop ((i + 1) * 4)) (by rw [hz1]; exact hdl) (fun j u hu => hsrc j u hu) h1d (by omega) (by rw [hz1, hdl, hcs]; omega)
  rw [hz1, show i + (n - (i + 1)) = n - 1 by omega] at h
  exact h
 have hap' : ∀ ty, cap = i + 1 → (Builtin.append_ #[94, 94] ty #[.slice (some ⟨g, 0, none⟩) i cap, .slice (some ⟨g, 0, none⟩) (n - (i + 1)) 0]).run Tryz.prog w.drew = .ok (.slice (some ⟨g, 0, none⟩) (n - 1) cap) (w.drew.setRow g (cur.toList.take (i * 4) ++ xs.drop ((i + 1) * 4) ++ cur.toList.drop (i * 4 + (xs.drop ((i + 1) * 4)).length)).toArray) := fun ty hci => by
  have hnil : xs.drop ((i + 1) * 4) = [] := List.drop_eq_nil_of_le (by rw [hlx]; omega)
  have h := run_append_room w.drew 94 ty 99 i0 Tryz.underlying94 hi0 g i cap cur hg ⟨g, 0, none⟩ (n - (i + 1)) 0 (xs.drop ((i + 1) * 4)) (by rw [hz1]; exact hdl) (fun j u hu => by rw [hnil] at hu; cases hu) h1d (by omega) (by rw [hz1, hdl, hcs]; omega)
  rw [hz1, show i + (n - (i + 1)) = n - 1 by omega] at h
  exact h
 obtain ⟨c1, hc1⟩ : ∃ c1, c1 = cur.toList.take (i * 4) ++ xs.drop ((i + 1) * 4) ++ cur.toList.drop (i * 4 + (xs.drop ((i + 1) * 4)).length) := ⟨_, rfl⟩
 obtain ⟨q1, q2, q3⟩ := del_row ht hcl hi hnc (z := ([.string ByteArray.empty, .bool false, .int .i64 0, .slice none 0 0] : List Value)) rfl hc1
 rw [← hc1] at hap hap'
 have hg1 : (w.drew.setRow g c1.toArray).heap[g]? = some (.cells c1.toArray 99 (0, 0)) := setRow_heap w.drew g cur c1.toArray 99 (0, 0) hg
 obtain ⟨W1, hW1⟩ : ∃ W1, W1 = w.drew.setRow g c1.toArray := ⟨_, rfl⟩
 rw [← hW1] at hap hap' hg1
 have hcl2 : ∀ ty dc, (Builtin.clear_ #[94] ty #[.slice (some ⟨g, (n - 1) * 4, none⟩) 1 dc]).run Tryz.prog W1 = .ok (.tuple #[]) (W1.setRow g (c1.take ((n - 1) * 4) ++ ([.string ByteArray.empty, .bool false, .int .i64 0, .slice none 0 0] : List Value) ++ c1.drop ((n - 1) * 4 + 1 * 4)).toArray) := fun ty dc =>
  run_clear_row (P := Tryz.prog) W1 94 99 ty (.agg #[.string ByteArray.empty, .bool false, .int .i64 0, .slice none 0 0]) 4 Tryz.underlying94 (fun w => by kernel_rfl) rfl zeroRef_one g ((n - 1) * 4) 1 dc c1.toArray 99 hg1 (by simp only [List.size_toArray]; omega)
 obtain ⟨W2, hW2⟩ : ∃ W2, W2 = W1.setRow g (c1.take ((n - 1) * 4) ++ ([.string ByteArray.empty, .bool false, .int .i64 0, .slice none 0 0] : List Value) ++ c1.drop ((n - 1) * 4 + 1 * 4)).toArray := ⟨_, rfl⟩
 rw [← hW2] at hcl2
 have HO := hide (show W2.ownsRow base 99 4 (.slice (some ⟨g, 0, none⟩) (n - 1) cap) (n - 1) (delAt 4 i xs) from
  ⟨by unfold delAt; simp only [List.length_append, List.length_take, hdl, hlx]; omega, .inr ⟨g, cap, _, rfl, hb, by rw [hW2]; exact setRow_heap W1 g c1.toArray _ 99 (0, 0) hg1, by omega, by unfold maxLen; omega, by simpa using q2, by simpa using q3⟩⟩)
 have HG := hide (show w.grownBy W2 (some g) by rw [hW2, hW1]; exact grown_trans (grown_trans (grown_drew w (some g)) (grown_setRow c1.toArray)) (grown_setRow (w := w.drew.setRow g c1.toArray) _))
 have k1 : (0 : Int) ≤ (i : Int) := by omega
 have k2 : (i : Int) ≤ (n : Int) := by omega
 have k3 : ((i : Int) == (i : Int) + 1) = false := by simp; omega
 have k5 : (i : Int) + 1 ≤ (n : Int) := by omega
 have k6 : (i : Int) ≤ (i : Int) + 1 := by omega
 have k7 : (0 : Int) ≤ (i : Int) + 1 := by omega
 have k8 : ((i : Int) + 1).toNat = i + 1 := by omega
 have k9 : (i : Int) ≤ (cap : Int) := by omega
 have k10 : n ≤ cap := hnc
 have k11 : ¬ (n = i) := by omega
 have k12 : ¬ (cap = n - 1) := by omega
 have k13 : (n : Int) - 1 ≤ (n : Int) := by omega
 have k14 : n - (n - 1) = 1 := by omega
 have k15 : 0 < n := by omega
 have mixed : Tryz.prog.follows .mixedOrders = true := by kernel_rfl
 clear hW1 hW2 q1 q2 q3 hc1 hg1 hsrc hfst hdl h1d hg ht hcs hcl ho hlx hx1
 by_cases hci : cap = i + 1
 ·have hn1 : n = i + 1 := by omega
  subst hn1
  subst hci
  have hap := fun ty => hap' ty rfl
  rw [Nat.add_sub_cancel] at HO hcl2
  simp only [Nat.add_sub_cancel, Nat.sub_self] at hap
  clear hap' k2 k5 k9 k10 k11 k12 k13 k14 k15
  have k9 : (i : Int) ≤ (i : Int) + 1 := by omega
  have k16 : ¬ (i + 1 = i) := by omega
  have k17 : i + 1 - i = 1 := by omega
  go_enter Tryz.func154, Tryz.ntmps154
  go_wp2_with fail
  go_region_law_o (refine step_append_runI rfl _ _ 94 94 rfl _ _ (by simp [Act.eval, Act.put]) (by simp [Act.eval, Act.put]) (hap _) ?_)
  go_wp2
  go_ret
  exact ⟨.slice (some ⟨g, 0, none⟩) i (i + 1), rfl, by rw [Nat.add_sub_cancel]; exact HO.out, HG.out⟩
 ·clear hap'
  go_enter Tryz.func154, Tryz.ntmps154
  go_wp2_with fail
  go_region_law_o (refine step_append_runI rfl _ _ 94 94 rfl _ _ (by simp [Act.eval, Act.put]) (by simp [Act.eval, Act.put]) (hap _ (cap - (i + 1))) ?_)
  go_wp2
  go_ret
  exact ⟨.slice (some ⟨g, 0, none⟩) (n - 1) cap, rfl, HO.out, HG.out⟩

theorem infoC_FileS : (Tryz.prog.info? 36).map (fun i => (i.zero, i.size, i.bytes)) = some (some (.slice none 0 0), 1, 24) := by kernel_rfl

set_option maxHeartbeats 1000000 in
theorem cloneVersions_any {A : Option Addr} {n c : Nat} {l : List (List File)} {fp : List Nat} (w : World) (hx : SlR (Rp.slice Rp.file) w A n c l fp) (hl : l.length ≤ 4194304) (hf : ∀ f ∈ l, f.length ≤ 4194304) :
  Calls Tryz.prog 103 #[.slice A n c] w fun e w' => ∃ v, e = .returned v ∧ OwB (Rp.slice Rp.file) 36 w.heap.size v l w' ∧ Below w.heap.size w w' := by
 obtain ⟨rfl, hcx, hmx, _⟩ := id hx
 obtain ⟨i0, hi, hz0, hz1, hz2⟩ := info_parts infoC_FileS
 have HF := hide hf
 clear hf hcx hmx
 go_enter Tryz.func103, Tryz.ntmps103
 go_wp2
 go_loopw [3, 8] (fun v i wr => ∃ k : Nat, k ≤ l.length ∧ i = .int .i64 k ∧ OwB (Rp.slice Rp.file) 36 w.heap.size v (l.take k) wr ∧ Below w.heap.size w wr) (fun _ i _ => l.length - (intOf i).toNat)
 case atStart => exact ⟨0, Nat.zero_le _, rfl, OwB.nil, Below.refl _ _⟩
 case round =>
  obtain ⟨k, hk, rfl, hown, hbl⟩ := hrel
  have HO := hide hown
  clear hown
  by_cases hlt : k < l.length
  ·obtain ⟨b, o, A', n', c', f, rfl, hb, hm, q0, hs, _⟩ := slice_cells (hx.step hbl) hlt
   have HK := hide (show (l.take k).length = k by simp; omega)
   have HT := hide (List.take_succ_eq_append_getElem hlt)
   have i1 : (k : Int) < (l.length : Int) := by omega
   go_wp2_with fail
   refine (cloneFiles_any _ hs (HF.out _ (List.getElem_mem hlt))).mono ?_
   rintro e w1 hfr
   obtain ⟨A1, c1, f1, rfl, hs1, hn1, hl1, hf1, hb1⟩ := OwnF.sl (k := 2) (enc := encFile) (hk := fun _ => rfl) (h1 := encFile_one) hfr
   obtain ⟨xs, ho, hgrow⟩ := HO.out.grow
   obtain ⟨hoA, hsn⟩ := hgrow (hb1.alloc hb1.size (.cells #[.slice A1 l[k].length c1] 36))
   have HSZ := hide (show (w1.alloc (.cells #[.slice A1 l[k].length c1] 36)).heap.size = w1.heap.size + 1 by simp)
   have hs9 := (hsn (ys := [.slice A1 l[k].length c1]) (y := l[k]) ⟨A1, _, c1, rfl, hs1.allocN _⟩ hn1 hl1 hbl.size (hf1.step ((Below.refl _ _).alloc nle _)) HSZ.out)
   rw [HK.out] at hs9 hoA
   have HS := hide hs9
   have HB1 := hide ((Below.t hbl hb1).alloc (Below.t hbl hb1).size (.cells #[.slice A1 l[k].length c1] 36))
   have HV := hide HO.out.vlow
   clear hs9 ho hsn hgrow hb1 hs1 hn1 hl1 hf1 hfr q0 hs
   go_wp2_with (at_builtin; refine wpList_append_lies _ rfl _ _ 97 rfl 0 36 i0 _ 1 24 Tryz.underlying97 hi hz0 hz1 hz2 rfl (by decide) _ _ _ rfl hoA ⟨w1.heap.size, 0, none⟩ 1 1 [.slice A1 l[k].length c1] rfl rfl (news_alloc w1 _ _) (by intro u hu; simp at hu; subst hu; rfl) (by decide) (by unfold maxLen; omega) (by omega) (Nat.zero_le _) (w1.heap.size + 1) HSZ.out ?_)
   intro g cap w2 ho2 hgr hor hlt2
   have HN := hide (HS.out _ _ _ ho2 hgr hor)
   have HBB := hide (below_grown1 HB1.out hgr HV.out)
   clear ho2 hgr hor hoA
   go_wp2
   exact ⟨⟨k + 1, by omega, by go_num, by rw [HT.out]; exact HN.out, HBB.out⟩, by simp [intOf]; omega⟩
  ·have hk' : k = l.length := by omega
   subst hk'
   have HE := hide (show l.take l.length = l from List.take_of_length_le nle)
   go_wp2
   go_ret
   exact ⟨_, rfl, by have h := HO.out; rw [HE.out] at h; exact h, hbl⟩

set_option maxHeartbeats 2000000 in
set_option maxRecDepth 20000 in
theorem l7CopyRef_any {cs : List Value} {x : Ref} {fx : List Nat} (w : World) (hx : Rp.ref.R w cs x fx) (hl : x.versions.length ≤ 4194304) (hf : ∀ f ∈ x.versions, f.length ≤ 4194304) :
  Calls Tryz.prog 78 #[.agg cs.toArray] w (FreshR Rp.refO w x) := by
 obtain ⟨A0, n0, c0, f0, rfl, _, h0⟩ := hx
 obtain rfl := h0.1
 have hmx := h0.max
 obtain ⟨i0, hi, hz0, hz1, hz2⟩ := info_parts infoC_FileS
 have HF := hide hf
 clear hf
 have k1 := Blk.new w 99 #[.string x.name, .bool x.guard, .int .i64 x.count, .slice A0 x.versions.length c0]
 have k2 := Blk.new (w.alloc (.cells #[.string x.name, .bool x.guard, .int .i64 x.count, .slice A0 x.versions.length c0] 99)) 99 #[.string ⟨#[]⟩, .bool false, .int .i64 0, .slice none 0 0]
 replace k1 := k1.alloc (.cells #[.string ⟨#[]⟩, .bool false, .int .i64 0, .slice none 0 0] 99)
 have HB0 := hide (((Below.refl w.heap.size w).alloc nle (.cells #[.string x.name, .bool x.guard, .int .i64 x.count, .slice A0 x.versions.length c0] 99)).alloc (by simp) (.cells #[.string ⟨#[]⟩, .bool false, .int .i64 0, .slice none 0 0] 99))
 replace h0 := (h0.allocN (.cells #[.string x.name, .bool x.guard, .int .i64 x.count, .slice A0 x.versions.length c0] 99)).allocN (.cells #[.string ⟨#[]⟩, .bool false, .int .i64 0, .slice none 0 0] 99)
 rw [show (w.alloc (.cells #[.string x.name, .bool x.guard, .int .i64 x.count, .slice A0 x.versions.length c0] 99)).heap.size = w.heap.size + 1 by simp] at k2
 have HSZ0 := hide (show ((w.alloc (.cells #[.string x.name, .bool x.guard, .int .i64 x.count, .slice A0 x.versions.length c0] 99)).alloc (.cells #[.string ⟨#[]⟩, .bool false, .int .i64 0, .slice none 0 0] 99)).heap.size = w.heap.size + 1 + 1 by simp)
 go_enter Tryz.func78, Tryz.ntmps78
 go_wp2_with fail
 generalize hW0 : (w.alloc (.cells #[.string x.name, .bool x.guard, .int .i64 x.count, .slice A0 x.versions.length c0] 99)).alloc (.cells #[.string ⟨#[]⟩, .bool false, .int .i64 0, .slice none 0 0] 99) = w0 at k1 k2 HB0 HSZ0 h0 ⊢
 clear hW0
 have HM := hide (show OwB (Rp.slice Rp.file) 36 w0.heap.size (.slice (some ⟨w.heap.size + 1 + 1, 0, none⟩) 0 0) (x.versions.take 0) (w0.alloc (.cells #[] 36)) from by
  have h := World.ownsRow_made (base := 0) (e := 36) (size := 1) w0 #[] 0 (Nat.zero_le _) (by simp [maxLen]) rfl
  rw [HSZ0.out] at h ⊢
  exact ⟨_, ⟨[], [], h, ⟨rfl, rfl⟩, rfl⟩, by simp [vblk, Value.ownBlock], by simp [vblk, Value.ownBlock], ownsRow_free h⟩)
 have HBM := hide ((Below.refl w0.heap.size w0).alloc nle (.cells #[] 36))
 go_loopw [3, 4] (fun v i wr => ∃ k : Nat, k ≤ x.versions.length ∧ i = .int .i64 k ∧ OwB (Rp.slice Rp.file) 36 w0.heap.size v (x.versions.take k) wr ∧ Below w0.heap.size w0 wr) (fun _ i _ => x.versions.length - (intOf i).toNat)
 case atStart => exact ⟨0, Nat.zero_le _, rfl, HM.out, HBM.out⟩
 case round =>
  obtain ⟨k, hk, rfl, hown, hbl⟩ := hrel
  have HO := hide hown
  clear hown HM HBM
  have r1 := k1.step hbl
  have c3 := Blk.c3 r1
  by_cases hlt : k < x.versions.length
  ·obtain ⟨b, o, A', n', c', f, rfl, hb, hm, q0, hs, _⟩ := slice_cells (h0.step hbl) hlt
   have HK := hide (show (x.versions.take k).length = k by simp; omega)
   have HT := hide (List.take_succ_eq_append_getElem hlt)
   have j0 : (0 : Int) ≤ (k : Int) := by omega
   have j1 : (k : Int) < (x.versions.length : Int) := by omega
   go_wp2_with fail
   refine (l4Copy_any _ hs (HF.out _ (List.getElem_mem hlt))).mono ?_
   rintro e w1 hfr
   obtain ⟨A1, c1, f1, rfl, hs1, hn1, hl1, hf1, hb1⟩ := OwnF.sl (k := 2) (enc := encFile) (hk := fun _ => rfl) (h1 := encFile_one) hfr
   obtain ⟨xs, ho, hgrow⟩ := HO.out.grow
   obtain ⟨hoA, hsn⟩ := hgrow (hb1.alloc hb1.size (.cells #[.slice A1 x.versions[k].length c1] 36))
   have HSZ := hide (show (w1.alloc (.cells #[.slice A1 x.versions[k].length c1] 36)).heap.size = w1.heap.size + 1 by simp)
   have hs9 := (hsn (ys := [.slice A1 x.versions[k].length c1]) (y := x.versions[k]) ⟨A1, _, c1, rfl, hs1.allocN _⟩ hn1 hl1 hbl.size (hf1.step ((Below.refl _ _).alloc nle _)) HSZ.out)
   rw [HK.out] at hs9 hoA
   have HS := hide hs9
   have HB1 := hide ((Below.t hbl hb1).alloc (Below.t hbl hb1).size (.cells #[.slice A1 x.versions[k].length c1] 36))
   have HV := hide HO.out.vlow
   clear hs9 ho hsn hgrow hb1 hs1 hn1 hl1 hf1 hfr q0 hs c3 r1 k1 k2
   go_wp2_with (at_builtin; refine wpList_append_lies _ rfl _ _ 97 rfl 0 36 i0 _ 1 24 Tryz.underlying97 hi hz0 hz1 hz2 rfl (by decide) _ _ _ rfl hoA ⟨w1.heap.size, 0, none⟩ 1 1 [.slice A1 x.versions[k].length c1] rfl rfl (news_alloc w1 _ _) (by intro u hu; simp at hu; subst hu; rfl) (by decide) (by unfold maxLen; omega) (by omega) (Nat.zero_le _) (w1.heap.size + 1) HSZ.out ?_)
   intro g cap w2 ho2 hgr hor hlt2
   have HN := hide (HS.out _ _ _ ho2 hgr hor)
   have HBB := hide (below_grown1 HB1.out hgr HV.out)
   clear ho2 hgr hor hoA
   go_wp2
   exact ⟨⟨k + 1, by omega, by go_num, by rw [HT.out]; exact HN.out, HBB.out⟩, by simp [intOf]; omega⟩
  ·have hk' : k = x.versions.length := by omega
   subst hk'
   have HE := hide (show x.versions.take x.versions.length = x.versions from List.take_of_length_le nle)
   have r2 := k2.step hbl
   obtain ⟨Av, cv, rfl, _, _⟩ := HO.out.form
   have c0 := Blk.c0 r1
   have c1 := Blk.c1 r1
   have c2 := Blk.c2 r1
   have d0 := Blk.c0 r2
   have d1 := Blk.c1 r2
   have d2 := Blk.c2 r2
   have d3 := Blk.c3 r2
   have z3 := blk_frozen r1 3
   have y0 := blk_frozen r2 0
   have y1 := blk_frozen r2 1
   have y2 := blk_frozen r2 2
   have y3 := blk_frozen r2 3
   have R := hide (((((r2.far (b := w.heap.size) (j := 3) (by omega) (.slice Av (x.versions.take x.versions.length).length cv)).put 0 (.string x.name)).put 1 (.bool x.guard)).put 2 (.int .i64 x.count)).put 3 (.slice Av (x.versions.take x.versions.length).length cv))
   have RO := hide ((((((Only.refl [w.heap.size, w.heap.size + 1] wr).setCell (p := ⟨w.heap.size, 3, none⟩) (.inl (by simp)) (.slice Av (x.versions.take x.versions.length).length cv)).setCell (p := ⟨w.heap.size + 1, 0, none⟩) (.inl (by simp)) (.string x.name)).setCell (p := ⟨w.heap.size + 1, 1, none⟩) (.inl (by simp)) (.bool x.guard)).setCell (p := ⟨w.heap.size + 1, 2, none⟩) (.inl (by simp)) (.int .i64 x.count)).setCell (p := ⟨w.heap.size + 1, 3, none⟩) (.inl (by simp)) (.slice Av (x.versions.take x.versions.length).length cv))
   rw [HE.out] at R RO HO
   clear r1 r2 k1 k2
   go_wp2_with fail
   have R := R.out
   have RO := RO.out
   generalize ((((wr.setCell ⟨w.heap.size, 3, none⟩ (.slice Av x.versions.length cv)).setCell ⟨w.heap.size + 1, 0, none⟩ (.string x.name)).setCell ⟨w.heap.size + 1, 1, none⟩ (.bool x.guard)).setCell ⟨w.heap.size + 1, 2, none⟩ (.int .i64 x.count)).setCell ⟨w.heap.size + 1, 3, none⟩ (.slice Av x.versions.length cv) = W at R RO ⊢
   have e0 := Blk.c0 R
   have e1 := Blk.c1 R
   have e2 := Blk.c2 R
   have e3 := Blk.c3 R
   obtain ⟨fp, h1, h2, h3, h4⟩ := HO.out.only RO (by have := HSZ0.out; intro b hb; simp at hb; omega)
   refine bodyPost_ret (v := .agg #[.string x.name, .bool x.guard, .int .i64 x.count, .slice Av x.versions.length cv]) (by simp [results, Tryz.results78, go_sem, e0, e1, e2, e3]) rfl ?_
   have hs0 := HSZ0.out
   exact ⟨[.string x.name, .bool x.guard, .int .i64 x.count, .slice Av x.versions.length cv], fp, rfl, ⟨_, rfl, h1⟩, h2, fun b hb => by have := h3 b hb; omega, h4, HB0.out.trans ((hbl.mono (by omega)).trans (RO.below (by intro b hb; simp at hb; omega) (by have := hbl.size; omega)))⟩
set_option maxHeartbeats 4000000 in
set_option maxRecDepth 20000 in
theorem specReqOk_any {cs : List Value} {x : Req} {fx : List Nat} (w : World) (hx : Rp.req.R w cs x fx) (hf : fitReq x) :
  Calls Tryz.prog 32 #[.agg cs.toArray] w fun e w' => e = .returned (.bool (reqOk x)) ∧ Below w.heap.size w w' := by
 obtain ⟨A0, n0, c0, f0, rfl, _, h0⟩ := hx
 have hn := h0.1
 subst hn
 have hmx := h0.max
 have HF := hide hf
 clear hf
 go_enter Tryz.func32, Tryz.ntmps32
 have k0 := Blk.new w 46 #[.int .i64 x.user, .int .i64 x.key, .int .i64 x.repo, .int .i64 x.kind, .string x.ref, .string x.path, .int .i64 x.old, .int .i64 x.back, .slice A0 x.edits.length c0, .int .i64 x.rule.user, .string x.rule.ref, .string x.rule.path, .bool x.rule.write, .int .i64 x.frm, .string x.other]
 have s0 := h0.allocN (.cells #[.int .i64 x.user, .int .i64 x.key, .int .i64 x.repo, .int .i64 x.kind, .string x.ref, .string x.path, .int .i64 x.old, .int .i64 x.back, .slice A0 x.edits.length c0, .int .i64 x.rule.user, .string x.rule.ref, .string x.rule.path, .bool x.rule.write, .int .i64 x.frm, .string x.other] 46)
 have HB0 := (Below.refl w.heap.size w).alloc nle (.cells #[.int .i64 x.user, .int .i64 x.key, .int .i64 x.repo, .int .i64 x.kind, .string x.ref, .string x.path, .int .i64 x.old, .int .i64 x.back, .slice A0 x.edits.length c0, .int .i64 x.rule.user, .string x.rule.ref, .string x.rule.path, .bool x.rule.write, .int .i64 x.frm, .string x.other] 46)
 clear h0
 go_wp2_with fail
 refine (specIn_any _ _ _ _).mono ?_
 rintro e w1 ⟨rfl, hb1⟩
 have k1 := k0.step hb1
 have s1 := s0.step hb1
 have HB1 := HB0.trans (hb1.mono HB0.size)
 clear hb1 k0 s0 HB0
 cases hd : inB x.user 0 99
 ·go_wp2
  go_ret
  exact ⟨ret_bool (by simp [reqOk, hd]), HB1⟩
 ·have H1 := hide hd
  clear hd
  have c1 := Blk.c1 k1
  go_wp2_with fail
  refine (specIn_any _ _ _ _).mono ?_
  rintro e w2 ⟨rfl, hb2⟩
  have k2 := k1.step hb2
  have s2 := s1.step hb2
  have HB2 := Below.t HB1 hb2
  clear hb2 k1 s1 HB1 c1
  cases hd : inB x.key 0 9999
  ·go_wp2
   go_ret
   exact ⟨ret_bool (by simp [reqOk, hd]), HB2⟩
  ·have H2 := hide hd
   clear hd
   have c2 := Blk.c2 k2
   go_wp2_with fail
   refine (specIn_any _ _ _ _).mono ?_
   rintro e w3 ⟨rfl, hb3⟩
   have k3 := k2.step hb3
   have s3 := s2.step hb3
   have HB3 := Below.t HB2 hb3
   clear hb3 k2 s2 HB2 c2
   cases hd : inB x.repo 0 99
   ·go_wp2
    go_ret
    exact ⟨ret_bool (by simp [reqOk, hd]), HB3⟩
   ·have H3 := hide hd
    clear hd
    have c3 := Blk.c3 k3
    go_wp2_with fail
    refine (specIn_any _ _ _ _).mono ?_
    rintro e w4 ⟨rfl, hb4⟩
    have k4 := k3.step hb4
    have s4 := s3.step hb4
    have HB4 := Below.t HB3 hb4
    clear hb4 k3 s3 HB3 c3
    cases hd : inB x.kind 1 11
    ·go_wp2
     go_ret
     exact ⟨ret_bool (by simp [reqOk, hd]), HB4⟩
    ·have H4 := hide hd
     clear hd
     have c8 := Blk.c8 k4
     go_wp2_with fail
     refine (l6Edits_any _ s4 HF.out.edits).mono ?_
     rintro e w5 ⟨rfl, hb5⟩
     have k5 := k4.step hb5
     have s5 := s4.step hb5
     have HB5 := Below.t HB4 hb5
     clear hb5 k4 s4 HB4 c8
     cases hd : (decide (x.edits.length ≤ 4) && !(x.edits.any fun e => !editOk e))
     ·go_wp2
      go_ret
      exact ⟨ret_bool (by unfold reqOk; rw [Bool.and_assoc, hd, Bool.and_false]), HB5⟩
     ·have H5 := hide hd
      clear hd
      have c9 := Blk.c9 k5
      have c10 := Blk.c10 k5
      have c11 := Blk.c11 k5
      have c12 := Blk.c12 k5
      go_wp2_with fail
      refine (specRulOk_any x.rule HF.out.rule _).mono ?_
      rintro e w6 ⟨rfl, hb6⟩
      have k6 := k5.step hb6
      have s6 := s5.step hb6
      have HB6 := Below.t HB5 hb6
      clear hb6 k5 s5 HB5 c9 c10 c11 c12
      cases hd : rulOk x.rule
      ·go_wp2
       go_ret
       exact ⟨ret_bool (by simp [reqOk, hd]), HB6⟩
      ·have H6 := hide hd
       clear hd
       have c4 := Blk.c4 k6
       cases hqref : x.ref.toList.isEmpty
       ·go_wp2_with fail
        refine (specNamOk_any _ HF.out.ref _).mono ?_
        rintro e w7 ⟨rfl, hb7⟩
        rw [isEmpty_eq] at hqref
        have Qref := hide hqref
        have k7 := k6.step hb7
        have s7 := s6.step hb7
        have HB7 := Below.t HB6 hb7
        clear hb7 k6 s6 HB6 c4 hqref
        cases hd : namOk x.ref
        ·go_wp2
         go_ret
         exact ⟨ret_bool (by simp [reqOk, refFits, Qref.out, hd]), HB7⟩
        ·have Nref := hide (show refFits x.ref = true by simp [refFits, hd])
         clear hd
         have c5 := Blk.c5 k7
         go_wp2_with fail
         refine (specPthOk_any _ HF.out.path _).mono ?_
         rintro e w8 ⟨rfl, hb8⟩
         have k8 := k7.step hb8
         have s8 := s7.step hb8
         have HB8 := Below.t HB7 hb8
         clear hb8 k7 s7 HB7 c5
         cases hd : pthOk x.path
         ·go_wp2
          go_ret
          exact ⟨ret_bool (by simp [reqOk, hd]), HB8⟩
         ·have H8 := hide hd
          clear hd
          have c6 := Blk.c6 k8
          go_wp2_with fail
          refine (specIn_any _ _ _ _).mono ?_
          rintro e w9 ⟨rfl, hb9⟩
          have k9 := k8.step hb9
          have s9 := s8.step hb9
          have HB9 := Below.t HB8 hb9
          clear hb9 k8 s8 HB8 c6
          cases hd : inB x.old 0 99
          ·go_wp2
           go_ret
           exact ⟨ret_bool (by simp [reqOk, hd]), HB9⟩
          ·have H9 := hide hd
           clear hd
           have c7 := Blk.c7 k9
           go_wp2_with fail
           refine (specIn_any _ _ _ _).mono ?_
           rintro e w10 ⟨rfl, hb10⟩
           have k10 := k9.step hb10
           have s10 := s9.step hb10
           have HB10 := Below.t HB9 hb10
           clear hb10 k9 s9 HB9 c7
           cases hd : inB x.back 0 99
           ·go_wp2
            go_ret
            exact ⟨ret_bool (by simp [reqOk, hd]), HB10⟩
           ·have H10 := hide hd
            clear hd
            have c13 := Blk.c13 k10
            go_wp2_with fail
            refine (specIn_any _ _ _ _).mono ?_
            rintro e w11 ⟨rfl, hb11⟩
            have k11 := k10.step hb11
            have s11 := s10.step hb11
            have HB11 := Below.t HB10 hb11
            clear hb11 k10 s10 HB10 c13
            cases hd : inB x.frm 0 99
            ·go_wp2
             go_ret
             exact ⟨ret_bool (by simp [reqOk, hd]), HB11⟩
            ·have H11 := hide hd
             clear hd
             have c14 := Blk.c14 k11
             cases hqother : x.other.toList.isEmpty
             ·go_wp2_with fail
              refine (specNamOk_any _ HF.out.other _).mono ?_
              rintro e w12 ⟨rfl, hb12⟩
              rw [isEmpty_eq] at hqother
              have Qother := hide hqother
              have k12 := k11.step hb12
              have s12 := s11.step hb12
              have HB12 := Below.t HB11 hb12
              clear hb12 k11 s11 HB11 c14 hqother
              cases hd : namOk x.other
              ·go_wp2
               go_ret
               exact ⟨ret_bool (by simp [reqOk, refFits, Qother.out, hd]), HB12⟩
              ·have Nother := hide (show refFits x.other = true by simp [refFits, hd])
               clear hd
               go_wp2
               go_ret
               exact ⟨ret_bool (by unfold reqOk; rw [Bool.and_assoc]; simp only [H1.out, H2.out, H3.out, H4.out, H5.out, H6.out, Nref.out, H8.out, H9.out, H10.out, H11.out, Nother.out, Bool.and_true, Bool.true_and]), HB12⟩
             ·have Nother := hide (show refFits x.other = true by rw [isEmpty_eq] at hqother; simp [refFits, hqother])
              go_wp2
              go_ret
              exact ⟨ret_bool (by unfold reqOk; rw [Bool.and_assoc]; simp only [H1.out, H2.out, H3.out, H4.out, H5.out, H6.out, Nref.out, H8.out, H9.out, H10.out, H11.out, Nother.out, Bool.and_true, Bool.true_and]), HB11⟩
       ·have Nref := hide (show refFits x.ref = true by rw [isEmpty_eq] at hqref; simp [refFits, hqref])
        have c5 := Blk.c5 k6
        go_wp2_with fail
        refine (specPthOk_any _ HF.out.path _).mono ?_
        rintro e w7 ⟨rfl, hb7⟩
        have k7 := k6.step hb7
        have s7 := s6.step hb7
        have HB7 := Below.t HB6 hb7
        clear hb7 k6 s6 HB6 c5
        cases hd : pthOk x.path
        ·go_wp2
         go_ret
         exact ⟨ret_bool (by simp [reqOk, hd]), HB7⟩
        ·have H8 := hide hd
         clear hd
         have c6 := Blk.c6 k7
         go_wp2_with fail
         refine (specIn_any _ _ _ _).mono ?_
         rintro e w8 ⟨rfl, hb8⟩
         have k8 := k7.step hb8
         have s8 := s7.step hb8
         have HB8 := Below.t HB7 hb8
         clear hb8 k7 s7 HB7 c6
         cases hd : inB x.old 0 99
         ·go_wp2
          go_ret
          exact ⟨ret_bool (by simp [reqOk, hd]), HB8⟩
         ·have H9 := hide hd
          clear hd
          have c7 := Blk.c7 k8
          go_wp2_with fail
          refine (specIn_any _ _ _ _).mono ?_
          rintro e w9 ⟨rfl, hb9⟩
          have k9 := k8.step hb9
          have s9 := s8.step hb9
          have HB9 := Below.t HB8 hb9
          clear hb9 k8 s8 HB8 c7
          cases hd : inB x.back 0 99
          ·go_wp2
           go_ret
           exact ⟨ret_bool (by simp [reqOk, hd]), HB9⟩
          ·have H10 := hide hd
           clear hd
           have c13 := Blk.c13 k9
           go_wp2_with fail
           refine (specIn_any _ _ _ _).mono ?_
           rintro e w10 ⟨rfl, hb10⟩
           have k10 := k9.step hb10
           have s10 := s9.step hb10
           have HB10 := Below.t HB9 hb10
           clear hb10 k9 s9 HB9 c13
           cases hd : inB x.frm 0 99
           ·go_wp2
            go_ret
            exact ⟨ret_bool (by simp [reqOk, hd]), HB10⟩
           ·have H11 := hide hd
            clear hd
            have c14 := Blk.c14 k10
            cases hqother : x.other.toList.isEmpty
            ·go_wp2_with fail
             refine (specNamOk_any _ HF.out.other _).mono ?_
             rintro e w11 ⟨rfl, hb11⟩
             rw [isEmpty_eq] at hqother
             have Qother := hide hqother
             have k11 := k10.step hb11
             have s11 := s10.step hb11
             have HB11 := Below.t HB10 hb11
             clear hb11 k10 s10 HB10 c14 hqother
             cases hd : namOk x.other
             ·go_wp2
              go_ret
              exact ⟨ret_bool (by simp [reqOk, refFits, Qother.out, hd]), HB11⟩
             ·have Nother := hide (show refFits x.other = true by simp [refFits, hd])
              clear hd
              go_wp2
              go_ret
              exact ⟨ret_bool (by unfold reqOk; rw [Bool.and_assoc]; simp only [H1.out, H2.out, H3.out, H4.out, H5.out, H6.out, Nref.out, H8.out, H9.out, H10.out, H11.out, Nother.out, Bool.and_true, Bool.true_and]), HB11⟩
            ·have Nother := hide (show refFits x.other = true by rw [isEmpty_eq] at hqother; simp [refFits, hqother])
             go_wp2
             go_ret
             exact ⟨ret_bool (by unfold reqOk; rw [Bool.and_assoc]; simp only [H1.out, H2.out, H3.out, H4.out, H5.out, H6.out, Nref.out, H8.out, H9.out, H10.out, H11.out, Nother.out, Bool.and_true, Bool.true_and]), HB10⟩
end Go.Proofs.YtnogkkcmcnhodaaGreatDoor
