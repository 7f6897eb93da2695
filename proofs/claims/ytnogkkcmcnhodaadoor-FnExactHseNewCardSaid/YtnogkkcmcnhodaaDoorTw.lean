/- Walks: trees that are ok; of the reference and of the program. By program (wip/gen/gen_tree.py). -/
import Derived.Test.YtnogkkcmcnhodaaDoorTo
import Derived.Test.YtnogkkcmcnhodaaDoorQ
namespace Go.Proofs.YtnogkkcmcnhodaaDoor
open Go.RowKit
attribute [local go_sem ↓] Go.wp_at_zero Go.wp_at_succ

def fitFiles (l : List File) : Prop := ∀ i (h : i < l.length), l[i].path.size ≤ 4194304
theorem treA_fst {l : List File} {k : Nat} (h : k < l.length) (h0 : k = 0) : treA l k = fileOk l[k] := by
  subst h0
  exact treA_zero h
theorem treA_snd {l : List File} {k j : Nat} (h : k < l.length) (h' : j < l.length) (hj : k = j + 1) : treA l k = (fileOk l[k] && bLt l[j].path l[k].path) := by
  subst hj
  exact treA_succ h
theorem treB_snd {l : List File} {k j : Nat} (h : k < l.length) (h' : j < l.length) (hj : k = j + 1) : treB l k = !pthUnder l[j].path l[k].path := by
  subst hj
  exact treB_succ h
theorem leq_false {a b : ByteArray} (h : Op.bytesLess a.toList b.toList = true) : Op.bytesLess b.toList a.toList = false ∧ (b.toList == a.toList) = false := by
  refine ⟨bLt_asymm (a := a) (b := b) h, ?_⟩
  rw [beq_toListBytes']
  exact decide_eq_false fun e => bLt_ne (a := a) (b := b) h e.symm
theorem leq_true {a b : ByteArray} (h : Op.bytesLess a.toList b.toList = false) : (Op.bytesLess b.toList a.toList || (b.toList == a.toList)) = true := by
  rw [beq_toListBytes']
  by_cases e : b = a
  · rw [decide_eq_true e, Bool.or_true]
  · rw [show Op.bytesLess b.toList a.toList = true from bLt_tri (a := a) (b := b) h fun e' => e e'.symm]; rfl

set_option maxHeartbeats 4000000 in
set_option maxRecDepth 20000 in
theorem specTreOk_any {A : Option Addr} {n c : Nat} {l : List File} {fp : List Nat} (w : World) (hx : SlR Rp.file w A n c l fp) (hf : fitFiles l) :
    Calls Tryd.prog 88 #[.slice A n c] w fun e w' => e = .returned (.bool (treOk l)) ∧ Below w.heap.size w w' := by
  obtain ⟨rfl, hcx, hmx, _⟩ := id hx
  unfold maxLen at hmx
  have HF := hide hf
  clear hf
  go_enter Tryd.func88, Tryd.ntmps88
  by_cases h60 : l.length ≤ 60
  · go_wp2
    go_loopw [3] (fun i wr => ∃ k : Nat, k ≤ l.length ∧ i = .int .i64 k ∧ oksTo (treA l) k ∧ Below w.heap.size w wr) (fun i _ => l.length - (intOf i).toNat)
    case atStart => exact ⟨0, Nat.zero_le _, rfl, oksTo_zero, Below.refl _ _⟩
    case round =>
      obtain ⟨k, hk, rfl, hag, hbl⟩ := hrel
      have HA := hide hag
      clear hag
      by_cases hlt : k < l.length
      · obtain ⟨b, o, rfl, hb, hm, h0, h1⟩ := file_cells (hx.step hbl) hlt
        have HG := hide (HF.out k hlt)
        have HNO := hide (fun (h : treA l k = false) => (show treOk l = false by rw [treOk_two, oksTo.not_ hlt h]; simp))
        have HYES := hide (fun (h : treA l k = true) => HA.out.next h)
        have H0 := hide (fun (h : k = 0) => treA_fst hlt h)
        have H1 := hide (fun (j : Nat) (hj : j < l.length) (h : k = j + 1) => treA_snd hlt hj h)
        have HNF := hide (fun (h : fileOk l[k] = false) => (show treA l k = false by unfold treA; rw [atB_eq hlt, h]; rfl))
        have i0 : (0 : Int) ≤ (k : Int) := by omega
        have i1 : (k : Int) < (l.length : Int) := by omega
        have C1 := specPthOk_any l[k].path HG.out
        have HQ := hide (isEmpty_eq l[k].path)
        cases hp : l[k].path.toList.isEmpty
        · have HP := hide (HQ.out.symm.trans hp)
          cases hd : pthOk l[k].path
          · simp only [hd] at C1
            have D1 := hide C1
            have HR := hide (HNO.out (HNF.out (show fileOk l[k] = false by unfold fileOk; rw [hd]; rfl)))
            clear C1 hd
            go_wp2_with fail
            have n0 := BelowW.nonempty wr
            have e0 := BelowW.ex (w := wr)
            have g_h0 := fun n : BelowW wr => n.cell h0
            have g_h1 := fun n : BelowW wr => n.cell h1
            clear h0 h1
            refine wp_region_below (by kernel_rfl) (by kernel_rfl) ?_
            repeat (go_big_quiet_step (first | (go_at_call 105; exact BelowW.calls _ (D1.out _))))
            refine wpQuiet_nil ?_
            rintro _ ⟨⟨w1, hb1⟩, rfl⟩
            have HB := hide (Below.then_ hbl hb1)
            clear hb1 e0 g_h0 g_h1
            go_wp2
            go_ret
            exact ⟨ret_bool (HR.out).symm, HB.out⟩
          · simp only [hd] at C1
            have D1 := hide C1
            have HD := hide hd
            clear C1 hd
            by_cases hs : l[k].bytes.size ≤ 6
            · have HFO := hide (show fileOk l[k] = true by unfold fileOk; rw [HD.out, HP.out, decide_eq_true hs]; rfl)
              have hs1 : decide ((6 : Int) < (l[k].bytes.size : Int)) = false := decide_eq_false (by omega)
              clear hs
              rcases Nat.eq_zero_or_pos k with hk0 | hk0
              · skip
                have hz : decide (0 < k) = false := decide_eq_false (by omega)
                have HR := hide (HYES.out ((H0.out hk0).trans HFO.out))
                clear hk0
                go_wp2_with fail
                have n0 := BelowW.nonempty wr
                have e0 := BelowW.ex (w := wr)
                have g_h0 := fun n : BelowW wr => n.cell h0
                have g_h1 := fun n : BelowW wr => n.cell h1
                clear h0 h1
                refine wp_region_below (by kernel_rfl) (by kernel_rfl) ?_
                repeat (go_big_quiet_step (first | (go_at_call 105; exact BelowW.calls _ (D1.out _))))
                refine wpQuiet_nil ?_
                rintro _ ⟨⟨w1, hb1⟩, rfl⟩
                have HB := hide (Below.then_ hbl hb1)
                clear hb1 e0 g_h0 g_h1
                go_wp2
                exact ⟨⟨k + 1, by omega, by go_num, HR.out, HB.out⟩, by simp [intOf]; omega⟩
              · obtain ⟨j, hk0⟩ : ∃ j, k = j + 1 := ⟨k - 1, by omega⟩
                have hz : decide (0 < k) = true := decide_eq_true (by omega)
                have hj : j < l.length := by omega
                have HE := hide (H1.out j hj hk0)
                obtain ⟨b', o', he, hb', hm', p0, p1⟩ := file_cells (hx.step hbl) hj
                cases he
                have e1 : (k : Int) - 1 = (j : Int) := by omega
                have e2 : IntKind.i64.wrap (j : Int) = (j : Int) := IntWalk.i64_in _ (by omega)
                have j0 : (0 : Int) ≤ (j : Int) := by omega
                have j1 : (j : Int) < (l.length : Int) := by omega
                clear hk0
                cases hc : Op.bytesLess l[j].path.toList l[k].path.toList
                · have HR := hide (HNO.out (HE.out.trans (by rw [show bLt l[j].path l[k].path = false from hc, Bool.and_false])))
                  go_wp2_with fail
                  have n0 := BelowW.nonempty wr
                  have e0 := BelowW.ex (w := wr)
                  have g_h0 := fun n : BelowW wr => n.cell h0
                  have g_h1 := fun n : BelowW wr => n.cell h1
                  have g_p0 := fun n : BelowW wr => n.cell p0
                  clear h0 h1 p0
                  refine wp_region_below (by kernel_rfl) (by kernel_rfl) ?_
                  repeat (go_big_quiet_step (first | (go_at_call 105; exact BelowW.calls _ (D1.out _))))
                  refine wpQuiet_nil ?_
                  rintro _ ⟨⟨w1, hb1⟩, rfl⟩
                  have HB := hide (Below.then_ hbl hb1)
                  clear hb1 e0 g_h0 g_h1 g_p0
                  go_wp2
                  go_ret
                  exact ⟨ret_bool (HR.out).symm, HB.out⟩
                · have HR := hide (HYES.out (HE.out.trans (by rw [show bLt l[j].path l[k].path = true from hc, HFO.out]; rfl)))
                  go_wp2_with fail
                  have n0 := BelowW.nonempty wr
                  have e0 := BelowW.ex (w := wr)
                  have g_h0 := fun n : BelowW wr => n.cell h0
                  have g_h1 := fun n : BelowW wr => n.cell h1
                  have g_p0 := fun n : BelowW wr => n.cell p0
                  clear h0 h1 p0
                  refine wp_region_below (by kernel_rfl) (by kernel_rfl) ?_
                  repeat (go_big_quiet_step (first | (go_at_call 105; exact BelowW.calls _ (D1.out _))))
                  refine wpQuiet_nil ?_
                  rintro _ ⟨⟨w1, hb1⟩, rfl⟩
                  have HB := hide (Below.then_ hbl hb1)
                  clear hb1 e0 g_h0 g_h1 g_p0
                  go_wp2
                  exact ⟨⟨k + 1, by omega, by go_num, HR.out, HB.out⟩, by simp [intOf]; omega⟩
            · have HR := hide (HNO.out (HNF.out (show fileOk l[k] = false by unfold fileOk; rw [decide_eq_false hs, Bool.and_false])))
              have hs1 : decide ((6 : Int) < (l[k].bytes.size : Int)) = true := decide_eq_true (by omega)
              clear hs
              go_wp2_with fail
              have n0 := BelowW.nonempty wr
              have e0 := BelowW.ex (w := wr)
              have g_h0 := fun n : BelowW wr => n.cell h0
              have g_h1 := fun n : BelowW wr => n.cell h1
              clear h0 h1
              refine wp_region_below (by kernel_rfl) (by kernel_rfl) ?_
              repeat (go_big_quiet_step (first | (go_at_call 105; exact BelowW.calls _ (D1.out _))))
              refine wpQuiet_nil ?_
              rintro _ ⟨⟨w1, hb1⟩, rfl⟩
              have HB := hide (Below.then_ hbl hb1)
              clear hb1 e0 g_h0 g_h1
              go_wp2
              go_ret
              exact ⟨ret_bool (HR.out).symm, HB.out⟩
        · have HR := hide (HNO.out (HNF.out (show fileOk l[k] = false by unfold fileOk; rw [show decide (l[k].path = ByteArray.empty) = true from HQ.out.symm.trans hp]; simp)))
          clear C1
          go_wp2_with fail
          have n0 := BelowW.nonempty wr
          have e0 := BelowW.ex (w := wr)
          have g_h0 := fun n : BelowW wr => n.cell h0
          have g_h1 := fun n : BelowW wr => n.cell h1
          clear h0 h1
          refine wp_region_below (by kernel_rfl) (by kernel_rfl) ?_
          repeat (go_big_quiet_step (first | (go_at_call 105; exact BelowW.calls _ (specPthOk_any _ HG.out _))))
          refine wpQuiet_nil ?_
          rintro _ ⟨⟨w1, hb1⟩, rfl⟩
          have HB := hide (Below.then_ hbl hb1)
          clear hb1 e0 g_h0 g_h1
          go_wp2
          go_ret
          exact ⟨ret_bool (HR.out).symm, HB.out⟩
      · have hk' : k = l.length := by omega
        subst hk'
        have HT := hide (treOk_two l)
        have HAA := hide HA.out.all_
        have hbl0 := hbl
        go_wp2
        go_loopw [4] (fun i wr => ∃ k : Nat, k ≤ l.length + 1 ∧ 1 ≤ k ∧ i = .int .i64 k ∧ oksTo (treB l) k ∧ Below w.heap.size w wr) (fun i _ => l.length + 1 - (intOf i).toNat)
        case atStart => exact ⟨1, by omega, by omega, rfl, oksTo_zero.next rfl, hbl0⟩
        case round =>
          obtain ⟨k, hk, hk1, rfl, hag, hbl⟩ := hrel
          have HA := hide hag
          clear hag
          by_cases hlt : k < l.length
          · obtain ⟨j, hkj⟩ : ∃ j, k = j + 1 := ⟨k - 1, by omega⟩
            have hj : j < l.length := by omega
            have HE := hide (treB_snd hlt hj hkj)
            obtain ⟨b, o, rfl, hb, hm, h0, h1⟩ := file_cells (hx.step hbl) hlt
            obtain ⟨b', o', he, hb', hm', p0, p1⟩ := file_cells (hx.step hbl) hj
            cases he
            have HNO := hide (fun (h : treB l k = false) => (show treOk l = false by rw [HT.out, oksTo.not_ hlt h]; simp))
            have HYES := hide (fun (h : treB l k = true) => HA.out.next h)
            have i0 : (0 : Int) ≤ (k : Int) := by omega
            have i1 : (k : Int) < (l.length : Int) := by omega
            have e1 : (k : Int) - 1 = (j : Int) := by omega
            have e2 : IntKind.i64.wrap (j : Int) = (j : Int) := IntWalk.i64_in _ (by omega)
            have j0 : (0 : Int) ≤ (j : Int) := by omega
            have j1 : (j : Int) < (l.length : Int) := by omega
            have C1 := specPthUnder_any l[j].path l[k].path (HF.out j hj) (HF.out k hlt)
            clear hkj
            cases hd : pthUnder l[j].path l[k].path
            · have HR := hide (HYES.out (HE.out.trans (by rw [hd]; rfl)))
              simp only [hd] at C1
              have D1 := hide C1
              clear C1 hd
              go_wp2_with fail
              have n0 := BelowW.nonempty wr
              have e0 := BelowW.ex (w := wr)
              have g_h0 := fun n : BelowW wr => n.cell h0
              have g_p0 := fun n : BelowW wr => n.cell p0
              clear h0 p0
              refine wp_region_below (by kernel_rfl) (by kernel_rfl) ?_
              repeat (go_big_quiet_step (first | (go_at_call 106; exact BelowW.calls _ (D1.out _))))
              refine wpQuiet_nil ?_
              rintro _ ⟨⟨w1, hb1⟩, rfl⟩
              have HB := hide (Below.then_ hbl hb1)
              clear hb1 e0 g_h0 g_p0
              go_wp2
              exact ⟨⟨k + 1, by omega, by omega, by go_num, HR.out, HB.out⟩, by simp [intOf]; omega⟩
            · have HR := hide (HNO.out (HE.out.trans (by rw [hd]; rfl)))
              simp only [hd] at C1
              have D1 := hide C1
              clear C1 hd
              go_wp2_with fail
              have n0 := BelowW.nonempty wr
              have e0 := BelowW.ex (w := wr)
              have g_h0 := fun n : BelowW wr => n.cell h0
              have g_p0 := fun n : BelowW wr => n.cell p0
              clear h0 p0
              refine wp_region_below (by kernel_rfl) (by kernel_rfl) ?_
              repeat (go_big_quiet_step (first | (go_at_call 106; exact BelowW.calls _ (D1.out _))))
              refine wpQuiet_nil ?_
              rintro _ ⟨⟨w1, hb1⟩, rfl⟩
              have HB := hide (Below.then_ hbl hb1)
              clear hb1 e0 g_h0 g_p0
              go_wp2
              go_ret
              exact ⟨ret_bool (HR.out).symm, HB.out⟩
          · have HR := hide (show treOk l = true by rw [HT.out, HAA.out, decide_eq_true h60, allN_iff.2 (fun i hi => HA.out i (by omega))]; rfl)
            go_wp2
            go_ret
            exact ⟨ret_bool HR.out.symm, hbl⟩
  · have HR := hide (show treOk l = false by rw [treOk_two, decide_eq_false h60]; rfl)
    go_wp2
    go_ret
    exact ⟨ret_bool HR.out.symm, Below.refl _ _⟩

set_option maxHeartbeats 4000000 in
set_option maxRecDepth 20000 in
theorem implTreOk_any {A : Option Addr} {n c : Nat} {l : List File} {fp : List Nat} (w : World) (hx : SlR Rp.file w A n c l fp) (hf : fitFiles l) :
    Calls Tryd.prog 37 #[.slice A n c] w fun e w' => e = .returned (.bool (treOk l)) ∧ Below w.heap.size w w' := by
  obtain ⟨rfl, hcx, hmx, _⟩ := id hx
  unfold maxLen at hmx
  have HF := hide hf
  clear hf
  go_enter Tryd.func37, Tryd.ntmps37
  by_cases h60 : l.length ≤ 60
  · go_wp2
    go_loopw [12] (fun i wr => ∃ k : Nat, k ≤ l.length ∧ i = .int .i64 k ∧ oksTo (fun i => treA l i && treC l i) k ∧ Below w.heap.size w wr) (fun i _ => l.length - (intOf i).toNat)
    case atStart => exact ⟨0, Nat.zero_le _, rfl, oksTo_zero, Below.refl _ _⟩
    case round =>
      obtain ⟨k, hk, rfl, hag, hbl⟩ := hrel
      have HA := hide hag
      clear hag
      by_cases hlt : k < l.length
      · obtain ⟨b, o, rfl, hb, hm, h0, h1⟩ := file_cells (hx.step hbl) hlt
        have HG := hide (HF.out k hlt)
        have HNO := hide (fun (h : treA l k = false) => (show treOk l = false by rw [treOk_one, oksTo.not_ hlt (by rw [h, Bool.false_and])]; simp))
        have H0 := hide (fun (h : k = 0) => treA_fst hlt h)
        have H1 := hide (fun (j : Nat) (hj : j < l.length) (h : k = j + 1) => treA_snd hlt hj h)
        have HNF := hide (fun (h : fileOk l[k] = false) => (show treA l k = false by unfold treA; rw [atB_eq hlt, h]; rfl))
        have i0 : (0 : Int) ≤ (k : Int) := by omega
        have i1 : (k : Int) < (l.length : Int) := by omega
        have C1 := implPthOk_any l[k].path HG.out
        have HQ := hide (isEmpty_eq l[k].path)
        have kb := Blk.new wr 92 #[.string l[k].path, .string l[k].bytes]
        have hbl' := hbl.alloc hbl.size (.cells #[.string l[k].path, .string l[k].bytes] 92)
        go_wp2_with fail
        clear h0 h1
        generalize hwx : wr.alloc (.cells #[.string l[k].path, .string l[k].bytes] 92) = wx at kb hbl' ⊢
        clear hwx
        have h0 : wx.cell? ⟨wr.heap.size, 0, none⟩ = some (.string l[k].path) := kb.cell 0
        have h1 : wx.cell? ⟨wr.heap.size, 1, none⟩ = some (.string l[k].bytes) := kb.cell 1
        cases hd : pthOk l[k].path
        · simp only [hd] at C1
          have D1 := hide C1
          have HR := hide (HNO.out (HNF.out (show fileOk l[k] = false by unfold fileOk; rw [hd]; rfl)))
          clear C1 hd
          have n0 := BelowW.nonempty wx
          have e0 := BelowW.ex (w := wx)
          have g_h0 := fun n : BelowW wx => n.cell h0
          have g_h1 := fun n : BelowW wx => n.cell h1
          clear h0 h1
          refine wp_region_below (by kernel_rfl) (by kernel_rfl) ?_
          repeat (go_big_quiet_step (first | (go_at_call 64; exact BelowW.calls _ (D1.out _))))
          refine wpQuiet_nil ?_
          rintro _ ⟨⟨w1, hb1⟩, rfl⟩
          have HB := hide (Below.then_ hbl' hb1)
          have HK := hide (kb.step hb1)
          clear kb hb1 e0 g_h0 g_h1
          go_wp2
          go_ret
          exact ⟨ret_bool (HR.out).symm, HB.out⟩
        · simp only [hd] at C1
          have D1 := hide C1
          have HD := hide hd
          clear C1 hd
          cases hp : l[k].path.toList.isEmpty
          · have HP := hide (HQ.out.symm.trans hp)
            by_cases hs : l[k].bytes.size ≤ 6
            · have HFO := hide (show fileOk l[k] = true by unfold fileOk; rw [HD.out, HP.out, decide_eq_true hs]; rfl)
              have hs1 : decide ((6 : Int) < (l[k].bytes.size : Int)) = false := decide_eq_false (by omega)
              clear hs
              rcases Nat.eq_zero_or_pos k with hk0 | hk0
              · have hz : decide (0 < k) = false := decide_eq_false (by omega)
                have HTA := hide ((H0.out hk0).trans HFO.out)
                clear hk0
                have n0 := BelowW.nonempty wx
                have e0 := BelowW.ex (w := wx)
                have g_h0 := fun n : BelowW wx => n.cell h0
                have g_h1 := fun n : BelowW wx => n.cell h1
                clear h0 h1
                refine wp_region_below (by kernel_rfl) (by kernel_rfl) ?_
                repeat (go_big_quiet_step (first | (go_at_call 64; exact BelowW.calls _ (D1.out _))))
                refine wpQuiet_nil ?_
                rintro _ ⟨⟨w1, hb1⟩, rfl⟩
                have HB := hide (Below.then_ hbl' hb1)
                have HK := hide (kb.step hb1)
                clear kb hb1 e0 g_h0 g_h1
                obtain ⟨f, hxk, _⟩ := hx.take hk
                have hc2 : (k : Int) ≤ (c : Int) := by omega
                have HC := hide (treC_eq hlt)
                have hln : (l.take k).length = k := by simp; omega
                have HLN := hide hln
                have hbl1 := HB.out
                have kb1 := HK.out
                clear hln hbl hbl'
                go_wp2
                go_loopw [51] (fun i wr2 => ∃ q : Nat, q ≤ k ∧ i = .int .i64 q ∧ noneTo (fun g : File => pthUnder g.path l[k].path) (l.take k) q ∧ Below w.heap.size w wr2 ∧ Blk wr2 wr.heap.size 92 #[.string l[k].path, .string l[k].bytes]) (fun i _ => k - (intOf i).toNat)
                case atStart => exact ⟨0, Nat.zero_le _, rfl, noneTo_zero, hbl1, kb1⟩
                case round =>
                  obtain ⟨q, hq, rfl, hag2, hbl2, kb2⟩ := hrel
                  have HA2 := hide hag2
                  clear hag2 hbl1 kb1
                  by_cases hlt2 : q < k
                  · have hq2 : q < l.length := by omega
                    obtain ⟨b2, o2, he, hb2, hm2, p0, p1⟩ := file_cells (hx.step hbl2) hq2
                    cases he
                    have HQ2 := hide (show (l.take k)[q]'(by rw [HLN.out]; exact hlt2) = l[q] from List.getElem_take)
                    have HG2 := hide (HF.out q hq2)
                    have q0 : (0 : Int) ≤ (q : Int) := by omega
                    have q1 : (q : Int) < (k : Int) := by omega
                    have kq := Blk.new wr 92 #[.string l[q].path, .string l[q].bytes]
                    have kb3 := kb2.alloc (.cells #[.string l[q].path, .string l[q].bytes] 92)
                    have d0 : _ = some (Value.string l[k].path) := kb3.cell 0
                    have hbl3 := hbl2.alloc hbl2.size (.cells #[.string l[q].path, .string l[q].bytes] 92)
                    go_wp2_with fail
                    refine (implPthUnder_any _ _ HG2.out HG.out _).mono ?_
                    rintro e w2 ⟨rfl, hb3⟩
                    have HB2 := hide (hbl3.trans (hb3.mono hbl3.size))
                    have HK2 := hide (kb3.step hb3)
                    clear hb3 hbl3 kb3 d0 kq p0 p1
                    cases hd2 : pthUnder l[q].path l[k].path
                    · have HN := hide (HA2.out.next (p := fun g : File => pthUnder g.path l[k].path) (by rw [HLN.out]; exact hlt2) (by rw [HQ2.out]; exact hd2))
                      clear hd2
                      go_wp2
                      exact ⟨⟨q + 1, by omega, by go_num, HN.out, HB2.out, HK2.out⟩, by simp [intOf]; omega⟩
                    · have HR := hide (show treOk l = false by rw [treOk_one, oksTo.not_ hlt (show (treA l k && treC l k) = false by rw [HC.out, any_hit (p := fun g : File => pthUnder g.path l[k].path) (k := q) (by rw [HLN.out]; exact hlt2) (by rw [HQ2.out]; exact hd2)]; simp)]; simp)
                      clear hd2
                      go_wp2
                      go_ret
                      exact ⟨ret_bool HR.out.symm, HB2.out⟩
                  · have hq' : q = k := by omega
                    subst hq'
                    have HN := hide (HA.out.next (f := fun i => treA l i && treC l i) (show (treA l q && treC l q) = true by rw [HTA.out, HC.out, show ((l.take q).any fun g : File => pthUnder g.path l[q].path) = false from noneTo.any_ (by rw [HLN.out]; exact HA2.out)]; rfl))
                    clear kb2
                    go_wp2
                    exact ⟨⟨q + 1, by omega, by go_num, HN.out, hbl2⟩, by simp [intOf]; omega⟩
              · obtain ⟨j, hk0⟩ : ∃ j, k = j + 1 := ⟨k - 1, by omega⟩
                have hz : decide (0 < k) = true := decide_eq_true (by omega)
                have hj : j < l.length := by omega
                have HE := hide (H1.out j hj hk0)
                obtain ⟨b', o', he, hb', hm', p0, p1⟩ := file_cells (hx.step hbl') hj
                cases he
                have e1 : (k : Int) - 1 = (j : Int) := by omega
                have e2 : IntKind.i64.wrap (j : Int) = (j : Int) := IntWalk.i64_in _ (by omega)
                have j0 : (0 : Int) ≤ (j : Int) := by omega
                have j1 : (j : Int) < (l.length : Int) := by omega
                clear hk0
                cases hc : Op.bytesLess l[j].path.toList l[k].path.toList
                · have HR := hide (HNO.out (HE.out.trans (by rw [show bLt l[j].path l[k].path = false from hc, Bool.and_false])))
                  have hl1 := leq_true hc
                  have n0 := BelowW.nonempty wx
                  have e0 := BelowW.ex (w := wx)
                  have g_h0 := fun n : BelowW wx => n.cell h0
                  have g_h1 := fun n : BelowW wx => n.cell h1
                  have g_p0 := fun n : BelowW wx => n.cell p0
                  clear h0 h1 p0
                  refine wp_region_below (by kernel_rfl) (by kernel_rfl) ?_
                  repeat (go_big_quiet_step (first | (go_at_call 64; exact BelowW.calls _ (D1.out _))))
                  refine wpQuiet_nil ?_
                  rintro _ ⟨⟨w1, hb1⟩, rfl⟩
                  have HB := hide (Below.then_ hbl' hb1)
                  have HK := hide (kb.step hb1)
                  clear kb hb1 e0 g_h0 g_h1 g_p0
                  go_wp2
                  go_ret
                  exact ⟨ret_bool (HR.out).symm, HB.out⟩
                · have HTA := hide (HE.out.trans (show _ = true by rw [show bLt l[j].path l[k].path = true from hc, HFO.out]; rfl))
                  obtain ⟨hl1, hl2⟩ := leq_false hc
                  have n0 := BelowW.nonempty wx
                  have e0 := BelowW.ex (w := wx)
                  have g_h0 := fun n : BelowW wx => n.cell h0
                  have g_h1 := fun n : BelowW wx => n.cell h1
                  have g_p0 := fun n : BelowW wx => n.cell p0
                  clear h0 h1 p0
                  refine wp_region_below (by kernel_rfl) (by kernel_rfl) ?_
                  repeat (go_big_quiet_step (first | (go_at_call 64; exact BelowW.calls _ (D1.out _))))
                  refine wpQuiet_nil ?_
                  rintro _ ⟨⟨w1, hb1⟩, rfl⟩
                  have HB := hide (Below.then_ hbl' hb1)
                  have HK := hide (kb.step hb1)
                  clear kb hb1 e0 g_h0 g_h1 g_p0
                  clear hl1 hl2 hc e1 e2 j0 j1
                  obtain ⟨f, hxk, _⟩ := hx.take hk
                  have hc2 : (k : Int) ≤ (c : Int) := by omega
                  have HC := hide (treC_eq hlt)
                  have hln : (l.take k).length = k := by simp; omega
                  have HLN := hide hln
                  have hbl1 := HB.out
                  have kb1 := HK.out
                  clear hln hbl hbl'
                  go_wp2
                  go_loopw [51] (fun i wr2 => ∃ q : Nat, q ≤ k ∧ i = .int .i64 q ∧ noneTo (fun g : File => pthUnder g.path l[k].path) (l.take k) q ∧ Below w.heap.size w wr2 ∧ Blk wr2 wr.heap.size 92 #[.string l[k].path, .string l[k].bytes]) (fun i _ => k - (intOf i).toNat)
                  case atStart => exact ⟨0, Nat.zero_le _, rfl, noneTo_zero, hbl1, kb1⟩
                  case round =>
                    obtain ⟨q, hq, rfl, hag2, hbl2, kb2⟩ := hrel
                    have HA2 := hide hag2
                    clear hag2 hbl1 kb1
                    by_cases hlt2 : q < k
                    · have hq2 : q < l.length := by omega
                      obtain ⟨b2, o2, he, hb2, hm2, p0, p1⟩ := file_cells (hx.step hbl2) hq2
                      cases he
                      have HQ2 := hide (show (l.take k)[q]'(by rw [HLN.out]; exact hlt2) = l[q] from List.getElem_take)
                      have HG2 := hide (HF.out q hq2)
                      have q0 : (0 : Int) ≤ (q : Int) := by omega
                      have q1 : (q : Int) < (k : Int) := by omega
                      have kq := Blk.new wr 92 #[.string l[q].path, .string l[q].bytes]
                      have kb3 := kb2.alloc (.cells #[.string l[q].path, .string l[q].bytes] 92)
                      have d0 : _ = some (Value.string l[k].path) := kb3.cell 0
                      have hbl3 := hbl2.alloc hbl2.size (.cells #[.string l[q].path, .string l[q].bytes] 92)
                      go_wp2_with fail
                      refine (implPthUnder_any _ _ HG2.out HG.out _).mono ?_
                      rintro e w2 ⟨rfl, hb3⟩
                      have HB2 := hide (hbl3.trans (hb3.mono hbl3.size))
                      have HK2 := hide (kb3.step hb3)
                      clear hb3 hbl3 kb3 d0 kq p0 p1
                      cases hd2 : pthUnder l[q].path l[k].path
                      · have HN := hide (HA2.out.next (p := fun g : File => pthUnder g.path l[k].path) (by rw [HLN.out]; exact hlt2) (by rw [HQ2.out]; exact hd2))
                        clear hd2
                        go_wp2
                        exact ⟨⟨q + 1, by omega, by go_num, HN.out, HB2.out, HK2.out⟩, by simp [intOf]; omega⟩
                      · have HR := hide (show treOk l = false by rw [treOk_one, oksTo.not_ hlt (show (treA l k && treC l k) = false by rw [HC.out, any_hit (p := fun g : File => pthUnder g.path l[k].path) (k := q) (by rw [HLN.out]; exact hlt2) (by rw [HQ2.out]; exact hd2)]; simp)]; simp)
                        clear hd2
                        go_wp2
                        go_ret
                        exact ⟨ret_bool HR.out.symm, HB2.out⟩
                    · have hq' : q = k := by omega
                      subst hq'
                      have HN := hide (HA.out.next (f := fun i => treA l i && treC l i) (show (treA l q && treC l q) = true by rw [HTA.out, HC.out, show ((l.take q).any fun g : File => pthUnder g.path l[q].path) = false from noneTo.any_ (by rw [HLN.out]; exact HA2.out)]; rfl))
                      clear kb2
                      go_wp2
                      exact ⟨⟨q + 1, by omega, by go_num, HN.out, hbl2⟩, by simp [intOf]; omega⟩
            · have HR := hide (HNO.out (HNF.out (show fileOk l[k] = false by unfold fileOk; rw [decide_eq_false hs, Bool.and_false])))
              have hs1 : decide ((6 : Int) < (l[k].bytes.size : Int)) = true := decide_eq_true (by omega)
              clear hs
              have n0 := BelowW.nonempty wx
              have e0 := BelowW.ex (w := wx)
              have g_h0 := fun n : BelowW wx => n.cell h0
              have g_h1 := fun n : BelowW wx => n.cell h1
              clear h0 h1
              refine wp_region_below (by kernel_rfl) (by kernel_rfl) ?_
              repeat (go_big_quiet_step (first | (go_at_call 64; exact BelowW.calls _ (D1.out _))))
              refine wpQuiet_nil ?_
              rintro _ ⟨⟨w1, hb1⟩, rfl⟩
              have HB := hide (Below.then_ hbl' hb1)
              have HK := hide (kb.step hb1)
              clear kb hb1 e0 g_h0 g_h1
              go_wp2
              go_ret
              exact ⟨ret_bool (HR.out).symm, HB.out⟩
          · have HR := hide (HNO.out (HNF.out (show fileOk l[k] = false by unfold fileOk; rw [show decide (l[k].path = ByteArray.empty) = true from HQ.out.symm.trans hp]; simp)))
            have n0 := BelowW.nonempty wx
            have e0 := BelowW.ex (w := wx)
            have g_h0 := fun n : BelowW wx => n.cell h0
            have g_h1 := fun n : BelowW wx => n.cell h1
            clear h0 h1
            refine wp_region_below (by kernel_rfl) (by kernel_rfl) ?_
            repeat (go_big_quiet_step (first | (go_at_call 64; exact BelowW.calls _ (D1.out _))))
            refine wpQuiet_nil ?_
            rintro _ ⟨⟨w1, hb1⟩, rfl⟩
            have HB := hide (Below.then_ hbl' hb1)
            have HK := hide (kb.step hb1)
            clear kb hb1 e0 g_h0 g_h1
            go_wp2
            go_ret
            exact ⟨ret_bool (HR.out).symm, HB.out⟩
      · have hk' : k = l.length := by omega
        subst hk'
        have HR := hide (show treOk l = true by rw [treOk_one, decide_eq_true h60, HA.out.all_]; rfl)
        go_wp2
        go_ret
        exact ⟨ret_bool HR.out.symm, hbl⟩
  · have HR := hide (show treOk l = false by rw [treOk_one, decide_eq_false h60]; rfl)
    go_wp2
    go_ret
    exact ⟨ret_bool HR.out.symm, Below.refl _ _⟩

end Go.Proofs.YtnogkkcmcnhodaaDoor
