/- Lemmas and walks, joined by program (wip/gen/merge.py). -/
import Derived.Test.YtnogkkcmcnhodaaGreatDoorZ3
import Derived.Test.YtnogkkcmcnhodaaGreatDoorZ1
import Derived.Test.YtnogkkcmcnhodaaGreatDoorZ2
namespace Go.Proofs.YtnogkkcmcnhodaaGreatDoor
open Go.RowKit
attribute [local go_sem ↓] Go.wp_at_zero Go.wp_at_succ

def fitFiles (l : List File) : Prop := ∀ i (h : i < l.length), l[i].path.size ≤ 4194304
theorem treA_fst {l : List File} {k : Nat} (h : k < l.length) (h0 : k = 0) : treA l k = fileOk l[k] := by
 subst h0
 exact treA_zero h
theorem treA_snd {l : List File} {k j : Nat} (h : k < l.length) (h' : j < l.length) (hj : k = j + 1) : treA l k = (fileOk l[k] && bLt l[j].path l[k].path) := by
 subst hj
 exact treA_succ h
theorem treB_snd {l : List File} {k j : Nat} (h : k < l.length) (h' : j < l.length) (hj : k = j + 1) : treB l k = !pthUnder l[j].path l[k].path := by
 subst hj
 exact treB_succ h
theorem leq_false {a b : ByteArray} (h : Op.bytesLess a.toList b.toList = true) : Op.bytesLess b.toList a.toList = false ∧ (b.toList == a.toList) = false := by
 refine ⟨bLt_asymm (a := a) (b := b) h, ?_⟩
 rw [beq_toListBytes']
 exact decide_eq_false fun e => bLt_ne (a := a) (b := b) h e.symm
theorem leq_true {a b : ByteArray} (h : Op.bytesLess a.toList b.toList = false) : (Op.bytesLess b.toList a.toList || (b.toList == a.toList)) = true := by
 rw [beq_toListBytes']
 by_cases e : b = a
 ·rw [decide_eq_true e, Bool.or_true]
 ·rw [show Op.bytesLess b.toList a.toList = true from bLt_tri (a := a) (b := b) h fun e' => e e'.symm]; rfl

set_option maxHeartbeats 4000000 in
set_option maxRecDepth 20000 in
theorem specTreOk_any {A : Option Addr} {n c : Nat} {l : List File} {fp : List Nat} (w : World) (hx : SlR Rp.file w A n c l fp) (hf : fitFiles l) :
  Calls Tryz.prog 164 #[.slice A n c] w fun e w' => e = .returned (.bool (treOk l)) ∧ Below w.heap.size w w' := by
 obtain ⟨rfl, hcx, hmx, _⟩ := id hx
 unfold maxLen at hmx
 have HF := hide hf
 clear hf
 go_enter Tryz.func164, Tryz.ntmps164
 by_cases h60 : l.length ≤ 60
 ·go_wp2
  go_loopw [3] (fun i wr => ∃ k : Nat, k ≤ l.length ∧ i = .int .i64 k ∧ oksTo (treA l) k ∧ Below w.heap.size w wr) (fun i _ => l.length - (intOf i).toNat)
  case atStart => exact ⟨0, Nat.zero_le _, rfl, oksTo_zero, Below.refl _ _⟩
  case round =>
   obtain ⟨k, hk, rfl, hag, hbl⟩ := hrel
   have HA := hide hag
   clear hag
   by_cases hlt : k < l.length
   ·obtain ⟨b, o, rfl, hb, hm, h0, h1⟩ := file_cells (hx.step hbl) hlt
    have HG := hide (HF.out k hlt)
    have HNO := hide (fun (h : treA l k = false) => (show treOk l = false by rw [treOk_two, oksTo.not_ hlt h]; simp))
    have HYES := hide (fun (h : treA l k = true) => HA.out.next h)
    have H0 := hide (fun (h : k = 0) => treA_fst hlt h)
    have H1 := hide (fun (j : Nat) (hj : j < l.length) (h : k = j + 1) => treA_snd hlt hj h)
    have HNF := hide (fun (h : fileOk l[k] = false) => (show treA l k = false by unfold treA; rw [atB_eq hlt, h]; rfl))
    have i0 : (0 : Int) ≤ (k : Int) := by omega
    have i1 : (k : Int) < (l.length : Int) := by omega
    have C1 := specPthOk_any l[k].path HG.out
    have HQ := hide (isEmpty_eq l[k].path)
    cases hp : l[k].path.toList.isEmpty
    ·have HP := hide (HQ.out.symm.trans hp)
     cases hd : pthOk l[k].path
     ·simp only [hd] at C1
      have D1 := hide C1
      have HR := hide (HNO.out (HNF.out (show fileOk l[k] = false by unfold fileOk; rw [hd]; rfl)))
      clear C1 hd
      go_wp2_with fail
      have n0 := BelowW.nonempty wr
      have e0 := BelowW.ex (w := wr)
      have g_h0 := fun n : BelowW wr => n.cell h0
      have g_h1 := fun n : BelowW wr => n.cell h1
      clear h0 h1
      refine wp_region_below (by kernel_rfl) (by kernel_rfl) ?_
      repeat (go_big_quiet_step (first | (go_at_call 77; exact BelowW.calls _ (D1.out _))))
      refine wpQuiet_nil ?_
      rintro _ ⟨⟨w1, hb1⟩, rfl⟩
      have HB := hide (Below.t hbl hb1)
      clear hb1 e0 g_h0 g_h1
      go_wp2
      go_ret
      exact ⟨ret_bool (HR.out).symm, HB.out⟩
     ·simp only [hd] at C1
      have D1 := hide C1
      have HD := hide hd
      clear C1 hd
      by_cases hs : l[k].bytes.size ≤ 6
      ·have HFO := hide (show fileOk l[k] = true by unfold fileOk; rw [HD.out, HP.out, decide_eq_true hs]; rfl)
       have hs1 : decide ((6 : Int) < (l[k].bytes.size : Int)) = false := decide_eq_false (by omega)
       clear hs
       rcases Nat.eq_zero_or_pos k with hk0 | hk0
       ·skip
        have hz : decide (0 < k) = false := decide_eq_false (by omega)
        have HR := hide (HYES.out ((H0.out hk0).trans HFO.out))
        clear hk0
        go_wp2_with fail
        have n0 := BelowW.nonempty wr
        have e0 := BelowW.ex (w := wr)
        have g_h0 := fun n : BelowW wr => n.cell h0
        have g_h1 := fun n : BelowW wr => n.cell h1
        clear h0 h1
        refine wp_region_below (by kernel_rfl) (by kernel_rfl) ?_
        repeat (go_big_quiet_step (first | (go_at_call 77; exact BelowW.calls _ (D1.out _))))
        refine wpQuiet_nil ?_
        rintro _ ⟨⟨w1, hb1⟩, rfl⟩
        have HB := hide (Below.t hbl hb1)
        clear hb1 e0 g_h0 g_h1
        go_wp2
        exact ⟨⟨k + 1, by omega, by go_num, HR.out, HB.out⟩, by simp [intOf]; omega⟩
       ·obtain ⟨j, hk0⟩ : ∃ j, k = j + 1 := ⟨k - 1, by omega⟩
        have hz : decide (0 < k) = true := decide_eq_true (by omega)
        have hj : j < l.length := by omega
        have HE := hide (H1.out j hj hk0)
        obtain ⟨b', o', he, hb', hm', p0, p1⟩ := file_cells (hx.step hbl) hj
        cases he
        have e1 : (k : Int) - 1 = (j : Int) := by omega
        have e2 : IntKind.i64.wrap (j : Int) = (j : Int) := IntWalk.i64_in _ (by omega)
        have j0 : (0 : Int) ≤ (j : Int) := by omega
        have j1 : (j : Int) < (l.length : Int) := by omega
        clear hk0
        cases hc : Op.bytesLess l[j].path.toList l[k].path.toList
        ·have HR := hide (HNO.out (HE.out.trans (by rw [show bLt l[j].path l[k].path = false from hc, Bool.and_false])))
         go_wp2_with fail
         have n0 := BelowW.nonempty wr
         have e0 := BelowW.ex (w := wr)
         have g_h0 := fun n : BelowW wr => n.cell h0
         have g_h1 := fun n : BelowW wr => n.cell h1
         have g_p0 := fun n : BelowW wr => n.cell p0
         clear h0 h1 p0
         refine wp_region_below (by kernel_rfl) (by kernel_rfl) ?_
         repeat (go_big_quiet_step (first | (go_at_call 77; exact BelowW.calls _ (D1.out _))))
         refine wpQuiet_nil ?_
         rintro _ ⟨⟨w1, hb1⟩, rfl⟩
         have HB := hide (Below.t hbl hb1)
         clear hb1 e0 g_h0 g_h1 g_p0
         go_wp2
         go_ret
         exact ⟨ret_bool (HR.out).symm, HB.out⟩
        ·have HR := hide (HYES.out (HE.out.trans (by rw [show bLt l[j].path l[k].path = true from hc, HFO.out]; rfl)))
         go_wp2_with fail
         have n0 := BelowW.nonempty wr
         have e0 := BelowW.ex (w := wr)
         have g_h0 := fun n : BelowW wr => n.cell h0
         have g_h1 := fun n : BelowW wr => n.cell h1
         have g_p0 := fun n : BelowW wr => n.cell p0
         clear h0 h1 p0
         refine wp_region_below (by kernel_rfl) (by kernel_rfl) ?_
         repeat (go_big_quiet_step (first | (go_at_call 77; exact BelowW.calls _ (D1.out _))))
         refine wpQuiet_nil ?_
         rintro _ ⟨⟨w1, hb1⟩, rfl⟩
         have HB := hide (Below.t hbl hb1)
         clear hb1 e0 g_h0 g_h1 g_p0
         go_wp2
         exact ⟨⟨k + 1, by omega, by go_num, HR.out, HB.out⟩, by simp [intOf]; omega⟩
      ·have HR := hide (HNO.out (HNF.out (show fileOk l[k] = false by unfold fileOk; rw [decide_eq_false hs, Bool.and_false])))
       have hs1 : decide ((6 : Int) < (l[k].bytes.size : Int)) = true := decide_eq_true (by omega)
       clear hs
       go_wp2_with fail
       have n0 := BelowW.nonempty wr
       have e0 := BelowW.ex (w := wr)
       have g_h0 := fun n : BelowW wr => n.cell h0
       have g_h1 := fun n : BelowW wr => n.cell h1
       clear h0 h1
       refine wp_region_below (by kernel_rfl) (by kernel_rfl) ?_
       repeat (go_big_quiet_step (first | (go_at_call 77; exact BelowW.calls _ (D1.out _))))
       refine wpQuiet_nil ?_
       rintro _ ⟨⟨w1, hb1⟩, rfl⟩
       have HB := hide (Below.t hbl hb1)
       clear hb1 e0 g_h0 g_h1
       go_wp2
       go_ret
       exact ⟨ret_bool (HR.out).symm, HB.out⟩
    ·have HR := hide (HNO.out (HNF.out (show fileOk l[k] = false by unfold fileOk; rw [show decide (l[k].path = ByteArray.empty) = true from HQ.out.symm.trans hp]; simp)))
     clear C1
     go_wp2_with fail
     have n0 := BelowW.nonempty wr
     have e0 := BelowW.ex (w := wr)
     have g_h0 := fun n : BelowW wr => n.cell h0
     have g_h1 := fun n : BelowW wr => n.cell h1
     clear h0 h1
     refine wp_region_below (by kernel_rfl) (by kernel_rfl) ?_
     repeat (go_big_quiet_step (first | (go_at_call 77; exact BelowW.calls _ (specPthOk_any _ HG.out _))))
     refine wpQuiet_nil ?_
     rintro _ ⟨⟨w1, hb1⟩, rfl⟩
     have HB := hide (Below.t hbl hb1)
     clear hb1 e0 g_h0 g_h1
     go_wp2
     go_ret
     exact ⟨ret_bool (HR.out).symm, HB.out⟩
   ·have hk' : k = l.length := by omega
    subst hk'
    have HT := hide (treOk_two l)
    have HAA := hide HA.out.all_
    have hbl0 := hbl
    go_wp2
    go_loopw [4] (fun i wr => ∃ k : Nat, k ≤ l.length + 1 ∧ 1 ≤ k ∧ i = .int .i64 k ∧ oksTo (treB l) k ∧ Below w.heap.size w wr) (fun i _ => l.length + 1 - (intOf i).toNat)
    case atStart => exact ⟨1, by omega, by omega, rfl, oksTo_zero.next rfl, hbl0⟩
    case round =>
     obtain ⟨k, hk, hk1, rfl, hag, hbl⟩ := hrel
     have HA := hide hag
     clear hag
     by_cases hlt : k < l.length
     ·obtain ⟨j, hkj⟩ : ∃ j, k = j + 1 := ⟨k - 1, by omega⟩
      have hj : j < l.length := by omega
      have HE := hide (treB_snd hlt hj hkj)
      obtain ⟨b, o, rfl, hb, hm, h0, h1⟩ := file_cells (hx.step hbl) hlt
      obtain ⟨b', o', he, hb', hm', p0, p1⟩ := file_cells (hx.step hbl) hj
      cases he
      have HNO := hide (fun (h : treB l k = false) => (show treOk l = false by rw [HT.out, oksTo.not_ hlt h]; simp))
      have HYES := hide (fun (h : treB l k = true) => HA.out.next h)
      have i0 : (0 : Int) ≤ (k : Int) := by omega
      have i1 : (k : Int) < (l.length : Int) := by omega
      have e1 : (k : Int) - 1 = (j : Int) := by omega
      have e2 : IntKind.i64.wrap (j : Int) = (j : Int) := IntWalk.i64_in _ (by omega)
      have j0 : (0 : Int) ≤ (j : Int) := by omega
      have j1 : (j : Int) < (l.length : Int) := by omega
      have C1 := specPthUnder_any l[j].path l[k].path (HF.out j hj) (HF.out k hlt)
      clear hkj
      cases hd : pthUnder l[j].path l[k].path
      ·have HR := hide (HYES.out (HE.out.trans (by rw [hd]; rfl)))
       simp only [hd] at C1
       have D1 := hide C1
       clear C1 hd
       go_wp2_with fail
       have n0 := BelowW.nonempty wr
       have e0 := BelowW.ex (w := wr)
       have g_h0 := fun n : BelowW wr => n.cell h0
       have g_p0 := fun n : BelowW wr => n.cell p0
       clear h0 p0
       refine wp_region_below (by kernel_rfl) (by kernel_rfl) ?_
       repeat (go_big_quiet_step (first | (go_at_call 120; exact BelowW.calls _ (D1.out _))))
       refine wpQuiet_nil ?_
       rintro _ ⟨⟨w1, hb1⟩, rfl⟩
       have HB := hide (Below.t hbl hb1)
       clear hb1 e0 g_h0 g_p0
       go_wp2
       exact ⟨⟨k + 1, by omega, by omega, by go_num, HR.out, HB.out⟩, by simp [intOf]; omega⟩
      ·have HR := hide (HNO.out (HE.out.trans (by rw [hd]; rfl)))
       simp only [hd] at C1
       have D1 := hide C1
       clear C1 hd
       go_wp2_with fail
       have n0 := BelowW.nonempty wr
       have e0 := BelowW.ex (w := wr)
       have g_h0 := fun n : BelowW wr => n.cell h0
       have g_p0 := fun n : BelowW wr => n.cell p0
       clear h0 p0
       refine wp_region_below (by kernel_rfl) (by kernel_rfl) ?_
       repeat (go_big_quiet_step (first | (go_at_call 120; exact BelowW.calls _ (D1.out _))))
       refine wpQuiet_nil ?_
       rintro _ ⟨⟨w1, hb1⟩, rfl⟩
       have HB := hide (Below.t hbl hb1)
       clear hb1 e0 g_h0 g_p0
       go_wp2
       go_ret
       exact ⟨ret_bool (HR.out).symm, HB.out⟩
     ·have HR := hide (show treOk l = true by rw [HT.out, HAA.out, decide_eq_true h60, allN_iff.2 (fun i hi => HA.out i (by omega))]; rfl)
      go_wp2
      go_ret
      exact ⟨ret_bool HR.out.symm, hbl⟩
 ·have HR := hide (show treOk l = false by rw [treOk_two, decide_eq_false h60]; rfl)
  go_wp2
  go_ret
  exact ⟨ret_bool HR.out.symm, Below.refl _ _⟩

set_option maxHeartbeats 4000000 in
set_option maxRecDepth 20000 in
theorem implTreOk_any {A : Option Addr} {n c : Nat} {l : List File} {fp : List Nat} (w : World) (hx : SlR Rp.file w A n c l fp) (hf : fitFiles l) :
  Calls Tryz.prog 92 #[.slice A n c] w fun e w' => e = .returned (.bool (treOk l)) ∧ Below w.heap.size w w' := by
 obtain ⟨rfl, hcx, hmx, _⟩ := id hx
 unfold maxLen at hmx
 have HF := hide hf
 clear hf
 go_enter Tryz.func92, Tryz.ntmps92
 by_cases h60 : l.length ≤ 60
 ·go_wp2
  go_loopw [12] (fun i wr => ∃ k : Nat, k ≤ l.length ∧ i = .int .i64 k ∧ oksTo (fun i => treA l i && treC l i) k ∧ Below w.heap.size w wr) (fun i _ => l.length - (intOf i).toNat)
  case atStart => exact ⟨0, Nat.zero_le _, rfl, oksTo_zero, Below.refl _ _⟩
  case round =>
   obtain ⟨k, hk, rfl, hag, hbl⟩ := hrel
   have HA := hide hag
   clear hag
   by_cases hlt : k < l.length
   ·obtain ⟨b, o, rfl, hb, hm, h0, h1⟩ := file_cells (hx.step hbl) hlt
    have HG := hide (HF.out k hlt)
    have HNO := hide (fun (h : treA l k = false) => (show treOk l = false by rw [treOk_one, oksTo.not_ hlt (by rw [h, Bool.false_and])]; simp))
    have H0 := hide (fun (h : k = 0) => treA_fst hlt h)
    have H1 := hide (fun (j : Nat) (hj : j < l.length) (h : k = j + 1) => treA_snd hlt hj h)
    have HNF := hide (fun (h : fileOk l[k] = false) => (show treA l k = false by unfold treA; rw [atB_eq hlt, h]; rfl))
    have i0 : (0 : Int) ≤ (k : Int) := by omega
    have i1 : (k : Int) < (l.length : Int) := by omega
    have C1 := implPthOk_any l[k].path HG.out
    have HQ := hide (isEmpty_eq l[k].path)
    have kb := Blk.new wr 104 #[.string l[k].path, .string l[k].bytes]
    have hbl' := hbl.alloc hbl.size (.cells #[.string l[k].path, .string l[k].bytes] 104)
    go_wp2_with fail
    clear h0 h1
    generalize hwx : wr.alloc (.cells #[.string l[k].path, .string l[k].bytes] 104) = wx at kb hbl' ⊢
    clear hwx
    have h0 := Blk.c0 kb
    have h1 := Blk.c1 kb
    cases hd : pthOk l[k].path
    ·simp only [hd] at C1
     have D1 := hide C1
     have HR := hide (HNO.out (HNF.out (show fileOk l[k] = false by unfold fileOk; rw [hd]; rfl)))
     clear C1 hd
     have n0 := BelowW.nonempty wx
     have e0 := BelowW.ex (w := wx)
     have g_h0 := fun n : BelowW wx => n.cell h0
     have g_h1 := fun n : BelowW wx => n.cell h1
     clear h0 h1
     refine wp_region_below (by kernel_rfl) (by kernel_rfl) ?_
     repeat (go_big_quiet_step (first | (go_at_call 96; exact BelowW.calls _ (D1.out _))))
     refine wpQuiet_nil ?_
     rintro _ ⟨⟨w1, hb1⟩, rfl⟩
     have HB := hide (Below.t hbl' hb1)
     have HK := hide (kb.step hb1)
     clear kb hb1 e0 g_h0 g_h1
     go_wp2
     go_ret
     exact ⟨ret_bool (HR.out).symm, HB.out⟩
    ·simp only [hd] at C1
     have D1 := hide C1
     have HD := hide hd
     clear C1 hd
     cases hp : l[k].path.toList.isEmpty
     ·have HP := hide (HQ.out.symm.trans hp)
      by_cases hs : l[k].bytes.size ≤ 6
      ·have HFO := hide (show fileOk l[k] = true by unfold fileOk; rw [HD.out, HP.out, decide_eq_true hs]; rfl)
       have hs1 : decide ((6 : Int) < (l[k].bytes.size : Int)) = false := decide_eq_false (by omega)
       clear hs
       rcases Nat.eq_zero_or_pos k with hk0 | hk0
       ·have hz : decide (0 < k) = false := decide_eq_false (by omega)
        have HTA := hide ((H0.out hk0).trans HFO.out)
        clear hk0
        have n0 := BelowW.nonempty wx
        have e0 := BelowW.ex (w := wx)
        have g_h0 := fun n : BelowW wx => n.cell h0
        have g_h1 := fun n : BelowW wx => n.cell h1
        clear h0 h1
        refine wp_region_below (by kernel_rfl) (by kernel_rfl) ?_
        repeat (go_big_quiet_step (first | (go_at_call 96; exact BelowW.calls _ (D1.out _))))
        refine wpQuiet_nil ?_
        rintro _ ⟨⟨w1, hb1⟩, rfl⟩
        have HB := hide (Below.t hbl' hb1)
        have HK := hide (kb.step hb1)
        clear kb hb1 e0 g_h0 g_h1
        obtain ⟨f, hxk, _⟩ := hx.take hk
        have hc2 : (k : Int) ≤ (c : Int) := by omega
        have HC := hide (treC_eq hlt)
        have hln : (l.take k).length = k := by simp; omega
        have HLN := hide hln
        have hbl1 := HB.out
        have kb1 := HK.out
        clear hln hbl hbl'
        go_wp2
        go_loopw [51] (fun i wr2 => ∃ q : Nat, q ≤ k ∧ i = .int .i64 q ∧ noneTo (fun g : File => pthUnder g.path l[k].path) (l.take k) q ∧ Below w.heap.size w wr2 ∧ Blk wr2 wr.heap.size 104 #[.string l[k].path, .string l[k].bytes]) (fun i _ => k - (intOf i).toNat)
        case atStart => exact ⟨0, Nat.zero_le _, rfl, noneTo_zero, hbl1, kb1⟩
        case round =>
         obtain ⟨q, hq, rfl, hag2, hbl2, kb2⟩ := hrel
         have HA2 := hide hag2
         clear hag2 hbl1 kb1
         by_cases hlt2 : q < k
         ·have hq2 : q < l.length := by omega
          obtain ⟨b2, o2, he, hb2, hm2, p0, p1⟩ := file_cells (hx.step hbl2) hq2
          cases he
          have HQ2 := hide (show (l.take k)[q]'(by rw [HLN.out]; exact hlt2) = l[q] from List.getElem_take)
          have HG2 := hide (HF.out q hq2)
          have q0 : (0 : Int) ≤ (q : Int) := by omega
          have q1 : (q : Int) < (k : Int) := by omega
          have kq := Blk.new wr 104 #[.string l[q].path, .string l[q].bytes]
          have kb3 := kb2.alloc (.cells #[.string l[q].path, .string l[q].bytes] 104)
          have d0 : _ = some (Value.string l[k].path) := kb3.cell 0
          have hbl3 := hbl2.alloc hbl2.size (.cells #[.string l[q].path, .string l[q].bytes] 104)
          go_wp2_with fail
          refine (implPthUnder_any _ _ HG2.out HG.out _).mono ?_
          rintro e w2 ⟨rfl, hb3⟩
          have HB2 := hide (hbl3.trans (hb3.mono hbl3.size))
          have HK2 := hide (kb3.step hb3)
          clear hb3 hbl3 kb3 d0 kq p0 p1
          cases hd2 : pthUnder l[q].path l[k].path
          ·have HN := hide (HA2.out.next (p := fun g : File => pthUnder g.path l[k].path) (by rw [HLN.out]; exact hlt2) (by rw [HQ2.out]; exact hd2))
           clear hd2
           go_wp2
           exact ⟨⟨q + 1, by omega, by go_num, HN.out, HB2.out, HK2.out⟩, by simp [intOf]; omega⟩
          ·have HR := hide (show treOk l = false by rw [treOk_one, oksTo.not_ hlt (show (treA l k && treC l k) = false by rw [HC.out, any_hit (p := fun g : File => pthUnder g.path l[k].path) (k := q) (by rw [HLN.out]; exact hlt2) (by rw [HQ2.out]; exact hd2)]; simp)]; simp)
           clear hd2
           go_wp2
           go_ret
           exact ⟨ret_bool HR.out.symm, HB2.out⟩
         ·have hq' : q = k := by omega
          subst hq'
          have HN := hide (HA.out.next (f := fun i => treA l i && treC l i) (show (treA l q && treC l q) = true by rw [HTA.out, HC.out, show ((l.take q).any fun g : File => pthUnder g.path l[q].path) = false from noneTo.any_ (by rw [HLN.out]; exact HA2.out)]; rfl))
          clear kb2
          go_wp2
          exact ⟨⟨q + 1, by omega, by go_num, HN.out, hbl2⟩, by simp [intOf]; omega⟩
       ·obtain ⟨j, hk0⟩ : ∃ j, k = j + 1 := ⟨k - 1, by omega⟩
        have hz : decide (0 < k) = true := decide_eq_true (by omega)
        have hj : j < l.length := by omega
        have HE := hide (H1.out j hj hk0)
        obtain ⟨b', o', he, hb', hm', p0, p1⟩ := file_cells (hx.step hbl') hj
        cases he
        have e1 : (k : Int) - 1 = (j : Int) := by omega
        have e2 : IntKind.i64.wrap (j : Int) = (j : Int) := IntWalk.i64_in _ (by omega)
        have j0 : (0 : Int) ≤ (j : Int) := by omega
        have j1 : (j : Int) < (l.length : Int) := by omega
        clear hk0
        cases hc : Op.bytesLess l[j].path.toList l[k].path.toList
        ·have HR := hide (HNO.out (HE.out.trans (by rw [show bLt l[j].path l[k].path = false from hc, Bool.and_false])))
         have hl1 := leq_true hc
         have n0 := BelowW.nonempty wx
         have e0 := BelowW.ex (w := wx)
         have g_h0 := fun n : BelowW wx => n.cell h0
         have g_h1 := fun n : BelowW wx => n.cell h1
         have g_p0 := fun n : BelowW wx => n.cell p0
         clear h0 h1 p0
         refine wp_region_below (by kernel_rfl) (by kernel_rfl) ?_
         repeat (go_big_quiet_step (first | (go_at_call 96; exact BelowW.calls _ (D1.out _))))
         refine wpQuiet_nil ?_
         rintro _ ⟨⟨w1, hb1⟩, rfl⟩
         have HB := hide (Below.t hbl' hb1)
         have HK := hide (kb.step hb1)
         clear kb hb1 e0 g_h0 g_h1 g_p0
         go_wp2
         go_ret
         exact ⟨ret_bool (HR.out).symm, HB.out⟩
        ·have HTA := hide (HE.out.trans (show _ = true by rw [show bLt l[j].path l[k].path = true from hc, HFO.out]; rfl))
         obtain ⟨hl1, hl2⟩ := leq_false hc
         have n0 := BelowW.nonempty wx
         have e0 := BelowW.ex (w := wx)
         have g_h0 := fun n : BelowW wx => n.cell h0
         have g_h1 := fun n : BelowW wx => n.cell h1
         have g_p0 := fun n : BelowW wx => n.cell p0
         clear h0 h1 p0
         refine wp_region_below (by kernel_rfl) (by kernel_rfl) ?_
         repeat (go_big_quiet_step (first | (go_at_call 96; exact BelowW.calls _ (D1.out _))))
         refine wpQuiet_nil ?_
         rintro _ ⟨⟨w1, hb1⟩, rfl⟩
         have HB := hide (Below.t hbl' hb1)
         have HK := hide (kb.step hb1)
         clear kb hb1 e0 g_h0 g_h1 g_p0
         clear hl1 hl2 hc e1 e2 j0 j1
         obtain ⟨f, hxk, _⟩ := hx.take hk
         have hc2 : (k : Int) ≤ (c : Int) := by omega
         have HC := hide (treC_eq hlt)
         have hln : (l.take k).length = k := by simp; omega
         have HLN := hide hln
         have hbl1 := HB.out
         have kb1 := HK.out
         clear hln hbl hbl'
         go_wp2
         go_loopw [51] (fun i wr2 => ∃ q : Nat, q ≤ k ∧ i = .int .i64 q ∧ noneTo (fun g : File => pthUnder g.path l[k].path) (l.take k) q ∧ Below w.heap.size w wr2 ∧ Blk wr2 wr.heap.size 104 #[.string l[k].path, .string l[k].bytes]) (fun i _ => k - (intOf i).toNat)
         case atStart => exact ⟨0, Nat.zero_le _, rfl, noneTo_zero, hbl1, kb1⟩
         case round =>
          obtain ⟨q, hq, rfl, hag2, hbl2, kb2⟩ := hrel
          have HA2 := hide hag2
          clear hag2 hbl1 kb1
          by_cases hlt2 : q < k
          ·have hq2 : q < l.length := by omega
           obtain ⟨b2, o2, he, hb2, hm2, p0, p1⟩ := file_cells (hx.step hbl2) hq2
           cases he
           have HQ2 := hide (show (l.take k)[q]'(by rw [HLN.out]; exact hlt2) = l[q] from List.getElem_take)
           have HG2 := hide (HF.out q hq2)
           have q0 : (0 : Int) ≤ (q : Int) := by omega
           have q1 : (q : Int) < (k : Int) := by omega
           have kq := Blk.new wr 104 #[.string l[q].path, .string l[q].bytes]
           have kb3 := kb2.alloc (.cells #[.string l[q].path, .string l[q].bytes] 104)
           have d0 : _ = some (Value.string l[k].path) := kb3.cell 0
           have hbl3 := hbl2.alloc hbl2.size (.cells #[.string l[q].path, .string l[q].bytes] 104)
           go_wp2_with fail
           refine (implPthUnder_any _ _ HG2.out HG.out _).mono ?_
           rintro e w2 ⟨rfl, hb3⟩
           have HB2 := hide (hbl3.trans (hb3.mono hbl3.size))
           have HK2 := hide (kb3.step hb3)
           clear hb3 hbl3 kb3 d0 kq p0 p1
           cases hd2 : pthUnder l[q].path l[k].path
           ·have HN := hide (HA2.out.next (p := fun g : File => pthUnder g.path l[k].path) (by rw [HLN.out]; exact hlt2) (by rw [HQ2.out]; exact hd2))
            clear hd2
            go_wp2
            exact ⟨⟨q + 1, by omega, by go_num, HN.out, HB2.out, HK2.out⟩, by simp [intOf]; omega⟩
           ·have HR := hide (show treOk l = false by rw [treOk_one, oksTo.not_ hlt (show (treA l k && treC l k) = false by rw [HC.out, any_hit (p := fun g : File => pthUnder g.path l[k].path) (k := q) (by rw [HLN.out]; exact hlt2) (by rw [HQ2.out]; exact hd2)]; simp)]; simp)
            clear hd2
            go_wp2
            go_ret
            exact ⟨ret_bool HR.out.symm, HB2.out⟩
          ·have hq' : q = k := by omega
           subst hq'
           have HN := hide (HA.out.next (f := fun i => treA l i && treC l i) (show (treA l q && treC l q) = true by rw [HTA.out, HC.out, show ((l.take q).any fun g : File => pthUnder g.path l[q].path) = false from noneTo.any_ (by rw [HLN.out]; exact HA2.out)]; rfl))
           clear kb2
           go_wp2
           exact ⟨⟨q + 1, by omega, by go_num, HN.out, hbl2⟩, by simp [intOf]; omega⟩
      ·have HR := hide (HNO.out (HNF.out (show fileOk l[k] = false by unfold fileOk; rw [decide_eq_false hs, Bool.and_false])))
       have hs1 : decide ((6 : Int) < (l[k].bytes.size : Int)) = true := decide_eq_true (by omega)
       clear hs
       have n0 := BelowW.nonempty wx
       have e0 := BelowW.ex (w := wx)
       have g_h0 := fun n : BelowW wx => n.cell h0
       have g_h1 := fun n : BelowW wx => n.cell h1
       clear h0 h1
       refine wp_region_below (by kernel_rfl) (by kernel_rfl) ?_
       repeat (go_big_quiet_step (first | (go_at_call 96; exact BelowW.calls _ (D1.out _))))
       refine wpQuiet_nil ?_
       rintro _ ⟨⟨w1, hb1⟩, rfl⟩
       have HB := hide (Below.t hbl' hb1)
       have HK := hide (kb.step hb1)
       clear kb hb1 e0 g_h0 g_h1
       go_wp2
       go_ret
       exact ⟨ret_bool (HR.out).symm, HB.out⟩
     ·have HR := hide (HNO.out (HNF.out (show fileOk l[k] = false by unfold fileOk; rw [show decide (l[k].path = ByteArray.empty) = true from HQ.out.symm.trans hp]; simp)))
      have n0 := BelowW.nonempty wx
      have e0 := BelowW.ex (w := wx)
      have g_h0 := fun n : BelowW wx => n.cell h0
      have g_h1 := fun n : BelowW wx => n.cell h1
      clear h0 h1
      refine wp_region_below (by kernel_rfl) (by kernel_rfl) ?_
      repeat (go_big_quiet_step (first | (go_at_call 96; exact BelowW.calls _ (D1.out _))))
      refine wpQuiet_nil ?_
      rintro _ ⟨⟨w1, hb1⟩, rfl⟩
      have HB := hide (Below.t hbl' hb1)
      have HK := hide (kb.step hb1)
      clear kb hb1 e0 g_h0 g_h1
      go_wp2
      go_ret
      exact ⟨ret_bool (HR.out).symm, HB.out⟩
   ·have hk' : k = l.length := by omega
    subst hk'
    have HR := hide (show treOk l = true by rw [treOk_one, decide_eq_true h60, HA.out.all_]; rfl)
    go_wp2
    go_ret
    exact ⟨ret_bool HR.out.symm, hbl⟩
 ·have HR := hide (show treOk l = false by rw [treOk_one, decide_eq_false h60]; rfl)
  go_wp2
  go_ret
  exact ⟨ret_bool HR.out.symm, Below.refl _ _⟩

structure fitRef (x : Ref) : Prop where
 name : x.name.size ≤ 4194304
 versions : ∀ i (h : i < x.versions.length), fitFiles x.versions[i]
structure fitRepo (p : Repo) : Prop where
 rules : fitRules p.rules
 few : p.refs.length ≤ 4194304
 refs : ∀ i (h : i < p.refs.length), fitRef p.refs[i]
def fitHouse (m : House) : Prop := ∀ i (h : i < m.repos.length), fitRepo m.repos[i]
def userAt (keys used : List Int) (i : Nat) : Bool := atB (fun n => inB n 1 9999) keys i && atB (fun n => inB n 0 200) used i
theorem usersOk_steps (keys used : List Int) : usersOk keys used = (inB keys.length 1 4 && decide (used.length = keys.length) && allN keys.length (userAt keys used)) := by
 by_cases h : used.length = keys.length
 ·have e : allN keys.length (userAt keys used) = ((keys.all fun n => inB n 1 9999) && used.all fun n => inB n 0 200) := by
   unfold userAt
   rw [allN_and, allN_atB, ← h, allN_atB]
  rw [e]
  unfold usersOk
  rw [Bool.and_assoc]
 ·unfold usersOk
  rw [decide_eq_false h]
  simp
theorem userAt_eq {keys used : List Int} {i : Nat} (h : i < keys.length) (h' : i < used.length) : userAt keys used i = (inB keys[i] 1 9999 && inB used[i] 0 200) := by
 unfold userAt
 rw [atB_eq h, atB_eq h']
theorem refAt_fst {l : List Ref} {k : Nat} (h : k < l.length) (h0 : k = 0) : refAt l k = (namOk l[k].name && refOk l[k]) := by
 subst h0
 exact refAt_zero h
theorem refAt_snd {l : List Ref} {k j : Nat} (h : k < l.length) (h' : j < l.length) (hj : k = j + 1) : refAt l k = (namOk l[k].name && refOk l[k] && bLt l[j].name l[k].name) := by
 subst hj
 exact refAt_succ h
theorem refOk_steps (x : Ref) : refOk x = (inB x.count 0 14 && inB x.versions.length 1 3 && allN x.versions.length (atB treOk x.versions)) := by
 rw [allN_atB]; rfl
theorem mdlOk_steps (m : House) : mdlOk m = (usersOk m.keys m.used && inB m.repos.length 1 3 && allN m.repos.length (atB (repoOk m.keys.length) m.repos)) := by
 rw [allN_atB]; rfl

set_option maxHeartbeats 4000000 in
set_option maxRecDepth 20000 in
theorem l7Ref_any {cs : List Value} {x : Ref} {fx : List Nat} (w : World) (hx : Rp.ref.R w cs x fx) (hf : fitRef x) :
  Calls Tryz.prog 125 #[.agg cs.toArray] w fun e w' => e = .returned (.bool (namOk x.name && refOk x)) ∧ Below w.heap.size w w' := by
 obtain ⟨A0, n0, c0, f0, rfl, _, h0⟩ := hx
 obtain rfl := h0.1
 have hmx := h0.max
 obtain ⟨_, hcx, hmc, _⟩ := id h0
 have HF := hide hf
 have HS := hide (refOk_steps x)
 clear hf
 have kb := Blk.new w 99 #[.string x.name, .bool x.guard, .int .i64 x.count, .slice A0 x.versions.length c0]
 replace h0 := h0.allocN (.cells #[.string x.name, .bool x.guard, .int .i64 x.count, .slice A0 x.versions.length c0] 99)
 have HB := (Below.refl w.heap.size w).alloc nle (.cells #[.string x.name, .bool x.guard, .int .i64 x.count, .slice A0 x.versions.length c0] 99)
 go_enter Tryz.func125, Tryz.ntmps125
 go_wp2_with fail
 refine (specNamOk_any x.name HF.out.name _).mono ?_
 rintro e w1 ⟨rfl, hb⟩
 replace kb := kb.step hb
 replace h0 := h0.step hb
 replace HB := Below.t HB hb
 clear hb
 cases hd : namOk x.name
 ·have HR := hide (show (namOk x.name && refOk x) = false by rw [hd]; rfl)
  clear kb h0 hd
  go_wp2
  go_ret
  exact ⟨ret_bool (HR.out).symm, HB⟩
 ·have HN0 := hide hd
  clear hd
  have c2 := Blk.c2 kb
  go_wp2_with fail
  refine (specIn_any x.count 0 14 _).mono ?_
  rintro e w2 ⟨rfl, hb⟩
  replace kb := kb.step hb
  replace h0 := h0.step hb
  replace HB := Below.t HB hb
  clear hb
  clear c2
  cases hd1 : inB x.count 0 14
  ·have HR := hide (show (namOk x.name && refOk x) = false by rw [HN0.out, HS.out, hd1]; rfl)
   clear kb h0 hd1
   go_wp2
   go_ret
   exact ⟨ret_bool (HR.out).symm, HB⟩
  ·have H1 := hide hd1
   clear hd1
   have c3 := Blk.c3 kb
   go_wp2_with fail
   refine (specIn_any (x.versions.length : Int) 1 3 _).mono ?_
   rintro e w3 ⟨rfl, hb⟩
   replace kb := kb.step hb
   replace h0 := h0.step hb
   replace HB := Below.t HB hb
   clear hb
   clear c3
   cases hd2 : inB (x.versions.length : Int) 1 3
   ·have HR := hide (show (namOk x.name && refOk x) = false by rw [HN0.out, HS.out, hd2, Bool.and_false]; rfl)
    clear kb h0 hd2
    go_wp2
    go_ret
    exact ⟨ret_bool (HR.out).symm, HB⟩
   ·have H2 := hide hd2
    clear hd2
    have HSZ := HB.size
    go_wp2
    go_loopw [3] (fun i wr => ∃ k : Nat, k ≤ x.versions.length ∧ i = .int .i64 k ∧ oksTo (atB treOk x.versions) k ∧ Below w3.heap.size w3 wr) (fun i _ => x.versions.length - (intOf i).toNat)
    case atStart => exact ⟨0, Nat.zero_le _, rfl, oksTo_zero, Below.refl _ _⟩
    case round =>
     obtain ⟨k, hk, rfl, hag, hbl⟩ := hrel
     have HA := hide hag
     clear hag
     have kr := kb.step hbl
     have h0r := h0.step hbl
     have c3 := Blk.c3 kr
     by_cases hlt : k < x.versions.length
     ·obtain ⟨b, o, A1, n1, c1, f1, rfl, hb, hm, g0, hs1, hsub⟩ := slice_cells h0r hlt
      obtain rfl := hs1.1
      have i0 : (0 : Int) ≤ (k : Int) := by omega
      have i1 : (k : Int) < (x.versions.length : Int) := by omega
      go_wp2_with fail
      refine (specTreOk_any _ hs1 (HF.out.versions k hlt)).mono ?_
      rintro e w4 ⟨rfl, hb4⟩
      have hbl' := Below.t hbl hb4
      have HE := hide (atB_eq (p := treOk) hlt)
      clear hb4 kr h0r g0 c3 hs1
      cases hd : treOk x.versions[k]
      ·have HR := hide (show (namOk x.name && refOk x) = false by rw [HN0.out, HS.out, oksTo.not_ hlt (HE.out.trans hd)]; simp)
       clear hd
       go_wp2
       go_ret
       exact ⟨ret_bool (HR.out).symm, HB.trans (hbl'.mono HSZ)⟩
      ·have HN := hide (HA.out.next (HE.out.trans hd))
       clear hd
       go_wp2
       exact ⟨⟨k + 1, by omega, by go_num, HN.out, hbl'⟩, by simp [intOf]; omega⟩
     ·have hk' : k = x.versions.length := by omega
      subst hk'
      have HR := hide (show (namOk x.name && refOk x) = true by rw [HN0.out, HS.out, H1.out, H2.out, HA.out.all_]; rfl)
      have HBB := hide (HB.trans (hbl.mono HSZ))
      go_wp2
      go_ret
      exact ⟨ret_bool (HR.out).symm, HBB.out⟩

set_option maxHeartbeats 4000000 in
set_option maxRecDepth 20000 in
theorem l7Repo_any {cs : List Value} {x : Repo} {fx : List Nat} (u : Int) (w : World) (hx : Rp.repo.R w cs x fx) (hf : fitRepo x) :
  Calls Tryz.prog 73 #[.agg cs.toArray, .int .i64 u] w fun e w' => e = .returned (.bool (repoOk u x)) ∧ Below w.heap.size w w' := by
 obtain ⟨A0, n0, c0, f0, A1, n1, c1, f1, rfl, _, h0, h1⟩ := hx
 obtain rfl := h0.1
 obtain rfl := h1.1
 obtain ⟨_, hcx, hmc, _⟩ := id h1
 unfold maxLen at hmc
 have HF := hide hf
 have HS := hide (repoOk_steps u x)
 clear hf
 have kb := Blk.new w 96 #[.int .i64 x.admin, .slice A0 x.rules.length c0, .slice A1 x.refs.length c1]
 replace h0 := h0.allocN (.cells #[.int .i64 x.admin, .slice A0 x.rules.length c0, .slice A1 x.refs.length c1] 96)
 replace h1 := h1.allocN (.cells #[.int .i64 x.admin, .slice A0 x.rules.length c0, .slice A1 x.refs.length c1] 96)
 have HB := (Below.refl w.heap.size w).alloc nle (.cells #[.int .i64 x.admin, .slice A0 x.rules.length c0, .slice A1 x.refs.length c1] 96)
 go_enter Tryz.func73, Tryz.ntmps73
 go_wp2_with fail
 refine (specIn_any x.admin 1 u _).mono ?_
 rintro e w1 ⟨rfl, hb⟩
 replace kb := kb.step hb
 replace h0 := h0.step hb
 replace h1 := h1.step hb
 replace HB := Below.t HB hb
 clear hb
 cases hd : inB x.admin 1 u
 ·have HR := hide (show repoOk u x = false by rw [HS.out, hd]; rfl)
  clear kb h0 h1 hd
  go_wp2
  go_ret
  exact ⟨ret_bool (HR.out).symm, HB⟩
 ·have H1 := hide hd
  clear hd
  have c1 := Blk.c1 kb
  go_wp2_with fail
  refine (specRulListOk_any _ h0 HF.out.rules).mono ?_
  rintro e w2 ⟨rfl, hb⟩
  replace kb := kb.step hb
  replace h0 := h0.step hb
  replace h1 := h1.step hb
  replace HB := Below.t HB hb
  clear hb
  clear c1
  cases hd : rulListOk x.rules
  ·have HR := hide (show repoOk u x = false by rw [HS.out, hd]; simp)
   clear kb h0 h1 hd
   go_wp2
   go_ret
   exact ⟨ret_bool (HR.out).symm, HB⟩
  ·have H2 := hide hd
   clear hd h0
   have c2 := Blk.c2 kb
   by_cases h3 : x.refs.length ≤ 3
   ·have HSZ := HB.size
    go_wp2
    go_loopw [5] (fun i wr => ∃ k : Nat, k ≤ x.refs.length ∧ i = .int .i64 k ∧ oksTo (refAt x.refs) k ∧ Below w2.heap.size w2 wr) (fun i _ => x.refs.length - (intOf i).toNat)
    case atStart => exact ⟨0, Nat.zero_le _, rfl, oksTo_zero, Below.refl _ _⟩
    case round =>
     clear c2
     obtain ⟨k, hk, rfl, hag, hbl⟩ := hrel
     have HA := hide hag
     clear hag
     have kr := kb.step hbl
     have h1r := h1.step hbl
     have d2 := Blk.c2 kr
     by_cases hlt : k < x.refs.length
     ·obtain ⟨b, o, A2, n2, c2, f2, rfl, hb, hm, q0, q1, q2, q3, hs2, hsub⟩ := ref_cells h1r hlt
      obtain rfl := hs2.1
      have HG := hide (HF.out.refs k hlt)
      have HNO := hide (fun (h : refAt x.refs k = false) => (show repoOk u x = false by rw [HS.out, oksTo.not_ hlt h]; simp))
      have H0 := hide (fun (h : k = 0) => refAt_fst hlt h)
      have H10 := hide (fun (j : Nat) (hj : j < x.refs.length) (h : k = j + 1) => refAt_snd hlt hj h)
      have i0 : (0 : Int) ≤ (k : Int) := by omega
      have i1 : (k : Int) < (x.refs.length : Int) := by omega
      have C1 := fun W (h : Rp.ref.R W [.string x.refs[k].name, .bool x.refs[k].guard, .int .i64 x.refs[k].count, .slice A2 x.refs[k].versions.length c2] x.refs[k] f2) => l7Ref_any W h HG.out
      cases hd : namOk x.refs[k].name && refOk x.refs[k]
      ·simp only [hd] at C1
       have D1 := hide C1
       have HR := hide (HNO.out (show refAt x.refs k = false by unfold refAt; rw [atB_eq hlt, hd]; rfl))
       clear C1 hd
       go_wp2_with fail
       have n0 := BelowW.nonempty wr
       have e0 := BelowW.ex (w := wr)
       have g0 := fun n : BelowW wr => n.cell q0
       have g1 := fun n : BelowW wr => n.cell q1
       have g2 := fun n : BelowW wr => n.cell q2
       have g3 := fun n : BelowW wr => n.cell q3
       have g4 := fun n : BelowW wr => n.cell d2
       clear q0 q1 q2 q3 d2
       refine wp_region_below (by kernel_rfl) (by kernel_rfl) ?_
       repeat (go_big_quiet_step (first | (go_at_call 125; exact BelowW.calls _ (D1.out _ ⟨_, _, _, _, rfl, rfl, BelowW.sl _ hs2⟩))))
       refine wpQuiet_nil ?_
       rintro _ ⟨⟨w4, hb4⟩, rfl⟩
       have hbl' := hide (Below.t hbl hb4)
       clear hb4 e0 g0 g1 g2 g3 g4
       go_wp2
       go_ret
       exact ⟨ret_bool (HR.out).symm, HB.trans (hbl'.out.mono HSZ)⟩
      ·simp only [hd] at C1
       have D1 := hide C1
       have HD := hide hd
       clear C1 hd
       rcases Nat.eq_zero_or_pos k with hk0 | hk0
       ·have hz : decide (0 < k) = false := decide_eq_false (by omega)
        have HN := hide (HA.out.next ((H0.out hk0).trans HD.out))
        clear hk0
        go_wp2_with fail
        have n0 := BelowW.nonempty wr
        have e0 := BelowW.ex (w := wr)
        have g0 := fun n : BelowW wr => n.cell q0
        have g1 := fun n : BelowW wr => n.cell q1
        have g2 := fun n : BelowW wr => n.cell q2
        have g3 := fun n : BelowW wr => n.cell q3
        have g4 := fun n : BelowW wr => n.cell d2
        clear q0 q1 q2 q3 d2
        refine wp_region_below (by kernel_rfl) (by kernel_rfl) ?_
        repeat (go_big_quiet_step (first | (go_at_call 125; exact BelowW.calls _ (D1.out _ ⟨_, _, _, _, rfl, rfl, BelowW.sl _ hs2⟩))))
        refine wpQuiet_nil ?_
        rintro _ ⟨⟨w4, hb4⟩, rfl⟩
        have hbl' := hide (Below.t hbl hb4)
        clear hb4 e0 g0 g1 g2 g3 g4
        go_wp2
        exact ⟨⟨k + 1, by omega, by go_num, HN.out, hbl'.out⟩, by simp [intOf]; omega⟩
       ·obtain ⟨j, hk0⟩ : ∃ j, k = j + 1 := ⟨k - 1, by omega⟩
        have hz : decide (0 < k) = true := decide_eq_true (by omega)
        have hj : j < x.refs.length := by omega
        have HE := hide (H10.out j hj hk0)
        obtain ⟨b', o', _, _, _, _, he, hb', hm', p0, p1, p2, p3, _, _⟩ := ref_cells h1r hj
        cases he
        have e1 : (k : Int) - 1 = (j : Int) := by omega
        have e2 : IntKind.i64.wrap (j : Int) = (j : Int) := IntWalk.i64_in _ (by omega)
        have j0 : (0 : Int) ≤ (j : Int) := by omega
        have j1 : (j : Int) < (x.refs.length : Int) := by omega
        clear hk0 p1 p2 p3
        cases hc : Op.bytesLess x.refs[j].name.toList x.refs[k].name.toList
        ·have HR := hide (HNO.out (HE.out.trans (by rw [show bLt x.refs[j].name x.refs[k].name = false from hc, Bool.and_false])))
         go_wp2_with fail
         have n0 := BelowW.nonempty wr
         have e0 := BelowW.ex (w := wr)
         have g0 := fun n : BelowW wr => n.cell q0
         have g1 := fun n : BelowW wr => n.cell q1
         have g2 := fun n : BelowW wr => n.cell q2
         have g3 := fun n : BelowW wr => n.cell q3
         have g4 := fun n : BelowW wr => n.cell d2
         have g5 := fun n : BelowW wr => n.cell p0
         clear p0
         clear q0 q1 q2 q3 d2
         refine wp_region_below (by kernel_rfl) (by kernel_rfl) ?_
         repeat (go_big_quiet_step (first | (go_at_call 125; exact BelowW.calls _ (D1.out _ ⟨_, _, _, _, rfl, rfl, BelowW.sl _ hs2⟩))))
         refine wpQuiet_nil ?_
         rintro _ ⟨⟨w4, hb4⟩, rfl⟩
         have hbl' := hide (Below.t hbl hb4)
         clear hb4 e0 g0 g1 g2 g3 g4
         go_wp2
         go_ret
         exact ⟨ret_bool (HR.out).symm, HB.trans (hbl'.out.mono HSZ)⟩
        ·have HN := hide (HA.out.next (HE.out.trans (by rw [show bLt x.refs[j].name x.refs[k].name = true from hc, HD.out]; rfl)))
         go_wp2_with fail
         have n0 := BelowW.nonempty wr
         have e0 := BelowW.ex (w := wr)
         have g0 := fun n : BelowW wr => n.cell q0
         have g1 := fun n : BelowW wr => n.cell q1
         have g2 := fun n : BelowW wr => n.cell q2
         have g3 := fun n : BelowW wr => n.cell q3
         have g4 := fun n : BelowW wr => n.cell d2
         have g5 := fun n : BelowW wr => n.cell p0
         clear p0
         clear q0 q1 q2 q3 d2
         refine wp_region_below (by kernel_rfl) (by kernel_rfl) ?_
         repeat (go_big_quiet_step (first | (go_at_call 125; exact BelowW.calls _ (D1.out _ ⟨_, _, _, _, rfl, rfl, BelowW.sl _ hs2⟩))))
         refine wpQuiet_nil ?_
         rintro _ ⟨⟨w4, hb4⟩, rfl⟩
         have hbl' := hide (Below.t hbl hb4)
         clear hb4 e0 g0 g1 g2 g3 g4
         clear hc g5 e1 e2 j0 j1
         go_wp2
         exact ⟨⟨k + 1, by omega, by go_num, HN.out, hbl'.out⟩, by simp [intOf]; omega⟩
     ·have hk' : k = x.refs.length := by omega
      subst hk'
      have HR := hide (show repoOk u x = true by rw [HS.out, H1.out, H2.out, decide_eq_true h3, HA.out.all_]; rfl)
      have HBB := hide (HB.trans (hbl.mono HSZ))
      go_wp2
      go_ret
      exact ⟨ret_bool (HR.out).symm, HBB.out⟩
   ·have HR := hide (show repoOk u x = false by rw [HS.out, decide_eq_false h3]; simp)
    clear kb h1
    go_wp2
    go_ret
    exact ⟨ret_bool (HR.out).symm, HB⟩

set_option maxHeartbeats 4000000 in
set_option maxRecDepth 20000 in
theorem specMdlOk_any {cs : List Value} {x : House} {fx : List Nat} (w : World) (hx : Rp.house.R w cs x fx) (hf : fitHouse x) :
  Calls Tryz.prog 31 #[.agg cs.toArray] w fun e w' => e = .returned (.bool (mdlOk x)) ∧ Below w.heap.size w w' := by
 obtain ⟨A0, n0, c0, f0, A1, n1, c1, f1, A2, n2, c2, f2, rfl, _, h0, h1, h2⟩ := hx
 obtain rfl := h0.1
 obtain rfl := h1.1
 obtain rfl := h2.1
 have hmx0 := h0.max
 have hmx1 := h1.max
 have hmx2 := h2.max
 have HF := hide hf
 have HS := hide (mdlOk_steps x)
 have HU := hide (usersOk_steps x.keys x.used)
 clear hf
 have kb := Blk.new w 35 #[.slice A0 x.keys.length c0, .slice A1 x.used.length c1, .slice A2 x.repos.length c2]
 replace h0 := h0.allocN (.cells #[.slice A0 x.keys.length c0, .slice A1 x.used.length c1, .slice A2 x.repos.length c2] 35)
 replace h1 := h1.allocN (.cells #[.slice A0 x.keys.length c0, .slice A1 x.used.length c1, .slice A2 x.repos.length c2] 35)
 replace h2 := h2.allocN (.cells #[.slice A0 x.keys.length c0, .slice A1 x.used.length c1, .slice A2 x.repos.length c2] 35)
 have HB := (Below.refl w.heap.size w).alloc nle (.cells #[.slice A0 x.keys.length c0, .slice A1 x.used.length c1, .slice A2 x.repos.length c2] 35)
 go_enter Tryz.func31, Tryz.ntmps31
 go_wp2_with fail
 refine (specIn_any (x.keys.length : Int) 1 4 _).mono ?_
 rintro e w1 ⟨rfl, hb⟩
 replace kb := kb.step hb
 replace h0 := h0.step hb
 replace h1 := h1.step hb
 replace h2 := h2.step hb
 replace HB := Below.t HB hb
 clear hb
 have c0 := Blk.c0 kb
 have c1 := Blk.c1 kb
 have c2 := Blk.c2 kb
 cases hd : inB (x.keys.length : Int) 1 4
 ·have HR := hide (show mdlOk x = false by rw [HS.out, HU.out, hd]; rfl)
  clear hd
  go_wp2
  go_ret
  exact ⟨ret_bool (HR.out).symm, HB⟩
 ·have H1 := hide hd
  clear hd
  by_cases hl : x.used.length = x.keys.length
  ·have hl1 : ((x.used.length : Int) != (x.keys.length : Int)) = false := by simp [hl]
   have HL := hide hl
   clear hl
   go_wp2_with fail
   refine (specIn_any (x.repos.length : Int) 1 3 _).mono ?_
   rintro e w2 ⟨rfl, hb⟩
   replace kb := kb.step hb
   replace h0 := h0.step hb
   replace h1 := h1.step hb
   replace h2 := h2.step hb
   replace HB := Below.t HB hb
   clear hb
   clear c0 c1 c2
   clear hl1
   cases hd : inB (x.repos.length : Int) 1 3
   ·have HR := hide (show mdlOk x = false by rw [HS.out, hd, Bool.and_false]; rfl)
    clear hd
    go_wp2
    go_ret
    exact ⟨ret_bool (HR.out).symm, HB⟩
   ·have H3 := hide hd
    clear hd
    have HSZ := HB.size
    have c0 := Blk.c0 kb
    have c1 := Blk.c1 kb
    have c2 := Blk.c2 kb
    go_wp2
    go_loopw [3] (fun i wr => ∃ k : Nat, k ≤ x.keys.length ∧ i = .int .i64 k ∧ oksTo (userAt x.keys x.used) k ∧ Below w2.heap.size w2 wr) (fun i _ => x.keys.length - (intOf i).toNat)
    case atStart => exact ⟨0, Nat.zero_le _, rfl, oksTo_zero, Below.refl _ _⟩
    case round =>
     clear c0 c1 c2
     obtain ⟨k, hk, rfl, hag, hbl⟩ := hrel
     have HA := hide hag
     clear hag
     have kr := kb.step hbl
     have h0r := h0.step hbl
     have h1r := h1.step hbl
     have d0 := Blk.c0 kr
     have d1 := Blk.c1 kr
     have d2 := Blk.c2 kr
     by_cases hlt : k < x.keys.length
     ·have hlt2 : k < x.used.length := by have := HL.out; omega
      have HE := hide (userAt_eq hlt hlt2)
      obtain ⟨b, o, rfl, hb, hm, q0⟩ := int_cells h0r hlt
      obtain ⟨b', o', rfl, hb', hm', p0⟩ := int_cells h1r hlt2
      have i0 : (0 : Int) ≤ (k : Int) := by omega
      have i1 : (k : Int) < (x.keys.length : Int) := by omega
      have i2 : (k : Int) < (x.used.length : Int) := by omega
      go_wp2_with fail
      refine (specIn_any x.keys[k] 1 9999 _).mono ?_
      rintro e w3 ⟨rfl, hb3⟩
      have hbl' := Below.t hbl hb3
      have d0' := cell_step d0 hb3
      have d1' := cell_step d1 hb3
      have p0' := cell_step p0 hb3
      clear hb3 d0 d1 d2 q0 p0 kr h0r h1r
      cases hd : inB x.keys[k] 1 9999
      ·have HR := hide (show mdlOk x = false by rw [HS.out, HU.out, oksTo.not_ hlt (HE.out.trans (by rw [hd]; rfl))]; simp)
       clear hd
       go_wp2
       go_ret
       exact ⟨ret_bool (HR.out).symm, HB.trans (hbl'.mono HSZ)⟩
      ·have HD := hide hd
       clear hd
       go_wp2_with fail
       refine (specIn_any x.used[k] 0 200 _).mono ?_
       rintro e w4 ⟨rfl, hb4⟩
       have hbl2 := Below.t hbl' hb4
       clear hb4 d0' d1' p0' hbl'
       cases hd : inB x.used[k] 0 200
       ·have HR := hide (show mdlOk x = false by rw [HS.out, HU.out, oksTo.not_ hlt (HE.out.trans (by rw [hd, Bool.and_false]))]; simp)
        clear hd
        go_wp2
        go_ret
        exact ⟨ret_bool (HR.out).symm, HB.trans (hbl2.mono HSZ)⟩
       ·have HN := hide (HA.out.next (HE.out.trans (by rw [HD.out, hd]; rfl)))
        clear hd
        go_wp2
        exact ⟨⟨k + 1, by omega, by go_num, HN.out, hbl2⟩, by simp [intOf]; omega⟩
     ·have hk' : k = x.keys.length := by omega
      subst hk'
      have HUU := hide (show usersOk x.keys x.used = true by rw [HU.out, H1.out, decide_eq_true HL.out, HA.out.all_]; rfl)
      have hbl0 := hbl
      go_wp2
      go_loopw [4] (fun i wr => ∃ k : Nat, k ≤ x.repos.length ∧ i = .int .i64 k ∧ oksTo (atB (repoOk x.keys.length) x.repos) k ∧ Below w2.heap.size w2 wr) (fun i _ => x.repos.length - (intOf i).toNat)
      case atStart => exact ⟨0, Nat.zero_le _, rfl, oksTo_zero, hbl0⟩
      case round =>
       clear hbl hbl0 kr h0r h1r d0 d1 d2
       obtain ⟨k, hk, rfl, hag, hbl⟩ := hrel
       clear HA
       have HA := hide hag
       clear hag
       have kr := kb.step hbl
       have h2r := h2.step hbl
       have d0 := Blk.c0 kr
       have d2 := Blk.c2 kr
       by_cases hlt : k < x.repos.length
       ·obtain ⟨b, o, B0, m0, k0, g0, B1, m1, k1, g1, rfl, hb, hm, q0, q1, q2, hs0, hs1, hsub⟩ := repo_cells h2r hlt
        have HE := hide (atB_eq (p := repoOk x.keys.length) hlt)
        have i0 : (0 : Int) ≤ (k : Int) := by omega
        have i1 : (k : Int) < (x.repos.length : Int) := by omega
        have C1 := fun W (h : Rp.repo.R W [.int .i64 x.repos[k].admin, .slice B0 m0 k0, .slice B1 m1 k1] x.repos[k] (g0 ++ g1)) => l7Repo_any (x.keys.length : Int) W h (HF.out k hlt)
        cases hd : repoOk x.keys.length x.repos[k]
        ·have HR := hide (show mdlOk x = false by rw [HS.out, oksTo.not_ hlt (HE.out.trans hd)]; simp)
         simp only [hd] at C1
         have D1 := hide C1
         clear C1 hd
         go_wp2_with fail
         have n0 := BelowW.nonempty wr
         have e0 := BelowW.ex (w := wr)
         have g_0 := fun n : BelowW wr => n.cell q0
         have g_1 := fun n : BelowW wr => n.cell q1
         have g_2 := fun n : BelowW wr => n.cell q2
         have g_3 := fun n : BelowW wr => n.cell d0
         have g_4 := fun n : BelowW wr => n.cell d2
         clear q0 q1 q2 d0 d2
         refine wp_region_below (by kernel_rfl) (by kernel_rfl) ?_
         repeat (go_big_quiet_step (first | (go_at_call 73; exact BelowW.calls _ (D1.out _ ⟨_, _, _, _, _, _, _, _, rfl, rfl, BelowW.sl _ hs0, BelowW.sl _ hs1⟩))))
         refine wpQuiet_nil ?_
         rintro _ ⟨⟨w4, hb4⟩, rfl⟩
         have hbl' := hide (Below.t hbl hb4)
         clear hb4 e0 g_0 g_1 g_2 g_3 g_4
         go_wp2
         go_ret
         exact ⟨ret_bool (HR.out).symm, HB.trans (hbl'.out.mono HSZ)⟩
        ·have HN := hide (HA.out.next (HE.out.trans hd))
         simp only [hd] at C1
         have D1 := hide C1
         clear C1 hd
         go_wp2_with fail
         have n0 := BelowW.nonempty wr
         have e0 := BelowW.ex (w := wr)
         have g_0 := fun n : BelowW wr => n.cell q0
         have g_1 := fun n : BelowW wr => n.cell q1
         have g_2 := fun n : BelowW wr => n.cell q2
         have g_3 := fun n : BelowW wr => n.cell d0
         have g_4 := fun n : BelowW wr => n.cell d2
         clear q0 q1 q2 d0 d2
         refine wp_region_below (by kernel_rfl) (by kernel_rfl) ?_
         repeat (go_big_quiet_step (first | (go_at_call 73; exact BelowW.calls _ (D1.out _ ⟨_, _, _, _, _, _, _, _, rfl, rfl, BelowW.sl _ hs0, BelowW.sl _ hs1⟩))))
         refine wpQuiet_nil ?_
         rintro _ ⟨⟨w4, hb4⟩, rfl⟩
         have hbl' := hide (Below.t hbl hb4)
         clear hb4 e0 g_0 g_1 g_2 g_3 g_4
         go_wp2
         exact ⟨⟨k + 1, by omega, by go_num, HN.out, hbl'.out⟩, by simp [intOf]; omega⟩
       ·have hk' : k = x.repos.length := by omega
        subst hk'
        have HR := hide (show mdlOk x = true by rw [HS.out, HUU.out, H3.out, HA.out.all_]; rfl)
        have HBB := hide (HB.trans (hbl.mono HSZ))
        go_wp2
        go_ret
        exact ⟨ret_bool (HR.out).symm, HBB.out⟩
  ·have hl1 : ((x.used.length : Int) != (x.keys.length : Int)) = true := by simp; omega
   have HR := hide (show mdlOk x = false by rw [HS.out, HU.out, decide_eq_false hl]; simp)
   clear hl
   go_wp2
   go_ret
   exact ⟨ret_bool (HR.out).symm, HB⟩
theorem not_any_not {α : Type} (p : α → Bool) (l : List α) : (!(l.any fun x => !p x)) = l.all p := by
 induction l with
 | nil => rfl
 | cons x l ih => rw [List.any_cons, List.all_cons, Bool.not_or, Bool.not_not, ih]
def repoB (u admin : Int) (rules : List Rule) (names : List ByteArray) : Bool := namesOk names && inB admin 1 u && rulListOk rules && decide (names.length ≤ 3)
theorem repoOk_B (u : Int) (x : Repo) : repoOk u x = (x.refs.all refOk && repoB u x.admin x.rules (x.refs.map (·.name))) := by
 unfold repoOk repoB
 rw [List.length_map]
 cases x.refs.all refOk <;> simp
def rowNames (l : List Ref) (q : Nat) : List Value := ((l.map (·.name)).take q).flatMap fun s => [.string s]
theorem rowNames_zero (l : List Ref) : rowNames l 0 = [] := by simp [rowNames]
theorem rowNames_next {l : List Ref} {q : Nat} (h : q < l.length) : rowNames l (q + 1) = rowNames l q ++ [.string l[q].name] := by
 unfold rowNames
 rw [List.take_succ_eq_append_getElem (by simpa using h), List.flatMap_append, List.flatMap_singleton, List.getElem_map]
theorem rowNames_all (l : List Ref) : rowNames l l.length = (l.map (·.name)).flatMap fun s => [.string s] := by
 unfold rowNames
 rw [List.take_of_length_le (by simp)]

set_option maxHeartbeats 1000000 in
theorem usersOk1_any (x : Int) (w : World) : Calls Tryz.prog 136 #[.int .i64 x] w fun e w' => e = .returned (.bool (!inB x 1 9999)) ∧ Below w.heap.size w w' := by
 go_enter Tryz.func136, Tryz.ntmps136
 go_wp2_with fail
 refine (implIn_any x 1 9999 _).mono ?_
 rintro e w1 ⟨rfl, hb1⟩
 go_wp2
 go_ret
 exact ⟨rfl, hb1⟩

set_option maxHeartbeats 1000000 in
theorem usersOk2_any (x : Int) (w : World) : Calls Tryz.prog 137 #[.int .i64 x] w fun e w' => e = .returned (.bool (!inB x 0 200)) ∧ Below w.heap.size w w' := by
 go_enter Tryz.func137, Tryz.ntmps137
 go_wp2_with fail
 refine (implIn_any x 0 200 _).mono ?_
 rintro e w1 ⟨rfl, hb1⟩
 go_wp2
 go_ret
 exact ⟨rfl, hb1⟩

set_option maxHeartbeats 4000000 in
set_option maxRecDepth 20000 in
theorem implUsersOk_any {A0 A1 : Option Addr} {n0 n1 c0 c1 : Nat} {keys used : List Int} {f0 f1 : List Nat} (w : World) (h0 : SlR Rp.int w A0 n0 c0 keys f0) (h1 : SlR Rp.int w A1 n1 c1 used f1) :
  Calls Tryz.prog 88 #[.slice A0 n0 c0, .slice A1 n1 c1] w fun e w' => e = .returned (.bool (usersOk keys used)) ∧ Below w.heap.size w w' := by
 obtain rfl := h0.1
 obtain rfl := h1.1
 have hmx0 := h0.max
 have hmx1 := h1.max
 have HB := Below.refl w.heap.size w
 have HU := hide (show usersOk keys used = (inB keys.length 1 4 && decide (used.length = keys.length) && (!(keys.any fun n => !inB n 1 9999)) && (!(used.any fun n => !inB n 0 200))) by rw [not_any_not, not_any_not]; rfl)
 go_enter Tryz.func88, Tryz.ntmps88
 go_wp2_with fail
 refine (implIn_any (keys.length : Int) 1 4 _).mono ?_
 rintro e w1 ⟨rfl, hb⟩
 replace h0 := h0.step hb
 replace h1 := h1.step hb
 replace HB := Below.t HB hb
 clear hb
 cases hd : inB (keys.length : Int) 1 4
 ·have HR := hide (show usersOk keys used = false by rw [HU.out, hd]; rfl)
  clear hd
  go_wp2
  go_ret
  exact ⟨ret_bool (HR.out).symm, HB⟩
 ·have H1 := hide hd
  clear hd
  by_cases hl : used.length = keys.length
  ·have hl1 : ((used.length : Int) == (keys.length : Int)) = true := by simp [hl]
   have HL := hide hl
   clear hl
   go_wp2_with fail
   refine (hasInt_any (l := keys) (fun n => !inB n 1 9999) 136 #[] (enters_of Tryz.func136 (by kernel_rfl) rfl) _ h0 (fun i hi v fq w2 hB hR => ?_)).mono ?_
   ·obtain ⟨hv, _⟩ := hR
    obtain rfl : v = .int .i64 keys[i] := by simpa using hv
    exact usersOk1_any _ _
   rintro e w2 ⟨rfl, hb⟩
   replace h1 := h1.step hb
   replace HB := Below.t HB hb
   clear hb h0 hl1
   cases hd : keys.any fun n => !inB n 1 9999
   ·have H2 := hide hd
    clear hd
    go_wp2_with fail
    refine (hasInt_any (l := used) (fun n => !inB n 0 200) 137 #[] (enters_of Tryz.func137 (by kernel_rfl) rfl) _ h1 (fun i hi v fq w3 hB hR => ?_)).mono ?_
    ·obtain ⟨hv, _⟩ := hR
     obtain rfl : v = .int .i64 used[i] := by simpa using hv
     exact usersOk2_any _ _
    rintro e w3 ⟨rfl, hb⟩
    replace HB := Below.t HB hb
    clear hb h1
    have HR := hide (show usersOk keys used = !(used.any fun n => !inB n 0 200) by rw [HU.out, H1.out, decide_eq_true HL.out, H2.out]; rfl)
    generalize (used.any fun n => !inB n 0 200) = bb at HR ⊢
    cases bb
    ·skip
     go_wp2
     go_ret
     exact ⟨ret_bool (HR.out).symm, HB⟩
    ·skip
     go_wp2
     go_ret
     exact ⟨ret_bool (HR.out).symm, HB⟩
   ·have HR := hide (show usersOk keys used = false by rw [HU.out, hd]; simp)
    clear hd
    go_wp2
    go_ret
    exact ⟨ret_bool (HR.out).symm, HB⟩
  ·have hl1 : ((used.length : Int) == (keys.length : Int)) = false := by simp; omega
   have HR := hide (show usersOk keys used = false by rw [HU.out, decide_eq_false hl]; simp)
   clear hl
   go_wp2
   go_ret
   exact ⟨ret_bool (HR.out).symm, HB⟩

set_option maxHeartbeats 4000000 in
set_option maxRecDepth 20000 in
theorem implRepoOk_any {A0 A1 : Option Addr} {n0 n1 c0 c1 : Nat} {rules : List Rule} {names : List ByteArray} {f0 f1 : List Nat} (u admin : Int) (w : World) (h0 : SlR Rp.rule w A0 n0 c0 rules f0) (h1 : SlR Rp.str w A1 n1 c1 names f1) (hr : fitRules rules) (hs : ∀ i (h : i < names.length), names[i].size ≤ 4194304) :
  Calls Tryz.prog 93 #[.int .i64 u, .int .i64 admin, .slice A0 n0 c0, .slice A1 n1 c1] w fun e w' => e = .returned (.bool (repoB u admin rules names)) ∧ Below w.heap.size w w' := by
 obtain rfl := h0.1
 obtain rfl := h1.1
 have hmx := h1.max
 have HS := hide (namesOk_steps names)
 have HFR := hide hr
 have HFS := hide hs
 clear hr hs
 go_enter Tryz.func93, Tryz.ntmps93
 go_wp2
 go_loopw [13] (fun i wr => ∃ k : Nat, k ≤ names.length ∧ i = .int .i64 k ∧ oksTo (nameAt names) k ∧ Below w.heap.size w wr) (fun i _ => names.length - (intOf i).toNat)
 case atStart => exact ⟨0, Nat.zero_le _, rfl, oksTo_zero, Below.refl _ _⟩
 case round =>
  obtain ⟨k, hk, rfl, hag, hbl⟩ := hrel
  have HA := hide hag
  clear hag
  have h1r := h1.step hbl
  by_cases hlt : k < names.length
  ·obtain ⟨b, o, rfl, hb, hm, q0⟩ := str_cells h1r hlt
   have HNO := hide (fun (h : nameAt names k = false) => (show repoB u admin rules names = false by unfold repoB; rw [HS.out, oksTo.not_ hlt h]; simp))
   have H0 := hide (show nameAt names k = (namOk names[k] && stepOk bLt names k) by unfold nameAt; rw [atB_eq hlt])
   have i0 : (0 : Int) ≤ (k : Int) := by omega
   have i1 : (k : Int) < (names.length : Int) := by omega
   rcases Nat.eq_zero_or_pos k with hk0 | hk0
   ·have hz : decide (0 < k) = false := decide_eq_false (by omega)
    have HST := hide (show stepOk bLt names k = true by subst hk0; rfl)
    clear hk0
    go_wp2_with fail
    refine (implNamOk_any names[k] (HFS.out k hlt) _).mono ?_
    rintro e w1 ⟨rfl, hb1⟩
    have hbl' := hide (Below.t hbl hb1)
    clear hb1 q0
    cases hd : namOk names[k]
    ·have HR := hide (HNO.out (by rw [H0.out, hd]; rfl))
     clear hd
     go_wp2
     go_ret
     exact ⟨ret_bool (HR.out).symm, hbl'.out⟩
    ·have HD := hide hd
     clear hd
     have HN := hide (HA.out.next (show nameAt names k = true by rw [H0.out, HD.out, HST.out]; rfl))
     go_wp2
     exact ⟨⟨k + 1, by omega, by go_num, HN.out, hbl'.out⟩, by simp [intOf]; omega⟩
   ·obtain ⟨j, hk0⟩ : ∃ j, k = j + 1 := ⟨k - 1, by omega⟩
    have hz : decide (0 < k) = true := decide_eq_true (by omega)
    have hj : j < names.length := by omega
    have HST := hide (show stepOk bLt names k = bLt names[j] names[k] by subst hk0; exact stepOk_succ hlt)
    obtain ⟨b', o', he, hb', hm', p0⟩ := str_cells h1r hj
    cases he
    have e1 : (k : Int) - 1 = (j : Int) := by omega
    have e2 : IntKind.i64.wrap (j : Int) = (j : Int) := IntWalk.i64_in _ (by omega)
    have j0 : (0 : Int) ≤ (j : Int) := by omega
    have j1 : (j : Int) < (names.length : Int) := by omega
    clear hk0
    go_wp2_with fail
    refine (implNamOk_any names[k] (HFS.out k hlt) _).mono ?_
    rintro e w1 ⟨rfl, hb1⟩
    have hbl' := hide (Below.t hbl hb1)
    have p1 := cell_step p0 hb1
    clear hb1 q0 p0
    cases hd : namOk names[k]
    ·have HR := hide (HNO.out (by rw [H0.out, hd]; rfl))
     clear hd
     go_wp2
     go_ret
     exact ⟨ret_bool (HR.out).symm, hbl'.out⟩
    ·have HD := hide hd
     clear hd
     cases hc : Op.bytesLess names[j].toList names[k].toList
     ·have HR := hide (HNO.out (by rw [H0.out, HST.out, show bLt names[j] names[k] = false from hc, Bool.and_false]))
      have hl1 := leq_true hc
      clear hc
      go_wp2
      go_ret
      exact ⟨ret_bool (HR.out).symm, hbl'.out⟩
     ·have HN := hide (HA.out.next (show nameAt names k = true by rw [H0.out, HD.out, HST.out, show bLt names[j] names[k] = true from hc]; rfl))
      obtain ⟨hl1, hl2⟩ := leq_false hc
      clear hc
      go_wp2
      exact ⟨⟨k + 1, by omega, by go_num, HN.out, hbl'.out⟩, by simp [intOf]; omega⟩
  ·have hk' : k = names.length := by omega
   subst hk'
   have HNN := hide (show namesOk names = true by rw [HS.out]; exact HA.out.all_)
   have h0r := h0.step hbl
   go_wp2_with fail
   refine (implIn_any admin 1 u _).mono ?_
   rintro e w1 ⟨rfl, hb1⟩
   have hbl' := Below.t hbl hb1
   replace h0r := h0r.step hb1
   clear hb1
   cases hd : inB admin 1 u
   ·have HR := hide (show repoB u admin rules names = false by unfold repoB; rw [hd]; simp)
    clear hd
    go_wp2
    go_ret
    exact ⟨ret_bool (HR.out).symm, hbl'⟩
   ·have H1 := hide hd
    clear hd
    go_wp2_with fail
    refine (implRulListOk_any _ h0r HFR.out).mono ?_
    rintro e w2 ⟨rfl, hb2⟩
    have hbl2 := Below.t hbl' hb2
    clear hb2
    cases hd : rulListOk rules
    ·have HR := hide (show repoB u admin rules names = false by unfold repoB; rw [hd]; simp)
     clear hd
     go_wp2
     go_ret
     exact ⟨ret_bool (HR.out).symm, hbl2⟩
    ·have H2 := hide hd
     clear hd
     have HR := hide (show repoB u admin rules names = decide ((names.length : Int) ≤ 3) by unfold repoB; rw [HNN.out, H1.out, H2.out]; simp only [Bool.true_and]; exact decide_eq_decide.2 (by omega))
     go_wp2
     go_ret
     exact ⟨ret_bool (HR.out).symm, hbl2⟩

set_option maxHeartbeats 1000000 in
theorem mdlOk1_any {A : Option Addr} {n c : Nat} {l : List File} {fp : List Nat} (w : World) (hx : SlR Rp.file w A n c l fp) (hf : fitFiles l) : Calls Tryz.prog 91 #[.slice A n c] w fun e w' => e = .returned (.bool (!treOk l)) ∧ Below w.heap.size w w' := by
 obtain rfl := hx.1
 go_enter Tryz.func91, Tryz.ntmps91
 go_wp2_with fail
 refine (implTreOk_any _ hx hf).mono ?_
 rintro e w1 ⟨rfl, hb1⟩
 go_wp2
 go_ret
 exact ⟨rfl, hb1⟩

set_option maxHeartbeats 4000000 in
set_option maxRecDepth 20000 in
theorem implMdlOk_any {cs : List Value} {x : House} {fx : List Nat} (w : World) (hx : Rp.house.R w cs x fx) (hf : fitHouse x) :
  Calls Tryz.prog 46 #[.agg cs.toArray] w fun e w' => e = .returned (.bool (mdlOk x)) ∧ Below w.heap.size w w' := by
 obtain ⟨A0, n0, c0, f0, A1, n1, c1, f1, A2, n2, c2, f2, rfl, _, h0, h1, h2⟩ := hx
 obtain rfl := h0.1
 obtain rfl := h1.1
 obtain rfl := h2.1
 have hmx0 := h0.max
 have hmx2 := h2.max
 have HF := hide hf
 have HS := hide (mdlOk_steps x)
 clear hf
 obtain ⟨i0, hi, hz0, hz1, hz2⟩ := info_parts Tryz.infoStr
 have kb := Blk.new w 35 #[.slice A0 x.keys.length c0, .slice A1 x.used.length c1, .slice A2 x.repos.length c2]
 replace h0 := h0.allocN (.cells #[.slice A0 x.keys.length c0, .slice A1 x.used.length c1, .slice A2 x.repos.length c2] 35)
 replace h1 := h1.allocN (.cells #[.slice A0 x.keys.length c0, .slice A1 x.used.length c1, .slice A2 x.repos.length c2] 35)
 replace h2 := h2.allocN (.cells #[.slice A0 x.keys.length c0, .slice A1 x.used.length c1, .slice A2 x.repos.length c2] 35)
 have HB := (Below.refl w.heap.size w).alloc nle (.cells #[.slice A0 x.keys.length c0, .slice A1 x.used.length c1, .slice A2 x.repos.length c2] 35)
 go_enter Tryz.func46, Tryz.ntmps46
 go_wp2_with fail
 refine (implUsersOk_any _ h0 h1).mono ?_
 rintro e w1 ⟨rfl, hb⟩
 replace kb := kb.step hb
 replace h2 := h2.step hb
 replace HB := Below.t HB hb
 clear hb
 clear h0 h1
 cases hd : usersOk x.keys x.used
 ·have HR := hide (show mdlOk x = false by rw [HS.out, hd]; rfl)
  clear hd
  go_wp2
  go_ret
  exact ⟨ret_bool (HR.out).symm, HB⟩
 ·have H1 := hide hd
  clear hd
  have c2 := Blk.c2 kb
  go_wp2_with fail
  refine (implIn_any (x.repos.length : Int) 1 3 _).mono ?_
  rintro e w2 ⟨rfl, hb⟩
  replace kb := kb.step hb
  replace h2 := h2.step hb
  replace HB := Below.t HB hb
  clear hb
  clear c2
  cases hd : inB (x.repos.length : Int) 1 3
  ·have HR := hide (show mdlOk x = false by rw [HS.out, hd, Bool.and_false]; rfl)
   clear hd
   go_wp2
   go_ret
   exact ⟨ret_bool (HR.out).symm, HB⟩
  ·have H3 := hide hd
   clear hd
   have HSZ := HB.size
   have c2 := Blk.c2 kb
   go_wp2
   go_loopw [24] (fun i wr => ∃ k : Nat, k ≤ x.repos.length ∧ i = .int .i64 k ∧ oksTo (atB (repoOk x.keys.length) x.repos) k ∧ Below w2.heap.size w2 wr) (fun i _ => x.repos.length - (intOf i).toNat)
   case atStart => exact ⟨0, Nat.zero_le _, rfl, oksTo_zero, Below.refl _ _⟩
   case round =>
    clear c2
    obtain ⟨k, hk, rfl, hag, hbl⟩ := hrel
    have HA := hide hag
    clear hag
    have kr := kb.step hbl
    have h2r := h2.step hbl
    by_cases hlt : k < x.repos.length
    ·obtain ⟨b, o, B0, m0, k0, g0, B1, m1, k1, g1, rfl, hb, hm, q0, q1, q2, hs0, hs1, hsub⟩ := repo_cells h2r hlt
     obtain rfl := hs0.1
     obtain rfl := hs1.1
     have hmx1 := (HF.out k hlt).few
     have HE := hide (atB_eq (p := repoOk x.keys.length) hlt)
     have HG := hide (HF.out k hlt)
     have i1 : (k : Int) < (x.repos.length : Int) := by omega
     have HNO := hide (fun (h : repoOk x.keys.length x.repos[k] = false) => (show mdlOk x = false by rw [HS.out, oksTo.not_ hlt (HE.out.trans h)]; simp))
     have HYES := hide (fun (h : repoOk x.keys.length x.repos[k] = true) => HA.out.next (HE.out.trans h))
     generalize x.repos[k] = y at q0 q1 q2 hs0 hs1 hmx1 HG HNO HYES
     clear HE
     have kp := Blk.new wr 96 #[.int .i64 y.admin, .slice B0 y.rules.length k0, .slice B1 y.refs.length k1]
     replace hs0 := hs0.allocN (.cells #[.int .i64 y.admin, .slice B0 y.rules.length k0, .slice B1 y.refs.length k1] 96)
     replace hs1 := hs1.allocN (.cells #[.int .i64 y.admin, .slice B0 y.rules.length k0, .slice B1 y.refs.length k1] 96)
     replace kr := kr.alloc (.cells #[.int .i64 y.admin, .slice B0 y.rules.length k0, .slice B1 y.refs.length k1] 96)
     have hbl' := hbl.alloc hbl.size (.cells #[.int .i64 y.admin, .slice B0 y.rules.length k0, .slice B1 y.refs.length k1] 96)
     go_wp2
     clear q0 q1 q2 h2r
     obtain ⟨R0, hR0⟩ : ∃ r, wr.heap.size = r := ⟨_, rfl⟩
     generalize hwx : wr.alloc (.cells #[.int .i64 y.admin, .slice B0 y.rules.length k0, .slice B1 y.refs.length k1] 96) = wx at kp hs0 hs1 kr hbl' ⊢
     clear hwx
     simp only [hR0] at kp ⊢
     clear hR0 hbl
     have hsz := hbl'.size
     go_loopw [5, 31] (fun v i wr => ∃ q : Nat, q ≤ y.refs.length ∧ i = .int .i64 q ∧ oksTo (atB refOk y.refs) q ∧ wr.ownsRow wx.heap.size 9 1 v q (rowNames y.refs q) ∧ Below wx.heap.size wx wr) (fun _ i _ => y.refs.length - (intOf i).toNat)
     case atStart => exact ⟨0, Nat.zero_le _, rfl, oksTo_zero, by rw [rowNames_zero]; exact World.ownsRow_nil _ _ _ _, Below.refl _ _⟩
     case round =>
      obtain ⟨q, hq, rfl, hag2, hown, hbl2⟩ := hrel
      have HA2 := hide hag2
      clear hag2
      have hs1r := hs1.step hbl2
      by_cases hlt2 : q < y.refs.length
      ·obtain ⟨b2, o2, A3, n3, c3, f3, rfl, hb2, hm2, r0, r1, r2, r3, hs3, hsub3⟩ := ref_cells hs1r hlt2
       obtain rfl := hs3.1
       have hmx3 := hs3.max
       have HE2 := hide (atB_eq (p := refOk) hlt2)
       have HGQ := hide (HG.out.refs q hlt2)
       have HRN := hide (rowNames_next hlt2)
       have hf3 : ∀ z ∈ f3, z < wx.heap.size := fun z hz => hs1.lt z (hsub3 z hz)
       have HNO2 := hide (fun (h : refOk y.refs[q] = false) => HNO.out (show repoOk x.keys.length y = false by rw [repoOk_B, ← allN_atB, oksTo.not_ hlt2 (HE2.out.trans h)]; rfl))
       have HYES2 := hide (fun (h : refOk y.refs[q] = true) => HA2.out.next (HE2.out.trans h))
       have q1 : (q : Int) < (y.refs.length : Int) := by omega
       generalize y.refs[q] = z at r0 r1 r2 r3 hs3 hmx3 HGQ HNO2 HYES2 HRN
       clear HE2
       have kq := Blk.new wr 99 #[.string z.name, .bool z.guard, .int .i64 z.count, .slice A3 z.versions.length c3]
       have hbz := ((Below.refl wx.heap.size wr).alloc hbl2.size (.cells #[.string z.name, .bool z.guard, .int .i64 z.count, .slice A3 z.versions.length c3] 99)).alloc (show wx.heap.size ≤ _ by have := hbl2.size; simp; omega) (.cells #[.string z.name] 9)
       go_wp2_with (at_builtin; refine wpList_append_own _ rfl _ _ 37 rfl wx.heap.size 9 i0 _ 1 16 Tryz.underlying37 hi hz0 hz1 hz2 rfl (by decide) _ _ _ rfl ((hown.alloc _).alloc _) ⟨wr.heap.size + 1, 0, none⟩ 1 1 [.string z.name] rfl rfl (news_alloc' (by simp) [.string z.name] _) (by simp; rfl) (by unfold maxLen; omega) (by omega) (by have := hbl2.size; simp; omega) ?_)
       intro v' w5 hown' hgrow _
       have hlow : Below wx.heap.size wr w5 := hbz.grown hgrow (by have := hbl2.size; simp; omega) (fun j hj => (hown.lt j hj).1)
       replace kq := (kq.alloc (.cells #[.string z.name] 9)).grown hgrow (fun j hj => by have := (hown.lt j hj).2; omega)
       replace hs3 := hs3.keep fun a ha => hlow.block a (hf3 a ha)
       have hbl5 := hbl2.trans hlow
       clear hgrow hbz hlow r0 r1 r2 r3 hown hs1r
       have u2 := Blk.c2 kq
       have u3 := Blk.c3 kq
       go_wp2_with fail
       refine (implIn_any z.count 0 14 _).mono ?_
       rintro e w6 ⟨rfl, hb⟩
       replace hown' := own_step hown' hb
       replace kq := kq.step hb
       replace hs3 := hs3.step hb
       replace hbl5 := Below.trans hbl5 (hb.mono hbl5.size)
       clear hb u2 u3
       cases hd : inB z.count 0 14
       ·have HR := hide (HNO2.out (show refOk z = false by unfold refOk; rw [hd]; rfl))
        clear hd
        have HBB := hide (HB.trans ((hbl'.trans (hbl5.mono hsz)).mono HSZ))
        go_wp2
        go_ret
        exact ⟨ret_bool (HR.out).symm, HBB.out⟩
       ·have G1 := hide hd
        clear hd
        have u3 := Blk.c3 kq
        go_wp2_with fail
        refine (implIn_any (z.versions.length : Int) 1 3 _).mono ?_
        rintro e w7 ⟨rfl, hb⟩
        replace hown' := own_step hown' hb
        replace kq := kq.step hb
        replace hs3 := hs3.step hb
        replace hbl5 := Below.trans hbl5 (hb.mono hbl5.size)
        clear hb u3
        cases hd : inB (z.versions.length : Int) 1 3
        ·have HR := hide (HNO2.out (show refOk z = false by unfold refOk; rw [hd, Bool.and_false]; rfl))
         clear hd
         have HBB := hide (HB.trans ((hbl'.trans (hbl5.mono hsz)).mono HSZ))
         go_wp2
         go_ret
         exact ⟨ret_bool (HR.out).symm, HBB.out⟩
        ·have G2 := hide hd
         clear hd
         have u3 := Blk.c3 kq
         go_wp2_with fail
         refine (hasFileS_any (l := z.versions) (fun l => !treOk l) 91 #[] (enters_of Tryz.func91 (by kernel_rfl) rfl) _ hs3 (fun i hi v fq w8 hB hR => ?_)).mono ?_
         ·obtain ⟨A9, n9, c9, hv, hs9⟩ := hR
          obtain rfl : v = .slice A9 n9 c9 := by simpa using hv
          exact mdlOk1_any _ hs9 (HGQ.out.versions i hi)
         rintro e w8 ⟨rfl, hb⟩
         replace hown' := own_step hown' hb
         replace hbl5 := Below.trans hbl5 (hb.mono hbl5.size)
         clear hb u3 kq hs3
         have HV := hide (show refOk z = !(z.versions.any fun l => !treOk l) by rw [not_any_not]; unfold refOk; rw [G1.out, G2.out]; rfl)
         generalize (z.versions.any fun l => !treOk l) = bb at HV ⊢
         cases bb
         ·have HN := hide (HYES2.out HV.out)
          rw [← HRN.out] at hown'
          have HO := hide hown'
          clear hown'
          go_wp2
          exact ⟨⟨q + 1, by omega, by go_num, HN.out, HO.out, hbl5⟩, by simp [intOf]; omega⟩
         ·have HR := hide (HNO2.out HV.out)
          have HBB := hide (HB.trans ((hbl'.trans (hbl5.mono hsz)).mono HSZ))
          clear hown'
          go_wp2
          go_ret
          exact ⟨ret_bool (HR.out).symm, HBB.out⟩
      ·have hq' : q = y.refs.length := by omega
       subst hq'
       have HOW := hide (show wr.ownsRow wx.heap.size 9 1 _ (y.refs.map (·.name)).length ((y.refs.map (·.name)).flatMap fun s => [.string s]) by rw [List.length_map, ← rowNames_all]; exact hown)
       obtain ⟨A7, c7, f7, hv7, hs7⟩ := own_str HOW.out
       rw [List.length_map] at hv7 hs7
       subst hv7
       clear hown HOW
       have HZ := hide (show ∀ i (h : i < (y.refs.map Ref.name).length), (y.refs.map Ref.name)[i].size ≤ 4194304 from fun i hi => by rw [List.getElem_map]; exact (HG.out.refs i (by simpa using hi)).name)
       replace kr := kr.step hbl2
       replace kp := kp.step hbl2
       replace hs0 := hs0.step hbl2
       have u0 := Blk.c0 kr
       have t0 := Blk.c0 kp
       have t1 := Blk.c1 kp
       go_wp2_with fail
       refine (implRepoOk_any (x.keys.length : Int) y.admin _ hs0 hs7 HG.out.rules HZ.out).mono ?_
       rintro e w9 ⟨rfl, hb⟩
       have HBB := hide (hbl'.trans ((hbl2.trans (hb.mono hbl2.size)).mono hsz))
       clear hb u0 t0 t1
       have HV := hide (show repoOk x.keys.length y = repoB x.keys.length y.admin y.rules (y.refs.map (·.name)) by rw [repoOk_B, ← allN_atB, HA2.out.all_]; rfl)
       generalize repoB x.keys.length y.admin y.rules (y.refs.map (·.name)) = bb at HV ⊢
       cases bb
       ·have HR := hide (HNO.out HV.out)
        have HBC := hide (HB.trans (HBB.out.mono HSZ))
        go_wp2
        go_ret
        exact ⟨ret_bool (HR.out).symm, HBC.out⟩
       ·have HN := hide (HYES.out HV.out)
        go_wp2
        exact ⟨⟨k + 1, by omega, by go_num, HN.out, HBB.out⟩, by simp [intOf]; omega⟩
    ·have hk' : k = x.repos.length := by omega
     subst hk'
     have HR := hide (show mdlOk x = true by rw [HS.out, H1.out, H3.out, HA.out.all_]; rfl)
     have HBB := hide (HB.trans (hbl.mono HSZ))
     go_wp2
     go_ret
     exact ⟨ret_bool (HR.out).symm, HBB.out⟩
def nameIs (name : ByteArray) (x : Ref) : Bool := decide (x.name = name)
theorem idxP_at {α : Type} (q : α → Bool) (l : List α) : (l.findIdx? q = none ∧ idxP q l = -1) ∨ ∃ k, l.findIdx? q = some k ∧ k < l.length ∧ idxP q l = k := by
 unfold idxP
 cases h : l.findIdx? q with
 | none => exact .inl ⟨rfl, rfl⟩
 | some k => exact .inr ⟨k, rfl, (List.findIdx?_eq_some_iff_getElem.1 h).1, rfl⟩
theorem version_neg {vs : List (List File)} {b : Int} (h : b < 0) : version vs b = none := by unfold version; rw [if_neg (by omega)]
theorem version_far {vs : List (List File)} {b : Int} (h : (vs.length : Int) ≤ b) : version vs b = none := by unfold version; rw [if_neg (by omega)]
theorem version_at {vs : List (List File)} {b : Int} {j : Nat} (h0 : 0 ≤ b) (h : (j : Int) = vs.length - 1 - b) (hj : j < vs.length) : version vs b = some vs[j] := by
 unfold version
 rw [if_pos (by omega), show vs.length - 1 - b.toNat = j by omega]
 exact List.getElem?_eq_getElem hj
theorem filesOf_out {m : House} {repo back : Int} {name : ByteArray} (h : inB repo 0 ((m.repos.length : Int) - 1) = false) : filesOf m repo name back = none := by
 unfold filesOf
 by_cases h0 : 0 ≤ repo
 ·rw [if_pos h0]
  have : ¬ repo.toNat < m.repos.length := fun hc => by
   have : inB repo 0 ((m.repos.length : Int) - 1) = true := by simp [inB]; omega
   rw [this] at h; cases h
  rw [List.getElem?_eq_none (by omega)]
 ·rw [if_neg h0]
theorem filesOf_none {m : House} {i : Nat} {repo back : Int} {name : ByteArray} (hr : repo = i) (hi : i < m.repos.length) (h : m.repos[i].refs.findIdx? (nameIs name) = none) : filesOf m repo name back = none := by
 subst hr
 unfold filesOf
 rw [if_pos (by omega), Int.toNat_natCast, List.getElem?_eq_getElem hi]
 simp only
 rw [show refIdx m.repos[i].refs name = none from h]
theorem filesOf_some {m : House} {i k : Nat} {repo back : Int} {name : ByteArray} (hr : repo = i) (hi : i < m.repos.length) (hk : k < m.repos[i].refs.length) (h : m.repos[i].refs.findIdx? (nameIs name) = some k) : filesOf m repo name back = version m.repos[i].refs[k].versions back := by
 subst hr
 unfold filesOf
 rw [if_pos (by omega), Int.toNat_natCast, List.getElem?_eq_getElem hi]
 simp only
 rw [show refIdx m.repos[i].refs name = some k from h]
 simp only
 rw [getD_at hk]
def FilesAt (w : World) (o : Option (List File)) (f0 : List Nat) (e : Ending) (w' : World) : Prop :=
 ∃ A n c f, e = .returned (.tuple #[.slice A n c, .bool o.isSome]) ∧ SlR Rp.file w' A n c (o.getD []) f ∧ (∀ z ∈ f, z ∈ f0) ∧ Below w.heap.size w w'
set_option maxHeartbeats 4000000 in
set_option maxRecDepth 20000 in
theorem l7At_any {cs : List Value} {x : Repo} {fx : List Nat} (name : ByteArray) (w : World) (hx : Rp.repo.R w cs x fx) :
  Calls Tryz.prog 63 #[.agg cs.toArray, .string name] w fun e w' => e = .returned (.int .i64 (idxP (nameIs name) x.refs)) ∧ Below w.heap.size w w' := by
 obtain ⟨A0, n0, c0, f0, A1, n1, c1, f1, rfl, _, h0, h1⟩ := hx
 obtain rfl := h1.1
 have hmx := h1.max
 have kb := Blk.new w 96 #[.int .i64 x.admin, .slice A0 n0 c0, .slice A1 x.refs.length c1]
 replace h1 := h1.allocN (.cells #[.int .i64 x.admin, .slice A0 n0 c0, .slice A1 x.refs.length c1] 96)
 have HB := (Below.refl w.heap.size w).alloc nle (.cells #[.int .i64 x.admin, .slice A0 n0 c0, .slice A1 x.refs.length c1] 96)
 have HSZ := HB.size
 go_enter Tryz.func63, Tryz.ntmps63
 go_wp2
 generalize hwx : w.alloc (.cells #[.int .i64 x.admin, .slice A0 n0 c0, .slice A1 x.refs.length c1] 96) = wx at kb h1 HB HSZ ⊢
 clear hwx
 go_loopw [5] (fun i wr => ∃ k : Nat, k ≤ x.refs.length ∧ i = .int .i64 k ∧ noneTo (nameIs name) x.refs k ∧ Below wx.heap.size wx wr) (fun i _ => x.refs.length - (intOf i).toNat)
 case atStart => exact ⟨0, Nat.zero_le _, rfl, noneTo_zero, Below.refl _ _⟩
 case round =>
  obtain ⟨k, hk, rfl, hag, hbl⟩ := hrel
  have HA := hide hag
  clear hag
  have kr := kb.step hbl
  have c2 := Blk.c2 kr
  by_cases hlt : k < x.refs.length
  ·obtain ⟨b, o, A3, n3, c3, f3, rfl, hb, hm, r0, r1, r2, r3, _, _⟩ := ref_cells (h1.step hbl) hlt
   have i0 : (0 : Int) ≤ (k : Int) := by omega
   have i1 : (k : Int) < (x.refs.length : Int) := by omega
   have hq := beq_toListBytes' x.refs[k].name name
   clear r1 r2 r3
   cases hd : decide (x.refs[k].name = name)
   ·have HN := hide (HA.out.next hlt hd)
    rw [hd] at hq
    clear hd
    go_wp2
    exact ⟨⟨k + 1, by omega, by go_num, HN.out, hbl⟩, by simp [intOf]; omega⟩
   ·have HN := hide (HA.out.hit hlt hd)
    rw [hd] at hq
    clear hd
    go_wp2
    go_ret
    exact ⟨ret_int HN.out.symm, HB.trans (hbl.mono HSZ)⟩
  ·have hk' : k = x.refs.length := by omega
   subst hk'
   have HN := hide HA.out.all_
   go_wp2
   go_ret
   exact ⟨ret_int HN.out.symm, HB.trans (hbl.mono HSZ)⟩

set_option maxHeartbeats 1000000 in
theorem ref1_any {cs : List Value} {x : Ref} {fx : List Nat} (name : ByteArray) (b1 : Nat) (w : World) (hx : Rp.ref.R w cs x fx) (c1 : w.cell? ⟨b1, 0, none⟩ = some (.string name)) :
  Calls Tryz.prog 160 #[.agg cs.toArray, .pointer (some ⟨b1, 0, none⟩)] w fun e w' => e = .returned (.bool (nameIs name x)) ∧ Below w.heap.size w w' := by
 obtain ⟨A0, n0, c0, f0, rfl, _, h0⟩ := hx
 have hq := beq_toListBytes' x.name name
 have d1 := cell_alloc c1 (.cells #[.string x.name, .bool x.guard, .int .i64 x.count, .slice A0 n0 c0] 99)
 clear c1
 go_enter Tryz.func160, Tryz.ntmps160
 go_wp2
 go_ret
 exact ⟨rfl, (Below.refl _ _).alloc nle _⟩

set_option maxHeartbeats 4000000 in
set_option maxRecDepth 20000 in
theorem implRef_any {cs : List Value} {x : Repo} {fx : List Nat} (name : ByteArray) (w : World) (hx : Rp.repo.R w cs x fx) :
  Calls Tryz.prog 117 #[.agg cs.toArray, .string name] w fun e w' => e = .returned (.int .i64 (idxP (nameIs name) x.refs)) ∧ Below w.heap.size w w' := by
 have hmf := makeFunc_run
 obtain ⟨A0, n0, c0, f0, A1, n1, c1, f1, rfl, _, h0, h1⟩ := hx
 go_enter Tryz.func117, Tryz.ntmps117
 go_wp2_with fail
 refine (idxRef_any (l := x.refs) (nameIs name) _ _ (enters_of Tryz.func160 (by kernel_rfl) rfl) _ ((h1.allocN _).allocN _) (fun i hi cs fq w1 hB hR => ?_)).mono ?_
 ·refine ref1_any name _ w1 hR ?_
  have hc := (Blk.step (Blk.new _ _ _) hB).cell 0
  simpa using hc
 ·rintro e w1 ⟨rfl, hb1⟩
  go_wp2
  go_ret
  exact ⟨rfl, Below.box2 hb1⟩

set_option maxHeartbeats 4000000 in
set_option maxRecDepth 20000 in
theorem version_any {cs : List Value} {x : Ref} {fx : List Nat} (back : Int) (hb1 : back ≤ 9223372036854775807) (w : World) (hx : Rp.ref.R w cs x fx) :
  Calls Tryz.prog 118 #[.agg cs.toArray, .int .i64 back] w (FilesAt w (version x.versions back) fx) := by
 obtain ⟨A0, n0, c0, f0, rfl, hff, h0⟩ := hx
 obtain rfl := h0.1
 obtain rfl := hff
 have hmx := h0.max
 go_enter Tryz.func118, Tryz.ntmps118
 by_cases hneg : back < 0
 ·have HV := hide (version_neg (vs := x.versions) hneg)
  go_wp2
  go_ret2
  rw [HV.out]
  exact ⟨none, 0, 0, [], rfl, SlR.nil, by simp, (Below.refl _ _).alloc nle _⟩
 ·by_cases hfar : (x.versions.length : Int) ≤ back
  ·have HV := hide (version_far (vs := x.versions) hfar)
   have e1 : (x.versions.length : Int) - 1 - back < 0 := by omega
   have e2 : IntKind.i64.wrap ((x.versions.length : Int) - 1 - back) = (x.versions.length : Int) - 1 - back := IntWalk.i64_in _ (by omega)
   go_wp2
   go_ret2
   rw [HV.out]
   exact ⟨none, 0, 0, [], rfl, SlR.nil, by simp, (Below.refl _ _).alloc nle _⟩
  ·obtain ⟨j, hj⟩ : ∃ j : Nat, (j : Int) = x.versions.length - 1 - back := ⟨(x.versions.length - 1 - back).toNat, by omega⟩
   have hjl : j < x.versions.length := by omega
   have HV := hide (version_at (vs := x.versions) (by omega) hj hjl)
   obtain ⟨b, o, A1, n1, c1, f1, rfl, hb, hm, q0, hs1, hsub⟩ := slice_cells h0 hjl
   have q0 := cell_alloc q0 (.cells #[.string x.name, .bool x.guard, .int .i64 x.count, .slice (some ⟨b, o, none⟩) x.versions.length c0] 99)
   have e1 : (x.versions.length : Int) - 1 - back = (j : Int) := hj.symm
   have i0 : (0 : Int) ≤ (j : Int) := by omega
   have i1 : (j : Int) < (x.versions.length : Int) := by omega
   have e2 : IntKind.i64.wrap (j : Int) = (j : Int) := IntWalk.i64_in _ (by omega)
   have e3 : ¬ (j : Int) < 0 := by omega
   clear hj
   go_wp2
   go_ret2
   rw [HV.out]
   exact ⟨A1, n1, c1, f1, rfl, hs1.allocN _, hsub, (Below.refl _ _).alloc nle _⟩

theorem filesOf_len {m : House} {repo back : Int} {name : ByteArray} (hm : mdlOk m = true) : ((filesOf m repo name back).getD []).length ≤ 60 := by
 cases h : filesOf m repo name back with
 | none => simp
 | some l => exact (treOk_iff.1 (filesOf_ok hm h)).1
set_option maxHeartbeats 4000000 in
set_option maxRecDepth 20000 in
theorem files_any {cs : List Value} {x : House} {fx : List Nat} (repo : Int) (name : ByteArray) (back : Int) (hb1 : back ≤ 9223372036854775807) (w : World) (hx : Rp.house.R w cs x fx) :
  Calls Tryz.prog 65 #[.agg cs.toArray, .int .i64 repo, .string name, .int .i64 back] w (FilesAt w (filesOf x repo name back) fx) := by
 obtain ⟨A0, n0, c0, f0, A1, n1, c1, f1, A2, n2, c2, f2, rfl, hff, h0, h1, h2⟩ := hx
 obtain rfl := h2.1
 have hmx2 := h2.max
 have kb := Blk.new w 35 #[.slice A0 n0 c0, .slice A1 n1 c1, .slice A2 x.repos.length c2]
 replace h2 := h2.allocN (.cells #[.slice A0 n0 c0, .slice A1 n1 c1, .slice A2 x.repos.length c2] 35)
 have HB := (Below.refl w.heap.size w).alloc nle (.cells #[.slice A0 n0 c0, .slice A1 n1 c1, .slice A2 x.repos.length c2] 35)
 have e2 : IntKind.i64.wrap ((x.repos.length : Int) - 1) = (x.repos.length : Int) - 1 := IntWalk.i64_in _ (by omega)
 go_enter Tryz.func65, Tryz.ntmps65
 go_wp2_with fail
 refine (implIn_any repo 0 ((x.repos.length : Int) - 1) _).mono ?_
 rintro e w1 ⟨rfl, hb⟩
 replace kb := kb.step hb
 replace h2 := h2.step hb
 replace HB := Below.t HB hb
 clear hb
 clear e2
 cases hd : inB repo 0 ((x.repos.length : Int) - 1)
 ·have HV := hide (filesOf_out (name := name) (back := back) hd)
  clear hd
  go_wp2
  go_ret2
  rw [HV.out]
  exact ⟨none, 0, 0, [], rfl, SlR.nil, by simp, HB⟩
 ·obtain ⟨hd1, hd2⟩ := inB_iff.1 hd
  obtain ⟨i, rfl⟩ : ∃ i : Nat, repo = (i : Int) := ⟨repo.toNat, by omega⟩
  have hi : i < x.repos.length := by omega
  clear hd hd1 hd2
  obtain ⟨b, o, B0, m0, k0, g0, B1, m1, k1, g1, rfl, hb, hm, q0, q1, q2, hs0, hs1, hsub⟩ := repo_cells h2 hi
  obtain rfl := hs1.1
  have hmx1 := hs1.max
  have c2 := Blk.c2 kb
  have i1 : (i : Int) < (x.repos.length : Int) := by omega
  have i0 : (0 : Int) ≤ (i : Int) := by omega
  go_wp2_with fail
  refine (implRef_any (x := x.repos[i]) name _ ⟨_, _, _, _, _, _, _, _, rfl, rfl, hs0, hs1⟩).mono ?_
  rintro e w2 ⟨rfl, hb⟩
  replace kb := kb.step hb
  replace hs1 := hs1.step hb
  have q2 := cell_step q2 hb
  replace HB := Below.t HB hb
  clear hb c2 q0 q1
  rcases idxP_at (nameIs name) x.repos[i].refs with ⟨hn, he⟩ | ⟨k, hn, hk, he⟩
  ·have HV := hide (filesOf_none (back := back) rfl hi hn)
   rw [he]
   clear he hn
   go_wp2
   go_ret2
   rw [HV.out]
   exact ⟨none, 0, 0, [], rfl, SlR.nil, by simp, HB⟩
  ·have HV := hide (filesOf_some (back := back) rfl hi hk hn)
   rw [he]
   clear he hn
   obtain ⟨b3, o3, A3, n3, c3, f3, rfl, hb3, hm3, r0, r1, r2, r3, hs3, hsub3⟩ := ref_cells hs1 hk
   have c2 := Blk.c2 kb
   have j1 : (k : Int) < (x.repos[i].refs.length : Int) := by omega
   have j0 : ¬ (k : Int) < 0 := by omega
   have j2 : (0 : Int) ≤ (k : Int) := by omega
   go_wp2_with fail
   refine (version_any (x := x.repos[i].refs[k]) back hb1 _ ⟨_, _, _, _, rfl, rfl, hs3⟩).mono ?_
   rintro e w3 ⟨A4, n4, c4, f4, rfl, hs4, hsub4, hb⟩
   replace HB := Below.t HB hb
   have HSUB := hide (show ∀ z ∈ f4, z ∈ fx from fun z hz => by
    rw [hff]
    exact List.mem_append_right _ (List.mem_append_right _ (hsub z (List.mem_append_right _ (hsub3 z (hsub4 z hz))))))
   clear hb c2 r0 r1 r2 r3 q2
   go_wp2
   go_ret2
   rw [HV.out]
   exact ⟨A4, n4, c4, f4, rfl, hs4, HSUB.out, HB⟩

theorem readable_yes {rules : List Rule} {user : Int} {ref : ByteArray} {l : List File} {k : Nat} (hk : k < l.length) (h : rulMay rules user ref l[k].path false = true) : readable rules user ref (l.take (k + 1)) = readable rules user ref (l.take k) ++ [l[k]] := by
 unfold readable
 rw [List.take_succ_eq_append_getElem hk, List.filter_append, show List.filter (fun f => rulMay rules user ref f.path false) [l[k]] = [l[k]] by simp [h]]
theorem readable_no {rules : List Rule} {user : Int} {ref : ByteArray} {l : List File} {k : Nat} (hk : k < l.length) (h : rulMay rules user ref l[k].path false = false) : readable rules user ref (l.take (k + 1)) = readable rules user ref (l.take k) := by
 unfold readable
 rw [List.take_succ_eq_append_getElem hk, List.filter_append, show List.filter (fun f => rulMay rules user ref f.path false) [l[k]] = [] by simp [h], List.append_nil]
theorem readable_le (rules : List Rule) (user : Int) (ref : ByteArray) (l : List File) (k : Nat) : (readable rules user ref (l.take k)).length ≤ l.length :=
 Nat.le_trans (List.length_filter_le _ _) (by simp; omega)
theorem treOk_fit {l : List File} (h : treOk l = true) : fitFiles l := fun i hi => by
 have h1 := (treOk_iff.1 h).2.1 _ (List.getElem_mem hi)
 simp only [fileOk, Bool.and_eq_true] at h1
 have := pthOk_size h1.1.1
 omega
set_option maxHeartbeats 4000000 in
set_option maxRecDepth 20000 in
theorem readable_any {A A0 : Option Addr} {n c n0 c0 : Nat} {l : List File} {rules : List Rule} {fp f0 : List Nat} (user : Int) (ref : ByteArray) (w : World) (h0 : SlR Rp.rule w A0 n0 c0 rules f0) (hx : SlR Rp.file w A n c l fp) (hr : fitRules rules) (hf : fitFiles l) (hl : l.length ≤ 4194304) :
  Calls Tryz.prog 70 #[.slice A0 n0 c0, .int .i64 user, .string ref, .slice A n c] w (OwnF 104 2 encFile w (readable rules user ref l)) := by
 obtain rfl := hx.1
 obtain ⟨i0, hi, hz0, hz1, hz2⟩ := info_parts infoC_File
 have HR := hide hr
 have HF := hide hf
 clear hr hf
 go_enter Tryz.func70, Tryz.ntmps70
 go_wp2
 go_loopw [9, 14] (fun v i wr => ∃ k : Nat, k ≤ l.length ∧ i = .int .i64 k ∧ wr.ownsRow w.heap.size 104 2 v (readable rules user ref (l.take k)).length ((readable rules user ref (l.take k)).flatMap encFile) ∧ Below w.heap.size w wr) (fun _ i _ => l.length - (intOf i).toNat)
 case atStart => exact ⟨0, Nat.zero_le _, rfl, World.ownsRow_nil _ _ _ _, Below.refl _ _⟩
 case round =>
  obtain ⟨k, hk, rfl, hown, hbl⟩ := hrel
  have hsz := hbl.size
  have hle := readable_le rules user ref l k
  by_cases hlt : k < l.length
  ·obtain ⟨b, o, rfl, hb, hm, q0, q1⟩ := file_cells (hx.step hbl) hlt
   have HY := hide (fun (h : rulMay rules user ref l[k].path false = true) => readable_yes hlt h)
   have HN := hide (fun (h : rulMay rules user ref l[k].path false = false) => readable_no hlt h)
   have HFK := hide (HF.out k hlt)
   generalize hg : l[k] = f at q0 q1 HY HN HFK
   clear hg
   have kq := Blk.new wr 104 #[.string f.path, .string f.bytes]
   have i1 : (k : Int) < (l.length : Int) := by omega
   have HW := hide hown
   clear hown
   go_wp2_with fail
   refine (implRulMay_any user ref f.path false _ ((h0.step hbl).allocN _) HR.out HFK.out).mono ?_
   rintro e w1 ⟨rfl, hb1⟩
   have hown1 := own_step (HW.out.alloc _) hb1
   replace kq := kq.step hb1
   have hbl1 := (hbl.alloc hbl.size (.cells #[.string f.path, .string f.bytes] 104)).trans (hb1.mono (by simp; omega))
   have hsz1 := hbl1.size
   clear hb1 q0 q1 HW
   cases hd : rulMay rules user ref f.path false
   ·have HE := hide (HN.out hd)
    have HW := hide hown1
    clear hd hown1 kq
    go_wp2
    refine ⟨⟨k + 1, by omega, by go_num, ?_, hbl1⟩, by simp [intOf]; omega⟩
    rw [HE.out]
    exact HW.out
   ·have HE := hide (HY.out hd)
    clear hd
    have u0 := Blk.c0 kq
    have u1 := Blk.c1 kq
    go_wp2_with (at_builtin; refine wpList_append_own _ rfl _ _ 36 rfl w.heap.size 104 i0 _ 2 32 Tryz.underlying36 hi hz0 hz1 hz2 rfl (by decide) _ _ _ rfl (hown1.alloc _) ⟨w1.heap.size, 0, none⟩ 1 1 (encFile f) rfl rfl (news_alloc w1 (encFile f) _) (Rp.file.one (w := w1) ⟨rfl, rfl⟩) (by unfold maxLen; omega) (by omega) (by simp; omega) ?_)
    intro v' w5 hown' hgrow _
    have HO := hide hown'
    have HBB := hide ((hbl1.alloc hbl1.size _).grown hgrow (by simp; omega) (fun j hj => (hown1.lt j hj).1))
    clear hown' hgrow hown1 kq u0 u1 hbl1
    go_wp2
    refine ⟨⟨k + 1, by omega, by go_num, ?_, HBB.out⟩, by simp [intOf]; omega⟩
    rw [HE.out, List.length_append, List.flatMap_append, List.flatMap_singleton]
    exact HO.out
  ·have hk' : k = l.length := by omega
   subst hk'
   rw [List.take_of_length_le nle] at hown
   have HO := hide hown
   clear hown
   go_wp2
   go_ret
   exact ⟨_, rfl, HO.out, hbl⟩

def pathIs (path : ByteArray) (f : File) : Bool := decide (f.path = path)

set_option maxHeartbeats 1000000 in
theorem find1_any (x : File) (path : ByteArray) (b1 : Nat) (w : World) (c1 : w.cell? ⟨b1, 0, none⟩ = some (.string path)) :
  Calls Tryz.prog 197 #[.agg (encFile x).toArray, .pointer (some ⟨b1, 0, none⟩)] w fun e w' => e = .returned (.bool (pathIs path x)) ∧ Below w.heap.size w w' := by
 have hq := beq_toListBytes' x.path path
 have d1 := cell_alloc c1 (.cells #[.string x.path, .string x.bytes] 104)
 clear c1
 unfold encFile
 go_enter Tryz.func197, Tryz.ntmps197
 go_wp2
 go_ret
 exact ⟨rfl, (Below.refl _ _).alloc nle _⟩

set_option maxHeartbeats 4000000 in
set_option maxRecDepth 20000 in
theorem find_any {A : Option Addr} {n c : Nat} {l : List File} {fp : List Nat} (path : ByteArray) (w : World) (hx : SlR Rp.file w A n c l fp) :
  Calls Tryz.prog 186 #[.slice A n c, .string path] w fun e w' => e = .returned (.int .i64 (idxP (pathIs path) l)) ∧ Below w.heap.size w w' := by
 have hmf := makeFunc_run
 have h1 := hx.allocN (.cells #[.string path] 9)
 have HQ := hide (Blk.new w 9 #[.string path])
 go_enter Tryz.func186, Tryz.ntmps186
 go_wp2_with fail
 refine (idxFile_any (l := l) (pathIs path) _ _ (enters_of Tryz.func197 (by kernel_rfl) rfl) _ h1 (fun i hi cs fq w1 hB hR => ?_)).mono ?_
 ·obtain ⟨rfl, rfl⟩ := hR
  exact find1_any l[i] path _ w1 ((HQ.out.step hB).cell 0)
 ·rintro e w1 ⟨rfl, hb1⟩
  go_wp2
  go_ret
  exact ⟨rfl, Below.box1 hb1⟩

set_option maxHeartbeats 4000000 in
set_option maxRecDepth 20000 in
theorem l4Find_any {A : Option Addr} {n c : Nat} {l : List File} {fp : List Nat} (path : ByteArray) (w : World) (hx : SlR Rp.file w A n c l fp) :
  Calls Tryz.prog 180 #[.slice A n c, .string path] w fun e w' => e = .returned (.int .i64 (idxP (pathIs path) l)) ∧ Below w.heap.size w w' := by
 obtain ⟨rfl, hcx, hmx, _⟩ := id hx
 unfold maxLen at hmx
 go_enter Tryz.func180, Tryz.ntmps180
 go_wp2
 go_loopw [5] (fun i wr => ∃ k : Nat, k ≤ l.length ∧ i = .int .i64 k ∧ noneTo (pathIs path) l k ∧ Below w.heap.size w wr) (fun i _ => l.length - (intOf i).toNat)
 case atStart => exact ⟨0, Nat.zero_le _, rfl, noneTo_zero, Below.refl _ _⟩
 case round =>
  obtain ⟨k, hk, rfl, hag, hbl⟩ := hrel
  have HA := hide hag
  clear hag
  by_cases hlt : k < l.length
  ·obtain ⟨b, o, rfl, hb, hm, h0, h1⟩ := file_cells (hx.step hbl) hlt
   have i0 : (0 : Int) ≤ (k : Int) := by omega
   have i1 : (k : Int) < (l.length : Int) := by omega
   have hq := beq_toListBytes' l[k].path path
   cases hd : decide (l[k].path = path)
   ·have HN := hide (HA.out.next hlt hd)
    rw [hd] at hq
    clear hd
    go_wp2
    exact ⟨⟨k + 1, by omega, by go_num, HN.out, hbl⟩, by simp [intOf]; omega⟩
   ·have HN := hide (HA.out.hit hlt hd)
    rw [hd] at hq
    clear hd
    go_wp2
    go_ret
    exact ⟨ret_int HN.out.symm, hbl⟩
  ·have hk' : k = l.length := by omega
   subst hk'
   have HN := hide HA.out.all_
   go_wp2
   go_ret
   exact ⟨ret_int HN.out.symm, hbl⟩

/-! Sizes. -/
def fitEdits (es : List Edit) : Prop := es.length ≤ 4194304 ∧ ∀ e ∈ es, e.path.size ≤ 4194304 ∧ e.bytes.size ≤ 4194304
theorem treSize_succ {es : List Edit} {k : Nat} (h : k < es.length) : treSize (es.take (k + 1)) = treSize (es.take k) + (es[k].path.size + es[k].bytes.size) := by
 unfold treSize
 rw [List.take_succ_eq_append_getElem h]
 simp only [List.map_append, List.sum_append, List.map_cons, List.map_nil, List.sum_cons, List.sum_nil, Nat.add_zero]
theorem treSize_le {es : List Edit} (h : fitEdits es) : ∀ k, k ≤ es.length → treSize (es.take k) ≤ k * 8388608
 | 0, _ => by simp [treSize]
 | k + 1, hk => by
  have ih := treSize_le h k (by omega)
  have := h.2 _ (List.getElem_mem (show k < es.length by omega))
  rw [treSize_succ (by omega)]
  omega

set_option maxHeartbeats 4000000 in
set_option maxRecDepth 20000 in
theorem implTreSize_any {A : Option Addr} {n c : Nat} {es : List Edit} {fp : List Nat} (w : World) (hx : SlR Rp.edit w A n c es fp) (hf : fitEdits es) :
  Calls Tryz.prog 150 #[.slice A n c] w fun e w' => e = .returned (.int .i64 (treSize es : Nat)) ∧ Below w.heap.size w w' := by
 obtain ⟨rfl, hcx, hmx, _⟩ := id hx
 unfold maxLen at hmx
 have HF := hide hf
 have hl4 := hf.1
 clear hf
 go_enter Tryz.func150, Tryz.ntmps150
 go_wp2
 go_loopw [3, 8] (fun s i wr => ∃ k : Nat, k ≤ es.length ∧ i = .int .i64 k ∧ s = .int .i64 (treSize (es.take k) : Nat) ∧ Below w.heap.size w wr) (fun _ i _ => es.length - (intOf i).toNat)
 case atStart => exact ⟨0, Nat.zero_le _, rfl, rfl, Below.refl _ _⟩
 case round =>
  obtain ⟨k, hk, rfl, rfl, hbl⟩ := hrel
  by_cases hlt : k < es.length
  ·obtain ⟨b, o, rfl, hb, hm, h0, h1, h2⟩ := edit_cells (hx.step hbl) hlt
   have hle := treSize_le HF.out k hk
   have hsz := HF.out.2 _ (List.getElem_mem hlt)
   have HS := hide (treSize_succ hlt)
   have i1 : (k : Int) < (es.length : Int) := by omega
   have HB := hide (hbl.alloc hbl.size (.cells #[.string es[k].path, .string es[k].bytes, .bool es[k].gone] 126))
   generalize treSize (es.take k) = s at *
   obtain ⟨z0, z1⟩ := hsz
   go_wp2
   exact ⟨⟨k + 1, by omega, by go_num, by rw [HS.out]; go_num, HB.out⟩, by simp [intOf]; omega⟩
  ·have hk' : k = es.length := by omega
   subst hk'
   rw [List.take_of_length_le nle]
   go_wp2
   go_ret
   exact ⟨rfl, hbl⟩

set_option maxHeartbeats 4000000 in
set_option maxRecDepth 20000 in
theorem specTreSize_any {A : Option Addr} {n c : Nat} {es : List Edit} {fp : List Nat} (w : World) (hx : SlR Rp.edit w A n c es fp) (hf : fitEdits es) :
  Calls Tryz.prog 85 #[.slice A n c] w fun e w' => e = .returned (.int .i64 (treSize es : Nat)) ∧ Below w.heap.size w w' := by
 obtain ⟨rfl, hcx, hmx, _⟩ := id hx
 unfold maxLen at hmx
 have HF := hide hf
 have hl4 := hf.1
 clear hf
 go_enter Tryz.func85, Tryz.ntmps85
 go_wp2
 go_loopw [3, 4] (fun s i wr => ∃ k : Nat, k ≤ es.length ∧ i = .int .i64 k ∧ s = .int .i64 (treSize (es.take k) : Nat) ∧ Below w.heap.size w wr) (fun _ i _ => es.length - (intOf i).toNat)
 case atStart => exact ⟨0, Nat.zero_le _, rfl, rfl, Below.refl _ _⟩
 case round =>
  obtain ⟨k, hk, rfl, rfl, hbl⟩ := hrel
  by_cases hlt : k < es.length
  ·obtain ⟨b, o, rfl, hb, hm, h0, h1, h2⟩ := edit_cells (hx.step hbl) hlt
   have hle := treSize_le HF.out k hk
   have hsz := HF.out.2 _ (List.getElem_mem hlt)
   have HS := hide (treSize_succ hlt)
   have i0 : (0 : Int) ≤ (k : Int) := by omega
   have i1 : (k : Int) < (es.length : Int) := by omega
   generalize treSize (es.take k) = s at *
   obtain ⟨z0, z1⟩ := hsz
   have e1 : IntKind.i64.wrap ((s : Int) + (es[k].path.size : Int)) = (s : Int) + (es[k].path.size : Int) := IntWalk.i64_in _ (by omega)
   have e2 : IntKind.i64.wrap ((s : Int) + (es[k].path.size : Int) + (es[k].bytes.size : Int)) = (s : Int) + (es[k].path.size : Int) + (es[k].bytes.size : Int) := IntWalk.i64_in _ (by omega)
   go_wp2_with fail
   go_quiet (fail)
   clear e1 e2
   go_wp2
   exact ⟨⟨k + 1, by omega, by go_num, by rw [HS.out]; go_num, Below.drewN' hbl _⟩, by simp [intOf]; omega⟩
  ·have hk' : k = es.length := by omega
   subst hk'
   rw [List.take_of_length_le nle]
   go_wp2
   go_ret
   exact ⟨rfl, hbl⟩

/-! Under a path. -/
theorem treUnder_yes {path : ByteArray} {l : List File} {k : Nat} (hk : k < l.length) (h : pthUnder path l[k].path = true) : treUnder (l.take (k + 1)) path = treUnder (l.take k) path ++ [l[k]] := by
 unfold treUnder
 rw [List.take_succ_eq_append_getElem hk, List.filter_append, show List.filter (fun f => pthUnder path f.path) [l[k]] = [l[k]] by simp [h]]
theorem treUnder_no {path : ByteArray} {l : List File} {k : Nat} (hk : k < l.length) (h : pthUnder path l[k].path = false) : treUnder (l.take (k + 1)) path = treUnder (l.take k) path := by
 unfold treUnder
 rw [List.take_succ_eq_append_getElem hk, List.filter_append, show List.filter (fun f => pthUnder path f.path) [l[k]] = [] by simp [h], List.append_nil]
theorem treUnder_le (path : ByteArray) (l : List File) (k : Nat) : (treUnder (l.take k) path).length ≤ l.length :=
 Nat.le_trans (List.length_filter_le _ _) (by simp; omega)

set_option maxHeartbeats 4000000 in
set_option maxRecDepth 20000 in
theorem implTreUnder_any {A : Option Addr} {n c : Nat} {l : List File} {fp : List Nat} (path : ByteArray) (w : World) (hx : SlR Rp.file w A n c l fp) (hp : path.size ≤ 4194304) (hf : fitFiles l) (hl : l.length ≤ 4194304) :
  Calls Tryz.prog 144 #[.slice A n c, .string path] w (OwnF 104 2 encFile w (treUnder l path)) := by
 obtain rfl := hx.1
 obtain ⟨i0, hi, hz0, hz1, hz2⟩ := info_parts infoC_File
 have HF := hide hf
 clear hf
 go_enter Tryz.func144, Tryz.ntmps144
 go_wp2
 go_loopw [5, 10] (fun v i wr => ∃ k : Nat, k ≤ l.length ∧ i = .int .i64 k ∧ wr.ownsRow w.heap.size 104 2 v (treUnder (l.take k) path).length ((treUnder (l.take k) path).flatMap encFile) ∧ Below w.heap.size w wr) (fun _ i _ => l.length - (intOf i).toNat)
 case atStart => exact ⟨0, Nat.zero_le _, rfl, World.ownsRow_nil _ _ _ _, Below.refl _ _⟩
 case round =>
  obtain ⟨k, hk, rfl, hown, hbl⟩ := hrel
  have hsz := hbl.size
  have hle := treUnder_le path l k
  by_cases hlt : k < l.length
  ·obtain ⟨b, o, rfl, hb, hm, q0, q1⟩ := file_cells (hx.step hbl) hlt
   have HY := hide (fun (h : pthUnder path l[k].path = true) => treUnder_yes hlt h)
   have HN := hide (fun (h : pthUnder path l[k].path = false) => treUnder_no hlt h)
   have HFK := hide (HF.out k hlt)
   generalize hg : l[k] = f at q0 q1 HY HN HFK
   clear hg
   have kq := Blk.new wr 104 #[.string f.path, .string f.bytes]
   have i1 : (k : Int) < (l.length : Int) := by omega
   have HW := hide hown
   clear hown
   go_wp2_with fail
   refine (implPthUnder_any path f.path hp HFK.out _).mono ?_
   rintro e w1 ⟨rfl, hb1⟩
   have hown1 := own_step (HW.out.alloc _) hb1
   replace kq := kq.step hb1
   have hbl1 := (hbl.alloc hbl.size (.cells #[.string f.path, .string f.bytes] 104)).trans (hb1.mono (by simp; omega))
   have hsz1 := hbl1.size
   clear hb1 q0 q1 HW
   cases hd : pthUnder path f.path
   ·have HE := hide (HN.out hd)
    have HW := hide hown1
    clear hd hown1 kq
    go_wp2
    refine ⟨⟨k + 1, by omega, by go_num, ?_, hbl1⟩, by simp [intOf]; omega⟩
    rw [HE.out]
    exact HW.out
   ·have HE := hide (HY.out hd)
    clear hd
    have u0 := Blk.c0 kq
    have u1 := Blk.c1 kq
    go_wp2_with (at_builtin; refine wpList_append_own _ rfl _ _ 36 rfl w.heap.size 104 i0 _ 2 32 Tryz.underlying36 hi hz0 hz1 hz2 rfl (by decide) _ _ _ rfl (hown1.alloc _) ⟨w1.heap.size, 0, none⟩ 1 1 (encFile f) rfl rfl (news_alloc w1 (encFile f) _) (Rp.file.one (w := w1) ⟨rfl, rfl⟩) (by unfold maxLen; omega) (by omega) (by simp; omega) ?_)
    intro v' w5 hown' hgrow _
    have HO := hide hown'
    have HBB := hide ((hbl1.alloc hbl1.size _).grown hgrow (by simp; omega) (fun j hj => (hown1.lt j hj).1))
    clear hown' hgrow hown1 kq u0 u1 hbl1
    go_wp2
    refine ⟨⟨k + 1, by omega, by go_num, ?_, HBB.out⟩, by simp [intOf]; omega⟩
    rw [HE.out, List.length_append, List.flatMap_append, List.flatMap_singleton]
    exact HO.out
  ·have hk' : k = l.length := by omega
   subst hk'
   rw [List.take_of_length_le nle] at hown
   have HO := hide hown
   clear hown
   go_wp2
   go_ret
   exact ⟨_, rfl, HO.out, hbl⟩

set_option maxHeartbeats 4000000 in
set_option maxRecDepth 20000 in
theorem specTreUnder_any {A : Option Addr} {n c : Nat} {l : List File} {fp : List Nat} (path : ByteArray) (w : World) (hx : SlR Rp.file w A n c l fp) (hp : path.size ≤ 4194304) (hf : fitFiles l) (hl : l.length ≤ 4194304) :
  Calls Tryz.prog 80 #[.slice A n c, .string path] w (OwnF 104 2 encFile w (treUnder l path)) := by
 obtain rfl := hx.1
 obtain ⟨i0, hi, hz0, hz1, hz2⟩ := info_parts infoC_File
 have HF := hide hf
 have hmx := hx.max
 clear hf
 have HM := hide (World.ownsRow_made (base := w.heap.size) (e := 104) (size := 2) w #[] 0 nle (by simp [maxLen]) rfl)
 have HBM := hide ((Below.refl w.heap.size w).alloc nle (.cells #[] 104))
 go_enter Tryz.func80, Tryz.ntmps80
 go_wp2
 go_loopw [5, 6] (fun v i wr => ∃ k : Nat, k ≤ l.length ∧ i = .int .i64 k ∧ wr.ownsRow w.heap.size 104 2 v (treUnder (l.take k) path).length ((treUnder (l.take k) path).flatMap encFile) ∧ Below w.heap.size w wr) (fun _ i _ => l.length - (intOf i).toNat)
 case atStart => exact ⟨0, Nat.zero_le _, rfl, HM.out, HBM.out⟩
 case round =>
  obtain ⟨k, hk, rfl, hown, hbl⟩ := hrel
  have hsz := hbl.size
  have hle := treUnder_le path l k
  by_cases hlt : k < l.length
  ·obtain ⟨b, o, rfl, hb, hm, q0, q1⟩ := file_cells (hx.step hbl) hlt
   have HY := hide (fun (h : pthUnder path l[k].path = true) => treUnder_yes hlt h)
   have HN := hide (fun (h : pthUnder path l[k].path = false) => treUnder_no hlt h)
   have HFK := hide (HF.out k hlt)
   generalize hg : l[k] = f at q0 q1 HY HN HFK
   clear hg
   have i0' : (0 : Int) ≤ (k : Int) := by omega
   have i1 : (k : Int) < (l.length : Int) := by omega
   have HW := hide hown
   clear hown
   go_wp2_with fail
   refine (specPthUnder_any path f.path hp HFK.out _).mono ?_
   rintro e w1 ⟨rfl, hb1⟩
   have hown1 := own_step HW.out hb1
   replace q0 := cell_step q0 hb1
   replace q1 := cell_step q1 hb1
   have hbl1 := Below.t hbl hb1
   have hsz1 := hbl1.size
   clear hb1 HW
   cases hd : pthUnder path f.path
   ·have HE := hide (HN.out hd)
    have HW := hide hown1
    clear hd hown1 q0 q1
    go_wp2
    refine ⟨⟨k + 1, by omega, by go_num, ?_, hbl1⟩, by simp [intOf]; omega⟩
    rw [HE.out]
    exact HW.out
   ·have HE := hide (HY.out hd)
    clear hd
    go_wp2_with (at_builtin; refine wpList_append_own _ rfl _ _ 36 rfl w.heap.size 104 i0 _ 2 32 Tryz.underlying36 hi hz0 hz1 hz2 rfl (by decide) _ _ _ rfl (hown1.alloc _) ⟨w1.heap.size, 0, none⟩ 1 1 (encFile f) rfl rfl (news_alloc w1 (encFile f) _) (Rp.file.one (w := w1) ⟨rfl, rfl⟩) (by unfold maxLen; omega) (by omega) (by simp; omega) ?_)
    intro v' w5 hown' hgrow _
    have HO := hide hown'
    have HBB := hide ((hbl1.alloc hbl1.size _).grown hgrow (by simp; omega) (fun j hj => (hown1.lt j hj).1))
    clear hown' hgrow hown1 q0 q1 hbl1
    go_wp2
    refine ⟨⟨k + 1, by omega, by go_num, ?_, HBB.out⟩, by simp [intOf]; omega⟩
    rw [HE.out, List.length_append, List.flatMap_append, List.flatMap_singleton]
    exact HO.out
  ·have hk' : k = l.length := by omega
   subst hk'
   rw [List.take_of_length_le nle] at hown
   have HO := hide hown
   clear hown
   go_wp2
   go_ret
   exact ⟨_, rfl, HO.out, hbl⟩
set_option maxHeartbeats 2000000 in
theorem heldIntS_any {A : Option Addr} {n c : Nat} {x : List (Int)} {fx : List Nat} (k0 : Int) (w : World) (hx : SlR Rp.int w A n c (markL (fun _ k => (k : Int)) (fun _ => 1) x k0) fx) (hk0 : 0 ≤ k0) (hkm : k0 + (countL (fun _ => 1) x : Nat) ≤ 1152921504606846976) :
  Calls Tryz.prog 59 #[.slice A n c, .int .i64 k0] w fun e w' => e = .returned (.int .i64 (k0 + (countL (fun _ => 1) x : Nat))) ∧ Below w.heap.size w w' := by
 obtain ⟨hnx, hcx, hmx, _⟩ := id hx
 rw [markL_length] at hnx
 subst hnx
 unfold maxLen at hmx
 go_enter Tryz.func59, Tryz.ntmps59
 go_wp2
 go_loopw [1, 5] (fun kv i wr => ∃ (i' : Nat) (m : Int), i' ≤ x.length ∧ i = .int .i64 i' ∧ kv = .int .i64 m ∧ HeldTo (fun _ => 1) x k0 i' m ∧ Below w.heap.size w wr) (fun _ i _ => x.length - (intOf i).toNat)
 case atStart => exact ⟨0, k0, Nat.zero_le _, rfl, rfl, HeldTo.start, Below.refl _ _⟩
 case round =>
  obtain ⟨i, m, hi, rfl, rfl, hh, hbl⟩ := hrel
  have hm0 := hh.low hk0
  have HH := hide hh
  clear hh
  by_cases hlt : i < x.length
  ·have hltm : i < (markL (fun _ k => (k : Int)) (fun _ => 1) x k0).length := by rw [markL_length]; exact hlt
   have hm1 := HH.out.high hlt
   have hltI : (i : Int) < (x.length : Int) := by omega
   have hget := HH.out.get (mk := (fun _ k => (k : Int))) hlt hltm
   obtain ⟨b, o, rfl, hb, hm, h0⟩ := int_cells (hx.below hbl nle) hltm
   rw [hget] at h0
   clear hget
   go_wp2
   refine ⟨⟨i + 1, m + 1, by omega, by go_num, by go_num, HH.out.next hlt, hbl⟩, by simp [intOf]; omega⟩
  ·have hi' : i = x.length := by omega
   subst hi'
   go_wp2
   go_ret
   exact ⟨ret_int HH.out.all_, hbl⟩

set_option maxHeartbeats 2000000 in
theorem heldStrS_any {A : Option Addr} {n c : Nat} {x : List (ByteArray)} {fx : List Nat} (k0 : Int) (w : World) (hx : SlR Rp.str w A n c (markL (fun _ k => markTx k) (fun _ => 1) x k0) fx) (hk0 : 0 ≤ k0) (hkm : k0 + (countL (fun _ => 1) x : Nat) ≤ 1152921504606846976) :
  Calls Tryz.prog 61 #[.slice A n c, .int .i64 k0] w fun e w' => e = .returned (.int .i64 (k0 + (countL (fun _ => 1) x : Nat))) ∧ Below w.heap.size w w' := by
 obtain ⟨hnx, hcx, hmx, _⟩ := id hx
 rw [markL_length] at hnx
 subst hnx
 unfold maxLen at hmx
 go_enter Tryz.func61, Tryz.ntmps61
 go_wp2
 go_loopw [1, 5] (fun kv i wr => ∃ (i' : Nat) (m : Int), i' ≤ x.length ∧ i = .int .i64 i' ∧ kv = .int .i64 m ∧ HeldTo (fun _ => 1) x k0 i' m ∧ Below w.heap.size w wr) (fun _ i _ => x.length - (intOf i).toNat)
 case atStart => exact ⟨0, k0, Nat.zero_le _, rfl, rfl, HeldTo.start, Below.refl _ _⟩
 case round =>
  obtain ⟨i, m, hi, rfl, rfl, hh, hbl⟩ := hrel
  have hm0 := hh.low hk0
  have HH := hide hh
  clear hh
  by_cases hlt : i < x.length
  ·have hltm : i < (markL (fun _ k => markTx k) (fun _ => 1) x k0).length := by rw [markL_length]; exact hlt
   have hm1 := HH.out.high hlt
   have hltI : (i : Int) < (x.length : Int) := by omega
   have hget := HH.out.get (mk := (fun _ k => markTx k)) hlt hltm
   obtain ⟨b, o, rfl, hb, hm, h0⟩ := str_cells (hx.below hbl nle) hltm
   rw [hget] at h0
   clear hget
   go_wp2_with fail
   go_region_held3 (fun w' => w'.cell? ⟨b, o + i, none⟩ = some (.string (markTx (m))))
    (first | exact h0 | exact (hb1.cell (Nat.lt_of_lt_of_le hb nle)).trans h0)
    (first | (go_at_call 68; refine (markText_any _ (by omega) (by omega) _).mono ?_; rintro e w1 ⟨rfl, hb1⟩))
   have HB1 := hide (Below.trans (Below.drew hbl) (hb1.mono (by exact hbl.size)))
   have HZ1 := hide (show wr.heap.size ≤ w1.heap.size from hb1.size)
   have q1_0 := (hb1.cell (p := ⟨b, o + i, none⟩) (Nat.lt_of_lt_of_le hb nle)).trans h0
   clear hb1
   go_wp2
   refine ⟨⟨i + 1, m + 1, by omega, by go_num, by go_num, HH.out.next hlt, HB1.out⟩, by simp [intOf]; omega⟩
  ·have hi' : i = x.length := by omega
   subst hi'
   go_wp2
   go_ret
   exact ⟨ret_int HH.out.all_, hbl⟩

set_option maxHeartbeats 2000000 in
theorem heldRuleS_any {A : Option Addr} {n c : Nat} {x : List (Rule)} {fx : List Nat} (k0 : Int) (w : World) (hx : SlR Rp.rule w A n c (markL mkRule ctRule x k0) fx) (hk0 : 0 ≤ k0) (hkm : k0 + (countL ctRule x : Nat) ≤ 1152921504606846976) :
  Calls Tryz.prog 115 #[.slice A n c, .int .i64 k0] w fun e w' => e = .returned (.int .i64 (k0 + (countL ctRule x : Nat))) ∧ Below w.heap.size w w' := by
 obtain ⟨hnx, hcx, hmx, _⟩ := id hx
 rw [markL_length] at hnx
 subst hnx
 unfold maxLen at hmx
 go_enter Tryz.func115, Tryz.ntmps115
 go_wp2
 go_loopw [1, 5] (fun kv i wr => ∃ (i' : Nat) (m : Int), i' ≤ x.length ∧ i = .int .i64 i' ∧ kv = .int .i64 m ∧ HeldTo ctRule x k0 i' m ∧ Below w.heap.size w wr) (fun _ i _ => x.length - (intOf i).toNat)
 case atStart => exact ⟨0, k0, Nat.zero_le _, rfl, rfl, HeldTo.start, Below.refl _ _⟩
 case round =>
  obtain ⟨i, m, hi, rfl, rfl, hh, hbl⟩ := hrel
  have hm0 := hh.low hk0
  have HH := hide hh
  clear hh
  by_cases hlt : i < x.length
  ·have hltm : i < (markL mkRule ctRule x k0).length := by rw [markL_length]; exact hlt
   have hm1 := HH.out.high hlt
   have hltI : (i : Int) < (x.length : Int) := by omega
   have hget := HH.out.get (mk := mkRule) hlt hltm
   obtain ⟨b, o, rfl, hb, hm, h0, h1, h2, h3⟩ := rule_cells (hx.below hbl nle) hltm
   rw [hget] at h0 h1 h2 h3
   clear hget
   simp only [ctRule] at hm1
   simp only [mkRule] at h0 h1 h2 h3
   go_wp2_with fail
   go_region_held3 (fun w' => w'.cell? ⟨b, o + i * 4, none⟩ = some (.int .i64 (m)) ∧ w'.cell? ⟨b, o + i * 4 + 1, none⟩ = some (.string (markTx (m + 1))) ∧ w'.cell? ⟨b, o + i * 4 + 2, none⟩ = some (.string (markTx (m + 1 + 1))) ∧ w'.cell? ⟨b, o + i * 4 + 3, none⟩ = some (.bool ((m + 1 + 1 + 1) % 3 == 0)))
    (first | exact ⟨h0, h1, h2, h3⟩ | exact ⟨(hb1.cell (Nat.lt_of_lt_of_le hb nle)).trans h0, (hb1.cell (Nat.lt_of_lt_of_le hb nle)).trans h1, (hb1.cell (Nat.lt_of_lt_of_le hb nle)).trans h2, (hb1.cell (Nat.lt_of_lt_of_le hb nle)).trans h3⟩)
    (first | (go_at_call 68; refine (markText_any _ (by omega) (by omega) _).mono ?_; rintro e w1 ⟨rfl, hb1⟩))
   have HB1 := hide (Below.trans (Below.drew hbl) (hb1.mono (by exact hbl.size)))
   have HZ1 := hide (show wr.heap.size ≤ w1.heap.size from hb1.size)
   have q1_0 := (hb1.cell (p := ⟨b, o + i * 4, none⟩) (Nat.lt_of_lt_of_le hb nle)).trans h0
   have q1_1 := (hb1.cell (p := ⟨b, o + i * 4 + 1, none⟩) (Nat.lt_of_lt_of_le hb nle)).trans h1
   have q1_2 := (hb1.cell (p := ⟨b, o + i * 4 + 2, none⟩) (Nat.lt_of_lt_of_le hb nle)).trans h2
   have q1_3 := (hb1.cell (p := ⟨b, o + i * 4 + 3, none⟩) (Nat.lt_of_lt_of_le hb nle)).trans h3
   clear hb1
   go_wp2_with fail
   go_region_held3 (fun w' => w'.cell? ⟨b, o + i * 4, none⟩ = some (.int .i64 (m)) ∧ w'.cell? ⟨b, o + i * 4 + 1, none⟩ = some (.string (markTx (m + 1))) ∧ w'.cell? ⟨b, o + i * 4 + 2, none⟩ = some (.string (markTx (m + 1 + 1))) ∧ w'.cell? ⟨b, o + i * 4 + 3, none⟩ = some (.bool ((m + 1 + 1 + 1) % 3 == 0)))
    (first | exact ⟨q1_0, q1_1, q1_2, q1_3⟩ | exact ⟨(hb2.cell (Nat.lt_of_lt_of_le hb HZ1.out)).trans q1_0, (hb2.cell (Nat.lt_of_lt_of_le hb HZ1.out)).trans q1_1, (hb2.cell (Nat.lt_of_lt_of_le hb HZ1.out)).trans q1_2, (hb2.cell (Nat.lt_of_lt_of_le hb HZ1.out)).trans q1_3⟩)
    (first | (go_at_call 68; refine (markText_any _ (by omega) (by omega) _).mono ?_; rintro e w2 ⟨rfl, hb2⟩))
   have HB2 := hide (Below.trans (Below.drew HB1.out) (hb2.mono (by exact HB1.out.size)))
   have HZ2 := hide (show wr.heap.size ≤ w2.heap.size from Nat.le_trans HZ1.out hb2.size)
   have q2_0 := (hb2.cell (p := ⟨b, o + i * 4, none⟩) (Nat.lt_of_lt_of_le hb HZ1.out)).trans q1_0
   have q2_1 := (hb2.cell (p := ⟨b, o + i * 4 + 1, none⟩) (Nat.lt_of_lt_of_le hb HZ1.out)).trans q1_1
   have q2_2 := (hb2.cell (p := ⟨b, o + i * 4 + 2, none⟩) (Nat.lt_of_lt_of_le hb HZ1.out)).trans q1_2
   have q2_3 := (hb2.cell (p := ⟨b, o + i * 4 + 3, none⟩) (Nat.lt_of_lt_of_le hb HZ1.out)).trans q1_3
   clear hb2
   go_wp2
   refine ⟨⟨i + 1, m + (ctRule x[i] : Nat), by omega, by go_num, by simp only [ctRule]; go_num, HH.out.next hlt, HB2.out⟩, by simp [intOf]; omega⟩
  ·have hi' : i = x.length := by omega
   subst hi'
   go_wp2
   go_ret
   exact ⟨ret_int HH.out.all_, hbl⟩

set_option maxHeartbeats 2000000 in
theorem heldFileS_any {A : Option Addr} {n c : Nat} {x : List (File)} {fx : List Nat} (k0 : Int) (w : World) (hx : SlR Rp.file w A n c (markL mkFile ctFile x k0) fx) (hk0 : 0 ≤ k0) (hkm : k0 + (countL ctFile x : Nat) ≤ 1152921504606846976) :
  Calls Tryz.prog 24 #[.slice A n c, .int .i64 k0] w fun e w' => e = .returned (.int .i64 (k0 + (countL ctFile x : Nat))) ∧ Below w.heap.size w w' := by
 obtain ⟨hnx, hcx, hmx, _⟩ := id hx
 rw [markL_length] at hnx
 subst hnx
 unfold maxLen at hmx
 go_enter Tryz.func24, Tryz.ntmps24
 go_wp2
 go_loopw [1, 5] (fun kv i wr => ∃ (i' : Nat) (m : Int), i' ≤ x.length ∧ i = .int .i64 i' ∧ kv = .int .i64 m ∧ HeldTo ctFile x k0 i' m ∧ Below w.heap.size w wr) (fun _ i _ => x.length - (intOf i).toNat)
 case atStart => exact ⟨0, k0, Nat.zero_le _, rfl, rfl, HeldTo.start, Below.refl _ _⟩
 case round =>
  obtain ⟨i, m, hi, rfl, rfl, hh, hbl⟩ := hrel
  have hm0 := hh.low hk0
  have HH := hide hh
  clear hh
  by_cases hlt : i < x.length
  ·have hltm : i < (markL mkFile ctFile x k0).length := by rw [markL_length]; exact hlt
   have hm1 := HH.out.high hlt
   have hltI : (i : Int) < (x.length : Int) := by omega
   have hget := HH.out.get (mk := mkFile) hlt hltm
   obtain ⟨b, o, rfl, hb, hm, h0, h1⟩ := file_cells (hx.below hbl nle) hltm
   rw [hget] at h0 h1
   clear hget
   simp only [ctFile] at hm1
   simp only [mkFile] at h0 h1
   go_wp2_with fail
   go_region_held3 (fun w' => w'.cell? ⟨b, o + i * 2, none⟩ = some (.string (markTx (m))) ∧ w'.cell? ⟨b, o + i * 2 + 1, none⟩ = some (.string (markTx (m + 1))))
    (first | exact ⟨h0, h1⟩ | exact ⟨(hb1.cell (Nat.lt_of_lt_of_le hb nle)).trans h0, (hb1.cell (Nat.lt_of_lt_of_le hb nle)).trans h1⟩)
    (first | (go_at_call 68; refine (markText_any _ (by omega) (by omega) _).mono ?_; rintro e w1 ⟨rfl, hb1⟩))
   have HB1 := hide (Below.trans (Below.drew hbl) (hb1.mono (by exact hbl.size)))
   have HZ1 := hide (show wr.heap.size ≤ w1.heap.size from hb1.size)
   have q1_0 := (hb1.cell (p := ⟨b, o + i * 2, none⟩) (Nat.lt_of_lt_of_le hb nle)).trans h0
   have q1_1 := (hb1.cell (p := ⟨b, o + i * 2 + 1, none⟩) (Nat.lt_of_lt_of_le hb nle)).trans h1
   clear hb1
   go_wp2_with fail
   go_region_held3 (fun w' => w'.cell? ⟨b, o + i * 2, none⟩ = some (.string (markTx (m))) ∧ w'.cell? ⟨b, o + i * 2 + 1, none⟩ = some (.string (markTx (m + 1))))
    (first | exact ⟨q1_0, q1_1⟩ | exact ⟨(hb2.cell (Nat.lt_of_lt_of_le hb HZ1.out)).trans q1_0, (hb2.cell (Nat.lt_of_lt_of_le hb HZ1.out)).trans q1_1⟩)
    (first | (go_at_call 68; refine (markText_any _ (by omega) (by omega) _).mono ?_; rintro e w2 ⟨rfl, hb2⟩))
   have HB2 := hide (Below.trans (Below.drew HB1.out) (hb2.mono (by exact HB1.out.size)))
   have HZ2 := hide (show wr.heap.size ≤ w2.heap.size from Nat.le_trans HZ1.out hb2.size)
   have q2_0 := (hb2.cell (p := ⟨b, o + i * 2, none⟩) (Nat.lt_of_lt_of_le hb HZ1.out)).trans q1_0
   have q2_1 := (hb2.cell (p := ⟨b, o + i * 2 + 1, none⟩) (Nat.lt_of_lt_of_le hb HZ1.out)).trans q1_1
   clear hb2
   go_wp2
   refine ⟨⟨i + 1, m + (ctFile x[i] : Nat), by omega, by go_num, by simp only [ctFile]; go_num, HH.out.next hlt, HB2.out⟩, by simp [intOf]; omega⟩
  ·have hi' : i = x.length := by omega
   subst hi'
   go_wp2
   go_ret
   exact ⟨ret_int HH.out.all_, hbl⟩

set_option maxHeartbeats 2000000 in
theorem heldFileSS_any {A : Option Addr} {n c : Nat} {x : List (List (File))} {fx : List Nat} (k0 : Int) (w : World) (hx : SlR (Rp.slice Rp.file) w A n c (markL (markL mkFile ctFile) (countL ctFile) x k0) fx) (hk0 : 0 ≤ k0) (hkm : k0 + (countL (countL ctFile) x : Nat) ≤ 1152921504606846976) :
  Calls Tryz.prog 158 #[.slice A n c, .int .i64 k0] w fun e w' => e = .returned (.int .i64 (k0 + (countL (countL ctFile) x : Nat))) ∧ Below w.heap.size w w' := by
 obtain ⟨hnx, hcx, hmx, _⟩ := id hx
 rw [markL_length] at hnx
 subst hnx
 unfold maxLen at hmx
 go_enter Tryz.func158, Tryz.ntmps158
 go_wp2
 go_loopw [1, 5] (fun kv i wr => ∃ (i' : Nat) (m : Int), i' ≤ x.length ∧ i = .int .i64 i' ∧ kv = .int .i64 m ∧ HeldTo (countL ctFile) x k0 i' m ∧ Below w.heap.size w wr) (fun _ i _ => x.length - (intOf i).toNat)
 case atStart => exact ⟨0, k0, Nat.zero_le _, rfl, rfl, HeldTo.start, Below.refl _ _⟩
 case round =>
  obtain ⟨i, m, hi, rfl, rfl, hh, hbl⟩ := hrel
  have hm0 := hh.low hk0
  have HH := hide hh
  clear hh
  by_cases hlt : i < x.length
  ·have hltm : i < (markL (markL mkFile ctFile) (countL ctFile) x k0).length := by rw [markL_length]; exact hlt
   have hm1 := HH.out.high hlt
   have hltI : (i : Int) < (x.length : Int) := by omega
   have hget := HH.out.get (mk := (markL mkFile ctFile)) hlt hltm
   obtain ⟨b, o, A0, n0, c0, f0, rfl, hb, hm, h0, hs0, hsub⟩ := slice_cells (hx.below hbl nle) hltm
   rw [hget] at hs0
   clear hget
   go_wp2_with fail
   refine (heldFileS_any (x := x[i]) _ _ (by exact hs0) (by omega) (by omega)).mono ?_
   rintro e w1 ⟨rfl, hb1⟩
   have HB1 := hide (Below.trans hbl (hb1.mono (by exact hbl.size)))
   have HZ1 := hide (show wr.heap.size ≤ w1.heap.size from hb1.size)
   have q1_0 := (hb1.cell (p := ⟨b, o + i, none⟩) (Nat.lt_of_lt_of_le hb nle)).trans h0
   clear hb1
   go_wp2
   refine ⟨⟨i + 1, _, by omega, by go_num, rfl, HH.out.next hlt, HB1.out⟩, by simp [intOf]; omega⟩
  ·have hi' : i = x.length := by omega
   subst hi'
   go_wp2
   go_ret
   exact ⟨ret_int HH.out.all_, hbl⟩

set_option maxHeartbeats 2000000 in
theorem heldRefS_any {A : Option Addr} {n c : Nat} {x : List (Ref)} {fx : List Nat} (k0 : Int) (w : World) (hx : SlR Rp.ref w A n c (markL mkRef ctRef x k0) fx) (hk0 : 0 ≤ k0) (hkm : k0 + (countL ctRef x : Nat) ≤ 1152921504606846976) :
  Calls Tryz.prog 116 #[.slice A n c, .int .i64 k0] w fun e w' => e = .returned (.int .i64 (k0 + (countL ctRef x : Nat))) ∧ Below w.heap.size w w' := by
 obtain ⟨hnx, hcx, hmx, _⟩ := id hx
 rw [markL_length] at hnx
 subst hnx
 unfold maxLen at hmx
 go_enter Tryz.func116, Tryz.ntmps116
 go_wp2
 go_loopw [1, 5] (fun kv i wr => ∃ (i' : Nat) (m : Int), i' ≤ x.length ∧ i = .int .i64 i' ∧ kv = .int .i64 m ∧ HeldTo ctRef x k0 i' m ∧ Below w.heap.size w wr) (fun _ i _ => x.length - (intOf i).toNat)
 case atStart => exact ⟨0, k0, Nat.zero_le _, rfl, rfl, HeldTo.start, Below.refl _ _⟩
 case round =>
  obtain ⟨i, m, hi, rfl, rfl, hh, hbl⟩ := hrel
  have hm0 := hh.low hk0
  have HH := hide hh
  clear hh
  by_cases hlt : i < x.length
  ·have hltm : i < (markL mkRef ctRef x k0).length := by rw [markL_length]; exact hlt
   have hm1 := HH.out.high hlt
   have hltI : (i : Int) < (x.length : Int) := by omega
   have hget := HH.out.get (mk := mkRef) hlt hltm
   obtain ⟨b, o, A0, n0, c0, f0, rfl, hb, hm, h0, h1, h2, h3, hs0, hsub⟩ := ref_cells (hx.below hbl nle) hltm
   rw [hget] at h0 h1 h2 hs0
   clear hget
   simp only [ctRef] at hm1
   simp only [mkRef] at h0 h1 h2 hs0
   go_wp2_with fail
   go_region_held3 (fun w' => w'.cell? ⟨b, o + i * 4, none⟩ = some (.string (markTx (m))) ∧ w'.cell? ⟨b, o + i * 4 + 1, none⟩ = some (.bool ((m + 1) % 3 == 0)) ∧ w'.cell? ⟨b, o + i * 4 + 2, none⟩ = some (.int .i64 (m + 1 + 1)) ∧ w'.cell? ⟨b, o + i * 4 + 3, none⟩ = some (.slice A0 n0 c0))
    (first | exact ⟨h0, h1, h2, h3⟩ | exact ⟨(hb1.cell (Nat.lt_of_lt_of_le hb nle)).trans h0, (hb1.cell (Nat.lt_of_lt_of_le hb nle)).trans h1, (hb1.cell (Nat.lt_of_lt_of_le hb nle)).trans h2, (hb1.cell (Nat.lt_of_lt_of_le hb nle)).trans h3⟩)
    (first | (go_at_call 68; refine (markText_any _ (by omega) (by omega) _).mono ?_; rintro e w1 ⟨rfl, hb1⟩))
   have HB1 := hide (Below.trans (Below.drew hbl) (hb1.mono (by exact hbl.size)))
   have HZ1 := hide (show wr.heap.size ≤ w1.heap.size from hb1.size)
   have q1_0 := (hb1.cell (p := ⟨b, o + i * 4, none⟩) (Nat.lt_of_lt_of_le hb nle)).trans h0
   have q1_1 := (hb1.cell (p := ⟨b, o + i * 4 + 1, none⟩) (Nat.lt_of_lt_of_le hb nle)).trans h1
   have q1_2 := (hb1.cell (p := ⟨b, o + i * 4 + 2, none⟩) (Nat.lt_of_lt_of_le hb nle)).trans h2
   have q1_3 := (hb1.cell (p := ⟨b, o + i * 4 + 3, none⟩) (Nat.lt_of_lt_of_le hb nle)).trans h3
   have s1_0 := hs0.drew.step hb1
   clear hb1
   go_wp2_with fail
   refine (heldFileSS_any (x := x[i].versions) _ _ (by exact s1_0) (by omega) (by omega)).mono ?_
   rintro e w2 ⟨rfl, hb2⟩
   have HB2 := hide (Below.trans HB1.out (hb2.mono (by exact HB1.out.size)))
   have HZ2 := hide (show wr.heap.size ≤ w2.heap.size from Nat.le_trans HZ1.out hb2.size)
   have q2_0 := (hb2.cell (p := ⟨b, o + i * 4, none⟩) (Nat.lt_of_lt_of_le hb HZ1.out)).trans q1_0
   have q2_1 := (hb2.cell (p := ⟨b, o + i * 4 + 1, none⟩) (Nat.lt_of_lt_of_le hb HZ1.out)).trans q1_1
   have q2_2 := (hb2.cell (p := ⟨b, o + i * 4 + 2, none⟩) (Nat.lt_of_lt_of_le hb HZ1.out)).trans q1_2
   have q2_3 := (hb2.cell (p := ⟨b, o + i * 4 + 3, none⟩) (Nat.lt_of_lt_of_le hb HZ1.out)).trans q1_3
   clear hb2
   go_wp2
   refine ⟨⟨i + 1, m + (ctRef x[i] : Nat), by omega, by go_num, by simp only [ctRef]; go_num, HH.out.next hlt, HB2.out⟩, by simp [intOf]; omega⟩
  ·have hi' : i = x.length := by omega
   subst hi'
   go_wp2
   go_ret
   exact ⟨ret_int HH.out.all_, hbl⟩

set_option maxHeartbeats 2000000 in
theorem heldRepoS_any {A : Option Addr} {n c : Nat} {x : List (Repo)} {fx : List Nat} (k0 : Int) (w : World) (hx : SlR Rp.repo w A n c (markL mkRepo ctRepo x k0) fx) (hk0 : 0 ≤ k0) (hkm : k0 + (countL ctRepo x : Nat) ≤ 1152921504606846976) :
  Calls Tryz.prog 60 #[.slice A n c, .int .i64 k0] w fun e w' => e = .returned (.int .i64 (k0 + (countL ctRepo x : Nat))) ∧ Below w.heap.size w w' := by
 obtain ⟨hnx, hcx, hmx, _⟩ := id hx
 rw [markL_length] at hnx
 subst hnx
 unfold maxLen at hmx
 go_enter Tryz.func60, Tryz.ntmps60
 go_wp2
 go_loopw [1, 5] (fun kv i wr => ∃ (i' : Nat) (m : Int), i' ≤ x.length ∧ i = .int .i64 i' ∧ kv = .int .i64 m ∧ HeldTo ctRepo x k0 i' m ∧ Below w.heap.size w wr) (fun _ i _ => x.length - (intOf i).toNat)
 case atStart => exact ⟨0, k0, Nat.zero_le _, rfl, rfl, HeldTo.start, Below.refl _ _⟩
 case round =>
  obtain ⟨i, m, hi, rfl, rfl, hh, hbl⟩ := hrel
  have hm0 := hh.low hk0
  have HH := hide hh
  clear hh
  by_cases hlt : i < x.length
  ·have hltm : i < (markL mkRepo ctRepo x k0).length := by rw [markL_length]; exact hlt
   have hm1 := HH.out.high hlt
   have hltI : (i : Int) < (x.length : Int) := by omega
   have hget := HH.out.get (mk := mkRepo) hlt hltm
   obtain ⟨b, o, A0, n0, c0, f0, A1, n1, c1, f1, rfl, hb, hm, h0, h1, h2, hs0, hs1, hsub⟩ := repo_cells (hx.below hbl nle) hltm
   rw [hget] at h0 hs0 hs1
   clear hget
   simp only [ctRepo] at hm1
   simp only [mkRepo] at h0 hs0 hs1
   go_wp2_with fail
   refine (heldRuleS_any (x := x[i].rules) _ _ (by exact hs0) (by omega) (by omega)).mono ?_
   rintro e w1 ⟨rfl, hb1⟩
   have HB1 := hide (Below.trans hbl (hb1.mono (by exact hbl.size)))
   have HZ1 := hide (show wr.heap.size ≤ w1.heap.size from hb1.size)
   have q1_0 := (hb1.cell (p := ⟨b, o + i * 3, none⟩) (Nat.lt_of_lt_of_le hb nle)).trans h0
   have q1_1 := (hb1.cell (p := ⟨b, o + i * 3 + 1, none⟩) (Nat.lt_of_lt_of_le hb nle)).trans h1
   have q1_2 := (hb1.cell (p := ⟨b, o + i * 3 + 2, none⟩) (Nat.lt_of_lt_of_le hb nle)).trans h2
   have s1_1 := hs1.step hb1
   clear hb1
   go_wp2_with fail
   refine (heldRefS_any (x := x[i].refs) _ _ (by exact s1_1) (by omega) (by omega)).mono ?_
   rintro e w2 ⟨rfl, hb2⟩
   have HB2 := hide (Below.trans HB1.out (hb2.mono (by exact HB1.out.size)))
   have HZ2 := hide (show wr.heap.size ≤ w2.heap.size from Nat.le_trans HZ1.out hb2.size)
   have q2_0 := (hb2.cell (p := ⟨b, o + i * 3, none⟩) (Nat.lt_of_lt_of_le hb HZ1.out)).trans q1_0
   have q2_1 := (hb2.cell (p := ⟨b, o + i * 3 + 1, none⟩) (Nat.lt_of_lt_of_le hb HZ1.out)).trans q1_1
   have q2_2 := (hb2.cell (p := ⟨b, o + i * 3 + 2, none⟩) (Nat.lt_of_lt_of_le hb HZ1.out)).trans q1_2
   clear hb2
   go_wp2
   refine ⟨⟨i + 1, m + (ctRepo x[i] : Nat), by omega, by go_num, by simp only [ctRepo]; go_num, HH.out.next hlt, HB2.out⟩, by simp [intOf]; omega⟩
  ·have hi' : i = x.length := by omega
   subst hi'
   go_wp2
   go_ret
   exact ⟨ret_int HH.out.all_, hbl⟩

end Go.Proofs.YtnogkkcmcnhodaaGreatDoor
