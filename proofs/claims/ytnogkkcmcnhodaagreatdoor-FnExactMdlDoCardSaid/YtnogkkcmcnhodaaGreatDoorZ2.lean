/- Lemmas and walks, joined by program (wip/gen/merge.py). -/
import Derived.Shelf.RegionOpenPlain
import Derived.Test.YtnogkkcmcnhodaaGreatDoorZ1
import Derived.Test.YtnogkkcmcnhodaaGreatDoorShelf
namespace Go.Proofs.YtnogkkcmcnhodaaGreatDoor
open Go.RowKit
attribute [local go_sem ↓] Go.wp_at_zero Go.wp_at_succ

theorem inB_eq (n lo hi : Int) : inB n lo hi = (decide (lo ≤ n) && decide (n ≤ hi)) := rfl

theorem specIn_any (n lo hi : Int) (w : World) :
  Calls Tryz.prog 62 #[.int .i64 n, .int .i64 lo, .int .i64 hi] w fun e w' => e = .returned (.bool (inB n lo hi)) ∧ Below w.heap.size w w' := by
 go_enter Tryz.func62, Tryz.ntmps62
 go_wp2
 all_goals (go_ret; exact ⟨ret_bool (by rw [inB_eq, Bool.eq_iff_iff]; simp; try omega), Below.refl _ _⟩)

theorem implIn_any (n lo hi : Int) (w : World) :
  Calls Tryz.prog 89 #[.int .i64 n, .int .i64 lo, .int .i64 hi] w fun e w' => e = .returned (.bool (inB n lo hi)) ∧ Below w.heap.size w w' := by
 go_enter Tryz.func89, Tryz.ntmps89
 go_wp2
 all_goals (go_ret; exact ⟨ret_bool (by rw [inB_eq, Bool.eq_iff_iff]; simp; try omega), Below.refl _ _⟩)

def lowTo (s : ByteArray) (k : Nat) : Prop := (s.data.toList.take k).all lowB = true
theorem byte_at {s : ByteArray} {k : Nat} (_h : k < s.size) (h' : k < s.data.toList.length) : s.data.toList[k] = s[k] := rfl
theorem lowTo_succ {s : ByteArray} {k : Nat} (h : lowTo s k) (hk : k < s.size) (h1 : 97 ≤ s[k].toNat) (h2 : s[k].toNat ≤ 122) : lowTo s (k + 1) := by
 have hk' : k < s.data.toList.length := by rw [← Lib.size_eq]; exact hk
 unfold lowTo at *
 rw [List.take_succ_eq_append_getElem hk', List.all_append, h, byte_at hk hk']
 simp [lowB, h1, h2]
theorem lowTo_not {s : ByteArray} {k : Nat} (hk : k < s.size) (h : ¬ (97 ≤ s[k].toNat ∧ s[k].toNat ≤ 122)) : s.data.toList.all lowB = false := by
 have hk' : k < s.data.toList.length := by rw [← Lib.size_eq]; exact hk
 rw [List.all_eq_false]
 exact ⟨s[k], by rw [← byte_at hk hk']; exact List.getElem_mem hk', by simp [lowB]; omega⟩
theorem lowTo_all {s : ByteArray} (h : lowTo s s.size) : s.data.toList.all lowB = true := by
 unfold lowTo at h
 rwa [List.take_of_length_le (by rw [Lib.size_eq]; exact Nat.le_refl _)] at h

set_option maxHeartbeats 1000000 in
theorem implNamOk_any (s : ByteArray) (hs : s.size ≤ 4194304) (w : World) :
  Calls Tryz.prog 140 #[.string s] w fun e w' => e = .returned (.bool (namOk s)) ∧ Below w.heap.size w w' := by
 go_enter Tryz.func140, Tryz.ntmps140
 go_wp2
 go_loopw [6] (fun i wr => ∃ k : Nat, k ≤ s.size ∧ i = .int .i64 k ∧ lowTo s k ∧ Below w.heap.size w wr) (fun i _ => s.size - (intOf i).toNat)
 case atStart => exact ⟨0, Nat.zero_le _, rfl, rfl, Below.refl _ _⟩
 case round =>
  obtain ⟨k, hk, rfl, hag, hbl⟩ := hrel
  have HA := hide hag
  clear hag
  by_cases hlt : k < s.size
  ·go_wp2
   all_goals first
    | (go_ret; exact ⟨ret_bool (by simp [namOk, lowTo_not hlt (by omega)]), hbl⟩)
    | exact ⟨⟨k + 1, by omega, by go_num, lowTo_succ HA.out hlt (by omega) (by omega), hbl⟩, by simp [intOf]; omega⟩
  ·have hk' : k = s.size := by omega
   subst hk'
   go_wp2_with fail
   refine (implIn_any _ _ _ _).mono ?_
   rintro e w1 ⟨rfl, hb1⟩
   go_wp2
   go_ret
   exact ⟨ret_bool (by simp [namOk, lowTo_all HA.out]), hbl.trans (hb1.mono hbl.size)⟩

set_option maxHeartbeats 1000000 in
theorem specNamOk_any (s : ByteArray) (hs : s.size ≤ 4194304) (w : World) :
  Calls Tryz.prog 76 #[.string s] w fun e w' => e = .returned (.bool (namOk s)) ∧ Below w.heap.size w w' := by
 go_enter Tryz.func76, Tryz.ntmps76
 go_wp2_with fail
 refine (specIn_any _ _ _ _).mono ?_
 rintro e w1 ⟨rfl, hb1⟩
 cases hd : inB s.size 1 3
 ·go_wp2
  go_ret
  exact ⟨ret_bool (by simp [namOk, hd]), hb1⟩
 ·have HD := hide hd
  clear hd
  go_wp2
  go_loopw [3] (fun i wr => ∃ k : Nat, k ≤ s.size ∧ i = .int .i64 k ∧ lowTo s k ∧ Below w.heap.size w wr) (fun i _ => s.size - (intOf i).toNat)
  case atStart => exact ⟨0, Nat.zero_le _, rfl, rfl, hb1⟩
  case round =>
   obtain ⟨k, hk, rfl, hag, hbl⟩ := hrel
   have HA := hide hag
   clear hag
   by_cases hlt : k < s.size
   ·go_wp2
    all_goals first
     | (go_ret; exact ⟨ret_bool (by simp [namOk, lowTo_not hlt (by omega)]), hbl⟩)
     | exact ⟨⟨k + 1, by omega, by go_num, lowTo_succ HA.out hlt (by omega) (by omega), hbl⟩, by simp [intOf]; omega⟩
   ·have hk' : k = s.size := by omega
    subst hk'
    go_wp2
    go_ret
    exact ⟨ret_bool (by simp [namOk, HD.out, lowTo_all HA.out]), hbl⟩

/-! Split at one byte. -/
theorem map_flat1 {α β : Type} (f : α → β) : ∀ l : List α, l.map f = l.flatMap fun n => [f n]
 | [] => rfl
 | a :: l => by simp [map_flat1 f l]

set_option maxHeartbeats 1000000 in
theorem split_any (c : UInt8) (s : ByteArray) (hs : s.size ≤ 4194304) (w : World) :
  Calls Tryz.prog 170 #[.string s, .string ⟨#[c]⟩] w (FreshS Rp.str w (cutB c s)) := by
 have h1 : 1 ≤ (⟨#[c]⟩ : ByteArray).size := Nat.le_refl 1
 have hle := Lib.countB_le ⟨#[c]⟩ h1 s.size s nle
 have hlen := Lib.splitB_all ⟨#[c]⟩ h1 0 _ s rfl
 have k : Calls Tryz.prog 185 #[.string s, .string ⟨#[c]⟩, .int .i64 0, .int .i64 (-1)] w fun e w' =>
   e = .returned (.slice (some ⟨w.heap.size, 0, none⟩) (Lib.splitB ⟨#[c]⟩ 0 (Lib.countB s ⟨#[c]⟩ + 1 - 1) s).length (Lib.countB s ⟨#[c]⟩ + 1)) ∧ w' = w.alloc (.cells (Lib.cellsOf (Lib.splitB ⟨#[c]⟩ 0 (Lib.countB s ⟨#[c]⟩ + 1 - 1) s) (Lib.countB s ⟨#[c]⟩ + 1)) 9) := Any.strings_genSplit_core Tryz.lays221 (by kernel_rfl) s ⟨#[c]⟩ 0 (-1) (Lib.countB s ⟨#[c]⟩ + 1) w (by omega) h1 (Nat.zero_le _)
  (fun x cc hx => by
   have := Tryz.strings_Index_one x c (w.alloc (.cells cc 9))
   rw [← Lib.index_one] at this
   exact this)
  (by
   have := Tryz.strings_Count_one s c w
   unfold Lib.countByte at this
   rw [← Lib.count_one] at this
   exact this)
  (by decide) (by decide) (by rw [if_pos (by decide)]; omega)
 rw [Nat.add_sub_cancel, hlen] at k
 have e2 : Lib.cellsOf (Lib.splitB ⟨#[c]⟩ 0 (Lib.countB s ⟨#[c]⟩) s) (Lib.countB s ⟨#[c]⟩ + 1) = ((Lib.splitB ⟨#[c]⟩ 0 (Lib.countB s ⟨#[c]⟩) s).map Value.string).toArray := by rw [← hlen]; exact Lib.cellsOf_full _
 rw [e2, ← hlen, cutB_split] at k
 clear e2 hle hlen h1
 go_enter Tryz.func170, Tryz.ntmps170
 go_wp2_with fail
 refine k.mono ?_
 rintro e w1 ⟨rfl, rfl⟩
 go_wp2
 go_ret
 have hl := cutB_length c s
 refine ⟨_, _, _, [w.heap.size], rfl, ⟨rfl, Nat.le_refl _, by unfold maxLen; omega, (cutB c s).map Value.string, [w.heap.size], [], ⟨by simp [Rp.str, Rp.flat], ?_⟩, AllR.flat.2 ⟨?_, rfl⟩, rfl⟩, by simp, by simp, ?_, (Below.refl _ _).alloc nle _⟩
 ·refine .inr ⟨?_, _, 0, rfl, rfl, by simp, fun j u hu => ?_⟩
  ·have := cutL_ne c s.data.toList
   unfold cutB
   rw [List.length_map]
   exact List.length_pos_iff.2 this
  ·rw [(Blk.new w _ _).cell, Nat.zero_add]
   simpa using hu
 ·exact map_flat1 _ _
 ·intro b hb
  obtain rfl : b = w.heap.size := by simpa using hb
  exact ⟨_, _, heap_alloc_new w _⟩
theorem isEmpty_eq (s : ByteArray) : s.toList.isEmpty = decide (s = ByteArray.empty) := by
 rw [← beq_toListBytes', ByteArray.toList_eq, ByteArray.toList_eq]
 cases s.data.toList <;> rfl

theorem names_any (s : ByteArray) (hs : s.size ≤ 4194304) (w : World) :
  Calls Tryz.prog 142 #[.string s] w (FreshS Rp.str w (if s = ByteArray.empty then [] else cutB 47 s)) := by
 go_enter Tryz.func142, Tryz.ntmps142
 by_cases h0 : s = ByteArray.empty
 ·subst h0
  go_wp2
  go_ret
  exact ⟨none, 0, 0, [], rfl, SlR.nil, by simp, by simp, Free.nil _, Below.refl _ _⟩
 ·have hd : s.toList.isEmpty = false := by rw [isEmpty_eq]; exact decide_eq_false h0
  have H0 := hide h0
  clear h0
  go_wp2_with fail
  refine (split_any 47 s hs _).mono ?_
  rintro e w1 ⟨A, n, cc, f, rfl, hS, hR⟩
  go_wp2
  go_ret
  exact ⟨A, n, cc, f, rfl, hS, hR⟩

def namTo (l : List ByteArray) (k : Nat) : Prop := (l.take k).all namOk = true
theorem namTo_succ {l : List ByteArray} {k : Nat} (h : namTo l k) (hk : k < l.length) (h1 : namOk l[k] = true) : namTo l (k + 1) := by
 unfold namTo at *
 rw [List.take_succ_eq_append_getElem hk, List.all_append, h]
 simp [h1]
theorem namTo_not {l : List ByteArray} {k : Nat} (hk : k < l.length) (h1 : namOk l[k] = false) : l.all namOk = false := by
 rw [List.all_eq_false]
 exact ⟨l[k], List.getElem_mem hk, by simp [h1]⟩
theorem namTo_all {l : List ByteArray} (h : namTo l l.length) : l.all namOk = true := by
 unfold namTo at h
 rwa [List.take_of_length_le nle] at h
theorem pthOk_eq (s : ByteArray) : pthOk s = ((if s = ByteArray.empty then [] else cutB 47 s).all namOk && decide ((if s = ByteArray.empty then [] else cutB 47 s).length ≤ 3)) := by
 by_cases h : s = ByteArray.empty
 ·simp [pthOk, h]
 ·simp [pthOk, h]

set_option maxHeartbeats 1000000 in
theorem implPthOk_any (s : ByteArray) (hs : s.size ≤ 4194304) (w : World) :
  Calls Tryz.prog 96 #[.string s] w fun e w' => e = .returned (.bool (pthOk s)) ∧ Below w.heap.size w w' := by
 have HE := hide (pthOk_eq s)
 have hpart : ∀ x ∈ (if s = ByteArray.empty then [] else cutB 47 s), x.size ≤ 4194304 := fun x hx => by
  split at hx
  ·simp at hx
  ·exact Nat.le_trans (cutB_part 47 s x hx) hs
 go_enter Tryz.func96, Tryz.ntmps96
 go_wp2_with fail
 refine (names_any s hs _).mono ?_
 generalize (if s = ByteArray.empty then [] else cutB 47 s) = l at HE hpart ⊢
 rintro e w1 ⟨A, n, cc, f, rfl, hS, _, _, _, hb1⟩
 obtain ⟨rfl, hcx, hmx, _⟩ := id hS
 unfold maxLen at hmx
 go_wp2
 go_loopw [10] (fun i wr => ∃ k : Nat, k ≤ l.length ∧ i = .int .i64 k ∧ namTo l k ∧ Below w1.heap.size w1 wr) (fun i _ => l.length - (intOf i).toNat)
 case atStart => exact ⟨0, Nat.zero_le _, rfl, rfl, Below.refl _ _⟩
 case round =>
  obtain ⟨k, hk, rfl, hag, hbl⟩ := hrel
  have HA := hide hag
  clear hag
  by_cases hlt : k < l.length
  ·obtain ⟨b, o, rfl, hb, _, h0⟩ := str_cells (hS.step hbl) hlt
   go_wp2_with fail
   refine (implNamOk_any l[k] (hpart _ (List.getElem_mem hlt)) _).mono ?_
   rintro e w2 ⟨rfl, hb2⟩
   have HB := hide (Below.t hbl hb2)
   clear hb2
   cases hd : namOk l[k]
   ·have HN := hide (namTo_not hlt hd)
    clear hd
    go_wp2
    go_ret
    exact ⟨ret_bool (by rw [HE.out, HN.out]; rfl), Below.t hb1 HB.out⟩
   ·have HN := hide (namTo_succ HA.out hlt hd)
    clear hd
    go_wp2
    refine ⟨⟨k + 1, by omega, by go_num, HN.out, HB.out⟩, by simp [intOf]; omega⟩
  ·have hk' : k = l.length := by omega
   subst hk'
   go_wp2
   go_ret
   exact ⟨ret_bool (by rw [HE.out, namTo_all HA.out, Bool.true_and]; exact decide_eq_decide.2 (by omega)), Below.t hb1 hbl⟩

/-! The reference's cut. -/
def CutRel (s : ByteArray) (w : World) (k : Nat) (v word : Value) (wr : World) : Prop :=
 ∃ (o : List (List UInt8)) (x : List UInt8), word = .string ⟨x.toArray⟩ ∧ cutL 47 (s.data.toList.take k) = o ++ [x] ∧ wr.ownsRow w.heap.size 9 1 v o.length (o.flatMap fun l => [.string ⟨l.toArray⟩]) ∧ Below w.heap.size w wr
theorem Tryz.infoStr : (Tryz.prog.info? 9).map (fun i => (i.zero, i.size, i.bytes)) = some (some (.string ByteArray.empty), 1, 16) := by kernel_rfl

theorem cut_bound {s : ByteArray} {k : Nat} {o : List (List UInt8)} {x : List UInt8} (h : cutL 47 (s.data.toList.take k) = o ++ [x]) : o.length ≤ s.size ∧ x.length ≤ s.size := by
 have h1 := cutL_size 47 (s.data.toList.take k)
 rw [h] at h1
 have h2 := Lib.size_eq s
 simp at h1
 omega
theorem cut_next {s : ByteArray} {k : Nat} {o : List (List UInt8)} {x : List UInt8} (h : cutL 47 (s.data.toList.take k) = o ++ [x]) (hk : k < s.size) :
  cutL 47 (s.data.toList.take (k + 1)) = if s[k] = 47 then o ++ [x] ++ [[]] else o ++ [x ++ [s[k]]] := by
 have hk' : k < s.data.toList.length := by rw [← Lib.size_eq]; exact hk
 rw [List.take_succ_eq_append_getElem hk', byte_at hk hk']
 exact cutL_snoc 47 _ _ _ _ h
theorem cut_end {s : ByteArray} {o : List (List UInt8)} {x : List UInt8} (h : cutL 47 (s.data.toList.take s.size) = o ++ [x]) : cutB 47 s = (o ++ [x]).map fun l => ⟨l.toArray⟩ := by
 rw [List.take_of_length_le (by rw [Lib.size_eq]; exact Nat.le_refl _)] at h
 unfold cutB
 rw [h]

set_option maxHeartbeats 1000000 in
set_option maxRecDepth 20000 in
theorem l1Cut_any (s : ByteArray) (hs : s.size ≤ 4194304) (w : World) :
  Calls Tryz.prog 126 #[.string s] w (FreshS Rp.str w (cutB 47 s)) := by
 have hcv := run_oneByte (P := Tryz.prog) (dst := 9) Tryz.underlying146 Tryz.underlying5 Tryz.underlying9
 obtain ⟨i0, hi, hz0, hz1, hz2⟩ := info_parts Tryz.infoStr
 go_enter Tryz.func126, Tryz.ntmps126
 go_wp2
 go_loopw [3, 4, 5] (fun v word i wr => ∃ k : Nat, k ≤ s.size ∧ i = .int .i64 k ∧ CutRel s w k v word wr) (fun _ _ i _ => s.size - (intOf i).toNat)
 case atStart => exact ⟨0, Nat.zero_le _, rfl, [], [], rfl, by simp [cutL], World.ownsRow_made w #[] 0 nle (by simp [maxLen]) rfl, (Below.refl _ _).alloc nle _⟩
 case round =>
  obtain ⟨k, hk, rfl, o, x, rfl, hc, hown, hbl⟩ := hrel
  have HC := hide hc
  clear hc
  have hob := (cut_bound HC.out).1
  have hxb := (cut_bound HC.out).2
  by_cases hlt : k < s.size
  ·have HN := hide (cut_next HC.out hlt)
   cases hd : ((s[k].toNat : Int) == 47)
   ·have HD : s[k] ≠ 47 := fun h => by rw [h] at hd; simp at hd
    have HM := hide (HN.out.trans (if_neg HD))
    go_wp2
    refine ⟨⟨k + 1, by omega, by go_num, o, x ++ [s[k]], ?_, HM.out, hown.alloc _, hbl.alloc hbl.size _⟩, by simp [intOf]; omega⟩
    show Value.string (_ ++ _) = _
    congr 1
   ·have HD : s[k] = 47 := by
     have := beq_iff_eq.1 hd
     exact UInt8.toNat_inj.1 (by simp; omega)
    have HM := hide (HN.out.trans (if_pos HD))
    clear HD
    go_wp2_with (at_builtin; refine wpList_append_own _ rfl _ _ 37 rfl w.heap.size 9 i0 _ 1 16 Tryz.underlying37 hi hz0 hz1 hz2 rfl (by decide) _ _ _ rfl (hown.alloc _) ⟨wr.heap.size, 0, none⟩ 1 1 [.string ⟨x.toArray⟩] rfl rfl (news_alloc wr [.string ⟨x.toArray⟩] _) (by simp; rfl) (by unfold maxLen; omega) (by omega) (by have := hbl.size; simp; omega) ?_)
    intro v' w1 hown' hgrow _
    go_wp2
    exact ⟨⟨k + 1, by omega, by go_num, o ++ [x], [], rfl, HM.out, by simpa using hown', (hbl.alloc hbl.size _).grown hgrow (by have := hbl.size; simp; omega) (fun j hj => (hown.lt j hj).1)⟩, by simp [intOf]; omega⟩
  ·have hk' : k = s.size := by omega
   subst hk'
   have HN := hide (cut_end HC.out)
   go_wp2_with (at_builtin; refine wpList_append_own _ rfl _ _ 37 rfl w.heap.size 9 i0 _ 1 16 Tryz.underlying37 hi hz0 hz1 hz2 rfl (by decide) _ _ _ rfl (hown.alloc _) ⟨wr.heap.size, 0, none⟩ 1 1 [.string ⟨x.toArray⟩] rfl rfl (news_alloc wr [.string ⟨x.toArray⟩] _) (by simp; rfl) (by unfold maxLen; omega) (by omega) (by have := hbl.size; simp; omega) ?_)
   intro v' w1 hown' hgrow _
   go_wp2
   go_ret
   rw [HN.out]
   exact FreshS.of_owns_flat (by simpa [List.flatMap_map] using hown') ((hbl.alloc hbl.size _).grown hgrow (by have := hbl.size; simp; omega) (fun j hj => (hown.lt j hj).1))

set_option maxHeartbeats 1000000 in
theorem specPthOk_any (s : ByteArray) (hs : s.size ≤ 4194304) (w : World) :
  Calls Tryz.prog 77 #[.string s] w fun e w' => e = .returned (.bool (pthOk s)) ∧ Below w.heap.size w w' := by
 have HE := hide (pthOk_eq s)
 have HZ := hide (pthOk_size (s := s))
 go_enter Tryz.func77, Tryz.ntmps77
 by_cases h0 : s = ByteArray.empty
 ·subst h0
  go_wp2
  go_ret
  exact ⟨ret_bool (by rw [pthOk_empty]), Below.refl _ _⟩
 ·have hd : s.toList.isEmpty = false := by rw [isEmpty_eq]; exact decide_eq_false h0
  have hpart := cutB_part 47 s
  rw [if_neg h0] at HE
  clear h0
  by_cases h12 : s.size ≤ 12
  ·go_wp2_with fail
   refine (l1Cut_any s hs _).mono ?_
   generalize cutB 47 s = l at HE hpart ⊢
   rintro e w1 ⟨A, n, cc, f, rfl, hS, _, _, _, hb1⟩
   obtain ⟨rfl, hcx, hmx, _⟩ := id hS
   unfold maxLen at hmx
   go_wp2
   go_loopw [4] (fun i wr => ∃ k : Nat, k ≤ l.length ∧ i = .int .i64 k ∧ namTo l k ∧ Below w1.heap.size w1 wr) (fun i _ => l.length - (intOf i).toNat)
   case atStart => exact ⟨0, Nat.zero_le _, rfl, rfl, Below.refl _ _⟩
   case round =>
    obtain ⟨k, hk, rfl, hag, hbl⟩ := hrel
    have HA := hide hag
    clear hag
    by_cases hlt : k < l.length
    ·obtain ⟨b, o, rfl, hb, _, h0⟩ := str_cells (hS.step hbl) hlt
     have hsz := Nat.le_trans (hpart _ (List.getElem_mem hlt)) hs
     go_wp2_with fail
     refine (specNamOk_any l[k] hsz _).mono ?_
     rintro e w2 ⟨rfl, hb2⟩
     have HB := hide (Below.t hbl hb2)
     clear hb2 h0
     cases hd : namOk l[k]
     ·have HN := hide (namTo_not hlt hd)
      clear hd
      go_wp2
      go_ret
      exact ⟨ret_bool (by rw [HE.out, HN.out]; rfl), Below.t hb1 HB.out⟩
     ·have HN := hide (namTo_succ HA.out hlt hd)
      clear hd
      go_wp2
      refine ⟨⟨k + 1, by omega, by go_num, HN.out, HB.out⟩, by simp [intOf]; omega⟩
    ·have hk' : k = l.length := by omega
     subst hk'
     go_wp2
     go_ret
     exact ⟨ret_bool (by rw [HE.out, namTo_all HA.out, Bool.true_and]; exact decide_eq_decide.2 (by omega)), Below.t hb1 hbl⟩
  ·have HF := hide (show pthOk s = false by
    cases hp : pthOk s
    ·rfl
    ·have := HZ.out hp; omega)
   go_wp2
   go_ret
   exact ⟨ret_bool (by rw [HF.out]), Below.refl _ _⟩

/-! One path under another. -/
def isPre (p s : ByteArray) : Bool := p.data.toList.isPrefixOf s.data.toList
def pthUnder (a b : ByteArray) : Bool := pthOk a && pthOk b && (decide (a = ByteArray.empty) || decide (a = b) || isPre (a ++ ⟨#[47]⟩) b)

theorem isPre_yes {p s : ByteArray} (_h : p.size ≤ s.size) : isPre p s = ((s.extract 0 p.size).toList == p.toList) := by
 unfold isPre
 rw [ByteArray.toList_eq, ByteArray.toList_eq, Lib.extract_from_zero, Lib.size_eq p, Bool.eq_iff_iff, List.isPrefixOf_iff_prefix, beq_iff_eq, List.prefix_iff_eq_take]
 exact eq_comm
theorem isPre_no {p s : ByteArray} (h : ¬ p.size ≤ s.size) : isPre p s = false := by
 unfold isPre
 rw [Bool.eq_false_iff]
 intro e
 have := (List.isPrefixOf_iff_prefix.1 e).length_le
 rw [← Lib.size_eq, ← Lib.size_eq] at this
 omega
theorem toList_inj {a b : ByteArray} (h : a.toList = b.toList) : a = b := by
 have := beq_toListBytes' a b
 rw [h] at this
 simpa using this
theorem toList_nil {a : ByteArray} (h : a.toList = []) : a = ByteArray.empty := toList_inj (by rw [h, ByteArray.toList_eq]; rfl)
theorem pthUnder_both {a b : ByteArray} (h : pthOk a = true) (h' : pthOk b = true) : pthUnder a b = (decide (a = ByteArray.empty) || decide (a = b) || isPre (a ++ ⟨#[47]⟩) b) := by
 unfold pthUnder
 rw [h, h']
 rfl

set_option maxHeartbeats 1000000 in
theorem implPthUnder_any (a b : ByteArray) (ha : a.size ≤ 4194304) (hb : b.size ≤ 4194304) (w : World) :
  Calls Tryz.prog 139 #[.string a, .string b] w fun e w' => e = .returned (.bool (pthUnder a b)) ∧ Below w.heap.size w w' := by
 go_enter Tryz.func139, Tryz.ntmps139
 go_wp2_with fail
 refine (implPthOk_any a ha _).mono ?_
 rintro e w1 ⟨rfl, hb1⟩
 cases ha1 : pthOk a
 ·go_wp2
  go_ret
  exact ⟨ret_bool (by simp [pthUnder, ha1]), hb1⟩
 ·have HA := hide ha1
  clear ha1
  go_wp2_with fail
  refine (implPthOk_any b hb _).mono ?_
  rintro e w2 ⟨rfl, hb2⟩
  have HB := hide (Below.t hb1 hb2)
  clear hb1 hb2
  cases hb1 : pthOk b
  ·go_wp2
   go_ret
   exact ⟨ret_bool (by simp [pthUnder, hb1]), HB.out⟩
  ·have HC := hide hb1
   clear hb1
   have hss : (a ++ ⟨#[47]⟩ : ByteArray).size = a.size + 1 := by simp [ByteArray.size_append]; rfl
   have HS := hide hss
   clear hss
   go_wp2
   ·go_ret
    refine ⟨ret_bool ?_, HB.out⟩
    rw [pthUnder_both HA.out HC.out, toList_nil ‹a.toList = []›]; simp
   ·go_ret
    refine ⟨ret_bool ?_, HB.out⟩
    rw [pthUnder_both HA.out HC.out, toList_inj ‹a.toList = b.toList›]; simp
   ·go_ret
    refine ⟨ret_bool ?_, HB.out⟩
    rw [pthUnder_both HA.out HC.out, isEmpty_eq, beq_toListBytes' a b, isPre_yes (by rw [HS.out]; omega), HS.out]
   ·go_ret
    refine ⟨ret_bool ?_, HB.out⟩
    rw [pthUnder_both HA.out HC.out, isEmpty_eq, beq_toListBytes' a b, isPre_no (by rw [HS.out]; omega), Bool.or_false]

theorem isPre_stroke {a b : ByteArray} (h : a.size < b.size) : isPre (a ++ ⟨#[47]⟩) b = ((b.extract 0 a.size).toList == a.toList && ((b[a.size].toNat : Int) == 47)) := by
 have hk' : a.data.toList.length < b.data.toList.length := by rw [← Lib.size_eq, ← Lib.size_eq]; exact h
 have e1 : (a ++ ⟨#[47]⟩ : ByteArray).data.toList = a.data.toList ++ [47] := by simp
 have e2 : b.data.toList[a.data.toList.length] = b[a.size] := rfl
 unfold isPre
 rw [e1, ByteArray.toList_eq, ByteArray.toList_eq, Lib.extract_from_zero, Bool.eq_iff_iff, List.isPrefixOf_iff_prefix, List.prefix_iff_eq_take, List.length_append, List.length_singleton, List.take_succ_eq_append_getElem hk', e2, Bool.and_eq_true, beq_iff_eq, beq_iff_eq, ← Lib.size_eq]
 constructor
 ·intro e
  obtain ⟨x, y⟩ := List.append_inj' e rfl
  refine ⟨x.symm, ?_⟩
  simp at y
  rw [← y]; rfl
 ·rintro ⟨x, y⟩
  rw [x]
  congr 1
  have : b[a.size] = 47 := UInt8.toNat_inj.1 (by simp; omega)
  rw [this]
theorem isPre_stroke_no {a b : ByteArray} (h : ¬ a.size < b.size) : isPre (a ++ ⟨#[47]⟩) b = false := isPre_no (by have : (a ++ ⟨#[47]⟩ : ByteArray).size = a.size + 1 := (by simp [ByteArray.size_append]; rfl); omega)

set_option maxHeartbeats 1000000 in
theorem specPthUnder_any (a b : ByteArray) (ha : a.size ≤ 4194304) (hb : b.size ≤ 4194304) (w : World) :
  Calls Tryz.prog 120 #[.string a, .string b] w fun e w' => e = .returned (.bool (pthUnder a b)) ∧ Below w.heap.size w w' := by
 go_enter Tryz.func120, Tryz.ntmps120
 go_wp2_with fail
 refine (specPthOk_any a ha _).mono ?_
 rintro e w1 ⟨rfl, hb1⟩
 cases ha1 : pthOk a
 ·go_wp2
  go_ret
  exact ⟨ret_bool (by simp [pthUnder, ha1]), hb1⟩
 ·have HA := hide ha1
  clear ha1
  go_wp2_with fail
  refine (specPthOk_any b hb _).mono ?_
  rintro e w2 ⟨rfl, hb2⟩
  have HB := hide (Below.t hb1 hb2)
  clear hb1 hb2
  cases hb1 : pthOk b
  ·go_wp2
   go_ret
   exact ⟨ret_bool (by simp [pthUnder, hb1]), HB.out⟩
  ·have HC := hide hb1
   clear hb1
   have hss : (a ++ ⟨#[47]⟩ : ByteArray).size = a.size + 1 := by simp [ByteArray.size_append]; rfl
   have HS := hide hss
   clear hss
   go_wp2
   ·go_ret
    refine ⟨ret_bool ?_, HB.out⟩
    rw [pthUnder_both HA.out HC.out, toList_nil ‹a.toList = []›]; simp
   ·go_ret
    refine ⟨ret_bool ?_, HB.out⟩
    rw [pthUnder_both HA.out HC.out, toList_inj ‹a.toList = b.toList›]; simp
   all_goals
    go_ret
    refine ⟨ret_bool ?_, HB.out⟩
    rw [pthUnder_both HA.out HC.out, isEmpty_eq, beq_toListBytes' a b]
    first
    | (rw [isPre_stroke ‹a.size < b.size›, beq_iff_eq.2 ‹(b.extract 0 a.size).toList = a.toList›, Bool.true_and]; done)
    | (rw [isPre_stroke ‹a.size < b.size›, beq_eq_false_iff_ne.2 ‹¬(b.extract 0 a.size).toList = a.toList›, Bool.false_and, Bool.or_false]; done)
    | (rw [isPre_stroke_no (by omega), Bool.or_false]; done)
set_option maxHeartbeats 1000000 in
theorem idxRule_any {A : Option Addr} {n c : Nat} {l : List (Rule)} {fp : List Nat} (p : Rule → Bool) (g : Nat) (lb : Array Value) (eg : ∀ args w, (callFunc g args).run Tryz.prog w = .ok (.enter g args) w) (w : World) (hx : SlR Rp.rule w A n c l fp)
  (hp : ∀ (i : Nat) (hi : i < l.length) (cs : List Value) (fq : List Nat) (w1 : World), Below w.heap.size w w1 → Rp.rule.R w1 cs l[i] fq → Calls Tryz.prog g (#[.agg cs.toArray] ++ lb) w1 fun e w2 => e = .returned (.bool (p l[i])) ∧ Below w1.heap.size w1 w2) :
  Calls Tryz.prog 171 #[.slice A n c, .func (.func g) #[] lb] w fun e w' => e = .returned (.int .i64 (idxP p l)) ∧ Below w.heap.size w w' := by
 obtain ⟨rfl, hcx, hmx, _⟩ := id hx
 unfold maxLen at hmx
 have HP := hide hp
 clear hp
 go_enter Tryz.func171, Tryz.ntmps171
 go_wp2
 go_loopw [8] (fun i wr => ∃ k : Nat, k ≤ l.length ∧ i = .int .i64 k ∧ noneTo p l k ∧ Below w.heap.size w wr) (fun i _ => l.length - (intOf i).toNat)
 case atStart => exact ⟨0, Nat.zero_le _, rfl, noneTo_zero, Below.refl _ _⟩
 case round =>
  obtain ⟨k, hk, rfl, hag, hbl⟩ := hrel
  have HA := hide hag
  clear hag
  by_cases hlt : k < l.length
  ·obtain ⟨b, o, rfl, hb, hm, h0, h1, h2, h3⟩ := rule_cells (hx.step hbl) hlt
   go_wp2_with fail
   refine (HP.out k hlt (encRule l[k]) _ wr hbl ⟨rfl, rfl⟩).mono ?_
   rintro e w1 ⟨rfl, hb1⟩
   have HB := hide (Below.t hbl hb1)
   clear hb1
   cases hd : p l[k]
   ·have HN := hide (HA.out.next hlt hd)
    clear hd
    go_wp2
    exact ⟨⟨k + 1, by omega, by go_num, HN.out, HB.out⟩, by simp [intOf]; omega⟩
   ·have HN := hide (HA.out.hit hlt hd)
    clear hd
    go_wp2
    go_ret
    exact ⟨ret_int HN.out.symm, HB.out⟩
  ·have hk' : k = l.length := by omega
   subst hk'
   go_wp2
   go_ret
   exact ⟨ret_int HA.out.all_.symm, hbl⟩

theorem hasRule_any {A : Option Addr} {n c : Nat} {l : List (Rule)} {fp : List Nat} (p : Rule → Bool) (g : Nat) (lb : Array Value) (eg : ∀ args w, (callFunc g args).run Tryz.prog w = .ok (.enter g args) w) (w : World) (hx : SlR Rp.rule w A n c l fp)
  (hp : ∀ (i : Nat) (hi : i < l.length) (cs : List Value) (fq : List Nat) (w1 : World), Below w.heap.size w w1 → Rp.rule.R w1 cs l[i] fq → Calls Tryz.prog g (#[.agg cs.toArray] ++ lb) w1 fun e w2 => e = .returned (.bool (p l[i])) ∧ Below w1.heap.size w1 w2) :
  Calls Tryz.prog 145 #[.slice A n c, .func (.func g) #[] lb] w fun e w' => e = .returned (.bool (l.any p)) ∧ Below w.heap.size w w' := by
 have HP := hide hp
 clear hp
 go_enter Tryz.func145, Tryz.ntmps145
 go_wp2_with fail
 refine (idxRule_any p g lb eg _ hx HP.out).mono ?_
 rintro e w1 ⟨rfl, hb1⟩
 go_wp2
 go_ret
 exact ⟨ret_bool (idxP_any p l), hb1⟩

set_option maxHeartbeats 1000000 in
theorem idxEdit_any {A : Option Addr} {n c : Nat} {l : List (Edit)} {fp : List Nat} (p : Edit → Bool) (g : Nat) (lb : Array Value) (eg : ∀ args w, (callFunc g args).run Tryz.prog w = .ok (.enter g args) w) (w : World) (hx : SlR Rp.edit w A n c l fp)
  (hp : ∀ (i : Nat) (hi : i < l.length) (cs : List Value) (fq : List Nat) (w1 : World), Below w.heap.size w w1 → Rp.edit.R w1 cs l[i] fq → Calls Tryz.prog g (#[.agg cs.toArray] ++ lb) w1 fun e w2 => e = .returned (.bool (p l[i])) ∧ Below w1.heap.size w1 w2) :
  Calls Tryz.prog 143 #[.slice A n c, .func (.func g) #[] lb] w fun e w' => e = .returned (.int .i64 (idxP p l)) ∧ Below w.heap.size w w' := by
 obtain ⟨rfl, hcx, hmx, _⟩ := id hx
 unfold maxLen at hmx
 have HP := hide hp
 clear hp
 go_enter Tryz.func143, Tryz.ntmps143
 go_wp2
 go_loopw [8] (fun i wr => ∃ k : Nat, k ≤ l.length ∧ i = .int .i64 k ∧ noneTo p l k ∧ Below w.heap.size w wr) (fun i _ => l.length - (intOf i).toNat)
 case atStart => exact ⟨0, Nat.zero_le _, rfl, noneTo_zero, Below.refl _ _⟩
 case round =>
  obtain ⟨k, hk, rfl, hag, hbl⟩ := hrel
  have HA := hide hag
  clear hag
  by_cases hlt : k < l.length
  ·obtain ⟨b, o, rfl, hb, hm, h0, h1, h2⟩ := edit_cells (hx.step hbl) hlt
   go_wp2_with fail
   refine (HP.out k hlt (encEdit l[k]) _ wr hbl ⟨rfl, rfl⟩).mono ?_
   rintro e w1 ⟨rfl, hb1⟩
   have HB := hide (Below.t hbl hb1)
   clear hb1
   cases hd : p l[k]
   ·have HN := hide (HA.out.next hlt hd)
    clear hd
    go_wp2
    exact ⟨⟨k + 1, by omega, by go_num, HN.out, HB.out⟩, by simp [intOf]; omega⟩
   ·have HN := hide (HA.out.hit hlt hd)
    clear hd
    go_wp2
    go_ret
    exact ⟨ret_int HN.out.symm, HB.out⟩
  ·have hk' : k = l.length := by omega
   subst hk'
   go_wp2
   go_ret
   exact ⟨ret_int HA.out.all_.symm, hbl⟩

theorem hasEdit_any {A : Option Addr} {n c : Nat} {l : List (Edit)} {fp : List Nat} (p : Edit → Bool) (g : Nat) (lb : Array Value) (eg : ∀ args w, (callFunc g args).run Tryz.prog w = .ok (.enter g args) w) (w : World) (hx : SlR Rp.edit w A n c l fp)
  (hp : ∀ (i : Nat) (hi : i < l.length) (cs : List Value) (fq : List Nat) (w1 : World), Below w.heap.size w w1 → Rp.edit.R w1 cs l[i] fq → Calls Tryz.prog g (#[.agg cs.toArray] ++ lb) w1 fun e w2 => e = .returned (.bool (p l[i])) ∧ Below w1.heap.size w1 w2) :
  Calls Tryz.prog 98 #[.slice A n c, .func (.func g) #[] lb] w fun e w' => e = .returned (.bool (l.any p)) ∧ Below w.heap.size w w' := by
 have HP := hide hp
 clear hp
 go_enter Tryz.func98, Tryz.ntmps98
 go_wp2_with fail
 refine (idxEdit_any p g lb eg _ hx HP.out).mono ?_
 rintro e w1 ⟨rfl, hb1⟩
 go_wp2
 go_ret
 exact ⟨ret_bool (idxP_any p l), hb1⟩

set_option maxHeartbeats 1000000 in
theorem idxFile_any {A : Option Addr} {n c : Nat} {l : List (File)} {fp : List Nat} (p : File → Bool) (g : Nat) (lb : Array Value) (eg : ∀ args w, (callFunc g args).run Tryz.prog w = .ok (.enter g args) w) (w : World) (hx : SlR Rp.file w A n c l fp)
  (hp : ∀ (i : Nat) (hi : i < l.length) (cs : List Value) (fq : List Nat) (w1 : World), Below w.heap.size w w1 → Rp.file.R w1 cs l[i] fq → Calls Tryz.prog g (#[.agg cs.toArray] ++ lb) w1 fun e w2 => e = .returned (.bool (p l[i])) ∧ Below w1.heap.size w1 w2) :
  Calls Tryz.prog 196 #[.slice A n c, .func (.func g) #[] lb] w fun e w' => e = .returned (.int .i64 (idxP p l)) ∧ Below w.heap.size w w' := by
 obtain ⟨rfl, hcx, hmx, _⟩ := id hx
 unfold maxLen at hmx
 have HP := hide hp
 clear hp
 go_enter Tryz.func196, Tryz.ntmps196
 go_wp2
 go_loopw [8] (fun i wr => ∃ k : Nat, k ≤ l.length ∧ i = .int .i64 k ∧ noneTo p l k ∧ Below w.heap.size w wr) (fun i _ => l.length - (intOf i).toNat)
 case atStart => exact ⟨0, Nat.zero_le _, rfl, noneTo_zero, Below.refl _ _⟩
 case round =>
  obtain ⟨k, hk, rfl, hag, hbl⟩ := hrel
  have HA := hide hag
  clear hag
  by_cases hlt : k < l.length
  ·obtain ⟨b, o, rfl, hb, hm, h0, h1⟩ := file_cells (hx.step hbl) hlt
   go_wp2_with fail
   refine (HP.out k hlt (encFile l[k]) _ wr hbl ⟨rfl, rfl⟩).mono ?_
   rintro e w1 ⟨rfl, hb1⟩
   have HB := hide (Below.t hbl hb1)
   clear hb1
   cases hd : p l[k]
   ·have HN := hide (HA.out.next hlt hd)
    clear hd
    go_wp2
    exact ⟨⟨k + 1, by omega, by go_num, HN.out, HB.out⟩, by simp [intOf]; omega⟩
   ·have HN := hide (HA.out.hit hlt hd)
    clear hd
    go_wp2
    go_ret
    exact ⟨ret_int HN.out.symm, HB.out⟩
  ·have hk' : k = l.length := by omega
   subst hk'
   go_wp2
   go_ret
   exact ⟨ret_int HA.out.all_.symm, hbl⟩

set_option maxHeartbeats 1000000 in
theorem idxRef_any {A : Option Addr} {n c : Nat} {l : List (Ref)} {fp : List Nat} (p : Ref → Bool) (g : Nat) (lb : Array Value) (eg : ∀ args w, (callFunc g args).run Tryz.prog w = .ok (.enter g args) w) (w : World) (hx : SlR Rp.ref w A n c l fp)
  (hp : ∀ (i : Nat) (hi : i < l.length) (cs : List Value) (fq : List Nat) (w1 : World), Below w.heap.size w w1 → Rp.ref.R w1 cs l[i] fq → Calls Tryz.prog g (#[.agg cs.toArray] ++ lb) w1 fun e w2 => e = .returned (.bool (p l[i])) ∧ Below w1.heap.size w1 w2) :
  Calls Tryz.prog 159 #[.slice A n c, .func (.func g) #[] lb] w fun e w' => e = .returned (.int .i64 (idxP p l)) ∧ Below w.heap.size w w' := by
 obtain ⟨rfl, hcx, hmx, _⟩ := id hx
 unfold maxLen at hmx
 have HP := hide hp
 clear hp
 go_enter Tryz.func159, Tryz.ntmps159
 go_wp2
 go_loopw [8] (fun i wr => ∃ k : Nat, k ≤ l.length ∧ i = .int .i64 k ∧ noneTo p l k ∧ Below w.heap.size w wr) (fun i _ => l.length - (intOf i).toNat)
 case atStart => exact ⟨0, Nat.zero_le _, rfl, noneTo_zero, Below.refl _ _⟩
 case round =>
  obtain ⟨k, hk, rfl, hag, hbl⟩ := hrel
  have HA := hide hag
  clear hag
  by_cases hlt : k < l.length
  ·obtain ⟨b, o, A0, n0, c0, f0, rfl, hb, hm, h0, h1, h2, h3, hs0, hsub⟩ := ref_cells (hx.step hbl) hlt
   go_wp2_with fail
   refine (HP.out k hlt ([.string l[k].name, .bool l[k].guard, .int .i64 l[k].count, .slice A0 n0 c0]) _ wr hbl ⟨A0, n0, c0, f0, rfl, rfl, hs0⟩).mono ?_
   rintro e w1 ⟨rfl, hb1⟩
   have HB := hide (Below.t hbl hb1)
   clear hb1
   cases hd : p l[k]
   ·have HN := hide (HA.out.next hlt hd)
    clear hd
    go_wp2
    exact ⟨⟨k + 1, by omega, by go_num, HN.out, HB.out⟩, by simp [intOf]; omega⟩
   ·have HN := hide (HA.out.hit hlt hd)
    clear hd
    go_wp2
    go_ret
    exact ⟨ret_int HN.out.symm, HB.out⟩
  ·have hk' : k = l.length := by omega
   subst hk'
   go_wp2
   go_ret
   exact ⟨ret_int HA.out.all_.symm, hbl⟩

set_option maxHeartbeats 1000000 in
theorem idxFileS_any {A : Option Addr} {n c : Nat} {l : List (List (File))} {fp : List Nat} (p : List (File) → Bool) (g : Nat) (lb : Array Value) (eg : ∀ args w, (callFunc g args).run Tryz.prog w = .ok (.enter g args) w) (w : World) (hx : SlR (Rp.slice Rp.file) w A n c l fp)
  (hp : ∀ (i : Nat) (hi : i < l.length) (v : Value) (fq : List Nat) (w1 : World), Below w.heap.size w w1 → (Rp.slice Rp.file).R w1 [v] l[i] fq → Calls Tryz.prog g (#[v] ++ lb) w1 fun e w2 => e = .returned (.bool (p l[i])) ∧ Below w1.heap.size w1 w2) :
  Calls Tryz.prog 138 #[.slice A n c, .func (.func g) #[] lb] w fun e w' => e = .returned (.int .i64 (idxP p l)) ∧ Below w.heap.size w w' := by
 obtain ⟨rfl, hcx, hmx, _⟩ := id hx
 unfold maxLen at hmx
 have HP := hide hp
 clear hp
 go_enter Tryz.func138, Tryz.ntmps138
 go_wp2
 go_loopw [8] (fun i wr => ∃ k : Nat, k ≤ l.length ∧ i = .int .i64 k ∧ noneTo p l k ∧ Below w.heap.size w wr) (fun i _ => l.length - (intOf i).toNat)
 case atStart => exact ⟨0, Nat.zero_le _, rfl, noneTo_zero, Below.refl _ _⟩
 case round =>
  obtain ⟨k, hk, rfl, hag, hbl⟩ := hrel
  have HA := hide hag
  clear hag
  by_cases hlt : k < l.length
  ·obtain ⟨b, o, A0, n0, c0, f0, rfl, hb, hm, h0, hs0, hsub⟩ := slice_cells (hx.step hbl) hlt
   go_wp2_with fail
   refine (HP.out k hlt (.slice A0 n0 c0) _ wr hbl ⟨A0, n0, c0, rfl, hs0⟩).mono ?_
   rintro e w1 ⟨rfl, hb1⟩
   have HB := hide (Below.t hbl hb1)
   clear hb1
   cases hd : p l[k]
   ·have HN := hide (HA.out.next hlt hd)
    clear hd
    go_wp2
    exact ⟨⟨k + 1, by omega, by go_num, HN.out, HB.out⟩, by simp [intOf]; omega⟩
   ·have HN := hide (HA.out.hit hlt hd)
    clear hd
    go_wp2
    go_ret
    exact ⟨ret_int HN.out.symm, HB.out⟩
  ·have hk' : k = l.length := by omega
   subst hk'
   go_wp2
   go_ret
   exact ⟨ret_int HA.out.all_.symm, hbl⟩

theorem hasFileS_any {A : Option Addr} {n c : Nat} {l : List (List (File))} {fp : List Nat} (p : List (File) → Bool) (g : Nat) (lb : Array Value) (eg : ∀ args w, (callFunc g args).run Tryz.prog w = .ok (.enter g args) w) (w : World) (hx : SlR (Rp.slice Rp.file) w A n c l fp)
  (hp : ∀ (i : Nat) (hi : i < l.length) (v : Value) (fq : List Nat) (w1 : World), Below w.heap.size w w1 → (Rp.slice Rp.file).R w1 [v] l[i] fq → Calls Tryz.prog g (#[v] ++ lb) w1 fun e w2 => e = .returned (.bool (p l[i])) ∧ Below w1.heap.size w1 w2) :
  Calls Tryz.prog 90 #[.slice A n c, .func (.func g) #[] lb] w fun e w' => e = .returned (.bool (l.any p)) ∧ Below w.heap.size w w' := by
 have HP := hide hp
 clear hp
 go_enter Tryz.func90, Tryz.ntmps90
 go_wp2_with fail
 refine (idxFileS_any p g lb eg _ hx HP.out).mono ?_
 rintro e w1 ⟨rfl, hb1⟩
 go_wp2
 go_ret
 exact ⟨ret_bool (idxP_any p l), hb1⟩

set_option maxHeartbeats 1000000 in
theorem idxInt_any {A : Option Addr} {n c : Nat} {l : List (Int)} {fp : List Nat} (p : Int → Bool) (g : Nat) (lb : Array Value) (eg : ∀ args w, (callFunc g args).run Tryz.prog w = .ok (.enter g args) w) (w : World) (hx : SlR Rp.int w A n c l fp)
  (hp : ∀ (i : Nat) (hi : i < l.length) (v : Value) (fq : List Nat) (w1 : World), Below w.heap.size w w1 → Rp.int.R w1 [v] l[i] fq → Calls Tryz.prog g (#[v] ++ lb) w1 fun e w2 => e = .returned (.bool (p l[i])) ∧ Below w1.heap.size w1 w2) :
  Calls Tryz.prog 167 #[.slice A n c, .func (.func g) #[] lb] w fun e w' => e = .returned (.int .i64 (idxP p l)) ∧ Below w.heap.size w w' := by
 obtain ⟨rfl, hcx, hmx, _⟩ := id hx
 unfold maxLen at hmx
 have HP := hide hp
 clear hp
 go_enter Tryz.func167, Tryz.ntmps167
 go_wp2
 go_loopw [8] (fun i wr => ∃ k : Nat, k ≤ l.length ∧ i = .int .i64 k ∧ noneTo p l k ∧ Below w.heap.size w wr) (fun i _ => l.length - (intOf i).toNat)
 case atStart => exact ⟨0, Nat.zero_le _, rfl, noneTo_zero, Below.refl _ _⟩
 case round =>
  obtain ⟨k, hk, rfl, hag, hbl⟩ := hrel
  have HA := hide hag
  clear hag
  by_cases hlt : k < l.length
  ·obtain ⟨b, o, rfl, hb, hm, h0⟩ := int_cells (hx.step hbl) hlt
   go_wp2_with fail
   refine (HP.out k hlt (.int .i64 l[k]) _ wr hbl ⟨rfl, rfl⟩).mono ?_
   rintro e w1 ⟨rfl, hb1⟩
   have HB := hide (Below.t hbl hb1)
   clear hb1
   cases hd : p l[k]
   ·have HN := hide (HA.out.next hlt hd)
    clear hd
    go_wp2
    exact ⟨⟨k + 1, by omega, by go_num, HN.out, HB.out⟩, by simp [intOf]; omega⟩
   ·have HN := hide (HA.out.hit hlt hd)
    clear hd
    go_wp2
    go_ret
    exact ⟨ret_int HN.out.symm, HB.out⟩
  ·have hk' : k = l.length := by omega
   subst hk'
   go_wp2
   go_ret
   exact ⟨ret_int HA.out.all_.symm, hbl⟩

theorem hasInt_any {A : Option Addr} {n c : Nat} {l : List (Int)} {fp : List Nat} (p : Int → Bool) (g : Nat) (lb : Array Value) (eg : ∀ args w, (callFunc g args).run Tryz.prog w = .ok (.enter g args) w) (w : World) (hx : SlR Rp.int w A n c l fp)
  (hp : ∀ (i : Nat) (hi : i < l.length) (v : Value) (fq : List Nat) (w1 : World), Below w.heap.size w w1 → Rp.int.R w1 [v] l[i] fq → Calls Tryz.prog g (#[v] ++ lb) w1 fun e w2 => e = .returned (.bool (p l[i])) ∧ Below w1.heap.size w1 w2) :
  Calls Tryz.prog 135 #[.slice A n c, .func (.func g) #[] lb] w fun e w' => e = .returned (.bool (l.any p)) ∧ Below w.heap.size w w' := by
 have HP := hide hp
 clear hp
 go_enter Tryz.func135, Tryz.ntmps135
 go_wp2_with fail
 refine (idxInt_any p g lb eg _ hx HP.out).mono ?_
 rintro e w1 ⟨rfl, hb1⟩
 go_wp2
 go_ret
 exact ⟨ret_bool (idxP_any p l), hb1⟩

def refFits (s : ByteArray) : Bool := decide (s = ByteArray.empty) || namOk s
def rulOk (r : Rule) : Bool := inB r.user 0 4 && refFits r.ref && pthOk r.path
def fitRule (r : Rule) : Prop := r.ref.size ≤ 4194304 ∧ r.path.size ≤ 4194304

set_option maxHeartbeats 1000000 in
theorem refFits_any (s : ByteArray) (hs : s.size ≤ 4194304) (w : World) :
  Calls Tryz.prog 95 #[.string s] w fun e w' => e = .returned (.bool (refFits s)) ∧ Below w.heap.size w w' := by
 go_enter Tryz.func95, Tryz.ntmps95
 cases hd : s.toList.isEmpty
 ·go_wp2_with fail
  refine (implNamOk_any s hs _).mono ?_
  rintro e w1 ⟨rfl, hb1⟩
  go_wp2
  go_ret
  exact ⟨ret_bool (by rw [isEmpty_eq] at hd; simp [refFits, hd]), hb1⟩
 ·go_wp2
  go_ret
  exact ⟨ret_bool (by rw [isEmpty_eq] at hd; simp [refFits, hd]), Below.refl _ _⟩

set_option maxHeartbeats 1000000 in
theorem implRulOk_any (r : Rule) (hr : fitRule r) (w : World) :
  Calls Tryz.prog 97 #[.agg (encRule r).toArray] w fun e w' => e = .returned (.bool (rulOk r)) ∧ Below w.heap.size w w' := by
 obtain ⟨user, ref, path, wr⟩ := r
 obtain ⟨hr1, hr2⟩ := hr
 unfold encRule
 go_enter Tryz.func97, Tryz.ntmps97
 go_wp2_with fail
 refine (implIn_any _ _ _ _).mono ?_
 rintro e w1 ⟨rfl, hb1⟩
 have k1 := (Blk.new w _ _).step hb1
 have HB1 := Below.box1 hb1
 clear hb1
 cases h1 : inB user 0 4
 ·go_wp2
  go_ret
  exact ⟨ret_bool (by simp [rulOk, h1]), HB1⟩
 ·have HA := hide h1
  clear h1
  have c1 := k1.cell 1
  have c2 := k1.cell 2
  go_wp2_with fail
  refine (refFits_any ref hr1 _).mono ?_
  rintro e w2 ⟨rfl, hb2⟩
  have k2 := k1.step hb2
  have HB2 := Below.t HB1 hb2
  clear hb2 c1 c2
  cases h1 : refFits ref
  ·go_wp2
   go_ret
   exact ⟨ret_bool (by simp [rulOk, h1]), HB2⟩
  ·have HC := hide h1
   clear h1
   have c2 := k2.cell 2
   go_wp2_with fail
   refine (implPthOk_any path hr2 _).mono ?_
   rintro e w3 ⟨rfl, hb3⟩
   go_wp2
   go_ret
   exact ⟨ret_bool (by simp [rulOk, HA.out, HC.out]), Below.t HB2 hb3⟩

set_option maxHeartbeats 1000000 in
theorem specRulOk_any (r : Rule) (hr : fitRule r) (w : World) :
  Calls Tryz.prog 75 #[.agg (encRule r).toArray] w fun e w' => e = .returned (.bool (rulOk r)) ∧ Below w.heap.size w w' := by
 obtain ⟨user, ref, path, wr⟩ := r
 obtain ⟨hr1, hr2⟩ := hr
 unfold encRule
 go_enter Tryz.func75, Tryz.ntmps75
 go_wp2_with fail
 refine (specIn_any _ _ _ _).mono ?_
 rintro e w1 ⟨rfl, hb1⟩
 have k1 := (Blk.new w _ _).step hb1
 have HB1 := Below.box1 hb1
 clear hb1
 cases h1 : inB user 0 4
 ·go_wp2
  go_ret
  exact ⟨ret_bool (by simp [rulOk, h1]), HB1⟩
 ·have HA := hide h1
  clear h1
  have c1 := k1.cell 1
  have c2 := k1.cell 2
  cases hd : ref.toList.isEmpty
  ·go_wp2_with fail
   refine (specNamOk_any ref hr1 _).mono ?_
   rintro e w2 ⟨rfl, hb2⟩
   have k2 := k1.step hb2
   have HB2 := Below.t HB1 hb2
   rw [isEmpty_eq] at hd
   have HD := hide hd
   clear hb2 c1 c2 hd
   cases h1 : namOk ref
   ·go_wp2
    go_ret
    exact ⟨ret_bool (by simp [rulOk, refFits, h1, HD.out]), HB2⟩
   ·have HC := hide h1
    clear h1
    have c2 := k2.cell 2
    go_wp2_with fail
    refine (specPthOk_any path hr2 _).mono ?_
    rintro e w3 ⟨rfl, hb3⟩
    go_wp2
    go_ret
    exact ⟨ret_bool (by simp [rulOk, refFits, HA.out, HC.out]), Below.t HB2 hb3⟩
  ·go_wp2_with fail
   refine (specPthOk_any path hr2 _).mono ?_
   rintro e w3 ⟨rfl, hb3⟩
   rw [isEmpty_eq] at hd
   have HD := hide hd
   clear hd
   go_wp2
   go_ret
   exact ⟨ret_bool (by simp [rulOk, refFits, HA.out, HD.out]), Below.t HB1 hb3⟩

def forB (r : Rule) (user : Int) (ref : ByteArray) : Bool := rulOk r && (r.user == 0 || r.user == user) && (decide (r.ref = ByteArray.empty) || decide (r.ref = ref))

set_option maxHeartbeats 1000000 in
theorem applies_any (r : Rule) (hr : fitRule r) (user : Int) (ref : ByteArray) (w : World) :
  Calls Tryz.prog 147 #[.agg (encRule r).toArray, .int .i64 user, .string ref] w fun e w' => e = .returned (.bool (forB r user ref)) ∧ Below w.heap.size w w' := by
 obtain ⟨u, rf, path, wr⟩ := r
 have HE := hide hr
 clear hr
 unfold encRule
 go_enter Tryz.func147, Tryz.ntmps147
 go_wp2_with fail
 refine (implRulOk_any ⟨u, rf, path, wr⟩ HE.out _).mono ?_
 rintro e w1 ⟨rfl, hb1⟩
 have k1 := (Blk.new w _ _).step hb1
 have HB1 := Below.box1 hb1
 have c0 := k1.cell 0
 have c1 := k1.cell 1
 clear hb1 k1
 cases h1 : rulOk ⟨u, rf, path, wr⟩
 ·go_wp2
  go_ret
  exact ⟨ret_bool (by simp [forB, h1]), HB1⟩
 ·have HA := hide h1
  clear h1
  cases h2 : (u == 0) <;> cases h3 : (u == user) <;> cases h4 : rf.toList.isEmpty
  all_goals
   go_wp2
   all_goals
    go_ret
    exact ⟨ret_bool (by rw [isEmpty_eq] at h4; simp [forB, h2, h3, h4, HA.out, beq_toListBytes']), HB1⟩

set_option maxHeartbeats 1000000 in
theorem l5For_any (r : Rule) (hr : fitRule r) (user : Int) (ref : ByteArray) (w : World) :
  Calls Tryz.prog 119 #[.agg (encRule r).toArray, .int .i64 user, .string ref] w fun e w' => e = .returned (.bool (forB r user ref)) ∧ Below w.heap.size w w' := by
 obtain ⟨u, rf, path, wr⟩ := r
 have HE := hide hr
 clear hr
 unfold encRule
 go_enter Tryz.func119, Tryz.ntmps119
 go_wp2_with fail
 refine (specRulOk_any ⟨u, rf, path, wr⟩ HE.out _).mono ?_
 rintro e w1 ⟨rfl, hb1⟩
 have k1 := (Blk.new w _ _).step hb1
 have HB1 := Below.box1 hb1
 have c0 := k1.cell 0
 have c1 := k1.cell 1
 clear hb1 k1
 cases h1 : rulOk ⟨u, rf, path, wr⟩
 ·go_wp2
  go_ret
  exact ⟨ret_bool (by simp [forB, h1]), HB1⟩
 ·have HA := hide h1
  clear h1
  cases h2 : (u == 0) <;> cases h3 : (u == user) <;> cases h4 : rf.toList.isEmpty
  all_goals
   go_wp2
   all_goals
    go_ret
    exact ⟨ret_bool (by rw [isEmpty_eq] at h4; simp [forB, h2, h3, h4, HA.out, beq_toListBytes']), HB1⟩
def editOk (e : Edit) : Bool := pthOk e.path && !decide (e.path = ByteArray.empty) && decide (e.bytes.size ≤ 6) && (!e.gone || decide (e.bytes = ByteArray.empty))
def fitEdit (e : Edit) : Prop := e.path.size ≤ 4194304

theorem small_any (n : Int) (w : World) :
  Calls Tryz.prog 94 #[.int .i64 n] w fun e w' => e = .returned (.bool (inB n 0 99)) ∧ Below w.heap.size w w' := by
 go_enter Tryz.func94, Tryz.ntmps94
 go_wp2_with fail
 refine (implIn_any _ _ _ _).mono ?_
 rintro e w1 ⟨rfl, hb1⟩
 go_wp2
 go_ret
 exact ⟨rfl, hb1⟩

set_option maxHeartbeats 1000000 in
theorem editOk_any (x : Edit) (hf : fitEdit x) (w : World) :
  Calls Tryz.prog 100 #[.agg (encEdit x).toArray] w fun e w' => e = .returned (.bool (editOk x)) ∧ Below w.heap.size w w' := by
 obtain ⟨path, bytes, gone⟩ := x
 have HF := hide hf
 clear hf
 rw [show (encEdit ⟨path, bytes, gone⟩).toArray = #[.string path, .string bytes, .bool gone] from rfl]
 go_enter Tryz.func100, Tryz.ntmps100
 go_wp2_with fail
 refine (implPthOk_any path HF.out _).mono ?_
 rintro e w1 ⟨rfl, hb1⟩
 have k1 := (Blk.new w _ _).step hb1
 have c0 := Blk.c0 k1
 have c1 := Blk.c1 k1
 have c2 := Blk.c2 k1
 have HB1 := Below.box1 hb1
 clear hb1 k1
 cases h1 : pthOk path
 ·go_wp2
  go_ret
  exact ⟨ret_bool (by simp [editOk, h1]), HB1⟩
 ·have H1 := hide h1
  clear h1
  cases h2 : path.toList.isEmpty <;> cases h3 : bytes.toList.isEmpty <;> cases gone
  all_goals
   go_wp2
   all_goals
    go_ret
    refine ⟨ret_bool ?_, HB1⟩
    rw [isEmpty_eq] at h2 h3
    have e1 := H1.out
    clear H1 HF
    simp_all [editOk]
    try omega
def reqOk (x : Req) : Bool := inB x.user 0 99 && inB x.repo 0 99 && inB x.old 0 99 && inB x.back 0 99 && inB x.frm 0 99 && inB x.key 0 9999 && inB x.kind 1 11 && refFits x.ref && refFits x.other && pthOk x.path && rulOk x.rule && decide (x.edits.length ≤ 4) && !(x.edits.any fun e => !editOk e)
structure fitReq (x : Req) : Prop where
 ref : x.ref.size ≤ 4194304
 other : x.other.size ≤ 4194304
 path : x.path.size ≤ 4194304
 rule : fitRule x.rule
 edits : ∀ i (h : i < x.edits.length), fitEdit x.edits[i]

theorem reqOk1_any (x : Edit) (hf : fitEdit x) (w : World) :
  Calls Tryz.prog 99 #[.agg (encEdit x).toArray] w fun e w' => e = .returned (.bool (!editOk x)) ∧ Below w.heap.size w w' := by
 have HF := hide hf
 clear hf
 rw [show (encEdit x).toArray = #[.string x.path, .string x.bytes, .bool x.gone] from rfl]
 go_enter Tryz.func99, Tryz.ntmps99
 go_wp2_with fail
 refine (editOk_any x HF.out _).mono ?_
 rintro e w1 ⟨rfl, hb1⟩
 go_wp2
 go_ret
 exact ⟨rfl, Below.box1 hb1⟩

set_option maxHeartbeats 4000000 in
set_option maxRecDepth 20000 in
theorem implReqOk_any {cs : List Value} {x : Req} {fx : List Nat} (w : World) (hx : Rp.req.R w cs x fx) (hf : fitReq x) :
  Calls Tryz.prog 47 #[.agg cs.toArray] w fun e w' => e = .returned (.bool (reqOk x)) ∧ Below w.heap.size w w' := by
 obtain ⟨A0, n0, c0, f0, rfl, _, h0⟩ := hx
 have hn := h0.1
 subst hn
 have hmx := h0.max
 have HF := hide hf
 clear hf
 go_enter Tryz.func47, Tryz.ntmps47
 have k0 := Blk.new w 46 #[.int .i64 x.user, .int .i64 x.key, .int .i64 x.repo, .int .i64 x.kind, .string x.ref, .string x.path, .int .i64 x.old, .int .i64 x.back, .slice A0 x.edits.length c0, .int .i64 x.rule.user, .string x.rule.ref, .string x.rule.path, .bool x.rule.write, .int .i64 x.frm, .string x.other]
 have s0 := h0.allocN (.cells #[.int .i64 x.user, .int .i64 x.key, .int .i64 x.repo, .int .i64 x.kind, .string x.ref, .string x.path, .int .i64 x.old, .int .i64 x.back, .slice A0 x.edits.length c0, .int .i64 x.rule.user, .string x.rule.ref, .string x.rule.path, .bool x.rule.write, .int .i64 x.frm, .string x.other] 46)
 have HB0 := (Below.refl w.heap.size w).alloc nle (.cells #[.int .i64 x.user, .int .i64 x.key, .int .i64 x.repo, .int .i64 x.kind, .string x.ref, .string x.path, .int .i64 x.old, .int .i64 x.back, .slice A0 x.edits.length c0, .int .i64 x.rule.user, .string x.rule.ref, .string x.rule.path, .bool x.rule.write, .int .i64 x.frm, .string x.other] 46)
 clear h0
 go_wp2_with fail
 refine (small_any _ _).mono ?_
 rintro e w1 ⟨rfl, hb1⟩
 have k1 := k0.step hb1
 have s1 := s0.step hb1
 have HB1 := HB0.trans (hb1.mono HB0.size)
 clear hb1 k0 s0 HB0
 cases hd : inB x.user 0 99
 ·go_wp2
  go_ret
  exact ⟨ret_bool (by simp [reqOk, hd]), HB1⟩
 have H1 := hide hd
 clear hd
 have c2 := Blk.c2 k1
 go_wp2_with fail
 refine (small_any _ _).mono ?_
 rintro e w2 ⟨rfl, hb2⟩
 have k2 := k1.step hb2
 have s2 := s1.step hb2
 have HB2 := Below.t HB1 hb2
 clear hb2 k1 s1 HB1 c2
 cases hd : inB x.repo 0 99
 ·go_wp2
  go_ret
  exact ⟨ret_bool (by simp [reqOk, hd]), HB2⟩
 have H2 := hide hd
 clear hd
 have c6 := Blk.c6 k2
 go_wp2_with fail
 refine (small_any _ _).mono ?_
 rintro e w3 ⟨rfl, hb3⟩
 have k3 := k2.step hb3
 have s3 := s2.step hb3
 have HB3 := Below.t HB2 hb3
 clear hb3 k2 s2 HB2 c6
 cases hd : inB x.old 0 99
 ·go_wp2
  go_ret
  exact ⟨ret_bool (by simp [reqOk, hd]), HB3⟩
 have H3 := hide hd
 clear hd
 have c7 := Blk.c7 k3
 go_wp2_with fail
 refine (small_any _ _).mono ?_
 rintro e w4 ⟨rfl, hb4⟩
 have k4 := k3.step hb4
 have s4 := s3.step hb4
 have HB4 := Below.t HB3 hb4
 clear hb4 k3 s3 HB3 c7
 cases hd : inB x.back 0 99
 ·go_wp2
  go_ret
  exact ⟨ret_bool (by simp [reqOk, hd]), HB4⟩
 have H4 := hide hd
 clear hd
 have c13 := Blk.c13 k4
 go_wp2_with fail
 refine (small_any _ _).mono ?_
 rintro e w5 ⟨rfl, hb5⟩
 have k5 := k4.step hb5
 have s5 := s4.step hb5
 have HB5 := Below.t HB4 hb5
 clear hb5 k4 s4 HB4 c13
 cases hd : inB x.frm 0 99
 ·go_wp2
  go_ret
  exact ⟨ret_bool (by simp [reqOk, hd]), HB5⟩
 have H5 := hide hd
 clear hd
 have c1 := Blk.c1 k5
 go_wp2_with fail
 refine (implIn_any _ _ _ _).mono ?_
 rintro e w6 ⟨rfl, hb6⟩
 have k6 := k5.step hb6
 have s6 := s5.step hb6
 have HB6 := Below.t HB5 hb6
 clear hb6 k5 s5 HB5 c1
 cases hd : inB x.key 0 9999
 ·go_wp2
  go_ret
  exact ⟨ret_bool (by simp [reqOk, hd]), HB6⟩
 have H6 := hide hd
 clear hd
 have c3 := Blk.c3 k6
 go_wp2_with fail
 refine (implIn_any _ _ _ _).mono ?_
 rintro e w7 ⟨rfl, hb7⟩
 have k7 := k6.step hb7
 have s7 := s6.step hb7
 have HB7 := Below.t HB6 hb7
 clear hb7 k6 s6 HB6 c3
 cases hd : inB x.kind 1 11
 ·go_wp2
  go_ret
  exact ⟨ret_bool (by simp [reqOk, hd]), HB7⟩
 have H7 := hide hd
 clear hd
 have c4 := Blk.c4 k7
 go_wp2_with fail
 refine (refFits_any _ HF.out.ref _).mono ?_
 rintro e w8 ⟨rfl, hb8⟩
 have k8 := k7.step hb8
 have s8 := s7.step hb8
 have HB8 := Below.t HB7 hb8
 clear hb8 k7 s7 HB7 c4
 cases hd : refFits x.ref
 ·go_wp2
  go_ret
  exact ⟨ret_bool (by simp [reqOk, hd]), HB8⟩
 have H8 := hide hd
 clear hd
 have c14 := Blk.c14 k8
 go_wp2_with fail
 refine (refFits_any _ HF.out.other _).mono ?_
 rintro e w9 ⟨rfl, hb9⟩
 have k9 := k8.step hb9
 have s9 := s8.step hb9
 have HB9 := Below.t HB8 hb9
 clear hb9 k8 s8 HB8 c14
 cases hd : refFits x.other
 ·go_wp2
  go_ret
  exact ⟨ret_bool (by simp [reqOk, hd]), HB9⟩
 have H9 := hide hd
 clear hd
 have c5 := Blk.c5 k9
 go_wp2_with fail
 refine (implPthOk_any _ HF.out.path _).mono ?_
 rintro e w10 ⟨rfl, hb10⟩
 have k10 := k9.step hb10
 have s10 := s9.step hb10
 have HB10 := Below.t HB9 hb10
 clear hb10 k9 s9 HB9 c5
 cases hd : pthOk x.path
 ·go_wp2
  go_ret
  exact ⟨ret_bool (by simp [reqOk, hd]), HB10⟩
 have H10 := hide hd
 clear hd
 have c9 := Blk.c9 k10
 have c10 := Blk.c10 k10
 have c11 := Blk.c11 k10
 have c12 := Blk.c12 k10
 go_wp2_with fail
 refine (implRulOk_any x.rule HF.out.rule _).mono ?_
 rintro e w11 ⟨rfl, hb11⟩
 have k11 := k10.step hb11
 have s11 := s10.step hb11
 have HB11 := Below.t HB10 hb11
 clear hb11 k10 s10 HB10 c9 c10 c11 c12
 cases hd : rulOk x.rule
 ·go_wp2
  go_ret
  exact ⟨ret_bool (by simp [reqOk, hd]), HB11⟩
 have H11 := hide hd
 clear hd
 have c8 := Blk.c8 k11
 by_cases h4 : x.edits.length ≤ 4
 ·go_wp2_with fail
  refine (hasEdit_any (l := x.edits) (fun e => !editOk e) _ _ (enters_of Tryz.func99 (by kernel_rfl) rfl) _ s11 (fun i hi cs fq w1 hB hR => ?_)).mono ?_
  ·obtain ⟨rfl, rfl⟩ := hR
   exact reqOk1_any _ (HF.out.edits i hi) w1
  ·rintro e wz ⟨rfl, hbz⟩
   go_wp2
   go_ret
   exact ⟨ret_bool (by simp [reqOk, H1.out, H2.out, H3.out, H4.out, H5.out, H6.out, H7.out, H8.out, H9.out, H10.out, H11.out, h4]), Below.t HB11 hbz⟩
 ·go_wp2
  go_ret
  exact ⟨ret_bool (by simp [reqOk, h4]), HB11⟩
theorem infoC_Rule : (Tryz.prog.info? 44).map (fun i => (i.zero, i.size, i.bytes)) = some (some (.agg #[.int .i64 0, .string ByteArray.empty, .string ByteArray.empty, .bool false]), 4, 48) := by kernel_rfl
theorem infoC_File : (Tryz.prog.info? 104).map (fun i => (i.zero, i.size, i.bytes)) = some (some (.agg #[.string ByteArray.empty, .string ByteArray.empty]), 2, 32) := by kernel_rfl
theorem infoC_Int : (Tryz.prog.info? 3).map (fun i => (i.zero, i.size, i.bytes)) = some (some (.int .i64 0), 1, 8) := by kernel_rfl

set_option maxHeartbeats 1000000 in
theorem cloneRules_any {A : Option Addr} {n c : Nat} {l : List Rule} {fp : List Nat} (w : World) (hx : SlR Rp.rule w A n c l fp) (hl : l.length ≤ 4194304) :
  Calls Tryz.prog 102 #[.slice A n c] w (OwnF 44 4 encRule w l) := by
 have HX := hide hx
 have hn := hx.1
 subst hn
 clear hx
 obtain ⟨i0, hi, hz0, hz1, hz2⟩ := info_parts infoC_Rule
 go_enter Tryz.func102, Tryz.ntmps102
 go_wp2_with (at_builtin; refine wpList_append_all (r := Rp.rule) rfl _ _ 93 rfl w.heap.size 44 i0 _ 48 Tryz.underlying93 hi hz0 hz1 hz2 rfl (by decide) (.slice none 0 0) 0 [] rfl (World.ownsRow_nil _ _ _ _) rfl HX.out (by unfold maxLen; omega) (by omega) (by simp) ?_)
 intro v' w1 zs f1 hal _ hown hgrow
 obtain ⟨rfl, _⟩ := AllR.flat.1 hal
 go_wp2
 go_ret
 exact ⟨_, rfl, hown, (Below.refl _ _).grown hgrow nle (fun j hj => by cases hj)⟩

set_option maxHeartbeats 1000000 in
theorem cloneFiles_any {A : Option Addr} {n c : Nat} {l : List File} {fp : List Nat} (w : World) (hx : SlR Rp.file w A n c l fp) (hl : l.length ≤ 4194304) :
  Calls Tryz.prog 66 #[.slice A n c] w (OwnF 104 2 encFile w l) := by
 have HX := hide hx
 have hn := hx.1
 subst hn
 clear hx
 obtain ⟨i0, hi, hz0, hz1, hz2⟩ := info_parts infoC_File
 go_enter Tryz.func66, Tryz.ntmps66
 go_wp2_with (at_builtin; refine wpList_append_all (r := Rp.file) rfl _ _ 36 rfl w.heap.size 104 i0 _ 32 Tryz.underlying36 hi hz0 hz1 hz2 rfl (by decide) (.slice none 0 0) 0 [] rfl (World.ownsRow_nil _ _ _ _) rfl HX.out (by unfold maxLen; omega) (by omega) (by simp) ?_)
 intro v' w1 zs f1 hal _ hown hgrow
 obtain ⟨rfl, _⟩ := AllR.flat.1 hal
 go_wp2
 go_ret
 exact ⟨_, rfl, hown, (Below.refl _ _).grown hgrow nle (fun j hj => by cases hj)⟩

set_option maxHeartbeats 1000000 in
theorem cloneInts_any {A : Option Addr} {n c : Nat} {l : List Int} {fp : List Nat} (w : World) (hx : SlR Rp.int w A n c l fp) (hl : l.length ≤ 4194304) :
  Calls Tryz.prog 101 #[.slice A n c] w (OwnF 3 1 (fun n => [.int .i64 n]) w l) := by
 have HX := hide hx
 have hn := hx.1
 subst hn
 clear hx
 obtain ⟨i0, hi, hz0, hz1, hz2⟩ := info_parts infoC_Int
 go_enter Tryz.func101, Tryz.ntmps101
 go_wp2_with (at_builtin; refine wpList_append_all (r := Rp.int) rfl _ _ 22 rfl w.heap.size 3 i0 _ 8 Tryz.underlying22 hi hz0 hz1 hz2 rfl (by decide) (.slice none 0 0) 0 [] rfl (World.ownsRow_nil _ _ _ _) rfl HX.out (by unfold maxLen; omega) (by omega) (by simp) ?_)
 intro v' w1 zs f1 hal _ hown hgrow
 obtain ⟨rfl, _⟩ := AllR.flat.1 hal
 go_wp2
 go_ret
 exact ⟨_, rfl, hown, (Below.refl _ _).grown hgrow nle (fun j hj => by cases hj)⟩

set_option maxHeartbeats 1000000 in
theorem l4Copy_any {A : Option Addr} {n c : Nat} {l : List File} {fp : List Nat} (w : World) (hx : SlR Rp.file w A n c l fp) (hl : l.length ≤ 4194304) :
  Calls Tryz.prog 64 #[.slice A n c] w (OwnF 104 2 encFile w l) := by
 have HX := hide hx
 have hn := hx.1
 subst hn
 clear hx
 obtain ⟨i0, hi, hz0, hz1, hz2⟩ := info_parts infoC_File
 go_enter Tryz.func64, Tryz.ntmps64
 go_wp2_with (at_builtin; refine wpList_append_all (r := Rp.file) rfl _ _ 36 rfl w.heap.size 104 i0 _ 32 Tryz.underlying36 hi hz0 hz1 hz2 rfl (by decide) _ 0 [] rfl (World.ownsRow_made w #[] 0 nle (by simp [maxLen]) rfl) rfl (HX.out.allocN _) (by unfold maxLen; omega) (by omega) (by simp) ?_)
 intro v' w1 zs f1 hal _ hown hgrow
 obtain ⟨rfl, _⟩ := AllR.flat.1 hal
 go_wp2
 go_ret
 exact ⟨_, rfl, hown, ((Below.refl _ _).alloc nle _).grown hgrow (by simp) (fun j hj => by simp [Value.ownBlock] at hj; omega)⟩
theorem toList_iff {a b : ByteArray} : a.toList = b.toList ↔ a = b := ⟨toList_inj, fun h => by rw [h]⟩
theorem equalInRule (x y : Rule) (w : World) : (Op.equalIn 10000 44 (.agg (encRule x).toArray) (.agg (encRule y).toArray)).run Tryz.prog w = .ok (decide (x = y)) w := by
 obtain ⟨a, b, c, d⟩ := x
 obtain ⟨a', b', c', d'⟩ := y
 have u3 := Tryz.underlying3
 have u9 := Tryz.underlying9
 have u4 := Tryz.underlying4
 have a3 := Tryz.isAgg3
 have a9 := Tryz.isAgg9
 have a4 := Tryz.isAgg4
 have z3 := Tryz.sizeOf3
 have z9 := Tryz.sizeOf9
 have z4 := Tryz.sizeOf4
 have hS : Tryz.prog.underlying 44 = some (.struct (Tryz.prog.fieldsOf 44)) := by kernel_rfl
 have hp : Tryz.prog.stoodInHeld 44 = false := by kernel_rfl
 simp only [encRule]
 rw [show (10000 : Nat) = 9999 + 1 from rfl, run_equalIn_agg w 9999 44 _ _ hS hp]
 simp only [Program.fieldsOf, Tryz.underlying44]
 go_simp
 by_cases h1 : a = a' <;> by_cases h2 : b = b' <;> by_cases h3 : c = c' <;> by_cases h4 : d = d' <;> simp [h1, h2, h3, h4, toList_iff]
theorem eqlRule (x y : Rule) (w : World) : (binOp .eql 44 (.agg (encRule x).toArray) (.agg (encRule y).toArray)).run Tryz.prog w = .ok (.bool (decide (x = y))) w := by
 rw [run_eql_struct, equalInRule]; rfl
theorem neqRule (x y : Rule) (w : World) : (binOp .neq 44 (.agg (encRule x).toArray) (.agg (encRule y).toArray)).run Tryz.prog w = .ok (.bool (!decide (x = y))) w := by
 rw [run_neq_struct, equalInRule]; rfl
theorem gdRule (op : BinOp) (a b : Operand) (xs ys : Array Value) (w : World) : (eqGuard op 44 a b (.agg xs) (.agg ys)).run Tryz.prog w = .ok () w := run_eqGuard_agg w op _ a b xs ys (by kernel_rfl)

set_option maxHeartbeats 1000000 in
set_option maxRecDepth 20000 in
theorem l5Same_any {A : Option Addr} {n c : Nat} {l : List Rule} {fp : List Nat} (r : Rule) (w : World) (hx : SlR Rp.rule w A n c l fp) :
  Calls Tryz.prog 163 #[.slice A n c, .agg (encRule r).toArray] w fun e w' => e = .returned (.bool (l.any fun x => decide (x = r))) ∧ Below w.heap.size w w' := by
 obtain ⟨rfl, hcx, hmx, _⟩ := id hx
 unfold maxLen at hmx
 unfold encRule
 go_enter Tryz.func163, Tryz.ntmps163
 go_wp2
 go_loopw [5] (fun i wr => ∃ k : Nat, k ≤ l.length ∧ i = .int .i64 k ∧ noneTo (fun x => decide (x = r)) l k ∧ Below (w.alloc (.cells #[.int .i64 r.user, .string r.ref, .string r.path, .bool r.write] 44)).heap.size (w.alloc (.cells #[.int .i64 r.user, .string r.ref, .string r.path, .bool r.write] 44)) wr) (fun i _ => l.length - (intOf i).toNat)
 case atStart => exact ⟨0, Nat.zero_le _, rfl, noneTo_zero, Below.refl _ _⟩
 case round =>
  obtain ⟨k, hk, rfl, hag, hbl⟩ := hrel
  have HA := hide hag
  clear hag
  have kb := (Blk.new w _ _).step hbl
  by_cases hlt : k < l.length
  ·obtain ⟨b, o, rfl, hb, hm, h0, h1, h2, h3⟩ := rule_cells ((hx.allocN _).step hbl) hlt
   have c0 := Blk.c0 kb
   have c1 := Blk.c1 kb
   have c2 := Blk.c2 kb
   have c3 := Blk.c3 kb
   have i0 : (0 : Int) ≤ (k : Int) := by omega
   have i1 : (k : Int) < (l.length : Int) := by omega
   have heq := eqlRule l[k] r
   have hgd := gdRule
   unfold encRule at heq
   go_wp2_with fail
   go_quiet (fail)
   clear heq hgd c0 c1 c2 c3 h0 h1 h2 h3 i0 i1 kb
   cases hd : decide (l[k] = r)
   ·have HN := hide (HA.out.next hlt hd)
    clear hd
    go_wp2
    exact ⟨⟨k + 1, by omega, by go_num, HN.out, Below.drewN' hbl _⟩, by simp [intOf]; omega⟩
   ·have HN := hide (any_hit (p := fun x => decide (x = r)) hlt hd)
    clear hd
    go_wp2
    go_ret
    exact ⟨ret_bool HN.out.symm, Below.box1 (Below.drewN' hbl _)⟩
  ·have hk' : k = l.length := by omega
   subst hk'
   go_wp2
   go_ret
   exact ⟨ret_bool HA.out.any_.symm, Below.box1 hbl⟩

set_option maxHeartbeats 1000000 in
set_option maxRecDepth 20000 in
theorem idxEqRule_any {A : Option Addr} {n c : Nat} {l : List Rule} {fp : List Nat} (r : Rule) (w : World) (hx : SlR Rp.rule w A n c l fp) :
  Calls Tryz.prog 184 #[.slice A n c, .agg (encRule r).toArray] w fun e w' => e = .returned (.int .i64 (idxP (fun x => decide (x = r)) l)) ∧ Below w.heap.size w w' := by
 obtain ⟨rfl, hcx, hmx, _⟩ := id hx
 unfold maxLen at hmx
 unfold encRule
 go_enter Tryz.func184, Tryz.ntmps184
 go_wp2
 go_loopw [8] (fun i wr => ∃ k : Nat, k ≤ l.length ∧ i = .int .i64 k ∧ noneTo (fun x => decide (x = r)) l k ∧ Below (w.alloc (.cells #[.int .i64 r.user, .string r.ref, .string r.path, .bool r.write] 44)).heap.size (w.alloc (.cells #[.int .i64 r.user, .string r.ref, .string r.path, .bool r.write] 44)) wr) (fun i _ => l.length - (intOf i).toNat)
 case atStart => exact ⟨0, Nat.zero_le _, rfl, noneTo_zero, Below.refl _ _⟩
 case round =>
  obtain ⟨k, hk, rfl, hag, hbl⟩ := hrel
  have HA := hide hag
  clear hag
  have kb := (Blk.new w _ _).step hbl
  by_cases hlt : k < l.length
  ·obtain ⟨b, o, rfl, hb, hm, h0, h1, h2, h3⟩ := rule_cells ((hx.allocN _).step hbl) hlt
   have c0 := Blk.c0 kb
   have c1 := Blk.c1 kb
   have c2 := Blk.c2 kb
   have c3 := Blk.c3 kb
   have i0 : (0 : Int) ≤ (k : Int) := by omega
   have i1 : (k : Int) < (l.length : Int) := by omega
   have heq := eqlRule r l[k]
   have hgd := gdRule
   unfold encRule at heq
   go_wp2_with fail
   go_quiet (fail)
   clear heq hgd c0 c1 c2 c3 h0 h1 h2 h3 i0 i1 kb
   have hcm : decide (r = l[k]) = decide (l[k] = r) := decide_eq_decide.2 eq_comm
   rw [hcm]
   clear hcm
   cases hd : decide (l[k] = r)
   ·have HN := hide (HA.out.next hlt hd)
    clear hd
    go_wp2
    exact ⟨⟨k + 1, by omega, by go_num, HN.out, Below.drewN' hbl _⟩, by simp [intOf]; omega⟩
   ·have HN := hide (HA.out.hit hlt hd)
    clear hd
    go_wp2
    go_ret
    exact ⟨ret_int HN.out.symm, Below.box1 (Below.drewN' hbl _)⟩
  ·have hk' : k = l.length := by omega
   subst hk'
   go_wp2
   go_ret
   exact ⟨ret_int HA.out.all_.symm, Below.box1 hbl⟩

set_option maxHeartbeats 1000000 in
theorem hasEqRule_any {A : Option Addr} {n c : Nat} {l : List Rule} {fp : List Nat} (r : Rule) (w : World) (hx : SlR Rp.rule w A n c l fp) :
  Calls Tryz.prog 169 #[.slice A n c, .agg (encRule r).toArray] w fun e w' => e = .returned (.bool (l.any fun x => decide (x = r))) ∧ Below w.heap.size w w' := by
 unfold encRule
 go_enter Tryz.func169, Tryz.ntmps169
 go_wp2_with fail
 refine (idxEqRule_any r _ (hx.allocN _)).mono ?_
 rintro e w1 ⟨rfl, hb1⟩
 go_wp2
 go_ret
 exact ⟨ret_bool (idxP_any _ l), Below.box1 hb1⟩
def mayB (user : Int) (ref path : ByteArray) (write : Bool) (r : Rule) : Bool := forB r user ref && pthUnder r.path path && (r.write || !write)
def rulMay (l : List Rule) (user : Int) (ref path : ByteArray) (write : Bool) : Bool := l.any (mayB user ref path write)
def rulSees (l : List Rule) (user : Int) (ref : ByteArray) : Bool := l.any fun r => forB r user ref
def fitRules (l : List Rule) : Prop := ∀ i (h : i < l.length), fitRule l[i]

theorem makeFunc_run (fn : Fn) (first cap : Array Value) (w : World) : (Instr.makeFunc fn first cap).run Tryz.prog w = .ok (.func fn first cap) w := rfl

set_option maxHeartbeats 1000000 in
theorem rulMay1_any (r : Rule) (hr : fitRule r) (user : Int) (ref path : ByteArray) (write : Bool) (hp : path.size ≤ 4194304) (b1 b2 b3 b4 : Nat) (w : World)
  (c1 : w.cell? ⟨b1, 0, none⟩ = some (.int .i64 user)) (c2 : w.cell? ⟨b2, 0, none⟩ = some (.string ref)) (c3 : w.cell? ⟨b3, 0, none⟩ = some (.string path)) (c4 : w.cell? ⟨b4, 0, none⟩ = some (.bool write)) :
  Calls Tryz.prog 161 #[.agg (encRule r).toArray, .pointer (some ⟨b1, 0, none⟩), .pointer (some ⟨b2, 0, none⟩), .pointer (some ⟨b3, 0, none⟩), .pointer (some ⟨b4, 0, none⟩)] w
   fun e w' => e = .returned (.bool (mayB user ref path write r)) ∧ Below w.heap.size w w' := by
 obtain ⟨u, rf, pt, wr⟩ := r
 have HE := hide hr
 clear hr
 unfold encRule
 have d1 := cell_alloc c1 (.cells #[.int .i64 u, .string rf, .string pt, .bool wr] 44)
 have d2 := cell_alloc c2 (.cells #[.int .i64 u, .string rf, .string pt, .bool wr] 44)
 have d3 := cell_alloc c3 (.cells #[.int .i64 u, .string rf, .string pt, .bool wr] 44)
 have d4 := cell_alloc c4 (.cells #[.int .i64 u, .string rf, .string pt, .bool wr] 44)
 clear c1 c2 c3 c4
 go_enter Tryz.func161, Tryz.ntmps161
 go_wp2_with fail
 refine (applies_any ⟨u, rf, pt, wr⟩ HE.out _ _ _).mono ?_
 rintro e w1 ⟨rfl, hb1⟩
 have k1 := (Blk.new w _ _).step hb1
 have HB1 := Below.box1 hb1
 have e3 := cell_step d3 hb1
 have e4 := cell_step d4 hb1
 clear hb1 d1 d2 d3 d4
 cases h1 : forB ⟨u, rf, pt, wr⟩ user ref
 ·go_wp2
  go_ret
  exact ⟨ret_bool (by simp [mayB, h1]), HB1⟩
 ·have HA := hide h1
  have q2 := k1.cell 2
  clear h1
  go_wp2_with fail
  refine (implPthUnder_any pt path HE.out.2 hp _).mono ?_
  rintro e w2 ⟨rfl, hb2⟩
  have q3 := (k1.step hb2).cell 3
  have f4 := cell_step e4 hb2
  have HB2 := Below.t HB1 hb2
  clear hb2 k1 q2 e3 e4
  cases h1 : pthUnder pt path
  ·go_wp2
   go_ret
   exact ⟨ret_bool (by simp [mayB, h1]), HB2⟩
  ·have HC := hide h1
   clear h1
   cases wr <;> cases write
   all_goals
    go_wp2
    go_ret
    exact ⟨ret_bool (by simp [mayB, HA.out, HC.out]), HB2⟩

set_option maxHeartbeats 1000000 in
theorem implRulMay_any {A : Option Addr} {n c : Nat} {l : List Rule} {fp : List Nat} (user : Int) (ref path : ByteArray) (write : Bool) (w : World) (hx : SlR Rp.rule w A n c l fp) (hr : fitRules l) (hp : path.size ≤ 4194304) :
  Calls Tryz.prog 121 #[.slice A n c, .int .i64 user, .string ref, .string path, .bool write] w fun e w' => e = .returned (.bool (rulMay l user ref path write)) ∧ Below w.heap.size w w' := by
 have hmf := makeFunc_run
 have HR := hide hr
 clear hr
 go_enter Tryz.func121, Tryz.ntmps121
 go_wp2_with fail
 refine (hasRule_any (l := l) (mayB user ref path write) _ _ (enters_of Tryz.func161 (by kernel_rfl) rfl) _ ((((hx.allocN _).allocN _).allocN _).allocN _) (fun i hi cs fq w1 hB hR => ?_)).mono ?_
 ·obtain ⟨rfl, rfl⟩ := hR
  refine rulMay1_any l[i] (HR.out i hi) user ref path write hp _ _ _ _ w1 ?_ ?_ ?_ ?_
  ·have hc := (Blk.step (Blk.alloc (Blk.alloc (Blk.alloc (Blk.new w _ _) _) _) _) hB).cell 0
   simpa using hc
  ·have hc := (Blk.step (Blk.alloc (Blk.alloc (Blk.new _ _ _) _) _) hB).cell 0
   simpa using hc
  ·have hc := (Blk.step (Blk.alloc (Blk.new _ _ _) _) hB).cell 0
   simpa using hc
  ·have hc := (Blk.step (Blk.new _ _ _) hB).cell 0
   simpa using hc
 ·rintro e w1 ⟨rfl, hb1⟩
  go_wp2
  go_ret
  exact ⟨rfl, Below.box1 (Below.box3 hb1)⟩

set_option maxHeartbeats 1000000 in
theorem rulSees1_any (r : Rule) (hr : fitRule r) (user : Int) (ref : ByteArray) (b1 b2 : Nat) (w : World)
  (c1 : w.cell? ⟨b1, 0, none⟩ = some (.int .i64 user)) (c2 : w.cell? ⟨b2, 0, none⟩ = some (.string ref)) :
  Calls Tryz.prog 146 #[.agg (encRule r).toArray, .pointer (some ⟨b1, 0, none⟩), .pointer (some ⟨b2, 0, none⟩)] w
   fun e w' => e = .returned (.bool (forB r user ref)) ∧ Below w.heap.size w w' := by
 obtain ⟨u, rf, pt, wr⟩ := r
 have HE := hide hr
 clear hr
 unfold encRule
 have d1 := cell_alloc c1 (.cells #[.int .i64 u, .string rf, .string pt, .bool wr] 44)
 have d2 := cell_alloc c2 (.cells #[.int .i64 u, .string rf, .string pt, .bool wr] 44)
 clear c1 c2
 go_enter Tryz.func146, Tryz.ntmps146
 go_wp2_with fail
 refine (applies_any ⟨u, rf, pt, wr⟩ HE.out _ _ _).mono ?_
 rintro e w1 ⟨rfl, hb1⟩
 go_wp2
 go_ret
 exact ⟨rfl, Below.box1 hb1⟩

set_option maxHeartbeats 1000000 in
theorem implRulSees_any {A : Option Addr} {n c : Nat} {l : List Rule} {fp : List Nat} (user : Int) (ref : ByteArray) (w : World) (hx : SlR Rp.rule w A n c l fp) (hr : fitRules l) :
  Calls Tryz.prog 107 #[.slice A n c, .int .i64 user, .string ref] w fun e w' => e = .returned (.bool (rulSees l user ref)) ∧ Below w.heap.size w w' := by
 have hmf := makeFunc_run
 have HR := hide hr
 clear hr
 go_enter Tryz.func107, Tryz.ntmps107
 go_wp2_with fail
 refine (hasRule_any (l := l) (fun r => forB r user ref) _ _ (enters_of Tryz.func146 (by kernel_rfl) rfl) _ ((hx.allocN _).allocN _) (fun i hi cs fq w1 hB hR => ?_)).mono ?_
 ·obtain ⟨rfl, rfl⟩ := hR
  refine rulSees1_any l[i] (HR.out i hi) user ref _ _ w1 ?_ ?_
  ·have hc := (Blk.step (Blk.alloc (Blk.new w _ _) _) hB).cell 0
   simpa using hc
  ·have hc := (Blk.step (Blk.new _ _ _) hB).cell 0
   simpa using hc
 ·rintro e w1 ⟨rfl, hb1⟩
  go_wp2
  go_ret
  exact ⟨rfl, Below.box2 hb1⟩

set_option maxHeartbeats 1000000 in
theorem specRulSees_any {A : Option Addr} {n c : Nat} {l : List Rule} {fp : List Nat} (user : Int) (ref : ByteArray) (w : World) (hx : SlR Rp.rule w A n c l fp) (hr : fitRules l) :
  Calls Tryz.prog 79 #[.slice A n c, .int .i64 user, .string ref] w fun e w' => e = .returned (.bool (rulSees l user ref)) ∧ Below w.heap.size w w' := by
 obtain ⟨rfl, hcx, hmx, _⟩ := id hx
 unfold maxLen at hmx
 have HR := hide hr
 clear hr
 go_enter Tryz.func79, Tryz.ntmps79
 go_wp2
 go_loopw [7] (fun i wr => ∃ k : Nat, k ≤ l.length ∧ i = .int .i64 k ∧ noneTo (fun r => forB r user ref) l k ∧ Below w.heap.size w wr) (fun i _ => l.length - (intOf i).toNat)
 case atStart => exact ⟨0, Nat.zero_le _, rfl, noneTo_zero, Below.refl _ _⟩
 case round =>
  obtain ⟨k, hk, rfl, hag, hbl⟩ := hrel
  have HA := hide hag
  clear hag
  by_cases hlt : k < l.length
  ·obtain ⟨b, o, rfl, hb, hm, h0, h1, h2, h3⟩ := rule_cells (hx.step hbl) hlt
   go_wp2_with fail
   refine (l5For_any l[k] (HR.out k hlt) user ref _).mono ?_
   rintro e w1 ⟨rfl, hb1⟩
   have HB := hide (Below.t hbl hb1)
   clear hb1
   cases hd : forB l[k] user ref
   ·have HN := hide (HA.out.next hlt hd)
    clear hd
    go_wp2
    exact ⟨⟨k + 1, by omega, by go_num, HN.out, HB.out⟩, by simp [intOf]; omega⟩
   ·have HN := hide (any_hit (p := fun r => forB r user ref) hlt hd)
    clear hd
    go_wp2
    go_ret
    exact ⟨ret_bool HN.out.symm, HB.out⟩
  ·have hk' : k = l.length := by omega
   subst hk'
   go_wp2
   go_ret
   exact ⟨ret_bool HA.out.any_.symm, hbl⟩

set_option maxHeartbeats 1000000 in
theorem specRulMay_any {A : Option Addr} {n c : Nat} {l : List Rule} {fp : List Nat} (user : Int) (ref path : ByteArray) (write : Bool) (w : World) (hx : SlR Rp.rule w A n c l fp) (hr : fitRules l) (hp : path.size ≤ 4194304) :
  Calls Tryz.prog 69 #[.slice A n c, .int .i64 user, .string ref, .string path, .bool write] w fun e w' => e = .returned (.bool (rulMay l user ref path write)) ∧ Below w.heap.size w w' := by
 obtain ⟨rfl, hcx, hmx, _⟩ := id hx
 unfold maxLen at hmx
 have HR := hide hr
 clear hr
 go_enter Tryz.func69, Tryz.ntmps69
 go_wp2
 go_loopw [11] (fun i wr => ∃ k : Nat, k ≤ l.length ∧ i = .int .i64 k ∧ noneTo (mayB user ref path write) l k ∧ Below w.heap.size w wr) (fun i _ => l.length - (intOf i).toNat)
 case atStart => exact ⟨0, Nat.zero_le _, rfl, noneTo_zero, Below.refl _ _⟩
 case round =>
  obtain ⟨k, hk, rfl, hag, hbl⟩ := hrel
  have HA := hide hag
  clear hag
  by_cases hlt : k < l.length
  ·obtain ⟨b, o, rfl, hb, hm, h0, h1, h2, h3⟩ := rule_cells (hx.step hbl) hlt
   go_wp2_with fail
   refine (l5For_any l[k] (HR.out k hlt) user ref _).mono ?_
   rintro e w1 ⟨rfl, hb1⟩
   have q2 := cell_step h2 hb1
   have q3 := cell_step h3 hb1
   have HB := hide (Below.t hbl hb1)
   have HP := hide (HR.out k hlt).2
   clear h0 h1 h2
   cases hd : forB l[k] user ref
   ·have HN := hide (HA.out.next hlt (show mayB user ref path write l[k] = false by simp [mayB, hd]))
    clear hd hb1 q2 q3 h3
    go_wp2
    exact ⟨⟨k + 1, by omega, by go_num, HN.out, HB.out⟩, by simp [intOf]; omega⟩
   ·have HD := hide hd
    clear hd hb1 h3
    go_wp2_with fail
    refine (specPthUnder_any _ _ HP.out hp _).mono ?_
    rintro e w2 ⟨rfl, hb2⟩
    have r3 := cell_step q3 hb2
    have HB2 := hide (Below.t HB.out hb2)
    clear q2 q3 hb2
    cases hd : pthUnder l[k].path path
    ·have HN := hide (HA.out.next hlt (show mayB user ref path write l[k] = false by simp [mayB, hd]))
     clear hd r3
     go_wp2
     exact ⟨⟨k + 1, by omega, by go_num, HN.out, HB2.out⟩, by simp [intOf]; omega⟩
    ·have HE := hide hd
     clear hd
     have hw : mayB user ref path write l[k] = (l[k].write || !write) := by simp [mayB, HD.out, HE.out]
     cases h4 : l[k].write <;> cases write
     all_goals rw [h4] at hw r3
     all_goals first
      | (have HN := hide (HA.out.next hlt (hw.trans rfl)); clear hw h4; go_wp2; exact ⟨⟨k + 1, by omega, by go_num, HN.out, HB2.out⟩, by simp [intOf]; omega⟩)
      | (have HN := hide (any_hit hlt (hw.trans rfl)); clear hw h4; go_wp2; go_ret; exact ⟨ret_bool HN.out.symm, HB2.out⟩)
  ·have hk' : k = l.length := by omega
   subst hk'
   go_wp2
   go_ret
   exact ⟨ret_bool HA.out.any_.symm, hbl⟩
def rulAt (l : List Rule) (i : Nat) : Bool := match l[i]? with
 | some r => rulOk r && !((l.take i).any fun x => decide (x = r))
 | none => true
theorem rulAt_eq {l : List Rule} {i : Nat} (h : i < l.length) : rulAt l i = (rulOk l[i] && !((l.take i).any fun x => decide (x = l[i]))) := by
 unfold rulAt
 rw [List.getElem?_eq_getElem h]
def rulListOk (l : List Rule) : Bool := decide (l.length ≤ 6) && allN l.length (rulAt l)

set_option maxHeartbeats 2000000 in
set_option maxRecDepth 20000 in
theorem specRulListOk_any {A : Option Addr} {n c : Nat} {l : List Rule} {fp : List Nat} (w : World) (hx : SlR Rp.rule w A n c l fp) (hr : fitRules l) :
  Calls Tryz.prog 124 #[.slice A n c] w fun e w' => e = .returned (.bool (rulListOk l)) ∧ Below w.heap.size w w' := by
 obtain ⟨rfl, hcx, hmx, _⟩ := id hx
 unfold maxLen at hmx
 have HR := hide hr
 clear hr
 go_enter Tryz.func124, Tryz.ntmps124
 by_cases h6 : l.length ≤ 6
 ·go_wp2
  go_loopw [3] (fun i wr => ∃ k : Nat, k ≤ l.length ∧ i = .int .i64 k ∧ oksTo (rulAt l) k ∧ Below w.heap.size w wr) (fun i _ => l.length - (intOf i).toNat)
  case atStart => exact ⟨0, Nat.zero_le _, rfl, oksTo_zero, Below.refl _ _⟩
  case round =>
   obtain ⟨k, hk, rfl, hag, hbl⟩ := hrel
   have HA := hide hag
   clear hag
   by_cases hlt : k < l.length
   ·have HF := hide (HR.out k hlt)
    have HE := hide (rulAt_eq hlt)
    obtain ⟨f, hxk, _⟩ := (hx.step hbl).take hk
    obtain ⟨b, o, rfl, hb, hm, h0, h1, h2, h3⟩ := rule_cells (hx.step hbl) hlt
    have i0 : (0 : Int) ≤ (k : Int) := by omega
    have i1 : (k : Int) < (l.length : Int) := by omega
    have i2 : (k : Int) ≤ (c : Int) := by omega
    have C1 := specRulOk_any l[k] HF.out
    have C2 := fun W (h : SlR Rp.rule W (some ⟨b, o, none⟩) k c (l.take k) f) => l5Same_any l[k] W h
    unfold encRule at C1 C2
    cases hd : rulOk l[k]
    ·rw [hd] at C1
     have D1 := hide C1
     clear C1 C2
     rw [hd] at HE
     clear hd
     go_wp2_with fail
     have n0 := BelowW.nonempty wr
     have e0 := BelowW.ex (w := wr)
     have g0 := fun n : BelowW wr => n.cell h0
     have g1 := fun n : BelowW wr => n.cell h1
     have g2 := fun n : BelowW wr => n.cell h2
     have g3 := fun n : BelowW wr => n.cell h3
     clear h0 h1 h2 h3
     refine wp_region_below (by kernel_rfl) (by kernel_rfl) ?_
     repeat (go_big_quiet_step (first | (go_at_call 75; exact BelowW.calls _ (D1.out _))))
     refine wpQuiet_nil ?_
     rintro _ ⟨⟨w1, hb1⟩, rfl⟩
     have HB := hide (Below.t hbl hb1)
     clear hb1
     go_wp2
     go_ret
     exact ⟨ret_bool (by unfold rulListOk; rw [oksTo.not_ hlt (HE.out.trans (by simp))]; simp), HB.out⟩
    ·rw [hd, Bool.true_and] at HE
     rw [hd] at C1
     have D1 := hide C1
     clear C1 hd
     cases hd : (l.take k).any fun x => decide (x = l[k])
     all_goals
      simp only [hd] at C2
      have D2 := hide C2
      rw [hd] at HE
      clear hd C2
      go_wp2_with fail
      have n0 := BelowW.nonempty wr
      have e0 := BelowW.ex (w := wr)
      have g0 := fun n : BelowW wr => n.cell h0
      have g1 := fun n : BelowW wr => n.cell h1
      have g2 := fun n : BelowW wr => n.cell h2
      have g3 := fun n : BelowW wr => n.cell h3
      clear h0 h1 h2 h3
      refine wp_region_below (by kernel_rfl) (by kernel_rfl) ?_
      repeat (go_big_quiet_step (first | (go_at_call 75; exact BelowW.calls _ (D1.out _)) | (go_at_call 163; exact BelowW.calls _ (D2.out _ (BelowW.sl _ hxk)))))
      refine wpQuiet_nil ?_
      rintro _ ⟨⟨w1, hb1⟩, rfl⟩
      have HB := hide (Below.t hbl hb1)
      clear hb1 e0 g0 g1 g2 g3
     ·go_wp2
      exact ⟨⟨k + 1, by omega, by go_num, HA.out.next (HE.out.trans rfl), HB.out⟩, by simp [intOf]; omega⟩
     ·go_wp2
      go_ret
      exact ⟨ret_bool (by unfold rulListOk; rw [oksTo.not_ hlt (HE.out.trans rfl)]; simp), HB.out⟩
   ·have hk' : k = l.length := by omega
    subst hk'
    go_wp2
    go_ret
    exact ⟨ret_bool (by unfold rulListOk; rw [HA.out.all_]; simp; omega), hbl⟩
 ·go_wp2
  go_ret
  exact ⟨ret_bool (by unfold rulListOk; rw [decide_eq_false h6]; rfl), Below.refl _ _⟩
set_option maxHeartbeats 2000000 in
set_option maxRecDepth 20000 in
theorem implRulListOk_any {A : Option Addr} {n c : Nat} {l : List Rule} {fp : List Nat} (w : World) (hx : SlR Rp.rule w A n c l fp) (hr : fitRules l) :
  Calls Tryz.prog 141 #[.slice A n c] w fun e w' => e = .returned (.bool (rulListOk l)) ∧ Below w.heap.size w w' := by
 obtain ⟨rfl, hcx, hmx, _⟩ := id hx
 unfold maxLen at hmx
 have HR := hide hr
 clear hr
 go_enter Tryz.func141, Tryz.ntmps141
 go_wp2
 go_loopw [7] (fun i wr => ∃ k : Nat, k ≤ l.length ∧ i = .int .i64 k ∧ oksTo (rulAt l) k ∧ Below w.heap.size w wr) (fun i _ => l.length - (intOf i).toNat)
 case atStart => exact ⟨0, Nat.zero_le _, rfl, oksTo_zero, Below.refl _ _⟩
 case round =>
  obtain ⟨k, hk, rfl, hag, hbl⟩ := hrel
  have HA := hide hag
  clear hag
  by_cases hlt : k < l.length
  ·have HF := hide (HR.out k hlt)
   have HE := hide (rulAt_eq hlt)
   obtain ⟨f, hxk, _⟩ := (hx.step hbl).take hk
   obtain ⟨b, o, rfl, hb, hm, h0, h1, h2, h3⟩ := rule_cells (hx.step hbl) hlt
   have i0 : (0 : Int) ≤ (k : Int) := by omega
   have i1 : (k : Int) < (l.length : Int) := by omega
   have i2 : (k : Int) ≤ (c : Int) := by omega
   have C1 := implRulOk_any l[k] HF.out
   have C2 := fun W (h : SlR Rp.rule W (some ⟨b, o, none⟩) k c (l.take k) f) => hasEqRule_any l[k] W h
   unfold encRule at C1 C2
   go_wp2_with fail
   have hxk' := hxk.allocN (.cells #[.int .i64 l[k].user, .string l[k].ref, .string l[k].path, .bool l[k].write] 44)
   have kb := Blk.new wr 44 #[.int .i64 l[k].user, .string l[k].ref, .string l[k].path, .bool l[k].write]
   have hbl' := hbl.alloc hbl.size (.cells #[.int .i64 l[k].user, .string l[k].ref, .string l[k].path, .bool l[k].write] 44)
   have hg : wr.heap.size < (wr.alloc (.cells #[.int .i64 l[k].user, .string l[k].ref, .string l[k].path, .bool l[k].write] 44)).heap.size := by simp
   clear h0 h1 h2 h3 hxk
   generalize hwx : wr.alloc (.cells #[.int .i64 l[k].user, .string l[k].ref, .string l[k].path, .bool l[k].write] 44) = wx at hxk' kb hbl' ⊢
   clear hwx
   have h0 := Blk.c0 kb
   have h1 := Blk.c1 kb
   have h2 := Blk.c2 kb
   have h3 := Blk.c3 kb
   have n0 := BelowW.nonempty wx
   have e0 := BelowW.ex (w := wx)
   have g0 := fun n : BelowW wx => n.cell h0
   have g1 := fun n : BelowW wx => n.cell h1
   have g2 := fun n : BelowW wx => n.cell h2
   have g3 := fun n : BelowW wx => n.cell h3
   clear h0 h1 h2 h3 kb
   cases hd : rulOk l[k]
   ·simp only [hd] at C1
    have D1 := hide C1
    rw [hd] at HE
    clear C1 C2 hd
    refine wp_region_below (by kernel_rfl) (by kernel_rfl) ?_
    repeat (go_big_quiet_step (first | (go_at_call 97; exact BelowW.calls _ (D1.out _))))
    refine wpQuiet_nil ?_
    rintro _ ⟨⟨w1, hb1⟩, rfl⟩
    have HB := hide (hbl'.trans (hb1.mono hbl'.size))
    clear hb1
    go_wp2
    go_ret
    exact ⟨ret_bool (by unfold rulListOk; rw [oksTo.not_ hlt (HE.out.trans (by simp))]; simp), HB.out⟩
   ·simp only [hd] at C1
    have D1 := hide C1
    rw [hd, Bool.true_and] at HE
    clear C1 hd
    cases hd : (l.take k).any fun x => decide (x = l[k])
    all_goals
     simp only [hd] at C2
     have D2 := hide C2
     rw [hd] at HE
     clear hd C2
     refine wp_region_below (by kernel_rfl) (by kernel_rfl) ?_
     repeat (go_big_quiet_step (first | (go_at_call 97; exact BelowW.calls _ (D1.out _)) | (go_at_call 169; exact BelowW.calls _ (D2.out _ (BelowW.sl _ hxk')))))
     refine wpQuiet_nil ?_
     rintro _ ⟨⟨w1, hb1⟩, rfl⟩
     have HB := hide (hbl'.trans (hb1.mono hbl'.size))
     clear hb1 e0 g0 g1 g2 g3
    ·go_wp2
     exact ⟨⟨k + 1, by omega, by go_num, HA.out.next (HE.out.trans rfl), HB.out⟩, by simp [intOf]; omega⟩
    ·go_wp2
     go_ret
     exact ⟨ret_bool (by unfold rulListOk; rw [oksTo.not_ hlt (HE.out.trans rfl)]; simp), HB.out⟩
  ·have hk' : k = l.length := by omega
   subst hk'
   go_wp2
   go_ret
   exact ⟨ret_bool (by unfold rulListOk; rw [HA.out.all_, Bool.and_true]; exact decide_eq_decide.2 (by omega)), hbl⟩
def putOk (l : List Rule) (r : Rule) : Bool := rulListOk l && rulOk r && !(decide (l.length = 6)) && !(l.any fun x => decide (x = r))
def rulPut (l : List Rule) (r : Rule) : List Rule := if putOk l r then l ++ [r] else l
def OwnFB {α : Type} (t : TypeId) (k : Nat) (enc : α → List Value) (w : World) (l : List α) (b : Bool) (e : Ending) (w' : World) : Prop :=
 ∃ v, e = .returned (.tuple #[v, .bool b]) ∧ w'.ownsRow w.heap.size t k v l.length (l.flatMap enc) ∧ Below w.heap.size w w'

theorem own_base {w : World} {base base' size n : Nat} {e : TypeId} {v : Value} {xs : List Value} (h : w.ownsRow base e size v n xs) (hb : base' ≤ base) : w.ownsRow base' e size v n xs :=
 ⟨h.1, h.2.elim Or.inl (fun ⟨g, cap, cur, hv, hg, r⟩ => Or.inr ⟨g, cap, cur, hv, Nat.le_trans hb hg, r⟩)⟩
theorem own_step {w w1 : World} {base size n : Nat} {e : TypeId} {v : Value} {xs : List Value} (h : w.ownsRow base e size v n xs) (hb : Below w.heap.size w w1) : w1.ownsRow base e size v n xs :=
 ⟨h.1, h.2.elim Or.inl (fun ⟨g, cap, cur, hv, hg, hc, r⟩ => Or.inr ⟨g, cap, cur, hv, hg, (hb.block g (Array.getElem?_eq_some_iff.1 hc).1).trans hc, r⟩)⟩

set_option maxHeartbeats 2000000 in
set_option maxRecDepth 20000 in
theorem implRulPut_any {A : Option Addr} {n c : Nat} {l : List Rule} {fp : List Nat} (r : Rule) (w : World) (hx : SlR Rp.rule w A n c l fp) (hl : l.length ≤ 4194304) (hr : fitRules l) (hf : fitRule r) :
  Calls Tryz.prog 151 #[.slice A n c, .agg (encRule r).toArray] w (OwnFB 44 4 encRule w (rulPut l r) (putOk l r)) := by
 have hn := hx.1
 subst hn
 have HR := hide hr
 have HF := hide hf
 have C1 := implRulOk_any r HF.out
 have C2 := fun W (h : SlR Rp.rule W A l.length c l fp) => hasEqRule_any r W h
 unfold encRule at C1 C2
 have D1 := hide C1
 have D2 := hide C2
 clear hr hf C1 C2
 rw [show (encRule r).toArray = #[.int .i64 r.user, .string r.ref, .string r.path, .bool r.write] from rfl]
 go_enter Tryz.func151, Tryz.ntmps151
 go_wp2_with fail
 refine (cloneRules_any _ (hx.allocN _) hl).mono ?_
 rintro e w1 ⟨v, rfl, hown, hb1⟩
 have k1 := (Blk.new w _ _).step hb1
 have hx1 := (hx.allocN _).step hb1
 have HB1 := Below.box1 hb1
 clear hb1 hx
 go_wp2_with fail
 refine (implRulListOk_any _ hx1 HR.out).mono ?_
 rintro e w2 ⟨rfl, hb2⟩
 have hown2 := own_step (own_base hown (show w.heap.size ≤ _ by simp)) hb2
 have k2 := k1.step hb2
 have hx2 := hx1.step hb2
 have HB2 := Below.t HB1 hb2
 clear hb2 hown k1 hx1 HB1
 cases hd : rulListOk l
 ·have HP := hide (show putOk l r = false by simp [putOk, hd])
  clear hd
  go_wp2
  go_ret2
  refine ⟨v, ?_, ?_, HB2⟩
  ·rw [HP.out]; rfl
  ·rw [show rulPut l r = l by unfold rulPut; rw [HP.out]; rfl]; exact hown2
 ·have H1 := hide hd
  clear hd
  have c0 := Blk.c0 k2
  have c1 := Blk.c1 k2
  have c2 := Blk.c2 k2
  have c3 := Blk.c3 k2
  go_wp2_with fail
  refine (D1.out _).mono ?_
  rintro e w3 ⟨rfl, hb3⟩
  have hown3 := own_step hown2 hb3
  have k3 := k2.step hb3
  have hx3 := hx2.step hb3
  have HB3 := Below.t HB2 hb3
  clear hb3 hown2 k2 hx2 HB2 c0 c1 c2 c3
  cases hd : rulOk r
  ·have HP := hide (show putOk l r = false by simp [putOk, hd])
   clear hd
   go_wp2
   go_ret2
   refine ⟨v, ?_, ?_, HB3⟩
   ·rw [HP.out]; rfl
   ·rw [show rulPut l r = l by unfold rulPut; rw [HP.out]; rfl]; exact hown3
  ·have H2 := hide hd
   clear hd
   have c0 := Blk.c0 k3
   have c1 := Blk.c1 k3
   have c2 := Blk.c2 k3
   have c3 := Blk.c3 k3
   cases hq : ((l.length : Int) == 6)
   ·have H3 := hide (show decide (l.length = 6) = false by simp at hq; exact decide_eq_false (by omega))
    go_wp2_with fail
    refine (D2.out _ hx3).mono ?_
    rintro e w4 ⟨rfl, hb4⟩
    have hown4 := own_step hown3 hb4
    have k4 := k3.step hb4
    have HB4 := Below.t HB3 hb4
    clear hb4 hown3 k3 hx3 HB3 c0 c1 c2 c3 hq
    cases hd : l.any fun x => decide (x = r)
    ·have HP := hide (show putOk l r = true by unfold putOk; rw [H1.out, H2.out, H3.out, hd]; rfl)
     clear hd
     obtain ⟨i0, hi, hz0, hz1, hz2⟩ := info_parts infoC_Rule
     have c0 := Blk.c0 k4
     have c1 := Blk.c1 k4
     have c2 := Blk.c2 k4
     have c3 := Blk.c3 k4
     go_wp2_with (at_builtin; refine wpList_append_own _ rfl _ _ 93 rfl w.heap.size 44 i0 _ 4 48 Tryz.underlying93 hi hz0 hz1 hz2 rfl (by decide) _ _ _ rfl (hown4.alloc _) ⟨w4.heap.size, 0, none⟩ 1 1 (encRule r) rfl rfl (news_alloc w4 (encRule r) _) (Rp.rule.one (w := w4) ⟨rfl, rfl⟩) (by unfold maxLen; omega) (by omega) (by have := HB4.size; simp; omega) ?_)
     intro v' w5 hown' hgrow _
     go_wp2
     go_ret2
     refine ⟨v', ?_, ?_, (HB4.alloc HB4.size _).grown hgrow (by have := HB4.size; simp; omega) (fun j hj => (hown4.lt j hj).1)⟩
     ·rw [HP.out]; rfl
     ·rw [show rulPut l r = l ++ [r] by unfold rulPut; rw [HP.out]; rfl, List.length_append, List.flatMap_append, List.flatMap_singleton]; exact hown'
    ·have HP := hide (show putOk l r = false by unfold putOk; rw [hd]; simp)
     clear hd
     go_wp2
     go_ret2
     refine ⟨v, ?_, ?_, HB4⟩
     ·rw [HP.out]; rfl
     ·rw [show rulPut l r = l by unfold rulPut; rw [HP.out]; rfl]; exact hown4
   ·have HP := hide (show putOk l r = false by simp at hq; simp [putOk, show l.length = 6 by omega])
    go_wp2
    go_ret2
    refine ⟨v, ?_, ?_, HB3⟩
    ·rw [HP.out]; rfl
    ·rw [show rulPut l r = l by unfold rulPut; rw [HP.out]; rfl]; exact hown3
set_option maxHeartbeats 2000000 in
set_option maxRecDepth 20000 in
theorem specRulPut_any {A : Option Addr} {n c : Nat} {l : List Rule} {fp : List Nat} (r : Rule) (w : World) (hx : SlR Rp.rule w A n c l fp) (hl : l.length ≤ 4194304) (hr : fitRules l) (hf : fitRule r) :
  Calls Tryz.prog 127 #[.slice A n c, .agg (encRule r).toArray] w (OwnFB 44 4 encRule w (rulPut l r) (putOk l r)) := by
 have hn := hx.1
 subst hn
 have HR := hide hr
 have HF := hide hf
 have C1 := specRulOk_any r HF.out
 have C2 := fun W (h : SlR Rp.rule W A l.length c l fp) => l5Same_any r W h
 unfold encRule at C1 C2
 have D1 := hide C1
 have D2 := hide C2
 clear hr hf C1 C2
 rw [show (encRule r).toArray = #[.int .i64 r.user, .string r.ref, .string r.path, .bool r.write] from rfl]
 go_enter Tryz.func127, Tryz.ntmps127
 obtain ⟨i0, hi, hz0, hz1, hz2⟩ := info_parts infoC_Rule
 have HX := hide ((hx.allocN (.cells #[.int .i64 r.user, .string r.ref, .string r.path, .bool r.write] 44)).allocN (.cells #[] 44))
 have hown0 := World.ownsRow_made (base := w.heap.size + 1) (e := 44) (size := 4) (w.alloc (.cells #[.int .i64 r.user, .string r.ref, .string r.path, .bool r.write] 44)) #[] 0 (by simp) (by simp [maxLen]) rfl
 rw [show (w.alloc (.cells #[.int .i64 r.user, .string r.ref, .string r.path, .bool r.write] 44)).heap.size = w.heap.size + 1 by simp] at hown0
 have HO := hide hown0
 clear hown0
 go_wp2_with (at_builtin; refine wpList_append_all (r := Rp.rule) rfl _ _ 93 rfl (w.heap.size + 1) 44 i0 _ 48 Tryz.underlying93 hi hz0 hz1 hz2 rfl (by decide) _ 0 [] rfl HO.out rfl HX.out (by unfold maxLen; omega) (by omega) (by simp) ?_)
 intro v w1 zs f1 hal _ hown hgrow
 obtain ⟨rfl, _⟩ := AllR.flat.1 hal
 have hb1 : Below (w.alloc (.cells #[.int .i64 r.user, .string r.ref, .string r.path, .bool r.write] 44)).heap.size (w.alloc (.cells #[.int .i64 r.user, .string r.ref, .string r.path, .bool r.write] 44)) w1 :=
  ((Below.refl _ _).alloc nle _).grown hgrow (by simp) (fun j hj => by simp [Value.ownBlock] at hj; simp; omega)
 have k1 := (Blk.new w _ _).step hb1
 have hx1 := (hx.allocN _).step hb1
 have HB1 := Below.box1 hb1
 clear hb1 hx hal hgrow HX hi hz0 hz1 hz2
 go_wp2_with fail
 refine (specRulListOk_any _ hx1 HR.out).mono ?_
 rintro e w2 ⟨rfl, hb2⟩
 have hown2 := own_step (own_base hown (show w.heap.size ≤ _ by simp)) hb2
 have k2 := k1.step hb2
 have hx2 := hx1.step hb2
 have HB2 := Below.t HB1 hb2
 clear hb2 hown k1 hx1 HB1
 cases hd : rulListOk l
 ·have HP := hide (show putOk l r = false by simp [putOk, hd])
  clear hd
  go_wp2
  go_ret2
  refine ⟨v, ?_, ?_, HB2⟩
  ·rw [HP.out]; rfl
  ·rw [show rulPut l r = l by unfold rulPut; rw [HP.out]; rfl]; exact hown2
 ·have H1 := hide hd
  clear hd
  have c0 := Blk.c0 k2
  have c1 := Blk.c1 k2
  have c2 := Blk.c2 k2
  have c3 := Blk.c3 k2
  go_wp2_with fail
  refine (D1.out _).mono ?_
  rintro e w3 ⟨rfl, hb3⟩
  have hown3 := own_step hown2 hb3
  have k3 := k2.step hb3
  have hx3 := hx2.step hb3
  have HB3 := Below.t HB2 hb3
  clear hb3 hown2 k2 hx2 HB2 c0 c1 c2 c3
  cases hd : rulOk r
  ·have HP := hide (show putOk l r = false by simp [putOk, hd])
   clear hd
   go_wp2
   go_ret2
   refine ⟨v, ?_, ?_, HB3⟩
   ·rw [HP.out]; rfl
   ·rw [show rulPut l r = l by unfold rulPut; rw [HP.out]; rfl]; exact hown3
  ·have H2 := hide hd
   clear hd
   have c0 := Blk.c0 k3
   have c1 := Blk.c1 k3
   have c2 := Blk.c2 k3
   have c3 := Blk.c3 k3
   cases hq : ((l.length : Int) == 6)
   ·have H3 := hide (show decide (l.length = 6) = false by simp at hq; exact decide_eq_false (by omega))
    go_wp2_with fail
    refine (D2.out _ hx3).mono ?_
    rintro e w4 ⟨rfl, hb4⟩
    have hown4 := own_step hown3 hb4
    have k4 := k3.step hb4
    have HB4 := Below.t HB3 hb4
    clear hb4 hown3 k3 hx3 HB3 c0 c1 c2 c3 hq
    cases hd : l.any fun x => decide (x = r)
    ·have HP := hide (show putOk l r = true by unfold putOk; rw [H1.out, H2.out, H3.out, hd]; rfl)
     clear hd
     obtain ⟨i0, hi, hz0, hz1, hz2⟩ := info_parts infoC_Rule
     have c0 := Blk.c0 k4
     have c1 := Blk.c1 k4
     have c2 := Blk.c2 k4
     have c3 := Blk.c3 k4
     go_wp2_with (at_builtin; refine wpList_append_own _ rfl _ _ 93 rfl w.heap.size 44 i0 _ 4 48 Tryz.underlying93 hi hz0 hz1 hz2 rfl (by decide) _ _ _ rfl (hown4.alloc _) ⟨w4.heap.size, 0, none⟩ 1 1 (encRule r) rfl rfl (news_alloc w4 (encRule r) _) (Rp.rule.one (w := w4) ⟨rfl, rfl⟩) (by unfold maxLen; omega) (by omega) (by have := HB4.size; simp; omega) ?_)
     intro v' w5 hown' hgrow _
     go_wp2
     go_ret2
     refine ⟨v', ?_, ?_, (HB4.alloc HB4.size _).grown hgrow (by have := HB4.size; simp; omega) (fun j hj => (hown4.lt j hj).1)⟩
     ·rw [HP.out]; rfl
     ·rw [show rulPut l r = l ++ [r] by unfold rulPut; rw [HP.out]; rfl, List.length_append, List.flatMap_append, List.flatMap_singleton]; exact hown'
    ·have HP := hide (show putOk l r = false by unfold putOk; rw [hd]; simp)
     clear hd
     go_wp2
     go_ret2
     refine ⟨v, ?_, ?_, HB4⟩
     ·rw [HP.out]; rfl
     ·rw [show rulPut l r = l by unfold rulPut; rw [HP.out]; rfl]; exact hown4
   ·have HP := hide (show putOk l r = false by simp at hq; simp [putOk, show l.length = 6 by omega])
    go_wp2
    go_ret2
    refine ⟨v, ?_, ?_, HB3⟩
    ·rw [HP.out]; rfl
    ·rw [show rulPut l r = l by unfold rulPut; rw [HP.out]; rfl]; exact hown3
def rulOut (l : List Rule) (r : Rule) : List Rule := l.filter fun x => !decide (x = r)
theorem rulOut_take_yes {l : List Rule} {r : Rule} {k : Nat} (hk : k < l.length) (h : decide (l[k] = r) = false) : rulOut (l.take (k + 1)) r = rulOut (l.take k) r ++ [l[k]] := by
 unfold rulOut
 rw [List.take_succ_eq_append_getElem hk, List.filter_append, List.filter_cons_of_pos (by rw [h]; rfl), List.filter_nil]
theorem rulOut_take_no {l : List Rule} {r : Rule} {k : Nat} (hk : k < l.length) (h : decide (l[k] = r) = true) : rulOut (l.take (k + 1)) r = rulOut (l.take k) r := by
 unfold rulOut
 rw [List.take_succ_eq_append_getElem hk, List.filter_append, List.filter_cons_of_neg (by rw [h]; decide), List.filter_nil, List.append_nil]
theorem rulOut_le (l : List Rule) (r : Rule) (k : Nat) : (rulOut (l.take k) r).length ≤ l.length :=
 Nat.le_trans (List.length_filter_le _ _) (by simp; omega)

theorem own_form {w : World} {base size n : Nat} {e : TypeId} {v : Value} {xs : List Value} (h : w.ownsRow base e size v n xs) : ∃ A c, v = .slice A n c := by
 rcases h.2 with ⟨rfl, rfl⟩ | ⟨g, cap, cur, rfl, _⟩
 ·exact ⟨none, 0, rfl⟩
 ·exact ⟨_, cap, rfl⟩
theorem own_drewN {w : World} {base size n : Nat} {e : TypeId} {v : Value} {xs : List Value} (h : w.ownsRow base e size v n xs) (q : Nat) : (w.drewN q).ownsRow base e size v n xs := h

set_option maxHeartbeats 2000000 in
set_option maxRecDepth 20000 in
theorem specRulOut_any {A : Option Addr} {n c : Nat} {l : List Rule} {fp : List Nat} (r : Rule) (w : World) (hx : SlR Rp.rule w A n c l fp) (hl : l.length ≤ 4194304) :
  Calls Tryz.prog 128 #[.slice A n c, .agg (encRule r).toArray] w (OwnFB 44 4 encRule w (rulOut l r) (decide ((rulOut l r).length < l.length))) := by
 obtain ⟨rfl, hcx, hmx, _⟩ := id hx
 unfold maxLen at hmx
 rw [show (encRule r).toArray = #[.int .i64 r.user, .string r.ref, .string r.path, .bool r.write] from rfl]
 obtain ⟨i0, hi, hz0, hz1, hz2⟩ := info_parts infoC_Rule
 have hown0 := World.ownsRow_made (base := w.heap.size + 1) (e := 44) (size := 4) (w.alloc (.cells #[.int .i64 r.user, .string r.ref, .string r.path, .bool r.write] 44)) #[] 0 (by simp) (by simp [maxLen]) rfl
 rw [show (w.alloc (.cells #[.int .i64 r.user, .string r.ref, .string r.path, .bool r.write] 44)).heap.size = w.heap.size + 1 by simp] at hown0
 have HO := hide hown0
 clear hown0
 go_enter Tryz.func128, Tryz.ntmps128
 go_wp2
 go_loopw [6, 7] (fun v i wr => ∃ k : Nat, k ≤ l.length ∧ i = .int .i64 k ∧ wr.ownsRow (w.heap.size + 1) 44 4 v (rulOut (l.take k) r).length ((rulOut (l.take k) r).flatMap encRule) ∧ Below (w.alloc (.cells #[.int .i64 r.user, .string r.ref, .string r.path, .bool r.write] 44)).heap.size (w.alloc (.cells #[.int .i64 r.user, .string r.ref, .string r.path, .bool r.write] 44)) wr) (fun _ i _ => l.length - (intOf i).toNat)
 case atStart => exact ⟨0, Nat.zero_le _, rfl, HO.out, (Below.refl _ _).alloc nle _⟩
 case round =>
  obtain ⟨k, hk, rfl, hown, hbl⟩ := hrel
  have kb := (Blk.new w _ _).step hbl
  have hsz := hbl.size
  simp only [World.size_alloc] at hsz
  by_cases hlt : k < l.length
  ·obtain ⟨b, o, rfl, hb, hm, h0, h1, h2, h3⟩ := rule_cells ((hx.allocN _).step hbl) hlt
   have hle := rulOut_le l r k
   have c0 := Blk.c0 kb
   have c1 := Blk.c1 kb
   have c2 := Blk.c2 kb
   have c3 := Blk.c3 kb
   have i0' : (0 : Int) ≤ (k : Int) := by omega
   have i1 : (k : Int) < (l.length : Int) := by omega
   have heq := neqRule l[k] r
   have hgd := gdRule
   unfold encRule at heq
   have HW := hide hown
   clear hown
   go_wp2_with fail
   go_quiet (fail)
   clear heq hgd c0 c1 c2 c3 i0' i1 kb
   cases hd : decide (l[k] = r)
   ·have HN := hide (rulOut_take_yes hlt hd)
    clear hd
    have HW' := hide (own_drewN HW.out nq)
    have hbl' := Below.drewN' hbl nq
    generalize hwx : wr.drewN nq = wx at HW' hbl' ⊢
    have g0 : wx.cell? ⟨b, o + k * 4, none⟩ = some (.int .i64 l[k].user) := by rw [← hwx]; exact h0
    have g1 : wx.cell? ⟨b, o + k * 4 + 1, none⟩ = some (.string l[k].ref) := by rw [← hwx]; exact h1
    have g2 : wx.cell? ⟨b, o + k * 4 + 2, none⟩ = some (.string l[k].path) := by rw [← hwx]; exact h2
    have g3 : wx.cell? ⟨b, o + k * 4 + 3, none⟩ = some (.bool l[k].write) := by rw [← hwx]; exact h3
    have hsx := hbl'.size
    simp only [World.size_alloc] at hsx
    clear hwx h0 h1 h2 h3 HW
    go_wp2_with (at_builtin; refine wpList_append_own _ rfl _ _ 93 rfl (w.heap.size + 1) 44 i0 _ 4 48 Tryz.underlying93 hi hz0 hz1 hz2 rfl (by decide) _ _ _ rfl (HW'.out.alloc _) ⟨wx.heap.size, 0, none⟩ 1 1 (encRule l[k]) rfl rfl (news_alloc wx (encRule l[k]) _) (Rp.rule.one (w := wx) ⟨rfl, rfl⟩) (by unfold maxLen; omega) (by omega) (by simp; omega) ?_)
    intro v' w5 hown' hgrow _
    go_wp2
    refine ⟨⟨k + 1, by omega, by go_num, ?_, (hbl'.alloc hbl'.size _).grown hgrow (by simp; omega) (fun j hj => by have := (HW'.out.lt j hj).1; simp; omega)⟩, by simp [intOf]; omega⟩
    rw [HN.out, List.length_append, List.flatMap_append, List.flatMap_singleton]
    exact hown'
   ·have HN := hide (rulOut_take_no hlt hd)
    clear hd
    go_wp2
    refine ⟨⟨k + 1, by omega, by go_num, ?_, Below.drewN' hbl _⟩, by simp [intOf]; omega⟩
    rw [HN.out]
    exact HW.out
  ·have hk' : k = l.length := by omega
   subst hk'
   rw [List.take_of_length_le nle] at hown
   obtain ⟨A1, c1, rfl⟩ := own_form hown
   have HW := hide hown
   clear hown
   go_wp2
   go_ret2
   refine ⟨.slice A1 (rulOut l r).length c1, ?_, own_base HW.out (by omega), Below.box1 hbl⟩
   rw [show decide ((rulOut l r).length < l.length) = decide (((rulOut l r).length : Int) < (l.length : Int)) from decide_eq_decide.2 (by omega)]
   rfl
def reqWrites (r : Req) : Bool := r.kind == 1 || r.kind == 9 || r.kind == 10

set_option maxHeartbeats 1000000 in
theorem specReqWrites_any {cs : List Value} {x : Req} {fx : List Nat} (w : World) (hx : Rp.req.R w cs x fx) :
  Calls Tryz.prog 38 #[.agg cs.toArray] w fun e w' => e = .returned (.bool (reqWrites x)) ∧ Below w.heap.size w w' := by
 obtain ⟨A0, n0, c0, f0, rfl, _, h0⟩ := hx
 go_enter Tryz.func38, Tryz.ntmps38
 go_wp2
 all_goals (go_ret; exact ⟨ret_bool (by simp_all [reqWrites]), (Below.refl _ _).alloc nle _⟩)

set_option maxHeartbeats 1000000 in
theorem implReqWrites_any {cs : List Value} {x : Req} {fx : List Nat} (w : World) (hx : Rp.req.R w cs x fx) :
  Calls Tryz.prog 108 #[.agg cs.toArray] w fun e w' => e = .returned (.bool (reqWrites x)) ∧ Below w.heap.size w w' := by
 obtain ⟨A0, n0, c0, f0, rfl, _, h0⟩ := hx
 go_enter Tryz.func108, Tryz.ntmps108
 go_wp2
 all_goals (go_ret; exact ⟨ret_bool (by simp_all [reqWrites]), (Below.refl _ _).alloc nle _⟩)

theorem digitsOn_step (f k : Nat) (hk : k ≠ 0) (acc : List UInt8) : digitsOn (f + 1) k acc = digitsOn f (k / 10) (UInt8.ofNat (48 + k % 10) :: acc) := by simp [digitsOn, hk]
theorem digitsOn_zero (f : Nat) (acc : List UInt8) : digitsOn f 0 acc = acc := by cases f <;> simp [digitsOn]

set_option maxHeartbeats 1000000 in
set_option maxRecDepth 20000 in
theorem markText_any (k : Int) (h0 : 0 ≤ k) (h1 : k ≤ 1152921504606846976) (w : World) :
  Calls Tryz.prog 68 #[.int .i64 k] w fun e w' => e = .returned (.string (markTx k)) ∧ Below w.heap.size w w' := by
 obtain ⟨n, rfl⟩ : ∃ n : Nat, k = n := ⟨k.toNat, by omega⟩
 have hcv := run_oneByte (P := Tryz.prog) (dst := 9) Tryz.underlying146 Tryz.underlying5 Tryz.underlying9
 go_enter Tryz.func68, Tryz.ntmps68
 go_wp2
 ·go_ret
  exact ⟨by simp [markTx]; omega, Below.refl _ _⟩
 ·go_loopw [0, 3] (fun kv ov wr => ∃ (m : Nat) (acc : List UInt8) (f : Nat), kv = .int .i64 m ∧ m ≤ n ∧ m ≤ f ∧ ov = .string ⟨acc.toArray⟩ ∧ digitsOn f m acc = digitsOn (n + 1) n [] ∧ acc.length + f ≤ n + 1 ∧ Below w.heap.size w wr) (fun i _ _ => (intOf i).toNat)
  case atStart => exact ⟨n, [], n + 1, rfl, Nat.le_refl _, by omega, rfl, rfl, by simp, Below.refl _ _⟩
  case round =>
   obtain ⟨m, acc, f, rfl, hm, hf, rfl, hd, hl, hbl⟩ := hrel
   have HD := hide hd
   clear hd
   by_cases hlt : m = 0
   ·subst hlt
    go_wp2
    go_ret
    refine ⟨?_, hbl⟩
    have h := HD.out
    rw [digitsOn_zero] at h
    have hk : ¬ (n : Int) ≤ 0 := by omega
    simp only [markTx, hk, if_false, Int.toNat_natCast, ← h]
    show Ending.returned (.string (_ ++ _)) = _
    congr 2
   ·go_wp2
    refine ⟨⟨m / 10, UInt8.ofNat (48 + m % 10) :: acc, f - 1, by go_num, by omega, by omega, ?_, ?_, by simp; omega, hbl.alloc hbl.size _⟩, by simp [intOf]; omega⟩
    ·congr 1
     refine ByteArray.ext ?_
     simp [UInt8.ofNat_add]
    ·obtain ⟨f', rfl⟩ : ∃ f', f = f' + 1 := ⟨f - 1, by omega⟩
     rw [← HD.out, digitsOn_step _ _ hlt]
     rfl
set_option maxHeartbeats 2000000 in
theorem markIntS_any {A : Option Addr} {n c : Nat} {x : List (Int)} {fx : List Nat} (k0 : Int) (w : World) (hx : SlR Rp.int w A n c x fx) (hnd : fx.Nodup) (hfr : Free w fx) (hk0 : 0 ≤ k0) (hkm : k0 + (countL (fun _ => 1) x : Nat) ≤ 1152921504606846976) :
  Calls Tryz.prog 55 #[.slice A n c, .int .i64 k0] w fun e w' => e = .returned (.int .i64 (k0 + (countL (fun _ => 1) x : Nat))) ∧ SlR Rp.int w' A n c (markL (fun _ k => (k : Int)) (fun _ => 1) x k0) fx ∧ Only fx w w' ∧ Free w' fx := by
 obtain ⟨rfl, hcx, hmx, _⟩ := id hx
 unfold maxLen at hmx
 go_enter Tryz.func55, Tryz.ntmps55
 go_wp2
 go_loopw [1, 5] (fun kv i wr => ∃ (i' : Nat) (m : Int), i' ≤ x.length ∧ i = .int .i64 i' ∧ kv = .int .i64 m ∧ MarkRel Rp.int (fun _ k => (k : Int)) (fun _ => 1) w x A c fx k0 i' m wr) (fun _ i _ => x.length - (intOf i).toNat)
 case atStart => exact ⟨0, k0, Nat.zero_le _, rfl, rfl, MarkRel.start hx hfr⟩
 case round =>
  obtain ⟨i, m, hi, rfl, rfl, hrel⟩ := hrel
  have hm0 := hrel.low hk0
  by_cases hlt : i < x.length
  ·have hm1 := hrel.high hlt
   obtain ⟨b, o, cs, f, rfl, hfn, hR, hE, hcl⟩ := hrel.next hnd hlt
   have hkk : Rp.int.k = 1 := rfl
   simp only [hkk, Nat.mul_one] at hE hcl
   obtain ⟨rfl, rfl⟩ := hR
   have hltI : (i : Int) < (x.length : Int) := by omega
   have qs0 : wr.cell? ⟨b, o + i, none⟩ = some _ := hE.cells 0 _ rfl
   have ys0 : wr.frozen? ⟨b, o + i, none⟩ = false := hE.frozen (o + i)
   go_wp2
   refine ⟨⟨i + 1, m + 1, by omega, by go_num, by go_num, ?_⟩, by simp [intOf]; omega⟩
   exact hcl _ [.int .i64 (m)] (by exact (hE.put (j := 0) (by simp) _)) ⟨rfl, rfl⟩
  ·have hi' : i = x.length := by omega
   subst hi'
   go_wp2
   go_ret
   exact hrel.finish

set_option maxHeartbeats 2000000 in
theorem markStrS_any {A : Option Addr} {n c : Nat} {x : List (ByteArray)} {fx : List Nat} (k0 : Int) (w : World) (hx : SlR Rp.str w A n c x fx) (hnd : fx.Nodup) (hfr : Free w fx) (hk0 : 0 ≤ k0) (hkm : k0 + (countL (fun _ => 1) x : Nat) ≤ 1152921504606846976) :
  Calls Tryz.prog 58 #[.slice A n c, .int .i64 k0] w fun e w' => e = .returned (.int .i64 (k0 + (countL (fun _ => 1) x : Nat))) ∧ SlR Rp.str w' A n c (markL (fun _ k => markTx k) (fun _ => 1) x k0) fx ∧ Only fx w w' ∧ Free w' fx := by
 obtain ⟨rfl, hcx, hmx, _⟩ := id hx
 unfold maxLen at hmx
 go_enter Tryz.func58, Tryz.ntmps58
 go_wp2
 go_loopw [1, 5] (fun kv i wr => ∃ (i' : Nat) (m : Int), i' ≤ x.length ∧ i = .int .i64 i' ∧ kv = .int .i64 m ∧ MarkRel Rp.str (fun _ k => markTx k) (fun _ => 1) w x A c fx k0 i' m wr) (fun _ i _ => x.length - (intOf i).toNat)
 case atStart => exact ⟨0, k0, Nat.zero_le _, rfl, rfl, MarkRel.start hx hfr⟩
 case round =>
  obtain ⟨i, m, hi, rfl, rfl, hrel⟩ := hrel
  have hm0 := hrel.low hk0
  by_cases hlt : i < x.length
  ·have hm1 := hrel.high hlt
   obtain ⟨b, o, cs, f, rfl, hfn, hR, hE, hcl⟩ := hrel.next hnd hlt
   have hkk : Rp.str.k = 1 := rfl
   simp only [hkk, Nat.mul_one] at hE hcl
   obtain ⟨rfl, rfl⟩ := hR
   have hltI : (i : Int) < (x.length : Int) := by omega
   have qs0 : wr.cell? ⟨b, o + i, none⟩ = some _ := hE.cells 0 _ rfl
   have ys0 : wr.frozen? ⟨b, o + i, none⟩ = false := hE.frozen (o + i)
   go_wp2_with fail
   refine (markText_any _ (by omega) (by omega) _).mono ?_
   rintro e w1 ⟨rfl, hb1⟩
   have E1 := hE.below hb1
   clear hb1
   have q10 : w1.cell? ⟨b, o + i, none⟩ = some _ := E1.cells 0 _ rfl
   have y10 : w1.frozen? ⟨b, o + i, none⟩ = false := E1.frozen (o + i)
   go_wp2
   refine ⟨⟨i + 1, m + 1, by omega, by go_num, by go_num, ?_⟩, by simp [intOf]; omega⟩
   exact hcl _ [.string (markTx (m))] (by exact (E1.put (j := 0) (by simp) _)) ⟨rfl, rfl⟩
  ·have hi' : i = x.length := by omega
   subst hi'
   go_wp2
   go_ret
   exact hrel.finish

set_option maxHeartbeats 2000000 in
theorem markRuleS_any {A : Option Addr} {n c : Nat} {x : List (Rule)} {fx : List Nat} (k0 : Int) (w : World) (hx : SlR Rp.rule w A n c x fx) (hnd : fx.Nodup) (hfr : Free w fx) (hk0 : 0 ≤ k0) (hkm : k0 + (countL ctRule x : Nat) ≤ 1152921504606846976) :
  Calls Tryz.prog 113 #[.slice A n c, .int .i64 k0] w fun e w' => e = .returned (.int .i64 (k0 + (countL ctRule x : Nat))) ∧ SlR Rp.rule w' A n c (markL mkRule ctRule x k0) fx ∧ Only fx w w' ∧ Free w' fx := by
 obtain ⟨rfl, hcx, hmx, _⟩ := id hx
 unfold maxLen at hmx
 go_enter Tryz.func113, Tryz.ntmps113
 go_wp2
 go_loopw [1, 5] (fun kv i wr => ∃ (i' : Nat) (m : Int), i' ≤ x.length ∧ i = .int .i64 i' ∧ kv = .int .i64 m ∧ MarkRel Rp.rule mkRule ctRule w x A c fx k0 i' m wr) (fun _ i _ => x.length - (intOf i).toNat)
 case atStart => exact ⟨0, k0, Nat.zero_le _, rfl, rfl, MarkRel.start hx hfr⟩
 case round =>
  obtain ⟨i, m, hi, rfl, rfl, hrel⟩ := hrel
  have hm0 := hrel.low hk0
  by_cases hlt : i < x.length
  ·have hm1 := hrel.high hlt
   obtain ⟨b, o, cs, f, rfl, hfn, hR, hE, hcl⟩ := hrel.next hnd hlt
   have hkk : Rp.rule.k = 4 := rfl
   simp only [hkk] at hE hcl
   simp only [ctRule] at hm1
   obtain ⟨rfl, rfl⟩ := hR
   have hltI : (i : Int) < (x.length : Int) := by omega
   have qs0 : wr.cell? ⟨b, o + i * 4, none⟩ = some _ := hE.cells 0 _ rfl
   have qs1 : wr.cell? ⟨b, o + i * 4 + 1, none⟩ = some _ := hE.cells 1 _ rfl
   have qs2 : wr.cell? ⟨b, o + i * 4 + 2, none⟩ = some _ := hE.cells 2 _ rfl
   have qs3 : wr.cell? ⟨b, o + i * 4 + 3, none⟩ = some _ := hE.cells 3 _ rfl
   have ys0 : wr.frozen? ⟨b, o + i * 4, none⟩ = false := hE.frozen (o + i * 4)
   have ys1 : wr.frozen? ⟨b, o + i * 4 + 1, none⟩ = false := hE.frozen (o + i * 4 + 1)
   have ys2 : wr.frozen? ⟨b, o + i * 4 + 2, none⟩ = false := hE.frozen (o + i * 4 + 2)
   have ys3 : wr.frozen? ⟨b, o + i * 4 + 3, none⟩ = false := hE.frozen (o + i * 4 + 3)
   go_wp2_with fail
   refine (markText_any _ (by omega) (by omega) _).mono ?_
   rintro e w1 ⟨rfl, hb1⟩
   have E1 := (hE.put (j := 0) (by simp [encRule]) _).below hb1
   clear hb1
   have q10 : w1.cell? ⟨b, o + i * 4, none⟩ = some _ := E1.cells 0 _ rfl
   have q11 : w1.cell? ⟨b, o + i * 4 + 1, none⟩ = some _ := E1.cells 1 _ rfl
   have q12 : w1.cell? ⟨b, o + i * 4 + 2, none⟩ = some _ := E1.cells 2 _ rfl
   have q13 : w1.cell? ⟨b, o + i * 4 + 3, none⟩ = some _ := E1.cells 3 _ rfl
   have y10 : w1.frozen? ⟨b, o + i * 4, none⟩ = false := E1.frozen (o + i * 4)
   have y11 : w1.frozen? ⟨b, o + i * 4 + 1, none⟩ = false := E1.frozen (o + i * 4 + 1)
   have y12 : w1.frozen? ⟨b, o + i * 4 + 2, none⟩ = false := E1.frozen (o + i * 4 + 2)
   have y13 : w1.frozen? ⟨b, o + i * 4 + 3, none⟩ = false := E1.frozen (o + i * 4 + 3)
   go_wp2_with fail
   refine (markText_any _ (by omega) (by omega) _).mono ?_
   rintro e w2 ⟨rfl, hb2⟩
   have E2 := (E1.put (j := 1) (by simp [encRule]) _).below hb2
   clear hb2
   have q20 : w2.cell? ⟨b, o + i * 4, none⟩ = some _ := E2.cells 0 _ rfl
   have q21 : w2.cell? ⟨b, o + i * 4 + 1, none⟩ = some _ := E2.cells 1 _ rfl
   have q22 : w2.cell? ⟨b, o + i * 4 + 2, none⟩ = some _ := E2.cells 2 _ rfl
   have q23 : w2.cell? ⟨b, o + i * 4 + 3, none⟩ = some _ := E2.cells 3 _ rfl
   have y20 : w2.frozen? ⟨b, o + i * 4, none⟩ = false := E2.frozen (o + i * 4)
   have y21 : w2.frozen? ⟨b, o + i * 4 + 1, none⟩ = false := E2.frozen (o + i * 4 + 1)
   have y22 : w2.frozen? ⟨b, o + i * 4 + 2, none⟩ = false := E2.frozen (o + i * 4 + 2)
   have y23 : w2.frozen? ⟨b, o + i * 4 + 3, none⟩ = false := E2.frozen (o + i * 4 + 3)
   go_wp2
   refine ⟨⟨i + 1, m + (ctRule x[i] : Nat), by omega, by go_num, by simp only [ctRule]; go_num, ?_⟩, by simp [intOf]; omega⟩
   exact hcl _ [.int .i64 (m), .string (markTx (m + 1)), .string (markTx (m + 1 + 1)), .bool ((m + 1 + 1 + 1) % 3 == 0)] (by exact ((E2.put (j := 2) (by simp [encRule]) _).put (j := 3) (by simp [encRule]) _)) ⟨by simp only [encRule, mkRule], rfl⟩
  ·have hi' : i = x.length := by omega
   subst hi'
   go_wp2
   go_ret
   exact hrel.finish

set_option maxHeartbeats 2000000 in
theorem markFileS_any {A : Option Addr} {n c : Nat} {x : List (File)} {fx : List Nat} (k0 : Int) (w : World) (hx : SlR Rp.file w A n c x fx) (hnd : fx.Nodup) (hfr : Free w fx) (hk0 : 0 ≤ k0) (hkm : k0 + (countL ctFile x : Nat) ≤ 1152921504606846976) :
  Calls Tryz.prog 23 #[.slice A n c, .int .i64 k0] w fun e w' => e = .returned (.int .i64 (k0 + (countL ctFile x : Nat))) ∧ SlR Rp.file w' A n c (markL mkFile ctFile x k0) fx ∧ Only fx w w' ∧ Free w' fx := by
 obtain ⟨rfl, hcx, hmx, _⟩ := id hx
 unfold maxLen at hmx
 go_enter Tryz.func23, Tryz.ntmps23
 go_wp2
 go_loopw [1, 5] (fun kv i wr => ∃ (i' : Nat) (m : Int), i' ≤ x.length ∧ i = .int .i64 i' ∧ kv = .int .i64 m ∧ MarkRel Rp.file mkFile ctFile w x A c fx k0 i' m wr) (fun _ i _ => x.length - (intOf i).toNat)
 case atStart => exact ⟨0, k0, Nat.zero_le _, rfl, rfl, MarkRel.start hx hfr⟩
 case round =>
  obtain ⟨i, m, hi, rfl, rfl, hrel⟩ := hrel
  have hm0 := hrel.low hk0
  by_cases hlt : i < x.length
  ·have hm1 := hrel.high hlt
   obtain ⟨b, o, cs, f, rfl, hfn, hR, hE, hcl⟩ := hrel.next hnd hlt
   have hkk : Rp.file.k = 2 := rfl
   simp only [hkk] at hE hcl
   simp only [ctFile] at hm1
   obtain ⟨rfl, rfl⟩ := hR
   have hltI : (i : Int) < (x.length : Int) := by omega
   have qs0 : wr.cell? ⟨b, o + i * 2, none⟩ = some _ := hE.cells 0 _ rfl
   have qs1 : wr.cell? ⟨b, o + i * 2 + 1, none⟩ = some _ := hE.cells 1 _ rfl
   have ys0 : wr.frozen? ⟨b, o + i * 2, none⟩ = false := hE.frozen (o + i * 2)
   have ys1 : wr.frozen? ⟨b, o + i * 2 + 1, none⟩ = false := hE.frozen (o + i * 2 + 1)
   go_wp2_with fail
   refine (markText_any _ (by omega) (by omega) _).mono ?_
   rintro e w1 ⟨rfl, hb1⟩
   have E1 := hE.below hb1
   clear hb1
   have q10 : w1.cell? ⟨b, o + i * 2, none⟩ = some _ := E1.cells 0 _ rfl
   have q11 : w1.cell? ⟨b, o + i * 2 + 1, none⟩ = some _ := E1.cells 1 _ rfl
   have y10 : w1.frozen? ⟨b, o + i * 2, none⟩ = false := E1.frozen (o + i * 2)
   have y11 : w1.frozen? ⟨b, o + i * 2 + 1, none⟩ = false := E1.frozen (o + i * 2 + 1)
   go_wp2_with fail
   refine (markText_any _ (by omega) (by omega) _).mono ?_
   rintro e w2 ⟨rfl, hb2⟩
   have E2 := (E1.put (j := 0) (by simp [encFile]) _).below hb2
   clear hb2
   have q20 : w2.cell? ⟨b, o + i * 2, none⟩ = some _ := E2.cells 0 _ rfl
   have q21 : w2.cell? ⟨b, o + i * 2 + 1, none⟩ = some _ := E2.cells 1 _ rfl
   have y20 : w2.frozen? ⟨b, o + i * 2, none⟩ = false := E2.frozen (o + i * 2)
   have y21 : w2.frozen? ⟨b, o + i * 2 + 1, none⟩ = false := E2.frozen (o + i * 2 + 1)
   go_wp2
   refine ⟨⟨i + 1, m + (ctFile x[i] : Nat), by omega, by go_num, by simp only [ctFile]; go_num, ?_⟩, by simp [intOf]; omega⟩
   exact hcl _ [.string (markTx (m)), .string (markTx (m + 1))] (by exact (E2.put (j := 1) (by simp [encFile]) _)) ⟨by simp only [encFile, mkFile], rfl⟩
  ·have hi' : i = x.length := by omega
   subst hi'
   go_wp2
   go_ret
   exact hrel.finish

set_option maxHeartbeats 2000000 in
theorem markFileSS_any {A : Option Addr} {n c : Nat} {x : List (List (File))} {fx : List Nat} (k0 : Int) (w : World) (hx : SlR (Rp.slice Rp.file) w A n c x fx) (hnd : fx.Nodup) (hfr : Free w fx) (hk0 : 0 ≤ k0) (hkm : k0 + (countL (countL ctFile) x : Nat) ≤ 1152921504606846976) :
  Calls Tryz.prog 157 #[.slice A n c, .int .i64 k0] w fun e w' => e = .returned (.int .i64 (k0 + (countL (countL ctFile) x : Nat))) ∧ SlR (Rp.slice Rp.file) w' A n c (markL (markL mkFile ctFile) (countL ctFile) x k0) fx ∧ Only fx w w' ∧ Free w' fx := by
 obtain ⟨rfl, hcx, hmx, _⟩ := id hx
 unfold maxLen at hmx
 go_enter Tryz.func157, Tryz.ntmps157
 go_wp2
 go_loopw [1, 5] (fun kv i wr => ∃ (i' : Nat) (m : Int), i' ≤ x.length ∧ i = .int .i64 i' ∧ kv = .int .i64 m ∧ MarkRel (Rp.slice Rp.file) (markL mkFile ctFile) (countL ctFile) w x A c fx k0 i' m wr) (fun _ i _ => x.length - (intOf i).toNat)
 case atStart => exact ⟨0, k0, Nat.zero_le _, rfl, rfl, MarkRel.start hx hfr⟩
 case round =>
  obtain ⟨i, m, hi, rfl, rfl, hrel⟩ := hrel
  have hm0 := hrel.low hk0
  by_cases hlt : i < x.length
  ·have hm1 := hrel.high hlt
   obtain ⟨b, o, cs, f, rfl, hfn, hR, hE, hcl⟩ := hrel.next hnd hlt
   have hkk : (Rp.slice Rp.file).k = 1 := rfl
   simp only [hkk, Nat.mul_one] at hE hcl
   obtain ⟨A0, n0, c0, rfl, hs0⟩ := hR
   have hbn0 : b ∉ f := hE.nmem
   have hfn0 := hfn
   have hsub0 : ∀ z ∈ f, z ∈ f := fun z hz => hz
   have hltI : (i : Int) < (x.length : Int) := by omega
   have qs0 : wr.cell? ⟨b, o + i, none⟩ = some _ := hE.cells 0 _ rfl
   have ys0 : wr.frozen? ⟨b, o + i, none⟩ = false := hE.frozen (o + i)
   go_wp2_with fail
   refine (markFileS_any (x := x[i]) _ _ (by exact hs0) hfn0 (hE.free.sub (fun z hz => hE.sub z (hsub0 z hz))) (by omega) (by omega)).mono ?_
   rintro e w1 ⟨rfl, hS1, hO1, hF1⟩
   have E1 := hE.inner hO1 hF1
   have q10 : w1.cell? ⟨b, o + i, none⟩ = some _ := E1.cells 0 _ rfl
   have y10 : w1.frozen? ⟨b, o + i, none⟩ = false := E1.frozen (o + i)
   go_wp2
   refine ⟨⟨i + 1, _, by omega, by go_num, rfl, ?_⟩, by simp [intOf]; omega⟩
   exact hcl _ [.slice A0 n0 c0] (by exact E1) ⟨A0, n0, c0, rfl, hS1⟩
  ·have hi' : i = x.length := by omega
   subst hi'
   go_wp2
   go_ret
   exact hrel.finish

set_option maxHeartbeats 2000000 in
theorem markRefS_any {A : Option Addr} {n c : Nat} {x : List (Ref)} {fx : List Nat} (k0 : Int) (w : World) (hx : SlR Rp.ref w A n c x fx) (hnd : fx.Nodup) (hfr : Free w fx) (hk0 : 0 ≤ k0) (hkm : k0 + (countL ctRef x : Nat) ≤ 1152921504606846976) :
  Calls Tryz.prog 114 #[.slice A n c, .int .i64 k0] w fun e w' => e = .returned (.int .i64 (k0 + (countL ctRef x : Nat))) ∧ SlR Rp.ref w' A n c (markL mkRef ctRef x k0) fx ∧ Only fx w w' ∧ Free w' fx := by
 obtain ⟨rfl, hcx, hmx, _⟩ := id hx
 unfold maxLen at hmx
 go_enter Tryz.func114, Tryz.ntmps114
 go_wp2
 go_loopw [1, 5] (fun kv i wr => ∃ (i' : Nat) (m : Int), i' ≤ x.length ∧ i = .int .i64 i' ∧ kv = .int .i64 m ∧ MarkRel Rp.ref mkRef ctRef w x A c fx k0 i' m wr) (fun _ i _ => x.length - (intOf i).toNat)
 case atStart => exact ⟨0, k0, Nat.zero_le _, rfl, rfl, MarkRel.start hx hfr⟩
 case round =>
  obtain ⟨i, m, hi, rfl, rfl, hrel⟩ := hrel
  have hm0 := hrel.low hk0
  by_cases hlt : i < x.length
  ·have hm1 := hrel.high hlt
   obtain ⟨b, o, cs, f, rfl, hfn, hR, hE, hcl⟩ := hrel.next hnd hlt
   have hkk : Rp.ref.k = 4 := rfl
   simp only [hkk] at hE hcl
   simp only [ctRef] at hm1
   obtain ⟨A0, n0, c0, f0, rfl, hff, hs0⟩ := hR
   have hbnf : b ∉ f := hE.nmem
   rw [hff] at hbnf hfn
   have hbn0 : b ∉ f0 := fun h => hbnf (by simp [h])
   have hfn0 : f0.Nodup := hfn
   have hsub0 : ∀ z ∈ f0, z ∈ f := fun z hz => by rw [hff]; simp [hz]
   have hltI : (i : Int) < (x.length : Int) := by omega
   have qs0 : wr.cell? ⟨b, o + i * 4, none⟩ = some _ := hE.cells 0 _ rfl
   have qs1 : wr.cell? ⟨b, o + i * 4 + 1, none⟩ = some _ := hE.cells 1 _ rfl
   have qs2 : wr.cell? ⟨b, o + i * 4 + 2, none⟩ = some _ := hE.cells 2 _ rfl
   have qs3 : wr.cell? ⟨b, o + i * 4 + 3, none⟩ = some _ := hE.cells 3 _ rfl
   have ys0 : wr.frozen? ⟨b, o + i * 4, none⟩ = false := hE.frozen (o + i * 4)
   have ys1 : wr.frozen? ⟨b, o + i * 4 + 1, none⟩ = false := hE.frozen (o + i * 4 + 1)
   have ys2 : wr.frozen? ⟨b, o + i * 4 + 2, none⟩ = false := hE.frozen (o + i * 4 + 2)
   have ys3 : wr.frozen? ⟨b, o + i * 4 + 3, none⟩ = false := hE.frozen (o + i * 4 + 3)
   go_wp2_with fail
   refine (markText_any _ (by omega) (by omega) _).mono ?_
   rintro e w1 ⟨rfl, hb1⟩
   have E1 := hE.below hb1
   have S1_0 := hs0.step hb1
   clear hb1
   have q10 : w1.cell? ⟨b, o + i * 4, none⟩ = some _ := E1.cells 0 _ rfl
   have q11 : w1.cell? ⟨b, o + i * 4 + 1, none⟩ = some _ := E1.cells 1 _ rfl
   have q12 : w1.cell? ⟨b, o + i * 4 + 2, none⟩ = some _ := E1.cells 2 _ rfl
   have q13 : w1.cell? ⟨b, o + i * 4 + 3, none⟩ = some _ := E1.cells 3 _ rfl
   have y10 : w1.frozen? ⟨b, o + i * 4, none⟩ = false := E1.frozen (o + i * 4)
   have y11 : w1.frozen? ⟨b, o + i * 4 + 1, none⟩ = false := E1.frozen (o + i * 4 + 1)
   have y12 : w1.frozen? ⟨b, o + i * 4 + 2, none⟩ = false := E1.frozen (o + i * 4 + 2)
   have y13 : w1.frozen? ⟨b, o + i * 4 + 3, none⟩ = false := E1.frozen (o + i * 4 + 3)
   go_wp2_with fail
   refine (markFileSS_any (x := x[i].versions) _ _ (by exact (((S1_0.putN hbn0 _).putN hbn0 _).putN hbn0 _)) hfn0 ((((E1.put (j := 0) (by simp) _).put (j := 1) (by simp) _).put (j := 2) (by simp) _).free.sub (fun z hz => hE.sub z (hsub0 z hz))) (by omega) (by omega)).mono ?_
   rintro e w2 ⟨rfl, hS2, hO2, hF2⟩
   have E2 := (((E1.put (j := 0) (by simp) _).put (j := 1) (by simp) _).put (j := 2) (by simp) _).inner (by rw [hff]; exact hO2) (by rw [hff]; exact hF2)
   have q20 : w2.cell? ⟨b, o + i * 4, none⟩ = some _ := E2.cells 0 _ rfl
   have q21 : w2.cell? ⟨b, o + i * 4 + 1, none⟩ = some _ := E2.cells 1 _ rfl
   have q22 : w2.cell? ⟨b, o + i * 4 + 2, none⟩ = some _ := E2.cells 2 _ rfl
   have q23 : w2.cell? ⟨b, o + i * 4 + 3, none⟩ = some _ := E2.cells 3 _ rfl
   have y20 : w2.frozen? ⟨b, o + i * 4, none⟩ = false := E2.frozen (o + i * 4)
   have y21 : w2.frozen? ⟨b, o + i * 4 + 1, none⟩ = false := E2.frozen (o + i * 4 + 1)
   have y22 : w2.frozen? ⟨b, o + i * 4 + 2, none⟩ = false := E2.frozen (o + i * 4 + 2)
   have y23 : w2.frozen? ⟨b, o + i * 4 + 3, none⟩ = false := E2.frozen (o + i * 4 + 3)
   go_wp2
   refine ⟨⟨i + 1, m + (ctRef x[i] : Nat), by omega, by go_num, by simp only [ctRef]; go_num, ?_⟩, by simp [intOf]; omega⟩
   exact hcl _ [.string (markTx (m)), .bool ((m + 1) % 3 == 0), .int .i64 (m + 1 + 1), .slice A0 n0 c0] (by exact E2) ⟨A0, n0, c0, f0, by simp only [mkRef], hff, by simp only [mkRef]; exact hS2⟩
  ·have hi' : i = x.length := by omega
   subst hi'
   go_wp2
   go_ret
   exact hrel.finish

set_option maxHeartbeats 2000000 in
theorem markRepoS_any {A : Option Addr} {n c : Nat} {x : List (Repo)} {fx : List Nat} (k0 : Int) (w : World) (hx : SlR Rp.repo w A n c x fx) (hnd : fx.Nodup) (hfr : Free w fx) (hk0 : 0 ≤ k0) (hkm : k0 + (countL ctRepo x : Nat) ≤ 1152921504606846976) :
  Calls Tryz.prog 56 #[.slice A n c, .int .i64 k0] w fun e w' => e = .returned (.int .i64 (k0 + (countL ctRepo x : Nat))) ∧ SlR Rp.repo w' A n c (markL mkRepo ctRepo x k0) fx ∧ Only fx w w' ∧ Free w' fx := by
 obtain ⟨rfl, hcx, hmx, _⟩ := id hx
 unfold maxLen at hmx
 go_enter Tryz.func56, Tryz.ntmps56
 go_wp2
 go_loopw [1, 5] (fun kv i wr => ∃ (i' : Nat) (m : Int), i' ≤ x.length ∧ i = .int .i64 i' ∧ kv = .int .i64 m ∧ MarkRel Rp.repo mkRepo ctRepo w x A c fx k0 i' m wr) (fun _ i _ => x.length - (intOf i).toNat)
 case atStart => exact ⟨0, k0, Nat.zero_le _, rfl, rfl, MarkRel.start hx hfr⟩
 case round =>
  obtain ⟨i, m, hi, rfl, rfl, hrel⟩ := hrel
  have hm0 := hrel.low hk0
  by_cases hlt : i < x.length
  ·have hm1 := hrel.high hlt
   obtain ⟨b, o, cs, f, rfl, hfn, hR, hE, hcl⟩ := hrel.next hnd hlt
   have hkk : Rp.repo.k = 3 := rfl
   simp only [hkk] at hE hcl
   simp only [ctRepo] at hm1
   obtain ⟨A0, n0, c0, f0, A1, n1, c1, f1, rfl, hff, hs0, hs1⟩ := hR
   have hbnf : b ∉ f := hE.nmem
   rw [hff] at hbnf hfn
   have hbn0 : b ∉ f0 := fun h => hbnf (by simp [h])
   have hbn1 : b ∉ f1 := fun h => hbnf (by simp [h])
   have hfn0 : f0.Nodup := (List.nodup_append.1 hfn).1
   have hfn1 : f1.Nodup := (List.nodup_append.1 hfn).2.1
   have hdis : ∀ y ∈ f0, y ∉ f1 := fun y hy h => (List.nodup_append.1 hfn).2.2 y hy y h rfl
   have hsub0 : ∀ z ∈ f0, z ∈ f := fun z hz => by rw [hff]; simp [hz]
   have hsub1 : ∀ z ∈ f1, z ∈ f := fun z hz => by rw [hff]; simp [hz]
   have hltI : (i : Int) < (x.length : Int) := by omega
   have qs0 : wr.cell? ⟨b, o + i * 3, none⟩ = some _ := hE.cells 0 _ rfl
   have qs1 : wr.cell? ⟨b, o + i * 3 + 1, none⟩ = some _ := hE.cells 1 _ rfl
   have qs2 : wr.cell? ⟨b, o + i * 3 + 2, none⟩ = some _ := hE.cells 2 _ rfl
   have ys0 : wr.frozen? ⟨b, o + i * 3, none⟩ = false := hE.frozen (o + i * 3)
   have ys1 : wr.frozen? ⟨b, o + i * 3 + 1, none⟩ = false := hE.frozen (o + i * 3 + 1)
   have ys2 : wr.frozen? ⟨b, o + i * 3 + 2, none⟩ = false := hE.frozen (o + i * 3 + 2)
   go_wp2_with fail
   refine (markRuleS_any (x := x[i].rules) _ _ (by exact (hs0.putN hbn0 _)) hfn0 ((hE.put (j := 0) (by simp) _).free.sub (fun z hz => hE.sub z (hsub0 z hz))) (by omega) (by omega)).mono ?_
   rintro e w1 ⟨rfl, hS1, hO1, hF1⟩
   have E1 := (hE.put (j := 0) (by simp) _).inner (hO1.mono (fun z hz => .inl (hsub0 z hz))) (Free.other ((hE.put (j := 0) (by simp) _).free.sub hE.sub) hO1 hF1 (Free.lt ((hE.put (j := 0) (by simp) _).free.sub hE.sub)))
   have S1_1 := (hs1.putN hbn1 _).only hO1 (fun z hz h => hdis z h hz)
   have q10 : w1.cell? ⟨b, o + i * 3, none⟩ = some _ := E1.cells 0 _ rfl
   have q11 : w1.cell? ⟨b, o + i * 3 + 1, none⟩ = some _ := E1.cells 1 _ rfl
   have q12 : w1.cell? ⟨b, o + i * 3 + 2, none⟩ = some _ := E1.cells 2 _ rfl
   have y10 : w1.frozen? ⟨b, o + i * 3, none⟩ = false := E1.frozen (o + i * 3)
   have y11 : w1.frozen? ⟨b, o + i * 3 + 1, none⟩ = false := E1.frozen (o + i * 3 + 1)
   have y12 : w1.frozen? ⟨b, o + i * 3 + 2, none⟩ = false := E1.frozen (o + i * 3 + 2)
   go_wp2_with fail
   refine (markRefS_any (x := x[i].refs) _ _ (by exact S1_1) hfn1 (E1.free.sub (fun z hz => hE.sub z (hsub1 z hz))) (by omega) (by omega)).mono ?_
   rintro e w2 ⟨rfl, hS2, hO2, hF2⟩
   have E2 := E1.inner (hO2.mono (fun z hz => .inl (hsub1 z hz))) (Free.other (E1.free.sub hE.sub) hO2 hF2 (Free.lt (E1.free.sub hE.sub)))
   have S2_0 := hS1.only hO2 (fun z hz h => hdis z hz h)
   have q20 : w2.cell? ⟨b, o + i * 3, none⟩ = some _ := E2.cells 0 _ rfl
   have q21 : w2.cell? ⟨b, o + i * 3 + 1, none⟩ = some _ := E2.cells 1 _ rfl
   have q22 : w2.cell? ⟨b, o + i * 3 + 2, none⟩ = some _ := E2.cells 2 _ rfl
   have y20 : w2.frozen? ⟨b, o + i * 3, none⟩ = false := E2.frozen (o + i * 3)
   have y21 : w2.frozen? ⟨b, o + i * 3 + 1, none⟩ = false := E2.frozen (o + i * 3 + 1)
   have y22 : w2.frozen? ⟨b, o + i * 3 + 2, none⟩ = false := E2.frozen (o + i * 3 + 2)
   go_wp2
   refine ⟨⟨i + 1, m + (ctRepo x[i] : Nat), by omega, by go_num, by simp only [ctRepo]; go_num, ?_⟩, by simp [intOf]; omega⟩
   exact hcl _ [.int .i64 (m), .slice A0 n0 c0, .slice A1 n1 c1] (by exact E2) ⟨A0, n0, c0, f0, A1, n1, c1, f1, by simp only [mkRepo], hff, by simp only [mkRepo]; exact S2_0, by simp only [mkRepo]; exact hS2⟩
  ·have hi' : i = x.length := by omega
   subst hi'
   go_wp2
   go_ret
   exact hrel.finish

set_option maxHeartbeats 2000000 in
theorem markEditS_any {A : Option Addr} {n c : Nat} {x : List (Edit)} {fx : List Nat} (k0 : Int) (w : World) (hx : SlR Rp.edit w A n c x fx) (hnd : fx.Nodup) (hfr : Free w fx) (hk0 : 0 ≤ k0) (hkm : k0 + (countL ctEdit x : Nat) ≤ 1152921504606846976) :
  Calls Tryz.prog 57 #[.slice A n c, .int .i64 k0] w fun e w' => e = .returned (.int .i64 (k0 + (countL ctEdit x : Nat))) ∧ SlR Rp.edit w' A n c (markL mkEdit ctEdit x k0) fx ∧ Only fx w w' ∧ Free w' fx := by
 obtain ⟨rfl, hcx, hmx, _⟩ := id hx
 unfold maxLen at hmx
 go_enter Tryz.func57, Tryz.ntmps57
 go_wp2
 go_loopw [1, 5] (fun kv i wr => ∃ (i' : Nat) (m : Int), i' ≤ x.length ∧ i = .int .i64 i' ∧ kv = .int .i64 m ∧ MarkRel Rp.edit mkEdit ctEdit w x A c fx k0 i' m wr) (fun _ i _ => x.length - (intOf i).toNat)
 case atStart => exact ⟨0, k0, Nat.zero_le _, rfl, rfl, MarkRel.start hx hfr⟩
 case round =>
  obtain ⟨i, m, hi, rfl, rfl, hrel⟩ := hrel
  have hm0 := hrel.low hk0
  by_cases hlt : i < x.length
  ·have hm1 := hrel.high hlt
   obtain ⟨b, o, cs, f, rfl, hfn, hR, hE, hcl⟩ := hrel.next hnd hlt
   have hkk : Rp.edit.k = 3 := rfl
   simp only [hkk] at hE hcl
   simp only [ctEdit] at hm1
   obtain ⟨rfl, rfl⟩ := hR
   have hltI : (i : Int) < (x.length : Int) := by omega
   have qs0 : wr.cell? ⟨b, o + i * 3, none⟩ = some _ := hE.cells 0 _ rfl
   have qs1 : wr.cell? ⟨b, o + i * 3 + 1, none⟩ = some _ := hE.cells 1 _ rfl
   have qs2 : wr.cell? ⟨b, o + i * 3 + 2, none⟩ = some _ := hE.cells 2 _ rfl
   have ys0 : wr.frozen? ⟨b, o + i * 3, none⟩ = false := hE.frozen (o + i * 3)
   have ys1 : wr.frozen? ⟨b, o + i * 3 + 1, none⟩ = false := hE.frozen (o + i * 3 + 1)
   have ys2 : wr.frozen? ⟨b, o + i * 3 + 2, none⟩ = false := hE.frozen (o + i * 3 + 2)
   go_wp2_with fail
   refine (markText_any _ (by omega) (by omega) _).mono ?_
   rintro e w1 ⟨rfl, hb1⟩
   have E1 := hE.below hb1
   clear hb1
   have q10 : w1.cell? ⟨b, o + i * 3, none⟩ = some _ := E1.cells 0 _ rfl
   have q11 : w1.cell? ⟨b, o + i * 3 + 1, none⟩ = some _ := E1.cells 1 _ rfl
   have q12 : w1.cell? ⟨b, o + i * 3 + 2, none⟩ = some _ := E1.cells 2 _ rfl
   have y10 : w1.frozen? ⟨b, o + i * 3, none⟩ = false := E1.frozen (o + i * 3)
   have y11 : w1.frozen? ⟨b, o + i * 3 + 1, none⟩ = false := E1.frozen (o + i * 3 + 1)
   have y12 : w1.frozen? ⟨b, o + i * 3 + 2, none⟩ = false := E1.frozen (o + i * 3 + 2)
   go_wp2_with fail
   refine (markText_any _ (by omega) (by omega) _).mono ?_
   rintro e w2 ⟨rfl, hb2⟩
   have E2 := (E1.put (j := 0) (by simp [encEdit]) _).below hb2
   clear hb2
   have q20 : w2.cell? ⟨b, o + i * 3, none⟩ = some _ := E2.cells 0 _ rfl
   have q21 : w2.cell? ⟨b, o + i * 3 + 1, none⟩ = some _ := E2.cells 1 _ rfl
   have q22 : w2.cell? ⟨b, o + i * 3 + 2, none⟩ = some _ := E2.cells 2 _ rfl
   have y20 : w2.frozen? ⟨b, o + i * 3, none⟩ = false := E2.frozen (o + i * 3)
   have y21 : w2.frozen? ⟨b, o + i * 3 + 1, none⟩ = false := E2.frozen (o + i * 3 + 1)
   have y22 : w2.frozen? ⟨b, o + i * 3 + 2, none⟩ = false := E2.frozen (o + i * 3 + 2)
   go_wp2
   refine ⟨⟨i + 1, m + (ctEdit x[i] : Nat), by omega, by go_num, by simp only [ctEdit]; go_num, ?_⟩, by simp [intOf]; omega⟩
   exact hcl _ [.string (markTx (m)), .string (markTx (m + 1)), .bool ((m + 1 + 1) % 3 == 0)] (by exact ((E2.put (j := 1) (by simp [encEdit]) _).put (j := 2) (by simp [encEdit]) _)) ⟨by simp only [encEdit, mkEdit], rfl⟩
  ·have hi' : i = x.length := by omega
   subst hi'
   go_wp2
   go_ret
   exact hrel.finish

set_option maxHeartbeats 2000000 in
theorem l6Edits_any {A : Option Addr} {n c : Nat} {l : List Edit} {fp : List Nat} (w : World) (hx : SlR Rp.edit w A n c l fp) (hf : ∀ i (h : i < l.length), fitEdit l[i]) :
  Calls Tryz.prog 74 #[.slice A n c] w fun e w' => e = .returned (.bool (decide (l.length ≤ 4) && !(l.any fun e => !editOk e))) ∧ Below w.heap.size w w' := by
 obtain ⟨rfl, hcx, hmx, _⟩ := id hx
 unfold maxLen at hmx
 have HF := hide hf
 clear hf
 go_enter Tryz.func74, Tryz.ntmps74
 by_cases h4 : l.length ≤ 4
 ·go_wp2
  go_loopw [3] (fun i wr => ∃ k : Nat, k ≤ l.length ∧ i = .int .i64 k ∧ noneTo (fun e => !editOk e) l k ∧ Below w.heap.size w wr) (fun i _ => l.length - (intOf i).toNat)
  case atStart => exact ⟨0, Nat.zero_le _, rfl, noneTo_zero, Below.refl _ _⟩
  case round =>
   obtain ⟨k, hk, rfl, hag, hbl⟩ := hrel
   have HA := hide hag
   clear hag
   by_cases hlt : k < l.length
   ·obtain ⟨b, o, rfl, hb, hm, h0, h1, h2⟩ := edit_cells (hx.step hbl) hlt
    have HG := hide (HF.out k hlt)
    have HX := hide (fun (h : editOk l[k] = false) => any_hit (p := fun e => !editOk e) hlt (by simp [h]))
    have HY := hide (fun (h : editOk l[k] = true) => HA.out.next (p := fun e => !editOk e) hlt (by simp [h]))
    generalize l[k] = x at h0 h1 h2 HG HX HY
    obtain ⟨path, bytes, gone⟩ := x
    cases hp : path.toList.isEmpty
    ·go_wp2_with fail
     refine (specPthOk_any path HG.out _).mono ?_
     rintro e w1 ⟨rfl, hb1⟩
     have q1 := cell_step h1 hb1
     have q2 := cell_step h2 hb1
     have HB := hide (Below.t hbl hb1)
     clear hb1 h0 h1 h2
     rw [isEmpty_eq] at hp
     have HP := hide hp
     clear hp
     cases hd : pthOk path
     ·go_wp2
      go_ret
      exact ⟨ret_bool (by rw [HX.out (by simp [editOk, hd])]; simp), HB.out⟩
     ·have HD := hide hd
      clear hd
      cases h3 : bytes.toList.isEmpty <;> cases gone
      all_goals
       go_wp2
       all_goals
        rw [isEmpty_eq] at h3
        first
        | (go_ret; exact ⟨ret_bool (by rw [HX.out (by simp_all [editOk, HD.out, HP.out]; try omega)]; simp), HB.out⟩)
        | exact ⟨⟨k + 1, by omega, by go_num, HY.out (by simp_all [editOk, HD.out, HP.out]; try omega), HB.out⟩, by simp [intOf]; omega⟩
    ·go_wp2
     go_ret
     exact ⟨ret_bool (by rw [isEmpty_eq] at hp; rw [HX.out (by simp [editOk, hp])]; simp), hbl⟩
   ·have hk' : k = l.length := by omega
    subst hk'
    go_wp2
    go_ret
    exact ⟨ret_bool (by rw [HA.out.any_]; simp; omega), hbl⟩
 ·go_wp2
  go_ret
  exact ⟨ret_bool (by rw [decide_eq_false h4]; rfl), Below.refl _ _⟩
end Go.Proofs.YtnogkkcmcnhodaaGreatDoor
