/- Walks: bounds, names; of the reference and of the program. -/
import Derived.Test.YthopednilgncgaaDoorPl
import Derived.Test.YthopednilgncgaaDoorOb
import Derived.Test.YthopednilgncgaaDoorShelf
namespace Go.Proofs.YthopednilgncgaaDoor
open Go.RowKit
attribute [local go_sem ↓] Go.wp_at_zero Go.wp_at_succ

theorem inB_eq (n lo hi : Int) : inB n lo hi = (decide (lo ≤ n) && decide (n ≤ hi)) := rfl

theorem specIn_any (n lo hi : Int) (w : World) :
    Calls Tryd.prog 64 #[.int .i64 n, .int .i64 lo, .int .i64 hi] w fun e w' => e = .returned (.bool (inB n lo hi)) ∧ Below w.heap.size w w' := by
  go_enter Tryd.func64, Tryd.ntmps64
  go_wp2
  all_goals (go_ret; exact ⟨ret_bool (by rw [inB_eq, Bool.eq_iff_iff]; simp; try omega), Below.refl _ _⟩)

theorem implIn_any (n lo hi : Int) (w : World) :
    Calls Tryd.prog 58 #[.int .i64 n, .int .i64 lo, .int .i64 hi] w fun e w' => e = .returned (.bool (inB n lo hi)) ∧ Below w.heap.size w w' := by
  go_enter Tryd.func58, Tryd.ntmps58
  go_wp2
  all_goals (go_ret; exact ⟨ret_bool (by rw [inB_eq, Bool.eq_iff_iff]; simp; try omega), Below.refl _ _⟩)

/-- The first k bytes are fine. -/
def lowTo (s : ByteArray) (k : Nat) : Prop := (s.data.toList.take k).all lowB = true
theorem byte_at {s : ByteArray} {k : Nat} (_h : k < s.size) (h' : k < s.data.toList.length) : s.data.toList[k] = s[k] := rfl
theorem lowTo_succ {s : ByteArray} {k : Nat} (h : lowTo s k) (hk : k < s.size) (h1 : 97 ≤ s[k].toNat) (h2 : s[k].toNat ≤ 122) : lowTo s (k + 1) := by
  have hk' : k < s.data.toList.length := by rw [← Lib.size_eq]; exact hk
  unfold lowTo at *
  rw [List.take_succ_eq_append_getElem hk', List.all_append, h, byte_at hk hk']
  simp [lowB, h1, h2]
theorem lowTo_not {s : ByteArray} {k : Nat} (hk : k < s.size) (h : ¬ (97 ≤ s[k].toNat ∧ s[k].toNat ≤ 122)) : s.data.toList.all lowB = false := by
  have hk' : k < s.data.toList.length := by rw [← Lib.size_eq]; exact hk
  rw [List.all_eq_false]
  exact ⟨s[k], by rw [← byte_at hk hk']; exact List.getElem_mem hk', by simp [lowB]; omega⟩
theorem lowTo_all {s : ByteArray} (h : lowTo s s.size) : s.data.toList.all lowB = true := by
  unfold lowTo at h
  rwa [List.take_of_length_le (by rw [Lib.size_eq]; exact Nat.le_refl _)] at h

set_option maxHeartbeats 1000000 in
theorem implNamOk_any (s : ByteArray) (hs : s.size ≤ 4194304) (w : World) :
    Calls Tryd.prog 50 #[.string s] w fun e w' => e = .returned (.bool (namOk s)) ∧ Below w.heap.size w w' := by
  go_enter Tryd.func50, Tryd.ntmps50
  go_wp2
  go_loopw [6] (fun i wr => ∃ k : Nat, k ≤ s.size ∧ i = .int .i64 k ∧ lowTo s k ∧ Below w.heap.size w wr) (fun i _ => s.size - (intOf i).toNat)
  case atStart => exact ⟨0, Nat.zero_le _, rfl, rfl, Below.refl _ _⟩
  case round =>
    obtain ⟨k, hk, rfl, hag, hbl⟩ := hrel
    have HA := hide hag
    clear hag
    by_cases hlt : k < s.size
    · go_wp2
      all_goals first
        | (go_ret; exact ⟨ret_bool (by simp [namOk, lowTo_not hlt (by omega)]), hbl⟩)
        | exact ⟨⟨k + 1, by omega, by go_num, lowTo_succ HA.out hlt (by omega) (by omega), hbl⟩, by simp [intOf]; omega⟩
    · have hk' : k = s.size := by omega
      subst hk'
      go_wp2_with fail
      refine (implIn_any _ _ _ _).mono ?_
      rintro e w1 ⟨rfl, hb1⟩
      go_wp2
      go_ret
      exact ⟨ret_bool (by simp [namOk, lowTo_all HA.out]), hbl.trans (hb1.mono hbl.size)⟩

set_option maxHeartbeats 1000000 in
theorem specNamOk_any (s : ByteArray) (hs : s.size ≤ 4194304) (w : World) :
    Calls Tryd.prog 66 #[.string s] w fun e w' => e = .returned (.bool (namOk s)) ∧ Below w.heap.size w w' := by
  go_enter Tryd.func66, Tryd.ntmps66
  go_wp2_with fail
  refine (specIn_any _ _ _ _).mono ?_
  rintro e w1 ⟨rfl, hb1⟩
  cases hd : inB s.size 1 3
  · go_wp2
    go_ret
    exact ⟨ret_bool (by simp [namOk, hd]), hb1⟩
  · have HD := hide hd
    clear hd
    go_wp2
    go_loopw [3] (fun i wr => ∃ k : Nat, k ≤ s.size ∧ i = .int .i64 k ∧ lowTo s k ∧ Below w.heap.size w wr) (fun i _ => s.size - (intOf i).toNat)
    case atStart => exact ⟨0, Nat.zero_le _, rfl, rfl, hb1⟩
    case round =>
      obtain ⟨k, hk, rfl, hag, hbl⟩ := hrel
      have HA := hide hag
      clear hag
      by_cases hlt : k < s.size
      · go_wp2
        all_goals first
          | (go_ret; exact ⟨ret_bool (by simp [namOk, lowTo_not hlt (by omega)]), hbl⟩)
          | exact ⟨⟨k + 1, by omega, by go_num, lowTo_succ HA.out hlt (by omega) (by omega), hbl⟩, by simp [intOf]; omega⟩
      · have hk' : k = s.size := by omega
        subst hk'
        go_wp2
        go_ret
        exact ⟨ret_bool (by simp [namOk, HD.out, lowTo_all HA.out]), hbl⟩

/-! Split at one byte. -/
theorem map_flat1 {α β : Type} (f : α → β) : ∀ l : List α, l.map f = l.flatMap fun n => [f n]
  | [] => rfl
  | a :: l => by simp [map_flat1 f l]

set_option maxHeartbeats 1000000 in
theorem split_any (c : UInt8) (s : ByteArray) (hs : s.size ≤ 4194304) (w : World) :
    Calls Tryd.prog 79 #[.string s, .string ⟨#[c]⟩] w (FreshS Rp.str w (cutB c s)) := by
  have h1 : 1 ≤ (⟨#[c]⟩ : ByteArray).size := Nat.le_refl 1
  have hle := Lib.countB_le ⟨#[c]⟩ h1 s.size s (Nat.le_refl _)
  have hlen := Lib.splitB_all ⟨#[c]⟩ h1 0 _ s rfl
  have k : Calls Tryd.prog 99 #[.string s, .string ⟨#[c]⟩, .int .i64 0, .int .i64 (-1)] w fun e w' =>
      e = .returned (.slice (some ⟨w.heap.size, 0, none⟩) (Lib.splitB ⟨#[c]⟩ 0 (Lib.countB s ⟨#[c]⟩ + 1 - 1) s).length (Lib.countB s ⟨#[c]⟩ + 1)) ∧ w' = w.alloc (.cells (Lib.cellsOf (Lib.splitB ⟨#[c]⟩ 0 (Lib.countB s ⟨#[c]⟩ + 1 - 1) s) (Lib.countB s ⟨#[c]⟩ + 1)) 9) := Any.strings_genSplit_core Tryd.lays221 (by kernel_rfl) s ⟨#[c]⟩ 0 (-1) (Lib.countB s ⟨#[c]⟩ + 1) w (by omega) h1 (Nat.zero_le _)
    (fun x cc hx => by
      have := Tryd.strings_Index_one x c (w.alloc (.cells cc 9))
      rw [← Lib.index_one] at this
      exact this)
    (by
      have := Tryd.strings_Count_one s c w
      unfold Lib.countByte at this
      rw [← Lib.count_one] at this
      exact this)
    (by decide) (by decide) (by rw [if_pos (by decide)]; omega)
  rw [Nat.add_sub_cancel, hlen] at k
  have e2 : Lib.cellsOf (Lib.splitB ⟨#[c]⟩ 0 (Lib.countB s ⟨#[c]⟩) s) (Lib.countB s ⟨#[c]⟩ + 1) = ((Lib.splitB ⟨#[c]⟩ 0 (Lib.countB s ⟨#[c]⟩) s).map Value.string).toArray := by rw [← hlen]; exact Lib.cellsOf_full _
  rw [e2, ← hlen, cutB_split] at k
  clear e2 hle hlen h1
  go_enter Tryd.func79, Tryd.ntmps79
  go_wp2_with fail
  refine k.mono ?_
  rintro e w1 ⟨rfl, rfl⟩
  go_wp2
  go_ret
  have hl := cutB_length c s
  refine ⟨_, _, _, [w.heap.size], rfl, ⟨rfl, Nat.le_refl _, by unfold maxLen; omega, (cutB c s).map Value.string, [w.heap.size], [], ⟨by simp [Rp.str, Rp.flat], ?_⟩, AllR.flat.2 ⟨?_, rfl⟩, rfl⟩, by simp, by simp, ?_, (Below.refl _ _).alloc (Nat.le_refl _) _⟩
  · refine .inr ⟨?_, _, 0, rfl, rfl, by simp, fun j u hu => ?_⟩
    · have := cutL_ne c s.data.toList
      unfold cutB
      rw [List.length_map]
      exact List.length_pos_iff.2 this
    · rw [(Blk.new w _ _).cell, Nat.zero_add]
      simpa using hu
  · exact map_flat1 _ _
  · intro b hb
    obtain rfl : b = w.heap.size := by simpa using hb
    exact ⟨_, _, heap_alloc_new w _⟩
end Go.Proofs.YthopednilgncgaaDoor
