/- A rule that is read: what both readers come to. Plain; no program in sight. -/
import Derived.Test.YthopednilgncgaaDoorTz
namespace Go.Proofs.YthopednilgncgaaDoor
open Go.RowKit

def undashB (s : ByteArray) : ByteArray := if s = ⟨#[45]⟩ then ByteArray.empty else s
def writeB : ByteArray := ⟨#[119, 114, 105, 116, 101]⟩
def numB (s : ByteArray) : Int := match s.data.toList with
  | [b] => if 48 ≤ b.toNat ∧ b.toNat ≤ 52 then (b.toNat : Int) - 48 else -1
  | _ => -1
def noRule : Rule := ⟨0, ByteArray.empty, ByteArray.empty, false⟩
def ruleOf (x : Int) (b c d : ByteArray) : Rule := ⟨x, undashB b, undashB c, decide (d = writeB)⟩
def readOf (a b c d : ByteArray) : Rule := ruleOf (numB a) b c d
def rulRead (s : ByteArray) : Rule × Bool :=
  if 200 < s.size then (noRule, false) else
  match cutB 32 s with
  | [a, b, c, d] => if rulText (readOf a b c d) = s then (readOf a b c d, true) else (noRule, false)
  | _ => (noRule, false)

theorem digB_one {u : Nat} (h : u < 10) : digB u = ⟨#[UInt8.ofNat (48 + u)]⟩ := by unfold digB; rw [decDigits_small h]
theorem numB_dig {u : Nat} (h : u ≤ 4) : numB (digB u) = u := by
  rw [digB_one (by omega)]
  rcases (show u = 0 ∨ u = 1 ∨ u = 2 ∨ u = 3 ∨ u = 4 by omega) with rfl | rfl | rfl | rfl | rfl <;> rfl
theorem cutB_first {u : Nat} (h : u ≤ 4) {t : ByteArray} {a b c d : ByteArray} (hc : cutB 32 (digB u ++ blankB ++ t) = [a, b, c, d]) : a = digB u := by
  have e : (digB u ++ blankB ++ t).data.toList = UInt8.ofNat (48 + u) :: 32 :: t.data.toList := by
    rw [digB_one (by omega)]
    simp [blankB]
  have hne : UInt8.ofNat (48 + u) ≠ 32 := by
    rcases (show u = 0 ∨ u = 1 ∨ u = 2 ∨ u = 3 ∨ u = 4 by omega) with rfl | rfl | rfl | rfl | rfl <;> decide
  unfold cutB at hc
  rw [e, cutL, if_neg hne, cutL, if_pos rfl] at hc
  simp only [List.map_cons, List.cons.injEq] at hc
  rw [← hc.1, digB_one (by omega)]
theorem text_first {s a b c d : ByteArray} {r : Rule} (hc : cutB 32 s = [a, b, c, d]) (h : rulText r = s) : ∃ u : Nat, u ≤ 4 ∧ r.user = u ∧ a = digB u := by
  unfold rulText at h
  split at h
  · rename_i hk
    obtain ⟨u, hu, h4, _, _⟩ := rulOk_parts hk
    rw [hu] at h
    refine ⟨u, h4, hu, ?_⟩
    subst h
    unfold rulTextB at hc
    simp only [Int.toNat_natCast, ByteArray.append_assoc] at hc
    rw [← ByteArray.append_assoc] at hc
    exact cutB_first h4 hc
  · subst h
    have := congrArg List.length hc
    simp [cutB, cutL] at this
/-- Whatever number a reader reads of another word: the text tells it. -/
theorem read_same {s a b c d : ByteArray} (hc : cutB 32 s = [a, b, c, d]) {x : Int} (hx : ∀ u : Nat, u ≤ 4 → a = digB u → x = u) :
    (rulText (ruleOf x b c d) = s ∧ ruleOf x b c d = readOf a b c d) ∨ (rulText (ruleOf x b c d) ≠ s ∧ rulText (readOf a b c d) ≠ s) := by
  by_cases h : rulText (ruleOf x b c d) = s
  · obtain ⟨u, h4, hu, ha⟩ := text_first hc h
    exact .inl ⟨h, by rw [readOf, show x = u from hu, ha, numB_dig h4]⟩
  · refine .inr ⟨h, fun e => ?_⟩
    obtain ⟨u, h4, hu, ha⟩ := text_first hc e
    rw [hx u h4 ha] at h
    rw [readOf, show numB a = u from hu] at e
    exact h e
theorem undash_size (s : ByteArray) : (undashB s).size ≤ s.size := by
  unfold undashB
  split
  · exact Nat.zero_le _
  · exact Nat.le_refl _
theorem cut_sizes {s a b c d : ByteArray} (hc : cutB 32 s = [a, b, c, d]) : a.size ≤ s.size ∧ b.size ≤ s.size ∧ c.size ≤ s.size ∧ d.size ≤ s.size := by
  have h := cutB_part 32 s
  rw [hc] at h
  exact ⟨h a (by simp), h b (by simp), h c (by simp), h d (by simp)⟩
theorem text_full {s a b c d : ByteArray} (hc : cutB 32 s = [a, b, c, d]) : s ≠ ByteArray.empty := by
  rintro rfl
  have := congrArg List.length hc
  simp [cutB, cutL] at this
theorem rulRead_long {s : ByteArray} (h : 200 < s.size) : rulRead s = (noRule, false) := by unfold rulRead; rw [if_pos h]
theorem rulRead_no4 {s : ByteArray} (h : (cutB 32 s).length ≠ 4) : rulRead s = (noRule, false) := by
  unfold rulRead
  split
  · rfl
  · split
    · rename_i e
      rw [e] at h
      exact absurd rfl h
    · rfl
theorem rulRead_yes {s a b c d : ByteArray} (h : ¬ 200 < s.size) (hc : cutB 32 s = [a, b, c, d]) (e : rulText (readOf a b c d) = s) : rulRead s = (readOf a b c d, true) := by
  unfold rulRead
  rw [if_neg h, hc]
  exact if_pos e
theorem rulRead_not {s a b c d : ByteArray} (h : ¬ 200 < s.size) (hc : cutB 32 s = [a, b, c, d]) (e : rulText (readOf a b c d) ≠ s) : rulRead s = (noRule, false) := by
  unfold rulRead
  rw [if_neg h, hc]
  exact if_neg e
end Go.Proofs.YthopednilgncgaaDoor
