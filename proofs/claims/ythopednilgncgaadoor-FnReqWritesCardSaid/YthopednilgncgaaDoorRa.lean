/- Walks: rules; of the reference and of the program. -/
import Derived.Test.YthopednilgncgaaDoorPb
import Derived.Test.YthopednilgncgaaDoorIdx
namespace Go.Proofs.YthopednilgncgaaDoor
open Go.RowKit
attribute [local go_sem ↓] Go.wp_at_zero Go.wp_at_succ

def refFits (s : ByteArray) : Bool := decide (s = ByteArray.empty) || namOk s
def rulOk (r : Rule) : Bool := inB r.user 0 4 && refFits r.ref && pthOk r.path
def fitRule (r : Rule) : Prop := r.ref.size ≤ 4194304 ∧ r.path.size ≤ 4194304

set_option maxHeartbeats 1000000 in
theorem refFits_any (s : ByteArray) (hs : s.size ≤ 4194304) (w : World) :
    Calls Tryd.prog 59 #[.string s] w fun e w' => e = .returned (.bool (refFits s)) ∧ Below w.heap.size w w' := by
  go_enter Tryd.func59, Tryd.ntmps59
  cases hd : s.toList.isEmpty
  · go_wp2_with fail
    refine (implNamOk_any s hs _).mono ?_
    rintro e w1 ⟨rfl, hb1⟩
    go_wp2
    go_ret
    exact ⟨ret_bool (by rw [isEmpty_eq] at hd; simp [refFits, hd]), hb1⟩
  · go_wp2
    go_ret
    exact ⟨ret_bool (by rw [isEmpty_eq] at hd; simp [refFits, hd]), Below.refl _ _⟩

set_option maxHeartbeats 1000000 in
theorem implRulOk_any (r : Rule) (hr : fitRule r) (w : World) :
    Calls Tryd.prog 39 #[.agg (encRule r).toArray] w fun e w' => e = .returned (.bool (rulOk r)) ∧ Below w.heap.size w w' := by
  obtain ⟨user, ref, path, wr⟩ := r
  obtain ⟨hr1, hr2⟩ := hr
  unfold encRule
  go_enter Tryd.func39, Tryd.ntmps39
  go_wp2_with fail
  refine (implIn_any _ _ _ _).mono ?_
  rintro e w1 ⟨rfl, hb1⟩
  have k1 := (Blk.new w _ _).step hb1
  have HB1 := Below.box1 hb1
  clear hb1
  cases h1 : inB user 0 4
  · go_wp2
    go_ret
    exact ⟨ret_bool (by simp [rulOk, h1]), HB1⟩
  · have HA := hide h1
    clear h1
    have c1 := k1.cell 1
    have c2 := k1.cell 2
    go_wp2_with fail
    refine (refFits_any ref hr1 _).mono ?_
    rintro e w2 ⟨rfl, hb2⟩
    have k2 := k1.step hb2
    have HB2 := Below.then_ HB1 hb2
    clear hb2 c1 c2
    cases h1 : refFits ref
    · go_wp2
      go_ret
      exact ⟨ret_bool (by simp [rulOk, h1]), HB2⟩
    · have HC := hide h1
      clear h1
      have c2 := k2.cell 2
      go_wp2_with fail
      refine (implPthOk_any path hr2 _).mono ?_
      rintro e w3 ⟨rfl, hb3⟩
      go_wp2
      go_ret
      exact ⟨ret_bool (by simp [rulOk, HA.out, HC.out]), Below.then_ HB2 hb3⟩

set_option maxHeartbeats 1000000 in
theorem specRulOk_any (r : Rule) (hr : fitRule r) (w : World) :
    Calls Tryd.prog 47 #[.agg (encRule r).toArray] w fun e w' => e = .returned (.bool (rulOk r)) ∧ Below w.heap.size w w' := by
  obtain ⟨user, ref, path, wr⟩ := r
  obtain ⟨hr1, hr2⟩ := hr
  unfold encRule
  go_enter Tryd.func47, Tryd.ntmps47
  go_wp2_with fail
  refine (specIn_any _ _ _ _).mono ?_
  rintro e w1 ⟨rfl, hb1⟩
  have k1 := (Blk.new w _ _).step hb1
  have HB1 := Below.box1 hb1
  clear hb1
  cases h1 : inB user 0 4
  · go_wp2
    go_ret
    exact ⟨ret_bool (by simp [rulOk, h1]), HB1⟩
  · have HA := hide h1
    clear h1
    have c1 := k1.cell 1
    have c2 := k1.cell 2
    cases hd : ref.toList.isEmpty
    · go_wp2_with fail
      refine (specNamOk_any ref hr1 _).mono ?_
      rintro e w2 ⟨rfl, hb2⟩
      have k2 := k1.step hb2
      have HB2 := Below.then_ HB1 hb2
      rw [isEmpty_eq] at hd
      have HD := hide hd
      clear hb2 c1 c2 hd
      cases h1 : namOk ref
      · go_wp2
        go_ret
        exact ⟨ret_bool (by simp [rulOk, refFits, h1, HD.out]), HB2⟩
      · have HC := hide h1
        clear h1
        have c2 := k2.cell 2
        go_wp2_with fail
        refine (specPthOk_any path hr2 _).mono ?_
        rintro e w3 ⟨rfl, hb3⟩
        go_wp2
        go_ret
        exact ⟨ret_bool (by simp [rulOk, refFits, HA.out, HC.out]), Below.then_ HB2 hb3⟩
    · go_wp2_with fail
      refine (specPthOk_any path hr2 _).mono ?_
      rintro e w3 ⟨rfl, hb3⟩
      rw [isEmpty_eq] at hd
      have HD := hide hd
      clear hd
      go_wp2
      go_ret
      exact ⟨ret_bool (by simp [rulOk, refFits, HA.out, HD.out]), Below.then_ HB1 hb3⟩

def forB (r : Rule) (user : Int) (ref : ByteArray) : Bool := rulOk r && (r.user == 0 || r.user == user) && (decide (r.ref = ByteArray.empty) || decide (r.ref = ref))

set_option maxHeartbeats 1000000 in
theorem applies_any (r : Rule) (hr : fitRule r) (user : Int) (ref : ByteArray) (w : World) :
    Calls Tryd.prog 54 #[.agg (encRule r).toArray, .int .i64 user, .string ref] w fun e w' => e = .returned (.bool (forB r user ref)) ∧ Below w.heap.size w w' := by
  obtain ⟨u, rf, path, wr⟩ := r
  have HE := hide hr
  clear hr
  unfold encRule
  go_enter Tryd.func54, Tryd.ntmps54
  go_wp2_with fail
  refine (implRulOk_any ⟨u, rf, path, wr⟩ HE.out _).mono ?_
  rintro e w1 ⟨rfl, hb1⟩
  have k1 := (Blk.new w _ _).step hb1
  have HB1 := Below.box1 hb1
  have c0 := k1.cell 0
  have c1 := k1.cell 1
  clear hb1 k1
  cases h1 : rulOk ⟨u, rf, path, wr⟩
  · go_wp2
    go_ret
    exact ⟨ret_bool (by simp [forB, h1]), HB1⟩
  · have HA := hide h1
    clear h1
    cases h2 : (u == 0) <;> cases h3 : (u == user) <;> cases h4 : rf.toList.isEmpty
    all_goals
      go_wp2
      all_goals
        go_ret
        exact ⟨ret_bool (by rw [isEmpty_eq] at h4; simp [forB, h2, h3, h4, HA.out, beq_toListBytes']), HB1⟩

end Go.Proofs.YthopednilgncgaaDoor
