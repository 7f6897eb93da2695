/- Walks: rules; of the reference and of the program. -/
import Derived.Test.YtnogkkcmcnhodaaDoorPb
import Derived.Test.YtnogkkcmcnhodaaDoorIdx
namespace Go.Proofs.YtnogkkcmcnhodaaDoor
open Go.RowKit
attribute [local go_sem ↓] Go.wp_at_zero Go.wp_at_succ

def refFits (s : ByteArray) : Bool := decide (s = ByteArray.empty) || namOk s
def rulOk (r : Rule) : Bool := inB r.user 0 4 && refFits r.ref && pthOk r.path
def fitRule (r : Rule) : Prop := r.ref.size ≤ 4194304 ∧ r.path.size ≤ 4194304

set_option maxHeartbeats 1000000 in
theorem refFits_any (s : ByteArray) (hs : s.size ≤ 4194304) (w : World) :
    Calls Tryd.prog 111 #[.string s] w fun e w' => e = .returned (.bool (refFits s)) ∧ Below w.heap.size w w' := by
  go_enter Tryd.func111, Tryd.ntmps111
  cases hd : s.toList.isEmpty
  · go_wp2_with fail
    refine (implNamOk_any s hs _).mono ?_
    rintro e w1 ⟨rfl, hb1⟩
    go_wp2
    go_ret
    exact ⟨ret_bool (by rw [isEmpty_eq] at hd; simp [refFits, hd]), hb1⟩
  · go_wp2
    go_ret
    exact ⟨ret_bool (by rw [isEmpty_eq] at hd; simp [refFits, hd]), Below.refl _ _⟩

set_option maxHeartbeats 1000000 in
theorem implRulOk_any (r : Rule) (hr : fitRule r) (w : World) :
    Calls Tryd.prog 94 #[.agg (encRule r).toArray] w fun e w' => e = .returned (.bool (rulOk r)) ∧ Below w.heap.size w w' := by
  obtain ⟨user, ref, path, wr⟩ := r
  obtain ⟨hr1, hr2⟩ := hr
  unfold encRule
  go_enter Tryd.func94, Tryd.ntmps94
  go_wp2_with fail
  refine (implIn_any _ _ _ _).mono ?_
  rintro e w1 ⟨rfl, hb1⟩
  have k1 := (Blk.new w _ _).step hb1
  have HB1 := Below.box1 hb1
  clear hb1
  cases h1 : inB user 0 4
  · go_wp2
    go_ret
    exact ⟨ret_bool (by simp [rulOk, h1]), HB1⟩
  · have HA := hide h1
    clear h1
    have c1 := k1.cell 1
    have c2 := k1.cell 2
    go_wp2_with fail
    refine (refFits_any ref hr1 _).mono ?_
    rintro e w2 ⟨rfl, hb2⟩
    have k2 := k1.step hb2
    have HB2 := Below.then_ HB1 hb2
    clear hb2 c1 c2
    cases h1 : refFits ref
    · go_wp2
      go_ret
      exact ⟨ret_bool (by simp [rulOk, h1]), HB2⟩
    · have HC := hide h1
      clear h1
      have c2 := k2.cell 2
      go_wp2_with fail
      refine (implPthOk_any path hr2 _).mono ?_
      rintro e w3 ⟨rfl, hb3⟩
      go_wp2
      go_ret
      exact ⟨ret_bool (by simp [rulOk, HA.out, HC.out]), Below.then_ HB2 hb3⟩

set_option maxHeartbeats 1000000 in
theorem specRulOk_any (r : Rule) (hr : fitRule r) (w : World) :
    Calls Tryd.prog 85 #[.agg (encRule r).toArray] w fun e w' => e = .returned (.bool (rulOk r)) ∧ Below w.heap.size w w' := by
  obtain ⟨user, ref, path, wr⟩ := r
  obtain ⟨hr1, hr2⟩ := hr
  unfold encRule
  go_enter Tryd.func85, Tryd.ntmps85
  go_wp2_with fail
  refine (specIn_any _ _ _ _).mono ?_
  rintro e w1 ⟨rfl, hb1⟩
  have k1 := (Blk.new w _ _).step hb1
  have HB1 := Below.box1 hb1
  clear hb1
  cases h1 : inB user 0 4
  · go_wp2
    go_ret
    exact ⟨ret_bool (by simp [rulOk, h1]), HB1⟩
  · have HA := hide h1
    clear h1
    have c1 := k1.cell 1
    have c2 := k1.cell 2
    cases hd : ref.toList.isEmpty
    · go_wp2_with fail
      refine (specNamOk_any ref hr1 _).mono ?_
      rintro e w2 ⟨rfl, hb2⟩
      have k2 := k1.step hb2
      have HB2 := Below.then_ HB1 hb2
      rw [isEmpty_eq] at hd
      have HD := hide hd
      clear hb2 c1 c2 hd
      cases h1 : namOk ref
      · go_wp2
        go_ret
        exact ⟨ret_bool (by simp [rulOk, refFits, h1, HD.out]), HB2⟩
      · have HC := hide h1
        clear h1
        have c2 := k2.cell 2
        go_wp2_with fail
        refine (specPthOk_any path hr2 _).mono ?_
        rintro e w3 ⟨rfl, hb3⟩
        go_wp2
        go_ret
        exact ⟨ret_bool (by simp [rulOk, refFits, HA.out, HC.out]), Below.then_ HB2 hb3⟩
    · go_wp2_with fail
      refine (specPthOk_any path hr2 _).mono ?_
      rintro e w3 ⟨rfl, hb3⟩
      rw [isEmpty_eq] at hd
      have HD := hide hd
      clear hd
      go_wp2
      go_ret
      exact ⟨ret_bool (by simp [rulOk, refFits, HA.out, HD.out]), Below.then_ HB1 hb3⟩

def forB (r : Rule) (user : Int) (ref : ByteArray) : Bool := rulOk r && (r.user == 0 || r.user == user) && (decide (r.ref = ByteArray.empty) || decide (r.ref = ref))

end Go.Proofs.YtnogkkcmcnhodaaDoor
