/- Walks: who may, who sees; of the reference and of the program. -/
import Derived.Test.YthopednilgncgaaDoorRa
namespace Go.Proofs.YthopednilgncgaaDoor
open Go.RowKit
attribute [local go_sem ↓] Go.wp_at_zero Go.wp_at_succ

def mayB (user : Int) (ref path : ByteArray) (write : Bool) (r : Rule) : Bool := forB r user ref && pthUnder r.path path && (r.write || !write)
def rulMay (l : List Rule) (user : Int) (ref path : ByteArray) (write : Bool) : Bool := l.any (mayB user ref path write)
def rulSees (l : List Rule) (user : Int) (ref : ByteArray) : Bool := l.any fun r => forB r user ref
def fitRules (l : List Rule) : Prop := ∀ i (h : i < l.length), fitRule l[i]

theorem makeFunc_run (fn : Fn) (first cap : Array Value) (w : World) : (Instr.makeFunc fn first cap).run Tryd.prog w = .ok (.func fn first cap) w := rfl

set_option maxHeartbeats 1000000 in
theorem rulMay1_any (r : Rule) (hr : fitRule r) (user : Int) (ref path : ByteArray) (write : Bool) (hp : path.size ≤ 4194304) (b1 b2 b3 b4 : Nat) (w : World)
    (c1 : w.cell? ⟨b1, 0, none⟩ = some (.int .i64 user)) (c2 : w.cell? ⟨b2, 0, none⟩ = some (.string ref)) (c3 : w.cell? ⟨b3, 0, none⟩ = some (.string path)) (c4 : w.cell? ⟨b4, 0, none⟩ = some (.bool write)) :
    Calls Tryd.prog 53 #[.agg (encRule r).toArray, .pointer (some ⟨b1, 0, none⟩), .pointer (some ⟨b2, 0, none⟩), .pointer (some ⟨b3, 0, none⟩), .pointer (some ⟨b4, 0, none⟩)] w
      fun e w' => e = .returned (.bool (mayB user ref path write r)) ∧ Below w.heap.size w w' := by
  obtain ⟨u, rf, pt, wr⟩ := r
  have HE := hide hr
  clear hr
  unfold encRule
  have d1 := cell_alloc c1 (.cells #[.int .i64 u, .string rf, .string pt, .bool wr] 25)
  have d2 := cell_alloc c2 (.cells #[.int .i64 u, .string rf, .string pt, .bool wr] 25)
  have d3 := cell_alloc c3 (.cells #[.int .i64 u, .string rf, .string pt, .bool wr] 25)
  have d4 := cell_alloc c4 (.cells #[.int .i64 u, .string rf, .string pt, .bool wr] 25)
  clear c1 c2 c3 c4
  go_enter Tryd.func53, Tryd.ntmps53
  go_wp2_with fail
  refine (applies_any ⟨u, rf, pt, wr⟩ HE.out _ _ _).mono ?_
  rintro e w1 ⟨rfl, hb1⟩
  have k1 := (Blk.new w _ _).step hb1
  have HB1 := Below.box1 hb1
  have e3 := cell_step d3 hb1
  have e4 := cell_step d4 hb1
  clear hb1 d1 d2 d3 d4
  cases h1 : forB ⟨u, rf, pt, wr⟩ user ref
  · go_wp2
    go_ret
    exact ⟨ret_bool (by simp [mayB, h1]), HB1⟩
  · have HA := hide h1
    have q2 := k1.cell 2
    clear h1
    go_wp2_with fail
    refine (implPthUnder_any pt path HE.out.2 hp _).mono ?_
    rintro e w2 ⟨rfl, hb2⟩
    have q3 := (k1.step hb2).cell 3
    have f4 := cell_step e4 hb2
    have HB2 := Below.then_ HB1 hb2
    clear hb2 k1 q2 e3 e4
    cases h1 : pthUnder pt path
    · go_wp2
      go_ret
      exact ⟨ret_bool (by simp [mayB, h1]), HB2⟩
    · have HC := hide h1
      clear h1
      cases wr <;> cases write
      all_goals
        go_wp2
        go_ret
        exact ⟨ret_bool (by simp [mayB, HA.out, HC.out]), HB2⟩

set_option maxHeartbeats 1000000 in
theorem implRulMay_any {A : Option Addr} {n c : Nat} {l : List Rule} {fp : List Nat} (user : Int) (ref path : ByteArray) (write : Bool) (w : World) (hx : SlR Rp.rule w A n c l fp) (hr : fitRules l) (hp : path.size ≤ 4194304) :
    Calls Tryd.prog 21 #[.slice A n c, .int .i64 user, .string ref, .string path, .bool write] w fun e w' => e = .returned (.bool (rulMay l user ref path write)) ∧ Below w.heap.size w w' := by
  have hmf := makeFunc_run
  have HR := hide hr
  clear hr
  go_enter Tryd.func21, Tryd.ntmps21
  go_wp2_with fail
  refine (hasRule_any (l := l) (mayB user ref path write) _ _ (enters_of Tryd.func53 (by kernel_rfl) rfl) _ ((((hx.allocN _).allocN _).allocN _).allocN _) (fun i hi cs fq w1 hB hR => ?_)).mono ?_
  · obtain ⟨rfl, rfl⟩ := hR
    refine rulMay1_any l[i] (HR.out i hi) user ref path write hp _ _ _ _ w1 ?_ ?_ ?_ ?_
    · have hc := (Blk.step (Blk.alloc (Blk.alloc (Blk.alloc (Blk.new w _ _) _) _) _) hB).cell 0
      simpa using hc
    · have hc := (Blk.step (Blk.alloc (Blk.alloc (Blk.new _ _ _) _) _) hB).cell 0
      simpa using hc
    · have hc := (Blk.step (Blk.alloc (Blk.new _ _ _) _) hB).cell 0
      simpa using hc
    · have hc := (Blk.step (Blk.new _ _ _) hB).cell 0
      simpa using hc
  · rintro e w1 ⟨rfl, hb1⟩
    go_wp2
    go_ret
    exact ⟨rfl, Below.box1 (Below.box3 hb1)⟩

end Go.Proofs.YthopednilgncgaaDoor
