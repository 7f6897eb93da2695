/- Walks: who may, who sees; of the reference and of the program. -/
import Derived.Test.YtnogkkcmcnhodaaGreatDoorRa
namespace Go.Proofs.YtnogkkcmcnhodaaGreatDoor
open Go.RowKit
attribute [local go_sem ↓] Go.wp_at_zero Go.wp_at_succ

def mayB (user : Int) (ref path : ByteArray) (write : Bool) (r : Rule) : Bool := forB r user ref && pthUnder r.path path && (r.write || !write)
def rulMay (l : List Rule) (user : Int) (ref path : ByteArray) (write : Bool) : Bool := l.any (mayB user ref path write)
def rulSees (l : List Rule) (user : Int) (ref : ByteArray) : Bool := l.any fun r => forB r user ref
def fitRules (l : List Rule) : Prop := ∀ i (h : i < l.length), fitRule l[i]

theorem makeFunc_run (fn : Fn) (first cap : Array Value) (w : World) : (Instr.makeFunc fn first cap).run Tryz.prog w = .ok (.func fn first cap) w := rfl

set_option maxHeartbeats 1000000 in
theorem rulMay1_any (r : Rule) (hr : fitRule r) (user : Int) (ref path : ByteArray) (write : Bool) (hp : path.size ≤ 4194304) (b1 b2 b3 b4 : Nat) (w : World)
    (c1 : w.cell? ⟨b1, 0, none⟩ = some (.int .i64 user)) (c2 : w.cell? ⟨b2, 0, none⟩ = some (.string ref)) (c3 : w.cell? ⟨b3, 0, none⟩ = some (.string path)) (c4 : w.cell? ⟨b4, 0, none⟩ = some (.bool write)) :
    Calls Tryz.prog 161 #[.agg (encRule r).toArray, .pointer (some ⟨b1, 0, none⟩), .pointer (some ⟨b2, 0, none⟩), .pointer (some ⟨b3, 0, none⟩), .pointer (some ⟨b4, 0, none⟩)] w
      fun e w' => e = .returned (.bool (mayB user ref path write r)) ∧ Below w.heap.size w w' := by
  obtain ⟨u, rf, pt, wr⟩ := r
  have HE := hide hr
  clear hr
  unfold encRule
  have d1 := cell_alloc c1 (.cells #[.int .i64 u, .string rf, .string pt, .bool wr] 44)
  have d2 := cell_alloc c2 (.cells #[.int .i64 u, .string rf, .string pt, .bool wr] 44)
  have d3 := cell_alloc c3 (.cells #[.int .i64 u, .string rf, .string pt, .bool wr] 44)
  have d4 := cell_alloc c4 (.cells #[.int .i64 u, .string rf, .string pt, .bool wr] 44)
  clear c1 c2 c3 c4
  go_enter Tryz.func161, Tryz.ntmps161
  go_wp2_with fail
  refine (applies_any ⟨u, rf, pt, wr⟩ HE.out _ _ _).mono ?_
  rintro e w1 ⟨rfl, hb1⟩
  have k1 := (Blk.new w _ _).step hb1
  have HB1 := Below.box1 hb1
  have e3 := cell_step d3 hb1
  have e4 := cell_step d4 hb1
  clear hb1 d1 d2 d3 d4
  cases h1 : forB ⟨u, rf, pt, wr⟩ user ref
  · go_wp2
    go_ret
    exact ⟨ret_bool (by simp [mayB, h1]), HB1⟩
  · have HA := hide h1
    have q2 := k1.cell 2
    clear h1
    go_wp2_with fail
    refine (implPthUnder_any pt path HE.out.2 hp _).mono ?_
    rintro e w2 ⟨rfl, hb2⟩
    have q3 := (k1.step hb2).cell 3
    have f4 := cell_step e4 hb2
    have HB2 := Below.then_ HB1 hb2
    clear hb2 k1 q2 e3 e4
    cases h1 : pthUnder pt path
    · go_wp2
      go_ret
      exact ⟨ret_bool (by simp [mayB, h1]), HB2⟩
    · have HC := hide h1
      clear h1
      cases wr <;> cases write
      all_goals
        go_wp2
        go_ret
        exact ⟨ret_bool (by simp [mayB, HA.out, HC.out]), HB2⟩

set_option maxHeartbeats 1000000 in
theorem implRulMay_any {A : Option Addr} {n c : Nat} {l : List Rule} {fp : List Nat} (user : Int) (ref path : ByteArray) (write : Bool) (w : World) (hx : SlR Rp.rule w A n c l fp) (hr : fitRules l) (hp : path.size ≤ 4194304) :
    Calls Tryz.prog 121 #[.slice A n c, .int .i64 user, .string ref, .string path, .bool write] w fun e w' => e = .returned (.bool (rulMay l user ref path write)) ∧ Below w.heap.size w w' := by
  have hmf := makeFunc_run
  have HR := hide hr
  clear hr
  go_enter Tryz.func121, Tryz.ntmps121
  go_wp2_with fail
  refine (hasRule_any (l := l) (mayB user ref path write) _ _ (enters_of Tryz.func161 (by kernel_rfl) rfl) _ ((((hx.allocN _).allocN _).allocN _).allocN _) (fun i hi cs fq w1 hB hR => ?_)).mono ?_
  · obtain ⟨rfl, rfl⟩ := hR
    refine rulMay1_any l[i] (HR.out i hi) user ref path write hp _ _ _ _ w1 ?_ ?_ ?_ ?_
    · have hc := (Blk.step (Blk.alloc (Blk.alloc (Blk.alloc (Blk.new w _ _) _) _) _) hB).cell 0
      simpa using hc
    · have hc := (Blk.step (Blk.alloc (Blk.alloc (Blk.new _ _ _) _) _) hB).cell 0
      simpa using hc
    · have hc := (Blk.step (Blk.alloc (Blk.new _ _ _) _) hB).cell 0
      simpa using hc
    · have hc := (Blk.step (Blk.new _ _ _) hB).cell 0
      simpa using hc
  · rintro e w1 ⟨rfl, hb1⟩
    go_wp2
    go_ret
    exact ⟨rfl, Below.box1 (Below.box3 hb1)⟩

set_option maxHeartbeats 1000000 in
theorem rulSees1_any (r : Rule) (hr : fitRule r) (user : Int) (ref : ByteArray) (b1 b2 : Nat) (w : World)
    (c1 : w.cell? ⟨b1, 0, none⟩ = some (.int .i64 user)) (c2 : w.cell? ⟨b2, 0, none⟩ = some (.string ref)) :
    Calls Tryz.prog 146 #[.agg (encRule r).toArray, .pointer (some ⟨b1, 0, none⟩), .pointer (some ⟨b2, 0, none⟩)] w
      fun e w' => e = .returned (.bool (forB r user ref)) ∧ Below w.heap.size w w' := by
  obtain ⟨u, rf, pt, wr⟩ := r
  have HE := hide hr
  clear hr
  unfold encRule
  have d1 := cell_alloc c1 (.cells #[.int .i64 u, .string rf, .string pt, .bool wr] 44)
  have d2 := cell_alloc c2 (.cells #[.int .i64 u, .string rf, .string pt, .bool wr] 44)
  clear c1 c2
  go_enter Tryz.func146, Tryz.ntmps146
  go_wp2_with fail
  refine (applies_any ⟨u, rf, pt, wr⟩ HE.out _ _ _).mono ?_
  rintro e w1 ⟨rfl, hb1⟩
  go_wp2
  go_ret
  exact ⟨rfl, Below.box1 hb1⟩

set_option maxHeartbeats 1000000 in
theorem implRulSees_any {A : Option Addr} {n c : Nat} {l : List Rule} {fp : List Nat} (user : Int) (ref : ByteArray) (w : World) (hx : SlR Rp.rule w A n c l fp) (hr : fitRules l) :
    Calls Tryz.prog 107 #[.slice A n c, .int .i64 user, .string ref] w fun e w' => e = .returned (.bool (rulSees l user ref)) ∧ Below w.heap.size w w' := by
  have hmf := makeFunc_run
  have HR := hide hr
  clear hr
  go_enter Tryz.func107, Tryz.ntmps107
  go_wp2_with fail
  refine (hasRule_any (l := l) (fun r => forB r user ref) _ _ (enters_of Tryz.func146 (by kernel_rfl) rfl) _ ((hx.allocN _).allocN _) (fun i hi cs fq w1 hB hR => ?_)).mono ?_
  · obtain ⟨rfl, rfl⟩ := hR
    refine rulSees1_any l[i] (HR.out i hi) user ref _ _ w1 ?_ ?_
    · have hc := (Blk.step (Blk.alloc (Blk.new w _ _) _) hB).cell 0
      simpa using hc
    · have hc := (Blk.step (Blk.new _ _ _) hB).cell 0
      simpa using hc
  · rintro e w1 ⟨rfl, hb1⟩
    go_wp2
    go_ret
    exact ⟨rfl, Below.box2 hb1⟩

set_option maxHeartbeats 1000000 in
theorem specRulSees_any {A : Option Addr} {n c : Nat} {l : List Rule} {fp : List Nat} (user : Int) (ref : ByteArray) (w : World) (hx : SlR Rp.rule w A n c l fp) (hr : fitRules l) :
    Calls Tryz.prog 79 #[.slice A n c, .int .i64 user, .string ref] w fun e w' => e = .returned (.bool (rulSees l user ref)) ∧ Below w.heap.size w w' := by
  obtain ⟨rfl, hcx, hmx, _⟩ := id hx
  unfold maxLen at hmx
  have HR := hide hr
  clear hr
  go_enter Tryz.func79, Tryz.ntmps79
  go_wp2
  go_loopw [7] (fun i wr => ∃ k : Nat, k ≤ l.length ∧ i = .int .i64 k ∧ noneTo (fun r => forB r user ref) l k ∧ Below w.heap.size w wr) (fun i _ => l.length - (intOf i).toNat)
  case atStart => exact ⟨0, Nat.zero_le _, rfl, noneTo_zero, Below.refl _ _⟩
  case round =>
    obtain ⟨k, hk, rfl, hag, hbl⟩ := hrel
    have HA := hide hag
    clear hag
    by_cases hlt : k < l.length
    · obtain ⟨b, o, rfl, hb, hm, h0, h1, h2, h3⟩ := rule_cells (hx.step hbl) hlt
      go_wp2_with fail
      refine (l5For_any l[k] (HR.out k hlt) user ref _).mono ?_
      rintro e w1 ⟨rfl, hb1⟩
      have HB := hide (Below.then_ hbl hb1)
      clear hb1
      cases hd : forB l[k] user ref
      · have HN := hide (HA.out.next hlt hd)
        clear hd
        go_wp2
        exact ⟨⟨k + 1, by omega, by go_num, HN.out, HB.out⟩, by simp [intOf]; omega⟩
      · have HN := hide (any_hit (p := fun r => forB r user ref) hlt hd)
        clear hd
        go_wp2
        go_ret
        exact ⟨ret_bool HN.out.symm, HB.out⟩
    · have hk' : k = l.length := by omega
      subst hk'
      go_wp2
      go_ret
      exact ⟨ret_bool HA.out.any_.symm, hbl⟩

set_option maxHeartbeats 1000000 in
theorem specRulMay_any {A : Option Addr} {n c : Nat} {l : List Rule} {fp : List Nat} (user : Int) (ref path : ByteArray) (write : Bool) (w : World) (hx : SlR Rp.rule w A n c l fp) (hr : fitRules l) (hp : path.size ≤ 4194304) :
    Calls Tryz.prog 69 #[.slice A n c, .int .i64 user, .string ref, .string path, .bool write] w fun e w' => e = .returned (.bool (rulMay l user ref path write)) ∧ Below w.heap.size w w' := by
  obtain ⟨rfl, hcx, hmx, _⟩ := id hx
  unfold maxLen at hmx
  have HR := hide hr
  clear hr
  go_enter Tryz.func69, Tryz.ntmps69
  go_wp2
  go_loopw [11] (fun i wr => ∃ k : Nat, k ≤ l.length ∧ i = .int .i64 k ∧ noneTo (mayB user ref path write) l k ∧ Below w.heap.size w wr) (fun i _ => l.length - (intOf i).toNat)
  case atStart => exact ⟨0, Nat.zero_le _, rfl, noneTo_zero, Below.refl _ _⟩
  case round =>
    obtain ⟨k, hk, rfl, hag, hbl⟩ := hrel
    have HA := hide hag
    clear hag
    by_cases hlt : k < l.length
    · obtain ⟨b, o, rfl, hb, hm, h0, h1, h2, h3⟩ := rule_cells (hx.step hbl) hlt
      go_wp2_with fail
      refine (l5For_any l[k] (HR.out k hlt) user ref _).mono ?_
      rintro e w1 ⟨rfl, hb1⟩
      have q2 := cell_step h2 hb1
      have q3 := cell_step h3 hb1
      have HB := hide (Below.then_ hbl hb1)
      have HP := hide (HR.out k hlt).2
      clear h0 h1 h2
      cases hd : forB l[k] user ref
      · have HN := hide (HA.out.next hlt (show mayB user ref path write l[k] = false by simp [mayB, hd]))
        clear hd hb1 q2 q3 h3
        go_wp2
        exact ⟨⟨k + 1, by omega, by go_num, HN.out, HB.out⟩, by simp [intOf]; omega⟩
      · have HD := hide hd
        clear hd hb1 h3
        go_wp2_with fail
        refine (specPthUnder_any _ _ HP.out hp _).mono ?_
        rintro e w2 ⟨rfl, hb2⟩
        have r3 := cell_step q3 hb2
        have HB2 := hide (Below.then_ HB.out hb2)
        clear q2 q3 hb2
        cases hd : pthUnder l[k].path path
        · have HN := hide (HA.out.next hlt (show mayB user ref path write l[k] = false by simp [mayB, hd]))
          clear hd r3
          go_wp2
          exact ⟨⟨k + 1, by omega, by go_num, HN.out, HB2.out⟩, by simp [intOf]; omega⟩
        · have HE := hide hd
          clear hd
          have hw : mayB user ref path write l[k] = (l[k].write || !write) := by simp [mayB, HD.out, HE.out]
          cases h4 : l[k].write <;> cases write
          all_goals rw [h4] at hw r3
          all_goals first
            | (have HN := hide (HA.out.next hlt (hw.trans rfl)); clear hw h4; go_wp2; exact ⟨⟨k + 1, by omega, by go_num, HN.out, HB2.out⟩, by simp [intOf]; omega⟩)
            | (have HN := hide (any_hit hlt (hw.trans rfl)); clear hw h4; go_wp2; go_ret; exact ⟨ret_bool HN.out.symm, HB2.out⟩)
    · have hk' : k = l.length := by omega
      subst hk'
      go_wp2
      go_ret
      exact ⟨ret_bool HA.out.any_.symm, hbl⟩
end Go.Proofs.YtnogkkcmcnhodaaGreatDoor
