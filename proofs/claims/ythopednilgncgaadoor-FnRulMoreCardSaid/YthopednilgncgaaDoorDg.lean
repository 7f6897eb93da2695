/- Walks: a rule is taken away, of the program. -/
import Derived.Test.YthopednilgncgaaDoorDf
import Derived.Test.YthopednilgncgaaDoorDd
import Derived.Test.YthopednilgncgaaDoorRb
namespace Go.Proofs.YthopednilgncgaaDoor
open Go.RowKit
attribute [local go_sem ↓] Go.wp_at_zero Go.wp_at_succ

set_option maxHeartbeats 1000000 in
theorem rulOut1_any (x r : Rule) (b1 : Nat) (t : TypeId) (w : World) (k1 : Blk w b1 t (encRule r).toArray) :
    Calls Tryd.prog 46 #[.agg (encRule x).toArray, .pointer (some ⟨b1, 0, none⟩)] w fun e w' => e = .returned (.bool (decide (x = r))) ∧ Below w.heap.size w w' := by
  have heq := eqlRule x r
  have hgd := gdRule
  rw [show (encRule x).toArray = #[.int .i64 x.user, .string x.ref, .string x.path, .bool x.write] from rfl] at heq ⊢
  rw [show (encRule r).toArray = #[.int .i64 r.user, .string r.ref, .string r.path, .bool r.write] from rfl] at heq
  have k2 := k1.alloc (.cells #[.int .i64 x.user, .string x.ref, .string x.path, .bool x.write] 25)
  have c0 : (w.alloc (.cells #[.int .i64 x.user, .string x.ref, .string x.path, .bool x.write] 25)).cell? ⟨b1, 0, none⟩ = some (.int .i64 r.user) := k2.cell 0
  have c1 : (w.alloc (.cells #[.int .i64 x.user, .string x.ref, .string x.path, .bool x.write] 25)).cell? ⟨b1, 1, none⟩ = some (.string r.ref) := k2.cell 1
  have c2 : (w.alloc (.cells #[.int .i64 x.user, .string x.ref, .string x.path, .bool x.write] 25)).cell? ⟨b1, 2, none⟩ = some (.string r.path) := k2.cell 2
  have c3 : (w.alloc (.cells #[.int .i64 x.user, .string x.ref, .string x.path, .bool x.write] 25)).cell? ⟨b1, 3, none⟩ = some (.bool r.write) := k2.cell 3
  clear k1 k2
  go_enter Tryd.func46, Tryd.ntmps46
  go_wp2
  go_ret
  exact ⟨rfl, (Below.refl _ _).alloc (Nat.le_refl _) _⟩

set_option maxHeartbeats 1000000 in
theorem implRulOut_any {A : Option Addr} {n c : Nat} {l : List Rule} {fp : List Nat} (r : Rule) (w : World) (hx : SlR Rp.rule w A n c l fp) (hl : l.length ≤ 4194304) :
    Calls Tryd.prog 11 #[.slice A n c, .agg (encRule r).toArray] w (OwnFB 25 4 encRule w (rulOut l r) (decide ((rulOut l r).length < l.length))) := by
  have hmf := makeFunc_run
  have hn := hx.1
  subst hn
  have kb := Blk.new w 25 (encRule r).toArray
  have hx1 := hx.allocN (.cells (encRule r).toArray 25)
  have hbA := (Below.refl w.heap.size w).alloc (Nat.le_refl _) (.cells (encRule r).toArray 25)
  rw [show (encRule r).toArray = #[.int .i64 r.user, .string r.ref, .string r.path, .bool r.write] from rfl] at kb hx1 hbA ⊢
  clear hx
  go_enter Tryd.func11, Tryd.ntmps11
  go_wp2_with fail
  refine (cloneRules_any _ hx1 hl).mono ?_
  rintro e w1 ⟨v, rfl, hown, hb1⟩
  replace kb := kb.step hb1
  have hb1' := hbA.trans (hb1.mono hbA.size)
  have hsz := hb1.size
  simp only [World.size_alloc] at hsz hown
  obtain ⟨A', c', f, rfl, hs, hfb, hnd, hfr⟩ := own_sl (k := 4) (enc := encRule) (hk := fun _ => rfl) (h1 := encRule_one) hown
  clear hown hb1 hbA hx1
  go_wp2_with fail
  refine (delRule_any (fun x => decide (x = r)) _ _ (enters_of Tryd.func46 (by kernel_rfl) rfl) _ hs hnd hfr (fun x wz ho => ?_)).mono ?_
  · exact rulOut1_any x r w.heap.size _ wz (kb.only ho (fun hm => by have := hfb _ hm; omega))
  · rintro e w2 ⟨m, fp', rfl, hs2, hsub, ho2⟩
    have hn2 := hs2.1
    subst hn2
    have hbl := hb1'.trans (ho2.below (B := w.heap.size) (fun b hb => by have := hfb b hb; omega) hb1'.size)
    have hlen : (l.filter fun x => !decide (x = r)).length ≤ l.length := List.length_filter_le _ _
    go_wp2_with fail
    refine (cloneRules_any _ hs2 (by omega)).mono ?_
    rintro e w3 ⟨v3, rfl, hown3, hb3⟩
    have HW := hide (own_base hown3 hbl.size)
    have HBL := hide (Below.then_ hbl hb3)
    clear hown3 hb3 hbl ho2 hs2 hsub
    go_wp2
    go_ret2
    refine ⟨v3, ?_, HW.out, HBL.out⟩
    rw [show decide ((rulOut l r).length < l.length) = decide (r ∈ l) from decide_eq_decide.2 (by unfold rulOut; simp)]
    rfl
end Go.Proofs.YthopednilgncgaaDoor
