/- Lemmas and walks, joined by program (wip/gen/merge.py). -/
import Derived.Test.YtnogkkcmcnhodaaGreatDoorZ7
import Derived.Test.YtnogkkcmcnhodaaGreatDoorZ13
import Derived.Test.YtnogkkcmcnhodaaGreatDoorZ8
import Derived.Test.YtnogkkcmcnhodaaGreatDoorZ18
namespace Go.Proofs.YtnogkkcmcnhodaaGreatDoor
open Go Go.RowKit

section
variable {P : Program} {ops : Array Oper} {T : World → World → Prop} {V : Value → World → Prop} {o : Oper} {a : Act} {w : World} {E : Prop}
theorem fits_call (hg : o.guard = none) (f : Nat) (he : Enters P f) {args : Array Operand} {ts : Array TypeId} (hop : o.op = .call { callee := .value (.func f), args := args, argTypes := ts }) (vs : Array Value) (hv : args.map a.eval = vs)
  (hc : Calls P f vs w fun e w' => ∃ u, e = .returned u ∧ T w w' ∧ V u w') : if Region.wanted o (yielded ops a.tmps) = true then upT P (fun _ => True) T w V ((execOp a.eval o).run P w) else E := by
 have hw : Region.wanted o (yielded ops a.tmps) = true := by simp [Region.wanted, hg]
 rw [if_pos hw]
 subst hv
 have hr : (execOp a.eval o).run P w = .ok (.enter f (args.map a.eval)) w := by simp [execOp, hop, resolve, Act.eval, invoke, Deferred.ofValue, go_sem, he (args.map a.eval) w]
 rw [hr]
 exact hc.mono fun e w' ⟨u, he, ht, hv⟩ => ⟨u, he, trivial, ht, hv⟩
theorem fits_load (hgd : o.guard = none) (ty : TypeId) (x : Operand) (ho : o.op = .load ty x) (g : Nat) (hx : a.eval x = .pointer (some ⟨g, 0, none⟩)) (t : TypeId) (cs : Array Value) (fr : Nat × Nat) (d : TypeDesc) (hg : w.heap[g]? = some (.cells cs t fr))
  (hu : P.underlying ty = some d) (hd : (match d with | .struct _ | .array _ _ => true | _ => false) = true) (hi : (P.info? ty).map (·.size) = some cs.size) (ht : T w w) (hv : V (.agg cs) w) :
  if Region.wanted o (yielded ops a.tmps) = true then upT P (fun _ => True) T w V ((execOp a.eval o).run P w) else E := by
 have hw : Region.wanted o (yielded ops a.tmps) = true := by simp [Region.wanted, hgd]
 rw [if_pos hw]
 have hr : (execOp a.eval o).run P w = .ok (.value (.agg cs)) w := by
  unfold execOp
  simp only [ho, hx, Instr.loadAt, Instr.sureAddr, Sem.run_bind, Sem.run_pure, Result.andThen_ok, run_loadVar_row w g t ty cs fr d hg hu hd hi]
 rw [hr]
 exact ⟨trivial, ht, hv⟩
end
theorem blk_ne {w : World} {g b : Nat} {t u : TypeId} {cs ds : Array Value} (h : Blk w g t cs) (k : Blk w b u ds) (ht : t ≠ u) : g ≠ b := fun e => by
 subst e
 have := h.out.symm.trans k.out
 simp at this
 exact ht this.2
theorem Blk.cells3 {w : World} {g : Nat} {t : TypeId} {a b c : Value} (h : Blk w g t #[a, b, c]) : w.cell? ⟨g, 0, none⟩ = some a ∧ w.cell? ⟨g, 1, none⟩ = some b ∧ w.cell? ⟨g, 2, none⟩ = some c := ⟨h.cell 0, h.cell 1, h.cell 2⟩
theorem Blk.cells4 {w : World} {g : Nat} {t : TypeId} {a b c d : Value} (h : Blk w g t #[a, b, c, d]) : w.cell? ⟨g, 0, none⟩ = some a ∧ w.cell? ⟨g, 1, none⟩ = some b ∧ w.cell? ⟨g, 2, none⟩ = some c ∧ w.cell? ⟨g, 3, none⟩ = some d := ⟨h.cell 0, h.cell 1, h.cell 2, h.cell 3⟩
theorem Blk.far3 {w : World} {g b : Nat} {t : TypeId} {cs : Array Value} (h : Blk w g t cs) (hn : g ≠ b) (u v y : Value) : Blk (((w.setCell ⟨b, 0, none⟩ u).setCell ⟨b, 1, none⟩ v).setCell ⟨b, 2, none⟩ y) g t cs := ((h.far hn u).far hn v).far hn y
def DoneAt (w : World) (o : House × Ans) (v6 v7 : Value) (wx : World) : Prop :=
 ∃ b6 b7 ch av f g, v6 = .pointer (some ⟨b6, 0, none⟩) ∧ v7 = .pointer (some ⟨b7, 0, none⟩) ∧ Blk wx b6 35 ch.toArray ∧ Blk wx b7 39 av.toArray ∧ Rp.house.R wx ch o.1 f ∧ Rp.ans.R wx av o.2 g ∧ (f ++ g).Nodup ∧ (∀ z ∈ f ++ g, w.heap.size ≤ z) ∧ Free wx (f ++ g) ∧ w.heap.size ≤ b6 ∧ w.heap.size ≤ b7 ∧ b6 ∉ f ++ g ∧ b7 ∉ f ++ g ∧ b6 ≠ b7 ∧ Below w.heap.size w wx
structure DoSt (B : Nat) (o : House × Ans) (x : House) (r : Req) (l1 l3 l4 l5 l6 l7 l8 l9 l10 : Bool) (t29 t31 t32 t27 t33 t34 t6 t7 : Value) (w : World) : Prop where
 res : l4 = true → ∃ ch av f g, t32 = .tuple #[.agg ch.toArray, .agg av.toArray] ∧ Rp.house.R w ch o.1 f ∧ Rp.ans.R w av o.2 g ∧ (f ++ g).Nodup ∧ (∀ z ∈ f ++ g, B ≤ z) ∧ Free w (f ++ g) ∧ (l8 = true → ∀ b, t6 = .pointer (some ⟨b, 0, none⟩) → b ∉ f ++ g) ∧ (l9 = true → ∀ b, t7 = .pointer (some ⟨b, 0, none⟩) → b ∉ f ++ g)
 mv : l5 = true → t27 = t32
 e6 : l6 = true → ∀ a b, t27 = .tuple #[a, b] → t33 = a
 e7 : l7 = true → ∀ a b, t27 = .tuple #[a, b] → t34 = b
 a8 : l8 = true → ∃ b cs, t6 = .pointer (some ⟨b, 0, none⟩) ∧ B ≤ b ∧ Blk w b 35 cs ∧ (l10 = false → cs = #[.slice none 0 0, .slice none 0 0, .slice none 0 0]) ∧ (l10 = true → t33 = .agg cs)
 a9 : l9 = true → ∃ b, t7 = .pointer (some ⟨b, 0, none⟩) ∧ B ≤ b ∧ Blk w b 39 #[.int .i64 0, .slice none 0 0, .slice none 0 0, .int .i64 0]
 ra : l1 = true → l4 = false → ∃ cs f, t29 = .agg (List.toArray cs) ∧ Rp.house.R w cs x f
 rq : l3 = true → l4 = false → ∃ cs f, t31 = .agg (List.toArray cs) ∧ Rp.req.R w cs r f
 d4 : l4 = true → l1 = true ∧ l3 = true
 d5 : l5 = true → l4 = true
 d6 : l6 = true → l5 = true
 d7 : l7 = true → l5 = true
 d10 : l10 = true → l6 = true ∧ l8 = true ∧ l9 = true
section
variable {B : Nat} {o : House × Ans} {x : House} {r : Req} {l1 l3 l4 l5 l6 l7 l8 l9 l10 : Bool} {t29 t31 t32 t27 t33 t34 t6 t7 : Value} {w w' : World}
theorem DoSt.start : DoSt B o x r false false false false false false false false false t29 t31 t32 t27 t33 t34 t6 t7 w := ⟨by simp, by simp, by simp, by simp, by simp, by simp, by simp, by simp, by simp, by simp, by simp, by simp, by simp⟩
theorem off {a b : Bool} (h : a = true → b = true) (hb : b = false) : a = false := by
 cases a
 ·rfl
 ·rw [h rfl] at hb; cases hb
theorem DoSt.step (h : DoSt B o x r l1 l3 l4 l5 l6 l7 l8 l9 l10 t29 t31 t32 t27 t33 t34 t6 t7 w) (hb : Below w.heap.size w w') : DoSt B o x r l1 l3 l4 l5 l6 l7 l8 l9 l10 t29 t31 t32 t27 t33 t34 t6 t7 w' := by
 refine ⟨fun h4 => ?_, h.mv, h.e6, h.e7, fun h8 => ?_, fun h9 => ?_, fun k1 k4 => ?_, fun k1 k4 => ?_, h.d4, h.d5, h.d6, h.d7, h.d10⟩
 ·obtain ⟨ch, av, f, g, h1, h2, h3, h4, h5, h6, h7, h8⟩ := h.res h4
  exact ⟨ch, av, f, g, h1, Rp.house.below h2 hb nle, Rp.ans.below h3 hb nle, h4, h5, h6.step hb, h7, h8⟩
 ·obtain ⟨b, cs, h1, h2, h3, h4⟩ := h.a8 h8
  exact ⟨b, cs, h1, h2, h3.step hb, h4⟩
 ·obtain ⟨b, h1, h2, h3⟩ := h.a9 h9
  exact ⟨b, h1, h2, h3.step hb⟩
 ·obtain ⟨cs, f, h1, h2⟩ := h.ra k1 k4
  exact ⟨cs, f, h1, Rp.house.below h2 hb nle⟩
 ·obtain ⟨cs, f, h1, h2⟩ := h.rq k1 k4
  exact ⟨cs, f, h1, Rp.req.below h2 hb nle⟩
theorem DoSt.n4 (h : DoSt B o x r l1 l3 false l5 l6 l7 l8 l9 l10 t29 t31 t32 t27 t33 t34 t6 t7 w) : l5 = false ∧ l6 = false ∧ l7 = false ∧ l10 = false := by
 have n5 := off h.d5 rfl
 have n6 := off h.d6 n5
 exact ⟨n5, n6, off h.d7 n5, off (fun k => (h.d10 k).1) n6⟩
theorem DoSt.toH (h : DoSt B o x r false l3 l4 l5 l6 l7 l8 l9 l10 t29 t31 t32 t27 t33 t34 t6 t7 w) (hb : Below w.heap.size w w') {cs : List Value} {f : List Nat} (hR : Rp.house.R w' cs x f) : DoSt B o x r true l3 l4 l5 l6 l7 l8 l9 l10 (.agg cs.toArray) t31 t32 t27 t33 t34 t6 t7 w' := by
 have n4 : l4 = false := off (fun k => (h.d4 k).1) rfl
 subst n4
 have h' := h.step hb
 exact ⟨by simp, h'.mv, h'.e6, h'.e7, h'.a8, h'.a9, fun _ _ => ⟨cs, f, rfl, hR⟩, h'.rq, by simp, h'.d5, h'.d6, h'.d7, h'.d10⟩
theorem DoSt.toQ (h : DoSt B o x r l1 false l4 l5 l6 l7 l8 l9 l10 t29 t31 t32 t27 t33 t34 t6 t7 w) (hb : Below w.heap.size w w') {cs : List Value} {f : List Nat} (hR : Rp.req.R w' cs r f) : DoSt B o x r l1 true l4 l5 l6 l7 l8 l9 l10 t29 (.agg cs.toArray) t32 t27 t33 t34 t6 t7 w' := by
 have n4 : l4 = false := off (fun k => (h.d4 k).2) rfl
 subst n4
 have h' := h.step hb
 exact ⟨by simp, h'.mv, h'.e6, h'.e7, h'.a8, h'.a9, h'.ra, fun _ _ => ⟨cs, f, rfl, hR⟩, by simp, h'.d5, h'.d6, h'.d7, h'.d10⟩
theorem DoSt.call (h : DoSt B o x r true true false l5 l6 l7 l8 l9 l10 t29 t31 t32 t27 t33 t34 t6 t7 w) (hB : B ≤ w.heap.size) {e : Ending} (hd : Done w o e w') : ∃ u, e = .returned u ∧ Below w.heap.size w w' ∧ DoSt B o x r true true true l5 l6 l7 l8 l9 l10 t29 t31 u t27 t33 t34 t6 t7 w' := by
 obtain ⟨ch, av, f, g, rfl, h1, h2, h3, h4, h5, hb⟩ := hd
 obtain ⟨n5, n6, n7, n10⟩ := h.n4
 subst n5 n6 n7 n10
 refine ⟨_, rfl, hb, ⟨fun _ => ⟨ch, av, f, g, rfl, h1, h2, h3, fun z hz => Nat.le_trans hB (h4 z hz), h5, fun h8 b e hm => ?_, fun h9 b e hm => ?_⟩, by simp, by simp, by simp, (h.step hb).a8, (h.step hb).a9, by simp, by simp, by simp, by simp, by simp, by simp, by simp⟩⟩
 ·obtain ⟨b', _, k1, _, k3, _⟩ := h.a8 h8
  rw [k1] at e; cases e
  have := h4 _ hm; have := k3.lt; omega
 ·obtain ⟨b', k1, _, k3⟩ := h.a9 h9
  rw [k1] at e; cases e
  have := h4 _ hm; have := k3.lt; omega
theorem DoSt.move (h : DoSt B o x r l1 l3 true false l6 l7 l8 l9 l10 t29 t31 t32 t27 t33 t34 t6 t7 w) : DoSt B o x r l1 l3 true true l6 l7 l8 l9 l10 t29 t31 t32 t32 t33 t34 t6 t7 w := by
 have n6 := off h.d6 rfl
 have n7 := off h.d7 rfl
 have n10 := off (fun k => (h.d10 k).1) n6
 subst n6 n7 n10
 exact ⟨h.res, fun _ => rfl, by simp, by simp, h.a8, h.a9, h.ra, h.rq, h.d4, fun _ => rfl, by simp, by simp, by simp⟩
theorem DoSt.tup (h : DoSt B o x r l1 l3 l4 true l6 l7 l8 l9 l10 t29 t31 t32 t27 t33 t34 t6 t7 w) : ∃ a b : Value, t27 = .tuple #[a, b] := by
 obtain ⟨ch, av, f, g, h1, _⟩ := h.res (h.d5 rfl)
 exact ⟨_, _, (h.mv rfl).trans h1⟩
theorem DoSt.ext6 (h : DoSt B o x r l1 l3 l4 true false l7 l8 l9 l10 t29 t31 t32 t27 t33 t34 t6 t7 w) {a b : Value} (e : t27 = .tuple #[a, b]) : DoSt B o x r l1 l3 l4 true true l7 l8 l9 l10 t29 t31 t32 t27 a t34 t6 t7 w := by
 have n10 := off (fun k => (h.d10 k).1) rfl
 subst n10
 refine ⟨h.res, h.mv, fun _ a' b' e' => by rw [e] at e'; cases e'; rfl, h.e7, fun h8 => ?_, h.a9, h.ra, h.rq, h.d4, h.d5, fun _ => rfl, h.d7, by simp⟩
 obtain ⟨b, cs, k1, k2, k3, k4, _⟩ := h.a8 h8
 exact ⟨b, cs, k1, k2, k3, k4, by simp⟩
theorem DoSt.ext7 (h : DoSt B o x r l1 l3 l4 true l6 l7 l8 l9 l10 t29 t31 t32 t27 t33 t34 t6 t7 w) {a b : Value} (e : t27 = .tuple #[a, b]) : DoSt B o x r l1 l3 l4 true l6 true l8 l9 l10 t29 t31 t32 t27 t33 b t6 t7 w :=
 ⟨h.res, h.mv, h.e6, fun _ a' b' e' => by rw [e] at e'; cases e'; rfl, h.a8, h.a9, h.ra, h.rq, h.d4, h.d5, h.d6, fun _ => rfl, h.d10⟩
theorem DoSt.al8 (h : DoSt B o x r l1 l3 l4 l5 l6 l7 false l9 l10 t29 t31 t32 t27 t33 t34 t6 t7 w) (hB : B ≤ w.heap.size) :
  DoSt B o x r l1 l3 l4 l5 l6 l7 true l9 l10 t29 t31 t32 t27 t33 t34 (.pointer (some ⟨w.heap.size, 0, none⟩)) t7 (w.alloc (.cells #[.slice none 0 0, .slice none 0 0, .slice none 0 0] 35)) := by
 have n10 := off (fun k => (h.d10 k).2.1) rfl
 subst n10
 have hb := (Below.refl w.heap.size w).alloc nle (.cells #[.slice none 0 0, .slice none 0 0, .slice none 0 0] 35)
 have h' := h.step hb
 refine ⟨fun h4 => ?_, h'.mv, h'.e6, h'.e7, fun _ => ⟨_, _, rfl, hB, Blk.new _ _ _, fun _ => rfl, by simp⟩, h'.a9, h'.ra, h'.rq, h'.d4, h'.d5, h'.d6, h'.d7, by simp⟩
 obtain ⟨ch0, av0, f0, g0, i1, i2, i3, i4, i5, i6, _, i8⟩ := h.res h4
 refine ⟨ch0, av0, f0, g0, i1, Rp.house.below i2 hb nle, Rp.ans.below i3 hb nle, i4, i5, i6.step hb, fun _ b eb hm => ?_, i8⟩
 cases eb
 exact absurd (i6.lt _ hm) (Nat.lt_irrefl _)
theorem DoSt.al9 (h : DoSt B o x r l1 l3 l4 l5 l6 l7 l8 false l10 t29 t31 t32 t27 t33 t34 t6 t7 w) (hB : B ≤ w.heap.size) :
  DoSt B o x r l1 l3 l4 l5 l6 l7 l8 true l10 t29 t31 t32 t27 t33 t34 t6 (.pointer (some ⟨w.heap.size, 0, none⟩)) (w.alloc (.cells #[.int .i64 0, .slice none 0 0, .slice none 0 0, .int .i64 0] 39)) := by
 have n10 := off (fun k => (h.d10 k).2.2) rfl
 subst n10
 have hb := (Below.refl w.heap.size w).alloc nle (.cells #[.int .i64 0, .slice none 0 0, .slice none 0 0, .int .i64 0] 39)
 have h' := h.step hb
 refine ⟨fun h4 => ?_, h'.mv, h'.e6, h'.e7, h'.a8, fun _ => ⟨_, rfl, hB, Blk.new _ _ _⟩, h'.ra, h'.rq, h'.d4, h'.d5, h'.d6, h'.d7, by simp⟩
 obtain ⟨ch0, av0, f0, g0, i1, i2, i3, i4, i5, i6, i7, _⟩ := h.res h4
 refine ⟨ch0, av0, f0, g0, i1, Rp.house.below i2 hb nle, Rp.ans.below i3 hb nle, i4, i5, i6.step hb, i7, fun _ b eb hm => ?_⟩
 cases eb
 exact absurd (i6.lt _ hm) (Nat.lt_irrefl _)
theorem DoSt.at10 (h : DoSt B o x r l1 l3 l4 l5 true l7 true true false t29 t31 t32 t27 t33 t34 t6 t7 w) : ∃ b P0 p0 q0 P1 p1 q1 P2 p2 q2, t6 = .pointer (some ⟨b, 0, none⟩) ∧ t33 = .agg #[.slice P0 p0 q0, .slice P1 p1 q1, .slice P2 p2 q2] ∧ Blk w b 35 #[.slice none 0 0, .slice none 0 0, .slice none 0 0] ∧ B ≤ b ∧
  DoSt B o x r l1 l3 l4 l5 true l7 true true true t29 t31 t32 t27 t33 t34 t6 t7 (((w.setCell ⟨b, 0, none⟩ (.slice P0 p0 q0)).setCell ⟨b, 1, none⟩ (.slice P1 p1 q1)).setCell ⟨b, 2, none⟩ (.slice P2 p2 q2)) := by
 obtain ⟨b, cs, k1, k2, k3, k4, _⟩ := h.a8 rfl
 have k4' := k4 rfl
 subst k4'
 obtain ⟨b7, h71, h72, k7⟩ := h.a9 rfl
 have d5 := h.d6 rfl
 have d4 := h.d5 d5
 subst d5 d4
 obtain ⟨ch, av, f, g, h1, hR, hA, hn, hl, hf, n6, n7⟩ := h.res rfl
 have e33 := h.e6 rfl _ _ ((h.mv rfl).trans h1)
 obtain ⟨P0, p0, q0, f0, P1, p1, q1, f1, P2, p2, q2, f2, rfl, hff, c0, c1, c2⟩ := id hR
 have hne := blk_ne k3 k7 (by decide)
 have m6 := n6 rfl b k1
 have RO := ((((Only.refl [b] w).setCell (p := ⟨b, 0, none⟩) (.inl (by simp)) (.slice P0 p0 q0)).setCell (p := ⟨b, 1, none⟩) (.inl (by simp)) (.slice P1 p1 q1)).setCell (p := ⟨b, 2, none⟩) (.inl (by simp)) (.slice P2 p2 q2))
 have hk : ∀ z ∈ f ++ g, (((w.setCell ⟨b, 0, none⟩ (.slice P0 p0 q0)).setCell ⟨b, 1, none⟩ (.slice P1 p1 q1)).setCell ⟨b, 2, none⟩ (.slice P2 p2 q2)).heap[z]? = w.heap[z]? := fun z hz => RO.block z (hf.lt z hz) (by
  simp
  exact fun e => m6 (e ▸ hz))
 have R := ((k3.put 0 (.slice P0 p0 q0)).put 1 (.slice P1 p1 q1)).put 2 (.slice P2 p2 q2)
 refine ⟨b, P0, p0, q0, P1, p1, q1, P2, p2, q2, k1, e33, k3, k2, ⟨fun _ => ⟨_, _, f, g, h1, Rp.house.keep hR fun z hz => hk z (List.mem_append_left _ hz), Rp.ans.keep hA fun z hz => hk z (List.mem_append_right _ hz), hn, hl, hf.keep hk, n6, n7⟩, h.mv, h.e6, h.e7, fun _ => ⟨b, _, k1, k2, by simpa using R, by simp, fun _ => e33⟩, fun _ => ⟨b7, h71, h72, Blk.far3 k7 (Ne.symm hne) _ _ _⟩, by simp, by simp, h.d4, h.d5, h.d6, h.d7, fun _ => ⟨rfl, rfl, rfl⟩⟩⟩
theorem DoSt.done {w0 : World} (h : DoSt w0.heap.size o x r l1 l3 true true true true true true true t29 t31 t32 t27 t33 t34 t6 t7 w) (hb : Below w0.heap.size w0 w) :
  ∃ b7 V0 v0 u0 V1 v1 u1, t7 = .pointer (some ⟨b7, 0, none⟩) ∧ t34 = .agg #[.int .i64 o.2.code, .slice V0 v0 u0, .slice V1 v1 u1, .int .i64 o.2.n] ∧ Blk w b7 39 #[.int .i64 0, .slice none 0 0, .slice none 0 0, .int .i64 0] ∧
   DoneAt w0 o t6 t7 ((((w.setCell ⟨b7, 0, none⟩ (.int .i64 o.2.code)).setCell ⟨b7, 1, none⟩ (.slice V0 v0 u0)).setCell ⟨b7, 2, none⟩ (.slice V1 v1 u1)).setCell ⟨b7, 3, none⟩ (.int .i64 o.2.n)) := by
 obtain ⟨b6, cs, h61, h62, k6, _, h63⟩ := h.a8 rfl
 obtain ⟨b7, h71, h72, k7⟩ := h.a9 rfl
 obtain ⟨ch, av, f, g, h1, hR, hA, hn, hl, hf, n6, n7⟩ := h.res rfl
 have e27 := (h.mv rfl).trans h1
 have e33 := (h.e6 rfl _ _ e27).symm.trans (h63 rfl)
 cases e33
 have e34 := h.e7 rfl _ _ e27
 obtain ⟨V0, v0, u0, i0, V1, v1, u1, i1, rfl, hgg, a0, a1⟩ := id hA
 have hne := blk_ne k6 k7 (by decide)
 obtain ⟨R2, RO⟩ := ans_put k7 (.int .i64 o.2.code) (.slice V0 v0 u0) (.slice V1 v1 u1) (.int .i64 o.2.n)
 have m6 := n6 rfl b6 h61
 have m7 := n7 rfl b7 h71
 have hk : ∀ z ∈ f ++ g, ((((w.setCell ⟨b7, 0, none⟩ (.int .i64 o.2.code)).setCell ⟨b7, 1, none⟩ (.slice V0 v0 u0)).setCell ⟨b7, 2, none⟩ (.slice V1 v1 u1)).setCell ⟨b7, 3, none⟩ (.int .i64 o.2.n)).heap[z]? = w.heap[z]? := fun z hz => RO.block z (hf.lt z hz) (by
  simp
  exact fun e => m7 (e ▸ hz))
 refine ⟨b7, V0, v0, u0, V1, v1, u1, h71, e34, k7, b6, b7, ch, _, f, g, h61, h71, k6.only RO (by simp [hne]), R2, Rp.house.keep hR fun z hz => hk z (List.mem_append_left _ hz), Rp.ans.keep hA fun z hz => hk z (List.mem_append_right _ hz), hn, hl, hf.keep hk, h62, h72, m6, m7, hne, ?_⟩
 exact hb.trans (RO.below (fun z hz => by simp at hz; omega) hb.size)
end
end Go.Proofs.YtnogkkcmcnhodaaGreatDoor
