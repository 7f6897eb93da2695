/- The law FnReqWrites, walked. By program (wip/gen/gen_lawreqw.py). -/
import Derived.Test.YthopednilgncgaaDoorDp
import Derived.Test.YthopednilgncgaaDoorRm
namespace Go.Proofs.YthopednilgncgaaDoor
open Go.RowKit
attribute [local go_sem ↓] Go.wp_at_zero Go.wp_at_succ

theorem own_boxed {w : World} {base size n B : Nat} {e : TypeId} {v : Value} {xs : List Value} {q : Req} {E : Value} (h : w.ownsRow base e size v n xs) (hB : B < base) : (boxAll w B q E).ownsRow base e size v n xs :=
  ⟨h.1, h.2.elim Or.inl (fun ⟨k, cap, cur, hv, hk, hc, r⟩ => Or.inr ⟨k, cap, cur, hv, hk, ((only_box w B q E).block k (Array.getElem?_eq_some_iff.1 hc).1 (by simp; omega)).trans hc, r⟩)⟩
theorem fit_small {q : Req} (h : smallReq q) : fitReq q :=
  ⟨by have := h.ref; omega, by have := h.other; omega, by have := h.path; omega, h.rule, fun i hi => by have := (h.edits i hi).1; show _ ≤ _; omega⟩

set_option maxHeartbeats 4000000 in
set_option maxRecDepth 20000 in
theorem drawReqWrites_any {A : Option Addr} {n c : Nat} {l : List UInt8} {fp : List Nat} (w : World) (hx : SlR Rp.byte w A n c l fp) :
    Calls Tryd.prog 22 #[.slice A n c] w fun e w' => ∃ q A c f, e = .returned (.agg (reqA q (.slice A q.edits.length c))) ∧ Rp.req.R w' (reqA q (.slice A q.edits.length c)).toList q f ∧ smallReq q ∧ Below w.heap.size w w' := by
  have k2 := Blk.new w 40 (reqA zeroReq (.slice none 0 0))
  go_enter Tryd.func22, Tryd.ntmps22
  go_wp2_with fail
  refine (l20Open_any _ (hx.allocN _)).mono ?_
  rintro e w1 ⟨g, rfl, hg, hr1, hb1⟩
  simp only [World.size_alloc] at hg
  replace k2 := k2.step hb1
  have HB := Below.box1 hb1
  clear hb1 hx
  go_wp2_with fail
  refine (l21AnyReqE_any g 0 4 (by omega) (by omega) _ hr1).mono ?_
  rintro e w2 ⟨q, A, c, f, rfl, -, hown, hsm, hr2, ho2, hlen⟩
  have hg0 : w.heap.size < w1.heap.size := k2.lt
  replace k2 := k2.only ho2 (by simp; omega)
  replace HB := HB.trans (ho2.below (B := w.heap.size) (by simp; omega) HB.size)
  have kb := Blk.box15 (q' := q) (E' := .slice A q.edits.length c) k2
  have hown' := own_boxed (q := q) (E := .slice A q.edits.length c) hown hg0
  obtain ⟨A', c', f', he, hs, -, -, -⟩ := own_sl (k := 3) (enc := encEdit) (hk := fun _ => rfl) (h1 := encEdit_one) hown'
  cases he
  have hR : Rp.req.R (boxAll w2 w.heap.size q (.slice A q.edits.length c)) (reqA q (.slice A q.edits.length c)).toList q f' := ⟨A, _, c, f', rfl, rfl, hs⟩
  have hB2 : Below w.heap.size w (boxAll w2 w.heap.size q (.slice A q.edits.length c)) := HB.trans ((only_box w2 w.heap.size q (.slice A q.edits.length c)).below (B := w.heap.size) (by simp) HB.size)
  have HF := hide (And.intro kb (And.intro hR hB2))
  have r := k2
  clear kb hR hB2 hown hown' hs ho2 hr2 hr1 HB k2

  have r0 := r.cell 0
  have r1 := r.cell 1
  have r2 := r.cell 2
  have r3 := r.cell 3
  have r4 := r.cell 4
  have r5 := r.cell 5
  have r6 := r.cell 6
  have r7 := r.cell 7
  have r8 := r.cell 8
  have r9 := r.cell 9
  have r10 := r.cell 10
  have r11 := r.cell 11
  have r12 := r.cell 12
  have r13 := r.cell 13
  have r14 := r.cell 14
  simp only [reqA, List.getElem?_toArray, List.getElem?_cons_zero, List.getElem?_cons_succ] at r0 r1 r2 r3 r4 r5 r6 r7 r8 r9 r10 r11 r12 r13 r14
  have f0 := blk_frz r 0
  have f1 := blk_frz r 1
  have f2 := blk_frz r 2
  have f3 := blk_frz r 3
  have f4 := blk_frz r 4
  have f5 := blk_frz r 5
  have f6 := blk_frz r 6
  have f7 := blk_frz r 7
  have f8 := blk_frz r 8
  have f9 := blk_frz r 9
  have f10 := blk_frz r 10
  have f11 := blk_frz r 11
  have f12 := blk_frz r 12
  have f13 := blk_frz r 13
  have f14 := blk_frz r 14
  clear r
  unfold reqA
  go_wp2
  obtain ⟨kb, hR, hB⟩ := HF.out
  exact bodyPost_ret (v := .agg (reqA q (.slice A q.edits.length c))) (results_cell_row rfl _ _ w.heap.size _ _ (0, 0) _ rfl kb.out Tryd.underlying40 rfl size_rq) rfl ⟨q, A, c, f', rfl, hR, hsm, hB⟩

theorem writes_kind (q : Req) : reqWrites q = (q.kind == 1 || (q.kind == 9 || q.kind == 10)) := by
  unfold reqWrites
  simp [Bool.or_assoc]
theorem kind_req (k : Int) (W : World) : Rp.req.R W (reqA { zeroReq with kind := k } (.slice none 0 0)).toList { zeroReq with kind := k } [] := ⟨none, 0, 0, [], rfl, rfl, SlR.nil⟩
def lawΓ (B3 B5 : Nat) (R3 R5 : Array Value) (kd : Int) (bw bo k1 k9 k10 : Bool) : Facts := fun t v _ => match t with
  | 2 => v = .bool true
  | 3 => v = .pointer (some ⟨B3, 0, none⟩)
  | 4 => v = .bool bw
  | 5 => v = .pointer (some ⟨B5, 0, none⟩)
  | 16 => v = .bool bw
  | 17 => v = .agg R3
  | 18 => v = .bool bw
  | 19 => v = .bool true
  | 20 => v = .bool true
  | 21 => v = .bool bw
  | 22 => v = .agg R5
  | 23 => v = .bool bw
  | 24 => v = .bool true
  | 25 => v = .bool true
  | 26 => v = .bool true
  | 27 => v = .bool bw
  | 28 => v = .pointer (some ⟨B3, 3, none⟩)
  | 29 => v = .int .i64 kd
  | 30 => v = .bool k1
  | 31 => v = .bool k1
  | 32 => k1 = false → v = .pointer (some ⟨B3, 3, none⟩)
  | 33 => k1 = false → v = .int .i64 kd
  | 34 => k1 = false → v = .bool k9
  | 35 => v = .bool (k1 || k9)
  | 36 => v = .bool (k1 || k9)
  | 37 => (k1 || k9) = false → v = .pointer (some ⟨B3, 3, none⟩)
  | 38 => (k1 || k9) = false → v = .int .i64 kd
  | 39 => (k1 || k9) = false → v = .bool k10
  | 40 => v = .bool bw
  | 41 => v = .bool true
  | 42 => v = .bool true
  | 43 => v = .bool true
  | 44 => v = .agg R3
  | 45 => v = .bool bo
  | 46 => v = .agg R3
  | 47 => v = .bool bo
  | 48 => v = .bool true
  | 49 => v = .bool true
  | 50 => v = .bool true
  | 51 => v = .agg #[.int .i64 0, .int .i64 0, .int .i64 0, .int .i64 1, .string ⟨#[]⟩, .string ⟨#[]⟩, .int .i64 0, .int .i64 0, .slice none 0 0, .int .i64 0, .string ⟨#[]⟩, .string ⟨#[]⟩, .bool false, .int .i64 0, .string ⟨#[]⟩]
  | 52 => v = .bool true
  | 53 => v = .bool true
  | _ => True
section
variable {P : Program} {C : World → Prop} {T : World → World → Prop} {V : Value → World → Prop} {o : Oper} {a : Act} {w : World}
theorem getD_some {o : Option Value} {b : Bool} (h : o.getD undef = .bool b) : o = some (.bool b) := by
  cases o with
  | none => cases h
  | some v => exact congrArg some h
theorem upT_row (ty : TypeId) (x : Operand) (ho : o.op = .load ty x) (g : Nat) (hx : a.eval x = .pointer (some ⟨g, 0, none⟩)) (t : TypeId) (cs : Array Value) (fr : Nat × Nat) (d : TypeDesc) (hg : w.heap[g]? = some (.cells cs t fr))
    (hu : P.underlying ty = some d) (hd : (match d with | .struct _ | .array _ _ => true | _ => false) = true) (hi : (P.info? ty).map (·.size) = some cs.size) (hc : C w) (ht : T w w) (hv : V (.agg cs) w) : upT P C T w V ((execOp a.eval o).run P w) := by
  have hr : (execOp a.eval o).run P w = .ok (.value (.agg cs)) w := by
    unfold execOp
    simp only [ho, hx, Instr.loadAt, Instr.sureAddr, Sem.run_bind, Sem.run_pure, Result.andThen_ok, run_loadVar_row w g t ty cs fr d hg hu hd hi]
  rw [hr]
  exact ⟨hc, ht, hv⟩
theorem upT_call (f : Nat) (he : Enters P f) {args : Array Operand} {ts : Array TypeId} (hop : o.op = .call { callee := .value (.func f), args := args, argTypes := ts }) (vs : Array Value) (hv : args.map a.eval = vs)
    (hc : Calls P f vs w fun e w' => ∃ u, e = .returned u ∧ C w' ∧ T w w' ∧ V u w') : upT P C T w V ((execOp a.eval o).run P w) := by
  subst hv
  have hr : (execOp a.eval o).run P w = .ok (.enter f (args.map a.eval)) w := by simp [execOp, hop, resolve, Act.eval, invoke, Deferred.ofValue, go_sem, he (args.map a.eval) w]
  rw [hr]
  exact hc
end

set_option maxHeartbeats 16000000 in
set_option maxRecDepth 40000 in
theorem lawReqWrites (w : World) {A : Option Addr} {n c : Nat} {code : List UInt8} {fp : List Nat} (hx : SlR Rp.byte w A n c code fp) :
    Calls Tryd.prog 5 #[.slice A n c] w fun e w' => e = .returned (.bool true) ∧ Below w.heap.size w w' := by
  obtain ⟨rfl, hcx, hmx, _⟩ := id hx
  unfold maxLen at hmx
  go_enter Tryd.func5, Tryd.ntmps5
  by_cases hq : (1048576 : Int) < (code.length : Int)
  · go_wp2
    go_ret
    exact ⟨rfl, Below.refl _ _⟩
  · go_wp2_with fail
    refine (drawReqWrites_any _ hx).mono ?_
    rintro e w1 ⟨q, A1, c1, f1, rfl, hR, hsm, HB⟩
    have HFIT := hide (fit_small hsm)
    have HR := hide hR
    clear hx hR hsm
    unfold reqA
    have k3 := Blk.new w1 40 #[.int .i64 q.user, .int .i64 q.key, .int .i64 q.repo, .int .i64 q.kind, .string q.ref, .string q.path, .int .i64 q.old, .int .i64 q.back, .slice A1 q.edits.length c1, .int .i64 q.rule.user, .string q.rule.ref, .string q.rule.path, .bool q.rule.write, .int .i64 q.frm, .string q.other]
    have hal := (Below.refl w1.heap.size w1).alloc (Nat.le_refl _) (.cells #[.int .i64 q.user, .int .i64 q.key, .int .i64 q.repo, .int .i64 q.kind, .string q.ref, .string q.path, .int .i64 q.old, .int .i64 q.back, .slice A1 q.edits.length c1, .int .i64 q.rule.user, .string q.rule.ref, .string q.rule.path, .bool q.rule.write, .int .i64 q.frm, .string q.other] 40)
    replace HB := Below.then_ HB hal
    replace HR := hide (Rp.req.below HR.out hal (Nat.le_refl _))
    clear hal
    obtain ⟨w2, hw2⟩ : ∃ w2, w2 = w1.alloc (.cells #[.int .i64 q.user, .int .i64 q.key, .int .i64 q.repo, .int .i64 q.kind, .string q.ref, .string q.path, .int .i64 q.old, .int .i64 q.back, .slice A1 q.edits.length c1, .int .i64 q.rule.user, .string q.rule.ref, .string q.rule.path, .bool q.rule.write, .int .i64 q.frm, .string q.other] 40) := ⟨_, rfl⟩
    go_upto_region 4 with fail
    rw [← hw2] at k3 HB HR ⊢
    clear hw2
    have D1 := hide (fun W (h : Rp.req.R W (reqA q (.slice A1 q.edits.length c1)).toList q f1) => implReqWrites_any W h)
    have D2 := hide (fun W (h : Rp.req.R W (reqA q (.slice A1 q.edits.length c1)).toList q f1) => specReqWrites_any W h)
    have D3 := hide (fun W (h : Rp.req.R W (reqA q (.slice A1 q.edits.length c1)).toList q f1) => implReqOk_any W h HFIT.out)
    have D4 := hide (fun W (h : Rp.req.R W (reqA q (.slice A1 q.edits.length c1)).toList q f1) => specReqOk_any W h HFIT.out)
    have D5 := hide (fun W => implReqWrites_any W (kind_req q.kind W))
    have D6 := hide (fun W => implReqWrites_any W (kind_req 1 W))
    have hwk : reqWrites { zeroReq with kind := q.kind } = reqWrites q := by rw [writes_kind, writes_kind]
    have hw1 : reqWrites { zeroReq with kind := 1 } = true := by rw [writes_kind]; rfl
    rw [hwk] at D5
    rw [hw1] at D6
    clear hwk hw1
    have HW := hide (writes_kind q)
    generalize reqWrites q = bw at D1 D2 D5 HW
    generalize reqOk q = bo at D3 D4
    have hbo : (bo == bo) = true := by simp
    go_wp2_with ((refine wpList_load_row rfl 40 (.tmp 3) rfl _ rfl _ _ _ _ k3.out Tryd.underlying40 rfl size_rq ?_))
    go_wp2_with fail
    refine (D1.out _ HR.out).mono ?_
    rintro e w3 ⟨rfl, hb⟩
    replace k3 := k3.step hb
    replace HB := Below.then_ HB hb
    replace HR := hide (Rp.req.below HR.out hb (Nat.le_refl _))
    clear hb
    have c3 : w3.cell? ⟨w1.heap.size, 3, none⟩ = some (.int .i64 q.kind) := k3.cell 3
    have k5 := Blk.new w3 40 #[.int .i64 0, .int .i64 0, .int .i64 0, .int .i64 q.kind, .string ⟨#[]⟩, .string ⟨#[]⟩, .int .i64 0, .int .i64 0, .slice none 0 0, .int .i64 0, .string ⟨#[]⟩, .string ⟨#[]⟩, .bool false, .int .i64 0, .string ⟨#[]⟩]
    have hal := (Below.refl w3.heap.size w3).alloc (Nat.le_refl _) (.cells #[.int .i64 0, .int .i64 0, .int .i64 0, .int .i64 q.kind, .string ⟨#[]⟩, .string ⟨#[]⟩, .int .i64 0, .int .i64 0, .slice none 0 0, .int .i64 0, .string ⟨#[]⟩, .string ⟨#[]⟩, .bool false, .int .i64 0, .string ⟨#[]⟩] 40)
    replace k3 := k3.step hal
    replace HB := Below.then_ HB hal
    replace HR := hide (Rp.req.below HR.out hal (Nat.le_refl _))
    obtain ⟨w4, hw4⟩ : ∃ w4, w4 = w3.alloc (.cells #[.int .i64 0, .int .i64 0, .int .i64 0, .int .i64 q.kind, .string ⟨#[]⟩, .string ⟨#[]⟩, .int .i64 0, .int .i64 0, .slice none 0 0, .int .i64 0, .string ⟨#[]⟩, .string ⟨#[]⟩, .bool false, .int .i64 0, .string ⟨#[]⟩] 40) := ⟨_, rfl⟩
    go_upto_region 6 with fail
    rw [← hw4] at k3 k5 HB HR ⊢
    clear hw4 hal c3
    go_cut [2] from 16 to 53 (fun v wx => v = .bool true ∧ Below w.heap.size w wx)
    case first =>
      refine wp_region_typed (fun _ w' => Below w4.heap.size w4 w') (fun w w' => Below w.heap.size w w') (lawΓ w1.heap.size w3.heap.size (reqA q (.slice A1 q.edits.length c1)) (reqA { zeroReq with kind := q.kind } (.slice none 0 0)) q.kind bw bo (q.kind == 1) (q.kind == 9) (q.kind == 10)) (by kernel_rfl) (by kernel_rfl) (fun _ _ _ _ h _ => h) (fun w => Below.refl _ w) ⟨(Below.refl _ _).drew, fun s hs => ?_, by rfl⟩ ?_ ?_
      · by_cases e3 : s = 3
        · subst e3; rfl
        by_cases e4 : s = 4
        · subst e4; rfl
        by_cases e5 : s = 5
        · subst e5; rfl
        have hne : s ∉ [16, 17, 18, 19, 20, 21, 22, 23, 24, 25, 26, 27, 28, 29, 30, 31, 32, 33, 34, 35, 36, 37, 38, 39, 40, 41, 42, 43, 44, 45, 46, 47, 48, 49, 50, 51, 52, 53, 2] := fun hm => by
          simp only [List.mem_cons, List.not_mem_nil, or_false] at hm
          rcases hm with rfl | rfl | rfl | rfl | rfl | rfl | rfl | rfl | rfl | rfl | rfl | rfl | rfl | rfl | rfl | rfl | rfl | rfl | rfl | rfl | rfl | rfl | rfl | rfl | rfl | rfl | rfl | rfl | rfl | rfl | rfl | rfl | rfl | rfl | rfl | rfl | rfl | rfl | rfl <;> exact absurd hs (by decide)
        simp only [List.mem_cons, List.not_mem_nil, or_false, not_or] at hne
        unfold lawΓ
        split <;> first | trivial | (exfalso; omega)
      · intro p hp
        simp only [List.mem_cons, List.not_mem_nil, or_false] at hp
        rcases hp with rfl | rfl | rfl | rfl | rfl | rfl | rfl | rfl | rfl | rfl | rfl | rfl | rfl | rfl | rfl | rfl | rfl | rfl | rfl | rfl | rfl | rfl | rfl | rfl | rfl | rfl | rfl | rfl | rfl | rfl | rfl | rfl | rfl | rfl | rfl | rfl | rfl | rfl | rfl
        · intro k a w' hk hC hR
          have r4 : a.tmps[4]?.getD undef = _ := hR 4 (by decide)
          simp [Region.wanted, outOf, go_sem, execOp, r4, upT]
          exact ⟨hC, Below.refl _ _, rfl⟩
        · intro k a w' hk hC hR
          have r3 : a.tmps[3]?.getD undef = _ := hR 3 (by decide)
          rw [if_pos (show Region.wanted _ _ = true by simp [Region.wanted])]
          exact upT_row 40 (.tmp 3) rfl w1.heap.size ((eval_tmp a 3).trans r3) _ _ _ _ (k3.step hC).out Tryd.underlying40 rfl size_rq hC (Below.refl _ _) rfl
        · intro k a w' hk hC hR
          have r17 : a.tmps[17]?.getD undef = _ := hR 17 (by decide)
          rw [if_pos (show Region.wanted _ _ = true by simp [Region.wanted])]
          refine upT_call 24 (enters_of Tryd.func24 (by kernel_rfl) rfl) rfl #[.agg (reqA q (.slice A1 q.edits.length c1))] (by simp [eval_tmp, r17]) ((D2.out _ (Rp.req.below HR.out hC (Nat.le_refl _))).mono ?_)
          rintro e w5 ⟨rfl, hb⟩
          exact ⟨_, rfl, Below.then_ hC hb, hb, rfl⟩
        · intro k a w' hk hC hR
          have r16 : a.tmps[16]?.getD undef = _ := hR 16 (by decide)
          have r18 : a.tmps[18]?.getD undef = _ := hR 18 (by decide)
          simp [Region.wanted, outOf, go_sem, execOp, r16, r18, upT]
          exact ⟨hC, Below.refl _ _, rfl⟩
        · intro k a w' hk hC hR
          have r19 : a.tmps[19]?.getD undef = _ := hR 19 (by decide)
          simp [Region.wanted, outOf, go_sem, execOp, r19, upT]
          exact ⟨hC, Below.refl _ _, rfl⟩
        · intro k a w' hk hC hR
          have r20 : a.tmps[20]?.getD undef = _ := hR 20 (by decide)
          have y20 := getD_some r20
          have r4 : a.tmps[4]?.getD undef = _ := hR 4 (by decide)
          simp [Region.wanted, yielded, outOf, go_sem, execOp, y20, r4, upT]
          exact ⟨hC, Below.refl _ _, rfl⟩
        · intro k a w' hk hC hR
          have r20 : a.tmps[20]?.getD undef = _ := hR 20 (by decide)
          have y20 := getD_some r20
          have r5 : a.tmps[5]?.getD undef = _ := hR 5 (by decide)
          rw [if_pos (show Region.wanted _ _ = true by simp [Region.wanted, yielded, y20])]
          exact upT_row 40 (.tmp 5) rfl w3.heap.size ((eval_tmp a 5).trans r5) _ _ _ _ (k5.step hC).out Tryd.underlying40 rfl size_rq hC (Below.refl _ _) rfl
        · intro k a w' hk hC hR
          have r20 : a.tmps[20]?.getD undef = _ := hR 20 (by decide)
          have y20 := getD_some r20
          have r22 : a.tmps[22]?.getD undef = _ := hR 22 (by decide)
          rw [if_pos (show Region.wanted _ _ = true by simp [Region.wanted, yielded, y20])]
          refine upT_call 23 (enters_of Tryd.func23 (by kernel_rfl) rfl) rfl #[.agg (reqA { zeroReq with kind := q.kind } (.slice none 0 0))] (by simp [eval_tmp, r22]) ((D5.out _).mono ?_)
          rintro e w5 ⟨rfl, hb⟩
          exact ⟨_, rfl, Below.then_ hC hb, hb, rfl⟩
        · intro k a w' hk hC hR
          have r20 : a.tmps[20]?.getD undef = _ := hR 20 (by decide)
          have y20 := getD_some r20
          have r21 : a.tmps[21]?.getD undef = _ := hR 21 (by decide)
          have r23 : a.tmps[23]?.getD undef = _ := hR 23 (by decide)
          simp [Region.wanted, yielded, outOf, go_sem, execOp, y20, r21, r23, upT]
          exact ⟨hC, Below.refl _ _, rfl⟩
        · intro k a w' hk hC hR
          have r20 : a.tmps[20]?.getD undef = _ := hR 20 (by decide)
          have y20 := getD_some r20
          have r24 : a.tmps[24]?.getD undef = _ := hR 24 (by decide)
          simp [Region.wanted, outOf, go_sem, execOp, y20, r24, upT]
          exact ⟨hC, Below.refl _ _, rfl⟩
        · intro k a w' hk hC hR
          have r25 : a.tmps[25]?.getD undef = _ := hR 25 (by decide)
          simp [Region.wanted, outOf, go_sem, execOp, r25, upT]
          exact ⟨hC, Below.refl _ _, rfl⟩
        · intro k a w' hk hC hR
          have r26 : a.tmps[26]?.getD undef = _ := hR 26 (by decide)
          have y26 := getD_some r26
          have r4 : a.tmps[4]?.getD undef = _ := hR 4 (by decide)
          simp [Region.wanted, yielded, outOf, go_sem, execOp, y26, r4, upT]
          exact ⟨hC, Below.refl _ _, rfl⟩
        · intro k a w' hk hC hR
          have r26 : a.tmps[26]?.getD undef = _ := hR 26 (by decide)
          have y26 := getD_some r26
          have r3 : a.tmps[3]?.getD undef = _ := hR 3 (by decide)
          simp [Region.wanted, yielded, outOf, go_sem, execOp, y26, r3, upT]
          exact ⟨hC, Below.refl _ _, rfl⟩
        · intro k a w' hk hC hR
          have r26 : a.tmps[26]?.getD undef = _ := hR 26 (by decide)
          have y26 := getD_some r26
          have r28 : a.tmps[28]?.getD undef = _ := hR 28 (by decide)
          have hc : w'.cell? ⟨w1.heap.size, 3, none⟩ = some (.int .i64 q.kind) := (k3.step hC).cell 3
          simp [Region.wanted, yielded, outOf, go_sem, execOp, y26, r28, hc, upT]
          exact ⟨hC, Below.refl _ _, rfl⟩
        · intro k a w' hk hC hR
          have r26 : a.tmps[26]?.getD undef = _ := hR 26 (by decide)
          have y26 := getD_some r26
          have r29 : a.tmps[29]?.getD undef = _ := hR 29 (by decide)
          simp [Region.wanted, yielded, outOf, go_sem, execOp, y26, r29, upT]
          exact ⟨hC, Below.refl _ _, rfl⟩
        · intro k a w' hk hC hR
          have r26 : a.tmps[26]?.getD undef = _ := hR 26 (by decide)
          have y26 := getD_some r26
          have r30 : a.tmps[30]?.getD undef = _ := hR 30 (by decide)
          simp [Region.wanted, yielded, outOf, go_sem, execOp, y26, r30, upT]
          exact ⟨hC, Below.refl _ _, rfl⟩
        · intro k a w' hk hC hR
          have r31 : a.tmps[31]?.getD undef = _ := hR 31 (by decide)
          have y31 := getD_some r31
          have r3 : a.tmps[3]?.getD undef = _ := hR 3 (by decide)
          cases e1 : (q.kind == 1)
          · rw [e1] at r31 y31
            simp [Region.wanted, yielded, outOf, go_sem, execOp, y31, r3, upT]
            exact ⟨hC, Below.refl _ _, fun _ => rfl⟩
          · rw [e1] at r31 y31
            simp [Region.wanted, yielded, outOf, go_sem, y31]
            exact ⟨hC, fun h => by first | cases h | (rw [e1] at h; cases h)⟩
        · intro k a w' hk hC hR
          have r31 : a.tmps[31]?.getD undef = _ := hR 31 (by decide)
          have y31 := getD_some r31
          have h32 : (q.kind == 1) = false → a.tmps[32]?.getD undef = _ := hR 32 (by decide)
          have hc : w'.cell? ⟨w1.heap.size, 3, none⟩ = some (.int .i64 q.kind) := (k3.step hC).cell 3
          cases e1 : (q.kind == 1)
          · rw [e1] at r31 y31
            have r32 := h32 e1
            simp [Region.wanted, yielded, outOf, go_sem, execOp, y31, r32, hc, upT]
            exact ⟨hC, Below.refl _ _, fun _ => rfl⟩
          · rw [e1] at r31 y31
            simp [Region.wanted, yielded, outOf, go_sem, y31]
            exact ⟨hC, fun h => by first | cases h | (rw [e1] at h; cases h)⟩
        · intro k a w' hk hC hR
          have r31 : a.tmps[31]?.getD undef = _ := hR 31 (by decide)
          have y31 := getD_some r31
          have h33 : (q.kind == 1) = false → a.tmps[33]?.getD undef = _ := hR 33 (by decide)
          cases e1 : (q.kind == 1)
          · rw [e1] at r31 y31
            have r33 := h33 e1
            simp [Region.wanted, yielded, outOf, go_sem, execOp, y31, r33, upT]
            exact ⟨hC, Below.refl _ _, fun _ => rfl⟩
          · rw [e1] at r31 y31
            simp [Region.wanted, yielded, outOf, go_sem, y31]
            exact ⟨hC, fun h => by first | cases h | (rw [e1] at h; cases h)⟩
        · intro k a w' hk hC hR
          have r26 : a.tmps[26]?.getD undef = _ := hR 26 (by decide)
          have y26 := getD_some r26
          have r31 : a.tmps[31]?.getD undef = _ := hR 31 (by decide)
          have y31 := getD_some r31
          have h34 : (q.kind == 1) = false → a.tmps[34]?.getD undef = _ := hR 34 (by decide)
          cases e1 : (q.kind == 1)
          · have r34 := h34 e1
            rw [e1] at r31 y31
            simp [Region.wanted, yielded, outOf, go_sem, execOp, y26, y31, r34, upT]
            exact ⟨hC, Below.refl _ _, by first | rfl | (rw [e1]; rfl)⟩
          · rw [e1] at r31 y31
            simp [Region.wanted, yielded, outOf, go_sem, execOp, y26, y31, upT]
            exact ⟨hC, Below.refl _ _, by first | rfl | (rw [e1]; rfl)⟩
        · intro k a w' hk hC hR
          have r26 : a.tmps[26]?.getD undef = _ := hR 26 (by decide)
          have y26 := getD_some r26
          have r35 : a.tmps[35]?.getD undef = _ := hR 35 (by decide)
          simp [Region.wanted, yielded, outOf, go_sem, execOp, y26, r35, upT]
          exact ⟨hC, Below.refl _ _, rfl⟩
        · intro k a w' hk hC hR
          have r36 : a.tmps[36]?.getD undef = _ := hR 36 (by decide)
          have y36 := getD_some r36
          have r3 : a.tmps[3]?.getD undef = _ := hR 3 (by decide)
          cases e1 : ((q.kind == 1) || (q.kind == 9))
          · rw [e1] at r36 y36
            simp [Region.wanted, yielded, outOf, go_sem, execOp, y36, r3, upT]
            exact ⟨hC, Below.refl _ _, fun _ => rfl⟩
          · rw [e1] at r36 y36
            simp [Region.wanted, yielded, outOf, go_sem, y36]
            exact ⟨hC, fun h => by first | cases h | (rw [e1] at h; cases h)⟩
        · intro k a w' hk hC hR
          have r36 : a.tmps[36]?.getD undef = _ := hR 36 (by decide)
          have y36 := getD_some r36
          have h37 : ((q.kind == 1) || (q.kind == 9)) = false → a.tmps[37]?.getD undef = _ := hR 37 (by decide)
          have hc : w'.cell? ⟨w1.heap.size, 3, none⟩ = some (.int .i64 q.kind) := (k3.step hC).cell 3
          cases e1 : ((q.kind == 1) || (q.kind == 9))
          · rw [e1] at r36 y36
            have r37 := h37 e1
            simp [Region.wanted, yielded, outOf, go_sem, execOp, y36, r37, hc, upT]
            exact ⟨hC, Below.refl _ _, fun _ => rfl⟩
          · rw [e1] at r36 y36
            simp [Region.wanted, yielded, outOf, go_sem, y36]
            exact ⟨hC, fun h => by first | cases h | (rw [e1] at h; cases h)⟩
        · intro k a w' hk hC hR
          have r36 : a.tmps[36]?.getD undef = _ := hR 36 (by decide)
          have y36 := getD_some r36
          have h38 : ((q.kind == 1) || (q.kind == 9)) = false → a.tmps[38]?.getD undef = _ := hR 38 (by decide)
          cases e1 : ((q.kind == 1) || (q.kind == 9))
          · rw [e1] at r36 y36
            have r38 := h38 e1
            simp [Region.wanted, yielded, outOf, go_sem, execOp, y36, r38, upT]
            exact ⟨hC, Below.refl _ _, fun _ => rfl⟩
          · rw [e1] at r36 y36
            simp [Region.wanted, yielded, outOf, go_sem, y36]
            exact ⟨hC, fun h => by first | cases h | (rw [e1] at h; cases h)⟩
        · intro k a w' hk hC hR
          have r26 : a.tmps[26]?.getD undef = _ := hR 26 (by decide)
          have y26 := getD_some r26
          have r36 : a.tmps[36]?.getD undef = _ := hR 36 (by decide)
          have y36 := getD_some r36
          have h39 : ((q.kind == 1) || (q.kind == 9)) = false → a.tmps[39]?.getD undef = _ := hR 39 (by decide)
          have hbw := HW.out
          cases e1 : ((q.kind == 1) || (q.kind == 9))
          · have r39 := h39 e1
            rw [e1] at r36 y36
            simp [Region.wanted, yielded, outOf, go_sem, execOp, y26, y36, r39, upT]
            exact ⟨hC, Below.refl _ _, by rw [hbw, ← Bool.or_assoc, e1]; rfl⟩
          · rw [e1] at r36 y36
            simp [Region.wanted, yielded, outOf, go_sem, execOp, y26, y36, upT]
            exact ⟨hC, Below.refl _ _, by rw [hbw, ← Bool.or_assoc, e1]; rfl⟩
        · intro k a w' hk hC hR
          have r26 : a.tmps[26]?.getD undef = _ := hR 26 (by decide)
          have y26 := getD_some r26
          have r27 : a.tmps[27]?.getD undef = _ := hR 27 (by decide)
          have r40 : a.tmps[40]?.getD undef = _ := hR 40 (by decide)
          simp [Region.wanted, yielded, outOf, go_sem, execOp, y26, r27, r40, upT]
          exact ⟨hC, Below.refl _ _, rfl⟩
        · intro k a w' hk hC hR
          have r26 : a.tmps[26]?.getD undef = _ := hR 26 (by decide)
          have y26 := getD_some r26
          have r41 : a.tmps[41]?.getD undef = _ := hR 41 (by decide)
          simp [Region.wanted, outOf, go_sem, execOp, y26, r41, upT]
          exact ⟨hC, Below.refl _ _, rfl⟩
        · intro k a w' hk hC hR
          have r42 : a.tmps[42]?.getD undef = _ := hR 42 (by decide)
          simp [Region.wanted, outOf, go_sem, execOp, r42, upT]
          exact ⟨hC, Below.refl _ _, rfl⟩
        · intro k a w' hk hC hR
          have r43 : a.tmps[43]?.getD undef = _ := hR 43 (by decide)
          have y43 := getD_some r43
          have r3 : a.tmps[3]?.getD undef = _ := hR 3 (by decide)
          rw [if_pos (show Region.wanted _ _ = true by simp [Region.wanted, yielded, y43])]
          exact upT_row 40 (.tmp 3) rfl w1.heap.size ((eval_tmp a 3).trans r3) _ _ _ _ (k3.step hC).out Tryd.underlying40 rfl size_rq hC (Below.refl _ _) rfl
        · intro k a w' hk hC hR
          have r43 : a.tmps[43]?.getD undef = _ := hR 43 (by decide)
          have y43 := getD_some r43
          have r44 : a.tmps[44]?.getD undef = _ := hR 44 (by decide)
          rw [if_pos (show Region.wanted _ _ = true by simp [Region.wanted, yielded, y43])]
          refine upT_call 25 (enters_of Tryd.func25 (by kernel_rfl) rfl) rfl #[.agg (reqA q (.slice A1 q.edits.length c1))] (by simp [eval_tmp, r44]) ((D3.out _ (Rp.req.below HR.out hC (Nat.le_refl _))).mono ?_)
          rintro e w5 ⟨rfl, hb⟩
          exact ⟨_, rfl, Below.then_ hC hb, hb, rfl⟩
        · intro k a w' hk hC hR
          have r43 : a.tmps[43]?.getD undef = _ := hR 43 (by decide)
          have y43 := getD_some r43
          have r3 : a.tmps[3]?.getD undef = _ := hR 3 (by decide)
          rw [if_pos (show Region.wanted _ _ = true by simp [Region.wanted, yielded, y43])]
          exact upT_row 40 (.tmp 3) rfl w1.heap.size ((eval_tmp a 3).trans r3) _ _ _ _ (k3.step hC).out Tryd.underlying40 rfl size_rq hC (Below.refl _ _) rfl
        · intro k a w' hk hC hR
          have r43 : a.tmps[43]?.getD undef = _ := hR 43 (by decide)
          have y43 := getD_some r43
          have r46 : a.tmps[46]?.getD undef = _ := hR 46 (by decide)
          rw [if_pos (show Region.wanted _ _ = true by simp [Region.wanted, yielded, y43])]
          refine upT_call 26 (enters_of Tryd.func26 (by kernel_rfl) rfl) rfl #[.agg (reqA q (.slice A1 q.edits.length c1))] (by simp [eval_tmp, r46]) ((D4.out _ (Rp.req.below HR.out hC (Nat.le_refl _))).mono ?_)
          rintro e w5 ⟨rfl, hb⟩
          exact ⟨_, rfl, Below.then_ hC hb, hb, rfl⟩
        · intro k a w' hk hC hR
          have r43 : a.tmps[43]?.getD undef = _ := hR 43 (by decide)
          have y43 := getD_some r43
          have r45 : a.tmps[45]?.getD undef = _ := hR 45 (by decide)
          have r47 : a.tmps[47]?.getD undef = _ := hR 47 (by decide)
          simp [Region.wanted, yielded, outOf, go_sem, execOp, y43, r45, r47, upT]
          exact ⟨hC, Below.refl _ _, rfl⟩
        · intro k a w' hk hC hR
          have r43 : a.tmps[43]?.getD undef = _ := hR 43 (by decide)
          have y43 := getD_some r43
          have r48 : a.tmps[48]?.getD undef = _ := hR 48 (by decide)
          simp [Region.wanted, outOf, go_sem, execOp, y43, r48, upT]
          exact ⟨hC, Below.refl _ _, rfl⟩
        · intro k a w' hk hC hR
          have r49 : a.tmps[49]?.getD undef = _ := hR 49 (by decide)
          simp [Region.wanted, outOf, go_sem, execOp, r49, upT]
          exact ⟨hC, Below.refl _ _, rfl⟩
        · intro k a w' hk hC hR
          have r50 : a.tmps[50]?.getD undef = _ := hR 50 (by decide)
          have y50 := getD_some r50
          simp [Region.wanted, yielded, outOf, go_sem, execOp, y50, upT]
          exact ⟨hC, Below.refl _ _, rfl⟩
        · intro k a w' hk hC hR
          have r50 : a.tmps[50]?.getD undef = _ := hR 50 (by decide)
          have y50 := getD_some r50
          have r51 : a.tmps[51]?.getD undef = _ := hR 51 (by decide)
          rw [if_pos (show Region.wanted _ _ = true by simp [Region.wanted, yielded, y50])]
          refine upT_call 23 (enters_of Tryd.func23 (by kernel_rfl) rfl) rfl #[.agg #[.int .i64 0, .int .i64 0, .int .i64 0, .int .i64 1, .string ⟨#[]⟩, .string ⟨#[]⟩, .int .i64 0, .int .i64 0, .slice none 0 0, .int .i64 0, .string ⟨#[]⟩, .string ⟨#[]⟩, .bool false, .int .i64 0, .string ⟨#[]⟩]] (by simp [eval_tmp, r51]) ((D6.out _).mono ?_)
          rintro e w5 ⟨rfl, hb⟩
          exact ⟨_, rfl, Below.then_ hC hb, hb, rfl⟩
        · intro k a w' hk hC hR
          have r50 : a.tmps[50]?.getD undef = _ := hR 50 (by decide)
          have y50 := getD_some r50
          have r52 : a.tmps[52]?.getD undef = _ := hR 52 (by decide)
          simp [Region.wanted, outOf, go_sem, execOp, y50, r52, upT]
          exact ⟨hC, Below.refl _ _, rfl⟩
        · intro k a w' hk hC hR
          have r53 : a.tmps[53]?.getD undef = _ := hR 53 (by decide)
          simp [Region.wanted, outOf, go_sem, execOp, r53, upT]
          exact ⟨hC, Below.refl _ _, rfl⟩
      · intro w5 hb5
        simp only [finT]
        intro v16 _ v17 _ v18 _ v19 _ v20 _ v21 _ v22 _ v23 _ v24 _ v25 _ v26 _ v27 _ v28 _ v29 _ v30 _ v31 _ v32 _ v33 _ v34 _ v35 _ v36 _ v37 _ v38 _ v39 _ v40 _ v41 _ v42 _ v43 _ v44 _ v45 _ v46 _ v47 _ v48 _ v49 _ v50 _ v51 _ v52 _ v53 _ v2 h2
        obtain rfl : v2 = .bool true := h2
        have HBB := hide (Below.then_ HB hb5)
        clear hb5 k3 k5 HR D1 D2 D3 D4 D5 D6 HW hbo HFIT HB
        show Exit.then _ _ _ _ _
        simp only [Act.put, List.setIfInBounds_toArray, List.set_cons_zero, List.set_cons_succ]
        go_wp2_with fail
        go_meet
        case rel => exact ⟨rfl, HBB.out⟩
    case rest =>
      obtain ⟨w6, hw6⟩ : ∃ w6, w6 = wc := ⟨_, rfl⟩
      subst hw6
      obtain ⟨rfl, hbe⟩ := hcut
      clear k3 k5 HR D1 D2 D3 D4 D5 D6 HW hbo HFIT HB
      go_wp2
      go_ret
      exact ⟨rfl, hbe⟩

end Go.Proofs.YthopednilgncgaaDoor
