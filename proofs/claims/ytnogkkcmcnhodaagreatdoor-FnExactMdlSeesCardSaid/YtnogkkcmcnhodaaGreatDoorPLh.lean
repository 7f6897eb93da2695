/- FnExactMdlSees: for every input the law answers true and leaves its arguments as they were. Conditions: the listed library tables read as the tie says. -/
import Derived.Test.YtnogkkcmcnhodaaGreatDoorCards
import Derived.Test.YtnogkkcmcnhodaaGreatDoorTie
import Derived.Test.YtnogkkcmcnhodaaGreatDoorLh
import Derived.Test.YtnogkkcmcnhodaaGreatDoorOpen
import Derived.Test.YtnogkkcmcnhodaaGreatDoorOpens
import Derived.WalkKit
import Derived.ProofKit
import Derived.OpenShut
import Derived.ChangeMaps5
import Derived.Deep.DeepHandedRow
import Derived.Lib.LaidTab
import Derived.SevenTiedAt
namespace Go.Proofs.YtnogkkcmcnhodaaGreatDoor
open Go.ChangeShapes Go.WideShapes Go.ChangeAt Go.RowKit Go.Deep

theorem fnExactMdlSees_own : ownKnob Tryz.prog.godebug = none := by kernel_rfl
theorem fnExactMdlSees_laidOut : laidOutB Tryz.prog = true := by kernel_rfl

set_option maxRecDepth 100000 in
theorem fnExactMdlSees_contract (H : Type) (enc : TypeId × Value → H) (W : World) (base : Nat) (args : Array Value) (ds gs : List (DataW H)) (before : List MemPlace)
    (hval0 : ∀ (j : Nat) t v, Tryz.f5.params[j]? = some t → args[j]? = some v → Value.okWide Tryz.prog W .any base t v)
    (hW : DataW.Whole enc Tryz.prog Tryz.f5.params.toList Rows.fnExactMdlSeesSpec.vars false W args.toList ds gs before) :
    Calls Tryz.prog 5 args W fun e W' => ∃ v, e = .returned v ∧ Rows.fnExactMdlSeesSpec.post enc Tryz.prog Tryz.f5 false true false false W args v W' := by
  have hval := hval0
  have hW' := hW
  obtain ⟨p, q, hA0, hV, rfl, hfz, hnd⟩ := hW
  have hA : DataW.TrodAll enc Tryz.prog W 0 (fun _ => true) true Tryz.f5.params.toList args.toList ds p := hA0
  rw [Tryz.params5] at hA hval
  obtain ⟨v0, vs0, d0, ds0, p0, q0, hargs, rfl, rfl, h0, r0⟩ := trodAll_cons hA
  obtain ⟨v1, vs1, d1, ds1, p1, q1, rfl, rfl, rfl, h1, r1⟩ := trodAll_cons r0
  obtain ⟨v2, vs2, d2, ds2, p2, q2, rfl, rfl, rfl, h2, r2⟩ := trodAll_cons r1
  obtain ⟨v3, vs3, d3, ds3, p3, q3, rfl, rfl, rfl, h3, r3⟩ := trodAll_cons r2
  obtain ⟨v4, vs4, d4, ds4, p4, q4, rfl, rfl, rfl, h4, r4⟩ := trodAll_cons r3
  obtain ⟨rfl, rfl, rfl⟩ := trodAll_nil r4
  obtain rfl : args = #[v0, v1, v2, v3, v4] := by cases args; simp_all
  obtain ⟨rfl, rfl⟩ := trodVars_none hV
  have h0k := h0
  have h1k := h1
  have h2k := h2
  have h3k := h3
  have h4k := h4
  obtain ⟨cs0, rfl, _⟩ := okWide_struct Tryz.underlying25 (hval 0 25 v0 rfl rfl)
  obtain ⟨fuel0, hf0⟩ := h0
  obtain ⟨x0, fp0, hR0, hw0⟩ := opensHouse hf0
  clear hf0
  obtain ⟨x1, rfl, rfl, rfl, hx1⟩ := open_int Tryz.underlying3 (hval 1 3 v1 rfl rfl) h1
  have hx1 : -9223372036854775808 ≤ x1 ∧ x1 ≤ 9223372036854775807 := by simp [Lit.wf, IntKind.min, IntKind.max, IntKind.signed, IntKind.bits] at hx1; omega
  obtain ⟨x2, rfl, rfl, rfl, hx2⟩ := open_int Tryz.underlying3 (hval 2 3 v2 rfl rfl) h2
  have hx2 : -9223372036854775808 ≤ x2 ∧ x2 ≤ 9223372036854775807 := by simp [Lit.wf, IntKind.min, IntKind.max, IntKind.signed, IntKind.bits] at hx2; omega
  obtain ⟨x3, rfl, rfl, rfl, hx3⟩ := Go.ChangeMaps.open_string Tryz.underlying9 (hval 3 9 v3 rfl rfl) h3
  have hx3 : x3.size ≤ 9223372036854775807 := by unfold maxLen at hx3; omega
  obtain ⟨x4, rfl, rfl, rfl, hx4⟩ := open_int Tryz.underlying3 (hval 4 3 v4 rfl rfl) h4
  have hx4 : -9223372036854775808 ≤ x4 ∧ x4 ≤ 9223372036854775807 := by simp [Lit.wf, IntKind.min, IntKind.max, IntKind.signed, IntKind.bits] at hx4; omega
  clear hA0 hval hval0
  simp only [List.append_nil] at hW'
  refine (lawExactMdlSees W hR0 hw0 x1 hx1.1 hx1.2 x2 hx2.1 hx2.2 x3 hx3 x4 hx4.1 hx4.2).mono fun e W' ⟨he, hb⟩ => ?_
  subst he
  have hlt0 : ∀ y ∈ p0, y.block < W.heap.size := fun y hy => hW'.lt y (by simp [hy])
  refine ⟨_, rfl, post_of_below (pa := p0 ++ ([] ++ ([] ++ ([] ++ ([] ++ []))))) (pv := []) hW' (fun _ _ _ => trodAll_mk1 (shut_bool Tryz.underlying4 _)) (fun sp hsp => ?_) (fun _ _ => rfl) (by simp) hb (ok_one (by kernel_rfl) rfl (okWide_bool_mk Tryz.underlying4 _))⟩
  exact (trodAll_cons_mk (WideElems.Trod_stays fnExactMdlSees_laidOut (by kernel_rfl) (of_decide_eq_true (by kernel_rfl)) h0k (fun y hy => hb.same (hlt0 y hy)) (fun y hy => hsp y (by simp [hy]))) (trodAll_cons_mk (WideElems.Trod_stays fnExactMdlSees_laidOut (by kernel_rfl) (of_decide_eq_true (by kernel_rfl)) h1k (fun y hy => by cases hy) (fun y hy => by cases hy)) (trodAll_cons_mk (WideElems.Trod_stays fnExactMdlSees_laidOut (by kernel_rfl) (of_decide_eq_true (by kernel_rfl)) h2k (fun y hy => by cases hy) (fun y hy => by cases hy)) (trodAll_cons_mk (WideElems.Trod_stays fnExactMdlSees_laidOut (by kernel_rfl) (of_decide_eq_true (by kernel_rfl)) h3k (fun y hy => by cases hy) (fun y hy => by cases hy)) (trodAll_cons_mk (WideElems.Trod_stays fnExactMdlSees_laidOut (by kernel_rfl) (of_decide_eq_true (by kernel_rfl)) h4k (fun y hy => by cases hy) (fun y hy => by cases hy)) trodAll_mk0)))))

mutual
def fnExactMdlSees_flat : DataW Unit → List Value
  | .lit l => [l.value]
  | .agg ps => fnExactMdlSees_flats ps
  | _ => []
def fnExactMdlSees_flats : List (DataW Unit) → List Value
  | [] => []
  | d :: r => fnExactMdlSees_flat d ++ fnExactMdlSees_flats r
end
/-- A world for the witness: the settled one, the listed tables as their initialisers lay them. -/
noncomputable def fnExactMdlSees_world (os : Os) : World :=
  { World.holding Tryz.prog os ⟨#[], #[], []⟩ with heap := (((World.holding Tryz.prog os ⟨#[], #[], []⟩).heap.modify 2 fun
      | .cells _ t frozen => .cells (fnExactMdlSees_flat Rows.laid_unicode_utf8_acceptRanges).toArray t frozen
      | o => o).modify 1 fun
      | .cells _ t frozen => .cells (fnExactMdlSees_flat Rows.laid_unicode_utf8_first).toArray t frozen
      | o => o) }
set_option maxRecDepth 100000 in
theorem fnExactMdlSees_met (os : Os) : laidMet Tryz.prog Rows.fnExactMdlSeesRow.laid ((fnExactMdlSees_world os).forCall (fun _ _ => 0) ⟨#[], #[.agg #[.slice none 0 0, .slice none 0 0, .slice none 0 0], .int .i64 0, .int .i64 0, .string ByteArray.empty, .int .i64 0], []⟩).memory :=
  laidMet_of_run' 8 (by kernel_rfl) (by kernel_rfl)
theorem fnExactMdlSees_reads (os : Os) {H : Type} (enc : TypeId × Value → H) : ∃ x, DataW.whole enc Tryz.prog ((fnExactMdlSees_world os).forCall (fun _ _ => 0) ⟨#[], #[.agg #[.slice none 0 0, .slice none 0 0, .slice none 0 0], .int .i64 0, .int .i64 0, .string ByteArray.empty, .int .i64 0], []⟩).memory Tryz.f5.params.toList Rows.fnExactMdlSeesSpec.vars false (#[.agg #[.slice none 0 0, .slice none 0 0, .slice none 0 0], .int .i64 0, .int .i64 0, .string ByteArray.empty, .int .i64 0] : Array Value).toList 8 = some x :=
  Option.isSome_iff_exists.1 (show (DataW.whole enc Tryz.prog ((fnExactMdlSees_world os).forCall (fun _ _ => 0) ⟨#[], #[.agg #[.slice none 0 0, .slice none 0 0, .slice none 0 0], .int .i64 0, .int .i64 0, .string ByteArray.empty, .int .i64 0], []⟩).memory Tryz.f5.params.toList Rows.fnExactMdlSeesSpec.vars false (#[.agg #[.slice none 0 0, .slice none 0 0, .slice none 0 0], .int .i64 0, .int .i64 0, .string ByteArray.empty, .int .i64 0] : Array Value).toList 8).isSome = true by kernel_rfl)
set_option maxRecDepth 100000 in
theorem fnExactMdlSees_lifted (os : Os) (started : os.Started) (H : Type) (enc : TypeId × Value → H) (F : Stop.Interp) :
    ReturnsInHanded {} Tryz.checked os 5 .any ((OpenSpec.ofChange Rows.fnExactMdlSeesSpec).preRow enc Tryz.prog Tryz.f5 Rows.fnExactMdlSeesRow.domain false Rows.fnExactMdlSeesRow.laid) (((OpenSpec.ofChange Rows.fnExactMdlSeesSpec).at F).post enc Tryz.prog Tryz.f5 false true false false) := by
  obtain ⟨x0, hx⟩ := fnExactMdlSees_reads os enc
  refine returnsInHanded_of_row (C := Tryz.checked) (s := OpenSpec.ofChange Rows.fnExactMdlSeesSpec) fnExactMdlSees_own started (by kernel_rfl) Tryz.func5
    (witness_row_at (enc := enc) (C := Tryz.checked) false (fnExactMdlSees_world os) #[.agg #[.slice none 0 0, .slice none 0 0, .slice none 0 0], .int .i64 0, .int .i64 0, .string ByteArray.empty, .int .i64 0] rfl (by kernel_rfl) (by kernel_rfl) (by kernel_rfl)
      (OpenSpec.preRow_of_cond 8 hx (by kernel_rfl) (fun k hk => by cases hk) (by kernel_rfl) (fnExactMdlSees_met os))) ?_
  intro W base args ds gs before hval hW _ _ _ _ _ _
  exact fnExactMdlSees_contract H enc W base args ds gs before hval hW
theorem fnExactMdlSees_said : Rows.FnExactMdlSeesSaid :=
  OpenClaim.holds_of_cond 5 Tryz.f5 rfl rfl rfl rfl rfl rfl rfl ⟨rfl, rfl, rfl, rfl, rfl⟩ rfl rfl rfl rfl rfl (by kernel_rfl) Tryz.func5 (by kernel_rfl)
    (of_decide_eq_true (by kernel_rfl)) (by unfold Func.isWrapper; first | (rw [if_pos (by decide +kernel)]; kernel_rfl) | (rw [if_neg (by decide +kernel)]; exact ⟨rfl, rfl⟩))
    (fun os started H enc _ F => by rw [OpenClaim.pre_eq_preRow]; exact fnExactMdlSees_lifted os started H enc F)
theorem fnExactMdlSees_plain (f : FuncId) (fn : Func) (hf : Tryz.pinned.checked.prog.funcNamed "loop.example/chartulary/laws.FnExactMdlSees" = some f) (hfn : Tryz.pinned.checked.prog.funcs[f]? = some fn) :
    false = Tryz.pinned.checked.prog.looks [] ∧ ∀ (j : Nat) t, fn.params[j]? = some t → Tryz.pinned.checked.prog.wantsStandIn t = false := by
  obtain rfl : f = 5 := Option.some.inj ((show Tryz.prog.funcNamed "loop.example/chartulary/laws.FnExactMdlSees" = some 5 by kernel_rfl).symm.trans hf) |>.symm
  obtain rfl : fn = Tryz.f5 := (Option.some.inj (Tryz.func5.symm.trans hfn)).symm
  refine ⟨by kernel_rfl, fun j t ht => ?_⟩
  rw [Tryz.params5] at ht
  have hm := Array.mem_of_getElem? ht
  simp only [List.mem_toArray, List.mem_cons, List.not_mem_nil, or_false] at hm
  rcases hm with rfl | rfl | rfl | rfl | rfl
  · exact (show Tryz.prog.wantsStandIn 25 = false by kernel_rfl)
  · exact (show Tryz.prog.wantsStandIn 3 = false by kernel_rfl)
  · exact (show Tryz.prog.wantsStandIn 3 = false by kernel_rfl)
  · exact (show Tryz.prog.wantsStandIn 9 = false by kernel_rfl)
  · exact (show Tryz.prog.wantsStandIn 3 = false by kernel_rfl)
theorem fnExactMdlSees_holds : Rows.FnExactMdlSeesCardSaid :=
  Claim7.holds_tied_plain_at .later [] _ _ _ _ fnExactMdlSees_said (fun _ h => by cases h) (by kernel_rfl) (fun _ h => by cases h) fnExactMdlSees_row_tie rfl ⟨rfl, rfl⟩ (by kernel_rfl) rfl fnExactMdlSees_plain (by kernel_rfl)
#print axioms fnExactMdlSees_holds
end Go.Proofs.YtnogkkcmcnhodaaGreatDoor
