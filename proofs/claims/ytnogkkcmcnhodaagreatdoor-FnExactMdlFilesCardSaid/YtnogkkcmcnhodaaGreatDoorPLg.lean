/- FnExactMdlFiles: for every input the law answers true and leaves its arguments as they were. Conditions: the listed library tables read as the tie says. -/
import Derived.Test.YtnogkkcmcnhodaaGreatDoorCards
import Derived.Test.YtnogkkcmcnhodaaGreatDoorTie
import Derived.Test.YtnogkkcmcnhodaaGreatDoorLg
import Derived.Test.YtnogkkcmcnhodaaGreatDoorOpen
import Derived.Test.YtnogkkcmcnhodaaGreatDoorOpens
import Derived.WalkKit
import Derived.ProofKit
import Derived.OpenShut
import Derived.ChangeMaps5
import Derived.Deep.DeepHandedRow
import Derived.Lib.LaidTab
import Derived.SevenTiedAt
namespace Go.Proofs.YtnogkkcmcnhodaaGreatDoor
open Go.ChangeShapes Go.WideShapes Go.ChangeAt Go.RowKit Go.Deep

theorem fnExactMdlFiles_own : ownKnob Tryz.prog.godebug = none := by kernel_rfl
theorem fnExactMdlFiles_laidOut : laidOutB Tryz.prog = true := by kernel_rfl

set_option maxRecDepth 100000 in
theorem fnExactMdlFiles_contract (H : Type) (enc : TypeId × Value → H) (W : World) (base : Nat) (args : Array Value) (ds gs : List (DataW H)) (before : List MemPlace)
    (hval0 : ∀ (j : Nat) t v, Tryz.f4.params[j]? = some t → args[j]? = some v → Value.okWide Tryz.prog W .any base t v)
    (hW : DataW.Whole enc Tryz.prog Tryz.f4.params.toList Rows.fnExactMdlFilesSpec.vars false W args.toList ds gs before) :
    Calls Tryz.prog 4 args W fun e W' => ∃ v, e = .returned v ∧ Rows.fnExactMdlFilesSpec.post enc Tryz.prog Tryz.f4 false true false false W args v W' := by
  have hval := hval0
  have hW' := hW
  obtain ⟨p, q, hA0, hV, rfl, hfz, hnd⟩ := hW
  have hA : DataW.TrodAll enc Tryz.prog W 0 (fun _ => true) true Tryz.f4.params.toList args.toList ds p := hA0
  rw [Tryz.params4] at hA hval
  obtain ⟨v0, vs0, d0, ds0, p0, q0, hargs, rfl, rfl, h0, r0⟩ := trodAll_cons hA
  obtain ⟨v1, vs1, d1, ds1, p1, q1, rfl, rfl, rfl, h1, r1⟩ := trodAll_cons r0
  obtain ⟨v2, vs2, d2, ds2, p2, q2, rfl, rfl, rfl, h2, r2⟩ := trodAll_cons r1
  obtain ⟨v3, vs3, d3, ds3, p3, q3, rfl, rfl, rfl, h3, r3⟩ := trodAll_cons r2
  obtain ⟨rfl, rfl, rfl⟩ := trodAll_nil r3
  obtain rfl : args = #[v0, v1, v2, v3] := by cases args; simp_all
  obtain ⟨rfl, rfl⟩ := trodVars_none hV
  have h0k := h0
  have h1k := h1
  have h2k := h2
  have h3k := h3
  obtain ⟨cs0, rfl, _⟩ := okWide_struct Tryz.underlying25 (hval 0 25 v0 rfl rfl)
  obtain ⟨fuel0, hf0⟩ := h0
  obtain ⟨x0, fp0, hR0, hw0⟩ := opensHouse hf0
  clear hf0
  obtain ⟨x1, rfl, rfl, rfl, hx1⟩ := open_int Tryz.underlying3 (hval 1 3 v1 rfl rfl) h1
  have hx1 : -9223372036854775808 ≤ x1 ∧ x1 ≤ 9223372036854775807 := by simp [Lit.wf, IntKind.min, IntKind.max, IntKind.signed, IntKind.bits] at hx1; omega
  obtain ⟨x2, rfl, rfl, rfl, hx2⟩ := Go.ChangeMaps.open_string Tryz.underlying9 (hval 2 9 v2 rfl rfl) h2
  have hx2 : x2.size ≤ 9223372036854775807 := by unfold maxLen at hx2; omega
  obtain ⟨x3, rfl, rfl, rfl, hx3⟩ := open_int Tryz.underlying3 (hval 3 3 v3 rfl rfl) h3
  have hx3 : -9223372036854775808 ≤ x3 ∧ x3 ≤ 9223372036854775807 := by simp [Lit.wf, IntKind.min, IntKind.max, IntKind.signed, IntKind.bits] at hx3; omega
  clear hA0 hval hval0
  simp only [List.append_nil] at hW'
  refine (lawExactMdlFiles W hR0 hw0 x1 hx1.1 hx1.2 x2 hx2 x3 hx3.1 hx3.2).mono fun e W' ⟨he, hb⟩ => ?_
  subst he
  have hlt0 : ∀ y ∈ p0, y.block < W.heap.size := fun y hy => hW'.lt y (by simp [hy])
  refine ⟨_, rfl, post_of_below (pa := p0 ++ ([] ++ ([] ++ ([] ++ [])))) (pv := []) hW' (fun _ _ _ => trodAll_mk1 (shut_bool Tryz.underlying4 _)) (fun sp hsp => ?_) (fun _ _ => rfl) (by simp) hb (ok_one (by kernel_rfl) rfl (okWide_bool_mk Tryz.underlying4 _))⟩
  exact (trodAll_cons_mk (WideElems.Trod_stays fnExactMdlFiles_laidOut (by kernel_rfl) (of_decide_eq_true (by kernel_rfl)) h0k (fun y hy => hb.same (hlt0 y hy)) (fun y hy => hsp y (by simp [hy]))) (trodAll_cons_mk (WideElems.Trod_stays fnExactMdlFiles_laidOut (by kernel_rfl) (of_decide_eq_true (by kernel_rfl)) h1k (fun y hy => by cases hy) (fun y hy => by cases hy)) (trodAll_cons_mk (WideElems.Trod_stays fnExactMdlFiles_laidOut (by kernel_rfl) (of_decide_eq_true (by kernel_rfl)) h2k (fun y hy => by cases hy) (fun y hy => by cases hy)) (trodAll_cons_mk (WideElems.Trod_stays fnExactMdlFiles_laidOut (by kernel_rfl) (of_decide_eq_true (by kernel_rfl)) h3k (fun y hy => by cases hy) (fun y hy => by cases hy)) trodAll_mk0))))

mutual
def fnExactMdlFiles_flat : DataW Unit → List Value
  | .lit l => [l.value]
  | .agg ps => fnExactMdlFiles_flats ps
  | _ => []
def fnExactMdlFiles_flats : List (DataW Unit) → List Value
  | [] => []
  | d :: r => fnExactMdlFiles_flat d ++ fnExactMdlFiles_flats r
end
/-- A world for the witness: the settled one, the listed tables as their initialisers lay them. -/
noncomputable def fnExactMdlFiles_world (os : Os) : World :=
  { World.holding Tryz.prog os ⟨#[], #[], []⟩ with heap := (((World.holding Tryz.prog os ⟨#[], #[], []⟩).heap.modify 2 fun
      | .cells _ t frozen => .cells (fnExactMdlFiles_flat Rows.laid_unicode_utf8_acceptRanges).toArray t frozen
      | o => o).modify 1 fun
      | .cells _ t frozen => .cells (fnExactMdlFiles_flat Rows.laid_unicode_utf8_first).toArray t frozen
      | o => o) }
set_option maxRecDepth 100000 in
theorem fnExactMdlFiles_met (os : Os) : laidMet Tryz.prog Rows.fnExactMdlFilesRow.laid ((fnExactMdlFiles_world os).forCall (fun _ _ => 0) ⟨#[], #[.agg #[.slice none 0 0, .slice none 0 0, .slice none 0 0], .int .i64 0, .string ByteArray.empty, .int .i64 0], []⟩).memory :=
  laidMet_of_run' 8 (by kernel_rfl) (by kernel_rfl)
theorem fnExactMdlFiles_reads (os : Os) {H : Type} (enc : TypeId × Value → H) : ∃ x, DataW.whole enc Tryz.prog ((fnExactMdlFiles_world os).forCall (fun _ _ => 0) ⟨#[], #[.agg #[.slice none 0 0, .slice none 0 0, .slice none 0 0], .int .i64 0, .string ByteArray.empty, .int .i64 0], []⟩).memory Tryz.f4.params.toList Rows.fnExactMdlFilesSpec.vars false (#[.agg #[.slice none 0 0, .slice none 0 0, .slice none 0 0], .int .i64 0, .string ByteArray.empty, .int .i64 0] : Array Value).toList 8 = some x :=
  Option.isSome_iff_exists.1 (show (DataW.whole enc Tryz.prog ((fnExactMdlFiles_world os).forCall (fun _ _ => 0) ⟨#[], #[.agg #[.slice none 0 0, .slice none 0 0, .slice none 0 0], .int .i64 0, .string ByteArray.empty, .int .i64 0], []⟩).memory Tryz.f4.params.toList Rows.fnExactMdlFilesSpec.vars false (#[.agg #[.slice none 0 0, .slice none 0 0, .slice none 0 0], .int .i64 0, .string ByteArray.empty, .int .i64 0] : Array Value).toList 8).isSome = true by kernel_rfl)
set_option maxRecDepth 100000 in
theorem fnExactMdlFiles_lifted (os : Os) (started : os.Started) (H : Type) (enc : TypeId × Value → H) (F : Stop.Interp) :
    ReturnsInHanded {} Tryz.checked os 4 .any ((OpenSpec.ofChange Rows.fnExactMdlFilesSpec).preRow enc Tryz.prog Tryz.f4 Rows.fnExactMdlFilesRow.domain false Rows.fnExactMdlFilesRow.laid) (((OpenSpec.ofChange Rows.fnExactMdlFilesSpec).at F).post enc Tryz.prog Tryz.f4 false true false false) := by
  obtain ⟨x0, hx⟩ := fnExactMdlFiles_reads os enc
  refine returnsInHanded_of_row (C := Tryz.checked) (s := OpenSpec.ofChange Rows.fnExactMdlFilesSpec) fnExactMdlFiles_own started (by kernel_rfl) Tryz.func4
    (witness_row_at (enc := enc) (C := Tryz.checked) false (fnExactMdlFiles_world os) #[.agg #[.slice none 0 0, .slice none 0 0, .slice none 0 0], .int .i64 0, .string ByteArray.empty, .int .i64 0] rfl (by kernel_rfl) (by kernel_rfl) (by kernel_rfl)
      (OpenSpec.preRow_of_cond 8 hx (by kernel_rfl) (fun k hk => by cases hk) (by kernel_rfl) (fnExactMdlFiles_met os))) ?_
  intro W base args ds gs before hval hW _ _ _ _ _ _
  exact fnExactMdlFiles_contract H enc W base args ds gs before hval hW
theorem fnExactMdlFiles_said : Rows.FnExactMdlFilesSaid :=
  OpenClaim.holds_of_cond 4 Tryz.f4 rfl rfl rfl rfl rfl rfl rfl ⟨rfl, rfl, rfl, rfl, rfl⟩ rfl rfl rfl rfl rfl (by kernel_rfl) Tryz.func4 (by kernel_rfl)
    (of_decide_eq_true (by kernel_rfl)) (by unfold Func.isWrapper; first | (rw [if_pos (by decide +kernel)]; kernel_rfl) | (rw [if_neg (by decide +kernel)]; exact ⟨rfl, rfl⟩))
    (fun os started H enc _ F => by rw [OpenClaim.pre_eq_preRow]; exact fnExactMdlFiles_lifted os started H enc F)
theorem fnExactMdlFiles_plain (f : FuncId) (fn : Func) (hf : Tryz.pinned.checked.prog.funcNamed "loop.example/chartulary/laws.FnExactMdlFiles" = some f) (hfn : Tryz.pinned.checked.prog.funcs[f]? = some fn) :
    false = Tryz.pinned.checked.prog.looks [] ∧ ∀ (j : Nat) t, fn.params[j]? = some t → Tryz.pinned.checked.prog.wantsStandIn t = false := by
  obtain rfl : f = 4 := Option.some.inj ((show Tryz.prog.funcNamed "loop.example/chartulary/laws.FnExactMdlFiles" = some 4 by kernel_rfl).symm.trans hf) |>.symm
  obtain rfl : fn = Tryz.f4 := (Option.some.inj (Tryz.func4.symm.trans hfn)).symm
  refine ⟨by kernel_rfl, fun j t ht => ?_⟩
  rw [Tryz.params4] at ht
  have hm := Array.mem_of_getElem? ht
  simp only [List.mem_toArray, List.mem_cons, List.not_mem_nil, or_false] at hm
  rcases hm with rfl | rfl | rfl | rfl
  · exact (show Tryz.prog.wantsStandIn 25 = false by kernel_rfl)
  · exact (show Tryz.prog.wantsStandIn 3 = false by kernel_rfl)
  · exact (show Tryz.prog.wantsStandIn 9 = false by kernel_rfl)
  · exact (show Tryz.prog.wantsStandIn 3 = false by kernel_rfl)
theorem fnExactMdlFiles_holds : Rows.FnExactMdlFilesCardSaid :=
  Claim7.holds_tied_plain_at .later [] _ _ _ _ fnExactMdlFiles_said (fun _ h => by cases h) (by kernel_rfl) (fun _ h => by cases h) fnExactMdlFiles_row_tie rfl ⟨rfl, rfl⟩ (by kernel_rfl) rfl fnExactMdlFiles_plain (by kernel_rfl)
#print axioms fnExactMdlFiles_holds
end Go.Proofs.YtnogkkcmcnhodaaGreatDoor
