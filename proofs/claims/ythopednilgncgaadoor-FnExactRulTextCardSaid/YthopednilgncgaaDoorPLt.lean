/- FnExactRulText: for every input the law answers true and leaves its arguments as they were. Conditions: the listed library tables read as the tie says. -/
import Derived.Test.YthopednilgncgaaDoorCards
import Derived.Test.YthopednilgncgaaDoorTie
import Derived.Test.YthopednilgncgaaDoorLt
import Derived.Test.YthopednilgncgaaDoorOpen
import Derived.Test.YthopednilgncgaaDoorOpens
import Derived.WalkKit
import Derived.ProofKit
import Derived.OpenShut
import Derived.ChangeMaps5
import Derived.Deep.DeepHandedRow
import Derived.Lib.LaidTab
import Derived.SevenTiedAt
namespace Go.Proofs.YthopednilgncgaaDoor
open Go.ChangeShapes Go.WideShapes Go.ChangeAt Go.RowKit Go.Deep

theorem fnExactRulText_own : ownKnob Tryd.prog.godebug = none := by kernel_rfl
theorem fnExactRulText_laidOut : laidOutB Tryd.prog = true := by kernel_rfl

set_option maxRecDepth 100000 in
theorem fnExactRulText_contract (H : Type) (enc : TypeId × Value → H) (W : World) (base : Nat) (args : Array Value) (ds gs : List (DataW H)) (before : List MemPlace)
    (hval0 : ∀ (j : Nat) t v, Tryd.f7.params[j]? = some t → args[j]? = some v → Value.okWide Tryd.prog W .any base t v)
    (hW : DataW.Whole enc Tryd.prog Tryd.f7.params.toList Rows.fnExactRulTextSpec.vars false W args.toList ds gs before) :
    Calls Tryd.prog 7 args W fun e W' => ∃ v, e = .returned v ∧ Rows.fnExactRulTextSpec.post enc Tryd.prog Tryd.f7 false true false false W args v W' := by
  have hval := hval0
  have hW' := hW
  obtain ⟨p, q, hA0, hV, rfl, hfz, hnd⟩ := hW
  have hA : DataW.TrodAll enc Tryd.prog W 0 (fun _ => true) true Tryd.f7.params.toList args.toList ds p := hA0
  rw [Tryd.params7] at hA hval
  obtain ⟨v0, d0, rfl, rfl, h0⟩ := trodAll_one hA
  obtain ⟨rfl, rfl⟩ := trodVars_none hV
  have h0k := h0
  obtain ⟨cs0, rfl, _⟩ := okWide_struct Tryd.underlying44 (hval 0 44 v0 rfl rfl)
  obtain ⟨fuel0, hf0⟩ := h0
  obtain ⟨x0, fp0, hR0, hw0⟩ := opensRule hf0
  clear hf0
  clear hA0 hval hval0
  simp only [List.append_nil] at hW'
  refine (lawExactRulText W hR0 hw0).mono fun e W' ⟨he, hb⟩ => ?_
  subst he
  have hlt0 : ∀ y ∈ p, y.block < W.heap.size := fun y hy => hW'.lt y (by simp [hy])
  refine ⟨_, rfl, post_of_below (pa := p) (pv := []) hW' (fun _ _ _ => trodAll_mk1 (shut_bool Tryd.underlying4 _)) (fun sp hsp => ?_) (fun _ _ => rfl) (by simp) hb (ok_one (by kernel_rfl) rfl (okWide_bool_mk Tryd.underlying4 _))⟩
  exact trodAll_mk1 (WideElems.Trod_stays fnExactRulText_laidOut (by kernel_rfl) (of_decide_eq_true (by kernel_rfl)) h0k (fun y hy => hb.same (hlt0 y hy)) (fun y hy => hsp y (by simp [hy])))

mutual
def fnExactRulText_flat : DataW Unit → List Value
  | .lit l => [l.value]
  | .agg ps => fnExactRulText_flats ps
  | _ => []
def fnExactRulText_flats : List (DataW Unit) → List Value
  | [] => []
  | d :: r => fnExactRulText_flat d ++ fnExactRulText_flats r
end
/-- A world for the witness: the settled one, the listed tables as their initialisers lay them. -/
noncomputable def fnExactRulText_world (os : Os) : World :=
  { World.holding Tryd.prog os ⟨#[], #[], []⟩ with heap := ((((((World.holding Tryd.prog os ⟨#[], #[], []⟩).heap.modify 6 fun
      | .cells _ t frozen => .cells (fnExactRulText_flat Rows.laid_math_bits_deBruijn32tab).toArray t frozen
      | o => o).modify 7 fun
      | .cells _ t frozen => .cells (fnExactRulText_flat Rows.laid_math_bits_deBruijn64tab).toArray t frozen
      | o => o).modify 1 fun
      | .cells _ t frozen => .cells (fnExactRulText_flat Rows.laid_internal_strconv_uint64pow10).toArray t frozen
      | o => o).modify 5 fun
      | .cells _ t frozen => .cells (fnExactRulText_flat Rows.laid_unicode_utf8_acceptRanges).toArray t frozen
      | o => o).modify 4 fun
      | .cells _ t frozen => .cells (fnExactRulText_flat Rows.laid_unicode_utf8_first).toArray t frozen
      | o => o) }
set_option maxRecDepth 100000 in
theorem fnExactRulText_met (os : Os) : laidMet Tryd.prog Rows.fnExactRulTextRow.laid ((fnExactRulText_world os).forCall (fun _ _ => 0) ⟨#[], #[.agg #[.int .i64 0, .string ByteArray.empty, .string ByteArray.empty, .bool false]], []⟩).memory :=
  laidMet_of_run' 8 (by kernel_rfl) (by kernel_rfl)
theorem fnExactRulText_reads (os : Os) {H : Type} (enc : TypeId × Value → H) : ∃ x, DataW.whole enc Tryd.prog ((fnExactRulText_world os).forCall (fun _ _ => 0) ⟨#[], #[.agg #[.int .i64 0, .string ByteArray.empty, .string ByteArray.empty, .bool false]], []⟩).memory Tryd.f7.params.toList Rows.fnExactRulTextSpec.vars false (#[.agg #[.int .i64 0, .string ByteArray.empty, .string ByteArray.empty, .bool false]] : Array Value).toList 8 = some x :=
  Option.isSome_iff_exists.1 (show (DataW.whole enc Tryd.prog ((fnExactRulText_world os).forCall (fun _ _ => 0) ⟨#[], #[.agg #[.int .i64 0, .string ByteArray.empty, .string ByteArray.empty, .bool false]], []⟩).memory Tryd.f7.params.toList Rows.fnExactRulTextSpec.vars false (#[.agg #[.int .i64 0, .string ByteArray.empty, .string ByteArray.empty, .bool false]] : Array Value).toList 8).isSome = true by kernel_rfl)
set_option maxRecDepth 100000 in
theorem fnExactRulText_lifted (os : Os) (started : os.Started) (H : Type) (enc : TypeId × Value → H) (F : Stop.Interp) :
    ReturnsInHanded {} Tryd.checked os 7 .any ((OpenSpec.ofChange Rows.fnExactRulTextSpec).preRow enc Tryd.prog Tryd.f7 Rows.fnExactRulTextRow.domain false Rows.fnExactRulTextRow.laid) (((OpenSpec.ofChange Rows.fnExactRulTextSpec).at F).post enc Tryd.prog Tryd.f7 false true false false) := by
  obtain ⟨x0, hx⟩ := fnExactRulText_reads os enc
  refine returnsInHanded_of_row (C := Tryd.checked) (s := OpenSpec.ofChange Rows.fnExactRulTextSpec) fnExactRulText_own started (by kernel_rfl) Tryd.func7
    (witness_row_at (enc := enc) (C := Tryd.checked) false (fnExactRulText_world os) #[.agg #[.int .i64 0, .string ByteArray.empty, .string ByteArray.empty, .bool false]] rfl (by kernel_rfl) (by kernel_rfl) (by kernel_rfl)
      (OpenSpec.preRow_of_cond 8 hx (by kernel_rfl) (fun k hk => by cases hk) (by kernel_rfl) (fnExactRulText_met os))) ?_
  intro W base args ds gs before hval hW _ _ _ _ _ _
  exact fnExactRulText_contract H enc W base args ds gs before hval hW
theorem fnExactRulText_said : Rows.FnExactRulTextSaid :=
  OpenClaim.holds_of_cond 7 Tryd.f7 rfl rfl rfl rfl rfl rfl rfl ⟨rfl, rfl, rfl, rfl, rfl⟩ rfl rfl rfl rfl rfl (by kernel_rfl) Tryd.func7 (by kernel_rfl)
    (of_decide_eq_true (by kernel_rfl)) (by unfold Func.isWrapper; first | (rw [if_pos (by decide +kernel)]; kernel_rfl) | (rw [if_neg (by decide +kernel)]; exact ⟨rfl, rfl⟩))
    (fun os started H enc _ F => by rw [OpenClaim.pre_eq_preRow]; exact fnExactRulText_lifted os started H enc F)
theorem fnExactRulText_plain (f : FuncId) (fn : Func) (hf : Tryd.pinned.checked.prog.funcNamed "loop.example/chartulary/laws.FnExactRulText" = some f) (hfn : Tryd.pinned.checked.prog.funcs[f]? = some fn) :
    true = Tryd.pinned.checked.prog.looks [] ∧ ∀ (j : Nat) t, fn.params[j]? = some t → Tryd.pinned.checked.prog.wantsStandIn t = false := by
  obtain rfl : f = 7 := Option.some.inj ((show Tryd.prog.funcNamed "loop.example/chartulary/laws.FnExactRulText" = some 7 by kernel_rfl).symm.trans hf) |>.symm
  obtain rfl : fn = Tryd.f7 := (Option.some.inj (Tryd.func7.symm.trans hfn)).symm
  refine ⟨by kernel_rfl, fun j t ht => ?_⟩
  rw [Tryd.params7] at ht
  have hm := Array.mem_of_getElem? ht
  simp only [List.mem_toArray, List.mem_cons, List.not_mem_nil, or_false] at hm
  rcases hm with rfl
  · exact (show Tryd.prog.wantsStandIn 44 = false by kernel_rfl)
theorem fnExactRulText_holds : Rows.FnExactRulTextCardSaid :=
  Claim7.holds_tied_plain_at .later [] _ _ _ _ fnExactRulText_said (fun _ h => by cases h) (by kernel_rfl) (fun _ h => by cases h) fnExactRulText_row_tie rfl ⟨rfl, rfl⟩ (by kernel_rfl) rfl fnExactRulText_plain (by kernel_rfl)
#print axioms fnExactRulText_holds
end Go.Proofs.YthopednilgncgaaDoor
