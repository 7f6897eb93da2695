/- FnReqWrites: for every input the law answers true and leaves its arguments as they were. Conditions: the listed library tables read as the tie says. -/
import Derived.Test.YthopednilgncgaaDoorCards
import Derived.Test.YthopednilgncgaaDoorTie
import Derived.Test.YthopednilgncgaaDoorDq
import Derived.Test.YthopednilgncgaaDoorOpen
import Derived.Test.YthopednilgncgaaDoorOpens
import Derived.WalkKit
import Derived.ProofKit
import Derived.OpenShut
import Derived.ChangeMaps5
import Derived.Deep.DeepHandedRow
import Derived.Lib.LaidTab
import Derived.SevenTiedAt
namespace Go.Proofs.YthopednilgncgaaDoor
open Go.ChangeShapes Go.WideShapes Go.ChangeAt Go.RowKit Go.Deep

theorem fnReqWrites_own : ownKnob Tryd.prog.godebug = none := by kernel_rfl
theorem fnReqWrites_laidOut : laidOutB Tryd.prog = true := by kernel_rfl

set_option maxRecDepth 100000 in
theorem fnReqWrites_contract (H : Type) (enc : TypeId × Value → H) (W : World) (base : Nat) (args : Array Value) (ds gs : List (DataW H)) (before : List MemPlace)
    (hval0 : ∀ (j : Nat) t v, Tryd.f5.params[j]? = some t → args[j]? = some v → Value.okWide Tryd.prog W .any base t v)
    (hW : DataW.Whole enc Tryd.prog Tryd.f5.params.toList Rows.fnReqWritesSpec.vars false W args.toList ds gs before) :
    Calls Tryd.prog 5 args W fun e W' => ∃ v, e = .returned v ∧ Rows.fnReqWritesSpec.post enc Tryd.prog Tryd.f5 false true false false W args v W' := by
  have hval := hval0
  have hW' := hW
  obtain ⟨p, q, hA0, hV, rfl, hfz, hnd⟩ := hW
  have hA : DataW.TrodAll enc Tryd.prog W 0 (fun _ => true) true Tryd.f5.params.toList args.toList ds p := hA0
  rw [Tryd.params5] at hA hval
  obtain ⟨v0, d0, rfl, rfl, h0⟩ := trodAll_one hA
  obtain ⟨rfl, rfl⟩ := trodVars_none hV
  have h0k := h0
  obtain ⟨a0, len0, cap0, rfl⟩ := okWide_slice Tryd.underlying22 (hval 0 22 v0 rfl rfl)
  obtain ⟨fuel0, hf0⟩ := h0
  obtain ⟨l0, fp0, ⟨A0, n0, c0, hcs0, hs0⟩, hw0⟩ := opens_slice Tryd.underlying22 (by kernel_rfl) (by decide) (opens_byte Tryd.underlying5) hf0
  have hc0 : Value.slice a0 len0 cap0 = .slice A0 n0 c0 := by simpa [Value.cells] using hcs0
  rw [hc0] at h0k hW' ⊢
  clear hf0 hcs0 hc0
  clear hA0 hval hval0
  simp only [List.append_nil] at hW'
  refine (lawReqWrites W hs0).mono fun e W' ⟨he, hb⟩ => ?_
  subst he
  have hlt0 : ∀ y ∈ p, y.block < W.heap.size := fun y hy => hW'.lt y (by simp [hy])
  refine ⟨_, rfl, post_of_below (pa := p) (pv := []) hW' (fun _ _ _ => trodAll_mk1 (shut_bool Tryd.underlying4 _)) (fun sp hsp => ?_) (fun _ _ => rfl) (by simp) hb (ok_one (by kernel_rfl) rfl (okWide_bool_mk Tryd.underlying4 _))⟩
  exact trodAll_mk1 (WideElems.Trod_stays fnReqWrites_laidOut (by kernel_rfl) (of_decide_eq_true (by kernel_rfl)) h0k (fun y hy => hb.same (hlt0 y hy)) (fun y hy => hsp y (by simp [hy])))

mutual
def fnReqWrites_flat : DataW Unit → List Value
  | .lit l => [l.value]
  | .agg ps => fnReqWrites_flats ps
  | _ => []
def fnReqWrites_flats : List (DataW Unit) → List Value
  | [] => []
  | d :: r => fnReqWrites_flat d ++ fnReqWrites_flats r
end
/-- A world for the witness: the settled one, the listed tables as their initialisers lay them. -/
noncomputable def fnReqWrites_world (os : Os) : World :=
  { World.holding Tryd.prog os ⟨#[], #[], []⟩ with heap := (((World.holding Tryd.prog os ⟨#[], #[], []⟩).heap.modify 5 fun
      | .cells _ t frozen => .cells (fnReqWrites_flat Rows.laid_unicode_utf8_acceptRanges).toArray t frozen
      | o => o).modify 4 fun
      | .cells _ t frozen => .cells (fnReqWrites_flat Rows.laid_unicode_utf8_first).toArray t frozen
      | o => o) }
set_option maxRecDepth 100000 in
theorem fnReqWrites_met (os : Os) : laidMet Tryd.prog Rows.fnReqWritesRow.laid ((fnReqWrites_world os).forCall (fun _ _ => 0) ⟨#[], #[.slice none 0 0], []⟩).memory :=
  laidMet_of_run' 8 (by kernel_rfl) (by kernel_rfl)
theorem fnReqWrites_reads (os : Os) {H : Type} (enc : TypeId × Value → H) : ∃ x, DataW.whole enc Tryd.prog ((fnReqWrites_world os).forCall (fun _ _ => 0) ⟨#[], #[.slice none 0 0], []⟩).memory Tryd.f5.params.toList Rows.fnReqWritesSpec.vars false (#[.slice none 0 0] : Array Value).toList 8 = some x :=
  Option.isSome_iff_exists.1 (show (DataW.whole enc Tryd.prog ((fnReqWrites_world os).forCall (fun _ _ => 0) ⟨#[], #[.slice none 0 0], []⟩).memory Tryd.f5.params.toList Rows.fnReqWritesSpec.vars false (#[.slice none 0 0] : Array Value).toList 8).isSome = true by kernel_rfl)
set_option maxRecDepth 100000 in
theorem fnReqWrites_lifted (os : Os) (started : os.Started) (H : Type) (enc : TypeId × Value → H) (F : Stop.Interp) :
    ReturnsInHanded {} Tryd.checked os 5 .any ((OpenSpec.ofChange Rows.fnReqWritesSpec).preRow enc Tryd.prog Tryd.f5 Rows.fnReqWritesRow.domain false Rows.fnReqWritesRow.laid) (((OpenSpec.ofChange Rows.fnReqWritesSpec).at F).post enc Tryd.prog Tryd.f5 false true false false) := by
  obtain ⟨x0, hx⟩ := fnReqWrites_reads os enc
  refine returnsInHanded_of_row (C := Tryd.checked) (s := OpenSpec.ofChange Rows.fnReqWritesSpec) fnReqWrites_own started (by kernel_rfl) Tryd.func5
    (witness_row_at (enc := enc) (C := Tryd.checked) false (fnReqWrites_world os) #[.slice none 0 0] rfl (by kernel_rfl) (by kernel_rfl) (by kernel_rfl)
      (OpenSpec.preRow_of_cond 8 hx (by kernel_rfl) (fun k hk => by cases hk) (by kernel_rfl) (fnReqWrites_met os))) ?_
  intro W base args ds gs before hval hW _ _ _ _ _ _
  exact fnReqWrites_contract H enc W base args ds gs before hval hW
theorem fnReqWrites_said : Rows.FnReqWritesSaid :=
  OpenClaim.holds_of_cond 5 Tryd.f5 rfl rfl rfl rfl rfl rfl rfl ⟨rfl, rfl, rfl, rfl, rfl⟩ rfl rfl rfl rfl rfl (by kernel_rfl) Tryd.func5 (by kernel_rfl)
    (of_decide_eq_true (by kernel_rfl)) (by unfold Func.isWrapper; first | (rw [if_pos (by decide +kernel)]; kernel_rfl) | (rw [if_neg (by decide +kernel)]; exact ⟨rfl, rfl⟩))
    (fun os started H enc _ F => by rw [OpenClaim.pre_eq_preRow]; exact fnReqWrites_lifted os started H enc F)
theorem fnReqWrites_plain (f : FuncId) (fn : Func) (hf : Tryd.pinned.checked.prog.funcNamed "loop.example/chartulary/laws.FnReqWrites" = some f) (hfn : Tryd.pinned.checked.prog.funcs[f]? = some fn) :
    true = Tryd.pinned.checked.prog.looks [] ∧ ∀ (j : Nat) t, fn.params[j]? = some t → Tryd.pinned.checked.prog.wantsStandIn t = false := by
  obtain rfl : f = 5 := Option.some.inj ((show Tryd.prog.funcNamed "loop.example/chartulary/laws.FnReqWrites" = some 5 by kernel_rfl).symm.trans hf) |>.symm
  obtain rfl : fn = Tryd.f5 := (Option.some.inj (Tryd.func5.symm.trans hfn)).symm
  refine ⟨by kernel_rfl, fun j t ht => ?_⟩
  rw [Tryd.params5] at ht
  have hm := Array.mem_of_getElem? ht
  simp only [List.mem_toArray, List.mem_cons, List.not_mem_nil, or_false] at hm
  rcases hm with rfl
  · exact (show Tryd.prog.wantsStandIn 22 = false by kernel_rfl)
theorem fnReqWrites_holds : Rows.FnReqWritesCardSaid :=
  Claim7.holds_tied_plain_at .later [] _ _ _ _ fnReqWrites_said (fun _ h => by cases h) (by kernel_rfl) (fun _ h => by cases h) fnReqWrites_row_tie rfl ⟨rfl, rfl⟩ (by kernel_rfl) rfl fnReqWrites_plain (by kernel_rfl)
#print axioms fnReqWrites_holds
end Go.Proofs.YthopednilgncgaaDoor
