/- FnExactMdlOk: for every input the law answers true and leaves its arguments as they were. Conditions: the listed library tables read as the tie says. -/
import Derived.Test.YtnogkkcmcnhodaaDoorCards
import Derived.Test.YtnogkkcmcnhodaaDoorTie
import Derived.Test.YtnogkkcmcnhodaaDoorLe
import Derived.Test.YtnogkkcmcnhodaaDoorOpen
import Derived.Test.YtnogkkcmcnhodaaDoorOpens
import Derived.WalkKit
import Derived.ProofKit
import Derived.OpenShut
import Derived.Deep.DeepHandedRow
import Derived.Lib.LaidTab
import Derived.SevenTiedAt
namespace Go.Proofs.YtnogkkcmcnhodaaDoor
open Go.ChangeShapes Go.WideShapes Go.ChangeAt Go.RowKit Go.Deep

theorem fnExactMdlOk_own : ownKnob Tryd.prog.godebug = none := by kernel_rfl
theorem fnExactMdlOk_laidOut : laidOutB Tryd.prog = true := by kernel_rfl

set_option maxRecDepth 100000 in
theorem fnExactMdlOk_contract (H : Type) (enc : TypeId × Value → H) (W : World) (base : Nat) (args : Array Value) (ds gs : List (DataW H)) (before : List MemPlace)
    (hval0 : ∀ (j : Nat) t v, Tryd.f4.params[j]? = some t → args[j]? = some v → Value.okWide Tryd.prog W .any base t v)
    (hW : DataW.Whole enc Tryd.prog Tryd.f4.params.toList Rows.fnExactMdlOkSpec.vars false W args.toList ds gs before) :
    Calls Tryd.prog 4 args W fun e W' => ∃ v, e = .returned v ∧ Rows.fnExactMdlOkSpec.post enc Tryd.prog Tryd.f4 false true false false W args v W' := by
  have hval := hval0
  have hW' := hW
  obtain ⟨p, q, hA0, hV, rfl, hfz, hnd⟩ := hW
  have hA : DataW.TrodAll enc Tryd.prog W 0 (fun _ => true) true Tryd.f4.params.toList args.toList ds p := hA0
  rw [Tryd.params4] at hA hval
  obtain ⟨v0, d0, rfl, rfl, h0⟩ := trodAll_one hA
  obtain ⟨rfl, rfl⟩ := trodVars_none hV
  have h0k := h0
  obtain ⟨cs0, rfl, _⟩ := okWide_struct Tryd.underlying34 (hval 0 34 v0 rfl rfl)
  obtain ⟨fuel0, hf0⟩ := h0
  obtain ⟨x0, fp0, hR0, hw0⟩ := opensHouse hf0
  clear hf0
  clear hA0 hval hval0
  simp only [List.append_nil] at hW'
  refine (lawExactMdlOk W hR0 hw0).mono fun e W' ⟨he, hb⟩ => ?_
  subst he
  have hlt0 : ∀ y ∈ p, y.block < W.heap.size := fun y hy => hW'.lt y (by simp [hy])
  refine ⟨_, rfl, post_of_below (pa := p) (pv := []) hW' (fun _ _ _ => trodAll_mk1 (shut_bool Tryd.underlying4 _)) (fun sp hsp => ?_) (fun _ _ => rfl) (by simp) hb (ok_one (by kernel_rfl) rfl (okWide_bool_mk Tryd.underlying4 _))⟩
  exact trodAll_mk1 (WideElems.Trod_stays fnExactMdlOk_laidOut (by kernel_rfl) (of_decide_eq_true (by kernel_rfl)) h0k (fun y hy => hb.same (hlt0 y hy)) (fun y hy => hsp y (by simp [hy])))

mutual
def fnExactMdlOk_flat : DataW Unit → List Value
  | .lit l => [l.value]
  | .agg ps => fnExactMdlOk_flats ps
  | _ => []
def fnExactMdlOk_flats : List (DataW Unit) → List Value
  | [] => []
  | d :: r => fnExactMdlOk_flat d ++ fnExactMdlOk_flats r
end
/-- A world for the witness: the settled one, the listed tables as their initialisers lay them. -/
noncomputable def fnExactMdlOk_world (os : Os) : World :=
  { World.holding Tryd.prog os ⟨#[], #[], []⟩ with heap := (((World.holding Tryd.prog os ⟨#[], #[], []⟩).heap.modify 2 fun
      | .cells _ t frozen => .cells (fnExactMdlOk_flat Rows.laid_unicode_utf8_acceptRanges).toArray t frozen
      | o => o).modify 1 fun
      | .cells _ t frozen => .cells (fnExactMdlOk_flat Rows.laid_unicode_utf8_first).toArray t frozen
      | o => o) }
set_option maxRecDepth 100000 in
theorem fnExactMdlOk_met (os : Os) : laidMet Tryd.prog Rows.fnExactMdlOkRow.laid ((fnExactMdlOk_world os).forCall (fun _ _ => 0) ⟨#[], #[.agg #[.slice none 0 0, .slice none 0 0, .slice none 0 0]], []⟩).memory :=
  laidMet_of_run' 8 (by kernel_rfl) (by kernel_rfl)
theorem fnExactMdlOk_reads (os : Os) {H : Type} (enc : TypeId × Value → H) : ∃ x, DataW.whole enc Tryd.prog ((fnExactMdlOk_world os).forCall (fun _ _ => 0) ⟨#[], #[.agg #[.slice none 0 0, .slice none 0 0, .slice none 0 0]], []⟩).memory Tryd.f4.params.toList Rows.fnExactMdlOkSpec.vars false (#[.agg #[.slice none 0 0, .slice none 0 0, .slice none 0 0]] : Array Value).toList 8 = some x :=
  Option.isSome_iff_exists.1 (show (DataW.whole enc Tryd.prog ((fnExactMdlOk_world os).forCall (fun _ _ => 0) ⟨#[], #[.agg #[.slice none 0 0, .slice none 0 0, .slice none 0 0]], []⟩).memory Tryd.f4.params.toList Rows.fnExactMdlOkSpec.vars false (#[.agg #[.slice none 0 0, .slice none 0 0, .slice none 0 0]] : Array Value).toList 8).isSome = true by kernel_rfl)
set_option maxRecDepth 100000 in
theorem fnExactMdlOk_lifted (os : Os) (started : os.Started) (H : Type) (enc : TypeId × Value → H) (F : Stop.Interp) :
    ReturnsInHanded {} Tryd.checked os 4 .any ((OpenSpec.ofChange Rows.fnExactMdlOkSpec).preRow enc Tryd.prog Tryd.f4 Rows.fnExactMdlOkRow.domain false Rows.fnExactMdlOkRow.laid) (((OpenSpec.ofChange Rows.fnExactMdlOkSpec).at F).post enc Tryd.prog Tryd.f4 false true false false) := by
  obtain ⟨x0, hx⟩ := fnExactMdlOk_reads os enc
  refine returnsInHanded_of_row (C := Tryd.checked) (s := OpenSpec.ofChange Rows.fnExactMdlOkSpec) fnExactMdlOk_own started (by kernel_rfl) Tryd.func4
    (witness_row_at (enc := enc) (C := Tryd.checked) false (fnExactMdlOk_world os) #[.agg #[.slice none 0 0, .slice none 0 0, .slice none 0 0]] rfl (by kernel_rfl) (by kernel_rfl) (by kernel_rfl)
      (OpenSpec.preRow_of_cond 8 hx (by kernel_rfl) (fun k hk => by cases hk) (by kernel_rfl) (fnExactMdlOk_met os))) ?_
  intro W base args ds gs before hval hW _ _ _ _ _ _
  exact fnExactMdlOk_contract H enc W base args ds gs before hval hW
theorem fnExactMdlOk_said : Rows.FnExactMdlOkSaid :=
  OpenClaim.holds_of_cond 4 Tryd.f4 rfl rfl rfl rfl rfl rfl rfl ⟨rfl, rfl, rfl, rfl, rfl⟩ rfl rfl rfl rfl rfl (by kernel_rfl) Tryd.func4 (by kernel_rfl)
    (of_decide_eq_true (by kernel_rfl)) (by unfold Func.isWrapper; first | (rw [if_pos (by decide +kernel)]; kernel_rfl) | (rw [if_neg (by decide +kernel)]; exact ⟨rfl, rfl⟩))
    (fun os started H enc _ F => by rw [OpenClaim.pre_eq_preRow]; exact fnExactMdlOk_lifted os started H enc F)
theorem fnExactMdlOk_plain (f : FuncId) (fn : Func) (hf : Tryd.pinned.checked.prog.funcNamed "loop.example/chartulary/laws.FnExactMdlOk" = some f) (hfn : Tryd.pinned.checked.prog.funcs[f]? = some fn) :
    false = Tryd.pinned.checked.prog.looks [] ∧ ∀ (j : Nat) t, fn.params[j]? = some t → Tryd.pinned.checked.prog.wantsStandIn t = false := by
  obtain rfl : f = 4 := Option.some.inj ((show Tryd.prog.funcNamed "loop.example/chartulary/laws.FnExactMdlOk" = some 4 by kernel_rfl).symm.trans hf) |>.symm
  obtain rfl : fn = Tryd.f4 := (Option.some.inj (Tryd.func4.symm.trans hfn)).symm
  refine ⟨by kernel_rfl, fun j t ht => ?_⟩
  rw [Tryd.params4] at ht
  have hm := Array.mem_of_getElem? ht
  simp only [List.mem_toArray, List.mem_cons, List.not_mem_nil, or_false] at hm
  rcases hm with rfl
  · exact (show Tryd.prog.wantsStandIn 34 = false by kernel_rfl)
theorem fnExactMdlOk_holds : Rows.FnExactMdlOkCardSaid :=
  Claim7.holds_tied_plain_at .later [] _ _ _ _ fnExactMdlOk_said (fun _ h => by cases h) (by kernel_rfl) (fun _ h => by cases h) fnExactMdlOk_row_tie rfl ⟨rfl, rfl⟩ (by kernel_rfl) rfl fnExactMdlOk_plain (by kernel_rfl)
#print axioms fnExactMdlOk_holds
end Go.Proofs.YtnogkkcmcnhodaaDoor
