/- FnExactRulRead: for every input the law answers true and leaves its arguments as they were. Conditions: the listed library tables read as the tie says. -/
import Derived.Test.YthopednilgncgaaDoorCards
import Derived.Test.YthopednilgncgaaDoorTie
import Derived.Test.YthopednilgncgaaDoorYf
import Derived.Test.YthopednilgncgaaDoorOpen
import Derived.Test.YthopednilgncgaaDoorOpens
import Derived.WalkKit
import Derived.ProofKit
import Derived.OpenShut
import Derived.ChangeMaps5
import Derived.Deep.DeepHandedRow
import Derived.Lib.LaidTab
import Derived.SevenTiedAt
namespace Go.Proofs.YthopednilgncgaaDoor
open Go.ChangeShapes Go.WideShapes Go.ChangeAt Go.RowKit Go.Deep

theorem fnExactRulRead_own : ownKnob Tryd.prog.godebug = none := by kernel_rfl
theorem fnExactRulRead_laidOut : laidOutB Tryd.prog = true := by kernel_rfl

set_option maxRecDepth 100000 in
theorem fnExactRulRead_contract (H : Type) (enc : TypeId × Value → H) (W : World) (base : Nat) (args : Array Value) (ds gs : List (DataW H)) (before : List MemPlace)
    (hval0 : ∀ (j : Nat) t v, Tryd.f8.params[j]? = some t → args[j]? = some v → Value.okWide Tryd.prog W .any base t v)
    (hW : DataW.Whole enc Tryd.prog Tryd.f8.params.toList Rows.fnExactRulReadSpec.vars false W args.toList ds gs before)
    (hL : laidMet Tryd.prog Rows.fnExactRulReadRow.laid W) :
    Calls Tryd.prog 8 args W fun e W' => ∃ v, e = .returned v ∧ Rows.fnExactRulReadSpec.post enc Tryd.prog Tryd.f8 false true false false W args v W' := by
  have hval := hval0
  have hW' := hW
  obtain ⟨p, q, hA0, hV, rfl, hfz, hnd⟩ := hW
  have hA : DataW.TrodAll enc Tryd.prog W 0 (fun _ => true) true Tryd.f8.params.toList args.toList ds p := hA0
  rw [Tryd.params8] at hA hval
  obtain ⟨v0, d0, rfl, rfl, h0⟩ := trodAll_one hA
  obtain ⟨rfl, rfl⟩ := trodVars_none hV
  have h0k := h0
  obtain ⟨x0, rfl, rfl, rfl, hx0⟩ := Go.ChangeMaps.open_string Tryd.underlying9 (hval 0 9 v0 rfl rfl) h0
  have hx0 : x0.size ≤ 9223372036854775807 := by unfold maxLen at hx0; omega
  clear hA0 hval hval0
  simp only [List.append_nil] at hW'
  have hLL : laidMet Tryd.prog [("math/bits.deBruijn32tab", Rows.laid_math_bits_deBruijn32tab), ("math/bits.deBruijn64tab", Rows.laid_math_bits_deBruijn64tab), ("internal/strconv.uint64pow10", Rows.laid_internal_strconv_uint64pow10), ("unicode/utf8.acceptRanges", Rows.laid_unicode_utf8_acceptRanges), ("strconv.ErrRange", Rows.laid_strconv_ErrRange), ("strconv.ErrSyntax", Rows.laid_strconv_ErrSyntax), ("unicode/utf8.first", Rows.laid_unicode_utf8_first)] W := hL
  refine (lawExactRulRead W x0 hx0 (errs_of hLL.tail.tail.tail.tail)).mono fun e W' ⟨he, hb⟩ => ?_
  subst he
  refine ⟨_, rfl, post_of_below (pa := []) (pv := []) hW' (fun _ _ _ => trodAll_mk1 (shut_bool Tryd.underlying4 _)) (fun sp hsp => ?_) (fun _ _ => rfl) (by simp) hb (ok_one (by kernel_rfl) rfl (okWide_bool_mk Tryd.underlying4 _))⟩
  exact trodAll_mk1 (WideElems.Trod_stays fnExactRulRead_laidOut (by kernel_rfl) (of_decide_eq_true (by kernel_rfl)) h0k (fun y hy => by cases hy) (fun y hy => by cases hy))

mutual
def fnExactRulRead_flat : DataW Unit → List Value
  | .lit l => [l.value]
  | .agg ps => fnExactRulRead_flats ps
  | _ => []
def fnExactRulRead_flats : List (DataW Unit) → List Value
  | [] => []
  | d :: r => fnExactRulRead_flat d ++ fnExactRulRead_flats r
end
noncomputable def fnExactRulRead_low : Nat := (World.holding Tryd.prog default ⟨#[], #[], []⟩).heap.size
/-- A world for the witness: the settled one, the listed tables as their initialisers lay them. -/
noncomputable def fnExactRulRead_world (os : Os) : World :=
  { World.holding Tryd.prog os ⟨#[.cells #[.string ⟨#[118, 97, 108, 117, 101, 32, 111, 117, 116, 32, 111, 102, 32, 114, 97, 110, 103, 101]⟩] 171, .cells #[.string ⟨#[105, 110, 118, 97, 108, 105, 100, 32, 115, 121, 110, 116, 97, 120]⟩] 171], #[], []⟩ with heap := ((((((((World.holding Tryd.prog os ⟨#[.cells #[.string ⟨#[118, 97, 108, 117, 101, 32, 111, 117, 116, 32, 111, 102, 32, 114, 97, 110, 103, 101]⟩] 171, .cells #[.string ⟨#[105, 110, 118, 97, 108, 105, 100, 32, 115, 121, 110, 116, 97, 120]⟩] 171], #[], []⟩).heap.modify 6 fun
      | .cells _ t frozen => .cells (fnExactRulRead_flat Rows.laid_math_bits_deBruijn32tab).toArray t frozen
      | o => o).modify 7 fun
      | .cells _ t frozen => .cells (fnExactRulRead_flat Rows.laid_math_bits_deBruijn64tab).toArray t frozen
      | o => o).modify 1 fun
      | .cells _ t frozen => .cells (fnExactRulRead_flat Rows.laid_internal_strconv_uint64pow10).toArray t frozen
      | o => o).modify 5 fun
      | .cells _ t frozen => .cells (fnExactRulRead_flat Rows.laid_unicode_utf8_acceptRanges).toArray t frozen
      | o => o).modify 3 fun
      | .cells _ t frozen => .cells #[.iface 169 (.pointer (some ⟨fnExactRulRead_low + 0, 0, none⟩))] t frozen
      | o => o).modify 2 fun
      | .cells _ t frozen => .cells #[.iface 169 (.pointer (some ⟨fnExactRulRead_low + 1, 0, none⟩))] t frozen
      | o => o).modify 4 fun
      | .cells _ t frozen => .cells (fnExactRulRead_flat Rows.laid_unicode_utf8_first).toArray t frozen
      | o => o) }
set_option maxRecDepth 100000 in
theorem fnExactRulRead_met (os : Os) : laidMet Tryd.prog Rows.fnExactRulReadRow.laid ((fnExactRulRead_world os).forCall (fun _ _ => 0) ⟨#[], #[.string ByteArray.empty], []⟩).memory :=
  laidMet_of_run' 8 (by kernel_rfl) (by kernel_rfl)
theorem fnExactRulRead_reads (os : Os) {H : Type} (enc : TypeId × Value → H) : ∃ x, DataW.whole enc Tryd.prog ((fnExactRulRead_world os).forCall (fun _ _ => 0) ⟨#[], #[.string ByteArray.empty], []⟩).memory Tryd.f8.params.toList Rows.fnExactRulReadSpec.vars false (#[.string ByteArray.empty] : Array Value).toList 8 = some x :=
  Option.isSome_iff_exists.1 (show (DataW.whole enc Tryd.prog ((fnExactRulRead_world os).forCall (fun _ _ => 0) ⟨#[], #[.string ByteArray.empty], []⟩).memory Tryd.f8.params.toList Rows.fnExactRulReadSpec.vars false (#[.string ByteArray.empty] : Array Value).toList 8).isSome = true by kernel_rfl)
set_option maxRecDepth 100000 in
theorem fnExactRulRead_lifted (os : Os) (started : os.Started) (H : Type) (enc : TypeId × Value → H) (F : Stop.Interp) :
    ReturnsInHanded {} Tryd.checked os 8 .any ((OpenSpec.ofChange Rows.fnExactRulReadSpec).preRow enc Tryd.prog Tryd.f8 Rows.fnExactRulReadRow.domain false Rows.fnExactRulReadRow.laid) (((OpenSpec.ofChange Rows.fnExactRulReadSpec).at F).post enc Tryd.prog Tryd.f8 false true false false) := by
  obtain ⟨x0, hx⟩ := fnExactRulRead_reads os enc
  refine returnsInHanded_of_row (C := Tryd.checked) (s := OpenSpec.ofChange Rows.fnExactRulReadSpec) fnExactRulRead_own started (by kernel_rfl) Tryd.func8
    (witness_row_at (enc := enc) (C := Tryd.checked) false (fnExactRulRead_world os) #[.string ByteArray.empty] rfl (by kernel_rfl) (by kernel_rfl) (by kernel_rfl)
      (OpenSpec.preRow_of_cond 8 hx (by kernel_rfl) (fun k hk => by cases hk) (by kernel_rfl) (fnExactRulRead_met os))) ?_
  intro W base args ds gs before hval hW g1 g2 g3 g4 g5 g6
  exact fnExactRulRead_contract H enc W base args ds gs before hval hW (by first | exact g1 | exact g2 | exact g3 | exact g4 | exact g5 | exact g6)
theorem fnExactRulRead_said : Rows.FnExactRulReadSaid :=
  OpenClaim.holds_of_cond 8 Tryd.f8 rfl rfl rfl rfl rfl rfl rfl ⟨rfl, rfl, rfl, rfl, rfl⟩ rfl rfl rfl rfl rfl (by kernel_rfl) Tryd.func8 (by kernel_rfl)
    (of_decide_eq_true (by kernel_rfl)) (by unfold Func.isWrapper; first | (rw [if_pos (by decide +kernel)]; kernel_rfl) | (rw [if_neg (by decide +kernel)]; exact ⟨rfl, rfl⟩))
    (fun os started H enc _ F => by rw [OpenClaim.pre_eq_preRow]; exact fnExactRulRead_lifted os started H enc F)
theorem fnExactRulRead_plain (f : FuncId) (fn : Func) (hf : Tryd.pinned.checked.prog.funcNamed "loop.example/chartulary/laws.FnExactRulRead" = some f) (hfn : Tryd.pinned.checked.prog.funcs[f]? = some fn) :
    true = Tryd.pinned.checked.prog.looks [] ∧ ∀ (j : Nat) t, fn.params[j]? = some t → Tryd.pinned.checked.prog.wantsStandIn t = false := by
  obtain rfl : f = 8 := Option.some.inj ((show Tryd.prog.funcNamed "loop.example/chartulary/laws.FnExactRulRead" = some 8 by kernel_rfl).symm.trans hf) |>.symm
  obtain rfl : fn = Tryd.f8 := (Option.some.inj (Tryd.func8.symm.trans hfn)).symm
  refine ⟨by kernel_rfl, fun j t ht => ?_⟩
  rw [Tryd.params8] at ht
  have hm := Array.mem_of_getElem? ht
  simp only [List.mem_toArray, List.mem_cons, List.not_mem_nil, or_false] at hm
  rcases hm with rfl
  · exact (show Tryd.prog.wantsStandIn 9 = false by kernel_rfl)
theorem fnExactRulRead_holds : Rows.FnExactRulReadCardSaid :=
  Claim7.holds_tied_plain_at .later [] _ _ _ _ fnExactRulRead_said (fun _ h => by cases h) (by kernel_rfl) (fun _ h => by cases h) fnExactRulRead_row_tie rfl ⟨rfl, rfl⟩ (by kernel_rfl) rfl fnExactRulRead_plain (by kernel_rfl)
#print axioms fnExactRulRead_holds
end Go.Proofs.YthopednilgncgaaDoor
