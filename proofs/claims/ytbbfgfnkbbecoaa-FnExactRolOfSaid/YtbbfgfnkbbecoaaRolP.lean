/- FnExactRolOf: for every list of lines and every user, whatever memory it lies in, the law answers true and leaves all as it was. No conditions. -/
import Derived.Test.YtbbfgfnkbbecoaaRolD
import Derived.Test.YtbbfgfnkbbecoaaOpens
namespace Go.Proofs.Ytbbfgfnkbbecoaa
open Go.ChangeShapes Go.WideShapes Go.ChangeAt Go.RowKit

theorem rolP_own : ownKnob Try.prog.godebug = none := by kernel_rfl
theorem rolP_laidOut : laidOutB Try.prog = true := by kernel_rfl

set_option maxRecDepth 100000 in
theorem fnExactRolOf_lifted (os : Os) (started : os.Started) (H : Type) (enc : TypeId × Value → H) :
    ReturnsInHanded {} Try.checked os 3 .any (Rows.fnExactRolOfSpec.pre6 enc Try.prog Try.f3 Rows.fnExactRolOfRow.domain false) (Rows.fnExactRolOfSpec.post enc Try.prog Try.f3 false true false false) := by
  refine returnsInHanded_of_change (C := Try.checked) rolP_own started (by kernel_rfl) Try.func3
    (ChangeSpec.witness6 (enc := enc) (C := Try.checked) false ⟨#[], #[.slice none 0 0, .int .i64 0], []⟩ 8 (by kernel_rfl) (by kernel_rfl) (by kernel_rfl) (by kernel_rfl)) ?_
  intro W base args ds gs before hval0 hW hcnd _
  have hval : ∀ (j : Nat) t v, Try.f3.params[j]? = some t → args[j]? = some v → Value.okWide Try.prog W .any base t v := hval0
  have hW' := hW
  obtain ⟨p, q, hA0, hV, rfl, hfz, hnd⟩ := hW
  have hA : DataW.TrodAll enc Try.prog W 0 (fun _ => true) true Try.f3.params.toList args.toList ds p := hA0
  rw [Try.params3] at hA hval
  obtain ⟨v0, v1, d0, d1, p0, p1, rfl, rfl, rfl, h0, h1⟩ := trodAll_two hA
  obtain ⟨rfl, rfl⟩ := trodVars_none hV
  have h0k := h0
  have h1k := h1
  obtain ⟨a0, len, cap, rfl⟩ := okWide_slice Try.underlying22 (hval 0 22 v0 rfl rfl)
  obtain ⟨x, rfl, rfl, rfl, _⟩ := open_int Try.underlying3 (hval 1 3 v1 rfl rfl) h1
  obtain ⟨fuel, hf⟩ := h0
  obtain ⟨l, fp, ⟨A, n, c, hcs, hs⟩, _⟩ := opens_slice Try.underlying22 (by kernel_rfl) (by decide) opensLine hf
  have hcs' : Value.slice a0 len cap = .slice A n c := by simpa [Value.cells] using hcs
  rw [hcs'] at h0k hW' ⊢
  clear hA0 hval0 hf hcs hcs'
  simp only [List.append_nil] at hW'
  refine (lawExactRolOf x W hs).mono fun e W' ⟨he, hb⟩ => ?_
  subst he
  have hlt : ∀ y ∈ p0, y.block < W.heap.size := fun y hy => hW'.lt y hy
  refine ⟨_, rfl, post_of_below (pa := p0 ++ []) (pv := []) hW' (fun _ _ _ => trodAll_mk1 (shut_bool Try.underlying4 _)) (fun sp hsp => ?_) (fun _ _ => rfl) (by simp) hb (ok_one (by kernel_rfl) rfl (okWide_bool_mk Try.underlying4 _))⟩
  exact trodAll_mk2 (WideElems.Trod_stays rolP_laidOut (by kernel_rfl) (of_decide_eq_true (by kernel_rfl)) h0k (fun y hy => hb.same (hlt y hy)) (fun y hy => hsp y hy))
    (WideElems.Trod_stays rolP_laidOut (by kernel_rfl) (of_decide_eq_true (by kernel_rfl)) h1k (fun y hy => by cases hy) (fun y hy => by cases hy))

theorem fnExactRolOf_holds : Rows.FnExactRolOfSaid :=
  OpenClaim.holds_of_wide 3 Try.f3 rfl rfl rfl rfl rfl rfl rfl ⟨rfl, rfl, rfl, rfl, rfl⟩ rfl rfl rfl rfl rfl (by kernel_rfl) Try.func3 (by kernel_rfl)
    (of_decide_eq_true (by kernel_rfl)) (by unfold Func.isWrapper; first | (rw [if_pos (by decide +kernel)]; kernel_rfl) | (rw [if_neg (by decide +kernel)]; exact ⟨rfl, rfl⟩))
    (fun os started H enc _ => fnExactRolOf_lifted os started H enc)
#print axioms fnExactRolOf_holds
end Go.Proofs.Ytbbfgfnkbbecoaa
