/- Walks: requests that are ok, of the program. By program (wip/gen/gen_reqok.py). -/
import Derived.Test.YthopednilgncgaaDoorRj
namespace Go.Proofs.YthopednilgncgaaDoor
open Go.RowKit
attribute [local go_sem ↓] Go.wp_at_zero Go.wp_at_succ

def reqOk (x : Req) : Bool := inB x.user 0 99 && inB x.repo 0 99 && inB x.old 0 99 && inB x.back 0 99 && inB x.frm 0 99 && inB x.key 0 9999 && inB x.kind 1 11 && refFits x.ref && refFits x.other && pthOk x.path && rulOk x.rule && decide (x.edits.length ≤ 4) && !(x.edits.any fun e => !editOk e)
structure fitReq (x : Req) : Prop where
  ref : x.ref.size ≤ 4194304
  other : x.other.size ≤ 4194304
  path : x.path.size ≤ 4194304
  rule : fitRule x.rule
  edits : ∀ i (h : i < x.edits.length), fitEdit x.edits[i]

theorem reqOk1_any (x : Edit) (hf : fitEdit x) (w : World) :
    Calls Tryd.prog 62 #[.agg (encEdit x).toArray] w fun e w' => e = .returned (.bool (!editOk x)) ∧ Below w.heap.size w w' := by
  have HF := hide hf
  clear hf
  rw [show (encEdit x).toArray = #[.string x.path, .string x.bytes, .bool x.gone] from rfl]
  go_enter Tryd.func62, Tryd.ntmps62
  go_wp2_with fail
  refine (editOk_any x HF.out _).mono ?_
  rintro e w1 ⟨rfl, hb1⟩
  go_wp2
  go_ret
  exact ⟨rfl, Below.box1 hb1⟩

set_option maxHeartbeats 4000000 in
set_option maxRecDepth 20000 in
theorem implReqOk_any {cs : List Value} {x : Req} {fx : List Nat} (w : World) (hx : Rp.req.R w cs x fx) (hf : fitReq x) :
    Calls Tryd.prog 25 #[.agg cs.toArray] w fun e w' => e = .returned (.bool (reqOk x)) ∧ Below w.heap.size w w' := by
  obtain ⟨A0, n0, c0, f0, rfl, _, h0⟩ := hx
  have hn := h0.1
  subst hn
  have hmx := h0.max
  have HF := hide hf
  clear hf
  go_enter Tryd.func25, Tryd.ntmps25
  have k0 := Blk.new w 40 #[.int .i64 x.user, .int .i64 x.key, .int .i64 x.repo, .int .i64 x.kind, .string x.ref, .string x.path, .int .i64 x.old, .int .i64 x.back, .slice A0 x.edits.length c0, .int .i64 x.rule.user, .string x.rule.ref, .string x.rule.path, .bool x.rule.write, .int .i64 x.frm, .string x.other]
  have s0 := h0.allocN (.cells #[.int .i64 x.user, .int .i64 x.key, .int .i64 x.repo, .int .i64 x.kind, .string x.ref, .string x.path, .int .i64 x.old, .int .i64 x.back, .slice A0 x.edits.length c0, .int .i64 x.rule.user, .string x.rule.ref, .string x.rule.path, .bool x.rule.write, .int .i64 x.frm, .string x.other] 40)
  have HB0 := (Below.refl w.heap.size w).alloc (Nat.le_refl _) (.cells #[.int .i64 x.user, .int .i64 x.key, .int .i64 x.repo, .int .i64 x.kind, .string x.ref, .string x.path, .int .i64 x.old, .int .i64 x.back, .slice A0 x.edits.length c0, .int .i64 x.rule.user, .string x.rule.ref, .string x.rule.path, .bool x.rule.write, .int .i64 x.frm, .string x.other] 40)
  clear h0
  go_wp2_with fail
  refine (small_any _ _).mono ?_
  rintro e w1 ⟨rfl, hb1⟩
  have k1 := k0.step hb1
  have s1 := s0.step hb1
  have HB1 := HB0.trans (hb1.mono HB0.size)
  clear hb1 k0 s0 HB0
  cases hd : inB x.user 0 99
  · go_wp2
    go_ret
    exact ⟨ret_bool (by simp [reqOk, hd]), HB1⟩
  have H1 := hide hd
  clear hd
  have c2 : w1.cell? ⟨w.heap.size, 2, none⟩ = some (.int .i64 x.repo) := k1.cell 2
  go_wp2_with fail
  refine (small_any _ _).mono ?_
  rintro e w2 ⟨rfl, hb2⟩
  have k2 := k1.step hb2
  have s2 := s1.step hb2
  have HB2 := Below.then_ HB1 hb2
  clear hb2 k1 s1 HB1 c2
  cases hd : inB x.repo 0 99
  · go_wp2
    go_ret
    exact ⟨ret_bool (by simp [reqOk, hd]), HB2⟩
  have H2 := hide hd
  clear hd
  have c6 : w2.cell? ⟨w.heap.size, 6, none⟩ = some (.int .i64 x.old) := k2.cell 6
  go_wp2_with fail
  refine (small_any _ _).mono ?_
  rintro e w3 ⟨rfl, hb3⟩
  have k3 := k2.step hb3
  have s3 := s2.step hb3
  have HB3 := Below.then_ HB2 hb3
  clear hb3 k2 s2 HB2 c6
  cases hd : inB x.old 0 99
  · go_wp2
    go_ret
    exact ⟨ret_bool (by simp [reqOk, hd]), HB3⟩
  have H3 := hide hd
  clear hd
  have c7 : w3.cell? ⟨w.heap.size, 7, none⟩ = some (.int .i64 x.back) := k3.cell 7
  go_wp2_with fail
  refine (small_any _ _).mono ?_
  rintro e w4 ⟨rfl, hb4⟩
  have k4 := k3.step hb4
  have s4 := s3.step hb4
  have HB4 := Below.then_ HB3 hb4
  clear hb4 k3 s3 HB3 c7
  cases hd : inB x.back 0 99
  · go_wp2
    go_ret
    exact ⟨ret_bool (by simp [reqOk, hd]), HB4⟩
  have H4 := hide hd
  clear hd
  have c13 : w4.cell? ⟨w.heap.size, 13, none⟩ = some (.int .i64 x.frm) := k4.cell 13
  go_wp2_with fail
  refine (small_any _ _).mono ?_
  rintro e w5 ⟨rfl, hb5⟩
  have k5 := k4.step hb5
  have s5 := s4.step hb5
  have HB5 := Below.then_ HB4 hb5
  clear hb5 k4 s4 HB4 c13
  cases hd : inB x.frm 0 99
  · go_wp2
    go_ret
    exact ⟨ret_bool (by simp [reqOk, hd]), HB5⟩
  have H5 := hide hd
  clear hd
  have c1 : w5.cell? ⟨w.heap.size, 1, none⟩ = some (.int .i64 x.key) := k5.cell 1
  go_wp2_with fail
  refine (implIn_any _ _ _ _).mono ?_
  rintro e w6 ⟨rfl, hb6⟩
  have k6 := k5.step hb6
  have s6 := s5.step hb6
  have HB6 := Below.then_ HB5 hb6
  clear hb6 k5 s5 HB5 c1
  cases hd : inB x.key 0 9999
  · go_wp2
    go_ret
    exact ⟨ret_bool (by simp [reqOk, hd]), HB6⟩
  have H6 := hide hd
  clear hd
  have c3 : w6.cell? ⟨w.heap.size, 3, none⟩ = some (.int .i64 x.kind) := k6.cell 3
  go_wp2_with fail
  refine (implIn_any _ _ _ _).mono ?_
  rintro e w7 ⟨rfl, hb7⟩
  have k7 := k6.step hb7
  have s7 := s6.step hb7
  have HB7 := Below.then_ HB6 hb7
  clear hb7 k6 s6 HB6 c3
  cases hd : inB x.kind 1 11
  · go_wp2
    go_ret
    exact ⟨ret_bool (by simp [reqOk, hd]), HB7⟩
  have H7 := hide hd
  clear hd
  have c4 : w7.cell? ⟨w.heap.size, 4, none⟩ = some (.string x.ref) := k7.cell 4
  go_wp2_with fail
  refine (refFits_any _ HF.out.ref _).mono ?_
  rintro e w8 ⟨rfl, hb8⟩
  have k8 := k7.step hb8
  have s8 := s7.step hb8
  have HB8 := Below.then_ HB7 hb8
  clear hb8 k7 s7 HB7 c4
  cases hd : refFits x.ref
  · go_wp2
    go_ret
    exact ⟨ret_bool (by simp [reqOk, hd]), HB8⟩
  have H8 := hide hd
  clear hd
  have c14 : w8.cell? ⟨w.heap.size, 14, none⟩ = some (.string x.other) := k8.cell 14
  go_wp2_with fail
  refine (refFits_any _ HF.out.other _).mono ?_
  rintro e w9 ⟨rfl, hb9⟩
  have k9 := k8.step hb9
  have s9 := s8.step hb9
  have HB9 := Below.then_ HB8 hb9
  clear hb9 k8 s8 HB8 c14
  cases hd : refFits x.other
  · go_wp2
    go_ret
    exact ⟨ret_bool (by simp [reqOk, hd]), HB9⟩
  have H9 := hide hd
  clear hd
  have c5 : w9.cell? ⟨w.heap.size, 5, none⟩ = some (.string x.path) := k9.cell 5
  go_wp2_with fail
  refine (implPthOk_any _ HF.out.path _).mono ?_
  rintro e w10 ⟨rfl, hb10⟩
  have k10 := k9.step hb10
  have s10 := s9.step hb10
  have HB10 := Below.then_ HB9 hb10
  clear hb10 k9 s9 HB9 c5
  cases hd : pthOk x.path
  · go_wp2
    go_ret
    exact ⟨ret_bool (by simp [reqOk, hd]), HB10⟩
  have H10 := hide hd
  clear hd
  have c9 : w10.cell? ⟨w.heap.size, 9, none⟩ = some (.int .i64 x.rule.user) := k10.cell 9
  have c10 : w10.cell? ⟨w.heap.size, 10, none⟩ = some (.string x.rule.ref) := k10.cell 10
  have c11 : w10.cell? ⟨w.heap.size, 11, none⟩ = some (.string x.rule.path) := k10.cell 11
  have c12 : w10.cell? ⟨w.heap.size, 12, none⟩ = some (.bool x.rule.write) := k10.cell 12
  go_wp2_with fail
  refine (implRulOk_any x.rule HF.out.rule _).mono ?_
  rintro e w11 ⟨rfl, hb11⟩
  have k11 := k10.step hb11
  have s11 := s10.step hb11
  have HB11 := Below.then_ HB10 hb11
  clear hb11 k10 s10 HB10 c9 c10 c11 c12
  cases hd : rulOk x.rule
  · go_wp2
    go_ret
    exact ⟨ret_bool (by simp [reqOk, hd]), HB11⟩
  have H11 := hide hd
  clear hd
  have c8 : w11.cell? ⟨w.heap.size, 8, none⟩ = some (.slice A0 x.edits.length c0) := k11.cell 8
  by_cases h4 : x.edits.length ≤ 4
  · go_wp2_with fail
    refine (hasEdit_any (l := x.edits) (fun e => !editOk e) _ _ (enters_of Tryd.func62 (by kernel_rfl) rfl) _ s11 (fun i hi cs fq w1 hB hR => ?_)).mono ?_
    · obtain ⟨rfl, rfl⟩ := hR
      exact reqOk1_any _ (HF.out.edits i hi) w1
    · rintro e wz ⟨rfl, hbz⟩
      go_wp2
      go_ret
      exact ⟨ret_bool (by simp [reqOk, H1.out, H2.out, H3.out, H4.out, H5.out, H6.out, H7.out, H8.out, H9.out, H10.out, H11.out, h4]), Below.then_ HB11 hbz⟩
  · go_wp2
    go_ret
    exact ⟨ret_bool (by simp [reqOk, h4]), HB11⟩
end Go.Proofs.YthopednilgncgaaDoor
