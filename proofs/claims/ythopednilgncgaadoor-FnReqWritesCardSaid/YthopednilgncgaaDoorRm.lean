/- Walks: requests that are ok, of the reference. By program (wip/gen/gen_reqok2.py). -/
import Derived.Test.YthopednilgncgaaDoorRk
import Derived.Test.YthopednilgncgaaDoorRl
namespace Go.Proofs.YthopednilgncgaaDoor
open Go.RowKit
attribute [local go_sem ↓] Go.wp_at_zero Go.wp_at_succ

set_option maxHeartbeats 4000000 in
set_option maxRecDepth 20000 in
theorem specReqOk_any {cs : List Value} {x : Req} {fx : List Nat} (w : World) (hx : Rp.req.R w cs x fx) (hf : fitReq x) :
    Calls Tryd.prog 26 #[.agg cs.toArray] w fun e w' => e = .returned (.bool (reqOk x)) ∧ Below w.heap.size w w' := by
  obtain ⟨A0, n0, c0, f0, rfl, _, h0⟩ := hx
  have hn := h0.1
  subst hn
  have hmx := h0.max
  have HF := hide hf
  clear hf
  go_enter Tryd.func26, Tryd.ntmps26
  have k0 := Blk.new w 40 #[.int .i64 x.user, .int .i64 x.key, .int .i64 x.repo, .int .i64 x.kind, .string x.ref, .string x.path, .int .i64 x.old, .int .i64 x.back, .slice A0 x.edits.length c0, .int .i64 x.rule.user, .string x.rule.ref, .string x.rule.path, .bool x.rule.write, .int .i64 x.frm, .string x.other]
  have s0 := h0.allocN (.cells #[.int .i64 x.user, .int .i64 x.key, .int .i64 x.repo, .int .i64 x.kind, .string x.ref, .string x.path, .int .i64 x.old, .int .i64 x.back, .slice A0 x.edits.length c0, .int .i64 x.rule.user, .string x.rule.ref, .string x.rule.path, .bool x.rule.write, .int .i64 x.frm, .string x.other] 40)
  have HB0 := (Below.refl w.heap.size w).alloc (Nat.le_refl _) (.cells #[.int .i64 x.user, .int .i64 x.key, .int .i64 x.repo, .int .i64 x.kind, .string x.ref, .string x.path, .int .i64 x.old, .int .i64 x.back, .slice A0 x.edits.length c0, .int .i64 x.rule.user, .string x.rule.ref, .string x.rule.path, .bool x.rule.write, .int .i64 x.frm, .string x.other] 40)
  clear h0
  go_wp2_with fail
  refine (specIn_any _ _ _ _).mono ?_
  rintro e w1 ⟨rfl, hb1⟩
  have k1 := k0.step hb1
  have s1 := s0.step hb1
  have HB1 := HB0.trans (hb1.mono HB0.size)
  clear hb1 k0 s0 HB0
  cases hd : inB x.user 0 99
  · go_wp2
    go_ret
    exact ⟨ret_bool (by simp [reqOk, hd]), HB1⟩
  · have H1 := hide hd
    clear hd
    have c1 : w1.cell? ⟨w.heap.size, 1, none⟩ = some (.int .i64 x.key) := k1.cell 1
    go_wp2_with fail
    refine (specIn_any _ _ _ _).mono ?_
    rintro e w2 ⟨rfl, hb2⟩
    have k2 := k1.step hb2
    have s2 := s1.step hb2
    have HB2 := Below.then_ HB1 hb2
    clear hb2 k1 s1 HB1 c1
    cases hd : inB x.key 0 9999
    · go_wp2
      go_ret
      exact ⟨ret_bool (by simp [reqOk, hd]), HB2⟩
    · have H2 := hide hd
      clear hd
      have c2 : w2.cell? ⟨w.heap.size, 2, none⟩ = some (.int .i64 x.repo) := k2.cell 2
      go_wp2_with fail
      refine (specIn_any _ _ _ _).mono ?_
      rintro e w3 ⟨rfl, hb3⟩
      have k3 := k2.step hb3
      have s3 := s2.step hb3
      have HB3 := Below.then_ HB2 hb3
      clear hb3 k2 s2 HB2 c2
      cases hd : inB x.repo 0 99
      · go_wp2
        go_ret
        exact ⟨ret_bool (by simp [reqOk, hd]), HB3⟩
      · have H3 := hide hd
        clear hd
        have c3 : w3.cell? ⟨w.heap.size, 3, none⟩ = some (.int .i64 x.kind) := k3.cell 3
        go_wp2_with fail
        refine (specIn_any _ _ _ _).mono ?_
        rintro e w4 ⟨rfl, hb4⟩
        have k4 := k3.step hb4
        have s4 := s3.step hb4
        have HB4 := Below.then_ HB3 hb4
        clear hb4 k3 s3 HB3 c3
        cases hd : inB x.kind 1 11
        · go_wp2
          go_ret
          exact ⟨ret_bool (by simp [reqOk, hd]), HB4⟩
        · have H4 := hide hd
          clear hd
          have c8 : w4.cell? ⟨w.heap.size, 8, none⟩ = some (.slice A0 x.edits.length c0) := k4.cell 8
          go_wp2_with fail
          refine (l6Edits_any _ s4 HF.out.edits).mono ?_
          rintro e w5 ⟨rfl, hb5⟩
          have k5 := k4.step hb5
          have s5 := s4.step hb5
          have HB5 := Below.then_ HB4 hb5
          clear hb5 k4 s4 HB4 c8
          cases hd : (decide (x.edits.length ≤ 4) && !(x.edits.any fun e => !editOk e))
          · go_wp2
            go_ret
            exact ⟨ret_bool (by unfold reqOk; rw [Bool.and_assoc, hd, Bool.and_false]), HB5⟩
          · have H5 := hide hd
            clear hd
            have c9 : w5.cell? ⟨w.heap.size, 9, none⟩ = some (.int .i64 x.rule.user) := k5.cell 9
            have c10 : w5.cell? ⟨w.heap.size, 10, none⟩ = some (.string x.rule.ref) := k5.cell 10
            have c11 : w5.cell? ⟨w.heap.size, 11, none⟩ = some (.string x.rule.path) := k5.cell 11
            have c12 : w5.cell? ⟨w.heap.size, 12, none⟩ = some (.bool x.rule.write) := k5.cell 12
            go_wp2_with fail
            refine (specRulOk_any x.rule HF.out.rule _).mono ?_
            rintro e w6 ⟨rfl, hb6⟩
            have k6 := k5.step hb6
            have s6 := s5.step hb6
            have HB6 := Below.then_ HB5 hb6
            clear hb6 k5 s5 HB5 c9 c10 c11 c12
            cases hd : rulOk x.rule
            · go_wp2
              go_ret
              exact ⟨ret_bool (by simp [reqOk, hd]), HB6⟩
            · have H6 := hide hd
              clear hd
              have c4 : w6.cell? ⟨w.heap.size, 4, none⟩ = some (.string x.ref) := k6.cell 4
              cases hqref : x.ref.toList.isEmpty
              · go_wp2_with fail
                refine (specNamOk_any _ HF.out.ref _).mono ?_
                rintro e w7 ⟨rfl, hb7⟩
                rw [isEmpty_eq] at hqref
                have Qref := hide hqref
                have k7 := k6.step hb7
                have s7 := s6.step hb7
                have HB7 := Below.then_ HB6 hb7
                clear hb7 k6 s6 HB6 c4 hqref
                cases hd : namOk x.ref
                · go_wp2
                  go_ret
                  exact ⟨ret_bool (by simp [reqOk, refFits, Qref.out, hd]), HB7⟩
                · have Nref := hide (show refFits x.ref = true by simp [refFits, hd])
                  clear hd
                  have c5 : w7.cell? ⟨w.heap.size, 5, none⟩ = some (.string x.path) := k7.cell 5
                  go_wp2_with fail
                  refine (specPthOk_any _ HF.out.path _).mono ?_
                  rintro e w8 ⟨rfl, hb8⟩
                  have k8 := k7.step hb8
                  have s8 := s7.step hb8
                  have HB8 := Below.then_ HB7 hb8
                  clear hb8 k7 s7 HB7 c5
                  cases hd : pthOk x.path
                  · go_wp2
                    go_ret
                    exact ⟨ret_bool (by simp [reqOk, hd]), HB8⟩
                  · have H8 := hide hd
                    clear hd
                    have c6 : w8.cell? ⟨w.heap.size, 6, none⟩ = some (.int .i64 x.old) := k8.cell 6
                    go_wp2_with fail
                    refine (specIn_any _ _ _ _).mono ?_
                    rintro e w9 ⟨rfl, hb9⟩
                    have k9 := k8.step hb9
                    have s9 := s8.step hb9
                    have HB9 := Below.then_ HB8 hb9
                    clear hb9 k8 s8 HB8 c6
                    cases hd : inB x.old 0 99
                    · go_wp2
                      go_ret
                      exact ⟨ret_bool (by simp [reqOk, hd]), HB9⟩
                    · have H9 := hide hd
                      clear hd
                      have c7 : w9.cell? ⟨w.heap.size, 7, none⟩ = some (.int .i64 x.back) := k9.cell 7
                      go_wp2_with fail
                      refine (specIn_any _ _ _ _).mono ?_
                      rintro e w10 ⟨rfl, hb10⟩
                      have k10 := k9.step hb10
                      have s10 := s9.step hb10
                      have HB10 := Below.then_ HB9 hb10
                      clear hb10 k9 s9 HB9 c7
                      cases hd : inB x.back 0 99
                      · go_wp2
                        go_ret
                        exact ⟨ret_bool (by simp [reqOk, hd]), HB10⟩
                      · have H10 := hide hd
                        clear hd
                        have c13 : w10.cell? ⟨w.heap.size, 13, none⟩ = some (.int .i64 x.frm) := k10.cell 13
                        go_wp2_with fail
                        refine (specIn_any _ _ _ _).mono ?_
                        rintro e w11 ⟨rfl, hb11⟩
                        have k11 := k10.step hb11
                        have s11 := s10.step hb11
                        have HB11 := Below.then_ HB10 hb11
                        clear hb11 k10 s10 HB10 c13
                        cases hd : inB x.frm 0 99
                        · go_wp2
                          go_ret
                          exact ⟨ret_bool (by simp [reqOk, hd]), HB11⟩
                        · have H11 := hide hd
                          clear hd
                          have c14 : w11.cell? ⟨w.heap.size, 14, none⟩ = some (.string x.other) := k11.cell 14
                          cases hqother : x.other.toList.isEmpty
                          · go_wp2_with fail
                            refine (specNamOk_any _ HF.out.other _).mono ?_
                            rintro e w12 ⟨rfl, hb12⟩
                            rw [isEmpty_eq] at hqother
                            have Qother := hide hqother
                            have k12 := k11.step hb12
                            have s12 := s11.step hb12
                            have HB12 := Below.then_ HB11 hb12
                            clear hb12 k11 s11 HB11 c14 hqother
                            cases hd : namOk x.other
                            · go_wp2
                              go_ret
                              exact ⟨ret_bool (by simp [reqOk, refFits, Qother.out, hd]), HB12⟩
                            · have Nother := hide (show refFits x.other = true by simp [refFits, hd])
                              clear hd
                              go_wp2
                              go_ret
                              exact ⟨ret_bool (by unfold reqOk; rw [Bool.and_assoc]; simp only [H1.out, H2.out, H3.out, H4.out, H5.out, H6.out, Nref.out, H8.out, H9.out, H10.out, H11.out, Nother.out, Bool.and_true]), HB12⟩
                          · have Nother := hide (show refFits x.other = true by rw [isEmpty_eq] at hqother; simp [refFits, hqother])
                            go_wp2
                            go_ret
                            exact ⟨ret_bool (by unfold reqOk; rw [Bool.and_assoc]; simp only [H1.out, H2.out, H3.out, H4.out, H5.out, H6.out, Nref.out, H8.out, H9.out, H10.out, H11.out, Nother.out, Bool.and_true]), HB11⟩
              · have Nref := hide (show refFits x.ref = true by rw [isEmpty_eq] at hqref; simp [refFits, hqref])
                have c5 : w6.cell? ⟨w.heap.size, 5, none⟩ = some (.string x.path) := k6.cell 5
                go_wp2_with fail
                refine (specPthOk_any _ HF.out.path _).mono ?_
                rintro e w7 ⟨rfl, hb7⟩
                have k7 := k6.step hb7
                have s7 := s6.step hb7
                have HB7 := Below.then_ HB6 hb7
                clear hb7 k6 s6 HB6 c5
                cases hd : pthOk x.path
                · go_wp2
                  go_ret
                  exact ⟨ret_bool (by simp [reqOk, hd]), HB7⟩
                · have H8 := hide hd
                  clear hd
                  have c6 : w7.cell? ⟨w.heap.size, 6, none⟩ = some (.int .i64 x.old) := k7.cell 6
                  go_wp2_with fail
                  refine (specIn_any _ _ _ _).mono ?_
                  rintro e w8 ⟨rfl, hb8⟩
                  have k8 := k7.step hb8
                  have s8 := s7.step hb8
                  have HB8 := Below.then_ HB7 hb8
                  clear hb8 k7 s7 HB7 c6
                  cases hd : inB x.old 0 99
                  · go_wp2
                    go_ret
                    exact ⟨ret_bool (by simp [reqOk, hd]), HB8⟩
                  · have H9 := hide hd
                    clear hd
                    have c7 : w8.cell? ⟨w.heap.size, 7, none⟩ = some (.int .i64 x.back) := k8.cell 7
                    go_wp2_with fail
                    refine (specIn_any _ _ _ _).mono ?_
                    rintro e w9 ⟨rfl, hb9⟩
                    have k9 := k8.step hb9
                    have s9 := s8.step hb9
                    have HB9 := Below.then_ HB8 hb9
                    clear hb9 k8 s8 HB8 c7
                    cases hd : inB x.back 0 99
                    · go_wp2
                      go_ret
                      exact ⟨ret_bool (by simp [reqOk, hd]), HB9⟩
                    · have H10 := hide hd
                      clear hd
                      have c13 : w9.cell? ⟨w.heap.size, 13, none⟩ = some (.int .i64 x.frm) := k9.cell 13
                      go_wp2_with fail
                      refine (specIn_any _ _ _ _).mono ?_
                      rintro e w10 ⟨rfl, hb10⟩
                      have k10 := k9.step hb10
                      have s10 := s9.step hb10
                      have HB10 := Below.then_ HB9 hb10
                      clear hb10 k9 s9 HB9 c13
                      cases hd : inB x.frm 0 99
                      · go_wp2
                        go_ret
                        exact ⟨ret_bool (by simp [reqOk, hd]), HB10⟩
                      · have H11 := hide hd
                        clear hd
                        have c14 : w10.cell? ⟨w.heap.size, 14, none⟩ = some (.string x.other) := k10.cell 14
                        cases hqother : x.other.toList.isEmpty
                        · go_wp2_with fail
                          refine (specNamOk_any _ HF.out.other _).mono ?_
                          rintro e w11 ⟨rfl, hb11⟩
                          rw [isEmpty_eq] at hqother
                          have Qother := hide hqother
                          have k11 := k10.step hb11
                          have s11 := s10.step hb11
                          have HB11 := Below.then_ HB10 hb11
                          clear hb11 k10 s10 HB10 c14 hqother
                          cases hd : namOk x.other
                          · go_wp2
                            go_ret
                            exact ⟨ret_bool (by simp [reqOk, refFits, Qother.out, hd]), HB11⟩
                          · have Nother := hide (show refFits x.other = true by simp [refFits, hd])
                            clear hd
                            go_wp2
                            go_ret
                            exact ⟨ret_bool (by unfold reqOk; rw [Bool.and_assoc]; simp only [H1.out, H2.out, H3.out, H4.out, H5.out, H6.out, Nref.out, H8.out, H9.out, H10.out, H11.out, Nother.out, Bool.and_true]), HB11⟩
                        · have Nother := hide (show refFits x.other = true by rw [isEmpty_eq] at hqother; simp [refFits, hqother])
                          go_wp2
                          go_ret
                          exact ⟨ret_bool (by unfold reqOk; rw [Bool.and_assoc]; simp only [H1.out, H2.out, H3.out, H4.out, H5.out, H6.out, Nref.out, H8.out, H9.out, H10.out, H11.out, Nother.out, Bool.and_true]), HB10⟩
end Go.Proofs.YthopednilgncgaaDoor
