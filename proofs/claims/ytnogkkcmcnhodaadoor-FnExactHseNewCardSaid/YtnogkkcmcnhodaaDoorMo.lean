/- Walks: houses that are ok; of the reference. By program (wip/gen/gen_mdlok.py). -/
import Derived.Test.YtnogkkcmcnhodaaDoorTw
import Derived.Test.YtnogkkcmcnhodaaDoorRf
namespace Go.Proofs.YtnogkkcmcnhodaaDoor
open Go.RowKit
attribute [local go_sem ↓] Go.wp_at_zero Go.wp_at_succ

structure fitRef (x : Ref) : Prop where
  name : x.name.size ≤ 4194304
  versions : ∀ i (h : i < x.versions.length), fitFiles x.versions[i]
structure fitRepo (p : Repo) : Prop where
  rules : fitRules p.rules
  few : p.refs.length ≤ 4194304
  refs : ∀ i (h : i < p.refs.length), fitRef p.refs[i]
def fitHouse (m : House) : Prop := ∀ i (h : i < m.repos.length), fitRepo m.repos[i]
def userAt (keys used : List Int) (i : Nat) : Bool := atB (fun n => inB n 1 9999) keys i && atB (fun n => inB n 0 200) used i
theorem usersOk_steps (keys used : List Int) : usersOk keys used = (inB keys.length 1 4 && decide (used.length = keys.length) && allN keys.length (userAt keys used)) := by
  by_cases h : used.length = keys.length
  · have e : allN keys.length (userAt keys used) = ((keys.all fun n => inB n 1 9999) && used.all fun n => inB n 0 200) := by
      unfold userAt
      rw [allN_and, allN_atB, ← h, allN_atB]
    rw [e]
    unfold usersOk
    rw [Bool.and_assoc]
  · unfold usersOk
    rw [decide_eq_false h]
    simp
theorem userAt_eq {keys used : List Int} {i : Nat} (h : i < keys.length) (h' : i < used.length) : userAt keys used i = (inB keys[i] 1 9999 && inB used[i] 0 200) := by
  unfold userAt
  rw [atB_eq h, atB_eq h']
theorem refAt_fst {l : List Ref} {k : Nat} (h : k < l.length) (h0 : k = 0) : refAt l k = (namOk l[k].name && refOk l[k]) := by
  subst h0
  exact refAt_zero h
theorem refAt_snd {l : List Ref} {k j : Nat} (h : k < l.length) (h' : j < l.length) (hj : k = j + 1) : refAt l k = (namOk l[k].name && refOk l[k] && bLt l[j].name l[k].name) := by
  subst hj
  exact refAt_succ h
theorem refOk_steps (x : Ref) : refOk x = (inB x.count 0 14 && inB x.versions.length 1 3 && allN x.versions.length (atB treOk x.versions)) := by
  rw [allN_atB]; rfl
theorem mdlOk_steps (m : House) : mdlOk m = (usersOk m.keys m.used && inB m.repos.length 1 3 && allN m.repos.length (atB (repoOk m.keys.length) m.repos)) := by
  rw [allN_atB]; rfl

set_option maxHeartbeats 4000000 in
set_option maxRecDepth 20000 in
theorem l7Ref_any {cs : List Value} {x : Ref} {fx : List Nat} (w : World) (hx : Rp.ref.R w cs x fx) (hf : fitRef x) :
    Calls Tryd.prog 58 #[.agg cs.toArray] w fun e w' => e = .returned (.bool (namOk x.name && refOk x)) ∧ Below w.heap.size w w' := by
  obtain ⟨A0, n0, c0, f0, rfl, _, h0⟩ := hx
  obtain rfl := h0.1
  have hmx := h0.max
  obtain ⟨_, hcx, hmc, _⟩ := id h0
  have HF := hide hf
  have HS := hide (refOk_steps x)
  clear hf
  have kb := Blk.new w 61 #[.string x.name, .bool x.guard, .int .i64 x.count, .slice A0 x.versions.length c0]
  replace h0 := h0.allocN (.cells #[.string x.name, .bool x.guard, .int .i64 x.count, .slice A0 x.versions.length c0] 61)
  have HB := (Below.refl w.heap.size w).alloc (Nat.le_refl _) (.cells #[.string x.name, .bool x.guard, .int .i64 x.count, .slice A0 x.versions.length c0] 61)
  go_enter Tryd.func58, Tryd.ntmps58
  go_wp2_with fail
  refine (specNamOk_any x.name HF.out.name _).mono ?_
  rintro e w1 ⟨rfl, hb⟩
  replace kb := kb.step hb
  replace h0 := h0.step hb
  replace HB := Below.then_ HB hb
  clear hb
  cases hd : namOk x.name
  · have HR := hide (show (namOk x.name && refOk x) = false by rw [hd]; rfl)
    clear kb h0 hd
    go_wp2
    go_ret
    exact ⟨ret_bool (HR.out).symm, HB⟩
  · have HN0 := hide hd
    clear hd
    have c2 : w1.cell? ⟨w.heap.size, 2, none⟩ = some (.int .i64 x.count) := kb.cell 2
    go_wp2_with fail
    refine (specIn_any x.count 0 14 _).mono ?_
    rintro e w2 ⟨rfl, hb⟩
    replace kb := kb.step hb
    replace h0 := h0.step hb
    replace HB := Below.then_ HB hb
    clear hb
    clear c2
    cases hd1 : inB x.count 0 14
    · have HR := hide (show (namOk x.name && refOk x) = false by rw [HN0.out, HS.out, hd1]; rfl)
      clear kb h0 hd1
      go_wp2
      go_ret
      exact ⟨ret_bool (HR.out).symm, HB⟩
    · have H1 := hide hd1
      clear hd1
      have c3 : w2.cell? ⟨w.heap.size, 3, none⟩ = some (.slice A0 x.versions.length c0) := kb.cell 3
      go_wp2_with fail
      refine (specIn_any (x.versions.length : Int) 1 3 _).mono ?_
      rintro e w3 ⟨rfl, hb⟩
      replace kb := kb.step hb
      replace h0 := h0.step hb
      replace HB := Below.then_ HB hb
      clear hb
      clear c3
      cases hd2 : inB (x.versions.length : Int) 1 3
      · have HR := hide (show (namOk x.name && refOk x) = false by rw [HN0.out, HS.out, hd2, Bool.and_false]; rfl)
        clear kb h0 hd2
        go_wp2
        go_ret
        exact ⟨ret_bool (HR.out).symm, HB⟩
      · have H2 := hide hd2
        clear hd2
        have HSZ := HB.size
        go_wp2
        go_loopw [3] (fun i wr => ∃ k : Nat, k ≤ x.versions.length ∧ i = .int .i64 k ∧ oksTo (atB treOk x.versions) k ∧ Below w3.heap.size w3 wr) (fun i _ => x.versions.length - (intOf i).toNat)
        case atStart => exact ⟨0, Nat.zero_le _, rfl, oksTo_zero, Below.refl _ _⟩
        case round =>
          obtain ⟨k, hk, rfl, hag, hbl⟩ := hrel
          have HA := hide hag
          clear hag
          have kr := kb.step hbl
          have h0r := h0.step hbl
          have c3 : wr.cell? ⟨w.heap.size, 3, none⟩ = some (.slice A0 x.versions.length c0) := kr.cell 3
          by_cases hlt : k < x.versions.length
          · obtain ⟨b, o, A1, n1, c1, f1, rfl, hb, hm, g0, hs1, hsub⟩ := slice_cells h0r hlt
            obtain rfl := hs1.1
            have i0 : (0 : Int) ≤ (k : Int) := by omega
            have i1 : (k : Int) < (x.versions.length : Int) := by omega
            go_wp2_with fail
            refine (specTreOk_any _ hs1 (HF.out.versions k hlt)).mono ?_
            rintro e w4 ⟨rfl, hb4⟩
            have hbl' := Below.then_ hbl hb4
            have HE := hide (atB_eq (p := treOk) hlt)
            clear hb4 kr h0r g0 c3 hs1
            cases hd : treOk x.versions[k]
            · have HR := hide (show (namOk x.name && refOk x) = false by rw [HN0.out, HS.out, oksTo.not_ hlt (HE.out.trans hd)]; simp)
              clear hd
              go_wp2
              go_ret
              exact ⟨ret_bool (HR.out).symm, HB.trans (hbl'.mono HSZ)⟩
            · have HN := hide (HA.out.next (HE.out.trans hd))
              clear hd
              go_wp2
              exact ⟨⟨k + 1, by omega, by go_num, HN.out, hbl'⟩, by simp [intOf]; omega⟩
          · have hk' : k = x.versions.length := by omega
            subst hk'
            have HR := hide (show (namOk x.name && refOk x) = true by rw [HN0.out, HS.out, H1.out, H2.out, HA.out.all_]; rfl)
            have HBB := hide (HB.trans (hbl.mono HSZ))
            go_wp2
            go_ret
            exact ⟨ret_bool (HR.out).symm, HBB.out⟩

set_option maxHeartbeats 4000000 in
set_option maxRecDepth 20000 in
theorem l7Repo_any {cs : List Value} {x : Repo} {fx : List Nat} (u : Int) (w : World) (hx : Rp.repo.R w cs x fx) (hf : fitRepo x) :
    Calls Tryd.prog 31 #[.agg cs.toArray, .int .i64 u] w fun e w' => e = .returned (.bool (repoOk u x)) ∧ Below w.heap.size w w' := by
  obtain ⟨A0, n0, c0, f0, A1, n1, c1, f1, rfl, _, h0, h1⟩ := hx
  obtain rfl := h0.1
  obtain rfl := h1.1
  obtain ⟨_, hcx, hmc, _⟩ := id h1
  unfold maxLen at hmc
  have HF := hide hf
  have HS := hide (repoOk_steps u x)
  clear hf
  have kb := Blk.new w 52 #[.int .i64 x.admin, .slice A0 x.rules.length c0, .slice A1 x.refs.length c1]
  replace h0 := h0.allocN (.cells #[.int .i64 x.admin, .slice A0 x.rules.length c0, .slice A1 x.refs.length c1] 52)
  replace h1 := h1.allocN (.cells #[.int .i64 x.admin, .slice A0 x.rules.length c0, .slice A1 x.refs.length c1] 52)
  have HB := (Below.refl w.heap.size w).alloc (Nat.le_refl _) (.cells #[.int .i64 x.admin, .slice A0 x.rules.length c0, .slice A1 x.refs.length c1] 52)
  go_enter Tryd.func31, Tryd.ntmps31
  go_wp2_with fail
  refine (specIn_any x.admin 1 u _).mono ?_
  rintro e w1 ⟨rfl, hb⟩
  replace kb := kb.step hb
  replace h0 := h0.step hb
  replace h1 := h1.step hb
  replace HB := Below.then_ HB hb
  clear hb
  cases hd : inB x.admin 1 u
  · have HR := hide (show repoOk u x = false by rw [HS.out, hd]; rfl)
    clear kb h0 h1 hd
    go_wp2
    go_ret
    exact ⟨ret_bool (HR.out).symm, HB⟩
  · have H1 := hide hd
    clear hd
    have c1 : w1.cell? ⟨w.heap.size, 1, none⟩ = some (.slice A0 x.rules.length c0) := kb.cell 1
    go_wp2_with fail
    refine (specRulListOk_any _ h0 HF.out.rules).mono ?_
    rintro e w2 ⟨rfl, hb⟩
    replace kb := kb.step hb
    replace h0 := h0.step hb
    replace h1 := h1.step hb
    replace HB := Below.then_ HB hb
    clear hb
    clear c1
    cases hd : rulListOk x.rules
    · have HR := hide (show repoOk u x = false by rw [HS.out, hd]; simp)
      clear kb h0 h1 hd
      go_wp2
      go_ret
      exact ⟨ret_bool (HR.out).symm, HB⟩
    · have H2 := hide hd
      clear hd h0
      have c2 : w2.cell? ⟨w.heap.size, 2, none⟩ = some (.slice A1 x.refs.length c1) := kb.cell 2
      by_cases h3 : x.refs.length ≤ 3
      · have HSZ := HB.size
        go_wp2
        go_loopw [5] (fun i wr => ∃ k : Nat, k ≤ x.refs.length ∧ i = .int .i64 k ∧ oksTo (refAt x.refs) k ∧ Below w2.heap.size w2 wr) (fun i _ => x.refs.length - (intOf i).toNat)
        case atStart => exact ⟨0, Nat.zero_le _, rfl, oksTo_zero, Below.refl _ _⟩
        case round =>
          clear c2
          obtain ⟨k, hk, rfl, hag, hbl⟩ := hrel
          have HA := hide hag
          clear hag
          have kr := kb.step hbl
          have h1r := h1.step hbl
          have d2 : wr.cell? ⟨w.heap.size, 2, none⟩ = some (.slice A1 x.refs.length c1) := kr.cell 2
          by_cases hlt : k < x.refs.length
          · obtain ⟨b, o, A2, n2, c2, f2, rfl, hb, hm, q0, q1, q2, q3, hs2, hsub⟩ := ref_cells h1r hlt
            obtain rfl := hs2.1
            have HG := hide (HF.out.refs k hlt)
            have HNO := hide (fun (h : refAt x.refs k = false) => (show repoOk u x = false by rw [HS.out, oksTo.not_ hlt h]; simp))
            have H0 := hide (fun (h : k = 0) => refAt_fst hlt h)
            have H10 := hide (fun (j : Nat) (hj : j < x.refs.length) (h : k = j + 1) => refAt_snd hlt hj h)
            have i0 : (0 : Int) ≤ (k : Int) := by omega
            have i1 : (k : Int) < (x.refs.length : Int) := by omega
            have C1 := fun W (h : Rp.ref.R W [.string x.refs[k].name, .bool x.refs[k].guard, .int .i64 x.refs[k].count, .slice A2 x.refs[k].versions.length c2] x.refs[k] f2) => l7Ref_any W h HG.out
            cases hd : namOk x.refs[k].name && refOk x.refs[k]
            · simp only [hd] at C1
              have D1 := hide C1
              have HR := hide (HNO.out (show refAt x.refs k = false by unfold refAt; rw [atB_eq hlt, hd]; rfl))
              clear C1 hd
              go_wp2_with fail
              have n0 := BelowW.nonempty wr
              have e0 := BelowW.ex (w := wr)
              have g0 := fun n : BelowW wr => n.cell q0
              have g1 := fun n : BelowW wr => n.cell q1
              have g2 := fun n : BelowW wr => n.cell q2
              have g3 := fun n : BelowW wr => n.cell q3
              have g4 := fun n : BelowW wr => n.cell d2
              clear q0 q1 q2 q3 d2
              refine wp_region_below (by kernel_rfl) (by kernel_rfl) ?_
              repeat (go_big_quiet_step (first | (go_at_call 58; exact BelowW.calls _ (D1.out _ ⟨_, _, _, _, rfl, rfl, BelowW.sl _ hs2⟩))))
              refine wpQuiet_nil ?_
              rintro _ ⟨⟨w4, hb4⟩, rfl⟩
              have hbl' := hide (Below.then_ hbl hb4)
              clear hb4 e0 g0 g1 g2 g3 g4
              go_wp2
              go_ret
              exact ⟨ret_bool (HR.out).symm, HB.trans (hbl'.out.mono HSZ)⟩
            · simp only [hd] at C1
              have D1 := hide C1
              have HD := hide hd
              clear C1 hd
              rcases Nat.eq_zero_or_pos k with hk0 | hk0
              · have hz : decide (0 < k) = false := decide_eq_false (by omega)
                have HN := hide (HA.out.next ((H0.out hk0).trans HD.out))
                clear hk0
                go_wp2_with fail
                have n0 := BelowW.nonempty wr
                have e0 := BelowW.ex (w := wr)
                have g0 := fun n : BelowW wr => n.cell q0
                have g1 := fun n : BelowW wr => n.cell q1
                have g2 := fun n : BelowW wr => n.cell q2
                have g3 := fun n : BelowW wr => n.cell q3
                have g4 := fun n : BelowW wr => n.cell d2
                clear q0 q1 q2 q3 d2
                refine wp_region_below (by kernel_rfl) (by kernel_rfl) ?_
                repeat (go_big_quiet_step (first | (go_at_call 58; exact BelowW.calls _ (D1.out _ ⟨_, _, _, _, rfl, rfl, BelowW.sl _ hs2⟩))))
                refine wpQuiet_nil ?_
                rintro _ ⟨⟨w4, hb4⟩, rfl⟩
                have hbl' := hide (Below.then_ hbl hb4)
                clear hb4 e0 g0 g1 g2 g3 g4
                go_wp2
                exact ⟨⟨k + 1, by omega, by go_num, HN.out, hbl'.out⟩, by simp [intOf]; omega⟩
              · obtain ⟨j, hk0⟩ : ∃ j, k = j + 1 := ⟨k - 1, by omega⟩
                have hz : decide (0 < k) = true := decide_eq_true (by omega)
                have hj : j < x.refs.length := by omega
                have HE := hide (H10.out j hj hk0)
                obtain ⟨b', o', _, _, _, _, he, hb', hm', p0, p1, p2, p3, _, _⟩ := ref_cells h1r hj
                cases he
                have e1 : (k : Int) - 1 = (j : Int) := by omega
                have e2 : IntKind.i64.wrap (j : Int) = (j : Int) := IntWalk.i64_in _ (by omega)
                have j0 : (0 : Int) ≤ (j : Int) := by omega
                have j1 : (j : Int) < (x.refs.length : Int) := by omega
                clear hk0 p1 p2 p3
                cases hc : Op.bytesLess x.refs[j].name.toList x.refs[k].name.toList
                · have HR := hide (HNO.out (HE.out.trans (by rw [show bLt x.refs[j].name x.refs[k].name = false from hc, Bool.and_false])))
                  go_wp2_with fail
                  have n0 := BelowW.nonempty wr
                  have e0 := BelowW.ex (w := wr)
                  have g0 := fun n : BelowW wr => n.cell q0
                  have g1 := fun n : BelowW wr => n.cell q1
                  have g2 := fun n : BelowW wr => n.cell q2
                  have g3 := fun n : BelowW wr => n.cell q3
                  have g4 := fun n : BelowW wr => n.cell d2
                  have g5 := fun n : BelowW wr => n.cell p0
                  clear p0
                  clear q0 q1 q2 q3 d2
                  refine wp_region_below (by kernel_rfl) (by kernel_rfl) ?_
                  repeat (go_big_quiet_step (first | (go_at_call 58; exact BelowW.calls _ (D1.out _ ⟨_, _, _, _, rfl, rfl, BelowW.sl _ hs2⟩))))
                  refine wpQuiet_nil ?_
                  rintro _ ⟨⟨w4, hb4⟩, rfl⟩
                  have hbl' := hide (Below.then_ hbl hb4)
                  clear hb4 e0 g0 g1 g2 g3 g4
                  go_wp2
                  go_ret
                  exact ⟨ret_bool (HR.out).symm, HB.trans (hbl'.out.mono HSZ)⟩
                · have HN := hide (HA.out.next (HE.out.trans (by rw [show bLt x.refs[j].name x.refs[k].name = true from hc, HD.out]; rfl)))
                  go_wp2_with fail
                  have n0 := BelowW.nonempty wr
                  have e0 := BelowW.ex (w := wr)
                  have g0 := fun n : BelowW wr => n.cell q0
                  have g1 := fun n : BelowW wr => n.cell q1
                  have g2 := fun n : BelowW wr => n.cell q2
                  have g3 := fun n : BelowW wr => n.cell q3
                  have g4 := fun n : BelowW wr => n.cell d2
                  have g5 := fun n : BelowW wr => n.cell p0
                  clear p0
                  clear q0 q1 q2 q3 d2
                  refine wp_region_below (by kernel_rfl) (by kernel_rfl) ?_
                  repeat (go_big_quiet_step (first | (go_at_call 58; exact BelowW.calls _ (D1.out _ ⟨_, _, _, _, rfl, rfl, BelowW.sl _ hs2⟩))))
                  refine wpQuiet_nil ?_
                  rintro _ ⟨⟨w4, hb4⟩, rfl⟩
                  have hbl' := hide (Below.then_ hbl hb4)
                  clear hb4 e0 g0 g1 g2 g3 g4
                  clear hc g5 e1 e2 j0 j1
                  go_wp2
                  exact ⟨⟨k + 1, by omega, by go_num, HN.out, hbl'.out⟩, by simp [intOf]; omega⟩
          · have hk' : k = x.refs.length := by omega
            subst hk'
            have HR := hide (show repoOk u x = true by rw [HS.out, H1.out, H2.out, decide_eq_true h3, HA.out.all_]; rfl)
            have HBB := hide (HB.trans (hbl.mono HSZ))
            go_wp2
            go_ret
            exact ⟨ret_bool (HR.out).symm, HBB.out⟩
      · have HR := hide (show repoOk u x = false by rw [HS.out, decide_eq_false h3]; simp)
        clear kb h1
        go_wp2
        go_ret
        exact ⟨ret_bool (HR.out).symm, HB⟩

set_option maxHeartbeats 4000000 in
set_option maxRecDepth 20000 in
theorem specMdlOk_any {cs : List Value} {x : House} {fx : List Nat} (w : World) (hx : Rp.house.R w cs x fx) (hf : fitHouse x) :
    Calls Tryd.prog 15 #[.agg cs.toArray] w fun e w' => e = .returned (.bool (mdlOk x)) ∧ Below w.heap.size w w' := by
  obtain ⟨A0, n0, c0, f0, A1, n1, c1, f1, A2, n2, c2, f2, rfl, _, h0, h1, h2⟩ := hx
  obtain rfl := h0.1
  obtain rfl := h1.1
  obtain rfl := h2.1
  have hmx0 := h0.max
  have hmx1 := h1.max
  have hmx2 := h2.max
  have HF := hide hf
  have HS := hide (mdlOk_steps x)
  have HU := hide (usersOk_steps x.keys x.used)
  clear hf
  have kb := Blk.new w 25 #[.slice A0 x.keys.length c0, .slice A1 x.used.length c1, .slice A2 x.repos.length c2]
  replace h0 := h0.allocN (.cells #[.slice A0 x.keys.length c0, .slice A1 x.used.length c1, .slice A2 x.repos.length c2] 25)
  replace h1 := h1.allocN (.cells #[.slice A0 x.keys.length c0, .slice A1 x.used.length c1, .slice A2 x.repos.length c2] 25)
  replace h2 := h2.allocN (.cells #[.slice A0 x.keys.length c0, .slice A1 x.used.length c1, .slice A2 x.repos.length c2] 25)
  have HB := (Below.refl w.heap.size w).alloc (Nat.le_refl _) (.cells #[.slice A0 x.keys.length c0, .slice A1 x.used.length c1, .slice A2 x.repos.length c2] 25)
  go_enter Tryd.func15, Tryd.ntmps15
  go_wp2_with fail
  refine (specIn_any (x.keys.length : Int) 1 4 _).mono ?_
  rintro e w1 ⟨rfl, hb⟩
  replace kb := kb.step hb
  replace h0 := h0.step hb
  replace h1 := h1.step hb
  replace h2 := h2.step hb
  replace HB := Below.then_ HB hb
  clear hb
  have c0 : w1.cell? ⟨w.heap.size, 0, none⟩ = some (.slice A0 x.keys.length c0) := kb.cell 0
  have c1 : w1.cell? ⟨w.heap.size, 1, none⟩ = some (.slice A1 x.used.length c1) := kb.cell 1
  have c2 : w1.cell? ⟨w.heap.size, 2, none⟩ = some (.slice A2 x.repos.length c2) := kb.cell 2
  cases hd : inB (x.keys.length : Int) 1 4
  · have HR := hide (show mdlOk x = false by rw [HS.out, HU.out, hd]; rfl)
    clear hd
    go_wp2
    go_ret
    exact ⟨ret_bool (HR.out).symm, HB⟩
  · have H1 := hide hd
    clear hd
    by_cases hl : x.used.length = x.keys.length
    · have hl1 : ((x.used.length : Int) != (x.keys.length : Int)) = false := by simp [hl]
      have HL := hide hl
      clear hl
      go_wp2_with fail
      refine (specIn_any (x.repos.length : Int) 1 3 _).mono ?_
      rintro e w2 ⟨rfl, hb⟩
      replace kb := kb.step hb
      replace h0 := h0.step hb
      replace h1 := h1.step hb
      replace h2 := h2.step hb
      replace HB := Below.then_ HB hb
      clear hb
      clear c0 c1 c2
      clear hl1
      cases hd : inB (x.repos.length : Int) 1 3
      · have HR := hide (show mdlOk x = false by rw [HS.out, hd, Bool.and_false]; rfl)
        clear hd
        go_wp2
        go_ret
        exact ⟨ret_bool (HR.out).symm, HB⟩
      · have H3 := hide hd
        clear hd
        have HSZ := HB.size
        have c0 : w2.cell? ⟨w.heap.size, 0, none⟩ = some (.slice A0 x.keys.length c0) := kb.cell 0
        have c1 : w2.cell? ⟨w.heap.size, 1, none⟩ = some (.slice A1 x.used.length c1) := kb.cell 1
        have c2 : w2.cell? ⟨w.heap.size, 2, none⟩ = some (.slice A2 x.repos.length c2) := kb.cell 2
        go_wp2
        go_loopw [3] (fun i wr => ∃ k : Nat, k ≤ x.keys.length ∧ i = .int .i64 k ∧ oksTo (userAt x.keys x.used) k ∧ Below w2.heap.size w2 wr) (fun i _ => x.keys.length - (intOf i).toNat)
        case atStart => exact ⟨0, Nat.zero_le _, rfl, oksTo_zero, Below.refl _ _⟩
        case round =>
          clear c0 c1 c2
          obtain ⟨k, hk, rfl, hag, hbl⟩ := hrel
          have HA := hide hag
          clear hag
          have kr := kb.step hbl
          have h0r := h0.step hbl
          have h1r := h1.step hbl
          have d0 : wr.cell? ⟨w.heap.size, 0, none⟩ = some (.slice A0 x.keys.length c0) := kr.cell 0
          have d1 : wr.cell? ⟨w.heap.size, 1, none⟩ = some (.slice A1 x.used.length c1) := kr.cell 1
          have d2 : wr.cell? ⟨w.heap.size, 2, none⟩ = some (.slice A2 x.repos.length c2) := kr.cell 2
          by_cases hlt : k < x.keys.length
          · have hlt2 : k < x.used.length := by have := HL.out; omega
            have HE := hide (userAt_eq hlt hlt2)
            obtain ⟨b, o, rfl, hb, hm, q0⟩ := int_cells h0r hlt
            obtain ⟨b', o', rfl, hb', hm', p0⟩ := int_cells h1r hlt2
            have i0 : (0 : Int) ≤ (k : Int) := by omega
            have i1 : (k : Int) < (x.keys.length : Int) := by omega
            have i2 : (k : Int) < (x.used.length : Int) := by omega
            go_wp2_with fail
            refine (specIn_any x.keys[k] 1 9999 _).mono ?_
            rintro e w3 ⟨rfl, hb3⟩
            have hbl' := Below.then_ hbl hb3
            have d0' := cell_step d0 hb3
            have d1' := cell_step d1 hb3
            have p0' := cell_step p0 hb3
            clear hb3 d0 d1 d2 q0 p0 kr h0r h1r
            cases hd : inB x.keys[k] 1 9999
            · have HR := hide (show mdlOk x = false by rw [HS.out, HU.out, oksTo.not_ hlt (HE.out.trans (by rw [hd]; rfl))]; simp)
              clear hd
              go_wp2
              go_ret
              exact ⟨ret_bool (HR.out).symm, HB.trans (hbl'.mono HSZ)⟩
            · have HD := hide hd
              clear hd
              go_wp2_with fail
              refine (specIn_any x.used[k] 0 200 _).mono ?_
              rintro e w4 ⟨rfl, hb4⟩
              have hbl2 := Below.then_ hbl' hb4
              clear hb4 d0' d1' p0' hbl'
              cases hd : inB x.used[k] 0 200
              · have HR := hide (show mdlOk x = false by rw [HS.out, HU.out, oksTo.not_ hlt (HE.out.trans (by rw [hd, Bool.and_false]))]; simp)
                clear hd
                go_wp2
                go_ret
                exact ⟨ret_bool (HR.out).symm, HB.trans (hbl2.mono HSZ)⟩
              · have HN := hide (HA.out.next (HE.out.trans (by rw [HD.out, hd]; rfl)))
                clear hd
                go_wp2
                exact ⟨⟨k + 1, by omega, by go_num, HN.out, hbl2⟩, by simp [intOf]; omega⟩
          · have hk' : k = x.keys.length := by omega
            subst hk'
            have HUU := hide (show usersOk x.keys x.used = true by rw [HU.out, H1.out, decide_eq_true HL.out, HA.out.all_]; rfl)
            have hbl0 := hbl
            go_wp2
            go_loopw [4] (fun i wr => ∃ k : Nat, k ≤ x.repos.length ∧ i = .int .i64 k ∧ oksTo (atB (repoOk x.keys.length) x.repos) k ∧ Below w2.heap.size w2 wr) (fun i _ => x.repos.length - (intOf i).toNat)
            case atStart => exact ⟨0, Nat.zero_le _, rfl, oksTo_zero, hbl0⟩
            case round =>
              clear hbl hbl0 kr h0r h1r d0 d1 d2
              obtain ⟨k, hk, rfl, hag, hbl⟩ := hrel
              clear HA
              have HA := hide hag
              clear hag
              have kr := kb.step hbl
              have h2r := h2.step hbl
              have d0 : wr.cell? ⟨w.heap.size, 0, none⟩ = some (.slice A0 x.keys.length c0) := kr.cell 0
              have d2 : wr.cell? ⟨w.heap.size, 2, none⟩ = some (.slice A2 x.repos.length c2) := kr.cell 2
              by_cases hlt : k < x.repos.length
              · obtain ⟨b, o, B0, m0, k0, g0, B1, m1, k1, g1, rfl, hb, hm, q0, q1, q2, hs0, hs1, hsub⟩ := repo_cells h2r hlt
                have HE := hide (atB_eq (p := repoOk x.keys.length) hlt)
                have i0 : (0 : Int) ≤ (k : Int) := by omega
                have i1 : (k : Int) < (x.repos.length : Int) := by omega
                have C1 := fun W (h : Rp.repo.R W [.int .i64 x.repos[k].admin, .slice B0 m0 k0, .slice B1 m1 k1] x.repos[k] (g0 ++ g1)) => l7Repo_any (x.keys.length : Int) W h (HF.out k hlt)
                cases hd : repoOk x.keys.length x.repos[k]
                · have HR := hide (show mdlOk x = false by rw [HS.out, oksTo.not_ hlt (HE.out.trans hd)]; simp)
                  simp only [hd] at C1
                  have D1 := hide C1
                  clear C1 hd
                  go_wp2_with fail
                  have n0 := BelowW.nonempty wr
                  have e0 := BelowW.ex (w := wr)
                  have g_0 := fun n : BelowW wr => n.cell q0
                  have g_1 := fun n : BelowW wr => n.cell q1
                  have g_2 := fun n : BelowW wr => n.cell q2
                  have g_3 := fun n : BelowW wr => n.cell d0
                  have g_4 := fun n : BelowW wr => n.cell d2
                  clear q0 q1 q2 d0 d2
                  refine wp_region_below (by kernel_rfl) (by kernel_rfl) ?_
                  repeat (go_big_quiet_step (first | (go_at_call 31; exact BelowW.calls _ (D1.out _ ⟨_, _, _, _, _, _, _, _, rfl, rfl, BelowW.sl _ hs0, BelowW.sl _ hs1⟩))))
                  refine wpQuiet_nil ?_
                  rintro _ ⟨⟨w4, hb4⟩, rfl⟩
                  have hbl' := hide (Below.then_ hbl hb4)
                  clear hb4 e0 g_0 g_1 g_2 g_3 g_4
                  go_wp2
                  go_ret
                  exact ⟨ret_bool (HR.out).symm, HB.trans (hbl'.out.mono HSZ)⟩
                · have HN := hide (HA.out.next (HE.out.trans hd))
                  simp only [hd] at C1
                  have D1 := hide C1
                  clear C1 hd
                  go_wp2_with fail
                  have n0 := BelowW.nonempty wr
                  have e0 := BelowW.ex (w := wr)
                  have g_0 := fun n : BelowW wr => n.cell q0
                  have g_1 := fun n : BelowW wr => n.cell q1
                  have g_2 := fun n : BelowW wr => n.cell q2
                  have g_3 := fun n : BelowW wr => n.cell d0
                  have g_4 := fun n : BelowW wr => n.cell d2
                  clear q0 q1 q2 d0 d2
                  refine wp_region_below (by kernel_rfl) (by kernel_rfl) ?_
                  repeat (go_big_quiet_step (first | (go_at_call 31; exact BelowW.calls _ (D1.out _ ⟨_, _, _, _, _, _, _, _, rfl, rfl, BelowW.sl _ hs0, BelowW.sl _ hs1⟩))))
                  refine wpQuiet_nil ?_
                  rintro _ ⟨⟨w4, hb4⟩, rfl⟩
                  have hbl' := hide (Below.then_ hbl hb4)
                  clear hb4 e0 g_0 g_1 g_2 g_3 g_4
                  go_wp2
                  exact ⟨⟨k + 1, by omega, by go_num, HN.out, hbl'.out⟩, by simp [intOf]; omega⟩
              · have hk' : k = x.repos.length := by omega
                subst hk'
                have HR := hide (show mdlOk x = true by rw [HS.out, HUU.out, H3.out, HA.out.all_]; rfl)
                have HBB := hide (HB.trans (hbl.mono HSZ))
                go_wp2
                go_ret
                exact ⟨ret_bool (HR.out).symm, HBB.out⟩
    · have hl1 : ((x.used.length : Int) != (x.keys.length : Int)) = true := by simp; omega
      have HR := hide (show mdlOk x = false by rw [HS.out, HU.out, decide_eq_false hl]; simp)
      clear hl
      go_wp2
      go_ret
      exact ⟨ret_bool (HR.out).symm, HB⟩
end Go.Proofs.YtnogkkcmcnhodaaDoor
