/- Walks: what may be read; MdlSees of the reference and of the program. By program (wip/gen/gen_sees.py). -/
import Derived.Test.YtnogkkcmcnhodaaGreatDoorMf
namespace Go.Proofs.YtnogkkcmcnhodaaGreatDoor
open Go.RowKit
attribute [local go_sem ↓] Go.wp_at_zero Go.wp_at_succ

def rdB (rules : List Rule) (user : Int) (ref : ByteArray) (f : File) : Bool := rulMay rules user ref f.path false
theorem readable_yes {rules : List Rule} {user : Int} {ref : ByteArray} {l : List File} {k : Nat} (hk : k < l.length) (h : rulMay rules user ref l[k].path false = true) : readable rules user ref (l.take (k + 1)) = readable rules user ref (l.take k) ++ [l[k]] := by
  unfold readable
  rw [List.take_succ_eq_append_getElem hk, List.filter_append, show List.filter (fun f => rulMay rules user ref f.path false) [l[k]] = [l[k]] by simp [h]]
theorem readable_no {rules : List Rule} {user : Int} {ref : ByteArray} {l : List File} {k : Nat} (hk : k < l.length) (h : rulMay rules user ref l[k].path false = false) : readable rules user ref (l.take (k + 1)) = readable rules user ref (l.take k) := by
  unfold readable
  rw [List.take_succ_eq_append_getElem hk, List.filter_append, show List.filter (fun f => rulMay rules user ref f.path false) [l[k]] = [] by simp [h], List.append_nil]
theorem readable_le (rules : List Rule) (user : Int) (ref : ByteArray) (l : List File) (k : Nat) : (readable rules user ref (l.take k)).length ≤ l.length :=
  Nat.le_trans (List.length_filter_le _ _) (by simp; omega)
theorem treOk_fit {l : List File} (h : treOk l = true) : fitFiles l := fun i hi => by
  have h1 := (treOk_iff.1 h).2.1 _ (List.getElem_mem hi)
  simp only [fileOk, Bool.and_eq_true] at h1
  have := pthOk_size h1.1.1
  omega
theorem mdlFiles_some {m : House} {repo back : Int} {name : ByteArray} {l : List File} (h : mdlFiles m repo name back = some l) : treOk l = true ∧ ∃ i : Nat, repo = (i : Int) ∧ i < m.repos.length := by
  cases hm : mdlOk m
  · rw [mdlFiles_no hm] at h; cases h
  · rw [mdlFiles_ok hm] at h
    refine ⟨filesOf_ok hm h, ?_⟩
    cases hd : inB repo 0 ((m.repos.length : Int) - 1)
    · rw [filesOf_out hd] at h; cases h
    · obtain ⟨h1, h2⟩ := inB_iff.1 hd
      exact ⟨repo.toNat, by omega, by omega⟩
theorem mdlSees_none {m : House} {user repo back : Int} {name : ByteArray} (h : mdlFiles m repo name back = none) : mdlSees m user repo name back = [] := by
  unfold mdlSees
  rw [h]
theorem mdlSees_some {m : House} {user back : Int} {i : Nat} {name : ByteArray} {l : List File} (h : mdlFiles m (i : Int) name back = some l) (hi : i < m.repos.length) : mdlSees m user (i : Int) name back = readable m.repos[i].rules user name l := by
  unfold mdlSees
  rw [h, Int.toNat_natCast, getD_at hi]
theorem mdlSees_len (m : House) (user repo : Int) (name : ByteArray) (back : Int) : (mdlSees m user repo name back).length ≤ 60 := by
  cases h : mdlFiles m repo name back with
  | none => rw [mdlSees_none h]; simp
  | some l =>
    obtain ⟨h1, i, rfl, hi⟩ := mdlFiles_some h
    rw [mdlSees_some h hi]
    exact Nat.le_trans (List.length_filter_le _ _) (treOk_iff.1 h1).1

set_option maxHeartbeats 4000000 in
set_option maxRecDepth 20000 in
theorem readable_any {A A0 : Option Addr} {n c n0 c0 : Nat} {l : List File} {rules : List Rule} {fp f0 : List Nat} (user : Int) (ref : ByteArray) (w : World) (h0 : SlR Rp.rule w A0 n0 c0 rules f0) (hx : SlR Rp.file w A n c l fp) (hr : fitRules rules) (hf : fitFiles l) (hl : l.length ≤ 4194304) :
    Calls Tryz.prog 70 #[.slice A0 n0 c0, .int .i64 user, .string ref, .slice A n c] w (OwnF 104 2 encFile w (readable rules user ref l)) := by
  obtain rfl := hx.1
  obtain ⟨i0, hi, hz0, hz1, hz2⟩ := info_parts infoC_File
  have HR := hide hr
  have HF := hide hf
  clear hr hf
  go_enter Tryz.func70, Tryz.ntmps70
  go_wp2
  go_loopw [9, 14] (fun v i wr => ∃ k : Nat, k ≤ l.length ∧ i = .int .i64 k ∧ wr.ownsRow w.heap.size 104 2 v (readable rules user ref (l.take k)).length ((readable rules user ref (l.take k)).flatMap encFile) ∧ Below w.heap.size w wr) (fun _ i _ => l.length - (intOf i).toNat)
  case atStart => exact ⟨0, Nat.zero_le _, rfl, World.ownsRow_nil _ _ _ _, Below.refl _ _⟩
  case round =>
    obtain ⟨k, hk, rfl, hown, hbl⟩ := hrel
    have hsz := hbl.size
    have hle := readable_le rules user ref l k
    by_cases hlt : k < l.length
    · obtain ⟨b, o, rfl, hb, hm, q0, q1⟩ := file_cells (hx.step hbl) hlt
      have HY := hide (fun (h : rulMay rules user ref l[k].path false = true) => readable_yes hlt h)
      have HN := hide (fun (h : rulMay rules user ref l[k].path false = false) => readable_no hlt h)
      have HFK := hide (HF.out k hlt)
      generalize hg : l[k] = f at q0 q1 HY HN HFK
      clear hg
      have kq := Blk.new wr 104 #[.string f.path, .string f.bytes]
      have i1 : (k : Int) < (l.length : Int) := by omega
      have HW := hide hown
      clear hown
      go_wp2_with fail
      refine (implRulMay_any user ref f.path false _ ((h0.step hbl).allocN _) HR.out HFK.out).mono ?_
      rintro e w1 ⟨rfl, hb1⟩
      have hown1 := own_step (HW.out.alloc _) hb1
      replace kq := kq.step hb1
      have hbl1 := (hbl.alloc hbl.size (.cells #[.string f.path, .string f.bytes] 104)).trans (hb1.mono (by simp; omega))
      have hsz1 := hbl1.size
      clear hb1 q0 q1 HW
      cases hd : rulMay rules user ref f.path false
      · have HE := hide (HN.out hd)
        have HW := hide hown1
        clear hd hown1 kq
        go_wp2
        refine ⟨⟨k + 1, by omega, by go_num, ?_, hbl1⟩, by simp [intOf]; omega⟩
        rw [HE.out]
        exact HW.out
      · have HE := hide (HY.out hd)
        clear hd
        have u0 : w1.cell? ⟨wr.heap.size, 0, none⟩ = some (.string f.path) := kq.cell 0
        have u1 : w1.cell? ⟨wr.heap.size, 1, none⟩ = some (.string f.bytes) := kq.cell 1
        go_wp2_with (at_builtin; refine wpList_append_own _ rfl _ _ 36 rfl w.heap.size 104 i0 _ 2 32 Tryz.underlying36 hi hz0 hz1 hz2 rfl (by decide) _ _ _ rfl (hown1.alloc _) ⟨w1.heap.size, 0, none⟩ 1 1 (encFile f) rfl rfl (news_alloc w1 (encFile f) _) (Rp.file.one (w := w1) ⟨rfl, rfl⟩) (by unfold maxLen; omega) (by omega) (by simp; omega) ?_)
        intro v' w5 hown' hgrow _
        have HO := hide hown'
        have HBB := hide ((hbl1.alloc hbl1.size _).grown hgrow (by simp; omega) (fun j hj => (hown1.lt j hj).1))
        clear hown' hgrow hown1 kq u0 u1 hbl1
        go_wp2
        refine ⟨⟨k + 1, by omega, by go_num, ?_, HBB.out⟩, by simp [intOf]; omega⟩
        rw [HE.out, List.length_append, List.flatMap_append, List.flatMap_singleton]
        exact HO.out
    · have hk' : k = l.length := by omega
      subst hk'
      rw [List.take_of_length_le (Nat.le_refl _)] at hown
      have HO := hide hown
      clear hown
      go_wp2
      go_ret
      exact ⟨_, rfl, HO.out, hbl⟩

set_option maxHeartbeats 4000000 in
set_option maxRecDepth 20000 in
theorem implMdlSees_any {cs : List Value} {x : House} {fx : List Nat} (user repo : Int) (name : ByteArray) (back : Int) (hb1 : back ≤ 9223372036854775807) (w : World) (hx : Rp.house.R w cs x fx) (hf : fitHouse x) :
    Calls Tryz.prog 26 #[.agg cs.toArray, .int .i64 user, .int .i64 repo, .string name, .int .i64 back] w (OwnF 104 2 encFile w (mdlSees x user repo name back)) := by
  have hx0 := hx
  obtain ⟨A0, n0, c0, f0, A1, n1, c1, f1, A2, n2, c2, f2, rfl, hff, h0, h1, h2⟩ := hx
  obtain rfl := h2.1
  have RH := hide (fun (W : World) (hb : Below w.heap.size w W) => Rp.house.below hx0 hb (Nat.le_refl _))
  have HF := hide hf
  clear hx0 h0 h1 hff hf
  have kb := Blk.new w 35 #[.slice A0 n0 c0, .slice A1 n1 c1, .slice A2 x.repos.length c2]
  replace h2 := h2.allocN (.cells #[.slice A0 n0 c0, .slice A1 n1 c1, .slice A2 x.repos.length c2] 35)
  have HB := (Below.refl w.heap.size w).alloc (Nat.le_refl _) (.cells #[.slice A0 n0 c0, .slice A1 n1 c1, .slice A2 x.repos.length c2] 35)
  go_enter Tryz.func26, Tryz.ntmps26
  go_wp2_with fail
  refine (implMdlFiles_any (x := x) repo name back hb1 _ (RH.out _ HB) HF.out).mono ?_
  rintro e w1 ⟨v, rfl, hown, hb⟩
  replace kb := kb.step hb
  replace h2 := h2.step hb
  replace HB := Below.then_ HB hb
  have HSZ := HB.size
  clear hb
  cases hmf : mdlFiles x repo name back with
  | none =>
    have HV := hide (mdlSees_none (user := user) hmf)
    rw [hmf] at hown
    clear hmf
    obtain ⟨A5, c5, f5, rfl, hs5, _, _, _⟩ := own_sl (k := 2) (enc := encFile) (hk := fun _ => rfl) (h1 := encFile_one) hown
    clear hown
    go_wp2
    go_ret
    rw [HV.out]
    exact ⟨_, rfl, World.ownsRow_nil _ _ _ _, HB⟩
  | some l =>
    obtain ⟨hto, i, rfl, hi2⟩ := mdlFiles_some hmf
    have HV := hide (mdlSees_some (user := user) hmf hi2)
    have HFF := hide (treOk_fit hto)
    have hll := (treOk_iff.1 hto).1
    rw [hmf] at hown
    clear hmf hto
    obtain ⟨A5, c5, f5, rfl, hs5, _, _, _⟩ := own_sl (l := l) (k := 2) (enc := encFile) (hk := fun _ => rfl) (h1 := encFile_one) hown
    clear hown
    have i1 : (i : Int) < (x.repos.length : Int) := by omega
    have i2 : (0 : Int) ≤ (i : Int) := by omega
    have HRU := hide (HF.out i hi2).rules
    obtain ⟨b, o, B0, m0, k0, g0, B1, m1, k1, g1, rfl, hb, hm, q0, q1, q2, hs0, hs1, hsub⟩ := repo_cells h2 hi2
    have u2 : w1.cell? ⟨w.heap.size, 2, none⟩ = some (.slice (some ⟨b, o, none⟩) x.repos.length c2) := kb.cell 2
    go_wp2_with fail
    refine (readable_any user name _ hs0 hs5 HRU.out HFF.out (by omega)).mono ?_
    rintro e w2 ⟨v2, rfl, hown2, hb⟩
    have HO := hide (own_base hown2 HB.size)
    replace HB := Below.then_ HB hb
    clear hown2 hb q0 q1 q2 u2
    go_wp2
    go_ret
    rw [HV.out]
    exact ⟨_, rfl, HO.out, HB⟩

set_option maxHeartbeats 4000000 in
set_option maxRecDepth 20000 in
theorem specMdlSees_any {cs : List Value} {x : House} {fx : List Nat} (user repo : Int) (name : ByteArray) (back : Int) (hb1 : back ≤ 9223372036854775807) (w : World) (hx : Rp.house.R w cs x fx) (hf : fitHouse x) :
    Calls Tryz.prog 25 #[.agg cs.toArray, .int .i64 user, .int .i64 repo, .string name, .int .i64 back] w (OwnF 104 2 encFile w (mdlSees x user repo name back)) := by
  have hx0 := hx
  obtain ⟨A0, n0, c0, f0, A1, n1, c1, f1, A2, n2, c2, f2, rfl, hff, h0, h1, h2⟩ := hx
  obtain rfl := h2.1
  have RH := hide (fun (W : World) (hb : Below w.heap.size w W) => Rp.house.below hx0 hb (Nat.le_refl _))
  have HF := hide hf
  clear hx0 h0 h1 hff hf
  obtain ⟨i0, hi0, hz0, hz1, hz2⟩ := info_parts infoC_File
  have hi := hi0
  have kb := Blk.new w 35 #[.slice A0 n0 c0, .slice A1 n1 c1, .slice A2 x.repos.length c2]
  replace h2 := h2.allocN (.cells #[.slice A0 n0 c0, .slice A1 n1 c1, .slice A2 x.repos.length c2] 35)
  have HB := (Below.refl w.heap.size w).alloc (Nat.le_refl _) (.cells #[.slice A0 n0 c0, .slice A1 n1 c1, .slice A2 x.repos.length c2] 35)
  go_enter Tryz.func25, Tryz.ntmps25
  go_wp2_with fail
  refine (specMdlFiles_any (x := x) repo name back hb1 _ (RH.out _ HB) HF.out).mono ?_
  rintro e w1 ⟨v, rfl, hown, hb⟩
  replace kb := kb.step hb
  replace h2 := h2.step hb
  replace HB := Below.then_ HB hb
  have HSZ := HB.size
  clear hb
  cases hmf : mdlFiles x repo name back with
  | none =>
    have HV := hide (mdlSees_none (user := user) hmf)
    rw [hmf] at hown
    clear hmf
    obtain ⟨A5, c5, f5, rfl, hs5, _, _, _⟩ := own_sl (k := 2) (enc := encFile) (hk := fun _ => rfl) (h1 := encFile_one) hown
    clear hown
    have HM := hide (World.ownsRow_made (base := w.heap.size) (e := 104) (size := 2) w1 #[] 0 HB.size (by simp [maxLen]) rfl)
    have HBB := hide (HB.alloc HB.size (.cells #[] 104))
    clear h2 kb
    go_wp2
    go_loopw [13, 14] (fun v i wr => v = .slice (some ⟨w1.heap.size, 0, none⟩) 0 0 ∧ i = .int .i64 0 ∧ wr.ownsRow w.heap.size 104 2 v 0 [] ∧ Below w.heap.size w wr) (fun _ _ _ => 0)
    case atStart => exact ⟨rfl, rfl, HM.out, HBB.out⟩
    case round =>
      obtain ⟨rfl, rfl, hO, hBB⟩ := hrel
      have HO := hide hO
      clear hO
      go_wp2
      go_ret
      rw [HV.out]
      exact ⟨_, rfl, HO.out, hBB⟩
  | some l =>
    obtain ⟨hto, i, rfl, hi2⟩ := mdlFiles_some hmf
    have HV := hide (mdlSees_some (user := user) hmf hi2)
    have HFF := hide (treOk_fit hto)
    have hll := (treOk_iff.1 hto).1
    rw [hmf] at hown
    clear hmf hto
    obtain ⟨A5, c5, f5, rfl, hs5, _, _, _⟩ := own_sl (l := l) (k := 2) (enc := encFile) (hk := fun _ => rfl) (h1 := encFile_one) hown
    clear hown
    have i1 : (i : Int) < (x.repos.length : Int) := by omega
    have i2 : (0 : Int) ≤ (i : Int) := by omega
    have HRU := hide (HF.out i hi2).rules
    have HM2 := hide (World.ownsRow_made (base := w1.heap.size) (e := 104) (size := 2) w1 #[] 0 (Nat.le_refl _) (by simp [maxLen]) rfl)
    have HBB := hide ((Below.refl w1.heap.size w1).alloc (Nat.le_refl _) (.cells #[] 104))
    go_wp2
    go_loopw [13, 14] (fun v iv wr => ∃ k : Nat, k ≤ l.length ∧ iv = .int .i64 k ∧ wr.ownsRow w1.heap.size 104 2 v (readable x.repos[i].rules user name (l.take k)).length ((readable x.repos[i].rules user name (l.take k)).flatMap encFile) ∧ Below w1.heap.size w1 wr) (fun _ i _ => l.length - (intOf i).toNat)
    case atStart => exact ⟨0, Nat.zero_le _, rfl, HM2.out, HBB.out⟩
    case round =>
      obtain ⟨k, hk, rfl, hown, hbl⟩ := hrel
      have hsz := hbl.size
      have hle := readable_le x.repos[i].rules user name l k
      have kr := kb.step hbl
      by_cases hlt : k < l.length
      · obtain ⟨b3, o3, rfl, hb3, hm3, t0, t1⟩ := file_cells (hs5.step hbl) hlt
        obtain ⟨b, o, B0, m0, k0, g0, B1, m1, k1, g1, rfl, hb, hm, q0, q1, q2, hs0, hs1, hsub⟩ := repo_cells (h2.step hbl) hi2
        have u2 : wr.cell? ⟨w.heap.size, 2, none⟩ = some (.slice (some ⟨b, o, none⟩) x.repos.length c2) := kr.cell 2
        have HY := hide (fun (h : rulMay x.repos[i].rules user name l[k].path false = true) => readable_yes hlt h)
        have HN := hide (fun (h : rulMay x.repos[i].rules user name l[k].path false = false) => readable_no hlt h)
        have HFK := hide (HFF.out k hlt)
        have j1 : (k : Int) < (l.length : Int) := by omega
        have j0 : (0 : Int) ≤ (k : Int) := by omega
        have HW := hide hown
        clear hown q0 q2 kr
        have C1 := fun W (h : SlR Rp.rule W B0 m0 k0 x.repos[i].rules g0) => specRulMay_any user name l[k].path false W h HRU.out HFK.out
        cases hd : rulMay x.repos[i].rules user name l[k].path false
        · have HE := hide (HN.out hd)
          simp only [hd] at C1
          have D1 := hide C1
          clear C1 hd
          go_wp2_with fail
          have n0 := BelowW.nonempty wr
          have e0 := BelowW.ex (w := wr)
          have g_0 := fun n : BelowW wr => n.cell u2
          have g_1 := fun n : BelowW wr => n.cell q1
          have g_2 := fun n : BelowW wr => n.cell t0
          clear u2 q1 t0
          refine wp_region_below (by kernel_rfl) (by kernel_rfl) ?_
          repeat (go_big_quiet_step (first | (go_at_call 69; exact BelowW.calls _ (D1.out _ (BelowW.sl _ hs0)))))
          refine wpQuiet_nil ?_
          rintro _ ⟨⟨w4, hb4⟩, rfl⟩
          have hbl' := Below.then_ hbl hb4
          have hown1 := own_step HW.out hb4
          have HO := hide hown1
          clear hb4 e0 g_0 g_1 g_2 HW hown1 t1
          go_wp2
          refine ⟨⟨k + 1, by omega, by go_num, ?_, hbl'⟩, by simp [intOf]; omega⟩
          rw [HE.out]
          exact HO.out
        · have HE := hide (HY.out hd)
          simp only [hd] at C1
          have D1 := hide C1
          clear C1 hd
          go_wp2_with fail
          have n0 := BelowW.nonempty wr
          have e0 := BelowW.ex (w := wr)
          have g_0 := fun n : BelowW wr => n.cell u2
          have g_1 := fun n : BelowW wr => n.cell q1
          have g_2 := fun n : BelowW wr => n.cell t0
          clear u2 q1
          refine wp_region_below (by kernel_rfl) (by kernel_rfl) ?_
          repeat (go_big_quiet_step (first | (go_at_call 69; exact BelowW.calls _ (D1.out _ (BelowW.sl _ hs0)))))
          refine wpQuiet_nil ?_
          rintro _ ⟨⟨w4, hb4⟩, rfl⟩
          have hbl' := Below.then_ hbl hb4
          have hown1 := own_step HW.out hb4
          have v0 := cell_step t0 hb4
          have v1 := cell_step t1 hb4
          have hsz4 := hbl'.size
          clear hb4 e0 g_0 g_1 g_2 t0 t1 HW
          go_wp2_with (at_builtin; refine wpList_append_own _ rfl _ _ 36 rfl w1.heap.size 104 i0 _ 2 32 Tryz.underlying36 hi hz0 hz1 hz2 rfl (by decide) _ _ _ rfl (hown1.alloc _) ⟨_, 0, none⟩ 1 1 (encFile l[k]) rfl rfl (news_alloc _ (encFile l[k]) _) (Rp.file.one (w := w1) ⟨rfl, rfl⟩) (by unfold maxLen; omega) (by omega) (by simp; omega) ?_)
          intro v' w5 hown' hgrow _
          have HO := hide hown'
          have HB5 := hide ((hbl'.alloc hbl'.size _).grown hgrow (by simp; omega) (fun j hj => (hown1.lt j hj).1))
          clear hown' hgrow hown1 hbl' v0 v1
          go_wp2
          refine ⟨⟨k + 1, by omega, by go_num, ?_, HB5.out⟩, by simp [intOf]; omega⟩
          rw [HE.out, List.length_append, List.flatMap_append, List.flatMap_singleton]
          exact HO.out
      · have hk' : k = l.length := by omega
        subst hk'
        rw [List.take_of_length_le (Nat.le_refl _)] at hown
        have HO := hide (own_base hown HB.size)
        have HB5 := hide (HB.trans (hbl.mono HB.size))
        clear hown
        go_wp2
        go_ret
        rw [HV.out]
        exact ⟨_, rfl, HO.out, HB5.out⟩

end Go.Proofs.YtnogkkcmcnhodaaGreatDoor
