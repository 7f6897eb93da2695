/- Walks: the place of a ref, a version, MdlFiles; of the reference and of the program. By program (wip/gen/gen_files.py). -/
import Derived.Test.YtnogkkcmcnhodaaGreatDoorMp
import Derived.Test.YtnogkkcmcnhodaaGreatDoorTr
namespace Go.Proofs.YtnogkkcmcnhodaaGreatDoor
open Go.RowKit
attribute [local go_sem ↓] Go.wp_at_zero Go.wp_at_succ

def nameIs (name : ByteArray) (x : Ref) : Bool := decide (x.name = name)
theorem idxP_at {α : Type} (q : α → Bool) (l : List α) : (l.findIdx? q = none ∧ idxP q l = -1) ∨ ∃ k, l.findIdx? q = some k ∧ k < l.length ∧ idxP q l = k := by
  unfold idxP
  cases h : l.findIdx? q with
  | none => exact .inl ⟨rfl, rfl⟩
  | some k => exact .inr ⟨k, rfl, (List.findIdx?_eq_some_iff_getElem.1 h).1, rfl⟩
theorem version_neg {vs : List (List File)} {b : Int} (h : b < 0) : version vs b = none := by unfold version; rw [if_neg (by omega)]
theorem version_far {vs : List (List File)} {b : Int} (h : (vs.length : Int) ≤ b) : version vs b = none := by unfold version; rw [if_neg (by omega)]
theorem version_at {vs : List (List File)} {b : Int} {j : Nat} (h0 : 0 ≤ b) (h : (j : Int) = vs.length - 1 - b) (hj : j < vs.length) : version vs b = some vs[j] := by
  unfold version
  rw [if_pos (by omega), show vs.length - 1 - b.toNat = j by omega]
  exact List.getElem?_eq_getElem hj
theorem filesOf_out {m : House} {repo back : Int} {name : ByteArray} (h : inB repo 0 ((m.repos.length : Int) - 1) = false) : filesOf m repo name back = none := by
  unfold filesOf
  by_cases h0 : 0 ≤ repo
  · rw [if_pos h0]
    have : ¬ repo.toNat < m.repos.length := fun hc => by
      have : inB repo 0 ((m.repos.length : Int) - 1) = true := by simp [inB]; omega
      rw [this] at h; cases h
    rw [List.getElem?_eq_none (by omega)]
  · rw [if_neg h0]
theorem filesOf_none {m : House} {i : Nat} {repo back : Int} {name : ByteArray} (hr : repo = i) (hi : i < m.repos.length) (h : m.repos[i].refs.findIdx? (nameIs name) = none) : filesOf m repo name back = none := by
  subst hr
  unfold filesOf
  rw [if_pos (by omega), Int.toNat_natCast, List.getElem?_eq_getElem hi]
  simp only
  rw [show refIdx m.repos[i].refs name = none from h]
theorem filesOf_some {m : House} {i k : Nat} {repo back : Int} {name : ByteArray} (hr : repo = i) (hi : i < m.repos.length) (hk : k < m.repos[i].refs.length) (h : m.repos[i].refs.findIdx? (nameIs name) = some k) : filesOf m repo name back = version m.repos[i].refs[k].versions back := by
  subst hr
  unfold filesOf
  rw [if_pos (by omega), Int.toNat_natCast, List.getElem?_eq_getElem hi]
  simp only
  rw [show refIdx m.repos[i].refs name = some k from h]
  simp only
  rw [getD_at hk]
/-- What lies at a place of another's memory, and whether it is there. -/
def FilesAt (w : World) (o : Option (List File)) (f0 : List Nat) (e : Ending) (w' : World) : Prop :=
  ∃ A n c f, e = .returned (.tuple #[.slice A n c, .bool o.isSome]) ∧ SlR Rp.file w' A n c (o.getD []) f ∧ (∀ z ∈ f, z ∈ f0) ∧ Below w.heap.size w w'
/-- Files of the call's own, and whether they are there. -/
def FilesOwn (w : World) (o : Option (List File)) (e : Ending) (w' : World) : Prop :=
  ∃ v, e = .returned (.tuple #[v, .bool o.isSome]) ∧ w'.ownsRow w.heap.size 104 2 v (o.getD []).length ((o.getD []).flatMap encFile) ∧ Below w.heap.size w w'

set_option maxHeartbeats 4000000 in
set_option maxRecDepth 20000 in
theorem l7At_any {cs : List Value} {x : Repo} {fx : List Nat} (name : ByteArray) (w : World) (hx : Rp.repo.R w cs x fx) :
    Calls Tryz.prog 63 #[.agg cs.toArray, .string name] w fun e w' => e = .returned (.int .i64 (idxP (nameIs name) x.refs)) ∧ Below w.heap.size w w' := by
  obtain ⟨A0, n0, c0, f0, A1, n1, c1, f1, rfl, _, h0, h1⟩ := hx
  obtain rfl := h1.1
  have hmx := h1.max
  have kb := Blk.new w 96 #[.int .i64 x.admin, .slice A0 n0 c0, .slice A1 x.refs.length c1]
  replace h1 := h1.allocN (.cells #[.int .i64 x.admin, .slice A0 n0 c0, .slice A1 x.refs.length c1] 96)
  have HB := (Below.refl w.heap.size w).alloc (Nat.le_refl _) (.cells #[.int .i64 x.admin, .slice A0 n0 c0, .slice A1 x.refs.length c1] 96)
  have HSZ := HB.size
  go_enter Tryz.func63, Tryz.ntmps63
  go_wp2
  generalize hwx : w.alloc (.cells #[.int .i64 x.admin, .slice A0 n0 c0, .slice A1 x.refs.length c1] 96) = wx at kb h1 HB HSZ ⊢
  clear hwx
  go_loopw [5] (fun i wr => ∃ k : Nat, k ≤ x.refs.length ∧ i = .int .i64 k ∧ noneTo (nameIs name) x.refs k ∧ Below wx.heap.size wx wr) (fun i _ => x.refs.length - (intOf i).toNat)
  case atStart => exact ⟨0, Nat.zero_le _, rfl, noneTo_zero, Below.refl _ _⟩
  case round =>
    obtain ⟨k, hk, rfl, hag, hbl⟩ := hrel
    have HA := hide hag
    clear hag
    have kr := kb.step hbl
    have c2 : wr.cell? ⟨w.heap.size, 2, none⟩ = some (.slice A1 x.refs.length c1) := kr.cell 2
    by_cases hlt : k < x.refs.length
    · obtain ⟨b, o, A3, n3, c3, f3, rfl, hb, hm, r0, r1, r2, r3, _, _⟩ := ref_cells (h1.step hbl) hlt
      have i0 : (0 : Int) ≤ (k : Int) := by omega
      have i1 : (k : Int) < (x.refs.length : Int) := by omega
      have hq := beq_toListBytes' x.refs[k].name name
      clear r1 r2 r3
      cases hd : decide (x.refs[k].name = name)
      · have HN := hide (HA.out.next hlt hd)
        rw [hd] at hq
        clear hd
        go_wp2
        exact ⟨⟨k + 1, by omega, by go_num, HN.out, hbl⟩, by simp [intOf]; omega⟩
      · have HN := hide (HA.out.hit hlt hd)
        rw [hd] at hq
        clear hd
        go_wp2
        go_ret
        exact ⟨ret_int HN.out.symm, HB.trans (hbl.mono HSZ)⟩
    · have hk' : k = x.refs.length := by omega
      subst hk'
      have HN := hide HA.out.all_
      go_wp2
      go_ret
      exact ⟨ret_int HN.out.symm, HB.trans (hbl.mono HSZ)⟩

set_option maxHeartbeats 1000000 in
theorem ref1_any {cs : List Value} {x : Ref} {fx : List Nat} (name : ByteArray) (b1 : Nat) (w : World) (hx : Rp.ref.R w cs x fx) (c1 : w.cell? ⟨b1, 0, none⟩ = some (.string name)) :
    Calls Tryz.prog 160 #[.agg cs.toArray, .pointer (some ⟨b1, 0, none⟩)] w fun e w' => e = .returned (.bool (nameIs name x)) ∧ Below w.heap.size w w' := by
  obtain ⟨A0, n0, c0, f0, rfl, _, h0⟩ := hx
  have hq := beq_toListBytes' x.name name
  have d1 := cell_alloc c1 (.cells #[.string x.name, .bool x.guard, .int .i64 x.count, .slice A0 n0 c0] 99)
  clear c1
  go_enter Tryz.func160, Tryz.ntmps160
  go_wp2
  go_ret
  exact ⟨rfl, (Below.refl _ _).alloc (Nat.le_refl _) _⟩

set_option maxHeartbeats 4000000 in
set_option maxRecDepth 20000 in
theorem implRef_any {cs : List Value} {x : Repo} {fx : List Nat} (name : ByteArray) (w : World) (hx : Rp.repo.R w cs x fx) :
    Calls Tryz.prog 117 #[.agg cs.toArray, .string name] w fun e w' => e = .returned (.int .i64 (idxP (nameIs name) x.refs)) ∧ Below w.heap.size w w' := by
  have hmf := makeFunc_run
  obtain ⟨A0, n0, c0, f0, A1, n1, c1, f1, rfl, _, h0, h1⟩ := hx
  go_enter Tryz.func117, Tryz.ntmps117
  go_wp2_with fail
  refine (idxRef_any (l := x.refs) (nameIs name) _ _ (enters_of Tryz.func160 (by kernel_rfl) rfl) _ ((h1.allocN _).allocN _) (fun i hi cs fq w1 hB hR => ?_)).mono ?_
  · refine ref1_any name _ w1 hR ?_
    have hc := (Blk.step (Blk.new _ _ _) hB).cell 0
    simpa using hc
  · rintro e w1 ⟨rfl, hb1⟩
    go_wp2
    go_ret
    exact ⟨rfl, Below.box2 hb1⟩

set_option maxHeartbeats 4000000 in
set_option maxRecDepth 20000 in
theorem version_any {cs : List Value} {x : Ref} {fx : List Nat} (back : Int) (hb1 : back ≤ 9223372036854775807) (w : World) (hx : Rp.ref.R w cs x fx) :
    Calls Tryz.prog 118 #[.agg cs.toArray, .int .i64 back] w (FilesAt w (version x.versions back) fx) := by
  obtain ⟨A0, n0, c0, f0, rfl, hff, h0⟩ := hx
  obtain rfl := h0.1
  obtain rfl := hff
  have hmx := h0.max
  go_enter Tryz.func118, Tryz.ntmps118
  by_cases hneg : back < 0
  · have HV := hide (version_neg (vs := x.versions) hneg)
    go_wp2
    go_ret2
    rw [HV.out]
    exact ⟨none, 0, 0, [], rfl, SlR.nil, by simp, (Below.refl _ _).alloc (Nat.le_refl _) _⟩
  · by_cases hfar : (x.versions.length : Int) ≤ back
    · have HV := hide (version_far (vs := x.versions) hfar)
      have e1 : (x.versions.length : Int) - 1 - back < 0 := by omega
      have e2 : IntKind.i64.wrap ((x.versions.length : Int) - 1 - back) = (x.versions.length : Int) - 1 - back := IntWalk.i64_in _ (by omega)
      go_wp2
      go_ret2
      rw [HV.out]
      exact ⟨none, 0, 0, [], rfl, SlR.nil, by simp, (Below.refl _ _).alloc (Nat.le_refl _) _⟩
    · obtain ⟨j, hj⟩ : ∃ j : Nat, (j : Int) = x.versions.length - 1 - back := ⟨(x.versions.length - 1 - back).toNat, by omega⟩
      have hjl : j < x.versions.length := by omega
      have HV := hide (version_at (vs := x.versions) (by omega) hj hjl)
      obtain ⟨b, o, A1, n1, c1, f1, rfl, hb, hm, q0, hs1, hsub⟩ := slice_cells h0 hjl
      have q0 := cell_alloc q0 (.cells #[.string x.name, .bool x.guard, .int .i64 x.count, .slice (some ⟨b, o, none⟩) x.versions.length c0] 99)
      have e1 : (x.versions.length : Int) - 1 - back = (j : Int) := hj.symm
      have i0 : (0 : Int) ≤ (j : Int) := by omega
      have i1 : (j : Int) < (x.versions.length : Int) := by omega
      have e2 : IntKind.i64.wrap (j : Int) = (j : Int) := IntWalk.i64_in _ (by omega)
      have e3 : ¬ (j : Int) < 0 := by omega
      clear hj
      go_wp2
      go_ret2
      rw [HV.out]
      exact ⟨A1, n1, c1, f1, rfl, hs1.allocN _, hsub, (Below.refl _ _).alloc (Nat.le_refl _) _⟩

theorem filesOf_len {m : House} {repo back : Int} {name : ByteArray} (hm : mdlOk m = true) : ((filesOf m repo name back).getD []).length ≤ 60 := by
  cases h : filesOf m repo name back with
  | none => simp
  | some l => exact (treOk_iff.1 (filesOf_ok hm h)).1
theorem mdlFiles_ok {m : House} {repo back : Int} {name : ByteArray} (hm : mdlOk m = true) : mdlFiles m repo name back = filesOf m repo name back := if_pos hm
theorem mdlFiles_no {m : House} {repo back : Int} {name : ByteArray} (hm : mdlOk m = false) : mdlFiles m repo name back = none := if_neg (by simp [hm])

set_option maxHeartbeats 4000000 in
set_option maxRecDepth 20000 in
theorem files_any {cs : List Value} {x : House} {fx : List Nat} (repo : Int) (name : ByteArray) (back : Int) (hb1 : back ≤ 9223372036854775807) (w : World) (hx : Rp.house.R w cs x fx) :
    Calls Tryz.prog 65 #[.agg cs.toArray, .int .i64 repo, .string name, .int .i64 back] w (FilesAt w (filesOf x repo name back) fx) := by
  obtain ⟨A0, n0, c0, f0, A1, n1, c1, f1, A2, n2, c2, f2, rfl, hff, h0, h1, h2⟩ := hx
  obtain rfl := h2.1
  have hmx2 := h2.max
  have kb := Blk.new w 35 #[.slice A0 n0 c0, .slice A1 n1 c1, .slice A2 x.repos.length c2]
  replace h2 := h2.allocN (.cells #[.slice A0 n0 c0, .slice A1 n1 c1, .slice A2 x.repos.length c2] 35)
  have HB := (Below.refl w.heap.size w).alloc (Nat.le_refl _) (.cells #[.slice A0 n0 c0, .slice A1 n1 c1, .slice A2 x.repos.length c2] 35)
  have e2 : IntKind.i64.wrap ((x.repos.length : Int) - 1) = (x.repos.length : Int) - 1 := IntWalk.i64_in _ (by omega)
  go_enter Tryz.func65, Tryz.ntmps65
  go_wp2_with fail
  refine (implIn_any repo 0 ((x.repos.length : Int) - 1) _).mono ?_
  rintro e w1 ⟨rfl, hb⟩
  replace kb := kb.step hb
  replace h2 := h2.step hb
  replace HB := Below.then_ HB hb
  clear hb
  clear e2
  cases hd : inB repo 0 ((x.repos.length : Int) - 1)
  · have HV := hide (filesOf_out (name := name) (back := back) hd)
    clear hd
    go_wp2
    go_ret2
    rw [HV.out]
    exact ⟨none, 0, 0, [], rfl, SlR.nil, by simp, HB⟩
  · obtain ⟨hd1, hd2⟩ := inB_iff.1 hd
    obtain ⟨i, rfl⟩ : ∃ i : Nat, repo = (i : Int) := ⟨repo.toNat, by omega⟩
    have hi : i < x.repos.length := by omega
    clear hd hd1 hd2
    obtain ⟨b, o, B0, m0, k0, g0, B1, m1, k1, g1, rfl, hb, hm, q0, q1, q2, hs0, hs1, hsub⟩ := repo_cells h2 hi
    obtain rfl := hs1.1
    have hmx1 := hs1.max
    have c2 : w1.cell? ⟨w.heap.size, 2, none⟩ = some (.slice (some ⟨b, o, none⟩) x.repos.length c2) := kb.cell 2
    have i1 : (i : Int) < (x.repos.length : Int) := by omega
    have i0 : (0 : Int) ≤ (i : Int) := by omega
    go_wp2_with fail
    refine (implRef_any (x := x.repos[i]) name _ ⟨_, _, _, _, _, _, _, _, rfl, rfl, hs0, hs1⟩).mono ?_
    rintro e w2 ⟨rfl, hb⟩
    replace kb := kb.step hb
    replace hs1 := hs1.step hb
    have q2 := cell_step q2 hb
    replace HB := Below.then_ HB hb
    clear hb c2 q0 q1
    rcases idxP_at (nameIs name) x.repos[i].refs with ⟨hn, he⟩ | ⟨k, hn, hk, he⟩
    · have HV := hide (filesOf_none (back := back) rfl hi hn)
      rw [he]
      clear he hn
      go_wp2
      go_ret2
      rw [HV.out]
      exact ⟨none, 0, 0, [], rfl, SlR.nil, by simp, HB⟩
    · have HV := hide (filesOf_some (back := back) rfl hi hk hn)
      rw [he]
      clear he hn
      obtain ⟨b3, o3, A3, n3, c3, f3, rfl, hb3, hm3, r0, r1, r2, r3, hs3, hsub3⟩ := ref_cells hs1 hk
      have c2 : w2.cell? ⟨w.heap.size, 2, none⟩ = some (.slice (some ⟨b, o, none⟩) x.repos.length c2) := kb.cell 2
      have j1 : (k : Int) < (x.repos[i].refs.length : Int) := by omega
      have j0 : ¬ (k : Int) < 0 := by omega
      have j2 : (0 : Int) ≤ (k : Int) := by omega
      go_wp2_with fail
      refine (version_any (x := x.repos[i].refs[k]) back hb1 _ ⟨_, _, _, _, rfl, rfl, hs3⟩).mono ?_
      rintro e w3 ⟨A4, n4, c4, f4, rfl, hs4, hsub4, hb⟩
      replace HB := Below.then_ HB hb
      have HSUB := hide (show ∀ z ∈ f4, z ∈ fx from fun z hz => by
        rw [hff]
        exact List.mem_append_right _ (List.mem_append_right _ (hsub z (List.mem_append_right _ (hsub3 z (hsub4 z hz))))))
      clear hb c2 r0 r1 r2 r3 q2
      go_wp2
      go_ret2
      rw [HV.out]
      exact ⟨A4, n4, c4, f4, rfl, hs4, HSUB.out, HB⟩

set_option maxHeartbeats 4000000 in
set_option maxRecDepth 20000 in
theorem implMdlFiles_any {cs : List Value} {x : House} {fx : List Nat} (repo : Int) (name : ByteArray) (back : Int) (hb1 : back ≤ 9223372036854775807) (w : World) (hx : Rp.house.R w cs x fx) (hf : fitHouse x) :
    Calls Tryz.prog 21 #[.agg cs.toArray, .int .i64 repo, .string name, .int .i64 back] w (FilesOwn w (mdlFiles x repo name back)) := by
  have hx0 := hx
  obtain ⟨A0, n0, c0, f0, A1, n1, c1, f1, A2, n2, c2, f2, rfl, hff, h0, h1, h2⟩ := hx
  have RH := hide (fun (W : World) (hb : Below w.heap.size w W) => Rp.house.below hx0 hb (Nat.le_refl _))
  have HF := hide hf
  clear hx0 h0 h1 h2 hff hf
  have kb := Blk.new w 35 #[.slice A0 n0 c0, .slice A1 n1 c1, .slice A2 n2 c2]
  have HB := (Below.refl w.heap.size w).alloc (Nat.le_refl _) (.cells #[.slice A0 n0 c0, .slice A1 n1 c1, .slice A2 n2 c2] 35)
  go_enter Tryz.func21, Tryz.ntmps21
  go_wp2_with fail
  refine (implMdlOk_any (x := x) _ (RH.out _ HB) HF.out).mono ?_
  rintro e w1 ⟨rfl, hb⟩
  replace kb := kb.step hb
  replace HB := Below.then_ HB hb
  clear hb
  cases hd : mdlOk x
  · have HV := hide (mdlFiles_no (repo := repo) (name := name) (back := back) hd)
    clear hd
    go_wp2
    go_ret2
    rw [HV.out]
    exact ⟨_, rfl, World.ownsRow_nil _ _ _ _, HB⟩
  · have HV := hide (mdlFiles_ok (repo := repo) (name := name) (back := back) hd)
    have HL := hide (filesOf_len (repo := repo) (name := name) (back := back) hd)
    clear hd
    have u0 : w1.cell? ⟨w.heap.size, 0, none⟩ = some (.slice A0 n0 c0) := kb.cell 0
    have u1 : w1.cell? ⟨w.heap.size, 1, none⟩ = some (.slice A1 n1 c1) := kb.cell 1
    have u2 : w1.cell? ⟨w.heap.size, 2, none⟩ = some (.slice A2 n2 c2) := kb.cell 2
    go_wp2_with fail
    refine (files_any (x := x) repo name back hb1 _ (RH.out _ HB)).mono ?_
    rintro e w2 ⟨A4, n4, c4, f4, rfl, hs4, _, hb⟩
    replace HB := Below.then_ HB hb
    clear hb u0 u1 u2 kb
    go_wp2_with fail
    refine (cloneFiles_any _ hs4 (Nat.le_trans HL.out (by decide))).mono ?_
    rintro e w3 ⟨v, rfl, hown, hb⟩
    have HO := hide (own_base hown HB.size)
    replace HB := Below.then_ HB hb
    clear hown hb hs4
    go_wp2
    go_ret2
    rw [HV.out]
    exact ⟨_, rfl, HO.out, HB⟩

set_option maxHeartbeats 4000000 in
set_option maxRecDepth 20000 in
theorem specMdlFiles_any {cs : List Value} {x : House} {fx : List Nat} (repo : Int) (name : ByteArray) (back : Int) (hb1 : back ≤ 9223372036854775807) (w : World) (hx : Rp.house.R w cs x fx) (hf : fitHouse x) :
    Calls Tryz.prog 20 #[.agg cs.toArray, .int .i64 repo, .string name, .int .i64 back] w (FilesOwn w (mdlFiles x repo name back)) := by
  have hx0 := hx
  have HF := hide hf
  obtain ⟨A0, n0, c0, f0, A1, n1, c1, f1, A2, n2, c2, f2, rfl, hff, h0, h1, h2⟩ := hx
  obtain rfl := h2.1
  have hmx2 := h2.max
  have RH := hide (fun (W : World) (hb : Below w.heap.size w W) => Rp.house.below hx0 hb (Nat.le_refl _))
  clear hx0 h0 h1 hff hf
  have kb := Blk.new w 35 #[.slice A0 n0 c0, .slice A1 n1 c1, .slice A2 x.repos.length c2]
  replace h2 := h2.allocN (.cells #[.slice A0 n0 c0, .slice A1 n1 c1, .slice A2 x.repos.length c2] 35)
  have HB := (Below.refl w.heap.size w).alloc (Nat.le_refl _) (.cells #[.slice A0 n0 c0, .slice A1 n1 c1, .slice A2 x.repos.length c2] 35)
  have e2 : IntKind.i64.wrap ((x.repos.length : Int) - 1) = (x.repos.length : Int) - 1 := IntWalk.i64_in _ (by omega)
  go_enter Tryz.func20, Tryz.ntmps20
  go_wp2_with fail
  refine (specMdlOk_any (x := x) _ (RH.out _ HB) HF.out).mono ?_
  rintro e w1 ⟨rfl, hb⟩
  replace kb := kb.step hb
  replace h2 := h2.step hb
  replace HB := Below.then_ HB hb
  clear hb
  cases hd : mdlOk x
  · have HV := hide (mdlFiles_no (repo := repo) (name := name) (back := back) hd)
    clear hd h2 kb
    have HM := hide (World.ownsRow_made (base := w.heap.size) (e := 104) (size := 2) w1 #[] 0 HB.size (by simp [maxLen]) rfl)
    have HBB := hide (HB.alloc HB.size (.cells #[] 104))
    go_wp2
    go_ret2
    rw [HV.out]
    exact ⟨_, rfl, HM.out, HBB.out⟩
  · have HV := hide (mdlFiles_ok (repo := repo) (name := name) (back := back) hd)
    have HL := hide (filesOf_len (repo := repo) (name := name) (back := back) hd)
    clear hd
    have u2 : w1.cell? ⟨w.heap.size, 2, none⟩ = some (.slice A2 x.repos.length c2) := kb.cell 2
    go_wp2_with fail
    refine (specIn_any repo 0 ((x.repos.length : Int) - 1) _).mono ?_
    rintro e w2 ⟨rfl, hb⟩
    replace kb := kb.step hb
    replace h2 := h2.step hb
    replace HB := Below.then_ HB hb
    clear hb
    clear e2 u2
    cases hd : inB repo 0 ((x.repos.length : Int) - 1)
    · have HV2 := hide (HV.out.trans (filesOf_out (name := name) (back := back) hd))
      clear hd h2 kb
      have HM := hide (World.ownsRow_made (base := w.heap.size) (e := 104) (size := 2) w2 #[] 0 HB.size (by simp [maxLen]) rfl)
      have HBB := hide (HB.alloc HB.size (.cells #[] 104))
      go_wp2
      go_ret2
      rw [HV2.out]
      exact ⟨_, rfl, HM.out, HBB.out⟩
    · obtain ⟨hd1, hd2⟩ := inB_iff.1 hd
      obtain ⟨i, rfl⟩ : ∃ i : Nat, repo = (i : Int) := ⟨repo.toNat, by omega⟩
      have hi : i < x.repos.length := by omega
      clear hd hd1 hd2
      obtain ⟨b, o, B0, m0, k0, g0, B1, m1, k1, g1, rfl, hb, hm, q0, q1, q2, hs0, hs1, hsub⟩ := repo_cells h2 hi
      obtain rfl := hs1.1
      have hmx1 := hs1.max
      by_cases hneg : back < 0
      · have HV2 := hide (HV.out.trans (show filesOf x (i : Int) name back = none by
            rcases idxP_at (nameIs name) x.repos[i].refs with ⟨hn, he⟩ | ⟨k, hn, hk, he⟩
            · exact filesOf_none rfl hi hn
            · exact (filesOf_some rfl hi hk hn).trans (version_neg hneg)))
        clear q0 q1 q2 h2 kb hs0 hs1
        have HM := hide (World.ownsRow_made (base := w.heap.size) (e := 104) (size := 2) w2 #[] 0 HB.size (by simp [maxLen]) rfl)
        have HBB := hide (HB.alloc HB.size (.cells #[] 104))
        go_wp2
        go_ret2
        rw [HV2.out]
        exact ⟨_, rfl, HM.out, HBB.out⟩
      · skip
        have u2 : w2.cell? ⟨w.heap.size, 2, none⟩ = some (.slice (some ⟨b, o, none⟩) x.repos.length c2) := kb.cell 2
        have i1 : (i : Int) < (x.repos.length : Int) := by omega
        have i0 : (0 : Int) ≤ (i : Int) := by omega
        go_wp2_with fail
        refine (l7At_any (x := x.repos[i]) name _ ⟨_, _, _, _, _, _, _, _, rfl, rfl, hs0, hs1⟩).mono ?_
        rintro e w3 ⟨rfl, hb⟩
        replace kb := kb.step hb
        replace hs1 := hs1.step hb
        have q2 := cell_step q2 hb
        replace HB := Below.then_ HB hb
        clear hb u2 q0 q1
        rcases idxP_at (nameIs name) x.repos[i].refs with ⟨hn, he⟩ | ⟨k, hn, hk, he⟩
        · have HV2 := hide (HV.out.trans (filesOf_none (back := back) rfl hi hn))
          rw [he]
          clear he hn q2 kb hs1
          have HM := hide (World.ownsRow_made (base := w.heap.size) (e := 104) (size := 2) w3 #[] 0 HB.size (by simp [maxLen]) rfl)
          have HBB := hide (HB.alloc HB.size (.cells #[] 104))
          go_wp2
          go_ret2
          rw [HV2.out]
          exact ⟨_, rfl, HM.out, HBB.out⟩
        · have HV2 := hide (HV.out.trans (filesOf_some (back := back) rfl hi hk hn))
          have HV3 := hide (filesOf_some (back := back) rfl hi hk hn)
          rw [he]
          clear he hn
          obtain ⟨b3, o3, A3, n3, c3, f3, rfl, hb3, hm3, r0, r1, r2, r3, hs3, hsub3⟩ := ref_cells hs1 hk
          obtain rfl := hs3.1
          have hmx3 := hs3.max
          have u2 : w3.cell? ⟨w.heap.size, 2, none⟩ = some (.slice (some ⟨b, o, none⟩) x.repos.length c2) := kb.cell 2
          have j1 : (k : Int) < (x.repos[i].refs.length : Int) := by omega
          have j0 : ¬ (k : Int) < 0 := by omega
          have j2 : (0 : Int) ≤ (k : Int) := by omega
          clear r0 r1 r2
          by_cases hfar : (x.repos[i].refs[k].versions.length : Int) ≤ back
          · have HV4 := hide (HV2.out.trans (version_far hfar))
            have HM := hide (World.ownsRow_made (base := w.heap.size) (e := 104) (size := 2) w3 #[] 0 HB.size (by simp [maxLen]) rfl)
            have HBB := hide (HB.alloc HB.size (.cells #[] 104))
            go_wp2
            go_ret2
            rw [HV4.out]
            exact ⟨_, rfl, HM.out, HBB.out⟩
          · obtain ⟨j, hj⟩ : ∃ j : Nat, (j : Int) = x.repos[i].refs[k].versions.length - 1 - back := ⟨(x.repos[i].refs[k].versions.length - 1 - back).toNat, by omega⟩
            have hjl : j < x.repos[i].refs[k].versions.length := by omega
            have HVA := hide (version_at (vs := x.repos[i].refs[k].versions) (by omega) hj hjl)
            obtain ⟨b5, o5, A5, n5, c5, f5, rfl, hb5, hm5, t0, hs5, hsub5⟩ := slice_cells hs3 hjl
            have HLN := hide (show x.repos[i].refs[k].versions[j].length ≤ 60 by have := HL.out; rw [HV3.out, HVA.out] at this; exact this)
            have HV5 := hide (HV2.out.trans HVA.out)
            have e1 : (x.repos[i].refs[k].versions.length : Int) - 1 - back = (j : Int) := hj.symm
            have t1 : (0 : Int) ≤ (j : Int) := by omega
            have t2 : (j : Int) < (x.repos[i].refs[k].versions.length : Int) := by omega
            have e2 : IntKind.i64.wrap (j : Int) = (j : Int) := IntWalk.i64_in _ (by omega)
            clear hj
            go_wp2_with fail
            refine (l4Copy_any _ hs5 (Nat.le_trans HLN.out (by decide))).mono ?_
            rintro e w4 ⟨v, rfl, hown, hb⟩
            have HO := hide (own_base hown HB.size)
            replace HB := Below.then_ HB hb
            clear hown hb hs5 u2 r3 t0 q2
            go_wp2
            go_ret2
            rw [HV5.out]
            exact ⟨_, rfl, HO.out, HB⟩

end Go.Proofs.YtnogkkcmcnhodaaGreatDoor
