/- Walks: houses that are ok; of the program. By program (wip/gen/gen_mdlok.py). -/
import Derived.Test.YtnogkkcmcnhodaaDoorMo
import Derived.Test.YtnogkkcmcnhodaaDoorOw
import Derived.Test.YtnogkkcmcnhodaaDoorRg
namespace Go.Proofs.YtnogkkcmcnhodaaDoor
open Go.RowKit
attribute [local go_sem ↓] Go.wp_at_zero Go.wp_at_succ

theorem not_any_not {α : Type} (p : α → Bool) (l : List α) : (!(l.any fun x => !p x)) = l.all p := by
  induction l with
  | nil => rfl
  | cons x l ih => rw [List.any_cons, List.all_cons, Bool.not_or, Bool.not_not, ih]
def repoB (u admin : Int) (rules : List Rule) (names : List ByteArray) : Bool := namesOk names && inB admin 1 u && rulListOk rules && decide (names.length ≤ 3)
theorem repoOk_B (u : Int) (x : Repo) : repoOk u x = (x.refs.all refOk && repoB u x.admin x.rules (x.refs.map (·.name))) := by
  unfold repoOk repoB
  rw [List.length_map]
  cases x.refs.all refOk <;> simp
def rowNames (l : List Ref) (q : Nat) : List Value := ((l.map (·.name)).take q).flatMap fun s => [.string s]
theorem rowNames_zero (l : List Ref) : rowNames l 0 = [] := by simp [rowNames]
theorem rowNames_next {l : List Ref} {q : Nat} (h : q < l.length) : rowNames l (q + 1) = rowNames l q ++ [.string l[q].name] := by
  unfold rowNames
  rw [List.take_succ_eq_append_getElem (by simpa using h), List.flatMap_append, List.flatMap_singleton, List.getElem_map]
theorem rowNames_all (l : List Ref) : rowNames l l.length = (l.map (·.name)).flatMap fun s => [.string s] := by
  unfold rowNames
  rw [List.take_of_length_le (by simp)]

set_option maxHeartbeats 1000000 in
theorem usersOk1_any (x : Int) (w : World) : Calls Tryd.prog 61 #[.int .i64 x] w fun e w' => e = .returned (.bool (!inB x 1 9999)) ∧ Below w.heap.size w w' := by
  go_enter Tryd.func61, Tryd.ntmps61
  go_wp2_with fail
  refine (implIn_any x 1 9999 _).mono ?_
  rintro e w1 ⟨rfl, hb1⟩
  go_wp2
  go_ret
  exact ⟨rfl, hb1⟩

set_option maxHeartbeats 1000000 in
theorem usersOk2_any (x : Int) (w : World) : Calls Tryd.prog 62 #[.int .i64 x] w fun e w' => e = .returned (.bool (!inB x 0 200)) ∧ Below w.heap.size w w' := by
  go_enter Tryd.func62, Tryd.ntmps62
  go_wp2_with fail
  refine (implIn_any x 0 200 _).mono ?_
  rintro e w1 ⟨rfl, hb1⟩
  go_wp2
  go_ret
  exact ⟨rfl, hb1⟩

set_option maxHeartbeats 4000000 in
set_option maxRecDepth 20000 in
theorem implUsersOk_any {A0 A1 : Option Addr} {n0 n1 c0 c1 : Nat} {keys used : List Int} {f0 f1 : List Nat} (w : World) (h0 : SlR Rp.int w A0 n0 c0 keys f0) (h1 : SlR Rp.int w A1 n1 c1 used f1) :
    Calls Tryd.prog 33 #[.slice A0 n0 c0, .slice A1 n1 c1] w fun e w' => e = .returned (.bool (usersOk keys used)) ∧ Below w.heap.size w w' := by
  obtain rfl := h0.1
  obtain rfl := h1.1
  have hmx0 := h0.max
  have hmx1 := h1.max
  have HB := Below.refl w.heap.size w
  have HU := hide (show usersOk keys used = (inB keys.length 1 4 && decide (used.length = keys.length) && (!(keys.any fun n => !inB n 1 9999)) && (!(used.any fun n => !inB n 0 200))) by rw [not_any_not, not_any_not]; rfl)
  go_enter Tryd.func33, Tryd.ntmps33
  go_wp2_with fail
  refine (implIn_any (keys.length : Int) 1 4 _).mono ?_
  rintro e w1 ⟨rfl, hb⟩
  replace h0 := h0.step hb
  replace h1 := h1.step hb
  replace HB := Below.then_ HB hb
  clear hb
  cases hd : inB (keys.length : Int) 1 4
  · have HR := hide (show usersOk keys used = false by rw [HU.out, hd]; rfl)
    clear hd
    go_wp2
    go_ret
    exact ⟨ret_bool (HR.out).symm, HB⟩
  · have H1 := hide hd
    clear hd
    by_cases hl : used.length = keys.length
    · have hl1 : ((used.length : Int) == (keys.length : Int)) = true := by simp [hl]
      have HL := hide hl
      clear hl
      go_wp2_with fail
      refine (hasInt_any (l := keys) (fun n => !inB n 1 9999) 61 #[] (enters_of Tryd.func61 (by kernel_rfl) rfl) _ h0 (fun i hi v fq w2 hB hR => ?_)).mono ?_
      · obtain ⟨hv, _⟩ := hR
        obtain rfl : v = .int .i64 keys[i] := by simpa using hv
        exact usersOk1_any _ _
      rintro e w2 ⟨rfl, hb⟩
      replace h1 := h1.step hb
      replace HB := Below.then_ HB hb
      clear hb h0 hl1
      cases hd : keys.any fun n => !inB n 1 9999
      · have H2 := hide hd
        clear hd
        go_wp2_with fail
        refine (hasInt_any (l := used) (fun n => !inB n 0 200) 62 #[] (enters_of Tryd.func62 (by kernel_rfl) rfl) _ h1 (fun i hi v fq w3 hB hR => ?_)).mono ?_
        · obtain ⟨hv, _⟩ := hR
          obtain rfl : v = .int .i64 used[i] := by simpa using hv
          exact usersOk2_any _ _
        rintro e w3 ⟨rfl, hb⟩
        replace HB := Below.then_ HB hb
        clear hb h1
        have HR := hide (show usersOk keys used = !(used.any fun n => !inB n 0 200) by rw [HU.out, H1.out, decide_eq_true HL.out, H2.out]; rfl)
        generalize (used.any fun n => !inB n 0 200) = bb at HR ⊢
        cases bb
        · skip
          go_wp2
          go_ret
          exact ⟨ret_bool (HR.out).symm, HB⟩
        · skip
          go_wp2
          go_ret
          exact ⟨ret_bool (HR.out).symm, HB⟩
      · have HR := hide (show usersOk keys used = false by rw [HU.out, hd]; simp)
        clear hd
        go_wp2
        go_ret
        exact ⟨ret_bool (HR.out).symm, HB⟩
    · have hl1 : ((used.length : Int) == (keys.length : Int)) = false := by simp; omega
      have HR := hide (show usersOk keys used = false by rw [HU.out, decide_eq_false hl]; simp)
      clear hl
      go_wp2
      go_ret
      exact ⟨ret_bool (HR.out).symm, HB⟩

set_option maxHeartbeats 4000000 in
set_option maxRecDepth 20000 in
theorem implRepoOk_any {A0 A1 : Option Addr} {n0 n1 c0 c1 : Nat} {rules : List Rule} {names : List ByteArray} {f0 f1 : List Nat} (u admin : Int) (w : World) (h0 : SlR Rp.rule w A0 n0 c0 rules f0) (h1 : SlR Rp.str w A1 n1 c1 names f1) (hr : fitRules rules) (hs : ∀ i (h : i < names.length), names[i].size ≤ 4194304) :
    Calls Tryd.prog 38 #[.int .i64 u, .int .i64 admin, .slice A0 n0 c0, .slice A1 n1 c1] w fun e w' => e = .returned (.bool (repoB u admin rules names)) ∧ Below w.heap.size w w' := by
  obtain rfl := h0.1
  obtain rfl := h1.1
  have hmx := h1.max
  have HS := hide (namesOk_steps names)
  have HFR := hide hr
  have HFS := hide hs
  clear hr hs
  go_enter Tryd.func38, Tryd.ntmps38
  go_wp2
  go_loopw [13] (fun i wr => ∃ k : Nat, k ≤ names.length ∧ i = .int .i64 k ∧ oksTo (nameAt names) k ∧ Below w.heap.size w wr) (fun i _ => names.length - (intOf i).toNat)
  case atStart => exact ⟨0, Nat.zero_le _, rfl, oksTo_zero, Below.refl _ _⟩
  case round =>
    obtain ⟨k, hk, rfl, hag, hbl⟩ := hrel
    have HA := hide hag
    clear hag
    have h1r := h1.step hbl
    by_cases hlt : k < names.length
    · obtain ⟨b, o, rfl, hb, hm, q0⟩ := str_cells h1r hlt
      have HNO := hide (fun (h : nameAt names k = false) => (show repoB u admin rules names = false by unfold repoB; rw [HS.out, oksTo.not_ hlt h]; simp))
      have H0 := hide (show nameAt names k = (namOk names[k] && stepOk bLt names k) by unfold nameAt; rw [atB_eq hlt])
      have i0 : (0 : Int) ≤ (k : Int) := by omega
      have i1 : (k : Int) < (names.length : Int) := by omega
      rcases Nat.eq_zero_or_pos k with hk0 | hk0
      · have hz : decide (0 < k) = false := decide_eq_false (by omega)
        have HST := hide (show stepOk bLt names k = true by subst hk0; rfl)
        clear hk0
        go_wp2_with fail
        refine (implNamOk_any names[k] (HFS.out k hlt) _).mono ?_
        rintro e w1 ⟨rfl, hb1⟩
        have hbl' := hide (Below.then_ hbl hb1)
        clear hb1 q0
        cases hd : namOk names[k]
        · have HR := hide (HNO.out (by rw [H0.out, hd]; rfl))
          clear hd
          go_wp2
          go_ret
          exact ⟨ret_bool (HR.out).symm, hbl'.out⟩
        · have HD := hide hd
          clear hd
          have HN := hide (HA.out.next (show nameAt names k = true by rw [H0.out, HD.out, HST.out]; rfl))
          go_wp2
          exact ⟨⟨k + 1, by omega, by go_num, HN.out, hbl'.out⟩, by simp [intOf]; omega⟩
      · obtain ⟨j, hk0⟩ : ∃ j, k = j + 1 := ⟨k - 1, by omega⟩
        have hz : decide (0 < k) = true := decide_eq_true (by omega)
        have hj : j < names.length := by omega
        have HST := hide (show stepOk bLt names k = bLt names[j] names[k] by subst hk0; exact stepOk_succ hlt)
        obtain ⟨b', o', he, hb', hm', p0⟩ := str_cells h1r hj
        cases he
        have e1 : (k : Int) - 1 = (j : Int) := by omega
        have e2 : IntKind.i64.wrap (j : Int) = (j : Int) := IntWalk.i64_in _ (by omega)
        have j0 : (0 : Int) ≤ (j : Int) := by omega
        have j1 : (j : Int) < (names.length : Int) := by omega
        clear hk0
        go_wp2_with fail
        refine (implNamOk_any names[k] (HFS.out k hlt) _).mono ?_
        rintro e w1 ⟨rfl, hb1⟩
        have hbl' := hide (Below.then_ hbl hb1)
        have p1 := cell_step p0 hb1
        clear hb1 q0 p0
        cases hd : namOk names[k]
        · have HR := hide (HNO.out (by rw [H0.out, hd]; rfl))
          clear hd
          go_wp2
          go_ret
          exact ⟨ret_bool (HR.out).symm, hbl'.out⟩
        · have HD := hide hd
          clear hd
          cases hc : Op.bytesLess names[j].toList names[k].toList
          · have HR := hide (HNO.out (by rw [H0.out, HST.out, show bLt names[j] names[k] = false from hc, Bool.and_false]))
            have hl1 := leq_true hc
            clear hc
            go_wp2
            go_ret
            exact ⟨ret_bool (HR.out).symm, hbl'.out⟩
          · have HN := hide (HA.out.next (show nameAt names k = true by rw [H0.out, HD.out, HST.out, show bLt names[j] names[k] = true from hc]; rfl))
            obtain ⟨hl1, hl2⟩ := leq_false hc
            clear hc
            go_wp2
            exact ⟨⟨k + 1, by omega, by go_num, HN.out, hbl'.out⟩, by simp [intOf]; omega⟩
    · have hk' : k = names.length := by omega
      subst hk'
      have HNN := hide (show namesOk names = true by rw [HS.out]; exact HA.out.all_)
      have h0r := h0.step hbl
      go_wp2_with fail
      refine (implIn_any admin 1 u _).mono ?_
      rintro e w1 ⟨rfl, hb1⟩
      have hbl' := Below.then_ hbl hb1
      replace h0r := h0r.step hb1
      clear hb1
      cases hd : inB admin 1 u
      · have HR := hide (show repoB u admin rules names = false by unfold repoB; rw [hd]; simp)
        clear hd
        go_wp2
        go_ret
        exact ⟨ret_bool (HR.out).symm, hbl'⟩
      · have H1 := hide hd
        clear hd
        go_wp2_with fail
        refine (implRulListOk_any _ h0r HFR.out).mono ?_
        rintro e w2 ⟨rfl, hb2⟩
        have hbl2 := Below.then_ hbl' hb2
        clear hb2
        cases hd : rulListOk rules
        · have HR := hide (show repoB u admin rules names = false by unfold repoB; rw [hd]; simp)
          clear hd
          go_wp2
          go_ret
          exact ⟨ret_bool (HR.out).symm, hbl2⟩
        · have H2 := hide hd
          clear hd
          have HR := hide (show repoB u admin rules names = decide ((names.length : Int) ≤ 3) by unfold repoB; rw [HNN.out, H1.out, H2.out]; simp only [Bool.true_and]; exact decide_eq_decide.2 (by omega))
          go_wp2
          go_ret
          exact ⟨ret_bool (HR.out).symm, hbl2⟩

set_option maxHeartbeats 1000000 in
theorem mdlOk1_any {A : Option Addr} {n c : Nat} {l : List File} {fp : List Nat} (w : World) (hx : SlR Rp.file w A n c l fp) (hf : fitFiles l) : Calls Tryd.prog 36 #[.slice A n c] w fun e w' => e = .returned (.bool (!treOk l)) ∧ Below w.heap.size w w' := by
  obtain rfl := hx.1
  go_enter Tryd.func36, Tryd.ntmps36
  go_wp2_with fail
  refine (implTreOk_any _ hx hf).mono ?_
  rintro e w1 ⟨rfl, hb1⟩
  go_wp2
  go_ret
  exact ⟨rfl, hb1⟩

set_option maxHeartbeats 4000000 in
set_option maxRecDepth 20000 in
theorem implMdlOk_any {cs : List Value} {x : House} {fx : List Nat} (w : World) (hx : Rp.house.R w cs x fx) (hf : fitHouse x) :
    Calls Tryd.prog 17 #[.agg cs.toArray] w fun e w' => e = .returned (.bool (mdlOk x)) ∧ Below w.heap.size w w' := by
  obtain ⟨A0, n0, c0, f0, A1, n1, c1, f1, A2, n2, c2, f2, rfl, _, h0, h1, h2⟩ := hx
  obtain rfl := h0.1
  obtain rfl := h1.1
  obtain rfl := h2.1
  have hmx0 := h0.max
  have hmx2 := h2.max
  have HF := hide hf
  have HS := hide (mdlOk_steps x)
  clear hf
  obtain ⟨i0, hi, hz0, hz1, hz2⟩ := info_parts Tryd.infoStr
  have kb := Blk.new w 25 #[.slice A0 x.keys.length c0, .slice A1 x.used.length c1, .slice A2 x.repos.length c2]
  replace h0 := h0.allocN (.cells #[.slice A0 x.keys.length c0, .slice A1 x.used.length c1, .slice A2 x.repos.length c2] 25)
  replace h1 := h1.allocN (.cells #[.slice A0 x.keys.length c0, .slice A1 x.used.length c1, .slice A2 x.repos.length c2] 25)
  replace h2 := h2.allocN (.cells #[.slice A0 x.keys.length c0, .slice A1 x.used.length c1, .slice A2 x.repos.length c2] 25)
  have HB := (Below.refl w.heap.size w).alloc (Nat.le_refl _) (.cells #[.slice A0 x.keys.length c0, .slice A1 x.used.length c1, .slice A2 x.repos.length c2] 25)
  go_enter Tryd.func17, Tryd.ntmps17
  go_wp2_with fail
  refine (implUsersOk_any _ h0 h1).mono ?_
  rintro e w1 ⟨rfl, hb⟩
  replace kb := kb.step hb
  replace h2 := h2.step hb
  replace HB := Below.then_ HB hb
  clear hb
  clear h0 h1
  cases hd : usersOk x.keys x.used
  · have HR := hide (show mdlOk x = false by rw [HS.out, hd]; rfl)
    clear hd
    go_wp2
    go_ret
    exact ⟨ret_bool (HR.out).symm, HB⟩
  · have H1 := hide hd
    clear hd
    have c2 : w1.cell? ⟨w.heap.size, 2, none⟩ = some (.slice A2 x.repos.length c2) := kb.cell 2
    go_wp2_with fail
    refine (implIn_any (x.repos.length : Int) 1 3 _).mono ?_
    rintro e w2 ⟨rfl, hb⟩
    replace kb := kb.step hb
    replace h2 := h2.step hb
    replace HB := Below.then_ HB hb
    clear hb
    clear c2
    cases hd : inB (x.repos.length : Int) 1 3
    · have HR := hide (show mdlOk x = false by rw [HS.out, hd, Bool.and_false]; rfl)
      clear hd
      go_wp2
      go_ret
      exact ⟨ret_bool (HR.out).symm, HB⟩
    · have H3 := hide hd
      clear hd
      have HSZ := HB.size
      have c2 : w2.cell? ⟨w.heap.size, 2, none⟩ = some (.slice A2 x.repos.length c2) := kb.cell 2
      go_wp2
      go_loopw [24] (fun i wr => ∃ k : Nat, k ≤ x.repos.length ∧ i = .int .i64 k ∧ oksTo (atB (repoOk x.keys.length) x.repos) k ∧ Below w2.heap.size w2 wr) (fun i _ => x.repos.length - (intOf i).toNat)
      case atStart => exact ⟨0, Nat.zero_le _, rfl, oksTo_zero, Below.refl _ _⟩
      case round =>
        clear c2
        obtain ⟨k, hk, rfl, hag, hbl⟩ := hrel
        have HA := hide hag
        clear hag
        have kr := kb.step hbl
        have h2r := h2.step hbl
        by_cases hlt : k < x.repos.length
        · obtain ⟨b, o, B0, m0, k0, g0, B1, m1, k1, g1, rfl, hb, hm, q0, q1, q2, hs0, hs1, hsub⟩ := repo_cells h2r hlt
          obtain rfl := hs0.1
          obtain rfl := hs1.1
          have hmx1 := (HF.out k hlt).few
          have HE := hide (atB_eq (p := repoOk x.keys.length) hlt)
          have HG := hide (HF.out k hlt)
          have i1 : (k : Int) < (x.repos.length : Int) := by omega
          have HNO := hide (fun (h : repoOk x.keys.length x.repos[k] = false) => (show mdlOk x = false by rw [HS.out, oksTo.not_ hlt (HE.out.trans h)]; simp))
          have HYES := hide (fun (h : repoOk x.keys.length x.repos[k] = true) => HA.out.next (HE.out.trans h))
          generalize x.repos[k] = y at q0 q1 q2 hs0 hs1 hmx1 HG HNO HYES
          clear HE
          have kp := Blk.new wr 52 #[.int .i64 y.admin, .slice B0 y.rules.length k0, .slice B1 y.refs.length k1]
          replace hs0 := hs0.allocN (.cells #[.int .i64 y.admin, .slice B0 y.rules.length k0, .slice B1 y.refs.length k1] 52)
          replace hs1 := hs1.allocN (.cells #[.int .i64 y.admin, .slice B0 y.rules.length k0, .slice B1 y.refs.length k1] 52)
          replace kr := kr.alloc (.cells #[.int .i64 y.admin, .slice B0 y.rules.length k0, .slice B1 y.refs.length k1] 52)
          have hbl' := hbl.alloc hbl.size (.cells #[.int .i64 y.admin, .slice B0 y.rules.length k0, .slice B1 y.refs.length k1] 52)
          go_wp2
          clear q0 q1 q2 h2r
          obtain ⟨R0, hR0⟩ : ∃ r, wr.heap.size = r := ⟨_, rfl⟩
          generalize hwx : wr.alloc (.cells #[.int .i64 y.admin, .slice B0 y.rules.length k0, .slice B1 y.refs.length k1] 52) = wx at kp hs0 hs1 kr hbl' ⊢
          clear hwx
          simp only [hR0] at kp ⊢
          clear hR0 hbl
          have hsz := hbl'.size
          go_loopw [5, 31] (fun v i wr => ∃ q : Nat, q ≤ y.refs.length ∧ i = .int .i64 q ∧ oksTo (atB refOk y.refs) q ∧ wr.ownsRow wx.heap.size 9 1 v q (rowNames y.refs q) ∧ Below wx.heap.size wx wr) (fun _ i _ => y.refs.length - (intOf i).toNat)
          case atStart => exact ⟨0, Nat.zero_le _, rfl, oksTo_zero, by rw [rowNames_zero]; exact World.ownsRow_nil _ _ _ _, Below.refl _ _⟩
          case round =>
            obtain ⟨q, hq, rfl, hag2, hown, hbl2⟩ := hrel
            have HA2 := hide hag2
            clear hag2
            have hs1r := hs1.step hbl2
            by_cases hlt2 : q < y.refs.length
            · obtain ⟨b2, o2, A3, n3, c3, f3, rfl, hb2, hm2, r0, r1, r2, r3, hs3, hsub3⟩ := ref_cells hs1r hlt2
              obtain rfl := hs3.1
              have hmx3 := hs3.max
              have HE2 := hide (atB_eq (p := refOk) hlt2)
              have HGQ := hide (HG.out.refs q hlt2)
              have HRN := hide (rowNames_next hlt2)
              have hf3 : ∀ z ∈ f3, z < wx.heap.size := fun z hz => hs1.lt z (hsub3 z hz)
              have HNO2 := hide (fun (h : refOk y.refs[q] = false) => HNO.out (show repoOk x.keys.length y = false by rw [repoOk_B, ← allN_atB, oksTo.not_ hlt2 (HE2.out.trans h)]; rfl))
              have HYES2 := hide (fun (h : refOk y.refs[q] = true) => HA2.out.next (HE2.out.trans h))
              have q1 : (q : Int) < (y.refs.length : Int) := by omega
              generalize y.refs[q] = z at r0 r1 r2 r3 hs3 hmx3 HGQ HNO2 HYES2 HRN
              clear HE2
              have kq := Blk.new wr 61 #[.string z.name, .bool z.guard, .int .i64 z.count, .slice A3 z.versions.length c3]
              have hbz := ((Below.refl wx.heap.size wr).alloc hbl2.size (.cells #[.string z.name, .bool z.guard, .int .i64 z.count, .slice A3 z.versions.length c3] 61)).alloc (show wx.heap.size ≤ _ by have := hbl2.size; simp; omega) (.cells #[.string z.name] 9)
              go_wp2_with (at_builtin; refine wpList_append_own _ rfl _ _ 58 rfl wx.heap.size 9 i0 _ 1 16 Tryd.underlying58 hi hz0 hz1 hz2 rfl (by decide) _ _ _ rfl ((hown.alloc _).alloc _) ⟨wr.heap.size + 1, 0, none⟩ 1 1 [.string z.name] rfl rfl (news_alloc' (by simp) [.string z.name] _) (by simp; rfl) (by unfold maxLen; omega) (by omega) (by have := hbl2.size; simp; omega) ?_)
              intro v' w5 hown' hgrow _
              have hlow : Below wx.heap.size wr w5 := hbz.grown hgrow (by have := hbl2.size; simp; omega) (fun j hj => (hown.lt j hj).1)
              replace kq := (kq.alloc (.cells #[.string z.name] 9)).grown hgrow (fun j hj => by have := (hown.lt j hj).2; omega)
              replace hs3 := hs3.keep fun a ha => hlow.block a (hf3 a ha)
              have hbl5 := hbl2.trans hlow
              clear hgrow hbz hlow r0 r1 r2 r3 hown hs1r
              have u2 : w5.cell? ⟨wr.heap.size, 2, none⟩ = some (.int .i64 z.count) := kq.cell 2
              have u3 : w5.cell? ⟨wr.heap.size, 3, none⟩ = some (.slice A3 z.versions.length c3) := kq.cell 3
              go_wp2_with fail
              refine (implIn_any z.count 0 14 _).mono ?_
              rintro e w6 ⟨rfl, hb⟩
              replace hown' := own_step hown' hb
              replace kq := kq.step hb
              replace hs3 := hs3.step hb
              replace hbl5 := Below.trans hbl5 (hb.mono hbl5.size)
              clear hb u2 u3
              cases hd : inB z.count 0 14
              · have HR := hide (HNO2.out (show refOk z = false by unfold refOk; rw [hd]; rfl))
                clear hd
                have HBB := hide (HB.trans ((hbl'.trans (hbl5.mono hsz)).mono HSZ))
                go_wp2
                go_ret
                exact ⟨ret_bool (HR.out).symm, HBB.out⟩
              · have G1 := hide hd
                clear hd
                have u3 : w6.cell? ⟨_, 3, none⟩ = some (.slice A3 z.versions.length c3) := kq.cell 3
                go_wp2_with fail
                refine (implIn_any (z.versions.length : Int) 1 3 _).mono ?_
                rintro e w7 ⟨rfl, hb⟩
                replace hown' := own_step hown' hb
                replace kq := kq.step hb
                replace hs3 := hs3.step hb
                replace hbl5 := Below.trans hbl5 (hb.mono hbl5.size)
                clear hb u3
                cases hd : inB (z.versions.length : Int) 1 3
                · have HR := hide (HNO2.out (show refOk z = false by unfold refOk; rw [hd, Bool.and_false]; rfl))
                  clear hd
                  have HBB := hide (HB.trans ((hbl'.trans (hbl5.mono hsz)).mono HSZ))
                  go_wp2
                  go_ret
                  exact ⟨ret_bool (HR.out).symm, HBB.out⟩
                · have G2 := hide hd
                  clear hd
                  have u3 : w7.cell? ⟨_, 3, none⟩ = some (.slice A3 z.versions.length c3) := kq.cell 3
                  go_wp2_with fail
                  refine (hasFileS_any (l := z.versions) (fun l => !treOk l) 36 #[] (enters_of Tryd.func36 (by kernel_rfl) rfl) _ hs3 (fun i hi v fq w8 hB hR => ?_)).mono ?_
                  · obtain ⟨A9, n9, c9, hv, hs9⟩ := hR
                    obtain rfl : v = .slice A9 n9 c9 := by simpa using hv
                    exact mdlOk1_any _ hs9 (HGQ.out.versions i hi)
                  rintro e w8 ⟨rfl, hb⟩
                  replace hown' := own_step hown' hb
                  replace hbl5 := Below.trans hbl5 (hb.mono hbl5.size)
                  clear hb u3 kq hs3
                  have HV := hide (show refOk z = !(z.versions.any fun l => !treOk l) by rw [not_any_not]; unfold refOk; rw [G1.out, G2.out]; rfl)
                  generalize (z.versions.any fun l => !treOk l) = bb at HV ⊢
                  cases bb
                  · have HN := hide (HYES2.out HV.out)
                    rw [← HRN.out] at hown'
                    have HO := hide hown'
                    clear hown'
                    go_wp2
                    exact ⟨⟨q + 1, by omega, by go_num, HN.out, HO.out, hbl5⟩, by simp [intOf]; omega⟩
                  · have HR := hide (HNO2.out HV.out)
                    have HBB := hide (HB.trans ((hbl'.trans (hbl5.mono hsz)).mono HSZ))
                    clear hown'
                    go_wp2
                    go_ret
                    exact ⟨ret_bool (HR.out).symm, HBB.out⟩
            · have hq' : q = y.refs.length := by omega
              subst hq'
              have HOW := hide (show wr.ownsRow wx.heap.size 9 1 _ (y.refs.map (·.name)).length ((y.refs.map (·.name)).flatMap fun s => [.string s]) by rw [List.length_map, ← rowNames_all]; exact hown)
              obtain ⟨A7, c7, f7, hv7, hs7⟩ := own_str HOW.out
              rw [List.length_map] at hv7 hs7
              subst hv7
              clear hown HOW
              have HZ := hide (show ∀ i (h : i < (y.refs.map Ref.name).length), (y.refs.map Ref.name)[i].size ≤ 4194304 from fun i hi => by rw [List.getElem_map]; exact (HG.out.refs i (by simpa using hi)).name)
              replace kr := kr.step hbl2
              replace kp := kp.step hbl2
              replace hs0 := hs0.step hbl2
              have u0 : wr.cell? ⟨w.heap.size, 0, none⟩ = some (.slice A0 x.keys.length c0) := kr.cell 0
              have t0 : wr.cell? ⟨R0, 0, none⟩ = some (.int .i64 y.admin) := kp.cell 0
              have t1 : wr.cell? ⟨R0, 1, none⟩ = some (.slice B0 y.rules.length k0) := kp.cell 1
              go_wp2_with fail
              refine (implRepoOk_any (x.keys.length : Int) y.admin _ hs0 hs7 HG.out.rules HZ.out).mono ?_
              rintro e w9 ⟨rfl, hb⟩
              have HBB := hide (hbl'.trans ((hbl2.trans (hb.mono hbl2.size)).mono hsz))
              clear hb u0 t0 t1
              have HV := hide (show repoOk x.keys.length y = repoB x.keys.length y.admin y.rules (y.refs.map (·.name)) by rw [repoOk_B, ← allN_atB, HA2.out.all_]; rfl)
              generalize repoB x.keys.length y.admin y.rules (y.refs.map (·.name)) = bb at HV ⊢
              cases bb
              · have HR := hide (HNO.out HV.out)
                have HBC := hide (HB.trans (HBB.out.mono HSZ))
                go_wp2
                go_ret
                exact ⟨ret_bool (HR.out).symm, HBC.out⟩
              · have HN := hide (HYES.out HV.out)
                go_wp2
                exact ⟨⟨k + 1, by omega, by go_num, HN.out, HBB.out⟩, by simp [intOf]; omega⟩
        · have hk' : k = x.repos.length := by omega
          subst hk'
          have HR := hide (show mdlOk x = true by rw [HS.out, H1.out, H3.out, HA.out.all_]; rfl)
          have HBB := hide (HB.trans (hbl.mono HSZ))
          go_wp2
          go_ret
          exact ⟨ret_bool (HR.out).symm, HBB.out⟩
end Go.Proofs.YtnogkkcmcnhodaaDoor
