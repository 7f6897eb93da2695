/- Lemmas and walks, joined by program (wip/gen/merge.py). -/
import Derived.Deep.DeepCutAuto
import Derived.Laws.Rows
import Derived.Test.YtnogkkcmcnhodaaGreatDoorZ15
import Derived.Test.YtnogkkcmcnhodaaGreatDoorZ3
import Derived.Test.YtnogkkcmcnhodaaGreatDoorZ12
namespace Go.Proofs.YtnogkkcmcnhodaaGreatDoor
open Go.RowKit
attribute [local go_sem ↓] Go.wp_at_zero Go.wp_at_succ
attribute [local go_sem] stayQ_normal

structure RepoFit (p : Repo) : Prop where
 rules : fitRules p.rules
 nrules : p.rules.length ≤ 6
 nrefs : p.refs.length ≤ 3
 vers : ∀ x ∈ p.refs, 1 ≤ x.versions.length ∧ x.versions.length ≤ 3 ∧ (0 ≤ x.count ∧ x.count ≤ 14) ∧ ∀ l ∈ x.versions, treOk l = true
 names : ∀ x ∈ p.refs, x.name.size ≤ 4194304
 asc_ : asc Ref.name p.refs
theorem nam_size {s : ByteArray} (h : refFits s = true) : s.size ≤ 4194304 := by
 unfold refFits at h
 rcases Bool.or_eq_true_iff.1 h with h | h
 ·have := of_decide_eq_true h
  subst this
  decide
 ·have := namOk_size h
  omega
theorem rulOk_fit {r : Rule} (h : rulOk r = true) : fitRule r := by
 unfold rulOk at h
 simp only [Bool.and_eq_true] at h
 have := pthOk_size h.2
 exact ⟨nam_size h.1.2, by omega⟩
theorem RepoFit.of {u : Int} {p : Repo} (h : repoOk u p = true) : RepoFit p := by
 obtain ⟨h1, h2, h3, h4, h5, h6⟩ := repoOk_iff.1 h
 have hr := rulListOk_iff.1 h5
 refine ⟨fun i hi => rulOk_fit (hr.2.1 _ (List.getElem_mem hi)), hr.1, h6, fun x hx => ?_, fun x hx => ?_, h3⟩
 ·obtain ⟨a, b, c⟩ := refOk_iff.1 (h1 x hx)
  exact ⟨by omega, by omega, a, c⟩
 ·have := namOk_size (h2 x hx)
  omega
structure ReqFit (r : Req) : Prop where
 path : r.path.size ≤ 4194304
 ref : r.ref.size ≤ 4194304
 other : r.other.size ≤ 4194304
 rule : fitRule r.rule
 edits : fitEdits r.edits
 nedits : r.edits.length ≤ 4
 ints : (0 ≤ r.user ∧ r.user ≤ 99) ∧ (0 ≤ r.repo ∧ r.repo ≤ 99) ∧ (0 ≤ r.old ∧ r.old ≤ 99) ∧ (0 ≤ r.back ∧ r.back ≤ 99) ∧ (0 ≤ r.frm ∧ r.frm ≤ 99)

theorem ReqFit.of {r : Req} (h : reqOk r = true) : ReqFit r := by
 have hi := reqOk_ints h
 obtain ⟨h4, he⟩ := reqOk_edits h
 simp only [reqOk, Bool.and_eq_true] at h
 have hp := pthOk_size h.1.1.1.2
 refine ⟨by omega, nam_size h.1.1.1.1.1.2, nam_size h.1.1.1.1.2, rulOk_fit h.1.1.2, ⟨by omega, fun e hm => ?_⟩, h4, hi⟩
 have := he e hm
 unfold editOk at this
 simp only [Bool.and_eq_true, decide_eq_true_eq] at this
 have := pthOk_size this.1.1.1
 omega
theorem Below.past {w w1 : World} (h : Below w.drew.heap.size w.drew w1) : Below w.heap.size w w1 := Below.t (Below.refl _ _).drew h
theorem below_only {w wc W : World} {g : Nat} (h : Below w.heap.size w wc) (hO : Only [g] wc W) (hg : w.heap.size ≤ g) : Below w.heap.size w W := h.trans (hO.below (fun z hz => by simp at hz; omega) h.size)
theorem ans_put {w : World} {g : Nat} {t : TypeId} {a0 a1 a2 a3 : Value} (h : Blk w g t #[a0, a1, a2, a3]) (v0 v1 v2 v3 : Value) :
  Blk ((((w.setCell ⟨g, 0, none⟩ v0).setCell ⟨g, 1, none⟩ v1).setCell ⟨g, 2, none⟩ v2).setCell ⟨g, 3, none⟩ v3) g t #[v0, v1, v2, v3] ∧ Only [g] w ((((w.setCell ⟨g, 0, none⟩ v0).setCell ⟨g, 1, none⟩ v1).setCell ⟨g, 2, none⟩ v2).setCell ⟨g, 3, none⟩ v3) :=
 ⟨by simpa using (((h.put 0 v0).put 1 v1).put 2 v2).put 3 v3, ((((Only.refl [g] w).setCell (p := ⟨g, 0, none⟩) (.inl (by simp)) v0).setCell (p := ⟨g, 1, none⟩) (.inl (by simp)) v1).setCell (p := ⟨g, 2, none⟩) (.inl (by simp)) v2).setCell (p := ⟨g, 3, none⟩) (.inl (by simp)) v3⟩
theorem FreshR.code (k : Int) {w W : World} (hb : Below w.heap.size w W) : FreshR Rp.ans w (code k) (.returned (.agg #[.int .i64 k, .slice none 0 0, .slice none 0 0, .int .i64 0])) W :=
 ⟨[.int .i64 k, .slice none 0 0, .slice none 0 0, .int .i64 0], [], rfl, ⟨none, 0, 0, [], none, 0, 0, [], rfl, rfl, SlR.nil, SlR.nil⟩, List.nodup_nil, by simp, Free.nil _, hb⟩
theorem treUnder_len (l : List File) (path : ByteArray) : (treUnder l path).length ≤ l.length := List.length_filter_le _ _
theorem treUnder_fit {l : List File} (h : treOk l = true) (path : ByteArray) : fitFiles (treUnder l path) := treOk_fit (treOk_filter h _)

set_option maxHeartbeats 1000000 in
set_option maxRecDepth 20000 in
theorem knows_any {A : Option Addr} {n c : Nat} {keys : List Int} {fp : List Nat} (user key : Int) (w : World) (hx : SlR Rp.int w A n c keys fp) :
  Calls Tryz.prog 104 #[.slice A n c, .int .i64 user, .int .i64 key] w fun e w' => e = .returned (.bool (knows keys user key)) ∧ Below w.heap.size w w' := by
 obtain rfl := hx.1
 have hmx := hx.max
 go_enter Tryz.func104, Tryz.ntmps104
 go_wp2_with fail
 refine (implIn_any user 1 keys.length _).mono ?_
 rintro e w1 ⟨rfl, hb⟩
 cases hd : inB user 1 keys.length
 ·have HK := hide (show knows keys user key = false by unfold knows; rw [hd]; rfl)
  clear hd
  go_wp2
  go_ret
  exact ⟨ret_bool HK.out.symm, hb⟩
 ·obtain ⟨h1, h2⟩ := inB_iff.1 hd
  obtain ⟨u, rfl⟩ : ∃ u : Nat, user = (u : Int) + 1 := ⟨(user - 1).toNat, by omega⟩
  have hul : u < keys.length := by omega
  have HX := hide (hx.step hb)
  obtain ⟨b, o, rfl, hbl, _, q0⟩ := int_cells HX.out hul
  have hw : IntKind.i64.wrap ((u : Int) + 1 - 1) = (u : Int) := by rw [IntWalk.i64_in _ (by omega)]; omega
  have HK := hide (show knows keys ((u : Int) + 1) key = decide (keys[u] = key) by
   unfold knows
   rw [hd, show ((u : Int) + 1 - 1).toNat = u by omega, List.getElem?_eq_getElem hul]
   simp)
  have i0 : (0 : Int) ≤ (u : Int) := by omega
  have i1 : (u : Int) < (keys.length : Int) := by omega
  clear hd hx hbl h1 h2
  go_wp2
  go_ret
  exact ⟨ret_bool (by rw [HK.out, Bool.eq_iff_iff]; simp), hb⟩

set_option maxHeartbeats 1000000 in
set_option maxRecDepth 20000 in
theorem code_any (k : Int) (w : World) : Calls Tryz.prog 105 #[.int .i64 k] w fun e w' => e = .returned (.agg #[.int .i64 k, .slice none 0 0, .slice none 0 0, .int .i64 0]) ∧ Below w.heap.size w w' := by
 go_enter Tryz.func105, Tryz.ntmps105
 go_wp2
 have kb := Blk.new w 39 #[.int .i64 k, .slice none 0 0, .slice none 0 0, .int .i64 0]
 have HB := (Below.refl w.heap.size w).alloc nle (.cells #[.int .i64 k, .slice none 0 0, .slice none 0 0, .int .i64 0] 39)
 generalize w.alloc (.cells #[.int .i64 k, .slice none 0 0, .slice none 0 0, .int .i64 0] 39) = W at kb HB ⊢
 have e0 := Blk.c0 kb
 have e1 := Blk.c1 kb
 have e2 := Blk.c2 kb
 have e3 := Blk.c3 kb
 exact bodyPost_ret (v := .agg #[.int .i64 k, .slice none 0 0, .slice none 0 0, .int .i64 0]) (by simp [results, Tryz.results105, go_sem, e0, e1, e2, e3]) rfl ⟨rfl, HB⟩
theorem Blk.at_ {w : World} {g H : Nat} {t : TypeId} {cs : Array Value} (h : Blk w g t cs) (e : g = H) : Blk w H t cs := e ▸ h
set_option maxHeartbeats 1000000 in
theorem may1_any {A : Option Addr} {n c : Nat} {rules : List Rule} {fr : List Nat} {r : Req} {E0 : Option Addr} {d0 : Nat} (e : Edit) (he : e.path.size ≤ 4194304) (b5 b3 : Nat) (w : World) (kq : Blk w b3 46 #[.int .i64 r.user, .int .i64 r.key, .int .i64 r.repo, .int .i64 r.kind, .string r.ref, .string r.path, .int .i64 r.old, .int .i64 r.back, .slice E0 r.edits.length d0, .int .i64 r.rule.user, .string r.rule.ref, .string r.rule.path, .bool r.rule.write, .int .i64 r.frm, .string r.other]) (c5 : w.cell? ⟨b5, 0, none⟩ = some (.slice A n c)) (hs : SlR Rp.rule w A n c rules fr) (hR : fitRules rules) :
  Calls Tryz.prog 172 #[.agg (encEdit e).toArray, .pointer (some ⟨b5, 0, none⟩), .pointer (some ⟨b3, 0, none⟩)] w fun x w' => x = .returned (.bool (!rulMay rules r.user r.ref e.path true)) ∧ Below w.heap.size w w' := by
 rw [show (encEdit e).toArray = #[.string e.path, .string e.bytes, .bool e.gone] from rfl]
 have d5 := cell_alloc c5 (.cells #[.string e.path, .string e.bytes, .bool e.gone] 126)
 have kq' := kq.alloc (.cells #[.string e.path, .string e.bytes, .bool e.gone] 126)
 have hs' := hs.allocN (.cells #[.string e.path, .string e.bytes, .bool e.gone] 126)
 have x0 : (w.alloc (.cells #[.string e.path, .string e.bytes, .bool e.gone] 126)).cell? ⟨b3, 0, none⟩ = some (.int .i64 r.user) := kq'.cell 0
 have x4 : (w.alloc (.cells #[.string e.path, .string e.bytes, .bool e.gone] 126)).cell? ⟨b3, 4, none⟩ = some (.string r.ref) := kq'.cell 4
 clear c5 kq kq' hs
 go_enter Tryz.func172, Tryz.ntmps172
 go_wp2_with fail
 refine (implRulMay_any (l := rules) r.user r.ref e.path true _ hs' hR he).mono ?_
 rintro x w1 ⟨rfl, hb1⟩
 go_wp2
 go_ret
 exact ⟨rfl, Below.box1 hb1⟩

set_option maxHeartbeats 8000000 in
set_option maxRecDepth 100000 in
theorem may_any {g i : Nat} {m : House} {r : Req} {ch cs : List Value} {f fr : List Nat} (w : World) (hc : Cells w g 0 ch) (hm : Rp.house.R w ch m f) (hr : Rp.req.R w cs r fr) (hri : r.repo = (i : Int)) (hi : i < m.repos.length) (hP : ∀ p ∈ m.repos, RepoFit p) (hQ : ReqFit r) :
  Calls Tryz.prog 148 #[.pointer (some ⟨g, 0, none⟩), .agg cs.toArray] w fun e w' => e = .returned (.bool (mayWrite m m.repos[i] r)) ∧ Below w.heap.size w w' := by
 obtain ⟨E0, m0, d0, e0, rfl, _, hq⟩ := hr
 obtain rfl := hq.1
 have hm0 := hm
 obtain ⟨A0, n0, c0, f0, A1, n1, c1, f1, A2, n2, c2, f2, rfl, hff, h0, h1, h2⟩ := hm
 obtain rfl := h0.1
 obtain rfl := h1.1
 obtain rfl := h2.1
 have hmx := h2.max
 have hmq := hq.max
 have HB0 := (Below.refl w.heap.size w).alloc nle (.cells #[.int .i64 r.user, .int .i64 r.key, .int .i64 r.repo, .int .i64 r.kind, .string r.ref, .string r.path, .int .i64 r.old, .int .i64 r.back, .slice E0 r.edits.length d0, .int .i64 r.rule.user, .string r.rule.ref, .string r.rule.path, .bool r.rule.write, .int .i64 r.frm, .string r.other] 46)
 have kq := Blk.new w 46 #[.int .i64 r.user, .int .i64 r.key, .int .i64 r.repo, .int .i64 r.kind, .string r.ref, .string r.path, .int .i64 r.old, .int .i64 r.back, .slice E0 r.edits.length d0, .int .i64 r.rule.user, .string r.rule.ref, .string r.rule.path, .bool r.rule.write, .int .i64 r.frm, .string r.other]
 have HRI := hide hri
 have HPF := hide hP
 have HQF := hide hQ
 have HCx := hide (fun (W : World) (hb : Below w.heap.size w W) => (show W.cell? ⟨g, 0, none⟩ = some (.slice A0 m.keys.length c0) ∧ W.cell? ⟨g, 1, none⟩ = some (.slice A1 m.used.length c1) ∧ W.cell? ⟨g, 2, none⟩ = some (.slice A2 m.repos.length c2) from
  ⟨cell_step (by simpa using hc.at0) hb, cell_step (by simpa using hc.tail.at0) hb, cell_step (by simpa using hc.tail.tail.at0) hb⟩))
 have HUx := hide (fun (W : World) (hb : Below w.heap.size w W) => h1.step hb)
 have HRx := hide (fun (W : World) (hb : Below w.heap.size w W) => h2.step hb)
 have HEx := hide (fun (W : World) (hb : Below w.heap.size w W) => hq.step hb)
 have HHx := hide (fun (W : World) (hb : Below w.heap.size w W) => Rp.house.below hm0 hb nle)
 clear hc hm0 hff h0 h1 h2 hP hQ hq hri 
 go_enter Tryz.func148, Tryz.ntmps148
 go_upto_region 1 with fail
 generalize hW0 : w.alloc (.cells #[.int .i64 r.user, .int .i64 r.key, .int .i64 r.repo, .int .i64 r.kind, .string r.ref, .string r.path, .int .i64 r.old, .int .i64 r.back, .slice E0 r.edits.length d0, .int .i64 r.rule.user, .string r.rule.ref, .string r.rule.path, .bool r.rule.write, .int .i64 r.frm, .string r.other] 46) = w0 at HB0 kq ⊢
 clear hW0
 have HKQ := hide (fun (W : World) (hb : Below w0.heap.size w0 W) => kq.step hb)
 have HB0 := hide HB0
 clear kq
 have HFI := hide (HPF.out _ (List.getElem_mem hi))
 have i0 : (0 : Int) ≤ (i : Int) := by omega
 have i1 : (i : Int) < (m.repos.length : Int) := by omega
 have hmf := makeFunc_run
 have HMF := hide hmf
 clear hmf
 obtain ⟨bp, op, B0, k0, d1, g0, B1, k1, d2, g1, rfl, hbp, hmp, q0, q1, q2, hs0, hs1, _⟩ := repo_cells (HRx.out w0 HB0.out) hi
 obtain rfl := hs0.1
 have HS0 := hide (fun (W : World) (hb : Below w0.heap.size w0 W) => hs0.step hb)
 clear q0 q2 hs0 hs1 hbp hmp
 obtain ⟨a0, a1, a2⟩ := HCx.out w0 HB0.out
 have x2 : w0.cell? ⟨w.heap.size, 2, none⟩ = some (.int .i64 (i : Int)) := by rw [← HRI.out]; exact (HKQ.out w0 (Below.refl _ _)).cell 2
 go_upto_region 1 with fail
 have b2 := fun (y : Obj) => cell_alloc a2 y
 have y2 := fun (y : Obj) => cell_alloc x2 y
 have p1 := fun (y : Obj) => cell_alloc q1 y
 go_cut [5] (fun v wx => v = .pointer (some ⟨w0.heap.size, 0, none⟩) ∧ Blk wx w0.heap.size 93 #[.slice B0 m.repos[i].rules.length d1] ∧ Below w0.heap.size w0 wx)
 case first =>
  go_region_law (fail)
  all_goals
   go_wp2_with fail
   go_meet
   case rel => exact ⟨rfl, (by first | exact Blk.new' rfl _ _ | exact Blk.new' (by simp) _ _), (by repeat' first | exact Below.refl _ _ | apply Below.drew | (refine Below.alloc ?_ (by simp) _))⟩
 case rest =>
  obtain ⟨wz, hwz⟩ : ∃ wz, wz = wc := ⟨_, rfl⟩
  subst hwz
  obtain ⟨rfl, k5, hb1⟩ := hcut
  have HB1 := hide hb1
  have HK5 := hide k5
  clear hb1 k5 a0 a1 a2 x2 q1 b2 y2 p1
  have c5 := Blk.c0 HK5.out
  by_cases k1 : r.kind = 1
  ·have K1 := hide k1
   have x3 : wz.cell? ⟨w.heap.size, 3, none⟩ = some (.int .i64 1) := by rw [← K1.out]; exact (HKQ.out wz HB1.out).cell 3
   have x8 := Blk.c8 (HKQ.out wz HB1.out)
   clear k1
   have HE := hide (show mayWrite m m.repos[i] r = (decide (0 < r.edits.length) && r.edits.all fun e => rulMay m.repos[i].rules r.user r.ref e.path true) by unfold mayWrite; rw [if_pos K1.out])
   by_cases hpos : 0 < r.edits.length
   ·have hposi : (0 : Int) < (r.edits.length : Int) := by omega
    have HP := hide (decide_eq_true hpos)
    have hmf := HMF.out
    clear hpos
    go_wp2_with fail
    refine (hasEdit_any (l := r.edits) (fun e => !rulMay m.repos[i].rules r.user r.ref e.path true) _ _ (enters_of Tryz.func172 (by kernel_rfl) rfl) _ (HEx.out _ (Below.t HB0.out HB1.out)) (fun j hj cs fq w1 hB hR => ?_)).mono ?_
    ·obtain ⟨rfl, rfl⟩ := hR
     exact may1_any _ (HQF.out.edits.2 _ (List.getElem_mem hj)).1 _ _ w1 ((HKQ.out wz HB1.out).step hB) (cell_step c5 hB) (HS0.out _ (Below.t HB1.out hB)) HFI.out.rules
    ·rintro e wv ⟨rfl, hbv⟩
     go_wp2
     go_ret
     refine ⟨ret_bool ?_, Below.t HB0.out (Below.t HB1.out hbv)⟩
     rw [HE.out, HP.out, Bool.true_and, Bool.eq_iff_iff]
     simp
   ·have hposi : ¬ (0 : Int) < (r.edits.length : Int) := by omega
    have HP := hide (decide_eq_false hpos)
    clear hpos
    go_wp2_with fail
    go_ret
    exact ⟨ret_bool (by rw [HE.out, HP.out]; rfl), Below.t HB0.out HB1.out⟩
  ·have K1 := hide k1
   have C1 := fun W (h : SlR Rp.rule W B0 m.repos[i].rules.length d1 m.repos[i].rules g0) => implRulMay_any r.user r.ref ByteArray.empty true W h HFI.out.rules (by decide)
   have HE := hide (show mayWrite m m.repos[i] r = (rulMay m.repos[i].rules r.user r.ref ByteArray.empty true && (decide (r.kind = 9) || (match m.repos[r.frm.toNat]? with
    | none => false
    | some q => rulMay q.rules r.user r.other ByteArray.empty false))) by unfold mayWrite; rw [if_neg K1.out]; rfl)
   have hs0 := HS0.out wz HB1.out
   have x0 := Blk.c0 (HKQ.out wz HB1.out)
   have x4 := Blk.c4 (HKQ.out wz HB1.out)
   cases hA : rulMay m.repos[i].rules r.user r.ref ByteArray.empty true
   ·have HV := hide (show mayWrite m m.repos[i] r = false by rw [HE.out, hA]; rfl)
    simp only [hA] at C1
    have D1 := hide C1
    clear C1 hA
    have x3 := Blk.c3 (HKQ.out wz HB1.out)
    go_wp2_with fail
    have n0 := BelowW.nonempty wz
    have e0 := BelowW.ex (w := wz)
    have g_c5 := fun n : BelowW wz => n.cell c5
    have g_x0 := fun n : BelowW wz => n.cell x0
    have g_x3 := fun n : BelowW wz => n.cell x3
    have g_x4 := fun n : BelowW wz => n.cell x4
    clear c5 x0 x3 x4
    refine wp_region_below (by kernel_rfl) (by kernel_rfl) ?_
    repeat (go_big_quiet_step (first | (go_at_call 121; exact BelowW.calls _ (D1.out _ (BelowW.sl _ hs0)))))
    refine wpQuiet_nil ?_
    rintro w4 ⟨m4, hw4⟩
    have hb4 := m4.property
    rw [← hw4] at hb4
    clear hw4 m4 e0 g_c5 g_x0 g_x3 g_x4
    go_wp2
    go_ret
    exact ⟨ret_bool HV.out.symm, Below.t HB0.out (Below.t HB1.out hb4)⟩
   ·have HA := hide hA
    simp only [hA] at C1
    have D1 := hide C1
    clear C1 hA
    by_cases k9 : r.kind = 9
    ·have K9 := hide k9
     have HV := hide (show mayWrite m m.repos[i] r = true by rw [HE.out, HA.out, decide_eq_true K9.out]; rfl)
     have x3 : wz.cell? ⟨w.heap.size, 3, none⟩ = some (.int .i64 9) := by rw [← K9.out]; exact (HKQ.out wz HB1.out).cell 3
     clear k1 k9
     go_wp2_with fail
     have n0 := BelowW.nonempty wz
     have e0 := BelowW.ex (w := wz)
     have g_c5 := fun n : BelowW wz => n.cell c5
     have g_x0 := fun n : BelowW wz => n.cell x0
     have g_x3 := fun n : BelowW wz => n.cell x3
     have g_x4 := fun n : BelowW wz => n.cell x4
     clear c5 x0 x3 x4
     refine wp_region_below (by kernel_rfl) (by kernel_rfl) ?_
     repeat (go_big_quiet_step (first | (go_at_call 121; exact BelowW.calls _ (D1.out _ (BelowW.sl _ hs0)))))
     refine wpQuiet_nil ?_
     rintro w4 ⟨m4, hw4⟩
     have hb4 := m4.property
     rw [← hw4] at hb4
     clear hw4 m4 e0 g_c5 g_x0 g_x3 g_x4
     go_wp2
     go_ret
     exact ⟨ret_bool HV.out.symm, Below.t HB0.out (Below.t HB1.out hb4)⟩
    ·have K9 := hide k9
     have hk9 : decide (r.kind = 9) = false := decide_eq_false k9
     have hk9' : (r.kind == 9) = false := by simpa using k9
     obtain ⟨a0, a1, a2⟩ := HCx.out wz (Below.t HB0.out HB1.out)
     have hfr0 := HQF.out.ints.2.2.2.2.1
     obtain ⟨j, hfj⟩ : ∃ j : Nat, r.frm = (j : Int) := ⟨r.frm.toNat, by omega⟩
     have HFJ := hide hfj
     have x3 := Blk.c3 (HKQ.out wz HB1.out)
     have x14 := Blk.c14 (HKQ.out wz HB1.out)
     have x13 : wz.cell? ⟨w.heap.size, 13, none⟩ = some (.int .i64 (j : Int)) := by rw [← hfj]; exact (HKQ.out wz HB1.out).cell 13
     clear hfr0 hfj a0 a1
     by_cases hj : j < m.repos.length
     ·obtain ⟨bp', op', B0', k0', d1', g0', B1', k1', d2', g1', hbo, hbp, hmp, q0, q1, q2, hs0', hs1, _⟩ := repo_cells (HRx.out wz (Below.t HB0.out HB1.out)) hj
      cases hbo
      obtain rfl := hs0'.1
      have HFI' := hide (HPF.out _ (List.getElem_mem hj))
      have C2 := fun W (h : SlR Rp.rule W B0' m.repos[j].rules.length d1' m.repos[j].rules g0') => implRulMay_any r.user r.other ByteArray.empty false W h HFI'.out.rules (by decide)
      have HV := hide (show mayWrite m m.repos[i] r = rulMay m.repos[j].rules r.user r.other ByteArray.empty false by rw [HE.out, HA.out, decide_eq_false K9.out, HFJ.out, Int.toNat_natCast, List.getElem?_eq_getElem hj]; rfl)
      have j0 : (0 : Int) ≤ (j : Int) := by omega
      have j1 : (j : Int) < (m.repos.length : Int) := by omega
      have j2 : decide ((j : Int) < (m.repos.length : Int)) = true := by simpa using hj
      have j3 : decide (j < m.repos.length) = true := by simpa using hj
      clear q0 q2 hs1 hbp hmp
      cases hB : rulMay m.repos[j].rules r.user r.other ByteArray.empty false
      all_goals
       rw [hB] at HV
       simp only [hB] at C2
       have D2 := hide C2
       clear C2 hB
       go_wp2_with fail
       have n0 := BelowW.nonempty wz
       have e0 := BelowW.ex (w := wz)
       have g_c5 := fun n : BelowW wz => n.cell c5
       have g_x0 := fun n : BelowW wz => n.cell x0
       have g_x3 := fun n : BelowW wz => n.cell x3
       have g_x4 := fun n : BelowW wz => n.cell x4
       have g_x13 := fun n : BelowW wz => n.cell x13
       have g_x14 := fun n : BelowW wz => n.cell x14
       have g_a2 := fun n : BelowW wz => n.cell a2
       have g_q1 := fun n : BelowW wz => n.cell q1
       clear c5 x0 x3 x4 x13 x14 a2 q1
       refine wp_region_below (by kernel_rfl) (by kernel_rfl) ?_
       repeat (go_big_quiet_step (first | (go_at_call 121; (with_reducible show Calls _ _ #[.slice B0 _ _, _, _, _, _] _ _); exact BelowW.calls _ (D1.out _ (BelowW.sl _ hs0))) | (go_at_call 121; (with_reducible show Calls _ _ #[.slice B0' _ _, _, _, _, _] _ _); exact BelowW.calls _ (D2.out _ (BelowW.sl _ hs0')))))
       refine wpQuiet_nil ?_
       rintro w4 ⟨m4, hw4⟩
       have hb4 := m4.property
       rw [← hw4] at hb4
       clear hw4 m4 e0 g_c5 g_x0 g_x3 g_x4 g_x13 g_x14 g_a2 g_q1
       go_wp2
       go_ret
       exact ⟨ret_bool HV.out.symm, Below.t HB0.out (Below.t HB1.out hb4)⟩
     ·have HV := hide (show mayWrite m m.repos[i] r = false by rw [HE.out, HA.out, decide_eq_false K9.out, HFJ.out, Int.toNat_natCast, List.getElem?_eq_none (by omega)]; rfl)
      have j2 : decide ((j : Int) < (m.repos.length : Int)) = false := by simpa using hj
      have j3 : decide (j < m.repos.length) = false := by simpa using hj
      clear hj
      go_wp2_with fail
      have n0 := BelowW.nonempty wz
      have e0 := BelowW.ex (w := wz)
      have g_c5 := fun n : BelowW wz => n.cell c5
      have g_x0 := fun n : BelowW wz => n.cell x0
      have g_x3 := fun n : BelowW wz => n.cell x3
      have g_x4 := fun n : BelowW wz => n.cell x4
      have g_x13 := fun n : BelowW wz => n.cell x13
      have g_a2 := fun n : BelowW wz => n.cell a2
      clear c5 x0 x3 x4 x13 a2
      refine wp_region_below (by kernel_rfl) (by kernel_rfl) ?_
      repeat (go_big_quiet_step (first | (go_at_call 121; exact BelowW.calls _ (D1.out _ (BelowW.sl _ hs0)))))
      refine wpQuiet_nil ?_
      rintro w4 ⟨m4, hw4⟩
      have hb4 := m4.property
      rw [← hw4] at hb4
      clear hw4 m4 e0 g_c5 g_x0 g_x3 g_x4 g_x13 g_a2
      go_wp2
      go_ret
      exact ⟨ret_bool HV.out.symm, Below.t HB0.out (Below.t HB1.out hb4)⟩
def NewFiles (w : World) (o : List File × Int) (e : Ending) (w' : World) : Prop :=
 ∃ A n c f, e = .returned (.tuple #[.slice A n c, .int .i64 o.2]) ∧ SlR Rp.file w' A n c o.1 f ∧ f.Nodup ∧ (∀ z ∈ f, w.heap.size ≤ z) ∧ Free w' f ∧ Below w.heap.size w w'
theorem version_zero {vs : List (List File)} (h : 1 ≤ vs.length) : ∃ l, version vs 0 = some l ∧ l ∈ vs := by
 have hj : vs.length - 1 < vs.length := by omega
 exact ⟨_, version_at (j := vs.length - 1) (Int.le_refl 0) (by omega) hj, List.getElem_mem hj⟩
theorem version_len {vs : List (List File)} (h : ∀ l ∈ vs, treOk l = true) (back : Int) : ((version vs back).getD []).length ≤ 60 := by
 cases hv : version vs back with
 | none => simp
 | some l => exact (treOk_iff.1 (h l (version_mem hv))).1

set_option maxHeartbeats 8000000 in
set_option maxRecDepth 100000 in
theorem newest_any {g b o : Nat} {m : House} {x : Ref} {r : Req} {ch cx cs : List Value} {f fx fr : List Nat} (w : World) (hc : Cells w g 0 ch) (hm : Rp.house.R w ch m f) (hr : Rp.req.R w cs r fr) (hcx : Cells w b o cx) (hx : Rp.ref.R w cx x fx)
  (hok : mdlOk m = true) (hxl : 1 ≤ x.versions.length) (hxo : ∀ l ∈ x.versions, treOk l = true) (hQ : ReqFit r) :
  Calls Tryz.prog 149 #[.pointer (some ⟨g, 0, none⟩), .agg cs.toArray, .pointer (some ⟨b, o, none⟩)] w (NewFiles w (newest m x r)) := by
 have hx0 := hx
 obtain ⟨Av, nv, cv, fv, rfl, hfv, hv0⟩ := hx
 have HZ := hide (show w.cell? ⟨b, o, none⟩ = some (.string x.name) ∧ w.cell? ⟨b, o + 1, none⟩ = some (.bool x.guard) ∧ w.cell? ⟨b, o + 2, none⟩ = some (.int .i64 x.count) ∧ w.cell? ⟨b, o + 3, none⟩ = some (.slice Av nv cv) from ⟨hcx.at0, hcx.tail.at0, hcx.tail.tail.at0, hcx.tail.tail.tail.at0⟩)
 have HXx := hide (fun (W : World) (hb : Below w.heap.size w W) => Rp.ref.below hx0 hb nle)
 have HOK := hide hok
 have HXL := hide hxl
 have HXO := hide hxo
 clear hcx hx0 hfv hv0 hok hxl hxo
 obtain ⟨E0, m0, d0, e0, rfl, _, hq⟩ := hr
 obtain rfl := hq.1
 have hm0 := hm
 obtain ⟨A0, n0, c0, f0, A1, n1, c1, f1, A2, n2, c2, f2, rfl, hff, h0, h1, h2⟩ := hm
 obtain rfl := h0.1
 obtain rfl := h1.1
 obtain rfl := h2.1
 have hmx := h2.max
 have hmq := hq.max
 have HB0 := (Below.refl w.heap.size w).alloc nle (.cells #[.int .i64 r.user, .int .i64 r.key, .int .i64 r.repo, .int .i64 r.kind, .string r.ref, .string r.path, .int .i64 r.old, .int .i64 r.back, .slice E0 r.edits.length d0, .int .i64 r.rule.user, .string r.rule.ref, .string r.rule.path, .bool r.rule.write, .int .i64 r.frm, .string r.other] 46)
 have kq := Blk.new w 46 #[.int .i64 r.user, .int .i64 r.key, .int .i64 r.repo, .int .i64 r.kind, .string r.ref, .string r.path, .int .i64 r.old, .int .i64 r.back, .slice E0 r.edits.length d0, .int .i64 r.rule.user, .string r.rule.ref, .string r.rule.path, .bool r.rule.write, .int .i64 r.frm, .string r.other]
 have HQF := hide hQ
 have HCx := hide (fun (W : World) (hb : Below w.heap.size w W) => (show W.cell? ⟨g, 0, none⟩ = some (.slice A0 m.keys.length c0) ∧ W.cell? ⟨g, 1, none⟩ = some (.slice A1 m.used.length c1) ∧ W.cell? ⟨g, 2, none⟩ = some (.slice A2 m.repos.length c2) from
  ⟨cell_step (by simpa using hc.at0) hb, cell_step (by simpa using hc.tail.at0) hb, cell_step (by simpa using hc.tail.tail.at0) hb⟩))
 have HUx := hide (fun (W : World) (hb : Below w.heap.size w W) => h1.step hb)
 have HRx := hide (fun (W : World) (hb : Below w.heap.size w W) => h2.step hb)
 have HEx := hide (fun (W : World) (hb : Below w.heap.size w W) => hq.step hb)
 have HHx := hide (fun (W : World) (hb : Below w.heap.size w W) => Rp.house.below hm0 hb nle)
 clear hc hm0 hff h0 h1 h2 hQ hq 
 go_enter Tryz.func149, Tryz.ntmps149
 go_upto_region 1 with fail
 generalize hW0 : w.alloc (.cells #[.int .i64 r.user, .int .i64 r.key, .int .i64 r.repo, .int .i64 r.kind, .string r.ref, .string r.path, .int .i64 r.old, .int .i64 r.back, .slice E0 r.edits.length d0, .int .i64 r.rule.user, .string r.rule.ref, .string r.rule.path, .bool r.rule.write, .int .i64 r.frm, .string r.other] 46) = w0 at HB0 kq ⊢
 clear hW0
 have HKQ := hide (fun (W : World) (hb : Below w0.heap.size w0 W) => kq.step hb)
 have HB0 := hide HB0
 clear kq
 by_cases k1 : r.kind = 1
 ·have K1 := hide k1
  have x3 : w0.cell? ⟨w.heap.size, 3, none⟩ = some (.int .i64 1) := by rw [← K1.out]; exact (HKQ.out w0 (Below.refl _ _)).cell 3
  have z0 : w0.cell? ⟨b, o, none⟩ = some (.string x.name) := cell_step (HZ.out.1) HB0.out
  have z1 : w0.cell? ⟨b, o + 1, none⟩ = some (.bool x.guard) := cell_step (HZ.out.2.1) HB0.out
  have z2 : w0.cell? ⟨b, o + 2, none⟩ = some (.int .i64 x.count) := cell_step (HZ.out.2.2.1) HB0.out
  have z3 : w0.cell? ⟨b, o + 3, none⟩ = some (.slice Av nv cv) := cell_step (HZ.out.2.2.2) HB0.out
  clear k1
  obtain ⟨l, hv, hl⟩ := version_zero HXL.out
  have HV := hide hv
  have HL := hide hl
  have HL60 := hide (show l.length ≤ 60 from (treOk_iff.1 (HXO.out l hl)).1)
  clear hv hl
  go_wp2_with fail
  refine (version_any (x := x) 0 (by omega) _ (HXx.out _ HB0.out)).mono ?_
  rintro e w1 ⟨AF, nF, cF, fF, rfl, hsF, _, hb1⟩
  rw [HV.out] at hsF
  have HS1 := hide (show SlR Rp.file w1 AF nF cF l fF from hsF)
  have HB1 := hide hb1
  rw [HV.out]
  simp only [Option.isSome]
  clear hsF hb1 z0 z1 z2 z3 x3
  have x8 := Blk.c8 (HKQ.out w1 HB1.out)
  go_wp2_with fail
  refine (implTreTurn_any (l := l) (es := r.edits) _ HS1.out (HEx.out _ (Below.t HB0.out HB1.out)) (treOk_fit (HXO.out l HL.out)) HQF.out.edits).mono ?_
  rintro e w2 ⟨v2, rfl, ho2, hb2⟩
  obtain ⟨A2', c2', f2', rfl, hs2, _, _, _⟩ := own_files ho2
  have HS2 := hide hs2
  have HB2 := hide (Below.t HB1.out hb2)
  clear ho2 hs2 hb2 x8
  cases ht : treTurn l r.edits with
  | none =>
   simp only [Option.isSome]
   have HE := hide (show newest m x r = ([], 7) by unfold newest; rw [if_pos K1.out, HV.out]; simp only [ht])
   go_wp2_with fail
   go_ret2
   rw [HE.out]
   exact ⟨none, 0, 0, [], rfl, SlR.nil, List.nodup_nil, by simp, Free.nil _, Below.t HB0.out HB2.out⟩
  | some y =>
   have hs2 := HS2.out
   rw [ht] at hs2
   have HS3 := hide (show SlR Rp.file w2 A2' y.length c2' y f2' from hs2)
   have HY := hide (show y.length ≤ 60 from (treOk_iff.1 (treTurn_some ht)).1)
   simp only [Option.isSome, Option.getD_some]
   clear hs2 HS2
   have HE := hide (show newest m x r = (y, 1) by unfold newest; rw [if_pos K1.out, HV.out]; simp only [ht])
   go_wp2_with fail
   refine (cloneFiles_any (l := y) _ HS3.out (by have := HY.out; omega)).mono ?_
   rintro e w5 ho5
   obtain ⟨A5, c5, f5, rfl, hs5, hn5, hl5, hf5, hb5⟩ := OwnF.sl (k := 2) (enc := encFile) (hk := fun _ => rfl) (h1 := encFile_one) ho5
   have HR := hide (show NewFiles w (newest m x r) (.returned (.tuple #[.slice A5 (y).length c5, .int .i64 1])) w5 from by rw [HE.out]; exact ⟨A5, _, c5, f5, rfl, hs5, hn5, fun z hz => Nat.le_trans (Below.t HB0.out HB2.out).size (hl5 z hz), hf5, Below.t (Below.t HB0.out HB2.out) hb5⟩)
   clear hs5 hn5 hl5 hf5 hb5 ho5
   go_wp2_with fail
   go_ret2
   exact HR.out
 have K1 := hide k1
 by_cases k9 : r.kind = 9
 ·have K9 := hide k9
  have x3 : w0.cell? ⟨w.heap.size, 3, none⟩ = some (.int .i64 9) := by rw [← K9.out]; exact (HKQ.out w0 (Below.refl _ _)).cell 3
  have z0 : w0.cell? ⟨b, o, none⟩ = some (.string x.name) := cell_step (HZ.out.1) HB0.out
  have z1 : w0.cell? ⟨b, o + 1, none⟩ = some (.bool x.guard) := cell_step (HZ.out.2.1) HB0.out
  have z2 : w0.cell? ⟨b, o + 2, none⟩ = some (.int .i64 x.count) := cell_step (HZ.out.2.2.1) HB0.out
  have z3 : w0.cell? ⟨b, o + 3, none⟩ = some (.slice Av nv cv) := cell_step (HZ.out.2.2.2) HB0.out
  have x7 := Blk.c7 (HKQ.out w0 (Below.refl _ _))
  clear k1 k9
  cases hg : x.guard
  ·rw [hg] at z1
   have HG := hide hg
   clear hg
   go_wp2_with fail
   refine wp_stay fun K hK => ?_
   have HKK := hide hK
   clear hK
   go_region_law (first
    | (refine step_call rfl 118 (enters_of Tryz.func118 (by kernel_rfl) rfl) rfl _ (by simp [Act.eval, Act.put, HG.out]) ((version_any (x := x) r.back (by have := HQF.out.ints; omega) _ (HXx.out _ (Below.t HB0.out (by first | exact (Below.refl _ _).drew | exact Below.refl _ _ | exact ((Below.refl _ _).drew).alloc nle _ | exact ((Below.refl _ _).alloc nle _).drew | exact (Below.refl _ _).alloc nle _)))).mono ?_); rintro e w3 ⟨AF, nF, cF, fF, rfl, hsF, _, hb3⟩; refine ⟨_, rfl, ?_⟩)
    | fail)
   all_goals
    refine HKK.out _ _ ?_
    clear HKK K
    have HB1 := hide (Below.past hb3)
    have HSF := hide hsF
    have HLN := hide (show ((version x.versions r.back).getD []).length ≤ 60 from version_len HXO.out _)
    clear hb3 hsF z0 z1 z2 z3 x3
    cases hv : version x.versions r.back with
    | none =>
     simp only [Option.isSome]
     have HE := hide (show newest m x r = ([], 7) by unfold newest; rw [if_neg K1.out, if_pos K9.out, HG.out]; simp only [Bool.false_eq_true, if_false]; simp only [hv])
     go_wp2_with fail
     go_ret2
     rw [HE.out]
     exact ⟨none, 0, 0, [], rfl, SlR.nil, List.nodup_nil, by simp, Free.nil _, Below.t HB0.out HB1.out⟩
    | some l =>
     have hs1 := HSF.out
     have hl1 := HLN.out
     rw [hv] at hs1 hl1
     have HS1 := hide (show SlR Rp.file w3 AF nF cF l fF from hs1)
     have HL1 := hide (show l.length ≤ 60 from hl1)
     simp only [Option.isSome]
     clear hs1 hl1 HSF HLN
     have HE := hide (show newest m x r = (l, 1) by unfold newest; rw [if_neg K1.out, if_pos K9.out, HG.out]; simp only [Bool.false_eq_true, if_false]; simp only [hv])
     go_wp2_with fail
     refine (cloneFiles_any (l := l) _ HS1.out (by have := HL1.out; omega)).mono ?_
     rintro e w5 ho5
     obtain ⟨A5, c5, f5, rfl, hs5, hn5, hl5, hf5, hb5⟩ := OwnF.sl (k := 2) (enc := encFile) (hk := fun _ => rfl) (h1 := encFile_one) ho5
     have HR := hide (show NewFiles w (newest m x r) (.returned (.tuple #[.slice A5 (l).length c5, .int .i64 1])) w5 from by rw [HE.out]; exact ⟨A5, _, c5, f5, rfl, hs5, hn5, fun z hz => Nat.le_trans (Below.t HB0.out HB1.out).size (hl5 z hz), hf5, Below.t (Below.t HB0.out HB1.out) hb5⟩)
     clear hs5 hn5 hl5 hf5 hb5 ho5
     go_wp2_with fail
     go_ret2
     exact HR.out
  ·rw [hg] at z1
   have HE := hide (show newest m x r = ([], 8) by unfold newest; rw [if_neg K1.out, if_pos K9.out, hg]; rfl)
   clear hg
   go_wp2_with fail
   go_ret2
   rw [HE.out]
   exact ⟨none, 0, 0, [], rfl, SlR.nil, List.nodup_nil, by simp, Free.nil _, HB0.out⟩
 have K9 := hide k9
 have x3 := Blk.c3 (HKQ.out w0 (Below.refl _ _))
 have x13 := Blk.c13 (HKQ.out w0 (Below.refl _ _))
 have x14 := Blk.c14 (HKQ.out w0 (Below.refl _ _))
 have z0 := True.intro
 have z1 := True.intro
 have z2 := True.intro
 have z3 := True.intro
 obtain ⟨a0, a1, a2⟩ := HCx.out w0 HB0.out
 go_wp2_with fail
 refine wp_stay fun K hK => ?_
 have HKK := hide hK
 clear hK
 go_region_law (first
  | (refine step_call rfl 65 (enters_of Tryz.func65 (by kernel_rfl) rfl) rfl _ (by simp [Act.eval, Act.put]) ((files_any (x := m) r.frm r.other 0 (by omega) _ (HHx.out _ (Below.t HB0.out (by first | exact (Below.refl _ _).drew | exact Below.refl _ _ | exact ((Below.refl _ _).drew).alloc nle _ | exact ((Below.refl _ _).alloc nle _).drew | exact (Below.refl _ _).alloc nle _)))).mono ?_); rintro e w3 ⟨AF, nF, cF, fF, rfl, hsF, _, hb3⟩; refine ⟨_, rfl, ?_⟩)
  | fail)
 all_goals
  refine HKK.out _ _ ?_
  clear HKK K
  have HB1 := hide (Below.past hb3)
  have HSF := hide hsF
  have HLN := hide (show ((filesOf m r.frm r.other 0).getD []).length ≤ 60 from filesOf_len HOK.out)
  clear hb3 hsF z0 z1 z2 z3 x3
  cases hv : filesOf m r.frm r.other 0 with
  | none =>
   simp only [Option.isSome]
   have HE := hide (show newest m x r = ([], 7) by unfold newest; rw [if_neg K1.out, if_neg K9.out]; simp only [hv])
   go_wp2_with fail
   go_ret2
   rw [HE.out]
   exact ⟨none, 0, 0, [], rfl, SlR.nil, List.nodup_nil, by simp, Free.nil _, Below.t HB0.out HB1.out⟩
  | some l =>
   have hs1 := HSF.out
   have hl1 := HLN.out
   rw [hv] at hs1 hl1
   have HS1 := hide (show SlR Rp.file w3 AF nF cF l fF from hs1)
   have HL1 := hide (show l.length ≤ 60 from hl1)
   simp only [Option.isSome]
   clear hs1 hl1 HSF HLN
   have HE := hide (show newest m x r = (l, 1) by unfold newest; rw [if_neg K1.out, if_neg K9.out]; simp only [hv])
   go_wp2_with fail
   refine (cloneFiles_any (l := l) _ HS1.out (by have := HL1.out; omega)).mono ?_
   rintro e w5 ho5
   obtain ⟨A5, c5, f5, rfl, hs5, hn5, hl5, hf5, hb5⟩ := OwnF.sl (k := 2) (enc := encFile) (hk := fun _ => rfl) (h1 := encFile_one) ho5
   have HR := hide (show NewFiles w (newest m x r) (.returned (.tuple #[.slice A5 (l).length c5, .int .i64 1])) w5 from by rw [HE.out]; exact ⟨A5, _, c5, f5, rfl, hs5, hn5, fun z hz => Nat.le_trans (Below.t HB0.out HB1.out).size (hl5 z hz), hf5, Below.t (Below.t HB0.out HB1.out) hb5⟩)
   clear hs5 hn5 hl5 hf5 hb5 ho5
   go_wp2_with fail
   go_ret2
   exact HR.out
theorem size_Req : (Tryz.prog.info? 46).map (·.size) = some 15 := by kernel_rfl
theorem infoC_FileS2 : (Tryz.prog.info? 36).map (fun i => (i.zero, i.size, i.bytes)) = some (some (.slice none 0 0), 1, 24) := by kernel_rfl
theorem knows_iff {keys : List Int} {user key : Int} (h : knows keys user key = true) : ∃ u : Nat, user = (u : Int) + 1 ∧ u < keys.length := by
 unfold knows at h
 obtain ⟨h1, h2⟩ := inB_iff.1 (Bool.and_eq_true_iff.1 h).1
 exact ⟨(user - 1).toNat, by omega, by omega⟩
theorem treSize_small {es : List Edit} (h : fitEdits es) (h4 : es.length ≤ 4) : treSize es ≤ 33554432 := by
 have := treSize_le h es.length nle
 rw [List.take_length] at this
 omega

set_option maxHeartbeats 16000000 in
set_option maxRecDepth 100000 in
theorem write_any {g i : Nat} {m : House} {r : Req} {ch cs : List Value} {fp fr : List Nat} (w : World) (hc : Cells w g 0 ch) (hgm : g ∉ fp) (hh : Rp.houseO.R w ch m fp) (hn : fp.Nodup) (hf : Free w fp) (hr : Rp.req.R w cs r fr) (hok : mdlOk m = true) (hrq : reqOk r = true) (hkn : knows m.keys r.user r.key = true) (hri : r.repo = (i : Int)) (hi : i < m.repos.length) :
  Calls Tryz.prog 109 #[.pointer (some ⟨g, 0, none⟩), .agg cs.toArray] w (Wrote w ch fp (write m m.repos[i] r).1 (write m m.repos[i] r).2) := by
 obtain ⟨fh, hm, hfhs⟩ := le_house.2 _ _ _ _ hh
 have HHO := hide hh
 have HNO := hide hn
 have HFO := hide hf
 have HGM := hide hgm
 have HCG := hide hc
 have HOK := hide hok
 have HQF := hide (ReqFit.of hrq)
 have HPF := hide (show ∀ p ∈ m.repos, RepoFit p from fun p hp => RepoFit.of ((mdlOk_iff.1 hok).2.2 p hp))
 obtain ⟨u, hu1, hu2⟩ := knows_iff hkn
 have hul : u < m.used.length := by have := (usersOk_iff.1 (mdlOk_iff.1 hok).1).2.1; omega
 have HUS := hide (show 0 ≤ m.used[u] ∧ m.used[u] ≤ 200 from (usersOk_iff.1 (mdlOk_iff.1 hok).1).2.2.2 _ (List.getElem_mem hul))
 have hu99 := HQF.out.ints.1
 have HU1 := hide hu1
 have hc0 := hc
 clear hn hf hgm hok hrq hkn hfhs hu2 hu1
 obtain ⟨E0, m0, d0, e0, rfl, hfe, hq⟩ := hr
 obtain rfl := hq.1
 have hm0 := hm
 obtain ⟨A0, n0, c0, f0, A1, n1, c1, f1, A2, n2, c2, f2, rfl, hff, h0, h1, h2⟩ := hm
 obtain rfl := h0.1
 obtain rfl := h1.1
 obtain rfl := h2.1
 have hmx := h2.max
 have hmq := hq.max
 have HB0 := (Below.refl w.heap.size w).alloc nle (.cells #[.int .i64 r.user, .int .i64 r.key, .int .i64 r.repo, .int .i64 r.kind, .string r.ref, .string r.path, .int .i64 r.old, .int .i64 r.back, .slice E0 r.edits.length d0, .int .i64 r.rule.user, .string r.rule.ref, .string r.rule.path, .bool r.rule.write, .int .i64 r.frm, .string r.other] 46)
 have kq := Blk.new w 46 #[.int .i64 r.user, .int .i64 r.key, .int .i64 r.repo, .int .i64 r.kind, .string r.ref, .string r.path, .int .i64 r.old, .int .i64 r.back, .slice E0 r.edits.length d0, .int .i64 r.rule.user, .string r.rule.ref, .string r.rule.path, .bool r.rule.write, .int .i64 r.frm, .string r.other]
 have HRI := hide hri
 have HCx := hide (fun (W : World) (hb : Below w.heap.size w W) => (show W.cell? ⟨g, 0, none⟩ = some (.slice A0 m.keys.length c0) ∧ W.cell? ⟨g, 1, none⟩ = some (.slice A1 m.used.length c1) ∧ W.cell? ⟨g, 2, none⟩ = some (.slice A2 m.repos.length c2) from
  ⟨cell_step (by simpa using hc.at0) hb, cell_step (by simpa using hc.tail.at0) hb, cell_step (by simpa using hc.tail.tail.at0) hb⟩))
 have HUx := hide (fun (W : World) (hb : Below w.heap.size w W) => h1.step hb)
 have HRx := hide (fun (W : World) (hb : Below w.heap.size w W) => h2.step hb)
 have HEx := hide (fun (W : World) (hb : Below w.heap.size w W) => hq.step hb)
 have HHx := hide (fun (W : World) (hb : Below w.heap.size w W) => Rp.house.below hm0 hb nle)
 obtain ⟨A0', n0', c0', f0', A1', n1', c1', f1', b, c2', cur, cr, fR, hch, h0', h1', hbt, hbm, hbl, hbf, hfn, hsub, hn1, hd1, hd0, hcr, hR, hcl1⟩ := house_set hh HNO.out hi
 cases hch
 obtain ⟨B0, m0', d0', g0, v, f1'', rfl, hff', hR0, hR1⟩ := id hR
 obtain ⟨A2', cap, fs1, rfl, hRs, _, _, _⟩ := hR1.sl
 obtain rfl := hR0.1
 obtain ⟨fq, hreal, _⟩ := le_repo.2 _ _ _ _ hR
 have HPx := hide (fun (W : World) (hb : Below w.heap.size w W) => Rp.repo.below hreal hb nle)
 have HRCx := hide (fun (W : World) (hb : Below w.heap.size w W) => (show W.cell? ⟨b, i * 3, none⟩ = some (.int .i64 m.repos[i].admin) ∧ W.cell? ⟨b, i * 3 + 1, none⟩ = some (.slice B0 m.repos[i].rules.length d0') ∧ W.cell? ⟨b, i * 3 + 2, none⟩ = some (.slice A2' m.repos[i].refs.length cap) from
  ⟨cell_step hcr.at0 hb, cell_step hcr.tail.at0 hb, cell_step hcr.tail.tail.at0 hb⟩))
 have HFI := hide (HPF.out _ (List.getElem_mem hi))
 have i0 : (0 : Int) ≤ (i : Int) := by omega
 have i1 : (i : Int) < (m.repos.length : Int) := by omega
 clear hR0 hR1 hRs hR hreal hff' h0' h1' hbt hbm hbl hbf hfn hsub hn1 hd1 hd0 hcr hcl1 hc0
 clear hc hm0 hff h0 h1 h2 hq hri hh hfe 
 go_enter Tryz.func109, Tryz.ntmps109
 go_upto_region 1 with fail
 generalize hW0 : w.alloc (.cells #[.int .i64 r.user, .int .i64 r.key, .int .i64 r.repo, .int .i64 r.kind, .string r.ref, .string r.path, .int .i64 r.old, .int .i64 r.back, .slice E0 r.edits.length d0, .int .i64 r.rule.user, .string r.rule.ref, .string r.rule.path, .bool r.rule.write, .int .i64 r.frm, .string r.other] 46) = w0 at HB0 kq ⊢
 clear hW0
 have HKQ := hide (fun (W : World) (hb : Below w0.heap.size w0 W) => kq.step hb)
 have HB0 := hide HB0
 clear kq
 go_wp2_with ((refine wpList_load_row rfl 46 (.tmp 3) rfl _ rfl _ _ _ _ (HKQ.out w0 (Below.refl _ _)).out Tryz.underlying46 rfl size_Req ?_))
 refine (may_any (g := g) (m := m) (r := r) (i := i) _ (HCG.out.keep (HB0.out.block g (World.block_lt_of_cell? w _ HCG.out.at0))) (HHx.out _ HB0.out) ⟨E0, _, d0, e0, rfl, rfl, HEx.out _ HB0.out⟩ HRI.out hi HPF.out HQF.out).mono ?_
 rintro e w1 ⟨rfl, hb1⟩
 have HB1 := hide hb1
 clear hb1
 cases hmay : mayWrite m m.repos[i] r
 ·have HE := hide (show write m m.repos[i] r = (m, 4) by unfold write; rw [hmay]; rfl)
  clear hmay
  go_wp2_with fail
  go_ret
  rw [HE.out]
  exact wrote_same 4 HHO.out (Below.t HB0.out HB1.out)
 have HMAY := hide hmay
 clear hmay
 obtain ⟨a0, a1, a2⟩ := HCx.out w1 (Below.t HB0.out HB1.out)
 have x2 : w1.cell? ⟨w.heap.size, 2, none⟩ = some (.int .i64 (i : Int)) := by rw [← HRI.out]; exact (HKQ.out w1 HB1.out).cell 2
 go_wp2_with fail
 go_quiet (fail)
 obtain ⟨w2, hw2⟩ : ∃ w2, w2 = w1.drewN nq := ⟨_, rfl⟩
 have HB2 := hide (show Below w0.heap.size w0 w2 from hw2 ▸ Below.drewN' HB1.out nq)
 rw [← hw2]
 clear hw2 a0 a1 a2 x2
 obtain ⟨r0, r1, r2⟩ := HRCx.out w2 (Below.t HB0.out HB2.out)
 have x4 := Blk.c4 (HKQ.out w2 HB2.out)
 have D1 := hide (fun W (h : Rp.repo.R W [.int .i64 m.repos[i].admin, .slice B0 m.repos[i].rules.length d0', .slice A2' m.repos[i].refs.length cap] m.repos[i] fq) => implRef_any r.ref W h)
 go_wp2_with fail
 have n0 := BelowW.nonempty w2
 have e0 := BelowW.ex (w := w2)
 have g_r0 := fun n : BelowW w2 => n.cell r0
 have g_r1 := fun n : BelowW w2 => n.cell r1
 have g_r2 := fun n : BelowW w2 => n.cell r2
 have g_x4 := fun n : BelowW w2 => n.cell x4
 clear r0 r1 r2 x4
 refine wp_region_below (by kernel_rfl) (by kernel_rfl) ?_
 repeat (go_big_quiet_step (first | (go_at_call 117; exact BelowW.calls _ (D1.out _ (HPx.out _ (Below.t (Below.t HB0.out HB2.out) (Subtype.property _)))))))
 refine wpQuiet_nil ?_
 rintro w4 ⟨m4, hw4⟩
 have hb4 := m4.property
 rw [← hw4] at hb4
 clear hw4 m4 e0 g_r0 g_r1 g_r2 g_x4
 have HB3 := hide (Below.t HB2.out hb4)
 clear hb4 D1
 rcases idxP_at (nameIs r.ref) m.repos[i].refs with ⟨hn, he⟩ | ⟨k, hn, hk, he⟩
 ·rw [he]
  clear he
  have HE := hide (show write m m.repos[i] r = (m, 5) by unfold write; rw [HMAY.out, show refIdx m.repos[i].refs r.ref = none from hn]; rfl)
  clear hn
  go_wp2_with fail
  go_ret
  rw [HE.out]
  exact wrote_same 5 HHO.out (Below.t HB0.out HB3.out)
 rw [he]
 clear he
 have HNF := hide (show refIdx m.repos[i].refs r.ref = some k from hn)
 have k0 : (0 : Int) ≤ (k : Int) := by omega
 have k1 : (k : Int) < (m.repos[i].refs.length : Int) := by omega
 have k2 : ¬ (k : Int) < 0 := by omega
 clear hn
 obtain ⟨A0w, c0w, bU, oU, c1w, bw, c2w, B0w, m0w, d0w, gR, capw, v3, f3, hch, hcb, hWA⟩ := write_at HHO.out HNO.out hi hk hul
 cases hch
 have hcr2 := (HRCx.out w (Below.refl _ _)).2.2
 have hcr3 := hcb.tail.tail.at0
 rw [show i * 3 + 1 + 1 = i * 3 + 2 from rfl, hcr2] at hcr3
 cases hcr3
 have HWA := hide hWA
 have HRFx := hide (fun (W : World) (hb : Below w.heap.size w W) => (show W.cell? ⟨gR, k * 4, none⟩ = some (.string m.repos[i].refs[k].name) ∧ W.cell? ⟨gR, k * 4 + 1, none⟩ = some (.bool m.repos[i].refs[k].guard) ∧ W.cell? ⟨gR, k * 4 + 2, none⟩ = some (.int .i64 m.repos[i].refs[k].count) ∧ W.cell? ⟨gR, k * 4 + 3, none⟩ = some v3 from
  ⟨cell_step hWA.cells.at0 hb, cell_step hWA.cells.tail.at0 hb, cell_step hWA.cells.tail.tail.at0 hb, cell_step hWA.cells.tail.tail.tail.at0 hb⟩))
 have HFX := hide (HFI.out.vers _ (List.getElem_mem hk))
 obtain ⟨A3, c3, f3', hv3, hs3, _, hlc3, hcm3⟩ := hWA.vers.sl
 subst hv3
 have HS3 := hide hs3
 clear hWA hcb hcr2 hs3
 obtain ⟨r0, r1, r2⟩ := HRCx.out w4 (Below.t HB0.out HB3.out)
 obtain ⟨t0, t1, t2, t3⟩ := HRFx.out w4 (Below.t HB0.out HB3.out)
 by_cases hce : m.repos[i].refs[k].count = r.old
 case neg =>
  have HE := hide (show write m m.repos[i] r = (m, 6) by unfold write; rw [HMAY.out, HNF.out]; simp only [if_true, getD_at hk]; rw [if_pos hce])
  have x6 := Blk.c6 (HKQ.out w4 HB3.out)
  go_upto_region 8 with fail
  go_quiet (fail)
  have HB4 := hide (Below.drewN' HB3.out nq)
  go_wp2_with fail
  go_ret
  rw [HE.out]
  exact wrote_same 6 HHO.out (Below.t HB0.out HB4.out)
 have HCE := hide hce
 have x6 : w4.cell? ⟨w.heap.size, 6, none⟩ = some (.int .i64 m.repos[i].refs[k].count) := by rw [hce]; exact (HKQ.out w4 HB3.out).cell 6
 clear hce
 go_upto_region 8 with fail
 go_quiet (fail)
 obtain ⟨w5, hw5⟩ : ∃ w5, w5 = w4.drewN nq := ⟨_, rfl⟩
 have HB4 := hide (show Below w0.heap.size w0 w5 from hw5 ▸ Below.drewN' HB3.out nq)
 rw [← hw5]
 clear hw5 r0 r1 r2 t0 t1 t2 t3 x6
 obtain ⟨t0, t1, t2, t3⟩ := HRFx.out w5 (Below.t HB0.out HB4.out)
 by_cases h14 : m.repos[i].refs[k].count = 14
 case pos =>
  have HE := hide (show write m m.repos[i] r = (m, 9) by unfold write; rw [HMAY.out, HNF.out]; simp only [if_true, getD_at hk]; rw [if_neg (fun h => h HCE.out), if_pos h14])
  rw [h14] at t2
  clear h14
  go_wp2_with fail
  go_ret
  rw [HE.out]
  exact wrote_same 9 HHO.out (Below.t HB0.out HB4.out)
 have H14 := hide h14
 have HCNT := hide (show 0 ≤ m.repos[i].refs[k].count ∧ m.repos[i].refs[k].count ≤ 13 by have := HFX.out.2.2.1; have := H14.out; omega)
 have hc14 : (m.repos[i].refs[k].count == 14) = false := by simpa using h14
 go_wp2_with ((refine wpList_load_row rfl 46 (.tmp 3) rfl _ rfl _ _ _ _ (HKQ.out w5 HB4.out).out Tryz.underlying46 rfl size_Req ?_))
 clear t0 t1 t2 t3 hc14 h14
 refine (newest_any (g := g) (b := gR) (o := k * 4) (m := m) (x := m.repos[i].refs[k]) (r := r) _ (HCG.out.keep ((Below.t HB0.out HB4.out).block g (World.block_lt_of_cell? w _ HCG.out.at0))) (HHx.out _ (Below.t HB0.out HB4.out)) ⟨E0, _, d0, e0, rfl, rfl, HEx.out _ (Below.t HB0.out HB4.out)⟩ (HWA.out.cells.keep ((Below.t HB0.out HB4.out).block gR (HWA.out.old _ HWA.out.gin))) ⟨_, _, _, f3', rfl, rfl, HS3.out.step (Below.t HB0.out HB4.out)⟩ HOK.out HFX.out.1 HFX.out.2.2.2 HQF.out).mono ?_
 rintro e w6 ⟨A5, n5, c5, f5, rfl, hs5, hn5, hl5, hf5, hb6⟩
 have HS5 := hide hs5
 have HL5 := hide hl5
 have HB6 := hide (Below.t HB4.out hb6)
 clear hs5 hl5 hb6 hn5 hf5
 by_cases hnc : (newest m m.repos[i].refs[k] r).2 = 1
 case neg =>
  have HE := hide (show write m m.repos[i] r = (m, (newest m m.repos[i].refs[k] r).2) by unfold write; rw [HMAY.out, HNF.out]; simp only [if_true, getD_at hk]; rw [if_neg (fun h => h HCE.out), if_neg H14.out, if_pos hnc])
  go_wp2_with fail
  go_ret
  rw [HE.out]
  exact wrote_same _ HHO.out (Below.t HB0.out HB6.out)
 have HNC := hide hnc
 rw [hnc]
 clear hnc
 obtain ⟨a0, a1, a2⟩ := HCx.out w6 (Below.t HB0.out HB6.out)
 have x0 : w6.cell? ⟨w.heap.size, 0, none⟩ = some (.int .i64 ((u : Int) + 1)) := by rw [← HU1.out]; exact (HKQ.out w6 HB6.out).cell 0
 have u0 : (0 : Int) ≤ (u : Int) := by omega
 have u1 : (u : Int) < (m.used.length : Int) := by omega
 have hwu : IntKind.i64.wrap ((u : Int) + 1 - 1) = (u : Int) := by rw [IntWalk.i64_in _ (by have := HU1.out; omega)]; omega
 have hwu2 : IntKind.i64.wrap (u : Int) = (u : Int) := IntWalk.i64_in _ (by have := HU1.out; omega)
 go_upto_region 15 with fail
 go_quiet (fail)
 obtain ⟨w7, hw7⟩ : ∃ w7, w7 = w6.drewN nq := ⟨_, rfl⟩
 have HB7 := hide (show Below w0.heap.size w0 w7 from hw7 ▸ Below.drewN' HB6.out nq)
 have HD7 := hide (show Below w6.heap.size w6 w7 from hw7 ▸ Below.drewN' (Below.refl _ _) nq)
 rw [← hw7]
 clear hw7 a0 a1 a2 x0 hwu hwu2
 have uc : w7.cell? ⟨bU, oU + u, none⟩ = some (.int .i64 m.used[u]) := cell_step HWA.out.cu (Below.t HB0.out HB7.out)
 have x8 := Blk.c8 (HKQ.out w7 HB7.out)
 have hT := treSize_small HQF.out.edits HQF.out.nedits
 have hus := HUS.out
 have hsum : IntKind.i64.wrap (m.used[u] + ((treSize r.edits : Nat) : Int)) = m.used[u] + ((treSize r.edits : Nat) : Int) := IntWalk.i64_in _ (by omega)
 have HSUM := hide hsum
 have hse := HEx.out w7 (Below.t HB0.out HB7.out)
 have D2 := hide (fun W (h : SlR Rp.edit W E0 r.edits.length d0 r.edits e0) => implTreSize_any W h HQF.out.edits)
 by_cases hov : m.used[u] + ((treSize r.edits : Nat) : Int) > 200
 case pos =>
  have HE := hide (show write m m.repos[i] r = (m, 10) by
   unfold write; rw [HMAY.out, HNF.out]; simp only [if_true, getD_at hk]; rw [if_neg (fun h => h HCE.out), if_neg H14.out, if_neg (fun h => h HNC.out), if_pos]
   rw [HU1.out, show ((u : Int) + 1 - 1).toNat = u by omega, getD_at hul]; exact hov)
  have hov' : (200 : Int) < m.used[u] + ((treSize r.edits : Nat) : Int) := hov
  clear hus hT hov
  go_wp2_with fail
  have n0 := BelowW.nonempty w7
  have e0 := BelowW.ex (w := w7)
  have g_uc := fun n : BelowW w7 => n.cell uc
  have g_x8 := fun n : BelowW w7 => n.cell x8
  clear uc x8
  refine wp_region_below (by kernel_rfl) (by kernel_rfl) ?_
  repeat (go_big_quiet_step (first | (go_at_call 150; exact BelowW.calls _ (D2.out _ (BelowW.sl _ hse)))))
  refine wpQuiet_nil ?_
  rintro w4 ⟨m4, hw4⟩
  have hb4 := m4.property
  rw [← hw4] at hb4
  clear hw4 m4 e0 g_uc g_x8
  go_wp2_with fail
  go_ret
  rw [HE.out]
  exact wrote_same 10 HHO.out (Below.t HB0.out (Below.t HB7.out hb4))
 have HE := hide (show write m m.repos[i] r = (laid m m.repos[i] k r (newest m m.repos[i].refs[k] r).1, 1) by
  unfold write; rw [HMAY.out, HNF.out]; simp only [if_true, getD_at hk]; rw [if_neg (fun h => h HCE.out), if_neg H14.out, if_neg (fun h => h HNC.out), if_neg]
  rw [HU1.out, show ((u : Int) + 1 - 1).toNat = u by omega, getD_at hul]; exact hov)
 have hov' : ¬ (200 : Int) < m.used[u] + ((treSize r.edits : Nat) : Int) := hov
 clear hus hT hov
 go_wp2_with fail
 have n0 := BelowW.nonempty w7
 have e0 := BelowW.ex (w := w7)
 have g_uc := fun n : BelowW w7 => n.cell uc
 have g_x8 := fun n : BelowW w7 => n.cell x8
 clear uc x8
 refine wp_region_below (by kernel_rfl) (by kernel_rfl) ?_
 repeat (go_big_quiet_step (first | (go_at_call 150; exact BelowW.calls _ (D2.out _ (BelowW.sl _ hse)))))
 refine wpQuiet_nil ?_
 rintro w8 ⟨m8, hw8⟩
 have hb8 := m8.property
 rw [← hw8] at hb8
 clear hw8 m8 e0 g_uc g_x8
 have HB8 := hide (Below.t HB7.out hb8)
 have HD8 := hide (Below.t HD7.out hb8)
 clear hb8 hse hsum
 have hsum := HSUM.out
 have uc : w8.cell? ⟨bU, oU + u, none⟩ = some (.int .i64 m.used[u]) := cell_step HWA.out.cu (Below.t HB0.out HB8.out)
 have yU : w8.frozen? ⟨bU, oU + u, none⟩ = false := Free.frozen (HFO.out.step (Below.t HB0.out HB8.out)) HWA.out.uin _
 have x8 := Blk.c8 (HKQ.out w8 HB8.out)
 go_upto_region 18 with fail
 go_cut [76] (fun p wx => p = .pointer (some ⟨bU, oU + u, none⟩) ∧ ∃ W, Below w8.heap.size w8 W ∧ wx = W.setCell ⟨bU, oU + u, none⟩ (.int .i64 (m.used[u] + ((treSize r.edits : Nat) : Int))))
 case first =>
  go_region_law (first
   | (refine step_call rfl 150 (enters_of Tryz.func150 (by kernel_rfl) rfl) rfl _ (by simp [Act.eval, Act.put]) ((implTreSize_any (es := r.edits) _ (HEx.out _ (Below.t (Below.t HB0.out HB8.out) (Below.refl _ _).drew)) HQF.out.edits).mono ?_); rintro e w9 ⟨rfl, hb9⟩; refine ⟨_, rfl, ?_⟩; have uc9 := cell_step uc (Below.past hb9); have yU9 : w9.frozen? ⟨bU, oU + u, none⟩ = false := Free.frozen (HFO.out.step (Below.t HB0.out (Below.t HB8.out (Below.past hb9)))) HWA.out.uin _)
   | fail)
  all_goals
   go_wp2_with fail
   go_meet
   case rel => exact ⟨rfl, _, Below.past hb9, rfl⟩
 case rest =>
  obtain ⟨wz, hwz⟩ : ∃ wz, wz = wc := ⟨_, rfl⟩
  subst hwz
  obtain ⟨rfl, W9, hb9, hwc⟩ := hcut
  have HB9 := hide (Below.t (Below.t HB0.out HB8.out) hb9)
  have HS9 := hide (HS5.out.step (Below.t HD8.out hb9))
  have HWC := hide hwc
  clear uc yU x8 hsum hb9 hov'
  have t2 : wz.cell? ⟨gR, k * 4 + 2, none⟩ = some (.int .i64 m.repos[i].refs[k].count) := by
   rw [hwc, World.cell?_setCell_other _ _ _ _ (by simp only [ne_eq, Addr.mk.injEq]; intro e; exact HWA.out.ug e.1)]
   exact (HRFx.out W9 HB9.out).2.2.1
  have y2 : wz.frozen? ⟨gR, k * 4 + 2, none⟩ = false := by
   rw [hwc]
   exact Free.frozen ((HFO.out.step HB9.out).setCell _ rfl _) HWA.out.gin _
  have hw1 : IntKind.i64.wrap (m.repos[i].refs[k].count + 1) = m.repos[i].refs[k].count + 1 := IntWalk.i64_in _ (by have := HCNT.out; omega)
  clear hwc
  go_upto_region 20 with fail
  obtain ⟨w11, hw11⟩ : ∃ w11, w11 = wz.setCell ⟨gR, k * 4 + 2, none⟩ (.int .i64 (m.repos[i].refs[k].count + 1)) := ⟨_, rfl⟩
  rw [← hw11]
  have HW11 := hide hw11
  have hblk : ∀ z, z < w.heap.size → z ≠ bU → z ≠ gR → w11.heap[z]? = w.heap[z]? := fun z hz hzU hzg => by
   rw [hw11, HWC.out]
   exact (Below.heap_setCell _ _ _ _ hzg).trans ((Below.heap_setCell _ _ _ _ hzU).trans (HB9.out.block z hz))
  have hfree : Free w11 fp := by
   rw [hw11, HWC.out]
   exact ((HFO.out.step HB9.out).setCell _ rfl _).setCell _ rfl _
  have t3 : w11.cell? ⟨gR, k * 4 + 3, none⟩ = some (.slice A3 m.repos[i].refs[k].versions.length c3) := by
   rw [hw11, HWC.out, World.cell?_setCell_other _ _ _ _ (by simp only [ne_eq, Addr.mk.injEq]; omega), World.cell?_setCell_other _ _ _ _ (by simp only [ne_eq, Addr.mk.injEq]; intro e; exact HWA.out.ug e.1)]
   exact (HRFx.out W9 HB9.out).2.2.2
  have htyp : ∃ cur, w11.heap[gR]? = some (.cells cur 99 (0, 0)) := by
   obtain ⟨cur, hcur⟩ := HWA.out.typ
   rw [hw11, HWC.out]
   exact ⟨_, heap_setCell_free ((Below.heap_setCell _ _ _ _ (fun e => HWA.out.ug e.symm)).trans ((HB9.out.block gR (HWA.out.old _ HWA.out.gin)).trans hcur)) _⟩
  obtain ⟨xs, f1v, ho, ha, hfe⟩ := HWA.out.vers
  have hin : ∀ z ∈ f3, z < w.heap.size ∧ z ≠ bU ∧ z ≠ gR := fun z hz => ⟨HWA.out.old _ (HWA.out.f3in z hz), fun e => HWA.out.u3 (e ▸ hz), fun e => HWA.out.g3 (e ▸ hz)⟩
  have hkv : ∀ z ∈ f3, w11.heap[z]? = w.heap[z]? := fun z hz => hblk z (hin z hz).1 (hin z hz).2.1 (hin z hz).2.2
  have ho11 := ownsRow_keep (w' := w11) ho fun z hz => hkv z (by rw [hfe]; exact List.mem_append_left _ hz)
  have ha11 := ha.keep (w' := w11) fun z hz => hkv z (by rw [hfe]; exact List.mem_append_right _ hz)
  have hsz5 : ∀ z ∈ f5, w.heap.size ≤ z := fun z hz => Nat.le_trans (Below.t HB0.out HB4.out).size (HL5.out z hz)
  have h511 : SlR Rp.file w11 A5 n5 c5 (newest m m.repos[i].refs[k] r).1 f5 := HS9.out.keep fun z hz => by
   have h1 := hsz5 z hz
   have h2 := HWA.out.old _ HWA.out.uin
   have h3 := HWA.out.old _ HWA.out.gin
   rw [hw11, HWC.out]
   exact (Below.heap_setCell _ _ _ _ (by simp only; omega)).trans (Below.heap_setCell _ _ _ _ (by simp only; omega))
  have hsz11 : w.heap.size ≤ w11.heap.size := by rw [hw11, HWC.out]; simpa [World.setCell] using HB9.out.size
  obtain ⟨ii, hi0, hz0, hz1, hz2⟩ := info_parts infoC_FileS2
  have hv3 := HFX.out.2.1
  have hv1 := HFX.out.1
  have HO11 := hide ho11
  have HA11 := hide ha11
  have H511 := hide h511
  have HKV := hide hkv
  have HFR := hide hfree
  have HTY := hide htyp
  have HSZ11 := hide hsz11
  have HSZ5 := hide hsz5
  have HFE := hide hfe
  clear hblk hkv ho ha hin ho11 ha11 h511 hfree htyp hfe hw11 hsz11 hsz5
  go_wp2_with (at_builtin; refine wpList_append_own _ rfl _ _ 97 rfl 0 36 ii _ 1 24 Tryz.underlying97 hi0 hz0 hz1 hz2 rfl (by decide) _ _ _ rfl (HO11.out.alloc _) ⟨w11.heap.size, 0, none⟩ 1 1 [.slice A5 n5 c5] rfl rfl (news_alloc _ [.slice A5 n5 c5] _) (by intro u hu; simp at hu; subst hu; rfl) (by unfold maxLen; omega) (by omega) (Nat.zero_le _) ?_)
  intro v' w12 hown' hgrow _
  have hgl : gR < w.heap.size := HWA.out.old _ HWA.out.gin
  have hne3 : (Value.slice A3 m.repos[i].refs[k].versions.length c3).ownBlock ≠ some gR := fun e => HWA.out.g3 (by rw [HFE.out]; exact List.mem_append_left _ (by unfold vblk; rw [e]; simp))
  have hg12 : w12.heap[gR]? = w11.heap[gR]? := (hgrow.block gR (by simp; have := HSZ11.out; omega) fun e => hne3 e.symm).trans (Below.heap_alloc _ _ _ (by have := HSZ11.out; omega))
  obtain ⟨cur, hcur⟩ := HTY.out
  obtain ⟨g', capv, fr', rfl, hs12, hgfr, hcap1, hcap2⟩ := vers_more (n := m.repos[i].refs[k].versions.length) (HA11.out.keep fun z hz => Below.heap_alloc _ _ _ (HA11.out.lt z hz)) (by rw [← HFE.out]; exact HWA.out.nod) hgrow (H511.out.allocN _)
   (fun z hz hm => by have h1 := HSZ5.out z hz; have h2 := HWA.out.old _ (HWA.out.f3in z (by rw [HFE.out]; exact List.mem_append_left _ hm)); omega) hown' rfl
  have z3 : w12.cell? ⟨gR, k * 4 + 3, none⟩ = some (.slice A3 m.repos[i].refs[k].versions.length c3) := (World.cell?_of_block (a := ⟨gR, k * 4 + 3, none⟩) hg12).trans t3
  have yz : w12.frozen? ⟨gR, k * 4 + 3, none⟩ = false := by
   have e := hg12.trans hcur
   simp [World.frozen?, e]
  have HG12 := hide hgrow
  have HS12 := hide hs12
  have HGF := hide hgfr
  have HC1 := hide hcap1
  have HYZ := hide (show ∀ j v, (w12.setCell ⟨gR, k * 4 + 3, none⟩ v).frozen? ⟨gR, j, none⟩ = false from fun j v => by
   have e := heap_setCell_free (i := k * 4 + 3) (hg12.trans hcur) v
   simp [World.frozen?, e])
  have HCZ := hide (show ∀ v, (w12.setCell ⟨gR, k * 4 + 3, none⟩ v).cell? ⟨gR, k * 4 + 3, none⟩ = some v from fun v => World.cell?_setCell_same _ _ _ z3)
  have HLAID := hide (show ∀ d : Nat, d = m.repos[i].refs[k].versions.length + 1 - 3 → laid m m.repos[i] k r (newest m m.repos[i].refs[k] r).1 = ⟨m.keys, m.used.set u (m.used[u] + ((treSize r.edits : Nat) : Int)), m.repos.set i { m.repos[i] with refs := m.repos[i].refs.set k ⟨m.repos[i].refs[k].name, m.repos[i].refs[k].guard, m.repos[i].refs[k].count + 1, (m.repos[i].refs[k].versions ++ [(newest m m.repos[i].refs[k] r).1]).drop d⟩ }⟩ from fun d hd => by
   unfold laid
   dsimp only
   rw [lastOf_drop _ _ _ rfl, getD_at hk, HU1.out, show ((u : Int) + 1 - 1).toNat = u by omega, getD_at hul, HRI.out, Int.toNat_natCast, hd])
  have HFIN := hide (show ∀ d : Nat, d = m.repos[i].refs[k].versions.length + 1 - 3 → Wrote w _ fp (write m m.repos[i] r).1 (write m m.repos[i] r).2 (.returned (.int .i64 1)) ((w12.setCell ⟨gR, k * 4 + 3, none⟩ (.slice (some ⟨g', 0, none⟩) (m.repos[i].refs[k].versions.length + 1) capv)).setCell ⟨gR, k * 4 + 3, none⟩ (.slice (some ⟨g', 0 + d * 1, none⟩) (m.repos[i].refs[k].versions.length + 1 - d) (capv - d))) from fun d hd => by
   rw [HE.out]
   simp only
   rw [HLAID.out d hd]
   obtain ⟨f', hs', hf'⟩ := HS12.out.drop (k := d) (by simp; omega)
   have hg' := HG12.out
   rw [HW11.out, HWC.out] at hg'
   exact written HWA.out HB9.out hg' hs' fun z cur t q1 q2 q3 q4 q5 => HGF.out z cur t q1 q2 (fun h => q4 (by rw [HFE.out]; exact List.mem_append_right _ h)) (fun h => by have := HSZ5.out z h; omega) (hf' _ q5))
  clear hown' hgrow hs12 hgfr hcap1 hg12 hcur hne3 t3 hgl
  go_upto_region 21 with fail
  have c13 := HCZ.out (.slice (some ⟨g', 0, none⟩) (m.repos[i].refs[k].versions.length + 1) capv)
  have y13 := HYZ.out (k * 4 + 3) (.slice (some ⟨g', 0, none⟩) (m.repos[i].refs[k].versions.length + 1) capv)
  have HF := hide HFIN.out
  have HV13 := hide (show m.repos[i].refs[k].versions.length + 1 = 2 ∨ m.repos[i].refs[k].versions.length + 1 = 3 ∨ m.repos[i].refs[k].versions.length + 1 = 4 by omega)
  have hc1 := HC1.out
  clear z3 yz hv3 hv1
  generalize m.repos[i].refs[k].versions.length + 1 = nn at c13 y13 HF HV13 hc1 ⊢
  generalize w12.setCell ⟨gR, k * 4 + 3, none⟩ (.slice (some ⟨g', 0, none⟩) nn capv) = w13 at c13 y13 HF ⊢
  rcases HV13.out with rfl | rfl | rfl
  all_goals
   have HF1 := hide (HF.out _ rfl)
   have hcm : 2 ≤ capv := by omega
   have hcn : ¬ capv = 0 := by omega
   have hcn1 : ¬ capv = 1 := by omega
   have hm1 : max (0 : Int) (IntKind.i64.wrap 1) = 1 := by rw [IntWalk.i64_in _ (by omega)]; rfl
   have hm2 : max (0 : Int) (IntKind.i64.wrap 0) = 0 := by rw [IntWalk.i64_in _ (by omega)]; rfl
   have hm3 : max (0 : Int) (IntKind.i64.wrap (-1)) = 0 := by rw [IntWalk.i64_in _ (by omega)]; rfl
   clear HF HV13
   go_wp2_with fail
   refine wp_stay fun K hK => ?_
   have HKK := hide hK
   clear hK
   go_region_law (first
    | fail)
   all_goals
    refine HKK.out _ _ ?_
    clear HKK K
    go_wp2_with fail
    go_ret
    first
     | exact HF1.out
     | exact HF1.out.drew
set_option maxHeartbeats 4000000 in
set_option maxRecDepth 100000 in
theorem l7Knows_any {A : Option Addr} {n c : Nat} {keys : List Int} {cs : List Value} {r : Req} {fp fr : List Nat} (w : World) (hx : SlR Rp.int w A n c keys fp) (hr : Rp.req.R w cs r fr) (hu : 0 ≤ r.user ∧ r.user ≤ 99) :
  Calls Tryz.prog 34 #[.slice A n c, .agg cs.toArray] w fun e w' => e = .returned (.bool (knows keys r.user r.key)) ∧ Below w.heap.size w w' := by
 obtain ⟨E0, m0, d0, e0, rfl, _, hq⟩ := hr
 obtain rfl := hq.1
 have hmq := hq.max
 obtain rfl := hx.1
 have hmx := hx.max
 have HB0 := (Below.refl w.heap.size w).alloc nle (.cells #[.int .i64 r.user, .int .i64 r.key, .int .i64 r.repo, .int .i64 r.kind, .string r.ref, .string r.path, .int .i64 r.old, .int .i64 r.back, .slice E0 r.edits.length d0, .int .i64 r.rule.user, .string r.rule.ref, .string r.rule.path, .bool r.rule.write, .int .i64 r.frm, .string r.other] 46)
 have kq := Blk.new w 46 #[.int .i64 r.user, .int .i64 r.key, .int .i64 r.repo, .int .i64 r.kind, .string r.ref, .string r.path, .int .i64 r.old, .int .i64 r.back, .slice E0 r.edits.length d0, .int .i64 r.rule.user, .string r.rule.ref, .string r.rule.path, .bool r.rule.write, .int .i64 r.frm, .string r.other]
 have hx0 := hx.allocN (.cells #[.int .i64 r.user, .int .i64 r.key, .int .i64 r.repo, .int .i64 r.kind, .string r.ref, .string r.path, .int .i64 r.old, .int .i64 r.back, .slice E0 r.edits.length d0, .int .i64 r.rule.user, .string r.rule.ref, .string r.rule.path, .bool r.rule.write, .int .i64 r.frm, .string r.other] 46)
 clear hq hx
 go_enter Tryz.func34, Tryz.ntmps34
 go_upto_region 1 with fail
 generalize hW0 : w.alloc (.cells #[.int .i64 r.user, .int .i64 r.key, .int .i64 r.repo, .int .i64 r.kind, .string r.ref, .string r.path, .int .i64 r.old, .int .i64 r.back, .slice E0 r.edits.length d0, .int .i64 r.rule.user, .string r.rule.ref, .string r.rule.path, .bool r.rule.write, .int .i64 r.frm, .string r.other] 46) = w0 at HB0 kq hx0 ⊢
 clear hW0
 have HB0 := hide HB0
 have x0 := Blk.c0 kq
 have x1 := Blk.c1 kq
 have C1 := fun W => specIn_any r.user 1 keys.length W
 clear kq
 cases hd : inB r.user 1 keys.length
 ·have HV := hide (show knows keys r.user r.key = false by unfold knows; rw [hd]; rfl)
  simp only [hd] at C1
  have D1 := hide C1
  clear C1 hd x1
  go_wp2_with fail
  have n0 := BelowW.nonempty w0
  have e0 := BelowW.ex (w := w0)
  have g_x0 := fun n : BelowW w0 => n.cell x0
  clear x0
  refine wp_region_below (by kernel_rfl) (by kernel_rfl) ?_
  repeat (go_big_quiet_step (first | (go_at_call 62; exact BelowW.calls _ (D1.out _))))
  refine wpQuiet_nil ?_
  rintro w4 ⟨m4, hw4⟩
  have hb4 := m4.property
  rw [← hw4] at hb4
  clear hw4 m4 e0 g_x0
  go_wp2
  go_ret
  exact ⟨ret_bool HV.out.symm, Below.t HB0.out hb4⟩
 ·obtain ⟨h1, h2⟩ := inB_iff.1 hd
  simp only [hd] at C1
  have D1 := hide C1
  obtain ⟨u, hu1⟩ : ∃ u : Nat, r.user = (u : Int) + 1 := ⟨(r.user - 1).toNat, by omega⟩
  have hul : u < keys.length := by omega
  obtain ⟨b, o, rfl, _, _, q0⟩ := int_cells hx0 hul
  have HV := hide (show knows keys r.user r.key = decide (keys[u] = r.key) by
   unfold knows
   rw [hd, hu1, show ((u : Int) + 1 - 1).toNat = u by omega, List.getElem?_eq_getElem hul]
   simp)
  rw [hu1] at x0 D1
  have i0 : (0 : Int) ≤ (u : Int) := by omega
  have i1 : (u : Int) < (keys.length : Int) := by omega
  have hwu : IntKind.i64.wrap ((u : Int) + 1 - 1) = (u : Int) := by rw [IntWalk.i64_in _ (by omega)]; omega
  have hwu2 : IntKind.i64.wrap (u : Int) = (u : Int) := IntWalk.i64_in _ (by omega)
  clear C1 hd h1 h2 hu1
  go_wp2_with fail
  have n0 := BelowW.nonempty w0
  have e0 := BelowW.ex (w := w0)
  have g_x0 := fun n : BelowW w0 => n.cell x0
  have g_x1 := fun n : BelowW w0 => n.cell x1
  have g_q0 := fun n : BelowW w0 => n.cell q0
  clear x0 x1 q0
  refine wp_region_below (by kernel_rfl) (by kernel_rfl) ?_
  repeat (go_big_quiet_step (first | (go_at_call 62; exact BelowW.calls _ (D1.out _))))
  refine wpQuiet_nil ?_
  rintro w4 ⟨m4, hw4⟩
  have hb4 := m4.property
  rw [← hw4] at hb4
  clear hw4 m4 e0 g_x0 g_x1 g_q0
  go_wp2
  go_ret
  exact ⟨ret_bool (by rw [HV.out, Bool.eq_iff_iff]; simp), Below.t HB0.out hb4⟩

def SliceAt (w : World) (l : List File) (f0 : List Nat) (e : Ending) (w' : World) : Prop :=
 ∃ A n c f, e = .returned (.slice A n c) ∧ SlR Rp.file w' A n c l f ∧ (∀ z ∈ f, z ∈ f0) ∧ Below w.heap.size w w'
set_option maxHeartbeats 1000000 in
theorem l7Latest_any {cs : List Value} {x : Ref} {fx : List Nat} {l : List File} (w : World) (hx : Rp.ref.R w cs x fx) (h3 : x.versions.length ≤ 3) (hv : version x.versions 0 = some l) :
  Calls Tryz.prog 132 #[.agg cs.toArray] w (SliceAt w l fx) := by
 obtain ⟨Av, nv, cv, fv, rfl, rfl, hs⟩ := hx
 obtain rfl := hs.1
 have hv1 : 1 ≤ x.versions.length := by
  by_cases h0 : x.versions.length = 0
  ·rw [version_far (by omega)] at hv; cases hv
  ·omega
 obtain ⟨j, hj⟩ : ∃ j, x.versions.length = j + 1 := ⟨x.versions.length - 1, by omega⟩
 have hjl : j < x.versions.length := by omega
 have hvl : x.versions[j] = l := Option.some.inj ((version_at (j := j) (Int.le_refl 0) (by omega) hjl).symm.trans hv)
 have kb := Blk.new w 99 #[.string x.name, .bool x.guard, .int .i64 x.count, .slice Av x.versions.length cv]
 have HB := (Below.refl w.heap.size w).alloc nle (.cells #[.string x.name, .bool x.guard, .int .i64 x.count, .slice Av x.versions.length cv] 99)
 obtain ⟨b, o, A', n', c', f', rfl, _, _, q0, hs', hf'⟩ := slice_cells (hs.allocN (.cells #[.string x.name, .bool x.guard, .int .i64 x.count, .slice Av x.versions.length cv] 99)) hjl
 rw [hvl] at hs'
 have i0 : (0 : Int) ≤ (j : Int) := by omega
 have i1 : (j : Int) < (x.versions.length : Int) := by omega
 have hw : IntKind.i64.wrap ((x.versions.length : Int) - 1) = (j : Int) := by rw [IntWalk.i64_in _ (by omega)]; omega
 have HS := hide hs'
 have HBX := hide HB
 have HF := hide hf'
 clear hs hv hj hvl hs' HB hf'
 go_enter Tryz.func132, Tryz.ntmps132
 go_wp2
 go_ret
 exact ⟨A', n', c', f', rfl, HS.out, HF.out, HBX.out⟩

set_option maxHeartbeats 4000000 in
set_option maxRecDepth 100000 in
theorem l7Writes_any {A : Option Addr} {n c : Nat} {rules : List Rule} {cs : List Value} {r : Req} {fp fr : List Nat} (w : World) (hx : SlR Rp.rule w A n c rules fp) (hr : Rp.req.R w cs r fr) (hR : fitRules rules) (hQ : ReqFit r) :
  Calls Tryz.prog 130 #[.slice A n c, .agg cs.toArray] w fun e w' => e = .returned (.bool (decide (0 < r.edits.length) && r.edits.all fun e => rulMay rules r.user r.ref e.path true)) ∧ Below w.heap.size w w' := by
 obtain ⟨E0, m0, d0, e0, rfl, _, hq⟩ := hr
 obtain rfl := hq.1
 have hmq := hq.max
 obtain rfl := hx.1
 have HB0 := (Below.refl w.heap.size w).alloc nle (.cells #[.int .i64 r.user, .int .i64 r.key, .int .i64 r.repo, .int .i64 r.kind, .string r.ref, .string r.path, .int .i64 r.old, .int .i64 r.back, .slice E0 r.edits.length d0, .int .i64 r.rule.user, .string r.rule.ref, .string r.rule.path, .bool r.rule.write, .int .i64 r.frm, .string r.other] 46)
 have kq := Blk.new w 46 #[.int .i64 r.user, .int .i64 r.key, .int .i64 r.repo, .int .i64 r.kind, .string r.ref, .string r.path, .int .i64 r.old, .int .i64 r.back, .slice E0 r.edits.length d0, .int .i64 r.rule.user, .string r.rule.ref, .string r.rule.path, .bool r.rule.write, .int .i64 r.frm, .string r.other]
 have HXx := hide (fun (W : World) (hb : Below w.heap.size w W) => hx.step hb)
 have HEx := hide (fun (W : World) (hb : Below w.heap.size w W) => hq.step hb)
 have HQF := hide hQ
 have HRF := hide hR
 clear hq hx hQ hR
 go_enter Tryz.func130, Tryz.ntmps130
 go_wp2_with fail
 generalize hW0 : w.alloc (.cells #[.int .i64 r.user, .int .i64 r.key, .int .i64 r.repo, .int .i64 r.kind, .string r.ref, .string r.path, .int .i64 r.old, .int .i64 r.back, .slice E0 r.edits.length d0, .int .i64 r.rule.user, .string r.rule.ref, .string r.rule.path, .bool r.rule.write, .int .i64 r.frm, .string r.other] 46) = w0 at HB0 kq ⊢
 clear hW0
 have HB0 := hide HB0
 have HKQ := hide (fun (W : World) (hb : Below w0.heap.size w0 W) => kq.step hb)
 clear kq
 go_loopw [5] (fun iv wr => ∃ k : Nat, k ≤ r.edits.length ∧ iv = .int .i64 k ∧ noneTo (fun e : Edit => !rulMay rules r.user r.ref e.path true) r.edits k ∧ Below w0.heap.size w0 wr) (fun iv _ => r.edits.length - (intOf iv).toNat)
 case atStart => exact ⟨0, Nat.zero_le _, rfl, noneTo_zero, Below.refl _ _⟩
 case round =>
  obtain ⟨wo, hwo⟩ : ∃ wo, wo = wr := ⟨_, rfl⟩
  subst hwo
  obtain ⟨k, hk, rfl, hag, hbl⟩ := hrel
  have HA := hide hag
  have HBL := hide hbl
  clear hag hbl
  have j0 : (0 : Int) ≤ (k : Int) := by omega
  have x0 := Blk.c0 (HKQ.out wo HBL.out)
  have x4 := Blk.c4 (HKQ.out wo HBL.out)
  have x8 := Blk.c8 (HKQ.out wo HBL.out)
  by_cases hlt : k < r.edits.length
  ·have j1 : (k : Int) < (r.edits.length : Int) := by omega
   obtain ⟨b, o, rfl, _, _, q0, q1, q2⟩ := edit_cells (HEx.out wo (Below.t HB0.out HBL.out)) hlt
   have HSZ := hide (HQF.out.edits.2 _ (List.getElem_mem hlt)).1
   have hxs := HXx.out wo (Below.t HB0.out HBL.out)
   have C1 := fun W (h : SlR Rp.rule W A rules.length c rules fp) => specRulMay_any r.user r.ref r.edits[k].path true W h HRF.out HSZ.out
   clear q1 q2
   cases hd : rulMay rules r.user r.ref r.edits[k].path true
   ·have HN := hide (show (decide (0 < r.edits.length) && r.edits.all fun e => rulMay rules r.user r.ref e.path true) = false by
     rw [Bool.and_eq_false_iff]
     right
     rw [List.all_eq_false]
     exact ⟨_, List.getElem_mem hlt, by simp [hd]⟩)
    simp only [hd] at C1
    have D1 := hide C1
    clear C1 hd
    go_upto_region 4 with fail
    go_wp2_with fail
    have n0 := BelowW.nonempty wo
    have e0 := BelowW.ex (w := wo)
    have g_x0 := fun n : BelowW wo => n.cell x0
    have g_x4 := fun n : BelowW wo => n.cell x4
    have g_x8 := fun n : BelowW wo => n.cell x8
    have g_q0 := fun n : BelowW wo => n.cell q0
    clear x0 x4 x8 q0
    refine wp_region_below (by kernel_rfl) (by kernel_rfl) ?_
    repeat (go_big_quiet_step (first | (go_at_call 69; exact BelowW.calls _ (D1.out _ (BelowW.sl _ hxs)))))
    refine wpQuiet_nil ?_
    rintro w4 ⟨m4, hw4⟩
    have hb4 := m4.property
    rw [← hw4] at hb4
    clear hw4 m4 e0 g_x0 g_x4 g_x8 g_q0
    go_wp2
    go_ret
    exact ⟨ret_bool HN.out.symm, Below.t HB0.out (Below.t HBL.out hb4)⟩
   ·have HN := hide (HA.out.next hlt (by simp [hd]))
    simp only [hd] at C1
    have D1 := hide C1
    clear C1 hd
    go_upto_region 4 with fail
    go_wp2_with fail
    have n0 := BelowW.nonempty wo
    have e0 := BelowW.ex (w := wo)
    have g_x0 := fun n : BelowW wo => n.cell x0
    have g_x4 := fun n : BelowW wo => n.cell x4
    have g_x8 := fun n : BelowW wo => n.cell x8
    have g_q0 := fun n : BelowW wo => n.cell q0
    clear x0 x4 x8 q0
    refine wp_region_below (by kernel_rfl) (by kernel_rfl) ?_
    repeat (go_big_quiet_step (first | (go_at_call 69; exact BelowW.calls _ (D1.out _ (BelowW.sl _ hxs)))))
    refine wpQuiet_nil ?_
    rintro w4 ⟨m4, hw4⟩
    have hb4 := m4.property
    rw [← hw4] at hb4
    clear hw4 m4 e0 g_x0 g_x4 g_x8 g_q0
    have HB4 := hide (Below.t HBL.out hb4)
    clear hb4
    go_wp2
    exact ⟨⟨k + 1, by omega, by go_num, HN.out, HB4.out⟩, by simp [intOf]; omega⟩
  ·have hk' : k = r.edits.length := by omega
   subst hk'
   have HN := hide (show (r.edits.all fun e => rulMay rules r.user r.ref e.path true) = true by
    have h := HA.out.any_
    rw [List.any_eq_false] at h
    rw [List.all_eq_true]
    intro e he
    have := h e he
    simpa using this)
   go_wp2
   go_ret
   exact ⟨ret_bool (by rw [HN.out, Bool.and_true, Bool.eq_iff_iff]), Below.t HB0.out HBL.out⟩
set_option maxHeartbeats 8000000 in
set_option maxRecDepth 100000 in
theorem l7May_any {i : Nat} {m : House} {r : Req} {hs cs : List Value} {f fr : List Nat} (w : World) (hm : Rp.house.R w hs m f) (hr : Rp.req.R w cs r fr) (hri : r.repo = (i : Int)) (hi : i < m.repos.length) (hP : ∀ p ∈ m.repos, RepoFit p) (hQ : ReqFit r) (hr3 : m.repos.length ≤ 3) (hw : reqWrites r = true) :
  Calls Tryz.prog 83 #[.agg hs.toArray, .agg cs.toArray] w fun e w' => e = .returned (.bool (mayWrite m m.repos[i] r)) ∧ Below w.heap.size w w' := by
 obtain ⟨E0, m0, d0, e0, rfl, _, hq⟩ := hr
 obtain rfl := hq.1
 have hm0 := hm
 obtain ⟨A0, n0, c0, f0, A1, n1, c1, f1, A2, n2, c2, f2, rfl, hff, h0, h1, h2⟩ := hm
 obtain rfl := h0.1
 obtain rfl := h1.1
 obtain rfl := h2.1
 have hmx := h2.max
 have hmq := hq.max
 have HB0 := (((Below.refl w.heap.size w).alloc nle (.cells #[.slice A0 m.keys.length c0, .slice A1 m.used.length c1, .slice A2 m.repos.length c2] 35)).alloc (by simp) (.cells #[.int .i64 r.user, .int .i64 r.key, .int .i64 r.repo, .int .i64 r.kind, .string r.ref, .string r.path, .int .i64 r.old, .int .i64 r.back, .slice E0 r.edits.length d0, .int .i64 r.rule.user, .string r.rule.ref, .string r.rule.path, .bool r.rule.write, .int .i64 r.frm, .string r.other] 46))
 have kx := ((Blk.new w 35 #[.slice A0 m.keys.length c0, .slice A1 m.used.length c1, .slice A2 m.repos.length c2]).alloc (.cells #[.int .i64 r.user, .int .i64 r.key, .int .i64 r.repo, .int .i64 r.kind, .string r.ref, .string r.path, .int .i64 r.old, .int .i64 r.back, .slice E0 r.edits.length d0, .int .i64 r.rule.user, .string r.rule.ref, .string r.rule.path, .bool r.rule.write, .int .i64 r.frm, .string r.other] 46))
 have kq := (Blk.new' (w := (w.alloc (.cells #[.slice A0 m.keys.length c0, .slice A1 m.used.length c1, .slice A2 m.repos.length c2] 35))) (H := w.heap.size + 1) (by simp) 46 #[.int .i64 r.user, .int .i64 r.key, .int .i64 r.repo, .int .i64 r.kind, .string r.ref, .string r.path, .int .i64 r.old, .int .i64 r.back, .slice E0 r.edits.length d0, .int .i64 r.rule.user, .string r.rule.ref, .string r.rule.path, .bool r.rule.write, .int .i64 r.frm, .string r.other])
 have HKx := hide (fun (W : World) (hb : Below w.heap.size w W) => h0.step hb)
 have HUx := hide (fun (W : World) (hb : Below w.heap.size w W) => h1.step hb)
 have HRx := hide (fun (W : World) (hb : Below w.heap.size w W) => h2.step hb)
 have HEx := hide (fun (W : World) (hb : Below w.heap.size w W) => hq.step hb)
 have HHx := hide (fun (W : World) (hb : Below w.heap.size w W) => Rp.house.below hm0 hb nle)
 have HRI := hide hri
 have HPF := hide hP
 have HQF := hide hQ
 have HFI := hide (hP _ (List.getElem_mem hi))
 have i0 : (0 : Int) ≤ (i : Int) := by omega
 have i1 : (i : Int) < (m.repos.length : Int) := by omega
 clear hri hP hQ
 clear hm0 hff h0 h1 h2 hq
 go_enter Tryz.func83, Tryz.ntmps83
 go_upto_region 1 with fail
 generalize hW0 : ((w.alloc (.cells #[.slice A0 m.keys.length c0, .slice A1 m.used.length c1, .slice A2 m.repos.length c2] 35)).alloc (.cells #[.int .i64 r.user, .int .i64 r.key, .int .i64 r.repo, .int .i64 r.kind, .string r.ref, .string r.path, .int .i64 r.old, .int .i64 r.back, .slice E0 r.edits.length d0, .int .i64 r.rule.user, .string r.rule.ref, .string r.rule.path, .bool r.rule.write, .int .i64 r.frm, .string r.other] 46)) = w0 at HB0 kx kq ⊢
 clear hW0
 have HKX := hide (fun (W : World) (hb : Below w0.heap.size w0 W) => kx.step hb)
 have HKQ := hide (fun (W : World) (hb : Below w0.heap.size w0 W) => kq.step hb)
 have HB0 := hide HB0
 clear kx kq
 have i2 := Blk.c2 (HKX.out w0 (Below.refl _ _))
 have x2 : w0.cell? ⟨w.heap.size + 1, 2, none⟩ = some (.int .i64 (i : Int)) := by rw [← HRI.out]; exact (HKQ.out w0 (Below.refl _ _)).cell 2
 obtain ⟨bp, op, B0, k0, d1, g0, B1, k1, d2, g1, rfl, hbp, hmp, q0, q1, q2, hs0, hs1, _⟩ := repo_cells (HRx.out w0 HB0.out) hi
 obtain rfl := hs0.1
 have HS0 := hide (fun (W : World) (hb : Below w0.heap.size w0 W) => hs0.step hb)
 clear q0 q2 hs0 hs1 hbp hmp
 by_cases k1 : r.kind = 1
 ·have K1 := hide k1
  have x3 : w0.cell? ⟨w.heap.size + 1, 3, none⟩ = some (.int .i64 1) := by rw [← K1.out]; exact (HKQ.out w0 (Below.refl _ _)).cell 3
  clear k1
  have HE := hide (show mayWrite m m.repos[i] r = (decide (0 < r.edits.length) && r.edits.all fun e => rulMay m.repos[i].rules r.user r.ref e.path true) by unfold mayWrite; rw [if_pos K1.out])
  go_wp2_with ((refine wpList_load_row rfl 46 (.tmp 3) rfl _ rfl _ _ _ _ (HKQ.out w0 (Below.refl _ _)).out Tryz.underlying46 rfl size_Req ?_))
  refine (l7Writes_any (rules := m.repos[i].rules) (r := r) _ (HS0.out _ (Below.refl _ _)) ⟨E0, _, d0, e0, rfl, rfl, HEx.out _ HB0.out⟩ HFI.out.rules HQF.out).mono ?_
  rintro e w1 ⟨rfl, hb1⟩
  have HB1 := hide hb1
  clear hb1 i2 x2 x3 q1
  go_wp2_with fail
  go_ret
  exact ⟨ret_bool HE.out.symm, Below.t HB0.out HB1.out⟩
 have K1 := hide k1
 by_cases k10 : r.kind = 10
 ·have K10 := hide k10
  have K9 := hide (show ¬ r.kind = 9 by omega)
  have x3 : w0.cell? ⟨w.heap.size + 1, 3, none⟩ = some (.int .i64 10) := by rw [← K10.out]; exact (HKQ.out w0 (Below.refl _ _)).cell 3
  clear k1 k10
  have hfr0 := HQF.out.ints.2.2.2.2.1
  obtain ⟨j, hfj⟩ : ∃ j : Nat, r.frm = (j : Int) := ⟨r.frm.toNat, by omega⟩
  have HFJ := hide hfj
  have x13 : w0.cell? ⟨w.heap.size + 1, 13, none⟩ = some (.int .i64 (j : Int)) := by rw [← hfj]; exact (HKQ.out w0 (Below.refl _ _)).cell 13
  have x0 := Blk.c0 (HKQ.out w0 (Below.refl _ _))
  have x4 := Blk.c4 (HKQ.out w0 (Below.refl _ _))
  have x14 := Blk.c14 (HKQ.out w0 (Below.refl _ _))
  have hwl : IntKind.i64.wrap ((m.repos.length : Int) - 1) = (m.repos.length : Int) - 1 := IntWalk.i64_in _ (by omega)
  have C1 := fun W => specIn_any (j : Int) 0 ((m.repos.length : Int) - 1) W
  clear hfr0 hfj
  by_cases hj : j < m.repos.length
  ·have hin : inB (j : Int) 0 ((m.repos.length : Int) - 1) = true := inB_iff.2 ⟨by omega, by omega⟩
   simp only [hin] at C1
   have D1 := hide C1
   clear C1 hin
   obtain ⟨bp', op', B0', k0', d1', g0', B1', k1', d2', g1', hbo, hbp, hmp, q0, q1', q2, hs0', hs1, _⟩ := repo_cells (HRx.out w0 HB0.out) hj
   cases hbo
   obtain rfl := hs0'.1
   have HFI' := hide (HPF.out _ (List.getElem_mem hj))
   have C2 := fun W (h : SlR Rp.rule W B0' m.repos[j].rules.length d1' m.repos[j].rules g0') => specRulMay_any r.user r.other ByteArray.empty false W h HFI'.out.rules (by decide)
   have C3 := fun W (h : SlR Rp.rule W B0 m.repos[i].rules.length d1 m.repos[i].rules g0) => specRulMay_any r.user r.ref ByteArray.empty true W h HFI.out.rules (by decide)
   have hs0 := HS0.out w0 (Below.refl _ _)
   have HE := hide (show mayWrite m m.repos[i] r = (rulMay m.repos[j].rules r.user r.other ByteArray.empty false && rulMay m.repos[i].rules r.user r.ref ByteArray.empty true) by
    unfold mayWrite
    rw [if_neg K1.out, decide_eq_false K9.out, HFJ.out, Int.toNat_natCast, List.getElem?_eq_getElem hj, Bool.false_or, Bool.and_comm])
   have j0 : (0 : Int) ≤ (j : Int) := by omega
   have j1 : (j : Int) < (m.repos.length : Int) := by omega
   clear q0 q2 hs1 hbp hmp
   cases hA : rulMay m.repos[j].rules r.user r.other ByteArray.empty false
   ·have HV := hide (show mayWrite m m.repos[i] r = false by rw [HE.out, hA]; rfl)
    simp only [hA] at C2
    have D2 := hide C2
    clear C2 C3 hA
    go_upto_region 6 with fail
    go_wp2_with fail
    have n0 := BelowW.nonempty w0
    have e0 := BelowW.ex (w := w0)
    have g_x0 := fun n : BelowW w0 => n.cell x0
    have g_x13 := fun n : BelowW w0 => n.cell x13
    have g_x14 := fun n : BelowW w0 => n.cell x14
    have g_i2 := fun n : BelowW w0 => n.cell i2
    have g_qa := fun n : BelowW w0 => n.cell q1'
    clear x0 x13 x14 i2 q1'
    refine wp_region_below (by kernel_rfl) (by kernel_rfl) ?_
    repeat (go_big_quiet_step (first | (go_at_call 62; exact BelowW.calls _ (D1.out _)) | (go_at_call 69; exact BelowW.calls _ (D2.out _ (BelowW.sl _ hs0')))))
    refine wpQuiet_nil ?_
    rintro w4 ⟨m4, hw4⟩
    have hb4 := m4.property
    rw [← hw4] at hb4
    clear hw4 m4 e0 g_x0 g_x13 g_x14 g_i2 g_qa
    go_wp2
    go_ret
    exact ⟨ret_bool HV.out.symm, Below.t HB0.out hb4⟩
   ·have HA := hide hA
    simp only [hA] at C2
    have D2 := hide C2
    clear C2 hA
    cases hB : rulMay m.repos[i].rules r.user r.ref ByteArray.empty true
    all_goals
     have HV := hide (show mayWrite m m.repos[i] r = _ by rw [HE.out, HA.out, hB, Bool.true_and])
     simp only [hB] at C3
     have D3 := hide C3
     clear C3 hB
     go_upto_region 6 with fail
     go_wp2_with fail
     have n0 := BelowW.nonempty w0
     have e0 := BelowW.ex (w := w0)
     have g_x0 := fun n : BelowW w0 => n.cell x0
     have g_x4 := fun n : BelowW w0 => n.cell x4
     have g_x13 := fun n : BelowW w0 => n.cell x13
     have g_x14 := fun n : BelowW w0 => n.cell x14
     have g_i2 := fun n : BelowW w0 => n.cell i2
     have g_qa := fun n : BelowW w0 => n.cell q1'
     clear x0 x4 x13 x14 i2 q1'
     refine wp_region_below (by kernel_rfl) (by kernel_rfl) ?_
     repeat (go_big_quiet_step (first | (go_at_call 62; exact BelowW.calls _ (D1.out _)) | (go_at_call 69; (with_reducible show Calls _ _ #[.slice B0' _ _, _, _, _, _] _ _); exact BelowW.calls _ (D2.out _ (BelowW.sl _ hs0'))) | (go_at_call 69; (with_reducible show Calls _ _ #[.slice B0 _ _, _, _, _, _] _ _); exact BelowW.calls _ (D3.out _ (BelowW.sl _ hs0)))))
     refine wpQuiet_nil ?_
     rintro w4 ⟨m4, hw4⟩
     have hb4 := m4.property
     rw [← hw4] at hb4
     clear hw4 m4 e0 g_x0 g_x4 g_x13 g_x14 g_i2 g_qa
     go_wp2
     go_ret
     exact ⟨ret_bool HV.out.symm, Below.t HB0.out hb4⟩
  ·have hin : inB (j : Int) 0 ((m.repos.length : Int) - 1) = false := by
    cases h : inB (j : Int) 0 ((m.repos.length : Int) - 1)
    ·rfl
    ·have := inB_iff.1 h; omega
   simp only [hin] at C1
   have D1 := hide C1
   have HV := hide (show mayWrite m m.repos[i] r = false by
    unfold mayWrite
    rw [if_neg K1.out, decide_eq_false K9.out, HFJ.out, Int.toNat_natCast, List.getElem?_eq_none (by omega), Bool.false_or, Bool.and_false])
   clear C1 hin hj
   go_upto_region 6 with fail
   go_wp2_with fail
   have n0 := BelowW.nonempty w0
   have e0 := BelowW.ex (w := w0)
   have g_x13 := fun n : BelowW w0 => n.cell x13
   have g_i2 := fun n : BelowW w0 => n.cell i2
   clear x13 i2
   refine wp_region_below (by kernel_rfl) (by kernel_rfl) ?_
   repeat (go_big_quiet_step (first | (go_at_call 62; exact BelowW.calls _ (D1.out _))))
   refine wpQuiet_nil ?_
   rintro w4 ⟨m4, hw4⟩
   have hb4 := m4.property
   rw [← hw4] at hb4
   clear hw4 m4 e0 g_x13 g_i2
   go_wp2
   go_ret
   exact ⟨ret_bool HV.out.symm, Below.t HB0.out hb4⟩
 have K9 := hide (show r.kind = 9 by
  unfold reqWrites at hw
  simp only [Bool.or_eq_true, beq_iff_eq] at hw
  omega)
 have x0 := Blk.c0 (HKQ.out w0 (Below.refl _ _))
 have x4 := Blk.c4 (HKQ.out w0 (Below.refl _ _))
 have x3 : w0.cell? ⟨w.heap.size + 1, 3, none⟩ = some (.int .i64 9) := by rw [← K9.out]; exact (HKQ.out w0 (Below.refl _ _)).cell 3
 clear k1 k10 hw
 have HE := hide (show mayWrite m m.repos[i] r = rulMay m.repos[i].rules r.user r.ref ByteArray.empty true by unfold mayWrite; rw [if_neg K1.out, decide_eq_true K9.out, Bool.true_or, Bool.and_true])
 go_wp2_with fail
 refine (specRulMay_any r.user r.ref ByteArray.empty true _ (HS0.out _ (Below.refl _ _)) HFI.out.rules (by decide)).mono ?_
 rintro e w1 ⟨rfl, hb1⟩
 have HB1 := hide hb1
 clear hb1 i2 x2 x3 q1 x0 x4
 go_wp2_with fail
 go_ret
 exact ⟨ret_bool HE.out.symm, Below.t HB0.out HB1.out⟩
def NextAt (w : World) (o : List File × Int) (e : Ending) (w' : World) : Prop :=
 ∃ A n c f, e = .returned (.tuple #[.slice A n c, .int .i64 o.2]) ∧ SlR Rp.file w' A n c o.1 f ∧ Below w.heap.size w w'
theorem may_from {m : House} {p : Repo} {r : Req} (h : mayWrite m p r = true) (h1 : ¬ r.kind = 1) (h9 : ¬ r.kind = 9) : r.frm.toNat < m.repos.length := by
 unfold mayWrite at h
 rw [if_neg h1, decide_eq_false h9, Bool.false_or] at h
 have h2 := (Bool.and_eq_true_iff.1 h).2
 by_cases hl : r.frm.toNat < m.repos.length
 ·exact hl
 ·rw [List.getElem?_eq_none (by omega)] at h2
  cases h2

set_option maxHeartbeats 8000000 in
set_option maxRecDepth 100000 in
theorem l7Next_any {k : Nat} {i : Nat} {m : House} {r : Req} {hs cs : List Value} {f fr : List Nat} (w : World) (hm : Rp.house.R w hs m f) (hr : Rp.req.R w cs r fr) (hri : r.repo = (i : Int)) (hi : i < m.repos.length) (hP : ∀ p ∈ m.repos, RepoFit p) (hQ : ReqFit r) (hok : mdlOk m = true) (hk : k < m.repos[i].refs.length) (hidx : refIdx m.repos[i].refs r.ref = some k) (hmay : mayWrite m m.repos[i] r = true) :
  Calls Tryz.prog 84 #[.agg hs.toArray, .agg cs.toArray] w (NextAt w (newest m m.repos[i].refs[k] r)) := by
 have hfx := (RepoFit.of ((mdlOk_iff.1 hok).2.2 _ (List.getElem_mem hi))).vers _ (List.getElem_mem hk)
 have HFX := hide hfx
 have HMAY := hide hmay
 have hidn : idxP (nameIs r.ref) m.repos[i].refs = (k : Int) := by
  rcases idxP_at (nameIs r.ref) m.repos[i].refs with ⟨hn, he⟩ | ⟨k', hn, _, he⟩
  ·rw [show refIdx m.repos[i].refs r.ref = none from hn] at hidx; cases hidx
  ·rw [show refIdx m.repos[i].refs r.ref = some k' from hn] at hidx; cases hidx; exact he
 have HIDN := hide hidn
 have HOK := hide hok
 have hr3 : m.repos.length ≤ 3 := by have := (mdlOk_iff.1 hok).2.1; omega
 clear hfx hmay hidn hidx hok
 obtain ⟨E0, m0, d0, e0, rfl, _, hq⟩ := hr
 obtain rfl := hq.1
 have hm0 := hm
 obtain ⟨A0, n0, c0, f0, A1, n1, c1, f1, A2, n2, c2, f2, rfl, hff, h0, h1, h2⟩ := hm
 obtain rfl := h0.1
 obtain rfl := h1.1
 obtain rfl := h2.1
 have hmx := h2.max
 have hmq := hq.max
 have HB0 := (((Below.refl w.heap.size w).alloc nle (.cells #[.slice A0 m.keys.length c0, .slice A1 m.used.length c1, .slice A2 m.repos.length c2] 35)).alloc (by simp) (.cells #[.int .i64 r.user, .int .i64 r.key, .int .i64 r.repo, .int .i64 r.kind, .string r.ref, .string r.path, .int .i64 r.old, .int .i64 r.back, .slice E0 r.edits.length d0, .int .i64 r.rule.user, .string r.rule.ref, .string r.rule.path, .bool r.rule.write, .int .i64 r.frm, .string r.other] 46))
 have kx := ((Blk.new w 35 #[.slice A0 m.keys.length c0, .slice A1 m.used.length c1, .slice A2 m.repos.length c2]).alloc (.cells #[.int .i64 r.user, .int .i64 r.key, .int .i64 r.repo, .int .i64 r.kind, .string r.ref, .string r.path, .int .i64 r.old, .int .i64 r.back, .slice E0 r.edits.length d0, .int .i64 r.rule.user, .string r.rule.ref, .string r.rule.path, .bool r.rule.write, .int .i64 r.frm, .string r.other] 46))
 have kq := (Blk.new' (w := (w.alloc (.cells #[.slice A0 m.keys.length c0, .slice A1 m.used.length c1, .slice A2 m.repos.length c2] 35))) (H := w.heap.size + 1) (by simp) 46 #[.int .i64 r.user, .int .i64 r.key, .int .i64 r.repo, .int .i64 r.kind, .string r.ref, .string r.path, .int .i64 r.old, .int .i64 r.back, .slice E0 r.edits.length d0, .int .i64 r.rule.user, .string r.rule.ref, .string r.rule.path, .bool r.rule.write, .int .i64 r.frm, .string r.other])
 have HKx := hide (fun (W : World) (hb : Below w.heap.size w W) => h0.step hb)
 have HUx := hide (fun (W : World) (hb : Below w.heap.size w W) => h1.step hb)
 have HRx := hide (fun (W : World) (hb : Below w.heap.size w W) => h2.step hb)
 have HEx := hide (fun (W : World) (hb : Below w.heap.size w W) => hq.step hb)
 have HHx := hide (fun (W : World) (hb : Below w.heap.size w W) => Rp.house.below hm0 hb nle)
 have HRI := hide hri
 have HPF := hide hP
 have HQF := hide hQ
 have HFI := hide (hP _ (List.getElem_mem hi))
 have i0 : (0 : Int) ≤ (i : Int) := by omega
 have i1 : (i : Int) < (m.repos.length : Int) := by omega
 clear hri hP hQ
 clear hm0 hff h0 h1 h2 hq
 go_enter Tryz.func84, Tryz.ntmps84
 go_upto_region 1 with fail
 generalize hW0 : ((w.alloc (.cells #[.slice A0 m.keys.length c0, .slice A1 m.used.length c1, .slice A2 m.repos.length c2] 35)).alloc (.cells #[.int .i64 r.user, .int .i64 r.key, .int .i64 r.repo, .int .i64 r.kind, .string r.ref, .string r.path, .int .i64 r.old, .int .i64 r.back, .slice E0 r.edits.length d0, .int .i64 r.rule.user, .string r.rule.ref, .string r.rule.path, .bool r.rule.write, .int .i64 r.frm, .string r.other] 46)) = w0 at HB0 kx kq ⊢
 clear hW0
 have HKX := hide (fun (W : World) (hb : Below w0.heap.size w0 W) => kx.step hb)
 have HKQ := hide (fun (W : World) (hb : Below w0.heap.size w0 W) => kq.step hb)
 have HB0 := hide HB0
 clear kx kq
 have i2 := Blk.c2 (HKX.out w0 (Below.refl _ _))
 have x2 : w0.cell? ⟨w.heap.size + 1, 2, none⟩ = some (.int .i64 (i : Int)) := by rw [← HRI.out]; exact (HKQ.out w0 (Below.refl _ _)).cell 2
 have x4 := Blk.c4 (HKQ.out w0 (Below.refl _ _))
 obtain ⟨bp, op, B0, b0, d0', g0, B1, b1, d1', g1, rfl, hbp, hmp, q0, q1, q2, hs0, hs1, hsub⟩ := repo_cells (HRx.out w0 HB0.out) hi
 obtain rfl := hs1.1
 have HS1 := hide (fun (W : World) (hb : Below w0.heap.size w0 W) => hs1.step hb)
 have hrp : Rp.repo.R w0 [.int .i64 m.repos[i].admin, .slice B0 b0 d0', .slice B1 m.repos[i].refs.length d1'] m.repos[i] (g0 ++ g1) := ⟨B0, b0, d0', g0, B1, _, d1', g1, rfl, rfl, hs0, hs1⟩
 have HPx := hide (fun (W : World) (hb : Below w0.heap.size w0 W) => Rp.repo.below hrp hb nle)
 have HQ2 := hide q2
 have C1 := fun W (hh : Rp.repo.R W [.int .i64 m.repos[i].admin, .slice B0 b0 d0', .slice B1 m.repos[i].refs.length d1'] m.repos[i] (g0 ++ g1)) => l7At_any r.ref W hh
 simp only [HIDN.out] at C1
 have D1 := hide C1
 clear C1 hs0 hs1 hrp hbp hmp hsub
 go_wp2_with fail
 have n0 := BelowW.nonempty w0
 have e0 := BelowW.ex (w := w0)
 have g_i2 := fun n : BelowW w0 => n.cell i2
 have g_x2 := fun n : BelowW w0 => n.cell x2
 have g_x4 := fun n : BelowW w0 => n.cell x4
 have g_q0 := fun n : BelowW w0 => n.cell q0
 have g_q1 := fun n : BelowW w0 => n.cell q1
 have g_q2 := fun n : BelowW w0 => n.cell q2
 clear i2 x2 x4 q0 q1 q2
 refine wp_region_below (by kernel_rfl) (by kernel_rfl) ?_
 repeat (go_big_quiet_step (first | (go_at_call 63; exact BelowW.calls _ (D1.out _ (HPx.out _ (Subtype.property _))))))
 refine wpQuiet_nil ?_
 rintro w1 ⟨m4, hw1⟩
 have hb1 := m4.property
 rw [← hw1] at hb1
 clear hw1 m4 e0 g_i2 g_x2 g_x4 g_q0 g_q1 g_q2
 have HB1 := hide hb1
 clear hb1 D1
 have i2 := Blk.c2 (HKX.out w1 HB1.out)
 have x2 : w1.cell? ⟨w.heap.size + 1, 2, none⟩ = some (.int .i64 (i : Int)) := by rw [← HRI.out]; exact (HKQ.out w1 HB1.out).cell 2
 have q2 := cell_step HQ2.out HB1.out
 obtain ⟨bR, oR, B3, b3, d3, g3, rfl, hbR, hmR, t0, t1, t2, t3, hs3, _⟩ := ref_cells (HS1.out w1 HB1.out) hk
 obtain rfl := hs3.1
 have k0 : (0 : Int) ≤ (k : Int) := by omega
 have k1 : (k : Int) < (m.repos[i].refs.length : Int) := by omega
 have HS3 := hide (fun (W : World) (hb : Below w1.heap.size w1 W) => hs3.step hb)
 clear hbR hmR hs3
 go_upto_region 3 with fail
 obtain ⟨w2, hw2⟩ : ∃ w2, w2 = w1.alloc (.cells #[.string m.repos[i].refs[k].name, .bool m.repos[i].refs[k].guard, .int .i64 m.repos[i].refs[k].count, .slice B3 m.repos[i].refs[k].versions.length d3] 99) := ⟨_, rfl⟩
 rw [← hw2]
 have HD2 := hide (show Below w1.heap.size w1 w2 from hw2 ▸ (Below.refl _ _).alloc nle _)
 have HB2 := hide (Below.t HB1.out HD2.out)
 have kr := (show Blk w2 w1.heap.size 99 #[.string m.repos[i].refs[k].name, .bool m.repos[i].refs[k].guard, .int .i64 m.repos[i].refs[k].count, .slice B3 m.repos[i].refs[k].versions.length d3] from hw2 ▸ Blk.new w1 _ _)
 have HRB := hide (fun (W : World) (hb : Below w2.heap.size w2 W) => kr.step hb)
 have hxr : Rp.ref.R w2 [.string m.repos[i].refs[k].name, .bool m.repos[i].refs[k].guard, .int .i64 m.repos[i].refs[k].count, .slice B3 m.repos[i].refs[k].versions.length d3] m.repos[i].refs[k] g3 := ⟨B3, _, d3, g3, rfl, rfl, HS3.out _ HD2.out⟩
 have HXR := hide (fun (W : World) (hb : Below w2.heap.size w2 W) => Rp.ref.below hxr hb nle)
 clear hw2 kr hxr t0 t1 t2 t3 q2 i2 x2
 by_cases kk1 : r.kind = 1
 ·have K1 := hide kk1
  have x3 : w2.cell? ⟨w.heap.size + 1, 3, none⟩ = some (.int .i64 1) := by rw [← K1.out]; exact (HKQ.out w2 HB2.out).cell 3
  have x8 := Blk.c8 (HKQ.out w2 HB2.out)
  have t0 := Blk.c0 (HRB.out w2 (Below.refl _ _))
  have t1 := Blk.c1 (HRB.out w2 (Below.refl _ _))
  have t2 := Blk.c2 (HRB.out w2 (Below.refl _ _))
  have t3 := Blk.c3 (HRB.out w2 (Below.refl _ _))
  clear kk1
  obtain ⟨l, hv, hl⟩ := version_zero HFX.out.1
  have HV := hide hv
  have HL := hide hl
  clear hl hv
  go_wp2_with fail
  refine wp_stay fun K hK => ?_
  have HKK := hide hK
  clear hK
  go_region_law (first
   | (refine step_call rfl 132 (enters_of Tryz.func132 (by kernel_rfl) rfl) rfl _ (by simp [Act.eval, Act.put]) ((l7Latest_any (x := m.repos[i].refs[k]) (l := l) _ (HXR.out _ (by first | exact (Below.refl _ _).drew | exact Below.refl _ _ | exact ((Below.refl _ _).drew).alloc nle _ | exact ((Below.refl _ _).alloc nle _).drew | exact (Below.refl _ _).alloc nle _)) HFX.out.2.1 HV.out).mono ?_); rintro e w3 ⟨AF, nF, cF, fF, rfl, hsF, _, hb3⟩; refine ⟨_, rfl, ?_⟩; have HS4 := hide hsF; have HD3 := hide (Below.past hb3); have y8 := cell_step x8 HD3.out; clear hb3 hsF)
   | (refine step_call rfl 131 (enters_of Tryz.func131 (by kernel_rfl) rfl) rfl _ (by simp [Act.eval, Act.put]) ((specTreTurn_any (l := l) (es := r.edits) _ HS4.out (HEx.out _ (Below.t (Below.t HB0.out HB2.out) HD3.out)) (treOk_fit (HFX.out.2.2.2 l HL.out)) HQF.out.edits).mono ?_); rintro e w5 ⟨v2, rfl, ho2, hb5⟩; refine ⟨_, rfl, ?_⟩; obtain ⟨A2', c2', f2', hv2, hs2, _, _, _⟩ := own_files ho2; subst hv2; have HS5 := hide hs2; have HB5 := hide (Below.t (Below.t HB2.out HD3.out) hb5); clear ho2 hs2 hb5)
   | fail)
  all_goals
   refine HKK.out _ _ ?_
   clear HKK K
   clear x8 y8 t0 t1 t2 t3 x3
   cases ht : treTurn l r.edits with
   | none =>
    simp only [Option.isSome]
    have HE := hide (show newest m m.repos[i].refs[k] r = ([], 7) by unfold newest; rw [if_pos K1.out, HV.out]; simp only [ht])
    go_wp2_with fail
    go_ret2
    rw [HE.out]
    exact ⟨_, 0, 0, [], rfl, SlR.none_of 0 (by simp [maxLen]), (Below.t HB0.out HB5.out).alloc (Below.t HB0.out HB5.out).size _⟩
   | some y =>
    have hs2 := HS5.out
    rw [ht] at hs2
    have HS6 := hide (show SlR Rp.file w5 A2' y.length c2' y f2' from hs2)
    simp only [Option.isSome, Option.getD_some]
    clear hs2 HS5
    have HE := hide (show newest m m.repos[i].refs[k] r = (y, 1) by unfold newest; rw [if_pos K1.out, HV.out]; simp only [ht])
    go_wp2_with fail
    go_ret2
    rw [HE.out]
    exact ⟨_, _, _, _, rfl, HS6.out, Below.t HB0.out HB5.out⟩
 have K1 := hide kk1
 by_cases kk9 : r.kind = 9
 ·have K9 := hide kk9
  have x3 : w2.cell? ⟨w.heap.size + 1, 3, none⟩ = some (.int .i64 9) := by rw [← K9.out]; exact (HKQ.out w2 HB2.out).cell 3
  have t0 := Blk.c0 (HRB.out w2 (Below.refl _ _))
  have t1 := Blk.c1 (HRB.out w2 (Below.refl _ _))
  have t2 := Blk.c2 (HRB.out w2 (Below.refl _ _))
  have t3 := Blk.c3 (HRB.out w2 (Below.refl _ _))
  clear kk1 kk9
  cases hg : m.repos[i].refs[k].guard
  ·rw [hg] at t1
   have HG := hide hg
   clear hg
   have hbk := HQF.out.ints.2.2.2.1
   obtain ⟨j, hj⟩ : ∃ j : Nat, r.back = (j : Int) := ⟨r.back.toNat, by omega⟩
   have HJ := hide hj
   have x7 : w2.cell? ⟨w.heap.size + 1, 7, none⟩ = some (.int .i64 (j : Int)) := by rw [← hj]; exact (HKQ.out w2 HB2.out).cell 7
   clear hbk hj
   have hv3 := HFX.out.2.1
   by_cases hjl : j < m.repos[i].refs[k].versions.length
   ·obtain ⟨p, hp⟩ : ∃ p : Nat, (p : Int) = m.repos[i].refs[k].versions.length - 1 - j := ⟨m.repos[i].refs[k].versions.length - 1 - j, by omega⟩
    have hpl : p < m.repos[i].refs[k].versions.length := by omega
    have HV := hide (version_at (b := (j : Int)) (by omega) hp hpl)
    obtain ⟨bv, ov, Av, nv, cv, fv, rfl, _, _, u0, hsv, _⟩ := slice_cells (HS3.out w2 HD2.out) hpl
    have HSV := hide hsv
    have j1 : ¬ (m.repos[i].refs[k].versions.length : Int) ≤ (j : Int) := by omega
    have hw1 : IntKind.i64.wrap ((m.repos[i].refs[k].versions.length : Int) - 1) = (m.repos[i].refs[k].versions.length : Int) - 1 := IntWalk.i64_in _ (by omega)
    have hw2 : IntKind.i64.wrap ((m.repos[i].refs[k].versions.length : Int) - 1 - (j : Int)) = (p : Int) := by rw [IntWalk.i64_in _ (by omega)]; omega
    have p0 : (0 : Int) ≤ (p : Int) := by omega
    have p1 : (p : Int) < (m.repos[i].refs[k].versions.length : Int) := by omega
    have HE := hide (show newest m m.repos[i].refs[k] r = (m.repos[i].refs[k].versions[p], 1) by unfold newest; rw [if_neg K1.out, if_pos K9.out, HG.out, HJ.out, HV.out]; simp only [Bool.false_eq_true, if_false])
    clear hp hsv hjl
    go_wp2_with fail
    go_ret2
    rw [HE.out]
    exact ⟨_, _, _, _, rfl, HSV.out, Below.t HB0.out HB2.out⟩
   ·have j1 : (m.repos[i].refs[k].versions.length : Int) ≤ (j : Int) := by omega
    have HV := hide (version_far (vs := m.repos[i].refs[k].versions) j1)
    clear hjl hv3
    have HE := hide (show newest m m.repos[i].refs[k] r = ([], 7) by unfold newest; rw [if_neg K1.out, if_pos K9.out, HG.out, HJ.out, HV.out]; rfl)
    go_wp2_with fail
    go_ret2
    rw [HE.out]
    exact ⟨_, 0, 0, [], rfl, SlR.none_of 0 (by simp [maxLen]), (Below.t HB0.out HB2.out).alloc (Below.t HB0.out HB2.out).size _⟩
  ·rw [hg] at t1
   have HG := hide hg
   clear hg
   have HE := hide (show newest m m.repos[i].refs[k] r = ([], 8) by unfold newest; rw [if_neg K1.out, if_pos K9.out, HG.out]; rfl)
   go_wp2_with fail
   go_ret2
   rw [HE.out]
   exact ⟨_, 0, 0, [], rfl, SlR.none_of 0 (by simp [maxLen]), (Below.t HB0.out HB2.out).alloc (Below.t HB0.out HB2.out).size _⟩
 have K9 := hide kk9
 have hfr0 := HQF.out.ints.2.2.2.2
 have hfl := may_from HMAY.out K1.out K9.out
 obtain ⟨j, hfj⟩ : ∃ j : Nat, r.frm = (j : Int) := ⟨r.frm.toNat, by omega⟩
 have HFJ := hide hfj
 have hj : j < m.repos.length := by omega
 have j0 : (0 : Int) ≤ (j : Int) := by omega
 have j1 : (j : Int) < (m.repos.length : Int) := by omega
 have x13 : w2.cell? ⟨w.heap.size + 1, 13, none⟩ = some (.int .i64 (j : Int)) := by rw [← hfj]; exact (HKQ.out w2 HB2.out).cell 13
 have i2 := Blk.c2 (HKX.out w2 HB2.out)
 have x3 := Blk.c3 (HKQ.out w2 HB2.out)
 have x14 := Blk.c14 (HKQ.out w2 HB2.out)
 obtain ⟨bp', op', C0, c0', e0', h0, C1', c1', e1', h1, hbo, hbp, hmp, q0, q1, q2, hs0, hs1, hsub⟩ := repo_cells (HRx.out w2 (Below.t HB0.out HB2.out)) hj
 cases hbo
 obtain rfl := hs1.1
 have HT1 := hide (fun (W : World) (hb : Below w2.heap.size w2 W) => hs1.step hb)
 have hrp : Rp.repo.R w2 [.int .i64 m.repos[j].admin, .slice C0 c0' e0', .slice C1' m.repos[j].refs.length e1'] m.repos[j] (h0 ++ h1) := ⟨C0, c0', e0', h0, C1', _, e1', h1, rfl, rfl, hs0, hs1⟩
 have HPy := hide (fun (W : World) (hb : Below w2.heap.size w2 W) => Rp.repo.below hrp hb nle)
 have HQ2' := hide q2
 have HFILES := hide (show ∀ o, m.repos[j].refs.findIdx? (nameIs r.other) = o → filesOf m r.frm r.other 0 = (match o with | none => none | some k2 => version (m.repos[j].refs.getD k2 zeroRef).versions 0) from fun o ho => by
  cases o with
  | none => exact filesOf_none HFJ.out hj ho
  | some k2 =>
   obtain ⟨hk2, _⟩ := List.findIdx?_eq_some_iff_getElem.1 ho
   rw [filesOf_some HFJ.out hj hk2 ho]
   simp only [getD_at hk2])
 have D1 := hide (fun W (hh : Rp.repo.R W [.int .i64 m.repos[j].admin, .slice C0 c0' e0', .slice C1' m.repos[j].refs.length e1'] m.repos[j] (h0 ++ h1)) => l7At_any r.other W hh)
 clear hs0 hs1 hrp hbp hmp hsub hfr0 hfl hfj
 go_upto_region 15 with fail
 go_wp2_with fail
 have n0 := BelowW.nonempty w2
 have e0 := BelowW.ex (w := w2)
 have g_i2 := fun n : BelowW w2 => n.cell i2
 have g_x13 := fun n : BelowW w2 => n.cell x13
 have g_x14 := fun n : BelowW w2 => n.cell x14
 have g_q0 := fun n : BelowW w2 => n.cell q0
 have g_q1 := fun n : BelowW w2 => n.cell q1
 have g_q2 := fun n : BelowW w2 => n.cell q2
 clear i2 x13 x14 q0 q1 q2
 refine wp_region_below (by kernel_rfl) (by kernel_rfl) ?_
 repeat (go_big_quiet_step (first | (go_at_call 63; exact BelowW.calls _ (D1.out _ (HPy.out _ (Subtype.property _))))))
 refine wpQuiet_nil ?_
 rintro w3 ⟨m4, hw3⟩
 have hb3 := m4.property
 rw [← hw3] at hb3
 clear hw3 m4 e0 g_i2 g_x13 g_x14 g_q0 g_q1 g_q2
 have HD3 := hide hb3
 have HB3 := hide (Below.t HB2.out hb3)
 clear hb3 D1 x3 kk1 kk9
 rcases idxP_at (nameIs r.other) m.repos[j].refs with ⟨hn, he⟩ | ⟨k2, hn, hk2, he⟩
 ·rw [he]
  clear he
  have HF := hide (HFILES.out _ hn)
  clear hn
  have HE := hide (show newest m m.repos[i].refs[k] r = ([], 7) by unfold newest; rw [if_neg K1.out, if_neg K9.out, HF.out])
  go_wp2_with fail
  go_ret2
  rw [HE.out]
  exact ⟨_, 0, 0, [], rfl, SlR.none_of 0 (by simp [maxLen]), (Below.t HB0.out HB3.out).alloc (Below.t HB0.out HB3.out).size _⟩
 ·rw [he]
  clear he
  have HF := hide (HFILES.out _ hn)
  have HFY := hide ((RepoFit.of ((mdlOk_iff.1 HOK.out).2.2 _ (List.getElem_mem hj))).vers _ (List.getElem_mem hk2))
  obtain ⟨l, hv, hl⟩ := version_zero HFY.out.1
  have HV := hide hv
  have m0' : (0 : Int) ≤ (k2 : Int) := by omega
  have m1' : (k2 : Int) < (m.repos[j].refs.length : Int) := by omega
  have m2' : ¬ (k2 : Int) < 0 := by omega
  have x13 : w3.cell? ⟨w.heap.size + 1, 13, none⟩ = some (.int .i64 (j : Int)) := by rw [← HFJ.out]; exact (HKQ.out w3 HB3.out).cell 13
  have i2 := Blk.c2 (HKX.out w3 HB3.out)
  have q2 := cell_step HQ2'.out HD3.out
  obtain ⟨bS, oS, B4, b4, d4, g4, rfl, hbS, hmS, t0, t1, t2, t3, hs4, _⟩ := ref_cells (HT1.out w3 HD3.out) hk2
  obtain rfl := hs4.1
  have HS4 := hide hs4
  have HE := hide (show newest m m.repos[i].refs[k] r = (l, 1) by unfold newest; rw [if_neg K1.out, if_neg K9.out, HF.out]; simp only [getD_at hk2, HV.out])
  clear hn hv hl hbS hmS hs4
  go_wp2_with fail
  refine (l7Latest_any (x := m.repos[j].refs[k2]) (l := l) _ ⟨B4, _, d4, g4, rfl, rfl, HS4.out⟩ HFY.out.2.1 HV.out).mono ?_
  rintro e w4 ⟨AF, nF, cF, fF, rfl, hsF, _, hb4⟩
  have HS5 := hide hsF
  have HB4 := hide (Below.t HB3.out hb4)
  clear hsF hb4 t0 t1 t2 t3 q2 i2 x13
  go_wp2_with fail
  go_ret2
  rw [HE.out]
  exact ⟨_, _, _, _, rfl, HS5.out, Below.t HB0.out HB4.out⟩
def PlanAt (w : World) (m : House) (p : Repo) (r : Req) (e : Ending) (w' : World) : Prop :=
 ∃ A n c f, e = .returned (.tuple #[.slice A n c, .int .i64 (write m p r).2]) ∧ ((write m p r).2 = 1 → ∀ k, refIdx p.refs r.ref = some k → SlR Rp.file w' A n c (newest m (p.refs.getD k zeroRef) r).1 f) ∧ Below w.heap.size w w'
theorem plan_mk {w w' : World} {m : House} {p : Repo} {r : Req} {A : Option Addr} {n c : Nat} {f : List Nat} {k : Int} (h : (write m p r).2 = k) (hs : k = 1 → ∀ k', refIdx p.refs r.ref = some k' → SlR Rp.file w' A n c (newest m (p.refs.getD k' zeroRef) r).1 f) (hb : Below w.heap.size w w') :
  PlanAt w m p r (.returned (.tuple #[.slice A n c, .int .i64 k])) w' := ⟨A, n, c, f, by rw [h], fun h1 => hs (h ▸ h1), hb⟩

set_option maxHeartbeats 8000000 in
set_option maxRecDepth 100000 in
theorem l7Plan_any {i : Nat} {m : House} {r : Req} {hs cs : List Value} {f fr : List Nat} (w : World) (hm : Rp.house.R w hs m f) (hr : Rp.req.R w cs r fr) (hri : r.repo = (i : Int)) (hi : i < m.repos.length) (hP : ∀ p ∈ m.repos, RepoFit p) (hQ : ReqFit r) (hok : mdlOk m = true) (hkn : knows m.keys r.user r.key = true) (hw : reqWrites r = true) :
  Calls Tryz.prog 40 #[.agg hs.toArray, .agg cs.toArray] w (PlanAt w m m.repos[i] r) := by
 have HOK := hide hok
 have HW := hide hw
 have HRX := hide hri
 have HPX := hide hP
 obtain ⟨u, hu1, hu2⟩ := knows_iff hkn
 have hul : u < m.used.length := by have := (usersOk_iff.1 (mdlOk_iff.1 hok).1).2.1; omega
 have HUS := hide (show 0 ≤ m.used[u] ∧ m.used[u] ≤ 200 from (usersOk_iff.1 (mdlOk_iff.1 hok).1).2.2.2 _ (List.getElem_mem hul))
 have HU1 := hide hu1
 have hr3 : m.repos.length ≤ 3 := by have := (mdlOk_iff.1 hok).2.1; omega
 clear hok hw hkn hu1 hu2
 obtain ⟨E0, m0, d0, e0, rfl, _, hq⟩ := hr
 obtain rfl := hq.1
 have hm0 := hm
 obtain ⟨A0, n0, c0, f0, A1, n1, c1, f1, A2, n2, c2, f2, rfl, hff, h0, h1, h2⟩ := hm
 obtain rfl := h0.1
 obtain rfl := h1.1
 obtain rfl := h2.1
 have hmx := h2.max
 have hmq := hq.max
 have HB0 := (((Below.refl w.heap.size w).alloc nle (.cells #[.slice A0 m.keys.length c0, .slice A1 m.used.length c1, .slice A2 m.repos.length c2] 35)).alloc (by simp) (.cells #[.int .i64 r.user, .int .i64 r.key, .int .i64 r.repo, .int .i64 r.kind, .string r.ref, .string r.path, .int .i64 r.old, .int .i64 r.back, .slice E0 r.edits.length d0, .int .i64 r.rule.user, .string r.rule.ref, .string r.rule.path, .bool r.rule.write, .int .i64 r.frm, .string r.other] 46))
 have kx := ((Blk.new w 35 #[.slice A0 m.keys.length c0, .slice A1 m.used.length c1, .slice A2 m.repos.length c2]).alloc (.cells #[.int .i64 r.user, .int .i64 r.key, .int .i64 r.repo, .int .i64 r.kind, .string r.ref, .string r.path, .int .i64 r.old, .int .i64 r.back, .slice E0 r.edits.length d0, .int .i64 r.rule.user, .string r.rule.ref, .string r.rule.path, .bool r.rule.write, .int .i64 r.frm, .string r.other] 46))
 have kq := (Blk.new' (w := (w.alloc (.cells #[.slice A0 m.keys.length c0, .slice A1 m.used.length c1, .slice A2 m.repos.length c2] 35))) (H := w.heap.size + 1) (by simp) 46 #[.int .i64 r.user, .int .i64 r.key, .int .i64 r.repo, .int .i64 r.kind, .string r.ref, .string r.path, .int .i64 r.old, .int .i64 r.back, .slice E0 r.edits.length d0, .int .i64 r.rule.user, .string r.rule.ref, .string r.rule.path, .bool r.rule.write, .int .i64 r.frm, .string r.other])
 have HKx := hide (fun (W : World) (hb : Below w.heap.size w W) => h0.step hb)
 have HUx := hide (fun (W : World) (hb : Below w.heap.size w W) => h1.step hb)
 have HRx := hide (fun (W : World) (hb : Below w.heap.size w W) => h2.step hb)
 have HEx := hide (fun (W : World) (hb : Below w.heap.size w W) => hq.step hb)
 have HHx := hide (fun (W : World) (hb : Below w.heap.size w W) => Rp.house.below hm0 hb nle)
 have HRI := hide hri
 have HPF := hide hP
 have HQF := hide hQ
 have HFI := hide (hP _ (List.getElem_mem hi))
 have i0 : (0 : Int) ≤ (i : Int) := by omega
 have i1 : (i : Int) < (m.repos.length : Int) := by omega
 clear hri hP hQ
 clear hm0 hff h0 h1 h2 hq
 go_enter Tryz.func40, Tryz.ntmps40
 go_upto_region 1 with fail
 generalize hW0 : ((w.alloc (.cells #[.slice A0 m.keys.length c0, .slice A1 m.used.length c1, .slice A2 m.repos.length c2] 35)).alloc (.cells #[.int .i64 r.user, .int .i64 r.key, .int .i64 r.repo, .int .i64 r.kind, .string r.ref, .string r.path, .int .i64 r.old, .int .i64 r.back, .slice E0 r.edits.length d0, .int .i64 r.rule.user, .string r.rule.ref, .string r.rule.path, .bool r.rule.write, .int .i64 r.frm, .string r.other] 46)) = w0 at HB0 kx kq ⊢
 clear hW0
 have HKX := hide (fun (W : World) (hb : Below w0.heap.size w0 W) => kx.step hb)
 have HKQ := hide (fun (W : World) (hb : Below w0.heap.size w0 W) => kq.step hb)
 have HB0 := hide HB0
 clear kx kq
 have i0 := Blk.c0 (HKX.out w0 (Below.refl _ _))
 have i1 := Blk.c1 (HKX.out w0 (Below.refl _ _))
 have i2 := Blk.c2 (HKX.out w0 (Below.refl _ _))
 go_wp2_with ((refine wpList_load_row rfl 46 (.tmp 3) rfl _ rfl _ _ _ _ (HKQ.out w0 (Below.refl _ _)).out Tryz.underlying46 rfl size_Req ?_))
 refine (l7May_any (m := m) (r := r) (i := i) _ (HHx.out _ HB0.out) ⟨E0, _, d0, e0, rfl, rfl, HEx.out _ HB0.out⟩ HRI.out hi HPF.out HQF.out hr3 HW.out).mono ?_
 rintro e w1 ⟨rfl, hb1⟩
 have HB1 := hide hb1
 clear hb1 i2
 cases hmay : mayWrite m m.repos[i] r
 ·have HMAY := hide hmay
  clear hmay
  have HE := hide (show (write m m.repos[i] r).2 = 4 by unfold write; rw [HMAY.out]; rfl)
  go_wp2_with fail
  go_ret2
  exact plan_mk (f := []) HE.out (fun h => by omega) ((Below.t HB0.out HB1.out).alloc (Below.t HB0.out HB1.out).size _)
 have HMAY := hide hmay
 clear hmay
 have i2 := Blk.c2 (HKX.out w1 HB1.out)
 have x2 : w1.cell? ⟨w.heap.size + 1, 2, none⟩ = some (.int .i64 (i : Int)) := by rw [← HRI.out]; exact (HKQ.out w1 HB1.out).cell 2
 have x4 := Blk.c4 (HKQ.out w1 HB1.out)
 obtain ⟨bp, op, B0, b0, d0', g0, B1, b1, d1', g1, rfl, hbp, hmp, q0, q1, q2, hs0, hs1, hsub⟩ := repo_cells (HRx.out w1 (Below.t HB0.out HB1.out)) hi
 obtain rfl := hs1.1
 have HS1 := hide (fun (W : World) (hb : Below w1.heap.size w1 W) => hs1.step hb)
 have hrp : Rp.repo.R w1 [.int .i64 m.repos[i].admin, .slice B0 b0 d0', .slice B1 m.repos[i].refs.length d1'] m.repos[i] (g0 ++ g1) := ⟨B0, b0, d0', g0, B1, _, d1', g1, rfl, rfl, hs0, hs1⟩
 have HPx := hide (fun (W : World) (hb : Below w1.heap.size w1 W) => Rp.repo.below hrp hb nle)
 have HQ2 := hide q2
 have D1 := hide (fun W (hh : Rp.repo.R W [.int .i64 m.repos[i].admin, .slice B0 b0 d0', .slice B1 m.repos[i].refs.length d1'] m.repos[i] (g0 ++ g1)) => l7At_any r.ref W hh)
 clear hs0 hs1 hrp hbp hmp hsub
 go_upto_region 3 with fail
 go_wp2_with fail
 have n0 := BelowW.nonempty w1
 have e0 := BelowW.ex (w := w1)
 have g_i2 := fun n : BelowW w1 => n.cell i2
 have g_x2 := fun n : BelowW w1 => n.cell x2
 have g_x4 := fun n : BelowW w1 => n.cell x4
 have g_q0 := fun n : BelowW w1 => n.cell q0
 have g_q1 := fun n : BelowW w1 => n.cell q1
 have g_q2 := fun n : BelowW w1 => n.cell q2
 clear i2 x2 x4 q0 q1 q2
 refine wp_region_below (by kernel_rfl) (by kernel_rfl) ?_
 repeat (go_big_quiet_step (first | (go_at_call 63; exact BelowW.calls _ (D1.out _ (HPx.out _ (Subtype.property _))))))
 refine wpQuiet_nil ?_
 rintro w2 ⟨m4, hw2⟩
 have hb2 := m4.property
 rw [← hw2] at hb2
 clear hw2 m4 e0 g_i2 g_x2 g_x4 g_q0 g_q1 g_q2
 have HD2 := hide hb2
 have HB2 := hide (Below.t HB1.out hb2)
 clear hb2 D1
 rcases idxP_at (nameIs r.ref) m.repos[i].refs with ⟨hn, he⟩ | ⟨k, hn, hk, he⟩
 ·rw [he]
  clear he
  have HNF := hide (show refIdx m.repos[i].refs r.ref = none from hn)
  clear hn
  have HE := hide (show (write m m.repos[i] r).2 = 5 by unfold write; rw [HMAY.out, HNF.out]; rfl)
  go_wp2_with fail
  go_ret2
  exact plan_mk (f := []) HE.out (fun h => by omega) ((Below.t HB0.out HB2.out).alloc (Below.t HB0.out HB2.out).size _)
 rw [he]
 clear he
 have HNF := hide (show refIdx m.repos[i].refs r.ref = some k from hn)
 have HFX := hide (HFI.out.vers _ (List.getElem_mem hk))
 have k0 : (0 : Int) ≤ (k : Int) := by omega
 have k1 : (k : Int) < (m.repos[i].refs.length : Int) := by omega
 have k2 : ¬ (k : Int) < 0 := by omega
 clear hn
 have i2 := Blk.c2 (HKX.out w2 HB2.out)
 have x2 : w2.cell? ⟨w.heap.size + 1, 2, none⟩ = some (.int .i64 (i : Int)) := by rw [← HRI.out]; exact (HKQ.out w2 HB2.out).cell 2
 have q2 := cell_step HQ2.out HD2.out
 obtain ⟨bR, oR, B3, b3, d3, g3, rfl, hbR, hmR, t0, t1, t2, t3, hs3, _⟩ := ref_cells (HS1.out w2 HD2.out) hk
 obtain rfl := hs3.1
 clear hbR hmR hs3
 go_upto_region 7 with fail
 obtain ⟨w3, hw3⟩ : ∃ w3, w3 = w2.alloc (.cells #[.string m.repos[i].refs[k].name, .bool m.repos[i].refs[k].guard, .int .i64 m.repos[i].refs[k].count, .slice B3 m.repos[i].refs[k].versions.length d3] 99) := ⟨_, rfl⟩
 rw [← hw3]
 have HD3 := hide (show Below w2.heap.size w2 w3 from hw3 ▸ (Below.refl _ _).alloc nle _)
 have HB3 := hide (Below.t HB2.out HD3.out)
 have kr := (show Blk w3 w2.heap.size 99 #[.string m.repos[i].refs[k].name, .bool m.repos[i].refs[k].guard, .int .i64 m.repos[i].refs[k].count, .slice B3 m.repos[i].refs[k].versions.length d3] from hw3 ▸ Blk.new w2 _ _)
 have HRB := hide (fun (W : World) (hb : Below w3.heap.size w3 W) => kr.step hb)
 clear hw3 kr t0 t1 t2 t3 q2 i2 x2
 have t2 := Blk.c2 (HRB.out w3 (Below.refl _ _))
 by_cases hce : m.repos[i].refs[k].count = r.old
 case neg =>
  have x6 := Blk.c6 (HKQ.out w3 HB3.out)
  have HE := hide (show (write m m.repos[i] r).2 = 6 by unfold write; rw [HMAY.out, HNF.out]; simp only [if_true, getD_at hk]; rw [if_pos hce])
  go_wp2_with fail
  go_ret2
  exact plan_mk (f := []) HE.out (fun h => by omega) ((Below.t HB0.out HB3.out).alloc (Below.t HB0.out HB3.out).size _)
 have HCE := hide hce
 have x6 : w3.cell? ⟨w.heap.size + 1, 6, none⟩ = some (.int .i64 m.repos[i].refs[k].count) := by rw [hce]; exact (HKQ.out w3 HB3.out).cell 6
 clear hce
 by_cases h14 : m.repos[i].refs[k].count = 14
 case pos =>
  have H14 := hide h14
  rw [h14] at t2 x6
  clear h14
  have HE := hide (show (write m m.repos[i] r).2 = 9 by unfold write; rw [HMAY.out, HNF.out]; simp only [if_true, getD_at hk]; rw [if_neg (fun h => h HCE.out), if_pos H14.out])
  go_wp2_with fail
  go_ret2
  exact plan_mk (f := []) HE.out (fun h => by omega) ((Below.t HB0.out HB3.out).alloc (Below.t HB0.out HB3.out).size _)
 have H14 := hide h14
 have i0 := Blk.c0 (HKX.out w3 HB3.out)
 have i1 := Blk.c1 (HKX.out w3 HB3.out)
 have i2 := Blk.c2 (HKX.out w3 HB3.out)
 go_wp2_with ((refine wpList_load_row rfl 46 (.tmp 3) rfl _ rfl _ _ _ _ (HKQ.out w3 HB3.out).out Tryz.underlying46 rfl size_Req ?_))
 refine (l7Next_any (m := m) (r := r) (i := i) (k := k) _ (HHx.out _ (Below.t HB0.out HB3.out)) ⟨E0, _, d0, e0, rfl, rfl, HEx.out _ (Below.t HB0.out HB3.out)⟩ HRI.out hi HPF.out HQF.out HOK.out hk HNF.out HMAY.out).mono ?_
 rintro e w4 ⟨A5, n5, c5, f5, rfl, hs5, hb4⟩
 have HS5 := hide hs5
 have HB4 := hide (Below.t HB3.out hb4)
 clear hs5 hb4 t2 x6 h14 i2
 by_cases hnc : (newest m m.repos[i].refs[k] r).2 = 1
 case neg =>
  have HE := hide (show (write m m.repos[i] r).2 = (newest m m.repos[i].refs[k] r).2 by unfold write; rw [HMAY.out, HNF.out]; simp only [if_true, getD_at hk]; rw [if_neg (fun h => h HCE.out), if_neg H14.out, if_pos hnc])
  have hnb : ((newest m m.repos[i].refs[k] r).2 == 1) = false := by simpa using hnc
  have hnd : decide ((newest m m.repos[i].refs[k] r).2 = 1) = false := decide_eq_false hnc
  have HNC := hide hnc
  clear hnc
  go_upto_region 12 with fail
  go_quiet (fail)
  have HB5 := hide (Below.drewN' HB4.out nq)
  clear hnb hnd
  go_wp2_with fail
  go_ret2
  exact plan_mk (f := []) HE.out (fun h => absurd h HNC.out) (Below.t HB0.out HB5.out)
 have HNC := hide hnc
 rw [hnc]
 clear hnc
 have hus := HUS.out
 have hT := treSize_small HQF.out.edits HQF.out.nedits
 have hsum : IntKind.i64.wrap (m.used[u] + ((treSize r.edits : Nat) : Int)) = m.used[u] + ((treSize r.edits : Nat) : Int) := IntWalk.i64_in _ (by omega)
 have hub := HQF.out.ints.1
 have hwu : IntKind.i64.wrap ((u : Int) + 1 - 1) = (u : Int) := by rw [IntWalk.i64_in _ (by have := HU1.out; omega)]; omega
 have hwu2 : IntKind.i64.wrap (u : Int) = (u : Int) := IntWalk.i64_in _ (by have := HU1.out; omega)
 have u0 : (0 : Int) ≤ (u : Int) := by omega
 have u1 : (u : Int) < (m.used.length : Int) := by omega
 have i1 := Blk.c1 (HKX.out w4 HB4.out)
 have x8 := Blk.c8 (HKQ.out w4 HB4.out)
 have x0 : w4.cell? ⟨w.heap.size + 1, 0, none⟩ = some (.int .i64 ((u : Int) + 1)) := by rw [← HU1.out]; exact (HKQ.out w4 HB4.out).cell 0
 obtain ⟨bU, oU, rfl, _, _, uc⟩ := int_cells (HUx.out w4 (Below.t HB0.out HB4.out)) hul
 have hse := HEx.out w4 (Below.t HB0.out HB4.out)
 have D2 := hide (fun W (h : SlR Rp.edit W E0 r.edits.length d0 r.edits e0) => specTreSize_any W h HQF.out.edits)
 go_upto_region 12 with fail
 by_cases hov : m.used[u] + ((treSize r.edits : Nat) : Int) > 200
 case pos =>
  have HE := hide (show (write m m.repos[i] r).2 = 10 by
   unfold write; rw [HMAY.out, HNF.out]; simp only [if_true, getD_at hk]; rw [if_neg (fun h => h HCE.out), if_neg H14.out, if_neg (fun h => h HNC.out), if_pos]
   rw [HU1.out, show ((u : Int) + 1 - 1).toNat = u by omega, getD_at hul]; exact hov)
  have hov' : (200 : Int) < m.used[u] + ((treSize r.edits : Nat) : Int) := hov
  clear hus hT hov hub
  go_wp2_with fail
  have n0 := BelowW.nonempty w4
  have e0 := BelowW.ex (w := w4)
  have g_i1 := fun n : BelowW w4 => n.cell i1
  have g_x0 := fun n : BelowW w4 => n.cell x0
  have g_x8 := fun n : BelowW w4 => n.cell x8
  have g_uc := fun n : BelowW w4 => n.cell uc
  clear i1 x0 x8 uc
  refine wp_region_below (by kernel_rfl) (by kernel_rfl) ?_
  repeat (go_big_quiet_step (first | (go_at_call 85; exact BelowW.calls _ (D2.out _ (BelowW.sl _ hse)))))
  refine wpQuiet_nil ?_
  rintro w5 ⟨m4, hw5⟩
  have hb5 := m4.property
  rw [← hw5] at hb5
  clear hw5 m4 e0 g_i1 g_x0 g_x8 g_uc
  have HB5 := hide (Below.t HB4.out hb5)
  clear hb5
  go_wp2_with fail
  go_ret2
  exact plan_mk (f := []) HE.out (fun h => by omega) ((Below.t HB0.out HB5.out).alloc (Below.t HB0.out HB5.out).size _)
 have HE := hide (show (write m m.repos[i] r).2 = 1 by
  unfold write; rw [HMAY.out, HNF.out]; simp only [if_true, getD_at hk]; rw [if_neg (fun h => h HCE.out), if_neg H14.out, if_neg (fun h => h HNC.out), if_neg]
  rw [HU1.out, show ((u : Int) + 1 - 1).toNat = u by omega, getD_at hul]; exact hov)
 have hov' : ¬ (200 : Int) < m.used[u] + ((treSize r.edits : Nat) : Int) := hov
 clear hus hT hov hub
 go_wp2_with fail
 have n0 := BelowW.nonempty w4
 have e0 := BelowW.ex (w := w4)
 have g_i1 := fun n : BelowW w4 => n.cell i1
 have g_x0 := fun n : BelowW w4 => n.cell x0
 have g_x8 := fun n : BelowW w4 => n.cell x8
 have g_uc := fun n : BelowW w4 => n.cell uc
 clear i1 x0 x8 uc
 refine wp_region_below (by kernel_rfl) (by kernel_rfl) ?_
 repeat (go_big_quiet_step (first | (go_at_call 85; exact BelowW.calls _ (D2.out _ (BelowW.sl _ hse)))))
 refine wpQuiet_nil ?_
 rintro w5 ⟨m4, hw5⟩
 have hb5 := m4.property
 rw [← hw5] at hb5
 clear hw5 m4 e0 g_i1 g_x0 g_x8 g_uc
 have HB5 := hide (Below.t HB4.out hb5)
 have HS6 := hide (HS5.out.step hb5)
 clear hb5
 go_wp2_with fail
 go_ret2
 exact plan_mk (f := f5) HE.out (fun _ k' hk' => by
  rw [HNF.out] at hk'
  cases hk'
  rw [getD_at hk]
  exact HS6.out) (Below.t HB0.out HB5.out)
end Go.Proofs.YtnogkkcmcnhodaaGreatDoor
