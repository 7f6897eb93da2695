/- Lemmas and walks, joined by program (wip/gen/merge.py). -/
import Derived.Test.YtnogkkcmcnhodaaGreatDoorZ17
import Derived.Test.YtnogkkcmcnhodaaGreatDoorZ8
import Derived.Test.YtnogkkcmcnhodaaGreatDoorZ4
namespace Go.Proofs.YtnogkkcmcnhodaaGreatDoor
open Go.RowKit
attribute [local go_sem ↓] Go.wp_at_zero Go.wp_at_succ
attribute [local go_sem] stayQ_normal

set_option maxHeartbeats 8000000 in
set_option maxRecDepth 100000 in
theorem l7Refs_any {i : Nat} {m : House} {r : Req} {hs cs : List Value} {f fr : List Nat} (w : World) (hm : Rp.house.R w hs m f) (hr : Rp.req.R w cs r fr) (hri : r.repo = (i : Int)) (hi : i < m.repos.length) (hP : ∀ p ∈ m.repos, RepoFit p) (hQ : ReqFit r) :
  Calls Tryz.prog 37 #[.agg hs.toArray, .agg cs.toArray] w (FreshR Rp.ans w (refsAns m.repos[i] r)) := by
 obtain ⟨E0, m0, d0, e0, rfl, _, hq⟩ := hr
 obtain rfl := hq.1
 have hm0 := hm
 obtain ⟨A0, n0, c0, f0, A1, n1, c1, f1, A2, n2, c2, f2, rfl, hff, h0, h1, h2⟩ := hm
 obtain rfl := h0.1
 obtain rfl := h1.1
 obtain rfl := h2.1
 have hmx := h2.max
 have hmq := hq.max
 have HB0 := ((((Below.refl w.heap.size w).alloc nle (.cells #[.slice A0 m.keys.length c0, .slice A1 m.used.length c1, .slice A2 m.repos.length c2] 35)).alloc (by simp) (.cells #[.int .i64 r.user, .int .i64 r.key, .int .i64 r.repo, .int .i64 r.kind, .string r.ref, .string r.path, .int .i64 r.old, .int .i64 r.back, .slice E0 r.edits.length d0, .int .i64 r.rule.user, .string r.rule.ref, .string r.rule.path, .bool r.rule.write, .int .i64 r.frm, .string r.other] 46)).alloc (by simp; omega) (.cells #[.int .i64 0, .slice none 0 0, .slice none 0 0, .int .i64 0] 39))
 have kx := (((Blk.new w 35 #[.slice A0 m.keys.length c0, .slice A1 m.used.length c1, .slice A2 m.repos.length c2]).alloc (.cells #[.int .i64 r.user, .int .i64 r.key, .int .i64 r.repo, .int .i64 r.kind, .string r.ref, .string r.path, .int .i64 r.old, .int .i64 r.back, .slice E0 r.edits.length d0, .int .i64 r.rule.user, .string r.rule.ref, .string r.rule.path, .bool r.rule.write, .int .i64 r.frm, .string r.other] 46)).alloc (.cells #[.int .i64 0, .slice none 0 0, .slice none 0 0, .int .i64 0] 39))
 have kq := ((Blk.new' (w := (w.alloc (.cells #[.slice A0 m.keys.length c0, .slice A1 m.used.length c1, .slice A2 m.repos.length c2] 35))) (H := w.heap.size + 1) (by simp) 46 #[.int .i64 r.user, .int .i64 r.key, .int .i64 r.repo, .int .i64 r.kind, .string r.ref, .string r.path, .int .i64 r.old, .int .i64 r.back, .slice E0 r.edits.length d0, .int .i64 r.rule.user, .string r.rule.ref, .string r.rule.path, .bool r.rule.write, .int .i64 r.frm, .string r.other]).alloc (.cells #[.int .i64 0, .slice none 0 0, .slice none 0 0, .int .i64 0] 39))
 have kz0 := (Blk.new' (w := ((w.alloc (.cells #[.slice A0 m.keys.length c0, .slice A1 m.used.length c1, .slice A2 m.repos.length c2] 35)).alloc (.cells #[.int .i64 r.user, .int .i64 r.key, .int .i64 r.repo, .int .i64 r.kind, .string r.ref, .string r.path, .int .i64 r.old, .int .i64 r.back, .slice E0 r.edits.length d0, .int .i64 r.rule.user, .string r.rule.ref, .string r.rule.path, .bool r.rule.write, .int .i64 r.frm, .string r.other] 46))) (H := w.heap.size + 2) (by simp) 39 #[.int .i64 0, .slice none 0 0, .slice none 0 0, .int .i64 0])
 have HKx := hide (fun (W : World) (hb : Below w.heap.size w W) => h0.step hb)
 have HUx := hide (fun (W : World) (hb : Below w.heap.size w W) => h1.step hb)
 have HRx := hide (fun (W : World) (hb : Below w.heap.size w W) => h2.step hb)
 have HEx := hide (fun (W : World) (hb : Below w.heap.size w W) => hq.step hb)
 have HHx := hide (fun (W : World) (hb : Below w.heap.size w W) => Rp.house.below hm0 hb nle)
 have HRI := hide hri
 have HPF := hide hP
 have HQF := hide hQ
 have HFI := hide (hP _ (List.getElem_mem hi))
 have i0 : (0 : Int) ≤ (i : Int) := by omega
 have i1 : (i : Int) < (m.repos.length : Int) := by omega
 clear hri hP hQ
 clear hm0 hff h0 h1 h2 hq
 go_enter Tryz.func37, Tryz.ntmps37
 go_upto_region 1 with fail
 generalize hW0 : (((w.alloc (.cells #[.slice A0 m.keys.length c0, .slice A1 m.used.length c1, .slice A2 m.repos.length c2] 35)).alloc (.cells #[.int .i64 r.user, .int .i64 r.key, .int .i64 r.repo, .int .i64 r.kind, .string r.ref, .string r.path, .int .i64 r.old, .int .i64 r.back, .slice E0 r.edits.length d0, .int .i64 r.rule.user, .string r.rule.ref, .string r.rule.path, .bool r.rule.write, .int .i64 r.frm, .string r.other] 46)).alloc (.cells #[.int .i64 0, .slice none 0 0, .slice none 0 0, .int .i64 0] 39)) = w0 at HB0 kx kq kz0 ⊢
 clear hW0
 have HKX := hide (fun (W : World) (hb : Below w0.heap.size w0 W) => kx.step hb)
 have HKQ := hide (fun (W : World) (hb : Below w0.heap.size w0 W) => kq.step hb)
 have HB0 := hide HB0
 clear kx kq
 have HKA := hide (fun (W : World) (hb : Below w0.heap.size w0 W) => kz0.step hb)
 have HL2 := hide kz0.lt
 clear kz0
 have i2 := Blk.c2 (HKX.out w0 (Below.refl _ _))
 have x2 : w0.cell? ⟨w.heap.size + 1, 2, none⟩ = some (.int .i64 (i : Int)) := by rw [← HRI.out]; exact (HKQ.out w0 (Below.refl _ _)).cell 2
 obtain ⟨bp, op, B0, nb0, b0, g0, B1, nb1, b1, g1, rfl, hbp, hmp, q0, q1, q2, hs0, hs1, hsub⟩ := repo_cells (HRx.out w0 HB0.out) hi
 obtain rfl := hs0.1
 obtain rfl := hs1.1
 have hrp : Rp.repo.R w0 [.int .i64 m.repos[i].admin, .slice B0 m.repos[i].rules.length b0, .slice B1 m.repos[i].refs.length b1] m.repos[i] (g0 ++ g1) := ⟨B0, _, b0, g0, B1, _, b1, g1, rfl, rfl, hs0, hs1⟩
 have HPx := hide (fun (W : World) (hb : Below w0.heap.size w0 W) => Rp.repo.below hrp hb nle)
 have HS0 := hide (fun (W : World) (hb : Below w0.heap.size w0 W) => hs0.step hb)
 have HS1 := hide (fun (W : World) (hb : Below w0.heap.size w0 W) => hs1.step hb)
 have HGS := hide (show ∀ z ∈ g1, z < w0.heap.size from hs1.lt)
 clear hs0 hs1 hrp hbp hmp hsub
 go_upto_region 2 with fail
 obtain ⟨w1, hw1⟩ : ∃ w1, w1 = w0.alloc (.cells #[.int .i64 m.repos[i].admin, .slice B0 m.repos[i].rules.length b0, .slice B1 m.repos[i].refs.length b1] 96) := ⟨_, rfl⟩
 rw [← hw1]
 have HB1 := hide (show Below w0.heap.size w0 w1 from hw1 ▸ (Below.refl _ _).alloc nle _)
 have kp := (show Blk w1 w0.heap.size 96 #[.int .i64 m.repos[i].admin, .slice B0 m.repos[i].rules.length b0, .slice B1 m.repos[i].refs.length b1] from hw1 ▸ Blk.new w0 _ _)
 have HPB := hide (fun (W : World) (hb : Below w1.heap.size w1 W) => kp.step hb)
 clear hw1 kp q0 q1 q2 i2 x2
 have HE := hide (seen_all m.repos[i] r)
 have hr3 := HFI.out.nrefs
 obtain ⟨ii, hi0, hz0, hz1, hz2⟩ := info_parts infoC_Str
 have HM2 := hide (World.ownsRow_made (base := w1.heap.size) (e := 9) (size := 1) w1 #[] 0 nle (by simp [maxLen]) rfl)
 have HBB := hide ((Below.refl w1.heap.size w1).alloc nle (.cells #[] 9))
 go_wp2_with fail
 go_loopw [6, 7] (fun v iv wr => ∃ a : Nat, a ≤ m.repos[i].refs.length ∧ iv = .int .i64 a ∧ wr.ownsRow w1.heap.size 9 1 v (seen m.repos[i] r a).length ((seen m.repos[i] r a).flatMap fun s => [.string s]) ∧ Below w1.heap.size w1 wr) (fun _ iv _ => m.repos[i].refs.length - (intOf iv).toNat)
 case atStart => exact ⟨0, Nat.zero_le _, rfl, HM2.out, HBB.out⟩
 case round =>
  obtain ⟨wo, hwo⟩ : ∃ wo, wo = wr := ⟨_, rfl⟩
  subst hwo
  obtain ⟨a, ha, rfl, hown, hbl⟩ := hrel
  have HBL := hide hbl
  have HW := hide hown
  have HLE := hide (seen_le m.repos[i] r a)
  have j0 : (0 : Int) ≤ (a : Int) := by omega
  clear hown hbl
  have p1 := Blk.c1 (HPB.out wo HBL.out)
  have p2 := Blk.c2 (HPB.out wo HBL.out)
  have x0 := Blk.c0 (HKQ.out wo (Below.t HB1.out HBL.out))
  by_cases hlt : a < m.repos[i].refs.length
  ·have j1 : (a : Int) < (m.repos[i].refs.length : Int) := by omega
   obtain ⟨bR, oR, B9, m9, d9, g9, rfl, _, _, t0, t1, t2, t3, _, _⟩ := ref_cells (HS1.out wo (Below.t HB1.out HBL.out)) hlt
   have HY := hide (fun (h : rulSees m.repos[i].rules r.user m.repos[i].refs[a].name = true) => seen_yes hlt h)
   have HN := hide (fun (h : rulSees m.repos[i].rules r.user m.repos[i].refs[a].name = false) => seen_no hlt h)
   have hs0 := HS0.out wo (Below.t HB1.out HBL.out)
   have C1 := fun W (hh : SlR Rp.rule W B0 m.repos[i].rules.length b0 m.repos[i].rules g0) => specRulSees_any r.user m.repos[i].refs[a].name W hh HFI.out.rules
   clear t1 t2 t3
   go_upto_region 6 with fail
   cases hd : rulSees m.repos[i].rules r.user m.repos[i].refs[a].name
   ·have HE1 := hide (HN.out hd)
    simp only [hd] at C1
    have D1 := hide C1
    clear C1 hd
    go_wp2_with fail
    have n0 := BelowW.nonempty wo
    have e0 := BelowW.ex (w := wo)
    have g_p1 := fun n : BelowW wo => n.cell p1
    have g_p2 := fun n : BelowW wo => n.cell p2
    have g_x0 := fun n : BelowW wo => n.cell x0
    have g_t0 := fun n : BelowW wo => n.cell t0
    clear p1 p2 x0 t0
    refine wp_region_below (by kernel_rfl) (by kernel_rfl) ?_
    repeat (go_big_quiet_step (first | (go_at_call 79; exact BelowW.calls _ (D1.out _ (BelowW.sl _ hs0)))))
    refine wpQuiet_nil ?_
    rintro w4 ⟨m4, hw4⟩
    have hb4 := m4.property
    rw [← hw4] at hb4
    clear hw4 m4 e0 g_p1 g_p2 g_x0 g_t0
    have HB4 := hide (Below.t HBL.out hb4)
    have HO := hide (own_step HW.out hb4)
    clear hb4 hs0
    go_wp2_with fail
    refine ⟨⟨a + 1, by omega, by go_num, ?_, HB4.out⟩, by simp [intOf]; omega⟩
    rw [HE1.out]
    exact HO.out
   ·have HE1 := hide (HY.out hd)
    simp only [hd] at C1
    have D1 := hide C1
    have tt := t0
    have pp := p2
    clear C1 hd
    go_wp2_with fail
    have n0 := BelowW.nonempty wo
    have e0 := BelowW.ex (w := wo)
    have g_p1 := fun n : BelowW wo => n.cell p1
    have g_p2 := fun n : BelowW wo => n.cell p2
    have g_x0 := fun n : BelowW wo => n.cell x0
    have g_t0 := fun n : BelowW wo => n.cell t0
    clear p1 p2 x0 t0
    refine wp_region_below (by kernel_rfl) (by kernel_rfl) ?_
    repeat (go_big_quiet_step (first | (go_at_call 79; exact BelowW.calls _ (D1.out _ (BelowW.sl _ hs0)))))
    refine wpQuiet_nil ?_
    rintro w4 ⟨m4, hw4⟩
    have hb4 := m4.property
    rw [← hw4] at hb4
    clear hw4 m4 e0 g_p1 g_p2 g_x0 g_t0
    have HB4 := hide (Below.t HBL.out hb4)
    have HO4 := hide (own_step HW.out hb4)
    have t4 := cell_step tt hb4
    have p4 := cell_step pp hb4
    have hle := HLE.out
    clear hb4 hs0 tt pp
    go_wp2_with (at_builtin; refine wpList_append_own _ rfl _ _ 37 rfl w1.heap.size 9 ii _ 1 16 Tryz.underlying37 hi0 hz0 hz1 hz2 rfl (by decide) _ _ _ rfl (HO4.out.alloc _) ⟨w4.heap.size, 0, none⟩ 1 1 [.string m.repos[i].refs[a].name] rfl rfl (news_alloc _ [.string m.repos[i].refs[a].name] _) (by intro u hu; simp at hu; subst hu; rfl) (by unfold maxLen; omega) (by omega) (by have := HB4.out.size; simp; omega) ?_)
    intro v' w5 hown' hgrow _
    have HO := hide hown'
    have HB7 := hide ((HB4.out.alloc HB4.out.size _).grown hgrow (by have := HB4.out.size; simp; omega) (fun z hz => (HO4.out.lt z hz).1))
    clear hown' hgrow t4 p4
    go_wp2_with fail
    refine ⟨⟨a + 1, by omega, by go_num, ?_, HB7.out⟩, by simp [intOf]; omega⟩
    rw [HE1.out, List.length_append, List.flatMap_append, List.flatMap_singleton]
    exact HO.out
  ·obtain rfl : a = m.repos[i].refs.length := by omega
   obtain ⟨AN, cN, fN, rfl, hsN, hlN, hnN, hfN⟩ := own_sl (k := 1) (enc := fun s => [Value.string s]) (hk := fun _ => rfl) (h1 := fun x u hu => by simp at hu; subst hu; rfl) HW.out
   have HSN := hide hsN
   have HLN := hide (And.intro hlN (And.intro hnN hfN))
   clear hsN hlN hnN hfN hlt
   have ka := HKA.out wo (Below.t HB1.out HBL.out)
   have y0 := blk_frozen ka 0
   have d0 := Blk.c0 ka
   have y1 := blk_frozen ka 1
   have d1 := Blk.c1 ka
   have y2 := blk_frozen ka 2
   have d2 := Blk.c2 ka
   have y3 := blk_frozen ka 3
   have d3 := Blk.c3 ka
   have RR := hide (ans_put ka (.int .i64 1) (.slice none 0 0) (.slice AN (seen m.repos[i] r m.repos[i].refs.length).length cN) (.int .i64 0))
   clear ka
   go_wp2_with fail
   obtain ⟨R, RO⟩ := RR.out
   generalize ((((wo.setCell ⟨w.heap.size + 2, 0, none⟩ (.int .i64 1)).setCell ⟨w.heap.size + 2, 1, none⟩ (.slice none 0 0)).setCell ⟨w.heap.size + 2, 2, none⟩ (.slice AN (seen m.repos[i] r m.repos[i].refs.length).length cN)).setCell ⟨w.heap.size + 2, 3, none⟩ (.int .i64 0)) = WW at R RO ⊢
   have e0 := Blk.c0 R
   have e1 := Blk.c1 R
   have e2 := Blk.c2 R
   have e3 := Blk.c3 R
   refine bodyPost_ret (v := .agg #[.int .i64 1, .slice none 0 0, .slice AN (seen m.repos[i] r m.repos[i].refs.length).length cN, .int .i64 0]) (by simp [results, Tryz.results37, go_sem, e0, e1, e2, e3]) rfl ?_
   rw [HE.out]
   obtain ⟨hlN, hnN, hfN⟩ := HLN.out
   have h15 := HL2.out
   have h16 := HB1.out.size
   have h17 := HB0.out.size
   exact ⟨_, fN, rfl, ⟨none, 0, 0, [], AN, _, cN, fN, rfl, rfl, SlR.nil, HSN.out.only RO (fun z hz hm => by have := hlN z hz; simp at hm; omega)⟩, hnN,
    (fun z hz => by have := hlN z hz; omega), (hfN.keep fun z hz => RO.block z (hfN.lt z hz) (by have := hlN z hz; simp; omega)), below_only (Below.t HB0.out (Below.t HB1.out HBL.out)) RO (by omega)⟩
def Done (w : World) (o : House × Ans) (e : Ending) (w' : World) : Prop :=
 ∃ ch av f g, e = .returned (.tuple #[.agg ch.toArray, .agg av.toArray]) ∧ Rp.house.R w' ch o.1 f ∧ Rp.ans.R w' av o.2 g ∧ (f ++ g).Nodup ∧ (∀ z ∈ f ++ g, w.heap.size ≤ z) ∧ Free w' (f ++ g) ∧ Below w.heap.size w w'
theorem SmallHouse.of {m : House} (h : mdlOk m = true) : SmallHouse m := by
 obtain ⟨h1, h2, h3⟩ := mdlOk_iff.1 h
 obtain ⟨u1, u2, _, _⟩ := usersOk_iff.1 h1
 have hp : ∀ p ∈ m.repos, RepoFit p := fun p hp => RepoFit.of (h3 p hp)
 exact ⟨by omega, by omega, by omega, fun p hm => by have := (hp p hm).nrules; omega, fun p hm => by have := (hp p hm).nrefs; omega, fun p hm r hr => by have := ((hp p hm).vers r hr).2.1; omega,
  fun p hm r hr l hl => by have := (treOk_iff.1 (((hp p hm).vers r hr).2.2.2 l hl)).1; omega⟩
theorem two_put {w : World} {g g' : Nat} {t t' : TypeId} {h0 h1 h2 a0 a1 a2 a3 : Value} (hh : Blk w g t #[h0, h1, h2]) (ha : Blk w g' t' #[a0, a1, a2, a3]) (hne : g ≠ g') (u0 u1 u2 v0 v1 v2 v3 : Value) :
  Blk (((((((w.setCell ⟨g, 0, none⟩ u0).setCell ⟨g, 1, none⟩ u1).setCell ⟨g, 2, none⟩ u2).setCell ⟨g', 0, none⟩ v0).setCell ⟨g', 1, none⟩ v1).setCell ⟨g', 2, none⟩ v2).setCell ⟨g', 3, none⟩ v3) g t #[u0, u1, u2] ∧
  Blk (((((((w.setCell ⟨g, 0, none⟩ u0).setCell ⟨g, 1, none⟩ u1).setCell ⟨g, 2, none⟩ u2).setCell ⟨g', 0, none⟩ v0).setCell ⟨g', 1, none⟩ v1).setCell ⟨g', 2, none⟩ v2).setCell ⟨g', 3, none⟩ v3) g' t' #[v0, v1, v2, v3] ∧
  Only [g, g'] w (((((((w.setCell ⟨g, 0, none⟩ u0).setCell ⟨g, 1, none⟩ u1).setCell ⟨g, 2, none⟩ u2).setCell ⟨g', 0, none⟩ v0).setCell ⟨g', 1, none⟩ v1).setCell ⟨g', 2, none⟩ v2).setCell ⟨g', 3, none⟩ v3) := by
 have k1 := ((hh.put 0 u0).put 1 u1).put 2 u2
 have k2 := ((ha.far (fun e => hne e.symm) u0 (j := 0)).far (fun e => hne e.symm) u1 (j := 1)).far (fun e => hne e.symm) u2 (j := 2)
 refine ⟨?_, (ans_put k2 v0 v1 v2 v3).1, ?_⟩
 ·exact (((((by simpa using k1 : Blk _ g t #[u0, u1, u2]).far hne v0).far hne v1).far hne v2).far hne v3)
 ·exact (((((((Only.refl [g, g'] w).setCell (p := ⟨g, 0, none⟩) (.inl (by simp)) u0).setCell (p := ⟨g, 1, none⟩) (.inl (by simp)) u1).setCell (p := ⟨g, 2, none⟩) (.inl (by simp)) u2).setCell (p := ⟨g', 0, none⟩) (.inl (by simp)) v0).setCell (p := ⟨g', 1, none⟩) (.inl (by simp)) v1).setCell (p := ⟨g', 2, none⟩) (.inl (by simp)) v2).setCell (p := ⟨g', 3, none⟩) (.inl (by simp)) v3
theorem cell_put3 {w : World} {b j g : Nat} {v : Value} (h : w.cell? ⟨b, j, none⟩ = some v) (hne : b ≠ g) (u0 u1 u2 : Value) : (((w.setCell ⟨g, 0, none⟩ u0).setCell ⟨g, 1, none⟩ u1).setCell ⟨g, 2, none⟩ u2).cell? ⟨b, j, none⟩ = some v := by
 rw [World.cell?_setCell_other _ _ _ _ (by simp [hne]), World.cell?_setCell_other _ _ _ _ (by simp [hne]), World.cell?_setCell_other _ _ _ _ (by simp [hne])]
 exact h
theorem house_nil (w : World) : Rp.house.R w [.slice none 0 0, .slice none 0 0, .slice none 0 0] ⟨[], [], []⟩ [] := ⟨none, 0, 0, [], none, 0, 0, [], none, 0, 0, [], rfl, rfl, SlR.nil, SlR.nil, SlR.nil⟩

set_option maxHeartbeats 16000000 in
set_option maxRecDepth 100000 in
theorem implMdlDo_any {hs cs : List Value} {x : House} {r : Req} {fx fr : List Nat} (w : World) (hx : Rp.house.R w hs x fx) (hr : Rp.req.R w cs r fr) (hf : fitHouse x) (hq : fitReq r) :
  Calls Tryz.prog 11 #[.agg hs.toArray, .agg cs.toArray] w (Done w (mdlDo x r)) := by
 obtain ⟨E0, m0, d0, e0, rfl, hfe, hqs⟩ := hr
 obtain rfl := hqs.1
 have hx0 := hx
 obtain ⟨A0, n0, c0, f0, A1, n1, c1, f1, A2, n2, c2, f2, rfl, hff, h0, h1, h2⟩ := hx
 obtain rfl := h0.1
 obtain rfl := h1.1
 obtain rfl := h2.1
 have HB0 := ((((Below.refl w.heap.size w).alloc nle (.cells #[.slice A0 x.keys.length c0, .slice A1 x.used.length c1, .slice A2 x.repos.length c2] 35)).alloc (by simp) (.cells #[.int .i64 r.user, .int .i64 r.key, .int .i64 r.repo, .int .i64 r.kind, .string r.ref, .string r.path, .int .i64 r.old, .int .i64 r.back, .slice E0 r.edits.length d0, .int .i64 r.rule.user, .string r.rule.ref, .string r.rule.path, .bool r.rule.write, .int .i64 r.frm, .string r.other] 46)).alloc (by simp; omega) (.cells #[.slice none 0 0, .slice none 0 0, .slice none 0 0] 35)).alloc (by simp; omega) (.cells #[.int .i64 0, .slice none 0 0, .slice none 0 0, .int .i64 0] 39)
 have kx := ((((Blk.new w 35 #[.slice A0 x.keys.length c0, .slice A1 x.used.length c1, .slice A2 x.repos.length c2]).alloc (.cells #[.int .i64 r.user, .int .i64 r.key, .int .i64 r.repo, .int .i64 r.kind, .string r.ref, .string r.path, .int .i64 r.old, .int .i64 r.back, .slice E0 r.edits.length d0, .int .i64 r.rule.user, .string r.rule.ref, .string r.rule.path, .bool r.rule.write, .int .i64 r.frm, .string r.other] 46)).alloc (.cells #[.slice none 0 0, .slice none 0 0, .slice none 0 0] 35)).alloc (.cells #[.int .i64 0, .slice none 0 0, .slice none 0 0, .int .i64 0] 39))
 have kq := (((Blk.new' (w := w.alloc (.cells #[.slice A0 x.keys.length c0, .slice A1 x.used.length c1, .slice A2 x.repos.length c2] 35)) (H := w.heap.size + 1) (by simp) 46 #[.int .i64 r.user, .int .i64 r.key, .int .i64 r.repo, .int .i64 r.kind, .string r.ref, .string r.path, .int .i64 r.old, .int .i64 r.back, .slice E0 r.edits.length d0, .int .i64 r.rule.user, .string r.rule.ref, .string r.rule.path, .bool r.rule.write, .int .i64 r.frm, .string r.other]).alloc (.cells #[.slice none 0 0, .slice none 0 0, .slice none 0 0] 35)).alloc (.cells #[.int .i64 0, .slice none 0 0, .slice none 0 0, .int .i64 0] 39))
 have kh := ((Blk.new' (w := (w.alloc (.cells #[.slice A0 x.keys.length c0, .slice A1 x.used.length c1, .slice A2 x.repos.length c2] 35)).alloc (.cells #[.int .i64 r.user, .int .i64 r.key, .int .i64 r.repo, .int .i64 r.kind, .string r.ref, .string r.path, .int .i64 r.old, .int .i64 r.back, .slice E0 r.edits.length d0, .int .i64 r.rule.user, .string r.rule.ref, .string r.rule.path, .bool r.rule.write, .int .i64 r.frm, .string r.other] 46)) (H := w.heap.size + 2) (by simp) 35 #[.slice none 0 0, .slice none 0 0, .slice none 0 0]).alloc (.cells #[.int .i64 0, .slice none 0 0, .slice none 0 0, .int .i64 0] 39))
 have ka := (Blk.new' (w := ((w.alloc (.cells #[.slice A0 x.keys.length c0, .slice A1 x.used.length c1, .slice A2 x.repos.length c2] 35)).alloc (.cells #[.int .i64 r.user, .int .i64 r.key, .int .i64 r.repo, .int .i64 r.kind, .string r.ref, .string r.path, .int .i64 r.old, .int .i64 r.back, .slice E0 r.edits.length d0, .int .i64 r.rule.user, .string r.rule.ref, .string r.rule.path, .bool r.rule.write, .int .i64 r.frm, .string r.other] 46)).alloc (.cells #[.slice none 0 0, .slice none 0 0, .slice none 0 0] 35)) (H := w.heap.size + 3) (by simp) 39 #[.int .i64 0, .slice none 0 0, .slice none 0 0, .int .i64 0])
 have HHx := hide (fun (W : World) (hb : Below w.heap.size w W) => Rp.house.below hx0 hb nle)
 have HEx := hide (fun (W : World) (hb : Below w.heap.size w W) => hqs.step hb)
 have HF := hide hf
 have HQ := hide hq
 clear hx0 hff h0 h1 h2 hqs hfe hf hq
 go_enter Tryz.func11, Tryz.ntmps11
 go_upto_region 1 with fail
 generalize hW0 : (((w.alloc (.cells #[.slice A0 x.keys.length c0, .slice A1 x.used.length c1, .slice A2 x.repos.length c2] 35)).alloc (.cells #[.int .i64 r.user, .int .i64 r.key, .int .i64 r.repo, .int .i64 r.kind, .string r.ref, .string r.path, .int .i64 r.old, .int .i64 r.back, .slice E0 r.edits.length d0, .int .i64 r.rule.user, .string r.rule.ref, .string r.rule.path, .bool r.rule.write, .int .i64 r.frm, .string r.other] 46)).alloc (.cells #[.slice none 0 0, .slice none 0 0, .slice none 0 0] 35)).alloc (.cells #[.int .i64 0, .slice none 0 0, .slice none 0 0, .int .i64 0] 39) = w0 at HB0 kx kq kh ka ⊢
 clear hW0
 have HKX := hide (fun (W : World) (hb : Below w0.heap.size w0 W) => kx.step hb)
 have HKQ := hide (fun (W : World) (hb : Below w0.heap.size w0 W) => kq.step hb)
 have HKH := hide (fun (W : World) (hb : Below w0.heap.size w0 W) => kh.step hb)
 have HKA := hide (fun (W : World) (hb : Below w0.heap.size w0 W) => ka.step hb)
 have HB0 := hide HB0
 have HL3 := hide ka.lt
 clear kx kq kh ka
 have i0 := Blk.c0 (HKX.out w0 (Below.refl _ _))
 have i1 := Blk.c1 (HKX.out w0 (Below.refl _ _))
 have i2 := Blk.c2 (HKX.out w0 (Below.refl _ _))
 go_wp2_with fail
 refine (implMdlOk_any (x := x) _ (HHx.out _ HB0.out) HF.out).mono ?_
 rintro e w1 ⟨rfl, hb1⟩
 have HB1 := hide hb1
 clear hb1 i0 i1 i2
 cases hok : mdlOk x
 ·have HE := hide (show mdlDo x r = (⟨[], [], []⟩, ⟨0, [], [], 0⟩) from mdlDo_no (fun h => by rw [hok] at h; cases h.1))
  clear hok
  have kh := HKH.out w1 HB1.out
  have ka := HKA.out w1 HB1.out
  have p0 := blk_frozen kh 0
  have s0 := Blk.c0 kh
  have p1 := blk_frozen kh 1
  have s1 := Blk.c1 kh
  have p2 := blk_frozen kh 2
  have s2 := Blk.c2 kh
  have y0 := blk_frozen ka 0
  have d0 := Blk.c0 ka
  have y1 := blk_frozen ka 1
  have d1 := Blk.c1 ka
  have y2 := blk_frozen ka 2
  have d2 := Blk.c2 ka
  have y3 := blk_frozen ka 3
  have d3 := Blk.c3 ka
  have RR := hide (two_put kh ka (by omega) (.slice none 0 0) (.slice none 0 0) (.slice none 0 0) (.int .i64 0) (.slice none 0 0) (.slice none 0 0) (.int .i64 0))
  clear kh ka
  go_wp2_with fail
  obtain ⟨R, R2, RO⟩ := RR.out
  generalize (((((((w1.setCell ⟨w.heap.size + 2, 0, none⟩ (.slice none 0 0)).setCell ⟨w.heap.size + 2, 1, none⟩ (.slice none 0 0)).setCell ⟨w.heap.size + 2, 2, none⟩ (.slice none 0 0)).setCell ⟨w.heap.size + 3, 0, none⟩ (.int .i64 0)).setCell ⟨w.heap.size + 3, 1, none⟩ (.slice none 0 0)).setCell ⟨w.heap.size + 3, 2, none⟩ (.slice none 0 0)).setCell ⟨w.heap.size + 3, 3, none⟩ (.int .i64 0)) = WW at R R2 RO ⊢
  have z0 := Blk.c0 R
  have z1 := Blk.c1 R
  have z2 := Blk.c2 R
  have e0 := Blk.c0 R2
  have e1 := Blk.c1 R2
  have e2 := Blk.c2 R2
  have e3 := Blk.c3 R2
  refine bodyPost_ret (v := .tuple #[.agg #[.slice none 0 0, .slice none 0 0, .slice none 0 0], .agg #[.int .i64 0, .slice none 0 0, .slice none 0 0, .int .i64 0]]) (by simp [results, Tryz.results11, go_sem, z0, z1, z2, e0, e1, e2, e3]) rfl ?_
  rw [HE.out]
  exact ⟨[.slice none 0 0, .slice none 0 0, .slice none 0 0], [.int .i64 0, .slice none 0 0, .slice none 0 0, .int .i64 0], [], [], rfl, house_nil _, ans_code 0 _, by simp, by simp, Free.nil _, (Below.t HB0.out HB1.out).trans (RO.below (by intro z hz; simp at hz; omega) (Below.t HB0.out HB1.out).size)⟩
 have HOK := hide hok
 clear hok
 have x0 := Blk.c0 (HKQ.out w1 HB1.out)
 have x1 := Blk.c1 (HKQ.out w1 HB1.out)
 have x2 := Blk.c2 (HKQ.out w1 HB1.out)
 have x3 := Blk.c3 (HKQ.out w1 HB1.out)
 have x4 := Blk.c4 (HKQ.out w1 HB1.out)
 have x5 := Blk.c5 (HKQ.out w1 HB1.out)
 have x6 := Blk.c6 (HKQ.out w1 HB1.out)
 have x7 := Blk.c7 (HKQ.out w1 HB1.out)
 have x8 := Blk.c8 (HKQ.out w1 HB1.out)
 have x9 := Blk.c9 (HKQ.out w1 HB1.out)
 have x10 := Blk.c10 (HKQ.out w1 HB1.out)
 have x11 := Blk.c11 (HKQ.out w1 HB1.out)
 have x12 := Blk.c12 (HKQ.out w1 HB1.out)
 have x13 := Blk.c13 (HKQ.out w1 HB1.out)
 have x14 := Blk.c14 (HKQ.out w1 HB1.out)
 go_wp2_with fail
 clear x0 x1 x2 x3 x4 x5 x6 x7 x8 x9 x10 x11 x12 x13 x14
 refine (implReqOk_any (x := r) _ ⟨E0, _, d0, e0, rfl, rfl, HEx.out _ (Below.t HB0.out HB1.out)⟩ HQ.out).mono ?_
 rintro e w2 ⟨rfl, hb2⟩
 have HB2 := hide (Below.t HB1.out hb2)
 clear hb2
 cases hrq : reqOk r
 ·have HE := hide (show mdlDo x r = (⟨[], [], []⟩, ⟨0, [], [], 0⟩) from mdlDo_no (fun h => by rw [hrq] at h; cases h.2))
  clear hrq
  have kh := HKH.out w2 HB2.out
  have ka := HKA.out w2 HB2.out
  have p0 := blk_frozen kh 0
  have s0 := Blk.c0 kh
  have p1 := blk_frozen kh 1
  have s1 := Blk.c1 kh
  have p2 := blk_frozen kh 2
  have s2 := Blk.c2 kh
  have y0 := blk_frozen ka 0
  have d0 := Blk.c0 ka
  have y1 := blk_frozen ka 1
  have d1 := Blk.c1 ka
  have y2 := blk_frozen ka 2
  have d2 := Blk.c2 ka
  have y3 := blk_frozen ka 3
  have d3 := Blk.c3 ka
  have RR := hide (two_put kh ka (by omega) (.slice none 0 0) (.slice none 0 0) (.slice none 0 0) (.int .i64 0) (.slice none 0 0) (.slice none 0 0) (.int .i64 0))
  clear kh ka
  go_wp2_with fail
  obtain ⟨R, R2, RO⟩ := RR.out
  generalize (((((((w2.setCell ⟨w.heap.size + 2, 0, none⟩ (.slice none 0 0)).setCell ⟨w.heap.size + 2, 1, none⟩ (.slice none 0 0)).setCell ⟨w.heap.size + 2, 2, none⟩ (.slice none 0 0)).setCell ⟨w.heap.size + 3, 0, none⟩ (.int .i64 0)).setCell ⟨w.heap.size + 3, 1, none⟩ (.slice none 0 0)).setCell ⟨w.heap.size + 3, 2, none⟩ (.slice none 0 0)).setCell ⟨w.heap.size + 3, 3, none⟩ (.int .i64 0)) = WW at R R2 RO ⊢
  have z0 := Blk.c0 R
  have z1 := Blk.c1 R
  have z2 := Blk.c2 R
  have e0 := Blk.c0 R2
  have e1 := Blk.c1 R2
  have e2 := Blk.c2 R2
  have e3 := Blk.c3 R2
  refine bodyPost_ret (v := .tuple #[.agg #[.slice none 0 0, .slice none 0 0, .slice none 0 0], .agg #[.int .i64 0, .slice none 0 0, .slice none 0 0, .int .i64 0]]) (by simp [results, Tryz.results11, go_sem, z0, z1, z2, e0, e1, e2, e3]) rfl ?_
  rw [HE.out]
  exact ⟨[.slice none 0 0, .slice none 0 0, .slice none 0 0], [.int .i64 0, .slice none 0 0, .slice none 0 0, .int .i64 0], [], [], rfl, house_nil _, ans_code 0 _, by simp, by simp, Free.nil _, (Below.t HB0.out HB2.out).trans (RO.below (by intro z hz; simp at hz; omega) (Below.t HB0.out HB2.out).size)⟩
 have HRQ := hide hrq
 have HE := hide (show mdlDo x r = doIt x r from mdlDo_ok ⟨HOK.out, hrq⟩)
 clear hrq
 have i0 := Blk.c0 (HKX.out w2 HB2.out)
 have i1 := Blk.c1 (HKX.out w2 HB2.out)
 have i2 := Blk.c2 (HKX.out w2 HB2.out)
 go_wp2_with fail
 refine (cloneHouse_any (x := x) _ (HHx.out _ (Below.t HB0.out HB2.out)) (SmallHouse.of HOK.out)).mono ?_
 rintro e w3 ⟨ch1, fp1, rfl, hR1, hn1, hl1, hf1, hb3⟩
 have HB3 := hide (Below.t HB2.out hb3)
 have HR1 := hide hR1
 have HO1 := hide (And.intro hn1 (And.intro hl1 hf1))
 obtain ⟨K0, l0, k0, g0, K1, l1, k1, g1, v2, g2, hch, _, q0, q1, q2⟩ := hR1
 subst hch
 obtain ⟨K2, k2, _, rfl, _, _, _, _⟩ := q2.sl
 clear hb3 hn1 hl1 hf1 q0 q1 q2 i0 i1 i2
 go_upto_region 4 with fail
 obtain ⟨w4, hw4⟩ : ∃ w4, w4 = w3.alloc (.cells #[.slice K0 l0 k0, .slice K1 l1 k1, .slice K2 x.repos.length k2] 35) := ⟨_, rfl⟩
 rw [← hw4]
 have HD4 := hide (show Below w3.heap.size w3 w4 from hw4 ▸ (Below.refl _ _).alloc nle _)
 have HB4 := hide (Below.t HB3.out HD4.out)
 have HK4 := hide (show Blk w4 w3.heap.size 35 #[.slice K0 l0 k0, .slice K1 l1 k1, .slice K2 x.repos.length k2] from hw4 ▸ Blk.new w3 _ _)
 clear hw4
 go_wp2_with ((refine wpList_load_row rfl 46 (.tmp 3) rfl _ rfl _ _ _ _ (HKQ.out w4 HB4.out).out Tryz.underlying46 rfl size_Req ?_))
 refine (do_any (g := w3.heap.size) (m := x) (r := r) (ch := [.slice K0 l0 k0, .slice K1 l1 k1, .slice K2 x.repos.length k2]) _ (fun j y hj => by rw [Nat.zero_add, HK4.out.cell j]; simpa using hj) (fun h => by have := Rp.houseO.lt HR1.out _ h; omega) (Rp.houseO.below HR1.out HD4.out nle) HO1.out.1 (HO1.out.2.2.step HD4.out) ⟨E0, _, d0, e0, rfl, rfl, HEx.out _ (Below.t HB0.out HB4.out)⟩ HOK.out HRQ.out).mono ?_
 rintro e w5 ⟨av, ga, rfl, hRa, hna, hla, hfa, ⟨fq, hRq⟩, ho5⟩
 obtain ⟨AF, nF, cF, fF, AN, nN, cN, fN, rfl, hffa, hsF, hsN⟩ := hRa
 have hlt1 := Rp.houseO.lt HR1.out
 have hsz4 := HD4.out.size
 have hlt4 := HK4.out.lt
 have hk5 := HK4.out.only ho5 (fun h => by have := hlt1 _ h; omega)
 have hb5 : Below w0.heap.size w0 w5 := HB4.out.trans (ho5.below (fun z hz => by have := HO1.out.2.1 z hz; have := HB2.out.size; omega) HB4.out.size)
 have HB5 := hide hb5
 have HK5 := hide hk5
 have HRQ5 := hide hRq
 have HSF := hide hsF
 have HSN := hide hsN
 have HAA := hide (And.intro hffa (And.intro hna (And.intro hla hfa)))
 have HS45 := hide ho5.size
 clear hffa hsF hsN hna hla hfa hRq ho5 hb5 hk5
 go_upto_region 5 with fail
 obtain ⟨w6, hw6⟩ : ∃ w6, w6 = w5.alloc (.cells #[.int .i64 (doIt x r).2.code, .slice AF nF cF, .slice AN nN cN, .int .i64 (doIt x r).2.n] 39) := ⟨_, rfl⟩
 rw [← hw6]
 have HD6 := hide (show Below w5.heap.size w5 w6 from hw6 ▸ (Below.refl _ _).alloc nle _)
 have HB6 := hide (Below.t HB5.out HD6.out)
 have HK6 := hide (show Blk w6 w5.heap.size 39 #[.int .i64 (doIt x r).2.code, .slice AF nF cF, .slice AN nN cN, .int .i64 (doIt x r).2.n] from hw6 ▸ Blk.new w5 _ _)
 have HKO := hide (HK5.out.step HD6.out)
 clear hw6
 have o0 := Blk.c0 HKO.out
 have o1 := Blk.c1 HKO.out
 have o2 := Blk.c2 HKO.out
 have t0 := Blk.c0 HK6.out
 have t1 := Blk.c1 HK6.out
 have t2 := Blk.c2 HK6.out
 have t3 := Blk.c3 HK6.out
 have HNE := hide (show w5.heap.size ≠ w.heap.size + 2 by have h1 := HL3.out; have h2 := HB5.out.size; omega)
 have hsm := SmallHouse.of (doIt_ok HOK.out HRQ.out)
 have HSM := hide hsm
 clear hsm
 go_wp2_with fail
 refine wp_stay fun K hK => ?_
 have HKK := hide hK
 clear hK
 go_region_law (first
  | (refine step_call rfl 48 (enters_of Tryz.func48 (by kernel_rfl) rfl) rfl _ (by simp [Act.eval, Act.put]) ((cloneHouse_any (x := (doIt x r).1) _ (Rp.house.below HRQ5.out (Below.t HD6.out (Below.refl _ _).drew) nle) HSM.out).mono ?_); rintro e w7 ⟨ch2, fp2, rfl, hR2, hn2, hl2, hf2, hb7⟩; refine ⟨_, rfl, ?_⟩; obtain ⟨B0, n0, d0h, g0h, B1, n1, d1h, g1h, v2h, g2h, hch2, hfg2, q0, q1, q2⟩ := id hR2; subst hch2; obtain ⟨B2, d2h, _, hv2h, _, _, _, _⟩ := q2.sl; subst hv2h; have HR2 := hide hR2; have HO2 := hide (And.intro hn2 (And.intro hl2 hf2)); have HB7 := hide (Below.t HB6.out (Below.past hb7)); have HD7 := hide (Below.past hb7); have u0 := cell_step t0 HD7.out; have u1 := cell_step t1 HD7.out; have u2 := cell_step t2 HD7.out; have u3 := cell_step t3 HD7.out; have uu0 := cell_put3 u0 HNE.out (.slice B0 n0 d0h) (.slice B1 n1 d1h) (.slice B2 (doIt x r).1.repos.length d2h); have uu1 := cell_put3 u1 HNE.out (.slice B0 n0 d0h) (.slice B1 n1 d1h) (.slice B2 (doIt x r).1.repos.length d2h); have uu2 := cell_put3 u2 HNE.out (.slice B0 n0 d0h) (.slice B1 n1 d1h) (.slice B2 (doIt x r).1.repos.length d2h); have uu3 := cell_put3 u3 HNE.out (.slice B0 n0 d0h) (.slice B1 n1 d1h) (.slice B2 (doIt x r).1.repos.length d2h); clear hR2 hn2 hl2 hf2 hb7 q0 q1 q2 hfg2; have kh := HKH.out w7 HB7.out; have ka := HKA.out w7 HB7.out; have p0 := blk_frozen kh 0; have s0 : w7.cell? ⟨w.heap.size + 2, 0, none⟩ = some (.slice none 0 0) := kh.cell 0; have p1 := blk_frozen kh 1; have s1 : w7.cell? ⟨w.heap.size + 2, 1, none⟩ = some (.slice none 0 0) := kh.cell 1; have p2 := blk_frozen kh 2; have s2 : w7.cell? ⟨w.heap.size + 2, 2, none⟩ = some (.slice none 0 0) := kh.cell 2; have y0 := blk_frozen ka 0; have d0 : w7.cell? ⟨w.heap.size + 3, 0, none⟩ = some (.int .i64 0) := ka.cell 0; have y1 := blk_frozen ka 1; have d1 : w7.cell? ⟨w.heap.size + 3, 1, none⟩ = some (.slice none 0 0) := ka.cell 1; have y2 := blk_frozen ka 2; have d2 : w7.cell? ⟨w.heap.size + 3, 2, none⟩ = some (.slice none 0 0) := ka.cell 2; have y3 := blk_frozen ka 3; have d3 : w7.cell? ⟨w.heap.size + 3, 3, none⟩ = some (.int .i64 0) := ka.cell 3; have RR := hide (two_put kh ka (by omega) (.slice B0 n0 d0h) (.slice B1 n1 d1h) (.slice B2 (doIt x r).1.repos.length d2h) (.int .i64 (doIt x r).2.code) (.slice AF nF cF) (.slice AN nN cN) (.int .i64 (doIt x r).2.n)); clear kh ka)
  | fail)
 all_goals
  refine HKK.out _ _ ?_
  clear HKK K
  go_wp2_with fail
  obtain ⟨R, R2, RO⟩ := RR.out
  generalize (((((((w7.setCell ⟨w.heap.size + 2, 0, none⟩ (.slice B0 n0 d0h)).setCell ⟨w.heap.size + 2, 1, none⟩ (.slice B1 n1 d1h)).setCell ⟨w.heap.size + 2, 2, none⟩ (.slice B2 (doIt x r).1.repos.length d2h)).setCell ⟨w.heap.size + 3, 0, none⟩ (.int .i64 (doIt x r).2.code)).setCell ⟨w.heap.size + 3, 1, none⟩ (.slice AF nF cF)).setCell ⟨w.heap.size + 3, 2, none⟩ (.slice AN nN cN)).setCell ⟨w.heap.size + 3, 3, none⟩ (.int .i64 (doIt x r).2.n)) = WW at R R2 RO ⊢
  have z0 := Blk.c0 R
  have z1 := Blk.c1 R
  have z2 := Blk.c2 R
  have e0 := Blk.c0 R2
  have e1 := Blk.c1 R2
  have e2 := Blk.c2 R2
  have e3 := Blk.c3 R2
  refine bodyPost_ret (v := .tuple #[.agg #[.slice B0 n0 d0h, .slice B1 n1 d1h, .slice B2 (doIt x r).1.repos.length d2h], .agg #[.int .i64 (doIt x r).2.code, .slice AF nF cF, .slice AN nN cN, .int .i64 (doIt x r).2.n]]) (by simp [results, Tryz.results11, go_sem, z0, z1, z2, e0, e1, e2, e3]) rfl ?_
  rw [HE.out]
  obtain ⟨hffa, hna, hla, hfa⟩ := HAA.out
  obtain ⟨hn2, hl2, hf2⟩ := HO2.out
  have hl3 := HL3.out
  have z3 := HB4.out.size
  have z4 := HS45.out
  have z5 := HD6.out.size
  have z6 := HD7.out.size
  have z7 := HB0.out.size
  obtain ⟨f2', hf2', hs2⟩ := le_house.2 _ _ _ _ HR2.out
  have hbf : ∀ z ∈ f2', z ∉ [w.heap.size + 2, w.heap.size + 3] := fun z hz hm => by have := hl2 z (hs2.subset hz); simp at hm this; omega
  have hba : ∀ z ∈ ga, z ∉ [w.heap.size + 2, w.heap.size + 3] := fun z hz hm => by have := hla z hz; simp at hm; omega
  have hga : ∀ z ∈ ga, z < w5.heap.size := hfa.lt
  have hF7 : ∀ z ∈ ga, WW.heap[z]? = w5.heap[z]? := fun z hz => (RO.block z (by have := hga z hz; omega) (hba z hz)).trans ((HD7.out.block z (by have := hga z hz; omega)).trans (HD6.out.block z (hga z hz)))
  refine ⟨_, _, f2', ga, rfl, Rp.house.keep hf2' (fun z hz => RO.block z (Rp.house.lt hf2' z hz) (hbf z hz)), ⟨AF, nF, cF, fF, AN, nN, cN, fN, rfl, hffa, HSF.out.keep (fun z hz => hF7 z (by rw [hffa]; exact List.mem_append_left _ hz)), HSN.out.keep (fun z hz => hF7 z (by rw [hffa]; exact List.mem_append_right _ hz))⟩, ?_, ?_, ?_, ?_⟩
  ·refine List.nodup_append.2 ⟨hn2.sublist hs2, hna, fun a ha b hb e => ?_⟩
   subst e
   have h1 := hl2 a (hs2.subset ha)
   have h2 := hga a hb
   simp at h1
   omega
  ·intro z hz
   rcases List.mem_append.1 hz with hz | hz
   ·have := hl2 z (hs2.subset hz); simp at this; omega
   ·have := hla z hz; omega
  ·exact Free.append ((hf2.sublist hs2).keep fun z hz => RO.block z (Rp.house.lt hf2' z hz) (hbf z hz)) (hfa.keep hF7)
  ·exact (Below.t HB0.out HB7.out).trans (RO.below (by intro z hz; simp at hz; omega) (Below.t HB0.out HB7.out).size)
end Go.Proofs.YtnogkkcmcnhodaaGreatDoor
