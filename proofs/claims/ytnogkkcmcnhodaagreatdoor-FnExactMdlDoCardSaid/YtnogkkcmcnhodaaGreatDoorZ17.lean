/- Lemmas and walks, joined by program (wip/gen/merge.py). -/
import Derived.StillTailTactics
import Derived.Test.YtnogkkcmcnhodaaGreatDoorZ16
import Derived.Test.YtnogkkcmcnhodaaGreatDoorZ3
import Derived.Test.YtnogkkcmcnhodaaGreatDoorZ6
import Derived.Test.YtnogkkcmcnhodaaGreatDoorZ5
namespace Go.Proofs.YtnogkkcmcnhodaaGreatDoor
open Go.RowKit
attribute [local go_sem ↓] Go.wp_at_zero Go.wp_at_succ
attribute [local go_sem] stayQ_normal

set_option maxHeartbeats 4000000 in
set_option maxRecDepth 20000 in
theorem implLook_any {b o : Nat} {p : Repo} {r : Req} {cr cs : List Value} {f fr : List Nat} (w : World) (hc : Cells w b o cr) (hp : Rp.repo.R w cr p f) (hr : Rp.req.R w cs r fr) (hP : RepoFit p) (hQ : ReqFit r) :
  Calls Tryz.prog 106 #[.pointer (some ⟨b, o, none⟩), .agg cs.toArray] w (FreshR Rp.ans w (look p r)) := by
 obtain ⟨E0, m0, d0, e0, rfl, _, hq⟩ := hr
 obtain rfl := hq.1
 have hp0 := hp
 obtain ⟨A0, n0, c0, f0, A1, n1, c1, f1, rfl, hff, h0, h1⟩ := hp
 obtain rfl := h0.1
 obtain rfl := h1.1
 have hmr := h1.max
 have HB0 := (((Below.refl w.heap.size w).alloc nle (.cells #[.int .i64 r.user, .int .i64 r.key, .int .i64 r.repo, .int .i64 r.kind, .string r.ref, .string r.path, .int .i64 r.old, .int .i64 r.back, .slice E0 r.edits.length d0, .int .i64 r.rule.user, .string r.rule.ref, .string r.rule.path, .bool r.rule.write, .int .i64 r.frm, .string r.other] 46)).alloc (by simp) (.cells #[.int .i64 0, .slice none 0 0, .slice none 0 0, .int .i64 0] 39))
 have kq := (Blk.new w 46 #[.int .i64 r.user, .int .i64 r.key, .int .i64 r.repo, .int .i64 r.kind, .string r.ref, .string r.path, .int .i64 r.old, .int .i64 r.back, .slice E0 r.edits.length d0, .int .i64 r.rule.user, .string r.rule.ref, .string r.rule.path, .bool r.rule.write, .int .i64 r.frm, .string r.other]).alloc (.cells #[.int .i64 0, .slice none 0 0, .slice none 0 0, .int .i64 0] 39)
 have ka := Blk.new (w.alloc (.cells #[.int .i64 r.user, .int .i64 r.key, .int .i64 r.repo, .int .i64 r.kind, .string r.ref, .string r.path, .int .i64 r.old, .int .i64 r.back, .slice E0 r.edits.length d0, .int .i64 r.rule.user, .string r.rule.ref, .string r.rule.path, .bool r.rule.write, .int .i64 r.frm, .string r.other] 46)) 39 #[.int .i64 0, .slice none 0 0, .slice none 0 0, .int .i64 0]
 rw [show (w.alloc (.cells #[.int .i64 r.user, .int .i64 r.key, .int .i64 r.repo, .int .i64 r.kind, .string r.ref, .string r.path, .int .i64 r.old, .int .i64 r.back, .slice E0 r.edits.length d0, .int .i64 r.rule.user, .string r.rule.ref, .string r.rule.path, .bool r.rule.write, .int .i64 r.frm, .string r.other] 46)).heap.size = w.heap.size + 1 by simp] at ka
 have hl1w := h1.lt
 have hblw := World.block_lt_of_cell? w _ hc.at0
 have c0' := cell_step hc.at0 HB0
 have c1' := cell_step hc.tail.at0 HB0
 have c2' := cell_step hc.tail.tail.at0 HB0
 replace hp0 := Rp.repo.below hp0 HB0 nle
 replace h0 := h0.step HB0
 replace h1 := h1.step HB0
 have HPF := hide hP
 have HQF := hide hQ
 clear hc hP hQ
 go_enter Tryz.func106, Tryz.ntmps106
 go_upto_region 1 with fail
 generalize hW0 : (w.alloc (.cells #[.int .i64 r.user, .int .i64 r.key, .int .i64 r.repo, .int .i64 r.kind, .string r.ref, .string r.path, .int .i64 r.old, .int .i64 r.back, .slice E0 r.edits.length d0, .int .i64 r.rule.user, .string r.rule.ref, .string r.rule.path, .bool r.rule.write, .int .i64 r.frm, .string r.other] 46)).alloc (.cells #[.int .i64 0, .slice none 0 0, .slice none 0 0, .int .i64 0] 39) = w0 at HB0 kq ka c0' c1' c2' hp0 h0 h1 ⊢
 clear hW0
 have HKQ := hide (fun (W : World) (hb : Below w0.heap.size w0 W) => kq.step hb)
 have HKA := hide (fun (W : World) (hb : Below w0.heap.size w0 W) => ka.step hb)
 have HC := hide (fun (W : World) (hb : Below w0.heap.size w0 W) => And.intro (cell_step c0' hb) (And.intro (cell_step c1' hb) (cell_step c2' hb)))
 have HPP := hide (fun (W : World) (hb : Below w0.heap.size w0 W) => Rp.repo.below hp0 hb nle)
 have H0 := hide (fun (W : World) (hb : Below w0.heap.size w0 W) => h0.step hb)
 have H1 := hide (fun (W : World) (hb : Below w0.heap.size w0 W) => h1.step hb)
 have HK0 := hide ka.lt
 have HL1 := hide hl1w
 have HBW := hide hblw
 have HB0 := hide HB0
 have HBR := hide (Below.refl w0.heap.size w0)
 clear kq ka c0' c1' c2' hp0 h0 h1 hff hq hl1w hblw
 obtain ⟨a0, a1, a2⟩ := HC.out w0 HBR.out
 have x0 := Blk.c0 (HKQ.out w0 HBR.out)
 have x4 := Blk.c4 (HKQ.out w0 HBR.out)
 go_upto_region 1 with fail
 go_cut [17] (fun v wx => v = .bool (!rulSees p.rules r.user r.ref) ∧ Below w0.heap.size w0 wx)
 case first =>
  go_region_law (first
   | (refine step_call rfl 107 (enters_of Tryz.func107 (by kernel_rfl) rfl) rfl _ (by simp [Act.eval, Act.put]) ((implRulSees_any (l := p.rules) r.user r.ref _ (H0.out _ (by first | exact (Below.refl _ _).drew | exact Below.refl _ _ | exact ((Below.refl _ _).drew).alloc nle _ | exact ((Below.refl _ _).alloc nle _).drew | exact (Below.refl _ _).alloc nle _)) HPF.out.rules).mono ?_); rintro e w1 ⟨rfl, hb1⟩; refine ⟨_, rfl, ?_⟩)
   | fail)
  all_goals
   go_wp2_with fail
   go_meet
   case rel => exact ⟨rfl, Below.past hb1⟩
 case rest =>
  obtain ⟨wz, hwz⟩ : ∃ wz, wz = wc := ⟨_, rfl⟩
  subst hwz
  obtain ⟨rfl, hb1⟩ := hcut
  have HB1 := hide hb1
  clear hb1 a0 a1 a2 x0 x4
  cases hd : rulSees p.rules r.user r.ref
  ·have HE := hide (show look p r = code 4 by unfold look; rw [hd]; rfl)
   clear hd
   go_wp2_with fail
   refine (code_any 4 _).mono ?_
   rintro e wc ⟨rfl, hbc⟩
   have HBC := hide (Below.t HB1.out hbc)
   clear hbc
   have ka := HKA.out wc HBC.out
   have y0 := blk_frozen ka 0
   have d0 := Blk.c0 ka
   have y1 := blk_frozen ka 1
   have d1 := Blk.c1 ka
   have y2 := blk_frozen ka 2
   have d2 := Blk.c2 ka
   have y3 := blk_frozen ka 3
   have d3 := Blk.c3 ka
   have RR := hide (ans_put ka (.int .i64 4) (.slice none 0 0) (.slice none 0 0) (.int .i64 0))
   clear ka
   go_wp2_with fail
   obtain ⟨R, RO⟩ := RR.out
   generalize ((((wc.setCell ⟨w.heap.size + 1, 0, none⟩ (.int .i64 4)).setCell ⟨w.heap.size + 1, 1, none⟩ (.slice none 0 0)).setCell ⟨w.heap.size + 1, 2, none⟩ (.slice none 0 0)).setCell ⟨w.heap.size + 1, 3, none⟩ (.int .i64 0)) = WW at R RO ⊢
   have e0 := Blk.c0 R
   have e1 := Blk.c1 R
   have e2 := Blk.c2 R
   have e3 := Blk.c3 R
   refine bodyPost_ret (v := .agg #[.int .i64 4, .slice none 0 0, .slice none 0 0, .int .i64 0]) (by simp [results, Tryz.results106, go_sem, e0, e1, e2, e3]) rfl ?_
   rw [HE.out]
   exact FreshR.code 4 (below_only (Below.t HB0.out HBC.out) RO (by omega))
  ·have HD := hide hd
   clear hd
   obtain ⟨a0, a1, a2⟩ := HC.out wz HB1.out
   have x4 := Blk.c4 (HKQ.out wz HB1.out)
   go_upto_region 3 with fail
   go_cut [5] (fun v wx => v = .int .i64 (idxP (nameIs r.ref) p.refs) ∧ Below w0.heap.size w0 wx)
   case first =>
    go_region_law (first
     | (refine step_call rfl 117 (enters_of Tryz.func117 (by kernel_rfl) rfl) rfl _ (by simp [Act.eval, Act.put]) ((implRef_any (x := p) r.ref _ (HPP.out _ (Below.t HB1.out (by first | exact (Below.refl _ _).drew | exact Below.refl _ _ | exact ((Below.refl _ _).drew).alloc nle _ | exact ((Below.refl _ _).alloc nle _).drew | exact (Below.refl _ _).alloc nle _)))).mono ?_); rintro e w2 ⟨rfl, hb2⟩; refine ⟨_, rfl, ?_⟩)
     | fail)
    all_goals
     go_wp2_with fail
     go_meet
     case rel => exact ⟨rfl, Below.t HB1.out (Below.past hb2)⟩
   case rest =>
    obtain ⟨wz, hwz⟩ : ∃ wz, wz = wc := ⟨_, rfl⟩
    subst hwz
    obtain ⟨rfl, hb2⟩ := hcut
    have HB2 := hide hb2
    clear hb2 a0 a1 a2 x4
    rcases idxP_at (nameIs r.ref) p.refs with ⟨hn, he⟩ | ⟨k, hn, hk, he⟩
    ·rw [he]
     clear he
     have HE := hide (show look p r = code 5 by unfold look; rw [HD.out, show refIdx p.refs r.ref = none from hn]; rfl)
     clear hn
     go_wp2_with fail
     refine (code_any 5 _).mono ?_
     rintro e wc ⟨rfl, hbc⟩
     have HBC := hide (Below.t HB2.out hbc)
     clear hbc
     have ka := HKA.out wc HBC.out
     have y0 := blk_frozen ka 0
     have d0 := Blk.c0 ka
     have y1 := blk_frozen ka 1
     have d1 := Blk.c1 ka
     have y2 := blk_frozen ka 2
     have d2 := Blk.c2 ka
     have y3 := blk_frozen ka 3
     have d3 := Blk.c3 ka
     have RR := hide (ans_put ka (.int .i64 5) (.slice none 0 0) (.slice none 0 0) (.int .i64 0))
     clear ka
     go_wp2_with fail
     obtain ⟨R, RO⟩ := RR.out
     generalize ((((wc.setCell ⟨w.heap.size + 1, 0, none⟩ (.int .i64 5)).setCell ⟨w.heap.size + 1, 1, none⟩ (.slice none 0 0)).setCell ⟨w.heap.size + 1, 2, none⟩ (.slice none 0 0)).setCell ⟨w.heap.size + 1, 3, none⟩ (.int .i64 0)) = WW at R RO ⊢
     have e0 := Blk.c0 R
     have e1 := Blk.c1 R
     have e2 := Blk.c2 R
     have e3 := Blk.c3 R
     refine bodyPost_ret (v := .agg #[.int .i64 5, .slice none 0 0, .slice none 0 0, .int .i64 0]) (by simp [results, Tryz.results106, go_sem, e0, e1, e2, e3]) rfl ?_
     rw [HE.out]
     exact FreshR.code 5 (below_only (Below.t HB0.out HBC.out) RO (by omega))
    ·rw [he]
     clear he
     have HS1 := H1.out wz HB2.out
     obtain ⟨bR, oR, B0, m0, d0', g0, rfl, hbR, hmR, q0, q1, q2, q3, hs0, _⟩ := ref_cells HS1 hk
     have i0 : (0 : Int) ≤ (k : Int) := by omega
     have i1 : (k : Int) < (p.refs.length : Int) := by omega
     have i2 : ¬ (k : Int) < 0 := by omega
     have HNF := hide hn
     clear HS1 hbR hmR hn
     obtain ⟨a0, a1, a2⟩ := HC.out wz HB2.out
     have x4 := Blk.c4 (HKQ.out wz HB2.out)
     have x7 := Blk.c7 (HKQ.out wz HB2.out)
     go_upto_region 6 with fail
     go_cut [6, 7] (fun v6 v7 wx => ∃ AF nF cF fF, v6 = .slice AF nF cF ∧ v7 = .bool (version p.refs[k].versions r.back).isSome ∧ SlR Rp.file wx AF nF cF ((version p.refs[k].versions r.back).getD []) fF ∧ Below w0.heap.size w0 wx)
     case first =>
      go_region_law (first
       | (refine step_call rfl 118 (enters_of Tryz.func118 (by kernel_rfl) rfl) rfl _ (by simp [Act.eval, Act.put]) ((version_any (x := p.refs[k]) r.back (by have := HQF.out.ints; omega) _ (show Rp.ref.R _ _ p.refs[k] _ from ⟨B0, m0, d0', g0, rfl, rfl, hs0.drew⟩)).mono ?_); rintro e w3 ⟨AF, nF, cF, fF, rfl, hsF, _, hb3⟩; refine ⟨_, rfl, ?_⟩)
       | fail)
      all_goals
       go_wp2_with fail
       go_meet
       case rel => exact ⟨AF, nF, cF, fF, rfl, rfl, hsF, Below.t HB2.out (Below.past hb3)⟩
     case rest =>
      obtain ⟨wz, hwz⟩ : ∃ wz, wz = wc := ⟨_, rfl⟩
      subst hwz
      obtain ⟨AF, nF, cF, fF, rfl, rfl, hsF, hb3⟩ := hcut
      have HB3 := hide hb3
      have HFL := hide hsF
      clear hb3 hsF q0 q1 q2 q3 hs0
      cases hv : version p.refs[k].versions r.back with
      | none =>
       simp only [Option.isSome]
       have HE := hide (show look p r = code 7 by unfold look; rw [HD.out, show refIdx p.refs r.ref = some k from HNF.out]; simp only [if_true, getD_at hk, hv])
       go_wp2_with fail
       refine (code_any 7 _).mono ?_
       rintro e wc ⟨rfl, hbc⟩
       have HBC := hide (Below.t HB3.out hbc)
       clear hbc
       have ka := HKA.out wc HBC.out
       have y0 := blk_frozen ka 0
       have d0 := Blk.c0 ka
       have y1 := blk_frozen ka 1
       have d1 := Blk.c1 ka
       have y2 := blk_frozen ka 2
       have d2 := Blk.c2 ka
       have y3 := blk_frozen ka 3
       have d3 := Blk.c3 ka
       have RR := hide (ans_put ka (.int .i64 7) (.slice none 0 0) (.slice none 0 0) (.int .i64 0))
       clear ka
       go_wp2_with fail
       obtain ⟨R, RO⟩ := RR.out
       generalize ((((wc.setCell ⟨w.heap.size + 1, 0, none⟩ (.int .i64 7)).setCell ⟨w.heap.size + 1, 1, none⟩ (.slice none 0 0)).setCell ⟨w.heap.size + 1, 2, none⟩ (.slice none 0 0)).setCell ⟨w.heap.size + 1, 3, none⟩ (.int .i64 0)) = WW at R RO ⊢
       have e0 := Blk.c0 R
       have e1 := Blk.c1 R
       have e2 := Blk.c2 R
       have e3 := Blk.c3 R
       refine bodyPost_ret (v := .agg #[.int .i64 7, .slice none 0 0, .slice none 0 0, .int .i64 0]) (by simp [results, Tryz.results106, go_sem, e0, e1, e2, e3]) rfl ?_
       rw [HE.out]
       exact FreshR.code 7 (below_only (Below.t HB0.out HBC.out) RO (by omega))
      | some l =>
       have HVL := hide (version_mem hv)
       have hl1 := HFL.out
       rw [hv] at hl1
       have HLR := hide (fun (W : World) (hb : Below wz.heap.size wz W) => (show SlR Rp.file W AF nF cF l fF from hl1.step hb))
       have HLT := hide ((HPF.out.vers _ (List.getElem_mem hk)).2.2.2 l HVL.out)
       have HL60 := hide (show l.length ≤ 60 from (treOk_iff.1 HLT.out).1)
       have HE := hide (show look p r = ⟨1, readable p.rules r.user r.ref (treUnder l r.path), [], p.refs[k].count⟩ by unfold look; rw [HD.out, show refIdx p.refs r.ref = some k from HNF.out]; simp only [if_true, getD_at hk, hv])
       have HS1 := H1.out wz HB3.out
       obtain ⟨bS, oS, B9, m9, d9, g9, hbo, hbR, hmR, q0, q1, q2, q3, _, _⟩ := ref_cells HS1 hk
       cases hbo
       simp only [Option.isSome]
       have HMR := hide hmR
       clear hl1 HS1 hbR hmR
       obtain ⟨a0, a1, a2⟩ := HC.out wz HB3.out
       have x0 := Blk.c0 (HKQ.out wz HB3.out)
       have x4 := Blk.c4 (HKQ.out wz HB3.out)
       have x5 := Blk.c5 (HKQ.out wz HB3.out)
       have HBd := (Below.refl wz.heap.size wz).drew
       have G := hide (show ∀ W : World, Below wz.heap.size wz W → W.cell? ⟨b, o + 1, none⟩ = some (.slice A0 p.rules.length c0) ∧ W.cell? ⟨b, o + 2, none⟩ = some (.slice (some ⟨bR, oR, none⟩) p.refs.length c1) ∧ W.cell? ⟨w.heap.size, 0, none⟩ = some (.int .i64 r.user) ∧ W.cell? ⟨w.heap.size, 4, none⟩ = some (.string r.ref) ∧ W.cell? ⟨w.heap.size, 5, none⟩ = some (.string r.path) ∧ W.cell? ⟨bR, oR + k * 4 + 2, none⟩ = some (.int .i64 p.refs[k].count) from
        fun W hb => ⟨cell_step a1 hb, cell_step a2 hb, cell_step x0 hb, cell_step x4 hb, cell_step x5 hb, cell_step q2 hb⟩)
       have GS := hide (show ∀ (W : World) (v0 v1 v2 v3 : Value), Below wz.heap.size wz W → ((((W.setCell ⟨w.heap.size + 1, 0, none⟩ v0).setCell ⟨w.heap.size + 1, 1, none⟩ v1).setCell ⟨w.heap.size + 1, 2, none⟩ v2).setCell ⟨w.heap.size + 1, 3, none⟩ v3).cell? ⟨b, o + 1, none⟩ = some (.slice A0 p.rules.length c0) ∧ ((((W.setCell ⟨w.heap.size + 1, 0, none⟩ v0).setCell ⟨w.heap.size + 1, 1, none⟩ v1).setCell ⟨w.heap.size + 1, 2, none⟩ v2).setCell ⟨w.heap.size + 1, 3, none⟩ v3).cell? ⟨b, o + 2, none⟩ = some (.slice (some ⟨bR, oR, none⟩) p.refs.length c1) ∧ ((((W.setCell ⟨w.heap.size + 1, 0, none⟩ v0).setCell ⟨w.heap.size + 1, 1, none⟩ v1).setCell ⟨w.heap.size + 1, 2, none⟩ v2).setCell ⟨w.heap.size + 1, 3, none⟩ v3).cell? ⟨w.heap.size, 0, none⟩ = some (.int .i64 r.user) ∧ ((((W.setCell ⟨w.heap.size + 1, 0, none⟩ v0).setCell ⟨w.heap.size + 1, 1, none⟩ v1).setCell ⟨w.heap.size + 1, 2, none⟩ v2).setCell ⟨w.heap.size + 1, 3, none⟩ v3).cell? ⟨w.heap.size, 4, none⟩ = some (.string r.ref) ∧ ((((W.setCell ⟨w.heap.size + 1, 0, none⟩ v0).setCell ⟨w.heap.size + 1, 1, none⟩ v1).setCell ⟨w.heap.size + 1, 2, none⟩ v2).setCell ⟨w.heap.size + 1, 3, none⟩ v3).cell? ⟨w.heap.size, 5, none⟩ = some (.string r.path) ∧ ((((W.setCell ⟨w.heap.size + 1, 0, none⟩ v0).setCell ⟨w.heap.size + 1, 1, none⟩ v1).setCell ⟨w.heap.size + 1, 2, none⟩ v2).setCell ⟨w.heap.size + 1, 3, none⟩ v3).cell? ⟨bR, oR + k * 4 + 2, none⟩ = some (.int .i64 p.refs[k].count) from fun W v0 v1 v2 v3 hb => by
        obtain ⟨g1, g2, g3, g4, g5, g6⟩ := G.out W hb
        have hbw := HBW.out
        have hbR := HL1.out _ HMR.out
        refine ⟨?_, ?_, ?_, ?_, ?_, ?_⟩ <;> (repeat rw [World.cell?_setCell_other _ _ _ _ (by simp only [ne_eq, Addr.mk.injEq]; simp at hbw; omega)]) <;> assumption)
       clear a0 a1 a2 x0 x4 x5 q0 q1 q2 q3
       go_wp2_with fail
       go_region_held3 (fun w' => w'.cell? ⟨b, o + 1, none⟩ = some (.slice A0 p.rules.length c0) ∧ w'.cell? ⟨b, o + 2, none⟩ = some (.slice (some ⟨bR, oR, none⟩) p.refs.length c1) ∧ w'.cell? ⟨w.heap.size, 0, none⟩ = some (.int .i64 r.user) ∧ w'.cell? ⟨w.heap.size, 4, none⟩ = some (.string r.ref) ∧ w'.cell? ⟨w.heap.size, 5, none⟩ = some (.string r.path) ∧ w'.cell? ⟨bR, oR + k * 4 + 2, none⟩ = some (.int .i64 p.refs[k].count))
        ((first | ((with_reducible refine G.out _ ?_); (first | with_reducible exact HBd | with_reducible exact hB4 | with_reducible exact hB5)) | ((with_reducible refine GS.out _ _ _ _ _ ?_); with_reducible exact hB5)))
        (first | (go_at_call 144; refine (implTreUnder_any (l := l) r.path _ (HLR.out _ HBd) HQF.out.path (treOk_fit HLT.out) (by have := HL60.out; omega)).mono ?_; rintro e w4 ⟨v4, rfl, ho4, hb4⟩; obtain ⟨A4, c4, f4, hv4, hs4, _, _, _⟩ := own_files ho4; subst hv4; have hB4 := Below.past hb4; have HS4 := hide hs4; clear hb4 hs4 ho4) | (go_at_call 70; refine (readable_any (l := treUnder l r.path) (rules := p.rules) r.user r.ref _ (H0.out _ (Below.t HB3.out hB4)) HS4.out HPF.out.rules (treUnder_fit HLT.out r.path) (by have := HL60.out; have := treUnder_len l r.path; omega)).mono ?_; rintro e w5 ⟨v5, rfl, ho5, hb5⟩; obtain ⟨A5, c5, f5, hv5, hs5, hl5, hn5, hf5⟩ := own_files ho5; subst hv5; have HS5 := hide hs5; have hB5 := Below.t hB4 hb5; have HL5 := hide hl5; have HN5 := hide hn5; have HF5 := hide hf5; have ka := HKA.out w5 (Below.t HB3.out hB5); have y0 := blk_frozen ka 0; have d0 : w5.cell? ⟨w.heap.size + 1, 0, none⟩ = some (.int .i64 0) := ka.cell 0; have y1 := blk_frozen ka 1; have d1 : w5.cell? ⟨w.heap.size + 1, 1, none⟩ = some (.slice none 0 0) := ka.cell 1; have y2 := blk_frozen ka 2; have d2 : w5.cell? ⟨w.heap.size + 1, 2, none⟩ = some (.slice none 0 0) := ka.cell 2; have y3 := blk_frozen ka 3; have d3 : w5.cell? ⟨w.heap.size + 1, 3, none⟩ = some (.int .i64 0) := ka.cell 3; have RR := hide (ans_put ka (.int .i64 1) (.slice A5 (readable p.rules r.user r.ref (treUnder l r.path)).length c5) (.slice none 0 0) (.int .i64 p.refs[k].count)); clear ka hb5 hs5 hl5 hn5 hf5 ho5))
       all_goals
        obtain ⟨R, RO⟩ := RR.out
        go_wp2_with fail
        generalize ((((w5.setCell ⟨w.heap.size + 1, 0, none⟩ (.int .i64 1)).setCell ⟨w.heap.size + 1, 1, none⟩ (.slice A5 (readable p.rules r.user r.ref (treUnder l r.path)).length c5)).setCell ⟨w.heap.size + 1, 2, none⟩ (.slice none 0 0)).setCell ⟨w.heap.size + 1, 3, none⟩ (.int .i64 p.refs[k].count)) = WW at R RO ⊢
        have e0 := Blk.c0 R
        have e1 := Blk.c1 R
        have e2 := Blk.c2 R
        have e3 := Blk.c3 R
        refine bodyPost_ret (v := .agg #[.int .i64 1, .slice A5 (readable p.rules r.user r.ref (treUnder l r.path)).length c5, .slice none 0 0, .int .i64 p.refs[k].count]) (by simp [results, Tryz.results106, go_sem, e0, e1, e2, e3]) rfl ?_
        rw [HE.out]
        have h12 := hB5.size
        have h13 := hB4.size
        have h14 := HB3.out.size
        have h15 := HK0.out
        have hs5 := HS5.out.only RO (fun z hz hm => by simp at hm; have := HL5.out z hz; omega)
        exact ⟨_, f5, rfl, ⟨A5, _, c5, f5, none, 0, 0, [], rfl, by simp, hs5, SlR.nil⟩, HN5.out, fun z hz => by have := HL5.out z hz; omega, HF5.out.keep (fun z hz => RO.block z (HS5.out.lt z hz) (by simp; have := HL5.out z hz; omega)), below_only (Below.t HB0.out (Below.t HB3.out hB5)) RO (by omega)⟩
def RefsTo (b H : Nat) (f1 : List Nat) (v : Value) (l : List Ref) (W : World) (e : Ending) (Wi : World) : Prop :=
 ∃ A n c fr, e = .returned (.slice A n c) ∧ SlR Rp.ref Wi A n c l fr ∧ (∀ z cur t, Wi.heap[z]? = some (.cells cur t (0, 0)) → t ≠ 99 → z < H → z ∉ f1 → z ∉ fr) ∧ W.grownBy Wi v.ownBlock ∧ Wi.heap[b]? = W.heap[b]?
theorem ins_ref_call {b i n c1 nb vb : Nat} {A1 : Option Addr} {l : List Ref} {f1 : List Nat} {s : ByteArray} {tN tV : TypeId} {cur : Array Value} {wx : World} (W : World) (hO : OwS Rp.refO 99 wx (.slice A1 n c1) l f1) (hnl : n = l.length) (hn : f1.Nodup) (hbf : b ∉ f1) (hbt : wx.heap[b]? = some (.cells cur 96 (0, 0)))
  (hb : Below wx.heap.size wx W) (kn : Blk W nb tN #[.slice none 0 0]) (kv : Blk W vb tV #[.string s, .bool false, .int .i64 0, .slice (some ⟨nb, 0, none⟩) 1 1]) (hnb : wx.heap.size ≤ nb) (hvb : wx.heap.size ≤ vb) (hi : i ≤ l.length) (hl : l.length ≤ 4194304) :
  Calls Tryz.prog 153 #[.slice A1 n c1, .int .i64 i, .slice (some ⟨vb, 0, none⟩) 1 1] W (RefsTo b wx.heap.size f1 (.slice A1 n c1) (l.take i ++ ⟨s, false, 0, [[]]⟩ :: l.drop i) W) := by
 subst hnl
 have hOW := hO.step hb
 obtain ⟨xs, f2, ho, ha, rfl⟩ := hOW
 have hbl : b < wx.heap.size := (Array.getElem?_eq_some_iff.1 hbt).1
 have hob : ∀ z, (Value.slice A1 l.length c1).ownBlock = some z → z ∈ vblk (.slice A1 l.length c1) := fun z hz => by unfold vblk; rw [hz]; simp
 have hlt := hO.lt
 have hne : ∀ z, wx.heap.size ≤ z → (Value.slice A1 l.length c1).ownBlock ≠ some z := fun z hz e => by have := hlt z (List.mem_append_left _ (hob z e)); omega
 refine (insRef_any 0 i l.length vb (.slice A1 l.length c1) xs [.string s, .bool false, .int .i64 0, .slice (some ⟨nb, 0, none⟩) 1 1] tV W ho (Nat.zero_le _) hi rfl (by intro u hu; simp at hu; rcases hu with rfl | rfl | rfl | rfl <;> rfl) ha.one kv (hne vb hvb) hl).mono ?_
 rintro e Wi ⟨v', rfl, ho', hg⟩
 have hbW : Wi.heap[b]? = W.heap[b]? := hg.block b (Nat.lt_of_lt_of_le hbl hb.size) fun e => hbf (List.mem_append_left _ (hob b e.symm))
 obtain ⟨A, c, fr, rfl, hs, hbr⟩ := refs_ins (y := ⟨s, false, 0, [[]]⟩) ha hn hg hi (ref_new s kn) (fun z hz => by simp at hz; subst hz; exact fun hm => by have := hlt _ (List.mem_append_left _ hm); omega) ho' rfl
 exact ⟨A, _, c, fr, rfl, hs, fun z cur t h1 h2 h3 h4 => hbr z cur t h1 h2 (fun h => h4 (List.mem_append_right _ h)) (fun h => by simp at h; omega), hg, hbW⟩
theorem del_ref_call {b i n c1 : Nat} {A1 : Option Addr} {l : List Ref} {f1 : List Nat} {cur : Array Value} (W : World) (hO : OwS Rp.refO 99 W (.slice A1 n c1) l f1) (hnl : n = l.length) (hn : f1.Nodup) (hbf : b ∉ f1) (hbt : W.heap[b]? = some (.cells cur 96 (0, 0))) (hi : i < l.length) (hl : l.length ≤ 4194304) :
  Calls Tryz.prog 154 #[.slice A1 n c1, .int .i64 i, .int .i64 ((i : Int) + 1)] W (RefsTo b W.heap.size f1 (.slice A1 n c1) (l.eraseIdx i) W) := by
 subst hnl
 obtain ⟨xs, f2, ho, ha, rfl⟩ := hO
 have hbl : b < W.heap.size := (Array.getElem?_eq_some_iff.1 hbt).1
 have hob : ∀ z, (Value.slice A1 l.length c1).ownBlock = some z → z ∈ vblk (.slice A1 l.length c1) := fun z hz => by unfold vblk; rw [hz]; simp
 refine (delRef_any 0 i l.length (.slice A1 l.length c1) xs W ho hi ha.one hl).mono ?_
 rintro e Wi ⟨v', rfl, ho', hg⟩
 have hbW : Wi.heap[b]? = W.heap[b]? := hg.block b hbl fun e => hbf (List.mem_append_left _ (hob b e.symm))
 obtain ⟨A, c, fr, rfl, hs, hbr⟩ := refs_del ha hn hg hi ho' rfl
 exact ⟨A, _, c, fr, rfl, hs, fun z cur t h1 h2 _ h4 => hbr z cur t h1 h2 (fun h => h4 (List.mem_append_right _ h)), hg, hbW⟩

set_option maxHeartbeats 8000000 in
set_option maxRecDepth 100000 in
theorem manage_any {b o : Nat} {p : Repo} {r : Req} {cr cs : List Value} {f fr : List Nat} {cur : Array Value} (w : World) (hc : Cells w b o cr) (hbt : w.heap[b]? = some (.cells cur 96 (0, 0))) (hbf : b ∉ f) (hn : f.Nodup) (hfr : Free w f) (hp : Rp.repoO.R w cr p f) (hr : Rp.req.R w cs r fr) (hP : RepoFit p) (hQ : ReqFit r) :
  Calls Tryz.prog 110 #[.pointer (some ⟨b, o, none⟩), .agg cs.toArray] w (Managed w b o f (manage p r).1 (manage p r).2) := by
 obtain ⟨E0, m0, d0, e0, rfl, _, hq⟩ := hr
 obtain rfl := hq.1
 have hpw := hp
 obtain ⟨A0, n0, c0, f0, v, f1, rfl, hff, h0, h1⟩ := hp
 have hnf1 : f1.Nodup := by subst hff; exact (List.nodup_append.1 hn).2.1
 have hff1 : Free w f1 := by subst hff; exact hfr.right
 have hbf1 : b ∉ f1 := by subst hff; exact fun h => hbf (List.mem_append_right _ h)
 obtain ⟨A1, c1, fs1, rfl, hs1, hsub1, hlc1, hcm1⟩ := h1.sl
 obtain ⟨fr1, hs1r, hsub1r⟩ := hs1.le le_ref
 obtain rfl := h0.1
 have hbl : b < w.heap.size := (Array.getElem?_eq_some_iff.1 hbt).1
 have hmr := hs1.max
 have hmu := h0.max
 have HB0 := (Below.refl w.heap.size w).alloc nle (.cells #[.int .i64 r.user, .int .i64 r.key, .int .i64 r.repo, .int .i64 r.kind, .string r.ref, .string r.path, .int .i64 r.old, .int .i64 r.back, .slice E0 r.edits.length d0, .int .i64 r.rule.user, .string r.rule.ref, .string r.rule.path, .bool r.rule.write, .int .i64 r.frm, .string r.other] 46)
 have kq := Blk.new w 46 #[.int .i64 r.user, .int .i64 r.key, .int .i64 r.repo, .int .i64 r.kind, .string r.ref, .string r.path, .int .i64 r.old, .int .i64 r.back, .slice E0 r.edits.length d0, .int .i64 r.rule.user, .string r.rule.ref, .string r.rule.path, .bool r.rule.write, .int .i64 r.frm, .string r.other]
 have HZ0 := hide (show (w.alloc (.cells #[.int .i64 r.user, .int .i64 r.key, .int .i64 r.repo, .int .i64 r.kind, .string r.ref, .string r.path, .int .i64 r.old, .int .i64 r.back, .slice E0 r.edits.length d0, .int .i64 r.rule.user, .string r.rule.ref, .string r.rule.path, .bool r.rule.write, .int .i64 r.frm, .string r.other] 46)).heap.size = w.heap.size + 1 by simp)
 have HCW := hide hc
 have HPW := hide hpw
 have HBL := hide hbl
 have HBF := hide hbf
 have HN := hide hn
 have HBT := hide hbt
 have HPF := hide hP
 have HQF := hide hQ
 have HFZ := hide (fun (W : World) (hb : Below w.heap.size w W) (j : Nat) => (show W.frozen? ⟨b, j, none⟩ = false from by
  have e := (hb.block b HBL.out).trans HBT.out
  simp [World.frozen?, e]))
 have HCx := hide (fun (W : World) (hb : Below w.heap.size w W) => (show W.cell? ⟨b, o, none⟩ = some (.int .i64 p.admin) ∧ W.cell? ⟨b, o + 1, none⟩ = some (.slice A0 p.rules.length c0) ∧ W.cell? ⟨b, o + 2, none⟩ = some (.slice A1 p.refs.length c1) from
  ⟨cell_step hc.at0 hb, cell_step hc.tail.at0 hb, cell_step hc.tail.tail.at0 hb⟩))
 have H0x := hide (fun (W : World) (hb : Below w.heap.size w W) => h0.step hb)
 have H1x := hide (fun (W : World) (hb : Below w.heap.size w W) => h1.step hb)
 have HSx := hide (fun (W : World) (hb : Below w.heap.size w W) => hs1r.step hb)
 have HPPx := hide (fun (W : World) (hb : Below w.heap.size w W) => Rp.repoO.below hpw hb nle)
 have HF1 := hide (show f1.Nodup ∧ Free w f1 ∧ b ∉ f1 ∧ (∀ z ∈ fr1, z ∈ f1) ∧ ∀ z ∈ f1, z ∈ f from ⟨hnf1, hff1, hbf1, fun z hz => hsub1.subset (hsub1r.subset hz), fun z hz => by subst hff; exact List.mem_append_right _ hz⟩)
 have HL := hide (show p.rules.length ≤ 6 ∧ p.refs.length ≤ 3 from ⟨hP.nrules, hP.nrefs⟩)
 clear hc hbt hbf hn hfr hpw hff h0 h1 hnf1 hff1 hbf1 hs1 hsub1 hlc1 hcm1 hs1r hsub1r hbl hP hQ hq
 go_enter Tryz.func110, Tryz.ntmps110
 go_upto_region 1 with fail
 generalize hW0 : w.alloc (.cells #[.int .i64 r.user, .int .i64 r.key, .int .i64 r.repo, .int .i64 r.kind, .string r.ref, .string r.path, .int .i64 r.old, .int .i64 r.back, .slice E0 r.edits.length d0, .int .i64 r.rule.user, .string r.rule.ref, .string r.rule.path, .bool r.rule.write, .int .i64 r.frm, .string r.other] 46) = w0 at HB0 kq HZ0 ⊢
 clear hW0
 have HKQ := hide (fun (W : World) (hb : Below w0.heap.size w0 W) => kq.step hb)
 have HB0 := hide HB0
 have HC := hide (fun (W : World) (hb : Below w0.heap.size w0 W) => HCx.out W (Below.t HB0.out hb))
 clear kq
 have a0 : w0.cell? ⟨b, o, none⟩ = some (.int .i64 p.admin) := (HC.out w0 (Below.refl _ _)).1
 have a1 : w0.cell? ⟨b, o + 1, none⟩ = some (.slice A0 p.rules.length c0) := (HC.out w0 (Below.refl _ _)).2.1
 have a2 : w0.cell? ⟨b, o + 2, none⟩ = some (.slice A1 p.refs.length c1) := (HC.out w0 (Below.refl _ _)).2.2
 have x4 := Blk.c4 (HKQ.out w0 (Below.refl _ _))
 go_upto_region 1 with fail
 go_cut [5] (fun v wx => v = .int .i64 (idxP (nameIs r.ref) p.refs) ∧ Below w0.heap.size w0 wx)
 case first =>
  go_region_law (first
   | (refine step_call rfl 117 (enters_of Tryz.func117 (by kernel_rfl) rfl) rfl _ (by simp [Act.eval, Act.put]) ((implRef_any (x := p) r.ref _ ((le_repo.2 _ _ _ _ (HPPx.out _ (Below.t HB0.out (by first | exact (Below.refl _ _).drew | exact Below.refl _ _ | exact ((Below.refl _ _).drew).alloc nle _ | exact ((Below.refl _ _).alloc nle _).drew | exact (Below.refl _ _).alloc nle _)))).choose_spec.1)).mono ?_); rintro e w2 ⟨rfl, hb2⟩; refine ⟨_, rfl, ?_⟩)
   | fail)
  all_goals
   go_wp2_with fail
   go_meet
   case rel => exact ⟨rfl, Below.past hb2⟩
 case rest =>
  obtain ⟨wz, hwz⟩ : ∃ wz, wz = wc := ⟨_, rfl⟩
  subst hwz
  obtain ⟨rfl, hb1⟩ := hcut
  have HB1 := hide hb1
  clear hb1 a0 a1 a2 x4
  have a0 : wz.cell? ⟨b, o, none⟩ = some (.int .i64 p.admin) := (HC.out wz HB1.out).1
  have a1 : wz.cell? ⟨b, o + 1, none⟩ = some (.slice A0 p.rules.length c0) := (HC.out wz HB1.out).2.1
  have a2 : wz.cell? ⟨b, o + 2, none⟩ = some (.slice A1 p.refs.length c1) := (HC.out wz HB1.out).2.2
  by_cases k4 : r.kind = 4
  ·have K4 := hide k4
   have x3 : wz.cell? ⟨w.heap.size, 3, none⟩ = some (.int .i64 4) := by rw [← k4]; exact (HKQ.out wz HB1.out).cell 3
   clear k4
   by_cases h6 : p.rules.length = 6
   ·have HE := hide (show manage p r = (p, 9) by unfold manage; rw [if_pos K4.out, if_pos h6])
    have h6i : (p.rules.length : Int) = 6 := by omega
    clear h6
    go_wp2_with fail
    go_ret
    rw [HE.out]
    exact managed_same 9 HCW.out HPW.out HBL.out (Below.t HB0.out HB1.out)
   ·have h6i : ¬ (p.rules.length : Int) = 6 := by omega
    have H6 := hide h6
    clear h6
    have x9 := Blk.c9 (HKQ.out wz HB1.out)
    have x10 := Blk.c10 (HKQ.out wz HB1.out)
    have x11 := Blk.c11 (HKQ.out wz HB1.out)
    have x12 := Blk.c12 (HKQ.out wz HB1.out)
    go_upto_region 6 with fail
    go_cut [6, 7] (fun v wv wx => ∃ A n c fr, v = .slice A n c ∧ wv = .bool (putOk p.rules r.rule) ∧ SlR Rp.rule wx A n c (rulPut p.rules r.rule) fr ∧ (∀ z ∈ fr, w.heap.size ≤ z) ∧ Below w0.heap.size w0 wx)
    case first =>
     go_region_law (first
      | (refine step_call rfl 151 (enters_of Tryz.func151 (by kernel_rfl) rfl) rfl _ (by simp [Act.eval, Act.put, encRule]) ((implRulPut_any (l := p.rules) r.rule _ (H0x.out _ (Below.t HB0.out (Below.t HB1.out (by first | exact (Below.refl _ _).drew | exact Below.refl _ _ | exact ((Below.refl _ _).drew).alloc nle _ | exact ((Below.refl _ _).alloc nle _).drew | exact (Below.refl _ _).alloc nle _)))) (by have := HL.out.1; omega) HPF.out.rules HQF.out.rule).mono ?_); rintro e w4 ⟨v4, rfl, ho4, hb4⟩; refine ⟨_, rfl, ?_⟩)
      | fail)
     all_goals
      go_wp2_with fail
      go_meet
      case rel => (obtain ⟨A4, c4, f4, hv4, hs4, hl4, _, _⟩ := own_sl (k := 4) (enc := encRule) (hk := fun _ => rfl) (h1 := encRule_one) ho4; exact ⟨A4, _, c4, f4, hv4, rfl, hs4, fun z hz => Nat.le_trans (Below.t HB0.out (Below.t HB1.out (Below.refl _ _))).size (hl4 z hz), Below.t HB1.out (Below.past hb4)⟩)
    case rest =>
     obtain ⟨wz, hwz⟩ : ∃ wz, wz = wc := ⟨_, rfl⟩
     subst hwz
     obtain ⟨A4, n4, c4, f4, rfl, rfl, hs4, hl4, hb4⟩ := hcut
     have HB4 := hide hb4
     have HS4 := hide hs4
     have HL4 := hide hl4
     clear hb4 hs4 hl4 a0 a1 a2 x3 x9 x10 x11 x12
     cases hok : putOk p.rules r.rule
     ·have HE := hide (show manage p r = (p, 7) by unfold manage; rw [if_pos K4.out, if_neg H6.out]; simp [hok])
      clear hok
      go_wp2_with fail
      go_ret
      rw [HE.out]
      exact managed_same 7 HCW.out HPW.out HBL.out (Below.t HB0.out HB4.out)
     ·have HE := hide (show manage p r = ({ p with rules := rulPut p.rules r.rule }, 1) by unfold manage; rw [if_pos K4.out, if_neg H6.out]; simp [hok])
      clear hok
      have a0 : wz.cell? ⟨b, o, none⟩ = some (.int .i64 p.admin) := (HC.out wz HB4.out).1
      have a1 : wz.cell? ⟨b, o + 1, none⟩ = some (.slice A0 p.rules.length c0) := (HC.out wz HB4.out).2.1
      have a2 : wz.cell? ⟨b, o + 2, none⟩ = some (.slice A1 p.refs.length c1) := (HC.out wz HB4.out).2.2
      have y1 : wz.frozen? ⟨b, o + 1, none⟩ = false := HFZ.out wz (Below.t HB0.out HB4.out) (o + 1)
      go_wp2_with fail
      go_ret
      rw [HE.out]
      exact managed_rules 1 HCW.out HPW.out HBL.out HBF.out (Below.t HB0.out HB4.out) HS4.out HL4.out
  have K4 := hide k4
  by_cases k5 : r.kind = 5
  ·have K5 := hide k5
   have x3 : wz.cell? ⟨w.heap.size, 3, none⟩ = some (.int .i64 5) := by rw [← k5]; exact (HKQ.out wz HB1.out).cell 3
   clear k5 k4
   have x9 := Blk.c9 (HKQ.out wz HB1.out)
   have x10 := Blk.c10 (HKQ.out wz HB1.out)
   have x11 := Blk.c11 (HKQ.out wz HB1.out)
   have x12 := Blk.c12 (HKQ.out wz HB1.out)
   go_upto_region 12 with fail
   go_cut [8, 9] (fun v wv wx => ∃ A n c fr, v = .slice A n c ∧ wv = .bool (decide ((rulOut p.rules r.rule).length < p.rules.length)) ∧ SlR Rp.rule wx A n c (rulOut p.rules r.rule) fr ∧ (∀ z ∈ fr, w.heap.size ≤ z) ∧ Below w0.heap.size w0 wx)
   case first =>
    go_region_law (first
     | (refine step_call rfl 152 (enters_of Tryz.func152 (by kernel_rfl) rfl) rfl _ (by simp [Act.eval, Act.put, encRule]) ((implRulOut_any (l := p.rules) r.rule _ (H0x.out _ (Below.t HB0.out (Below.t HB1.out (by first | exact (Below.refl _ _).drew | exact Below.refl _ _ | exact ((Below.refl _ _).drew).alloc nle _ | exact ((Below.refl _ _).alloc nle _).drew | exact (Below.refl _ _).alloc nle _)))) (by have := HL.out.1; omega)).mono ?_); rintro e w4 ⟨v4, rfl, ho4, hb4⟩; refine ⟨_, rfl, ?_⟩)
     | fail)
    all_goals
     go_wp2_with fail
     go_meet
     case rel => (obtain ⟨A4, c4, f4, hv4, hs4, hl4, _, _⟩ := own_sl (k := 4) (enc := encRule) (hk := fun _ => rfl) (h1 := encRule_one) ho4; exact ⟨A4, _, c4, f4, hv4, rfl, hs4, fun z hz => Nat.le_trans (Below.t HB0.out (Below.t HB1.out (Below.refl _ _))).size (hl4 z hz), Below.t HB1.out (Below.past hb4)⟩)
   case rest =>
    obtain ⟨wz, hwz⟩ : ∃ wz, wz = wc := ⟨_, rfl⟩
    subst hwz
    obtain ⟨A4, n4, c4, f4, rfl, rfl, hs4, hl4, hb4⟩ := hcut
    have HB4 := hide hb4
    have HS4 := hide hs4
    have HL4 := hide hl4
    clear hb4 hs4 hl4 a0 a1 a2 x3 x9 x10 x11 x12
    cases hok : decide ((rulOut p.rules r.rule).length < p.rules.length)
    ·have HE := hide (show manage p r = (p, 7) by unfold manage; rw [if_neg K4.out, if_pos K5.out]; rw [if_neg (by simpa using hok)])
     clear hok
     go_wp2_with fail
     go_ret
     rw [HE.out]
     exact managed_same 7 HCW.out HPW.out HBL.out (Below.t HB0.out HB4.out)
    ·have HE := hide (show manage p r = ({ p with rules := rulOut p.rules r.rule }, 1) by unfold manage; rw [if_neg K4.out, if_pos K5.out]; rw [if_pos (by simpa using hok)])
     clear hok
     have a0 : wz.cell? ⟨b, o, none⟩ = some (.int .i64 p.admin) := (HC.out wz HB4.out).1
     have a1 : wz.cell? ⟨b, o + 1, none⟩ = some (.slice A0 p.rules.length c0) := (HC.out wz HB4.out).2.1
     have a2 : wz.cell? ⟨b, o + 2, none⟩ = some (.slice A1 p.refs.length c1) := (HC.out wz HB4.out).2.2
     have y1 : wz.frozen? ⟨b, o + 1, none⟩ = false := HFZ.out wz (Below.t HB0.out HB4.out) (o + 1)
     go_wp2_with fail
     go_ret
     rw [HE.out]
     exact managed_rules 1 HCW.out HPW.out HBL.out HBF.out (Below.t HB0.out HB4.out) HS4.out HL4.out
  have K5 := hide k5
  rcases idxP_at (nameIs r.ref) p.refs with ⟨hn, he⟩ | ⟨k, hn, hk, he⟩
  ·rw [he]
   clear he
   have HNF := hide (show refIdx p.refs r.ref = none from hn)
   clear hn
   by_cases k6 : r.kind = 6
   ·have K6 := hide k6
    have x3 : wz.cell? ⟨w.heap.size, 3, none⟩ = some (.int .i64 6) := by rw [← k6]; exact (HKQ.out wz HB1.out).cell 3
    clear k6 k5 k4
    have x4 := Blk.c4 (HKQ.out wz HB1.out)
    have hie : r.ref.toList.isEmpty = decide (r.ref = ByteArray.empty) := isEmpty_eq r.ref
    cases hbz : decide (r.ref = ByteArray.empty)
    ·have HBZ := hide (of_decide_eq_false hbz)
     rw [hbz] at hie
     clear hbz
     by_cases h3 : p.refs.length = 3
     ·have HE := hide (show manage p r = (p, 9) by unfold manage; rw [if_neg K4.out, if_neg K5.out, HNF.out]; simp only [if_pos K6.out, if_neg HBZ.out, if_pos h3])
      have h3i : (p.refs.length : Int) = 3 := by omega
      clear h3
      go_wp2_with fail
      go_ret
      rw [HE.out]
      exact managed_same 9 HCW.out HPW.out HBL.out (Below.t HB0.out HB1.out)
     ·have HE := hide (show manage p r = ({ p with refs := insBy (fun x => bLt x.name r.ref) ⟨r.ref, false, 0, [[]]⟩ p.refs }, 1) by unfold manage; rw [if_neg K4.out, if_neg K5.out, HNF.out]; simp only [if_pos K6.out, if_neg HBZ.out, if_neg h3])
      have h3i : ¬ (p.refs.length : Int) = 3 := by omega
      clear h3
      go_wp2_with fail
      clear hie h3i x3 x4 a0 a1 a2
      go_loopw [5] (fun a wr => ∃ m : Nat, m ≤ p.refs.length ∧ a = .int .i64 m ∧ lessR p.refs r.ref m ∧ Below w0.heap.size w0 wr) (fun a _ => p.refs.length - (intOf a).toNat)
      case atStart => exact ⟨0, Nat.zero_le _, rfl, lessR.zero, HB1.out⟩
      case round =>
       obtain ⟨wp, hwp⟩ : ∃ wp, wp = wr := ⟨_, rfl⟩
       subst hwp
       obtain ⟨m, hm', rfl, hless, hbi⟩ := hrel
       have HLS := hide hless
       have HBI := hide hbi
       clear hless hbi
       have a2 : wp.cell? ⟨b, o + 2, none⟩ = some (.slice A1 p.refs.length c1) := (HC.out wp HBI.out).2.2
       have x4 := Blk.c4 (HKQ.out wp HBI.out)
       have j0 : (0 : Int) ≤ (m : Int) := by omega
       by_cases hyes : ∃ hms : m < p.refs.length, bLt p.refs[m].name r.ref = true
       ·obtain ⟨hms, hd⟩ := hyes
        have j1 : (m : Int) < (p.refs.length : Int) := by omega
        obtain ⟨bR, oR, B9, m9, d9, g9, rfl, hbR, hmR, q0, q1, q2, q3, _, _⟩ := ref_cells (HSx.out wp (Below.t HB0.out HBI.out)) hms
        have HNX := hide (HLS.out.next hms hd)
        unfold bLt at hd
        clear hbR hmR q1 q2 q3
        go_wp2_with fail
        go_quiet (fail)
        go_wp2
        exact ⟨⟨m + 1, by omega, by go_num, HNX.out, Below.drewN' HBI.out _⟩, by simp [intOf]; omega⟩
       ·have HNX := hide (show ∀ hi : m < p.refs.length, bLt p.refs[m].name r.ref = false from fun hi => by
         cases hd : bLt p.refs[m].name r.ref
         ·rfl
         ·exact absurd ⟨hi, hd⟩ hyes)
        clear hyes
        by_cases hlm : m < p.refs.length
        case' pos =>
         obtain ⟨bR, oR, B9, m9, d9, g9, rfl, hbR, hmR, q0, q1, q2, q3, _, _⟩ := ref_cells (HSx.out wp (Below.t HB0.out HBI.out)) hlm
         have j1 : (m : Int) < (p.refs.length : Int) := by omega
         have hd := HNX.out hlm
         unfold bLt at hd
         clear hbR hmR q1 q2 q3
         go_wp2_with fail
         go_quiet (fail)
         clear hd q0 j1
        case' neg =>
         have j1 : ¬ (m : Int) < (p.refs.length : Int) := by omega
         go_wp2_with fail
         go_quiet (fail)
         clear j1
        all_goals
         have HBX := hide (Below.drewN' HBI.out nq)
         generalize hwx : wp.drewN nq = wx at HBX ⊢
         clear hwx HBI a2 x4
         have HINS := hide (show p.refs.take m ++ ⟨r.ref, false, 0, [[]]⟩ :: p.refs.drop m = insBy (fun x => bLt x.name r.ref) ⟨r.ref, false, 0, [[]]⟩ p.refs from
          (insBy_at (lt := fun x : Ref => bLt x.name r.ref) (x := ⟨r.ref, false, 0, [[]]⟩) (l := p.refs) (k := m) HLS.out hm' HNX.out).symm)
         have a2 : wx.cell? ⟨b, o + 2, none⟩ = some (.slice _ p.refs.length c1) := (HC.out wx HBX.out).2.2
         have x4 := Blk.c4 (HKQ.out wx HBX.out)
         have HSZW := hide (Below.t HB0.out HBX.out).size
         have HO := hide (H1x.out wx (Below.t HB0.out HBX.out))
         have HBTX := hide (((Below.t HB0.out HBX.out).block b HBL.out).trans HBT.out)
         have g4 := fun (y : Obj) => cell_alloc x4 y
         have g2 := fun (y : Obj) => cell_alloc a2 y
         have g22 := fun (y z : Obj) => cell_alloc (cell_alloc a2 y) z
         clear HSx H1x
         go_wp2_with fail
         refine wp_stay fun K hK => ?_
         have HKK := hide hK
         clear hK
         go_region_law (first
          | (refine step_call rfl 153 (enters_of Tryz.func153 (by kernel_rfl) rfl) rfl _ (by simp [Act.eval, Act.put]) ((ins_ref_call (b := b) (l := p.refs) (nb := wx.heap.size) (vb := wx.heap.size + 1) _ HO.out rfl HF1.out.1 HF1.out.2.2.1 HBTX.out (by repeat' first | exact Below.refl _ _ | apply Below.drew | (refine Below.alloc ?_ (by simp) _)) (by first | exact (Blk.new' rfl _ _).alloc _ | exact (Blk.new' (by simp) _ _).alloc _) (by first | exact Blk.new' rfl _ _ | exact Blk.new' (by simp) _ _) (by simp) (by simp) hm' (by have := HL.out.2; omega)).mono ?_); rintro e w6 ⟨A6, n6, c6, f6, rfl, hs6, hn6, hg6, hb6⟩; refine ⟨_, rfl, ?_⟩; have HS6 := hide hs6; have HN6 := hide hn6; have HG6 := hide hg6; have HB6 := hide (hb6.trans ((show Below wx.heap.size wx _ by repeat' first | exact Below.refl _ _ | apply Below.drew | (refine Below.alloc ?_ (by simp) _)).block b (Nat.lt_of_lt_of_le HBL.out (Below.t HB0.out HBX.out).size))); clear hs6 hn6 hg6 hb6 g4 g2 g22; have z2 : w6.cell? ⟨b, o + 2, none⟩ = some (.slice _ p.refs.length c1) := (World.cell?_of_block (a := ⟨b, o + 2, none⟩) HB6.out).trans a2; have zf : w6.frozen? ⟨b, o + 2, none⟩ = false := by have e := HB6.out.trans HBTX.out; simp [World.frozen?, e])
          | fail)
         all_goals
          refine HKK.out _ _ ?_
          clear HKK K
          go_wp2_with fail
          go_ret
          rw [HE.out, ← HINS.out]
          exact managed_refs 1 HCW.out HPW.out HN.out HBF.out HBT.out (Below.t HB0.out (Below.t HBX.out (by repeat' first | exact Below.refl _ _ | apply Below.drew | (refine Below.alloc ?_ (by simp) _)))) HG6.out HS6.out (fun z cur t h1 h2 h3 h4 => HN6.out z cur t h1 h2 (Nat.lt_of_lt_of_le h3 HSZW.out) (fun h => h4 (HF1.out.2.2.2.2 z h)))
    ·have HBZ := hide (of_decide_eq_true hbz)
     rw [hbz] at hie
     clear hbz
     have HE := hide (show manage p r = (p, 7) by unfold manage; rw [if_neg K4.out, if_neg K5.out, HNF.out]; simp only [if_pos K6.out, if_pos HBZ.out])
     go_wp2_with fail
     go_ret
     rw [HE.out]
     exact managed_same 7 HCW.out HPW.out HBL.out (Below.t HB0.out HB1.out)
   ·have K6 := hide k6
    have HE := hide (show manage p r = (p, 5) by unfold manage; rw [if_neg K4.out, if_neg K5.out, HNF.out]; simp only [if_neg K6.out])
    have x3 := Blk.c3 (HKQ.out wz HB1.out)
    go_wp2_with fail
    go_ret
    rw [HE.out]
    exact managed_same 5 HCW.out HPW.out HBL.out (Below.t HB0.out HB1.out)
  ·rw [he]
   clear he
   have HNF := hide (show refIdx p.refs r.ref = some k from hn)
   clear hn
   have i0 : (0 : Int) ≤ (k : Int) := by omega
   have i1 : (k : Int) < (p.refs.length : Int) := by omega
   have i2 : ¬ (k : Int) < 0 := by omega
   by_cases k6 : r.kind = 6
   ·have K6 := hide k6
    have HE := hide (show manage p r = (p, 7) by unfold manage; rw [if_neg K4.out, if_neg K5.out, HNF.out]; simp only [if_pos K6.out])
    have x3 : wz.cell? ⟨w.heap.size, 3, none⟩ = some (.int .i64 6) := by rw [← k6]; exact (HKQ.out wz HB1.out).cell 3
    clear k6 k5 k4
    go_wp2_with fail
    go_ret
    rw [HE.out]
    exact managed_same 7 HCW.out HPW.out HBL.out (Below.t HB0.out HB1.out)
   have K6 := hide k6
   obtain ⟨bR, oR, B9, m9, d9, g9, rfl, hbR, hmR, q0, q1, q2, q3, _, _⟩ := ref_cells (HSx.out wz (Below.t HB0.out HB1.out)) hk
   have yR : wz.frozen? ⟨bR, oR + k * 4 + 1, none⟩ = false := Free.frozen (HF1.out.2.1.step (Below.t HB0.out HB1.out)) (HF1.out.2.2.2.1 _ hmR) _
   clear hbR hmR q0 q2 q3
   by_cases k8 : r.kind = 8
   ·have K8 := hide k8
    have HE := hide (show manage p r = ({ p with refs := p.refs.set k { p.refs[k] with guard := !p.refs[k].guard } }, 1) by unfold manage; rw [if_neg K4.out, if_neg K5.out, HNF.out]; simp only [if_neg K6.out, if_pos K8.out, getD_at hk])
    have x3 : wz.cell? ⟨w.heap.size, 3, none⟩ = some (.int .i64 8) := by rw [← k8]; exact (HKQ.out wz HB1.out).cell 3
    clear k8 k6 k5 k4
    go_wp2_with fail
    refine wp_stay fun K hK => ?_
    have HKK := hide hK
    clear hK
    go_region_law (first
     | fail)
    all_goals
     refine HKK.out _ _ ?_
     clear HKK K
     go_wp2_with fail
     go_ret
     rw [HE.out]
     exact managed_guard 1 HCW.out HPW.out HN.out HBL.out HBF.out (Below.t HB0.out (Below.t HB1.out (Below.refl _ _).drew)) hk
   have K8 := hide k8
   have x3 := Blk.c3 (HKQ.out wz HB1.out)
   cases hg : p.refs[k].guard
   ·rw [hg] at q1
    have HE := hide (show manage p r = ({ p with refs := p.refs.eraseIdx k }, 1) by unfold manage; rw [if_neg K4.out, if_neg K5.out, HNF.out]; simp only [if_neg K6.out, if_neg K8.out, getD_at hk, hg]; rfl)
    have HSZW := hide (Below.t HB0.out HB1.out).size
    have hw : IntKind.i64.wrap ((k : Int) + 1) = (k : Int) + 1 := IntWalk.i64_in _ (by have := HL.out.2; omega)
    clear hg
    go_wp2_with fail
    refine (del_ref_call (b := b) (l := p.refs) _ (H1x.out wz (Below.t HB0.out HB1.out)) rfl HF1.out.1 HF1.out.2.2.1 (((Below.t HB0.out HB1.out).block b HBL.out).trans HBT.out) hk (by have := HL.out.2; omega)).mono ?_
    rintro e w6 ⟨A6, n6, c6, f6, rfl, hs6, hn6, hg6, hb6⟩
    have HS6 := hide hs6
    have HN6 := hide hn6
    have HG6 := hide hg6
    have HB6 := hide hb6
    clear hs6 hn6 hg6 hb6
    have z2 : w6.cell? ⟨b, o + 2, none⟩ = some (.slice _ p.refs.length c1) := (World.cell?_of_block (a := ⟨b, o + 2, none⟩) HB6.out).trans a2
    have zf : w6.frozen? ⟨b, o + 2, none⟩ = false := by have e := HB6.out.trans (((Below.t HB0.out HB1.out).block b HBL.out).trans HBT.out); simp [World.frozen?, e]
    go_wp2_with fail
    go_ret
    rw [HE.out]
    exact managed_refs 1 HCW.out HPW.out HN.out HBF.out HBT.out (Below.t HB0.out HB1.out) HG6.out HS6.out (fun z cur t h1 h2 h3 h4 => HN6.out z cur t h1 h2 (Nat.lt_of_lt_of_le h3 HSZW.out) (fun h => h4 (HF1.out.2.2.2.2 z h)))
   ·rw [hg] at q1
    have HE := hide (show manage p r = (p, 8) by unfold manage; rw [if_neg K4.out, if_neg K5.out, HNF.out]; simp only [if_neg K6.out, if_neg K8.out, getD_at hk, hg]; rfl)
    clear hg
    go_wp2_with fail
    go_ret
    rw [HE.out]
    exact managed_same 8 HCW.out HPW.out HBL.out (Below.t HB0.out HB1.out)
def Did (w : World) (ch : List Value) (fp : List Nat) (o : House × Ans) (e : Ending) (w' : World) : Prop :=
 ∃ av f, e = .returned (.agg av.toArray) ∧ Rp.ans.R w' av o.2 f ∧ f.Nodup ∧ (∀ z ∈ f, w.heap.size ≤ z) ∧ Free w' f ∧ (∃ fp', Rp.house.R w' ch o.1 fp') ∧ Only fp w w'
theorem ans_code (k : Int) (w : World) : Rp.ans.R w [.int .i64 k, .slice none 0 0, .slice none 0 0, .int .i64 0] (code k) [] := ⟨none, 0, 0, [], none, 0, 0, [], rfl, rfl, SlR.nil, SlR.nil⟩
theorem did_same {w W WW : World} {ch av : List Value} {m : House} {a : Ans} {fp f : List Nat} {g : Nat} (hh : Rp.houseO.R w ch m fp) (hB : Below w.heap.size w W) (hO : Only [g] W WW) (hg : w.heap.size ≤ g) (ha : Rp.ans.R WW av a f) (hn : f.Nodup) (hl : ∀ z ∈ f, w.heap.size ≤ z) (hf : Free WW f) :
  Did w ch fp (m, a) (.returned (.agg av.toArray)) WW := by
 have hb := below_only hB hO hg
 obtain ⟨f', hf', _⟩ := le_house.2 _ _ _ _ (Rp.houseO.below hh hb nle)
 exact ⟨av, f, rfl, ha, hn, hl, hf, ⟨f', hf'⟩, Only.of_below hb _⟩
theorem did_wrote {w wc W W2 WW : World} {ch : List Value} {m' : House} {fp : List Nat} {k : Int} {g : Nat} {e : Ending} {cs : Array Value} (hfp : ∀ z ∈ fp, z < w.heap.size) (hB : Below w.heap.size w wc) (hw : Wrote wc ch fp m' k e W) (hka : Blk wc g 39 cs) (hB2 : Below W.heap.size W W2) (hO : Only [g] W2 WW) (hg : w.heap.size ≤ g) :
  Did w ch fp (m', code k) (.returned (.agg #[.int .i64 k, .slice none 0 0, .slice none 0 0, .int .i64 0])) WW := by
 obtain ⟨_, ⟨fq, hq, hcl⟩, ho⟩ := hw
 have hgf : g ∉ fp := fun h => by have := hfp g h; omega
 have hgW : W.heap[g]? = some (.cells cs 39 (0, 0)) := (ho.block g hka.lt hgf).trans hka.out
 have hgq : g ∉ fq := hcl g cs hgW hka.lt hgf
 refine ⟨[.int .i64 k, .slice none 0 0, .slice none 0 0, .int .i64 0], [], rfl, ans_code k _, List.nodup_nil, by simp, Free.nil _, ⟨fq, ?_⟩, ?_⟩
 ·exact Rp.house.keep hq fun z hz => (hO.block z (Nat.lt_of_lt_of_le (Rp.house.lt hq z hz) hB2.size) (by simp; rintro rfl; exact hgq hz)).trans (hB2.block z (Rp.house.lt hq z hz))
 ·refine ⟨hO.os.trans (hB2.os.trans (ho.os.trans hB.os)), hO.tape.trans (hB2.tape.trans (ho.tape.trans hB.tape)), hO.output.trans (hB2.output.trans (ho.output.trans hB.output)), Nat.le_trans hB.size (Nat.le_trans ho.size (Nat.le_trans hB2.size hO.size)), fun z hz hm => ?_⟩
  have h1 := Nat.lt_of_lt_of_le hz hB.size
  have h2 := Nat.lt_of_lt_of_le h1 ho.size
  exact (hO.block z (Nat.lt_of_lt_of_le h2 hB2.size) (by simp; omega)).trans ((hB2.block z h2).trans ((ho.block z h1 hm).trans (hB.block z hz)))
theorem wrote_managed {w wc W : World} {ch : List Value} {m : House} {fp : List Nat} {i : Nat} {p' : Repo} {k : Int} {e : Ending} {b : Nat} {f f1 : List Nat} {A1 : Option Addr} {n1 c1 : Nat} (hfp : ∀ z ∈ fp, z < w.heap.size) (hB : Below w.heap.size w wc) (hm : Managed wc b (i * 3) f p' k e W) (hsub : ∀ z ∈ f, z ∈ fp) (hbm : b ∈ fp) (h1 : SlR Rp.int w A1 n1 c1 m.used f1) (hd1 : ∀ z ∈ f1, z ∈ fp ∧ z ≠ b ∧ z ∉ f)
  (hcl : ∀ (w' : World) (cr' : List Value) (y : Repo) (f' : List Nat) (u' : List Int) (fu : List Nat), (∀ j, j < i * 3 ∨ i * 3 + 3 ≤ j → w'.cell? ⟨b, j, none⟩ = w.cell? ⟨b, j, none⟩) → b < w'.heap.size →
    Cells w' b (i * 3) cr' → Rp.repo.R w' cr' y f' → SlR Rp.int w' A1 n1 c1 u' fu → (∀ z ∈ fp, z ≠ b → z ∉ f → z ∉ f1 → w'.heap[z]? = w.heap[z]?) → ∃ fp', Rp.house.R w' ch ⟨m.keys, u', m.repos.set i y⟩ fp' ∧ ∀ z ∈ fp', z ∈ fp ∨ z ∈ f' ∨ z ∈ fu) :
  Wrote wc ch fp { m with repos := m.repos.set i p' } k e W := by
 obtain ⟨he, cr', f', hc, hr, hclr, hj, ho⟩ := hm
 have hblk : ∀ z, z < w.heap.size → z ≠ b → z ∉ f → W.heap[z]? = w.heap[z]? := fun z hz hzb hzf => (ho.block z (Nat.lt_of_lt_of_le hz hB.size) (by simp [hzb, hzf])).trans (hB.block z hz)
 obtain ⟨fq, hq, hqm⟩ := hcl W cr' p' f' m.used f1 (fun j hj' => (hj j hj').trans (World.cell?_of_block (a := ⟨b, j, none⟩) (hB.block b (hfp b hbm)))) (Nat.lt_of_lt_of_le (hfp b hbm) (Nat.le_trans hB.size ho.size)) hc hr (h1.keep fun z hz => hblk z (hfp z (hd1 z hz).1) (hd1 z hz).2.1 (hd1 z hz).2.2)
  fun z hz hzb hzf _ => hblk z (hfp z hz) hzb hzf
 refine ⟨he, ⟨fq, hq, fun z cur hz hzl hzn hm => ?_⟩, ho.mono fun x hx => ?_⟩
 ·rcases hqm z hm with hm | hm | hm
  ·exact hzn hm
  ·exact hclr z cur hz hzl (fun h => hzn (hsub z h)) hm
  ·exact hzn (hd1 z hm).1
 ·rcases List.mem_cons.1 hx with hx | hx
  ·exact .inl (hx ▸ hbm)
  ·exact .inl (hsub x hx)

def seen (p : Repo) (r : Req) (k : Nat) : List ByteArray := ((p.refs.take k).map (·.name)).filter fun n => rulSees p.rules r.user n
theorem seen_all (p : Repo) (r : Req) : refsAns p r = ⟨1, [], seen p r p.refs.length, 0⟩ := by unfold refsAns seen; rw [List.take_length]
theorem seen_yes {p : Repo} {r : Req} {k : Nat} (hk : k < p.refs.length) (h : rulSees p.rules r.user p.refs[k].name = true) : seen p r (k + 1) = seen p r k ++ [p.refs[k].name] := by
 unfold seen; rw [List.take_succ_eq_append_getElem hk, List.map_append, List.filter_append]; simp [h]
theorem seen_no {p : Repo} {r : Req} {k : Nat} (hk : k < p.refs.length) (h : rulSees p.rules r.user p.refs[k].name = false) : seen p r (k + 1) = seen p r k := by
 unfold seen; rw [List.take_succ_eq_append_getElem hk, List.map_append, List.filter_append]; simp [h]
theorem seen_le (p : Repo) (r : Req) (k : Nat) : (seen p r k).length ≤ p.refs.length := by
 unfold seen
 refine Nat.le_trans (List.length_filter_le _ _) ?_
 rw [List.length_map]
 exact List.length_take_le' _ _
def SeenTo (w0 wc : World) (p : Repo) (r : Req) (k : Nat) (wr : World) : Prop :=
 ∃ v, Blk wr wc.heap.size 39 #[.int .i64 1, .slice none 0 0, v, .int .i64 0] ∧ wr.ownsRow (wc.heap.size + 1) 9 1 v (seen p r k).length ((seen p r k).flatMap fun s => [.string s]) ∧ Below w0.heap.size w0 wr ∧ wc.heap.size < wr.heap.size
theorem infoC_Str : (Tryz.prog.info? 9).map (fun i => (i.zero, i.size, i.bytes)) = some (some (.string ByteArray.empty), 1, 16) := by kernel_rfl

set_option maxHeartbeats 16000000 in
set_option maxRecDepth 100000 in
theorem do_any {g : Nat} {m : House} {r : Req} {ch cs : List Value} {fp fr : List Nat} (w : World) (hc : Cells w g 0 ch) (hgm : g ∉ fp) (hh : Rp.houseO.R w ch m fp) (hn : fp.Nodup) (hf : Free w fp) (hr : Rp.req.R w cs r fr) (hok : mdlOk m = true) (hrq : reqOk r = true) :
  Calls Tryz.prog 49 #[.pointer (some ⟨g, 0, none⟩), .agg cs.toArray] w (Did w ch fp (doIt m r)) := by
 obtain ⟨fh, hm, hfhs⟩ := le_house.2 _ _ _ _ hh
 obtain ⟨E0, m0, d0, e0, rfl, hfe, hq⟩ := hr
 obtain rfl := hq.1
 have hm0 := hm
 obtain ⟨A0, n0, c0, f0, A1, n1, c1, f1, A2, n2, c2, f2, rfl, hff, h0, h1, h2⟩ := hm
 obtain rfl := h0.1
 obtain rfl := h1.1
 obtain rfl := h2.1
 have hmx := h2.max
 have hmq := hq.max
 have HB0 := (((Below.refl w.heap.size w).alloc nle (.cells #[.int .i64 r.user, .int .i64 r.key, .int .i64 r.repo, .int .i64 r.kind, .string r.ref, .string r.path, .int .i64 r.old, .int .i64 r.back, .slice E0 r.edits.length d0, .int .i64 r.rule.user, .string r.rule.ref, .string r.rule.path, .bool r.rule.write, .int .i64 r.frm, .string r.other] 46)).alloc (by simp) (.cells #[.int .i64 0, .slice none 0 0, .slice none 0 0, .int .i64 0] 39))
 have kq := (Blk.new w 46 #[.int .i64 r.user, .int .i64 r.key, .int .i64 r.repo, .int .i64 r.kind, .string r.ref, .string r.path, .int .i64 r.old, .int .i64 r.back, .slice E0 r.edits.length d0, .int .i64 r.rule.user, .string r.rule.ref, .string r.rule.path, .bool r.rule.write, .int .i64 r.frm, .string r.other]).alloc (.cells #[.int .i64 0, .slice none 0 0, .slice none 0 0, .int .i64 0] 39)
 have ka := Blk.new' (w := w.alloc (.cells #[.int .i64 r.user, .int .i64 r.key, .int .i64 r.repo, .int .i64 r.kind, .string r.ref, .string r.path, .int .i64 r.old, .int .i64 r.back, .slice E0 r.edits.length d0, .int .i64 r.rule.user, .string r.rule.ref, .string r.rule.path, .bool r.rule.write, .int .i64 r.frm, .string r.other] 46)) (H := w.heap.size + 1) (by simp) 39 #[.int .i64 0, .slice none 0 0, .slice none 0 0, .int .i64 0]
 have HHO := hide hh
 have HNO := hide hn
 have HFO := hide hf
 have HGM := hide hgm
 have HCG := hide hc
 have HOK := hide hok
 have HRQ := hide hrq
 have HQF := hide (ReqFit.of hrq)
 have HPF := hide (show ∀ p ∈ m.repos, RepoFit p from fun p hp => RepoFit.of ((mdlOk_iff.1 hok).2.2 p hp))
 have hu99 := HQF.out.ints
 have HUL := hide ((usersOk_iff.1 (mdlOk_iff.1 hok).1).2.1)
 have HCx := hide (fun (W : World) (hb : Below w.heap.size w W) => (show W.cell? ⟨g, 0, none⟩ = some (.slice A0 m.keys.length c0) ∧ W.cell? ⟨g, 1, none⟩ = some (.slice A1 m.used.length c1) ∧ W.cell? ⟨g, 2, none⟩ = some (.slice A2 m.repos.length c2) from
  ⟨cell_step (by simpa using hc.at0) hb, cell_step (by simpa using hc.tail.at0) hb, cell_step (by simpa using hc.tail.tail.at0) hb⟩))
 have HKx := hide (fun (W : World) (hb : Below w.heap.size w W) => h0.step hb)
 have HUx := hide (fun (W : World) (hb : Below w.heap.size w W) => h1.step hb)
 have HRx := hide (fun (W : World) (hb : Below w.heap.size w W) => h2.step hb)
 have HEx := hide (fun (W : World) (hb : Below w.heap.size w W) => hq.step hb)
 have HHx := hide (fun (W : World) (hb : Below w.heap.size w W) => Rp.house.below hm0 hb nle)
 have HGL := hide (World.block_lt_of_cell? w _ hc.at0)
 clear hc hm0 hff h0 h1 h2 hq hfe hfhs hh hn hf hgm hok hrq
 go_enter Tryz.func49, Tryz.ntmps49
 go_upto_region 1 with fail
 generalize hW0 : (w.alloc (.cells #[.int .i64 r.user, .int .i64 r.key, .int .i64 r.repo, .int .i64 r.kind, .string r.ref, .string r.path, .int .i64 r.old, .int .i64 r.back, .slice E0 r.edits.length d0, .int .i64 r.rule.user, .string r.rule.ref, .string r.rule.path, .bool r.rule.write, .int .i64 r.frm, .string r.other] 46)).alloc (.cells #[.int .i64 0, .slice none 0 0, .slice none 0 0, .int .i64 0] 39) = w0 at HB0 kq ka ⊢
 clear hW0
 have HKQ := hide (fun (W : World) (hb : Below w0.heap.size w0 W) => kq.step hb)
 have HKA := hide (fun (W : World) (hb : Below w0.heap.size w0 W) => ka.step hb)
 have HB0 := hide HB0
 clear kq ka
 obtain ⟨a0, a1, a2⟩ := HCx.out w0 HB0.out
 have x0 := Blk.c0 (HKQ.out w0 (Below.refl _ _))
 have x1 := Blk.c1 (HKQ.out w0 (Below.refl _ _))
 have C1 := fun W (h : SlR Rp.int W A0 m.keys.length c0 m.keys f0) => knows_any r.user r.key W h
 have hkx := HKx.out w0 HB0.out
 cases hkn : knows m.keys r.user r.key
 ·have HKN := hide hkn
  simp only [hkn] at C1
  have D1 := hide C1
  clear C1 hkn
  go_wp2_with fail
  have n0 := BelowW.nonempty w0
  have e0 := BelowW.ex (w := w0)
  have g_a0 := fun n : BelowW w0 => n.cell a0
  have g_x0 := fun n : BelowW w0 => n.cell x0
  have g_x1 := fun n : BelowW w0 => n.cell x1
  clear a0 x0 x1
  refine wp_region_below (by kernel_rfl) (by kernel_rfl) ?_
  repeat (go_big_quiet_step (first | (go_at_call 104; exact BelowW.calls _ (D1.out _ (BelowW.sl _ hkx)))))
  refine wpQuiet_nil ?_
  rintro w4 ⟨m4, hw4⟩
  have hb4 := m4.property
  rw [← hw4] at hb4
  clear hw4 m4 e0 g_a0 g_x0 g_x1
  have HB1 := hide hb4
  clear hb4 hkx D1 a1 a2
  have HE := hide (show doIt m r = (m, code 2) by unfold doIt; rw [HKN.out]; rfl)
  go_wp2_with fail
  refine (code_any 2 _).mono ?_
  rintro e wc ⟨rfl, hbc⟩
  have HBC := hide (Below.t HB1.out hbc)
  clear hbc
  have ka := HKA.out wc HBC.out
  have y0 := blk_frozen ka 0
  have d0 := Blk.c0 ka
  have y1 := blk_frozen ka 1
  have d1 := Blk.c1 ka
  have y2 := blk_frozen ka 2
  have d2 := Blk.c2 ka
  have y3 := blk_frozen ka 3
  have d3 := Blk.c3 ka
  have RR := hide (ans_put ka (.int .i64 2) (.slice none 0 0) (.slice none 0 0) (.int .i64 0))
  clear ka
  go_wp2_with fail
  obtain ⟨R, RO⟩ := RR.out
  generalize ((((wc.setCell ⟨w.heap.size + 1, 0, none⟩ (.int .i64 2)).setCell ⟨w.heap.size + 1, 1, none⟩ (.slice none 0 0)).setCell ⟨w.heap.size + 1, 2, none⟩ (.slice none 0 0)).setCell ⟨w.heap.size + 1, 3, none⟩ (.int .i64 0)) = WW at R RO ⊢
  have e0 := Blk.c0 R
  have e1 := Blk.c1 R
  have e2 := Blk.c2 R
  have e3 := Blk.c3 R
  refine bodyPost_ret (v := .agg #[.int .i64 2, .slice none 0 0, .slice none 0 0, .int .i64 0]) (by simp [results, Tryz.results49, go_sem, e0, e1, e2, e3]) rfl ?_
  rw [HE.out]
  exact did_same HHO.out (Below.t HB0.out HBC.out) RO (by omega) (ans_code 2 _) List.nodup_nil (by simp) (Free.nil _)
 have HKN := hide hkn
 simp only [hkn] at C1
 have D1 := hide C1
 clear C1 hkn
 go_wp2_with fail
 have n0 := BelowW.nonempty w0
 have e0 := BelowW.ex (w := w0)
 have g_a0 := fun n : BelowW w0 => n.cell a0
 have g_x0 := fun n : BelowW w0 => n.cell x0
 have g_x1 := fun n : BelowW w0 => n.cell x1
 clear a0 x0 x1
 refine wp_region_below (by kernel_rfl) (by kernel_rfl) ?_
 repeat (go_big_quiet_step (first | (go_at_call 104; exact BelowW.calls _ (D1.out _ (BelowW.sl _ hkx)))))
 refine wpQuiet_nil ?_
 rintro w4 ⟨m4, hw4⟩
 have hb4 := m4.property
 rw [← hw4] at hb4
 clear hw4 m4 e0 g_a0 g_x0 g_x1
 have HB1 := hide hb4
 clear hb4 hkx D1 a1 a2
 obtain ⟨w1, hw1⟩ : ∃ w1, w1 = w4 := ⟨_, rfl⟩
 rw [← hw1] at HB1
 rw [← hw1]
 clear hw1 w4
 obtain ⟨u, hu1, hu2⟩ := knows_iff HKN.out
 have hul : u < m.used.length := by have := HUL.out; omega
 by_cases k11 : r.kind = 11
 ·have K11 := hide k11
  have x3 : w1.cell? ⟨w.heap.size, 3, none⟩ = some (.int .i64 11) := by rw [← K11.out]; exact (HKQ.out w1 HB1.out).cell 3
  have HE := hide (show doIt m r = (m, ⟨1, [], [], m.used[u]⟩) by unfold doIt; rw [if_pos HKN.out, if_pos K11.out, hu1, show ((u : Int) + 1 - 1).toNat = u by omega, getD_at hul])
  have x0 : w1.cell? ⟨w.heap.size, 0, none⟩ = some (.int .i64 ((u : Int) + 1)) := by rw [← hu1]; exact (HKQ.out w1 HB1.out).cell 0
  have u0 : (0 : Int) ≤ (u : Int) := by omega
  have u1 : (u : Int) < (m.used.length : Int) := by omega
  have hwu : IntKind.i64.wrap ((u : Int) + 1 - 1) = (u : Int) := by rw [IntWalk.i64_in _ (by omega)]; omega
  have hwu2 : IntKind.i64.wrap (u : Int) = (u : Int) := IntWalk.i64_in _ (by omega)
  obtain ⟨bU, oU, rfl, _, _, uc⟩ := int_cells (HUx.out w1 (Below.t HB0.out HB1.out)) hul
  obtain ⟨a0, a1, a2⟩ := HCx.out w1 (Below.t HB0.out HB1.out)
  clear hu1 k11
  have ka := HKA.out w1 HB1.out
  have y0 := blk_frozen ka 0
  have d0 := Blk.c0 ka
  have y1 := blk_frozen ka 1
  have d1 := Blk.c1 ka
  have y2 := blk_frozen ka 2
  have d2 := Blk.c2 ka
  have y3 := blk_frozen ka 3
  have d3 := Blk.c3 ka
  have RR := hide (ans_put ka (.int .i64 1) (.slice none 0 0) (.slice none 0 0) (.int .i64 m.used[u]))
  clear ka
  go_wp2_with fail
  refine wp_stay fun K hK => ?_
  have HKK := hide hK
  clear hK
  go_region_law (first
   | fail)
  all_goals
   refine HKK.out _ _ ?_
   clear HKK K
   obtain ⟨R, RO⟩ := RR.out
   go_wp2_with fail
   generalize ((((w1.setCell ⟨w.heap.size + 1, 0, none⟩ (.int .i64 1)).setCell ⟨w.heap.size + 1, 1, none⟩ (.slice none 0 0)).setCell ⟨w.heap.size + 1, 2, none⟩ (.slice none 0 0)).setCell ⟨w.heap.size + 1, 3, none⟩ (.int .i64 m.used[u])) = WW at R RO ⊢
   have e0 := Blk.c0 R
   have e1 := Blk.c1 R
   have e2 := Blk.c2 R
   have e3 := Blk.c3 R
   refine bodyPost_ret (v := .agg #[.int .i64 1, .slice none 0 0, .slice none 0 0, .int .i64 m.used[u]]) (by simp [results, Tryz.results49, go_sem, e0, e1, e2, e3]) rfl ?_
   rw [HE.out]
   exact did_same HHO.out (Below.t HB0.out HB1.out) RO.drew (by omega) ⟨none, 0, 0, [], none, 0, 0, [], rfl, rfl, SlR.nil, SlR.nil⟩ List.nodup_nil (by simp) (Free.nil _)
 have HK11 := hide k11
 by_cases hlt : r.repo.toNat < m.repos.length
 case neg =>
  have hge : (m.repos.length : Int) ≤ r.repo := by omega
  obtain ⟨a0, a1, a2⟩ := HCx.out w1 (Below.t HB0.out HB1.out)
  have x2 := Blk.c2 (HKQ.out w1 HB1.out)
  have x3 := Blk.c3 (HKQ.out w1 HB1.out)
  go_upto_region 5 with fail
  go_quiet (fail)
  obtain ⟨w2, hw2⟩ : ∃ w2, w2 = w1.drewN nq := ⟨_, rfl⟩
  have HB2 := hide (show Below w0.heap.size w0 w2 from hw2 ▸ Below.drewN' HB1.out nq)
  rw [← hw2]
  clear hw2 a0 a1 a2 x2 x3
  have HE := hide (show doIt m r = (m, code 3) by unfold doIt; rw [if_pos HKN.out, if_neg HK11.out, List.getElem?_eq_none (by omega)])
  go_wp2_with fail
  refine (code_any 3 _).mono ?_
  rintro e wc ⟨rfl, hbc⟩
  have HBC := hide (Below.t HB2.out hbc)
  clear hbc
  have ka := HKA.out wc HBC.out
  have y0 := blk_frozen ka 0
  have d0 := Blk.c0 ka
  have y1 := blk_frozen ka 1
  have d1 := Blk.c1 ka
  have y2 := blk_frozen ka 2
  have d2 := Blk.c2 ka
  have y3 := blk_frozen ka 3
  have d3 := Blk.c3 ka
  have RR := hide (ans_put ka (.int .i64 3) (.slice none 0 0) (.slice none 0 0) (.int .i64 0))
  clear ka
  go_wp2_with fail
  obtain ⟨R, RO⟩ := RR.out
  generalize ((((wc.setCell ⟨w.heap.size + 1, 0, none⟩ (.int .i64 3)).setCell ⟨w.heap.size + 1, 1, none⟩ (.slice none 0 0)).setCell ⟨w.heap.size + 1, 2, none⟩ (.slice none 0 0)).setCell ⟨w.heap.size + 1, 3, none⟩ (.int .i64 0)) = WW at R RO ⊢
  have e0 := Blk.c0 R
  have e1 := Blk.c1 R
  have e2 := Blk.c2 R
  have e3 := Blk.c3 R
  refine bodyPost_ret (v := .agg #[.int .i64 3, .slice none 0 0, .slice none 0 0, .int .i64 0]) (by simp [results, Tryz.results49, go_sem, e0, e1, e2, e3]) rfl ?_
  rw [HE.out]
  exact did_same HHO.out (Below.t HB0.out HBC.out) RO (by omega) (ans_code 3 _) List.nodup_nil (by simp) (Free.nil _)
 obtain ⟨i, hri⟩ : ∃ i : Nat, r.repo = (i : Int) := ⟨r.repo.toNat, by omega⟩
 have hi : i < m.repos.length := by omega
 have HRI := hide hri
 clear hlt
 have HD := hide (show doIt m r = (if r.kind = 2 then (m, look m.repos[i] r) else if r.kind = 3 then (m, refsAns m.repos[i] r) else if reqWrites r then ((write m m.repos[i] r).1, code (write m m.repos[i] r).2)
   else if r.user ≠ m.repos[i].admin then (m, code 4) else ({ m with repos := m.repos.set i (manage m.repos[i] r).1 }, code (manage m.repos[i] r).2)) by
  unfold doIt; rw [if_pos HKN.out, if_neg HK11.out, hri, Int.toNat_natCast, List.getElem?_eq_getElem hi])
 obtain ⟨A0', n0', c0', f0', A1', n1', c1', f1', b, c2', cur, cr, fR, hch, h0', h1', hbt, hbm, hbl, hbf, hfn, hsub, hn1, hd1, hd0, hcr, hR, hcl1⟩ := house_set HHO.out HNO.out hi
 cases hch
 obtain ⟨B0, m0', d0', g0, v, f1'', rfl, hff', hR0, hR1⟩ := id hR
 obtain ⟨A2', cap, fs1, rfl, hRs, _, _, _⟩ := hR1.sl
 obtain rfl := hR0.1
 obtain ⟨fq, hreal, _⟩ := le_repo.2 _ _ _ _ hR
 obtain ⟨fr2, hs2r, _⟩ := hRs.le le_ref
 have HRFSx := hide (fun (W : World) (hb : Below w.heap.size w W) => hs2r.step hb)
 have HPx := hide (fun (W : World) (hb : Below w.heap.size w W) => Rp.repo.below hreal hb nle)
 have HPOx := hide (fun (W : World) (hb : Below w.heap.size w W) => Rp.repoO.below hR hb nle)
 have HCRx := hide (fun (W : World) (hb : Below w.heap.size w W) => hcr.keep (hb.block b hbl))
 have HRCx := hide (fun (W : World) (hb : Below w.heap.size w W) => (show W.cell? ⟨b, i * 3, none⟩ = some (.int .i64 m.repos[i].admin) ∧ W.cell? ⟨b, i * 3 + 1, none⟩ = some (.slice B0 m.repos[i].rules.length d0') ∧ W.cell? ⟨b, i * 3 + 2, none⟩ = some (.slice A2' m.repos[i].refs.length cap) from
  ⟨cell_step hcr.at0 hb, cell_step hcr.tail.at0 hb, cell_step hcr.tail.tail.at0 hb⟩))
 have HS0x := hide (fun (W : World) (hb : Below w.heap.size w W) => hR0.step hb)
 have HMN := hide (And.intro hcl1 (And.intro hd1 (And.intro hsub (And.intro hbm (And.intro hbt (And.intro hbf (And.intro hfn h1')))))))
 have HFI := hide (HPF.out _ (List.getElem_mem hi))
 have i0 : (0 : Int) ≤ (i : Int) := by omega
 have i1 : (i : Int) < (m.repos.length : Int) := by omega
 have i2 : ¬ (m.repos.length : Int) ≤ (i : Int) := by omega
 obtain ⟨a0, a1, a2⟩ := HCx.out w1 (Below.t HB0.out HB1.out)
 have x2 : w1.cell? ⟨w.heap.size, 2, none⟩ = some (.int .i64 (i : Int)) := by rw [← hri]; exact (HKQ.out w1 HB1.out).cell 2
 have x3 := Blk.c3 (HKQ.out w1 HB1.out)
 clear hs2r hR0 hR1 hRs hR hreal hff' h0' h1' hbt hbm hbl hbf hfn hsub hn1 hd1 hd0 hcr hcl1 hri hul hu1 hu2
 go_upto_region 5 with fail
 go_quiet (fail)
 obtain ⟨w2, hw2⟩ : ∃ w2, w2 = w1.drewN nq := ⟨_, rfl⟩
 have HB2 := hide (show Below w0.heap.size w0 w2 from hw2 ▸ Below.drewN' HB1.out nq)
 rw [← hw2]
 clear hw2 a0 a1 a2 x2 x3
 obtain ⟨a0, a1, a2⟩ := HCx.out w2 (Below.t HB0.out HB2.out)
 have x2 : w2.cell? ⟨w.heap.size, 2, none⟩ = some (.int .i64 (i : Int)) := by rw [← HRI.out]; exact (HKQ.out w2 HB2.out).cell 2
 go_upto_region 7 with fail
 go_quiet (fail)
 obtain ⟨w3, hw3⟩ : ∃ w3, w3 = w2.drewN nq := ⟨_, rfl⟩
 have HB3 := hide (show Below w0.heap.size w0 w3 from hw3 ▸ Below.drewN' HB2.out nq)
 rw [← hw3]
 clear hw3 a0 a1 a2 x2
 have HW3 := hide (Below.t HB0.out HB3.out)
 have HSZ0 := hide (show w.heap.size + 1 < w3.heap.size from by have := (HKA.out w3 HB3.out).lt; omega)
 by_cases k2 : r.kind = 2
 ·have K2 := hide k2
  have x3 : w3.cell? ⟨w.heap.size, 3, none⟩ = some (.int .i64 2) := by rw [← K2.out]; exact (HKQ.out w3 HB3.out).cell 3
  have HE := hide (show doIt m r = (m, look m.repos[i] r) by rw [HD.out, if_pos K2.out])
  clear k2
  go_wp2_with ((refine wpList_load_row rfl 46 (.tmp 3) rfl _ rfl _ _ _ _ (HKQ.out w3 HB3.out).out Tryz.underlying46 rfl size_Req ?_))
  refine (implLook_any (b := b) (o := i * 3) (p := m.repos[i]) (r := r) _ (HCRx.out _ HW3.out) (HPx.out _ HW3.out) ⟨E0, _, d0, e0, rfl, rfl, HEx.out _ HW3.out⟩ HFI.out HQF.out).mono ?_
  rintro e wc ⟨av, fa, rfl, hRa, hna, hla, hfa, hbc⟩
  obtain ⟨AF, nF, cF, fF, AN, nN, cN, fN, rfl, hffa, hsF, hsN⟩ := hRa
  have HBC := hide (Below.t HB3.out hbc)
  have HSF := hide hsF
  have HSN := hide hsN
  have HAA := hide (And.intro hffa (And.intro hna (And.intro hla hfa)))
  clear hffa hsF hsN hna hla hfa hbc x3
  have ka := HKA.out wc HBC.out
  have y0 := blk_frozen ka 0
  have d0 := Blk.c0 ka
  have y1 := blk_frozen ka 1
  have d1 := Blk.c1 ka
  have y2 := blk_frozen ka 2
  have d2 := Blk.c2 ka
  have y3 := blk_frozen ka 3
  have d3 := Blk.c3 ka
  have RR := hide (ans_put ka (.int .i64 (look m.repos[i] r).code) (.slice AF nF cF) (.slice AN nN cN) (.int .i64 (look m.repos[i] r).n))
  clear ka
  go_wp2_with fail
  obtain ⟨R, RO⟩ := RR.out
  generalize ((((wc.setCell ⟨w.heap.size + 1, 0, none⟩ (.int .i64 (look m.repos[i] r).code)).setCell ⟨w.heap.size + 1, 1, none⟩ (.slice AF nF cF)).setCell ⟨w.heap.size + 1, 2, none⟩ (.slice AN nN cN)).setCell ⟨w.heap.size + 1, 3, none⟩ (.int .i64 (look m.repos[i] r).n)) = WW at R RO ⊢
  have e0 := Blk.c0 R
  have e1 := Blk.c1 R
  have e2 := Blk.c2 R
  have e3 := Blk.c3 R
  refine bodyPost_ret (v := .agg #[.int .i64 (look m.repos[i] r).code, .slice AF nF cF, .slice AN nN cN, .int .i64 (look m.repos[i] r).n]) (by simp [results, Tryz.results49, go_sem, e0, e1, e2, e3]) rfl ?_
  rw [HE.out]
  obtain ⟨hffa, hna, hla, hfa⟩ := HAA.out
  have hz0 := HSZ0.out
  have hzz := HW3.out.size
  exact did_same HHO.out (Below.t HB0.out HBC.out) RO (by omega) ⟨AF, nF, cF, fF, AN, nN, cN, fN, rfl, hffa, HSF.out.only RO (fun z hz hm => by have := hla z (by rw [hffa]; exact List.mem_append_left _ hz); simp at hm; omega), HSN.out.only RO (fun z hz hm => by have := hla z (by rw [hffa]; exact List.mem_append_right _ hz); simp at hm; omega)⟩ hna
   (fun z hz => by have := hla z hz; omega) (hfa.keep fun z hz => RO.block z (hfa.lt z hz) (by have := hla z hz; simp; omega))
 have K2 := hide k2
 by_cases k3 : r.kind = 3
 ·have K3 := hide k3
  have x3 : w3.cell? ⟨w.heap.size, 3, none⟩ = some (.int .i64 3) := by rw [← K3.out]; exact (HKQ.out w3 HB3.out).cell 3
  have HE := hide (show doIt m r = (m, ⟨1, [], seen m.repos[i] r m.repos[i].refs.length, 0⟩) by rw [HD.out, if_neg K2.out, if_pos K3.out, seen_all])
  have hr3 := HFI.out.nrefs
  clear k3 k2
  go_wp2_with fail
  refine (code_any 1 _).mono ?_
  rintro e wc ⟨rfl, hbc⟩
  have HBC := hide (Below.t HB3.out hbc)
  have HSZC := hide (show w.heap.size + 1 < wc.heap.size from by have := HSZ0.out; have := hbc.size; omega)
  clear hbc x3
  have r2 := (HRCx.out wc (Below.t HB0.out HBC.out)).2.2
  have r2' := cell_alloc r2 (.cells #[.int .i64 1, .slice none 0 0, .slice none 0 0, .int .i64 0] 39)
  obtain ⟨ii, hi0, hz0, hz1, hz2⟩ := info_parts infoC_Str
  go_wp2_with fail
  clear r2 r2'
  go_loopw [69] (fun iv wr => ∃ k : Nat, k ≤ m.repos[i].refs.length ∧ iv = .int .i64 k ∧ SeenTo w0 wc m.repos[i] r k wr) (fun iv _ => m.repos[i].refs.length - (intOf iv).toNat)
  case atStart => exact ⟨0, Nat.zero_le _, rfl, .slice none 0 0, Blk.new wc _ _, World.ownsRow_nil _ _ _ _, HBC.out.alloc HBC.out.size _, by simp⟩
  case round =>
   obtain ⟨wo, hwo⟩ : ∃ wo, wo = wr := ⟨_, rfl⟩
   subst hwo
   obtain ⟨k, hk, rfl, v, kO, hown, hbl, hsw⟩ := hrel
   have HKO := hide kO
   have HOW := hide hown
   have HBL := hide hbl
   have HSW := hide hsw
   have HLE := hide (seen_le m.repos[i] r k)
   clear kO hown hbl hsw
   have j0 : (0 : Int) ≤ (k : Int) := by omega
   by_cases hlt : k < m.repos[i].refs.length
   ·have j1 : (k : Int) < (m.repos[i].refs.length : Int) := by omega
    obtain ⟨bR, oR, B9, m9, d9, g9, rfl, hbR, hmR, q0, q1, q2, q3, _, _⟩ := ref_cells (HRFSx.out wo (Below.t HB0.out HBL.out)) hlt
    have HSZF := hide (HFI.out.names _ (List.getElem_mem hlt))
    have HY := hide (fun (h : rulSees m.repos[i].rules r.user m.repos[i].refs[k].name = true) => seen_yes hlt h)
    have HN := hide (fun (h : rulSees m.repos[i].rules r.user m.repos[i].refs[k].name = false) => seen_no hlt h)
    clear hbR hmR
    go_upto_region 15 with fail
    obtain ⟨wp, hwp⟩ : ∃ wp, wp = wo.alloc (.cells #[.string m.repos[i].refs[k].name, .bool m.repos[i].refs[k].guard, .int .i64 m.repos[i].refs[k].count, .slice B9 m9 d9] 99) := ⟨_, rfl⟩
    rw [← hwp]
    have HP1 := hide (show Below wo.heap.size wo wp from hwp ▸ (Below.refl _ _).alloc nle _)
    have HBP := hide (show Below w0.heap.size w0 wp from Below.t HBL.out HP1.out)
    have nm0 : wp.cell? ⟨wo.heap.size, 0, none⟩ = some (.string m.repos[i].refs[k].name) := by rw [hwp]; exact (Blk.new wo _ _).cell 0
    obtain ⟨r0, r1, r2⟩ := HRCx.out wp (Below.t HB0.out HBP.out)
    have hs0 := HS0x.out wp (Below.t HB0.out HBP.out)
    clear hwp q0 q1 q2 q3
    have x0 := Blk.c0 (HKQ.out wp HBP.out)
    have C1 := fun W (h : SlR Rp.rule W B0 m.repos[i].rules.length d0' m.repos[i].rules g0) => implRulSees_any r.user m.repos[i].refs[k].name W h HFI.out.rules
    cases hd : rulSees m.repos[i].rules r.user m.repos[i].refs[k].name
    ·have HE1 := hide (HN.out hd)
     simp only [hd] at C1
     have D1 := hide C1
     clear C1 hd
     go_wp2_with fail
     have n0 := BelowW.nonempty wp
     have e0 := BelowW.ex (w := wp)
     have g_r1 := fun n : BelowW wp => n.cell r1
     have g_x0 := fun n : BelowW wp => n.cell x0
     have g_nm0 := fun n : BelowW wp => n.cell nm0
     clear r1 x0 nm0
     refine wp_region_below (by kernel_rfl) (by kernel_rfl) ?_
     repeat (go_big_quiet_step (first | (go_at_call 107; exact BelowW.calls _ (D1.out _ (BelowW.sl _ hs0)))))
     refine wpQuiet_nil ?_
     rintro w4 ⟨m4, hw4⟩
     have hb4 := m4.property
     rw [← hw4] at hb4
     clear hw4 m4 e0 g_r1 g_x0 g_nm0
     have HB4 := hide (Below.t HP1.out hb4)
     have HREL := hide (show SeenTo w0 wc m.repos[i] r (k + 1) w4 from ⟨v, HKO.out.step HB4.out, by rw [HE1.out]; exact own_step HOW.out HB4.out, Below.t HBL.out HB4.out, Nat.lt_of_lt_of_le HSW.out HB4.out.size⟩)
     clear hb4 hs0 r0 r2
     go_wp2_with fail
     exact ⟨⟨k + 1, by omega, by go_num, HREL.out⟩, by simp [intOf]; omega⟩
    ·have HE1 := hide (HY.out hd)
     simp only [hd] at C1
     have D1 := hide C1
     clear C1 hd
     have nm1 := nm0
     go_wp2_with fail
     have n0 := BelowW.nonempty wp
     have e0 := BelowW.ex (w := wp)
     have g_r1 := fun n : BelowW wp => n.cell r1
     have g_x0 := fun n : BelowW wp => n.cell x0
     have g_nm0 := fun n : BelowW wp => n.cell nm0
     clear r1 x0 nm0
     refine wp_region_below (by kernel_rfl) (by kernel_rfl) ?_
     repeat (go_big_quiet_step (first | (go_at_call 107; exact BelowW.calls _ (D1.out _ (BelowW.sl _ hs0)))))
     refine wpQuiet_nil ?_
     rintro w4 ⟨m4, hw4⟩
     have hb4 := m4.property
     rw [← hw4] at hb4
     clear hw4 m4 e0 g_r1 g_x0 g_nm0
     have HB4 := hide (Below.t HP1.out hb4)
     have kO4 := HKO.out.step HB4.out
     have ho4 := own_step HOW.out HB4.out
     have n4 := cell_step nm1 hb4
     have o2 : w4.cell? ⟨wc.heap.size, 2, none⟩ = some v := kO4.cell 2
     have hle := HLE.out
     have hs4 := Nat.lt_of_lt_of_le HSW.out HB4.out.size
     have HO4 := hide ho4
     have KO4 := hide kO4
     clear hb4 hs0 r0 r2 nm1 ho4 kO4
     go_wp2_with (at_builtin; refine wpList_append_own _ rfl _ _ 37 rfl (wc.heap.size + 1) 9 ii _ 1 16 Tryz.underlying37 hi0 hz0 hz1 hz2 rfl (by decide) _ _ _ rfl (HO4.out.alloc _) ⟨w4.heap.size, 0, none⟩ 1 1 [.string m.repos[i].refs[k].name] rfl rfl (news_alloc _ [.string m.repos[i].refs[k].name] _) (by intro u hu; simp at hu; subst hu; rfl) (by unfold maxLen; omega) (by omega) (by simp; omega) ?_)
     intro v' w5 hown' hgrow _
     obtain ⟨A6, c6, rfl⟩ := own_form hown'
     have kO5 := (KO4.out.alloc (.cells #[.string m.repos[i].refs[k].name] 9)).grown hgrow (fun z hz => by have := (HO4.out.lt z hz).1; omega)
     have p2 : w5.cell? ⟨wc.heap.size, 2, none⟩ = some v := kO5.cell 2
     have py := blk_frozen kO5 2
     have HREL := hide (show SeenTo w0 wc m.repos[i] r (k + 1) (w5.setCell ⟨wc.heap.size, 2, none⟩ (.slice A6 ((seen m.repos[i] r k).length + 1) c6)) from by
      have h1 := HBL.out.size
      have h2 := HSW.out
      have h3 := HB4.out.size
      have h4 := hgrow.size
      simp at h4
      refine ⟨_, by simpa using kO5.put 2 (.slice A6 ((seen m.repos[i] r k).length + 1) c6), ?_, ?_, by simp [World.setCell]; omega⟩
      ·rw [HE1.out, List.length_append, List.flatMap_append, List.flatMap_singleton]
       exact ownsRow_keep hown' fun z hz => Below.heap_setCell _ _ _ _ (by have := (ownsRow_lt hown' z hz).1; simp only; omega)
      ·have hb5 : Below w0.heap.size w0 w5 := ((Below.t HBL.out HB4.out).alloc (Below.t HBL.out HB4.out).size _).grown hgrow (by simp; omega) (fun z hz => by have := (HO4.out.lt z hz).1; have := HBC.out.size; omega)
       exact Below.setCell (p := ⟨wc.heap.size, 2, none⟩) hb5 (by have := HBC.out.size; simp only; omega) _)
     clear hown' hgrow kO5 n4 o2
     go_wp2_with fail
     exact ⟨⟨k + 1, by omega, by go_num, HREL.out⟩, by simp [intOf]; omega⟩
   ·have j1 : ¬ (k : Int) < (m.repos[i].refs.length : Int) := by omega
    obtain rfl : k = m.repos[i].refs.length := by omega
    obtain ⟨AN, cN, fN, rfl, hsN, hlN, hnN, hfN⟩ := own_sl (k := 1) (enc := fun s => [Value.string s]) (hk := fun _ => rfl) (h1 := fun x u hu => by simp at hu; subst hu; rfl) HOW.out
    have HSN := hide hsN
    have HLN := hide (And.intro hlN (And.intro hnN hfN))
    have o0 := Blk.c0 HKO.out
    have o1 := Blk.c1 HKO.out
    have o2 := Blk.c2 HKO.out
    have o3 := Blk.c3 HKO.out
    clear hsN hlN hnN hfN hlt
    have ka := HKA.out wo HBL.out
    have y0 := blk_frozen ka 0
    have d0 := Blk.c0 ka
    have y1 := blk_frozen ka 1
    have d1 := Blk.c1 ka
    have y2 := blk_frozen ka 2
    have d2 := Blk.c2 ka
    have y3 := blk_frozen ka 3
    have d3 := Blk.c3 ka
    have RR := hide (ans_put ka (.int .i64 1) (.slice none 0 0) (.slice AN (seen m.repos[i] r m.repos[i].refs.length).length cN) (.int .i64 0))
    clear ka
    go_wp2_with fail
    obtain ⟨R, RO⟩ := RR.out
    generalize ((((wo.setCell ⟨w.heap.size + 1, 0, none⟩ (.int .i64 1)).setCell ⟨w.heap.size + 1, 1, none⟩ (.slice none 0 0)).setCell ⟨w.heap.size + 1, 2, none⟩ (.slice AN (seen m.repos[i] r m.repos[i].refs.length).length cN)).setCell ⟨w.heap.size + 1, 3, none⟩ (.int .i64 0)) = WW at R RO ⊢
    have e0 := Blk.c0 R
    have e1 := Blk.c1 R
    have e2 := Blk.c2 R
    have e3 := Blk.c3 R
    refine bodyPost_ret (v := .agg #[.int .i64 1, .slice none 0 0, .slice AN (seen m.repos[i] r m.repos[i].refs.length).length cN, .int .i64 0]) (by simp [results, Tryz.results49, go_sem, e0, e1, e2, e3]) rfl ?_
    rw [HE.out]
    obtain ⟨hlN, hnN, hfN⟩ := HLN.out
    have hz0 := HSZC.out
    exact did_same HHO.out (Below.t HB0.out HBL.out) RO (by omega) ⟨none, 0, 0, [], AN, _, cN, fN, rfl, rfl, SlR.nil, HSN.out.only RO (fun z hz hm => by have := hlN z hz; simp at hm; omega)⟩ hnN
     (fun z hz => by have := hlN z hz; omega) (hfN.keep fun z hz => RO.block z (hfN.lt z hz) (by have := hlN z hz; simp; omega))
 have K3 := hide k3
 have x3 := Blk.c3 (HKQ.out w3 HB3.out)
 go_wp2_with ((refine wpList_load_row rfl 46 (.tmp 3) rfl _ rfl _ _ _ _ (HKQ.out w3 HB3.out).out Tryz.underlying46 rfl size_Req ?_))
 refine (implReqWrites_any (x := r) _ ⟨E0, _, d0, e0, rfl, rfl, HEx.out _ HW3.out⟩).mono ?_
 rintro e w4 ⟨rfl, hb4⟩
 have HB4 := hide (Below.t HB3.out hb4)
 have HW4 := hide (Below.t HB0.out HB4.out)
 clear hb4 x3 k2 k3
 have HFPL := hide (Rp.houseO.lt HHO.out)
 cases hw : reqWrites r
 ·have HWF := hide (show ¬ reqWrites r = true by rw [hw]; decide)
  clear hw
  obtain ⟨r0, r1, r2⟩ := HRCx.out w4 HW4.out
  by_cases hadm : r.user = m.repos[i].admin
  ·have HADM := hide hadm
   have x0 : w4.cell? ⟨w.heap.size, 0, none⟩ = some (.int .i64 m.repos[i].admin) := by rw [← hadm]; exact (HKQ.out w4 HB4.out).cell 0
   have HE := hide (show doIt m r = ({ m with repos := m.repos.set i (manage m.repos[i] r).1 }, code (manage m.repos[i] r).2) by rw [HD.out, if_neg K2.out, if_neg K3.out, if_neg HWF.out, if_neg (fun h => h HADM.out)])
   clear hadm
   go_upto_region 21 with fail
   go_quiet (fail)
   obtain ⟨w5, hw5⟩ : ∃ w5, w5 = w4.drewN nq := ⟨_, rfl⟩
   have HB5 := hide (show Below w0.heap.size w0 w5 from hw5 ▸ Below.drewN' HB4.out nq)
   rw [← hw5]
   clear hw5 r0 r1 r2 x0
   have HW5 := hide (Below.t HB0.out HB5.out)
   go_wp2_with ((refine wpList_load_row rfl 46 (.tmp 3) rfl _ rfl _ _ _ _ (HKQ.out w5 HB5.out).out Tryz.underlying46 rfl size_Req ?_))
   obtain ⟨hcl1, hd1, hsub, hbm, hbt, hbf, hfn, h1'⟩ := HMN.out
   refine (manage_any (b := b) (o := i * 3) (p := m.repos[i]) (r := r) _ (HCRx.out _ HW5.out) ((HW5.out.block b (HFPL.out b hbm)).trans hbt) hbf hfn ((HFO.out.sub hsub).step HW5.out) (HPOx.out _ HW5.out) ⟨E0, _, d0, e0, rfl, rfl, HEx.out _ HW5.out⟩ HFI.out HQF.out).mono ?_
   rintro e w6 hm6
   have hw6 := wrote_managed (m := m) HFPL.out HW5.out hm6 hsub hbm h1' hd1 hcl1
   obtain ⟨he6, _, ho6⟩ := id hw6
   subst he6
   have ka6 := (HKA.out w5 HB5.out).only ho6 (fun h => by have := HFPL.out _ h; omega)
   have HW6 := hide hw6
   have HKA6 := hide ka6
   clear hcl1 hd1 hsub hbm hbt hbf hfn h1' hm6 hw6 ho6 ka6
   go_wp2_with fail
   refine (code_any _ _).mono ?_
   rintro e wc ⟨rfl, hbc⟩
   have HBC := hide hbc
   clear hbc
   have ka := HKA6.out.step HBC.out
   have y0 := blk_frozen ka 0
   have d0 := Blk.c0 ka
   have y1 := blk_frozen ka 1
   have d1 := Blk.c1 ka
   have y2 := blk_frozen ka 2
   have d2 := Blk.c2 ka
   have y3 := blk_frozen ka 3
   have d3 := Blk.c3 ka
   have RR := hide (ans_put ka (.int .i64 (manage m.repos[i] r).2) (.slice none 0 0) (.slice none 0 0) (.int .i64 0))
   clear ka
   go_wp2_with fail
   obtain ⟨R, RO⟩ := RR.out
   generalize ((((wc.setCell ⟨w.heap.size + 1, 0, none⟩ (.int .i64 (manage m.repos[i] r).2)).setCell ⟨w.heap.size + 1, 1, none⟩ (.slice none 0 0)).setCell ⟨w.heap.size + 1, 2, none⟩ (.slice none 0 0)).setCell ⟨w.heap.size + 1, 3, none⟩ (.int .i64 0)) = WW at R RO ⊢
   have e0 := Blk.c0 R
   have e1 := Blk.c1 R
   have e2 := Blk.c2 R
   have e3 := Blk.c3 R
   refine bodyPost_ret (v := .agg #[.int .i64 (manage m.repos[i] r).2, .slice none 0 0, .slice none 0 0, .int .i64 0]) (by simp [results, Tryz.results49, go_sem, e0, e1, e2, e3]) rfl ?_
   rw [HE.out]
   exact did_wrote HFPL.out HW5.out HW6.out (HKA.out w5 HB5.out) HBC.out RO (by omega)
  ·have HE := hide (show doIt m r = (m, code 4) by rw [HD.out, if_neg K2.out, if_neg K3.out, if_neg HWF.out, if_pos hadm])
   have x0 := Blk.c0 (HKQ.out w4 HB4.out)
   go_upto_region 21 with fail
   go_quiet (fail)
   obtain ⟨w5, hw5⟩ : ∃ w5, w5 = w4.drewN nq := ⟨_, rfl⟩
   have HB5 := hide (show Below w0.heap.size w0 w5 from hw5 ▸ Below.drewN' HB4.out nq)
   rw [← hw5]
   clear hw5 r0 r1 r2 x0
   go_wp2_with fail
   refine (code_any 4 _).mono ?_
   rintro e wc ⟨rfl, hbc⟩
   have HBC := hide (Below.t HB5.out hbc)
   clear hbc
   have ka := HKA.out wc HBC.out
   have y0 := blk_frozen ka 0
   have d0 := Blk.c0 ka
   have y1 := blk_frozen ka 1
   have d1 := Blk.c1 ka
   have y2 := blk_frozen ka 2
   have d2 := Blk.c2 ka
   have y3 := blk_frozen ka 3
   have d3 := Blk.c3 ka
   have RR := hide (ans_put ka (.int .i64 4) (.slice none 0 0) (.slice none 0 0) (.int .i64 0))
   clear ka
   go_wp2_with fail
   obtain ⟨R, RO⟩ := RR.out
   generalize ((((wc.setCell ⟨w.heap.size + 1, 0, none⟩ (.int .i64 4)).setCell ⟨w.heap.size + 1, 1, none⟩ (.slice none 0 0)).setCell ⟨w.heap.size + 1, 2, none⟩ (.slice none 0 0)).setCell ⟨w.heap.size + 1, 3, none⟩ (.int .i64 0)) = WW at R RO ⊢
   have e0 := Blk.c0 R
   have e1 := Blk.c1 R
   have e2 := Blk.c2 R
   have e3 := Blk.c3 R
   refine bodyPost_ret (v := .agg #[.int .i64 4, .slice none 0 0, .slice none 0 0, .int .i64 0]) (by simp [results, Tryz.results49, go_sem, e0, e1, e2, e3]) rfl ?_
   rw [HE.out]
   exact did_same HHO.out (Below.t HB0.out HBC.out) RO (by omega) (ans_code 4 _) List.nodup_nil (by simp) (Free.nil _)
 ·have HWT := hide hw
  have HE := hide (show doIt m r = ((write m m.repos[i] r).1, code (write m m.repos[i] r).2) by rw [HD.out, if_neg K2.out, if_neg K3.out, if_pos HWT.out])
  clear hw
  go_wp2_with ((refine wpList_load_row rfl 46 (.tmp 3) rfl _ rfl _ _ _ _ (HKQ.out w4 HB4.out).out Tryz.underlying46 rfl size_Req ?_))
  refine (write_any (g := g) (m := m) (r := r) (i := i) _ (HCG.out.keep (HW4.out.block g HGL.out)) HGM.out (Rp.houseO.below HHO.out HW4.out nle) HNO.out (HFO.out.step HW4.out) ⟨E0, _, d0, e0, rfl, rfl, HEx.out _ HW4.out⟩ HOK.out HRQ.out HKN.out HRI.out hi).mono ?_
  rintro e w6 hw6
  obtain ⟨he6, _, ho6⟩ := id hw6
  subst he6
  have ka6 := (HKA.out w4 HB4.out).only ho6 (fun h => by have := HFPL.out _ h; omega)
  have HW6 := hide hw6
  have HKA6 := hide ka6
  clear hw6 ho6 ka6
  go_wp2_with fail
  refine (code_any _ _).mono ?_
  rintro e wc ⟨rfl, hbc⟩
  have HBC := hide hbc
  clear hbc
  have ka := HKA6.out.step HBC.out
  have y0 := blk_frozen ka 0
  have d0 := Blk.c0 ka
  have y1 := blk_frozen ka 1
  have d1 := Blk.c1 ka
  have y2 := blk_frozen ka 2
  have d2 := Blk.c2 ka
  have y3 := blk_frozen ka 3
  have d3 := Blk.c3 ka
  have RR := hide (ans_put ka (.int .i64 (write m m.repos[i] r).2) (.slice none 0 0) (.slice none 0 0) (.int .i64 0))
  clear ka
  go_wp2_with fail
  obtain ⟨R, RO⟩ := RR.out
  generalize ((((wc.setCell ⟨w.heap.size + 1, 0, none⟩ (.int .i64 (write m m.repos[i] r).2)).setCell ⟨w.heap.size + 1, 1, none⟩ (.slice none 0 0)).setCell ⟨w.heap.size + 1, 2, none⟩ (.slice none 0 0)).setCell ⟨w.heap.size + 1, 3, none⟩ (.int .i64 0)) = WW at R RO ⊢
  have e0 := Blk.c0 R
  have e1 := Blk.c1 R
  have e2 := Blk.c2 R
  have e3 := Blk.c3 R
  refine bodyPost_ret (v := .agg #[.int .i64 (write m m.repos[i] r).2, .slice none 0 0, .slice none 0 0, .int .i64 0]) (by simp [results, Tryz.results49, go_sem, e0, e1, e2, e3]) rfl ?_
  rw [HE.out]
  exact did_wrote HFPL.out HW4.out HW6.out (HKA.out w4 HB4.out) HBC.out RO (by omega)
set_option maxHeartbeats 1000000 in
set_option maxRecDepth 20000 in
theorem l6Code_any (k : Int) (w : World) : Calls Tryz.prog 35 #[.int .i64 k] w fun e w' => e = .returned (.agg #[.int .i64 k, .slice none 0 0, .slice none 0 0, .int .i64 0]) ∧ Below w.heap.size w w' := by
 go_enter Tryz.func35, Tryz.ntmps35
 go_wp2
 have kb := Blk.new w 39 #[.int .i64 k, .slice none 0 0, .slice none 0 0, .int .i64 0]
 have HB := (Below.refl w.heap.size w).alloc nle (.cells #[.int .i64 k, .slice none 0 0, .slice none 0 0, .int .i64 0] 39)
 generalize w.alloc (.cells #[.int .i64 k, .slice none 0 0, .slice none 0 0, .int .i64 0] 39) = W at kb HB ⊢
 have e0 := Blk.c0 kb
 have e1 := Blk.c1 kb
 have e2 := Blk.c2 kb
 have e3 := Blk.c3 kb
 exact bodyPost_ret (v := .agg #[.int .i64 k, .slice none 0 0, .slice none 0 0, .int .i64 0]) (by simp [results, Tryz.results35, go_sem, e0, e1, e2, e3]) rfl ⟨rfl, HB⟩

set_option maxHeartbeats 8000000 in
set_option maxRecDepth 100000 in
theorem l7Look_any {i : Nat} {m : House} {r : Req} {hs cs : List Value} {f fr : List Nat} (w : World) (hm : Rp.house.R w hs m f) (hr : Rp.req.R w cs r fr) (hri : r.repo = (i : Int)) (hi : i < m.repos.length) (hP : ∀ p ∈ m.repos, RepoFit p) (hQ : ReqFit r) :
  Calls Tryz.prog 36 #[.agg hs.toArray, .agg cs.toArray] w (FreshR Rp.ans w (look m.repos[i] r)) := by
 obtain ⟨E0, m0, d0, e0, rfl, _, hq⟩ := hr
 obtain rfl := hq.1
 have hm0 := hm
 obtain ⟨A0, n0, c0, f0, A1, n1, c1, f1, A2, n2, c2, f2, rfl, hff, h0, h1, h2⟩ := hm
 obtain rfl := h0.1
 obtain rfl := h1.1
 obtain rfl := h2.1
 have hmx := h2.max
 have hmq := hq.max
 have HB0 := ((((Below.refl w.heap.size w).alloc nle (.cells #[.slice A0 m.keys.length c0, .slice A1 m.used.length c1, .slice A2 m.repos.length c2] 35)).alloc (by simp) (.cells #[.int .i64 r.user, .int .i64 r.key, .int .i64 r.repo, .int .i64 r.kind, .string r.ref, .string r.path, .int .i64 r.old, .int .i64 r.back, .slice E0 r.edits.length d0, .int .i64 r.rule.user, .string r.rule.ref, .string r.rule.path, .bool r.rule.write, .int .i64 r.frm, .string r.other] 46)).alloc (by simp; omega) (.cells #[.int .i64 0, .slice none 0 0, .slice none 0 0, .int .i64 0] 39))
 have kx := (((Blk.new w 35 #[.slice A0 m.keys.length c0, .slice A1 m.used.length c1, .slice A2 m.repos.length c2]).alloc (.cells #[.int .i64 r.user, .int .i64 r.key, .int .i64 r.repo, .int .i64 r.kind, .string r.ref, .string r.path, .int .i64 r.old, .int .i64 r.back, .slice E0 r.edits.length d0, .int .i64 r.rule.user, .string r.rule.ref, .string r.rule.path, .bool r.rule.write, .int .i64 r.frm, .string r.other] 46)).alloc (.cells #[.int .i64 0, .slice none 0 0, .slice none 0 0, .int .i64 0] 39))
 have kq := ((Blk.new' (w := (w.alloc (.cells #[.slice A0 m.keys.length c0, .slice A1 m.used.length c1, .slice A2 m.repos.length c2] 35))) (H := w.heap.size + 1) (by simp) 46 #[.int .i64 r.user, .int .i64 r.key, .int .i64 r.repo, .int .i64 r.kind, .string r.ref, .string r.path, .int .i64 r.old, .int .i64 r.back, .slice E0 r.edits.length d0, .int .i64 r.rule.user, .string r.rule.ref, .string r.rule.path, .bool r.rule.write, .int .i64 r.frm, .string r.other]).alloc (.cells #[.int .i64 0, .slice none 0 0, .slice none 0 0, .int .i64 0] 39))
 have kz0 := (Blk.new' (w := ((w.alloc (.cells #[.slice A0 m.keys.length c0, .slice A1 m.used.length c1, .slice A2 m.repos.length c2] 35)).alloc (.cells #[.int .i64 r.user, .int .i64 r.key, .int .i64 r.repo, .int .i64 r.kind, .string r.ref, .string r.path, .int .i64 r.old, .int .i64 r.back, .slice E0 r.edits.length d0, .int .i64 r.rule.user, .string r.rule.ref, .string r.rule.path, .bool r.rule.write, .int .i64 r.frm, .string r.other] 46))) (H := w.heap.size + 2) (by simp) 39 #[.int .i64 0, .slice none 0 0, .slice none 0 0, .int .i64 0])
 have HKx := hide (fun (W : World) (hb : Below w.heap.size w W) => h0.step hb)
 have HUx := hide (fun (W : World) (hb : Below w.heap.size w W) => h1.step hb)
 have HRx := hide (fun (W : World) (hb : Below w.heap.size w W) => h2.step hb)
 have HEx := hide (fun (W : World) (hb : Below w.heap.size w W) => hq.step hb)
 have HHx := hide (fun (W : World) (hb : Below w.heap.size w W) => Rp.house.below hm0 hb nle)
 have HRI := hide hri
 have HPF := hide hP
 have HQF := hide hQ
 have HFI := hide (hP _ (List.getElem_mem hi))
 have i0 : (0 : Int) ≤ (i : Int) := by omega
 have i1 : (i : Int) < (m.repos.length : Int) := by omega
 clear hri hP hQ
 clear hm0 hff h0 h1 h2 hq
 go_enter Tryz.func36, Tryz.ntmps36
 go_upto_region 1 with fail
 generalize hW0 : (((w.alloc (.cells #[.slice A0 m.keys.length c0, .slice A1 m.used.length c1, .slice A2 m.repos.length c2] 35)).alloc (.cells #[.int .i64 r.user, .int .i64 r.key, .int .i64 r.repo, .int .i64 r.kind, .string r.ref, .string r.path, .int .i64 r.old, .int .i64 r.back, .slice E0 r.edits.length d0, .int .i64 r.rule.user, .string r.rule.ref, .string r.rule.path, .bool r.rule.write, .int .i64 r.frm, .string r.other] 46)).alloc (.cells #[.int .i64 0, .slice none 0 0, .slice none 0 0, .int .i64 0] 39)) = w0 at HB0 kx kq kz0 ⊢
 clear hW0
 have HKX := hide (fun (W : World) (hb : Below w0.heap.size w0 W) => kx.step hb)
 have HKQ := hide (fun (W : World) (hb : Below w0.heap.size w0 W) => kq.step hb)
 have HB0 := hide HB0
 clear kx kq
 have HKA := hide (fun (W : World) (hb : Below w0.heap.size w0 W) => kz0.step hb)
 have HL2 := hide kz0.lt
 clear kz0
 have i2 := Blk.c2 (HKX.out w0 (Below.refl _ _))
 have x2 : w0.cell? ⟨w.heap.size + 1, 2, none⟩ = some (.int .i64 (i : Int)) := by rw [← HRI.out]; exact (HKQ.out w0 (Below.refl _ _)).cell 2
 obtain ⟨bp, op, B0, nb0, b0, g0, B1, nb1, b1, g1, rfl, hbp, hmp, q0, q1, q2, hs0, hs1, hsub⟩ := repo_cells (HRx.out w0 HB0.out) hi
 obtain rfl := hs0.1
 obtain rfl := hs1.1
 have hrp : Rp.repo.R w0 [.int .i64 m.repos[i].admin, .slice B0 m.repos[i].rules.length b0, .slice B1 m.repos[i].refs.length b1] m.repos[i] (g0 ++ g1) := ⟨B0, _, b0, g0, B1, _, b1, g1, rfl, rfl, hs0, hs1⟩
 have HPx := hide (fun (W : World) (hb : Below w0.heap.size w0 W) => Rp.repo.below hrp hb nle)
 have HS0 := hide (fun (W : World) (hb : Below w0.heap.size w0 W) => hs0.step hb)
 have HS1 := hide (fun (W : World) (hb : Below w0.heap.size w0 W) => hs1.step hb)
 have HGS := hide (show ∀ z ∈ g1, z < w0.heap.size from hs1.lt)
 clear hs0 hs1 hrp hbp hmp hsub
 go_upto_region 2 with fail
 obtain ⟨w1, hw1⟩ : ∃ w1, w1 = w0.alloc (.cells #[.int .i64 m.repos[i].admin, .slice B0 m.repos[i].rules.length b0, .slice B1 m.repos[i].refs.length b1] 96) := ⟨_, rfl⟩
 rw [← hw1]
 have HB1 := hide (show Below w0.heap.size w0 w1 from hw1 ▸ (Below.refl _ _).alloc nle _)
 have kp := (show Blk w1 w0.heap.size 96 #[.int .i64 m.repos[i].admin, .slice B0 m.repos[i].rules.length b0, .slice B1 m.repos[i].refs.length b1] from hw1 ▸ Blk.new w0 _ _)
 have HPB := hide (fun (W : World) (hb : Below w1.heap.size w1 W) => kp.step hb)
 clear hw1 kp q0 q1 q2 i2 x2
 have p1 := Blk.c1 (HPB.out w1 (Below.refl _ _))
 have x0 := Blk.c0 (HKQ.out w1 HB1.out)
 have x4 := Blk.c4 (HKQ.out w1 HB1.out)
 go_wp2_with fail
 refine (specRulSees_any r.user r.ref _ (HS0.out w1 HB1.out) HFI.out.rules).mono ?_
 rintro e w2 ⟨rfl, hb2⟩
 have HD2 := hide hb2
 have HB2 := hide (Below.t HB1.out hb2)
 clear hb2 p1 x0 x4
 cases hd : rulSees m.repos[i].rules r.user r.ref
 ·have HE := hide (show look m.repos[i] r = code 4 by unfold look; rw [hd]; rfl)
  clear hd
  go_wp2_with fail
  refine (l6Code_any 4 _).mono ?_
  rintro e wc ⟨rfl, hbc⟩
  have HBC := hide (Below.t HB2.out hbc)
  clear hbc
  have ka := HKA.out wc HBC.out
  have y0 := blk_frozen ka 0
  have d0 := Blk.c0 ka
  have y1 := blk_frozen ka 1
  have d1 := Blk.c1 ka
  have y2 := blk_frozen ka 2
  have d2 := Blk.c2 ka
  have y3 := blk_frozen ka 3
  have d3 := Blk.c3 ka
  have RR := hide (ans_put ka (.int .i64 4) (.slice none 0 0) (.slice none 0 0) (.int .i64 0))
  clear ka
  go_wp2_with fail
  obtain ⟨R, RO⟩ := RR.out
  generalize ((((wc.setCell ⟨w.heap.size + 2, 0, none⟩ (.int .i64 4)).setCell ⟨w.heap.size + 2, 1, none⟩ (.slice none 0 0)).setCell ⟨w.heap.size + 2, 2, none⟩ (.slice none 0 0)).setCell ⟨w.heap.size + 2, 3, none⟩ (.int .i64 0)) = WW at R RO ⊢
  have e0 := Blk.c0 R
  have e1 := Blk.c1 R
  have e2 := Blk.c2 R
  have e3 := Blk.c3 R
  refine bodyPost_ret (v := .agg #[.int .i64 4, .slice none 0 0, .slice none 0 0, .int .i64 0]) (by simp [results, Tryz.results36, go_sem, e0, e1, e2, e3]) rfl ?_
  rw [HE.out]
  exact FreshR.code 4 (below_only (Below.t HB0.out HBC.out) RO (by omega))
 have HSE := hide hd
 clear hd
 have p0 := Blk.c0 (HPB.out w2 HD2.out)
 have p1 := Blk.c1 (HPB.out w2 HD2.out)
 have p2 := Blk.c2 (HPB.out w2 HD2.out)
 have x4 := Blk.c4 (HKQ.out w2 HB2.out)
 go_wp2_with fail
 refine (l7At_any (x := m.repos[i]) r.ref _ (HPx.out w2 HB2.out)).mono ?_
 rintro e w3 ⟨rfl, hb3⟩
 have HD3 := hide (Below.t HD2.out hb3)
 have HB3 := hide (Below.t HB2.out hb3)
 clear hb3 p0 p1 p2 x4
 rcases idxP_at (nameIs r.ref) m.repos[i].refs with ⟨hn, he⟩ | ⟨k, hn, hk, he⟩
 ·rw [he]
  clear he
  have HE := hide (show look m.repos[i] r = code 5 by unfold look; rw [HSE.out, show refIdx m.repos[i].refs r.ref = none from hn]; rfl)
  clear hn
  go_wp2_with fail
  refine (l6Code_any 5 _).mono ?_
  rintro e wc ⟨rfl, hbc⟩
  have HBC := hide (Below.t HB3.out hbc)
  clear hbc
  have ka := HKA.out wc HBC.out
  have y0 := blk_frozen ka 0
  have d0 := Blk.c0 ka
  have y1 := blk_frozen ka 1
  have d1 := Blk.c1 ka
  have y2 := blk_frozen ka 2
  have d2 := Blk.c2 ka
  have y3 := blk_frozen ka 3
  have d3 := Blk.c3 ka
  have RR := hide (ans_put ka (.int .i64 5) (.slice none 0 0) (.slice none 0 0) (.int .i64 0))
  clear ka
  go_wp2_with fail
  obtain ⟨R, RO⟩ := RR.out
  generalize ((((wc.setCell ⟨w.heap.size + 2, 0, none⟩ (.int .i64 5)).setCell ⟨w.heap.size + 2, 1, none⟩ (.slice none 0 0)).setCell ⟨w.heap.size + 2, 2, none⟩ (.slice none 0 0)).setCell ⟨w.heap.size + 2, 3, none⟩ (.int .i64 0)) = WW at R RO ⊢
  have e0 := Blk.c0 R
  have e1 := Blk.c1 R
  have e2 := Blk.c2 R
  have e3 := Blk.c3 R
  refine bodyPost_ret (v := .agg #[.int .i64 5, .slice none 0 0, .slice none 0 0, .int .i64 0]) (by simp [results, Tryz.results36, go_sem, e0, e1, e2, e3]) rfl ?_
  rw [HE.out]
  exact FreshR.code 5 (below_only (Below.t HB0.out HBC.out) RO (by omega))
 rw [he]
 clear he
 have HNF := hide (show refIdx m.repos[i].refs r.ref = some k from hn)
 have HFX := hide (HFI.out.vers _ (List.getElem_mem hk))
 have k0 : (0 : Int) ≤ (k : Int) := by omega
 have k1 : (k : Int) < (m.repos[i].refs.length : Int) := by omega
 have k2 : ¬ (k : Int) < 0 := by omega
 have hbk := HQF.out.ints.2.2.2.1
 obtain ⟨j, hj⟩ : ∃ j : Nat, r.back = (j : Int) := ⟨r.back.toNat, by omega⟩
 have HJ := hide hj
 have hv3 := HFX.out.2.1
 obtain ⟨bR, oR, B3, nb3, b3, g3, rfl, hbR, hmR, t0, t1, t2, t3, hs3, _⟩ := ref_cells (HS1.out w3 HB3.out) hk
 obtain rfl := hs3.1
 have HT2 := hide t2
 have HS3 := hide (fun (W : World) (hb : Below w3.heap.size w3 W) => hs3.step hb)
 have x7 : w3.cell? ⟨w.heap.size + 1, 7, none⟩ = some (.int .i64 (j : Int)) := by rw [← hj]; exact (HKQ.out w3 HB3.out).cell 7
 have p2 := Blk.c2 (HPB.out w3 HD3.out)
 clear hn hbk hj hbR hmR hs3 t0 t1 t2
 by_cases hjl : j < m.repos[i].refs[k].versions.length
 case neg =>
  have j1 : (m.repos[i].refs[k].versions.length : Int) ≤ (j : Int) := by omega
  have HV := hide (version_far (vs := m.repos[i].refs[k].versions) j1)
  clear hjl hv3
  go_upto_region 7 with fail
  go_quiet (fail)
  have HB4 := hide (Below.drewN' HB3.out nq)
  clear x7 p2 t3
  have HE := hide (show look m.repos[i] r = code 7 by unfold look; rw [HSE.out, HNF.out]; simp only [if_true, getD_at hk, HJ.out, HV.out])
  go_wp2_with fail
  refine (l6Code_any 7 _).mono ?_
  rintro e wc ⟨rfl, hbc⟩
  have HBC := hide (Below.t HB4.out hbc)
  clear hbc
  have ka := HKA.out wc HBC.out
  have y0 := blk_frozen ka 0
  have d0 := Blk.c0 ka
  have y1 := blk_frozen ka 1
  have d1 := Blk.c1 ka
  have y2 := blk_frozen ka 2
  have d2 := Blk.c2 ka
  have y3 := blk_frozen ka 3
  have d3 := Blk.c3 ka
  have RR := hide (ans_put ka (.int .i64 7) (.slice none 0 0) (.slice none 0 0) (.int .i64 0))
  clear ka
  go_wp2_with fail
  obtain ⟨R, RO⟩ := RR.out
  generalize ((((wc.setCell ⟨w.heap.size + 2, 0, none⟩ (.int .i64 7)).setCell ⟨w.heap.size + 2, 1, none⟩ (.slice none 0 0)).setCell ⟨w.heap.size + 2, 2, none⟩ (.slice none 0 0)).setCell ⟨w.heap.size + 2, 3, none⟩ (.int .i64 0)) = WW at R RO ⊢
  have e0 := Blk.c0 R
  have e1 := Blk.c1 R
  have e2 := Blk.c2 R
  have e3 := Blk.c3 R
  refine bodyPost_ret (v := .agg #[.int .i64 7, .slice none 0 0, .slice none 0 0, .int .i64 0]) (by simp [results, Tryz.results36, go_sem, e0, e1, e2, e3]) rfl ?_
  rw [HE.out]
  exact FreshR.code 7 (below_only (Below.t HB0.out HBC.out) RO (by omega))
 obtain ⟨p, hp⟩ : ∃ p : Nat, (p : Int) = m.repos[i].refs[k].versions.length - 1 - j := ⟨m.repos[i].refs[k].versions.length - 1 - j, by omega⟩
 have hpl : p < m.repos[i].refs[k].versions.length := by omega
 have HV := hide (version_at (b := (j : Int)) (by omega) hp hpl)
 have HVT := hide (HFX.out.2.2.2 _ (List.getElem_mem hpl))
 have HL60 := hide (show m.repos[i].refs[k].versions[p].length ≤ 60 from (treOk_iff.1 HVT.out).1)
 have HE := hide (show look m.repos[i] r = ⟨1, readable m.repos[i].rules r.user r.ref (treUnder m.repos[i].refs[k].versions[p] r.path), [], m.repos[i].refs[k].count⟩ by unfold look; rw [HSE.out, HNF.out]; simp only [if_true, getD_at hk, HJ.out, HV.out])
 have j1 : ¬ (m.repos[i].refs[k].versions.length : Int) ≤ (j : Int) := by omega
 have hw1 : IntKind.i64.wrap ((m.repos[i].refs[k].versions.length : Int) - 1) = (m.repos[i].refs[k].versions.length : Int) - 1 := IntWalk.i64_in _ (by omega)
 have hw2 : IntKind.i64.wrap ((m.repos[i].refs[k].versions.length : Int) - 1 - (j : Int)) = (p : Int) := by rw [IntWalk.i64_in _ (by omega)]; omega
 have p0' : (0 : Int) ≤ (p : Int) := by omega
 have p1' : (p : Int) < (m.repos[i].refs[k].versions.length : Int) := by omega
 clear hjl
 go_upto_region 7 with fail
 go_quiet (fail)
 obtain ⟨w4, hw4⟩ : ∃ w4, w4 = w3.drewN nq := ⟨_, rfl⟩
 have HD4 := hide (show Below w3.heap.size w3 w4 from hw4 ▸ Below.drewN' (Below.refl _ _) nq)
 have HB4 := hide (Below.t HB3.out HD4.out)
 have HC4 := hide (Below.t HD3.out HD4.out)
 rw [← hw4]
 have t3' := cell_step t3 HD4.out
 clear hw4 x7 p2 t3
 have x7 : w4.cell? ⟨w.heap.size + 1, 7, none⟩ = some (.int .i64 (j : Int)) := by rw [← HJ.out]; exact (HKQ.out w4 HB4.out).cell 7
 have p2 := Blk.c2 (HPB.out w4 HC4.out)
 have x5 := Blk.c5 (HKQ.out w4 HB4.out)
 obtain ⟨bv, ov, Av, nv, cv, fv, rfl, _, _, u0, hsv, _⟩ := slice_cells (HS3.out w4 HD4.out) hpl
 have HSV := hide (fun (W : World) (hb : Below w4.heap.size w4 W) => hsv.step hb)
 have HBd := (Below.refl w4.heap.size w4).drew
 have G := hide (show ∀ W : World, Below w4.heap.size w4 W → W.cell? ⟨w.heap.size + 1, 7, none⟩ = some (.int .i64 (j : Int)) ∧ W.cell? ⟨w.heap.size + 1, 5, none⟩ = some (.string r.path) ∧ W.cell? ⟨w0.heap.size, 2, none⟩ = some (.slice (some ⟨bR, oR, none⟩) m.repos[i].refs.length b1) ∧ W.cell? ⟨bR, oR + k * 4 + 3, none⟩ = some (.slice (some ⟨bv, ov, none⟩) m.repos[i].refs[k].versions.length b3) ∧ W.cell? ⟨bv, ov + p, none⟩ = some (.slice Av nv cv) from
  fun W hb => ⟨cell_step x7 hb, cell_step x5 hb, cell_step p2 hb, cell_step t3' hb, cell_step u0 hb⟩)
 clear x7 x5 p2 t3' u0 hsv hp hv3
 go_upto_region 9 with fail
 go_region_held3 (fun w' => w'.cell? ⟨w.heap.size + 1, 7, none⟩ = some (.int .i64 (j : Int)) ∧ w'.cell? ⟨w.heap.size + 1, 5, none⟩ = some (.string r.path) ∧ w'.cell? ⟨w0.heap.size, 2, none⟩ = some (.slice (some ⟨bR, oR, none⟩) m.repos[i].refs.length b1) ∧ w'.cell? ⟨bR, oR + k * 4 + 3, none⟩ = some (.slice (some ⟨bv, ov, none⟩) m.repos[i].refs[k].versions.length b3) ∧ w'.cell? ⟨bv, ov + p, none⟩ = some (.slice Av nv cv))
  (((with_reducible refine G.out _ ?_); (first | with_reducible exact HBd | with_reducible exact hB5)))
  (first | (go_at_call 80; refine (specTreUnder_any (l := m.repos[i].refs[k].versions[p]) r.path _ (HSV.out _ HBd) HQF.out.path (treOk_fit HVT.out) (by have := HL60.out; omega)).mono ?_; rintro e w5 ⟨v5, rfl, ho5, hb5⟩; obtain ⟨A5, c5, f5, hv5, hs5, _, _, _⟩ := own_files ho5; subst hv5; have hB5 := Below.past hb5; have HS5 := hide hs5; clear hb5 hs5 ho5))
 all_goals
  have HD5 := hide hB5
  have HB5 := hide (Below.t HB4.out hB5)
  clear hB5 hw1 hw2 p0' p1' j1
  have HC5 := hide (Below.t HC4.out HD5.out)
  have HLL := hide (show (treUnder m.repos[i].refs[k].versions[p] r.path).length ≤ 60 from Nat.le_trans (treUnder_len _ _) HL60.out)
  have HFF := hide (treUnder_fit HVT.out r.path)
  obtain ⟨ii, hi0, hz0, hz1, hz2⟩ := info_parts infoC_File
  have HM2 := hide (World.ownsRow_made (base := w5.heap.size) (e := 104) (size := 2) w5 #[] 0 nle (by simp [maxLen]) rfl)
  have HBB := hide ((Below.refl w5.heap.size w5).alloc nle (.cells #[] 104))
  generalize hL : (treUnder m.repos[i].refs[k].versions[p] r.path) = l at HE HS5 HLL HFF ⊢
  clear hL
  go_wp2_with fail
  go_loopw [8, 9] (fun v iv wr => ∃ a : Nat, a ≤ l.length ∧ iv = .int .i64 a ∧ wr.ownsRow w5.heap.size 104 2 v (readable m.repos[i].rules r.user r.ref (l.take a)).length ((readable m.repos[i].rules r.user r.ref (l.take a)).flatMap encFile) ∧ Below w5.heap.size w5 wr) (fun _ i _ => l.length - (intOf i).toNat)
  case atStart => exact ⟨0, Nat.zero_le _, rfl, HM2.out, HBB.out⟩
  case round =>
   obtain ⟨wo, hwo⟩ : ∃ wo, wo = wr := ⟨_, rfl⟩
   subst hwo
   obtain ⟨a, ha, rfl, hown, hbl⟩ := hrel
   have HBL := hide hbl
   have HLE := hide (readable_le m.repos[i].rules r.user r.ref l a)
   have hll := HLL.out
   by_cases hlt : a < l.length
   ·obtain ⟨b9, o9, rfl, _, _, s0, s1⟩ := file_cells (HS5.out.step hbl) hlt
    have HY := hide (fun (h : rulMay m.repos[i].rules r.user r.ref l[a].path false = true) => readable_yes hlt h)
    have HN := hide (fun (h : rulMay m.repos[i].rules r.user r.ref l[a].path false = false) => readable_no hlt h)
    have HFK := hide (HFF.out a hlt)
    have j1 : (a : Int) < (l.length : Int) := by omega
    have j0 : (0 : Int) ≤ (a : Int) := by omega
    have HW := hide hown
    have hs0 := HS0.out wo (Below.t HB5.out HBL.out)
    clear hown hbl
    have p1 := Blk.c1 (HPB.out wo (Below.t HC5.out HBL.out))
    have x0 := Blk.c0 (HKQ.out wo (Below.t HB5.out HBL.out))
    have x4 := Blk.c4 (HKQ.out wo (Below.t HB5.out HBL.out))
    have C1 := fun W (hh : SlR Rp.rule W B0 m.repos[i].rules.length b0 m.repos[i].rules g0) => specRulMay_any r.user r.ref l[a].path false W hh HFI.out.rules HFK.out
    cases hd : rulMay m.repos[i].rules r.user r.ref l[a].path false
    ·have HE1 := hide (HN.out hd)
     simp only [hd] at C1
     have D1 := hide C1
     clear C1 hd
     go_upto_region 14 with fail
     go_wp2_with fail
     have n0 := BelowW.nonempty wo
     have e0 := BelowW.ex (w := wo)
     have g_p1 := fun n : BelowW wo => n.cell p1
     have g_x0 := fun n : BelowW wo => n.cell x0
     have g_x4 := fun n : BelowW wo => n.cell x4
     have g_s0 := fun n : BelowW wo => n.cell s0
     clear p1 x0 x4 s0
     refine wp_region_below (by kernel_rfl) (by kernel_rfl) ?_
     repeat (go_big_quiet_step (first | (go_at_call 69; exact BelowW.calls _ (D1.out _ (BelowW.sl _ hs0)))))
     refine wpQuiet_nil ?_
     rintro w4 ⟨m4, hw4⟩
     have hb4 := m4.property
     rw [← hw4] at hb4
     clear hw4 m4 e0 g_p1 g_x0 g_x4 g_s0
     have HB4' := hide (Below.t HBL.out hb4)
     have ho4 := own_step HW.out hb4
     have HO := hide ho4
     clear hb4 ho4
     go_wp2
     refine ⟨⟨a + 1, by omega, by go_num, ?_, HB4'.out⟩, by simp [intOf]; omega⟩
     rw [HE1.out]
     exact HO.out
    ·have HE1 := hide (HY.out hd)
     simp only [hd] at C1
     have D1 := hide C1
     clear C1 hd
     go_upto_region 14 with fail
     have s0' := s0
     have s1' := s1
     go_wp2_with fail
     have n0 := BelowW.nonempty wo
     have e0 := BelowW.ex (w := wo)
     have g_p1 := fun n : BelowW wo => n.cell p1
     have g_x0 := fun n : BelowW wo => n.cell x0
     have g_x4 := fun n : BelowW wo => n.cell x4
     have g_s0 := fun n : BelowW wo => n.cell s0
     clear p1 x0 x4 s0
     refine wp_region_below (by kernel_rfl) (by kernel_rfl) ?_
     repeat (go_big_quiet_step (first | (go_at_call 69; exact BelowW.calls _ (D1.out _ (BelowW.sl _ hs0)))))
     refine wpQuiet_nil ?_
     rintro w4 ⟨m4, hw4⟩
     have hb4 := m4.property
     rw [← hw4] at hb4
     clear hw4 m4 e0 g_p1 g_x0 g_x4 g_s0
     have HB4' := hide (Below.t HBL.out hb4)
     have ho4 := own_step HW.out hb4
     have v0 := cell_step s0' hb4
     have v1 := cell_step s1' hb4
     have hle := HLE.out
     have HO4 := hide ho4
     clear hb4 ho4 s0' s1'
     go_wp2_with (at_builtin; refine wpList_append_own _ rfl _ _ 36 rfl w5.heap.size 104 ii _ 2 32 Tryz.underlying36 hi0 hz0 hz1 hz2 rfl (by decide) _ _ _ rfl (HO4.out.alloc _) ⟨_, 0, none⟩ 1 1 (encFile l[a]) rfl rfl (news_alloc _ (encFile l[a]) _) (Rp.file.one (w := w5) ⟨rfl, rfl⟩) (by unfold maxLen; omega) (by omega) (by have := HB4'.out.size; simp; omega) ?_)
     intro v' w7 hown' hgrow _
     have HO := hide hown'
     have HB7 := hide (((HB4'.out).alloc HB4'.out.size _).grown hgrow (by have := HB4'.out.size; simp; omega) (fun z hz => (HO4.out.lt z hz).1))
     clear hown' hgrow v0 v1
     go_wp2
     refine ⟨⟨a + 1, by omega, by go_num, ?_, HB7.out⟩, by simp [intOf]; omega⟩
     rw [HE1.out, List.length_append, List.flatMap_append, List.flatMap_singleton]
     exact HO.out
   ·obtain rfl : a = l.length := by omega
    rw [List.take_of_length_le nle] at hown
    obtain ⟨A6, c6, f6, rfl, hs6, hl6, hn6, hf6⟩ := own_files hown
    have HS6 := hide hs6
    have HA6 := hide (And.intro hl6 (And.intro hn6 hf6))
    have t2 := cell_step HT2.out (Below.t HD4.out (Below.t HD5.out HBL.out))
    have p2 := Blk.c2 (HPB.out wo (Below.t HC5.out HBL.out))
    have ka := HKA.out wo (Below.t HB5.out HBL.out)
    have y0 := blk_frozen ka 0
    have d0 := Blk.c0 ka
    have y1 := blk_frozen ka 1
    have d1 := Blk.c1 ka
    have y2 := blk_frozen ka 2
    have d2 := Blk.c2 ka
    have y3 := blk_frozen ka 3
    have d3 := Blk.c3 ka
    have RR := hide (ans_put ka (.int .i64 1) (.slice A6 (readable m.repos[i].rules r.user r.ref l).length c6) (.slice none 0 0) (.int .i64 m.repos[i].refs[k].count))
    clear ka
    clear hs6 hl6 hn6 hf6 hown hbl
    go_wp2_with fail
    obtain ⟨R, RO⟩ := RR.out
    generalize ((((wo.setCell ⟨w.heap.size + 2, 0, none⟩ (.int .i64 1)).setCell ⟨w.heap.size + 2, 1, none⟩ (.slice A6 (readable m.repos[i].rules r.user r.ref l).length c6)).setCell ⟨w.heap.size + 2, 2, none⟩ (.slice none 0 0)).setCell ⟨w.heap.size + 2, 3, none⟩ (.int .i64 m.repos[i].refs[k].count)) = WW at R RO ⊢
    have e0 := Blk.c0 R
    have e1 := Blk.c1 R
    have e2 := Blk.c2 R
    have e3 := Blk.c3 R
    refine bodyPost_ret (v := .agg #[.int .i64 1, .slice A6 (readable m.repos[i].rules r.user r.ref l).length c6, .slice none 0 0, .int .i64 m.repos[i].refs[k].count]) (by simp [results, Tryz.results36, go_sem, e0, e1, e2, e3]) rfl ?_
    rw [HE.out]
    obtain ⟨hl6, hn6, hf6⟩ := HA6.out
    have h15 := HL2.out
    have h16 := HB5.out.size
    exact ⟨_, f6, rfl, ⟨A6, _, c6, f6, none, 0, 0, [], rfl, by simp, HS6.out.only RO (fun z hz hm => by have := hl6 z hz; simp at hm; omega), SlR.nil⟩, hn6, fun z hz => by have := hl6 z hz; have := HB0.out.size; omega, hf6.keep (fun z hz => RO.block z (HS6.out.lt z hz) (by have := hl6 z hz; simp; omega)), below_only (Below.t HB0.out (Below.t HB5.out HBL.out)) RO (by omega)⟩
end Go.Proofs.YtnogkkcmcnhodaaGreatDoor
