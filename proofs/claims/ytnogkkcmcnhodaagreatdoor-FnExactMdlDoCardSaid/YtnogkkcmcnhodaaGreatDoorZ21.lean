/- Lemmas and walks, joined by program (wip/gen/merge.py). -/
import Derived.Test.YtnogkkcmcnhodaaGreatDoorZ16
import Derived.Test.YtnogkkcmcnhodaaGreatDoorZ20
import Derived.Test.YtnogkkcmcnhodaaGreatDoorZ5
import Derived.Test.YtnogkkcmcnhodaaGreatDoorZ11
import Derived.Test.YtnogkkcmcnhodaaGreatDoorZ13
namespace Go.Proofs.YtnogkkcmcnhodaaGreatDoor
open Go.RowKit
attribute [local go_sem ↓] Go.wp_at_zero Go.wp_at_succ
attribute [local go_sem] stayQ_normal

set_option maxHeartbeats 8000000 in
set_option maxRecDepth 100000 in
theorem l7Rule_any {i : Nat} {m : House} {r : Req} {hs cs : List Value} {fp fr : List Nat} (w : World) (hh : Rp.houseO.R w hs m fp) (hn : fp.Nodup) (hf : Free w fp) (hr : Rp.req.R w cs r fr) (hri : r.repo = (i : Int)) (hi : i < m.repos.length) (hP : ∀ p ∈ m.repos, RepoFit p) (hQ : ReqFit r) (hk45 : r.kind = 4 ∨ r.kind = 5) :
  Calls Tryz.prog 81 #[.agg hs.toArray, .agg cs.toArray] w (Admd w hs fp { m with repos := m.repos.set i (manage m.repos[i] r).1 } (manage m.repos[i] r).2) := by
 obtain ⟨fh, hm, _⟩ := le_house.2 _ _ _ _ hh
 have HHO := hide hh
 have HFO := hide hf
 have HNO := hide hn
 clear hh hn hf
 have HK45 := hide hk45
 clear hk45
 obtain ⟨E0, m0, d0, e0, rfl, _, hq⟩ := hr
 obtain rfl := hq.1
 have hm0 := hm
 obtain ⟨A0, n0, c0, f0, A1, n1, c1, f1, A2, n2, c2, f2, rfl, hff, h0, h1, h2⟩ := hm
 obtain rfl := h0.1
 obtain rfl := h1.1
 obtain rfl := h2.1
 have hmx := h2.max
 have hmq := hq.max
 have HB0 := ((((Below.refl w.heap.size w).alloc nle (.cells #[.slice A0 m.keys.length c0, .slice A1 m.used.length c1, .slice A2 m.repos.length c2] 35)).alloc (by simp) (.cells #[.int .i64 r.user, .int .i64 r.key, .int .i64 r.repo, .int .i64 r.kind, .string r.ref, .string r.path, .int .i64 r.old, .int .i64 r.back, .slice E0 r.edits.length d0, .int .i64 r.rule.user, .string r.rule.ref, .string r.rule.path, .bool r.rule.write, .int .i64 r.frm, .string r.other] 46)).alloc (by simp; omega) (.cells #[.slice none 0 0, .slice none 0 0, .slice none 0 0] 35))
 have kx := (((Blk.new w 35 #[.slice A0 m.keys.length c0, .slice A1 m.used.length c1, .slice A2 m.repos.length c2]).alloc (.cells #[.int .i64 r.user, .int .i64 r.key, .int .i64 r.repo, .int .i64 r.kind, .string r.ref, .string r.path, .int .i64 r.old, .int .i64 r.back, .slice E0 r.edits.length d0, .int .i64 r.rule.user, .string r.rule.ref, .string r.rule.path, .bool r.rule.write, .int .i64 r.frm, .string r.other] 46)).alloc (.cells #[.slice none 0 0, .slice none 0 0, .slice none 0 0] 35))
 have kq := ((Blk.new' (w := (w.alloc (.cells #[.slice A0 m.keys.length c0, .slice A1 m.used.length c1, .slice A2 m.repos.length c2] 35))) (H := w.heap.size + 1) (by simp) 46 #[.int .i64 r.user, .int .i64 r.key, .int .i64 r.repo, .int .i64 r.kind, .string r.ref, .string r.path, .int .i64 r.old, .int .i64 r.back, .slice E0 r.edits.length d0, .int .i64 r.rule.user, .string r.rule.ref, .string r.rule.path, .bool r.rule.write, .int .i64 r.frm, .string r.other]).alloc (.cells #[.slice none 0 0, .slice none 0 0, .slice none 0 0] 35))
 have kz0 := (Blk.new' (w := ((w.alloc (.cells #[.slice A0 m.keys.length c0, .slice A1 m.used.length c1, .slice A2 m.repos.length c2] 35)).alloc (.cells #[.int .i64 r.user, .int .i64 r.key, .int .i64 r.repo, .int .i64 r.kind, .string r.ref, .string r.path, .int .i64 r.old, .int .i64 r.back, .slice E0 r.edits.length d0, .int .i64 r.rule.user, .string r.rule.ref, .string r.rule.path, .bool r.rule.write, .int .i64 r.frm, .string r.other] 46))) (H := w.heap.size + 2) (by simp) 35 #[.slice none 0 0, .slice none 0 0, .slice none 0 0])
 have HKx := hide (fun (W : World) (hb : Below w.heap.size w W) => h0.step hb)
 have HUx := hide (fun (W : World) (hb : Below w.heap.size w W) => h1.step hb)
 have HRx := hide (fun (W : World) (hb : Below w.heap.size w W) => h2.step hb)
 have HEx := hide (fun (W : World) (hb : Below w.heap.size w W) => hq.step hb)
 have HHx := hide (fun (W : World) (hb : Below w.heap.size w W) => Rp.house.below hm0 hb nle)
 have HRI := hide hri
 have HPF := hide hP
 have HQF := hide hQ
 have HFI := hide (hP _ (List.getElem_mem hi))
 have i0 : (0 : Int) ≤ (i : Int) := by omega
 have i1 : (i : Int) < (m.repos.length : Int) := by omega
 clear hri hP hQ
 clear hm0 hff h0 h1 h2 hq
 go_enter Tryz.func81, Tryz.ntmps81
 go_upto_region 1 with fail
 generalize hW0 : (((w.alloc (.cells #[.slice A0 m.keys.length c0, .slice A1 m.used.length c1, .slice A2 m.repos.length c2] 35)).alloc (.cells #[.int .i64 r.user, .int .i64 r.key, .int .i64 r.repo, .int .i64 r.kind, .string r.ref, .string r.path, .int .i64 r.old, .int .i64 r.back, .slice E0 r.edits.length d0, .int .i64 r.rule.user, .string r.rule.ref, .string r.rule.path, .bool r.rule.write, .int .i64 r.frm, .string r.other] 46)).alloc (.cells #[.slice none 0 0, .slice none 0 0, .slice none 0 0] 35)) = w0 at HB0 kx kq kz0 ⊢
 clear hW0
 have HKX := hide (fun (W : World) (hb : Below w0.heap.size w0 W) => kx.step hb)
 have HKQ := hide (fun (W : World) (hb : Below w0.heap.size w0 W) => kq.step hb)
 have HB0 := hide HB0
 clear kx kq
 have HRES := hide (fun (W : World) (hb : Below w0.heap.size w0 W) => kz0.step hb)
 have HL2 := hide kz0.lt
 clear kz0
 obtain ⟨A0w, c0w, A1w, c1w, b, c2w, B0, b0, B1, b1, f, hch, hRA⟩ := repo_at HHO.out HNO.out hi
 cases hch
 have HRA := hide hRA
 have q0 : w0.cell? ⟨b, i * 3, none⟩ = some (.int .i64 m.repos[i].admin) := cell_step hRA.cells.at0 HB0.out
 have q1 : w0.cell? ⟨b, i * 3 + 1, none⟩ = some (.slice B0 m.repos[i].rules.length b0) := cell_step hRA.cells.tail.at0 HB0.out
 have q2 : w0.cell? ⟨b, i * 3 + 2, none⟩ = some (.slice B1 m.repos[i].refs.length b1) := cell_step hRA.cells.tail.tail.at0 HB0.out
 clear hRA
 have HFZ := hide (fun (W : World) (hb : Below w.heap.size w W) (j : Nat) => (show W.frozen? ⟨b, j, none⟩ = false from by
  obtain ⟨cur, hcur⟩ := HRA.out.typ
  have e := (hb.block b (HRA.out.old _ HRA.out.bin)).trans hcur
  simp [World.frozen?, e]))
 have HBL := hide (HRA.out.old _ HRA.out.bin)
 have hr0 := HRA.out.rp
 obtain ⟨_, _, _, g0, _, _, he0, _, hs0, _⟩ := hr0
 simp only [List.cons.injEq, Value.slice.injEq, and_true] at he0
 obtain ⟨_, ⟨rfl, rfl, rfl⟩, rfl⟩ := he0
 have H0x := hide (fun (W : World) (hb : Below w.heap.size w W) => hs0.step hb)
 clear hs0
 have i2 := Blk.c2 (HKX.out w0 (Below.refl _ _))
 have x2 : w0.cell? ⟨w.heap.size + 1, 2, none⟩ = some (.int .i64 (i : Int)) := by rw [← HRI.out]; exact (HKQ.out w0 (Below.refl _ _)).cell 2
 go_upto_region 2 with fail
 obtain ⟨w1, hw1⟩ : ∃ w1, w1 = w0.alloc (.cells #[.int .i64 m.repos[i].admin, .slice B0 m.repos[i].rules.length b0, .slice B1 m.repos[i].refs.length b1] 96) := ⟨_, rfl⟩
 rw [← hw1]
 have HB1 := hide (show Below w0.heap.size w0 w1 from hw1 ▸ (Below.refl _ _).alloc nle _)
 have kp := (show Blk w1 w0.heap.size 96 #[.int .i64 m.repos[i].admin, .slice B0 m.repos[i].rules.length b0, .slice B1 m.repos[i].refs.length b1] from hw1 ▸ Blk.new w0 _ _)
 have HPB := hide (fun (W : World) (hb : Below w1.heap.size w1 W) => kp.step hb)
 have HLT1 := hide kp.lt
 clear hw1 kp i2 x2 q0 q1 q2
 have HL := hide (show m.repos[i].rules.length ≤ 6 from HFI.out.nrules)
 by_cases k4 : r.kind = 4
 case pos =>
  have K4 := hide k4
  have x3 : w1.cell? ⟨w.heap.size + 1, 3, none⟩ = some (.int .i64 4) := by rw [← K4.out]; exact (HKQ.out w1 HB1.out).cell 3
  clear k4
  have p1 := Blk.c1 (HPB.out w1 (Below.refl _ _))
  by_cases h6 : m.repos[i].rules.length = 6
  case pos =>
   have HE := hide (show manage m.repos[i] r = (m.repos[i], 9) by unfold manage; rw [if_pos K4.out, if_pos h6])
   have h6i : (m.repos[i].rules.length : Int) = 6 := by omega
   clear h6
   go_upto_region 5 with fail
   have kxw : Blk w1 w.heap.size 35 #[.slice A0 m.keys.length c0, .slice A1 m.used.length c1, .slice (some ⟨b, 0, none⟩) m.repos.length c2] := (HKX.out w1 HB1.out).out
   have krw : Blk w1 (w.heap.size + 2) 35 #[.slice none 0 0, .slice none 0 0, .slice none 0 0] := (HRES.out w1 HB1.out).out
   have f0 := Blk.c0 kxw
   have f1 := Blk.c1 kxw
   have f2 := Blk.c2 kxw
   have g0 := Blk.c0 krw
   have g1 := Blk.c1 krw
   have g2 := Blk.c2 krw
   have y0 := blk_frozen krw 0
   have y1 := blk_frozen krw 1
   have y2 := blk_frozen krw 2
   have R := hide (show Blk (((w1.setCell ⟨w.heap.size + 2, 0, none⟩ (.slice A0 m.keys.length c0)).setCell ⟨w.heap.size + 2, 1, none⟩ (.slice A1 m.used.length c1)).setCell ⟨w.heap.size + 2, 2, none⟩ (.slice (some ⟨b, 0, none⟩) m.repos.length c2)) (w.heap.size + 2) 35 #[.slice A0 m.keys.length c0, .slice A1 m.used.length c1, .slice (some ⟨b, 0, none⟩) m.repos.length c2] from by simpa using ((krw.put 0 (.slice A0 m.keys.length c0)).put 1 (.slice A1 m.used.length c1)).put 2 (.slice (some ⟨b, 0, none⟩) m.repos.length c2))
   have RO := hide ((((Only.refl [w.heap.size + 2] w1).setCell (p := ⟨w.heap.size + 2, 0, none⟩) (.inl (by simp)) (.slice A0 m.keys.length c0)).setCell (p := ⟨w.heap.size + 2, 1, none⟩) (.inl (by simp)) (.slice A1 m.used.length c1)).setCell (p := ⟨w.heap.size + 2, 2, none⟩) (.inl (by simp)) (.slice (some ⟨b, 0, none⟩) m.repos.length c2))
   clear kxw krw x3 p1
   go_wp2_with fail
   have R := R.out
   have RO := RO.out
   generalize ((w1.setCell ⟨w.heap.size + 2, 0, none⟩ (.slice A0 m.keys.length c0)).setCell ⟨w.heap.size + 2, 1, none⟩ (.slice A1 m.used.length c1)).setCell ⟨w.heap.size + 2, 2, none⟩ (.slice (some ⟨b, 0, none⟩) m.repos.length c2) = WW at R RO ⊢
   have z0 := Blk.c0 R
   have z1 := Blk.c1 R
   have z2 := Blk.c2 R
   refine bodyPost_ret (v := .tuple #[.agg #[.slice A0 m.keys.length c0, .slice A1 m.used.length c1, .slice (some ⟨b, 0, none⟩) m.repos.length c2], .int .i64 9]) (by simp [results, Tryz.results81, go_sem, z0, z1, z2]) rfl ?_
   rw [HE.out]
   simp only [List.set_getElem_self]
   exact admd_same _ HHO.out (Below.t HB0.out HB1.out) RO (by omega)
  have H6 := hide h6
  have h6i : ¬ (m.repos[i].rules.length : Int) = 6 := by omega
  clear h6
  go_upto_region 6 with fail
  have x9 := Blk.c9 (HKQ.out w1 HB1.out)
  have x10 := Blk.c10 (HKQ.out w1 HB1.out)
  have x11 := Blk.c11 (HKQ.out w1 HB1.out)
  have x12 := Blk.c12 (HKQ.out w1 HB1.out)
  have p1 := Blk.c1 (HPB.out w1 (Below.refl _ _))
  go_wp2_with fail
  refine (specRulPut_any (l := m.repos[i].rules) r.rule _ (H0x.out _ (Below.t HB0.out HB1.out)) (by have := HL.out; omega) HFI.out.rules HQF.out.rule).mono ?_
  rintro e w4 ⟨v4, rfl, ho4, hb4⟩
  obtain ⟨A4, c4, f4, hv4, hs4, hl4, _, _⟩ := own_sl (k := 4) (enc := encRule) (hk := fun _ => rfl) (h1 := encRule_one) ho4
  subst hv4
  have HB4 := hide hb4
  have HS4 := hide hs4
  have HL4 := hide hl4
  clear ho4 hs4 hl4 hb4 x3 x9 x10 x11 x12 p1
  have kp4 := HPB.out w4 HB4.out
  have p1 := kp4.cell 1
  have yp1 := blk_frozen kp4 1
  have HP5 := hide (show Blk (w4.setCell ⟨w0.heap.size, 1, none⟩ (.slice A4 (rulPut m.repos[i].rules r.rule).length c4)) w0.heap.size 96 #[.int .i64 m.repos[i].admin, .slice A4 (rulPut m.repos[i].rules r.rule).length c4, .slice B1 m.repos[i].refs.length b1] from by simpa using kp4.put 1 (.slice A4 (rulPut m.repos[i].rules r.rule).length c4))
  have HB5 := hide (show Below w0.heap.size w0 (w4.setCell ⟨w0.heap.size, 1, none⟩ (.slice A4 (rulPut m.repos[i].rules r.rule).length c4)) from (Below.t HB1.out HB4.out).setCell nle _)
  have HO5 := hide (only_setCell w4 w0.heap.size 1 (.slice A4 (rulPut m.repos[i].rules r.rule).length c4))
  clear kp4
  cases hok : putOk m.repos[i].rules r.rule
  ·have HE := hide (show manage m.repos[i] r = (m.repos[i], 7) by unfold manage; rw [if_pos K4.out, if_neg H6.out]; simp [hok])
   clear hok
   go_upto_region 9 with fail
   obtain ⟨w5, hw5⟩ : ∃ w5, w5 = w4.setCell ⟨w0.heap.size, 1, none⟩ (.slice A4 (rulPut m.repos[i].rules r.rule).length c4) := ⟨_, rfl⟩
   rw [← hw5] at HB5 ⊢
   clear hw5 HP5 HO5 p1 yp1
   have kxw : Blk w5 w.heap.size 35 #[.slice A0 m.keys.length c0, .slice A1 m.used.length c1, .slice (some ⟨b, 0, none⟩) m.repos.length c2] := (HKX.out w5 HB5.out).out
   have krw : Blk w5 (w.heap.size + 2) 35 #[.slice none 0 0, .slice none 0 0, .slice none 0 0] := (HRES.out w5 HB5.out).out
   have f0 := Blk.c0 kxw
   have f1 := Blk.c1 kxw
   have f2 := Blk.c2 kxw
   have g0 := Blk.c0 krw
   have g1 := Blk.c1 krw
   have g2 := Blk.c2 krw
   have y0 := blk_frozen krw 0
   have y1 := blk_frozen krw 1
   have y2 := blk_frozen krw 2
   have R := hide (show Blk (((w5.setCell ⟨w.heap.size + 2, 0, none⟩ (.slice A0 m.keys.length c0)).setCell ⟨w.heap.size + 2, 1, none⟩ (.slice A1 m.used.length c1)).setCell ⟨w.heap.size + 2, 2, none⟩ (.slice (some ⟨b, 0, none⟩) m.repos.length c2)) (w.heap.size + 2) 35 #[.slice A0 m.keys.length c0, .slice A1 m.used.length c1, .slice (some ⟨b, 0, none⟩) m.repos.length c2] from by simpa using ((krw.put 0 (.slice A0 m.keys.length c0)).put 1 (.slice A1 m.used.length c1)).put 2 (.slice (some ⟨b, 0, none⟩) m.repos.length c2))
   have RO := hide ((((Only.refl [w.heap.size + 2] w5).setCell (p := ⟨w.heap.size + 2, 0, none⟩) (.inl (by simp)) (.slice A0 m.keys.length c0)).setCell (p := ⟨w.heap.size + 2, 1, none⟩) (.inl (by simp)) (.slice A1 m.used.length c1)).setCell (p := ⟨w.heap.size + 2, 2, none⟩) (.inl (by simp)) (.slice (some ⟨b, 0, none⟩) m.repos.length c2))
   clear kxw krw 
   go_wp2_with fail
   have R := R.out
   have RO := RO.out
   generalize ((w5.setCell ⟨w.heap.size + 2, 0, none⟩ (.slice A0 m.keys.length c0)).setCell ⟨w.heap.size + 2, 1, none⟩ (.slice A1 m.used.length c1)).setCell ⟨w.heap.size + 2, 2, none⟩ (.slice (some ⟨b, 0, none⟩) m.repos.length c2) = WW at R RO ⊢
   have z0 := Blk.c0 R
   have z1 := Blk.c1 R
   have z2 := Blk.c2 R
   refine bodyPost_ret (v := .tuple #[.agg #[.slice A0 m.keys.length c0, .slice A1 m.used.length c1, .slice (some ⟨b, 0, none⟩) m.repos.length c2], .int .i64 7]) (by simp [results, Tryz.results81, go_sem, z0, z1, z2]) rfl ?_
   rw [HE.out]
   simp only [List.set_getElem_self]
   exact admd_same _ HHO.out (Below.t HB0.out HB5.out) RO (by omega)
  ·have HE := hide (show manage m.repos[i] r = ({ m.repos[i] with rules := rulPut m.repos[i].rules r.rule }, 1) by unfold manage; rw [if_pos K4.out, if_neg H6.out]; simp [hok])
   clear hok
   go_upto_region 10 with fail
   obtain ⟨w5, hw5⟩ : ∃ w5, w5 = w4.setCell ⟨w0.heap.size, 1, none⟩ (.slice A4 (rulPut m.repos[i].rules r.rule).length c4) := ⟨_, rfl⟩
   rw [← hw5] at HB5 HP5 HO5 ⊢
   clear hw5 p1 yp1
   have kp5 := HP5.out
   have p0 := Blk.c0 kp5
   have p1 := Blk.c1 kp5
   have p2 := Blk.c2 kp5
   have i2 := Blk.c2 (HKX.out w5 HB5.out)
   have x2 : w5.cell? ⟨w.heap.size + 1, 2, none⟩ = some (.int .i64 (i : Int)) := by rw [← HRI.out]; exact (HKQ.out w5 HB5.out).cell 2
   have b0' : w5.cell? ⟨b, i * 3, none⟩ = some (.int .i64 m.repos[i].admin) := cell_step HRA.out.cells.at0 (Below.t HB0.out HB5.out)
   have b1' : w5.cell? ⟨b, i * 3 + 1, none⟩ = some (.slice B0 m.repos[i].rules.length b0) := cell_step HRA.out.cells.tail.at0 (Below.t HB0.out HB5.out)
   have b2' : w5.cell? ⟨b, i * 3 + 2, none⟩ = some (.slice B1 m.repos[i].refs.length b1) := cell_step HRA.out.cells.tail.tail.at0 (Below.t HB0.out HB5.out)
   have yb0 := HFZ.out w5 (Below.t HB0.out HB5.out) (i * 3)
   have yb1 := HFZ.out w5 (Below.t HB0.out HB5.out) (i * 3 + 1)
   have yb2 := HFZ.out w5 (Below.t HB0.out HB5.out) (i * 3 + 2)
   clear kp5
   go_upto_region 11 with fail
   obtain ⟨w6, hw6⟩ : ∃ w6, w6 = put3 w5 b (i * 3) (.int .i64 m.repos[i].admin) (.slice A4 (rulPut m.repos[i].rules r.rule).length c4) (.slice B1 m.repos[i].refs.length b1) := ⟨_, rfl⟩
   have hw6' := hw6
   unfold put3 at hw6'
   rw [← hw6']
   have HW6 := hide hw6
   have HSZ := hide HB0.out.size
   have kx6 : Blk w6 w.heap.size 35 #[.slice A0 m.keys.length c0, .slice A1 m.used.length c1, .slice (some ⟨b, 0, none⟩) m.repos.length c2] := hw6 ▸ (put3_other (by have := HBL.out; omega)).trans (HKX.out w5 HB5.out).out
   have kr6 : Blk w6 (w.heap.size + 2) 35 #[.slice none 0 0, .slice none 0 0, .slice none 0 0] := hw6 ▸ (put3_other (by have := HBL.out; omega)).trans (HRES.out w5 HB5.out).out
   have KX6 := hide kx6
   have KR6 := hide kr6
   clear hw6 hw6' p0 p1 p2 i2 x2 b0' b1' b2' yb0 yb1 yb2 kx6 kr6
   have kxw : Blk w6 w.heap.size 35 #[.slice A0 m.keys.length c0, .slice A1 m.used.length c1, .slice (some ⟨b, 0, none⟩) m.repos.length c2] := KX6.out
   have krw : Blk w6 (w.heap.size + 2) 35 #[.slice none 0 0, .slice none 0 0, .slice none 0 0] := KR6.out
   have f0 := Blk.c0 kxw
   have f1 := Blk.c1 kxw
   have f2 := Blk.c2 kxw
   have g0 := Blk.c0 krw
   have g1 := Blk.c1 krw
   have g2 := Blk.c2 krw
   have y0 := blk_frozen krw 0
   have y1 := blk_frozen krw 1
   have y2 := blk_frozen krw 2
   have R := hide (show Blk (((w6.setCell ⟨w.heap.size + 2, 0, none⟩ (.slice A0 m.keys.length c0)).setCell ⟨w.heap.size + 2, 1, none⟩ (.slice A1 m.used.length c1)).setCell ⟨w.heap.size + 2, 2, none⟩ (.slice (some ⟨b, 0, none⟩) m.repos.length c2)) (w.heap.size + 2) 35 #[.slice A0 m.keys.length c0, .slice A1 m.used.length c1, .slice (some ⟨b, 0, none⟩) m.repos.length c2] from by simpa using ((krw.put 0 (.slice A0 m.keys.length c0)).put 1 (.slice A1 m.used.length c1)).put 2 (.slice (some ⟨b, 0, none⟩) m.repos.length c2))
   have RO := hide ((((Only.refl [w.heap.size + 2] w6).setCell (p := ⟨w.heap.size + 2, 0, none⟩) (.inl (by simp)) (.slice A0 m.keys.length c0)).setCell (p := ⟨w.heap.size + 2, 1, none⟩) (.inl (by simp)) (.slice A1 m.used.length c1)).setCell (p := ⟨w.heap.size + 2, 2, none⟩) (.inl (by simp)) (.slice (some ⟨b, 0, none⟩) m.repos.length c2))
   clear kxw krw 
   go_wp2_with fail
   have R := R.out
   have RO := RO.out
   generalize ((w6.setCell ⟨w.heap.size + 2, 0, none⟩ (.slice A0 m.keys.length c0)).setCell ⟨w.heap.size + 2, 1, none⟩ (.slice A1 m.used.length c1)).setCell ⟨w.heap.size + 2, 2, none⟩ (.slice (some ⟨b, 0, none⟩) m.repos.length c2) = WW at R RO ⊢
   have z0 := Blk.c0 R
   have z1 := Blk.c1 R
   have z2 := Blk.c2 R
   refine bodyPost_ret (v := .tuple #[.agg #[.slice A0 m.keys.length c0, .slice A1 m.used.length c1, .slice (some ⟨b, 0, none⟩) m.repos.length c2], .int .i64 1]) (by simp [results, Tryz.results81, go_sem, z0, z1, z2]) rfl ?_
   rw [HE.out]
   rw [HW6.out] at RO
   have hsz0 := HL2.out
   have h01 := HLT1.out
   have hsr := HS4.out.only HO5.out (fun z hz hm => by simp at hm; have := HL4.out z hz; omega)
   obtain ⟨f', hp', hf'⟩ := HRA.out.rules (Below.t HB0.out HB5.out) hsr
   exact HRA.out.put 1 (Below.t HB0.out HB5.out) hp' (fun z hz => by
    rcases hf' z hz with h1 | h1
    ·have := HL4.out z h1
     have := HB0.out.size
     exact ⟨.inr (by omega), by omega⟩
    ·have := HRA.out.old z (HRA.out.sub z h1)
     exact ⟨.inl h1, by omega⟩) RO (by omega)
 have K4 := hide k4
 have K5 := hide (show r.kind = 5 from HK45.out.resolve_left k4)
 clear k4
 have x3 : w1.cell? ⟨w.heap.size + 1, 3, none⟩ = some (.int .i64 5) := by rw [← K5.out]; exact (HKQ.out w1 HB1.out).cell 3
 go_upto_region 7 with fail
 have x9 := Blk.c9 (HKQ.out w1 HB1.out)
 have x10 := Blk.c10 (HKQ.out w1 HB1.out)
 have x11 := Blk.c11 (HKQ.out w1 HB1.out)
 have x12 := Blk.c12 (HKQ.out w1 HB1.out)
 have p1 := Blk.c1 (HPB.out w1 (Below.refl _ _))
 go_wp2_with fail
 refine (specRulOut_any (l := m.repos[i].rules) r.rule _ (H0x.out _ (Below.t HB0.out HB1.out)) (by have := HL.out; omega)).mono ?_
 rintro e w4 ⟨v4, rfl, ho4, hb4⟩
 obtain ⟨A4, c4, f4, hv4, hs4, hl4, _, _⟩ := own_sl (k := 4) (enc := encRule) (hk := fun _ => rfl) (h1 := encRule_one) ho4
 subst hv4
 have HB4 := hide hb4
 have HS4 := hide hs4
 have HL4 := hide hl4
 clear ho4 hs4 hl4 hb4 x3 x9 x10 x11 x12 p1
 have kp4 := HPB.out w4 HB4.out
 have p1 := kp4.cell 1
 have yp1 := blk_frozen kp4 1
 have HP5 := hide (show Blk (w4.setCell ⟨w0.heap.size, 1, none⟩ (.slice A4 (rulOut m.repos[i].rules r.rule).length c4)) w0.heap.size 96 #[.int .i64 m.repos[i].admin, .slice A4 (rulOut m.repos[i].rules r.rule).length c4, .slice B1 m.repos[i].refs.length b1] from by simpa using kp4.put 1 (.slice A4 (rulOut m.repos[i].rules r.rule).length c4))
 have HB5 := hide (show Below w0.heap.size w0 (w4.setCell ⟨w0.heap.size, 1, none⟩ (.slice A4 (rulOut m.repos[i].rules r.rule).length c4)) from (Below.t HB1.out HB4.out).setCell nle _)
 have HO5 := hide (only_setCell w4 w0.heap.size 1 (.slice A4 (rulOut m.repos[i].rules r.rule).length c4))
 clear kp4
 cases hok : decide ((rulOut m.repos[i].rules r.rule).length < m.repos[i].rules.length)
 ·have HE := hide (show manage m.repos[i] r = (m.repos[i], 7) by unfold manage; rw [if_neg K4.out, if_pos K5.out]; rw [if_neg (by simpa using hok)])
  clear hok
  go_upto_region 9 with fail
  obtain ⟨w5, hw5⟩ : ∃ w5, w5 = w4.setCell ⟨w0.heap.size, 1, none⟩ (.slice A4 (rulOut m.repos[i].rules r.rule).length c4) := ⟨_, rfl⟩
  rw [← hw5] at HB5 ⊢
  clear hw5 HP5 HO5 p1 yp1
  have kxw : Blk w5 w.heap.size 35 #[.slice A0 m.keys.length c0, .slice A1 m.used.length c1, .slice (some ⟨b, 0, none⟩) m.repos.length c2] := (HKX.out w5 HB5.out).out
  have krw : Blk w5 (w.heap.size + 2) 35 #[.slice none 0 0, .slice none 0 0, .slice none 0 0] := (HRES.out w5 HB5.out).out
  have f0 := Blk.c0 kxw
  have f1 := Blk.c1 kxw
  have f2 := Blk.c2 kxw
  have g0 := Blk.c0 krw
  have g1 := Blk.c1 krw
  have g2 := Blk.c2 krw
  have y0 := blk_frozen krw 0
  have y1 := blk_frozen krw 1
  have y2 := blk_frozen krw 2
  have R := hide (show Blk (((w5.setCell ⟨w.heap.size + 2, 0, none⟩ (.slice A0 m.keys.length c0)).setCell ⟨w.heap.size + 2, 1, none⟩ (.slice A1 m.used.length c1)).setCell ⟨w.heap.size + 2, 2, none⟩ (.slice (some ⟨b, 0, none⟩) m.repos.length c2)) (w.heap.size + 2) 35 #[.slice A0 m.keys.length c0, .slice A1 m.used.length c1, .slice (some ⟨b, 0, none⟩) m.repos.length c2] from by simpa using ((krw.put 0 (.slice A0 m.keys.length c0)).put 1 (.slice A1 m.used.length c1)).put 2 (.slice (some ⟨b, 0, none⟩) m.repos.length c2))
  have RO := hide ((((Only.refl [w.heap.size + 2] w5).setCell (p := ⟨w.heap.size + 2, 0, none⟩) (.inl (by simp)) (.slice A0 m.keys.length c0)).setCell (p := ⟨w.heap.size + 2, 1, none⟩) (.inl (by simp)) (.slice A1 m.used.length c1)).setCell (p := ⟨w.heap.size + 2, 2, none⟩) (.inl (by simp)) (.slice (some ⟨b, 0, none⟩) m.repos.length c2))
  clear kxw krw 
  go_wp2_with fail
  have R := R.out
  have RO := RO.out
  generalize ((w5.setCell ⟨w.heap.size + 2, 0, none⟩ (.slice A0 m.keys.length c0)).setCell ⟨w.heap.size + 2, 1, none⟩ (.slice A1 m.used.length c1)).setCell ⟨w.heap.size + 2, 2, none⟩ (.slice (some ⟨b, 0, none⟩) m.repos.length c2) = WW at R RO ⊢
  have z0 := Blk.c0 R
  have z1 := Blk.c1 R
  have z2 := Blk.c2 R
  refine bodyPost_ret (v := .tuple #[.agg #[.slice A0 m.keys.length c0, .slice A1 m.used.length c1, .slice (some ⟨b, 0, none⟩) m.repos.length c2], .int .i64 7]) (by simp [results, Tryz.results81, go_sem, z0, z1, z2]) rfl ?_
  rw [HE.out]
  simp only [List.set_getElem_self]
  exact admd_same _ HHO.out (Below.t HB0.out HB5.out) RO (by omega)
 ·have HE := hide (show manage m.repos[i] r = ({ m.repos[i] with rules := rulOut m.repos[i].rules r.rule }, 1) by unfold manage; rw [if_neg K4.out, if_pos K5.out]; rw [if_pos (by simpa using hok)])
  clear hok
  go_upto_region 10 with fail
  obtain ⟨w5, hw5⟩ : ∃ w5, w5 = w4.setCell ⟨w0.heap.size, 1, none⟩ (.slice A4 (rulOut m.repos[i].rules r.rule).length c4) := ⟨_, rfl⟩
  rw [← hw5] at HB5 HP5 HO5 ⊢
  clear hw5 p1 yp1
  have kp5 := HP5.out
  have p0 := Blk.c0 kp5
  have p1 := Blk.c1 kp5
  have p2 := Blk.c2 kp5
  have i2 := Blk.c2 (HKX.out w5 HB5.out)
  have x2 : w5.cell? ⟨w.heap.size + 1, 2, none⟩ = some (.int .i64 (i : Int)) := by rw [← HRI.out]; exact (HKQ.out w5 HB5.out).cell 2
  have b0' : w5.cell? ⟨b, i * 3, none⟩ = some (.int .i64 m.repos[i].admin) := cell_step HRA.out.cells.at0 (Below.t HB0.out HB5.out)
  have b1' : w5.cell? ⟨b, i * 3 + 1, none⟩ = some (.slice B0 m.repos[i].rules.length b0) := cell_step HRA.out.cells.tail.at0 (Below.t HB0.out HB5.out)
  have b2' : w5.cell? ⟨b, i * 3 + 2, none⟩ = some (.slice B1 m.repos[i].refs.length b1) := cell_step HRA.out.cells.tail.tail.at0 (Below.t HB0.out HB5.out)
  have yb0 := HFZ.out w5 (Below.t HB0.out HB5.out) (i * 3)
  have yb1 := HFZ.out w5 (Below.t HB0.out HB5.out) (i * 3 + 1)
  have yb2 := HFZ.out w5 (Below.t HB0.out HB5.out) (i * 3 + 2)
  clear kp5
  go_upto_region 11 with fail
  obtain ⟨w6, hw6⟩ : ∃ w6, w6 = put3 w5 b (i * 3) (.int .i64 m.repos[i].admin) (.slice A4 (rulOut m.repos[i].rules r.rule).length c4) (.slice B1 m.repos[i].refs.length b1) := ⟨_, rfl⟩
  have hw6' := hw6
  unfold put3 at hw6'
  rw [← hw6']
  have HW6 := hide hw6
  have HSZ := hide HB0.out.size
  have kx6 : Blk w6 w.heap.size 35 #[.slice A0 m.keys.length c0, .slice A1 m.used.length c1, .slice (some ⟨b, 0, none⟩) m.repos.length c2] := hw6 ▸ (put3_other (by have := HBL.out; omega)).trans (HKX.out w5 HB5.out).out
  have kr6 : Blk w6 (w.heap.size + 2) 35 #[.slice none 0 0, .slice none 0 0, .slice none 0 0] := hw6 ▸ (put3_other (by have := HBL.out; omega)).trans (HRES.out w5 HB5.out).out
  have KX6 := hide kx6
  have KR6 := hide kr6
  clear hw6 hw6' p0 p1 p2 i2 x2 b0' b1' b2' yb0 yb1 yb2 kx6 kr6
  have kxw : Blk w6 w.heap.size 35 #[.slice A0 m.keys.length c0, .slice A1 m.used.length c1, .slice (some ⟨b, 0, none⟩) m.repos.length c2] := KX6.out
  have krw : Blk w6 (w.heap.size + 2) 35 #[.slice none 0 0, .slice none 0 0, .slice none 0 0] := KR6.out
  have f0 := Blk.c0 kxw
  have f1 := Blk.c1 kxw
  have f2 := Blk.c2 kxw
  have g0 := Blk.c0 krw
  have g1 := Blk.c1 krw
  have g2 := Blk.c2 krw
  have y0 := blk_frozen krw 0
  have y1 := blk_frozen krw 1
  have y2 := blk_frozen krw 2
  have R := hide (show Blk (((w6.setCell ⟨w.heap.size + 2, 0, none⟩ (.slice A0 m.keys.length c0)).setCell ⟨w.heap.size + 2, 1, none⟩ (.slice A1 m.used.length c1)).setCell ⟨w.heap.size + 2, 2, none⟩ (.slice (some ⟨b, 0, none⟩) m.repos.length c2)) (w.heap.size + 2) 35 #[.slice A0 m.keys.length c0, .slice A1 m.used.length c1, .slice (some ⟨b, 0, none⟩) m.repos.length c2] from by simpa using ((krw.put 0 (.slice A0 m.keys.length c0)).put 1 (.slice A1 m.used.length c1)).put 2 (.slice (some ⟨b, 0, none⟩) m.repos.length c2))
  have RO := hide ((((Only.refl [w.heap.size + 2] w6).setCell (p := ⟨w.heap.size + 2, 0, none⟩) (.inl (by simp)) (.slice A0 m.keys.length c0)).setCell (p := ⟨w.heap.size + 2, 1, none⟩) (.inl (by simp)) (.slice A1 m.used.length c1)).setCell (p := ⟨w.heap.size + 2, 2, none⟩) (.inl (by simp)) (.slice (some ⟨b, 0, none⟩) m.repos.length c2))
  clear kxw krw 
  go_wp2_with fail
  have R := R.out
  have RO := RO.out
  generalize ((w6.setCell ⟨w.heap.size + 2, 0, none⟩ (.slice A0 m.keys.length c0)).setCell ⟨w.heap.size + 2, 1, none⟩ (.slice A1 m.used.length c1)).setCell ⟨w.heap.size + 2, 2, none⟩ (.slice (some ⟨b, 0, none⟩) m.repos.length c2) = WW at R RO ⊢
  have z0 := Blk.c0 R
  have z1 := Blk.c1 R
  have z2 := Blk.c2 R
  refine bodyPost_ret (v := .tuple #[.agg #[.slice A0 m.keys.length c0, .slice A1 m.used.length c1, .slice (some ⟨b, 0, none⟩) m.repos.length c2], .int .i64 1]) (by simp [results, Tryz.results81, go_sem, z0, z1, z2]) rfl ?_
  rw [HE.out]
  rw [HW6.out] at RO
  have hsz0 := HL2.out
  have h01 := HLT1.out
  have hsr := HS4.out.only HO5.out (fun z hz hm => by simp at hm; have := HL4.out z hz; omega)
  obtain ⟨f', hp', hf'⟩ := HRA.out.rules (Below.t HB0.out HB5.out) hsr
  exact HRA.out.put 1 (Below.t HB0.out HB5.out) hp' (fun z hz => by
   rcases hf' z hz with h1 | h1
   ·have := HL4.out z h1
    have := HB0.out.size
    exact ⟨.inr (by omega), by omega⟩
   ·have := HRA.out.old z (HRA.out.sub z h1)
    exact ⟨.inl h1, by omega⟩) RO (by omega)
theorem refIdx_none {l : List Ref} {n : ByteArray} (h : refIdx l n = none) : ∀ y ∈ l, y.name ≠ n := fun y hy e => by
 have := List.findIdx?_eq_none_iff.1 h y hy
 simp [e] at this
theorem refFits_nam {s : ByteArray} (h : refFits s = true) : namOk s = !decide (s = ByteArray.empty) := by
 unfold refFits at h
 by_cases e : s = ByteArray.empty
 ·subst e; rfl
 ·simpa [e] using h
theorem drop_none {α : Type} {r : Rp α} {w : World} {l : List α} {k c : Nat} (B : Option Addr) (hk : c = k) (hl : l.length ≤ c) : SlR r w B (l.length - k) 0 (l.drop k) [] := by
 have e1 : l.length - k = 0 := by omega
 rw [e1, List.drop_eq_nil_of_le (by omega)]
 exact ⟨rfl, Nat.le_refl _, by simp [maxLen], [], [], [], ⟨by simp, .inl ⟨rfl, rfl⟩⟩, ⟨rfl, rfl⟩, rfl⟩
theorem refs_cut {w2 wa w6 w8 : World} {v8 : Value} {l1 l2 : List Ref} {xs6 xs8 : List Value} {f6 f8 : List Nat} {n : Nat} (hbA : Below w2.heap.size w2 wa) (ha6 : AllR Rp.ref wa xs6 l1 f6) (hb6 : Below w2.heap.size w2 w6) (ha8 : AllR Rp.ref w6 xs8 l2 f8) (hb8 : Below w2.heap.size w2 w8)
  (ho8 : w8.ownsRow w2.heap.size 99 4 v8 n ([] ++ xs6 ++ xs8)) (hn : n = (l1 ++ l2).length) (h6 : ∀ z ∈ f6, z < w2.heap.size) (h8 : ∀ z ∈ f8, z < w2.heap.size) :
  ∃ A c fr, v8 = .slice A n c ∧ SlR Rp.ref w8 A n c (l1 ++ l2) fr ∧ ∀ z ∈ fr, z ∈ f6 ∨ z ∈ f8 ∨ w2.heap.size ≤ z := by
 have hal : AllR Rp.ref w8 ([] ++ xs6 ++ xs8) (l1 ++ l2) (f6 ++ f8) := by
  rw [List.nil_append]
  exact (ha6.keep fun z hz => (hb8.block z (h6 z hz)).trans (hbA.block z (h6 z hz)).symm).append (ha8.keep fun z hz => (hb8.block z (h8 z hz)).trans (hb6.block z (h8 z hz)).symm)
 subst hn
 obtain ⟨A, c, f0, hv, hs, h0, _, _⟩ := SlR.of_owns (r := Rp.ref) ho8 hal
 refine ⟨A, c, _, hv, hs, fun z hz => ?_⟩
 rcases List.mem_append.1 hz with h | h
 ·exact .inr (.inr (h0 z h).2)
 ·rcases List.mem_append.1 h with h | h
  ·exact .inl h
  ·exact .inr (.inl h)

set_option maxHeartbeats 8000000 in
set_option maxRecDepth 100000 in
theorem l7RefOf_any {i : Nat} {m : House} {r : Req} {hs cs : List Value} {fp fr : List Nat} (w : World) (hh : Rp.houseO.R w hs m fp) (hn : fp.Nodup) (hf : Free w fp) (hr : Rp.req.R w cs r fr) (hri : r.repo = (i : Int)) (hi : i < m.repos.length) (hP : ∀ p ∈ m.repos, RepoFit p) (hQ : ReqFit r) (hk4 : ¬ r.kind = 4) (hk5 : ¬ r.kind = 5) (hrf : refFits r.ref = true) :
  Calls Tryz.prog 82 #[.agg hs.toArray, .agg cs.toArray] w (Admd w hs fp { m with repos := m.repos.set i (manage m.repos[i] r).1 } (manage m.repos[i] r).2) := by
 obtain ⟨fh, hm, _⟩ := le_house.2 _ _ _ _ hh
 have HHO := hide hh
 have HFO := hide hf
 have HNO := hide hn
 clear hh hn hf
 have K4 := hide hk4
 have K5 := hide hk5
 have HNAM := hide (refFits_nam hrf)
 clear hk4 hk5 hrf
 obtain ⟨E0, m0, d0, e0, rfl, _, hq⟩ := hr
 obtain rfl := hq.1
 have hm0 := hm
 obtain ⟨A0, n0, c0, f0, A1, n1, c1, f1, A2, n2, c2, f2, rfl, hff, h0, h1, h2⟩ := hm
 obtain rfl := h0.1
 obtain rfl := h1.1
 obtain rfl := h2.1
 have hmx := h2.max
 have hmq := hq.max
 have HB0 := ((((Below.refl w.heap.size w).alloc nle (.cells #[.slice A0 m.keys.length c0, .slice A1 m.used.length c1, .slice A2 m.repos.length c2] 35)).alloc (by simp) (.cells #[.int .i64 r.user, .int .i64 r.key, .int .i64 r.repo, .int .i64 r.kind, .string r.ref, .string r.path, .int .i64 r.old, .int .i64 r.back, .slice E0 r.edits.length d0, .int .i64 r.rule.user, .string r.rule.ref, .string r.rule.path, .bool r.rule.write, .int .i64 r.frm, .string r.other] 46)).alloc (by simp; omega) (.cells #[.slice none 0 0, .slice none 0 0, .slice none 0 0] 35))
 have kx := (((Blk.new w 35 #[.slice A0 m.keys.length c0, .slice A1 m.used.length c1, .slice A2 m.repos.length c2]).alloc (.cells #[.int .i64 r.user, .int .i64 r.key, .int .i64 r.repo, .int .i64 r.kind, .string r.ref, .string r.path, .int .i64 r.old, .int .i64 r.back, .slice E0 r.edits.length d0, .int .i64 r.rule.user, .string r.rule.ref, .string r.rule.path, .bool r.rule.write, .int .i64 r.frm, .string r.other] 46)).alloc (.cells #[.slice none 0 0, .slice none 0 0, .slice none 0 0] 35))
 have kq := ((Blk.new' (w := (w.alloc (.cells #[.slice A0 m.keys.length c0, .slice A1 m.used.length c1, .slice A2 m.repos.length c2] 35))) (H := w.heap.size + 1) (by simp) 46 #[.int .i64 r.user, .int .i64 r.key, .int .i64 r.repo, .int .i64 r.kind, .string r.ref, .string r.path, .int .i64 r.old, .int .i64 r.back, .slice E0 r.edits.length d0, .int .i64 r.rule.user, .string r.rule.ref, .string r.rule.path, .bool r.rule.write, .int .i64 r.frm, .string r.other]).alloc (.cells #[.slice none 0 0, .slice none 0 0, .slice none 0 0] 35))
 have kz0 := (Blk.new' (w := ((w.alloc (.cells #[.slice A0 m.keys.length c0, .slice A1 m.used.length c1, .slice A2 m.repos.length c2] 35)).alloc (.cells #[.int .i64 r.user, .int .i64 r.key, .int .i64 r.repo, .int .i64 r.kind, .string r.ref, .string r.path, .int .i64 r.old, .int .i64 r.back, .slice E0 r.edits.length d0, .int .i64 r.rule.user, .string r.rule.ref, .string r.rule.path, .bool r.rule.write, .int .i64 r.frm, .string r.other] 46))) (H := w.heap.size + 2) (by simp) 35 #[.slice none 0 0, .slice none 0 0, .slice none 0 0])
 have HKx := hide (fun (W : World) (hb : Below w.heap.size w W) => h0.step hb)
 have HUx := hide (fun (W : World) (hb : Below w.heap.size w W) => h1.step hb)
 have HRx := hide (fun (W : World) (hb : Below w.heap.size w W) => h2.step hb)
 have HEx := hide (fun (W : World) (hb : Below w.heap.size w W) => hq.step hb)
 have HHx := hide (fun (W : World) (hb : Below w.heap.size w W) => Rp.house.below hm0 hb nle)
 have HRI := hide hri
 have HPF := hide hP
 have HQF := hide hQ
 have HFI := hide (hP _ (List.getElem_mem hi))
 have i0 : (0 : Int) ≤ (i : Int) := by omega
 have i1 : (i : Int) < (m.repos.length : Int) := by omega
 clear hri hP hQ
 clear hm0 hff h0 h1 h2 hq
 go_enter Tryz.func82, Tryz.ntmps82
 go_upto_region 1 with fail
 generalize hW0 : (((w.alloc (.cells #[.slice A0 m.keys.length c0, .slice A1 m.used.length c1, .slice A2 m.repos.length c2] 35)).alloc (.cells #[.int .i64 r.user, .int .i64 r.key, .int .i64 r.repo, .int .i64 r.kind, .string r.ref, .string r.path, .int .i64 r.old, .int .i64 r.back, .slice E0 r.edits.length d0, .int .i64 r.rule.user, .string r.rule.ref, .string r.rule.path, .bool r.rule.write, .int .i64 r.frm, .string r.other] 46)).alloc (.cells #[.slice none 0 0, .slice none 0 0, .slice none 0 0] 35)) = w0 at HB0 kx kq kz0 ⊢
 clear hW0
 have HKX := hide (fun (W : World) (hb : Below w0.heap.size w0 W) => kx.step hb)
 have HKQ := hide (fun (W : World) (hb : Below w0.heap.size w0 W) => kq.step hb)
 have HB0 := hide HB0
 clear kx kq
 have HRES := hide (fun (W : World) (hb : Below w0.heap.size w0 W) => kz0.step hb)
 have HL2 := hide kz0.lt
 clear kz0
 obtain ⟨A0w, c0w, A1w, c1w, b, c2w, B0, b0, B1, b1, f, hch, hRA⟩ := repo_at HHO.out HNO.out hi
 cases hch
 have HRA := hide hRA
 have q0 : w0.cell? ⟨b, i * 3, none⟩ = some (.int .i64 m.repos[i].admin) := cell_step hRA.cells.at0 HB0.out
 have q1 : w0.cell? ⟨b, i * 3 + 1, none⟩ = some (.slice B0 m.repos[i].rules.length b0) := cell_step hRA.cells.tail.at0 HB0.out
 have q2 : w0.cell? ⟨b, i * 3 + 2, none⟩ = some (.slice B1 m.repos[i].refs.length b1) := cell_step hRA.cells.tail.tail.at0 HB0.out
 clear hRA
 have HFZ := hide (fun (W : World) (hb : Below w.heap.size w W) (j : Nat) => (show W.frozen? ⟨b, j, none⟩ = false from by
  obtain ⟨cur, hcur⟩ := HRA.out.typ
  have e := (hb.block b (HRA.out.old _ HRA.out.bin)).trans hcur
  simp [World.frozen?, e]))
 have HBL := hide (HRA.out.old _ HRA.out.bin)
 have hr0 := HRA.out.rp
 have hrp := le_repo.2 _ _ _ _ hr0
 obtain ⟨fpp, hrp, _⟩ := hrp
 have HPPx := hide (fun (W : World) (hb : Below w.heap.size w W) => Rp.repo.below hrp hb nle)
 have D1 := hide (fun W (hh : Rp.repo.R W [.int .i64 m.repos[i].admin, .slice B0 m.repos[i].rules.length b0, .slice B1 m.repos[i].refs.length b1] m.repos[i] fpp) => l7At_any r.ref W hh)
 obtain ⟨_, _, _, g0, _, g1, he0, hff, hs0, hs1⟩ := hr0
 simp only [List.cons.injEq, Value.slice.injEq, and_true] at he0
 obtain ⟨_, ⟨rfl, rfl, rfl⟩, rfl⟩ := he0
 have H1x := hide (fun (W : World) (hb : Below w.heap.size w W) => (show ∃ f1, SlR Rp.ref W B1 m.repos[i].refs.length b1 m.repos[i].refs f1 ∧ ∀ z ∈ f1, z ∈ f from by
  obtain ⟨A9, c9, f9, hv9, h9, hsub9, _, _⟩ := (hs1.step hb).sl
  cases hv9
  obtain ⟨f1, h1, hsub1⟩ := h9.le le_ref
  exact ⟨f1, h1, fun z hz => by rw [hff]; exact List.mem_append_right _ (hsub9.subset (hsub1.subset hz))⟩))
 have HFF := hide (show Free w f from fun z hz => HFO.out z (HRA.out.sub z hz))
 clear hs0 hs1 hrp hff
 have i2 := Blk.c2 (HKX.out w0 (Below.refl _ _))
 have x2 : w0.cell? ⟨w.heap.size + 1, 2, none⟩ = some (.int .i64 (i : Int)) := by rw [← HRI.out]; exact (HKQ.out w0 (Below.refl _ _)).cell 2
 go_upto_region 2 with fail
 obtain ⟨w1, hw1⟩ : ∃ w1, w1 = w0.alloc (.cells #[.int .i64 m.repos[i].admin, .slice B0 m.repos[i].rules.length b0, .slice B1 m.repos[i].refs.length b1] 96) := ⟨_, rfl⟩
 rw [← hw1]
 have HB1 := hide (show Below w0.heap.size w0 w1 from hw1 ▸ (Below.refl _ _).alloc nle _)
 have kp := (show Blk w1 w0.heap.size 96 #[.int .i64 m.repos[i].admin, .slice B0 m.repos[i].rules.length b0, .slice B1 m.repos[i].refs.length b1] from hw1 ▸ Blk.new w0 _ _)
 have HPB := hide (fun (W : World) (hb : Below w1.heap.size w1 W) => kp.step hb)
 have HLT1 := hide kp.lt
 clear hw1 kp i2 x2 q0 q1 q2
 have HL := hide (show m.repos[i].refs.length ≤ 3 from HFI.out.nrefs)
 have x4 := Blk.c4 (HKQ.out w1 HB1.out)
 have p0 := Blk.c0 (HPB.out w1 (Below.refl _ _))
 have p1 := Blk.c1 (HPB.out w1 (Below.refl _ _))
 have p2 := Blk.c2 (HPB.out w1 (Below.refl _ _))
 go_wp2_with fail
 refine (D1.out _ (HPPx.out _ (Below.t HB0.out HB1.out))).mono ?_
 rintro e w2 ⟨rfl, hb2⟩
 have HD2 := hide hb2
 have HB2 := hide (Below.t HB1.out hb2)
 clear hb2 D1 x4 p0 p1 p2
 rcases idxP_at (nameIs r.ref) m.repos[i].refs with ⟨hn, he⟩ | ⟨k, hn, hk, he⟩
 ·rw [he]
  clear he
  have HNF := hide (show refIdx m.repos[i].refs r.ref = none from hn)
  clear hn
  by_cases k6 : r.kind = 6
  ·have K6 := hide k6
   clear k6
   have x3 : w2.cell? ⟨w.heap.size + 1, 3, none⟩ = some (.int .i64 6) := by rw [← K6.out]; exact (HKQ.out w2 HB2.out).cell 3
   have x4 := Blk.c4 (HKQ.out w2 HB2.out)
   by_cases hbz : r.ref = ByteArray.empty
   ·have HBZ := hide hbz
    have hnm : namOk r.ref = false := by rw [HNAM.out, hbz]; rfl
    have C2 := fun W => specNamOk_any r.ref HQF.out.ref W
    rw [hnm] at C2
    have D2 := hide C2
    clear hbz hnm C2
    go_wp2_with fail
    refine (D2.out _).mono ?_
    rintro e w3 ⟨rfl, hb3⟩
    have HB3 := hide (Below.t HB2.out hb3)
    clear hb3 D2 x3 x4
    go_upto_region 5 with fail
    have HE := hide (show manage m.repos[i] r = (m.repos[i], 7) by unfold manage; rw [if_neg K4.out, if_neg K5.out, HNF.out]; simp only [if_pos K6.out, if_pos HBZ.out])
    have kxw : Blk w3 w.heap.size 35 #[.slice A0 m.keys.length c0, .slice A1 m.used.length c1, .slice (some ⟨b, 0, none⟩) m.repos.length c2] := (HKX.out w3 HB3.out).out
    have krw : Blk w3 (w.heap.size + 2) 35 #[.slice none 0 0, .slice none 0 0, .slice none 0 0] := (HRES.out w3 HB3.out).out
    have f0 := Blk.c0 kxw
    have f1 := Blk.c1 kxw
    have f2 := Blk.c2 kxw
    have g0 := Blk.c0 krw
    have g1 := Blk.c1 krw
    have g2 := Blk.c2 krw
    have y0 := blk_frozen krw 0
    have y1 := blk_frozen krw 1
    have y2 := blk_frozen krw 2
    have R := hide (show Blk (((w3.setCell ⟨w.heap.size + 2, 0, none⟩ (.slice A0 m.keys.length c0)).setCell ⟨w.heap.size + 2, 1, none⟩ (.slice A1 m.used.length c1)).setCell ⟨w.heap.size + 2, 2, none⟩ (.slice (some ⟨b, 0, none⟩) m.repos.length c2)) (w.heap.size + 2) 35 #[.slice A0 m.keys.length c0, .slice A1 m.used.length c1, .slice (some ⟨b, 0, none⟩) m.repos.length c2] from by simpa using ((krw.put 0 (.slice A0 m.keys.length c0)).put 1 (.slice A1 m.used.length c1)).put 2 (.slice (some ⟨b, 0, none⟩) m.repos.length c2))
    have RO := hide ((((Only.refl [w.heap.size + 2] w3).setCell (p := ⟨w.heap.size + 2, 0, none⟩) (.inl (by simp)) (.slice A0 m.keys.length c0)).setCell (p := ⟨w.heap.size + 2, 1, none⟩) (.inl (by simp)) (.slice A1 m.used.length c1)).setCell (p := ⟨w.heap.size + 2, 2, none⟩) (.inl (by simp)) (.slice (some ⟨b, 0, none⟩) m.repos.length c2))
    clear kxw krw 
    go_wp2_with fail
    have R := R.out
    have RO := RO.out
    generalize ((w3.setCell ⟨w.heap.size + 2, 0, none⟩ (.slice A0 m.keys.length c0)).setCell ⟨w.heap.size + 2, 1, none⟩ (.slice A1 m.used.length c1)).setCell ⟨w.heap.size + 2, 2, none⟩ (.slice (some ⟨b, 0, none⟩) m.repos.length c2) = WW at R RO ⊢
    have z0 := Blk.c0 R
    have z1 := Blk.c1 R
    have z2 := Blk.c2 R
    refine bodyPost_ret (v := .tuple #[.agg #[.slice A0 m.keys.length c0, .slice A1 m.used.length c1, .slice (some ⟨b, 0, none⟩) m.repos.length c2], .int .i64 7]) (by simp [results, Tryz.results82, go_sem, z0, z1, z2]) rfl ?_
    rw [HE.out]
    simp only [List.set_getElem_self]
    exact admd_same _ HHO.out (Below.t HB0.out HB3.out) RO (by omega)
   ·have HBZ := hide hbz
    have hnm : namOk r.ref = true := by rw [HNAM.out, decide_eq_false hbz]; rfl
    have C2 := fun W => specNamOk_any r.ref HQF.out.ref W
    rw [hnm] at C2
    have D2 := hide C2
    clear hbz hnm C2
    go_wp2_with fail
    refine (D2.out _).mono ?_
    rintro e w3 ⟨rfl, hb3⟩
    have HB3 := hide (Below.t HB2.out hb3)
    have HD3 := hide (Below.t HD2.out hb3)
    clear hb3 D2 x3 x4 HB2 HD2
    obtain ⟨w2, hw2⟩ : ∃ w2, w2 = w3 := ⟨_, rfl⟩
    subst hw2
    have HB2 := HB3
    have HD2 := HD3
    clear HB3 HD3
    have p2 := Blk.c2 (HPB.out w2 HD2.out)
    by_cases h3 : m.repos[i].refs.length = 3
    ·have H3 := hide h3
     have h3i : (m.repos[i].refs.length : Int) = 3 := by omega
     clear h3
     go_upto_region 7 with fail
     have HE := hide (show manage m.repos[i] r = (m.repos[i], 9) by unfold manage; rw [if_neg K4.out, if_neg K5.out, HNF.out]; simp only [if_pos K6.out, if_neg HBZ.out, if_pos H3.out])
     have kxw : Blk w2 w.heap.size 35 #[.slice A0 m.keys.length c0, .slice A1 m.used.length c1, .slice (some ⟨b, 0, none⟩) m.repos.length c2] := (HKX.out w2 HB2.out).out
     have krw : Blk w2 (w.heap.size + 2) 35 #[.slice none 0 0, .slice none 0 0, .slice none 0 0] := (HRES.out w2 HB2.out).out
     have f0 := Blk.c0 kxw
     have f1 := Blk.c1 kxw
     have f2 := Blk.c2 kxw
     have g0 := Blk.c0 krw
     have g1 := Blk.c1 krw
     have g2 := Blk.c2 krw
     have y0 := blk_frozen krw 0
     have y1 := blk_frozen krw 1
     have y2 := blk_frozen krw 2
     have R := hide (show Blk (((w2.setCell ⟨w.heap.size + 2, 0, none⟩ (.slice A0 m.keys.length c0)).setCell ⟨w.heap.size + 2, 1, none⟩ (.slice A1 m.used.length c1)).setCell ⟨w.heap.size + 2, 2, none⟩ (.slice (some ⟨b, 0, none⟩) m.repos.length c2)) (w.heap.size + 2) 35 #[.slice A0 m.keys.length c0, .slice A1 m.used.length c1, .slice (some ⟨b, 0, none⟩) m.repos.length c2] from by simpa using ((krw.put 0 (.slice A0 m.keys.length c0)).put 1 (.slice A1 m.used.length c1)).put 2 (.slice (some ⟨b, 0, none⟩) m.repos.length c2))
     have RO := hide ((((Only.refl [w.heap.size + 2] w2).setCell (p := ⟨w.heap.size + 2, 0, none⟩) (.inl (by simp)) (.slice A0 m.keys.length c0)).setCell (p := ⟨w.heap.size + 2, 1, none⟩) (.inl (by simp)) (.slice A1 m.used.length c1)).setCell (p := ⟨w.heap.size + 2, 2, none⟩) (.inl (by simp)) (.slice (some ⟨b, 0, none⟩) m.repos.length c2))
     clear kxw krw p2
     go_wp2_with fail
     have R := R.out
     have RO := RO.out
     generalize ((w2.setCell ⟨w.heap.size + 2, 0, none⟩ (.slice A0 m.keys.length c0)).setCell ⟨w.heap.size + 2, 1, none⟩ (.slice A1 m.used.length c1)).setCell ⟨w.heap.size + 2, 2, none⟩ (.slice (some ⟨b, 0, none⟩) m.repos.length c2) = WW at R RO ⊢
     have z0 := Blk.c0 R
     have z1 := Blk.c1 R
     have z2 := Blk.c2 R
     refine bodyPost_ret (v := .tuple #[.agg #[.slice A0 m.keys.length c0, .slice A1 m.used.length c1, .slice (some ⟨b, 0, none⟩) m.repos.length c2], .int .i64 9]) (by simp [results, Tryz.results82, go_sem, z0, z1, z2]) rfl ?_
     rw [HE.out]
     simp only [List.set_getElem_self]
     exact admd_same _ HHO.out (Below.t HB0.out HB2.out) RO (by omega)
    ·have H3 := hide h3
     have h3i : ¬ (m.repos[i].refs.length : Int) = 3 := by omega
     clear h3
     have HE := hide (show manage m.repos[i] r = ({ m.repos[i] with refs := insBy (fun x => bLt x.name r.ref) ⟨r.ref, false, 0, [[]]⟩ m.repos[i].refs }, 1) by unfold manage; rw [if_neg K4.out, if_neg K5.out, HNF.out]; simp only [if_pos K6.out, if_neg HBZ.out, if_neg H3.out])
     go_upto_region 8 with fail
     clear p2
     have x4 := Blk.c4 (HKQ.out w2 HB2.out)
     have p2 := Blk.c2 (HPB.out w2 HD2.out)
     obtain ⟨f1, hs1, hf1⟩ := H1x.out w2 (Below.t HB0.out HB2.out)
     have HF1 := hide hf1
     go_wp2_with fail
     refine (l7Named_any (l := m.repos[i].refs) (name := r.ref) _ hs1 (by have := HL.out; omega) (refIdx_none HNF.out)).mono ?_
     rintro e w4 ⟨A4, n4, c4, f4, rfl, hs4, hl4, hb4⟩
     have HB4 := hide (Below.t HD2.out hb4)
     have HS4 := hide hs4
     have HL4 := hide (show ∀ z ∈ f4, z ∈ f ∨ w1.heap.size ≤ z from fun z hz => (hl4 z hz).imp (fun h => HF1.out z h) (fun h => Nat.le_trans HD2.out.size h))
     have kp4 := HPB.out w4 HB4.out
     have p2 := kp4.cell 2
     have yp2 := blk_frozen kp4 2
     clear hs1 hf1 hs4 hl4 hb4 x4 kp4
     go_upto_region 9 with fail
     obtain ⟨w5, hw5⟩ : ∃ w5, w5 = w4.setCell ⟨w0.heap.size, 2, none⟩ (.slice A4 n4 c4) := ⟨_, rfl⟩
     rw [← hw5]
     have HP5 := hide (show Blk w5 w0.heap.size 96 #[.int .i64 m.repos[i].admin, .slice B0 m.repos[i].rules.length b0, .slice A4 n4 c4] from by rw [hw5]; simpa using (HPB.out w4 HB4.out).put 2 (.slice A4 n4 c4))
     have HB5 := hide (show Below w0.heap.size w0 w5 from hw5 ▸ (Below.t HB1.out HB4.out).setCell nle _)
     have HO5 := hide (show Only [w0.heap.size] w4 w5 from hw5 ▸ only_setCell w4 w0.heap.size 2 (.slice A4 n4 c4))
     clear hw5 p2 yp2
     have kp5 := HP5.out
     have p0 := Blk.c0 kp5
     have p1 := Blk.c1 kp5
     have p2 := Blk.c2 kp5
     have i2 := Blk.c2 (HKX.out w5 HB5.out)
     have x2 : w5.cell? ⟨w.heap.size + 1, 2, none⟩ = some (.int .i64 (i : Int)) := by rw [← HRI.out]; exact (HKQ.out w5 HB5.out).cell 2
     have b0' : w5.cell? ⟨b, i * 3, none⟩ = some (.int .i64 m.repos[i].admin) := cell_step HRA.out.cells.at0 (Below.t HB0.out HB5.out)
     have b1' : w5.cell? ⟨b, i * 3 + 1, none⟩ = some (.slice B0 m.repos[i].rules.length b0) := cell_step HRA.out.cells.tail.at0 (Below.t HB0.out HB5.out)
     have b2' : w5.cell? ⟨b, i * 3 + 2, none⟩ = some (.slice B1 m.repos[i].refs.length b1) := cell_step HRA.out.cells.tail.tail.at0 (Below.t HB0.out HB5.out)
     have yb0 := HFZ.out w5 (Below.t HB0.out HB5.out) (i * 3)
     have yb1 := HFZ.out w5 (Below.t HB0.out HB5.out) (i * 3 + 1)
     have yb2 := HFZ.out w5 (Below.t HB0.out HB5.out) (i * 3 + 2)
     clear kp5
     go_upto_region 10 with fail
     obtain ⟨w6, hw6⟩ : ∃ w6, w6 = put3 w5 b (i * 3) (.int .i64 m.repos[i].admin) (.slice B0 m.repos[i].rules.length b0) (.slice A4 n4 c4) := ⟨_, rfl⟩
     have hw6' := hw6
     unfold put3 at hw6'
     rw [← hw6']
     have HW6 := hide hw6
     have HSZ := hide HB0.out.size
     have kx6 : Blk w6 w.heap.size 35 #[.slice A0 m.keys.length c0, .slice A1 m.used.length c1, .slice (some ⟨b, 0, none⟩) m.repos.length c2] := hw6 ▸ (put3_other (by have := HBL.out; omega)).trans (HKX.out w5 HB5.out).out
     have kr6 : Blk w6 (w.heap.size + 2) 35 #[.slice none 0 0, .slice none 0 0, .slice none 0 0] := hw6 ▸ (put3_other (by have := HBL.out; omega)).trans (HRES.out w5 HB5.out).out
     have KX6 := hide kx6
     have KR6 := hide kr6
     clear hw6 hw6' p0 p1 p2 i2 x2 b0' b1' b2' yb0 yb1 yb2 kx6 kr6
     have kxw : Blk w6 w.heap.size 35 #[.slice A0 m.keys.length c0, .slice A1 m.used.length c1, .slice (some ⟨b, 0, none⟩) m.repos.length c2] := KX6.out
     have krw : Blk w6 (w.heap.size + 2) 35 #[.slice none 0 0, .slice none 0 0, .slice none 0 0] := KR6.out
     have f0 := Blk.c0 kxw
     have f1 := Blk.c1 kxw
     have f2 := Blk.c2 kxw
     have g0 := Blk.c0 krw
     have g1 := Blk.c1 krw
     have g2 := Blk.c2 krw
     have y0 := blk_frozen krw 0
     have y1 := blk_frozen krw 1
     have y2 := blk_frozen krw 2
     have R := hide (show Blk (((w6.setCell ⟨w.heap.size + 2, 0, none⟩ (.slice A0 m.keys.length c0)).setCell ⟨w.heap.size + 2, 1, none⟩ (.slice A1 m.used.length c1)).setCell ⟨w.heap.size + 2, 2, none⟩ (.slice (some ⟨b, 0, none⟩) m.repos.length c2)) (w.heap.size + 2) 35 #[.slice A0 m.keys.length c0, .slice A1 m.used.length c1, .slice (some ⟨b, 0, none⟩) m.repos.length c2] from by simpa using ((krw.put 0 (.slice A0 m.keys.length c0)).put 1 (.slice A1 m.used.length c1)).put 2 (.slice (some ⟨b, 0, none⟩) m.repos.length c2))
     have RO := hide ((((Only.refl [w.heap.size + 2] w6).setCell (p := ⟨w.heap.size + 2, 0, none⟩) (.inl (by simp)) (.slice A0 m.keys.length c0)).setCell (p := ⟨w.heap.size + 2, 1, none⟩) (.inl (by simp)) (.slice A1 m.used.length c1)).setCell (p := ⟨w.heap.size + 2, 2, none⟩) (.inl (by simp)) (.slice (some ⟨b, 0, none⟩) m.repos.length c2))
     clear kxw krw 
     go_wp2_with fail
     have R := R.out
     have RO := RO.out
     generalize ((w6.setCell ⟨w.heap.size + 2, 0, none⟩ (.slice A0 m.keys.length c0)).setCell ⟨w.heap.size + 2, 1, none⟩ (.slice A1 m.used.length c1)).setCell ⟨w.heap.size + 2, 2, none⟩ (.slice (some ⟨b, 0, none⟩) m.repos.length c2) = WW at R RO ⊢
     have z0 := Blk.c0 R
     have z1 := Blk.c1 R
     have z2 := Blk.c2 R
     refine bodyPost_ret (v := .tuple #[.agg #[.slice A0 m.keys.length c0, .slice A1 m.used.length c1, .slice (some ⟨b, 0, none⟩) m.repos.length c2], .int .i64 1]) (by simp [results, Tryz.results82, go_sem, z0, z1, z2]) rfl ?_
     rw [HE.out]
     rw [HW6.out] at RO
     have hsz0 := HL2.out
     have h01 := HLT1.out
     have hsr := HS4.out.only HO5.out (fun z hz hm => by
      simp at hm
      rcases HL4.out z hz with h1 | h1
      ·have := HRA.out.old z (HRA.out.sub z h1)
       have := HB0.out.size
       omega
      ·omega)
     obtain ⟨f', hp', hf'⟩ := HRA.out.refs (Below.t HB0.out HB5.out) hsr
     exact HRA.out.put 1 (Below.t HB0.out HB5.out) hp' (fun z hz => by
      have := HB0.out.size
      rcases hf' z hz with h1 | h1
      ·rcases HL4.out z h1 with h2 | h2
       ·have := HRA.out.old z (HRA.out.sub z h2)
        exact ⟨.inl h2, by omega⟩
       ·exact ⟨.inr (by omega), by omega⟩
      ·have := HRA.out.old z (HRA.out.sub z h1)
       exact ⟨.inl h1, by omega⟩) RO (by omega)
  ·have K6 := hide k6
   have x3 := Blk.c3 (HKQ.out w2 HB2.out)
   go_upto_region 12 with fail
   clear k6
   have HE := hide (show manage m.repos[i] r = (m.repos[i], 5) by unfold manage; rw [if_neg K4.out, if_neg K5.out, HNF.out]; simp only [if_neg K6.out])
   have kxw : Blk w2 w.heap.size 35 #[.slice A0 m.keys.length c0, .slice A1 m.used.length c1, .slice (some ⟨b, 0, none⟩) m.repos.length c2] := (HKX.out w2 HB2.out).out
   have krw : Blk w2 (w.heap.size + 2) 35 #[.slice none 0 0, .slice none 0 0, .slice none 0 0] := (HRES.out w2 HB2.out).out
   have f0 := Blk.c0 kxw
   have f1 := Blk.c1 kxw
   have f2 := Blk.c2 kxw
   have g0 := Blk.c0 krw
   have g1 := Blk.c1 krw
   have g2 := Blk.c2 krw
   have y0 := blk_frozen krw 0
   have y1 := blk_frozen krw 1
   have y2 := blk_frozen krw 2
   have R := hide (show Blk (((w2.setCell ⟨w.heap.size + 2, 0, none⟩ (.slice A0 m.keys.length c0)).setCell ⟨w.heap.size + 2, 1, none⟩ (.slice A1 m.used.length c1)).setCell ⟨w.heap.size + 2, 2, none⟩ (.slice (some ⟨b, 0, none⟩) m.repos.length c2)) (w.heap.size + 2) 35 #[.slice A0 m.keys.length c0, .slice A1 m.used.length c1, .slice (some ⟨b, 0, none⟩) m.repos.length c2] from by simpa using ((krw.put 0 (.slice A0 m.keys.length c0)).put 1 (.slice A1 m.used.length c1)).put 2 (.slice (some ⟨b, 0, none⟩) m.repos.length c2))
   have RO := hide ((((Only.refl [w.heap.size + 2] w2).setCell (p := ⟨w.heap.size + 2, 0, none⟩) (.inl (by simp)) (.slice A0 m.keys.length c0)).setCell (p := ⟨w.heap.size + 2, 1, none⟩) (.inl (by simp)) (.slice A1 m.used.length c1)).setCell (p := ⟨w.heap.size + 2, 2, none⟩) (.inl (by simp)) (.slice (some ⟨b, 0, none⟩) m.repos.length c2))
   clear kxw krw x3
   go_wp2_with fail
   have R := R.out
   have RO := RO.out
   generalize ((w2.setCell ⟨w.heap.size + 2, 0, none⟩ (.slice A0 m.keys.length c0)).setCell ⟨w.heap.size + 2, 1, none⟩ (.slice A1 m.used.length c1)).setCell ⟨w.heap.size + 2, 2, none⟩ (.slice (some ⟨b, 0, none⟩) m.repos.length c2) = WW at R RO ⊢
   have z0 := Blk.c0 R
   have z1 := Blk.c1 R
   have z2 := Blk.c2 R
   refine bodyPost_ret (v := .tuple #[.agg #[.slice A0 m.keys.length c0, .slice A1 m.used.length c1, .slice (some ⟨b, 0, none⟩) m.repos.length c2], .int .i64 5]) (by simp [results, Tryz.results82, go_sem, z0, z1, z2]) rfl ?_
   rw [HE.out]
   simp only [List.set_getElem_self]
   exact admd_same _ HHO.out (Below.t HB0.out HB2.out) RO (by omega)
 ·rw [he]
  clear he
  have HNF := hide (show refIdx m.repos[i].refs r.ref = some k from hn)
  clear hn
  have k0 : (0 : Int) ≤ (k : Int) := by omega
  have k1' : (k : Int) < (m.repos[i].refs.length : Int) := by omega
  have k2 : ¬ (k : Int) < 0 := by omega
  by_cases k6 : r.kind = 6
  ·have K6 := hide k6
   clear k6
   have x3 : w2.cell? ⟨w.heap.size + 1, 3, none⟩ = some (.int .i64 6) := by rw [← K6.out]; exact (HKQ.out w2 HB2.out).cell 3
   go_upto_region 5 with fail
   have HE := hide (show manage m.repos[i] r = (m.repos[i], 7) by unfold manage; rw [if_neg K4.out, if_neg K5.out, HNF.out]; simp only [if_pos K6.out])
   have kxw : Blk w2 w.heap.size 35 #[.slice A0 m.keys.length c0, .slice A1 m.used.length c1, .slice (some ⟨b, 0, none⟩) m.repos.length c2] := (HKX.out w2 HB2.out).out
   have krw : Blk w2 (w.heap.size + 2) 35 #[.slice none 0 0, .slice none 0 0, .slice none 0 0] := (HRES.out w2 HB2.out).out
   have f0 := Blk.c0 kxw
   have f1 := Blk.c1 kxw
   have f2 := Blk.c2 kxw
   have g0 := Blk.c0 krw
   have g1 := Blk.c1 krw
   have g2 := Blk.c2 krw
   have y0 := blk_frozen krw 0
   have y1 := blk_frozen krw 1
   have y2 := blk_frozen krw 2
   have R := hide (show Blk (((w2.setCell ⟨w.heap.size + 2, 0, none⟩ (.slice A0 m.keys.length c0)).setCell ⟨w.heap.size + 2, 1, none⟩ (.slice A1 m.used.length c1)).setCell ⟨w.heap.size + 2, 2, none⟩ (.slice (some ⟨b, 0, none⟩) m.repos.length c2)) (w.heap.size + 2) 35 #[.slice A0 m.keys.length c0, .slice A1 m.used.length c1, .slice (some ⟨b, 0, none⟩) m.repos.length c2] from by simpa using ((krw.put 0 (.slice A0 m.keys.length c0)).put 1 (.slice A1 m.used.length c1)).put 2 (.slice (some ⟨b, 0, none⟩) m.repos.length c2))
   have RO := hide ((((Only.refl [w.heap.size + 2] w2).setCell (p := ⟨w.heap.size + 2, 0, none⟩) (.inl (by simp)) (.slice A0 m.keys.length c0)).setCell (p := ⟨w.heap.size + 2, 1, none⟩) (.inl (by simp)) (.slice A1 m.used.length c1)).setCell (p := ⟨w.heap.size + 2, 2, none⟩) (.inl (by simp)) (.slice (some ⟨b, 0, none⟩) m.repos.length c2))
   clear kxw krw x3
   go_wp2_with fail
   have R := R.out
   have RO := RO.out
   generalize ((w2.setCell ⟨w.heap.size + 2, 0, none⟩ (.slice A0 m.keys.length c0)).setCell ⟨w.heap.size + 2, 1, none⟩ (.slice A1 m.used.length c1)).setCell ⟨w.heap.size + 2, 2, none⟩ (.slice (some ⟨b, 0, none⟩) m.repos.length c2) = WW at R RO ⊢
   have z0 := Blk.c0 R
   have z1 := Blk.c1 R
   have z2 := Blk.c2 R
   refine bodyPost_ret (v := .tuple #[.agg #[.slice A0 m.keys.length c0, .slice A1 m.used.length c1, .slice (some ⟨b, 0, none⟩) m.repos.length c2], .int .i64 7]) (by simp [results, Tryz.results82, go_sem, z0, z1, z2]) rfl ?_
   rw [HE.out]
   simp only [List.set_getElem_self]
   exact admd_same _ HHO.out (Below.t HB0.out HB2.out) RO (by omega)
  have K6 := hide k6
  by_cases k8 : r.kind = 8
  ·have K8 := hide k8
   clear k8 k6
   have HE := hide (show manage m.repos[i] r = ({ m.repos[i] with refs := m.repos[i].refs.set k { m.repos[i].refs[k] with guard := !m.repos[i].refs[k].guard } }, 1) by unfold manage; rw [if_neg K4.out, if_neg K5.out, HNF.out]; simp only [if_neg K6.out, if_pos K8.out, getD_at hk])
   have x3 : w2.cell? ⟨w.heap.size + 1, 3, none⟩ = some (.int .i64 8) := by rw [← K8.out]; exact (HKQ.out w2 HB2.out).cell 3
   have p2 := Blk.c2 (HPB.out w2 HD2.out)
   obtain ⟨f1, hs1, _⟩ := H1x.out w2 (Below.t HB0.out HB2.out)
   obtain ⟨bR, oR, B9, m9, d9, g9, rfl, hbR, hmR, t0, t1, t2, t3, _, _⟩ := ref_cells hs1 hk
   have HMF := hide (show bR ∈ f from by
    obtain ⟨f2, hs2, hf2⟩ := H1x.out w2 (Below.t HB0.out HB2.out)
    obtain ⟨b2, o2, _, _, _, _, he2, _, hm2, _⟩ := ref_cells hs2 hk
    cases he2
    exact hf2 _ hm2)
   have yR : w2.frozen? ⟨bR, oR + k * 4 + 1, none⟩ = false := Free.frozen (HFF.out.step (Below.t HB0.out HB2.out)) HMF.out _
   have HBR := hide (show bR < w.heap.size from HRA.out.old _ (HRA.out.sub _ HMF.out))
   clear hs1 hbR hmR t0 t2 t3
   go_upto_region 14 with fail
   go_cut [60] (fun v wx => Below w2.heap.size (w2.setCell ⟨bR, oR + k * 4 + 1, none⟩ (.bool (!m.repos[i].refs[k].guard))) wx)
   case first =>
    go_region_law (fail)
    all_goals
     go_wp2_with fail
     go_meet
     case rel => first | exact Below.refl _ _ | exact (Below.refl _ _).drew | exact Below.of_eq rfl
   case rest =>
    obtain ⟨w5, hw5⟩ : ∃ w5, w5 = wc := ⟨_, rfl⟩
    subst hw5
    have HC5 := hide hcut
    have HK5 := hide (show ∀ z, z < w2.heap.size → z ≠ bR → w5.heap[z]? = w2.heap[z]? from fun z hz hzb => (hcut.block z hz).trans (Below.heap_setCell _ _ _ _ hzb))
    have hsz := HB0.out.size
    have kx5 : Blk w5 w.heap.size 35 #[.slice A0 m.keys.length c0, .slice A1 m.used.length c1, .slice (some ⟨b, 0, none⟩) m.repos.length c2] := (HK5.out _ ((HKX.out w2 HB2.out).lt) (by have := HBR.out; omega)).trans (HKX.out w2 HB2.out).out
    have kr5 : Blk w5 (w.heap.size + 2) 35 #[.slice none 0 0, .slice none 0 0, .slice none 0 0] := (HK5.out _ ((HRES.out w2 HB2.out).lt) (by have := HBR.out; omega)).trans (HRES.out w2 HB2.out).out
    have KX5 := hide kx5
    have KR5 := hide kr5
    clear hcut kx5 kr5 hsz t1 yR p2
    go_upto_region 15 with fail
    have kxw : Blk w5 w.heap.size 35 #[.slice A0 m.keys.length c0, .slice A1 m.used.length c1, .slice (some ⟨b, 0, none⟩) m.repos.length c2] := KX5.out
    have krw : Blk w5 (w.heap.size + 2) 35 #[.slice none 0 0, .slice none 0 0, .slice none 0 0] := KR5.out
    have f0 := Blk.c0 kxw
    have f1 := Blk.c1 kxw
    have f2 := Blk.c2 kxw
    have g0 := Blk.c0 krw
    have g1 := Blk.c1 krw
    have g2 := Blk.c2 krw
    have y0 := blk_frozen krw 0
    have y1 := blk_frozen krw 1
    have y2 := blk_frozen krw 2
    have R := hide (show Blk (((w5.setCell ⟨w.heap.size + 2, 0, none⟩ (.slice A0 m.keys.length c0)).setCell ⟨w.heap.size + 2, 1, none⟩ (.slice A1 m.used.length c1)).setCell ⟨w.heap.size + 2, 2, none⟩ (.slice (some ⟨b, 0, none⟩) m.repos.length c2)) (w.heap.size + 2) 35 #[.slice A0 m.keys.length c0, .slice A1 m.used.length c1, .slice (some ⟨b, 0, none⟩) m.repos.length c2] from by simpa using ((krw.put 0 (.slice A0 m.keys.length c0)).put 1 (.slice A1 m.used.length c1)).put 2 (.slice (some ⟨b, 0, none⟩) m.repos.length c2))
    have RO := hide ((((Only.refl [w.heap.size + 2] w5).setCell (p := ⟨w.heap.size + 2, 0, none⟩) (.inl (by simp)) (.slice A0 m.keys.length c0)).setCell (p := ⟨w.heap.size + 2, 1, none⟩) (.inl (by simp)) (.slice A1 m.used.length c1)).setCell (p := ⟨w.heap.size + 2, 2, none⟩) (.inl (by simp)) (.slice (some ⟨b, 0, none⟩) m.repos.length c2))
    clear kxw krw 
    go_wp2_with fail
    have R := R.out
    have RO := RO.out
    generalize ((w5.setCell ⟨w.heap.size + 2, 0, none⟩ (.slice A0 m.keys.length c0)).setCell ⟨w.heap.size + 2, 1, none⟩ (.slice A1 m.used.length c1)).setCell ⟨w.heap.size + 2, 2, none⟩ (.slice (some ⟨b, 0, none⟩) m.repos.length c2) = WW at R RO ⊢
    have z0 := Blk.c0 R
    have z1 := Blk.c1 R
    have z2 := Blk.c2 R
    refine bodyPost_ret (v := .tuple #[.agg #[.slice A0 m.keys.length c0, .slice A1 m.used.length c1, .slice (some ⟨b, 0, none⟩) m.repos.length c2], .int .i64 1]) (by simp [results, Tryz.results82, go_sem, z0, z1, z2]) rfl ?_
    rw [HE.out]
    have hsz0 := HL2.out
    exact HRA.out.guard 1 (Below.t HB0.out HB2.out) hk HC5.out RO (by omega)
  have K8 := hide k8
  have x3 := Blk.c3 (HKQ.out w2 HB2.out)
  have p2 := Blk.c2 (HPB.out w2 HD2.out)
  obtain ⟨f1, hs1, _⟩ := H1x.out w2 (Below.t HB0.out HB2.out)
  obtain ⟨bR, oR, B9, m9, d9, g9, hbo, hbR, hmR, t0, t1, t2, t3, _, _⟩ := ref_cells hs1 hk
  cases hg : m.repos[i].refs[k].guard
  ·rw [hg] at t1
   have HE := hide (show manage m.repos[i] r = ({ m.repos[i] with refs := m.repos[i].refs.eraseIdx k }, 1) by unfold manage; rw [if_neg K4.out, if_neg K5.out, HNF.out]; simp only [if_neg K6.out, if_neg K8.out, getD_at hk, hg]; rfl)
   subst hbo
   clear hg hs1 hbR hmR t0 t2 t3
   go_upto_region 18 with fail
   clear k6 k8 x3 t1 p2
   have p2 := Blk.c2 (HPB.out w2 HD2.out)
   obtain ⟨k1, hk1⟩ : ∃ k1, k1 = k + 1 := ⟨_, rfl⟩
   have hw : IntKind.i64.wrap ((k : Int) + 1) = (k1 : Int) := by
    rw [IntWalk.i64_in _ (by have := HL.out; omega)]
    omega
   obtain ⟨f1, hs1, hf1⟩ := H1x.out w2 (Below.t HB0.out HB2.out)
   have hlc : m.repos[i].refs.length ≤ b1 := hs1.2.1
   have hcm : b1 ≤ 9223372036854775807 := hs1.2.2.1
   have HTK := hide (fun (W : World) (hb : Below w2.heap.size w2 W) => (show ∃ f2, SlR Rp.ref W (some ⟨bR, oR, none⟩) k b1 (m.repos[i].refs.take k) f2 ∧ ∀ z ∈ f2, z ∈ f from by
    obtain ⟨f2, h1, h2⟩ := (hs1.step hb).take (k := k) (by omega)
    exact ⟨f2, h1, fun z hz => hf1 z (h2 z hz)⟩))
   have HTD := hide (fun (W : World) (hb : Below w2.heap.size w2 W) => (show ∃ f2, SlR Rp.ref W (some ⟨bR, oR + k1 * 4, none⟩) (m.repos[i].refs.length - k1) (b1 - k1) (m.repos[i].refs.drop k1) f2 ∧ ∀ z ∈ f2, z ∈ f from by
    obtain ⟨f2, h1, h2⟩ := (hs1.step hb).drop (k := k1) (by omega)
    exact ⟨f2, by simpa [Rp.ref] using h1, fun z hz => hf1 z (h2 z hz)⟩))
   have HTE := hide (fun (W : World) (h : b1 = k1) => (show ∃ f2, SlR Rp.ref W (some ⟨bR, oR, none⟩) (m.repos[i].refs.length - k1) 0 (m.repos[i].refs.drop k1) f2 ∧ ∀ z ∈ f2, z ∈ f from ⟨[], drop_none _ h hlc, by simp⟩))
   have HER := hide (show m.repos[i].refs.take k ++ m.repos[i].refs.drop k1 = m.repos[i].refs.eraseIdx k ∧ k + (m.repos[i].refs.length - k1) = (m.repos[i].refs.eraseIdx k).length from by
    subst hk1
    rw [List.eraseIdx_eq_take_drop_succ]
    refine ⟨rfl, by simp; try omega⟩)
   have HFOLD := hide (show ∀ z ∈ f, z < w1.heap.size from fun z hz => by have := HRA.out.old z (HRA.out.sub z hz); have := HB0.out.size; have := HB1.out.size; omega)
   obtain ⟨ii, hi0, hz0, hz1, hz2⟩ := info_parts infoC_Ref2
   have i0' : (0 : Int) ≤ (k1 : Int) := by omega
   have i1' : (k1 : Int) ≤ (m.repos[i].refs.length : Int) := by omega
   have hkc : (k : Int) ≤ (b1 : Int) := by omega
   have HLE := hide (show k ≤ 3 ∧ m.repos[i].refs.length - k1 ≤ 3 by have := HL.out; omega)
   have HKP := hide (HPB.out w2 HD2.out)
   clear hlc hcm hk1 hs1 hf1
   go_upto_region 18 with fail
   by_cases hce : b1 = k1
   case' pos => subst hce
   all_goals
    go_cut [85] (fun v wx => ∃ W8 A n c fr, wx = W8.setCell ⟨w0.heap.size, 2, none⟩ (.slice A n c) ∧ Below w1.heap.size w1 W8 ∧ SlR Rp.ref W8 A n c (m.repos[i].refs.eraseIdx k) fr ∧ ∀ z ∈ fr, z ∈ f ∨ w1.heap.size ≤ z)
    case first =>
     have g2 := fun (y : Obj) => cell_alloc p2 y
     go_region_law (first
      | (refine step_append_all (r := Rp.ref) rfl (.tmp 74) (.tmp 78) 94 rfl w2.heap.size 99 ii _ 56 Tryz.underlying94 hi0 hz0 hz1 hz2 rfl (by decide) _ 0 [] (by simp [Act.eval, Act.put]) ⟨by simp, .inr ⟨_, 0, #[], rfl, (by simp), Blk.new _ _ _, Nat.le_refl _, by simp [maxLen], by simp, by simp⟩⟩ (by simp [Act.eval, Act.put]; first | done | exact ⟨rfl, rfl, rfl⟩) (HTK.out _ (by first | exact ((Below.refl _ _).drew).alloc nle _ | exact ((Below.refl _ _).alloc nle _).drew | exact (Below.refl _ _).alloc nle _)).choose_spec.1 (by have := HLE.out; unfold maxLen; omega) (by have := HLE.out; omega) (by simp) ?_; intro v6 w6 xs6 f6 ha6 hf6 ho6 hg6; have HB6 := hide (show Below w2.heap.size w2 w6 from (show Below w2.heap.size w2 _ from (by first | exact ((Below.refl _ _).drew).alloc nle _ | exact ((Below.refl _ _).alloc nle _).drew | exact (Below.refl _ _).alloc nle _)).grown hg6 (by simp) (fun j hj => by simp [Value.ownBlock] at hj; subst hj; simp)); have p6 := cell_step p2 HB6.out; have HO6 := hide ho6; have HA6 := hide ha6; have HF6 := hide (show ∀ z ∈ f6, z ∈ f from fun z hz => (HTK.out _ (by first | exact ((Below.refl _ _).drew).alloc nle _ | exact ((Below.refl _ _).alloc nle _).drew | exact (Below.refl _ _).alloc nle _)).choose_spec.2 z (hf6 z hz)); clear ho6 ha6 hf6 hg6)
      | (refine step_append_all (r := Rp.ref) rfl (.tmp 79) (.tmp 84) 94 rfl w2.heap.size 99 ii _ 56 Tryz.underlying94 hi0 hz0 hz1 hz2 rfl (by decide) v6 (0 + k) ([] ++ xs6) (by simp [Act.eval, Act.put]) HO6.out (by simp [Act.eval, Act.put]; first | done | exact ⟨rfl, rfl, rfl⟩) (by first | exact (HTD.out _ HB6.out).choose_spec.1 | exact (HTE.out _ rfl).choose_spec.1) (by have := HLE.out; unfold maxLen; omega) (by have := HLE.out; omega) HB6.out.size ?_; intro v8 w8 xs8 f8 ha8 hf8 ho8 hg8; have HB8 := hide (HB6.out.grown hg8 HB6.out.size (fun j hj => (HO6.out.lt j hj).1)); have p8 := cell_step p2 HB8.out; have y8 := blk_frozen (HKP.out.step HB8.out) 2; have HF8 := hide (show ∀ z ∈ f8, z ∈ f from fun z hz => (by first | exact (HTD.out _ HB6.out).choose_spec.2 z (hf8 z hz) | exact (HTE.out _ rfl).choose_spec.2 z (hf8 z hz))); obtain ⟨A8, c8, fr8, hv8, hs8, hfr8⟩ := refs_cut (w2 := w2) (by first | exact ((Below.refl _ _).drew).alloc nle _ | exact ((Below.refl _ _).alloc nle _).drew | exact (Below.refl _ _).alloc nle _) HA6.out HB6.out ha8 HB8.out ho8 (by rw [HER.out.1, ← HER.out.2]; omega) (fun z hz => by have := HFOLD.out z (HF6.out z hz); have := HD2.out.size; omega) (fun z hz => by have := HFOLD.out z (HF8.out z hz); have := HD2.out.size; omega); subst hv8; have HS8 := hide hs8; have HFR8 := hide (show ∀ z ∈ fr8, z ∈ f ∨ w1.heap.size ≤ z from fun z hz => by (rcases hfr8 z hz with h | h | h <;> first | exact .inl (HF6.out z h) | exact .inl (HF8.out z h) | exact .inr (Nat.le_trans HD2.out.size h))); clear ho8 ha8 hf8 hg8 hs8 hfr8)
      | fail)
     all_goals
      go_wp2_with fail
      go_meet
      case rel => exact ⟨_, _, _, _, fr8, rfl, Below.t HD2.out HB8.out, by have := HS8.out; rw [HER.out.1, Nat.zero_add] at this; exact this, HFR8.out⟩
    case rest =>
     obtain ⟨w5, hw5⟩ : ∃ w5, w5 = wc := ⟨_, rfl⟩
     subst hw5
     obtain ⟨w4, A4, n4, c4, f4, hw5, hb4, hs4, hl4⟩ := hcut
     have HB4 := hide hb4
     have HS4 := hide hs4
     have HL4 := hide hl4
     have HP5 := hide (show Blk w5 w0.heap.size 96 #[.int .i64 m.repos[i].admin, .slice B0 m.repos[i].rules.length b0, .slice A4 n4 c4] from by rw [hw5]; simpa using (HPB.out w4 HB4.out).put 2 (.slice A4 n4 c4))
     have HB5 := hide (show Below w0.heap.size w0 w5 from hw5 ▸ (Below.t HB1.out HB4.out).setCell nle _)
     have HO5 := hide (show Only [w0.heap.size] w4 w5 from hw5 ▸ only_setCell w4 w0.heap.size 2 (.slice A4 n4 c4))
     clear hw5 hb4 hs4 hl4 p2
     have kp5 := HP5.out
     have p0 := Blk.c0 kp5
     have p1 := Blk.c1 kp5
     have p2 := Blk.c2 kp5
     have i2 := Blk.c2 (HKX.out w5 HB5.out)
     have x2 : w5.cell? ⟨w.heap.size + 1, 2, none⟩ = some (.int .i64 (i : Int)) := by rw [← HRI.out]; exact (HKQ.out w5 HB5.out).cell 2
     have b0' : w5.cell? ⟨b, i * 3, none⟩ = some (.int .i64 m.repos[i].admin) := cell_step HRA.out.cells.at0 (Below.t HB0.out HB5.out)
     have b1' : w5.cell? ⟨b, i * 3 + 1, none⟩ = some (.slice B0 m.repos[i].rules.length b0) := cell_step HRA.out.cells.tail.at0 (Below.t HB0.out HB5.out)
     have b2' : w5.cell? ⟨b, i * 3 + 2, none⟩ = some (.slice (some ⟨bR, oR, none⟩) m.repos[i].refs.length b1) := cell_step HRA.out.cells.tail.tail.at0 (Below.t HB0.out HB5.out)
     have yb0 := HFZ.out w5 (Below.t HB0.out HB5.out) (i * 3)
     have yb1 := HFZ.out w5 (Below.t HB0.out HB5.out) (i * 3 + 1)
     have yb2 := HFZ.out w5 (Below.t HB0.out HB5.out) (i * 3 + 2)
     clear kp5
     go_upto_region 20 with fail
     obtain ⟨w6, hw6⟩ : ∃ w6, w6 = put3 w5 b (i * 3) (.int .i64 m.repos[i].admin) (.slice B0 m.repos[i].rules.length b0) (.slice A4 n4 c4) := ⟨_, rfl⟩
     have hw6' := hw6
     unfold put3 at hw6'
     rw [← hw6']
     have HW6 := hide hw6
     have HSZ := hide HB0.out.size
     have kx6 : Blk w6 w.heap.size 35 #[.slice A0 m.keys.length c0, .slice A1 m.used.length c1, .slice (some ⟨b, 0, none⟩) m.repos.length c2] := hw6 ▸ (put3_other (by have := HBL.out; omega)).trans (HKX.out w5 HB5.out).out
     have kr6 : Blk w6 (w.heap.size + 2) 35 #[.slice none 0 0, .slice none 0 0, .slice none 0 0] := hw6 ▸ (put3_other (by have := HBL.out; omega)).trans (HRES.out w5 HB5.out).out
     have KX6 := hide kx6
     have KR6 := hide kr6
     clear hw6 hw6' p0 p1 p2 i2 x2 b0' b1' b2' yb0 yb1 yb2 kx6 kr6
     have kxw : Blk w6 w.heap.size 35 #[.slice A0 m.keys.length c0, .slice A1 m.used.length c1, .slice (some ⟨b, 0, none⟩) m.repos.length c2] := KX6.out
     have krw : Blk w6 (w.heap.size + 2) 35 #[.slice none 0 0, .slice none 0 0, .slice none 0 0] := KR6.out
     have f0 := Blk.c0 kxw
     have f1 := Blk.c1 kxw
     have f2 := Blk.c2 kxw
     have g0 := Blk.c0 krw
     have g1 := Blk.c1 krw
     have g2 := Blk.c2 krw
     have y0 := blk_frozen krw 0
     have y1 := blk_frozen krw 1
     have y2 := blk_frozen krw 2
     have R := hide (show Blk (((w6.setCell ⟨w.heap.size + 2, 0, none⟩ (.slice A0 m.keys.length c0)).setCell ⟨w.heap.size + 2, 1, none⟩ (.slice A1 m.used.length c1)).setCell ⟨w.heap.size + 2, 2, none⟩ (.slice (some ⟨b, 0, none⟩) m.repos.length c2)) (w.heap.size + 2) 35 #[.slice A0 m.keys.length c0, .slice A1 m.used.length c1, .slice (some ⟨b, 0, none⟩) m.repos.length c2] from by simpa using ((krw.put 0 (.slice A0 m.keys.length c0)).put 1 (.slice A1 m.used.length c1)).put 2 (.slice (some ⟨b, 0, none⟩) m.repos.length c2))
     have RO := hide ((((Only.refl [w.heap.size + 2] w6).setCell (p := ⟨w.heap.size + 2, 0, none⟩) (.inl (by simp)) (.slice A0 m.keys.length c0)).setCell (p := ⟨w.heap.size + 2, 1, none⟩) (.inl (by simp)) (.slice A1 m.used.length c1)).setCell (p := ⟨w.heap.size + 2, 2, none⟩) (.inl (by simp)) (.slice (some ⟨b, 0, none⟩) m.repos.length c2))
     clear kxw krw 
     go_wp2_with fail
     have R := R.out
     have RO := RO.out
     generalize ((w6.setCell ⟨w.heap.size + 2, 0, none⟩ (.slice A0 m.keys.length c0)).setCell ⟨w.heap.size + 2, 1, none⟩ (.slice A1 m.used.length c1)).setCell ⟨w.heap.size + 2, 2, none⟩ (.slice (some ⟨b, 0, none⟩) m.repos.length c2) = WW at R RO ⊢
     have z0 := Blk.c0 R
     have z1 := Blk.c1 R
     have z2 := Blk.c2 R
     refine bodyPost_ret (v := .tuple #[.agg #[.slice A0 m.keys.length c0, .slice A1 m.used.length c1, .slice (some ⟨b, 0, none⟩) m.repos.length c2], .int .i64 1]) (by simp [results, Tryz.results82, go_sem, z0, z1, z2]) rfl ?_
     rw [HE.out]
     rw [HW6.out] at RO
     have hsz0 := HL2.out
     have h01 := HLT1.out
     have hsr := HS4.out.only HO5.out (fun z hz hm => by
      simp at hm
      rcases HL4.out z hz with h1 | h1
      ·have := HRA.out.old z (HRA.out.sub z h1)
       have := HB0.out.size
       omega
      ·omega)
     obtain ⟨f', hp', hf'⟩ := HRA.out.refs (Below.t HB0.out HB5.out) hsr
     exact HRA.out.put 1 (Below.t HB0.out HB5.out) hp' (fun z hz => by
      have := HB0.out.size
      rcases hf' z hz with h1 | h1
      ·rcases HL4.out z h1 with h2 | h2
       ·have := HRA.out.old z (HRA.out.sub z h2)
        exact ⟨.inl h2, by omega⟩
       ·exact ⟨.inr (by omega), by omega⟩
      ·have := HRA.out.old z (HRA.out.sub z h1)
       exact ⟨.inl h1, by omega⟩) RO (by omega)
  ·rw [hg] at t1
   subst hbo
   clear hs1 hbR hmR t0 t2 t3
   have HG := hide hg
   clear hg
   go_upto_region 17 with fail
   clear k6 k8
   have HE := hide (show manage m.repos[i] r = (m.repos[i], 8) by unfold manage; rw [if_neg K4.out, if_neg K5.out, HNF.out]; simp only [if_neg K6.out, if_neg K8.out, getD_at hk, HG.out]; rfl)
   have kxw : Blk w2 w.heap.size 35 #[.slice A0 m.keys.length c0, .slice A1 m.used.length c1, .slice (some ⟨b, 0, none⟩) m.repos.length c2] := (HKX.out w2 HB2.out).out
   have krw : Blk w2 (w.heap.size + 2) 35 #[.slice none 0 0, .slice none 0 0, .slice none 0 0] := (HRES.out w2 HB2.out).out
   have f0 := Blk.c0 kxw
   have f1 := Blk.c1 kxw
   have f2 := Blk.c2 kxw
   have g0 := Blk.c0 krw
   have g1 := Blk.c1 krw
   have g2 := Blk.c2 krw
   have y0 := blk_frozen krw 0
   have y1 := blk_frozen krw 1
   have y2 := blk_frozen krw 2
   have R := hide (show Blk (((w2.setCell ⟨w.heap.size + 2, 0, none⟩ (.slice A0 m.keys.length c0)).setCell ⟨w.heap.size + 2, 1, none⟩ (.slice A1 m.used.length c1)).setCell ⟨w.heap.size + 2, 2, none⟩ (.slice (some ⟨b, 0, none⟩) m.repos.length c2)) (w.heap.size + 2) 35 #[.slice A0 m.keys.length c0, .slice A1 m.used.length c1, .slice (some ⟨b, 0, none⟩) m.repos.length c2] from by simpa using ((krw.put 0 (.slice A0 m.keys.length c0)).put 1 (.slice A1 m.used.length c1)).put 2 (.slice (some ⟨b, 0, none⟩) m.repos.length c2))
   have RO := hide ((((Only.refl [w.heap.size + 2] w2).setCell (p := ⟨w.heap.size + 2, 0, none⟩) (.inl (by simp)) (.slice A0 m.keys.length c0)).setCell (p := ⟨w.heap.size + 2, 1, none⟩) (.inl (by simp)) (.slice A1 m.used.length c1)).setCell (p := ⟨w.heap.size + 2, 2, none⟩) (.inl (by simp)) (.slice (some ⟨b, 0, none⟩) m.repos.length c2))
   clear kxw krw x3 t1 p2
   go_wp2_with fail
   have R := R.out
   have RO := RO.out
   generalize ((w2.setCell ⟨w.heap.size + 2, 0, none⟩ (.slice A0 m.keys.length c0)).setCell ⟨w.heap.size + 2, 1, none⟩ (.slice A1 m.used.length c1)).setCell ⟨w.heap.size + 2, 2, none⟩ (.slice (some ⟨b, 0, none⟩) m.repos.length c2) = WW at R RO ⊢
   have z0 := Blk.c0 R
   have z1 := Blk.c1 R
   have z2 := Blk.c2 R
   refine bodyPost_ret (v := .tuple #[.agg #[.slice A0 m.keys.length c0, .slice A1 m.used.length c1, .slice (some ⟨b, 0, none⟩) m.repos.length c2], .int .i64 8]) (by simp [results, Tryz.results82, go_sem, z0, z1, z2]) rfl ?_
   rw [HE.out]
   simp only [List.set_getElem_self]
   exact admd_same _ HHO.out (Below.t HB0.out HB2.out) RO (by omega)
def adminIt (m : House) (p : Repo) (i : Nat) (r : Req) : House × Int := if r.user = p.admin then ({ m with repos := m.repos.set i (manage p r).1 }, (manage p r).2) else (m, 4)

set_option maxHeartbeats 8000000 in
set_option maxRecDepth 100000 in
theorem l7Admin_any {i : Nat} {m : House} {r : Req} {hs cs : List Value} {fp fr : List Nat} (w : World) (hh : Rp.houseO.R w hs m fp) (hn : fp.Nodup) (hf : Free w fp) (hr : Rp.req.R w cs r fr) (hri : r.repo = (i : Int)) (hi : i < m.repos.length) (hP : ∀ p ∈ m.repos, RepoFit p) (hQ : ReqFit r) (hrf : refFits r.ref = true) :
  Calls Tryz.prog 39 #[.agg hs.toArray, .agg cs.toArray] w (Admd w hs fp (adminIt m m.repos[i] i r).1 (adminIt m m.repos[i] i r).2) := by
 obtain ⟨fh, hm, _⟩ := le_house.2 _ _ _ _ hh
 have HHO := hide hh
 have HFO := hide hf
 have HNO := hide hn
 clear hh hn hf
 have HRF := hide hrf
 have HRQ := hide hr
 have HPX := hide hP
 have HRI0 := hide hri
 clear hrf
 obtain ⟨E0, m0, d0, e0, rfl, _, hq⟩ := hr
 obtain rfl := hq.1
 have hm0 := hm
 obtain ⟨A0, n0, c0, f0, A1, n1, c1, f1, A2, n2, c2, f2, rfl, hff, h0, h1, h2⟩ := hm
 obtain rfl := h0.1
 obtain rfl := h1.1
 obtain rfl := h2.1
 have hmx := h2.max
 have hmq := hq.max
 have HB0 := ((((Below.refl w.heap.size w).alloc nle (.cells #[.slice A0 m.keys.length c0, .slice A1 m.used.length c1, .slice A2 m.repos.length c2] 35)).alloc (by simp) (.cells #[.int .i64 r.user, .int .i64 r.key, .int .i64 r.repo, .int .i64 r.kind, .string r.ref, .string r.path, .int .i64 r.old, .int .i64 r.back, .slice E0 r.edits.length d0, .int .i64 r.rule.user, .string r.rule.ref, .string r.rule.path, .bool r.rule.write, .int .i64 r.frm, .string r.other] 46)).alloc (by simp; omega) (.cells #[.slice none 0 0, .slice none 0 0, .slice none 0 0] 35))
 have kx := (((Blk.new w 35 #[.slice A0 m.keys.length c0, .slice A1 m.used.length c1, .slice A2 m.repos.length c2]).alloc (.cells #[.int .i64 r.user, .int .i64 r.key, .int .i64 r.repo, .int .i64 r.kind, .string r.ref, .string r.path, .int .i64 r.old, .int .i64 r.back, .slice E0 r.edits.length d0, .int .i64 r.rule.user, .string r.rule.ref, .string r.rule.path, .bool r.rule.write, .int .i64 r.frm, .string r.other] 46)).alloc (.cells #[.slice none 0 0, .slice none 0 0, .slice none 0 0] 35))
 have kq := ((Blk.new' (w := (w.alloc (.cells #[.slice A0 m.keys.length c0, .slice A1 m.used.length c1, .slice A2 m.repos.length c2] 35))) (H := w.heap.size + 1) (by simp) 46 #[.int .i64 r.user, .int .i64 r.key, .int .i64 r.repo, .int .i64 r.kind, .string r.ref, .string r.path, .int .i64 r.old, .int .i64 r.back, .slice E0 r.edits.length d0, .int .i64 r.rule.user, .string r.rule.ref, .string r.rule.path, .bool r.rule.write, .int .i64 r.frm, .string r.other]).alloc (.cells #[.slice none 0 0, .slice none 0 0, .slice none 0 0] 35))
 have kz0 := (Blk.new' (w := ((w.alloc (.cells #[.slice A0 m.keys.length c0, .slice A1 m.used.length c1, .slice A2 m.repos.length c2] 35)).alloc (.cells #[.int .i64 r.user, .int .i64 r.key, .int .i64 r.repo, .int .i64 r.kind, .string r.ref, .string r.path, .int .i64 r.old, .int .i64 r.back, .slice E0 r.edits.length d0, .int .i64 r.rule.user, .string r.rule.ref, .string r.rule.path, .bool r.rule.write, .int .i64 r.frm, .string r.other] 46))) (H := w.heap.size + 2) (by simp) 35 #[.slice none 0 0, .slice none 0 0, .slice none 0 0])
 have HKx := hide (fun (W : World) (hb : Below w.heap.size w W) => h0.step hb)
 have HUx := hide (fun (W : World) (hb : Below w.heap.size w W) => h1.step hb)
 have HRx := hide (fun (W : World) (hb : Below w.heap.size w W) => h2.step hb)
 have HEx := hide (fun (W : World) (hb : Below w.heap.size w W) => hq.step hb)
 have HHx := hide (fun (W : World) (hb : Below w.heap.size w W) => Rp.house.below hm0 hb nle)
 have HRI := hide hri
 have HPF := hide hP
 have HQF := hide hQ
 have HFI := hide (hP _ (List.getElem_mem hi))
 have i0 : (0 : Int) ≤ (i : Int) := by omega
 have i1 : (i : Int) < (m.repos.length : Int) := by omega
 clear hri hP hQ
 clear hm0 hff h0 h1 h2 hq
 go_enter Tryz.func39, Tryz.ntmps39
 go_upto_region 1 with fail
 generalize hW0 : (((w.alloc (.cells #[.slice A0 m.keys.length c0, .slice A1 m.used.length c1, .slice A2 m.repos.length c2] 35)).alloc (.cells #[.int .i64 r.user, .int .i64 r.key, .int .i64 r.repo, .int .i64 r.kind, .string r.ref, .string r.path, .int .i64 r.old, .int .i64 r.back, .slice E0 r.edits.length d0, .int .i64 r.rule.user, .string r.rule.ref, .string r.rule.path, .bool r.rule.write, .int .i64 r.frm, .string r.other] 46)).alloc (.cells #[.slice none 0 0, .slice none 0 0, .slice none 0 0] 35)) = w0 at HB0 kx kq kz0 ⊢
 clear hW0
 have HKX := hide (fun (W : World) (hb : Below w0.heap.size w0 W) => kx.step hb)
 have HKQ := hide (fun (W : World) (hb : Below w0.heap.size w0 W) => kq.step hb)
 have HB0 := hide HB0
 clear kx kq
 have HRES := hide (fun (W : World) (hb : Below w0.heap.size w0 W) => kz0.step hb)
 have HL2 := hide kz0.lt
 clear kz0
 obtain ⟨A0w, c0w, A1w, c1w, b, c2w, B0, b0, B1, b1, f, hch, hRA⟩ := repo_at HHO.out HNO.out hi
 cases hch
 have HRA := hide hRA
 have q0 : w0.cell? ⟨b, i * 3, none⟩ = some (.int .i64 m.repos[i].admin) := cell_step hRA.cells.at0 HB0.out
 have q1 : w0.cell? ⟨b, i * 3 + 1, none⟩ = some (.slice B0 m.repos[i].rules.length b0) := cell_step hRA.cells.tail.at0 HB0.out
 have q2 : w0.cell? ⟨b, i * 3 + 2, none⟩ = some (.slice B1 m.repos[i].refs.length b1) := cell_step hRA.cells.tail.tail.at0 HB0.out
 clear hRA q1 q2
 have HFZ := hide (fun (W : World) (hb : Below w.heap.size w W) (j : Nat) => (show W.frozen? ⟨b, j, none⟩ = false from by
  obtain ⟨cur, hcur⟩ := HRA.out.typ
  have e := (hb.block b (HRA.out.old _ HRA.out.bin)).trans hcur
  simp [World.frozen?, e]))
 have HBL := hide (HRA.out.old _ HRA.out.bin)
 have i2 := Blk.c2 (HKX.out w0 (Below.refl _ _))
 have x2 : w0.cell? ⟨w.heap.size + 1, 2, none⟩ = some (.int .i64 (i : Int)) := by rw [← HRI.out]; exact (HKQ.out w0 (Below.refl _ _)).cell 2
 have x0 := Blk.c0 (HKQ.out w0 (Below.refl _ _))
 by_cases hu : r.user = m.repos[i].admin
 case neg =>
  have HE := hide (show adminIt m m.repos[i] i r = (m, 4) by unfold adminIt; rw [if_neg hu])
  have hun : decide (m.repos[i].admin = r.user) = false := decide_eq_false fun e => hu e.symm
  have hune : ¬ m.repos[i].admin = r.user := fun e => hu e.symm
  have hunb : (m.repos[i].admin == r.user) = false := by simpa using hune
  have hunn : (m.repos[i].admin != r.user) = true := by simp [bne, hunb]
  clear hu
  go_wp2_with fail
  have n0 := BelowW.nonempty w0
  have e0 := BelowW.ex (w := w0)
  have g_i2 := fun n : BelowW w0 => n.cell i2
  have g_x2 := fun n : BelowW w0 => n.cell x2
  have g_x0 := fun n : BelowW w0 => n.cell x0
  have g_q0 := fun n : BelowW w0 => n.cell q0
  clear i2 x2 x0 q0
  refine wp_region_below (by kernel_rfl) (by kernel_rfl) ?_
  repeat (go_big_quiet_step (fail))
  refine wpQuiet_nil ?_
  rintro w1 ⟨m4, hw1⟩
  have hb1 := m4.property
  rw [← hw1] at hb1
  clear hw1 m4 e0 g_i2 g_x2 g_x0 g_q0
  have HB1 := hide hb1
  clear hb1
  go_upto_region 2 with fail
  clear hun hune hunb hunn
  have kxw : Blk w1 w.heap.size 35 #[.slice A0 m.keys.length c0, .slice A1 m.used.length c1, .slice (some ⟨b, 0, none⟩) m.repos.length c2] := (HKX.out w1 HB1.out).out
  have krw : Blk w1 (w.heap.size + 2) 35 #[.slice none 0 0, .slice none 0 0, .slice none 0 0] := (HRES.out w1 HB1.out).out
  have f0 := Blk.c0 kxw
  have f1 := Blk.c1 kxw
  have f2 := Blk.c2 kxw
  have g0 := Blk.c0 krw
  have g1 := Blk.c1 krw
  have g2 := Blk.c2 krw
  have y0 := blk_frozen krw 0
  have y1 := blk_frozen krw 1
  have y2 := blk_frozen krw 2
  have R := hide (show Blk (((w1.setCell ⟨w.heap.size + 2, 0, none⟩ (.slice A0 m.keys.length c0)).setCell ⟨w.heap.size + 2, 1, none⟩ (.slice A1 m.used.length c1)).setCell ⟨w.heap.size + 2, 2, none⟩ (.slice (some ⟨b, 0, none⟩) m.repos.length c2)) (w.heap.size + 2) 35 #[.slice A0 m.keys.length c0, .slice A1 m.used.length c1, .slice (some ⟨b, 0, none⟩) m.repos.length c2] from by simpa using ((krw.put 0 (.slice A0 m.keys.length c0)).put 1 (.slice A1 m.used.length c1)).put 2 (.slice (some ⟨b, 0, none⟩) m.repos.length c2))
  have RO := hide ((((Only.refl [w.heap.size + 2] w1).setCell (p := ⟨w.heap.size + 2, 0, none⟩) (.inl (by simp)) (.slice A0 m.keys.length c0)).setCell (p := ⟨w.heap.size + 2, 1, none⟩) (.inl (by simp)) (.slice A1 m.used.length c1)).setCell (p := ⟨w.heap.size + 2, 2, none⟩) (.inl (by simp)) (.slice (some ⟨b, 0, none⟩) m.repos.length c2))
  clear kxw krw 
  go_wp2_with fail
  have R := R.out
  have RO := RO.out
  generalize ((w1.setCell ⟨w.heap.size + 2, 0, none⟩ (.slice A0 m.keys.length c0)).setCell ⟨w.heap.size + 2, 1, none⟩ (.slice A1 m.used.length c1)).setCell ⟨w.heap.size + 2, 2, none⟩ (.slice (some ⟨b, 0, none⟩) m.repos.length c2) = WW at R RO ⊢
  have z0 := Blk.c0 R
  have z1 := Blk.c1 R
  have z2 := Blk.c2 R
  refine bodyPost_ret (v := .tuple #[.agg #[.slice A0 m.keys.length c0, .slice A1 m.used.length c1, .slice (some ⟨b, 0, none⟩) m.repos.length c2], .int .i64 4]) (by simp [results, Tryz.results39, go_sem, z0, z1, z2]) rfl ?_
  rw [HE.out]
  exact admd_same _ HHO.out (Below.t HB0.out HB1.out) RO (by omega)
 have HU := hide hu
 rw [← hu] at q0
 clear hu
 go_wp2_with fail
 have n0 := BelowW.nonempty w0
 have e0 := BelowW.ex (w := w0)
 have g_i2 := fun n : BelowW w0 => n.cell i2
 have g_x2 := fun n : BelowW w0 => n.cell x2
 have g_x0 := fun n : BelowW w0 => n.cell x0
 have g_q0 := fun n : BelowW w0 => n.cell q0
 clear i2 x2 x0 q0
 refine wp_region_below (by kernel_rfl) (by kernel_rfl) ?_
 repeat (go_big_quiet_step (fail))
 refine wpQuiet_nil ?_
 rintro w1 ⟨m4, hw1⟩
 have hb1 := m4.property
 rw [← hw1] at hb1
 clear hw1 m4 e0 g_i2 g_x2 g_x0 g_q0
 have HB1 := hide hb1
 clear hb1
 by_cases k4 : r.kind = 4
 case pos =>
  have K4 := hide k4
  have x3 : w1.cell? ⟨w.heap.size + 1, 3, none⟩ = some (.int .i64 4) := by rw [← K4.out]; exact (HKQ.out w1 HB1.out).cell 3
  clear k4
  have HE := hide (show adminIt m m.repos[i] i r = ({ m with repos := m.repos.set i (manage m.repos[i] r).1 }, (manage m.repos[i] r).2) by unfold adminIt; rw [if_pos HU.out])
  have i0 := Blk.c0 (HKX.out w1 HB1.out)
  have i1 := Blk.c1 (HKX.out w1 HB1.out)
  have i2 := Blk.c2 (HKX.out w1 HB1.out)
  go_wp2_with ((refine wpList_load_row rfl 46 (.tmp 3) rfl _ rfl _ _ _ _ (HKQ.out w1 HB1.out).out Tryz.underlying46 rfl size_Req ?_))
  refine (l7Rule_any (m := m) (r := r) (i := i) _ (Rp.houseO.below HHO.out (Below.t HB0.out HB1.out) nle) HNO.out (HFO.out.step (Below.t HB0.out HB1.out)) ⟨E0, _, d0, e0, rfl, rfl, HEx.out _ (Below.t HB0.out HB1.out)⟩ HRI0.out hi HPX.out HQF.out (.inl K4.out)).mono ?_
  rintro e w5 ⟨rfl, ⟨fq, hq, hqm⟩, ho⟩
  have HQ5 := hide hq
  have HQM := hide hqm
  have HO5 := hide ho
  have hsz := HB0.out.size
  have h01 := HB1.out.size
  have hl2 := HL2.out
  have kr5 : Blk w5 (w.heap.size + 2) 35 #[.slice none 0 0, .slice none 0 0, .slice none 0 0] := (HRES.out w1 HB1.out).only ho (fun hm => by have := Rp.houseO.lt HHO.out _ hm; omega)
  have KR5 := hide kr5
  clear hq hqm ho kr5 i0 i1 i2
  have krw := KR5.out
  have g0 := Blk.c0 krw
  have g1 := Blk.c1 krw
  have g2 := Blk.c2 krw
  have y0 := blk_frozen krw 0
  have y1 := blk_frozen krw 1
  have y2 := blk_frozen krw 2
  have R := hide (show Blk (((w5.setCell ⟨w.heap.size + 2, 0, none⟩ (.slice A0 m.keys.length c0)).setCell ⟨w.heap.size + 2, 1, none⟩ (.slice A1 m.used.length c1)).setCell ⟨w.heap.size + 2, 2, none⟩ (.slice (some ⟨b, 0, none⟩) m.repos.length c2)) (w.heap.size + 2) 35 #[.slice A0 m.keys.length c0, .slice A1 m.used.length c1, .slice (some ⟨b, 0, none⟩) m.repos.length c2] from by simpa using ((krw.put 0 (.slice A0 m.keys.length c0)).put 1 (.slice A1 m.used.length c1)).put 2 (.slice (some ⟨b, 0, none⟩) m.repos.length c2))
  have RO := hide ((((Only.refl [w.heap.size + 2] w5).setCell (p := ⟨w.heap.size + 2, 0, none⟩) (.inl (by simp)) (.slice A0 m.keys.length c0)).setCell (p := ⟨w.heap.size + 2, 1, none⟩) (.inl (by simp)) (.slice A1 m.used.length c1)).setCell (p := ⟨w.heap.size + 2, 2, none⟩) (.inl (by simp)) (.slice (some ⟨b, 0, none⟩) m.repos.length c2))
  clear krw
  go_wp2_with fail
  have R := R.out
  have RO := RO.out
  generalize ((w5.setCell ⟨w.heap.size + 2, 0, none⟩ (.slice A0 m.keys.length c0)).setCell ⟨w.heap.size + 2, 1, none⟩ (.slice A1 m.used.length c1)).setCell ⟨w.heap.size + 2, 2, none⟩ (.slice (some ⟨b, 0, none⟩) m.repos.length c2) = WW at R RO ⊢
  have z0 := Blk.c0 R
  have z1 := Blk.c1 R
  have z2 := Blk.c2 R
  refine bodyPost_ret (v := .tuple #[.agg #[.slice A0 m.keys.length c0, .slice A1 m.used.length c1, .slice (some ⟨b, 0, none⟩) m.repos.length c2], .int .i64 (manage m.repos[i] r).2]) (by simp [results, Tryz.results39, go_sem, z0, z1, z2]) rfl ?_
  rw [HE.out]
  refine ⟨rfl, ⟨fq, Rp.house.keep HQ5.out fun z hz => RO.block z (Rp.house.lt HQ5.out z hz) (by
    simp
    rcases HQM.out z hz with h1 | h1
    ·have := Rp.houseO.lt HHO.out _ h1; omega
    ·omega), fun z hz => (HQM.out z hz).imp id (fun h1 => by omega)⟩, ?_⟩
  exact ⟨RO.os.trans (HO5.out.os.trans (Below.t HB0.out HB1.out).os), RO.tape.trans (HO5.out.tape.trans (Below.t HB0.out HB1.out).tape), RO.output.trans (HO5.out.output.trans (Below.t HB0.out HB1.out).output), by have := RO.size; have := HO5.out.size; omega,
   fun z hz hm => (RO.block z (by have := HO5.out.size; omega) (by simp; omega)).trans ((HO5.out.block z (by omega) hm).trans ((Below.t HB0.out HB1.out).block z hz))⟩
 have K4 := hide k4
 by_cases k5 : r.kind = 5
 case pos =>
  have K5 := hide k5
  have x3 : w1.cell? ⟨w.heap.size + 1, 3, none⟩ = some (.int .i64 5) := by rw [← K5.out]; exact (HKQ.out w1 HB1.out).cell 3
  clear k4 k5
  have HE := hide (show adminIt m m.repos[i] i r = ({ m with repos := m.repos.set i (manage m.repos[i] r).1 }, (manage m.repos[i] r).2) by unfold adminIt; rw [if_pos HU.out])
  have i0 := Blk.c0 (HKX.out w1 HB1.out)
  have i1 := Blk.c1 (HKX.out w1 HB1.out)
  have i2 := Blk.c2 (HKX.out w1 HB1.out)
  go_wp2_with ((refine wpList_load_row rfl 46 (.tmp 3) rfl _ rfl _ _ _ _ (HKQ.out w1 HB1.out).out Tryz.underlying46 rfl size_Req ?_))
  refine (l7Rule_any (m := m) (r := r) (i := i) _ (Rp.houseO.below HHO.out (Below.t HB0.out HB1.out) nle) HNO.out (HFO.out.step (Below.t HB0.out HB1.out)) ⟨E0, _, d0, e0, rfl, rfl, HEx.out _ (Below.t HB0.out HB1.out)⟩ HRI0.out hi HPX.out HQF.out (.inr K5.out)).mono ?_
  rintro e w5 ⟨rfl, ⟨fq, hq, hqm⟩, ho⟩
  have HQ5 := hide hq
  have HQM := hide hqm
  have HO5 := hide ho
  have hsz := HB0.out.size
  have h01 := HB1.out.size
  have hl2 := HL2.out
  have kr5 : Blk w5 (w.heap.size + 2) 35 #[.slice none 0 0, .slice none 0 0, .slice none 0 0] := (HRES.out w1 HB1.out).only ho (fun hm => by have := Rp.houseO.lt HHO.out _ hm; omega)
  have KR5 := hide kr5
  clear hq hqm ho kr5 i0 i1 i2
  have krw := KR5.out
  have g0 := Blk.c0 krw
  have g1 := Blk.c1 krw
  have g2 := Blk.c2 krw
  have y0 := blk_frozen krw 0
  have y1 := blk_frozen krw 1
  have y2 := blk_frozen krw 2
  have R := hide (show Blk (((w5.setCell ⟨w.heap.size + 2, 0, none⟩ (.slice A0 m.keys.length c0)).setCell ⟨w.heap.size + 2, 1, none⟩ (.slice A1 m.used.length c1)).setCell ⟨w.heap.size + 2, 2, none⟩ (.slice (some ⟨b, 0, none⟩) m.repos.length c2)) (w.heap.size + 2) 35 #[.slice A0 m.keys.length c0, .slice A1 m.used.length c1, .slice (some ⟨b, 0, none⟩) m.repos.length c2] from by simpa using ((krw.put 0 (.slice A0 m.keys.length c0)).put 1 (.slice A1 m.used.length c1)).put 2 (.slice (some ⟨b, 0, none⟩) m.repos.length c2))
  have RO := hide ((((Only.refl [w.heap.size + 2] w5).setCell (p := ⟨w.heap.size + 2, 0, none⟩) (.inl (by simp)) (.slice A0 m.keys.length c0)).setCell (p := ⟨w.heap.size + 2, 1, none⟩) (.inl (by simp)) (.slice A1 m.used.length c1)).setCell (p := ⟨w.heap.size + 2, 2, none⟩) (.inl (by simp)) (.slice (some ⟨b, 0, none⟩) m.repos.length c2))
  clear krw
  go_wp2_with fail
  have R := R.out
  have RO := RO.out
  generalize ((w5.setCell ⟨w.heap.size + 2, 0, none⟩ (.slice A0 m.keys.length c0)).setCell ⟨w.heap.size + 2, 1, none⟩ (.slice A1 m.used.length c1)).setCell ⟨w.heap.size + 2, 2, none⟩ (.slice (some ⟨b, 0, none⟩) m.repos.length c2) = WW at R RO ⊢
  have z0 := Blk.c0 R
  have z1 := Blk.c1 R
  have z2 := Blk.c2 R
  refine bodyPost_ret (v := .tuple #[.agg #[.slice A0 m.keys.length c0, .slice A1 m.used.length c1, .slice (some ⟨b, 0, none⟩) m.repos.length c2], .int .i64 (manage m.repos[i] r).2]) (by simp [results, Tryz.results39, go_sem, z0, z1, z2]) rfl ?_
  rw [HE.out]
  refine ⟨rfl, ⟨fq, Rp.house.keep HQ5.out fun z hz => RO.block z (Rp.house.lt HQ5.out z hz) (by
    simp
    rcases HQM.out z hz with h1 | h1
    ·have := Rp.houseO.lt HHO.out _ h1; omega
    ·omega), fun z hz => (HQM.out z hz).imp id (fun h1 => by omega)⟩, ?_⟩
  exact ⟨RO.os.trans (HO5.out.os.trans (Below.t HB0.out HB1.out).os), RO.tape.trans (HO5.out.tape.trans (Below.t HB0.out HB1.out).tape), RO.output.trans (HO5.out.output.trans (Below.t HB0.out HB1.out).output), by have := RO.size; have := HO5.out.size; omega,
   fun z hz hm => (RO.block z (by have := HO5.out.size; omega) (by simp; omega)).trans ((HO5.out.block z (by omega) hm).trans ((Below.t HB0.out HB1.out).block z hz))⟩
 have K5 := hide k5
 have hb4 : (r.kind == 4) = false := by simpa using k4
 have hb5 : (r.kind == 5) = false := by simpa using k5
 have x3 := Blk.c3 (HKQ.out w1 HB1.out)
 have HE := hide (show adminIt m m.repos[i] i r = ({ m with repos := m.repos.set i (manage m.repos[i] r).1 }, (manage m.repos[i] r).2) by unfold adminIt; rw [if_pos HU.out])
 have i0 := Blk.c0 (HKX.out w1 HB1.out)
 have i1 := Blk.c1 (HKX.out w1 HB1.out)
 have i2 := Blk.c2 (HKX.out w1 HB1.out)
 go_wp2_with ((refine wpList_load_row rfl 46 (.tmp 3) rfl _ rfl _ _ _ _ (HKQ.out w1 HB1.out).out Tryz.underlying46 rfl size_Req ?_))
 refine (l7RefOf_any (m := m) (r := r) (i := i) _ (Rp.houseO.below HHO.out (Below.t HB0.out HB1.out) nle) HNO.out (HFO.out.step (Below.t HB0.out HB1.out)) ⟨E0, _, d0, e0, rfl, rfl, HEx.out _ (Below.t HB0.out HB1.out)⟩ HRI0.out hi HPX.out HQF.out K4.out K5.out HRF.out).mono ?_
 rintro e w5 ⟨rfl, ⟨fq, hq, hqm⟩, ho⟩
 have HQ5 := hide hq
 have HQM := hide hqm
 have HO5 := hide ho
 have hsz := HB0.out.size
 have h01 := HB1.out.size
 have hl2 := HL2.out
 have kr5 : Blk w5 (w.heap.size + 2) 35 #[.slice none 0 0, .slice none 0 0, .slice none 0 0] := (HRES.out w1 HB1.out).only ho (fun hm => by have := Rp.houseO.lt HHO.out _ hm; omega)
 have KR5 := hide kr5
 clear hq hqm ho kr5 i0 i1 i2
 have krw := KR5.out
 have g0 := Blk.c0 krw
 have g1 := Blk.c1 krw
 have g2 := Blk.c2 krw
 have y0 := blk_frozen krw 0
 have y1 := blk_frozen krw 1
 have y2 := blk_frozen krw 2
 have R := hide (show Blk (((w5.setCell ⟨w.heap.size + 2, 0, none⟩ (.slice A0 m.keys.length c0)).setCell ⟨w.heap.size + 2, 1, none⟩ (.slice A1 m.used.length c1)).setCell ⟨w.heap.size + 2, 2, none⟩ (.slice (some ⟨b, 0, none⟩) m.repos.length c2)) (w.heap.size + 2) 35 #[.slice A0 m.keys.length c0, .slice A1 m.used.length c1, .slice (some ⟨b, 0, none⟩) m.repos.length c2] from by simpa using ((krw.put 0 (.slice A0 m.keys.length c0)).put 1 (.slice A1 m.used.length c1)).put 2 (.slice (some ⟨b, 0, none⟩) m.repos.length c2))
 have RO := hide ((((Only.refl [w.heap.size + 2] w5).setCell (p := ⟨w.heap.size + 2, 0, none⟩) (.inl (by simp)) (.slice A0 m.keys.length c0)).setCell (p := ⟨w.heap.size + 2, 1, none⟩) (.inl (by simp)) (.slice A1 m.used.length c1)).setCell (p := ⟨w.heap.size + 2, 2, none⟩) (.inl (by simp)) (.slice (some ⟨b, 0, none⟩) m.repos.length c2))
 clear krw
 go_wp2_with fail
 have R := R.out
 have RO := RO.out
 generalize ((w5.setCell ⟨w.heap.size + 2, 0, none⟩ (.slice A0 m.keys.length c0)).setCell ⟨w.heap.size + 2, 1, none⟩ (.slice A1 m.used.length c1)).setCell ⟨w.heap.size + 2, 2, none⟩ (.slice (some ⟨b, 0, none⟩) m.repos.length c2) = WW at R RO ⊢
 have z0 := Blk.c0 R
 have z1 := Blk.c1 R
 have z2 := Blk.c2 R
 refine bodyPost_ret (v := .tuple #[.agg #[.slice A0 m.keys.length c0, .slice A1 m.used.length c1, .slice (some ⟨b, 0, none⟩) m.repos.length c2], .int .i64 (manage m.repos[i] r).2]) (by simp [results, Tryz.results39, go_sem, z0, z1, z2]) rfl ?_
 rw [HE.out]
 refine ⟨rfl, ⟨fq, Rp.house.keep HQ5.out fun z hz => RO.block z (Rp.house.lt HQ5.out z hz) (by
   simp
   rcases HQM.out z hz with h1 | h1
   ·have := Rp.houseO.lt HHO.out _ h1; omega
   ·omega), fun z hz => (HQM.out z hz).imp id (fun h1 => by omega)⟩, ?_⟩
 exact ⟨RO.os.trans (HO5.out.os.trans (Below.t HB0.out HB1.out).os), RO.tape.trans (HO5.out.tape.trans (Below.t HB0.out HB1.out).tape), RO.output.trans (HO5.out.output.trans (Below.t HB0.out HB1.out).output), by have := RO.size; have := HO5.out.size; omega,
  fun z hz hm => (RO.block z (by have := HO5.out.size; omega) (by simp; omega)).trans ((HO5.out.block z (by omega) hm).trans ((Below.t HB0.out HB1.out).block z hz))⟩
end Go.Proofs.YtnogkkcmcnhodaaGreatDoor
