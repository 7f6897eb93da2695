/- Lemmas and walks, joined and shortened by program (wip/gen/merge2.py). -/
import Derived.Test.YtlkoaobaoffpaaaGreatDoorZ20
namespace Go.Proofs.YtlkoaobaoffpaaaGreatDoor
open Go.RowKit
attribute [local go_sem ↓] Go.wp_at_zero Go.wp_at_succ
attribute [local go_sem] stayQ_normal
set_option maxHeartbeats 8000000
set_option maxRecDepth 100000
set_option linter.unusedSimpArgs false
set_option linter.unusedVariables false
theorem jos {i:Nat} {m:Jl} {r:Req} {hs cs:List Value} {f fr:List Nat} (w:World) (hm:Rp.house.R w hs m f) (hr:Rp.req.R w cs r fr) (hri:r.repo=(i:Int)) (hi:i<m.Rz.length) (hP: ∀p∈m.Rz,RepoFit p) (hQ:ReqFit r) (hr3:m.Rz.length≤3) (hw:Vs r=true):
  Calls Tryz.prog 106 #[.agg hs.toArray,.agg cs.toArray] w fun e w'=>e= .returned (.bool (Yi m m.Rz[i] r))∧Below w.heap.size w w':=by
 obtain⟨E0,m0,d0,e0,rfl,_,hq⟩:=hr;obtain rfl:=hq.1;have hm0:=hm;obtain⟨A0,n0,c0,f0,A1,n1,c1,f1,A2,n2,c2,f2,rfl,hff,h0,h1,h2⟩:=hm;obtain rfl:=h0.1;obtain rfl:=h1.1;obtain rfl:=h2.1;have hmx:=h2.max;have hmq:=hq.max
 have HB0:=(((Below.refl w.heap.size w).alloc nle (.cells #[.slice A0 m.keys.length c0,.slice A1 m.used.length c1,.slice A2 m.Rz.length c2] 26)).alloc (by simp) (.cells (RA r (.slice E0 r.Ez.length d0)) 31));have kx:=((Blk.new w 26 #[.slice A0 m.keys.length c0,.slice A1 m.used.length c1,.slice A2 m.Rz.length c2]).alloc (.cells (RA r (.slice E0 r.Ez.length d0)) 31))
 have kq:=(Blk.new' (w:=(w.alloc (.cells #[.slice A0 m.keys.length c0,.slice A1 m.used.length c1,.slice A2 m.Rz.length c2] 26))) (H:=w.heap.size+1) (by simp) 31 (RA r (.slice E0 r.Ez.length d0)));have HKx:=Ja (fun(W:World) (hb:Below w.heap.size w W)=>h0.step hb);have HUx:=Ja (fun(W:World) (hb:Below w.heap.size w W)=>h1.step hb)
 have HRx:=Ja (fun(W:World) (hb:Below w.heap.size w W)=>h2.step hb);have HEx:=Ja (fun(W:World) (hb:Below w.heap.size w W)=>hq.step hb);have HHx:=Ja (fun(W:World) (hb:Below w.heap.size w W)=>Rp.house.below hm0 hb nle);have HRI:=Ja hri;have HPF:=Ja hP;have HQF:=Ja hQ;have HFI:=Ja (hP _ (List.getElem_mem hi));have i0:(0:Int)≤(i:Int):=by omega
 have i1:(i:Int)<(m.Rz.length:Int):=by omega
 clear hri hP hQ;clear hm0 hff h0 h1 h2 hq;go_enter Tryz.func106,Tryz.ntmps106;go_upto_region 1 with fail
 generalize hW0:((w.alloc (.cells #[.slice A0 m.keys.length c0,.slice A1 m.used.length c1,.slice A2 m.Rz.length c2] 26)).alloc (.cells (RA r (.slice E0 r.Ez.length d0)) 31))=w0 at HB0 kx kq ⊢;clear hW0;have HKX:=Ja (fun(W:World) (hb:Below w0.heap.size w0 W)=>kx.step hb);have HKQ:=Ja (fun(W:World) (hb:Below w0.heap.size w0 W)=>kq.step hb);have HB0:=Ja HB0;clear kx kq
 have i2:=Blk.c2 (HKX.out w0 (Below.refl _ _));have x2:w0.cell? ⟨w.heap.size+1,2,none⟩=some (.int .i64 (i:Int)):=by rw[←HRI.out];exact(HKQ.out w0 (Below.refl _ _)).cell 2
 obtain⟨bp,op,B0,k0,d1,g0,B1,k1,d2,g1,rfl,hbp,hmp,q0,q1,q2,hs0,hs1,_⟩:=J7 (HRx.out w0 HB0.out) hi;obtain rfl:=hs0.1;have HS0:=Ja (fun(W:World) (hb:Below w0.heap.size w0 W)=>hs0.step hb);clear q0 q2 hs0 hs1 hbp hmp;by_cases k1:r.kind=1
 ·have K1:=Ja k1;have x3:w0.cell? ⟨w.heap.size+1,3,none⟩=some (.int .i64 1):=by rw[←K1.out];exact(HKQ.out w0 (Below.refl _ _)).cell 3
  clear k1;have HE:=Ja (show Yi m m.Rz[i] r=(decide (0<r.Ez.length)&&r.Ez.all fun e=>Yz m.Rz[i].Uz r.user r.ref e.path true) by unfold Yi;rw[if_pos K1.out]);go_wp2_with((refine wpList_load_row rfl 31 (.tmp 3) rfl _ rfl _ _ _ _ (HKQ.out w0 (Below.refl _ _)).out Tryz.underlying31 rfl Vi ?_))
  refine(ji4 (Uz:=m.Rz[i].Uz) (r:=r) _ (HS0.out _ (Below.refl _ _)) ⟨E0,_,d0,e0,rfl,rfl,HEx.out _ HB0.out⟩ HFI.out.Uz HQF.out).mono ?_;rintro e w1 ⟨rfl,hb1⟩;have HB1:=Ja hb1;clear hb1 i2 x2 x3 q1;go_wp2_with fail;go_ret;exact⟨Jc HE.out.symm,Below.t HB0.out HB1.out⟩
 have K1:=Ja k1;by_cases k10:r.kind=10
 ·have K10:=Ja k10;have K9:=Ja (show ¬r.kind=9 by omega);have x3:w0.cell? ⟨w.heap.size+1,3,none⟩=some (.int .i64 10):=by rw[←K10.out];exact(HKQ.out w0 (Below.refl _ _)).cell 3
  clear k1 k10;have hfr0:=HQF.out.ints.2.2.2.2.1;obtain⟨j,hfj⟩: ∃j:Nat,r.frm=(j:Int):=⟨r.frm.toNat,by omega⟩;have HFJ:=Ja hfj;have x13:w0.cell? ⟨w.heap.size+1,13,none⟩=some (.int .i64 (j:Int)):=by rw[←hfj];exact(HKQ.out w0 (Below.refl _ _)).cell 13
  have x0:=Blk.c0 (HKQ.out w0 (Below.refl _ _));have x4:=Blk.c4 (HKQ.out w0 (Below.refl _ _));have x14:=Blk.c14 (HKQ.out w0 (Below.refl _ _));have hwl:IntKind.i64.wrap ((m.Rz.length:Int) - 1)=(m.Rz.length:Int) - 1:=IntWalk.i64_in _ (by omega);have C1:=fun W=>Jw (j:Int) 0 ((m.Rz.length:Int) - 1) W;clear hfr0 hfj;by_cases hj:j<m.Rz.length
  ·have hin:inB (j:Int) 0 ((m.Rz.length:Int) - 1)=true:=jap.2 ⟨by omega,by omega⟩;simp only[hin] at C1;have D1:=Ja C1;clear C1 hin;obtain⟨bp',op',B0',k0',d1',g0',B1',k1',d2',g1',hbo,hbp,hmp,q0,q1',q2,hs0',hs1,_⟩:=J7 (HRx.out w0 HB0.out) hj;cases hbo;obtain rfl:=hs0'.1;have HFI':=Ja (HPF.out _ (List.getElem_mem hj))
   have C2:=fun W (h:SlR Rp.rule W B0' m.Rz[j].Uz.length d1' m.Rz[j].Uz g0')=>Wu r.user r.other ByteArray.empty false W h HFI'.out.Uz (by decide);have C3:=fun W (h:SlR Rp.rule W B0 m.Rz[i].Uz.length d1 m.Rz[i].Uz g0)=>Wu r.user r.ref ByteArray.empty true W h HFI.out.Uz (by decide);have hs0:=HS0.out w0 (Below.refl _ _)
   have HE:=Ja (show Yi m m.Rz[i] r=(Yz m.Rz[j].Uz r.user r.other ByteArray.empty false&&Yz m.Rz[i].Uz r.user r.ref ByteArray.empty true) by
    unfold Yi;rw[if_neg K1.out,decide_eq_false K9.out,HFJ.out,Int.toNat_natCast,List.getElem?_eq_getElem hj,Bool.false_or,Bool.and_comm])
   have j0:(0:Int)≤(j:Int):=by omega
   have j1:(j:Int)<(m.Rz.length:Int):=by omega
   clear q0 q2 hs1 hbp hmp;cases hA:Yz m.Rz[j].Uz r.user r.other ByteArray.empty false
   ·have HV:=Ja (show Yi m m.Rz[i] r=false by rw[HE.out,hA];rfl);simp only[hA] at C2;have D2:=Ja C2;clear C2 C3 hA;go_upto_region 6 with fail
    go_wp2_with fail;have n0:=BelowW.nonempty w0;have e0:=BelowW.ex (w:=w0);have g_x0:=fun n:BelowW w0=>n.cell x0;have g_x13:=fun n:BelowW w0=>n.cell x13;have g_x14:=fun n:BelowW w0=>n.cell x14;have g_i2:=fun n:BelowW w0=>n.cell i2;have g_qa:=fun n:BelowW w0=>n.cell q1';clear x0 x13 x14 i2 q1';refine Jf (by kernel_rfl) (by kernel_rfl) ?_
    repeat(go_big_quiet_step(first|(go_at_call 39;exact BelowW.calls _ (D1.out _))|(go_at_call 103;exact BelowW.calls _ (D2.out _ (BelowW.sl _ hs0')))))
    refine wpQuiet_nil ?_;rintro w4 ⟨m4,hw4⟩;have hb4:=m4.property;rw[←hw4] at hb4;clear hw4 m4 e0 g_x0 g_x13 g_x14 g_i2 g_qa;go_wp2;go_ret;exact⟨Jc HV.out.symm,Below.t HB0.out hb4⟩
   ·have HA:=Ja hA;simp only[hA] at C2;have D2:=Ja C2;clear C2 hA;cases hB:Yz m.Rz[i].Uz r.user r.ref ByteArray.empty true
    all_goals
     have HV:=Ja (show Yi m m.Rz[i] r=_ by rw[HE.out,HA.out,hB,Bool.true_and]);simp only[hB] at C3;have D3:=Ja C3;clear C3 hB;go_upto_region 6 with fail
     go_wp2_with fail;have n0:=BelowW.nonempty w0;have e0:=BelowW.ex (w:=w0);have g_x0:=fun n:BelowW w0=>n.cell x0;have g_x4:=fun n:BelowW w0=>n.cell x4;have g_x13:=fun n:BelowW w0=>n.cell x13;have g_x14:=fun n:BelowW w0=>n.cell x14;have g_i2:=fun n:BelowW w0=>n.cell i2;have g_qa:=fun n:BelowW w0=>n.cell q1';clear x0 x4 x13 x14 i2 q1';refine Jf (by kernel_rfl) (by kernel_rfl) ?_
     repeat(go_big_quiet_step(first|(go_at_call 39;exact BelowW.calls _ (D1.out _))|(go_at_call 103;(with_reducible show Calls _ _ #[.slice B0' _ _,_,_,_,_] _ _);exact BelowW.calls _ (D2.out _ (BelowW.sl _ hs0')))|(go_at_call 103;(with_reducible show Calls _ _ #[.slice B0 _ _,_,_,_,_] _ _);exact BelowW.calls _ (D3.out _ (BelowW.sl _ hs0)))))
     refine wpQuiet_nil ?_;rintro w4 ⟨m4,hw4⟩;have hb4:=m4.property;rw[←hw4] at hb4;clear hw4 m4 e0 g_x0 g_x4 g_x13 g_x14 g_i2 g_qa;go_wp2;go_ret;exact⟨Jc HV.out.symm,Below.t HB0.out hb4⟩
  ·have hin:inB (j:Int) 0 ((m.Rz.length:Int) - 1)=false:=by
    cases h:inB (j:Int) 0 ((m.Rz.length:Int) - 1)
    ·rfl
    ·have:=jap.1 h;omega
   simp only[hin] at C1;have D1:=Ja C1;have HV:=Ja (show Yi m m.Rz[i] r=false by
    unfold Yi;rw[if_neg K1.out,decide_eq_false K9.out,HFJ.out,Int.toNat_natCast,List.getElem?_eq_none (by omega),Bool.false_or,Bool.and_false])
   clear C1 hin hj;go_upto_region 6 with fail
   go_wp2_with fail;have n0:=BelowW.nonempty w0;have e0:=BelowW.ex (w:=w0);have g_x13:=fun n:BelowW w0=>n.cell x13;have g_i2:=fun n:BelowW w0=>n.cell i2;clear x13 i2;refine Jf (by kernel_rfl) (by kernel_rfl) ?_
   repeat(go_big_quiet_step(first|(go_at_call 39;exact BelowW.calls _ (D1.out _))))
   refine wpQuiet_nil ?_;rintro w4 ⟨m4,hw4⟩;have hb4:=m4.property;rw[←hw4] at hb4;clear hw4 m4 e0 g_x13 g_i2;go_wp2;go_ret;exact⟨Jc HV.out.symm,Below.t HB0.out hb4⟩
 have K9:=Ja (show r.kind=9 by
  unfold Vs at hw;simp only[Bool.or_eq_true,beq_iff_eq] at hw;omega)
 have x0:=Blk.c0 (HKQ.out w0 (Below.refl _ _));have x4:=Blk.c4 (HKQ.out w0 (Below.refl _ _));have x3:w0.cell? ⟨w.heap.size+1,3,none⟩=some (.int .i64 9):=by rw[←K9.out];exact(HKQ.out w0 (Below.refl _ _)).cell 3
 clear k1 k10 hw;have HE:=Ja (show Yi m m.Rz[i] r=Yz m.Rz[i].Uz r.user r.ref ByteArray.empty true by unfold Yi;rw[if_neg K1.out,decide_eq_true K9.out,Bool.true_or,Bool.and_true]);go_wp2_with fail;refine(Wu r.user r.ref ByteArray.empty true _ (HS0.out _ (Below.refl _ _)) HFI.out.Uz (by decide)).mono ?_;rintro e w1 ⟨rfl,hb1⟩;have HB1:=Ja hb1
 clear hb1 i2 x2 x3 q1 x0 x4;go_wp2_with fail;go_ret;exact⟨Jc HE.out.symm,Below.t HB0.out HB1.out⟩
def NextAt (w:World) (o:List File×Int) (e:Ending) (w':World):Prop:=
 ∃A n c f,e= .returned (.tuple #[.slice A n c,.int .i64 o.2])∧SlR Rp.file w' A n c o.1 f∧Below w.heap.size w w'
theorem jpz {m:Jl} {p:Xq} {r:Req} (h:Yi m p r=true) (h1: ¬r.kind=1) (h9: ¬r.kind=9):r.frm.toNat<m.Rz.length:=by
 unfold Yi at h;rw[if_neg h1,decide_eq_false h9,Bool.false_or] at h;have h2:=(Bool.and_eq_true_iff.1 h).2;by_cases hl:r.frm.toNat<m.Rz.length
 ·exact hl
 ·rw[List.getElem?_eq_none (by omega)] at h2;cases h2
theorem jm6 {k:Nat} {i:Nat} {m:Jl} {r:Req} {hs cs:List Value} {f fr:List Nat} (w:World) (hm:Rp.house.R w hs m f) (hr:Rp.req.R w cs r fr) (hri:r.repo=(i:Int)) (hi:i<m.Rz.length) (hP: ∀p∈m.Rz,RepoFit p) (hQ:ReqFit r) (hok:Ys m=true) (hk:k<m.Rz[i].Fz.length) (hidx:Y7 m.Rz[i].Fz r.ref=some k) (hmay:Yi m m.Rz[i] r=true):
  Calls Tryz.prog 107 #[.agg hs.toArray,.agg cs.toArray] w (NextAt w (newest m m.Rz[i].Fz[k] r)):=by
 have hfx:=(RepoFit.of ((Jo.1 hok).2.2 _ (List.getElem_mem hi))).vers _ (List.getElem_mem hk);have HFX:=Ja hfx;have HMAY:=Ja hmay;have hidn:jd4 (Xx r.ref) m.Rz[i].Fz=(k:Int):=by
  rcases Zu (Xx r.ref) m.Rz[i].Fz with ⟨hn,he⟩|⟨k',hn,_,he⟩
  ·rw[show Y7 m.Rz[i].Fz r.ref=none from hn] at hidx;cases hidx
  ·rw[show Y7 m.Rz[i].Fz r.ref=some k' from hn] at hidx;cases hidx;exact he
 have HIDN:=Ja hidn;have HOK:=Ja hok;have hr3:m.Rz.length≤3:=by have:=(Jo.1 hok).2.1;omega
 clear hfx hmay hidn hidx hok;obtain⟨E0,m0,d0,e0,rfl,_,hq⟩:=hr;obtain rfl:=hq.1;have hm0:=hm;obtain⟨A0,n0,c0,f0,A1,n1,c1,f1,A2,n2,c2,f2,rfl,hff,h0,h1,h2⟩:=hm;obtain rfl:=h0.1;obtain rfl:=h1.1;obtain rfl:=h2.1;have hmx:=h2.max;have hmq:=hq.max
 have HB0:=(((Below.refl w.heap.size w).alloc nle (.cells #[.slice A0 m.keys.length c0,.slice A1 m.used.length c1,.slice A2 m.Rz.length c2] 26)).alloc (by simp) (.cells (RA r (.slice E0 r.Ez.length d0)) 31));have kx:=((Blk.new w 26 #[.slice A0 m.keys.length c0,.slice A1 m.used.length c1,.slice A2 m.Rz.length c2]).alloc (.cells (RA r (.slice E0 r.Ez.length d0)) 31))
 have kq:=(Blk.new' (w:=(w.alloc (.cells #[.slice A0 m.keys.length c0,.slice A1 m.used.length c1,.slice A2 m.Rz.length c2] 26))) (H:=w.heap.size+1) (by simp) 31 (RA r (.slice E0 r.Ez.length d0)));have HKx:=Ja (fun(W:World) (hb:Below w.heap.size w W)=>h0.step hb);have HUx:=Ja (fun(W:World) (hb:Below w.heap.size w W)=>h1.step hb)
 have HRx:=Ja (fun(W:World) (hb:Below w.heap.size w W)=>h2.step hb);have HEx:=Ja (fun(W:World) (hb:Below w.heap.size w W)=>hq.step hb);have HHx:=Ja (fun(W:World) (hb:Below w.heap.size w W)=>Rp.house.below hm0 hb nle);have HRI:=Ja hri;have HPF:=Ja hP;have HQF:=Ja hQ;have HFI:=Ja (hP _ (List.getElem_mem hi));have i0:(0:Int)≤(i:Int):=by omega
 have i1:(i:Int)<(m.Rz.length:Int):=by omega
 clear hri hP hQ;clear hm0 hff h0 h1 h2 hq;go_enter Tryz.func107,Tryz.ntmps107;go_upto_region 1 with fail
 generalize hW0:((w.alloc (.cells #[.slice A0 m.keys.length c0,.slice A1 m.used.length c1,.slice A2 m.Rz.length c2] 26)).alloc (.cells (RA r (.slice E0 r.Ez.length d0)) 31))=w0 at HB0 kx kq ⊢;clear hW0;have HKX:=Ja (fun(W:World) (hb:Below w0.heap.size w0 W)=>kx.step hb);have HKQ:=Ja (fun(W:World) (hb:Below w0.heap.size w0 W)=>kq.step hb);have HB0:=Ja HB0;clear kx kq
 have i2:=Blk.c2 (HKX.out w0 (Below.refl _ _));have x2:w0.cell? ⟨w.heap.size+1,2,none⟩=some (.int .i64 (i:Int)):=by rw[←HRI.out];exact(HKQ.out w0 (Below.refl _ _)).cell 2
 have x4:=Blk.c4 (HKQ.out w0 (Below.refl _ _));obtain⟨bp,op,B0,b0,d0',g0,B1,b1,d1',g1,rfl,hbp,hmp,q0,q1,q2,hs0,hs1,hsub⟩:=J7 (HRx.out w0 HB0.out) hi;obtain rfl:=hs1.1;have HS1:=Ja (fun(W:World) (hb:Below w0.heap.size w0 W)=>hs1.step hb)
 have hrp:Rp.repo.R w0 [.int .i64 m.Rz[i].Az,.slice B0 b0 d0',.slice B1 m.Rz[i].Fz.length d1'] m.Rz[i] (g0++g1):=⟨B0,b0,d0',g0,B1,_,d1',g1,rfl,rfl,hs0,hs1⟩;have HPx:=Ja (fun(W:World) (hb:Below w0.heap.size w0 W)=>Rp.repo.below hrp hb nle);have HQ2:=Ja q2
 have C1:=fun W (hh:Rp.repo.R W [.int .i64 m.Rz[i].Az,.slice B0 b0 d0',.slice B1 m.Rz[i].Fz.length d1'] m.Rz[i] (g0++g1))=>jbd r.ref W hh;simp only[HIDN.out] at C1;have D1:=Ja C1;clear C1 hs0 hs1 hrp hbp hmp hsub;go_wp2_with fail;have n0:=BelowW.nonempty w0;have e0:=BelowW.ex (w:=w0);have g_i2:=fun n:BelowW w0=>n.cell i2;have g_x2:=fun n:BelowW w0=>n.cell x2
 have g_x4:=fun n:BelowW w0=>n.cell x4;have g_q0:=fun n:BelowW w0=>n.cell q0;have g_q1:=fun n:BelowW w0=>n.cell q1;have g_q2:=fun n:BelowW w0=>n.cell q2;clear i2 x2 x4 q0 q1 q2;refine Jf (by kernel_rfl) (by kernel_rfl) ?_
 repeat(go_big_quiet_step(first|(go_at_call 101;exact BelowW.calls _ (D1.out _ (HPx.out _ (Subtype.property _))))))
 refine wpQuiet_nil ?_;rintro w1 ⟨m4,hw1⟩;have hb1:=m4.property;rw[←hw1] at hb1;clear hw1 m4 e0 g_i2 g_x2 g_x4 g_q0 g_q1 g_q2;have HB1:=Ja hb1;clear hb1 D1;have i2:=Blk.c2 (HKX.out w1 HB1.out);have x2:w1.cell? ⟨w.heap.size+1,2,none⟩=some (.int .i64 (i:Int)):=by rw[←HRI.out];exact(HKQ.out w1 HB1.out).cell 2
 have q2:=Je HQ2.out HB1.out;obtain⟨bR,oR,B3,b3,d3,g3,rfl,hbR,hmR,t0,t1,t2,t3,hs3,_⟩:=J3 (HS1.out w1 HB1.out) hk;obtain rfl:=hs3.1;have k0:(0:Int)≤(k:Int):=by omega
 have k1:(k:Int)<(m.Rz[i].Fz.length:Int):=by omega
 have HS3:=Ja (fun(W:World) (hb:Below w1.heap.size w1 W)=>hs3.step hb);clear hbR hmR hs3;go_upto_region 3 with fail
 obtain⟨w2,hw2⟩: ∃w2,w2=w1.alloc (.cells #[.string m.Rz[i].Fz[k].name,.bool m.Rz[i].Fz[k].guard,.int .i64 m.Rz[i].Fz[k].count,.slice B3 m.Rz[i].Fz[k].Vz.length d3] 41):=⟨_,rfl⟩;rw[←hw2];have HD2:=Ja (show Below w1.heap.size w1 w2 from hw2▸(Below.refl _ _).alloc nle _);have HB2:=Ja (Below.t HB1.out HD2.out)
 have kr:=(show Blk w2 w1.heap.size 41 #[.string m.Rz[i].Fz[k].name,.bool m.Rz[i].Fz[k].guard,.int .i64 m.Rz[i].Fz[k].count,.slice B3 m.Rz[i].Fz[k].Vz.length d3] from hw2▸Blk.new w1 _ _);have HRB:=Ja (fun(W:World) (hb:Below w2.heap.size w2 W)=>kr.step hb)
 have hxr:Rp.ref.R w2 [.string m.Rz[i].Fz[k].name,.bool m.Rz[i].Fz[k].guard,.int .i64 m.Rz[i].Fz[k].count,.slice B3 m.Rz[i].Fz[k].Vz.length d3] m.Rz[i].Fz[k] g3:=⟨B3,_,d3,g3,rfl,rfl,HS3.out _ HD2.out⟩;have HXR:=Ja (fun(W:World) (hb:Below w2.heap.size w2 W)=>Rp.ref.below hxr hb nle);clear hw2 kr hxr t0 t1 t2 t3 q2 i2 x2;by_cases kk1:r.kind=1
 ·have K1:=Ja kk1;have x3:w2.cell? ⟨w.heap.size+1,3,none⟩=some (.int .i64 1):=by rw[←K1.out];exact(HKQ.out w2 HB2.out).cell 3
  have x8:=Blk.c8 (HKQ.out w2 HB2.out);have t0:=Blk.c0 (HRB.out w2 (Below.refl _ _));have t1:=Blk.c1 (HRB.out w2 (Below.refl _ _));have t2:=Blk.c2 (HRB.out w2 (Below.refl _ _));have t3:=Blk.c3 (HRB.out w2 (Below.refl _ _));clear kk1;obtain⟨l,hv,hl⟩:=jbq HFX.out.1;have HV:=Ja hv;have HL:=Ja hl;clear hl hv;go_wp2_with fail;refine Xs fun K hK=> ?_;have HKK:=Ja hK;clear hK
  go_region_law (first
   |(refine J9 rfl 149 (enters_of Tryz.func149 (by kernel_rfl) rfl) rfl _ (by simp[Act.eval,Act.put]) ((jet (x:=m.Rz[i].Fz[k]) (l:=l) _ (HXR.out _ (by first|exact(Below.refl _ _).drew|exact Below.refl _ _|exact((Below.refl _ _).drew).alloc nle _|exact((Below.refl _ _).alloc nle _).drew|exact(Below.refl _ _).alloc nle _)) HFX.out.2.1 HV.out).mono ?_);rintro e w3 ⟨AF,nF,cF,fF,rfl,hsF,_,hb3⟩;refine⟨_,rfl, ?_⟩;have HS4:=Ja hsF;have HD3:=Ja (Below.past hb3);have y8:=Je x8 HD3.out;clear hb3 hsF)
   |(refine J9 rfl 148 (enters_of Tryz.func148 (by kernel_rfl) rfl) rfl _ (by simp[Act.eval,Act.put]) ((jbx (l:=l) (es:=r.Ez) _ HS4.out (HEx.out _ (Below.t (Below.t HB0.out HB2.out) HD3.out)) (jbw (HFX.out.2.2.2 l HL.out)) HQF.out.Ez).mono ?_);rintro e w5 ⟨v2,rfl,ho2,hb5⟩;refine⟨_,rfl, ?_⟩;obtain⟨A2',c2',f2',hv2,hs2,_,_,_⟩:=Yp ho2;subst hv2;have HS5:=Ja hs2;have HB5:=Ja (Below.t (Below.t HB2.out HD3.out) hb5);clear ho2 hs2 hb5)
   |fail)
  all_goals
   refine HKK.out _ _ ?_;clear HKK K;clear x8 y8 t0 t1 t2 t3 x3;cases ht:Yu l r.Ez with
   |none=>
    simp only[Option.isSome];have HE:=Ja (show newest m m.Rz[i].Fz[k] r=([],7) by unfold newest;rw[if_pos K1.out,HV.out];simp only[ht]);go_wp2_with fail
    go_ret2
    rw[HE.out];exact⟨_,0,0,[],rfl,SlR.none_of 0 (by simp[maxLen]),(Below.t HB0.out HB5.out).alloc (Below.t HB0.out HB5.out).size _⟩
   |some y=>
    have hs2:=HS5.out;rw[ht] at hs2;have HS6:=Ja (show SlR Rp.file w5 A2' y.length c2' y f2' from hs2);simp only[Option.isSome,Option.getD_some];clear hs2 HS5;have HE:=Ja (show newest m m.Rz[i].Fz[k] r=(y,1) by unfold newest;rw[if_pos K1.out,HV.out];simp only[ht]);go_wp2_with fail
    go_ret2
    rw[HE.out];exact⟨_,_,_,_,rfl,HS6.out,Below.t HB0.out HB5.out⟩
 have K1:=Ja kk1;by_cases kk9:r.kind=9
 ·have K9:=Ja kk9;have x3:w2.cell? ⟨w.heap.size+1,3,none⟩=some (.int .i64 9):=by rw[←K9.out];exact(HKQ.out w2 HB2.out).cell 3
  have t0:=Blk.c0 (HRB.out w2 (Below.refl _ _));have t1:=Blk.c1 (HRB.out w2 (Below.refl _ _));have t2:=Blk.c2 (HRB.out w2 (Below.refl _ _));have t3:=Blk.c3 (HRB.out w2 (Below.refl _ _));clear kk1 kk9;cases hg:m.Rz[i].Fz[k].guard
  ·rw[hg] at t1;have HG:=Ja hg;clear hg;have hbk:=HQF.out.ints.2.2.2.1;obtain⟨j,hj⟩: ∃j:Nat,r.back=(j:Int):=⟨r.back.toNat,by omega⟩;have HJ:=Ja hj;have x7:w2.cell? ⟨w.heap.size+1,7,none⟩=some (.int .i64 (j:Int)):=by rw[←hj];exact(HKQ.out w2 HB2.out).cell 7
   clear hbk hj;have hv3:=HFX.out.2.1;by_cases hjl:j<m.Rz[i].Fz[k].Vz.length
   ·obtain⟨p,hp⟩: ∃p:Nat,(p:Int)=m.Rz[i].Fz[k].Vz.length - 1 - j:=⟨m.Rz[i].Fz[k].Vz.length - 1 - j,by omega⟩;have hpl:p<m.Rz[i].Fz[k].Vz.length:=by omega
    have HV:=Ja (jaz (b:=(j:Int)) (by omega) hp hpl);obtain⟨bv,ov,Av,nv,cv,fv,rfl,_,_,u0,hsv,_⟩:=Vv (HS3.out w2 HD2.out) hpl;have HSV:=Ja hsv;have j1: ¬(m.Rz[i].Fz[k].Vz.length:Int)≤(j:Int):=by omega
    have hw1:IntKind.i64.wrap ((m.Rz[i].Fz[k].Vz.length:Int) - 1)=(m.Rz[i].Fz[k].Vz.length:Int) - 1:=IntWalk.i64_in _ (by omega);have hw2:IntKind.i64.wrap ((m.Rz[i].Fz[k].Vz.length:Int) - 1 - (j:Int))=(p:Int):=by rw[IntWalk.i64_in _ (by omega)];omega
    have p0:(0:Int)≤(p:Int):=by omega
    have p1:(p:Int)<(m.Rz[i].Fz[k].Vz.length:Int):=by omega
    have HE:=Ja (show newest m m.Rz[i].Fz[k] r=(m.Rz[i].Fz[k].Vz[p],1) by unfold newest;rw[if_neg K1.out,if_pos K9.out,HG.out,HJ.out,HV.out];simp only[Bool.false_eq_true,if_false]);clear hp hsv hjl;go_wp2_with fail
    go_ret2
    rw[HE.out];exact⟨_,_,_,_,rfl,HSV.out,Below.t HB0.out HB2.out⟩
   ·have j1:(m.Rz[i].Fz[k].Vz.length:Int)≤(j:Int):=by omega
    have HV:=Ja (ja6 (vs:=m.Rz[i].Fz[k].Vz) j1);clear hjl hv3;have HE:=Ja (show newest m m.Rz[i].Fz[k] r=([],7) by unfold newest;rw[if_neg K1.out,if_pos K9.out,HG.out,HJ.out,HV.out];rfl);go_wp2_with fail
    go_ret2
    rw[HE.out];exact⟨_,0,0,[],rfl,SlR.none_of 0 (by simp[maxLen]),(Below.t HB0.out HB2.out).alloc (Below.t HB0.out HB2.out).size _⟩
  ·rw[hg] at t1;have HG:=Ja hg;clear hg;have HE:=Ja (show newest m m.Rz[i].Fz[k] r=([],8) by unfold newest;rw[if_neg K1.out,if_pos K9.out,HG.out];rfl);go_wp2_with fail
   go_ret2
   rw[HE.out];exact⟨_,0,0,[],rfl,SlR.none_of 0 (by simp[maxLen]),(Below.t HB0.out HB2.out).alloc (Below.t HB0.out HB2.out).size _⟩
 have K9:=Ja kk9;have hfr0:=HQF.out.ints.2.2.2.2;have hfl:=jpz HMAY.out K1.out K9.out;obtain⟨j,hfj⟩: ∃j:Nat,r.frm=(j:Int):=⟨r.frm.toNat,by omega⟩;have HFJ:=Ja hfj;have hj:j<m.Rz.length:=by omega
 have j0:(0:Int)≤(j:Int):=by omega
 have j1:(j:Int)<(m.Rz.length:Int):=by omega
 have x13:w2.cell? ⟨w.heap.size+1,13,none⟩=some (.int .i64 (j:Int)):=by rw[←hfj];exact(HKQ.out w2 HB2.out).cell 13
 have i2:=Blk.c2 (HKX.out w2 HB2.out);have x3:=Blk.c3 (HKQ.out w2 HB2.out);have x14:=Blk.c14 (HKQ.out w2 HB2.out);obtain⟨bp',op',C0,c0',e0',h0,C1',c1',e1',h1,hbo,hbp,hmp,q0,q1,q2,hs0,hs1,hsub⟩:=J7 (HRx.out w2 (Below.t HB0.out HB2.out)) hj;cases hbo;obtain rfl:=hs1.1;have HT1:=Ja (fun(W:World) (hb:Below w2.heap.size w2 W)=>hs1.step hb)
 have hrp:Rp.repo.R w2 [.int .i64 m.Rz[j].Az,.slice C0 c0' e0',.slice C1' m.Rz[j].Fz.length e1'] m.Rz[j] (h0++h1):=⟨C0,c0',e0',h0,C1',_,e1',h1,rfl,rfl,hs0,hs1⟩;have HPy:=Ja (fun(W:World) (hb:Below w2.heap.size w2 W)=>Rp.repo.below hrp hb nle);have HQ2':=Ja q2
 have HFILES:=Ja (show ∀o,m.Rz[j].Fz.findIdx? (Xx r.other)=o→Xn m r.frm r.other 0=(match o with|none=>none|some k2=>version (m.Rz[j].Fz.getD k2 Y8).Vz 0) from fun o ho=>by
  cases o with
  |none=>exact je0 HFJ.out hj ho
  |some k2=>
   obtain⟨hk2,_⟩:=List.findIdx?_eq_some_iff_getElem.1 ho;rw[jez HFJ.out hj hk2 ho];simp only[J4 hk2])
 have D1:=Ja (fun W (hh:Rp.repo.R W [.int .i64 m.Rz[j].Az,.slice C0 c0' e0',.slice C1' m.Rz[j].Fz.length e1'] m.Rz[j] (h0++h1))=>jbd r.other W hh);clear hs0 hs1 hrp hbp hmp hsub hfr0 hfl hfj;go_upto_region 15 with fail
 go_wp2_with fail;have n0:=BelowW.nonempty w2;have e0:=BelowW.ex (w:=w2);have g_i2:=fun n:BelowW w2=>n.cell i2;have g_x13:=fun n:BelowW w2=>n.cell x13;have g_x14:=fun n:BelowW w2=>n.cell x14;have g_q0:=fun n:BelowW w2=>n.cell q0;have g_q1:=fun n:BelowW w2=>n.cell q1;have g_q2:=fun n:BelowW w2=>n.cell q2;clear i2 x13 x14 q0 q1 q2;refine Jf (by kernel_rfl) (by kernel_rfl) ?_
 repeat(go_big_quiet_step(first|(go_at_call 101;exact BelowW.calls _ (D1.out _ (HPy.out _ (Subtype.property _))))))
 refine wpQuiet_nil ?_;rintro w3 ⟨m4,hw3⟩;have hb3:=m4.property;rw[←hw3] at hb3;clear hw3 m4 e0 g_i2 g_x13 g_x14 g_q0 g_q1 g_q2;have HD3:=Ja hb3;have HB3:=Ja (Below.t HB2.out hb3);clear hb3 D1 x3 kk1 kk9;rcases Zu (Xx r.other) m.Rz[j].Fz with ⟨hn,he⟩|⟨k2,hn,hk2,he⟩
 ·rw[he];clear he;have HF:=Ja (HFILES.out _ hn);clear hn;have HE:=Ja (show newest m m.Rz[i].Fz[k] r=([],7) by unfold newest;rw[if_neg K1.out,if_neg K9.out,HF.out]);go_wp2_with fail
  go_ret2
  rw[HE.out];exact⟨_,0,0,[],rfl,SlR.none_of 0 (by simp[maxLen]),(Below.t HB0.out HB3.out).alloc (Below.t HB0.out HB3.out).size _⟩
 ·rw[he];clear he;have HF:=Ja (HFILES.out _ hn);have HFY:=Ja ((RepoFit.of ((Jo.1 HOK.out).2.2 _ (List.getElem_mem hj))).vers _ (List.getElem_mem hk2));obtain⟨l,hv,hl⟩:=jbq HFY.out.1;have HV:=Ja hv;have m0':(0:Int)≤(k2:Int):=by omega
  have m1':(k2:Int)<(m.Rz[j].Fz.length:Int):=by omega
  have m2': ¬(k2:Int)<0:=by omega
  have x13:w3.cell? ⟨w.heap.size+1,13,none⟩=some (.int .i64 (j:Int)):=by rw[←HFJ.out];exact(HKQ.out w3 HB3.out).cell 13
  have i2:=Blk.c2 (HKX.out w3 HB3.out);have q2:=Je HQ2'.out HD3.out;obtain⟨bS,oS,B4,b4,d4,g4,rfl,hbS,hmS,t0,t1,t2,t3,hs4,_⟩:=J3 (HT1.out w3 HD3.out) hk2;obtain rfl:=hs4.1;have HS4:=Ja hs4;have HE:=Ja (show newest m m.Rz[i].Fz[k] r=(l,1) by unfold newest;rw[if_neg K1.out,if_neg K9.out,HF.out];simp only[J4 hk2,HV.out]);clear hn hv hl hbS hmS hs4;go_wp2_with fail
  refine(jet (x:=m.Rz[j].Fz[k2]) (l:=l) _ ⟨B4,_,d4,g4,rfl,rfl,HS4.out⟩ HFY.out.2.1 HV.out).mono ?_;rintro e w4 ⟨AF,nF,cF,fF,rfl,hsF,_,hb4⟩;have HS5:=Ja hsF;have HB4:=Ja (Below.t HB3.out hb4);clear hsF hb4 t0 t1 t2 t3 q2 i2 x13;go_wp2_with fail
  go_ret2
  rw[HE.out];exact⟨_,_,_,_,rfl,HS5.out,Below.t HB0.out HB4.out⟩
def jqu (w:World) (m:Jl) (p:Xq) (r:Req) (e:Ending) (w':World):Prop:=
 ∃A n c f,e= .returned (.tuple #[.slice A n c,.int .i64 (write m p r).2])∧((write m p r).2=1→∀k,Y7 p.Fz r.ref=some k→SlR Rp.file w' A n c (newest m (p.Fz.getD k Y8) r).1 f)∧Below w.heap.size w w'
theorem jc3 {w w':World} {m:Jl} {p:Xq} {r:Req} {A:Option Addr} {n c:Nat} {f:List Nat} {k:Int} (h:(write m p r).2=k) (hs:k=1→∀k',Y7 p.Fz r.ref=some k'→SlR Rp.file w' A n c (newest m (p.Fz.getD k' Y8) r).1 f) (hb:Below w.heap.size w w'):
  jqu w m p r (.returned (.tuple #[.slice A n c,.int .i64 k])) w':=⟨A,n,c,f,by rw[h],fun h1=>hs (h▸h1),hb⟩
theorem jm5 {i:Nat} {m:Jl} {r:Req} {hs cs:List Value} {f fr:List Nat} (w:World) (hm:Rp.house.R w hs m f) (hr:Rp.req.R w cs r fr) (hri:r.repo=(i:Int)) (hi:i<m.Rz.length) (hP: ∀p∈m.Rz,RepoFit p) (hQ:ReqFit r) (hok:Ys m=true) (hkn:knows m.keys r.user r.key=true) (hw:Vs r=true):
  Calls Tryz.prog 50 #[.agg hs.toArray,.agg cs.toArray] w (jqu w m m.Rz[i] r):=by
 have HOK:=Ja hok;have HW:=Ja hw;have HRX:=Ja hri;have HPX:=Ja hP;obtain⟨u,hu1,hu2⟩:=jb6 hkn;have hul:u<m.used.length:=by have:=(J8.1 (Jo.1 hok).1).2.1;omega
 have HUS:=Ja (show 0≤m.used[u]∧m.used[u]≤200 from(J8.1 (Jo.1 hok).1).2.2.2 _ (List.getElem_mem hul));have HU1:=Ja hu1;have hr3:m.Rz.length≤3:=by have:=(Jo.1 hok).2.1;omega
 clear hok hw hkn hu1 hu2;obtain⟨E0,m0,d0,e0,rfl,_,hq⟩:=hr;obtain rfl:=hq.1;have hm0:=hm;obtain⟨A0,n0,c0,f0,A1,n1,c1,f1,A2,n2,c2,f2,rfl,hff,h0,h1,h2⟩:=hm;obtain rfl:=h0.1;obtain rfl:=h1.1;obtain rfl:=h2.1;have hmx:=h2.max;have hmq:=hq.max
 have HB0:=(((Below.refl w.heap.size w).alloc nle (.cells #[.slice A0 m.keys.length c0,.slice A1 m.used.length c1,.slice A2 m.Rz.length c2] 26)).alloc (by simp) (.cells (RA r (.slice E0 r.Ez.length d0)) 31));have kx:=((Blk.new w 26 #[.slice A0 m.keys.length c0,.slice A1 m.used.length c1,.slice A2 m.Rz.length c2]).alloc (.cells (RA r (.slice E0 r.Ez.length d0)) 31))
 have kq:=(Blk.new' (w:=(w.alloc (.cells #[.slice A0 m.keys.length c0,.slice A1 m.used.length c1,.slice A2 m.Rz.length c2] 26))) (H:=w.heap.size+1) (by simp) 31 (RA r (.slice E0 r.Ez.length d0)));have HKx:=Ja (fun(W:World) (hb:Below w.heap.size w W)=>h0.step hb);have HUx:=Ja (fun(W:World) (hb:Below w.heap.size w W)=>h1.step hb)
 have HRx:=Ja (fun(W:World) (hb:Below w.heap.size w W)=>h2.step hb);have HEx:=Ja (fun(W:World) (hb:Below w.heap.size w W)=>hq.step hb);have HHx:=Ja (fun(W:World) (hb:Below w.heap.size w W)=>Rp.house.below hm0 hb nle);have HRI:=Ja hri;have HPF:=Ja hP;have HQF:=Ja hQ;have HFI:=Ja (hP _ (List.getElem_mem hi));have i0:(0:Int)≤(i:Int):=by omega
 have i1:(i:Int)<(m.Rz.length:Int):=by omega
 clear hri hP hQ;clear hm0 hff h0 h1 h2 hq;go_enter Tryz.func50,Tryz.ntmps50;go_upto_region 1 with fail
 generalize hW0:((w.alloc (.cells #[.slice A0 m.keys.length c0,.slice A1 m.used.length c1,.slice A2 m.Rz.length c2] 26)).alloc (.cells (RA r (.slice E0 r.Ez.length d0)) 31))=w0 at HB0 kx kq ⊢;clear hW0;have HKX:=Ja (fun(W:World) (hb:Below w0.heap.size w0 W)=>kx.step hb);have HKQ:=Ja (fun(W:World) (hb:Below w0.heap.size w0 W)=>kq.step hb);have HB0:=Ja HB0;clear kx kq
 have i0:=Blk.c0 (HKX.out w0 (Below.refl _ _));have i1:=Blk.c1 (HKX.out w0 (Below.refl _ _));have i2:=Blk.c2 (HKX.out w0 (Below.refl _ _));go_wp2_with((refine wpList_load_row rfl 31 (.tmp 3) rfl _ rfl _ _ _ _ (HKQ.out w0 (Below.refl _ _)).out Tryz.underlying31 rfl Vi ?_))
 refine(jos (m:=m) (r:=r) (i:=i) _ (HHx.out _ HB0.out) ⟨E0,_,d0,e0,rfl,rfl,HEx.out _ HB0.out⟩ HRI.out hi HPF.out HQF.out hr3 HW.out).mono ?_;rintro e w1 ⟨rfl,hb1⟩;have HB1:=Ja hb1;clear hb1 i2;cases hmay:Yi m m.Rz[i] r
 ·have HMAY:=Ja hmay;clear hmay;have HE:=Ja (show(write m m.Rz[i] r).2=4 by unfold write;rw[HMAY.out];rfl);go_wp2_with fail
  go_ret2
  exact jc3 (f:=[]) HE.out (fun h=>by omega) ((Below.t HB0.out HB1.out).alloc (Below.t HB0.out HB1.out).size _)
 have HMAY:=Ja hmay;clear hmay;have i2:=Blk.c2 (HKX.out w1 HB1.out);have x2:w1.cell? ⟨w.heap.size+1,2,none⟩=some (.int .i64 (i:Int)):=by rw[←HRI.out];exact(HKQ.out w1 HB1.out).cell 2
 have x4:=Blk.c4 (HKQ.out w1 HB1.out);obtain⟨bp,op,B0,b0,d0',g0,B1,b1,d1',g1,rfl,hbp,hmp,q0,q1,q2,hs0,hs1,hsub⟩:=J7 (HRx.out w1 (Below.t HB0.out HB1.out)) hi;obtain rfl:=hs1.1;have HS1:=Ja (fun(W:World) (hb:Below w1.heap.size w1 W)=>hs1.step hb)
 have hrp:Rp.repo.R w1 [.int .i64 m.Rz[i].Az,.slice B0 b0 d0',.slice B1 m.Rz[i].Fz.length d1'] m.Rz[i] (g0++g1):=⟨B0,b0,d0',g0,B1,_,d1',g1,rfl,rfl,hs0,hs1⟩;have HPx:=Ja (fun(W:World) (hb:Below w1.heap.size w1 W)=>Rp.repo.below hrp hb nle);have HQ2:=Ja q2
 have D1:=Ja (fun W (hh:Rp.repo.R W [.int .i64 m.Rz[i].Az,.slice B0 b0 d0',.slice B1 m.Rz[i].Fz.length d1'] m.Rz[i] (g0++g1))=>jbd r.ref W hh);clear hs0 hs1 hrp hbp hmp hsub;go_upto_region 3 with fail
 go_wp2_with fail;have n0:=BelowW.nonempty w1;have e0:=BelowW.ex (w:=w1);have g_i2:=fun n:BelowW w1=>n.cell i2;have g_x2:=fun n:BelowW w1=>n.cell x2;have g_x4:=fun n:BelowW w1=>n.cell x4;have g_q0:=fun n:BelowW w1=>n.cell q0;have g_q1:=fun n:BelowW w1=>n.cell q1;have g_q2:=fun n:BelowW w1=>n.cell q2;clear i2 x2 x4 q0 q1 q2;refine Jf (by kernel_rfl) (by kernel_rfl) ?_
 repeat(go_big_quiet_step(first|(go_at_call 101;exact BelowW.calls _ (D1.out _ (HPx.out _ (Subtype.property _))))))
 refine wpQuiet_nil ?_;rintro w2 ⟨m4,hw2⟩;have hb2:=m4.property;rw[←hw2] at hb2;clear hw2 m4 e0 g_i2 g_x2 g_x4 g_q0 g_q1 g_q2;have HD2:=Ja hb2;have HB2:=Ja (Below.t HB1.out hb2);clear hb2 D1;rcases Zu (Xx r.ref) m.Rz[i].Fz with ⟨hn,he⟩|⟨k,hn,hk,he⟩
 ·rw[he];clear he;have HNF:=Ja (show Y7 m.Rz[i].Fz r.ref=none from hn);clear hn;have HE:=Ja (show(write m m.Rz[i] r).2=5 by unfold write;rw[HMAY.out,HNF.out];rfl);go_wp2_with fail
  go_ret2
  exact jc3 (f:=[]) HE.out (fun h=>by omega) ((Below.t HB0.out HB2.out).alloc (Below.t HB0.out HB2.out).size _)
 rw[he];clear he;have HNF:=Ja (show Y7 m.Rz[i].Fz r.ref=some k from hn);have HFX:=Ja (HFI.out.vers _ (List.getElem_mem hk));have k0:(0:Int)≤(k:Int):=by omega
 have k1:(k:Int)<(m.Rz[i].Fz.length:Int):=by omega
 have k2: ¬(k:Int)<0:=by omega
 clear hn;have i2:=Blk.c2 (HKX.out w2 HB2.out);have x2:w2.cell? ⟨w.heap.size+1,2,none⟩=some (.int .i64 (i:Int)):=by rw[←HRI.out];exact(HKQ.out w2 HB2.out).cell 2
 have q2:=Je HQ2.out HD2.out;obtain⟨bR,oR,B3,b3,d3,g3,rfl,hbR,hmR,t0,t1,t2,t3,hs3,_⟩:=J3 (HS1.out w2 HD2.out) hk;obtain rfl:=hs3.1;clear hbR hmR hs3;go_upto_region 7 with fail
 obtain⟨w3,hw3⟩: ∃w3,w3=w2.alloc (.cells #[.string m.Rz[i].Fz[k].name,.bool m.Rz[i].Fz[k].guard,.int .i64 m.Rz[i].Fz[k].count,.slice B3 m.Rz[i].Fz[k].Vz.length d3] 41):=⟨_,rfl⟩;rw[←hw3];have HD3:=Ja (show Below w2.heap.size w2 w3 from hw3▸(Below.refl _ _).alloc nle _);have HB3:=Ja (Below.t HB2.out HD3.out)
 have kr:=(show Blk w3 w2.heap.size 41 #[.string m.Rz[i].Fz[k].name,.bool m.Rz[i].Fz[k].guard,.int .i64 m.Rz[i].Fz[k].count,.slice B3 m.Rz[i].Fz[k].Vz.length d3] from hw3▸Blk.new w2 _ _);have HRB:=Ja (fun(W:World) (hb:Below w3.heap.size w3 W)=>kr.step hb);clear hw3 kr t0 t1 t2 t3 q2 i2 x2;have t2:=Blk.c2 (HRB.out w3 (Below.refl _ _))
 by_cases hce:m.Rz[i].Fz[k].count=r.old
 case neg=>
  have x6:=Blk.c6 (HKQ.out w3 HB3.out);have HE:=Ja (show(write m m.Rz[i] r).2=6 by unfold write;rw[HMAY.out,HNF.out];simp only[if_true,J4 hk];rw[if_pos hce]);go_wp2_with fail
  go_ret2
  exact jc3 (f:=[]) HE.out (fun h=>by omega) ((Below.t HB0.out HB3.out).alloc (Below.t HB0.out HB3.out).size _)
 have HCE:=Ja hce;have x6:w3.cell? ⟨w.heap.size+1,6,none⟩=some (.int .i64 m.Rz[i].Fz[k].count):=by rw[hce];exact(HKQ.out w3 HB3.out).cell 6
 clear hce;by_cases h14:m.Rz[i].Fz[k].count=14
 case pos=>
  have H14:=Ja h14;rw[h14] at t2 x6;clear h14;have HE:=Ja (show(write m m.Rz[i] r).2=9 by unfold write;rw[HMAY.out,HNF.out];simp only[if_true,J4 hk];rw[if_neg (fun h=>h HCE.out),if_pos H14.out]);go_wp2_with fail
  go_ret2
  exact jc3 (f:=[]) HE.out (fun h=>by omega) ((Below.t HB0.out HB3.out).alloc (Below.t HB0.out HB3.out).size _)
 have H14:=Ja h14;have i0:=Blk.c0 (HKX.out w3 HB3.out);have i1:=Blk.c1 (HKX.out w3 HB3.out);have i2:=Blk.c2 (HKX.out w3 HB3.out);go_wp2_with((refine wpList_load_row rfl 31 (.tmp 3) rfl _ rfl _ _ _ _ (HKQ.out w3 HB3.out).out Tryz.underlying31 rfl Vi ?_))
 refine(jm6 (m:=m) (r:=r) (i:=i) (k:=k) _ (HHx.out _ (Below.t HB0.out HB3.out)) ⟨E0,_,d0,e0,rfl,rfl,HEx.out _ (Below.t HB0.out HB3.out)⟩ HRI.out hi HPF.out HQF.out HOK.out hk HNF.out HMAY.out).mono ?_;rintro e w4 ⟨A5,n5,c5,f5,rfl,hs5,hb4⟩;have HS5:=Ja hs5;have HB4:=Ja (Below.t HB3.out hb4);clear hs5 hb4 t2 x6 h14 i2;by_cases hnc:(newest m m.Rz[i].Fz[k] r).2=1
 case neg=>
  have HE:=Ja (show(write m m.Rz[i] r).2=(newest m m.Rz[i].Fz[k] r).2 by unfold write;rw[HMAY.out,HNF.out];simp only[if_true,J4 hk];rw[if_neg (fun h=>h HCE.out),if_neg H14.out,if_pos hnc]);have hnb:((newest m m.Rz[i].Fz[k] r).2==1)=false:=by simpa using hnc
  have hnd:decide ((newest m m.Rz[i].Fz[k] r).2=1)=false:=decide_eq_false hnc;have HNC:=Ja hnc;clear hnc;go_upto_region 12 with fail
  go_quiet(fail);have HB5:=Ja (Below.drewN' HB4.out nq);clear hnb hnd;go_wp2_with fail
  go_ret2
  exact jc3 (f:=[]) HE.out (fun h=>absurd h HNC.out) (Below.t HB0.out HB5.out)
 have HNC:=Ja hnc;rw[hnc];clear hnc;have hus:=HUS.out;have hT:=ja9 HQF.out.Ez HQF.out.nedits;have hsum:IntKind.i64.wrap (m.used[u]+((Yg r.Ez:Nat):Int))=m.used[u]+((Yg r.Ez:Nat):Int):=IntWalk.i64_in _ (by omega);have hub:=HQF.out.ints.1;have hwu:IntKind.i64.wrap ((u:Int)+1 - 1)=(u:Int):=by rw[IntWalk.i64_in _ (by have:=HU1.out;omega)];omega
 have hwu2:IntKind.i64.wrap (u:Int)=(u:Int):=IntWalk.i64_in _ (by have:=HU1.out;omega);have u0:(0:Int)≤(u:Int):=by omega
 have u1:(u:Int)<(m.used.length:Int):=by omega
 have i1:=Blk.c1 (HKX.out w4 HB4.out);have x8:=Blk.c8 (HKQ.out w4 HB4.out);have x0:w4.cell? ⟨w.heap.size+1,0,none⟩=some (.int .i64 ((u:Int)+1)):=by rw[←HU1.out];exact(HKQ.out w4 HB4.out).cell 0
 obtain⟨bU,oU,rfl,_,_,uc⟩:=Xg (HUx.out w4 (Below.t HB0.out HB4.out)) hul;have hse:=HEx.out w4 (Below.t HB0.out HB4.out);have D2:=Ja (fun W (h:SlR Rp.edit W E0 r.Ez.length d0 r.Ez e0)=>jby W h HQF.out.Ez);go_upto_region 12 with fail
 by_cases hov:m.used[u]+((Yg r.Ez:Nat):Int) > 200
 case pos=>
  have HE:=Ja (show(write m m.Rz[i] r).2=10 by
   unfold write;rw[HMAY.out,HNF.out];simp only[if_true,J4 hk];rw[if_neg (fun h=>h HCE.out),if_neg H14.out,if_neg (fun h=>h HNC.out),if_pos];rw[HU1.out,show((u:Int)+1 - 1).toNat=u by omega,J4 hul];exact hov)
  have hov':(200:Int)<m.used[u]+((Yg r.Ez:Nat):Int):=hov;clear hus hT hov hub;go_wp2_with fail;have n0:=BelowW.nonempty w4;have e0:=BelowW.ex (w:=w4);have g_i1:=fun n:BelowW w4=>n.cell i1;have g_x0:=fun n:BelowW w4=>n.cell x0;have g_x8:=fun n:BelowW w4=>n.cell x8;have g_uc:=fun n:BelowW w4=>n.cell uc;clear i1 x0 x8 uc;refine Jf (by kernel_rfl) (by kernel_rfl) ?_
  repeat(go_big_quiet_step(first|(go_at_call 108;exact BelowW.calls _ (D2.out _ (BelowW.sl _ hse)))))
  refine wpQuiet_nil ?_;rintro w5 ⟨m4,hw5⟩;have hb5:=m4.property;rw[←hw5] at hb5;clear hw5 m4 e0 g_i1 g_x0 g_x8 g_uc;have HB5:=Ja (Below.t HB4.out hb5);clear hb5;go_wp2_with fail
  go_ret2
  exact jc3 (f:=[]) HE.out (fun h=>by omega) ((Below.t HB0.out HB5.out).alloc (Below.t HB0.out HB5.out).size _)
 have HE:=Ja (show(write m m.Rz[i] r).2=1 by
  unfold write;rw[HMAY.out,HNF.out];simp only[if_true,J4 hk];rw[if_neg (fun h=>h HCE.out),if_neg H14.out,if_neg (fun h=>h HNC.out),if_neg];rw[HU1.out,show((u:Int)+1 - 1).toNat=u by omega,J4 hul];exact hov)
 have hov': ¬(200:Int)<m.used[u]+((Yg r.Ez:Nat):Int):=hov;clear hus hT hov hub;go_wp2_with fail;have n0:=BelowW.nonempty w4;have e0:=BelowW.ex (w:=w4);have g_i1:=fun n:BelowW w4=>n.cell i1;have g_x0:=fun n:BelowW w4=>n.cell x0;have g_x8:=fun n:BelowW w4=>n.cell x8;have g_uc:=fun n:BelowW w4=>n.cell uc;clear i1 x0 x8 uc;refine Jf (by kernel_rfl) (by kernel_rfl) ?_
 repeat(go_big_quiet_step(first|(go_at_call 108;exact BelowW.calls _ (D2.out _ (BelowW.sl _ hse)))))
 refine wpQuiet_nil ?_;rintro w5 ⟨m4,hw5⟩;have hb5:=m4.property;rw[←hw5] at hb5;clear hw5 m4 e0 g_i1 g_x0 g_x8 g_uc;have HB5:=Ja (Below.t HB4.out hb5);have HS6:=Ja (HS5.out.step hb5);clear hb5;go_wp2_with fail
 go_ret2
 exact jc3 (f:=f5) HE.out (fun _ k' hk'=>by
  rw[HNF.out] at hk';cases hk';rw[J4 hk];exact HS6.out) (Below.t HB0.out HB5.out)
theorem jjf {b o:Nat} {p:Xq} {r:Req} {cr cs:List Value} {f fr:List Nat} (w:World) (hc:Cells w b o cr) (hp:Rp.repo.R w cr p f) (hr:Rp.req.R w cs r fr) (hP:RepoFit p) (hQ:ReqFit r):
  Calls Tryz.prog 95 #[.pointer (some ⟨b,o,none⟩),.agg cs.toArray] w (FreshR Rp.ans w (look p r)):=by
 obtain⟨E0,m0,d0,e0,rfl,_,hq⟩:=hr;obtain rfl:=hq.1;have hp0:=hp;obtain⟨A0,n0,c0,f0,A1,n1,c1,f1,rfl,hff,h0,h1⟩:=hp;obtain rfl:=h0.1;obtain rfl:=h1.1;have hmr:=h1.max;have HB0:=(((Below.refl w.heap.size w).alloc nle (.cells (RA r (.slice E0 r.Ez.length d0)) 31)).alloc (by simp) (.cells N0 45));have kq:=(Blk.new w 31 (RA r (.slice E0 r.Ez.length d0))).alloc (.cells N0 45)
 have ka:=Blk.new (w.alloc (.cells (RA r (.slice E0 r.Ez.length d0)) 31)) 45 N0;rw[show(w.alloc (.cells (RA r (.slice E0 r.Ez.length d0)) 31)).heap.size=w.heap.size+1 by simp] at ka;have hl1w:=h1.lt;have hblw:=World.block_lt_of_cell? w _ hc.at0;have c0':=Je hc.at0 HB0;have c1':=Je hc.tail.at0 HB0;have c2':=Je hc.tail.tail.at0 HB0;replace hp0:=Rp.repo.below hp0 HB0 nle
 replace h0:=h0.step HB0;replace h1:=h1.step HB0;have HPF:=Ja hP;have HQF:=Ja hQ;clear hc hP hQ;go_enter Tryz.func95,Tryz.ntmps95;go_upto_region 1 with fail
 generalize hW0:(w.alloc (.cells (RA r (.slice E0 r.Ez.length d0)) 31)).alloc (.cells N0 45)=w0 at HB0 kq ka c0' c1' c2' hp0 h0 h1 ⊢;clear hW0;have HKQ:=Ja (fun(W:World) (hb:Below w0.heap.size w0 W)=>kq.step hb);have HKA:=Ja (fun(W:World) (hb:Below w0.heap.size w0 W)=>ka.step hb)
 have HC:=Ja (fun(W:World) (hb:Below w0.heap.size w0 W)=>And.intro (Je c0' hb) (And.intro (Je c1' hb) (Je c2' hb)));have HPP:=Ja (fun(W:World) (hb:Below w0.heap.size w0 W)=>Rp.repo.below hp0 hb nle);have H0:=Ja (fun(W:World) (hb:Below w0.heap.size w0 W)=>h0.step hb);have H1:=Ja (fun(W:World) (hb:Below w0.heap.size w0 W)=>h1.step hb);have HK0:=Ja ka.lt
 have HL1:=Ja hl1w;have HBW:=Ja hblw;have HB0:=Ja HB0;have HBR:=Ja (Below.refl w0.heap.size w0);clear kq ka c0' c1' c2' hp0 h0 h1 hff hq hl1w hblw;obtain⟨a0,a1,a2⟩:=HC.out w0 HBR.out;have x0:=Blk.c0 (HKQ.out w0 HBR.out);have x4:=Blk.c4 (HKQ.out w0 HBR.out);go_upto_region 1 with fail
 go_cut [17] (fun v wx=>v= .bool (!Wt p.Uz r.user r.ref)∧Below w0.heap.size w0 wx)
 case first=>
  go_region_law (first
   |(refine J9 rfl 96 (enters_of Tryz.func96 (by kernel_rfl) rfl) rfl _ (by simp[Act.eval,Act.put]) ((jb8 (l:=p.Uz) r.user r.ref _ (H0.out _ (by first|exact(Below.refl _ _).drew|exact Below.refl _ _|exact((Below.refl _ _).drew).alloc nle _|exact((Below.refl _ _).alloc nle _).drew|exact(Below.refl _ _).alloc nle _)) HPF.out.Uz).mono ?_);rintro e w1 ⟨rfl,hb1⟩;refine⟨_,rfl, ?_⟩)
   |fail)
  all_goals
   go_wp2_with fail;go_meet
   case rel=>exact⟨rfl,Below.past hb1⟩
 case rest=>
  obtain⟨wz,hwz⟩: ∃wz,wz=wc:=⟨_,rfl⟩;subst hwz;obtain⟨rfl,hb1⟩:=hcut;have HB1:=Ja hb1;clear hb1 a0 a1 a2 x0 x4;cases hd:Wt p.Uz r.user r.ref
  ·have HE:=Ja (show look p r=code 4 by unfold look;rw[hd];rfl);clear hd;go_wp2_with fail;refine(jak 4 _).mono ?_;rintro e wc ⟨rfl,hbc⟩;have HBC:=Ja (Below.t HB1.out hbc);clear hbc;have ka:=HKA.out wc HBC.out;have y0:=Jb ka 0;have d0:=Blk.c0 ka;have y1:=Jb ka 1;have d1:=Blk.c1 ka;have y2:=Jb ka 2;have d2:=Blk.c2 ka;have y3:=Jb ka 3;have d3:=Blk.c3 ka
   have RR:=Ja (Xo ka (.int .i64 4) (.slice none 0 0) (.slice none 0 0) (.int .i64 0));clear ka;go_wp2_with fail;obtain⟨R,RO⟩:=RR.out;generalize((((wc.setCell ⟨w.heap.size+1,0,none⟩ (.int .i64 4)).setCell ⟨w.heap.size+1,1,none⟩ (.slice none 0 0)).setCell ⟨w.heap.size+1,2,none⟩ (.slice none 0 0)).setCell ⟨w.heap.size+1,3,none⟩ (.int .i64 0))=WW at R RO ⊢;have e0:=Blk.c0 R;have e1:=Blk.c1 R
   have e2:=Blk.c2 R;have e3:=Blk.c3 R;refine bodyPost_ret (v:= .agg #[.int .i64 4,.slice none 0 0,.slice none 0 0,.int .i64 0]) (by simp[results,Tryz.results95,go_sem,e0,e1,e2,e3]) rfl ?_;rw[HE.out];exact FreshR.code 4 (V3 (Below.t HB0.out HBC.out) RO (by omega))
  ·have HD:=Ja hd;clear hd;obtain⟨a0,a1,a2⟩:=HC.out wz HB1.out;have x4:=Blk.c4 (HKQ.out wz HB1.out);go_upto_region 3 with fail
   go_cut [5] (fun v wx=>v= .int .i64 (jd4 (Xx r.ref) p.Fz)∧Below w0.heap.size w0 wx)
   case first=>
    go_region_law (first
     |(refine J9 rfl 119 (enters_of Tryz.func119 (by kernel_rfl) rfl) rfl _ (by simp[Act.eval,Act.put]) ((jbh (x:=p) r.ref _ (HPP.out _ (Below.t HB1.out (by first|exact(Below.refl _ _).drew|exact Below.refl _ _|exact((Below.refl _ _).drew).alloc nle _|exact((Below.refl _ _).alloc nle _).drew|exact(Below.refl _ _).alloc nle _)))).mono ?_);rintro e w2 ⟨rfl,hb2⟩;refine⟨_,rfl, ?_⟩)
     |fail)
    all_goals
     go_wp2_with fail;go_meet
     case rel=>exact⟨rfl,Below.t HB1.out (Below.past hb2)⟩
   case rest=>
    obtain⟨wz,hwz⟩: ∃wz,wz=wc:=⟨_,rfl⟩;subst hwz;obtain⟨rfl,hb2⟩:=hcut;have HB2:=Ja hb2;clear hb2 a0 a1 a2 x4;rcases Zu (Xx r.ref) p.Fz with ⟨hn,he⟩|⟨k,hn,hk,he⟩
    ·rw[he];clear he;have HE:=Ja (show look p r=code 5 by unfold look;rw[HD.out,show Y7 p.Fz r.ref=none from hn];rfl);clear hn;go_wp2_with fail;refine(jak 5 _).mono ?_;rintro e wc ⟨rfl,hbc⟩;have HBC:=Ja (Below.t HB2.out hbc);clear hbc;have ka:=HKA.out wc HBC.out;have y0:=Jb ka 0;have d0:=Blk.c0 ka;have y1:=Jb ka 1;have d1:=Blk.c1 ka;have y2:=Jb ka 2
     have d2:=Blk.c2 ka;have y3:=Jb ka 3;have d3:=Blk.c3 ka;have RR:=Ja (Xo ka (.int .i64 5) (.slice none 0 0) (.slice none 0 0) (.int .i64 0));clear ka;go_wp2_with fail;obtain⟨R,RO⟩:=RR.out
     generalize((((wc.setCell ⟨w.heap.size+1,0,none⟩ (.int .i64 5)).setCell ⟨w.heap.size+1,1,none⟩ (.slice none 0 0)).setCell ⟨w.heap.size+1,2,none⟩ (.slice none 0 0)).setCell ⟨w.heap.size+1,3,none⟩ (.int .i64 0))=WW at R RO ⊢;have e0:=Blk.c0 R;have e1:=Blk.c1 R;have e2:=Blk.c2 R;have e3:=Blk.c3 R
     refine bodyPost_ret (v:= .agg #[.int .i64 5,.slice none 0 0,.slice none 0 0,.int .i64 0]) (by simp[results,Tryz.results95,go_sem,e0,e1,e2,e3]) rfl ?_;rw[HE.out];exact FreshR.code 5 (V3 (Below.t HB0.out HBC.out) RO (by omega))
    ·rw[he];clear he;have HS1:=H1.out wz HB2.out;obtain⟨bR,oR,B0,m0,d0',g0,rfl,hbR,hmR,q0,q1,q2,q3,hs0,_⟩:=J3 HS1 hk;have i0:(0:Int)≤(k:Int):=by omega
     have i1:(k:Int)<(p.Fz.length:Int):=by omega
     have i2: ¬(k:Int)<0:=by omega
     have HNF:=Ja hn;clear HS1 hbR hmR hn;obtain⟨a0,a1,a2⟩:=HC.out wz HB2.out;have x4:=Blk.c4 (HKQ.out wz HB2.out);have x7:=Blk.c7 (HKQ.out wz HB2.out);go_upto_region 6 with fail
     go_cut [6,7] (fun v6 v7 wx=>∃AF nF cF fF,v6= .slice AF nF cF∧v7= .bool (version p.Fz[k].Vz r.back).isSome∧SlR Rp.file wx AF nF cF ((version p.Fz[k].Vz r.back).getD []) fF∧Below w0.heap.size w0 wx)
     case first=>
      go_region_law (first
       |(refine J9 rfl 120 (enters_of Tryz.func120 (by kernel_rfl) rfl) rfl _ (by simp[Act.eval,Act.put]) ((ja7 (x:=p.Fz[k]) r.back (by have:=HQF.out.ints;omega) _ (show Rp.ref.R _ _ p.Fz[k] _ from⟨B0,m0,d0',g0,rfl,rfl,hs0.drew⟩)).mono ?_);rintro e w3 ⟨AF,nF,cF,fF,rfl,hsF,_,hb3⟩;refine⟨_,rfl, ?_⟩)
       |fail)
      all_goals
       go_wp2_with fail;go_meet
       case rel=>exact⟨AF,nF,cF,fF,rfl,rfl,hsF,Below.t HB2.out (Below.past hb3)⟩
     case rest=>
      obtain⟨wz,hwz⟩: ∃wz,wz=wc:=⟨_,rfl⟩;subst hwz;obtain⟨AF,nF,cF,fF,rfl,rfl,hsF,hb3⟩:=hcut;have HB3:=Ja hb3;have HFL:=Ja hsF;clear hb3 hsF q0 q1 q2 q3 hs0;cases hv:version p.Fz[k].Vz r.back with
      |none=>
       simp only[Option.isSome];have HE:=Ja (show look p r=code 7 by unfold look;rw[HD.out,show Y7 p.Fz r.ref=some k from HNF.out];simp only[if_true,J4 hk,hv]);go_wp2_with fail;refine(jak 7 _).mono ?_;rintro e wc ⟨rfl,hbc⟩;have HBC:=Ja (Below.t HB3.out hbc);clear hbc;have ka:=HKA.out wc HBC.out;have y0:=Jb ka 0;have d0:=Blk.c0 ka;have y1:=Jb ka 1
       have d1:=Blk.c1 ka;have y2:=Jb ka 2;have d2:=Blk.c2 ka;have y3:=Jb ka 3;have d3:=Blk.c3 ka;have RR:=Ja (Xo ka (.int .i64 7) (.slice none 0 0) (.slice none 0 0) (.int .i64 0));clear ka;go_wp2_with fail;obtain⟨R,RO⟩:=RR.out
       generalize((((wc.setCell ⟨w.heap.size+1,0,none⟩ (.int .i64 7)).setCell ⟨w.heap.size+1,1,none⟩ (.slice none 0 0)).setCell ⟨w.heap.size+1,2,none⟩ (.slice none 0 0)).setCell ⟨w.heap.size+1,3,none⟩ (.int .i64 0))=WW at R RO ⊢;have e0:=Blk.c0 R;have e1:=Blk.c1 R;have e2:=Blk.c2 R;have e3:=Blk.c3 R
       refine bodyPost_ret (v:= .agg #[.int .i64 7,.slice none 0 0,.slice none 0 0,.int .i64 0]) (by simp[results,Tryz.results95,go_sem,e0,e1,e2,e3]) rfl ?_;rw[HE.out];exact FreshR.code 7 (V3 (Below.t HB0.out HBC.out) RO (by omega))
      |some l=>
       have HVL:=Ja (ja5 hv);have hl1:=HFL.out;rw[hv] at hl1;have HLR:=Ja (fun(W:World) (hb:Below wz.heap.size wz W)=>(show SlR Rp.file W AF nF cF l fF from hl1.step hb));have HLT:=Ja ((HPF.out.vers _ (List.getElem_mem hk)).2.2.2 l HVL.out);have HL60:=Ja (show l.length≤60 from(Yo.1 HLT.out).1)
       have HE:=Ja (show look p r=⟨1,readable p.Uz r.user r.ref (Yq l r.path),[],p.Fz[k].count⟩ by unfold look;rw[HD.out,show Y7 p.Fz r.ref=some k from HNF.out];simp only[if_true,J4 hk,hv]);have HS1:=H1.out wz HB3.out;obtain⟨bS,oS,B9,m9,d9,g9,hbo,hbR,hmR,q0,q1,q2,q3,_,_⟩:=J3 HS1 hk;cases hbo;simp only[Option.isSome];have HMR:=Ja hmR;clear hl1 HS1 hbR hmR
       obtain⟨a0,a1,a2⟩:=HC.out wz HB3.out;have x0:=Blk.c0 (HKQ.out wz HB3.out);have x4:=Blk.c4 (HKQ.out wz HB3.out);have x5:=Blk.c5 (HKQ.out wz HB3.out);have HBd:=(Below.refl wz.heap.size wz).drew
       have G:=Ja (show ∀W:World,Below wz.heap.size wz W→W.cell? ⟨b,o+1,none⟩=some (.slice A0 p.Uz.length c0)∧W.cell? ⟨b,o+2,none⟩=some (.slice (some ⟨bR,oR,none⟩) p.Fz.length c1)∧W.cell? ⟨w.heap.size,0,none⟩=some (.int .i64 r.user)∧W.cell? ⟨w.heap.size,4,none⟩=some (.string r.ref)∧W.cell? ⟨w.heap.size,5,none⟩=some (.string r.path)∧W.cell? ⟨bR,oR+k*4+2,none⟩=some (.int .i64 p.Fz[k].count) from
        fun W hb=>⟨Je a1 hb,Je a2 hb,Je x0 hb,Je x4 hb,Je x5 hb,Je q2 hb⟩)
       have GS:=Ja (show ∀(W:World) (v0 v1 v2 v3:Value),Below wz.heap.size wz W→((((W.setCell ⟨w.heap.size+1,0,none⟩ v0).setCell ⟨w.heap.size+1,1,none⟩ v1).setCell ⟨w.heap.size+1,2,none⟩ v2).setCell ⟨w.heap.size+1,3,none⟩ v3).cell? ⟨b,o+1,none⟩=some (.slice A0 p.Uz.length c0)∧((((W.setCell ⟨w.heap.size+1,0,none⟩ v0).setCell ⟨w.heap.size+1,1,none⟩ v1).setCell ⟨w.heap.size+1,2,none⟩ v2).setCell ⟨w.heap.size+1,3,none⟩ v3).cell? ⟨b,o+2,none⟩=some (.slice (some ⟨bR,oR,none⟩) p.Fz.length c1)∧((((W.setCell ⟨w.heap.size+1,0,none⟩ v0).setCell ⟨w.heap.size+1,1,none⟩ v1).setCell ⟨w.heap.size+1,2,none⟩ v2).setCell ⟨w.heap.size+1,3,none⟩ v3).cell? ⟨w.heap.size,0,none⟩=some (.int .i64 r.user)∧((((W.setCell ⟨w.heap.size+1,0,none⟩ v0).setCell ⟨w.heap.size+1,1,none⟩ v1).setCell ⟨w.heap.size+1,2,none⟩ v2).setCell ⟨w.heap.size+1,3,none⟩ v3).cell? ⟨w.heap.size,4,none⟩=some (.string r.ref)∧((((W.setCell ⟨w.heap.size+1,0,none⟩ v0).setCell ⟨w.heap.size+1,1,none⟩ v1).setCell ⟨w.heap.size+1,2,none⟩ v2).setCell ⟨w.heap.size+1,3,none⟩ v3).cell? ⟨w.heap.size,5,none⟩=some (.string r.path)∧((((W.setCell ⟨w.heap.size+1,0,none⟩ v0).setCell ⟨w.heap.size+1,1,none⟩ v1).setCell ⟨w.heap.size+1,2,none⟩ v2).setCell ⟨w.heap.size+1,3,none⟩ v3).cell? ⟨bR,oR+k*4+2,none⟩=some (.int .i64 p.Fz[k].count) from fun W v0 v1 v2 v3 hb=>by
        obtain⟨g1,g2,g3,g4,g5,g6⟩:=G.out W hb;have hbw:=HBW.out;have hbR:=HL1.out _ HMR.out;refine⟨?_, ?_, ?_, ?_, ?_, ?_⟩<;>(repeat rw[World.cell?_setCell_other _ _ _ _ (by simp only[ne_eq,Addr.mk.injEq];simp at hbw;omega)])<;>assumption)
       clear a0 a1 a2 x0 x4 x5 q0 q1 q2 q3;go_wp2_with fail
       go_region_held3 (fun w'=>w'.cell? ⟨b,o+1,none⟩=some (.slice A0 p.Uz.length c0)∧w'.cell? ⟨b,o+2,none⟩=some (.slice (some ⟨bR,oR,none⟩) p.Fz.length c1)∧w'.cell? ⟨w.heap.size,0,none⟩=some (.int .i64 r.user)∧w'.cell? ⟨w.heap.size,4,none⟩=some (.string r.ref)∧w'.cell? ⟨w.heap.size,5,none⟩=some (.string r.path)∧w'.cell? ⟨bR,oR+k*4+2,none⟩=some (.int .i64 p.Fz[k].count))
        ((first|((with_reducible refine G.out _ ?_);(first|with_reducible exact HBd|with_reducible exact hB4|with_reducible exact hB5))|((with_reducible refine GS.out _ _ _ _ _ ?_);with_reducible exact hB5)))
        (first|(go_at_call 135;refine(je5 (l:=l) r.path _ (HLR.out _ HBd) HQF.out.path (jbw HLT.out) (by have:=HL60.out;omega)).mono ?_;rintro e w4 ⟨v4,rfl,ho4,hb4⟩;obtain⟨A4,c4,f4,hv4,hs4,_,_,_⟩:=Yp ho4;subst hv4;have hB4:=Below.past hb4;have HS4:=Ja hs4;clear hb4 hs4 ho4)|(go_at_call 78;refine(jiq (l:=Yq l r.path) (Uz:=p.Uz) r.user r.ref _ (H0.out _ (Below.t HB3.out hB4)) HS4.out HPF.out.Uz (jem HLT.out r.path) (by have:=HL60.out;have:=jel l r.path;omega)).mono ?_;rintro e w5 ⟨v5,rfl,ho5,hb5⟩;obtain⟨A5,c5,f5,hv5,hs5,hl5,hn5,hf5⟩:=Yp ho5;subst hv5;have HS5:=Ja hs5;have hB5:=Below.t hB4 hb5;have HL5:=Ja hl5;have HN5:=Ja hn5;have HF5:=Ja hf5;have ka:=HKA.out w5 (Below.t HB3.out hB5);have y0:=Jb ka 0;have d0:w5.cell? ⟨w.heap.size+1,0,none⟩=some (.int .i64 0):=ka.cell 0;have y1:=Jb ka 1;have d1:w5.cell? ⟨w.heap.size+1,1,none⟩=some (.slice none 0 0):=ka.cell 1;have y2:=Jb ka 2;have d2:w5.cell? ⟨w.heap.size+1,2,none⟩=some (.slice none 0 0):=ka.cell 2;have y3:=Jb ka 3;have d3:w5.cell? ⟨w.heap.size+1,3,none⟩=some (.int .i64 0):=ka.cell 3;have RR:=Ja (Xo ka (.int .i64 1) (.slice A5 (readable p.Uz r.user r.ref (Yq l r.path)).length c5) (.slice none 0 0) (.int .i64 p.Fz[k].count));clear ka hb5 hs5 hl5 hn5 hf5 ho5))
       all_goals
        obtain⟨R,RO⟩:=RR.out;go_wp2_with fail;generalize((((w5.setCell ⟨w.heap.size+1,0,none⟩ (.int .i64 1)).setCell ⟨w.heap.size+1,1,none⟩ (.slice A5 (readable p.Uz r.user r.ref (Yq l r.path)).length c5)).setCell ⟨w.heap.size+1,2,none⟩ (.slice none 0 0)).setCell ⟨w.heap.size+1,3,none⟩ (.int .i64 p.Fz[k].count))=WW at R RO ⊢;have e0:=Blk.c0 R;have e1:=Blk.c1 R;have e2:=Blk.c2 R
        have e3:=Blk.c3 R;refine bodyPost_ret (v:= .agg #[.int .i64 1,.slice A5 (readable p.Uz r.user r.ref (Yq l r.path)).length c5,.slice none 0 0,.int .i64 p.Fz[k].count]) (by simp[results,Tryz.results95,go_sem,e0,e1,e2,e3]) rfl ?_;rw[HE.out];have h12:=hB5.size;have h13:=hB4.size;have h14:=HB3.out.size;have h15:=HK0.out
        have hs5:=HS5.out.only RO (fun z hz hm=>by simp at hm;have:=HL5.out z hz;omega);exact⟨_,f5,rfl,⟨A5,_,c5,f5,none,0,0,[],rfl,by simp,hs5,SlR.nil⟩,HN5.out,fun z hz=>by have:=HL5.out z hz;omega,HF5.out.keep (fun z hz=>RO.block z (HS5.out.lt z hz) (by simp;have:=HL5.out z hz;omega)),V3 (Below.t HB0.out (Below.t HB3.out hB5)) RO (by omega)⟩
end Go.Proofs.YtlkoaobaoffpaaaGreatDoor
