/- Lemmas and walks, joined by program. -/
import Derived.StillTailTactics
import Derived.Test.YtobbdhgkcoeifaaGreatDoorZ18
import Derived.Test.YtobbdhgkcoeifaaGreatDoorZ4
import Derived.Test.YtobbdhgkcoeifaaGreatDoorZ2
import Derived.Test.YtobbdhgkcoeifaaGreatDoorZ3
namespace Go.Proofs.YtobbdhgkcoeifaaGreatDoor
open Go.RowKit
attribute [local go_sem ↓] Go.wp_at_zero Go.wp_at_succ
attribute [local go_sem] stayQ_normal
set_option maxHeartbeats 8000000
set_option maxRecDepth 100000
set_option linter.unusedSimpArgs false
set_option linter.unusedVariables false
def jqu (w:World) (m:Jl) (p:Xq) (r:Req) (e:Ending) (w':World):Prop:=
 ∃A n c f,e= .returned (.tuple #[.slice A n c,.int .i64 (write m p r).2])∧((write m p r).2=1→∀k,Y7 p.Fz r.ref=some k→SlR Rp.file w' A n c (newest m (p.Fz.getD k Y8) r).1 f)∧Below w.heap.size w w'
theorem jc3 {w w':World} {m:Jl} {p:Xq} {r:Req} {A:Option Addr} {n c:Nat} {f:List Nat} {k:Int} (h:(write m p r).2=k) (hs:k=1→∀k',Y7 p.Fz r.ref=some k'→SlR Rp.file w' A n c (newest m (p.Fz.getD k' Y8) r).1 f) (hb:Below w.heap.size w w'):
  jqu w m p r (.returned (.tuple #[.slice A n c,.int .i64 k])) w':=⟨A,n,c,f,by rw[h],fun h1=>hs (h▸h1),hb⟩
theorem jm5 {i:Nat} {m:Jl} {r:Req} {hs cs:List Value} {f fr:List Nat} (w:World) (hm:Rp.house.R w hs m f) (hr:Rp.req.R w cs r fr) (hri:r.repo=(i:Int)) (hi:i<m.Rz.length) (hP: ∀p∈m.Rz,RepoFit p) (hQ:ReqFit r) (hok:Ys m=true) (hkn:knows m.keys r.user r.key=true) (hw:Vs r=true):
  Calls Tryz.prog 44 #[.agg hs.toArray,.agg cs.toArray] w (jqu w m m.Rz[i] r):=by
 have HOK:=Ja hok;have HW:=Ja hw;have HRX:=Ja hri;have HPX:=Ja hP;obtain⟨u,hu1,hu2⟩:=jb6 hkn;have hul:u<m.used.length:=by have:=(J8.1 (Jo.1 hok).1).2.1;omega
 have HUS:=Ja (show 0≤m.used[u]∧m.used[u]≤200 from(J8.1 (Jo.1 hok).1).2.2.2 _ (List.getElem_mem hul));have HU1:=Ja hu1;have hr3:m.Rz.length≤3:=by have:=(Jo.1 hok).2.1;omega
 clear hok hw hkn hu1 hu2;obtain⟨E0,m0,d0,e0,rfl,_,hq⟩:=hr;obtain rfl:=hq.1;have hm0:=hm;obtain⟨A0,n0,c0,f0,A1,n1,c1,f1,A2,n2,c2,f2,rfl,hff,h0,h1,h2⟩:=hm;obtain rfl:=h0.1;obtain rfl:=h1.1;obtain rfl:=h2.1;have hmx:=h2.max;have hmq:=hq.max
 have HB0:=(((Below.refl w.heap.size w).alloc nle (.cells #[.slice A0 m.keys.length c0,.slice A1 m.used.length c1,.slice A2 m.Rz.length c2] 26)).alloc (by simp) (.cells (RA r (.slice E0 r.Ez.length d0)) 31));have kx:=((Blk.new w 26 #[.slice A0 m.keys.length c0,.slice A1 m.used.length c1,.slice A2 m.Rz.length c2]).alloc (.cells (RA r (.slice E0 r.Ez.length d0)) 31))
 have kq:=(Blk.new' (w:=(w.alloc (.cells #[.slice A0 m.keys.length c0,.slice A1 m.used.length c1,.slice A2 m.Rz.length c2] 26))) (H:=w.heap.size+1) (by simp) 31 (RA r (.slice E0 r.Ez.length d0)));have HKx:=Ja (fun(W:World) (hb:Below w.heap.size w W)=>h0.step hb);have HUx:=Ja (fun(W:World) (hb:Below w.heap.size w W)=>h1.step hb)
 have HRx:=Ja (fun(W:World) (hb:Below w.heap.size w W)=>h2.step hb);have HEx:=Ja (fun(W:World) (hb:Below w.heap.size w W)=>hq.step hb);have HHx:=Ja (fun(W:World) (hb:Below w.heap.size w W)=>Rp.house.below hm0 hb nle);have HRI:=Ja hri;have HPF:=Ja hP;have HQF:=Ja hQ;have HFI:=Ja (hP _ (List.getElem_mem hi));have i0:(0:Int)≤(i:Int):=by omega
 have i1:(i:Int)<(m.Rz.length:Int):=by omega
 clear hri hP hQ;clear hm0 hff h0 h1 h2 hq;go_enter Tryz.func44,Tryz.ntmps44;go_upto_region 1 with fail
 generalize hW0:((w.alloc (.cells #[.slice A0 m.keys.length c0,.slice A1 m.used.length c1,.slice A2 m.Rz.length c2] 26)).alloc (.cells (RA r (.slice E0 r.Ez.length d0)) 31))=w0 at HB0 kx kq ⊢;clear hW0;have HKX:=Ja (fun(W:World) (hb:Below w0.heap.size w0 W)=>kx.step hb);have HKQ:=Ja (fun(W:World) (hb:Below w0.heap.size w0 W)=>kq.step hb);have HB0:=Ja HB0;clear kx kq
 have i0:=Blk.c0 (HKX.out w0 (Below.refl _ _));have i1:=Blk.c1 (HKX.out w0 (Below.refl _ _));have i2:=Blk.c2 (HKX.out w0 (Below.refl _ _));go_wp2_with((refine wpList_load_row rfl 31 (.tmp 3) rfl _ rfl _ _ _ _ (HKQ.out w0 (Below.refl _ _)).out Tryz.underlying31 rfl Vi ?_))
 refine(jos (m:=m) (r:=r) (i:=i) _ (HHx.out _ HB0.out) ⟨E0,_,d0,e0,rfl,rfl,HEx.out _ HB0.out⟩ HRI.out hi HPF.out HQF.out hr3 HW.out).mono ?_;rintro e w1 ⟨rfl,hb1⟩;have HB1:=Ja hb1;clear hb1 i2;cases hmay:Yi m m.Rz[i] r
 ·have HMAY:=Ja hmay;clear hmay;have HE:=Ja (show(write m m.Rz[i] r).2=4 by unfold write;rw[HMAY.out];rfl);go_wp2_with fail
  go_ret2
  exact jc3 (f:=[]) HE.out (fun h=>by omega) ((Below.t HB0.out HB1.out).alloc (Below.t HB0.out HB1.out).size _)
 have HMAY:=Ja hmay;clear hmay;have i2:=Blk.c2 (HKX.out w1 HB1.out);have x2:w1.cell? ⟨w.heap.size+1,2,none⟩=some (.int .i64 (i:Int)):=by rw[←HRI.out];exact(HKQ.out w1 HB1.out).cell 2
 have x4:=Blk.c4 (HKQ.out w1 HB1.out);obtain⟨bp,op,B0,b0,d0',g0,B1,b1,d1',g1,rfl,hbp,hmp,q0,q1,q2,hs0,hs1,hsub⟩:=J7 (HRx.out w1 (Below.t HB0.out HB1.out)) hi;obtain rfl:=hs1.1;have HS1:=Ja (fun(W:World) (hb:Below w1.heap.size w1 W)=>hs1.step hb)
 have hrp:Rp.repo.R w1 [.int .i64 m.Rz[i].Az,.slice B0 b0 d0',.slice B1 m.Rz[i].Fz.length d1'] m.Rz[i] (g0++g1):=⟨B0,b0,d0',g0,B1,_,d1',g1,rfl,rfl,hs0,hs1⟩;have HPx:=Ja (fun(W:World) (hb:Below w1.heap.size w1 W)=>Rp.repo.below hrp hb nle);have HQ2:=Ja q2
 have D1:=Ja (fun W (hh:Rp.repo.R W [.int .i64 m.Rz[i].Az,.slice B0 b0 d0',.slice B1 m.Rz[i].Fz.length d1'] m.Rz[i] (g0++g1))=>jbd r.ref W hh);clear hs0 hs1 hrp hbp hmp hsub;go_upto_region 3 with fail
 go_wp2_with fail;have n0:=BelowW.nonempty w1;have e0:=BelowW.ex (w:=w1);have g_i2:=bwc i2;have g_x2:=bwc x2;have g_x4:=bwc x4;have g_q0:=bwc q0;have g_q1:=bwc q1;have g_q2:=bwc q2;clear i2 x2 x4 q0 q1 q2;refine Jf (by kernel_rfl) (by kernel_rfl) ?_
 repeat(go_big_quiet_step(first|(go_at_call 71;exact BelowW.calls _ (D1.out _ (HPx.out _ (Subtype.property _))))))
 refine wpQuiet_nil ?_;rintro w2 ⟨m4,hw2⟩;have hb2:=m4.property;rw[←hw2] at hb2;clear hw2 m4 e0 g_i2 g_x2 g_x4 g_q0 g_q1 g_q2;have HD2:=Ja hb2;have HB2:=Ja (Below.t HB1.out hb2);clear hb2 D1;rcases Zu (Xx r.ref) m.Rz[i].Fz with ⟨hn,he⟩|⟨k,hn,hk,he⟩
 ·rw[he];clear he;have HNF:=Ja (show Y7 m.Rz[i].Fz r.ref=none from hn);clear hn;have HE:=Ja (show(write m m.Rz[i] r).2=5 by unfold write;rw[HMAY.out,HNF.out];rfl);go_wp2_with fail
  go_ret2
  exact jc3 (f:=[]) HE.out (fun h=>by omega) ((Below.t HB0.out HB2.out).alloc (Below.t HB0.out HB2.out).size _)
 rw[he];clear he;have HNF:=Ja (show Y7 m.Rz[i].Fz r.ref=some k from hn);have HFX:=Ja (HFI.out.vers _ (List.getElem_mem hk));have k0:(0:Int)≤(k:Int):=by omega
 have k1:(k:Int)<(m.Rz[i].Fz.length:Int):=by omega
 have k2: ¬(k:Int)<0:=by omega
 clear hn;have i2:=Blk.c2 (HKX.out w2 HB2.out);have x2:w2.cell? ⟨w.heap.size+1,2,none⟩=some (.int .i64 (i:Int)):=by rw[←HRI.out];exact(HKQ.out w2 HB2.out).cell 2
 have q2:=Je HQ2.out HD2.out;obtain⟨bR,oR,B3,b3,d3,g3,rfl,hbR,hmR,t0,t1,t2,t3,hs3,_⟩:=J3 (HS1.out w2 HD2.out) hk;obtain rfl:=hs3.1;clear hbR hmR hs3;go_upto_region 7 with fail
 obtain⟨w3,hw3⟩: ∃w3,w3=w2.alloc (.cells #[.string m.Rz[i].Fz[k].name,.bool m.Rz[i].Fz[k].guard,.int .i64 m.Rz[i].Fz[k].count,.slice B3 m.Rz[i].Fz[k].Vz.length d3] 52):=⟨_,rfl⟩;rw[←hw3];have HD3:=Ja (show Below w2.heap.size w2 w3 from hw3▸(Below.refl _ _).alloc nle _);have HB3:=Ja (Below.t HB2.out HD3.out)
 have kr:=(show Blk w3 w2.heap.size 52 #[.string m.Rz[i].Fz[k].name,.bool m.Rz[i].Fz[k].guard,.int .i64 m.Rz[i].Fz[k].count,.slice B3 m.Rz[i].Fz[k].Vz.length d3] from hw3▸Blk.new w2 _ _);have HRB:=Ja (fun(W:World) (hb:Below w3.heap.size w3 W)=>kr.step hb);clear hw3 kr t0 t1 t2 t3 q2 i2 x2;have t2:=Blk.c2 (HRB.out w3 (Below.refl _ _))
 by_cases hce:m.Rz[i].Fz[k].count=r.old
 case neg=>
  have x6:=Blk.c6 (HKQ.out w3 HB3.out);have HE:=Ja (show(write m m.Rz[i] r).2=6 by unfold write;rw[HMAY.out,HNF.out];simp only[if_true,J4 hk];rw[if_pos hce]);go_wp2_with fail
  go_ret2
  exact jc3 (f:=[]) HE.out (fun h=>by omega) ((Below.t HB0.out HB3.out).alloc (Below.t HB0.out HB3.out).size _)
 have HCE:=Ja hce;have x6:w3.cell? ⟨w.heap.size+1,6,none⟩=some (.int .i64 m.Rz[i].Fz[k].count):=by rw[hce];exact(HKQ.out w3 HB3.out).cell 6
 clear hce;by_cases h14:m.Rz[i].Fz[k].count=14
 case pos=>
  have H14:=Ja h14;rw[h14] at t2 x6;clear h14;have HE:=Ja (show(write m m.Rz[i] r).2=9 by unfold write;rw[HMAY.out,HNF.out];simp only[if_true,J4 hk];rw[if_neg (fun h=>h HCE.out),if_pos H14.out]);go_wp2_with fail
  go_ret2
  exact jc3 (f:=[]) HE.out (fun h=>by omega) ((Below.t HB0.out HB3.out).alloc (Below.t HB0.out HB3.out).size _)
 have H14:=Ja h14;have i0:=Blk.c0 (HKX.out w3 HB3.out);have i1:=Blk.c1 (HKX.out w3 HB3.out);have i2:=Blk.c2 (HKX.out w3 HB3.out);go_wp2_with((refine wpList_load_row rfl 31 (.tmp 3) rfl _ rfl _ _ _ _ (HKQ.out w3 HB3.out).out Tryz.underlying31 rfl Vi ?_))
 refine(jm6 (m:=m) (r:=r) (i:=i) (k:=k) _ (HHx.out _ (Below.t HB0.out HB3.out)) ⟨E0,_,d0,e0,rfl,rfl,HEx.out _ (Below.t HB0.out HB3.out)⟩ HRI.out hi HPF.out HQF.out HOK.out hk HNF.out HMAY.out).mono ?_;rintro e w4 ⟨A5,n5,c5,f5,rfl,hs5,hb4⟩;have HS5:=Ja hs5;have HB4:=Ja (Below.t HB3.out hb4);clear hs5 hb4 t2 x6 h14 i2;by_cases hnc:(newest m m.Rz[i].Fz[k] r).2=1
 case neg=>
  have HE:=Ja (show(write m m.Rz[i] r).2=(newest m m.Rz[i].Fz[k] r).2 by unfold write;rw[HMAY.out,HNF.out];simp only[if_true,J4 hk];rw[if_neg (fun h=>h HCE.out),if_neg H14.out,if_pos hnc]);have hnb:((newest m m.Rz[i].Fz[k] r).2==1)=false:=by simpa using hnc
  have hnd:decide ((newest m m.Rz[i].Fz[k] r).2=1)=false:=decide_eq_false hnc;have HNC:=Ja hnc;clear hnc;go_upto_region 12 with fail
  go_quiet(fail);have HB5:=Ja (Below.drewN' HB4.out nq);clear hnb hnd;go_wp2_with fail
  go_ret2
  exact jc3 (f:=[]) HE.out (fun h=>absurd h HNC.out) (Below.t HB0.out HB5.out)
 have HNC:=Ja hnc;rw[hnc];clear hnc;have hus:=HUS.out;have hT:=ja9 HQF.out.Ez HQF.out.nedits;have hsum:IntKind.i64.wrap (m.used[u]+((Yg r.Ez:Nat):Int))=m.used[u]+((Yg r.Ez:Nat):Int):=IntWalk.i64_in _ (by omega);have hub:=HQF.out.ints.1;have hwu:IntKind.i64.wrap ((u:Int)+1 - 1)=(u:Int):=by rw[IntWalk.i64_in _ (by have:=HU1.out;omega)];omega
 have hwu2:IntKind.i64.wrap (u:Int)=(u:Int):=IntWalk.i64_in _ (by have:=HU1.out;omega);have u0:(0:Int)≤(u:Int):=by omega
 have u1:(u:Int)<(m.used.length:Int):=by omega
 have i1:=Blk.c1 (HKX.out w4 HB4.out);have x8:=Blk.c8 (HKQ.out w4 HB4.out);have x0:w4.cell? ⟨w.heap.size+1,0,none⟩=some (.int .i64 ((u:Int)+1)):=by rw[←HU1.out];exact(HKQ.out w4 HB4.out).cell 0
 obtain⟨bU,oU,rfl,_,_,uc⟩:=Xg (HUx.out w4 (Below.t HB0.out HB4.out)) hul;have hse:=HEx.out w4 (Below.t HB0.out HB4.out);have D2:=Ja (fun W (h:SlR Rp.edit W E0 r.Ez.length d0 r.Ez e0)=>jby W h HQF.out.Ez);go_upto_region 12 with fail
 by_cases hov:m.used[u]+((Yg r.Ez:Nat):Int) > 200
 case pos=>
  have HE:=Ja (show(write m m.Rz[i] r).2=10 by
   unfold write;rw[HMAY.out,HNF.out];simp only[if_true,J4 hk];rw[if_neg (fun h=>h HCE.out),if_neg H14.out,if_neg (fun h=>h HNC.out),if_pos];rw[HU1.out,show((u:Int)+1 - 1).toNat=u by omega,J4 hul];exact hov)
  have hov':(200:Int)<m.used[u]+((Yg r.Ez:Nat):Int):=hov;clear hus hT hov hub;go_wp2_with fail;have n0:=BelowW.nonempty w4;have e0:=BelowW.ex (w:=w4);have g_i1:=bwc i1;have g_x0:=bwc x0;have g_x8:=bwc x8;have g_uc:=bwc uc;clear i1 x0 x8 uc;refine Jf (by kernel_rfl) (by kernel_rfl) ?_
  repeat(go_big_quiet_step(first|(go_at_call 106;exact BelowW.calls _ (D2.out _ (BelowW.sl _ hse)))))
  refine wpQuiet_nil ?_;rintro w5 ⟨m4,hw5⟩;have hb5:=m4.property;rw[←hw5] at hb5;clear hw5 m4 e0 g_i1 g_x0 g_x8 g_uc;have HB5:=Ja (Below.t HB4.out hb5);clear hb5;go_wp2_with fail
  go_ret2
  exact jc3 (f:=[]) HE.out (fun h=>by omega) ((Below.t HB0.out HB5.out).alloc (Below.t HB0.out HB5.out).size _)
 have HE:=Ja (show(write m m.Rz[i] r).2=1 by
  unfold write;rw[HMAY.out,HNF.out];simp only[if_true,J4 hk];rw[if_neg (fun h=>h HCE.out),if_neg H14.out,if_neg (fun h=>h HNC.out),if_neg];rw[HU1.out,show((u:Int)+1 - 1).toNat=u by omega,J4 hul];exact hov)
 have hov': ¬(200:Int)<m.used[u]+((Yg r.Ez:Nat):Int):=hov;clear hus hT hov hub;go_wp2_with fail;have n0:=BelowW.nonempty w4;have e0:=BelowW.ex (w:=w4);have g_i1:=bwc i1;have g_x0:=bwc x0;have g_x8:=bwc x8;have g_uc:=bwc uc;clear i1 x0 x8 uc;refine Jf (by kernel_rfl) (by kernel_rfl) ?_
 repeat(go_big_quiet_step(first|(go_at_call 106;exact BelowW.calls _ (D2.out _ (BelowW.sl _ hse)))))
 refine wpQuiet_nil ?_;rintro w5 ⟨m4,hw5⟩;have hb5:=m4.property;rw[←hw5] at hb5;clear hw5 m4 e0 g_i1 g_x0 g_x8 g_uc;have HB5:=Ja (Below.t HB4.out hb5);have HS6:=Ja (HS5.out.step hb5);clear hb5;go_wp2_with fail
 go_ret2
 exact jc3 (f:=f5) HE.out (fun _ k' hk'=>by
  rw[HNF.out] at hk';cases hk';rw[J4 hk];exact HS6.out) (Below.t HB0.out HB5.out)
theorem jjf {b o:Nat} {p:Xq} {r:Req} {cr cs:List Value} {f fr:List Nat} (w:World) (hc:Cells w b o cr) (hp:Rp.repo.R w cr p f) (hr:Rp.req.R w cs r fr) (hP:RepoFit p) (hQ:ReqFit r):
  Calls Tryz.prog 96 #[.pointer (some ⟨b,o,none⟩),.agg cs.toArray] w (FreshR Rp.ans w (look p r)):=by
 obtain⟨E0,m0,d0,e0,rfl,_,hq⟩:=hr;obtain rfl:=hq.1;have hp0:=hp;obtain⟨A0,n0,c0,f0,A1,n1,c1,f1,rfl,hff,h0,h1⟩:=hp;obtain rfl:=h0.1;obtain rfl:=h1.1;have hmr:=h1.max;have HB0:=(((Below.refl w.heap.size w).alloc nle (.cells (RA r (.slice E0 r.Ez.length d0)) 31)).alloc (by simp) (.cells N0 37));have kq:=(Blk.new w 31 (RA r (.slice E0 r.Ez.length d0))).alloc (.cells N0 37)
 have ka:=Blk.new (w.alloc (.cells (RA r (.slice E0 r.Ez.length d0)) 31)) 37 N0;rw[show(w.alloc (.cells (RA r (.slice E0 r.Ez.length d0)) 31)).heap.size=w.heap.size+1 by simp] at ka;have hl1w:=h1.lt;have hblw:=World.block_lt_of_cell? w _ hc.at0;have c0':=Je hc.at0 HB0;have c1':=Je hc.tail.at0 HB0;have c2':=Je hc.tail.tail.at0 HB0;replace hp0:=Rp.repo.below hp0 HB0 nle
 replace h0:=h0.step HB0;replace h1:=h1.step HB0;have HPF:=Ja hP;have HQF:=Ja hQ;clear hc hP hQ;go_enter Tryz.func96,Tryz.ntmps96;go_upto_region 1 with fail
 generalize hW0:(w.alloc (.cells (RA r (.slice E0 r.Ez.length d0)) 31)).alloc (.cells N0 37)=w0 at HB0 kq ka c0' c1' c2' hp0 h0 h1 ⊢;clear hW0;have HKQ:=Ja (fun(W:World) (hb:Below w0.heap.size w0 W)=>kq.step hb);have HKA:=Ja (fun(W:World) (hb:Below w0.heap.size w0 W)=>ka.step hb)
 have HC:=Ja (fun(W:World) (hb:Below w0.heap.size w0 W)=>And.intro (Je c0' hb) (And.intro (Je c1' hb) (Je c2' hb)));have HPP:=Ja (fun(W:World) (hb:Below w0.heap.size w0 W)=>Rp.repo.below hp0 hb nle);have H0:=Ja (fun(W:World) (hb:Below w0.heap.size w0 W)=>h0.step hb);have H1:=Ja (fun(W:World) (hb:Below w0.heap.size w0 W)=>h1.step hb);have HK0:=Ja ka.lt
 have HL1:=Ja hl1w;have HBW:=Ja hblw;have HB0:=Ja HB0;have HBR:=Ja (Below.refl w0.heap.size w0);clear kq ka c0' c1' c2' hp0 h0 h1 hff hq hl1w hblw;obtain⟨a0,a1,a2⟩:=HC.out w0 HBR.out;have x0:=Blk.c0 (HKQ.out w0 HBR.out);have x4:=Blk.c4 (HKQ.out w0 HBR.out);go_upto_region 1 with fail
 go_cut [17] (fun v wx=>v= .bool (!Wt p.Uz r.user r.ref)∧Below w0.heap.size w0 wx)
 case first=>
  go_region_law (first
   |(refine J9 rfl 27 (enters_of Tryz.func27 (by kernel_rfl) rfl) rfl _ (by simp[Act.eval,Act.put]) ((jb8 (l:=p.Uz) r.user r.ref _ (H0.out _ (by first|exact(Below.refl _ _).drew|exact Below.refl _ _|exact((Below.refl _ _).drew).alloc nle _|exact((Below.refl _ _).alloc nle _).drew|exact(Below.refl _ _).alloc nle _)) HPF.out.Uz).mono ?_);rintro e w1 ⟨rfl,hb1⟩;refine⟨_,rfl, ?_⟩)
   |fail)
  all_goals
   go_wp2_with fail;go_meet
   case rel=>exact⟨rfl,Below.past hb1⟩
 case rest=>
  obtain⟨wz,hwz⟩: ∃wz,wz=wc:=⟨_,rfl⟩;subst hwz;obtain⟨rfl,hb1⟩:=hcut;have HB1:=Ja hb1;clear hb1 a0 a1 a2 x0 x4;cases hd:Wt p.Uz r.user r.ref
  ·have HE:=Ja (show look p r=code 4 by unfold look;rw[hd];rfl);clear hd;go_wp2_with fail;refine(jak 4 _).mono ?_;rintro e wc ⟨rfl,hbc⟩;have HBC:=Ja (Below.t HB1.out hbc);clear hbc;have ka:=HKA.out wc HBC.out;have y0:=Jb ka 0;have d0:=Blk.c0 ka;have y1:=Jb ka 1;have d1:=Blk.c1 ka;have y2:=Jb ka 2;have d2:=Blk.c2 ka;have y3:=Jb ka 3;have d3:=Blk.c3 ka
   have RR:=Ja (Xo ka (.int .i64 4) (.slice none 0 0) (.slice none 0 0) (.int .i64 0));clear ka;go_wp2_with fail;obtain⟨R,RO⟩:=RR.out;generalize((((wc.setCell ⟨w.heap.size+1,0,none⟩ (.int .i64 4)).setCell ⟨w.heap.size+1,1,none⟩ (.slice none 0 0)).setCell ⟨w.heap.size+1,2,none⟩ (.slice none 0 0)).setCell ⟨w.heap.size+1,3,none⟩ (.int .i64 0))=WW at R RO ⊢;have e0:=Blk.c0 R;have e1:=Blk.c1 R
   have e2:=Blk.c2 R;have e3:=Blk.c3 R;refine bodyPost_ret (v:= .agg #[.int .i64 4,.slice none 0 0,.slice none 0 0,.int .i64 0]) (by simp[results,Tryz.results96,go_sem,e0,e1,e2,e3]) rfl ?_;rw[HE.out];exact FreshR.code 4 (V3 (Below.t HB0.out HBC.out) RO (by omega))
  ·have HD:=Ja hd;clear hd;obtain⟨a0,a1,a2⟩:=HC.out wz HB1.out;have x4:=Blk.c4 (HKQ.out wz HB1.out);go_upto_region 3 with fail
   go_cut [5] (fun v wx=>v= .int .i64 (jd4 (Xx r.ref) p.Fz)∧Below w0.heap.size w0 wx)
   case first=>
    go_region_law (first
     |(refine J9 rfl 121 (enters_of Tryz.func121 (by kernel_rfl) rfl) rfl _ (by simp[Act.eval,Act.put]) ((jbh (x:=p) r.ref _ (HPP.out _ (Below.t HB1.out (by first|exact(Below.refl _ _).drew|exact Below.refl _ _|exact((Below.refl _ _).drew).alloc nle _|exact((Below.refl _ _).alloc nle _).drew|exact(Below.refl _ _).alloc nle _)))).mono ?_);rintro e w2 ⟨rfl,hb2⟩;refine⟨_,rfl, ?_⟩)
     |fail)
    all_goals
     go_wp2_with fail;go_meet
     case rel=>exact⟨rfl,Below.t HB1.out (Below.past hb2)⟩
   case rest=>
    obtain⟨wz,hwz⟩: ∃wz,wz=wc:=⟨_,rfl⟩;subst hwz;obtain⟨rfl,hb2⟩:=hcut;have HB2:=Ja hb2;clear hb2 a0 a1 a2 x4;rcases Zu (Xx r.ref) p.Fz with ⟨hn,he⟩|⟨k,hn,hk,he⟩
    ·rw[he];clear he;have HE:=Ja (show look p r=code 5 by unfold look;rw[HD.out,show Y7 p.Fz r.ref=none from hn];rfl);clear hn;go_wp2_with fail;refine(jak 5 _).mono ?_;rintro e wc ⟨rfl,hbc⟩;have HBC:=Ja (Below.t HB2.out hbc);clear hbc;have ka:=HKA.out wc HBC.out;have y0:=Jb ka 0;have d0:=Blk.c0 ka;have y1:=Jb ka 1;have d1:=Blk.c1 ka;have y2:=Jb ka 2
     have d2:=Blk.c2 ka;have y3:=Jb ka 3;have d3:=Blk.c3 ka;have RR:=Ja (Xo ka (.int .i64 5) (.slice none 0 0) (.slice none 0 0) (.int .i64 0));clear ka;go_wp2_with fail;obtain⟨R,RO⟩:=RR.out
     generalize((((wc.setCell ⟨w.heap.size+1,0,none⟩ (.int .i64 5)).setCell ⟨w.heap.size+1,1,none⟩ (.slice none 0 0)).setCell ⟨w.heap.size+1,2,none⟩ (.slice none 0 0)).setCell ⟨w.heap.size+1,3,none⟩ (.int .i64 0))=WW at R RO ⊢;have e0:=Blk.c0 R;have e1:=Blk.c1 R;have e2:=Blk.c2 R;have e3:=Blk.c3 R
     refine bodyPost_ret (v:= .agg #[.int .i64 5,.slice none 0 0,.slice none 0 0,.int .i64 0]) (by simp[results,Tryz.results96,go_sem,e0,e1,e2,e3]) rfl ?_;rw[HE.out];exact FreshR.code 5 (V3 (Below.t HB0.out HBC.out) RO (by omega))
    ·rw[he];clear he;have HS1:=H1.out wz HB2.out;obtain⟨bR,oR,B0,m0,d0',g0,rfl,hbR,hmR,q0,q1,q2,q3,hs0,_⟩:=J3 HS1 hk;have i0:(0:Int)≤(k:Int):=by omega
     have i1:(k:Int)<(p.Fz.length:Int):=by omega
     have i2: ¬(k:Int)<0:=by omega
     have HNF:=Ja hn;clear HS1 hbR hmR hn;obtain⟨a0,a1,a2⟩:=HC.out wz HB2.out;have x4:=Blk.c4 (HKQ.out wz HB2.out);have x7:=Blk.c7 (HKQ.out wz HB2.out);go_upto_region 6 with fail
     go_cut [6,7] (fun v6 v7 wx=>∃AF nF cF fF,v6= .slice AF nF cF∧v7= .bool (version p.Fz[k].Vz r.back).isSome∧SlR Rp.file wx AF nF cF ((version p.Fz[k].Vz r.back).getD []) fF∧Below w0.heap.size w0 wx)
     case first=>
      go_region_law (first
       |(refine J9 rfl 122 (enters_of Tryz.func122 (by kernel_rfl) rfl) rfl _ (by simp[Act.eval,Act.put]) ((ja7 (x:=p.Fz[k]) r.back (by have:=HQF.out.ints;omega) _ (show Rp.ref.R _ _ p.Fz[k] _ from⟨B0,m0,d0',g0,rfl,rfl,hs0.drew⟩)).mono ?_);rintro e w3 ⟨AF,nF,cF,fF,rfl,hsF,_,hb3⟩;refine⟨_,rfl, ?_⟩)
       |fail)
      all_goals
       go_wp2_with fail;go_meet
       case rel=>exact⟨AF,nF,cF,fF,rfl,rfl,hsF,Below.t HB2.out (Below.past hb3)⟩
     case rest=>
      obtain⟨wz,hwz⟩: ∃wz,wz=wc:=⟨_,rfl⟩;subst hwz;obtain⟨AF,nF,cF,fF,rfl,rfl,hsF,hb3⟩:=hcut;have HB3:=Ja hb3;have HFL:=Ja hsF;clear hb3 hsF q0 q1 q2 q3 hs0;cases hv:version p.Fz[k].Vz r.back with
      |none=>
       simp only[Option.isSome];have HE:=Ja (show look p r=code 7 by unfold look;rw[HD.out,show Y7 p.Fz r.ref=some k from HNF.out];simp only[if_true,J4 hk,hv]);go_wp2_with fail;refine(jak 7 _).mono ?_;rintro e wc ⟨rfl,hbc⟩;have HBC:=Ja (Below.t HB3.out hbc);clear hbc;have ka:=HKA.out wc HBC.out;have y0:=Jb ka 0;have d0:=Blk.c0 ka;have y1:=Jb ka 1
       have d1:=Blk.c1 ka;have y2:=Jb ka 2;have d2:=Blk.c2 ka;have y3:=Jb ka 3;have d3:=Blk.c3 ka;have RR:=Ja (Xo ka (.int .i64 7) (.slice none 0 0) (.slice none 0 0) (.int .i64 0));clear ka;go_wp2_with fail;obtain⟨R,RO⟩:=RR.out
       generalize((((wc.setCell ⟨w.heap.size+1,0,none⟩ (.int .i64 7)).setCell ⟨w.heap.size+1,1,none⟩ (.slice none 0 0)).setCell ⟨w.heap.size+1,2,none⟩ (.slice none 0 0)).setCell ⟨w.heap.size+1,3,none⟩ (.int .i64 0))=WW at R RO ⊢;have e0:=Blk.c0 R;have e1:=Blk.c1 R;have e2:=Blk.c2 R;have e3:=Blk.c3 R
       refine bodyPost_ret (v:= .agg #[.int .i64 7,.slice none 0 0,.slice none 0 0,.int .i64 0]) (by simp[results,Tryz.results96,go_sem,e0,e1,e2,e3]) rfl ?_;rw[HE.out];exact FreshR.code 7 (V3 (Below.t HB0.out HBC.out) RO (by omega))
      |some l=>
       have HVL:=Ja (ja5 hv);have hl1:=HFL.out;rw[hv] at hl1;have HLR:=Ja (fun(W:World) (hb:Below wz.heap.size wz W)=>(show SlR Rp.file W AF nF cF l fF from hl1.step hb));have HLT:=Ja ((HPF.out.vers _ (List.getElem_mem hk)).2.2.2 l HVL.out);have HL60:=Ja (show l.length≤60 from(Yo.1 HLT.out).1)
       have HE:=Ja (show look p r=⟨1,readable p.Uz r.user r.ref (Yq l r.path),[],p.Fz[k].count⟩ by unfold look;rw[HD.out,show Y7 p.Fz r.ref=some k from HNF.out];simp only[if_true,J4 hk,hv]);have HS1:=H1.out wz HB3.out;obtain⟨bS,oS,B9,m9,d9,g9,hbo,hbR,hmR,q0,q1,q2,q3,_,_⟩:=J3 HS1 hk;cases hbo;simp only[Option.isSome];have HMR:=Ja hmR;clear hl1 HS1 hbR hmR
       obtain⟨a0,a1,a2⟩:=HC.out wz HB3.out;have x0:=Blk.c0 (HKQ.out wz HB3.out);have x4:=Blk.c4 (HKQ.out wz HB3.out);have x5:=Blk.c5 (HKQ.out wz HB3.out);have HBd:=(Below.refl wz.heap.size wz).drew
       have G:=Ja (show ∀W:World,Below wz.heap.size wz W→W.cell? ⟨b,o+1,none⟩=some (.slice A0 p.Uz.length c0)∧W.cell? ⟨b,o+2,none⟩=some (.slice (some ⟨bR,oR,none⟩) p.Fz.length c1)∧W.cell? ⟨w.heap.size,0,none⟩=some (.int .i64 r.user)∧W.cell? ⟨w.heap.size,4,none⟩=some (.string r.ref)∧W.cell? ⟨w.heap.size,5,none⟩=some (.string r.path)∧W.cell? ⟨bR,oR+k*4+2,none⟩=some (.int .i64 p.Fz[k].count) from
        fun W hb=>⟨Je a1 hb,Je a2 hb,Je x0 hb,Je x4 hb,Je x5 hb,Je q2 hb⟩)
       have GS:=Ja (show ∀(W:World) (v0 v1 v2 v3:Value),Below wz.heap.size wz W→((((W.setCell ⟨w.heap.size+1,0,none⟩ v0).setCell ⟨w.heap.size+1,1,none⟩ v1).setCell ⟨w.heap.size+1,2,none⟩ v2).setCell ⟨w.heap.size+1,3,none⟩ v3).cell? ⟨b,o+1,none⟩=some (.slice A0 p.Uz.length c0)∧((((W.setCell ⟨w.heap.size+1,0,none⟩ v0).setCell ⟨w.heap.size+1,1,none⟩ v1).setCell ⟨w.heap.size+1,2,none⟩ v2).setCell ⟨w.heap.size+1,3,none⟩ v3).cell? ⟨b,o+2,none⟩=some (.slice (some ⟨bR,oR,none⟩) p.Fz.length c1)∧((((W.setCell ⟨w.heap.size+1,0,none⟩ v0).setCell ⟨w.heap.size+1,1,none⟩ v1).setCell ⟨w.heap.size+1,2,none⟩ v2).setCell ⟨w.heap.size+1,3,none⟩ v3).cell? ⟨w.heap.size,0,none⟩=some (.int .i64 r.user)∧((((W.setCell ⟨w.heap.size+1,0,none⟩ v0).setCell ⟨w.heap.size+1,1,none⟩ v1).setCell ⟨w.heap.size+1,2,none⟩ v2).setCell ⟨w.heap.size+1,3,none⟩ v3).cell? ⟨w.heap.size,4,none⟩=some (.string r.ref)∧((((W.setCell ⟨w.heap.size+1,0,none⟩ v0).setCell ⟨w.heap.size+1,1,none⟩ v1).setCell ⟨w.heap.size+1,2,none⟩ v2).setCell ⟨w.heap.size+1,3,none⟩ v3).cell? ⟨w.heap.size,5,none⟩=some (.string r.path)∧((((W.setCell ⟨w.heap.size+1,0,none⟩ v0).setCell ⟨w.heap.size+1,1,none⟩ v1).setCell ⟨w.heap.size+1,2,none⟩ v2).setCell ⟨w.heap.size+1,3,none⟩ v3).cell? ⟨bR,oR+k*4+2,none⟩=some (.int .i64 p.Fz[k].count) from fun W v0 v1 v2 v3 hb=>by
        obtain⟨g1,g2,g3,g4,g5,g6⟩:=G.out W hb;have hbw:=HBW.out;have hbR:=HL1.out _ HMR.out;refine⟨?_, ?_, ?_, ?_, ?_, ?_⟩<;>(repeat rw[World.cell?_setCell_other _ _ _ _ (by simp only[ne_eq,Addr.mk.injEq];simp at hbw;omega)])<;>assumption)
       clear a0 a1 a2 x0 x4 x5 q0 q1 q2 q3;go_wp2_with fail
       go_region_held3 (fun w'=>w'.cell? ⟨b,o+1,none⟩=some (.slice A0 p.Uz.length c0)∧w'.cell? ⟨b,o+2,none⟩=some (.slice (some ⟨bR,oR,none⟩) p.Fz.length c1)∧w'.cell? ⟨w.heap.size,0,none⟩=some (.int .i64 r.user)∧w'.cell? ⟨w.heap.size,4,none⟩=some (.string r.ref)∧w'.cell? ⟨w.heap.size,5,none⟩=some (.string r.path)∧w'.cell? ⟨bR,oR+k*4+2,none⟩=some (.int .i64 p.Fz[k].count))
        ((first|((with_reducible refine G.out _ ?_);(first|with_reducible exact HBd|with_reducible exact hB4|with_reducible exact hB5))|((with_reducible refine GS.out _ _ _ _ _ ?_);with_reducible exact hB5)))
        (first|(go_at_call 132;refine(je5 (l:=l) r.path _ (HLR.out _ HBd) HQF.out.path (jbw HLT.out) (by have:=HL60.out;omega)).mono ?_;rintro e w4 ⟨v4,rfl,ho4,hb4⟩;obtain⟨A4,c4,f4,hv4,hs4,_,_,_⟩:=Yp ho4;subst hv4;have hB4:=Below.past hb4;have HS4:=Ja hs4;clear hb4 hs4 ho4)|(go_at_call 70;refine(jiq (l:=Yq l r.path) (Uz:=p.Uz) r.user r.ref _ (H0.out _ (Below.t HB3.out hB4)) HS4.out HPF.out.Uz (jem HLT.out r.path) (by have:=HL60.out;have:=jel l r.path;omega)).mono ?_;rintro e w5 ⟨v5,rfl,ho5,hb5⟩;obtain⟨A5,c5,f5,hv5,hs5,hl5,hn5,hf5⟩:=Yp ho5;subst hv5;have HS5:=Ja hs5;have hB5:=Below.t hB4 hb5;have HL5:=Ja hl5;have HN5:=Ja hn5;have HF5:=Ja hf5;have ka:=HKA.out w5 (Below.t HB3.out hB5);have y0:=Jb ka 0;have d0:w5.cell? ⟨w.heap.size+1,0,none⟩=some (.int .i64 0):=ka.cell 0;have y1:=Jb ka 1;have d1:w5.cell? ⟨w.heap.size+1,1,none⟩=some (.slice none 0 0):=ka.cell 1;have y2:=Jb ka 2;have d2:w5.cell? ⟨w.heap.size+1,2,none⟩=some (.slice none 0 0):=ka.cell 2;have y3:=Jb ka 3;have d3:w5.cell? ⟨w.heap.size+1,3,none⟩=some (.int .i64 0):=ka.cell 3;have RR:=Ja (Xo ka (.int .i64 1) (.slice A5 (readable p.Uz r.user r.ref (Yq l r.path)).length c5) (.slice none 0 0) (.int .i64 p.Fz[k].count));clear ka hb5 hs5 hl5 hn5 hf5 ho5))
       all_goals
        obtain⟨R,RO⟩:=RR.out;go_wp2_with fail;generalize((((w5.setCell ⟨w.heap.size+1,0,none⟩ (.int .i64 1)).setCell ⟨w.heap.size+1,1,none⟩ (.slice A5 (readable p.Uz r.user r.ref (Yq l r.path)).length c5)).setCell ⟨w.heap.size+1,2,none⟩ (.slice none 0 0)).setCell ⟨w.heap.size+1,3,none⟩ (.int .i64 p.Fz[k].count))=WW at R RO ⊢;have e0:=Blk.c0 R;have e1:=Blk.c1 R;have e2:=Blk.c2 R
        have e3:=Blk.c3 R;refine bodyPost_ret (v:= .agg #[.int .i64 1,.slice A5 (readable p.Uz r.user r.ref (Yq l r.path)).length c5,.slice none 0 0,.int .i64 p.Fz[k].count]) (by simp[results,Tryz.results96,go_sem,e0,e1,e2,e3]) rfl ?_;rw[HE.out];have h12:=hB5.size;have h13:=hB4.size;have h14:=HB3.out.size;have h15:=HK0.out
        have hs5:=HS5.out.only RO (fun z hz hm=>by simp at hm;have:=HL5.out z hz;omega);exact⟨_,f5,rfl,⟨A5,_,c5,f5,none,0,0,[],rfl,by simp,hs5,SlR.nil⟩,HN5.out,fun z hz=>by have:=HL5.out z hz;omega,HF5.out.keep (fun z hz=>RO.block z (HS5.out.lt z hz) (by simp;have:=HL5.out z hz;omega)),V3 (Below.t HB0.out (Below.t HB3.out hB5)) RO (by omega)⟩
def jqt (b H:Nat) (f1:List Nat) (v:Value) (l:List Ref) (W:World) (e:Ending) (Wi:World):Prop:=
 ∃A n c fr,e= .returned (.slice A n c)∧SlR Rp.ref Wi A n c l fr∧(∀z cur t,Wi.heap[z]? =some (.cells cur t (0,0))→t≠52→z<H→z∉f1→z∉fr)∧W.grownBy Wi v.ownBlock∧Wi.heap[b]? =W.heap[b]?
theorem jjc {b i n c1 nb vb:Nat} {A1:Option Addr} {l:List Ref} {f1:List Nat} {s:ByteArray} {tN tV:TypeId} {cur:Array Value} {wx:World} (W:World) (hO:OwS Rp.refO 52 wx (.slice A1 n c1) l f1) (hnl:n=l.length) (hn:f1.Nodup) (hbf:b∉f1) (hbt:wx.heap[b]? =some (.cells cur 48 (0,0)))
  (hb:Below wx.heap.size wx W) (kn:Blk W nb tN #[.slice none 0 0]) (kv:Blk W vb tV #[.string s,.bool false,.int .i64 0,.slice (some ⟨nb,0,none⟩) 1 1]) (hnb:wx.heap.size≤nb) (hvb:wx.heap.size≤vb) (hi:i≤l.length) (hl:l.length≤4194304):
  Calls Tryz.prog 138 #[.slice A1 n c1,.int .i64 i,.slice (some ⟨vb,0,none⟩) 1 1] W (jqt b wx.heap.size f1 (.slice A1 n c1) (l.take i++⟨s,false,0,[[]]⟩::l.drop i) W):=by
 subst hnl;have hOW:=hO.step hb;obtain⟨xs,f2,ho,ha,rfl⟩:=hOW;have hbl:b<wx.heap.size:=(Array.getElem?_eq_some_iff.1 hbt).1;have hob: ∀z,(Value.slice A1 l.length c1).ownBlock=some z→z∈Vm (.slice A1 l.length c1):=fun z hz=>by unfold Vm;rw[hz];simp
 have hlt:=hO.lt;have hne: ∀z,wx.heap.size≤z→(Value.slice A1 l.length c1).ownBlock≠some z:=fun z hz e=>by have:=hlt z (List.mem_append_left _ (hob z e));omega
 refine(jnb 0 i l.length vb (.slice A1 l.length c1) xs [.string s,.bool false,.int .i64 0,.slice (some ⟨nb,0,none⟩) 1 1] tV W ho (Nat.zero_le _) hi rfl (by intro u hu;simp at hu;rcases hu with rfl|rfl|rfl|rfl<;>rfl) ha.one kv (hne vb hvb) hl).mono ?_;rintro e Wi ⟨v',rfl,ho',hg⟩
 have hbW:Wi.heap[b]? =W.heap[b]? :=hg.block b (Nat.lt_of_lt_of_le hbl hb.size) fun e=>hbf (List.mem_append_left _ (hob b e.symm));obtain⟨A,c,fr,rfl,hs,hbr⟩:=jps (y:=⟨s,false,0,[[]]⟩) ha hn hg hi (ref_new s kn) (fun z hz=>by simp at hz;subst hz;exact fun hm=>by have:=hlt _ (List.mem_append_left _ hm);omega) ho' rfl
 exact⟨A,_,c,fr,rfl,hs,fun z cur t h1 h2 h3 h4=>hbr z cur t h1 h2 (fun h=>h4 (List.mem_append_right _ h)) (fun h=>by simp at h;omega),hg,hbW⟩
theorem jjo {b i n c1:Nat} {A1:Option Addr} {l:List Ref} {f1:List Nat} {cur:Array Value} (W:World) (hO:OwS Rp.refO 52 W (.slice A1 n c1) l f1) (hnl:n=l.length) (hn:f1.Nodup) (hbf:b∉f1) (hbt:W.heap[b]? =some (.cells cur 48 (0,0))) (hi:i<l.length) (hl:l.length≤4194304):
  Calls Tryz.prog 139 #[.slice A1 n c1,.int .i64 i,.int .i64 ((i:Int)+1)] W (jqt b W.heap.size f1 (.slice A1 n c1) (l.eraseIdx i) W):=by
 subst hnl;obtain⟨xs,f2,ho,ha,rfl⟩:=hO;have hbl:b<W.heap.size:=(Array.getElem?_eq_some_iff.1 hbt).1;have hob: ∀z,(Value.slice A1 l.length c1).ownBlock=some z→z∈Vm (.slice A1 l.length c1):=fun z hz=>by unfold Vm;rw[hz];simp
 refine(jnj 0 i l.length (.slice A1 l.length c1) xs W ho hi ha.one hl).mono ?_;rintro e Wi ⟨v',rfl,ho',hg⟩;have hbW:Wi.heap[b]? =W.heap[b]? :=hg.block b hbl fun e=>hbf (List.mem_append_left _ (hob b e.symm));obtain⟨A,c,fr,rfl,hs,hbr⟩:=jpt ha hn hg hi ho' rfl;exact⟨A,_,c,fr,rfl,hs,fun z cur t h1 h2 _ h4=>hbr z cur t h1 h2 (fun h=>h4 (List.mem_append_right _ h)),hg,hbW⟩
theorem jm1 {b o:Nat} {p:Xq} {r:Req} {cr cs:List Value} {f fr:List Nat} {cur:Array Value} (w:World) (hc:Cells w b o cr) (hbt:w.heap[b]? =some (.cells cur 48 (0,0))) (hbf:b∉f) (hn:f.Nodup) (hfr:Free w f) (hp:Rp.repoO.R w cr p f) (hr:Rp.req.R w cs r fr) (hP:RepoFit p) (hQ:ReqFit r):
  Calls Tryz.prog 98 #[.pointer (some ⟨b,o,none⟩),.agg cs.toArray] w (jeh w b o f (manage p r).1 (manage p r).2):=by
 obtain⟨E0,m0,d0,e0,rfl,_,hq⟩:=hr;obtain rfl:=hq.1;have hpw:=hp;obtain⟨A0,n0,c0,f0,v,f1,rfl,hff,h0,h1⟩:=hp;have hnf1:f1.Nodup:=by subst hff;exact(List.nodup_append.1 hn).2.1
 have hff1:Free w f1:=by subst hff;exact hfr.right
 have hbf1:b∉f1:=by subst hff;exact fun h=>hbf (List.mem_append_right _ h)
 obtain⟨A1,c1,fs1,rfl,hs1,hsub1,hlc1,hcm1⟩:=h1.sl;obtain⟨fr1,hs1r,hsub1r⟩:=hs1.le jbl;obtain rfl:=h0.1;have hbl:b<w.heap.size:=(Array.getElem?_eq_some_iff.1 hbt).1;have hmr:=hs1.max;have hmu:=h0.max;have HB0:=(Below.refl w.heap.size w).alloc nle (.cells (RA r (.slice E0 r.Ez.length d0)) 31);have kq:=Blk.new w 31 (RA r (.slice E0 r.Ez.length d0))
 have HZ0:=Ja (show(w.alloc (.cells (RA r (.slice E0 r.Ez.length d0)) 31)).heap.size=w.heap.size+1 by simp);have HCW:=Ja hc;have HPW:=Ja hpw;have HBL:=Ja hbl;have HBF:=Ja hbf;have HN:=Ja hn;have HBT:=Ja hbt;have HPF:=Ja hP;have HQF:=Ja hQ;have HFZ:=Ja (fun(W:World) (hb:Below w.heap.size w W) (j:Nat)=>(show W.frozen? ⟨b,j,none⟩=false from by
  have e:=(hb.block b HBL.out).trans HBT.out;simp[World.frozen?,e]))
 have HCx:=Ja (fun(W:World) (hb:Below w.heap.size w W)=>(show W.cell? ⟨b,o,none⟩=some (.int .i64 p.Az)∧W.cell? ⟨b,o+1,none⟩=some (.slice A0 p.Uz.length c0)∧W.cell? ⟨b,o+2,none⟩=some (.slice A1 p.Fz.length c1) from
  ⟨Je hc.at0 hb,Je hc.tail.at0 hb,Je hc.tail.tail.at0 hb⟩))
 have H0x:=Ja (fun(W:World) (hb:Below w.heap.size w W)=>h0.step hb);have H1x:=Ja (fun(W:World) (hb:Below w.heap.size w W)=>h1.step hb);have HSx:=Ja (fun(W:World) (hb:Below w.heap.size w W)=>hs1r.step hb);have HPPx:=Ja (fun(W:World) (hb:Below w.heap.size w W)=>Rp.repoO.below hpw hb nle)
 have HF1:=Ja (show f1.Nodup∧Free w f1∧b∉f1∧(∀z∈fr1,z∈f1)∧∀z∈f1,z∈f from⟨hnf1,hff1,hbf1,fun z hz=>hsub1.subset (hsub1r.subset hz),fun z hz=>by subst hff;exact List.mem_append_right _ hz⟩);have HL:=Ja (show p.Uz.length≤6∧p.Fz.length≤3 from⟨hP.nrules,hP.nrefs⟩);clear hc hbt hbf hn hfr hpw hff h0 h1 hnf1 hff1 hbf1 hs1 hsub1 hlc1 hcm1 hs1r hsub1r hbl hP hQ hq;go_enter Tryz.func98,Tryz.ntmps98
 go_upto_region 1 with fail
 generalize hW0:w.alloc (.cells (RA r (.slice E0 r.Ez.length d0)) 31)=w0 at HB0 kq HZ0 ⊢;clear hW0;have HKQ:=Ja (fun(W:World) (hb:Below w0.heap.size w0 W)=>kq.step hb);have HB0:=Ja HB0;have HC:=Ja (fun(W:World) (hb:Below w0.heap.size w0 W)=>HCx.out W (Below.t HB0.out hb));clear kq;have a0:w0.cell? ⟨b,o,none⟩=some (.int .i64 p.Az):=(HC.out w0 (Below.refl _ _)).1
 have a1:w0.cell? ⟨b,o+1,none⟩=some (.slice A0 p.Uz.length c0):=(HC.out w0 (Below.refl _ _)).2.1;have a2:w0.cell? ⟨b,o+2,none⟩=some (.slice A1 p.Fz.length c1):=(HC.out w0 (Below.refl _ _)).2.2;have x4:=Blk.c4 (HKQ.out w0 (Below.refl _ _));go_upto_region 1 with fail
 go_cut [5] (fun v wx=>v= .int .i64 (jd4 (Xx r.ref) p.Fz)∧Below w0.heap.size w0 wx)
 case first=>
  go_region_law (first
   |(refine J9 rfl 121 (enters_of Tryz.func121 (by kernel_rfl) rfl) rfl _ (by simp[Act.eval,Act.put]) ((jbh (x:=p) r.ref _ ((jc5.2 _ _ _ _ (HPPx.out _ (Below.t HB0.out (by first|exact(Below.refl _ _).drew|exact Below.refl _ _|exact((Below.refl _ _).drew).alloc nle _|exact((Below.refl _ _).alloc nle _).drew|exact(Below.refl _ _).alloc nle _)))).choose_spec.1)).mono ?_);rintro e w2 ⟨rfl,hb2⟩;refine⟨_,rfl, ?_⟩)
   |fail)
  all_goals
   go_wp2_with fail;go_meet
   case rel=>exact⟨rfl,Below.past hb2⟩
 case rest=>
  obtain⟨wz,hwz⟩: ∃wz,wz=wc:=⟨_,rfl⟩;subst hwz;obtain⟨rfl,hb1⟩:=hcut;have HB1:=Ja hb1;clear hb1 a0 a1 a2 x4;have a0:wz.cell? ⟨b,o,none⟩=some (.int .i64 p.Az):=(HC.out wz HB1.out).1;have a1:wz.cell? ⟨b,o+1,none⟩=some (.slice A0 p.Uz.length c0):=(HC.out wz HB1.out).2.1;have a2:wz.cell? ⟨b,o+2,none⟩=some (.slice A1 p.Fz.length c1):=(HC.out wz HB1.out).2.2;by_cases k4:r.kind=4
  ·have K4:=Ja k4;have x3:wz.cell? ⟨w.heap.size,3,none⟩=some (.int .i64 4):=by rw[←k4];exact(HKQ.out wz HB1.out).cell 3
   clear k4;by_cases h6:p.Uz.length=6
   ·have HE:=Ja (show manage p r=(p,9) by unfold manage;rw[if_pos K4.out,if_pos h6]);have h6i:(p.Uz.length:Int)=6:=by omega
    clear h6;go_wp2_with fail;go_ret;rw[HE.out];exact V6 9 HCW.out HPW.out HBL.out (Below.t HB0.out HB1.out)
   ·have h6i: ¬(p.Uz.length:Int)=6:=by omega
    have H6:=Ja h6;clear h6;have x9:=Blk.c9 (HKQ.out wz HB1.out);have x10:=Blk.c10 (HKQ.out wz HB1.out);have x11:=Blk.c11 (HKQ.out wz HB1.out);have x12:=Blk.c12 (HKQ.out wz HB1.out);go_upto_region 6 with fail
    go_cut [6,7] (fun v wv wx=>∃A n c fr,v= .slice A n c∧wv= .bool (Zc p.Uz r.rule)∧SlR Rp.rule wx A n c (Yk p.Uz r.rule) fr∧(∀z∈fr,w.heap.size≤z)∧Below w0.heap.size w0 wx)
    case first=>
     go_region_law (first
      |(refine J9 rfl 136 (enters_of Tryz.func136 (by kernel_rfl) rfl) rfl _ (by simp[Act.eval,Act.put,Jh]) ((jgi (l:=p.Uz) r.rule _ (H0x.out _ (Below.t HB0.out (Below.t HB1.out (by first|exact(Below.refl _ _).drew|exact Below.refl _ _|exact((Below.refl _ _).drew).alloc nle _|exact((Below.refl _ _).alloc nle _).drew|exact(Below.refl _ _).alloc nle _)))) (by have:=HL.out.1;omega) HPF.out.Uz HQF.out.rule).mono ?_);rintro e w4 ⟨v4,rfl,ho4,hb4⟩;refine⟨_,rfl, ?_⟩)
      |fail)
     all_goals
      go_wp2_with fail;go_meet
      case rel=>(obtain⟨A4,c4,f4,hv4,hs4,hl4,_,_⟩:=Xw (k:=4) (enc:=Jh) (hk:=fun _=>rfl) (h1:=Y9) ho4;exact⟨A4,_,c4,f4,hv4,rfl,hs4,fun z hz=>Nat.le_trans (Below.t HB0.out (Below.t HB1.out (Below.refl _ _))).size (hl4 z hz),Below.t HB1.out (Below.past hb4)⟩)
    case rest=>
     obtain⟨wz,hwz⟩: ∃wz,wz=wc:=⟨_,rfl⟩;subst hwz;obtain⟨A4,n4,c4,f4,rfl,rfl,hs4,hl4,hb4⟩:=hcut;have HB4:=Ja hb4;have HS4:=Ja hs4;have HL4:=Ja hl4;clear hb4 hs4 hl4 a0 a1 a2 x3 x9 x10 x11 x12;cases hok:Zc p.Uz r.rule
     ·have HE:=Ja (show manage p r=(p,7) by unfold manage;rw[if_pos K4.out,if_neg H6.out];simp[hok]);clear hok;go_wp2_with fail;go_ret;rw[HE.out];exact V6 7 HCW.out HPW.out HBL.out (Below.t HB0.out HB4.out)
     ·have HE:=Ja (show manage p r=({ p with Uz:=Yk p.Uz r.rule},1) by unfold manage;rw[if_pos K4.out,if_neg H6.out];simp[hok]);clear hok;have a0:wz.cell? ⟨b,o,none⟩=some (.int .i64 p.Az):=(HC.out wz HB4.out).1;have a1:wz.cell? ⟨b,o+1,none⟩=some (.slice A0 p.Uz.length c0):=(HC.out wz HB4.out).2.1
      have a2:wz.cell? ⟨b,o+2,none⟩=some (.slice A1 p.Fz.length c1):=(HC.out wz HB4.out).2.2;have y1:wz.frozen? ⟨b,o+1,none⟩=false:=HFZ.out wz (Below.t HB0.out HB4.out) (o+1);go_wp2_with fail;go_ret;rw[HE.out];exact jdo 1 HCW.out HPW.out HBL.out HBF.out (Below.t HB0.out HB4.out) HS4.out HL4.out
  have K4:=Ja k4;by_cases k5:r.kind=5
  ·have K5:=Ja k5;have x3:wz.cell? ⟨w.heap.size,3,none⟩=some (.int .i64 5):=by rw[←k5];exact(HKQ.out wz HB1.out).cell 3
   clear k5 k4;have x9:=Blk.c9 (HKQ.out wz HB1.out);have x10:=Blk.c10 (HKQ.out wz HB1.out);have x11:=Blk.c11 (HKQ.out wz HB1.out);have x12:=Blk.c12 (HKQ.out wz HB1.out);go_upto_region 12 with fail
   go_cut [8,9] (fun v wv wx=>∃A n c fr,v= .slice A n c∧wv= .bool (decide ((Yy p.Uz r.rule).length<p.Uz.length))∧SlR Rp.rule wx A n c (Yy p.Uz r.rule) fr∧(∀z∈fr,w.heap.size≤z)∧Below w0.heap.size w0 wx)
   case first=>
    go_region_law (first
     |(refine J9 rfl 137 (enters_of Tryz.func137 (by kernel_rfl) rfl) rfl _ (by simp[Act.eval,Act.put,Jh]) ((jgj (l:=p.Uz) r.rule _ (H0x.out _ (Below.t HB0.out (Below.t HB1.out (by first|exact(Below.refl _ _).drew|exact Below.refl _ _|exact((Below.refl _ _).drew).alloc nle _|exact((Below.refl _ _).alloc nle _).drew|exact(Below.refl _ _).alloc nle _)))) (by have:=HL.out.1;omega)).mono ?_);rintro e w4 ⟨v4,rfl,ho4,hb4⟩;refine⟨_,rfl, ?_⟩)
     |fail)
    all_goals
     go_wp2_with fail;go_meet
     case rel=>(obtain⟨A4,c4,f4,hv4,hs4,hl4,_,_⟩:=Xw (k:=4) (enc:=Jh) (hk:=fun _=>rfl) (h1:=Y9) ho4;exact⟨A4,_,c4,f4,hv4,rfl,hs4,fun z hz=>Nat.le_trans (Below.t HB0.out (Below.t HB1.out (Below.refl _ _))).size (hl4 z hz),Below.t HB1.out (Below.past hb4)⟩)
   case rest=>
    obtain⟨wz,hwz⟩: ∃wz,wz=wc:=⟨_,rfl⟩;subst hwz;obtain⟨A4,n4,c4,f4,rfl,rfl,hs4,hl4,hb4⟩:=hcut;have HB4:=Ja hb4;have HS4:=Ja hs4;have HL4:=Ja hl4;clear hb4 hs4 hl4 a0 a1 a2 x3 x9 x10 x11 x12;cases hok:decide ((Yy p.Uz r.rule).length<p.Uz.length)
    ·have HE:=Ja (show manage p r=(p,7) by unfold manage;rw[if_neg K4.out,if_pos K5.out];rw[if_neg (by simpa using hok)]);clear hok;go_wp2_with fail;go_ret;rw[HE.out];exact V6 7 HCW.out HPW.out HBL.out (Below.t HB0.out HB4.out)
    ·have HE:=Ja (show manage p r=({ p with Uz:=Yy p.Uz r.rule},1) by unfold manage;rw[if_neg K4.out,if_pos K5.out];rw[if_pos (by simpa using hok)]);clear hok;have a0:wz.cell? ⟨b,o,none⟩=some (.int .i64 p.Az):=(HC.out wz HB4.out).1;have a1:wz.cell? ⟨b,o+1,none⟩=some (.slice A0 p.Uz.length c0):=(HC.out wz HB4.out).2.1
     have a2:wz.cell? ⟨b,o+2,none⟩=some (.slice A1 p.Fz.length c1):=(HC.out wz HB4.out).2.2;have y1:wz.frozen? ⟨b,o+1,none⟩=false:=HFZ.out wz (Below.t HB0.out HB4.out) (o+1);go_wp2_with fail;go_ret;rw[HE.out];exact jdo 1 HCW.out HPW.out HBL.out HBF.out (Below.t HB0.out HB4.out) HS4.out HL4.out
  have K5:=Ja k5;rcases Zu (Xx r.ref) p.Fz with ⟨hn,he⟩|⟨k,hn,hk,he⟩
  ·rw[he];clear he;have HNF:=Ja (show Y7 p.Fz r.ref=none from hn);clear hn;by_cases k6:r.kind=6
   ·have K6:=Ja k6;have x3:wz.cell? ⟨w.heap.size,3,none⟩=some (.int .i64 6):=by rw[←k6];exact(HKQ.out wz HB1.out).cell 3
    clear k6 k5 k4;have x4:=Blk.c4 (HKQ.out wz HB1.out);have hie:r.ref.toList.isEmpty=decide (r.ref=ByteArray.empty):=Ju r.ref;cases hbz:decide (r.ref=ByteArray.empty)
    ·have HBZ:=Ja (of_decide_eq_false hbz);rw[hbz] at hie;clear hbz;by_cases h3:p.Fz.length=3
     ·have HE:=Ja (show manage p r=(p,9) by unfold manage;rw[if_neg K4.out,if_neg K5.out,HNF.out];simp only[if_pos K6.out,if_neg HBZ.out,if_pos h3]);have h3i:(p.Fz.length:Int)=3:=by omega
      clear h3;go_wp2_with fail;go_ret;rw[HE.out];exact V6 9 HCW.out HPW.out HBL.out (Below.t HB0.out HB1.out)
     ·have HE:=Ja (show manage p r=({ p with Fz:=Zm (fun x=>bLt x.name r.ref) ⟨r.ref,false,0,[[]]⟩ p.Fz},1) by unfold manage;rw[if_neg K4.out,if_neg K5.out,HNF.out];simp only[if_pos K6.out,if_neg HBZ.out,if_neg h3]);have h3i: ¬(p.Fz.length:Int)=3:=by omega
      clear h3;go_wp2_with fail;clear hie h3i x3 x4 a0 a1 a2
      go_loopw [5] (fun a wr=>∃m:Nat,m≤p.Fz.length∧a= .int .i64 m∧lessR p.Fz r.ref m∧Below w0.heap.size w0 wr) (fun a _=>p.Fz.length - (intOf a).toNat)
      case atStart=>exact⟨0,Nat.zero_le _,rfl,lessR.zero,HB1.out⟩
      case round=>
       obtain⟨wp,hwp⟩: ∃wp,wp=wr:=⟨_,rfl⟩;subst hwp;obtain⟨m,hm',rfl,hless,hbi⟩:=hrel;have HLS:=Ja hless;have HBI:=Ja hbi;clear hless hbi;have a2:wp.cell? ⟨b,o+2,none⟩=some (.slice A1 p.Fz.length c1):=(HC.out wp HBI.out).2.2;have x4:=Blk.c4 (HKQ.out wp HBI.out);have j0:(0:Int)≤(m:Int):=by omega
       by_cases hyes: ∃hms:m<p.Fz.length,bLt p.Fz[m].name r.ref=true
       ·obtain⟨hms,hd⟩:=hyes;have j1:(m:Int)<(p.Fz.length:Int):=by omega
        obtain⟨bR,oR,B9,m9,d9,g9,rfl,hbR,hmR,q0,q1,q2,q3,_,_⟩:=J3 (HSx.out wp (Below.t HB0.out HBI.out)) hms;have HNX:=Ja (HLS.out.next hms hd);unfold bLt at hd;clear hbR hmR q1 q2 q3;go_wp2_with fail;go_quiet(fail);go_wp2;exact⟨⟨m+1,by omega,by go_num,HNX.out,Below.drewN' HBI.out _⟩,by simp[intOf];omega⟩
       ·have HNX:=Ja (show ∀hi:m<p.Fz.length,bLt p.Fz[m].name r.ref=false from fun hi=>by
         cases hd:bLt p.Fz[m].name r.ref
         ·rfl
         ·exact absurd ⟨hi,hd⟩ hyes)
        clear hyes;by_cases hlm:m<p.Fz.length
        case' pos=>
         obtain⟨bR,oR,B9,m9,d9,g9,rfl,hbR,hmR,q0,q1,q2,q3,_,_⟩:=J3 (HSx.out wp (Below.t HB0.out HBI.out)) hlm;have j1:(m:Int)<(p.Fz.length:Int):=by omega
         have hd:=HNX.out hlm;unfold bLt at hd;clear hbR hmR q1 q2 q3;go_wp2_with fail;go_quiet(fail);clear hd q0 j1
        case' neg=>
         have j1: ¬(m:Int)<(p.Fz.length:Int):=by omega
         go_wp2_with fail;go_quiet(fail);clear j1
        all_goals
         have HBX:=Ja (Below.drewN' HBI.out nq);generalize hwx:wp.drewN nq=wx at HBX ⊢;clear hwx HBI a2 x4;have HINS:=Ja (show p.Fz.take m++⟨r.ref,false,0,[[]]⟩::p.Fz.drop m=Zm (fun x=>bLt x.name r.ref) ⟨r.ref,false,0,[[]]⟩ p.Fz from
          (jck (lt:=fun x:Ref=>bLt x.name r.ref) (x:=⟨r.ref,false,0,[[]]⟩) (l:=p.Fz) (k:=m) HLS.out hm' HNX.out).symm)
         have a2:wx.cell? ⟨b,o+2,none⟩=some (.slice _ p.Fz.length c1):=(HC.out wx HBX.out).2.2;have x4:=Blk.c4 (HKQ.out wx HBX.out);have HSZW:=Ja (Below.t HB0.out HBX.out).size;have HO:=Ja (H1x.out wx (Below.t HB0.out HBX.out));have HBTX:=Ja (((Below.t HB0.out HBX.out).block b HBL.out).trans HBT.out);have g4:=fun(y:Obj)=>J6 x4 y;have g2:=fun(y:Obj)=>J6 a2 y
         have g22:=fun(y z:Obj)=>J6 (J6 a2 y) z;clear HSx H1x;go_wp2_with fail;refine Xs fun K hK=> ?_;have HKK:=Ja hK;clear hK
         go_region_law (first
          |(refine J9 rfl 138 (enters_of Tryz.func138 (by kernel_rfl) rfl) rfl _ (by simp[Act.eval,Act.put]) ((jjc (b:=b) (l:=p.Fz) (nb:=wx.heap.size) (vb:=wx.heap.size+1) _ HO.out rfl HF1.out.1 HF1.out.2.2.1 HBTX.out (by repeat' first|exact Below.refl _ _|apply Below.drew|(refine Below.alloc ?_ (by simp) _)) (by first|exact(Blk.new' rfl _ _).alloc _|exact(Blk.new' (by simp) _ _).alloc _) (by first|exact Blk.new' rfl _ _|exact Blk.new' (by simp) _ _) (by simp) (by simp) hm' (by have:=HL.out.2;omega)).mono ?_);rintro e w6 ⟨A6,n6,c6,f6,rfl,hs6,hn6,hg6,hb6⟩;refine⟨_,rfl, ?_⟩;have HS6:=Ja hs6;have HN6:=Ja hn6;have HG6:=Ja hg6;have HB6:=Ja (hb6.trans ((show Below wx.heap.size wx _ by repeat' first|exact Below.refl _ _|apply Below.drew|(refine Below.alloc ?_ (by simp) _)).block b (Nat.lt_of_lt_of_le HBL.out (Below.t HB0.out HBX.out).size)));clear hs6 hn6 hg6 hb6 g4 g2 g22;have z2:w6.cell? ⟨b,o+2,none⟩=some (.slice _ p.Fz.length c1):=(World.cell?_of_block (a:=⟨b,o+2,none⟩) HB6.out).trans a2;have zf:w6.frozen? ⟨b,o+2,none⟩=false:=by have e:=HB6.out.trans HBTX.out;simp[World.frozen?,e])
          |fail)
         all_goals
          refine HKK.out _ _ ?_;clear HKK K;go_wp2_with fail;go_ret;rw[HE.out,←HINS.out]
          exact jes 1 HCW.out HPW.out HN.out HBF.out HBT.out (Below.t HB0.out (Below.t HBX.out (by repeat' first|exact Below.refl _ _|apply Below.drew|(refine Below.alloc ?_ (by simp) _)))) HG6.out HS6.out (fun z cur t h1 h2 h3 h4=>HN6.out z cur t h1 h2 (Nat.lt_of_lt_of_le h3 HSZW.out) (fun h=>h4 (HF1.out.2.2.2.2 z h)))
    ·have HBZ:=Ja (of_decide_eq_true hbz);rw[hbz] at hie;clear hbz;have HE:=Ja (show manage p r=(p,7) by unfold manage;rw[if_neg K4.out,if_neg K5.out,HNF.out];simp only[if_pos K6.out,if_pos HBZ.out]);go_wp2_with fail;go_ret;rw[HE.out];exact V6 7 HCW.out HPW.out HBL.out (Below.t HB0.out HB1.out)
   ·have K6:=Ja k6;have HE:=Ja (show manage p r=(p,5) by unfold manage;rw[if_neg K4.out,if_neg K5.out,HNF.out];simp only[if_neg K6.out]);have x3:=Blk.c3 (HKQ.out wz HB1.out);go_wp2_with fail;go_ret;rw[HE.out];exact V6 5 HCW.out HPW.out HBL.out (Below.t HB0.out HB1.out)
  ·rw[he];clear he;have HNF:=Ja (show Y7 p.Fz r.ref=some k from hn);clear hn;have i0:(0:Int)≤(k:Int):=by omega
   have i1:(k:Int)<(p.Fz.length:Int):=by omega
   have i2: ¬(k:Int)<0:=by omega
   by_cases k6:r.kind=6
   ·have K6:=Ja k6;have HE:=Ja (show manage p r=(p,7) by unfold manage;rw[if_neg K4.out,if_neg K5.out,HNF.out];simp only[if_pos K6.out]);have x3:wz.cell? ⟨w.heap.size,3,none⟩=some (.int .i64 6):=by rw[←k6];exact(HKQ.out wz HB1.out).cell 3
    clear k6 k5 k4;go_wp2_with fail;go_ret;rw[HE.out];exact V6 7 HCW.out HPW.out HBL.out (Below.t HB0.out HB1.out)
   have K6:=Ja k6;obtain⟨bR,oR,B9,m9,d9,g9,rfl,hbR,hmR,q0,q1,q2,q3,_,_⟩:=J3 (HSx.out wz (Below.t HB0.out HB1.out)) hk;have yR:wz.frozen? ⟨bR,oR+k*4+1,none⟩=false:=Free.frozen (HF1.out.2.1.step (Below.t HB0.out HB1.out)) (HF1.out.2.2.2.1 _ hmR) _;clear hbR hmR q0 q2 q3;by_cases k8:r.kind=8
   ·have K8:=Ja k8;have HE:=Ja (show manage p r=({ p with Fz:=p.Fz.set k { p.Fz[k] with guard:= !p.Fz[k].guard}},1) by unfold manage;rw[if_neg K4.out,if_neg K5.out,HNF.out];simp only[if_neg K6.out,if_pos K8.out,J4 hk]);have x3:wz.cell? ⟨w.heap.size,3,none⟩=some (.int .i64 8):=by rw[←k8];exact(HKQ.out wz HB1.out).cell 3
    clear k8 k6 k5 k4;go_wp2_with fail;refine Xs fun K hK=> ?_;have HKK:=Ja hK;clear hK
    go_region_law (first
     |fail)
    all_goals
     refine HKK.out _ _ ?_;clear HKK K;go_wp2_with fail;go_ret;rw[HE.out];exact jhs 1 HCW.out HPW.out HN.out HBL.out HBF.out (Below.t HB0.out (Below.t HB1.out (Below.refl _ _).drew)) hk
   have K8:=Ja k8;have x3:=Blk.c3 (HKQ.out wz HB1.out);cases hg:p.Fz[k].guard
   ·rw[hg] at q1;have HE:=Ja (show manage p r=({ p with Fz:=p.Fz.eraseIdx k},1) by unfold manage;rw[if_neg K4.out,if_neg K5.out,HNF.out];simp only[if_neg K6.out,if_neg K8.out,J4 hk,hg];rfl);have HSZW:=Ja (Below.t HB0.out HB1.out).size;have hw:IntKind.i64.wrap ((k:Int)+1)=(k:Int)+1:=IntWalk.i64_in _ (by have:=HL.out.2;omega);clear hg;go_wp2_with fail
    refine(jjo (b:=b) (l:=p.Fz) _ (H1x.out wz (Below.t HB0.out HB1.out)) rfl HF1.out.1 HF1.out.2.2.1 (((Below.t HB0.out HB1.out).block b HBL.out).trans HBT.out) hk (by have:=HL.out.2;omega)).mono ?_;rintro e w6 ⟨A6,n6,c6,f6,rfl,hs6,hn6,hg6,hb6⟩;have HS6:=Ja hs6;have HN6:=Ja hn6;have HG6:=Ja hg6;have HB6:=Ja hb6;clear hs6 hn6 hg6 hb6
    have z2:w6.cell? ⟨b,o+2,none⟩=some (.slice _ p.Fz.length c1):=(World.cell?_of_block (a:=⟨b,o+2,none⟩) HB6.out).trans a2;have zf:w6.frozen? ⟨b,o+2,none⟩=false:=by have e:=HB6.out.trans (((Below.t HB0.out HB1.out).block b HBL.out).trans HBT.out);simp[World.frozen?,e]
    go_wp2_with fail;go_ret;rw[HE.out];exact jes 1 HCW.out HPW.out HN.out HBF.out HBT.out (Below.t HB0.out HB1.out) HG6.out HS6.out (fun z cur t h1 h2 h3 h4=>HN6.out z cur t h1 h2 (Nat.lt_of_lt_of_le h3 HSZW.out) (fun h=>h4 (HF1.out.2.2.2.2 z h)))
   ·rw[hg] at q1;have HE:=Ja (show manage p r=(p,8) by unfold manage;rw[if_neg K4.out,if_neg K5.out,HNF.out];simp only[if_neg K6.out,if_neg K8.out,J4 hk,hg];rfl);clear hg;go_wp2_with fail;go_ret;rw[HE.out];exact V6 8 HCW.out HPW.out HBL.out (Below.t HB0.out HB1.out)
def Did (w:World) (ch:List Value) (fp:List Nat) (o:Jl×Ans) (e:Ending) (w':World):Prop:=
 ∃av f,e= .returned (.agg av.toArray)∧Rp.ans.R w' av o.2 f∧f.Nodup∧(∀z∈f,w.heap.size≤z)∧Free w' f∧(∃fp',Rp.house.R w' ch o.1 fp')∧Only fp w w'
theorem Wo (k:Int) (w:World):Rp.ans.R w [.int .i64 k,.slice none 0 0,.slice none 0 0,.int .i64 0] (code k) []:=⟨none,0,0,[],none,0,0,[],rfl,rfl,SlR.nil,SlR.nil⟩
theorem jcm {w W WW:World} {ch av:List Value} {m:Jl} {a:Ans} {fp f:List Nat} {g:Nat} (hh:Rp.houseO.R w ch m fp) (hB:Below w.heap.size w W) (hO:Only [g] W WW) (hg:w.heap.size≤g) (ha:Rp.ans.R WW av a f) (hn:f.Nodup) (hl: ∀z∈f,w.heap.size≤z) (hf:Free WW f):
  Did w ch fp (m,a) (.returned (.agg av.toArray)) WW:=by
 have hb:=V3 hB hO hg;obtain⟨f',hf',_⟩:=V8.2 _ _ _ _ (Rp.houseO.below hh hb nle);exact⟨av,f,rfl,ha,hn,hl,hf,⟨f',hf'⟩,Only.of_below hb _⟩
theorem jjn {w wc W W2 WW:World} {ch:List Value} {m':Jl} {fp:List Nat} {k:Int} {g:Nat} {e:Ending} {cs:Array Value} (hfp: ∀z∈fp,z<w.heap.size) (hB:Below w.heap.size w wc) (hw:Wrote wc ch fp m' k e W) (hka:Blk wc g 37 cs) (hB2:Below W.heap.size W W2) (hO:Only [g] W2 WW) (hg:w.heap.size≤g):
  Did w ch fp (m',code k) (.returned (.agg #[.int .i64 k,.slice none 0 0,.slice none 0 0,.int .i64 0])) WW:=by
 obtain⟨_,⟨fq,hq,hcl⟩,ho⟩:=hw;have hgf:g∉fp:=fun h=>by have:=hfp g h;omega
 have hgW:W.heap[g]? =some (.cells cs 37 (0,0)):=(ho.block g hka.lt hgf).trans hka.out;have hgq:g∉fq:=hcl g cs hgW hka.lt hgf;refine⟨[.int .i64 k,.slice none 0 0,.slice none 0 0,.int .i64 0],[],rfl,Wo k _,List.nodup_nil,by simp,Free.nil _,⟨fq, ?_⟩, ?_⟩
 ·exact Rp.house.keep hq fun z hz=>(hO.block z (Nat.lt_of_lt_of_le (Rp.house.lt hq z hz) hB2.size) (by simp;rintro rfl;exact hgq hz)).trans (hB2.block z (Rp.house.lt hq z hz))
 ·refine⟨hO.os.trans (hB2.os.trans (ho.os.trans hB.os)),hO.tape.trans (hB2.tape.trans (ho.tape.trans hB.tape)),hO.output.trans (hB2.output.trans (ho.output.trans hB.output)),Nat.le_trans hB.size (Nat.le_trans ho.size (Nat.le_trans hB2.size hO.size)),fun z hz hm=> ?_⟩;have h1:=Nat.lt_of_lt_of_le hz hB.size;have h2:=Nat.lt_of_lt_of_le h1 ho.size
  exact(hO.block z (Nat.lt_of_lt_of_le h2 hB2.size) (by simp;omega)).trans ((hB2.block z h2).trans ((ho.block z h1 hm).trans (hB.block z hz)))
theorem jg8 {w wc W:World} {ch:List Value} {m:Jl} {fp:List Nat} {i:Nat} {p':Xq} {k:Int} {e:Ending} {b:Nat} {f f1:List Nat} {A1:Option Addr} {n1 c1:Nat} (hfp: ∀z∈fp,z<w.heap.size) (hB:Below w.heap.size w wc) (hm:jeh wc b (i*3) f p' k e W) (hsub: ∀z∈f,z∈fp) (hbm:b∈fp) (h1:SlR Rp.int w A1 n1 c1 m.used f1) (hd1: ∀z∈f1,z∈fp∧z≠b∧z∉f)
  (hcl: ∀(w':World) (cr':List Value) (y:Xq) (f':List Nat) (u':List Int) (fu:List Nat),(∀j,j<i*3∨i*3+3≤j→w'.cell? ⟨b,j,none⟩=w.cell? ⟨b,j,none⟩)→b<w'.heap.size→
    Cells w' b (i*3) cr'→Rp.repo.R w' cr' y f'→SlR Rp.int w' A1 n1 c1 u' fu→(∀z∈fp,z≠b→z∉f→z∉f1→w'.heap[z]? =w.heap[z]?)→∃fp',Rp.house.R w' ch ⟨m.keys,u',m.Rz.set i y⟩ fp'∧∀z∈fp',z∈fp∨z∈f'∨z∈fu):
  Wrote wc ch fp { m with Rz:=m.Rz.set i p'} k e W:=by
 obtain⟨he,cr',f',hc,hr,hclr,hj,ho⟩:=hm;have hblk: ∀z,z<w.heap.size→z≠b→z∉f→W.heap[z]? =w.heap[z]? :=fun z hz hzb hzf=>(ho.block z (Nat.lt_of_lt_of_le hz hB.size) (by simp[hzb,hzf])).trans (hB.block z hz)
 obtain⟨fq,hq,hqm⟩:=hcl W cr' p' f' m.used f1 (fun j hj'=>(hj j hj').trans (World.cell?_of_block (a:=⟨b,j,none⟩) (hB.block b (hfp b hbm)))) (Nat.lt_of_lt_of_le (hfp b hbm) (Nat.le_trans hB.size ho.size)) hc hr (h1.keep fun z hz=>hblk z (hfp z (hd1 z hz).1) (hd1 z hz).2.1 (hd1 z hz).2.2)
  fun z hz hzb hzf _=>hblk z (hfp z hz) hzb hzf
 refine⟨he,⟨fq,hq,fun z cur hz hzl hzn hm=> ?_⟩,ho.mono fun x hx=> ?_⟩
 ·rcases hqm z hm with hm|hm|hm
  ·exact hzn hm
  ·exact hclr z cur hz hzl (fun h=>hzn (hsub z h)) hm
  ·exact hzn (hd1 z hm).1
 ·rcases List.mem_cons.1 hx with hx|hx
  ·exact .inl (hx▸hbm)
  ·exact .inl (hsub x hx)
def jfj (p:Xq) (r:Req) (k:Nat):List ByteArray:=((p.Fz.take k).map (·.name)).filter fun n=>Wt p.Uz r.user n
theorem jlu (p:Xq) (r:Req):jad p r=⟨1,[],jfj p r p.Fz.length,0⟩:=by unfold jad jfj;rw[List.take_length]
theorem jlt {p:Xq} {r:Req} {k:Nat} (hk:k<p.Fz.length) (h:Wt p.Uz r.user p.Fz[k].name=true):jfj p r (k+1)=jfj p r k++ [p.Fz[k].name]:=by
 unfold jfj;rw[List.take_succ_eq_append_getElem hk,List.map_append,List.filter_append];simp[h]
theorem jn6 {p:Xq} {r:Req} {k:Nat} (hk:k<p.Fz.length) (h:Wt p.Uz r.user p.Fz[k].name=false):jfj p r (k+1)=jfj p r k:=by
 unfold jfj;rw[List.take_succ_eq_append_getElem hk,List.map_append,List.filter_append];simp[h]
theorem jn7 (p:Xq) (r:Req) (k:Nat):(jfj p r k).length≤p.Fz.length:=by
 unfold jfj;refine Nat.le_trans (List.length_filter_le _ _) ?_;rw[List.length_map];exact List.length_take_le' _ _
def jph (w0 wc:World) (p:Xq) (r:Req) (k:Nat) (wr:World):Prop:=
 ∃v,Blk wr wc.heap.size 37 #[.int .i64 1,.slice none 0 0,v,.int .i64 0]∧wr.ownsRow (wc.heap.size+1) 9 1 v (jfj p r k).length ((jfj p r k).flatMap fun s=>[.string s])∧Below w0.heap.size w0 wr∧wc.heap.size<wr.heap.size
theorem jje:(Tryz.prog.info? 9).map (fun i=>(i.zero,i.size,i.bytes))=some (some (.string ByteArray.empty),1,16):=by kernel_rfl
theorem do_any {g:Nat} {m:Jl} {r:Req} {ch cs:List Value} {fp fr:List Nat} (w:World) (hc:Cells w g 0 ch) (hgm:g∉fp) (hh:Rp.houseO.R w ch m fp) (hn:fp.Nodup) (hf:Free w fp) (hr:Rp.req.R w cs r fr) (hok:Ys m=true) (hrq:Yw r=true):
  Calls Tryz.prog 36 #[.pointer (some ⟨g,0,none⟩),.agg cs.toArray] w (Did w ch fp (Zn m r)):=by
 obtain⟨fh,hm,hfhs⟩:=V8.2 _ _ _ _ hh;obtain⟨E0,m0,d0,e0,rfl,hfe,hq⟩:=hr;obtain rfl:=hq.1;have hm0:=hm;obtain⟨A0,n0,c0,f0,A1,n1,c1,f1,A2,n2,c2,f2,rfl,hff,h0,h1,h2⟩:=hm;obtain rfl:=h0.1;obtain rfl:=h1.1;obtain rfl:=h2.1;have hmx:=h2.max;have hmq:=hq.max;have HB0:=(((Below.refl w.heap.size w).alloc nle (.cells (RA r (.slice E0 r.Ez.length d0)) 31)).alloc (by simp) (.cells N0 37))
 have kq:=(Blk.new w 31 (RA r (.slice E0 r.Ez.length d0))).alloc (.cells N0 37);have ka:=Blk.new' (w:=w.alloc (.cells (RA r (.slice E0 r.Ez.length d0)) 31)) (H:=w.heap.size+1) (by simp) 37 N0;have HHO:=Ja hh;have HNO:=Ja hn;have HFO:=Ja hf;have HGM:=Ja hgm;have HCG:=Ja hc;have HOK:=Ja hok;have HRQ:=Ja hrq;have HQF:=Ja (ReqFit.of hrq)
 have HPF:=Ja (show ∀p∈m.Rz,RepoFit p from fun p hp=>RepoFit.of ((Jo.1 hok).2.2 p hp));have hu99:=HQF.out.ints;have HUL:=Ja ((J8.1 (Jo.1 hok).1).2.1)
 have HCx:=Ja (fun(W:World) (hb:Below w.heap.size w W)=>(show W.cell? ⟨g,0,none⟩=some (.slice A0 m.keys.length c0)∧W.cell? ⟨g,1,none⟩=some (.slice A1 m.used.length c1)∧W.cell? ⟨g,2,none⟩=some (.slice A2 m.Rz.length c2) from
  ⟨Je (by simpa using hc.at0) hb,Je (by simpa using hc.tail.at0) hb,Je (by simpa using hc.tail.tail.at0) hb⟩))
 have HKx:=Ja (fun(W:World) (hb:Below w.heap.size w W)=>h0.step hb);have HUx:=Ja (fun(W:World) (hb:Below w.heap.size w W)=>h1.step hb);have HRx:=Ja (fun(W:World) (hb:Below w.heap.size w W)=>h2.step hb);have HEx:=Ja (fun(W:World) (hb:Below w.heap.size w W)=>hq.step hb);have HHx:=Ja (fun(W:World) (hb:Below w.heap.size w W)=>Rp.house.below hm0 hb nle)
 have HGL:=Ja (World.block_lt_of_cell? w _ hc.at0);clear hc hm0 hff h0 h1 h2 hq hfe hfhs hh hn hf hgm hok hrq;go_enter Tryz.func36,Tryz.ntmps36;go_upto_region 1 with fail
 generalize hW0:(w.alloc (.cells (RA r (.slice E0 r.Ez.length d0)) 31)).alloc (.cells N0 37)=w0 at HB0 kq ka ⊢;clear hW0;have HKQ:=Ja (fun(W:World) (hb:Below w0.heap.size w0 W)=>kq.step hb);have HKA:=Ja (fun(W:World) (hb:Below w0.heap.size w0 W)=>ka.step hb);have HB0:=Ja HB0;clear kq ka;obtain⟨a0,a1,a2⟩:=HCx.out w0 HB0.out;have x0:=Blk.c0 (HKQ.out w0 (Below.refl _ _))
 have x1:=Blk.c1 (HKQ.out w0 (Below.refl _ _));have C1:=fun W (h:SlR Rp.int W A0 m.keys.length c0 m.keys f0)=>jov r.user r.key W h;have hkx:=HKx.out w0 HB0.out;cases hkn:knows m.keys r.user r.key
 ·have HKN:=Ja hkn;simp only[hkn] at C1;have D1:=Ja C1;clear C1 hkn;go_wp2_with fail;have n0:=BelowW.nonempty w0;have e0:=BelowW.ex (w:=w0);have g_a0:=bwc a0;have g_x0:=bwc x0;have g_x1:=bwc x1;clear a0 x0 x1;refine Jf (by kernel_rfl) (by kernel_rfl) ?_
  repeat(go_big_quiet_step(first|(go_at_call 94;exact BelowW.calls _ (D1.out _ (BelowW.sl _ hkx)))))
  refine wpQuiet_nil ?_;rintro w4 ⟨m4,hw4⟩;have hb4:=m4.property;rw[←hw4] at hb4;clear hw4 m4 e0 g_a0 g_x0 g_x1;have HB1:=Ja hb4;clear hb4 hkx D1 a1 a2;have HE:=Ja (show Zn m r=(m,code 2) by unfold Zn;rw[HKN.out];rfl);go_wp2_with fail;refine(jak 2 _).mono ?_;rintro e wc ⟨rfl,hbc⟩;have HBC:=Ja (Below.t HB1.out hbc);clear hbc;have ka:=HKA.out wc HBC.out;have y0:=Jb ka 0
  have d0:=Blk.c0 ka;have y1:=Jb ka 1;have d1:=Blk.c1 ka;have y2:=Jb ka 2;have d2:=Blk.c2 ka;have y3:=Jb ka 3;have d3:=Blk.c3 ka;have RR:=Ja (Xo ka (.int .i64 2) (.slice none 0 0) (.slice none 0 0) (.int .i64 0));clear ka;go_wp2_with fail;obtain⟨R,RO⟩:=RR.out
  generalize((((wc.setCell ⟨w.heap.size+1,0,none⟩ (.int .i64 2)).setCell ⟨w.heap.size+1,1,none⟩ (.slice none 0 0)).setCell ⟨w.heap.size+1,2,none⟩ (.slice none 0 0)).setCell ⟨w.heap.size+1,3,none⟩ (.int .i64 0))=WW at R RO ⊢;have e0:=Blk.c0 R;have e1:=Blk.c1 R;have e2:=Blk.c2 R;have e3:=Blk.c3 R
  refine bodyPost_ret (v:= .agg #[.int .i64 2,.slice none 0 0,.slice none 0 0,.int .i64 0]) (by simp[results,Tryz.results36,go_sem,e0,e1,e2,e3]) rfl ?_;rw[HE.out];exact jcm HHO.out (Below.t HB0.out HBC.out) RO (by omega) (Wo 2 _) List.nodup_nil (by simp) (Free.nil _)
 have HKN:=Ja hkn;simp only[hkn] at C1;have D1:=Ja C1;clear C1 hkn;go_wp2_with fail;have n0:=BelowW.nonempty w0;have e0:=BelowW.ex (w:=w0);have g_a0:=bwc a0;have g_x0:=bwc x0;have g_x1:=bwc x1;clear a0 x0 x1;refine Jf (by kernel_rfl) (by kernel_rfl) ?_
 repeat(go_big_quiet_step(first|(go_at_call 94;exact BelowW.calls _ (D1.out _ (BelowW.sl _ hkx)))))
 refine wpQuiet_nil ?_;rintro w4 ⟨m4,hw4⟩;have hb4:=m4.property;rw[←hw4] at hb4;clear hw4 m4 e0 g_a0 g_x0 g_x1;have HB1:=Ja hb4;clear hb4 hkx D1 a1 a2;obtain⟨w1,hw1⟩: ∃w1,w1=w4:=⟨_,rfl⟩;rw[←hw1] at HB1;rw[←hw1];clear hw1 w4;obtain⟨u,hu1,hu2⟩:=jb6 HKN.out;have hul:u<m.used.length:=by have:=HUL.out;omega
 by_cases k11:r.kind=11
 ·have K11:=Ja k11;have x3:w1.cell? ⟨w.heap.size,3,none⟩=some (.int .i64 11):=by rw[←K11.out];exact(HKQ.out w1 HB1.out).cell 3
  have HE:=Ja (show Zn m r=(m,⟨1,[],[],m.used[u]⟩) by unfold Zn;rw[if_pos HKN.out,if_pos K11.out,hu1,show((u:Int)+1 - 1).toNat=u by omega,J4 hul]);have x0:w1.cell? ⟨w.heap.size,0,none⟩=some (.int .i64 ((u:Int)+1)):=by rw[←hu1];exact(HKQ.out w1 HB1.out).cell 0
  have u0:(0:Int)≤(u:Int):=by omega
  have u1:(u:Int)<(m.used.length:Int):=by omega
  have hwu:IntKind.i64.wrap ((u:Int)+1 - 1)=(u:Int):=by rw[IntWalk.i64_in _ (by omega)];omega
  have hwu2:IntKind.i64.wrap (u:Int)=(u:Int):=IntWalk.i64_in _ (by omega);obtain⟨bU,oU,rfl,_,_,uc⟩:=Xg (HUx.out w1 (Below.t HB0.out HB1.out)) hul;obtain⟨a0,a1,a2⟩:=HCx.out w1 (Below.t HB0.out HB1.out);clear hu1 k11;have ka:=HKA.out w1 HB1.out;have y0:=Jb ka 0;have d0:=Blk.c0 ka;have y1:=Jb ka 1;have d1:=Blk.c1 ka;have y2:=Jb ka 2;have d2:=Blk.c2 ka
  have y3:=Jb ka 3;have d3:=Blk.c3 ka;have RR:=Ja (Xo ka (.int .i64 1) (.slice none 0 0) (.slice none 0 0) (.int .i64 m.used[u]));clear ka;go_wp2_with fail;refine Xs fun K hK=> ?_;have HKK:=Ja hK;clear hK
  go_region_law (first
   |fail)
  all_goals
   refine HKK.out _ _ ?_;clear HKK K;obtain⟨R,RO⟩:=RR.out;go_wp2_with fail;generalize((((w1.setCell ⟨w.heap.size+1,0,none⟩ (.int .i64 1)).setCell ⟨w.heap.size+1,1,none⟩ (.slice none 0 0)).setCell ⟨w.heap.size+1,2,none⟩ (.slice none 0 0)).setCell ⟨w.heap.size+1,3,none⟩ (.int .i64 m.used[u]))=WW at R RO ⊢;have e0:=Blk.c0 R;have e1:=Blk.c1 R;have e2:=Blk.c2 R;have e3:=Blk.c3 R
   refine bodyPost_ret (v:= .agg #[.int .i64 1,.slice none 0 0,.slice none 0 0,.int .i64 m.used[u]]) (by simp[results,Tryz.results36,go_sem,e0,e1,e2,e3]) rfl ?_;rw[HE.out];exact jcm HHO.out (Below.t HB0.out HB1.out) RO.drew (by omega) ⟨none,0,0,[],none,0,0,[],rfl,rfl,SlR.nil,SlR.nil⟩ List.nodup_nil (by simp) (Free.nil _)
 have HK11:=Ja k11;by_cases hlt:r.repo.toNat<m.Rz.length
 case neg=>
  have hge:(m.Rz.length:Int)≤r.repo:=by omega
  obtain⟨a0,a1,a2⟩:=HCx.out w1 (Below.t HB0.out HB1.out);have x2:=Blk.c2 (HKQ.out w1 HB1.out);have x3:=Blk.c3 (HKQ.out w1 HB1.out);go_upto_region 5 with fail
  go_quiet(fail);obtain⟨w2,hw2⟩: ∃w2,w2=w1.drewN nq:=⟨_,rfl⟩;have HB2:=Ja (show Below w0.heap.size w0 w2 from hw2▸Below.drewN' HB1.out nq);rw[←hw2];clear hw2 a0 a1 a2 x2 x3;have HE:=Ja (show Zn m r=(m,code 3) by unfold Zn;rw[if_pos HKN.out,if_neg HK11.out,List.getElem?_eq_none (by omega)]);go_wp2_with fail;refine(jak 3 _).mono ?_;rintro e wc ⟨rfl,hbc⟩
  have HBC:=Ja (Below.t HB2.out hbc);clear hbc;have ka:=HKA.out wc HBC.out;have y0:=Jb ka 0;have d0:=Blk.c0 ka;have y1:=Jb ka 1;have d1:=Blk.c1 ka;have y2:=Jb ka 2;have d2:=Blk.c2 ka;have y3:=Jb ka 3;have d3:=Blk.c3 ka;have RR:=Ja (Xo ka (.int .i64 3) (.slice none 0 0) (.slice none 0 0) (.int .i64 0));clear ka;go_wp2_with fail;obtain⟨R,RO⟩:=RR.out
  generalize((((wc.setCell ⟨w.heap.size+1,0,none⟩ (.int .i64 3)).setCell ⟨w.heap.size+1,1,none⟩ (.slice none 0 0)).setCell ⟨w.heap.size+1,2,none⟩ (.slice none 0 0)).setCell ⟨w.heap.size+1,3,none⟩ (.int .i64 0))=WW at R RO ⊢;have e0:=Blk.c0 R;have e1:=Blk.c1 R;have e2:=Blk.c2 R;have e3:=Blk.c3 R
  refine bodyPost_ret (v:= .agg #[.int .i64 3,.slice none 0 0,.slice none 0 0,.int .i64 0]) (by simp[results,Tryz.results36,go_sem,e0,e1,e2,e3]) rfl ?_;rw[HE.out];exact jcm HHO.out (Below.t HB0.out HBC.out) RO (by omega) (Wo 3 _) List.nodup_nil (by simp) (Free.nil _)
 obtain⟨i,hri⟩: ∃i:Nat,r.repo=(i:Int):=⟨r.repo.toNat,by omega⟩;have hi:i<m.Rz.length:=by omega
 have HRI:=Ja hri;clear hlt;have HD:=Ja (show Zn m r=(if r.kind=2 then(m,look m.Rz[i] r) else if r.kind=3 then(m,jad m.Rz[i] r) else if Vs r then((write m m.Rz[i] r).1,code (write m m.Rz[i] r).2)
   else if r.user≠m.Rz[i].Az then(m,code 4) else({ m with Rz:=m.Rz.set i (manage m.Rz[i] r).1},code (manage m.Rz[i] r).2)) by
  unfold Zn;rw[if_pos HKN.out,if_neg HK11.out,hri,Int.toNat_natCast,List.getElem?_eq_getElem hi])
 obtain⟨A0',n0',c0',f0',A1',n1',c1',f1',b,c2',cur,cr,fR,hch,h0',h1',hbt,hbm,hbl,hbf,hfn,hsub,hn1,hd1,hd0,hcr,hR,hcl1⟩:=jb9 HHO.out HNO.out hi;cases hch;obtain⟨B0,m0',d0',g0,v,f1'',rfl,hff',hR0,hR1⟩:=id hR;obtain⟨A2',cap,fs1,rfl,hRs,_,_,_⟩:=hR1.sl;obtain rfl:=hR0.1;obtain⟨fq,hreal,_⟩:=jc5.2 _ _ _ _ hR;obtain⟨fr2,hs2r,_⟩:=hRs.le jbl
 have HRFSx:=Ja (fun(W:World) (hb:Below w.heap.size w W)=>hs2r.step hb);have HPx:=Ja (fun(W:World) (hb:Below w.heap.size w W)=>Rp.repo.below hreal hb nle);have HPOx:=Ja (fun(W:World) (hb:Below w.heap.size w W)=>Rp.repoO.below hR hb nle);have HCRx:=Ja (fun(W:World) (hb:Below w.heap.size w W)=>hcr.keep (hb.block b hbl))
 have HRCx:=Ja (fun(W:World) (hb:Below w.heap.size w W)=>(show W.cell? ⟨b,i*3,none⟩=some (.int .i64 m.Rz[i].Az)∧W.cell? ⟨b,i*3+1,none⟩=some (.slice B0 m.Rz[i].Uz.length d0')∧W.cell? ⟨b,i*3+2,none⟩=some (.slice A2' m.Rz[i].Fz.length cap) from
  ⟨Je hcr.at0 hb,Je hcr.tail.at0 hb,Je hcr.tail.tail.at0 hb⟩))
 have HS0x:=Ja (fun(W:World) (hb:Below w.heap.size w W)=>hR0.step hb);have HMN:=Ja (And.intro hcl1 (And.intro hd1 (And.intro hsub (And.intro hbm (And.intro hbt (And.intro hbf (And.intro hfn h1')))))));have HFI:=Ja (HPF.out _ (List.getElem_mem hi));have i0:(0:Int)≤(i:Int):=by omega
 have i1:(i:Int)<(m.Rz.length:Int):=by omega
 have i2: ¬(m.Rz.length:Int)≤(i:Int):=by omega
 obtain⟨a0,a1,a2⟩:=HCx.out w1 (Below.t HB0.out HB1.out);have x2:w1.cell? ⟨w.heap.size,2,none⟩=some (.int .i64 (i:Int)):=by rw[←hri];exact(HKQ.out w1 HB1.out).cell 2
 have x3:=Blk.c3 (HKQ.out w1 HB1.out);clear hs2r hR0 hR1 hRs hR hreal hff' h0' h1' hbt hbm hbl hbf hfn hsub hn1 hd1 hd0 hcr hcl1 hri hul hu1 hu2;go_upto_region 5 with fail
 go_quiet(fail);obtain⟨w2,hw2⟩: ∃w2,w2=w1.drewN nq:=⟨_,rfl⟩;have HB2:=Ja (show Below w0.heap.size w0 w2 from hw2▸Below.drewN' HB1.out nq);rw[←hw2];clear hw2 a0 a1 a2 x2 x3;obtain⟨a0,a1,a2⟩:=HCx.out w2 (Below.t HB0.out HB2.out);have x2:w2.cell? ⟨w.heap.size,2,none⟩=some (.int .i64 (i:Int)):=by rw[←HRI.out];exact(HKQ.out w2 HB2.out).cell 2
 go_upto_region 7 with fail
 go_quiet(fail);obtain⟨w3,hw3⟩: ∃w3,w3=w2.drewN nq:=⟨_,rfl⟩;have HB3:=Ja (show Below w0.heap.size w0 w3 from hw3▸Below.drewN' HB2.out nq);rw[←hw3];clear hw3 a0 a1 a2 x2;have HW3:=Ja (Below.t HB0.out HB3.out);have HSZ0:=Ja (show w.heap.size+1<w3.heap.size from by have:=(HKA.out w3 HB3.out).lt;omega);by_cases k2:r.kind=2
 ·have K2:=Ja k2;have x3:w3.cell? ⟨w.heap.size,3,none⟩=some (.int .i64 2):=by rw[←K2.out];exact(HKQ.out w3 HB3.out).cell 3
  have HE:=Ja (show Zn m r=(m,look m.Rz[i] r) by rw[HD.out,if_pos K2.out]);clear k2;go_wp2_with((refine wpList_load_row rfl 31 (.tmp 3) rfl _ rfl _ _ _ _ (HKQ.out w3 HB3.out).out Tryz.underlying31 rfl Vi ?_));refine(jjf (b:=b) (o:=i*3) (p:=m.Rz[i]) (r:=r) _ (HCRx.out _ HW3.out) (HPx.out _ HW3.out) ⟨E0,_,d0,e0,rfl,rfl,HEx.out _ HW3.out⟩ HFI.out HQF.out).mono ?_
  rintro e wc ⟨av,fa,rfl,hRa,hna,hla,hfa,hbc⟩;obtain⟨AF,nF,cF,fF,AN,nN,cN,fN,rfl,hffa,hsF,hsN⟩:=hRa;have HBC:=Ja (Below.t HB3.out hbc);have HSF:=Ja hsF;have HSN:=Ja hsN;have HAA:=Ja (And.intro hffa (And.intro hna (And.intro hla hfa)));clear hffa hsF hsN hna hla hfa hbc x3;have ka:=HKA.out wc HBC.out;have y0:=Jb ka 0;have d0:=Blk.c0 ka;have y1:=Jb ka 1;have d1:=Blk.c1 ka
  have y2:=Jb ka 2;have d2:=Blk.c2 ka;have y3:=Jb ka 3;have d3:=Blk.c3 ka;have RR:=Ja (Xo ka (.int .i64 (look m.Rz[i] r).code) (.slice AF nF cF) (.slice AN nN cN) (.int .i64 (look m.Rz[i] r).n));clear ka;go_wp2_with fail;obtain⟨R,RO⟩:=RR.out
  generalize((((wc.setCell ⟨w.heap.size+1,0,none⟩ (.int .i64 (look m.Rz[i] r).code)).setCell ⟨w.heap.size+1,1,none⟩ (.slice AF nF cF)).setCell ⟨w.heap.size+1,2,none⟩ (.slice AN nN cN)).setCell ⟨w.heap.size+1,3,none⟩ (.int .i64 (look m.Rz[i] r).n))=WW at R RO ⊢;have e0:=Blk.c0 R;have e1:=Blk.c1 R;have e2:=Blk.c2 R;have e3:=Blk.c3 R
  refine bodyPost_ret (v:= .agg #[.int .i64 (look m.Rz[i] r).code,.slice AF nF cF,.slice AN nN cN,.int .i64 (look m.Rz[i] r).n]) (by simp[results,Tryz.results36,go_sem,e0,e1,e2,e3]) rfl ?_;rw[HE.out];obtain⟨hffa,hna,hla,hfa⟩:=HAA.out;have hz0:=HSZ0.out;have hzz:=HW3.out.size
  exact jcm HHO.out (Below.t HB0.out HBC.out) RO (by omega) ⟨AF,nF,cF,fF,AN,nN,cN,fN,rfl,hffa,HSF.out.only RO (fun z hz hm=>by have:=hla z (by rw[hffa];exact List.mem_append_left _ hz);simp at hm;omega),HSN.out.only RO (fun z hz hm=>by have:=hla z (by rw[hffa];exact List.mem_append_right _ hz);simp at hm;omega)⟩ hna
   (fun z hz=>by have:=hla z hz;omega) (hfa.keep fun z hz=>RO.block z (hfa.lt z hz) (by have:=hla z hz;simp;omega))
 have K2:=Ja k2;by_cases k3:r.kind=3
 ·have K3:=Ja k3;have x3:w3.cell? ⟨w.heap.size,3,none⟩=some (.int .i64 3):=by rw[←K3.out];exact(HKQ.out w3 HB3.out).cell 3
  have HE:=Ja (show Zn m r=(m,⟨1,[],jfj m.Rz[i] r m.Rz[i].Fz.length,0⟩) by rw[HD.out,if_neg K2.out,if_pos K3.out,jlu]);have hr3:=HFI.out.nrefs;clear k3 k2;go_wp2_with fail;refine(jak 1 _).mono ?_;rintro e wc ⟨rfl,hbc⟩;have HBC:=Ja (Below.t HB3.out hbc);have HSZC:=Ja (show w.heap.size+1<wc.heap.size from by have:=HSZ0.out;have:=hbc.size;omega);clear hbc x3
  have r2:=(HRCx.out wc (Below.t HB0.out HBC.out)).2.2;have r2':=J6 r2 (.cells #[.int .i64 1,.slice none 0 0,.slice none 0 0,.int .i64 0] 37);obtain⟨ii,hi0,hz0,hz1,hz2⟩:=info_parts jje;go_wp2_with fail;clear r2 r2'
  go_loopw [69] (fun iv wr=>∃k:Nat,k≤m.Rz[i].Fz.length∧iv= .int .i64 k∧jph w0 wc m.Rz[i] r k wr) (fun iv _=>m.Rz[i].Fz.length - (intOf iv).toNat)
  case atStart=>exact⟨0,Nat.zero_le _,rfl,.slice none 0 0,Blk.new wc _ _,World.ownsRow_nil _ _ _ _,HBC.out.alloc HBC.out.size _,by simp⟩
  case round=>
   obtain⟨wo,hwo⟩: ∃wo,wo=wr:=⟨_,rfl⟩;subst hwo;obtain⟨k,hk,rfl,v,kO,hown,hbl,hsw⟩:=hrel;have HKO:=Ja kO;have HOW:=Ja hown;have HBL:=Ja hbl;have HSW:=Ja hsw;have HLE:=Ja (jn7 m.Rz[i] r k);clear kO hown hbl hsw;have j0:(0:Int)≤(k:Int):=by omega
   by_cases hlt:k<m.Rz[i].Fz.length
   ·have j1:(k:Int)<(m.Rz[i].Fz.length:Int):=by omega
    obtain⟨bR,oR,B9,m9,d9,g9,rfl,hbR,hmR,q0,q1,q2,q3,_,_⟩:=J3 (HRFSx.out wo (Below.t HB0.out HBL.out)) hlt;have HSZF:=Ja (HFI.out.names _ (List.getElem_mem hlt));have HY:=Ja (fun(h:Wt m.Rz[i].Uz r.user m.Rz[i].Fz[k].name=true)=>jlt hlt h);have HN:=Ja (fun(h:Wt m.Rz[i].Uz r.user m.Rz[i].Fz[k].name=false)=>jn6 hlt h);clear hbR hmR
    go_upto_region 15 with fail
    obtain⟨wp,hwp⟩: ∃wp,wp=wo.alloc (.cells #[.string m.Rz[i].Fz[k].name,.bool m.Rz[i].Fz[k].guard,.int .i64 m.Rz[i].Fz[k].count,.slice B9 m9 d9] 52):=⟨_,rfl⟩;rw[←hwp];have HP1:=Ja (show Below wo.heap.size wo wp from hwp▸(Below.refl _ _).alloc nle _);have HBP:=Ja (show Below w0.heap.size w0 wp from Below.t HBL.out HP1.out)
    have nm0:wp.cell? ⟨wo.heap.size,0,none⟩=some (.string m.Rz[i].Fz[k].name):=by rw[hwp];exact(Blk.new wo _ _).cell 0
    obtain⟨r0,r1,r2⟩:=HRCx.out wp (Below.t HB0.out HBP.out);have hs0:=HS0x.out wp (Below.t HB0.out HBP.out);clear hwp q0 q1 q2 q3;have x0:=Blk.c0 (HKQ.out wp HBP.out);have C1:=fun W (h:SlR Rp.rule W B0 m.Rz[i].Uz.length d0' m.Rz[i].Uz g0)=>jb8 r.user m.Rz[i].Fz[k].name W h HFI.out.Uz;cases hd:Wt m.Rz[i].Uz r.user m.Rz[i].Fz[k].name
    ·have HE1:=Ja (HN.out hd);simp only[hd] at C1;have D1:=Ja C1;clear C1 hd;go_wp2_with fail;have n0:=BelowW.nonempty wp;have e0:=BelowW.ex (w:=wp);have g_r1:=bwc r1;have g_x0:=bwc x0;have g_nm0:=bwc nm0;clear r1 x0 nm0;refine Jf (by kernel_rfl) (by kernel_rfl) ?_
     repeat(go_big_quiet_step(first|(go_at_call 27;exact BelowW.calls _ (D1.out _ (BelowW.sl _ hs0)))))
     refine wpQuiet_nil ?_;rintro w4 ⟨m4,hw4⟩;have hb4:=m4.property;rw[←hw4] at hb4;clear hw4 m4 e0 g_r1 g_x0 g_nm0;have HB4:=Ja (Below.t HP1.out hb4);have HREL:=Ja (show jph w0 wc m.Rz[i] r (k+1) w4 from⟨v,HKO.out.step HB4.out,by rw[HE1.out];exact Yx HOW.out HB4.out,Below.t HBL.out HB4.out,Nat.lt_of_lt_of_le HSW.out HB4.out.size⟩);clear hb4 hs0 r0 r2;go_wp2_with fail
     exact⟨⟨k+1,by omega,by go_num,HREL.out⟩,by simp[intOf];omega⟩
    ·have HE1:=Ja (HY.out hd);simp only[hd] at C1;have D1:=Ja C1;clear C1 hd;have nm1:=nm0;go_wp2_with fail;have n0:=BelowW.nonempty wp;have e0:=BelowW.ex (w:=wp);have g_r1:=bwc r1;have g_x0:=bwc x0;have g_nm0:=bwc nm0;clear r1 x0 nm0;refine Jf (by kernel_rfl) (by kernel_rfl) ?_
     repeat(go_big_quiet_step(first|(go_at_call 27;exact BelowW.calls _ (D1.out _ (BelowW.sl _ hs0)))))
     refine wpQuiet_nil ?_;rintro w4 ⟨m4,hw4⟩;have hb4:=m4.property;rw[←hw4] at hb4;clear hw4 m4 e0 g_r1 g_x0 g_nm0;have HB4:=Ja (Below.t HP1.out hb4);have kO4:=HKO.out.step HB4.out;have ho4:=Yx HOW.out HB4.out;have n4:=Je nm1 hb4;have o2:w4.cell? ⟨wc.heap.size,2,none⟩=some v:=kO4.cell 2;have hle:=HLE.out;have hs4:=Nat.lt_of_lt_of_le HSW.out HB4.out.size;have HO4:=Ja ho4
     have KO4:=Ja kO4;clear hb4 hs0 r0 r2 nm1 ho4 kO4
     go_wp2_with(at_builtin;refine wpList_append_own _ rfl _ _ 35 rfl (wc.heap.size+1) 9 ii _ 1 16 Tryz.underlying35 hi0 hz0 hz1 hz2 rfl (by decide) _ _ _ rfl (HO4.out.alloc _) ⟨w4.heap.size,0,none⟩ 1 1 [.string m.Rz[i].Fz[k].name] rfl rfl (Jm _ [.string m.Rz[i].Fz[k].name] _) (by intro u hu;simp at hu;subst hu;rfl) (by unfold maxLen;omega) (by omega) (by simp;omega) ?_)
     intro v' w5 hown' hgrow _;obtain⟨A6,c6,rfl⟩:=jl3 hown';have kO5:=(KO4.out.alloc (.cells #[.string m.Rz[i].Fz[k].name] 9)).grown hgrow (fun z hz=>by have:=(HO4.out.lt z hz).1;omega);have p2:w5.cell? ⟨wc.heap.size,2,none⟩=some v:=kO5.cell 2;have py:=Jb kO5 2
     have HREL:=Ja (show jph w0 wc m.Rz[i] r (k+1) (w5.setCell ⟨wc.heap.size,2,none⟩ (.slice A6 ((jfj m.Rz[i] r k).length+1) c6)) from by
      have h1:=HBL.out.size;have h2:=HSW.out;have h3:=HB4.out.size;have h4:=hgrow.size;simp at h4;refine⟨_,by simpa using kO5.put 2 (.slice A6 ((jfj m.Rz[i] r k).length+1) c6), ?_, ?_,by simp[World.setCell];omega⟩
      ·rw[HE1.out,List.length_append,List.flatMap_append,List.flatMap_singleton];exact Jy hown' fun z hz=>Below.heap_setCell _ _ _ _ (by have:=(Jn hown' z hz).1;simp only;omega)
      ·have hb5:Below w0.heap.size w0 w5:=((Below.t HBL.out HB4.out).alloc (Below.t HBL.out HB4.out).size _).grown hgrow (by simp;omega) (fun z hz=>by have:=(HO4.out.lt z hz).1;have:=HBC.out.size;omega);exact Below.setCell (p:=⟨wc.heap.size,2,none⟩) hb5 (by have:=HBC.out.size;simp only;omega) _)
     clear hown' hgrow kO5 n4 o2;go_wp2_with fail;exact⟨⟨k+1,by omega,by go_num,HREL.out⟩,by simp[intOf];omega⟩
   ·have j1: ¬(k:Int)<(m.Rz[i].Fz.length:Int):=by omega
    obtain rfl:k=m.Rz[i].Fz.length:=by omega
    obtain⟨AN,cN,fN,rfl,hsN,hlN,hnN,hfN⟩:=Xw (k:=1) (enc:=fun s=>[Value.string s]) (hk:=fun _=>rfl) (h1:=fun x u hu=>by simp at hu;subst hu;rfl) HOW.out;have HSN:=Ja hsN;have HLN:=Ja (And.intro hlN (And.intro hnN hfN));have o0:=Blk.c0 HKO.out;have o1:=Blk.c1 HKO.out;have o2:=Blk.c2 HKO.out;have o3:=Blk.c3 HKO.out;clear hsN hlN hnN hfN hlt;have ka:=HKA.out wo HBL.out
    have y0:=Jb ka 0;have d0:=Blk.c0 ka;have y1:=Jb ka 1;have d1:=Blk.c1 ka;have y2:=Jb ka 2;have d2:=Blk.c2 ka;have y3:=Jb ka 3;have d3:=Blk.c3 ka;have RR:=Ja (Xo ka (.int .i64 1) (.slice none 0 0) (.slice AN (jfj m.Rz[i] r m.Rz[i].Fz.length).length cN) (.int .i64 0));clear ka;go_wp2_with fail;obtain⟨R,RO⟩:=RR.out
    generalize((((wo.setCell ⟨w.heap.size+1,0,none⟩ (.int .i64 1)).setCell ⟨w.heap.size+1,1,none⟩ (.slice none 0 0)).setCell ⟨w.heap.size+1,2,none⟩ (.slice AN (jfj m.Rz[i] r m.Rz[i].Fz.length).length cN)).setCell ⟨w.heap.size+1,3,none⟩ (.int .i64 0))=WW at R RO ⊢;have e0:=Blk.c0 R;have e1:=Blk.c1 R;have e2:=Blk.c2 R;have e3:=Blk.c3 R
    refine bodyPost_ret (v:= .agg #[.int .i64 1,.slice none 0 0,.slice AN (jfj m.Rz[i] r m.Rz[i].Fz.length).length cN,.int .i64 0]) (by simp[results,Tryz.results36,go_sem,e0,e1,e2,e3]) rfl ?_;rw[HE.out];obtain⟨hlN,hnN,hfN⟩:=HLN.out;have hz0:=HSZC.out
    exact jcm HHO.out (Below.t HB0.out HBL.out) RO (by omega) ⟨none,0,0,[],AN,_,cN,fN,rfl,rfl,SlR.nil,HSN.out.only RO (fun z hz hm=>by have:=hlN z hz;simp at hm;omega)⟩ hnN
     (fun z hz=>by have:=hlN z hz;omega) (hfN.keep fun z hz=>RO.block z (hfN.lt z hz) (by have:=hlN z hz;simp;omega))
 have K3:=Ja k3;have x3:=Blk.c3 (HKQ.out w3 HB3.out);go_wp2_with((refine wpList_load_row rfl 31 (.tmp 3) rfl _ rfl _ _ _ _ (HKQ.out w3 HB3.out).out Tryz.underlying31 rfl Vi ?_));refine(jec (x:=r) _ ⟨E0,_,d0,e0,rfl,rfl,HEx.out _ HW3.out⟩).mono ?_;rintro e w4 ⟨rfl,hb4⟩;have HB4:=Ja (Below.t HB3.out hb4);have HW4:=Ja (Below.t HB0.out HB4.out);clear hb4 x3 k2 k3
 have HFPL:=Ja (Rp.houseO.lt HHO.out);cases hw:Vs r
 ·have HWF:=Ja (show ¬Vs r=true by rw[hw];decide);clear hw;obtain⟨r0,r1,r2⟩:=HRCx.out w4 HW4.out;by_cases hadm:r.user=m.Rz[i].Az
  ·have HADM:=Ja hadm;have x0:w4.cell? ⟨w.heap.size,0,none⟩=some (.int .i64 m.Rz[i].Az):=by rw[←hadm];exact(HKQ.out w4 HB4.out).cell 0
   have HE:=Ja (show Zn m r=({ m with Rz:=m.Rz.set i (manage m.Rz[i] r).1},code (manage m.Rz[i] r).2) by rw[HD.out,if_neg K2.out,if_neg K3.out,if_neg HWF.out,if_neg (fun h=>h HADM.out)]);clear hadm;go_upto_region 21 with fail
   go_quiet(fail);obtain⟨w5,hw5⟩: ∃w5,w5=w4.drewN nq:=⟨_,rfl⟩;have HB5:=Ja (show Below w0.heap.size w0 w5 from hw5▸Below.drewN' HB4.out nq);rw[←hw5];clear hw5 r0 r1 r2 x0;have HW5:=Ja (Below.t HB0.out HB5.out);go_wp2_with((refine wpList_load_row rfl 31 (.tmp 3) rfl _ rfl _ _ _ _ (HKQ.out w5 HB5.out).out Tryz.underlying31 rfl Vi ?_));obtain⟨hcl1,hd1,hsub,hbm,hbt,hbf,hfn,h1'⟩:=HMN.out
   refine(jm1 (b:=b) (o:=i*3) (p:=m.Rz[i]) (r:=r) _ (HCRx.out _ HW5.out) ((HW5.out.block b (HFPL.out b hbm)).trans hbt) hbf hfn ((HFO.out.sub hsub).step HW5.out) (HPOx.out _ HW5.out) ⟨E0,_,d0,e0,rfl,rfl,HEx.out _ HW5.out⟩ HFI.out HQF.out).mono ?_;rintro e w6 hm6;have hw6:=jg8 (m:=m) HFPL.out HW5.out hm6 hsub hbm h1' hd1 hcl1;obtain⟨he6,_,ho6⟩:=id hw6;subst he6
   have ka6:=(HKA.out w5 HB5.out).only ho6 (fun h=>by have:=HFPL.out _ h;omega);have HW6:=Ja hw6;have HKA6:=Ja ka6;clear hcl1 hd1 hsub hbm hbt hbf hfn h1' hm6 hw6 ho6 ka6;go_wp2_with fail;refine(jak _ _).mono ?_;rintro e wc ⟨rfl,hbc⟩;have HBC:=Ja hbc;clear hbc;have ka:=HKA6.out.step HBC.out;have y0:=Jb ka 0;have d0:=Blk.c0 ka;have y1:=Jb ka 1;have d1:=Blk.c1 ka
   have y2:=Jb ka 2;have d2:=Blk.c2 ka;have y3:=Jb ka 3;have d3:=Blk.c3 ka;have RR:=Ja (Xo ka (.int .i64 (manage m.Rz[i] r).2) (.slice none 0 0) (.slice none 0 0) (.int .i64 0));clear ka;go_wp2_with fail;obtain⟨R,RO⟩:=RR.out
   generalize((((wc.setCell ⟨w.heap.size+1,0,none⟩ (.int .i64 (manage m.Rz[i] r).2)).setCell ⟨w.heap.size+1,1,none⟩ (.slice none 0 0)).setCell ⟨w.heap.size+1,2,none⟩ (.slice none 0 0)).setCell ⟨w.heap.size+1,3,none⟩ (.int .i64 0))=WW at R RO ⊢;have e0:=Blk.c0 R;have e1:=Blk.c1 R;have e2:=Blk.c2 R;have e3:=Blk.c3 R
   refine bodyPost_ret (v:= .agg #[.int .i64 (manage m.Rz[i] r).2,.slice none 0 0,.slice none 0 0,.int .i64 0]) (by simp[results,Tryz.results36,go_sem,e0,e1,e2,e3]) rfl ?_;rw[HE.out];exact jjn HFPL.out HW5.out HW6.out (HKA.out w5 HB5.out) HBC.out RO (by omega)
  ·have HE:=Ja (show Zn m r=(m,code 4) by rw[HD.out,if_neg K2.out,if_neg K3.out,if_neg HWF.out,if_pos hadm]);have x0:=Blk.c0 (HKQ.out w4 HB4.out);go_upto_region 21 with fail
   go_quiet(fail);obtain⟨w5,hw5⟩: ∃w5,w5=w4.drewN nq:=⟨_,rfl⟩;have HB5:=Ja (show Below w0.heap.size w0 w5 from hw5▸Below.drewN' HB4.out nq);rw[←hw5];clear hw5 r0 r1 r2 x0;go_wp2_with fail;refine(jak 4 _).mono ?_;rintro e wc ⟨rfl,hbc⟩;have HBC:=Ja (Below.t HB5.out hbc);clear hbc;have ka:=HKA.out wc HBC.out;have y0:=Jb ka 0;have d0:=Blk.c0 ka;have y1:=Jb ka 1
   have d1:=Blk.c1 ka;have y2:=Jb ka 2;have d2:=Blk.c2 ka;have y3:=Jb ka 3;have d3:=Blk.c3 ka;have RR:=Ja (Xo ka (.int .i64 4) (.slice none 0 0) (.slice none 0 0) (.int .i64 0));clear ka;go_wp2_with fail;obtain⟨R,RO⟩:=RR.out
   generalize((((wc.setCell ⟨w.heap.size+1,0,none⟩ (.int .i64 4)).setCell ⟨w.heap.size+1,1,none⟩ (.slice none 0 0)).setCell ⟨w.heap.size+1,2,none⟩ (.slice none 0 0)).setCell ⟨w.heap.size+1,3,none⟩ (.int .i64 0))=WW at R RO ⊢;have e0:=Blk.c0 R;have e1:=Blk.c1 R;have e2:=Blk.c2 R;have e3:=Blk.c3 R
   refine bodyPost_ret (v:= .agg #[.int .i64 4,.slice none 0 0,.slice none 0 0,.int .i64 0]) (by simp[results,Tryz.results36,go_sem,e0,e1,e2,e3]) rfl ?_;rw[HE.out];exact jcm HHO.out (Below.t HB0.out HBC.out) RO (by omega) (Wo 4 _) List.nodup_nil (by simp) (Free.nil _)
 ·have HWT:=Ja hw;have HE:=Ja (show Zn m r=((write m m.Rz[i] r).1,code (write m m.Rz[i] r).2) by rw[HD.out,if_neg K2.out,if_neg K3.out,if_pos HWT.out]);clear hw;go_wp2_with((refine wpList_load_row rfl 31 (.tmp 3) rfl _ rfl _ _ _ _ (HKQ.out w4 HB4.out).out Tryz.underlying31 rfl Vi ?_))
  refine(jns (g:=g) (m:=m) (r:=r) (i:=i) _ (HCG.out.keep (HW4.out.block g HGL.out)) HGM.out (Rp.houseO.below HHO.out HW4.out nle) HNO.out (HFO.out.step HW4.out) ⟨E0,_,d0,e0,rfl,rfl,HEx.out _ HW4.out⟩ HOK.out HRQ.out HKN.out HRI.out hi).mono ?_;rintro e w6 hw6;obtain⟨he6,_,ho6⟩:=id hw6;subst he6;have ka6:=(HKA.out w4 HB4.out).only ho6 (fun h=>by have:=HFPL.out _ h;omega);have HW6:=Ja hw6
  have HKA6:=Ja ka6;clear hw6 ho6 ka6;go_wp2_with fail;refine(jak _ _).mono ?_;rintro e wc ⟨rfl,hbc⟩;have HBC:=Ja hbc;clear hbc;have ka:=HKA6.out.step HBC.out;have y0:=Jb ka 0;have d0:=Blk.c0 ka;have y1:=Jb ka 1;have d1:=Blk.c1 ka;have y2:=Jb ka 2;have d2:=Blk.c2 ka;have y3:=Jb ka 3;have d3:=Blk.c3 ka
  have RR:=Ja (Xo ka (.int .i64 (write m m.Rz[i] r).2) (.slice none 0 0) (.slice none 0 0) (.int .i64 0));clear ka;go_wp2_with fail;obtain⟨R,RO⟩:=RR.out
  generalize((((wc.setCell ⟨w.heap.size+1,0,none⟩ (.int .i64 (write m m.Rz[i] r).2)).setCell ⟨w.heap.size+1,1,none⟩ (.slice none 0 0)).setCell ⟨w.heap.size+1,2,none⟩ (.slice none 0 0)).setCell ⟨w.heap.size+1,3,none⟩ (.int .i64 0))=WW at R RO ⊢;have e0:=Blk.c0 R;have e1:=Blk.c1 R;have e2:=Blk.c2 R;have e3:=Blk.c3 R
  refine bodyPost_ret (v:= .agg #[.int .i64 (write m m.Rz[i] r).2,.slice none 0 0,.slice none 0 0,.int .i64 0]) (by simp[results,Tryz.results36,go_sem,e0,e1,e2,e3]) rfl ?_;rw[HE.out];exact jjn HFPL.out HW4.out HW6.out (HKA.out w4 HB4.out) HBC.out RO (by omega)
end Go.Proofs.YtobbdhgkcoeifaaGreatDoor
