/- Lemmas and walks, joined by program. -/
import Derived.Test.YtobbdhgkcoeifaaGreatDoorZ19
import Derived.Test.YtobbdhgkcoeifaaGreatDoorZ12
import Derived.Test.YtobbdhgkcoeifaaGreatDoorZ23
import Derived.Test.YtobbdhgkcoeifaaGreatDoorZ22
import Derived.Test.YtobbdhgkcoeifaaGreatDoorZ20
import Derived.Test.YtobbdhgkcoeifaaGreatDoorZ7
import Derived.Test.YtobbdhgkcoeifaaGreatDoorZ3
import Derived.Test.YtobbdhgkcoeifaaGreatDoorZ5
namespace Go.Proofs.YtobbdhgkcoeifaaGreatDoor
open Go.RowKit
attribute [local go_sem ↓] Go.wp_at_zero Go.wp_at_succ
attribute [local go_sem] stayQ_normal
set_option maxHeartbeats 8000000
set_option maxRecDepth 100000
set_option linter.unusedSimpArgs false
set_option linter.unusedVariables false
def jqj (w2:World) (b8 n:Nat) (v3:Value) (xs:List Value) (files:List File) (wx:World):Prop:=
 ∃W3 w4 g' cap A5 n5 c5 f5,Below w2.heap.size w2 W3∧SlR Rp.file W3 A5 n5 c5 files f5∧(∀z∈f5,w2.heap.size≤z)∧w4.ownsRow 0 34 1 (.slice (some ⟨g',0,none⟩) (n+1) cap) (n+1) (xs++ [.slice A5 n5 c5])∧
  W3.grownBy w4 v3.ownBlock∧(v3.ownBlock=some g'∨w2.heap.size≤g')∧wx=w4.setCell ⟨b8,3,none⟩ (.slice (some ⟨g',0,none⟩) (n+1) cap)
def layG (hb bU oU u n c1:Nat) (usd tr:Int) (E0:Option Addr) (ne d0:Nat):Xr:=fun t v _=>match t with
 | 3=>v= .pointer (some ⟨hb,0,none⟩)
 | 4=>v= .pointer (some ⟨hb+1,0,none⟩)
 | 57=>v= .pointer (some ⟨hb,1,none⟩)
 | 62=>v= .pointer (some ⟨hb,1,none⟩)
 | 58=>v= .slice (some ⟨bU,oU,none⟩) n c1
 | 63=>v= .slice (some ⟨bU,oU,none⟩) n c1
 | 59=>v= .pointer (some ⟨hb+1,0,none⟩)
 | 64=>v= .pointer (some ⟨hb+1,0,none⟩)
 | 60=>v= .int .i64 ((u:Int)+1)
 | 65=>v= .int .i64 ((u:Int)+1)
 | 61=>v= .int .i64 (u:Int)
 | 66=>v= .int .i64 (u:Int)
 | 67=>v= .pointer (some ⟨bU,oU+u,none⟩)
 | 73=>v= .pointer (some ⟨bU,oU+u,none⟩)
 | 68=>v= .int .i64 usd
 | 69=>v= .pointer (some ⟨hb+1,8,none⟩)
 | 70=>v= .slice E0 ne d0
 | 71=>v= .int .i64 tr
 | 72=>v= .int .i64 (usd+tr)
 |_=>True
theorem jot {i k:Nat} {m:Jl} {r:Req} {hs cs:List Value} {fp fr ff:List Nat} {Af:Option Addr} {nf cf:Nat} {files:List File} (w:World) (hh:Rp.houseO.R w hs m fp) (hn:fp.Nodup) (hf:Free w fp) (hr:Rp.req.R w cs r fr) (hrd: ∀z∈fr,z∉fp) (hri:r.repo=(i:Int)) (hi:i<m.Rz.length) (hok:Ys m=true) (hkn:knows m.keys r.user r.key=true) (hQ:ReqFit r)
  (hk:k<m.Rz[i].Fz.length) (hidx:Y7 m.Rz[i].Fz r.ref=some k) (hfl:SlR Rp.file w Af nf cf files ff) (hf60:files.length≤60):
  Calls Tryz.prog 45 #[.agg hs.toArray,.agg cs.toArray,.slice Af nf cf] w (Layd w hs fp (jpm m m.Rz[i] k r files)):=by
 have hP: ∀p∈m.Rz,RepoFit p:=fun p hp=>RepoFit.of ((Jo.1 hok).2.2 p hp);have HFX:=Ja ((hP _ (List.getElem_mem hi)).vers _ (List.getElem_mem hk));have hidn:jd4 (Xx r.ref) m.Rz[i].Fz=(k:Int):=by
  rcases Zu (Xx r.ref) m.Rz[i].Fz with ⟨hn,he⟩|⟨k',hn,_,he⟩
  ·rw[show Y7 m.Rz[i].Fz r.ref=none from hn] at hidx;cases hidx
  ·rw[show Y7 m.Rz[i].Fz r.ref=some k' from hn] at hidx;cases hidx;exact he
 have HIDN:=Ja hidn;obtain⟨u,hu1,hu2⟩:=jb6 hkn;have hul:u<m.used.length:=by have:=(J8.1 (Jo.1 hok).1).2.1;omega
 have HUS:=Ja (show 0≤m.used[u]∧m.used[u]≤200 from(J8.1 (Jo.1 hok).1).2.2.2 _ (List.getElem_mem hul));have HU1:=Ja hu1;have hub:(u:Int)≤98:=by have:=hQ.ints.1;omega
 obtain⟨fh,hm,_⟩:=V8.2 _ _ _ _ hh;have HHO:=Ja hh;have HFO:=Ja hf;have HNO:=Ja hn;have HFLx:=Ja (fun(W:World) (hb:Below w.heap.size w W)=>hfl.step hb);have HF60:=Ja hf60;obtain rfl:=hfl.1;have hfmx:=hfl.max;clear hidn hidx hok hkn hu1 hu2 hh hn hf hfl hf60;obtain⟨E0,m0,d0,e0,rfl,hfe,hq⟩:=hr;have HRD:=Ja (show ∀z∈e0,z∉fp from fun z hz=>hrd z (hfe▸hz));have HEL:=Ja hq.lt
 clear hrd hfe;obtain rfl:=hq.1;have hm0:=hm;obtain⟨A0,n0,c0,f0,A1,n1,c1,f1,A2,n2,c2,f2,rfl,hff,h0,h1,h2⟩:=hm;obtain rfl:=h0.1;obtain rfl:=h1.1;obtain rfl:=h2.1;have hmx:=h2.max;have hmq:=hq.max
 have HB0:=((((Below.refl w.heap.size w).alloc nle (.cells #[.slice A0 m.keys.length c0,.slice A1 m.used.length c1,.slice A2 m.Rz.length c2] 26)).alloc (by simp) (.cells (RA r (.slice E0 r.Ez.length d0)) 31)).alloc (by simp;omega) (.cells H0 26))
 have kx:=(((Blk.new w 26 #[.slice A0 m.keys.length c0,.slice A1 m.used.length c1,.slice A2 m.Rz.length c2]).alloc (.cells (RA r (.slice E0 r.Ez.length d0)) 31)).alloc (.cells H0 26))
 have kq:=((Blk.new' (w:=(w.alloc (.cells #[.slice A0 m.keys.length c0,.slice A1 m.used.length c1,.slice A2 m.Rz.length c2] 26))) (H:=w.heap.size+1) (by simp) 31 (RA r (.slice E0 r.Ez.length d0))).alloc (.cells H0 26))
 have kz0:=(Blk.new' (w:=((w.alloc (.cells #[.slice A0 m.keys.length c0,.slice A1 m.used.length c1,.slice A2 m.Rz.length c2] 26)).alloc (.cells (RA r (.slice E0 r.Ez.length d0)) 31))) (H:=w.heap.size+2) (by simp) 26 H0);have HKx:=Ja (fun(W:World) (hb:Below w.heap.size w W)=>h0.step hb);have HUx:=Ja (fun(W:World) (hb:Below w.heap.size w W)=>h1.step hb)
 have HRx:=Ja (fun(W:World) (hb:Below w.heap.size w W)=>h2.step hb);have HEx:=Ja (fun(W:World) (hb:Below w.heap.size w W)=>hq.step hb);have HHx:=Ja (fun(W:World) (hb:Below w.heap.size w W)=>Rp.house.below hm0 hb nle);have HRI:=Ja hri;have HPF:=Ja hP;have HQF:=Ja hQ;have HFI:=Ja (hP _ (List.getElem_mem hi));have i0:(0:Int)≤(i:Int):=by omega
 have i1:(i:Int)<(m.Rz.length:Int):=by omega
 clear hri hP hQ;clear hm0 hff h0 h1 h2 hq;go_enter Tryz.func45,Tryz.ntmps45;go_upto_region 1 with fail
 generalize hW0:(((w.alloc (.cells #[.slice A0 m.keys.length c0,.slice A1 m.used.length c1,.slice A2 m.Rz.length c2] 26)).alloc (.cells (RA r (.slice E0 r.Ez.length d0)) 31)).alloc (.cells H0 26))=w0 at HB0 kx kq kz0 ⊢;clear hW0;have HKX:=Ja (fun(W:World) (hb:Below w0.heap.size w0 W)=>kx.step hb);have HKQ:=Ja (fun(W:World) (hb:Below w0.heap.size w0 W)=>kq.step hb);have HB0:=Ja HB0
 clear kx kq;have HRES:=Ja (fun(W:World) (hb:Below w0.heap.size w0 W)=>kz0.step hb);have HL2:=Ja kz0.lt;clear kz0
 have HHC:=Ja (fun(W:World) (hb:Below w0.heap.size w0 W)=>(show W.cell? ⟨w.heap.size,0,none⟩=some (.slice A0 m.keys.length c0)∧W.cell? ⟨w.heap.size,1,none⟩=some (.slice A1 m.used.length c1)∧W.cell? ⟨w.heap.size,2,none⟩=some (.slice A2 m.Rz.length c2) from⟨(HKX.out W hb).cell 0,(HKX.out W hb).cell 1,(HKX.out W hb).cell 2⟩))
 obtain⟨A0w,c0w,bU,oU,c1w,b,c2w,B0w,m0w,d0w,gR,capw,v3,f3,hch,hcb,hWA⟩:=jlq HHO.out HNO.out hi hk hul;cases hch;obtain⟨bp,op,B0,nb0,b0,g0,B1,nb1,b1,g1,hbo,hbp,hmp,q0,q1,q2,hs0,hs1,hsub⟩:=J7 (HRx.out w0 HB0.out) hi;cases hbo;simp only[Nat.zero_add] at q0 q1 q2;obtain rfl:=hs1.1;have hq2:=Je hcb.tail.tail.at0 HB0.out;rw[show i*3+1+1=i*3+2 from rfl,q2] at hq2;cases hq2
 have hrp:Rp.repo.R w0 [.int .i64 m.Rz[i].Az,.slice B0 nb0 b0,.slice (some ⟨gR,0,none⟩) m.Rz[i].Fz.length capw] m.Rz[i] (g0++g1):=⟨B0,nb0,b0,g0,_,_,capw,g1,rfl,rfl,hs0,hs1⟩;have HPx:=Ja (fun(W:World) (hb:Below w0.heap.size w0 W)=>Rp.repo.below hrp hb nle);have HQ2:=Ja q2
 have C1:=fun W (hh:Rp.repo.R W [.int .i64 m.Rz[i].Az,.slice B0 nb0 b0,.slice (some ⟨gR,0,none⟩) m.Rz[i].Fz.length capw] m.Rz[i] (g0++g1))=>jbd r.ref W hh;simp only[HIDN.out] at C1;have D1:=Ja C1;obtain⟨A3,c3,f3',hv3,hs3,_,hlc3,hcm3⟩:=hWA.vers.sl;subst hv3;have HWA:=Ja hWA
 have HRFx:=Ja (fun(W:World) (hb:Below w.heap.size w W)=>(show W.cell? ⟨gR,k*4,none⟩=some (.string m.Rz[i].Fz[k].name)∧W.cell? ⟨gR,k*4+1,none⟩=some (.bool m.Rz[i].Fz[k].guard)∧W.cell? ⟨gR,k*4+2,none⟩=some (.int .i64 m.Rz[i].Fz[k].count)∧W.cell? ⟨gR,k*4+3,none⟩=some (.slice A3 m.Rz[i].Fz[k].Vz.length c3) from
  ⟨Je hWA.cells.at0 hb,Je hWA.cells.tail.at0 hb,Je hWA.cells.tail.tail.at0 hb,Je hWA.cells.tail.tail.tail.at0 hb⟩))
 have k0:(0:Int)≤(k:Int):=by omega
 have k1:(k:Int)<(m.Rz[i].Fz.length:Int):=by omega
 obtain⟨ih0,ih1,ih2⟩:=HHC.out w0 (Below.refl _ _);have x2:w0.cell? ⟨w.heap.size+1,2,none⟩=some (.int .i64 (i:Int)):=by rw[←HRI.out];exact(HKQ.out w0 (Below.refl _ _)).cell 2
 have x4:=Blk.c4 (HKQ.out w0 (Below.refl _ _));clear C1 hs0 hs1 hrp hbp hmp hsub hWA hcb hs3 hlc3 hcm3 ih0 ih1;go_wp2_with fail;have n0:=BelowW.nonempty w0;have e0:=BelowW.ex (w:=w0);have g_ih2:=bwc ih2;have g_x2:=bwc x2;have g_x4:=bwc x4;have g_q0:=bwc q0;have g_q1:=bwc q1;have g_q2:=bwc q2;clear ih2 x2 x4 q0 q1 q2;refine Jf (by kernel_rfl) (by kernel_rfl) ?_
 repeat(go_big_quiet_step(first|(go_at_call 71;exact BelowW.calls _ (D1.out _ (HPx.out _ (Subtype.property _))))))
 refine wpQuiet_nil ?_;rintro w1 ⟨m4,hw1⟩;have hb1:=m4.property;rw[←hw1] at hb1;clear hw1 m4 e0 g_ih2 g_x2 g_x4 g_q0 g_q1 g_q2;have HB1:=Ja hb1;clear hb1 D1;obtain⟨ih0,ih1,ih2⟩:=HHC.out w1 HB1.out;have x2:w1.cell? ⟨w.heap.size+1,2,none⟩=some (.int .i64 (i:Int)):=by rw[←HRI.out];exact(HKQ.out w1 HB1.out).cell 2
 have q2:=Je HQ2.out HB1.out;obtain⟨t0,t1,t2,t3⟩:=HRFx.out w1 (Below.t HB0.out HB1.out);go_upto_region 3 with fail
 obtain⟨w2,hw2⟩: ∃w2,w2=w1.alloc (.cells #[.string m.Rz[i].Fz[k].name,.bool m.Rz[i].Fz[k].guard,.int .i64 m.Rz[i].Fz[k].count,.slice A3 m.Rz[i].Fz[k].Vz.length c3] 52):=⟨_,rfl⟩;rw[←hw2];have HD2:=Ja (show Below w1.heap.size w1 w2 from hw2▸(Below.refl _ _).alloc nle _);have HB2:=Ja (Below.t HB1.out HD2.out);have HW2:=Ja (Below.t HB0.out HB2.out)
 have kr:=(show Blk w2 w1.heap.size 52 #[.string m.Rz[i].Fz[k].name,.bool m.Rz[i].Fz[k].guard,.int .i64 m.Rz[i].Fz[k].count,.slice A3 m.Rz[i].Fz[k].Vz.length c3] from hw2▸Blk.new w1 _ _);have HRB:=Ja (fun(W:World) (hb:Below w2.heap.size w2 W)=>kr.step hb);have t3:=Blk.c3 kr;have hz1w:=Nat.le_trans HB0.out.size HB1.out.size;obtain⟨xs,f1v,ho,ha,hfe⟩:=HWA.out.vers
 have HFE:=Ja hfe;have HKV:=Ja (fun(W:World) (hb:Below w2.heap.size w2 W)=>Jy ho fun z hz=>((Below.t HW2.out hb).block z (HWA.out.old _ (HWA.out.f3in z (by rw[hfe];exact List.mem_append_left _ hz)))))
 have HAV:=Ja (fun(W:World) (hb:Below w2.heap.size w2 W)=>ha.keep fun z hz=>((Below.t HW2.out hb).block z (HWA.out.old _ (HWA.out.f3in z (by rw[hfe];exact List.mem_append_right _ hz)))));have HOB:=Ja (show ∀z,(Value.slice A3 m.Rz[i].Fz[k].Vz.length c3).ownBlock=some z→z∈f3 from fun z hz=>by rw[hfe];exact List.mem_append_left _ (by unfold Vm;rw[hz];simp))
 have HL8:=Ja (show w.heap.size≤w1.heap.size∧w1.heap.size<w2.heap.size∧w.heap.size+2<w1.heap.size from⟨hz1w,kr.lt,by have:=HL2.out;have:=HB1.out.size;omega⟩);have HB8:=Ja (show ∀(W W':World) (o:Obj),Below w2.heap.size w2 W→(W.alloc o).grownBy W' (Value.slice A3 m.Rz[i].Fz[k].Vz.length c3).ownBlock→W'.heap[w1.heap.size]? =W.heap[w1.heap.size]? from fun W W' o hb hg=>
  (hg.block _ (by have:=HL8.out.2.1;have:=hb.size;simp;omega) fun e=>by have:=HWA.out.old _ (HWA.out.f3in _ (HOB.out _ e.symm));have:=HL8.out.1;omega).trans (Below.heap_alloc _ _ _ (by have:=HL8.out.2.1;have:=hb.size;omega)))
 have hv3:=HFX.out.2.1;have hv1:=HFX.out.1;obtain⟨ii,hi0,hz0,hz1,hz2⟩:=info_parts jew;clear hw2 kr t0 t1 t2 q2 ih0 ih1 ih2 x2 ho ha hfe hz1w;go_upto_region 3 with fail
 go_cut [28] (fun p wx=>jqj w2 w1.heap.size m.Rz[i].Fz[k].Vz.length (.slice A3 m.Rz[i].Fz[k].Vz.length c3) xs files wx)
 case first=>
  go_region_law (first
   |(refine J9 rfl 72 (enters_of Tryz.func72 (by kernel_rfl) rfl) rfl _ (by simp[Act.eval,Act.put]) ((X6 (l:=files) _ (HFLx.out _ (Below.t HW2.out (Below.refl _ _).drew)) (by have:=HF60.out;omega)).mono ?_);rintro e w5 ho5;obtain⟨A5,c5,f5,rfl,hs5,hn5,hl5,hf5,hb5⟩:=OwnF.sl (k:=2) (enc:=Jj) (hk:=fun _=>rfl) (h1:=Vz) ho5;refine⟨_,rfl, ?_⟩;have HD5:=Ja (Below.past hb5);have HS5:=Ja hs5;have HL5:=Ja hl5;have v3:=Je t3 HD5.out;have v3a:=J6 v3 (.cells #[.slice A5 files.length c5] 34);have hw3:=HRB.out w5 HD5.out;have HKV5:=Ja (HKV.out w5 HD5.out);clear ho5 hs5 hn5 hl5 hf5 hb5 hw3)
   |(refine step_append_lies _ rfl _ _ 50 rfl 0 34 ii _ 1 24 Tryz.underlying50 hi0 hz0 hz1 hz2 rfl (by decide) _ _ _ (by simp[Act.eval,Act.put]) (HKV5.out.alloc _) ⟨w5.heap.size,0,none⟩ 1 1 [.slice A5 files.length c5] (by simp[Act.eval,Act.put]) rfl (Jm _ [.slice A5 files.length c5] _) (by intro z hz;simp at hz;subst hz;rfl) (by decide) (by unfold maxLen;omega) (by omega) (Nat.zero_le _) (w5.heap.size+1) (by simp) ?_;intro g9 cap9 w6 hown6 hgr6 hor6 hlt6;have hb6:w6.heap[w1.heap.size]? =w5.heap[w1.heap.size]? :=HB8.out w5 w6 _ HD5.out hgr6;have m3:w6.cell? ⟨w1.heap.size,3,none⟩=some (.slice A3 m.Rz[i].Fz[k].Vz.length c3):=(World.cell?_of_block (a:=⟨w1.heap.size,3,none⟩) hb6).trans v3;have my:w6.frozen? ⟨w1.heap.size,3,none⟩=false:=by(have e:=hb6.trans (HRB.out w5 HD5.out).out;simp[World.frozen?,e]))
   |fail)
  all_goals
   go_wp2_with fail;go_meet
   case rel=>exact⟨_,w6,g9,cap9,A5,_,c5,f5,(HD5.out.alloc HD5.out.size _),HS5.out.allocN _,fun z hz=>by have:=HL5.out z hz;simpa using this,hown6,hgr6,hor6.imp id (fun e=>by rw[e];have:=HD5.out.size;omega),rfl⟩
 case rest=>
  obtain⟨wz,hwz⟩: ∃wz,wz=wc:=⟨_,rfl⟩;subst hwz;obtain⟨W3,w4,g',cap,A5,n5,c5,f5,hb3,hs5,hl5,hown4,hgr4,hor4,hwz⟩:=hcut;have HW3:=Ja (Below.t HW2.out hb3);have HD3:=Ja hb3;have hsz4:=hgr4.size;have hk4: ∀z,z<w2.heap.size→z∉f3→w4.heap[z]? =w2.heap[z]? :=fun z hz hm=>(hgr4.block z (by have:=hb3.size;omega) fun e=>hm (HOB.out z e.symm)).trans (hb3.block z hz)
  have hb8:w1.heap.size∉f3:=fun h=>by have:=HWA.out.old _ (HWA.out.f3in _ h);have:=HL8.out.1;omega
  have kb4:Blk w4 w1.heap.size 52 #[.string m.Rz[i].Fz[k].name,.bool m.Rz[i].Fz[k].guard,.int .i64 m.Rz[i].Fz[k].count,.slice A3 m.Rz[i].Fz[k].Vz.length c3]:=(hk4 _ HL8.out.2.1 hb8).trans (HRB.out w2 (Below.refl _ _)).out
  obtain⟨fr',hs4,hfr4⟩:=jnv (n:=m.Rz[i].Fz[k].Vz.length) (HAV.out W3 hb3) (by rw[←HFE.out];exact HWA.out.nod) hgr4 hs5 (fun z hz hm=>by have:=hl5 z hz;have:=HWA.out.old _ (HWA.out.f3in z (by rw[HFE.out];exact List.mem_append_left _ hm));have:=HW2.out.size;omega) hown4 rfl;have HFR4:=Ja (show ∀z∈fr',z∈f3∨(w.heap.size≤z∧z≠w1.heap.size∧z≠w.heap.size+2) from fun z hz=>by
   have h8:=HL8.out;have hsz2:=HW2.out.size;rcases hfr4 z hz with h|h|h
   ·subst h;rcases hor4 with h|h
    ·exact .inl (HOB.out _ h)
    ·exact .inr ⟨by omega,by omega,by omega⟩
   ·exact .inl (by rw[HFE.out];exact List.mem_append_right _ h)
   ·have:=hl5 z h;exact .inr ⟨by omega,by omega,by omega⟩)
  have hcap:=(show m.Rz[i].Fz[k].Vz.length+1≤cap from hs4.2.1);have HS4:=Ja hs4;have HGR4:=Ja hgr4;have HK4:=Ja hk4;have kz:=kb4.put 3 (.slice (some ⟨g',0,none⟩) (m.Rz[i].Fz[k].Vz.length+1) cap);rw[←hwz] at kz
  have kz:Blk wz w1.heap.size 52 #[.string m.Rz[i].Fz[k].name,.bool m.Rz[i].Fz[k].guard,.int .i64 m.Rz[i].Fz[k].count,.slice (some ⟨g',0,none⟩) (m.Rz[i].Fz[k].Vz.length+1) cap]:=by simpa using kz
  have HOZ:=Ja (show Only [w1.heap.size] w4 wz from hwz▸Js _ _ _ _);have z2:=Blk.c2 kz;have z3:=Blk.c3 kz;have zy2:=Jb kz 2;have zy3:=Jb kz 3;have HKZ:=Ja kz;have hcnt:IntKind.i64.wrap (m.Rz[i].Fz[k].count+1)=m.Rz[i].Fz[k].count+1:=IntWalk.i64_in _ (by have:=HFX.out.2.2.1;omega)
  have HLAID:=Ja (show ∀d:Nat,d=m.Rz[i].Fz[k].Vz.length+1 - 3→jpm m m.Rz[i] k r files=⟨m.keys,m.used.set u (m.used[u]+((Yg r.Ez:Nat):Int)),m.Rz.set i { m.Rz[i] with Fz:=m.Rz[i].Fz.set k ⟨m.Rz[i].Fz[k].name,m.Rz[i].Fz[k].guard,m.Rz[i].Fz[k].count+1,(m.Rz[i].Fz[k].Vz++ [files]).drop d⟩}⟩ from fun d hd=>by
   unfold jpm
   dsimp only
   rw[jfq _ _ _ rfl,J4 hk,HU1.out,show((u:Int)+1 - 1).toNat=u by omega,J4 hul,HRI.out,Int.toNat_natCast,hd])
  have HV13:=Ja (show m.Rz[i].Fz[k].Vz.length+1=2∨m.Rz[i].Fz[k].Vz.length+1=3∨m.Rz[i].Fz[k].Vz.length+1=4 by omega);have HDROP:=Ja (fun(d:Nat) (hd:d≤(m.Rz[i].Fz[k].Vz++ [files]).length)=>HS4.out.drop (k:=d) hd);have HLEN:=Ja (show(m.Rz[i].Fz[k].Vz++ [files]).length=m.Rz[i].Fz[k].Vz.length+1 by simp)
  clear hwz kz kb4 hs5 hl5 hown4 hgr4 hor4 hs4 hfr4 hk4 hb8 hb3 hsz4 t3 hv3 hv1 HS4;generalize m.Rz[i].Fz[k].Vz.length+1=nn at z3 HV13 hcap HLAID HDROP HLEN HKZ ⊢;go_upto_if 38 with fail
  go_cut [35] from 35 to 42 (fun v wx=>∃d o9 n9 c9 f9,Blk wx w1.heap.size 52 #[.string m.Rz[i].Fz[k].name,.bool m.Rz[i].Fz[k].guard,.int .i64 m.Rz[i].Fz[k].count,.slice (some ⟨g',o9,none⟩) n9 c9]∧Only [w1.heap.size] w4 wx∧SlR (Rp.slice Rp.file) w4 (some ⟨g',o9,none⟩) n9 c9 ((m.Rz[i].Fz[k].Vz++ [files]).drop d) f9∧(∀z∈f9,z∈fr')∧d=nn - 3)
  case first=>
   rcases HV13.out with rfl|rfl|rfl
   ·go_wp2_with fail;go_meet
    case rel=>
     obtain⟨f9,hs9,hf9⟩:=HDROP.out 0 (by rw[HLEN.out];omega);exact⟨0,0,2,cap,f9,HKZ.out,HOZ.out,hs9,hf9,rfl⟩
   ·go_wp2_with fail;go_meet
    case rel=>
     obtain⟨f9,hs9,hf9⟩:=HDROP.out 0 (by rw[HLEN.out];omega);exact⟨0,0,3,cap,f9,HKZ.out,HOZ.out,hs9,hf9,rfl⟩
   ·have hcn1: ¬cap=1:=by omega
    have hcn0: ¬cap=0:=by omega
    go_wp2_with fail;go_meet
    case rel=>
     obtain⟨f9,hs9,hf9⟩:=HDROP.out 1 (by rw[HLEN.out];omega);exact⟨1,1,3,cap - 1,f9,by simpa using HKZ.out.put 3 (.slice (some ⟨g',1,none⟩) 3 (cap - 1)),HOZ.out.then_only (Js _ _ _ _) (fun _ h=> .inl h),hs9,hf9,rfl⟩
  case rest=>
   obtain⟨wy,hwy⟩: ∃wy,wy=wc:=⟨_,rfl⟩;subst hwy;obtain⟨d,o9,n9,c9,f9,ky,hoy,hs9,hf9,hd⟩:=hcut;have HKY:=Ja ky;have HOY:=Ja hoy;have HS9:=Ja hs9;have HF9:=Ja hf9;have HLD:=Ja (HLAID.out d hd);have z2:=Blk.c2 ky;have zy2:=Jb ky 2;clear ky hoy hs9 hf9 hd z3 zy3;go_upto_region 7 with fail
   obtain⟨w5,hw5⟩: ∃w5,w5=wy.setCell ⟨w1.heap.size,2,none⟩ (.int .i64 (m.Rz[i].Fz[k].count+1)):=⟨_,rfl⟩;rw[←hw5];have kw:Blk w5 w1.heap.size 52 #[.string m.Rz[i].Fz[k].name,.bool m.Rz[i].Fz[k].guard,.int .i64 (m.Rz[i].Fz[k].count+1),.slice (some ⟨g',o9,none⟩) n9 c9]:=by
    rw[hw5];simpa using HKY.out.put 2 (.int .i64 (m.Rz[i].Fz[k].count+1))
   have HO5:=Ja (show Only [w1.heap.size] w4 w5 from by
    rw[hw5];exact HOY.out.then_only (Js _ _ _ _) (fun _ h=> .inl h))
   clear hw5 z2 zy2 hcnt;have hnf: ∀z,w.heap.size≤z→z∉f3:=fun z hz h=>by have:=HWA.out.old _ (HWA.out.f3in z h);omega
   have hK5: ∀z,z<w1.heap.size→z∉f3→w5.heap[z]? =w2.heap[z]? :=fun z hz hm=>by
    have h8:=HL8.out.2.1;have h9:=HD3.out.size;have h10:=HGR4.out.size;exact(HO5.out.block z (by omega) (by simp;omega)).trans (HK4.out z (by omega) hm)
   have hz8:=HL8.out;have kx5:Blk w5 w.heap.size 26 #[.slice A0 m.keys.length c0,.slice (some ⟨bU,oU,none⟩) m.used.length c1,.slice (some ⟨b,0,none⟩) m.Rz.length c2]:=(hK5 _ (by omega) (hnf _ nle)).trans (HKX.out w2 HB2.out).out;have kq5:Blk w5 (w.heap.size+1) 31 (RA r (.slice E0 r.Ez.length d0)):=(hK5 _ (by omega) (hnf _ (by omega))).trans (HKQ.out w2 HB2.out).out
   have kr5:Blk w5 (w.heap.size+2) 26 H0:=(hK5 _ (by omega) (hnf _ (by omega))).trans (HRES.out w2 HB2.out).out;have hold: ∀z∈fp,z<w1.heap.size:=fun z hz=>by have:=HWA.out.old _ hz;omega
   have e2:=Blk.c2 kx5;have e22:w5.cell? ⟨w.heap.size+1,2,none⟩=some (.int .i64 (i:Int)):=by rw[←HRI.out];exact kq5.cell 2
   have r2:w5.cell? ⟨b,i*3+2,none⟩=some (.slice (some ⟨gR,0,none⟩) m.Rz[i].Fz.length capw):=(World.cell?_of_block (a:=⟨b,i*3+2,none⟩) (hK5 b (hold _ HWA.out.bin) HWA.out.b3)).trans (Je HQ2.out HB2.out);obtain⟨j0,j1,j2,j3⟩:=HRFx.out w2 HW2.out;have hgr5:=hK5 gR (hold _ HWA.out.gin) HWA.out.g3
   have o0:w5.cell? ⟨gR,k*4,none⟩=some (.string m.Rz[i].Fz[k].name):=(World.cell?_of_block (a:=⟨gR,k*4,none⟩) hgr5).trans j0;have o1:w5.cell? ⟨gR,k*4+1,none⟩=some (.bool m.Rz[i].Fz[k].guard):=(World.cell?_of_block (a:=⟨gR,k*4+1,none⟩) hgr5).trans j1;have o2:w5.cell? ⟨gR,k*4+2,none⟩=some (.int .i64 m.Rz[i].Fz[k].count):=(World.cell?_of_block (a:=⟨gR,k*4+2,none⟩) hgr5).trans j2
   have o3:w5.cell? ⟨gR,k*4+3,none⟩=some (.slice A3 m.Rz[i].Fz[k].Vz.length c3):=(World.cell?_of_block (a:=⟨gR,k*4+3,none⟩) hgr5).trans j3;have hfz: ∀j,w5.frozen? ⟨gR,j,none⟩=false:=fun j=>by
    obtain⟨cur,hcur⟩:=HWA.out.typ;have e:=hgr5.trans ((HW2.out.block gR (HWA.out.old _ HWA.out.gin)).trans hcur);simp[World.frozen?,e]
   have yg0:=hfz (k*4);have yg1:=hfz (k*4+1);have yg2:=hfz (k*4+2);have yg3:=hfz (k*4+3);have m0:=Blk.c0 kw;have m1:=Blk.c1 kw;have m2:=Blk.c2 kw;have m3:=Blk.c3 kw;have HX5:=Ja (And.intro kx5 (And.intro kq5 (And.intro kr5 hK5)));have HOLD:=Ja hold;have HS5:=Ja (show w1.heap.size<w5.heap.size from kw.lt);clear kx5 kq5 kr5 hK5 hold hfz j0 j1 j2 j3 hgr5 hnf hz8 kw
   go_cut [56] (fun p wx=>Below (jlz w5 gR (k*4) (.string m.Rz[i].Fz[k].name) (.bool m.Rz[i].Fz[k].guard) (.int .i64 (m.Rz[i].Fz[k].count+1)) (.slice (some ⟨g',o9,none⟩) n9 c9)).heap.size (jlz w5 gR (k*4) (.string m.Rz[i].Fz[k].name) (.bool m.Rz[i].Fz[k].guard) (.int .i64 (m.Rz[i].Fz[k].count+1)) (.slice (some ⟨g',o9,none⟩) n9 c9)) wx)
   case first=>
    go_region_law (fail)
    all_goals
     go_wp2_with fail;go_meet
     case rel=>unfold jlz;first|exact Below.refl _ _|exact(Below.refl _ _).drew
   case rest=>
    obtain⟨wq,hwq⟩: ∃wq,wq=wc:=⟨_,rfl⟩;subst hwq;have HCUT:=Ja hcut;obtain⟨kx5,kq5,kr5,hK5⟩:=HX5.out;have hz8:=HL8.out;have hs5:=HS5.out;have hgl:=HWA.out.old _ HWA.out.gin;have hsp:(jlz w5 gR (k*4) (.string m.Rz[i].Fz[k].name) (.bool m.Rz[i].Fz[k].guard) (.int .i64 (m.Rz[i].Fz[k].count+1)) (.slice (some ⟨g',o9,none⟩) n9 c9)).heap.size=w5.heap.size:=by simp[jlz,World.setCell]
    have hq5: ∀z,z<w5.heap.size→z≠gR→wq.heap[z]? =w5.heap[z]? :=fun z hz hzg=>(hcut.block z (by omega)).trans (jci hzg);have hq2: ∀z∈fp,z≠gR→z∉f3→wq.heap[z]? =w.heap[z]? :=fun z hz hzg hz3=>(hq5 z (by have:=HOLD.out z hz;omega) hzg).trans ((hK5 z (HOLD.out z hz) hz3).trans (HW2.out.block z (HWA.out.old _ hz)))
    have kxq:Blk wq w.heap.size 26 #[.slice A0 m.keys.length c0,.slice (some ⟨bU,oU,none⟩) m.used.length c1,.slice (some ⟨b,0,none⟩) m.Rz.length c2]:=(hq5 _ (by omega) (by omega)).trans kx5.out;have kqq:Blk wq (w.heap.size+1) 31 (RA r (.slice E0 r.Ez.length d0)):=(hq5 _ (by omega) (by omega)).trans kq5.out;have krq:Blk wq (w.heap.size+2) 26 H0:=(hq5 _ (by omega) (by omega)).trans kr5.out
    have hub':=hq2 bU HWA.out.uin HWA.out.ug HWA.out.u3;obtain⟨curU,eU,hcU⟩:=HFO.out bU HWA.out.uin;have HUB:=Ja (hub'.trans hcU);have uc:wq.cell? ⟨bU,oU+u,none⟩=some (.int .i64 m.used[u]):=(World.cell?_of_block (a:=⟨bU,oU+u,none⟩) hub').trans HWA.out.cu;have yU:wq.frozen? ⟨bU,oU+u,none⟩=false:=by
     have e:=HUB.out;simp[World.frozen?,e]
    have HUL:=Ja kxq.lt;have x1:=Blk.c1 kxq;have x0:wq.cell? ⟨w.heap.size+1,0,none⟩=some (.int .i64 ((u:Int)+1)):=by rw[←HU1.out];exact kqq.cell 0
    have x8:=Blk.c8 kqq;have heq:SlR Rp.edit wq E0 r.Ez.length d0 r.Ez e0:=(HEx.out w (Below.refl _ _)).keep fun z hz=>by
     have h1:=HEL.out z hz;have h2:z∉f3:=fun h=>HRD.out z hz (HWA.out.f3in z h);have h3:z≠gR:=fun e=>HRD.out z hz (e▸HWA.out.gin);exact(hq5 z (by omega) h3).trans ((hK5 z (by omega) h2).trans (HW2.out.block z h1))
    have HEQ:=Ja (fun(W:World) (hb:Below wq.heap.size wq W)=>heq.step hb);have hT:=ja9 HQF.out.Ez HQF.out.nedits;have hus:=HUS.out;have hsum:IntKind.i64.wrap (m.used[u]+((Yg r.Ez:Nat):Int))=m.used[u]+((Yg r.Ez:Nat):Int):=IntWalk.i64_in _ (by omega);have hwu:IntKind.i64.wrap ((u:Int)+1 - 1)=(u:Int):=by rw[IntWalk.i64_in _ (by omega)];omega
    have hwu2:IntKind.i64.wrap (u:Int)=(u:Int):=IntWalk.i64_in _ (by omega);have u0:(0:Int)≤(u:Int):=by omega
    have u1:(u:Int)<(m.used.length:Int):=by omega
    have HUl:=Ja (show bU<wq.heap.size from(Array.getElem?_eq_some_iff.1 HUB.out).1);have HUL:=HUl;have HXQ:=Ja (And.intro kxq krq);clear kx5 kq5 kr5 hK5 hs5 hgl hsp hq5 hq2 kxq kqq krq hub' hcU heq hcut hT hus;go_upto_region 8 with fail
    go_cut [57] (fun p wx=>∃W,Below wq.heap.size wq W∧wx=W.setCell ⟨bU,oU+u,none⟩ (.int .i64 (m.used[u]+((Yg r.Ez:Nat):Int))))
    case first=>
     refine Jz 17 _ rfl (fun _ _ w'=>Below wq.heap.size wq w') (fun _ _=>True) (layG w.heap.size bU oU u m.used.length c1 m.used[u] ((Yg r.Ez:Nat):Int) E0 r.Ez.length d0) (by kernel_rfl) rfl (by kernel_rfl) rfl (fun _ _ _ _ h _=>h) (fun _=>trivial) ⟨(Below.refl _ _).drew,fun s hs=> ?_,by rfl⟩ ?_ ?_
     ·by_cases e3:s=3
      ·subst e3;rfl
      by_cases e4:s=4
      ·subst e4;rfl
      have hne:s∉ [57,58,59,60,61,62,63,64,65,66,67,68,69,70,71,72,73]:=fun hm=>by
       simp only[List.mem_cons,List.not_mem_nil,or_false] at hm;rcases hm with rfl|rfl|rfl|rfl|rfl|rfl|rfl|rfl|rfl|rfl|rfl|rfl|rfl|rfl|rfl|rfl|rfl<;>exact absurd hs (by decide)
      simp only[List.mem_cons,List.not_mem_nil,or_false,not_or] at hne;unfold layG;split<;>first|trivial|(exfalso;omega)
     ·intro i p hi hp;have hcases:i=0∨i=1∨i=2∨i=3∨i=4∨i=5∨i=6∨i=7∨i=8∨i=9∨i=10∨i=11∨i=12∨i=13∨i=14∨i=15∨i=16:=by omega
      rcases hcases with rfl|rfl|rfl|rfl|rfl|rfl|rfl|rfl|rfl|rfl|rfl|rfl|rfl|rfl|rfl|rfl|rfl
      all_goals(obtain rfl:=Option.some.inj hp)
      ·intro L a w' hL hl hall hC hR;have r3:_=_:=hR 3 (by decide);simp[Region.wanted,Jg,go_sem,execOp,upT,r3];exact⟨rfl,hC⟩
      ·intro L a w' hL hl hall hC hR;have r57:_=_:=hR 57 (by decide);have hc:=Je x1 hC;simp[Region.wanted,Jg,go_sem,execOp,upT,r57,hc];exact⟨rfl,hC⟩
      ·intro L a w' hL hl hall hC hR;have r4:_=_:=hR 4 (by decide);simp[Region.wanted,Jg,go_sem,execOp,upT,r4];exact⟨rfl,hC⟩
      ·intro L a w' hL hl hall hC hR;have r59:_=_:=hR 59 (by decide);have hc:=Je x0 hC;simp[Region.wanted,Jg,go_sem,execOp,upT,r59,hc];exact⟨rfl,hC⟩
      ·intro L a w' hL hl hall hC hR;have r60:_=_:=hR 60 (by decide);simp[Region.wanted,Jg,go_sem,execOp,upT,r60,hwu,hwu2,u0,u1,hsum];exact⟨rfl,hC⟩
      ·intro L a w' hL hl hall hC hR;have r3:_=_:=hR 3 (by decide);simp[Region.wanted,Jg,go_sem,execOp,upT,r3];exact⟨rfl,hC⟩
      ·intro L a w' hL hl hall hC hR;have r62:_=_:=hR 62 (by decide);have hc:=Je x1 hC;simp[Region.wanted,Jg,go_sem,execOp,upT,r62,hc];exact⟨rfl,hC⟩
      ·intro L a w' hL hl hall hC hR;have r4:_=_:=hR 4 (by decide);simp[Region.wanted,Jg,go_sem,execOp,upT,r4];exact⟨rfl,hC⟩
      ·intro L a w' hL hl hall hC hR;have r64:_=_:=hR 64 (by decide);have hc:=Je x0 hC;simp[Region.wanted,Jg,go_sem,execOp,upT,r64,hc];exact⟨rfl,hC⟩
      ·intro L a w' hL hl hall hC hR;have r65:_=_:=hR 65 (by decide);simp[Region.wanted,Jg,go_sem,execOp,upT,r65,hwu,hwu2,u0,u1,hsum];exact⟨rfl,hC⟩
      ·intro L a w' hL hl hall hC hR;have r63:_=_:=hR 63 (by decide);have r66:_=_:=hR 66 (by decide);simp[Region.wanted,Jg,go_sem,execOp,upT,r63,r66,hwu,hwu2,u0,u1,hsum];exact⟨rfl,hC⟩
      ·intro L a w' hL hl hall hC hR;have r67:_=_:=hR 67 (by decide);have hc:=Je uc hC;simp[Region.wanted,Jg,go_sem,execOp,upT,r67,hc];exact⟨rfl,hC⟩
      ·intro L a w' hL hl hall hC hR;have r4:_=_:=hR 4 (by decide);simp[Region.wanted,Jg,go_sem,execOp,upT,r4];exact⟨rfl,hC⟩
      ·intro L a w' hL hl hall hC hR;have r69:_=_:=hR 69 (by decide);have hc:=Je x8 hC;simp[Region.wanted,Jg,go_sem,execOp,upT,r69,hc];exact⟨rfl,hC⟩
      ·intro L a w' hL hl hall hC hR;have r70:_=_:=hR 70 (by decide);refine jo0 rfl 106 (enters_of Tryz.func106 (by kernel_rfl) rfl) rfl #[.slice E0 r.Ez.length d0] (by simp[Wm,r70]) ((jby (es:=r.Ez) _ (HEQ.out _ hC) HQF.out.Ez).mono ?_);rintro e wn ⟨rfl,hb9⟩;exact⟨_,rfl,trivial,rfl,Below.t hC hb9⟩
      ·intro L a w' hL hl hall hC hR;have r68:_=_:=hR 68 (by decide);have r71:_=_:=hR 71 (by decide);simp[Region.wanted,Jg,go_sem,execOp,upT,r68,r71,hwu,hwu2,u0,u1,hsum];exact⟨rfl,hC⟩
      ·intro L a w' hL hl hall hC hR;have r58:_=_:=hR 58 (by decide);have r61:_=_:=hR 61 (by decide);simp[Region.wanted,Jg,go_sem,execOp,upT,r58,r61,hwu,hwu2,u0,u1,hsum];exact⟨rfl,hC⟩
     ·intro l w4 τ hall hC;simp only[List.take_succ_cons,List.take_zero,jdb];intro v57 _ v58 _ v59 _ v60 _ v61 _ v62 _ v63 _ v64 _ v65 _ v66 _ v67 _ v68 _ v69 _ v70 _ v71 _ v72 h72 v73 h73 hτ;have e73:=h73;have e72:=h72;clear hτ;have e73:v73= .pointer (some ⟨bU,oU+u,none⟩):=e73;have e72:v72= .int .i64 (m.used[u]+((Yg r.Ez:Nat):Int)):=e72;subst e73 e72;have uc9:=Je uc hC
      have yU9:w4.frozen? ⟨bU,oU+u,none⟩=false:=(by(have e:=(hC.block bU HUL.out).trans HUB.out;simp[World.frozen?,e]));have HC9:=Ja hC;clear hC;go_wp2_with fail;go_meet
      case rel=>exact⟨_,HC9.out,rfl⟩
    case rest=>
     obtain⟨wz,hwz⟩: ∃wz,wz=wc:=⟨_,rfl⟩;subst hwz;obtain⟨W7,hb7,hwz⟩:=hcut;have HB7:=Ja (Below.trans HCUT.out (hb7.mono HCUT.out.size));obtain⟨kxq,krq⟩:=HXQ.out;have hz8:=HL8.out;have hbUl:=HWA.out.old _ HWA.out.uin
     have kxw:Blk wz w.heap.size 26 #[.slice A0 m.keys.length c0,.slice (some ⟨bU,oU,none⟩) m.used.length c1,.slice (some ⟨b,0,none⟩) m.Rz.length c2]:=by rw[hwz];exact(Below.heap_setCell _ _ _ _ (by simp only;omega)).trans (kxq.step hb7).out
     have krw:Blk wz (w.heap.size+2) 26 H0:=by rw[hwz];exact(Below.heap_setCell _ _ _ _ (by simp only;omega)).trans (krq.step hb7).out
     have HWZ:=Ja hwz;have f0:=Blk.c0 kxw;have f1:=Blk.c1 kxw;have f2:=Blk.c2 kxw;have g0:=Blk.c0 krw;have g1:=Blk.c1 krw;have g2:=Blk.c2 krw;have y0:=Jb krw 0;have y1:=Jb krw 1;have y2:=Jb krw 2
     have R:=Ja (show Blk (((wz.setCell ⟨w.heap.size+2,0,none⟩ (.slice A0 m.keys.length c0)).setCell ⟨w.heap.size+2,1,none⟩ (.slice (some ⟨bU,oU,none⟩) m.used.length c1)).setCell ⟨w.heap.size+2,2,none⟩ (.slice (some ⟨b,0,none⟩) m.Rz.length c2)) (w.heap.size+2) 26 #[.slice A0 m.keys.length c0,.slice (some ⟨bU,oU,none⟩) m.used.length c1,.slice (some ⟨b,0,none⟩) m.Rz.length c2] from by simpa using((krw.put 0 (.slice A0 m.keys.length c0)).put 1 (.slice (some ⟨bU,oU,none⟩) m.used.length c1)).put 2 (.slice (some ⟨b,0,none⟩) m.Rz.length c2))
     have RO:=Ja (((((Only.refl [w.heap.size+2] wz).setCell (p:=⟨w.heap.size+2,0,none⟩) (.inl (by simp)) (.slice A0 m.keys.length c0))).setCell (p:=⟨w.heap.size+2,1,none⟩) (.inl (by simp)) (.slice (some ⟨bU,oU,none⟩) m.used.length c1)).setCell (p:=⟨w.heap.size+2,2,none⟩) (.inl (by simp)) (.slice (some ⟨b,0,none⟩) m.Rz.length c2))
     clear uc yU x1 x0 x8 hsum hwu hwu2 kxq krq hz8 hbUl kxw krw hwz hb7;go_wp2_with fail;have R:=R.out;have RO:=RO.out;generalize((wz.setCell ⟨w.heap.size+2,0,none⟩ (.slice A0 m.keys.length c0)).setCell ⟨w.heap.size+2,1,none⟩ (.slice (some ⟨bU,oU,none⟩) m.used.length c1)).setCell ⟨w.heap.size+2,2,none⟩ (.slice (some ⟨b,0,none⟩) m.Rz.length c2)=WW at R RO ⊢;have z0:=Blk.c0 R;have z1:=Blk.c1 R
     have z2:=Blk.c2 R;refine bodyPost_ret (v:= .agg #[.slice A0 m.keys.length c0,.slice (some ⟨bU,oU,none⟩) m.used.length c1,.slice (some ⟨b,0,none⟩) m.Rz.length c2]) (by simp[results,Tryz.results45,go_sem,z0,z1,z2]) rfl ?_;rw[HLD.out];rw[HWZ.out] at RO;obtain⟨hq1,ho1⟩:=layd HWA.out HW3.out HGR4.out HS9.out (fun z hz=>HFR4.out z (HF9.out z hz)) HO5.out HL8.out.1 HB7.out RO (by omega)
     exact⟨rfl,hq1,ho1⟩
theorem jcc {w W0 W WW:World} {ch av:List Value} {x:Jl} {a:Ans} {fp ga:List Nat} {H1 H2:Nat} (hR:Rp.houseO.R W0 ch x fp) (hn:fp.Nodup) (hl: ∀z∈fp,w.heap.size≤z∧z≠H1∧z≠H2) (hf:Free W0 fp) (hB:Below W0.heap.size W0 W) (hb:Below w.heap.size w W0) (ha:Rp.ans.R W av a ga) (hna:ga.Nodup) (hla: ∀z∈ga,W0.heap.size≤z) (hfa:Free W ga)
  (RO:Only [H1,H2] W WW) (h1:w.heap.size≤H1∧H1<W0.heap.size) (h2:w.heap.size≤H2∧H2<W0.heap.size):Done w (x,a) (.returned (.tuple #[.agg ch.toArray,.agg av.toArray])) WW:=by
 obtain⟨f',hf',hs⟩:=V8.2 _ _ _ _ hR;have hlt:=Rp.houseO.lt hR;have hkf: ∀z∈fp,WW.heap[z]? =W0.heap[z]? :=fun z hz=>(RO.block z (by have:=hlt z hz;have:=hB.size;omega) (by have:=hl z hz;simp;omega)).trans (hB.block z (hlt z hz));have hka: ∀z∈ga,WW.heap[z]? =W.heap[z]? :=fun z hz=>RO.block z (hfa.lt z hz) (by have:=hla z hz;simp;omega)
 refine⟨ch,av,f',ga,rfl,Rp.house.keep hf' (fun z hz=>hkf z (hs.subset hz)),Rp.ans.keep ha hka,List.nodup_append.2 ⟨hn.sublist hs,hna,fun p hp q hq e=> ?_⟩,fun z hz=> ?_,Free.append ((hf.sublist hs).keep fun z hz=>hkf z (hs.subset hz)) (hfa.keep hka), ?_⟩
 ·have:=hlt p (hs.subset hp);have:=hla q hq;omega
 ·rcases List.mem_append.1 hz with hz|hz
  ·exact(hl z (hs.subset hz)).1
  ·have:=hla z hz;have:=hb.size;omega
 ·exact(hb.trans (hB.mono hb.size)).trans (RO.below (fun z hz=>by simp at hz;omega) (Nat.le_trans hb.size hB.size))
theorem jnq {m:Jl} {p:Xq} {r:Req} (h:(write m p r).2=1): ∃k,Y7 p.Fz r.ref=some k∧(newest m (p.Fz.getD k Y8) r).2=1∧write m p r=(jpm m p k r (newest m (p.Fz.getD k Y8) r).1,1):=by
 unfold write at h ⊢;split at h
 ·cases hk:Y7 p.Fz r.ref with
  |none=>rw[hk] at h;simp at h
  |some k=>
   rw[hk] at h;simp only at h;refine⟨k,rfl, ?_⟩;split at h
   ·simp at h
   split at h
   ·simp at h
   split at h
   ·rename_i h4;exact absurd h h4
   rename_i h1 h2 h3
   split at h
   ·simp at h
   rename_i h4
   have h3':(newest m (p.Fz.getD k Y8) r).2=1:=Decidable.of_not_not h3;refine⟨h3', ?_⟩
   rename_i hm
   rw[if_pos hm];simp only;rw[if_neg h1,if_neg h2,if_neg h3,if_neg h4]
 ·simp at h
theorem jnr {m:Jl} {p:Xq} {r:Req} (h: ¬(write m p r).2=1):(write m p r).1=m:=by
 unfold write at h ⊢;split
 ·rename_i hm
  rw[if_pos hm] at h;cases hk:Y7 p.Fz r.ref with
  |none=>rfl
  |some k=>
   rw[hk] at h;simp only at h ⊢;split
   ·rfl
   split
   ·rfl
   split
   ·rfl
   split
   ·rfl
   rename_i h1 h2 h3 h4
   rw[if_neg h1,if_neg h2,if_neg h3,if_neg h4] at h;exact absurd rfl h
 ·rfl
theorem job {l:List Ref} {n:ByteArray} {k:Nat} (h:Y7 l n=some k):k<l.length:=(List.findIdx?_eq_some_iff_getElem.1 h).1
theorem jah {hs cs:List Value} {x:Jl} {r:Req} {fx fr:List Nat} (w:World) (hx:Rp.house.R w hs x fx) (hr:Rp.req.R w cs r fr) (hf:V9 x) (hq:jdu r):
  Calls Tryz.prog 9 #[.agg hs.toArray,.agg cs.toArray] w (Done w (jai x r)):=by
 obtain⟨E0,m0,d0,e0,rfl,hfe,hqs⟩:=hr;obtain rfl:=hqs.1;have hx0:=hx;obtain⟨A0,n0,c0,f0,A1,n1,c1,f1,A2,n2,c2,f2,rfl,hff,h0,h1,h2⟩:=hx;obtain rfl:=h0.1;obtain rfl:=h1.1;obtain rfl:=h2.1
 have HB0:=((((Below.refl w.heap.size w).alloc nle (.cells #[.slice A0 x.keys.length c0,.slice A1 x.used.length c1,.slice A2 x.Rz.length c2] 26)).alloc (by simp) (.cells (RA r (.slice E0 r.Ez.length d0)) 31)).alloc (by simp;omega) (.cells H0 26)).alloc (by simp;omega) (.cells N0 37)
 have kx:=((((Blk.new w 26 #[.slice A0 x.keys.length c0,.slice A1 x.used.length c1,.slice A2 x.Rz.length c2]).alloc (.cells (RA r (.slice E0 r.Ez.length d0)) 31)).alloc (.cells H0 26)).alloc (.cells N0 37))
 have kq:=(((Blk.new' (w:=w.alloc (.cells #[.slice A0 x.keys.length c0,.slice A1 x.used.length c1,.slice A2 x.Rz.length c2] 26)) (H:=w.heap.size+1) (by simp) 31 (RA r (.slice E0 r.Ez.length d0))).alloc (.cells H0 26)).alloc (.cells N0 37))
 have kh:=((Blk.new' (w:=(w.alloc (.cells #[.slice A0 x.keys.length c0,.slice A1 x.used.length c1,.slice A2 x.Rz.length c2] 26)).alloc (.cells (RA r (.slice E0 r.Ez.length d0)) 31)) (H:=w.heap.size+2) (by simp) 26 H0).alloc (.cells N0 37))
 have ka:=(Blk.new' (w:=((w.alloc (.cells #[.slice A0 x.keys.length c0,.slice A1 x.used.length c1,.slice A2 x.Rz.length c2] 26)).alloc (.cells (RA r (.slice E0 r.Ez.length d0)) 31)).alloc (.cells H0 26)) (H:=w.heap.size+3) (by simp) 37 N0);have HHx:=Ja (fun(W:World) (hb:Below w.heap.size w W)=>Rp.house.below hx0 hb nle);have HEL:=Ja hqs.lt;have HXL:=Ja (Rp.house.lt hx0)
 have HEx:=Ja (fun(W:World) (hb:Below w.heap.size w W)=>hqs.step hb);have HF:=Ja hf;have HQ:=Ja hq;clear hx0 hff h0 h1 h2 hqs hfe hf hq;go_enter Tryz.func9,Tryz.ntmps9;go_upto_region 1 with fail
 generalize hW0:(((w.alloc (.cells #[.slice A0 x.keys.length c0,.slice A1 x.used.length c1,.slice A2 x.Rz.length c2] 26)).alloc (.cells (RA r (.slice E0 r.Ez.length d0)) 31)).alloc (.cells H0 26)).alloc (.cells N0 37)=w0 at HB0 kx kq kh ka ⊢;clear hW0;have HKX:=Ja (fun(W:World) (hb:Below w0.heap.size w0 W)=>kx.step hb);have HKQ:=Ja (fun(W:World) (hb:Below w0.heap.size w0 W)=>kq.step hb)
 have HKH:=Ja (fun(W:World) (hb:Below w0.heap.size w0 W)=>kh.step hb);have HKA:=Ja (fun(W:World) (hb:Below w0.heap.size w0 W)=>ka.step hb);have HB0:=Ja HB0;have HL3:=Ja ka.lt;clear kx kq kh ka;have i0:=Blk.c0 (HKX.out w0 (Below.refl _ _));have i1:=Blk.c1 (HKX.out w0 (Below.refl _ _));have i2:=Blk.c2 (HKX.out w0 (Below.refl _ _));go_wp2_with fail
 refine(jhe (x:=x) _ (HHx.out _ HB0.out) HF.out).mono ?_;rintro e w1 ⟨rfl,hb1⟩;have HB1:=Ja hb1;clear hb1 i0 i1 i2;cases hok:Ys x
 ·have HE:=Ja (show jai x r=(⟨[],[],[]⟩,⟨0,[],[],0⟩) from jdn (fun h=>by rw[hok] at h;cases h.1));clear hok;have kh:=HKH.out w1 HB1.out;have ka:=HKA.out w1 HB1.out;have p0:=Jb kh 0;have s0:=Blk.c0 kh;have p1:=Jb kh 1;have s1:=Blk.c1 kh;have p2:=Jb kh 2;have s2:=Blk.c2 kh;have y0:=Jb ka 0;have d0:=Blk.c0 ka;have y1:=Jb ka 1;have d1:=Blk.c1 ka
  have y2:=Jb ka 2;have d2:=Blk.c2 ka;have y3:=Jb ka 3;have d3:=Blk.c3 ka;have RR:=Ja (Zo kh ka (by omega) (.slice none 0 0) (.slice none 0 0) (.slice none 0 0) (.int .i64 0) (.slice none 0 0) (.slice none 0 0) (.int .i64 0));clear kh ka;go_wp2_with fail;obtain⟨R,R2,RO⟩:=RR.out
  generalize(((((((w1.setCell ⟨w.heap.size+2,0,none⟩ (.slice none 0 0)).setCell ⟨w.heap.size+2,1,none⟩ (.slice none 0 0)).setCell ⟨w.heap.size+2,2,none⟩ (.slice none 0 0)).setCell ⟨w.heap.size+3,0,none⟩ (.int .i64 0)).setCell ⟨w.heap.size+3,1,none⟩ (.slice none 0 0)).setCell ⟨w.heap.size+3,2,none⟩ (.slice none 0 0)).setCell ⟨w.heap.size+3,3,none⟩ (.int .i64 0))=WW at R R2 RO ⊢;have z0:=Blk.c0 R
  have z1:=Blk.c1 R;have z2:=Blk.c2 R;have e0:=Blk.c0 R2;have e1:=Blk.c1 R2;have e2:=Blk.c2 R2;have e3:=Blk.c3 R2;refine bodyPost_ret (v:= .tuple #[.agg H0,.agg N0]) (by simp[results,Tryz.results9,go_sem,z0,z1,z2,e0,e1,e2,e3]) rfl ?_;rw[HE.out]
  exact⟨[.slice none 0 0,.slice none 0 0,.slice none 0 0],[.int .i64 0,.slice none 0 0,.slice none 0 0,.int .i64 0],[],[],rfl,jdr _,Wo 0 _,by simp,by simp,Free.nil _,(Below.t HB0.out HB1.out).trans (RO.below (by intro z hz;simp at hz;omega) (Below.t HB0.out HB1.out).size)⟩
 have HOK:=Ja hok;clear hok;have x0:=Blk.c0 (HKQ.out w1 HB1.out);have x1:=Blk.c1 (HKQ.out w1 HB1.out);have x2:=Blk.c2 (HKQ.out w1 HB1.out);have x3:=Blk.c3 (HKQ.out w1 HB1.out);have x4:=Blk.c4 (HKQ.out w1 HB1.out);have x5:=Blk.c5 (HKQ.out w1 HB1.out);have x6:=Blk.c6 (HKQ.out w1 HB1.out);have x7:=Blk.c7 (HKQ.out w1 HB1.out);have x8:=Blk.c8 (HKQ.out w1 HB1.out);have x9:=Blk.c9 (HKQ.out w1 HB1.out)
 have x10:=Blk.c10 (HKQ.out w1 HB1.out);have x11:=Blk.c11 (HKQ.out w1 HB1.out);have x12:=Blk.c12 (HKQ.out w1 HB1.out);have x13:=Blk.c13 (HKQ.out w1 HB1.out);have x14:=Blk.c14 (HKQ.out w1 HB1.out);go_wp2_with fail;clear x0 x1 x2 x3 x4 x5 x6 x7 x8 x9 x10 x11 x12 x13 x14;refine(jhd (x:=r) _ ⟨E0,_,d0,e0,rfl,rfl,HEx.out _ (Below.t HB0.out HB1.out)⟩ HQ.out).mono ?_;rintro e w2 ⟨rfl,hb2⟩
 have HB2:=Ja (Below.t HB1.out hb2);clear hb2;cases hrq:Yw r
 ·have HE:=Ja (show jai x r=(⟨[],[],[]⟩,⟨0,[],[],0⟩) from jdn (fun h=>by rw[hrq] at h;cases h.2));clear hrq;have kh:=HKH.out w2 HB2.out;have ka:=HKA.out w2 HB2.out;have p0:=Jb kh 0;have s0:=Blk.c0 kh;have p1:=Jb kh 1;have s1:=Blk.c1 kh;have p2:=Jb kh 2;have s2:=Blk.c2 kh;have y0:=Jb ka 0;have d0:=Blk.c0 ka;have y1:=Jb ka 1;have d1:=Blk.c1 ka
  have y2:=Jb ka 2;have d2:=Blk.c2 ka;have y3:=Jb ka 3;have d3:=Blk.c3 ka;have RR:=Ja (Zo kh ka (by omega) (.slice none 0 0) (.slice none 0 0) (.slice none 0 0) (.int .i64 0) (.slice none 0 0) (.slice none 0 0) (.int .i64 0));clear kh ka;go_wp2_with fail;obtain⟨R,R2,RO⟩:=RR.out
  generalize(((((((w2.setCell ⟨w.heap.size+2,0,none⟩ (.slice none 0 0)).setCell ⟨w.heap.size+2,1,none⟩ (.slice none 0 0)).setCell ⟨w.heap.size+2,2,none⟩ (.slice none 0 0)).setCell ⟨w.heap.size+3,0,none⟩ (.int .i64 0)).setCell ⟨w.heap.size+3,1,none⟩ (.slice none 0 0)).setCell ⟨w.heap.size+3,2,none⟩ (.slice none 0 0)).setCell ⟨w.heap.size+3,3,none⟩ (.int .i64 0))=WW at R R2 RO ⊢;have z0:=Blk.c0 R
  have z1:=Blk.c1 R;have z2:=Blk.c2 R;have e0:=Blk.c0 R2;have e1:=Blk.c1 R2;have e2:=Blk.c2 R2;have e3:=Blk.c3 R2;refine bodyPost_ret (v:= .tuple #[.agg H0,.agg N0]) (by simp[results,Tryz.results9,go_sem,z0,z1,z2,e0,e1,e2,e3]) rfl ?_;rw[HE.out]
  exact⟨[.slice none 0 0,.slice none 0 0,.slice none 0 0],[.int .i64 0,.slice none 0 0,.slice none 0 0,.int .i64 0],[],[],rfl,jdr _,Wo 0 _,by simp,by simp,Free.nil _,(Below.t HB0.out HB2.out).trans (RO.below (by intro z hz;simp at hz;omega) (Below.t HB0.out HB2.out).size)⟩
 have HRQ:=Ja hrq;have HE:=Ja (show jai x r=Zn x r from jhr ⟨HOK.out,hrq⟩);have HQF:=Ja (ReqFit.of hrq);clear hrq;have i0:=Blk.c0 (HKX.out w2 HB2.out);have i1:=Blk.c1 (HKX.out w2 HB2.out);have i2:=Blk.c2 (HKX.out w2 HB2.out);go_wp2_with fail;refine(jea (x:=x) _ (HHx.out _ (Below.t HB0.out HB2.out)) (SmallHouse.of HOK.out)).mono ?_;rintro e w3 ⟨ch1,fp1,rfl,hR1,hn1,hl1,hf1,hb3⟩
 have HB3:=Ja (Below.t HB2.out hb3);have HR1:=Ja hR1;have HO1:=Ja (And.intro hn1 (And.intro hl1 hf1));obtain⟨K0,l0,k0,g0,K1,l1,k1,g1,v2,g2,hch,_,q0,q1,q2⟩:=hR1;subst hch;obtain⟨K2,k2,_,rfl,_,_,_,_⟩:=q2.sl;obtain rfl:=q0.1;obtain rfl:=q1.1;clear hb3 hn1 hl1 hf1 q0 q1 q2 i0 i1 i2;go_upto_region 4 with fail
 obtain⟨w4,hw4⟩: ∃w4,w4=w3.alloc (.cells #[.slice K0 x.keys.length k0,.slice K1 x.used.length k1,.slice K2 x.Rz.length k2] 26):=⟨_,rfl⟩;rw[←hw4];have HD4:=Ja (show Below w3.heap.size w3 w4 from hw4▸(Below.refl _ _).alloc nle _);have HB4:=Ja (Below.t HB3.out HD4.out)
 have hk4:=(show Blk w4 w3.heap.size 26 #[.slice K0 x.keys.length k0,.slice K1 x.used.length k1,.slice K2 x.Rz.length k2] from hw4▸Blk.new w3 _ _);have HKC:=Ja (fun(W:World) (hb:Below w4.heap.size w4 W)=>hk4.step hb);clear hw4 hk4;have i0:=Blk.c0 (HKX.out w4 HB4.out)
 go_wp2_with((refine wpList_load_row rfl 31 (.tmp 3) rfl _ rfl _ _ _ _ (HKQ.out w4 HB4.out).out Tryz.underlying31 rfl Vi ?_));obtain⟨_,_,_,fk,_,_,_,fu,_,_,_,_,he0,hff0,hk0,hu0,hr0⟩:=HHx.out w4 (Below.t HB0.out HB4.out);simp only[List.cons.injEq,Value.slice.injEq,and_true] at he0;obtain⟨⟨rfl,rfl,rfl⟩,⟨rfl,rfl,rfl⟩,rfl,rfl,rfl⟩:=he0;have HU0:=Ja hu0
 have HXU:=Ja (show ∀z∈fu,z<w.heap.size from fun z hz=>HXL.out z (by rw[hff0];simp[hz]));clear hff0;refine(jkr (keys:=x.keys) (r:=r) _ hk0 ⟨E0,_,d0,e0,rfl,rfl,HEx.out _ (Below.t HB0.out HB4.out)⟩ HQF.out.ints.1).mono ?_;rintro e w5 ⟨rfl,hb5⟩;have HD5:=Ja hb5;have HB5:=Ja (Below.t HB4.out hb5);clear hb5 i0 hk0 hr0 hu0;cases hkn:knows x.keys r.user r.key
 ·have HKN:=Ja hkn;clear hkn;go_upto_region 5 with fail
  have HD:=Ja (show Zn x r=(x,code 2) by unfold Zn;rw[HKN.out];rfl);have o0:=Blk.c0 (HKC.out w5 HD5.out);have o1:=Blk.c1 (HKC.out w5 HD5.out);have o2:=Blk.c2 (HKC.out w5 HD5.out);go_wp2_with fail;refine Xs fun K hK=> ?_;have HKK:=Ja hK;clear hK
  go_region_law (first
   |(refine J9 rfl 39 (enters_of Tryz.func39 (by kernel_rfl) rfl) rfl _ (by simp[Act.eval,Act.put]) ((Ze 2 _).mono ?_);rintro e w7 ⟨rfl,hb7⟩;refine⟨_,rfl, ?_⟩;have HD7:=Ja (Below.t HD5.out (Below.past hb7));have HB7:=Ja (Below.t HB4.out HD7.out);have u0:=(HKC.out w7 HD7.out).cell 0;have u1:=(HKC.out w7 HD7.out).cell 1;have u2:=(HKC.out w7 HD7.out).cell 2;clear hb7;have kh:=HKH.out w7 HB7.out;have ka:=HKA.out w7 HB7.out;have p0:=Jb kh 0;have s0:w7.cell? ⟨w.heap.size+2,0,none⟩=some (.slice none 0 0):=kh.cell 0;have p1:=Jb kh 1;have s1:w7.cell? ⟨w.heap.size+2,1,none⟩=some (.slice none 0 0):=kh.cell 1;have p2:=Jb kh 2;have s2:w7.cell? ⟨w.heap.size+2,2,none⟩=some (.slice none 0 0):=kh.cell 2;have y0:=Jb ka 0;have d0:w7.cell? ⟨w.heap.size+3,0,none⟩=some (.int .i64 0):=ka.cell 0;have y1:=Jb ka 1;have d1:w7.cell? ⟨w.heap.size+3,1,none⟩=some (.slice none 0 0):=ka.cell 1;have y2:=Jb ka 2;have d2:w7.cell? ⟨w.heap.size+3,2,none⟩=some (.slice none 0 0):=ka.cell 2;have y3:=Jb ka 3;have d3:w7.cell? ⟨w.heap.size+3,3,none⟩=some (.int .i64 0):=ka.cell 3;have RR:=Ja (Zo kh ka (by omega) (.slice K0 x.keys.length k0) (.slice K1 x.used.length k1) (.slice K2 x.Rz.length k2) (.int .i64 2) (.slice none 0 0) (.slice none 0 0) (.int .i64 0));clear kh ka)
   |fail)
  all_goals
   refine HKK.out _ _ ?_;clear HKK K;go_wp2_with fail;obtain⟨R,R2,RO⟩:=RR.out
   generalize(((((((w7.setCell ⟨w.heap.size+2,0,none⟩ (.slice K0 x.keys.length k0)).setCell ⟨w.heap.size+2,1,none⟩ (.slice K1 x.used.length k1)).setCell ⟨w.heap.size+2,2,none⟩ (.slice K2 x.Rz.length k2)).setCell ⟨w.heap.size+3,0,none⟩ (.int .i64 2)).setCell ⟨w.heap.size+3,1,none⟩ (.slice none 0 0)).setCell ⟨w.heap.size+3,2,none⟩ (.slice none 0 0)).setCell ⟨w.heap.size+3,3,none⟩ (.int .i64 0))=WW at R R2 RO ⊢
   have z0:=Blk.c0 R;have z1:=Blk.c1 R;have z2:=Blk.c2 R;have e0:=Blk.c0 R2;have e1:=Blk.c1 R2;have e2:=Blk.c2 R2;have e3:=Blk.c3 R2;refine bodyPost_ret (v:= .tuple #[.agg #[.slice K0 x.keys.length k0,.slice K1 x.used.length k1,.slice K2 x.Rz.length k2],.agg #[.int .i64 2,.slice none 0 0,.slice none 0 0,.int .i64 0]]) (by simp[results,Tryz.results9,go_sem,z0,z1,z2,e0,e1,e2,e3]) rfl ?_
   rw[HE.out,HD.out];exact jcc (W0:=w3) HR1.out HO1.out.1 (fun z hz=>by have:=HO1.out.2.1 z hz;have:=HL3.out;have:=HB2.out.size;have:=HB0.out.size;omega) HO1.out.2.2 (Below.t HD4.out HD7.out) (Below.t HB0.out HB3.out) (Wo _ _) List.nodup_nil (by simp) (Free.nil _) RO ⟨by omega,by have:=HL3.out;have:=HB3.out.size;omega⟩ ⟨by omega,by have:=HL3.out;have:=HB3.out.size;omega⟩
 have HKN:=Ja hkn;clear hkn;by_cases k11:r.kind=11
 ·have K11:=Ja k11;have x3:w5.cell? ⟨w.heap.size+1,3,none⟩=some (.int .i64 11):=by rw[←K11.out];exact(HKQ.out w5 HB5.out).cell 3
  clear k11;obtain⟨uu,huu1,huu2⟩:=jb6 HKN.out;have hul:uu<x.used.length:=by have:=(J8.1 (Jo.1 HOK.out).1).2.1;omega
  have hub:=HQF.out.ints.1;have hwu:IntKind.i64.wrap ((uu:Int)+1 - 1)=(uu:Int):=by rw[IntWalk.i64_in _ (by omega)];omega
  have hwu2:IntKind.i64.wrap (uu:Int)=(uu:Int):=IntWalk.i64_in _ (by omega);have u0:(0:Int)≤(uu:Int):=by omega
  have u1:(uu:Int)<(x.used.length:Int):=by omega
  have HD:=Ja (show Zn x r=(x,⟨1,[],[],x.used[uu]⟩) by unfold Zn;rw[if_pos HKN.out,if_pos K11.out,huu1,show((uu:Int)+1 - 1).toNat=uu by omega,J4 hul]);obtain⟨bU,oU,hbo,hbU,hmU,uc⟩:=Xg (HU0.out.step HD5.out) hul;subst hbo;have HNU:=Ja (show bU<w.heap.size from HXU.out _ hmU);clear hbU hmU
  have x0:w5.cell? ⟨w.heap.size+1,0,none⟩=some (.int .i64 ((uu:Int)+1)):=by rw[←huu1];exact(HKQ.out w5 HB5.out).cell 0
  have i1:=Blk.c1 (HKX.out w5 HB5.out);clear huu1 huu2 hub;go_upto_region 7 with fail
  have o0:=Blk.c0 (HKC.out w5 HD5.out);have o1:=Blk.c1 (HKC.out w5 HD5.out);have o2:=Blk.c2 (HKC.out w5 HD5.out);have kh:=HKH.out w5 HB5.out;have ka:=HKA.out w5 HB5.out;have p0:=Jb kh 0;have s0:=Blk.c0 kh;have p1:=Jb kh 1;have s1:=Blk.c1 kh;have p2:=Jb kh 2;have s2:=Blk.c2 kh;have y0:=Jb ka 0;have d0:=Blk.c0 ka;have y1:=Jb ka 1;have d1:=Blk.c1 ka
  have y2:=Jb ka 2;have d2:=Blk.c2 ka;have y3:=Jb ka 3;have d3:=Blk.c3 ka;have RR:=Ja (Zo kh ka (by omega) (.slice K0 x.keys.length k0) (.slice K1 x.used.length k1) (.slice K2 x.Rz.length k2) (.int .i64 1) (.slice none 0 0) (.slice none 0 0) (.int .i64 x.used[uu]));clear kh ka
  have HBS:=Ja (show bU<w.heap.size∧w.heap.size+3<w3.heap.size from⟨HNU.out,by have:=HL3.out;have:=HB3.out.size;omega⟩)
  have G0:w5.cell? ⟨w.heap.size,1,none⟩=some (.slice (some ⟨bU,oU,none⟩) x.used.length c1)∧w5.cell? ⟨w.heap.size+1,0,none⟩=some (.int .i64 ((uu:Int)+1))∧w5.cell? ⟨bU,oU+uu,none⟩=some (.int .i64 x.used[uu])∧w5.cell? ⟨w3.heap.size,0,none⟩=some (.slice K0 x.keys.length k0)∧w5.cell? ⟨w3.heap.size,1,none⟩=some (.slice K1 x.used.length k1)∧w5.cell? ⟨w3.heap.size,2,none⟩=some (.slice K2 x.Rz.length k2):=⟨i1,x0,uc,o0,o1,o2⟩
  have G3:=Ja (show ∀(W:World) (v0 v1 v2:Value),(W.cell? ⟨w.heap.size,1,none⟩=some (.slice (some ⟨bU,oU,none⟩) x.used.length c1)∧W.cell? ⟨w.heap.size+1,0,none⟩=some (.int .i64 ((uu:Int)+1))∧W.cell? ⟨bU,oU+uu,none⟩=some (.int .i64 x.used[uu])∧W.cell? ⟨w3.heap.size,0,none⟩=some (.slice K0 x.keys.length k0)∧W.cell? ⟨w3.heap.size,1,none⟩=some (.slice K1 x.used.length k1)∧W.cell? ⟨w3.heap.size,2,none⟩=some (.slice K2 x.Rz.length k2))→(((W.setCell ⟨w.heap.size+1+1,0,none⟩ v0).setCell ⟨w.heap.size+1+1,1,none⟩ v1).setCell ⟨w.heap.size+1+1,2,none⟩ v2).cell? ⟨w.heap.size,1,none⟩=some (.slice (some ⟨bU,oU,none⟩) x.used.length c1)∧(((W.setCell ⟨w.heap.size+1+1,0,none⟩ v0).setCell ⟨w.heap.size+1+1,1,none⟩ v1).setCell ⟨w.heap.size+1+1,2,none⟩ v2).cell? ⟨w.heap.size+1,0,none⟩=some (.int .i64 ((uu:Int)+1))∧(((W.setCell ⟨w.heap.size+1+1,0,none⟩ v0).setCell ⟨w.heap.size+1+1,1,none⟩ v1).setCell ⟨w.heap.size+1+1,2,none⟩ v2).cell? ⟨bU,oU+uu,none⟩=some (.int .i64 x.used[uu])∧(((W.setCell ⟨w.heap.size+1+1,0,none⟩ v0).setCell ⟨w.heap.size+1+1,1,none⟩ v1).setCell ⟨w.heap.size+1+1,2,none⟩ v2).cell? ⟨w3.heap.size,0,none⟩=some (.slice K0 x.keys.length k0)∧(((W.setCell ⟨w.heap.size+1+1,0,none⟩ v0).setCell ⟨w.heap.size+1+1,1,none⟩ v1).setCell ⟨w.heap.size+1+1,2,none⟩ v2).cell? ⟨w3.heap.size,1,none⟩=some (.slice K1 x.used.length k1)∧(((W.setCell ⟨w.heap.size+1+1,0,none⟩ v0).setCell ⟨w.heap.size+1+1,1,none⟩ v1).setCell ⟨w.heap.size+1+1,2,none⟩ v2).cell? ⟨w3.heap.size,2,none⟩=some (.slice K2 x.Rz.length k2) from fun W v0 v1 v2 hS=>by
   obtain⟨e1,e2,e3,e4,e5,e6⟩:=hS;have hbs:=HBS.out;refine⟨?_, ?_, ?_, ?_, ?_, ?_⟩<;>(repeat rw[World.cell?_setCell_other _ _ _ _ (by simp only[ne_eq,Addr.mk.injEq];omega)])<;>assumption)
  have G4:=Ja (show ∀(W:World) (v0 v1 v2 v3:Value),(W.cell? ⟨w.heap.size,1,none⟩=some (.slice (some ⟨bU,oU,none⟩) x.used.length c1)∧W.cell? ⟨w.heap.size+1,0,none⟩=some (.int .i64 ((uu:Int)+1))∧W.cell? ⟨bU,oU+uu,none⟩=some (.int .i64 x.used[uu])∧W.cell? ⟨w3.heap.size,0,none⟩=some (.slice K0 x.keys.length k0)∧W.cell? ⟨w3.heap.size,1,none⟩=some (.slice K1 x.used.length k1)∧W.cell? ⟨w3.heap.size,2,none⟩=some (.slice K2 x.Rz.length k2))→((((W.setCell ⟨w.heap.size+1+1+1,0,none⟩ v0).setCell ⟨w.heap.size+1+1+1,1,none⟩ v1).setCell ⟨w.heap.size+1+1+1,2,none⟩ v2).setCell ⟨w.heap.size+1+1+1,3,none⟩ v3).cell? ⟨w.heap.size,1,none⟩=some (.slice (some ⟨bU,oU,none⟩) x.used.length c1)∧((((W.setCell ⟨w.heap.size+1+1+1,0,none⟩ v0).setCell ⟨w.heap.size+1+1+1,1,none⟩ v1).setCell ⟨w.heap.size+1+1+1,2,none⟩ v2).setCell ⟨w.heap.size+1+1+1,3,none⟩ v3).cell? ⟨w.heap.size+1,0,none⟩=some (.int .i64 ((uu:Int)+1))∧((((W.setCell ⟨w.heap.size+1+1+1,0,none⟩ v0).setCell ⟨w.heap.size+1+1+1,1,none⟩ v1).setCell ⟨w.heap.size+1+1+1,2,none⟩ v2).setCell ⟨w.heap.size+1+1+1,3,none⟩ v3).cell? ⟨bU,oU+uu,none⟩=some (.int .i64 x.used[uu])∧((((W.setCell ⟨w.heap.size+1+1+1,0,none⟩ v0).setCell ⟨w.heap.size+1+1+1,1,none⟩ v1).setCell ⟨w.heap.size+1+1+1,2,none⟩ v2).setCell ⟨w.heap.size+1+1+1,3,none⟩ v3).cell? ⟨w3.heap.size,0,none⟩=some (.slice K0 x.keys.length k0)∧((((W.setCell ⟨w.heap.size+1+1+1,0,none⟩ v0).setCell ⟨w.heap.size+1+1+1,1,none⟩ v1).setCell ⟨w.heap.size+1+1+1,2,none⟩ v2).setCell ⟨w.heap.size+1+1+1,3,none⟩ v3).cell? ⟨w3.heap.size,1,none⟩=some (.slice K1 x.used.length k1)∧((((W.setCell ⟨w.heap.size+1+1+1,0,none⟩ v0).setCell ⟨w.heap.size+1+1+1,1,none⟩ v1).setCell ⟨w.heap.size+1+1+1,2,none⟩ v2).setCell ⟨w.heap.size+1+1+1,3,none⟩ v3).cell? ⟨w3.heap.size,2,none⟩=some (.slice K2 x.Rz.length k2) from fun W v0 v1 v2 v3 hS=>by
   obtain⟨e1,e2,e3,e4,e5,e6⟩:=hS;have hbs:=HBS.out;refine⟨?_, ?_, ?_, ?_, ?_, ?_⟩<;>(repeat rw[World.cell?_setCell_other _ _ _ _ (by simp only[ne_eq,Addr.mk.injEq];omega)])<;>assumption)
  have GD:=Ja (show ∀W:World,(W.cell? ⟨w.heap.size,1,none⟩=some (.slice (some ⟨bU,oU,none⟩) x.used.length c1)∧W.cell? ⟨w.heap.size+1,0,none⟩=some (.int .i64 ((uu:Int)+1))∧W.cell? ⟨bU,oU+uu,none⟩=some (.int .i64 x.used[uu])∧W.cell? ⟨w3.heap.size,0,none⟩=some (.slice K0 x.keys.length k0)∧W.cell? ⟨w3.heap.size,1,none⟩=some (.slice K1 x.used.length k1)∧W.cell? ⟨w3.heap.size,2,none⟩=some (.slice K2 x.Rz.length k2))→W.drew.cell? ⟨w.heap.size,1,none⟩=some (.slice (some ⟨bU,oU,none⟩) x.used.length c1)∧W.drew.cell? ⟨w.heap.size+1,0,none⟩=some (.int .i64 ((uu:Int)+1))∧W.drew.cell? ⟨bU,oU+uu,none⟩=some (.int .i64 x.used[uu])∧W.drew.cell? ⟨w3.heap.size,0,none⟩=some (.slice K0 x.keys.length k0)∧W.drew.cell? ⟨w3.heap.size,1,none⟩=some (.slice K1 x.used.length k1)∧W.drew.cell? ⟨w3.heap.size,2,none⟩=some (.slice K2 x.Rz.length k2) from fun W h=>h)
  clear i1 x0 uc o0 o1 o2;go_wp2_with fail;refine Xs fun K hK=> ?_;have HKK:=Ja hK;clear hK
  go_region_held3 (fun w'=>w'.cell? ⟨w.heap.size,1,none⟩=some (.slice (some ⟨bU,oU,none⟩) x.used.length c1)∧w'.cell? ⟨w.heap.size+1,0,none⟩=some (.int .i64 ((uu:Int)+1))∧w'.cell? ⟨bU,oU+uu,none⟩=some (.int .i64 x.used[uu])∧w'.cell? ⟨w3.heap.size,0,none⟩=some (.slice K0 x.keys.length k0)∧w'.cell? ⟨w3.heap.size,1,none⟩=some (.slice K1 x.used.length k1)∧w'.cell? ⟨w3.heap.size,2,none⟩=some (.slice K2 x.Rz.length k2))
   ((repeat(first|with_reducible exact G0|(with_reducible refine GD.out _ ?_)|(with_reducible refine G3.out _ _ _ _ ?_)|(with_reducible refine G4.out _ _ _ _ _ ?_))))
   (fail)
  all_goals
   refine HKK.out _ _ ?_;clear HKK K;go_wp2_with fail;obtain⟨R,R2,RO⟩:=RR.out
   generalize(((((((w5.setCell ⟨w.heap.size+2,0,none⟩ (.slice K0 x.keys.length k0)).setCell ⟨w.heap.size+2,1,none⟩ (.slice K1 x.used.length k1)).setCell ⟨w.heap.size+2,2,none⟩ (.slice K2 x.Rz.length k2)).setCell ⟨w.heap.size+3,0,none⟩ (.int .i64 1)).setCell ⟨w.heap.size+3,1,none⟩ (.slice none 0 0)).setCell ⟨w.heap.size+3,2,none⟩ (.slice none 0 0)).setCell ⟨w.heap.size+3,3,none⟩ (.int .i64 x.used[uu]))=WW at R R2 RO ⊢
   have z0:=Blk.c0 R;have z1:=Blk.c1 R;have z2:=Blk.c2 R;have e0:=Blk.c0 R2;have e1:=Blk.c1 R2;have e2:=Blk.c2 R2;have e3:=Blk.c3 R2;refine bodyPost_ret (v:= .tuple #[.agg #[.slice K0 x.keys.length k0,.slice K1 x.used.length k1,.slice K2 x.Rz.length k2],.agg #[.int .i64 1,.slice none 0 0,.slice none 0 0,.int .i64 x.used[uu]]]) (by simp[results,Tryz.results9,go_sem,z0,z1,z2,e0,e1,e2,e3]) rfl ?_
   rw[HE.out,HD.out];replace RO:=RO.drew
   exact jcc (W0:=w3) HR1.out HO1.out.1 (fun z hz=>by have:=HO1.out.2.1 z hz;have:=HL3.out;have:=HB2.out.size;have:=HB0.out.size;omega) HO1.out.2.2 (Below.t HD4.out HD5.out) (Below.t HB0.out HB3.out) (⟨none,0,0,[],none,0,0,[],rfl,rfl,SlR.nil,SlR.nil⟩) List.nodup_nil (by simp) (Free.nil _) RO ⟨by omega,by have:=HL3.out;have:=HB3.out.size;omega⟩ ⟨by omega,by have:=HL3.out;have:=HB3.out.size;omega⟩
 have K11:=Ja k11;obtain⟨i,hri⟩: ∃i:Nat,r.repo=(i:Int):=⟨r.repo.toNat,by have:=HQF.out.ints.2.1;omega⟩;have HRI:=Ja hri;have HTI:=Ja (show r.repo.toNat=i by rw[hri];rfl);have x3:=Blk.c3 (HKQ.out w5 HB5.out);have x2:w5.cell? ⟨w.heap.size+1,2,none⟩=some (.int .i64 (i:Int)):=by rw[←hri];exact(HKQ.out w5 HB5.out).cell 2
 have i2:=Blk.c2 (HKX.out w5 HB5.out);clear hri;by_cases hi:i<x.Rz.length
 case neg=>
  have hi':(x.Rz.length:Int)≤(i:Int):=by omega
  have HNI:=Ja (show x.Rz[r.repo.toNat]? =none by rw[HTI.out];exact List.getElem?_eq_none (by omega));clear hi;go_upto_region 9 with fail
  clear k11 x3 x2 i2 hi';have HD:=Ja (show Zn x r=(x,code 3) by unfold Zn;rw[if_pos HKN.out,if_neg K11.out,HNI.out]);have o0:=Blk.c0 (HKC.out w5 HD5.out);have o1:=Blk.c1 (HKC.out w5 HD5.out);have o2:=Blk.c2 (HKC.out w5 HD5.out);go_wp2_with fail;refine Xs fun K hK=> ?_;have HKK:=Ja hK;clear hK
  go_region_law (first
   |(refine J9 rfl 39 (enters_of Tryz.func39 (by kernel_rfl) rfl) rfl _ (by simp[Act.eval,Act.put]) ((Ze 3 _).mono ?_);rintro e w7 ⟨rfl,hb7⟩;refine⟨_,rfl, ?_⟩;have HD7:=Ja (Below.t HD5.out (Below.past hb7));have HB7:=Ja (Below.t HB4.out HD7.out);have u0:=(HKC.out w7 HD7.out).cell 0;have u1:=(HKC.out w7 HD7.out).cell 1;have u2:=(HKC.out w7 HD7.out).cell 2;clear hb7;have kh:=HKH.out w7 HB7.out;have ka:=HKA.out w7 HB7.out;have p0:=Jb kh 0;have s0:w7.cell? ⟨w.heap.size+2,0,none⟩=some (.slice none 0 0):=kh.cell 0;have p1:=Jb kh 1;have s1:w7.cell? ⟨w.heap.size+2,1,none⟩=some (.slice none 0 0):=kh.cell 1;have p2:=Jb kh 2;have s2:w7.cell? ⟨w.heap.size+2,2,none⟩=some (.slice none 0 0):=kh.cell 2;have y0:=Jb ka 0;have d0:w7.cell? ⟨w.heap.size+3,0,none⟩=some (.int .i64 0):=ka.cell 0;have y1:=Jb ka 1;have d1:w7.cell? ⟨w.heap.size+3,1,none⟩=some (.slice none 0 0):=ka.cell 1;have y2:=Jb ka 2;have d2:w7.cell? ⟨w.heap.size+3,2,none⟩=some (.slice none 0 0):=ka.cell 2;have y3:=Jb ka 3;have d3:w7.cell? ⟨w.heap.size+3,3,none⟩=some (.int .i64 0):=ka.cell 3;have RR:=Ja (Zo kh ka (by omega) (.slice K0 x.keys.length k0) (.slice K1 x.used.length k1) (.slice K2 x.Rz.length k2) (.int .i64 3) (.slice none 0 0) (.slice none 0 0) (.int .i64 0));clear kh ka)
   |fail)
  all_goals
   refine HKK.out _ _ ?_;clear HKK K;go_wp2_with fail;obtain⟨R,R2,RO⟩:=RR.out
   generalize(((((((w7.setCell ⟨w.heap.size+2,0,none⟩ (.slice K0 x.keys.length k0)).setCell ⟨w.heap.size+2,1,none⟩ (.slice K1 x.used.length k1)).setCell ⟨w.heap.size+2,2,none⟩ (.slice K2 x.Rz.length k2)).setCell ⟨w.heap.size+3,0,none⟩ (.int .i64 3)).setCell ⟨w.heap.size+3,1,none⟩ (.slice none 0 0)).setCell ⟨w.heap.size+3,2,none⟩ (.slice none 0 0)).setCell ⟨w.heap.size+3,3,none⟩ (.int .i64 0))=WW at R R2 RO ⊢
   have z0:=Blk.c0 R;have z1:=Blk.c1 R;have z2:=Blk.c2 R;have e0:=Blk.c0 R2;have e1:=Blk.c1 R2;have e2:=Blk.c2 R2;have e3:=Blk.c3 R2;refine bodyPost_ret (v:= .tuple #[.agg #[.slice K0 x.keys.length k0,.slice K1 x.used.length k1,.slice K2 x.Rz.length k2],.agg #[.int .i64 3,.slice none 0 0,.slice none 0 0,.int .i64 0]]) (by simp[results,Tryz.results9,go_sem,z0,z1,z2,e0,e1,e2,e3]) rfl ?_
   rw[HE.out,HD.out];exact jcc (W0:=w3) HR1.out HO1.out.1 (fun z hz=>by have:=HO1.out.2.1 z hz;have:=HL3.out;have:=HB2.out.size;have:=HB0.out.size;omega) HO1.out.2.2 (Below.t HD4.out HD7.out) (Below.t HB0.out HB3.out) (Wo _ _) List.nodup_nil (by simp) (Free.nil _) RO ⟨by omega,by have:=HL3.out;have:=HB3.out.size;omega⟩ ⟨by omega,by have:=HL3.out;have:=HB3.out.size;omega⟩
 have HI:=Ja hi;have hi': ¬(x.Rz.length:Int)≤(i:Int):=by omega
 have HNI:=Ja (show x.Rz[r.repo.toNat]? =some x.Rz[i] by rw[HTI.out];exact List.getElem?_eq_getElem hi);have HPF:=Ja (show ∀p∈x.Rz,RepoFit p from fun p hp=>RepoFit.of ((Jo.1 HOK.out).2.2 p hp));by_cases k2:r.kind=2
 ·have K2':=Ja k2;have x3:w5.cell? ⟨w.heap.size+1,3,none⟩=some (.int .i64 2):=by rw[←k2];exact(HKQ.out w5 HB5.out).cell 3
  go_upto_region 11 with fail
  clear k11 k2 x3 x2 i2 hi';have HD:=Ja (show Zn x r=(x,look x.Rz[i] r) by unfold Zn;rw[if_pos HKN.out,if_neg K11.out,HNI.out];exact if_pos K2'.out);have o0:=Blk.c0 (HKC.out w5 HD5.out);have o1:=Blk.c1 (HKC.out w5 HD5.out);have o2:=Blk.c2 (HKC.out w5 HD5.out);have x0:=Blk.c0 (HKQ.out w5 HB5.out);have x1:=Blk.c1 (HKQ.out w5 HB5.out);have x2:=Blk.c2 (HKQ.out w5 HB5.out)
  have x3:=Blk.c3 (HKQ.out w5 HB5.out);have x4:=Blk.c4 (HKQ.out w5 HB5.out);have x5:=Blk.c5 (HKQ.out w5 HB5.out);have x6:=Blk.c6 (HKQ.out w5 HB5.out);have x7:=Blk.c7 (HKQ.out w5 HB5.out);have x8:=Blk.c8 (HKQ.out w5 HB5.out);have x9:=Blk.c9 (HKQ.out w5 HB5.out);have x10:=Blk.c10 (HKQ.out w5 HB5.out);have x11:=Blk.c11 (HKQ.out w5 HB5.out);have x12:=Blk.c12 (HKQ.out w5 HB5.out)
  have x13:=Blk.c13 (HKQ.out w5 HB5.out);have x14:=Blk.c14 (HKQ.out w5 HB5.out);go_wp2_with fail;refine Xs fun K hK=> ?_;have HKK:=Ja hK;clear hK
  go_region_law (first
   |(refine J9 rfl 40 (enters_of Tryz.func40 (by kernel_rfl) rfl) rfl _ (by simp[Act.eval,Act.put]) ((jm7 (m:=x) (r:=r) (i:=i) _ (V8.2 _ _ _ _ (Rp.houseO.below HR1.out (Below.t HD4.out (Below.t HD5.out (by first|exact(Below.refl _ _).drew|exact Below.refl _ _))) nle)).choose_spec.1 ⟨E0,_,d0,e0,rfl,rfl,HEx.out _ (Below.t HB0.out (Below.t HB5.out (by first|exact(Below.refl _ _).drew|exact Below.refl _ _)))⟩ HRI.out HI.out HPF.out HQF.out).mono ?_);rintro e w7 ⟨av,ga,rfl,hRa,hna,hla,hfa,hb7⟩;refine⟨_,rfl, ?_⟩;obtain⟨AF,nF,cF,fF,AN,nN,cN,fN,hav,hffa,hsF,hsN⟩:=id hRa;subst hav;have HRA:=Ja hRa;have HNA:=Ja hna;have HLA:=Ja hla;have HFA:=Ja hfa;have HD7:=Ja (Below.t HD5.out (Below.past hb7));have HB7:=Ja (Below.t HB4.out HD7.out);have u0:=(HKC.out w7 HD7.out).cell 0;have u1:=(HKC.out w7 HD7.out).cell 1;have u2:=(HKC.out w7 HD7.out).cell 2;clear hRa hna hla hfa hb7 hffa hsF hsN;have kh:=HKH.out w7 HB7.out;have ka:=HKA.out w7 HB7.out;have p0:=Jb kh 0;have s0:w7.cell? ⟨w.heap.size+2,0,none⟩=some (.slice none 0 0):=kh.cell 0;have p1:=Jb kh 1;have s1:w7.cell? ⟨w.heap.size+2,1,none⟩=some (.slice none 0 0):=kh.cell 1;have p2:=Jb kh 2;have s2:w7.cell? ⟨w.heap.size+2,2,none⟩=some (.slice none 0 0):=kh.cell 2;have y0:=Jb ka 0;have d0:w7.cell? ⟨w.heap.size+3,0,none⟩=some (.int .i64 0):=ka.cell 0;have y1:=Jb ka 1;have d1:w7.cell? ⟨w.heap.size+3,1,none⟩=some (.slice none 0 0):=ka.cell 1;have y2:=Jb ka 2;have d2:w7.cell? ⟨w.heap.size+3,2,none⟩=some (.slice none 0 0):=ka.cell 2;have y3:=Jb ka 3;have d3:w7.cell? ⟨w.heap.size+3,3,none⟩=some (.int .i64 0):=ka.cell 3;have RR:=Ja (Zo kh ka (by omega) (.slice K0 x.keys.length k0) (.slice K1 x.used.length k1) (.slice K2 x.Rz.length k2) (.int .i64 (look x.Rz[i] r).code) (.slice AF nF cF) (.slice AN nN cN) (.int .i64 (look x.Rz[i] r).n));clear kh ka)
   |fail)
  all_goals
   refine HKK.out _ _ ?_;clear HKK K;go_wp2_with fail;obtain⟨R,R2,RO⟩:=RR.out
   generalize(((((((w7.setCell ⟨w.heap.size+2,0,none⟩ (.slice K0 x.keys.length k0)).setCell ⟨w.heap.size+2,1,none⟩ (.slice K1 x.used.length k1)).setCell ⟨w.heap.size+2,2,none⟩ (.slice K2 x.Rz.length k2)).setCell ⟨w.heap.size+3,0,none⟩ (.int .i64 (look x.Rz[i] r).code)).setCell ⟨w.heap.size+3,1,none⟩ (.slice AF nF cF)).setCell ⟨w.heap.size+3,2,none⟩ (.slice AN nN cN)).setCell ⟨w.heap.size+3,3,none⟩ (.int .i64 (look x.Rz[i] r).n))=WW at R R2 RO ⊢
   have z0:=Blk.c0 R;have z1:=Blk.c1 R;have z2:=Blk.c2 R;have e0:=Blk.c0 R2;have e1:=Blk.c1 R2;have e2:=Blk.c2 R2;have e3:=Blk.c3 R2
   refine bodyPost_ret (v:= .tuple #[.agg #[.slice K0 x.keys.length k0,.slice K1 x.used.length k1,.slice K2 x.Rz.length k2],.agg #[.int .i64 (look x.Rz[i] r).code,.slice AF nF cF,.slice AN nN cN,.int .i64 (look x.Rz[i] r).n]]) (by simp[results,Tryz.results9,go_sem,z0,z1,z2,e0,e1,e2,e3]) rfl ?_;rw[HE.out,HD.out]
   exact jcc (W0:=w3) HR1.out HO1.out.1 (fun z hz=>by have:=HO1.out.2.1 z hz;have:=HL3.out;have:=HB2.out.size;have:=HB0.out.size;omega) HO1.out.2.2 (Below.t HD4.out HD7.out) (Below.t HB0.out HB3.out) HRA.out HNA.out (fun z hz=>by have:=HLA.out z hz;have:=HD4.out.size;have:=(HD5.out).size;simp at*;omega) HFA.out RO ⟨by omega,by have:=HL3.out;have:=HB3.out.size;omega⟩ ⟨by omega,by have:=HL3.out;have:=HB3.out.size;omega⟩
 have K2':=Ja k2;by_cases k3:r.kind=3
 ·have K3':=Ja k3;have x3:w5.cell? ⟨w.heap.size+1,3,none⟩=some (.int .i64 3):=by rw[←k3];exact(HKQ.out w5 HB5.out).cell 3
  go_upto_region 13 with fail
  clear k11 k2 k3 x3 x2 i2 hi';have HD:=Ja (show Zn x r=(x,jad x.Rz[i] r) by unfold Zn;rw[if_pos HKN.out,if_neg K11.out,HNI.out];dsimp only;rw[if_neg K2'.out,if_pos K3'.out]);have o0:=Blk.c0 (HKC.out w5 HD5.out);have o1:=Blk.c1 (HKC.out w5 HD5.out);have o2:=Blk.c2 (HKC.out w5 HD5.out);have x0:=Blk.c0 (HKQ.out w5 HB5.out);have x1:=Blk.c1 (HKQ.out w5 HB5.out)
  have x2:=Blk.c2 (HKQ.out w5 HB5.out);have x3:=Blk.c3 (HKQ.out w5 HB5.out);have x4:=Blk.c4 (HKQ.out w5 HB5.out);have x5:=Blk.c5 (HKQ.out w5 HB5.out);have x6:=Blk.c6 (HKQ.out w5 HB5.out);have x7:=Blk.c7 (HKQ.out w5 HB5.out);have x8:=Blk.c8 (HKQ.out w5 HB5.out);have x9:=Blk.c9 (HKQ.out w5 HB5.out);have x10:=Blk.c10 (HKQ.out w5 HB5.out);have x11:=Blk.c11 (HKQ.out w5 HB5.out)
  have x12:=Blk.c12 (HKQ.out w5 HB5.out);have x13:=Blk.c13 (HKQ.out w5 HB5.out);have x14:=Blk.c14 (HKQ.out w5 HB5.out);go_wp2_with fail;refine Xs fun K hK=> ?_;have HKK:=Ja hK;clear hK
  go_region_law (first
   |(refine J9 rfl 41 (enters_of Tryz.func41 (by kernel_rfl) rfl) rfl _ (by simp[Act.eval,Act.put]) ((jm4 (m:=x) (r:=r) (i:=i) _ (V8.2 _ _ _ _ (Rp.houseO.below HR1.out (Below.t HD4.out (Below.t HD5.out (by first|exact(Below.refl _ _).drew|exact Below.refl _ _))) nle)).choose_spec.1 ⟨E0,_,d0,e0,rfl,rfl,HEx.out _ (Below.t HB0.out (Below.t HB5.out (by first|exact(Below.refl _ _).drew|exact Below.refl _ _)))⟩ HRI.out HI.out HPF.out HQF.out).mono ?_);rintro e w7 ⟨av,ga,rfl,hRa,hna,hla,hfa,hb7⟩;refine⟨_,rfl, ?_⟩;obtain⟨AF,nF,cF,fF,AN,nN,cN,fN,hav,hffa,hsF,hsN⟩:=id hRa;subst hav;have HRA:=Ja hRa;have HNA:=Ja hna;have HLA:=Ja hla;have HFA:=Ja hfa;have HD7:=Ja (Below.t HD5.out (Below.past hb7));have HB7:=Ja (Below.t HB4.out HD7.out);have u0:=(HKC.out w7 HD7.out).cell 0;have u1:=(HKC.out w7 HD7.out).cell 1;have u2:=(HKC.out w7 HD7.out).cell 2;clear hRa hna hla hfa hb7 hffa hsF hsN;have kh:=HKH.out w7 HB7.out;have ka:=HKA.out w7 HB7.out;have p0:=Jb kh 0;have s0:w7.cell? ⟨w.heap.size+2,0,none⟩=some (.slice none 0 0):=kh.cell 0;have p1:=Jb kh 1;have s1:w7.cell? ⟨w.heap.size+2,1,none⟩=some (.slice none 0 0):=kh.cell 1;have p2:=Jb kh 2;have s2:w7.cell? ⟨w.heap.size+2,2,none⟩=some (.slice none 0 0):=kh.cell 2;have y0:=Jb ka 0;have d0:w7.cell? ⟨w.heap.size+3,0,none⟩=some (.int .i64 0):=ka.cell 0;have y1:=Jb ka 1;have d1:w7.cell? ⟨w.heap.size+3,1,none⟩=some (.slice none 0 0):=ka.cell 1;have y2:=Jb ka 2;have d2:w7.cell? ⟨w.heap.size+3,2,none⟩=some (.slice none 0 0):=ka.cell 2;have y3:=Jb ka 3;have d3:w7.cell? ⟨w.heap.size+3,3,none⟩=some (.int .i64 0):=ka.cell 3;have RR:=Ja (Zo kh ka (by omega) (.slice K0 x.keys.length k0) (.slice K1 x.used.length k1) (.slice K2 x.Rz.length k2) (.int .i64 (jad x.Rz[i] r).code) (.slice AF nF cF) (.slice AN nN cN) (.int .i64 (jad x.Rz[i] r).n));clear kh ka)
   |fail)
  all_goals
   refine HKK.out _ _ ?_;clear HKK K;go_wp2_with fail;obtain⟨R,R2,RO⟩:=RR.out
   generalize(((((((w7.setCell ⟨w.heap.size+2,0,none⟩ (.slice K0 x.keys.length k0)).setCell ⟨w.heap.size+2,1,none⟩ (.slice K1 x.used.length k1)).setCell ⟨w.heap.size+2,2,none⟩ (.slice K2 x.Rz.length k2)).setCell ⟨w.heap.size+3,0,none⟩ (.int .i64 (jad x.Rz[i] r).code)).setCell ⟨w.heap.size+3,1,none⟩ (.slice AF nF cF)).setCell ⟨w.heap.size+3,2,none⟩ (.slice AN nN cN)).setCell ⟨w.heap.size+3,3,none⟩ (.int .i64 (jad x.Rz[i] r).n))=WW at R R2 RO ⊢
   have z0:=Blk.c0 R;have z1:=Blk.c1 R;have z2:=Blk.c2 R;have e0:=Blk.c0 R2;have e1:=Blk.c1 R2;have e2:=Blk.c2 R2;have e3:=Blk.c3 R2
   refine bodyPost_ret (v:= .tuple #[.agg #[.slice K0 x.keys.length k0,.slice K1 x.used.length k1,.slice K2 x.Rz.length k2],.agg #[.int .i64 (jad x.Rz[i] r).code,.slice AF nF cF,.slice AN nN cN,.int .i64 (jad x.Rz[i] r).n]]) (by simp[results,Tryz.results9,go_sem,z0,z1,z2,e0,e1,e2,e3]) rfl ?_;rw[HE.out,HD.out]
   exact jcc (W0:=w3) HR1.out HO1.out.1 (fun z hz=>by have:=HO1.out.2.1 z hz;have:=HL3.out;have:=HB2.out.size;have:=HB0.out.size;omega) HO1.out.2.2 (Below.t HD4.out HD7.out) (Below.t HB0.out HB3.out) HRA.out HNA.out (fun z hz=>by have:=HLA.out z hz;have:=HD4.out.size;have:=(HD5.out).size;simp at*;omega) HFA.out RO ⟨by omega,by have:=HL3.out;have:=HB3.out.size;omega⟩ ⟨by omega,by have:=HL3.out;have:=HB3.out.size;omega⟩
 have K3':=Ja k3;go_upto_region 14 with fail
 clear k11 k2 k3 x3 x2 i2 hi';go_wp2_with((refine wpList_load_row rfl 31 (.tmp 3) rfl _ rfl _ _ _ _ (HKQ.out w5 HB5.out).out Tryz.underlying31 rfl Vi ?_));refine(Zp (x:=r) _ ⟨E0,_,d0,e0,rfl,rfl,HEx.out _ (Below.t HB0.out HB5.out)⟩).mono ?_;rintro e w6 ⟨rfl,hb6⟩;have HD6:=Ja (Below.t HD5.out hb6);have HB6:=Ja (Below.t HB4.out HD6.out);clear hb6;cases hrw:Vs r
 ·have HRW:=Ja hrw;clear hrw;have o0:=Blk.c0 (HKC.out w6 HD6.out);have o1:=Blk.c1 (HKC.out w6 HD6.out);have o2:=Blk.c2 (HKC.out w6 HD6.out);go_upto_region 15 with fail
  go_wp2_with((refine wpList_load_row rfl 31 (.tmp 3) rfl _ rfl _ _ _ _ (HKQ.out w6 HB6.out).out Tryz.underlying31 rfl Vi ?_))
  refine(jks (m:=x) (r:=r) (i:=i) _ (Rp.houseO.below HR1.out (Below.t HD4.out (Below.t HD6.out (by first|exact(Below.refl _ _).drew|exact Below.refl _ _))) nle) HO1.out.1 (HO1.out.2.2.step (Below.t HD4.out HD6.out)) ⟨E0,_,d0,e0,rfl,rfl,HEx.out _ (Below.t HB0.out HB6.out)⟩ HRI.out HI.out HPF.out HQF.out (by have:=jio HRQ.out;unfold refFits;simpa using this)).mono ?_
  rintro e w7 ⟨rfl,⟨fq,hq7,_⟩,ho7⟩;have HQ7:=Ja hq7;have HD:=Ja (show Zn x r=((V4 x x.Rz[i] i r).1,code (V4 x x.Rz[i] i r).2) by
   unfold Zn;rw[if_pos HKN.out,if_neg K11.out,HNI.out]
   dsimp only
   rw[if_neg K2'.out,if_neg K3'.out,HRW.out];unfold V4;by_cases hu:r.user=x.Rz[i].Az
   ·simp[hu,HTI.out]
   ·simp[hu])
  have hsm:=SmallHouse.of (jh2 HOK.out HRQ.out);rw[HD.out] at hsm;have HSM:=Ja hsm;have hb7:Below w0.heap.size w0 w7:=HB6.out.trans (ho7.below (fun z hz=>by have:=HO1.out.2.1 z hz;have:=HB2.out.size;omega) HB6.out.size);have HB7:=Ja hb7;clear hq7 ho7 hb7 hsm o0 o1 o2;go_upto_region 16 with fail
  obtain⟨w8,hw8⟩: ∃w8,w8=w7.alloc (.cells #[.slice K0 x.keys.length k0,.slice K1 x.used.length k1,.slice K2 x.Rz.length k2] 26):=⟨_,rfl⟩;rw[←hw8];have HD8:=Ja (show Below w7.heap.size w7 w8 from hw8▸(Below.refl _ _).alloc nle _);have HB8:=Ja (Below.t HB7.out HD8.out)
  have hk8:=(show Blk w8 w7.heap.size 26 #[.slice K0 x.keys.length k0,.slice K1 x.used.length k1,.slice K2 x.Rz.length k2] from hw8▸Blk.new w7 _ _);have v0:=Blk.c0 hk8;have v1:=Blk.c1 hk8;have v2:=Blk.c2 hk8;clear hw8 hk8;go_wp2_with fail;refine(jea (x:=(V4 x x.Rz[i] i r).1) _ (Rp.house.below HQ7.out HD8.out nle) HSM.out).mono ?_;rintro e w9 ⟨ch2,fp2,rfl,hR2,hn2,hl2,hf2,hb9⟩
  have HB9:=Ja (Below.t HB8.out hb9);have HR2:=Ja hR2;have HO2:=Ja (And.intro hn2 (And.intro hl2 hf2));obtain⟨J0,l0,j0,g0,J1,l1,j1,g1,v2',g2,hch2,_,q0,q1,q2⟩:=hR2;subst hch2;obtain⟨J2,j2,_,hv2',_,_,_,_⟩:=q2.sl;subst hv2';clear hb9 hn2 hl2 hf2 q0 q1 q2 v0 v1 v2;go_wp2_with fail;refine(Ze _ _).mono ?_;rintro e w10 ⟨rfl,hb10⟩;have HD10:=Ja hb10;have HB10:=Ja (Below.t HB9.out hb10)
  clear hb10;have kh:=HKH.out w10 HB10.out;have ka:=HKA.out w10 HB10.out;have p0:=Jb kh 0;have s0:=Blk.c0 kh;have p1:=Jb kh 1;have s1:=Blk.c1 kh;have p2:=Jb kh 2;have s2:=Blk.c2 kh;have y0:=Jb ka 0;have d0:=Blk.c0 ka;have y1:=Jb ka 1;have d1:=Blk.c1 ka;have y2:=Jb ka 2;have d2:=Blk.c2 ka;have y3:=Jb ka 3;have d3:=Blk.c3 ka
  have RR:=Ja (Zo kh ka (by omega) (.slice J0 l0 j0) (.slice J1 l1 j1) (.slice J2 ((V4 x x.Rz[i] i r).1).Rz.length j2) (.int .i64 (V4 x x.Rz[i] i r).2) (.slice none 0 0) (.slice none 0 0) (.int .i64 0));clear kh ka;go_wp2_with fail;obtain⟨R,R2,RO⟩:=RR.out
  generalize(((((((w10.setCell ⟨w.heap.size+2,0,none⟩ (.slice J0 l0 j0)).setCell ⟨w.heap.size+2,1,none⟩ (.slice J1 l1 j1)).setCell ⟨w.heap.size+2,2,none⟩ (.slice J2 ((V4 x x.Rz[i] i r).1).Rz.length j2)).setCell ⟨w.heap.size+3,0,none⟩ (.int .i64 (V4 x x.Rz[i] i r).2)).setCell ⟨w.heap.size+3,1,none⟩ (.slice none 0 0)).setCell ⟨w.heap.size+3,2,none⟩ (.slice none 0 0)).setCell ⟨w.heap.size+3,3,none⟩ (.int .i64 0))=WW at R R2 RO ⊢
  have z0:=Blk.c0 R;have z1:=Blk.c1 R;have z2:=Blk.c2 R;have e0:=Blk.c0 R2;have e1:=Blk.c1 R2;have e2:=Blk.c2 R2;have e3:=Blk.c3 R2
  refine bodyPost_ret (v:= .tuple #[.agg #[.slice J0 l0 j0,.slice J1 l1 j1,.slice J2 ((V4 x x.Rz[i] i r).1).Rz.length j2],.agg #[.int .i64 (V4 x x.Rz[i] i r).2,.slice none 0 0,.slice none 0 0,.int .i64 0]]) (by simp[results,Tryz.results9,go_sem,z0,z1,z2,e0,e1,e2,e3]) rfl ?_;rw[HE.out,HD.out]
  exact jcc (W0:=w9) HR2.out HO2.out.1 (fun z hz=>by have:=HO2.out.2.1 z hz;have:=HL3.out;have:=HB8.out.size;have:=HB0.out.size;omega) HO2.out.2.2 HD10.out (Below.t HB0.out HB9.out) (Wo _ _) List.nodup_nil (by simp) (Free.nil _) RO ⟨by omega,by have:=HL3.out;have:=HB9.out.size;omega⟩ ⟨by omega,by have:=HL3.out;have:=HB9.out.size;omega⟩
 have HRW:=Ja hrw;clear hrw;have o0:=Blk.c0 (HKC.out w6 HD6.out);have o1:=Blk.c1 (HKC.out w6 HD6.out);have o2:=Blk.c2 (HKC.out w6 HD6.out);go_upto_region 17 with fail
 go_wp2_with((refine wpList_load_row rfl 31 (.tmp 3) rfl _ rfl _ _ _ _ (HKQ.out w6 HB6.out).out Tryz.underlying31 rfl Vi ?_))
 refine(jm5 (m:=x) (r:=r) (i:=i) _ (V8.2 _ _ _ _ (Rp.houseO.below HR1.out (Below.t HD4.out (Below.t HD6.out (by first|exact(Below.refl _ _).drew|exact Below.refl _ _))) nle)).choose_spec.1 ⟨E0,_,d0,e0,rfl,rfl,HEx.out _ (Below.t HB0.out HB6.out)⟩ HRI.out HI.out HPF.out HQF.out HOK.out HKN.out HRW.out).mono ?_;rintro e w7 ⟨A5,n5,c5,f5,he7,hs5,hb7⟩;have HS5:=Ja hs5
 have HD7:=Ja (Below.t HD6.out hb7);have HB7:=Ja (Below.t HB4.out HD7.out);clear hs5 hb7 o0 o1 o2;have HDW:=Ja (show Zn x r=((write x x.Rz[i] r).1,code (write x x.Rz[i] r).2) by
  unfold Zn;rw[if_pos HKN.out,if_neg K11.out,HNI.out]
  dsimp only
  rw[if_neg K2'.out,if_neg K3'.out,HRW.out];rfl)
 by_cases hc:(write x x.Rz[i] r).2=1
 case neg=>
  subst he7;have HC:=Ja hc;have hcb:((write x x.Rz[i] r).2==1)=false:=by simpa using hc
  have hcd:decide ((write x x.Rz[i] r).2=1)=false:=decide_eq_false hc;go_upto_region 19 with fail
  clear hc hcb hcd;have HD:=Ja (show Zn x r=(x,code (write x x.Rz[i] r).2) by rw[HDW.out,jnr HC.out]);have o0:=Blk.c0 (HKC.out w7 HD7.out);have o1:=Blk.c1 (HKC.out w7 HD7.out);have o2:=Blk.c2 (HKC.out w7 HD7.out);go_wp2_with fail;refine Xs fun K hK=> ?_;have HKK:=Ja hK;clear hK
  go_region_law (first
   |(refine J9 rfl 39 (enters_of Tryz.func39 (by kernel_rfl) rfl) rfl _ (by simp[Act.eval,Act.put]) ((Ze (write x x.Rz[i] r).2 _).mono ?_);rintro e w7 ⟨rfl,hb7⟩;refine⟨_,rfl, ?_⟩;have HD7:=Ja (Below.t HD7.out (Below.past hb7));have HB7:=Ja (Below.t HB4.out HD7.out);have u0:=(HKC.out w7 HD7.out).cell 0;have u1:=(HKC.out w7 HD7.out).cell 1;have u2:=(HKC.out w7 HD7.out).cell 2;clear hb7;have kh:=HKH.out w7 HB7.out;have ka:=HKA.out w7 HB7.out;have p0:=Jb kh 0;have s0:w7.cell? ⟨w.heap.size+2,0,none⟩=some (.slice none 0 0):=kh.cell 0;have p1:=Jb kh 1;have s1:w7.cell? ⟨w.heap.size+2,1,none⟩=some (.slice none 0 0):=kh.cell 1;have p2:=Jb kh 2;have s2:w7.cell? ⟨w.heap.size+2,2,none⟩=some (.slice none 0 0):=kh.cell 2;have y0:=Jb ka 0;have d0:w7.cell? ⟨w.heap.size+3,0,none⟩=some (.int .i64 0):=ka.cell 0;have y1:=Jb ka 1;have d1:w7.cell? ⟨w.heap.size+3,1,none⟩=some (.slice none 0 0):=ka.cell 1;have y2:=Jb ka 2;have d2:w7.cell? ⟨w.heap.size+3,2,none⟩=some (.slice none 0 0):=ka.cell 2;have y3:=Jb ka 3;have d3:w7.cell? ⟨w.heap.size+3,3,none⟩=some (.int .i64 0):=ka.cell 3;have RR:=Ja (Zo kh ka (by omega) (.slice K0 x.keys.length k0) (.slice K1 x.used.length k1) (.slice K2 x.Rz.length k2) (.int .i64 (write x x.Rz[i] r).2) (.slice none 0 0) (.slice none 0 0) (.int .i64 0));clear kh ka)
   |fail)
  all_goals
   refine HKK.out _ _ ?_;clear HKK K;go_wp2_with fail;obtain⟨R,R2,RO⟩:=RR.out
   generalize(((((((w7.setCell ⟨w.heap.size+2,0,none⟩ (.slice K0 x.keys.length k0)).setCell ⟨w.heap.size+2,1,none⟩ (.slice K1 x.used.length k1)).setCell ⟨w.heap.size+2,2,none⟩ (.slice K2 x.Rz.length k2)).setCell ⟨w.heap.size+3,0,none⟩ (.int .i64 (write x x.Rz[i] r).2)).setCell ⟨w.heap.size+3,1,none⟩ (.slice none 0 0)).setCell ⟨w.heap.size+3,2,none⟩ (.slice none 0 0)).setCell ⟨w.heap.size+3,3,none⟩ (.int .i64 0))=WW at R R2 RO ⊢
   have z0:=Blk.c0 R;have z1:=Blk.c1 R;have z2:=Blk.c2 R;have e0:=Blk.c0 R2;have e1:=Blk.c1 R2;have e2:=Blk.c2 R2;have e3:=Blk.c3 R2
   refine bodyPost_ret (v:= .tuple #[.agg #[.slice K0 x.keys.length k0,.slice K1 x.used.length k1,.slice K2 x.Rz.length k2],.agg #[.int .i64 (write x x.Rz[i] r).2,.slice none 0 0,.slice none 0 0,.int .i64 0]]) (by simp[results,Tryz.results9,go_sem,z0,z1,z2,e0,e1,e2,e3]) rfl ?_;rw[HE.out,HD.out]
   exact jcc (W0:=w3) HR1.out HO1.out.1 (fun z hz=>by have:=HO1.out.2.1 z hz;have:=HL3.out;have:=HB2.out.size;have:=HB0.out.size;omega) HO1.out.2.2 (Below.t HD4.out HD7.out) (Below.t HB0.out HB3.out) (Wo _ _) List.nodup_nil (by simp) (Free.nil _) RO ⟨by omega,by have:=HL3.out;have:=HB3.out.size;omega⟩ ⟨by omega,by have:=HL3.out;have:=HB3.out.size;omega⟩
 obtain⟨k,hk,hnw,hwr⟩:=jnq hc;have HC:=Ja hc;have hkl:=job hk;have hgd:x.Rz[i].Fz.getD k Y8=x.Rz[i].Fz[k]:=J4 hkl;have HK:=Ja hk;have HSL:=Ja (HS5.out hc k hk)
 have HTO:=Ja (show Y1 (newest x (x.Rz[i].Fz.getD k Y8) r).1=true from jiv HOK.out (by rw[hgd];exact(Yj.1 ((Jo.1 HOK.out).2.2 _ (List.getElem_mem hi))).1 _ (List.getElem_mem hkl)) hnw);have HD:=Ja (show Zn x r=(jpm x x.Rz[i] k r (newest x (x.Rz[i].Fz.getD k Y8) r).1,code 1) by rw[HDW.out,hwr]);have hsm:=SmallHouse.of (jh2 HOK.out HRQ.out)
 rw[HD.out] at hsm;have HSM:=Ja hsm;have HKL:=Ja hkl;obtain rfl:e= .returned (.tuple #[.slice A5 n5 c5,.int .i64 1]):=he7.trans (congrArg (fun z=>Ending.returned (.tuple #[.slice A5 n5 c5,.int .i64 z])) hc);clear hc hk hnw hwr hkl hgd hsm;have o0:=Blk.c0 (HKC.out w7 HD7.out);have o1:=Blk.c1 (HKC.out w7 HD7.out);have o2:=Blk.c2 (HKC.out w7 HD7.out);go_upto_region 20 with fail
 go_wp2_with((refine wpList_load_row rfl 31 (.tmp 3) rfl _ rfl _ _ _ _ (HKQ.out w7 HB7.out).out Tryz.underlying31 rfl Vi ?_))
 refine(jot (m:=x) (r:=r) (i:=i) (k:=k) (files:=(newest x (x.Rz[i].Fz.getD k Y8) r).1) _ (Rp.houseO.below HR1.out (Below.t HD4.out (Below.t HD7.out (by first|exact(Below.refl _ _).drew|exact Below.refl _ _))) nle) HO1.out.1 (HO1.out.2.2.step (Below.t HD4.out HD7.out)) ⟨E0,_,d0,e0,rfl,rfl,HEx.out _ (Below.t HB0.out HB7.out)⟩ (fun z hz hm=>by have:=HEL.out z hz;have:=HO1.out.2.1 z hm;have:=HB0.out.size;have:=HB2.out.size;omega) HRI.out HI.out HOK.out HKN.out HQF.out HKL.out HK.out HSL.out (Yo.1 HTO.out).1).mono ?_
 rintro e w8 ⟨rfl,⟨fq,hq8⟩,ho8⟩;have HQ8:=Ja hq8;have HB8:=Ja (show Below w0.heap.size w0 w8 from HB7.out.trans (ho8.below (fun z hz=>by have:=HO1.out.2.1 z hz;have:=HB2.out.size;omega) HB7.out.size));clear hq8 ho8 o0 o1 o2
 obtain⟨y,hy1,hy2,hy3⟩: ∃y,Rp.house.R w8 [.slice K0 x.keys.length k0,.slice K1 x.used.length k1,.slice K2 x.Rz.length k2] y fq∧SmallHouse y∧Zn x r=(y,code 1):=⟨_,HQ8.out,HSM.out,HD.out⟩;have HQY:=Ja hy1;have HSY:=Ja hy2;have HDY:=Ja hy3;clear hy1 hy2 hy3 HDW HQ8 HSM HD;go_wp2_with fail;refine(jea (x:=y) _ HQY.out HSY.out).mono ?_;rintro e w9 ⟨ch2,fp2,rfl,hR2,hn2,hl2,hf2,hb9⟩
 have HB9:=Ja (Below.t HB8.out hb9);have HR2:=Ja hR2;have HO2:=Ja (And.intro hn2 (And.intro hl2 hf2));obtain⟨J0,l0,j0,g0,J1,l1,j1,g1,v2',g2,hch2,_,q0,q1,q2⟩:=hR2;subst hch2;obtain⟨J2,j2,_,hv2',_,_,_,_⟩:=q2.sl;subst hv2';clear hb9 hn2 hl2 hf2 q0 q1 q2;go_wp2_with fail;refine(Ze 1 _).mono ?_;rintro e w10 ⟨rfl,hb10⟩;have HD10:=Ja hb10;have HB10:=Ja (Below.t HB9.out hb10);clear hb10
 have kh:=HKH.out w10 HB10.out;have ka:=HKA.out w10 HB10.out;have p0:=Jb kh 0;have s0:=Blk.c0 kh;have p1:=Jb kh 1;have s1:=Blk.c1 kh;have p2:=Jb kh 2;have s2:=Blk.c2 kh;have y0:=Jb ka 0;have d0:=Blk.c0 ka;have y1:=Jb ka 1;have d1:=Blk.c1 ka;have y2:=Jb ka 2;have d2:=Blk.c2 ka;have y3:=Jb ka 3;have d3:=Blk.c3 ka
 have RR:=Ja (Zo kh ka (by omega) (.slice J0 l0 j0) (.slice J1 l1 j1) (.slice J2 (y).Rz.length j2) (.int .i64 1) (.slice none 0 0) (.slice none 0 0) (.int .i64 0));clear kh ka;go_wp2_with fail;obtain⟨R,R2,RO⟩:=RR.out
 generalize(((((((w10.setCell ⟨w.heap.size+2,0,none⟩ (.slice J0 l0 j0)).setCell ⟨w.heap.size+2,1,none⟩ (.slice J1 l1 j1)).setCell ⟨w.heap.size+2,2,none⟩ (.slice J2 (y).Rz.length j2)).setCell ⟨w.heap.size+3,0,none⟩ (.int .i64 1)).setCell ⟨w.heap.size+3,1,none⟩ (.slice none 0 0)).setCell ⟨w.heap.size+3,2,none⟩ (.slice none 0 0)).setCell ⟨w.heap.size+3,3,none⟩ (.int .i64 0))=WW at R R2 RO ⊢
 have z0:=Blk.c0 R;have z1:=Blk.c1 R;have z2:=Blk.c2 R;have e0:=Blk.c0 R2;have e1:=Blk.c1 R2;have e2:=Blk.c2 R2;have e3:=Blk.c3 R2;refine bodyPost_ret (v:= .tuple #[.agg #[.slice J0 l0 j0,.slice J1 l1 j1,.slice J2 (y).Rz.length j2],.agg #[.int .i64 1,.slice none 0 0,.slice none 0 0,.int .i64 0]]) (by simp[results,Tryz.results9,go_sem,z0,z1,z2,e0,e1,e2,e3]) rfl ?_;rw[HE.out,HDY.out]
 exact jcc (W0:=w9) HR2.out HO2.out.1 (fun z hz=>by have:=HO2.out.2.1 z hz;have:=HL3.out;have:=HB8.out.size;have:=HB0.out.size;omega) HO2.out.2.2 HD10.out (Below.t HB0.out HB9.out) (Wo _ _) List.nodup_nil (by simp) (Free.nil _) RO ⟨by omega,by have:=HL3.out;have:=HB9.out.size;omega⟩ ⟨by omega,by have:=HL3.out;have:=HB9.out.size;omega⟩
end Go.Proofs.YtobbdhgkcoeifaaGreatDoor
