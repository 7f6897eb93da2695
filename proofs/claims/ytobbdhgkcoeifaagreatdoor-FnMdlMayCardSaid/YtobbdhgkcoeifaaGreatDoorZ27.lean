/- Lemmas and walks, joined by program. -/
import Derived.Test.YtobbdhgkcoeifaaGreatDoorZ26
namespace Go.Proofs.YtobbdhgkcoeifaaGreatDoor
open Go.RowKit
attribute [local go_sem ↓] Go.wp_at_zero Go.wp_at_succ
set_option maxHeartbeats 8000000
set_option maxRecDepth 100000
set_option linter.unusedSimpArgs false
set_option linter.unusedVariables false
def DrOk (m:Jl) (f:List Nat) (w:World):Prop:=V9 m∧(Ys m=true→(∀k∈m.keys,10≤k)∧(jc0 m∨f.Nodup∧Free w f))
theorem DrOk.keep {m:Jl} {f:List Nat} {w w':World} (h:DrOk m f w) (hk: ∀z∈f,w'.heap[z]? =w.heap[z]?):DrOk m f w':=⟨h.1,fun k=>⟨(h.2 k).1,(h.2 k).2.imp id fun j=>⟨j.1,j.2.keep hk⟩⟩⟩
def Drawn (w:World) (e:Ending) (w':World):Prop:=
 ∃m q A0 n0 c0 A1 n1 c1 A2 n2 c2 A3 c3 f fq,e= .returned (.tuple #[.agg #[.slice A0 n0 c0,.slice A1 n1 c1,.slice A2 n2 c2],.agg (RA q (.slice A3 q.Ez.length c3))])∧Rp.house.R w' [.slice A0 n0 c0,.slice A1 n1 c1,.slice A2 n2 c2] m f∧Rp.req.R w' (List.toArray [.int .i64 q.user,.int .i64 q.key,.int .i64 q.repo,.int .i64 q.kind,.string q.ref,.string q.path,.int .i64 q.old,.int .i64 q.back,.slice A3 q.Ez.length c3,.int .i64 q.rule.user,.string q.rule.ref,.string q.rule.path,.bool q.rule.write,.int .i64 q.frm,.string q.other]).toList q fq∧DrOk m f w'∧jat q∧(∀z∈f++fq,w.heap.size+1<z)∧(∀z∈f,z∉fq)∧Below w.heap.size w w'
structure DM (w0:World) (g P M Q:Nat) (m:Jl) (q:Req) (vK vU vR E:Value) (f fq:List Nat) (w:World):Prop where
 rd:Rd w g P
 on:Below w0.heap.size w0 w
 k0:Blk w w0.heap.size 26 H0
 k1:Blk w (w0.heap.size+1) 31 RZ
 km:Blk w M 26 #[vK,vU,vR]
 kq:Blk w Q 31 (V5 q E)
 R:Rp.house.R w [vK,vU,vR] m f
 RQ:Rp.req.R w (V5 q E).toList q fq
 ok:DrOk m f w
 sm:jat q
 lf: ∀z∈f,g<z∧z≠M∧z≠Q
 lq: ∀z∈fq,g<z∧z≠M∧z≠Q
 dj: ∀z∈f,z∉fq
 gl:w0.heap.size+1<g
 ml:g<M
 ql:M<Q
section
variable {w0 w w':World} {g P P' M Q:Nat} {m:Jl} {q:Req} {vK vU vR E:Value} {f fq:List Nat}
theorem DM.only (h:DM w0 g P M Q m q vK vU vR E f fq w) (ho:Only [g] w w') (hr:Rd w' g P'):DM w0 g P' M Q m q vK vU vR E f fq w':=
 have h1:=h.gl;have h2:=h.ml;have h3:=h.ql
 have hk: ∀z∈f,w'.heap[z]? =w.heap[z]? :=fun z hz=>ho.block z (Rp.house.lt h.R z hz) (by have:=h.lf z hz;simp only[List.mem_singleton];omega);have hq: ∀z∈fq,w'.heap[z]? =w.heap[z]? :=fun z hz=>ho.block z (Rp.req.lt h.RQ z hz) (by have:=h.lq z hz;simp only[List.mem_singleton];omega)
 ⟨hr,h.on.trans (ho.below (by simp;omega) h.on.size),h.k0.only ho (by simp;omega),h.k1.only ho (by simp;omega),h.km.only ho (by simp;omega),h.kq.only ho (by simp;omega),Rp.house.keep h.R hk,Rp.req.keep h.RQ hq,h.ok.keep hk,h.sm,h.lf,h.lq,h.dj,h1,h2,h3⟩
end
theorem DM.put {w0 w:World} {g P M Q:Nat} {m x:Jl} {q:Req} {vK vU vR E a0 a1 a2:Value} {f fq f':List Nat} (h:DM w0 g P M Q m q vK vU vR E f fq w) (hR:Rp.house.R w [a0,a1,a2] x f') (ho:DrOk x f' w) (hl: ∀z∈f',g<z∧z≠M∧z≠Q) (hd: ∀z∈f',z∉fq):
  DM w0 g P M Q x q a0 a1 a2 E f' fq (((w.setCell ⟨M,0,none⟩ a0).setCell ⟨M,1,none⟩ a1).setCell ⟨M,2,none⟩ a2):=by
 have h1:=h.gl;have h2:=h.ml;have h3:=h.ql;have hO:Only [M] w (((w.setCell ⟨M,0,none⟩ a0).setCell ⟨M,1,none⟩ a1).setCell ⟨M,2,none⟩ a2):=(((Only.refl [M] w).setCell (p:=⟨M,0,none⟩) (.inl (by simp)) a0).setCell (p:=⟨M,1,none⟩) (.inl (by simp)) a1).setCell (p:=⟨M,2,none⟩) (.inl (by simp)) a2
 have hk: ∀z∈f',(((w.setCell ⟨M,0,none⟩ a0).setCell ⟨M,1,none⟩ a1).setCell ⟨M,2,none⟩ a2).heap[z]? =w.heap[z]? :=fun z hz=>hO.block z (Rp.house.lt hR z hz) (by simpa using(hl z hz).2.1);have k0:Blk _ M 26 #[a0,vU,vR]:=Jd (i:=0) h.km a0;have k1:Blk _ M 26 #[a0,a1,vR]:=Jd (i:=1) k0 a1
 exact⟨h.rd.only (f:=[M]) hO (by simp;omega),h.on.trans (hO.below (by simp;omega) h.on.size),h.k0.only hO (by simp;omega),h.k1.only hO (by simp;omega),Jd (i:=2) k1 a2,h.kq.only hO (by simp;omega),Rp.house.keep hR hk,Rp.req.keep h.RQ fun z hz=>hO.block z (Rp.req.lt h.RQ z hz) (by simpa using(h.lq z hz).2.1),ho.keep hk,h.sm,hl,h.lq,hd,h1,h2,h3⟩
def dmΓ (B M Q:Nat) (hc qc:Array Value):Xr:=fun s v _=>match s with
 | 2=>v= .pointer (some ⟨B,0,none⟩)
 | 3=>v= .pointer (some ⟨B+1,0,none⟩)
 | 5=>v= .pointer (some ⟨M,0,none⟩)
 | 6=>v= .pointer (some ⟨Q,0,none⟩)
 | 20=>v= .agg hc
 | 21=>v= .agg qc
 |_=>True
theorem jo7 (B M Q:Nat) (hc qc:Array Value):Zx (Only [B]) (dmΓ B M Q hc qc):=fun s v w w' h _=>h
theorem jp5 {A:Option Addr} {n c:Nat} {l:List UInt8} {fp:List Nat} (w:World) (hx:SlR Rp.byte w A n c l fp):
  Calls Tryz.prog 7 #[.slice A n c] w (Drawn w):=by
 have k0:=Blk.new w 26 H0;have k1:=Blk.new (w.alloc (.cells H0 26)) 31 RZ;replace k0:=k0.step ((Below.refl _ _).alloc nle (.cells RZ 31));have hb:=((Below.refl w.heap.size w).alloc nle (.cells H0 26)).alloc (by simp) (.cells RZ 31);have hsz1:(w.alloc (.cells H0 26)).heap.size=w.heap.size+1:=by simp
 have hsz:((w.alloc (.cells H0 26)).alloc (.cells RZ 31)).heap.size=w.heap.size+2:=by simp
 have hx1:=(hx.allocN (.cells H0 26)).allocN (.cells RZ 31);go_enter Tryz.func7,Tryz.ntmps7;go_upto_region 1 with fail
 generalize hw1:(w.alloc (.cells H0 26)).alloc (.cells RZ 31)=w1 at k0 k1 hb hsz hx1 ⊢;rw[hsz1] at k1;clear hw1 hsz1 hx;go_wp2_with fail;refine(jkv _ hx1).mono ?_;rintro e w2 ⟨g,rfl,hg,hr,hb2⟩;replace k0:=k0.step hb2;replace k1:=k1.step hb2;replace hb:=Below.t hb hb2;clear hb2 hx1;go_wp2_with fail;refine(ji8 g 0 (by omega) _ hr).mono ?_
 rintro e w3 ⟨m,cs,f,rfl,hR,hl,hown,hinv,hr3,ho3⟩;have hgl:=hr.lt;obtain⟨A0,n0,c0,f0,A1,n1,c1,f1,A2,n2,c2,f2,rfl,hff, -, -,hrs⟩:=id hR;obtain rfl:=hrs.1;replace k0:=k0.only ho3 (by simp;omega);replace k1:=k1.only ho3 (by simp;omega);replace hb:=hb.trans (ho3.below (B:=w.heap.size) (by simp;omega) hb.size);have hs3:=ho3.size;clear hr ho3
 have km:=Blk.new w3 26 #[.slice A0 n0 c0,.slice A1 n1 c1,.slice A2 m.Rz.length c2];have hA:=(Below.refl w3.heap.size w3).alloc nle (.cells #[.slice A0 n0 c0,.slice A1 n1 c1,.slice A2 m.Rz.length c2] 26);have HRS:=Ja (hrs.step hA);have H3:=Ja (And.intro (Rp.house.below hR hA nle) (And.intro (hr3.step hA) (And.intro (k0.step hA) (And.intro (k1.step hA) (Below.t hb hA)))))
 have hfg:g∉f2:=fun hm=>by have:=hl g (by rw[hff];simp[hm]);omega
 have hlt:=Rp.house.lt hR;have HOW:=Ja (show DrOk m f (w3.alloc (.cells #[.slice A0 n0 c0,.slice A1 n1 c1,.slice A2 m.Rz.length c2] 26)) from⟨hinv.fit,fun hk=>⟨by
  rcases hinv with h|h
  ·exact h.2
  ·subst h;exact absurd hk (by decide),hown.imp id fun j=>⟨j.1,j.2.step hA⟩⟩⟩)
 clear hR hr3 k0 k1 hb hown hrs;go_upto_region 3 with fail
 generalize hw4:w3.alloc (.cells #[.slice A0 n0 c0,.slice A1 n1 c1,.slice A2 m.Rz.length c2] 26)=w4 at HRS H3 HOW km;have hs4:w4.heap.size=w3.heap.size+1:=by rw[←hw4];simp
 clear hw4 hA;have x0:=km.cell 0;have x1:=km.cell 1;have x2:=km.cell 2;simp only[List.getElem?_toArray,List.getElem?_cons_zero,List.getElem?_cons_succ] at x0 x1 x2;go_wp2_with fail;refine(jhv g (0+100000) 8 (by omega) (by omega) _ H3.out.2.1 HRS.out hfg hinv.Uz).mono ?_;rintro e w5 ⟨q,A3,c3,fq,rfl, -,howq,hsm,hr5,ho5, -⟩
 obtain⟨A',c',fq,he,hs',hfb, -, -⟩:=Xw (k:=3) (enc:=Jp) (hk:=fun _=>rfl) (h1:=Yn) howq;cases he;replace km:=km.only ho5 (by simp;omega);have hs5:=ho5.size;have kq:=Blk.new w5 31 (RA q (.slice A3 q.Ez.length c3));have hA:=(Below.refl w5.heap.size w5).alloc nle (.cells (RA q (.slice A3 q.Ez.length c3)) 31)
 have H5:DM w g (0+100000+400) w3.heap.size w5.heap.size m q (.slice A0 n0 c0) (.slice A1 n1 c1) (.slice A2 m.Rz.length c2) (.slice A3 q.Ez.length c3) f fq (w5.alloc (.cells (RA q (.slice A3 q.Ez.length c3)) 31)):=by
  obtain⟨hR,hr,k0,k1,hb⟩:=H3.out;have hRQ:Rp.req.R w5 (V5 q (.slice A3 q.Ez.length c3)).toList q fq:=⟨_,_,_,_,rfl,rfl,hs'⟩;have hk: ∀z∈f,w5.heap[z]? =w4.heap[z]? :=fun z hz=>ho5.block z (Rp.house.lt hR z hz) (by have:=hl z hz;simp only[List.mem_singleton];omega)
  exact⟨hr5.step hA,Below.t (hb.trans (ho5.below (by simp;omega) hb.size)) hA,(k0.only ho5 (by simp;omega)).step hA,(k1.only ho5 (by simp;omega)).step hA,km.step hA,kq,Rp.house.below (Rp.house.keep hR hk) hA nle,Rp.req.below hRQ hA nle,(HOW.out.keep hk).keep fun z hz=>hA.block z (by have:=hlt z hz;omega),hsm,fun z hz=>by have:=hl z hz;have:=hlt z hz;omega,fun z hz=>by have:=hfb z hz;have:=hs'.lt z hz;omega,fun z hz hm=>by have:=hfb z hm;have:=hlt z hz;omega,by omega,by omega,by omega⟩
 have H6:=Ja H5;have HI:=Ja hinv;clear hinv;clear H5 kq hA km x0 x1 x2 H3 HRS HOW howq hs' hfb hr5 ho5 hl hlt hff hsm hfg;unfold V5;go_upto_region 4 with fail
 generalize w5.alloc (.cells (RA q (.slice A3 q.Ez.length c3)) 31)=w6 at H6 ⊢;have H:=H6.out;clear H6;generalize w3.heap.size=M at H hs4 hs5 ⊢;generalize w5.heap.size=Q at H hs5 ⊢;clear hs4 hs5 hs3;go_wp2_with fail;refine(Jk g _ 20 (by omega) (by omega) _ H.rd).mono ?_;rintro e w7 ⟨x,rfl,hx,hr,ho⟩;replace H:=H.only ho hr;clear hx hr ho;go_upto_if 16 with fail
 go_cut [] from 16 to 19 (fun wx=>∃m a0 n0 c0 a1 n1 c1 a2 n2 c2 f,DM w g 200000 M Q m q (.slice a0 n0 c0) (.slice a1 n1 c1) (.slice a2 n2 c2) (.slice A3 q.Ez.length c3) f fq wx)
 case first=>
  have x0:=Blk.c0 H.km;have x1:=Blk.c1 H.km;have x2:=Blk.c2 H.km;have HD:=Ja (show DM w g 200000 M Q m q (.slice A0 n0 c0) (.slice A1 n1 c1) (.slice A2 m.Rz.length c2) (.slice A3 q.Ez.length c3) f fq w7 from⟨H.rd.mono (by omega),H.on,H.k0,H.k1,H.km,H.kq,H.R,H.RQ,H.ok,H.sm,H.lf,H.lq,H.dj,H.gl,H.ml,H.ql⟩);cases hd:((x:Int)==0)
  ·clear H x0 x1 x2;go_wp2_with fail;go_meet
   case rel=>exact⟨_,_,_,_,_,_,_,_,_,_,_,HD.out⟩
  ·go_wp2_with fail;refine(jfs (cs:=[.slice A0 n0 c0,.slice A1 n1 c1,.slice A2 m.Rz.length c2]) g _ (by omega) _ H.rd H.R HI.out).mono ?_;rintro e w8 ⟨x,cs,f',rfl,hR,hl,hfit,hok,hr,ho⟩;obtain⟨B0,k0,d0,e0,B1,k1,d1,e1,B2,k2,d2,e2,rfl, -⟩:=id hR;have hlq:=Rp.req.lt H.RQ;have hQ:=H.kq.lt;have hM:=H.ml;have hMQ:=H.ql;have hgl:=H.rd.lt;have H8:=H.only ho hr
   have HP:=Ja (H8.put hR ⟨hfit,hok⟩ (fun z hz=>by have:=hl z hz;omega) (fun z hz hm=>by have:=hl z hz;have:=hlq z hm;omega));have x0:=Blk.c0 H8.km;have x1:=Blk.c1 H8.km;have x2:=Blk.c2 H8.km;have y0:=Ji H8.km 0;have y1:=Ji H8.km 1;have y2:=Ji H8.km 2;clear H H8 hR hl hok hr ho hlq HD;go_wp2_with fail;go_meet
   case rel=>
    have H:=HP.out;exact⟨_,_,_,_,_,_,_,_,_,_,_,H.rd.mono (by omega),H.on,H.k0,H.k1,H.km,H.kq,H.R,H.RQ,H.ok,H.sm,H.lf,H.lq,H.dj,H.gl,H.ml,H.ql⟩
 case rest=>
  obtain⟨w8,hw8⟩: ∃w8,w8=wc:=⟨_,rfl⟩;subst hw8;clear H HI;obtain⟨m,A0,n0,c0,A1,n1,c1,A2,n2,c2,f,H⟩:=hcut;go_upto_region 6 with fail
  have h1:=H.gl;have h2:=H.ml;have h3:=H.ql;have HL:=Ja h3
  refine Jz 3 _ rfl (fun L _ w'=>RS [(2,0)] 2 9 (fun _ w'=>Below w8.heap.size w8 w') (fun w'=>Only [w.heap.size] w8 w'∧Blk w' w.heap.size 26 #[.slice A0 n0 c0,.slice A1 n1 c1,.slice A2 n2 c2]) L w') (Only [w.heap.size]) (dmΓ w.heap.size M Q #[.slice A0 n0 c0,.slice A1 n1 c1,.slice A2 n2 c2] (RA q (.slice A3 q.Ez.length c3))) (by kernel_rfl) rfl (by kernel_rfl) rfl (jo7 _ _ _ _ _) (Only.refl _) ⟨RS.start (Below.refl _ _).drew,fun s hs=> ?_,by rfl⟩ ?_ ?_
  ·skip;by_cases e2:s=2
   ·subst e2;rfl
   by_cases e3:s=3
   ·subst e3;rfl
   by_cases e5:s=5
   ·subst e5;rfl
   by_cases e6:s=6
   ·subst e6;rfl
   have hne:s∉ [20,21]:=fun hm=>by
    simp only[List.mem_cons,List.not_mem_nil,or_false] at hm;rcases hm with rfl|rfl<;>exact absurd hs (by decide)
   simp only[List.mem_cons,List.not_mem_nil,or_false,not_or] at hne;unfold dmΓ;split<;>first|trivial|(exfalso;omega)
  ·intro i p hi hp;have hcases:i=0∨i=1∨i=2:=by omega
   rcases hcases with rfl|rfl|rfl
   all_goals(obtain rfl:=Option.some.inj hp)
   ·intro L a w' hL hl hall hC hR;have hcs: ∀p∈([(2,0)]:List (Nat×Nat)),p.1=0→L.getD p.2 false=true:=by
     intro p hp h1;simp only[List.mem_cons,List.not_mem_nil,or_false] at hp;rcases hp with rfl<;>exact absurd h1 (by decide)
    have r5:_=_:=hR 5 (by decide);have hon:Only [w.heap.size] w8 w':=by
     cases h2:L.getD 2 false
     ·exact Only.of_below (hC.be h2) _
     ·exact(hC.af h2).1
    have km:=H.km.only hon (by simp;omega);have x0:=Blk.c0 km;have x1:=Blk.c1 km;have x2:=Blk.c2 km;simp[Region.wanted,Jg,go_sem,execOp,r5,x0,x1,x2,upT];exact⟨Only.refl _ _,rfl,hC.pure (by decide) (by decide) hcs⟩
   ·intro L a w' hL hl hall hC hR;have hcs: ∀p∈([(2,0)]:List (Nat×Nat)),p.1=1→L.getD p.2 false=true:=by
     intro p hp h1;simp only[List.mem_cons,List.not_mem_nil,or_false] at hp;rcases hp with rfl<;>exact absurd h1 (by decide)
    have r6:_=_:=hR 6 (by decide);have hon:Only [w.heap.size] w8 w':=by
     cases h2:L.getD 2 false
     ·exact Only.of_below (hC.be h2) _
     ·exact(hC.af h2).1
    have kq:=H.kq.only hon (by simp;omega);have x0:=kq.cell 0;have x1:=kq.cell 1;have x2:=kq.cell 2;have x3:=kq.cell 3;have x4:=kq.cell 4;have x5:=kq.cell 5;have x6:=kq.cell 6;have x7:=kq.cell 7;have x8:=kq.cell 8;have x9:=kq.cell 9;have x10:=kq.cell 10;have x11:=kq.cell 11;have x12:=kq.cell 12;have x13:=kq.cell 13;have x14:=kq.cell 14
    simp only[V5,List.getElem?_toArray,List.getElem?_cons_zero,List.getElem?_cons_succ] at x0 x1 x2 x3 x4 x5 x6 x7 x8 x9 x10 x11 x12 x13 x14;simp[Region.wanted,Jg,go_sem,execOp,r6,x0,x1,x2,x3,x4,x5,x6,x7,x8,x9,x10,x11,x12,x13,x14,upT];exact⟨Only.refl _ _,rfl,hC.pure (by decide) (by decide) hcs⟩
   ·intro L a w' hL hl hall hC hR;have hcs: ∀p∈([(2,0)]:List (Nat×Nat)),p.1=2→L.getD p.2 false=true:=by
     intro p hp h1;simp only[List.mem_cons,List.not_mem_nil,or_false] at hp;rcases hp with rfl<;>first|exact absurd h1 (by decide)|exact hall ⟨_,.data⟩ (by simp) (by decide)
    have hb:=hC.be hl;have r2:_=_:=hR 2 (by decide);have r20:_=_:=hR 20 (by decide);have kz:=H.k0.step hb;have x0:=Blk.c0 kz;have x1:=Blk.c1 kz;have x2:=Blk.c2 kz;have y0:=Ji kz 0;have y1:=Ji kz 1;have y2:=Ji kz 2;have j0:Blk _ w.heap.size 26 #[.slice A0 n0 c0,.slice none 0 0,.slice none 0 0]:=Jd (i:=0) kz (.slice A0 n0 c0)
    have j1:Blk _ w.heap.size 26 #[.slice A0 n0 c0,.slice A1 n1 c1,.slice none 0 0]:=Jd (i:=1) j0 (.slice A1 n1 c1);have j2:Blk _ w.heap.size 26 #[.slice A0 n0 c0,.slice A1 n1 c1,.slice A2 n2 c2]:=Jd (i:=2) j1 (.slice A2 n2 c2)
    have hO3:Only [w.heap.size] w' _:=(((Only.refl [w.heap.size] w').setCell (p:=⟨w.heap.size,0,none⟩) (.inl (by simp)) (.slice A0 n0 c0)).setCell (p:=⟨w.heap.size,1,none⟩) (.inl (by simp)) (.slice A1 n1 c1)).setCell (p:=⟨w.heap.size,2,none⟩) (.inl (by simp)) (.slice A2 n2 c2);simp[Region.wanted,Jg,go_sem,execOp,r2,r20,x0,x1,x2,y0,y1,y2,upT]
    exact⟨hO3,hC.hit (by rw[hL];decide) hcs ⟨(Only.of_below hb _).trans hO3,j2⟩⟩
  ·intro l w9 τ hall hC;obtain⟨hO,kR⟩:=hC.af (hall 2 (by decide));simp only[List.take_succ_cons,List.take_zero,jdb];intro v20 _ v21 h21 hτ;obtain rfl:v21= .agg (RA q (.slice A3 q.Ez.length c3)):=h21;clear hτ hC hall;have kZ:=H.k1.only hO (by simp);have x0:=kZ.cell 0;have x1:=kZ.cell 1;have x2:=kZ.cell 2;have x3:=kZ.cell 3;have x4:=kZ.cell 4;have x5:=kZ.cell 5;have x6:=kZ.cell 6
   have x7:=kZ.cell 7;have x8:=kZ.cell 8;have x9:=kZ.cell 9;have x10:=kZ.cell 10;have x11:=kZ.cell 11;have x12:=kZ.cell 12;have x13:=kZ.cell 13;have x14:=kZ.cell 14;simp only[List.getElem?_toArray,List.getElem?_cons_zero,List.getElem?_cons_succ] at x0 x1 x2 x3 x4 x5 x6 x7 x8 x9 x10 x11 x12 x13 x14;have y0:=Ji kZ 0;have y1:=Ji kZ 1;have y2:=Ji kZ 2;have y3:=Ji kZ 3
   have y4:=Ji kZ 4;have y5:=Ji kZ 5;have y6:=Ji kZ 6;have y7:=Ji kZ 7;have y8:=Ji kZ 8;have y9:=Ji kZ 9;have y10:=Ji kZ 10;have y11:=Ji kZ 11;have y12:=Ji kZ 12;have y13:=Ji kZ 13;have y14:=Ji kZ 14;have kF:=Blk.box15 (q':=q) (E':= .slice A3 q.Ez.length c3) (q:=Ws) (E:= .slice none 0 0) kZ
   have hOF:=jl4 w9 (w.heap.size+1) q (.slice A3 q.Ez.length c3);have HX:=Ja (And.intro kF (And.intro hOF (And.intro kR hO)));clear kF hOF kR hO kZ;go_wp2_with fail;obtain⟨kF,hOF,kR,hO⟩:=HX.out;have kR2:=kR.only hOF (by simp)
   have hk: ∀z,w.heap.size+1<z→z<w8.heap.size→(Wr w9 (w.heap.size+1) q (.slice A3 q.Ez.length c3)).heap[z]? =w8.heap[z]? :=fun z hz hlt=>(hOF.block z (Nat.lt_of_lt_of_le hlt hO.size) (by simp;omega)).trans (hO.block z hlt (by simp;omega));have hB:=H.on.trans ((hO.below (by simp) H.on.size).trans (hOF.below (B:=w.heap.size) (by simp) (Nat.le_trans H.on.size hO.size)))
   show bodyPost _ _ _ _ _ (Wr w9 (w.heap.size+1) q (.slice A3 q.Ez.length c3));generalize Wr w9 (w.heap.size+1) q (.slice A3 q.Ez.length c3)=W at kF kR2 hk hB ⊢;have z0:=Blk.c0 kR2;have z1:=Blk.c1 kR2;have z2:=Blk.c2 kR2;have e0:=kF.cell 0;have e1:=kF.cell 1;have e2:=kF.cell 2;have e3:=kF.cell 3;have e4:=kF.cell 4;have e5:=kF.cell 5;have e6:=kF.cell 6;have e7:=kF.cell 7
   have e8:=kF.cell 8;have e9:=kF.cell 9;have e10:=kF.cell 10;have e11:=kF.cell 11;have e12:=kF.cell 12;have e13:=kF.cell 13;have e14:=kF.cell 14;simp only[V5,List.getElem?_toArray,List.getElem?_cons_zero,List.getElem?_cons_succ] at e0 e1 e2 e3 e4 e5 e6 e7 e8 e9 e10 e11 e12 e13 e14
   refine bodyPost_ret (v:= .tuple #[.agg #[.slice A0 n0 c0,.slice A1 n1 c1,.slice A2 n2 c2],.agg (RA q (.slice A3 q.Ez.length c3))]) (by simp[results,Tryz.results7,go_sem,z0,z1,z2,e0,e1,e2,e3,e4,e5,e6,e7,e8,e9,e10,e11,e12,e13,e14]) rfl ?_;have hlf: ∀z∈f,w.heap.size+1<z:=fun z hz=>by have:=H.lf z hz;omega
   have hlq: ∀z∈fq,w.heap.size+1<z:=fun z hz=>by have:=H.lq z hz;omega
   exact⟨m,q,A0,n0,c0,A1,n1,c1,A2,n2,c2,A3,c3,f,fq,rfl,Rp.house.keep H.R fun z hz=>hk z (hlf z hz) (Rp.house.lt H.R z hz),Rp.req.keep H.RQ fun z hz=>hk z (hlq z hz) (Rp.req.lt H.RQ z hz),H.ok.keep fun z hz=>hk z (hlf z hz) (Rp.house.lt H.R z hz),H.sm,fun z hz=>(List.mem_append.1 hz).elim (hlf z) (hlq z),H.dj,hB⟩
end Go.Proofs.YtobbdhgkcoeifaaGreatDoor
