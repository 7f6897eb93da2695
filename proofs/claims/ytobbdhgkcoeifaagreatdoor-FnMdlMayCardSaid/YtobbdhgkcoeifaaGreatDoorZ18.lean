/- Lemmas and walks, joined by program. -/
import Derived.Deep.DeepCutAuto
import Derived.Laws.Rows
import Derived.Test.YtobbdhgkcoeifaaGreatDoorZ17
import Derived.Test.YtobbdhgkcoeifaaGreatDoorZ4
import Derived.Test.YtobbdhgkcoeifaaGreatDoorZ12
namespace Go.Proofs.YtobbdhgkcoeifaaGreatDoor
open Go.RowKit
attribute [local go_sem ↓] Go.wp_at_zero Go.wp_at_succ
attribute [local go_sem] stayQ_normal
set_option maxHeartbeats 8000000
set_option maxRecDepth 100000
set_option linter.unusedSimpArgs false
set_option linter.unusedVariables false
structure RepoFit (p:Xq):Prop where
 Uz:Ym p.Uz
 nrules:p.Uz.length≤6
 nrefs:p.Fz.length≤3
 vers: ∀x∈p.Fz,1≤x.Vz.length∧x.Vz.length≤3∧(0≤x.count∧x.count≤14)∧∀l∈x.Vz,Y1 l=true
 names: ∀x∈p.Fz,x.name.size≤4194304
 asc_:asc Ref.name p.Fz
theorem jhq {s:ByteArray} (h:refFits s=true):s.size≤4194304:=by
 unfold refFits at h;rcases Bool.or_eq_true_iff.1 h with h|h
 ·have:=of_decide_eq_true h;subst this
  decide
 ·have:=jd9 h;omega
theorem jim {r:Yt} (h:jac r=true):Vn r:=by
 unfold jac at h;simp only[Bool.and_eq_true] at h;have:=Zr h.2;exact⟨jhq h.1.2,by omega⟩
theorem RepoFit.of {u:Int} {p:Xq} (h:repoOk u p=true):RepoFit p:=by
 obtain⟨h1,h2,h3,h4,h5,h6⟩:=Yj.1 h;have hr:=Zi.1 h5;refine⟨fun i hi=>jim (hr.2.1 _ (List.getElem_mem hi)),hr.1,h6,fun x hx=> ?_,fun x hx=> ?_,h3⟩
 ·obtain⟨a,b,c⟩:=Z2.1 (h1 x hx);exact⟨by omega,by omega,a,c⟩
 ·have:=jd9 (h2 x hx);omega
structure ReqFit (r:Req):Prop where
 path:r.path.size≤4194304
 ref:r.ref.size≤4194304
 other:r.other.size≤4194304
 rule:Vn r.rule
 Ez:jbi r.Ez
 nedits:r.Ez.length≤4
 ints:(0≤r.user∧r.user≤99)∧(0≤r.repo∧r.repo≤99)∧(0≤r.old∧r.old≤99)∧(0≤r.back∧r.back≤99)∧(0≤r.frm∧r.frm≤99)
theorem ReqFit.of {r:Req} (h:Yw r=true):ReqFit r:=by
 have hi:=jmn h;obtain⟨h4,he⟩:=jkd h;simp only[Yw,Bool.and_eq_true] at h;have hp:=Zr h.1.1.1.2;refine⟨by omega,jhq h.1.1.1.1.1.2,jhq h.1.1.1.1.2,jim h.1.1.2,⟨by omega,fun e hm=> ?_⟩,h4,hi⟩;have:=he e hm;unfold editOk at this;simp only[Bool.and_eq_true,decide_eq_true_eq] at this;have:=Zr this.1.1.1;omega
theorem Below.past {w w1:World} (h:Below w.drew.heap.size w.drew w1):Below w.heap.size w w1:=Below.t (Below.refl _ _).drew h
theorem V3 {w wc W:World} {g:Nat} (h:Below w.heap.size w wc) (hO:Only [g] wc W) (hg:w.heap.size≤g):Below w.heap.size w W:=h.trans (hO.below (fun z hz=>by simp at hz;omega) h.size)
theorem Xo {w:World} {g:Nat} {t:TypeId} {a0 a1 a2 a3:Value} (h:Blk w g t #[a0,a1,a2,a3]) (v0 v1 v2 v3:Value):
  Blk ((((w.setCell ⟨g,0,none⟩ v0).setCell ⟨g,1,none⟩ v1).setCell ⟨g,2,none⟩ v2).setCell ⟨g,3,none⟩ v3) g t #[v0,v1,v2,v3]∧Only [g] w ((((w.setCell ⟨g,0,none⟩ v0).setCell ⟨g,1,none⟩ v1).setCell ⟨g,2,none⟩ v2).setCell ⟨g,3,none⟩ v3):=
 ⟨by simpa using(((h.put 0 v0).put 1 v1).put 2 v2).put 3 v3,((((Only.refl [g] w).setCell (p:=⟨g,0,none⟩) (.inl (by simp)) v0).setCell (p:=⟨g,1,none⟩) (.inl (by simp)) v1).setCell (p:=⟨g,2,none⟩) (.inl (by simp)) v2).setCell (p:=⟨g,3,none⟩) (.inl (by simp)) v3⟩
theorem FreshR.code (k:Int) {w W:World} (hb:Below w.heap.size w W):FreshR Rp.ans w (code k) (.returned (.agg #[.int .i64 k,.slice none 0 0,.slice none 0 0,.int .i64 0])) W:=
 ⟨[.int .i64 k,.slice none 0 0,.slice none 0 0,.int .i64 0],[],rfl,⟨none,0,0,[],none,0,0,[],rfl,rfl,SlR.nil,SlR.nil⟩,List.nodup_nil,by simp,Free.nil _,hb⟩
theorem jel (l:List File) (path:ByteArray):(Yq l path).length≤l.length:=List.length_filter_le _ _
theorem jem {l:List File} (h:Y1 l=true) (path:ByteArray):Vk (Yq l path):=jbw (jif h _)
theorem jov {A:Option Addr} {n c:Nat} {keys:List Int} {fp:List Nat} (user key:Int) (w:World) (hx:SlR Rp.int w A n c keys fp):
  Calls Tryz.prog 94 #[.slice A n c,.int .i64 user,.int .i64 key] w fun e w'=>e= .returned (.bool (knows keys user key))∧Below w.heap.size w w':=by
 obtain rfl:=hx.1;have hmx:=hx.max;go_enter Tryz.func94,Tryz.ntmps94;go_wp2_with fail;refine(Y2 user 1 keys.length _).mono ?_;rintro e w1 ⟨rfl,hb⟩;cases hd:inB user 1 keys.length
 ·have HK:=Ja (show knows keys user key=false by unfold knows;rw[hd];rfl);clear hd;go_wp2;go_ret;exact⟨Jc HK.out.symm,hb⟩
 ·obtain⟨h1,h2⟩:=jap.1 hd;obtain⟨u,rfl⟩: ∃u:Nat,user=(u:Int)+1:=⟨(user - 1).toNat,by omega⟩;have hul:u<keys.length:=by omega
  have HX:=Ja (hx.step hb);obtain⟨b,o,rfl,hbl,_,q0⟩:=Xg HX.out hul;have hw:IntKind.i64.wrap ((u:Int)+1 - 1)=(u:Int):=by rw[IntWalk.i64_in _ (by omega)];omega
  have HK:=Ja (show knows keys ((u:Int)+1) key=decide (keys[u]=key) by
   unfold knows;rw[hd,show((u:Int)+1 - 1).toNat=u by omega,List.getElem?_eq_getElem hul];simp)
  have i0:(0:Int)≤(u:Int):=by omega
  have i1:(u:Int)<(keys.length:Int):=by omega
  clear hd hx hbl h1 h2;go_wp2;go_ret;exact⟨Jc (by rw[HK.out,Bool.eq_iff_iff];simp),hb⟩
theorem jak (k:Int) (w:World):Calls Tryz.prog 95 #[.int .i64 k] w fun e w'=>e= .returned (.agg #[.int .i64 k,.slice none 0 0,.slice none 0 0,.int .i64 0])∧Below w.heap.size w w':=by
 go_enter Tryz.func95,Tryz.ntmps95;go_wp2;have kb:=Blk.new w 37 #[.int .i64 k,.slice none 0 0,.slice none 0 0,.int .i64 0];have HB:=(Below.refl w.heap.size w).alloc nle (.cells #[.int .i64 k,.slice none 0 0,.slice none 0 0,.int .i64 0] 37);generalize w.alloc (.cells #[.int .i64 k,.slice none 0 0,.slice none 0 0,.int .i64 0] 37)=W at kb HB ⊢;have e0:=Blk.c0 kb;have e1:=Blk.c1 kb;have e2:=Blk.c2 kb
 have e3:=Blk.c3 kb;exact bodyPost_ret (v:= .agg #[.int .i64 k,.slice none 0 0,.slice none 0 0,.int .i64 0]) (by simp[results,Tryz.results95,go_sem,e0,e1,e2,e3]) rfl ⟨rfl,HB⟩
theorem jp0 {A:Option Addr} {n c:Nat} {Uz:List Yt} {fr:List Nat} {r:Req} {E0:Option Addr} {d0:Nat} (e:Wz) (he:e.path.size≤4194304) (b5 b3:Nat) (w:World) (kq:Blk w b3 31 (RA r (.slice E0 r.Ez.length d0))) (c5:w.cell? ⟨b5,0,none⟩=some (.slice A n c)) (hs:SlR Rp.rule w A n c Uz fr) (hR:Ym Uz):
  Calls Tryz.prog 155 #[.agg (Jp e).toArray,.pointer (some ⟨b5,0,none⟩),.pointer (some ⟨b3,0,none⟩)] w fun x w'=>x= .returned (.bool (!Yz Uz r.user r.ref e.path true))∧Below w.heap.size w w':=by
 rw[show(Jp e).toArray= #[.string e.path,.string e.bytes,.bool e.gone] from rfl];have d5:=J6 c5 (.cells #[.string e.path,.string e.bytes,.bool e.gone] 59);have kq':=kq.alloc (.cells #[.string e.path,.string e.bytes,.bool e.gone] 59);have hs':=hs.allocN (.cells #[.string e.path,.string e.bytes,.bool e.gone] 59)
 have x0:(w.alloc (.cells #[.string e.path,.string e.bytes,.bool e.gone] 59)).cell? ⟨b3,0,none⟩=some (.int .i64 r.user):=kq'.cell 0;have x4:(w.alloc (.cells #[.string e.path,.string e.bytes,.bool e.gone] 59)).cell? ⟨b3,4,none⟩=some (.string r.ref):=kq'.cell 4;clear c5 kq kq' hs;go_enter Tryz.func155,Tryz.ntmps155;go_wp2_with fail
 refine(Z0 (l:=Uz) r.user r.ref e.path true _ hs' hR he).mono ?_;rintro x w1 ⟨rfl,hb1⟩;go_wp2;go_ret;exact⟨rfl,Below.box1 hb1⟩
theorem may_any {g i:Nat} {m:Jl} {r:Req} {ch cs:List Value} {f fr:List Nat} (w:World) (hc:Cells w g 0 ch) (hm:Rp.house.R w ch m f) (hr:Rp.req.R w cs r fr) (hri:r.repo=(i:Int)) (hi:i<m.Rz.length) (hP: ∀p∈m.Rz,RepoFit p) (hQ:ReqFit r):
  Calls Tryz.prog 133 #[.pointer (some ⟨g,0,none⟩),.agg cs.toArray] w fun e w'=>e= .returned (.bool (Yi m m.Rz[i] r))∧Below w.heap.size w w':=by
 obtain⟨E0,m0,d0,e0,rfl,_,hq⟩:=hr;obtain rfl:=hq.1;have hm0:=hm;obtain⟨A0,n0,c0,f0,A1,n1,c1,f1,A2,n2,c2,f2,rfl,hff,h0,h1,h2⟩:=hm;obtain rfl:=h0.1;obtain rfl:=h1.1;obtain rfl:=h2.1;have hmx:=h2.max;have hmq:=hq.max;have HB0:=(Below.refl w.heap.size w).alloc nle (.cells (RA r (.slice E0 r.Ez.length d0)) 31);have kq:=Blk.new w 31 (RA r (.slice E0 r.Ez.length d0));have HRI:=Ja hri
 have HPF:=Ja hP;have HQF:=Ja hQ;have HCx:=Ja (fun(W:World) (hb:Below w.heap.size w W)=>(show W.cell? ⟨g,0,none⟩=some (.slice A0 m.keys.length c0)∧W.cell? ⟨g,1,none⟩=some (.slice A1 m.used.length c1)∧W.cell? ⟨g,2,none⟩=some (.slice A2 m.Rz.length c2) from
  ⟨Je (by simpa using hc.at0) hb,Je (by simpa using hc.tail.at0) hb,Je (by simpa using hc.tail.tail.at0) hb⟩))
 have HUx:=Ja (fun(W:World) (hb:Below w.heap.size w W)=>h1.step hb);have HRx:=Ja (fun(W:World) (hb:Below w.heap.size w W)=>h2.step hb);have HEx:=Ja (fun(W:World) (hb:Below w.heap.size w W)=>hq.step hb);have HHx:=Ja (fun(W:World) (hb:Below w.heap.size w W)=>Rp.house.below hm0 hb nle);clear hc hm0 hff h0 h1 h2 hP hQ hq hri;go_enter Tryz.func133,Tryz.ntmps133;go_upto_region 1 with fail
 generalize hW0:w.alloc (.cells (RA r (.slice E0 r.Ez.length d0)) 31)=w0 at HB0 kq ⊢;clear hW0;have HKQ:=Ja (fun(W:World) (hb:Below w0.heap.size w0 W)=>kq.step hb);have HB0:=Ja HB0;clear kq;have HFI:=Ja (HPF.out _ (List.getElem_mem hi));have i0:(0:Int)≤(i:Int):=by omega
 have i1:(i:Int)<(m.Rz.length:Int):=by omega
 have hmf:=Zd;have HMF:=Ja hmf;clear hmf;obtain⟨bp,op,B0,k0,d1,g0,B1,k1,d2,g1,rfl,hbp,hmp,q0,q1,q2,hs0,hs1,_⟩:=J7 (HRx.out w0 HB0.out) hi;obtain rfl:=hs0.1;have HS0:=Ja (fun(W:World) (hb:Below w0.heap.size w0 W)=>hs0.step hb);clear q0 q2 hs0 hs1 hbp hmp;obtain⟨a0,a1,a2⟩:=HCx.out w0 HB0.out
 have x2:w0.cell? ⟨w.heap.size,2,none⟩=some (.int .i64 (i:Int)):=by rw[←HRI.out];exact(HKQ.out w0 (Below.refl _ _)).cell 2
 go_upto_region 1 with fail
 have b2:=fun(y:Obj)=>J6 a2 y;have y2:=fun(y:Obj)=>J6 x2 y;have p1:=fun(y:Obj)=>J6 q1 y
 go_cut [5] (fun v wx=>v= .pointer (some ⟨w0.heap.size,0,none⟩)∧Blk wx w0.heap.size 45 #[.slice B0 m.Rz[i].Uz.length d1]∧Below w0.heap.size w0 wx)
 case first=>
  go_region_law (fail)
  all_goals
   go_wp2_with fail;go_meet
   case rel=>exact⟨rfl,(by first|exact Blk.new' rfl _ _|exact Blk.new' (by simp) _ _),(by repeat' first|exact Below.refl _ _|apply Below.drew|(refine Below.alloc ?_ (by simp) _))⟩
 case rest=>
  obtain⟨wz,hwz⟩: ∃wz,wz=wc:=⟨_,rfl⟩;subst hwz;obtain⟨rfl,k5,hb1⟩:=hcut;have HB1:=Ja hb1;have HK5:=Ja k5;clear hb1 k5 a0 a1 a2 x2 q1 b2 y2 p1;have c5:=Blk.c0 HK5.out;by_cases k1:r.kind=1
  ·have K1:=Ja k1;have x3:wz.cell? ⟨w.heap.size,3,none⟩=some (.int .i64 1):=by rw[←K1.out];exact(HKQ.out wz HB1.out).cell 3
   have x8:=Blk.c8 (HKQ.out wz HB1.out);clear k1;have HE:=Ja (show Yi m m.Rz[i] r=(decide (0<r.Ez.length)&&r.Ez.all fun e=>Yz m.Rz[i].Uz r.user r.ref e.path true) by unfold Yi;rw[if_pos K1.out]);by_cases hpos:0<r.Ez.length
   ·have hposi:(0:Int)<(r.Ez.length:Int):=by omega
    have HP:=Ja (decide_eq_true hpos);have hmf:=HMF.out;clear hpos;go_wp2_with fail;refine(jf2 (l:=r.Ez) (fun e=> !Yz m.Rz[i].Uz r.user r.ref e.path true) _ _ (enters_of Tryz.func155 (by kernel_rfl) rfl) _ (HEx.out _ (Below.t HB0.out HB1.out)) (fun j hj cs fq w1 hB hR=> ?_)).mono ?_
    ·obtain⟨rfl,rfl⟩:=hR;exact jp0 _ (HQF.out.Ez.2 _ (List.getElem_mem hj)).1 _ _ w1 ((HKQ.out wz HB1.out).step hB) (Je c5 hB) (HS0.out _ (Below.t HB1.out hB)) HFI.out.Uz
    ·rintro e wv ⟨rfl,hbv⟩;go_wp2;go_ret;refine⟨Jc ?_,Below.t HB0.out (Below.t HB1.out hbv)⟩;rw[HE.out,HP.out,Bool.true_and,Bool.eq_iff_iff];simp
   ·have hposi: ¬(0:Int)<(r.Ez.length:Int):=by omega
    have HP:=Ja (decide_eq_false hpos);clear hpos;go_wp2_with fail;go_ret;exact⟨Jc (by rw[HE.out,HP.out];rfl),Below.t HB0.out HB1.out⟩
  ·have K1:=Ja k1;have C1:=fun W (h:SlR Rp.rule W B0 m.Rz[i].Uz.length d1 m.Rz[i].Uz g0)=>Z0 r.user r.ref ByteArray.empty true W h HFI.out.Uz (by decide);have HE:=Ja (show Yi m m.Rz[i] r=(Yz m.Rz[i].Uz r.user r.ref ByteArray.empty true&&(decide (r.kind=9)||(match m.Rz[r.frm.toNat]? with
    |none=>false
    |some q=>Yz q.Uz r.user r.other ByteArray.empty false))) by unfold Yi;rw[if_neg K1.out];rfl)
   have hs0:=HS0.out wz HB1.out;have x0:=Blk.c0 (HKQ.out wz HB1.out);have x4:=Blk.c4 (HKQ.out wz HB1.out);cases hA:Yz m.Rz[i].Uz r.user r.ref ByteArray.empty true
   ·have HV:=Ja (show Yi m m.Rz[i] r=false by rw[HE.out,hA];rfl);simp only[hA] at C1;have D1:=Ja C1;clear C1 hA;have x3:=Blk.c3 (HKQ.out wz HB1.out);go_wp2_with fail;have n0:=BelowW.nonempty wz;have e0:=BelowW.ex (w:=wz);have g_c5:=bwc c5;have g_x0:=bwc x0;have g_x3:=bwc x3;have g_x4:=bwc x4;clear c5 x0 x3 x4;refine Jf (by kernel_rfl) (by kernel_rfl) ?_
    repeat(go_big_quiet_step(first|(go_at_call 18;exact BelowW.calls _ (D1.out _ (BelowW.sl _ hs0)))))
    refine wpQuiet_nil ?_;rintro w4 ⟨m4,hw4⟩;have hb4:=m4.property;rw[←hw4] at hb4;clear hw4 m4 e0 g_c5 g_x0 g_x3 g_x4;go_wp2;go_ret;exact⟨Jc HV.out.symm,Below.t HB0.out (Below.t HB1.out hb4)⟩
   ·have HA:=Ja hA;simp only[hA] at C1;have D1:=Ja C1;clear C1 hA;by_cases k9:r.kind=9
    ·have K9:=Ja k9;have HV:=Ja (show Yi m m.Rz[i] r=true by rw[HE.out,HA.out,decide_eq_true K9.out];rfl);have x3:wz.cell? ⟨w.heap.size,3,none⟩=some (.int .i64 9):=by rw[←K9.out];exact(HKQ.out wz HB1.out).cell 3
     clear k1 k9;go_wp2_with fail;have n0:=BelowW.nonempty wz;have e0:=BelowW.ex (w:=wz);have g_c5:=bwc c5;have g_x0:=bwc x0;have g_x3:=bwc x3;have g_x4:=bwc x4;clear c5 x0 x3 x4;refine Jf (by kernel_rfl) (by kernel_rfl) ?_
     repeat(go_big_quiet_step(first|(go_at_call 18;exact BelowW.calls _ (D1.out _ (BelowW.sl _ hs0)))))
     refine wpQuiet_nil ?_;rintro w4 ⟨m4,hw4⟩;have hb4:=m4.property;rw[←hw4] at hb4;clear hw4 m4 e0 g_c5 g_x0 g_x3 g_x4;go_wp2;go_ret;exact⟨Jc HV.out.symm,Below.t HB0.out (Below.t HB1.out hb4)⟩
    ·have K9:=Ja k9;have hk9:decide (r.kind=9)=false:=decide_eq_false k9;have hk9':(r.kind==9)=false:=by simpa using k9
     obtain⟨a0,a1,a2⟩:=HCx.out wz (Below.t HB0.out HB1.out);have hfr0:=HQF.out.ints.2.2.2.2.1;obtain⟨j,hfj⟩: ∃j:Nat,r.frm=(j:Int):=⟨r.frm.toNat,by omega⟩;have HFJ:=Ja hfj;have x3:=Blk.c3 (HKQ.out wz HB1.out);have x14:=Blk.c14 (HKQ.out wz HB1.out);have x13:wz.cell? ⟨w.heap.size,13,none⟩=some (.int .i64 (j:Int)):=by rw[←hfj];exact(HKQ.out wz HB1.out).cell 13
     clear hfr0 hfj a0 a1;by_cases hj:j<m.Rz.length
     ·obtain⟨bp',op',B0',k0',d1',g0',B1',k1',d2',g1',hbo,hbp,hmp,q0,q1,q2,hs0',hs1,_⟩:=J7 (HRx.out wz (Below.t HB0.out HB1.out)) hj;cases hbo;obtain rfl:=hs0'.1;have HFI':=Ja (HPF.out _ (List.getElem_mem hj));have C2:=fun W (h:SlR Rp.rule W B0' m.Rz[j].Uz.length d1' m.Rz[j].Uz g0')=>Z0 r.user r.other ByteArray.empty false W h HFI'.out.Uz (by decide)
      have HV:=Ja (show Yi m m.Rz[i] r=Yz m.Rz[j].Uz r.user r.other ByteArray.empty false by rw[HE.out,HA.out,decide_eq_false K9.out,HFJ.out,Int.toNat_natCast,List.getElem?_eq_getElem hj];rfl);have j0:(0:Int)≤(j:Int):=by omega
      have j1:(j:Int)<(m.Rz.length:Int):=by omega
      have j2:decide ((j:Int)<(m.Rz.length:Int))=true:=by simpa using hj
      have j3:decide (j<m.Rz.length)=true:=by simpa using hj
      clear q0 q2 hs1 hbp hmp;cases hB:Yz m.Rz[j].Uz r.user r.other ByteArray.empty false
      all_goals
       rw[hB] at HV;simp only[hB] at C2;have D2:=Ja C2;clear C2 hB;go_wp2_with fail;have n0:=BelowW.nonempty wz;have e0:=BelowW.ex (w:=wz);have g_c5:=bwc c5;have g_x0:=bwc x0;have g_x3:=bwc x3;have g_x4:=bwc x4;have g_x13:=bwc x13;have g_x14:=bwc x14;have g_a2:=bwc a2;have g_q1:=bwc q1;clear c5 x0 x3 x4 x13 x14 a2 q1;refine Jf (by kernel_rfl) (by kernel_rfl) ?_
       repeat(go_big_quiet_step(first|(go_at_call 18;(with_reducible show Calls _ _ #[.slice B0 _ _,_,_,_,_] _ _);exact BelowW.calls _ (D1.out _ (BelowW.sl _ hs0)))|(go_at_call 18;(with_reducible show Calls _ _ #[.slice B0' _ _,_,_,_,_] _ _);exact BelowW.calls _ (D2.out _ (BelowW.sl _ hs0')))))
       refine wpQuiet_nil ?_;rintro w4 ⟨m4,hw4⟩;have hb4:=m4.property;rw[←hw4] at hb4;clear hw4 m4 e0 g_c5 g_x0 g_x3 g_x4 g_x13 g_x14 g_a2 g_q1;go_wp2;go_ret;exact⟨Jc HV.out.symm,Below.t HB0.out (Below.t HB1.out hb4)⟩
     ·have HV:=Ja (show Yi m m.Rz[i] r=false by rw[HE.out,HA.out,decide_eq_false K9.out,HFJ.out,Int.toNat_natCast,List.getElem?_eq_none (by omega)];rfl);have j2:decide ((j:Int)<(m.Rz.length:Int))=false:=by simpa using hj
      have j3:decide (j<m.Rz.length)=false:=by simpa using hj
      clear hj;go_wp2_with fail;have n0:=BelowW.nonempty wz;have e0:=BelowW.ex (w:=wz);have g_c5:=bwc c5;have g_x0:=bwc x0;have g_x3:=bwc x3;have g_x4:=bwc x4;have g_x13:=bwc x13;have g_a2:=bwc a2;clear c5 x0 x3 x4 x13 a2;refine Jf (by kernel_rfl) (by kernel_rfl) ?_
      repeat(go_big_quiet_step(first|(go_at_call 18;exact BelowW.calls _ (D1.out _ (BelowW.sl _ hs0)))))
      refine wpQuiet_nil ?_;rintro w4 ⟨m4,hw4⟩;have hb4:=m4.property;rw[←hw4] at hb4;clear hw4 m4 e0 g_c5 g_x0 g_x3 g_x4 g_x13 g_a2;go_wp2;go_ret;exact⟨Jc HV.out.symm,Below.t HB0.out (Below.t HB1.out hb4)⟩
def jfb (w:World) (o:List File×Int) (e:Ending) (w':World):Prop:=
 ∃A n c f,e= .returned (.tuple #[.slice A n c,.int .i64 o.2])∧SlR Rp.file w' A n c o.1 f∧f.Nodup∧(∀z∈f,w.heap.size≤z)∧Free w' f∧Below w.heap.size w w'
theorem jbq {vs:List (List File)} (h:1≤vs.length): ∃l,version vs 0=some l∧l∈vs:=by
 have hj:vs.length - 1<vs.length:=by omega
 exact⟨_,jaz (j:=vs.length - 1) (Int.le_refl 0) (by omega) hj,List.getElem_mem hj⟩
theorem jj3 {vs:List (List File)} (h: ∀l∈vs,Y1 l=true) (back:Int):((version vs back).getD []).length≤60:=by
 cases hv:version vs back with
 |none=>simp
 |some l=>exact(Yo.1 (h l (ja5 hv))).1
theorem jmv {g b o:Nat} {m:Jl} {x:Ref} {r:Req} {ch cx cs:List Value} {f fx fr:List Nat} (w:World) (hc:Cells w g 0 ch) (hm:Rp.house.R w ch m f) (hr:Rp.req.R w cs r fr) (hcx:Cells w b o cx) (hx:Rp.ref.R w cx x fx)
  (hok:Ys m=true) (hxl:1≤x.Vz.length) (hxo: ∀l∈x.Vz,Y1 l=true) (hQ:ReqFit r):
  Calls Tryz.prog 134 #[.pointer (some ⟨g,0,none⟩),.agg cs.toArray,.pointer (some ⟨b,o,none⟩)] w (jfb w (newest m x r)):=by
 have hx0:=hx;obtain⟨Av,nv,cv,fv,rfl,hfv,hv0⟩:=hx;have HZ:=Ja (show w.cell? ⟨b,o,none⟩=some (.string x.name)∧w.cell? ⟨b,o+1,none⟩=some (.bool x.guard)∧w.cell? ⟨b,o+2,none⟩=some (.int .i64 x.count)∧w.cell? ⟨b,o+3,none⟩=some (.slice Av nv cv) from⟨hcx.at0,hcx.tail.at0,hcx.tail.tail.at0,hcx.tail.tail.tail.at0⟩);have HXx:=Ja (fun(W:World) (hb:Below w.heap.size w W)=>Rp.ref.below hx0 hb nle)
 have HOK:=Ja hok;have HXL:=Ja hxl;have HXO:=Ja hxo;clear hcx hx0 hfv hv0 hok hxl hxo;obtain⟨E0,m0,d0,e0,rfl,_,hq⟩:=hr;obtain rfl:=hq.1;have hm0:=hm;obtain⟨A0,n0,c0,f0,A1,n1,c1,f1,A2,n2,c2,f2,rfl,hff,h0,h1,h2⟩:=hm;obtain rfl:=h0.1;obtain rfl:=h1.1;obtain rfl:=h2.1;have hmx:=h2.max;have hmq:=hq.max;have HB0:=(Below.refl w.heap.size w).alloc nle (.cells (RA r (.slice E0 r.Ez.length d0)) 31)
 have kq:=Blk.new w 31 (RA r (.slice E0 r.Ez.length d0));have HQF:=Ja hQ;have HCx:=Ja (fun(W:World) (hb:Below w.heap.size w W)=>(show W.cell? ⟨g,0,none⟩=some (.slice A0 m.keys.length c0)∧W.cell? ⟨g,1,none⟩=some (.slice A1 m.used.length c1)∧W.cell? ⟨g,2,none⟩=some (.slice A2 m.Rz.length c2) from
  ⟨Je (by simpa using hc.at0) hb,Je (by simpa using hc.tail.at0) hb,Je (by simpa using hc.tail.tail.at0) hb⟩))
 have HUx:=Ja (fun(W:World) (hb:Below w.heap.size w W)=>h1.step hb);have HRx:=Ja (fun(W:World) (hb:Below w.heap.size w W)=>h2.step hb);have HEx:=Ja (fun(W:World) (hb:Below w.heap.size w W)=>hq.step hb);have HHx:=Ja (fun(W:World) (hb:Below w.heap.size w W)=>Rp.house.below hm0 hb nle);clear hc hm0 hff h0 h1 h2 hQ hq;go_enter Tryz.func134,Tryz.ntmps134;go_upto_region 1 with fail
 generalize hW0:w.alloc (.cells (RA r (.slice E0 r.Ez.length d0)) 31)=w0 at HB0 kq ⊢;clear hW0;have HKQ:=Ja (fun(W:World) (hb:Below w0.heap.size w0 W)=>kq.step hb);have HB0:=Ja HB0;clear kq;by_cases k1:r.kind=1
 ·have K1:=Ja k1;have x3:w0.cell? ⟨w.heap.size,3,none⟩=some (.int .i64 1):=by rw[←K1.out];exact(HKQ.out w0 (Below.refl _ _)).cell 3
  have z0:w0.cell? ⟨b,o,none⟩=some (.string x.name):=Je (HZ.out.1) HB0.out;have z1:w0.cell? ⟨b,o+1,none⟩=some (.bool x.guard):=Je (HZ.out.2.1) HB0.out;have z2:w0.cell? ⟨b,o+2,none⟩=some (.int .i64 x.count):=Je (HZ.out.2.2.1) HB0.out;have z3:w0.cell? ⟨b,o+3,none⟩=some (.slice Av nv cv):=Je (HZ.out.2.2.2) HB0.out;clear k1;obtain⟨l,hv,hl⟩:=jbq HXL.out
  have HV:=Ja hv;have HL:=Ja hl;have HL60:=Ja (show l.length≤60 from(Yo.1 (HXO.out l hl)).1);clear hv hl;go_wp2_with fail;refine(ja7 (x:=x) 0 (by omega) _ (HXx.out _ HB0.out)).mono ?_;rintro e w1 ⟨AF,nF,cF,fF,rfl,hsF,_,hb1⟩;rw[HV.out] at hsF;have HS1:=Ja (show SlR Rp.file w1 AF nF cF l fF from hsF);have HB1:=Ja hb1;rw[HV.out];simp only[Option.isSome]
  clear hsF hb1 z0 z1 z2 z3 x3;have x8:=Blk.c8 (HKQ.out w1 HB1.out);go_wp2_with fail;refine(jfz (l:=l) (es:=r.Ez) _ HS1.out (HEx.out _ (Below.t HB0.out HB1.out)) (jbw (HXO.out l HL.out)) HQF.out.Ez).mono ?_;rintro e w2 ⟨v2,rfl,ho2,hb2⟩;obtain⟨A2',c2',f2',rfl,hs2,_,_,_⟩:=Yp ho2;have HS2:=Ja hs2;have HB2:=Ja (Below.t HB1.out hb2);clear ho2 hs2 hb2 x8
  cases ht:Yu l r.Ez with
  |none=>
   simp only[Option.isSome];have HE:=Ja (show newest m x r=([],7) by unfold newest;rw[if_pos K1.out,HV.out];simp only[ht]);go_wp2_with fail
   go_ret2
   rw[HE.out];exact⟨none,0,0,[],rfl,SlR.nil,List.nodup_nil,by simp,Free.nil _,Below.t HB0.out HB2.out⟩
  |some y=>
   have hs2:=HS2.out;rw[ht] at hs2;have HS3:=Ja (show SlR Rp.file w2 A2' y.length c2' y f2' from hs2);have HY:=Ja (show y.length≤60 from(Yo.1 (jbs ht)).1);simp only[Option.isSome,Option.getD_some];clear hs2 HS2;have HE:=Ja (show newest m x r=(y,1) by unfold newest;rw[if_pos K1.out,HV.out];simp only[ht]);go_wp2_with fail
   refine(Xk (l:=y) _ HS3.out (by have:=HY.out;omega)).mono ?_;rintro e w5 ho5;obtain⟨A5,c5,f5,rfl,hs5,hn5,hl5,hf5,hb5⟩:=OwnF.sl (k:=2) (enc:=Jj) (hk:=fun _=>rfl) (h1:=Vz) ho5
   have HR:=Ja (show jfb w (newest m x r) (.returned (.tuple #[.slice A5 (y).length c5,.int .i64 1])) w5 from by rw[HE.out];exact⟨A5,_,c5,f5,rfl,hs5,hn5,fun z hz=>Nat.le_trans (Below.t HB0.out HB2.out).size (hl5 z hz),hf5,Below.t (Below.t HB0.out HB2.out) hb5⟩);clear hs5 hn5 hl5 hf5 hb5 ho5;go_wp2_with fail
   go_ret2
   exact HR.out
 have K1:=Ja k1;by_cases k9:r.kind=9
 ·have K9:=Ja k9;have x3:w0.cell? ⟨w.heap.size,3,none⟩=some (.int .i64 9):=by rw[←K9.out];exact(HKQ.out w0 (Below.refl _ _)).cell 3
  have z0:w0.cell? ⟨b,o,none⟩=some (.string x.name):=Je (HZ.out.1) HB0.out;have z1:w0.cell? ⟨b,o+1,none⟩=some (.bool x.guard):=Je (HZ.out.2.1) HB0.out;have z2:w0.cell? ⟨b,o+2,none⟩=some (.int .i64 x.count):=Je (HZ.out.2.2.1) HB0.out;have z3:w0.cell? ⟨b,o+3,none⟩=some (.slice Av nv cv):=Je (HZ.out.2.2.2) HB0.out;have x7:=Blk.c7 (HKQ.out w0 (Below.refl _ _));clear k1 k9
  cases hg:x.guard
  ·rw[hg] at z1;have HG:=Ja hg;clear hg;go_wp2_with fail;refine Xs fun K hK=> ?_;have HKK:=Ja hK;clear hK
   go_region_law (first
    |(refine J9 rfl 122 (enters_of Tryz.func122 (by kernel_rfl) rfl) rfl _ (by simp[Act.eval,Act.put,HG.out]) ((ja7 (x:=x) r.back (by have:=HQF.out.ints;omega) _ (HXx.out _ (Below.t HB0.out (by first|exact(Below.refl _ _).drew|exact Below.refl _ _|exact((Below.refl _ _).drew).alloc nle _|exact((Below.refl _ _).alloc nle _).drew|exact(Below.refl _ _).alloc nle _)))).mono ?_);rintro e w3 ⟨AF,nF,cF,fF,rfl,hsF,_,hb3⟩;refine⟨_,rfl, ?_⟩)
    |fail)
   all_goals
    refine HKK.out _ _ ?_;clear HKK K;have HB1:=Ja (Below.past hb3);have HSF:=Ja hsF;have HLN:=Ja (show((version x.Vz r.back).getD []).length≤60 from jj3 HXO.out _);clear hb3 hsF z0 z1 z2 z3 x3;cases hv:version x.Vz r.back with
    |none=>
     simp only[Option.isSome];have HE:=Ja (show newest m x r=([],7) by unfold newest;rw[if_neg K1.out,if_pos K9.out,HG.out];simp only[Bool.false_eq_true,if_false];simp only[hv]);go_wp2_with fail
     go_ret2
     rw[HE.out];exact⟨none,0,0,[],rfl,SlR.nil,List.nodup_nil,by simp,Free.nil _,Below.t HB0.out HB1.out⟩
    |some l=>
     have hs1:=HSF.out;have hl1:=HLN.out;rw[hv] at hs1 hl1;have HS1:=Ja (show SlR Rp.file w3 AF nF cF l fF from hs1);have HL1:=Ja (show l.length≤60 from hl1);simp only[Option.isSome];clear hs1 hl1 HSF HLN;have HE:=Ja (show newest m x r=(l,1) by unfold newest;rw[if_neg K1.out,if_pos K9.out,HG.out];simp only[Bool.false_eq_true,if_false];simp only[hv]);go_wp2_with fail
     refine(Xk (l:=l) _ HS1.out (by have:=HL1.out;omega)).mono ?_;rintro e w5 ho5;obtain⟨A5,c5,f5,rfl,hs5,hn5,hl5,hf5,hb5⟩:=OwnF.sl (k:=2) (enc:=Jj) (hk:=fun _=>rfl) (h1:=Vz) ho5
     have HR:=Ja (show jfb w (newest m x r) (.returned (.tuple #[.slice A5 (l).length c5,.int .i64 1])) w5 from by rw[HE.out];exact⟨A5,_,c5,f5,rfl,hs5,hn5,fun z hz=>Nat.le_trans (Below.t HB0.out HB1.out).size (hl5 z hz),hf5,Below.t (Below.t HB0.out HB1.out) hb5⟩);clear hs5 hn5 hl5 hf5 hb5 ho5;go_wp2_with fail
     go_ret2
     exact HR.out
  ·rw[hg] at z1;have HE:=Ja (show newest m x r=([],8) by unfold newest;rw[if_neg K1.out,if_pos K9.out,hg];rfl);clear hg;go_wp2_with fail
   go_ret2
   rw[HE.out];exact⟨none,0,0,[],rfl,SlR.nil,List.nodup_nil,by simp,Free.nil _,HB0.out⟩
 have K9:=Ja k9;have x3:=Blk.c3 (HKQ.out w0 (Below.refl _ _));have x13:=Blk.c13 (HKQ.out w0 (Below.refl _ _));have x14:=Blk.c14 (HKQ.out w0 (Below.refl _ _));have z0:=True.intro;have z1:=True.intro;have z2:=True.intro;have z3:=True.intro;obtain⟨a0,a1,a2⟩:=HCx.out w0 HB0.out;go_wp2_with fail;refine Xs fun K hK=> ?_;have HKK:=Ja hK;clear hK
 go_region_law (first
  |(refine J9 rfl 67 (enters_of Tryz.func67 (by kernel_rfl) rfl) rfl _ (by simp[Act.eval,Act.put]) ((jo3 (x:=m) r.frm r.other 0 (by omega) _ (HHx.out _ (Below.t HB0.out (by first|exact(Below.refl _ _).drew|exact Below.refl _ _|exact((Below.refl _ _).drew).alloc nle _|exact((Below.refl _ _).alloc nle _).drew|exact(Below.refl _ _).alloc nle _)))).mono ?_);rintro e w3 ⟨AF,nF,cF,fF,rfl,hsF,_,hb3⟩;refine⟨_,rfl, ?_⟩)
  |fail)
 all_goals
  refine HKK.out _ _ ?_;clear HKK K;have HB1:=Ja (Below.past hb3);have HSF:=Ja hsF;have HLN:=Ja (show((Xn m r.frm r.other 0).getD []).length≤60 from jk5 HOK.out);clear hb3 hsF z0 z1 z2 z3 x3;cases hv:Xn m r.frm r.other 0 with
  |none=>
   simp only[Option.isSome];have HE:=Ja (show newest m x r=([],7) by unfold newest;rw[if_neg K1.out,if_neg K9.out];simp only[hv]);go_wp2_with fail
   go_ret2
   rw[HE.out];exact⟨none,0,0,[],rfl,SlR.nil,List.nodup_nil,by simp,Free.nil _,Below.t HB0.out HB1.out⟩
  |some l=>
   have hs1:=HSF.out;have hl1:=HLN.out;rw[hv] at hs1 hl1;have HS1:=Ja (show SlR Rp.file w3 AF nF cF l fF from hs1);have HL1:=Ja (show l.length≤60 from hl1);simp only[Option.isSome];clear hs1 hl1 HSF HLN;have HE:=Ja (show newest m x r=(l,1) by unfold newest;rw[if_neg K1.out,if_neg K9.out];simp only[hv]);go_wp2_with fail;refine(Xk (l:=l) _ HS1.out (by have:=HL1.out;omega)).mono ?_
   rintro e w5 ho5;obtain⟨A5,c5,f5,rfl,hs5,hn5,hl5,hf5,hb5⟩:=OwnF.sl (k:=2) (enc:=Jj) (hk:=fun _=>rfl) (h1:=Vz) ho5;have HR:=Ja (show jfb w (newest m x r) (.returned (.tuple #[.slice A5 (l).length c5,.int .i64 1])) w5 from by rw[HE.out];exact⟨A5,_,c5,f5,rfl,hs5,hn5,fun z hz=>Nat.le_trans (Below.t HB0.out HB1.out).size (hl5 z hz),hf5,Below.t (Below.t HB0.out HB1.out) hb5⟩)
   clear hs5 hn5 hl5 hf5 hb5 ho5;go_wp2_with fail
   go_ret2
   exact HR.out
theorem Vi:(Tryz.prog.info? 31).map (·.size)=some 15:=by kernel_rfl
theorem jew:(Tryz.prog.info? 34).map (fun i=>(i.zero,i.size,i.bytes))=some (some (.slice none 0 0),1,24):=by kernel_rfl
theorem jb6 {keys:List Int} {user key:Int} (h:knows keys user key=true): ∃u:Nat,user=(u:Int)+1∧u<keys.length:=by
 unfold knows at h;obtain⟨h1,h2⟩:=jap.1 (Bool.and_eq_true_iff.1 h).1;exact⟨(user - 1).toNat,by omega,by omega⟩
theorem ja9 {es:List Wz} (h:jbi es) (h4:es.length≤4):Yg es≤33554432:=by
 have:=jcf h es.length nle;rw[List.take_length] at this;omega
theorem jns {g i:Nat} {m:Jl} {r:Req} {ch cs:List Value} {fp fr:List Nat} (w:World) (hc:Cells w g 0 ch) (hgm:g∉fp) (hh:Rp.houseO.R w ch m fp) (hn:fp.Nodup) (hf:Free w fp) (hr:Rp.req.R w cs r fr) (hok:Ys m=true) (hrq:Yw r=true) (hkn:knows m.keys r.user r.key=true) (hri:r.repo=(i:Int)) (hi:i<m.Rz.length):
  Calls Tryz.prog 97 #[.pointer (some ⟨g,0,none⟩),.agg cs.toArray] w (Wrote w ch fp (write m m.Rz[i] r).1 (write m m.Rz[i] r).2):=by
 obtain⟨fh,hm,hfhs⟩:=V8.2 _ _ _ _ hh;have HHO:=Ja hh;have HNO:=Ja hn;have HFO:=Ja hf;have HGM:=Ja hgm;have HCG:=Ja hc;have HOK:=Ja hok;have HQF:=Ja (ReqFit.of hrq);have HPF:=Ja (show ∀p∈m.Rz,RepoFit p from fun p hp=>RepoFit.of ((Jo.1 hok).2.2 p hp));obtain⟨u,hu1,hu2⟩:=jb6 hkn;have hul:u<m.used.length:=by have:=(J8.1 (Jo.1 hok).1).2.1;omega
 have HUS:=Ja (show 0≤m.used[u]∧m.used[u]≤200 from(J8.1 (Jo.1 hok).1).2.2.2 _ (List.getElem_mem hul));have hu99:=HQF.out.ints.1;have HU1:=Ja hu1;have hc0:=hc;clear hn hf hgm hok hrq hkn hfhs hu2 hu1;obtain⟨E0,m0,d0,e0,rfl,hfe,hq⟩:=hr;obtain rfl:=hq.1;have hm0:=hm;obtain⟨A0,n0,c0,f0,A1,n1,c1,f1,A2,n2,c2,f2,rfl,hff,h0,h1,h2⟩:=hm;obtain rfl:=h0.1;obtain rfl:=h1.1;obtain rfl:=h2.1
 have hmx:=h2.max;have hmq:=hq.max;have HB0:=(Below.refl w.heap.size w).alloc nle (.cells (RA r (.slice E0 r.Ez.length d0)) 31);have kq:=Blk.new w 31 (RA r (.slice E0 r.Ez.length d0));have HRI:=Ja hri
 have HCx:=Ja (fun(W:World) (hb:Below w.heap.size w W)=>(show W.cell? ⟨g,0,none⟩=some (.slice A0 m.keys.length c0)∧W.cell? ⟨g,1,none⟩=some (.slice A1 m.used.length c1)∧W.cell? ⟨g,2,none⟩=some (.slice A2 m.Rz.length c2) from
  ⟨Je (by simpa using hc.at0) hb,Je (by simpa using hc.tail.at0) hb,Je (by simpa using hc.tail.tail.at0) hb⟩))
 have HUx:=Ja (fun(W:World) (hb:Below w.heap.size w W)=>h1.step hb);have HRx:=Ja (fun(W:World) (hb:Below w.heap.size w W)=>h2.step hb);have HEx:=Ja (fun(W:World) (hb:Below w.heap.size w W)=>hq.step hb);have HHx:=Ja (fun(W:World) (hb:Below w.heap.size w W)=>Rp.house.below hm0 hb nle)
 obtain⟨A0',n0',c0',f0',A1',n1',c1',f1',b,c2',cur,cr,fR,hch,h0',h1',hbt,hbm,hbl,hbf,hfn,hsub,hn1,hd1,hd0,hcr,hR,hcl1⟩:=jb9 hh HNO.out hi;cases hch;obtain⟨B0,m0',d0',g0,v,f1'',rfl,hff',hR0,hR1⟩:=id hR;obtain⟨A2',cap,fs1,rfl,hRs,_,_,_⟩:=hR1.sl;obtain rfl:=hR0.1;obtain⟨fq,hreal,_⟩:=jc5.2 _ _ _ _ hR;have HPx:=Ja (fun(W:World) (hb:Below w.heap.size w W)=>Rp.repo.below hreal hb nle)
 have HRCx:=Ja (fun(W:World) (hb:Below w.heap.size w W)=>(show W.cell? ⟨b,i*3,none⟩=some (.int .i64 m.Rz[i].Az)∧W.cell? ⟨b,i*3+1,none⟩=some (.slice B0 m.Rz[i].Uz.length d0')∧W.cell? ⟨b,i*3+2,none⟩=some (.slice A2' m.Rz[i].Fz.length cap) from
  ⟨Je hcr.at0 hb,Je hcr.tail.at0 hb,Je hcr.tail.tail.at0 hb⟩))
 have HFI:=Ja (HPF.out _ (List.getElem_mem hi));have i0:(0:Int)≤(i:Int):=by omega
 have i1:(i:Int)<(m.Rz.length:Int):=by omega
 clear hR0 hR1 hRs hR hreal hff' h0' h1' hbt hbm hbl hbf hfn hsub hn1 hd1 hd0 hcr hcl1 hc0;clear hc hm0 hff h0 h1 h2 hq hri hh hfe;go_enter Tryz.func97,Tryz.ntmps97;go_upto_region 1 with fail
 generalize hW0:w.alloc (.cells (RA r (.slice E0 r.Ez.length d0)) 31)=w0 at HB0 kq ⊢;clear hW0;have HKQ:=Ja (fun(W:World) (hb:Below w0.heap.size w0 W)=>kq.step hb);have HB0:=Ja HB0;clear kq;go_wp2_with((refine wpList_load_row rfl 31 (.tmp 3) rfl _ rfl _ _ _ _ (HKQ.out w0 (Below.refl _ _)).out Tryz.underlying31 rfl Vi ?_))
 refine(may_any (g:=g) (m:=m) (r:=r) (i:=i) _ (HCG.out.keep (HB0.out.block g (World.block_lt_of_cell? w _ HCG.out.at0))) (HHx.out _ HB0.out) ⟨E0,_,d0,e0,rfl,rfl,HEx.out _ HB0.out⟩ HRI.out hi HPF.out HQF.out).mono ?_;rintro e w1 ⟨rfl,hb1⟩;have HB1:=Ja hb1;clear hb1;cases hmay:Yi m m.Rz[i] r
 ·have HE:=Ja (show write m m.Rz[i] r=(m,4) by unfold write;rw[hmay];rfl);clear hmay;go_wp2_with fail;go_ret;rw[HE.out];exact jam 4 HHO.out (Below.t HB0.out HB1.out)
 have HMAY:=Ja hmay;clear hmay;obtain⟨a0,a1,a2⟩:=HCx.out w1 (Below.t HB0.out HB1.out);have x2:w1.cell? ⟨w.heap.size,2,none⟩=some (.int .i64 (i:Int)):=by rw[←HRI.out];exact(HKQ.out w1 HB1.out).cell 2
 go_wp2_with fail;go_quiet(fail);obtain⟨w2,hw2⟩: ∃w2,w2=w1.drewN nq:=⟨_,rfl⟩;have HB2:=Ja (show Below w0.heap.size w0 w2 from hw2▸Below.drewN' HB1.out nq);rw[←hw2];clear hw2 a0 a1 a2 x2;obtain⟨r0,r1,r2⟩:=HRCx.out w2 (Below.t HB0.out HB2.out);have x4:=Blk.c4 (HKQ.out w2 HB2.out)
 have D1:=Ja (fun W (h:Rp.repo.R W [.int .i64 m.Rz[i].Az,.slice B0 m.Rz[i].Uz.length d0',.slice A2' m.Rz[i].Fz.length cap] m.Rz[i] fq)=>jbh r.ref W h);go_wp2_with fail;have n0:=BelowW.nonempty w2;have e0:=BelowW.ex (w:=w2);have g_r0:=bwc r0;have g_r1:=bwc r1;have g_r2:=bwc r2;have g_x4:=bwc x4;clear r0 r1 r2 x4;refine Jf (by kernel_rfl) (by kernel_rfl) ?_
 repeat(go_big_quiet_step(first|(go_at_call 121;exact BelowW.calls _ (D1.out _ (HPx.out _ (Below.t (Below.t HB0.out HB2.out) (Subtype.property _)))))))
 refine wpQuiet_nil ?_;rintro w4 ⟨m4,hw4⟩;have hb4:=m4.property;rw[←hw4] at hb4;clear hw4 m4 e0 g_r0 g_r1 g_r2 g_x4;have HB3:=Ja (Below.t HB2.out hb4);clear hb4 D1;rcases Zu (Xx r.ref) m.Rz[i].Fz with ⟨hn,he⟩|⟨k,hn,hk,he⟩
 ·rw[he];clear he;have HE:=Ja (show write m m.Rz[i] r=(m,5) by unfold write;rw[HMAY.out,show Y7 m.Rz[i].Fz r.ref=none from hn];rfl);clear hn;go_wp2_with fail;go_ret;rw[HE.out];exact jam 5 HHO.out (Below.t HB0.out HB3.out)
 rw[he];clear he;have HNF:=Ja (show Y7 m.Rz[i].Fz r.ref=some k from hn);have k0:(0:Int)≤(k:Int):=by omega
 have k1:(k:Int)<(m.Rz[i].Fz.length:Int):=by omega
 have k2: ¬(k:Int)<0:=by omega
 clear hn;obtain⟨A0w,c0w,bU,oU,c1w,bw,c2w,B0w,m0w,d0w,gR,capw,v3,f3,hch,hcb,hWA⟩:=jlq HHO.out HNO.out hi hk hul;cases hch;have hcr2:=(HRCx.out w (Below.refl _ _)).2.2;have hcr3:=hcb.tail.tail.at0;rw[show i*3+1+1=i*3+2 from rfl,hcr2] at hcr3;cases hcr3;have HWA:=Ja hWA
 have HRFx:=Ja (fun(W:World) (hb:Below w.heap.size w W)=>(show W.cell? ⟨gR,k*4,none⟩=some (.string m.Rz[i].Fz[k].name)∧W.cell? ⟨gR,k*4+1,none⟩=some (.bool m.Rz[i].Fz[k].guard)∧W.cell? ⟨gR,k*4+2,none⟩=some (.int .i64 m.Rz[i].Fz[k].count)∧W.cell? ⟨gR,k*4+3,none⟩=some v3 from
  ⟨Je hWA.cells.at0 hb,Je hWA.cells.tail.at0 hb,Je hWA.cells.tail.tail.at0 hb,Je hWA.cells.tail.tail.tail.at0 hb⟩))
 have HFX:=Ja (HFI.out.vers _ (List.getElem_mem hk));obtain⟨A3,c3,f3',hv3,hs3,_,hlc3,hcm3⟩:=hWA.vers.sl;subst hv3;have HS3:=Ja hs3;clear hWA hcb hcr2 hs3;obtain⟨r0,r1,r2⟩:=HRCx.out w4 (Below.t HB0.out HB3.out);obtain⟨t0,t1,t2,t3⟩:=HRFx.out w4 (Below.t HB0.out HB3.out);by_cases hce:m.Rz[i].Fz[k].count=r.old
 case neg=>
  have HE:=Ja (show write m m.Rz[i] r=(m,6) by unfold write;rw[HMAY.out,HNF.out];simp only[if_true,J4 hk];rw[if_pos hce]);have x6:=Blk.c6 (HKQ.out w4 HB3.out);go_upto_region 8 with fail
  go_quiet(fail);have HB4:=Ja (Below.drewN' HB3.out nq);go_wp2_with fail;go_ret;rw[HE.out];exact jam 6 HHO.out (Below.t HB0.out HB4.out)
 have HCE:=Ja hce;have x6:w4.cell? ⟨w.heap.size,6,none⟩=some (.int .i64 m.Rz[i].Fz[k].count):=by rw[hce];exact(HKQ.out w4 HB3.out).cell 6
 clear hce;go_upto_region 8 with fail
 go_quiet(fail);obtain⟨w5,hw5⟩: ∃w5,w5=w4.drewN nq:=⟨_,rfl⟩;have HB4:=Ja (show Below w0.heap.size w0 w5 from hw5▸Below.drewN' HB3.out nq);rw[←hw5];clear hw5 r0 r1 r2 t0 t1 t2 t3 x6;obtain⟨t0,t1,t2,t3⟩:=HRFx.out w5 (Below.t HB0.out HB4.out);by_cases h14:m.Rz[i].Fz[k].count=14
 case pos=>
  have HE:=Ja (show write m m.Rz[i] r=(m,9) by unfold write;rw[HMAY.out,HNF.out];simp only[if_true,J4 hk];rw[if_neg (fun h=>h HCE.out),if_pos h14]);rw[h14] at t2;clear h14;go_wp2_with fail;go_ret;rw[HE.out];exact jam 9 HHO.out (Below.t HB0.out HB4.out)
 have H14:=Ja h14;have HCNT:=Ja (show 0≤m.Rz[i].Fz[k].count∧m.Rz[i].Fz[k].count≤13 by have:=HFX.out.2.2.1;have:=H14.out;omega);have hc14:(m.Rz[i].Fz[k].count==14)=false:=by simpa using h14
 go_wp2_with((refine wpList_load_row rfl 31 (.tmp 3) rfl _ rfl _ _ _ _ (HKQ.out w5 HB4.out).out Tryz.underlying31 rfl Vi ?_));clear t0 t1 t2 t3 hc14 h14
 refine(jmv (g:=g) (b:=gR) (o:=k*4) (m:=m) (x:=m.Rz[i].Fz[k]) (r:=r) _ (HCG.out.keep ((Below.t HB0.out HB4.out).block g (World.block_lt_of_cell? w _ HCG.out.at0))) (HHx.out _ (Below.t HB0.out HB4.out)) ⟨E0,_,d0,e0,rfl,rfl,HEx.out _ (Below.t HB0.out HB4.out)⟩ (HWA.out.cells.keep ((Below.t HB0.out HB4.out).block gR (HWA.out.old _ HWA.out.gin))) ⟨_,_,_,f3',rfl,rfl,HS3.out.step (Below.t HB0.out HB4.out)⟩ HOK.out HFX.out.1 HFX.out.2.2.2 HQF.out).mono ?_
 rintro e w6 ⟨A5,n5,c5,f5,rfl,hs5,hn5,hl5,hf5,hb6⟩;have HS5:=Ja hs5;have HL5:=Ja hl5;have HB6:=Ja (Below.t HB4.out hb6);clear hs5 hl5 hb6 hn5 hf5;by_cases hnc:(newest m m.Rz[i].Fz[k] r).2=1
 case neg=>
  have HE:=Ja (show write m m.Rz[i] r=(m,(newest m m.Rz[i].Fz[k] r).2) by unfold write;rw[HMAY.out,HNF.out];simp only[if_true,J4 hk];rw[if_neg (fun h=>h HCE.out),if_neg H14.out,if_pos hnc]);go_wp2_with fail;go_ret;rw[HE.out];exact jam _ HHO.out (Below.t HB0.out HB6.out)
 have HNC:=Ja hnc;rw[hnc];clear hnc;obtain⟨a0,a1,a2⟩:=HCx.out w6 (Below.t HB0.out HB6.out);have x0:w6.cell? ⟨w.heap.size,0,none⟩=some (.int .i64 ((u:Int)+1)):=by rw[←HU1.out];exact(HKQ.out w6 HB6.out).cell 0
 have u0:(0:Int)≤(u:Int):=by omega
 have u1:(u:Int)<(m.used.length:Int):=by omega
 have hwu:IntKind.i64.wrap ((u:Int)+1 - 1)=(u:Int):=by rw[IntWalk.i64_in _ (by have:=HU1.out;omega)];omega
 have hwu2:IntKind.i64.wrap (u:Int)=(u:Int):=IntWalk.i64_in _ (by have:=HU1.out;omega);go_upto_region 15 with fail
 go_quiet(fail);obtain⟨w7,hw7⟩: ∃w7,w7=w6.drewN nq:=⟨_,rfl⟩;have HB7:=Ja (show Below w0.heap.size w0 w7 from hw7▸Below.drewN' HB6.out nq);have HD7:=Ja (show Below w6.heap.size w6 w7 from hw7▸Below.drewN' (Below.refl _ _) nq);rw[←hw7];clear hw7 a0 a1 a2 x0 hwu hwu2;have uc:w7.cell? ⟨bU,oU+u,none⟩=some (.int .i64 m.used[u]):=Je HWA.out.cu (Below.t HB0.out HB7.out)
 have x8:=Blk.c8 (HKQ.out w7 HB7.out);have hT:=ja9 HQF.out.Ez HQF.out.nedits;have hus:=HUS.out;have hsum:IntKind.i64.wrap (m.used[u]+((Yg r.Ez:Nat):Int))=m.used[u]+((Yg r.Ez:Nat):Int):=IntWalk.i64_in _ (by omega);have HSUM:=Ja hsum;have hse:=HEx.out w7 (Below.t HB0.out HB7.out)
 have D2:=Ja (fun W (h:SlR Rp.edit W E0 r.Ez.length d0 r.Ez e0)=>jb7 W h HQF.out.Ez);by_cases hov:m.used[u]+((Yg r.Ez:Nat):Int) > 200
 case pos=>
  have HE:=Ja (show write m m.Rz[i] r=(m,10) by
   unfold write;rw[HMAY.out,HNF.out];simp only[if_true,J4 hk];rw[if_neg (fun h=>h HCE.out),if_neg H14.out,if_neg (fun h=>h HNC.out),if_pos];rw[HU1.out,show((u:Int)+1 - 1).toNat=u by omega,J4 hul];exact hov)
  have hov':(200:Int)<m.used[u]+((Yg r.Ez:Nat):Int):=hov;clear hus hT hov;go_wp2_with fail;have n0:=BelowW.nonempty w7;have e0:=BelowW.ex (w:=w7);have g_uc:=bwc uc;have g_x8:=bwc x8;clear uc x8;refine Jf (by kernel_rfl) (by kernel_rfl) ?_
  repeat(go_big_quiet_step(first|(go_at_call 135;exact BelowW.calls _ (D2.out _ (BelowW.sl _ hse)))))
  refine wpQuiet_nil ?_;rintro w4 ⟨m4,hw4⟩;have hb4:=m4.property;rw[←hw4] at hb4;clear hw4 m4 e0 g_uc g_x8;go_wp2_with fail;go_ret;rw[HE.out];exact jam 10 HHO.out (Below.t HB0.out (Below.t HB7.out hb4))
 have HE:=Ja (show write m m.Rz[i] r=(jpm m m.Rz[i] k r (newest m m.Rz[i].Fz[k] r).1,1) by
  unfold write;rw[HMAY.out,HNF.out];simp only[if_true,J4 hk];rw[if_neg (fun h=>h HCE.out),if_neg H14.out,if_neg (fun h=>h HNC.out),if_neg];rw[HU1.out,show((u:Int)+1 - 1).toNat=u by omega,J4 hul];exact hov)
 have hov': ¬(200:Int)<m.used[u]+((Yg r.Ez:Nat):Int):=hov;clear hus hT hov;go_wp2_with fail;have n0:=BelowW.nonempty w7;have e0:=BelowW.ex (w:=w7);have g_uc:=bwc uc;have g_x8:=bwc x8;clear uc x8;refine Jf (by kernel_rfl) (by kernel_rfl) ?_
 repeat(go_big_quiet_step(first|(go_at_call 135;exact BelowW.calls _ (D2.out _ (BelowW.sl _ hse)))))
 refine wpQuiet_nil ?_;rintro w8 ⟨m8,hw8⟩;have hb8:=m8.property;rw[←hw8] at hb8;clear hw8 m8 e0 g_uc g_x8;have HB8:=Ja (Below.t HB7.out hb8);have HD8:=Ja (Below.t HD7.out hb8);clear hb8 hse hsum;have hsum:=HSUM.out;have uc:w8.cell? ⟨bU,oU+u,none⟩=some (.int .i64 m.used[u]):=Je HWA.out.cu (Below.t HB0.out HB8.out)
 have yU:w8.frozen? ⟨bU,oU+u,none⟩=false:=Free.frozen (HFO.out.step (Below.t HB0.out HB8.out)) HWA.out.uin _;have x8:=Blk.c8 (HKQ.out w8 HB8.out);go_upto_region 18 with fail
 go_cut [76] (fun p wx=>p= .pointer (some ⟨bU,oU+u,none⟩)∧∃W,Below w8.heap.size w8 W∧wx=W.setCell ⟨bU,oU+u,none⟩ (.int .i64 (m.used[u]+((Yg r.Ez:Nat):Int))))
 case first=>
  go_region_law (first
   |(refine J9 rfl 135 (enters_of Tryz.func135 (by kernel_rfl) rfl) rfl _ (by simp[Act.eval,Act.put]) ((jb7 (es:=r.Ez) _ (HEx.out _ (Below.t (Below.t HB0.out HB8.out) (Below.refl _ _).drew)) HQF.out.Ez).mono ?_);rintro e w9 ⟨rfl,hb9⟩;refine⟨_,rfl, ?_⟩;have uc9:=Je uc (Below.past hb9);have yU9:w9.frozen? ⟨bU,oU+u,none⟩=false:=Free.frozen (HFO.out.step (Below.t HB0.out (Below.t HB8.out (Below.past hb9)))) HWA.out.uin _)
   |fail)
  all_goals
   go_wp2_with fail;go_meet
   case rel=>exact⟨rfl,_,Below.past hb9,rfl⟩
 case rest=>
  obtain⟨wz,hwz⟩: ∃wz,wz=wc:=⟨_,rfl⟩;subst hwz;obtain⟨rfl,W9,hb9,hwc⟩:=hcut;have HB9:=Ja (Below.t (Below.t HB0.out HB8.out) hb9);have HS9:=Ja (HS5.out.step (Below.t HD8.out hb9));have HWC:=Ja hwc;clear uc yU x8 hsum hb9 hov';have t2:wz.cell? ⟨gR,k*4+2,none⟩=some (.int .i64 m.Rz[i].Fz[k].count):=by
   rw[hwc,World.cell?_setCell_other _ _ _ _ (by simp only[ne_eq,Addr.mk.injEq];intro e;exact HWA.out.ug e.1)];exact(HRFx.out W9 HB9.out).2.2.1
  have y2:wz.frozen? ⟨gR,k*4+2,none⟩=false:=by
   rw[hwc];exact Free.frozen ((HFO.out.step HB9.out).setCell _ rfl _) HWA.out.gin _
  have hw1:IntKind.i64.wrap (m.Rz[i].Fz[k].count+1)=m.Rz[i].Fz[k].count+1:=IntWalk.i64_in _ (by have:=HCNT.out;omega);clear hwc;go_upto_region 20 with fail
  obtain⟨w11,hw11⟩: ∃w11,w11=wz.setCell ⟨gR,k*4+2,none⟩ (.int .i64 (m.Rz[i].Fz[k].count+1)):=⟨_,rfl⟩;rw[←hw11];have HW11:=Ja hw11;have hblk: ∀z,z<w.heap.size→z≠bU→z≠gR→w11.heap[z]? =w.heap[z]? :=fun z hz hzU hzg=>by
   rw[hw11,HWC.out];exact(Below.heap_setCell _ _ _ _ hzg).trans ((Below.heap_setCell _ _ _ _ hzU).trans (HB9.out.block z hz))
  have hfree:Free w11 fp:=by
   rw[hw11,HWC.out];exact((HFO.out.step HB9.out).setCell _ rfl _).setCell _ rfl _
  have t3:w11.cell? ⟨gR,k*4+3,none⟩=some (.slice A3 m.Rz[i].Fz[k].Vz.length c3):=by
   rw[hw11,HWC.out,World.cell?_setCell_other _ _ _ _ (by simp only[ne_eq,Addr.mk.injEq];omega),World.cell?_setCell_other _ _ _ _ (by simp only[ne_eq,Addr.mk.injEq];intro e;exact HWA.out.ug e.1)];exact(HRFx.out W9 HB9.out).2.2.2
  have htyp: ∃cur,w11.heap[gR]? =some (.cells cur 52 (0,0)):=by
   obtain⟨cur,hcur⟩:=HWA.out.typ;rw[hw11,HWC.out];exact⟨_,Jd ((Below.heap_setCell _ _ _ _ (fun e=>HWA.out.ug e.symm)).trans ((HB9.out.block gR (HWA.out.old _ HWA.out.gin)).trans hcur)) _⟩
  obtain⟨xs,f1v,ho,ha,hfe⟩:=HWA.out.vers;have hin: ∀z∈f3,z<w.heap.size∧z≠bU∧z≠gR:=fun z hz=>⟨HWA.out.old _ (HWA.out.f3in z hz),fun e=>HWA.out.u3 (e▸hz),fun e=>HWA.out.g3 (e▸hz)⟩;have hkv: ∀z∈f3,w11.heap[z]? =w.heap[z]? :=fun z hz=>hblk z (hin z hz).1 (hin z hz).2.1 (hin z hz).2.2;have ho11:=Jy (w':=w11) ho fun z hz=>hkv z (by rw[hfe];exact List.mem_append_left _ hz)
  have ha11:=ha.keep (w':=w11) fun z hz=>hkv z (by rw[hfe];exact List.mem_append_right _ hz);have hsz5: ∀z∈f5,w.heap.size≤z:=fun z hz=>Nat.le_trans (Below.t HB0.out HB4.out).size (HL5.out z hz);have h511:SlR Rp.file w11 A5 n5 c5 (newest m m.Rz[i].Fz[k] r).1 f5:=HS9.out.keep fun z hz=>by
   have h1:=hsz5 z hz;have h2:=HWA.out.old _ HWA.out.uin;have h3:=HWA.out.old _ HWA.out.gin;rw[hw11,HWC.out];exact(Below.heap_setCell _ _ _ _ (by simp only;omega)).trans (Below.heap_setCell _ _ _ _ (by simp only;omega))
  have hsz11:w.heap.size≤w11.heap.size:=by rw[hw11,HWC.out];simpa [World.setCell] using HB9.out.size
  obtain⟨ii,hi0,hz0,hz1,hz2⟩:=info_parts jew;have hv3:=HFX.out.2.1;have hv1:=HFX.out.1;have HO11:=Ja ho11;have HA11:=Ja ha11;have H511:=Ja h511;have HKV:=Ja hkv;have HFR:=Ja hfree;have HTY:=Ja htyp;have HSZ11:=Ja hsz11;have HSZ5:=Ja hsz5;have HFE:=Ja hfe;clear hblk hkv ho ha hin ho11 ha11 h511 hfree htyp hfe hw11 hsz11 hsz5
  go_wp2_with(at_builtin;refine wpList_append_own _ rfl _ _ 50 rfl 0 34 ii _ 1 24 Tryz.underlying50 hi0 hz0 hz1 hz2 rfl (by decide) _ _ _ rfl (HO11.out.alloc _) ⟨w11.heap.size,0,none⟩ 1 1 [.slice A5 n5 c5] rfl rfl (Jm _ [.slice A5 n5 c5] _) (by intro u hu;simp at hu;subst hu;rfl) (by unfold maxLen;omega) (by omega) (Nat.zero_le _) ?_);intro v' w12 hown' hgrow _
  have hgl:gR<w.heap.size:=HWA.out.old _ HWA.out.gin;have hne3:(Value.slice A3 m.Rz[i].Fz[k].Vz.length c3).ownBlock≠some gR:=fun e=>HWA.out.g3 (by rw[HFE.out];exact List.mem_append_left _ (by unfold Vm;rw[e];simp));have hg12:w12.heap[gR]? =w11.heap[gR]? :=(hgrow.block gR (by simp;have:=HSZ11.out;omega) fun e=>hne3 e.symm).trans (Below.heap_alloc _ _ _ (by have:=HSZ11.out;omega))
  obtain⟨cur,hcur⟩:=HTY.out;obtain⟨g',capv,fr',rfl,hs12,hgfr,hcap1,hcap2⟩:=jnu (n:=m.Rz[i].Fz[k].Vz.length) (HA11.out.keep fun z hz=>Below.heap_alloc _ _ _ (HA11.out.lt z hz)) (by rw[←HFE.out];exact HWA.out.nod) hgrow (H511.out.allocN _)
   (fun z hz hm=>by have h1:=HSZ5.out z hz;have h2:=HWA.out.old _ (HWA.out.f3in z (by rw[HFE.out];exact List.mem_append_left _ hm));omega) hown' rfl
  have z3:w12.cell? ⟨gR,k*4+3,none⟩=some (.slice A3 m.Rz[i].Fz[k].Vz.length c3):=(World.cell?_of_block (a:=⟨gR,k*4+3,none⟩) hg12).trans t3;have yz:w12.frozen? ⟨gR,k*4+3,none⟩=false:=by
   have e:=hg12.trans hcur;simp[World.frozen?,e]
  have HG12:=Ja hgrow;have HS12:=Ja hs12;have HGF:=Ja hgfr;have HC1:=Ja hcap1;have HYZ:=Ja (show ∀j v,(w12.setCell ⟨gR,k*4+3,none⟩ v).frozen? ⟨gR,j,none⟩=false from fun j v=>by
   have e:=Jd (i:=k*4+3) (hg12.trans hcur) v;simp[World.frozen?,e])
  have HCZ:=Ja (show ∀v,(w12.setCell ⟨gR,k*4+3,none⟩ v).cell? ⟨gR,k*4+3,none⟩=some v from fun v=>World.cell?_setCell_same _ _ _ z3)
  have HLAID:=Ja (show ∀d:Nat,d=m.Rz[i].Fz[k].Vz.length+1 - 3→jpm m m.Rz[i] k r (newest m m.Rz[i].Fz[k] r).1=⟨m.keys,m.used.set u (m.used[u]+((Yg r.Ez:Nat):Int)),m.Rz.set i { m.Rz[i] with Fz:=m.Rz[i].Fz.set k ⟨m.Rz[i].Fz[k].name,m.Rz[i].Fz[k].guard,m.Rz[i].Fz[k].count+1,(m.Rz[i].Fz[k].Vz++ [(newest m m.Rz[i].Fz[k] r).1]).drop d⟩}⟩ from fun d hd=>by
   unfold jpm
   dsimp only
   rw[jfq _ _ _ rfl,J4 hk,HU1.out,show((u:Int)+1 - 1).toNat=u by omega,J4 hul,HRI.out,Int.toNat_natCast,hd])
  have HFIN:=Ja (show ∀d:Nat,d=m.Rz[i].Fz[k].Vz.length+1 - 3→Wrote w _ fp (write m m.Rz[i] r).1 (write m m.Rz[i] r).2 (.returned (.int .i64 1)) ((w12.setCell ⟨gR,k*4+3,none⟩ (.slice (some ⟨g',0,none⟩) (m.Rz[i].Fz[k].Vz.length+1) capv)).setCell ⟨gR,k*4+3,none⟩ (.slice (some ⟨g',0+d*1,none⟩) (m.Rz[i].Fz[k].Vz.length+1 - d) (capv - d))) from fun d hd=>by
   rw[HE.out];simp only;rw[HLAID.out d hd];obtain⟨f',hs',hf'⟩:=HS12.out.drop (k:=d) (by simp;omega);have hg':=HG12.out;rw[HW11.out,HWC.out] at hg';exact written HWA.out HB9.out hg' hs' fun z cur t q1 q2 q3 q4 q5=>HGF.out z cur t q1 q2 (fun h=>q4 (by rw[HFE.out];exact List.mem_append_right _ h)) (fun h=>by have:=HSZ5.out z h;omega) (hf' _ q5))
  clear hown' hgrow hs12 hgfr hcap1 hg12 hcur hne3 t3 hgl;go_upto_region 21 with fail
  have c13:=HCZ.out (.slice (some ⟨g',0,none⟩) (m.Rz[i].Fz[k].Vz.length+1) capv);have y13:=HYZ.out (k*4+3) (.slice (some ⟨g',0,none⟩) (m.Rz[i].Fz[k].Vz.length+1) capv);have HF:=Ja HFIN.out;have HV13:=Ja (show m.Rz[i].Fz[k].Vz.length+1=2∨m.Rz[i].Fz[k].Vz.length+1=3∨m.Rz[i].Fz[k].Vz.length+1=4 by omega);have hc1:=HC1.out;clear z3 yz hv3 hv1
  generalize m.Rz[i].Fz[k].Vz.length+1=nn at c13 y13 HF HV13 hc1 ⊢;generalize w12.setCell ⟨gR,k*4+3,none⟩ (.slice (some ⟨g',0,none⟩) nn capv)=w13 at c13 y13 HF ⊢;rcases HV13.out with rfl|rfl|rfl
  all_goals
   have HF1:=Ja (HF.out _ rfl);have hcm:2≤capv:=by omega
   have hcn: ¬capv=0:=by omega
   have hcn1: ¬capv=1:=by omega
   have hm1:max (0:Int) (IntKind.i64.wrap 1)=1:=by rw[IntWalk.i64_in _ (by omega)];rfl
   have hm2:max (0:Int) (IntKind.i64.wrap 0)=0:=by rw[IntWalk.i64_in _ (by omega)];rfl
   have hm3:max (0:Int) (IntKind.i64.wrap (-1))=0:=by rw[IntWalk.i64_in _ (by omega)];rfl
   clear HF HV13;go_wp2_with fail;refine Xs fun K hK=> ?_;have HKK:=Ja hK;clear hK
   go_region_law (first
    |fail)
   all_goals
    refine HKK.out _ _ ?_;clear HKK K;go_wp2_with fail;go_ret
    first
     |exact HF1.out
     |exact HF1.out.drew
theorem jkr {A:Option Addr} {n c:Nat} {keys:List Int} {cs:List Value} {r:Req} {fp fr:List Nat} (w:World) (hx:SlR Rp.int w A n c keys fp) (hr:Rp.req.R w cs r fr) (hu:0≤r.user∧r.user≤99):
  Calls Tryz.prog 38 #[.slice A n c,.agg cs.toArray] w fun e w'=>e= .returned (.bool (knows keys r.user r.key))∧Below w.heap.size w w':=by
 obtain⟨E0,m0,d0,e0,rfl,_,hq⟩:=hr;obtain rfl:=hq.1;have hmq:=hq.max;obtain rfl:=hx.1;have hmx:=hx.max;have HB0:=(Below.refl w.heap.size w).alloc nle (.cells (RA r (.slice E0 r.Ez.length d0)) 31);have kq:=Blk.new w 31 (RA r (.slice E0 r.Ez.length d0));have hx0:=hx.allocN (.cells (RA r (.slice E0 r.Ez.length d0)) 31);clear hq hx;go_enter Tryz.func38,Tryz.ntmps38;go_upto_region 1 with fail
 generalize hW0:w.alloc (.cells (RA r (.slice E0 r.Ez.length d0)) 31)=w0 at HB0 kq hx0 ⊢;clear hW0;have HB0:=Ja HB0;have x0:=Blk.c0 kq;have x1:=Blk.c1 kq;have C1:=fun W=>Jw r.user 1 keys.length W;clear kq;cases hd:inB r.user 1 keys.length
 ·have HV:=Ja (show knows keys r.user r.key=false by unfold knows;rw[hd];rfl);simp only[hd] at C1;have D1:=Ja C1;clear C1 hd x1;go_wp2_with fail;have n0:=BelowW.nonempty w0;have e0:=BelowW.ex (w:=w0);have g_x0:=bwc x0;clear x0;refine Jf (by kernel_rfl) (by kernel_rfl) ?_
  repeat(go_big_quiet_step(first|(go_at_call 49;exact BelowW.calls _ (D1.out _))))
  refine wpQuiet_nil ?_;rintro w4 ⟨m4,hw4⟩;have hb4:=m4.property;rw[←hw4] at hb4;clear hw4 m4 e0 g_x0;go_wp2;go_ret;exact⟨Jc HV.out.symm,Below.t HB0.out hb4⟩
 ·obtain⟨h1,h2⟩:=jap.1 hd;simp only[hd] at C1;have D1:=Ja C1;obtain⟨u,hu1⟩: ∃u:Nat,r.user=(u:Int)+1:=⟨(r.user - 1).toNat,by omega⟩;have hul:u<keys.length:=by omega
  obtain⟨b,o,rfl,_,_,q0⟩:=Xg hx0 hul;have HV:=Ja (show knows keys r.user r.key=decide (keys[u]=r.key) by
   unfold knows;rw[hd,hu1,show((u:Int)+1 - 1).toNat=u by omega,List.getElem?_eq_getElem hul];simp)
  rw[hu1] at x0 D1;have i0:(0:Int)≤(u:Int):=by omega
  have i1:(u:Int)<(keys.length:Int):=by omega
  have hwu:IntKind.i64.wrap ((u:Int)+1 - 1)=(u:Int):=by rw[IntWalk.i64_in _ (by omega)];omega
  have hwu2:IntKind.i64.wrap (u:Int)=(u:Int):=IntWalk.i64_in _ (by omega);clear C1 hd h1 h2 hu1;go_wp2_with fail;have n0:=BelowW.nonempty w0;have e0:=BelowW.ex (w:=w0);have g_x0:=bwc x0;have g_x1:=bwc x1;have g_q0:=bwc q0;clear x0 x1 q0;refine Jf (by kernel_rfl) (by kernel_rfl) ?_
  repeat(go_big_quiet_step(first|(go_at_call 49;exact BelowW.calls _ (D1.out _))))
  refine wpQuiet_nil ?_;rintro w4 ⟨m4,hw4⟩;have hb4:=m4.property;rw[←hw4] at hb4;clear hw4 m4 e0 g_x0 g_x1 g_q0;go_wp2;go_ret;exact⟨Jc (by rw[HV.out,Bool.eq_iff_iff];simp),Below.t HB0.out hb4⟩
def SliceAt (w:World) (l:List File) (f0:List Nat) (e:Ending) (w':World):Prop:=
 ∃A n c f,e= .returned (.slice A n c)∧SlR Rp.file w' A n c l f∧(∀z∈f,z∈f0)∧Below w.heap.size w w'
theorem jet {cs:List Value} {x:Ref} {fx:List Nat} {l:List File} (w:World) (hx:Rp.ref.R w cs x fx) (h3:x.Vz.length≤3) (hv:version x.Vz 0=some l):
  Calls Tryz.prog 144 #[.agg cs.toArray] w (SliceAt w l fx):=by
 obtain⟨Av,nv,cv,fv,rfl,rfl,hs⟩:=hx;obtain rfl:=hs.1;have hv1:1≤x.Vz.length:=by
  by_cases h0:x.Vz.length=0
  ·rw[ja6 (by omega)] at hv;cases hv
  ·omega
 obtain⟨j,hj⟩: ∃j,x.Vz.length=j+1:=⟨x.Vz.length - 1,by omega⟩;have hjl:j<x.Vz.length:=by omega
 have hvl:x.Vz[j]=l:=Option.some.inj ((jaz (j:=j) (Int.le_refl 0) (by omega) hjl).symm.trans hv);have kb:=Blk.new w 52 #[.string x.name,.bool x.guard,.int .i64 x.count,.slice Av x.Vz.length cv];have HB:=(Below.refl w.heap.size w).alloc nle (.cells #[.string x.name,.bool x.guard,.int .i64 x.count,.slice Av x.Vz.length cv] 52)
 obtain⟨b,o,A',n',c',f',rfl,_,_,q0,hs',hf'⟩:=Vv (hs.allocN (.cells #[.string x.name,.bool x.guard,.int .i64 x.count,.slice Av x.Vz.length cv] 52)) hjl;rw[hvl] at hs';have i0:(0:Int)≤(j:Int):=by omega
 have i1:(j:Int)<(x.Vz.length:Int):=by omega
 have hw:IntKind.i64.wrap ((x.Vz.length:Int) - 1)=(j:Int):=by rw[IntWalk.i64_in _ (by omega)];omega
 have HS:=Ja hs';have HBX:=Ja HB;have HF:=Ja hf';clear hs hv hj hvl hs' HB hf';go_enter Tryz.func144,Tryz.ntmps144;go_wp2;go_ret;exact⟨A',n',c',f',rfl,HS.out,HF.out,HBX.out⟩
theorem ji4 {A:Option Addr} {n c:Nat} {Uz:List Yt} {cs:List Value} {r:Req} {fp fr:List Nat} (w:World) (hx:SlR Rp.rule w A n c Uz fp) (hr:Rp.req.R w cs r fr) (hR:Ym Uz) (hQ:ReqFit r):
  Calls Tryz.prog 142 #[.slice A n c,.agg cs.toArray] w fun e w'=>e= .returned (.bool (decide (0<r.Ez.length)&&r.Ez.all fun e=>Yz Uz r.user r.ref e.path true))∧Below w.heap.size w w':=by
 obtain⟨E0,m0,d0,e0,rfl,_,hq⟩:=hr;obtain rfl:=hq.1;have hmq:=hq.max;obtain rfl:=hx.1;have HB0:=(Below.refl w.heap.size w).alloc nle (.cells (RA r (.slice E0 r.Ez.length d0)) 31);have kq:=Blk.new w 31 (RA r (.slice E0 r.Ez.length d0));have HXx:=Ja (fun(W:World) (hb:Below w.heap.size w W)=>hx.step hb);have HEx:=Ja (fun(W:World) (hb:Below w.heap.size w W)=>hq.step hb);have HQF:=Ja hQ
 have HRF:=Ja hR;clear hq hx hQ hR;go_enter Tryz.func142,Tryz.ntmps142;go_wp2_with fail;generalize hW0:w.alloc (.cells (RA r (.slice E0 r.Ez.length d0)) 31)=w0 at HB0 kq ⊢;clear hW0;have HB0:=Ja HB0;have HKQ:=Ja (fun(W:World) (hb:Below w0.heap.size w0 W)=>kq.step hb);clear kq
 go_loopw [5] (fun iv wr=>∃k:Nat,k≤r.Ez.length∧iv= .int .i64 k∧noneTo (fun e:Wz=> !Yz Uz r.user r.ref e.path true) r.Ez k∧Below w0.heap.size w0 wr) (fun iv _=>r.Ez.length - (intOf iv).toNat)
 case atStart=>exact⟨0,Nat.zero_le _,rfl,Yh,Below.refl _ _⟩
 case round=>
  obtain⟨wo,hwo⟩: ∃wo,wo=wr:=⟨_,rfl⟩;subst hwo;obtain⟨k,hk,rfl,hag,hbl⟩:=hrel;have HA:=Ja hag;have HBL:=Ja hbl;clear hag hbl;have j0:(0:Int)≤(k:Int):=by omega
  have x0:=Blk.c0 (HKQ.out wo HBL.out);have x4:=Blk.c4 (HKQ.out wo HBL.out);have x8:=Blk.c8 (HKQ.out wo HBL.out);by_cases hlt:k<r.Ez.length
  ·have j1:(k:Int)<(r.Ez.length:Int):=by omega
   obtain⟨b,o,rfl,_,_,q0,q1,q2⟩:=Zv (HEx.out wo (Below.t HB0.out HBL.out)) hlt;have HSZ:=Ja (HQF.out.Ez.2 _ (List.getElem_mem hlt)).1;have hxs:=HXx.out wo (Below.t HB0.out HBL.out);have C1:=fun W (h:SlR Rp.rule W A Uz.length c Uz fp)=>Wu r.user r.ref r.Ez[k].path true W h HRF.out HSZ.out;clear q1 q2;cases hd:Yz Uz r.user r.ref r.Ez[k].path true
   ·have HN:=Ja (show(decide (0<r.Ez.length)&&r.Ez.all fun e=>Yz Uz r.user r.ref e.path true)=false by
     rw[Bool.and_eq_false_iff];right;rw[List.all_eq_false];exact⟨_,List.getElem_mem hlt,by simp[hd]⟩)
    simp only[hd] at C1;have D1:=Ja C1;clear C1 hd;go_upto_region 4 with fail
    go_wp2_with fail;have n0:=BelowW.nonempty wo;have e0:=BelowW.ex (w:=wo);have g_x0:=bwc x0;have g_x4:=bwc x4;have g_x8:=bwc x8;have g_q0:=bwc q0;clear x0 x4 x8 q0;refine Jf (by kernel_rfl) (by kernel_rfl) ?_
    repeat(go_big_quiet_step(first|(go_at_call 73;exact BelowW.calls _ (D1.out _ (BelowW.sl _ hxs)))))
    refine wpQuiet_nil ?_;rintro w4 ⟨m4,hw4⟩;have hb4:=m4.property;rw[←hw4] at hb4;clear hw4 m4 e0 g_x0 g_x4 g_x8 g_q0;go_wp2;go_ret;exact⟨Jc HN.out.symm,Below.t HB0.out (Below.t HBL.out hb4)⟩
   ·have HN:=Ja (HA.out.next hlt (by simp[hd]));simp only[hd] at C1;have D1:=Ja C1;clear C1 hd;go_upto_region 4 with fail
    go_wp2_with fail;have n0:=BelowW.nonempty wo;have e0:=BelowW.ex (w:=wo);have g_x0:=bwc x0;have g_x4:=bwc x4;have g_x8:=bwc x8;have g_q0:=bwc q0;clear x0 x4 x8 q0;refine Jf (by kernel_rfl) (by kernel_rfl) ?_
    repeat(go_big_quiet_step(first|(go_at_call 73;exact BelowW.calls _ (D1.out _ (BelowW.sl _ hxs)))))
    refine wpQuiet_nil ?_;rintro w4 ⟨m4,hw4⟩;have hb4:=m4.property;rw[←hw4] at hb4;clear hw4 m4 e0 g_x0 g_x4 g_x8 g_q0;have HB4:=Ja (Below.t HBL.out hb4);clear hb4;go_wp2;exact⟨⟨k+1,by omega,by go_num,HN.out,HB4.out⟩,by simp[intOf];omega⟩
  ·have hk':k=r.Ez.length:=by omega
   subst hk';have HN:=Ja (show(r.Ez.all fun e=>Yz Uz r.user r.ref e.path true)=true by
    have h:=HA.out.any_;rw[List.any_eq_false] at h;rw[List.all_eq_true];intro e he;have:=h e he;simpa using this)
   go_wp2;go_ret;exact⟨Jc (by rw[HN.out,Bool.and_true,Bool.eq_iff_iff]),Below.t HB0.out HBL.out⟩
theorem jos {i:Nat} {m:Jl} {r:Req} {hs cs:List Value} {f fr:List Nat} (w:World) (hm:Rp.house.R w hs m f) (hr:Rp.req.R w cs r fr) (hri:r.repo=(i:Int)) (hi:i<m.Rz.length) (hP: ∀p∈m.Rz,RepoFit p) (hQ:ReqFit r) (hr3:m.Rz.length≤3) (hw:Vs r=true):
  Calls Tryz.prog 104 #[.agg hs.toArray,.agg cs.toArray] w fun e w'=>e= .returned (.bool (Yi m m.Rz[i] r))∧Below w.heap.size w w':=by
 obtain⟨E0,m0,d0,e0,rfl,_,hq⟩:=hr;obtain rfl:=hq.1;have hm0:=hm;obtain⟨A0,n0,c0,f0,A1,n1,c1,f1,A2,n2,c2,f2,rfl,hff,h0,h1,h2⟩:=hm;obtain rfl:=h0.1;obtain rfl:=h1.1;obtain rfl:=h2.1;have hmx:=h2.max;have hmq:=hq.max
 have HB0:=(((Below.refl w.heap.size w).alloc nle (.cells #[.slice A0 m.keys.length c0,.slice A1 m.used.length c1,.slice A2 m.Rz.length c2] 26)).alloc (by simp) (.cells (RA r (.slice E0 r.Ez.length d0)) 31));have kx:=((Blk.new w 26 #[.slice A0 m.keys.length c0,.slice A1 m.used.length c1,.slice A2 m.Rz.length c2]).alloc (.cells (RA r (.slice E0 r.Ez.length d0)) 31))
 have kq:=(Blk.new' (w:=(w.alloc (.cells #[.slice A0 m.keys.length c0,.slice A1 m.used.length c1,.slice A2 m.Rz.length c2] 26))) (H:=w.heap.size+1) (by simp) 31 (RA r (.slice E0 r.Ez.length d0)));have HKx:=Ja (fun(W:World) (hb:Below w.heap.size w W)=>h0.step hb);have HUx:=Ja (fun(W:World) (hb:Below w.heap.size w W)=>h1.step hb)
 have HRx:=Ja (fun(W:World) (hb:Below w.heap.size w W)=>h2.step hb);have HEx:=Ja (fun(W:World) (hb:Below w.heap.size w W)=>hq.step hb);have HHx:=Ja (fun(W:World) (hb:Below w.heap.size w W)=>Rp.house.below hm0 hb nle);have HRI:=Ja hri;have HPF:=Ja hP;have HQF:=Ja hQ;have HFI:=Ja (hP _ (List.getElem_mem hi));have i0:(0:Int)≤(i:Int):=by omega
 have i1:(i:Int)<(m.Rz.length:Int):=by omega
 clear hri hP hQ;clear hm0 hff h0 h1 h2 hq;go_enter Tryz.func104,Tryz.ntmps104;go_upto_region 1 with fail
 generalize hW0:((w.alloc (.cells #[.slice A0 m.keys.length c0,.slice A1 m.used.length c1,.slice A2 m.Rz.length c2] 26)).alloc (.cells (RA r (.slice E0 r.Ez.length d0)) 31))=w0 at HB0 kx kq ⊢;clear hW0;have HKX:=Ja (fun(W:World) (hb:Below w0.heap.size w0 W)=>kx.step hb);have HKQ:=Ja (fun(W:World) (hb:Below w0.heap.size w0 W)=>kq.step hb);have HB0:=Ja HB0;clear kx kq
 have i2:=Blk.c2 (HKX.out w0 (Below.refl _ _));have x2:w0.cell? ⟨w.heap.size+1,2,none⟩=some (.int .i64 (i:Int)):=by rw[←HRI.out];exact(HKQ.out w0 (Below.refl _ _)).cell 2
 obtain⟨bp,op,B0,k0,d1,g0,B1,k1,d2,g1,rfl,hbp,hmp,q0,q1,q2,hs0,hs1,_⟩:=J7 (HRx.out w0 HB0.out) hi;obtain rfl:=hs0.1;have HS0:=Ja (fun(W:World) (hb:Below w0.heap.size w0 W)=>hs0.step hb);clear q0 q2 hs0 hs1 hbp hmp;by_cases k1:r.kind=1
 ·have K1:=Ja k1;have x3:w0.cell? ⟨w.heap.size+1,3,none⟩=some (.int .i64 1):=by rw[←K1.out];exact(HKQ.out w0 (Below.refl _ _)).cell 3
  clear k1;have HE:=Ja (show Yi m m.Rz[i] r=(decide (0<r.Ez.length)&&r.Ez.all fun e=>Yz m.Rz[i].Uz r.user r.ref e.path true) by unfold Yi;rw[if_pos K1.out]);go_wp2_with((refine wpList_load_row rfl 31 (.tmp 3) rfl _ rfl _ _ _ _ (HKQ.out w0 (Below.refl _ _)).out Tryz.underlying31 rfl Vi ?_))
  refine(ji4 (Uz:=m.Rz[i].Uz) (r:=r) _ (HS0.out _ (Below.refl _ _)) ⟨E0,_,d0,e0,rfl,rfl,HEx.out _ HB0.out⟩ HFI.out.Uz HQF.out).mono ?_;rintro e w1 ⟨rfl,hb1⟩;have HB1:=Ja hb1;clear hb1 i2 x2 x3 q1;go_wp2_with fail;go_ret;exact⟨Jc HE.out.symm,Below.t HB0.out HB1.out⟩
 have K1:=Ja k1;by_cases k10:r.kind=10
 ·have K10:=Ja k10;have K9:=Ja (show ¬r.kind=9 by omega);have x3:w0.cell? ⟨w.heap.size+1,3,none⟩=some (.int .i64 10):=by rw[←K10.out];exact(HKQ.out w0 (Below.refl _ _)).cell 3
  clear k1 k10;have hfr0:=HQF.out.ints.2.2.2.2.1;obtain⟨j,hfj⟩: ∃j:Nat,r.frm=(j:Int):=⟨r.frm.toNat,by omega⟩;have HFJ:=Ja hfj;have x13:w0.cell? ⟨w.heap.size+1,13,none⟩=some (.int .i64 (j:Int)):=by rw[←hfj];exact(HKQ.out w0 (Below.refl _ _)).cell 13
  have x0:=Blk.c0 (HKQ.out w0 (Below.refl _ _));have x4:=Blk.c4 (HKQ.out w0 (Below.refl _ _));have x14:=Blk.c14 (HKQ.out w0 (Below.refl _ _));have hwl:IntKind.i64.wrap ((m.Rz.length:Int) - 1)=(m.Rz.length:Int) - 1:=IntWalk.i64_in _ (by omega);have C1:=fun W=>Jw (j:Int) 0 ((m.Rz.length:Int) - 1) W;clear hfr0 hfj;by_cases hj:j<m.Rz.length
  ·have hin:inB (j:Int) 0 ((m.Rz.length:Int) - 1)=true:=jap.2 ⟨by omega,by omega⟩;simp only[hin] at C1;have D1:=Ja C1;clear C1 hin;obtain⟨bp',op',B0',k0',d1',g0',B1',k1',d2',g1',hbo,hbp,hmp,q0,q1',q2,hs0',hs1,_⟩:=J7 (HRx.out w0 HB0.out) hj;cases hbo;obtain rfl:=hs0'.1;have HFI':=Ja (HPF.out _ (List.getElem_mem hj))
   have C2:=fun W (h:SlR Rp.rule W B0' m.Rz[j].Uz.length d1' m.Rz[j].Uz g0')=>Wu r.user r.other ByteArray.empty false W h HFI'.out.Uz (by decide);have C3:=fun W (h:SlR Rp.rule W B0 m.Rz[i].Uz.length d1 m.Rz[i].Uz g0)=>Wu r.user r.ref ByteArray.empty true W h HFI.out.Uz (by decide);have hs0:=HS0.out w0 (Below.refl _ _)
   have HE:=Ja (show Yi m m.Rz[i] r=(Yz m.Rz[j].Uz r.user r.other ByteArray.empty false&&Yz m.Rz[i].Uz r.user r.ref ByteArray.empty true) by
    unfold Yi;rw[if_neg K1.out,decide_eq_false K9.out,HFJ.out,Int.toNat_natCast,List.getElem?_eq_getElem hj,Bool.false_or,Bool.and_comm])
   have j0:(0:Int)≤(j:Int):=by omega
   have j1:(j:Int)<(m.Rz.length:Int):=by omega
   clear q0 q2 hs1 hbp hmp;cases hA:Yz m.Rz[j].Uz r.user r.other ByteArray.empty false
   ·have HV:=Ja (show Yi m m.Rz[i] r=false by rw[HE.out,hA];rfl);simp only[hA] at C2;have D2:=Ja C2;clear C2 C3 hA;go_upto_region 6 with fail
    go_wp2_with fail;have n0:=BelowW.nonempty w0;have e0:=BelowW.ex (w:=w0);have g_x0:=bwc x0;have g_x13:=bwc x13;have g_x14:=bwc x14;have g_i2:=bwc i2;have g_qa:=fun n:BelowW w0=>n.cell q1';clear x0 x13 x14 i2 q1';refine Jf (by kernel_rfl) (by kernel_rfl) ?_
    repeat(go_big_quiet_step(first|(go_at_call 49;exact BelowW.calls _ (D1.out _))|(go_at_call 73;exact BelowW.calls _ (D2.out _ (BelowW.sl _ hs0')))))
    refine wpQuiet_nil ?_;rintro w4 ⟨m4,hw4⟩;have hb4:=m4.property;rw[←hw4] at hb4;clear hw4 m4 e0 g_x0 g_x13 g_x14 g_i2 g_qa;go_wp2;go_ret;exact⟨Jc HV.out.symm,Below.t HB0.out hb4⟩
   ·have HA:=Ja hA;simp only[hA] at C2;have D2:=Ja C2;clear C2 hA;cases hB:Yz m.Rz[i].Uz r.user r.ref ByteArray.empty true
    all_goals
     have HV:=Ja (show Yi m m.Rz[i] r=_ by rw[HE.out,HA.out,hB,Bool.true_and]);simp only[hB] at C3;have D3:=Ja C3;clear C3 hB;go_upto_region 6 with fail
     go_wp2_with fail;have n0:=BelowW.nonempty w0;have e0:=BelowW.ex (w:=w0);have g_x0:=bwc x0;have g_x4:=bwc x4;have g_x13:=bwc x13;have g_x14:=bwc x14;have g_i2:=bwc i2;have g_qa:=fun n:BelowW w0=>n.cell q1';clear x0 x4 x13 x14 i2 q1';refine Jf (by kernel_rfl) (by kernel_rfl) ?_
     repeat(go_big_quiet_step(first|(go_at_call 49;exact BelowW.calls _ (D1.out _))|(go_at_call 73;(with_reducible show Calls _ _ #[.slice B0' _ _,_,_,_,_] _ _);exact BelowW.calls _ (D2.out _ (BelowW.sl _ hs0')))|(go_at_call 73;(with_reducible show Calls _ _ #[.slice B0 _ _,_,_,_,_] _ _);exact BelowW.calls _ (D3.out _ (BelowW.sl _ hs0)))))
     refine wpQuiet_nil ?_;rintro w4 ⟨m4,hw4⟩;have hb4:=m4.property;rw[←hw4] at hb4;clear hw4 m4 e0 g_x0 g_x4 g_x13 g_x14 g_i2 g_qa;go_wp2;go_ret;exact⟨Jc HV.out.symm,Below.t HB0.out hb4⟩
  ·have hin:inB (j:Int) 0 ((m.Rz.length:Int) - 1)=false:=by
    cases h:inB (j:Int) 0 ((m.Rz.length:Int) - 1)
    ·rfl
    ·have:=jap.1 h;omega
   simp only[hin] at C1;have D1:=Ja C1;have HV:=Ja (show Yi m m.Rz[i] r=false by
    unfold Yi;rw[if_neg K1.out,decide_eq_false K9.out,HFJ.out,Int.toNat_natCast,List.getElem?_eq_none (by omega),Bool.false_or,Bool.and_false])
   clear C1 hin hj;go_upto_region 6 with fail
   go_wp2_with fail;have n0:=BelowW.nonempty w0;have e0:=BelowW.ex (w:=w0);have g_x13:=bwc x13;have g_i2:=bwc i2;clear x13 i2;refine Jf (by kernel_rfl) (by kernel_rfl) ?_
   repeat(go_big_quiet_step(first|(go_at_call 49;exact BelowW.calls _ (D1.out _))))
   refine wpQuiet_nil ?_;rintro w4 ⟨m4,hw4⟩;have hb4:=m4.property;rw[←hw4] at hb4;clear hw4 m4 e0 g_x13 g_i2;go_wp2;go_ret;exact⟨Jc HV.out.symm,Below.t HB0.out hb4⟩
 have K9:=Ja (show r.kind=9 by
  unfold Vs at hw;simp only[Bool.or_eq_true,beq_iff_eq] at hw;omega)
 have x0:=Blk.c0 (HKQ.out w0 (Below.refl _ _));have x4:=Blk.c4 (HKQ.out w0 (Below.refl _ _));have x3:w0.cell? ⟨w.heap.size+1,3,none⟩=some (.int .i64 9):=by rw[←K9.out];exact(HKQ.out w0 (Below.refl _ _)).cell 3
 clear k1 k10 hw;have HE:=Ja (show Yi m m.Rz[i] r=Yz m.Rz[i].Uz r.user r.ref ByteArray.empty true by unfold Yi;rw[if_neg K1.out,decide_eq_true K9.out,Bool.true_or,Bool.and_true]);go_wp2_with fail;refine(Wu r.user r.ref ByteArray.empty true _ (HS0.out _ (Below.refl _ _)) HFI.out.Uz (by decide)).mono ?_;rintro e w1 ⟨rfl,hb1⟩;have HB1:=Ja hb1
 clear hb1 i2 x2 x3 q1 x0 x4;go_wp2_with fail;go_ret;exact⟨Jc HE.out.symm,Below.t HB0.out HB1.out⟩
def NextAt (w:World) (o:List File×Int) (e:Ending) (w':World):Prop:=
 ∃A n c f,e= .returned (.tuple #[.slice A n c,.int .i64 o.2])∧SlR Rp.file w' A n c o.1 f∧Below w.heap.size w w'
theorem jpz {m:Jl} {p:Xq} {r:Req} (h:Yi m p r=true) (h1: ¬r.kind=1) (h9: ¬r.kind=9):r.frm.toNat<m.Rz.length:=by
 unfold Yi at h;rw[if_neg h1,decide_eq_false h9,Bool.false_or] at h;have h2:=(Bool.and_eq_true_iff.1 h).2;by_cases hl:r.frm.toNat<m.Rz.length
 ·exact hl
 ·rw[List.getElem?_eq_none (by omega)] at h2;cases h2
theorem jm6 {k:Nat} {i:Nat} {m:Jl} {r:Req} {hs cs:List Value} {f fr:List Nat} (w:World) (hm:Rp.house.R w hs m f) (hr:Rp.req.R w cs r fr) (hri:r.repo=(i:Int)) (hi:i<m.Rz.length) (hP: ∀p∈m.Rz,RepoFit p) (hQ:ReqFit r) (hok:Ys m=true) (hk:k<m.Rz[i].Fz.length) (hidx:Y7 m.Rz[i].Fz r.ref=some k) (hmay:Yi m m.Rz[i] r=true):
  Calls Tryz.prog 105 #[.agg hs.toArray,.agg cs.toArray] w (NextAt w (newest m m.Rz[i].Fz[k] r)):=by
 have hfx:=(RepoFit.of ((Jo.1 hok).2.2 _ (List.getElem_mem hi))).vers _ (List.getElem_mem hk);have HFX:=Ja hfx;have HMAY:=Ja hmay;have hidn:jd4 (Xx r.ref) m.Rz[i].Fz=(k:Int):=by
  rcases Zu (Xx r.ref) m.Rz[i].Fz with ⟨hn,he⟩|⟨k',hn,_,he⟩
  ·rw[show Y7 m.Rz[i].Fz r.ref=none from hn] at hidx;cases hidx
  ·rw[show Y7 m.Rz[i].Fz r.ref=some k' from hn] at hidx;cases hidx;exact he
 have HIDN:=Ja hidn;have HOK:=Ja hok;have hr3:m.Rz.length≤3:=by have:=(Jo.1 hok).2.1;omega
 clear hfx hmay hidn hidx hok;obtain⟨E0,m0,d0,e0,rfl,_,hq⟩:=hr;obtain rfl:=hq.1;have hm0:=hm;obtain⟨A0,n0,c0,f0,A1,n1,c1,f1,A2,n2,c2,f2,rfl,hff,h0,h1,h2⟩:=hm;obtain rfl:=h0.1;obtain rfl:=h1.1;obtain rfl:=h2.1;have hmx:=h2.max;have hmq:=hq.max
 have HB0:=(((Below.refl w.heap.size w).alloc nle (.cells #[.slice A0 m.keys.length c0,.slice A1 m.used.length c1,.slice A2 m.Rz.length c2] 26)).alloc (by simp) (.cells (RA r (.slice E0 r.Ez.length d0)) 31));have kx:=((Blk.new w 26 #[.slice A0 m.keys.length c0,.slice A1 m.used.length c1,.slice A2 m.Rz.length c2]).alloc (.cells (RA r (.slice E0 r.Ez.length d0)) 31))
 have kq:=(Blk.new' (w:=(w.alloc (.cells #[.slice A0 m.keys.length c0,.slice A1 m.used.length c1,.slice A2 m.Rz.length c2] 26))) (H:=w.heap.size+1) (by simp) 31 (RA r (.slice E0 r.Ez.length d0)));have HKx:=Ja (fun(W:World) (hb:Below w.heap.size w W)=>h0.step hb);have HUx:=Ja (fun(W:World) (hb:Below w.heap.size w W)=>h1.step hb)
 have HRx:=Ja (fun(W:World) (hb:Below w.heap.size w W)=>h2.step hb);have HEx:=Ja (fun(W:World) (hb:Below w.heap.size w W)=>hq.step hb);have HHx:=Ja (fun(W:World) (hb:Below w.heap.size w W)=>Rp.house.below hm0 hb nle);have HRI:=Ja hri;have HPF:=Ja hP;have HQF:=Ja hQ;have HFI:=Ja (hP _ (List.getElem_mem hi));have i0:(0:Int)≤(i:Int):=by omega
 have i1:(i:Int)<(m.Rz.length:Int):=by omega
 clear hri hP hQ;clear hm0 hff h0 h1 h2 hq;go_enter Tryz.func105,Tryz.ntmps105;go_upto_region 1 with fail
 generalize hW0:((w.alloc (.cells #[.slice A0 m.keys.length c0,.slice A1 m.used.length c1,.slice A2 m.Rz.length c2] 26)).alloc (.cells (RA r (.slice E0 r.Ez.length d0)) 31))=w0 at HB0 kx kq ⊢;clear hW0;have HKX:=Ja (fun(W:World) (hb:Below w0.heap.size w0 W)=>kx.step hb);have HKQ:=Ja (fun(W:World) (hb:Below w0.heap.size w0 W)=>kq.step hb);have HB0:=Ja HB0;clear kx kq
 have i2:=Blk.c2 (HKX.out w0 (Below.refl _ _));have x2:w0.cell? ⟨w.heap.size+1,2,none⟩=some (.int .i64 (i:Int)):=by rw[←HRI.out];exact(HKQ.out w0 (Below.refl _ _)).cell 2
 have x4:=Blk.c4 (HKQ.out w0 (Below.refl _ _));obtain⟨bp,op,B0,b0,d0',g0,B1,b1,d1',g1,rfl,hbp,hmp,q0,q1,q2,hs0,hs1,hsub⟩:=J7 (HRx.out w0 HB0.out) hi;obtain rfl:=hs1.1;have HS1:=Ja (fun(W:World) (hb:Below w0.heap.size w0 W)=>hs1.step hb)
 have hrp:Rp.repo.R w0 [.int .i64 m.Rz[i].Az,.slice B0 b0 d0',.slice B1 m.Rz[i].Fz.length d1'] m.Rz[i] (g0++g1):=⟨B0,b0,d0',g0,B1,_,d1',g1,rfl,rfl,hs0,hs1⟩;have HPx:=Ja (fun(W:World) (hb:Below w0.heap.size w0 W)=>Rp.repo.below hrp hb nle);have HQ2:=Ja q2
 have C1:=fun W (hh:Rp.repo.R W [.int .i64 m.Rz[i].Az,.slice B0 b0 d0',.slice B1 m.Rz[i].Fz.length d1'] m.Rz[i] (g0++g1))=>jbd r.ref W hh;simp only[HIDN.out] at C1;have D1:=Ja C1;clear C1 hs0 hs1 hrp hbp hmp hsub;go_wp2_with fail;have n0:=BelowW.nonempty w0;have e0:=BelowW.ex (w:=w0);have g_i2:=bwc i2;have g_x2:=bwc x2;have g_x4:=bwc x4;have g_q0:=bwc q0;have g_q1:=bwc q1
 have g_q2:=bwc q2;clear i2 x2 x4 q0 q1 q2;refine Jf (by kernel_rfl) (by kernel_rfl) ?_
 repeat(go_big_quiet_step(first|(go_at_call 71;exact BelowW.calls _ (D1.out _ (HPx.out _ (Subtype.property _))))))
 refine wpQuiet_nil ?_;rintro w1 ⟨m4,hw1⟩;have hb1:=m4.property;rw[←hw1] at hb1;clear hw1 m4 e0 g_i2 g_x2 g_x4 g_q0 g_q1 g_q2;have HB1:=Ja hb1;clear hb1 D1;have i2:=Blk.c2 (HKX.out w1 HB1.out);have x2:w1.cell? ⟨w.heap.size+1,2,none⟩=some (.int .i64 (i:Int)):=by rw[←HRI.out];exact(HKQ.out w1 HB1.out).cell 2
 have q2:=Je HQ2.out HB1.out;obtain⟨bR,oR,B3,b3,d3,g3,rfl,hbR,hmR,t0,t1,t2,t3,hs3,_⟩:=J3 (HS1.out w1 HB1.out) hk;obtain rfl:=hs3.1;have k0:(0:Int)≤(k:Int):=by omega
 have k1:(k:Int)<(m.Rz[i].Fz.length:Int):=by omega
 have HS3:=Ja (fun(W:World) (hb:Below w1.heap.size w1 W)=>hs3.step hb);clear hbR hmR hs3;go_upto_region 3 with fail
 obtain⟨w2,hw2⟩: ∃w2,w2=w1.alloc (.cells #[.string m.Rz[i].Fz[k].name,.bool m.Rz[i].Fz[k].guard,.int .i64 m.Rz[i].Fz[k].count,.slice B3 m.Rz[i].Fz[k].Vz.length d3] 52):=⟨_,rfl⟩;rw[←hw2];have HD2:=Ja (show Below w1.heap.size w1 w2 from hw2▸(Below.refl _ _).alloc nle _);have HB2:=Ja (Below.t HB1.out HD2.out)
 have kr:=(show Blk w2 w1.heap.size 52 #[.string m.Rz[i].Fz[k].name,.bool m.Rz[i].Fz[k].guard,.int .i64 m.Rz[i].Fz[k].count,.slice B3 m.Rz[i].Fz[k].Vz.length d3] from hw2▸Blk.new w1 _ _);have HRB:=Ja (fun(W:World) (hb:Below w2.heap.size w2 W)=>kr.step hb)
 have hxr:Rp.ref.R w2 [.string m.Rz[i].Fz[k].name,.bool m.Rz[i].Fz[k].guard,.int .i64 m.Rz[i].Fz[k].count,.slice B3 m.Rz[i].Fz[k].Vz.length d3] m.Rz[i].Fz[k] g3:=⟨B3,_,d3,g3,rfl,rfl,HS3.out _ HD2.out⟩;have HXR:=Ja (fun(W:World) (hb:Below w2.heap.size w2 W)=>Rp.ref.below hxr hb nle);clear hw2 kr hxr t0 t1 t2 t3 q2 i2 x2;by_cases kk1:r.kind=1
 ·have K1:=Ja kk1;have x3:w2.cell? ⟨w.heap.size+1,3,none⟩=some (.int .i64 1):=by rw[←K1.out];exact(HKQ.out w2 HB2.out).cell 3
  have x8:=Blk.c8 (HKQ.out w2 HB2.out);have t0:=Blk.c0 (HRB.out w2 (Below.refl _ _));have t1:=Blk.c1 (HRB.out w2 (Below.refl _ _));have t2:=Blk.c2 (HRB.out w2 (Below.refl _ _));have t3:=Blk.c3 (HRB.out w2 (Below.refl _ _));clear kk1;obtain⟨l,hv,hl⟩:=jbq HFX.out.1;have HV:=Ja hv;have HL:=Ja hl;clear hl hv;go_wp2_with fail;refine Xs fun K hK=> ?_;have HKK:=Ja hK;clear hK
  go_region_law (first
   |(refine J9 rfl 144 (enters_of Tryz.func144 (by kernel_rfl) rfl) rfl _ (by simp[Act.eval,Act.put]) ((jet (x:=m.Rz[i].Fz[k]) (l:=l) _ (HXR.out _ (by first|exact(Below.refl _ _).drew|exact Below.refl _ _|exact((Below.refl _ _).drew).alloc nle _|exact((Below.refl _ _).alloc nle _).drew|exact(Below.refl _ _).alloc nle _)) HFX.out.2.1 HV.out).mono ?_);rintro e w3 ⟨AF,nF,cF,fF,rfl,hsF,_,hb3⟩;refine⟨_,rfl, ?_⟩;have HS4:=Ja hsF;have HD3:=Ja (Below.past hb3);have y8:=Je x8 HD3.out;clear hb3 hsF)
   |(refine J9 rfl 143 (enters_of Tryz.func143 (by kernel_rfl) rfl) rfl _ (by simp[Act.eval,Act.put]) ((jbx (l:=l) (es:=r.Ez) _ HS4.out (HEx.out _ (Below.t (Below.t HB0.out HB2.out) HD3.out)) (jbw (HFX.out.2.2.2 l HL.out)) HQF.out.Ez).mono ?_);rintro e w5 ⟨v2,rfl,ho2,hb5⟩;refine⟨_,rfl, ?_⟩;obtain⟨A2',c2',f2',hv2,hs2,_,_,_⟩:=Yp ho2;subst hv2;have HS5:=Ja hs2;have HB5:=Ja (Below.t (Below.t HB2.out HD3.out) hb5);clear ho2 hs2 hb5)
   |fail)
  all_goals
   refine HKK.out _ _ ?_;clear HKK K;clear x8 y8 t0 t1 t2 t3 x3;cases ht:Yu l r.Ez with
   |none=>
    simp only[Option.isSome];have HE:=Ja (show newest m m.Rz[i].Fz[k] r=([],7) by unfold newest;rw[if_pos K1.out,HV.out];simp only[ht]);go_wp2_with fail
    go_ret2
    rw[HE.out];exact⟨_,0,0,[],rfl,SlR.none_of 0 (by simp[maxLen]),(Below.t HB0.out HB5.out).alloc (Below.t HB0.out HB5.out).size _⟩
   |some y=>
    have hs2:=HS5.out;rw[ht] at hs2;have HS6:=Ja (show SlR Rp.file w5 A2' y.length c2' y f2' from hs2);simp only[Option.isSome,Option.getD_some];clear hs2 HS5;have HE:=Ja (show newest m m.Rz[i].Fz[k] r=(y,1) by unfold newest;rw[if_pos K1.out,HV.out];simp only[ht]);go_wp2_with fail
    go_ret2
    rw[HE.out];exact⟨_,_,_,_,rfl,HS6.out,Below.t HB0.out HB5.out⟩
 have K1:=Ja kk1;by_cases kk9:r.kind=9
 ·have K9:=Ja kk9;have x3:w2.cell? ⟨w.heap.size+1,3,none⟩=some (.int .i64 9):=by rw[←K9.out];exact(HKQ.out w2 HB2.out).cell 3
  have t0:=Blk.c0 (HRB.out w2 (Below.refl _ _));have t1:=Blk.c1 (HRB.out w2 (Below.refl _ _));have t2:=Blk.c2 (HRB.out w2 (Below.refl _ _));have t3:=Blk.c3 (HRB.out w2 (Below.refl _ _));clear kk1 kk9;cases hg:m.Rz[i].Fz[k].guard
  ·rw[hg] at t1;have HG:=Ja hg;clear hg;have hbk:=HQF.out.ints.2.2.2.1;obtain⟨j,hj⟩: ∃j:Nat,r.back=(j:Int):=⟨r.back.toNat,by omega⟩;have HJ:=Ja hj;have x7:w2.cell? ⟨w.heap.size+1,7,none⟩=some (.int .i64 (j:Int)):=by rw[←hj];exact(HKQ.out w2 HB2.out).cell 7
   clear hbk hj;have hv3:=HFX.out.2.1;by_cases hjl:j<m.Rz[i].Fz[k].Vz.length
   ·obtain⟨p,hp⟩: ∃p:Nat,(p:Int)=m.Rz[i].Fz[k].Vz.length - 1 - j:=⟨m.Rz[i].Fz[k].Vz.length - 1 - j,by omega⟩;have hpl:p<m.Rz[i].Fz[k].Vz.length:=by omega
    have HV:=Ja (jaz (b:=(j:Int)) (by omega) hp hpl);obtain⟨bv,ov,Av,nv,cv,fv,rfl,_,_,u0,hsv,_⟩:=Vv (HS3.out w2 HD2.out) hpl;have HSV:=Ja hsv;have j1: ¬(m.Rz[i].Fz[k].Vz.length:Int)≤(j:Int):=by omega
    have hw1:IntKind.i64.wrap ((m.Rz[i].Fz[k].Vz.length:Int) - 1)=(m.Rz[i].Fz[k].Vz.length:Int) - 1:=IntWalk.i64_in _ (by omega);have hw2:IntKind.i64.wrap ((m.Rz[i].Fz[k].Vz.length:Int) - 1 - (j:Int))=(p:Int):=by rw[IntWalk.i64_in _ (by omega)];omega
    have p0:(0:Int)≤(p:Int):=by omega
    have p1:(p:Int)<(m.Rz[i].Fz[k].Vz.length:Int):=by omega
    have HE:=Ja (show newest m m.Rz[i].Fz[k] r=(m.Rz[i].Fz[k].Vz[p],1) by unfold newest;rw[if_neg K1.out,if_pos K9.out,HG.out,HJ.out,HV.out];simp only[Bool.false_eq_true,if_false]);clear hp hsv hjl;go_wp2_with fail
    go_ret2
    rw[HE.out];exact⟨_,_,_,_,rfl,HSV.out,Below.t HB0.out HB2.out⟩
   ·have j1:(m.Rz[i].Fz[k].Vz.length:Int)≤(j:Int):=by omega
    have HV:=Ja (ja6 (vs:=m.Rz[i].Fz[k].Vz) j1);clear hjl hv3;have HE:=Ja (show newest m m.Rz[i].Fz[k] r=([],7) by unfold newest;rw[if_neg K1.out,if_pos K9.out,HG.out,HJ.out,HV.out];rfl);go_wp2_with fail
    go_ret2
    rw[HE.out];exact⟨_,0,0,[],rfl,SlR.none_of 0 (by simp[maxLen]),(Below.t HB0.out HB2.out).alloc (Below.t HB0.out HB2.out).size _⟩
  ·rw[hg] at t1;have HG:=Ja hg;clear hg;have HE:=Ja (show newest m m.Rz[i].Fz[k] r=([],8) by unfold newest;rw[if_neg K1.out,if_pos K9.out,HG.out];rfl);go_wp2_with fail
   go_ret2
   rw[HE.out];exact⟨_,0,0,[],rfl,SlR.none_of 0 (by simp[maxLen]),(Below.t HB0.out HB2.out).alloc (Below.t HB0.out HB2.out).size _⟩
 have K9:=Ja kk9;have hfr0:=HQF.out.ints.2.2.2.2;have hfl:=jpz HMAY.out K1.out K9.out;obtain⟨j,hfj⟩: ∃j:Nat,r.frm=(j:Int):=⟨r.frm.toNat,by omega⟩;have HFJ:=Ja hfj;have hj:j<m.Rz.length:=by omega
 have j0:(0:Int)≤(j:Int):=by omega
 have j1:(j:Int)<(m.Rz.length:Int):=by omega
 have x13:w2.cell? ⟨w.heap.size+1,13,none⟩=some (.int .i64 (j:Int)):=by rw[←hfj];exact(HKQ.out w2 HB2.out).cell 13
 have i2:=Blk.c2 (HKX.out w2 HB2.out);have x3:=Blk.c3 (HKQ.out w2 HB2.out);have x14:=Blk.c14 (HKQ.out w2 HB2.out);obtain⟨bp',op',C0,c0',e0',h0,C1',c1',e1',h1,hbo,hbp,hmp,q0,q1,q2,hs0,hs1,hsub⟩:=J7 (HRx.out w2 (Below.t HB0.out HB2.out)) hj;cases hbo;obtain rfl:=hs1.1;have HT1:=Ja (fun(W:World) (hb:Below w2.heap.size w2 W)=>hs1.step hb)
 have hrp:Rp.repo.R w2 [.int .i64 m.Rz[j].Az,.slice C0 c0' e0',.slice C1' m.Rz[j].Fz.length e1'] m.Rz[j] (h0++h1):=⟨C0,c0',e0',h0,C1',_,e1',h1,rfl,rfl,hs0,hs1⟩;have HPy:=Ja (fun(W:World) (hb:Below w2.heap.size w2 W)=>Rp.repo.below hrp hb nle);have HQ2':=Ja q2
 have HFILES:=Ja (show ∀o,m.Rz[j].Fz.findIdx? (Xx r.other)=o→Xn m r.frm r.other 0=(match o with|none=>none|some k2=>version (m.Rz[j].Fz.getD k2 Y8).Vz 0) from fun o ho=>by
  cases o with
  |none=>exact je0 HFJ.out hj ho
  |some k2=>
   obtain⟨hk2,_⟩:=List.findIdx?_eq_some_iff_getElem.1 ho;rw[jez HFJ.out hj hk2 ho];simp only[J4 hk2])
 have D1:=Ja (fun W (hh:Rp.repo.R W [.int .i64 m.Rz[j].Az,.slice C0 c0' e0',.slice C1' m.Rz[j].Fz.length e1'] m.Rz[j] (h0++h1))=>jbd r.other W hh);clear hs0 hs1 hrp hbp hmp hsub hfr0 hfl hfj;go_upto_region 15 with fail
 go_wp2_with fail;have n0:=BelowW.nonempty w2;have e0:=BelowW.ex (w:=w2);have g_i2:=bwc i2;have g_x13:=bwc x13;have g_x14:=bwc x14;have g_q0:=bwc q0;have g_q1:=bwc q1;have g_q2:=bwc q2;clear i2 x13 x14 q0 q1 q2;refine Jf (by kernel_rfl) (by kernel_rfl) ?_
 repeat(go_big_quiet_step(first|(go_at_call 71;exact BelowW.calls _ (D1.out _ (HPy.out _ (Subtype.property _))))))
 refine wpQuiet_nil ?_;rintro w3 ⟨m4,hw3⟩;have hb3:=m4.property;rw[←hw3] at hb3;clear hw3 m4 e0 g_i2 g_x13 g_x14 g_q0 g_q1 g_q2;have HD3:=Ja hb3;have HB3:=Ja (Below.t HB2.out hb3);clear hb3 D1 x3 kk1 kk9;rcases Zu (Xx r.other) m.Rz[j].Fz with ⟨hn,he⟩|⟨k2,hn,hk2,he⟩
 ·rw[he];clear he;have HF:=Ja (HFILES.out _ hn);clear hn;have HE:=Ja (show newest m m.Rz[i].Fz[k] r=([],7) by unfold newest;rw[if_neg K1.out,if_neg K9.out,HF.out]);go_wp2_with fail
  go_ret2
  rw[HE.out];exact⟨_,0,0,[],rfl,SlR.none_of 0 (by simp[maxLen]),(Below.t HB0.out HB3.out).alloc (Below.t HB0.out HB3.out).size _⟩
 ·rw[he];clear he;have HF:=Ja (HFILES.out _ hn);have HFY:=Ja ((RepoFit.of ((Jo.1 HOK.out).2.2 _ (List.getElem_mem hj))).vers _ (List.getElem_mem hk2));obtain⟨l,hv,hl⟩:=jbq HFY.out.1;have HV:=Ja hv;have m0':(0:Int)≤(k2:Int):=by omega
  have m1':(k2:Int)<(m.Rz[j].Fz.length:Int):=by omega
  have m2': ¬(k2:Int)<0:=by omega
  have x13:w3.cell? ⟨w.heap.size+1,13,none⟩=some (.int .i64 (j:Int)):=by rw[←HFJ.out];exact(HKQ.out w3 HB3.out).cell 13
  have i2:=Blk.c2 (HKX.out w3 HB3.out);have q2:=Je HQ2'.out HD3.out;obtain⟨bS,oS,B4,b4,d4,g4,rfl,hbS,hmS,t0,t1,t2,t3,hs4,_⟩:=J3 (HT1.out w3 HD3.out) hk2;obtain rfl:=hs4.1;have HS4:=Ja hs4;have HE:=Ja (show newest m m.Rz[i].Fz[k] r=(l,1) by unfold newest;rw[if_neg K1.out,if_neg K9.out,HF.out];simp only[J4 hk2,HV.out]);clear hn hv hl hbS hmS hs4;go_wp2_with fail
  refine(jet (x:=m.Rz[j].Fz[k2]) (l:=l) _ ⟨B4,_,d4,g4,rfl,rfl,HS4.out⟩ HFY.out.2.1 HV.out).mono ?_;rintro e w4 ⟨AF,nF,cF,fF,rfl,hsF,_,hb4⟩;have HS5:=Ja hsF;have HB4:=Ja (Below.t HB3.out hb4);clear hsF hb4 t0 t1 t2 t3 q2 i2 x13;go_wp2_with fail
  go_ret2
  rw[HE.out];exact⟨_,_,_,_,rfl,HS5.out,Below.t HB0.out HB4.out⟩
end Go.Proofs.YtobbdhgkcoeifaaGreatDoor
