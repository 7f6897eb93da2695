/- Lemmas and walks, joined by program. -/
import Derived.Test.YtobbdhgkcoeifaaGreatDoorZ4
import Derived.Test.YtobbdhgkcoeifaaGreatDoorZ1
import Derived.Test.YtobbdhgkcoeifaaGreatDoorZ3
namespace Go.Proofs.YtobbdhgkcoeifaaGreatDoor
open Go.RowKit
attribute [local go_sem ↓] Go.wp_at_zero Go.wp_at_succ
set_option maxHeartbeats 8000000
set_option maxRecDepth 100000
set_option linter.unusedSimpArgs false
set_option linter.unusedVariables false
theorem jfx:(Tryz.prog.info? 34).map (fun i=>(i.zero,i.size,i.bytes))=some (some (.slice none 0 0),1,24):=by kernel_rfl
theorem jee {A:Option Addr} {n c:Nat} {l:List (List File)} {fp:List Nat} (w:World) (hx:SlR (Rp.slice Rp.file) w A n c l fp) (hl:l.length≤4194304) (hf: ∀f∈l,f.length≤4194304):
  Calls Tryz.prog 93 #[.slice A n c] w fun e w'=>∃v,e= .returned v∧OwB (Rp.slice Rp.file) 34 w.heap.size v l w'∧Below w.heap.size w w':=by
 obtain⟨rfl,hcx,hmx,_⟩:=id hx;obtain⟨i0,hi,hz0,hz1,hz2⟩:=info_parts jfx;have HF:=Ja hf;clear hf hcx hmx;go_enter Tryz.func93,Tryz.ntmps93;go_wp2
 go_loopw [3,8] (fun v i wr=>∃k:Nat,k≤l.length∧i= .int .i64 k∧OwB (Rp.slice Rp.file) 34 w.heap.size v (l.take k) wr∧Below w.heap.size w wr) (fun _ i _=>l.length - (intOf i).toNat)
 case atStart=>exact⟨0,Nat.zero_le _,rfl,OwB.nil,Below.refl _ _⟩
 case round=>
  obtain⟨k,hk,rfl,hown,hbl⟩:=hrel;have HO:=Ja hown;clear hown;by_cases hlt:k<l.length
  ·obtain⟨b,o,A',n',c',f,rfl,hb,hm,q0,hs,_⟩:=Vv (hx.step hbl) hlt;have HK:=Ja (show(l.take k).length=k by simp;omega);have HT:=Ja (List.take_succ_eq_append_getElem hlt);have i1:(k:Int)<(l.length:Int):=by omega
   go_wp2_with fail;refine(Xk _ hs (HF.out _ (List.getElem_mem hlt))).mono ?_;rintro e w1 hfr;obtain⟨A1,c1,f1,rfl,hs1,hn1,hl1,hf1,hb1⟩:=OwnF.sl (k:=2) (enc:=Jj) (hk:=fun _=>rfl) (h1:=Vz) hfr;obtain⟨xs,ho,hgrow⟩:=HO.out.grow;obtain⟨hoA,hsn⟩:=hgrow (hb1.alloc hb1.size (.cells #[.slice A1 l[k].length c1] 34))
   have HSZ:=Ja (show(w1.alloc (.cells #[.slice A1 l[k].length c1] 34)).heap.size=w1.heap.size+1 by simp);have hs9:=(hsn (ys:=[.slice A1 l[k].length c1]) (y:=l[k]) ⟨A1,_,c1,rfl,hs1.allocN _⟩ hn1 hl1 hbl.size (hf1.step ((Below.refl _ _).alloc nle _)) HSZ.out);rw[HK.out] at hs9 hoA;have HS:=Ja hs9
   have HB1:=Ja ((Below.t hbl hb1).alloc (Below.t hbl hb1).size (.cells #[.slice A1 l[k].length c1] 34));have HV:=Ja HO.out.vlow;clear hs9 ho hsn hgrow hb1 hs1 hn1 hl1 hf1 hfr q0 hs
   go_wp2_with(at_builtin;refine wpList_append_lies _ rfl _ _ 50 rfl 0 34 i0 _ 1 24 Tryz.underlying50 hi hz0 hz1 hz2 rfl (by decide) _ _ _ rfl hoA ⟨w1.heap.size,0,none⟩ 1 1 [.slice A1 l[k].length c1] rfl rfl (Jm w1 _ _) (by intro u hu;simp at hu;subst hu;rfl) (by decide) (by unfold maxLen;omega) (by omega) (Nat.zero_le _) (w1.heap.size+1) HSZ.out ?_);intro g cap w2 ho2 hgr hor hlt2
   have HN:=Ja (HS.out _ _ _ ho2 hgr hor);have HBB:=Ja (je3 HB1.out hgr HV.out);clear ho2 hgr hor hoA;go_wp2;exact⟨⟨k+1,by omega,by go_num,by rw[HT.out];exact HN.out,HBB.out⟩,by simp[intOf];omega⟩
  ·have hk':k=l.length:=by omega
   subst hk';have HE:=Ja (show l.take l.length=l from List.take_of_length_le nle);go_wp2;go_ret;exact⟨_,rfl,by have h:=HO.out;rw[HE.out] at h;exact h,hbl⟩
theorem jhu {cs:List Value} {x:Ref} {fx:List Nat} (w:World) (hx:Rp.ref.R w cs x fx) (hl:x.Vz.length≤4194304) (hf: ∀f∈x.Vz,f.length≤4194304):
  Calls Tryz.prog 99 #[.agg cs.toArray] w (FreshR Rp.refO w x):=by
 obtain⟨A0,n0,c0,f0,rfl,_,h0⟩:=hx;obtain rfl:=h0.1;have hmx:=h0.max;obtain⟨i0,hi,hz0,hz1,hz2⟩:=info_parts jfx;have HF:=Ja hf;clear hf;have k1:=Blk.new w 52 #[.string x.name,.bool x.guard,.int .i64 x.count,.slice A0 x.Vz.length c0]
 have k2:=Blk.new (w.alloc (.cells #[.string x.name,.bool x.guard,.int .i64 x.count,.slice A0 x.Vz.length c0] 52)) 52 #[.string ⟨#[]⟩,.bool false,.int .i64 0,.slice none 0 0];replace k1:=k1.alloc (.cells #[.string ⟨#[]⟩,.bool false,.int .i64 0,.slice none 0 0] 52)
 have HB0:=Ja (((Below.refl w.heap.size w).alloc nle (.cells #[.string x.name,.bool x.guard,.int .i64 x.count,.slice A0 x.Vz.length c0] 52)).alloc (by simp) (.cells #[.string ⟨#[]⟩,.bool false,.int .i64 0,.slice none 0 0] 52))
 replace h0:=(h0.allocN (.cells #[.string x.name,.bool x.guard,.int .i64 x.count,.slice A0 x.Vz.length c0] 52)).allocN (.cells #[.string ⟨#[]⟩,.bool false,.int .i64 0,.slice none 0 0] 52);rw[show(w.alloc (.cells #[.string x.name,.bool x.guard,.int .i64 x.count,.slice A0 x.Vz.length c0] 52)).heap.size=w.heap.size+1 by simp] at k2
 have HSZ0:=Ja (show((w.alloc (.cells #[.string x.name,.bool x.guard,.int .i64 x.count,.slice A0 x.Vz.length c0] 52)).alloc (.cells #[.string ⟨#[]⟩,.bool false,.int .i64 0,.slice none 0 0] 52)).heap.size=w.heap.size+1+1 by simp);go_enter Tryz.func99,Tryz.ntmps99;go_wp2_with fail
 generalize hW0:(w.alloc (.cells #[.string x.name,.bool x.guard,.int .i64 x.count,.slice A0 x.Vz.length c0] 52)).alloc (.cells #[.string ⟨#[]⟩,.bool false,.int .i64 0,.slice none 0 0] 52)=w0 at k1 k2 HB0 HSZ0 h0 ⊢;clear hW0;have HM:=Ja (show OwB (Rp.slice Rp.file) 34 w0.heap.size (.slice (some ⟨w.heap.size+1+1,0,none⟩) 0 0) (x.Vz.take 0) (w0.alloc (.cells #[] 34)) from by
  have h:=World.ownsRow_made (base:=0) (e:=34) (size:=1) w0 #[] 0 (Nat.zero_le _) (by simp[maxLen]) rfl;rw[HSZ0.out] at h ⊢;exact⟨_,⟨[],[],h,⟨rfl,rfl⟩,rfl⟩,by simp[Vm,Value.ownBlock],by simp[Vm,Value.ownBlock],jer h⟩)
 have HBM:=Ja ((Below.refl w0.heap.size w0).alloc nle (.cells #[] 34))
 go_loopw [3,4] (fun v i wr=>∃k:Nat,k≤x.Vz.length∧i= .int .i64 k∧OwB (Rp.slice Rp.file) 34 w0.heap.size v (x.Vz.take k) wr∧Below w0.heap.size w0 wr) (fun _ i _=>x.Vz.length - (intOf i).toNat)
 case atStart=>exact⟨0,Nat.zero_le _,rfl,HM.out,HBM.out⟩
 case round=>
  obtain⟨k,hk,rfl,hown,hbl⟩:=hrel;have HO:=Ja hown;clear hown HM HBM;have r1:=k1.step hbl;have c3:=Blk.c3 r1;by_cases hlt:k<x.Vz.length
  ·obtain⟨b,o,A',n',c',f,rfl,hb,hm,q0,hs,_⟩:=Vv (h0.step hbl) hlt;have HK:=Ja (show(x.Vz.take k).length=k by simp;omega);have HT:=Ja (List.take_succ_eq_append_getElem hlt);have j0:(0:Int)≤(k:Int):=by omega
   have j1:(k:Int)<(x.Vz.length:Int):=by omega
   go_wp2_with fail;refine(X6 _ hs (HF.out _ (List.getElem_mem hlt))).mono ?_;rintro e w1 hfr;obtain⟨A1,c1,f1,rfl,hs1,hn1,hl1,hf1,hb1⟩:=OwnF.sl (k:=2) (enc:=Jj) (hk:=fun _=>rfl) (h1:=Vz) hfr;obtain⟨xs,ho,hgrow⟩:=HO.out.grow;obtain⟨hoA,hsn⟩:=hgrow (hb1.alloc hb1.size (.cells #[.slice A1 x.Vz[k].length c1] 34))
   have HSZ:=Ja (show(w1.alloc (.cells #[.slice A1 x.Vz[k].length c1] 34)).heap.size=w1.heap.size+1 by simp);have hs9:=(hsn (ys:=[.slice A1 x.Vz[k].length c1]) (y:=x.Vz[k]) ⟨A1,_,c1,rfl,hs1.allocN _⟩ hn1 hl1 hbl.size (hf1.step ((Below.refl _ _).alloc nle _)) HSZ.out);rw[HK.out] at hs9 hoA;have HS:=Ja hs9
   have HB1:=Ja ((Below.t hbl hb1).alloc (Below.t hbl hb1).size (.cells #[.slice A1 x.Vz[k].length c1] 34));have HV:=Ja HO.out.vlow;clear hs9 ho hsn hgrow hb1 hs1 hn1 hl1 hf1 hfr q0 hs c3 r1 k1 k2
   go_wp2_with(at_builtin;refine wpList_append_lies _ rfl _ _ 50 rfl 0 34 i0 _ 1 24 Tryz.underlying50 hi hz0 hz1 hz2 rfl (by decide) _ _ _ rfl hoA ⟨w1.heap.size,0,none⟩ 1 1 [.slice A1 x.Vz[k].length c1] rfl rfl (Jm w1 _ _) (by intro u hu;simp at hu;subst hu;rfl) (by decide) (by unfold maxLen;omega) (by omega) (Nat.zero_le _) (w1.heap.size+1) HSZ.out ?_)
   intro g cap w2 ho2 hgr hor hlt2;have HN:=Ja (HS.out _ _ _ ho2 hgr hor);have HBB:=Ja (je3 HB1.out hgr HV.out);clear ho2 hgr hor hoA;go_wp2;exact⟨⟨k+1,by omega,by go_num,by rw[HT.out];exact HN.out,HBB.out⟩,by simp[intOf];omega⟩
  ·have hk':k=x.Vz.length:=by omega
   subst hk';have HE:=Ja (show x.Vz.take x.Vz.length=x.Vz from List.take_of_length_le nle);have r2:=k2.step hbl;obtain⟨Av,cv,rfl,_,_⟩:=HO.out.form;have c0:=Blk.c0 r1;have c1:=Blk.c1 r1;have c2:=Blk.c2 r1;have d0:=Blk.c0 r2;have d1:=Blk.c1 r2;have d2:=Blk.c2 r2;have d3:=Blk.c3 r2;have z3:=Jb r1 3;have y0:=Jb r2 0;have y1:=Jb r2 1;have y2:=Jb r2 2
   have y3:=Jb r2 3;have R:=Ja (((((r2.far (b:=w.heap.size) (j:=3) (by omega) (.slice Av (x.Vz.take x.Vz.length).length cv)).put 0 (.string x.name)).put 1 (.bool x.guard)).put 2 (.int .i64 x.count)).put 3 (.slice Av (x.Vz.take x.Vz.length).length cv))
   have RO:=Ja ((((((Only.refl [w.heap.size,w.heap.size+1] wr).setCell (p:=⟨w.heap.size,3,none⟩) (.inl (by simp)) (.slice Av (x.Vz.take x.Vz.length).length cv)).setCell (p:=⟨w.heap.size+1,0,none⟩) (.inl (by simp)) (.string x.name)).setCell (p:=⟨w.heap.size+1,1,none⟩) (.inl (by simp)) (.bool x.guard)).setCell (p:=⟨w.heap.size+1,2,none⟩) (.inl (by simp)) (.int .i64 x.count)).setCell (p:=⟨w.heap.size+1,3,none⟩) (.inl (by simp)) (.slice Av (x.Vz.take x.Vz.length).length cv))
   rw[HE.out] at R RO HO;clear r1 r2 k1 k2;go_wp2_with fail;have R:=R.out;have RO:=RO.out;generalize((((wr.setCell ⟨w.heap.size,3,none⟩ (.slice Av x.Vz.length cv)).setCell ⟨w.heap.size+1,0,none⟩ (.string x.name)).setCell ⟨w.heap.size+1,1,none⟩ (.bool x.guard)).setCell ⟨w.heap.size+1,2,none⟩ (.int .i64 x.count)).setCell ⟨w.heap.size+1,3,none⟩ (.slice Av x.Vz.length cv)=W at R RO ⊢
   have e0:=Blk.c0 R;have e1:=Blk.c1 R;have e2:=Blk.c2 R;have e3:=Blk.c3 R;obtain⟨fp,h1,h2,h3,h4⟩:=HO.out.only RO (by have:=HSZ0.out;intro b hb;simp at hb;omega);refine bodyPost_ret (v:= .agg #[.string x.name,.bool x.guard,.int .i64 x.count,.slice Av x.Vz.length cv]) (by simp[results,Tryz.results99,go_sem,e0,e1,e2,e3]) rfl ?_;have hs0:=HSZ0.out
   exact⟨[.string x.name,.bool x.guard,.int .i64 x.count,.slice Av x.Vz.length cv],fp,rfl,⟨_,rfl,h1⟩,h2,fun b hb=>by have:=h3 b hb;omega,h4,HB0.out.trans ((hbl.mono (by omega)).trans (RO.below (by intro b hb;simp at hb;omega) (by have:=hbl.size;omega)))⟩
def Vk (l:List File):Prop:=∀i (h:i<l.length),l[i].path.size≤4194304
theorem jls {l:List File} {k:Nat} (h:k<l.length) (h0:k=0):je7 l k=Y3 l[k]:=by
 subst h0;exact jn2 h
theorem jlr {l:List File} {k j:Nat} (h:k<l.length) (h':j<l.length) (hj:k=j+1):je7 l k=(Y3 l[k]&&bLt l[j].path l[k].path):=by
 subst hj;exact jn3 h
theorem jpp {l:List File} {k j:Nat} (h:k<l.length) (h':j<l.length) (hj:k=j+1):jql l k= !Jq l[j].path l[k].path:=by
 subst hj;exact jig h
theorem ji2 {a b:ByteArray} (h:Op.bytesLess a.toList b.toList=true):Op.bytesLess b.toList a.toList=false∧(b.toList==a.toList)=false:=by
 refine⟨jjt (a:=a) (b:=b) h, ?_⟩;rw[Jr];exact decide_eq_false fun e=>bLt_ne (a:=a) (b:=b) h e.symm
theorem jl6 {a b:ByteArray} (h:Op.bytesLess a.toList b.toList=false):(Op.bytesLess b.toList a.toList||(b.toList==a.toList))=true:=by
 rw[Jr];by_cases e:b=a
 ·rw[decide_eq_true e,Bool.or_true]
 ·rw[show Op.bytesLess b.toList a.toList=true from jpd (a:=a) (b:=b) h fun e'=>e e'.symm];rfl
theorem jba {A:Option Addr} {n c:Nat} {l:List File} {fp:List Nat} (w:World) (hx:SlR Rp.file w A n c l fp) (hf:Vk l):
  Calls Tryz.prog 146 #[.slice A n c] w fun e w'=>e= .returned (.bool (Y1 l))∧Below w.heap.size w w':=by
 obtain⟨rfl,hcx,hmx,_⟩:=id hx;unfold maxLen at hmx;have HF:=Ja hf;clear hf;go_enter Tryz.func146,Tryz.ntmps146;by_cases h60:l.length≤60
 ·go_wp2
  go_loopw [3] (fun i wr=>∃k:Nat,k≤l.length∧i= .int .i64 k∧oksTo (je7 l) k∧Below w.heap.size w wr) (fun i _=>l.length - (intOf i).toNat)
  case atStart=>exact⟨0,Nat.zero_le _,rfl,oksTo_zero,Below.refl _ _⟩
  case round=>
   obtain⟨k,hk,rfl,hag,hbl⟩:=hrel;have HA:=Ja hag;clear hag;by_cases hlt:k<l.length
   ·obtain⟨b,o,rfl,hb,hm,h0,h1⟩:=Jx (hx.step hbl) hlt;have HG:=Ja (HF.out k hlt);have HNO:=Ja (fun(h:je7 l k=false)=>(show Y1 l=false by rw[jbu,oksTo.not_ hlt h];simp));have HYES:=Ja (fun(h:je7 l k=true)=>HA.out.next h);have H0:=Ja (fun(h:k=0)=>jls hlt h);have H1:=Ja (fun(j:Nat) (hj:j<l.length) (h:k=j+1)=>jlr hlt hj h)
    have HNF:=Ja (fun(h:Y3 l[k]=false)=>(show je7 l k=false by unfold je7;rw[Z7 hlt,h];rfl));have i0:(0:Int)≤(k:Int):=by omega
    have i1:(k:Int)<(l.length:Int):=by omega
    have C1:=Y6 l[k].path HG.out;have HQ:=Ja (Ju l[k].path);cases hp:l[k].path.toList.isEmpty
    ·have HP:=Ja (HQ.out.symm.trans hp);cases hd:Xm l[k].path
     ·simp only[hd] at C1;have D1:=Ja C1;have HR:=Ja (HNO.out (HNF.out (show Y3 l[k]=false by unfold Y3;rw[hd];rfl)));clear C1 hd;go_wp2_with fail;have n0:=BelowW.nonempty wr;have e0:=BelowW.ex (w:=wr);have g_h0:=bwc h0;have g_h1:=bwc h1;clear h0 h1;refine Jf (by kernel_rfl) (by kernel_rfl) ?_
      repeat(go_big_quiet_step(first|(go_at_call 54;exact BelowW.calls _ (D1.out _))))
      refine wpQuiet_nil ?_;rintro _ ⟨⟨w1,hb1⟩,rfl⟩;have HB:=Ja (Below.t hbl hb1);clear hb1 e0 g_h0 g_h1;go_wp2;go_ret;exact⟨Jc (HR.out).symm,HB.out⟩
     ·simp only[hd] at C1;have D1:=Ja C1;have HD:=Ja hd;clear C1 hd;by_cases hs:l[k].bytes.size≤6
      ·have HFO:=Ja (show Y3 l[k]=true by unfold Y3;rw[HD.out,HP.out,decide_eq_true hs];rfl);have hs1:decide ((6:Int)<(l[k].bytes.size:Int))=false:=decide_eq_false (by omega);clear hs;rcases Nat.eq_zero_or_pos k with hk0|hk0
       ·skip;have hz:decide (0<k)=false:=decide_eq_false (by omega);have HR:=Ja (HYES.out ((H0.out hk0).trans HFO.out));clear hk0;go_wp2_with fail;have n0:=BelowW.nonempty wr;have e0:=BelowW.ex (w:=wr);have g_h0:=bwc h0;have g_h1:=bwc h1;clear h0 h1;refine Jf (by kernel_rfl) (by kernel_rfl) ?_
        repeat(go_big_quiet_step(first|(go_at_call 54;exact BelowW.calls _ (D1.out _))))
        refine wpQuiet_nil ?_;rintro _ ⟨⟨w1,hb1⟩,rfl⟩;have HB:=Ja (Below.t hbl hb1);clear hb1 e0 g_h0 g_h1;go_wp2;exact⟨⟨k+1,by omega,by go_num,HR.out,HB.out⟩,by simp[intOf];omega⟩
       ·obtain⟨j,hk0⟩: ∃j,k=j+1:=⟨k - 1,by omega⟩;have hz:decide (0<k)=true:=decide_eq_true (by omega);have hj:j<l.length:=by omega
        have HE:=Ja (H1.out j hj hk0);obtain⟨b',o',he,hb',hm',p0,p1⟩:=Jx (hx.step hbl) hj;cases he;have e1:(k:Int) - 1=(j:Int):=by omega
        have e2:IntKind.i64.wrap (j:Int)=(j:Int):=IntWalk.i64_in _ (by omega);have j0:(0:Int)≤(j:Int):=by omega
        have j1:(j:Int)<(l.length:Int):=by omega
        clear hk0;cases hc:Op.bytesLess l[j].path.toList l[k].path.toList
        ·have HR:=Ja (HNO.out (HE.out.trans (by rw[show bLt l[j].path l[k].path=false from hc,Bool.and_false])));go_wp2_with fail;have n0:=BelowW.nonempty wr;have e0:=BelowW.ex (w:=wr);have g_h0:=bwc h0;have g_h1:=bwc h1;have g_p0:=bwc p0;clear h0 h1 p0;refine Jf (by kernel_rfl) (by kernel_rfl) ?_
         repeat(go_big_quiet_step(first|(go_at_call 54;exact BelowW.calls _ (D1.out _))))
         refine wpQuiet_nil ?_;rintro _ ⟨⟨w1,hb1⟩,rfl⟩;have HB:=Ja (Below.t hbl hb1);clear hb1 e0 g_h0 g_h1 g_p0;go_wp2;go_ret;exact⟨Jc (HR.out).symm,HB.out⟩
        ·have HR:=Ja (HYES.out (HE.out.trans (by rw[show bLt l[j].path l[k].path=true from hc,HFO.out];rfl)));go_wp2_with fail;have n0:=BelowW.nonempty wr;have e0:=BelowW.ex (w:=wr);have g_h0:=bwc h0;have g_h1:=bwc h1;have g_p0:=bwc p0;clear h0 h1 p0;refine Jf (by kernel_rfl) (by kernel_rfl) ?_
         repeat(go_big_quiet_step(first|(go_at_call 54;exact BelowW.calls _ (D1.out _))))
         refine wpQuiet_nil ?_;rintro _ ⟨⟨w1,hb1⟩,rfl⟩;have HB:=Ja (Below.t hbl hb1);clear hb1 e0 g_h0 g_h1 g_p0;go_wp2;exact⟨⟨k+1,by omega,by go_num,HR.out,HB.out⟩,by simp[intOf];omega⟩
      ·have HR:=Ja (HNO.out (HNF.out (show Y3 l[k]=false by unfold Y3;rw[decide_eq_false hs,Bool.and_false])));have hs1:decide ((6:Int)<(l[k].bytes.size:Int))=true:=decide_eq_true (by omega);clear hs;go_wp2_with fail;have n0:=BelowW.nonempty wr;have e0:=BelowW.ex (w:=wr);have g_h0:=bwc h0;have g_h1:=bwc h1;clear h0 h1;refine Jf (by kernel_rfl) (by kernel_rfl) ?_
       repeat(go_big_quiet_step(first|(go_at_call 54;exact BelowW.calls _ (D1.out _))))
       refine wpQuiet_nil ?_;rintro _ ⟨⟨w1,hb1⟩,rfl⟩;have HB:=Ja (Below.t hbl hb1);clear hb1 e0 g_h0 g_h1;go_wp2;go_ret;exact⟨Jc (HR.out).symm,HB.out⟩
    ·have HR:=Ja (HNO.out (HNF.out (show Y3 l[k]=false by unfold Y3;rw[show decide (l[k].path=ByteArray.empty)=true from HQ.out.symm.trans hp];simp)));clear C1;go_wp2_with fail;have n0:=BelowW.nonempty wr;have e0:=BelowW.ex (w:=wr);have g_h0:=bwc h0;have g_h1:=bwc h1;clear h0 h1;refine Jf (by kernel_rfl) (by kernel_rfl) ?_
     repeat(go_big_quiet_step(first|(go_at_call 54;exact BelowW.calls _ (Y6 _ HG.out _))))
     refine wpQuiet_nil ?_;rintro _ ⟨⟨w1,hb1⟩,rfl⟩;have HB:=Ja (Below.t hbl hb1);clear hb1 e0 g_h0 g_h1;go_wp2;go_ret;exact⟨Jc (HR.out).symm,HB.out⟩
   ·have hk':k=l.length:=by omega
    subst hk';have HT:=Ja (jbu l);have HAA:=Ja HA.out.all_;have hbl0:=hbl;go_wp2
    go_loopw [4] (fun i wr=>∃k:Nat,k≤l.length+1∧1≤k∧i= .int .i64 k∧oksTo (jql l) k∧Below w.heap.size w wr) (fun i _=>l.length+1 - (intOf i).toNat)
    case atStart=>exact⟨1,by omega,by omega,rfl,oksTo_zero.next rfl,hbl0⟩
    case round=>
     obtain⟨k,hk,hk1,rfl,hag,hbl⟩:=hrel;have HA:=Ja hag;clear hag;by_cases hlt:k<l.length
     ·obtain⟨j,hkj⟩: ∃j,k=j+1:=⟨k - 1,by omega⟩;have hj:j<l.length:=by omega
      have HE:=Ja (jpp hlt hj hkj);obtain⟨b,o,rfl,hb,hm,h0,h1⟩:=Jx (hx.step hbl) hlt;obtain⟨b',o',he,hb',hm',p0,p1⟩:=Jx (hx.step hbl) hj;cases he;have HNO:=Ja (fun(h:jql l k=false)=>(show Y1 l=false by rw[HT.out,oksTo.not_ hlt h];simp));have HYES:=Ja (fun(h:jql l k=true)=>HA.out.next h);have i0:(0:Int)≤(k:Int):=by omega
      have i1:(k:Int)<(l.length:Int):=by omega
      have e1:(k:Int) - 1=(j:Int):=by omega
      have e2:IntKind.i64.wrap (j:Int)=(j:Int):=IntWalk.i64_in _ (by omega);have j0:(0:Int)≤(j:Int):=by omega
      have j1:(j:Int)<(l.length:Int):=by omega
      have C1:=jaa l[j].path l[k].path (HF.out j hj) (HF.out k hlt);clear hkj;cases hd:Jq l[j].path l[k].path
      ·have HR:=Ja (HYES.out (HE.out.trans (by rw[hd];rfl)));simp only[hd] at C1;have D1:=Ja C1;clear C1 hd;go_wp2_with fail;have n0:=BelowW.nonempty wr;have e0:=BelowW.ex (w:=wr);have g_h0:=bwc h0;have g_p0:=bwc p0;clear h0 p0;refine Jf (by kernel_rfl) (by kernel_rfl) ?_
       repeat(go_big_quiet_step(first|(go_at_call 124;exact BelowW.calls _ (D1.out _))))
       refine wpQuiet_nil ?_;rintro _ ⟨⟨w1,hb1⟩,rfl⟩;have HB:=Ja (Below.t hbl hb1);clear hb1 e0 g_h0 g_p0;go_wp2;exact⟨⟨k+1,by omega,by omega,by go_num,HR.out,HB.out⟩,by simp[intOf];omega⟩
      ·have HR:=Ja (HNO.out (HE.out.trans (by rw[hd];rfl)));simp only[hd] at C1;have D1:=Ja C1;clear C1 hd;go_wp2_with fail;have n0:=BelowW.nonempty wr;have e0:=BelowW.ex (w:=wr);have g_h0:=bwc h0;have g_p0:=bwc p0;clear h0 p0;refine Jf (by kernel_rfl) (by kernel_rfl) ?_
       repeat(go_big_quiet_step(first|(go_at_call 124;exact BelowW.calls _ (D1.out _))))
       refine wpQuiet_nil ?_;rintro _ ⟨⟨w1,hb1⟩,rfl⟩;have HB:=Ja (Below.t hbl hb1);clear hb1 e0 g_h0 g_p0;go_wp2;go_ret;exact⟨Jc (HR.out).symm,HB.out⟩
     ·have HR:=Ja (show Y1 l=true by rw[HT.out,HAA.out,decide_eq_true h60,Wq.2 (fun i hi=>HA.out i (by omega))];rfl);go_wp2;go_ret;exact⟨Jc HR.out.symm,hbl⟩
 ·have HR:=Ja (show Y1 l=false by rw[jbu,decide_eq_false h60];rfl);go_wp2;go_ret;exact⟨Jc HR.out.symm,Below.refl _ _⟩
theorem jbg {A:Option Addr} {n c:Nat} {l:List File} {fp:List Nat} (w:World) (hx:SlR Rp.file w A n c l fp) (hf:Vk l):
  Calls Tryz.prog 26 #[.slice A n c] w fun e w'=>e= .returned (.bool (Y1 l))∧Below w.heap.size w w':=by
 obtain⟨rfl,hcx,hmx,_⟩:=id hx;unfold maxLen at hmx;have HF:=Ja hf;clear hf;go_enter Tryz.func26,Tryz.ntmps26;by_cases h60:l.length≤60
 ·go_wp2
  go_loopw [12] (fun i wr=>∃k:Nat,k≤l.length∧i= .int .i64 k∧oksTo (fun i=>je7 l i&&jpl l i) k∧Below w.heap.size w wr) (fun i _=>l.length - (intOf i).toNat)
  case atStart=>exact⟨0,Nat.zero_le _,rfl,oksTo_zero,Below.refl _ _⟩
  case round=>
   obtain⟨k,hk,rfl,hag,hbl⟩:=hrel;have HA:=Ja hag;clear hag;by_cases hlt:k<l.length
   ·obtain⟨b,o,rfl,hb,hm,h0,h1⟩:=Jx (hx.step hbl) hlt;have HG:=Ja (HF.out k hlt);have HNO:=Ja (fun(h:je7 l k=false)=>(show Y1 l=false by rw[jbv,oksTo.not_ hlt (by rw[h,Bool.false_and])];simp));have H0:=Ja (fun(h:k=0)=>jls hlt h);have H1:=Ja (fun(j:Nat) (hj:j<l.length) (h:k=j+1)=>jlr hlt hj h)
    have HNF:=Ja (fun(h:Y3 l[k]=false)=>(show je7 l k=false by unfold je7;rw[Z7 hlt,h];rfl));have i0:(0:Int)≤(k:Int):=by omega
    have i1:(k:Int)<(l.length:Int):=by omega
    have C1:=X8 l[k].path HG.out;have HQ:=Ja (Ju l[k].path);have kb:=Blk.new wr 65 #[.string l[k].path,.string l[k].bytes];have hbl':=hbl.alloc hbl.size (.cells #[.string l[k].path,.string l[k].bytes] 65);go_wp2_with fail;clear h0 h1;generalize hwx:wr.alloc (.cells #[.string l[k].path,.string l[k].bytes] 65)=wx at kb hbl' ⊢;clear hwx;have h0:=Blk.c0 kb;have h1:=Blk.c1 kb
    cases hd:Xm l[k].path
    ·simp only[hd] at C1;have D1:=Ja C1;have HR:=Ja (HNO.out (HNF.out (show Y3 l[k]=false by unfold Y3;rw[hd];rfl)));clear C1 hd;have n0:=BelowW.nonempty wx;have e0:=BelowW.ex (w:=wx);have g_h0:=bwc h0;have g_h1:=bwc h1;clear h0 h1;refine Jf (by kernel_rfl) (by kernel_rfl) ?_
     repeat(go_big_quiet_step(first|(go_at_call 74;exact BelowW.calls _ (D1.out _))))
     refine wpQuiet_nil ?_;rintro _ ⟨⟨w1,hb1⟩,rfl⟩;have HB:=Ja (Below.t hbl' hb1);have HK:=Ja (kb.step hb1);clear kb hb1 e0 g_h0 g_h1;go_wp2;go_ret;exact⟨Jc (HR.out).symm,HB.out⟩
    ·simp only[hd] at C1;have D1:=Ja C1;have HD:=Ja hd;clear C1 hd;cases hp:l[k].path.toList.isEmpty
     ·have HP:=Ja (HQ.out.symm.trans hp);by_cases hs:l[k].bytes.size≤6
      ·have HFO:=Ja (show Y3 l[k]=true by unfold Y3;rw[HD.out,HP.out,decide_eq_true hs];rfl);have hs1:decide ((6:Int)<(l[k].bytes.size:Int))=false:=decide_eq_false (by omega);clear hs;rcases Nat.eq_zero_or_pos k with hk0|hk0
       ·have hz:decide (0<k)=false:=decide_eq_false (by omega);have HTA:=Ja ((H0.out hk0).trans HFO.out);clear hk0;have n0:=BelowW.nonempty wx;have e0:=BelowW.ex (w:=wx);have g_h0:=bwc h0;have g_h1:=bwc h1;clear h0 h1;refine Jf (by kernel_rfl) (by kernel_rfl) ?_
        repeat(go_big_quiet_step(first|(go_at_call 74;exact BelowW.calls _ (D1.out _))))
        refine wpQuiet_nil ?_;rintro _ ⟨⟨w1,hb1⟩,rfl⟩;have HB:=Ja (Below.t hbl' hb1);have HK:=Ja (kb.step hb1);clear kb hb1 e0 g_h0 g_h1;obtain⟨f,hxk,_⟩:=hx.take hk;have hc2:(k:Int)≤(c:Int):=by omega
        have HC:=Ja (jhb hlt);have hln:(l.take k).length=k:=by simp;omega
        have HLN:=Ja hln;have hbl1:=HB.out;have kb1:=HK.out;clear hln hbl hbl';go_wp2
        go_loopw [51] (fun i wr2=>∃q:Nat,q≤k∧i= .int .i64 q∧noneTo (fun g:File=>Jq g.path l[k].path) (l.take k) q∧Below w.heap.size w wr2∧Blk wr2 wr.heap.size 65 #[.string l[k].path,.string l[k].bytes]) (fun i _=>k - (intOf i).toNat)
        case atStart=>exact⟨0,Nat.zero_le _,rfl,Yh,hbl1,kb1⟩
        case round=>
         obtain⟨q,hq,rfl,hag2,hbl2,kb2⟩:=hrel;have HA2:=Ja hag2;clear hag2 hbl1 kb1;by_cases hlt2:q<k
         ·have hq2:q<l.length:=by omega
          obtain⟨b2,o2,he,hb2,hm2,p0,p1⟩:=Jx (hx.step hbl2) hq2;cases he;have HQ2:=Ja (show(l.take k)[q]'(by rw[HLN.out];exact hlt2)=l[q] from List.getElem_take);have HG2:=Ja (HF.out q hq2);have q0:(0:Int)≤(q:Int):=by omega
          have q1:(q:Int)<(k:Int):=by omega
          have kq:=Blk.new wr 65 #[.string l[q].path,.string l[q].bytes];have kb3:=kb2.alloc (.cells #[.string l[q].path,.string l[q].bytes] 65);have d0:_=some (Value.string l[k].path):=kb3.cell 0;have hbl3:=hbl2.alloc hbl2.size (.cells #[.string l[q].path,.string l[q].bytes] 65);go_wp2_with fail;refine(Wy _ _ HG2.out HG.out _).mono ?_;rintro e w2 ⟨rfl,hb3⟩
          have HB2:=Ja (hbl3.trans (hb3.mono hbl3.size));have HK2:=Ja (kb3.step hb3);clear hb3 hbl3 kb3 d0 kq p0 p1;cases hd2:Jq l[q].path l[k].path
          ·have HN:=Ja (HA2.out.next (p:=fun g:File=>Jq g.path l[k].path) (by rw[HLN.out];exact hlt2) (by rw[HQ2.out];exact hd2));clear hd2;go_wp2;exact⟨⟨q+1,by omega,by go_num,HN.out,HB2.out,HK2.out⟩,by simp[intOf];omega⟩
          ·have HR:=Ja (show Y1 l=false by rw[jbv,oksTo.not_ hlt (show(je7 l k&&jpl l k)=false by rw[HC.out,jda (p:=fun g:File=>Jq g.path l[k].path) (k:=q) (by rw[HLN.out];exact hlt2) (by rw[HQ2.out];exact hd2)];simp)];simp);clear hd2;go_wp2;go_ret;exact⟨Jc HR.out.symm,HB2.out⟩
         ·have hq':q=k:=by omega
          subst hq';have HN:=Ja (HA.out.next (f:=fun i=>je7 l i&&jpl l i) (show(je7 l q&&jpl l q)=true by rw[HTA.out,HC.out,show((l.take q).any fun g:File=>Jq g.path l[q].path)=false from noneTo.any_ (by rw[HLN.out];exact HA2.out)];rfl));clear kb2;go_wp2;exact⟨⟨q+1,by omega,by go_num,HN.out,hbl2⟩,by simp[intOf];omega⟩
       ·obtain⟨j,hk0⟩: ∃j,k=j+1:=⟨k - 1,by omega⟩;have hz:decide (0<k)=true:=decide_eq_true (by omega);have hj:j<l.length:=by omega
        have HE:=Ja (H1.out j hj hk0);obtain⟨b',o',he,hb',hm',p0,p1⟩:=Jx (hx.step hbl') hj;cases he;have e1:(k:Int) - 1=(j:Int):=by omega
        have e2:IntKind.i64.wrap (j:Int)=(j:Int):=IntWalk.i64_in _ (by omega);have j0:(0:Int)≤(j:Int):=by omega
        have j1:(j:Int)<(l.length:Int):=by omega
        clear hk0;cases hc:Op.bytesLess l[j].path.toList l[k].path.toList
        ·have HR:=Ja (HNO.out (HE.out.trans (by rw[show bLt l[j].path l[k].path=false from hc,Bool.and_false])));have hl1:=jl6 hc;have n0:=BelowW.nonempty wx;have e0:=BelowW.ex (w:=wx);have g_h0:=bwc h0;have g_h1:=bwc h1;have g_p0:=bwc p0;clear h0 h1 p0;refine Jf (by kernel_rfl) (by kernel_rfl) ?_
         repeat(go_big_quiet_step(first|(go_at_call 74;exact BelowW.calls _ (D1.out _))))
         refine wpQuiet_nil ?_;rintro _ ⟨⟨w1,hb1⟩,rfl⟩;have HB:=Ja (Below.t hbl' hb1);have HK:=Ja (kb.step hb1);clear kb hb1 e0 g_h0 g_h1 g_p0;go_wp2;go_ret;exact⟨Jc (HR.out).symm,HB.out⟩
        ·have HTA:=Ja (HE.out.trans (show _=true by rw[show bLt l[j].path l[k].path=true from hc,HFO.out];rfl));obtain⟨hl1,hl2⟩:=ji2 hc;have n0:=BelowW.nonempty wx;have e0:=BelowW.ex (w:=wx);have g_h0:=bwc h0;have g_h1:=bwc h1;have g_p0:=bwc p0;clear h0 h1 p0;refine Jf (by kernel_rfl) (by kernel_rfl) ?_
         repeat(go_big_quiet_step(first|(go_at_call 74;exact BelowW.calls _ (D1.out _))))
         refine wpQuiet_nil ?_;rintro _ ⟨⟨w1,hb1⟩,rfl⟩;have HB:=Ja (Below.t hbl' hb1);have HK:=Ja (kb.step hb1);clear kb hb1 e0 g_h0 g_h1 g_p0;clear hl1 hl2 hc e1 e2 j0 j1;obtain⟨f,hxk,_⟩:=hx.take hk;have hc2:(k:Int)≤(c:Int):=by omega
         have HC:=Ja (jhb hlt);have hln:(l.take k).length=k:=by simp;omega
         have HLN:=Ja hln;have hbl1:=HB.out;have kb1:=HK.out;clear hln hbl hbl';go_wp2
         go_loopw [51] (fun i wr2=>∃q:Nat,q≤k∧i= .int .i64 q∧noneTo (fun g:File=>Jq g.path l[k].path) (l.take k) q∧Below w.heap.size w wr2∧Blk wr2 wr.heap.size 65 #[.string l[k].path,.string l[k].bytes]) (fun i _=>k - (intOf i).toNat)
         case atStart=>exact⟨0,Nat.zero_le _,rfl,Yh,hbl1,kb1⟩
         case round=>
          obtain⟨q,hq,rfl,hag2,hbl2,kb2⟩:=hrel;have HA2:=Ja hag2;clear hag2 hbl1 kb1;by_cases hlt2:q<k
          ·have hq2:q<l.length:=by omega
           obtain⟨b2,o2,he,hb2,hm2,p0,p1⟩:=Jx (hx.step hbl2) hq2;cases he;have HQ2:=Ja (show(l.take k)[q]'(by rw[HLN.out];exact hlt2)=l[q] from List.getElem_take);have HG2:=Ja (HF.out q hq2);have q0:(0:Int)≤(q:Int):=by omega
           have q1:(q:Int)<(k:Int):=by omega
           have kq:=Blk.new wr 65 #[.string l[q].path,.string l[q].bytes];have kb3:=kb2.alloc (.cells #[.string l[q].path,.string l[q].bytes] 65);have d0:_=some (Value.string l[k].path):=kb3.cell 0;have hbl3:=hbl2.alloc hbl2.size (.cells #[.string l[q].path,.string l[q].bytes] 65);go_wp2_with fail;refine(Wy _ _ HG2.out HG.out _).mono ?_;rintro e w2 ⟨rfl,hb3⟩
           have HB2:=Ja (hbl3.trans (hb3.mono hbl3.size));have HK2:=Ja (kb3.step hb3);clear hb3 hbl3 kb3 d0 kq p0 p1;cases hd2:Jq l[q].path l[k].path
           ·have HN:=Ja (HA2.out.next (p:=fun g:File=>Jq g.path l[k].path) (by rw[HLN.out];exact hlt2) (by rw[HQ2.out];exact hd2));clear hd2;go_wp2;exact⟨⟨q+1,by omega,by go_num,HN.out,HB2.out,HK2.out⟩,by simp[intOf];omega⟩
           ·have HR:=Ja (show Y1 l=false by rw[jbv,oksTo.not_ hlt (show(je7 l k&&jpl l k)=false by rw[HC.out,jda (p:=fun g:File=>Jq g.path l[k].path) (k:=q) (by rw[HLN.out];exact hlt2) (by rw[HQ2.out];exact hd2)];simp)];simp);clear hd2;go_wp2;go_ret;exact⟨Jc HR.out.symm,HB2.out⟩
          ·have hq':q=k:=by omega
           subst hq';have HN:=Ja (HA.out.next (f:=fun i=>je7 l i&&jpl l i) (show(je7 l q&&jpl l q)=true by rw[HTA.out,HC.out,show((l.take q).any fun g:File=>Jq g.path l[q].path)=false from noneTo.any_ (by rw[HLN.out];exact HA2.out)];rfl));clear kb2;go_wp2;exact⟨⟨q+1,by omega,by go_num,HN.out,hbl2⟩,by simp[intOf];omega⟩
      ·have HR:=Ja (HNO.out (HNF.out (show Y3 l[k]=false by unfold Y3;rw[decide_eq_false hs,Bool.and_false])));have hs1:decide ((6:Int)<(l[k].bytes.size:Int))=true:=decide_eq_true (by omega);clear hs;have n0:=BelowW.nonempty wx;have e0:=BelowW.ex (w:=wx);have g_h0:=bwc h0;have g_h1:=bwc h1;clear h0 h1;refine Jf (by kernel_rfl) (by kernel_rfl) ?_
       repeat(go_big_quiet_step(first|(go_at_call 74;exact BelowW.calls _ (D1.out _))))
       refine wpQuiet_nil ?_;rintro _ ⟨⟨w1,hb1⟩,rfl⟩;have HB:=Ja (Below.t hbl' hb1);have HK:=Ja (kb.step hb1);clear kb hb1 e0 g_h0 g_h1;go_wp2;go_ret;exact⟨Jc (HR.out).symm,HB.out⟩
     ·have HR:=Ja (HNO.out (HNF.out (show Y3 l[k]=false by unfold Y3;rw[show decide (l[k].path=ByteArray.empty)=true from HQ.out.symm.trans hp];simp)));have n0:=BelowW.nonempty wx;have e0:=BelowW.ex (w:=wx);have g_h0:=bwc h0;have g_h1:=bwc h1;clear h0 h1;refine Jf (by kernel_rfl) (by kernel_rfl) ?_
      repeat(go_big_quiet_step(first|(go_at_call 74;exact BelowW.calls _ (D1.out _))))
      refine wpQuiet_nil ?_;rintro _ ⟨⟨w1,hb1⟩,rfl⟩;have HB:=Ja (Below.t hbl' hb1);have HK:=Ja (kb.step hb1);clear kb hb1 e0 g_h0 g_h1;go_wp2;go_ret;exact⟨Jc (HR.out).symm,HB.out⟩
   ·have hk':k=l.length:=by omega
    subst hk';have HR:=Ja (show Y1 l=true by rw[jbv,decide_eq_true h60,HA.out.all_];rfl);go_wp2;go_ret;exact⟨Jc HR.out.symm,hbl⟩
 ·have HR:=Ja (show Y1 l=false by rw[jbv,decide_eq_false h60];rfl);go_wp2;go_ret;exact⟨Jc HR.out.symm,Below.refl _ _⟩
structure jey (x:Ref):Prop where
 name:x.name.size≤4194304
 Vz: ∀i (h:i<x.Vz.length),Vk x.Vz[i]
structure jc7 (p:Xq):Prop where
 Uz:Ym p.Uz
 few:p.Fz.length≤4194304
 Fz: ∀i (h:i<p.Fz.length),jey p.Fz[i]
def V9 (m:Jl):Prop:=∀i (h:i<m.Rz.length),jc7 m.Rz[i]
def jgm (keys used:List Int) (i:Nat):Bool:=atB (fun n=>inB n 1 9999) keys i&&atB (fun n=>inB n 0 200) used i
theorem jg9 (keys used:List Int):usersOk keys used=(inB keys.length 1 4&&decide (used.length=keys.length)&&jd3 keys.length (jgm keys used)):=by
 by_cases h:used.length=keys.length
 ·have e:jd3 keys.length (jgm keys used)=((keys.all fun n=>inB n 1 9999)&&used.all fun n=>inB n 0 200):=by
   unfold jgm;rw[jbk,jal,←h,jal]
  rw[e];unfold usersOk;rw[Bool.and_assoc]
 ·unfold usersOk;rw[decide_eq_false h];simp
theorem jnw {keys used:List Int} {i:Nat} (h:i<keys.length) (h':i<used.length):jgm keys used i=(inB keys[i] 1 9999&&inB used[i] 0 200):=by
 unfold jgm;rw[Z7 h,Z7 h']
theorem jod {l:List Ref} {k:Nat} (h:k<l.length) (h0:k=0):jd8 l k=(Y5 l[k].name&&Xv l[k]):=by
 subst h0;exact jmp h
theorem joc {l:List Ref} {k j:Nat} (h:k<l.length) (h':j<l.length) (hj:k=j+1):jd8 l k=(Y5 l[k].name&&Xv l[k]&&bLt l[j].name l[k].name):=by
 subst hj;exact jmq h
theorem jkf (x:Ref):Xv x=(inB x.count 0 14&&inB x.Vz.length 1 3&&jd3 x.Vz.length (atB Y1 x.Vz)):=by
 rw[jal];rfl
theorem jfp (m:Jl):Ys m=(usersOk m.keys m.used&&inB m.Rz.length 1 3&&jd3 m.Rz.length (atB (repoOk m.keys.length) m.Rz)):=by
 rw[jal];rfl
theorem jor {cs:List Value} {x:Ref} {fx:List Nat} (w:World) (hx:Rp.ref.R w cs x fx) (hf:jey x):
  Calls Tryz.prog 108 #[.agg cs.toArray] w fun e w'=>e= .returned (.bool (Y5 x.name&&Xv x))∧Below w.heap.size w w':=by
 obtain⟨A0,n0,c0,f0,rfl,_,h0⟩:=hx;obtain rfl:=h0.1;have hmx:=h0.max;obtain⟨_,hcx,hmc,_⟩:=id h0;have HF:=Ja hf;have HS:=Ja (jkf x);clear hf;have kb:=Blk.new w 52 #[.string x.name,.bool x.guard,.int .i64 x.count,.slice A0 x.Vz.length c0];replace h0:=h0.allocN (.cells #[.string x.name,.bool x.guard,.int .i64 x.count,.slice A0 x.Vz.length c0] 52)
 have HB:=(Below.refl w.heap.size w).alloc nle (.cells #[.string x.name,.bool x.guard,.int .i64 x.count,.slice A0 x.Vz.length c0] 52);go_enter Tryz.func108,Tryz.ntmps108;go_wp2_with fail;refine(Vq x.name HF.out.name _).mono ?_;rintro e w1 ⟨rfl,hb⟩;replace kb:=kb.step hb;replace h0:=h0.step hb;replace HB:=Below.t HB hb;clear hb;cases hd:Y5 x.name
 ·have HR:=Ja (show(Y5 x.name&&Xv x)=false by rw[hd];rfl);clear kb h0 hd;go_wp2;go_ret;exact⟨Jc (HR.out).symm,HB⟩
 ·have HN0:=Ja hd;clear hd;have c2:=Blk.c2 kb;go_wp2_with fail;refine(Jw x.count 0 14 _).mono ?_;rintro e w2 ⟨rfl,hb⟩;replace kb:=kb.step hb;replace h0:=h0.step hb;replace HB:=Below.t HB hb;clear hb;clear c2;cases hd1:inB x.count 0 14
  ·have HR:=Ja (show(Y5 x.name&&Xv x)=false by rw[HN0.out,HS.out,hd1];rfl);clear kb h0 hd1;go_wp2;go_ret;exact⟨Jc (HR.out).symm,HB⟩
  ·have H1:=Ja hd1;clear hd1;have c3:=Blk.c3 kb;go_wp2_with fail;refine(Jw (x.Vz.length:Int) 1 3 _).mono ?_;rintro e w3 ⟨rfl,hb⟩;replace kb:=kb.step hb;replace h0:=h0.step hb;replace HB:=Below.t HB hb;clear hb;clear c3;cases hd2:inB (x.Vz.length:Int) 1 3
   ·have HR:=Ja (show(Y5 x.name&&Xv x)=false by rw[HN0.out,HS.out,hd2,Bool.and_false];rfl);clear kb h0 hd2;go_wp2;go_ret;exact⟨Jc (HR.out).symm,HB⟩
   ·have H2:=Ja hd2;clear hd2;have HSZ:=HB.size;go_wp2
    go_loopw [3] (fun i wr=>∃k:Nat,k≤x.Vz.length∧i= .int .i64 k∧oksTo (atB Y1 x.Vz) k∧Below w3.heap.size w3 wr) (fun i _=>x.Vz.length - (intOf i).toNat)
    case atStart=>exact⟨0,Nat.zero_le _,rfl,oksTo_zero,Below.refl _ _⟩
    case round=>
     obtain⟨k,hk,rfl,hag,hbl⟩:=hrel;have HA:=Ja hag;clear hag;have kr:=kb.step hbl;have h0r:=h0.step hbl;have c3:=Blk.c3 kr;by_cases hlt:k<x.Vz.length
     ·obtain⟨b,o,A1,n1,c1,f1,rfl,hb,hm,g0,hs1,hsub⟩:=Vv h0r hlt;obtain rfl:=hs1.1;have i0:(0:Int)≤(k:Int):=by omega
      have i1:(k:Int)<(x.Vz.length:Int):=by omega
      go_wp2_with fail;refine(jba _ hs1 (HF.out.Vz k hlt)).mono ?_;rintro e w4 ⟨rfl,hb4⟩;have hbl':=Below.t hbl hb4;have HE:=Ja (Z7 (p:=Y1) hlt);clear hb4 kr h0r g0 c3 hs1;cases hd:Y1 x.Vz[k]
      ·have HR:=Ja (show(Y5 x.name&&Xv x)=false by rw[HN0.out,HS.out,oksTo.not_ hlt (HE.out.trans hd)];simp);clear hd;go_wp2;go_ret;exact⟨Jc (HR.out).symm,HB.trans (hbl'.mono HSZ)⟩
      ·have HN:=Ja (HA.out.next (HE.out.trans hd));clear hd;go_wp2;exact⟨⟨k+1,by omega,by go_num,HN.out,hbl'⟩,by simp[intOf];omega⟩
     ·have hk':k=x.Vz.length:=by omega
      subst hk';have HR:=Ja (show(Y5 x.name&&Xv x)=true by rw[HN0.out,HS.out,H1.out,H2.out,HA.out.all_];rfl);have HBB:=Ja (HB.trans (hbl.mono HSZ));go_wp2;go_ret;exact⟨Jc (HR.out).symm,HBB.out⟩
theorem jm3 {cs:List Value} {x:Xq} {fx:List Nat} (u:Int) (w:World) (hx:Rp.repo.R w cs x fx) (hf:jc7 x):
  Calls Tryz.prog 50 #[.agg cs.toArray,.int .i64 u] w fun e w'=>e= .returned (.bool (repoOk u x))∧Below w.heap.size w w':=by
 obtain⟨A0,n0,c0,f0,A1,n1,c1,f1,rfl,_,h0,h1⟩:=hx;obtain rfl:=h0.1;obtain rfl:=h1.1;obtain⟨_,hcx,hmc,_⟩:=id h1;unfold maxLen at hmc;have HF:=Ja hf;have HS:=Ja (jip u x);clear hf;have kb:=Blk.new w 48 #[.int .i64 x.Az,.slice A0 x.Uz.length c0,.slice A1 x.Fz.length c1];replace h0:=h0.allocN (.cells #[.int .i64 x.Az,.slice A0 x.Uz.length c0,.slice A1 x.Fz.length c1] 48)
 replace h1:=h1.allocN (.cells #[.int .i64 x.Az,.slice A0 x.Uz.length c0,.slice A1 x.Fz.length c1] 48);have HB:=(Below.refl w.heap.size w).alloc nle (.cells #[.int .i64 x.Az,.slice A0 x.Uz.length c0,.slice A1 x.Fz.length c1] 48);go_enter Tryz.func50,Tryz.ntmps50;go_wp2_with fail;refine(Jw x.Az 1 u _).mono ?_;rintro e w1 ⟨rfl,hb⟩;replace kb:=kb.step hb
 replace h0:=h0.step hb;replace h1:=h1.step hb;replace HB:=Below.t HB hb;clear hb;cases hd:inB x.Az 1 u
 ·have HR:=Ja (show repoOk u x=false by rw[HS.out,hd];rfl);clear kb h0 h1 hd;go_wp2;go_ret;exact⟨Jc (HR.out).symm,HB⟩
 ·have H1:=Ja hd;clear hd;have c1:=Blk.c1 kb;go_wp2_with fail;refine(ja1 _ h0 HF.out.Uz).mono ?_;rintro e w2 ⟨rfl,hb⟩;replace kb:=kb.step hb;replace h0:=h0.step hb;replace h1:=h1.step hb;replace HB:=Below.t HB hb;clear hb;clear c1;cases hd:J5 x.Uz
  ·have HR:=Ja (show repoOk u x=false by rw[HS.out,hd];simp);clear kb h0 h1 hd;go_wp2;go_ret;exact⟨Jc (HR.out).symm,HB⟩
  ·have H2:=Ja hd;clear hd h0;have c2:=Blk.c2 kb;by_cases h3:x.Fz.length≤3
   ·have HSZ:=HB.size;go_wp2
    go_loopw [5] (fun i wr=>∃k:Nat,k≤x.Fz.length∧i= .int .i64 k∧oksTo (jd8 x.Fz) k∧Below w2.heap.size w2 wr) (fun i _=>x.Fz.length - (intOf i).toNat)
    case atStart=>exact⟨0,Nat.zero_le _,rfl,oksTo_zero,Below.refl _ _⟩
    case round=>
     clear c2;obtain⟨k,hk,rfl,hag,hbl⟩:=hrel;have HA:=Ja hag;clear hag;have kr:=kb.step hbl;have h1r:=h1.step hbl;have d2:=Blk.c2 kr;by_cases hlt:k<x.Fz.length
     ·obtain⟨b,o,A2,n2,c2,f2,rfl,hb,hm,q0,q1,q2,q3,hs2,hsub⟩:=J3 h1r hlt;obtain rfl:=hs2.1;have HG:=Ja (HF.out.Fz k hlt);have HNO:=Ja (fun(h:jd8 x.Fz k=false)=>(show repoOk u x=false by rw[HS.out,oksTo.not_ hlt h];simp));have H0:=Ja (fun(h:k=0)=>jod hlt h);have H10:=Ja (fun(j:Nat) (hj:j<x.Fz.length) (h:k=j+1)=>joc hlt hj h);have i0:(0:Int)≤(k:Int):=by omega
      have i1:(k:Int)<(x.Fz.length:Int):=by omega
      have C1:=fun W (h:Rp.ref.R W [.string x.Fz[k].name,.bool x.Fz[k].guard,.int .i64 x.Fz[k].count,.slice A2 x.Fz[k].Vz.length c2] x.Fz[k] f2)=>jor W h HG.out;cases hd:Y5 x.Fz[k].name&&Xv x.Fz[k]
      ·simp only[hd] at C1;have D1:=Ja C1;have HR:=Ja (HNO.out (show jd8 x.Fz k=false by unfold jd8;rw[Z7 hlt,hd];rfl));clear C1 hd;go_wp2_with fail;have n0:=BelowW.nonempty wr;have e0:=BelowW.ex (w:=wr);have g0:=bwc q0;have g1:=bwc q1;have g2:=bwc q2;have g3:=bwc q3;have g4:=bwc d2;clear q0 q1 q2 q3 d2;refine Jf (by kernel_rfl) (by kernel_rfl) ?_
       repeat(go_big_quiet_step(first|(go_at_call 108;exact BelowW.calls _ (D1.out _ ⟨_,_,_,_,rfl,rfl,BelowW.sl _ hs2⟩))))
       refine wpQuiet_nil ?_;rintro _ ⟨⟨w4,hb4⟩,rfl⟩;have hbl':=Ja (Below.t hbl hb4);clear hb4 e0 g0 g1 g2 g3 g4;go_wp2;go_ret;exact⟨Jc (HR.out).symm,HB.trans (hbl'.out.mono HSZ)⟩
      ·simp only[hd] at C1;have D1:=Ja C1;have HD:=Ja hd;clear C1 hd;rcases Nat.eq_zero_or_pos k with hk0|hk0
       ·have hz:decide (0<k)=false:=decide_eq_false (by omega);have HN:=Ja (HA.out.next ((H0.out hk0).trans HD.out));clear hk0;go_wp2_with fail;have n0:=BelowW.nonempty wr;have e0:=BelowW.ex (w:=wr);have g0:=bwc q0;have g1:=bwc q1;have g2:=bwc q2;have g3:=bwc q3;have g4:=bwc d2;clear q0 q1 q2 q3 d2;refine Jf (by kernel_rfl) (by kernel_rfl) ?_
        repeat(go_big_quiet_step(first|(go_at_call 108;exact BelowW.calls _ (D1.out _ ⟨_,_,_,_,rfl,rfl,BelowW.sl _ hs2⟩))))
        refine wpQuiet_nil ?_;rintro _ ⟨⟨w4,hb4⟩,rfl⟩;have hbl':=Ja (Below.t hbl hb4);clear hb4 e0 g0 g1 g2 g3 g4;go_wp2;exact⟨⟨k+1,by omega,by go_num,HN.out,hbl'.out⟩,by simp[intOf];omega⟩
       ·obtain⟨j,hk0⟩: ∃j,k=j+1:=⟨k - 1,by omega⟩;have hz:decide (0<k)=true:=decide_eq_true (by omega);have hj:j<x.Fz.length:=by omega
        have HE:=Ja (H10.out j hj hk0);obtain⟨b',o',_,_,_,_,he,hb',hm',p0,p1,p2,p3,_,_⟩:=J3 h1r hj;cases he;have e1:(k:Int) - 1=(j:Int):=by omega
        have e2:IntKind.i64.wrap (j:Int)=(j:Int):=IntWalk.i64_in _ (by omega);have j0:(0:Int)≤(j:Int):=by omega
        have j1:(j:Int)<(x.Fz.length:Int):=by omega
        clear hk0 p1 p2 p3;cases hc:Op.bytesLess x.Fz[j].name.toList x.Fz[k].name.toList
        ·have HR:=Ja (HNO.out (HE.out.trans (by rw[show bLt x.Fz[j].name x.Fz[k].name=false from hc,Bool.and_false])));go_wp2_with fail;have n0:=BelowW.nonempty wr;have e0:=BelowW.ex (w:=wr);have g0:=bwc q0;have g1:=bwc q1;have g2:=bwc q2;have g3:=bwc q3;have g4:=bwc d2;have g5:=bwc p0;clear p0;clear q0 q1 q2 q3 d2;refine Jf (by kernel_rfl) (by kernel_rfl) ?_
         repeat(go_big_quiet_step(first|(go_at_call 108;exact BelowW.calls _ (D1.out _ ⟨_,_,_,_,rfl,rfl,BelowW.sl _ hs2⟩))))
         refine wpQuiet_nil ?_;rintro _ ⟨⟨w4,hb4⟩,rfl⟩;have hbl':=Ja (Below.t hbl hb4);clear hb4 e0 g0 g1 g2 g3 g4;go_wp2;go_ret;exact⟨Jc (HR.out).symm,HB.trans (hbl'.out.mono HSZ)⟩
        ·have HN:=Ja (HA.out.next (HE.out.trans (by rw[show bLt x.Fz[j].name x.Fz[k].name=true from hc,HD.out];rfl)));go_wp2_with fail;have n0:=BelowW.nonempty wr;have e0:=BelowW.ex (w:=wr);have g0:=bwc q0;have g1:=bwc q1;have g2:=bwc q2;have g3:=bwc q3;have g4:=bwc d2;have g5:=bwc p0;clear p0;clear q0 q1 q2 q3 d2;refine Jf (by kernel_rfl) (by kernel_rfl) ?_
         repeat(go_big_quiet_step(first|(go_at_call 108;exact BelowW.calls _ (D1.out _ ⟨_,_,_,_,rfl,rfl,BelowW.sl _ hs2⟩))))
         refine wpQuiet_nil ?_;rintro _ ⟨⟨w4,hb4⟩,rfl⟩;have hbl':=Ja (Below.t hbl hb4);clear hb4 e0 g0 g1 g2 g3 g4;clear hc g5 e1 e2 j0 j1;go_wp2;exact⟨⟨k+1,by omega,by go_num,HN.out,hbl'.out⟩,by simp[intOf];omega⟩
     ·have hk':k=x.Fz.length:=by omega
      subst hk';have HR:=Ja (show repoOk u x=true by rw[HS.out,H1.out,H2.out,decide_eq_true h3,HA.out.all_];rfl);have HBB:=Ja (HB.trans (hbl.mono HSZ));go_wp2;go_ret;exact⟨Jc (HR.out).symm,HBB.out⟩
   ·have HR:=Ja (show repoOk u x=false by rw[HS.out,decide_eq_false h3];simp);clear kb h1;go_wp2;go_ret;exact⟨Jc (HR.out).symm,HB⟩
theorem jhe {cs:List Value} {x:Jl} {fx:List Nat} (w:World) (hx:Rp.house.R w cs x fx) (hf:V9 x):
  Calls Tryz.prog 12 #[.agg cs.toArray] w fun e w'=>e= .returned (.bool (Ys x))∧Below w.heap.size w w':=by
 obtain⟨A0,n0,c0,f0,A1,n1,c1,f1,A2,n2,c2,f2,rfl,_,h0,h1,h2⟩:=hx;obtain rfl:=h0.1;obtain rfl:=h1.1;obtain rfl:=h2.1;have hmx0:=h0.max;have hmx1:=h1.max;have hmx2:=h2.max;have HF:=Ja hf;have HS:=Ja (jfp x);have HU:=Ja (jg9 x.keys x.used);clear hf;have kb:=Blk.new w 26 #[.slice A0 x.keys.length c0,.slice A1 x.used.length c1,.slice A2 x.Rz.length c2]
 replace h0:=h0.allocN (.cells #[.slice A0 x.keys.length c0,.slice A1 x.used.length c1,.slice A2 x.Rz.length c2] 26);replace h1:=h1.allocN (.cells #[.slice A0 x.keys.length c0,.slice A1 x.used.length c1,.slice A2 x.Rz.length c2] 26);replace h2:=h2.allocN (.cells #[.slice A0 x.keys.length c0,.slice A1 x.used.length c1,.slice A2 x.Rz.length c2] 26)
 have HB:=(Below.refl w.heap.size w).alloc nle (.cells #[.slice A0 x.keys.length c0,.slice A1 x.used.length c1,.slice A2 x.Rz.length c2] 26);go_enter Tryz.func12,Tryz.ntmps12;go_wp2_with fail;refine(Jw (x.keys.length:Int) 1 4 _).mono ?_;rintro e w1 ⟨rfl,hb⟩;replace kb:=kb.step hb;replace h0:=h0.step hb;replace h1:=h1.step hb;replace h2:=h2.step hb;replace HB:=Below.t HB hb;clear hb
 have c0:=Blk.c0 kb;have c1:=Blk.c1 kb;have c2:=Blk.c2 kb;cases hd:inB (x.keys.length:Int) 1 4
 ·have HR:=Ja (show Ys x=false by rw[HS.out,HU.out,hd];rfl);clear hd;go_wp2;go_ret;exact⟨Jc (HR.out).symm,HB⟩
 ·have H1:=Ja hd;clear hd;by_cases hl:x.used.length=x.keys.length
  ·have hl1:((x.used.length:Int) !=(x.keys.length:Int))=false:=by simp[hl]
   have HL:=Ja hl;clear hl;go_wp2_with fail;refine(Jw (x.Rz.length:Int) 1 3 _).mono ?_;rintro e w2 ⟨rfl,hb⟩;replace kb:=kb.step hb;replace h0:=h0.step hb;replace h1:=h1.step hb;replace h2:=h2.step hb;replace HB:=Below.t HB hb;clear hb;clear c0 c1 c2;clear hl1;cases hd:inB (x.Rz.length:Int) 1 3
   ·have HR:=Ja (show Ys x=false by rw[HS.out,hd,Bool.and_false];rfl);clear hd;go_wp2;go_ret;exact⟨Jc (HR.out).symm,HB⟩
   ·have H3:=Ja hd;clear hd;have HSZ:=HB.size;have c0:=Blk.c0 kb;have c1:=Blk.c1 kb;have c2:=Blk.c2 kb;go_wp2
    go_loopw [3] (fun i wr=>∃k:Nat,k≤x.keys.length∧i= .int .i64 k∧oksTo (jgm x.keys x.used) k∧Below w2.heap.size w2 wr) (fun i _=>x.keys.length - (intOf i).toNat)
    case atStart=>exact⟨0,Nat.zero_le _,rfl,oksTo_zero,Below.refl _ _⟩
    case round=>
     clear c0 c1 c2;obtain⟨k,hk,rfl,hag,hbl⟩:=hrel;have HA:=Ja hag;clear hag;have kr:=kb.step hbl;have h0r:=h0.step hbl;have h1r:=h1.step hbl;have d0:=Blk.c0 kr;have d1:=Blk.c1 kr;have d2:=Blk.c2 kr;by_cases hlt:k<x.keys.length
     ·have hlt2:k<x.used.length:=by have:=HL.out;omega
      have HE:=Ja (jnw hlt hlt2);obtain⟨b,o,rfl,hb,hm,q0⟩:=Xg h0r hlt;obtain⟨b',o',rfl,hb',hm',p0⟩:=Xg h1r hlt2;have i0:(0:Int)≤(k:Int):=by omega
      have i1:(k:Int)<(x.keys.length:Int):=by omega
      have i2:(k:Int)<(x.used.length:Int):=by omega
      go_wp2_with fail;refine(Jw x.keys[k] 1 9999 _).mono ?_;rintro e w3 ⟨rfl,hb3⟩;have hbl':=Below.t hbl hb3;have d0':=Je d0 hb3;have d1':=Je d1 hb3;have p0':=Je p0 hb3;clear hb3 d0 d1 d2 q0 p0 kr h0r h1r;cases hd:inB x.keys[k] 1 9999
      ·have HR:=Ja (show Ys x=false by rw[HS.out,HU.out,oksTo.not_ hlt (HE.out.trans (by rw[hd];rfl))];simp);clear hd;go_wp2;go_ret;exact⟨Jc (HR.out).symm,HB.trans (hbl'.mono HSZ)⟩
      ·have HD:=Ja hd;clear hd;go_wp2_with fail;refine(Jw x.used[k] 0 200 _).mono ?_;rintro e w4 ⟨rfl,hb4⟩;have hbl2:=Below.t hbl' hb4;clear hb4 d0' d1' p0' hbl';cases hd:inB x.used[k] 0 200
       ·have HR:=Ja (show Ys x=false by rw[HS.out,HU.out,oksTo.not_ hlt (HE.out.trans (by rw[hd,Bool.and_false]))];simp);clear hd;go_wp2;go_ret;exact⟨Jc (HR.out).symm,HB.trans (hbl2.mono HSZ)⟩
       ·have HN:=Ja (HA.out.next (HE.out.trans (by rw[HD.out,hd];rfl)));clear hd;go_wp2;exact⟨⟨k+1,by omega,by go_num,HN.out,hbl2⟩,by simp[intOf];omega⟩
     ·have hk':k=x.keys.length:=by omega
      subst hk';have HUU:=Ja (show usersOk x.keys x.used=true by rw[HU.out,H1.out,decide_eq_true HL.out,HA.out.all_];rfl);have hbl0:=hbl;go_wp2
      go_loopw [4] (fun i wr=>∃k:Nat,k≤x.Rz.length∧i= .int .i64 k∧oksTo (atB (repoOk x.keys.length) x.Rz) k∧Below w2.heap.size w2 wr) (fun i _=>x.Rz.length - (intOf i).toNat)
      case atStart=>exact⟨0,Nat.zero_le _,rfl,oksTo_zero,hbl0⟩
      case round=>
       clear hbl hbl0 kr h0r h1r d0 d1 d2;obtain⟨k,hk,rfl,hag,hbl⟩:=hrel;clear HA;have HA:=Ja hag;clear hag;have kr:=kb.step hbl;have h2r:=h2.step hbl;have d0:=Blk.c0 kr;have d2:=Blk.c2 kr;by_cases hlt:k<x.Rz.length
       ·obtain⟨b,o,B0,m0,k0,g0,B1,m1,k1,g1,rfl,hb,hm,q0,q1,q2,hs0,hs1,hsub⟩:=J7 h2r hlt;have HE:=Ja (Z7 (p:=repoOk x.keys.length) hlt);have i0:(0:Int)≤(k:Int):=by omega
        have i1:(k:Int)<(x.Rz.length:Int):=by omega
        have C1:=fun W (h:Rp.repo.R W [.int .i64 x.Rz[k].Az,.slice B0 m0 k0,.slice B1 m1 k1] x.Rz[k] (g0++g1))=>jm3 (x.keys.length:Int) W h (HF.out k hlt);cases hd:repoOk x.keys.length x.Rz[k]
        ·have HR:=Ja (show Ys x=false by rw[HS.out,oksTo.not_ hlt (HE.out.trans hd)];simp);simp only[hd] at C1;have D1:=Ja C1;clear C1 hd;go_wp2_with fail;have n0:=BelowW.nonempty wr;have e0:=BelowW.ex (w:=wr);have g_0:=bwc q0;have g_1:=bwc q1;have g_2:=bwc q2;have g_3:=bwc d0;have g_4:=bwc d2;clear q0 q1 q2 d0 d2;refine Jf (by kernel_rfl) (by kernel_rfl) ?_
         repeat(go_big_quiet_step(first|(go_at_call 50;exact BelowW.calls _ (D1.out _ ⟨_,_,_,_,_,_,_,_,rfl,rfl,BelowW.sl _ hs0,BelowW.sl _ hs1⟩))))
         refine wpQuiet_nil ?_;rintro _ ⟨⟨w4,hb4⟩,rfl⟩;have hbl':=Ja (Below.t hbl hb4);clear hb4 e0 g_0 g_1 g_2 g_3 g_4;go_wp2;go_ret;exact⟨Jc (HR.out).symm,HB.trans (hbl'.out.mono HSZ)⟩
        ·have HN:=Ja (HA.out.next (HE.out.trans hd));simp only[hd] at C1;have D1:=Ja C1;clear C1 hd;go_wp2_with fail;have n0:=BelowW.nonempty wr;have e0:=BelowW.ex (w:=wr);have g_0:=bwc q0;have g_1:=bwc q1;have g_2:=bwc q2;have g_3:=bwc d0;have g_4:=bwc d2;clear q0 q1 q2 d0 d2;refine Jf (by kernel_rfl) (by kernel_rfl) ?_
         repeat(go_big_quiet_step(first|(go_at_call 50;exact BelowW.calls _ (D1.out _ ⟨_,_,_,_,_,_,_,_,rfl,rfl,BelowW.sl _ hs0,BelowW.sl _ hs1⟩))))
         refine wpQuiet_nil ?_;rintro _ ⟨⟨w4,hb4⟩,rfl⟩;have hbl':=Ja (Below.t hbl hb4);clear hb4 e0 g_0 g_1 g_2 g_3 g_4;go_wp2;exact⟨⟨k+1,by omega,by go_num,HN.out,hbl'.out⟩,by simp[intOf];omega⟩
       ·have hk':k=x.Rz.length:=by omega
        subst hk';have HR:=Ja (show Ys x=true by rw[HS.out,HUU.out,H3.out,HA.out.all_];rfl);have HBB:=Ja (HB.trans (hbl.mono HSZ));go_wp2;go_ret;exact⟨Jc (HR.out).symm,HBB.out⟩
  ·have hl1:((x.used.length:Int) !=(x.keys.length:Int))=true:=by simp;omega
   have HR:=Ja (show Ys x=false by rw[HS.out,HU.out,decide_eq_false hl];simp);clear hl;go_wp2;go_ret;exact⟨Jc (HR.out).symm,HB⟩
theorem jc4 {α:Type} (p:α→Bool) (l:List α):(!(l.any fun x=> !p x))=l.all p:=by
 induction l with
 |nil=>rfl
 |cons x l ih=>rw[List.any_cons,List.all_cons,Bool.not_or,Bool.not_not,ih]
def jd7 (u Az:Int) (Uz:List Yt) (names:List ByteArray):Bool:=jay names&&inB Az 1 u&&J5 Uz&&decide (names.length≤3)
theorem jlw (u:Int) (x:Xq):repoOk u x=(x.Fz.all Xv&&jd7 u x.Az x.Uz (x.Fz.map (·.name))):=by
 unfold repoOk jd7;rw[List.length_map];cases x.Fz.all Xv<;>simp
def jau (l:List Ref) (q:Nat):List Value:=((l.map (·.name)).take q).flatMap fun s=>[.string s]
theorem jhj (l:List Ref):jau l 0= []:=by simp[jau]
theorem jhk {l:List Ref} {q:Nat} (h:q<l.length):jau l (q+1)=jau l q++ [.string l[q].name]:=by
 unfold jau;rw[List.take_succ_eq_append_getElem (by simpa using h),List.flatMap_append,List.flatMap_singleton,List.getElem_map]
theorem jin (l:List Ref):jau l l.length=(l.map (·.name)).flatMap fun s=>[.string s]:=by
 unfold jau;rw[List.take_of_length_le (by simp)]
theorem jic (x:Int) (w:World):Calls Tryz.prog 117 #[.int .i64 x] w fun e w'=>e= .returned (.bool (!inB x 1 9999))∧Below w.heap.size w w':=by
 go_enter Tryz.func117,Tryz.ntmps117;go_wp2_with fail;refine(Y2 x 1 9999 _).mono ?_;rintro e w1 ⟨rfl,hb1⟩;go_wp2;go_ret;exact⟨rfl,hb1⟩
theorem jib (x:Int) (w:World):Calls Tryz.prog 118 #[.int .i64 x] w fun e w'=>e= .returned (.bool (!inB x 0 200))∧Below w.heap.size w w':=by
 go_enter Tryz.func118,Tryz.ntmps118;go_wp2_with fail;refine(Y2 x 0 200 _).mono ?_;rintro e w1 ⟨rfl,hb1⟩;go_wp2;go_ret;exact⟨rfl,hb1⟩
theorem jfy {A0 A1:Option Addr} {n0 n1 c0 c1:Nat} {keys used:List Int} {f0 f1:List Nat} (w:World) (h0:SlR Rp.int w A0 n0 c0 keys f0) (h1:SlR Rp.int w A1 n1 c1 used f1):
  Calls Tryz.prog 62 #[.slice A0 n0 c0,.slice A1 n1 c1] w fun e w'=>e= .returned (.bool (usersOk keys used))∧Below w.heap.size w w':=by
 obtain rfl:=h0.1;obtain rfl:=h1.1;have hmx0:=h0.max;have hmx1:=h1.max;have HB:=Below.refl w.heap.size w;have HU:=Ja (show usersOk keys used=(inB keys.length 1 4&&decide (used.length=keys.length)&&(!(keys.any fun n=> !inB n 1 9999))&&(!(used.any fun n=> !inB n 0 200))) by rw[jc4,jc4];rfl);go_enter Tryz.func62,Tryz.ntmps62;go_wp2_with fail
 refine(Y2 (keys.length:Int) 1 4 _).mono ?_;rintro e w1 ⟨rfl,hb⟩;replace h0:=h0.step hb;replace h1:=h1.step hb;replace HB:=Below.t HB hb;clear hb;cases hd:inB (keys.length:Int) 1 4
 ·have HR:=Ja (show usersOk keys used=false by rw[HU.out,hd];rfl);clear hd;go_wp2;go_ret;exact⟨Jc (HR.out).symm,HB⟩
 ·have H1:=Ja hd;clear hd;by_cases hl:used.length=keys.length
  ·have hl1:((used.length:Int)==(keys.length:Int))=true:=by simp[hl]
   have HL:=Ja hl;clear hl;go_wp2_with fail;refine(jg1 (l:=keys) (fun n=> !inB n 1 9999) 117 #[] (enters_of Tryz.func117 (by kernel_rfl) rfl) _ h0 (fun i hi v fq w2 hB hR=> ?_)).mono ?_
   ·obtain⟨hv,_⟩:=hR;obtain rfl:v= .int .i64 keys[i]:=by simpa using hv
    exact jic _ _
   rintro e w2 ⟨rfl,hb⟩;replace h1:=h1.step hb;replace HB:=Below.t HB hb;clear hb h0 hl1;cases hd:keys.any fun n=> !inB n 1 9999
   ·have H2:=Ja hd;clear hd;go_wp2_with fail;refine(jg1 (l:=used) (fun n=> !inB n 0 200) 118 #[] (enters_of Tryz.func118 (by kernel_rfl) rfl) _ h1 (fun i hi v fq w3 hB hR=> ?_)).mono ?_
    ·obtain⟨hv,_⟩:=hR;obtain rfl:v= .int .i64 used[i]:=by simpa using hv
     exact jib _ _
    rintro e w3 ⟨rfl,hb⟩;replace HB:=Below.t HB hb;clear hb h1;have HR:=Ja (show usersOk keys used= !(used.any fun n=> !inB n 0 200) by rw[HU.out,H1.out,decide_eq_true HL.out,H2.out];rfl);generalize(used.any fun n=> !inB n 0 200)=bb at HR ⊢;cases bb
    ·skip;go_wp2;go_ret;exact⟨Jc (HR.out).symm,HB⟩
    ·skip;go_wp2;go_ret;exact⟨Jc (HR.out).symm,HB⟩
   ·have HR:=Ja (show usersOk keys used=false by rw[HU.out,hd];simp);clear hd;go_wp2;go_ret;exact⟨Jc (HR.out).symm,HB⟩
  ·have hl1:((used.length:Int)==(keys.length:Int))=false:=by simp;omega
   have HR:=Ja (show usersOk keys used=false by rw[HU.out,decide_eq_false hl];simp);clear hl;go_wp2;go_ret;exact⟨Jc (HR.out).symm,HB⟩
theorem jgk {A0 A1:Option Addr} {n0 n1 c0 c1:Nat} {Uz:List Yt} {names:List ByteArray} {f0 f1:List Nat} (u Az:Int) (w:World) (h0:SlR Rp.rule w A0 n0 c0 Uz f0) (h1:SlR Rp.str w A1 n1 c1 names f1) (hr:Ym Uz) (hs: ∀i (h:i<names.length),names[i].size≤4194304):
  Calls Tryz.prog 66 #[.int .i64 u,.int .i64 Az,.slice A0 n0 c0,.slice A1 n1 c1] w fun e w'=>e= .returned (.bool (jd7 u Az Uz names))∧Below w.heap.size w w':=by
 obtain rfl:=h0.1;obtain rfl:=h1.1;have hmx:=h1.max;have HS:=Ja (jdk names);have HFR:=Ja hr;have HFS:=Ja hs;clear hr hs;go_enter Tryz.func66,Tryz.ntmps66;go_wp2
 go_loopw [13] (fun i wr=>∃k:Nat,k≤names.length∧i= .int .i64 k∧oksTo (jdl names) k∧Below w.heap.size w wr) (fun i _=>names.length - (intOf i).toNat)
 case atStart=>exact⟨0,Nat.zero_le _,rfl,oksTo_zero,Below.refl _ _⟩
 case round=>
  obtain⟨k,hk,rfl,hag,hbl⟩:=hrel;have HA:=Ja hag;clear hag;have h1r:=h1.step hbl;by_cases hlt:k<names.length
  ·obtain⟨b,o,rfl,hb,hm,q0⟩:=ja0 h1r hlt;have HNO:=Ja (fun(h:jdl names k=false)=>(show jd7 u Az Uz names=false by unfold jd7;rw[HS.out,oksTo.not_ hlt h];simp));have H0:=Ja (show jdl names k=(Y5 names[k]&&Xp bLt names k) by unfold jdl;rw[Z7 hlt]);have i0:(0:Int)≤(k:Int):=by omega
   have i1:(k:Int)<(names.length:Int):=by omega
   rcases Nat.eq_zero_or_pos k with hk0|hk0
   ·have hz:decide (0<k)=false:=decide_eq_false (by omega);have HST:=Ja (show Xp bLt names k=true by subst hk0;rfl);clear hk0;go_wp2_with fail;refine(Zj names[k] (HFS.out k hlt) _).mono ?_;rintro e w1 ⟨rfl,hb1⟩;have hbl':=Ja (Below.t hbl hb1);clear hb1 q0;cases hd:Y5 names[k]
    ·have HR:=Ja (HNO.out (by rw[H0.out,hd];rfl));clear hd;go_wp2;go_ret;exact⟨Jc (HR.out).symm,hbl'.out⟩
    ·have HD:=Ja hd;clear hd;have HN:=Ja (HA.out.next (show jdl names k=true by rw[H0.out,HD.out,HST.out];rfl));go_wp2;exact⟨⟨k+1,by omega,by go_num,HN.out,hbl'.out⟩,by simp[intOf];omega⟩
   ·obtain⟨j,hk0⟩: ∃j,k=j+1:=⟨k - 1,by omega⟩;have hz:decide (0<k)=true:=decide_eq_true (by omega);have hj:j<names.length:=by omega
    have HST:=Ja (show Xp bLt names k=bLt names[j] names[k] by subst hk0;exact W6 hlt);obtain⟨b',o',he,hb',hm',p0⟩:=ja0 h1r hj;cases he;have e1:(k:Int) - 1=(j:Int):=by omega
    have e2:IntKind.i64.wrap (j:Int)=(j:Int):=IntWalk.i64_in _ (by omega);have j0:(0:Int)≤(j:Int):=by omega
    have j1:(j:Int)<(names.length:Int):=by omega
    clear hk0;go_wp2_with fail;refine(Zj names[k] (HFS.out k hlt) _).mono ?_;rintro e w1 ⟨rfl,hb1⟩;have hbl':=Ja (Below.t hbl hb1);have p1:=Je p0 hb1;clear hb1 q0 p0;cases hd:Y5 names[k]
    ·have HR:=Ja (HNO.out (by rw[H0.out,hd];rfl));clear hd;go_wp2;go_ret;exact⟨Jc (HR.out).symm,hbl'.out⟩
    ·have HD:=Ja hd;clear hd;cases hc:Op.bytesLess names[j].toList names[k].toList
     ·have HR:=Ja (HNO.out (by rw[H0.out,HST.out,show bLt names[j] names[k]=false from hc,Bool.and_false]));have hl1:=jl6 hc;clear hc;go_wp2;go_ret;exact⟨Jc (HR.out).symm,hbl'.out⟩
     ·have HN:=Ja (HA.out.next (show jdl names k=true by rw[H0.out,HD.out,HST.out,show bLt names[j] names[k]=true from hc];rfl));obtain⟨hl1,hl2⟩:=ji2 hc;clear hc;go_wp2;exact⟨⟨k+1,by omega,by go_num,HN.out,hbl'.out⟩,by simp[intOf];omega⟩
  ·have hk':k=names.length:=by omega
   subst hk';have HNN:=Ja (show jay names=true by rw[HS.out];exact HA.out.all_);have h0r:=h0.step hbl;go_wp2_with fail;refine(Y2 Az 1 u _).mono ?_;rintro e w1 ⟨rfl,hb1⟩;have hbl':=Below.t hbl hb1;replace h0r:=h0r.step hb1;clear hb1;cases hd:inB Az 1 u
   ·have HR:=Ja (show jd7 u Az Uz names=false by unfold jd7;rw[hd];simp);clear hd;go_wp2;go_ret;exact⟨Jc (HR.out).symm,hbl'⟩
   ·have H1:=Ja hd;clear hd;go_wp2_with fail;refine(ja4 _ h0r HFR.out).mono ?_;rintro e w2 ⟨rfl,hb2⟩;have hbl2:=Below.t hbl' hb2;clear hb2;cases hd:J5 Uz
    ·have HR:=Ja (show jd7 u Az Uz names=false by unfold jd7;rw[hd];simp);clear hd;go_wp2;go_ret;exact⟨Jc (HR.out).symm,hbl2⟩
    ·have H2:=Ja hd;clear hd;have HR:=Ja (show jd7 u Az Uz names=decide ((names.length:Int)≤3) by unfold jd7;rw[HNN.out,H1.out,H2.out];simp only[Bool.true_and];exact decide_eq_decide.2 (by omega));go_wp2;go_ret;exact⟨Jc (HR.out).symm,hbl2⟩
theorem jmy {A:Option Addr} {n c:Nat} {l:List File} {fp:List Nat} (w:World) (hx:SlR Rp.file w A n c l fp) (hf:Vk l):Calls Tryz.prog 65 #[.slice A n c] w fun e w'=>e= .returned (.bool (!Y1 l))∧Below w.heap.size w w':=by
 obtain rfl:=hx.1;go_enter Tryz.func65,Tryz.ntmps65;go_wp2_with fail;refine(jbg _ hx hf).mono ?_;rintro e w1 ⟨rfl,hb1⟩;go_wp2;go_ret;exact⟨rfl,hb1⟩
theorem jhy {cs:List Value} {x:Jl} {fx:List Nat} (w:World) (hx:Rp.house.R w cs x fx) (hf:V9 x):
  Calls Tryz.prog 19 #[.agg cs.toArray] w fun e w'=>e= .returned (.bool (Ys x))∧Below w.heap.size w w':=by
 obtain⟨A0,n0,c0,f0,A1,n1,c1,f1,A2,n2,c2,f2,rfl,_,h0,h1,h2⟩:=hx;obtain rfl:=h0.1;obtain rfl:=h1.1;obtain rfl:=h2.1;have hmx0:=h0.max;have hmx2:=h2.max;have HF:=Ja hf;have HS:=Ja (jfp x);clear hf;obtain⟨i0,hi,hz0,hz1,hz2⟩:=info_parts Tryz.infoStr;have kb:=Blk.new w 26 #[.slice A0 x.keys.length c0,.slice A1 x.used.length c1,.slice A2 x.Rz.length c2]
 replace h0:=h0.allocN (.cells #[.slice A0 x.keys.length c0,.slice A1 x.used.length c1,.slice A2 x.Rz.length c2] 26);replace h1:=h1.allocN (.cells #[.slice A0 x.keys.length c0,.slice A1 x.used.length c1,.slice A2 x.Rz.length c2] 26);replace h2:=h2.allocN (.cells #[.slice A0 x.keys.length c0,.slice A1 x.used.length c1,.slice A2 x.Rz.length c2] 26)
 have HB:=(Below.refl w.heap.size w).alloc nle (.cells #[.slice A0 x.keys.length c0,.slice A1 x.used.length c1,.slice A2 x.Rz.length c2] 26);go_enter Tryz.func19,Tryz.ntmps19;go_wp2_with fail;refine(jfy _ h0 h1).mono ?_;rintro e w1 ⟨rfl,hb⟩;replace kb:=kb.step hb;replace h2:=h2.step hb;replace HB:=Below.t HB hb;clear hb;clear h0 h1;cases hd:usersOk x.keys x.used
 ·have HR:=Ja (show Ys x=false by rw[HS.out,hd];rfl);clear hd;go_wp2;go_ret;exact⟨Jc (HR.out).symm,HB⟩
 ·have H1:=Ja hd;clear hd;have c2:=Blk.c2 kb;go_wp2_with fail;refine(Y2 (x.Rz.length:Int) 1 3 _).mono ?_;rintro e w2 ⟨rfl,hb⟩;replace kb:=kb.step hb;replace h2:=h2.step hb;replace HB:=Below.t HB hb;clear hb;clear c2;cases hd:inB (x.Rz.length:Int) 1 3
  ·have HR:=Ja (show Ys x=false by rw[HS.out,hd,Bool.and_false];rfl);clear hd;go_wp2;go_ret;exact⟨Jc (HR.out).symm,HB⟩
  ·have H3:=Ja hd;clear hd;have HSZ:=HB.size;have c2:=Blk.c2 kb;go_wp2
   go_loopw [24] (fun i wr=>∃k:Nat,k≤x.Rz.length∧i= .int .i64 k∧oksTo (atB (repoOk x.keys.length) x.Rz) k∧Below w2.heap.size w2 wr) (fun i _=>x.Rz.length - (intOf i).toNat)
   case atStart=>exact⟨0,Nat.zero_le _,rfl,oksTo_zero,Below.refl _ _⟩
   case round=>
    clear c2;obtain⟨k,hk,rfl,hag,hbl⟩:=hrel;have HA:=Ja hag;clear hag;have kr:=kb.step hbl;have h2r:=h2.step hbl;by_cases hlt:k<x.Rz.length
    ·obtain⟨b,o,B0,m0,k0,g0,B1,m1,k1,g1,rfl,hb,hm,q0,q1,q2,hs0,hs1,hsub⟩:=J7 h2r hlt;obtain rfl:=hs0.1;obtain rfl:=hs1.1;have hmx1:=(HF.out k hlt).few;have HE:=Ja (Z7 (p:=repoOk x.keys.length) hlt);have HG:=Ja (HF.out k hlt);have i1:(k:Int)<(x.Rz.length:Int):=by omega
     have HNO:=Ja (fun(h:repoOk x.keys.length x.Rz[k]=false)=>(show Ys x=false by rw[HS.out,oksTo.not_ hlt (HE.out.trans h)];simp));have HYES:=Ja (fun(h:repoOk x.keys.length x.Rz[k]=true)=>HA.out.next (HE.out.trans h));generalize x.Rz[k]=y at q0 q1 q2 hs0 hs1 hmx1 HG HNO HYES;clear HE;have kp:=Blk.new wr 48 #[.int .i64 y.Az,.slice B0 y.Uz.length k0,.slice B1 y.Fz.length k1]
     replace hs0:=hs0.allocN (.cells #[.int .i64 y.Az,.slice B0 y.Uz.length k0,.slice B1 y.Fz.length k1] 48);replace hs1:=hs1.allocN (.cells #[.int .i64 y.Az,.slice B0 y.Uz.length k0,.slice B1 y.Fz.length k1] 48);replace kr:=kr.alloc (.cells #[.int .i64 y.Az,.slice B0 y.Uz.length k0,.slice B1 y.Fz.length k1] 48)
     have hbl':=hbl.alloc hbl.size (.cells #[.int .i64 y.Az,.slice B0 y.Uz.length k0,.slice B1 y.Fz.length k1] 48);go_wp2;clear q0 q1 q2 h2r;obtain⟨R0,hR0⟩: ∃r,wr.heap.size=r:=⟨_,rfl⟩;generalize hwx:wr.alloc (.cells #[.int .i64 y.Az,.slice B0 y.Uz.length k0,.slice B1 y.Fz.length k1] 48)=wx at kp hs0 hs1 kr hbl' ⊢;clear hwx;simp only[hR0] at kp ⊢;clear hR0 hbl;have hsz:=hbl'.size
     go_loopw [5,31] (fun v i wr=>∃q:Nat,q≤y.Fz.length∧i= .int .i64 q∧oksTo (atB Xv y.Fz) q∧wr.ownsRow wx.heap.size 9 1 v q (jau y.Fz q)∧Below wx.heap.size wx wr) (fun _ i _=>y.Fz.length - (intOf i).toNat)
     case atStart=>exact⟨0,Nat.zero_le _,rfl,oksTo_zero,by rw[jhj];exact World.ownsRow_nil _ _ _ _,Below.refl _ _⟩
     case round=>
      obtain⟨q,hq,rfl,hag2,hown,hbl2⟩:=hrel;have HA2:=Ja hag2;clear hag2;have hs1r:=hs1.step hbl2;by_cases hlt2:q<y.Fz.length
      ·obtain⟨b2,o2,A3,n3,c3,f3,rfl,hb2,hm2,r0,r1,r2,r3,hs3,hsub3⟩:=J3 hs1r hlt2;obtain rfl:=hs3.1;have hmx3:=hs3.max;have HE2:=Ja (Z7 (p:=Xv) hlt2);have HGQ:=Ja (HG.out.Fz q hlt2);have HRN:=Ja (jhk hlt2);have hf3: ∀z∈f3,z<wx.heap.size:=fun z hz=>hs1.lt z (hsub3 z hz)
       have HNO2:=Ja (fun(h:Xv y.Fz[q]=false)=>HNO.out (show repoOk x.keys.length y=false by rw[jlw,←jal,oksTo.not_ hlt2 (HE2.out.trans h)];rfl));have HYES2:=Ja (fun(h:Xv y.Fz[q]=true)=>HA2.out.next (HE2.out.trans h));have q1:(q:Int)<(y.Fz.length:Int):=by omega
       generalize y.Fz[q]=z at r0 r1 r2 r3 hs3 hmx3 HGQ HNO2 HYES2 HRN;clear HE2;have kq:=Blk.new wr 52 #[.string z.name,.bool z.guard,.int .i64 z.count,.slice A3 z.Vz.length c3]
       have hbz:=((Below.refl wx.heap.size wr).alloc hbl2.size (.cells #[.string z.name,.bool z.guard,.int .i64 z.count,.slice A3 z.Vz.length c3] 52)).alloc (show wx.heap.size≤_ by have:=hbl2.size;simp;omega) (.cells #[.string z.name] 9)
       go_wp2_with(at_builtin;refine wpList_append_own _ rfl _ _ 35 rfl wx.heap.size 9 i0 _ 1 16 Tryz.underlying35 hi hz0 hz1 hz2 rfl (by decide) _ _ _ rfl ((hown.alloc _).alloc _) ⟨wr.heap.size+1,0,none⟩ 1 1 [.string z.name] rfl rfl (jkl (by simp) [.string z.name] _) (by simp;rfl) (by unfold maxLen;omega) (by omega) (by have:=hbl2.size;simp;omega) ?_);intro v' w5 hown' hgrow _
       have hlow:Below wx.heap.size wr w5:=hbz.grown hgrow (by have:=hbl2.size;simp;omega) (fun j hj=>(hown.lt j hj).1);replace kq:=(kq.alloc (.cells #[.string z.name] 9)).grown hgrow (fun j hj=>by have:=(hown.lt j hj).2;omega);replace hs3:=hs3.keep fun a ha=>hlow.block a (hf3 a ha);have hbl5:=hbl2.trans hlow;clear hgrow hbz hlow r0 r1 r2 r3 hown hs1r;have u2:=Blk.c2 kq;have u3:=Blk.c3 kq
       go_wp2_with fail;refine(Y2 z.count 0 14 _).mono ?_;rintro e w6 ⟨rfl,hb⟩;replace hown':=Yx hown' hb;replace kq:=kq.step hb;replace hs3:=hs3.step hb;replace hbl5:=Below.trans hbl5 (hb.mono hbl5.size);clear hb u2 u3;cases hd:inB z.count 0 14
       ·have HR:=Ja (HNO2.out (show Xv z=false by unfold Xv;rw[hd];rfl));clear hd;have HBB:=Ja (HB.trans ((hbl'.trans (hbl5.mono hsz)).mono HSZ));go_wp2;go_ret;exact⟨Jc (HR.out).symm,HBB.out⟩
       ·have G1:=Ja hd;clear hd;have u3:=Blk.c3 kq;go_wp2_with fail;refine(Y2 (z.Vz.length:Int) 1 3 _).mono ?_;rintro e w7 ⟨rfl,hb⟩;replace hown':=Yx hown' hb;replace kq:=kq.step hb;replace hs3:=hs3.step hb;replace hbl5:=Below.trans hbl5 (hb.mono hbl5.size);clear hb u3;cases hd:inB (z.Vz.length:Int) 1 3
        ·have HR:=Ja (HNO2.out (show Xv z=false by unfold Xv;rw[hd,Bool.and_false];rfl));clear hd;have HBB:=Ja (HB.trans ((hbl'.trans (hbl5.mono hsz)).mono HSZ));go_wp2;go_ret;exact⟨Jc (HR.out).symm,HBB.out⟩
        ·have G2:=Ja hd;clear hd;have u3:=Blk.c3 kq;go_wp2_with fail;refine(jjh (l:=z.Vz) (fun l=> !Y1 l) 65 #[] (enters_of Tryz.func65 (by kernel_rfl) rfl) _ hs3 (fun i hi v fq w8 hB hR=> ?_)).mono ?_
         ·obtain⟨A9,n9,c9,hv,hs9⟩:=hR;obtain rfl:v= .slice A9 n9 c9:=by simpa using hv
          exact jmy _ hs9 (HGQ.out.Vz i hi)
         rintro e w8 ⟨rfl,hb⟩;replace hown':=Yx hown' hb;replace hbl5:=Below.trans hbl5 (hb.mono hbl5.size);clear hb u3 kq hs3;have HV:=Ja (show Xv z= !(z.Vz.any fun l=> !Y1 l) by rw[jc4];unfold Xv;rw[G1.out,G2.out];rfl);generalize(z.Vz.any fun l=> !Y1 l)=bb at HV ⊢;cases bb
         ·have HN:=Ja (HYES2.out HV.out);rw[←HRN.out] at hown';have HO:=Ja hown';clear hown';go_wp2;exact⟨⟨q+1,by omega,by go_num,HN.out,HO.out,hbl5⟩,by simp[intOf];omega⟩
         ·have HR:=Ja (HNO2.out HV.out);have HBB:=Ja (HB.trans ((hbl'.trans (hbl5.mono hsz)).mono HSZ));clear hown';go_wp2;go_ret;exact⟨Jc (HR.out).symm,HBB.out⟩
      ·have hq':q=y.Fz.length:=by omega
       subst hq';have HOW:=Ja (show wr.ownsRow wx.heap.size 9 1 _ (y.Fz.map (·.name)).length ((y.Fz.map (·.name)).flatMap fun s=>[.string s]) by rw[List.length_map,←jin];exact hown);obtain⟨A7,c7,f7,hv7,hs7⟩:=own_str HOW.out;rw[List.length_map] at hv7 hs7;subst hv7;clear hown HOW
       have HZ:=Ja (show ∀i (h:i<(y.Fz.map Ref.name).length),(y.Fz.map Ref.name)[i].size≤4194304 from fun i hi=>by rw[List.getElem_map];exact(HG.out.Fz i (by simpa using hi)).name);replace kr:=kr.step hbl2;replace kp:=kp.step hbl2;replace hs0:=hs0.step hbl2;have u0:=Blk.c0 kr;have t0:=Blk.c0 kp;have t1:=Blk.c1 kp;go_wp2_with fail
       refine(jgk (x.keys.length:Int) y.Az _ hs0 hs7 HG.out.Uz HZ.out).mono ?_;rintro e w9 ⟨rfl,hb⟩;have HBB:=Ja (hbl'.trans ((hbl2.trans (hb.mono hbl2.size)).mono hsz));clear hb u0 t0 t1;have HV:=Ja (show repoOk x.keys.length y=jd7 x.keys.length y.Az y.Uz (y.Fz.map (·.name)) by rw[jlw,←jal,HA2.out.all_];rfl)
       generalize jd7 x.keys.length y.Az y.Uz (y.Fz.map (·.name))=bb at HV ⊢;cases bb
       ·have HR:=Ja (HNO.out HV.out);have HBC:=Ja (HB.trans (HBB.out.mono HSZ));go_wp2;go_ret;exact⟨Jc (HR.out).symm,HBC.out⟩
       ·have HN:=Ja (HYES.out HV.out);go_wp2;exact⟨⟨k+1,by omega,by go_num,HN.out,HBB.out⟩,by simp[intOf];omega⟩
    ·have hk':k=x.Rz.length:=by omega
     subst hk';have HR:=Ja (show Ys x=true by rw[HS.out,H1.out,H3.out,HA.out.all_];rfl);have HBB:=Ja (HB.trans (hbl.mono HSZ));go_wp2;go_ret;exact⟨Jc (HR.out).symm,HBB.out⟩
def Xx (name:ByteArray) (x:Ref):Bool:=decide (x.name=name)
theorem Zu {α:Type} (q:α→Bool) (l:List α):(l.findIdx? q=none∧jd4 q l= -1)∨∃k,l.findIdx? q=some k∧k<l.length∧jd4 q l=k:=by
 unfold jd4;cases h:l.findIdx? q with
 |none=>exact .inl ⟨rfl,rfl⟩
 |some k=>exact .inr ⟨k,rfl,(List.findIdx?_eq_some_iff_getElem.1 h).1,rfl⟩
theorem jj2 {vs:List (List File)} {b:Int} (h:b<0):version vs b=none:=by unfold version;rw[if_neg (by omega)]
theorem ja6 {vs:List (List File)} {b:Int} (h:(vs.length:Int)≤b):version vs b=none:=by unfold version;rw[if_neg (by omega)]
theorem jaz {vs:List (List File)} {b:Int} {j:Nat} (h0:0≤b) (h:(j:Int)=vs.length - 1 - b) (hj:j<vs.length):version vs b=some vs[j]:=by
 unfold version;rw[if_pos (by omega),show vs.length - 1 - b.toNat=j by omega];exact List.getElem?_eq_getElem hj
theorem jk3 {m:Jl} {repo back:Int} {name:ByteArray} (h:inB repo 0 ((m.Rz.length:Int) - 1)=false):Xn m repo name back=none:=by
 unfold Xn;by_cases h0:0≤repo
 ·rw[if_pos h0];have: ¬repo.toNat<m.Rz.length:=fun hc=>by
   have:inB repo 0 ((m.Rz.length:Int) - 1)=true:=by simp[inB];omega
   rw[this] at h;cases h
  rw[List.getElem?_eq_none (by omega)]
 ·rw[if_neg h0]
theorem je0 {m:Jl} {i:Nat} {repo back:Int} {name:ByteArray} (hr:repo=i) (hi:i<m.Rz.length) (h:m.Rz[i].Fz.findIdx? (Xx name)=none):Xn m repo name back=none:=by
 subst hr;unfold Xn;rw[if_pos (by omega),Int.toNat_natCast,List.getElem?_eq_getElem hi];simp only;rw[show Y7 m.Rz[i].Fz name=none from h]
theorem jez {m:Jl} {i k:Nat} {repo back:Int} {name:ByteArray} (hr:repo=i) (hi:i<m.Rz.length) (hk:k<m.Rz[i].Fz.length) (h:m.Rz[i].Fz.findIdx? (Xx name)=some k):Xn m repo name back=version m.Rz[i].Fz[k].Vz back:=by
 subst hr;unfold Xn;rw[if_pos (by omega),Int.toNat_natCast,List.getElem?_eq_getElem hi];simp only;rw[show Y7 m.Rz[i].Fz name=some k from h];simp only;rw[J4 hk]
def jpj (w:World) (o:Option (List File)) (f0:List Nat) (e:Ending) (w':World):Prop:=
 ∃A n c f,e= .returned (.tuple #[.slice A n c,.bool o.isSome])∧SlR Rp.file w' A n c (o.getD []) f∧(∀z∈f,z∈f0)∧Below w.heap.size w w'
theorem jbd {cs:List Value} {x:Xq} {fx:List Nat} (name:ByteArray) (w:World) (hx:Rp.repo.R w cs x fx):
  Calls Tryz.prog 71 #[.agg cs.toArray,.string name] w fun e w'=>e= .returned (.int .i64 (jd4 (Xx name) x.Fz))∧Below w.heap.size w w':=by
 obtain⟨A0,n0,c0,f0,A1,n1,c1,f1,rfl,_,h0,h1⟩:=hx;obtain rfl:=h1.1;have hmx:=h1.max;have kb:=Blk.new w 48 #[.int .i64 x.Az,.slice A0 n0 c0,.slice A1 x.Fz.length c1];replace h1:=h1.allocN (.cells #[.int .i64 x.Az,.slice A0 n0 c0,.slice A1 x.Fz.length c1] 48);have HB:=(Below.refl w.heap.size w).alloc nle (.cells #[.int .i64 x.Az,.slice A0 n0 c0,.slice A1 x.Fz.length c1] 48)
 have HSZ:=HB.size;go_enter Tryz.func71,Tryz.ntmps71;go_wp2;generalize hwx:w.alloc (.cells #[.int .i64 x.Az,.slice A0 n0 c0,.slice A1 x.Fz.length c1] 48)=wx at kb h1 HB HSZ ⊢;clear hwx
 go_loopw [5] (fun i wr=>∃k:Nat,k≤x.Fz.length∧i= .int .i64 k∧noneTo (Xx name) x.Fz k∧Below wx.heap.size wx wr) (fun i _=>x.Fz.length - (intOf i).toNat)
 case atStart=>exact⟨0,Nat.zero_le _,rfl,Yh,Below.refl _ _⟩
 case round=>
  obtain⟨k,hk,rfl,hag,hbl⟩:=hrel;have HA:=Ja hag;clear hag;have kr:=kb.step hbl;have c2:=Blk.c2 kr;by_cases hlt:k<x.Fz.length
  ·obtain⟨b,o,A3,n3,c3,f3,rfl,hb,hm,r0,r1,r2,r3,_,_⟩:=J3 (h1.step hbl) hlt;have i0:(0:Int)≤(k:Int):=by omega
   have i1:(k:Int)<(x.Fz.length:Int):=by omega
   have hq:=Jr x.Fz[k].name name;clear r1 r2 r3;cases hd:decide (x.Fz[k].name=name)
   ·have HN:=Ja (HA.out.next hlt hd);rw[hd] at hq;clear hd;go_wp2;exact⟨⟨k+1,by omega,by go_num,HN.out,hbl⟩,by simp[intOf];omega⟩
   ·have HN:=Ja (HA.out.hit hlt hd);rw[hd] at hq;clear hd;go_wp2;go_ret;exact⟨Xl HN.out.symm,HB.trans (hbl.mono HSZ)⟩
  ·have hk':k=x.Fz.length:=by omega
   subst hk';have HN:=Ja HA.out.all_;go_wp2;go_ret;exact⟨Xl HN.out.symm,HB.trans (hbl.mono HSZ)⟩
theorem jpv {cs:List Value} {x:Ref} {fx:List Nat} (name:ByteArray) (b1:Nat) (w:World) (hx:Rp.ref.R w cs x fx) (c1:w.cell? ⟨b1,0,none⟩=some (.string name)):
  Calls Tryz.prog 153 #[.agg cs.toArray,.pointer (some ⟨b1,0,none⟩)] w fun e w'=>e= .returned (.bool (Xx name x))∧Below w.heap.size w w':=by
 obtain⟨A0,n0,c0,f0,rfl,_,h0⟩:=hx;have hq:=Jr x.name name;have d1:=J6 c1 (.cells #[.string x.name,.bool x.guard,.int .i64 x.count,.slice A0 n0 c0] 52);clear c1;go_enter Tryz.func153,Tryz.ntmps153;go_wp2;go_ret;exact⟨rfl,(Below.refl _ _).alloc nle _⟩
theorem jbh {cs:List Value} {x:Xq} {fx:List Nat} (name:ByteArray) (w:World) (hx:Rp.repo.R w cs x fx):
  Calls Tryz.prog 121 #[.agg cs.toArray,.string name] w fun e w'=>e= .returned (.int .i64 (jd4 (Xx name) x.Fz))∧Below w.heap.size w w':=by
 have hmf:=Zd;obtain⟨A0,n0,c0,f0,A1,n1,c1,f1,rfl,_,h0,h1⟩:=hx;go_enter Tryz.func121,Tryz.ntmps121;go_wp2_with fail;refine(jne (l:=x.Fz) (Xx name) _ _ (enters_of Tryz.func153 (by kernel_rfl) rfl) _ ((h1.allocN _).allocN _) (fun i hi cs fq w1 hB hR=> ?_)).mono ?_
 ·refine jpv name _ w1 hR ?_;have hc:=(Blk.step (Blk.new _ _ _) hB).cell 0;simpa using hc
 ·rintro e w1 ⟨rfl,hb1⟩;go_wp2;go_ret;exact⟨rfl,Below.box2 hb1⟩
theorem ja7 {cs:List Value} {x:Ref} {fx:List Nat} (back:Int) (hb1:back≤9223372036854775807) (w:World) (hx:Rp.ref.R w cs x fx):
  Calls Tryz.prog 122 #[.agg cs.toArray,.int .i64 back] w (jpj w (version x.Vz back) fx):=by
 obtain⟨A0,n0,c0,f0,rfl,hff,h0⟩:=hx;obtain rfl:=h0.1;obtain rfl:=hff;have hmx:=h0.max;go_enter Tryz.func122,Tryz.ntmps122;by_cases hneg:back<0
 ·have HV:=Ja (jj2 (vs:=x.Vz) hneg);go_wp2
  go_ret2
  rw[HV.out];exact⟨none,0,0,[],rfl,SlR.nil,by simp,(Below.refl _ _).alloc nle _⟩
 ·by_cases hfar:(x.Vz.length:Int)≤back
  ·have HV:=Ja (ja6 (vs:=x.Vz) hfar);have e1:(x.Vz.length:Int) - 1 - back<0:=by omega
   have e2:IntKind.i64.wrap ((x.Vz.length:Int) - 1 - back)=(x.Vz.length:Int) - 1 - back:=IntWalk.i64_in _ (by omega);go_wp2
   go_ret2
   rw[HV.out];exact⟨none,0,0,[],rfl,SlR.nil,by simp,(Below.refl _ _).alloc nle _⟩
  ·obtain⟨j,hj⟩: ∃j:Nat,(j:Int)=x.Vz.length - 1 - back:=⟨(x.Vz.length - 1 - back).toNat,by omega⟩;have hjl:j<x.Vz.length:=by omega
   have HV:=Ja (jaz (vs:=x.Vz) (by omega) hj hjl);obtain⟨b,o,A1,n1,c1,f1,rfl,hb,hm,q0,hs1,hsub⟩:=Vv h0 hjl;have q0:=J6 q0 (.cells #[.string x.name,.bool x.guard,.int .i64 x.count,.slice (some ⟨b,o,none⟩) x.Vz.length c0] 52);have e1:(x.Vz.length:Int) - 1 - back=(j:Int):=hj.symm;have i0:(0:Int)≤(j:Int):=by omega
   have i1:(j:Int)<(x.Vz.length:Int):=by omega
   have e2:IntKind.i64.wrap (j:Int)=(j:Int):=IntWalk.i64_in _ (by omega);have e3: ¬(j:Int)<0:=by omega
   clear hj;go_wp2
   go_ret2
   rw[HV.out];exact⟨A1,n1,c1,f1,rfl,hs1.allocN _,hsub,(Below.refl _ _).alloc nle _⟩
theorem jk5 {m:Jl} {repo back:Int} {name:ByteArray} (hm:Ys m=true):((Xn m repo name back).getD []).length≤60:=by
 cases h:Xn m repo name back with
 |none=>simp
 |some l=>exact(Yo.1 (jg3 hm h)).1
theorem jo3 {cs:List Value} {x:Jl} {fx:List Nat} (repo:Int) (name:ByteArray) (back:Int) (hb1:back≤9223372036854775807) (w:World) (hx:Rp.house.R w cs x fx):
  Calls Tryz.prog 67 #[.agg cs.toArray,.int .i64 repo,.string name,.int .i64 back] w (jpj w (Xn x repo name back) fx):=by
 obtain⟨A0,n0,c0,f0,A1,n1,c1,f1,A2,n2,c2,f2,rfl,hff,h0,h1,h2⟩:=hx;obtain rfl:=h2.1;have hmx2:=h2.max;have kb:=Blk.new w 26 #[.slice A0 n0 c0,.slice A1 n1 c1,.slice A2 x.Rz.length c2];replace h2:=h2.allocN (.cells #[.slice A0 n0 c0,.slice A1 n1 c1,.slice A2 x.Rz.length c2] 26)
 have HB:=(Below.refl w.heap.size w).alloc nle (.cells #[.slice A0 n0 c0,.slice A1 n1 c1,.slice A2 x.Rz.length c2] 26);have e2:IntKind.i64.wrap ((x.Rz.length:Int) - 1)=(x.Rz.length:Int) - 1:=IntWalk.i64_in _ (by omega);go_enter Tryz.func67,Tryz.ntmps67;go_wp2_with fail;refine(Y2 repo 0 ((x.Rz.length:Int) - 1) _).mono ?_;rintro e w1 ⟨rfl,hb⟩;replace kb:=kb.step hb
 replace h2:=h2.step hb;replace HB:=Below.t HB hb;clear hb;clear e2;cases hd:inB repo 0 ((x.Rz.length:Int) - 1)
 ·have HV:=Ja (jk3 (name:=name) (back:=back) hd);clear hd;go_wp2
  go_ret2
  rw[HV.out];exact⟨none,0,0,[],rfl,SlR.nil,by simp,HB⟩
 ·obtain⟨hd1,hd2⟩:=jap.1 hd;obtain⟨i,rfl⟩: ∃i:Nat,repo=(i:Int):=⟨repo.toNat,by omega⟩;have hi:i<x.Rz.length:=by omega
  clear hd hd1 hd2;obtain⟨b,o,B0,m0,k0,g0,B1,m1,k1,g1,rfl,hb,hm,q0,q1,q2,hs0,hs1,hsub⟩:=J7 h2 hi;obtain rfl:=hs1.1;have hmx1:=hs1.max;have c2:=Blk.c2 kb;have i1:(i:Int)<(x.Rz.length:Int):=by omega
  have i0:(0:Int)≤(i:Int):=by omega
  go_wp2_with fail;refine(jbh (x:=x.Rz[i]) name _ ⟨_,_,_,_,_,_,_,_,rfl,rfl,hs0,hs1⟩).mono ?_;rintro e w2 ⟨rfl,hb⟩;replace kb:=kb.step hb;replace hs1:=hs1.step hb;have q2:=Je q2 hb;replace HB:=Below.t HB hb;clear hb c2 q0 q1;rcases Zu (Xx name) x.Rz[i].Fz with ⟨hn,he⟩|⟨k,hn,hk,he⟩
  ·have HV:=Ja (je0 (back:=back) rfl hi hn);rw[he];clear he hn;go_wp2
   go_ret2
   rw[HV.out];exact⟨none,0,0,[],rfl,SlR.nil,by simp,HB⟩
  ·have HV:=Ja (jez (back:=back) rfl hi hk hn);rw[he];clear he hn;obtain⟨b3,o3,A3,n3,c3,f3,rfl,hb3,hm3,r0,r1,r2,r3,hs3,hsub3⟩:=J3 hs1 hk;have c2:=Blk.c2 kb;have j1:(k:Int)<(x.Rz[i].Fz.length:Int):=by omega
   have j0: ¬(k:Int)<0:=by omega
   have j2:(0:Int)≤(k:Int):=by omega
   go_wp2_with fail;refine(ja7 (x:=x.Rz[i].Fz[k]) back hb1 _ ⟨_,_,_,_,rfl,rfl,hs3⟩).mono ?_;rintro e w3 ⟨A4,n4,c4,f4,rfl,hs4,hsub4,hb⟩;replace HB:=Below.t HB hb;have HSUB:=Ja (show ∀z∈f4,z∈fx from fun z hz=>by
    rw[hff];exact List.mem_append_right _ (List.mem_append_right _ (hsub z (List.mem_append_right _ (hsub3 z (hsub4 z hz))))))
   clear hb c2 r0 r1 r2 r3 q2;go_wp2
   go_ret2
   rw[HV.out];exact⟨A4,n4,c4,f4,rfl,hs4,HSUB.out,HB⟩
theorem jep {Uz:List Yt} {user:Int} {ref:ByteArray} {l:List File} {k:Nat} (hk:k<l.length) (h:Yz Uz user ref l[k].path false=true):readable Uz user ref (l.take (k+1))=readable Uz user ref (l.take k)++ [l[k]]:=by
 unfold readable;rw[List.take_succ_eq_append_getElem hk,List.filter_append,show List.filter (fun f=>Yz Uz user ref f.path false) [l[k]]= [l[k]] by simp[h]]
theorem jfl {Uz:List Yt} {user:Int} {ref:ByteArray} {l:List File} {k:Nat} (hk:k<l.length) (h:Yz Uz user ref l[k].path false=false):readable Uz user ref (l.take (k+1))=readable Uz user ref (l.take k):=by
 unfold readable;rw[List.take_succ_eq_append_getElem hk,List.filter_append,show List.filter (fun f=>Yz Uz user ref f.path false) [l[k]]= [] by simp[h],List.append_nil]
theorem jfm (Uz:List Yt) (user:Int) (ref:ByteArray) (l:List File) (k:Nat):(readable Uz user ref (l.take k)).length≤l.length:=
 Nat.le_trans (List.length_filter_le _ _) (by simp;omega)
theorem jbw {l:List File} (h:Y1 l=true):Vk l:=fun i hi=>by
 have h1:=(Yo.1 h).2.1 _ (List.getElem_mem hi);simp only[Y3,Bool.and_eq_true] at h1;have:=Zr h1.1.1;omega
theorem jiq {A A0:Option Addr} {n c n0 c0:Nat} {l:List File} {Uz:List Yt} {fp f0:List Nat} (user:Int) (ref:ByteArray) (w:World) (h0:SlR Rp.rule w A0 n0 c0 Uz f0) (hx:SlR Rp.file w A n c l fp) (hr:Ym Uz) (hf:Vk l) (hl:l.length≤4194304):
  Calls Tryz.prog 70 #[.slice A0 n0 c0,.int .i64 user,.string ref,.slice A n c] w (OwnF 65 2 Jj w (readable Uz user ref l)):=by
 obtain rfl:=hx.1;obtain⟨i0,hi,hz0,hz1,hz2⟩:=info_parts Xj;have HR:=Ja hr;have HF:=Ja hf;clear hr hf;go_enter Tryz.func70,Tryz.ntmps70;go_wp2
 go_loopw [9,14] (fun v i wr=>∃k:Nat,k≤l.length∧i= .int .i64 k∧wr.ownsRow w.heap.size 65 2 v (readable Uz user ref (l.take k)).length ((readable Uz user ref (l.take k)).flatMap Jj)∧Below w.heap.size w wr) (fun _ i _=>l.length - (intOf i).toNat)
 case atStart=>exact⟨0,Nat.zero_le _,rfl,World.ownsRow_nil _ _ _ _,Below.refl _ _⟩
 case round=>
  obtain⟨k,hk,rfl,hown,hbl⟩:=hrel;have hsz:=hbl.size;have hle:=jfm Uz user ref l k;by_cases hlt:k<l.length
  ·obtain⟨b,o,rfl,hb,hm,q0,q1⟩:=Jx (hx.step hbl) hlt;have HY:=Ja (fun(h:Yz Uz user ref l[k].path false=true)=>jep hlt h);have HN:=Ja (fun(h:Yz Uz user ref l[k].path false=false)=>jfl hlt h);have HFK:=Ja (HF.out k hlt);generalize hg:l[k]=f at q0 q1 HY HN HFK;clear hg;have kq:=Blk.new wr 65 #[.string f.path,.string f.bytes]
   have i1:(k:Int)<(l.length:Int):=by omega
   have HW:=Ja hown;clear hown;go_wp2_with fail;refine(Z0 user ref f.path false _ ((h0.step hbl).allocN _) HR.out HFK.out).mono ?_;rintro e w1 ⟨rfl,hb1⟩;have hown1:=Yx (HW.out.alloc _) hb1;replace kq:=kq.step hb1;have hbl1:=(hbl.alloc hbl.size (.cells #[.string f.path,.string f.bytes] 65)).trans (hb1.mono (by simp;omega));have hsz1:=hbl1.size;clear hb1 q0 q1 HW
   cases hd:Yz Uz user ref f.path false
   ·have HE:=Ja (HN.out hd);have HW:=Ja hown1;clear hd hown1 kq;go_wp2;refine⟨⟨k+1,by omega,by go_num, ?_,hbl1⟩,by simp[intOf];omega⟩;rw[HE.out];exact HW.out
   ·have HE:=Ja (HY.out hd);clear hd;have u0:=Blk.c0 kq;have u1:=Blk.c1 kq
    go_wp2_with(at_builtin;refine wpList_append_own _ rfl _ _ 34 rfl w.heap.size 65 i0 _ 2 32 Tryz.underlying34 hi hz0 hz1 hz2 rfl (by decide) _ _ _ rfl (hown1.alloc _) ⟨w1.heap.size,0,none⟩ 1 1 (Jj f) rfl rfl (Jm w1 (Jj f) _) (Rp.file.one (w:=w1) ⟨rfl,rfl⟩) (by unfold maxLen;omega) (by omega) (by simp;omega) ?_);intro v' w5 hown' hgrow _;have HO:=Ja hown'
    have HBB:=Ja ((hbl1.alloc hbl1.size _).grown hgrow (by simp;omega) (fun j hj=>(hown1.lt j hj).1));clear hown' hgrow hown1 kq u0 u1 hbl1;go_wp2;refine⟨⟨k+1,by omega,by go_num, ?_,HBB.out⟩,by simp[intOf];omega⟩;rw[HE.out,List.length_append,List.flatMap_append,List.flatMap_singleton];exact HO.out
  ·have hk':k=l.length:=by omega
   subst hk';rw[List.take_of_length_le nle] at hown;have HO:=Ja hown;clear hown;go_wp2;go_ret;exact⟨_,rfl,HO.out,hbl⟩
theorem jgy:(Tryz.prog.info? 52).map (fun i=>(i.zero,i.size,i.bytes))=some (some (.agg #[.string ByteArray.empty,.bool false,.int .i64 0,.slice none 0 0]),4,56):=by kernel_rfl
def namedTo (l:List Ref) (x:Ref) (k:Nat) (d:Bool) (o:List Ref):Prop:=
 (d=false∧o=l.take k∧lessR l x.name k)∨(d=true∧∃j,j<k∧j≤l.length∧lessR l x.name j∧(∀h:j<l.length,bLt l[j].name x.name=false)∧o=l.take j++x::(l.take k).drop j)
theorem namedTo.zero {l:List Ref} {x:Ref} :namedTo l x 0 false []:= .inl ⟨rfl,rfl,lessR.zero⟩
theorem namedTo.skip {l o:List Ref} {x:Ref} {k:Nat} (h:namedTo l x k false o) (hk:k<l.length) (hl:bLt l[k].name x.name=true):namedTo l x (k+1) false (o++ [l[k]]):=by
 rcases h with ⟨_,rfl,h⟩|⟨h,_⟩
 ·exact .inl ⟨rfl,(List.take_succ_eq_append_getElem hk).symm,h.next hk hl⟩
 ·cases h
theorem namedTo.here {l o:List Ref} {x:Ref} {k:Nat} (h:namedTo l x k false o) (hk:k<l.length) (hl:bLt l[k].name x.name=false):namedTo l x (k+1) true (o++ [x]++ [l[k]]):=by
 rcases h with ⟨_,rfl,h⟩|⟨h,_⟩
 ·refine .inr ⟨rfl,k,by omega,by omega,h,fun _=>hl, ?_⟩;have e:(l.take (k+1)).drop k= [l[k]]:=by
   rw[List.take_succ_eq_append_getElem hk,List.drop_append_of_le_length (by simp;omega),List.drop_eq_nil_of_le (by simp;omega),List.nil_append]
  rw[e,List.append_assoc];rfl
 ·cases h
theorem namedTo.more {l o:List Ref} {x:Ref} {k:Nat} (h:namedTo l x k true o) (hk:k<l.length):namedTo l x (k+1) true (o++ [l[k]]):=by
 rcases h with ⟨h,_⟩|⟨_,j,h1,h2,h3,h4,rfl⟩
 ·cases h
 ·refine .inr ⟨rfl,j,by omega,h2,h3,h4, ?_⟩;rw[List.take_succ_eq_append_getElem hk,List.drop_append_of_le_length (by simp;omega)];simp
theorem namedTo.end_ {l o:List Ref} {x:Ref} (h:namedTo l x l.length true o):o=Zm (fun y=>bLt y.name x.name) x l:=by
 rcases h with ⟨h,_⟩|⟨_,j,h1,h2,h3,h4,rfl⟩
 ·cases h
 ·rw[List.take_length,jck (lt:=fun y:Ref=>bLt y.name x.name) (x:=x) (l:=l) (k:=j) h3 h2 h4]
theorem namedTo.last {l o:List Ref} {x:Ref} (h:namedTo l x l.length false o):o++ [x]=Zm (fun y=>bLt y.name x.name) x l:=by
 rcases h with ⟨_,rfl,h⟩|⟨h,_⟩
 ·rw[jck (lt:=fun y:Ref=>bLt y.name x.name) (x:=x) (l:=l) (k:=l.length) h nle (fun h=>absurd h (Nat.lt_irrefl _)),List.take_length,List.drop_length]
 ·cases h
theorem namedTo.len {l o:List Ref} {x:Ref} {k:Nat} {d:Bool} (h:namedTo l x k d o) (hk:k≤l.length):o.length≤k+1:=by
 rcases h with ⟨_,rfl,h⟩|⟨_,j,h1,h2,h3,h4,rfl⟩
 ·simp;omega
 ·simp;omega
def Gath (b H:Nat) (fx:List Nat) (w:World) (v:Value) (o:List Ref):Prop:=
 ∃xs f1,w.ownsRow b 52 4 v o.length xs∧AllR Rp.ref w xs o f1∧(∀z∈f1,z<H∧z≠b∧(z∈fx∨b≤z))∧∀z,v.ownBlock=some z→z=b∨H≤z
theorem Gath.more {b H:Nat} {fx:List Nat} {wA w2:World} {v:Value} {o:List Ref} {x:Ref} {xs ys:List Value} {f1 f:List Nat} {g cap:Nat} (ha:AllR Rp.ref wA xs o f1) (hf: ∀z∈f1,z<H∧z≠b∧(z∈fx∨b≤z)) (hv: ∀z,v.ownBlock=some z→z=b∨H≤z) (hx:Rp.ref.R wA ys x f) (hfx: ∀z∈f,z<H∧z≠b∧(z∈fx∨b≤z))
  (ho:w2.ownsRow b 52 4 (.slice (some ⟨g,0,none⟩) (o.length+1) cap) (o.length+1) (xs++ys)) (hg:wA.grownBy w2 v.ownBlock) (hor:v.ownBlock=some g∨g=wA.heap.size) (hH:H≤wA.heap.size):Gath b H fx w2 (.slice (some ⟨g,0,none⟩) (o.length+1) cap) (o++ [x]):=by
 have hk: ∀z,z<wA.heap.size→z<H∧z≠b→w2.heap[z]? =wA.heap[z]? :=fun z hz h=>hg.block z hz fun e=>by rcases hv z e.symm with h1|h1<;>omega
 refine⟨xs++ys,f1++f,by simpa using ho,((ha.keep fun z hz=>hk z (ha.lt z hz) ⟨(hf z hz).1,(hf z hz).2.1⟩).snoc (Rp.ref.keep hx fun z hz=>hk z (Rp.ref.lt hx z hz) ⟨(hfx z hz).1,(hfx z hz).2.1⟩)),fun z hz=> ?_,fun z hz=> ?_⟩
 ·rcases List.mem_append.1 hz with h|h
  ·exact hf z h
  ·exact hfx z h
 ·simp only[Value.ownBlock,Option.some.injEq] at hz;subst hz;rcases hor with h|h
  ·exact hv _ h
  ·exact .inr (by omega)
def jpi (w:World) (l:List Ref) (fx:List Nat) (e:Ending) (w':World):Prop:=
 ∃A n c f,e= .returned (.slice A n c)∧SlR Rp.ref w' A n c l f∧(∀z∈f,z∈fx∨w.heap.size≤z)∧Below w.heap.size w w'
theorem joz {a b:Jl} (h1:a.keys=b.keys) (h2:a.used=b.used) (h3:a.Rz=b.Rz):a=b:=by
 cases a;cases b;simp_all
theorem jpr {a b:Xq} (h1:a.Az=b.Az) (h2:a.Uz=b.Uz) (h3:a.Fz=b.Fz):a=b:=by
 cases a;cases b;simp_all
theorem jga {cs ds:List Value} {x y:Jl} {fx fy:List Nat} (w:World) (hx:Rp.house.R w cs x fx) (hy:Rp.house.R w ds y fy):
  Calls Tryz.prog 10 #[.agg cs.toArray,.agg ds.toArray] w fun e w'=>e= .returned (.bool (decide (x=y)))∧Below w.heap.size w w':=by
 obtain⟨A0,n0,c0,f0,A1,n1,c1,f1,A2,n2,c2,f2,rfl, -,h0,h1,h2⟩:=hx;obtain⟨B0,m0,d0,g0,B1,m1,d1,g1,B2,m2,d2,g2,rfl, -,j0,j1,j2⟩:=hy;obtain⟨rfl,hcx,hmx,_⟩:=id h2;obtain⟨rfl,hcy,hmy,_⟩:=id j2;unfold maxLen at hmx hmy;obtain⟨k2,k3,hb⟩:=Blk.two w 26 26 #[.slice A0 n0 c0,.slice A1 n1 c1,.slice A2 x.Rz.length c2] #[.slice B0 m0 d0,.slice B1 m1 d1,.slice B2 y.Rz.length d2]
 go_enter Tryz.func10,Tryz.ntmps10;go_upto_region 1 with fail
 generalize(w.alloc (.cells #[.slice A0 n0 c0,.slice A1 n1 c1,.slice A2 x.Rz.length c2] 26)).alloc (.cells #[.slice B0 m0 d0,.slice B1 m1 d1,.slice B2 y.Rz.length d2] 26)=w1 at k2 k3 hb ⊢;replace h0:=h0.step hb;replace h1:=h1.step hb;replace h2:=h2.step hb;replace j0:=j0.step hb;replace j1:=j1.step hb;replace j2:=j2.step hb;have x0:=Blk.c0 k2;have y0:=Blk.c0 k3;go_wp2_with fail
 refine(jg4 _ h0 j0).mono ?_;rintro e w2 ⟨rfl,hb2⟩;replace k2:=k2.step hb2;replace k3:=k3.step hb2;replace hb:=Below.t hb hb2;replace h1:=h1.step hb2;replace h2:=h2.step hb2;replace j1:=j1.step hb2;replace j2:=j2.step hb2;clear hb2 x0 y0 h0 j0;cases e0:decide (x.keys=y.keys)
 ·have HN:=Ja (show x≠y from fun h=>by rw[h] at e0;simp at e0);go_wp2;go_ret;exact⟨Jc (decide_eq_false HN.out).symm,hb⟩
 have x1:=Blk.c1 k2;have y1:=Blk.c1 k3;go_wp2_with fail;refine(jg4 _ h1 j1).mono ?_;rintro e w3 ⟨rfl,hb2⟩;replace k2:=k2.step hb2;replace k3:=k3.step hb2;replace hb:=Below.t hb hb2;replace h2:=h2.step hb2;replace j2:=j2.step hb2;clear hb2 x1 y1 h1 j1;cases e1:decide (x.used=y.used)
 ·have HN:=Ja (show x≠y from fun h=>by rw[h] at e1;simp at e1);go_wp2;go_ret;exact⟨Jc (decide_eq_false HN.out).symm,hb⟩
 have x2:=Blk.c2 k2;have y2:=Blk.c2 k3;cases e2:((x.Rz.length:Int) !=(y.Rz.length:Int));rotate_left
 ·have HN:=Ja (show x≠y from fun h=>by rw[h] at e2;simp at e2);go_wp2;go_ret;exact⟨Jc (decide_eq_false HN.out).symm,hb⟩
 have hl:x.Rz.length=y.Rz.length:=by have h:=(bne_eq_false_iff_eq).mp e2;omega
 have HE:=Ja (show x.keys=y.keys∧x.used=y.used from⟨by simpa using e0,by simpa using e1⟩);clear e0 e1;go_wp2
 go_loopw [5] (fun i wr=>∃k:Nat,k≤x.Rz.length∧i= .int .i64 k∧je6 x.Rz y.Rz k∧Below w3.heap.size w3 wr) (fun i _=>x.Rz.length - (intOf i).toNat)
 case atStart=>exact⟨0,Nat.zero_le _,rfl,rfl,Below.refl _ _⟩
 case round=>
  obtain⟨k,hk,rfl,hag,hbl⟩:=hrel;have HA:=Ja hag;clear hag;replace x2:=Je x2 hbl;replace y2:=Je y2 hbl;by_cases hlt:k<x.Rz.length
  ·have hlt2:k<y.Rz.length:=by omega
   obtain⟨b,o,A3,n3,c3,f3,A4,n4,c4,f4,rfl, -, -,p0,p1,p2,s1,s2, -⟩:=J7 (h2.step hbl) hlt;obtain⟨b',o',B3,m3,d3,g3,B4,m4,d4,g4,rfl, -, -,q0,q1,q2,t1,t2, -⟩:=J7 (j2.step hbl) hlt2;have i0:(0:Int)≤(k:Int):=by omega
   have i1:(k:Int)<(x.Rz.length:Int):=by omega
   have i2:(k:Int)<(y.Rz.length:Int):=by omega
   have C1:=fun(m:BelowW wr)=>jld _ (BelowW.sl m s1) (BelowW.sl m t1);have C2:=fun(m:BelowW wr)=>jnm _ (BelowW.sl m s2) (BelowW.sl m t2);have HF:=Ja (fun(h: ¬x.Rz[k]=y.Rz[k])=>Ww hlt hlt2 h);have HT:=Ja (fun(h:x.Rz[k]=y.Rz[k])=>Zw HA.out hlt hlt2 h);clear s1 s2 t1 t2 h2 j2 k2 k3;generalize x.Rz[k]=p at p0 p1 p2 C1 C2 HF HT
   generalize y.Rz[k]=q at q0 q1 q2 C1 C2 HF HT;have n0:=BelowW.nonempty wr;have ex0:=BelowW.ex (w:=wr);have g0:=bwc x2;have g1:=bwc y2;have g2:=bwc p0;have g3:=bwc p1;have g4:=bwc p2;have g5:=bwc q0;have g6:=bwc q1;have g7:=bwc q2;have G:=Ja (And.intro g0 (And.intro g1 (And.intro g2 (And.intro g3 (And.intro g4 (And.intro g5 (And.intro g6 g7)))))));have D1:=Ja C1;have D2:=Ja C2
   clear g0 g1 g2 g3 g4 g5 g6 g7 C1 C2 p0 p1 p2 q0 q1 q2;cases e3:(p.Az !=q.Az)<;>cases e4:decide (p.Uz=q.Uz)<;>cases e5:decide (p.Fz=q.Fz)
   case false.true.true=>
    have HN:=Ja (HT.out (jpr (by simpa using e3) (by simpa using e4) (by simpa using e5)));rw[e4] at D1;rw[e5] at D2;clear HF HT HA;go_wp2_with fail;obtain⟨g0,g1,g2,g3,g4,g5,g6,g7⟩:=G.out;refine Jf (by kernel_rfl) (by kernel_rfl) ?_
    repeat(go_big_quiet_step(first|(go_at_call 15;exact BelowW.calls _ (D1.out _))|(go_at_call 47;exact BelowW.calls _ (D2.out _))))
    refine wpQuiet_nil ?_;rintro w6 ⟨m6,hw6⟩;have hb6:=m6.property;rw[←hw6] at hb6;clear hw6 m6;go_wp2;exact⟨⟨k+1,by omega,by go_num,HN.out,Below.t hbl hb6⟩,by simp[intOf];omega⟩
   all_goals
    have HN:=Ja (HF.out (by rintro rfl;simp at e3 e4 e5));rw[e4] at D1;rw[e5] at D2;clear HF HT HA;go_wp2_with fail;obtain⟨g0,g1,g2,g3,g4,g5,g6,g7⟩:=G.out;refine Jf (by kernel_rfl) (by kernel_rfl) ?_
    repeat(go_big_quiet_step(first|(go_at_call 15;exact BelowW.calls _ (D1.out _))|(go_at_call 47;exact BelowW.calls _ (D2.out _))))
    refine wpQuiet_nil ?_;rintro w6 ⟨m6,hw6⟩;have hb6:=m6.property;rw[←hw6] at hb6;clear hw6 m6;go_wp2;go_ret;exact⟨Jc (decide_eq_false fun h=>HN.out (by rw[h])).symm,Below.t hb (Below.t hbl hb6)⟩
  ·have hk':k=x.Rz.length:=by omega
   subst hk';have HR:=Ja (jaq HA.out hl);go_wp2;go_ret;exact⟨Jc (decide_eq_true (joz HE.out.1 HE.out.2 HR.out)).symm,Below.t hb hbl⟩
end Go.Proofs.YtobbdhgkcoeifaaGreatDoor
