/- Lemmas and walks, joined by program. -/
import Derived.Test.YtobbdhgkcoeifaaGreatDoorZ10
import Derived.Test.YtobbdhgkcoeifaaGreatDoorZ15
import Derived.Test.YtobbdhgkcoeifaaGreatDoorZ5
import Derived.Test.YtobbdhgkcoeifaaGreatDoorZ9
namespace Go.Proofs.YtobbdhgkcoeifaaGreatDoor
open Go.RowKit
attribute [local go_sem ↓] Go.wp_at_zero Go.wp_at_succ
attribute [local go_sem] stayQ_normal
set_option maxHeartbeats 8000000
set_option maxRecDepth 100000
set_option linter.unusedSimpArgs false
set_option linter.unusedVariables false
theorem ji6 {A:Option Addr} {n c:Nat} {l:List File} {fp:List Nat} (w:World) (hx:SlR Rp.file w A n c l fp) (hl:l.length≤1048576):
  Calls Tryz.prog 179 #[.slice A n c] w (OwnF 65 2 Jj w (jas l l.length)):=by
 obtain rfl:=hx.1;have hm0:=hx.max;obtain⟨i0,hi,hz0,hz1,hz2⟩:=info_parts Xj;have HM:=Ja (World.ownsRow_made (base:=w.heap.size) (e:=65) (size:=2) w #[] 0 nle (by simp[maxLen]) rfl);have HBM:=Ja ((Below.refl w.heap.size w).alloc nle (.cells #[] 65));have HX:=Ja (fun(W:World) (hb:Below w.heap.size w W)=>hx.below hb nle);have HL:=Ja hl;clear hx hl;go_enter Tryz.func179,Tryz.ntmps179
 go_wp2
 go_loopw [3,4] (fun v i wr=>∃k g cap:Nat,k≤l.length∧i= .int .i64 k∧v= .slice (some ⟨g,0,none⟩) k cap∧wr.ownsRow w.heap.size 65 2 v k ((jas l k).flatMap Jj)∧Below w.heap.size w wr) (fun _ i _=>l.length - (intOf i).toNat)
 case atStart=>exact⟨0,_,_,Nat.zero_le _,rfl,rfl,HM.out,HBM.out⟩
 case round=>
  obtain⟨wo,hwo⟩: ∃wo,wo=wr:=⟨_,rfl⟩;subst hwo;obtain⟨k,g,cv,hk,rfl,rfl,hown,hbl⟩:=hrel;by_cases hlt:k<l.length
  ·have hlk:=jbb (l:=l) (k:=k) hk;have HSU:=Ja (jc1 hlt);generalize jas l k=S at hown hlk HSU;have hownS:=hown;rw[←hlk] at hownS;obtain⟨A',c',fS,hv,hs,hbS,_,_⟩:=Yp hownS;rw[hlk] at hs hv;cases hv;obtain⟨b,o,rfl,hb,hm,q0,q1⟩:=Jx (HX.out _ hbl) hlt;have HSL:=Ja hs;have HOW:=Ja hown;have HBL:=Ja hbl;have HLK:=Ja hlk;have hkc:k≤cv:=hs.2.1
   have hcv:cv≤9223372036854775807:=hs.2.2.1;generalize l[k]=x at q0 q1 HSU;have i0':(0:Int)≤(k:Int):=by omega
   have i1:(k:Int)<(l.length:Int):=by omega
   clear hown hownS hs hbl hlk;go_wp2_with fail
   go_loopw [5] (fun j wr=>∃m:Nat,m≤k∧j= .int .i64 m∧lessTo S x.path m∧Below wo.heap.size wo wr) (fun j _=>k - (intOf j).toNat)
   case atStart=>exact⟨0,Nat.zero_le _,rfl,lessTo.zero,Below.refl _ _⟩
   case round=>
    obtain⟨wp,hwp⟩: ∃wp,wp=wr:=⟨_,rfl⟩;subst hwp;obtain⟨m,hm',rfl,hless,hbi⟩:=hrel;have HLS:=Ja hless;clear hless;have p0:=Je q0 hbi;have p1:=Je q1 hbi;have HBI:=Ja hbi;clear hbi;have j0:(0:Int)≤(m:Int):=by omega
    by_cases hyes: ∃hms:m<S.length,bLt S[m].path x.path=true
    ·obtain⟨hms,hd⟩:=hyes;have j1:(m:Int)<(k:Int):=by have:=HLK.out;omega
     obtain⟨b',o',hbo,hb',hm2,r0,r1⟩:=Jx (HSL.out.step HBI.out) hms;cases hbo;simp only[Nat.zero_add] at r0 r1;have HN:=Ja (HLS.out.next hms hd);unfold bLt at hd;go_wp2_with fail;go_quiet(fail);go_wp2;exact⟨⟨m+1,by omega,by go_num,HN.out,Below.drewN' HBI.out _⟩,by simp[intOf];omega⟩
    ·have HN:=Ja (show ∀hi:m<S.length,bLt S[m].path x.path=false from fun hi=>by
      cases hd:bLt S[m].path x.path
      ·rfl
      ·exact absurd ⟨hi,hd⟩ hyes)
     clear hyes;by_cases hlm:m<k
     case' pos=>
      have hms:m<S.length:=by have:=HLK.out;omega
      obtain⟨b',o',hbo,hb',hm2,r0,r1⟩:=Jx (HSL.out.step HBI.out) hms;cases hbo;simp only[Nat.zero_add] at r0 r1;have j1:(m:Int)<(k:Int):=by omega
      have hd:=HN.out hms;unfold bLt at hd;go_wp2_with fail;go_quiet(fail);clear hd r0 r1 hb' hm2 j1
     case' neg=>
      have j1: ¬(m:Int)<(k:Int):=by omega
      go_wp2_with fail;go_quiet(fail);clear j1
     all_goals
      have HBX:=Ja (Below.drewN' HBI.out nq);generalize hwx:wp.drewN nq=wx at HBX ⊢;have HTD:=Ja (show ∃f,SlR Rp.file wx (some ⟨g,m*2,none⟩) (k - m) (cv - m) (S.drop m) f from by
       obtain⟨f,h1,_⟩:=(HSL.out.step HBX.out).drop (k:=m) (by have:=HLK.out;omega);exact⟨f,by simpa [Rp.file,Rp.flat] using h1⟩)
      have HTE:=Ja (show cv=m→∃f,SlR Rp.file wx (some ⟨g,0,none⟩) 0 0 (S.drop m) f from fun h=>by
       have h1:=(HSL.out.step HBX.out).drop_all (B:=some ⟨g,0,none⟩) h;rwa [show k - m=0 by omega] at h1)
      have HTK:=Ja (fun(W:World) (hb:Below wo.heap.size wo W)=>(HSL.out.step hb).take (k:=m) (by have:=HLK.out;omega));have HLM:=Ja (show(S.take m).length≤4194304∧(S.drop m).length≤4194304∧(S.take m).length=m∧(S.drop m).length=k - m∧k≤1048576 from by
       have:=HLK.out;have:=HL.out;simp;omega)
      have HINS:=Ja (show(S.take m).flatMap Jj++Jj x++(S.drop m).flatMap Jj=(jas l (k+1)).flatMap Jj from by
       rw[HSU.out,jck (lt:=fun g:File=>bLt g.path x.path) (x:=x) (l:=S) (k:=m) HLS.out (by have:=HLK.out;omega) HN.out];simp)
      have hmc:m≤cv:=by omega
      clear hwx p0 p1 HBI;by_cases hcm:cv=m
      case' pos=>
       have hcm:=hcm.symm;subst hcm
      all_goals go_wp2_with fail
     all_goals
      first
      |refine(X6 (l:=S.drop m) _ HTD.out.choose_spec HLM.out.2.1).mono ?_
      |refine(X6 (l:=S.drop m) _ (HTE.out (by first|trivial|rfl)).choose_spec HLM.out.2.1).mono ?_
      rintro e w5 ⟨v5,rfl,ho5,hb5⟩;obtain⟨A5,c5,f5,rfl,hs5,_,_,_⟩:=Yp ho5;have HB5:=Ja (Below.t HBX.out hb5);have HS5:=Ja (show SlR Rp.file w5 A5 (S.length - m) c5 (S.drop m) f5 from by simpa using hs5);have HZ5:=Ja (show w.heap.size≤w5.heap.size from Nat.le_trans HBL.out.size HB5.out.size);have p50:=Je q0 HB5.out;have p51:=Je q1 HB5.out;clear ho5 hb5 hs5
      go_wp2_with fail;refine Xs fun K hK=> ?_;have HKK:=Ja hK;clear hK
      go_region_law (first
       |(refine J9 rfl 72 (enters_of Tryz.func72 (by kernel_rfl) rfl) rfl _ (by simp[Act.eval,Act.put]) ((X6 (l:=S.take m) _ (HTK.out _ (Below.t HB5.out (by first|exact(Below.refl _ _).drew|exact((Below.refl _ _).drew).alloc nle _|exact((Below.refl _ _).alloc nle _).drew))).choose_spec.1 HLM.out.1).mono ?_);rintro e w6 ⟨v6,rfl,ho6,hb6⟩;refine⟨_,rfl, ?_⟩;have HB6:=Ja (Below.t (show Below w5.heap.size w5 _ from(by first|exact(Below.refl _ _).drew|exact((Below.refl _ _).drew).alloc nle _|exact((Below.refl _ _).alloc nle _).drew)) hb6);have p60:=Je p50 HB6.out;have p61:=Je p51 HB6.out;have HO6:=Ja (Y4 ho6 (show w5.heap.size≤_ from by simp));try(have kE:=(Blk.new w5.drew 65 #[.string x.path,.string x.bytes]).step hb6))
       |(refine Xt rfl (.tmp 40) (.tmp 45) 34 rfl w5.heap.size 65 i0 _ 2 32 Tryz.underlying34 hi hz0 hz1 hz2 rfl (by decide) v6 (S.take m).length ((S.take m).flatMap Jj) (by simp[Act.eval,Act.put]) (HO6.out.alloc _) ⟨w6.heap.size,0,none⟩ 1 1 (Jj x) (by simp[Act.eval,Act.put]) rfl (Jm w6 (Jj x) _) (Rp.file.one (w:=w6) ⟨rfl,rfl⟩) (by have:=HLM.out;unfold maxLen;omega) (by have:=HLM.out;omega) (by have:=HB6.out.size;simp;omega) ?_;intro v7 w7 ho7 hg7;have HO7:=Ja ho7;have HB7:=Ja ((HB6.out.alloc HB6.out.size _).grown hg7 (by have:=HB6.out.size;simp;omega) (fun j hj=>(HO6.out.lt j hj).1)))
       |(refine Xt rfl (.tmp 40) (.tmp 45) 34 rfl w5.heap.size 65 i0 _ 2 32 Tryz.underlying34 hi hz0 hz1 hz2 rfl (by decide) v6 (S.take m).length ((S.take m).flatMap Jj) (by simp[Act.eval,Act.put]) HO6.out ⟨w5.heap.size,0,none⟩ 1 1 (Jj x) (by simp[Act.eval,Act.put]) rfl (fun j u hu=>World.news_of_block kE j u (by simpa [Jj] using hu)) (Rp.file.one (w:=w6) ⟨rfl,rfl⟩) (by have:=HLM.out;unfold maxLen;omega) (by have:=HLM.out;omega) HB6.out.size ?_;intro v7 w7 ho7 hg7;have HO7:=Ja ho7;have HB7:=Ja (HB6.out.grown hg7 HB6.out.size (fun j hj=>(HO6.out.lt j hj).1)))
       |(refine Zg (r:=Rp.file) (A:=A5) (m:=S.length - m) (c:=c5) rfl (.tmp 46) (.tmp 47) 34 rfl w5.heap.size 65 i0 _ 32 Tryz.underlying34 hi hz0 hz1 hz2 rfl (by decide) v7 ((S.take m).length+1) ((S.take m).flatMap Jj++Jj x) (by simp[Act.eval,Act.put]) HO7.out (by simp[Act.eval,Act.put]) (HS5.out.step HB7.out) (by have:=HLM.out;have:=HLK.out;unfold maxLen;omega) (by have:=HLM.out;have:=HLK.out;omega) HB7.out.size ?_;intro v8 w8 zs f1 hal _ ho8 hg8;obtain⟨rfl,_⟩:=AllR.flat.1 hal)
       |fail)
      all_goals
       refine HKK.out _ _ ?_;clear HKK K;have hn8:(S.take m).length+1+(S.length - m)=k+1:=by have:=HLM.out;have:=HLK.out;omega
       rw[hn8,HINS.out] at ho8;obtain⟨g8,cap8,rfl,hc8,hm8⟩:=jav ho8 (by omega);have HRR:=Ja (show w8.ownsRow w.heap.size 65 2 (.slice (some ⟨g8,0,none⟩) (k+1) cap8) (k+1) ((jas l (k+1)).flatMap Jj)∧Below w.heap.size w w8 from
        ⟨Y4 ho8 HZ5.out,Below.t HBL.out (Below.t HB5.out (HB7.out.grown hg8 HB7.out.size (fun j hj=>(HO7.out.lt j hj).1)))⟩)
       clear ho8 hg8 hc8 hm8 p50 p51 p60 p61;go_wp2_with fail;exact⟨⟨k+1,_,_,by omega,by go_num,rfl,HRR.out.1,HRR.out.2⟩,by simp[intOf];omega⟩
  ·have hk':k=l.length:=by omega
   subst hk';have HO:=Ja hown;clear hown;go_wp2;go_ret;exact⟨_,rfl,by rw[jbb nle];exact HO.out,hbl⟩
def TurnOne (w:World) (x:Option (List File)) (e:Ending) (w':World):Prop:=
 ∃v,e= .returned (.tuple #[v,.bool x.isSome])∧(∀o,x=some o→w'.ownsRow w.heap.size 65 2 v o.length (o.flatMap Jj))∧Below w.heap.size w w'
theorem TurnOne.bad {w w':World} {x:Option (List File)} {v:Value} (h:x=none) (hb:Below w.heap.size w w'):TurnOne w x (.returned (.tuple #[v,.bool false])) w':=by
 subst h;exact⟨v,rfl,(fun o h=>by cases h),hb⟩
theorem TurnOne.good {w w':World} {x:Option (List File)} {o:List File} {v:Value} (h:x=some o) (ho:w'.ownsRow w.heap.size 65 2 v o.length (o.flatMap Jj)) (hb:Below w.heap.size w w'):TurnOne w x (.returned (.tuple #[v,.bool true])) w':=by
 subst h;exact⟨v,rfl,(fun o' h=>by cases h;exact ho),hb⟩
theorem jm8 {A:Option Addr} {n c:Nat} {l:List File} {fp:List Nat} (e:Wz) (w:World) (hx:SlR Rp.file w A n c l fp) (hl:l.length≤1048575) (ha:asc File.path l):
  Calls Tryz.prog 161 #[.slice A n c,.agg (Jp e).toArray] w (TurnOne w (Zf l e)):=by
 obtain rfl:=hx.1;have hm0:=hx.max;have hlc:l.length≤c:=hx.2.1;have hcm:c≤9223372036854775807:=hx.2.2.1;obtain⟨i0,hi,hz0,hz1,hz2⟩:=info_parts Xj;have HA:=Ja ha;have HL:=Ja hl;have HFF:=Ja (show ∀k,l.findIdx? (Wv e.path)=some k→∃hk:k<l.length,l[k].path=e.path from fun k h=>joh h);clear ha hl;obtain⟨ep,eb,eg⟩:=e;have k1:=Blk.new w 59 #[.string ep,.string eb,.bool eg]
 have HB0:=(Below.refl w.heap.size w).alloc nle (.cells #[.string ep,.string eb,.bool eg] 59);replace hx:=hx.allocN (.cells #[.string ep,.string eb,.bool eg] 59);unfold Jp;go_enter Tryz.func161,Tryz.ntmps161;go_wp2_with fail;refine(jm9 (l:=l) ep _ hx).mono ?_;rintro e' w1 ⟨rfl,hb⟩;replace k1:=k1.step hb;replace hx:=hx.step hb;replace HB0:=Below.t HB0 hb;clear hb;have u0:=Blk.c0 k1
 have u1:=Blk.c1 k1;have u2:=Blk.c2 k1;have HX:=Ja hx;have HK1:=Ja k1;have HBB:=Ja HB0;have HSZ:=Ja (show w.heap.size≤w1.heap.size from HB0.size);clear hx k1 HB0;rcases Zu (Wv ep) l with ⟨hn,he⟩|⟨k,hn,hk,he⟩
 ·rw[he];clear he;cases eg
  ·have HT:=Ja (jcr (e:=⟨ep,eb,false⟩) hn rfl);have HLL:=Ja (show(l++ [(⟨ep,eb⟩:File)]).length≤1048576 by have:=HL.out;simp;omega);have HSN:=Ja (jj8 (x:=⟨ep,eb⟩) HA.out);have HL4:=Ja (show l.length≤4194304 by have:=HL.out;omega);clear hn;go_wp2_with fail;refine Xs fun K hK=> ?_;have HKK:=Ja hK;clear hK
   go_region_law (first
    |(refine J9 rfl 72 (enters_of Tryz.func72 (by kernel_rfl) rfl) rfl _ (by simp[Act.eval,Act.put]) ((X6 (l:=l) _ (HX.out.step (by first|exact(Below.refl _ _).drew|exact((Below.refl _ _).drew).alloc nle _|exact((Below.refl _ _).alloc nle _).drew)) HL4.out).mono ?_);rintro e6 w6 ⟨v6,rfl,ho6,hb6⟩;refine⟨_,rfl, ?_⟩;have HB6:=Ja (Below.t (show Below w1.heap.size w1 _ from(by first|exact(Below.refl _ _).drew|exact((Below.refl _ _).drew).alloc nle _|exact((Below.refl _ _).alloc nle _).drew)) hb6);have p0:=Je u0 HB6.out;have p1:=Je u1 HB6.out;have HO6:=Ja (Y4 ho6 (show w1.heap.size≤_ from by simp));try(have kE:=(Blk.new w1.drew 65 #[.string ep,.string eb]).step hb6))
    |(refine Xt rfl (.tmp 43) (.tmp 49) 34 rfl w1.heap.size 65 i0 _ 2 32 Tryz.underlying34 hi hz0 hz1 hz2 rfl (by decide) v6 l.length (l.flatMap Jj) (by simp[Act.eval,Act.put]) (Jy HO6.out (fun z hz=>Below.heap_alloc _ _ _ (Jn HO6.out z hz).2)) ⟨w6.heap.size,0,none⟩ 1 1 [.string ep,.string eb] (by simp[Act.eval,Act.put]) rfl (Jm w6 _ _) (by intro u hu;simp at hu;rcases hu with rfl|rfl<;>rfl) (by have:=HL4.out;unfold maxLen;omega) (by have:=HL4.out;omega) (by have:=HB6.out.size;simp;omega) ?_;intro v7 w7 ho7 hg7;have HO7:=Ja ho7;have HB7:=Ja ((HB6.out.alloc HB6.out.size _).grown hg7 (by have:=HB6.out.size;simp;omega) (fun j hj=>(HO6.out.lt j hj).1)))
    |(refine Xt rfl (.tmp 43) (.tmp 49) 34 rfl w1.heap.size 65 i0 _ 2 32 Tryz.underlying34 hi hz0 hz1 hz2 rfl (by decide) v6 l.length (l.flatMap Jj) (by simp[Act.eval,Act.put]) HO6.out ⟨w1.heap.size,0,none⟩ 1 1 [.string ep,.string eb] (by simp[Act.eval,Act.put]) rfl (fun j u hu=>World.news_of_block kE j u (by simpa using hu)) (by intro u hu;simp at hu;rcases hu with rfl|rfl<;>rfl) (by have:=HL4.out;unfold maxLen;omega) (by have:=HL4.out;omega) HB6.out.size ?_;intro v7 w7 ho7 hg7;have HO7:=Ja ho7;have HB7:=Ja (HB6.out.grown hg7 HB6.out.size (fun j hj=>(HO6.out.lt j hj).1)))
    |(obtain⟨A7,c7,f7,hv7,hs7,_,_,_⟩:=Yp (l:=l++ [(⟨ep,eb⟩:File)]) (base:=w1.heap.size) (v:=v7) (w:=w7) (by simpa [Jj] using HO7.out);subst hv7;refine J9 rfl 179 (enters_of Tryz.func179 (by kernel_rfl) rfl) rfl _ (by simp[Act.eval,Act.put]) ((ji6 (l:=l++ [(⟨ep,eb⟩:File)]) _ hs7 HLL.out).mono ?_);rintro e8 w8 ⟨v8,rfl,ho8,hb8⟩;refine⟨_,rfl, ?_⟩;have HO8:=Ja ho8;have HB8:=Ja (Below.t HB7.out hb8))
    |fail)
   all_goals
    refine HKK.out _ _ ?_;clear HKK K;have HO9:=HO8.out;rw[HSN.out] at HO9;have HRR:=Ja (TurnOne.good HT.out (Y4 HO9 (show w.heap.size≤_ from Nat.le_trans HSZ.out HB7.out.size)) (Below.t HBB.out HB8.out));clear HO9 u0 u1 u2;go_wp2_with fail
    go_ret2
    exact HRR.out
  ·have HT:=Ja (TurnOne.bad (v:= .slice A l.length c) (jbr (e:=⟨ep,eb,true⟩) hn rfl) HBB.out);clear hn;go_wp2_with fail
   go_ret2
   exact HT.out
 ·rw[he];clear he;have j0:(0:Int)≤(k:Int):=by omega
  have j1:(k:Int)<(l.length:Int):=by omega
  have j2: ¬(k:Int)<0:=by omega
  cases eg
  ·have HT:=Ja (jco (e:=⟨ep,eb,false⟩) hn rfl);obtain⟨_,hpath⟩:=HFF.out k hn;have HFS:=Ja (show(l.set k ⟨ep,eb⟩).flatMap Jj=(l.flatMap Jj).set (k*2+1) (.string eb) from by
    have:=je9 l k hk eb;have hp:l[k].path=ep:=hpath;rwa [hp] at this)
   have HL4:=Ja (show l.length≤4194304 by have:=HL.out;omega);clear hn hpath;go_wp2_with fail;refine(X6 (l:=l) _ HX.out HL4.out).mono ?_;rintro e5 w5 ⟨v5,rfl,ho5,hb5⟩;obtain⟨g5,cap5,rfl,hc5,hm5⟩:=jav ho5 (by omega);obtain⟨A5,c5,f5,hv5,hs5,_,_,hf5⟩:=Yp ho5;cases hv5;obtain⟨b,o,hbo,hb,hm,q0,q1⟩:=Jx hs5 hk;cases hbo;simp only[Nat.zero_add] at q0 q1
   have yf:=Free.frozen hf5 hm (k*2+1);have p1:=Je u1 hb5
   have HRR:=Ja (TurnOne.good (v:= .slice (some ⟨g5,0,none⟩) l.length cap5) (w':=w5.setCell ⟨g5,k*2+1,none⟩ (.string eb)) HT.out (Y4 (base':=w.heap.size) (by rw[HFS.out,List.length_set];exact jl1 ho5 (by omega)) HSZ.out) (Below.setCell (p:=⟨g5,k*2+1,none⟩) (Below.t HBB.out hb5) (by have:=(Jn ho5 g5 (by simp[Vm,Value.ownBlock])).1;have:=HSZ.out;show w.heap.size≤g5;omega) _))
   clear ho5 hb5 hs5 hf5 u0 u1 u2 hb hm;go_wp2_with fail
   go_ret2
   exact HRR.out
  ·by_cases hbz:eb=ByteArray.empty
   ·have HT:=Ja (jcp (e:=⟨ep,eb,true⟩) hn rfl hbz);subst hbz;have HL4:=Ja (show(l.take k).length≤4194304∧(l.drop (k+1)).length≤4194304∧(l.take k).length=k∧(l.drop (k+1)).length=l.length - (k+1) by have:=HL.out;simp;omega);obtain⟨b,o,rfl,hb,hm,q0,q1⟩:=Jx HX.out hk;have HTK:=Ja (fun(W:World) (hb:Below w1.heap.size w1 W)=>(HX.out.step hb).take (k:=k) (by omega))
    obtain⟨k1,hk1⟩: ∃k1,k1=k+1:=⟨_,rfl⟩;have hw:IntKind.i64.wrap ((k:Int)+1)=(k1:Int):=by
     rw[IntWalk.i64_in _ (by omega)];omega
    have HTD:=Ja (fun(W:World) (hb:Below w1.heap.size w1 W)=>(show ∃f,SlR Rp.file W (some ⟨b,o+k1*2,none⟩) (l.length - k1) (c - k1) (l.drop k1) f from by
     obtain⟨f,h1,_⟩:=(HX.out.step hb).drop (k:=k1) (by omega);exact⟨f,by simpa [Rp.file,Rp.flat] using h1⟩))
    have HTE:=Ja (fun(W:World) (hb:Below w1.heap.size w1 W) (h:c=k1)=>(HX.out.step hb).drop_all (B:=some ⟨b,o,none⟩) h);have HER:=Ja (show(l.take k).flatMap Jj++(l.drop k1).flatMap Jj=(l.eraseIdx k).flatMap Jj∧(l.take k).length+(l.length - k1)=(l.eraseIdx k).length from by
     subst hk1;rw[List.eraseIdx_eq_take_drop_succ];refine⟨by simp,by simp;try omega⟩)
    have i0':(0:Int)≤(k1:Int):=by omega
    have i1':(k1:Int)≤(l.length:Int):=by omega
    have hkc:(k:Int)≤(c:Int):=by omega
    have HLE:=Ja (show(l.take k).length≤4194304∧l.length - k1≤4194304 by have:=HL.out;simp;omega);clear hlc hcm hk1;clear hn hb hm q0 q1;by_cases hce:c=k1
    case' pos=>subst hce
    all_goals
     go_wp2_with fail;refine Xs fun K hK=> ?_;have HKK:=Ja hK;clear hK
     go_region_law (first
      |(refine J9 rfl 72 (enters_of Tryz.func72 (by kernel_rfl) rfl) rfl _ (by simp[Act.eval,Act.put]) ((X6 (l:=l.take k) _ (HTK.out _ (by first|exact Below.refl _ _|exact(Below.refl _ _).drew)).choose_spec.1 HL4.out.1).mono ?_);rintro e6 w6 ⟨v6,rfl,ho6,hb6⟩;refine⟨_,rfl, ?_⟩;have HB6:=Ja (Below.t (show Below w1.heap.size w1 _ from(by first|exact Below.refl _ _|exact(Below.refl _ _).drew)) hb6);have HO6:=Ja (Y4 ho6 (show w1.heap.size≤_ from by simp)))
      |(refine Zg (r:=Rp.file) rfl (.tmp 25) (.tmp 29) 34 rfl w1.heap.size 65 i0 _ 32 Tryz.underlying34 hi hz0 hz1 hz2 rfl (by decide) v6 (l.take k).length ((l.take k).flatMap Jj) (by simp[Act.eval,Act.put]) HO6.out (by simp[Act.eval,Act.put];first|done|exact⟨rfl,rfl,rfl⟩) (by first|exact(HTD.out _ HB6.out).choose_spec|exact(HTE.out _ HB6.out (by first|trivial|rfl|assumption)).choose_spec) (by have:=HLE.out;unfold maxLen;omega) (by have:=HLE.out;omega) HB6.out.size ?_;intro v8 w8 zs f1 hal _ ho8 hg8;obtain⟨rfl,_⟩:=AllR.flat.1 hal)
      |fail)
     all_goals
      refine HKK.out _ _ ?_;clear HKK K;rw[HER.out.2,HER.out.1] at ho8;have HRR:=Ja (TurnOne.good HT.out (Y4 ho8 HSZ.out) (Below.t HBB.out (HB6.out.grown hg8 HB6.out.size (fun j hj=>(HO6.out.lt j hj).1))));clear ho8 hg8;go_wp2_with fail
      go_ret2
      exact HRR.out
   ·have HT:=Ja (TurnOne.bad (v:= .slice A l.length c) (jcq (e:=⟨ep,eb,true⟩) hn rfl hbz) HBB.out);have hbe:eb.toList.isEmpty=false:=by rw[Ju];exact decide_eq_false hbz
    clear hn;go_wp2_with fail
    go_ret2
    exact HT.out
end Go.Proofs.YtobbdhgkcoeifaaGreatDoor
