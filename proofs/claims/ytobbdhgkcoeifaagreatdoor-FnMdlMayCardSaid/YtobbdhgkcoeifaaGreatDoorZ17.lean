/- Lemmas and walks, joined by program. -/
import Derived.Test.YtobbdhgkcoeifaaGreatDoorZ16
import Derived.Test.YtobbdhgkcoeifaaGreatDoorZ2
import Derived.Test.YtobbdhgkcoeifaaGreatDoorZ13
namespace Go.Proofs.YtobbdhgkcoeifaaGreatDoor
open Go.RowKit
attribute [local go_sem ↓] Go.wp_at_zero Go.wp_at_succ
set_option maxHeartbeats 8000000
set_option maxRecDepth 100000
set_option linter.unusedSimpArgs false
set_option linter.unusedVariables false
theorem TurnF.none_ {w w':World} {x:Option (List File)} {v:Value} (h:x=none) (ho:w'.ownsRow w.heap.size 65 2 v 0 []) (hb:Below w.heap.size w w'):TurnF w x (.returned (.tuple #[v,.bool false])) w':=by
 subst h;exact⟨v,rfl,ho,hb⟩
theorem TurnF.some_ {w w':World} {x:Option (List File)} {o:List File} {v:Value} (h:x=some o) (ho:w'.ownsRow w.heap.size 65 2 v o.length (o.flatMap Jj)) (hb:Below w.heap.size w w'):TurnF w x (.returned (.tuple #[v,.bool true])) w':=by
 subst h;exact⟨v,rfl,ho,hb⟩
def jce (w:World) (l:List File) (es:List Wz) (k:Nat) (v:Value) (wr:World):Prop:=
 ∃o,TurnTo l es k o∧wr.ownsRow w.heap.size 65 2 v o.length (o.flatMap Jj)∧Below w.heap.size w wr
theorem jbx {A A':Option Addr} {n n' c c':Nat} {l:List File} {es:List Wz} {fp fe:List Nat} (w:World) (hx:SlR Rp.file w A n c l fp) (he:SlR Rp.edit w A' n' c' es fe) (hff:Vk l) (hfe:jbi es):
  Calls Tryz.prog 143 #[.slice A n c,.slice A' n' c'] w (TurnF w (Yu l es)):=by
 obtain rfl:=hx.1;obtain rfl:=he.1;have hm0:=hx.max;have hm1:=he.max;have HE:=Ja (fun(W:World) (hb:Below w.heap.size w W)=>he.below hb nle);have HFE:=Ja hfe;have HFF:=Ja hff;clear he hfe;go_enter Tryz.func143,Tryz.ntmps143;go_wp2_with fail;refine(jba _ hx hff).mono ?_;rintro e w1 ⟨rfl,hb⟩;have HX1:=Ja (hx.step hb);have HB1:=Ja hb
 have HNB:=Ja (show ∀(x:Option (List File)) (W:World),Below w.heap.size w W→x=none→TurnF w x (.returned (.tuple #[.slice (some ⟨W.heap.size,0,none⟩) 0 0,.bool false])) (W.alloc (.cells #[] 65)) from fun x W hb h=>
  TurnF.none_ h (World.ownsRow_made (e:=65) (size:=2) W #[] 0 hb.size (by simp[maxLen]) rfl) (hb.alloc hb.size _))
 clear hb hx hff;cases hok:Y1 l
 ·have HT:=Ja (HNB.out (Yu l es) w1 HB1.out (ja8 (fun h=>by simp[hok] at h)));clear hok;go_wp2_with fail
  go_ret2
  exact HT.out
 by_cases h4:(4:Int)<(es.length:Int)
 ·have HT:=Ja (HNB.out (Yu l es) w1 HB1.out (ja8 (fun h=>by omega)));clear hok;go_wp2_with fail
  go_ret2
  exact HT.out
 have HOK:=Ja hok;have h60:=(Yo.1 hok).1;have HZ:=Ja (TurnTo.zero (es:=es) hok HFF.out);have hl4:es.length≤4:=by omega
 have HL4:=Ja hl4;clear hok;go_wp2_with fail;refine(X6 (l:=l) _ HX1.out (by omega)).mono ?_;rintro e w2 ⟨v2,rfl,ho2,hb2⟩;have HS:=Ja (show jce w l es 0 v2 w2 from⟨l,HZ.out,Y4 ho2 HB1.out.size,Below.t HB1.out hb2⟩);clear ho2 hb2;go_wp2_with fail
 go_loopw [6,7] (fun v i wr=>∃k:Nat,k≤es.length∧i= .int .i64 k∧jce w l es k v wr) (fun _ i _=>es.length - (intOf i).toNat)
 case atStart=>exact⟨0,Nat.zero_le _,rfl,HS.out⟩
 case round=>
  obtain⟨wo,hwo⟩: ∃wo,wo=wr:=⟨_,rfl⟩;subst hwo;obtain⟨k,hk,rfl,o,hto,hown,hbl⟩:=hrel;obtain⟨A2,c2,f2,rfl,hs2,_,_,_⟩:=Yp hown;have HTO:=Ja hto;have HOW:=Ja hown;have HBL:=Ja hbl;have HS2:=Ja hs2;have HLO:=Ja (show o.length≤64 by have:=hto.len;omega);clear hto hown hbl hs2;by_cases hlt:k<es.length
  ·obtain⟨b,ob,rfl,hb,hm,q0,q1,q2⟩:=Zv (HE.out wo HBL.out) hlt;have i0:(0:Int)≤(k:Int):=by omega
   have i1:(k:Int)<(es.length:Int):=by omega
   have HSZ:=Ja (HFE.out.2 _ (List.getElem_mem hlt)).1;have HNX:=Ja (fun(o':List File) (h:Zf o es[k]=some o')=>HTO.out.next hlt HSZ.out h);have HNO:=Ja (fun(h:Zf o es[k]=none)=>HTO.out.no hlt h);generalize es[k]=ed at q0 q1 q2 HNX HNO;clear hb hm;go_wp2_with fail;refine(jm8 (l:=o) ed _ HS2.out (by have:=HLO.out;omega) HTO.out.asc_).mono ?_;rintro e w3 ⟨v3,rfl,ho3,hb3⟩
   have HB3:=Ja (Below.t HBL.out hb3);cases ht:Zf o ed with
   |none=>
    have HT:=Ja (HNB.out (Yu l es) w3 HB3.out (HNO.out ht));clear ho3 hb3 q0 q1 q2;simp only[Option.isSome];go_wp2_with fail
    go_ret2
    exact HT.out
   |some o'=>
    have HREL:=Ja (show jce w l es (k+1) v3 w3 from⟨o',HNX.out o' ht,Y4 (ho3 o' ht) HBL.out.size,HB3.out⟩);clear ho3 hb3 q0 q1 q2;simp only[Option.isSome];go_wp2_with fail;exact⟨⟨k+1,by omega,by go_num,HREL.out⟩,by simp[intOf];omega⟩
  ·have hk':k=es.length:=by omega
   subst hk';have HEND:=Ja (HTO.out.end_ HOK.out HL4.out);go_wp2_with fail;refine(jba _ HS2.out HTO.out.fit).mono ?_;rintro e w3 ⟨rfl,hb3⟩;have HB3:=Ja (Below.t HBL.out hb3);have HO3:=Ja (Jy HOW.out (fun z hz=>hb3.block z (Jn HOW.out z hz).2));clear hb3;cases hd:Y1 o
   ·have HT:=Ja (HNB.out (Yu l es) w3 HB3.out (by rw[HEND.out,hd];rfl));clear hd;go_wp2_with fail
    go_ret2
    exact HT.out
   ·have HT:=Ja (TurnF.some_ (x:=Yu l es) (o:=o) (by rw[HEND.out,hd];rfl) HO3.out HB3.out);clear hd;go_wp2_with fail
    go_ret2
    exact HT.out
theorem jca {α:Type} {enc:α→List Value} {K:Nat} (hK: ∀x,(enc x).length=K): ∀(l:List α) (k:Nat),(l.flatMap enc).take (k*K)=(l.take k).flatMap enc
 | [],k=>by simp
 |x::l,0=>by simp
 |x::l,k+1=>by
  have ih:=jca hK l k;rw[List.flatMap_cons,List.take_succ_cons,List.flatMap_cons,←ih,List.take_append,List.take_of_length_le (by rw[hK,Nat.succ_mul];omega),hK,Nat.succ_mul,Nat.add_sub_cancel]
theorem jcb {α:Type} {enc:α→List Value} {K:Nat} (hK: ∀x,(enc x).length=K): ∀(l:List α) (k:Nat),(l.flatMap enc).drop (k*K)=(l.drop k).flatMap enc
 | [],k=>by simp
 |x::l,0=>by simp
 |x::l,k+1=>by
  have ih:=jcb hK l k;rw[List.flatMap_cons,List.drop_succ_cons,←ih,List.drop_append,List.drop_eq_nil_of_le (by rw[hK,Nat.succ_mul];omega),hK,Nat.succ_mul,Nat.add_sub_cancel,List.nil_append]
theorem jnc {α:Type} {enc:α→List Value} {K:Nat} (hK: ∀x,(enc x).length=K) (l:List α) (k:Nat) (x:α):jae K k (l.flatMap enc) (enc x)=(l.take k++x::l.drop k).flatMap enc:=by
 unfold jae;rw[jca hK,jcb hK];simp
theorem jnk {α:Type} {enc:α→List Value} {K:Nat} (hK: ∀x,(enc x).length=K) (l:List α) (k:Nat):jdw K k (l.flatMap enc)=(l.eraseIdx k).flatMap enc:=by
 unfold jdw;rw[jca hK,jcb hK,List.eraseIdx_eq_take_drop_succ];simp
theorem jma {α:Type} {enc:α→List Value} (h1: ∀x,∀u∈enc x,u.oneCell'=true) (l:List α): ∀u∈l.flatMap enc,u.oneCell'=true:=fun u hu=>by
 obtain⟨x,_,hx⟩:=List.mem_flatMap.1 hu;exact h1 x u hx
theorem own_ne {w:World} {base size n:Nat} {e:TypeId} {v:Value} {xs:List Value} (h:w.ownsRow base e size v n xs) {H:Nat} (hH:w.heap.size≤H):v.ownBlock≠some H:=fun he=>by
 have:=(h.lt H he).2;omega
theorem jfz {A A':Option Addr} {n n' c c':Nat} {l:List File} {es:List Wz} {fp fe:List Nat} (w:World) (hx:SlR Rp.file w A n c l fp) (he:SlR Rp.edit w A' n' c' es fe) (hff:Vk l) (hfe:jbi es):
  Calls Tryz.prog 156 #[.slice A n c,.slice A' n' c'] w (TurnF w (Yu l es)):=by
 obtain rfl:=hx.1;obtain rfl:=he.1;have hm0:=hx.max;have hm1:=he.max;have HE:=Ja (fun(W:World) (hb:Below w.heap.size w W)=>he.below hb nle);have HFE:=Ja hfe;have HFF:=Ja hff;clear he hfe;go_enter Tryz.func156,Tryz.ntmps156;go_wp2_with fail;refine(jbg _ hx hff).mono ?_;rintro e w1 ⟨rfl,hb⟩;have HX1:=Ja (hx.step hb);have HB1:=Ja hb
 have HNB:=Ja (show ∀(x:Option (List File)) (W:World),Below w.heap.size w W→x=none→TurnF w x (.returned (.tuple #[.slice none 0 0,.bool false])) W from fun x W hb h=>
  TurnF.none_ h (World.ownsRow_nil _ _ _ _) hb)
 clear hb hx hff;cases hok:Y1 l
 ·have HT:=Ja (HNB.out (Yu l es) w1 HB1.out (ja8 (fun h=>by simp[hok] at h)));clear hok;go_wp2_with fail
  go_ret2
  exact HT.out
 by_cases h4:(4:Int)<(es.length:Int)
 ·have HT:=Ja (HNB.out (Yu l es) w1 HB1.out (ja8 (fun h=>by omega)));clear hok;go_wp2_with fail
  go_ret2
  exact HT.out
 have HOK:=Ja hok;have h60:=(Yo.1 hok).1;have HZ:=Ja (TurnTo.zero (es:=es) hok HFF.out);have hl4:es.length≤4:=by omega
 have HL4:=Ja hl4;clear hok;go_wp2_with fail;refine(Xk (l:=l) _ HX1.out (by omega)).mono ?_;rintro e w2 ⟨v2,rfl,ho2,hb2⟩;have HS:=Ja (show jce w l es 0 v2 w2 from⟨l,HZ.out,Y4 ho2 HB1.out.size,Below.t HB1.out hb2⟩);clear ho2 hb2;go_wp2_with fail
 go_loopw [6,22] (fun v i wr=>∃k:Nat,k≤es.length∧i= .int .i64 k∧jce w l es k v wr) (fun _ i _=>es.length - (intOf i).toNat)
 case atStart=>exact⟨0,Nat.zero_le _,rfl,HS.out⟩
 case round=>
  obtain⟨wo,hwo⟩: ∃wo,wo=wr:=⟨_,rfl⟩;subst hwo;obtain⟨k,hk,rfl,o,hto,hown,hbl⟩:=hrel;obtain⟨A2,c2,f2,rfl,hs2,_,_,_⟩:=Yp hown;have HTO:=Ja hto;have HOW:=Ja hown;have HBL:=Ja hbl;have HS2:=Ja hs2;have HLO:=Ja (show o.length≤64 by have:=hto.len;omega);have ho64:o.length≤64:=HLO.out;clear hto hown hbl hs2;by_cases hlt:k<es.length
  ·obtain⟨b,ob,rfl,hb,hm,q0,q1,q2⟩:=Zv (HE.out wo HBL.out) hlt;have i0:(0:Int)≤(k:Int):=by omega
   have i1:(k:Int)<(es.length:Int):=by omega
   have HSZ:=Ja (HFE.out.2 _ (List.getElem_mem hlt)).1;have HNX:=Ja (fun(o':List File) (h:Zf o es[k]=some o')=>HTO.out.next hlt HSZ.out h);have HNO:=Ja (fun(h:Zf o es[k]=none)=>HTO.out.no hlt h);generalize es[k]=ed at q0 q1 q2 HNX HNO;obtain⟨ep,eb,eg⟩:=ed;simp only at q0 q1 q2;have HFO:=Ja (show ∀j,o.findIdx? (Wv ep)=some j→∃hj:j<o.length,o[j].path=ep from fun j h=>joh h)
   have kE:=Blk.new wo 59 #[.string ep,.string eb,.bool eg];have hsA:=HS2.out.allocN (.cells #[.string ep,.string eb,.bool eg] 59);clear hb hm;go_wp2_with fail;refine(jp4 (l:=o) ep _ hsA).mono ?_;rintro e w3 ⟨rfl,hb3⟩;have kE3:=kE.step hb3;have HB3:=Ja (Below.t HBL.out (Below.box1 hb3));have HO3:=Ja (Jy HOW.out (fun z hz=>(Below.box1 hb3).block z (Jn HOW.out z hz).2))
   have HS3:=Ja (hsA.step hb3);have HK3:=Ja kE3;have u0:=Blk.c0 kE3;have u1:=Blk.c1 kE3;have u2:=Blk.c2 kE3;clear hb3 kE kE3 hsA q0 q1 q2;rcases Zu (Wv ep) o with ⟨hn,he⟩|⟨j,hn,hj,he⟩
   ·rw[he];clear he;cases eg
    ·-- a file more
     have HT1:=Ja (HNX.out _ (jcr (e:=⟨ep,eb,false⟩) hn rfl));clear hn;go_wp2_with fail
     go_loopw [9] (fun a wr=>∃m:Nat,m≤o.length∧a= .int .i64 m∧lessTo o ep m∧Below w3.heap.size w3 wr) (fun a _=>o.length - (intOf a).toNat)
     case atStart=>exact⟨0,Nat.zero_le _,rfl,lessTo.zero,Below.refl _ _⟩
     case round=>
      obtain⟨wp,hwp⟩: ∃wp,wp=wr:=⟨_,rfl⟩;subst hwp;obtain⟨m,hm',rfl,hless,hbi⟩:=hrel;have HLS:=Ja hless;clear hless;have p0:=Je u0 hbi;have p1:=Je u1 hbi;have HBI:=Ja hbi;clear hbi;have j0:(0:Int)≤(m:Int):=by omega
      by_cases hyes: ∃hms:m<o.length,bLt o[m].path ep=true
      ·obtain⟨hms,hd⟩:=hyes;have j1:(m:Int)<(o.length:Int):=by omega
       obtain⟨b',o',rfl,hb',hm2,r0,r1⟩:=Jx (HS3.out.step HBI.out) hms;have HN:=Ja (HLS.out.next hms hd);unfold bLt at hd;go_wp2_with fail;go_quiet(fail);go_wp2;exact⟨⟨m+1,by omega,by go_num,HN.out,Below.drewN' HBI.out _⟩,by simp[intOf];omega⟩
      ·have HN:=Ja (show ∀hi:m<o.length,bLt o[m].path ep=false from fun hi=>by
        cases hd:bLt o[m].path ep
        ·rfl
        ·exact absurd ⟨hi,hd⟩ hyes)
       clear hyes;by_cases hlm:m<o.length
       case' pos=>
        obtain⟨b',o',rfl,hb',hm2,r0,r1⟩:=Jx (HS3.out.step HBI.out) hlm;have j1:(m:Int)<(o.length:Int):=by omega
        have hd:=HN.out hlm;unfold bLt at hd;go_wp2_with fail;go_quiet(fail);clear hd r0 r1 hb' hm2 j1
       case' neg=>
        have j1: ¬(m:Int)<(o.length:Int):=by omega
        go_wp2_with fail;go_quiet(fail);clear j1
       all_goals
        have HBX:=Ja (Below.drewN' HBI.out nq);generalize hwx:wp.drewN nq=wx at HBX ⊢;have p0:=Je u0 HBX.out;have p1:=Je u1 HBX.out;have HINS:=Ja (show jae 2 m (o.flatMap Jj) [.string ep,.string eb]=(Zm (fun g=>bLt g.path ep) ⟨ep,eb⟩ o).flatMap Jj from by
         rw[jck (lt:=fun g:File=>bLt g.path ep) (x:=⟨ep,eb⟩) (l:=o) (k:=m) HLS.out hm' HN.out,←jnc (enc:=Jj) (K:=2) (fun _=>rfl)];rfl)
        have HOX:=Ja (Jy HO3.out (fun z hz=>HBX.out.block z (Jn HO3.out z hz).2));clear hwx HBI;go_wp2_with fail
        refine(jkw w.heap.size m o.length _ _ _ [.string ep,.string eb] 65 _ (Jy HOX.out (fun z hz=>Below.heap_alloc _ _ _ (Jn HOX.out z hz).2)) (by have:=HB3.out.size;have:=HBX.out.size;simp;omega) hm' rfl (by intro u hu;simp at hu;rcases hu with rfl|rfl<;>rfl) (jma Vz o) (Blk.new _ _ _) (own_ne HOX.out nle) (by omega)).mono ?_;rintro e w6 ⟨v6,rfl,ho6,hg6⟩
        have HREL:=Ja (show jce w l es (k+1) v6 w6 from⟨_,HT1.out,by rw[HINS.out] at ho6;rw[jaw];exact ho6,Below.trans HB3.out (Below.grown ((Below.alloc (HBX.out.mono HB3.out.size) (by have:=HB3.out.size;have:=HBX.out.size;omega) _)) hg6 (by have:=HB3.out.size;have:=HBX.out.size;simp;omega) (fun z hz=>(HOX.out.lt z hz).1))⟩);clear ho6 hg6 p0 p1 u0 u1 u2;go_wp2_with fail
        exact⟨⟨k+1,by omega,by go_num,HREL.out⟩,by simp[intOf];omega⟩
    ·have HT:=Ja (HNB.out (Yu l es) w3 HB3.out (HNO.out (jbr (e:=⟨ep,eb,true⟩) hn rfl)));clear hn;have hie:eb.toList.isEmpty=decide (eb=ByteArray.empty):=Ju eb;cases hbz:decide (eb=ByteArray.empty)
     all_goals
      rw[hbz] at hie;clear hbz;go_wp2_with fail
      go_ret2
      exact HT.out
   ·rw[he];clear he;have j0:(0:Int)≤(j:Int):=by omega
    have j1:(j:Int)<(o.length:Int):=by omega
    have j2: ¬(j:Int)<0:=by omega
    cases eg
    ·-- other bytes
     have HT1:=Ja (HNX.out _ (jco (e:=⟨ep,eb,false⟩) hn rfl));obtain⟨_,hpath⟩:=HFO.out j hn;have HFS:=Ja (show(o.set j ⟨ep,eb⟩).flatMap Jj=(o.flatMap Jj).set (j*2+1) (.string eb) from by
      have:=je9 o j hj eb;have hp:o[j].path=ep:=hpath;rwa [hp] at this)
     obtain⟨g5,cap5,hv5,hc5,hm5⟩:=jav HO3.out (by omega);cases hv5;obtain⟨_,_,f5,hv6,hs5,_,_,hf5⟩:=Yp HO3.out;cases hv6;obtain⟨b',o',hbo,hb,hm,q0,q1⟩:=Jx hs5 hj;cases hbo;simp only[Nat.zero_add] at q0 q1;have yf:=Free.frozen hf5 hm (j*2+1);have HREL:=Ja (show jce w l es (k+1) (.slice (some ⟨g5,0,none⟩) o.length c2) (w3.setCell ⟨g5,j*2+1,none⟩ (.string eb)) from
      ⟨_,HT1.out,by rw[HFS.out,List.length_set];exact jl1 HO3.out (by omega),Below.setCell (p:=⟨g5,j*2+1,none⟩) HB3.out (by exact(Jn HO3.out g5 (by simp[Vm,Value.ownBlock])).1) _⟩)
     clear hs5 hf5 hb hm hn hpath;go_wp2_with fail;exact⟨⟨k+1,by omega,by go_num,HREL.out⟩,by simp[intOf];omega⟩
    ·by_cases hbz:eb=ByteArray.empty
     ·-- a file less
      have HT1:=Ja (HNX.out _ (jcp (e:=⟨ep,eb,true⟩) hn rfl hbz));subst hbz;have hw:IntKind.i64.wrap ((j:Int)+1)=(j:Int)+1:=IntWalk.i64_in _ (by omega);clear hn;go_wp2_with fail;refine(jlb w.heap.size j o.length _ _ _ HO3.out hj (jma Vz o) (by omega)).mono ?_;rintro e w6 ⟨v6,rfl,ho6,hg6⟩
      have HREL:=Ja (show jce w l es (k+1) v6 w6 from⟨_,HT1.out,by rw[jnk (enc:=Jj) (K:=2) (fun _=>rfl)] at ho6;rw[List.length_eraseIdx_of_lt hj];exact ho6,Below.grown HB3.out hg6 HB3.out.size (fun z hz=>(HO3.out.lt z hz).1)⟩);clear ho6 hg6 u0 u1 u2;go_wp2_with fail;exact⟨⟨k+1,by omega,by go_num,HREL.out⟩,by simp[intOf];omega⟩
     ·have HT:=Ja (HNB.out (Yu l es) w3 HB3.out (HNO.out (jcq (e:=⟨ep,eb,true⟩) hn rfl hbz)));have hbe:eb.toList.isEmpty=false:=by rw[Ju];exact decide_eq_false hbz
      clear hn;go_wp2_with fail
      go_ret2
      exact HT.out
  ·have hk':k=es.length:=by omega
   subst hk';have HEND:=Ja (HTO.out.end_ HOK.out HL4.out);go_wp2_with fail;refine(jbg _ HS2.out HTO.out.fit).mono ?_;rintro e w3 ⟨rfl,hb3⟩;have HB3:=Ja (Below.t HBL.out hb3);have HS3:=Ja (HS2.out.step hb3);clear hb3;cases hd:Y1 o
   ·have HT:=Ja (HNB.out (Yu l es) w3 HB3.out (by rw[HEND.out,hd];rfl));clear hd;go_wp2_with fail
    go_ret2
    exact HT.out
   ·have HT:=Ja (show Yu l es=some o by rw[HEND.out,hd];rfl);clear hd;go_wp2_with fail;refine(Xk (l:=o) _ HS3.out (by omega)).mono ?_;rintro e w4 ⟨v4,rfl,ho4,hb4⟩;have HR:=Ja (TurnF.some_ HT.out (Y4 ho4 HB3.out.size) (Below.t HB3.out hb4));clear ho4 hb4;go_wp2_with fail
    go_ret2
    exact HR.out
def jfg (f:File):Prop:=f.path.size≤11∧f.bytes.size≤11
def Xh (l:List File):Prop:=∀f∈l,jfg f
theorem jhf {l:List File} (h:Y1 l=true):Xh l:=fun f hf=>by
 have h1:=(Yo.1 h).2.1 f hf;simp only[Y3,Bool.and_eq_true,decide_eq_true_eq] at h1;exact⟨Zr h1.1.1,Nat.le_trans h1.2 (by decide)⟩
theorem jb1 {l:List File} {f:File} (h:Xh l) (hf:jfg f):Xh (l++ [f]):=fun x hx=>by
 rcases List.mem_append.1 hx with hx|hx
 ·exact h x hx
 ·rw[List.mem_singleton.1 hx];exact hf
theorem jcu {l:List File} {f:File} {k:Nat} (h:Xh l) (hf:jfg f):Xh (l.set k f):=fun x hx=>by
 rcases List.mem_or_eq_of_mem_set hx with hx|rfl
 ·exact h x hx
 ·exact hf
theorem jcv {l:List File} (h:Xh l):Vk l:=fun i hi=>by
 have:=(h _ (List.getElem_mem hi)).1;omega
def jpk (n g P:Nat) (w:World) (e:Ending) (w':World):Prop:=
 ∃v l,e= .returned v∧w'.ownsRow w.heap.size 65 2 v l.length (l.flatMap Jj)∧Xh l∧l.length≤n∧Rd w' g P∧Only [g] w w'
theorem jnd:(Tryz.prog.info? 65).map (fun i=>(i.zero,i.size,i.bytes))=some (some (.agg #[.string ByteArray.empty,.string ByteArray.empty]),2,32):=by kernel_rfl
theorem jja (g P:Nat) (hP:P+40≤1000000) (w:World) (h:Rd w g P):
  Calls Tryz.prog 130 #[.pointer (some ⟨g,0,none⟩)] w (jpk 60 g (P+40) w):=by
 have hg:=h.lt;have HO:=Ja (World.ownsRow_made (base:=w.heap.size) (e:=65) (size:=2) w #[] 0 nle (by simp[maxLen]) rfl);go_enter Tryz.func130,Tryz.ntmps130;go_wp2_with fail;refine(Jk g P 7 (by omega) (by omega) _ (h.step ((Below.refl _ _).alloc nle _))).mono ?_;rintro e w1 ⟨j0,rfl,hj0,hr1,ho1⟩;have HW:=Ja (Vj HO.out ho1 hg);have ho:=Only.box ho1;clear HO ho1;go_wp2
 go_loopw [3,4] (fun v kv wr=>∃(j:Nat) (l:List File),kv= .int .i64 (j:Int)∧j≤7∧wr.ownsRow w.heap.size 65 2 v l.length (l.flatMap Jj)∧Xh l∧l.length≤60∧Rd wr g (P+1+4*(7 - j))∧Only [g] w wr) (fun _ i _=>(intOf i).toNat)
 case atStart=>exact⟨j0,[],rfl,by omega,HW.out,fun f hf=>absurd hf (by simp),by simp,hr1.mono (by omega),ho⟩
 case round=>
  obtain⟨j,l,rfl,hj,hown,hfit,hl,hr,hor⟩:=hrel;have HW1:=Ja hown;have HF:=Ja hfit;clear hown hfit HW hr1 ho hj0;by_cases hlt:0<j
  ·have hlt':(0:Int)<(j:Int):=by omega
   go_wp2_with fail;refine(jc6 g (P+1+4*(7 - j)) (by omega) _ hr).mono ?_;rintro e w2 ⟨r,rfl,hrf,hr2,ho2⟩;have hown3:=Vj HW1.out ho2 hg;have hor3:=hor.trans ho2;have hsz:=hor3.size;have hA:=Rd.step hr2 ((Below.refl _ _).alloc nle (.cells #[.string r.path,.string r.bytes,.bool r.gone] 59))
   have hbA:=(Below.refl w.heap.size w2).alloc hsz (.cells #[.string r.path,.string r.bytes,.bool r.gone] 59);obtain⟨A,c,f,hE,hsE, -, -, -⟩:=Xw (k:=3) (enc:=Jp) (hk:=fun _=>rfl) (h1:=Yn) (jhp (x:=r) (Blk.new w2 59 #[.string r.path,.string r.bytes,.bool r.gone]));cases hE
   obtain⟨A',c',f',rfl,hsF, -, -, -⟩:=Yp (hown3.alloc (.cells #[.string r.path,.string r.bytes,.bool r.gone] 59));have HOW:=Ja (hown3.alloc (.cells #[.string r.path,.string r.bytes,.bool r.gone] 59));have HTO:=Ja (fun o (h:Yu l [r]=some o)=>jbs h);rw[show(Jp r).toArray= #[.string r.path,.string r.bytes,.bool r.gone] from rfl];clear HW1 ho2 hr hown3;go_wp2_with fail
   refine(jbx (l:=l) (es:=[r]) _ hsF hsE (jcv HF.out) ⟨by simp,fun e he=>by rw[List.mem_singleton.1 he];exact⟨Nat.le_trans hrf.1 (by decide),Nat.le_trans hrf.2 (by decide)⟩⟩).mono ?_;rintro e w4 ⟨v4,rfl,ho4,hb4⟩;have hb5:=Below.trans hbA (hb4.mono (by simp;omega));have hr4:=hA.step hb4;have HW5:=Ja (Zy (base':=w.heap.size) ho4 (by simp;omega))
   have HW6:=Ja (Yx HOW.out hb4);have ho6:=hor3.then_low hb5;clear hA hb4 ho4 HOW hsF hsE hbA hor3 hr2 hb5 hrf hor;cases ht:Yu l [r] with
   |none=>
    simp only[ht,Option.isSome_none] at*;clear ht HTO HW5;go_wp2;exact⟨⟨j - 1,l,by go_num,by omega,HW6.out,HF.out,hl,hr4.mono (by omega),ho6⟩,by simp[intOf];omega⟩
   |some o=>
    have hok:=HTO.out o ht;have HS:=Ja (And.intro (jhf hok) (Yo.1 hok).1);simp only[ht,Option.isSome_some,Option.getD_some] at*;clear ht HTO HW6 hok;go_wp2;exact⟨⟨j - 1,o,by go_num,by omega,HW5.out,HS.out.1,HS.out.2,hr4.mono (by omega),ho6⟩,by simp[intOf];omega⟩
  ·have hlt': ¬(0:Int)<(j:Int):=by omega
   go_wp2;go_ret;exact⟨_,l,rfl,HW1.out,HF.out,hl,hr.mono (by omega),hor⟩
def slLen (v:Value):Nat:=match v with
 | .slice _ n _=>n
 |_=>0
theorem flat_f1 (l:List File) (k:Nat) (hk:k<l.length) (f:File):(l.set k f).flatMap Jj=((l.flatMap Jj).set (k*2) (.string f.path)).set (k*2+1) (.string f.bytes):=by
 induction l generalizing k with
 |nil=>cases hk
 |cons x l ih=>
  cases k with
  |zero=>simp[Jj]
  |succ k=>
   have:=ih k (by simpa using hk);have e1:(k+1)*2=(k*2)+1+1:=by omega
   rw[List.set_cons_succ,List.flatMap_cons,this,e1];simp[Jj]
theorem jjl {w:World} {B:Nat} {v:Value} {l:List File} (h:w.ownsRow B 65 2 v l.length (l.flatMap Jj)) (hn:0<l.length):
  ∃g cap,v= .slice (some ⟨g,0,none⟩) l.length cap∧B≤g∧g<w.heap.size∧(∀k (hk:k<l.length),w.cell? ⟨g,k*2,none⟩=some (.string l[k].path)∧w.cell? ⟨g,k*2+1,none⟩=some (.string l[k].bytes))∧∀j,w.frozen? ⟨g,j,none⟩=false:=by
 obtain⟨g,cap,rfl,_,_⟩:=jav h hn;obtain⟨h1,h2⟩:=h.lt g rfl;obtain⟨A,c,f,he,hs, -, -,hf⟩:=Yp h;cases he;refine⟨g,cap,rfl,h1,h2,fun k hk=> ?_,fun j=>h.frozenAt j⟩;obtain⟨b,o,hbo, -, -,q0,q1⟩:=Jx hs hk;cases hbo;simp only[Nat.zero_add] at q0 q1;exact⟨q0,q1⟩
theorem jft (g P:Nat) (n:Int) (hn:n≤1000) (hP:P+60≤1000000) (w:World) (h:Rd w g P):
  Calls Tryz.prog 84 #[.pointer (some ⟨g,0,none⟩),.int .i64 n] w (jpk 61 g (P+60) w):=by
 have hg:=h.lt;obtain⟨i0,hi,hz0,hz1,hz2⟩:=info_parts jnd;go_enter Tryz.func84,Tryz.ntmps84;go_wp2_with fail;refine(jja g P (by omega) _ h).mono ?_;rintro e w1 ⟨v,l,rfl,hown,hfit,hl,hr,ho⟩;have HW:=Ja hown;have HF:=Ja hfit;clear hown hfit h;go_wp2_with fail;refine(Jk g _ n (by omega) (by omega) _ hr).mono ?_;rintro e w2 ⟨x,rfl,hx,hr2,ho2⟩
 have HW2:=Ja (Vj HW.out ho2 hg);replace ho:=ho.trans ho2;clear HW ho2 hr hx;by_cases h0:x=0
 ·subst h0;go_wp2_with fail;refine(Jk g _ 4 (by omega) (by omega) _ hr2).mono ?_;rintro e w3 ⟨x,rfl,hx,hr3,ho3⟩;have HW3:=Ja (Vj HW2.out ho3 hg);replace ho:=ho.trans ho3;clear HW2 ho3 hr2 hx;generalize(x:Int)=kd;have hsz:=ho.size;by_cases e0:kd=0
  ·subst e0;go_wp2_with fail;refine(Zz g _ 2 (by omega) (by omega) _ hr3).mono ?_;rintro e w4 ⟨s,rfl,hs,hr4,ho4⟩;have HW4:=Ja (Vj HW3.out ho4 hg);replace ho:=ho.trans ho4;clear HW3 ho4 hr3;go_wp2_with fail;refine(Z5 g _ (by omega) _ hr4).mono ?_;rintro e w5 ⟨t,rfl,ht,hr5,ho5⟩;have hown5:=Vj HW4.out ho5 hg;replace ho:=ho.trans ho5;have hsz5:=ho.size
   have hbA:=(Below.refl w.heap.size w5).alloc hsz5 (.cells #[.string s,.string t] 65);clear HW4 ho5 hr4 hsz
   go_wp2_with(at_builtin;refine wpList_append_own _ rfl _ _ 34 rfl w.heap.size 65 i0 _ 2 32 Tryz.underlying34 hi hz0 hz1 hz2 rfl (by decide) _ _ _ rfl (hown5.alloc _) ⟨w5.heap.size,0,none⟩ 1 1 [.string s,.string t] rfl rfl (Jm w5 [.string s,.string t] _) (by simp[Value.oneCell']) (by unfold maxLen;omega) (by omega) (by simp;omega) ?_);intro v4 w4 hown4 hgrow _
   have hlow:Below w.heap.size w5 w4:=hbA.grown hgrow (by simp;omega) (fun j hj=>(hown5.lt j hj).1);have hr6:=hr5.below hlow hg;have ho6:=ho.then_low hlow;have HW6:=Ja (jcj (x:=(⟨s,t⟩:File)) (enc:=Jj) hown4);have HF6:=Ja (jb1 HF.out (f:=⟨s,t⟩) ⟨hs,ht⟩);clear hown4 hgrow hlow hown5 hbA;go_wp2;go_ret;exact⟨_,_,rfl,HW6.out,HF6.out,by simp;omega,hr6.mono (by omega),ho6⟩
  have n0:(kd==(0:Int))=false:=beq_eq_false_iff_ne.2 e0;clear e0;by_cases e1:kd=1
  ·subst e1;by_cases hpos:0<l.length
   ·have hposi:(0:Int)<(l.length:Int):=by omega
    obtain⟨b,cap,rfl,hb,hlt,hc,hfz⟩:=jjl HW3.out hpos;have HC:=Ja hc;clear hc;go_wp2_with fail;refine(Jk g _ (l.length:Int) (by omega) (by omega) _ hr3).mono ?_;rintro e w4 ⟨k,rfl,hk,hr4,ho4⟩;have hk':k<l.length:=by omega
    have k1:(k:Int)<(l.length:Int):=by omega
    have k0:(0:Int)≤(k:Int):=by omega
    have hown4:=Vj HW3.out ho4 hg;have q1:=(World.cell?_of_block (a:=⟨b,k*2+1,none⟩) (ho4.block b hlt (by simp;omega))).trans (HC.out k hk').2;have f1:=hown4.frozenAt (k*2+1);have HS:=Ja (hown4.stored (k*2+1) (.string ⟨#[49,50,51,52,53,54,55]⟩)).1;have HE:=Ja (je9 l k hk' ⟨#[49,50,51,52,53,54,55]⟩)
    have HR:=Ja (hr4.put (b:=b) (j:=k*2+1) (by omega) (.string ⟨#[49,50,51,52,53,54,55]⟩));have HO:=Ja ((ho.trans ho4).setCell (p:=⟨b,k*2+1,none⟩) (.inr hb) (.string ⟨#[49,50,51,52,53,54,55]⟩));have HF1:=Ja (jcu (k:=k) HF.out (f:=⟨l[k].path,⟨#[49,50,51,52,53,54,55]⟩⟩) ⟨(HF.out _ (List.getElem_mem hk')).1,(by decide:(⟨#[49,50,51,52,53,54,55]⟩:ByteArray).size≤11)⟩)
    clear HW3 hown4 ho4 hr3 hr4 hk hfz hb hlt;go_wp2;go_ret;have:=HS.out;rw[←HE.out] at this;exact⟨_,_,rfl,by rw[List.length_set];exact this,HF1.out,by simp;omega,HR.out.mono (by omega),HO.out⟩
   ·have hposi: ¬(0:Int)<(l.length:Int):=by omega
    have HO:=Ja ho;obtain⟨A,c,f,rfl, -, -, -, -⟩:=Yp HW3.out;go_wp2;go_ret;exact⟨_,l,rfl,HW3.out,HF.out,by omega,hr3.mono (by omega),ho⟩
  have n1:(kd==(1:Int))=false:=beq_eq_false_iff_ne.2 e1;clear e1;by_cases e2:kd=2
  ·subst e2;by_cases hpos:1<l.length
   ·have hposi:(1:Int)<(l.length:Int):=by omega
    obtain⟨b,cap,rfl,hb,hlt,hc,hfz⟩:=jjl HW3.out (by omega);have q0:=hc 0 (by omega);have q1:=hc 1 hpos;obtain⟨q00,q01⟩:=q0;obtain⟨q10,q11⟩:=q1;simp only[Nat.zero_mul,Nat.zero_add,Nat.one_mul] at q00 q01 q10 q11;have f0:=hfz 0;have f1:=hfz 1;have HS:=Ja ((HW3.out.stored 0 (.string l[1].path)).1.stored 1 (.string l[1].bytes)).1;have HE:=Ja (flat_f1 l 0 (by omega) l[1])
    have HR:=Ja ((hr3.put (b:=b) (j:=0) (by omega) (.string l[1].path)).put (b:=b) (j:=1) (by omega) (.string l[1].bytes));have HO:=Ja ((ho.setCell (p:=⟨b,0,none⟩) (.inr hb) (.string l[1].path)).setCell (p:=⟨b,1,none⟩) (.inr hb) (.string l[1].bytes));have HF1:=Ja (jcu (k:=0) HF.out (f:=l[1]) (HF.out _ (List.getElem_mem hpos)));clear HW3 hr3 hfz hb hlt hc;go_wp2;go_ret;have:=HS.out
    have e:(l.set 0 l[1]).flatMap Jj=((l.flatMap Jj).set 0 (.string l[1].path)).set 1 (.string l[1].bytes):=HE.out;rw[←e] at this;exact⟨_,_,rfl,by rw[List.length_set];exact this,HF1.out,by simp;omega,HR.out.mono (by omega),HO.out⟩
   ·have hposi: ¬(1:Int)<(l.length:Int):=by omega
    obtain⟨A,c,f,rfl, -, -, -, -⟩:=Yp HW3.out;go_wp2;go_ret;exact⟨_,l,rfl,HW3.out,HF.out,by omega,hr3.mono (by omega),ho⟩
  have n2:(kd==(2:Int))=false:=beq_eq_false_iff_ne.2 e2;clear e2;obtain⟨A,c,f,rfl, -, -, -, -⟩:=Yp HW3.out;have HO:=Ja ho;clear ho;go_wp2
  go_loopw [5] (fun v wr=>∃(l:List File) (A:Option Addr) (c:Nat),v= .slice A l.length c∧wr.ownsRow w.heap.size 65 2 v l.length (l.flatMap Jj)∧Xh l∧l.length≤61∧Rd wr g (P+60)∧Only [g] w wr) (fun v _=>61 - slLen v)
  case atStart=>exact⟨l,_,_,rfl,HW3.out,HF.out,by omega,hr3.mono (by omega),HO.out⟩
  case round=>
   obtain⟨l,A,c,rfl,hown,hfit,hl,hr,hor⟩:=hrel;have HW1:=Ja hown;have HF1:=Ja hfit;clear hown hfit HW3 HF HO hr3;by_cases hlt:l.length≤60
   ·have hlt':(l.length:Int)≤60:=by omega
    have hsz:=hor.size;have hown5:=HW1.out;have hbA:=(Below.refl w.heap.size wr).alloc hsz (.cells #[.string ⟨#[97]⟩,.string ⟨#[]⟩] 65);clear HW1
    go_wp2_with(at_builtin;refine wpList_append_own _ rfl _ _ 34 rfl w.heap.size 65 i0 _ 2 32 Tryz.underlying34 hi hz0 hz1 hz2 rfl (by decide) _ _ _ rfl (hown5.alloc _) ⟨wr.heap.size,0,none⟩ 1 1 [.string ⟨#[97]⟩,.string ⟨#[]⟩] rfl rfl (Jm wr [.string ⟨#[97]⟩,.string ⟨#[]⟩] _) (by simp[Value.oneCell']) (by unfold maxLen;omega) (by omega) (by simp;omega) ?_);intro v4 w4 hown4 hgrow _
    have hlow:Below w.heap.size wr w4:=hbA.grown hgrow (by simp;omega) (fun j hj=>(hown5.lt j hj).1);have hr6:=hr.below hlow hg;have ho6:=hor.then_low hlow;have hown6:=jcj (x:=(⟨⟨#[97]⟩,⟨#[]⟩⟩:File)) (enc:=Jj) hown4;have HF6:=Ja (jb1 HF1.out (f:=⟨⟨#[97]⟩,⟨#[]⟩⟩) ⟨by decide,by decide⟩);obtain⟨A',c',f',rfl, -, -, -, -⟩:=Yp hown6;have HW6:=Ja hown6
    clear hown4 hgrow hlow hown5 hbA hown6;go_wp2;exact⟨⟨_,_,_,rfl,HW6.out,HF6.out,by simp;omega,hr6,ho6⟩,by simp[slLen];omega⟩
   ·have hlt': ¬(l.length:Int)≤60:=by omega
    go_wp2;go_ret;exact⟨_,l,rfl,HW1.out,HF1.out,hl,hr,hor⟩
 ·have h1:(0:Int)<(x:Int):=by omega
  go_wp2;go_ret;exact⟨_,l,rfl,HW2.out,HF.out,by omega,hr2.mono (by omega),ho⟩
end Go.Proofs.YtobbdhgkcoeifaaGreatDoor
