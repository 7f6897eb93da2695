/- FnMdlOrder: for every input the law answers true and leaves its arguments as they were. Conditions: the listed library tables read as the tie says. -/
import Derived.ProofKit
import Derived.Deep.Slices
import Derived.Deep.Fields
import Derived.WalkKit
import Derived.OpenShut
import Derived.ChangeMaps5
import Derived.Deep.DeepHandedRow
import Derived.Lib.LaidTab
import Derived.SevenTiedAt
import Derived.Test.YtlkoaobaoffpaaaGreatDoorZ34
import Derived.Test.YtlkoaobaoffpaaaGreatDoorZ29
import Derived.Test.YtlkoaobaoffpaaaGreatDoorZ23
import Derived.Test.YtlkoaobaoffpaaaGreatDoorZ8
import Derived.Test.YtlkoaobaoffpaaaGreatDoorZ35
import Derived.Test.YtlkoaobaoffpaaaGreatDoorZ1
import Derived.Test.YtlkoaobaoffpaaaGreatDoorCards
import Derived.Test.YtlkoaobaoffpaaaGreatDoorTie
namespace Go.Proofs.YtlkoaobaoffpaaaGreatDoor
open Go.RowKit
attribute [local go_sem ↓] Go.wp_at_zero Go.wp_at_succ
open Go.ChangeShapes Go.WideShapes Go.ChangeAt Go.RowKit Go.Deep
set_option maxHeartbeats 8000000
set_option maxRecDepth 100000
set_option linter.unusedSimpArgs false
set_option linter.unusedVariables false
section
variable {w w':World} {g:Nat} {m:Jl} {q:Req} {a:Ans} {K U R E F N:Value}
end
section
variable {P:Program} {s:Code} {Q:Exit→Act→World→Prop} {b:Act} {w:World} {m:Jl} {q:Req} {a:Ans} {K U R E F N:Value}
end
section
variable {w0 W W':World} {m:Jl} {q q':Req} {K U R E E':Value}
end
section
variable {w w':World} {g lo:Nat} {m:Jl} {K U R:Value}
end
theorem stranger {m:Jl} {r:Req} (h:knows m.keys r.user r.key=false):Zn m r=(m,code 2):=by
 unfold Zn;rw[if_neg (by simp[h])]
def m0:Jl:=⟨[],[],[]⟩
theorem may_alone {m:Jl} {p:Xq} {r:Req} (h:r.kind=1∨r.kind=9):Yi m p r=Yi m0 p r:=by
 unfold Yi;rcases h with h|h
 ·rw[if_pos h,if_pos h]
 ·rw[if_neg (by omega),if_neg (by omega)];simp[h]
theorem newest_alone {m:Jl} {x:Ref} {r:Req} (h:r.kind=1∨r.kind=9):newest m x r=newest m0 x r:=by
 unfold newest;rcases h with h|h
 ·rw[if_pos h,if_pos h]
 ·simp[h]
def effW (r:Req) (p:Xq) (u:Int):Option Xq×Int×Ans:=
 if Yi m0 p r then
  match Y7 p.Fz r.ref with
  |none=>(none,u,code 5)
  |some k=>
   if(p.Fz.getD k Y8).count≠r.old then(none,u,code 6)
   else if(p.Fz.getD k Y8).count=14 then(none,u,code 9)
   else if(newest m0 (p.Fz.getD k Y8) r).2≠1 then(none,u,code (newest m0 (p.Fz.getD k Y8) r).2)
   else if u+Yg r.Ez > 200 then(none,u,code 10)
   else(some { p with Fz:=p.Fz.set k { p.Fz.getD k Y8 with count:=(p.Fz.getD k Y8).count+1,Vz:=jgu ((p.Fz.getD k Y8).Vz++ [(newest m0 (p.Fz.getD k Y8) r).1])}},u+Yg r.Ez,code 1)
 else(none,u,code 4)
def eff (r:Req) (ks:List Int) (po:Option Xq) (u:Int):Option Xq×Int×Ans:=
 if knows ks r.user r.key then
  if r.kind=11 then(none,u,⟨1,[],[],u⟩)
  else match po with
   |none=>(none,u,code 3)
   |some p=>
    if r.kind=2 then(none,u,look p r)
    else if r.kind=3 then(none,u,jad p r)
    else if Vs r then effW r p u
    else if r.user≠p.Az then(none,u,code 4)
    else(some (manage p r).1,u,code (manage p r).2)
 else(none,u,code 2)
def upd (m:Jl) (r:Req) (o:Option Xq×Int×Ans):Jl:=
 { m with Rz:=(match o.1 with|none=>m.Rz|some p=>m.Rz.set r.repo.toNat p),used:=m.used.set (r.user - 1).toNat o.2.1}
theorem set_getD (l:List Int) (j:Nat):l.set j (l.getD j 0)=l:=by
 rcases Nat.lt_or_ge j l.length with h|h
 ·rw[J4 h];exact List.set_getElem_self h
 ·exact List.set_eq_of_length_le h
theorem upd_none {m:Jl} {r:Req} {a:Ans} :upd m r (none,m.used.getD (r.user - 1).toNat 0,a)=m:=by
 unfold upd;simp only;rw[set_getD]
theorem upd_some {m:Jl} {r:Req} {p:Xq} {a:Ans} :upd m r (some p,m.used.getD (r.user - 1).toNat 0,a)= { m with Rz:=m.Rz.set r.repo.toNat p} :=by
 unfold upd;simp only;rw[set_getD]
theorem doIt_eff (m:Jl) (r:Req) (h:r.kind≠10):Zn m r=(upd m r (eff r m.keys m.Rz[r.repo.toNat]? (m.used.getD (r.user - 1).toNat 0)),(eff r m.keys m.Rz[r.repo.toNat]? (m.used.getD (r.user - 1).toNat 0)).2.2):=by
 unfold Zn eff;split
 ·split
  ·exact Prod.ext upd_none.symm rfl
  ·generalize m.Rz[r.repo.toNat]? =po;cases po with
   |none=>exact Prod.ext upd_none.symm rfl
   |some p=>
    simp only;split
    ·exact Prod.ext upd_none.symm rfl
    ·split
     ·exact Prod.ext upd_none.symm rfl
     ·split
      ·rename_i hw
       have hk:r.kind=1∨r.kind=9:=by simp only[Vs,Bool.or_eq_true,beq_iff_eq] at hw;omega
       unfold write effW;rw[may_alone hk];simp only[newest_alone (m:=m) hk];split
       ·generalize Y7 p.Fz r.ref=ko;cases ko with
        |none=>exact Prod.ext upd_none.symm rfl
        |some k=>
         simp only;split
         ·exact Prod.ext upd_none.symm rfl
         ·split
          ·exact Prod.ext upd_none.symm rfl
          ·split
           ·exact Prod.ext upd_none.symm rfl
           ·split
            ·exact Prod.ext upd_none.symm rfl
            ·rfl
       ·exact Prod.ext upd_none.symm rfl
      ·split
       ·exact Prod.ext upd_none.symm rfl
       ·exact Prod.ext upd_some.symm rfl
 ·exact Prod.ext upd_none.symm rfl
theorem upd_repo {m:Jl} {r:Req} {o:Option Xq×Int×Ans} {i:Nat} (h:r.repo.toNat≠i):(upd m r o).Rz[i]? =m.Rz[i]? :=by
 unfold upd;split
 ·rfl
 ·exact List.getElem?_set_ne h
theorem upd_used {m:Jl} {r:Req} {o:Option Xq×Int×Ans} {j:Nat} (h:(r.user - 1).toNat≠j):(upd m r o).used.getD j 0=m.used.getD j 0:=by
 unfold upd;rw[List.getD_eq_getElem?_getD,List.getElem?_set_ne h,←List.getD_eq_getElem?_getD]
theorem two_orders {m:Jl} {r q:Req} (hr:r.kind≠10) (hq:q.kind≠10) (h1:r.repo.toNat≠q.repo.toNat) (h2:(r.user - 1).toNat≠(q.user - 1).toNat):
  (Zn (Zn m r).1 q).1=(Zn (Zn m q).1 r).1∧(Zn m r).2=(Zn (Zn m q).1 r).2∧(Zn (Zn m r).1 q).2=(Zn m q).2:=by
 rw[doIt_eff m r hr,doIt_eff m q hq];simp only;rw[doIt_eff _ q hq,doIt_eff _ r hr];simp only;rw[upd_repo h1,upd_used h2,upd_repo (fun e=>h1 e.symm),upd_used (fun e=>h2 e.symm)];have k1: ∀o,(upd m r o).keys=m.keys:=fun o=>rfl;have k2: ∀o,(upd m q o).keys=m.keys:=fun o=>rfl;rw[k1,k2];refine⟨?_,rfl,rfl⟩;generalize eff r m.keys m.Rz[r.repo.toNat]? (m.used.getD (r.user - 1).toNat 0)=a
 generalize eff q m.keys m.Rz[q.repo.toNat]? (m.used.getD (q.user - 1).toNat 0)=b;unfold upd;simp only[Jl.mk.injEq,true_and];refine⟨List.set_comm _ _ h2, ?_⟩;obtain⟨a1,a2,a3⟩:=a;obtain⟨b1,b2,b3⟩:=b;cases a1<;>cases b1<;>simp only;exact List.set_comm _ _ h1
theorem user_zero {r:Req} (h:r.user=0) (m:Jl):Zn m r=(m,code 2):=stranger (by unfold knows inB;rw[h];simp)
theorem orders {m:Jl} {r q:Req} (hr:Yw r=true) (hq:Yw q=true) (k1:r.kind≠10) (k2:q.kind≠10) (h1:r.repo≠q.repo) (h2:r.user≠q.user):
  (Zn (Zn m r).1 q).1=(Zn (Zn m q).1 r).1∧(Zn m r).2=(Zn (Zn m q).1 r).2∧(Zn (Zn m r).1 q).2=(Zn m q).2:=by
 obtain⟨⟨u0, -⟩,⟨p0, -⟩, -⟩:=jmn hr;obtain⟨⟨v0, -⟩,⟨p1, -⟩, -⟩:=jmn hq;by_cases z:r.user=0
 ·simp only[user_zero z,and_self]
 by_cases z':q.user=0
 ·simp only[user_zero z',and_self]
 exact two_orders k1 k2 (by omega) (by omega)
theorem lawOrder (w:World) {A A':Option Addr} {n c n' c':Nat} {code more:List UInt8} {fp fp':List Nat} (hx:SlR Rp.byte w A n c code fp) (hx':SlR Rp.byte w A' n' c' more fp'):
  Calls Tryz.prog 6 #[.slice A n c,.slice A' n' c'] w fun e w'=>e= .returned (.bool true)∧Below w.heap.size w w':=by
 obtain⟨rfl,hcx,hmx, -⟩:=id hx;obtain⟨rfl,hcy,hmy, -⟩:=id hx';unfold maxLen at hmx hmy;go_enter Tryz.func6,Tryz.ntmps6;by_cases hlen:(1048576:Int)<(code.length:Int)
 ·go_wp2;go_ret;exact⟨rfl,Below.refl _ _⟩
 by_cases hlen2:(1048576:Int)<(more.length:Int)
 ·go_wp2;go_ret;exact⟨rfl,Below.refl _ _⟩
 go_wp2_with fail;refine(jp5 _ hx).mono ?_;rintro e w1 ⟨m,q,A0,n0,c0,A1,n1,c1,A2,n2,c2,A3,c3,f,fq,rfl,hR,hQ,hok,hsm, -, -,HB⟩;clear hx;obtain rfl:n2=m.Rz.length:=by
  obtain⟨_,_,_,_,_,_,_,_,_,_,_,_,he, -, -, -,h2⟩:=hR;cases he;exact h2.1
 go_upto_region 4 with fail
 refine wp_HQ ⟨_,hR⟩ ⟨_,hQ⟩ ?_;intro w2 hm hq hb3;replace HB:=Below.t HB hb3;have hf:=Ja (And.intro hok.1 (jo1 hsm));clear hR hQ hb3 hok hsm;replace hx':=hx'.step HB;go_wp2_with fail;refine(jp5 _ hx').mono ?_;rintro e w3 ⟨m',r2,A7,n7,c7,A8,n8,c8,A9,n9,c9,B7,d7,f',fq',rfl,hR,hQ,hok,hsm, -, -,hb3⟩;clear hx' hok;replace hm:=hm.step hb3;replace hq:=hq.step hb3
 replace HB:=Below.t HB hb3;clear hb3;go_upto_region 5 with fail
 refine wp_HQ ⟨_,hR⟩ ⟨_,hQ⟩ ?_;intro w4 hm2 hq2 hb3;replace hm:=hm.step hb3;replace hq:=hq.step hb3;replace HB:=Below.t HB hb3;have hf2:=Ja (And.intro hf.out.1 (jo1 hsm));clear hR hQ hb3 hsm hm2;obtain⟨x,a,ho⟩: ∃x a,jai m q=(x,a):=⟨_,_,rfl⟩;have HO:=Ja ho;clear ho;obtain⟨x0,x1,x2⟩:=hm.cells
 go_wp2_with((refine wpList_load_row rfl 31 (.tmp 6) rfl _ rfl _ _ _ _ hq.k.out Tryz.underlying31 rfl jb3 ?_));go_wp2_with fail;refine(implDo hm hq hf.out.1 hf.out.2).mono ?_;rintro e w5 hd;obtain⟨A4,na4,ca4,A5,na5,ca5,A6,ca6,B0,nb0,cb0,B1,nb1,cb1,rfl,hX,hA,hb3⟩:=hd.parts HO.out;replace hm:=hm.step hb3;replace hq:=hq.step hb3;replace hq2:=hq2.step hb3;replace HB:=Below.t HB hb3
 clear hb3 hd x0 x1 x2;go_upto_region 6 with fail
 refine wp_HA hX hA ?_;intro w6 hx ha hb3;replace hm:=hm.step hb3;replace hq:=hq.step hb3;replace hq2:=hq2.step hb3;replace HB:=Below.t HB hb3;clear hb3 hX hA;obtain⟨x0,x1,x2⟩:=hm.cells;go_wp2_with((refine wpList_load_row rfl 31 (.tmp 6) rfl _ rfl _ _ _ _ hq.k.out Tryz.underlying31 rfl jb3 ?_));go_wp2_with fail;refine(specDo hm hq hf.out.1 hf.out.2).mono ?_;rintro e w7 hd
 obtain⟨A7,na7,ca7,A8,na8,ca8,A9,ca9,B2,nb2,cb2,B3,nb3,cb3,rfl,hX,hA,hb3⟩:=hd.parts HO.out;replace hm:=hm.step hb3;replace hq:=hq.step hb3;replace hq2:=hq2.step hb3;replace HB:=Below.t HB hb3;replace hx:=hx.step hb3;replace ha:=ha.step hb3;clear hb3 hd x0 x1 x2;go_upto_region 7 with fail
 refine wp_HA hX hA ?_;intro w8 hy hb hb3;replace hm:=hm.step hb3;replace hq:=hq.step hb3;replace hq2:=hq2.step hb3;replace HB:=Below.t HB hb3;replace hx:=hx.step hb3;replace ha:=ha.step hb3;clear hb3 hX hA;obtain⟨x0,x1,x2⟩:=hx.cells;obtain⟨y0,y1,y2⟩:=hy.cells;go_wp2_with fail;refine(jqp hx hy).mono ?_;rintro e w9 ⟨rfl,hb3⟩;replace hm:=hm.step hb3;replace hq:=hq.step hb3
 replace hq2:=hq2.step hb3;replace HB:=Below.t HB hb3;replace hx:=hx.step hb3;replace ha:=ha.step hb3;replace hy:=hy.step hb3;replace hb:=hb.step hb3;clear hb3 x0 x1 x2 y0 y1 y2;obtain⟨x0,x1,x2,x3⟩:=ha.cells;obtain⟨y0,y1,y2,y3⟩:=hb.cells;go_wp2_with fail;refine(jp8 ha hb).mono ?_;rintro e w10 ⟨rfl,hb3⟩;replace hm:=hm.step hb3;replace hq:=hq.step hb3;replace hq2:=hq2.step hb3
 replace HB:=Below.t HB hb3;replace hx:=hx.step hb3;replace ha:=ha.step hb3;clear hb3 x0 x1 x2 x3 y0 y1 y2 y3 hy hb;go_upto_region 9 with fail
 go_cut [95] from 59 to 95 (fun v wx=>∃bb:Bool,v= .bool bb∧(bb=false→Ys m=true∧Yw q=true∧Yw r2=true∧q.repo≠r2.repo∧q.user≠r2.user∧q.kind≠10∧r2.kind≠10)∧Below w10.heap.size w10 wx)
 case first=>
  obtain⟨x0,x1,x2⟩:=hm.cells;go_wp2_with fail;refine(jhe _ hm.r.choose_spec hf.out.1).mono ?_;rintro e w20 ⟨rfl,hb⟩;replace hm:=hm.step hb;replace hq:=hq.step hb;replace hq2:=hq2.step hb;clear x0 x1 x2;cases hmo:Ys m
  ·skip;go_wp2_with fail;go_meet
   case rel=>exact⟨true,rfl,by simp,hb⟩
  obtain⟨q0,q1,q2,q3,q4,q5,q6,q7,q8,q9,q10,q11,q12,q13,q14⟩:=hq.cells;go_wp2_with fail;clear q0 q1 q2 q3 q4 q5 q6 q7 q8 q9 q10 q11 q12 q13 q14;refine(jhd _ hq.r.choose_spec hf.out.2).mono ?_;rintro e w21 ⟨rfl,hb3⟩;replace hm:=hm.step hb3;replace hq:=hq.step hb3;replace hq2:=hq2.step hb3;replace hb:=Below.t hb hb3;clear hb3;cases hro:Yw q
  ·skip;go_wp2_with fail;go_meet
   case rel=>exact⟨true,rfl,by simp,hb⟩
  obtain⟨q0,q1,q2,q3,q4,q5,q6,q7,q8,q9,q10,q11,q12,q13,q14⟩:=hq2.cells;go_wp2_with fail;clear q0 q1 q2 q3 q4 q5 q6 q7 q8 q9 q10 q11 q12 q13 q14;refine(jhd _ hq2.r.choose_spec hf2.out.2).mono ?_;rintro e w22 ⟨rfl,hb3⟩;replace hm:=hm.step hb3;replace hq:=hq.step hb3;replace hq2:=hq2.step hb3;replace hb:=Below.t hb hb3;clear hb3;cases hrp:Yw r2
  ·skip;go_wp2_with fail;go_meet
   case rel=>exact⟨true,rfl,by simp,hb⟩
  obtain⟨q0, -,q2,q3, -⟩:=hq.cells;obtain⟨r0, -,r2',r3, -⟩:=hq2.cells;cases e1:(q.repo==r2.repo)<;>cases e2:(q.user==r2.user)<;>cases e3:(q.kind==10)<;>cases e4:(r2.kind==10)
  case false.false.false.false=>
   go_wp2_with fail;go_meet
   case rel=>exact⟨false,rfl,fun _=>⟨hmo,hro,hrp,by simpa using e1,by simpa using e2,by simpa using e3,by simpa using e4⟩,hb⟩
  all_goals
   clear hmo hro hrp;go_wp2_with fail;go_meet
   case rel=>exact⟨true,rfl,by simp,hb⟩
 case rest=>
  obtain⟨w5,hw5⟩: ∃w5,w5=wc:=⟨_,rfl⟩;subst hw5;obtain⟨bb,rfl,hcc,hb3⟩:=hcut;replace hm:=hm.step hb3;replace hq:=hq.step hb3;replace hq2:=hq2.step hb3;replace HB:=Below.t HB hb3;replace hx:=hx.step hb3;replace ha:=ha.step hb3;clear hb3;have HCC:=Ja hcc;clear hcc;cases bb;rotate_left
  ·skip;obtain⟨q0,q1,q2,q3,q4,q5,q6,q7,q8,q9,q10,q11,q12,q13,q14⟩:=hq.cells;have C1:=fun n:BelowW w5=>jhx n.val (hq.step n.property).r.choose_spec hf.out.2;have C2:=fun n:BelowW w5=>jhd n.val (hq.step n.property).r.choose_spec hf.out.2;have C3:=fun n:BelowW w5=>chOk_any n.val;go_upto_region 10 with fail
   cases hro:Yw q
   all_goals
    simp only[hro] at C1 C2;have D1:=Ja C1;have D2:=Ja C2;have D3:=Ja C3;clear C1 C2 C3 hro;have n0:=BelowW.nonempty w5;have ex0:=BelowW.ex (w:=w5);have g0:=fun n:BelowW w5=>n.cell q0;have g1:=fun n:BelowW w5=>n.cell q1;have g2:=fun n:BelowW w5=>n.cell q2;have g3:=fun n:BelowW w5=>n.cell q3;have g4:=fun n:BelowW w5=>n.cell q4;have g5:=fun n:BelowW w5=>n.cell q5
    have g6:=fun n:BelowW w5=>n.cell q6;have g7:=fun n:BelowW w5=>n.cell q7;have g8:=fun n:BelowW w5=>n.cell q8;have g9:=fun n:BelowW w5=>n.cell q9;have g10:=fun n:BelowW w5=>n.cell q10;have g11:=fun n:BelowW w5=>n.cell q11;have g12:=fun n:BelowW w5=>n.cell q12;have g13:=fun n:BelowW w5=>n.cell q13;have g14:=fun n:BelowW w5=>n.cell q14;clear q0 q1 q2 q3 q4 q5 q6 q7 q8 q9 q10 q11 q12 q13 q14
    refine Jf (by kernel_rfl) (by kernel_rfl) ?_
    repeat(go_big_quiet_step(first|(go_at_call 25;exact BelowW.calls _ (D1.out _))|(go_at_call 21;exact BelowW.calls _ (D2.out _))|(go_at_call 22;exact BelowW.calls _ (D3.out _))))
    refine wpQuiet_nil ?_;rintro w9 ⟨m9,hw9⟩;have hb9:=m9.property;rw[←hw9] at hb9;clear hw9 m9;go_wp2;go_ret;exact⟨rfl,Below.t HB hb9⟩
  have HK:=Ja (HCC.out rfl);have HD:=Ja (show Zn m q=(x,a) by rw[←HO.out,jhr ⟨HK.out.1,HK.out.2.1⟩]);have HXO:=Ja (show Ys x=true by have h:=jh2 HK.out.1 HK.out.2.1;rw[HD.out] at h;exact h);obtain⟨y,b,ho⟩: ∃y b,Zn x r2=(y,b):=⟨_,_,rfl⟩;obtain⟨v,b',ho'⟩: ∃v b',Zn m r2=(v,b'):=⟨_,_,rfl⟩
  have HVO:=Ja (show Ys v=true by have h:=jh2 HK.out.1 HK.out.2.2.1;rw[ho'] at h;exact h);obtain⟨t1,t2,t3⟩:=orders (m:=m) HK.out.2.1 HK.out.2.2.1 HK.out.2.2.2.2.2.1 HK.out.2.2.2.2.2.2 HK.out.2.2.2.1 HK.out.2.2.2.2.1;simp only[HD.out,ho',ho] at t1 t2 t3;subst t3;have HO2:=Ja (show jai x r2=(y,b) by rw[jhr ⟨HXO.out,HK.out.2.2.1⟩,ho])
  have HO3:=Ja (show jai m r2=(v,b) by rw[jhr ⟨HK.out.1,HK.out.2.2.1⟩,ho']);have HO4:=Ja (show jai v q=(y,a) by rw[jhr ⟨HVO.out,HK.out.2.1⟩];exact Prod.ext t1.symm t2.symm);have HF2:=Ja (And.intro (Jv HXO.out) hf2.out.2);have HF4:=Ja (And.intro (Jv HVO.out) hf.out.2);clear t1 t2 ho ho';obtain⟨x0,x1,x2⟩:=hx.cells
  go_wp2_with((refine wpList_load_row rfl 31 (.tmp 8) rfl _ rfl _ _ _ _ hq2.k.out Tryz.underlying31 rfl jb3 ?_));go_wp2_with fail;refine(implDo hx hq2 HF2.out.1 HF2.out.2).mono ?_;rintro e w6 hd;obtain⟨D4,nd4,cd4,D5,nd5,cd5,D6,cd6,E0,ne0,ce0,E1,ne1,ce1,rfl,hX,hA,hb3⟩:=hd.parts HO2.out;replace hm:=hm.step hb3;replace hq:=hq.step hb3;replace hq2:=hq2.step hb3;replace HB:=Below.t HB hb3
  replace hx:=hx.step hb3;replace ha:=ha.step hb3;clear hb3 hd x0 x1 x2;go_upto_region 12 with fail
  refine wp_HA hX hA ?_;intro w7 hy hb hb3;replace hm:=hm.step hb3;replace hq:=hq.step hb3;replace hq2:=hq2.step hb3;replace HB:=Below.t HB hb3;replace hx:=hx.step hb3;replace ha:=ha.step hb3;clear hb3 hX hA;obtain⟨x0,x1,x2⟩:=hm.cells;go_wp2_with((refine wpList_load_row rfl 31 (.tmp 8) rfl _ rfl _ _ _ _ hq2.k.out Tryz.underlying31 rfl jb3 ?_));go_wp2_with fail
  refine(implDo hm hq2 hf2.out.1 hf2.out.2).mono ?_;rintro e w8 hd;obtain⟨F4,nf4,cf4,F5,nf5,cf5,F6,cf6,G0,ng0,cg0,G1,ng1,cg1,rfl,hX,hA,hb3⟩:=hd.parts HO3.out;replace hm:=hm.step hb3;replace hq:=hq.step hb3;replace hq2:=hq2.step hb3;replace HB:=Below.t HB hb3;replace hx:=hx.step hb3;replace ha:=ha.step hb3;replace hy:=hy.step hb3;replace hb:=hb.step hb3;clear hb3 hd x0 x1 x2
  go_upto_region 13 with fail
  refine wp_HA hX hA ?_;intro w9 hv hc hb3;replace hm:=hm.step hb3;replace hq:=hq.step hb3;replace hq2:=hq2.step hb3;replace HB:=Below.t HB hb3;replace hx:=hx.step hb3;replace ha:=ha.step hb3;replace hy:=hy.step hb3;replace hb:=hb.step hb3;clear hb3 hX hA;obtain⟨x0,x1,x2⟩:=hv.cells;go_wp2_with((refine wpList_load_row rfl 31 (.tmp 6) rfl _ rfl _ _ _ _ hq.k.out Tryz.underlying31 rfl jb3 ?_))
  go_wp2_with fail;refine(implDo hv hq HF4.out.1 HF4.out.2).mono ?_;rintro e w10 hd;obtain⟨M4,nm4,cm4,M5,nm5,cm5,M6,cm6,N0,nn0,cn0,N1,nn1,cn1,rfl,hX,hA,hb3⟩:=hd.parts HO4.out;replace hm:=hm.step hb3;replace hq:=hq.step hb3;replace hq2:=hq2.step hb3;replace HB:=Below.t HB hb3;replace hx:=hx.step hb3;replace ha:=ha.step hb3;replace hy:=hy.step hb3;replace hb:=hb.step hb3;replace hv:=hv.step hb3
  replace hc:=hc.step hb3;clear hb3 hd x0 x1 x2;go_upto_region 14 with fail
  refine wp_HA hX hA ?_;intro w11 hz hd hb3;replace hm:=hm.step hb3;replace hq:=hq.step hb3;replace hq2:=hq2.step hb3;replace HB:=Below.t HB hb3;replace hx:=hx.step hb3;replace ha:=ha.step hb3;replace hy:=hy.step hb3;replace hb:=hb.step hb3;replace hv:=hv.step hb3;replace hc:=hc.step hb3;clear hb3 hX hA;obtain⟨y0,y1,y2⟩:=hy.cells;obtain⟨z0,z1,z2⟩:=hz.cells;go_wp2_with fail
  refine(jqp hy hz).mono ?_;rintro e w20 ⟨rfl,hb3⟩;replace ha:=ha.step hb3;replace hb:=hb.step hb3;replace hc:=hc.step hb3;replace hd:=hd.step hb3;replace HB:=Below.t HB hb3;clear hb3 y0 y1 y2 z0 z1 z2;obtain⟨y0,y1,y2,y3⟩:=ha.cells;obtain⟨z0,z1,z2,z3⟩:=hd.cells;go_wp2_with fail;refine(jp8 ha hd).mono ?_;rintro e w21 ⟨rfl,hb3⟩;replace hb:=hb.step hb3;replace hc:=hc.step hb3
  replace HB:=Below.t HB hb3;clear hb3 y0 y1 y2 y3 z0 z1 z2 z3;obtain⟨y0,y1,y2,y3⟩:=hb.cells;obtain⟨z0,z1,z2,z3⟩:=hc.cells;go_wp2_with fail;refine(jp8 hb hc).mono ?_;rintro e w22 ⟨rfl,hb3⟩;go_wp2;go_ret;exact⟨rfl,Below.t HB hb3⟩
def Opens {α H:Type} (enc:TypeId×Value→H) (P:Program) (t:TypeId) (r:Rp α) (ok:α→Prop):Prop:=
 ∀ {w:World} {base:Nat} {spare:Nat→Bool} {held:Bool} {fuel:Nat} {cs:List Value} {x:DataW H×List MemPlace},DataW.trod enc P w base spare held fuel t cs=some x→∃y fp,r.R w cs y fp∧ok y
section
variable {H:Type} {enc:TypeId×Value→H} {P:Program}
theorem opens_byte {t:TypeId} (ht:P.underlying t=some (.int .u8)):Opens enc P t Rp.byte (fun _=>True):=fun h=>by
 obtain⟨n,rfl,_,hw⟩:=DataW.trod_int ht h;simp[Lit.wf,IntKind.min,IntKind.max,IntKind.signed,IntKind.bits] at hw;refine⟨UInt8.ofNat n.toNat,[],⟨?_,rfl⟩,trivial⟩;have e:((UInt8.ofNat n.toNat).toNat:Int)=n:=by
  rw[UInt8.toNat_ofNat'];omega
 show [Value.int .u8 n]= [Value.int .u8 ((UInt8.ofNat n.toNat).toNat:Int)];rw[e]
theorem spot_none {w:World} {a:Addr} {v:Value} (h:w.cell? a=some v):a.spot=none:=by
 unfold World.cell? at h;split at h
 ·split at h
  ·cases h
  ·rename_i hs;simpa using hs
 ·cases h
theorem opens_rows {α:Type} {r:Rp α} {ok:α→Prop} {w:World} {base:Nat} {a:Addr} : ∀(len:Nat),(∀i,i<len→∃cs' y f,w.cells? base (a.add (i*r.k)) r.k=some cs'∧r.R w cs' y f∧ok y)→
  ∃xs l fp,l.length=len∧AllR r w xs l fp∧(∀y∈l,ok y)∧∀j u,xs[j]? =some u→w.cell? (a.add j)=some u
 | 0,_=>⟨[],[],[],rfl,⟨rfl,rfl⟩,by simp,by simp⟩
 |len+1,h=>by
  obtain⟨xs,l,fp,hl,ha,hok,hc⟩:=opens_rows len (fun i hi=>h i (by omega));obtain⟨cs',y,f,hcs,hr,hy⟩:=h len (by omega);obtain⟨_,hcl,hat⟩:=World.cells?_some hcs;have hxl:=ha.len;refine⟨xs++cs',l++ [y],fp++f,by simp[hl],ha.snoc hr,fun z hz=> ?_,fun j u hu=> ?_⟩
  ·rcases List.mem_append.1 hz with hz|hz
   ·exact hok z hz
   ·simp at hz;subst hz;exact hy
  ·by_cases hj:j<xs.length
   ·rw[List.getElem?_append_left hj] at hu;exact hc j u hu
   ·rw[List.getElem?_append_right (by omega)] at hu;have hlt:=(List.getElem?_eq_some_iff.1 hu).1;have:=hat (i:=j - xs.length) (by omega);rw[hu] at this;rw[Go.Deep.add_add,show len*r.k+(j - xs.length)=j from by rw[hl] at hxl;omega] at this;exact this
theorem opens_slice {α:Type} {r:Rp α} {ok:α→Prop} {t e:TypeId} (ht:P.underlying t=some (.slice e)) (hC:P.cellsOf e=r.k) (hk:0<r.k) (h:Opens enc P e r ok):Opens enc P t (Rp.slice r) (fun l=>∀y∈l,ok y):=fun {w base spare held fuel cs x} hr=>by
 rcases open_slice ht hr with ⟨rfl,_⟩|⟨a,len,cap,m,n,D,Pl,rfl,hb,hl,hm,hmm,_,hi⟩
 ·exact⟨[],[],⟨none,0,0,rfl,SlR.nil⟩,by simp⟩
 ·have hle:len≤m:=by rw[hmm];split<;>omega
  rw[hC] at hi;obtain⟨xs,l,fp,hlen,ha,hok,hc⟩:=opens_rows (r:=r) (ok:=ok) (w:=w) (base:=base) (a:=a) len (fun i hii=>by
   obtain⟨cs',hcs,htr⟩:=hi i (by omega);obtain⟨y,f,hR,hy⟩:=h htr;exact⟨cs',y,f,hcs,hR,hy⟩)
  have hxl:=ha.len;by_cases h0:len=0
  ·subst h0;have:l= []:=List.eq_nil_of_length_eq_zero hlen;subst this;obtain⟨rfl,rfl⟩:=ha;exact⟨[],[],⟨some a,0,cap,rfl,rfl,Nat.zero_le _,hm,[],[],[],⟨by simp,.inl ⟨rfl,rfl⟩⟩,⟨rfl,rfl⟩,rfl⟩,by simp⟩
  ·have hpos:0<xs.length:=by rw[hxl,hlen];exact Nat.mul_pos (by omega) hk
   have h00:=hc 0 xs[0] (List.getElem?_eq_getElem hpos);have ha0:a.add 0=a:=by simp[Addr.add]
   rw[ha0] at h00;obtain⟨b,o,s⟩:=a;have hs:s=none:=spot_none h00;subst hs;refine⟨l,[b]++fp,⟨_,len,cap,rfl,hlen.symm,hl,hm,xs,[b],fp,⟨by rw[hxl,hlen],.inr ⟨by omega,b,o,rfl,rfl,World.block_lt_of_cell? w _ h00,fun j u hu=> ?_⟩⟩,ha,rfl⟩,hok⟩;have:=hc j u hu;rwa [Addr.add_lit] at this
theorem post_of_below {f:Func} {s:ChangeSpec} {apart fresh handsOn again:Bool} {W W':World} {args:Array Value} {v:Value} {ds gs:List (DataW H)} {before pa pv:List MemPlace}
  (hW:DataW.Whole enc P f.params.toList s.vars apart W args.toList ds gs before)
  (hres: ∀(b:Nat) (sp:Nat→Bool) (hd:Bool),DataW.TrodAll enc P W' b sp hd f.resultTypes.toList (v.resultList f.resultTypes.size) (s.fn H (ds++gs)).results [])
  (hargs: ∀sp:Nat→Bool,(∀p∈before,sp p.block=true)→DataW.TrodAll enc P W' 0 sp true f.params.toList args.toList (s.fn H (ds++gs)).args pa)
  (hvars: ∀sp:Nat→Bool,(∀p∈before,sp p.block=true)→DataW.TrodVars enc P W' sp s.vars (s.fn H (ds++gs)).vars pv)
  (hps:before=pa++pv) (hb:Below W.heap.size W W')
  (hok: ∀(j:Nat) (t:TypeId) (r:Value),f.resultTypes[j]? =some t→(v.resultList f.resultTypes.size)[j]? =some r→Value.okWide P W' .any 0 t r):
  s.post enc P f apart fresh handsOn again W args v W':=by
 have hlt: ∀p∈before,p.block<W.heap.size:=fun p hp=>hW.lt p hp;have hold: ∀p∈before,(fun b=>decide (b<W.heap.size)) p.block=true:=fun p hp=>by simpa using hlt p hp
 refine⟨ds,gs,before,[],pa,pv,hW,hres _ _ _,hargs _ hold,hvars _ hold,World.keptBut_mono (fun p hp=>⟨hp, ?_⟩) (hb.frame (·∈before)),fun _=> ?_⟩
 ·rw[hps,List.mem_append] at hp;exact Or.inr hp
 ·obtain⟨_,_,_,_,_,hz,hn⟩:=hW;refine⟨hok,_,_,([]++pa)++pv,⟨[]++pa,pv,trodAll_append (hargs _ (fun _ _=>rfl)) (hres _ _ _),hvars _ (fun _ _=>rfl),rfl, ?_, ?_⟩, ?_⟩
  ·intro b off hp;have hin:MemPlace.cell b off∈before:=by rw[hps];simpa using hp
   rw[hb.frozen (hlt _ hin)];exact hz b off hin
  ·intro ha;have:=hn ha;rw[hps] at this;simpa using this
  ·intro p hp _;rw[hps];simpa using hp
end
theorem fnMdlOrder_own:ownKnob Tryz.prog.godebug=none:=by kernel_rfl
theorem fnMdlOrder_laidOut:laidOutB Tryz.prog=true:=by kernel_rfl
theorem fnMdlOrder_contract (H:Type) (enc:TypeId×Value→H) (W:World) (base:Nat) (args:Array Value) (ds gs:List (DataW H)) (before:List MemPlace)
  (hval0: ∀(j:Nat) t v,Tryz.f6.params[j]? =some t→args[j]? =some v→Value.okWide Tryz.prog W .any base t v)
  (hW:DataW.Whole enc Tryz.prog Tryz.f6.params.toList Rows.fnMdlOrderSpec.vars false W args.toList ds gs before):
  Calls Tryz.prog 6 args W fun e W'=>∃v,e= .returned v∧Rows.fnMdlOrderSpec.post enc Tryz.prog Tryz.f6 false true false false W args v W':=by
 have hval:=hval0;have hW':=hW;obtain⟨p,q,hA0,hV,rfl,hfz,hnd⟩:=hW;have hA:DataW.TrodAll enc Tryz.prog W 0 (fun _=>true) true Tryz.f6.params.toList args.toList ds p:=hA0;rw[Tryz.params6] at hA hval;obtain⟨v0,v1,d0,d1,p0,p1,rfl,rfl,rfl,h0,h1⟩:=trodAll_two hA;obtain⟨rfl,rfl⟩:=trodVars_none hV;have h0k:=h0;have h1k:=h1;obtain⟨a0,len0,cap0,rfl⟩:=okWide_slice Tryz.underlying22 (hval 0 22 v0 rfl rfl)
 obtain⟨fuel0,hf0⟩:=h0;obtain⟨l0,fp0,⟨A0,n0,c0,hcs0,hs0⟩,hw0⟩:=opens_slice Tryz.underlying22 (by kernel_rfl) (by decide) (opens_byte Tryz.underlying5) hf0;have hc0:Value.slice a0 len0 cap0= .slice A0 n0 c0:=by simpa [Value.cells] using hcs0
 rw[hc0] at h0k hW' ⊢;clear hf0 hcs0 hc0;obtain⟨a1,len1,cap1,rfl⟩:=okWide_slice Tryz.underlying22 (hval 1 22 v1 rfl rfl);obtain⟨fuel1,hf1⟩:=h1;obtain⟨l1,fp1,⟨A1,n1,c1,hcs1,hs1⟩,hw1⟩:=opens_slice Tryz.underlying22 (by kernel_rfl) (by decide) (opens_byte Tryz.underlying5) hf1;have hc1:Value.slice a1 len1 cap1= .slice A1 n1 c1:=by simpa [Value.cells] using hcs1
 rw[hc1] at h1k hW' ⊢;clear hf1 hcs1 hc1;clear hA0 hval hval0;simp only[List.append_nil] at hW';refine(lawOrder W hs0 hs1).mono fun e W' ⟨he,hb⟩=> ?_;subst he;have hlt0: ∀y∈p0,y.block<W.heap.size:=fun y hy=>hW'.lt y (by simp[hy]);have hlt1: ∀y∈p1,y.block<W.heap.size:=fun y hy=>hW'.lt y (by simp[hy])
 refine⟨_,rfl,post_of_below (pa:=p0++p1) (pv:=[]) hW' (fun _ _ _=>trodAll_mk1 (shut_bool Tryz.underlying4 _)) (fun sp hsp=> ?_) (fun _ _=>rfl) (by simp) hb (ok_one (by kernel_rfl) rfl (okWide_bool_mk Tryz.underlying4 _))⟩
 exact trodAll_mk2 (WideElems.Trod_stays fnMdlOrder_laidOut (by kernel_rfl) (of_decide_eq_true (by kernel_rfl)) h0k (fun y hy=>hb.same (hlt0 y hy)) (fun y hy=>hsp y (by simp[hy]))) (WideElems.Trod_stays fnMdlOrder_laidOut (by kernel_rfl) (of_decide_eq_true (by kernel_rfl)) h1k (fun y hy=>hb.same (hlt1 y hy)) (fun y hy=>hsp y (by simp[hy])))
mutual
def fnMdlOrder_flat:DataW Unit→List Value
 | .lit l=>[l.value]
 | .agg ps=>fnMdlOrder_flats ps
 |_=>[]
def fnMdlOrder_flats:List (DataW Unit)→List Value
 | []=>[]
 |d::r=>fnMdlOrder_flat d++fnMdlOrder_flats r
end
noncomputable def fnMdlOrder_world (os:Os):World:=
 { World.holding Tryz.prog os ⟨#[],#[],[]⟩ with heap:=(((World.holding Tryz.prog os ⟨#[],#[],[]⟩).heap.modify 2 fun
   | .cells _ t frozen=> .cells (fnMdlOrder_flat Rows.laid_unicode_utf8_acceptRanges).toArray t frozen
   |o=>o).modify 1 fun
   | .cells _ t frozen=> .cells (fnMdlOrder_flat Rows.laid_unicode_utf8_first).toArray t frozen
   |o=>o)}
set_option maxRecDepth 100000 in
theorem fnMdlOrder_met (os:Os):laidMet Tryz.prog Rows.fnMdlOrderRow.laid ((fnMdlOrder_world os).forCall (fun _ _=>0) ⟨#[],#[.slice none 0 0,.slice none 0 0],[]⟩).memory:=
 laidMet_of_run' 8 (by kernel_rfl) (by kernel_rfl)
theorem fnMdlOrder_reads (os:Os) {H:Type} (enc:TypeId×Value→H): ∃x,DataW.whole enc Tryz.prog ((fnMdlOrder_world os).forCall (fun _ _=>0) ⟨#[],#[.slice none 0 0,.slice none 0 0],[]⟩).memory Tryz.f6.params.toList Rows.fnMdlOrderSpec.vars false (#[.slice none 0 0,.slice none 0 0]:Array Value).toList 8=some x:=
 Option.isSome_iff_exists.1 (show(DataW.whole enc Tryz.prog ((fnMdlOrder_world os).forCall (fun _ _=>0) ⟨#[],#[.slice none 0 0,.slice none 0 0],[]⟩).memory Tryz.f6.params.toList Rows.fnMdlOrderSpec.vars false (#[.slice none 0 0,.slice none 0 0]:Array Value).toList 8).isSome=true by kernel_rfl)
theorem fnMdlOrder_lifted (os:Os) (started:os.Started) (H:Type) (enc:TypeId×Value→H) (F:Stop.Interp):
  ReturnsInHanded {} Tryz.checked os 6 .any ((OpenSpec.ofChange Rows.fnMdlOrderSpec).preRow enc Tryz.prog Tryz.f6 Rows.fnMdlOrderRow.domain false Rows.fnMdlOrderRow.laid) (((OpenSpec.ofChange Rows.fnMdlOrderSpec).at F).post enc Tryz.prog Tryz.f6 false true false false):=by
 obtain⟨x0,hx⟩:=fnMdlOrder_reads os enc;refine returnsInHanded_of_row (C:=Tryz.checked) (s:=OpenSpec.ofChange Rows.fnMdlOrderSpec) fnMdlOrder_own started (by kernel_rfl) Tryz.func6
  (witness_row_at (enc:=enc) (C:=Tryz.checked) false (fnMdlOrder_world os) #[.slice none 0 0,.slice none 0 0] rfl (by kernel_rfl) (by kernel_rfl) (by kernel_rfl)
   (OpenSpec.preRow_of_cond 8 hx (by kernel_rfl) (fun k hk=>by cases hk) (by kernel_rfl) (fnMdlOrder_met os))) ?_
 intro W base args ds gs before hval hW _ _ _ _ _ _;exact fnMdlOrder_contract H enc W base args ds gs before hval hW
theorem fnMdlOrder_closed:joinedFacts Tryz.pinned.checked.prog 6 Tryz.f6 (OpenSpec.ofChange Rows.fnMdlOrderSpec).bare Rows.fnMdlOrderRow=true:=by
 unfold joinedFacts;simp only[Bool.and_eq_true]
 repeat' apply And.intro
 all_goals(as_aux_lemma=>kernel_rfl)
theorem fnMdlOrder_said:Rows.FnMdlOrderSaid:=
 OpenClaim.holds_of_cond 6 Tryz.f6 rfl rfl rfl rfl rfl rfl rfl ⟨rfl,rfl,rfl,rfl,rfl⟩ rfl rfl rfl rfl rfl (by kernel_rfl) Tryz.func6 fnMdlOrder_closed
  (of_decide_eq_true (by kernel_rfl)) (by unfold Func.isWrapper;first|(rw[if_pos (by decide+kernel)];kernel_rfl)|(rw[if_neg (by decide+kernel)];exact⟨rfl,rfl⟩))
  (fun os started H enc _ F=>by rw[OpenClaim.pre_eq_preRow];exact fnMdlOrder_lifted os started H enc F)
theorem fnMdlOrder_plain (f:FuncId) (fn:Func) (hf:Tryz.pinned.checked.prog.funcNamed "loop.example/chartulary/laws.FnMdlOrder" =some f) (hfn:Tryz.pinned.checked.prog.funcs[f]? =some fn):
  false=Tryz.pinned.checked.prog.looks []∧∀(j:Nat) t,fn.params[j]? =some t→Tryz.pinned.checked.prog.wantsStandIn t=false:=by
 obtain rfl:f=6:=Option.some.inj ((show Tryz.prog.funcNamed "loop.example/chartulary/laws.FnMdlOrder" =some 6 by kernel_rfl).symm.trans hf) |>.symm;obtain rfl:fn=Tryz.f6:=(Option.some.inj (Tryz.func6.symm.trans hfn)).symm;refine⟨by kernel_rfl,fun j t ht=> ?_⟩;rw[Tryz.params6] at ht;have hm:=Array.mem_of_getElem? ht;simp only[List.mem_toArray,List.mem_cons,List.not_mem_nil,or_false] at hm
 rcases hm with rfl|rfl
 ·exact(show Tryz.prog.wantsStandIn 22=false by kernel_rfl)
 ·exact(show Tryz.prog.wantsStandIn 22=false by kernel_rfl)
theorem fnMdlOrder_holds:Rows.FnMdlOrderCardSaid:=
 Claim7.holds_tied_plain_at .later [] _ _ _ _ fnMdlOrder_said (fun _ h=>by cases h) (by kernel_rfl) (fun _ h=>by cases h) fnMdlOrder_row_tie rfl ⟨rfl,rfl⟩ (by kernel_rfl) rfl fnMdlOrder_plain (by kernel_rfl)
#print axioms fnMdlOrder_holds
end Go.Proofs.YtlkoaobaoffpaaaGreatDoor
