/- Lemmas and walks, joined by program. -/
import Derived.Test.YtobbdhgkcoeifaaGreatDoorZ13
namespace Go.Proofs.YtobbdhgkcoeifaaGreatDoor
open Go.RowKit
attribute [local go_sem ↓] Go.wp_at_zero Go.wp_at_succ
set_option maxHeartbeats 8000000
set_option maxRecDepth 100000
set_option linter.unusedSimpArgs false
set_option linter.unusedVariables false
def ap2Γ (g H Q:Nat) (E:Value):Xr:=fun s v w=>match s with
 | 0=>Z8 g v
 | 7=>Z8 Q v
 | 82=>v= .pointer (some ⟨Q,8,none⟩)
 | 83=>v=E
 | 84=>Z8 g v
 | 85=>jh8 11 v
 | 86=>Z8 g v
 | 87=>jh8 11 v
 | 88=>Z8 g v
 | 89=>jcn 2 v
 | 90=>∃b,v= .bool b
 | 91=>jqi v
 | 92=>FNewH g H v w
 | 93=>True
 | 94=>v= .pointer (some ⟨Q,8,none⟩)
 |_=>True
theorem jno (g H Q:Nat) {E:Value} (hE: ∀k,E.ownBlock=some k→k<H):Zx (Only (g::E.ownBlock.toList)) (ap2Γ g H Q E):=fun s v w w' h ho=>by
 unfold ap2Γ at*;split at h<;>first|exact h|exact FStrsH.only h ho hE|exact FCellH.only h ho hE|exact FNewH.only h ho hE
def FIntsN (g n:Nat) (v:Value) (w:World):Prop:=∃b l,v= .slice (some ⟨b,0,none⟩) n n∧l.length=n∧b≠g∧Blk w b 3 (jjy l)
theorem FIntsN.only {g n:Nat} {v:Value} {w w':World} (h:FIntsN g n v w) (ho:Only [g] w w'):FIntsN g n v w':=by
 obtain⟨b,l,h1,h2,h3,h4⟩:=h;exact⟨b,l,h1,h2,h3,h4.only ho (by simpa using h3)⟩
def oldΓ (g Q:Nat):Xr:=fun s v w=>match s with
 | 0=>Z8 g v
 | 7=>Z8 Q v
 | 63=>v= .pointer (some ⟨Q,6,none⟩)
 | 64=>jpn v
 | 65=>jpn v
 | 66=>FIntsN g 4 v w
 | 67=>Z8 g v
 | 68=>jcn 4 v
 | 69=>FICell g v w
 | 70=>jpn v
 | 71=>v= .pointer (some ⟨Q,6,none⟩)
 |_=>True
theorem jmu (g Q:Nat):Zx (Only [g]) (oldΓ g Q):=fun s v w w' h ho=>by
 unfold oldΓ at*;split at h<;>first|exact h|exact FIntsN.only h ho|exact FICell.only h ho
theorem jhv {B0 B1 B2:Option Addr} {m0 m1 d0 d1 d2:Nat} {rs:List Xq} {fs:List Nat} (g P:Nat) (n:Int) (hn:n≤1000) (hP:P+400≤1000000) (w:World) (h:Rd w g P) (hrs:SlR Rp.repo w B2 rs.length d2 rs fs) (hgs:g∉fs) (hfit: ∀p∈rs,Ym p.Uz∧p.Uz.length≤1000):
  Calls Tryz.prog 31 #[.pointer (some ⟨g,0,none⟩),.agg #[.slice B0 m0 d0,.slice B1 m1 d1,.slice B2 rs.length d2],.int .i64 n] w (DrReq 5 g (P+400) w):=by
 have hg:=h.lt;have HRS:=Ja (fun(W:World) (ho:Only [g] w W)=>hrs.only ho fun z hz=>by simp only[List.mem_singleton];exact fun e=>hgs (e▸hz));have HFR:=Ja hfit;clear hrs hfit;have km:=Blk.new w 26 #[.slice B0 m0 d0,.slice B1 m1 d1,.slice B2 rs.length d2];have r1:=h.step ((Below.refl w.heap.size w).alloc nle (.cells #[.slice B0 m0 d0,.slice B1 m1 d1,.slice B2 rs.length d2] 26))
 have o1:=(Only.refl [g] w).alloc (.cells #[.slice B0 m0 d0,.slice B1 m1 d1,.slice B2 rs.length d2] 26);have kr:=Blk.new (w.alloc (.cells #[.slice B0 m0 d0,.slice B1 m1 d1,.slice B2 rs.length d2] 26)) 31 RZ;replace km:=km.step ((Below.refl _ _).alloc nle (.cells RZ 31));replace r1:=r1.step ((Below.refl _ _).alloc nle (.cells RZ 31));replace o1:=o1.alloc (.cells RZ 31)
 have hsz:((w.alloc (.cells #[.slice B0 m0 d0,.slice B1 m1 d1,.slice B2 rs.length d2] 26)).alloc (.cells RZ 31)).heap.size=w.heap.size+2:=by simp
 have hsz1:(w.alloc (.cells #[.slice B0 m0 d0,.slice B1 m1 d1,.slice B2 rs.length d2] 26)).heap.size=w.heap.size+1:=by simp
 go_enter Tryz.func31,Tryz.ntmps31;go_upto_region 1 with fail
 generalize hw1:(w.alloc (.cells #[.slice B0 m0 d0,.slice B1 m1 d1,.slice B2 rs.length d2] 26)).alloc (.cells RZ 31)=w1 at km kr r1 o1 hsz ⊢;rw[hsz1] at kr;clear hw1 hsz1 h;have mm0:=km.cell 0;have mm1:=km.cell 1;have mm2:=km.cell 2;simp only[List.getElem?_toArray,List.getElem?_cons_zero,List.getElem?_cons_succ] at mm0 mm1 mm2;go_wp2_with fail
 refine(jgx g P (by omega) _ r1 (HRS.out _ o1) hgs HFR.out).mono ?_;rintro e w2 ⟨q,A,c,f,rfl, -,hown,hsm,hr,ho,hlen⟩;have hs2:=ho.size;have h:RQ w g (P+200) #[.slice B0 m0 d0,.slice B1 m1 d1,.slice B2 rs.length d2] RZ w2.heap.size q (.slice A q.Ez.length c) (w2.alloc (.cells (V5 q (.slice A q.Ez.length c)) 31)):=
  ⟨hr.step ((Below.refl _ _).alloc nle _),(o1.trans ho).alloc _,(km.only ho (by simp;omega)).step ((Below.refl _ _).alloc nle _),(kr.only ho (by simp;omega)).step ((Below.refl _ _).alloc nle _),Blk.new _ _ _,by rw[←hsz];exact hown.alloc _,hsm,hg,by omega⟩
 clear km kr r1 o1 hown hsm hr ho mm0 mm1 mm2;unfold V5;go_upto_region 2 with fail
 generalize hw3:w2.alloc (.cells (RA q (.slice A q.Ez.length c)) 31)=w3;replace h:RQ w g (P+200) #[.slice B0 m0 d0,.slice B1 m1 d1,.slice B2 rs.length d2] RZ w2.heap.size q (.slice A q.Ez.length c) w3:=by
  rw[←hw3];exact h
 generalize(#[.slice B0 m0 d0,.slice B1 m1 d1,.slice B2 rs.length d2]:Array Value)=mc at h;generalize hRC:(RZ:Array Value)=rc at h;have HRC:=Ja hRC;clear hRC hgs;generalize hQ:w2.heap.size=Q at h ⊢;generalize(Value.slice A q.Ez.length c)=E at h ⊢;clear hw3 hQ hs2 hsz;go_wp2_with fail;refine(Jk g _ n (by omega) (by omega) _ h.rd).mono ?_;rintro e w4 ⟨x,rfl,hx,hr,ho⟩
 replace h:=h.only ho hr;clear hx hr ho;by_cases h0:x=0
 ·subst h0;go_wp2_with fail;refine(Jk g _ 10 (by omega) (by omega) _ h.rd).mono ?_;rintro e w2 ⟨x2,rfl,hx,hr,ho⟩;replace h:=h.only ho hr;clear hx hr ho;generalize(x2:Int)=kd
  go_upto_block 0 with fail
  go_cut [] from 18 to 99 (fun wx=>(∃q E,RQ w g (P+300) mc rc Q q E wx∧q.Ez.length≤5))
  case first=>
   skip;by_cases e0:kd=0
   ·subst e0;go_wp2_with fail;have kb:=Blk.new w2 3 (jjy [0,4,5, -1,100]);have hA:=h.alloc (.cells (jjy [0,4,5, -1,100]) 3);refine(Jk g _ 5 (by omega) (by omega) _ hA.rd).mono ?_;rintro e w3 ⟨x,rfl,hx,hr,ho⟩;have hB:=h.size;obtain⟨z,hz⟩:=litI (x:=x) kb ho (by omega) (by simp;omega);have x1:(x:Int)<5:=by omega
    replace h:=hA.only ho hr;clear kb hx hr ho hA hB;have c0:=h.cells 0;simp only[V5,List.getElem?_toArray,List.getElem?_cons_zero,List.getElem?_cons_succ] at c0;have f0:=h.frz 0;go_wp2_with fail
    all_goals
     go_meet
     case rel=>exact⟨_,_,(h.mono (by omega)).putUser _,by show q.Ez.length≤5;omega⟩
   have n0:(kd==(0:Int))=false:=beq_eq_false_iff_ne.2 e0;clear e0;by_cases e1:kd=1
   ·subst e1;go_wp2_with fail;have kb:=Blk.new w2 3 (jjy [0,1,9999,10000, -1]);have hA:=h.alloc (.cells (jjy [0,1,9999,10000, -1]) 3);refine(Jk g _ 5 (by omega) (by omega) _ hA.rd).mono ?_;rintro e w3 ⟨x,rfl,hx,hr,ho⟩;have hB:=h.size;obtain⟨z,hz⟩:=litI (x:=x) kb ho (by omega) (by simp;omega);have x1:(x:Int)<5:=by omega
    replace h:=hA.only ho hr;clear kb hx hr ho hA hB;have c1:=h.cells 1;simp only[V5,List.getElem?_toArray,List.getElem?_cons_zero,List.getElem?_cons_succ] at c1;have f1:=h.frz 1;go_wp2_with fail
    all_goals
     go_meet
     case rel=>exact⟨_,_,(h.mono (by omega)).putKey _,by show q.Ez.length≤5;omega⟩
   have n1:(kd==(1:Int))=false:=beq_eq_false_iff_ne.2 e1;clear e1;by_cases e2:kd=2
   ·subst e2;go_wp2_with fail;have kb:=Blk.new w2 3 (jjy [2,3, -1,100]);have hA:=h.alloc (.cells (jjy [2,3, -1,100]) 3);refine(Jk g _ 4 (by omega) (by omega) _ hA.rd).mono ?_;rintro e w3 ⟨x,rfl,hx,hr,ho⟩;have hB:=h.size;obtain⟨z,hz⟩:=litI (x:=x) kb ho (by omega) (by simp;omega);have x1:(x:Int)<4:=by omega
    replace h:=hA.only ho hr;clear kb hx hr ho hA hB;have c2:=h.cells 2;simp only[V5,List.getElem?_toArray,List.getElem?_cons_zero,List.getElem?_cons_succ] at c2;have f2:=h.frz 2;go_wp2_with fail
    all_goals
     go_meet
     case rel=>exact⟨_,_,(h.mono (by omega)).putRepo _,by show q.Ez.length≤5;omega⟩
   have n2:(kd==(2:Int))=false:=beq_eq_false_iff_ne.2 e2;clear e2;by_cases e3:kd=3
   ·subst e3;go_wp2_with fail;have kb:=Blk.new w2 3 (jjy [0,12,1,10]);have hA:=h.alloc (.cells (jjy [0,12,1,10]) 3);refine(Jk g _ 4 (by omega) (by omega) _ hA.rd).mono ?_;rintro e w3 ⟨x,rfl,hx,hr,ho⟩;have hB:=h.size;obtain⟨z,hz⟩:=litI (x:=x) kb ho (by omega) (by simp;omega);have x1:(x:Int)<4:=by omega
    replace h:=hA.only ho hr;clear kb hx hr ho hA hB;have c3:=h.cells 3;simp only[V5,List.getElem?_toArray,List.getElem?_cons_zero,List.getElem?_cons_succ] at c3;have f3:=h.frz 3;go_wp2_with fail
    all_goals
     go_meet
     case rel=>exact⟨_,_,(h.mono (by omega)).putKind _,by show q.Ez.length≤5;omega⟩
   have n3:(kd==(3:Int))=false:=beq_eq_false_iff_ne.2 e3;clear e3;by_cases e4:kd=4
   ·subst e4;go_wp2_with fail;have kb:=Blk.new w2 9 (jhc [⟨#[]⟩,⟨#[122,122,122]⟩,⟨#[97,98,99,100]⟩]);have hA:=h.alloc (.cells (jhc [⟨#[]⟩,⟨#[122,122,122]⟩,⟨#[97,98,99,100]⟩]) 9);refine(Jk g _ 3 (by omega) (by omega) _ hA.rd).mono ?_;rintro e w3 ⟨x,rfl,hx,hr,ho⟩;have hB:=h.size;obtain⟨s,hs,hz⟩:=Zs (k:=11) (x:=x) kb ho (by omega) (by simp;omega) (by decide);have x1:(x:Int)<3:=by omega
    replace h:=hA.only ho hr;clear kb hx hr ho hA hB;have c4:=h.cells 4;simp only[V5,List.getElem?_toArray,List.getElem?_cons_zero,List.getElem?_cons_succ] at c4;have f4:=h.frz 4;go_wp2_with fail
    all_goals
     go_meet
     case rel=>exact⟨_,_,(h.mono (by omega)).putRef hz,by show q.Ez.length≤5;omega⟩
   have n4:(kd==(4:Int))=false:=beq_eq_false_iff_ne.2 e4;clear e4;by_cases e5:kd=5
   ·subst e5;go_upto_region 17 with fail
    refine Jt 9 _ rfl (fun k w'=>Rd w' g (P+220+k)∧Only [g] w2 w') (Only [g]) (oldΓ g Q) (by kernel_rfl) rfl (by kernel_rfl) rfl (jmu _ _) (Only.refl _) ⟨⟨((h.mono (show _≤P+220 by omega)).rd.step (Below.refl _ _).drew),Only.of_below ((Below.refl _ _).drew) _⟩,fun s hs=> ?_,by rfl⟩ ?_ ?_
    ·by_cases e0:s=0
     ·subst e0;rfl
     ·by_cases e5:s=7
      ·subst e5;rfl
      ·have hne:s∉ [63,64,65,66,67,68,69,70,71]:=fun hm=>by
        simp only[List.mem_cons,List.not_mem_nil,or_false] at hm;rcases hm with rfl|rfl|rfl|rfl|rfl|rfl|rfl|rfl|rfl<;>exact absurd hs (by decide)
       simp only[List.mem_cons,List.not_mem_nil,or_false,not_or] at hne;unfold oldΓ;split<;>first|trivial|(exfalso;omega)
    ·intro p hp;simp only[List.take_succ_cons,List.take_zero,List.mem_cons,List.not_mem_nil,or_false] at hp;rcases hp with rfl|rfl|rfl|rfl|rfl|rfl|rfl|rfl|rfl
     ·intro k a w' hk hC hR;have r7:_=_:=hR 7 (by decide);simp[Region.wanted,Jg,go_sem,execOp,r7,upT];exact⟨⟨hC.1.mono (by omega),hC.2⟩,Only.refl _ _,rfl⟩
     ·intro k a w' hk hC hR;have r63:_=_:=hR 63 (by decide);have hc:w'.cell? ⟨Q,6,none⟩=some (.int .i64 q.old):=(h.only hC.2 hC.1).cells 6;simp[Region.wanted,Jg,go_sem,execOp,r63,hc,upT];exact⟨⟨hC.1.mono (by omega),hC.2⟩,Only.refl _ _,⟨_,rfl⟩⟩
     ·intro k a w' hk hC hR;obtain⟨z,r64⟩:jpn _:=hR 64 (by decide);simp[Region.wanted,Jg,go_sem,execOp,r64,upT];exact⟨⟨hC.1.mono (by omega),hC.2⟩,Only.refl _ _,⟨_,rfl⟩⟩
     ·intro k a w' hk hC hR;obtain⟨z,r65⟩:jpn _:=hR 65 (by decide);simp[Region.wanted,Jg,go_sem,execOp,r65,upT];have hg':=hC.1.lt;exact⟨⟨(hC.1.step ((Below.refl _ _).alloc nle _)).mono (by omega),hC.2.alloc _⟩,(Only.refl _ _).alloc _,⟨_,[z, -1,99,100],rfl,rfl,by omega,Blk.new _ _ _⟩⟩
     ·intro k a w' hk hC hR;have r0:_=_:=hR 0 (by decide);simp[Region.wanted,Jg,go_sem,execOp,r0,upT];exact⟨⟨hC.1.mono (by omega),hC.2⟩,Only.refl _ _,rfl⟩
     ·intro k a w' hk hC hR;have r67:_=_:=hR 67 (by decide);simp[Region.wanted,Jg,go_sem,execOp,r67,upT];have hk':k<10:=hk;refine(Jk g (P+220+k) 4 (by omega) (by omega) _ hC.1).mono ?_;rintro e w1 ⟨x,rfl,hx,hr,ho⟩;exact⟨_,rfl,⟨hr,hC.2.trans ho⟩,ho,⟨x,rfl,by omega⟩⟩
     ·intro k a w' hk hC hR;obtain⟨b,l,r66,hl4,hb,hB⟩:FIntsN g 4 _ _:=hR 66 (by decide);obtain⟨x,r68,hx⟩:jcn 4 _:=hR 68 (by decide);have x0:(x:Int)<4:=by omega
      simp[Region.wanted,Jg,go_sem,execOp,r66,r68,↓IntWalk.iteOmega,x0,upT];obtain⟨z,hz⟩:=litI (x:=x) hB (Only.refl [g] _) hb (by omega);exact⟨⟨hC.1.mono (by omega),hC.2⟩,Only.refl _ _,⟨b,x,z,rfl,hb,hB.lt,hz⟩⟩
     ·intro k a w' hk hC hR;obtain⟨b,x,z,r69,hb,hlt,hc⟩:FICell g _ _:=hR 69 (by decide);simp[Region.wanted,Jg,go_sem,execOp,r69,hc,upT];exact⟨⟨hC.1.mono (by omega),hC.2⟩,Only.refl _ _,⟨z,rfl⟩⟩
     ·intro k a w' hk hC hR;have r7:_=_:=hR 7 (by decide);simp[Region.wanted,Jg,go_sem,execOp,r7,upT];exact⟨⟨hC.1.mono (by omega),hC.2⟩,Only.refl _ _,rfl⟩
    ·rintro w4 ⟨hr4,ho4⟩;simp only[List.take_succ_cons,List.take_zero,jdb];intro v63 _ v64 _ v65 _ v66 _ v67 _ v68 _ v69 _ v70 h70 v71 h71;obtain⟨z,rfl⟩:jpn v70:=h70;obtain rfl:v71= .pointer (some ⟨Q,6,none⟩):=h71;replace h:=h.only ho4 hr4;have c6:=h.cells 6;simp only[V5,List.getElem?_toArray,List.getElem?_cons_zero,List.getElem?_cons_succ] at c6;have f6:=h.frz 6;go_wp2_with fail
     all_goals
      go_meet
      case rel=>exact⟨_,_,(h.mono (by omega)).putOld _,by show q.Ez.length≤5;omega⟩
   have n5:(kd==(5:Int))=false:=beq_eq_false_iff_ne.2 e5;clear e5;by_cases e6:kd=6
   ·subst e6;go_wp2_with fail;have kb:=Blk.new w2 3 (jjy [-1,3,99,100]);have hA:=h.alloc (.cells (jjy [-1,3,99,100]) 3);refine(Jk g _ 4 (by omega) (by omega) _ hA.rd).mono ?_;rintro e w3 ⟨x,rfl,hx,hr,ho⟩;have hB:=h.size;obtain⟨z,hz⟩:=litI (x:=x) kb ho (by omega) (by simp;omega);have x1:(x:Int)<4:=by omega
    replace h:=hA.only ho hr;clear kb hx hr ho hA hB;have c7:=h.cells 7;simp only[V5,List.getElem?_toArray,List.getElem?_cons_zero,List.getElem?_cons_succ] at c7;have f7:=h.frz 7;go_wp2_with fail
    all_goals
     go_meet
     case rel=>exact⟨_,_,(h.mono (by omega)).putBack _,by show q.Ez.length≤5;omega⟩
   have n6:(kd==(6:Int))=false:=beq_eq_false_iff_ne.2 e6;clear e6;by_cases e7:kd=7
   ·subst e7;go_upto_region 21 with fail
    obtain⟨A0,c0,f0,rfl, -, -, -, -⟩:=h.req;have hE: ∀k,(Value.slice A0 q.Ez.length c0).ownBlock=some k→k<w2.heap.size:=fun k hk=>(h.own.lt k hk).2;obtain⟨i0,hi,hz0,hz1,hz2⟩:=info_parts jcl;have h:=h.mono (show _≤P+220 by omega)
    refine Jz 13 _ rfl (fun L τ w'=>Ap [(11,10),(10,9),(9,3),(9,5),(9,8),(8,7),(11,1)] 11 93 3 5 7 w g (P+220) mc rc Q q (.slice A0 q.Ez.length c0) L τ w'∧w2.heap.size≤w'.heap.size) (Only (g::(Value.slice A0 q.Ez.length c0).ownBlock.toList)) (ap2Γ g w2.heap.size Q (.slice A0 q.Ez.length c0)) (by kernel_rfl) rfl (by kernel_rfl) rfl (jno _ _ _ hE) (Only.refl _) ⟨⟨Ap.start h.drew,Nat.le_refl _⟩,fun s hs=> ?_,by rfl⟩ ?_ ?_
    ·by_cases e0:s=0
     ·subst e0;rfl
     ·by_cases e5:s=7
      ·subst e5;rfl
      ·have hne:s∉ [82,83,84,85,86,87,88,89,90,91,92,93,94]:=fun hm=>by
        simp only[List.mem_cons,List.not_mem_nil,or_false] at hm;rcases hm with rfl|rfl|rfl|rfl|rfl|rfl|rfl|rfl|rfl|rfl|rfl|rfl|rfl<;>exact absurd hs (by decide)
       simp only[List.mem_cons,List.not_mem_nil,or_false,not_or] at hne;unfold ap2Γ;split<;>first|trivial|(exfalso;omega)
    ·intro i p hi13 hp;have hcases:i=0∨i=1∨i=2∨i=3∨i=4∨i=5∨i=6∨i=7∨i=8∨i=9∨i=10∨i=11∨i=12:=by omega
     rcases hcases with rfl|rfl|rfl|rfl|rfl|rfl|rfl|rfl|rfl|rfl|rfl|rfl|rfl
     all_goals(obtain rfl:=Option.some.inj hp)
     ·intro L a w' hL hl hall hC hR;have hcs: ∀p∈([(11,10),(10,9),(9,3),(9,5),(9,8),(8,7),(11,1)]:List (Nat×Nat)),p.1=0→L.getD p.2 false=true:=by
       intro p hp h1;simp only[List.mem_cons,List.not_mem_nil,or_false] at hp;rcases hp with rfl|rfl|rfl|rfl|rfl|rfl|rfl<;>exact absurd h1 (by decide)
      have r7:_=_:=hR 7 (by decide);simp[Region.wanted,Jg,go_sem,execOp,r7,upT];exact⟨Only.refl _ _,rfl,hC.1.pure (by decide) (by decide) hcs,hC.2⟩
     ·intro L a w' hL hl hall hC hR;have hcs: ∀p∈([(11,10),(10,9),(9,3),(9,5),(9,8),(8,7),(11,1)]:List (Nat×Nat)),p.1=1→L.getD p.2 false=true:=by
       intro p hp h1;simp only[List.mem_cons,List.not_mem_nil,or_false] at hp;rcases hp with rfl|rfl|rfl|rfl|rfl|rfl|rfl<;>exact absurd h1 (by decide)
      have ha:L.getD 11 false=false:=Bool.eq_false_iff.2 fun e11=>by
       have e1:=hC.1.cl (11,1) (by decide) e11;rw[e1] at hl;cases hl
      have r82:_=_:=hR 82 (by decide);have hc:w'.cell? ⟨Q,8,none⟩=some (.slice A0 q.Ez.length c0):=(hC.1.be ha).cells 8;simp[Region.wanted,Jg,go_sem,execOp,r82,hc,upT];exact⟨Only.refl _ _,rfl,hC.1.pure (by decide) (by decide) hcs,hC.2⟩
     ·intro L a w' hL hl hall hC hR;have hcs: ∀p∈([(11,10),(10,9),(9,3),(9,5),(9,8),(8,7),(11,1)]:List (Nat×Nat)),p.1=2→L.getD p.2 false=true:=by
       intro p hp h1;simp only[List.mem_cons,List.not_mem_nil,or_false] at hp;rcases hp with rfl|rfl|rfl|rfl|rfl|rfl|rfl<;>exact absurd h1 (by decide)
      have r0:_=_:=hR 0 (by decide);simp[Region.wanted,Jg,go_sem,execOp,r0,upT];exact⟨Only.refl _ _,rfl,hC.1.pure (by decide) (by decide) hcs,hC.2⟩
     ·intro L a w' hL hl hall hC hR;have hcs: ∀p∈([(11,10),(10,9),(9,3),(9,5),(9,8),(8,7),(11,1)]:List (Nat×Nat)),p.1=3→L.getD p.2 false=true:=by
       intro p hp h1;simp only[List.mem_cons,List.not_mem_nil,or_false] at hp;rcases hp with rfl|rfl|rfl|rfl|rfl|rfl|rfl<;>exact absurd h1 (by decide)
      have ha:L.getD 11 false=false:=Bool.eq_false_iff.2 fun e11=>by
       have e10:=hC.1.cl (11,10) (by decide) e11;have e9:=hC.1.cl (10,9) (by decide) e10;have e3:=hC.1.cl (9,3) (by decide) e9;rw[e3] at hl;cases hl
      have r84:_=_:=hR 84 (by decide);simp[Region.wanted,Jg,go_sem,execOp,r84,upT];have hq:=hC.1.be ha;have hcn:=jc9 3 5 7 L;have hca:=jf9 (i:=3) (j:=5) (k:=7) (show 3<L.size by rw[hL];decide) hl (by decide);refine(Zz g _ 2 (by omega) (by omega) _ hq.rd).mono ?_;rintro e w1 ⟨s,rfl,hz,hr,ho⟩;have hs1:=ho.size;have hs2:=hC.2
      exact⟨_,rfl,ho.wide,⟨s,rfl,hz⟩,hC.1.turn (by decide) ha hcs (hq.only ho hr) (by omega),by omega⟩
     ·intro L a w' hL hl hall hC hR;have hcs: ∀p∈([(11,10),(10,9),(9,3),(9,5),(9,8),(8,7),(11,1)]:List (Nat×Nat)),p.1=4→L.getD p.2 false=true:=by
       intro p hp h1;simp only[List.mem_cons,List.not_mem_nil,or_false] at hp;rcases hp with rfl|rfl|rfl|rfl|rfl|rfl|rfl<;>exact absurd h1 (by decide)
      have r0:_=_:=hR 0 (by decide);simp[Region.wanted,Jg,go_sem,execOp,r0,upT];exact⟨Only.refl _ _,rfl,hC.1.pure (by decide) (by decide) hcs,hC.2⟩
     ·intro L a w' hL hl hall hC hR;have hcs: ∀p∈([(11,10),(10,9),(9,3),(9,5),(9,8),(8,7),(11,1)]:List (Nat×Nat)),p.1=5→L.getD p.2 false=true:=by
       intro p hp h1;simp only[List.mem_cons,List.not_mem_nil,or_false] at hp;rcases hp with rfl|rfl|rfl|rfl|rfl|rfl|rfl<;>exact absurd h1 (by decide)
      have ha:L.getD 11 false=false:=Bool.eq_false_iff.2 fun e11=>by
       have e10:=hC.1.cl (11,10) (by decide) e11;have e9:=hC.1.cl (10,9) (by decide) e10;have e5:=hC.1.cl (9,5) (by decide) e9;rw[e5] at hl;cases hl
      have r86:_=_:=hR 86 (by decide);simp[Region.wanted,Jg,go_sem,execOp,r86,upT];have hq:=hC.1.be ha;have hcn:=jc9 3 5 7 L;have hca:=jf9 (i:=3) (j:=5) (k:=7) (show 5<L.size by rw[hL];decide) hl (by decide);refine(Z5 g _ (by omega) _ hq.rd).mono ?_;rintro e w1 ⟨s,rfl,hz,hr,ho⟩;have hs1:=ho.size;have hs2:=hC.2
      exact⟨_,rfl,ho.wide,⟨s,rfl,hz⟩,hC.1.turn (by decide) ha hcs (hq.only ho hr) (by omega),by omega⟩
     ·intro L a w' hL hl hall hC hR;have hcs: ∀p∈([(11,10),(10,9),(9,3),(9,5),(9,8),(8,7),(11,1)]:List (Nat×Nat)),p.1=6→L.getD p.2 false=true:=by
       intro p hp h1;simp only[List.mem_cons,List.not_mem_nil,or_false] at hp;rcases hp with rfl|rfl|rfl|rfl|rfl|rfl|rfl<;>exact absurd h1 (by decide)
      have r0:_=_:=hR 0 (by decide);simp[Region.wanted,Jg,go_sem,execOp,r0,upT];exact⟨Only.refl _ _,rfl,hC.1.pure (by decide) (by decide) hcs,hC.2⟩
     ·intro L a w' hL hl hall hC hR;have hcs: ∀p∈([(11,10),(10,9),(9,3),(9,5),(9,8),(8,7),(11,1)]:List (Nat×Nat)),p.1=7→L.getD p.2 false=true:=by
       intro p hp h1;simp only[List.mem_cons,List.not_mem_nil,or_false] at hp;rcases hp with rfl|rfl|rfl|rfl|rfl|rfl|rfl<;>exact absurd h1 (by decide)
      have ha:L.getD 11 false=false:=Bool.eq_false_iff.2 fun e11=>by
       have e10:=hC.1.cl (11,10) (by decide) e11;have e9:=hC.1.cl (10,9) (by decide) e10;have e8:=hC.1.cl (9,8) (by decide) e9;have e7:=hC.1.cl (8,7) (by decide) e8;rw[e7] at hl;cases hl
      have r88:_=_:=hR 88 (by decide);simp[Region.wanted,Jg,go_sem,execOp,r88,upT];have hq:=hC.1.be ha;have hcn:=jc9 3 5 7 L;have hca:=jf9 (i:=3) (j:=5) (k:=7) (show 7<L.size by rw[hL];decide) hl (by decide);refine(Jk g _ 2 (by omega) (by omega) _ hq.rd).mono ?_;rintro e w1 ⟨x,rfl,hx,hr,ho⟩;have hs1:=ho.size;have hs2:=hC.2
      exact⟨_,rfl,ho.wide,⟨x,rfl,by omega⟩,hC.1.turn (by decide) ha hcs (hq.only ho hr) (by omega),by omega⟩
     ·intro L a w' hL hl hall hC hR;have hcs: ∀p∈([(11,10),(10,9),(9,3),(9,5),(9,8),(8,7),(11,1)]:List (Nat×Nat)),p.1=8→L.getD p.2 false=true:=by
       intro p hp h1;simp only[List.mem_cons,List.not_mem_nil,or_false] at hp;rcases hp with rfl|rfl|rfl|rfl|rfl|rfl|rfl<;>first|exact absurd h1 (by decide)|exact hall ⟨_,.data⟩ (by simp) (by decide)
      obtain⟨x,r89,hx⟩:jcn 2 _:=hR 89 (by decide);simp[Region.wanted,Jg,go_sem,execOp,r89,upT];exact⟨Only.refl _ _,⟨_,rfl⟩,hC.1.pure (by decide) (by decide) hcs,hC.2⟩
     ·intro L a w' hL hl hall hC hR;have hcs: ∀p∈([(11,10),(10,9),(9,3),(9,5),(9,8),(8,7),(11,1)]:List (Nat×Nat)),p.1=9→L.getD p.2 false=true:=by
       intro p hp h1;simp only[List.mem_cons,List.not_mem_nil,or_false] at hp;rcases hp with rfl|rfl|rfl|rfl|rfl|rfl|rfl<;>first|exact absurd h1 (by decide)|exact hall ⟨_,.data⟩ (by simp) (by decide)
      obtain⟨s,r85,hz⟩:jh8 11 _:=hR 85 (by decide);obtain⟨t,r87,hz2⟩:jh8 11 _:=hR 87 (by decide);obtain⟨bb,r90⟩: ∃b,_=Value.bool b:=hR 90 (by decide);simp[Region.wanted,Jg,go_sem,execOp,r85,r87,r90,upT];exact⟨Only.refl _ _,⟨⟨s,t,bb⟩,rfl,hz,hz2⟩,hC.1.pure (by decide) (by decide) hcs,hC.2⟩
     ·intro L a w' hL hl hall hC hR;have hcs: ∀p∈([(11,10),(10,9),(9,3),(9,5),(9,8),(8,7),(11,1)]:List (Nat×Nat)),p.1=10→L.getD p.2 false=true:=by
       intro p hp h1;simp only[List.mem_cons,List.not_mem_nil,or_false] at hp;rcases hp with rfl|rfl|rfl|rfl|rfl|rfl|rfl<;>first|exact absurd h1 (by decide)|exact hall ⟨_,.data⟩ (by simp) (by decide)
      have ha:L.getD 11 false=false:=Bool.eq_false_iff.2 fun e11=>by
       have e10:=hC.1.cl (11,10) (by decide) e11;rw[e10] at hl;cases hl
      obtain⟨x,r91,hx⟩:jqi _:=hR 91 (by decide);rw[show(Jp x).toArray= #[.string x.path,.string x.bytes,.bool x.gone] from rfl] at r91;simp[Region.wanted,Jg,go_sem,execOp,r91,upT];have hq:=hC.1.be ha;have hqs:=hq.size;have hs2:=hC.2
      exact⟨(Only.refl _ _).alloc _,⟨_,x,rfl,by omega,hs2,hx,Blk.new _ _ _⟩,hC.1.turn (by decide) ha hcs (hq.alloc _) (Nat.add_le_add_left (jfa _ _ _ _ _) _),by first|omega|(simp;omega)⟩
     ·intro L a w' hL hl hall hC hR;have hcs: ∀p∈([(11,10),(10,9),(9,3),(9,5),(9,8),(8,7),(11,1)]:List (Nat×Nat)),p.1=11→L.getD p.2 false=true:=by
       intro p hp h1;simp only[List.mem_cons,List.not_mem_nil,or_false] at hp;rcases hp with rfl|rfl|rfl|rfl|rfl|rfl|rfl<;>first|exact absurd h1 (by decide)|exact hall ⟨_,.data⟩ (by simp) (by decide)
      obtain⟨b,x,r92,hb,hH,hx,hB⟩:FNewH g _ _ _:=hR 92 (by decide);have r83:_=_:=hR 83 (by decide);have hq:=hC.1.be hl;have hqs:=hq.size;have hcn:=jc9 3 5 7 L
      obtain⟨v',w5,hr,hown',hgrow,_⟩:=run_append_own (P:=Tryz.prog) (w:=w') (w.heap.size+2) 27 27 59 i0 _ 3 40 Tryz.underlying27 hi hz0 hz1 hz2 rfl (by decide) _ _ _ hq.own ⟨b,0,none⟩ 1 1 (Jp x) rfl (World.news_of_block hB.out) (Yn x) (by unfold maxLen;omega) (by omega) (by omega);rw[if_pos (show Region.wanted _ _=true from rfl)]
      simp only[execOp,resolve,invoke,builtin,Sem.run_bind,Sem.run_pure,Result.andThen_ok,List.map_toArray,List.map_cons,List.map_nil,Wm,r83,r92,hr,upT];have hs2:=hC.2;have hs5:=hgrow.size;exact⟨trivial,jg2 hgrow,trivial,hC.1.hit hl (by rw[hL];decide) hcs ((hq.mono (by omega)).apd hx hown' hgrow),by omega⟩
     ·intro L a w' hL hl hall hC hR;have hcs: ∀p∈([(11,10),(10,9),(9,3),(9,5),(9,8),(8,7),(11,1)]:List (Nat×Nat)),p.1=12→L.getD p.2 false=true:=by
       intro p hp h1;simp only[List.mem_cons,List.not_mem_nil,or_false] at hp;rcases hp with rfl|rfl|rfl|rfl|rfl|rfl|rfl<;>exact absurd h1 (by decide)
      have r7:_=_:=hR 7 (by decide);simp[Region.wanted,Jg,go_sem,execOp,r7,upT];exact⟨Only.refl _ _,rfl,hC.1.pure (by decide) (by decide) hcs,hC.2⟩
    ·intro l w4 τ hall hC;simp only[List.take_succ_cons,List.take_zero,jdb];intro v82 _ v83 _ v84 _ v85 _ v86 _ v87 _ v88 _ v89 _ v90 _ v91 _ v92 _ v93 _ v94 h94 hτ;obtain rfl:v94= .pointer (some ⟨Q,8,none⟩):=h94;have hA:=hC.1.af (hall 11 (by decide));rw[show τ 93=v93 by rw[←hτ];simp[tau,Act.put]] at hA;clear hτ hC hE h;obtain⟨A',n',c',rfl⟩: ∃A n c,v93= .slice A n c:=by
      obtain⟨l,wX, -, -, -,ho, -⟩:=hA;obtain⟨A',c',f',rfl, -, -, -, -⟩:=Xw (k:=3) (enc:=Jp) (hk:=fun _=>rfl) (h1:=Yn) ho;exact⟨_,_,_,rfl⟩
     obtain⟨c8,f8⟩:=RQ.cellE hA;obtain⟨l',hput,hl'⟩:=hA.put (by omega);have HP:=Ja hput;clear hput hA;go_wp2_with fail
     all_goals
      go_meet
      case rel=>exact⟨_,_,HP.out.mono (by omega),by show l'.length≤5;omega⟩
   have n7:(kd==(7:Int))=false:=beq_eq_false_iff_ne.2 e7;clear e7;by_cases e8:kd=8
   ·subst e8;go_wp2_with fail;refine(jbe g _ 1 (by omega) (by omega) _ h.rd).mono ?_;rintro e w3 ⟨r,rfl,hrf,hr,ho⟩;replace h:=h.only ho hr;rw[show(Jh r).toArray= #[.int .i64 r.user,.string r.ref,.string r.path,.bool r.write] from rfl];have c9:=h.cells 9;have c10:=h.cells 10;have c11:=h.cells 11;have c12:=h.cells 12
    simp only[V5,List.getElem?_toArray,List.getElem?_cons_zero,List.getElem?_cons_succ] at c9 c10 c11 c12;have f9:=h.frz 9;have f10:=h.frz 10;have f11:=h.frz 11;have f12:=h.frz 12;go_wp2_with fail
    all_goals
     go_meet
     case rel=>exact⟨_,_,(h.mono (by omega)).putRule hrf,by show q.Ez.length≤5;omega⟩
   have n8:(kd==(8:Int))=false:=beq_eq_false_iff_ne.2 e8;clear e8;go_wp2_with fail;refine(Zz g _ 1 (by omega) (by omega) _ h.rd).mono ?_;rintro e w3 ⟨s,rfl,hz,hr,ho⟩;replace h:=h.only ho hr;have c5:=h.cells 5;simp only[V5,List.getElem?_toArray,List.getElem?_cons_zero,List.getElem?_cons_succ] at c5;have f5:=h.frz 5;go_wp2_with fail
   all_goals
    go_meet
    case rel=>exact⟨_,_,(h.mono (by omega)).putPath hz,by show q.Ez.length≤5;omega⟩
  case rest=>
   obtain⟨w2,hw2⟩: ∃w2,w2=wc:=⟨_,rfl⟩;subst hw2;clear h hlen;obtain⟨q,E,h,hlen⟩:=hcut;have hRC:=HRC.out;subst hRC;have hfin:=h.fin (z:=Ws) (Z:= .slice none 0 0);obtain⟨A,c,f,hE,kb,hR,hown,hrd,hon⟩:=hfin;have hsm:=h.sm;have HF:=Ja (And.intro kb (And.intro hR (And.intro hown (And.intro hrd hon))));clear kb hR hown hrd hon;have r:=h.kr;have r0:=r.cell 0;have r1:=r.cell 1;have r2:=r.cell 2
   have r3:=r.cell 3;have r4:=r.cell 4;have r5:=r.cell 5;have r6:=r.cell 6;have r7:=r.cell 7;have r8:=r.cell 8;have r9:=r.cell 9;have r10:=r.cell 10;have r11:=r.cell 11;have r12:=r.cell 12;have r13:=r.cell 13;have r14:=r.cell 14;simp only[List.getElem?_toArray,List.getElem?_cons_zero,List.getElem?_cons_succ] at r0 r1 r2 r3 r4 r5 r6 r7 r8 r9 r10 r11 r12 r13 r14;have f0:=Ji r 0
   have f1:=Ji r 1;have f2:=Ji r 2;have f3:=Ji r 3;have f4:=Ji r 4;have f5:=Ji r 5;have f6:=Ji r 6;have f7:=Ji r 7;have f8:=Ji r 8;have f9:=Ji r 9;have f10:=Ji r 10;have f11:=Ji r 11;have f12:=Ji r 12;have f13:=Ji r 13;have f14:=Ji r 14
   go_wp2_with((refine wpList_load_row rfl 31 (.tmp 7) rfl _ rfl _ _ _ _ h.kq.out Tryz.underlying31 rfl jb3 ?_));subst hE;clear r;unfold V5;go_wp2;obtain⟨kb,hR,hown,hrd,hon⟩:=HF.out
   exact bodyPost_ret (v:= .agg (V5 q (.slice A q.Ez.length c))) (results_cell_row rfl _ _ (w.heap.size+1) _ _ (0,0) _ rfl kb.out Tryz.underlying31 rfl jb3) rfl ⟨q,A,c,f,rfl,hR,hown,hsm,hrd.mono (by omega),hon,hlen⟩
 ·have h1:(0:Int)<(x:Int):=by omega
  have hRC:=HRC.out;subst hRC;have hfin:=h.fin (z:=Ws) (Z:= .slice none 0 0);obtain⟨A,c,f,hE,kb,hR,hown,hrd,hon⟩:=hfin;have hsm:=h.sm;have HF:=Ja (And.intro kb (And.intro hR (And.intro hown (And.intro hrd hon))));clear kb hR hown hrd hon;have r:=h.kr;have r0:=r.cell 0;have r1:=r.cell 1;have r2:=r.cell 2;have r3:=r.cell 3;have r4:=r.cell 4;have r5:=r.cell 5;have r6:=r.cell 6
  have r7:=r.cell 7;have r8:=r.cell 8;have r9:=r.cell 9;have r10:=r.cell 10;have r11:=r.cell 11;have r12:=r.cell 12;have r13:=r.cell 13;have r14:=r.cell 14;simp only[List.getElem?_toArray,List.getElem?_cons_zero,List.getElem?_cons_succ] at r0 r1 r2 r3 r4 r5 r6 r7 r8 r9 r10 r11 r12 r13 r14;have f0:=Ji r 0;have f1:=Ji r 1;have f2:=Ji r 2;have f3:=Ji r 3;have f4:=Ji r 4
  have f5:=Ji r 5;have f6:=Ji r 6;have f7:=Ji r 7;have f8:=Ji r 8;have f9:=Ji r 9;have f10:=Ji r 10;have f11:=Ji r 11;have f12:=Ji r 12;have f13:=Ji r 13;have f14:=Ji r 14;go_wp2_with((refine wpList_load_row rfl 31 (.tmp 7) rfl _ rfl _ _ _ _ h.kq.out Tryz.underlying31 rfl jb3 ?_));subst hE;clear r;unfold V5;go_wp2
  obtain⟨kb,hR,hown,hrd,hon⟩:=HF.out;exact bodyPost_ret (v:= .agg (V5 q (.slice A q.Ez.length c))) (results_cell_row rfl _ _ (w.heap.size+1) _ _ (0,0) _ rfl kb.out Tryz.underlying31 rfl jb3) rfl ⟨q,A,c,f,rfl,hR,hown,hsm,hrd.mono (by omega),hon,by omega⟩
end Go.Proofs.YtobbdhgkcoeifaaGreatDoor
