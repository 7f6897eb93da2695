/- Lemmas and walks, joined by program. -/
import Derived.Deep.CutBlock
import Derived.Deep.DeepCutAuto
import Derived.Test.YtobbdhgkcoeifaaGreatDoorZ9
import Derived.Test.YtobbdhgkcoeifaaGreatDoorZ2
import Derived.Test.YtobbdhgkcoeifaaGreatDoorZ11
import Derived.Test.YtobbdhgkcoeifaaGreatDoorZ5
namespace Go.Proofs.YtobbdhgkcoeifaaGreatDoor
open Go.RowKit
attribute [local go_sem ↓] Go.wp_at_zero Go.wp_at_succ
set_option maxHeartbeats 8000000
set_option maxRecDepth 100000
set_option linter.unusedSimpArgs false
set_option linter.unusedVariables false
def FInts (g:Nat) (l:List Int) (v:Value) (w:World):Prop:=∃b,v= .slice (some ⟨b,0,none⟩) l.length l.length∧b≠g∧Blk w b 3 (jjy l)
def FICell (g:Nat) (v:Value) (w:World):Prop:=∃b x z,v= .pointer (some ⟨b,x,none⟩)∧b≠g∧b<w.heap.size∧w.cell? ⟨b,x,none⟩=some (.int .i64 z)
def jpn (v:Value):Prop:=∃z:Int,v= .int .i64 z
section
variable {g k B:Nat} {l:List Int} {v:Value} {w w':World}
theorem FInts.only (h:FInts g l v w) (ho:Only [g] w w'):FInts g l v w':=by
 obtain⟨b,h1,h2,h3⟩:=h;exact⟨b,h1,h2,h3.only ho (by simpa using h2)⟩
theorem FICell.only (h:FICell g v w) (ho:Only [g] w w'):FICell g v w':=by
 obtain⟨b,x,z,h1,h2,h3,h4⟩:=h;refine⟨b,x,z,h1,h2,Nat.lt_of_lt_of_le h3 ho.size, ?_⟩;rw[World.cell?_of_block (a:=⟨b,x,none⟩) (ho.block b h3 (by simpa using h2))];exact h4
end
def RI (mc rc:Array Value) (w0:World) (g P Q:Nat) (w:World):Prop:=∃q E,RQ w0 g P mc rc Q q E w∧0≤q.repo∧q.Ez.length≤4
def RJ (n:Nat) (mc rc:Array Value) (w0:World) (g P Q:Nat) (w:World):Prop:=∃q E,RQ w0 g P mc rc Q q E w∧0≤q.repo∧0<q.Ez.length∧q.Ez.length≤n
theorem Ji {w:World} {b:Nat} {t:TypeId} {cs:Array Value} (h:Blk w b t cs) (j:Nat):w.frozen? ⟨b,j,none⟩=false:=by
 unfold Blk at h;simp[World.frozen?,h]
theorem jb3:(Tryz.prog.info? 31).map (·.size)=some 15:=by kernel_rfl
def FNew (g H:Nat) (v:Value) (w:World):Prop:=∃b x,v= .slice (some ⟨b,0,none⟩) 1 1∧b≠g∧H≤b∧Xu x∧Blk w b 59 (Jp x).toArray
theorem FNew.only {g H:Nat} {v:Value} {w w':World} (h:FNew g H v w) (ho:Only [g] w w'):FNew g H v w':=by
 obtain⟨b,x,h1,h2,h3,h4,h5⟩:=h;exact⟨b,x,h1,h2,h3,h4,h5.only ho (by simpa using h2)⟩
theorem jhp {w:World} {b:Nat} {x:Wz} (h:Blk w b 59 (Jp x).toArray):w.ownsRow b 59 3 (.slice (some ⟨b,0,none⟩) 1 1) [x].length ([x].flatMap Jp):=
 ⟨rfl,.inr ⟨b,1,_,rfl,Nat.le_refl _,h.out,Nat.le_refl _,by unfold maxLen;omega,rfl,rfl⟩⟩
theorem jij {x:Wz} (h:Xu x):Xi [x]:=fun i hi=>by
 have:i=0:=by simpa using hi
 subst this;exact h
def putΓ (g H Q:Nat):Xr:=fun s v w=>match s with
 | 0=>Z8 g v
 | 5=>Z8 Q v
 | 116=>FStrs g [⟨#[97,47,98]⟩,⟨#[97,47,99]⟩,⟨#[97]⟩,⟨#[97,47,98,47,99]⟩] v w
 | 117=>Z8 g v
 | 118=>jcn 4 v
 | 119=>FCell g 11 v w
 | 120=>jh8 11 v
 | 121=>Z8 g v
 | 122=>jh8 11 v
 | 123=>∃x:Wz,v= .agg (Jp x).toArray∧Xu x
 | 124=>FNew g H v w
 | 125=>v= .pointer (some ⟨Q,8,none⟩)
 |_=>True
theorem jmr (g H Q:Nat):Zx (Only [g]) (putΓ g H Q):=fun s v w w' h ho=>by
 unfold putΓ at*;split at h<;>first|exact h|exact FStrs.only h ho|exact FCell.only h ho|exact FNew.only h ho
def jqi (v:Value):Prop:=∃x:Wz,v= .agg (Jp x).toArray∧Xu x
def FStrsH (g H:Nat) (l:List ByteArray) (v:Value) (w:World):Prop:=∃b,v= .slice (some ⟨b,0,none⟩) l.length l.length∧b≠g∧H≤b∧Blk w b 9 (jhc l)
def FCellH (g H:Nat) (v:Value) (w:World):Prop:=∃b x s,v= .pointer (some ⟨b,x,none⟩)∧b≠g∧H≤b∧b<w.heap.size∧w.cell? ⟨b,x,none⟩=some (.string s)∧s.size≤11
def FNewH (g H:Nat) (v:Value) (w:World):Prop:=∃b x,v= .slice (some ⟨b,0,none⟩) 1 1∧b≠g∧H≤b∧Xu x∧Blk w b 59 (Jp x).toArray
section
variable {g H:Nat} {l:List ByteArray} {v E:Value} {w w':World}
theorem jol {b:Nat} (hb:b≠g) (hH:H≤b) (hE: ∀k,E.ownBlock=some k→k<H):b∉g::E.ownBlock.toList:=fun hm=>by
 rcases List.mem_cons.1 hm with e|e
 ·exact hb e
 ·have:=hE b (by simpa using e);omega
theorem FStrsH.only (h:FStrsH g H l v w) (ho:Only (g::E.ownBlock.toList) w w') (hE: ∀k,E.ownBlock=some k→k<H):FStrsH g H l v w':=by
 obtain⟨b,h1,h2,h3,h4⟩:=h;exact⟨b,h1,h2,h3,h4.only ho (jol h2 h3 hE)⟩
theorem FNewH.only (h:FNewH g H v w) (ho:Only (g::E.ownBlock.toList) w w') (hE: ∀k,E.ownBlock=some k→k<H):FNewH g H v w':=by
 obtain⟨b,x,h1,h2,h3,h4,h5⟩:=h;exact⟨b,x,h1,h2,h3,h4,h5.only ho (jol h2 h3 hE)⟩
theorem FCellH.only (h:FCellH g H v w) (ho:Only (g::E.ownBlock.toList) w w') (hE: ∀k,E.ownBlock=some k→k<H):FCellH g H v w':=by
 obtain⟨b,x,s,h1,h2,h3,h4,h5,h6⟩:=h;refine⟨b,x,s,h1,h2,h3,Nat.lt_of_lt_of_le h4 ho.size, ?_,h6⟩;rw[World.cell?_of_block (a:=⟨b,x,none⟩) (ho.block b h4 (jol h2 h3 hE))];exact h5
theorem Only.wide {f:List Nat} (h:Only [g] w w'):Only (g::f) w w':=⟨h.os,h.tape,h.output,h.size,fun k hk hn=>h.block k hk fun hm=>hn (by simp at hm;simp[hm])⟩
theorem jg2 (h:w.grownBy w' E.ownBlock):Only (g::E.ownBlock.toList) w w':=⟨h.os,h.tape,h.output,h.size,fun k hk hn=>h.block k hk fun e=>hn (by rw[←e];simp)⟩
end
def ap1Γ (g H Q:Nat) (E:Value):Xr:=fun s v w=>match s with
 | 0=>Z8 g v
 | 5=>Z8 Q v
 | 129=>v= .pointer (some ⟨Q,8,none⟩)
 | 130=>v=E
 | 131=>FStrsH g H [⟨#[98]⟩,⟨#[99]⟩,⟨#[97,98]⟩] v w
 | 132=>Z8 g v
 | 133=>jcn 3 v
 | 134=>FCellH g H v w
 | 135=>jh8 11 v
 | 136=>Z8 g v
 | 137=>jh8 11 v
 | 138=>jqi v
 | 139=>FNewH g H v w
 | 140=>True
 | 141=>v= .pointer (some ⟨Q,8,none⟩)
 |_=>True
theorem jnp (g H Q:Nat) {E:Value} (hE: ∀k,E.ownBlock=some k→k<H):Zx (Only (g::E.ownBlock.toList)) (ap1Γ g H Q E):=fun s v w w' h ho=>by
 unfold ap1Γ at*;split at h<;>first|exact h|exact FStrsH.only h ho hE|exact FCellH.only h ho hE|exact FNewH.only h ho hE
theorem jj0 {P:Program} {s:Code} {Q:Exit→Act→World→Prop} {a:Act} {w:World} (h: ∀K:Act→World→Prop,(∀a w,Q .normal a w→K a w)→s.wp P (Exit.then K Q) a w):s.wp P Q a w:=
 wp_mono (h (Q .normal) fun _ _ h=>h) (by intro e a' w' hq;cases e<;>exact hq)
def RP (mc rc:Array Value) (w0:World) (g P Q Pb:Nat) (p:Xq) (wx:World):Prop:=∃q E B0 c0 f0 B1 c1 f1,RQ w0 g P mc rc Q q E wx∧(0≤q.repo∧q.Ez.length≤4)∧Blk wx Pb 48 #[.int .i64 p.Az,.slice B0 p.Uz.length c0,.slice B1 p.Fz.length c1]∧SlR Rp.rule wx B0 p.Uz.length c0 p.Uz f0∧SlR Rp.ref wx B1 p.Fz.length c1 p.Fz f1∧(g∉f0∧g∉f1)∧(Q∉f0∧Q∉f1)∧Pb≠Q∧Pb≠g
def alΓ (g M Q b o i n d br or nr kr:Nat):Xr:=fun s v _=>match s with
 | 0=>Z8 g v
 | 3=>Z8 M v
 | 5=>Z8 Q v
 | 207=>v= .pointer (some ⟨M,2,none⟩)
 | 208=>v= .slice (some ⟨b,o,none⟩) n d
 | 209=>v= .pointer (some ⟨Q,2,none⟩)
 | 210=>v= .int .i64 (i:Int)
 | 211=>v= .pointer (some ⟨b,o+i*3,none⟩)
 | 212=>v= .pointer (some ⟨b,o+i*3+1,none⟩)
 | 213=>v= .slice (some ⟨br,or,none⟩) nr kr
 | 214=>Z8 g v
 | 215=>v= .pointer (some ⟨M,2,none⟩)
 | 216=>v= .slice (some ⟨b,o,none⟩) n d
 | 217=>v= .pointer (some ⟨Q,2,none⟩)
 | 218=>v= .int .i64 (i:Int)
 | 219=>v= .pointer (some ⟨b,o+i*3,none⟩)
 | 220=>v= .pointer (some ⟨b,o+i*3+1,none⟩)
 | 221=>v= .slice (some ⟨br,or,none⟩) nr kr
 | 222=>v= .int .i64 (nr:Int)
 | 223=>jcn nr v
 | 224=>∃x,v= .pointer (some ⟨br,or+x*4,none⟩)∧x<nr
 | 225=>∃r:Yt,v= .agg (Jh r).toArray∧Vn r
 | 226=>v= .pointer (some ⟨Q,9,none⟩)
 |_=>True
theorem jpf (g M Q b o i n d br or nr kr:Nat):Zx (Only [g]) (alΓ g M Q b o i n d br or nr kr):=fun s v w w' h _=>h
def req0 (u rp kd:Int) (rf:ByteArray):Req:= { Ws with user:=u,repo:=rp,kind:=kd,ref:=rf}
def FReq (v:Value):Prop:=∃u rp kd rf,v= .agg (V5 (req0 u rp kd rf) (.slice none 0 0))∧rf.size≤11∧0≤rp
def reqΓ (g B:Nat):Xr:=fun s v w=>match s with
 | 0=>Z8 g v
 | 8=>Z8 g v
 | 9=>jcn 3 v
 | 10=>jpn v
 | 11=>Z8 g v
 | 12=>jcn 2 v
 | 13=>FInts g [1,1,1,1,1,1,2,2,3,4,4,5,6,7,8,9,9,10,10,11] v w
 | 14=>Z8 g v
 | 15=>jcn 20 v
 | 16=>FICell g v w
 | 17=>jpn v
 | 18=>FStrs g [⟨#[97]⟩,⟨#[97]⟩,⟨#[98]⟩,⟨#[99]⟩] v w
 | 19=>Z8 g v
 | 20=>jcn 4 v
 | 21=>FCell g 11 v w
 | 22=>jh8 11 v
 | 23=>FReq v
 | 5=>FBox g B 31 RZ v w
 |_=>True
theorem jmm (g B:Nat):Zx (Only [g]) (reqΓ g B):=fun s v w w' h ho=>by
 unfold reqΓ at*;split at h<;>first|exact h|exact FInts.only h ho|exact FICell.only h ho|exact FStrs.only h ho|exact FCell.only h ho|exact FBox.only h ho
theorem jgx {B0 B1 B2:Option Addr} {m0 m1 d0 d1 d2:Nat} {rs:List Xq} {fs:List Nat} (g P:Nat) (hP:P+200≤1000000) (w:World) (h:Rd w g P) (hrs:SlR Rp.repo w B2 rs.length d2 rs fs) (hgs:g∉fs) (hfit: ∀p∈rs,Ym p.Uz∧p.Uz.length≤1000):
  Calls Tryz.prog 79 #[.pointer (some ⟨g,0,none⟩),.agg #[.slice B0 m0 d0,.slice B1 m1 d1,.slice B2 rs.length d2]] w (DrReq 4 g (P+200) w):=by
 have hg:=h.lt;have hmx:=hrs.max;have HRS:=Ja (fun(W:World) (ho:Only [g] w W)=>hrs.only ho fun z hz=>by simp only[List.mem_singleton];exact fun e=>hgs (e▸hz));have HFR:=Ja hfit;have HGS:=Ja (fun(Q:Nat) (hQ:w.heap.size+1<Q) (z:Nat) (hz:z∈fs)=>(⟨fun e=>hgs (e▸hz),fun e=>by have:=hrs.lt z hz;omega⟩:z≠g∧z≠Q));clear hrs hgs hfit
 have km:=Blk.new w 26 #[.slice B0 m0 d0,.slice B1 m1 d1,.slice B2 rs.length d2];have r1:=h.step ((Below.refl w.heap.size w).alloc nle (.cells #[.slice B0 m0 d0,.slice B1 m1 d1,.slice B2 rs.length d2] 26));have o1:=(Only.refl [g] w).alloc (.cells #[.slice B0 m0 d0,.slice B1 m1 d1,.slice B2 rs.length d2] 26)
 have kr:=Blk.new (w.alloc (.cells #[.slice B0 m0 d0,.slice B1 m1 d1,.slice B2 rs.length d2] 26)) 31 RZ;replace km:=km.step ((Below.refl _ _).alloc nle (.cells RZ 31));replace r1:=r1.step ((Below.refl _ _).alloc nle (.cells RZ 31));replace o1:=o1.alloc (.cells RZ 31)
 have hsz:((w.alloc (.cells #[.slice B0 m0 d0,.slice B1 m1 d1,.slice B2 rs.length d2] 26)).alloc (.cells RZ 31)).heap.size=w.heap.size+2:=by simp
 have hsz1:(w.alloc (.cells #[.slice B0 m0 d0,.slice B1 m1 d1,.slice B2 rs.length d2] 26)).heap.size=w.heap.size+1:=by simp
 go_enter Tryz.func79,Tryz.ntmps79;go_upto_region 1 with fail
 generalize hw1:(w.alloc (.cells #[.slice B0 m0 d0,.slice B1 m1 d1,.slice B2 rs.length d2] 26)).alloc (.cells RZ 31)=w1 at km kr r1 o1 hsz ⊢;rw[hsz1] at kr;clear hw1 hsz1 h;generalize hMC:(#[.slice B0 m0 d0,.slice B1 m1 d1,.slice B2 rs.length d2]:Array Value)=mc at km;generalize hRC:(RZ:Array Value)=rc at kr;have HMC:=Ja hMC;have HRC:=Ja hRC;clear hMC hRC
 go_cut [5] from 8 to 23 (fun v wx=>∃Q,v= .pointer (some ⟨Q,0,none⟩)∧RI mc rc w g (P+18) Q wx)
 case first=>
  refine Jt 17 _ rfl (fun k w'=>Rd w' g (P+k)∧Only [g] w1 w') (Only [g]) (reqΓ g w1.heap.size) (by kernel_rfl) rfl (by kernel_rfl) rfl (jmm _ _) (Only.refl _) ⟨⟨(r1.step (Below.refl _ _).drew).mono (by omega),Only.of_below ((Below.refl _ _).drew) _⟩,fun s hs=> ?_,by rfl⟩ ?_ ?_
  ·by_cases e:s=0
   ·subst e;rfl
   ·have hne:s∉ [8,9,10,11,12,13,14,15,16,17,18,19,20,21,22,23,5]:=fun hm=>by
     simp only[List.mem_cons,List.not_mem_nil,or_false] at hm;rcases hm with rfl|rfl|rfl|rfl|rfl|rfl|rfl|rfl|rfl|rfl|rfl|rfl|rfl|rfl|rfl|rfl|rfl<;>exact absurd hs (by decide)
    simp only[List.mem_cons,List.not_mem_nil,or_false,not_or] at hne;unfold reqΓ;split<;>first|trivial|(exfalso;omega)
  ·intro p hp;simp only[List.take_succ_cons,List.take_zero,List.mem_cons,List.not_mem_nil,or_false] at hp;rcases hp with rfl|rfl|rfl|rfl|rfl|rfl|rfl|rfl|rfl|rfl|rfl|rfl|rfl|rfl|rfl|rfl|rfl
   ·intro k a w' hk hC hR;have r0:_=_:=hR 0 (by decide);simp[Region.wanted,Jg,go_sem,execOp,r0,upT];exact⟨⟨hC.1.mono (by omega),hC.2⟩,Only.refl _ _,rfl⟩
   ·intro k a w' hk hC hR;have r8:_=_:=hR 8 (by decide);simp[Region.wanted,Jg,go_sem,execOp,r8,upT];have hk':k<18:=hk;refine(Jk g (P+k) 3 (by omega) (by omega) _ hC.1).mono ?_;rintro e w1 ⟨x,rfl,hx,hr,ho⟩;exact⟨_,rfl,⟨hr,hC.2.trans ho⟩,ho,⟨x,rfl,by omega⟩⟩
   ·intro k a w' hk hC hR;obtain⟨x,r9,hx⟩:jcn 3 _:=hR 9 (by decide);simp[Region.wanted,Jg,go_sem,execOp,r9,upT];exact⟨⟨hC.1.mono (by omega),hC.2⟩,Only.refl _ _,⟨_,rfl⟩⟩
   ·intro k a w' hk hC hR;have r0:_=_:=hR 0 (by decide);simp[Region.wanted,Jg,go_sem,execOp,r0,upT];exact⟨⟨hC.1.mono (by omega),hC.2⟩,Only.refl _ _,rfl⟩
   ·intro k a w' hk hC hR;have r11:_=_:=hR 11 (by decide);simp[Region.wanted,Jg,go_sem,execOp,r11,upT];have hk':k<18:=hk;refine(Jk g (P+k) 2 (by omega) (by omega) _ hC.1).mono ?_;rintro e w1 ⟨x,rfl,hx,hr,ho⟩;exact⟨_,rfl,⟨hr,hC.2.trans ho⟩,ho,⟨x,rfl,by omega⟩⟩
   ·intro k a w' hk hC hR;simp[Region.wanted,Jg,go_sem,execOp,upT];have hg':=hC.1.lt;exact⟨⟨(hC.1.step ((Below.refl _ _).alloc nle _)).mono (by omega),hC.2.alloc _⟩,(Only.refl _ _).alloc _,⟨_,rfl,by omega,Blk.new _ _ _⟩⟩
   ·intro k a w' hk hC hR;have r0:_=_:=hR 0 (by decide);simp[Region.wanted,Jg,go_sem,execOp,r0,upT];exact⟨⟨hC.1.mono (by omega),hC.2⟩,Only.refl _ _,rfl⟩
   ·intro k a w' hk hC hR;have r14:_=_:=hR 14 (by decide);simp[Region.wanted,Jg,go_sem,execOp,r14,upT];have hk':k<18:=hk;refine(Jk g (P+k) 20 (by omega) (by omega) _ hC.1).mono ?_;rintro e w1 ⟨x,rfl,hx,hr,ho⟩;exact⟨_,rfl,⟨hr,hC.2.trans ho⟩,ho,⟨x,rfl,by omega⟩⟩
   ·intro k a w' hk hC hR;obtain⟨b,r13,hb,hB⟩:FInts g _ _ _:=hR 13 (by decide);obtain⟨x,r15,hx⟩:jcn 20 _:=hR 15 (by decide);have x0:(x:Int)<20:=by omega
    simp[Region.wanted,Jg,go_sem,execOp,r13,r15,↓IntWalk.iteOmega,x0,upT];obtain⟨z,hz⟩:=litI (x:=x) hB (Only.refl [g] _) hb (by simpa using hx);exact⟨⟨hC.1.mono (by omega),hC.2⟩,Only.refl _ _,⟨b,x,z,rfl,hb,hB.lt,hz⟩⟩
   ·intro k a w' hk hC hR;obtain⟨b,x,z,r16,hb,hlt,hc⟩:FICell g _ _:=hR 16 (by decide);simp[Region.wanted,Jg,go_sem,execOp,r16,hc,upT];exact⟨⟨hC.1.mono (by omega),hC.2⟩,Only.refl _ _,⟨z,rfl⟩⟩
   ·intro k a w' hk hC hR;simp[Region.wanted,Jg,go_sem,execOp,upT];have hg':=hC.1.lt;exact⟨⟨(hC.1.step ((Below.refl _ _).alloc nle _)).mono (by omega),hC.2.alloc _⟩,(Only.refl _ _).alloc _,⟨_,rfl,by omega,Blk.new _ _ _⟩⟩
   ·intro k a w' hk hC hR;have r0:_=_:=hR 0 (by decide);simp[Region.wanted,Jg,go_sem,execOp,r0,upT];exact⟨⟨hC.1.mono (by omega),hC.2⟩,Only.refl _ _,rfl⟩
   ·intro k a w' hk hC hR;have r19:_=_:=hR 19 (by decide);simp[Region.wanted,Jg,go_sem,execOp,r19,upT];have hk':k<18:=hk;refine(Jk g (P+k) 4 (by omega) (by omega) _ hC.1).mono ?_;rintro e w1 ⟨x,rfl,hx,hr,ho⟩;exact⟨_,rfl,⟨hr,hC.2.trans ho⟩,ho,⟨x,rfl,by omega⟩⟩
   ·intro k a w' hk hC hR;obtain⟨b,r18,hb,hB⟩:FStrs g _ _ _:=hR 18 (by decide);obtain⟨x,r20,hx⟩:jcn 4 _:=hR 20 (by decide);have x0:(x:Int)<4:=by omega
    simp[Region.wanted,Jg,go_sem,execOp,r18,r20,↓IntWalk.iteOmega,x0,upT];obtain⟨s,hs,hz⟩:=Zs (k:=11) (x:=x) hB (Only.refl [g] _) hb (by simpa using hx) (by decide);exact⟨⟨hC.1.mono (by omega),hC.2⟩,Only.refl _ _,⟨b,x,s,rfl,hb,hB.lt,hs,hz⟩⟩
   ·intro k a w' hk hC hR;obtain⟨b,x,s,r21,hb,hlt,hc,hz⟩:FCell g 11 _ _:=hR 21 (by decide);simp[Region.wanted,Jg,go_sem,execOp,r21,hc,upT];exact⟨⟨hC.1.mono (by omega),hC.2⟩,Only.refl _ _,⟨s,rfl,hz⟩⟩
   ·intro k a w' hk hC hR;obtain⟨u,r10⟩:jpn _:=hR 10 (by decide);obtain⟨x12,r12,_⟩:jcn 2 _:=hR 12 (by decide);obtain⟨kd,r17⟩:jpn _:=hR 17 (by decide);obtain⟨rf,r22,hz⟩:jh8 11 _:=hR 22 (by decide);simp[Region.wanted,Jg,go_sem,execOp,r10,r12,r17,r22,upT];exact⟨⟨hC.1.mono (by omega),hC.2⟩,Only.refl _ _,⟨u,x12,kd,rf,rfl,hz,by omega⟩⟩
   ·intro k a w' hk hC hR;simp[Region.wanted,Jg,go_sem,execOp,upT];have hg':=hC.1.lt;have hs:=hC.2.size;exact⟨⟨(hC.1.step ((Below.refl _ _).alloc nle _)).mono (by omega),hC.2.alloc _⟩,(Only.refl _ _).alloc _,⟨_,rfl,by omega,hs,Blk.new _ _ _⟩⟩
  ·rintro w2 ⟨hr2,ho2⟩;simp only[List.take_succ_cons,List.take_zero,jdb];intro v8 _ v9 _ v10 _ v11 _ v12 _ v13 _ v14 _ v15 _ v16 _ v17 _ v18 _ v19 _ v20 _ v21 _ v22 _ v23 h23 v5 h5;obtain⟨u,rp,kd,rf,rfl,hrf,hrp⟩:FReq v23:=h23;obtain⟨Q,rfl,hb5,hB5,k5⟩:FBox g _ _ _ _ _:=h5
   have h0:RQ w g (P+17) mc rc Q Ws (.slice none 0 0) w2:=⟨hr2,o1.trans ho2,km.only ho2 (by simp;omega),kr.only ho2 (by simp;omega),k5,World.ownsRow_nil _ _ _ _,⟨Nat.zero_le _,Nat.zero_le _,fun i hi=>absurd hi (Nat.not_lt_zero _),Nat.zero_le _,⟨Nat.zero_le _,Nat.zero_le _⟩,Nat.zero_le _⟩,hg,by omega⟩
   have h1:=h0.put15 (q':=req0 u rp kd rf) (E':= .slice none 0 0) (World.ownsRow_nil _ _ _ _) ⟨hrf,Nat.zero_le _,fun i hi=>absurd hi (Nat.not_lt_zero _),Nat.zero_le _,⟨Nat.zero_le _,Nat.zero_le _⟩,Nat.zero_le _⟩;have c:=h0.all;obtain⟨c0,c1,c2,c3,c4,c5,c6,c7,c8,c9,c10,c11,c12,c13,c14⟩:=c;have f0:=h0.frz 0;have f1:=h0.frz 1;have f2:=h0.frz 2;have f3:=h0.frz 3;have f4:=h0.frz 4;have f5:=h0.frz 5
   have f6:=h0.frz 6;have f7:=h0.frz 7;have f8:=h0.frz 8;have f9:=h0.frz 9;have f10:=h0.frz 10;have f11:=h0.frz 11;have f12:=h0.frz 12;have f13:=h0.frz 13;have f14:=h0.frz 14;have H1:=Ja (h1.mono (show P+17≤P+18 by omega));clear h0 h1 k5;unfold V5 req0 Ws jlp;go_wp2_with fail;go_meet
   case rel=>exact⟨Q,rfl,_,_,H1.out,hrp,Nat.zero_le _⟩
 case rest=>
  obtain⟨w2,hw2⟩: ∃w2,w2=wc:=⟨_,rfl⟩;subst hw2;obtain⟨Q,rfl,q,E,h,hrp⟩:=hcut;clear km kr r1 o1 hsz;go_upto_region 2 with fail
  go_cut [30] from 24 to 30 (fun v wx=>(∃b,v= .bool b)∧RI mc rc w g (P+19) Q wx)
  case first=>
   skip;obtain⟨A,cE,f,rfl,hR, -, -, -⟩:=h.req;go_wp2_with((refine wpList_load_row rfl 31 (.tmp 5) rfl _ rfl _ _ _ _ h.kq.out Tryz.underlying31 rfl jb3 ?_));go_wp2_with fail;refine(Zp (x:=q) _ hR).mono ?_;rintro e w3 ⟨rfl,hb⟩;replace h:=h.low hb;clear hb hR;cases hw:Vs q
   ·clear hw;go_wp2_with fail
    all_goals
     go_meet
     case rel=>exact⟨⟨_,rfl⟩,_,_,h.mono (by omega),hrp⟩
   ·clear hw;go_wp2_with fail;refine(Jk g _ 4 (by omega) (by omega) _ h.rd).mono ?_;rintro e w4 ⟨x,rfl,hx,hr,ho⟩;replace h:=h.only ho hr;clear hx hr ho;go_wp2_with fail
    all_goals
     go_meet
     case rel=>exact⟨⟨_,rfl⟩,_,_,h.mono (by omega),hrp⟩
  case rest=>
   obtain⟨w2,hw2⟩: ∃w2,w2=wc:=⟨_,rfl⟩;subst hw2;clear h hrp;obtain⟨⟨b,rfl⟩,q,E,h,hrp⟩:=hcut;go_upto_if 30 with fail
   go_cut [] from 31 to 34 (fun wx=>RI mc rc w g (P+19) Q wx)
   case first=>
    skip;cases b
    ·go_wp2_with fail;go_meet
     case rel=>exact⟨_,_,h,hrp⟩
    ·skip;have c0:=h.cells 0;have c2:=h.cells 2;simp only[V5,List.getElem?_toArray,List.getElem?_cons_zero,List.getElem?_cons_succ] at c0 c2;have f0:=h.frz 0;go_wp2_with fail
     all_goals
      go_meet
      case rel=>exact⟨_,_,h.putUser _,hrp⟩
   case rest=>
    obtain⟨w2,hw2⟩: ∃w2,w2=wc:=⟨_,rfl⟩;subst hw2;clear h hrp;obtain⟨q,E,h,hrp⟩:=hcut;go_upto_region 4 with fail
    go_cut [] from 35 to 38 (fun wx=>RI mc rc w g (P+19) Q wx)
    case first=>
     skip;have c0:=h.cells 0;have c1:=h.cells 1;simp only[V5,List.getElem?_toArray,List.getElem?_cons_zero,List.getElem?_cons_succ] at c0 c1;have f1:=h.frz 1;go_wp2_with fail
     all_goals
      go_meet
      case rel=>exact⟨_,_,h.putKey _,hrp⟩
    case rest=>
     obtain⟨w2,hw2⟩: ∃w2,w2=wc:=⟨_,rfl⟩;subst hw2;clear h hrp;obtain⟨q,E,h,hrp⟩:=hcut;go_upto_region 5 with fail
     go_cut [44] from 39 to 44 (fun v wx=>v= .bool (decide (q.repo<(rs.length:Int)))∧RQ w g (P+19) mc rc Q q E wx)
     case first=>
      skip;have c2:=h.cells 2;simp only[V5,List.getElem?_toArray,List.getElem?_cons_zero,List.getElem?_cons_succ] at c2;have m2:w2.cell? ⟨w.heap.size,2,none⟩=some (.slice B2 rs.length d2):=by have:=h.km.cell 2;rw[←HMC.out] at this;exact this
      go_wp2_with fail
      all_goals
       go_meet
       case rel=>exact⟨rfl,h⟩
     case rest=>
      obtain⟨w2,hw2⟩: ∃w2,w2=wc:=⟨_,rfl⟩;subst hw2;clear h;obtain⟨rfl,h⟩:=hcut;go_upto_if 44 with fail
      go_cut [6,7] from 44 to 93 (fun _ _ wx=>RI mc rc w g (P+20) Q wx)
      case first=>
       skip;by_cases hlt:q.repo<(rs.length:Int)
       ·have hd:=decide_eq_true hlt;obtain⟨i,hri⟩: ∃i:Nat,q.repo=(i:Int):=⟨q.repo.toNat,by have:=hrp.1;omega⟩;have hi:i<rs.length:=by omega
        obtain⟨b,o,B0r,m0r,k0r,g0,B1r,m1r,k1r,g1,rfl,hbl,hbm,q0,q1,q2,hs0,hs1,hsub⟩:=J7 (HRS.out _ h.on) hi;obtain rfl:=hs0.1;obtain rfl:=hs1.1;have HG:=Ja (fun(z:Nat) (hz:z∈g0++g1)=>HGS.out Q (by have:=h.ql;omega) z (hsub z hz));have hbb:b<w2.heap.size∧b≠g:=⟨hbl,(HGS.out Q (by have:=h.ql;omega) b hbm).1⟩
        have HG0:=Ja (fun(z:Nat) (hz:z∈g0)=>(by simp only[List.mem_singleton];exact(HG.out z (by simp[hz])).1:z∉ [g]));clear hsub hbl hbm;have i0:(0:Int)≤(i:Int):=by omega
        have i1:(i:Int)<(rs.length:Int):=by omega
        have c2:=h.cells 2;simp only[V5,List.getElem?_toArray,List.getElem?_cons_zero,List.getElem?_cons_succ] at c2;rw[hri] at c2;have m2:w2.cell? ⟨w.heap.size,2,none⟩=some (.slice (some ⟨b,o,none⟩) rs.length d2):=by have:=h.km.cell 2;rw[←HMC.out] at this;exact this
        skip;go_upto_region 6 with fail
        go_cut [6] from 45 to 50 (fun v wx=>∃Pb,v= .pointer (some ⟨Pb,0,none⟩)∧RP mc rc w g (P+19) Q Pb rs[i] wx)
        case first=>
         skip;have hqs:=h.size;have hbl:=(Below.refl w2.heap.size w2).alloc nle (.cells #[.int .i64 rs[i].Az,.slice B0r rs[i].Uz.length k0r,.slice B1r rs[i].Fz.length k1r] 48)
         have HR:=Ja (show RP mc rc w g (P+19) Q w2.heap.size rs[i] _ from⟨_,_,_,_,_,_,_,_,h.low hbl,hrp,Blk.new _ _ _,hs0.step hbl,hs1.step hbl,⟨fun hz=>(HG.out g (by simp[hz])).1 rfl,fun hz=>(HG.out g (by simp[hz])).1 rfl⟩,⟨fun hz=>(HG.out Q (by simp[hz])).2 rfl,fun hz=>(HG.out Q (by simp[hz])).2 rfl⟩,by omega,by omega⟩);clear hbl;go_wp2_with fail
         all_goals
          go_meet
          case rel=>exact⟨_,rfl,HR.out⟩
        case rest=>
         obtain⟨w3,hw3⟩: ∃w3,w3=wc:=⟨_,rfl⟩;subst hw3;clear c2 m2 q0 q1 q2 h hs0 hs1 hrp hlt hri hd;obtain⟨Pb,rfl,q,E,B0r,k0r,g0,B1r,k1r,g1,h,hrp,kp,hs0,hs1,hgg,hQQ,hPQ,hPg⟩:=hcut;have c4:=h.cells 4;simp only[V5,List.getElem?_toArray,List.getElem?_cons_zero,List.getElem?_cons_succ] at c4;have p0:=kp.cell 0;have p1:=kp.cell 1;have p2:=kp.cell 2
         simp only[List.getElem?_toArray,List.getElem?_cons_zero,List.getElem?_cons_succ] at p0 p1 p2;go_wp2_with fail;refine(jbd (x:=rs[i]) q.ref _ ⟨_,_,_,_,_,_,_,_,rfl,rfl,hs0,hs1⟩).mono ?_;rintro e w4 ⟨rfl,hb⟩;replace h:=h.low hb;replace kp:=kp.step hb;replace hs0:=hs0.step hb;replace hs1:=hs1.step hb;clear hb c4 p0 p1 p2;go_upto_if 56 with fail
         go_cut [7] from 51 to 63 (fun _ wx=>RP mc rc w g (P+19) Q Pb rs[i] wx)
         case first=>
          skip;rcases Zu (Xx q.ref) rs[i].Fz with ⟨hn,he⟩|⟨k,hn,hk,he⟩
          ·rw[he];clear he hn;go_wp2_with fail
           all_goals
            go_meet
            case rel=>exact⟨_,_,_,_,_,_,_,_,h,hrp,kp,hs0,hs1,hgg,hQQ,hPQ,hPg⟩
          ·rw[he];clear he hn;obtain⟨b3,o3,A3,n3,c3,f3,rfl, -, -,r0,r1,r2,r3, -, -⟩:=J3 hs1 hk;have j0:(0:Int)≤(k:Int):=by omega
           have j1:(k:Int)<(rs[i].Fz.length:Int):=by omega
           have p0:=kp.cell 0;have p1:=kp.cell 1;have p2:=kp.cell 2;simp only[List.getElem?_toArray,List.getElem?_cons_zero,List.getElem?_cons_succ] at p0 p1 p2;have c6:=h.cells 6;simp only[V5,List.getElem?_toArray,List.getElem?_cons_zero,List.getElem?_cons_succ] at c6;have f6:=h.frz 6;clear r0 r1 r3;go_wp2_with fail
           all_goals
            go_meet
            case rel=>exact⟨_,_,_,_,_,_,_,_,h.putOld _,hrp,kp.far hPQ _,hs0.putN hQQ.1 _,hs1.putN hQQ.2 _,hgg,hQQ,hPQ,hPg⟩
         case rest=>
          obtain⟨w3,hw3⟩: ∃w3,w3=wc:=⟨_,rfl⟩;subst hw3;clear h hrp kp hs0 hs1 hgg hQQ hPQ hPg;obtain⟨q,E,B0r,k0r,g0,B1r,k1r,g1,h,hrp,kp,hs0,hs1,hgg,hQQ,hPQ,hPg⟩:=hcut;go_upto_region 10 with fail
          go_cut [86] from 64 to 86 (fun v wx=>(∃b,v= .bool b)∧RP mc rc w g (P+20) Q Pb rs[i] wx)
          case first=>
           skip;obtain⟨A,cE,f,rfl,hR, -, -, -⟩:=h.req;go_wp2_with((refine wpList_load_row rfl 31 (.tmp 5) rfl _ rfl _ _ _ _ h.kq.out Tryz.underlying31 rfl jb3 ?_));go_wp2_with fail;refine(Zp (x:=q) _ hR).mono ?_;rintro e w4 ⟨rfl,hb⟩;replace h:=h.low hb;replace kp:=kp.step hb;replace hs0:=hs0.step hb;replace hs1:=hs1.step hb;clear hb hR;have c3:=h.cells 3
           simp only[V5,List.getElem?_toArray,List.getElem?_cons_zero,List.getElem?_cons_succ] at c3;cases hw:Vs q
           ·clear hw;by_cases e2:q.kind=2
            ·rw[e2] at c3;clear e2;go_wp2_with fail
             all_goals
              go_meet
              case rel=>exact⟨⟨_,rfl⟩,_,_,_,_,_,_,_,_,h.mono (by omega),hrp,kp,hs0,hs1,hgg,hQQ,hPQ,hPg⟩
            have n2:(q.kind==(2:Int))=false:=beq_eq_false_iff_ne.2 e2;have b2:(q.kind !=(2:Int))=true:=bne_iff_ne.2 e2;have d2:decide (q.kind=(2:Int))=false:=decide_eq_false e2;clear e2;by_cases e3:q.kind=3
            ·rw[e3] at c3;clear e3;go_wp2_with fail
             all_goals
              go_meet
              case rel=>exact⟨⟨_,rfl⟩,_,_,_,_,_,_,_,_,h.mono (by omega),hrp,kp,hs0,hs1,hgg,hQQ,hPQ,hPg⟩
            have n3:(q.kind==(3:Int))=false:=beq_eq_false_iff_ne.2 e3;have b3:(q.kind !=(3:Int))=true:=bne_iff_ne.2 e3;have d3:decide (q.kind=(3:Int))=false:=decide_eq_false e3;clear e3;by_cases e11:q.kind=11
            ·rw[e11] at c3;clear e11;go_wp2_with fail
             all_goals
              go_meet
              case rel=>exact⟨⟨_,rfl⟩,_,_,_,_,_,_,_,_,h.mono (by omega),hrp,kp,hs0,hs1,hgg,hQQ,hPQ,hPg⟩
            have n11:(q.kind==(11:Int))=false:=beq_eq_false_iff_ne.2 e11;have b11:(q.kind !=(11:Int))=true:=bne_iff_ne.2 e11;have d11:decide (q.kind=(11:Int))=false:=decide_eq_false e11;clear e11;go_wp2_with fail;refine(Jk g _ 4 (by omega) (by omega) _ h.rd).mono ?_;rintro e w5 ⟨x,rfl,hx,hr,ho⟩;replace h:=h.only ho hr;replace kp:=kp.only ho (by simpa using hPg)
            replace hs0:=hs0.only ho (fun z hz=>by simp only[List.mem_singleton];exact fun e=>hgg.1 (e▸hz));replace hs1:=hs1.only ho (fun z hz=>by simp only[List.mem_singleton];exact fun e=>hgg.2 (e▸hz));clear hx hr ho c3;go_wp2_with fail
            all_goals
             go_meet
             case rel=>exact⟨⟨_,rfl⟩,_,_,_,_,_,_,_,_,h,hrp,kp,hs0,hs1,hgg,hQQ,hPQ,hPg⟩
           ·clear hw;go_wp2_with fail
            all_goals
             go_meet
             case rel=>exact⟨⟨_,rfl⟩,_,_,_,_,_,_,_,_,h.mono (by omega),hrp,kp,hs0,hs1,hgg,hQQ,hPQ,hPg⟩
          case rest=>
           obtain⟨w3,hw3⟩: ∃w3,w3=wc:=⟨_,rfl⟩;subst hw3;clear h hrp kp hs0 hs1 hgg hQQ hPQ hPg;obtain⟨⟨bb,rfl⟩,q,E,B0r,k0r,g0,B1r,k1r,g1,h,hrp,kp,hs0,hs1,hgg,hQQ,hPQ,hPg⟩:=hcut;go_upto_if 86 with fail
           cases bb
           ·skip;go_wp2_with fail
            all_goals
             go_meet
             case rel=>exact⟨_,_,h,hrp⟩
           ·skip;have c0:=h.cells 0;have c1:=h.cells 1;simp only[V5,List.getElem?_toArray,List.getElem?_cons_zero,List.getElem?_cons_succ] at c0 c1;have f0:=h.frz 0;have f1:=h.frz 1;have p0:=kp.cell 0;have p1:=kp.cell 1;have p2:=kp.cell 2;simp only[List.getElem?_toArray,List.getElem?_cons_zero,List.getElem?_cons_succ] at p0 p1 p2;go_wp2_with fail
            all_goals
             go_meet
             case rel=>exact⟨_,_,(h.putUser _).putKey _,hrp⟩
       ·have hd:=decide_eq_false hlt;go_wp2_with fail
        all_goals
         go_meet
         case rel=>exact⟨_,_,h.mono (by omega),hrp⟩
      case rest=>
       obtain⟨w2,hw2⟩: ∃w2,w2=wc:=⟨_,rfl⟩;subst hw2;clear h hrp;obtain⟨q,E,h,hrp⟩:=hcut;have c3:=h.cells 3;simp only[V5,List.getElem?_toArray,List.getElem?_cons_zero,List.getElem?_cons_succ] at c3;generalize hkd:q.kind=kd at c3
       go_upto_block 0 with fail
       go_cut [] from 96 to 248 (fun wx=>RI mc rc w g (P+190) Q wx)
       case first=>
        skip;clear c3;by_cases e1:kd=1
        ·subst e1;go_upto_region 15 with fail
         go_cut [] from 98 to 100 (fun wx=>RI mc rc w g (P+40) Q wx)
         case first=>
          skip;have hB:=h.size;go_wp2_with fail;refine(jeu g _ (by omega) _ h.rd).mono ?_;rintro e w5 ⟨v,l,rfl,hown,hfit,hl,hr,ho⟩;obtain⟨A',c',f',rfl, -, -, -, -⟩:=Xw (k:=3) (enc:=Jp) (hk:=fun _=>rfl) (h1:=Yn) hown;replace h:=h.only ho hr;have c8:=h.cells 8;simp only[V5,List.getElem?_toArray,List.getElem?_cons_zero,List.getElem?_cons_succ] at c8;have f8:=h.frz 8
          go_wp2_with fail
          all_goals
           go_meet
           case rel=>exact⟨_,_,(h.mono (by omega)).putEdits hown (by omega) hfit (by omega),hrp.1,hl⟩
         case rest=>
          obtain⟨w2,hw2⟩: ∃w2,w2=wc:=⟨_,rfl⟩;subst hw2;clear h hrp;obtain⟨q,E,h,hrp⟩:=hcut;go_upto_region 16 with fail
          go_cut [103] from 101 to 103 (fun v wx=>(∃b,v= .bool b)∧RI mc rc w g (P+45) Q wx)
          case first=>
           skip;go_wp2_with fail;refine(Jk g _ 3 (by omega) (by omega) _ h.rd).mono ?_;rintro e w4 ⟨x,rfl,hx,hr,ho⟩;replace h:=h.only ho hr;clear hx hr ho;go_wp2_with fail
           all_goals
            go_meet
            case rel=>exact⟨⟨_,rfl⟩,_,_,h.mono (by omega),hrp⟩
          case rest=>
           obtain⟨w2,hw2⟩: ∃w2,w2=wc:=⟨_,rfl⟩;subst hw2;clear h hrp;obtain⟨⟨b,rfl⟩,q,E,h,hrp⟩:=hcut;go_upto_if 103 with fail
           go_cut [] from 104 to 107 (fun wx=>RI mc rc w g (P+55) Q wx)
           case first=>
            skip;cases b
            ·go_wp2_with fail;go_meet
             case rel=>exact⟨_,_,h.mono (by omega),hrp⟩
            ·skip;have hB:=h.size;go_wp2_with fail;refine(jc6 g _ (by omega) _ h.rd).mono ?_;rintro e w5 ⟨x,rfl,hfx,hr,ho⟩;have hs5:=ho.size;replace h:=h.only ho hr;rw[show(Jp x).toArray= #[.string x.path,.string x.bytes,.bool x.gone] from rfl];have hA:=h.alloc (.cells #[.string x.path,.string x.bytes,.bool x.gone] 59)
             have hown:=jhp (Blk.new w5 59 #[.string x.path,.string x.bytes,.bool x.gone]);replace h:=hA;have c8:=h.cells 8;simp only[V5,List.getElem?_toArray,List.getElem?_cons_zero,List.getElem?_cons_succ] at c8;have f8:=h.frz 8;go_wp2_with fail
             all_goals
              go_meet
              case rel=>exact⟨_,_,(h.mono (by omega)).putEdits hown (by omega) (jij hfx) (by simp),hrp.1,by simp⟩
           case rest=>
            obtain⟨w2,hw2⟩: ∃w2,w2=wc:=⟨_,rfl⟩;subst hw2;clear h hrp;obtain⟨q,E,h,hrp⟩:=hcut;go_upto_region 18 with fail
            go_cut [115] from 108 to 115 (fun v wx=>(∃b,v= .bool b)∧RI mc rc w g (P+55) Q wx)
            case first=>
             skip;have c0:=h.cells 0;have c2:=h.cells 2;simp only[V5,List.getElem?_toArray,List.getElem?_cons_zero,List.getElem?_cons_succ] at c0 c2;cases hu:(q.user==(2:Int))
             ·skip;go_wp2_with fail
              all_goals
               go_meet
               case rel=>exact⟨⟨_,rfl⟩,_,_,h,hrp⟩
             ·skip;go_wp2_with fail
              all_goals
               go_meet
               case rel=>exact⟨⟨_,rfl⟩,_,_,h,hrp⟩
            case rest=>
             obtain⟨w2,hw2⟩: ∃w2,w2=wc:=⟨_,rfl⟩;subst hw2;clear h hrp;obtain⟨⟨b,rfl⟩,q,E,h,hrp⟩:=hcut;go_upto_if 115 with fail
             refine jj0 fun K hK=> ?_
             go_cut [] from 116 to 152 (fun wx=>RI mc rc w g (P+150) Q wx)
             case first=>
              skip;cases b
              ·skip;go_wp2_with fail
               all_goals
                go_meet
                case rel=>exact⟨_,_,h.mono (by omega),hrp⟩
              ·skip;go_upto_region 19 with fail
               go_cut [] from 116 to 125 (fun wx=>RJ 1 mc rc w g (P+72) Q wx)
               case first=>
                skip;refine Jt 10 _ rfl (fun k w'=>Rd w' g (P+60+k)∧Only [g] w2 w') (Only [g]) (putΓ g w2.heap.size Q) (by kernel_rfl) rfl (by kernel_rfl) rfl (jmr _ _ _) (Only.refl _) ⟨⟨((h.mono (show _≤P+60 by omega)).rd.step (Below.refl _ _).drew),Only.of_below ((Below.refl _ _).drew) _⟩,fun s hs=> ?_,by rfl⟩ ?_ ?_
                ·by_cases e0:s=0
                 ·subst e0;rfl
                 ·by_cases e5:s=5
                  ·subst e5;rfl
                  ·have hne:s∉ [116,117,118,119,120,121,122,123,124,125]:=fun hm=>by
                    simp only[List.mem_cons,List.not_mem_nil,or_false] at hm;rcases hm with rfl|rfl|rfl|rfl|rfl|rfl|rfl|rfl|rfl|rfl<;>exact absurd hs (by decide)
                   simp only[List.mem_cons,List.not_mem_nil,or_false,not_or] at hne;unfold putΓ;split<;>first|trivial|(exfalso;omega)
                ·intro p hp;simp only[List.take_succ_cons,List.take_zero,List.mem_cons,List.not_mem_nil,or_false] at hp;rcases hp with rfl|rfl|rfl|rfl|rfl|rfl|rfl|rfl|rfl|rfl
                 ·intro k a w' hk hC hR;simp[Region.wanted,Jg,go_sem,execOp,upT];have hg':=hC.1.lt;exact⟨⟨(hC.1.step ((Below.refl _ _).alloc nle _)).mono (by omega),hC.2.alloc _⟩,(Only.refl _ _).alloc _,⟨_,rfl,by omega,Blk.new _ _ _⟩⟩
                 ·intro k a w' hk hC hR;have r0:_=_:=hR 0 (by decide);simp[Region.wanted,Jg,go_sem,execOp,r0,upT];exact⟨⟨hC.1.mono (by omega),hC.2⟩,Only.refl _ _,rfl⟩
                 ·intro k a w' hk hC hR;have r117:_=_:=hR 117 (by decide);simp[Region.wanted,Jg,go_sem,execOp,r117,upT];have hk':k<11:=hk;refine(Jk g (P+60+k) 4 (by omega) (by omega) _ hC.1).mono ?_;rintro e w1 ⟨x,rfl,hx,hr,ho⟩;exact⟨_,rfl,⟨hr,hC.2.trans ho⟩,ho,⟨x,rfl,by omega⟩⟩
                 ·intro k a w' hk hC hR;obtain⟨b,r116,hb,hB⟩:FStrs g _ _ _:=hR 116 (by decide);obtain⟨x,r118,hx⟩:jcn 4 _:=hR 118 (by decide);have x0:(x:Int)<4:=by omega
                  simp[Region.wanted,Jg,go_sem,execOp,r116,r118,↓IntWalk.iteOmega,x0,upT];obtain⟨s,hs,hz⟩:=Zs (k:=11) (x:=x) hB (Only.refl [g] _) hb (by simpa using hx) (by decide);exact⟨⟨hC.1.mono (by omega),hC.2⟩,Only.refl _ _,⟨b,x,s,rfl,hb,hB.lt,hs,hz⟩⟩
                 ·intro k a w' hk hC hR;obtain⟨b,x,s,r119,hb,hlt,hc,hz⟩:FCell g 11 _ _:=hR 119 (by decide);simp[Region.wanted,Jg,go_sem,execOp,r119,hc,upT];exact⟨⟨hC.1.mono (by omega),hC.2⟩,Only.refl _ _,⟨s,rfl,hz⟩⟩
                 ·intro k a w' hk hC hR;have r0:_=_:=hR 0 (by decide);simp[Region.wanted,Jg,go_sem,execOp,r0,upT];exact⟨⟨hC.1.mono (by omega),hC.2⟩,Only.refl _ _,rfl⟩
                 ·intro k a w' hk hC hR;have r121:_=_:=hR 121 (by decide);simp[Region.wanted,Jg,go_sem,execOp,r121,upT];have hk':k<11:=hk;refine(Z5 g (P+60+k) (by omega) _ hC.1).mono ?_;rintro e w1 ⟨s,rfl,hz,hr,ho⟩;exact⟨_,rfl,⟨hr,hC.2.trans ho⟩,ho,⟨s,rfl,hz⟩⟩
                 ·intro k a w' hk hC hR;obtain⟨s,r120,hz⟩:jh8 11 _:=hR 120 (by decide);obtain⟨t,r122,hz2⟩:jh8 11 _:=hR 122 (by decide);simp[Region.wanted,Jg,go_sem,execOp,r120,r122,upT];exact⟨⟨hC.1.mono (by omega),hC.2⟩,Only.refl _ _,⟨⟨s,t,false⟩,rfl,hz,hz2⟩⟩
                 ·intro k a w' hk hC hR;obtain⟨x,r123,hx⟩: ∃x:Wz,_=Value.agg (Jp x).toArray∧Xu x:=hR 123 (by decide);rw[show(Jp x).toArray= #[.string x.path,.string x.bytes,.bool x.gone] from rfl] at r123;simp[Region.wanted,Jg,go_sem,execOp,r123,upT];have hg':=hC.1.lt;have hs':=hC.2.size
                  exact⟨⟨(hC.1.step ((Below.refl _ _).alloc nle _)).mono (by omega),hC.2.alloc _⟩,(Only.refl _ _).alloc _,⟨_,x,rfl,by omega,by omega,hx,Blk.new _ _ _⟩⟩
                 ·intro k a w' hk hC hR;have r5:_=_:=hR 5 (by decide);simp[Region.wanted,Jg,go_sem,execOp,r5,upT];exact⟨⟨hC.1.mono (by omega),hC.2⟩,Only.refl _ _,rfl⟩
                ·rintro w4 ⟨hr4,ho4⟩;simp only[List.take_succ_cons,List.take_zero,jdb];intro v116 _ v117 _ v118 _ v119 _ v120 _ v121 _ v122 _ v123 _ v124 h124 v125 h125;obtain⟨b,x,rfl,hb,hH,hx,kb⟩:FNew g w2.heap.size _ _:=h124;obtain rfl:v125= .pointer (some ⟨Q,8,none⟩):=h125;have hB:=h.size;replace h:=h.only ho4 hr4;have hown:=jhp kb;clear kb;have c8:=h.cells 8
                 simp only[V5,List.getElem?_toArray,List.getElem?_cons_zero,List.getElem?_cons_succ] at c8;have f8:=h.frz 8;go_wp2_with fail
                 all_goals
                  go_meet
                  case rel=>exact⟨_,_,(h.mono (by omega)).putEdits hown (by omega) (jij hx) (by simp),hrp.1,by simp,by simp⟩
               case rest=>
                obtain⟨w2,hw2⟩: ∃w2,w2=wc:=⟨_,rfl⟩;subst hw2;clear h hrp;obtain⟨q,E,h,hrp⟩:=hcut;go_upto_region 20 with fail
                go_cut [128] from 126 to 128 (fun v wx=>(∃b,v= .bool b)∧RJ 1 mc rc w g (P+75) Q wx)
                case first=>
                 skip;go_wp2_with fail;refine(Jk g _ 3 (by omega) (by omega) _ h.rd).mono ?_;rintro e w4 ⟨x,rfl,hx,hr,ho⟩;replace h:=h.only ho hr;clear hx hr ho;go_wp2_with fail
                 all_goals
                  go_meet
                  case rel=>exact⟨⟨_,rfl⟩,_,_,h.mono (by omega),hrp⟩
                case rest=>
                 obtain⟨w2,hw2⟩: ∃w2,w2=wc:=⟨_,rfl⟩;subst hw2;clear h hrp;obtain⟨⟨b,rfl⟩,q,E,h,hrp⟩:=hcut;go_upto_if 128 with fail
                 go_cut [] from 129 to 141 (fun wx=>RJ 2 mc rc w g (P+110) Q wx)
                 case first=>
                  skip;cases b
                  ·go_wp2_with fail;go_meet
                   case rel=>exact⟨_,_,h.mono (by omega),hrp.1,hrp.2.1,by have:=hrp.2.2;omega⟩
                  ·have hl1:=hrp.2.2;go_wp2_with fail;obtain⟨A0,c0,f0,rfl, -, -, -, -⟩:=h.req;have hE: ∀k,(Value.slice A0 q.Ez.length c0).ownBlock=some k→k<w2.heap.size:=fun k hk=>(h.own.lt k hk).2;obtain⟨i0,hi,hz0,hz1,hz2⟩:=info_parts jcl;have h:=h.mono (show _≤P+75 by omega)
                   refine Jz 13 _ rfl (fun L τ w'=>Ap [(11,10),(10,9),(9,6),(9,8),(6,5),(5,2),(5,4),(11,1)] 11 140 4 8 8 w g (P+75) mc rc Q q (.slice A0 q.Ez.length c0) L τ w'∧w2.heap.size≤w'.heap.size) (Only (g::(Value.slice A0 q.Ez.length c0).ownBlock.toList)) (ap1Γ g w2.heap.size Q (.slice A0 q.Ez.length c0)) (by kernel_rfl) rfl (by kernel_rfl) rfl (jnp _ _ _ hE) (Only.refl _) ⟨⟨Ap.start h.drew,Nat.le_refl _⟩,fun s hs=> ?_,by rfl⟩ ?_ ?_
                   ·by_cases e0:s=0
                    ·subst e0;rfl
                    ·by_cases e5:s=5
                     ·subst e5;rfl
                     ·have hne:s∉ [129,130,131,132,133,134,135,136,137,138,139,140,141]:=fun hm=>by
                       simp only[List.mem_cons,List.not_mem_nil,or_false] at hm;rcases hm with rfl|rfl|rfl|rfl|rfl|rfl|rfl|rfl|rfl|rfl|rfl|rfl|rfl<;>exact absurd hs (by decide)
                      simp only[List.mem_cons,List.not_mem_nil,or_false,not_or] at hne;unfold ap1Γ;split<;>first|trivial|(exfalso;omega)
                   ·intro i p hi13 hp;have hcases:i=0∨i=1∨i=2∨i=3∨i=4∨i=5∨i=6∨i=7∨i=8∨i=9∨i=10∨i=11∨i=12:=by omega
                    rcases hcases with rfl|rfl|rfl|rfl|rfl|rfl|rfl|rfl|rfl|rfl|rfl|rfl|rfl
                    all_goals(obtain rfl:=Option.some.inj hp)
                    ·intro L a w' hL hl hall hC hR;have hcs: ∀p∈([(11,10),(10,9),(9,6),(9,8),(6,5),(5,2),(5,4),(11,1)]:List (Nat×Nat)),p.1=0→L.getD p.2 false=true:=by
                      intro p hp h1;simp only[List.mem_cons,List.not_mem_nil,or_false] at hp;rcases hp with rfl|rfl|rfl|rfl|rfl|rfl|rfl|rfl<;>exact absurd h1 (by decide)
                     have r5:_=_:=hR 5 (by decide);simp[Region.wanted,Jg,go_sem,execOp,r5,upT];exact⟨Only.refl _ _,rfl,hC.1.pure (by decide) (by decide) hcs,hC.2⟩
                    ·intro L a w' hL hl hall hC hR;have hcs: ∀p∈([(11,10),(10,9),(9,6),(9,8),(6,5),(5,2),(5,4),(11,1)]:List (Nat×Nat)),p.1=1→L.getD p.2 false=true:=by
                      intro p hp h1;simp only[List.mem_cons,List.not_mem_nil,or_false] at hp;rcases hp with rfl|rfl|rfl|rfl|rfl|rfl|rfl|rfl<;>exact absurd h1 (by decide)
                     have ha:L.getD 11 false=false:=Bool.eq_false_iff.2 fun e11=>by
                      have e1:=hC.1.cl (11,1) (by decide) e11;rw[e1] at hl;cases hl
                     have r129:_=_:=hR 129 (by decide);have hc:w'.cell? ⟨Q,8,none⟩=some (.slice A0 q.Ez.length c0):=(hC.1.be ha).cells 8;simp[Region.wanted,Jg,go_sem,execOp,r129,hc,upT];exact⟨Only.refl _ _,rfl,hC.1.pure (by decide) (by decide) hcs,hC.2⟩
                    ·intro L a w' hL hl hall hC hR;have hcs: ∀p∈([(11,10),(10,9),(9,6),(9,8),(6,5),(5,2),(5,4),(11,1)]:List (Nat×Nat)),p.1=2→L.getD p.2 false=true:=by
                      intro p hp h1;simp only[List.mem_cons,List.not_mem_nil,or_false] at hp;rcases hp with rfl|rfl|rfl|rfl|rfl|rfl|rfl|rfl<;>exact absurd h1 (by decide)
                     have ha:L.getD 11 false=false:=Bool.eq_false_iff.2 fun e11=>by
                      have e10:=hC.1.cl (11,10) (by decide) e11;have e9:=hC.1.cl (10,9) (by decide) e10;have e6:=hC.1.cl (9,6) (by decide) e9;have e5:=hC.1.cl (6,5) (by decide) e6;have e2:=hC.1.cl (5,2) (by decide) e5;rw[e2] at hl;cases hl
                     simp[Region.wanted,Jg,go_sem,execOp,upT];have hq:=hC.1.be ha;have hqs:=hq.size;have hs2:=hC.2;exact⟨(Only.refl _ _).alloc _,⟨_,rfl,by omega,hs2,Blk.new _ _ _⟩,hC.1.turn (by decide) ha hcs (hq.alloc _) (Nat.add_le_add_left (jfa _ _ _ _ _) _),by first|omega|(simp;omega)⟩
                    ·intro L a w' hL hl hall hC hR;have hcs: ∀p∈([(11,10),(10,9),(9,6),(9,8),(6,5),(5,2),(5,4),(11,1)]:List (Nat×Nat)),p.1=3→L.getD p.2 false=true:=by
                      intro p hp h1;simp only[List.mem_cons,List.not_mem_nil,or_false] at hp;rcases hp with rfl|rfl|rfl|rfl|rfl|rfl|rfl|rfl<;>exact absurd h1 (by decide)
                     have r0:_=_:=hR 0 (by decide);simp[Region.wanted,Jg,go_sem,execOp,r0,upT];exact⟨Only.refl _ _,rfl,hC.1.pure (by decide) (by decide) hcs,hC.2⟩
                    ·intro L a w' hL hl hall hC hR;have hcs: ∀p∈([(11,10),(10,9),(9,6),(9,8),(6,5),(5,2),(5,4),(11,1)]:List (Nat×Nat)),p.1=4→L.getD p.2 false=true:=by
                      intro p hp h1;simp only[List.mem_cons,List.not_mem_nil,or_false] at hp;rcases hp with rfl|rfl|rfl|rfl|rfl|rfl|rfl|rfl<;>exact absurd h1 (by decide)
                     have ha:L.getD 11 false=false:=Bool.eq_false_iff.2 fun e11=>by
                      have e10:=hC.1.cl (11,10) (by decide) e11;have e9:=hC.1.cl (10,9) (by decide) e10;have e6:=hC.1.cl (9,6) (by decide) e9;have e5:=hC.1.cl (6,5) (by decide) e6;have e4:=hC.1.cl (5,4) (by decide) e5;rw[e4] at hl;cases hl
                     have r132:_=_:=hR 132 (by decide);simp[Region.wanted,Jg,go_sem,execOp,r132,upT];have hq:=hC.1.be ha;have hcn:=jc9 4 8 8 L;have hca:=jf9 (i:=4) (j:=8) (k:=8) (show 4<L.size by rw[hL];decide) hl (by decide);refine(Jk g _ 3 (by omega) (by omega) _ hq.rd).mono ?_;rintro e w1 ⟨x,rfl,hx,hr,ho⟩;have hs1:=ho.size;have hs2:=hC.2
                     exact⟨_,rfl,ho.wide,⟨x,rfl,by omega⟩,hC.1.turn (by decide) ha hcs (hq.only ho hr) (by omega),by omega⟩
                    ·intro L a w' hL hl hall hC hR;have hcs: ∀p∈([(11,10),(10,9),(9,6),(9,8),(6,5),(5,2),(5,4),(11,1)]:List (Nat×Nat)),p.1=5→L.getD p.2 false=true:=by
                      intro p hp h1;simp only[List.mem_cons,List.not_mem_nil,or_false] at hp;rcases hp with rfl|rfl|rfl|rfl|rfl|rfl|rfl|rfl<;>first|exact absurd h1 (by decide)|exact hall ⟨_,.data⟩ (by simp) (by decide)
                     obtain⟨b,r131,hb,hH,hB⟩:FStrsH g _ _ _ _:=hR 131 (by decide);obtain⟨x,r133,hx⟩:jcn 3 _:=hR 133 (by decide);have x0:(x:Int)<3:=by omega
                     simp[Region.wanted,Jg,go_sem,execOp,r131,r133,↓IntWalk.iteOmega,x0,upT];obtain⟨s,hs,hz⟩:=Zs (k:=11) (x:=x) hB (Only.refl [g] _) hb (by simpa using hx) (by decide);exact⟨Only.refl _ _,⟨b,x,s,rfl,hb,hH,hB.lt,hs,hz⟩,hC.1.pure (by decide) (by decide) hcs,hC.2⟩
                    ·intro L a w' hL hl hall hC hR;have hcs: ∀p∈([(11,10),(10,9),(9,6),(9,8),(6,5),(5,2),(5,4),(11,1)]:List (Nat×Nat)),p.1=6→L.getD p.2 false=true:=by
                      intro p hp h1;simp only[List.mem_cons,List.not_mem_nil,or_false] at hp;rcases hp with rfl|rfl|rfl|rfl|rfl|rfl|rfl|rfl<;>first|exact absurd h1 (by decide)|exact hall ⟨_,.data⟩ (by simp) (by decide)
                     obtain⟨b,x,s,r134,hb,hH,hlt,hc,hz⟩:FCellH g _ _ _:=hR 134 (by decide);simp[Region.wanted,Jg,go_sem,execOp,r134,hc,upT];exact⟨Only.refl _ _,⟨s,rfl,hz⟩,hC.1.pure (by decide) (by decide) hcs,hC.2⟩
                    ·intro L a w' hL hl hall hC hR;have hcs: ∀p∈([(11,10),(10,9),(9,6),(9,8),(6,5),(5,2),(5,4),(11,1)]:List (Nat×Nat)),p.1=7→L.getD p.2 false=true:=by
                      intro p hp h1;simp only[List.mem_cons,List.not_mem_nil,or_false] at hp;rcases hp with rfl|rfl|rfl|rfl|rfl|rfl|rfl|rfl<;>exact absurd h1 (by decide)
                     have r0:_=_:=hR 0 (by decide);simp[Region.wanted,Jg,go_sem,execOp,r0,upT];exact⟨Only.refl _ _,rfl,hC.1.pure (by decide) (by decide) hcs,hC.2⟩
                    ·intro L a w' hL hl hall hC hR;have hcs: ∀p∈([(11,10),(10,9),(9,6),(9,8),(6,5),(5,2),(5,4),(11,1)]:List (Nat×Nat)),p.1=8→L.getD p.2 false=true:=by
                      intro p hp h1;simp only[List.mem_cons,List.not_mem_nil,or_false] at hp;rcases hp with rfl|rfl|rfl|rfl|rfl|rfl|rfl|rfl<;>exact absurd h1 (by decide)
                     have ha:L.getD 11 false=false:=Bool.eq_false_iff.2 fun e11=>by
                      have e10:=hC.1.cl (11,10) (by decide) e11;have e9:=hC.1.cl (10,9) (by decide) e10;have e8:=hC.1.cl (9,8) (by decide) e9;rw[e8] at hl;cases hl
                     have r136:_=_:=hR 136 (by decide);simp[Region.wanted,Jg,go_sem,execOp,r136,upT];have hq:=hC.1.be ha;have hcn:=jc9 4 8 8 L;have hca:=jf9 (i:=4) (j:=8) (k:=8) (show 8<L.size by rw[hL];decide) hl (by decide);refine(Z5 g _ (by omega) _ hq.rd).mono ?_;rintro e w1 ⟨s,rfl,hz,hr,ho⟩;have hs1:=ho.size;have hs2:=hC.2
                     exact⟨_,rfl,ho.wide,⟨s,rfl,hz⟩,hC.1.turn (by decide) ha hcs (hq.only ho hr) (by omega),by omega⟩
                    ·intro L a w' hL hl hall hC hR;have hcs: ∀p∈([(11,10),(10,9),(9,6),(9,8),(6,5),(5,2),(5,4),(11,1)]:List (Nat×Nat)),p.1=9→L.getD p.2 false=true:=by
                      intro p hp h1;simp only[List.mem_cons,List.not_mem_nil,or_false] at hp;rcases hp with rfl|rfl|rfl|rfl|rfl|rfl|rfl|rfl<;>first|exact absurd h1 (by decide)|exact hall ⟨_,.data⟩ (by simp) (by decide)
                     obtain⟨s,r135,hz⟩:jh8 11 _:=hR 135 (by decide);obtain⟨t,r137,hz2⟩:jh8 11 _:=hR 137 (by decide);simp[Region.wanted,Jg,go_sem,execOp,r135,r137,upT];exact⟨Only.refl _ _,⟨⟨s,t,false⟩,rfl,hz,hz2⟩,hC.1.pure (by decide) (by decide) hcs,hC.2⟩
                    ·intro L a w' hL hl hall hC hR;have hcs: ∀p∈([(11,10),(10,9),(9,6),(9,8),(6,5),(5,2),(5,4),(11,1)]:List (Nat×Nat)),p.1=10→L.getD p.2 false=true:=by
                      intro p hp h1;simp only[List.mem_cons,List.not_mem_nil,or_false] at hp;rcases hp with rfl|rfl|rfl|rfl|rfl|rfl|rfl|rfl<;>first|exact absurd h1 (by decide)|exact hall ⟨_,.data⟩ (by simp) (by decide)
                     have ha:L.getD 11 false=false:=Bool.eq_false_iff.2 fun e11=>by
                      have e10:=hC.1.cl (11,10) (by decide) e11;rw[e10] at hl;cases hl
                     obtain⟨x,r138,hx⟩:jqi _:=hR 138 (by decide);rw[show(Jp x).toArray= #[.string x.path,.string x.bytes,.bool x.gone] from rfl] at r138;simp[Region.wanted,Jg,go_sem,execOp,r138,upT];have hq:=hC.1.be ha;have hqs:=hq.size;have hs2:=hC.2
                     exact⟨(Only.refl _ _).alloc _,⟨_,x,rfl,by omega,hs2,hx,Blk.new _ _ _⟩,hC.1.turn (by decide) ha hcs (hq.alloc _) (Nat.add_le_add_left (jfa _ _ _ _ _) _),by first|omega|(simp;omega)⟩
                    ·intro L a w' hL hl hall hC hR;have hcs: ∀p∈([(11,10),(10,9),(9,6),(9,8),(6,5),(5,2),(5,4),(11,1)]:List (Nat×Nat)),p.1=11→L.getD p.2 false=true:=by
                      intro p hp h1;simp only[List.mem_cons,List.not_mem_nil,or_false] at hp;rcases hp with rfl|rfl|rfl|rfl|rfl|rfl|rfl|rfl<;>first|exact absurd h1 (by decide)|exact hall ⟨_,.data⟩ (by simp) (by decide)
                     obtain⟨b,x,r139,hb,hH,hx,hB⟩:FNewH g _ _ _:=hR 139 (by decide);have r130:_=_:=hR 130 (by decide);have hq:=hC.1.be hl;have hqs:=hq.size;have hcn:=jc9 4 8 8 L
                     obtain⟨v',w5,hr,hown',hgrow,_⟩:=run_append_own (P:=Tryz.prog) (w:=w') (w.heap.size+2) 27 27 59 i0 _ 3 40 Tryz.underlying27 hi hz0 hz1 hz2 rfl (by decide) _ _ _ hq.own ⟨b,0,none⟩ 1 1 (Jp x) rfl (World.news_of_block hB.out) (Yn x) (by unfold maxLen;omega) (by omega) (by omega);rw[if_pos (show Region.wanted _ _=true from rfl)]
                     simp only[execOp,resolve,invoke,builtin,Sem.run_bind,Sem.run_pure,Result.andThen_ok,List.map_toArray,List.map_cons,List.map_nil,Wm,r130,r139,hr,upT];have hs2:=hC.2;have hs5:=hgrow.size;exact⟨trivial,jg2 hgrow,trivial,hC.1.hit hl (by rw[hL];decide) hcs ((hq.mono (by omega)).apd hx hown' hgrow),by omega⟩
                    ·intro L a w' hL hl hall hC hR;have hcs: ∀p∈([(11,10),(10,9),(9,6),(9,8),(6,5),(5,2),(5,4),(11,1)]:List (Nat×Nat)),p.1=12→L.getD p.2 false=true:=by
                      intro p hp h1;simp only[List.mem_cons,List.not_mem_nil,or_false] at hp;rcases hp with rfl|rfl|rfl|rfl|rfl|rfl|rfl|rfl<;>exact absurd h1 (by decide)
                     have r5:_=_:=hR 5 (by decide);simp[Region.wanted,Jg,go_sem,execOp,r5,upT];exact⟨Only.refl _ _,rfl,hC.1.pure (by decide) (by decide) hcs,hC.2⟩
                   ·intro l w4 τ hall hC;simp only[List.take_succ_cons,List.take_zero,jdb];intro v129 _ v130 _ v131 _ v132 _ v133 _ v134 _ v135 _ v136 _ v137 _ v138 _ v139 _ v140 _ v141 h141 hτ;obtain rfl:v141= .pointer (some ⟨Q,8,none⟩):=h141;have hA:=hC.1.af (hall 11 (by decide));rw[show τ 140=v140 by rw[←hτ];simp[tau,Act.put]] at hA;clear hτ hC hE h
                    obtain⟨A',n',c',rfl⟩: ∃A n c,v140= .slice A n c:=by
                     obtain⟨l,wX, -, -, -,ho, -⟩:=hA;obtain⟨A',c',f',rfl, -, -, -, -⟩:=Xw (k:=3) (enc:=Jp) (hk:=fun _=>rfl) (h1:=Yn) ho;exact⟨_,_,_,rfl⟩
                    obtain⟨c8,f8⟩:=RQ.cellE hA;obtain⟨l',hput,hl'⟩:=hA.put (by omega);have HP:=Ja hput;clear hput hA;go_wp2_with fail
                    all_goals
                     go_meet
                     case rel=>exact⟨_,_,HP.out.mono (by omega),hrp.1,by show 0<l'.length;omega,by show l'.length≤_;omega⟩
                 case rest=>
                  obtain⟨w2,hw2⟩: ∃w2,w2=wc:=⟨_,rfl⟩;subst hw2;clear h hrp;obtain⟨q,E,h,hrp⟩:=hcut;go_wp2_with fail;refine(Jk g _ 6 (by omega) (by omega) _ h.rd).mono ?_;rintro e w4 ⟨x,rfl,hx,hr,ho⟩;replace h:=h.only ho hr;clear hx hr ho;cases hd:((x:Int)==0)
                  ·skip;go_wp2_with fail
                   all_goals
                    go_meet
                    case rel=>exact⟨_,_,h.mono (by omega),hrp.1,by have:=hrp.2.2;omega⟩
                  ·obtain⟨gE,cE,rfl,hgE,hgl⟩:=h.own.form hrp.2.1;obtain⟨i0,hi,hz0,hz1,hz2⟩:=info_parts jcl;have hl2:=hrp.2.2;have hB:=h.size;have hown0:=World.ownsRow_lit (base:=w4.heap.size) (e:=59) (size:=3) w4 #[.string ⟨#[98,47,97]⟩,.string ⟨#[113]⟩,.bool false] 1 nle (by unfold maxLen;omega) rfl
                   have hnews:=(h.own.alloc (.cells #[.string ⟨#[98,47,97]⟩,.string ⟨#[113]⟩,.bool false] 59)).cells rfl;have hn3:=h.own.1;have c8:=h.cells 8;simp only[V5,List.getElem?_toArray,List.getElem?_cons_zero,List.getElem?_cons_succ] at c8;have HN:=Ja hnews;have H3:=Ja hn3;clear hnews hn3
                   go_wp2_with(at_builtin;refine wpList_append_own _ rfl _ _ 27 rfl w4.heap.size 59 i0 _ 3 40 Tryz.underlying27 hi hz0 hz1 hz2 rfl (by decide) _ _ _ rfl hown0 ⟨gE,0,none⟩ q.Ez.length cE (q.Ez.flatMap Jp) rfl H3.out HN.out (fun u hu=>by obtain⟨x,_,hx⟩:=List.mem_flatMap.1 hu;exact Yn x u hx) (by unfold maxLen;omega) (by omega) (by simp) ?_)
                   intro v' w5 hown' hgrow _;have hlow:Below w4.heap.size w4 w5:=((Below.refl w4.heap.size w4).alloc nle _).grown hgrow (by simp) (fun j hj=>(hown0.lt j hj).1);replace h:=h.low hlow;have hown'':w5.ownsRow w4.heap.size 59 3 v' ((⟨⟨#[98,47,97]⟩,⟨#[113]⟩,false⟩:Wz)::q.Ez).length (((⟨⟨#[98,47,97]⟩,⟨#[113]⟩,false⟩:Wz)::q.Ez).flatMap Jp):=by
                    rw[List.length_cons,Nat.add_comm];exact hown'
                   clear hown' hgrow hown0 HN H3 c8;obtain⟨A',c',f',rfl, -, -, -, -⟩:=Xw (k:=3) (enc:=Jp) (hk:=fun _=>rfl) (h1:=Yn) hown'';have HW:=Ja hown'';clear hown'';have c8:=h.cells 8;simp only[V5,List.getElem?_toArray,List.getElem?_cons_zero,List.getElem?_cons_succ] at c8;have f8:=h.frz 8;go_wp2_with fail
                   all_goals
                    go_meet
                    case rel=>exact⟨_,_,(h.mono (by omega)).putEdits HW.out (by omega) (jfh ⟨by decide,by decide⟩ h.sm.Ez) (by simp;omega),hrp.1,by simp;omega⟩
             case rest=>
              obtain⟨w2,hw2⟩: ∃w2,w2=wc:=⟨_,rfl⟩;subst hw2;clear h hrp;obtain⟨q,E,h,hrp⟩:=hcut;refine hK _ _ ?_;go_wp2_with fail
              all_goals
               go_meet
               case rel=>exact⟨_,_,h.mono (by omega),hrp⟩
        have n1:(kd==(1:Int))=false:=beq_eq_false_iff_ne.2 e1;clear e1;by_cases e2:kd=2
        ·subst e2;go_upto_region 25 with fail
         go_cut [155] from 153 to 155 (fun v wx=>(∃b,v= .bool b)∧RI mc rc w g (P+22) Q wx)
         case first=>
          skip;go_wp2_with fail;refine(Jk g _ 2 (by omega) (by omega) _ h.rd).mono ?_;rintro e w4 ⟨x,rfl,hx,hr,ho⟩;replace h:=h.only ho hr;clear hx hr ho;go_wp2_with fail
          all_goals
           go_meet
           case rel=>exact⟨⟨_,rfl⟩,_,_,h.mono (by omega),hrp⟩
         case rest=>
          obtain⟨w2,hw2⟩: ∃w2,w2=wc:=⟨_,rfl⟩;subst hw2;clear h hrp;obtain⟨⟨b,rfl⟩,q,E,h,hrp⟩:=hcut;go_upto_if 155 with fail
          go_cut [] from 156 to 165 (fun wx=>RI mc rc w g (P+32) Q wx)
          case first=>
           skip;cases b
           ·go_wp2_with fail;go_meet
            case rel=>exact⟨_,_,h.mono (by omega),hrp⟩
           ·skip;go_upto_region 26 with fail
            go_cut [] from 156 to 159 (fun wx=>RI mc rc w g (P+24) Q wx)
            case first=>
             skip;go_wp2_with fail;refine(Jk g _ 2 (by omega) (by omega) _ h.rd).mono ?_;rintro e w4 ⟨x,rfl,hx,hr,ho⟩;replace h:=h.only ho hr;clear hx hr ho;have c0:=h.cells 0;simp only[V5,List.getElem?_toArray,List.getElem?_cons_zero,List.getElem?_cons_succ] at c0;have f0:=h.frz 0;go_wp2_with fail
             all_goals
              go_meet
              case rel=>exact⟨_,_,(h.mono (by omega)).putUser _,hrp⟩
            case rest=>
             obtain⟨w2,hw2⟩: ∃w2,w2=wc:=⟨_,rfl⟩;subst hw2;clear h hrp;obtain⟨q,E,h,hrp⟩:=hcut;go_upto_region 27 with fail
             go_cut [] from 160 to 163 (fun wx=>RI mc rc w g (P+24) Q wx)
             case first=>
              skip;have c0:=h.cells 0;have c1:=h.cells 1;simp only[V5,List.getElem?_toArray,List.getElem?_cons_zero,List.getElem?_cons_succ] at c0 c1;have f1:=h.frz 1;go_wp2_with fail
              all_goals
               go_meet
               case rel=>exact⟨_,_,h.putKey _,hrp⟩
             case rest=>
              obtain⟨w2,hw2⟩: ∃w2,w2=wc:=⟨_,rfl⟩;subst hw2;clear h hrp;obtain⟨q,E,h,hrp⟩:=hcut;go_upto_region 28 with fail
              go_cut [] from 164 to 164 (fun wx=>RI mc rc w g (P+24) Q wx)
              case first=>
               skip;have c2:=h.cells 2;simp only[V5,List.getElem?_toArray,List.getElem?_cons_zero,List.getElem?_cons_succ] at c2;have f2:=h.frz 2;go_wp2_with fail
               all_goals
                go_meet
                case rel=>exact⟨_,_,h.putRepo 0,Int.le_refl _,hrp.2⟩
              case rest=>
               obtain⟨w2,hw2⟩: ∃w2,w2=wc:=⟨_,rfl⟩;subst hw2;clear h hrp;obtain⟨q,E,h,hrp⟩:=hcut;have c4:=h.cells 4;simp only[V5,List.getElem?_toArray,List.getElem?_cons_zero,List.getElem?_cons_succ] at c4;have f4:=h.frz 4;go_wp2_with fail
               all_goals
                go_meet
                case rel=>exact⟨_,_,(h.mono (by omega)).putRef (s:=⟨#[97]⟩) (by decide),hrp⟩
          case rest=>
           obtain⟨w2,hw2⟩: ∃w2,w2=wc:=⟨_,rfl⟩;subst hw2;clear h hrp;obtain⟨q,E,h,hrp⟩:=hcut;go_upto_region 30 with fail
           go_cut [] from 166 to 171 (fun wx=>RI mc rc w g (P+40) Q wx)
           case first=>
            skip;go_wp2_with fail;have kb:=Blk.new w2 9 (jhc [⟨#[]⟩,⟨#[]⟩,⟨#[97]⟩,⟨#[97,47,98]⟩,⟨#[98]⟩]);have hA:=h.alloc (.cells (jhc [⟨#[]⟩,⟨#[]⟩,⟨#[97]⟩,⟨#[97,47,98]⟩,⟨#[98]⟩]) 9);refine(Jk g _ 5 (by omega) (by omega) _ hA.rd).mono ?_;rintro e w3 ⟨x,rfl,hx,hr,ho⟩;have hB:=h.size;obtain⟨s,hs,hz⟩:=Zs (k:=11) (x:=x) kb ho (by omega) (by simp;omega) (by decide)
            have x1:(x:Int)<5:=by omega
            replace h:=hA.only ho hr;clear kb hx hr ho hA hB;have c5:=h.cells 5;simp only[V5,List.getElem?_toArray,List.getElem?_cons_zero,List.getElem?_cons_succ] at c5;have f5:=h.frz 5;go_wp2_with fail
            all_goals
             go_meet
             case rel=>exact⟨_,_,(h.mono (by omega)).putPath hz,hrp⟩
           case rest=>
            obtain⟨w2,hw2⟩: ∃w2,w2=wc:=⟨_,rfl⟩;subst hw2;clear h hrp;obtain⟨q,E,h,hrp⟩:=hcut;go_upto_region 31 with fail
            go_cut [] from 172 to 177 (fun wx=>RI mc rc w g (P+50) Q wx)
            case first=>
             skip;go_wp2_with fail;refine(Jk g _ 3 (by omega) (by omega) _ h.rd).mono ?_;rintro e w3 ⟨x,rfl,hx,hr,ho⟩;replace h:=h.only ho hr;clear hx hr ho;go_wp2_with fail;refine(Jk g _ 2 (by omega) (by omega) _ h.rd).mono ?_;rintro e w4 ⟨x,rfl,hx,hr,ho⟩;replace h:=h.only ho hr;clear hx hr ho;have c7:=h.cells 7
             simp only[V5,List.getElem?_toArray,List.getElem?_cons_zero,List.getElem?_cons_succ] at c7;have f7:=h.frz 7;go_wp2_with fail
             all_goals
              go_meet
              case rel=>exact⟨_,_,(h.mono (by omega)).putBack _,hrp⟩
            case rest=>
             obtain⟨w2,hw2⟩: ∃w2,w2=wc:=⟨_,rfl⟩;subst hw2;clear h hrp;obtain⟨q,E,h,hrp⟩:=hcut;have c6:=h.cells 6;simp only[V5,List.getElem?_toArray,List.getElem?_cons_zero,List.getElem?_cons_succ] at c6;have f6:=h.frz 6;go_wp2_with fail
             all_goals
              go_meet
              case rel=>exact⟨_,_,(h.mono (by omega)).putOld _,hrp⟩
        have n2:(kd==(2:Int))=false:=beq_eq_false_iff_ne.2 e2;clear e2;go_upto_if 179 with fail
        go_cut [179] from 180 to 181 (fun v wx=>(∃b,v= .bool b)∧RI mc rc w g (P+20) Q wx)
        case first=>
         skip;cases hb4:(kd==(4:Int))
         ·skip;go_wp2_with fail
          all_goals
           go_meet
           case rel=>exact⟨⟨_,rfl⟩,_,_,h,hrp⟩
         ·skip;go_wp2_with fail
          all_goals
           go_meet
           case rel=>exact⟨⟨_,rfl⟩,_,_,h,hrp⟩
        case rest=>
         obtain⟨w2,hw2⟩: ∃w2,w2=wc:=⟨_,rfl⟩;subst hw2;clear h hrp;obtain⟨⟨b,rfl⟩,q,E,h,hrp⟩:=hcut;go_upto_if 179 with fail
         cases b
         ·skip;by_cases e9:kd=9
          ·subst e9;go_upto_region 39 with fail
           go_cut [] from 229 to 231 (fun wx=>RI mc rc w g (P+30) Q wx)
           case first=>
            skip;go_wp2_with fail;refine(Jk g _ 4 (by omega) (by omega) _ h.rd).mono ?_;rintro e w4 ⟨x,rfl,hx,hr,ho⟩;replace h:=h.only ho hr;clear hx hr ho;have c7:=h.cells 7;simp only[V5,List.getElem?_toArray,List.getElem?_cons_zero,List.getElem?_cons_succ] at c7;have f7:=h.frz 7;go_wp2_with fail
            all_goals
             go_meet
             case rel=>exact⟨_,_,(h.mono (by omega)).putBack _,hrp⟩
           case rest=>
            obtain⟨w2,hw2⟩: ∃w2,w2=wc:=⟨_,rfl⟩;subst hw2;clear h hrp;obtain⟨q,E,h,hrp⟩:=hcut;go_upto_region 40 with fail
            go_cut [234] from 232 to 234 (fun v wx=>(∃b,v= .bool b)∧RI mc rc w g (P+31) Q wx)
            case first=>
             skip;go_wp2_with fail;refine(Jk g _ 6 (by omega) (by omega) _ h.rd).mono ?_;rintro e w4 ⟨x,rfl,hx,hr,ho⟩;replace h:=h.only ho hr;clear hx hr ho;go_wp2_with fail
             all_goals
              go_meet
              case rel=>exact⟨⟨_,rfl⟩,_,_,h.mono (by omega),hrp⟩
            case rest=>
             obtain⟨w2,hw2⟩: ∃w2,w2=wc:=⟨_,rfl⟩;subst hw2;clear h hrp;obtain⟨⟨b,rfl⟩,q,E,h,hrp⟩:=hcut;go_upto_if 234 with fail
             refine jj0 fun K hK=> ?_
             go_cut [] from 235 to 237 (fun wx=>RI mc rc w g (P+60) Q wx)
             case first=>
              skip;cases b
              ·skip;go_wp2_with fail
               all_goals
                go_meet
                case rel=>exact⟨_,_,h.mono (by omega),hrp⟩
              ·skip;have hB:=h.size;go_wp2_with fail;refine(jeu g _ (by omega) _ h.rd).mono ?_;rintro e w5 ⟨v,l,rfl,hown,hfit,hl,hr,ho⟩;obtain⟨A',c',f',rfl, -, -, -, -⟩:=Xw (k:=3) (enc:=Jp) (hk:=fun _=>rfl) (h1:=Yn) hown;replace h:=h.only ho hr;have c8:=h.cells 8;simp only[V5,List.getElem?_toArray,List.getElem?_cons_zero,List.getElem?_cons_succ] at c8;have f8:=h.frz 8
               go_wp2_with fail
               all_goals
                go_meet
                case rel=>exact⟨_,_,(h.mono (by omega)).putEdits hown (by omega) hfit (by omega),hrp.1,hl⟩
             case rest=>
              obtain⟨w2,hw2⟩: ∃w2,w2=wc:=⟨_,rfl⟩;subst hw2;clear h hrp;obtain⟨q,E,h,hrp⟩:=hcut;refine hK _ _ ?_;go_wp2_with fail
              all_goals
               go_meet
               case rel=>exact⟨_,_,h.mono (by omega),hrp⟩
          have n9:(kd==(9:Int))=false:=beq_eq_false_iff_ne.2 e9;clear e9;by_cases e10:kd=10
          ·subst e10;go_upto_region 43 with fail
           go_cut [] from 240 to 242 (fun wx=>RI mc rc w g (P+30) Q wx)
           case first=>
            skip;go_wp2_with fail;refine(Jk g _ 3 (by omega) (by omega) _ h.rd).mono ?_;rintro e w4 ⟨x,rfl,hx,hr,ho⟩;replace h:=h.only ho hr;clear hx hr ho;have c13:=h.cells 13;simp only[V5,List.getElem?_toArray,List.getElem?_cons_zero,List.getElem?_cons_succ] at c13;have f13:=h.frz 13;go_wp2_with fail
            all_goals
             go_meet
             case rel=>exact⟨_,_,(h.mono (by omega)).putFrm _,hrp⟩
           case rest=>
            obtain⟨w2,hw2⟩: ∃w2,w2=wc:=⟨_,rfl⟩;subst hw2;clear h hrp;obtain⟨q,E,h,hrp⟩:=hcut;go_wp2_with fail;have kb:=Blk.new w2 9 (jhc [⟨#[97]⟩,⟨#[98]⟩,⟨#[99]⟩]);have hA:=h.alloc (.cells (jhc [⟨#[97]⟩,⟨#[98]⟩,⟨#[99]⟩]) 9);refine(Jk g _ 3 (by omega) (by omega) _ hA.rd).mono ?_;rintro e w3 ⟨x,rfl,hx,hr,ho⟩;have hB:=h.size
            obtain⟨s,hs,hz⟩:=Zs (k:=11) (x:=x) kb ho (by omega) (by simp;omega) (by decide);have x1:(x:Int)<3:=by omega
            replace h:=hA.only ho hr;clear kb hx hr ho hA hB;have c14:=h.cells 14;simp only[V5,List.getElem?_toArray,List.getElem?_cons_zero,List.getElem?_cons_succ] at c14;have f14:=h.frz 14;go_wp2_with fail
            all_goals
             go_meet
             case rel=>exact⟨_,_,(h.mono (by omega)).putOther hz,hrp⟩
          have n10:(kd==(10:Int))=false:=beq_eq_false_iff_ne.2 e10;clear e10;go_wp2_with fail
          all_goals
           go_meet
           case rel=>exact⟨_,_,h.mono (by omega),hrp⟩
         ·skip;go_upto_region 35 with fail
          go_cut [] from 182 to 184 (fun wx=>RI mc rc w g (P+60) Q wx)
          case first=>
           skip;go_wp2_with fail;refine(jbe g _ 99 (by omega) (by omega) _ h.rd).mono ?_;rintro e w3 ⟨r,rfl,hrf,hr,ho⟩;have hB:=h.size;replace h:=h.only ho hr;rw[show(Jh r).toArray= #[.int .i64 r.user,.string r.ref,.string r.path,.bool r.write] from rfl];have c9:=h.cells 9;have c10:=h.cells 10;have c11:=h.cells 11;have c12:=h.cells 12
           simp only[V5,List.getElem?_toArray,List.getElem?_cons_zero,List.getElem?_cons_succ] at c9 c10 c11 c12;have f9:=h.frz 9;have f10:=h.frz 10;have f11:=h.frz 11;have f12:=h.frz 12;go_wp2_with fail
           all_goals
            go_meet
            case rel=>exact⟨_,_,(h.mono (by omega)).putRule hrf,hrp⟩
          case rest=>
           obtain⟨w2,hw2⟩: ∃w2,w2=wc:=⟨_,rfl⟩;subst hw2;clear h hrp;obtain⟨q,E,h,hrp⟩:=hcut;go_upto_region 36 with fail
           go_cut [206] from 185 to 206 (fun v wx=>(v= .bool false∧RI mc rc w g (P+60) Q wx)∨(v= .bool true∧∃q E,∃i:Nat,RQ w g (P+60) mc rc Q q E wx∧(0≤q.repo∧q.Ez.length≤4)∧q.repo=(i:Int)∧∃hi:i<rs.length,0<rs[i].Uz.length))
           case first=>
            skip;have c2:=h.cells 2;have c3:=h.cells 3;simp only[V5,List.getElem?_toArray,List.getElem?_cons_zero,List.getElem?_cons_succ] at c2 c3;have m2:w2.cell? ⟨w.heap.size,2,none⟩=some (.slice B2 rs.length d2):=by have:=h.km.cell 2;rw[←HMC.out] at this;exact this
            by_cases hk5:q.kind=5
            ·rw[hk5] at c3;by_cases hlt:q.repo<(rs.length:Int)
             ·skip;clear m2 c2;obtain⟨i,hri⟩: ∃i:Nat,q.repo=(i:Int):=⟨q.repo.toNat,by have:=hrp.1;omega⟩;have hi:i<rs.length:=by omega
              obtain⟨b,o,B0r,m0r,k0r,g0,B1r,m1r,k1r,g1,rfl,hbl,hbm,q0,q1,q2,hs0,hs1,hsub⟩:=J7 (HRS.out _ h.on) hi;obtain rfl:=hs0.1;obtain rfl:=hs1.1;have HG:=Ja (fun(z:Nat) (hz:z∈g0++g1)=>HGS.out Q (by have:=h.ql;omega) z (hsub z hz));have hbb:b<w2.heap.size∧b≠g:=⟨hbl,(HGS.out Q (by have:=h.ql;omega) b hbm).1⟩
              have HG0:=Ja (fun(z:Nat) (hz:z∈g0)=>(by simp only[List.mem_singleton];exact(HG.out z (by simp[hz])).1:z∉ [g]));clear hsub hbl hbm;have i0:(0:Int)≤(i:Int):=by omega
              have i1:(i:Int)<(rs.length:Int):=by omega
              have c2:=h.cells 2;simp only[V5,List.getElem?_toArray,List.getElem?_cons_zero,List.getElem?_cons_succ] at c2;rw[hri] at c2;have m2:w2.cell? ⟨w.heap.size,2,none⟩=some (.slice (some ⟨b,o,none⟩) rs.length d2):=by have:=h.km.cell 2;rw[←HMC.out] at this;exact this
              have hmr:=hs0.max;by_cases h0:0<rs[i].Uz.length
              ·have h0i:(0:Int)<(rs[i].Uz.length:Int):=by omega
               go_wp2_with fail
               all_goals
                go_meet
                case rel=>exact .inr ⟨rfl,_,_,i,h.mono (by omega),hrp,hri,hi,h0⟩
              ·have h0i: ¬(0:Int)<(rs[i].Uz.length:Int):=by omega
               go_wp2_with fail
               all_goals
                go_meet
                case rel=>exact .inl ⟨rfl,_,_,h.mono (by omega),hrp⟩
             ·have hge:decide (q.repo<(rs.length:Int))=false:=decide_eq_false hlt;go_wp2_with fail
              all_goals
               go_meet
               case rel=>exact .inl ⟨rfl,_,_,h.mono (by omega),hrp⟩
            ·have hk5:(q.kind==(5:Int))=false:=beq_eq_false_iff_ne.2 hk5;go_wp2_with fail
             all_goals
              go_meet
              case rel=>exact .inl ⟨rfl,_,_,h.mono (by omega),hrp⟩
           case rest=>
            obtain⟨w2,hw2⟩: ∃w2,w2=wc:=⟨_,rfl⟩;subst hw2;clear h hrp;have HIN:=Ja hcut;clear hcut;go_upto_if 206 with fail
            refine jj0 fun K hK=> ?_
            go_cut [] from 207 to 226 (fun wx=>RI mc rc w g (P+90) Q wx)
            case first=>
             skip;rcases HIN.out with ⟨rfl,q,E,h,hrp⟩|⟨rfl,q,E,i,h,hrp,hri,hi,h0⟩
             ·skip;go_wp2_with fail
              all_goals
               go_meet
               case rel=>exact⟨_,_,h.mono (by omega),hrp⟩
             ·obtain⟨b,o,B0r,m0r,k0r,g0,B1r,m1r,k1r,g1,rfl,hbl,hbm,q0,q1,q2,hs0,hs1,hsub⟩:=J7 (HRS.out _ h.on) hi;obtain rfl:=hs0.1;have HG:=Ja (fun(z:Nat) (hz:z∈g0++g1)=>HGS.out Q (by have:=h.ql;omega) z (hsub z hz));have hbb:b<w2.heap.size∧b≠g:=⟨hbl,(HGS.out Q (by have:=h.ql;omega) b hbm).1⟩
              have HG0:=Ja (fun(z:Nat) (hz:z∈g0)=>(by simp only[List.mem_singleton];exact(HG.out z (by simp[hz])).1:z∉ [g]));clear hsub hbl hbm;have i0:(0:Int)≤(i:Int):=by omega
              have i1:(i:Int)<(rs.length:Int):=by omega
              have hmr:=hs0.max;have hln:=(HFR.out _ (List.getElem_mem hi)).2;obtain⟨br,orr,rfl, -, -, -, -, -, -⟩:=Yv hs0 h0;go_upto_region 37 with fail
              have hPk:=h.mono (show _≤P+60 by omega)
              refine Jt 20 _ rfl (fun k w'=>Rd w' g (P+60+k)∧Only [g] w2 w') (Only [g]) (alΓ g w.heap.size Q b o i rs.length d2 br orr rs[i].Uz.length k0r) (by kernel_rfl) rfl (by kernel_rfl) rfl (jpf _ _ _ _ _ _ _ _ _ _ _ _) (Only.refl _) ⟨⟨hPk.rd.step (Below.refl _ _).drew,Only.of_below ((Below.refl _ _).drew) _⟩,fun s hs=> ?_,by rfl⟩ ?_ ?_
              ·by_cases e0:s=0
               ·subst e0;rfl
               by_cases e3:s=3
               ·subst e3;rfl
               by_cases e5:s=5
               ·subst e5;rfl
               have hne:s∉ [207,208,209,210,211,212,213,214,215,216,217,218,219,220,221,222,223,224,225,226]:=fun hm=>by
                simp only[List.mem_cons,List.not_mem_nil,or_false] at hm;rcases hm with rfl|rfl|rfl|rfl|rfl|rfl|rfl|rfl|rfl|rfl|rfl|rfl|rfl|rfl|rfl|rfl|rfl|rfl|rfl|rfl<;>exact absurd hs (by decide)
               simp only[List.mem_cons,List.not_mem_nil,or_false,not_or] at hne;unfold alΓ;split<;>first|trivial|(exfalso;omega)
              ·intro p hp;simp only[List.take_succ_cons,List.take_zero,List.mem_cons,List.not_mem_nil,or_false] at hp;rcases hp with rfl|rfl|rfl|rfl|rfl|rfl|rfl|rfl|rfl|rfl|rfl|rfl|rfl|rfl|rfl|rfl|rfl|rfl|rfl|rfl
               ·intro k a w' hk hC hR;have r3:_=_:=hR 3 (by decide);simp[Region.wanted,Jg,go_sem,execOp,r3,upT];exact⟨⟨hC.1.mono (by omega),hC.2⟩,Only.refl _ _,rfl⟩
               ·intro k a w' hk hC hR;have r207:_=_:=hR 207 (by decide);have hc:w'.cell? ⟨w.heap.size,2,none⟩=some (.slice (some ⟨b,o,none⟩) rs.length d2):=by have:=(h.km.only hC.2 (by have:=h.gl;simp;omega)).cell 2;rw[←HMC.out] at this;exact this
                simp[Region.wanted,Jg,go_sem,execOp,r207,hc,upT];exact⟨⟨hC.1.mono (by omega),hC.2⟩,Only.refl _ _,rfl⟩
               ·intro k a w' hk hC hR;have r5:_=_:=hR 5 (by decide);simp[Region.wanted,Jg,go_sem,execOp,r5,upT];exact⟨⟨hC.1.mono (by omega),hC.2⟩,Only.refl _ _,rfl⟩
               ·intro k a w' hk hC hR;have r209:_=_:=hR 209 (by decide);have hc:w'.cell? ⟨Q,2,none⟩=some (.int .i64 (i:Int)):=by rw[←hri];exact(h.kq.only hC.2 (by have:=h.size;simp;omega)).cell 2
                simp[Region.wanted,Jg,go_sem,execOp,r209,hc,upT];exact⟨⟨hC.1.mono (by omega),hC.2⟩,Only.refl _ _,rfl⟩
               ·intro k a w' hk hC hR;have r208:_=_:=hR 208 (by decide);have r210:_=_:=hR 210 (by decide);simp[Region.wanted,Jg,go_sem,execOp,r208,r210,↓IntWalk.iteOmega,i1,upT];exact⟨⟨hC.1.mono (by omega),hC.2⟩,Only.refl _ _,rfl⟩
               ·intro k a w' hk hC hR;have r211:_=_:=hR 211 (by decide);simp[Region.wanted,Jg,go_sem,execOp,r211,upT];exact⟨⟨hC.1.mono (by omega),hC.2⟩,Only.refl _ _,rfl⟩
               ·intro k a w' hk hC hR;have r212:_=_:=hR 212 (by decide);have hc:w'.cell? ⟨b,o+i*3+1,none⟩=some (.slice (some ⟨br,orr,none⟩) rs[i].Uz.length k0r):=by rw[World.cell?_of_block (a:=⟨b,o+i*3+1,none⟩) (hC.2.block b hbb.1 (by simpa using hbb.2))];exact q1
                simp[Region.wanted,Jg,go_sem,execOp,r212,hc,upT];exact⟨⟨hC.1.mono (by omega),hC.2⟩,Only.refl _ _,rfl⟩
               ·intro k a w' hk hC hR;have r0:_=_:=hR 0 (by decide);simp[Region.wanted,Jg,go_sem,execOp,r0,upT];exact⟨⟨hC.1.mono (by omega),hC.2⟩,Only.refl _ _,rfl⟩
               ·intro k a w' hk hC hR;have r3:_=_:=hR 3 (by decide);simp[Region.wanted,Jg,go_sem,execOp,r3,upT];exact⟨⟨hC.1.mono (by omega),hC.2⟩,Only.refl _ _,rfl⟩
               ·intro k a w' hk hC hR;have r215:_=_:=hR 215 (by decide);have hc:w'.cell? ⟨w.heap.size,2,none⟩=some (.slice (some ⟨b,o,none⟩) rs.length d2):=by have:=(h.km.only hC.2 (by have:=h.gl;simp;omega)).cell 2;rw[←HMC.out] at this;exact this
                simp[Region.wanted,Jg,go_sem,execOp,r215,hc,upT];exact⟨⟨hC.1.mono (by omega),hC.2⟩,Only.refl _ _,rfl⟩
               ·intro k a w' hk hC hR;have r5:_=_:=hR 5 (by decide);simp[Region.wanted,Jg,go_sem,execOp,r5,upT];exact⟨⟨hC.1.mono (by omega),hC.2⟩,Only.refl _ _,rfl⟩
               ·intro k a w' hk hC hR;have r217:_=_:=hR 217 (by decide);have hc:w'.cell? ⟨Q,2,none⟩=some (.int .i64 (i:Int)):=by rw[←hri];exact(h.kq.only hC.2 (by have:=h.size;simp;omega)).cell 2
                simp[Region.wanted,Jg,go_sem,execOp,r217,hc,upT];exact⟨⟨hC.1.mono (by omega),hC.2⟩,Only.refl _ _,rfl⟩
               ·intro k a w' hk hC hR;have r216:_=_:=hR 216 (by decide);have r218:_=_:=hR 218 (by decide);simp[Region.wanted,Jg,go_sem,execOp,r216,r218,↓IntWalk.iteOmega,i1,upT];exact⟨⟨hC.1.mono (by omega),hC.2⟩,Only.refl _ _,rfl⟩
               ·intro k a w' hk hC hR;have r219:_=_:=hR 219 (by decide);simp[Region.wanted,Jg,go_sem,execOp,r219,upT];exact⟨⟨hC.1.mono (by omega),hC.2⟩,Only.refl _ _,rfl⟩
               ·intro k a w' hk hC hR;have r220:_=_:=hR 220 (by decide);have hc:w'.cell? ⟨b,o+i*3+1,none⟩=some (.slice (some ⟨br,orr,none⟩) rs[i].Uz.length k0r):=by rw[World.cell?_of_block (a:=⟨b,o+i*3+1,none⟩) (hC.2.block b hbb.1 (by simpa using hbb.2))];exact q1
                simp[Region.wanted,Jg,go_sem,execOp,r220,hc,upT];exact⟨⟨hC.1.mono (by omega),hC.2⟩,Only.refl _ _,rfl⟩
               ·intro k a w' hk hC hR;have r221:_=_:=hR 221 (by decide);simp[Region.wanted,Jg,go_sem,execOp,r221,upT];exact⟨⟨hC.1.mono (by omega),hC.2⟩,Only.refl _ _,rfl⟩
               ·intro k a w' hk hC hR;have r214:_=_:=hR 214 (by decide);have r222:_=_:=hR 222 (by decide);simp[Region.wanted,Jg,go_sem,execOp,r214,r222,upT];have hk':k<21:=hk;refine(Jk g (P+60+k) (rs[i].Uz.length:Int) (by omega) (by omega) _ hC.1).mono ?_;rintro e w1 ⟨x,rfl,hx,hr,ho⟩;exact⟨_,rfl,⟨hr,hC.2.trans ho⟩,ho,⟨x,rfl,by omega⟩⟩
               ·intro k a w' hk hC hR;have r213:_=_:=hR 213 (by decide);obtain⟨x,r223,hx⟩:jcn _ _:=hR 223 (by decide);have x0:(x:Int)<(rs[i].Uz.length:Int):=by omega
                simp[Region.wanted,Jg,go_sem,execOp,r213,r223,↓IntWalk.iteOmega,x0,upT];exact⟨⟨hC.1.mono (by omega),hC.2⟩,Only.refl _ _,⟨x,rfl,hx⟩⟩
               ·intro k a w' hk hC hR;obtain⟨x,r224,hx⟩:=hR 224 (by decide);obtain⟨br',or',he, -, -,t0,t1,t2,t3⟩:=Yv (hs0.only hC.2 HG0.out) hx;cases he;simp[Region.wanted,Jg,go_sem,execOp,r224,t0,t1,t2,t3,upT];exact⟨⟨hC.1.mono (by omega),hC.2⟩,Only.refl _ _,⟨rs[i].Uz[x],rfl,(HFR.out _ (List.getElem_mem hi)).1 x hx⟩⟩
               ·intro k a w' hk hC hR;have r5:_=_:=hR 5 (by decide);simp[Region.wanted,Jg,go_sem,execOp,r5,upT];exact⟨⟨hC.1.mono (by omega),hC.2⟩,Only.refl _ _,rfl⟩
              ·rintro w4 ⟨hr4,ho4⟩;simp only[List.take_succ_cons,List.take_zero,jdb];intro v207 _ v208 _ v209 _ v210 _ v211 _ v212 _ v213 _ v214 _ v215 _ v216 _ v217 _ v218 _ v219 _ v220 _ v221 _ v222 _ v223 _ v224 _ v225 h225 v226 h226;obtain⟨r,rfl,hrf⟩: ∃r:Yt,v225= .agg (Jh r).toArray∧Vn r:=h225;obtain rfl:v226= .pointer (some ⟨Q,9,none⟩):=h226;have hB:=h.size
               replace h:=h.only ho4 hr4;rw[show(Jh r).toArray= #[.int .i64 r.user,.string r.ref,.string r.path,.bool r.write] from rfl];have c9:=h.cells 9;have c10:=h.cells 10;have c11:=h.cells 11;have c12:=h.cells 12;simp only[V5,List.getElem?_toArray,List.getElem?_cons_zero,List.getElem?_cons_succ] at c9 c10 c11 c12;have f9:=h.frz 9;have f10:=h.frz 10;have f11:=h.frz 11
               have f12:=h.frz 12;go_wp2_with fail
               all_goals
                go_meet
                case rel=>exact⟨_,_,(h.mono (by omega)).putRule hrf,hrp⟩
            case rest=>
             obtain⟨w2,hw2⟩: ∃w2,w2=wc:=⟨_,rfl⟩;subst hw2;clear HIN;obtain⟨q,E,h,hrp⟩:=hcut;refine hK _ _ ?_;go_wp2_with fail
             all_goals
              go_meet
              case rel=>exact⟨_,_,h.mono (by omega),hrp⟩
       case rest=>
        obtain⟨w2,hw2⟩: ∃w2,w2=wc:=⟨_,rfl⟩;subst hw2;clear h hrp c3 hkd;obtain⟨q,E,h,hrp⟩:=hcut;have hRC:=HRC.out;subst hRC;have hfin:=h.fin (z:=Ws) (Z:= .slice none 0 0);obtain⟨A,c,f,hE,kb,hR,hown,hrd,hon⟩:=hfin;have hsm:=h.sm;have HF:=Ja (And.intro kb (And.intro hR (And.intro hown (And.intro hrd hon))));clear kb hR hown hrd hon;have r:=h.kr;have r0:=r.cell 0;have r1:=r.cell 1
        have r2:=r.cell 2;have r3:=r.cell 3;have r4:=r.cell 4;have r5:=r.cell 5;have r6:=r.cell 6;have r7:=r.cell 7;have r8:=r.cell 8;have r9:=r.cell 9;have r10:=r.cell 10;have r11:=r.cell 11;have r12:=r.cell 12;have r13:=r.cell 13;have r14:=r.cell 14;simp only[List.getElem?_toArray,List.getElem?_cons_zero,List.getElem?_cons_succ] at r0 r1 r2 r3 r4 r5 r6 r7 r8 r9 r10 r11 r12 r13 r14
        have f0:=Ji r 0;have f1:=Ji r 1;have f2:=Ji r 2;have f3:=Ji r 3;have f4:=Ji r 4;have f5:=Ji r 5;have f6:=Ji r 6;have f7:=Ji r 7;have f8:=Ji r 8;have f9:=Ji r 9;have f10:=Ji r 10;have f11:=Ji r 11;have f12:=Ji r 12;have f13:=Ji r 13;have f14:=Ji r 14
        go_wp2_with((refine wpList_load_row rfl 31 (.tmp 5) rfl _ rfl _ _ _ _ h.kq.out Tryz.underlying31 rfl jb3 ?_));subst hE;clear r;have HG:Wr w2 (w.heap.size+1) q (.slice A q.Ez.length c)=Wr w2 (w.heap.size+1) q (.slice A q.Ez.length c):=rfl;clear HG;unfold V5;go_wp2;obtain⟨kb,hR,hown,hrd,hon⟩:=HF.out
        exact bodyPost_ret (v:= .agg (V5 q (.slice A q.Ez.length c))) (results_cell_row rfl _ _ (w.heap.size+1) _ _ (0,0) _ rfl kb.out Tryz.underlying31 rfl jb3) rfl ⟨q,A,c,f,rfl,hR,hown,hsm,hrd.mono (by omega),hon,hrp.2⟩
end Go.Proofs.YtobbdhgkcoeifaaGreatDoor
