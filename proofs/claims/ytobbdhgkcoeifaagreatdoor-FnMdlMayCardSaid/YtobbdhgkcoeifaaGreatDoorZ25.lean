/- Lemmas and walks, joined by program. -/
import Derived.Test.YtobbdhgkcoeifaaGreatDoorZ10
import Derived.Test.YtobbdhgkcoeifaaGreatDoorZ14
import Derived.Test.YtobbdhgkcoeifaaGreatDoorZ24
import Derived.Test.YtobbdhgkcoeifaaGreatDoorZ11
namespace Go.Proofs.YtobbdhgkcoeifaaGreatDoor
open Go.RowKit
attribute [local go_sem ↓] Go.wp_at_zero Go.wp_at_succ
set_option maxHeartbeats 8000000
set_option maxRecDepth 100000
set_option linter.unusedSimpArgs false
set_option linter.unusedVariables false
def MInv (m:Jl):Prop:=(Ys m=true∧∀k∈m.keys,10≤k)∨m=⟨[],[],[]⟩
def jc0 (m:Jl):Prop:=∀p∈m.Rz,p.Fz= []
theorem jmd (m:Jl) (p:Xq) (r:Req):(write m p r).1.keys=m.keys:=by
 unfold write
 repeat' split
 all_goals rfl
theorem jo6 (m:Jl) (r:Req):(Zn m r).1.keys=m.keys:=by
 unfold Zn
 repeat' split
 all_goals first|rfl|exact jmd _ _ _
theorem MInv.done {m:Jl} (h:MInv m) (r:Req):MInv (jai m r).1:=by
 by_cases hk:Ys m=true∧Yw r=true
 ·rcases h with h|h
  ·rw[jhr hk];exact .inl ⟨jh2 hk.1 hk.2,by rw[jo6];exact h.2⟩
  ·subst h;exact absurd hk.1 (by decide)
 ·rw[jdn hk];exact .inr rfl
theorem RepoFit.fit {p:Xq} (h:RepoFit p):jc7 p where
 Uz:=h.Uz
 few:=by have:=h.nrefs;omega
 Fz:=fun i hi=>⟨h.names _ (List.getElem_mem hi),fun j hj k hk=>by
  have h1:=(h.vers _ (List.getElem_mem hi)).2.2.2 _ (List.getElem_mem hj);have h2:=(Yo.1 h1).2.1 _ (List.getElem_mem hk);simp only[Y3,Bool.and_eq_true] at h2;have:=Zr h2.1.1;omega⟩
theorem Jv {m:Jl} (h:Ys m=true):V9 m:=fun i hi=>(RepoFit.of ((Jo.1 h).2.2 _ (List.getElem_mem hi))).fit
theorem MInv.fit {m:Jl} (h:MInv m):V9 m:=by
 rcases h with h|rfl
 ·exact Jv h.1
 ·intro i hi;cases hi
theorem MInv.Uz {m:Jl} (h:MInv m): ∀p∈m.Rz,Ym p.Uz∧p.Uz.length≤1000:=by
 rcases h with h|rfl
 ·intro p hp;have hf:=RepoFit.of ((Jo.1 h.1).2.2 p hp);exact⟨hf.Uz,by have:=hf.nrules;omega⟩
 ·intro p hp;cases hp
theorem jo1 {q:Req} (h:jat q):jdu q:=
 ⟨by have:=h.ref;omega,by have:=h.other;omega,by have:=h.path;omega,h.rule,fun i hi=>by have:=(h.Ez i hi).1;show _≤_;omega⟩
structure MB (w0:World) (g P M:Nat) (m:Jl) (cs:List Value) (f:List Nat) (w:World):Prop where
 rd:Rd w g P
 on:Only [g] w0 w
 kr:Blk w w0.heap.size 26 H0
 km:Blk w M 26 cs.toArray
 R:Rp.house.R w cs m f
 lo: ∀z∈f,w0.heap.size<z∧z≠M
 own:jc0 m∨f.Nodup∧Free w f
 inv:MInv m
 gl:g<w0.heap.size
 ml:w0.heap.size<M
section
variable {w0 w w':World} {g P P' M:Nat} {m m':Jl} {cs:List Value} {f f':List Nat}
theorem MB.ng (h:MB w0 g P M m cs f w): ∀z∈f,z∉ [g]:=fun z hz=>by
 have:=(h.lo z hz).1;have:=h.gl;simp only[List.mem_singleton];omega
theorem MB.only (h:MB w0 g P M m cs f w) (ho:Only [g] w w') (hr:Rd w' g P'):MB w0 g P' M m cs f w':=
 have h1:=h.gl;have h2:=h.ml
 have hk: ∀z∈f,w'.heap[z]? =w.heap[z]? :=fun z hz=>ho.block z (Rp.house.lt h.R z hz) (h.ng z hz)
 ⟨hr,h.on.trans ho,h.kr.only ho (by simp;omega),h.km.only ho (by simp;omega),Rp.house.keep h.R hk,h.lo,h.own.imp id fun k=>⟨k.1,k.2.keep hk⟩,h.inv,h1,h2⟩
theorem MB.step (h:MB w0 g P M m cs f w) (hb:Below w.heap.size w w'):MB w0 g P M m cs f w':=h.only (Only.of_below hb _) (h.rd.step hb)
theorem MB.mono (h:MB w0 g P M m cs f w) (hp:P≤P'):MB w0 g P' M m cs f w:=⟨h.rd.mono hp,h.on,h.kr,h.km,h.R,h.lo,h.own,h.inv,h.gl,h.ml⟩
theorem MB.put {a0 a1 a2:Value} (h:MB w0 g P M m cs f w) (hR:Rp.house.R w [a0,a1,a2] m' f') (hl: ∀z∈f',w0.heap.size<z∧z≠M) (ho:jc0 m'∨f'.Nodup∧Free w f') (hi:MInv m'):
  MB w0 g P M m' [a0,a1,a2] f' (((w.setCell ⟨M,0,none⟩ a0).setCell ⟨M,1,none⟩ a1).setCell ⟨M,2,none⟩ a2):=by
 have h1:=h.gl;have h2:=h.ml;have hO:Only [M] w (((w.setCell ⟨M,0,none⟩ a0).setCell ⟨M,1,none⟩ a1).setCell ⟨M,2,none⟩ a2):=(((Only.refl [M] w).setCell (p:=⟨M,0,none⟩) (.inl (by simp)) a0).setCell (p:=⟨M,1,none⟩) (.inl (by simp)) a1).setCell (p:=⟨M,2,none⟩) (.inl (by simp)) a2
 have hk: ∀z∈f',(((w.setCell ⟨M,0,none⟩ a0).setCell ⟨M,1,none⟩ a1).setCell ⟨M,2,none⟩ a2).heap[z]? =w.heap[z]? :=fun z hz=>hO.block z (Rp.house.lt hR z hz) (by simpa using(hl z hz).2);obtain⟨A0,n0,c0,f0,A1,n1,c1,f1,A2,n2,c2,f2,rfl, -⟩:=id h.R;have k0:Blk _ M 26 #[a0,.slice A1 n1 c1,.slice A2 n2 c2]:=Jd (i:=0) h.km a0
 have k1:Blk _ M 26 #[a0,a1,.slice A2 n2 c2]:=Jd (i:=1) k0 a1;have k2:Blk _ M 26 #[a0,a1,a2]:=Jd (i:=2) k1 a2;exact⟨h.rd.only (f:=[M]) hO (by simp;omega),h.on.trans_new hO (by omega),h.kr.only hO (by simp;omega),k2,Rp.house.keep hR hk,hl,ho.imp id fun k=>⟨k.1,k.2.keep hk⟩,hi,h1,h2⟩
end
def DrModel (g P:Nat) (w:World) (e:Ending) (w':World):Prop:=
 ∃m cs f,e= .returned (.agg (List.toArray cs))∧Rp.house.R w' cs m f∧(∀z∈f,w.heap.size≤z)∧(jc0 m∨f.Nodup∧Free w' f)∧MInv m∧Rd w' g P∧Only [g] w w'
def jqv (w0:World) (g P M K:Nat) (v:Value) (w:World):Prop:=∃m cs f A c fl,v= .slice A 7 c∧MB w0 g (P+K) M m cs f w∧SlR Rp.req w A 7 c startL fl∧∀z∈fl,w0.heap.size<z∧z≠M
def FDone (B M:Nat) (o:Jl×Ans) (v:Value) (w:World):Prop:=∃A0 n0 c0 A1 n1 c1 A2 n2 c2 av f,v= .tuple #[.agg #[.slice A0 n0 c0,.slice A1 n1 c1,.slice A2 n2 c2],.agg av]∧Rp.house.R w [.slice A0 n0 c0,.slice A1 n1 c1,.slice A2 n2 c2] o.1 f∧f.Nodup∧(∀z∈f,B≤z∧z≠M)∧Free w f
theorem FDone.only {B M g:Nat} {o:Jl×Ans} {v:Value} {w w':World} (h:FDone B M o v w) (ho:Only [g,M] w w') (hg:g<B):FDone B M o v w':=by
 obtain⟨A0,n0,c0,A1,n1,c1,A2,n2,c2,av,f,hv,hR,hn,hl,hf⟩:=h;have hk: ∀z∈f,w'.heap[z]? =w.heap[z]? :=fun z hz=>ho.block z (Rp.house.lt hR z hz) (by have:=hl z hz;simp only[List.mem_cons,List.not_mem_nil,or_false];omega);exact⟨A0,n0,c0,A1,n1,c1,A2,n2,c2,av,f,hv,Rp.house.keep hR hk,hn,hl,hf.keep hk⟩
theorem FDone.of {B M:Nat} {o:Jl×Ans} {w w':World} {e:Ending} (h:Done w o e w') (hB:B≤w.heap.size) (hM:M<w.heap.size): ∃v,e= .returned v∧FDone B M o v w'∧Below w.heap.size w w':=by
 obtain⟨ch,av,f,g,rfl,hR, -,hn,hl,hf,hb⟩:=h;obtain⟨A0,n0,c0,f0,A1,n1,c1,f1,A2,n2,c2,f2,rfl, -⟩:=id hR;exact⟨_,rfl,⟨A0,n0,c0,A1,n1,c1,A2,n2,c2,_,f,rfl,hR,(List.nodup_append.1 hn).1,fun z hz=>by have:=hl z (List.mem_append_left _ hz);omega,fun z hz=>hf z (List.mem_append_left _ hz)⟩,hb⟩
def FHouse (B M:Nat) (x:Jl) (v:Value) (w:World):Prop:=∃A0 n0 c0 A1 n1 c1 A2 n2 c2 f,v= .agg #[.slice A0 n0 c0,.slice A1 n1 c1,.slice A2 n2 c2]∧Rp.house.R w [.slice A0 n0 c0,.slice A1 n1 c1,.slice A2 n2 c2] x f∧f.Nodup∧(∀z∈f,B≤z∧z≠M)∧Free w f
theorem FHouse.only {B M g:Nat} {x:Jl} {v:Value} {w w':World} (h:FHouse B M x v w) (ho:Only [g,M] w w') (hg:g<B):FHouse B M x v w':=by
 obtain⟨A0,n0,c0,A1,n1,c1,A2,n2,c2,f,hv,hR,hn,hl,hf⟩:=h;have hk: ∀z∈f,w'.heap[z]? =w.heap[z]? :=fun z hz=>ho.block z (Rp.house.lt hR z hz) (by have:=hl z hz;simp only[List.mem_cons,List.not_mem_nil,or_false];omega);exact⟨A0,n0,c0,A1,n1,c1,A2,n2,c2,f,hv,Rp.house.keep hR hk,hn,hl,hf.keep hk⟩
def FReqR (B M:Nat) (v:Value) (w:World):Prop:=∃q E f,v= .agg (V5 q E)∧Rp.req.R w (V5 q E).toList q f∧(∀z∈f,B≤z∧z≠M)∧jat q
theorem FReqR.only {B M g:Nat} {v:Value} {w w':World} (h:FReqR B M v w) (ho:Only [g,M] w w') (hg:g<B):FReqR B M v w':=by
 obtain⟨q,E,f,hv,hR,hl,hs⟩:=h;exact⟨q,E,f,hv,Rp.req.keep hR fun z hz=>ho.block z (Rp.req.lt hR z hz) (by have:=hl z hz;simp only[List.mem_cons,List.not_mem_nil,or_false];omega),hl,hs⟩
theorem FDone.house {B M:Nat} {o:Jl×Ans} {v:Value} {w:World} (h:FDone B M o v w): ∃a b,v= .tuple #[a,b]∧FHouse B M o.1 a w:=by
 obtain⟨A0,n0,c0,A1,n1,c1,A2,n2,c2,av,f,hv,h⟩:=h;exact⟨_,_,hv,A0,n0,c0,A1,n1,c1,A2,n2,c2,f,rfl,h⟩
def m1Γ (g M B b o:Nat) (n c j:Nat) (x:Jl) (cs:Array Value) (rq:Req) (qc:Array Value):Xr:=fun s v w=>match s with
 | 3=>Z8 M v
 | 4=>v= .slice (some ⟨b,o,none⟩) n c
 | 5=>v= .int .i64 (j:Int)
 | 23=>v= .agg cs
 | 24=>v= .slice (some ⟨b,o,none⟩) n c
 | 25=>v= .int .i64 (j:Int)
 | 26=>v= .pointer (some ⟨b,o+j*15,none⟩)
 | 27=>v= .agg qc
 | 28=>FDone B M (jai x rq) v w
 | 22=>FDone B M (jai x rq) v w
 | 29=>FHouse B M (jai x rq).1 v w
 |_=>True
theorem joq (g M B b o n c j:Nat) (x:Jl) (cs:Array Value) (rq:Req) (qc:Array Value) (hg:g<B):Zx (Only [g,M]) (m1Γ g M B b o n c j x cs rq qc):=fun s v w w' h ho=>by
 unfold m1Γ at*;split at h<;>first|exact h|exact FDone.only h ho hg|exact FHouse.only h ho hg
def m2Γ (g M B:Nat) (x:Jl) (cs:Array Value):Xr:=fun s v w=>match s with
 | 0=>Z8 g v
 | 3=>Z8 M v
 | 66=>v= .agg cs
 | 67=>Z8 g v
 | 68=>v= .agg cs
 | 69=>FReqR B M v w
 | 70=>∃r,FDone B M (jai x r) v w
 | 65=>∃r,FDone B M (jai x r) v w
 | 71=>∃r,FHouse B M (jai x r).1 v w
 |_=>True
theorem jop (g M B:Nat) (x:Jl) (cs:Array Value) (hg:g<B):Zx (Only [g,M]) (m2Γ g M B x cs):=fun s v w w' h ho=>by
 unfold m2Γ at*;split at h<;>first|exact h|exact FReqR.only h ho hg|(obtain⟨r,h⟩:=h;exact⟨r,FDone.only h ho hg⟩)|(obtain⟨r,h⟩:=h;exact⟨r,FHouse.only h ho hg⟩)
def putL:List Wz:=[⟨⟨#[97,47,98]⟩,⟨#[120]⟩,false⟩,⟨⟨#[98,47,97]⟩,⟨#[121]⟩,false⟩,⟨⟨#[99]⟩,⟨#[122]⟩,false⟩]
def putQ:Req:= { Ws with user:=1,key:=10,kind:=1,ref:=⟨#[97]⟩,Ez:=putL}
theorem jpw:jdu putQ:=⟨by decide,by decide,by decide,⟨by decide,by decide⟩,by unfold putQ putL jed;decide⟩
theorem MB.fin {w0 w:World} {g P M:Nat} {m:Jl} {a0 a1 a2:Value} {f:List Nat} (h:MB w0 g P M m [a0,a1,a2] f w):
  Blk (((w.setCell ⟨w0.heap.size,0,none⟩ a0).setCell ⟨w0.heap.size,1,none⟩ a1).setCell ⟨w0.heap.size,2,none⟩ a2) w0.heap.size 26 #[a0,a1,a2]∧
  Rp.house.R (((w.setCell ⟨w0.heap.size,0,none⟩ a0).setCell ⟨w0.heap.size,1,none⟩ a1).setCell ⟨w0.heap.size,2,none⟩ a2) [a0,a1,a2] m f∧(∀z∈f,w0.heap.size≤z)∧
  (jc0 m∨f.Nodup∧Free (((w.setCell ⟨w0.heap.size,0,none⟩ a0).setCell ⟨w0.heap.size,1,none⟩ a1).setCell ⟨w0.heap.size,2,none⟩ a2) f)∧MInv m∧
  Rd (((w.setCell ⟨w0.heap.size,0,none⟩ a0).setCell ⟨w0.heap.size,1,none⟩ a1).setCell ⟨w0.heap.size,2,none⟩ a2) g P∧Only [g] w0 (((w.setCell ⟨w0.heap.size,0,none⟩ a0).setCell ⟨w0.heap.size,1,none⟩ a1).setCell ⟨w0.heap.size,2,none⟩ a2):=by
 have h1:=h.gl;have hO:Only [w0.heap.size] w (((w.setCell ⟨w0.heap.size,0,none⟩ a0).setCell ⟨w0.heap.size,1,none⟩ a1).setCell ⟨w0.heap.size,2,none⟩ a2):=(((Only.refl [w0.heap.size] w).setCell (p:=⟨w0.heap.size,0,none⟩) (.inl (by simp)) a0).setCell (p:=⟨w0.heap.size,1,none⟩) (.inl (by simp)) a1).setCell (p:=⟨w0.heap.size,2,none⟩) (.inl (by simp)) a2
 have hk: ∀z∈f,(((w.setCell ⟨w0.heap.size,0,none⟩ a0).setCell ⟨w0.heap.size,1,none⟩ a1).setCell ⟨w0.heap.size,2,none⟩ a2).heap[z]? =w.heap[z]? :=fun z hz=>hO.block z (Rp.house.lt h.R z hz) (by have:=(h.lo z hz).1;simp only[List.mem_singleton];omega);have k0:Blk _ w0.heap.size 26 #[a0,.slice none 0 0,.slice none 0 0]:=Jd (i:=0) h.kr a0
 have k1:Blk _ w0.heap.size 26 #[a0,a1,.slice none 0 0]:=Jd (i:=1) k0 a1;exact⟨Jd (i:=2) k1 a2,Rp.house.keep h.R hk,fun z hz=>Nat.le_of_lt (h.lo z hz).1,h.own.imp id fun k=>⟨k.1,k.2.keep hk⟩,h.inv,h.rd.only (f:=[w0.heap.size]) hO (by simp;omega),h.on.trans_new hO nle⟩
theorem jd6:(Tryz.prog.info? 26).map (·.size)=some 3:=by kernel_rfl
theorem ji8 (g P:Nat) (hP:P+100000≤1000000) (w:World) (h:Rd w g P):
  Calls Tryz.prog 30 #[.pointer (some ⟨g,0,none⟩)] w (DrModel g (P+100000) w):=by
 have hg:=h.lt;have kr:=Blk.new w 26 H0;have hb0:=(Below.refl w.heap.size w).alloc nle (.cells H0 26);go_enter Tryz.func30,Tryz.ntmps30;go_wp2_with fail;refine(jku 3 (by omega) _).mono ?_;rintro e w1 ⟨v,rfl,ho1,hb1⟩;obtain⟨A0,c0,f0,rfl,hs0,hf0⟩:=jhn ho1;have hs0':=hb1.size;simp only[World.size_alloc] at hs0';replace hb0:=hb0.trans (hb1.mono (by simp));replace kr:=kr.step hb1
 have hb2:=(Below.refl w1.heap.size w1).alloc nle (.cells #[.int .i64 1,.int .i64 2] 3);have ho2:=World.ownsRow_lit (base:=w1.heap.size) (e:=3) (size:=1) w1 #[.int .i64 1,.int .i64 2] 2 nle (by decide) (by decide);obtain⟨A1,c1,f1,he1,hs1,hf1⟩:=jhn (l:=[1,2]) ho2;cases he1;replace hb0:=hb0.trans (hb2.mono hb0.size);replace kr:=kr.step hb2;replace hs0:=hs0.step hb2;clear hb1 hb2 ho1 ho2 hf0 hf1
 go_wp2_with fail;refine(jgf (keys:=jgh 3) (admins:=[1,2]) _ hs0 hs1 (by decide) (by decide)).mono ?_;rintro e w2 ⟨cs,f,rfl,hR,hl,hb2⟩;have hs2:=hb2.size;simp only[World.size_alloc] at hl hs2;have hs1':=hb0.size;simp only[World.size_alloc] at hs1';replace hb0:=hb0.trans (hb2.mono (by simp;omega));replace kr:=kr.step hb2;clear hb2 hs0 hs1
 obtain⟨A0,n0,c0,f0,A1,n1,c1,f1,A2,n2,c2,f2,rfl, -⟩:=id hR;have kl:=kr.lt;have HM:MB w g P w2.heap.size (jb4 (jgh 3) [1,2]) [.slice A0 n0 c0,.slice A1 n1 c1,.slice A2 n2 c2] f (w2.alloc (.cells #[.slice A0 n0 c0,.slice A1 n1 c1,.slice A2 n2 c2] 26)):=
  ⟨(h.step hb0).step ((Below.refl _ _).alloc nle _),(Only.of_below hb0 _).alloc _,kr.step ((Below.refl _ _).alloc nle _),Blk.new _ _ _,Rp.house.below hR ((Below.refl _ _).alloc nle _) nle,fun z hz=>by have:=hl z hz;have:=Rp.house.lt hR z hz;omega,.inl (by unfold jc0;decide),.inl (by decide),hg,kl⟩
 clear hR hl h hb0 kr hs2 hs1' hs0' kl;generalize hw3:w2.alloc (.cells #[.slice A0 n0 c0,.slice A1 n1 c1,.slice A2 n2 c2] 26)=w3 at HM;go_upto_region 2 with fail
 clear hw3;generalize w2.heap.size=M at HM ⊢
 go_cut [4] from 7 to 10 (fun v wx=>jqv w g P M 0 v wx)
 case first=>
  go_wp2_with fail;refine(ji7 _).mono ?_;rintro e w4 ⟨A,c,fl,rfl,hs,hl,hb⟩;have H:=HM.step hb;have hz:=HM.km.lt;have hz2:=HM.on.size;have hz3:=HM.kr.lt;have HX:=Ja (show jqv w g P M 0 (.slice A 7 c) w4 from⟨_,_,_,A,c,fl,rfl,H,hs,fun z hz=>by have:=hl z hz;omega⟩);clear H HM hs hl hb;go_wp2_with fail;go_meet
  case rel=>exact HX.out
 case rest=>
  have HX:=Ja hcut;clear hcut HM;obtain⟨m,cs,f,A,c,fl,rfl,H,hs,hfl⟩:=HX.out;clear HX;obtain⟨b,o, -, -,rfl,hbl,hbm, -, -, -⟩:=hs.get (i:=0) (by decide);have hmx:=hs.max
  go_upto_block 0 with fail
  go_cut [5] from 11 to 30 (fun _ wx=>∃m cs f,MB w g (P+400) M m cs f wx)
  case first=>
   go_wp2_with fail
   go_loopw [5] (fun iv wr=>∃j:Nat,iv= .int .i64 (j:Int)∧j≤7∧(∃m cs f,MB w g (P+50*j) M m cs f wr)∧SlR Rp.req wr (some ⟨b,o,none⟩) 7 c startL fl) (fun iv _=>7 - (intOf iv).toNat)
   case atStart=>exact⟨0,rfl,by omega,⟨m,cs,f,H.mono (by omega)⟩,hs⟩
   case round=>
    obtain⟨j,rfl,hj,⟨m,cs,f,H⟩,hs⟩:=hrel;by_cases hlt:j<7
    ·have hlt':(j:Int)<7:=by omega
     have j0:(0:Int)≤(j:Int):=by omega
     go_wp2_with fail;refine(Jk g _ 40 (by omega) (by omega) _ H.rd).mono ?_;rintro e w4 ⟨x,rfl,hx,hr,ho⟩;replace H:=H.only ho hr;have hgl:=H.gl;replace hs:=hs.only ho (fun z hz=>by have:=hfl z hz;simp only[List.mem_singleton];omega);clear hr ho hx;by_cases h0:x=0
     ·subst h0;go_wp2_with fail
      all_goals
       go_meet
       case rel=>exact⟨_,_,_,H.mono (by omega)⟩
     ·have h1:(0:Int)<(x:Int):=by omega
      go_upto_region 6 with fail
      obtain⟨b2,o2,qc,fq,hA,hbl4,hbm4,hcq,hRq,hfq⟩:=hs.get (i:=j) hlt;cases hA;have hbg:b≠g:=by have:=hfl b hbm4;omega
      obtain⟨A3,n3,c3,f3,rfl,hf3,hs3⟩:=id hRq;have hfit:=jmj _ (List.getElem_mem (l:=startL) (n:=j) hlt);obtain⟨A0,n0,c0,g0,A1,n1,c1,g1,A2,n2,c2,g2,rfl, -⟩:=id H.R;generalize hq:startL[j]=q at hcq hRq hfit;skip
      refine jbp _ (fun L _ w'=>RS [(9,7),(7,6),(6,5),(5,0),(5,4),(4,3),(3,1),(3,2),(8,6)] 9 5 (fun _ w'=>Rd w' g (P+50*j+1)∧Only [g] w4 w') (fun w'=>(∃cs f,MB w g (P+50*j+40) M (jai m q).1 cs f w')∧SlR Rp.req w' (some ⟨b,o,none⟩) 7 c startL fl) L w') (Only [g,M]) (m1Γ g M (w.heap.size+1) b o 7 c j m #[.slice A0 n0 c0,.slice A1 n1 c1,.slice A2 n2 c2] q (RA q (.slice A3 n3 c3))) (by kernel_rfl) (by kernel_rfl) (joq _ _ _ _ _ _ _ _ _ _ _ _ (by have:=H.gl;omega)) (Only.refl _) ⟨RS.start (⟨H.rd.step (Below.refl _ _).drew,Only.of_below ((Below.refl _ _).drew) _⟩),fun s hs=> ?_,by rfl⟩ ?_ ?_
      ·skip;by_cases e3:s=3
       ·subst e3;rfl
       by_cases e4:s=4
       ·subst e4;rfl
       by_cases e5:s=5
       ·subst e5;rfl
       have hne:s∉ [23,24,25,26,27,28,22,29,30]:=fun hm=>by
        simp only[List.mem_cons,List.not_mem_nil,or_false] at hm;rcases hm with rfl|rfl|rfl|rfl|rfl|rfl|rfl|rfl|rfl<;>exact absurd hs (by decide)
       simp only[List.mem_cons,List.not_mem_nil,or_false,not_or] at hne;unfold m1Γ;split<;>first|trivial|(exfalso;omega)
      ·intro i p hi hp;replace hi:i<10:=hi;have hcases:i=0∨i=1∨i=2∨i=3∨i=4∨i=5∨i=6∨i=7∨i=8∨i=9:=by omega
       rcases hcases with rfl|rfl|rfl|rfl|rfl|rfl|rfl|rfl|rfl|rfl
       all_goals(obtain rfl:=Option.some.inj hp)
       ·intro L a w' hL hl hall hC hR;have hcs: ∀p∈([(9,7),(7,6),(6,5),(5,0),(5,4),(4,3),(3,1),(3,2),(8,6)]:List (Nat×Nat)),p.1=0→L.getD p.2 false=true:=by
         intro p hp h1;simp only[List.mem_cons,List.not_mem_nil,or_false] at hp;rcases hp with rfl|rfl|rfl|rfl|rfl|rfl|rfl|rfl|rfl<;>exact absurd h1 (by decide)
        have ha:L.getD 9 false=false:=Bool.eq_false_iff.2 fun e9=>by
         have e7:=hC.cl (9,7) (by decide) e9;have e6:=hC.cl (7,6) (by decide) e7;have e5:=hC.cl (6,5) (by decide) e6;have e0:=hC.cl (5,0) (by decide) e5;rw[e0] at hl;cases hl
        have hb:=hC.be ha;have r3:_=_:=hR 3 (by decide);have hk3:=H.km.only hb.2 (by simp only[List.mem_singleton];have:=H.gl;have:=H.ml;omega);have x0:=Blk.c0 hk3;have x1:=Blk.c1 hk3;have x2:=Blk.c2 hk3;simp[Region.wanted,Jg,go_sem,execOp,r3,x0,x1,x2,upT];exact⟨Only.refl _ _,rfl,hC.pure (by decide) (by decide) hcs⟩
       ·intro L a w' hL hl hall hC hR;have hcs: ∀p∈([(9,7),(7,6),(6,5),(5,0),(5,4),(4,3),(3,1),(3,2),(8,6)]:List (Nat×Nat)),p.1=1→L.getD p.2 false=true:=by
         intro p hp h1;simp only[List.mem_cons,List.not_mem_nil,or_false] at hp;rcases hp with rfl|rfl|rfl|rfl|rfl|rfl|rfl|rfl|rfl<;>exact absurd h1 (by decide)
        have r4:_=_:=hR 4 (by decide);simp[Region.wanted,Jg,go_sem,execOp,r4,upT];exact⟨Only.refl _ _,rfl,hC.pure (by decide) (by decide) hcs⟩
       ·intro L a w' hL hl hall hC hR;have hcs: ∀p∈([(9,7),(7,6),(6,5),(5,0),(5,4),(4,3),(3,1),(3,2),(8,6)]:List (Nat×Nat)),p.1=2→L.getD p.2 false=true:=by
         intro p hp h1;simp only[List.mem_cons,List.not_mem_nil,or_false] at hp;rcases hp with rfl|rfl|rfl|rfl|rfl|rfl|rfl|rfl|rfl<;>exact absurd h1 (by decide)
        have r5:_=_:=hR 5 (by decide);simp[Region.wanted,Jg,go_sem,execOp,r5,upT];exact⟨Only.refl _ _,rfl,hC.pure (by decide) (by decide) hcs⟩
       ·intro L a w' hL hl hall hC hR;have hcs: ∀p∈([(9,7),(7,6),(6,5),(5,0),(5,4),(4,3),(3,1),(3,2),(8,6)]:List (Nat×Nat)),p.1=3→L.getD p.2 false=true:=by
         intro p hp h1;simp only[List.mem_cons,List.not_mem_nil,or_false] at hp;rcases hp with rfl|rfl|rfl|rfl|rfl|rfl|rfl|rfl|rfl<;>first|exact absurd h1 (by decide)|exact hall ⟨_,.data⟩ (by simp) (by decide)
        have r24:_=_:=hR 24 (by decide);have r25:_=_:=hR 25 (by decide);simp[Region.wanted,Jg,go_sem,execOp,r24,r25,↓IntWalk.iteOmega,hlt',upT];exact⟨Only.refl _ _,rfl,hC.pure (by decide) (by decide) hcs⟩
       ·intro L a w' hL hl hall hC hR;have hcs: ∀p∈([(9,7),(7,6),(6,5),(5,0),(5,4),(4,3),(3,1),(3,2),(8,6)]:List (Nat×Nat)),p.1=4→L.getD p.2 false=true:=by
         intro p hp h1;simp only[List.mem_cons,List.not_mem_nil,or_false] at hp;rcases hp with rfl|rfl|rfl|rfl|rfl|rfl|rfl|rfl|rfl<;>first|exact absurd h1 (by decide)|exact hall ⟨_,.data⟩ (by simp) (by decide)
        have ha:L.getD 9 false=false:=Bool.eq_false_iff.2 fun e9=>by
         have e7:=hC.cl (9,7) (by decide) e9;have e6:=hC.cl (7,6) (by decide) e7;have e5:=hC.cl (6,5) (by decide) e6;have e4:=hC.cl (5,4) (by decide) e5;rw[e4] at hl;cases hl
        have hb:=hC.be ha;have r26:_=_:=hR 26 (by decide)
        have hk5: ∀i u,(List.toArray [.int .i64 q.user,.int .i64 q.key,.int .i64 q.repo,.int .i64 q.kind,.string q.ref,.string q.path,.int .i64 q.old,.int .i64 q.back,.slice A3 n3 c3,.int .i64 q.rule.user,.string q.rule.ref,.string q.rule.path,.bool q.rule.write,.int .i64 q.frm,.string q.other])[i]? =some u→w'.cell? ⟨b,o+j*15+i,none⟩=some u:=fun i u hu=>by
         rw[World.cell?_of_block (a:=⟨b,o+j*15+i,none⟩) (hb.2.block b hbl4 (by simp only[List.mem_singleton];exact hbg))];exact hcq i u (by simpa using hu)
        have q0:w'.cell? ⟨b,o+j*15,none⟩=some (.int .i64 q.user):=hk5 0 _ rfl;have q1:=hk5 1 _ rfl;have q2:=hk5 2 _ rfl;have q3:=hk5 3 _ rfl;have q4:=hk5 4 _ rfl;have q5:=hk5 5 _ rfl;have q6:=hk5 6 _ rfl;have q7:=hk5 7 _ rfl;have q8:=hk5 8 _ rfl;have q9:=hk5 9 _ rfl;have q10:=hk5 10 _ rfl;have q11:=hk5 11 _ rfl;have q12:=hk5 12 _ rfl;have q13:=hk5 13 _ rfl;have q14:=hk5 14 _ rfl
        simp[Region.wanted,Jg,go_sem,execOp,r26,q0,q1,q2,q3,q4,q5,q6,q7,q8,q9,q10,q11,q12,q13,q14,upT];exact⟨Only.refl _ _,rfl,hC.pure (by decide) (by decide) hcs⟩
       ·intro L a w' hL hl hall hC hR;have hcs: ∀p∈([(9,7),(7,6),(6,5),(5,0),(5,4),(4,3),(3,1),(3,2),(8,6)]:List (Nat×Nat)),p.1=5→L.getD p.2 false=true:=by
         intro p hp h1;simp only[List.mem_cons,List.not_mem_nil,or_false] at hp;rcases hp with rfl|rfl|rfl|rfl|rfl|rfl|rfl|rfl|rfl<;>first|exact absurd h1 (by decide)|exact hall ⟨_,.data⟩ (by simp) (by decide)
        have ha:L.getD 9 false=false:=Bool.eq_false_iff.2 fun e9=>by
         have e7:=hC.cl (9,7) (by decide) e9;have e6:=hC.cl (7,6) (by decide) e7;have e5:=hC.cl (6,5) (by decide) e6;rw[e5] at hl;cases hl
        have hb:=hC.be ha;have r23:_=_:=hR 23 (by decide);have r27:_=_:=hR 27 (by decide);have hR2:Rp.house.R w' [.slice A0 n0 c0,.slice A1 n1 c1,.slice A2 n2 c2] m f:=Rp.house.keep H.R fun z hz=>hb.2.block z (Rp.house.lt H.R z hz) (H.ng z hz)
        have hR3:Rp.req.R w' (List.toArray [.int .i64 q.user,.int .i64 q.key,.int .i64 q.repo,.int .i64 q.kind,.string q.ref,.string q.path,.int .i64 q.old,.int .i64 q.back,.slice A3 n3 c3,.int .i64 q.rule.user,.string q.rule.ref,.string q.rule.path,.bool q.rule.write,.int .i64 q.frm,.string q.other]).toList q fq:=Rp.req.keep hRq fun z hz=>hb.2.block z (Rp.req.lt hRq z hz) (by simp only[List.mem_singleton];have:=hfl z (hfq z hz);have:=H.gl;omega)
        simp[Region.wanted,Jg,go_sem,execOp,r23,r27,upT];have hs':=hb.2.size;have hm':=H.km.lt;have ho':=H.on.size;refine(jah (x:=m) (r:=q) _ hR2 hR3 H.inv.fit hfit).mono ?_;intro e wn hd;obtain⟨v,rfl,hv,hbw⟩:=FDone.of (B:=w.heap.size+1) (M:=M) hd (by have:=H.kr.lt;omega) (by omega)
        exact⟨_,rfl,Only.of_below hbw _,hv,hC.turn (by decide) hcs ha ⟨hb.1.step hbw,hb.2.trans (Only.of_below hbw _)⟩⟩
       ·intro L a w' hL hl hall hC hR;have hcs: ∀p∈([(9,7),(7,6),(6,5),(5,0),(5,4),(4,3),(3,1),(3,2),(8,6)]:List (Nat×Nat)),p.1=6→L.getD p.2 false=true:=by
         intro p hp h1;simp only[List.mem_cons,List.not_mem_nil,or_false] at hp;rcases hp with rfl|rfl|rfl|rfl|rfl|rfl|rfl|rfl|rfl<;>first|exact absurd h1 (by decide)|exact hall ⟨_,.data⟩ (by simp) (by decide)
        have r28:=hR 28 (by decide);simp[Region.wanted,Jg,go_sem,execOp,upT];exact⟨Only.refl _ _,r28,hC.pure (by decide) (by decide) hcs⟩
       ·intro L a w' hL hl hall hC hR;have hcs: ∀p∈([(9,7),(7,6),(6,5),(5,0),(5,4),(4,3),(3,1),(3,2),(8,6)]:List (Nat×Nat)),p.1=7→L.getD p.2 false=true:=by
         intro p hp h1;simp only[List.mem_cons,List.not_mem_nil,or_false] at hp;rcases hp with rfl|rfl|rfl|rfl|rfl|rfl|rfl|rfl|rfl<;>first|exact absurd h1 (by decide)|exact hall ⟨_,.data⟩ (by simp) (by decide)
        obtain⟨a1,a2,r22,hh⟩:=FDone.house (hR 22 (by decide));simp[Region.wanted,Jg,go_sem,execOp,r22,upT];exact⟨Only.refl _ _,hh,hC.pure (by decide) (by decide) hcs⟩
       ·intro L a w' hL hl hall hC hR;have hcs: ∀p∈([(9,7),(7,6),(6,5),(5,0),(5,4),(4,3),(3,1),(3,2),(8,6)]:List (Nat×Nat)),p.1=8→L.getD p.2 false=true:=by
         intro p hp h1;simp only[List.mem_cons,List.not_mem_nil,or_false] at hp;rcases hp with rfl|rfl|rfl|rfl|rfl|rfl|rfl|rfl|rfl<;>first|exact absurd h1 (by decide)|exact hall ⟨_,.data⟩ (by simp) (by decide)
        obtain⟨a1,a2,r22,hh⟩:=FDone.house (hR 22 (by decide));simp[Region.wanted,Jg,go_sem,execOp,r22,upT];exact⟨Only.refl _ _,trivial,hC.pure (by decide) (by decide) hcs⟩
       ·intro L a w' hL hl hall hC hR;have hcs: ∀p∈([(9,7),(7,6),(6,5),(5,0),(5,4),(4,3),(3,1),(3,2),(8,6)]:List (Nat×Nat)),p.1=9→L.getD p.2 false=true:=by
         intro p hp h1;simp only[List.mem_cons,List.not_mem_nil,or_false] at hp;rcases hp with rfl|rfl|rfl|rfl|rfl|rfl|rfl|rfl|rfl<;>first|exact absurd h1 (by decide)|exact hall ⟨_,.data⟩ (by simp) (by decide)
        have hb:=hC.be hl;obtain⟨B0,k0,d0,B1,k1,d1,B2,k2,d2,f5,r29,hR5,hn5,hl5,hf5⟩:FHouse _ _ _ _ _:=hR 29 (by decide);have r3:_=_:=hR 3 (by decide);have H5:=H.only hb.2 hb.1;have x0:=Blk.c0 H5.km;have x1:=Blk.c1 H5.km;have x2:=Blk.c2 H5.km;have y0:=Ji H5.km 0;have y1:=Ji H5.km 1;have y2:=Ji H5.km 2
        have H6:=H5.put hR5 (fun z hz=>by have:=hl5 z hz;omega) (.inr ⟨hn5,hf5⟩) (H.inv.done q);have HS:=((((hs.only hb.2 (fun z hz=>by have:=hfl z hz;simp only[List.mem_singleton];omega)).putN (b:=M) (j:=0) (fun hm=>(hfl M hm).2 rfl) (.slice B0 k0 d0)).putN (b:=M) (j:=1) (fun hm=>(hfl M hm).2 rfl) (.slice B1 k1 d1)).putN (b:=M) (j:=2) (fun hm=>(hfl M hm).2 rfl) (.slice B2 k2 d2))
        simp[Region.wanted,Jg,go_sem,execOp,r3,r29,x0,x1,x2,y0,y1,y2,upT];exact⟨(((Only.refl [g,M] w').setCell (p:=⟨M,0,none⟩) (.inl (by simp)) (.slice B0 k0 d0)).setCell (p:=⟨M,1,none⟩) (.inl (by simp)) (.slice B1 k1 d1)).setCell (p:=⟨M,2,none⟩) (.inl (by simp)) (.slice B2 k2 d2),hC.hit (by rw[hL];decide) hcs ⟨⟨_,_,H6.mono (by omega)⟩,HS⟩⟩
      ·intro l w5 τ hall hC;obtain⟨⟨cs,f5,H6⟩,HS⟩:=hC.af (hall 9 (by decide));simp only[jdb];intro v23 _ v24 _ v25 _ v26 _ v27 _ v28 _ v22 _ v29 _ v30 _ hτ;clear hτ hC H hs;have HX:=Ja HS;clear HS;go_wp2;exact⟨⟨j+1,by go_num,by omega,⟨_,_,_,H6.mono (by omega)⟩,HX.out⟩,by simp[intOf];omega⟩
    ·have hlt': ¬(j:Int)<7:=by omega
     go_wp2_with fail
     all_goals
      go_meet
      case rel=>exact⟨_,_,_,H.mono (by omega)⟩
  case rest=>
   clear H hs hfl;obtain⟨m,cs,f,H⟩:=hcut;go_upto_region 7 with fail
   go_cut [48] from 31 to 48 (fun v wx=>(∃bb,v= .bool bb)∧∃m cs f,MB w g (P+401) M m cs f wx)
   case first=>
    go_wp2_with fail;refine(Jk g _ 2 (by omega) (by omega) _ H.rd).mono ?_;rintro e w4 ⟨x,rfl,hx,hr,ho⟩;replace H:=H.only ho hr;clear hr ho hx;obtain⟨A0,n0,c0,g0,A1,n1,c1,g1,A2,n2,c2,g2,rfl, -, -, -,h2⟩:=id H.R;obtain rfl:=h2.1;cases hd:((x:Int)==0)
    ·skip;go_wp2_with fail
     all_goals
      go_meet
      case rel=>exact⟨⟨_,rfl⟩,_,_,_,H⟩
    ·by_cases hp:0<m.Rz.length
     ·have hp1:(0:Int)<(m.Rz.length:Int):=by omega
      obtain⟨b,o,B0,k0,d0,e0,B1,k1,d1,e1,rfl, -, -,q0,q1,q2,hs0,hs1, -⟩:=J7 h2 hp;obtain rfl:=hs1.1;have hmx:=h2.max;have hmx1:=hs1.max;simp only[Nat.zero_mul,Nat.add_zero] at q0 q1 q2;have x2:=Blk.c2 H.km;by_cases hz:0<m.Rz[0].Fz.length
      ·have hz1:(0:Int)<(m.Rz[0].Fz.length:Int):=by omega
       clear q0 q1 hs0 hs1 h2;go_wp2_with fail
       all_goals
        go_meet
        case rel=>exact⟨⟨_,rfl⟩,_,_,_,H⟩
      ·have hz1: ¬(0:Int)<(m.Rz[0].Fz.length:Int):=by omega
       clear q0 q1 hs0 hs1 h2;go_wp2_with fail
       all_goals
        go_meet
        case rel=>exact⟨⟨_,rfl⟩,_,_,_,H⟩
     ·have hp1: ¬(0:Int)<(m.Rz.length:Int):=by omega
      have x2:=Blk.c2 H.km;go_wp2_with fail
      all_goals
       go_meet
       case rel=>exact⟨⟨_,rfl⟩,_,_,_,H⟩
   case rest=>
    obtain⟨w2,hw2⟩: ∃w2,w2=wc:=⟨_,rfl⟩;subst hw2;clear H;obtain⟨⟨bb,rfl⟩,m,cs,f,H⟩:=hcut;go_upto_if 48 with fail
    go_cut [] from 49 to 58 (fun wx=>∃m cs f,MB w g (P+402) M m cs f wx)
    case first=>
     cases bb
     ·skip;go_wp2_with fail
      all_goals
       go_meet
       case rel=>exact⟨_,_,_,H.mono (by omega)⟩
     ·skip;obtain⟨A0,n0,c0,g0,A1,n1,c1,g1,A2,n2,c2,g2,rfl, -, -, -,h2⟩:=id H.R;obtain rfl:=h2.1;have x0:=Blk.c0 H.km;have x1:=Blk.c1 H.km;have x2:=Blk.c2 H.km;have hbE:=(Below.refl w2.heap.size w2).alloc nle (.cells #[.string ⟨#[97,47,98]⟩,.string ⟨#[120]⟩,.bool false,.string ⟨#[98,47,97]⟩,.string ⟨#[121]⟩,.bool false,.string ⟨#[99]⟩,.string ⟨#[122]⟩,.bool false] 59);have H2:=H.step hbE
      have hoE:=World.ownsRow_lit (base:=w2.heap.size) (e:=59) (size:=3) w2 #[.string ⟨#[97,47,98]⟩,.string ⟨#[120]⟩,.bool false,.string ⟨#[98,47,97]⟩,.string ⟨#[121]⟩,.bool false,.string ⟨#[99]⟩,.string ⟨#[122]⟩,.bool false] 3 nle (by decide) (by decide);obtain⟨A3,c3,f3,hE,hs3, -, -, -⟩:=Xw (k:=3) (enc:=Jp) (hk:=fun _=>rfl) (h1:=Yn) (l:=putL) hoE;cases hE
      have hRq:Rp.req.R (w2.alloc (.cells #[.string ⟨#[97,47,98]⟩,.string ⟨#[120]⟩,.bool false,.string ⟨#[98,47,97]⟩,.string ⟨#[121]⟩,.bool false,.string ⟨#[99]⟩,.string ⟨#[122]⟩,.bool false] 59)) (V5 putQ (.slice (some ⟨w2.heap.size,0,none⟩) 3 3)).toList putQ f3:=⟨_,_,_,_,rfl,rfl,hs3⟩;have HR:=Ja H2.R;have HQ:=Ja hRq;have hH:=H2;clear hs3 hoE hbE hRq H2 h2 H;go_wp2_with fail
      refine(jah (x:=m) (r:=putQ) _ HR.out HQ.out hH.inv.fit jpw).mono ?_;intro e w4 hd;obtain⟨v,rfl,hv,hb⟩:=FDone.of (B:=w.heap.size+1) (M:=M) hd (by have:=hH.kr.lt;omega) hH.km.lt;replace hH:=hH.step hb;obtain⟨a1,a2,rfl,B0,k0,d0,B1,k1,d1,B2,k2,d2,f5,rfl,hR5,hn5,hl5,hf5⟩:=FDone.house hv
      have H6:=Ja (hH.put hR5 (fun z hz=>by have:=hl5 z hz;omega) (.inr ⟨hn5,hf5⟩) (hH.inv.done putQ));have x0:=Blk.c0 hH.km;have x1:=Blk.c1 hH.km;have x2:=Blk.c2 hH.km;have y0:=Ji hH.km 0;have y1:=Ji hH.km 1;have y2:=Ji hH.km 2;clear hH hR5 hn5 hl5 hf5 hd hv hb HR HQ;go_wp2_with fail
      all_goals
       go_meet
       case rel=>exact⟨_,_,_,H6.out.mono (by omega)⟩
    case rest=>
     obtain⟨w2,hw2⟩: ∃w2,w2=wc:=⟨_,rfl⟩;subst hw2;clear H;obtain⟨m,cs,f,H⟩:=hcut;go_wp2_with fail;refine(Jk g _ 20 (by omega) (by omega) _ H.rd).mono ?_;rintro e w4 ⟨x,rfl,hx,hr,ho⟩;replace H:=H.only ho hr;have hx':x≤19:=by omega
     clear hr ho hx;go_wp2_with fail
     go_loopw [6] (fun iv wr=>∃j:Nat,iv= .int .i64 (j:Int)∧j≤19∧∃m cs f,MB w g (P+403+2500*(19 - j)) M m cs f wr) (fun iv _=>(intOf iv).toNat)
     case atStart=>exact⟨x,rfl,by omega,m,cs,f,H.mono (by omega)⟩
     case round=>
      obtain⟨j,rfl,hj,m,cs,f,H⟩:=hrel;clear hx';by_cases hlt:0<j
      ·have hlt':(0:Int)<(j:Int):=by omega
       go_upto_region 12 with fail
       obtain⟨A0,n0,c0,g0,A1,n1,c1,g1,A2,n2,c2,g2,rfl, -, -, -,h2⟩:=id H.R;obtain rfl:=h2.1
       refine jbp _ (fun L _ w'=>RS [(8,6),(6,5),(5,4),(4,0),(4,3),(3,1),(3,2),(7,5)] 8 3 (fun k w'=>Rd w' g (P+403+2500*(19 - j)+if k then 210 else 0)∧Only [g] wr w') (fun w'=>∃rq cs f,MB w g (P+403+2500*(19 - j)+300) M (jai m rq).1 cs f w') L w') (Only [g,M]) (m2Γ g M (w.heap.size+1) m #[.slice A0 n0 c0,.slice A1 n1 c1,.slice A2 m.Rz.length c2]) (by kernel_rfl) (by kernel_rfl) (jop _ _ _ _ _ (by have:=H.gl;omega)) (Only.refl _) ⟨RS.start (⟨H.rd.step (Below.refl _ _).drew,Only.of_below ((Below.refl _ _).drew) _⟩),fun s hs=> ?_,by rfl⟩ ?_ ?_
       ·skip;by_cases e0:s=0
        ·subst e0;rfl
        by_cases e3:s=3
        ·subst e3;rfl
        have hne:s∉ [66,67,68,69,70,65,71,72]:=fun hm=>by
         simp only[List.mem_cons,List.not_mem_nil,or_false] at hm;rcases hm with rfl|rfl|rfl|rfl|rfl|rfl|rfl|rfl<;>exact absurd hs (by decide)
        simp only[List.mem_cons,List.not_mem_nil,or_false,not_or] at hne;unfold m2Γ;split<;>first|trivial|(exfalso;omega)
       ·intro i p hi hp;replace hi:i<9:=hi;have hcases:i=0∨i=1∨i=2∨i=3∨i=4∨i=5∨i=6∨i=7∨i=8:=by omega
        rcases hcases with rfl|rfl|rfl|rfl|rfl|rfl|rfl|rfl|rfl
        all_goals(obtain rfl:=Option.some.inj hp)
        ·intro L a w' hL hl hall hC hR;have hcs: ∀p∈([(8,6),(6,5),(5,4),(4,0),(4,3),(3,1),(3,2),(7,5)]:List (Nat×Nat)),p.1=0→L.getD p.2 false=true:=by
          intro p hp h1;simp only[List.mem_cons,List.not_mem_nil,or_false] at hp;rcases hp with rfl|rfl|rfl|rfl|rfl|rfl|rfl|rfl<;>exact absurd h1 (by decide)
         have ha:L.getD 8 false=false:=Bool.eq_false_iff.2 fun e8=>by
          have e6:=hC.cl (8,6) (by decide) e8;have e5:=hC.cl (6,5) (by decide) e6;have e4:=hC.cl (5,4) (by decide) e5;have e0:=hC.cl (4,0) (by decide) e4;rw[e0] at hl;cases hl
         have hb:=hC.be ha;have r3:_=_:=hR 3 (by decide);have hk3:=H.km.only hb.2 (by simp only[List.mem_singleton];have:=H.gl;have:=H.ml;omega);have x0:=Blk.c0 hk3;have x1:=Blk.c1 hk3;have x2:=Blk.c2 hk3;simp[Region.wanted,Jg,go_sem,execOp,r3,x0,x1,x2,upT];exact⟨Only.refl _ _,rfl,hC.pure (by decide) (by decide) hcs⟩
        ·intro L a w' hL hl hall hC hR;have hcs: ∀p∈([(8,6),(6,5),(5,4),(4,0),(4,3),(3,1),(3,2),(7,5)]:List (Nat×Nat)),p.1=1→L.getD p.2 false=true:=by
          intro p hp h1;simp only[List.mem_cons,List.not_mem_nil,or_false] at hp;rcases hp with rfl|rfl|rfl|rfl|rfl|rfl|rfl|rfl<;>exact absurd h1 (by decide)
         have r0:_=_:=hR 0 (by decide);simp[Region.wanted,Jg,go_sem,execOp,r0,upT];exact⟨Only.refl _ _,rfl,hC.pure (by decide) (by decide) hcs⟩
        ·intro L a w' hL hl hall hC hR;have hcs: ∀p∈([(8,6),(6,5),(5,4),(4,0),(4,3),(3,1),(3,2),(7,5)]:List (Nat×Nat)),p.1=2→L.getD p.2 false=true:=by
          intro p hp h1;simp only[List.mem_cons,List.not_mem_nil,or_false] at hp;rcases hp with rfl|rfl|rfl|rfl|rfl|rfl|rfl|rfl<;>exact absurd h1 (by decide)
         have ha:L.getD 8 false=false:=Bool.eq_false_iff.2 fun e8=>by
          have e6:=hC.cl (8,6) (by decide) e8;have e5:=hC.cl (6,5) (by decide) e6;have e4:=hC.cl (5,4) (by decide) e5;have e3:=hC.cl (4,3) (by decide) e4;have e2:=hC.cl (3,2) (by decide) e3;rw[e2] at hl;cases hl
         have hb:=hC.be ha;have r3:_=_:=hR 3 (by decide);have hk3:=H.km.only hb.2 (by simp only[List.mem_singleton];have:=H.gl;have:=H.ml;omega);have x0:=Blk.c0 hk3;have x1:=Blk.c1 hk3;have x2:=Blk.c2 hk3;simp[Region.wanted,Jg,go_sem,execOp,r3,x0,x1,x2,upT];exact⟨Only.refl _ _,rfl,hC.pure (by decide) (by decide) hcs⟩
        ·intro L a w' hL hl hall hC hR;have hcs: ∀p∈([(8,6),(6,5),(5,4),(4,0),(4,3),(3,1),(3,2),(7,5)]:List (Nat×Nat)),p.1=3→L.getD p.2 false=true:=by
          intro p hp h1;simp only[List.mem_cons,List.not_mem_nil,or_false] at hp;rcases hp with rfl|rfl|rfl|rfl|rfl|rfl|rfl|rfl<;>first|exact absurd h1 (by decide)|exact hall ⟨_,.data⟩ (by simp) (by decide)
         have ha:L.getD 8 false=false:=Bool.eq_false_iff.2 fun e8=>by
          have e6:=hC.cl (8,6) (by decide) e8;have e5:=hC.cl (6,5) (by decide) e6;have e4:=hC.cl (5,4) (by decide) e5;have e3:=hC.cl (4,3) (by decide) e4;rw[e3] at hl;cases hl
         have hb:=hC.be ha;have r67:_=_:=hR 67 (by decide);have r68:_=_:=hR 68 (by decide);rw[hl] at hb;simp[Region.wanted,Jg,go_sem,execOp,r67,r68,upT];have hs2:=(H.only hb.2 hb.1).R;obtain⟨A0',n0',c0',g0',A1',n1',c1',g1',A2',n2',c2',g2',he,hff, -, -,hrs⟩:=id hs2;cases he
         refine(jgx g _ (by simp only[Bool.false_eq_true,if_false];omega) _ hb.1 hrs (fun hm=>H.ng g (by rw[hff];simp[hm]) (by simp)) H.inv.Uz).mono ?_;rintro e w5 ⟨q,A,c,fq,rfl, -,hown,hsm,hr,ho, -⟩;obtain⟨A',c',f',he',hs',hfb, -, -⟩:=Xw (k:=3) (enc:=Jp) (hk:=fun _=>rfl) (h1:=Yn) hown;cases he';have hso:=hb.2.size;have hsk:=H.kr.lt;have hmk:=H.km.lt
         exact⟨_,rfl,ho.more,⟨q,_,f',rfl,⟨_,_,_,_,rfl,rfl,hs'⟩,fun z hz=>by have:=hfb z hz;omega,hsm⟩,hC.turn (by decide) hcs ha (by rw[RS.set_at (by rw[hL];decide)];exact⟨hr.mono (by simp),hb.2.trans ho⟩)⟩
        ·intro L a w' hL hl hall hC hR;have hcs: ∀p∈([(8,6),(6,5),(5,4),(4,0),(4,3),(3,1),(3,2),(7,5)]:List (Nat×Nat)),p.1=4→L.getD p.2 false=true:=by
          intro p hp h1;simp only[List.mem_cons,List.not_mem_nil,or_false] at hp;rcases hp with rfl|rfl|rfl|rfl|rfl|rfl|rfl|rfl<;>first|exact absurd h1 (by decide)|exact hall ⟨_,.data⟩ (by simp) (by decide)
         have ha:L.getD 8 false=false:=Bool.eq_false_iff.2 fun e8=>by
          have e6:=hC.cl (8,6) (by decide) e8;have e5:=hC.cl (6,5) (by decide) e6;have e4:=hC.cl (5,4) (by decide) e5;rw[e4] at hl;cases hl
         have hb:=hC.be ha;have r66:_=_:=hR 66 (by decide);obtain⟨q,E,fq,r69,hRq,hfq,hsm⟩:FReqR _ _ _ _:=hR 69 (by decide);have hR2:=Rp.house.keep H.R fun z hz=>hb.2.block z (Rp.house.lt H.R z hz) (H.ng z hz);have hb':Rd w' g (P+403+2500*(19 - j)+210)∧Only [g] wr w':=⟨hb.1.mono (by split<;>omega),hb.2⟩;simp[Region.wanted,Jg,go_sem,execOp,r66,r69,upT];have hs':=hb.2.size;have hm':=H.km.lt
         have hsk:=H.kr.lt;refine(jah (x:=m) (r:=q) _ hR2 hRq H.inv.fit (jo1 hsm)).mono ?_;intro e wn hd;obtain⟨v,rfl,hv,hbw⟩:=FDone.of (B:=w.heap.size+1) (M:=M) hd (by omega) (by omega);exact⟨_,rfl,Only.of_below hbw _,⟨_,hv⟩,hC.turn (by decide) hcs ha (by rw[getD_set_ne false (by decide)];exact⟨hb.1.step hbw,hb.2.trans (Only.of_below hbw _)⟩)⟩
        ·intro L a w' hL hl hall hC hR;have hcs: ∀p∈([(8,6),(6,5),(5,4),(4,0),(4,3),(3,1),(3,2),(7,5)]:List (Nat×Nat)),p.1=5→L.getD p.2 false=true:=by
          intro p hp h1;simp only[List.mem_cons,List.not_mem_nil,or_false] at hp;rcases hp with rfl|rfl|rfl|rfl|rfl|rfl|rfl|rfl<;>first|exact absurd h1 (by decide)|exact hall ⟨_,.data⟩ (by simp) (by decide)
         have r70:=hR 70 (by decide);simp[Region.wanted,Jg,go_sem,execOp,upT];exact⟨Only.refl _ _,r70,hC.pure (by decide) (by decide) hcs⟩
        ·intro L a w' hL hl hall hC hR;have hcs: ∀p∈([(8,6),(6,5),(5,4),(4,0),(4,3),(3,1),(3,2),(7,5)]:List (Nat×Nat)),p.1=6→L.getD p.2 false=true:=by
          intro p hp h1;simp only[List.mem_cons,List.not_mem_nil,or_false] at hp;rcases hp with rfl|rfl|rfl|rfl|rfl|rfl|rfl|rfl<;>first|exact absurd h1 (by decide)|exact hall ⟨_,.data⟩ (by simp) (by decide)
         obtain⟨rq,hd⟩: ∃r,FDone _ _ (jai m r) _ _:=hR 65 (by decide);obtain⟨a1,a2,r65,hh⟩:=FDone.house hd;simp[Region.wanted,Jg,go_sem,execOp,r65,upT];exact⟨Only.refl _ _,⟨rq,hh⟩,hC.pure (by decide) (by decide) hcs⟩
        ·intro L a w' hL hl hall hC hR;have hcs: ∀p∈([(8,6),(6,5),(5,4),(4,0),(4,3),(3,1),(3,2),(7,5)]:List (Nat×Nat)),p.1=7→L.getD p.2 false=true:=by
          intro p hp h1;simp only[List.mem_cons,List.not_mem_nil,or_false] at hp;rcases hp with rfl|rfl|rfl|rfl|rfl|rfl|rfl|rfl<;>first|exact absurd h1 (by decide)|exact hall ⟨_,.data⟩ (by simp) (by decide)
         obtain⟨rq,hd⟩: ∃r,FDone _ _ (jai m r) _ _:=hR 65 (by decide);obtain⟨a1,a2,r65,hh⟩:=FDone.house hd;simp[Region.wanted,Jg,go_sem,execOp,r65,upT];exact⟨Only.refl _ _,trivial,hC.pure (by decide) (by decide) hcs⟩
        ·intro L a w' hL hl hall hC hR;have hcs: ∀p∈([(8,6),(6,5),(5,4),(4,0),(4,3),(3,1),(3,2),(7,5)]:List (Nat×Nat)),p.1=8→L.getD p.2 false=true:=by
          intro p hp h1;simp only[List.mem_cons,List.not_mem_nil,or_false] at hp;rcases hp with rfl|rfl|rfl|rfl|rfl|rfl|rfl|rfl<;>first|exact absurd h1 (by decide)|exact hall ⟨_,.data⟩ (by simp) (by decide)
         have hb:=hC.be hl;obtain⟨rq,B0,k0,d0,B1,k1,d1,B2,k2,d2,f5,r71,hR5,hn5,hl5,hf5⟩: ∃r,FHouse _ _ (jai m r).1 _ _:=hR 71 (by decide);have r3:_=_:=hR 3 (by decide);have H5:=H.only hb.2 hb.1;have x0:=Blk.c0 H5.km;have x1:=Blk.c1 H5.km;have x2:=Blk.c2 H5.km;have y0:=Ji H5.km 0;have y1:=Ji H5.km 1;have y2:=Ji H5.km 2
         have H6:=H5.put hR5 (fun z hz=>by have:=hl5 z hz;omega) (.inr ⟨hn5,hf5⟩) (H.inv.done rq);simp[Region.wanted,Jg,go_sem,execOp,r3,r71,x0,x1,x2,y0,y1,y2,upT]
         exact⟨(((Only.refl [g,M] w').setCell (p:=⟨M,0,none⟩) (.inl (by simp)) (.slice B0 k0 d0)).setCell (p:=⟨M,1,none⟩) (.inl (by simp)) (.slice B1 k1 d1)).setCell (p:=⟨M,2,none⟩) (.inl (by simp)) (.slice B2 k2 d2),hC.hit (by rw[hL];decide) hcs ⟨rq,_,_,H6.mono (by split<;>omega)⟩⟩
       ·intro l w5 τ hall hC;obtain⟨rq,cs,f5,H6⟩:=hC.af (hall 8 (by decide));simp only[jdb];intro v66 _ v67 _ v68 _ v69 _ v70 _ v65 _ v71 _ v72 _ hτ;clear hτ hC H h2;go_wp2;exact⟨⟨j - 1,by go_num,by omega,_,_,_,H6.mono (by omega)⟩,by simp[intOf];omega⟩
      ·have hlt': ¬(0:Int)<(j:Int):=by omega
       obtain⟨A0,n0,c0,g0,A1,n1,c1,g1,A2,n2,c2,g2,rfl, -, -, -,h2⟩:=id H.R;obtain rfl:=h2.1;have x0:=Blk.c0 H.km;have x1:=Blk.c1 H.km;have x2:=Blk.c2 H.km;have z0:=Blk.c0 H.kr;have z1:=Blk.c1 H.kr;have z2:=Blk.c2 H.kr;have y0:=Ji H.kr 0;have y1:=Ji H.kr 1;have y2:=Ji H.kr 2;have HF:=Ja H.fin;clear H h2;go_wp2;obtain⟨k2,hR,hl,ho,hi,hr,hon⟩:=HF.out
       exact bodyPost_ret (v:= .agg #[.slice A0 n0 c0,.slice A1 n1 c1,.slice A2 m.Rz.length c2]) (results_cell_row rfl _ _ w.heap.size _ _ (0,0) _ rfl k2.out Tryz.underlying26 rfl jd6) rfl ⟨m,_,f,rfl,hR,hl,ho,hi,hr.mono (by omega),hon⟩
end Go.Proofs.YtobbdhgkcoeifaaGreatDoor
