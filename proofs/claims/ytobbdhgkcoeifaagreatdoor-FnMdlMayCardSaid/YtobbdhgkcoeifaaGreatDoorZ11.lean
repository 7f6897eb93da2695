/- Lemmas and walks, joined by program. -/
import Derived.Test.YtobbdhgkcoeifaaGreatDoorZ9
import Derived.Test.YtobbdhgkcoeifaaGreatDoorZ6
namespace Go.Proofs.YtobbdhgkcoeifaaGreatDoor
open Go Go.RowKit
set_option maxHeartbeats 8000000
set_option maxRecDepth 100000
set_option linter.unusedSimpArgs false
set_option linter.unusedVariables false
def Cls (deps:List (Nat×Nat)) (L:Array Bool):Prop:=∀p∈deps,L.getD p.1 false=true→L.getD p.2 false=true
theorem jf4 {L:Array Bool} {i j:Nat} (h:L.getD j false=true):(L.setIfInBounds i true).getD j false=true:=by
 by_cases e:i=j
 ·subst e;have hlt:i<L.size:=by
   refine Classical.byContradiction fun hn=> ?_;rw[Array.getD_eq_getD_getElem?,Array.getElem?_eq_none (by omega)] at h;cases h
  simp[hlt]
 ·rw[getD_set_ne false e];exact h
theorem Cls.set {deps:List (Nat×Nat)} {L:Array Bool} {m:Nat} (h:Cls deps L) (hm: ∀p∈deps,p.1=m→L.getD p.2 false=true):Cls deps (L.setIfInBounds m true):=fun p hp h1=>by
 rcases Vu h1 with e|e
 ·exact jf4 (hm p hp e)
 ·exact jf4 (h p hp e)
theorem Cls.start {deps:List (Nat×Nat)} {n:Nat} :Cls deps (Array.replicate n false):=fun p _ h=>by simp[Array.getD] at h
def jfn (L:Array Bool) (i:Nat):Nat:=if L.getD i false=true then 10 else 0
def jp7 (i j k:Nat) (L:Array Bool):Nat:=jfn L i+jfn L j+jfn L k
theorem ja2 (L:Array Bool) (i m:Nat):jfn L i≤jfn (L.setIfInBounds m true) i:=by
 unfold jfn;by_cases h:L.getD i false=true
 ·rw[if_pos h,if_pos (jf4 h)];exact Nat.le_refl _
 ·rw[if_neg h];exact Nat.zero_le _
theorem jpy {L:Array Bool} {m:Nat} (hm:m<L.size) (hl:L.getD m false=false):jfn L m+10≤jfn (L.setIfInBounds m true) m:=by
 unfold jfn;rw[hl,if_neg (by simp),if_pos (by simp[hm])];exact Nat.le_refl _
theorem jfa (i j k m:Nat) (L:Array Bool):jp7 i j k L≤jp7 i j k (L.setIfInBounds m true):=
 Nat.add_le_add (Nat.add_le_add (ja2 L i m) (ja2 L j m)) (ja2 L k m)
theorem jf9 {i j k m:Nat} {L:Array Bool} (hm:m<L.size) (hl:L.getD m false=false) (h:m=i∨m=j∨m=k):jp7 i j k L+10≤jp7 i j k (L.setIfInBounds m true):=by
 have h1:=jpy hm hl;have a:=ja2 L i m;have b:=ja2 L j m;have c:=ja2 L k m;unfold jp7;rcases h with rfl|rfl|rfl<;>omega
theorem jc9 (i j k:Nat) (L:Array Bool):jp7 i j k L≤30:=by
 have a: ∀i,jfn L i≤10:=fun i=>by unfold jfn;split<;>omega
 have h1:=a i;have h2:=a j;have h3:=a k;unfold jp7;omega
def Apd (w0:World) (g P:Nat) (mc rc:Array Value) (Q:Nat) (q:Req) (E v:Value) (w:World):Prop:=
 ∃l' wX,RQ w0 g P mc rc Q q E wX∧wX.grownBy w E.ownBlock∧Rd w g P∧w.ownsRow (w0.heap.size+2) 59 3 v l'.length (l'.flatMap Jp)∧Xi l'∧l'.length=q.Ez.length+1
structure Ap (deps:List (Nat×Nat)) (app t i j k:Nat) (w0:World) (g P:Nat) (mc rc:Array Value) (Q:Nat) (q:Req) (E:Value) (L:Array Bool) (τ:Tmp→Value) (w:World):Prop where
 cl:Cls deps L
 be:L.getD app false=false→RQ w0 g (P+jp7 i j k L) mc rc Q q E w
 af:L.getD app false=true→Apd w0 g (P+30) mc rc Q q E (τ t) w
section
variable {deps:List (Nat×Nat)} {app t i j k:Nat} {w0:World} {g P:Nat} {mc rc:Array Value} {Q:Nat} {q:Req} {E:Value} {L:Array Bool} {τ:Tmp→Value} {w w':World} {m:Nat} {u:Value}
theorem Ap.start {n:Nat} (h:RQ w0 g P mc rc Q q E w):Ap deps app t i j k w0 g P mc rc Q q E (Array.replicate n false) τ w:=
 ⟨Cls.start,fun _=>h.mono (Nat.le_add_right _ _),fun h=>by simp[Array.getD] at h⟩
theorem Ap.pure (h:Ap deps app t i j k w0 g P mc rc Q q E L τ w) {d:Nat} (hm:m≠app) (hd:t≠d) (hc: ∀p∈deps,p.1=m→L.getD p.2 false=true):Ap deps app t i j k w0 g P mc rc Q q E (L.setIfInBounds m true) (jaf τ (some d) u) w:=by
 refine⟨h.cl.set hc,fun ha=> ?_,fun ha=> ?_⟩
 ·rw[getD_set_ne false hm] at ha;exact(h.be ha).mono (Nat.add_le_add_left (jfa i j k m L) P)
 ·rw[getD_set_ne false hm] at ha;have e:jaf τ (some d) u t=τ t:=by simp[jaf,hd]
  rw[e];exact h.af ha
theorem Ap.turn (h:Ap deps app t i j k w0 g P mc rc Q q E L τ w) {o:Option Tmp} (hm:m≠app) (ha:L.getD app false=false) (hc: ∀p∈deps,p.1=m→L.getD p.2 false=true) {P':Nat} (hq:RQ w0 g P' mc rc Q q E w') (hp:P'≤P+jp7 i j k (L.setIfInBounds m true)):Ap deps app t i j k w0 g P mc rc Q q E (L.setIfInBounds m true) (jaf τ o u) w':=by
 refine⟨h.cl.set hc,fun _=>hq.mono hp,fun hb=> ?_⟩;rw[getD_set_ne false hm,ha] at hb;cases hb
theorem Ap.hit (h:Ap deps app t i j k w0 g P mc rc Q q E L τ w) (_:L.getD app false=false) (hL:app<L.size) (hc: ∀p∈deps,p.1=app→L.getD p.2 false=true) (hq:Apd w0 g (P+30) mc rc Q q E u w'):Ap deps app t i j k w0 g P mc rc Q q E (L.setIfInBounds app true) (jaf τ (some t) u) w':=by
 refine⟨h.cl.set hc,fun hb=> ?_,fun _=> ?_⟩
 ·rw[show(L.setIfInBounds app true).getD app false=true by simp[hL]] at hb;cases hb
 ·have e:jaf τ (some t) u t=u:=by simp[jaf]
  rw[e];exact hq
theorem RQ.ne (h:RQ w0 g P mc rc Q q E w) {k:Nat} (hk:E.ownBlock=some k):w0.heap.size+2≤k∧k≠Q∧k<w.heap.size:=
 ⟨(h.own.lt k hk).1,jho h.own h.kq (by decide) hk,(h.own.lt k hk).2⟩
theorem Apd.put {v:Value} (h:Apd w0 g P mc rc Q q E v w) (hn:q.Ez.length+1≤6):
  ∃l',RQ w0 g P mc rc Q { q with Ez:=l'} v (w.setCell ⟨Q,8,none⟩ v)∧l'.length=q.Ez.length+1:=by
 obtain⟨l',wX,hq,hb,hr,ho,hs,hl⟩:=h;have h1:=hq.gl;have h2:=hq.ql;have h3:=hq.size;have hk: ∀b,b<wX.heap.size→(∀k,E.ownBlock=some k→k≠b)→w.heap[b]? =wX.heap[b]? :=fun b hlt hn=>hb.block b hlt fun e=>hn b e.symm rfl;have hkq:Blk w Q 31 (V5 q E):=(hk Q h3.2.1 fun k hk=>(hq.ne hk).2.1).trans hq.kq
 refine⟨l',⟨hr.put (by omega) v, ?_, ?_, ?_, ?_,jl2 ho hkq (by decide),⟨hq.sm.1,hq.sm.2,hs,by show l'.length≤6;omega,hq.sm.5,hq.sm.6⟩,h1,h2⟩,hl⟩
 ·exact(hq.on.step hb.os hb.tape hb.output hb.size fun b hlt _=>hk b (by omega) fun k hk=>by have:=(hq.ne hk).1;omega).setCell (p:=⟨Q,8,none⟩) (.inr (by show w0.heap.size≤Q;omega)) v
 ·exact Blk.far (show Blk w _ _ _ from(hk _ (by omega) fun k hk=>by have:=(hq.ne hk).1;omega).trans hq.km) (by omega) v
 ·exact Blk.far (show Blk w _ _ _ from(hk _ (by omega) fun k hk=>by have:=(hq.ne hk).1;omega).trans hq.kr) (by omega) v
 ·exact Jd (i:=8) hkq v
theorem RQ.apd {v:Value} (h:RQ w0 g P mc rc Q q E w) {x:Wz} (hx:Xu x) (ho:w'.ownsRow (w0.heap.size+2) 59 3 v (q.Ez.length+1) (q.Ez.flatMap Jp++Jp x)) (hg:w.grownBy w' E.ownBlock):Apd w0 g P mc rc Q q E v w':=by
 have hgl:=h.gl;have hon:Only E.ownBlock.toList w w':=⟨hg.os,hg.tape,hg.output,hg.size,fun k hk hn=>hg.block k hk fun e=>hn (by rw[←e];simp)⟩;exact⟨q.Ez++ [x],w,h,hg,h.rd.only hon fun k hk=>by have:=(h.ne (k:=k) (by simpa using hk)).1;omega,jcj ho,jb2 h.sm.Ez hx,by simp⟩
theorem RQ.cellE {v:Value} (h:Apd w0 g P mc rc Q q E v w):w.cell? ⟨Q,8,none⟩=some E∧w.frozen? ⟨Q,8,none⟩=false:=by
 obtain⟨l',wX,hq,hb,_⟩:=h;have e:w.heap[Q]? =wX.heap[Q]? :=hb.block Q hq.size.2.1 fun e=>(hq.ne (k:=Q) e.symm).2.1 rfl;have k:Blk w Q 31 (V5 q E):=e.trans hq.kq;refine⟨k.cell 8, ?_⟩;unfold Blk at k;simp[World.frozen?,k]
end
section
variable {P:Program} {ops:Array Oper} {C:Array Bool→(Tmp→Value)→World→Prop} {T:World→World→Prop} {Γ:Xr}
theorem jbp {id:Nat} {Q:Exit→Act→World→Prop} {a:Act} {w:World} (L:List Oper) (C:Array Bool→(Tmp→Value)→World→Prop) (T:World→World→Prop) (Γ:Xr) (hm:P.follows .mixedOrders=true) (hd:jbm L.toArray L.length=true)
  (hT:Zx T Γ) (hrefl: ∀w,T w w) (hs:VStart L.toArray C Γ a w) (hf: ∀(i:Nat) p,i<L.length→L[i]? =some p→fitsV P L.toArray C T Γ i p) (h: ∀l w' τ,(∀i,i<L.length→l.getD i false=true)→C l τ w'→jdb Γ w' (fun a'=>tau a'=τ→Q .normal a' w') L a):(Code.region id L.toArray true).wp P Q a w:=by
 refine wp_region_any hm ?_;refine jfc (C:=C) (stop:=L.length) hT hd (fun i p hi ho=>hf i p hi (by simpa using ho)) (.inl (by simp)) hrefl (fun a' w' listed hi hc hall=>⟨fun _=> ?_,fun p hp=> ?_⟩) _ _ _ _ hs.inv (by simp[jax]) hs.cl (fun h=>by simp[Array.getD])
 ·refine hi.fin (Q:=fun b=>tau b=tau a'→Q .normal b w') (l:=L) (fun q hq=> ?_) (fun s hs i q hi=> ?_) (h listed w' (tau a') hall hc) rfl
  ·obtain⟨i,hlt,rfl⟩:=List.mem_iff_getElem.1 hq;exact⟨i,by simp[hlt],hall i hlt⟩
  ·have hq:L[i]? =some q:=by simpa using hi
   obtain⟨hlt,he⟩:=List.getElem?_eq_some_iff.1 hq;exact hs q (by rw[←he];exact List.getElem_mem hlt)
 ·rw[Array.getElem?_eq_none (by simp)] at hp;cases hp
end
structure RS (deps:List (Nat×Nat)) (st c3:Nat) (Bf:Bool→World→Prop) (Af:World→Prop) (L:Array Bool) (w:World):Prop where
 cl:Cls deps L
 be:L.getD st false=false→Bf (L.getD c3 false) w
 af:L.getD st false=true→Af w
section
variable {deps:List (Nat×Nat)} {st c3 m:Nat} {Bf:Bool→World→Prop} {Af:World→Prop} {L:Array Bool} {w w':World}
theorem RS.start {n:Nat} (h:Bf false w):RS deps st c3 Bf Af (Array.replicate n false) w where
 cl:=Cls.start
 be:=fun _=>by
  rw[show(Array.replicate n false).getD c3 false=false by simp[Array.getD]];exact h
 af:=fun h=>by simp[Array.getD] at h
theorem RS.pure (h:RS deps st c3 Bf Af L w) (hm:m≠st) (hc3:m≠c3) (hc: ∀p∈deps,p.1=m→L.getD p.2 false=true):RS deps st c3 Bf Af (L.setIfInBounds m true) w:=
 ⟨h.cl.set hc,fun ha=>by rw[getD_set_ne false hm] at ha;rw[getD_set_ne false hc3];exact h.be ha,fun ha=>by rw[getD_set_ne false hm] at ha;exact h.af ha⟩
theorem RS.turn (h:RS deps st c3 Bf Af L w) (hm:m≠st) (hc: ∀p∈deps,p.1=m→L.getD p.2 false=true) (ha:L.getD st false=false) (hb:Bf ((L.setIfInBounds m true).getD c3 false) w'):RS deps st c3 Bf Af (L.setIfInBounds m true) w':=
 ⟨h.cl.set hc,fun _=>hb,fun hb=>by rw[getD_set_ne false hm,ha] at hb;cases hb⟩
theorem RS.hit (h:RS deps st c3 Bf Af L w) (hL:st<L.size) (hc: ∀p∈deps,p.1=st→L.getD p.2 false=true) (hb:Af w'):RS deps st c3 Bf Af (L.setIfInBounds st true) w':=
 ⟨h.cl.set hc,fun ha=>(by rw[show(L.setIfInBounds st true).getD st false=true by simp[hL]] at ha;cases ha),fun _=>hb⟩
theorem RS.set_at (hL:c3<L.size):(L.setIfInBounds c3 true).getD c3 false=true:=by simp[hL]
end
theorem Only.more {g M:Nat} {w w':World} (h:Only [g] w w'):Only [g,M] w w':=⟨h.os,h.tape,h.output,h.size,fun k hk hn=>h.block k hk fun hm=>hn (by simp at hm;simp[hm])⟩
end Go.Proofs.YtobbdhgkcoeifaaGreatDoor
