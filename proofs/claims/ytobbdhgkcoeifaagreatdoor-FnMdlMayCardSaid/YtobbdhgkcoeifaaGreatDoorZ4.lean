/- Lemmas and walks, joined by program. -/
import Derived.Test.YtobbdhgkcoeifaaGreatDoorZ1
import Derived.Test.YtobbdhgkcoeifaaGreatDoorZ2
import Derived.Test.YtobbdhgkcoeifaaGreatDoorZ3
namespace Go.Proofs.YtobbdhgkcoeifaaGreatDoor
open Go.RowKit
set_option maxHeartbeats 8000000
set_option maxRecDepth 100000
set_option linter.unusedSimpArgs false
set_option linter.unusedVariables false
def OwB {α:Type} (r:Rp α) (e:TypeId) (H:Nat) (v:Value) (l:List α) (w:World):Prop:=∃fp,OwS r e w v l fp∧fp.Nodup∧(∀b∈fp,H≤b)∧Free w fp
def Grows {α:Type} (r:Rp α) (e:TypeId) (H:Nat) (v:Value) (n:Nat) (xs ys:List Value) (l':List α) (wA:World) (HA:Nat):Prop:=
 ∀(g cap:Nat) (w2:World),w2.ownsRow 0 e r.k (.slice (some ⟨g,0,none⟩) (n+1) cap) (n+1) (xs++ys)→wA.grownBy w2 v.ownBlock→(v.ownBlock=some g∨g=HA)→OwB r e H (.slice (some ⟨g,0,none⟩) (n+1) cap) l' w2
section
variable {α:Type} {r:Rp α} {e:TypeId} {H:Nat} {v:Value} {l:List α} {w w1:World}
theorem OwB.nil:OwB r e H (.slice none 0 0) [] w:=⟨[],OwS.nil,List.nodup_nil,by simp,Free.nil _⟩
theorem OwB.step (h:OwB r e H v l w) (hb:Below w.heap.size w w1):OwB r e H v l w1:=by
 obtain⟨fp,h1,h2,h3,h4⟩:=h;exact⟨fp,h1.step hb,h2,h3,h4.step hb⟩
theorem OwB.alloc (h:OwB r e H v l w) (o:Obj):OwB r e H v l (w.alloc o):=h.step ((Below.refl _ _).alloc nle o)
theorem OwB.low {H':Nat} (h:OwB r e H v l w) (hl:H'≤H):OwB r e H' v l w:=by
 obtain⟨fp,h1,h2,h3,h4⟩:=h;exact⟨fp,h1,h2,fun b hb=>Nat.le_trans hl (h3 b hb),h4⟩
theorem OwB.only {f:List Nat} (h:OwB r e H v l w) (hb:Only f w w1) (hf: ∀b∈f,b<H):OwB r e H v l w1:=by
 obtain⟨fp,h1,h2,h3,h4⟩:=h;have hk: ∀b∈fp,w1.heap[b]? =w.heap[b]? :=fun b hm=>hb.block b (h1.lt b hm) fun hc=>by have:=hf b hc;have:=h3 b hm;omega
 exact⟨fp,h1.keep hk,h2,h3,h4.keep hk⟩
theorem OwB.form (h:OwB r e H v l w): ∃A c,v= .slice A l.length c∧l.length≤c∧c≤maxLen:=by
 obtain⟨fp,h1,_⟩:=h;obtain⟨A,c,_,h,_,_,h2,h3⟩:=h1.sl;exact⟨A,c,h,h2,h3⟩
theorem OwB.vlow (h:OwB r e H v l w): ∀b∈Vm v,H≤b:=by
 obtain⟨fp,⟨xs,f1,ho,_,rfl⟩,_,h3,_⟩:=h;exact fun b hb=>h3 b (List.mem_append_left _ hb)
theorem OwB.grow (h:OwB r e H v l w): ∃xs,w.ownsRow 0 e r.k v l.length xs∧∀ {wA:World},Below w.heap.size w wA→wA.ownsRow 0 e r.k v l.length xs∧
  ∀ {ys:List Value} {y:α} {g:List Nat},r.R wA ys y g→g.Nodup→(∀b∈g,w.heap.size≤b)→H≤w.heap.size→Free wA g→∀ {HA:Nat},wA.heap.size=HA→Grows r e H v l.length xs ys (l++ [y]) wA HA:=by
 obtain⟨fp,⟨xs,f1,ho,ha,rfl⟩,hn,hlo,hf⟩:=h;refine⟨xs,ho,fun {wA} hb=> ?_⟩;have hoA:=Jy ho fun b hm=>hb.block b (Jn ho b hm).2;refine⟨hoA,fun {ys y g} hy hgn hgl hHw hgf {HA} hHA g' cap w2 h2 hgr hor=> ?_⟩;obtain⟨hn0,hn1,hd⟩:=List.nodup_append.1 hn;have hlt: ∀b∈Vm v,b<w.heap.size:=fun b hm=>(Jn ho b hm).2;have hltf: ∀b∈f1,b<w.heap.size:=ha.lt
 have hgA: ∀b∈g,b<wA.heap.size:=r.lt hy;have hob: ∀b,v.ownBlock=some b→b∈Vm v:=fun b hb=>by unfold Vm;rw[hb];simp
 have e1: ∀b∈f1,w2.heap[b]? =wA.heap[b]? :=fun b hm=>hgr.block b (Nat.lt_of_lt_of_le (hltf b hm) hb.size) fun e=>hd b (hob b e.symm) b hm rfl;have e2: ∀b∈g,w2.heap[b]? =wA.heap[b]? :=fun b hm=>hgr.block b (hgA b hm) fun e=>by have:=hlt b (hob b e.symm);have:=hgl b hm;omega
 have ha2:AllR r w2 (xs++ys) (l++ [y]) (f1++g):=((ha.keep fun b hm=>hb.block b (hltf b hm)).keep e1).snoc (r.keep hy e2);have hg':g'∉f1++g:=fun hm=>by
  rcases hor with h|h
  ·have h1:=hob g' h;rcases List.mem_append.1 hm with hm|hm
   ·exact hd g' h1 g' hm rfl
   ·have:=hlt g' h1;have:=hgl g' hm;omega
  ·rcases List.mem_append.1 hm with hm|hm
   ·have:=hltf g' hm;have:=hb.size;omega
   ·have:=hgA g' hm;omega
 have hfr:Free w2 (f1++g):=((((hf.right).keep fun b hm=>hb.block b (hltf b hm)).keep e1).append (hgf.keep e2));refine⟨[g']++(f1++g),⟨xs++ys,f1++g,by simpa using h2,ha2,by simp[Vm,Value.ownBlock]⟩, ?_,fun b hm=> ?_, ?_⟩
 ·show(g'::(f1++g)).Nodup;refine List.nodup_cons.2 ⟨hg',List.nodup_append.2 ⟨hn1,hgn,fun a ha b hb' e=> ?_⟩⟩;subst e;have:=hltf a ha;have:=hgl a hb';omega
 ·rcases List.mem_append.1 hm with hm|hm
  ·rw[List.mem_singleton.1 hm];rcases hor with h|h
   ·exact hlo g' (List.mem_append_left _ (hob g' h))
   ·have:=hb.size;omega
  ·rcases List.mem_append.1 hm with hm|hm
   ·exact hlo b (List.mem_append_right _ hm)
   ·exact Nat.le_trans hHw (hgl b hm)
 ·exact Free.append (by simpa [Vm,Value.ownBlock] using jer h2) hfr
end
theorem Jb {w:World} {g:Nat} {t:TypeId} {cs:Array Value} (h:Blk w g t cs) (o:Nat):w.frozen? ⟨g,o,none⟩=false:=by
 unfold Blk at h;simp[World.frozen?,h]
theorem Blk.put {w:World} {g:Nat} {t:TypeId} {cs:Array Value} (h:Blk w g t cs) (i:Nat) (v:Value):Blk (w.setCell ⟨g,i,none⟩ v) g t (cs.setIfInBounds i v):=Jd h v
theorem Js (w:World) (g i:Nat) (v:Value):Only [g] w (w.setCell ⟨g,i,none⟩ v):=(Only.refl [g] w).setCell (.inl (by simp)) v
theorem OwnF.sl {α:Type} {t:TypeId} {k:Nat} {enc:α→List Value} {hk: ∀x,(enc x).length=k} {h1: ∀x,∀u∈enc x,u.oneCell'=true} {w:World} {l:List α} {e:Ending} {w':World}
  (h:OwnF t k enc w l e w'): ∃A c f,e= .returned (.slice A l.length c)∧SlR (Rp.flat k enc hk h1) w' A l.length c l f∧f.Nodup∧(∀b∈f,w.heap.size≤b)∧Free w' f∧Below w.heap.size w w':=by
 obtain⟨A,n,c,f,rfl,hs,h2,h3,h4,h5⟩:=h.fresh (hk:=hk) (h1:=h1);obtain rfl:=hs.1;exact⟨A,c,f,rfl,hs,h2,h3,h4,h5⟩
theorem je3 {w0 w w':World} {v:Value} (h:Below w0.heap.size w0 w) (hg:w.grownBy w' v.ownBlock) (hl: ∀b∈Vm v,w0.heap.size≤b):Below w0.heap.size w0 w':=
 h.grown hg h.size fun j hj=>hl j (by unfold Vm;rw[hj];simp)
def bLt (a b:ByteArray):Bool:=Op.bytesLess a.toList b.toList
def Zm {α:Type} (lt:α→Bool) (x:α) (l:List α):List α:=l.takeWhile lt++x::l.dropWhile lt
def Y3 (f:File):Bool:=Xm f.path&& !decide (f.path=ByteArray.empty)&&decide (f.bytes.size≤6)
def jdv (a b:File):Bool:=bLt a.path b.path&& !Jq a.path b.path
def Y1 (l:List File):Bool:=decide (l.length≤60)&&l.all Y3&&decide (l.Pairwise fun a b=>jdv a b=true)
def jbj (l:List File) (path:ByteArray):Option Nat:=l.findIdx? fun f=>decide (f.path=path)
def Zf (l:List File) (e:Wz):Option (List File):=match jbj l e.path with
 |none=>if e.gone then none else some (Zm (fun g=>bLt g.path e.path) ⟨e.path,e.bytes⟩ l)
 |some k=>if e.gone then(if e.bytes=ByteArray.empty then some (l.eraseIdx k) else none) else some (l.set k ⟨e.path,e.bytes⟩)
def Z9:List File→List Wz→Option (List File)
 |l,[]=>some l
 |l,e::es=>match Zf l e with
  |none=>none
  |some l'=>Z9 l' es
def Yu (l:List File) (es:List Wz):Option (List File):=if Y1 l=true∧es.length≤4 then
  match Z9 l es with
  |none=>none
  |some o=>if Y1 o then some o else none
 else none
def Yq (l:List File) (path:ByteArray):List File:=l.filter fun f=>Jq path f.path
def Yg (es:List Wz):Nat:=(es.map fun e=>e.path.size+e.bytes.size).sum
def readable (Uz:List Yt) (user:Int) (ref:ByteArray) (l:List File):List File:=l.filter fun f=>Yz Uz user ref f.path false
def usersOk (keys used:List Int):Bool:=inB keys.length 1 4&&decide (used.length=keys.length)&&keys.all (fun n=>inB n 1 9999)&&used.all (fun n=>inB n 0 200)
def Xv (r:Ref):Bool:=inB r.count 0 14&&inB r.Vz.length 1 3&&r.Vz.all Y1
def jay (l:List ByteArray):Bool:=l.all Y5&&decide (l.Pairwise fun a b=>bLt a b=true)
def repoOk (users:Int) (p:Xq):Bool:=p.Fz.all Xv&&jay (p.Fz.map (·.name))&&inB p.Az 1 users&&J5 p.Uz&&decide (p.Fz.length≤3)
def Ys (m:Jl):Bool:=usersOk m.keys m.used&&inB m.Rz.length 1 3&&m.Rz.all (repoOk m.keys.length)
def Y7 (l:List Ref) (name:ByteArray):Option Nat:=l.findIdx? fun x=>decide (x.name=name)
def version (vs:List (List File)) (back:Int):Option (List File):=if 0≤back∧back<vs.length then vs[vs.length - 1 - back.toNat]? else none
def Xn (m:Jl) (repo:Int) (name:ByteArray) (back:Int):Option (List File):=if 0≤repo then
  match m.Rz[repo.toNat]? with
  |none=>none
  |some p=>match Y7 p.Fz name with
   |none=>none
   |some k=>version (p.Fz.getD k Y8).Vz back
 else none
def jqz (m:Jl) (repo:Int) (name:ByteArray) (back:Int):Option (List File):=if Ys m then Xn m repo name back else none
def mdlSees (m:Jl) (user repo:Int) (name:ByteArray) (back:Int):List File:=match jqz m repo name back with
 |none=>[]
 |some l=>readable (m.Rz.getD repo.toNat jqy).Uz user name l
def knows (keys:List Int) (user key:Int):Bool:=inB user 1 keys.length&&decide (keys[(user - 1).toNat]? =some key)
theorem jjs: ∀x:List UInt8,Op.bytesLess x x=false
 | []=>rfl
 |a::x=>by simp[Op.bytesLess,jjs x]
theorem jmb: ∀ {x y z:List UInt8},Op.bytesLess x y=true→Op.bytesLess y z=true→Op.bytesLess x z=true
 |x,y,[],_,h=>by cases y<;>simp[Op.bytesLess] at h
 | [],y,c::z,_,_=>by simp[Op.bytesLess]
 |a::x,[],c::z,h,_=>by simp[Op.bytesLess] at h
 |a::x,b::y,c::z,h,h'=>by
  simp only[Op.bytesLess,Bool.or_eq_true,Bool.and_eq_true,decide_eq_true_eq,beq_iff_eq,UInt8.lt_iff_toNat_lt] at h h' ⊢;rcases h with h|⟨rfl,h⟩
  ·rcases h' with h'|⟨rfl,h'⟩
   ·exact .inl (by omega)
   ·exact .inl h
  ·rcases h' with h'|⟨rfl,h'⟩
   ·exact .inl h'
   ·exact .inr ⟨rfl,jmb h h'⟩
theorem jqr: ∀ {x y:List UInt8},Op.bytesLess x y=false→x≠y→Op.bytesLess y x=true
 | [],[],_,h=>absurd rfl h
 | [],b::y,h,_=>by simp[Op.bytesLess] at h
 |a::x,[],_,_=>by simp[Op.bytesLess]
 |a::x,b::y,h,hn=>by
  simp only[Op.bytesLess,Bool.or_eq_false_iff,Bool.and_eq_false_iff,decide_eq_false_iff_not,beq_eq_false_iff_ne,UInt8.lt_iff_toNat_lt] at h;simp only[Op.bytesLess,Bool.or_eq_true,Bool.and_eq_true,decide_eq_true_eq,beq_iff_eq,UInt8.lt_iff_toNat_lt];by_cases e:a=b
  ·subst e;refine .inr ⟨rfl,jqr ?_ fun h'=>hn (by rw[h'])⟩;rcases h.2 with h'|h'
   ·exact absurd rfl h'
   ·exact h'
  ·have:a.toNat≠b.toNat:=fun h'=>e (UInt8.toNat_inj.1 h');exact .inl (by omega)
theorem jeg (a:ByteArray):bLt a a=false:=jjs _
theorem jd2 {a b c:ByteArray} (h:bLt a b=true) (h':bLt b c=true):bLt a c=true:=jmb h h'
theorem jpd {a b:ByteArray} (h:bLt a b=false) (hn:a≠b):bLt b a=true:=jqr h fun e=>hn (jan e)
theorem bLt_ne {a b:ByteArray} (h:bLt a b=true):a≠b:=fun e=>by subst e;rw[jeg] at h;cases h
theorem jjt {a b:ByteArray} (h:bLt a b=true):bLt b a=false:=by
 cases h':bLt b a
 ·rfl
 ·have:=jd2 h h';rw[jeg] at this;cases this
theorem jpc: ∀ {a b:List UInt8} {t:List UInt8},(∀x∈b,47≤x.toNat)→Op.bytesLess a b=true→Op.bytesLess b (a++47::t)=true→∃s,b=a++47::s
 | [],[],_,_,h,_=>by simp[Op.bytesLess] at h
 | [],x::b,t,hb,_,h=>by
  simp only[List.nil_append,Op.bytesLess,Bool.or_eq_true,Bool.and_eq_true,decide_eq_true_eq,beq_iff_eq,UInt8.lt_iff_toNat_lt] at h;have h1:=hb x (by simp);rcases h with h|⟨rfl,h⟩
  ·have:(47:UInt8).toNat=47:=rfl;omega
  ·exact⟨b,rfl⟩
 |y::a,[],_,_,h,_=>by simp[Op.bytesLess] at h
 |y::a,z::b,t,hb,h,h'=>by
  simp only[List.cons_append,Op.bytesLess,Bool.or_eq_true,Bool.and_eq_true,decide_eq_true_eq,beq_iff_eq,UInt8.lt_iff_toNat_lt] at h h';have e:y=z∧Op.bytesLess a b=true∧Op.bytesLess b (a++47::t)=true:=by
   rcases h with h|⟨rfl,h⟩<;>rcases h' with h'|⟨e,h'⟩
   ·omega
   ·subst e;omega
   ·omega
   ·exact⟨rfl,h,h'⟩
  obtain⟨rfl,h1,h2⟩:=e;obtain⟨s,rfl⟩:=jpc (fun x hx=>hb x (by simp[hx])) h1 h2;exact⟨s,rfl⟩
theorem jh4 {c b:UInt8} : ∀ {l:List UInt8},b∈l→b=c∨∃p∈jcy c l,b∈p
 |x::l,h=>by
  unfold jcy;by_cases e:x=c
  ·rw[if_pos e];rcases List.mem_cons.1 h with rfl|h
   ·exact .inl e
   ·rcases jh4 h with h|⟨p,hp,hb⟩
    ·exact .inl h
    ·exact .inr ⟨p,by simp[hp],hb⟩
  ·rw[if_neg e];split
   ·rename_i h0;exact absurd h0 (jh3 c l)
   ·rename_i y ys h0
    rcases List.mem_cons.1 h with rfl|h
    ·exact .inr ⟨b::y,by simp,by simp⟩
    ·rcases jh4 h with h|⟨p,hp,hb⟩
     ·exact .inl h
     ·rw[h0] at hp;rcases List.mem_cons.1 hp with rfl|hp
      ·exact .inr ⟨x::p,by simp,by simp[hb]⟩
      ·exact .inr ⟨p,by simp[hp],hb⟩
theorem jog {s:ByteArray} (h:Xm s=true): ∀x∈s.data.toList,47≤x.toNat:=fun x hx=>by
 unfold Xm at h;rcases Bool.or_eq_true_iff.1 h with h|h
 ·have:=of_decide_eq_true h;subst this;cases hx
 ·obtain⟨h1,_⟩:=Bool.and_eq_true_iff.1 h;rcases jh4 (c:=47) hx with rfl|⟨p,hp,hb⟩
  ·exact Nat.le_refl 47
  ·have h2:=List.all_eq_true.1 h1 ⟨p.toArray⟩ (by unfold jf8;exact List.mem_map.2 ⟨p,hp,rfl⟩);simp only[Y5,Bool.and_eq_true] at h2;have h3:=List.all_eq_true.1 h2.2 x (by simpa using hb);simp only[lowB,Bool.and_eq_true,decide_eq_true_eq] at h3;omega
theorem jox (p s:ByteArray):jfv p s=true↔∃t,s.data.toList=p.data.toList++t:=by
 unfold jfv;rw[List.isPrefixOf_iff_prefix];exact⟨fun⟨t,h⟩=>⟨t,h.symm⟩,fun⟨t,h⟩=>⟨t,h.symm⟩⟩
theorem jj6 (a:ByteArray):(a++⟨#[47]⟩:ByteArray).data.toList=a.data.toList++ [47]:=by
 rw[ByteArray.data_append];simp
theorem jid {a b:ByteArray} (ha:Xm a=true) (hb:Xm b=true):Jq a b=true↔a=ByteArray.empty∨a=b∨∃t,b.data.toList=a.data.toList++47::t:=by
 rw[Vt ha hb];simp only[Bool.or_eq_true,decide_eq_true_eq,jox,jj6,List.append_assoc,List.cons_append,List.nil_append,or_assoc]
theorem jha {a b c:ByteArray} (ha:Xm a=true) (hb:Xm b=true) (hc:Xm c=true) (h1:bLt a b=true) (h2:bLt b c=true) (h:Jq a c=true):Jq a b=true:=by
 rw[jid ha hc] at h;rw[jid ha hb];rcases h with h|h|⟨t,h⟩
 ·exact .inl h
 ·subst h;have:=jjt h1;rw[h2] at this;cases this
 ·unfold bLt at h1 h2;rw[ByteArray.toList_eq,ByteArray.toList_eq] at h1 h2;rw[h] at h2;exact .inr (.inr (jpc (jog hb) h1 h2))
/-- rightly behind the one ahead -/
def Xp {α:Type} (R:α→α→Bool) (l:List α) (i:Nat):Bool:=match i with
 | 0=>true
 |j+1=>match l[j]?,l[j+1]? with
  |some a,some b=>R a b
  |_,_=>true
theorem W6 {α:Type} {R:α→α→Bool} {l:List α} {j:Nat} (h:j+1<l.length):Xp R l (j+1)=R l[j] l[j+1]:=by
 simp[Xp,List.getElem?_eq_getElem h,List.getElem?_eq_getElem (show j<l.length by omega)]
theorem jcw {α:Type} {R:α→α→Bool} {l:List α} (ht: ∀a∈l,∀b∈l,∀c∈l,R a b=true→R b c=true→R a c=true) (h: ∀i,i<l.length→Xp R l i=true):l.Pairwise fun a b=>R a b=true:=by
 have key: ∀d i,∀(hj:i+1+d<l.length),R l[i] l[i+1+d]=true:=by
  intro d
  induction d with
  |zero=>intro i hj;have:=h (i+1) hj;rwa [W6 hj] at this
  |succ d ih=>
   intro i hj;have h1:=ih i (by omega);have h2:=h (i+1+d+1) (by omega);rw[W6 (by omega)] at h2;exact ht _ (List.getElem_mem _) _ (List.getElem_mem _) _ (List.getElem_mem _) h1 h2
 rw[List.pairwise_iff_getElem];intro i j hi hj hlt;obtain⟨d,rfl⟩: ∃d,j=i+1+d:=⟨j - i - 1,by omega⟩;exact key d i hj
theorem jcs {α:Type} {R:α→α→Bool} {l:List α} (h:l.Pairwise fun a b=>R a b=true): ∀i,i<l.length→Xp R l i=true
 | 0,_=>rfl
 |j+1,hi=>by
  rw[W6 hi];exact(List.pairwise_iff_getElem.1 h) j (j+1) (by omega) hi (by omega)
theorem jjm {a b c:File} (ha:Y3 a=true) (hb:Y3 b=true) (hc:Y3 c=true) (h:jdv a b=true) (h':jdv b c=true):jdv a c=true:=by
 simp only[jdv,Y3,Bool.and_eq_true,Bool.not_eq_true'] at*;refine⟨jd2 h.1 h'.1, ?_⟩;cases hu:Jq a.path c.path
 ·rfl
 ·have:=jha ha.1.1 hb.1.1 hc.1.1 h.1 h'.1 hu;rw[h.2] at this;cases this
theorem Yo {l:List File} :Y1 l=true↔l.length≤60∧(∀f∈l,Y3 f=true)∧l.Pairwise fun a b=>jdv a b=true:=by
 simp[Y1,and_assoc]
theorem jj5 {l:List File} :Y1 l=(decide (l.length≤60)&&l.all Y3&&jd3 l.length (Xp jdv l)):=by
 rw[Bool.eq_iff_iff];simp only[Y1,Bool.and_eq_true,decide_eq_true_eq,List.all_eq_true,Wq];constructor
 ·rintro⟨h1,h2⟩;exact⟨h1,fun i hi=>jcs h2 i hi⟩
 ·rintro⟨h1,h2⟩;exact⟨h1,jcw (fun a ha b hb c hc h h'=>jjm (h1.2 a ha) (h1.2 b hb) (h1.2 c hc) h h') h2⟩
theorem jif {l:List File} (h:Y1 l=true) (p:File→Bool):Y1 (l.filter p)=true:=by
 obtain⟨h1,h2,h3⟩:=Yo.1 h;exact Yo.2 ⟨Nat.le_trans (List.length_filter_le _ _) h1,fun f hf=>h2 f (List.mem_filter.1 hf).1,h3.filter p⟩
section
variable {α:Type} {lt:α→Bool} {x:α} {l:List α} {k:Nat}
theorem jih (h: ∀i (hi:i<l.length),i<k→lt l[i]=true) (hk:k≤l.length) (hn: ∀(hi:k<l.length),lt l[k]=false):l.takeWhile lt=l.take k∧l.dropWhile lt=l.drop k:=by
 induction l generalizing k with
 |nil=>simp
 |cons y l ih=>
  cases k with
  |zero=>
   have h0:=hn (by simp);simp only[List.getElem_cons_zero] at h0;simp[h0]
  |succ k=>
   have h0:=h 0 (by simp) (by omega);simp only[List.getElem_cons_zero] at h0;have:=ih (k:=k) (fun i hi hlt=>h (i+1) (Nat.succ_lt_succ hi) (by omega)) (by simpa using hk) (fun hi=>hn (Nat.succ_lt_succ hi));simp[h0,this.1,this.2]
theorem jck (h: ∀i (hi:i<l.length),i<k→lt l[i]=true) (hk:k≤l.length) (hn: ∀(hi:k<l.length),lt l[k]=false):Zm lt x l=l.take k++x::l.drop k:=by
 obtain⟨h1,h2⟩:=jih h hk hn;rw[Zm,h1,h2]
theorem jaw:(Zm lt x l).length=l.length+1:=by
 have:=congrArg List.length (List.takeWhile_append_dropWhile (p:=lt) (l:=l));simp only[List.length_append] at this;simp only[Zm,List.length_append,List.length_cons];omega
theorem jfo {y:α} :y∈Zm lt x l↔y=x∨y∈l:=by
 have h:y∈l↔y∈l.takeWhile lt∨y∈l.dropWhile lt:=by rw[←List.mem_append,List.takeWhile_append_dropWhile]
 simp only[Zm,List.mem_append,List.mem_cons,h];exact or_left_comm
end
def atB {α:Type} (p:α→Bool) (l:List α) (i:Nat):Bool:=match l[i]? with
 |some a=>p a
 |none=>true
theorem Z7 {α:Type} {p:α→Bool} {l:List α} {i:Nat} (h:i<l.length):atB p l i=p l[i]:=by
 unfold atB;rw[List.getElem?_eq_getElem h]
theorem jal {α:Type} (p:α→Bool) (l:List α):jd3 l.length (atB p l)=l.all p:=by
 rw[Bool.eq_iff_iff,Wq,List.all_eq_true];constructor
 ·intro h x hx;obtain⟨i,hi,rfl⟩:=List.mem_iff_getElem.1 hx;have:=h i hi;rwa [Z7 hi] at this
 ·intro h i hi;rw[Z7 hi];exact h _ (List.getElem_mem hi)
theorem jbk (n:Nat) (f g:Nat→Bool):jd3 n (fun i=>f i&&g i)=(jd3 n f&&jd3 n g):=by
 rw[Bool.eq_iff_iff,Bool.and_eq_true,Wq,Wq,Wq];constructor
 ·intro h;exact⟨fun i hi=>(Bool.and_eq_true_iff.1 (h i hi)).1,fun i hi=>(Bool.and_eq_true_iff.1 (h i hi)).2⟩
 ·rintro⟨h1,h2⟩ i hi;exact Bool.and_eq_true_iff.2 ⟨h1 i hi,h2 i hi⟩
theorem jg6 {n:Nat} {f g:Nat→Bool} (h: ∀i,i<n→f i=g i):jd3 n f=jd3 n g:=by
 rw[Bool.eq_iff_iff,Wq,Wq];exact⟨fun k i hi=>by rw[←h i hi];exact k i hi,fun k i hi=>by rw[h i hi];exact k i hi⟩
theorem jmi {α:Type} (R S:α→α→Bool) (l:List α) (i:Nat):Xp (fun a b=>R a b&&S a b) l i=(Xp R l i&&Xp S l i):=by
 cases i with
 |zero=>rfl
 |succ j=>
  simp only[Xp];generalize l[j]? =x;generalize l[j+1]? =y;cases x<;>cases y<;>simp
def je7 (l:List File) (i:Nat):Bool:=atB Y3 l i&&Xp (fun a b=>bLt a.path b.path) l i
def jql (l:List File) (i:Nat):Bool:=Xp (fun a b=> !Jq a.path b.path) l i
def jpl (l:List File) (i:Nat):Bool:=atB (fun f=> !((l.take i).any fun g=>Jq g.path f.path)) l i
theorem jn2 {l:List File} (h:0<l.length):je7 l 0=Y3 l[0]:=by
 unfold je7;rw[Z7 h];simp[Xp]
theorem jn3 {l:List File} {j:Nat} (h:j+1<l.length):je7 l (j+1)=(Y3 l[j+1]&&bLt l[j].path l[j+1].path):=by
 unfold je7;rw[Z7 h,W6 h]
theorem jig {l:List File} {j:Nat} (h:j+1<l.length):jql l (j+1)= !Jq l[j].path l[j+1].path:=by
 unfold jql;rw[W6 h]
theorem jhb {l:List File} {i:Nat} (h:i<l.length):jpl l i= !((l.take i).any fun g=>Jq g.path l[i].path):=by
 unfold jpl;rw[Z7 h]
theorem jbu (l:List File):Y1 l=(decide (l.length≤60)&&jd3 l.length (je7 l)&&jd3 l.length (jql l)):=by
 rw[jj5];have e1:jd3 l.length (je7 l)=(l.all Y3&&jd3 l.length (Xp (fun a b=>bLt a.path b.path) l)):=by
  rw[←jal,←jbk];rfl
 have e2:jd3 l.length (Xp jdv l)=(jd3 l.length (Xp (fun a b=>bLt a.path b.path) l)&&jd3 l.length (jql l)):=by
  rw[←jbk];exact jg6 fun i _=>jmi _ _ l i
 rw[e1,e2];simp only[Bool.and_assoc]
theorem jbv (l:List File):Y1 l=(decide (l.length≤60)&&jd3 l.length fun i=>je7 l i&&jpl l i):=by
 rw[Bool.eq_iff_iff];constructor
 ·intro h;have h1:=(Yo.1 h).1;have h3:=(Yo.1 h).2.2;rw[jbu,Bool.and_eq_true,Bool.and_eq_true] at h;rw[jbk,Bool.and_eq_true,Bool.and_eq_true];refine⟨h.1.1,h.1.2,Wq.2 fun i hi=> ?_⟩;rw[jhb hi,Bool.not_eq_true',List.any_eq_false];intro x hx;obtain⟨j,hj,rfl⟩:=List.mem_take_iff_getElem.1 hx;have:=(List.pairwise_iff_getElem.1 h3) j i (by omega) hi (by omega)
  simp only[jdv,Bool.and_eq_true,Bool.not_eq_true'] at this;simp[this.2]
 ·intro h;rw[jbk,Bool.and_eq_true,Bool.and_eq_true] at h;rw[jbu,Bool.and_eq_true,Bool.and_eq_true];refine⟨⟨h.1,h.2.1⟩,Wq.2 fun i hi=> ?_⟩;cases i with
  |zero=>rfl
  |succ j=>
   have h3:=Wq.1 h.2.2 (j+1) hi;rw[jhb hi,Bool.not_eq_true',List.any_eq_false] at h3;have:=h3 l[j] (List.mem_take_iff_getElem.2 ⟨j,by omega,rfl⟩);rw[jig hi];simpa using this
theorem jmh {α β:Type} (f:α→β) (R:β→β→Bool) (l:List α) (i:Nat):Xp R (l.map f) i=Xp (fun a b=>R (f a) (f b)) l i:=by
 cases i with
 |zero=>rfl
 |succ j=>
  simp only[Xp,List.getElem?_map];generalize l[j]? =x;generalize l[j+1]? =y;cases x<;>cases y<;>rfl
theorem atB_map {α β:Type} (f:α→β) (p:β→Bool) (l:List α) (i:Nat):atB p (l.map f) i=atB (fun a=>p (f a)) l i:=by
 unfold atB;rw[List.getElem?_map];cases l[i]?<;>rfl
theorem atB_and {α:Type} (p q:α→Bool) (l:List α) (i:Nat):atB (fun a=>p a&&q a) l i=(atB p l i&&atB q l i):=by
 unfold atB;cases l[i]?<;>rfl
def jdl (l:List ByteArray) (i:Nat):Bool:=atB Y5 l i&&Xp bLt l i
theorem jdk (l:List ByteArray):jay l=jd3 l.length (jdl l):=by
 unfold jdl;rw[jbk,jal];unfold jay
 congr 1
 rw[Bool.eq_iff_iff,decide_eq_true_iff,Wq];exact⟨fun h i hi=>jcs h i hi,fun h=>jcw (fun a _ b _ c _ h h'=>jd2 h h') h⟩
def jd8 (l:List Ref) (i:Nat):Bool:=atB (fun x=>Y5 x.name&&Xv x) l i&&Xp (fun a b=>bLt a.name b.name) l i
theorem jmp {l:List Ref} (h:0<l.length):jd8 l 0=(Y5 l[0].name&&Xv l[0]):=by
 unfold jd8;rw[Z7 h];simp[Xp]
theorem jmq {l:List Ref} {j:Nat} (h:j+1<l.length):jd8 l (j+1)=(Y5 l[j+1].name&&Xv l[j+1]&&bLt l[j].name l[j+1].name):=by
 unfold jd8;rw[Z7 h,W6 h]
theorem jip (u:Int) (p:Xq):repoOk u p=(inB p.Az 1 u&&J5 p.Uz&&decide (p.Fz.length≤3)&&jd3 p.Fz.length (jd8 p.Fz)):=by
 have e:jd3 p.Fz.length (jd8 p.Fz)=(p.Fz.all Xv&&jay (p.Fz.map (·.name))):=by
  rw[jdk,List.length_map,←jal,←jbk];refine jg6 fun i _=> ?_;unfold jd8 jdl;rw[atB_and,atB_map,jmh];cases atB (fun a=>Y5 a.name) p.Fz i<;>cases atB Xv p.Fz i<;>simp
 rw[e];unfold repoOk;generalize p.Fz.all Xv=b1;generalize jay (p.Fz.map (·.name))=b2;generalize inB p.Az 1 u=b3;generalize J5 p.Uz=b4;generalize decide (p.Fz.length≤3)=b5;cases b1<;>cases b2<;>cases b3<;>cases b4<;>cases b5<;>rfl
theorem Zi {l:List Yt} :J5 l=true↔l.length≤6∧(∀r∈l,jac r=true)∧l.Nodup:=by
 unfold J5;simp only[Bool.and_eq_true,decide_eq_true_eq,Wq];constructor
 ·rintro⟨h1,h2⟩;refine⟨h1,fun r hr=> ?_, ?_⟩
  ·obtain⟨i,hi,rfl⟩:=List.mem_iff_getElem.1 hr;have:=h2 i hi;rw[jdh hi,Bool.and_eq_true] at this;exact this.1
  ·rw[List.nodup_iff_pairwise_ne,List.pairwise_iff_getElem];intro i j hi hj hlt e;have:=h2 j hj;rw[jdh hj,Bool.and_eq_true,Bool.not_eq_true',List.any_eq_false] at this;have h3:=this.2 l[i] (List.mem_take_iff_getElem.2 ⟨i,by omega,rfl⟩);simp[e] at h3
 ·rintro⟨h1,h2,h3⟩;refine⟨h1,fun i hi=> ?_⟩;rw[jdh hi,h2 _ (List.getElem_mem hi),Bool.true_and,Bool.not_eq_true',List.any_eq_false];intro x hx;obtain⟨j,hj,rfl⟩:=List.mem_take_iff_getElem.1 hx;rw[List.nodup_iff_pairwise_ne,List.pairwise_iff_getElem] at h3;have:=h3 j i (by omega) hi (by omega);simp[this]
theorem jhi {l:List Yt} (h:J5 l=true) (r:Yt):J5 (Yy l r)=true:=by
 obtain⟨h1,h2,h3⟩:=Zi.1 h;exact Zi.2 ⟨Nat.le_trans (List.length_filter_le _ _) h1,fun x hx=>h2 x (List.mem_filter.1 hx).1,h3.filter _⟩
theorem jhh {l:List Yt} {r:Yt} (h:Zc l r=true):J5 (Yk l r)=true∧Yk l r=l++ [r]∧r∉l:=by
 have e:Yk l r=l++ [r]:=by unfold Yk;rw[h];rfl
 unfold Zc at h;simp only[Bool.and_eq_true,Bool.not_eq_true',decide_eq_false_iff_not,List.any_eq_false,decide_eq_true_eq] at h;obtain⟨⟨⟨h1,h2⟩,h3⟩,h4⟩:=h;have hn:r∉l:=fun hm=>h4 r hm rfl;obtain⟨k1,k2,k3⟩:=Zi.1 h1;refine⟨?_,e,hn⟩;rw[e];refine Zi.2 ⟨by simp;omega,fun x hx=> ?_, ?_⟩
 ·rcases List.mem_append.1 hx with hx|hx
  ·exact k2 x hx
  ·rw[List.mem_singleton.1 hx];exact h2
 ·refine List.nodup_append.2 ⟨k3,by simp,fun a ha b hb e=> ?_⟩;rw[List.mem_singleton.1 hb] at e;subst e;exact hn ha
def asc {α:Type} (key:α→ByteArray) (l:List α):Prop:=l.Pairwise fun a b=>bLt (key a) (key b)=true
section
variable {α:Type} {key:α→ByteArray} {l:List α} {x:α}
theorem jpe:asc key l↔(l.map key).Pairwise fun a b=>bLt a b=true:=by unfold asc;rw[List.pairwise_map]
theorem jju (h:asc key l) (hn: ∀y∈l,key y≠key x):asc key (Zm (fun g=>bLt (key g) (key x)) x l):=by
 induction l with
 |nil=>simp[Zm,asc]
 |cons y l ih=>
  obtain⟨h1,h2⟩:=List.pairwise_cons.1 h;cases hb:bLt (key y) (key x)
  ·have e:Zm (fun g=>bLt (key g) (key x)) x (y::l)=x::y::l:=by simp[Zm,hb]
   have hx:=jpd hb (hn y (by simp));rw[e];refine List.pairwise_cons.2 ⟨fun z hz=> ?_,h⟩;rcases List.mem_cons.1 hz with rfl|hz
   ·exact hx
   ·exact jd2 hx (h1 z hz)
  ·have e:Zm (fun g=>bLt (key g) (key x)) x (y::l)=y::Zm (fun g=>bLt (key g) (key x)) x l:=by simp[Zm,hb]
   rw[e];refine List.pairwise_cons.2 ⟨fun z hz=> ?_,ih h2 fun z hz=>hn z (by simp[hz])⟩;rcases jfo.1 hz with rfl|hz
   ·exact hb
   ·exact h1 z hz
theorem jjv (h:asc key l) (k:Nat):asc key (l.eraseIdx k):=h.sublist (List.eraseIdx_sublist _ _)
theorem jln {k:Nat} (h:asc key l) (hk:k<l.length) (he:key x=key l[k]):asc key (l.set k x):=by
 rw[jpe] at*;rw[List.map_set,he,show key l[k]=(l.map key)[k]'(by simpa using hk) by simp,List.set_getElem_self];exact h
theorem jl8 {name:ByteArray} (h:l.findIdx? (fun y=>decide (key y=name))=none): ∀y∈l,key y≠name:=fun y hy e=>by
 have:=List.findIdx?_eq_none_iff.1 h y hy;simp[e] at this
theorem je8 {name:ByteArray} {k:Nat} (h:l.findIdx? (fun y=>decide (key y=name))=some k): ∃hk:k<l.length,key l[k]=name:=by
 obtain⟨hk,hp,_⟩:=List.findIdx?_eq_some_iff_getElem.1 h;exact⟨hk,by simpa using hp⟩
theorem jjk: ∀(l out:List α),asc key (out++l)→l.foldl (fun o f=>Zm (fun g=>bLt (key g) (key f)) f o) out=out++l
 | [],out,_=>by simp
 |f::l,out,h=>by
  have h1: ∀y∈out,bLt (key y) (key f)=true:=fun y hy=>(List.pairwise_append.1 h).2.2 y hy f (by simp);have e:Zm (fun g=>bLt (key g) (key f)) f out=out++ [f]:=by
   have:=(jck (lt:=fun g=>bLt (key g) (key f)) (x:=f) (l:=out) (k:=out.length) (fun i hi _=>h1 _ (List.getElem_mem hi)) nle (fun hi=>absurd hi (Nat.lt_irrefl _)));simpa using this
  rw[List.foldl_cons,e,jjk l (out++ [f]) (by simpa using h)];simp
end
theorem jn1 {l:List File} (h:Y1 l=true):asc File.path l:=(Yo.1 h).2.2.imp fun h=>(Bool.and_eq_true_iff.1 h).1
theorem jnz {l o:List File} {e:Wz} (h:asc File.path l) (ht:Zf l e=some o):asc File.path o:=by
 unfold Zf at ht;cases hi:jbj l e.path with
 |none=>
  rw[hi] at ht;simp only at ht;split at ht
  ·cases ht
  ·cases ht;exact jju (key:=File.path) (x:=⟨e.path,e.bytes⟩) h (jl8 (key:=File.path) hi)
 |some k=>
  rw[hi] at ht;simp only at ht;obtain⟨hk,he⟩:=je8 (key:=File.path) hi;split at ht
  ·split at ht
   ·cases ht;exact jjv h k
   ·cases ht
  ·cases ht;exact jln (key:=File.path) h hk he.symm
theorem jie {l o:List File} {e:Wz} (ht:Zf l e=some o):o.length≤l.length+1:=by
 unfold Zf at ht;cases hi:jbj l e.path with
 |none=>
  rw[hi] at ht;simp only at ht;split at ht
  ·cases ht
  ·cases ht;rw[jaw];exact Nat.le_refl _
 |some k=>
  rw[hi] at ht;simp only at ht;split at ht
  ·split at ht
   ·cases ht;have:=List.length_eraseIdx_le l k;omega
   ·cases ht
  ·cases ht;simp
theorem jnx {l o:List File} {e:Wz} (ht:Zf l e=some o) {f:File} (hf:f∈o):f=⟨e.path,e.bytes⟩∨f∈l:=by
 unfold Zf at ht;cases hi:jbj l e.path with
 |none=>
  rw[hi] at ht;simp only at ht;split at ht
  ·cases ht
  ·cases ht;exact jfo.1 hf
 |some k=>
  rw[hi] at ht;simp only at ht;split at ht
  ·split at ht
   ·cases ht;exact .inr ((List.eraseIdx_sublist l k).subset hf)
   ·cases ht
  ·cases ht;exact(List.mem_or_eq_of_mem_set hf).symm
theorem jbs {l o:List File} {es:List Wz} (h:Yu l es=some o):Y1 o=true:=by
 unfold Yu at h;split at h
 ·split at h
  ·cases h
  ·split at h
   ·cases h;assumption
   ·cases h
 ·cases h
def code (n:Int):Ans:=⟨n,[],[],0⟩
def look (p:Xq) (r:Req):Ans:=if Wt p.Uz r.user r.ref then
  match Y7 p.Fz r.ref with
  |none=>code 5
  |some k=>match version (p.Fz.getD k Y8).Vz r.back with
   |none=>code 7
   |some l=>⟨1,readable p.Uz r.user r.ref (Yq l r.path),[],(p.Fz.getD k Y8).count⟩
 else code 4
def jad (p:Xq) (r:Req):Ans:=⟨1,[],(p.Fz.map (·.name)).filter fun n=>Wt p.Uz r.user n,0⟩
def manage (p:Xq) (r:Req):Xq×Int:=
 if r.kind=4 then(if p.Uz.length=6 then(p,9) else if Zc p.Uz r.rule then({ p with Uz:=Yk p.Uz r.rule},1) else(p,7))
 else if r.kind=5 then(if(Yy p.Uz r.rule).length<p.Uz.length then({ p with Uz:=Yy p.Uz r.rule},1) else(p,7))
 else match Y7 p.Fz r.ref with
  |none=>
   if r.kind=6 then(if r.ref=ByteArray.empty then(p,7) else if p.Fz.length=3 then(p,9) else({ p with Fz:=Zm (fun x=>bLt x.name r.ref) ⟨r.ref,false,0,[[]]⟩ p.Fz},1))
   else(p,5)
  |some k=>
   if r.kind=6 then(p,7)
   else if r.kind=8 then({ p with Fz:=p.Fz.set k { p.Fz.getD k Y8 with guard:= !(p.Fz.getD k Y8).guard}},1)
   else if(p.Fz.getD k Y8).guard then(p,8)
   else({ p with Fz:=p.Fz.eraseIdx k},1)
def Yi (m:Jl) (p:Xq) (r:Req):Bool:=
 if r.kind=1 then decide (0<r.Ez.length)&&r.Ez.all fun e=>Yz p.Uz r.user r.ref e.path true
 else Yz p.Uz r.user r.ref ByteArray.empty true&&(decide (r.kind=9)||(match m.Rz[r.frm.toNat]? with
  |none=>false
  |some q=>Yz q.Uz r.user r.other ByteArray.empty false))
def newest (m:Jl) (x:Ref) (r:Req):List File×Int:=
 if r.kind=1 then(match version x.Vz 0 with
  |none=>([],7)
  |some l=>match Yu l r.Ez with
   |none=>([],7)
   |some o=>(o,1))
 else if r.kind=9 then(if x.guard then([],8) else match version x.Vz r.back with
  |none=>([],7)
  |some l=>(l,1))
 else match Xn m r.frm r.other 0 with
  |none=>([],7)
  |some l=>(l,1)
def jgu (l:List (List File)):List (List File):=l.drop (l.length - 3)
def jpm (m:Jl) (p:Xq) (k:Nat) (r:Req) (files:List File):Jl:=
 let x:=p.Fz.getD k Y8
 { m with
  used:=m.used.set (r.user - 1).toNat (m.used.getD (r.user - 1).toNat 0+Yg r.Ez)
  Rz:=m.Rz.set r.repo.toNat { p with Fz:=p.Fz.set k { x with count:=x.count+1,Vz:=jgu (x.Vz++ [files])}}}
def write (m:Jl) (p:Xq) (r:Req):Jl×Int:=
 if Yi m p r then
  match Y7 p.Fz r.ref with
  |none=>(m,5)
  |some k=>
   if(p.Fz.getD k Y8).count≠r.old then(m,6)
   else if(p.Fz.getD k Y8).count=14 then(m,9)
   else if(newest m (p.Fz.getD k Y8) r).2≠1 then(m,(newest m (p.Fz.getD k Y8) r).2)
   else if m.used.getD (r.user - 1).toNat 0+Yg r.Ez > 200 then(m,10)
   else(jpm m p k r (newest m (p.Fz.getD k Y8) r).1,1)
 else(m,4)
def Zn (m:Jl) (r:Req):Jl×Ans:=
 if knows m.keys r.user r.key then
  if r.kind=11 then(m,⟨1,[],[],m.used.getD (r.user - 1).toNat 0⟩)
  else match m.Rz[r.repo.toNat]? with
   |none=>(m,code 3)
   |some p=>
    if r.kind=2 then(m,look p r)
    else if r.kind=3 then(m,jad p r)
    else if Vs r then((write m p r).1,code (write m p r).2)
    else if r.user≠p.Az then(m,code 4)
    else({ m with Rz:=m.Rz.set r.repo.toNat (manage p r).1},code (manage p r).2)
 else(m,code 2)
def jai (m:Jl) (r:Req):Jl×Ans:=if Ys m=true∧Yw r=true then Zn m r else(⟨[],[],[]⟩,⟨0,[],[],0⟩)
theorem jap {n lo hi:Int} :inB n lo hi=true↔lo≤n∧n≤hi:=by simp[inB]
theorem Jo {m:Jl} :Ys m=true↔usersOk m.keys m.used=true∧(1≤(m.Rz.length:Int)∧(m.Rz.length:Int)≤3)∧∀p∈m.Rz,repoOk m.keys.length p=true:=by
 simp[Ys,jap,and_assoc]
theorem J8 {keys used:List Int} :usersOk keys used=true↔(1≤(keys.length:Int)∧(keys.length:Int)≤4)∧used.length=keys.length∧(∀n∈keys,1≤n∧n≤9999)∧∀n∈used,0≤n∧n≤200:=by
 simp[usersOk,jap,and_assoc]
theorem jkm {l:List ByteArray} :jay l=true↔(∀n∈l,Y5 n=true)∧l.Pairwise fun a b=>bLt a b=true:=by
 simp[jay]
theorem Yj {u:Int} {p:Xq} :repoOk u p=true↔(∀x∈p.Fz,Xv x=true)∧(∀x∈p.Fz,Y5 x.name=true)∧asc Ref.name p.Fz∧(1≤p.Az∧p.Az≤u)∧J5 p.Uz=true∧p.Fz.length≤3:=by
 simp[repoOk,jkm,jap,jpe,and_assoc]
theorem Z2 {x:Ref} :Xv x=true↔(0≤x.count∧x.count≤14)∧(1≤(x.Vz.length:Int)∧(x.Vz.length:Int)≤3)∧∀l∈x.Vz,Y1 l=true:=by
 simp[Xv,jap,and_assoc]
theorem jio {r:Req} (h:Yw r=true):r.ref=ByteArray.empty∨Y5 r.ref=true:=by
 simp only[Yw,Bool.and_eq_true] at h;simpa [refFits] using h.1.1.1.1.1.2
theorem jmn {r:Req} (h:Yw r=true):(0≤r.user∧r.user≤99)∧(0≤r.repo∧r.repo≤99)∧(0≤r.old∧r.old≤99)∧(0≤r.back∧r.back≤99)∧(0≤r.frm∧r.frm≤99):=by
 simp only[Yw,Bool.and_eq_true,jap] at h;exact⟨h.1.1.1.1.1.1.1.1.1.1.1.1,h.1.1.1.1.1.1.1.1.1.1.1.2,h.1.1.1.1.1.1.1.1.1.1.2,h.1.1.1.1.1.1.1.1.1.2,h.1.1.1.1.1.1.1.1.2⟩
theorem jkd {r:Req} (h:Yw r=true):r.Ez.length≤4∧∀e∈r.Ez,editOk e=true:=by
 simp only[Yw,Bool.and_eq_true,decide_eq_true_eq,Bool.not_eq_true',List.any_eq_false] at h;exact⟨h.1.2,fun e he=>by have:=h.2 e he;simpa using this⟩
theorem jp3 {α:Type} {l:List α} {k:Nat} {z:α} (h:k<l.length):l.getD k z∈l:=by
 rw[List.getD_eq_getElem?_getD,List.getElem?_eq_getElem h];exact List.getElem_mem h
theorem J4 {α:Type} {l:List α} {k:Nat} {z:α} (h:k<l.length):l.getD k z=l[k]:=by rw[List.getD_eq_getElem?_getD,List.getElem?_eq_getElem h];rfl
theorem ja5 {vs:List (List File)} {b:Int} {l:List File} (h:version vs b=some l):l∈vs:=by
 unfold version at h;split at h
 ·exact List.mem_of_getElem? h
 ·cases h
theorem jk4 {m:Jl} {repo back:Int} {name:ByteArray} {l:List File} (h:Xn m repo name back=some l): ∃p∈m.Rz,∃x∈p.Fz,x.name=name∧version x.Vz back=some l:=by
 unfold Xn at h;split at h
 ·split at h
  ·cases h
  ·rename_i p hp
   split at h
   ·cases h
   ·rename_i k hk
    obtain⟨hk',he⟩:=je8 (key:=Ref.name) hk;rw[J4 hk'] at h;exact⟨p,List.mem_of_getElem? hp,_,List.getElem_mem hk',he,h⟩
 ·cases h
theorem jg3 {m:Jl} {repo back:Int} {name:ByteArray} {l:List File} (hm:Ys m=true) (h:Xn m repo name back=some l):Y1 l=true:=by
 obtain⟨p,hp,x,hx,_,hv⟩:=jk4 h;exact(Z2.1 ((Yj.1 ((Jo.1 hm).2.2 p hp)).1 x hx)).2.2 l (ja5 hv)
theorem jiv {m:Jl} {x:Ref} {r:Req} (hm:Ys m=true) (hx:Xv x=true) (h:(newest m x r).2=1):Y1 (newest m x r).1=true:=by
 unfold newest at h ⊢;split at h
 ·rename_i h1
  rw[if_pos h1];cases hv:version x.Vz 0 with
  |none=>rw[hv] at h;cases h
  |some l=>
   rw[hv] at h;simp only at h ⊢;cases ht:Yu l r.Ez with
   |none=>rw[ht] at h;cases h
   |some o=>exact jbs ht
 ·rename_i h1
  rw[if_neg h1];split at h
  ·rename_i h2
   rw[if_pos h2];split at h
   ·cases h
   ·rename_i h3
    rw[if_neg h3];cases hv:version x.Vz r.back with
    |none=>rw[hv] at h;cases h
    |some l=>exact(Z2.1 hx).2.2 l (ja5 hv)
  ·rename_i h2
   rw[if_neg h2];cases hf:Xn m r.frm r.other 0 with
   |none=>rw[hf] at h;cases h
   |some l=>exact jg3 hm hf
theorem jbc {u:Int} {p:Xq} (h:repoOk u p=true) {l:List Ref} (h1: ∀x∈l,Xv x=true∧Y5 x.name=true) (h2:asc Ref.name l) (h3:l.length≤3):repoOk u { p with Fz:=l} =true:=by
 have k:=Yj.1 h;exact Yj.2 ⟨fun x hx=>(h1 x hx).1,fun x hx=>(h1 x hx).2,h2,k.2.2.2.1,k.2.2.2.2.1,h3⟩
theorem jen {u:Int} {p:Xq} (h:repoOk u p=true) {l:List Yt} (h1:J5 l=true):repoOk u { p with Uz:=l} =true:=by
 have k:=Yj.1 h;exact Yj.2 ⟨k.1,k.2.1,k.2.2.1,k.2.2.2.1,h1,k.2.2.2.2.2⟩
theorem Zq {u:Int} {p:Xq} (h:repoOk u p=true) {x:Ref} (hx:x∈p.Fz):Xv x=true∧Y5 x.name=true:=⟨(Yj.1 h).1 x hx,(Yj.1 h).2.1 x hx⟩
theorem jn0:Y1 []=true:=by decide
theorem joo {u:Int} {p:Xq} {r:Req} (h:repoOk u p=true) (hr:Yw r=true):repoOk u (manage p r).1=true:=by
 unfold manage;split
 ·split
  ·exact h
  ·split
   ·rename_i hp;exact jen h (jhh hp).1
   ·exact h
 ·split
  ·split
   ·exact jen h (jhi (Yj.1 h).2.2.2.2.1 _)
   ·exact h
  ·split
   ·rename_i hn
    split
    ·split
     ·exact h
     ·rename_i he
      split
      ·exact h
      ·rename_i h3
       have hl:=(Yj.1 h).2.2.2.2.2;refine jbc h (fun x hx=> ?_) (jju (key:=Ref.name) (x:=⟨r.ref,false,0,[[]]⟩) (Yj.1 h).2.2.1 (jl8 (key:=Ref.name) hn)) (by rw[jaw];omega);rcases jfo.1 hx with rfl|hx
       ·exact⟨Z2.2 ⟨by simp,by simp,fun l hl=>by rw[List.mem_singleton.1 hl];exact jn0⟩,(jio hr).resolve_left he⟩
       ·exact Zq h hx
    ·exact h
   ·rename_i k hk
    obtain⟨hk',he⟩:=je8 (key:=Ref.name) hk;have hl:=(Yj.1 h).2.2.2.2.2;split
    ·exact h
    ·split
     ·rw[J4 hk'];refine jbc h (fun x hx=> ?_) (jln (key:=Ref.name) (Yj.1 h).2.2.1 hk' rfl) (by simpa using hl);rcases List.mem_or_eq_of_mem_set hx with hx|rfl
      ·exact Zq h hx
      ·have:=Zq h (List.getElem_mem hk');exact⟨Z2.2 (Z2.1 this.1),this.2⟩
     ·split
      ·exact h
      ·refine jbc h (fun x hx=>Zq h ((List.eraseIdx_sublist p.Fz k).subset hx)) (jjv (Yj.1 h).2.2.1 k) ?_;have:=List.length_eraseIdx_le p.Fz k;omega
theorem jht (l:List (List File)):(jgu l).length=min l.length 3:=by unfold jgu;rw[List.length_drop];omega
theorem jm2 {l:List (List File)} {x:List File} (h:x∈jgu l):x∈l:=List.mem_of_mem_drop h
theorem jgs {m:Jl} {k:Nat} {p:Xq} (hm:Ys m=true) (hp:repoOk m.keys.length p=true):Ys { m with Rz:=m.Rz.set k p} =true:=by
 obtain⟨h1,h2,h3⟩:=Jo.1 hm;refine Jo.2 ⟨h1,by simpa using h2,fun q hq=> ?_⟩;rcases List.mem_or_eq_of_mem_set hq with hq|rfl
 ·exact h3 q hq
 ·exact hp
theorem jmx {m:Jl} {k:Nat} {n:Int} (hm:Ys m=true) (h0:0≤n) (h1:n≤200):Ys { m with used:=m.used.set k n} =true:=by
 obtain⟨k1,k2,k3⟩:=Jo.1 hm;obtain⟨u1,u2,u3,u4⟩:=J8.1 k1;refine Jo.2 ⟨J8.2 ⟨u1,by simpa using u2,u3,fun x hx=> ?_⟩,k2,k3⟩;rcases List.mem_or_eq_of_mem_set hx with hx|rfl
 ·exact u4 x hx
 ·exact⟨h0,h1⟩
theorem jj4 {m:Jl} (hm:Ys m=true) (k:Nat):0≤m.used.getD k 0:=by
 by_cases h:k<m.used.length
 ·exact((J8.1 (Jo.1 hm).1).2.2.2 _ (jp3 h)).1
 ·rw[List.getD_eq_getElem?_getD,List.getElem?_eq_none (by omega)];exact Int.le_refl 0
theorem laid_ok {m:Jl} {p:Xq} {k:Nat} {r:Req} {files:List File} (hm:Ys m=true) (hp:repoOk m.keys.length p=true) (hk:k<p.Fz.length) (hf:Y1 files=true) (hc:(p.Fz.getD k Y8).count≠14)
  (hu: ¬m.used.getD (r.user - 1).toNat 0+Yg r.Ez > 200):Ys (jpm m p k r files)=true:=by
 have hx:=Zq hp (List.getElem_mem hk);rw[J4 hk] at hc;obtain⟨c1,c2,c3⟩:=Z2.1 hx.1;have hl:=(Yj.1 hp).2.2.2.2.2;have h0:=jj4 hm (r.user - 1).toNat;refine jgs (m:= { m with used:=m.used.set (r.user - 1).toNat (m.used.getD (r.user - 1).toNat 0+Yg r.Ez)}) (jmx hm (by omega) (by omega)) ?_
 refine jbc hp (fun x hx'=> ?_) (jln (key:=Ref.name) (Yj.1 hp).2.2.1 hk (by rw[J4 hk])) (by simpa using hl);rcases List.mem_or_eq_of_mem_set hx' with hx'|rfl
 ·exact Zq hp hx'
 ·rw[J4 hk];refine⟨Z2.2 ⟨⟨by simp only;omega,by simp only;omega⟩, ?_,fun l hl=> ?_⟩,hx.2⟩
  ·simp only[jht,List.length_append,List.length_singleton];omega
  ·rcases List.mem_append.1 (jm2 hl) with hl|hl
   ·exact c3 l hl
   ·rw[List.mem_singleton.1 hl];exact hf
theorem jpo {m:Jl} {p:Xq} {r:Req} (hm:Ys m=true) (hp:repoOk m.keys.length p=true):Ys (write m p r).1=true:=by
 unfold write;split
 ·split
  ·exact hm
  ·rename_i k hk
   obtain⟨hk',_⟩:=je8 (key:=Ref.name) hk;split
   ·exact hm
   ·split
    ·exact hm
    ·rename_i hc
     split
     ·exact hm
     ·rename_i hn
      split
      ·exact hm
      ·rename_i hu
       refine laid_ok hm hp hk' (jiv hm ?_ (by simpa using hn)) hc hu;rw[J4 hk'];exact(Zq hp (List.getElem_mem hk')).1
 ·exact hm
theorem jh2 {m:Jl} {r:Req} (hm:Ys m=true) (hr:Yw r=true):Ys (Zn m r).1=true:=by
 unfold Zn;split
 ·split
  ·exact hm
  ·split
   ·exact hm
   ·rename_i p hp
    have hp':=(Jo.1 hm).2.2 p (List.mem_of_getElem? hp);split
    ·exact hm
    ·split
     ·exact hm
     ·split
      ·exact jpo hm hp'
      ·split
       ·exact hm
       ·exact jgs hm (joo hp' hr)
 ·exact hm
theorem jhr {m:Jl} {r:Req} (h:Ys m=true∧Yw r=true):jai m r=Zn m r:=if_pos h
theorem jdn {m:Jl} {r:Req} (h: ¬(Ys m=true∧Yw r=true)):jai m r=(⟨[],[],[]⟩,⟨0,[],[],0⟩):=if_neg h
theorem Cells.put {w:World} {b o:Nat} {cs:List Value} (h:Cells w b o cs) {j:Nat} (hj:j<cs.length) (v:Value):Cells (w.setCell ⟨b,o+j,none⟩ v) b o (cs.set j v):=fun i u hu=>by
 by_cases e:j=i
 ·subst e;rw[List.getElem?_set_self hj] at hu;cases hu;exact World.cell?_setCell_same w _ _ (h j cs[j] (List.getElem?_eq_getElem hj))
 ·rw[List.getElem?_set_ne e] at hu;rw[World.cell?_setCell_other _ _ _ _ (by simp only[ne_eq,Addr.mk.injEq];omega)];exact h i u hu
theorem Blk.new' {w:World} {H:Nat} (hH:w.heap.size=H) (t:TypeId) (cs:Array Value):Blk (w.alloc (.cells cs t)) H t cs:=by subst hH;exact Blk.new w t cs
def Clear (w:World) (fp fp':List Nat) (w':World):Prop:=∀z cur,w'.heap[z]? =some (.cells cur 37 (0,0))→z<w.heap.size→z∉fp→z∉fp'
def jeh (w:World) (b o:Nat) (f:List Nat) (p':Xq) (k:Int) (e:Ending) (w':World):Prop:=
 e= .returned (.int .i64 k)∧∃cr' f',Cells w' b o cr'∧Rp.repo.R w' cr' p' f'∧Clear w f f' w'∧(∀j,j<o∨o+3≤j→w'.cell? ⟨b,j,none⟩=w.cell? ⟨b,j,none⟩)∧Only (b::f) w w'
section
variable {w W:World} {b o:Nat} {cr:List Value} {p:Xq} {f:List Nat}
theorem V6 (k:Int) (hc:Cells w b o cr) (hp:Rp.repoO.R w cr p f) (hbl:b<w.heap.size) (hB:Below w.heap.size w W):jeh w b o f p k (.returned (.int .i64 k)) W:=by
 obtain⟨f',hf',hsub⟩:=jc5.2 _ _ _ _ (Rp.repoO.below hp hB nle);exact⟨rfl,cr,f',hc.keep (hB.block b hbl),hf',fun z _ _ _ hn hm=>hn (hsub.subset hm),fun j _=>World.cell?_of_block (a:=⟨b,j,none⟩) (hB.block b hbl),Only.of_below hB _⟩
theorem jdo (k:Int) {A:Option Addr} {n c:Nat} {l:List Yt} {fr:List Nat} (hc:Cells w b o cr) (hp:Rp.repoO.R w cr p f) (hbl:b<w.heap.size) (hbf:b∉f) (hB:Below w.heap.size w W)
  (hs:SlR Rp.rule W A n c l fr) (hl: ∀z∈fr,w.heap.size≤z):jeh w b o f { p with Uz:=l} k (.returned (.int .i64 k)) (W.setCell ⟨b,o+1,none⟩ (.slice A n c)):=by
 obtain⟨A0,n0,c0,f0,v,f1,rfl,rfl,h0,h1⟩:=hp;have h1W:=(h1.step hB).keep (w':=W.setCell ⟨b,o+1,none⟩ (.slice A n c)) fun z hz=>Below.heap_setCell _ _ _ _ (by rintro rfl;exact hbf (List.mem_append_right _ hz));obtain⟨A1,c1,f2,rfl,hs1,hsub1,_,_⟩:=h1W.sl;obtain⟨g,hg,hsub2⟩:=hs1.le jbl;have hcW:=(hc.keep (hB.block b hbl)).put (j:=1) (by simp) (.slice A n c)
 have hs':=hs.keep (w':=W.setCell ⟨b,o+1,none⟩ (.slice A n c)) fun z hz=>Below.heap_setCell _ _ _ _ (by rintro rfl;have:=hl _ hz;omega)
 refine⟨rfl,_,fr++g,hcW,⟨A,n,c,fr,A1,_,c1,g,rfl,rfl,hs',hg⟩,fun z _ _ hz hn hm=>(List.mem_append.1 hm).elim (fun h=>by have:=hl z h;omega) (fun h=>hn (List.mem_append_right _ (hsub1.subset (hsub2.subset h)))),fun j hj=> ?_,((Only.of_below hB _).setCell (.inl (by simp)) _)⟩;rw[World.cell?_setCell_other _ _ _ _ (by simp only[ne_eq,Addr.mk.injEq];omega)]
 exact World.cell?_of_block (a:=⟨b,j,none⟩) (hB.block b hbl)
theorem jhs (k:Int) {n c q g:Nat} {s0 s1:Value} (hc:Cells w b o [s0,s1,.slice (some ⟨g,q,none⟩) n c]) (hp:Rp.repoO.R w [s0,s1,.slice (some ⟨g,q,none⟩) n c] p f) (hn:f.Nodup) (hbl:b<w.heap.size) (hbf:b∉f) (hB:Below w.heap.size w W) {i:Nat} (hi:i<p.Fz.length):
  jeh w b o f { p with Fz:=p.Fz.set i { p.Fz[i] with guard:= !p.Fz[i].guard}} k (.returned (.int .i64 k)) (W.setCell ⟨g,q+i*4+1,none⟩ (.bool (!p.Fz[i].guard))):=by
 have hpW:=Rp.repoO.below hp hB nle;obtain⟨B0,m0,d0,g0,g',cap,cf,f3,he,hs0,hgf,hgl,hg3,hn3,hs3,hs30,hcf,hR,hcl⟩:=jhl hpW hn hi;simp only[List.cons.injEq,Value.slice.injEq,Option.some.injEq,Addr.mk.injEq,and_true] at he;obtain⟨_,_,⟨rfl,rfl⟩,rfl,rfl⟩:=he;have hgb:g≠b:=fun e=>hbf (e▸hgf);obtain⟨v,rfl,hO⟩:=hR;have hcf':=hcf.put (j:=1) (by simp) (.bool (!p.Fz[i].guard))
 have hO':=hO.keep (w':=W.setCell ⟨g,i*4+1,none⟩ (.bool (!p.Fz[i].guard))) fun z hz=>Below.heap_setCell _ _ _ _ (by rintro rfl;exact hg3 hz);obtain⟨f',hf',hsubf⟩:=jbl.2 _ _ _ _ (show Rp.refO.R _ [.string p.Fz[i].name,.bool (!p.Fz[i].guard),.int .i64 p.Fz[i].count,v] { p.Fz[i] with guard:= !p.Fz[i].guard} f3 from⟨v,rfl,hO'⟩)
 obtain⟨f'',hf'',hmf⟩:=hcl (W.setCell ⟨g,i*4+1,none⟩ (.bool (!p.Fz[i].guard))) _ _ f' (fun j hj=>World.cell?_setCell_other _ _ _ _ (by simp only[ne_eq,Addr.mk.injEq];omega)) (by simpa [World.setCell] using hgl) hcf' hf' (fun z _ hz _=>Below.heap_setCell _ _ _ _ hz);rw[Nat.zero_add]
 refine⟨rfl,_,f'',(hc.keep (hB.block b hbl)).keep (Below.heap_setCell _ _ _ _ (by exact fun e=>hgb e.symm)),hf'',fun z _ _ _ hn hm=>(hmf z hm).elim hn (fun h=>hn (hs3 z (hsubf.subset h))),fun j hj=> ?_,(Only.of_below hB _).setCell (.inl (by simp[hgf])) _⟩;rw[World.cell?_setCell_other _ _ _ _ (by simp only[ne_eq,Addr.mk.injEq];intro h;exact hgb h.1)]
 exact World.cell?_of_block (a:=⟨b,j,none⟩) (hB.block b hbl)
theorem jes (k:Int) {W2 Wi:World} {A:Option Addr} {n c:Nat} {l:List Ref} {fr:List Nat} {s0 s1 v:Value} {cur:Array Value} (hc:Cells w b o [s0,s1,v]) (hp:Rp.repoO.R w [s0,s1,v] p f) (hn:f.Nodup) (hbf:b∉f) (hbt:w.heap[b]? =some (.cells cur 48 (0,0)))
  (hB:Below w.heap.size w W2) (hg:W2.grownBy Wi v.ownBlock) (hs:SlR Rp.ref Wi A n c l fr) (hla: ∀z cur t,Wi.heap[z]? =some (.cells cur t (0,0))→t≠52→z<w.heap.size→z∉f→z∉fr):jeh w b o f { p with Fz:=l} k (.returned (.int .i64 k)) (Wi.setCell ⟨b,o+2,none⟩ (.slice A n c)):=by
 obtain⟨A0,n0,c0,f0,v',f1,he,rfl,h0,h1⟩:=hp;simp only[List.cons.injEq,and_true] at he;obtain⟨rfl,rfl,rfl⟩:=he;have hbl:b<w.heap.size:=(Array.getElem?_eq_some_iff.1 hbt).1;have hv: ∀z,v.ownBlock=some z→z∈f1:=fun z hz=>by
  obtain⟨xs,g1,_,_,rfl⟩:=h1;exact List.mem_append_left _ (by unfold Vm;rw[hz];simp)
 have hblk: ∀z,z<w.heap.size→z∉f1→Wi.heap[z]? =w.heap[z]? :=fun z hz hm=>(hg.block z (Nat.lt_of_lt_of_le hz hB.size) fun e=>hm (hv z e.symm)).trans (hB.block z hz);have hb':Wi.heap[b]? =w.heap[b]? :=hblk b hbl fun h=>hbf (List.mem_append_right _ h);have hd: ∀z∈f0,z∉f1:=fun z hz hm=>(List.nodup_append.1 hn).2.2 z hz z hm rfl;have hl:b∉fr:=hla b cur _ (hb'.trans hbt) (by decide) hbl hbf
 have h0':SlR Rp.rule (Wi.setCell ⟨b,o+2,none⟩ (.slice A n c)) A0 n0 c0 p.Uz f0:=(h0.keep fun z hz=>hblk z (h0.lt z hz) (hd z hz)).keep fun z hz=>Below.heap_setCell _ _ _ _ (by rintro rfl;exact hbf (List.mem_append_left _ hz));have hs':=hs.keep (w':=Wi.setCell ⟨b,o+2,none⟩ (.slice A n c)) fun z hz=>Below.heap_setCell _ _ _ _ (by rintro rfl;exact hl hz)
 have hcW:=(hc.keep hb').put (j:=2) (by simp) (.slice A n c);have hcl:Clear w (f0++f1) (f0++fr) (Wi.setCell ⟨b,o+2,none⟩ (.slice A n c)):=fun z cur' hz hzl hzn hm=>by
  have hzb:z≠b:=by
   rintro rfl;have e:=Jd (i:=o+2) (hb'.trans hbt) (.slice A n c);rw[e] at hz;cases hz
  rcases List.mem_append.1 hm with hm|hm
  ·exact hzn (List.mem_append_left _ hm)
  ·exact hla z cur' _ ((Below.heap_setCell _ _ _ _ hzb).symm.trans hz) (by decide) hzl hzn hm
 refine⟨rfl,_,f0++fr,hcW,⟨A0,n0,c0,f0,A,n,c,fr,rfl,rfl,h0',hs'⟩,hcl,fun j hj=> ?_, ?_⟩
 ·rw[World.cell?_setCell_other _ _ _ _ (by simp only[ne_eq,Addr.mk.injEq];omega)];exact World.cell?_of_block (a:=⟨b,j,none⟩) hb'
 ·refine Only.setCell ?_ (.inl (by simp)) _;exact⟨hg.os.trans hB.os,hg.tape.trans hB.tape,hg.output.trans hB.output,Nat.le_trans hB.size hg.size,fun z hz hm=>hblk z hz fun h=>hm (by simp[h])⟩
end
section
variable {W Wi:World} {v v':Value} {l:List Ref} {xs ys:List Value} {f1 g:List Nat} {y:Ref} {i b n base:Nat} {cur:Array Value}
theorem jps (ha:AllR Rp.refO W xs l f1) (hn:(Vm v++f1).Nodup) (hg:W.grownBy Wi v.ownBlock) (hi:i≤l.length) (hy:Rp.ref.R W ys y g) (hgv: ∀z∈g,z∉Vm v)
  (ho:Wi.ownsRow base 52 4 v' n (jae 4 i xs ys)) (hl:n=l.length+1):
  ∃A c fr,v'= .slice A n c∧SlR Rp.ref Wi A n c (l.take i++y::l.drop i) fr∧∀z cur t,Wi.heap[z]? =some (.cells cur t (0,0))→t≠52→z∉f1→z∉g→z∉fr:=by
 have hv: ∀z∈f1,v.ownBlock≠some z:=fun z hz e=>(List.nodup_append.1 hn).2.2 z (by unfold Vm;rw[e];simp) z hz rfl;obtain⟨k1,hk1,hsub⟩:=(ha.keep (w':=Wi) fun z hz=>hg.block z (ha.lt z hz) fun e=>hv z hz e.symm).le jbl;have hy':=Rp.ref.keep hy (w':=Wi) fun z hz=>hg.block z (Rp.ref.lt hy z hz) fun e=>hgv z hz (by unfold Vm;rw[←e];simp);obtain⟨f',hf',hperm⟩:=hk1.ins hi hy'
 have hlen:(l.take i++y::l.drop i).length=n:=by simp;omega
 rw[←hlen] at ho ⊢;obtain⟨A,c,f0,rfl,hs,h0,_,hfr⟩:=SlR.of_owns (r:=Rp.ref) ho hf';refine⟨A,c,_,rfl,hs,fun z cur t hbt hne hbf hbg hm=> ?_⟩;rcases List.mem_append.1 hm with hm|hm
 ·have hob:=(h0 z hm).1;rcases ho.2 with ⟨h,_⟩|⟨g',cap,cur',h,_,hg',_⟩
  ·rw[h] at hob;cases hob
  ·rw[h] at hob;simp only[Value.ownBlock,Option.some.injEq] at hob;subst hob;rw[hbt] at hg';cases hg';exact hne rfl
 ·rcases List.mem_append.1 (hperm.mem_iff.1 hm) with hm|hm
  ·exact hbg hm
  ·exact hbf (hsub.subset hm)
theorem jpt (ha:AllR Rp.refO W xs l f1) (hn:(Vm v++f1).Nodup) (hg:W.grownBy Wi v.ownBlock) (hi:i<l.length)
  (ho:Wi.ownsRow base 52 4 v' n (jdw 4 i xs)) (hl:n=l.length - 1):
  ∃A c fr,v'= .slice A n c∧SlR Rp.ref Wi A n c (l.eraseIdx i) fr∧∀z cur t,Wi.heap[z]? =some (.cells cur t (0,0))→t≠52→z∉f1→z∉fr:=by
 have hv: ∀z∈f1,v.ownBlock≠some z:=fun z hz e=>(List.nodup_append.1 hn).2.2 z (by unfold Vm;rw[e];simp) z hz rfl;obtain⟨k1,hk1,hsub⟩:=(ha.keep (w':=Wi) fun z hz=>hg.block z (ha.lt z hz) fun e=>hv z hz e.symm).le jbl;obtain⟨f',hf',hsub'⟩:=hk1.del hi;have hlen:(l.eraseIdx i).length=n:=by rw[List.length_eraseIdx_of_lt hi];omega
 rw[←hlen] at ho ⊢;obtain⟨A,c,f0,rfl,hs,h0,_,hfr⟩:=SlR.of_owns (r:=Rp.ref) ho hf';refine⟨A,c,_,rfl,hs,fun z cur t hbt hne hbf hm=> ?_⟩;rcases List.mem_append.1 hm with hm|hm
 ·have hob:=(h0 z hm).1;rcases ho.2 with ⟨h,_⟩|⟨g',cap,cur',h,_,hg',_⟩
  ·rw[h] at hob;cases hob
  ·rw[h] at hob;simp only[Value.ownBlock,Option.some.injEq] at hob;subst hob;rw[hbt] at hg';cases hg';exact hne rfl
 ·exact hbf (hsub.subset (hsub'.subset hm))
theorem ref_new {W:World} {nb:Nat} {t:TypeId} (s:ByteArray) (hk:Blk W nb t #[.slice none 0 0]):Rp.ref.R W [.string s,.bool false,.int .i64 0,.slice (some ⟨nb,0,none⟩) 1 1] ⟨s,false,0,[[]]⟩ [nb]:=by
 refine⟨some ⟨nb,0,none⟩,1,1,[nb],rfl,rfl,rfl,Nat.le_refl _,by simp[maxLen],[.slice none 0 0],[nb],[],⟨rfl,.inr ⟨by omega,nb,0,rfl,rfl,hk.lt,fun j u hu=> ?_⟩⟩,AllR.single ⟨none,0,0,rfl,SlR.nil⟩,rfl⟩;rw[Nat.zero_add,hk.cell j];simpa using hu
end
def lessR (l:List Ref) (p:ByteArray) (j:Nat):Prop:=∀i (hi:i<l.length),i<j→bLt l[i].name p=true
theorem lessR.zero {l:List Ref} {p:ByteArray} :lessR l p 0:=fun i _ h=>by omega
theorem lessR.next {l:List Ref} {p:ByteArray} {j:Nat} (h:lessR l p j) (hj:j<l.length) (hl:bLt l[j].name p=true):lessR l p (j+1):=fun i hi hij=>by
 by_cases e:i=j
 ·subst e;exact hl
 ·exact h i hi (by omega)
theorem SlR.elemFar {α:Type} {r:Rp α} {w:World} {A:Option Addr} {n c:Nat} {l:List α} {fp:List Nat} (h:SlR r w A n c l fp) (hn:fp.Nodup) (hf:Free w fp) {i:Nat} (hi:i<l.length):
  ∃b o cs f,A=some ⟨b,o,none⟩∧f.Nodup∧r.R w cs l[i] f∧Elem w w fp f b (o+i*r.k) cs∧
   ∀(w':World) (cs':List Value) (y:α) (f':List Nat),Elem w w' fp f b (o+i*r.k) cs'→r.R w' cs' y f'→f'.Nodup→(∀x∈f',x∈f∨x∉fp)→Free w' f'→
    ∃fp',SlR r w' A n c (l.set i y) fp'∧fp'.Nodup∧Free w' fp'∧∀x∈fp',x∈fp∨x∈f':=by
 obtain⟨b0,o0,cs0,ff,hA0,hfn0,hr0,hE0,hcl0⟩:=h.elem hn hf hi;obtain⟨hn',h1,h2,xs,f0,f1,hs,ha,hfe⟩:=id h;obtain⟨c0,cs,c1,g0,g,g1,e1,e2,e3,e4,e5,e6⟩:=ha.split hi;rcases hs.2 with ⟨h0,_⟩|⟨hn0,b,o,hA,hf0,hb,hc⟩
 ·omega
 ·subst hfe;subst hf0;subst e2;subst e1;have hn2:(b::(g0++(g++g1))).Nodup:=hn;have hbn:b∉g0++(g++g1):=(List.nodup_cons.1 hn2).1;have hnd:(g0++(g++g1)).Nodup:=(List.nodup_cons.1 hn2).2;have hn1:=(List.nodup_append.1 hnd).2.1;have hgn:g.Nodup:=(List.nodup_append.1 hn1).1;have hd0: ∀x∈g0,x∉g:=fun x hx hg=>(List.nodup_append.1 hnd).2.2 x hx x (List.mem_append_left _ hg) rfl
  have hd1: ∀x∈g1,x∉g:=fun x hx hg=>(List.nodup_append.1 hn1).2.2 x hg x hx rfl;have hd01: ∀x∈g0,x∉g1:=fun x hx hg=>(List.nodup_append.1 hnd).2.2 x hx x (List.mem_append_right _ hg) rfl;have hcc:=hc.right.left;rw[e3] at hcc;have hE:Elem w w ([b]++(g0++(g++g1))) g b (o+i*r.k) cs:=⟨by simp,fun hm=>hbn (by simp[hm]),fun x hx=>by simp[hx],hcc,fun _ _=>rfl,fun _ _ _ _=>rfl,Only.refl _ _,hf,h.lt⟩
  refine⟨b,o,cs,g,hA,hgn,e5,hE,fun w' cs' y f' he hy hfn' hnew hfree=> ?_⟩;have hlen:=r.len hy;have hlen0:=r.len e5;have hlt0: ∀x∈g0++g1,x<w.heap.size:=fun x hx=>h.lt x (by rcases List.mem_append.1 hx with hx|hx<;>simp[hx]);have hnf: ∀x∈f',x∉g0∧x∉g1∧x≠b:=fun x hx=>by
   rcases hnew x hx with hx|hx
   ·exact⟨fun h=>hd0 x h hx,fun h=>hd1 x h hx,fun e=>hbn (by rw[←e];simp[hx])⟩
   ·exact⟨fun h=>hx (by simp[h]),fun h=>hx (by simp[h]),fun e=>hx (by simp[e])⟩
  refine⟨[b]++(g0++(f'++g1)),⟨by simpa using hn',h1,h2,c0++(cs'++c1),[b],g0++(f'++g1),⟨?_,.inr ⟨hn0,b,o,hA,rfl,Nat.lt_of_lt_of_le hb he.only.size, ?_⟩⟩, ?_,rfl⟩, ?_, ?_, ?_⟩
  ·have:=hs.1;simp only[List.length_append] at this ⊢;omega
  ·have hl0:Cells w' b o c0:=fun j u hu=>by
    have hj:=(List.getElem?_eq_some_iff.1 hu).1;rw[he.other (o+j) (by omega)];exact hc.left j u hu
   have hl1:Cells w' b (o+(c0++cs').length) c1:=fun j u hu=>by
    have hr:=hc.right.right j u hu;rw[he.other _ (by simp only[List.length_append];omega),←hr]
    congr 2
    simp only[List.length_append];omega
   rw[←List.append_assoc];refine Cells.append (Cells.append hl0 ?_) hl1;rw[e3];exact he.cells
  ·refine AllR.set hi e4 e6 hy fun x hx=> ?_;rcases List.mem_append.1 hx with hx|hx
   ·exact he.same x (by simp[hx]) (fun e=>hbn (by rw[←e];simp[hx])) (hd0 x hx)
   ·exact he.same x (by simp[hx]) (fun e=>hbn (by rw[←e];simp[hx])) (hd1 x hx)
  ·show(b::(g0++(f'++g1))).Nodup;refine List.nodup_cons.2 ⟨fun hm=> ?_,List.nodup_append.2 ⟨(List.nodup_append.1 hnd).1,List.nodup_append.2 ⟨hfn',(List.nodup_append.1 hn1).2.1,fun a ha c hc e=> ?_⟩,fun a ha c hc e=> ?_⟩⟩
   ·rcases List.mem_append.1 hm with hm|hm
    ·exact hbn (by simp[hm])
    ·rcases List.mem_append.1 hm with hm|hm
     ·exact(hnf b hm).2.2 rfl
     ·exact hbn (by simp[hm])
   ·subst e;exact(hnf a ha).2.1 hc
   ·subst e;rcases List.mem_append.1 hc with hc|hc
    ·exact(hnf a hc).1 ha
    ·exact hd01 a ha hc
  ·intro x hx;simp only[List.mem_append] at hx;rcases hx with hx|hx|hx|hx
   ·exact he.free x (by simp only[List.mem_append];exact .inl hx)
   ·exact he.free x (by simp[hx])
   ·exact hfree x hx
   ·exact he.free x (by simp[hx])
  ·intro x hx;simp only[List.mem_append] at hx ⊢;rcases hx with hx|hx|hx|hx
   ·exact .inl (.inl hx)
   ·exact .inl (.inr (.inl hx))
   ·exact .inr hx
   ·exact .inl (.inr (.inr (.inr hx)))
theorem jl5 {a b c:List Nat} (h:(a++(b++c)).Nodup):a.Nodup∧b.Nodup∧c.Nodup∧(∀x∈a,x∉b∧x∉c)∧∀x∈b,x∉c:=by
 obtain⟨h0,h12,d0⟩:=List.nodup_append.1 h;obtain⟨h1,h2,d1⟩:=List.nodup_append.1 h12;exact⟨h0,h1,h2,fun x hx=>⟨fun hb=>d0 x hx x (by simp[hb]) rfl,fun hc=>d0 x hx x (by simp[hc]) rfl⟩,fun x hx hc=>d1 x hx x hc rfl⟩
theorem join3 {a b c:List Nat} (h0:a.Nodup) (h1:b.Nodup) (h2:c.Nodup) (d0: ∀x∈a,x∉b∧x∉c) (d1: ∀x∈b,x∉c):(a++(b++c)).Nodup:=
 List.nodup_append.2 ⟨h0,List.nodup_append.2 ⟨h1,h2,fun x hx y hy e=>d1 x hx (e▸hy)⟩,fun x hx y hy e=>by
  subst e;rcases List.mem_append.1 hy with hy|hy
  ·exact(d0 x hx).1 hy
  ·exact(d0 x hx).2 hy⟩
theorem X9 {w:World} {cs:List Value} {m:Jl} {fp:List Nat} (h:Rp.house.R w cs m fp) (hn:fp.Nodup) (hf:Free w fp) {i:Nat} (hi:i<m.Rz.length):
  ∃A0 n0 c0 A1 n1 c1 b o c2 cr f g,cs= [.slice A0 n0 c0,.slice A1 n1 c1,.slice (some ⟨b,o,none⟩) m.Rz.length c2]∧c2≤maxLen∧m.Rz.length≤c2∧f.Nodup∧Free w f∧(∀x∈f,x∈fp)∧b∈fp∧(∀x∈g,x∈fp)∧Rp.repo.R w cr m.Rz[i] f∧Elem w w g f b (o+i*3) cr∧
   ∀(w':World) (cr':List Value) (y:Xq) (f':List Nat),Elem w w' g f b (o+i*3) cr'→Rp.repo.R w' cr' y f'→f'.Nodup→(∀x∈f',x∈f∨x∉fp)→Free w' f'→
    ∃fp',Rp.house.R w' cs { m with Rz:=m.Rz.set i y} fp'∧fp'.Nodup∧Free w' fp'∧∀x∈fp',x∈fp∨x∈f':=by
 obtain⟨A0,n0,c0,f0,A1,n1,c1,f1,A2,n2,c2,f2,rfl,rfl,h0,h1,h2⟩:=h;obtain⟨k0,k1,k2,d0,d1⟩:=jl5 hn;obtain rfl:=h2.1;have hf2:Free w f2:=fun x hx=>hf x (by simp[hx]);obtain⟨b,o,cr,f,rfl,hfn,hR,hE,hcl⟩:=h2.elemFar k2 hf2 hi
 refine⟨A0,n0,c0,A1,n1,c1,b,o,c2,cr,f,f2,rfl,h2.2.2.1,h2.2.1,hfn,fun x hx=>hf2 x (hE.sub x hx),fun x hx=>by simp[hE.sub x hx],by simp[hE.mem],fun x hx=>by simp[hx],hR,hE,fun w' cr' y f' hE' hy hn' hnew hfr=> ?_⟩;obtain⟨fp',j1,j2,j3,j4⟩:=hcl w' cr' y f' hE' hy hn' (fun x hx=>(hnew x hx).imp id fun h hm=>h (by simp[hm])) hfr
 have q0:SlR Rp.int w' A0 n0 c0 m.keys f0:=h0.only hE'.only fun x hx=>(d0 x hx).2;have q1:SlR Rp.int w' A1 n1 c1 m.used f1:=h1.only hE'.only fun x hx=>d1 x hx;have hlt0:=h0.lt;have hlt1:=h1.lt;have hnot: ∀x,x∈f0∨x∈f1→x∉f2→x∉fp':=fun x hx hn hm=>by
  rcases j4 x hm with hm|hm
  ·exact hn hm
  ·rcases hnew x hm with hm|hm
   ·exact hn (hE.sub x hm)
   ·exact hm (by rcases hx with hx|hx<;>simp[hx])
 refine⟨f0++(f1++fp'),⟨A0,n0,c0,f0,A1,n1,c1,f1,_,_,c2,fp',rfl,rfl,q0,q1,by simpa using j1⟩,join3 k0 k1 j2 (fun x hx=>⟨(d0 x hx).1,hnot x (.inl hx) (d0 x hx).2⟩) (fun x hx=>hnot x (.inr hx) (d1 x hx)),fun x hx=> ?_,fun x hx=> ?_⟩
 ·simp only[List.mem_append] at hx;rcases hx with hx|hx|hx
  ·have e:=hE'.only.block x (hlt0 x hx) (d0 x hx).2;rw[e];exact hf x (by simp[hx])
  ·have e:=hE'.only.block x (hlt1 x hx) (d1 x hx);rw[e];exact hf x (by simp[hx])
  ·exact j3 x hx
 ·simp only[List.mem_append] at hx ⊢;rcases hx with hx|hx|hx
  ·exact .inl (.inl hx)
  ·exact .inl (.inr (.inl hx))
  ·rcases j4 x hx with hx|hx
   ·exact .inl (.inr (.inr hx))
   ·exact .inr hx
theorem jdj {w:World} {cr:List Value} {p:Xq} {fp:List Nat} (h:Rp.repo.R w cr p fp) (hn:fp.Nodup) (hf:Free w fp) {k:Nat} (hk:k<p.Fz.length):
  ∃B0 m0 d0 b o c2 cx f g,cr= [.int .i64 p.Az,.slice B0 m0 d0,.slice (some ⟨b,o,none⟩) p.Fz.length c2]∧c2≤maxLen∧p.Fz.length≤c2∧f.Nodup∧Free w f∧(∀x∈f,x∈fp)∧b∈fp∧(∀x∈g,x∈fp)∧Rp.ref.R w cx p.Fz[k] f∧Elem w w g f b (o+k*4) cx∧
   ∀(w':World) (cx':List Value) (y:Ref) (f':List Nat),Elem w w' g f b (o+k*4) cx'→Rp.ref.R w' cx' y f'→f'.Nodup→(∀x∈f',x∈f∨x∉fp)→Free w' f'→
    ∃fp',Rp.repo.R w' cr { p with Fz:=p.Fz.set k y} fp'∧fp'.Nodup∧Free w' fp'∧∀x∈fp',x∈fp∨x∈f':=by
 obtain⟨A0,n0,c0,f0,A2,n2,c2,f2,rfl,rfl,h0,h2⟩:=h;obtain⟨k0,k2,d0⟩:=List.nodup_append.1 hn;obtain rfl:=h2.1;have hf2:Free w f2:=fun x hx=>hf x (by simp[hx]);obtain⟨b,o,cx,f,rfl,hfn,hR,hE,hcl⟩:=h2.elemFar k2 hf2 hk
 refine⟨A0,n0,c0,b,o,c2,cx,f,f2,rfl,h2.2.2.1,h2.2.1,hfn,fun x hx=>hf2 x (hE.sub x hx),fun x hx=>by simp[hE.sub x hx],by simp[hE.mem],fun x hx=>by simp[hx],hR,hE,fun w' cx' y f' hE' hy hn' hnew hfr=> ?_⟩;obtain⟨fp',j1,j2,j3,j4⟩:=hcl w' cx' y f' hE' hy hn' (fun x hx=>(hnew x hx).imp id fun h hm=>h (by simp[hm])) hfr
 have q0:SlR Rp.rule w' A0 n0 c0 p.Uz f0:=h0.only hE'.only fun x hx hm=>d0 x hx x hm rfl;have hlt0:=h0.lt;refine⟨f0++fp',⟨A0,n0,c0,f0,_,_,c2,fp',rfl,rfl,q0,by simpa using j1⟩,List.nodup_append.2 ⟨k0,j2,fun x hx y hy e=> ?_⟩,fun x hx=> ?_,fun x hx=> ?_⟩
 ·subst e;rcases j4 x hy with hm|hm
  ·exact d0 x hx x hm rfl
  ·rcases hnew x hm with hm|hm
   ·exact d0 x hx x (hE.sub x hm) rfl
   ·exact hm (by simp[hx])
 ·rcases List.mem_append.1 hx with hx|hx
  ·rw[hE'.only.block x (hlt0 x hx) fun hm=>d0 x hx x hm rfl];exact hf x (by simp[hx])
  ·exact j3 x hx
 ·rcases List.mem_append.1 hx with hx|hx
  ·exact .inl (by simp[hx])
  ·rcases j4 x hx with hx|hx
   ·exact .inl (by simp[hx])
   ·exact .inr hx
theorem jly {w:World} {cx:List Value} {r:Ref} {fp:List Nat} (h:Rp.ref.R w cx r fp) (hn:fp.Nodup) (hf:Free w fp) {k:Nat} (hk:k<r.Vz.length):
  ∃b o c2 cv f,cx= [.string r.name,.bool r.guard,.int .i64 r.count,.slice (some ⟨b,o,none⟩) r.Vz.length c2]∧c2≤maxLen∧r.Vz.length≤c2∧f.Nodup∧Free w f∧(∀x∈f,x∈fp)∧b∈fp∧(Rp.slice Rp.file).R w cv r.Vz[k] f∧Elem w w fp f b (o+k) cv∧
   ∀(w':World) (cv':List Value) (y:List File) (f':List Nat),Elem w w' fp f b (o+k) cv'→(Rp.slice Rp.file).R w' cv' y f'→f'.Nodup→(∀x∈f',x∈f∨x∉fp)→Free w' f'→
    ∃fp',Rp.ref.R w' cx { r with Vz:=r.Vz.set k y} fp'∧fp'.Nodup∧Free w' fp'∧∀x∈fp',x∈fp∨x∈f':=by
 obtain⟨A2,n2,c2,f2,rfl,rfl,h2⟩:=h;obtain rfl:=h2.1;obtain⟨b,o,cv,f,rfl,hfn,hR,hE,hcl⟩:=h2.elemFar hn hf hk;have e1:o+k*(Rp.slice Rp.file).k=o+k:=by show o+k*1=o+k;omega
 rw[e1] at hE hcl;refine⟨b,o,c2,cv,f,rfl,h2.2.2.1,h2.2.1,hfn,fun x hx=>hf x (hE.sub x hx),hE.sub,hE.mem,hR,hE,fun w' cv' y f' hE' hy hn' hnew hfr=> ?_⟩;obtain⟨fp',j1,j2,j3,j4⟩:=hcl w' cv' y f' hE' hy hn' hnew hfr;exact⟨fp',⟨_,_,c2,fp',rfl,rfl,by simpa using j1⟩,j2,j3,j4⟩
theorem jgz {w:World} {cs:List Value} {m:Jl} {fp:List Nat} (h:Rp.house.R w cs m fp) (hn:fp.Nodup) (hf:Free w fp) {i:Nat} (hi:i<m.used.length):
  ∃A0 n0 c0 b o c1 A2 n2 c2,cs= [.slice A0 n0 c0,.slice (some ⟨b,o,none⟩) m.used.length c1,.slice A2 n2 c2]∧c1≤maxLen∧b∈fp∧(∀v,∃v0,w.cell? ⟨b,o+i,none⟩=some v0∧w.frozen? ⟨b,o+i,none⟩=false∧Rp.house.R (w.setCell ⟨b,o+i,none⟩ (.int .i64 v)) cs { m with used:=m.used.set i v} fp∧Free (w.setCell ⟨b,o+i,none⟩ (.int .i64 v)) fp):=by
 obtain⟨A0,n0,c0,f0,A1,n1,c1,f1,A2,n2,c2,f2,rfl,rfl,h0,h1,h2⟩:=h;obtain⟨k0,k1,k2,d0,d1⟩:=jl5 hn;obtain rfl:=h1.1;have hf1:Free w f1:=fun x hx=>hf x (by simp[hx]);obtain⟨b,o,cv,f,rfl,hfn,hR,hE,hcl⟩:=h1.elem k1 hf1 hi;obtain⟨rfl,rfl⟩:=hR;have e1:o+i*Rp.int.k=o+i:=by show o+i*1=o+i;omega
 rw[e1] at hE hcl;refine⟨A0,n0,c0,b,o,c1,A2,n2,c2,rfl,h1.2.2.1,by simp[hE.mem],fun v=>⟨_,hE.cells.at0,hE.frozen _, ?_,hf.setCell _ rfl _⟩⟩;have hE':=hE.put (j:=0) (by simp) (.int .i64 v);rw[Nat.add_zero] at hE';have q1:=hcl _ [.int .i64 v] v hE' ⟨rfl,rfl⟩
 refine⟨A0,n0,c0,f0,_,_,c1,f1,A2,n2,c2,f2,rfl,rfl,h0.only hE'.only fun x hx=>(d0 x hx).1,by simpa using q1,h2.only hE'.only fun x hx hm=>d1 x hm hx⟩
theorem jg0 {w:World} {cs:List Value} {m:Jl} {fp:List Nat} (h:Rp.house.R w cs m fp) (hn:fp.Nodup) (hf:Free w fp) {i:Nat} (hi:i<m.keys.length):
  ∃b o c0 A1 n1 c1 A2 n2 c2,cs= [.slice (some ⟨b,o,none⟩) m.keys.length c0,.slice A1 n1 c1,.slice A2 n2 c2]∧c0≤maxLen∧b∈fp∧(∀v,∃v0,w.cell? ⟨b,o+i,none⟩=some v0∧w.frozen? ⟨b,o+i,none⟩=false∧Rp.house.R (w.setCell ⟨b,o+i,none⟩ (.int .i64 v)) cs { m with keys:=m.keys.set i v} fp∧Free (w.setCell ⟨b,o+i,none⟩ (.int .i64 v)) fp):=by
 obtain⟨A0,n0,c0,f0,A1,n1,c1,f1,A2,n2,c2,f2,rfl,rfl,h0,h1,h2⟩:=h;obtain⟨k0,k1,k2,d0,d1⟩:=jl5 hn;obtain rfl:=h0.1;have hf0:Free w f0:=fun x hx=>hf x (by simp[hx]);obtain⟨b,o,cv,f,rfl,hfn,hR,hE,hcl⟩:=h0.elem k0 hf0 hi;obtain⟨rfl,rfl⟩:=hR;have e1:o+i*Rp.int.k=o+i:=by show o+i*1=o+i;omega
 rw[e1] at hE hcl;refine⟨b,o,c0,A1,n1,c1,A2,n2,c2,rfl,h0.2.2.1,by simp[hE.mem],fun v=>⟨_,hE.cells.at0,hE.frozen _, ?_,hf.setCell _ rfl _⟩⟩;have hE':=hE.put (j:=0) (by simp) (.int .i64 v);rw[Nat.add_zero] at hE';have q1:=hcl _ [.int .i64 v] v hE' ⟨rfl,rfl⟩
 exact⟨_,_,c0,f0,A1,n1,c1,f1,A2,n2,c2,f2,rfl,rfl,by simpa using q1,h1.only hE'.only fun x hx hm=>(d0 x hm).1 hx,h2.only hE'.only fun x hx hm=>(d0 x hm).2 hx⟩
end Go.Proofs.YtobbdhgkcoeifaaGreatDoor
