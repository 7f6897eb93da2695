/- FnMdlGuard: for every input the law answers true and leaves its arguments as they were. Conditions: the listed library tables read as the tie says. -/
import Derived.ProofKit
import Derived.Deep.Slices
import Derived.Deep.Fields
import Derived.WalkKit
import Derived.OpenShut
import Derived.ChangeMaps5
import Derived.Deep.DeepHandedRow
import Derived.Lib.LaidTab
import Derived.SevenTiedAt
import Derived.Test.YtlkoaobaoffpaaaGreatDoorZ27
import Derived.Test.YtlkoaobaoffpaaaGreatDoorZ24
import Derived.Test.YtlkoaobaoffpaaaGreatDoorZ20
import Derived.Test.YtlkoaobaoffpaaaGreatDoorZ5
import Derived.Test.YtlkoaobaoffpaaaGreatDoorZ4
import Derived.Test.YtlkoaobaoffpaaaGreatDoorZ28
import Derived.Test.YtlkoaobaoffpaaaGreatDoorZ26
import Derived.Test.YtlkoaobaoffpaaaGreatDoorZ1
import Derived.Test.YtlkoaobaoffpaaaGreatDoorCards
import Derived.Test.YtlkoaobaoffpaaaGreatDoorTie
namespace Go.Proofs.YtlkoaobaoffpaaaGreatDoor
open Go.RowKit
attribute [local go_sem ↓] Go.wp_at_zero Go.wp_at_succ
open Go.ChangeShapes Go.WideShapes Go.ChangeAt Go.RowKit Go.Deep
set_option maxHeartbeats 8000000
set_option maxRecDepth 100000
set_option linter.unusedSimpArgs false
set_option linter.unusedVariables false
section
variable {w w':World} {g:Nat} {m:Jl} {q:Req} {a:Ans} {K U R E F N:Value}
end
theorem HB.Rz {w:World} {g:Nat} {m:Jl} {K U:Value} {A:Option Addr} {n c:Nat} (h:HB w g m K U (.slice A n c)): ∃f,SlR Rp.repo w A n c m.Rz f:=by
 obtain⟨f,A0,n0,c0,f0,A1,n1,c1,f1,A2,n2,c2,f2,e, -, -, -,h2⟩:=h.r;cases e;exact⟨f2,h2⟩
theorem req_with {w:World} {q q':Req} {E:Value} {f:List Nat} (h:Rp.req.R w (V5 q E).toList q f) (he:q'.Ez=q.Ez):Rp.req.R w (V5 q' E).toList q' f:=by
 obtain⟨A0,n0,c0,f0,e,hf,h1⟩:=h;have:E= .slice A0 n0 c0:=by
  have:=congrArg (fun l=>l[8]?) e;simpa [V5] using this
 subst this;exact⟨A0,n0,c0,f0,rfl,hf,he▸h1⟩
theorem fit_with {q q':Req} (h:jdu q) (h1:q'.ref=q.ref) (h2:q'.other=q.other) (h3:q'.path=q.path) (h4:q'.rule=q.rule) (h5:q'.Ez=q.Ez):jdu q':=
 ⟨by rw[h1];exact h.ref,by rw[h2];exact h.other,by rw[h3];exact h.path,by rw[h4];exact h.rule,by rw[h5];exact h.Ez⟩
section
variable {P:Program} {s:Code} {Q:Exit→Act→World→Prop} {b:Act} {w:World} {m:Jl} {q:Req} {a:Ans} {K U R E F N:Value}
theorem wp_New {t:TypeId} {cs:Array Value} (h: ∀W,Blk W w.heap.size t cs→Below w.heap.size w W→s.wp P Q b W):s.wp P Q b (w.alloc (.cells cs t)):=
 h _ (Blk.new w t cs) ((Below.refl _ _).alloc nle _)
end
section
variable {w0 W W':World} {m:Jl} {q q':Req} {K U R E E':Value}
end
section
variable {w w':World} {g lo:Nat} {m:Jl} {K U R:Value}
end
theorem house_guard {w:World} {cs:List Value} {m:Jl} {fp:List Nat} (h:Rp.house.R w cs m fp) (hn:fp.Nodup) (hf:Free w fp) {i:Nat} (hi:i<m.Rz.length) {k:Nat} (hk:k<m.Rz[i].Fz.length) (v:Bool):
  ∃A0 n0 c0 A1 n1 c1 b o c2 b2 o2 d2,cs= [.slice A0 n0 c0,.slice A1 n1 c1,.slice (some ⟨b,o,none⟩) m.Rz.length c2]∧w.cell? ⟨b,o+i*3+2,none⟩=some (.slice (some ⟨b2,o2,none⟩) m.Rz[i].Fz.length d2)∧c2≤maxLen∧m.Rz.length≤c2∧d2≤maxLen∧m.Rz[i].Fz.length≤d2∧b2∈fp∧
   w.cell? ⟨b2,o2+k*4+1,none⟩=some (.bool m.Rz[i].Fz[k].guard)∧w.frozen? ⟨b2,o2+k*4+1,none⟩=false∧
   ∃fp',Rp.house.R (w.setCell ⟨b2,o2+k*4+1,none⟩ (.bool v)) cs { m with Rz:=m.Rz.set i { m.Rz[i] with Fz:=m.Rz[i].Fz.set k { m.Rz[i].Fz[k] with guard:=v}}} fp'∧fp'.Nodup∧Free (w.setCell ⟨b2,o2+k*4+1,none⟩ (.bool v)) fp'∧∀x∈fp',x∈fp:=by
 obtain⟨A0,n0,c0,A1,n1,c1,b,o,c2,cr,f1,g1,rfl,hcm,hcl,hn1,hf1,hs1,hbm,hsg,hRr,hE,hset⟩:=X9 h hn hf hi;obtain⟨sa,sn,sc,b2,o2,d2,cx,f2,g2,rfl,hdm,hdl,hn2,hf2,hs2,hbm2,hsg2,hRx,hE2,hset2⟩:=jdj hRr hn1 hf1 hk;obtain⟨ta,tn,tc,tf,rfl,htf,hvr⟩:=id hRx;have hE2':=hE2.put (j:=1) (by simp) (.bool v);have hnm2:=hE2.nmem;rw[htf] at hnm2
 obtain⟨fp2,i1,i2,i3,i4⟩:=hset2 _ _ { m.Rz[i].Fz[k] with guard:=v} f2 hE2' ⟨_,_,_,tf,rfl,htf,hvr.putN hnm2 _⟩ hn2 (fun x hx=> .inl hx) (fun x hx=>hE2'.free x (hE2'.sub x hx));have hE':=hE.inner (f:=f1) (w1:=w.setCell ⟨b2,o2+k*4+1,none⟩ (.bool v)) ((Only.refl f1 w).setCell (p:=⟨b2,o2+k*4+1,none⟩) (.inl hbm2) _) (hf1.setCell _ rfl _);have hi4: ∀x∈fp2,x∈f1:=fun x hx=>(i4 x hx).elim id (hs2 x)
 obtain⟨fp',j1,j2,j3,j4⟩:=hset _ _ _ fp2 hE' i1 i2 (fun x hx=> .inl (hi4 x hx)) i3;exact⟨A0,n0,c0,A1,n1,c1,b,o,c2,b2,o2,d2,rfl,hE.cells 2 _ rfl,hcm,hcl,hdm,hdl,hs1 _ hbm2,hE2.cells 1 _ rfl,hE2.frozen _,fp',j1,j2,j3,fun x hx=>(j4 x hx).elim id fun h=>hs1 x (hi4 x h)⟩
theorem manage_same {p:Xq} {r:Req} (h:(manage p r).2≠1):(manage p r).1=p:=by
 have:(manage p r).1=p∨(manage p r).2=1:=by
  unfold manage
  repeat' split
  all_goals first|exact .inl rfl|exact .inr rfl
 exact this.resolve_right h
theorem write_same {m:Jl} {p:Xq} {r:Req} (h:(write m p r).2≠1):(write m p r).1=m:=by
 have:(write m p r).1=m∨(write m p r).2=1:=by
  unfold write
  repeat' split
  all_goals first|exact .inl rfl|exact .inr rfl
 exact this.resolve_right h
theorem set_self {α:Type} {l:List α} {i:Nat} {a:α} (h:l[i]? =some a):l.set i a=l:=by
 obtain⟨hi,rfl⟩:=List.getElem?_eq_some_iff.1 h;exact List.set_getElem_self hi
theorem refused {m:Jl} {r:Req} (h:(Zn m r).2.code≠1∨r.kind=2∨r.kind=3∨r.kind=11):(Zn m r).1=m:=by
 unfold Zn at h ⊢;split
 ·split
  ·rfl
  ·split
   ·rfl
   ·rename_i p hp
    split
    ·rfl
    ·split
     ·rfl
     ·rename_i n1 n2 n3
      split
      ·rename_i hw
       refine write_same ?_;rcases h with h|h|h|h
       ·simpa [*,code] using h
       all_goals simp_all
      ·split
       ·rfl
       ·rename_i hk
        have:(manage p r).1=p:=by
         refine manage_same ?_;rcases h with h|h|h|h
         ·simpa [*,code] using h
         all_goals simp_all
        rw[this];simp[set_self hp]
 ·rfl
structure Laid (m:Jl) (r:Req) (p:Xq) (k:Nat):Prop where
 knows:knows m.keys r.user r.key=true
 writes:Vs r=true
 repo:m.Rz[r.repo.toNat]? =some p
 ref:Y7 p.Fz r.ref=some k
 may:Yi m p r=true
 old:(p.Fz.getD k Y8).count=r.old
 more:(p.Fz.getD k Y8).count≠14
 new:(newest m (p.Fz.getD k Y8) r).2=1
 used:m.used.getD (r.user - 1).toNat 0+Yg r.Ez≤200
 eq:Zn m r=(jpm m p k r (newest m (p.Fz.getD k Y8) r).1,code 1)
structure Managed1 (m:Jl) (r:Req) (p:Xq):Prop where
 knows:knows m.keys r.user r.key=true
 writes:Vs r=false
 kind:r.kind≠2∧r.kind≠3∧r.kind≠11
 repo:m.Rz[r.repo.toNat]? =some p
 Az:r.user=p.Az
 done:(manage p r).2=1
 eq:Zn m r=({ m with Rz:=m.Rz.set r.repo.toNat (manage p r).1},code 1)
theorem write_ways (m:Jl) (p:Xq) (r:Req):((write m p r).1=m∧(write m p r).2≠1)∨∃k,Y7 p.Fz r.ref=some k∧Yi m p r=true∧(p.Fz.getD k Y8).count=r.old∧(p.Fz.getD k Y8).count≠14∧(newest m (p.Fz.getD k Y8) r).2=1∧m.used.getD (r.user - 1).toNat 0+Yg r.Ez≤200∧write m p r=(jpm m p k r (newest m (p.Fz.getD k Y8) r).1,1):=by
 unfold write;split
 ·rename_i hm
  split
  ·exact .inl ⟨rfl,by simp⟩
  ·rename_i k hk
   split
   ·exact .inl ⟨rfl,by simp⟩
   ·rename_i h1
    split
    ·exact .inl ⟨rfl,by simp⟩
    ·rename_i h2
     split
     ·rename_i h3
      exact .inl ⟨rfl,h3⟩
     ·rename_i h3
      split
      ·exact .inl ⟨rfl,by simp⟩
      ·rename_i h4
       exact .inr ⟨k,hk,hm,Classical.not_not.1 h1,h2,Classical.not_not.1 h3,by omega,rfl⟩
 ·exact .inl ⟨rfl,by simp⟩
theorem doIt_none {m:Jl} {r:Req} (hp:m.Rz[r.repo.toNat]? =none) (hk:knows m.keys r.user r.key=true) (h11:r.kind≠11):Zn m r=(m,code 3):=by
 unfold Zn;rw[if_pos hk,if_neg h11,hp]
theorem doIt_writes {m:Jl} {r:Req} {p:Xq} (hk:knows m.keys r.user r.key=true) (hp:m.Rz[r.repo.toNat]? =some p) (hw:Vs r=true):Zn m r=((write m p r).1,code (write m p r).2):=by
 have h:r.kind=1∨r.kind=9∨r.kind=10:=by simpa [Vs,or_assoc] using hw
 unfold Zn;rw[if_pos hk,if_neg (by omega),hp];simp only[hw];rw[if_neg (by omega),if_neg (by omega)];rfl
theorem doIt_rest {m:Jl} {r:Req} {p:Xq} (hk:knows m.keys r.user r.key=true) (hp:m.Rz[r.repo.toNat]? =some p) (hw:Vs r=false) (h:r.kind≠2∧r.kind≠3∧r.kind≠11):
  Zn m r=if r.user≠p.Az then(m,code 4) else({ m with Rz:=m.Rz.set r.repo.toNat (manage p r).1},code (manage p r).2):=by
 unfold Zn;rw[if_pos hk,if_neg h.2.2,hp];simp only[hw];rw[if_neg h.1,if_neg h.2.1];rfl
theorem doIt_ways (m:Jl) (r:Req):((Zn m r).1=m∧((Zn m r).2.code=1→r.kind=2∨r.kind=3∨r.kind=11))∨(∃p k,Laid m r p k)∨∃p,Managed1 m r p:=by
 by_cases ht:r.kind=2∨r.kind=3∨r.kind=11
 ·exact .inl ⟨refused (.inr ht),fun _=>ht⟩
 ·by_cases hk:knows m.keys r.user r.key=true
  ·cases hp:m.Rz[r.repo.toNat]? with
   |none=>left;rw[doIt_none hp hk (by omega)];exact⟨rfl,fun h=>by simp[code] at h⟩
   |some p=>
    cases hw:Vs r
    ·have he:=doIt_rest hk hp hw (by omega);by_cases ha:r.user=p.Az
     ·rw[if_neg (by simpa using ha)] at he;by_cases hd:(manage p r).2=1
      ·exact .inr (.inr ⟨p,hk,hw,by omega,hp,ha,hd,by rw[he,hd]⟩)
      ·left;rw[he,manage_same hd];exact⟨by simp[set_self hp],fun h=>absurd h hd⟩
     ·rw[if_pos (by simpa using ha)] at he;left;rw[he];exact⟨rfl,fun h=>by simp[code] at h⟩
    ·have he:=doIt_writes hk hp hw;rcases write_ways m p r with ⟨h,h'⟩|⟨k,a,b,c,d,e,f,g⟩
     ·left;rw[he];exact⟨h,fun h=>absurd h h'⟩
     ·exact .inr (.inl ⟨p,k,hk,hw,hp,a,b,c,d,e,f,by rw[he,g]⟩)
  ·left;unfold Zn;rw[if_neg hk];exact⟨rfl,fun h=>by simp[code] at h⟩
theorem repos_length (m:Jl) (r:Req):(Zn m r).1.Rz.length=m.Rz.length:=by
 rcases doIt_ways m r with ⟨h, -⟩|⟨p,k,h⟩|⟨p,h⟩
 ·rw[h]
 ·rw[h.eq];simp[jpm]
 ·rw[h.eq];simp
theorem apart {m:Jl} {r:Req} (hr:0≤r.repo) {i:Nat} (hi:(i:Int)≠r.repo):(Zn m r).1.Rz[i]? =m.Rz[i]? :=by
 have hn:r.repo.toNat≠i:=by omega
 rcases doIt_ways m r with ⟨h, -⟩|⟨p,k,h⟩|⟨p,h⟩
 ·rw[h]
 ·rw[h.eq];simp[jpm,hn]
 ·rw[h.eq];simp[hn]
theorem erase_mem {α:Type} {l:List α} {k:Nat} {x:α} (hk:k<l.length) (hx:x∈l) (hn:x≠l[k]):x∈l.eraseIdx k:=by
 obtain⟨j,hj,rfl⟩:=List.mem_iff_getElem.1 hx;have hjk:j≠k:=fun e=>hn (by subst e;rfl);rw[List.mem_eraseIdx_iff_getElem];exact⟨j,hj,hjk,rfl⟩
theorem set_mem {α:Type} {l:List α} {k:Nat} {x y:α} (hk:k<l.length) (hx:x∈l):x∈l.set k y∨x=l[k]:=by
 obtain⟨j,hj,rfl⟩:=List.mem_iff_getElem.1 hx;by_cases e:j=k
 ·subst e;exact .inr rfl
 ·exact .inl (List.mem_iff_getElem.2 ⟨j,by simpa using hj,by rw[List.getElem_set_ne (fun h=>e h.symm)]⟩)
theorem guarded {m:Jl} {r:Req} {i:Nat} {p:Xq} {f:Ref} (hp:m.Rz[i]? =some p) (hf:f∈p.Fz) (hg:f.guard=true) (hr:0≤r.repo):
  ∃p',(Zn m r).1.Rz[i]? =some p'∧∃f'∈p'.Fz,f'.name=f.name∧(f'.count=f.count∨r.kind≠9):=by
 have hi:=(List.getElem?_eq_some_iff.1 hp).1;by_cases hne:(i:Int)=r.repo
 ·have hi':r.repo.toNat=i:=by omega
  rcases doIt_ways m r with ⟨h, -⟩|⟨p1,k,h⟩|⟨p1,h⟩
  ·rw[h];exact⟨p,hp,f,hf,rfl,.inl rfl⟩
  ·have hpe:p1=p:=by have:=h.repo;rw[hi',hp] at this;exact(Option.some.inj this).symm
   subst hpe;have hk:=(je8 (key:=Ref.name) h.ref).1;have hx:=J4 (z:=Y8) hk;rw[h.eq];simp only[jpm];rw[hi',List.getElem?_set_self hi];refine⟨_,rfl, ?_⟩;rcases set_mem (y:= { p1.Fz.getD k Y8 with count:=(p1.Fz.getD k Y8).count+1,Vz:=jgu ((p1.Fz.getD k Y8).Vz++ [(newest m (p1.Fz.getD k Y8) r).1])}) hk hf with h1|h1
   ·exact⟨f,h1,rfl,.inl rfl⟩
   ·refine⟨_,List.mem_set (by omega) _,by rw[hx,h1],.inr fun h9=> ?_⟩;have hn:=h.new;rw[hx,←h1] at hn;unfold newest at hn;rw[if_neg (by omega),if_pos h9,if_pos hg] at hn;simp at hn
  ·have hpe:p1=p:=by have:=h.repo;rw[hi',hp] at this;exact(Option.some.inj this).symm
   subst hpe;rw[h.eq];simp only;rw[hi',List.getElem?_set_self hi];refine⟨_,rfl, ?_⟩;unfold manage;split
   ·split
    ·exact⟨f,hf,rfl,.inl rfl⟩
    ·split<;>exact⟨f,hf,rfl,.inl rfl⟩
   ·split
    ·split<;>exact⟨f,hf,rfl,.inl rfl⟩
    ·split
     ·split
      ·split
       ·exact⟨f,hf,rfl,.inl rfl⟩
       ·split
        ·exact⟨f,hf,rfl,.inl rfl⟩
        ·exact⟨f,jfo.2 (.inr hf),rfl,.inl rfl⟩
      ·exact⟨f,hf,rfl,.inl rfl⟩
     ·rename_i k hk
      have hk:=(je8 (key:=Ref.name) hk).1;have hx:=J4 (z:=Y8) hk;split
      ·exact⟨f,hf,rfl,.inl rfl⟩
      ·split
       ·rcases set_mem (y:= { p1.Fz.getD k Y8 with guard:= !(p1.Fz.getD k Y8).guard}) hk hf with h1|h1
        ·exact⟨f,h1,rfl,.inl rfl⟩
        ·exact⟨_,List.mem_set (by omega) _,by rw[hx,h1],.inl (by rw[hx,h1])⟩
       ·split
        ·exact⟨f,hf,rfl,.inl rfl⟩
        ·rename_i hgd
         rw[hx] at hgd;exact⟨f,erase_mem hk hf (fun e=>hgd (by rw[←e];exact hg)),rfl,.inl rfl⟩
 ·rw[apart hr hne];exact⟨p,hp,f,hf,rfl,.inl rfl⟩
structure GI (w:World) (g:Nat) (m m':Jl) (f:List Nat) (q:Req) (K U R E:Value) (wz:World):Prop where
 on:Below w.heap.size w wz
 km:Blk wz g 26 #[K,U,R]
 kq:Blk wz (g+1) 31 (V5 q E)
 R: ∃fp,Rp.house.R wz [K,U,R] m' fp∧(jc0 m'∨fp.Nodup∧Free wz fp)∧∀x∈fp,x∈f
 rq: ∃fq,Rp.req.R wz (V5 q E).toList q fq∧∀z∈fq,z∉f∧z<g
 fit:V9 m'
 len:m'.Rz.length=m.Rz.length
 Fz: ∀(i:Nat) (h:i<m'.Rz.length) (h':i<m.Rz.length),m'.Rz[i].Fz.length=m.Rz[i].Fz.length
 lf: ∀z∈f,z<g∧w.heap.size≤z
section
variable {w wz wy:World} {g:Nat} {m m':Jl} {f:List Nat} {q q':Req} {K U R E:Value}
theorem GI.hb (h:GI w g m m' f q K U R E wz):HB wz g m' K U R:=⟨h.km,h.R.imp fun _ k=>k.1⟩
theorem GI.qb (h:GI w g m m' f q K U R E wz):QB wz (g+1) q E:=⟨h.kq,h.rq.imp fun _ k=>k.1⟩
theorem GI.step (h:GI w g m m' f q K U R E wz) (hb:Below wz.heap.size wz wy):GI w g m m' f q K U R E wy:=
 ⟨Below.t h.on hb,h.km.step hb,h.kq.step hb,h.R.imp fun fp k=>⟨Rp.house.below k.1 hb nle,k.2.1.imp id fun j=>⟨j.1,j.2.step hb⟩,k.2.2⟩,h.rq.imp fun _ k=>⟨Rp.req.below k.1 hb nle,k.2⟩,h.fit,h.len,h.Fz,h.lf⟩
theorem GI.same (h:GI w g m m' f q K U R E wz) {i:Nat} {v:Value} (e:(V5 q E).setIfInBounds i v=V5 q' E) (he:q'.Ez=q.Ez) (hg:w.heap.size≤g):GI w g m m' f q' K U R E (wz.setCell ⟨g+1,i,none⟩ v):=by
 have hk: ∀z,z≠g+1→(wz.setCell ⟨g+1,i,none⟩ v).heap[z]? =wz.heap[z]? :=fun z hz=>Below.heap_setCell _ _ _ _ hz
 refine⟨h.on.setCell (by simp only;omega) _,Blk.far h.km (by omega) _,e▸h.kq.put i v,h.R.imp fun fp k=>⟨Rp.house.keep k.1 fun z hz=>hk z (by have:=h.lf z (k.2.2 z hz);omega),k.2.1.imp id fun j=>⟨j.1,j.2.setCell _ rfl _⟩,k.2.2⟩,h.rq.imp fun _ k=>⟨Rp.req.keep (req_with k.1 he) fun z hz=>hk z (by have:=(k.2 z hz).2;omega),k.2⟩,h.fit,h.len,h.Fz,h.lf⟩
theorem GI.put (h:GI w g m m' f q K U R E wz) {i:Nat} (hi:i<m'.Rz.length) {k:Nat} (hk:k<m'.Rz[i].Fz.length):
  ∃b o c2 b2 o2 d2,R= .slice (some ⟨b,o,none⟩) m'.Rz.length c2∧wz.cell? ⟨b,o+i*3+2,none⟩=some (.slice (some ⟨b2,o2,none⟩) m'.Rz[i].Fz.length d2)∧c2≤maxLen∧m'.Rz.length≤c2∧d2≤maxLen∧m'.Rz[i].Fz.length≤d2∧
   wz.cell? ⟨b2,o2+k*4+1,none⟩=some (.bool m'.Rz[i].Fz[k].guard)∧wz.frozen? ⟨b2,o2+k*4+1,none⟩=false∧
   ∃m'',m''.Rz.length=m'.Rz.length∧(∀(j:Nat) (h1:j<m''.Rz.length) (h2:j<m'.Rz.length),m''.Rz[j].Fz.length=m'.Rz[j].Fz.length)∧GI w g m m'' f q K U R E (wz.setCell ⟨b2,o2+k*4+1,none⟩ (.bool true)):=by
 obtain⟨fp,hR,hnf,hs⟩:=h.R;obtain⟨hn,hf⟩:=hnf.resolve_left fun e=>by have:=e _ (List.getElem_mem hi);rw[this] at hk;exact absurd hk (Nat.not_lt_zero _)
 obtain⟨A0,n0,c0,A1,n1,c1,b,o,c2,b2,o2,d2,he,hc,a1,a2,a3,a4,hb2,hv,hz,fp',j1,j2,j3,j4⟩:=house_guard hR hn hf hi hk true;have hRe:R= .slice (some ⟨b,o,none⟩) m'.Rz.length c2:=by cases he;rfl
 have hl:=h.lf b2 (hs b2 hb2);have hrl: ∀(j:Nat) (h1:j<(m'.Rz.set i { m'.Rz[i] with Fz:=m'.Rz[i].Fz.set k { m'.Rz[i].Fz[k] with guard:=true}}).length) (h2:j<m'.Rz.length),(m'.Rz.set i { m'.Rz[i] with Fz:=m'.Rz[i].Fz.set k { m'.Rz[i].Fz[k] with guard:=true}})[j].Fz.length=m'.Rz[j].Fz.length:=fun j h1 h2=>by
  by_cases e:i=j
  ·subst e;rw[List.getElem_set_self];simp
  ·rw[List.getElem_set_ne e]
 refine⟨b,o,c2,b2,o2,d2,hRe,hc,a1,a2,a3,a4,hv,hz,_,by simp,hrl,⟨h.on.setCell (p:=⟨b2,o2+k*4+1,none⟩) hl.2 _,Blk.far h.km (by omega) _,Blk.far h.kq (by omega) _,⟨fp',j1,.inr ⟨j2,j3⟩,fun x hx=>hs x (j4 x hx)⟩,
  h.rq.imp fun fq hq=>⟨Rp.req.keep hq.1 fun z hz=>Below.heap_setCell _ _ _ _ (fun e=>(hq.2 z hz).1 (by rw[e];exact hs b2 hb2)),hq.2⟩,
  jf6 h.fit (jf5 (h.fit i hi) ⟨((h.fit i hi).Fz k hk).name,((h.fit i hi).Fz k hk).Vz⟩),by simpa using h.len,fun j h1 h2=> ?_,h.lf⟩⟩
 have h3:j<m'.Rz.length:=by simpa using h1
 exact(hrl j h1 h3).trans (h.Fz j h3 h2)
end
abbrev HBx:=@HB
theorem guard_there {m x:Jl} {a:Ans} {q:Req} {i k:Nat} (hd:Zn m q=(x,a)) (hq:Yw q=true) (hi:i<m.Rz.length) (hx:i<x.Rz.length) (hk:k<m.Rz[i].Fz.length) (hg:m.Rz[i].Fz[k].guard=true):
  (x.Rz[i].Fz.any fun y=>y.name.toList==m.Rz[i].Fz[k].name.toList&&(y.count==m.Rz[i].Fz[k].count||q.kind !=9))=true:=by
 obtain⟨p',h1,f',hf',hn,hc⟩:=guarded (r:=q) (List.getElem?_eq_getElem hi) (List.getElem_mem hk) hg (jmn hq).2.1.1;rw[hd] at h1;simp only at h1;rw[List.getElem?_eq_getElem hx,Option.some.injEq] at h1;rw[h1,List.any_eq_true];refine⟨f',hf', ?_⟩;rw[hn];rcases hc with h|h<;>simp[h]
theorem lawGuard (w:World) {A:Option Addr} {n c:Nat} {code:List UInt8} {fp:List Nat} (hx:SlR Rp.byte w A n c code fp):
  Calls Tryz.prog 3 #[.slice A n c] w fun e w'=>e= .returned (.bool true)∧Below w.heap.size w w':=by
 obtain⟨rfl,hcx,hmx, -⟩:=id hx;unfold maxLen at hmx;go_enter Tryz.func3,Tryz.ntmps3;by_cases hlen:(1048576:Int)<(code.length:Int)
 ·go_wp2;go_ret;exact⟨rfl,Below.refl _ _⟩
 go_wp2_with fail;refine(jp5 _ hx).mono ?_;rintro e w1 ⟨m,q,A0,n0,c0,A1,n1,c1,A2,n2,c2,A3,c3,f,fq,rfl,hR,hQ,hok,hsm,hlo,hdj,HB⟩;clear hx;obtain rfl:n2=m.Rz.length:=by
  obtain⟨_,_,_,_,_,_,_,_,_,_,_,_,he, -, -, -,h2⟩:=hR;cases he;exact h2.1
 go_upto_region 4 with fail
 refine wp_HQ ⟨_,hR⟩ ⟨_,hQ⟩ ?_;intro w2 hm hq hb3;have HWG:=Ja HB.size;replace HB:=Below.t HB hb3;have hf:=Ja (And.intro hok.1 (jo1 hsm));have hlt:=Rp.house.lt hR;have hltq:=Rp.req.lt hQ
 have HGI:=Ja (fun(hmo:Ys m=true)=>(show GI w w1.heap.size m m f q (.slice A0 n0 c0) (.slice A1 n1 c1) (.slice A2 m.Rz.length c2) (.slice A3 q.Ez.length c3) w2 from⟨HB,hm.k,hq.k,⟨f,Rp.house.below hR hb3 nle,(hok.keep (w':=w2) fun z hz=>hb3.block z (hlt z hz)).2 hmo |>.2,fun x hx=>hx⟩,⟨fq,Rp.req.below hQ hb3 nle,fun z hz=>⟨fun h=>hdj z h hz,hltq z hz⟩⟩,hok.1,rfl,fun _ _ _=>rfl,fun z hz=>⟨hlt z hz,by have:=hlo z (List.mem_append_left _ hz);omega⟩⟩))
 clear hR hQ hb3 hsm hok hlt hltq hlo hdj
 go_cut [31] from 24 to 31 (fun v wx=>∃bb:Bool,v= .bool bb∧(bb=true→Ys m=true)∧Below w2.heap.size w2 wx)
 case first=>
  obtain⟨x0,x1,x2⟩:=hm.cells;go_wp2_with fail;refine(jhe _ hm.r.choose_spec hf.out.1).mono ?_;rintro e w3 ⟨rfl,hb3⟩;clear x0 x1 x2;cases hmo:Ys m
  ·go_wp2_with fail;go_meet
   case rel=>exact⟨false,rfl,by simp,hb3⟩
  have HMO:=Ja hmo;clear hmo;cases hp:((code.length:Int) % 2==0)
  ·go_wp2_with fail;go_meet
   case rel=>exact⟨false,rfl,by simp,hb3⟩
  ·go_wp2_with fail;go_meet
   case rel=>exact⟨true,rfl,fun _=>HMO.out,hb3⟩
 case rest=>
  obtain⟨w4,hw4⟩: ∃w4,w4=wc:=⟨_,rfl⟩;subst hw4;obtain⟨bb,rfl,hcc,hb3⟩:=hcut;have HG4:=Ja (fun h=>(HGI.out (hcc h)).step hb3);replace hm:=hm.step hb3;replace hq:=hq.step hb3;replace HB:=Below.t HB hb3;clear hb3 hcc HGI;go_upto_if 31 with fail
  go_cut [] from 5 to 66 (fun wx=>∃m' q',HBx wx w1.heap.size m' (.slice A0 n0 c0) (.slice A1 n1 c1) (.slice A2 m.Rz.length c2)∧QB wx (w1.heap.size+1) q' (.slice A3 q'.Ez.length c3)∧V9 m'∧jdu q'∧m'.Rz.length=m.Rz.length∧Below w.heap.size w wx)
  case first=>
   cases bb
   ·go_wp2_with fail;go_meet
    case rel=>exact⟨m,q,hm,hq,hf.out.1,hf.out.2,rfl,HB⟩
   have G:=HG4.out rfl;clear HG4 hm hq HB;obtain⟨-, -, -,q3, -⟩:=G.qb.cells;have y3:=fun y:Obj=>J6 q3 y;have z3:=fun y:Obj=>Jb (G.step ((Below.refl _ _).alloc nle y)).kq 3;have HGA:=Ja (fun y:Obj=>G.step ((Below.refl _ _).alloc nle y));clear G q3;have hz0:(0:Int)≤(code.length:Int):=by omega
   go_upto_region 5 with fail
   go_cut [] from 32 to 39 (fun wx=>∃k:Int,GI w w1.heap.size m m f { q with kind:=k} (.slice A0 n0 c0) (.slice A1 n1 c1) (.slice A2 m.Rz.length c2) (.slice A3 q.Ez.length c3) wx)
   case first=>
    rcases(by omega:(code.length:Int) / 2 % 2=0∨(code.length:Int) / 2 % 2=1) with h3|h3
    ·go_wp2_with fail;go_meet
     case rel=>exact⟨7,(HGA.out _).same (i:=3) (v:= .int .i64 7) (q':= { q with kind:=7}) rfl rfl HWG.out⟩
    ·go_wp2_with fail;go_meet
     case rel=>exact⟨9,(HGA.out _).same (i:=3) (v:= .int .i64 9) (q':= { q with kind:=9}) rfl rfl HWG.out⟩
   case rest=>
    obtain⟨w5,hw5⟩: ∃w5,w5=wc:=⟨_,rfl⟩;subst hw5;obtain⟨kd,G⟩:=hcut;have HFQ:=Ja (fit_with (q':= { q with kind:=kd}) hf.out.2 rfl rfl rfl rfl rfl);have HEL:=Ja (show({ q with kind:=kd} :Req).Ez=q.Ez from rfl);generalize({ q with kind:=kd} :Req)=qk at G HFQ HEL;have HG:=Ja G;clear G y3 z3 HGA;go_wp2_with fail
    go_loopw [5] (fun iv wz=>∃(i:Nat) (m1:Jl),i≤m.Rz.length∧iv= .int .i64 i∧GI w w1.heap.size m m1 f qk (.slice A0 n0 c0) (.slice A1 n1 c1) (.slice A2 m.Rz.length c2) (.slice A3 q.Ez.length c3) wz) (fun iv _=>m.Rz.length - (intOf iv).toNat)
    case atStart=>exact⟨0,m,Nat.zero_le _,rfl,HG.out⟩
    case round=>
     obtain⟨i,m1,hi,rfl,G⟩:=hrel;obtain⟨-, -,x2⟩:=G.hb.cells;have HG1:=Ja G;clear G;by_cases hlt:i<m.Rz.length
     ·have hlt1:i<m1.Rz.length:=by have:=HG1.out.len;omega
      obtain⟨fr,hr⟩:=HG1.out.hb.Rz;have hmx:=hr.2.2.1;have hmc:=hr.2.1;unfold maxLen at hmx;obtain⟨b,o,D1,l1,d1,f1,D2,l2,d2,f2,rfl, -, -, -, -, -, -, -, -⟩:=J7 hr hlt1;have hre:m.Rz.length=m1.Rz.length:=HG1.out.len.symm;clear hr;have i0:(0:Int)≤(i:Int):=by omega
      have i1:(i:Int)<(m.Rz.length:Int):=by omega
      go_wp2_with fail
      go_loopw [6] (fun iv wz=>∃(k:Nat) (m2:Jl),k≤m.Rz[i].Fz.length∧iv= .int .i64 k∧GI w w1.heap.size m m2 f qk (.slice A0 n0 c0) (.slice A1 n1 c1) (.slice (some ⟨b,o,none⟩) m.Rz.length c2) (.slice A3 q.Ez.length c3) wz) (fun iv _=>m.Rz[i].Fz.length - (intOf iv).toNat)
      case atStart=>exact⟨0,m1,Nat.zero_le _,rfl,HG1.out⟩
      case round=>
       obtain⟨k,m2,hk,rfl,G⟩:=hrel;have hlt2:i<m2.Rz.length:=by have:=G.len;omega
       have hrl:=G.Fz i hlt2 hlt;obtain⟨-, -,x2⟩:=G.hb.cells;by_cases hkl:k<m.Rz[i].Fz.length
       ·obtain⟨b',o',c',b2,o2,d2',he,hc,a1,a2,a3,a4,hv,hz,m3,h1,h2,G3⟩:=G.put hlt2 (by rw[hrl];exact hkl);obtain⟨rfl,rfl⟩:b'=b∧o'=o:=by injection he with e1 e2 e3;injection e1 with e1;injection e1 with e1 e4;exact⟨e1.symm,e4.symm⟩
        rw[hrl] at hc a4;unfold maxLen at a3;have HG3:=Ja G3;clear G he h1 h2 G3 a1 a2;have k0:(0:Int)≤(k:Int):=by omega
        have k1:(k:Int)<(m.Rz[i].Fz.length:Int):=by omega
        go_wp2;exact⟨⟨k+1,m3,by omega,by go_num,HG3.out⟩,by simp[intOf];omega⟩
       ·obtain⟨fr,hr⟩:=G.hb.Rz;obtain⟨_,_,D1,l1,d1,f1,D2,l2,d2,f2,he, -, -, -, -,p2, -,s2, -⟩:=J7 hr hlt2;cases he;obtain rfl:l2=m.Rz[i].Fz.length:=s2.1.trans hrl;have HG3:=Ja G;clear G s2 hr hrl;have hk':k=m.Rz[i].Fz.length:=by omega
        subst hk';go_wp2;exact⟨⟨i+1,m2,by omega,by go_num,HG3.out⟩,by simp[intOf];omega⟩
     ·have hi':i=m.Rz.length:=by omega
      subst hi';go_wp2_with fail;go_meet
      case rel=>exact⟨m1,qk,HG1.out.hb,by rw[HEL.out];exact HG1.out.qb,HG1.out.fit,HFQ.out,HG1.out.len,HG1.out.on⟩
  case rest=>
   obtain⟨w6,hw6⟩: ∃w6,w6=wc:=⟨_,rfl⟩;subst hw6;clear hm hq HB HG4 hf HWG;obtain⟨m,q,hm,hq,hfm,hfq,hlen',HB⟩:=hcut;rw[←hlen'] at hm;have hf:=Ja (And.intro hfm hfq);clear hfm hfq hlen';obtain⟨x,a,ho⟩: ∃x a,jai m q=(x,a):=⟨_,_,rfl⟩;have HO:=Ja ho;clear ho;obtain⟨x0,x1,x2⟩:=hm.cells;go_wp2_with((refine wpList_load_row rfl 31 (.tmp 4) rfl _ rfl _ _ _ _ hq.k.out Tryz.underlying31 rfl jb3 ?_))
   go_wp2_with fail;refine(implDo hm hq hf.out.1 hf.out.2).mono ?_;rintro e w7 hd;obtain⟨A4,na4,ca4,A5,na5,ca5,A6,ca6,B0,nb0,cb0,B1,nb1,cb1,rfl,hX,hA,hb3⟩:=hd.parts HO.out;replace hm:=hm.step hb3;replace hq:=hq.step hb3;replace HB:=Below.t HB hb3;clear hb3 hd x0 x1 x2;go_upto_region 14 with fail
   refine wp_HA hX hA ?_;intro w8 hx ha hb3;replace hm:=hm.step hb3;replace hq:=hq.step hb3;replace HB:=Below.t HB hb3;clear hb3 hX hA;obtain⟨x0,x1,x2⟩:=hm.cells;go_wp2_with((refine wpList_load_row rfl 31 (.tmp 4) rfl _ rfl _ _ _ _ hq.k.out Tryz.underlying31 rfl jb3 ?_));go_wp2_with fail;refine(specDo hm hq hf.out.1 hf.out.2).mono ?_;rintro e w9 hd
   obtain⟨A7,na7,ca7,A8,na8,ca8,A9,ca9,B2,nb2,cb2,B3,nb3,cb3,rfl,hX,hA,hb3⟩:=hd.parts HO.out;replace hm:=hm.step hb3;replace hq:=hq.step hb3;replace HB:=Below.t HB hb3;replace hx:=hx.step hb3;replace ha:=ha.step hb3;clear hb3 hd x0 x1 x2;go_upto_region 15 with fail
   refine wp_HA hX hA ?_;intro w10 hy hb hb3;replace hm:=hm.step hb3;replace hq:=hq.step hb3;replace HB:=Below.t HB hb3;replace hx:=hx.step hb3;replace ha:=ha.step hb3;clear hb3 hX hA;obtain⟨x0,x1,x2⟩:=hx.cells;obtain⟨y0,y1,y2⟩:=hy.cells;go_wp2_with fail;refine(jqp hx hy).mono ?_;rintro e w11 ⟨rfl,hb3⟩;replace hm:=hm.step hb3;replace hq:=hq.step hb3;replace HB:=Below.t HB hb3
   replace hx:=hx.step hb3;replace ha:=ha.step hb3;replace hy:=hy.step hb3;replace hb:=hb.step hb3;clear hb3 x0 x1 x2 y0 y1 y2;obtain⟨x0,x1,x2,x3⟩:=ha.cells;obtain⟨y0,y1,y2,y3⟩:=hb.cells;go_wp2_with fail;refine(jp8 ha hb).mono ?_;rintro e w12 ⟨rfl,hb3⟩;replace hm:=hm.step hb3;replace hq:=hq.step hb3;replace HB:=Below.t HB hb3;replace hx:=hx.step hb3;replace ha:=ha.step hb3
   clear hb3 x0 x1 x2 x3 y0 y1 y2 y3 hy hb;obtain⟨x0,x1,x2⟩:=hm.cells;go_wp2_with fail;refine(jhe _ hm.r.choose_spec hf.out.1).mono ?_;rintro e w13 ⟨rfl,hb3⟩;replace hm:=hm.step hb3;replace hq:=hq.step hb3;replace HB:=Below.t HB hb3;replace hx:=hx.step hb3;replace ha:=ha.step hb3;clear hb3 x0 x1 x2;have H0:=Ja (fun h=>code_zero h HO.out);cases hmo:Ys m
   ·have h0:=H0.out (by simp[hmo]);obtain⟨x0, -, -, -⟩:=ha.cells;rw[h0] at x0;go_wp2_with fail;refine(chOk_any _).mono ?_;rintro e w20 ⟨rfl,hb4⟩;go_wp2;go_ret;exact⟨rfl,Below.t HB hb4⟩
   obtain⟨q0,q1,q2,q3,q4,q5,q6,q7,q8,q9,q10,q11,q12,q13,q14⟩:=hq.cells;go_wp2_with fail;clear q0 q1 q2 q3 q4 q5 q6 q7 q8 q9 q10 q11 q12 q13 q14;refine(jhd _ hq.r.choose_spec hf.out.2).mono ?_;rintro e w14 ⟨rfl,hb3⟩;replace hm:=hm.step hb3;replace hq:=hq.step hb3;replace HB:=Below.t HB hb3;replace hx:=hx.step hb3;replace ha:=ha.step hb3;clear hb3;cases hro:Yw q
   ·have h0:=H0.out (by simp[hro]);obtain⟨x0, -, -, -⟩:=ha.cells;rw[h0] at x0;go_wp2_with fail;refine(chOk_any _).mono ?_;rintro e w20 ⟨rfl,hb4⟩;go_wp2;go_ret;exact⟨rfl,Below.t HB hb4⟩
   have HOK:=Ja (And.intro hmo hro);have HD:=Ja (show Zn m q=(x,a) by rw[←HO.out,jhr HOK.out]);clear hmo hro H0;have HRL:=Ja (show x.Rz.length=m.Rz.length by have h:=repos_length m q;rw[HD.out] at h;exact h);obtain⟨-, -,m2⟩:=hm.cells;obtain⟨-, -,x2⟩:=hx.cells;obtain⟨-, -, -,q3, -⟩:=hq.cells;obtain⟨fhmr,hmr⟩:=hm.Rz;obtain⟨-,hmrc,hmrm, -⟩:=id hmr;unfold maxLen at hmrm
   obtain⟨fhxr,hxr⟩:=hx.Rz;obtain⟨-,hxrc,hxrm, -⟩:=id hxr;unfold maxLen at hxrm;go_wp2
   go_loopw [11] (fun iv wz=>∃i:Nat,i≤m.Rz.length∧iv= .int .i64 i∧Below w14.heap.size w14 wz) (fun iv _=>m.Rz.length - (intOf iv).toNat)
   case atStart=>exact⟨0,Nat.zero_le _,rfl,Below.refl _ _⟩
   case round=>
    obtain⟨i,hi,rfl,hbl⟩:=hrel;replace m2:=Je m2 hbl;replace x2:=Je x2 hbl;replace q3:=Je q3 hbl;by_cases hlt:i<m.Rz.length
    ·have hltx:i<x.Rz.length:=by have:=HRL.out;omega
     obtain⟨b,o,D1,l1,d1,f1,D2,l2,d2,f2,rfl, -, -, -, -,p2, -,s2, -⟩:=J7 (hmr.step hbl) hlt;obtain⟨b',o',D3,l3,d3,f3,D4,l4,d4,f4,rfl, -, -, -, -,r2, -,t2, -⟩:=J7 (hxr.step hbl) hltx;obtain⟨hn2,hs2c,hs2m, -⟩:=id s2;obtain⟨hn4,ht2c,ht2m, -⟩:=id t2;unfold maxLen at hs2m ht2m;obtain rfl:=hn2;obtain rfl:=hn4;have i0:(0:Int)≤(i:Int):=by omega
     have i1:(i:Int)<(m.Rz.length:Int):=by omega
     have i2:(i:Int)<(x.Rz.length:Int):=by omega
     go_wp2
     go_loopw [12] (fun iv wz=>∃k:Nat,k≤m.Rz[i].Fz.length∧iv= .int .i64 k∧Below wr.heap.size wr wz) (fun iv _=>m.Rz[i].Fz.length - (intOf iv).toNat)
     case atStart=>exact⟨0,Nat.zero_le _,rfl,Below.refl _ _⟩
     case round=>
      obtain⟨k,hk,rfl,hbk⟩:=hrel;replace m2:=Je m2 hbk;replace x2:=Je x2 hbk;replace q3:=Je q3 hbk;replace p2:=Je p2 hbk;replace r2:=Je r2 hbk;by_cases hkl:k<m.Rz[i].Fz.length
      ·have k0:(0:Int)≤(k:Int):=by omega
       have k1:(k:Int)<(m.Rz[i].Fz.length:Int):=by omega
       obtain⟨bR,oR,B9,m9,d9,g9,rfl, -, -,u0,u1,u2,u3, -, -⟩:=J3 (s2.step hbk) hkl;go_upto_region 26 with fail
       refine wp_New ?_;intro w30 hbx hb30;replace m2:=Je m2 hb30;replace x2:=Je x2 hb30;replace q3:=Je q3 hb30;replace p2:=Je p2 hb30;replace r2:=Je r2 hb30;have HB30:=Ja (Below.t hbk hb30);have HT2:=Ja (t2.step (Below.t hbk hb30));have y0:=hbx.cell 0;have y1:=hbx.cell 1;have y2:=hbx.cell 2
       simp only[List.getElem?_toArray,List.getElem?_cons_zero,List.getElem?_cons_succ] at y0 y1 y2;have HGT:=Ja (fun(hg:m.Rz[i].Fz[k].guard=true)=>guard_there HD.out HOK.out.2 hlt hltx hkl hg);clear u0 u1 u2 u3 hb30 hbx;generalize hfn:m.Rz[i].Fz[k].name=fn at y0 HGT;generalize hfc:m.Rz[i].Fz[k].count=fc at y2 HGT;generalize hfg:m.Rz[i].Fz[k].guard=fg at y1 HGT
       clear hfn hfc hfg;obtain⟨P,hP⟩: ∃P:Ref→Bool,P=fun y=>y.name.toList==fn.toList&&(y.count==fc||q.kind !=9):=⟨_,rfl⟩;rw[←hP] at HGT;have HP:=Ja hP;clear hP;go_wp2
       go_loopw [14,15] (fun v iv wz=>∃j:Nat,j≤x.Rz[i].Fz.length∧iv= .int .i64 j∧v= .bool ((x.Rz[i].Fz.take j).any P)∧Below w30.heap.size w30 wz) (fun _ iv _=>x.Rz[i].Fz.length - (intOf iv).toNat)
       case atStart=>exact⟨0,Nat.zero_le _,rfl,by simp,Below.refl _ _⟩
       case round=>
        obtain⟨j,hj,rfl,rfl,hbj⟩:=hrel;replace x2:=Je x2 hbj;replace q3:=Je q3 hbj;replace r2:=Je r2 hbj;replace y0:=Je y0 hbj;replace y1:=Je y1 hbj;replace y2:=Je y2 hbj;by_cases hjl:j<x.Rz[i].Fz.length
        ·have j0:(0:Int)≤(j:Int):=by omega
         have j1:(j:Int)<(x.Rz[i].Fz.length:Int):=by omega
         obtain⟨bR',oR',B8,m8,d8,g8,rfl, -, -,v0, -,v2, -, -, -⟩:=J3 (HT2.out.step hbj) hjl;have HNX:=Ja (show(x.Rz[i].Fz.take (j+1)).any P=((x.Rz[i].Fz.take j).any P||(x.Rz[i].Fz[j].name.toList==fn.toList&&(x.Rz[i].Fz[j].count==fc||q.kind !=9))) by rw[List.take_succ_eq_append_getElem hjl,List.any_append,HP.out];simp);generalize(x.Rz[i].Fz.take j).any P=bb at HNX
         generalize x.Rz[i].Fz[j].name=xn at v0 HNX;generalize x.Rz[i].Fz[j].count=xc at v2 HNX;go_upto_region 30 with fail
         cases bb<;>cases e1:(xn.toList==fn.toList)<;>cases e2:(xc==fc)<;>cases e3:(q.kind !=9)
         all_goals
          have n0:=BelowW.nonempty wr;have ex0:=BelowW.ex (w:=wr);have g0:=bwc x2;have g1:=bwc q3;have g2:=bwc r2;have g3:=bwc y0;have g4:=bwc y2;have g5:=bwc v0;have g6:=bwc v2;clear x2 q3 r2 y0 y2 v0 v2;refine Jf (by kernel_rfl) (by kernel_rfl) ?_
          repeat(go_big_quiet_step(fail))
          refine wpQuiet_nil ?_;rintro w9 ⟨m9,hw9⟩;have hb9:=m9.property;rw[←hw9] at hb9;clear hw9 m9;go_wp2;exact⟨⟨j+1,by omega,by go_num,by rw[HNX.out,e1,e2,e3]<;>rfl,Below.t hbj hb9⟩,by simp[intOf];omega⟩
        ·have hj':j=x.Rz[i].Fz.length:=by omega
         subst hj';rw[List.take_length];cases fg
         ·go_wp2;exact⟨⟨k+1,by omega,by go_num,Below.t HB30.out hbj⟩,by simp[intOf];omega⟩
         ·have HV:=Ja (HGT.out rfl);rw[HV.out];go_wp2;exact⟨⟨k+1,by omega,by go_num,Below.t HB30.out hbj⟩,by simp[intOf];omega⟩
      ·have hk':k=m.Rz[i].Fz.length:=by omega
       subst hk';go_wp2;exact⟨⟨i+1,by omega,by go_num,Below.t hbl hbk⟩,by simp[intOf];omega⟩
    ·have hi':i=m.Rz.length:=by omega
     subst hi';go_wp2;go_ret;exact⟨rfl,Below.t HB hbl⟩
def Opens {α H:Type} (enc:TypeId×Value→H) (P:Program) (t:TypeId) (r:Rp α) (ok:α→Prop):Prop:=
 ∀ {w:World} {base:Nat} {spare:Nat→Bool} {held:Bool} {fuel:Nat} {cs:List Value} {x:DataW H×List MemPlace},DataW.trod enc P w base spare held fuel t cs=some x→∃y fp,r.R w cs y fp∧ok y
section
variable {H:Type} {enc:TypeId×Value→H} {P:Program}
theorem opens_byte {t:TypeId} (ht:P.underlying t=some (.int .u8)):Opens enc P t Rp.byte (fun _=>True):=fun h=>by
 obtain⟨n,rfl,_,hw⟩:=DataW.trod_int ht h;simp[Lit.wf,IntKind.min,IntKind.max,IntKind.signed,IntKind.bits] at hw;refine⟨UInt8.ofNat n.toNat,[],⟨?_,rfl⟩,trivial⟩;have e:((UInt8.ofNat n.toNat).toNat:Int)=n:=by
  rw[UInt8.toNat_ofNat'];omega
 show [Value.int .u8 n]= [Value.int .u8 ((UInt8.ofNat n.toNat).toNat:Int)];rw[e]
theorem spot_none {w:World} {a:Addr} {v:Value} (h:w.cell? a=some v):a.spot=none:=by
 unfold World.cell? at h;split at h
 ·split at h
  ·cases h
  ·rename_i hs;simpa using hs
 ·cases h
theorem opens_rows {α:Type} {r:Rp α} {ok:α→Prop} {w:World} {base:Nat} {a:Addr} : ∀(len:Nat),(∀i,i<len→∃cs' y f,w.cells? base (a.add (i*r.k)) r.k=some cs'∧r.R w cs' y f∧ok y)→
  ∃xs l fp,l.length=len∧AllR r w xs l fp∧(∀y∈l,ok y)∧∀j u,xs[j]? =some u→w.cell? (a.add j)=some u
 | 0,_=>⟨[],[],[],rfl,⟨rfl,rfl⟩,by simp,by simp⟩
 |len+1,h=>by
  obtain⟨xs,l,fp,hl,ha,hok,hc⟩:=opens_rows len (fun i hi=>h i (by omega));obtain⟨cs',y,f,hcs,hr,hy⟩:=h len (by omega);obtain⟨_,hcl,hat⟩:=World.cells?_some hcs;have hxl:=ha.len;refine⟨xs++cs',l++ [y],fp++f,by simp[hl],ha.snoc hr,fun z hz=> ?_,fun j u hu=> ?_⟩
  ·rcases List.mem_append.1 hz with hz|hz
   ·exact hok z hz
   ·simp at hz;subst hz;exact hy
  ·by_cases hj:j<xs.length
   ·rw[List.getElem?_append_left hj] at hu;exact hc j u hu
   ·rw[List.getElem?_append_right (by omega)] at hu;have hlt:=(List.getElem?_eq_some_iff.1 hu).1;have:=hat (i:=j - xs.length) (by omega);rw[hu] at this;rw[Go.Deep.add_add,show len*r.k+(j - xs.length)=j from by rw[hl] at hxl;omega] at this;exact this
theorem opens_slice {α:Type} {r:Rp α} {ok:α→Prop} {t e:TypeId} (ht:P.underlying t=some (.slice e)) (hC:P.cellsOf e=r.k) (hk:0<r.k) (h:Opens enc P e r ok):Opens enc P t (Rp.slice r) (fun l=>∀y∈l,ok y):=fun {w base spare held fuel cs x} hr=>by
 rcases open_slice ht hr with ⟨rfl,_⟩|⟨a,len,cap,m,n,D,Pl,rfl,hb,hl,hm,hmm,_,hi⟩
 ·exact⟨[],[],⟨none,0,0,rfl,SlR.nil⟩,by simp⟩
 ·have hle:len≤m:=by rw[hmm];split<;>omega
  rw[hC] at hi;obtain⟨xs,l,fp,hlen,ha,hok,hc⟩:=opens_rows (r:=r) (ok:=ok) (w:=w) (base:=base) (a:=a) len (fun i hii=>by
   obtain⟨cs',hcs,htr⟩:=hi i (by omega);obtain⟨y,f,hR,hy⟩:=h htr;exact⟨cs',y,f,hcs,hR,hy⟩)
  have hxl:=ha.len;by_cases h0:len=0
  ·subst h0;have:l= []:=List.eq_nil_of_length_eq_zero hlen;subst this;obtain⟨rfl,rfl⟩:=ha;exact⟨[],[],⟨some a,0,cap,rfl,rfl,Nat.zero_le _,hm,[],[],[],⟨by simp,.inl ⟨rfl,rfl⟩⟩,⟨rfl,rfl⟩,rfl⟩,by simp⟩
  ·have hpos:0<xs.length:=by rw[hxl,hlen];exact Nat.mul_pos (by omega) hk
   have h00:=hc 0 xs[0] (List.getElem?_eq_getElem hpos);have ha0:a.add 0=a:=by simp[Addr.add]
   rw[ha0] at h00;obtain⟨b,o,s⟩:=a;have hs:s=none:=spot_none h00;subst hs;refine⟨l,[b]++fp,⟨_,len,cap,rfl,hlen.symm,hl,hm,xs,[b],fp,⟨by rw[hxl,hlen],.inr ⟨by omega,b,o,rfl,rfl,World.block_lt_of_cell? w _ h00,fun j u hu=> ?_⟩⟩,ha,rfl⟩,hok⟩;have:=hc j u hu;rwa [Addr.add_lit] at this
theorem post_of_below {f:Func} {s:ChangeSpec} {apart fresh handsOn again:Bool} {W W':World} {args:Array Value} {v:Value} {ds gs:List (DataW H)} {before pa pv:List MemPlace}
  (hW:DataW.Whole enc P f.params.toList s.vars apart W args.toList ds gs before)
  (hres: ∀(b:Nat) (sp:Nat→Bool) (hd:Bool),DataW.TrodAll enc P W' b sp hd f.resultTypes.toList (v.resultList f.resultTypes.size) (s.fn H (ds++gs)).results [])
  (hargs: ∀sp:Nat→Bool,(∀p∈before,sp p.block=true)→DataW.TrodAll enc P W' 0 sp true f.params.toList args.toList (s.fn H (ds++gs)).args pa)
  (hvars: ∀sp:Nat→Bool,(∀p∈before,sp p.block=true)→DataW.TrodVars enc P W' sp s.vars (s.fn H (ds++gs)).vars pv)
  (hps:before=pa++pv) (hb:Below W.heap.size W W')
  (hok: ∀(j:Nat) (t:TypeId) (r:Value),f.resultTypes[j]? =some t→(v.resultList f.resultTypes.size)[j]? =some r→Value.okWide P W' .any 0 t r):
  s.post enc P f apart fresh handsOn again W args v W':=by
 have hlt: ∀p∈before,p.block<W.heap.size:=fun p hp=>hW.lt p hp;have hold: ∀p∈before,(fun b=>decide (b<W.heap.size)) p.block=true:=fun p hp=>by simpa using hlt p hp
 refine⟨ds,gs,before,[],pa,pv,hW,hres _ _ _,hargs _ hold,hvars _ hold,World.keptBut_mono (fun p hp=>⟨hp, ?_⟩) (hb.frame (·∈before)),fun _=> ?_⟩
 ·rw[hps,List.mem_append] at hp;exact Or.inr hp
 ·obtain⟨_,_,_,_,_,hz,hn⟩:=hW;refine⟨hok,_,_,([]++pa)++pv,⟨[]++pa,pv,trodAll_append (hargs _ (fun _ _=>rfl)) (hres _ _ _),hvars _ (fun _ _=>rfl),rfl, ?_, ?_⟩, ?_⟩
  ·intro b off hp;have hin:MemPlace.cell b off∈before:=by rw[hps];simpa using hp
   rw[hb.frozen (hlt _ hin)];exact hz b off hin
  ·intro ha;have:=hn ha;rw[hps] at this;simpa using this
  ·intro p hp _;rw[hps];simpa using hp
end
theorem fnMdlGuard_own:ownKnob Tryz.prog.godebug=none:=by kernel_rfl
theorem fnMdlGuard_laidOut:laidOutB Tryz.prog=true:=by kernel_rfl
theorem fnMdlGuard_contract (H:Type) (enc:TypeId×Value→H) (W:World) (base:Nat) (args:Array Value) (ds gs:List (DataW H)) (before:List MemPlace)
  (hval0: ∀(j:Nat) t v,Tryz.f3.params[j]? =some t→args[j]? =some v→Value.okWide Tryz.prog W .any base t v)
  (hW:DataW.Whole enc Tryz.prog Tryz.f3.params.toList Rows.fnMdlGuardSpec.vars false W args.toList ds gs before):
  Calls Tryz.prog 3 args W fun e W'=>∃v,e= .returned v∧Rows.fnMdlGuardSpec.post enc Tryz.prog Tryz.f3 false true false false W args v W':=by
 have hval:=hval0;have hW':=hW;obtain⟨p,q,hA0,hV,rfl,hfz,hnd⟩:=hW;have hA:DataW.TrodAll enc Tryz.prog W 0 (fun _=>true) true Tryz.f3.params.toList args.toList ds p:=hA0;rw[Tryz.params3] at hA hval;obtain⟨v0,d0,rfl,rfl,h0⟩:=trodAll_one hA;obtain⟨rfl,rfl⟩:=trodVars_none hV;have h0k:=h0;obtain⟨a0,len0,cap0,rfl⟩:=okWide_slice Tryz.underlying22 (hval 0 22 v0 rfl rfl);obtain⟨fuel0,hf0⟩:=h0
 obtain⟨l0,fp0,⟨A0,n0,c0,hcs0,hs0⟩,hw0⟩:=opens_slice Tryz.underlying22 (by kernel_rfl) (by decide) (opens_byte Tryz.underlying5) hf0;have hc0:Value.slice a0 len0 cap0= .slice A0 n0 c0:=by simpa [Value.cells] using hcs0
 rw[hc0] at h0k hW' ⊢;clear hf0 hcs0 hc0;clear hA0 hval hval0;simp only[List.append_nil] at hW';refine(lawGuard W hs0).mono fun e W' ⟨he,hb⟩=> ?_;subst he;have hlt0: ∀y∈p,y.block<W.heap.size:=fun y hy=>hW'.lt y (by simp[hy])
 refine⟨_,rfl,post_of_below (pa:=p) (pv:=[]) hW' (fun _ _ _=>trodAll_mk1 (shut_bool Tryz.underlying4 _)) (fun sp hsp=> ?_) (fun _ _=>rfl) (by simp) hb (ok_one (by kernel_rfl) rfl (okWide_bool_mk Tryz.underlying4 _))⟩;exact trodAll_mk1 (WideElems.Trod_stays fnMdlGuard_laidOut (by kernel_rfl) (of_decide_eq_true (by kernel_rfl)) h0k (fun y hy=>hb.same (hlt0 y hy)) (fun y hy=>hsp y (by simp[hy])))
mutual
def fnMdlGuard_flat:DataW Unit→List Value
 | .lit l=>[l.value]
 | .agg ps=>fnMdlGuard_flats ps
 |_=>[]
def fnMdlGuard_flats:List (DataW Unit)→List Value
 | []=>[]
 |d::r=>fnMdlGuard_flat d++fnMdlGuard_flats r
end
noncomputable def fnMdlGuard_world (os:Os):World:=
 { World.holding Tryz.prog os ⟨#[],#[],[]⟩ with heap:=(((World.holding Tryz.prog os ⟨#[],#[],[]⟩).heap.modify 2 fun
   | .cells _ t frozen=> .cells (fnMdlGuard_flat Rows.laid_unicode_utf8_acceptRanges).toArray t frozen
   |o=>o).modify 1 fun
   | .cells _ t frozen=> .cells (fnMdlGuard_flat Rows.laid_unicode_utf8_first).toArray t frozen
   |o=>o)}
set_option maxRecDepth 100000 in
theorem fnMdlGuard_met (os:Os):laidMet Tryz.prog Rows.fnMdlGuardRow.laid ((fnMdlGuard_world os).forCall (fun _ _=>0) ⟨#[],#[.slice none 0 0],[]⟩).memory:=
 laidMet_of_run' 8 (by kernel_rfl) (by kernel_rfl)
theorem fnMdlGuard_reads (os:Os) {H:Type} (enc:TypeId×Value→H): ∃x,DataW.whole enc Tryz.prog ((fnMdlGuard_world os).forCall (fun _ _=>0) ⟨#[],#[.slice none 0 0],[]⟩).memory Tryz.f3.params.toList Rows.fnMdlGuardSpec.vars false (#[.slice none 0 0]:Array Value).toList 8=some x:=
 Option.isSome_iff_exists.1 (show(DataW.whole enc Tryz.prog ((fnMdlGuard_world os).forCall (fun _ _=>0) ⟨#[],#[.slice none 0 0],[]⟩).memory Tryz.f3.params.toList Rows.fnMdlGuardSpec.vars false (#[.slice none 0 0]:Array Value).toList 8).isSome=true by kernel_rfl)
theorem fnMdlGuard_lifted (os:Os) (started:os.Started) (H:Type) (enc:TypeId×Value→H) (F:Stop.Interp):
  ReturnsInHanded {} Tryz.checked os 3 .any ((OpenSpec.ofChange Rows.fnMdlGuardSpec).preRow enc Tryz.prog Tryz.f3 Rows.fnMdlGuardRow.domain false Rows.fnMdlGuardRow.laid) (((OpenSpec.ofChange Rows.fnMdlGuardSpec).at F).post enc Tryz.prog Tryz.f3 false true false false):=by
 obtain⟨x0,hx⟩:=fnMdlGuard_reads os enc;refine returnsInHanded_of_row (C:=Tryz.checked) (s:=OpenSpec.ofChange Rows.fnMdlGuardSpec) fnMdlGuard_own started (by kernel_rfl) Tryz.func3
  (witness_row_at (enc:=enc) (C:=Tryz.checked) false (fnMdlGuard_world os) #[.slice none 0 0] rfl (by kernel_rfl) (by kernel_rfl) (by kernel_rfl)
   (OpenSpec.preRow_of_cond 8 hx (by kernel_rfl) (fun k hk=>by cases hk) (by kernel_rfl) (fnMdlGuard_met os))) ?_
 intro W base args ds gs before hval hW _ _ _ _ _ _;exact fnMdlGuard_contract H enc W base args ds gs before hval hW
theorem fnMdlGuard_closed:joinedFacts Tryz.pinned.checked.prog 3 Tryz.f3 (OpenSpec.ofChange Rows.fnMdlGuardSpec).bare Rows.fnMdlGuardRow=true:=by
 unfold joinedFacts;simp only[Bool.and_eq_true]
 repeat' apply And.intro
 all_goals(as_aux_lemma=>kernel_rfl)
theorem fnMdlGuard_said:Rows.FnMdlGuardSaid:=
 OpenClaim.holds_of_cond 3 Tryz.f3 rfl rfl rfl rfl rfl rfl rfl ⟨rfl,rfl,rfl,rfl,rfl⟩ rfl rfl rfl rfl rfl (by kernel_rfl) Tryz.func3 fnMdlGuard_closed
  (of_decide_eq_true (by kernel_rfl)) (by unfold Func.isWrapper;first|(rw[if_pos (by decide+kernel)];kernel_rfl)|(rw[if_neg (by decide+kernel)];exact⟨rfl,rfl⟩))
  (fun os started H enc _ F=>by rw[OpenClaim.pre_eq_preRow];exact fnMdlGuard_lifted os started H enc F)
theorem fnMdlGuard_plain (f:FuncId) (fn:Func) (hf:Tryz.pinned.checked.prog.funcNamed "loop.example/chartulary/laws.FnMdlGuard" =some f) (hfn:Tryz.pinned.checked.prog.funcs[f]? =some fn):
  false=Tryz.pinned.checked.prog.looks []∧∀(j:Nat) t,fn.params[j]? =some t→Tryz.pinned.checked.prog.wantsStandIn t=false:=by
 obtain rfl:f=3:=Option.some.inj ((show Tryz.prog.funcNamed "loop.example/chartulary/laws.FnMdlGuard" =some 3 by kernel_rfl).symm.trans hf) |>.symm;obtain rfl:fn=Tryz.f3:=(Option.some.inj (Tryz.func3.symm.trans hfn)).symm;refine⟨by kernel_rfl,fun j t ht=> ?_⟩;rw[Tryz.params3] at ht;have hm:=Array.mem_of_getElem? ht;simp only[List.mem_toArray,List.mem_cons,List.not_mem_nil,or_false] at hm
 rcases hm with rfl
 ·exact(show Tryz.prog.wantsStandIn 22=false by kernel_rfl)
theorem fnMdlGuard_holds:Rows.FnMdlGuardCardSaid:=
 Claim7.holds_tied_plain_at .later [] _ _ _ _ fnMdlGuard_said (fun _ h=>by cases h) (by kernel_rfl) (fun _ h=>by cases h) fnMdlGuard_row_tie rfl ⟨rfl,rfl⟩ (by kernel_rfl) rfl fnMdlGuard_plain (by kernel_rfl)
#print axioms fnMdlGuard_holds
end Go.Proofs.YtlkoaobaoffpaaaGreatDoor
