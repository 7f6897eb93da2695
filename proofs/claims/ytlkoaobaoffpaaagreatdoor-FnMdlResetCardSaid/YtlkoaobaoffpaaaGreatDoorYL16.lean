/- FnMdlReset: for every input the law answers true and leaves its arguments as they were. Conditions: the listed library tables read as the tie says. -/
import Derived.WalkKit
import Derived.WalkSpells
import Derived.WalkLawsBesides
import Derived.Deep.AppendLies
import Derived.Deep.Draws
import Derived.ProofKit
import Derived.Deep.Slices
import Derived.Deep.Fields
import Derived.OpenShut
import Derived.ChangeMaps5
import Derived.Deep.DeepHandedRow
import Derived.Lib.LaidTab
import Derived.SevenTiedAt
import Derived.Test.YtlkoaobaoffpaaaGreatDoorZ2
import Derived.Test.YtlkoaobaoffpaaaGreatDoorZ3
import Derived.Test.YtlkoaobaoffpaaaGreatDoorZ5
import Derived.Test.YtlkoaobaoffpaaaGreatDoorZ4
import Derived.Test.YtlkoaobaoffpaaaGreatDoorZ27
import Derived.Test.YtlkoaobaoffpaaaGreatDoorZ24
import Derived.Test.YtlkoaobaoffpaaaGreatDoorZ20
import Derived.Test.YtlkoaobaoffpaaaGreatDoorZ28
import Derived.Test.YtlkoaobaoffpaaaGreatDoorZ17
import Derived.Test.YtlkoaobaoffpaaaGreatDoorZ1
import Derived.Test.YtlkoaobaoffpaaaGreatDoorCards
import Derived.Test.YtlkoaobaoffpaaaGreatDoorTie
namespace Go.Proofs.YtlkoaobaoffpaaaGreatDoor
open Go.RowKit
attribute [local go_sem ↓] Go.wp_at_zero Go.wp_at_succ
open Go.ChangeShapes Go.WideShapes Go.ChangeAt Go.RowKit Go.Deep
set_option maxHeartbeats 8000000
set_option maxRecDepth 100000
set_option linter.unusedSimpArgs false
set_option linter.unusedVariables false
theorem puts_heap_other {b:Nat} : ∀ {vs:List Value} {o:Nat} {w:World} {x:Nat},x≠b→(puts w b o vs).heap[x]? =w.heap[x]?
 | [],_,_,_,_=>rfl
 |_::vs,_,_,_,h=>(puts_heap_other (vs:=vs) h).trans (Below.heap_setCell _ _ _ _ h)
def mdlFiles (m:Jl) (repo:Int) (name:ByteArray) (back:Int):Option (List File):=if Ys m then Xn m repo name back else none
def FilesOwn (w:World) (o:Option (List File)) (e:Ending) (w':World):Prop:=
 ∃v,e= .returned (.tuple #[v,.bool o.isSome])∧w'.ownsRow w.heap.size 98 2 v (o.getD []).length ((o.getD []).flatMap Jj)∧Below w.heap.size w w'
theorem mdlFiles_ok {m:Jl} {repo back:Int} {name:ByteArray} (hm:Ys m=true):mdlFiles m repo name back=Xn m repo name back:=if_pos hm
theorem mdlFiles_no {m:Jl} {repo back:Int} {name:ByteArray} (hm:Ys m=false):mdlFiles m repo name back=none:=if_neg (by simp[hm])
theorem implMdlFiles_any {cs:List Value} {x:Jl} {fx:List Nat} (repo:Int) (name:ByteArray) (back:Int) (hb1:back≤9223372036854775807) (w:World) (hx:Rp.house.R w cs x fx) (hf:V9 x):
  Calls Tryz.prog 27 #[.agg cs.toArray,.int .i64 repo,.string name,.int .i64 back] w (FilesOwn w (mdlFiles x repo name back)):=by
 have hx0:=hx;obtain⟨A0,n0,c0,f0,A1,n1,c1,f1,A2,n2,c2,f2,rfl,hff,h0,h1,h2⟩:=hx;have RH:=Ja (fun(W:World) (hb:Below w.heap.size w W)=>Rp.house.below hx0 hb nle);have HF:=Ja hf;clear hx0 h0 h1 h2 hff hf;have kb:=Blk.new w 26 #[.slice A0 n0 c0,.slice A1 n1 c1,.slice A2 n2 c2];have HB:=(Below.refl w.heap.size w).alloc nle (.cells #[.slice A0 n0 c0,.slice A1 n1 c1,.slice A2 n2 c2] 26)
 go_enter Tryz.func27,Tryz.ntmps27;go_wp2_with fail;refine(jhy (x:=x) _ (RH.out _ HB) HF.out).mono ?_;rintro e w1 ⟨rfl,hb⟩;replace kb:=kb.step hb;replace HB:=Below.t HB hb;clear hb;cases hd:Ys x
 ·have HV:=Ja (mdlFiles_no (repo:=repo) (name:=name) (back:=back) hd);clear hd;go_wp2
  go_ret2
  rw[HV.out];exact⟨_,rfl,World.ownsRow_nil _ _ _ _,HB⟩
 ·have HV:=Ja (mdlFiles_ok (repo:=repo) (name:=name) (back:=back) hd);have HL:=Ja (jk5 (repo:=repo) (name:=name) (back:=back) hd);clear hd;have u0:=Blk.c0 kb;have u1:=Blk.c1 kb;have u2:=Blk.c2 kb;go_wp2_with fail;refine(jo3 (x:=x) repo name back hb1 _ (RH.out _ HB)).mono ?_;rintro e w2 ⟨A4,n4,c4,f4,rfl,hs4,_,hb⟩;replace HB:=Below.t HB hb;clear hb u0 u1 u2 kb;go_wp2_with fail
  refine(Xk _ hs4 (Nat.le_trans HL.out (by decide))).mono ?_;rintro e w3 ⟨v,rfl,hown,hb⟩;have HO:=Ja (Zy hown HB.size);replace HB:=Below.t HB hb;clear hown hb hs4;go_wp2
  go_ret2
  rw[HV.out];exact⟨_,rfl,HO.out,HB⟩
section
variable {w w':World} {g:Nat} {m:Jl} {q:Req} {a:Ans} {K U R E F N:Value}
end
theorem HB.Rz {w:World} {g:Nat} {m:Jl} {K U:Value} {A:Option Addr} {n c:Nat} (h:HB w g m K U (.slice A n c)): ∃f,SlR Rp.repo w A n c m.Rz f:=by
 obtain⟨f,A0,n0,c0,f0,A1,n1,c1,f1,A2,n2,c2,f2,e, -, -, -,h2⟩:=h.r;cases e;exact⟨f2,h2⟩
theorem HB.used {w:World} {g:Nat} {m:Jl} {K R:Value} {A:Option Addr} {n c:Nat} (h:HB w g m K (.slice A n c) R): ∃f,SlR Rp.int w A n c m.used f:=by
 obtain⟨f,A0,n0,c0,f0,A1,n1,c1,f1,A2,n2,c2,f2,e, -, -,h2, -⟩:=h.r;cases e;exact⟨f1,h2⟩
theorem HB.keys {w:World} {g:Nat} {m:Jl} {U R:Value} {A:Option Addr} {n c:Nat} (h:HB w g m (.slice A n c) U R): ∃f,SlR Rp.int w A n c m.keys f:=by
 obtain⟨f,A0,n0,c0,f0,A1,n1,c1,f1,A2,n2,c2,f2,e, -,h2, -, -⟩:=h.r;cases e;exact⟨f0,h2⟩
theorem QB.Ez {w:World} {g:Nat} {q:Req} {A:Option Addr} {n c:Nat} (h:QB w g q (.slice A n c)): ∃f,SlR Rp.edit w A n c q.Ez f:=by
 obtain⟨f,A0,n0,c0,f0,e, -,h1⟩:=h.r;have:(Value.slice A n c)= .slice A0 n0 c0:=by
  have:=congrArg (fun l=>l[8]?) e;simpa [V5] using this
 cases this;exact⟨f0,h1⟩
theorem req_with {w:World} {q q':Req} {E:Value} {f:List Nat} (h:Rp.req.R w (V5 q E).toList q f) (he:q'.Ez=q.Ez):Rp.req.R w (V5 q' E).toList q' f:=by
 obtain⟨A0,n0,c0,f0,e,hf,h1⟩:=h;have:E= .slice A0 n0 c0:=by
  have:=congrArg (fun l=>l[8]?) e;simpa [V5] using this
 subst this;exact⟨A0,n0,c0,f0,rfl,hf,he▸h1⟩
theorem fit_with {q q':Req} (h:jdu q) (h1:q'.ref=q.ref) (h2:q'.other=q.other) (h3:q'.path=q.path) (h4:q'.rule=q.rule) (h5:q'.Ez=q.Ez):jdu q':=
 ⟨by rw[h1];exact h.ref,by rw[h2];exact h.other,by rw[h3];exact h.path,by rw[h4];exact h.rule,by rw[h5];exact h.Ez⟩
section
variable {P:Program} {s:Code} {Q:Exit→Act→World→Prop} {b:Act} {w:World} {m:Jl} {q:Req} {a:Ans} {K U R E F N:Value}
def PutQ (w W:World) (g:Nat) (q:Req) (E:Value):Prop:=∀i v q',(V5 q E).setIfInBounds i v=V5 q' E→q'.Ez=q.Ez→QB (W.setCell ⟨g,i,none⟩ v) g q' E∧Below w.heap.size w (W.setCell ⟨g,i,none⟩ v)
theorem wp_Qp (hQ: ∃f,Rp.req.R w (V5 q E).toList q f) (h: ∀W,QB W w.heap.size q E→Below w.heap.size w W→PutQ w W w.heap.size q E→(∀i,W.frozen? ⟨w.heap.size,i,none⟩=false)→s.wp P Q b W):s.wp P Q b (w.alloc (.cells (RA q E) 31)):=by
 obtain⟨f,hQ⟩:=hQ;have hb:=(Below.refl w.heap.size w).alloc nle (.cells (V5 q E) 31);have hk:=Blk.new w 31 (V5 q E);have hR:=Rp.req.below hQ hb nle;refine h _ ⟨hk,f,hR⟩ hb (fun i v q' e he=> ?_) (Jb hk);refine⟨⟨e▸hk.put i v,f,Rp.req.keep (req_with hR he) fun z hz=> ?_⟩,hb.setCell nle _⟩;exact Below.heap_setCell _ _ _ _ (by have:=Rp.req.lt hQ z hz;rintro rfl;simp at this)
end
section
variable {w0 W W':World} {m:Jl} {q q':Req} {K U R E E':Value}
end
theorem req_empty {w:World} {q:Req} (h:q.Ez= []) (A:Option Addr) (c:Nat) (hc:c≤maxLen):Rp.req.R w (V5 q (.slice A 0 c)).toList q []:=
 ⟨A,0,c,[],rfl,rfl,by rw[h];exact⟨rfl,Nat.zero_le _,hc,[],[],[],⟨rfl,.inl ⟨rfl,rfl⟩⟩,⟨rfl,rfl⟩,rfl⟩⟩
section
variable {w w':World} {g lo:Nat} {m:Jl} {K U R:Value}
end
theorem implFiles_some {w:World} {g:Nat} {m:Jl} {K U R:Value} {l:List File} (h:HB w g m K U R) (hf:V9 m) (repo:Int) (name:ByteArray) (back:Int) (hb:back≤9223372036854775807) (ho:mdlFiles m repo name back=some l):
  Calls Tryz.prog 27 #[.agg #[K,U,R],.int .i64 repo,.string name,.int .i64 back] w fun e w'=>∃A c f,e= .returned (.tuple #[.slice A l.length c,.bool true])∧SlR Rp.file w' A l.length c l f∧Below w.heap.size w w':=
 (implMdlFiles_any repo name back hb w h.r.choose_spec hf).mono fun e w' ⟨v,h1,h2,h3⟩=>by
  rw[ho] at h1 h2;simp only[Option.getD_some,Option.isSome_some] at h1 h2;obtain⟨A,c,f,rfl,hs, -⟩:=Xw (k:=2) (enc:=Jj) (hk:=fun _=>rfl) (h1:=Vz) h2;exact⟨A,c,f,h1,hs,h3⟩
theorem chFiles_same {w:World} {A B:Option Addr} {n c m d:Nat} {x:List File} {fx fy:List Nat} (hx:SlR Rp.file w A n c x fx) (hy:SlR Rp.file w B m d x fy):
  Calls Tryz.prog 28 #[.slice A n c,.slice B m d] w fun e w'=>e= .returned (.bool true)∧Below w.heap.size w w':=
 (jgb w hx hy).mono fun _ _ ⟨h1,h2⟩=>⟨by rw[h1];simp,h2⟩
theorem sl_rule1 {w:World} {b:Nat} {t:TypeId} {r:Yt} (h:Blk w b t (Jh r).toArray):SlR Rp.rule w (some ⟨b,0,none⟩) 1 1 [r] [b]:=by
 refine⟨rfl,Nat.le_refl _,by simp[maxLen],Jh r,[b],[],⟨rfl,.inr ⟨by decide,b,0,rfl,rfl,h.lt,fun j u hu=> ?_⟩⟩,AllR.flat.2 ⟨by simp,rfl⟩,rfl⟩;have:=h.cell j;rw[Nat.zero_add,this];simpa using hu
theorem fitRules1 {r:Yt} (h:Vn r):Ym [r]:=fun i hi=>by
 obtain rfl:i=0:=by simp at hi;omega
 exact h
def allWrite:Yt:=⟨0,⟨#[]⟩,⟨#[]⟩,true⟩
theorem house_rules {w:World} {cs:List Value} {m:Jl} {fp:List Nat} (h:Rp.house.R w cs m fp) (hn:fp.Nodup) (hf:Free w fp) {i:Nat} (hi:i<m.Rz.length):
  ∃A0 n0 c0 A1 n1 c1 b o c2,cs= [.slice A0 n0 c0,.slice A1 n1 c1,.slice (some ⟨b,o,none⟩) m.Rz.length c2]∧c2≤maxLen∧m.Rz.length≤c2∧b∈fp∧
   ∀(w1:World) (A:Option Addr) (c:Nat) (l:List Yt) (f':List Nat),Below w.heap.size w w1→SlR Rp.rule w1 A l.length c l f'→f'.Nodup→Free w1 f'→(∀x∈f',x∉fp)→
    (∃v0,w1.cell? ⟨b,o+i*3+1,none⟩=some v0)∧w1.frozen? ⟨b,o+i*3+1,none⟩=false∧
    ∃fp',Rp.house.R (w1.setCell ⟨b,o+i*3+1,none⟩ (.slice A l.length c)) cs { m with Rz:=m.Rz.set i { m.Rz[i] with Uz:=l}} fp'∧fp'.Nodup∧Free (w1.setCell ⟨b,o+i*3+1,none⟩ (.slice A l.length c)) fp'∧∀x∈fp',x∈fp∨x∈f':=by
 obtain⟨A0,n0,c0,A1,n1,c1,b,o,c2, -, -, -,rfl,hcm,hcl, -, -, -,hbm, -⟩:=X9 h hn hf hi;refine⟨A0,n0,c0,A1,n1,c1,b,o,c2,rfl,hcm,hcl,hbm,fun w1 A c l f' hb hsl hfn hff hd=> ?_⟩;have h1:Rp.house.R w1 _ m fp:=Rp.house.below h hb nle;have hf1:Free w1 fp:=fun x hx=>(hb.block x (Rp.house.lt h x hx))▸hf x hx
 obtain⟨_,_,_,_,_,_,_,_,_,cr,f1,g1,he, -, -,hn1,hfr1,hs1,hbm1,hsg,hRr,hE,hset⟩:=X9 h1 hn hf1 hi;cases he;obtain⟨ra,rn,rc,rf,ra',rn',rc',rf',rfl,hff1,hru,hre⟩:=id hRr;have hnm:=hE.nmem;rw[hff1] at hnm;have hE':=hE.put (j:=1) (by simp) (.slice A l.length c);have hbf:b∉f':=fun h=>hd b h hbm;have hrs: ∀z∈rf',z∈f1:=fun z hz=>by rw[hff1];simp[hz]
 refine⟨⟨_,hE.cells 1 _ rfl⟩,hE.frozen _, ?_⟩;obtain⟨fp',j1,j2,j3,j4⟩:=hset _ _ { m.Rz[i] with Uz:=l} (f'++rf') hE' ⟨_,_,_,f',_,_,_,rf',rfl,rfl,hsl.putN hbf _,hre.putN (fun h=>hnm (by simp[h])) _⟩
  (List.nodup_append.2 ⟨hfn,(List.nodup_append.1 (hff1▸hn1)).2.1,fun x hx y hy e=>by subst e;exact hd x hx (hs1 x (hrs x hy))⟩) (fun x hx=>(List.mem_append.1 hx).elim (fun h=> .inr (hd x h)) fun h=> .inl (hrs x h))
  (fun x hx=>(List.mem_append.1 hx).elim (fun h=>(hff.setCell _ rfl _) x h) fun h=>hE'.free x (hE'.sub x (hrs x h)))
 exact⟨fp',j1,j2,j3,fun x hx=>(j4 x hx).elim .inl fun h=>(List.mem_append.1 h).elim .inr fun h=> .inl (hs1 x (hrs x h))⟩
theorem wp_NewD {P:Program} {s:Code} {Q:Exit→Act→World→Prop} {b:Act} {w:World} {t:TypeId} {cs:Array Value} (h: ∀W,Blk W w.heap.size t cs→Below w.heap.size w W→s.wp P Q b W):s.wp P Q b ((w.alloc (.cells cs t)).drew):=
 h _ (Blk.new w t cs) (((Below.refl _ _).alloc nle _).drew)
theorem Free.new {w:World} {t:TypeId} {cs:Array Value} :Free (w.alloc (.cells cs t)) [w.heap.size]:=fun b hb=>by
 obtain rfl:=List.mem_singleton.1 hb;exact⟨cs,t,Blk.new w t cs⟩
theorem below_puts {B b:Nat} : ∀ {vs:List Value} {o:Nat} {a w:World},Below B a w→B≤b→Below B a (puts w b o vs)
 | [],_,_,_,h,_=>h
 |v::vs,o,a,w,h,hb=>below_puts (vs:=vs) (h.setCell (p:=⟨b,o,none⟩) hb v) hb
abbrev HBx:=@HB
theorem Blk.puts {g:Nat} {t:TypeId} : ∀ {vs pre cs:List Value} {w:World},Blk w g t (pre++cs).toArray→vs.length=cs.length→Blk (puts w g pre.length vs) g t (pre++vs).toArray
 | [],pre,cs,w,h,hl=>by
  have:cs= []:=List.eq_nil_of_length_eq_zero hl.symm;subst this;exact h
 |v::vs,pre,c::cs,w,h,hl=>by
  have h1:=h.put pre.length v;have e:(pre++c::cs).toArray.setIfInBounds pre.length v=((pre++ [v])++cs).toArray:=by simp
  rw[e] at h1;have h2:=Blk.puts (vs:=vs) h1 (by simpa using hl);rw[List.length_append,List.length_singleton] at h2;have e2:(pre++ [v])++vs=pre++v::vs:=by simp
  rw[e2] at h2;exact h2
theorem req_put {w:World} {g:Nat} {m:Jl} {K U R:Value} {q:Req} (q':Req) {E:Value} {fp:List Nat} (km:Blk w g 26 #[K,U,R]) (hR:Rp.house.R w [K,U,R] m fp) (hn: ∀x∈fp,x≠g+1)
  (kq:Blk w (g+1) 31 (V5 q E)) (he:q'.Ez= []):
  HB (puts w (g+1) 0 (V5 q' (.slice none 0 0)).toList).drew g m K U R∧QB (puts w (g+1) 0 (V5 q' (.slice none 0 0)).toList).drew (g+1) q' (.slice none q'.Ez.length 0):=by
 have kk:Blk (puts w (g+1) 0 (V5 q' (.slice none 0 0)).toList) (g+1) 31 (V5 q' (.slice none 0 0)):=by
  have:=Blk.puts (vs:=(V5 q' (.slice none 0 0)).toList) (pre:=[]) (cs:=(V5 q E).toList) (w:=w) (g:=g+1) (by simpa using kq) (by simp[V5]);simpa using this
 have h0: ∀x,x≠g+1→(puts w (g+1) 0 (V5 q' (.slice none 0 0)).toList).heap[x]? =w.heap[x]? :=fun x hx=>puts_heap_other hx;rw[he];generalize puts w (g+1) 0 (V5 q' (.slice none 0 0)).toList=W at kk h0 ⊢;exact⟨⟨(h0 g (by omega)).trans km,fp,Rp.house.keep hR fun x hx=>h0 x (hn x hx)⟩,kk,[],req_empty he none 0 (Nat.zero_le _)⟩
def resetQ (key:Int) (name:ByteArray) (old:Int):Req:= { user:=1,key:=key,repo:=0,kind:=9,ref:=name,path:=⟨#[]⟩,old:=old,back:=1,Ez:=[],rule:=⟨0,⟨#[]⟩,⟨#[]⟩,false⟩,frm:=0,other:=⟨#[]⟩}
theorem manage_same {p:Xq} {r:Req} (h:(manage p r).2≠1):(manage p r).1=p:=by
 have:(manage p r).1=p∨(manage p r).2=1:=by
  unfold manage
  repeat' split
  all_goals first|exact .inl rfl|exact .inr rfl
 exact this.resolve_right h
theorem write_same {m:Jl} {p:Xq} {r:Req} (h:(write m p r).2≠1):(write m p r).1=m:=by
 have:(write m p r).1=m∨(write m p r).2=1:=by
  unfold write
  repeat' split
  all_goals first|exact .inl rfl|exact .inr rfl
 exact this.resolve_right h
theorem set_self {α:Type} {l:List α} {i:Nat} {a:α} (h:l[i]? =some a):l.set i a=l:=by
 obtain⟨hi,rfl⟩:=List.getElem?_eq_some_iff.1 h;exact List.set_getElem_self hi
theorem refused {m:Jl} {r:Req} (h:(Zn m r).2.code≠1∨r.kind=2∨r.kind=3∨r.kind=11):(Zn m r).1=m:=by
 unfold Zn at h ⊢;split
 ·split
  ·rfl
  ·split
   ·rfl
   ·rename_i p hp
    split
    ·rfl
    ·split
     ·rfl
     ·rename_i n1 n2 n3
      split
      ·rename_i hw
       refine write_same ?_;rcases h with h|h|h|h
       ·simpa [*,code] using h
       all_goals simp_all
      ·split
       ·rfl
       ·rename_i hk
        have:(manage p r).1=p:=by
         refine manage_same ?_;rcases h with h|h|h|h
         ·simpa [*,code] using h
         all_goals simp_all
        rw[this];simp[set_self hp]
 ·rfl
structure Laid (m:Jl) (r:Req) (p:Xq) (k:Nat):Prop where
 knows:knows m.keys r.user r.key=true
 writes:Vs r=true
 repo:m.Rz[r.repo.toNat]? =some p
 ref:Y7 p.Fz r.ref=some k
 may:Yi m p r=true
 old:(p.Fz.getD k Y8).count=r.old
 more:(p.Fz.getD k Y8).count≠14
 new:(newest m (p.Fz.getD k Y8) r).2=1
 used:m.used.getD (r.user - 1).toNat 0+Yg r.Ez≤200
 eq:Zn m r=(jpm m p k r (newest m (p.Fz.getD k Y8) r).1,code 1)
structure Managed1 (m:Jl) (r:Req) (p:Xq):Prop where
 knows:knows m.keys r.user r.key=true
 writes:Vs r=false
 kind:r.kind≠2∧r.kind≠3∧r.kind≠11
 repo:m.Rz[r.repo.toNat]? =some p
 Az:r.user=p.Az
 done:(manage p r).2=1
 eq:Zn m r=({ m with Rz:=m.Rz.set r.repo.toNat (manage p r).1},code 1)
theorem write_ways (m:Jl) (p:Xq) (r:Req):((write m p r).1=m∧(write m p r).2≠1)∨∃k,Y7 p.Fz r.ref=some k∧Yi m p r=true∧(p.Fz.getD k Y8).count=r.old∧(p.Fz.getD k Y8).count≠14∧(newest m (p.Fz.getD k Y8) r).2=1∧m.used.getD (r.user - 1).toNat 0+Yg r.Ez≤200∧write m p r=(jpm m p k r (newest m (p.Fz.getD k Y8) r).1,1):=by
 unfold write;split
 ·rename_i hm
  split
  ·exact .inl ⟨rfl,by simp⟩
  ·rename_i k hk
   split
   ·exact .inl ⟨rfl,by simp⟩
   ·rename_i h1
    split
    ·exact .inl ⟨rfl,by simp⟩
    ·rename_i h2
     split
     ·rename_i h3
      exact .inl ⟨rfl,h3⟩
     ·rename_i h3
      split
      ·exact .inl ⟨rfl,by simp⟩
      ·rename_i h4
       exact .inr ⟨k,hk,hm,Classical.not_not.1 h1,h2,Classical.not_not.1 h3,by omega,rfl⟩
 ·exact .inl ⟨rfl,by simp⟩
theorem doIt_none {m:Jl} {r:Req} (hp:m.Rz[r.repo.toNat]? =none) (hk:knows m.keys r.user r.key=true) (h11:r.kind≠11):Zn m r=(m,code 3):=by
 unfold Zn;rw[if_pos hk,if_neg h11,hp]
theorem doIt_writes {m:Jl} {r:Req} {p:Xq} (hk:knows m.keys r.user r.key=true) (hp:m.Rz[r.repo.toNat]? =some p) (hw:Vs r=true):Zn m r=((write m p r).1,code (write m p r).2):=by
 have h:r.kind=1∨r.kind=9∨r.kind=10:=by simpa [Vs,or_assoc] using hw
 unfold Zn;rw[if_pos hk,if_neg (by omega),hp];simp only[hw];rw[if_neg (by omega),if_neg (by omega)];rfl
theorem doIt_rest {m:Jl} {r:Req} {p:Xq} (hk:knows m.keys r.user r.key=true) (hp:m.Rz[r.repo.toNat]? =some p) (hw:Vs r=false) (h:r.kind≠2∧r.kind≠3∧r.kind≠11):
  Zn m r=if r.user≠p.Az then(m,code 4) else({ m with Rz:=m.Rz.set r.repo.toNat (manage p r).1},code (manage p r).2):=by
 unfold Zn;rw[if_pos hk,if_neg h.2.2,hp];simp only[hw];rw[if_neg h.1,if_neg h.2.1];rfl
theorem doIt_ways (m:Jl) (r:Req):((Zn m r).1=m∧((Zn m r).2.code=1→r.kind=2∨r.kind=3∨r.kind=11))∨(∃p k,Laid m r p k)∨∃p,Managed1 m r p:=by
 by_cases ht:r.kind=2∨r.kind=3∨r.kind=11
 ·exact .inl ⟨refused (.inr ht),fun _=>ht⟩
 ·by_cases hk:knows m.keys r.user r.key=true
  ·cases hp:m.Rz[r.repo.toNat]? with
   |none=>left;rw[doIt_none hp hk (by omega)];exact⟨rfl,fun h=>by simp[code] at h⟩
   |some p=>
    cases hw:Vs r
    ·have he:=doIt_rest hk hp hw (by omega);by_cases ha:r.user=p.Az
     ·rw[if_neg (by simpa using ha)] at he;by_cases hd:(manage p r).2=1
      ·exact .inr (.inr ⟨p,hk,hw,by omega,hp,ha,hd,by rw[he,hd]⟩)
      ·left;rw[he,manage_same hd];exact⟨by simp[set_self hp],fun h=>absurd h hd⟩
     ·rw[if_pos (by simpa using ha)] at he;left;rw[he];exact⟨rfl,fun h=>by simp[code] at h⟩
    ·have he:=doIt_writes hk hp hw;rcases write_ways m p r with ⟨h,h'⟩|⟨k,a,b,c,d,e,f,g⟩
     ·left;rw[he];exact⟨h,fun h=>absurd h h'⟩
     ·exact .inr (.inl ⟨p,k,hk,hw,hp,a,b,c,d,e,f,by rw[he,g]⟩)
  ·left;unfold Zn;rw[if_neg hk];exact⟨rfl,fun h=>by simp[code] at h⟩
theorem apart {m:Jl} {r:Req} (hr:0≤r.repo) {i:Nat} (hi:(i:Int)≠r.repo):(Zn m r).1.Rz[i]? =m.Rz[i]? :=by
 have hn:r.repo.toNat≠i:=by omega
 rcases doIt_ways m r with ⟨h, -⟩|⟨p,k,h⟩|⟨p,h⟩
 ·rw[h]
 ·rw[h.eq];simp[jpm,hn]
 ·rw[h.eq];simp[hn]
def latest (f:Ref):List File:=f.Vz.getLastD []
theorem version_first (vs:List (List File)):version vs 0=if vs= [] then none else some (vs.getLastD []):=by
 unfold version;cases vs with
 |nil=>simp
 |cons v l=>
  rw[if_pos (by simp),if_neg (by simp)];simp[List.getLastD_eq_getLast?,List.getLast?_eq_getElem?]
theorem lastOf_last (l:List (List File)) (x:List File):(jgu (l++ [x])).getLastD []=x:=by
 unfold jgu;rw[List.getLastD_eq_getLast?,List.getLast?_drop,if_neg (by simp;omega)];simp
theorem latest_ok {x:Ref} (h:Xv x=true):latest x∈x.Vz∧Y1 (latest x)=true∧version x.Vz 0=some (latest x):=by
 obtain⟨-,h2,h3⟩:=Z2.1 h;have hn:x.Vz≠ []:=by intro e;rw[e] at h2;simp at h2
 have hv:version x.Vz 0=some (latest x):=by rw[version_first,if_neg hn];rfl
 exact⟨ja5 hv,h3 _ (ja5 hv),hv⟩
theorem repo_of {m:Jl} (hm:Ys m=true) {i:Nat} {p:Xq} (hp:m.Rz[i]? =some p):repoOk m.keys.length p=true:=(Jo.1 hm).2.2 p (List.mem_of_getElem? hp)
theorem refIdx_map (l:List Ref) (n:ByteArray):Y7 l n=(l.map (·.name)).findIdx? (fun s=>decide (s=n)):=by
 unfold Y7;rw[List.findIdx?_map];rfl
theorem refIdx_set {l:List Ref} {k:Nat} {y:Ref} (hk:k<l.length) (h:y.name=l[k].name) (n:ByteArray):Y7 (l.set k y) n=Y7 l n:=by
 have:(l.set k y).map (·.name)=l.map (·.name):=by
  rw[List.map_set];exact set_self (by rw[List.getElem?_map,List.getElem?_eq_getElem hk,h];rfl)
 rw[refIdx_map,refIdx_map,this]
theorem laid_repo {m:Jl} {r:Req} {p:Xq} {k:Nat} (h:Laid m r p k):(Zn m r).1.Rz[r.repo.toNat]? =some { p with Fz:=p.Fz.set k { p.Fz.getD k Y8 with count:=(p.Fz.getD k Y8).count+1,Vz:=jgu ((p.Fz.getD k Y8).Vz++ [(newest m (p.Fz.getD k Y8) r).1])}} :=by
 have hi:=(List.getElem?_eq_some_iff.1 h.repo).1;rw[h.eq];simp only[jpm];rw[List.getElem?_set_self hi]
theorem version_last (l:List (List File)) (x:List File):version (jgu (l++ [x])) 0=some x:=by
 rw[version_first,lastOf_last,if_neg];unfold jgu;intro e;have:=congrArg List.length e;simp at this;omega
theorem treSize_few {r:Req} (h:Yw r=true):Yg r.Ez≤1000:=by
 obtain⟨h1,h2⟩:=jkd h;have:(r.Ez.map fun e=>e.path.size+e.bytes.size).sum≤(r.Ez.map fun e=>e.path.size+e.bytes.size).length*20:=jgo fun x hx=>by
  obtain⟨e,he,rfl⟩:=List.mem_map.1 hx;have:=h2 e he;simp only[editOk,Bool.and_eq_true,decide_eq_true_eq] at this;have h3:=Zr this.1.1.1;omega
 unfold Yg;rw[List.length_map] at this;omega
theorem may_stays {m:Jl} {r:Req} {p:Xq} {k:Nat} (h:Laid m r p k) (hr:0≤r.repo) {p':Xq} (hp':p'.Uz=p.Uz):Yi (Zn m r).1 p' r=true:=by
 have hm:=h.may;unfold Yi at hm ⊢;rw[hp'];split
 ·rename_i h1;rw[if_pos h1] at hm;exact hm
 ·rename_i h1
  rw[if_neg h1] at hm;rw[Bool.and_eq_true] at hm ⊢;refine⟨hm.1, ?_⟩;rw[Bool.or_eq_true] at hm ⊢;rcases hm.2 with h2|h2
  ·exact .inl h2
  ·right;by_cases e:r.frm.toNat=r.repo.toNat
   ·rw[e,h.repo] at h2;rw[e,laid_repo h];exact h2
   ·have:(Zn m r).1.Rz[r.frm.toNat]? =m.Rz[r.frm.toNat]? :=apart hr (by omega);rw[this];exact h2
theorem version_second {vs:List (List File)} (h:vs≠ []) (f:List File):version (jgu (vs++ [f])) 1=some (vs.getLastD []):=by
 have hn:0<vs.length:=List.length_pos_iff.2 h;unfold version;have hl:(jgu (vs++ [f])).length=min (vs.length+1) 3:=by rw[jht];simp
 rw[if_pos ⟨by decide,by rw[hl];omega⟩,hl];unfold jgu;rw[List.getElem?_drop,List.getElem?_append_left (by simp;omega),List.getLastD_eq_getLast?,List.getLast?_eq_getElem?];have e:(vs++ [f]).length - 3+(min (vs.length+1) 3 - 1 - (1:Int).toNat)=vs.length - 1:=by simp;omega
 rw[e,List.getElem?_eq_getElem (by omega)];rfl
theorem files_at {m:Jl} {r:Req} {p:Xq} {k:Nat} (hp:m.Rz[r.repo.toNat]? =some p) (hx:Y7 p.Fz r.ref=some k) (hr:0≤r.repo) (back:Int):Xn m r.repo r.ref back=version (p.Fz.getD k Y8).Vz back:=by
 unfold Xn;rw[if_pos hr,hp];simp only[hx]
theorem reqOk_old {r:Req} (h:Yw r=true) {k:Int} (h1:0≤k) (h2:k≤99):Yw { r with old:=k} =true:=by
 simp only[Yw,Bool.and_eq_true] at h ⊢;refine⟨⟨⟨⟨⟨⟨⟨?_, ?_⟩, ?_⟩, ?_⟩, ?_⟩, ?_⟩, ?_⟩, ?_⟩
 all_goals first|exact jap.2 ⟨h1,h2⟩|simp_all [jap]
theorem reset_twice {m:Jl} {r:Req} (hm:Ys m=true) (hr:Yw r=true) (h9:r.kind=9) (hb:r.back=1) (hc:(Zn m r).2.code=1):
  Yw { r with old:=r.old+1} =true∧0≤r.user - 1∧(r.user - 1).toNat<m.used.length∧
   ((Zn (Zn m r).1 { r with old:=r.old+1}).2.code=9∧r.old+1=14∨
    (Zn (Zn m r).1 { r with old:=r.old+1}).2.code=10∧m.used.getD (r.user - 1).toNat 0+2*(Yg r.Ez:Int) > 200∨
    (Zn (Zn m r).1 { r with old:=r.old+1}).2.code=1∧∃l,mdlFiles m r.repo r.ref 0=some l∧mdlFiles (Zn (Zn m r).1 { r with old:=r.old+1}).1 r.repo r.ref 0=some l):=by
 have hr0:=(jmn hr).2.1.1;have hx:=jh2 hm hr;have hf: ∀ {x:Jl} {i b:Int} {n:ByteArray},Ys x=true→mdlFiles x i n b=Xn x i n b:=fun hx=>by unfold mdlFiles;rw[if_pos hx]
 rcases doIt_ways m r with ⟨-,h⟩|⟨p,k,h⟩|⟨p,h⟩
 ·have:=h hc;omega
 ·have hkk:=(je8 (key:=Ref.name) h.ref).1;have hxo:=(Zq (repo_of hm h.repo) (jp3 (z:=Y8) hkk)).1;have hne:(p.Fz.getD k Y8).Vz≠ []:=by intro e;have:=(Z2.1 hxo).2.1;rw[e] at this;simp at this
  have hl:=(latest_ok hxo).2.2;have hco:=(Z2.1 hxo).1;have hold:=h.old;have hmo:=h.more;have hq:=reqOk_old hr (k:=r.old+1) (by omega) (by omega);have hus:=(jap.1 (Bool.and_eq_true_iff.1 h.knows).1);have hul:=(J8.1 (Jo.1 hm).1).2.1;have hn:=h.new;have hgd:(p.Fz.getD k Y8).guard=false:=by
   unfold newest at hn;rw[if_neg (by omega),if_pos h9] at hn;split at hn
   ·simp at hn
   ·rename_i g;simpa using g
  refine⟨hq,by omega,by omega, ?_⟩;have hkx:knows (Zn m r).1.keys r.user r.key=true:=by rw[h.eq];exact h.knows
  have hrep:=laid_repo h;have hwrs:=h.writes;have hmay:Yi (Zn m r).1 { p with Fz:=p.Fz.set k { p.Fz.getD k Y8 with count:=(p.Fz.getD k Y8).count+1,Vz:=jgu ((p.Fz.getD k Y8).Vz++ [(newest m (p.Fz.getD k Y8) r).1])}} { r with old:=r.old+1} =true:=may_stays h hr0 rfl
  have hu:(Zn m r).1.used.getD (r.user - 1).toNat 0=m.used.getD (r.user - 1).toNat 0+Yg r.Ez:=by
   rw[h.eq];simp only[jpm];rw[List.getD_eq_getElem?_getD,List.getElem?_set_self (by omega)];rfl
  have hsec:=version_second hne (newest m (p.Fz.getD k Y8) r).1;have hgx:=J4 (z:=Y8) hkk;generalize(newest m (p.Fz.getD k Y8) r).1=fl at hrep hmay hsec;have hmk:knows m.keys r.user r.key=true:=h.knows;have href:=h.ref;have hrm:m.Rz[r.repo.toNat]? =some p:=h.repo;clear h hn
  obtain⟨X,hX⟩: ∃X,X= { p.Fz.getD k Y8 with count:=(p.Fz.getD k Y8).count+1,Vz:=jgu ((p.Fz.getD k Y8).Vz++ [fl])} :=⟨_,rfl⟩;rw[←hX] at hrep hmay;have hw2:Zn (Zn m r).1 { r with old:=r.old+1} =_:=doIt_writes (r:= { r with old:=r.old+1}) hkx hrep hwrs;have hXn:X.name=p.Fz[k].name:=by rw[hX,hgx]
  have hXc:X.count=r.old+1:=by rw[hX,←hold]
  have hXg:X.guard=false:=by rw[hX];exact hgd
  have hXv:version X.Vz 1=some (latest (p.Fz.getD k Y8)):=by rw[hX];exact hsec
  have hnq:newest (Zn m r).1 X { r with old:=r.old+1} =(latest (p.Fz.getD k Y8),1):=by
   unfold newest;rw[if_neg (by simp only;omega),if_pos h9];simp only[hXg,hb];rw[if_neg (by simp),hXv]
  have hidx:Y7 (p.Fz.set k X) r.ref=some k:=by rw[refIdx_set hkk hXn,href]
  have hget:(p.Fz.set k X).getD k Y8=X:=by rw[J4 (by simpa using hkk),List.getElem_set_self]
  clear hX;have hwr:write (Zn m r).1 { p with Fz:=p.Fz.set k X} { r with old:=r.old+1} =if r.old+1=14 then((Zn m r).1,9) else if m.used.getD (r.user - 1).toNat 0+Yg r.Ez+Yg r.Ez > 200 then((Zn m r).1,10) else(jpm (Zn m r).1 { p with Fz:=p.Fz.set k X} k { r with old:=r.old+1} (latest (p.Fz.getD k Y8)),1):=by
   unfold write;rw[if_pos hmay];simp only[hidx,hget,hXc,hnq,hu];rw[if_neg (by simp)];simp only[ne_eq,not_true,if_false]
  rw[hw2,hwr];split
  ·rename_i h14;exact .inl ⟨rfl,h14⟩
  ·split
   ·rename_i h200;exact .inr (.inl ⟨rfl,by omega⟩)
   ·refine .inr (.inr ⟨rfl,latest (p.Fz.getD k Y8),by rw[hf hm,files_at hrm href hr0,hl], ?_⟩);have hy:=jh2 hx hq;rw[hw2,hwr,if_neg ‹_›,if_neg ‹_›] at hy;rw[hf hy];have hi:=(List.getElem?_eq_some_iff.1 hrep).1;unfold Xn;rw[if_pos hr0];simp only[jpm,hget];rw[List.getElem?_set_self hi];simp only[List.set_set]
    rw[refIdx_set (y:= { X with count:=X.count+1,Vz:=jgu (X.Vz++ [latest (p.Fz.getD k Y8)])}) hkk hXn,href];simp only;rw[J4 (by simpa using hkk),List.getElem_set_self];exact version_last _ _
 ·have:=h.writes;simp[Vs,h9] at this
theorem lawReset (w:World) {A:Option Addr} {n c:Nat} {code:List UInt8} {fp:List Nat} (hx:SlR Rp.byte w A n c code fp):
  Calls Tryz.prog 13 #[.slice A n c] w fun e w'=>e= .returned (.bool true)∧Below w.heap.size w w':=by
 obtain⟨rfl,hcx,hmx, -⟩:=id hx;unfold maxLen at hmx;go_enter Tryz.func13,Tryz.ntmps13;by_cases hlen:(1048576:Int)<(code.length:Int)
 ·go_wp2;go_ret;exact⟨rfl,Below.refl _ _⟩
 go_wp2_with fail;refine(jp5 _ hx).mono ?_;rintro e w1 ⟨m,q,A0,n0,c0,A1,n1,c1,A2,n2,c2,A3,c3,f,fq,rfl,hR,hQ,hok,hsm,hlo,hdj,HB⟩;clear hx;obtain rfl:n2=m.Rz.length:=by
  obtain⟨_,_,_,_,_,_,_,_,_,_,_,_,he, -, -, -,h2⟩:=hR;cases he;exact h2.1
 go_upto_region 4 with fail
 refine wp_HQ ⟨_,hR⟩ ⟨_,hQ⟩ ?_;intro w2 hm hq hb3;replace HB:=Below.t HB hb3;have hR2:=Rp.house.below hR hb3 nle;have hf:=Ja (And.intro hok.1 (jo1 hsm));have hlt:=Rp.house.lt hR;have HOKD:=Ja (hok.keep (w':=w2) fun z hz=>hb3.block z (hlt z hz));have HLT:=Ja hlt;have HLO:=Ja hlo;have HW1:=Ja hb3.size;clear hR hQ hb3 hsm hok hlt hlo hdj
 go_cut [41] from 25 to 41 (fun v wx=>∃bb:Bool,v= .bool bb∧(bb=true→Ys m=true∧∃h0:0<m.Rz.length,0<m.Rz[0].Fz.length)∧Below w2.heap.size w2 wx)
 case first=>
  obtain⟨x0,x1,x2⟩:=hm.cells;go_wp2_with fail;refine(jhe _ hm.r.choose_spec hf.out.1).mono ?_;rintro e w3 ⟨rfl,hb3⟩;replace hm:=hm.step hb3;clear x0 x1 x2;cases hmo:Ys m
  ·go_wp2_with fail;go_meet
   case rel=>exact⟨false,rfl,by simp,hb3⟩
  have hr0:0<m.Rz.length:=by have:=(Jo.1 hmo).2.1;omega
  have HMO:=Ja (And.intro hmo hr0);obtain⟨-, -,x2⟩:=hm.cells;obtain⟨fr,hr⟩:=hm.Rz;obtain⟨-,hrc,hrm, -⟩:=id hr;unfold maxLen at hrm;obtain⟨b,o,D1,l1,d1,f1,D2,l2,d2,f2,rfl, -, -, -, -,p2, -,s2, -⟩:=J7 hr hr0;obtain⟨hnr,hrc2,hrm2, -⟩:=id s2;unfold maxLen at hrm2;obtain rfl:=hnr;simp only[Nat.zero_mul,Nat.add_zero] at p2;have i1:(0:Int)<(m.Rz.length:Int):=by omega
  by_cases hl0:0<m.Rz[0].Fz.length
  ·have HL0:=Ja hl0;have k0:(0:Int)<(m.Rz[0].Fz.length:Int):=by omega
   cases hc:decide ((0:Int)<(code.length:Int) % 4)
   ·go_wp2_with fail;go_meet
    case rel=>exact⟨false,by simp,by simp,hb3⟩
   ·go_wp2_with fail;go_meet
    case rel=>exact⟨true,by simp,fun _=>⟨HMO.out.1,HMO.out.2,HL0.out⟩,hb3⟩
  ·have k0: ¬(0:Int)<(m.Rz[0].Fz.length:Int):=by omega
   go_wp2_with fail;go_meet
   case rel=>exact⟨false,by simp,by simp,hb3⟩
 case rest=>
  obtain⟨w4,hw4⟩: ∃w4,w4=wc:=⟨_,rfl⟩;subst hw4;obtain⟨bb,rfl,hcc,hb3⟩:=hcut;have HC:=Ja hcc;clear hcc;replace hm:=hm.step hb3;replace hq:=hq.step hb3;have hR4:=Rp.house.below hR2 hb3 nle;have HF4:=Ja (fun z (hz:z∈f)=>hb3.block z (Rp.house.lt hR2 z hz));replace HB:=Below.t HB hb3;have HS4:=Ja hb3.size;have HQ4:=Ja hq.k.lt;clear hb3 hR2;go_upto_if 41 with fail
  go_cut [] from 41 to 72 (fun wx=>∃m' q' A c,HBx wx w1.heap.size m' (.slice A0 n0 c0) (.slice A1 n1 c1) (.slice A2 m.Rz.length c2)∧QB wx (w1.heap.size+1) q' (.slice A q'.Ez.length c)∧V9 m'∧jdu q'∧m'.Rz.length=m.Rz.length∧Below w.heap.size w wx)
  case first=>
   cases bb
   ·go_wp2_with fail;go_meet
    case rel=>exact⟨m,q,_,_,hm,hq,hf.out.1,hf.out.2,rfl,HB⟩
   obtain⟨hmo,hr0,hl0⟩:=HC.out rfl;obtain⟨hkeys,hno⟩:=HOKD.out.2 hmo;have hnf:f.Nodup∧Free w2 f:=hno.resolve_left fun h=>by have:=h _ (List.getElem_mem hr0);rw[this] at hl0;exact absurd hl0 (by simp)
   have hf4:Free w4 f:=fun z hz=>(HF4.out z hz)▸hnf.2 z hz;obtain⟨_,_,_,_,_,_,b0,o0,c20,he,hcm,hcl,hbm,hput⟩:=house_rules hR4 hnf.1 hf4 hr0;cases he;have HPUT:=Ja hput;have HL0:=Ja (And.intro hr0 hl0);have HK0:=Ja (show 0<m.keys.length by have:=(J8.1 (Jo.1 hmo).1).1;omega);have HND:=Ja hnf.1;have HBM:=Ja hbm;unfold maxLen at hcm;clear hmo hkeys hno hnf hf4 hput hbm
   obtain⟨-, -,x2⟩:=hm.cells;obtain⟨fr,hr⟩:=hm.Rz;obtain⟨_,_,D1,l1,d1,f1,D2,l2,d2,f2,he, -, -, -, -,p2, -,s2, -⟩:=J7 hr hr0;cases he;obtain⟨hnr,hrc2,hrm2, -⟩:=id s2;unfold maxLen at hrm2;obtain rfl:=hnr;simp only[Nat.zero_mul,Nat.add_zero] at p2
   obtain⟨jj,hjj⟩: ∃jj:Nat,(code.length:Int) % (m.Rz[0].Fz.length:Int)=(jj:Int):=⟨((code.length:Int) % (m.Rz[0].Fz.length:Int)).toNat,by have:=Int.emod_nonneg (code.length:Int) (b:=(m.Rz[0].Fz.length:Int)) (by omega);omega⟩;have hjl:jj<m.Rz[0].Fz.length:=by have:=Int.emod_lt_of_pos (code.length:Int) (b:=(m.Rz[0].Fz.length:Int)) (by omega);omega
   obtain⟨bR,oR,B9,m9,d9,g9,rfl, -, -,t0,t1,t2,t3, -, -⟩:=J3 s2 hjl;have HRF:=Ja ((hf.out.1 0 hr0).Fz _ hjl).name;clear hrc2 hcl HND;have i1:(0:Int)<(m.Rz.length:Int):=by omega
   have k0: ¬(m.Rz[0].Fz.length:Int)=0:=by omega
   have k1:(0:Int)<(m.Rz[0].Fz.length:Int):=by omega
   have j0:(0:Int)≤(jj:Int):=by omega
   have j1:(jj:Int)<(m.Rz[0].Fz.length:Int):=by omega
   go_upto_region 5 with fail
   have yx2:=fun y:Obj=>J6 x2 y;have yp2:=fun y:Obj=>J6 p2 y;have yt0:=fun y:Obj=>J6 t0 y;have yt1:=fun y:Obj=>J6 t1 y;have yt2:=fun y:Obj=>J6 t2 y;have yt3:=fun y:Obj=>J6 t3 y
   go_region
   go_upto_region 6 with fail
   refine wp_NewD ?_;intro w5 hbx hb5;clear yx2 yp2 yt0 yt1 yt2 yt3 t0 t1 t2 t3 x2 p2 s2 j0 j1 k0 k1;have HJL:=Ja hjl;replace hm:=hm.step hb5;replace hq:=hq.step hb5;have HS5:=Ja hb5.size;have hbn:=hb5.alloc hb5.size (.cells #[.int .i64 0,.string ⟨#[]⟩,.string ⟨#[]⟩,.bool true] 29)
   obtain⟨⟨v0,hv0⟩,hz0,fp',j1,j2,j3,j4⟩:=HPUT.out _ (some ⟨w5.heap.size,0,none⟩) 1 [allWrite] [w5.heap.size] hbn (sl_rule1 (Blk.new _ _ _)) (by simp) Free.new (fun x hx hm=>by have:=List.mem_singleton.1 hx;have:=HLT.out x hm;have:=HW1.out;have:=HS4.out;have:=HS5.out;omega);simp only[Nat.zero_mul,Nat.add_zero] at hv0 hz0 j1 j2 j3 j4;obtain⟨-, -,x2⟩:=hm.cells;have yx2:=fun y:Obj=>J6 x2 y
   go_upto_region 7 with fail
   have hba:Below w5.heap.size w5 (w5.alloc (.cells #[.int .i64 0,.string ⟨#[]⟩,.string ⟨#[]⟩,.bool true] 29)):=(Below.refl _ _).alloc nle _;have hb0:b0<w1.heap.size:=HLT.out b0 HBM.out;have hbl:=HLO.out b0 (by simp[HBM.out]);have hg4:=HQ4.out;have km:=Blk.far (hm.k.step hba) (b:=b0) (j:=o0+1) (by omega) (.slice (some ⟨w5.heap.size,0,none⟩) 1 1)
   have kq:=Blk.far (hq.k.step hba) (b:=b0) (j:=o0+1) (by omega) (.slice (some ⟨w5.heap.size,0,none⟩) 1 1);have kx:=Blk.far (hbx.step hba) (b:=b0) (j:=o0+1) (by omega) (.slice (some ⟨w5.heap.size,0,none⟩) 1 1);have HB6:=(Below.t (Below.t HB hb5) hba).setCell (p:=⟨b0,o0+1,none⟩) (by simp only;omega) (.slice (some ⟨w5.heap.size,0,none⟩) 1 1)
   generalize(w5.alloc (.cells #[.int .i64 0,.string ⟨#[]⟩,.string ⟨#[]⟩,.bool true] 29)).setCell ⟨b0,o0+1,none⟩ (.slice (some ⟨w5.heap.size,0,none⟩) 1 1)=w6 at km kq kx HB6 j1 j3 ⊢;clear HB hb5 hbn hba hm hq hbx yx2 x2 hv0 hz0 j2 j3
   have hh:HBx w6 w1.heap.size { m with Rz:=m.Rz.set 0 { m.Rz[0] with Uz:=[allWrite]}} (.slice A0 n0 c0) (.slice A1 n1 c1) (.slice (some ⟨b0,o0,none⟩) m.Rz.length c2):=⟨km,_,j1⟩;obtain⟨fk,hkk⟩:=hh.keys;obtain⟨rfl,hkc,hkm, -⟩:=id hkk;unfold maxLen at hkm;obtain⟨bk,ok,rfl, -, -,u0⟩:=Xg hkk HK0.out;obtain⟨x0, -, -⟩:=hh.cells;simp only[Nat.add_zero] at u0;have y0:=kx.cell 0
   have y2:=kx.cell 2;simp only[List.getElem?_toArray,List.getElem?_cons_zero,List.getElem?_cons_succ] at y0 y2;have hk0:(0:Int)<(m.keys.length:Int):=by have:=HK0.out;omega
   have z:=Jb kq;have p0:=kq.cell 0;have p1:=kq.cell 1;have p2:=kq.cell 2;have p3:=kq.cell 3;have p4:=kq.cell 4;have p5:=kq.cell 5;have p6:=kq.cell 6;have p7:=kq.cell 7;have p8:=kq.cell 8;have p9:=kq.cell 9;have p10:=kq.cell 10;have p11:=kq.cell 11;have p12:=kq.cell 12;have p13:=kq.cell 13;have p14:=kq.cell 14
   simp only[V5,List.getElem?_toArray,List.getElem?_cons_zero,List.getElem?_cons_succ] at p0 p1 p2 p3 p4 p5 p6 p7 p8 p9 p10 p11 p12 p13 p14;have hnq: ∀x∈fp',x≠w1.heap.size+1:=fun x hx=>by
    rcases j4 x hx with h|h
    ·have:=HLT.out x h;omega
    ·have:=List.mem_singleton.1 h;have:=HS5.out;omega
   have HREQ:=Ja (req_put (resetQ m.keys[0] m.Rz[0].Fz[jj].name m.Rz[0].Fz[jj].count) km j1 hnq kq rfl);have HBW:=Ja (below_puts (vs:=(V5 (resetQ m.keys[0] m.Rz[0].Fz[jj].name m.Rz[0].Fz[jj].count) (.slice none 0 0)).toList) (b:=w1.heap.size+1) (o:=0) HB6 (by omega)).drew
   have HFM:=Ja (jf6 (i:=0) (p:= { m.Rz[0] with Uz:=[allWrite]}) hf.out.1 ⟨fitRules1 ⟨Nat.zero_le _,Nat.zero_le _⟩,(hf.out.1 0 HL0.out.1).few,(hf.out.1 0 HL0.out.1).Fz⟩);clear km kx hkk j1 j4 hb0 hbl hg4 hnq kq HB6 hh
   go_region
   go_wp2_with fail;go_meet
   case rel=>exact⟨_,_,none,0,HREQ.out.1,HREQ.out.2,HFM.out,⟨HRF.out,Nat.zero_le _,Nat.zero_le _,⟨Nat.zero_le _,Nat.zero_le _⟩,fun i hi=>absurd hi (Nat.not_lt_zero _)⟩,by simp,HBW.out⟩
  case rest=>
   obtain⟨w6,hw6⟩: ∃w6,w6=wc:=⟨_,rfl⟩;subst hw6;clear hm hq hR4 HF4 HS4 HQ4 HC HB HLT HLO HW1 HOKD hf;obtain⟨m,q,A7,c7,hm,hq,hfm,hfq,hlen',HB⟩:=hcut;rw[←hlen'] at hm;have hf:=Ja (And.intro hfm hfq);clear hfm hfq hlen';obtain⟨x,a,ho⟩: ∃x a,jai m q=(x,a):=⟨_,_,rfl⟩;have HO:=Ja ho;clear ho;obtain⟨x0,x1,x2⟩:=hm.cells
   go_wp2_with((refine wpList_load_row rfl 31 (.tmp 4) rfl _ rfl _ _ _ _ hq.k.out Tryz.underlying31 rfl jb3 ?_));go_wp2_with fail;refine(implDo hm hq hf.out.1 hf.out.2).mono ?_;rintro e w7 hd;obtain⟨A4,na4,ca4,A5,na5,ca5,A6,ca6,B0,nb0,cb0,B1,nb1,cb1,rfl,hX,hA,hb3⟩:=hd.parts HO.out;replace hm:=hm.step hb3;replace hq:=hq.step hb3;replace HB:=Below.t HB hb3;clear hb3 hd x0 x1 x2
   go_upto_region 9 with fail
   refine wp_HA hX hA ?_;intro w8 hx ha hb3;replace hm:=hm.step hb3;replace hq:=hq.step hb3;replace HB:=Below.t HB hb3;clear hb3 hX hA;obtain⟨x0,x1,x2⟩:=hm.cells;go_wp2_with((refine wpList_load_row rfl 31 (.tmp 4) rfl _ rfl _ _ _ _ hq.k.out Tryz.underlying31 rfl jb3 ?_));go_wp2_with fail;refine(specDo hm hq hf.out.1 hf.out.2).mono ?_;rintro e w9 hd
   obtain⟨A7,na7,ca7,A8,na8,ca8,A9,ca9,B2,nb2,cb2,B3,nb3,cb3,rfl,hX,hA,hb3⟩:=hd.parts HO.out;replace hm:=hm.step hb3;replace hq:=hq.step hb3;replace HB:=Below.t HB hb3;replace hx:=hx.step hb3;replace ha:=ha.step hb3;clear hb3 hd x0 x1 x2;go_upto_region 10 with fail
   refine wp_HA hX hA ?_;intro w10 hy hb hb3;replace hm:=hm.step hb3;replace hq:=hq.step hb3;replace HB:=Below.t HB hb3;replace hx:=hx.step hb3;replace ha:=ha.step hb3;clear hb3 hX hA;obtain⟨x0,x1,x2⟩:=hx.cells;obtain⟨y0,y1,y2⟩:=hy.cells;go_wp2_with fail;refine(jqp hx hy).mono ?_;rintro e w11 ⟨rfl,hb3⟩;replace hm:=hm.step hb3;replace hq:=hq.step hb3;replace HB:=Below.t HB hb3
   replace hx:=hx.step hb3;replace ha:=ha.step hb3;replace hy:=hy.step hb3;replace hb:=hb.step hb3;clear hb3 x0 x1 x2 y0 y1 y2;obtain⟨x0,x1,x2,x3⟩:=ha.cells;obtain⟨y0,y1,y2,y3⟩:=hb.cells;go_wp2_with fail;refine(jp8 ha hb).mono ?_;rintro e w12 ⟨rfl,hb3⟩;replace hm:=hm.step hb3;replace hq:=hq.step hb3;replace HB:=Below.t HB hb3;replace hx:=hx.step hb3;replace ha:=ha.step hb3
   clear hb3 x0 x1 x2 x3 y0 y1 y2 y3 hy hb;obtain⟨a0, -, -, -⟩:=ha.cells;obtain⟨-, -, -,q3, -, -, -,q7, -⟩:=hq.cells;cases e1:(a.code !=1);rotate_left
   ·skip;obtain⟨x0,x1,x2⟩:=hm.cells;have C1:=fun n:BelowW w12=>jhy n.val (hm.step n.property).r.choose_spec hf.out.1;have C2:=fun n:BelowW w12=>jhe n.val (hm.step n.property).r.choose_spec hf.out.1;have C3:=fun n:BelowW w12=>chOk_any n.val;go_upto_region 13 with fail
    cases hmo:Ys m
    all_goals
     simp only[hmo] at C1 C2;have D1:=Ja C1;have D2:=Ja C2;have D3:=Ja C3;clear C1 C2 C3 hmo;have n0:=BelowW.nonempty w12;have ex0:=BelowW.ex (w:=w12);have g0:=bwc x0;have g1:=bwc x1;have g2:=bwc x2;clear x0 x1 x2;refine Jf (by kernel_rfl) (by kernel_rfl) ?_
     repeat(go_big_quiet_step(first|(go_at_call 23;exact BelowW.calls _ (D1.out _))|(go_at_call 16;exact BelowW.calls _ (D2.out _))|(go_at_call 22;exact BelowW.calls _ (D3.out _))))
     refine wpQuiet_nil ?_;rintro w9 ⟨m9,hw9⟩;have hb9:=m9.property;rw[←hw9] at hb9;clear hw9 m9;go_wp2;go_ret;exact⟨rfl,Below.t HB hb9⟩
   cases e2:(q.kind !=9);rotate_left
   ·skip;obtain⟨x0,x1,x2⟩:=hm.cells;have C1:=fun n:BelowW w12=>jhy n.val (hm.step n.property).r.choose_spec hf.out.1;have C2:=fun n:BelowW w12=>jhe n.val (hm.step n.property).r.choose_spec hf.out.1;have C3:=fun n:BelowW w12=>chOk_any n.val;go_upto_region 13 with fail
    cases hmo:Ys m
    all_goals
     simp only[hmo] at C1 C2;have D1:=Ja C1;have D2:=Ja C2;have D3:=Ja C3;clear C1 C2 C3 hmo;have n0:=BelowW.nonempty w12;have ex0:=BelowW.ex (w:=w12);have g0:=bwc x0;have g1:=bwc x1;have g2:=bwc x2;clear x0 x1 x2;refine Jf (by kernel_rfl) (by kernel_rfl) ?_
     repeat(go_big_quiet_step(first|(go_at_call 23;exact BelowW.calls _ (D1.out _))|(go_at_call 16;exact BelowW.calls _ (D2.out _))|(go_at_call 22;exact BelowW.calls _ (D3.out _))))
     refine wpQuiet_nil ?_;rintro w9 ⟨m9,hw9⟩;have hb9:=m9.property;rw[←hw9] at hb9;clear hw9 m9;go_wp2;go_ret;exact⟨rfl,Below.t HB hb9⟩
   cases e3:(q.back !=1);rotate_left
   ·skip;obtain⟨x0,x1,x2⟩:=hm.cells;have C1:=fun n:BelowW w12=>jhy n.val (hm.step n.property).r.choose_spec hf.out.1;have C2:=fun n:BelowW w12=>jhe n.val (hm.step n.property).r.choose_spec hf.out.1;have C3:=fun n:BelowW w12=>chOk_any n.val;go_upto_region 13 with fail
    cases hmo:Ys m
    all_goals
     simp only[hmo] at C1 C2;have D1:=Ja C1;have D2:=Ja C2;have D3:=Ja C3;clear C1 C2 C3 hmo;have n0:=BelowW.nonempty w12;have ex0:=BelowW.ex (w:=w12);have g0:=bwc x0;have g1:=bwc x1;have g2:=bwc x2;clear x0 x1 x2;refine Jf (by kernel_rfl) (by kernel_rfl) ?_
     repeat(go_big_quiet_step(first|(go_at_call 23;exact BelowW.calls _ (D1.out _))|(go_at_call 16;exact BelowW.calls _ (D2.out _))|(go_at_call 22;exact BelowW.calls _ (D3.out _))))
     refine wpQuiet_nil ?_;rintro w9 ⟨m9,hw9⟩;have hb9:=m9.property;rw[←hw9] at hb9;clear hw9 m9;go_wp2;go_ret;exact⟨rfl,Below.t HB hb9⟩
   have HOK:=Ja (show Ys m=true∧Yw q=true from Classical.byContradiction fun h=>by have:=code_zero h HO.out;rw[this] at e1;simp at e1);have HD:=Ja (show Zn m q=(x,a) by rw[←HO.out,jhr HOK.out]);have HXO:=Ja (show Ys x=true by have h:=jh2 HOK.out.1 HOK.out.2;rw[HD.out] at h;exact h)
   have HRT:=Ja (reset_twice HOK.out.1 HOK.out.2 (by simpa using e2) (by simpa using e3) (by rw[HD.out];simpa using e1));rw[HD.out] at HRT;obtain⟨-, -,⟨ho0,ho1⟩, -⟩:=jmn HOK.out.2;obtain⟨q0,q1,q2,q3,q4,q5,q6,q7,q8,q9,q10,q11,q12,q13,q14⟩:=hq.cells;go_upto_region 15 with fail
   clear q0 q1 q2 q3 q4 q5 q6 q7 q8 q9 q10 q11 q12 q13 q14 a0 e1 e2 e3;refine wp_Qp hq.r ?_;intro w13 hr hb3 hput hfz;have hq7:=hq.step hb3;obtain⟨-, -, -, -, -, -,q6, -⟩:=hq7.cells;obtain⟨-, -, -, -, -, -,r6, -⟩:=hr.cells;have z6:=hfz 6;go_upto_region 16 with fail
   obtain⟨hr2,hb4⟩:=hput 6 (.int .i64 (q.old+1)) { q with old:=q.old+1} rfl rfl;generalize w13.setCell ⟨w12.heap.size,6,none⟩ (.int .i64 (q.old+1))=w14 at hr2 hb4 ⊢;clear hq7 q6 r6 z6 hr hput hfz hb3;replace hm:=hm.step hb4;replace hq:=hq.step hb4;replace HB:=Below.t HB hb4;replace hx:=hx.step hb4;replace ha:=ha.step hb4;clear hb4
   obtain⟨y,b,ho⟩: ∃y b,Zn x { q with old:=q.old+1} =(y,b):=⟨_,_,rfl⟩;rw[ho] at HRT;have HQ2:=Ja HRT.out.1;have HO2:=Ja (show jai x { q with old:=q.old+1} =(y,b) by rw[jhr ⟨HXO.out,HQ2.out⟩,ho]);have HYO:=Ja (show Ys y=true by have h:=jh2 HXO.out HQ2.out;rw[ho] at h;exact h);have HFY:=Ja (Jv HYO.out)
   have hfr:=fit_with (q':= { q with old:=q.old+1}) hf.out.2 rfl rfl rfl rfl rfl;have HF2:=Ja (And.intro (Jv HXO.out) hfr);have HOLD:=Ja (show({ q with old:=q.old+1} :Req).old=q.old+1 from rfl);generalize({ q with old:=q.old+1} :Req)=r2 at hr2 HO2 HF2 HQ2 HRT HOLD hfr ho;clear hfr ho ho0 ho1;obtain⟨x0,x1,x2⟩:=hx.cells
   go_wp2_with((refine wpList_load_row rfl 31 (.tmp 10) rfl _ rfl _ _ _ _ hr2.k.out Tryz.underlying31 rfl jb3 ?_));go_wp2_with fail;refine(implDo hx hr2 HF2.out.1 HF2.out.2).mono ?_;rintro e w15 hd;obtain⟨D4,nd4,cd4,D5,nd5,cd5,D6,cd6,E0,ne0,ce0,E1,ne1,ce1,rfl,hX,hA,hb3⟩:=hd.parts HO2.out;replace hm:=hm.step hb3;replace hq:=hq.step hb3;replace HB:=Below.t HB hb3;replace hx:=hx.step hb3
   replace ha:=ha.step hb3;replace hr2:=hr2.step hb3;clear hb3 hd x0 x1 x2;go_upto_region 17 with fail
   refine wp_HA hX hA ?_;intro w16 hy hb hb3;replace hm:=hm.step hb3;replace hq:=hq.step hb3;replace HB:=Below.t HB hb3;replace hx:=hx.step hb3;replace ha:=ha.step hb3;replace hr2:=hr2.step hb3;clear hb3 hX hA;obtain⟨b0, -, -, -⟩:=hb.cells;obtain⟨-,hu0,hu1,hway⟩:=HRT.out;rcases hway with ⟨h1,h2⟩|⟨h1,h2⟩|⟨h1,l,h2,h3⟩
   ·rw[h1] at b0;obtain⟨-, -, -, -, -, -,r6, -⟩:=hr2.cells;rw[HOLD.out,h2] at r6;clear h1 h2 hu0 hu1;go_wp2;go_ret;exact⟨rfl,HB⟩
   ·rw[h1] at b0;clear h1;obtain⟨i,hi⟩: ∃i:Nat,q.user=(i:Int)+1:=⟨(q.user - 1).toNat,by omega⟩;have hul:i<m.used.length:=by rw[hi] at hu1;simpa using hu1
    rw[hi,show((i:Int)+1 - 1).toNat=i by omega,J4 hul] at h2;obtain⟨fu,hu⟩:=hm.used;obtain⟨rfl,huc,hum, -⟩:=id hu;unfold maxLen at hum;obtain⟨bu,ou,rfl, -, -,u0⟩:=Xg hu hul;obtain⟨fe,he⟩:=hq.Ez;obtain⟨-,m1, -⟩:=hm.cells;obtain⟨q0, -, -, -, -, -, -, -,q8, -⟩:=hq.cells;rw[hi] at q0;have i0:(0:Int)≤(i:Int):=by omega
    have i1:(i:Int)<(m.used.length:Int):=by omega
    have hus:=(J8.1 (Jo.1 HOK.out.1).1).2.2.2 _ (List.getElem_mem hul);have hsz:=treSize_few HOK.out.2;have hgt:(200:Int)<m.used[i]+2*(Yg q.Ez:Int):=by omega
    have HS3:=Ja he;have D1:=Ja (fun n:BelowW w16=>jb7 n.val (HS3.out.step n.property) (ReqFit.of HOK.out.2).Ez);clear h2 hi hu0 hu1 hu he;go_upto_region 20 with fail
    have n0:=BelowW.nonempty w16;have ex0:=BelowW.ex (w:=w16);have g0:=bwc m1;have g1:=bwc u0;have g2:=bwc q0;have g3:=bwc q8;clear m1 u0 q0 q8;refine Jf (by kernel_rfl) (by kernel_rfl) ?_
    repeat(go_big_quiet_step(first|(go_at_call 30;exact BelowW.calls _ (D1.out _))))
    refine wpQuiet_nil ?_;rintro w9 ⟨m9,hw9⟩;have hb9:=m9.property;rw[←hw9] at hb9;clear hw9 m9;go_wp2;go_ret;exact⟨rfl,Below.t HB hb9⟩
   ·have HB1:=Ja h1;have H2:=Ja h2;have H3:=Ja h3;clear h1 h2 h3 hu0 hu1 b0;obtain⟨x0,x1,x2⟩:=hm.cells;obtain⟨-, -,q2, -,q4, -⟩:=hq.cells;obtain⟨b0, -, -, -⟩:=hb.cells;rw[HB1.out] at b0;go_wp2_with fail;refine(implFiles_some hm hf.out.1 _ _ _ (by decide) H2.out).mono ?_;rintro e w17 ⟨B5,d5,g5,rfl,s5,hb3⟩;replace hm:=hm.step hb3;replace hq:=hq.step hb3;replace HB:=Below.t HB hb3
    replace hx:=hx.step hb3;replace ha:=ha.step hb3;replace hr2:=hr2.step hb3;replace hy:=hy.step hb3;replace hb:=hb.step hb3;clear hb3 x0 x1 x2 q2 q4 b0;obtain⟨x0,x1,x2⟩:=hy.cells;obtain⟨-, -,q2, -,q4, -⟩:=hq.cells;obtain⟨b0, -, -, -⟩:=hb.cells;rw[HB1.out] at b0;go_wp2_with fail;refine(implFiles_some hy HFY.out _ _ _ (by decide) H3.out).mono ?_;rintro e w18 ⟨B6,d6,g6,rfl,s6,hb3⟩
    replace hm:=hm.step hb3;replace hq:=hq.step hb3;replace HB:=Below.t HB hb3;replace hx:=hx.step hb3;replace ha:=ha.step hb3;replace hr2:=hr2.step hb3;replace hy:=hy.step hb3;replace hb:=hb.step hb3;replace s5:=s5.step hb3;clear hb3 x0 x1 x2 q2 q4 b0;obtain⟨b0, -, -, -⟩:=hb.cells;rw[HB1.out] at b0;go_wp2_with fail;refine(chFiles_same s5 s6).mono ?_;rintro e w19 ⟨rfl,hb3⟩;replace hm:=hm.step hb3
    replace hq:=hq.step hb3;replace HB:=Below.t HB hb3;replace hx:=hx.step hb3;replace ha:=ha.step hb3;replace hr2:=hr2.step hb3;replace hy:=hy.step hb3;replace hb:=hb.step hb3;replace s5:=s5.step hb3;replace s6:=s6.step hb3;clear hb3;go_wp2;go_ret;exact⟨rfl,HB⟩
def Opens {α H:Type} (enc:TypeId×Value→H) (P:Program) (t:TypeId) (r:Rp α) (ok:α→Prop):Prop:=
 ∀ {w:World} {base:Nat} {spare:Nat→Bool} {held:Bool} {fuel:Nat} {cs:List Value} {x:DataW H×List MemPlace},DataW.trod enc P w base spare held fuel t cs=some x→∃y fp,r.R w cs y fp∧ok y
section
variable {H:Type} {enc:TypeId×Value→H} {P:Program}
theorem opens_byte {t:TypeId} (ht:P.underlying t=some (.int .u8)):Opens enc P t Rp.byte (fun _=>True):=fun h=>by
 obtain⟨n,rfl,_,hw⟩:=DataW.trod_int ht h;simp[Lit.wf,IntKind.min,IntKind.max,IntKind.signed,IntKind.bits] at hw;refine⟨UInt8.ofNat n.toNat,[],⟨?_,rfl⟩,trivial⟩;have e:((UInt8.ofNat n.toNat).toNat:Int)=n:=by
  rw[UInt8.toNat_ofNat'];omega
 show [Value.int .u8 n]= [Value.int .u8 ((UInt8.ofNat n.toNat).toNat:Int)];rw[e]
theorem spot_none {w:World} {a:Addr} {v:Value} (h:w.cell? a=some v):a.spot=none:=by
 unfold World.cell? at h;split at h
 ·split at h
  ·cases h
  ·rename_i hs;simpa using hs
 ·cases h
theorem opens_rows {α:Type} {r:Rp α} {ok:α→Prop} {w:World} {base:Nat} {a:Addr} : ∀(len:Nat),(∀i,i<len→∃cs' y f,w.cells? base (a.add (i*r.k)) r.k=some cs'∧r.R w cs' y f∧ok y)→
  ∃xs l fp,l.length=len∧AllR r w xs l fp∧(∀y∈l,ok y)∧∀j u,xs[j]? =some u→w.cell? (a.add j)=some u
 | 0,_=>⟨[],[],[],rfl,⟨rfl,rfl⟩,by simp,by simp⟩
 |len+1,h=>by
  obtain⟨xs,l,fp,hl,ha,hok,hc⟩:=opens_rows len (fun i hi=>h i (by omega));obtain⟨cs',y,f,hcs,hr,hy⟩:=h len (by omega);obtain⟨_,hcl,hat⟩:=World.cells?_some hcs;have hxl:=ha.len;refine⟨xs++cs',l++ [y],fp++f,by simp[hl],ha.snoc hr,fun z hz=> ?_,fun j u hu=> ?_⟩
  ·rcases List.mem_append.1 hz with hz|hz
   ·exact hok z hz
   ·simp at hz;subst hz;exact hy
  ·by_cases hj:j<xs.length
   ·rw[List.getElem?_append_left hj] at hu;exact hc j u hu
   ·rw[List.getElem?_append_right (by omega)] at hu;have hlt:=(List.getElem?_eq_some_iff.1 hu).1;have:=hat (i:=j - xs.length) (by omega);rw[hu] at this;rw[Go.Deep.add_add,show len*r.k+(j - xs.length)=j from by rw[hl] at hxl;omega] at this;exact this
theorem opens_slice {α:Type} {r:Rp α} {ok:α→Prop} {t e:TypeId} (ht:P.underlying t=some (.slice e)) (hC:P.cellsOf e=r.k) (hk:0<r.k) (h:Opens enc P e r ok):Opens enc P t (Rp.slice r) (fun l=>∀y∈l,ok y):=fun {w base spare held fuel cs x} hr=>by
 rcases open_slice ht hr with ⟨rfl,_⟩|⟨a,len,cap,m,n,D,Pl,rfl,hb,hl,hm,hmm,_,hi⟩
 ·exact⟨[],[],⟨none,0,0,rfl,SlR.nil⟩,by simp⟩
 ·have hle:len≤m:=by rw[hmm];split<;>omega
  rw[hC] at hi;obtain⟨xs,l,fp,hlen,ha,hok,hc⟩:=opens_rows (r:=r) (ok:=ok) (w:=w) (base:=base) (a:=a) len (fun i hii=>by
   obtain⟨cs',hcs,htr⟩:=hi i (by omega);obtain⟨y,f,hR,hy⟩:=h htr;exact⟨cs',y,f,hcs,hR,hy⟩)
  have hxl:=ha.len;by_cases h0:len=0
  ·subst h0;have:l= []:=List.eq_nil_of_length_eq_zero hlen;subst this;obtain⟨rfl,rfl⟩:=ha;exact⟨[],[],⟨some a,0,cap,rfl,rfl,Nat.zero_le _,hm,[],[],[],⟨by simp,.inl ⟨rfl,rfl⟩⟩,⟨rfl,rfl⟩,rfl⟩,by simp⟩
  ·have hpos:0<xs.length:=by rw[hxl,hlen];exact Nat.mul_pos (by omega) hk
   have h00:=hc 0 xs[0] (List.getElem?_eq_getElem hpos);have ha0:a.add 0=a:=by simp[Addr.add]
   rw[ha0] at h00;obtain⟨b,o,s⟩:=a;have hs:s=none:=spot_none h00;subst hs;refine⟨l,[b]++fp,⟨_,len,cap,rfl,hlen.symm,hl,hm,xs,[b],fp,⟨by rw[hxl,hlen],.inr ⟨by omega,b,o,rfl,rfl,World.block_lt_of_cell? w _ h00,fun j u hu=> ?_⟩⟩,ha,rfl⟩,hok⟩;have:=hc j u hu;rwa [Addr.add_lit] at this
theorem post_of_below {f:Func} {s:ChangeSpec} {apart fresh handsOn again:Bool} {W W':World} {args:Array Value} {v:Value} {ds gs:List (DataW H)} {before pa pv:List MemPlace}
  (hW:DataW.Whole enc P f.params.toList s.vars apart W args.toList ds gs before)
  (hres: ∀(b:Nat) (sp:Nat→Bool) (hd:Bool),DataW.TrodAll enc P W' b sp hd f.resultTypes.toList (v.resultList f.resultTypes.size) (s.fn H (ds++gs)).results [])
  (hargs: ∀sp:Nat→Bool,(∀p∈before,sp p.block=true)→DataW.TrodAll enc P W' 0 sp true f.params.toList args.toList (s.fn H (ds++gs)).args pa)
  (hvars: ∀sp:Nat→Bool,(∀p∈before,sp p.block=true)→DataW.TrodVars enc P W' sp s.vars (s.fn H (ds++gs)).vars pv)
  (hps:before=pa++pv) (hb:Below W.heap.size W W')
  (hok: ∀(j:Nat) (t:TypeId) (r:Value),f.resultTypes[j]? =some t→(v.resultList f.resultTypes.size)[j]? =some r→Value.okWide P W' .any 0 t r):
  s.post enc P f apart fresh handsOn again W args v W':=by
 have hlt: ∀p∈before,p.block<W.heap.size:=fun p hp=>hW.lt p hp;have hold: ∀p∈before,(fun b=>decide (b<W.heap.size)) p.block=true:=fun p hp=>by simpa using hlt p hp
 refine⟨ds,gs,before,[],pa,pv,hW,hres _ _ _,hargs _ hold,hvars _ hold,World.keptBut_mono (fun p hp=>⟨hp, ?_⟩) (hb.frame (·∈before)),fun _=> ?_⟩
 ·rw[hps,List.mem_append] at hp;exact Or.inr hp
 ·obtain⟨_,_,_,_,_,hz,hn⟩:=hW;refine⟨hok,_,_,([]++pa)++pv,⟨[]++pa,pv,trodAll_append (hargs _ (fun _ _=>rfl)) (hres _ _ _),hvars _ (fun _ _=>rfl),rfl, ?_, ?_⟩, ?_⟩
  ·intro b off hp;have hin:MemPlace.cell b off∈before:=by rw[hps];simpa using hp
   rw[hb.frozen (hlt _ hin)];exact hz b off hin
  ·intro ha;have:=hn ha;rw[hps] at this;simpa using this
  ·intro p hp _;rw[hps];simpa using hp
end
theorem fnMdlReset_own:ownKnob Tryz.prog.godebug=none:=by kernel_rfl
theorem fnMdlReset_laidOut:laidOutB Tryz.prog=true:=by kernel_rfl
theorem fnMdlReset_contract (H:Type) (enc:TypeId×Value→H) (W:World) (base:Nat) (args:Array Value) (ds gs:List (DataW H)) (before:List MemPlace)
  (hval0: ∀(j:Nat) t v,Tryz.f13.params[j]? =some t→args[j]? =some v→Value.okWide Tryz.prog W .any base t v)
  (hW:DataW.Whole enc Tryz.prog Tryz.f13.params.toList Rows.fnMdlResetSpec.vars false W args.toList ds gs before):
  Calls Tryz.prog 13 args W fun e W'=>∃v,e= .returned v∧Rows.fnMdlResetSpec.post enc Tryz.prog Tryz.f13 false true false false W args v W':=by
 have hval:=hval0;have hW':=hW;obtain⟨p,q,hA0,hV,rfl,hfz,hnd⟩:=hW;have hA:DataW.TrodAll enc Tryz.prog W 0 (fun _=>true) true Tryz.f13.params.toList args.toList ds p:=hA0;rw[Tryz.params13] at hA hval;obtain⟨v0,d0,rfl,rfl,h0⟩:=trodAll_one hA;obtain⟨rfl,rfl⟩:=trodVars_none hV;have h0k:=h0;obtain⟨a0,len0,cap0,rfl⟩:=okWide_slice Tryz.underlying22 (hval 0 22 v0 rfl rfl);obtain⟨fuel0,hf0⟩:=h0
 obtain⟨l0,fp0,⟨A0,n0,c0,hcs0,hs0⟩,hw0⟩:=opens_slice Tryz.underlying22 (by kernel_rfl) (by decide) (opens_byte Tryz.underlying5) hf0;have hc0:Value.slice a0 len0 cap0= .slice A0 n0 c0:=by simpa [Value.cells] using hcs0
 rw[hc0] at h0k hW' ⊢;clear hf0 hcs0 hc0;clear hA0 hval hval0;simp only[List.append_nil] at hW';refine(lawReset W hs0).mono fun e W' ⟨he,hb⟩=> ?_;subst he;have hlt0: ∀y∈p,y.block<W.heap.size:=fun y hy=>hW'.lt y (by simp[hy])
 refine⟨_,rfl,post_of_below (pa:=p) (pv:=[]) hW' (fun _ _ _=>trodAll_mk1 (shut_bool Tryz.underlying4 _)) (fun sp hsp=> ?_) (fun _ _=>rfl) (by simp) hb (ok_one (by kernel_rfl) rfl (okWide_bool_mk Tryz.underlying4 _))⟩;exact trodAll_mk1 (WideElems.Trod_stays fnMdlReset_laidOut (by kernel_rfl) (of_decide_eq_true (by kernel_rfl)) h0k (fun y hy=>hb.same (hlt0 y hy)) (fun y hy=>hsp y (by simp[hy])))
mutual
def fnMdlReset_flat:DataW Unit→List Value
 | .lit l=>[l.value]
 | .agg ps=>fnMdlReset_flats ps
 |_=>[]
def fnMdlReset_flats:List (DataW Unit)→List Value
 | []=>[]
 |d::r=>fnMdlReset_flat d++fnMdlReset_flats r
end
noncomputable def fnMdlReset_world (os:Os):World:=
 { World.holding Tryz.prog os ⟨#[],#[],[]⟩ with heap:=(((World.holding Tryz.prog os ⟨#[],#[],[]⟩).heap.modify 2 fun
   | .cells _ t frozen=> .cells (fnMdlReset_flat Rows.laid_unicode_utf8_acceptRanges).toArray t frozen
   |o=>o).modify 1 fun
   | .cells _ t frozen=> .cells (fnMdlReset_flat Rows.laid_unicode_utf8_first).toArray t frozen
   |o=>o)}
set_option maxRecDepth 100000 in
theorem fnMdlReset_met (os:Os):laidMet Tryz.prog Rows.fnMdlResetRow.laid ((fnMdlReset_world os).forCall (fun _ _=>0) ⟨#[],#[.slice none 0 0],[]⟩).memory:=
 laidMet_of_run' 8 (by kernel_rfl) (by kernel_rfl)
theorem fnMdlReset_reads (os:Os) {H:Type} (enc:TypeId×Value→H): ∃x,DataW.whole enc Tryz.prog ((fnMdlReset_world os).forCall (fun _ _=>0) ⟨#[],#[.slice none 0 0],[]⟩).memory Tryz.f13.params.toList Rows.fnMdlResetSpec.vars false (#[.slice none 0 0]:Array Value).toList 8=some x:=
 Option.isSome_iff_exists.1 (show(DataW.whole enc Tryz.prog ((fnMdlReset_world os).forCall (fun _ _=>0) ⟨#[],#[.slice none 0 0],[]⟩).memory Tryz.f13.params.toList Rows.fnMdlResetSpec.vars false (#[.slice none 0 0]:Array Value).toList 8).isSome=true by kernel_rfl)
theorem fnMdlReset_lifted (os:Os) (started:os.Started) (H:Type) (enc:TypeId×Value→H) (F:Stop.Interp):
  ReturnsInHanded {} Tryz.checked os 13 .any ((OpenSpec.ofChange Rows.fnMdlResetSpec).preRow enc Tryz.prog Tryz.f13 Rows.fnMdlResetRow.domain false Rows.fnMdlResetRow.laid) (((OpenSpec.ofChange Rows.fnMdlResetSpec).at F).post enc Tryz.prog Tryz.f13 false true false false):=by
 obtain⟨x0,hx⟩:=fnMdlReset_reads os enc;refine returnsInHanded_of_row (C:=Tryz.checked) (s:=OpenSpec.ofChange Rows.fnMdlResetSpec) fnMdlReset_own started (by kernel_rfl) Tryz.func13
  (witness_row_at (enc:=enc) (C:=Tryz.checked) false (fnMdlReset_world os) #[.slice none 0 0] rfl (by kernel_rfl) (by kernel_rfl) (by kernel_rfl)
   (OpenSpec.preRow_of_cond 8 hx (by kernel_rfl) (fun k hk=>by cases hk) (by kernel_rfl) (fnMdlReset_met os))) ?_
 intro W base args ds gs before hval hW _ _ _ _ _ _;exact fnMdlReset_contract H enc W base args ds gs before hval hW
theorem fnMdlReset_closed:joinedFacts Tryz.pinned.checked.prog 13 Tryz.f13 (OpenSpec.ofChange Rows.fnMdlResetSpec).bare Rows.fnMdlResetRow=true:=by
 unfold joinedFacts;simp only[Bool.and_eq_true]
 repeat' apply And.intro
 all_goals(as_aux_lemma=>kernel_rfl)
theorem fnMdlReset_said:Rows.FnMdlResetSaid:=
 OpenClaim.holds_of_cond 13 Tryz.f13 rfl rfl rfl rfl rfl rfl rfl ⟨rfl,rfl,rfl,rfl,rfl⟩ rfl rfl rfl rfl rfl (by kernel_rfl) Tryz.func13 fnMdlReset_closed
  (of_decide_eq_true (by kernel_rfl)) (by unfold Func.isWrapper;first|(rw[if_pos (by decide+kernel)];kernel_rfl)|(rw[if_neg (by decide+kernel)];exact⟨rfl,rfl⟩))
  (fun os started H enc _ F=>by rw[OpenClaim.pre_eq_preRow];exact fnMdlReset_lifted os started H enc F)
theorem fnMdlReset_plain (f:FuncId) (fn:Func) (hf:Tryz.pinned.checked.prog.funcNamed "loop.example/chartulary/laws.FnMdlReset" =some f) (hfn:Tryz.pinned.checked.prog.funcs[f]? =some fn):
  false=Tryz.pinned.checked.prog.looks []∧∀(j:Nat) t,fn.params[j]? =some t→Tryz.pinned.checked.prog.wantsStandIn t=false:=by
 obtain rfl:f=13:=Option.some.inj ((show Tryz.prog.funcNamed "loop.example/chartulary/laws.FnMdlReset" =some 13 by kernel_rfl).symm.trans hf) |>.symm;obtain rfl:fn=Tryz.f13:=(Option.some.inj (Tryz.func13.symm.trans hfn)).symm;refine⟨by kernel_rfl,fun j t ht=> ?_⟩;rw[Tryz.params13] at ht;have hm:=Array.mem_of_getElem? ht;simp only[List.mem_toArray,List.mem_cons,List.not_mem_nil,or_false] at hm
 rcases hm with rfl
 ·exact(show Tryz.prog.wantsStandIn 22=false by kernel_rfl)
theorem fnMdlReset_holds:Rows.FnMdlResetCardSaid:=
 Claim7.holds_tied_plain_at .later [] _ _ _ _ fnMdlReset_said (fun _ h=>by cases h) (by kernel_rfl) (fun _ h=>by cases h) fnMdlReset_row_tie rfl ⟨rfl,rfl⟩ (by kernel_rfl) rfl fnMdlReset_plain (by kernel_rfl)
#print axioms fnMdlReset_holds
end Go.Proofs.YtlkoaobaoffpaaaGreatDoor
