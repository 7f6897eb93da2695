/- FnMdlCopy: for every input the law answers true and leaves its arguments as they were. Conditions: the listed library tables read as the tie says. -/
import Derived.WalkKit
import Derived.WalkSpells
import Derived.WalkLawsBesides
import Derived.Deep.AppendLies
import Derived.Deep.Draws
import Derived.Sort.OwnSorted
import Derived.ProofKit
import Derived.Deep.Slices
import Derived.Deep.Fields
import Derived.OpenShut
import Derived.ChangeMaps5
import Derived.Deep.DeepHandedRow
import Derived.Lib.LaidTab
import Derived.SevenTiedAt
import Derived.Test.YtobbdhgkcoeifaaGreatDoorZ5
import Derived.Test.YtobbdhgkcoeifaaGreatDoorZ4
import Derived.Test.YtobbdhgkcoeifaaGreatDoorZ27
import Derived.Test.YtobbdhgkcoeifaaGreatDoorZ24
import Derived.Test.YtobbdhgkcoeifaaGreatDoorZ20
import Derived.Test.YtobbdhgkcoeifaaGreatDoorZ28
import Derived.Test.YtobbdhgkcoeifaaGreatDoorZ17
import Derived.Test.YtobbdhgkcoeifaaGreatDoorShelfD
import Derived.Test.YtobbdhgkcoeifaaGreatDoorZ8
import Derived.Test.YtobbdhgkcoeifaaGreatDoorZ1
import Derived.Test.YtobbdhgkcoeifaaGreatDoorCards
import Derived.Test.YtobbdhgkcoeifaaGreatDoorTie
namespace Go.Proofs.YtobbdhgkcoeifaaGreatDoor
open Go.RowKit
attribute [local go_sem ↓] Go.wp_at_zero Go.wp_at_succ
open Go.RowKit Go.Sort
open Go.ChangeShapes Go.WideShapes Go.ChangeAt Go.RowKit Go.Deep
set_option maxHeartbeats 8000000
set_option maxRecDepth 100000
set_option linter.unusedSimpArgs false
set_option linter.unusedVariables false
theorem puts_heap_other {b:Nat} : ∀ {vs:List Value} {o:Nat} {w:World} {x:Nat},x≠b→(puts w b o vs).heap[x]? =w.heap[x]?
 | [],_,_,_,_=>rfl
 |_::vs,_,_,_,h=>(puts_heap_other (vs:=vs) h).trans (Below.heap_setCell _ _ _ _ h)
def FilesOwn (w:World) (o:Option (List File)) (e:Ending) (w':World):Prop:=
 ∃v,e= .returned (.tuple #[v,.bool o.isSome])∧w'.ownsRow w.heap.size 65 2 v (o.getD []).length ((o.getD []).flatMap Jj)∧Below w.heap.size w w'
theorem mdlFiles_ok {m:Jl} {repo back:Int} {name:ByteArray} (hm:Ys m=true):jqz m repo name back=Xn m repo name back:=if_pos hm
theorem mdlFiles_no {m:Jl} {repo back:Int} {name:ByteArray} (hm:Ys m=false):jqz m repo name back=none:=if_neg (by simp[hm])
theorem implMdlFiles_any {cs:List Value} {x:Jl} {fx:List Nat} (repo:Int) (name:ByteArray) (back:Int) (hb1:back≤9223372036854775807) (w:World) (hx:Rp.house.R w cs x fx) (hf:V9 x):
  Calls Tryz.prog 20 #[.agg cs.toArray,.int .i64 repo,.string name,.int .i64 back] w (FilesOwn w (jqz x repo name back)):=by
 have hx0:=hx;obtain⟨A0,n0,c0,f0,A1,n1,c1,f1,A2,n2,c2,f2,rfl,hff,h0,h1,h2⟩:=hx;have RH:=Ja (fun(W:World) (hb:Below w.heap.size w W)=>Rp.house.below hx0 hb nle);have HF:=Ja hf;clear hx0 h0 h1 h2 hff hf;have kb:=Blk.new w 26 #[.slice A0 n0 c0,.slice A1 n1 c1,.slice A2 n2 c2];have HB:=(Below.refl w.heap.size w).alloc nle (.cells #[.slice A0 n0 c0,.slice A1 n1 c1,.slice A2 n2 c2] 26)
 go_enter Tryz.func20,Tryz.ntmps20;go_wp2_with fail;refine(jhy (x:=x) _ (RH.out _ HB) HF.out).mono ?_;rintro e w1 ⟨rfl,hb⟩;replace kb:=kb.step hb;replace HB:=Below.t HB hb;clear hb;cases hd:Ys x
 ·have HV:=Ja (mdlFiles_no (repo:=repo) (name:=name) (back:=back) hd);clear hd;go_wp2
  go_ret2
  rw[HV.out];exact⟨_,rfl,World.ownsRow_nil _ _ _ _,HB⟩
 ·have HV:=Ja (mdlFiles_ok (repo:=repo) (name:=name) (back:=back) hd);have HL:=Ja (jk5 (repo:=repo) (name:=name) (back:=back) hd);clear hd;have u0:=Blk.c0 kb;have u1:=Blk.c1 kb;have u2:=Blk.c2 kb;go_wp2_with fail;refine(jo3 (x:=x) repo name back hb1 _ (RH.out _ HB)).mono ?_;rintro e w2 ⟨A4,n4,c4,f4,rfl,hs4,_,hb⟩;replace HB:=Below.t HB hb;clear hb u0 u1 u2 kb;go_wp2_with fail
  refine(Xk _ hs4 (Nat.le_trans HL.out (by decide))).mono ?_;rintro e w3 ⟨v,rfl,hown,hb⟩;have HO:=Ja (Zy hown HB.size);replace HB:=Below.t HB hb;clear hown hb hs4;go_wp2
  go_ret2
  rw[HV.out];exact⟨_,rfl,HO.out,HB⟩
section
variable {w w':World} {g:Nat} {m:Jl} {q:Req} {a:Ans} {K U R E F N:Value}
end
theorem HB.keys {w:World} {g:Nat} {m:Jl} {U R:Value} {A:Option Addr} {n c:Nat} (h:HB w g m (.slice A n c) U R): ∃f,SlR Rp.int w A n c m.keys f:=by
 obtain⟨f,A0,n0,c0,f0,A1,n1,c1,f1,A2,n2,c2,f2,e, -,h2, -, -⟩:=h.r;cases e;exact⟨f0,h2⟩
section
variable {P:Program} {s:Code} {Q:Exit→Act→World→Prop} {b:Act} {w:World} {m:Jl} {q:Req} {a:Ans} {K U R E F N:Value}
end
section
variable {w0 W W':World} {m:Jl} {q q':Req} {K U R E E':Value}
end
theorem req_empty {w:World} {q:Req} (h:q.Ez= []) (A:Option Addr) (c:Nat) (hc:c≤maxLen):Rp.req.R w (V5 q (.slice A 0 c)).toList q []:=
 ⟨A,0,c,[],rfl,rfl,by rw[h];exact⟨rfl,Nat.zero_le _,hc,[],[],[],⟨rfl,.inl ⟨rfl,rfl⟩⟩,⟨rfl,rfl⟩,rfl⟩⟩
section
variable {w w':World} {g lo:Nat} {m:Jl} {K U R:Value}
end
theorem implFiles_some {w:World} {g:Nat} {m:Jl} {K U R:Value} {l:List File} (h:HB w g m K U R) (hf:V9 m) (repo:Int) (name:ByteArray) (back:Int) (hb:back≤9223372036854775807) (ho:jqz m repo name back=some l):
  Calls Tryz.prog 20 #[.agg #[K,U,R],.int .i64 repo,.string name,.int .i64 back] w fun e w'=>∃A c f,e= .returned (.tuple #[.slice A l.length c,.bool true])∧SlR Rp.file w' A l.length c l f∧Below w.heap.size w w':=
 (implMdlFiles_any repo name back hb w h.r.choose_spec hf).mono fun e w' ⟨v,h1,h2,h3⟩=>by
  rw[ho] at h1 h2;simp only[Option.getD_some,Option.isSome_some] at h1 h2;obtain⟨A,c,f,rfl,hs, -⟩:=Xw (k:=2) (enc:=Jj) (hk:=fun _=>rfl) (h1:=Vz) h2;exact⟨A,c,f,h1,hs,h3⟩
theorem chFiles_same {w:World} {A B:Option Addr} {n c m d:Nat} {x:List File} {fx fy:List Nat} (hx:SlR Rp.file w A n c x fx) (hy:SlR Rp.file w B m d x fy):
  Calls Tryz.prog 21 #[.slice A n c,.slice B m d] w fun e w'=>e= .returned (.bool true)∧Below w.heap.size w w':=
 (jgb w hx hy).mono fun _ _ ⟨h1,h2⟩=>⟨by rw[h1];simp,h2⟩
theorem sl_rule1 {w:World} {b:Nat} {t:TypeId} {r:Yt} (h:Blk w b t (Jh r).toArray):SlR Rp.rule w (some ⟨b,0,none⟩) 1 1 [r] [b]:=by
 refine⟨rfl,Nat.le_refl _,by simp[maxLen],Jh r,[b],[],⟨rfl,.inr ⟨by decide,b,0,rfl,rfl,h.lt,fun j u hu=> ?_⟩⟩,AllR.flat.2 ⟨by simp,rfl⟩,rfl⟩;have:=h.cell j;rw[Nat.zero_add,this];simpa using hu
theorem fitRules1 {r:Yt} (h:Vn r):Ym [r]:=fun i hi=>by
 obtain rfl:i=0:=by simp at hi;omega
 exact h
def allWrite:Yt:=⟨0,⟨#[]⟩,⟨#[]⟩,true⟩
theorem house_rules {w:World} {cs:List Value} {m:Jl} {fp:List Nat} (h:Rp.house.R w cs m fp) (hn:fp.Nodup) (hf:Free w fp) {i:Nat} (hi:i<m.Rz.length):
  ∃A0 n0 c0 A1 n1 c1 b o c2,cs= [.slice A0 n0 c0,.slice A1 n1 c1,.slice (some ⟨b,o,none⟩) m.Rz.length c2]∧c2≤maxLen∧m.Rz.length≤c2∧b∈fp∧
   ∀(w1:World) (A:Option Addr) (c:Nat) (l:List Yt) (f':List Nat),Below w.heap.size w w1→SlR Rp.rule w1 A l.length c l f'→f'.Nodup→Free w1 f'→(∀x∈f',x∉fp)→
    (∃v0,w1.cell? ⟨b,o+i*3+1,none⟩=some v0)∧w1.frozen? ⟨b,o+i*3+1,none⟩=false∧
    ∃fp',Rp.house.R (w1.setCell ⟨b,o+i*3+1,none⟩ (.slice A l.length c)) cs { m with Rz:=m.Rz.set i { m.Rz[i] with Uz:=l}} fp'∧fp'.Nodup∧Free (w1.setCell ⟨b,o+i*3+1,none⟩ (.slice A l.length c)) fp'∧∀x∈fp',x∈fp∨x∈f':=by
 obtain⟨A0,n0,c0,A1,n1,c1,b,o,c2, -, -, -,rfl,hcm,hcl, -, -, -,hbm, -⟩:=X9 h hn hf hi;refine⟨A0,n0,c0,A1,n1,c1,b,o,c2,rfl,hcm,hcl,hbm,fun w1 A c l f' hb hsl hfn hff hd=> ?_⟩;have h1:Rp.house.R w1 _ m fp:=Rp.house.below h hb nle;have hf1:Free w1 fp:=fun x hx=>(hb.block x (Rp.house.lt h x hx))▸hf x hx
 obtain⟨_,_,_,_,_,_,_,_,_,cr,f1,g1,he, -, -,hn1,hfr1,hs1,hbm1,hsg,hRr,hE,hset⟩:=X9 h1 hn hf1 hi;cases he;obtain⟨ra,rn,rc,rf,ra',rn',rc',rf',rfl,hff1,hru,hre⟩:=id hRr;have hnm:=hE.nmem;rw[hff1] at hnm;have hE':=hE.put (j:=1) (by simp) (.slice A l.length c);have hbf:b∉f':=fun h=>hd b h hbm;have hrs: ∀z∈rf',z∈f1:=fun z hz=>by rw[hff1];simp[hz]
 refine⟨⟨_,hE.cells 1 _ rfl⟩,hE.frozen _, ?_⟩;obtain⟨fp',j1,j2,j3,j4⟩:=hset _ _ { m.Rz[i] with Uz:=l} (f'++rf') hE' ⟨_,_,_,f',_,_,_,rf',rfl,rfl,hsl.putN hbf _,hre.putN (fun h=>hnm (by simp[h])) _⟩
  (List.nodup_append.2 ⟨hfn,(List.nodup_append.1 (hff1▸hn1)).2.1,fun x hx y hy e=>by subst e;exact hd x hx (hs1 x (hrs x hy))⟩) (fun x hx=>(List.mem_append.1 hx).elim (fun h=> .inr (hd x h)) fun h=> .inl (hrs x h))
  (fun x hx=>(List.mem_append.1 hx).elim (fun h=>(hff.setCell _ rfl _) x h) fun h=>hE'.free x (hE'.sub x (hrs x h)))
 exact⟨fp',j1,j2,j3,fun x hx=>(j4 x hx).elim .inl fun h=>(List.mem_append.1 h).elim .inr fun h=> .inl (hs1 x (hrs x h))⟩
theorem Free.new {w:World} {t:TypeId} {cs:Array Value} :Free (w.alloc (.cells cs t)) [w.heap.size]:=fun b hb=>by
 obtain rfl:=List.mem_singleton.1 hb;exact⟨cs,t,Blk.new w t cs⟩
theorem below_puts {B b:Nat} : ∀ {vs:List Value} {o:Nat} {a w:World},Below B a w→B≤b→Below B a (puts w b o vs)
 | [],_,_,_,h,_=>h
 |v::vs,o,a,w,h,hb=>below_puts (vs:=vs) (h.setCell (p:=⟨b,o,none⟩) hb v) hb
abbrev HBx:=@HB
theorem Blk.puts {g:Nat} {t:TypeId} : ∀ {vs pre cs:List Value} {w:World},Blk w g t (pre++cs).toArray→vs.length=cs.length→Blk (puts w g pre.length vs) g t (pre++vs).toArray
 | [],pre,cs,w,h,hl=>by
  have:cs= []:=List.eq_nil_of_length_eq_zero hl.symm;subst this;exact h
 |v::vs,pre,c::cs,w,h,hl=>by
  have h1:=h.put pre.length v;have e:(pre++c::cs).toArray.setIfInBounds pre.length v=((pre++ [v])++cs).toArray:=by simp
  rw[e] at h1;have h2:=Blk.puts (vs:=vs) h1 (by simpa using hl);rw[List.length_append,List.length_singleton] at h2;have e2:(pre++ [v])++vs=pre++v::vs:=by simp
  rw[e2] at h2;exact h2
theorem req_put {w:World} {g:Nat} {m:Jl} {K U R:Value} {q:Req} (q':Req) {E:Value} {fp:List Nat} (km:Blk w g 26 #[K,U,R]) (hR:Rp.house.R w [K,U,R] m fp) (hn: ∀x∈fp,x≠g+1)
  (kq:Blk w (g+1) 31 (V5 q E)) (he:q'.Ez= []):
  HB (puts w (g+1) 0 (V5 q' (.slice none 0 0)).toList).drew g m K U R∧QB (puts w (g+1) 0 (V5 q' (.slice none 0 0)).toList).drew (g+1) q' (.slice none q'.Ez.length 0):=by
 have kk:Blk (puts w (g+1) 0 (V5 q' (.slice none 0 0)).toList) (g+1) 31 (V5 q' (.slice none 0 0)):=by
  have:=Blk.puts (vs:=(V5 q' (.slice none 0 0)).toList) (pre:=[]) (cs:=(V5 q E).toList) (w:=w) (g:=g+1) (by simpa using kq) (by simp[V5]);simpa using this
 have h0: ∀x,x≠g+1→(puts w (g+1) 0 (V5 q' (.slice none 0 0)).toList).heap[x]? =w.heap[x]? :=fun x hx=>puts_heap_other hx;rw[he];generalize puts w (g+1) 0 (V5 q' (.slice none 0 0)).toList=W at kk h0 ⊢;exact⟨⟨(h0 g (by omega)).trans km,fp,Rp.house.keep hR fun x hx=>h0 x (hn x hx)⟩,kk,[],req_empty he none 0 (Nat.zero_le _)⟩
theorem manage_same {p:Xq} {r:Req} (h:(manage p r).2≠1):(manage p r).1=p:=by
 have:(manage p r).1=p∨(manage p r).2=1:=by
  unfold manage
  repeat' split
  all_goals first|exact .inl rfl|exact .inr rfl
 exact this.resolve_right h
theorem write_same {m:Jl} {p:Xq} {r:Req} (h:(write m p r).2≠1):(write m p r).1=m:=by
 have:(write m p r).1=m∨(write m p r).2=1:=by
  unfold write
  repeat' split
  all_goals first|exact .inl rfl|exact .inr rfl
 exact this.resolve_right h
theorem set_self {α:Type} {l:List α} {i:Nat} {a:α} (h:l[i]? =some a):l.set i a=l:=by
 obtain⟨hi,rfl⟩:=List.getElem?_eq_some_iff.1 h;exact List.set_getElem_self hi
theorem refused {m:Jl} {r:Req} (h:(Zn m r).2.code≠1∨r.kind=2∨r.kind=3∨r.kind=11):(Zn m r).1=m:=by
 unfold Zn at h ⊢;split
 ·split
  ·rfl
  ·split
   ·rfl
   ·rename_i p hp
    split
    ·rfl
    ·split
     ·rfl
     ·rename_i n1 n2 n3
      split
      ·rename_i hw
       refine write_same ?_;rcases h with h|h|h|h
       ·simpa [*,code] using h
       all_goals simp_all
      ·split
       ·rfl
       ·rename_i hk
        have:(manage p r).1=p:=by
         refine manage_same ?_;rcases h with h|h|h|h
         ·simpa [*,code] using h
         all_goals simp_all
        rw[this];simp[set_self hp]
 ·rfl
structure Laid (m:Jl) (r:Req) (p:Xq) (k:Nat):Prop where
 knows:knows m.keys r.user r.key=true
 writes:Vs r=true
 repo:m.Rz[r.repo.toNat]? =some p
 ref:Y7 p.Fz r.ref=some k
 may:Yi m p r=true
 old:(p.Fz.getD k Y8).count=r.old
 more:(p.Fz.getD k Y8).count≠14
 new:(newest m (p.Fz.getD k Y8) r).2=1
 used:m.used.getD (r.user - 1).toNat 0+Yg r.Ez≤200
 eq:Zn m r=(jpm m p k r (newest m (p.Fz.getD k Y8) r).1,code 1)
structure Managed1 (m:Jl) (r:Req) (p:Xq):Prop where
 knows:knows m.keys r.user r.key=true
 writes:Vs r=false
 kind:r.kind≠2∧r.kind≠3∧r.kind≠11
 repo:m.Rz[r.repo.toNat]? =some p
 Az:r.user=p.Az
 done:(manage p r).2=1
 eq:Zn m r=({ m with Rz:=m.Rz.set r.repo.toNat (manage p r).1},code 1)
theorem write_ways (m:Jl) (p:Xq) (r:Req):((write m p r).1=m∧(write m p r).2≠1)∨∃k,Y7 p.Fz r.ref=some k∧Yi m p r=true∧(p.Fz.getD k Y8).count=r.old∧(p.Fz.getD k Y8).count≠14∧(newest m (p.Fz.getD k Y8) r).2=1∧m.used.getD (r.user - 1).toNat 0+Yg r.Ez≤200∧write m p r=(jpm m p k r (newest m (p.Fz.getD k Y8) r).1,1):=by
 unfold write;split
 ·rename_i hm
  split
  ·exact .inl ⟨rfl,by simp⟩
  ·rename_i k hk
   split
   ·exact .inl ⟨rfl,by simp⟩
   ·rename_i h1
    split
    ·exact .inl ⟨rfl,by simp⟩
    ·rename_i h2
     split
     ·rename_i h3
      exact .inl ⟨rfl,h3⟩
     ·rename_i h3
      split
      ·exact .inl ⟨rfl,by simp⟩
      ·rename_i h4
       exact .inr ⟨k,hk,hm,Classical.not_not.1 h1,h2,Classical.not_not.1 h3,by omega,rfl⟩
 ·exact .inl ⟨rfl,by simp⟩
theorem doIt_none {m:Jl} {r:Req} (hp:m.Rz[r.repo.toNat]? =none) (hk:knows m.keys r.user r.key=true) (h11:r.kind≠11):Zn m r=(m,code 3):=by
 unfold Zn;rw[if_pos hk,if_neg h11,hp]
theorem doIt_writes {m:Jl} {r:Req} {p:Xq} (hk:knows m.keys r.user r.key=true) (hp:m.Rz[r.repo.toNat]? =some p) (hw:Vs r=true):Zn m r=((write m p r).1,code (write m p r).2):=by
 have h:r.kind=1∨r.kind=9∨r.kind=10:=by simpa [Vs,or_assoc] using hw
 unfold Zn;rw[if_pos hk,if_neg (by omega),hp];simp only[hw];rw[if_neg (by omega),if_neg (by omega)];rfl
theorem doIt_rest {m:Jl} {r:Req} {p:Xq} (hk:knows m.keys r.user r.key=true) (hp:m.Rz[r.repo.toNat]? =some p) (hw:Vs r=false) (h:r.kind≠2∧r.kind≠3∧r.kind≠11):
  Zn m r=if r.user≠p.Az then(m,code 4) else({ m with Rz:=m.Rz.set r.repo.toNat (manage p r).1},code (manage p r).2):=by
 unfold Zn;rw[if_pos hk,if_neg h.2.2,hp];simp only[hw];rw[if_neg h.1,if_neg h.2.1];rfl
theorem doIt_ways (m:Jl) (r:Req):((Zn m r).1=m∧((Zn m r).2.code=1→r.kind=2∨r.kind=3∨r.kind=11))∨(∃p k,Laid m r p k)∨∃p,Managed1 m r p:=by
 by_cases ht:r.kind=2∨r.kind=3∨r.kind=11
 ·exact .inl ⟨refused (.inr ht),fun _=>ht⟩
 ·by_cases hk:knows m.keys r.user r.key=true
  ·cases hp:m.Rz[r.repo.toNat]? with
   |none=>left;rw[doIt_none hp hk (by omega)];exact⟨rfl,fun h=>by simp[code] at h⟩
   |some p=>
    cases hw:Vs r
    ·have he:=doIt_rest hk hp hw (by omega);by_cases ha:r.user=p.Az
     ·rw[if_neg (by simpa using ha)] at he;by_cases hd:(manage p r).2=1
      ·exact .inr (.inr ⟨p,hk,hw,by omega,hp,ha,hd,by rw[he,hd]⟩)
      ·left;rw[he,manage_same hd];exact⟨by simp[set_self hp],fun h=>absurd h hd⟩
     ·rw[if_pos (by simpa using ha)] at he;left;rw[he];exact⟨rfl,fun h=>by simp[code] at h⟩
    ·have he:=doIt_writes hk hp hw;rcases write_ways m p r with ⟨h,h'⟩|⟨k,a,b,c,d,e,f,g⟩
     ·left;rw[he];exact⟨h,fun h=>absurd h h'⟩
     ·exact .inr (.inl ⟨p,k,hk,hw,hp,a,b,c,d,e,f,by rw[he,g]⟩)
  ·left;unfold Zn;rw[if_neg hk];exact⟨rfl,fun h=>by simp[code] at h⟩
theorem apart {m:Jl} {r:Req} (hr:0≤r.repo) {i:Nat} (hi:(i:Int)≠r.repo):(Zn m r).1.Rz[i]? =m.Rz[i]? :=by
 have hn:r.repo.toNat≠i:=by omega
 rcases doIt_ways m r with ⟨h, -⟩|⟨p,k,h⟩|⟨p,h⟩
 ·rw[h]
 ·rw[h.eq];simp[jpm,hn]
 ·rw[h.eq];simp[hn]
def lookup (l:List File) (s:ByteArray):Option ByteArray:=(l.find? fun f=>decide (f.path=s)).map (·.bytes)
def diffA (b:List File) (f:File):Bool:=decide (lookup b f.path≠some f.bytes)
def diffB (a:List File) (f:File):Bool:=decide (lookup a f.path=none)
def differs (a b:List File):List ByteArray:=(a.filter (diffA b)).map (·.path)++(b.filter (diffB a)).map (·.path)
theorem asc_inj {l:List File} (h:asc File.path l) {f g:File} (hf:f∈l) (hg:g∈l) (e:f.path=g.path):f=g:=by
 obtain⟨i,hi,rfl⟩:=List.mem_iff_getElem.1 hf;obtain⟨j,hj,rfl⟩:=List.mem_iff_getElem.1 hg;have hp:=List.pairwise_iff_getElem.1 h;rcases Nat.lt_trichotomy i j with c|c|c
 ·exact absurd e (bLt_ne (hp i j hi hj c))
 ·subst c;rfl
 ·exact absurd e.symm (bLt_ne (hp j i hj hi c))
theorem lookup_mem {l:List File} (h:asc File.path l) {f:File} (hf:f∈l):lookup l f.path=some f.bytes:=by
 unfold lookup;cases e:l.find? fun g=>decide (g.path=f.path) with
 |none=>exact absurd (List.find?_eq_none.1 e f hf) (by simp)
 |some g=>
  have h1:=List.mem_of_find?_eq_some e;have h2:g.path=f.path:=by have:=List.find?_some e;simpa using this
  rw[asc_inj h h1 hf h2];rfl
theorem differs_ne {a b:List File} (ha:asc File.path a) {s:ByteArray} (h:s∈differs a b):lookup a s≠lookup b s∧∃f,(f∈a∨f∈b)∧f.path=s:=by
 unfold differs at h;rcases List.mem_append.1 h with h|h
 ·obtain⟨f,hf,rfl⟩:=List.mem_map.1 h;obtain⟨h1,h2⟩:=List.mem_filter.1 hf;simp only[diffA,decide_eq_true_eq] at h2;rw[lookup_mem ha h1];exact⟨fun e=>h2 e.symm,f,.inl h1,rfl⟩
 ·obtain⟨f,hf,rfl⟩:=List.mem_map.1 h;obtain⟨h1,h2⟩:=List.mem_filter.1 hf;simp only[diffB,decide_eq_true_eq] at h2;refine⟨fun e=> ?_,f,.inr h1,rfl⟩;rw[h2] at e;unfold lookup at e;have:=(Option.map_eq_none_iff.1 e.symm);exact absurd (List.find?_eq_none.1 this f h1) (by simp)
theorem differs_self {l:List File} (h:Y1 l=true):differs l l= []:=by
 rw[List.eq_nil_iff_forall_not_mem];exact fun s hs=>(differs_ne (jn1 h) hs).1 rfl
theorem version_first (vs:List (List File)):version vs 0=if vs= [] then none else some (vs.getLastD []):=by
 unfold version;cases vs with
 |nil=>simp
 |cons v l=>
  rw[if_pos (by simp),if_neg (by simp)];simp[List.getLastD_eq_getLast?,List.getLast?_eq_getElem?]
theorem lastOf_last (l:List (List File)) (x:List File):(jgu (l++ [x])).getLastD []=x:=by
 unfold jgu;rw[List.getLastD_eq_getLast?,List.getLast?_drop,if_neg (by simp;omega)];simp
theorem infoC_StrD:(Tryz.prog.info? 9).map (fun i=>(i.zero,i.size,i.bytes))=some (some (.string ByteArray.empty),1,16):=by kernel_rfl
theorem strs_enc (ss:List ByteArray):(ss.flatMap fun s=>[Value.string s])=(ss.map (·.data.toList)).map encStr:=by
 induction ss with
 |nil=>rfl
 |cons s ss ih=>rw[List.flatMap_cons,ih];rfl
theorem enc_strs (ls:List (List UInt8)):ls.map encStr=(ls.map fun l=>(⟨l.toArray⟩:ByteArray)).flatMap fun s=>[Value.string s]:=by
 induction ls with
 |nil=>rfl
 |cons s ss ih=>rw[List.map_cons,ih];rfl
theorem mem_compact {zs:List (List UInt8)} {x:List UInt8} (h:x∈Lib.compact zs):x∈zs:=by
 unfold Lib.compact Lib.compactUpTo at h;obtain⟨i,hi,rfl⟩:=List.mem_map.1 h;have hi':i<zs.length:=List.mem_range.1 (List.mem_filter.1 hi).1;simp[getElem!_pos,hi']
theorem compact_le (zs:List (List UInt8)):(Lib.compact zs).length≤zs.length:=by
 unfold Lib.compact Lib.compactUpTo;rw[List.length_map];exact Nat.le_trans (List.length_filter_le _ _) (by simp)
theorem owns_take {w:World} {base:Nat} {e:TypeId} {g n cap k:Nat} {xs:List Value} (h:w.ownsRow base e 1 (.slice (some ⟨g,0,none⟩) n cap) n xs) (hk:k≤n):w.ownsRow base e 1 (.slice (some ⟨g,0,none⟩) k cap) k (xs.take k):=by
 obtain⟨hl,⟨h1, -⟩|⟨g',cap',cur,he,h1,h2,h3,h4,h5,h6⟩⟩:=h
 ·cases h1
 ·cases he;refine⟨by rw[List.length_take,hl];omega,.inr ⟨g,cap,cur,rfl,h1,h2,by omega,h4,h5, ?_⟩⟩;rw[←h6,List.take_take,Nat.mul_one,Nat.mul_one,Nat.min_eq_left hk]
theorem sort_own {base:Nat} {e:TypeId} {g cap:Nat} {ls:List (List UInt8)} (w:World) (h:w.ownsRow base e 1 (.slice (some ⟨g,0,none⟩) ls.length cap) ls.length (ls.map encStr)) (hl:ls.length≤4194304):
  Calls Tryz.prog 112 #[.slice (some ⟨g,0,none⟩) ls.length cap] w fun e1 w'=>e1= .returned (.tuple #[])∧w'.ownsRow base e 1 (.slice (some ⟨g,0,none⟩) ls.length cap) ls.length ((ls.mergeSort fun x y=>decide (x≤y)).map encStr)∧Below base w w':=by
 obtain⟨hll,⟨h1, -⟩|⟨g',cap',cur,he,h1,h2,h3,h4,h5,h6⟩⟩:=h
 ·cases h1
 ·cases he;have hg:g<w.heap.size:=(Array.getElem?_eq_some_iff.1 h2).1;refine(Tryz.slices_Sort_string g 0 cap ls w (holds_of_block h2 (by simpa using h6)) hg (by omega)).mono ?_;rintro e1 w' ⟨rfl,n,os,rfl⟩;exact⟨rfl,ownsRow_sorted (by simp) h1 h2 h3 h4 (by simpa using h5),(Below.refl base w).grown (grownBy_sorted _) (by omega) (fun j hj=>by cases hj;exact h1)⟩
theorem compact_own {base:Nat} {e:TypeId} {g cap:Nat} {ls:List (List UInt8)} (w:World) (h:w.ownsRow base e 1 (.slice (some ⟨g,0,none⟩) ls.length cap) ls.length (ls.map encStr)) (hl:ls.length≤4194304):
  Calls Tryz.prog 113 #[.slice (some ⟨g,0,none⟩) ls.length cap] w fun e1 w'=>e1= .returned (.slice (some ⟨g,0,none⟩) (Lib.compact ls).length cap)∧w'.ownsRow base e 1 (.slice (some ⟨g,0,none⟩) (Lib.compact ls).length cap) (Lib.compact ls).length ((Lib.compact ls).map encStr)∧Below base w w':=by
 obtain⟨hll,⟨h1, -⟩|⟨g',cap',cur,he,h1,h2,h3,h4,h5,h6⟩⟩:=h
 ·cases h1
 ·cases he;have hg:g<w.heap.size:=(Array.getElem?_eq_some_iff.1 h2).1;have hcl:=compact_le ls;refine(Tryz.slices_Compact_string g 0 cap ls w (holds_of_block h2 (by simpa using h6)) (by omega) h3).mono ?_;rintro e1 w' ⟨rfl,q,rfl⟩;rw[←grow_empty (putRow _ _ _ _ _)]
  have ho:=ownsRow_sorted (base:=base) (n:=q) (os:= #[]) (ts:=Lib.compact ls++List.replicate (ls.length - (Lib.compact ls).length) []) (ss:=ls) (by rw[List.length_append,List.length_replicate];omega) h1 h2 h3 h4 (by simpa using h5);have ht:=owns_take ho (k:=(Lib.compact ls).length) hcl;rw[List.map_append,List.take_left' (by simp)] at ht
  exact⟨rfl,ht,(Below.refl base w).grown (grownBy_sorted _) (by omega) (fun j hj=>by cases hj;exact h1)⟩
theorem ordered_any {base:Nat} {v:Value} {ss:List ByteArray} (w:World) (hown:w.ownsRow base 9 1 v ss.length (ss.flatMap fun s=>[.string s])) (hl:ss.length≤4194304) (hbs:base≤w.heap.size):
  Calls Tryz.prog 57 #[v] w fun e w'=>∃A c f,∃ts:List ByteArray,e= .returned (.slice A ts.length c)∧SlR Rp.str w' A ts.length c ts f∧(∀t∈ts,t∈ss)∧ts.length≤ss.length∧Below base w w':=by
 obtain⟨ii,hi0,hz0,hz1,hz2⟩:=info_parts infoC_StrD;rw[strs_enc] at hown;rcases id hown.2 with ⟨rfl,hn⟩|⟨g,cap,cur,rfl, -⟩
 ·obtain rfl:=List.eq_nil_of_length_eq_zero hn;clear hown hn;have HZ:=Ja (show SlR Rp.str w none 0 0 [] [] from⟨rfl,Nat.le_refl _,by simp[maxLen],[],[],[],⟨rfl,.inl ⟨rfl,rfl⟩⟩,by simp[AllR],rfl⟩);go_enter Tryz.func57,Tryz.ntmps57;go_wp2_with fail;refine(Tryz.slices_Sort_string_none none 0 w).mono ?_;rintro e w1 ⟨rfl,rfl⟩;go_wp2_with fail;refine(Tryz.slices_Compact_string_empty none 0 _).mono ?_
  rintro e w2 ⟨rfl,rfl⟩;go_wp2_with(at_builtin;refine V2 (r:=Rp.str) rfl _ _ 35 rfl w2.heap.size 9 ii _ 16 Tryz.underlying35 hi0 hz0 hz1 hz2 rfl (by decide) (.slice none 0 0) 0 [] rfl (World.ownsRow_nil _ _ _ _) rfl HZ.out (by unfold maxLen;omega) (by omega) (by simp) ?_);intro v' w3 zs f1 hal _ hown hgrow;obtain⟨rfl,_⟩:=AllR.flat.1 hal;obtain⟨A,c,f,rfl,hs⟩:=own_str (l:=[]) hown
  go_wp2;go_ret;exact⟨A,c,f,[],rfl,hs,by simp,by simp,((Below.refl _ _).grown hgrow nle (fun j hj=>by cases hj)).mono hbs⟩
 ·have hlen:ss.length=(ss.map (·.data.toList)).length:=by simp
  rw[hlen] at hown hl ⊢;obtain⟨ls,hls⟩: ∃ls,ls=ss.map (·.data.toList):=⟨_,rfl⟩;rw[←hls] at hown hl ⊢;have HOW:=Ja hown;have HLS:=Ja hls;clear hown hls hlen;go_enter Tryz.func57,Tryz.ntmps57;go_wp2_with fail;refine(sort_own w HOW.out hl).mono ?_;rintro e w1 ⟨rfl,hown1,hb1⟩;have hml:(ls.mergeSort fun x y=>decide (x≤y)).length=ls.length:=by simp
  rw[←hml] at hown1;have HO1:=Ja hown1;have HB1:=Ja hb1;have hl2:(ls.mergeSort fun x y=>decide (x≤y)).length≤4194304:=by omega
  have HM:=Ja (fun(x:List UInt8) (hx:x∈Lib.compact (ls.mergeSort fun x y=>decide (x≤y)))=>(List.mergeSort_perm ls _).subset (mem_compact hx));have HCL:=Ja (show(Lib.compact (ls.mergeSort fun x y=>decide (x≤y))).length≤ls.length from by have:=compact_le (ls.mergeSort fun x y=>decide (x≤y));omega);rw[←hml];generalize(ls.mergeSort fun x y=>decide (x≤y))=ms at HO1 hl2 HM HCL ⊢;clear hown1 hb1 hml
  go_wp2_with fail;refine(compact_own _ HO1.out hl2).mono ?_;rintro e w2 ⟨rfl,hown2,hb2⟩;rw[enc_strs] at hown2;have hcl:(Lib.compact ms).length=((Lib.compact ms).map fun l=>(⟨l.toArray⟩:ByteArray)).length:=by simp
  rw[hcl] at hown2;obtain⟨A2,c2,f2,he2,hs2⟩:=own_str hown2;rw[←hcl] at he2 hs2;obtain⟨rfl,rfl⟩:A2=some ⟨g,0,none⟩∧c2=cap:=by injection he2 with e1 e2 e3;exact⟨e1.symm,e3.symm⟩
  have HS2:=Ja hs2;have HB2:=Ja (HB1.out.trans hb2);have hcb:(Lib.compact ms).length≤4194304:=by have:=HCL.out;omega
  have HHL:=Ja hcl;clear hown2 he2 hs2 hcl hb2;go_wp2_with(at_builtin;refine V2 (r:=Rp.str) rfl _ _ 35 rfl w2.heap.size 9 ii _ 16 Tryz.underlying35 hi0 hz0 hz1 hz2 rfl (by decide) (.slice none 0 0) 0 [] rfl (World.ownsRow_nil _ _ _ _) rfl HS2.out (by unfold maxLen;omega) (by omega) (by simp) ?_);intro v' w3 zs f1 hal _ hown hgrow;obtain⟨rfl,_⟩:=AllR.flat.1 hal;rw[HHL.out] at hown
  obtain⟨A,c,f,rfl,hs⟩:=own_str hown;have HS:=Ja hs;have HG:=Ja hgrow;clear hs hgrow hown;go_wp2;go_ret;refine⟨A,c,f,_,rfl,HS.out,fun t ht=> ?_,by rw[←HHL.out];exact HCL.out,HB2.out.trans (((Below.refl _ _).grown HG.out nle (fun j hj=>by cases hj)).mono (Nat.le_trans hbs HB2.out.size))⟩;obtain⟨l,hl,rfl⟩:=List.mem_map.1 ht;have:=HM.out l hl;rw[HLS.out] at this
  obtain⟨s,hs,rfl⟩:=List.mem_map.1 this;exact hs
theorem find_cases (l:List File) (p:ByteArray):(jd4 (Wv p) l= -1∧lookup l p=none)∨∃(k:Nat) (h:k<l.length),jd4 (Wv p) l=(k:Int)∧lookup l p=some l[k].bytes:=by
 unfold jd4 lookup;cases e:l.findIdx? (Wv p) with
 |none=>
  refine .inl ⟨rfl, ?_⟩;rw[List.findIdx?_eq_none_iff] at e;rw[List.find?_eq_none.2 fun x hx=>by have:=e x hx;unfold Wv at this;simpa using this];rfl
 |some k=>
  obtain⟨h,h1,h2⟩:=List.findIdx?_eq_some_iff_getElem.1 e;refine .inr ⟨k,h,rfl, ?_⟩;have:l.find? (fun f=>decide (f.path=p))=some l[k]:=List.find?_eq_some_iff_getElem.2 ⟨by simpa [Wv] using h1,k,h,rfl,fun j hj=>by have:=h2 j hj;unfold Wv at this;simpa using this⟩;rw[this];rfl
def dA (a b:List File) (k:Nat):List ByteArray:=((a.take k).filter (diffA b)).map (·.path)
def dB (a b:List File) (k:Nat):List ByteArray:=(a.filter (diffA b)).map (·.path)++((b.take k).filter (diffB a)).map (·.path)
theorem dA_all (a b:List File):dA a b a.length=dB a b 0:=by unfold dA dB;rw[List.take_of_length_le nle];simp
theorem dB_all (a b:List File):dB a b b.length=differs a b:=by unfold dB differs;rw[List.take_of_length_le nle]
theorem dA_yes {a b:List File} {k:Nat} (hk:k<a.length) (h:diffA b a[k]=true):dA a b (k+1)=dA a b k++ [a[k].path]:=by
 unfold dA;rw[List.take_succ_eq_append_getElem hk,List.filter_append,List.filter_cons_of_pos (by simpa using h),List.map_append];rfl
theorem dA_no {a b:List File} {k:Nat} (hk:k<a.length) (h:diffA b a[k]=false):dA a b (k+1)=dA a b k:=by
 unfold dA;rw[List.take_succ_eq_append_getElem hk,List.filter_append,List.filter_cons_of_neg (by simpa using h),List.filter_nil,List.append_nil]
theorem dB_yes {a b:List File} {k:Nat} (hk:k<b.length) (h:diffB a b[k]=true):dB a b (k+1)=dB a b k++ [b[k].path]:=by
 unfold dB;rw[List.take_succ_eq_append_getElem hk,List.filter_append,List.filter_cons_of_pos (by simpa using h),List.map_append,List.append_assoc];rfl
theorem dB_no {a b:List File} {k:Nat} (hk:k<b.length) (h:diffB a b[k]=false):dB a b (k+1)=dB a b k:=by
 unfold dB;rw[List.take_succ_eq_append_getElem hk,List.filter_append,List.filter_cons_of_neg (by simpa using h),List.filter_nil,List.append_nil]
theorem dA_le (a b:List File) (k:Nat):(dA a b k).length≤a.length:=by
 unfold dA;rw[List.length_map];exact Nat.le_trans (List.length_filter_le _ _) (by simp;omega)
theorem dB_le (a b:List File) (k:Nat):(dB a b k).length≤a.length+b.length:=by
 unfold dB;rw[List.length_append,List.length_map,List.length_map];have h1:=List.length_filter_le (diffA b) a;have h2:=List.length_filter_le (diffB a) (b.take k);simp at h2 ⊢;omega
theorem implTreDiffers_any {A B:Option Addr} {n c m d:Nat} {a b:List File} {fa fb:List Nat} (w:World) (ha:SlR Rp.file w A n c a fa) (hb:SlR Rp.file w B m d b fb) (hla:a.length≤60) (hlb:b.length≤60):
  Calls Tryz.prog 17 #[.slice A n c,.slice B m d] w fun e w'=>∃A' c' f,∃ts:List ByteArray,e= .returned (.slice A' ts.length c')∧SlR Rp.str w' A' ts.length c' ts f∧(∀t∈ts,t∈differs a b)∧ts.length≤(differs a b).length∧Below w.heap.size w w':=by
 obtain rfl:=ha.1;obtain rfl:=hb.1;obtain⟨ii,hi0,hz0,hz1,hz2⟩:=info_parts infoC_StrD;have HA:=Ja ha;have HB:=Ja hb;clear ha hb;go_enter Tryz.func17,Tryz.ntmps17;go_wp2
 go_loopw [5,13] (fun v i wr=>∃k:Nat,k≤a.length∧i= .int .i64 k∧wr.ownsRow w.heap.size 9 1 v (dA a b k).length ((dA a b k).flatMap fun s=>[.string s])∧Below w.heap.size w wr) (fun _ i _=>a.length - (intOf i).toNat)
 case atStart=>exact⟨0,Nat.zero_le _,rfl,World.ownsRow_nil _ _ _ _,Below.refl _ _⟩
 case round=>
  obtain⟨k,hk,rfl,hown,hbl⟩:=hrel;obtain⟨wa,hwa⟩: ∃wa,wa=wr:=⟨_,rfl⟩;subst hwa;by_cases hlt:k<a.length
  ·obtain⟨b1,o1,rfl, -,hm,q0,q1⟩:=Jx (HA.out.step hbl) hlt;have HY:=Ja (fun(h:diffA b a[k]=true)=>dA_yes hlt h);have HN:=Ja (fun(h:diffA b a[k]=false)=>dA_no hlt h);have HD:=Ja (show diffA b a[k]=decide (lookup b a[k].path≠some a[k].bytes) from rfl);generalize hg:a[k]=f at q0 q1 HY HN HD;clear hg;have kq:=Blk.new wa 65 #[.string f.path,.string f.bytes]
   have i1:(k:Int)<(a.length:Int):=by omega
   have hle:=dA_le a b k;have HW:=Ja hown;have HBA:=Ja (hbl.alloc hbl.size (.cells #[.string f.path,.string f.bytes] 65));clear hown hbl;go_wp2_with fail;refine(jp4 f.path _ (HB.out.step HBA.out)).mono ?_;rintro e w1 ⟨rfl,hb1⟩;have HO1:=Ja (Yx (HW.out.alloc _) hb1);replace kq:=kq.step hb1;have HB1:=Ja (HBA.out.trans (hb1.mono (by have:=HBA.out.size;simpa using this)))
   have u0:=Blk.c0 kq;have u1:=Blk.c1 kq;clear hb1 q0 q1 HW kq;rcases find_cases b f.path with ⟨hidx,hlk⟩|⟨j,hj,hidx,hlk⟩
   ·rw[hidx];have HLK:=Ja hlk;clear hidx hlk;go_wp2_with fail;go_quiet(fail);have HE:=Ja (HY.out (by rw[HD.out,HLK.out];simp))
    go_wp2_with(at_builtin;refine wpList_append_own _ rfl _ _ 35 rfl w.heap.size 9 ii _ 1 16 Tryz.underlying35 hi0 hz0 hz1 hz2 rfl (by decide) _ _ _ rfl ((Yx HO1.out (Below.drewN' (Below.refl _ _) _)).alloc _) ⟨w1.heap.size,0,none⟩ 1 1 [.string f.path] rfl rfl (Jm _ [.string f.path] _) (by intro u hu;simp at hu;subst hu;rfl) (by unfold maxLen;omega) (by omega) (by have:=HB1.out.size;simp[World.drewN];omega) ?_)
    intro v' w5 hown' hgrow _;have HO:=Ja hown';have HB7:=Ja (((Below.drewN' HB1.out _).alloc (by have:=HB1.out.size;simpa [World.drewN] using this) _).grown hgrow (by have:=HB1.out.size;simp[World.drewN];omega) (fun z hz=>(HO1.out.lt z hz).1));clear hown' hgrow;go_wp2_with fail;refine⟨⟨k+1,by omega,by go_num, ?_,HB7.out⟩,by simp[intOf];omega⟩
    rw[HE.out,List.length_append,List.flatMap_append,List.flatMap_singleton];exact HO.out
   ·rw[hidx];have HLK:=Ja hlk;obtain⟨b2,o2,rfl, -,hm2,g0,g1⟩:=Jx (HB.out.step HB1.out) hj;have j0:(0:Int)≤(j:Int):=by omega
    have j1:(j:Int)<(b.length:Int):=by omega
    have hq:=Jr b[j].bytes f.bytes;clear hidx hlk;cases hd:decide (b[j].bytes=f.bytes)
    ·rw[hd] at hq;have HDD:=Ja (of_decide_eq_false hd);clear hd;go_wp2_with fail;go_quiet(fail);clear hq g0 g1 j0 j1;have HE:=Ja (HY.out (by rw[HD.out,HLK.out];simpa using HDD.out))
     go_wp2_with(at_builtin;refine wpList_append_own _ rfl _ _ 35 rfl w.heap.size 9 ii _ 1 16 Tryz.underlying35 hi0 hz0 hz1 hz2 rfl (by decide) _ _ _ rfl ((Yx HO1.out (Below.drewN' (Below.refl _ _) _)).alloc _) ⟨w1.heap.size,0,none⟩ 1 1 [.string f.path] rfl rfl (Jm _ [.string f.path] _) (by intro u hu;simp at hu;subst hu;rfl) (by unfold maxLen;omega) (by omega) (by have:=HB1.out.size;simp[World.drewN];omega) ?_)
     intro v' w5 hown' hgrow _;have HO:=Ja hown';have HB7:=Ja (((Below.drewN' HB1.out _).alloc (by have:=HB1.out.size;simpa [World.drewN] using this) _).grown hgrow (by have:=HB1.out.size;simp[World.drewN];omega) (fun z hz=>(HO1.out.lt z hz).1));clear hown' hgrow;go_wp2_with fail;refine⟨⟨k+1,by omega,by go_num, ?_,HB7.out⟩,by simp[intOf];omega⟩
     rw[HE.out,List.length_append,List.flatMap_append,List.flatMap_singleton];exact HO.out
    ·rw[hd] at hq;have HDD:=Ja (of_decide_eq_true hd);clear hd;go_wp2_with fail;go_quiet(fail);clear hq g0 g1 j0 j1;have HE:=Ja (HN.out (by rw[HD.out,HLK.out,HDD.out];simp));go_wp2;refine⟨⟨k+1,by omega,by go_num, ?_,Below.drewN' HB1.out _⟩,by simp[intOf];omega⟩;rw[HE.out];exact Yx HO1.out (Below.drewN' (Below.refl _ _) _)
  ·have hk':k=a.length:=by omega
   subst hk';rw[dA_all] at hown;have HO9:=Ja hown;have HB9:=Ja hbl;clear hown hbl;go_wp2
   go_loopw [5,41] (fun v i wz=>∃k:Nat,k≤b.length∧i= .int .i64 k∧wz.ownsRow w.heap.size 9 1 v (dB a b k).length ((dB a b k).flatMap fun s=>[.string s])∧Below w.heap.size w wz) (fun _ i _=>b.length - (intOf i).toNat)
   case atStart=>exact⟨0,Nat.zero_le _,rfl,HO9.out,HB9.out⟩
   case round=>
    obtain⟨k,hk,rfl,hown,hbl⟩:=hrel;obtain⟨wb,hwb⟩: ∃wb,wb=wr:=⟨_,rfl⟩;subst hwb;by_cases hlt2:k<b.length
    ·obtain⟨b1,o1,rfl, -,hm,q0,q1⟩:=Jx (HB.out.step hbl) hlt2;have HY:=Ja (fun(h:diffB a b[k]=true)=>dB_yes hlt2 h);have HN:=Ja (fun(h:diffB a b[k]=false)=>dB_no hlt2 h);have HD:=Ja (show diffB a b[k]=decide (lookup a b[k].path=none) from rfl);generalize hg:b[k]=f at q0 q1 HY HN HD;clear hg;have kq:=Blk.new wb 65 #[.string f.path,.string f.bytes]
     have i1:(k:Int)<(b.length:Int):=by omega
     have hle:=dB_le a b k;have HW:=Ja hown;have HBA:=Ja (hbl.alloc hbl.size (.cells #[.string f.path,.string f.bytes] 65));clear hown hbl;go_wp2_with fail;refine(jp4 f.path _ (HA.out.step HBA.out)).mono ?_;rintro e w1 ⟨rfl,hb1⟩;have HO1:=Ja (Yx (HW.out.alloc _) hb1);replace kq:=kq.step hb1;have HB1:=Ja (HBA.out.trans (hb1.mono (by have:=HBA.out.size;simpa using this)))
     have u0:=Blk.c0 kq;have u1:=Blk.c1 kq;clear hb1 q0 q1 HW kq;rcases find_cases a f.path with ⟨hidx,hlk⟩|⟨j,hj,hidx,hlk⟩
     ·rw[hidx];have HLK:=Ja hlk;clear hidx hlk;have HE:=Ja (HY.out (by rw[HD.out,HLK.out];rfl))
      go_wp2_with(at_builtin;refine wpList_append_own _ rfl _ _ 35 rfl w.heap.size 9 ii _ 1 16 Tryz.underlying35 hi0 hz0 hz1 hz2 rfl (by decide) _ _ _ rfl ((HO1.out).alloc _) ⟨w1.heap.size,0,none⟩ 1 1 [.string f.path] rfl rfl (Jm _ [.string f.path] _) (by intro u hu;simp at hu;subst hu;rfl) (by unfold maxLen;omega) (by omega) (by have:=HB1.out.size;simp[World.drewN];omega) ?_)
      intro v' w5 hown' hgrow _;have HO:=Ja hown';have HB7:=Ja (((HB1.out).alloc (by have:=HB1.out.size;simpa [World.drewN] using this) _).grown hgrow (by have:=HB1.out.size;simp[World.drewN];omega) (fun z hz=>(HO1.out.lt z hz).1));clear hown' hgrow;go_wp2_with fail;refine⟨⟨k+1,by omega,by go_num, ?_,HB7.out⟩,by simp[intOf];omega⟩
      rw[HE.out,List.length_append,List.flatMap_append,List.flatMap_singleton];exact HO.out
     ·rw[hidx];have HLK:=Ja hlk;have j0:(0:Int)≤(j:Int):=by omega
      clear hidx hlk;have HE:=Ja (HN.out (by rw[HD.out,HLK.out];rfl));go_wp2;refine⟨⟨k+1,by omega,by go_num, ?_,HB1.out⟩,by simp[intOf];omega⟩;rw[HE.out];exact HO1.out
    ·have hk':k=b.length:=by omega
     subst hk';rw[dB_all] at hown;have hle:(differs a b).length≤4194304:=by have:=dB_le a b b.length;rw[dB_all] at this;omega
     have HOD:=Ja (fun w9 (hb:Below wb.heap.size wb w9)=>ordered_any w9 (Yx hown hb) hle (Nat.le_trans hbl.size hb.size));have HBZ:=Ja hbl;clear hown hbl;go_wp2_with fail;refine(HOD.out _ (Below.refl _ _)).mono ?_;rintro e w8 ⟨A',c',f',ts,rfl,hs,hin,hlen,hb⟩;have HT:=Ja (And.intro hs (And.intro hin (And.intro hlen (HBZ.out.trans hb))));clear hs hin hlen hb;go_wp2;go_ret
     exact⟨A',c',f',ts,rfl,HT.out.1,HT.out.2.1,HT.out.2.2.1,HT.out.2.2.2⟩
structure CP (n:Nat) (m:Jl):Prop where
 len:m.Rz.length=n
 Fz: ∀j (h:j<m.Rz.length),j<2→0<m.Rz[j].Fz.length
 keys:0<m.keys.length
 fit:V9 m
theorem CP.put {n:Nat} {m:Jl} (h:CP n m) {i:Nat} (hi:i<m.Rz.length):CP n { m with Rz:=m.Rz.set i { m.Rz[i] with Uz:=[allWrite]}} :=by
 refine⟨by simpa using h.len,fun j hj h2=> ?_,h.keys,jf6 h.fit ⟨fitRules1 ⟨Nat.zero_le _,Nat.zero_le _⟩,(h.fit i hi).few,(h.fit i hi).Fz⟩⟩;have hj':j<m.Rz.length:=by simpa using hj
 show 0<(m.Rz.set i { m.Rz[i] with Uz:=[allWrite]})[j].Fz.length;rw[List.getElem_set];split
 ·rename_i e;subst e;exact h.Fz _ hi h2
 ·exact h.Fz j hj' h2
def copyQ (key:Int) (name:ByteArray) (old:Int) (other:ByteArray):Req:= { user:=1,key:=key,repo:=1,kind:=10,ref:=name,path:=⟨#[]⟩,old:=old,back:=0,Ez:=[],rule:=⟨0,⟨#[]⟩,⟨#[]⟩,false⟩,frm:=0,other:=other}
def zzz:Wz:=⟨⟨#[122,122,122]⟩,⟨#[110,101,119]⟩,false⟩
def putNew (q:Req):Req:= { user:=q.user,key:=q.key,repo:=q.repo,kind:=1,ref:=q.ref,path:=⟨#[]⟩,old:=q.old+1,back:=0,Ez:=[zzz],rule:=⟨0,⟨#[]⟩,⟨#[]⟩,false⟩,frm:=0,other:=⟨#[]⟩}
theorem sl_edit1 {w:World} {b:Nat} {t:TypeId} {r:Wz} (h:Blk w b t (Jp r).toArray):SlR Rp.edit w (some ⟨b,0,none⟩) 1 1 [r] [b]:=by
 refine⟨rfl,Nat.le_refl _,by simp[maxLen],Jp r,[b],[],⟨rfl,.inr ⟨by decide,b,0,rfl,rfl,h.lt,fun j u hu=> ?_⟩⟩,AllR.flat.2 ⟨by simp,rfl⟩,rfl⟩;have:=h.cell j;rw[Nat.zero_add,this];simpa using hu
theorem putNew_fit {q:Req} (h:jdu q):jdu (putNew q):=⟨h.ref,Nat.zero_le _,Nat.zero_le _,⟨Nat.zero_le _,Nat.zero_le _⟩,fun i hi=>by
 obtain rfl:i=0:=by have:i<1:=hi;omega
 exact(by decide:(3:Nat)≤4194304)⟩
theorem implTreDiffers_self {A B:Option Addr} {n c m d:Nat} {a:List File} {fa fb:List Nat} (w:World) (ha:SlR Rp.file w A n c a fa) (hb:SlR Rp.file w B m d a fb) (ht:Y1 a=true):
  Calls Tryz.prog 17 #[.slice A n c,.slice B m d] w fun e w'=>∃A' c',e= .returned (.slice A' 0 c')∧Below w.heap.size w w':=
 (implTreDiffers_any w ha hb (Yo.1 ht).1 (Yo.1 ht).1).mono fun e w' ⟨A',c',f,ts,h1,h2,h3,h4,h5⟩=>by
  rw[differs_self ht] at h4;have:ts.length=0:=by simpa using h4
  rw[this] at h1;exact⟨A',c',h1,h5⟩
theorem wp_put {P:Program} {s:Code} {Q:Exit→Act→World→Prop} {b:Act} {w:World} {t:TypeId} {q:Req} (h: ∀W,QB W (w.heap.size+1) (putNew q) (.slice (some ⟨w.heap.size,0,none⟩) 1 1)→Below w.heap.size w W→s.wp P Q b W):
  s.wp P Q b ((w.alloc (.cells #[.string ⟨#[122,122,122]⟩,.string ⟨#[110,101,119]⟩,.bool false] t)).alloc (.cells (V5 (putNew q) (.slice (some ⟨w.heap.size,0,none⟩) 1 1)) 31)):=by
 have h1:=Blk.new w t #[.string ⟨#[122,122,122]⟩,.string ⟨#[110,101,119]⟩,.bool false];obtain⟨h1,h2,h3⟩:=Blk.two w t 31 #[.string ⟨#[122,122,122]⟩,.string ⟨#[110,101,119]⟩,.bool false] (V5 (putNew q) (.slice (some ⟨w.heap.size,0,none⟩) 1 1));exact h _ ⟨h2,_,_,_,_,_,rfl,rfl,sl_edit1 (r:=zzz) h1⟩ h3
theorem repo_of {m:Jl} (hm:Ys m=true) {i:Nat} {p:Xq} (hp:m.Rz[i]? =some p):repoOk m.keys.length p=true:=(Jo.1 hm).2.2 p (List.mem_of_getElem? hp)
theorem refIdx_map (l:List Ref) (n:ByteArray):Y7 l n=(l.map (·.name)).findIdx? (fun s=>decide (s=n)):=by
 unfold Y7;rw[List.findIdx?_map];rfl
theorem refIdx_set {l:List Ref} {k:Nat} {y:Ref} (hk:k<l.length) (h:y.name=l[k].name) (n:ByteArray):Y7 (l.set k y) n=Y7 l n:=by
 have:(l.set k y).map (·.name)=l.map (·.name):=by
  rw[List.map_set];exact set_self (by rw[List.getElem?_map,List.getElem?_eq_getElem hk,h];rfl)
 rw[refIdx_map,refIdx_map,this]
theorem laid_else {m:Jl} {r:Req} {p:Xq} {k:Nat} (h:Laid m r p k) (hr:0≤r.repo) {i back:Int} {name:ByteArray} (hne: ¬(i=r.repo∧name=r.ref)):Xn (Zn m r).1 i name back=Xn m i name back:=by
 obtain⟨hk,hname⟩:=je8 (key:=Ref.name) h.ref;have hx:=J4 (z:=Y8) hk;have hi:=(List.getElem?_eq_some_iff.1 h.repo).1;unfold Xn;split
 ·rename_i h0
  by_cases he:i=r.repo
  ·subst he;rw[h.eq];simp only[jpm];rw[List.getElem?_set_self hi,h.repo];simp only[hx];rw[refIdx_set hk (by rfl)];cases hq:Y7 p.Fz name with
   |none=>rfl
   |some j=>
    simp only;obtain⟨hj,hjn⟩:=je8 (key:=Ref.name) hq;have:k≠j:=fun e=>hne ⟨rfl,by subst e;rw[←hname,←hjn]⟩;rw[List.getD_eq_getElem?_getD,List.getElem?_set_ne this,←List.getD_eq_getElem?_getD]
  ·rw[apart hr (by omega)]
 ·rfl
theorem laid_repo {m:Jl} {r:Req} {p:Xq} {k:Nat} (h:Laid m r p k):(Zn m r).1.Rz[r.repo.toNat]? =some { p with Fz:=p.Fz.set k { p.Fz.getD k Y8 with count:=(p.Fz.getD k Y8).count+1,Vz:=jgu ((p.Fz.getD k Y8).Vz++ [(newest m (p.Fz.getD k Y8) r).1])}} :=by
 have hi:=(List.getElem?_eq_some_iff.1 h.repo).1;rw[h.eq];simp only[jpm];rw[List.getElem?_set_self hi]
theorem laid_at {m:Jl} {r:Req} {p:Xq} {k:Nat} (h:Laid m r p k) (hr:0≤r.repo) (back:Int):Xn (Zn m r).1 r.repo r.ref back=version (jgu ((p.Fz.getD k Y8).Vz++ [(newest m (p.Fz.getD k Y8) r).1])) back:=by
 obtain⟨hk,hname⟩:=je8 (key:=Ref.name) h.ref;have hx:=J4 (z:=Y8) hk;unfold Xn;rw[if_pos hr,laid_repo h];simp only[hx];rw[refIdx_set hk (by rfl),h.ref];simp only;rw[J4 (by simpa using hk),List.getElem_set_self]
theorem version_last (l:List (List File)) (x:List File):version (jgu (l++ [x])) 0=some x:=by
 rw[version_first,lastOf_last,if_neg];unfold jgu;intro e;have:=congrArg List.length e;simp at this;omega
theorem copied {m:Jl} {r:Req} (hm:Ys m=true) (hr:Yw r=true) (h10:r.kind=10) (hc:(Zn m r).2.code=1):
  ∃l,Y1 l=true∧jqz (Zn m r).1 r.repo r.ref 0=some l∧jqz (Zn m r).1 r.frm r.other 0=some l∧
   ∀q:Req,Yw q=true→q.kind=1→q.repo=r.repo→q.ref=r.ref→¬(r.frm=r.repo∧r.other=r.ref)→(Zn (Zn m r).1 q).2.code=1→jqz (Zn (Zn m r).1 q).1 r.frm r.other 0=some l:=by
 have hr0:=(jmn hr).2.1.1;have hx:=jh2 hm hr;rcases doIt_ways m r with ⟨-,h⟩|⟨p,k,h⟩|⟨p,h⟩
 ·have:=h hc;omega
 ·have hn:=h.new;have hkk:=(je8 (key:=Ref.name) h.ref).1;have hxo:=(Zq (repo_of hm h.repo) (jp3 (z:=Y8) hkk)).1;obtain⟨l,hl⟩: ∃l,Xn m r.frm r.other 0=some l:=by
   unfold newest at hn;rw[if_neg (by omega),if_neg (by omega)] at hn;cases e:Xn m r.frm r.other 0 with
   |none=>rw[e] at hn;simp at hn
   |some l=>exact⟨l,rfl⟩
  have hnl:(newest m (p.Fz.getD k Y8) r).1=l:=by
   unfold newest;rw[if_neg (by omega),if_neg (by omega),hl]
  have h1:Xn (Zn m r).1 r.repo r.ref 0=some l:=by rw[laid_at h hr0,hnl,version_last]
  have h2:Xn (Zn m r).1 r.frm r.other 0=some l:=by
   by_cases hs:r.frm=r.repo∧r.other=r.ref
   ·rw[hs.1,hs.2,h1]
   ·rw[laid_else h hr0 hs,hl]
  have hf: ∀ {x:Jl} {i:Int} {n:ByteArray},Ys x=true→jqz x i n 0=Xn x i n 0:=fun hx=>by unfold jqz;rw[if_pos hx]
  refine⟨l,jg3 hm hl,by rw[hf hx,h1],by rw[hf hx,h2],fun q hq hq1 hqr hqf hs hqc=> ?_⟩;rw[hf (jh2 hx hq)];rcases doIt_ways (Zn m r).1 q with ⟨-,h'⟩|⟨p',k',h'⟩|⟨p',h'⟩
  ·have:=h' hqc;omega
  ·rw[laid_else h' (by omega) (by rw[hqr,hqf];exact hs),h2]
  ·have:=h'.writes;simp[Vs,hq1] at this
 ·have:=h.writes;simp[Vs,h10] at this
theorem files_own {w:World} {o:Option (List File)} {b:Bool} {l:List File} {e:Ending} {w':World} (h:FilesOwn w o e w') (ho:o.getD []=l) (hb:o.isSome=b): ∃A c f,e= .returned (.tuple #[.slice A l.length c,.bool b])∧SlR Rp.file w' A l.length c l f∧Below w.heap.size w w':=by
 obtain⟨v,h1,h2,h3⟩:=h;subst hb ho;obtain⟨A,c,f,rfl,hs, -⟩:=Xw (k:=2) (enc:=Jj) (hk:=fun _=>rfl) (h1:=Vz) h2;exact⟨A,c,f,h1,hs,h3⟩
theorem lawCopy (w:World) {A:Option Addr} {n c:Nat} {code:List UInt8} {fp:List Nat} (hx:SlR Rp.byte w A n c code fp):
  Calls Tryz.prog 4 #[.slice A n c] w fun e w'=>e= .returned (.bool true)∧Below w.heap.size w w':=by
 obtain⟨rfl,hcx,hmx, -⟩:=id hx;unfold maxLen at hmx;go_enter Tryz.func4,Tryz.ntmps4;by_cases hlen:(1048576:Int)<(code.length:Int)
 ·go_wp2;go_ret;exact⟨rfl,Below.refl _ _⟩
 go_wp2_with fail;refine(jp5 _ hx).mono ?_;rintro e w1 ⟨m,q,A0,n0,c0,A1,n1,c1,A2,n2,c2,A3,c3,f,fq,rfl,hR,hQ,hok,hsm,hlo,hdj,HB⟩;clear hx;obtain rfl:n2=m.Rz.length:=by
  obtain⟨_,_,_,_,_,_,_,_,_,_,_,_,he, -, -, -,h2⟩:=hR;cases he;exact h2.1
 go_upto_region 4 with fail
 refine wp_HQ ⟨_,hR⟩ ⟨_,hQ⟩ ?_;intro w2 hm hq hb3;replace HB:=Below.t HB hb3;have hR2:=Rp.house.below hR hb3 nle;have hf:=Ja (And.intro hok.1 (jo1 hsm));have hlt:=Rp.house.lt hR;have HOKD:=Ja (hok.keep (w':=w2) fun z hz=>hb3.block z (hlt z hz));have HLT:=Ja hlt;have HLO:=Ja hlo;have HW1:=Ja hb3.size;clear hR hQ hb3 hsm hok hlt hlo hdj
 go_cut [57] from 27 to 57 (fun v wx=>∃bb:Bool,v= .bool bb∧(bb=true→Ys m=true∧∃(h1:1<m.Rz.length),0<(m.Rz[0]'(Nat.lt_trans Nat.zero_lt_one h1)).Fz.length∧0<m.Rz[1].Fz.length)∧Below w2.heap.size w2 wx)
 case first=>
  obtain⟨x0,x1,x2⟩:=hm.cells;go_wp2_with fail;refine(jhe _ hm.r.choose_spec hf.out.1).mono ?_;rintro e w3 ⟨rfl,hb3⟩;replace hm:=hm.step hb3;replace hq:=hq.step hb3;clear x0 x1 x2;cases hmo:Ys m
  ·go_wp2_with fail;go_meet
   case rel=>exact⟨false,rfl,by simp,hb3⟩
  have HMO:=Ja hmo;obtain⟨-, -,x2⟩:=hm.cells;obtain⟨q0, -⟩:=hq.cells;by_cases hr1:1<m.Rz.length;rotate_left
  ·have i1: ¬1<m.Rz.length:=hr1;clear hmo hr1;go_wp2_with fail;go_meet
   case rel=>exact⟨false,by simp,by simp,hb3⟩
  have hr0:0<m.Rz.length:=by omega
  obtain⟨fr,hr⟩:=hm.Rz;obtain⟨-,hrc,hrm, -⟩:=id hr;unfold maxLen at hrm;obtain⟨b,o,D1,l1,d1,f1,D2,l2,d2,f2,rfl, -, -, -, -,p2, -,s2, -⟩:=J7 hr hr0;obtain⟨_,_,E1,k1,e1,g1,E2,k2,e2,g2,he, -, -, -, -,t2, -,u2, -⟩:=J7 hr hr1;cases he;obtain rfl:=s2.1;obtain rfl:=u2.1;obtain⟨-,hrc2,hrm2, -⟩:=id s2;obtain⟨-,hrc3,hrm3, -⟩:=id u2;unfold maxLen at hrm2 hrm3
  simp only[Nat.zero_mul,Nat.add_zero,Nat.one_mul] at p2 t2;have i0:(0:Int)<(m.Rz.length:Int):=by omega
  have i1:(1:Int)<(m.Rz.length:Int):=by omega
  have HR1:=Ja hr1;clear hr s2 u2 hmo;by_cases hl0:0<m.Rz[0].Fz.length;rotate_left
  ·go_wp2_with fail;go_meet
   case rel=>exact⟨false,by simp,by simp,hb3⟩
  have HL0:=Ja hl0;by_cases hl1:0<m.Rz[1].Fz.length;rotate_left
  ·go_wp2_with fail;go_meet
   case rel=>exact⟨false,by simp,by simp,hb3⟩
  have HL1:=Ja hl1;cases hu:decide ((0:Int)<q.user)
  ·have hu': ¬(0:Int)<q.user:=of_decide_eq_false hu;go_wp2_with fail;go_meet
   case rel=>exact⟨false,by simp;try omega,by simp,hb3⟩
  ·have hu':(0:Int)<q.user:=of_decide_eq_true hu;go_wp2_with fail;go_meet
   case rel=>exact⟨true,by simp;try omega,fun _=>⟨HMO.out,HR1.out,HL0.out,HL1.out⟩,hb3⟩
 case rest=>
  obtain⟨w4,hw4⟩: ∃w4,w4=wc:=⟨_,rfl⟩;subst hw4;obtain⟨bb,rfl,hcc,hb3⟩:=hcut;have HC:=Ja hcc;clear hcc;replace hm:=hm.step hb3;replace hq:=hq.step hb3;have hR4:=Rp.house.below hR2 hb3 nle;have HF4:=Ja (fun z (hz:z∈f)=>hb3.block z (Rp.house.lt hR2 z hz));replace HB:=Below.t HB hb3;have HS4:=Ja hb3.size;have HQ4:=Ja hq.k.lt;clear hb3 hR2;go_upto_if 57 with fail
  go_cut [] from 57 to 98 (fun wx=>∃m' q' A c,HBx wx w1.heap.size m' (.slice A0 n0 c0) (.slice A1 n1 c1) (.slice A2 m.Rz.length c2)∧QB wx (w1.heap.size+1) q' (.slice A q'.Ez.length c)∧V9 m'∧jdu q'∧m'.Rz.length=m.Rz.length∧Below w.heap.size w wx)
  case first=>
   cases bb
   ·go_wp2_with fail;go_meet
    case rel=>exact⟨m,q,_,_,hm,hq,hf.out.1,hf.out.2,rfl,HB⟩
   obtain⟨hmo,hr1,hl0,hl1⟩:=HC.out rfl;have hr0:0<m.Rz.length:=by omega
   obtain⟨hkeys,hno⟩:=HOKD.out.2 hmo;have hnf:f.Nodup∧Free w2 f:=hno.resolve_left fun h=>by have:=h _ (List.getElem_mem hr0);rw[this] at hl0;exact absurd hl0 (by simp)
   have hf4:Free w4 f:=fun z hz=>(HF4.out z hz)▸hnf.2 z hz;obtain⟨_,_,_,_,_,_,b0,o0,c20,he,hcm,hcl,hbm,hput⟩:=house_rules hR4 hnf.1 hf4 hr0;cases he;have HCP:=Ja (show CP m.Rz.length m from⟨rfl,fun j h h2=>by
    rcases(by omega:j=0∨j=1) with rfl|rfl
    ·exact hl0
    ·exact hl1,by have:=(J8.1 (Jo.1 hmo).1).1;omega,hf.out.1⟩)
   have HR1:=Ja hr1;have HBM:=Ja hbm;unfold maxLen at hcm;clear hmo hkeys hno hnf hf4 hbm hl0 hl1;have hbn:Below w4.heap.size w4 (w4.alloc (.cells #[.int .i64 0,.string ⟨#[]⟩,.string ⟨#[]⟩,.bool true] 29)):=(Below.refl _ _).alloc nle _
   obtain⟨⟨v0,hv0⟩,hz0,fp',j1,j2,j3,j4⟩:=hput _ (some ⟨w4.heap.size,0,none⟩) 1 [allWrite] [w4.heap.size] hbn (sl_rule1 (Blk.new _ _ _)) (by simp) Free.new (fun x hx hm=>by have:=List.mem_singleton.1 hx;have:=HLT.out x hm;have:=HW1.out;have:=HS4.out;omega);simp only[Nat.zero_mul,Nat.add_zero] at hv0 hz0 j1 j2 j3 j4;obtain⟨-, -,x2⟩:=hm.cells;have yx2:=fun y:Obj=>J6 x2 y
   have i1:(0:Int)<(m.Rz.length:Int):=by omega
   clear hput;go_upto_region 6 with fail
   have hb0:b0<w1.heap.size:=HLT.out b0 HBM.out;have hbl:=HLO.out b0 (by simp[HBM.out]);have hg4:=HQ4.out;have km:=Blk.far (hm.k.step hbn) (b:=b0) (j:=o0+1) (by omega) (.slice (some ⟨w4.heap.size,0,none⟩) 1 1);have kq:=Blk.far (hq.k.step hbn) (b:=b0) (j:=o0+1) (by omega) (.slice (some ⟨w4.heap.size,0,none⟩) 1 1)
   have HB5:=(Below.t HB hbn).setCell (p:=⟨b0,o0+1,none⟩) (by simp only;omega) (.slice (some ⟨w4.heap.size,0,none⟩) 1 1);have HS5:=Ja (show w4.heap.size<((w4.alloc (.cells #[.int .i64 0,.string ⟨#[]⟩,.string ⟨#[]⟩,.bool true] 29)).setCell ⟨b0,o0+1,none⟩ (.slice (some ⟨w4.heap.size,0,none⟩) 1 1)).heap.size by simp[World.setCell])
   generalize(w4.alloc (.cells #[.int .i64 0,.string ⟨#[]⟩,.string ⟨#[]⟩,.bool true] 29)).setCell ⟨b0,o0+1,none⟩ (.slice (some ⟨w4.heap.size,0,none⟩) 1 1)=w5 at j1 j3 km kq HB5 HS5 ⊢;have HJ4:=Ja j4;obtain⟨m1,hm1⟩: ∃m1,m1=({ m with Rz:=m.Rz.set 0 { m.Rz[0] with Uz:=[allWrite]}} :Jl):=⟨_,rfl⟩;have HCP1:=Ja (show CP m.Rz.length m1 from hm1▸HCP.out.put hr0);rw[←hm1] at j1
   clear hm1 HB hbn hm hq x2 yx2 hv0 hz0 j4 i1 hcl;have hr11:1<m1.Rz.length:=by rw[HCP1.out.len];exact hr1
   obtain⟨_,_,_,_,_,_,b0',o0',c20',he, -, -, -,hput⟩:=house_rules j1 j2 j3 hr11;rw[HCP1.out.len] at he;cases he;have hbn:Below w5.heap.size w5 (w5.alloc (.cells #[.int .i64 0,.string ⟨#[]⟩,.string ⟨#[]⟩,.bool true] 29)):=(Below.refl _ _).alloc nle _;have HLP:=Ja (fun x (hx:x∈fp')=>(show x<w5.heap.size from Rp.house.lt j1 x hx))
   obtain⟨⟨v0,hv0⟩,hz0,fp2,l1,l2,l3,l4⟩:=hput _ (some ⟨w5.heap.size,0,none⟩) 1 [allWrite] [w5.heap.size] hbn (sl_rule1 (Blk.new _ _ _)) (by simp) Free.new (fun x hx hm=>by have:=List.mem_singleton.1 hx;have:=HLP.out x hm;omega);simp only[Nat.one_mul] at hv0 hz0 l1 l2 l3 l4;have x2:=km.cell 2;simp only[List.getElem?_toArray,List.getElem?_cons_zero,List.getElem?_cons_succ] at x2
   have yx2:=fun y:Obj=>J6 x2 y;have i1:(1:Int)<(m.Rz.length:Int):=by omega
   clear hput;go_upto_region 7 with fail
   have km2:=Blk.far (km.step hbn) (b:=b0) (j:=o0+3+1) (by omega) (.slice (some ⟨w5.heap.size,0,none⟩) 1 1);have kq2:=Blk.far (kq.step hbn) (b:=b0) (j:=o0+3+1) (by omega) (.slice (some ⟨w5.heap.size,0,none⟩) 1 1);have HB6:=(Below.t HB5 hbn).setCell (p:=⟨b0,o0+3+1,none⟩) (by simp only;omega) (.slice (some ⟨w5.heap.size,0,none⟩) 1 1)
   generalize(w5.alloc (.cells #[.int .i64 0,.string ⟨#[]⟩,.string ⟨#[]⟩,.bool true] 29)).setCell ⟨b0,o0+3+1,none⟩ (.slice (some ⟨w5.heap.size,0,none⟩) 1 1)=w6 at l1 l3 km2 kq2 HB6 ⊢;obtain⟨m2,hm2⟩: ∃m2,m2=({ m1 with Rz:=m1.Rz.set 1 { m1.Rz[1] with Uz:=[allWrite]}} :Jl):=⟨_,rfl⟩;have HCP2:=Ja (show CP m.Rz.length m2 from hm2▸HCP1.out.put hr11);rw[←hm2] at l1
   clear hm2 HB5 hbn km kq x2 yx2 hv0 hz0 i1 j1 j2 j3 l2 l3;have hh:HBx w6 w1.heap.size m2 (.slice A0 n0 c0) (.slice A1 n1 c1) (.slice (some ⟨b0,o0,none⟩) m.Rz.length c2):=⟨km2,_,l1⟩;obtain⟨fk,hkk⟩:=hh.keys;obtain⟨rfl,hkc,hkm, -⟩:=id hkk;unfold maxLen at hkm;obtain⟨bk,ok,rfl, -, -,u0⟩:=Xg hkk HCP2.out.keys;simp only[Nat.add_zero] at u0;obtain⟨x0, -,x2⟩:=hh.cells;obtain⟨fr,hr⟩:=hh.Rz
   have hr20:0<m2.Rz.length:=by rw[HCP2.out.len];omega
   have hr21:1<m2.Rz.length:=by rw[HCP2.out.len];omega
   obtain⟨_,_,D1,l1',d1,f1,D2,l2',d2,f2,he, -, -, -, -,p2, -,s2, -⟩:=J7 hr hr20;cases he;obtain⟨_,_,E1,k1',e1,g1,E2,k2',e2,g2,he, -, -, -, -,t2, -,u2, -⟩:=J7 hr hr21;cases he;obtain rfl:=s2.1;obtain rfl:=u2.1;obtain⟨-,hrc2,hrm2, -⟩:=id s2;obtain⟨-,hrc3,hrm3, -⟩:=id u2;unfold maxLen at hrm2 hrm3;simp only[Nat.zero_mul,Nat.add_zero,Nat.one_mul] at p2 t2
   have ha0:=HCP2.out.Fz 0 hr20 (by decide);have ha1:=HCP2.out.Fz 1 hr21 (by decide);obtain⟨bR,oR,_,_,_,_,rfl, -, -,v0, -, -, -, -, -⟩:=J3 s2 ha0;obtain⟨bS,oS,_,_,_,_,rfl, -, -,y0, -,y2, -, -, -⟩:=J3 u2 ha1;simp only[Nat.zero_mul,Nat.add_zero] at v0 y0 y2;have HN0:=Ja ((HCP2.out.fit 0 hr20).Fz 0 ha0).name;have HN1:=Ja ((HCP2.out.fit 1 hr21).Fz 0 ha1).name
   have i0:(0:Int)<(m.Rz.length:Int):=by omega
   have i1:(1:Int)<(m.Rz.length:Int):=by omega
   have i2:(0:Int)<(m2.keys.length:Int):=by have:=HCP2.out.keys;omega
   have i3:(0:Int)<(m2.Rz[0].Fz.length:Int):=by omega
   have i4:(0:Int)<(m2.Rz[1].Fz.length:Int):=by omega
   have z:=Jb kq2;have p0_:=kq2.cell 0;have p1_:=kq2.cell 1;have p2_:=kq2.cell 2;have p3_:=kq2.cell 3;have p4_:=kq2.cell 4;have p5_:=kq2.cell 5;have p6_:=kq2.cell 6;have p7_:=kq2.cell 7;have p8_:=kq2.cell 8;have p9_:=kq2.cell 9;have p10_:=kq2.cell 10;have p11_:=kq2.cell 11;have p12_:=kq2.cell 12;have p13_:=kq2.cell 13;have p14_:=kq2.cell 14
   simp only[V5,List.getElem?_toArray,List.getElem?_cons_zero,List.getElem?_cons_succ] at p0_ p1_ p2_ p3_ p4_ p5_ p6_ p7_ p8_ p9_ p10_ p11_ p12_ p13_ p14_;have hnq: ∀x∈fp2,x≠w1.heap.size+1:=fun x hx=>by
    have hh1:=HW1.out;have hh4:=HS4.out;have hh5:=HS5.out;rcases l4 x hx with h|h
    ·rcases HJ4.out x h with h|h
     ·have:=HLT.out x h;omega
     ·have:=List.mem_singleton.1 h;omega
    ·have:=List.mem_singleton.1 h;omega
   have HREQ:=Ja (req_put (copyQ m2.keys[0] m2.Rz[1].Fz[0].name m2.Rz[1].Fz[0].count m2.Rz[0].Fz[0].name) km2 l1 hnq kq2 rfl);have HBW:=Ja (below_puts (vs:=(V5 (copyQ m2.keys[0] m2.Rz[1].Fz[0].name m2.Rz[1].Fz[0].count m2.Rz[0].Fz[0].name) (.slice none 0 0)).toList) (b:=w1.heap.size+1) (o:=0) HB6 (by omega)).drew
   clear km2 hkk l1 l4 hb0 hbl hg4 hnq kq2 HB6 hh hr s2 u2 hrc2 hrc3;have hnk:=HCP2.out.keys;have X0:({ w6 with drawn:=w6.drawn+1} :World).cell? _=_:=x0;have X2:({ w6 with drawn:=w6.drawn+1} :World).cell? _=_:=x2;have U0:({ w6 with drawn:=w6.drawn+1} :World).cell? _=_:=u0;have P2:({ w6 with drawn:=w6.drawn+1} :World).cell? _=_:=p2;have T2:({ w6 with drawn:=w6.drawn+1} :World).cell? _=_:=t2
   have V0:({ w6 with drawn:=w6.drawn+1} :World).cell? _=_:=v0;have Y0:({ w6 with drawn:=w6.drawn+1} :World).cell? _=_:=y0;have Y2:({ w6 with drawn:=w6.drawn+1} :World).cell? _=_:=y2;refine wp_region_still_tail 29 (by kernel_rfl) (by kernel_rfl) ?_;simp only[List.take_succ_cons,List.take_zero,List.drop_succ_cons,List.drop_zero]
   iterate 29 still_step
   refine wpStill_nil ?_;change wpList _ _ _ _ _ w6.drew;go_wp2_with fail;go_meet
   case rel=>exact⟨m2,_,none,0,HREQ.out.1,HREQ.out.2,HCP2.out.fit,⟨HN1.out,HN0.out,Nat.zero_le _,⟨Nat.zero_le _,Nat.zero_le _⟩,fun i hi=>absurd hi (Nat.not_lt_zero _)⟩,HCP2.out.len,HBW.out⟩
  case rest=>
   obtain⟨w6,hw6⟩: ∃w6,w6=wc:=⟨_,rfl⟩;subst hw6;clear hm hq hR4 HF4 HS4 HQ4 HC HB HLT HLO HW1 HOKD hf;obtain⟨m,q,A7,c7,hm,hq,hfm,hfq,hlen',HB⟩:=hcut;rw[←hlen'] at hm;have hf:=Ja (And.intro hfm hfq);clear hfm hfq hlen';obtain⟨x,a,ho⟩: ∃x a,jai m q=(x,a):=⟨_,_,rfl⟩;have HO:=Ja ho;clear ho;obtain⟨x0,x1,x2⟩:=hm.cells
   go_wp2_with((refine wpList_load_row rfl 31 (.tmp 4) rfl _ rfl _ _ _ _ hq.k.out Tryz.underlying31 rfl jb3 ?_));go_wp2_with fail;refine(implDo hm hq hf.out.1 hf.out.2).mono ?_;rintro e w7 hd;obtain⟨A4,na4,ca4,A5,na5,ca5,A6,ca6,B0,nb0,cb0,B1,nb1,cb1,rfl,hX,hA,hb3⟩:=hd.parts HO.out;replace hm:=hm.step hb3;replace hq:=hq.step hb3;replace HB:=Below.t HB hb3;clear hb3 hd x0 x1 x2
   go_upto_region 9 with fail
   refine wp_HA hX hA ?_;intro w8 hx ha hb3;replace hm:=hm.step hb3;replace hq:=hq.step hb3;replace HB:=Below.t HB hb3;clear hb3 hX hA;obtain⟨x0,x1,x2⟩:=hm.cells;go_wp2_with((refine wpList_load_row rfl 31 (.tmp 4) rfl _ rfl _ _ _ _ hq.k.out Tryz.underlying31 rfl jb3 ?_));go_wp2_with fail;refine(specDo hm hq hf.out.1 hf.out.2).mono ?_;rintro e w9 hd
   obtain⟨A7,na7,ca7,A8,na8,ca8,A9,ca9,B2,nb2,cb2,B3,nb3,cb3,rfl,hX,hA,hb3⟩:=hd.parts HO.out;replace hm:=hm.step hb3;replace hq:=hq.step hb3;replace HB:=Below.t HB hb3;replace hx:=hx.step hb3;replace ha:=ha.step hb3;clear hb3 hd x0 x1 x2;go_upto_region 10 with fail
   refine wp_HA hX hA ?_;intro w10 hy hb hb3;replace hm:=hm.step hb3;replace hq:=hq.step hb3;replace HB:=Below.t HB hb3;replace hx:=hx.step hb3;replace ha:=ha.step hb3;clear hb3 hX hA;obtain⟨x0,x1,x2⟩:=hx.cells;obtain⟨y0,y1,y2⟩:=hy.cells;go_wp2_with fail;refine(jqp hx hy).mono ?_;rintro e w11 ⟨rfl,hb3⟩;replace hm:=hm.step hb3;replace hq:=hq.step hb3;replace HB:=Below.t HB hb3
   replace hx:=hx.step hb3;replace ha:=ha.step hb3;replace hy:=hy.step hb3;replace hb:=hb.step hb3;clear hb3 x0 x1 x2 y0 y1 y2;obtain⟨x0,x1,x2,x3⟩:=ha.cells;obtain⟨y0,y1,y2,y3⟩:=hb.cells;go_wp2_with fail;refine(jp8 ha hb).mono ?_;rintro e w12 ⟨rfl,hb3⟩;replace hm:=hm.step hb3;replace hq:=hq.step hb3;replace HB:=Below.t HB hb3;replace hx:=hx.step hb3;replace ha:=ha.step hb3
   clear hb3 x0 x1 x2 x3 y0 y1 y2 y3 hy hb;obtain⟨a0, -, -, -⟩:=ha.cells;obtain⟨-, -, -,q3, -⟩:=hq.cells;cases e1:(a.code !=1);rotate_left
   ·skip;obtain⟨x0,x1,x2⟩:=hm.cells;have C1:=fun n:BelowW w12=>jhy n.val (hm.step n.property).r.choose_spec hf.out.1;have C2:=fun n:BelowW w12=>jhe n.val (hm.step n.property).r.choose_spec hf.out.1;have C3:=fun n:BelowW w12=>chOk_any n.val;go_upto_region 13 with fail
    cases hmo:Ys m
    all_goals
     simp only[hmo] at C1 C2;have D1:=Ja C1;have D2:=Ja C2;have D3:=Ja C3;clear C1 C2 C3 hmo;have n0:=BelowW.nonempty w12;have ex0:=BelowW.ex (w:=w12);have g0:=bwc x0;have g1:=bwc x1;have g2:=bwc x2;clear x0 x1 x2;refine Jf (by kernel_rfl) (by kernel_rfl) ?_
     repeat(go_big_quiet_step(first|(go_at_call 19;exact BelowW.calls _ (D1.out _))|(go_at_call 12;exact BelowW.calls _ (D2.out _))|(go_at_call 14;exact BelowW.calls _ (D3.out _))))
     refine wpQuiet_nil ?_;rintro w9 ⟨m9,hw9⟩;have hb9:=m9.property;rw[←hw9] at hb9;clear hw9 m9;go_wp2;go_ret;exact⟨rfl,Below.t HB hb9⟩
   cases e2:(q.kind !=10);rotate_left
   ·skip;obtain⟨x0,x1,x2⟩:=hm.cells;have C1:=fun n:BelowW w12=>jhy n.val (hm.step n.property).r.choose_spec hf.out.1;have C2:=fun n:BelowW w12=>jhe n.val (hm.step n.property).r.choose_spec hf.out.1;have C3:=fun n:BelowW w12=>chOk_any n.val;go_upto_region 13 with fail
    cases hmo:Ys m
    all_goals
     simp only[hmo] at C1 C2;have D1:=Ja C1;have D2:=Ja C2;have D3:=Ja C3;clear C1 C2 C3 hmo;have n0:=BelowW.nonempty w12;have ex0:=BelowW.ex (w:=w12);have g0:=bwc x0;have g1:=bwc x1;have g2:=bwc x2;clear x0 x1 x2;refine Jf (by kernel_rfl) (by kernel_rfl) ?_
     repeat(go_big_quiet_step(first|(go_at_call 19;exact BelowW.calls _ (D1.out _))|(go_at_call 12;exact BelowW.calls _ (D2.out _))|(go_at_call 14;exact BelowW.calls _ (D3.out _))))
     refine wpQuiet_nil ?_;rintro w9 ⟨m9,hw9⟩;have hb9:=m9.property;rw[←hw9] at hb9;clear hw9 m9;go_wp2;go_ret;exact⟨rfl,Below.t HB hb9⟩
   have HOK:=Ja (show Ys m=true∧Yw q=true from Classical.byContradiction fun h=>by have:=code_zero h HO.out;rw[this] at e1;simp at e1);have HD:=Ja (show Zn m q=(x,a) by rw[←HO.out,jhr HOK.out]);have HXO:=Ja (show Ys x=true by have h:=jh2 HOK.out.1 HOK.out.2;rw[HD.out] at h;exact h)
   obtain⟨l,hl0,hl1,hl2,hl3⟩:=copied HOK.out.1 HOK.out.2 (by simpa using e2) (by rw[HD.out];simpa using e1);rw[HD.out] at hl1 hl2;have HT:=Ja hl0;have H1:=Ja hl1;have H2:=Ja hl2
   have H3:=Ja (fun(q':Req) (h1:Yw q'=true) (h2:q'.kind=1) (h3:q'.repo=q.repo) (h4:q'.ref=q.ref) (h5: ¬(q.frm=q.repo∧q.other=q.ref)) (h6:(Zn x q').2.code=1)=>(show jqz (Zn x q').1 q.frm q.other 0=some l by have h:=hl3 q' h1 h2 h3 h4 h5;rw[HD.out] at h;exact h h6));have HFX:=Ja (Jv HXO.out);obtain⟨-, -,⟨ho0,ho1⟩, -⟩:=jmn HOK.out.2;clear hl0 hl1 hl2 hl3
   go_upto_region 14 with fail
   clear a0 q3 e1 e2;obtain⟨x0,x1,x2⟩:=hx.cells;obtain⟨-, -,q2, -,q4, -⟩:=hq.cells;go_wp2_with fail;refine(implFiles_some hx HFX.out _ _ _ (by decide) H1.out).mono ?_;rintro e w13 ⟨B5,d5,g5,rfl,s5,hb3⟩;replace hm:=hm.step hb3;replace hq:=hq.step hb3;replace HB:=Below.t HB hb3;replace hx:=hx.step hb3;replace ha:=ha.step hb3;clear hb3 x0 x1 x2 q2 q4;obtain⟨x0,x1,x2⟩:=hx.cells
   obtain⟨-, -, -, -, -, -, -, -, -, -, -, -, -,q13,q14⟩:=hq.cells;go_wp2_with fail;refine(implFiles_some hx HFX.out _ _ _ (by decide) H2.out).mono ?_;rintro e w14 ⟨B6,d6,g6,rfl,s6,hb3⟩;replace hm:=hm.step hb3;replace hq:=hq.step hb3;replace HB:=Below.t HB hb3;replace hx:=hx.step hb3;replace ha:=ha.step hb3;replace s5:=s5.step hb3;clear hb3 x0 x1 x2 q13 q14
   obtain⟨q0,q1,q2, -,q4, -,q6, -⟩:=hq.cells;go_upto_region 17 with fail
   clear q0 q1 q2 q4 q6;refine wp_put (q:=q) ?_;intro w15 hr hb3;replace hm:=hm.step hb3;replace hq:=hq.step hb3;replace HB:=Below.t HB hb3;replace hx:=hx.step hb3;replace ha:=ha.step hb3;replace s5:=s5.step hb3;replace s6:=s6.step hb3;clear hb3;obtain⟨y,b,ho⟩: ∃y b,jai x (putNew q)=(y,b):=⟨_,_,rfl⟩;have HO2:=Ja ho;have HF2:=Ja (And.intro HFX.out (putNew_fit hf.out.2))
   have HP:=Ja (show(putNew q).kind=1∧(putNew q).repo=q.repo∧(putNew q).ref=q.ref from⟨rfl,rfl,rfl⟩);have HEL:=Ja (show(putNew q).Ez.length=1 from rfl);clear ho ho0 ho1;generalize putNew q=r2 at hr HO2 HF2 HP HEL;obtain⟨x0,x1,x2⟩:=hx.cells;go_wp2_with((refine wpList_load_row rfl 31 (.tmp 13) rfl _ rfl _ _ _ _ hr.k.out Tryz.underlying31 rfl jb3 ?_));go_wp2_with fail
   refine(implDo hx hr HF2.out.1 HF2.out.2).mono ?_;rintro e w16 hd;obtain⟨D4,nd4,cd4,D5,nd5,cd5,D6,cd6,E0,ne0,ce0,E1,ne1,ce1,rfl,hX,hA,hb3⟩:=hd.parts HO2.out;replace hm:=hm.step hb3;replace hq:=hq.step hb3;replace HB:=Below.t HB hb3;replace hx:=hx.step hb3;replace ha:=ha.step hb3;replace s5:=s5.step hb3;replace s6:=s6.step hb3;replace hr:=hr.step hb3;clear hb3 hd x0 x1 x2
   go_upto_region 18 with fail
   refine wp_HA hX hA ?_;intro w17 hy hb hb3;replace hm:=hm.step hb3;replace hq:=hq.step hb3;replace HB:=Below.t HB hb3;replace hx:=hx.step hb3;replace ha:=ha.step hb3;replace s5:=s5.step hb3;replace s6:=s6.step hb3;replace hr:=hr.step hb3;clear hb3 hX hA;have HFY:=Ja (show V9 y from by
    by_cases hok2:Ys x=true∧Yw r2=true
    ·have h:=jh2 hok2.1 hok2.2;rw[←jhr hok2,HO2.out] at h;exact Jv h
    ·have h:=HO2.out;rw[jdn hok2] at h;cases h;exact fun i hi=>absurd hi (Nat.not_lt_zero _))
   obtain⟨l3,hl3⟩: ∃l3,(jqz y q.frm q.other 0).getD []=l3:=⟨_,rfl⟩;obtain⟨b3,hb3'⟩: ∃b3,(jqz y q.frm q.other 0).isSome=b3:=⟨_,rfl⟩;have HL3:=Ja hl3;have HB3:=Ja hb3';clear hl3 hb3';obtain⟨x0,x1,x2⟩:=hy.cells;obtain⟨-, -, -, -, -, -, -, -, -, -, -, -, -,q13,q14⟩:=hq.cells;go_wp2_with fail;refine(implMdlFiles_any q.frm q.other 0 (by decide) _ hy.r.choose_spec HFY.out).mono ?_
   intro e w18 hd;obtain⟨B7,d7,g7,rfl,s7,hb3⟩:=files_own hd HL3.out HB3.out;replace hm:=hm.step hb3;replace hq:=hq.step hb3;replace HB:=Below.t HB hb3;replace hx:=hx.step hb3;replace ha:=ha.step hb3;replace s5:=s5.step hb3;replace s6:=s6.step hb3;replace hr:=hr.step hb3;replace hy:=hy.step hb3;replace hb:=hb.step hb3;clear hb3 x0 x1 x2 q13 q14 hd
   have HSM:=Ja (show ¬(q.frm=q.repo∧q.other=q.ref)→b.code=1→l3=l from fun h5 h6=>by
    have hok2:Ys x=true∧Yw r2=true:=Classical.byContradiction fun h=>by have:=code_zero h HO2.out;omega
    have hd2:Zn x r2=(y,b):=by rw[←HO2.out,jhr hok2]
    have h:=H3.out r2 hok2.2 HP.out.1 HP.out.2.1 HP.out.2.2 h5 (by rw[hd2];exact h6);rw[hd2] at h;rw[←HL3.out,h];rfl)
   obtain⟨-, -,q2, -,q4, -, -, -, -, -, -, -, -,q13,q14⟩:=hq.cells;go_upto_region 19 with fail
   go_cut [18] from 184 to 195 (fun v wx=>v= .bool (decide (q.frm=q.repo∧q.other=q.ref))∧Below w18.heap.size w18 wx)
   case first=>
    have hq5:=Jr q.other q.ref;by_cases hf5:q.frm=q.repo
    ·by_cases hs5:q.other=q.ref
     ·rw[decide_eq_true hs5] at hq5;have hf6:(q.frm==q.repo)=true:=by simpa using hf5
      have HC5:=Ja (And.intro hf5 hs5);clear hf5 hs5;go_wp2_with fail;go_meet
      case rel=>exact⟨by rw[decide_eq_true HC5.out],Below.refl _ _⟩
     ·rw[decide_eq_false hs5] at hq5;have hf6:(q.frm==q.repo)=true:=by simpa using hf5
      have HC5:=Ja hs5;clear hf5 hs5;go_wp2_with fail;go_meet
      case rel=>exact⟨by rw[decide_eq_false (fun h=>HC5.out h.2)],Below.refl _ _⟩
    ·have hf6:(q.frm==q.repo)=false:=by simpa using hf5
     have HC5:=Ja hf5;clear hf5;go_wp2_with fail;go_meet
     case rel=>exact⟨by rw[decide_eq_false (fun h=>HC5.out h.1)],Below.refl _ _⟩
   case rest=>
    obtain⟨w40,hw40⟩: ∃w40,w40=wc:=⟨_,rfl⟩;subst hw40;obtain⟨rfl,hb3⟩:=hcut;clear q2 q4 q13 q14;replace HB:=Below.t HB hb3;replace s5:=s5.step hb3;replace s6:=s6.step hb3;replace s7:=s7.step hb3;replace hb:=hb.step hb3;clear hb3 hy hr hx hq hm ha;go_wp2_with fail;refine(implTreDiffers_self _ s5 s6 HT.out).mono ?_;rintro e w41 ⟨A9,c9,rfl,hb3⟩;replace HB:=Below.t HB hb3;replace s6:=s6.step hb3
    replace s7:=s7.step hb3;replace hb:=hb.step hb3;clear hb3 s5;obtain⟨b0, -⟩:=hb.cells;cases e1:(b.code !=1);rotate_left
    ·clear hb s6 s7;go_wp2;go_ret;exact⟨rfl,HB⟩
    have HB1:=Ja (show b.code=1 by simpa using e1);by_cases hsame:q.frm=q.repo∧q.other=q.ref
    ·rw[decide_eq_true hsame];clear hb s6 s7 hsame;go_wp2;go_ret;exact⟨rfl,HB⟩
    ·rw[decide_eq_false hsame];obtain rfl:=HSM.out hsame HB1.out;clear hb hsame;go_wp2_with fail;refine(chFiles_same s6 s7).mono ?_;rintro e w42 ⟨rfl,hb3⟩;go_wp2;go_ret;exact⟨rfl,Below.t HB hb3⟩
def Opens {α H:Type} (enc:TypeId×Value→H) (P:Program) (t:TypeId) (r:Rp α) (ok:α→Prop):Prop:=
 ∀ {w:World} {base:Nat} {spare:Nat→Bool} {held:Bool} {fuel:Nat} {cs:List Value} {x:DataW H×List MemPlace},DataW.trod enc P w base spare held fuel t cs=some x→∃y fp,r.R w cs y fp∧ok y
section
variable {H:Type} {enc:TypeId×Value→H} {P:Program}
theorem opens_byte {t:TypeId} (ht:P.underlying t=some (.int .u8)):Opens enc P t Rp.byte (fun _=>True):=fun h=>by
 obtain⟨n,rfl,_,hw⟩:=DataW.trod_int ht h;simp[Lit.wf,IntKind.min,IntKind.max,IntKind.signed,IntKind.bits] at hw;refine⟨UInt8.ofNat n.toNat,[],⟨?_,rfl⟩,trivial⟩;have e:((UInt8.ofNat n.toNat).toNat:Int)=n:=by
  rw[UInt8.toNat_ofNat'];omega
 show [Value.int .u8 n]= [Value.int .u8 ((UInt8.ofNat n.toNat).toNat:Int)];rw[e]
theorem spot_none {w:World} {a:Addr} {v:Value} (h:w.cell? a=some v):a.spot=none:=by
 unfold World.cell? at h;split at h
 ·split at h
  ·cases h
  ·rename_i hs;simpa using hs
 ·cases h
theorem opens_rows {α:Type} {r:Rp α} {ok:α→Prop} {w:World} {base:Nat} {a:Addr} : ∀(len:Nat),(∀i,i<len→∃cs' y f,w.cells? base (a.add (i*r.k)) r.k=some cs'∧r.R w cs' y f∧ok y)→
  ∃xs l fp,l.length=len∧AllR r w xs l fp∧(∀y∈l,ok y)∧∀j u,xs[j]? =some u→w.cell? (a.add j)=some u
 | 0,_=>⟨[],[],[],rfl,⟨rfl,rfl⟩,by simp,by simp⟩
 |len+1,h=>by
  obtain⟨xs,l,fp,hl,ha,hok,hc⟩:=opens_rows len (fun i hi=>h i (by omega));obtain⟨cs',y,f,hcs,hr,hy⟩:=h len (by omega);obtain⟨_,hcl,hat⟩:=World.cells?_some hcs;have hxl:=ha.len;refine⟨xs++cs',l++ [y],fp++f,by simp[hl],ha.snoc hr,fun z hz=> ?_,fun j u hu=> ?_⟩
  ·rcases List.mem_append.1 hz with hz|hz
   ·exact hok z hz
   ·simp at hz;subst hz;exact hy
  ·by_cases hj:j<xs.length
   ·rw[List.getElem?_append_left hj] at hu;exact hc j u hu
   ·rw[List.getElem?_append_right (by omega)] at hu;have hlt:=(List.getElem?_eq_some_iff.1 hu).1;have:=hat (i:=j - xs.length) (by omega);rw[hu] at this;rw[Go.Deep.add_add,show len*r.k+(j - xs.length)=j from by rw[hl] at hxl;omega] at this;exact this
theorem opens_slice {α:Type} {r:Rp α} {ok:α→Prop} {t e:TypeId} (ht:P.underlying t=some (.slice e)) (hC:P.cellsOf e=r.k) (hk:0<r.k) (h:Opens enc P e r ok):Opens enc P t (Rp.slice r) (fun l=>∀y∈l,ok y):=fun {w base spare held fuel cs x} hr=>by
 rcases open_slice ht hr with ⟨rfl,_⟩|⟨a,len,cap,m,n,D,Pl,rfl,hb,hl,hm,hmm,_,hi⟩
 ·exact⟨[],[],⟨none,0,0,rfl,SlR.nil⟩,by simp⟩
 ·have hle:len≤m:=by rw[hmm];split<;>omega
  rw[hC] at hi;obtain⟨xs,l,fp,hlen,ha,hok,hc⟩:=opens_rows (r:=r) (ok:=ok) (w:=w) (base:=base) (a:=a) len (fun i hii=>by
   obtain⟨cs',hcs,htr⟩:=hi i (by omega);obtain⟨y,f,hR,hy⟩:=h htr;exact⟨cs',y,f,hcs,hR,hy⟩)
  have hxl:=ha.len;by_cases h0:len=0
  ·subst h0;have:l= []:=List.eq_nil_of_length_eq_zero hlen;subst this;obtain⟨rfl,rfl⟩:=ha;exact⟨[],[],⟨some a,0,cap,rfl,rfl,Nat.zero_le _,hm,[],[],[],⟨by simp,.inl ⟨rfl,rfl⟩⟩,⟨rfl,rfl⟩,rfl⟩,by simp⟩
  ·have hpos:0<xs.length:=by rw[hxl,hlen];exact Nat.mul_pos (by omega) hk
   have h00:=hc 0 xs[0] (List.getElem?_eq_getElem hpos);have ha0:a.add 0=a:=by simp[Addr.add]
   rw[ha0] at h00;obtain⟨b,o,s⟩:=a;have hs:s=none:=spot_none h00;subst hs;refine⟨l,[b]++fp,⟨_,len,cap,rfl,hlen.symm,hl,hm,xs,[b],fp,⟨by rw[hxl,hlen],.inr ⟨by omega,b,o,rfl,rfl,World.block_lt_of_cell? w _ h00,fun j u hu=> ?_⟩⟩,ha,rfl⟩,hok⟩;have:=hc j u hu;rwa [Addr.add_lit] at this
theorem post_of_below {f:Func} {s:ChangeSpec} {apart fresh handsOn again:Bool} {W W':World} {args:Array Value} {v:Value} {ds gs:List (DataW H)} {before pa pv:List MemPlace}
  (hW:DataW.Whole enc P f.params.toList s.vars apart W args.toList ds gs before)
  (hres: ∀(b:Nat) (sp:Nat→Bool) (hd:Bool),DataW.TrodAll enc P W' b sp hd f.resultTypes.toList (v.resultList f.resultTypes.size) (s.fn H (ds++gs)).results [])
  (hargs: ∀sp:Nat→Bool,(∀p∈before,sp p.block=true)→DataW.TrodAll enc P W' 0 sp true f.params.toList args.toList (s.fn H (ds++gs)).args pa)
  (hvars: ∀sp:Nat→Bool,(∀p∈before,sp p.block=true)→DataW.TrodVars enc P W' sp s.vars (s.fn H (ds++gs)).vars pv)
  (hps:before=pa++pv) (hb:Below W.heap.size W W')
  (hok: ∀(j:Nat) (t:TypeId) (r:Value),f.resultTypes[j]? =some t→(v.resultList f.resultTypes.size)[j]? =some r→Value.okWide P W' .any 0 t r):
  s.post enc P f apart fresh handsOn again W args v W':=by
 have hlt: ∀p∈before,p.block<W.heap.size:=fun p hp=>hW.lt p hp;have hold: ∀p∈before,(fun b=>decide (b<W.heap.size)) p.block=true:=fun p hp=>by simpa using hlt p hp
 refine⟨ds,gs,before,[],pa,pv,hW,hres _ _ _,hargs _ hold,hvars _ hold,World.keptBut_mono (fun p hp=>⟨hp, ?_⟩) (hb.frame (·∈before)),fun _=> ?_⟩
 ·rw[hps,List.mem_append] at hp;exact Or.inr hp
 ·obtain⟨_,_,_,_,_,hz,hn⟩:=hW;refine⟨hok,_,_,([]++pa)++pv,⟨[]++pa,pv,trodAll_append (hargs _ (fun _ _=>rfl)) (hres _ _ _),hvars _ (fun _ _=>rfl),rfl, ?_, ?_⟩, ?_⟩
  ·intro b off hp;have hin:MemPlace.cell b off∈before:=by rw[hps];simpa using hp
   rw[hb.frozen (hlt _ hin)];exact hz b off hin
  ·intro ha;have:=hn ha;rw[hps] at this;simpa using this
  ·intro p hp _;rw[hps];simpa using hp
end
theorem fnMdlCopy_own:ownKnob Tryz.prog.godebug=none:=by kernel_rfl
theorem fnMdlCopy_laidOut:laidOutB Tryz.prog=true:=by kernel_rfl
theorem fnMdlCopy_contract (H:Type) (enc:TypeId×Value→H) (W:World) (base:Nat) (args:Array Value) (ds gs:List (DataW H)) (before:List MemPlace)
  (hval0: ∀(j:Nat) t v,Tryz.f4.params[j]? =some t→args[j]? =some v→Value.okWide Tryz.prog W .any base t v)
  (hW:DataW.Whole enc Tryz.prog Tryz.f4.params.toList Rows.fnMdlCopySpec.vars false W args.toList ds gs before):
  Calls Tryz.prog 4 args W fun e W'=>∃v,e= .returned v∧Rows.fnMdlCopySpec.post enc Tryz.prog Tryz.f4 false true false false W args v W':=by
 have hval:=hval0;have hW':=hW;obtain⟨p,q,hA0,hV,rfl,hfz,hnd⟩:=hW;have hA:DataW.TrodAll enc Tryz.prog W 0 (fun _=>true) true Tryz.f4.params.toList args.toList ds p:=hA0;rw[Tryz.params4] at hA hval;obtain⟨v0,d0,rfl,rfl,h0⟩:=trodAll_one hA;obtain⟨rfl,rfl⟩:=trodVars_none hV;have h0k:=h0;obtain⟨a0,len0,cap0,rfl⟩:=okWide_slice Tryz.underlying22 (hval 0 22 v0 rfl rfl);obtain⟨fuel0,hf0⟩:=h0
 obtain⟨l0,fp0,⟨A0,n0,c0,hcs0,hs0⟩,hw0⟩:=opens_slice Tryz.underlying22 (by kernel_rfl) (by decide) (opens_byte Tryz.underlying5) hf0;have hc0:Value.slice a0 len0 cap0= .slice A0 n0 c0:=by simpa [Value.cells] using hcs0
 rw[hc0] at h0k hW' ⊢;clear hf0 hcs0 hc0;clear hA0 hval hval0;simp only[List.append_nil] at hW';refine(lawCopy W hs0).mono fun e W' ⟨he,hb⟩=> ?_;subst he;have hlt0: ∀y∈p,y.block<W.heap.size:=fun y hy=>hW'.lt y (by simp[hy])
 refine⟨_,rfl,post_of_below (pa:=p) (pv:=[]) hW' (fun _ _ _=>trodAll_mk1 (shut_bool Tryz.underlying4 _)) (fun sp hsp=> ?_) (fun _ _=>rfl) (by simp) hb (ok_one (by kernel_rfl) rfl (okWide_bool_mk Tryz.underlying4 _))⟩;exact trodAll_mk1 (WideElems.Trod_stays fnMdlCopy_laidOut (by kernel_rfl) (of_decide_eq_true (by kernel_rfl)) h0k (fun y hy=>hb.same (hlt0 y hy)) (fun y hy=>hsp y (by simp[hy])))
mutual
def fnMdlCopy_flat:DataW Unit→List Value
 | .lit l=>[l.value]
 | .agg ps=>fnMdlCopy_flats ps
 |_=>[]
def fnMdlCopy_flats:List (DataW Unit)→List Value
 | []=>[]
 |d::r=>fnMdlCopy_flat d++fnMdlCopy_flats r
end
noncomputable def fnMdlCopy_world (os:Os):World:=
 { World.holding Tryz.prog os ⟨#[],#[],[]⟩ with heap:=(((World.holding Tryz.prog os ⟨#[],#[],[]⟩).heap.modify 2 fun
   | .cells _ t frozen=> .cells (fnMdlCopy_flat Rows.laid_unicode_utf8_acceptRanges).toArray t frozen
   |o=>o).modify 1 fun
   | .cells _ t frozen=> .cells (fnMdlCopy_flat Rows.laid_unicode_utf8_first).toArray t frozen
   |o=>o)}
set_option maxRecDepth 100000 in
theorem fnMdlCopy_met (os:Os):laidMet Tryz.prog Rows.fnMdlCopyRow.laid ((fnMdlCopy_world os).forCall (fun _ _=>0) ⟨#[],#[.slice none 0 0],[]⟩).memory:=
 laidMet_of_run' 8 (by kernel_rfl) (by kernel_rfl)
theorem fnMdlCopy_reads (os:Os) {H:Type} (enc:TypeId×Value→H): ∃x,DataW.whole enc Tryz.prog ((fnMdlCopy_world os).forCall (fun _ _=>0) ⟨#[],#[.slice none 0 0],[]⟩).memory Tryz.f4.params.toList Rows.fnMdlCopySpec.vars false (#[.slice none 0 0]:Array Value).toList 8=some x:=
 Option.isSome_iff_exists.1 (show(DataW.whole enc Tryz.prog ((fnMdlCopy_world os).forCall (fun _ _=>0) ⟨#[],#[.slice none 0 0],[]⟩).memory Tryz.f4.params.toList Rows.fnMdlCopySpec.vars false (#[.slice none 0 0]:Array Value).toList 8).isSome=true by kernel_rfl)
theorem fnMdlCopy_lifted (os:Os) (started:os.Started) (H:Type) (enc:TypeId×Value→H) (F:Stop.Interp):
  ReturnsInHanded {} Tryz.checked os 4 .any ((OpenSpec.ofChange Rows.fnMdlCopySpec).preRow enc Tryz.prog Tryz.f4 Rows.fnMdlCopyRow.domain false Rows.fnMdlCopyRow.laid) (((OpenSpec.ofChange Rows.fnMdlCopySpec).at F).post enc Tryz.prog Tryz.f4 false true false false):=by
 obtain⟨x0,hx⟩:=fnMdlCopy_reads os enc;refine returnsInHanded_of_row (C:=Tryz.checked) (s:=OpenSpec.ofChange Rows.fnMdlCopySpec) fnMdlCopy_own started (by kernel_rfl) Tryz.func4
  (witness_row_at (enc:=enc) (C:=Tryz.checked) false (fnMdlCopy_world os) #[.slice none 0 0] rfl (by kernel_rfl) (by kernel_rfl) (by kernel_rfl)
   (OpenSpec.preRow_of_cond 8 hx (by kernel_rfl) (fun k hk=>by cases hk) (by kernel_rfl) (fnMdlCopy_met os))) ?_
 intro W base args ds gs before hval hW _ _ _ _ _ _;exact fnMdlCopy_contract H enc W base args ds gs before hval hW
theorem fnMdlCopy_closed:joinedFacts Tryz.pinned.checked.prog 4 Tryz.f4 (OpenSpec.ofChange Rows.fnMdlCopySpec).bare Rows.fnMdlCopyRow=true:=by
 unfold joinedFacts;simp only[Bool.and_eq_true]
 repeat' apply And.intro
 all_goals(as_aux_lemma=>kernel_rfl)
theorem fnMdlCopy_said:Rows.FnMdlCopySaid:=
 OpenClaim.holds_of_cond 4 Tryz.f4 rfl rfl rfl rfl rfl rfl rfl ⟨rfl,rfl,rfl,rfl,rfl⟩ rfl rfl rfl rfl rfl (by kernel_rfl) Tryz.func4 fnMdlCopy_closed
  (of_decide_eq_true (by kernel_rfl)) (by unfold Func.isWrapper;first|(rw[if_pos (by decide+kernel)];kernel_rfl)|(rw[if_neg (by decide+kernel)];exact⟨rfl,rfl⟩))
  (fun os started H enc _ F=>by rw[OpenClaim.pre_eq_preRow];exact fnMdlCopy_lifted os started H enc F)
theorem fnMdlCopy_plain (f:FuncId) (fn:Func) (hf:Tryz.pinned.checked.prog.funcNamed "loop.example/chartulary/laws.FnMdlCopy" =some f) (hfn:Tryz.pinned.checked.prog.funcs[f]? =some fn):
  false=Tryz.pinned.checked.prog.looks []∧∀(j:Nat) t,fn.params[j]? =some t→Tryz.pinned.checked.prog.wantsStandIn t=false:=by
 obtain rfl:f=4:=Option.some.inj ((show Tryz.prog.funcNamed "loop.example/chartulary/laws.FnMdlCopy" =some 4 by kernel_rfl).symm.trans hf) |>.symm;obtain rfl:fn=Tryz.f4:=(Option.some.inj (Tryz.func4.symm.trans hfn)).symm;refine⟨by kernel_rfl,fun j t ht=> ?_⟩;rw[Tryz.params4] at ht;have hm:=Array.mem_of_getElem? ht;simp only[List.mem_toArray,List.mem_cons,List.not_mem_nil,or_false] at hm
 rcases hm with rfl
 ·exact(show Tryz.prog.wantsStandIn 22=false by kernel_rfl)
theorem fnMdlCopy_holds:Rows.FnMdlCopyCardSaid:=
 Claim7.holds_tied_plain_at .later [] _ _ _ _ fnMdlCopy_said (fun _ h=>by cases h) (by kernel_rfl) (fun _ h=>by cases h) fnMdlCopy_row_tie rfl ⟨rfl,rfl⟩ (by kernel_rfl) rfl fnMdlCopy_plain (by kernel_rfl)
#print axioms fnMdlCopy_holds
end Go.Proofs.YtobbdhgkcoeifaaGreatDoor
